/-
  Printed by wip/tools/mkparts.py from what wip/tools/ck.py found: quinellalaw01.Works in parts.
-/
import Derived.Test.YtdcnbeehckgpcaaGreatLj
set_option maxRecDepth 1000000
set_option maxHeartbeats 0
namespace Go.Proofs.YtdcnbeehckgpcaaGreat
theorem z2j:zg4 EE Tryz.prog 100000 7 (zbr 0 (zax 205)) (⟨.leaf,zcs 205⟩:Tm) st0 zoe zof 561=true:=by decide +kernel
theorem z2k:zg4 EE Tryz.prog 100000 1 (zbr 8 (zax 205)) zog (zna zoh 2628) zoi zoj 2750=true:=by decide +kernel
theorem z2l:zg4 EE Tryz.prog 100000 3 (zbr 10 (zax 205)) zok (zna zol 5281) zom zon 6346=true:=by decide +kernel
theorem z2m:zg4 EE Tryz.prog 100000 1 (zbr 14 (zax 205)) zoo (zna zop 8459) zoq zor 8748=true:=by decide +kernel
end Go.Proofs.YtdcnbeehckgpcaaGreat
