/-
  Printed by wip/tools/mkparts2.py from what wip/tools/ck2.py found: quinellalaw05.Works in parts.
-/
import Derived.Test.YtdcnbeehckgpcaaGreatLx
set_option maxRecDepth 1000000
set_option maxHeartbeats 0
namespace Go.Proofs.YtdcnbeehckgpcaaGreat
theorem z2r:zdz EE Tryz.prog 100000 2 (zax 113) zo2 zo3 (zdh zo4 2553 0) zo5 zo6 zo7 3248 0=true:=by decide +kernel
theorem z0o:zmw EE Tryz.prog 100000 11 (zax 113) zo5 zo6 (zdh zo7 3248 0) (zez 0)=true:=by decide +kernel
theorem z0p:zmw EW Tryz.prog 100000 40 (zax 206) [.c []] (⟨.leaf,zcs 206⟩:Tm) st0 (zez 0)=true:=by decide +kernel
end Go.Proofs.YtdcnbeehckgpcaaGreat
