/-
  Printed by wip/tools/mkparts2.py from what wip/tools/ck2.py found: quinellalaw06.Works in parts.
-/
import Derived.Test.YtdamgacabfbpjaaGreatLj
set_option maxRecDepth 1000000
set_option maxHeartbeats 0
namespace Go.Proofs.YtdamgacabfbpjaaGreat
theorem z0q:zdt EE Tryz.prog 100000 15 (zak 49) [.c []] (⟨.leaf,zcy 49⟩:Tm) st0 zok zol zom 1205 0=true:=by decide +kernel
theorem z0r:zdt EE Tryz.prog 100000 2 (zak 49) zoq zor (zc8 zos 4531 0) zot zou zov 5305 0=true:=by decide +kernel
theorem zye:zqd EE Tryz.prog 100000 4 (zak 49) zo2 zo3 (zc8 zo4 10142 0) (ze5 0)=true:=by decide +kernel
end Go.Proofs.YtdamgacabfbpjaaGreat
