/-
  Printed by wip/tools/mkparts2.py from what wip/tools/ck2.py found: quinellalaw05.Works in parts.
-/
import Derived.Test.YtkfifbopmpcanaaGreatLj
set_option maxRecDepth 1000000
set_option maxHeartbeats 0
namespace Go.Proofs.YtkfifbopmpcanaaGreat
theorem zub:zbw EE Tryz.prog 100000 13 (zad 185) [.c []] (⟨.leaf,zbe 185⟩:Tm) st0 zjl zjm zjn 652 0=true:=by decide +kernel
end Go.Proofs.YtkfifbopmpcanaaGreat
