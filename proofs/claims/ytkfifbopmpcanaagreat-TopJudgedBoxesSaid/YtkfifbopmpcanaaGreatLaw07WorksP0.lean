/-
  Printed by wip/tools/mkparts2.py from what wip/tools/ck2.py found: quinellalaw07.Works in parts.
-/
import Derived.Test.YtkfifbopmpcanaaGreatLj
set_option maxRecDepth 1000000
set_option maxHeartbeats 0
namespace Go.Proofs.YtkfifbopmpcanaaGreat
theorem zum:zbw EE Tryz.prog 100000 27 (zad 77) [.c []] (⟨.leaf,zbe 77⟩:Tm) st0 zki zkj zkk 1192 0=true:=by decide +kernel
end Go.Proofs.YtkfifbopmpcanaaGreat
