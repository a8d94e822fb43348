/-
  Printed by wip/tools/mkparts2.py from what wip/tools/ck2.py found: quinellalaw02.Works in parts.
-/
import Derived.Test.YtkfifbopmpcanaaGreatLx
set_option maxRecDepth 1000000
set_option maxHeartbeats 0
namespace Go.Proofs.YtkfifbopmpcanaaGreat
theorem zsc:zh1 EW Tryz.prog 100000 40 (zad 259) [.c []] (⟨.leaf,zbe 259⟩:Tm) st0 (zcl 0)=true:=by decide +kernel
end Go.Proofs.YtkfifbopmpcanaaGreat
