/-
  Printed by wip/tools/mkparts2.py from what wip/tools/ck2.py found: quinellalaw07.Works in parts.
-/
import Derived.Test.YtkfifbopmpcanaaGreatLj
set_option maxRecDepth 1000000
set_option maxHeartbeats 0
namespace Go.Proofs.YtkfifbopmpcanaaGreat
theorem zsi:zh1 EE Tryz.prog 100000 9 (zad 77) zkl zkm (zbl zkn 2511 0) (zcl 0)=true:=by decide +kernel
end Go.Proofs.YtkfifbopmpcanaaGreat
