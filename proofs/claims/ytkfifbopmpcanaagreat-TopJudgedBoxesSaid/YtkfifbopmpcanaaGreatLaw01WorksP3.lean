/-
  Printed by wip/tools/mkparts.py from what wip/tools/ck.py found: quinellalaw01.Works in parts.
-/
import Derived.Test.YtkfifbopmpcanaaGreatLj
set_option maxRecDepth 1000000
set_option maxHeartbeats 0
namespace Go.Proofs.YtkfifbopmpcanaaGreat
theorem zt6:zdu EE Tryz.prog 100000 1 (zat 9 (zad 258)) zi7 (ckSt zi8 2750) zi9 zja 5281=true:=by decide +kernel
end Go.Proofs.YtkfifbopmpcanaaGreat
