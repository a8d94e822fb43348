/-
  Printed by wip/tools/mkparts.py from what wip/tools/ck.py found: quinellalaw01.Works in parts.
-/
import Derived.Test.YtkfifbopmpcanaaGreatLj
set_option maxRecDepth 1000000
set_option maxHeartbeats 0
namespace Go.Proofs.YtkfifbopmpcanaaGreat
theorem zt5:zdu EE Tryz.prog 100000 1 (zat 7 (zad 258)) zi3 (ckSt zi4 561) zi5 zi6 2628=true:=by decide +kernel
end Go.Proofs.YtkfifbopmpcanaaGreat
