/-
  Printed by wip/tools/mkparts.py from what wip/tools/ck.py found: quinellalaw01.Works in parts.
-/
import Derived.Test.YtkfifbopmpcanaaGreatLj
set_option maxRecDepth 1000000
set_option maxHeartbeats 0
namespace Go.Proofs.YtkfifbopmpcanaaGreat
theorem zt7:zdu EE Tryz.prog 100000 1 (zat 13 (zad 258)) zjb (ckSt zjc 6346) zjd zje 8459=true:=by decide +kernel
end Go.Proofs.YtkfifbopmpcanaaGreat
