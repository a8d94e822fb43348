/-
  Printed by wip/tools/mkparts.py from what wip/tools/ck.py found: lag.Late in parts.
-/
import Derived.Test.YtkfifbopmpcanaaGreatLj
set_option maxRecDepth 1000000
set_option maxHeartbeats 0
namespace Go.Proofs.YtkfifbopmpcanaaGreat
theorem z2z:zlg EE Tryz.prog 100000 (zat 2 (zad 347)) ztf (zbl ztg 6090 6000) 6000 7496 [(4,iN 2),(5,iN 0)]=true:=by decide +kernel
end Go.Proofs.YtkfifbopmpcanaaGreat
