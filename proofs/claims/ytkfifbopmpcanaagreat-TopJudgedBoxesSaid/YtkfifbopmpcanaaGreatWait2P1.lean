/-
  Printed by wip/tools/mkparts.py from what wip/tools/ck.py found: lag.Wait in parts.
-/
import Derived.Test.YtkfifbopmpcanaaGreatLj
set_option maxRecDepth 1000000
set_option maxHeartbeats 0
namespace Go.Proofs.YtkfifbopmpcanaaGreat
theorem z2x:zlg EE Tryz.prog 100000 (zat 2 (zad 346)) ztd (zbl zte 4469 4000) 4000 5695 [(4,iN 4),(5,iN 0)]=true:=by decide +kernel
end Go.Proofs.YtkfifbopmpcanaaGreat
