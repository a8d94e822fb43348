/-
  Printed by wip/tools/mkparts.py from what wip/tools/ck.py found: lag.Wait in parts.
-/
import Derived.Test.YtkbaiobnibmmgaaGreatLj
set_option maxRecDepth 1000000
set_option maxHeartbeats 0
namespace Go.Proofs.YtkbaiobnibmmgaaGreat
theorem z3g:zl1 EE Tryz.prog 100000 (zay 2 (zae 340)) zt2 (zbv zt3 4469 4000) 4000 5695 [(4,iN 4),(5,iN 0)]=true:=by decide +kernel
end Go.Proofs.YtkbaiobnibmmgaaGreat
