/-
  Printed by wip/tools/mkparts.py from what wip/tools/ck.py found: lag.Late in parts.
-/
import Derived.Test.YtkbaiobnibmmgaaGreatLj
set_option maxRecDepth 1000000
set_option maxHeartbeats 0
namespace Go.Proofs.YtkbaiobnibmmgaaGreat
theorem z3i:zl1 EE Tryz.prog 100000 (zay 2 (zae 341)) zt4 (zbv zt5 6090 6000) 6000 7496 [(4,iN 2),(5,iN 0)]=true:=by decide +kernel
end Go.Proofs.YtkbaiobnibmmgaaGreat
