/-
  Printed by wip/tools/mkparts2.py from what wip/tools/ck2.py found: quinellalaw07.Works in parts.
-/
import Derived.Test.YtkbaiobnibmmgaaGreatLj
set_option maxRecDepth 1000000
set_option maxHeartbeats 0
namespace Go.Proofs.YtkbaiobnibmmgaaGreat
theorem zs6:zh9 EE Tryz.prog 100000 9 (zae 59) zk4 zk5 (zbv zk6 2511 0) (zct 0)=true:=by decide +kernel
end Go.Proofs.YtkbaiobnibmmgaaGreat
