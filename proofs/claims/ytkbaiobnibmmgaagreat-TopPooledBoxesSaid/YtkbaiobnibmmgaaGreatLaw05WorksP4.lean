/-
  Printed by wip/tools/mkparts2.py from what wip/tools/ck2.py found: quinellalaw05.Works in parts.
-/
import Derived.Test.YtkbaiobnibmmgaaGreatLj
set_option maxRecDepth 1000000
set_option maxHeartbeats 0
namespace Go.Proofs.YtkbaiobnibmmgaaGreat
theorem zs4:zh9 EE Tryz.prog 100000 11 (zae 158) zkd zke (zbv zkf 3248 0) (zct 0)=true:=by decide +kernel
end Go.Proofs.YtkbaiobnibmmgaaGreat
