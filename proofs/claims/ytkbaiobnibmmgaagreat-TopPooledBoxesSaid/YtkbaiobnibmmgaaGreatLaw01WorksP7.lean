/-
  Printed by wip/tools/mkparts.py from what wip/tools/ck.py found: quinellalaw01.Works in parts.
-/
import Derived.Test.YtkbaiobnibmmgaaGreatLj
set_option maxRecDepth 1000000
set_option maxHeartbeats 0
namespace Go.Proofs.YtkbaiobnibmmgaaGreat
theorem zsz:znr EE Tryz.prog 100000 (zay 15 (zae 249)) zjy (ckSt zjz 8748) 0=true:=by decide +kernel
end Go.Proofs.YtkbaiobnibmmgaaGreat
