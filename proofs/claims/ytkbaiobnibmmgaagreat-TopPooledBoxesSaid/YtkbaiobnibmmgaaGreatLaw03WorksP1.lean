/-
  Printed by wip/tools/mkparts.py from what wip/tools/ck.py found: quinellalaw03.Works in parts.
-/
import Derived.Test.YtkbaiobnibmmgaaGreatLj
set_option maxRecDepth 1000000
set_option maxHeartbeats 0
namespace Go.Proofs.YtkbaiobnibmmgaaGreat
theorem zs3:znr EE Tryz.prog 100000 (zay 5 (zae 251)) zj0 (ckSt zj1 350) 0=true:=by decide +kernel
end Go.Proofs.YtkbaiobnibmmgaaGreat
