/-
  Printed by wip/tools/mkparts.py from what wip/tools/ck.py found: quinellalaw01.Works in parts.
-/
import Derived.Test.YtkbaiobnibmmgaaGreatLj
set_option maxRecDepth 1000000
set_option maxHeartbeats 0
namespace Go.Proofs.YtkbaiobnibmmgaaGreat
theorem zuw:zdy EE Tryz.prog 100000 1 (zay 7 (zae 249)) zjm (ckSt zjn 561) zjo zjp 2628=true:=by decide +kernel
end Go.Proofs.YtkbaiobnibmmgaaGreat
