/-
  Printed by wip/tools/mkparts.py from what wip/tools/ck.py found: quinellalaw01.Works in parts.
-/
import Derived.Test.YtkbaiobnibmmgaaGreatLj
set_option maxRecDepth 1000000
set_option maxHeartbeats 0
namespace Go.Proofs.YtkbaiobnibmmgaaGreat
theorem zux:zdy EE Tryz.prog 100000 1 (zay 9 (zae 249)) zjq (ckSt zjr 2750) zjs zjt 5281=true:=by decide +kernel
end Go.Proofs.YtkbaiobnibmmgaaGreat
