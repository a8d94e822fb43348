/-
  Printed by wip/tools/mkparts.py from what wip/tools/ck.py found: quinellalaw01.Works in parts.
-/
import Derived.Test.YtkbaiobnibmmgaaGreatLj
set_option maxRecDepth 1000000
set_option maxHeartbeats 0
namespace Go.Proofs.YtkbaiobnibmmgaaGreat
theorem zuy:zdy EE Tryz.prog 100000 1 (zay 13 (zae 249)) zju (ckSt zjv 6346) zjw zjx 8459=true:=by decide +kernel
end Go.Proofs.YtkbaiobnibmmgaaGreat
