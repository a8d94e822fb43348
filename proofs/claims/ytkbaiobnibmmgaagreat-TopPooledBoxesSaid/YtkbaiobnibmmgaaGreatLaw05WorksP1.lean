/-
  Printed by wip/tools/mkparts2.py from what wip/tools/ck2.py found: quinellalaw05.Works in parts.
-/
import Derived.Test.YtkbaiobnibmmgaaGreatLj
set_option maxRecDepth 1000000
set_option maxHeartbeats 0
namespace Go.Proofs.YtkbaiobnibmmgaaGreat
theorem zu3:zb6 EE Tryz.prog 100000 10 (zae 158) zj4 zj5 (zbv zj6 652 0) zj7 zj8 zj9 1540 0=true:=by decide +kernel
end Go.Proofs.YtkbaiobnibmmgaaGreat
