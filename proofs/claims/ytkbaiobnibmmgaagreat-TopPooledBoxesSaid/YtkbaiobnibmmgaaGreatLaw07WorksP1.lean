/-
  Printed by wip/tools/mkparts2.py from what wip/tools/ck2.py found: quinellalaw07.Works in parts.
-/
import Derived.Test.YtkbaiobnibmmgaaGreatLj
set_option maxRecDepth 1000000
set_option maxHeartbeats 0
namespace Go.Proofs.YtkbaiobnibmmgaaGreat
theorem zve:zb6 EE Tryz.prog 100000 8 (zae 59) zk1 zk2 (zbv zk3 1192 0) zk4 zk5 zk6 2511 0=true:=by decide +kernel
end Go.Proofs.YtkbaiobnibmmgaaGreat
