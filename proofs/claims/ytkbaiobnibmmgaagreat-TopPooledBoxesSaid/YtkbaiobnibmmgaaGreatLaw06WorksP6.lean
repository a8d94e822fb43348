/-
  Printed by wip/tools/mkparts2.py from what wip/tools/ck2.py found: quinellalaw06.Works in parts.
-/
import Derived.Test.YtkbaiobnibmmgaaGreatLj
set_option maxRecDepth 1000000
set_option maxHeartbeats 0
namespace Go.Proofs.YtkbaiobnibmmgaaGreat
theorem zvc:zb6 EE Tryz.prog 100000 11 (zae 104) zkv zkw (zbv zkx 8485 0) zky zkz zk0 10142 0=true:=by decide +kernel
end Go.Proofs.YtkbaiobnibmmgaaGreat
