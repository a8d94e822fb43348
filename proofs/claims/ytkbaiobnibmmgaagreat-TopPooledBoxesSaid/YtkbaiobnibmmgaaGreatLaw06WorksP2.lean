/-
  Printed by wip/tools/mkparts2.py from what wip/tools/ck2.py found: quinellalaw06.Works in parts.
-/
import Derived.Test.YtkbaiobnibmmgaaGreatLj
set_option maxRecDepth 1000000
set_option maxHeartbeats 0
namespace Go.Proofs.YtkbaiobnibmmgaaGreat
theorem zva:zb6 EE Tryz.prog 100000 4 (zae 104) zkj zkk (zbv zkl 2841 0) zkm zkn zko 4531 0=true:=by decide +kernel
end Go.Proofs.YtkbaiobnibmmgaaGreat
