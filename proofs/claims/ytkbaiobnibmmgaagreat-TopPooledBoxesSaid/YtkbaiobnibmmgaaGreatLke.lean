/-
  Printed by wip/tools/mkparts2.py from what wip/tools/ck2.py found: quinellalaw06.Works in parts.
-/
import Derived.Test.YtkbaiobnibmmgaaGreatLj
set_option maxRecDepth 1000000
set_option maxHeartbeats 0
namespace Go.Proofs.YtkbaiobnibmmgaaGreat
theorem zu8:zb6 EE Tryz.prog 100000 4 (zae 104) zkg zkh (zbv zki 1205 0) zkj zkk zkl 2841 0=true:=by decide +kernel
end Go.Proofs.YtkbaiobnibmmgaaGreat
set_option maxRecDepth 1000000
set_option maxHeartbeats 0
namespace Go.Proofs.YtkbaiobnibmmgaaGreat
theorem zu9:zb6 EE Tryz.prog 100000 2 (zae 104) zks zkt (zbv zku 7338 0) zkv zkw zkx 8485 0=true:=by decide +kernel
end Go.Proofs.YtkbaiobnibmmgaaGreat
