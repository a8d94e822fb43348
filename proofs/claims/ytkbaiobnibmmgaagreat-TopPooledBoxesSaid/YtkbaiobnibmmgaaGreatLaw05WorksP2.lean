/-
  Printed by wip/tools/mkparts2.py from what wip/tools/ck2.py found: quinellalaw05.Works in parts.
-/
import Derived.Test.YtkbaiobnibmmgaaGreatLj
set_option maxRecDepth 1000000
set_option maxHeartbeats 0
namespace Go.Proofs.YtkbaiobnibmmgaaGreat
theorem zu4:zb6 EE Tryz.prog 100000 8 (zae 158) zj7 zj8 (zbv zj9 1540 0) zka zkb zkc 2553 0=true:=by decide +kernel
end Go.Proofs.YtkbaiobnibmmgaaGreat
