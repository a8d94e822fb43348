/-
  Printed by wip/tools/mkparts2.py from what wip/tools/ck2.py found: quinellalaw05.Works in parts.
-/
import Derived.Test.YtkbaiobnibmmgaaGreatLj
set_option maxRecDepth 1000000
set_option maxHeartbeats 0
namespace Go.Proofs.YtkbaiobnibmmgaaGreat
theorem zu5:zb6 EE Tryz.prog 100000 2 (zae 158) zka zkb (zbv zkc 2553 0) zkd zke zkf 3248 0=true:=by decide +kernel
end Go.Proofs.YtkbaiobnibmmgaaGreat
