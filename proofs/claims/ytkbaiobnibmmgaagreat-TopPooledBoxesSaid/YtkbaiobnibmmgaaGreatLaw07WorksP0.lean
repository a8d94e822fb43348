/-
  Printed by wip/tools/mkparts2.py from what wip/tools/ck2.py found: quinellalaw07.Works in parts.
-/
import Derived.Test.YtkbaiobnibmmgaaGreatLj
set_option maxRecDepth 1000000
set_option maxHeartbeats 0
namespace Go.Proofs.YtkbaiobnibmmgaaGreat
theorem zvd:zb6 EE Tryz.prog 100000 27 (zae 59) [.c []] (⟨.leaf,zbl 59⟩:Tm) st0 zk1 zk2 zk3 1192 0=true:=by decide +kernel
end Go.Proofs.YtkbaiobnibmmgaaGreat
