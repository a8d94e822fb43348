/-
  Printed by wip/tools/mkparts2.py from what wip/tools/ck2.py found: quinellalaw06.Works in parts.
-/
import Derived.Test.YtkbaiobnibmmgaaGreatLj
set_option maxRecDepth 1000000
set_option maxHeartbeats 0
namespace Go.Proofs.YtkbaiobnibmmgaaGreat
theorem zu6:zb6 EE Tryz.prog 100000 15 (zae 104) [.c []] (⟨.leaf,zbl 104⟩:Tm) st0 zkg zkh zki 1205 0=true:=by decide +kernel
end Go.Proofs.YtkbaiobnibmmgaaGreat
set_option maxRecDepth 1000000
set_option maxHeartbeats 0
namespace Go.Proofs.YtkbaiobnibmmgaaGreat
theorem zu7:zb6 EE Tryz.prog 100000 2 (zae 104) zkm zkn (zbv zko 4531 0) zkp zkq zkr 5305 0=true:=by decide +kernel
end Go.Proofs.YtkbaiobnibmmgaaGreat
set_option maxRecDepth 1000000
set_option maxHeartbeats 0
namespace Go.Proofs.YtkbaiobnibmmgaaGreat
theorem zs5:zh9 EE Tryz.prog 100000 4 (zae 104) zky zkz (zbv zk0 10142 0) (zct 0)=true:=by decide +kernel
end Go.Proofs.YtkbaiobnibmmgaaGreat
