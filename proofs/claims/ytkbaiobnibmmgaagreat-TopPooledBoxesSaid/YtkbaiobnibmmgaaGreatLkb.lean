/-
  Printed by wip/tools/mkparts.py from what wip/tools/ck.py found: lag.Late in parts.
-/
import Derived.Test.YtkbaiobnibmmgaaGreatLj
set_option maxRecDepth 1000000
set_option maxHeartbeats 0
namespace Go.Proofs.YtkbaiobnibmmgaaGreat
theorem z5n:zo1 EE Tryz.prog 100000 2 (zay 0 (zae 341)) (⟨zdg ([.sl 0 0 3 3,.sl 3 0 1 1]:List AV) 0 .leaf,zbl 341⟩:Tm) (⟨(trOf [(0,.cells [iN 3,iN 4,iN 4]),(1,.cells [iN 0,iN 2,iN 4]),(3,.cells [.sl 1 0 3 3])]:Tr AO),6000,0,0⟩:St) zt4 zt5 6090 6000=true:=by decide +kernel
end Go.Proofs.YtkbaiobnibmmgaaGreat
set_option maxRecDepth 1000000
set_option maxHeartbeats 0
namespace Go.Proofs.YtkbaiobnibmmgaaGreat
theorem z3h:zb6 EE Tryz.prog 100000 26 (zae 342) [.c []] (⟨zdg ([.sl 0 0 3 3,.sl 3 0 1 1]:List AV) 0 .leaf,zbl 342⟩:Tm) (⟨trOf [(0,.cells [iN 3,iN 4,iN 4]),(1,.cells [iN 0,iN 2,iN 4]),(3,.cells [.sl 1 0 3 3])],8000,0,0⟩:St) zrp zrq zrr 8091 8000=true:=by decide +kernel
end Go.Proofs.YtkbaiobnibmmgaaGreat
set_option maxRecDepth 1000000
set_option maxHeartbeats 0
namespace Go.Proofs.YtkbaiobnibmmgaaGreat
theorem zuz:zb6 EE Tryz.prog 100000 29 (zae 30) [.c []] (⟨.leaf,zbl 30⟩:Tm) st0 zk7 zk8 zk9 1772 0=true:=by decide +kernel
end Go.Proofs.YtkbaiobnibmmgaaGreat
