/-
  Printed by wip/tools/mkparts.py from what wip/tools/ck.py found: quinellalaw03.Works in parts.
-/
import Derived.Test.YtkbaiobnibmmgaaGreatLj
set_option maxRecDepth 1000000
set_option maxHeartbeats 0
namespace Go.Proofs.YtkbaiobnibmmgaaGreat
theorem zu0:zdy EE Tryz.prog 100000 5 (zay 0 (zae 251)) (⟨.leaf,zbl 251⟩:Tm) st0 zj0 zj1 350=true:=by decide +kernel
end Go.Proofs.YtkbaiobnibmmgaaGreat
set_option maxRecDepth 1000000
set_option maxHeartbeats 0
namespace Go.Proofs.YtkbaiobnibmmgaaGreat
theorem zu1:zdy EE Tryz.prog 100000 2 (zay 0 (zae 204)) (⟨.leaf,zbl 204⟩:Tm) st0 zj2 zj3 3=true:=by decide +kernel
end Go.Proofs.YtkbaiobnibmmgaaGreat
set_option maxRecDepth 1000000
set_option maxHeartbeats 0
namespace Go.Proofs.YtkbaiobnibmmgaaGreat
theorem zs1:znr EE Tryz.prog 100000 (zay 2 (zae 204)) zj2 (ckSt zj3 3) 0=true:=by decide +kernel
end Go.Proofs.YtkbaiobnibmmgaaGreat
set_option maxRecDepth 1000000
set_option maxHeartbeats 0
namespace Go.Proofs.YtkbaiobnibmmgaaGreat
theorem zs2:zh9 EE Tryz.prog 100000 5 (zae 30) zk7 zk8 (zbv zk9 1772 0) (zct 0)=true:=by decide +kernel
end Go.Proofs.YtkbaiobnibmmgaaGreat
