/-
  Printed by wip/tools/mkparts.py from what wip/tools/ck.py found: quinellalaw03.Works in parts.
-/
import Derived.Test.YtkfifbopmpcanaaGreatLj
set_option maxRecDepth 1000000
set_option maxHeartbeats 0
namespace Go.Proofs.YtkfifbopmpcanaaGreat
theorem zt9:zdu EE Tryz.prog 100000 5 (zat 0 (zad 260)) (⟨.leaf,zbe 260⟩:Tm) st0 zjh zji 350=true:=by decide +kernel
end Go.Proofs.YtkfifbopmpcanaaGreat
set_option maxRecDepth 1000000
set_option maxHeartbeats 0
namespace Go.Proofs.YtkfifbopmpcanaaGreat
theorem zua:zdu EE Tryz.prog 100000 2 (zat 0 (zad 221)) (⟨.leaf,zbe 221⟩:Tm) st0 zjj zjk 3=true:=by decide +kernel
end Go.Proofs.YtkfifbopmpcanaaGreat
set_option maxRecDepth 1000000
set_option maxHeartbeats 0
namespace Go.Proofs.YtkfifbopmpcanaaGreat
theorem zsd:zm4 EE Tryz.prog 100000 (zat 2 (zad 221)) zjj (ckSt zjk 3) 0=true:=by decide +kernel
end Go.Proofs.YtkfifbopmpcanaaGreat
set_option maxRecDepth 1000000
set_option maxHeartbeats 0
namespace Go.Proofs.YtkfifbopmpcanaaGreat
theorem zse:zh1 EE Tryz.prog 100000 5 (zad 37) zko zkp (zbl zkq 1772 0) (zcl 0)=true:=by decide +kernel
end Go.Proofs.YtkfifbopmpcanaaGreat
