/-
  Printed by wip/tools/mkparts.py from what wip/tools/ck.py found: lag.Late in parts.
-/
import Derived.Test.YtkfifbopmpcanaaGreatLj
set_option maxRecDepth 1000000
set_option maxHeartbeats 0
namespace Go.Proofs.YtkfifbopmpcanaaGreat
theorem z4q:zoa EE Tryz.prog 100000 2 (zat 0 (zad 347)) (⟨zda ([.sl 0 0 3 3,.sl 3 0 1 1]:List AV) 0 .leaf,zbe 347⟩:Tm) (⟨(trOf [(0,.cells [iN 3,iN 4,iN 4]),(1,.cells [iN 0,iN 2,iN 4]),(3,.cells [.sl 1 0 3 3])]:Tr AO),6000,0,0⟩:St) ztf ztg 6090 6000=true:=by decide +kernel
end Go.Proofs.YtkfifbopmpcanaaGreat
set_option maxRecDepth 1000000
set_option maxHeartbeats 0
namespace Go.Proofs.YtkfifbopmpcanaaGreat
theorem z2y:zbw EE Tryz.prog 100000 26 (zad 348) [.c []] (⟨zda ([.sl 0 0 3 3,.sl 3 0 1 1]:List AV) 0 .leaf,zbe 348⟩:Tm) (⟨trOf [(0,.cells [iN 3,iN 4,iN 4]),(1,.cells [iN 0,iN 2,iN 4]),(3,.cells [.sl 1 0 3 3])],8000,0,0⟩:St) zqw zqx zqy 8091 8000=true:=by decide +kernel
end Go.Proofs.YtkfifbopmpcanaaGreat
set_option maxRecDepth 1000000
set_option maxHeartbeats 0
namespace Go.Proofs.YtkfifbopmpcanaaGreat
theorem zt8:zbw EE Tryz.prog 100000 29 (zad 37) [.c []] (⟨.leaf,zbe 37⟩:Tm) st0 zko zkp zkq 1772 0=true:=by decide +kernel
end Go.Proofs.YtkfifbopmpcanaaGreat
