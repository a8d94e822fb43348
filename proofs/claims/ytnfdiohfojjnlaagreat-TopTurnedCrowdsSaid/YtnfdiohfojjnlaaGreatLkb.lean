/-
  Printed by wip/tools/mkparts.py from what wip/tools/ck.py found: lag.Late in parts.
-/
import Derived.Test.YtnfdiohfojjnlaaGreatLj
set_option maxRecDepth 1000000
set_option maxHeartbeats 0
namespace Go.Proofs.YtnfdiohfojjnlaaGreat
theorem zaba:zro EE Tryz.prog 100000 2 (za5 0 (zaa 15)) (⟨zek ([.sl 0 0 3 3,.sl 3 0 1 1]:List AV) 0 .leaf,zbm 15⟩:Tm) (⟨(zy [(0,.cells [iN 3,iN 4,iN 4]),(1,.cells [iN 0,iN 2,iN 4]),(3,.cells [.sl 1 0 3 3])]:Tr AO),6000,0,0⟩:St) zya zyb 6090 6000=true:=by decide +kernel
theorem z8s:zcs EE Tryz.prog 100000 26 (zaa 383) [.c []] (⟨zek ([.sl 0 0 3 3,.sl 3 0 1 1]:List AV) 0 .leaf,zbm 383⟩:Tm) (⟨zy [(0,.cells [iN 3,iN 4,iN 4]),(1,.cells [iN 0,iN 2,iN 4]),(3,.cells [.sl 1 0 3 3])],8000,0,0⟩:St) zu3 zu4 zu5 8091 8000=true:=by decide +kernel
theorem zyr:zcs EE Tryz.prog 100000 29 (zaa 49) [.c []] (⟨.leaf,zbm 49⟩:Tm) st0 znq znr zns 1772 0=true:=by decide +kernel
end Go.Proofs.YtnfdiohfojjnlaaGreat
