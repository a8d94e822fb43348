/-
  Printed by wip/tools/mkparts.py from what wip/tools/ck.py found: lag.Wait in parts.
-/
import Derived.Test.YtnfdiohfojjnlaaGreatLj
set_option maxRecDepth 1000000
set_option maxHeartbeats 0
namespace Go.Proofs.YtnfdiohfojjnlaaGreat
theorem zaa9:zro EE Tryz.prog 100000 2 (za5 0 (zaa 382)) (⟨zek ([.sl 0 0 3 3,.sl 4 0 2 2]:List AV) 0 .leaf,zbm 382⟩:Tm) (⟨(zy [(0,.cells [iN 3,iN 4,iN 4]),(1,.cells [iN 0,iN 2,iN 4]),(4,.cells [.sl 1 0 3 3,.sl 1 0 3 3])]:Tr AO),4000,0,0⟩:St) zx8 zx9 4469 4000=true:=by decide +kernel
end Go.Proofs.YtnfdiohfojjnlaaGreat
