/-
  Printed by wip/tools/mkparts.py from what wip/tools/ck.py found: lag.Late in parts.
-/
import Derived.Test.YtnoffnkmibjndaaGreatLj
set_option maxRecDepth 1000000
set_option maxHeartbeats 0
namespace Go.Proofs.YtnoffnkmibjndaaGreat
theorem zac2:zsv EE Tryz.prog 100000 2 (zbf 0 (zaq 175)) (⟨zex ([.sl 0 0 3 3,.sl 3 0 1 1]:List AV) 0 .leaf,zcw 175⟩:Tm) (⟨(zak [(0,.cells [iN 3,iN 4,iN 4]),(1,.cells [iN 0,iN 2,iN 4]),(3,.cells [.sl 1 0 3 3])]:Tr AO),6000,0,0⟩:St) zzk zzl 6090 6000=true:=by decide +kernel
theorem zaak:zd2 EE Tryz.prog 100000 26 (zaq 176) [.c []] (⟨zex ([.sl 0 0 3 3,.sl 3 0 1 1]:List AV) 0 .leaf,zcw 176⟩:Tm) (⟨zak [(0,.cells [iN 3,iN 4,iN 4]),(1,.cells [iN 0,iN 2,iN 4]),(3,.cells [.sl 1 0 3 3])],8000,0,0⟩:St) zwj zwk zwl 8091 8000=true:=by decide +kernel
end Go.Proofs.YtnoffnkmibjndaaGreat
