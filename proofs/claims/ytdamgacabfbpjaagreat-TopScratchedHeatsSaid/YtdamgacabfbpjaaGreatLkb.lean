/-
  Printed by wip/tools/mkparts.py from what wip/tools/ck.py found: lag.Late in parts.
-/
import Derived.Test.YtdamgacabfbpjaaGreatLj
set_option maxRecDepth 1000000
set_option maxHeartbeats 0
namespace Go.Proofs.YtdamgacabfbpjaaGreat
theorem zadb:zs7 EE Tryz.prog 100000 2 (zbh 0 (zak 279)) (⟨zff ([.sl 0 0 3 3,.sl 3 0 1 1]:List AV) 0 .leaf,zcy 279⟩:Tm) (⟨(zah [(0,.cells [iN 3,iN 4,iN 4]),(1,.cells [iN 0,iN 2,iN 4]),(3,.cells [.sl 1 0 3 3])]:Tr AO),6000,0,0⟩:St) zzj zzk 6090 6000=true:=by decide +kernel
theorem zaar:zdt EE Tryz.prog 100000 26 (zak 280) [.c []] (⟨zff ([.sl 0 0 3 3,.sl 3 0 1 1]:List AV) 0 .leaf,zcy 280⟩:Tm) (⟨zah [(0,.cells [iN 3,iN 4,iN 4]),(1,.cells [iN 0,iN 2,iN 4]),(3,.cells [.sl 1 0 3 3])],8000,0,0⟩:St) zwh zwi zwj 8091 8000=true:=by decide +kernel
end Go.Proofs.YtdamgacabfbpjaaGreat
