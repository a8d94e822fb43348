/-
  Printed by wip/tools/mkparts.py from what wip/tools/ck.py found: quinellalaw01.Works in parts.
-/
import Derived.Test.YtnfdiohfojjnlaaGreatLka
import Derived.Test.YtnfdiohfojjnlaaGreatLaw01WorksP1
import Derived.Test.YtnfdiohfojjnlaaGreatLaw01WorksP3
import Derived.Test.YtnfdiohfojjnlaaGreatLaw01WorksP5
import Derived.Test.YtnfdiohfojjnlaaGreatLaw01WorksP7
import Derived.Test.YtnfdiohfojjnlaaGreatWait2P0
import Derived.Test.YtnfdiohfojjnlaaGreatWait2P1
import Derived.Test.YtnfdiohfojjnlaaGreatLkb
import Derived.Test.YtnfdiohfojjnlaaGreatLate1P1
import Derived.Test.YtnfdiohfojjnlaaGreatLki
set_option maxRecDepth 1000000
set_option maxHeartbeats 0
namespace Go.Proofs.YtnfdiohfojjnlaaGreat
theorem zvc:Good Tryz.prog EE (zcc 0) (zaa 296) (⟨.leaf,zbm 296⟩:Tm) st0:=(zdg zw zag zu zal zyk (by exact (zdg zw zag zu zal zyo (by rw [zcv];exact (zdg zw zag zu zal zyl (by rw [zcv];exact (zdg zw zag zu zal zyp (by rw [zcv];exact (zdg zw zag zu zal zym (by rw [zcv];exact (zdg zw zag zu zal zyq (by rw [zcv];exact (zdg zw zag zu zal zyn (by rw [zcv];exact (zqq zw zag zu zal zwp)))))))))))))))
theorem z59:Good Tryz.prog EE (fun r=>zfe 4000 5695 [(4,iN 4),(5,iN 0)] r=true) (zaa 382) (⟨zek ([.sl 0 0 3 3,.sl 4 0 2 2]:List AV) 0 .leaf,zbm 382⟩:Tm) (⟨(zy [(0,.cells [iN 3,iN 4,iN 4]),(1,.cells [iN 0,iN 2,iN 4]),(4,.cells [.sl 1 0 3 3,.sl 1 0 3 3])]:Tr AO),4000,0,0⟩:St):=(zut zw zag zu zal zaa9 (by exact (zx3 zw zag zu zal z8r)))
theorem z6a:Good Tryz.prog EE (fun r=>zfe 6000 7496 [(4,iN 2),(5,iN 0)] r=true) (zaa 15) (⟨zek ([.sl 0 0 3 3,.sl 3 0 1 1]:List AV) 0 .leaf,zbm 15⟩:Tm) (⟨(zy [(0,.cells [iN 3,iN 4,iN 4]),(1,.cells [iN 0,iN 2,iN 4]),(3,.cells [.sl 1 0 3 3])]:Tr AO),6000,0,0⟩:St):=(zut zw zag zu zal zaba (by exact (zx3 zw zag zu zal z8t)))
theorem z23:Good Tryz.prog EE (fun r=>(zrt 8000 11885 [(4,.slo 11884 0 3 1),(5,iN 0)] [(11884,.cells [iN 4,iN 5,iN 7])]) r=true) (zaa 383) (⟨zek ([.sl 0 0 3 3,.sl 3 0 1 1]:List AV) 0 .leaf,zbm 383⟩:Tm) (⟨zy [(0,.cells [iN 3,iN 4,iN 4]),(1,.cells [iN 0,iN 2,iN 4]),(3,.cells [.sl 1 0 3 3])],8000,0,0⟩:St):=zff (by decide +kernel) (za2 zw zag zu zal z8s (za2 zw zag zu zal z8u (za2 zw zag zu zal z8v (zej zw zag zu zal z58))))
open Go.RowKit
noncomputable def zafh:Tr AO:=zy [(0,.cells [iN 3,iN 4,iN 4]),(1,.cells [iN 0,iN 2,iN 4]),(4,.cells [.sl 1 0 3 3,.sl 1 0 3 3])]
noncomputable def zafi:Tr AO:=zy [(0,.cells [iN 3,iN 4,iN 4]),(1,.cells [iN 0,iN 2,iN 4]),(3,.cells [.sl 1 0 3 3])]
noncomputable def z4k:List AV→St→Option Res:=z50 [.sl 0 0 3 3,.sl 4 0 2 2] zafh 4000 5695 (.tup [iN 4,iN 0])
noncomputable def z4l:List AV→St→Option Res:=z50 [.sl 0 0 3 3,.sl 3 0 1 1] zafi 6000 7496 (.tup [iN 2,iN 0])
theorem z6b {E:Env} {args:List AV} {S:St} {r:Res} (h:z4k args S=some r):Lcl S r.st∧zc0 Tryz.prog E S r (.call 382 args):=by
 obtain ⟨e1,e2⟩:=zc8 (f:=382) (by decide +kernel) Tryz.func382 rfl;have g:=z59;rw [e1,e2] at g;exact z8k zag (rs:=[(4,iN 4),(5,iN 0)]) Tryz.func382 rfl (by decide) rfl rfl rfl g h
theorem z6c {E:Env} {args:List AV} {S:St} {r:Res} (h:z4l args S=some r):Lcl S r.st∧zc0 Tryz.prog E S r (.call 15 args):=by
 obtain ⟨e1,e2⟩:=zc8 (f:=15) (by decide +kernel) Tryz.func15 rfl;have g:=z6a;rw [e1,e2] at g;exact z8k zag (rs:=[(4,iN 2),(5,iN 0)]) Tryz.func15 rfl (by decide) rfl rfl rfl g h
noncomputable def zadi:Tr AO:=zy [(0,.cells [iN 3,iN 4,iN 4]),(1,.cells [iN 0,iN 2,iN 4]),(3,.cells [.sl 1 0 3 3])]
noncomputable def zyc:List AV→St→Option Res:=recM [.sl 0 0 3 3,.sl 3 0 1 1] zadi 8000 11885 (.tup [.slo 11884 0 3 1,iN 0]) [(11884,.cells [iN 4,iN 5,iN 7])]
theorem z2f {E:Env} {args:List AV} {S:St} {r:Res} (h:zyc args S=some r):Lcl S r.st∧zc0 Tryz.prog E S r (.call 383 args):=by
 obtain ⟨e1,e2⟩:=zc8 (f:=383) (by decide +kernel) Tryz.func383 rfl;have g:=z23;rw [e1,e2] at g;exact zade zag (rs:=[(4,.slo 11884 0 3 1),(5,iN 0)]) Tryz.func383 rfl (by decide) rfl rfl g h
noncomputable def tabW:List (Nat × (List AV→St→Option Res)):=(382,z4k) :: (15,z4l) :: (383,zyc) :: z2e
noncomputable def EW:Env:={ zze Tryz.prog with tab:=zy tabW }
theorem zabp:zaq EW Tryz.prog:=⟨(zre Tryz.prog).ty,(zre Tryz.prog).fn⟩
theorem zaen:ziu Tryz.prog EW:=ztc rfl fun p hp args S r h=>by
 unfold tabW at hp
 rcases List.mem_cons.1 hp with rfl | hp
 ·exact z6b h
 ·rcases List.mem_cons.1 hp with rfl | hp
  ·exact z6c h
  ·rcases List.mem_cons.1 hp with rfl | hp
   ·exact z2f h
   ·exact zwo p hp args S r h
end Go.Proofs.YtnfdiohfojjnlaaGreat
