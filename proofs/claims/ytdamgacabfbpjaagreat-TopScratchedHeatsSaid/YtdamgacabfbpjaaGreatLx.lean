/-
  Printed by wip/tools/mkparts.py from what wip/tools/ck.py found: quinellalaw01.Works in parts.
-/
import Derived.Test.YtdamgacabfbpjaaGreatLka
import Derived.Test.YtdamgacabfbpjaaGreatLaw01WorksP1
import Derived.Test.YtdamgacabfbpjaaGreatLaw01WorksP3
import Derived.Test.YtdamgacabfbpjaaGreatLaw01WorksP5
import Derived.Test.YtdamgacabfbpjaaGreatLaw01WorksP7
import Derived.Test.YtdamgacabfbpjaaGreatWait2P0
import Derived.Test.YtdamgacabfbpjaaGreatWait2P1
import Derived.Test.YtdamgacabfbpjaaGreatLkb
import Derived.Test.YtdamgacabfbpjaaGreatLate1P1
import Derived.Test.YtdamgacabfbpjaaGreatBehindP1
import Derived.Test.YtdamgacabfbpjaaGreatBehindP2
import Derived.Test.YtdamgacabfbpjaaGreatBehindP3
set_option maxRecDepth 1000000
set_option maxHeartbeats 0
namespace Go.Proofs.YtdamgacabfbpjaaGreat
theorem zwq:Good Tryz.prog EE (zdr 0) (zak 189) (⟨.leaf,zcy 189⟩:Tm) st0:=(zd9 zw zar zu zax z0d (by exact (zd9 zw zar zu zax z0h (by rw [zdn];exact (zd9 zw zar zu zax z0e (by rw [zdn];exact (zd9 zw zar zu zax z0i (by rw [zdn];exact (zd9 zw zar zu zax z0f (by rw [zdn];exact (zd9 zw zar zu zax z0j (by rw [zdn];exact (zd9 zw zar zu zax z0g (by rw [zdn];exact (zrw zw zar zu zax zx9)))))))))))))))
theorem z71:Good Tryz.prog EE (fun r=>zf7 4000 5695 [(4,iN 4),(5,iN 0)] r=true) (zak 278) (⟨zff ([.sl 0 0 3 3,.sl 4 0 2 2]:List AV) 0 .leaf,zcy 278⟩:Tm) (⟨(zah [(0,.cells [iN 3,iN 4,iN 4]),(1,.cells [iN 0,iN 2,iN 4]),(4,.cells [.sl 1 0 3 3,.sl 1 0 3 3])]:Tr AO),4000,0,0⟩:St):=(zv0 zw zar zu zax zada (by exact (zy7 zw zar zu zax zaaq)))
theorem z72:Good Tryz.prog EE (fun r=>zf7 6000 7496 [(4,iN 2),(5,iN 0)] r=true) (zak 279) (⟨zff ([.sl 0 0 3 3,.sl 3 0 1 1]:List AV) 0 .leaf,zcy 279⟩:Tm) (⟨(zah [(0,.cells [iN 3,iN 4,iN 4]),(1,.cells [iN 0,iN 2,iN 4]),(3,.cells [.sl 1 0 3 3])]:Tr AO),6000,0,0⟩:St):=(zv0 zw zar zu zax zadb (by exact (zy7 zw zar zu zax zaas)))
theorem z4s:Good Tryz.prog EE (fun r=>(ztd 8000 11885 [(4,.slo 11884 0 3 1),(5,iN 0)] [(11884,.cells [iN 4,iN 5,iN 7])]) r=true) (zak 280) (⟨zff ([.sl 0 0 3 3,.sl 3 0 1 1]:List AV) 0 .leaf,zcy 280⟩:Tm) (⟨zah [(0,.cells [iN 3,iN 4,iN 4]),(1,.cells [iN 0,iN 2,iN 4]),(3,.cells [.sl 1 0 3 3])],8000,0,0⟩:St):=zjf (by decide +kernel) (zbg zw zar zu zax zaar (zbg zw zar zu zax zaat (zbg zw zar zu zax zaau (zh3 zw zar zu zax z70))))
open Go.RowKit
noncomputable def zah8:Tr AO:=zah [(0,.cells [iN 3,iN 4,iN 4]),(1,.cells [iN 0,iN 2,iN 4]),(4,.cells [.sl 1 0 3 3,.sl 1 0 3 3])]
noncomputable def zah9:Tr AO:=zah [(0,.cells [iN 3,iN 4,iN 4]),(1,.cells [iN 0,iN 2,iN 4]),(3,.cells [.sl 1 0 3 3])]
noncomputable def z6d:List AV→St→Option Res:=z7l [.sl 0 0 3 3,.sl 4 0 2 2] zah8 4000 5695 (.tup [iN 4,iN 0])
noncomputable def z6e:List AV→St→Option Res:=z7l [.sl 0 0 3 3,.sl 3 0 1 1] zah9 6000 7496 (.tup [iN 2,iN 0])
theorem z73 {E:Env} {args:List AV} {S:St} {r:Res} (h:z6d args S=some r):Lcl S r.st∧zd8 Tryz.prog E S r (.call 278 args):=by
 obtain ⟨e1,e2⟩:=zfm (f:=278) (by decide +kernel) Tryz.func278 rfl;have g:=z71;rw [e1,e2] at g;exact z94 zar (rs:=[(4,iN 4),(5,iN 0)]) Tryz.func278 rfl (by decide) rfl rfl rfl g h
theorem z74 {E:Env} {args:List AV} {S:St} {r:Res} (h:z6e args S=some r):Lcl S r.st∧zd8 Tryz.prog E S r (.call 279 args):=by
 obtain ⟨e1,e2⟩:=zfm (f:=279) (by decide +kernel) Tryz.func279 rfl;have g:=z72;rw [e1,e2] at g;exact z94 zar (rs:=[(4,iN 2),(5,iN 0)]) Tryz.func279 rfl (by decide) rfl rfl rfl g h
noncomputable def zafz:Tr AO:=zah [(0,.cells [iN 3,iN 4,iN 4]),(1,.cells [iN 0,iN 2,iN 4]),(3,.cells [.sl 1 0 3 3])]
noncomputable def zzl:List AV→St→Option Res:=recM [.sl 0 0 3 3,.sl 3 0 1 1] zafz 8000 11885 (.tup [.slo 11884 0 3 1,iN 0]) [(11884,.cells [iN 4,iN 5,iN 7])]
theorem z3i {E:Env} {args:List AV} {S:St} {r:Res} (h:zzl args S=some r):Lcl S r.st∧zd8 Tryz.prog E S r (.call 280 args):=by
 obtain ⟨e1,e2⟩:=zfm (f:=280) (by decide +kernel) Tryz.func280 rfl;have g:=z4s;rw [e1,e2] at g;exact zafr zar (rs:=[(4,.slo 11884 0 3 1),(5,iN 0)]) Tryz.func280 rfl (by decide) rfl rfl g h
noncomputable def tabW:List (Nat × (List AV→St→Option Res)):=(278,z6d) :: (279,z6e) :: (280,zzl) :: z7z
noncomputable def EW:Env:={ z6u Tryz.prog with tab:=zah tabW }
theorem zaem:za4 EW Tryz.prog:=⟨(z09 Tryz.prog).ty,(z09 Tryz.prog).fn⟩
theorem zahc:zlx Tryz.prog EW:=z3h rfl fun p hp args S r h=>by
 unfold tabW at hp
 rcases List.mem_cons.1 hp with rfl | hp
 ·exact z73 h
 ·rcases List.mem_cons.1 hp with rfl | hp
  ·exact z74 h
  ·rcases List.mem_cons.1 hp with rfl | hp
   ·exact z3i h
   ·exact z6c p hp args S r h
end Go.Proofs.YtdamgacabfbpjaaGreat
