/-
  Printed by wip/tools/mkparts.py from what wip/tools/ck.py found: quinellalaw01.Works in parts.
-/
import Derived.Test.YtnoffnkmibjndaaGreatLka
import Derived.Test.YtnoffnkmibjndaaGreatLaw01WorksP1
import Derived.Test.YtnoffnkmibjndaaGreatLaw01WorksP3
import Derived.Test.YtnoffnkmibjndaaGreatLaw01WorksP5
import Derived.Test.YtnoffnkmibjndaaGreatLaw01WorksP7
import Derived.Test.YtnoffnkmibjndaaGreatWait2P0
import Derived.Test.YtnoffnkmibjndaaGreatWait2P1
import Derived.Test.YtnoffnkmibjndaaGreatLkb
import Derived.Test.YtnoffnkmibjndaaGreatLate1P1
import Derived.Test.YtnoffnkmibjndaaGreatBehindP1
import Derived.Test.YtnoffnkmibjndaaGreatBehindP2
import Derived.Test.YtnoffnkmibjndaaGreatBehindP3
set_option maxRecDepth 1000000
set_option maxHeartbeats 0
namespace Go.Proofs.YtnoffnkmibjndaaGreat
theorem zws:Good Tryz.prog EE (zd0 0) (zaq 96) (⟨.leaf,zcw 96⟩:Tm) st0:=(zds zag zav zaf zay zzu (by exact (zds zag zav zaf zay zzy (by rw [zc7];exact (zds zag zav zaf zay zzv (by rw [zc7];exact (zds zag zav zaf zay zzz (by rw [zc7];exact (zds zag zav zaf zay zzw (by rw [zc7];exact (zds zag zav zaf zay zz0 (by rw [zc7];exact (zds zag zav zaf zay zzx (by rw [zc7];exact (zrq zag zav zaf zay zx5)))))))))))))))
theorem z7q:Good Tryz.prog EE (fun r=>zfs 4000 5695 [(4,iN 4),(5,iN 0)] r=true) (zaq 174) (⟨zex ([.sl 0 0 3 3,.sl 4 0 2 2]:List AV) 0 .leaf,zcw 174⟩:Tm) (⟨(zak [(0,.cells [iN 3,iN 4,iN 4]),(1,.cells [iN 0,iN 2,iN 4]),(4,.cells [.sl 1 0 3 3,.sl 1 0 3 3])]:Tr AO),4000,0,0⟩:St):=(zv9 zag zav zaf zay zac1 (by exact (zzb zag zav zaf zay zaaj)))
theorem z7r:Good Tryz.prog EE (fun r=>zfs 6000 7496 [(4,iN 2),(5,iN 0)] r=true) (zaq 175) (⟨zex ([.sl 0 0 3 3,.sl 3 0 1 1]:List AV) 0 .leaf,zcw 175⟩:Tm) (⟨(zak [(0,.cells [iN 3,iN 4,iN 4]),(1,.cells [iN 0,iN 2,iN 4]),(3,.cells [.sl 1 0 3 3])]:Tr AO),6000,0,0⟩:St):=(zv9 zag zav zaf zay zac2 (by exact (zzb zag zav zaf zay zaal)))
theorem z34:Good Tryz.prog EE (fun r=>(zs0 8000 11885 [(4,.slo 11884 0 3 1),(5,iN 0)] [(11884,.cells [iN 4,iN 5,iN 7])]) r=true) (zaq 176) (⟨zex ([.sl 0 0 3 3,.sl 3 0 1 1]:List AV) 0 .leaf,zcw 176⟩:Tm) (⟨zak [(0,.cells [iN 3,iN 4,iN 4]),(1,.cells [iN 0,iN 2,iN 4]),(3,.cells [.sl 1 0 3 3])],8000,0,0⟩:St):=zlw (by decide +kernel) (zbp zag zav zaf zay zaak (zbp zag zav zaf zay zaam (zbp zag zav zaf zay zaan (zjr zag zav zaf zay z7p))))
open Go.RowKit
noncomputable def zagv:Tr AO:=zak [(0,.cells [iN 3,iN 4,iN 4]),(1,.cells [iN 0,iN 2,iN 4]),(4,.cells [.sl 1 0 3 3,.sl 1 0 3 3])]
noncomputable def zagw:Tr AO:=zak [(0,.cells [iN 3,iN 4,iN 4]),(1,.cells [iN 0,iN 2,iN 4]),(3,.cells [.sl 1 0 3 3])]
noncomputable def z5n:List AV→St→Option Res:=z7g [.sl 0 0 3 3,.sl 4 0 2 2] zagv 4000 5695 (.tup [iN 4,iN 0])
noncomputable def z5o:List AV→St→Option Res:=z7g [.sl 0 0 3 3,.sl 3 0 1 1] zagw 6000 7496 (.tup [iN 2,iN 0])
theorem z7s {E:Env} {args:List AV} {S:St} {r:Res} (h:z5n args S=some r):Lcl S r.st∧zdr Tryz.prog E S r (.call 174 args):=by
 obtain ⟨e1,e2⟩:=zf7 (f:=174) (by decide +kernel) Tryz.func174 rfl;have g:=z7q;rw [e1,e2] at g;exact z95 zav (rs:=[(4,iN 4),(5,iN 0)]) Tryz.func174 rfl (by decide) rfl rfl rfl g h
theorem z7t {E:Env} {args:List AV} {S:St} {r:Res} (h:z5o args S=some r):Lcl S r.st∧zdr Tryz.prog E S r (.call 175 args):=by
 obtain ⟨e1,e2⟩:=zf7 (f:=175) (by decide +kernel) Tryz.func175 rfl;have g:=z7r;rw [e1,e2] at g;exact z95 zav (rs:=[(4,iN 2),(5,iN 0)]) Tryz.func175 rfl (by decide) rfl rfl rfl g h
noncomputable def zae8:Tr AO:=zak [(0,.cells [iN 3,iN 4,iN 4]),(1,.cells [iN 0,iN 2,iN 4]),(3,.cells [.sl 1 0 3 3])]
noncomputable def zzm:List AV→St→Option Res:=recM [.sl 0 0 3 3,.sl 3 0 1 1] zae8 8000 11885 (.tup [.slo 11884 0 3 1,iN 0]) [(11884,.cells [iN 4,iN 5,iN 7])]
theorem z3i {E:Env} {args:List AV} {S:St} {r:Res} (h:zzm args S=some r):Lcl S r.st∧zdr Tryz.prog E S r (.call 176 args):=by
 obtain ⟨e1,e2⟩:=zf7 (f:=176) (by decide +kernel) Tryz.func176 rfl;have g:=z34;rw [e1,e2] at g;exact zae0 zav (rs:=[(4,.slo 11884 0 3 1),(5,iN 0)]) Tryz.func176 rfl (by decide) rfl rfl g h
noncomputable def tabW:List (Nat × (List AV→St→Option Res)):=(174,z5n) :: (175,z5o) :: (176,zzm) :: z7o
noncomputable def EW:Env:={ z6p Tryz.prog with tab:=zak tabW }
theorem zadg:za1 EW Tryz.prog:=⟨(z0r Tryz.prog).ty,(z0r Tryz.prog).fn⟩
theorem zaf7:zlt Tryz.prog EW:=z3h rfl fun p hp args S r h=>by
 unfold tabW at hp
 rcases List.mem_cons.1 hp with rfl | hp
 ·exact z7s h
 ·rcases List.mem_cons.1 hp with rfl | hp
  ·exact z7t h
  ·rcases List.mem_cons.1 hp with rfl | hp
   ·exact z3i h
   ·exact z5m p hp args S r h
end Go.Proofs.YtnoffnkmibjndaaGreat
