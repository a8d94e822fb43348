/-
  Printed by wip/tools/mkparts.py from what wip/tools/ck.py found: quinellalaw01.Works in parts.
-/
import Derived.Test.YtkbaiobnibmmgaaGreatLka
import Derived.Test.YtkbaiobnibmmgaaGreatLaw01WorksP1
import Derived.Test.YtkbaiobnibmmgaaGreatLaw01WorksP3
import Derived.Test.YtkbaiobnibmmgaaGreatLaw01WorksP5
import Derived.Test.YtkbaiobnibmmgaaGreatLaw01WorksP7
import Derived.Test.YtkbaiobnibmmgaaGreatWait2P0
import Derived.Test.YtkbaiobnibmmgaaGreatWait2P1
import Derived.Test.YtkbaiobnibmmgaaGreatLkb
import Derived.Test.YtkbaiobnibmmgaaGreatLate1P1
import Derived.Test.YtkbaiobnibmmgaaGreatBehindP1
import Derived.Test.YtkbaiobnibmmgaaGreatBehindP2
import Derived.Test.YtkbaiobnibmmgaaGreatBehindP3
set_option maxRecDepth 1000000
set_option maxHeartbeats 0
namespace Go.Proofs.YtkbaiobnibmmgaaGreat
theorem zry:Good Tryz.prog EE (EndsTrue 0) (zae 249) (⟨.leaf,zbl 249⟩:Tm) st0:=(zcm zw ee_is zu zaj zus (by exact (zcm zw ee_is zu zaj zuw (by rw [zb9];exact (zcm zw ee_is zu zaj zut (by rw [zb9];exact (zcm zw ee_is zu zaj zux (by rw [zb9];exact (zcm zw ee_is zu zaj zuu (by rw [zb9];exact (zcm zw ee_is zu zaj zuy (by rw [zb9];exact (zcm zw ee_is zu zaj zuv (by rw [zb9];exact (zns zw ee_is zu zaj zsz)))))))))))))))
end Go.Proofs.YtkbaiobnibmmgaaGreat
set_option maxRecDepth 1000000
set_option maxHeartbeats 0
namespace Go.Proofs.YtkbaiobnibmmgaaGreat
theorem z0x:Good Tryz.prog EE (fun r=>zdz 4000 5695 [(4,iN 4),(5,iN 0)] r=true) (zae 340) (⟨zdg ([.sl 0 0 3 3,.sl 4 0 2 2]:List AV) 0 .leaf,zbl 340⟩:Tm) (⟨(trOf [(0,.cells [iN 3,iN 4,iN 4]),(1,.cells [iN 0,iN 2,iN 4]),(4,.cells [.sl 1 0 3 3,.sl 1 0 3 3])]:Tr AO),4000,0,0⟩:St):=(zq8 zw ee_is zu zaj z5m (by exact (zts zw ee_is zu zaj z3g)))
end Go.Proofs.YtkbaiobnibmmgaaGreat
set_option maxRecDepth 1000000
set_option maxHeartbeats 0
namespace Go.Proofs.YtkbaiobnibmmgaaGreat
theorem z0y:Good Tryz.prog EE (fun r=>zdz 6000 7496 [(4,iN 2),(5,iN 0)] r=true) (zae 341) (⟨zdg ([.sl 0 0 3 3,.sl 3 0 1 1]:List AV) 0 .leaf,zbl 341⟩:Tm) (⟨(trOf [(0,.cells [iN 3,iN 4,iN 4]),(1,.cells [iN 0,iN 2,iN 4]),(3,.cells [.sl 1 0 3 3])]:Tr AO),6000,0,0⟩:St):=(zq8 zw ee_is zu zaj z5n (by exact (zts zw ee_is zu zaj z3i)))
end Go.Proofs.YtkbaiobnibmmgaaGreat
set_option maxRecDepth 1000000
set_option maxHeartbeats 0
namespace Go.Proofs.YtkbaiobnibmmgaaGreat
theorem zyc:Good Tryz.prog EE (fun r=>(zo5 8000 11885 [(4,.slo 11884 0 3 1),(5,iN 0)] [(11884,.cells [iN 4,iN 5,iN 7])]) r=true) (zae 342) (⟨zdg ([.sl 0 0 3 3,.sl 3 0 1 1]:List AV) 0 .leaf,zbl 342⟩:Tm) (⟨trOf [(0,.cells [iN 3,iN 4,iN 4]),(1,.cells [iN 0,iN 2,iN 4]),(3,.cells [.sl 1 0 3 3])],8000,0,0⟩:St):=ze6 (by decide +kernel) (zaw zw ee_is zu zaj z3h (zaw zw ee_is zu zaj z3j (zaw zw ee_is zu zaj z3k (zed zw ee_is zu zaj z0w))))
end Go.Proofs.YtkbaiobnibmmgaaGreat
set_option maxRecDepth 1000000
namespace Go.Proofs.YtkbaiobnibmmgaaGreat
open Go.RowKit
noncomputable def z92:Tr AO:=trOf [(0,.cells [iN 3,iN 4,iN 4]),(1,.cells [iN 0,iN 2,iN 4]),(4,.cells [.sl 1 0 3 3,.sl 1 0 3 3])]
noncomputable def z93:Tr AO:=trOf [(0,.cells [iN 3,iN 4,iN 4]),(1,.cells [iN 0,iN 2,iN 4]),(3,.cells [.sl 1 0 3 3])]
noncomputable def zzo:List AV→St→Option Res:=recP [.sl 0 0 3 3,.sl 4 0 2 2] z92 4000 5695 (.tup [iN 4,iN 0])
noncomputable def zzp:List AV→St→Option Res:=recP [.sl 0 0 3 3,.sl 3 0 1 1] z93 6000 7496 (.tup [iN 2,iN 0])
theorem z0z {E:Env} {args:List AV} {S:St} {r:Res} (h:zzo args S=some r):Lcl S r.st∧TaskOk Tryz.prog E S r (.call 340 args):=by
 obtain ⟨e1,e2⟩:=zcz (f:=340) (by decide +kernel) Tryz.func340 rfl
 have g:=z0x
 rw [e1,e2] at g
 exact z2v ee_is (rs:=[(4,iN 4),(5,iN 0)]) Tryz.func340 rfl (by decide) rfl rfl rfl g h
theorem z00 {E:Env} {args:List AV} {S:St} {r:Res} (h:zzp args S=some r):Lcl S r.st∧TaskOk Tryz.prog E S r (.call 341 args):=by
 obtain ⟨e1,e2⟩:=zcz (f:=341) (by decide +kernel) Tryz.func341 rfl
 have g:=z0y
 rw [e1,e2] at g
 exact z2v ee_is (rs:=[(4,iN 2),(5,iN 0)]) Tryz.func341 rfl (by decide) rfl rfl rfl g h
noncomputable def z77:Tr AO:=trOf [(0,.cells [iN 3,iN 4,iN 4]),(1,.cells [iN 0,iN 2,iN 4]),(3,.cells [.sl 1 0 3 3])]
noncomputable def zt6:List AV→St→Option Res:=recM [.sl 0 0 3 3,.sl 3 0 1 1] z77 8000 11885 (.tup [.slo 11884 0 3 1,iN 0]) [(11884,.cells [iN 4,iN 5,iN 7])]
theorem zxe {E:Env} {args:List AV} {S:St} {r:Res} (h:zt6 args S=some r):Lcl S r.st∧TaskOk Tryz.prog E S r (.call 342 args):=by
 obtain ⟨e1,e2⟩:=zcz (f:=342) (by decide +kernel) Tryz.func342 rfl
 have g:=zyc
 rw [e1,e2] at g
 exact z7z ee_is (rs:=[(4,.slo 11884 0 3 1),(5,iN 0)]) Tryz.func342 rfl (by decide) rfl rfl g h
noncomputable def tabW:List (Nat × (List AV→St→Option Res)):=(340,zzo) :: (341,zzp) :: (342,zt6) :: tab0
noncomputable def EW:Env:={ zz1 Tryz.prog with tab:=trOf tabW }
theorem z6v:EnvIs EW Tryz.prog:=⟨(zvn Tryz.prog).ty,(zvn Tryz.prog).fn⟩
theorem z89:TabOk Tryz.prog EW:=zxd rfl fun p hp args S r h=>by
 unfold tabW at hp
 rcases List.mem_cons.1 hp with rfl | hp
 ·exact z0z h
 ·rcases List.mem_cons.1 hp with rfl | hp
  ·exact z00 h
  ·rcases List.mem_cons.1 hp with rfl | hp
   ·exact zxe h
   ·exact zzn p hp args S r h
end Go.Proofs.YtkbaiobnibmmgaaGreat
