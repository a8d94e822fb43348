/-
  Printed by wip/tools/mkparts.py from what wip/tools/ck.py found: quinellalaw01.Works in parts.
-/
import Derived.Test.YtdamgacabfbpjaaGreatLka
import Derived.Test.YtdamgacabfbpjaaGreatLaw01WorksP1
import Derived.Test.YtdamgacabfbpjaaGreatLaw01WorksP3
import Derived.Test.YtdamgacabfbpjaaGreatLaw01WorksP5
import Derived.Test.YtdamgacabfbpjaaGreatLaw01WorksP7
import Derived.Test.YtdamgacabfbpjaaGreatWait2P0
import Derived.Test.YtdamgacabfbpjaaGreatWait2P1
import Derived.Test.YtdamgacabfbpjaaGreatLkb
import Derived.Test.YtdamgacabfbpjaaGreatLate1P1
import Derived.Test.YtdamgacabfbpjaaGreatBehindP1
import Derived.Test.YtdamgacabfbpjaaGreatBehindP2
import Derived.Test.YtdamgacabfbpjaaGreatBehindP3
set_option maxRecDepth 1000000
set_option maxHeartbeats 0
namespace Go.Proofs.YtdamgacabfbpjaaGreat
theorem zqx:Good Tryz.prog EE (EndsTrue 0) (zaa 189) (⟨.leaf,zbi 189⟩:Tm) st0:=(zcf zo ee_is zn zag ztu (by exact (zcf zo ee_is zn zag zty (by rw [zb1];exact (zcf zo ee_is zn zag ztv (by rw [zb1];exact (zcf zo ee_is zn zag ztz (by rw [zb1];exact (zcf zo ee_is zn zag ztw (by rw [zb1];exact (zcf zo ee_is zn zag zt0 (by rw [zb1];exact (zcf zo ee_is zn zag ztx (by rw [zb1];exact (zmy zo ee_is zn zag zr2)))))))))))))))
end Go.Proofs.YtdamgacabfbpjaaGreat
set_option maxRecDepth 1000000
set_option maxHeartbeats 0
namespace Go.Proofs.YtdamgacabfbpjaaGreat
theorem zz1:Good Tryz.prog EE (fun r=>zdr 4000 5695 [(4,iN 4),(5,iN 0)] r=true) (zaa 278) (⟨zc3 ([.sl 0 0 3 3,.sl 4 0 2 2]:List AV) 0 .leaf,zbi 278⟩:Tm) (⟨(trOf [(0,.cells [iN 3,iN 4,iN 4]),(1,.cells [iN 0,iN 2,iN 4]),(4,.cells [.sl 1 0 3 3,.sl 1 0 3 3])]:Tr AO),4000,0,0⟩:St):=(zp9 zo ee_is zn zag z4v (by exact (zsx zo ee_is zn zag z2n)))
end Go.Proofs.YtdamgacabfbpjaaGreat
set_option maxRecDepth 1000000
set_option maxHeartbeats 0
namespace Go.Proofs.YtdamgacabfbpjaaGreat
theorem zz2:Good Tryz.prog EE (fun r=>zdr 6000 7496 [(4,iN 2),(5,iN 0)] r=true) (zaa 279) (⟨zc3 ([.sl 0 0 3 3,.sl 3 0 1 1]:List AV) 0 .leaf,zbi 279⟩:Tm) (⟨(trOf [(0,.cells [iN 3,iN 4,iN 4]),(1,.cells [iN 0,iN 2,iN 4]),(3,.cells [.sl 1 0 3 3])]:Tr AO),6000,0,0⟩:St):=(zp9 zo ee_is zn zag z4w (by exact (zsx zo ee_is zn zag z2p)))
end Go.Proofs.YtdamgacabfbpjaaGreat
set_option maxRecDepth 1000000
set_option maxHeartbeats 0
namespace Go.Proofs.YtdamgacabfbpjaaGreat
theorem zxj:Good Tryz.prog EE (fun r=>(zn5 8000 11885 [(4,.slo 11884 0 3 1),(5,iN 0)] [(11884,.cells [iN 4,iN 5,iN 7])]) r=true) (zaa 280) (⟨zc3 ([.sl 0 0 3 3,.sl 3 0 1 1]:List AV) 0 .leaf,zbi 280⟩:Tm) (⟨trOf [(0,.cells [iN 3,iN 4,iN 4]),(1,.cells [iN 0,iN 2,iN 4]),(3,.cells [.sl 1 0 3 3])],8000,0,0⟩:St):=zfy (by decide +kernel) (zan zo ee_is zn zag z2o (zan zo ee_is zn zag z2q (zan zo ee_is zn zag z2r (ze4 zo ee_is zn zag zz0))))
end Go.Proofs.YtdamgacabfbpjaaGreat
set_option maxRecDepth 1000000
namespace Go.Proofs.YtdamgacabfbpjaaGreat
open Go.RowKit
noncomputable def z84:Tr AO:=trOf [(0,.cells [iN 3,iN 4,iN 4]),(1,.cells [iN 0,iN 2,iN 4]),(4,.cells [.sl 1 0 3 3,.sl 1 0 3 3])]
noncomputable def z85:Tr AO:=trOf [(0,.cells [iN 3,iN 4,iN 4]),(1,.cells [iN 0,iN 2,iN 4]),(3,.cells [.sl 1 0 3 3])]
noncomputable def zyz:List AV→St→Option Res:=recP [.sl 0 0 3 3,.sl 4 0 2 2] z84 4000 5695 (.tup [iN 4,iN 0])
noncomputable def zy0:List AV→St→Option Res:=recP [.sl 0 0 3 3,.sl 3 0 1 1] z85 6000 7496 (.tup [iN 2,iN 0])
theorem zz3 {E:Env} {args:List AV} {S:St} {r:Res} (h:zyz args S=some r):Lcl S r.st∧TaskOk Tryz.prog E S r (.call 278 args):=by
 obtain ⟨e1,e2⟩:=zda (f:=278) (by decide +kernel) Tryz.func278 rfl
 have g:=zz1
 rw [e1,e2] at g
 exact z1y ee_is (rs:=[(4,iN 4),(5,iN 0)]) Tryz.func278 rfl (by decide) rfl rfl rfl g h
theorem zz4 {E:Env} {args:List AV} {S:St} {r:Res} (h:zy0 args S=some r):Lcl S r.st∧TaskOk Tryz.prog E S r (.call 279 args):=by
 obtain ⟨e1,e2⟩:=zda (f:=279) (by decide +kernel) Tryz.func279 rfl
 have g:=zz2
 rw [e1,e2] at g
 exact z1y ee_is (rs:=[(4,iN 2),(5,iN 0)]) Tryz.func279 rfl (by decide) rfl rfl rfl g h
noncomputable def z7b:Tr AO:=trOf [(0,.cells [iN 3,iN 4,iN 4]),(1,.cells [iN 0,iN 2,iN 4]),(3,.cells [.sl 1 0 3 3])]
noncomputable def zs9:List AV→St→Option Res:=recM [.sl 0 0 3 3,.sl 3 0 1 1] z7b 8000 11885 (.tup [.slo 11884 0 3 1,iN 0]) [(11884,.cells [iN 4,iN 5,iN 7])]
theorem zwf {E:Env} {args:List AV} {S:St} {r:Res} (h:zs9 args S=some r):Lcl S r.st∧TaskOk Tryz.prog E S r (.call 280 args):=by
 obtain ⟨e1,e2⟩:=zda (f:=280) (by decide +kernel) Tryz.func280 rfl
 have g:=zxj
 rw [e1,e2] at g
 exact z63 ee_is (rs:=[(4,.slo 11884 0 3 1),(5,iN 0)]) Tryz.func280 rfl (by decide) rfl rfl g h
noncomputable def tabW:List (Nat × (List AV→St→Option Res)):=(278,zyz) :: (279,zy0) :: (280,zs9) :: tab0
noncomputable def EW:Env:={ zy8 Tryz.prog with tab:=trOf tabW }
theorem z5v:EnvIs EW Tryz.prog:=⟨(zuo Tryz.prog).ty,(zuo Tryz.prog).fn⟩
theorem z8d:TabOk Tryz.prog EW:=zwe rfl fun p hp args S r h=>by
 unfold tabW at hp
 rcases List.mem_cons.1 hp with rfl | hp
 ·exact zz3 h
 ·rcases List.mem_cons.1 hp with rfl | hp
  ·exact zz4 h
  ·rcases List.mem_cons.1 hp with rfl | hp
   ·exact zwf h
   ·exact zyy p hp args S r h
end Go.Proofs.YtdamgacabfbpjaaGreat
