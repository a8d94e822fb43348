/-
  Printed by wip/tools/mkparts.py from what wip/tools/ck.py found: quinellalaw01.Works in parts.
-/
import Derived.Test.YtkfifbopmpcanaaGreatLka
import Derived.Test.YtkfifbopmpcanaaGreatLaw01WorksP1
import Derived.Test.YtkfifbopmpcanaaGreatLaw01WorksP3
import Derived.Test.YtkfifbopmpcanaaGreatLaw01WorksP5
import Derived.Test.YtkfifbopmpcanaaGreatLaw01WorksP7
import Derived.Test.YtkfifbopmpcanaaGreatWait2P0
import Derived.Test.YtkfifbopmpcanaaGreatWait2P1
import Derived.Test.YtkfifbopmpcanaaGreatLkb
import Derived.Test.YtkfifbopmpcanaaGreatLate1P1
import Derived.Test.YtkfifbopmpcanaaGreatBehindP1
import Derived.Test.YtkfifbopmpcanaaGreatBehindP2
import Derived.Test.YtkfifbopmpcanaaGreatBehindP3
set_option maxRecDepth 1000000
set_option maxHeartbeats 0
namespace Go.Proofs.YtkfifbopmpcanaaGreat
theorem zq5:Good Tryz.prog EE (EndsTrue 0) (zad 258) (⟨.leaf,zbe 258⟩:Tm) st0:=(zcd zp ee_is zo zai zt0 (by exact (zcd zp ee_is zo zai zt5 (by rw [zb0];exact (zcd zp ee_is zo zai zt1 (by rw [zb0];exact (zcd zp ee_is zo zai zt6 (by rw [zb0];exact (zcd zp ee_is zo zai zt3 (by rw [zb0];exact (zcd zp ee_is zo zai zt7 (by rw [zb0];exact (zcd zp ee_is zo zai zt4 (by rw [zb0];exact (zm5 zp ee_is zo zai zsb)))))))))))))))
end Go.Proofs.YtkfifbopmpcanaaGreat
set_option maxRecDepth 1000000
set_option maxHeartbeats 0
namespace Go.Proofs.YtkfifbopmpcanaaGreat
theorem zz4:Good Tryz.prog EE (fun r=>zdv 4000 5695 [(4,iN 4),(5,iN 0)] r=true) (zad 346) (⟨zda ([.sl 0 0 3 3,.sl 4 0 2 2]:List AV) 0 .leaf,zbe 346⟩:Tm) (⟨(trOf [(0,.cells [iN 3,iN 4,iN 4]),(1,.cells [iN 0,iN 2,iN 4]),(4,.cells [.sl 1 0 3 3,.sl 1 0 3 3])]:Tr AO),4000,0,0⟩:St):=(zqf zp ee_is zo zai z4p (by exact (zs6 zp ee_is zo zai z2x)))
end Go.Proofs.YtkfifbopmpcanaaGreat
set_option maxRecDepth 1000000
set_option maxHeartbeats 0
namespace Go.Proofs.YtkfifbopmpcanaaGreat
theorem zz5:Good Tryz.prog EE (fun r=>zdv 6000 7496 [(4,iN 2),(5,iN 0)] r=true) (zad 347) (⟨zda ([.sl 0 0 3 3,.sl 3 0 1 1]:List AV) 0 .leaf,zbe 347⟩:Tm) (⟨(trOf [(0,.cells [iN 3,iN 4,iN 4]),(1,.cells [iN 0,iN 2,iN 4]),(3,.cells [.sl 1 0 3 3])]:Tr AO),6000,0,0⟩:St):=(zqf zp ee_is zo zai z4q (by exact (zs6 zp ee_is zo zai z2z)))
end Go.Proofs.YtkfifbopmpcanaaGreat
set_option maxRecDepth 1000000
set_option maxHeartbeats 0
namespace Go.Proofs.YtkfifbopmpcanaaGreat
theorem zxq:Good Tryz.prog EE (fun r=>(zof 8000 11885 [(4,.slo 11884 0 3 1),(5,iN 0)] [(11884,.cells [iN 4,iN 5,iN 7])]) r=true) (zad 348) (⟨zda ([.sl 0 0 3 3,.sl 3 0 1 1]:List AV) 0 .leaf,zbe 348⟩:Tm) (⟨trOf [(0,.cells [iN 3,iN 4,iN 4]),(1,.cells [iN 0,iN 2,iN 4]),(3,.cells [.sl 1 0 3 3])],8000,0,0⟩:St):=zez (by decide +kernel) (zas zp ee_is zo zai z2y (zas zp ee_is zo zai z20 (zas zp ee_is zo zai z21 (zea zp ee_is zo zai zz3))))
end Go.Proofs.YtkfifbopmpcanaaGreat
set_option maxRecDepth 1000000
namespace Go.Proofs.YtkfifbopmpcanaaGreat
open Go.RowKit
noncomputable def z80:Tr AO:=trOf [(0,.cells [iN 3,iN 4,iN 4]),(1,.cells [iN 0,iN 2,iN 4]),(4,.cells [.sl 1 0 3 3,.sl 1 0 3 3])]
noncomputable def z81:Tr AO:=trOf [(0,.cells [iN 3,iN 4,iN 4]),(1,.cells [iN 0,iN 2,iN 4]),(3,.cells [.sl 1 0 3 3])]
noncomputable def zy4:List AV→St→Option Res:=recP [.sl 0 0 3 3,.sl 4 0 2 2] z80 4000 5695 (.tup [iN 4,iN 0])
noncomputable def zy5:List AV→St→Option Res:=recP [.sl 0 0 3 3,.sl 3 0 1 1] z81 6000 7496 (.tup [iN 2,iN 0])
theorem zz6 {E:Env} {args:List AV} {S:St} {r:Res} (h:zy4 args S=some r):Lcl S r.st∧TaskOk Tryz.prog E S r (.call 346 args):=by
 obtain ⟨e1,e2⟩:=zcs (f:=346) (by decide +kernel) Tryz.func346 rfl
 have g:=zz4
 rw [e1,e2] at g
 exact z2d ee_is (rs:=[(4,iN 4),(5,iN 0)]) Tryz.func346 rfl (by decide) rfl rfl rfl g h
theorem zz7 {E:Env} {args:List AV} {S:St} {r:Res} (h:zy5 args S=some r):Lcl S r.st∧TaskOk Tryz.prog E S r (.call 347 args):=by
 obtain ⟨e1,e2⟩:=zcs (f:=347) (by decide +kernel) Tryz.func347 rfl
 have g:=zz5
 rw [e1,e2] at g
 exact z2d ee_is (rs:=[(4,iN 2),(5,iN 0)]) Tryz.func347 rfl (by decide) rfl rfl rfl g h
noncomputable def z7d:Tr AO:=trOf [(0,.cells [iN 3,iN 4,iN 4]),(1,.cells [iN 0,iN 2,iN 4]),(3,.cells [.sl 1 0 3 3])]
noncomputable def zth:List AV→St→Option Res:=recM [.sl 0 0 3 3,.sl 3 0 1 1] z7d 8000 11885 (.tup [.slo 11884 0 3 1,iN 0]) [(11884,.cells [iN 4,iN 5,iN 7])]
theorem zwm {E:Env} {args:List AV} {S:St} {r:Res} (h:zth args S=some r):Lcl S r.st∧TaskOk Tryz.prog E S r (.call 348 args):=by
 obtain ⟨e1,e2⟩:=zcs (f:=348) (by decide +kernel) Tryz.func348 rfl
 have g:=zxq
 rw [e1,e2] at g
 exact z65 ee_is (rs:=[(4,.slo 11884 0 3 1),(5,iN 0)]) Tryz.func348 rfl (by decide) rfl rfl g h
noncomputable def tabW:List (Nat × (List AV→St→Option Res)):=(346,zy4) :: (347,zy5) :: (348,zth) :: tab0
noncomputable def EW:Env:={ zzc Tryz.prog with tab:=trOf tabW }
theorem z51:EnvIs EW Tryz.prog:=⟨(zuu Tryz.prog).ty,(zuu Tryz.prog).fn⟩
theorem z8a:TabOk Tryz.prog EW:=zwl rfl fun p hp args S r h=>by
 unfold tabW at hp
 rcases List.mem_cons.1 hp with rfl | hp
 ·exact zz6 h
 ·rcases List.mem_cons.1 hp with rfl | hp
  ·exact zz7 h
  ·rcases List.mem_cons.1 hp with rfl | hp
   ·exact zwm h
   ·exact zy3 p hp args S r h
end Go.Proofs.YtkfifbopmpcanaaGreat
