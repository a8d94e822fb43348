/-
  The statement TopJudgedBoxes holds: of some races, on which judges agree, those can have won who can have been in the first place: they are a box, and a ticket surely wins just if it has all of it: then the box is idle beside it. For every list of races, a ticket, and finishes by numbers. No condition.
-/
import Derived.Test.YtkfifbopmpcanaaGreatJudged
namespace Go.Proofs.YtkfifbopmpcanaaGreat
open Go.RowKit
open Go.ChangeShapes Go.WideShapes Go.ChangeAt in
set_option maxRecDepth 100000 in
theorem zkt (os:Os) (started:os.Started) (H:Type) (enc:TypeId × Value→H) :
  ReturnsInHanded {} Tryz.checked os 4 .any (Rows.topJudgedBoxesSpec.pre6 enc Tryz.prog Tryz.f4 Rows.topJudgedBoxesRow.domain false) (Rows.topJudgedBoxesSpec.post enc Tryz.prog Tryz.f4 false true false false):=by
 refine returnsInHanded_of_change (C:=Tryz.checked) own started (by kernel_rfl) Tryz.func4
  (ChangeSpec.witness6 (enc:=enc) (C:=Tryz.checked) false ⟨#[],#[.slice none 0 0,.agg #[.int .u8 0,.int .u8 0,.int .u8 0],.agg #[.slice none 0 0,.slice none 0 0,.slice none 0 0]],[]⟩ 8 (by kernel_rfl) (by kernel_rfl) (by kernel_rfl) (by kernel_rfl)) ?_
 intro W base args ds gs before hval0 hW hcnd _
 have hval:∀ (j:Nat) t v,Tryz.f4.params[j]? = some t→args[j]? = some v→Value.okWide Tryz.prog W .any base t v:=hval0
 have hW':=hW
 obtain ⟨p,q,hA0,hV,rfl,hfz,hnd⟩:=hW
 have hA:DataW.TrodAll enc Tryz.prog W 0 (fun _=>true) true Tryz.f4.params.toList args.toList ds p:=hA0
 rw [Tryz.params4] at hA hval
 obtain ⟨v0,vs0,d0,ds0,p0,q0,hargs,rfl,rfl,h0,r0⟩:=trodAll_cons hA
 obtain ⟨v1,vs1,d1,ds1,p1,q1,rfl,rfl,rfl,h1,r1⟩:=trodAll_cons r0
 obtain ⟨v2,vs2,d2,ds2,p2,q2,rfl,rfl,rfl,h2,r2⟩:=trodAll_cons r1
 obtain ⟨rfl,rfl,rfl⟩:=trodAll_nil r2
 obtain rfl:args = #[v0,v1,v2]:=by cases args;simp_all
 obtain ⟨l,hl⟩:=z3j (hval 0 59 v0 rfl rfl) h0
 obtain ⟨sa,sb,sc,rfl,wsa,wsb,wsc⟩:=z07 (hval 1 60 v1 rfl rfl) h1
 obtain ⟨yu,yv,yw,ya,yb,yc,rfl,hya,hyb,hyc⟩:=z08 (hval 2 62 v2 rfl rfl) h2
 clear hA0 hval0
 refine (zno v0 l sa sb sc yu yv yw ya yb yc W hl wsa wsb wsc hya hyb hyc).mono fun e W' ⟨he,hb⟩=>?_
 subst he
 exact ⟨_,rfl,z5l laidOut (tb:=4) (z8p (by kernel_rfl)) (by kernel_rfl) Tryz.underlying4 hW' rfl rfl hb⟩
set_option maxRecDepth 100000
theorem zl0:mapsRowed Tryz.pinned.checked.prog=true:=by kernel_rfl
theorem zh9:(Rows.topJudgedBoxesRow.inPlace == Tryz.pinned.checked.prog.inPlace 4)=true:=by kernel_rfl
theorem zgr:(Rows.topJudgedBoxesRow.unfollowed == Tryz.pinned.checked.prog.unfollowed 4)=true:=by kernel_rfl
theorem zhq:(Rows.topJudgedBoxesRow.recurses == Tryz.pinned.checked.prog.recurses 4)=true:=by kernel_rfl
theorem zl1:(Rows.topJudgedBoxesRow.named == Tryz.pinned.checked.prog.varsNamed 4)=true:=by kernel_rfl
theorem zl2:Tryz.pinned.checked.prog.stopsHeard=true:=by kernel_rfl
theorem zl3:Tryz.pinned.checked.prog.mayEnter=true:=by kernel_rfl
theorem zma:(Rows.topJudgedBoxesRow.lifted == Tryz.pinned.checked.prog.liftsFinal)=true:=by kernel_rfl
theorem zmb:(Tryz.pinned.checked.prog.make == some Rows.topJudgedBoxesRow.make)=true:=by kernel_rfl
theorem zmc:laidOutB Tryz.pinned.checked.prog=true:=laidOut
theorem zmd:Tryz.pinned.checked.prog.funcNamed Rows.topJudgedBoxesRow.func=some 4:=by kernel_rfl
theorem zku:joinedFacts Tryz.pinned.checked.prog 4 Tryz.f4 Rows.topJudgedBoxesSpec Rows.topJudgedBoxesRow=true:=by
 unfold joinedFacts
 rw [zmc,zl0,zh9,zgr,zhq,zl1,zl2,zl3,zma,zmb]
 kernel_rfl
theorem zme:Tryz.f4.isInstance Tryz.pinned.checked.prog Rows.topJudgedBoxesRow.origin Rows.topJudgedBoxesRow.targs:=of_decide_eq_true (by kernel_rfl)
theorem zmf:Tryz.f4.isWrapper Tryz.pinned.checked.prog Rows.topJudgedBoxesRow.wrapper Rows.topJudgedBoxesRow.mainSum:=by unfold Func.isWrapper;first | (rw [if_pos (by decide +kernel)];kernel_rfl) | (rw [if_neg (by decide +kernel)];exact ⟨rfl,rfl⟩)
theorem topJudgedBoxes_holds:Rows.TopJudgedBoxesSaid :=
 OpenClaim.holds_of_wide 4 Tryz.f4 rfl rfl rfl rfl rfl rfl rfl ⟨rfl,rfl,rfl,rfl,rfl⟩ rfl rfl rfl rfl rfl zmd Tryz.func4 zku zme zmf
  (fun os started H enc _=>zkt os started H enc)
end Go.Proofs.YtkfifbopmpcanaaGreat
