/-
  The statement TopTornBoxes holds: the sets of letters of a torn ticket are a box of a card with a race for each letter of the code: no more codes fit it than the box has outcomes, and no more fit some of several torn tickets than these cover; a code that fits is an outcome with which its box wins. For every day, and rows of numbers. No condition.
-/
import Derived.Test.YtdcnbeehckgpcaaGreatYf
set_option maxRecDepth 200000
set_option maxHeartbeats 0
set_option linter.unusedSimpArgs false
set_option linter.unusedVariables false
namespace Go.Proofs.YtdcnbeehckgpcaaGreat
open Go.RowKit
open Go.ChangeShapes Go.WideShapes Go.ChangeAt in
theorem zrx (os:Os)(started:os.Started)(H:Type)(enc:TypeId×Value→H) :
  ReturnsInHanded {} Tryz.checked os 3 .any (Rows.topTornBoxesSpec.pre6 enc Tryz.prog Tryz.f3 Rows.topTornBoxesRow.domain false) (Rows.topTornBoxesSpec.post enc Tryz.prog Tryz.f3 false true false false):=by
 refine returnsInHanded_of_change (C:=Tryz.checked) own started (by kernel_rfl) Tryz.func3
  (ChangeSpec.witness6 (enc:=enc) (C:=Tryz.checked) false ⟨#[],#[.agg #[.int .i64 0,.int .i64 0,.slice none 0 0,.int .i64 0],.slice none 0 0],[]⟩ 8 (by kernel_rfl) (by kernel_rfl) (by kernel_rfl) (by kernel_rfl)) ?_
 intro W base args ds gs before hval0 hW hcnd _;have hval:∀(j:Nat) t v,Tryz.f3.params[j]?=some t→args[j]?=some v→Value.okWide Tryz.prog W .any base t v:=hval0;have hW':=hW;obtain⟨p,q,hA0,hV,rfl,hfz,hnd⟩:=hW;have hA:DataW.TrodAll enc Tryz.prog W 0 (fun _=>true) true Tryz.f3.params.toList args.toList ds p:=hA0;rw[Tryz.params3]at hA hval;obtain⟨v0,vs0,d0,ds0,p0,q0,hargs,rfl,rfl,h0,r0⟩:=trodAll_cons hA;obtain⟨v1,vs1,d1,ds1,p1,q1,rfl,rfl,rfl,h1,r1⟩:=trodAll_cons r0;obtain⟨rfl,rfl,rfl⟩:=trodAll_nil r1;obtain rfl:args=#[v0,v1]:=by cases args;simp_all
 obtain⟨dL,dn,dr,dk,dv,rfl,hd⟩:=zajw (hval 0 24 v0 rfl rfl) h0;obtain⟨rs,hrs,wrs⟩:=zaev (hval 1 25 v1 rfl rfl) h1;clear hA0 hval0;refine(zwz dL dn dr dk dv v1 rs W hd hrs wrs).mono fun e W' ⟨he,hb⟩=>?_
 subst he;exact⟨_,rfl,zahg laidOut (tb:=4) (zak9 (by kernel_rfl)) (by kernel_rfl) Tryz.underlying4 hW' rfl rfl hb⟩
theorem ztr:mapsRowed Tryz.pinned.checked.prog=true:=by kernel_rfl
theorem zrr:(Rows.topTornBoxesRow.inPlace == Tryz.pinned.checked.prog.inPlace 3)=true:=by kernel_rfl
theorem zmf:(Rows.topTornBoxesRow.unfollowed == Tryz.pinned.checked.prog.unfollowed 3)=true:=by kernel_rfl
theorem zp2:(Rows.topTornBoxesRow.recurses == Tryz.pinned.checked.prog.recurses 3)=true:=by kernel_rfl
theorem zts:(Rows.topTornBoxesRow.named == Tryz.pinned.checked.prog.varsNamed 3)=true:=by kernel_rfl
theorem ztt:Tryz.pinned.checked.prog.stopsHeard=true:=by kernel_rfl
theorem ztu:Tryz.pinned.checked.prog.mayEnter=true:=by kernel_rfl
theorem zu1:(Rows.topTornBoxesRow.lifted == Tryz.pinned.checked.prog.liftsFinal)=true:=by kernel_rfl
theorem zu2:(Tryz.pinned.checked.prog.make == some Rows.topTornBoxesRow.make)=true:=by kernel_rfl
theorem zu3:laidOutB Tryz.pinned.checked.prog=true:=laidOut
theorem zu4:Tryz.pinned.checked.prog.funcNamed Rows.topTornBoxesRow.func=some 3:=by kernel_rfl
theorem zry:joinedFacts Tryz.pinned.checked.prog 3 Tryz.f3 Rows.topTornBoxesSpec Rows.topTornBoxesRow=true:=by
 unfold joinedFacts;rw[zu3,ztr,zrr,zmf,zp2,zts,ztt,ztu,zu1,zu2]
 kernel_rfl
theorem zu5:Tryz.f3.isInstance Tryz.pinned.checked.prog Rows.topTornBoxesRow.origin Rows.topTornBoxesRow.targs:=of_decide_eq_true (by kernel_rfl)
theorem zu6:Tryz.f3.isWrapper Tryz.pinned.checked.prog Rows.topTornBoxesRow.wrapper Rows.topTornBoxesRow.mainSum:=by unfold Func.isWrapper;first|(rw[if_pos (by decide +kernel)];kernel_rfl)|(rw[if_neg (by decide +kernel)];exact⟨rfl,rfl⟩)
theorem topTornBoxes_holds:Rows.TopTornBoxesSaid :=
 OpenClaim.holds_of_wide 3 Tryz.f3 rfl rfl rfl rfl rfl rfl rfl ⟨rfl,rfl,rfl,rfl,rfl⟩ rfl rfl rfl rfl rfl zu4 Tryz.func3 zry zu5 zu6
  (fun os started H enc _=>zrx os started H enc)
end Go.Proofs.YtdcnbeehckgpcaaGreat
