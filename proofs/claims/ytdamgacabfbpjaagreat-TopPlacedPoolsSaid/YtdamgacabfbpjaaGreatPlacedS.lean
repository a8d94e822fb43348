/-
  The statement TopPlacedPools holds: from heats to pools: groups of runners by their places are a finish of a pool, those in place 1 win it, those in place 1 or 2 are placed, and the pairs that win are of the first two. For every race, and a finish by numbers. No condition.
-/
import Derived.Test.YtdamgacabfbpjaaGreatPlaced
namespace Go.Proofs.YtdamgacabfbpjaaGreat
open Go.RowKit
open Go.ChangeShapes Go.WideShapes Go.ChangeAt in
set_option maxRecDepth 100000 in
theorem zky (os:Os) (started:os.Started) (H:Type) (enc:TypeId × Value→H) :
  ReturnsInHanded {} Tryz.checked os 3 .any (Rows.topPlacedPoolsSpec.pre6 enc Tryz.prog Tryz.f3 Rows.topPlacedPoolsRow.domain false) (Rows.topPlacedPoolsSpec.post enc Tryz.prog Tryz.f3 false true false false):=by
 refine returnsInHanded_of_change (C:=Tryz.checked) own started (by kernel_rfl) Tryz.func3
  (ChangeSpec.witness6 (enc:=enc) (C:=Tryz.checked) false ⟨#[],#[.agg #[.int .i64 0,.slice none 0 0],.slice none 0 0],[]⟩ 8 (by kernel_rfl) (by kernel_rfl) (by kernel_rfl) (by kernel_rfl)) ?_
 intro W base args ds gs before hval0 hW hcnd _
 have hval:∀ (j:Nat) t v,Tryz.f3.params[j]? = some t→args[j]? = some v→Value.okWide Tryz.prog W .any base t v:=hval0
 have hW':=hW
 obtain ⟨p,q,hA0,hV,rfl,hfz,hnd⟩:=hW
 have hA:DataW.TrodAll enc Tryz.prog W 0 (fun _=>true) true Tryz.f3.params.toList args.toList ds p:=hA0
 rw [Tryz.params3] at hA hval
 obtain ⟨v0,vs0,d0,ds0,p0,q0,hargs,rfl,rfl,h0,r0⟩:=trodAll_cons hA
 obtain ⟨v1,vs1,d1,ds1,p1,q1,rfl,rfl,rfl,h1,r1⟩:=trodAll_cons r0
 obtain ⟨rfl,rfl,rfl⟩:=trodAll_nil r1
 obtain rfl:args = #[v0,v1]:=by cases args;simp_all
 obtain ⟨h,hs,hc,rfl,hh⟩:=z5j (hval 0 24 v0 rfl rfl) h0
 obtain ⟨bs,hbs,wbs⟩:=z3l (k:=.u8) Tryz.underlying25 Tryz.underlying5 (by kernel_rfl) (hval 1 25 v1 rfl rfl) h1
 clear hA0 hval0
 refine (zne h hs hc v1 bs W hh hbs wbs).mono fun e W' ⟨he,hb⟩=>?_
 subst he
 exact ⟨_,rfl,z5i laidOut (tb:=4) (z8t (by kernel_rfl)) (by kernel_rfl) Tryz.underlying4 hW' rfl rfl hb⟩
set_option maxRecDepth 100000
theorem topPlacedPools_mapsR:mapsRowed Tryz.pinned.checked.prog=true:=by kernel_rfl
theorem topPlacedPools_inPlace:(Rows.topPlacedPoolsRow.inPlace == Tryz.pinned.checked.prog.inPlace 3)=true:=by kernel_rfl
theorem topPlacedPools_unfollowed:(Rows.topPlacedPoolsRow.unfollowed == Tryz.pinned.checked.prog.unfollowed 3)=true:=by kernel_rfl
theorem topPlacedPools_recurses:(Rows.topPlacedPoolsRow.recurses == Tryz.pinned.checked.prog.recurses 3)=true:=by kernel_rfl
theorem topPlacedPools_named:(Rows.topPlacedPoolsRow.named == Tryz.pinned.checked.prog.varsNamed 3)=true:=by kernel_rfl
theorem topPlacedPools_heard:Tryz.pinned.checked.prog.stopsHeard=true:=by kernel_rfl
theorem topPlacedPools_enter:Tryz.pinned.checked.prog.mayEnter=true:=by kernel_rfl
theorem topPlacedPools_lift:(Rows.topPlacedPoolsRow.lifted == Tryz.pinned.checked.prog.liftsFinal)=true:=by kernel_rfl
theorem topPlacedPools_made:(Tryz.pinned.checked.prog.make == some Rows.topPlacedPoolsRow.make)=true:=by kernel_rfl
theorem topPlacedPools_laid:laidOutB Tryz.pinned.checked.prog=true:=laidOut
theorem topPlacedPools_func:Tryz.pinned.checked.prog.funcNamed Rows.topPlacedPoolsRow.func=some 3:=by kernel_rfl
theorem topPlacedPools_joined:joinedFacts Tryz.pinned.checked.prog 3 Tryz.f3 Rows.topPlacedPoolsSpec Rows.topPlacedPoolsRow=true:=by
 unfold joinedFacts
 rw [topPlacedPools_laid,topPlacedPools_mapsR,topPlacedPools_inPlace,topPlacedPools_unfollowed,topPlacedPools_recurses,topPlacedPools_named,topPlacedPools_heard,topPlacedPools_enter,topPlacedPools_lift,topPlacedPools_made]
 kernel_rfl
theorem topPlacedPools_inst:Tryz.f3.isInstance Tryz.pinned.checked.prog Rows.topPlacedPoolsRow.origin Rows.topPlacedPoolsRow.targs:=of_decide_eq_true (by kernel_rfl)
theorem topPlacedPools_wrap:Tryz.f3.isWrapper Tryz.pinned.checked.prog Rows.topPlacedPoolsRow.wrapper Rows.topPlacedPoolsRow.mainSum:=by unfold Func.isWrapper;first | (rw [if_pos (by decide +kernel)];kernel_rfl) | (rw [if_neg (by decide +kernel)];exact ⟨rfl,rfl⟩)
theorem topPlacedPools_holds:Rows.TopPlacedPoolsSaid :=
 OpenClaim.holds_of_wide 3 Tryz.f3 rfl rfl rfl rfl rfl rfl rfl ⟨rfl,rfl,rfl,rfl,rfl⟩ rfl rfl rfl rfl rfl topPlacedPools_func Tryz.func3 topPlacedPools_joined topPlacedPools_inst topPlacedPools_wrap
  (fun os started H enc _=>zky os started H enc)
end Go.Proofs.YtdamgacabfbpjaaGreat
