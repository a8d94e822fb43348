/-
  The statement TopTurnedCrowds holds: each window sends a person in each of its blocks of as many minutes as it has threads: the visits of a circle serve all of them with one machine. For every hall and number of minutes. No condition.
-/
import Derived.Test.YtnfdiohfojjnlaaGreatWg
import Derived.OpenShut
set_option maxRecDepth 200000
set_option maxHeartbeats 0
set_option linter.unusedSimpArgs false
set_option linter.unusedVariables false
namespace Go.Proofs.YtnfdiohfojjnlaaGreat
open Go.RowKit
open Go.ChangeShapes Go.WideShapes Go.ChangeAt in
theorem zk0 (os:Os) (started:os.Started) (H:Type) (enc:TypeId × Value→H) :
  ReturnsInHanded {} Tryz.checked os 3 .any (Rows.topTurnedCrowdsSpec.pre6 enc Tryz.prog Tryz.f3 Rows.topTurnedCrowdsRow.domain false) (Rows.topTurnedCrowdsSpec.post enc Tryz.prog Tryz.f3 false true false false):=by
 refine returnsInHanded_of_change (C:=Tryz.checked) own started (by kernel_rfl) Tryz.func3
  (ChangeSpec.witness6 (enc:=enc) (C:=Tryz.checked) false ⟨#[],#[.agg #[.slice none 0 0],.int .u8 0],[]⟩ 8 (by kernel_rfl) (by kernel_rfl) (by kernel_rfl) (by kernel_rfl)) ?_
 intro W base args ds gs before hval0 hW hcnd _;have hval:∀ (j:Nat) t v,Tryz.f3.params[j]? = some t→args[j]? = some v→Value.okWide Tryz.prog W .any base t v:=hval0;have hW':=hW;obtain ⟨p,q,hA0,hV,rfl,hfz,hnd⟩:=hW;have hA:DataW.TrodAll enc Tryz.prog W 0 (fun _=>true) true Tryz.f3.params.toList args.toList ds p:=hA0;rw [Tryz.params3] at hA hval;obtain ⟨v0,vs0,d0,ds0,p0,q0,hargs,rfl,rfl,h0,r0⟩:=trodAll_cons hA;obtain ⟨v1,vs1,d1,ds1,p1,q1,rfl,rfl,rfl,h1,r1⟩:=trodAll_cons r0;obtain ⟨rfl,rfl,rfl⟩:=trodAll_nil r1;obtain rfl:args = #[v0,v1]:=by cases args;simp_all
 obtain ⟨h,sh,rfl,hh⟩:=z7j (hval 0 24 v0 rfl rfl) h0;obtain ⟨m,rfl,rfl,rfl,wm⟩:=open_int Tryz.underlying5 (hval 1 5 v1 rfl rfl) h1;clear hA0 hval0;refine (zpk h sh m W hh wm).mono fun e W' ⟨he,hb⟩=>?_
 subst he;exact ⟨_,rfl,z9p laidOut (tb:=4) (zadx (by kernel_rfl)) (by kernel_rfl) Tryz.underlying4 hW' rfl rfl hb⟩
theorem znt:mapsRowed Tryz.pinned.checked.prog=true:=by kernel_rfl
theorem zka:(Rows.topTurnedCrowdsRow.inPlace == Tryz.pinned.checked.prog.inPlace 3)=true:=by kernel_rfl
theorem zik:(Rows.topTurnedCrowdsRow.unfollowed == Tryz.pinned.checked.prog.unfollowed 3)=true:=by kernel_rfl
theorem zj9:(Rows.topTurnedCrowdsRow.recurses == Tryz.pinned.checked.prog.recurses 3)=true:=by kernel_rfl
theorem znu:(Rows.topTurnedCrowdsRow.named == Tryz.pinned.checked.prog.varsNamed 3)=true:=by kernel_rfl
theorem znv:Tryz.pinned.checked.prog.stopsHeard=true:=by kernel_rfl
theorem znw:Tryz.pinned.checked.prog.mayEnter=true:=by kernel_rfl
theorem zo7:(Rows.topTurnedCrowdsRow.lifted == Tryz.pinned.checked.prog.liftsFinal)=true:=by kernel_rfl
theorem zo8:(Tryz.pinned.checked.prog.make == some Rows.topTurnedCrowdsRow.make)=true:=by kernel_rfl
theorem zo9:laidOutB Tryz.pinned.checked.prog=true:=laidOut
theorem zpa:Tryz.pinned.checked.prog.funcNamed Rows.topTurnedCrowdsRow.func=some 3:=by kernel_rfl
theorem zk1:joinedFacts Tryz.pinned.checked.prog 3 Tryz.f3 Rows.topTurnedCrowdsSpec Rows.topTurnedCrowdsRow=true:=by
 unfold joinedFacts;rw [zo9,znt,zka,zik,zj9,znu,znv,znw,zo7,zo8]
 kernel_rfl
theorem zpb:Tryz.f3.isInstance Tryz.pinned.checked.prog Rows.topTurnedCrowdsRow.origin Rows.topTurnedCrowdsRow.targs:=of_decide_eq_true (by kernel_rfl)
theorem zpc:Tryz.f3.isWrapper Tryz.pinned.checked.prog Rows.topTurnedCrowdsRow.wrapper Rows.topTurnedCrowdsRow.mainSum:=by unfold Func.isWrapper;first | (rw [if_pos (by decide +kernel)];kernel_rfl) | (rw [if_neg (by decide +kernel)];exact ⟨rfl,rfl⟩)
theorem topTurnedCrowds_holds:Rows.TopTurnedCrowdsSaid :=
 OpenClaim.holds_of_wide 3 Tryz.f3 rfl rfl rfl rfl rfl rfl rfl ⟨rfl,rfl,rfl,rfl,rfl⟩ rfl rfl rfl rfl rfl zpa Tryz.func3 zk1 zpb zpc
  (fun os started H enc _=>zk0 os started H enc)
end Go.Proofs.YtnfdiohfojjnlaaGreat
