/-
  The statement TopScratchedHeats holds: a runner that is surely last of all, and alone, can be scratched: what is paid to the others in a pool of the first one stays. For every race, runner, units on the others, and a finish by numbers. No condition.
-/
import Derived.Test.YtdamgacabfbpjaaGreatTopScr
set_option maxRecDepth 200000
set_option maxHeartbeats 0
set_option linter.unusedSimpArgs false
set_option linter.unusedVariables false
set_option linter.unusedSectionVars false
namespace Go.Proofs.YtdamgacabfbpjaaGreat
open Go.RowKit
open Go.ChangeShapes Go.WideShapes Go.ChangeAt in
theorem zli (os:Os) (started:os.Started) (H:Type) (enc:TypeId × Value→H) :
  ReturnsInHanded {} Tryz.checked os 4 .any (Rows.topScratchedHeatsSpec.pre6 enc Tryz.prog Tryz.f4 Rows.topScratchedHeatsRow.domain false) (Rows.topScratchedHeatsSpec.post enc Tryz.prog Tryz.f4 false true false false):=by
 refine returnsInHanded_of_change (C:=Tryz.checked) own started (by kernel_rfl) Tryz.func4
  (ChangeSpec.witness6 (enc:=enc) (C:=Tryz.checked) false ⟨#[],#[.agg #[.int .i64 0,.slice none 0 0],.int .u8 0,.slice none 0 0,.slice none 0 0],[]⟩ 8 (by kernel_rfl) (by kernel_rfl) (by kernel_rfl) (by kernel_rfl)) ?_
 intro W base args ds gs before hval0 hW hcnd _;have hval:∀ (j:Nat) t v,Tryz.f4.params[j]? = some t→args[j]? = some v→Value.okWide Tryz.prog W .any base t v:=hval0;have hW':=hW;obtain ⟨p,q,hA0,hV,rfl,hfz,hnd⟩:=hW;have hA:DataW.TrodAll enc Tryz.prog W 0 (fun _=>true) true Tryz.f4.params.toList args.toList ds p:=hA0;rw [Tryz.params4] at hA hval;obtain ⟨v0,vs0,d0,ds0,p0,q0,hargs,rfl,rfl,h0,r0⟩:=trodAll_cons hA;obtain ⟨v1,vs1,d1,ds1,p1,q1,rfl,rfl,rfl,h1,r1⟩:=trodAll_cons r0;obtain ⟨v2,vs2,d2,ds2,p2,q2,rfl,rfl,rfl,h2,r2⟩:=trodAll_cons r1;obtain ⟨v3,vs3,d3,ds3,p3,q3,rfl,rfl,rfl,h3,r3⟩:=trodAll_cons r2;obtain ⟨rfl,rfl,rfl⟩:=trodAll_nil r3;obtain rfl:args = #[v0,v1,v2,v3]:=by cases args;simp_all
 obtain ⟨h,hs,hc,rfl,hh⟩:=zad0 (hval 0 24 v0 rfl rfl) h0;obtain ⟨r,rfl,rfl,rfl,wr⟩:=open_int Tryz.underlying5 (hval 1 5 v1 rfl rfl) h1;obtain ⟨us,hus,wus⟩:=zz1 (k:=.u8) Tryz.underlying25 Tryz.underlying5 (by kernel_rfl) (hval 2 25 v2 rfl rfl) h2;obtain ⟨bs,hbs,wbs⟩:=zz1 (k:=.u8) Tryz.underlying25 Tryz.underlying5 (by kernel_rfl) (hval 3 25 v3 rfl rfl) h3;clear hA0 hval0;refine (zpg h hs hc r v2 us v3 bs W hh wr hus wus hbs wbs).mono fun e W' ⟨he,hb⟩=>?_
 subst he;exact ⟨_,rfl,zadz laidOut (tb:=4) (zahs (by kernel_rfl)) (by kernel_rfl) Tryz.underlying4 hW' rfl rfl hb⟩
theorem zll:mapsRowed Tryz.pinned.checked.prog=true:=by kernel_rfl
theorem zj6:(Rows.topScratchedHeatsRow.inPlace == Tryz.pinned.checked.prog.inPlace 4)=true:=by kernel_rfl
theorem ziy:(Rows.topScratchedHeatsRow.unfollowed == Tryz.pinned.checked.prog.unfollowed 4)=true:=by kernel_rfl
theorem zjs:(Rows.topScratchedHeatsRow.recurses == Tryz.pinned.checked.prog.recurses 4)=true:=by kernel_rfl
theorem zlm:(Rows.topScratchedHeatsRow.named == Tryz.pinned.checked.prog.varsNamed 4)=true:=by kernel_rfl
theorem zln:Tryz.pinned.checked.prog.stopsHeard=true:=by kernel_rfl
theorem zlo:Tryz.pinned.checked.prog.mayEnter=true:=by kernel_rfl
theorem zmn:(Rows.topScratchedHeatsRow.lifted == Tryz.pinned.checked.prog.liftsFinal)=true:=by kernel_rfl
theorem zmo:(Tryz.pinned.checked.prog.make == some Rows.topScratchedHeatsRow.make)=true:=by kernel_rfl
theorem zmp:laidOutB Tryz.pinned.checked.prog=true:=laidOut
theorem zmq:Tryz.pinned.checked.prog.funcNamed Rows.topScratchedHeatsRow.func=some 4:=by kernel_rfl
theorem zlj:joinedFacts Tryz.pinned.checked.prog 4 Tryz.f4 Rows.topScratchedHeatsSpec Rows.topScratchedHeatsRow=true:=by
 unfold joinedFacts;rw [zmp,zll,zj6,ziy,zjs,zlm,zln,zlo,zmn,zmo]
 kernel_rfl
theorem zmr:Tryz.f4.isInstance Tryz.pinned.checked.prog Rows.topScratchedHeatsRow.origin Rows.topScratchedHeatsRow.targs:=of_decide_eq_true (by kernel_rfl)
theorem zms:Tryz.f4.isWrapper Tryz.pinned.checked.prog Rows.topScratchedHeatsRow.wrapper Rows.topScratchedHeatsRow.mainSum:=by unfold Func.isWrapper;first | (rw [if_pos (by decide +kernel)];kernel_rfl) | (rw [if_neg (by decide +kernel)];exact ⟨rfl,rfl⟩)
theorem topScratchedHeats_holds:Rows.TopScratchedHeatsSaid :=
 OpenClaim.holds_of_wide 4 Tryz.f4 rfl rfl rfl rfl rfl rfl rfl ⟨rfl,rfl,rfl,rfl,rfl⟩ rfl rfl rfl rfl rfl zmq Tryz.func4 zlj zmr zms
  (fun os started H enc _=>zli os started H enc)
end Go.Proofs.YtdamgacabfbpjaaGreat
