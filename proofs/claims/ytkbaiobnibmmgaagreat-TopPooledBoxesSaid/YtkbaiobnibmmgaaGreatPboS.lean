/-
  The statement TopPooledBoxes holds: a card of one race, on whose runners the bets of a book are tickets: what the pool of all of them pays for a unit, and carries over, is the dividend of the runner, and what is kept, without duty; the deepest outcome is the favourite. For every book and winner. No condition.
-/
import Derived.Test.YtkbaiobnibmmgaaGreatPboW
import Derived.Test.YtkbaiobnibmmgaaGreatHd
namespace Go.Proofs.YtkbaiobnibmmgaaGreat
open Go.RowKit
open Go.ChangeShapes Go.WideShapes Go.ChangeAt in
set_option maxRecDepth 100000 in
theorem zlf (os:Os) (started:os.Started) (H:Type) (enc:TypeId × Value→H) :
  ReturnsInHanded {} Tryz.checked os 3 .any (Rows.topPooledBoxesSpec.pre6 enc Tryz.prog Tryz.f3 Rows.topPooledBoxesRow.domain false) (Rows.topPooledBoxesSpec.post enc Tryz.prog Tryz.f3 false true false false):=by
 refine returnsInHanded_of_change (C:=Tryz.checked) own started (by kernel_rfl) Tryz.func3
  (ChangeSpec.witness6 (enc:=enc) (C:=Tryz.checked) false ⟨#[],#[.agg #[.int .i64 0,.int .i64 0,.slice none 0 0,.slice none 0 0,.bool false,.int .i64 0,.int .i64 0,.int .i64 0],.int .u8 0],[]⟩ 8 (by kernel_rfl) (by kernel_rfl) (by kernel_rfl) (by kernel_rfl)) ?_
 intro W base args ds gs before hval0 hW hcnd _
 have hval:∀ (j:Nat) t v,Tryz.f3.params[j]? = some t→args[j]? = some v→Value.okWide Tryz.prog W .any base t v:=hval0
 have hW':=hW
 obtain ⟨p,q,hA0,hV,rfl,hfz,hnd⟩:=hW
 have hA:DataW.TrodAll enc Tryz.prog W 0 (fun _=>true) true Tryz.f3.params.toList args.toList ds p:=hA0
 rw [Tryz.params3] at hA hval
 obtain ⟨v0,vs0,d0,ds0,p0,q0,hargs,rfl,rfl,h0,r0⟩:=trodAll_cons hA
 obtain ⟨v1,vs1,d1,ds1,p1,q1,rfl,rfl,rfl,h1,r1⟩:=trodAll_cons r0
 obtain ⟨rfl,rfl,rfl⟩:=trodAll_nil r1
 obtain rfl:args = #[v0,v1]:=by cases args;simp_all
 obtain ⟨b,ba,bs,bc,bd,rfl,hb⟩:=z6l (hval 0 25 v0 rfl rfl) h0
 obtain ⟨r,rfl,rfl,rfl,wr⟩:=open_int Tryz.underlying5 (hval 1 5 v1 rfl rfl) h1
 clear hA0 hval0
 refine (zof b ba bs bc bd r W hb wr).mono fun e W' ⟨he,hb⟩=>?_
 subst he
 exact ⟨_,rfl,z6i laidOut (tb:=4) (z9q (by kernel_rfl)) (by kernel_rfl) Tryz.underlying4 hW' rfl rfl hb⟩
set_option maxRecDepth 100000
theorem zmn:mapsRowed Tryz.pinned.checked.prog=true:=by kernel_rfl
theorem ziq:(Rows.topPooledBoxesRow.inPlace == Tryz.pinned.checked.prog.inPlace 3)=true:=by kernel_rfl
theorem zgv:(Rows.topPooledBoxesRow.unfollowed == Tryz.pinned.checked.prog.unfollowed 3)=true:=by kernel_rfl
theorem zhy:(Rows.topPooledBoxesRow.recurses == Tryz.pinned.checked.prog.recurses 3)=true:=by kernel_rfl
theorem zmo:(Rows.topPooledBoxesRow.named == Tryz.pinned.checked.prog.varsNamed 3)=true:=by kernel_rfl
theorem zmp:Tryz.pinned.checked.prog.stopsHeard=true:=by kernel_rfl
theorem zmq:Tryz.pinned.checked.prog.mayEnter=true:=by kernel_rfl
theorem zmx:(Rows.topPooledBoxesRow.lifted == Tryz.pinned.checked.prog.liftsFinal)=true:=by kernel_rfl
theorem zmy:(Tryz.pinned.checked.prog.make == some Rows.topPooledBoxesRow.make)=true:=by kernel_rfl
theorem zmz:laidOutB Tryz.pinned.checked.prog=true:=laidOut
theorem zm0:Tryz.pinned.checked.prog.funcNamed Rows.topPooledBoxesRow.func=some 3:=by kernel_rfl
theorem zlg:joinedFacts Tryz.pinned.checked.prog 3 Tryz.f3 Rows.topPooledBoxesSpec Rows.topPooledBoxesRow=true:=by
 unfold joinedFacts
 rw [zmz,zmn,ziq,zgv,zhy,zmo,zmp,zmq,zmx,zmy]
 kernel_rfl
theorem zm1:Tryz.f3.isInstance Tryz.pinned.checked.prog Rows.topPooledBoxesRow.origin Rows.topPooledBoxesRow.targs:=of_decide_eq_true (by kernel_rfl)
theorem zm2:Tryz.f3.isWrapper Tryz.pinned.checked.prog Rows.topPooledBoxesRow.wrapper Rows.topPooledBoxesRow.mainSum:=by unfold Func.isWrapper;first | (rw [if_pos (by decide +kernel)];kernel_rfl) | (rw [if_neg (by decide +kernel)];exact ⟨rfl,rfl⟩)
theorem topPooledBoxes_holds:Rows.TopPooledBoxesSaid :=
 OpenClaim.holds_of_wide 3 Tryz.f3 rfl rfl rfl rfl rfl rfl rfl ⟨rfl,rfl,rfl,rfl,rfl⟩ rfl rfl rfl rfl rfl zm0 Tryz.func3 zlg zm1 zm2
  (fun os started H enc _=>zlf os started H enc)
end Go.Proofs.YtkbaiobnibmmgaaGreat
