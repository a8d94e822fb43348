/-
  The statement TopCountedTickets holds: between which ends counters say that windows have sold, there are the kinds of a torn ticket: what was sold at least says that it is no better, what was sold at most no worse, than it is in a truth. For every hall, day, and a torn ticket by numbers. No condition.
-/
import Derived.Test.YtnoffnkmibjndaaGreatTg
import Derived.Test.YtnoffnkmibjndaaGreatOpenC
set_option maxRecDepth 200000
set_option maxHeartbeats 0
set_option linter.unusedSimpArgs false
set_option linter.unusedVariables false
namespace Go.Proofs.YtnoffnkmibjndaaGreat
open Go.RowKit
open Go.ChangeShapes Go.WideShapes Go.ChangeAt in
theorem zk4 (os:Os) (started:os.Started) (H:Type) (enc:TypeId × Value→H) :
  ReturnsInHanded {} Tryz.checked os 3 .any (Rows.topCountedTicketsSpec.pre6 enc Tryz.prog Tryz.f3 Rows.topCountedTicketsRow.domain false) (Rows.topCountedTicketsSpec.post enc Tryz.prog Tryz.f3 false true false false):=by
 refine returnsInHanded_of_change (C:=Tryz.checked) own started (by kernel_rfl) Tryz.func3
  (ChangeSpec.witness6 (enc:=enc) (C:=Tryz.checked) false ⟨#[],#[.agg #[.int .i64 0,.int .i64 0,.slice none 0 0],.agg #[.int .i64 0,.int .i64 0,.slice none 0 0,.int .i64 0],.slice none 0 0],[]⟩ 8 (by kernel_rfl) (by kernel_rfl) (by kernel_rfl) (by kernel_rfl)) ?_
 intro W base args ds gs before hval0 hW hcnd _;have hval:∀ (j:Nat) t v,Tryz.f3.params[j]? = some t→args[j]? = some v→Value.okWide Tryz.prog W .any base t v:=hval0;have hW':=hW;obtain ⟨p,q,hA0,hV,rfl,hfz,hnd⟩:=hW;have hA:DataW.TrodAll enc Tryz.prog W 0 (fun _=>true) true Tryz.f3.params.toList args.toList ds p:=hA0;rw [Tryz.params3] at hA hval;obtain ⟨v0,vs0,d0,ds0,p0,q0,hargs,rfl,rfl,h0,r0⟩:=trodAll_cons hA;obtain ⟨v1,vs1,d1,ds1,p1,q1,rfl,rfl,rfl,h1,r1⟩:=trodAll_cons r0;obtain ⟨v2,vs2,d2,ds2,p2,q2,rfl,rfl,rfl,h2,r2⟩:=trodAll_cons r1;obtain ⟨rfl,rfl,rfl⟩:=trodAll_nil r2;obtain rfl:args = #[v0,v1,v2]:=by cases args;simp_all
 obtain ⟨h,sh,rfl,hh⟩:=zaap (hval 0 24 v0 rfl rfl) h0;obtain ⟨dL,dn,dr,dk,dv,rfl,hd⟩:=zae9 (hval 1 27 v1 rfl rfl) h1;obtain ⟨bs,hbs,wbs⟩:=zaao (k:=.u8) Tryz.underlying28 Tryz.underlying5 (by kernel_rfl) (hval 2 28 v2 rfl rfl) h2;clear hA0 hval0;refine (zow h sh dL dn dr dk dv v2 bs W hh hd hbs wbs).mono fun e W' ⟨he,hb⟩=>?_
 subst he;exact ⟨_,rfl,zac3 laidOut (tb:=4) (zage (by kernel_rfl)) (by kernel_rfl) Tryz.underlying4 hW' rfl rfl hb⟩
theorem zk6:mapsRowed Tryz.pinned.checked.prog=true:=by kernel_rfl
theorem zjs:(Rows.topCountedTicketsRow.inPlace == Tryz.pinned.checked.prog.inPlace 3)=true:=by kernel_rfl
theorem zia:(Rows.topCountedTicketsRow.unfollowed == Tryz.pinned.checked.prog.unfollowed 3)=true:=by kernel_rfl
theorem zjb:(Rows.topCountedTicketsRow.recurses == Tryz.pinned.checked.prog.recurses 3)=true:=by kernel_rfl
theorem zk7:(Rows.topCountedTicketsRow.named == Tryz.pinned.checked.prog.varsNamed 3)=true:=by kernel_rfl
theorem zk8:Tryz.pinned.checked.prog.stopsHeard=true:=by kernel_rfl
theorem zk9:Tryz.pinned.checked.prog.mayEnter=true:=by kernel_rfl
theorem zme:(Rows.topCountedTicketsRow.lifted == Tryz.pinned.checked.prog.liftsFinal)=true:=by kernel_rfl
theorem zmf:(Tryz.pinned.checked.prog.make == some Rows.topCountedTicketsRow.make)=true:=by kernel_rfl
theorem zmg:laidOutB Tryz.pinned.checked.prog=true:=laidOut
theorem zmh:Tryz.pinned.checked.prog.funcNamed Rows.topCountedTicketsRow.func=some 3:=by kernel_rfl
theorem zk5:joinedFacts Tryz.pinned.checked.prog 3 Tryz.f3 Rows.topCountedTicketsSpec Rows.topCountedTicketsRow=true:=by
 unfold joinedFacts;rw [zmg,zk6,zjs,zia,zjb,zk7,zk8,zk9,zme,zmf]
 kernel_rfl
theorem zmi:Tryz.f3.isInstance Tryz.pinned.checked.prog Rows.topCountedTicketsRow.origin Rows.topCountedTicketsRow.targs:=of_decide_eq_true (by kernel_rfl)
theorem zmj:Tryz.f3.isWrapper Tryz.pinned.checked.prog Rows.topCountedTicketsRow.wrapper Rows.topCountedTicketsRow.mainSum:=by unfold Func.isWrapper;first | (rw [if_pos (by decide +kernel)];kernel_rfl) | (rw [if_neg (by decide +kernel)];exact ⟨rfl,rfl⟩)
theorem topCountedTickets_holds:Rows.TopCountedTicketsSaid :=
 OpenClaim.holds_of_wide 3 Tryz.f3 rfl rfl rfl rfl rfl rfl rfl ⟨rfl,rfl,rfl,rfl,rfl⟩ rfl rfl rfl rfl rfl zmh Tryz.func3 zk5 zmi zmj
  (fun os started H enc _=>zk4 os started H enc)
end Go.Proofs.YtnoffnkmibjndaaGreat
