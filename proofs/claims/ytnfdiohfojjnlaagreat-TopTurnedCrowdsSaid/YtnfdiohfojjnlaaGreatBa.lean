/-
  A law on 'for .. := range f { .. }': what the iterator may turn between two rounds are blocks of its own, whatever they hold; what the body may turn are blocks of the caller's. Built on the library's rules for the loop's record.
-/
import Derived.RangeFuncNested
import Derived.RangeFuncBound
import Derived.RangeFuncCalls
import Derived.RangeFuncLeaves
import Derived.Shelf.Abstract
import Derived.Shelf.RegionOpen
import Derived.WalkKit
import Derived.OwnWalkIn
import Derived.TacticsInMore
import Derived.LoopNIn
import Derived.LoopIn
import Derived.BigQuiet
import Derived.Deep.QuietTactic
import Derived.Test.YtnfdiohfojjnlaaGreatProg
import Derived.WalkSpells
import Derived.WalkLawsBesides
import Derived.Lib.Hide
import Derived.Deep.AppendLies
import Derived.Deep.RegionLawGrows
import Derived.OwnWalk
set_option maxRecDepth 200000
set_option maxHeartbeats 0
namespace Go.Proofs.YtnfdiohfojjnlaaGreat
open Go.RowKit Go.Shelf
structure Kept (S:Nat→Prop) (w w':World):Prop where
 os:w'.os=w.os
 tape:w'.tape=w.tape
 output:w'.output=w.output
 size:w.heap.size≤w'.heap.size
 same:∀ k,k < w.heap.size→S k→w'.heap[k]? = w.heap[k]?
theorem Kept.refl (S:Nat→Prop) (w:World):Kept S w w:=⟨rfl,rfl,rfl,Nat.le_refl _,fun _ _ _=>rfl⟩
theorem Kept.trans {S:Nat→Prop} {a b c:World} (h:Kept S a b) (k:Kept S b c):Kept S a c :=
 ⟨k.os.trans h.os,k.tape.trans h.tape,k.output.trans h.output,Nat.le_trans h.size k.size,fun i hi hs=>(k.same i (Nat.lt_of_lt_of_le hi h.size) hs).trans (h.same i hi hs)⟩
theorem Kept.mono {S T:Nat→Prop} {a b:World} (h:Kept S a b) (hs:∀ k,k < a.heap.size→T k→S k):Kept T a b :=
 ⟨h.os,h.tape,h.output,h.size,fun k hk ht=>h.same k hk (hs k hk ht)⟩
theorem Kept.of_below {S:Nat→Prop} {a b:World} (h:Below a.heap.size a b):Kept S a b:=⟨h.os,h.tape,h.output,h.size,fun k hk _=>h.block k hk⟩
theorem Kept.below {B:Nat} {a b:World} (h:Kept (fun k=>k < B) a b) (hB:B≤a.heap.size):Below B a b:=⟨h.os,h.tape,h.output,h.size,fun k hk=>h.same k (by omega) hk⟩
theorem Kept.putObj {S:Nat→Prop} {a b:World} (h:Kept S a b) {r:Nat} (o:Obj) (hr:r < a.heap.size→¬ S r):Kept S a (b.putObj r o) :=
 ⟨h.os,h.tape,h.output,by simpa using h.size,fun k hk hs=>(World.putObj_heap_other (r:=r) (k:=k) (fun e=>by subst e;exact hr hk hs)).trans (h.same k hk hs)⟩
theorem Kept.alloc {S:Nat→Prop} {a b:World} (h:Kept S a b) (o:Obj):Kept S a (b.alloc o) :=
 h.trans (.of_below ((Below.refl _ b).alloc (Nat.le_refl _) o))
theorem Kept.setCell {S:Nat→Prop} {a b:World} (h:Kept S a b) {p:Addr} (hp:p.block < a.heap.size→¬ S p.block) (u:Value):Kept S a (b.setCell p u) :=
 ⟨h.os,h.tape,h.output,by simpa [World.setCell] using h.size,fun k hk hs=>(Below.heap_setCell _ _ _ _ (fun e=>by subst e;exact hp hk hs)).trans (h.same k hk hs)⟩
theorem Kept.drew {S:Nat→Prop} {a b:World} (h:Kept S a b):Kept S a b.drew:=⟨h.os,h.tape,h.output,h.size,h.same⟩
theorem Kept.grown {S:Nat→Prop} {a b c:World} {row:Option Nat} (h:Kept S a b) (hg:b.grownBy c row) (hr:∀ k,row=some k→k < a.heap.size→¬ S k):Kept S a c :=
 ⟨hg.os.trans h.os,hg.tape.trans h.tape,hg.output.trans h.output,Nat.le_trans h.size hg.size,fun k hk hs=>(hg.block k (Nat.lt_of_lt_of_le hk h.size) (fun e=>hr k e.symm hk hs)).trans (h.same k hk hs)⟩
theorem Kept.cell {S:Nat→Prop} {a b:World} (h:Kept S a b) {p:Addr} {v:Value} (hc:a.cell? p=some v) (hs:S p.block):b.cell? p=some v :=
 (World.cell?_of_block (w:=a) (h.same _ (World.block_lt_of_cell? a p hc) hs)).trans hc
theorem Kept.frozen {S:Nat→Prop} {a b:World} (h:Kept S a b) {p:Addr} (hl:p.block < a.heap.size) (hs:S p.block):b.frozen? p=a.frozen? p :=
 World.frozen?_of_block (w:=a) (h.same _ hl hs)
def Bears (X:Nat→Prop) (J:(Nat→Prop)→World→Prop):Prop :=
 ∀ O O' A B,J O A→Kept (fun k=>¬ O k∧¬ X k) A B→(∀ k,O k→O' k)→(∀ k,O' k→O k∨(A.heap.size≤k∧k < B.heap.size))→J O' B
section
variable {X:Nat→Prop} {J:(Nat→Prop)→World→Prop} (h:Bears X J) {O:Nat→Prop} {A:World}
include h
theorem Bears.ext (hj:J O A) {B:World} (e:Below A.heap.size A B):J O B:=h O O A B hj (.of_below e) (fun _ h=>h) (fun _ h=>.inl h)
theorem Bears.alloc (hj:J O A) (o:Obj):J (fun k=>O k∨k=A.heap.size) (A.alloc o) :=
 h O _ A _ hj (.of_below ((Below.refl _ A).alloc (Nat.le_refl _) o)) (fun _ h=>.inl h) (fun k hk=>hk.imp id fun e=>by subst e;simp)
theorem Bears.setCell (hj:J O A) {p:Addr} (ho:O p.block) (u:Value):J O (A.setCell p u) :=
 h O O A _ hj ((Kept.refl _ A).setCell (fun _ h=>h.1 ho) u) (fun _ h=>h) (fun _ h=>.inl h)
end
def Iter {α:Type} (P:Program) (gf:Nat) (lb:Array Value) (encs:α→Array Value) (R:Nat→Prop) (S Sp:List α→Prop) (Nx:List α→α→Prop) (w0:World):Prop :=
 ∀ (n l:Nat) (J Jx:(Nat→Prop)→List α→World→Prop) (W:World),Below w0.heap.size w0 W →
  (∀ pre,Bears (fun _=>False) (J · pre ·))→(∀ pre,Bears (fun _=>False) (Jx · pre ·)) →
  (∀ O pre x W1,J O pre W1→Nx pre x→YieldAt Fence.wide (n - 1) P l (encs x) W1 fun e W' =>
   (e = .returned (.bool true)∧J O (pre ++ [x]) W'∧Kept (fun k=>R k∨O k) W1 W')∨(e = .returned (.bool false)∧Jx O (pre ++ [x]) W')) →
  J (fun _=>False) [] W →
  CallsIn Fence.wide n P gf (#[.func (.yield l) #[] #[]] ++ lb) W fun e W'=>(∃ v,e = .returned v)∧((∃ O xs,S xs∧J O xs W')∨(∃ O pre,Sp pre∧Jx O pre W'))
def zabr {α:Type} (L:Nat) (R O:Nat→Prop) (I:(Nat→Prop)→List α→World→Prop) (Ix:Code→(Nat→Prop)→List α→World→Prop) (xs:List α) (W:World):Exit→Act→World→Prop
 | .normal,_,W'=>Kept (fun k=>R k∨O k∨k=L∨k+1=L) W W'∧I O xs W'
 | .ret,_,W'=>Kept (fun k=>k=L∨k+1=L) W W'∧Ix .ret O xs W'
 | .exit id,_,W'=>Kept (fun k=>k=L∨k+1=L) W W'∧Ix (.exit id) O xs W'
 | .goto t,_,W'=>Kept (fun k=>k=L∨k+1=L) W W'∧Ix (.goto t) O xs W'
 | .panic _,_,_=>False
 | .outgrown,_,_=>False
theorem zwy {α:Type} {P:Program} {n:Nat} {g:Operand} {ps:Array Tmp} {assign body:Code} {Q:Exit→Act→World→Prop} {a:Act} {w:World} {gf:Nat} {lb:Array Value}
  (hg:a.eval g = .func (.func gf) #[] lb) (eg:∀ args w,(callFunc gf args).run P w = .ok (.enter gf args) w)
  {encs:α→Array Value} {R:Nat→Prop} {S Sp:List α→Prop} {Nx:List α→α→Prop} {w0:World} (hseq:Iter P gf lb encs R S Sp Nx w0) (hb0:Below w0.heap.size w0 w)
  (hR:∀ k,R k→k < w.heap.size) (hps:∀ x,(encs x).size=ps.size)
  (I:(Nat→Prop)→List α→World→Prop) (Ix:Code→(Nat→Prop)→List α→World→Prop)
  (hI:∀ pre,Bears (fun k=>k=w.heap.size∨k=w.heap.size+1) (I · pre ·)) (hIx:∀ c pre,Bears (fun k=>k=w.heap.size∨k=w.heap.size+1) (Ix c · pre ·))
  (h0:I (fun _=>False) [] w)
  (hround:∀ (l:Nat) O (pre:List α) (x:α) (W:World),I O pre W→Nx pre x→(∀ k,O k→w.heap.size+2≤k∧k < W.heap.size)→w.heap.size+2≤W.heap.size →
   assign.wpIn (Fence.wide.inRound l) (n - 1 - 1) P (Exit.then (fun a₁ W₁=>Below W.heap.size W W₁∧∀ W₂,Kept (fun k=>k≠w.heap.size+1) W₁ W₂ →
    body.wpIn (Fence.wide.inRound l) (n - 1 - 1) P (zabr (w.heap.size+1) R O I Ix (pre ++ [x]) W₂) a₁ W₂) (fun _ _ _=>False)) { tmps:=(ps.zip (encs x)).foldl (fun t (p,v)=>t.setIfInBounds p v) a.tmps,defers:=[] } W)
  (hdone:∀ (D:Nat) O (xs:List α) (W:World),w.heap.size≤D→S xs→I O xs W→W.heap[D]? = some (.deferred (some []))→Q .normal { a with defers:={ target:=.collected D,args:=#[] } :: a.defers } W)
  (hstop:∀ (D:Nat) O (c:Code) (pre:List α) (W:World),w.heap.size≤D→Sp pre→Ix c O pre W→W.heap[D]? = some (.deferred (some []))→c.wpIn Fence.wide n P Q { a with defers:={ target:=.collected D,args:=#[] } :: a.defers } W) :
  (Code.rangeFunc g ps assign body).wpIn Fence.wide n P Q a w:=by
 refine wpIn_rangeFunc fun fn hfn=>?_
 generalize hrec:(fun (st:LoopState) (pe:Option Code)=>({ state:=st,pending:=pe,fn,tmps:=a.tmps,params:=ps,assign,body,defers:=w.heap.size }:Loop))=rec;have er:∀ st pe,rec st pe={ state:=st,pending:=pe,fn,tmps:=a.tmps,params:=ps,assign,body,defers:=w.heap.size }:=fun st pe=>by rw [← hrec]
 have eq1:w.heap.size+1≠w.heap.size:=by omega
 let Bk:World→Loop→Prop:=fun W r=>W.heap[w.heap.size+1]? = some (.loop r)∧W.heap[w.heap.size]? = some (.deferred (some []))
 have bk_lt:∀ {W r},Bk W r→w.heap.size+1 < W.heap.size:=fun h=>(Array.getElem?_eq_some_iff.1 h.1).1
 have bk_kept:∀ {A B r},Bk A r→Kept (fun k=>k=w.heap.size+1∨k+1=w.heap.size+1) A B→Bk B r:=fun {A B r} h hk =>
  ⟨(hk.same _ (bk_lt h) (.inl rfl)).trans h.1,(hk.same _ (by have:=bk_lt h;omega) (.inr rfl)).trans h.2⟩
 have bk_put:∀ {W r} (r':Loop),Bk W r→Bk (W.putObj (w.heap.size+1) (.loop r')) r':=fun {W r} r' h =>
  ⟨World.putObj_heap_same (bk_lt h),(World.putObj_heap_other (by omega)).trans h.2⟩
 have put_kept:∀ (W:World) (o:Obj),Kept (fun k=>k≠w.heap.size+1) W (W.putObj (w.heap.size+1) o):=fun W o=>(Kept.refl _ W).putObj o (fun _ h=>h rfl)
 have hI':∀ {O pre A} (o:Obj),I O pre A→I O pre (A.putObj (w.heap.size+1) o):=fun {O pre A} o h =>
  hI pre O O A _ h ((put_kept A o).mono fun k _ hk e=>hk.2 (.inr e)) (fun _ h=>h) (fun _ h=>.inl h)
 have hIx':∀ {c O pre A} (o:Obj),Ix c O pre A→Ix c O pre (A.putObj (w.heap.size+1) o):=fun {c O pre A} o h =>
  hIx c pre O O A _ h ((put_kept A o).mono fun k _ hk e=>hk.2 (.inr e)) (fun _ h=>h) (fun _ h=>.inl h)
 obtain ⟨W1,hW1⟩:∃ W1,(w.alloc (.deferred (some []))).alloc (.loop (rec .ready none))=W1:=⟨_,rfl⟩
 have hE1:Below w.heap.size w W1:=by rw [← hW1];exact ((Below.refl _ w).alloc (Nat.le_refl _) _).alloc (by simp) _
 have hB1:Bk W1 (rec .ready none):=by
  rw [← hW1];refine ⟨?_,(Below.heap_alloc _ _ _ (by simp)).trans (World.alloc_heap_new w _)⟩;have:=World.alloc_heap_new (w.alloc (.deferred (some []))) (.loop (rec .ready none));rwa [World.size_alloc] at this
 have hs1:W1.heap.size=w.heap.size+2:=by rw [← hW1];simp
 refine ⟨w.heap.size+1,[{ target:=.collected w.heap.size,args:=#[] }],W1,{ target:=.fn (.func gf) lb,args:=#[.func (.yield (w.heap.size+1)) #[] #[]] },W1,gf,
  #[.func (.yield (w.heap.size + 1)) #[] #[]] ++ lb, W1, ?_, ?_, fun _ _ => trivial, ?_, fun h => by simp [Fence.wide] at h, ?_⟩
 ·rw [← hW1,er];exact run_enterLoop_outer _ _ _ _ _
 ·simp only [resolve,hg]
  simp [go_sem]
 ·simp [invoke,go_sem,eg]
 ·refine (hseq (n - 1) (w.heap.size+1)
   (fun O pre W=>I O pre W∧Bk W (rec .ready none)∧∀ k,O k→w.heap.size+2≤k∧k < W.heap.size)
   (fun O pre W=>∃ c,Ix c O pre W∧Bk W (rec .done (some c))∧∀ k,O k→w.heap.size+2≤k∧k < W.heap.size)
   W1 (hb0.trans (hE1.mono hb0.size)) ?_ ?_ ?_ ⟨hI [] _ _ _ _ h0 (.of_below hE1) (fun _ h=>h) (fun _ h=>.inl h),hB1,fun _ h=>h.elim⟩).mono ?_
  ·rintro pre O O' A B ⟨h1,h2,h3⟩ hk hO1 hO2
   have hlt:=bk_lt h2;have hO3:∀ k,O' k→w.heap.size+2≤k∧k < B.heap.size:=fun k h=>by
    have:=hk.size
    rcases hO2 k h with h | h
    ·have:=h3 k h;omega
    ·omega
   exact ⟨hI pre O O' A B h1 (hk.mono fun k _ h=>⟨h.1,fun h=>h⟩) hO1 hO2,bk_kept h2 (hk.mono fun k _ h=>⟨fun ho=>by have:=h3 k ho;omega,fun h=>h⟩),hO3⟩
  ·rintro pre O O' A B ⟨c,h1,h2,h3⟩ hk hO1 hO2
   have hlt:=bk_lt h2;have hO3:∀ k,O' k→w.heap.size+2≤k∧k < B.heap.size:=fun k h=>by
    have:=hk.size
    rcases hO2 k h with h | h
    ·have:=h3 k h;omega
    ·omega
   exact ⟨c,hIx c pre O O' A B h1 (hk.mono fun k _ h=>⟨h.1,fun h=>h⟩) hO1 hO2,bk_kept h2 (hk.mono fun k _ h=>⟨fun ho=>by have:=h3 k ho;omega,fun h=>h⟩),hO3⟩
  ·rintro O pre x W ⟨hi,hb,hO⟩ hlen
   have hlt:=bk_lt hb;have hy:=run_yield (P:=P) (args:=encs x) hb.1 (by rw [er];exact hps x);rw [er] at hy;refine ⟨fn,_,assign,body,hy,roundIn_of_wpIn hfn ?_⟩;refine wpIn_mono (hround (w.heap.size+1) O pre x W hi hlen hO (by omega)) ?_
   rintro e a₁ W2 hp;cases e with
   | normal =>
    obtain ⟨hE2,hm⟩:=hp;have hb2:Bk W2 (rec .ready none):=bk_kept hb (.of_below hE2);refine ⟨_,run_beginRound hb2.1 (by rw [er]),?_⟩;have hm3:=hm _ (put_kept W2 (.loop { rec .ready none with state:=.busy }));have hb3:=bk_put { rec .ready none with state:=.busy } hb2;generalize hW3:W2.putObj (w.heap.size+1) (.loop { rec .ready none with state:=.busy })=W3 at hm3 hb3 ⊢;have hk3:Kept (fun k=>k≠w.heap.size+1) W W3:=by rw [← hW3];exact (Kept.of_below hE2).trans (put_kept W2 _)
    have hO3:∀ k,O k→w.heap.size+2≤k∧k < W3.heap.size:=fun k h=>⟨(hO k h).1,Nat.lt_of_lt_of_le (hO k h).2 hk3.size⟩
    refine wpIn_mono hm3 ?_
    have fin:∀ (jump:Option Code) (W4:World),Kept (fun k=>k=w.heap.size+1∨k+1=w.heap.size+1) W3 W4 →
      (Instr.endRound (w.heap.size+1) jump).run P W4 = .ok (.bool jump.isNone) (W4.putObj (w.heap.size+1) (.loop (rec (if jump.isNone then .ready else .done) jump))) ∧
      Bk (W4.putObj (w.heap.size+1) (.loop (rec (if jump.isNone then .ready else .done) jump))) (rec (if jump.isNone then .ready else .done) jump):=fun jump W4 hk4=>by
     have hb4:=bk_kept hb3 hk4;have hr:=run_endRound (P:=P) jump hb4.1;refine ⟨?_,bk_put _ hb4⟩;rw [hr];simp only [er]
    rintro e a3 W4 hp;cases e with
    | normal =>
     obtain ⟨hk4,hi4⟩:=hp;obtain ⟨hr,hb5⟩:=fin none W4 (hk4.mono fun k _ h=>.inr (.inr h));refine ⟨_,_,hr,.inl ⟨rfl,⟨hI' _ hi4,hb5,fun k h=>⟨(hO k h).1,?_⟩⟩,?_⟩⟩
     ·have:=(hO3 k h).2;have:=hk4.size;simp;omega
     ·have hlt4:=hk4.size
      have hk3':Kept (fun k=>R k∨O k) W W3:=hk3.mono fun k _ h=>by
       rcases h with h | h
       ·have:=hR k h;omega
       ·have:=hO k h;omega
      have hk4':Kept (fun k=>R k∨O k) W3 W4:=hk4.mono fun k _ h=>h.elim .inl fun h=>.inr (.inl h)
      refine (hk3'.trans hk4').trans ((put_kept W4 _).mono fun k _ h=>?_)
      rcases h with h | h
      ·have:=hR k h;omega
      ·have:=hO k h;omega
    | ret =>
     obtain ⟨hk4,hi4⟩:=hp;obtain ⟨hr,hb5⟩:=fin (some .ret) W4 hk4;exact ⟨_,_,hr,.inr ⟨rfl,.ret,hIx' _ hi4,hb5,fun k h=>⟨(hO k h).1,by have:=(hO3 k h).2;have:=hk4.size;simp;omega⟩⟩⟩
    | exit id =>
     obtain ⟨hk4,hi4⟩:=hp;obtain ⟨hr,hb5⟩:=fin (some (.exit id)) W4 hk4;exact ⟨_,_,hr,.inr ⟨rfl,.exit id,hIx' _ hi4,hb5,fun k h=>⟨(hO k h).1,by have:=(hO3 k h).2;have:=hk4.size;simp;omega⟩⟩⟩
    | goto t =>
     obtain ⟨hk4,hi4⟩:=hp;obtain ⟨hr,hb5⟩:=fin (some (.goto t)) W4 hk4;exact ⟨_,_,hr,.inr ⟨rfl,.goto t,hIx' _ hi4,hb5,fun k h=>⟨(hO k h).1,by have:=(hO3 k h).2;have:=hk4.size;simp;omega⟩⟩⟩
    | panic ch=>exact hp.elim
    | outgrown=>exact hp.elim
   | ret=>exact hp.elim
   | exit id=>exact hp.elim
   | goto t=>exact hp.elim
   | panic ch=>exact hp.elim
   | outgrown=>exact hp.elim
  ·rintro e W2 ⟨⟨v,rfl⟩,(⟨O,xs,hS,hi,hb,_⟩ | ⟨O,pre,hSp,c,hi,hb,_⟩)⟩
   ·exact ⟨none,_,by have:=run_endLoop (P:=P) hb.1 (by rw [er];simp);rw [er] at this;exact this,hdone _ O xs _ (Nat.le_refl _) hS (hI' _ hi) ((World.putObj_heap_other (by omega)).trans hb.2)⟩
   ·exact ⟨some c,_,by have:=run_endLoop (P:=P) hb.1 (by rw [er];simp);rw [er] at this;exact this,hstop _ O c pre _ (Nat.le_refl _) hSp (hIx' _ hi) ((World.putObj_heap_other (by omega)).trans hb.2)⟩
def FW (ro:Option Nat):Fence:={ fn:=fun _=>True,depth:=none,alive:=false,round:=ro }
theorem z24 {ro:Option Nat} {n:Nat} {P:Program} {f:FuncId} {args:Array Value} {w:World} {R:Ending→World→Prop} (h:Calls P f args w R):CallsIn (FW ro) n P f args w R:=by
 have h2:CallsIn Fence.wide n P f args w R:=callsIn_wide.2 h;cases ro with
 | none=>exact h2
 | some l=>exact CallsIn.inRound l h2
section
variable {P:Program} {F:Fence} {n:Nat} {ops:Array Oper} {md:Region.Mode} {C:World→Prop}
theorem ztd {o:Oper} {a:Act} {K:Act→Prop} {K':Act→World→Prop} {Q':Exit→Act→World→Prop} {w:World} {ro:Option Nat} (hw:C w) (h:∀ a w',C w'→K a→K' a w') (hh:o.quiet P a C K) :
  o.wpIn (FW ro) n P a w K' Q':=by
 obtain ⟨v,h1,h2⟩:=hh;have h3:=h1 w hw;unfold Oper.quietAt at h3;refine ⟨fun _ _=>trivial,?_⟩;have e:o.semAt (FW ro).round a.eval=execOp a.eval o:=by
  cases ro with
  | none=>rfl
  | some l =>
   unfold Oper.quietAt at h1;cases ho:o.op<;>first | (rw [show (FW (some l)).round=some l from rfl];unfold Oper.semAt;rw [ho]) | skip
   all_goals
    exfalso;clear h1
    revert h3
    unfold execOp;rw [ho];simp [Oper.quietUpon];rename_i c;generalize (resolve a.eval c o.type).run P w=r;cases r<;>simp [Result.andThen]
 rw [e];generalize (execOp a.eval o).run P w=r at *;cases r with
 | ok n w' =>
  cases n<;>simp only [Oper.quietUpon] at h3<;>simp only [Oper.uponIn]
  case value u=>obtain ⟨e1,e2⟩:=h3;rw [e1,e2];exact h _ _ hw h2
  case skip=>obtain ⟨e1,e2⟩:=h3;rw [e1,← e2];exact h _ _ hw h2
  case enter f args =>
   obtain ⟨e1,hc⟩:=h3;rw [e1];refine ⟨fun hd=>by simp [FW] at hd,z24 (hc.mono fun e w'' ⟨he,hw''⟩=>?_)⟩;subst he;exact h _ _ hw'' h2
 | halt x w'=>simp only [Oper.quietUpon] at h3
theorem zte {i:Nat} {a:Act} {K:Act→Prop} {K':Act→World→Prop} {Q':Exit→Act→World→Prop} {w:World} {ro:Option Nat} (hC:C w) (h:∀ a w',C w'→K a→K' a w') (hh:qOp P ops C i K a) :
  wpOpIn (FW ro) n P ops Q' i K' a w:=by
 unfold qOp at hh;unfold wpOpIn
 split
 ·rename_i ho;simp only [ho] at hh;exact h _ _ hC hh
 ·rename_i o ho
  simp only [ho] at hh
  split
  ·rename_i hw;simp only [hw,if_true] at hh;exact ztd hC h hh
  ·rename_i hw;simp only [hw] at hh;exact ⟨fun _ _=>trivial,h _ _ hC hh⟩
theorem wpAnyIn_of_quiet {Q:Act→Prop} {Q':Exit→Act→World→Prop} {ro:Option Nat} (hQ:∀ a w,C w→Q a→Q' .normal a w):∀ (fuel:Nat) (listed:Array Bool) (a:Act) (w:World),C w →
  wpAnyQ P md ops C Q fuel listed a→wpAnyIn (FW ro) n P md ops Q' fuel listed a w
 | 0,_,_,_,hw,h=>⟨h.1,hQ _ _ hw h.2⟩
 | fuel+1,_,_,_,hw,h=>⟨fun h0=>hQ _ _ hw (h.1 h0),fun i hi=>zte hw (fun a' w' hw'=>wpAnyIn_of_quiet hQ fuel _ a' w' hw') (h.2 i hi)⟩
end
section
variable {P:Program} {F:Fence} {n:Nat} {md:Region.Mode}
def lastB (md:Region.Mode) (head:Array Oper) (o:Oper):Bool :=
 (head.toList.zipIdx.all fun (oi,i)=>(oi.after.all fun e=>!Region.binds md e || decide (e.on < i)) && (match oi.guard with | none=>true | some (j,_)=>decide (j < head.size))) &&
 ((List.range head.size).all fun i=>(o.after.any fun e=>Region.binds md e && e.on == i) || (List.range head.size).any fun j=>decide (i < j) && (match head[j]? with | some oj=>oj.after.any fun e=>Region.binds md e && e.on == i | none=>false)) && (o.after.all fun e=>!Region.binds md e || decide (e.on < head.size))
theorem zfg {head:Array Oper} {o:Oper} (h:lastB md head o=true) :
  (∀ i oi,head[i]? = some oi→(∀ e∈oi.after,Region.binds md e=true→e.on < i)∧(∀ j b,oi.guard=some (j,b)→j < head.size)) ∧
  (∀ i,i < head.size→(∃ e∈o.after,Region.binds md e=true∧e.on=i)∨∃ j oj,i < j∧head[j]? = some oj∧∃ e∈oj.after,Region.binds md e=true∧e.on=i)∧∀ e∈o.after,Region.binds md e=true→e.on < head.size:=by
 unfold lastB at h;rw [Bool.and_eq_true,Bool.and_eq_true] at h;obtain ⟨⟨h1,h2⟩,h3⟩:=h;refine ⟨fun i oi hi=>?_,fun i hi=>?_,fun e he hb=>?_⟩
 ·have hm:(oi,i)∈head.toList.zipIdx:=by
   rw [List.mem_zipIdx_iff_getElem?];simpa using hi
  have:=List.all_eq_true.1 h1 _ hm;simp only [Bool.and_eq_true] at this;refine ⟨fun e he hb=>?_,fun j b hg=>?_⟩
  ·have h3:=Array.all_eq_true'.1 this.1 e he
   rw [hb] at h3;simpa using h3
  ·have h3:=this.2
   rw [hg] at h3;simpa using h3
 ·have:=List.all_eq_true.1 h2 i (List.mem_range.2 hi)
  rcases Bool.or_eq_true_iff.1 this with this | this
  ·obtain ⟨e,he,hb⟩:=Array.any_eq_true'.1 this
   simp only [Bool.and_eq_true,beq_iff_eq] at hb;exact .inl ⟨e,he,hb.1,hb.2⟩
  ·obtain ⟨j,_,hj⟩:=List.any_eq_true.1 this
   rw [Bool.and_eq_true] at hj;obtain ⟨hij,hj⟩:=hj
   split at hj
   ·rename_i oj hoj
    obtain ⟨e,he,hb⟩:=Array.any_eq_true'.1 hj;simp only [Bool.and_eq_true,beq_iff_eq] at hb;exact .inr ⟨j,oj,of_decide_eq_true hij,hoj,e,he,hb.1,hb.2⟩
   ·cases hj
 ·have h4:=Array.all_eq_true'.1 h3 e he
  rw [hb] at h4;simpa using h4
theorem zzm {head:Array Oper} {o:Oper} {tmps:Array Value} {j:Nat} (hj:j < head.size):yielded (head.push o) tmps j=yielded head tmps j:=by
 unfold yielded;simp [Array.getElem?_push,Nat.ne_of_lt hj]
theorem zru {head:Array Oper} {o oi:Oper} {tmps:Array Value} (hg:∀ j b,oi.guard=some (j,b)→j < head.size) :
  Region.wanted oi (yielded (head.push o) tmps)=Region.wanted oi (yielded head tmps):=by
 unfold Region.wanted;cases hgd:oi.guard with
 | none=>rfl
 | some p =>
  obtain ⟨j,b⟩:=p;simp only [zzm (hg j b hgd)]
theorem zbc (m j:Nat):(Array.replicate m false).getD j false=false:=by
 rcases Nat.lt_or_ge j m with h | h
 ·simp [h]
 ·simp [h]
theorem z4m {o:Oper} {a:Act} {w:World} {K:Act→World→Prop} {Q Q':Exit→Act→World→Prop} (hq:∀ e a w,e≠.normal→Q e a w→Q' e a w) (hh:o.wpIn F n P a w K Q):o.wpIn F n P a w K Q':=by
 unfold Oper.wpIn at *;refine ⟨hh.1,?_⟩;have hl:LetsOut Q→LetsOut Q':=fun ⟨a,w,h⟩=>⟨a,w,hq _ _ _ (by simp) h⟩
 have hh:=hh.2;generalize (o.semAt F.round a.eval).run P w=r at *;cases r with
 | ok x w' =>
  cases x<;>simp only [Oper.uponIn] at hh ⊢ <;>
   first
    | exact hh
    | exact ⟨hh.1,CallsIn.mono hh.2 (fun e w'' he=>by cases e<;>first | exact he | exact hl he | exact hq _ _ _ (by simp) he)⟩
    | exact ⟨hh.1,RoundIn.mono hh.2 (fun e w'' he=>by cases e<;>first | exact he | exact hl he | exact hq _ _ _ (by simp) he)⟩
 | halt x w'=>cases x<;>simp only [Oper.uponIn] at hh ⊢<;>first | exact hh | exact hq _ _ _ (by simp) hh
theorem ztf {head:Array Oper} {o:Oper} {listed:Array Bool} (hB:lastB md head o=true) (hs:listed.size=head.size) (h0:Region.ready md head listed=[]):∀ i,i < head.size→listed.getD i true=true:=by
 intro i
 induction i using Nat.strongRecOn with
 | _ i ih =>
  intro hi;cases hl:listed.getD i true with
  | true=>rfl
  | false =>
   exfalso;have:i∈Region.ready md head listed:=by
    refine mem_ready.2 ⟨hl,head[i],by simp [hi],fun e he hb=>?_⟩;have hlt:=((zfg hB).1 i head[i] (by simp [hi])).1 e he hb;have:=ih e.on hlt (by omega);have hel:e.on < listed.size:=by omega
    simp [hel] at this ⊢;exact this
   rw [h0] at this;cases this
theorem zdq {listed:Array Bool} {i:Nat} (d:Bool) (h:i < listed.size):(listed.push false).getD i d=listed.getD i d:=by
 simp [Array.getD,h,Nat.lt_succ_of_lt h,Array.getElem_push_lt h]
theorem zcj {listed:Array Bool} {i:Nat}:(listed.push false).getD i false=listed.getD i false:=by
 rcases Nat.lt_trichotomy i listed.size with h | h | h
 ·exact zdq false h
 ·subst h;simp [Array.getD]
 ·have h1:¬ i < listed.size:=by omega
  have h2:¬ i < listed.size+1:=by omega
  simp [Array.getD,h1,h2]
def Closed (md:Region.Mode) (head:Array Oper) (listed:Array Bool):Prop :=
 ∀ j oj,head[j]? = some oj→listed.getD j false=true→∀ e∈oj.after,Region.binds md e=true→listed.getD e.on false=true
theorem Closed.set {head:Array Oper} {listed:Array Bool} (h:Closed md head listed) {i:Nat} (hi:i∈Region.ready md head listed):Closed md head (listed.setIfInBounds i true):=by
 obtain ⟨_,oi,hoi,hall⟩:=mem_ready.1 hi;intro j oj hj hl e he hb
 by_cases hij:i=j
 ·subst hij
  have:oj=oi:=Option.some.inj (hj.symm.trans hoi);subst this;exact getD_set_true (hall e he hb)
 ·rw [getD_set_ne false hij] at hl
  exact getD_set_true (h j oj hj hl e he hb)
theorem z4n {head:Array Oper} {o:Oper} {listed:Array Bool} (hB:lastB md head o=true) (_:listed.size=head.size) (hc:Closed md head listed) (hr:∀ e∈o.after,Region.binds md e=true→listed.getD e.on false=true) :
  ∀ (d k:Nat),head.size - k=d→k < head.size→listed.getD k false=true:=by
 intro d
 induction d using Nat.strongRecOn with
 | _ d ih =>
  intro k hd hk
  rcases (zfg hB).2.1 k hk with ⟨e,he,hb,hon⟩ | ⟨j,oj,hkj,hj,e,he,hb,hon⟩
  ·rw [← hon];exact hr e he hb
  ·have hjl:j < head.size:=(Array.getElem?_eq_some_iff.1 hj).1
   rw [← hon];exact hc j oj hj (ih (head.size - j) (by omega) j rfl hjl) e he hb
theorem zil {head:Array Oper} {o:Oper} {listed:Array Bool} (hB:lastB md head o=true) (hs:listed.size=head.size) (hcl:Closed md head listed) {i:Nat} (hi:i∈Region.ready md (head.push o) (listed.push false)) :
  (i < head.size∧i∈Region.ready md head listed)∨(i=head.size∧Region.ready md head listed=[]):=by
 obtain ⟨h1,oi,h2,h3⟩:=mem_ready.1 hi
 rcases Nat.lt_or_ge i head.size with h | h
 ·left
  refine ⟨h,mem_ready.2 ⟨by rw [zdq true (by omega)] at h1;exact h1,oi,?_,fun e he hb=>?_⟩⟩
  ·rw [Array.getElem?_push,if_neg (by omega)] at h2;exact h2
  ·have:=h3 e he hb;rwa [zcj] at this
 ·right
  have hsz:=(Array.getElem?_eq_some_iff.1 h2).1;simp only [Array.size_push] at hsz;have e:i=head.size:=by omega
  subst e;refine ⟨rfl,?_⟩;rw [Array.getElem?_push,if_pos rfl] at h2;cases h2
  rcases hr:Region.ready md head listed with _ | ⟨k,rs⟩
  ·rfl
  ·exfalso
   have hk:k∈Region.ready md head listed:=by rw [hr];simp
   obtain ⟨g1,ok,g2,_⟩:=mem_ready.1 hk;have hkl:k < head.size:=(Array.getElem?_eq_some_iff.1 g2).1;have:=z4n hB hs hcl (fun e he hb=>by have:=h3 e he hb;rwa [zcj] at this) _ k rfl hkl;simp [show k < listed.size by omega] at g1 this;rw [g1] at this;cases this
theorem z2g {ops:Array Oper} {Q:Exit→Act→World→Prop} {listed:Array Bool} {a:Act} {w:World} (h0:Region.ready md ops listed=[]) (h:Q .normal a w):∀ fuel,wpAnyIn F n P md ops Q fuel listed a w
 | 0=>⟨h0,h⟩
 | _+1=>⟨fun _=>h,fun i hi=>by rw [h0] at hi;cases hi⟩
theorem zpl {head:Array Oper} {o:Oper} {Q:Exit→Act→World→Prop} (hB:lastB md head o=true):∀ (fuel:Nat) (listed:Array Bool) (a:Act) (w:World),listed.size=head.size→Closed md head listed →
  wpAnyIn F n P md head (Exit.then (fun a w=>wpOpIn F n P (head.push o) Q head.size (Q .normal) a w) Q) fuel listed a w→wpAnyIn F n P md (head.push o) Q (fuel+1) (listed.push false) a w:=by
 have last:∀ (fuel:Nat) (listed:Array Bool) (a:Act) (w:World),listed.size=head.size→Closed md head listed→Region.ready md head listed=[]→wpOpIn F n P (head.push o) Q head.size (Q .normal) a w →
   wpAnyIn F n P md (head.push o) Q (fuel+1) (listed.push false) a w:=by
  intro fuel listed a w hs hcl h0 h;have hall:=ztf hB hs h0;have hin:head.size∈Region.ready md (head.push o) (listed.push false):=by
   refine mem_ready.2 ⟨by rw [← hs];simp [Array.getD],o,by simp,fun e he hb=>?_⟩;have hon:e.on < head.size:=(zfg hB).2.2 e he hb;have:=hall e.on hon;rw [zcj];simp [show e.on < listed.size by omega] at this ⊢;exact this
  refine ⟨fun h1=>(by rw [h1] at hin;cases hin),fun i hi=>?_⟩
  rcases zil hB hs hcl hi with ⟨hlt,hr⟩ | ⟨rfl,_⟩
  ·rw [h0] at hr;cases hr
  ·refine wpOpIn_mono (fun a w hq=>z2g ?_ hq fuel) h
   rcases hr:Region.ready md (head.push o) ((listed.push false).setIfInBounds head.size true) with _ | ⟨k,rs⟩
   ·rfl
   ·exfalso
    have hk:k∈Region.ready md (head.push o) ((listed.push false).setIfInBounds head.size true):=by rw [hr];simp
    obtain ⟨g1,ok,g2,_⟩:=mem_ready.1 hk;have hsz:=(Array.getElem?_eq_some_iff.1 g2).1;simp only [Array.size_push] at hsz
    by_cases hkl:k=head.size
    ·subst hkl
     simp [Array.getD,hs] at g1
    ·rw [getD_set_ne true (fun h=>hkl h.symm),zdq true (by omega),hall k (by omega)] at g1
     cases g1
 intro fuel
 induction fuel with
 | zero=>exact fun listed a w hs hcl h=>last 0 listed a w hs hcl h.1 h.2
 | succ fuel ih =>
  intro listed a w hs hcl h
  by_cases h0:Region.ready md head listed=[]
  ·exact last _ listed a w hs hcl h0 (h.1 h0)
  ·refine ⟨fun h1=>?_,fun i hi=>?_⟩
   ·exfalso
    rcases hr:Region.ready md head listed with _ | ⟨k,rs⟩
    ·exact h0 hr
    ·have hk:k∈Region.ready md head listed:=by rw [hr];simp
     obtain ⟨g1,ok,g2,g3⟩:=mem_ready.1 hk;have hkl:k < head.size:=(Array.getElem?_eq_some_iff.1 g2).1;have:k∈Region.ready md (head.push o) (listed.push false) :=
      mem_ready.2 ⟨by rw [zdq true (by omega)];exact g1,ok,by rw [Array.getElem?_push,if_neg (by omega)];exact g2,fun e he hb=>by rw [zcj];exact g3 e he hb⟩
     rw [h1] at this;cases this
   ·rcases zil hB hs hcl hi with ⟨hlt,hr⟩ | ⟨_,hr⟩
    ·have h2:=h.2 i hr
     have e1:(head.push o)[i]? = head[i]?:=by rw [Array.getElem?_push,if_neg (by omega)]
     have e2:(listed.push false).setIfInBounds i true=(listed.setIfInBounds i true).push false:=by
      apply Array.ext';simp only [Array.toList_setIfInBounds,Array.toList_push];rw [List.set_append_left _ _ (by simpa [hs] using hlt)]
     unfold wpOpIn at h2 ⊢;rw [e1,e2];have hg:head[i]? = some head[i]:=by simp [hlt]
     rw [hg] at h2 ⊢;simp only at h2 ⊢;rw [zru (o:=o) ((zfg hB).1 i head[i] hg).2]
     split
     ·rename_i hw
      rw [if_pos hw] at h2;exact z4m (fun e a w hne hq=>by cases e<;>first | exact absurd rfl hne | exact hq) (Oper.wpIn_mono (fun a w=>ih _ a w (by simp [hs]) (hcl.set hr)) h2)
     ·rename_i hw
      rw [if_neg hw] at h2;exact ⟨h2.1,ih _ _ _ (by simp [hs]) (hcl.set hr) h2.2⟩
    ·exact absurd hr h0
end
theorem zsj {P:Program} {n:Nat} {ro:Option Nat} {C:World→Prop} {id:Nat} {Q:Exit→Act→World→Prop} {a:Act} {w:World} {head:List Oper} {o:Oper} {ls:List Oper} (hls:ls=head ++ [o]) (hg:o.guard=none)
  (hm:P.follows .mixedOrders=true) (hB:Region.lexB .any head.toArray=true) (hL:lastB .any head.toArray o=true) (hC:C { w with drawn:=w.drawn+1 })
  (h:wpQuiet P head.toArray C (fun a'=>∀ w',C w'→wpListIn (FW ro) n P ls.toArray Q [o] a' w') head a):(Code.region id ls.toArray true).wpIn (FW ro) n P Q a w:=by
 subst hls;simp only [Region.lexB,Bool.and_eq_true] at hB;have e:(head ++ [o]).toArray=head.toArray.push o:=by simp
 rw [e] at h ⊢;refine wpIn_region_any hm ?_
 have e2:Array.replicate (head.toArray.push o).size false=(Array.replicate head.toArray.size false).push false:=by
  rw [Array.size_push,Array.replicate_succ]
 rw [e2,Array.size_push];refine zpl hL _ _ _ _ (by simp) (fun j oj _ hl=>by rw [zbc] at hl;cases hl) ?_
 refine wpAnyIn_of_quiet (C:=C) (Q:=fun a'=>∀ w',C w'→wpListIn (FW ro) n P (head.toArray.push o) Q [o] a' w') (fun a' w' hw' h=>?_) _ _ _ _ hC ?_
 ·have h2:=h w' hw'
  unfold wpListIn at h2;simp only [Exit.then];unfold wpOpIn;have hi:(head.toArray.push o)[head.toArray.size]? = some o:=by simp
  rw [hi];have hw:∀ y,Region.wanted o y=true:=fun y=>by simp [Region.wanted,hg]
  simp only [hw,if_true] at h2 ⊢;exact h2
 ·have:=wpAnyQ_lex (C:=C) (md:=.any) hB.1 head.toArray.toList 0 (Array.replicate head.toArray.size false) a (by simp) (by simpa using hB.2) (by simpa using h)
  simpa using this
theorem zsk {P:Program} {n:Nat} {ro:Option Nat} {C:World→Prop} {id:Nat} {Q:Exit→Act→World→Prop} {a:Act} {w:World} {o:Oper} {ls:List Oper} (ho:ls.getLast? = some o) (hg:o.guard=none)
  (hm:P.follows .mixedOrders=true) (hB:Region.lexB .any ls.dropLast.toArray=true) (hL:lastB .any ls.dropLast.toArray o=true) (hC:C { w with drawn:=w.drawn+1 })
  (h:wpQuiet P ls.dropLast.toArray C (fun a'=>∀ w',C w'→wpListIn (FW ro) n P ls.toArray Q [o] a' w') ls.dropLast a):(Code.region id ls.toArray true).wpIn (FW ro) n P Q a w:=by
 refine zsj ?_ hg hm hB hL hC h;have hne:ls≠[]:=by intro e;rw [e] at ho;cases ho
 rw [List.getLast?_eq_some_getLast hne] at ho;have:=List.dropLast_concat_getLast hne;rw [← this];cases ho;simp
theorem zk2 {P:Program} {n:Nat} {ro:Option Nat} {id:Nat} {Q:Exit→Act→World→Prop} {a:Act} {w:World} {o:Oper} {ls:List Oper} (ho:ls.getLast? = some o) (hg:o.guard=none)
  (hm:P.follows .mixedOrders=true) (hB:Region.lexB .any ls.dropLast.toArray=true) (hL:lastB .any ls.dropLast.toArray o=true)
  (h:wpQuiet P ls.dropLast.toArray (fun w'=>∃ n,w'=w.drewN n) (fun a'=>∀ w',(∃ n,w'=w.drewN n)→wpListIn (FW ro) n P ls.toArray Q [o] a' w') ls.dropLast a):(Code.region id ls.toArray true).wpIn (FW ro) n P Q a w :=
 zsk ho hg hm hB hL ⟨1,rfl⟩ h
structure Gr (w:World) where
 W:World
 h:Below w.heap.size w W
instance (w:World):Nonempty (Gr w):=⟨⟨w,Below.refl _ w⟩⟩
def grow (w:World) (g:Gr w):World:=g.W
theorem zax (w:World) (g):Below w.heap.size w (grow w g):=g.h
theorem zk3 {w W:World} (h:Below w.heap.size w W):∃ g,W=grow w g:=⟨⟨W,h⟩,rfl⟩
@[go_sem] theorem zafj (w:World) (g) (b o:Nat) (h:b < w.heap.size):(grow w g).cell? ⟨b,o,none⟩=w.cell? ⟨b,o,none⟩:=g.h.cell (p:=⟨b,o,none⟩) h
@[go_sem] theorem zaez (w:World) (g) (b o:Nat) (h:b < w.heap.size):(grow w g).frozen? ⟨b,o,none⟩=w.frozen? ⟨b,o,none⟩:=g.h.frozen (p:=⟨b,o,none⟩) h
theorem ztg {P:Program} {n:Nat} {id:Nat} {Q:Exit→Act→World→Prop} {a:Act} {w:World} {o:Oper} {ls:List Oper} (ho:ls.getLast? = some o) (hg:o.guard=none)
  (hm:P.follows .mixedOrders=true) (hB:Region.lexB .any ls.dropLast.toArray=true) (hL:lastB .any ls.dropLast.toArray o=true)
  (h:wpQuiet P ls.dropLast.toArray (fun w'=>∃ n,w'=w.drewN n) (fun a'=>∀ w',(∃ n,w'=w.drewN n)→wpListIn Fence.wide n P ls.toArray Q [o] a' w') ls.dropLast a):(Code.region id ls.toArray true).wpIn Fence.wide n P Q a w :=
 zk2 (ro:=none) ho hg hm hB hL h
open Go.RowKit
def znx {α:Type} (p:α→Bool) (l:List α):Int:=match l.findIdx? p with | some i=>(i:Int) | none=>-1
theorem zpm {α:Type} {p:α→Bool} {l:List α} (h:∀ x∈l,p x=false):znx p l = -1:=by
 have:l.findIdx? p=none:=by rw [List.findIdx?_eq_none_iff];intro x hx;exact h x (by simpa using hx)
 simp [znx,this]
theorem zvl {α:Type} {p:α→Bool} {l:List α} {k:Nat} (hk:k < l.length) (h:∀ x∈l.take k,p x=false) (hp:p l[k]=true):znx p l=k:=by
 have:l.findIdx? p=some k:=by
  rw [List.findIdx?_eq_some_iff_getElem];refine ⟨hk,hp,fun j hj=>?_⟩;have:=h l[j] (by rw [List.mem_take_iff_getElem];exact ⟨j,by omega,rfl⟩);simp [this]
 simp [znx,this]
theorem zsl {α:Type} (p:α→Bool) (l:List α):decide (0≤znx p l)=l.any p:=by
 unfold znx;cases h:l.findIdx? p with
 | none=>rw [List.findIdx?_eq_none_iff] at h;simp;exact h
 | some i =>
  rw [List.findIdx?_eq_some_iff_getElem] at h;obtain ⟨h1,h2,_⟩:=h;simp;exact ⟨_,List.getElem_mem h1,h2⟩
theorem zjc {α:Type} {p:α→Bool} {l:List α} {k:Nat} (hk:k < l.length) (h:∀ x∈l.take k,p x=false) (hp:p l[k]=false):∀ x∈l.take (k+1),p x=false:=by
 intro x hx;rw [List.take_succ_eq_append_getElem hk,List.mem_append] at hx
 rcases hx with hx | hx
 ·exact h x hx
 ·simp at hx;rw [hx];exact hp
theorem zjd {α:Type} {p:α→Bool} {l:List α} {k:Nat} (hk:¬ k < l.length) (h:∀ x∈l.take k,p x=false):∀ x∈l,p x=false:=by
 rwa [List.take_of_length_le (by omega)] at h
theorem zay {k:IntKind} {a b:Int} (h:a=b):Ending.returned (.int k a) = .returned (.int k b):=by rw [h]
theorem zd2 {a b:Bool} (h:a=b):Ending.returned (.bool a) = .returned (.bool b):=by rw [h]
abbrev Ext (w w':World):Prop:=Below w.heap.size w w'
theorem Ext.trans' {a b c:World} (h:Ext a b) (k:Ext b c):Ext a c:=Below.trans h (k.mono h.size)
theorem Ext.al {w W:World} (h:Ext w W) (o:Obj):Ext w (W.alloc o):=Below.alloc h h.size o
theorem Ext.dr {w W:World} (h:Ext w W):Ext w W.drew:=Below.drew h
theorem Ext.drN {w W:World} (h:Ext w W) (n:Nat):Ext w (W.drewN n):=⟨h.os,h.tape,h.output,h.size,h.block⟩
theorem zj {w w':World} (h:Ext w w') {a:Addr} {v:Value} (hc:w.cell? a=some v):w'.cell? a=some v :=
 (h.cell (World.block_lt_of_cell? w a hc)).trans hc
theorem cell_below {B:Nat} {w w':World} (h:Below B w w') {a:Addr} (ha:a.block < B) {v:Value} (hc:w.cell? a=some v):w'.cell? a=some v :=
 (h.cell ha).trans hc
def RowsAt (w:World) (sz b off:Nat) (rows:List (List Value)):Prop :=
 ∀ i (h:i < rows.length) j (hj:j < rows[i].length),w.cell? ⟨b,off+i * sz+j,none⟩=some rows[i][j]
def IsRows (w:World) (sz:Nat) (v:Value) (rows:List (List Value)):Prop :=
 ∃ sa cap,v = .slice sa rows.length cap∧rows.length≤cap∧cap≤9223372036854775807∧(rows=[]∨∃ b off,sa=some ⟨b,off,none⟩∧RowsAt w sz b off rows)
theorem RowsAt.ext {w w':World} (h:Ext w w') {sz b off:Nat} {rows:List (List Value)} (hr:RowsAt w sz b off rows):RowsAt w' sz b off rows :=
 fun i hi j hj=>zj h (hr i hi j hj)
theorem IsRows.ext {w w':World} (h:Ext w w') {sz:Nat} {v:Value} {rows:List (List Value)} (hr:IsRows w sz v rows):IsRows w' sz v rows:=by
 obtain ⟨sa,cap,h1,h2,h3,h4⟩:=hr;refine ⟨sa,cap,h1,h2,h3,?_⟩
 rcases h4 with h4 | ⟨b,off,e,h4⟩
 ·exact .inl h4
 ·exact .inr ⟨b,off,e,h4.ext h⟩
def IsInts (w:World) (k:IntKind) (v:Value) (l:List Int):Prop:=IsRows w 1 v (l.map fun n=>[.int k n])
theorem IsInts.ext {w w':World} (h:Ext w w') {k:IntKind} {v:Value} {l:List Int} (hr:IsInts w k v l):IsInts w' k v l:=IsRows.ext h hr
theorem IsInts.spec {w:World} {k:IntKind} {v:Value} {l:List Int} (h:IsInts w k v l) :
  ∃ sa cap,v = .slice sa l.length cap∧l.length≤cap∧cap≤9223372036854775807∧(l=[]∨∃ b off,sa=some ⟨b,off,none⟩∧∀ i,(h:i < l.length)→w.cell? ⟨b,off+i,none⟩=some (.int k l[i])):=by
 obtain ⟨sa,cap,h1,h2,h3,h4⟩:=h;refine ⟨sa,cap,by simpa using h1,by simpa using h2,h3,?_⟩
 rcases h4 with h4 | ⟨b,off,e,h4⟩
 ·exact .inl (by simpa using h4)
 ·refine .inr ⟨b,off,e,fun i hi=>?_⟩
  have:=h4 i (by simpa using hi) 0 (by simp);simpa using this
theorem IsInts.mk {w:World} {k:IntKind} {l:List Int} {b off cap:Nat} (h2:l.length≤cap) (h3:cap≤9223372036854775807) (h:∀ i,(h:i < l.length)→w.cell? ⟨b,off+i,none⟩=some (.int k l[i])) :
  IsInts w k (.slice (some ⟨b,off,none⟩) l.length cap) l:=by
 refine ⟨_,cap,by simp,by simpa using h2,h3,.inr ⟨b,off,rfl,fun i hi j hj=>?_⟩⟩;simp only [List.length_map] at hi;have hj0:j=0:=by simp at hj;omega
 subst hj0;simpa using h i hi
@[go_sem] theorem zafu (w:World) (g) (b:Nat) (h:b < w.heap.size):(b < (grow w g).heap.size)=True:=eq_true (Nat.lt_of_lt_of_le h g.h.size)
@[go_sem] theorem zafv (a b:Nat) (h:a < b):(a < b+1)=True:=eq_true (by omega)
@[go_sem] theorem zafw (a b:Nat) (h:a < b):(a≤b)=True:=eq_true (by omega)
@[go_sem] theorem zafk (a:Nat):(a < a+1)=True:=eq_true (by omega)
@[go_sem] theorem zafx (w:World) (o:Obj) (b:Nat) (h:b < w.heap.size):(b < (w.alloc o).heap.size)=True:=eq_true (by simp;omega)
@[go_sem] theorem zae0 (w:World) (o:Obj):(w.heap.size < (w.alloc o).heap.size)=True:=eq_true (by simp)
theorem Ext.gr {w W:World} (h:Ext w W) (g):Ext w (grow W g):=Ext.trans' h (zax W g)
theorem xx {w W:World} (h:Ext w W:=by repeat (first | exact Below.refl _ _ | refine Ext.al ?_ _ | refine Ext.dr ?_ | refine Ext.drN ?_ _ | refine Ext.gr ?_ _ | (refine Ext.trans' ?_ (by assumption)))):Ext w W:=h
structure Sp where
 p:Value→World→Prop
 m:∀ v w w',p v w→Ext w w'→p v w'
def spT:Sp:=⟨fun _ _=>True,fun _ _ _ h _=>h⟩
def zap (o:Oper):List Nat:=(o.after.toList.filter fun e=>Region.binds .any e).map (·.on)
def zas (ls:List Oper) (j:Nat):Option Tmp:=(ls[j]?).bind (·.dst)
def zaz (ls:List Oper) (val:Nat→Value) (a:Act):List Nat→Act
 | []=>a
 | j :: js=>zaz ls val (a.put (zas ls j) (val j)) js
def selB (o:Op):Bool:=match o with | .select _ _=>true | _=>false
def zg2 (ls:List Oper) (size:Nat):Bool :=
 (List.range ls.length).all fun i=>match ls[i]? with
  | none=>true
  | some o=>o.guard.isNone && !selB o.op && (match o.dst with | none=>true | some d=>decide (d < size)) &&
   (zap o).all (fun j=>decide (j < i)) &&
   (List.range ls.length).all (fun j=>decide (j=i) || (match o.dst with | none=>true | some d=>!(zas ls j == some d))) &&
   o.op.operands.toList.all fun x=>match x with
    | .tmp s=>((zap o).any fun j=>zas ls j == some s) || (List.range ls.length).all fun j=>!(zas ls j == some s)
    | _=>true
structure zae1 (ls:List Oper) (size i:Nat) (o:Oper):Prop where
 g:o.guard=none
 s:∀ cs b,o.op≠.select cs b
 d:∀ d,o.dst=some d→d < size
 dep:∀ j∈zap o,j < i
 ne:∀ j,j < ls.length→j≠i→∀ d,o.dst=some d→zas ls j≠some d
 x:∀ s,Operand.tmp s∈o.op.operands→(∃ j∈zap o,zas ls j=some s)∨∀ j,j < ls.length→zas ls j≠some s
theorem zdr {ls:List Oper} {size:Nat} (h:zg2 ls size=true) {i:Nat} {o:Oper} (hi:ls[i]? = some o):zae1 ls size i o:=by
 unfold zg2 at h;rw [List.all_eq_true] at h;have hlt:i < ls.length:=(List.getElem?_eq_some_iff.1 hi).1;have h1:=h i (List.mem_range.2 hlt);rw [hi] at h1;simp only [Bool.and_eq_true] at h1;obtain ⟨⟨⟨⟨⟨a1,a2⟩,a3⟩,a4⟩,a5⟩,a6⟩:=h1;refine ⟨by simpa using a1,fun cs b e=>?_,fun d hd=>?_,fun j hj=>?_,fun j hj hne d hd=>?_,fun s hs=>?_⟩
 ·rw [e] at a2;simp [selB] at a2
 ·rw [hd] at a3;simpa using a3
 ·have:=List.all_eq_true.1 a4 j hj;simpa using this
 ·have:=List.all_eq_true.1 a5 j (List.mem_range.2 hj)
  rw [hd] at this;simp only [Bool.or_eq_true,decide_eq_true_eq,Bool.not_eq_true'] at this
  rcases this with h | h
  ·exact absurd h hne
  ·simpa using h
 ·have:=List.all_eq_true.1 a6 (.tmp s) (by simpa using hs)
  simp only [Bool.or_eq_true] at this
  rcases this with h | h
  ·left
   obtain ⟨j,hj,hd⟩:=List.any_eq_true.1 h;exact ⟨j,hj,by simpa using hd⟩
  ·right
   intro j hj;have:=List.all_eq_true.1 h j (List.mem_range.2 hj);simpa using this
theorem zny (a:Act) (d:Option Tmp) (v:Value):(a.put d v).tmps.size=a.tmps.size:=by cases d<;>simp [Act.put]
theorem put_defers (a:Act) (d:Option Tmp) (v:Value):(a.put d v).defers=a.defers:=by cases d<;>rfl
theorem ziy (a:Act) {d:Option Tmp} {s:Tmp} (v:Value) (h:d≠some s):(a.put d v).tmps[s]? = a.tmps[s]?:=by
 cases d with
 | none=>rfl
 | some d=>simp only [Act.put];rw [Array.getElem?_setIfInBounds_ne (fun e=>h (by rw [e]))]
theorem zzn (a:Act) {s:Tmp} (v:Value) (h:s < a.tmps.size):(a.put (some s) v).tmps[s]? = some v:=by simp [Act.put,h]
theorem znz (ls:List Oper) (val:Nat→Value):∀ (js:List Nat) (a:Act),(zaz ls val a js).tmps.size=a.tmps.size
 | [],_=>rfl
 | j :: js,a=>by rw [zaz,znz ls val js,zny]
theorem zje (ls:List Oper) (val:Nat→Value):∀ (js:List Nat) (a:Act),(zaz ls val a js).defers=a.defers
 | [],_=>rfl
 | j :: js,a=>by rw [zaz,zje ls val js,put_defers]
theorem zey (ls:List Oper) (val:Nat→Value) {s:Tmp}:∀ (js:List Nat) (a:Act),(∀ j∈js,zas ls j≠some s)→(zaz ls val a js).tmps[s]? = a.tmps[s]?
 | [],_,_=>rfl
 | j :: js,a,h=>by rw [zaz,zey ls val js _ fun k hk=>h k (by simp [hk]),ziy _ _ (h j (by simp))]
theorem zf5 {ls:List Oper} (val:Nat→Value) {s:Tmp} {i:Nat} (hi:zas ls i=some s):∀ (js:List Nat) (a:Act),(∀ j∈js,zas ls j=some s→j=i)→s < a.tmps.size→(i∈js∨a.tmps[s]? = some (val i))→(zaz ls val a js).tmps[s]? = some (val i)
 | [],a,_,_,h=>by
  rcases h with h | h
  ·cases h
  ·exact h
 | j :: js,a,hu,hs,h=>by
  rw [zaz];refine zf5 val hi js _ (fun k hk=>hu k (by simp [hk])) (by rw [zny];exact hs) ?_
  by_cases hj:zas ls j=some s
  ·obtain rfl:=hu j (by simp) hj
   right
   rw [hj,zzn _ _ hs]
  ·rcases h with h | h
   ·rcases List.mem_cons.1 h with rfl | h
    ·exact absurd hi hj
    ·exact .inl h
   ·right;rw [ziy _ _ hj];exact h
def got (o:Oper) (a:Act):Value:=match o.dst with | some d=>a.tmps.getD d undef | none=>undef
theorem z25 {a b:Act} (h1:a.defers=b.defers) (h2:a.tmps.size=b.tmps.size) (h3:∀ s:Nat,a.tmps[s]? = b.tmps[s]?):a=b:=by
 obtain ⟨ta,da⟩:=a;obtain ⟨tb,db⟩:=b;simp only at h1 h2 h3;subst h1
 congr 1
 exact Array.ext_getElem? h3
theorem zn0 (p q:Nat→Bool) (i:Nat):∀ n,(∀ j,j≠i→q j=p j)→p i=true→q i=false→i < n→(List.range n).countP p=(List.range n).countP q+1
 | 0,_,_,_,hi=>absurd hi (by omega)
 | n+1,h,hp,hq,hi=>by
  rw [List.range_succ,List.countP_append,List.countP_append]
  by_cases e:i=n
  ·subst e
   have:(List.range i).countP p=(List.range i).countP q:=List.countP_congr fun j hj=>by
    have:=List.mem_range.1 hj;rw [h j (by omega)]
   rw [this];simp [hp,hq]
  ·rw [zn0 p q i n h hp hq (by omega)]
   have:q n=p n:=h n (fun e'=>e e'.symm);simp only [List.countP_cons,List.countP_nil,this];omega
def z6k (P:Program) (w:World) (ls:List Oper) (S:Nat→Sp) (a:Act) (i:Nat) (o:Oper):Prop :=
 ∀ (val:Nat→Value) (W:World),Ext w W→(∀ j∈zap o,(S j).p (val j) W) →
  wpList P #[o] (fun e a' W'=>e = .normal∧a'.defers=a.defers∧Ext W W'∧(S i).p (got o a') W') [o] (zaz ls val a (zap o)) W
def zqw (P:Program) (w:World) (ls:List Oper) (S:Nat→Sp) (a:Act):Nat→List Oper→Prop
 | _,[]=>True
 | i,o :: os=>z6k P w ls S a i o∧zqw P w ls S a (i+1) os
theorem zqw.at {P:Program} {w:World} {ls:List Oper} {S:Nat→Sp} {a:Act}:∀ {os:List Oper} {i:Nat},zqw P w ls S a i os→∀ {j:Nat} {o:Oper},os[j]? = some o→z6k P w ls S a (i+j) o
 | [],_,_,j,o,h=>by simp at h
 | x :: os,i,hs,0,o,h=>by
  simp at h;subst h;exact hs.1
 | x :: os,i,hs,j+1,o,h=>by
  have:=zqw.at hs.2 (j:=j) (o:=o) (by simpa using h)
  rwa [Nat.add_assoc,Nat.add_comm 1 j] at this
def Run1 (P:Program) (o:Oper) (ρ:Operand→Value) (W:World) (s:Sp):Prop :=
 match (execOp ρ o).run P W with
 | .ok (.value v) W'=>Ext W W'∧s.p v W'
 | .ok (.enter f args) W'=>Calls P f args W' fun e W''=>∃ v,e = .returned v∧Ext W W''∧s.p v W''
 | _=>False
structure Holds (ls:List Oper) (a:Act) (o:Oper) (val:Nat→Value) (ρ:Operand→Value):Prop where
 dep:∀ j∈zap o,∀ t,zas ls j=some t→ρ (.tmp t)=val j
 old:∀ t,(∀ j∈zap o,zas ls j≠some t)→ρ (.tmp t)=a.eval (.tmp t)
 const:∀ c,ρ (.const c)=c
 func:∀ f,ρ (.func f) = .func (.func f) #[] #[]
def z26 (P:Program) (w:World) (ls:List Oper) (S:Nat→Sp) (a:Act) (o:Oper) (s:Sp):Prop :=
 ∀ (val:Nat→Value) (ρ:Operand→Value) (W:World),Ext w W→(∀ j∈zap o,(S j).p (val j) W)→Holds ls a o val ρ→Run1 P o ρ W s
def zn1 (P:Program) (w:World) (ls:List Oper) (S:Nat→Sp) (a:Act):List Oper→List Sp→Prop
 | [],_=>True
 | _ :: _,[]=>False
 | o :: os,s :: ss=>z26 P w ls S a o s∧zn1 P w ls S a os ss
theorem zn1.at {P:Program} {w:World} {ls:List Oper} {S:Nat→Sp} {a:Act}:∀ {os:List Oper} {ss:List Sp},zn1 P w ls S a os ss→∀ {j:Nat} {o:Oper},os[j]? = some o→z26 P w ls S a o (ss.getD j spT)
 | [],_,_,j,o,h=>by simp at h
 | x :: os,[],hs,_,_,_=>hs.elim
 | x :: os,s :: ss,hs,0,o,h=>by
  simp at h;subst h;exact hs.1
 | x :: os,s :: ss,hs,j+1,o,h=>by
  have:=zn1.at hs.2 (j:=j) (o:=o) (by simpa using h);simpa using this
def zbx:List (Option Tmp)→Nat→(Nat→Value)→Act→Act
 | [],_,_,a=>a
 | d :: ds,i,val,a=>zbx ds (i+1) val (a.put d (val i))
theorem zn2 {ls:List Oper} {val:Nat→Value}:∀ (os:List Oper) (i:Nat) (a:Act),(∀ j o,os[j]? = some o→zas ls (i+j)=o.dst)→zaz ls val a (List.range' i os.length)=zbx (os.map (·.dst)) i val a
 | [],_,_,_=>rfl
 | o :: os,i,a,h=>by
  rw [List.length_cons,List.range'_succ,zaz,List.map_cons,zbx,zn2 os (i+1) _ fun j o hj=>by have:=h (j+1) o (by simpa using hj);rwa [Nat.add_assoc,Nat.add_comm 1 j]];have:=h 0 o rfl;rw [Nat.add_zero] at this;rw [this]
section
variable {P:Program} {o:Oper} {ρ:Operand→Value} {W:World} {s:Sp}
end
structure Sq where
 us:List Nat
 p:List Value→Value→World→Prop
 hard:Bool
 m:∀ l v w w',p l v w→Ext w w'→p l v w'
 hm:hard=true→∀ l v w w',p l v w→p l v w'
def sqV (v0:Value):Sq:=⟨[],fun _ v _=>v=v0,true,fun _ _ _ _ h _=>h,fun _ _ _ _ _ h=>h⟩
def sqT:Sq:=⟨[],fun _ _ _=>True,true,fun _ _ _ _ h _=>h,fun _ _ _ _ _ h=>h⟩
def sqW (p:Value→World→Prop) (m:∀ v w w',p v w→Ext w w'→p v w'):Sq:=⟨[],fun _=>p,false,fun _=>m,fun h=>by cases h⟩
def usB (ls:List Oper) (S:List Sq):Bool:=(List.range ls.length).all fun i=>match ls[i]? with
 | none=>true
 | some o=>(S.getD i sqT).us.all fun k=>(zap o).contains k
def zk4 (ls:List Oper) (o:Oper):List Nat:=(zap o).filter fun j=>o.op.operands.toList.any fun x=>match x with | .tmp s=>zas ls j == some s | _=>false
def zbt (ls:List Oper):List (List Nat):=ls.foldl (fun acc o=>acc ++ [((zap o).flatMap fun j=>j :: acc.getD j []).eraseDups]) []
def z8w (ls:List Oper) (A:List (List Nat)):Bool :=
 (List.range ls.length).all fun j=>(A.getD j []).all fun i=>match ls[j]? with
  | none=>false
  | some o=>(zap o).any fun d=>d == i || (A.getD d []).contains i
def zn3 (A:List (List Nat)) (hd st:List Bool) (k j:Nat):Bool:=st.getD k false && !hd.getD j true && !(k == j) && !(A.getD j []).contains k
def zhv (ls:List Oper) (A:List (List Nat)) (hd st:List Bool):Bool :=
 z8w ls A && (List.range ls.length).all fun i=>match ls[i]? with
  | none=>true
  | some o=>(zk4 ls o).all fun j=>(List.range ls.length).all fun k=>!zn3 A hd st k j || k == i || (A.getD k []).contains i
def z4o (ls:List Oper) (listed:Array Bool):Prop:=∀ (j:Nat) (o:Oper),ls[j]? = some o→listed.getD j false=true→∀ d∈zap o,listed.getD d false=true
theorem zth {ls:List Oper} {A:List (List Nat)} {size:Nat} (hR:zg2 ls size=true) (hA:z8w ls A=true) {listed:Array Bool} (hc:z4o ls listed):∀ (j:Nat),j < ls.length→listed.getD j false=true→∀ i∈A.getD j [],listed.getD i false=true:=by
 intro j
 induction j using Nat.strongRecOn with
 | _ j ih =>
  intro hj hl i hi;have h1:=List.all_eq_true.1 (List.all_eq_true.1 hA j (List.mem_range.2 hj)) i hi;have hj':ls[j]? = some ls[j]:=List.getElem?_eq_getElem hj;rw [hj'] at h1;obtain ⟨d,hd,h2⟩:=List.any_eq_true.1 h1;have hdl:=hc j _ hj' hl d hd;have hdj:=(zdr hR hj').dep d hd;rw [Bool.or_eq_true] at h2
  rcases h2 with h2 | h2
  ·have:d=i:=by simpa using h2
   subst this;exact hdl
  ·exact ih d hdj (by omega) hdl i (by simpa using h2)
def zae2 (n:Nat) (A:List (List Nat)) (hd st:List Bool) (listed:Array Bool) (j:Nat):Prop:=∀ k,k < n→listed.getD k false=true→zn3 A hd st k j=false
def RInv (w:World) (B:Nat) (ls:List Oper) (S:Nat→Sq) (A:List (List Nat)) (hd st:List Bool) (a:Act) (listed:Array Bool) (a':Act) (W:World):Prop :=
 Below B w W∧z4o ls listed∧((∀ k,k < ls.length→listed.getD k false=true→st.getD k false=false)→Ext w W)∧∃ val:Nat→Value,(∀ j,j < ls.length→listed.getD j false=true→zae2 ls.length A hd st listed j→(S j).p ((S j).us.map val) (val j) W)∧a'.defers=a.defers∧a'.tmps.size=a.tmps.size ∧
  (∀ j s,zas ls j=some s→listed.getD j false=true→a'.tmps[s]? = some (val j))∧(∀ s,(∀ j,listed.getD j false=true→zas ls j≠some s)→a'.tmps[s]? = a.tmps[s]?)
def Eff (B:Nat) (strong:Bool) (W W':World):Prop:=if strong then Below B W W' else Ext W W'
def zjf (P:Program) (B:Nat) (strong:Bool) (o:Oper) (ρ:Operand→Value) (W:World) (val:Nat→Value) (s:Sq):Prop :=
 match (execOp ρ o).run P W with
 | .ok (.value v) W'=>Eff B strong W W'∧s.p (s.us.map val) (match o.dst with | some _=>v | none=>undef) W'
 | .ok .skip W'=>Eff B strong W W'∧s.p (s.us.map val) undef W'
 | .ok (.enter f args) W'=>Calls P f args W' fun e W''=>∃ v,e = .returned v∧Eff B strong W W''∧s.p (s.us.map val) (match o.dst with | some _=>v | none=>undef) W''
 | _=>False
def zby (n:Nat) (A:List (List Nat)) (st:List Bool):List Bool:=(List.range n).map fun i=>(List.range n).all fun k=>!st.getD k false || k == i || (A.getD k []).contains i
def z4p (P:Program) (w:World) (B:Nat) (ls:List Oper) (S:Nat→Sq) (a:Act) (strong early:Bool) (o:Oper) (s:Sq):Prop :=
 ∀ (val:Nat→Value) (ρ:Operand→Value) (W:World),Below B w W→w.heap.size≤W.heap.size→(∀ j∈zk4 ls o,(S j).p ((S j).us.map val) (val j) W)→Holds ls a o val ρ→(early=true→Ext w W)→zjf P B strong o ρ W val s
theorem Eff.below {B:Nat} {s:Bool} {W W':World} (h:Eff B s W W') (hB:B≤W.heap.size):Below B W W':=by
 unfold Eff at h;cases s
 ·exact h.mono hB
 ·exact h
def zsm (P:Program) (o:Oper) (a:Act) (w:World) (K:Act→World→Prop):Prop:=match (execOp a.eval o).run P w with
 | .ok (.value v) w'=>K (a.put o.dst v) w'
 | .ok .skip w'=>K (a.put o.dst undef) w'
 | .ok (.enter f args) w'=>Calls P f args w' fun e w''=>∃ v,e = .returned v∧K (a.put o.dst v) w''
 | _=>False
def zn4 (P:Program) (ops:Array Oper) (i:Nat) (K:Act→World→Prop) (a:Act) (w:World):Prop :=
 match ops[i]? with
 | none=>K a w
 | some o=>if Region.wanted o (yielded ops a.tmps) then zsm P o a w K else K (a.put o.dst undef) w
def wpAnyL (P:Program) (md:Region.Mode) (ops:Array Oper) (Q:Act→World→Prop):Nat→Array Bool→Act→World→Prop
 | 0,listed,a,w=>Region.ready md ops listed=[]∧Q a w
 | fuel+1,listed,a,w=>(Region.ready md ops listed=[]→Q a w)∧∀ i∈Region.ready md ops listed,zn4 P ops i (wpAnyL P md ops Q fuel (listed.setIfInBounds i true)) a w
theorem zabs {P:Program} {o:Oper} {a:Act} {w:World} {K K':Act→World→Prop} {Q:Exit→Act→World→Prop} (hk:∀ a w,K a w→K' a w) (h:zsm P o a w K):o.wp P a w K' Q:=by
 unfold zsm at h;unfold Oper.wp;generalize (execOp a.eval o).run P w=r at *;cases r with
 | ok x w' =>
  cases x<;>simp only [Oper.upon] at h ⊢
  case value v=>exact hk _ _ h
  case skip=>exact hk _ _ h
  case enter f args =>
   refine Calls.mono h fun e w'' ⟨v,he,q⟩=>?_
   subst he;exact hk _ _ q
 | halt x w'=>cases h
theorem z6l {P:Program} {n:Nat} {ro:Option Nat} {o:Oper} {a:Act} {w:World} {K K':Act→World→Prop} {Q:Exit→Act→World→Prop} (hk:∀ a w,K a w→K' a w) (h:zsm P o a w K):o.wpIn (FW ro) n P a w K' Q:=by
 unfold zsm at h;have e:(o.semAt (FW ro).round a.eval)=execOp a.eval o:=by
  refine Oper.semAt_plain (FW ro) a.eval o fun c hc=>?_
  rw [show execOp a.eval o=execOp a.eval { o with op:=.defer c } by rw [← hc]] at h
  revert h
  unfold execOp;simp;generalize (resolve a.eval c o.type).run P w=r;cases r<;>simp [Result.andThen]
 refine ⟨fun _ _=>trivial,?_⟩;rw [e];generalize (execOp a.eval o).run P w=r at *;cases r with
 | ok x w' =>
  cases x<;>simp only [Oper.uponIn] at h ⊢
  case value v=>exact hk _ _ h
  case skip=>exact hk _ _ h
  case enter f args =>
   refine ⟨fun hd=>by simp [FW] at hd,z24 (h.mono fun e w'' ⟨v,he,q⟩=>?_)⟩;subst he;exact hk _ _ q
 | halt x w'=>cases h
theorem zfh {P:Program} {md:Region.Mode} {ops:Array Oper} {Q:Exit→Act→World→Prop}:∀ (fuel:Nat) (listed:Array Bool) (a:Act) (w:World),wpAnyL P md ops (Q .normal) fuel listed a w→wpAny P md ops Q fuel listed a w
 | 0,_,_,_,h=>h
 | fuel+1,listed,a,w,⟨h1,h2⟩=>⟨h1,fun i hi=>by
   have h3:=h2 i hi;unfold zn4 at h3;unfold wpOp
   split at h3
   ·rename_i ho;simp only [ho];exact zfh fuel _ _ _ h3
   ·rename_i o ho
    simp only [ho]
    split at h3
    ·rename_i hw;rw [if_pos hw];exact .inl (zabs (fun a w=>zfh fuel _ a w) h3)
    ·rename_i hw;rw [if_neg hw];exact zfh fuel _ _ _ h3⟩
theorem zgr {P:Program} {n:Nat} {ro:Option Nat} {md:Region.Mode} {ops:Array Oper} {Q:Exit→Act→World→Prop}:∀ (fuel:Nat) (listed:Array Bool) (a:Act) (w:World),wpAnyL P md ops (Q .normal) fuel listed a w→wpAnyIn (FW ro) n P md ops Q fuel listed a w
 | 0,_,_,_,h=>h
 | fuel+1,listed,a,w,⟨h1,h2⟩=>⟨h1,fun i hi=>by
   have h3:=h2 i hi;unfold zn4 at h3;unfold wpOpIn
   split at h3
   ·rename_i ho;simp only [ho];exact zgr fuel _ _ _ h3
   ·rename_i o ho
    simp only [ho]
    split at h3
    ·rename_i hw;rw [if_pos hw];exact z6l (fun a w=>zgr fuel _ a w) h3
    ·rename_i hw;rw [if_neg hw];exact ⟨fun _ _=>trivial,zgr fuel _ _ _ h3⟩⟩
theorem rove {P:Program} {w:World} {B:Nat} (hBw:B≤w.heap.size) {ls:List Oper} {S:Nat→Sq} {A:List (List Nat)} {hd st:List Bool} {a:Act} {Q:Act→World→Prop} (hB:zg2 ls a.tmps.size=true) (hO:zhv ls A hd st=true)
  (hhd:∀ j,hd.getD j true=true→(S j).hard=true) (hus:∀ i o,ls[i]? = some o→∀ k∈(S i).us,k∈zap o)
  (hstep:∀ i o,ls[i]? = some o→z4p P w B ls S a (st.getD i false) ((zby ls.length A st).getD i false) o (S i))
  (hend:∀ (val:Nat→Value) (W:World),Below B w W→(∀ j,j < ls.length→(∀ k,k < ls.length→zn3 A hd st k j=false)→(S j).p ((S j).us.map val) (val j) W)→Q (zaz ls val a (List.range ls.length)) W) :
  ∀ (fuel:Nat) (listed:Array Bool) (a':Act) (W:World),listed.size=ls.length→(List.range ls.length).countP (fun j=>!listed.getD j false)≤fuel→w.heap.size≤W.heap.size→RInv w B ls S A hd st a listed a' W →
   wpAnyL P .any ls.toArray Q fuel listed a' W:=by
 simp only [zhv,Bool.and_eq_true] at hO;obtain ⟨hA,hO⟩:=hO;have fin:∀ (listed:Array Bool) (a':Act) (W:World),listed.size=ls.length→RInv w B ls S A hd st a listed a' W→(∀ j,j < ls.length→listed.getD j false=true)→Q a' W:=by
  intro listed a' W hs ⟨hE,hc,_,val,h1,h2,h3,h4,h5⟩ hall;have e:a'=zaz ls val a (List.range ls.length):=by
   refine z25 (by rw [h2,zje]) (by rw [h3,znz]) fun s=>?_
   by_cases hx:∃ j,j < ls.length∧zas ls j=some s
   ·obtain ⟨j,hj,hd⟩:=hx
    have hj':ls[j]? = some ls[j]:=List.getElem?_eq_getElem hj;have hR:=zdr hB hj';have hdst:ls[j].dst=some s:=by unfold zas at hd;rw [hj'] at hd;exact hd
    rw [h4 j s hd (hall j hj),zf5 val hd _ _ (fun k hk hd2=>?_) (hR.d s hdst) (.inl (List.mem_range.2 hj))]
    by_cases hkj:k=j
    ·exact hkj
    ·exact absurd hd2 (hR.ne k (List.mem_range.1 hk) hkj s hdst)
   ·rw [h5 s fun j hl hd=>hx ⟨j,?_,hd⟩,zey ls val _ _ fun j hj hd=>hx ⟨j,List.mem_range.1 hj,hd⟩]
    unfold zas at hd
    rcases Nat.lt_or_ge j ls.length with hj | hj
    ·exact hj
    ·rw [List.getElem?_eq_none hj] at hd;cases hd
  rw [e];exact hend val W hE fun j hj hk=>h1 j hj (hall j hj) fun k hkl _=>hk k hkl
 have zeb:∀ (listed:Array Bool),listed.size=ls.length→Region.ready .any ls.toArray listed=[]→∀ j,j < ls.length→listed.getD j false=true:=by
  intro listed hs h0 j
  induction j using Nat.strongRecOn with
  | _ j ih =>
   intro hj;cases hl:listed.getD j false with
   | true=>rfl
   | false =>
    exfalso;have hj':ls[j]? = some ls[j]:=List.getElem?_eq_getElem hj;have hR:=zdr hB hj';have hin:j∈Region.ready .any ls.toArray listed:=by
     refine mem_ready.2 ⟨?_,ls[j],by simp [hj],fun e he hb=>?_⟩
     ·have hjs:j < listed.size:=by omega
      simp [hjs] at hl ⊢;exact hl
     ·have hd:e.on∈zap ls[j]:=List.mem_map.2 ⟨e,List.mem_filter.2 ⟨by simpa using he,hb⟩,rfl⟩
      have hlt:=hR.dep _ hd;exact ih _ hlt (by omega)
    rw [h0] at hin;cases hin
 have step:∀ (listed:Array Bool) (a':Act) (W:World) (i:Nat) (K:Act→World→Prop),listed.size=ls.length→w.heap.size≤W.heap.size→RInv w B ls S A hd st a listed a' W→i∈Region.ready .any ls.toArray listed →
   (∀ a2 W2,w.heap.size≤W2.heap.size→RInv w B ls S A hd st a (listed.setIfInBounds i true) a2 W2→K a2 W2)→zn4 P ls.toArray i K a' W:=by
  intro listed a' W i K hs hsz0 ⟨hE,hc,hx0,val,h1,h2,h3,h4,h5⟩ hi hK;obtain ⟨hl,o,ho,hdeps⟩:=mem_ready.1 hi;have ho':ls[i]? = some o:=by simpa using ho
  have hilt:i < ls.length:=(List.getElem?_eq_some_iff.1 ho').1;have hR:=zdr hB ho';have hdl:∀ j∈zap o,listed.getD j false=true:=fun j hj=>by
   obtain ⟨e,he,rfl⟩:=List.mem_map.1 hj;obtain ⟨he1,he2⟩:=List.mem_filter.1 he;exact hdeps e (by simpa using he1) he2
  have hilf:listed.getD i false=false:=by
   have:i < listed.size:=by omega
   simp [this] at hl ⊢;exact hl
  have hnl:∀ {b:Prop},listed.getD i false=true→b:=fun h=>by rw [hilf] at h;cases h
  have hanc:=zth hB hA hc;have hev:∀ x∈o.op.operands,a'.eval x=(zaz ls val a (zap o)).eval x:=fun x hx=>by
   cases x with
   | tmp s =>
    have hh:a'.tmps[s]? = (zaz ls val a (zap o)).tmps[s]?:=by
     rcases hR.x s hx with ⟨j,hj,hd⟩ | hno
     ·have hji:=hR.dep j hj
      have hj':ls[j]? = some (ls[j]'(by omega)):=List.getElem?_eq_getElem (by omega);have hRj:=zdr hB hj';have hdst:(ls[j]'(by omega)).dst=some s:=by unfold zas at hd;rw [hj'] at hd;exact hd
      rw [h4 j s hd (hdl j hj),zf5 val hd _ _ (fun k hk hd2=>?_) (hRj.d s hdst) (.inl hj)]
      by_cases hkj:k=j
      ·exact hkj
      ·exact absurd hd2 (hRj.ne k (by have:=hR.dep k hk;omega) hkj s hdst)
     ·rw [h5 s fun j hl hd=>?_,zey ls val _ _ fun j hj=>hno j (by have:=hR.dep j hj;omega)]
      rcases Nat.lt_or_ge j ls.length with hj | hj
      ·exact hno j hj hd
      ·unfold zas at hd;rw [List.getElem?_eq_none hj] at hd;cases hd
    simp only [Act.eval,Array.getD_eq_getD_getElem?,hh]
   | _=>rfl
  have hx:=execOp_congr o hR.s hev;have hH:Holds ls a o val (zaz ls val a (zap o)).eval:=by
   refine ⟨fun j hj t ht=>?_,fun t ht=>?_,fun _=>rfl,fun _=>rfl⟩
   ·have hji:=hR.dep j hj
    have hj':ls[j]? = some (ls[j]'(by omega)):=List.getElem?_eq_getElem (by omega);have hRj:=zdr hB hj';have hdst:(ls[j]'(by omega)).dst=some t:=by unfold zas at ht;rw [hj'] at ht;exact ht
    have:=zf5 val ht (zap o) a (fun k hk hd2=>by
     by_cases hkj:k=j
     ·exact hkj
     ·exact absurd hd2 (hRj.ne k (by have:=hR.dep k hk;omega) hkj t hdst)) (hRj.d t hdst) (.inl hj)
    simp [Act.eval,Array.getD_eq_getD_getElem?,this]
   ·have:=zey ls val (zap o) a (fun j hj=>ht j hj)
    simp only [Act.eval,Array.getD_eq_getD_getElem?,this]
  have hdepS:∀ j∈zk4 ls o,(S j).p ((S j).us.map val) (val j) W:=fun j hju=>by
   have hj:j∈zap o:=(List.mem_filter.1 hju).1;refine h1 j (by have:=hR.dep j hj;omega) (hdl j hj) fun k hk hlk=>?_
   cases hkl:zn3 A hd st k j with
   | false=>rfl
   | true =>
    have q:=List.all_eq_true.1 hO i (List.mem_range.2 hilt);rw [ho'] at q;have q2:=List.all_eq_true.1 (List.all_eq_true.1 q j hju) k (List.mem_range.2 hk);rw [hkl] at q2;simp only [Bool.not_true,Bool.false_or,Bool.or_eq_true] at q2
    rcases q2 with q2 | q2
    ·have:k=i:=by simpa using q2
     subst this;exact hnl hlk
    ·exact hnl (hanc k hk hlk i (by simpa using q2))
  have hw:=hstep i o ho' val _ W hE hsz0 hdepS hH fun he=>hx0 fun k hk hlk=>by
   simp only [zby,List.getD_eq_getElem?_getD,List.getElem?_map,List.getElem?_range hilt,Option.map_some,Option.getD_some] at he;have q:=List.all_eq_true.1 he k (List.mem_range.2 hk);simp only [Bool.or_eq_true,Bool.not_eq_true'] at q
   rcases q with (q | q) | q
   ·simpa [List.getD_eq_getElem?_getD] using q
   ·have:k=i:=by simpa using q
    subst this;exact hnl hlk
   ·exact hnl (hanc k hk hlk i (by simpa [List.getD_eq_getElem?_getD] using q))
  have hwant:∀ y,Region.wanted o y=true:=fun y=>by simp [Region.wanted,hR.g]
  unfold zn4;rw [ho];simp only;rw [if_pos (hwant _)];have hupd:∀ (j:Nat) (oj:Oper),ls[j]? = some oj→(listed.getD j false=true∨j=i)→(S j).us.map (fun k=>if k=i then (match o.dst with | some _=>undef | none=>undef) else val k)=(S j).us.map val∧∀ u:Value,(S j).us.map (fun k=>if k=i then u else val k)=(S j).us.map val:=fun j oj hj hlj=>by
   have key:∀ u:Value,(S j).us.map (fun k=>if k=i then u else val k)=(S j).us.map val:=fun u=>List.map_congr_left fun k hk=>by
    have hkd:=hus j oj hj k hk;have hkl:listed.getD k false=true:=by
     rcases hlj with h | rfl
     ·exact hc j oj hj h k hkd
     ·rw [ho'] at hj;cases hj;exact hdl k hkd
    have:k≠i:=fun e=>by subst e;exact hnl hkl
    rw [if_neg this]
   exact ⟨key _,key⟩
  have next:∀ v W',Eff B (st.getD i false) W W'→(S i).p ((S i).us.map val) (match o.dst with | some _=>v | none=>undef) W'→K (a'.put o.dst v) W':=fun v W' hE' hS=>by
   have hsz1:W.heap.size≤W'.heap.size:=by
    unfold Eff at hE'
    split at hE'
    ·exact hE'.size
    ·exact hE'.size
   refine hK _ _ (by omega) ⟨hE.trans (hE'.below (by omega)),fun j oj hj hlj d hd=>?_,fun hns=>?_,fun j=>if j=i then (match o.dst with | some _=>v | none=>undef) else val j,fun j hj hlj hal=>?_,by rw [put_defers,h2],by rw [zny,h3],fun j s hd hlj=>?_,fun s hno=>?_⟩
   ·by_cases hji:j=i
    ·subst hji
     rw [ho'] at hj;cases hj;exact getD_set_true (hdl d hd)
    ·rw [getD_set_ne false (Ne.symm hji)] at hlj
     exact getD_set_true (hc j oj hj hlj d hd)
   ·have hst:=hns i hilt (by simp [hs,hilt])
    rw [hst] at hE';exact (hx0 fun k hk hlk=>hns k hk (getD_set_true hlk)).trans' hE'
   ·by_cases hji:j=i
    ·subst hji;rw [(hupd j o ho' (.inr rfl)).2];simp only [if_true];exact hS
    ·rw [getD_set_ne false (Ne.symm hji)] at hlj
     rw [(hupd j _ (List.getElem?_eq_getElem hj) (.inl hlj)).2];simp only [hji,if_false];have hold:=h1 j hj hlj fun k hk hlk=>hal k hk (getD_set_true hlk)
     have hki:=hal i hilt (by simp [hs,hilt]);cases hst:st.getD i false with
     | false =>
      rw [hst] at hE';exact (S j).m _ _ _ _ hold hE'
     | true =>
      unfold zn3 at hki;rw [hst] at hki;have hij:(i == j)=false:=by simpa using fun h=>hji h.symm
      rw [hij] at hki;simp only [Bool.true_and,Bool.not_false,Bool.and_true,Bool.and_eq_false_iff,Bool.not_eq_false'] at hki
      rcases hki with hki | hki
      ·exact (S j).hm (hhd j hki) _ _ _ _ hold
      ·exact hnl (hanc j hj hlj i (by simpa using hki))
   ·by_cases hji:j=i
    ·subst hji
     have hdst:o.dst=some s:=by unfold zas at hd;rw [ho'] at hd;exact hd
     simp only [if_true,hdst];exact zzn _ _ (by rw [h3];exact hR.d s hdst)
    ·rw [getD_set_ne false (Ne.symm hji)] at hlj
     simp only [hji,if_false];rw [ziy,h4 j s hd hlj];intro hdst
     rcases Nat.lt_or_ge j ls.length with hj | hj
     ·exact hR.ne j hj hji s hdst hd
     ·unfold zas at hd;rw [List.getElem?_eq_none hj] at hd;cases hd
   ·have hoi:o.dst≠some s:=by
     have:=hno i (by simp [hs,hilt]);unfold zas at this;rw [ho'] at this;exact this
    rw [ziy _ _ hoi,h5 s fun j hlj=>hno j (getD_set_true hlj)]
  unfold zjf at hw;unfold zsm;rw [hx];generalize (execOp (zaz ls val a (zap o)).eval o).run P W=r at *;cases r with
  | ok x W' =>
   cases x<;>simp only at hw ⊢
   case value v=>exact next v W' hw.1 hw.2
   case skip=>exact next undef W' hw.1 (by cases o.dst<;>exact hw.2)
   case enter f args =>
    refine Calls.mono hw fun e W'' ⟨v,he,q1,q2⟩=>?_
    subst he;exact ⟨v,rfl,next v W'' q1 q2⟩
  | halt x W'=>cases hw
 intro fuel
 induction fuel with
 | zero =>
  intro listed a' W hs hf hz hW;have hall:∀ j,j < ls.length→listed.getD j false=true:=fun j hj=>by
   have h0:(List.range ls.length).countP (fun j=>!listed.getD j false)=0:=by omega
   rw [List.countP_eq_zero] at h0;have:=h0 j (List.mem_range.2 hj);simpa using this
  refine ⟨?_,fin listed a' W hs hW hall⟩
  rcases hr:Region.ready .any ls.toArray listed with _ | ⟨k,rs⟩
  ·rfl
  ·exfalso
   have hk:k∈Region.ready .any ls.toArray listed:=by rw [hr];simp
   obtain ⟨g1,ok,g2,_⟩:=mem_ready.1 hk;have hlt:k < ls.length:=by have:=(Array.getElem?_eq_some_iff.1 g2).1;simpa using this
   have hka:=hall k hlt;have:k < listed.size:=by omega
   simp [this] at g1 hka;rw [g1] at hka;cases hka
 | succ fuel ih =>
  intro listed a' W hs hf hz hW;refine ⟨fun h0=>fin listed a' W hs hW (zeb listed hs h0),fun i hi=>?_⟩;refine step listed a' W i _ hs hz hW hi fun a2 W2 hz2 hW2=>ih _ a2 W2 (by simpa using hs) ?_ hz2 hW2
  obtain ⟨hl,o,ho,_⟩:=mem_ready.1 hi;have hilt:i < ls.length:=by have:=(Array.getElem?_eq_some_iff.1 ho).1;simpa using this
  have his:i < listed.size:=by omega
  have hcnt:=zn0 (fun j=>!listed.getD j false) (fun j=>!(listed.setIfInBounds i true).getD j false) i ls.length (fun j hj=>by rw [getD_set_ne false (Ne.symm hj)]) (by simp [his] at hl ⊢;exact hl) (by simp [his]) hilt;omega
def zfu (P:Program) (w:World) (B:Nat) (ls:List Oper) (S:Nat→Sq) (a:Act):List (Bool × Bool)→List Oper→List Sq→Prop
 | _,[],_=>True
 | _,_ :: _,[]=>False
 | [],_ :: _,_ :: _=>False
 | b :: bs,o :: os,s :: ss=>z4p P w B ls S a b.1 b.2 o s∧zfu P w B ls S a bs os ss
theorem zfu.at {P:Program} {w:World} {B:Nat} {ls:List Oper} {S:Nat→Sq} {a:Act}:∀ {st:List (Bool × Bool)} {os:List Oper} {ss:List Sq},zfu P w B ls S a st os ss→∀ {j:Nat} {o:Oper},os[j]? = some o→z4p P w B ls S a (st.getD j (false,false)).1 (st.getD j (false,false)).2 o (ss.getD j sqT)
 | _,[],_,_,j,o,h=>by simp at h
 | bs,x :: os,[],hs,_,_,_=>by cases bs<;>exact False.elim hs
 | [],x :: os,s :: ss,hs,_,_,_=>False.elim hs
 | b :: bs,x :: os,s :: ss,hs,0,o,h=>by
  simp at h;subst h;exact hs.1
 | b :: bs,x :: os,s :: ss,hs,j+1,o,h=>by
  have:=zfu.at hs.2 (j:=j) (o:=o) (by simpa using h);simpa using this
def zko (keep:List Bool):List Sq→Nat→(Nat→Value)→World→Prop
 | [],_,_,_=>True
 | s :: ss,i,val,W=>(if keep.getD i false then s.p (s.us.map val) (val i) W else True)∧zko keep ss (i+1) val W
theorem z27 {W:World} {val:Nat→Value} {keep:List Bool}:∀ (ss:List Sq) (i:Nat),(∀ j,j < ss.length→keep.getD (i+j) false=true→(ss.getD j sqT).p ((ss.getD j sqT).us.map val) (val (i+j)) W)→zko keep ss i val W
 | [],_,_=>trivial
 | s :: ss,i,h=>⟨by
   split
   ·rename_i hk
    have:=h 0 (by simp) (by simpa using hk);simpa using this
   ·trivial,z27 ss (i+1) fun j hj hk=>by
   have:=h (j+1) (by simp;omega) (by rw [← Nat.add_assoc,Nat.add_right_comm];exact hk);rw [Nat.add_assoc,Nat.add_comm 1 j];simpa using this⟩
def zn5 (n:Nat) (A:List (List Nat)) (hd st:List Bool):List Bool:=(List.range n).map fun j=>(List.range n).all fun k=>!zn3 A hd st k j
theorem zsn {P:Program} {Q:Act→World→Prop} {a:Act} {w:World} {ls:List Oper} (B:Nat) (hBw:B≤w.heap.size) (S:List Sq) (hd st keep ea:List Bool) (hB:zg2 ls a.tmps.size=true)
  (hO:zhv ls (zbt ls) hd st=true) (hK:zn5 ls.length (zbt ls) hd st=keep) (hEa:zby ls.length (zbt ls) st=ea) (hsl:st.length=ls.length) (hhd:S.map (·.hard)=hd∧usB ls S=true)
  (hstep:zfu P w B ls (fun i=>S.getD i sqT) a (st.zip ea) ls S)
  (D:List (Option Tmp)) (hDs:ls.map (·.dst)=D) (hlen:S.length=ls.length)
  (hend:∀ (val:Nat→Value) (W:World),Below B w W→w.heap.size≤W.heap.size→zko keep S 0 val W→Q (zbx D 0 val a) W) :
  wpAnyL P .any ls.toArray Q ls.toArray.size (Array.replicate ls.toArray.size false) a { w with drawn:=w.drawn+1 }:=by
 have hend:∀ (val:Nat→Value) (W:World),Below B w W→(∀ j,j < ls.length→(∀ k,k < ls.length→zn3 (zbt ls) hd st k j=false)→(S.getD j sqT).p ((S.getD j sqT).us.map val) (val j) W)→Q (zaz ls val a (List.range ls.length)) W:=fun val W hE hS=>by
  rw [List.range_eq_range',zn2 ls 0 a (fun j o hj=>by rw [Nat.zero_add];unfold zas;rw [hj];rfl),hDs];refine hend val W hE hE.size (z27 S 0 fun j hj hk=>?_);rw [Nat.zero_add] at hk ⊢;refine hS j (by omega) fun k hkl=>?_
  rw [← hK] at hk;unfold zn5 at hk;have hjl:j < ls.length:=by omega
  simp only [List.getD_eq_getElem?_getD,List.getElem?_map,List.getElem?_range hjl,Option.map_some,Option.getD_some] at hk;have:=List.all_eq_true.1 hk k (List.mem_range.2 hkl);simpa using this
 refine rove (A:=zbt ls) (hd:=hd) (st:=st) hBw (S:=fun i=>S.getD i sqT) hB hO (fun j hj=>?_) (fun i o hi k hk=>by
   have h1:=List.all_eq_true.1 hhd.2 i (List.mem_range.2 (List.getElem?_eq_some_iff.1 hi).1);rw [hi] at h1;have h2:=List.all_eq_true.1 h1 k hk;simpa using h2) (fun i o hi=>?hst) hend _ _ _ _ (by simp) ?_ (Nat.le_refl _) ⟨Below.drew (Below.refl _ _),fun j o _ hl=>?_,fun _=>Ext.dr (Below.refl _ _),fun _=>undef,fun j _ hl=>?_,rfl,rfl,fun j s _ hl=>?_,fun _ _=>rfl⟩
 ·rw [← hhd.1] at hj
  rcases Nat.lt_or_ge j S.length with h | h
  ·simpa [List.getD_eq_getElem?_getD,h] using hj
  ·simp [List.getD_eq_getElem?_getD,h,sqT]
 ·have h1:=hstep.at hi
  have hil:i < ls.length:=(List.getElem?_eq_some_iff.1 hi).1;have hel:ea.length=ls.length:=by rw [← hEa];simp [zby]
  have hz:(st.zip ea).getD i (false,false)=(st.getD i false,ea.getD i false):=by
   simp only [List.getD_eq_getElem?_getD,List.getElem?_eq_getElem (show i < (st.zip ea).length by simp;omega),List.getElem?_eq_getElem (show i < st.length by omega),List.getElem?_eq_getElem (show i < ea.length by omega),Option.getD_some,List.getElem_zip]
  rw [hz] at h1;rw [hEa];exact h1
 ·have:=List.countP_le_length (p:=fun j=>!((Array.replicate ls.toArray.size false).getD j false)) (l:=List.range ls.length)
  simpa using this
 ·rw [zbc] at hl;cases hl
 ·rw [zbc] at hl;cases hl
 ·rw [zbc] at hl;cases hl
theorem zb9 {P:Program} {id:Nat} {Q:Exit→Act→World→Prop} {a:Act} {w:World} {ls:List Oper} (B:Nat) (hBw:B≤w.heap.size) (S:List Sq) (hd st keep ea:List Bool) (hm:P.follows .mixedOrders=true) (hB:zg2 ls a.tmps.size=true)
  (hO:zhv ls (zbt ls) hd st=true) (hK:zn5 ls.length (zbt ls) hd st=keep) (hEa:zby ls.length (zbt ls) st=ea) (hsl:st.length=ls.length) (hhd:S.map (·.hard)=hd∧usB ls S=true)
  (hstep:zfu P w B ls (fun i=>S.getD i sqT) a (st.zip ea) ls S)
  (D:List (Option Tmp)) (hDs:ls.map (·.dst)=D) (hlen:S.length=ls.length)
  (hend:∀ (val:Nat→Value) (W:World),Below B w W→w.heap.size≤W.heap.size→zko keep S 0 val W→Q .normal (zbx D 0 val a) W) :
  (Code.region id ls.toArray true).wp P Q a w:=wp_region_any hm (zfh _ _ _ _ (zsn B hBw S hd st keep ea hB hO hK hEa hsl hhd hstep D hDs hlen hend))
section
variable {P:Program} {md:Region.Mode}
theorem zso {o:Oper} {a:Act} {w:World} {K:Act→World→Prop} {Q Q':Exit→Act→World→Prop} (hq:∀ e a w,e≠.normal→Q e a w→Q' e a w) (hh:o.wp P a w K Q):o.wp P a w K Q':=by
 unfold Oper.wp at *;have hl:LetsOut Q→LetsOut Q':=fun ⟨a,w,h⟩=>⟨a,w,hq _ _ _ (by simp) h⟩
 generalize (execOp a.eval o).run P w=r at *;cases r with
 | ok x w' =>
  cases x<;>simp only [Oper.upon] at hh ⊢ <;>
   first
    | exact hh
    | exact Calls.mono hh (fun e w'' he=>by cases e<;>first | exact he | exact hl he | exact hq _ _ _ (by simp) he)
 | halt x w'=>cases x<;>simp only [Oper.upon] at hh ⊢<;>first | exact hh | exact hq _ _ _ (by simp) hh
theorem z6m {ops:Array Oper} {Q:Exit→Act→World→Prop} {listed:Array Bool} {a:Act} {w:World} (h0:Region.ready md ops listed=[]) (h:Q .normal a w):∀ fuel,wpAny P md ops Q fuel listed a w
 | 0=>⟨h0,h⟩
 | _+1=>⟨fun _=>h,fun i hi=>by rw [h0] at hi;cases hi⟩
theorem zti {head:Array Oper} {o:Oper} {Q:Exit→Act→World→Prop} (hB:lastB md head o=true):∀ (fuel:Nat) (listed:Array Bool) (a:Act) (w:World),listed.size=head.size→Closed md head listed →
  wpAny P md head (Exit.then (fun a w=>wpOp P (head.push o) Q head.size (Q .normal) a w) Q) fuel listed a w→wpAny P md (head.push o) Q (fuel+1) (listed.push false) a w:=by
 have last:∀ (fuel:Nat) (listed:Array Bool) (a:Act) (w:World),listed.size=head.size→Closed md head listed→Region.ready md head listed=[]→wpOp P (head.push o) Q head.size (Q .normal) a w →
   wpAny P md (head.push o) Q (fuel+1) (listed.push false) a w:=by
  intro fuel listed a w hs hcl h0 h;have hall:=ztf hB hs h0;have hin:head.size∈Region.ready md (head.push o) (listed.push false):=by
   refine mem_ready.2 ⟨by rw [← hs];simp [Array.getD],o,by simp,fun e he hb=>?_⟩;have hon:e.on < head.size:=(zfg hB).2.2 e he hb;have:=hall e.on hon;rw [zcj];simp [show e.on < listed.size by omega] at this ⊢;exact this
  refine ⟨fun h1=>(by rw [h1] at hin;cases hin),fun i hi=>?_⟩
  rcases zil hB hs hcl hi with ⟨hlt,hr⟩ | ⟨rfl,_⟩
  ·rw [h0] at hr;cases hr
  ·refine wpOp_mono (fun a w hq=>z6m ?_ hq fuel) h
   rcases hr:Region.ready md (head.push o) ((listed.push false).setIfInBounds head.size true) with _ | ⟨k,rs⟩
   ·rfl
   ·exfalso
    have hk:k∈Region.ready md (head.push o) ((listed.push false).setIfInBounds head.size true):=by rw [hr];simp
    obtain ⟨g1,ok,g2,_⟩:=mem_ready.1 hk;have hsz:=(Array.getElem?_eq_some_iff.1 g2).1;simp only [Array.size_push] at hsz
    by_cases hkl:k=head.size
    ·subst hkl
     simp [Array.getD,hs] at g1
    ·rw [getD_set_ne true (fun h=>hkl h.symm),zdq true (by omega),hall k (by omega)] at g1
     cases g1
 intro fuel
 induction fuel with
 | zero=>exact fun listed a w hs hcl h=>last 0 listed a w hs hcl h.1 h.2
 | succ fuel ih =>
  intro listed a w hs hcl h
  by_cases h0:Region.ready md head listed=[]
  ·exact last _ listed a w hs hcl h0 (h.1 h0)
  ·refine ⟨fun h1=>?_,fun i hi=>?_⟩
   ·exfalso
    rcases hr:Region.ready md head listed with _ | ⟨k,rs⟩
    ·exact h0 hr
    ·have hk:k∈Region.ready md head listed:=by rw [hr];simp
     obtain ⟨g1,ok,g2,g3⟩:=mem_ready.1 hk;have hkl:k < head.size:=(Array.getElem?_eq_some_iff.1 g2).1;have:k∈Region.ready md (head.push o) (listed.push false) :=
      mem_ready.2 ⟨by rw [zdq true (by omega)];exact g1,ok,by rw [Array.getElem?_push,if_neg (by omega)];exact g2,fun e he hb=>by rw [zcj];exact g3 e he hb⟩
     rw [h1] at this;cases this
   ·rcases zil hB hs hcl hi with ⟨hlt,hr⟩ | ⟨_,hr⟩
    ·have h2:=h.2 i hr
     have e1:(head.push o)[i]? = head[i]?:=by rw [Array.getElem?_push,if_neg (by omega)]
     have e2:(listed.push false).setIfInBounds i true=(listed.setIfInBounds i true).push false:=by
      apply Array.ext';simp only [Array.toList_setIfInBounds,Array.toList_push];rw [List.set_append_left _ _ (by simpa [hs] using hlt)]
     generalize (fun a w=>wpOp P (head.push o) Q head.size (Q .normal) a w)=KK at h2 ih;unfold wpOp at h2 ⊢;rw [e1,e2];have hg:head[i]? = some head[i]:=by simp [hlt]
     rw [hg] at h2 ⊢;simp only at h2 ⊢;rw [zru (o:=o) ((zfg hB).1 i head[i] hg).2];have hmq:∀ e a w,e≠Exit.normal→Exit.then KK Q e a w→Q e a w:=fun e a w hne hq=>by cases e<;>first | exact absurd rfl hne | exact hq
     split
     ·rename_i hw
      rw [if_pos hw] at h2
      rcases h2 with h2 | ⟨h2,a2,w2,h3⟩
      ·exact .inl (zso hmq (Oper.wp_mono (fun a w=>ih _ a w (by simp [hs]) (hcl.set hr)) h2))
      ·exact .inr ⟨h2,a2,w2,hmq _ _ _ (by simp) h3⟩
     ·rename_i hw
      rw [if_neg hw] at h2;exact ih _ _ _ (by simp [hs]) (hcl.set hr) h2
    ·exact absurd hr h0
end
theorem zpj {P:Program} {id:Nat} {Q:Exit→Act→World→Prop} {a:Act} {w:World} {hd0:List Oper} {o:Oper} {ls:List Oper} (hls:ls=hd0 ++ [o]) (hg:o.guard=none) (hL:lastB .any hd0.toArray o=true)
  (B:Nat) (hBw:B≤w.heap.size) (S:List Sq) (hd st keep ea:List Bool) (hm:P.follows .mixedOrders=true) (hB:zg2 hd0 a.tmps.size=true)
  (hO:zhv hd0 (zbt hd0) hd st=true) (hK:zn5 hd0.length (zbt hd0) hd st=keep) (hEa:zby hd0.length (zbt hd0) st=ea) (hsl:st.length=hd0.length) (hhd:S.map (·.hard)=hd∧usB hd0 S=true)
  (hstep:zfu P w B hd0 (fun i=>S.getD i sqT) a (st.zip ea) hd0 S)
  (D:List (Option Tmp)) (hDs:hd0.map (·.dst)=D) (hlen:S.length=hd0.length)
  (hend:∀ (val:Nat→Value) (W:World),Below B w W→w.heap.size≤W.heap.size→zko keep S 0 val W→wpList P ls.toArray Q [o] (zbx D 0 val a) W) :
  (Code.region id ls.toArray true).wp P Q a w:=by
 subst hls;have e:(hd0 ++ [o]).toArray=hd0.toArray.push o:=by simp
 rw [e] at hend ⊢;refine wp_region_any hm ?_
 have e2:Array.replicate (hd0.toArray.push o).size false=(Array.replicate hd0.toArray.size false).push false:=by
  rw [Array.size_push,Array.replicate_succ]
 rw [e2,Array.size_push];refine zti hL _ _ _ _ (by simp) (fun j oj _ hl=>by rw [zbc] at hl;cases hl) ?_
 have hend':∀ (val:Nat→Value) (W:World),Below B w W→w.heap.size≤W.heap.size→zko keep S 0 val W→Exit.then (fun a w=>wpOp P (hd0.toArray.push o) Q hd0.toArray.size (Q .normal) a w) Q .normal (zbx D 0 val a) W:=by
  intro val W h1 h2 h3;have h:=hend val W h1 h2 h3;unfold wpList at h;simp only [Exit.then];unfold wpOp;have hi:(hd0.toArray.push o)[hd0.toArray.size]? = some o:=by simp
  rw [hi];have hw:∀ y,Region.wanted o y=true:=fun y=>by simp [Region.wanted,hg]
  simp only [hw,if_true] at h ⊢;exact h
 exact zfh _ _ _ _ (zsn B hBw S hd st keep ea hB hO hK hEa hsl hhd hstep D hDs hlen hend')
theorem zb8 {P:Program} {id:Nat} {Q:Exit→Act→World→Prop} {a:Act} {w:World} {o:Oper} {ls:List Oper} (ho:ls.getLast? = some o) (hg:o.guard=none) (hL:lastB .any ls.dropLast.toArray o=true)
  (B:Nat) (hBw:B≤w.heap.size) (S:List Sq) (hd st keep ea:List Bool) (hm:P.follows .mixedOrders=true) (hB:zg2 ls.dropLast a.tmps.size=true)
  (hO:zhv ls.dropLast (zbt ls.dropLast) hd st=true) (hK:zn5 ls.dropLast.length (zbt ls.dropLast) hd st=keep) (hEa:zby ls.dropLast.length (zbt ls.dropLast) st=ea) (hsl:st.length=ls.dropLast.length) (hhd:S.map (·.hard)=hd∧usB ls.dropLast S=true)
  (hstep:zfu P w B ls.dropLast (fun i=>S.getD i sqT) a (st.zip ea) ls.dropLast S)
  (D:List (Option Tmp)) (hDs:ls.dropLast.map (·.dst)=D) (hlen:S.length=ls.dropLast.length)
  (hend:∀ (val:Nat→Value) (W:World),Below B w W→w.heap.size≤W.heap.size→zko keep S 0 val W→wpList P ls.toArray Q [o] (zbx D 0 val a) W) :
  (Code.region id ls.toArray true).wp P Q a w:=by
 refine zpj ?_ hg hL B hBw S hd st keep ea hm hB hO hK hEa hsl hhd hstep D hDs hlen hend;have hne:ls≠[]:=by intro e;rw [e] at ho;cases ho
 rw [List.getLast?_eq_some_getLast hne] at ho;have:=List.dropLast_concat_getLast hne;rw [← this];cases ho;simp
theorem zk5 {P:Program} {n l:Nat} {id:Nat} {Q:Exit→Act→World→Prop} {a:Act} {w:World} {hd0:List Oper} {o:Oper} {ls:List Oper} (hls:ls=hd0 ++ [o]) (hg:o.guard=none) (hL:lastB .any hd0.toArray o=true)
  (B:Nat) (hBw:B≤w.heap.size) (S:List Sq) (hd st keep ea:List Bool) (hm:P.follows .mixedOrders=true) (hB:zg2 hd0 a.tmps.size=true)
  (hO:zhv hd0 (zbt hd0) hd st=true) (hK:zn5 hd0.length (zbt hd0) hd st=keep) (hEa:zby hd0.length (zbt hd0) st=ea) (hsl:st.length=hd0.length) (hhd:S.map (·.hard)=hd∧usB hd0 S=true)
  (hstep:zfu P w B hd0 (fun i=>S.getD i sqT) a (st.zip ea) hd0 S)
  (D:List (Option Tmp)) (hDs:hd0.map (·.dst)=D) (hlen:S.length=hd0.length)
  (hend:∀ (val:Nat→Value) (W:World),Below B w W→w.heap.size≤W.heap.size→zko keep S 0 val W→wpListIn (Fence.wide.inRound l) n P ls.toArray Q [o] (zbx D 0 val a) W) :
  (Code.region id ls.toArray true).wpIn (Fence.wide.inRound l) n P Q a w:=by
 subst hls;have e:(hd0 ++ [o]).toArray=hd0.toArray.push o:=by simp
 rw [e] at hend ⊢;refine wpIn_region_any (F:=FW (some l)) hm ?_
 have e2:Array.replicate (hd0.toArray.push o).size false=(Array.replicate hd0.toArray.size false).push false:=by
  rw [Array.size_push,Array.replicate_succ]
 rw [e2,Array.size_push];refine zpl hL _ _ _ _ (by simp) (fun j oj _ hl=>by rw [zbc] at hl;cases hl) ?_
 have hend':∀ (val:Nat→Value) (W:World),Below B w W→w.heap.size≤W.heap.size→zko keep S 0 val W→Exit.then (fun a w=>wpOpIn (FW (some l)) n P (hd0.toArray.push o) Q hd0.toArray.size (Q .normal) a w) Q .normal (zbx D 0 val a) W:=by
  intro val W h1 h2 h3;have h:=hend val W h1 h2 h3;unfold wpListIn at h;simp only [Exit.then];unfold wpOpIn;have hi:(hd0.toArray.push o)[hd0.toArray.size]? = some o:=by simp
  rw [hi];have hw:∀ y,Region.wanted o y=true:=fun y=>by simp [Region.wanted,hg]
  simp only [hw,if_true] at h ⊢;exact h
 exact zgr _ _ _ _ (zsn B hBw S hd st keep ea hB hO hK hEa hsl hhd hstep D hDs hlen hend')
theorem zgf {P:Program} {n l:Nat} {id:Nat} {Q:Exit→Act→World→Prop} {a:Act} {w:World} {o:Oper} {ls:List Oper} (ho:ls.getLast? = some o) (hg:o.guard=none) (hL:lastB .any ls.dropLast.toArray o=true)
  (B:Nat) (hBw:B≤w.heap.size) (S:List Sq) (hd st keep ea:List Bool) (hm:P.follows .mixedOrders=true) (hB:zg2 ls.dropLast a.tmps.size=true)
  (hO:zhv ls.dropLast (zbt ls.dropLast) hd st=true) (hK:zn5 ls.dropLast.length (zbt ls.dropLast) hd st=keep) (hEa:zby ls.dropLast.length (zbt ls.dropLast) st=ea) (hsl:st.length=ls.dropLast.length) (hhd:S.map (·.hard)=hd∧usB ls.dropLast S=true)
  (hstep:zfu P w B ls.dropLast (fun i=>S.getD i sqT) a (st.zip ea) ls.dropLast S)
  (D:List (Option Tmp)) (hDs:ls.dropLast.map (·.dst)=D) (hlen:S.length=ls.dropLast.length)
  (hend:∀ (val:Nat→Value) (W:World),Below B w W→w.heap.size≤W.heap.size→zko keep S 0 val W→wpListIn (Fence.wide.inRound l) n P ls.toArray Q [o] (zbx D 0 val a) W) :
  (Code.region id ls.toArray true).wpIn (Fence.wide.inRound l) n P Q a w:=by
 refine zk5 ?_ hg hL B hBw S hd st keep ea hm hB hO hK hEa hsl hhd hstep D hDs hlen hend;have hne:ls≠[]:=by intro e;rw [e] at ho;cases ho
 rw [List.getLast?_eq_some_getLast hne] at ho;have:=List.dropLast_concat_getLast hne;rw [← this];cases ho;simp
structure El (t e:TypeId) (sz:Nat):Prop where
 und:Tryz.prog.underlying t=some (.slice e)
 info:∃ i z,Tryz.prog.info? e=some i∧i.zero=some z∧i.size=sz∧i.bytes≤64∧z.cells.size=sz
 pos:0 < sz
theorem El.mk' {t e:TypeId} {sz bytes:Nat} {z:Value} (h1:Tryz.prog.underlying t=some (.slice e)) (h2:(Tryz.prog.info? e).map (fun i=>(i.zero,i.size,i.bytes))=some (some z,sz,bytes)) (h3:z.cells.size=sz) (h4:bytes≤64) (h5:0 < sz):El t e sz:=by
 obtain ⟨i,hi,a,b,c⟩:=info_parts h2;exact ⟨h1,⟨i,z,hi,a,b,by omega,h3⟩,h5⟩
def Owns (w:World) (B:Nat) (e:TypeId) (sz:Nat) (v:Value) (rows:List (List Value)):Prop :=
 w.ownsRow B e sz v rows.length rows.flatten∧∀ r∈rows,r.length=sz
theorem Owns.nil (w:World) (B:Nat) (e:TypeId) (sz:Nat):Owns w B e sz (.slice none 0 0) []:=⟨World.ownsRow_nil w B e sz,by simp⟩
theorem zbw {sz:Nat}:∀ {rows:List (List Value)},(∀ r∈rows,r.length=sz)→rows.flatten.length=rows.length * sz
 | [],_=>by simp
 | r :: rs,h=>by
  have:=zbw (rows:=rs) fun x hx=>h x (by simp [hx])
  simp only [List.flatten_cons,List.length_append,List.length_cons,this,h r (by simp),Nat.add_mul,Nat.one_mul];omega
theorem RowsAt.tail {w:World} {sz b off:Nat} {r:List Value} {rs:List (List Value)} (h:RowsAt w sz b off (r :: rs)):RowsAt w sz b (off+sz) rs:=fun i hi j hj=>by
 have:=h (i+1) (by simp;omega) j (by simpa using hj);have e:off+(i+1) * sz+j=off+sz+i * sz+j:=by rw [Nat.add_mul];omega
 rw [e] at this;simpa using this
theorem zez {w:World} {sz b:Nat}:∀ {rows:List (List Value)} {off:Nat},(∀ r∈rows,r.length=sz)→RowsAt w sz b off rows→∀ j u,rows.flatten[j]? = some u→w.cell? ⟨b,off+j,none⟩=some u
 | [],_,_,_,j,u,h=>by simp at h
 | r :: rs,off,hr,hc,j,u,h=>by
  rw [List.flatten_cons] at h;have hrl:=hr r (by simp)
  by_cases hj:j < r.length
  ·rw [List.getElem?_append_left hj] at h
   have:=hc 0 (by simp) j (by simpa using hj);rw [List.getElem?_eq_getElem hj] at h;cases h;simpa using this
  ·rw [List.getElem?_append_right (by omega)] at h
   have:=zez (fun x hx=>hr x (by simp [hx])) hc.tail _ u h;have e:off+sz+(j - r.length)=off+j:=by omega
   rw [e] at this;exact this
theorem zpn {w:World} {sz b:Nat}:∀ {rows:List (List Value)} {off:Nat},(∀ r∈rows,r.length=sz)→(∀ j u,rows.flatten[j]? = some u→w.cell? ⟨b,off+j,none⟩=some u)→RowsAt w sz b off rows
 | [],_,_,_=>fun i hi=>by simp at hi
 | r :: rs,off,hr,hc=>by
  have hrl:=hr r (by simp);have ih:RowsAt w sz b (off+sz) rs:=zpn (fun x hx=>hr x (by simp [hx])) fun j u h=>by
   have:=hc (r.length+j) u (by rw [List.flatten_cons,List.getElem?_append_right (by omega)];simpa using h);have e:off+(r.length+j)=off+sz+j:=by omega
   rw [e] at this;exact this
  intro i hi j hj
  match i,hi,hj with
  | 0,_,hj =>
   simp only [List.getElem_cons_zero] at hj ⊢;have:=hc j r[j] (by rw [List.flatten_cons,List.getElem?_append_left hj,List.getElem?_eq_getElem hj]);simpa using this
  | i+1,hi,hj =>
   simp only [List.getElem_cons_succ] at hj ⊢;have:=ih i (by simpa using hi) j hj;have e:off+sz+i * sz+j=off+(i+1) * sz+j:=by rw [Nat.add_mul];omega
   rw [e] at this;exact this
theorem addr_add (b off j:Nat):(⟨b,off,none⟩:Addr).add j=⟨b,off+j,none⟩:=by simp [Addr.add]
theorem Owns.form {w:World} {B:Nat} {e:TypeId} {sz:Nat} {v:Value} {rows:List (List Value)} (h:Owns w B e sz v rows) :
  ∃ sa cap,v = .slice sa rows.length cap∧rows.length≤cap∧cap≤9223372036854775807∧((rows=[]∧sa=none∧cap=0)∨∃ g,sa=some ⟨g,0,none⟩∧B≤g∧g < w.heap.size∧RowsAt w sz g 0 rows∧∀ o,w.frozen? ⟨g,o,none⟩=false):=by
 obtain ⟨⟨h1,h2⟩,h3⟩:=h
 rcases h2 with ⟨rfl,hn⟩ | ⟨g,cap,cur,rfl,hb,hg,hc,hm,hs,ht⟩
 ·have:rows=[]:=List.eq_nil_of_length_eq_zero hn
  subst this;exact ⟨none,0,rfl,by simp,by omega,.inl ⟨rfl,rfl,rfl⟩⟩
 ·refine ⟨_,cap,rfl,hc,by simpa [maxLen] using hm,.inr ⟨g,rfl,hb,(Array.getElem?_eq_some_iff.1 hg).1,zpn h3 fun j u hj=>?_,fun o=>by simp [World.frozen?,hg]⟩⟩
  have ho:w.ownsRow B e sz (.slice (some ⟨g,0,none⟩) rows.length cap) rows.length rows.flatten:=⟨h1,.inr ⟨g,cap,cur,rfl,hb,hg,hc,hm,hs,ht⟩⟩
  have:=ho.cells (g:=g) rfl j u hj
  rwa [addr_add] at this
theorem Owns.isRows {w:World} {B:Nat} {e:TypeId} {sz:Nat} {v:Value} {rows:List (List Value)} (h:Owns w B e sz v rows):IsRows w sz v rows:=by
 obtain ⟨sa,cap,rfl,h1,h2,h3⟩:=h.form;refine ⟨sa,cap,rfl,h1,h2,?_⟩
 rcases h3 with ⟨h3,_⟩ | ⟨g,rfl,_,_,h3,_⟩
 ·exact .inl h3
 ·exact .inr ⟨g,0,rfl,h3⟩
theorem Owns.of_heap {w w':World} {B:Nat} {e:TypeId} {sz:Nat} {v:Value} {rows:List (List Value)} (h:Owns w B e sz v rows) (hh:∀ k,B≤k→k < w.heap.size→w'.heap[k]? = w.heap[k]?):Owns w' B e sz v rows:=by
 refine ⟨⟨h.1.1,?_⟩,h.2⟩
 rcases h.1.2 with a | ⟨g,cap,cur,hv,hb,hg,hr⟩
 ·exact .inl a
 ·exact .inr ⟨g,cap,cur,hv,hb,by rw [hh g hb (Array.getElem?_eq_some_iff.1 hg).1];exact hg,hr⟩
theorem Owns.ext {w w':World} (hx:Ext w w') {B:Nat} {e:TypeId} {sz:Nat} {v:Value} {rows:List (List Value)} (h:Owns w B e sz v rows):Owns w' B e sz v rows:=h.of_heap fun k _ hk=>hx.block k hk
theorem Owns.base {w:World} {B B':Nat} (hB:B'≤B) {e:TypeId} {sz:Nat} {v:Value} {rows:List (List Value)} (h:Owns w B e sz v rows):Owns w B' e sz v rows:=by
 refine ⟨⟨h.1.1,?_⟩,h.2⟩
 rcases h.1.2 with a | ⟨g,cap,cur,hv,hb,hr⟩
 ·exact .inl a
 ·exact .inr ⟨g,cap,cur,hv,by omega,hr⟩
section
variable {w:World}
theorem zabt {t e:TypeId} {sz:Nat} (el:El t e sz) (ty:TypeId) (B:Nat) {v:Value} {rows:List (List Value)} (hown:Owns w B e sz v rows) (b off c:Nat) (news:List (List Value))
  (hr:∀ r∈news,r.length=sz) (hc:RowsAt w sz b off news) (h1:∀ r∈news,∀ u∈r,u.oneCell'=true) (hn:rows.length+news.length≤1000000) (hB:B≤w.heap.size) :
  ∃ v' w',(Builtin.append_ #[t,t] ty #[v,.slice (some ⟨b,off,none⟩) news.length c]).run Tryz.prog w = .ok v' w'∧Owns w' B e sz v' (rows ++ news)∧Below B w w':=by
 obtain ⟨i,z,hi,hz,hs,hby,hzs⟩:=el.info;obtain ⟨v',w',hrun,ho,hg,_⟩:=run_append_own (P:=Tryz.prog) w B t ty e i z sz i.bytes el.und hi hz hs rfl hzs el.pos v rows.length rows.flatten hown.1 ⟨b,off,none⟩ news.length c news.flatten (zbw hr)
  (fun j u hj=>by rw [addr_add];exact zez hr hc j u hj) (fun u hu=>by obtain ⟨r,hr1,hr2⟩:=List.mem_flatten.1 hu;exact h1 r hr1 u hr2) (by simp [maxLen];omega)
  (by have:=Nat.mul_le_mul hn hby;omega) hB
 refine ⟨v',w',hrun,⟨by simpa using ho,fun r hr'=>?_⟩,(Below.refl B w).grown hg hB fun k hk=>(hown.1.lt k hk).1⟩
 rcases List.mem_append.1 hr' with h | h
 ·exact hown.2 r h
 ·exact hr r h
theorem zae3 {ops:Array Oper} {rest:List Oper} {o:Oper} {a:Act} {Q:Exit→Act→World→Prop} (hgd:o.guard=none) (s x:Operand) {t e:TypeId} {sz:Nat} (el:El t e sz)
  (ho:o.op = .call { callee:=.builtin .append,args:=#[s,x],argTypes:=#[t,t] }) (B:Nat) {v:Value} {rows:List (List Value)} (hs:a.eval s=v) (hown:Owns w B e sz v rows)
  (b off c:Nat) (news:List (List Value)) (hx:a.eval x = .slice (some ⟨b,off,none⟩) news.length c) (hr:∀ r∈news,r.length=sz) (hc:RowsAt w sz b off news) (h1:∀ r∈news,∀ u∈r,u.oneCell'=true)
  (hn:rows.length+news.length≤1000000) (hB:B≤w.heap.size)
  (h:∀ v' w',Owns w' B e sz v' (rows ++ news)→Below B w w'→wpList Tryz.prog ops Q rest (a.put o.dst v') w'):wpList Tryz.prog ops Q (o :: rest) a w :=
 wpList_plain hgd fun K hK=>by
  obtain ⟨v',w',hrun,h2,h3⟩:=zabt el o.type B hown b off c news hr hc h1 hn hB;unfold Oper.wp execOp;simp only [ho,resolve,invoke,builtin,Sem.run_bind,Sem.run_pure,Result.andThen_ok,List.map_toArray,List.map_cons,List.map_nil,hs,hx,hrun];exact hK _ _ (h v' w' h2 h3)
end
theorem z4q {w:World} {sz b off:Nat} {r:List Value} (h:∀ j,(hj:j < r.length)→w.cell? ⟨b,off+j,none⟩=some r[j]):RowsAt w sz b off [r]:=fun i hi j hj=>by
 have hi0:i=0:=by simp at hi;omega
 subst hi0;simpa using h j (by simpa using hj)
end Go.Proofs.YtnfdiohfojjnlaaGreat
