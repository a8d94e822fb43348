/-
 A law on 'for .. := range f { .. }': what the iterator may turn between two rounds are blocks of its own, whatever they hold; what the body may turn are blocks of the caller's. Built on the library's rules for the loop's record.
 Regions that draw their order and turn nothing that there was: one walk in the order of the text, also within a round of a range over a function; and the class of worlds in which something new may lie.
-/
import Derived.RangeFuncNested
import Derived.RangeFuncBound
import Derived.RangeFuncCalls
import Derived.RangeFuncLeaves
import Derived.Shelf.Abstract
import Derived.Shelf.RegionOpen
import Derived.WalkKit
import Derived.OwnWalkIn
import Derived.TacticsInMore
import Derived.LoopNIn
import Derived.LoopIn
import Derived.BigQuiet
import Derived.Deep.QuietTactic
namespace Go.Proofs.Ytphajlldghcnnaa
open Go.RowKit Go.Shelf

/-- whatever lies in a block of S stays; new blocks may come -/
structure Kept (S : Nat → Prop) (w w' : World) : Prop where
 os : w'.os = w.os
 tape : w'.tape = w.tape
 output : w'.output = w.output
 size : w.heap.size ≤ w'.heap.size
 same : ∀ k, k < w.heap.size → S k → w'.heap[k]? = w.heap[k]?
theorem Kept.refl (S : Nat → Prop) (w : World) : Kept S w w := ⟨rfl, rfl, rfl, Nat.le_refl _, fun _ _ _ => rfl⟩
theorem Kept.trans {S : Nat → Prop} {a b c : World} (h : Kept S a b) (k : Kept S b c) : Kept S a c :=
 ⟨k.os.trans h.os, k.tape.trans h.tape, k.output.trans h.output, Nat.le_trans h.size k.size, fun i hi hs => (k.same i (Nat.lt_of_lt_of_le hi h.size) hs).trans (h.same i hi hs)⟩
theorem Kept.mono {S T : Nat → Prop} {a b : World} (h : Kept S a b) (hs : ∀ k, k < a.heap.size → T k → S k) : Kept T a b :=
 ⟨h.os, h.tape, h.output, h.size, fun k hk ht => h.same k hk (hs k hk ht)⟩
theorem Kept.of_below {S : Nat → Prop} {a b : World} (h : Below a.heap.size a b) : Kept S a b := ⟨h.os, h.tape, h.output, h.size, fun k hk _ => h.block k hk⟩
theorem Kept.below {B : Nat} {a b : World} (h : Kept (fun k => k < B) a b) (hB : B ≤ a.heap.size) : Below B a b := ⟨h.os, h.tape, h.output, h.size, fun k hk => h.same k (by omega) hk⟩
theorem Kept.putObj {S : Nat → Prop} {a b : World} (h : Kept S a b) {r : Nat} (o : Obj) (hr : r < a.heap.size → ¬ S r) : Kept S a (b.putObj r o) :=
 ⟨h.os, h.tape, h.output, by simpa using h.size, fun k hk hs => (World.putObj_heap_other (r := r) (k := k) (fun e => by subst e; exact hr hk hs)).trans (h.same k hk hs)⟩
theorem Kept.alloc {S : Nat → Prop} {a b : World} (h : Kept S a b) (o : Obj) : Kept S a (b.alloc o) :=
 h.trans (.of_below ((Below.refl _ b).alloc (Nat.le_refl _) o))
theorem Kept.setCell {S : Nat → Prop} {a b : World} (h : Kept S a b) {p : Addr} (hp : p.block < a.heap.size → ¬ S p.block) (u : Value) : Kept S a (b.setCell p u) :=
 ⟨h.os, h.tape, h.output, by simpa [World.setCell] using h.size, fun k hk hs => (Below.heap_setCell _ _ _ _ (fun e => by subst e; exact hp hk hs)).trans (h.same k hk hs)⟩
theorem Kept.drew {S : Nat → Prop} {a b : World} (h : Kept S a b) : Kept S a b.drew := ⟨h.os, h.tape, h.output, h.size, h.same⟩
theorem Kept.grown {S : Nat → Prop} {a b c : World} {row : Option Nat} (h : Kept S a b) (hg : b.grownBy c row) (hr : ∀ k, row = some k → k < a.heap.size → ¬ S k) : Kept S a c :=
 ⟨hg.os.trans h.os, hg.tape.trans h.tape, hg.output.trans h.output, Nat.le_trans h.size hg.size, fun k hk hs => (hg.block k (Nat.lt_of_lt_of_le hk h.size) (fun e => hr k e.symm hk hs)).trans (h.same k hk hs)⟩
theorem Kept.cell {S : Nat → Prop} {a b : World} (h : Kept S a b) {p : Addr} {v : Value} (hc : a.cell? p = some v) (hs : S p.block) : b.cell? p = some v :=
 (World.cell?_of_block (w := a) (h.same _ (World.block_lt_of_cell? a p hc) hs)).trans hc
theorem Kept.frozen {S : Nat → Prop} {a b : World} (h : Kept S a b) {p : Addr} (hl : p.block < a.heap.size) (hs : S p.block) : b.frozen? p = a.frozen? p :=
 World.frozen?_of_block (w := a) (h.same _ hl hs)

/-- what a statement on the caller's memory must bear: the iterator turns blocks of its own, O, and lays new ones -/
def Bears (X : Nat → Prop) (J : (Nat → Prop) → World → Prop) : Prop :=
 ∀ O O' A B, J O A → Kept (fun k => ¬ O k ∧ ¬ X k) A B → (∀ k, O k → O' k) → (∀ k, O' k → O k ∨ (A.heap.size ≤ k ∧ k < B.heap.size)) → J O' B
section
variable {X : Nat → Prop} {J : (Nat → Prop) → World → Prop} (h : Bears X J) {O : Nat → Prop} {A : World}
include h
theorem Bears.ext (hj : J O A) {B : World} (e : Below A.heap.size A B) : J O B := h O O A B hj (.of_below e) (fun _ h => h) (fun _ h => .inl h)
theorem Bears.alloc (hj : J O A) (o : Obj) : J (fun k => O k ∨ k = A.heap.size) (A.alloc o) :=
 h O _ A _ hj (.of_below ((Below.refl _ A).alloc (Nat.le_refl _) o)) (fun _ h => .inl h) (fun k hk => hk.imp id fun e => by subst e; simp)
theorem Bears.setCell (hj : J O A) {p : Addr} (ho : O p.block) (u : Value) : J O (A.setCell p u) :=
 h O O A _ hj ((Kept.refl _ A).setCell (fun _ h => h.1 ho) u) (fun _ h => h) (fun _ h => .inl h)
end
/-- a statement on what lies below B alone bears all that an iterator does -/
theorem bears_low {B : Nat} {G : World → Prop} (hG : ∀ A A', G A → Below B A A' → G A') : Bears (fun k => k = B ∨ k = B + 1) (fun O W => (∀ k, O k → B ≤ k) ∧ B ≤ W.heap.size ∧ G W) := by
 rintro O O' A A' ⟨h1, h2, h3⟩ hk _ hO2
 refine ⟨fun k h => ?_, Nat.le_trans h2 hk.size, hG A A' h3 ⟨hk.os, hk.tape, hk.output, hk.size, fun k hl => hk.same k (by omega) ⟨fun ho => by have := h1 k ho; omega, by omega⟩⟩⟩
 rcases hO2 k h with h | h
 ·exact h1 k h
 ·omega
/-- An iterator: what it yields, whatever the body does that keeps R and the iterator's own blocks. -/
def Iter {α : Type} (P : Program) (gf : Nat) (lb : Array Value) (encs : α → Array Value) (R : Nat → Prop) (S Sp : List α → Prop) (Nx : List α → α → Prop) (w0 : World) : Prop :=
 ∀ (n l : Nat) (J Jx : (Nat → Prop) → List α → World → Prop) (W : World), Below w0.heap.size w0 W →
  (∀ pre, Bears (fun _ => False) (J · pre ·)) → (∀ pre, Bears (fun _ => False) (Jx · pre ·)) →
  (∀ O pre x W1, J O pre W1 → Nx pre x → YieldAt Fence.wide (n - 1) P l (encs x) W1 fun e W' =>
   (e = .returned (.bool true) ∧ J O (pre ++ [x]) W' ∧ Kept (fun k => R k ∨ O k) W1 W') ∨ (e = .returned (.bool false) ∧ Jx O (pre ++ [x]) W')) →
  J (fun _ => False) [] W →
  CallsIn Fence.wide n P gf (#[.func (.yield l) #[] #[]] ++ lb) W fun e W' => (∃ v, e = .returned v) ∧ ((∃ O xs, S xs ∧ J O xs W') ∨ (∃ O pre, Sp pre ∧ Jx O pre W'))

/-- how the body of a round may be left -/
def bodyWay {α : Type} (L : Nat) (R O : Nat → Prop) (I : (Nat → Prop) → List α → World → Prop) (Ix : Code → (Nat → Prop) → List α → World → Prop) (xs : List α) (W : World) : Exit → Act → World → Prop
 | .normal, _, W' => Kept (fun k => R k ∨ O k ∨ k = L ∨ k + 1 = L) W W' ∧ I O xs W'
 | .ret, _, W' => Kept (fun k => k = L ∨ k + 1 = L) W W' ∧ Ix .ret O xs W'
 | .exit id, _, W' => Kept (fun k => k = L ∨ k + 1 = L) W W' ∧ Ix (.exit id) O xs W'
 | .goto t, _, W' => Kept (fun k => k = L ∨ k + 1 = L) W W' ∧ Ix (.goto t) O xs W'
 | .panic _, _, _ => False
 | .outgrown, _, _ => False

theorem rangeOver {α : Type} {P : Program} {n : Nat} {g : Operand} {ps : Array Tmp} {assign body : Code} {Q : Exit → Act → World → Prop} {a : Act} {w : World} {gf : Nat} {lb : Array Value}
  (hg : a.eval g = .func (.func gf) #[] lb) (eg : ∀ args w, (callFunc gf args).run P w = .ok (.enter gf args) w)
  {encs : α → Array Value} {R : Nat → Prop} {S Sp : List α → Prop} {Nx : List α → α → Prop} {w0 : World} (hseq : Iter P gf lb encs R S Sp Nx w0) (hb0 : Below w0.heap.size w0 w)
  (hR : ∀ k, R k → k < w.heap.size) (hps : ∀ x, (encs x).size = ps.size)
  (I : (Nat → Prop) → List α → World → Prop) (Ix : Code → (Nat → Prop) → List α → World → Prop)
  (hI : ∀ pre, Bears (fun k => k = w.heap.size ∨ k = w.heap.size + 1) (I · pre ·)) (hIx : ∀ c pre, Bears (fun k => k = w.heap.size ∨ k = w.heap.size + 1) (Ix c · pre ·))
  (h0 : I (fun _ => False) [] w)
  (hround : ∀ (l : Nat) O (pre : List α) (x : α) (W : World), I O pre W → Nx pre x → (∀ k, O k → w.heap.size + 2 ≤ k ∧ k < W.heap.size) → w.heap.size + 2 ≤ W.heap.size →
   assign.wpIn (Fence.wide.inRound l) (n - 1 - 1) P (Exit.then (fun a₁ W₁ => Below W.heap.size W W₁ ∧ ∀ W₂, Kept (fun k => k ≠ w.heap.size + 1) W₁ W₂ →
    body.wpIn (Fence.wide.inRound l) (n - 1 - 1) P (bodyWay (w.heap.size + 1) R O I Ix (pre ++ [x]) W₂) a₁ W₂) (fun _ _ _ => False)) { tmps := (ps.zip (encs x)).foldl (fun t (p, v) => t.setIfInBounds p v) a.tmps, defers := [] } W)
  (hdone : ∀ (D : Nat) O (xs : List α) (W : World), w.heap.size ≤ D → S xs → I O xs W → W.heap[D]? = some (.deferred (some [])) → Q .normal { a with defers := { target := .collected D, args := #[] } :: a.defers } W)
  (hstop : ∀ (D : Nat) O (c : Code) (pre : List α) (W : World), w.heap.size ≤ D → Sp pre → Ix c O pre W → W.heap[D]? = some (.deferred (some [])) → c.wpIn Fence.wide n P Q { a with defers := { target := .collected D, args := #[] } :: a.defers } W) :
  (Code.rangeFunc g ps assign body).wpIn Fence.wide n P Q a w := by
 refine wpIn_rangeFunc fun fn hfn => ?_
 generalize hrec : (fun (st : LoopState) (pe : Option Code) => ({ state := st, pending := pe, fn, tmps := a.tmps, params := ps, assign, body, defers := w.heap.size } : Loop)) = rec
 have er : ∀ st pe, rec st pe = { state := st, pending := pe, fn, tmps := a.tmps, params := ps, assign, body, defers := w.heap.size } := fun st pe => by rw [← hrec]
 have eq1 : w.heap.size + 1 ≠ w.heap.size := by omega
 -- what the law itself keeps on its two blocks
 let Bk : World → Loop → Prop := fun W r => W.heap[w.heap.size + 1]? = some (.loop r) ∧ W.heap[w.heap.size]? = some (.deferred (some []))
 have bk_lt : ∀ {W r}, Bk W r → w.heap.size + 1 < W.heap.size := fun h => (Array.getElem?_eq_some_iff.1 h.1).1
 have bk_kept : ∀ {A B r}, Bk A r → Kept (fun k => k = w.heap.size + 1 ∨ k + 1 = w.heap.size + 1) A B → Bk B r := fun {A B r} h hk =>
  ⟨(hk.same _ (bk_lt h) (.inl rfl)).trans h.1, (hk.same _ (by have := bk_lt h; omega) (.inr rfl)).trans h.2⟩
 have bk_put : ∀ {W r} (r' : Loop), Bk W r → Bk (W.putObj (w.heap.size + 1) (.loop r')) r' := fun {W r} r' h =>
  ⟨World.putObj_heap_same (bk_lt h), (World.putObj_heap_other (by omega)).trans h.2⟩
 have put_kept : ∀ (W : World) (o : Obj), Kept (fun k => k ≠ w.heap.size + 1) W (W.putObj (w.heap.size + 1) o) := fun W o => (Kept.refl _ W).putObj o (fun _ h => h rfl)
 have hI' : ∀ {O pre A} (o : Obj), I O pre A → I O pre (A.putObj (w.heap.size + 1) o) := fun {O pre A} o h =>
  hI pre O O A _ h ((put_kept A o).mono fun k _ hk e => hk.2 (.inr e)) (fun _ h => h) (fun _ h => .inl h)
 have hIx' : ∀ {c O pre A} (o : Obj), Ix c O pre A → Ix c O pre (A.putObj (w.heap.size + 1) o) := fun {c O pre A} o h =>
  hIx c pre O O A _ h ((put_kept A o).mono fun k _ hk e => hk.2 (.inr e)) (fun _ h => h) (fun _ h => .inl h)
 obtain ⟨W1, hW1⟩ : ∃ W1, (w.alloc (.deferred (some []))).alloc (.loop (rec .ready none)) = W1 := ⟨_, rfl⟩
 have hE1 : Below w.heap.size w W1 := by rw [← hW1]; exact ((Below.refl _ w).alloc (Nat.le_refl _) _).alloc (by simp) _
 have hB1 : Bk W1 (rec .ready none) := by
  rw [← hW1]
  refine ⟨?_, (Below.heap_alloc _ _ _ (by simp)).trans (World.alloc_heap_new w _)⟩
  have := World.alloc_heap_new (w.alloc (.deferred (some []))) (.loop (rec .ready none)); rwa [World.size_alloc] at this
 have hs1 : W1.heap.size = w.heap.size + 2 := by rw [← hW1]; simp
 refine ⟨w.heap.size + 1, [{ target := .collected w.heap.size, args := #[] }], W1, { target := .fn (.func gf) lb, args := #[.func (.yield (w.heap.size + 1)) #[] #[]] }, W1, gf,
  #[.func (.yield (w.heap.size + 1)) #[] #[]] ++ lb, W1, ?_, ?_, fun _ _ => trivial, ?_, fun h => by simp [Fence.wide] at h, ?_⟩
 ·rw [← hW1, er]; exact run_enterLoop_outer _ _ _ _ _
 ·simp only [resolve, hg]
  simp [go_sem]
 ·simp [invoke, go_sem, eg]
 ·refine (hseq (n - 1) (w.heap.size + 1)
   (fun O pre W => I O pre W ∧ Bk W (rec .ready none) ∧ ∀ k, O k → w.heap.size + 2 ≤ k ∧ k < W.heap.size)
   (fun O pre W => ∃ c, Ix c O pre W ∧ Bk W (rec .done (some c)) ∧ ∀ k, O k → w.heap.size + 2 ≤ k ∧ k < W.heap.size)
   W1 (hb0.trans (hE1.mono hb0.size)) ?_ ?_ ?_ ⟨hI [] _ _ _ _ h0 (.of_below hE1) (fun _ h => h) (fun _ h => .inl h), hB1, fun _ h => h.elim⟩).mono ?_
  ·rintro pre O O' A B ⟨h1, h2, h3⟩ hk hO1 hO2
   have hlt := bk_lt h2
   have hO3 : ∀ k, O' k → w.heap.size + 2 ≤ k ∧ k < B.heap.size := fun k h => by
    have := hk.size
    rcases hO2 k h with h | h
    ·have := h3 k h; omega
    ·omega
   exact ⟨hI pre O O' A B h1 (hk.mono fun k _ h => ⟨h.1, fun h => h⟩) hO1 hO2, bk_kept h2 (hk.mono fun k _ h => ⟨fun ho => by have := h3 k ho; omega, fun h => h⟩), hO3⟩
  ·rintro pre O O' A B ⟨c, h1, h2, h3⟩ hk hO1 hO2
   have hlt := bk_lt h2
   have hO3 : ∀ k, O' k → w.heap.size + 2 ≤ k ∧ k < B.heap.size := fun k h => by
    have := hk.size
    rcases hO2 k h with h | h
    ·have := h3 k h; omega
    ·omega
   exact ⟨c, hIx c pre O O' A B h1 (hk.mono fun k _ h => ⟨h.1, fun h => h⟩) hO1 hO2, bk_kept h2 (hk.mono fun k _ h => ⟨fun ho => by have := h3 k ho; omega, fun h => h⟩), hO3⟩
  ·rintro O pre x W ⟨hi, hb, hO⟩ hlen
   have hlt := bk_lt hb
   have hy := run_yield (P := P) (args := encs x) hb.1 (by rw [er]; exact hps x)
   rw [er] at hy
   refine ⟨fn, _, assign, body, hy, roundIn_of_wpIn hfn ?_⟩
   refine wpIn_mono (hround (w.heap.size + 1) O pre x W hi hlen hO (by omega)) ?_
   rintro e a₁ W2 hp
   cases e with
   | normal =>
    obtain ⟨hE2, hm⟩ := hp
    have hb2 : Bk W2 (rec .ready none) := bk_kept hb (.of_below hE2)
    refine ⟨_, run_beginRound hb2.1 (by rw [er]), ?_⟩
    have hm3 := hm _ (put_kept W2 (.loop { rec .ready none with state := .busy }))
    have hb3 := bk_put { rec .ready none with state := .busy } hb2
    generalize hW3 : W2.putObj (w.heap.size + 1) (.loop { rec .ready none with state := .busy }) = W3 at hm3 hb3 ⊢
    have hk3 : Kept (fun k => k ≠ w.heap.size + 1) W W3 := by rw [← hW3]; exact (Kept.of_below hE2).trans (put_kept W2 _)
    have hO3 : ∀ k, O k → w.heap.size + 2 ≤ k ∧ k < W3.heap.size := fun k h => ⟨(hO k h).1, Nat.lt_of_lt_of_le (hO k h).2 hk3.size⟩
    refine wpIn_mono hm3 ?_
    have fin : ∀ (jump : Option Code) (W4 : World), Kept (fun k => k = w.heap.size + 1 ∨ k + 1 = w.heap.size + 1) W3 W4 →
      (Instr.endRound (w.heap.size + 1) jump).run P W4 = .ok (.bool jump.isNone) (W4.putObj (w.heap.size + 1) (.loop (rec (if jump.isNone then .ready else .done) jump))) ∧
      Bk (W4.putObj (w.heap.size + 1) (.loop (rec (if jump.isNone then .ready else .done) jump))) (rec (if jump.isNone then .ready else .done) jump) := fun jump W4 hk4 => by
     have hb4 := bk_kept hb3 hk4
     have hr := run_endRound (P := P) jump hb4.1
     refine ⟨?_, bk_put _ hb4⟩
     rw [hr]; simp only [er]
    rintro e a3 W4 hp
    cases e with
    | normal =>
     obtain ⟨hk4, hi4⟩ := hp
     obtain ⟨hr, hb5⟩ := fin none W4 (hk4.mono fun k _ h => .inr (.inr h))
     refine ⟨_, _, hr, .inl ⟨rfl, ⟨hI' _ hi4, hb5, fun k h => ⟨(hO k h).1, ?_⟩⟩, ?_⟩⟩
     ·have := (hO3 k h).2; have := hk4.size; simp; omega
     ·have hlt4 := hk4.size
      have hk3' : Kept (fun k => R k ∨ O k) W W3 := hk3.mono fun k _ h => by
       rcases h with h | h
       ·have := hR k h; omega
       ·have := hO k h; omega
      have hk4' : Kept (fun k => R k ∨ O k) W3 W4 := hk4.mono fun k _ h => h.elim .inl fun h => .inr (.inl h)
      refine (hk3'.trans hk4').trans ((put_kept W4 _).mono fun k _ h => ?_)
      rcases h with h | h
      ·have := hR k h; omega
      ·have := hO k h; omega
    | ret =>
     obtain ⟨hk4, hi4⟩ := hp
     obtain ⟨hr, hb5⟩ := fin (some .ret) W4 hk4
     exact ⟨_, _, hr, .inr ⟨rfl, .ret, hIx' _ hi4, hb5, fun k h => ⟨(hO k h).1, by have := (hO3 k h).2; have := hk4.size; simp; omega⟩⟩⟩
    | exit id =>
     obtain ⟨hk4, hi4⟩ := hp
     obtain ⟨hr, hb5⟩ := fin (some (.exit id)) W4 hk4
     exact ⟨_, _, hr, .inr ⟨rfl, .exit id, hIx' _ hi4, hb5, fun k h => ⟨(hO k h).1, by have := (hO3 k h).2; have := hk4.size; simp; omega⟩⟩⟩
    | goto t =>
     obtain ⟨hk4, hi4⟩ := hp
     obtain ⟨hr, hb5⟩ := fin (some (.goto t)) W4 hk4
     exact ⟨_, _, hr, .inr ⟨rfl, .goto t, hIx' _ hi4, hb5, fun k h => ⟨(hO k h).1, by have := (hO3 k h).2; have := hk4.size; simp; omega⟩⟩⟩
    | panic ch => exact hp.elim
    | outgrown => exact hp.elim
   | ret => exact hp.elim
   | exit id => exact hp.elim
   | goto t => exact hp.elim
   | panic ch => exact hp.elim
   | outgrown => exact hp.elim
  ·rintro e W2 ⟨⟨v, rfl⟩, (⟨O, xs, hS, hi, hb, _⟩ | ⟨O, pre, hSp, c, hi, hb, _⟩)⟩
   ·exact ⟨none, _, by have := run_endLoop (P := P) hb.1 (by rw [er]; simp); rw [er] at this; exact this, hdone _ O xs _ (Nat.le_refl _) hS (hI' _ hi) ((World.putObj_heap_other (by omega)).trans hb.2)⟩
   ·exact ⟨some c, _, by have := run_endLoop (P := P) hb.1 (by rw [er]; simp); rw [er] at this; exact this, hstop _ O c pre _ (Nat.le_refl _) hSp (hIx' _ hi) ((World.putObj_heap_other (by omega)).trans hb.2)⟩
end Go.Proofs.Ytphajlldghcnnaa
namespace Go.Proofs.Ytphajlldghcnnaa
open Go.RowKit Go.Shelf
/-- the fence that lets all in, in a round or outside of all -/
def FW (ro : Option Nat) : Fence := { fn := fun _ => True, depth := none, alive := false, round := ro }
theorem callsFW {ro : Option Nat} {n : Nat} {P : Program} {f : FuncId} {args : Array Value} {w : World} {R : Ending → World → Prop} (h : Calls P f args w R) : CallsIn (FW ro) n P f args w R := by
 have h2 : CallsIn Fence.wide n P f args w R := callsIn_wide.2 h
 cases ro with
 | none => exact h2
 | some l => exact CallsIn.inRound l h2
section
variable {P : Program} {F : Fence} {n : Nat} {ops : Array Oper} {md : Region.Mode} {C : World → Prop}
theorem wpInOp_of_quiet {o : Oper} {a : Act} {K : Act → Prop} {K' : Act → World → Prop} {Q' : Exit → Act → World → Prop} {w : World} {ro : Option Nat} (hw : C w) (h : ∀ a w', C w' → K a → K' a w') (hh : o.quiet P a C K) :
  o.wpIn (FW ro) n P a w K' Q' := by
 obtain ⟨v, h1, h2⟩ := hh
 have h3 := h1 w hw
 unfold Oper.quietAt at h3
 refine ⟨fun _ _ => trivial, ?_⟩
 have e : o.semAt (FW ro).round a.eval = execOp a.eval o := by
  cases ro with
  | none => rfl
  | some l =>
   unfold Oper.quietAt at h1
   cases ho : o.op <;> first | (rw [show (FW (some l)).round = some l from rfl]; unfold Oper.semAt; rw [ho]) | skip
   all_goals
    exfalso
    clear h1
    revert h3
    unfold execOp
    rw [ho]
    simp [Oper.quietUpon]
    rename_i c
    generalize (resolve a.eval c o.type).run P w = r
    cases r <;> simp [Result.andThen]
 rw [e]
 generalize (execOp a.eval o).run P w = r at *
 cases r with
 | ok n w' =>
  cases n <;> simp only [Oper.quietUpon] at h3 <;> simp only [Oper.uponIn]
  case value u => obtain ⟨e1, e2⟩ := h3; rw [e1, e2]; exact h _ _ hw h2
  case skip => obtain ⟨e1, e2⟩ := h3; rw [e1, ← e2]; exact h _ _ hw h2
  case enter f args =>
   obtain ⟨e1, hc⟩ := h3
   rw [e1]
   refine ⟨fun hd => by simp [FW] at hd, callsFW (hc.mono fun e w'' ⟨he, hw''⟩ => ?_)⟩
   subst he; exact h _ _ hw'' h2
 | halt x w' => simp only [Oper.quietUpon] at h3
theorem wpOpIn_of_quiet {i : Nat} {a : Act} {K : Act → Prop} {K' : Act → World → Prop} {Q' : Exit → Act → World → Prop} {w : World} {ro : Option Nat} (hC : C w) (h : ∀ a w', C w' → K a → K' a w') (hh : qOp P ops C i K a) :
  wpOpIn (FW ro) n P ops Q' i K' a w := by
 unfold qOp at hh
 unfold wpOpIn
 split
 ·rename_i ho; simp only [ho] at hh; exact h _ _ hC hh
 ·rename_i o ho
  simp only [ho] at hh
  split
  ·rename_i hw; simp only [hw, if_true] at hh; exact wpInOp_of_quiet hC h hh
  ·rename_i hw; simp only [hw] at hh; exact ⟨fun _ _ => trivial, h _ _ hC hh⟩
theorem wpAnyIn_of_quiet {Q : Act → Prop} {Q' : Exit → Act → World → Prop} {ro : Option Nat} (hQ : ∀ a w, C w → Q a → Q' .normal a w) : ∀ (fuel : Nat) (listed : Array Bool) (a : Act) (w : World), C w →
  wpAnyQ P md ops C Q fuel listed a → wpAnyIn (FW ro) n P md ops Q' fuel listed a w
 | 0, _, _, _, hw, h => ⟨h.1, hQ _ _ hw h.2⟩
 | fuel + 1, _, _, _, hw, h => ⟨fun h0 => hQ _ _ hw (h.1 h0), fun i hi => wpOpIn_of_quiet hw (fun a' w' hw' => wpAnyIn_of_quiet hQ fuel _ a' w' hw') (h.2 i hi)⟩
theorem wpIn_region_quiet {id : Nat} {Q : Exit → Act → World → Prop} {a : Act} {w : World} {ro : Option Nat} (hm : P.follows .mixedOrders = true) (hB : Region.lexB .any ops = true) (hC : C { w with drawn := w.drawn + 1 })
  (h : wpQuiet P ops C (fun a' => ∀ w', C w' → Q .normal a' w') ops.toList a) : (Code.region id ops true).wpIn (FW ro) n P Q a w := by
 simp only [Region.lexB, Bool.and_eq_true] at hB
 refine wpIn_region_any hm (wpAnyIn_of_quiet (Q := fun a' => ∀ w', C w' → Q .normal a' w') (fun _ w' hw' h => h w' hw') _ _ _ _ hC ?_)
 have := wpAnyQ_lex (C := C) (md := .any) hB.1 ops.toList 0 (Array.replicate ops.size false) a (by simp) (by simpa using hB.2) h
 simpa using this
/-- a region in a round that only reads, at the class 'w after some draws' -/
theorem wpIn_region_quiet_lit {id : Nat} {Q : Exit → Act → World → Prop} {a : Act} {w : World} {ls : List Oper} {ro : Option Nat} (hm : P.follows .mixedOrders = true) (hB : Region.lexB .any ls.toArray = true)
  (h : wpQuiet P ls.toArray (fun w' => ∃ n, w' = w.drewN n) (fun a' => ∀ w', (∃ n, w' = w.drewN n) → Q .normal a' w') ls a) : (Code.region id ls.toArray true).wpIn (FW ro) n P Q a w :=
 wpIn_region_quiet (C := fun w' => ∃ n, w' = w.drewN n) hm hB ⟨1, rfl⟩ (by simpa using h)
end

section
variable {P : Program} {F : Fence} {n : Nat} {md : Region.Mode}
/-- the last operation waits for all others, and each for earlier ones alone -/
def lastB (md : Region.Mode) (head : Array Oper) (o : Oper) : Bool :=
 (head.toList.zipIdx.all fun (oi, i) => (oi.after.all fun e => !Region.binds md e || decide (e.on < i)) && (match oi.guard with | none => true | some (j, _) => decide (j < head.size))) &&
 ((List.range head.size).all fun i => (o.after.any fun e => Region.binds md e && e.on == i) || (List.range head.size).any fun j => decide (i < j) && (match head[j]? with | some oj => oj.after.any fun e => Region.binds md e && e.on == i | none => false)) && (o.after.all fun e => !Region.binds md e || decide (e.on < head.size))
theorem lastB_spec {head : Array Oper} {o : Oper} (h : lastB md head o = true) :
  (∀ i oi, head[i]? = some oi → (∀ e ∈ oi.after, Region.binds md e = true → e.on < i) ∧ (∀ j b, oi.guard = some (j, b) → j < head.size)) ∧
  (∀ i, i < head.size → (∃ e ∈ o.after, Region.binds md e = true ∧ e.on = i) ∨ ∃ j oj, i < j ∧ head[j]? = some oj ∧ ∃ e ∈ oj.after, Region.binds md e = true ∧ e.on = i) ∧ ∀ e ∈ o.after, Region.binds md e = true → e.on < head.size := by
 unfold lastB at h
 rw [Bool.and_eq_true, Bool.and_eq_true] at h
 obtain ⟨⟨h1, h2⟩, h3⟩ := h
 refine ⟨fun i oi hi => ?_, fun i hi => ?_, fun e he hb => ?_⟩
 ·have hm : (oi, i) ∈ head.toList.zipIdx := by
   rw [List.mem_zipIdx_iff_getElem?]; simpa using hi
  have := List.all_eq_true.1 h1 _ hm
  simp only [Bool.and_eq_true] at this
  refine ⟨fun e he hb => ?_, fun j b hg => ?_⟩
  ·have h3 := Array.all_eq_true'.1 this.1 e he
   rw [hb] at h3
   simpa using h3
  ·have h3 := this.2
   rw [hg] at h3
   simpa using h3
 ·have := List.all_eq_true.1 h2 i (List.mem_range.2 hi)
  rcases Bool.or_eq_true_iff.1 this with this | this
  ·obtain ⟨e, he, hb⟩ := Array.any_eq_true'.1 this
   simp only [Bool.and_eq_true, beq_iff_eq] at hb
   exact .inl ⟨e, he, hb.1, hb.2⟩
  ·obtain ⟨j, _, hj⟩ := List.any_eq_true.1 this
   rw [Bool.and_eq_true] at hj
   obtain ⟨hij, hj⟩ := hj
   split at hj
   ·rename_i oj hoj
    obtain ⟨e, he, hb⟩ := Array.any_eq_true'.1 hj
    simp only [Bool.and_eq_true, beq_iff_eq] at hb
    exact .inr ⟨j, oj, of_decide_eq_true hij, hoj, e, he, hb.1, hb.2⟩
   ·cases hj
 ·have h4 := Array.all_eq_true'.1 h3 e he
  rw [hb] at h4
  simpa using h4
theorem yielded_push {head : Array Oper} {o : Oper} {tmps : Array Value} {j : Nat} (hj : j < head.size) : yielded (head.push o) tmps j = yielded head tmps j := by
 unfold yielded
 simp [Array.getElem?_push, Nat.ne_of_lt hj]
theorem wanted_push {head : Array Oper} {o oi : Oper} {tmps : Array Value} (hg : ∀ j b, oi.guard = some (j, b) → j < head.size) :
  Region.wanted oi (yielded (head.push o) tmps) = Region.wanted oi (yielded head tmps) := by
 unfold Region.wanted
 cases hgd : oi.guard with
 | none => rfl
 | some p =>
  obtain ⟨j, b⟩ := p
  simp only [yielded_push (hg j b hgd)]
theorem getD_replicate (m j : Nat) : (Array.replicate m false).getD j false = false := by
 rcases Nat.lt_or_ge j m with h | h
 ·simp [h]
 ·simp [h]
theorem wpIn_monoQ {o : Oper} {a : Act} {w : World} {K : Act → World → Prop} {Q Q' : Exit → Act → World → Prop} (hq : ∀ e a w, e ≠ .normal → Q e a w → Q' e a w) (hh : o.wpIn F n P a w K Q) : o.wpIn F n P a w K Q' := by
 unfold Oper.wpIn at *
 refine ⟨hh.1, ?_⟩
 have hl : LetsOut Q → LetsOut Q' := fun ⟨a, w, h⟩ => ⟨a, w, hq _ _ _ (by simp) h⟩
 have hh := hh.2
 generalize (o.semAt F.round a.eval).run P w = r at *
 cases r with
 | ok x w' =>
  cases x <;> simp only [Oper.uponIn] at hh ⊢ <;>
   first
    | exact hh
    | exact ⟨hh.1, CallsIn.mono hh.2 (fun e w'' he => by cases e <;> first | exact he | exact hl he | exact hq _ _ _ (by simp) he)⟩
    | exact ⟨hh.1, RoundIn.mono hh.2 (fun e w'' he => by cases e <;> first | exact he | exact hl he | exact hq _ _ _ (by simp) he)⟩
 | halt x w' => cases x <;> simp only [Oper.uponIn] at hh ⊢ <;> first | exact hh | exact hq _ _ _ (by simp) hh
theorem all_listed {head : Array Oper} {o : Oper} {listed : Array Bool} (hB : lastB md head o = true) (hs : listed.size = head.size) (h0 : Region.ready md head listed = []) : ∀ i, i < head.size → listed.getD i true = true := by
 intro i
 induction i using Nat.strongRecOn with
 | _ i ih =>
  intro hi
  cases hl : listed.getD i true with
  | true => rfl
  | false =>
   exfalso
   have : i ∈ Region.ready md head listed := by
    refine mem_ready.2 ⟨hl, head[i], by simp [hi], fun e he hb => ?_⟩
    have hlt := ((lastB_spec hB).1 i head[i] (by simp [hi])).1 e he hb
    have := ih e.on hlt (by omega)
    have hel : e.on < listed.size := by omega
    simp [hel] at this ⊢
    exact this
   rw [h0] at this
   cases this
theorem getD_push_lt {listed : Array Bool} {i : Nat} (d : Bool) (h : i < listed.size) : (listed.push false).getD i d = listed.getD i d := by
 simp [Array.getD, h, Nat.lt_succ_of_lt h, Array.getElem_push_lt h]
theorem getD_push_false {listed : Array Bool} {i : Nat} : (listed.push false).getD i false = listed.getD i false := by
 rcases Nat.lt_trichotomy i listed.size with h | h | h
 ·exact getD_push_lt false h
 ·subst h; simp [Array.getD]
 ·have h1 : ¬ i < listed.size := by omega
  have h2 : ¬ i < listed.size + 1 := by omega
  simp [Array.getD, h1, h2]
/-- what has been carried out did not wait for anything that has not -/
def Closed (md : Region.Mode) (head : Array Oper) (listed : Array Bool) : Prop :=
 ∀ j oj, head[j]? = some oj → listed.getD j false = true → ∀ e ∈ oj.after, Region.binds md e = true → listed.getD e.on false = true
theorem Closed.set {head : Array Oper} {listed : Array Bool} (h : Closed md head listed) {i : Nat} (hi : i ∈ Region.ready md head listed) : Closed md head (listed.setIfInBounds i true) := by
 obtain ⟨_, oi, hoi, hall⟩ := mem_ready.1 hi
 intro j oj hj hl e he hb
 by_cases hij : i = j
 ·subst hij
  have : oj = oi := Option.some.inj (hj.symm.trans hoi)
  subst this
  exact getD_set_true (hall e he hb)
 ·rw [getD_set_ne false hij] at hl
  exact getD_set_true (h j oj hj hl e he hb)
theorem last_waits {head : Array Oper} {o : Oper} {listed : Array Bool} (hB : lastB md head o = true) (_ : listed.size = head.size) (hc : Closed md head listed) (hr : ∀ e ∈ o.after, Region.binds md e = true → listed.getD e.on false = true) :
  ∀ (d k : Nat), head.size - k = d → k < head.size → listed.getD k false = true := by
 intro d
 induction d using Nat.strongRecOn with
 | _ d ih =>
  intro k hd hk
  rcases (lastB_spec hB).2.1 k hk with ⟨e, he, hb, hon⟩ | ⟨j, oj, hkj, hj, e, he, hb, hon⟩
  ·rw [← hon]; exact hr e he hb
  ·have hjl : j < head.size := (Array.getElem?_eq_some_iff.1 hj).1
   rw [← hon]
   exact hc j oj hj (ih (head.size - j) (by omega) j rfl hjl) e he hb
theorem ready_push {head : Array Oper} {o : Oper} {listed : Array Bool} (hB : lastB md head o = true) (hs : listed.size = head.size) (hcl : Closed md head listed) {i : Nat} (hi : i ∈ Region.ready md (head.push o) (listed.push false)) :
  (i < head.size ∧ i ∈ Region.ready md head listed) ∨ (i = head.size ∧ Region.ready md head listed = []) := by
 obtain ⟨h1, oi, h2, h3⟩ := mem_ready.1 hi
 rcases Nat.lt_or_ge i head.size with h | h
 ·left
  refine ⟨h, mem_ready.2 ⟨by rw [getD_push_lt true (by omega)] at h1; exact h1, oi, ?_, fun e he hb => ?_⟩⟩
  ·rw [Array.getElem?_push, if_neg (by omega)] at h2; exact h2
  ·have := h3 e he hb; rwa [getD_push_false] at this
 ·right
  have hsz := (Array.getElem?_eq_some_iff.1 h2).1
  simp only [Array.size_push] at hsz
  have e : i = head.size := by omega
  subst e
  refine ⟨rfl, ?_⟩
  rw [Array.getElem?_push, if_pos rfl] at h2
  cases h2
  rcases hr : Region.ready md head listed with _ | ⟨k, rs⟩
  ·rfl
  ·exfalso
   have hk : k ∈ Region.ready md head listed := by rw [hr]; simp
   obtain ⟨g1, ok, g2, _⟩ := mem_ready.1 hk
   have hkl : k < head.size := (Array.getElem?_eq_some_iff.1 g2).1
   have := last_waits hB hs hcl (fun e he hb => by have := h3 e he hb; rwa [getD_push_false] at this) _ k rfl hkl
   simp [show k < listed.size by omega] at g1 this
   rw [g1] at this
   cases this
theorem wpAnyIn_end {ops : Array Oper} {Q : Exit → Act → World → Prop} {listed : Array Bool} {a : Act} {w : World} (h0 : Region.ready md ops listed = []) (h : Q .normal a w) : ∀ fuel, wpAnyIn F n P md ops Q fuel listed a w
 | 0 => ⟨h0, h⟩
 | _ + 1 => ⟨fun _ => h, fun i hi => by rw [h0] at hi; cases hi⟩
theorem wpAnyIn_snoc {head : Array Oper} {o : Oper} {Q : Exit → Act → World → Prop} (hB : lastB md head o = true) : ∀ (fuel : Nat) (listed : Array Bool) (a : Act) (w : World), listed.size = head.size → Closed md head listed →
  wpAnyIn F n P md head (Exit.then (fun a w => wpOpIn F n P (head.push o) Q head.size (Q .normal) a w) Q) fuel listed a w → wpAnyIn F n P md (head.push o) Q (fuel + 1) (listed.push false) a w := by
 have last : ∀ (fuel : Nat) (listed : Array Bool) (a : Act) (w : World), listed.size = head.size → Closed md head listed → Region.ready md head listed = [] → wpOpIn F n P (head.push o) Q head.size (Q .normal) a w →
   wpAnyIn F n P md (head.push o) Q (fuel + 1) (listed.push false) a w := by
  intro fuel listed a w hs hcl h0 h
  have hall := all_listed hB hs h0
  have hin : head.size ∈ Region.ready md (head.push o) (listed.push false) := by
   refine mem_ready.2 ⟨by rw [← hs]; simp [Array.getD], o, by simp, fun e he hb => ?_⟩
   have hon : e.on < head.size := (lastB_spec hB).2.2 e he hb
   have := hall e.on hon
   rw [getD_push_false]
   simp [show e.on < listed.size by omega] at this ⊢
   exact this
  refine ⟨fun h1 => (by rw [h1] at hin; cases hin), fun i hi => ?_⟩
  rcases ready_push hB hs hcl hi with ⟨hlt, hr⟩ | ⟨rfl, _⟩
  ·rw [h0] at hr; cases hr
  ·refine wpOpIn_mono (fun a w hq => wpAnyIn_end ?_ hq fuel) h
   rcases hr : Region.ready md (head.push o) ((listed.push false).setIfInBounds head.size true) with _ | ⟨k, rs⟩
   ·rfl
   ·exfalso
    have hk : k ∈ Region.ready md (head.push o) ((listed.push false).setIfInBounds head.size true) := by rw [hr]; simp
    obtain ⟨g1, ok, g2, _⟩ := mem_ready.1 hk
    have hsz := (Array.getElem?_eq_some_iff.1 g2).1
    simp only [Array.size_push] at hsz
    by_cases hkl : k = head.size
    ·subst hkl
     simp [Array.getD, hs] at g1
    ·rw [getD_set_ne true (fun h => hkl h.symm), getD_push_lt true (by omega), hall k (by omega)] at g1
     cases g1
 intro fuel
 induction fuel with
 | zero => exact fun listed a w hs hcl h => last 0 listed a w hs hcl h.1 h.2
 | succ fuel ih =>
  intro listed a w hs hcl h
  by_cases h0 : Region.ready md head listed = []
  ·exact last _ listed a w hs hcl h0 (h.1 h0)
  ·refine ⟨fun h1 => ?_, fun i hi => ?_⟩
   ·exfalso
    rcases hr : Region.ready md head listed with _ | ⟨k, rs⟩
    ·exact h0 hr
    ·have hk : k ∈ Region.ready md head listed := by rw [hr]; simp
     obtain ⟨g1, ok, g2, g3⟩ := mem_ready.1 hk
     have hkl : k < head.size := (Array.getElem?_eq_some_iff.1 g2).1
     have : k ∈ Region.ready md (head.push o) (listed.push false) :=
      mem_ready.2 ⟨by rw [getD_push_lt true (by omega)]; exact g1, ok, by rw [Array.getElem?_push, if_neg (by omega)]; exact g2, fun e he hb => by rw [getD_push_false]; exact g3 e he hb⟩
     rw [h1] at this
     cases this
   ·rcases ready_push hB hs hcl hi with ⟨hlt, hr⟩ | ⟨_, hr⟩
    ·have h2 := h.2 i hr
     have e1 : (head.push o)[i]? = head[i]? := by rw [Array.getElem?_push, if_neg (by omega)]
     have e2 : (listed.push false).setIfInBounds i true = (listed.setIfInBounds i true).push false := by
      apply Array.ext'
      simp only [Array.toList_setIfInBounds, Array.toList_push]
      rw [List.set_append_left _ _ (by simpa [hs] using hlt)]
     unfold wpOpIn at h2 ⊢
     rw [e1, e2]
     have hg : head[i]? = some head[i] := by simp [hlt]
     rw [hg] at h2 ⊢
     simp only at h2 ⊢
     rw [wanted_push (o := o) ((lastB_spec hB).1 i head[i] hg).2]
     split
     ·rename_i hw
      rw [if_pos hw] at h2
      exact wpIn_monoQ (fun e a w hne hq => by cases e <;> first | exact absurd rfl hne | exact hq) (Oper.wpIn_mono (fun a w => ih _ a w (by simp [hs]) (hcl.set hr)) h2)
     ·rename_i hw
      rw [if_neg hw] at h2
      exact ⟨h2.1, ih _ _ _ (by simp [hs]) (hcl.set hr) h2.2⟩
    ·exact absurd hr h0
end
/-- a region that draws its order, whose last operation waits for all others: these turn nothing that there was -/
theorem wpIn_region_last {P : Program} {n : Nat} {ro : Option Nat} {C : World → Prop} {id : Nat} {Q : Exit → Act → World → Prop} {a : Act} {w : World} {head : List Oper} {o : Oper} {ls : List Oper} (hls : ls = head ++ [o]) (hg : o.guard = none)
  (hm : P.follows .mixedOrders = true) (hB : Region.lexB .any head.toArray = true) (hL : lastB .any head.toArray o = true) (hC : C { w with drawn := w.drawn + 1 })
  (h : wpQuiet P head.toArray C (fun a' => ∀ w', C w' → wpListIn (FW ro) n P ls.toArray Q [o] a' w') head a) : (Code.region id ls.toArray true).wpIn (FW ro) n P Q a w := by
 subst hls
 simp only [Region.lexB, Bool.and_eq_true] at hB
 have e : (head ++ [o]).toArray = head.toArray.push o := by simp
 rw [e] at h ⊢
 refine wpIn_region_any hm ?_
 have e2 : Array.replicate (head.toArray.push o).size false = (Array.replicate head.toArray.size false).push false := by
  rw [Array.size_push, Array.replicate_succ]
 rw [e2, Array.size_push]
 refine wpAnyIn_snoc hL _ _ _ _ (by simp) (fun j oj _ hl => by rw [getD_replicate] at hl; cases hl) ?_
 refine wpAnyIn_of_quiet (C := C) (Q := fun a' => ∀ w', C w' → wpListIn (FW ro) n P (head.toArray.push o) Q [o] a' w') (fun a' w' hw' h => ?_) _ _ _ _ hC ?_
 ·have h2 := h w' hw'
  unfold wpListIn at h2
  simp only [Exit.then]
  unfold wpOpIn
  have hi : (head.toArray.push o)[head.toArray.size]? = some o := by simp
  rw [hi]
  have hw : ∀ y, Region.wanted o y = true := fun y => by simp [Region.wanted, hg]
  simp only [hw, if_true] at h2 ⊢
  exact h2
 ·have := wpAnyQ_lex (C := C) (md := .any) hB.1 head.toArray.toList 0 (Array.replicate head.toArray.size false) a (by simp) (by simpa using hB.2) (by simpa using h)
  simpa using this
/-- the same, the operations written out: 'dsimp only [List.dropLast]' behind it -/
theorem wpIn_region_tail {P : Program} {n : Nat} {ro : Option Nat} {C : World → Prop} {id : Nat} {Q : Exit → Act → World → Prop} {a : Act} {w : World} {o : Oper} {ls : List Oper} (ho : ls.getLast? = some o) (hg : o.guard = none)
  (hm : P.follows .mixedOrders = true) (hB : Region.lexB .any ls.dropLast.toArray = true) (hL : lastB .any ls.dropLast.toArray o = true) (hC : C { w with drawn := w.drawn + 1 })
  (h : wpQuiet P ls.dropLast.toArray C (fun a' => ∀ w', C w' → wpListIn (FW ro) n P ls.toArray Q [o] a' w') ls.dropLast a) : (Code.region id ls.toArray true).wpIn (FW ro) n P Q a w := by
 refine wpIn_region_last ?_ hg hm hB hL hC h
 have hne : ls ≠ [] := by intro e; rw [e] at ho; cases ho
 rw [List.getLast?_eq_some_getLast hne] at ho
 have := List.dropLast_concat_getLast hne
 rw [← this]
 cases ho
 simp
/-- .. at the class 'w after some draws' -/
theorem wpIn_region_tail_drew {P : Program} {n : Nat} {ro : Option Nat} {id : Nat} {Q : Exit → Act → World → Prop} {a : Act} {w : World} {o : Oper} {ls : List Oper} (ho : ls.getLast? = some o) (hg : o.guard = none)
  (hm : P.follows .mixedOrders = true) (hB : Region.lexB .any ls.dropLast.toArray = true) (hL : lastB .any ls.dropLast.toArray o = true)
  (h : wpQuiet P ls.dropLast.toArray (fun w' => ∃ n, w' = w.drewN n) (fun a' => ∀ w', (∃ n, w' = w.drewN n) → wpListIn (FW ro) n P ls.toArray Q [o] a' w') ls.dropLast a) : (Code.region id ls.toArray true).wpIn (FW ro) n P Q a w :=
 wpIn_region_tail ho hg hm hB hL ⟨1, rfl⟩ h
/-- w, grown by what is new in W -/
structure Gr (w : World) where
 W : World
 h : Below w.heap.size w W
instance (w : World) : Nonempty (Gr w) := ⟨⟨w, Below.refl _ w⟩⟩
def grow (w : World) (g : Gr w) : World := g.W
theorem grow_below (w : World) (g) : Below w.heap.size w (grow w g) := g.h
theorem grow_of {w W : World} (h : Below w.heap.size w W) : ∃ g, W = grow w g := ⟨⟨W, h⟩, rfl⟩
@[go_sem] theorem grow_cell (w : World) (g) (b o : Nat) (h : b < w.heap.size) : (grow w g).cell? ⟨b, o, none⟩ = w.cell? ⟨b, o, none⟩ := g.h.cell (p := ⟨b, o, none⟩) h
@[go_sem] theorem grow_frozen (w : World) (g) (b o : Nat) (h : b < w.heap.size) : (grow w g).frozen? ⟨b, o, none⟩ = w.frozen? ⟨b, o, none⟩ := g.h.frozen (p := ⟨b, o, none⟩) h
/-- a call by a contract that says 'whatever there was stays' -/
theorem grow_call {P : Program} {f : FuncId} {args : Array Value} {w : World} {g} {v : Value} (h : Calls P f args (grow w g) fun e w' => e = .returned v ∧ Below (grow w g).heap.size (grow w g) w') :
  Calls P f args (grow w g) fun e w'' => e = .returned v ∧ ∃ g', w'' = grow w g' :=
 h.mono fun _ _ ⟨he, hb⟩ => ⟨he, grow_of ((grow_below w g).trans (hb.mono (grow_below w g).size))⟩
theorem wp_region_grow {P : Program} {id : Nat} {Q : Exit → Act → World → Prop} {a : Act} {w : World} {l : List Oper} (hm : P.follows .mixedOrders = true) (hB : Region.lexB .any l.toArray = true)
  (h : wpQuiet P l.toArray (fun w' => ∃ g, w' = grow w g) (fun a' => ∀ w', (∃ g, w' = grow w g) → Q .normal a' w') l a) : (Code.region id l.toArray true).wp P Q a w :=
 wp_region_quiet (C := fun w' => ∃ g, w' = grow w g) hm hB (grow_of ((Below.refl _ w).drew)) (by simpa using h)
theorem wpIn_region_grow {P : Program} {n : Nat} {id : Nat} {Q : Exit → Act → World → Prop} {a : Act} {w : World} {ls : List Oper} {ro : Option Nat} (hm : P.follows .mixedOrders = true) (hB : Region.lexB .any ls.toArray = true)
  (h : wpQuiet P ls.toArray (fun w' => ∃ g, w' = grow w g) (fun a' => ∀ w', (∃ g, w' = grow w g) → Q .normal a' w') ls a) : (Code.region id ls.toArray true).wpIn (FW ro) n P Q a w :=
 wpIn_region_quiet (C := fun w' => ∃ g, w' = grow w g) hm hB (grow_of ((Below.refl _ w).drew)) (by simpa using h)
/-- in a round: reads and calls that only draw -/
theorem quietR {P : Program} {n : Nat} {l : Nat} {id : Nat} {Q : Exit → Act → World → Prop} {a : Act} {w : World} {ls : List Oper} (hm : P.follows .mixedOrders = true) (hB : Region.lexB .any ls.toArray = true)
  (h : wpQuiet P ls.toArray (fun w' => ∃ n, w' = w.drewN n) (fun a' => ∀ w', (∃ n, w' = w.drewN n) → Q .normal a' w') ls a) : (Code.region id ls.toArray true).wpIn (Fence.wide.inRound l) n P Q a w :=
 wpIn_region_quiet_lit (ro := some l) hm hB h
/-- .. calls that lay something new -/
theorem growR {P : Program} {n : Nat} {l : Nat} {id : Nat} {Q : Exit → Act → World → Prop} {a : Act} {w : World} {ls : List Oper} (hm : P.follows .mixedOrders = true) (hB : Region.lexB .any ls.toArray = true)
  (h : wpQuiet P ls.toArray (fun w' => ∃ g, w' = grow w g) (fun a' => ∀ w', (∃ g, w' = grow w g) → Q .normal a' w') ls a) : (Code.region id ls.toArray true).wpIn (Fence.wide.inRound l) n P Q a w :=
 wpIn_region_grow (ro := some l) hm hB h
/-- .. the last operation writes -/
theorem tailR {P : Program} {n : Nat} {l : Nat} {id : Nat} {Q : Exit → Act → World → Prop} {a : Act} {w : World} {o : Oper} {ls : List Oper} (ho : ls.getLast? = some o) (hg : o.guard = none)
  (hm : P.follows .mixedOrders = true) (hB : Region.lexB .any ls.dropLast.toArray = true) (hL : lastB .any ls.dropLast.toArray o = true)
  (h : wpQuiet P ls.dropLast.toArray (fun w' => ∃ n, w' = w.drewN n) (fun a' => ∀ w', (∃ n, w' = w.drewN n) → wpListIn (Fence.wide.inRound l) n P ls.toArray Q [o] a' w') ls.dropLast a) : (Code.region id ls.toArray true).wpIn (Fence.wide.inRound l) n P Q a w :=
 wpIn_region_tail_drew (ro := some l) ho hg hm hB hL h
/-- .. the last operation writes, calls before it lay something new -/
theorem growTailR {P : Program} {n : Nat} {l : Nat} {id : Nat} {Q : Exit → Act → World → Prop} {a : Act} {w : World} {o : Oper} {ls : List Oper} (ho : ls.getLast? = some o) (hg : o.guard = none)
  (hm : P.follows .mixedOrders = true) (hB : Region.lexB .any ls.dropLast.toArray = true) (hL : lastB .any ls.dropLast.toArray o = true)
  (h : wpQuiet P ls.dropLast.toArray (fun w' => ∃ g, w' = grow w g) (fun a' => ∀ w', (∃ g, w' = grow w g) → wpListIn (Fence.wide.inRound l) n P ls.toArray Q [o] a' w') ls.dropLast a) : (Code.region id ls.toArray true).wpIn (Fence.wide.inRound l) n P Q a w :=
 wpIn_region_tail (ro := some l) ho hg hm hB hL (grow_of ((Below.refl _ w).drew)) h
/-- outside of all rounds: reads and calls that only draw -/
theorem quietT {P : Program} {n : Nat} {id : Nat} {Q : Exit → Act → World → Prop} {a : Act} {w : World} {ls : List Oper} (hm : P.follows .mixedOrders = true) (hB : Region.lexB .any ls.toArray = true)
  (h : wpQuiet P ls.toArray (fun w' => ∃ n, w' = w.drewN n) (fun a' => ∀ w', (∃ n, w' = w.drewN n) → Q .normal a' w') ls a) : (Code.region id ls.toArray true).wpIn Fence.wide n P Q a w :=
 wpIn_region_quiet_lit (ro := none) hm hB h
/-- .. calls that lay something new -/
theorem growT {P : Program} {n : Nat} {id : Nat} {Q : Exit → Act → World → Prop} {a : Act} {w : World} {ls : List Oper} (hm : P.follows .mixedOrders = true) (hB : Region.lexB .any ls.toArray = true)
  (h : wpQuiet P ls.toArray (fun w' => ∃ g, w' = grow w g) (fun a' => ∀ w', (∃ g, w' = grow w g) → Q .normal a' w') ls a) : (Code.region id ls.toArray true).wpIn Fence.wide n P Q a w :=
 wpIn_region_grow (ro := none) hm hB h
/-- .. the last operation writes -/
theorem tailT {P : Program} {n : Nat} {id : Nat} {Q : Exit → Act → World → Prop} {a : Act} {w : World} {o : Oper} {ls : List Oper} (ho : ls.getLast? = some o) (hg : o.guard = none)
  (hm : P.follows .mixedOrders = true) (hB : Region.lexB .any ls.dropLast.toArray = true) (hL : lastB .any ls.dropLast.toArray o = true)
  (h : wpQuiet P ls.dropLast.toArray (fun w' => ∃ n, w' = w.drewN n) (fun a' => ∀ w', (∃ n, w' = w.drewN n) → wpListIn Fence.wide n P ls.toArray Q [o] a' w') ls.dropLast a) : (Code.region id ls.toArray true).wpIn Fence.wide n P Q a w :=
 wpIn_region_tail_drew (ro := none) ho hg hm hB hL h
/-- .. the last operation writes, calls before it lay something new -/
theorem growTailT {P : Program} {n : Nat} {id : Nat} {Q : Exit → Act → World → Prop} {a : Act} {w : World} {o : Oper} {ls : List Oper} (ho : ls.getLast? = some o) (hg : o.guard = none)
  (hm : P.follows .mixedOrders = true) (hB : Region.lexB .any ls.dropLast.toArray = true) (hL : lastB .any ls.dropLast.toArray o = true)
  (h : wpQuiet P ls.dropLast.toArray (fun w' => ∃ g, w' = grow w g) (fun a' => ∀ w', (∃ g, w' = grow w g) → wpListIn Fence.wide n P ls.toArray Q [o] a' w') ls.dropLast a) : (Code.region id ls.toArray true).wpIn Fence.wide n P Q a w :=
 wpIn_region_tail (ro := none) ho hg hm hB hL (grow_of ((Below.refl _ w).drew)) h
end Go.Proofs.Ytphajlldghcnnaa
