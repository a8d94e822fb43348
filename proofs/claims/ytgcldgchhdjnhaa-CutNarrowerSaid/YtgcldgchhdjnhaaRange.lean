/-
  A law on 'for .. := range f { .. }': what the iterator may turn between two rounds are blocks of its own, whatever they hold; what the body may turn are blocks of the caller's. Built on the library's rules for the loop's record.
-/
import Derived.RangeFuncNested
import Derived.RangeFuncBound
import Derived.RangeFuncCalls
import Derived.RangeFuncLeaves
import Derived.Shelf.Abstract
import Derived.Shelf.RegionOpen
import Derived.WalkKit
import Derived.OwnWalkIn
import Derived.TacticsInMore
import Derived.LoopNIn
import Derived.LoopIn
namespace Go.Proofs.Ytgcldgchhdjnhaa
open Go.RowKit Go.Shelf

/-- whatever lies in a block of S stays; new blocks may come -/
structure Kept (S : Nat → Prop) (w w' : World) : Prop where
  os : w'.os = w.os
  tape : w'.tape = w.tape
  output : w'.output = w.output
  size : w.heap.size ≤ w'.heap.size
  same : ∀ k, k < w.heap.size → S k → w'.heap[k]? = w.heap[k]?
theorem Kept.refl (S : Nat → Prop) (w : World) : Kept S w w := ⟨rfl, rfl, rfl, Nat.le_refl _, fun _ _ _ => rfl⟩
theorem Kept.trans {S : Nat → Prop} {a b c : World} (h : Kept S a b) (k : Kept S b c) : Kept S a c :=
  ⟨k.os.trans h.os, k.tape.trans h.tape, k.output.trans h.output, Nat.le_trans h.size k.size, fun i hi hs => (k.same i (Nat.lt_of_lt_of_le hi h.size) hs).trans (h.same i hi hs)⟩
theorem Kept.mono {S T : Nat → Prop} {a b : World} (h : Kept S a b) (hs : ∀ k, k < a.heap.size → T k → S k) : Kept T a b :=
  ⟨h.os, h.tape, h.output, h.size, fun k hk ht => h.same k hk (hs k hk ht)⟩
theorem Kept.of_below {S : Nat → Prop} {a b : World} (h : Below a.heap.size a b) : Kept S a b := ⟨h.os, h.tape, h.output, h.size, fun k hk _ => h.block k hk⟩
theorem Kept.below {B : Nat} {a b : World} (h : Kept (fun k => k < B) a b) (hB : B ≤ a.heap.size) : Below B a b := ⟨h.os, h.tape, h.output, h.size, fun k hk => h.same k (by omega) hk⟩
theorem Kept.putObj {S : Nat → Prop} {a b : World} (h : Kept S a b) {r : Nat} (o : Obj) (hr : r < a.heap.size → ¬ S r) : Kept S a (b.putObj r o) :=
  ⟨h.os, h.tape, h.output, by simpa using h.size, fun k hk hs => (World.putObj_heap_other (r := r) (k := k) (fun e => by subst e; exact hr hk hs)).trans (h.same k hk hs)⟩
theorem Kept.alloc {S : Nat → Prop} {a b : World} (h : Kept S a b) (o : Obj) : Kept S a (b.alloc o) :=
  h.trans (.of_below ((Below.refl _ b).alloc (Nat.le_refl _) o))
theorem Kept.setCell {S : Nat → Prop} {a b : World} (h : Kept S a b) {p : Addr} (hp : p.block < a.heap.size → ¬ S p.block) (u : Value) : Kept S a (b.setCell p u) :=
  ⟨h.os, h.tape, h.output, by simpa [World.setCell] using h.size, fun k hk hs => (Below.heap_setCell _ _ _ _ (fun e => by subst e; exact hp hk hs)).trans (h.same k hk hs)⟩
theorem Kept.drew {S : Nat → Prop} {a b : World} (h : Kept S a b) : Kept S a b.drew := ⟨h.os, h.tape, h.output, h.size, h.same⟩
theorem Kept.grown {S : Nat → Prop} {a b c : World} {row : Option Nat} (h : Kept S a b) (hg : b.grownBy c row) (hr : ∀ k, row = some k → k < a.heap.size → ¬ S k) : Kept S a c :=
  ⟨hg.os.trans h.os, hg.tape.trans h.tape, hg.output.trans h.output, Nat.le_trans h.size hg.size, fun k hk hs => (hg.block k (Nat.lt_of_lt_of_le hk h.size) (fun e => hr k e.symm hk hs)).trans (h.same k hk hs)⟩
theorem Kept.cell {S : Nat → Prop} {a b : World} (h : Kept S a b) {p : Addr} {v : Value} (hc : a.cell? p = some v) (hs : S p.block) : b.cell? p = some v :=
  (World.cell?_of_block (w := a) (h.same _ (World.block_lt_of_cell? a p hc) hs)).trans hc
theorem Kept.frozen {S : Nat → Prop} {a b : World} (h : Kept S a b) {p : Addr} (hl : p.block < a.heap.size) (hs : S p.block) : b.frozen? p = a.frozen? p :=
  World.frozen?_of_block (w := a) (h.same _ hl hs)

/-- what a statement on the caller's memory must bear: the iterator turns blocks of its own, O, and lays new ones -/
def Bears (X : Nat → Prop) (J : (Nat → Prop) → World → Prop) : Prop :=
  ∀ O O' A B, J O A → Kept (fun k => ¬ O k ∧ ¬ X k) A B → (∀ k, O k → O' k) → (∀ k, O' k → O k ∨ (A.heap.size ≤ k ∧ k < B.heap.size)) → J O' B
section
variable {X : Nat → Prop} {J : (Nat → Prop) → World → Prop} (h : Bears X J) {O : Nat → Prop} {A : World}
include h
theorem Bears.ext (hj : J O A) {B : World} (e : Below A.heap.size A B) : J O B := h O O A B hj (.of_below e) (fun _ h => h) (fun _ h => .inl h)
theorem Bears.alloc (hj : J O A) (o : Obj) : J (fun k => O k ∨ k = A.heap.size) (A.alloc o) :=
  h O _ A _ hj (.of_below ((Below.refl _ A).alloc (Nat.le_refl _) o)) (fun _ h => .inl h) (fun k hk => hk.imp id fun e => by subst e; simp)
theorem Bears.setCell (hj : J O A) {p : Addr} (ho : O p.block) (u : Value) : J O (A.setCell p u) :=
  h O O A _ hj ((Kept.refl _ A).setCell (fun _ h => h.1 ho) u) (fun _ h => h) (fun _ h => .inl h)
end
/-- a statement on what lies below B alone bears all that an iterator does -/
theorem bears_low {B : Nat} {G : World → Prop} (hG : ∀ A A', G A → Below B A A' → G A') : Bears (fun k => k = B ∨ k = B + 1) (fun O W => (∀ k, O k → B ≤ k) ∧ B ≤ W.heap.size ∧ G W) := by
  rintro O O' A A' ⟨h1, h2, h3⟩ hk _ hO2
  refine ⟨fun k h => ?_, Nat.le_trans h2 hk.size, hG A A' h3 ⟨hk.os, hk.tape, hk.output, hk.size, fun k hl => hk.same k (by omega) ⟨fun ho => by have := h1 k ho; omega, by omega⟩⟩⟩
  rcases hO2 k h with h | h
  · exact h1 k h
  · omega
/-- An iterator: what it yields, whatever the body does that keeps R and the iterator's own blocks. -/
def Iter {α : Type} (P : Program) (gf : Nat) (lb : Array Value) (encs : α → Array Value) (R : Nat → Prop) (S Sp : List α → Prop) (Nx : List α → α → Prop) (w0 : World) : Prop :=
  ∀ (n l : Nat) (J Jx : (Nat → Prop) → List α → World → Prop) (W : World), Below w0.heap.size w0 W →
    (∀ pre, Bears (fun _ => False) (J · pre ·)) → (∀ pre, Bears (fun _ => False) (Jx · pre ·)) →
    (∀ O pre x W1, J O pre W1 → Nx pre x → YieldAt Fence.wide (n - 1) P l (encs x) W1 fun e W' =>
      (e = .returned (.bool true) ∧ J O (pre ++ [x]) W' ∧ Kept (fun k => R k ∨ O k) W1 W') ∨ (e = .returned (.bool false) ∧ Jx O (pre ++ [x]) W')) →
    J (fun _ => False) [] W →
    CallsIn Fence.wide n P gf (#[.func (.yield l) #[] #[]] ++ lb) W fun e W' => (∃ v, e = .returned v) ∧ ((∃ O xs, S xs ∧ J O xs W') ∨ (∃ O pre, Sp pre ∧ Jx O pre W'))

/-- how the body of a round may be left -/
def bodyWay {α : Type} (L : Nat) (R O : Nat → Prop) (I : (Nat → Prop) → List α → World → Prop) (Ix : Code → (Nat → Prop) → List α → World → Prop) (xs : List α) (W : World) : Exit → Act → World → Prop
  | .normal, _, W' => Kept (fun k => R k ∨ O k ∨ k = L ∨ k + 1 = L) W W' ∧ I O xs W'
  | .ret, _, W' => Kept (fun k => k = L ∨ k + 1 = L) W W' ∧ Ix .ret O xs W'
  | .exit id, _, W' => Kept (fun k => k = L ∨ k + 1 = L) W W' ∧ Ix (.exit id) O xs W'
  | .goto t, _, W' => Kept (fun k => k = L ∨ k + 1 = L) W W' ∧ Ix (.goto t) O xs W'
  | .panic _, _, _ => False
  | .outgrown, _, _ => False

theorem rangeOver {α : Type} {P : Program} {n : Nat} {g : Operand} {ps : Array Tmp} {assign body : Code} {Q : Exit → Act → World → Prop} {a : Act} {w : World} {gf : Nat} {lb : Array Value}
    (hg : a.eval g = .func (.func gf) #[] lb) (eg : ∀ args w, (callFunc gf args).run P w = .ok (.enter gf args) w)
    {encs : α → Array Value} {R : Nat → Prop} {S Sp : List α → Prop} {Nx : List α → α → Prop} {w0 : World} (hseq : Iter P gf lb encs R S Sp Nx w0) (hb0 : Below w0.heap.size w0 w)
    (hR : ∀ k, R k → k < w.heap.size) (hps : ∀ x, (encs x).size = ps.size)
    (I : (Nat → Prop) → List α → World → Prop) (Ix : Code → (Nat → Prop) → List α → World → Prop)
    (hI : ∀ pre, Bears (fun k => k = w.heap.size ∨ k = w.heap.size + 1) (I · pre ·)) (hIx : ∀ c pre, Bears (fun k => k = w.heap.size ∨ k = w.heap.size + 1) (Ix c · pre ·))
    (h0 : I (fun _ => False) [] w)
    (hround : ∀ (l : Nat) O (pre : List α) (x : α) (W : World), I O pre W → Nx pre x → (∀ k, O k → w.heap.size + 2 ≤ k ∧ k < W.heap.size) → w.heap.size + 2 ≤ W.heap.size →
      assign.wpIn (Fence.wide.inRound l) (n - 1 - 1) P (Exit.then (fun a₁ W₁ => Below W.heap.size W W₁ ∧ ∀ W₂, Kept (fun k => k ≠ w.heap.size + 1) W₁ W₂ →
        body.wpIn (Fence.wide.inRound l) (n - 1 - 1) P (bodyWay (w.heap.size + 1) R O I Ix (pre ++ [x]) W₂) a₁ W₂) (fun _ _ _ => False)) { tmps := (ps.zip (encs x)).foldl (fun t (p, v) => t.setIfInBounds p v) a.tmps, defers := [] } W)
    (hdone : ∀ (D : Nat) O (xs : List α) (W : World), w.heap.size ≤ D → S xs → I O xs W → W.heap[D]? = some (.deferred (some [])) → Q .normal { a with defers := { target := .collected D, args := #[] } :: a.defers } W)
    (hstop : ∀ (D : Nat) O (c : Code) (pre : List α) (W : World), w.heap.size ≤ D → Sp pre → Ix c O pre W → W.heap[D]? = some (.deferred (some [])) → c.wpIn Fence.wide n P Q { a with defers := { target := .collected D, args := #[] } :: a.defers } W) :
    (Code.rangeFunc g ps assign body).wpIn Fence.wide n P Q a w := by
  refine wpIn_rangeFunc fun fn hfn => ?_
  generalize hrec : (fun (st : LoopState) (pe : Option Code) => ({ state := st, pending := pe, fn, tmps := a.tmps, params := ps, assign, body, defers := w.heap.size } : Loop)) = rec
  have er : ∀ st pe, rec st pe = { state := st, pending := pe, fn, tmps := a.tmps, params := ps, assign, body, defers := w.heap.size } := fun st pe => by rw [← hrec]
  have eq1 : w.heap.size + 1 ≠ w.heap.size := by omega
  -- what the law itself keeps on its two blocks
  let Bk : World → Loop → Prop := fun W r => W.heap[w.heap.size + 1]? = some (.loop r) ∧ W.heap[w.heap.size]? = some (.deferred (some []))
  have bk_lt : ∀ {W r}, Bk W r → w.heap.size + 1 < W.heap.size := fun h => (Array.getElem?_eq_some_iff.1 h.1).1
  have bk_kept : ∀ {A B r}, Bk A r → Kept (fun k => k = w.heap.size + 1 ∨ k + 1 = w.heap.size + 1) A B → Bk B r := fun {A B r} h hk =>
    ⟨(hk.same _ (bk_lt h) (.inl rfl)).trans h.1, (hk.same _ (by have := bk_lt h; omega) (.inr rfl)).trans h.2⟩
  have bk_put : ∀ {W r} (r' : Loop), Bk W r → Bk (W.putObj (w.heap.size + 1) (.loop r')) r' := fun {W r} r' h =>
    ⟨World.putObj_heap_same (bk_lt h), (World.putObj_heap_other (by omega)).trans h.2⟩
  have put_kept : ∀ (W : World) (o : Obj), Kept (fun k => k ≠ w.heap.size + 1) W (W.putObj (w.heap.size + 1) o) := fun W o => (Kept.refl _ W).putObj o (fun _ h => h rfl)
  have hI' : ∀ {O pre A} (o : Obj), I O pre A → I O pre (A.putObj (w.heap.size + 1) o) := fun {O pre A} o h =>
    hI pre O O A _ h ((put_kept A o).mono fun k _ hk e => hk.2 (.inr e)) (fun _ h => h) (fun _ h => .inl h)
  have hIx' : ∀ {c O pre A} (o : Obj), Ix c O pre A → Ix c O pre (A.putObj (w.heap.size + 1) o) := fun {c O pre A} o h =>
    hIx c pre O O A _ h ((put_kept A o).mono fun k _ hk e => hk.2 (.inr e)) (fun _ h => h) (fun _ h => .inl h)
  obtain ⟨W1, hW1⟩ : ∃ W1, (w.alloc (.deferred (some []))).alloc (.loop (rec .ready none)) = W1 := ⟨_, rfl⟩
  have hE1 : Below w.heap.size w W1 := by rw [← hW1]; exact ((Below.refl _ w).alloc (Nat.le_refl _) _).alloc (by simp) _
  have hB1 : Bk W1 (rec .ready none) := by
    rw [← hW1]
    refine ⟨?_, (Below.heap_alloc _ _ _ (by simp)).trans (World.alloc_heap_new w _)⟩
    have := World.alloc_heap_new (w.alloc (.deferred (some []))) (.loop (rec .ready none)); rwa [World.size_alloc] at this
  have hs1 : W1.heap.size = w.heap.size + 2 := by rw [← hW1]; simp
  refine ⟨w.heap.size + 1, [{ target := .collected w.heap.size, args := #[] }], W1, { target := .fn (.func gf) lb, args := #[.func (.yield (w.heap.size + 1)) #[] #[]] }, W1, gf,
    #[.func (.yield (w.heap.size + 1)) #[] #[]] ++ lb, W1, ?_, ?_, fun _ _ => trivial, ?_, fun h => by simp [Fence.wide] at h, ?_⟩
  · rw [← hW1, er]; exact run_enterLoop_outer _ _ _ _ _
  · simp only [resolve, hg]
    simp [go_sem]
  · simp [invoke, go_sem, eg]
  · refine (hseq (n - 1) (w.heap.size + 1)
      (fun O pre W => I O pre W ∧ Bk W (rec .ready none) ∧ ∀ k, O k → w.heap.size + 2 ≤ k ∧ k < W.heap.size)
      (fun O pre W => ∃ c, Ix c O pre W ∧ Bk W (rec .done (some c)) ∧ ∀ k, O k → w.heap.size + 2 ≤ k ∧ k < W.heap.size)
      W1 (hb0.trans (hE1.mono hb0.size)) ?_ ?_ ?_ ⟨hI [] _ _ _ _ h0 (.of_below hE1) (fun _ h => h) (fun _ h => .inl h), hB1, fun _ h => h.elim⟩).mono ?_
    · rintro pre O O' A B ⟨h1, h2, h3⟩ hk hO1 hO2
      have hlt := bk_lt h2
      have hO3 : ∀ k, O' k → w.heap.size + 2 ≤ k ∧ k < B.heap.size := fun k h => by
        have := hk.size
        rcases hO2 k h with h | h
        · have := h3 k h; omega
        · omega
      exact ⟨hI pre O O' A B h1 (hk.mono fun k _ h => ⟨h.1, fun h => h⟩) hO1 hO2, bk_kept h2 (hk.mono fun k _ h => ⟨fun ho => by have := h3 k ho; omega, fun h => h⟩), hO3⟩
    · rintro pre O O' A B ⟨c, h1, h2, h3⟩ hk hO1 hO2
      have hlt := bk_lt h2
      have hO3 : ∀ k, O' k → w.heap.size + 2 ≤ k ∧ k < B.heap.size := fun k h => by
        have := hk.size
        rcases hO2 k h with h | h
        · have := h3 k h; omega
        · omega
      exact ⟨c, hIx c pre O O' A B h1 (hk.mono fun k _ h => ⟨h.1, fun h => h⟩) hO1 hO2, bk_kept h2 (hk.mono fun k _ h => ⟨fun ho => by have := h3 k ho; omega, fun h => h⟩), hO3⟩
    · rintro O pre x W ⟨hi, hb, hO⟩ hlen
      have hlt := bk_lt hb
      have hy := run_yield (P := P) (args := encs x) hb.1 (by rw [er]; exact hps x)
      rw [er] at hy
      refine ⟨fn, _, assign, body, hy, roundIn_of_wpIn hfn ?_⟩
      refine wpIn_mono (hround (w.heap.size + 1) O pre x W hi hlen hO (by omega)) ?_
      rintro e a₁ W2 hp
      cases e with
      | normal =>
        obtain ⟨hE2, hm⟩ := hp
        have hb2 : Bk W2 (rec .ready none) := bk_kept hb (.of_below hE2)
        refine ⟨_, run_beginRound hb2.1 (by rw [er]), ?_⟩
        have hm3 := hm _ (put_kept W2 (.loop { rec .ready none with state := .busy }))
        have hb3 := bk_put { rec .ready none with state := .busy } hb2
        generalize hW3 : W2.putObj (w.heap.size + 1) (.loop { rec .ready none with state := .busy }) = W3 at hm3 hb3 ⊢
        have hk3 : Kept (fun k => k ≠ w.heap.size + 1) W W3 := by rw [← hW3]; exact (Kept.of_below hE2).trans (put_kept W2 _)
        have hO3 : ∀ k, O k → w.heap.size + 2 ≤ k ∧ k < W3.heap.size := fun k h => ⟨(hO k h).1, Nat.lt_of_lt_of_le (hO k h).2 hk3.size⟩
        refine wpIn_mono hm3 ?_
        have fin : ∀ (jump : Option Code) (W4 : World), Kept (fun k => k = w.heap.size + 1 ∨ k + 1 = w.heap.size + 1) W3 W4 →
            (Instr.endRound (w.heap.size + 1) jump).run P W4 = .ok (.bool jump.isNone) (W4.putObj (w.heap.size + 1) (.loop (rec (if jump.isNone then .ready else .done) jump))) ∧
            Bk (W4.putObj (w.heap.size + 1) (.loop (rec (if jump.isNone then .ready else .done) jump))) (rec (if jump.isNone then .ready else .done) jump) := fun jump W4 hk4 => by
          have hb4 := bk_kept hb3 hk4
          have hr := run_endRound (P := P) jump hb4.1
          refine ⟨?_, bk_put _ hb4⟩
          rw [hr]; simp only [er]
        rintro e a3 W4 hp
        cases e with
        | normal =>
          obtain ⟨hk4, hi4⟩ := hp
          obtain ⟨hr, hb5⟩ := fin none W4 (hk4.mono fun k _ h => .inr (.inr h))
          refine ⟨_, _, hr, .inl ⟨rfl, ⟨hI' _ hi4, hb5, fun k h => ⟨(hO k h).1, ?_⟩⟩, ?_⟩⟩
          · have := (hO3 k h).2; have := hk4.size; simp; omega
          · have hlt4 := hk4.size
            have hk3' : Kept (fun k => R k ∨ O k) W W3 := hk3.mono fun k _ h => by
              rcases h with h | h
              · have := hR k h; omega
              · have := hO k h; omega
            have hk4' : Kept (fun k => R k ∨ O k) W3 W4 := hk4.mono fun k _ h => h.elim .inl fun h => .inr (.inl h)
            refine (hk3'.trans hk4').trans ((put_kept W4 _).mono fun k _ h => ?_)
            rcases h with h | h
            · have := hR k h; omega
            · have := hO k h; omega
        | ret =>
          obtain ⟨hk4, hi4⟩ := hp
          obtain ⟨hr, hb5⟩ := fin (some .ret) W4 hk4
          exact ⟨_, _, hr, .inr ⟨rfl, .ret, hIx' _ hi4, hb5, fun k h => ⟨(hO k h).1, by have := (hO3 k h).2; have := hk4.size; simp; omega⟩⟩⟩
        | exit id =>
          obtain ⟨hk4, hi4⟩ := hp
          obtain ⟨hr, hb5⟩ := fin (some (.exit id)) W4 hk4
          exact ⟨_, _, hr, .inr ⟨rfl, .exit id, hIx' _ hi4, hb5, fun k h => ⟨(hO k h).1, by have := (hO3 k h).2; have := hk4.size; simp; omega⟩⟩⟩
        | goto t =>
          obtain ⟨hk4, hi4⟩ := hp
          obtain ⟨hr, hb5⟩ := fin (some (.goto t)) W4 hk4
          exact ⟨_, _, hr, .inr ⟨rfl, .goto t, hIx' _ hi4, hb5, fun k h => ⟨(hO k h).1, by have := (hO3 k h).2; have := hk4.size; simp; omega⟩⟩⟩
        | panic ch => exact hp.elim
        | outgrown => exact hp.elim
      | ret => exact hp.elim
      | exit id => exact hp.elim
      | goto t => exact hp.elim
      | panic ch => exact hp.elim
      | outgrown => exact hp.elim
    · rintro e W2 ⟨⟨v, rfl⟩, (⟨O, xs, hS, hi, hb, _⟩ | ⟨O, pre, hSp, c, hi, hb, _⟩)⟩
      · exact ⟨none, _, by have := run_endLoop (P := P) hb.1 (by rw [er]; simp); rw [er] at this; exact this, hdone _ O xs _ (Nat.le_refl _) hS (hI' _ hi) ((World.putObj_heap_other (by omega)).trans hb.2)⟩
      · exact ⟨some c, _, by have := run_endLoop (P := P) hb.1 (by rw [er]; simp); rw [er] at this; exact this, hstop _ O c pre _ (Nat.le_refl _) hSp (hIx' _ hi) ((World.putObj_heap_other (by omega)).trans hb.2)⟩
end Go.Proofs.Ytgcldgchhdjnhaa
