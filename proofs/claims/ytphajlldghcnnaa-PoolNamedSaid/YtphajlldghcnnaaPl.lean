/-
 The law on 'for .. := range f { .. }' for an iterator whose values lie in memory.
 The walk of finishes' iterator: it yields every way in which two groups come in first.
 The walks of slices.Min and slices.Max of numbers.
 The walk of Spread.
-/
import Derived.Test.YtphajlldghcnnaaPa
import Derived.Test.YtphajlldghcnnaaPk
import Derived.Test.YtphajlldghcnnaaPh
import Derived.Test.YtphajlldghcnnaaPc
import Derived.Test.YtphajlldghcnnaaPj
import Derived.Test.YtphajlldghcnnaaPe
namespace Go.Proofs.Ytphajlldghcnnaa
open Go.RowKit Go.Shelf
/-- An iterator whose values may lie in memory: what is said of the next one is said in the world in which it is yielded. -/
def IterW {α : Type} (P : Program) (gf : Nat) (lb : Array Value) (encs : α → Array Value) (R : Nat → Prop) (S Sp : List α → Prop) (Nx : Nat → (Nat → Prop) → List α → α → World → Prop) (w0 : World) : Prop :=
 ∀ (n l : Nat) (J Jx : (Nat → Prop) → List α → World → Prop) (W : World), Below w0.heap.size w0 W →
  (∀ pre, Bears (fun _ => False) (J · pre ·)) → (∀ pre, Bears (fun _ => False) (Jx · pre ·)) →
  (∀ O pre x W1, J O pre W1 → Nx W.heap.size O pre x W1 → YieldAt Fence.wide (n - 1) P l (encs x) W1 fun e W' =>
   (e = .returned (.bool true) ∧ J O (pre ++ [x]) W' ∧ Kept (fun k => R k ∨ O k) W1 W') ∨ (e = .returned (.bool false) ∧ Jx O (pre ++ [x]) W')) →
  J (fun _ => False) [] W →
  CallsIn Fence.wide n P gf (#[.func (.yield l) #[] #[]] ++ lb) W fun e W' => (∃ v, e = .returned v) ∧ ((∃ O xs, S xs ∧ J O xs W') ∨ (∃ O pre, Sp pre ∧ Jx O pre W'))
theorem rangeOverW {α : Type} {P : Program} {n : Nat} {g : Operand} {ps : Array Tmp} {assign body : Code} {Q : Exit → Act → World → Prop} {a : Act} {w : World} {gf : Nat} {lb : Array Value}
  (hg : a.eval g = .func (.func gf) #[] lb) (eg : ∀ args w, (callFunc gf args).run P w = .ok (.enter gf args) w)
  {encs : α → Array Value} {R : Nat → Prop} {S Sp : List α → Prop} {Nx : Nat → (Nat → Prop) → List α → α → World → Prop} {w0 : World} (hseq : IterW P gf lb encs R S Sp Nx w0) (hb0 : Below w0.heap.size w0 w)
  (hR : ∀ k, R k → k < w.heap.size) (hps : ∀ x, (encs x).size = ps.size)
  (I : (Nat → Prop) → List α → World → Prop) (Ix : Code → (Nat → Prop) → List α → World → Prop)
  (hI : ∀ pre, Bears (fun k => k = w.heap.size ∨ k = w.heap.size + 1) (I · pre ·)) (hIx : ∀ c pre, Bears (fun k => k = w.heap.size ∨ k = w.heap.size + 1) (Ix c · pre ·))
  (h0 : I (fun _ => False) [] w)
  (hround : ∀ (l : Nat) O (pre : List α) (x : α) (W : World), I O pre W → Nx (w.heap.size + 2) O pre x W → (∀ k, O k → w.heap.size + 2 ≤ k ∧ k < W.heap.size) → w.heap.size + 2 ≤ W.heap.size →
   assign.wpIn (Fence.wide.inRound l) (n - 1 - 1) P (Exit.then (fun a₁ W₁ => Below W.heap.size W W₁ ∧ ∀ W₂, Kept (fun k => k ≠ w.heap.size + 1) W₁ W₂ →
    body.wpIn (Fence.wide.inRound l) (n - 1 - 1) P (bodyWay (w.heap.size + 1) R O I Ix (pre ++ [x]) W₂) a₁ W₂) (fun _ _ _ => False)) { tmps := (ps.zip (encs x)).foldl (fun t (p, v) => t.setIfInBounds p v) a.tmps, defers := [] } W)
  (hdone : ∀ (D : Nat) O (xs : List α) (W : World), w.heap.size ≤ D → S xs → I O xs W → W.heap[D]? = some (.deferred (some [])) → Q .normal { a with defers := { target := .collected D, args := #[] } :: a.defers } W)
  (hstop : ∀ (D : Nat) O (c : Code) (pre : List α) (W : World), w.heap.size ≤ D → Sp pre → Ix c O pre W → W.heap[D]? = some (.deferred (some [])) → c.wpIn Fence.wide n P Q { a with defers := { target := .collected D, args := #[] } :: a.defers } W) :
  (Code.rangeFunc g ps assign body).wpIn Fence.wide n P Q a w := by
 refine wpIn_rangeFunc fun fn hfn => ?_
 generalize hrec : (fun (st : LoopState) (pe : Option Code) => ({ state := st, pending := pe, fn, tmps := a.tmps, params := ps, assign, body, defers := w.heap.size } : Loop)) = rec
 have er : ∀ st pe, rec st pe = { state := st, pending := pe, fn, tmps := a.tmps, params := ps, assign, body, defers := w.heap.size } := fun st pe => by rw [← hrec]
 have eq1 : w.heap.size + 1 ≠ w.heap.size := by omega
 -- what the law itself keeps on its two blocks
 let Bk : World → Loop → Prop := fun W r => W.heap[w.heap.size + 1]? = some (.loop r) ∧ W.heap[w.heap.size]? = some (.deferred (some []))
 have bk_lt : ∀ {W r}, Bk W r → w.heap.size + 1 < W.heap.size := fun h => (Array.getElem?_eq_some_iff.1 h.1).1
 have bk_kept : ∀ {A B r}, Bk A r → Kept (fun k => k = w.heap.size + 1 ∨ k + 1 = w.heap.size + 1) A B → Bk B r := fun {A B r} h hk =>
  ⟨(hk.same _ (bk_lt h) (.inl rfl)).trans h.1, (hk.same _ (by have := bk_lt h; omega) (.inr rfl)).trans h.2⟩
 have bk_put : ∀ {W r} (r' : Loop), Bk W r → Bk (W.putObj (w.heap.size + 1) (.loop r')) r' := fun {W r} r' h =>
  ⟨World.putObj_heap_same (bk_lt h), (World.putObj_heap_other (by omega)).trans h.2⟩
 have put_kept : ∀ (W : World) (o : Obj), Kept (fun k => k ≠ w.heap.size + 1) W (W.putObj (w.heap.size + 1) o) := fun W o => (Kept.refl _ W).putObj o (fun _ h => h rfl)
 have hI' : ∀ {O pre A} (o : Obj), I O pre A → I O pre (A.putObj (w.heap.size + 1) o) := fun {O pre A} o h =>
  hI pre O O A _ h ((put_kept A o).mono fun k _ hk e => hk.2 (.inr e)) (fun _ h => h) (fun _ h => .inl h)
 have hIx' : ∀ {c O pre A} (o : Obj), Ix c O pre A → Ix c O pre (A.putObj (w.heap.size + 1) o) := fun {c O pre A} o h =>
  hIx c pre O O A _ h ((put_kept A o).mono fun k _ hk e => hk.2 (.inr e)) (fun _ h => h) (fun _ h => .inl h)
 obtain ⟨W1, hW1⟩ : ∃ W1, (w.alloc (.deferred (some []))).alloc (.loop (rec .ready none)) = W1 := ⟨_, rfl⟩
 have hE1 : Below w.heap.size w W1 := by rw [← hW1]; exact ((Below.refl _ w).alloc (Nat.le_refl _) _).alloc (by simp) _
 have hB1 : Bk W1 (rec .ready none) := by
  rw [← hW1]
  refine ⟨?_, (Below.heap_alloc _ _ _ (by simp)).trans (World.alloc_heap_new w _)⟩
  have := World.alloc_heap_new (w.alloc (.deferred (some []))) (.loop (rec .ready none)); rwa [World.size_alloc] at this
 have hs1 : W1.heap.size = w.heap.size + 2 := by rw [← hW1]; simp
 refine ⟨w.heap.size + 1, [{ target := .collected w.heap.size, args := #[] }], W1, { target := .fn (.func gf) lb, args := #[.func (.yield (w.heap.size + 1)) #[] #[]] }, W1, gf,
  #[.func (.yield (w.heap.size + 1)) #[] #[]] ++ lb, W1, ?_, ?_, fun _ _ => trivial, ?_, fun h => by simp [Fence.wide] at h, ?_⟩
 ·rw [← hW1, er]; exact run_enterLoop_outer _ _ _ _ _
 ·simp only [resolve, hg]
  simp [go_sem]
 ·simp [invoke, go_sem, eg]
 ·refine (hseq (n - 1) (w.heap.size + 1)
   (fun O pre W => I O pre W ∧ Bk W (rec .ready none) ∧ ∀ k, O k → w.heap.size + 2 ≤ k ∧ k < W.heap.size)
   (fun O pre W => ∃ c, Ix c O pre W ∧ Bk W (rec .done (some c)) ∧ ∀ k, O k → w.heap.size + 2 ≤ k ∧ k < W.heap.size)
   W1 (hb0.trans (hE1.mono hb0.size)) ?_ ?_ ?_ ⟨hI [] _ _ _ _ h0 (.of_below hE1) (fun _ h => h) (fun _ h => .inl h), hB1, fun _ h => h.elim⟩).mono ?_
  ·rintro pre O O' A B ⟨h1, h2, h3⟩ hk hO1 hO2
   have hlt := bk_lt h2
   have hO3 : ∀ k, O' k → w.heap.size + 2 ≤ k ∧ k < B.heap.size := fun k h => by
    have := hk.size
    rcases hO2 k h with h | h
    ·have := h3 k h; omega
    ·omega
   exact ⟨hI pre O O' A B h1 (hk.mono fun k _ h => ⟨h.1, fun h => h⟩) hO1 hO2, bk_kept h2 (hk.mono fun k _ h => ⟨fun ho => by have := h3 k ho; omega, fun h => h⟩), hO3⟩
  ·rintro pre O O' A B ⟨c, h1, h2, h3⟩ hk hO1 hO2
   have hlt := bk_lt h2
   have hO3 : ∀ k, O' k → w.heap.size + 2 ≤ k ∧ k < B.heap.size := fun k h => by
    have := hk.size
    rcases hO2 k h with h | h
    ·have := h3 k h; omega
    ·omega
   exact ⟨c, hIx c pre O O' A B h1 (hk.mono fun k _ h => ⟨h.1, fun h => h⟩) hO1 hO2, bk_kept h2 (hk.mono fun k _ h => ⟨fun ho => by have := h3 k ho; omega, fun h => h⟩), hO3⟩
  ·rintro O pre x W ⟨hi, hb, hO⟩ hlen
   have hlt := bk_lt hb
   have hy := run_yield (P := P) (args := encs x) hb.1 (by rw [er]; exact hps x)
   rw [er] at hy
   refine ⟨fn, _, assign, body, hy, roundIn_of_wpIn hfn ?_⟩
   refine wpIn_mono (hround (w.heap.size + 1) O pre x W hi (hs1 ▸ hlen) hO (by omega)) ?_
   rintro e a₁ W2 hp
   cases e with
   | normal =>
    obtain ⟨hE2, hm⟩ := hp
    have hb2 : Bk W2 (rec .ready none) := bk_kept hb (.of_below hE2)
    refine ⟨_, run_beginRound hb2.1 (by rw [er]), ?_⟩
    have hm3 := hm _ (put_kept W2 (.loop { rec .ready none with state := .busy }))
    have hb3 := bk_put { rec .ready none with state := .busy } hb2
    generalize hW3 : W2.putObj (w.heap.size + 1) (.loop { rec .ready none with state := .busy }) = W3 at hm3 hb3 ⊢
    have hk3 : Kept (fun k => k ≠ w.heap.size + 1) W W3 := by rw [← hW3]; exact (Kept.of_below hE2).trans (put_kept W2 _)
    have hO3 : ∀ k, O k → w.heap.size + 2 ≤ k ∧ k < W3.heap.size := fun k h => ⟨(hO k h).1, Nat.lt_of_lt_of_le (hO k h).2 hk3.size⟩
    refine wpIn_mono hm3 ?_
    have fin : ∀ (jump : Option Code) (W4 : World), Kept (fun k => k = w.heap.size + 1 ∨ k + 1 = w.heap.size + 1) W3 W4 →
      (Instr.endRound (w.heap.size + 1) jump).run P W4 = .ok (.bool jump.isNone) (W4.putObj (w.heap.size + 1) (.loop (rec (if jump.isNone then .ready else .done) jump))) ∧
      Bk (W4.putObj (w.heap.size + 1) (.loop (rec (if jump.isNone then .ready else .done) jump))) (rec (if jump.isNone then .ready else .done) jump) := fun jump W4 hk4 => by
     have hb4 := bk_kept hb3 hk4
     have hr := run_endRound (P := P) jump hb4.1
     refine ⟨?_, bk_put _ hb4⟩
     rw [hr]; simp only [er]
    rintro e a3 W4 hp
    cases e with
    | normal =>
     obtain ⟨hk4, hi4⟩ := hp
     obtain ⟨hr, hb5⟩ := fin none W4 (hk4.mono fun k _ h => .inr (.inr h))
     refine ⟨_, _, hr, .inl ⟨rfl, ⟨hI' _ hi4, hb5, fun k h => ⟨(hO k h).1, ?_⟩⟩, ?_⟩⟩
     ·have := (hO3 k h).2; have := hk4.size; simp; omega
     ·have hlt4 := hk4.size
      have hk3' : Kept (fun k => R k ∨ O k) W W3 := hk3.mono fun k _ h => by
       rcases h with h | h
       ·have := hR k h; omega
       ·have := hO k h; omega
      have hk4' : Kept (fun k => R k ∨ O k) W3 W4 := hk4.mono fun k _ h => h.elim .inl fun h => .inr (.inl h)
      refine (hk3'.trans hk4').trans ((put_kept W4 _).mono fun k _ h => ?_)
      rcases h with h | h
      ·have := hR k h; omega
      ·have := hO k h; omega
    | ret =>
     obtain ⟨hk4, hi4⟩ := hp
     obtain ⟨hr, hb5⟩ := fin (some .ret) W4 hk4
     exact ⟨_, _, hr, .inr ⟨rfl, .ret, hIx' _ hi4, hb5, fun k h => ⟨(hO k h).1, by have := (hO3 k h).2; have := hk4.size; simp; omega⟩⟩⟩
    | exit id =>
     obtain ⟨hk4, hi4⟩ := hp
     obtain ⟨hr, hb5⟩ := fin (some (.exit id)) W4 hk4
     exact ⟨_, _, hr, .inr ⟨rfl, .exit id, hIx' _ hi4, hb5, fun k h => ⟨(hO k h).1, by have := (hO3 k h).2; have := hk4.size; simp; omega⟩⟩⟩
    | goto t =>
     obtain ⟨hk4, hi4⟩ := hp
     obtain ⟨hr, hb5⟩ := fin (some (.goto t)) W4 hk4
     exact ⟨_, _, hr, .inr ⟨rfl, .goto t, hIx' _ hi4, hb5, fun k h => ⟨(hO k h).1, by have := (hO3 k h).2; have := hk4.size; simp; omega⟩⟩⟩
    | panic ch => exact hp.elim
    | outgrown => exact hp.elim
   | ret => exact hp.elim
   | exit id => exact hp.elim
   | goto t => exact hp.elim
   | panic ch => exact hp.elim
   | outgrown => exact hp.elim
  ·rintro e W2 ⟨⟨v, rfl⟩, (⟨O, xs, hS, hi, hb, _⟩ | ⟨O, pre, hSp, c, hi, hb, _⟩)⟩
   ·exact ⟨none, _, by have := run_endLoop (P := P) hb.1 (by rw [er]; simp); rw [er] at this; exact this, hdone _ O xs _ (Nat.le_refl _) hS (hI' _ hi) ((World.putObj_heap_other (by omega)).trans hb.2)⟩
   ·exact ⟨some c, _, by have := run_endLoop (P := P) hb.1 (by rw [er]; simp); rw [er] at this; exact this, hstop _ O c pre _ (Nat.le_refl _) hSp (hIx' _ hi) ((World.putObj_heap_other (by omega)).trans hb.2)⟩
end Go.Proofs.Ytphajlldghcnnaa
namespace Go.Proofs.Ytphajlldghcnnaa
open Go.RowKit Go.Shelf
attribute [local go_sem] Oper.semAt_some
/-- what the iterator reads -/
structure FinM (W : World) (bt p : Nat) (b : Bk) (sa : Option Addr) (scap : Nat) : Prop where
 ct : W.cell? ⟨bt, 0, none⟩ = some (.pointer (some ⟨p, 0, none⟩))
 c1 : W.cell? ⟨p, 1, none⟩ = some (.int .i64 b.n)
 c3 : W.cell? ⟨p, 3, none⟩ = some (.slice sa b.scr.length scap)
 ints : IsInts W .i64 (.slice sa b.scr.length scap) b.scr
set_option maxRecDepth 100000 in
set_option maxHeartbeats 8000000 in
theorem fins_iter (b : Bk) (hv : BVal b) (sa : Option Addr) (scap bt p : Nat) (R : Nat → Prop) (w0 : World) (_ : ∀ k, R k → k < w0.heap.size) (hM : ∀ W, Kept R w0 W → FinM W bt p b sa scap) :
  IterW Try.prog 98 #[.pointer (some ⟨bt, 0, none⟩)] (fun x : Value × List (List Int) => #[x.1]) R (fun xs => xs.map (·.2) = finsAll (runL b)) (fun _ => True)
   (fun B _ pre x W => (∃ rest, finsAll (runL b) = pre.map (·.2) ++ x.2 :: rest) ∧ ∃ ps, finsOf ps = x.2 ∧ LL W B x.1 ps) w0 := by
 have hL2 := runL_two hv
 have hL8 := runL_le hv
 obtain ⟨L, hL⟩ : ∃ L, L = runL b := ⟨_, rfl⟩
 rw [← hL] at hL2 hL8 ⊢
 have HL := Lib.hid hL
 clear hL
 intro n l J Jx W hW hJ hJx hY h0
 have hk0 : Kept R w0 W := (Kept.of_below hW).mono fun k hk _ => trivial
 obtain ⟨hct, k1, k3, hs⟩ := hM W hk0
 have hzt := World.block_lt_of_cell? _ _ hct
 simp only at hzt
 have HJ := Lib.hid hJ
 have HY := Lib.hid hY
 have HH0 := Lib.hid h0
 have HS := Lib.hid hs
 have HC1 := Lib.hid k1
 have HC3 := Lib.hid k3
 have HV := Lib.hid hv
 have hs0 := hW.size
 refine callsIn_of_wp Try.func98 rfl trivial ?_ rfl
 simp only [Try.ntmps98, List.size_toArray, List.length_cons, List.length_nil, Nat.reduceAdd, Nat.reduceSub, Array.replicate_succ, Array.replicate_zero, List.push_toArray, List.append_toArray, List.nil_append, List.cons_append]
 clear hJ hJx hY h0 hW hs k1 k3 hk0 hv hM
 gi_wp2_with fail
 refine ⟨trivial, fun h => (by simp [Fence.wide] at h), (callsIn_wide.2 (running_any b sa scap p W HV.out.n HC1.out HC3.out HS.out)).mono ?_⟩
 rintro e W1 ⟨lv, rfl, hE1, hown⟩
 rw [← HL.out] at hown
 obtain ⟨lb, lc, rfl, hlc1, hlc2, hlB, hN⟩ := hown.cellsN (by omega)
 obtain ⟨N, hNN⟩ : ∃ N, N = 2 ^ L.length := ⟨_, rfl⟩
 have hsh : IntKind.i64.wrap (2 ^ L.length) = (N : Int) := by rw [shlw8 hL8, hNN]
 have hN256 : N ≤ 256 := by rw [hNN]; exact (pow8 hL8).2
 have hN1 : 1 ≤ N := by rw [hNN]; exact (pow8 hL8).1
 have HN := Lib.hid hNN
 have HN1 := Lib.hid hN
 have HK1 := Lib.hid ((Kept.of_below hE1).mono (T := R) fun k _ _ => trivial : Kept R W W1)
 have HJ1 := Lib.hid (HJ.out [] (fun _ => False) (fun k => k = lb) W W1 HH0.out ((Kept.of_below hE1).mono fun k _ _ => trivial) (fun _ h => h.elim) (fun k hk => .inr ⟨by rw [hk]; exact hlB, by rw [hk]; exact hN.lt⟩))
 have hlw : w0.heap.size ≤ lb := by omega
 clear hct hzt hE1 hown hN hNN HC1 HC3 HS HH0
 gi_wp2_with fail
 gi_loopw [4] (fun iv wr => ∃ (f : Nat) (pre : List (Value × List (List Int))), 1 ≤ f ∧ f ≤ N ∧ iv = .int .i64 f ∧ pre.map (·.2) = finsTo L f ∧ J (fun k => k = lb) pre wr ∧ NumB wr lb L.length (gt L) ∧ Kept R W wr) (fun iv _ => N - (intOf iv).toNat)
 case atStart => exact ⟨1, [], by omega, by omega, rfl, rfl, HJ1.out, HN1.out, HK1.out⟩
 case round =>
  obtain ⟨f, pre, hf1, hfN, rfl, hpre, hj, hnum, hkp⟩ := hrel
  have HPRE0 := Lib.hid hpre
  have HJr0 := Lib.hid hj
  have HNr0 := Lib.hid hnum
  have HKr0 := Lib.hid hkp
  by_cases hltf : f < N
  ·have hfi : (f : Int) < (N : Int) := by omega
   clear hpre hj hnum hkp
   gi_wp2_with fail
   gi_loopw [22] (fun iv wr => ∃ (s : Nat) (pre : List (Value × List (List Int))), s ≤ N ∧ iv = .int .i64 s ∧ pre.map (·.2) = finsTo L f ++ finsOfF L f s ∧ J (fun k => k = lb) pre wr ∧ NumB wr lb L.length (gt L) ∧ Kept R W wr) (fun iv _ => N - (intOf iv).toNat)
   case atStart => exact ⟨0, pre, by omega, rfl, by rw [HPRE0.out]; simp [finsOfF], HJr0.out, HNr0.out, HKr0.out⟩
   case round =>
    obtain ⟨s, pre, hsN, rfl, hpre, hj, hnum, hkp⟩ := hrel
    have HPRE := Lib.hid hpre
    have HJr := Lib.hid hj
    have HNr := Lib.hid hnum
    have HKr := Lib.hid hkp
    clear HPRE0 HJr0 HNr0 HKr0
    by_cases hlts : s < N
    ·have hsi : (s : Int) < (N : Int) := by omega
     clear hpre hj hnum hkp
     have hand := bits_and f s (by omega) (by omega)
     obtain ⟨a, ha⟩ : ∃ a, a = f &&& s := ⟨_, rfl⟩
     rw [← ha] at hand
     have HA := Lib.hid ha
     clear ha
     by_cases ha0 : a = 0
     ·subst ha0
      by_cases hs0 : s = 0
      ·have hsz : ((s : Int) == 0) = true := by rw [beq_iff_eq]; omega
       by_cases hfe : f = N - 1
       ·have hfe' : ((f : Int) != (N : Int) - 1) = false := by rw [bne_eq_false_iff_eq]; omega
        have hok : okFS L.length f s = true := by
         unfold okFS
         rw [← HA.out, ← HN.out, hfe]; simp
        have HOK := Lib.hid hok
        clear hok hfe hs0
        obtain ⟨X, rfl⟩ : ∃ X, X = wr := ⟨_, rfl⟩
        obtain ⟨W2, hmk, hG2, hE2⟩ := make_lists X
        obtain ⟨gb, hgb⟩ : ∃ gb, gb = X.heap.size := ⟨_, rfl⟩
        rw [← hgb] at hmk
        have hG2' : GrpM W2 X.heap.size gb (fun _ => .slice none 0 0) (fun k => grpK L f s k 0) := by rw [hgb]; exact hG2
        have HG2 := Lib.hid hG2'
        have HE2 := Lib.hid hE2
        have hgbX : X.heap.size ≤ gb := by omega
        have hlbX := HNr.out.lt
        clear hgb hG2 hG2' hE2
        gi_wp2_with fail
        clear hmk
        gi_loopw [44] (fun iv Wi => ∃ (i : Nat) (vs : Nat → Value), i ≤ L.length ∧ iv = .int .i64 i ∧ GrpM Wi X.heap.size gb vs (fun k => grpK L f s k i) ∧ Ext X Wi) (fun iv _ => L.length - (intOf iv).toNat)
        case atStart => exact ⟨0, _, by omega, rfl, HG2.out, HE2.out⟩
        case round =>
         obtain ⟨i, vs, hi, rfl, hG, hEX⟩ := hrel
         obtain ⟨Wi, rfl⟩ : ∃ Wi, Wi = wr := ⟨_, rfl⟩
         have HG := Lib.hid hG
         have HEX := Lib.hid hEX
         have hlbi : lb < Wi.heap.size := by have := hEX.size; omega
         by_cases hlt2 : i < L.length
         ·have hii : (i : Int) < (L.length : Int) := by omega
          have c0 := cell_ext hEX (HNr.out.cell i hlt2)
          obtain ⟨r, hr⟩ : ∃ r, r = gt L i := ⟨_, rfl⟩
          rw [← hr] at c0
          have HR := Lib.hid hr
          have HLEN : ∀ j, Hid (((grpK L f s j i).map iRow).length + [[Value.int .i64 r]].length ≤ 1000000) := fun j => Lib.hid (by
           have := grpK_len L f s j i
           simp; omega)
          obtain ⟨fm, hfm⟩ : ∃ fm, fm = f >>> i := ⟨_, rfl⟩
          obtain ⟨sm, hsm⟩ : ∃ sm, sm = s >>> i := ⟨_, rfl⟩
          have hdf : (f : Int) / 2 ^ i = (fm : Int) := by rw [shr_nat, hfm]
          have hds : (s : Int) / 2 ^ i = (sm : Int) := by rw [shr_nat, hsm]
          have hfb : fm ≤ 256 := by rw [hfm, Nat.shiftRight_eq_div_pow]; exact Nat.le_trans (Nat.div_le_self _ _) (by omega)
          have hsb : sm ≤ 256 := by rw [hsm, Nat.shiftRight_eq_div_pow]; exact Nat.le_trans (Nat.div_le_self _ _) (by omega)
          have hbf := bits_and1 fm (by omega)
          have hbs := bits_and1 sm (by omega)
          have htf := bit_test f i
          have hts := bit_test s i
          rw [← hfm] at htf
          rw [← hsm] at hts
          have HTF := Lib.hid htf
          have HTS := Lib.hid hts
          clear hG hEX hr hfm hsm htf hts
          by_cases h0 : fm % 2 = 1
          ·rw [h0] at hbf
           have HT0 := Lib.hid (HTF.out.1 h0)
           clear h0 hbs
           have HLEN := HLEN 0
           have hpv : partV f s i = 0 := by unfold partV; rw [HT0.out]; rfl
           have HPV := Lib.hid hpv
           obtain ⟨xa, xn, xc, hx⟩ := (HG.out.own 0 (by omega)).isSlice
           have hcl := HG.out.cell 0 (by omega)
           have hfr := HG.out.free 0
           have hgl := HG.out.lt
           rw [hx] at hcl
           have HX := Lib.hid hx
           have HOWN := Lib.hid (HG.out.own 0 (by omega))
           rw [hx] at HOWN
           clear hpv hx
           gi_wp2_with (refine wpOwnIn rfl (.tmp 66) (.tmp 68) elInt rfl X.heap.size rfl (HOWN.out.ext (by exact xx)) Wi.heap.size 0 1 [[.int .i64 r]] rfl (by simp) (newRowAt _ [.int .i64 r] _ _ _ rfl rfl) (by simp [Value.oneCell']) HLEN.out (by simp; omega) ?_)
           intro v' W4 hown4 hk4 hat4
           obtain ⟨va, vn, vc, rfl⟩ := hown4.isSlice
           have hGa := HG.out.ext (W' := Wi.alloc (.cells #[.int .i64 r] 3)) (by exact xx)
           have hput := hGa.put (j := 0) (by omega) (v' := .slice va vn vc) (l := grpK L f s 0 i ++ [r]) (by simpa [iRow] using hown4) (by rw [HX.out]; exact hk4) (by rw [HX.out, World.size_alloc]; exact hat4)
           rw [HR.out, grp_step L f s i HPV.out] at hput
           have hob := HOWN.out.notOwn
           have hk5 : Ext X W4 := (HEX.out.trans' (by exact xx : Ext Wi (Wi.alloc (.cells #[.int .i64 r] 3)))).trans (Kept.below (hk4.mono (T := fun k => k < X.heap.size) fun k _ hk e => by have := hob k e.symm; omega) (by have := HEX.out.size; simp; omega))
           have hcl4 : W4.cell? ⟨gb, 0, none⟩ = some (.slice xa xn xc) := by
            have := hk4.cell (hGa.cell 0 (by omega)) (fun e => hGa.other (j := 0) (by omega) (by rw [HX.out]; exact e.symm))
            rw [this, HX.out]
           have hfr4 : W4.frozen? ⟨gb, 0, none⟩ = false := by
            obtain ⟨cur, q1, _⟩ := hGa.blk
            have q2 := (hk4.same gb hGa.lt (fun e => hGa.other (j := 0) (by omega) (by rw [HX.out]; exact e.symm))).trans q1
            simp [World.frozen?, q2]
           have HPUT := Lib.hid hput
           have HK5 := Lib.hid hk5
           have hgl4 : gb < W4.heap.size := by have := hk4.size; simp at this; omega
           clear hown4 hk4 hat4 hGa hput hob hk5 hcl hfr HOWN
           gi_wp2_with fail
           go_roundw
           case rel =>
            exact ⟨i + 1, _, by omega, by go_num, HPUT.out, HK5.out.setCell (by show X.heap.size ≤ gb; omega) _⟩
           case measure => simp [intOf]; omega
          ·have h0' : fm % 2 = 0 := by omega
           rw [h0'] at hbf
           have HT0 := Lib.hid (fun e => h0 (HTF.out.2 e))
           clear h0 h0'
           by_cases h1 : sm % 2 = 1
           ·rw [h1] at hbs
            have HT1 := Lib.hid (HTS.out.1 h1)
            clear h1
            have HLEN := HLEN 1
            have hpv : partV f s i = 1 := by unfold partV; rw [if_neg HT0.out, HT1.out]; rfl
            have HPV := Lib.hid hpv
            obtain ⟨xa, xn, xc, hx⟩ := (HG.out.own 1 (by omega)).isSlice
            have hcl := HG.out.cell 1 (by omega)
            have hfr := HG.out.free 1
            have hgl := HG.out.lt
            rw [hx] at hcl
            have HX := Lib.hid hx
            have HOWN := Lib.hid (HG.out.own 1 (by omega))
            rw [hx] at HOWN
            clear hpv hx
            gi_wp2_with (refine wpOwnIn rfl (.tmp 80) (.tmp 82) elInt rfl X.heap.size rfl (HOWN.out.ext (by exact xx)) Wi.heap.size 0 1 [[.int .i64 r]] rfl (by simp) (newRowAt _ [.int .i64 r] _ _ _ rfl rfl) (by simp [Value.oneCell']) HLEN.out (by simp; omega) ?_)
            intro v' W4 hown4 hk4 hat4
            obtain ⟨va, vn, vc, rfl⟩ := hown4.isSlice
            have hGa := HG.out.ext (W' := Wi.alloc (.cells #[.int .i64 r] 3)) (by exact xx)
            have hput := hGa.put (j := 1) (by omega) (v' := .slice va vn vc) (l := grpK L f s 1 i ++ [r]) (by simpa [iRow] using hown4) (by rw [HX.out]; exact hk4) (by rw [HX.out, World.size_alloc]; exact hat4)
            rw [HR.out, grp_step L f s i HPV.out] at hput
            have hob := HOWN.out.notOwn
            have hk5 : Ext X W4 := (HEX.out.trans' (by exact xx : Ext Wi (Wi.alloc (.cells #[.int .i64 r] 3)))).trans (Kept.below (hk4.mono (T := fun k => k < X.heap.size) fun k _ hk e => by have := hob k e.symm; omega) (by have := HEX.out.size; simp; omega))
            have hcl4 : W4.cell? ⟨gb, 1, none⟩ = some (.slice xa xn xc) := by
             have := hk4.cell (hGa.cell 1 (by omega)) (fun e => hGa.other (j := 1) (by omega) (by rw [HX.out]; exact e.symm))
             rw [this, HX.out]
            have hfr4 : W4.frozen? ⟨gb, 1, none⟩ = false := by
             obtain ⟨cur, q1, _⟩ := hGa.blk
             have q2 := (hk4.same gb hGa.lt (fun e => hGa.other (j := 1) (by omega) (by rw [HX.out]; exact e.symm))).trans q1
             simp [World.frozen?, q2]
            have HPUT := Lib.hid hput
            have HK5 := Lib.hid hk5
            have hgl4 : gb < W4.heap.size := by have := hk4.size; simp at this; omega
            clear hown4 hk4 hat4 hGa hput hob hk5 hcl hfr HOWN
            gi_wp2_with fail
            go_roundw
            case rel =>
             exact ⟨i + 1, _, by omega, by go_num, HPUT.out, HK5.out.setCell (by show X.heap.size ≤ gb; omega) _⟩
            case measure => simp [intOf]; omega
           ·have h1' : sm % 2 = 0 := by omega
            rw [h1'] at hbs
            have HT1 := Lib.hid (fun e => h1 (HTS.out.2 e))
            clear h1 h1'
            have HLEN := HLEN 2
            have hpv : partV f s i = 2 := by unfold partV; rw [if_neg HT0.out, if_neg HT1.out]
            have HPV := Lib.hid hpv
            obtain ⟨xa, xn, xc, hx⟩ := (HG.out.own 2 (by omega)).isSlice
            have hcl := HG.out.cell 2 (by omega)
            have hfr := HG.out.free 2
            have hgl := HG.out.lt
            rw [hx] at hcl
            have HX := Lib.hid hx
            have HOWN := Lib.hid (HG.out.own 2 (by omega))
            rw [hx] at HOWN
            clear hpv hx
            gi_wp2_with (refine wpOwnIn rfl (.tmp 52) (.tmp 54) elInt rfl X.heap.size rfl (HOWN.out.ext (by exact xx)) Wi.heap.size 0 1 [[.int .i64 r]] rfl (by simp) (newRowAt _ [.int .i64 r] _ _ _ rfl rfl) (by simp [Value.oneCell']) HLEN.out (by simp; omega) ?_)
            intro v' W4 hown4 hk4 hat4
            obtain ⟨va, vn, vc, rfl⟩ := hown4.isSlice
            have hGa := HG.out.ext (W' := Wi.alloc (.cells #[.int .i64 r] 3)) (by exact xx)
            have hput := hGa.put (j := 2) (by omega) (v' := .slice va vn vc) (l := grpK L f s 2 i ++ [r]) (by simpa [iRow] using hown4) (by rw [HX.out]; exact hk4) (by rw [HX.out, World.size_alloc]; exact hat4)
            rw [HR.out, grp_step L f s i HPV.out] at hput
            have hob := HOWN.out.notOwn
            have hk5 : Ext X W4 := (HEX.out.trans' (by exact xx : Ext Wi (Wi.alloc (.cells #[.int .i64 r] 3)))).trans (Kept.below (hk4.mono (T := fun k => k < X.heap.size) fun k _ hk e => by have := hob k e.symm; omega) (by have := HEX.out.size; simp; omega))
            have hcl4 : W4.cell? ⟨gb, 2, none⟩ = some (.slice xa xn xc) := by
             have := hk4.cell (hGa.cell 2 (by omega)) (fun e => hGa.other (j := 2) (by omega) (by rw [HX.out]; exact e.symm))
             rw [this, HX.out]
            have hfr4 : W4.frozen? ⟨gb, 2, none⟩ = false := by
             obtain ⟨cur, q1, _⟩ := hGa.blk
             have q2 := (hk4.same gb hGa.lt (fun e => hGa.other (j := 2) (by omega) (by rw [HX.out]; exact e.symm))).trans q1
             simp [World.frozen?, q2]
            have HPUT := Lib.hid hput
            have HK5 := Lib.hid hk5
            have hgl4 : gb < W4.heap.size := by have := hk4.size; simp at this; omega
            clear hown4 hk4 hat4 hGa hput hob hk5 hcl hfr HOWN
            gi_wp2_with fail
            go_roundw
            case rel =>
             exact ⟨i + 1, _, by omega, by go_num, HPUT.out, HK5.out.setCell (by show X.heap.size ≤ gb; omega) _⟩
            case measure => simp [intOf]; omega
         ·have hii : ¬ ((i : Int) < (L.length : Int)) := by omega
          obtain rfl : i = L.length := by omega
          have hll := HG.out.ll
          have HLL := Lib.hid hll
          have hdel := delete_some (grpPs vs fun k => grpK L f s k L.length) gb 3 100 #[] (fun x => x.2.isEmpty) X.heap.size Wi hll (enters_of Try.func100 (by kernel_rfl) rfl)
           (fun x hx W' hW' => finsEmpty_any x.1 x.2 W' ((HLL.out.each x hx).keep (by decide) HLL.out.own (by rw [ownBlock_some]; exact hW')).oneInts)
          have HDEL := Lib.hid hdel
          clear hG hll hdel
          gi_wp2_with fail
          refine ⟨trivial, fun h => (by simp [Fence.wide] at h), (callsIn_wide.2 HDEL.out).mono ?_⟩
          rintro e W5 ⟨v5, rfl, hk5, hll5⟩
          have hE5 : Ext X W5 := ext_kept HEX.out hk5 hgbX
          obtain ⟨rest, hrest⟩ := finsAll_at (L := L) (f := f) (s := s) hf1 (by rw [← HN.out]; exact hltf) (by rw [← HN.out]; exact hlts) HOK.out
          obtain ⟨xa, xn, xc, rfl⟩ := hll5.own.isSlice
          have hj5 := (HJ.out _).ext HJr.out hE5
          have hy := HY.out (fun k => k = lb) pre (.slice xa xn xc, finsK L f s) W5 hj5 ⟨⟨rest, by rw [HPRE.out]; exact hrest⟩, _, ps_fins vs L f s, hll5.base HKr.out.size⟩
          have HN5 := Lib.hid (HNr.out.of_heap (hE5.block lb hlbX))
          have HK5 := Lib.hid (HKr.out.trans ((Kept.of_below hE5).mono (T := R) fun k _ _ => trivial))
          clear hEX hk5 hll5 hE5 hrest hj5
          obtain ⟨fn, tmps, assign, body, hy, hR2⟩ := hy
          gi_wp2_with fail
          refine ⟨fun h => (by simp [Fence.wide] at h), hR2.mono ?_⟩
          clear hy hR2
          rintro e W6 (⟨rfl, hj6, hk6⟩ | ⟨rfl, hj6⟩)
          ·have HJ6 := Lib.hid hj6
           have HN6 := Lib.hid (HN5.out.of_heap (hk6.same _ HN5.out.lt (.inr rfl)))
           have HK6 := Lib.hid (HK5.out.trans (hk6.mono (T := R) fun _ _ h => .inl h))
           clear hj6 hk6
           gi_wp2_with fail
           go_roundw
           case rel => exact ⟨s + 1, _, by omega, by go_num, by rw [List.map_append, HPRE.out, finsOfF_succ, if_pos HOK.out, List.append_assoc]; rfl, HJ6.out, HN6.out, HK6.out⟩
           case measure => simp [intOf]; omega
          ·have HJ6 := Lib.hid hj6
           clear hj6
           gi_wp2_with fail
           refine bodyPost_ret (results_none rfl _ _ _) rfl ?_
           exact ⟨⟨_, rfl⟩, .inr ⟨_, _, trivial, HJ6.out⟩⟩
       ·have hfe' : ((f : Int) != (N : Int) - 1) = true := by rw [bne_iff_ne]; omega
        have hok : okFS L.length f s = false := by
         unfold okFS
         rw [← HN.out, decide_eq_false hfe, hs0]; simp
        clear hs0 hfe
        have HOK := Lib.hid hok
        clear hok
        gi_wp2_with fail
        go_roundw
        case rel => exact ⟨s + 1, pre, by omega, by go_num, by rw [HPRE.out, finsOfF_succ, if_neg (by rw [HOK.out]; simp), List.append_nil], HJr.out, HNr.out, HKr.out⟩
        case measure => simp [intOf]; omega
      ·have hsz : ((s : Int) == 0) = false := by rw [beq_eq_false_iff_ne]; omega
       have hok : okFS L.length f s = true := by
        unfold okFS
        rw [← HA.out, decide_eq_true (show s ≠ 0 from hs0)]; simp
       have HOK := Lib.hid hok
       clear hok
       obtain ⟨X, rfl⟩ : ∃ X, X = wr := ⟨_, rfl⟩
       obtain ⟨W2, hmk, hG2, hE2⟩ := make_lists X
       obtain ⟨gb, hgb⟩ : ∃ gb, gb = X.heap.size := ⟨_, rfl⟩
       rw [← hgb] at hmk
       have hG2' : GrpM W2 X.heap.size gb (fun _ => .slice none 0 0) (fun k => grpK L f s k 0) := by rw [hgb]; exact hG2
       have HG2 := Lib.hid hG2'
       have HE2 := Lib.hid hE2
       have hgbX : X.heap.size ≤ gb := by omega
       have hlbX := HNr.out.lt
       clear hgb hG2 hG2' hE2
       gi_wp2_with fail
       clear hmk
       gi_loopw [44] (fun iv Wi => ∃ (i : Nat) (vs : Nat → Value), i ≤ L.length ∧ iv = .int .i64 i ∧ GrpM Wi X.heap.size gb vs (fun k => grpK L f s k i) ∧ Ext X Wi) (fun iv _ => L.length - (intOf iv).toNat)
       case atStart => exact ⟨0, _, by omega, rfl, HG2.out, HE2.out⟩
       case round =>
        obtain ⟨i, vs, hi, rfl, hG, hEX⟩ := hrel
        obtain ⟨Wi, rfl⟩ : ∃ Wi, Wi = wr := ⟨_, rfl⟩
        have HG := Lib.hid hG
        have HEX := Lib.hid hEX
        have hlbi : lb < Wi.heap.size := by have := hEX.size; omega
        by_cases hlt2 : i < L.length
        ·have hii : (i : Int) < (L.length : Int) := by omega
         have c0 := cell_ext hEX (HNr.out.cell i hlt2)
         obtain ⟨r, hr⟩ : ∃ r, r = gt L i := ⟨_, rfl⟩
         rw [← hr] at c0
         have HR := Lib.hid hr
         have HLEN : ∀ j, Hid (((grpK L f s j i).map iRow).length + [[Value.int .i64 r]].length ≤ 1000000) := fun j => Lib.hid (by
          have := grpK_len L f s j i
          simp; omega)
         obtain ⟨fm, hfm⟩ : ∃ fm, fm = f >>> i := ⟨_, rfl⟩
         obtain ⟨sm, hsm⟩ : ∃ sm, sm = s >>> i := ⟨_, rfl⟩
         have hdf : (f : Int) / 2 ^ i = (fm : Int) := by rw [shr_nat, hfm]
         have hds : (s : Int) / 2 ^ i = (sm : Int) := by rw [shr_nat, hsm]
         have hfb : fm ≤ 256 := by rw [hfm, Nat.shiftRight_eq_div_pow]; exact Nat.le_trans (Nat.div_le_self _ _) (by omega)
         have hsb : sm ≤ 256 := by rw [hsm, Nat.shiftRight_eq_div_pow]; exact Nat.le_trans (Nat.div_le_self _ _) (by omega)
         have hbf := bits_and1 fm (by omega)
         have hbs := bits_and1 sm (by omega)
         have htf := bit_test f i
         have hts := bit_test s i
         rw [← hfm] at htf
         rw [← hsm] at hts
         have HTF := Lib.hid htf
         have HTS := Lib.hid hts
         clear hG hEX hr hfm hsm htf hts
         by_cases h0 : fm % 2 = 1
         ·rw [h0] at hbf
          have HT0 := Lib.hid (HTF.out.1 h0)
          clear h0 hbs
          have HLEN := HLEN 0
          have hpv : partV f s i = 0 := by unfold partV; rw [HT0.out]; rfl
          have HPV := Lib.hid hpv
          obtain ⟨xa, xn, xc, hx⟩ := (HG.out.own 0 (by omega)).isSlice
          have hcl := HG.out.cell 0 (by omega)
          have hfr := HG.out.free 0
          have hgl := HG.out.lt
          rw [hx] at hcl
          have HX := Lib.hid hx
          have HOWN := Lib.hid (HG.out.own 0 (by omega))
          rw [hx] at HOWN
          clear hpv hx
          gi_wp2_with (refine wpOwnIn rfl (.tmp 66) (.tmp 68) elInt rfl X.heap.size rfl (HOWN.out.ext (by exact xx)) Wi.heap.size 0 1 [[.int .i64 r]] rfl (by simp) (newRowAt _ [.int .i64 r] _ _ _ rfl rfl) (by simp [Value.oneCell']) HLEN.out (by simp; omega) ?_)
          intro v' W4 hown4 hk4 hat4
          obtain ⟨va, vn, vc, rfl⟩ := hown4.isSlice
          have hGa := HG.out.ext (W' := Wi.alloc (.cells #[.int .i64 r] 3)) (by exact xx)
          have hput := hGa.put (j := 0) (by omega) (v' := .slice va vn vc) (l := grpK L f s 0 i ++ [r]) (by simpa [iRow] using hown4) (by rw [HX.out]; exact hk4) (by rw [HX.out, World.size_alloc]; exact hat4)
          rw [HR.out, grp_step L f s i HPV.out] at hput
          have hob := HOWN.out.notOwn
          have hk5 : Ext X W4 := (HEX.out.trans' (by exact xx : Ext Wi (Wi.alloc (.cells #[.int .i64 r] 3)))).trans (Kept.below (hk4.mono (T := fun k => k < X.heap.size) fun k _ hk e => by have := hob k e.symm; omega) (by have := HEX.out.size; simp; omega))
          have hcl4 : W4.cell? ⟨gb, 0, none⟩ = some (.slice xa xn xc) := by
           have := hk4.cell (hGa.cell 0 (by omega)) (fun e => hGa.other (j := 0) (by omega) (by rw [HX.out]; exact e.symm))
           rw [this, HX.out]
          have hfr4 : W4.frozen? ⟨gb, 0, none⟩ = false := by
           obtain ⟨cur, q1, _⟩ := hGa.blk
           have q2 := (hk4.same gb hGa.lt (fun e => hGa.other (j := 0) (by omega) (by rw [HX.out]; exact e.symm))).trans q1
           simp [World.frozen?, q2]
          have HPUT := Lib.hid hput
          have HK5 := Lib.hid hk5
          have hgl4 : gb < W4.heap.size := by have := hk4.size; simp at this; omega
          clear hown4 hk4 hat4 hGa hput hob hk5 hcl hfr HOWN
          gi_wp2_with fail
          go_roundw
          case rel =>
           exact ⟨i + 1, _, by omega, by go_num, HPUT.out, HK5.out.setCell (by show X.heap.size ≤ gb; omega) _⟩
          case measure => simp [intOf]; omega
         ·have h0' : fm % 2 = 0 := by omega
          rw [h0'] at hbf
          have HT0 := Lib.hid (fun e => h0 (HTF.out.2 e))
          clear h0 h0'
          by_cases h1 : sm % 2 = 1
          ·rw [h1] at hbs
           have HT1 := Lib.hid (HTS.out.1 h1)
           clear h1
           have HLEN := HLEN 1
           have hpv : partV f s i = 1 := by unfold partV; rw [if_neg HT0.out, HT1.out]; rfl
           have HPV := Lib.hid hpv
           obtain ⟨xa, xn, xc, hx⟩ := (HG.out.own 1 (by omega)).isSlice
           have hcl := HG.out.cell 1 (by omega)
           have hfr := HG.out.free 1
           have hgl := HG.out.lt
           rw [hx] at hcl
           have HX := Lib.hid hx
           have HOWN := Lib.hid (HG.out.own 1 (by omega))
           rw [hx] at HOWN
           clear hpv hx
           gi_wp2_with (refine wpOwnIn rfl (.tmp 80) (.tmp 82) elInt rfl X.heap.size rfl (HOWN.out.ext (by exact xx)) Wi.heap.size 0 1 [[.int .i64 r]] rfl (by simp) (newRowAt _ [.int .i64 r] _ _ _ rfl rfl) (by simp [Value.oneCell']) HLEN.out (by simp; omega) ?_)
           intro v' W4 hown4 hk4 hat4
           obtain ⟨va, vn, vc, rfl⟩ := hown4.isSlice
           have hGa := HG.out.ext (W' := Wi.alloc (.cells #[.int .i64 r] 3)) (by exact xx)
           have hput := hGa.put (j := 1) (by omega) (v' := .slice va vn vc) (l := grpK L f s 1 i ++ [r]) (by simpa [iRow] using hown4) (by rw [HX.out]; exact hk4) (by rw [HX.out, World.size_alloc]; exact hat4)
           rw [HR.out, grp_step L f s i HPV.out] at hput
           have hob := HOWN.out.notOwn
           have hk5 : Ext X W4 := (HEX.out.trans' (by exact xx : Ext Wi (Wi.alloc (.cells #[.int .i64 r] 3)))).trans (Kept.below (hk4.mono (T := fun k => k < X.heap.size) fun k _ hk e => by have := hob k e.symm; omega) (by have := HEX.out.size; simp; omega))
           have hcl4 : W4.cell? ⟨gb, 1, none⟩ = some (.slice xa xn xc) := by
            have := hk4.cell (hGa.cell 1 (by omega)) (fun e => hGa.other (j := 1) (by omega) (by rw [HX.out]; exact e.symm))
            rw [this, HX.out]
           have hfr4 : W4.frozen? ⟨gb, 1, none⟩ = false := by
            obtain ⟨cur, q1, _⟩ := hGa.blk
            have q2 := (hk4.same gb hGa.lt (fun e => hGa.other (j := 1) (by omega) (by rw [HX.out]; exact e.symm))).trans q1
            simp [World.frozen?, q2]
           have HPUT := Lib.hid hput
           have HK5 := Lib.hid hk5
           have hgl4 : gb < W4.heap.size := by have := hk4.size; simp at this; omega
           clear hown4 hk4 hat4 hGa hput hob hk5 hcl hfr HOWN
           gi_wp2_with fail
           go_roundw
           case rel =>
            exact ⟨i + 1, _, by omega, by go_num, HPUT.out, HK5.out.setCell (by show X.heap.size ≤ gb; omega) _⟩
           case measure => simp [intOf]; omega
          ·have h1' : sm % 2 = 0 := by omega
           rw [h1'] at hbs
           have HT1 := Lib.hid (fun e => h1 (HTS.out.2 e))
           clear h1 h1'
           have HLEN := HLEN 2
           have hpv : partV f s i = 2 := by unfold partV; rw [if_neg HT0.out, if_neg HT1.out]
           have HPV := Lib.hid hpv
           obtain ⟨xa, xn, xc, hx⟩ := (HG.out.own 2 (by omega)).isSlice
           have hcl := HG.out.cell 2 (by omega)
           have hfr := HG.out.free 2
           have hgl := HG.out.lt
           rw [hx] at hcl
           have HX := Lib.hid hx
           have HOWN := Lib.hid (HG.out.own 2 (by omega))
           rw [hx] at HOWN
           clear hpv hx
           gi_wp2_with (refine wpOwnIn rfl (.tmp 52) (.tmp 54) elInt rfl X.heap.size rfl (HOWN.out.ext (by exact xx)) Wi.heap.size 0 1 [[.int .i64 r]] rfl (by simp) (newRowAt _ [.int .i64 r] _ _ _ rfl rfl) (by simp [Value.oneCell']) HLEN.out (by simp; omega) ?_)
           intro v' W4 hown4 hk4 hat4
           obtain ⟨va, vn, vc, rfl⟩ := hown4.isSlice
           have hGa := HG.out.ext (W' := Wi.alloc (.cells #[.int .i64 r] 3)) (by exact xx)
           have hput := hGa.put (j := 2) (by omega) (v' := .slice va vn vc) (l := grpK L f s 2 i ++ [r]) (by simpa [iRow] using hown4) (by rw [HX.out]; exact hk4) (by rw [HX.out, World.size_alloc]; exact hat4)
           rw [HR.out, grp_step L f s i HPV.out] at hput
           have hob := HOWN.out.notOwn
           have hk5 : Ext X W4 := (HEX.out.trans' (by exact xx : Ext Wi (Wi.alloc (.cells #[.int .i64 r] 3)))).trans (Kept.below (hk4.mono (T := fun k => k < X.heap.size) fun k _ hk e => by have := hob k e.symm; omega) (by have := HEX.out.size; simp; omega))
           have hcl4 : W4.cell? ⟨gb, 2, none⟩ = some (.slice xa xn xc) := by
            have := hk4.cell (hGa.cell 2 (by omega)) (fun e => hGa.other (j := 2) (by omega) (by rw [HX.out]; exact e.symm))
            rw [this, HX.out]
           have hfr4 : W4.frozen? ⟨gb, 2, none⟩ = false := by
            obtain ⟨cur, q1, _⟩ := hGa.blk
            have q2 := (hk4.same gb hGa.lt (fun e => hGa.other (j := 2) (by omega) (by rw [HX.out]; exact e.symm))).trans q1
            simp [World.frozen?, q2]
           have HPUT := Lib.hid hput
           have HK5 := Lib.hid hk5
           have hgl4 : gb < W4.heap.size := by have := hk4.size; simp at this; omega
           clear hown4 hk4 hat4 hGa hput hob hk5 hcl hfr HOWN
           gi_wp2_with fail
           go_roundw
           case rel =>
            exact ⟨i + 1, _, by omega, by go_num, HPUT.out, HK5.out.setCell (by show X.heap.size ≤ gb; omega) _⟩
           case measure => simp [intOf]; omega
        ·have hii : ¬ ((i : Int) < (L.length : Int)) := by omega
         obtain rfl : i = L.length := by omega
         have hll := HG.out.ll
         have HLL := Lib.hid hll
         have hdel := delete_some (grpPs vs fun k => grpK L f s k L.length) gb 3 100 #[] (fun x => x.2.isEmpty) X.heap.size Wi hll (enters_of Try.func100 (by kernel_rfl) rfl)
          (fun x hx W' hW' => finsEmpty_any x.1 x.2 W' ((HLL.out.each x hx).keep (by decide) HLL.out.own (by rw [ownBlock_some]; exact hW')).oneInts)
         have HDEL := Lib.hid hdel
         clear hG hll hdel
         gi_wp2_with fail
         refine ⟨trivial, fun h => (by simp [Fence.wide] at h), (callsIn_wide.2 HDEL.out).mono ?_⟩
         rintro e W5 ⟨v5, rfl, hk5, hll5⟩
         have hE5 : Ext X W5 := ext_kept HEX.out hk5 hgbX
         obtain ⟨rest, hrest⟩ := finsAll_at (L := L) (f := f) (s := s) hf1 (by rw [← HN.out]; exact hltf) (by rw [← HN.out]; exact hlts) HOK.out
         obtain ⟨xa, xn, xc, rfl⟩ := hll5.own.isSlice
         have hj5 := (HJ.out _).ext HJr.out hE5
         have hy := HY.out (fun k => k = lb) pre (.slice xa xn xc, finsK L f s) W5 hj5 ⟨⟨rest, by rw [HPRE.out]; exact hrest⟩, _, ps_fins vs L f s, hll5.base HKr.out.size⟩
         have HN5 := Lib.hid (HNr.out.of_heap (hE5.block lb hlbX))
         have HK5 := Lib.hid (HKr.out.trans ((Kept.of_below hE5).mono (T := R) fun k _ _ => trivial))
         clear hEX hk5 hll5 hE5 hrest hj5
         obtain ⟨fn, tmps, assign, body, hy, hR2⟩ := hy
         gi_wp2_with fail
         refine ⟨fun h => (by simp [Fence.wide] at h), hR2.mono ?_⟩
         clear hy hR2
         rintro e W6 (⟨rfl, hj6, hk6⟩ | ⟨rfl, hj6⟩)
         ·have HJ6 := Lib.hid hj6
          have HN6 := Lib.hid (HN5.out.of_heap (hk6.same _ HN5.out.lt (.inr rfl)))
          have HK6 := Lib.hid (HK5.out.trans (hk6.mono (T := R) fun _ _ h => .inl h))
          clear hj6 hk6
          gi_wp2_with fail
          go_roundw
          case rel => exact ⟨s + 1, _, by omega, by go_num, by rw [List.map_append, HPRE.out, finsOfF_succ, if_pos HOK.out, List.append_assoc]; rfl, HJ6.out, HN6.out, HK6.out⟩
          case measure => simp [intOf]; omega
         ·have HJ6 := Lib.hid hj6
          clear hj6
          gi_wp2_with fail
          refine bodyPost_ret (results_none rfl _ _ _) rfl ?_
          exact ⟨⟨_, rfl⟩, .inr ⟨_, _, trivial, HJ6.out⟩⟩
     ·have haz : ((a : Int) != 0) = true := by rw [bne_iff_ne]; omega
      have hok : okFS L.length f s = false := by
       unfold okFS
       rw [← HA.out, decide_eq_false ha0]; simp
      have HOK := Lib.hid hok
      clear hok
      gi_wp2_with fail
      ·rename_i h1 h2
       cases h1
      all_goals
       go_roundw
       case rel => exact ⟨s + 1, pre, by omega, by go_num, by rw [HPRE.out, finsOfF_succ, if_neg (by rw [HOK.out]; simp), List.append_nil], HJr.out, HNr.out, HKr.out⟩
       case measure => simp [intOf]; omega
    ·have hsi : ¬ ((s : Int) < (N : Int)) := by omega
     obtain rfl : s = N := by omega
     clear hpre hj hnum hkp
     gi_wp2_with fail
     go_roundw
     case rel => exact ⟨f + 1, pre, by omega, by omega, by go_num, by rw [HPRE.out, finsTo_succ _ _ hf1, ← HN.out], HJr.out, HNr.out, HKr.out⟩
     case measure => simp [intOf]; omega
  ·have hfi : ¬ ((f : Int) < (N : Int)) := by omega
   have hfe : f = N := by omega
   have hpre2 : pre.map (·.2) = finsAll L := by rw [hpre, hfe, HN.out]; rfl
   have HPA := Lib.hid hpre2
   clear hpre hj hnum hkp hfe hpre2
   gi_wp2_with fail
   go_end0
   exact ⟨⟨_, rfl⟩, .inl ⟨_, _, HPA.out, HJr0.out⟩⟩
end Go.Proofs.Ytphajlldghcnnaa
namespace Go.Proofs.Ytphajlldghcnnaa
open Go.RowKit Go.Shelf
def minP (l : List Int) : Int := l.foldl min (gt l 0)
def maxP (l : List Int) : Int := l.foldl max (gt l 0)
theorem fold_take {f : Int → Int → Int} {l : List Int} {k : Nat} (h : k < l.length) (a : Int) : (l.take (k + 1)).foldl f a = f ((l.take k).foldl f a) (gt l k) := by
 rw [List.take_add_one, List.getElem?_eq_getElem h, List.foldl_append, ← gt_get h]; rfl
theorem fold_one {f : Int → Int → Int} (hf : ∀ a, f a a = a) {l : List Int} (h : 0 < l.length) : (l.take 1).foldl f (gt l 0) = gt l 0 := by
 rw [fold_take h]; simp [hf]
theorem min_if (a y : Int) : (if y < a then y else a) = min a y := by split <;> omega
theorem max_if (a y : Int) : (if a < y then y else a) = max a y := by split <;> omega
set_option maxRecDepth 100000 in
set_option maxHeartbeats 1000000 in
theorem min_any (l : List Int) (v : Value) (w : World) (hv : IsInts w .i64 v l) (h0 : 0 < l.length) :
  Calls Try.prog 77 #[v] w fun e w' => e = .returned (.int .i64 (minP l)) ∧ Ext w w' := by
 obtain ⟨va, cap, rfl, h1, h2, hc⟩ := hv.spec
 rcases hc with hc | ⟨b, off, rfl, hc⟩
 ·rw [hc] at h0; simp at h0
 have c0 := hc 0 h0
 rw [Nat.add_zero, gt_get h0] at c0
 have HC := Lib.hid hc
 have hz0 := World.block_lt_of_cell? _ _ c0
 simp only at hz0
 have hl0 : (0 : Int) < (l.length : Int) := by omega
 have hl1 : ¬ ((l.length : Int) < 1) := by omega
 have hl2 : decide ((l.length : Int) < 1) = false := decide_eq_false hl1
 clear hc hv
 go_enter Try.func77, Try.ntmps77
 go_wp2_with fail
 go_loopw [3, 4] (fun mv iv W => ∃ k : Nat, 1 ≤ k ∧ k ≤ l.length ∧ iv = .int .i64 k ∧ mv = .int .i64 ((l.take k).foldl min (gt l 0)) ∧ Ext w W) (fun _ iv _ => l.length - (intOf iv).toNat)
 case atStart => exact ⟨1, Nat.le_refl _, by omega, rfl, by rw [fold_one (f := min) (fun a => by simp) h0], by exact xx⟩
 case round =>
  obtain ⟨k, hk1, hk, rfl, rfl, hE⟩ := hrel
  have HE := Lib.hid hE
  by_cases hlt : k < l.length
  ·have hki : (k : Int) < (l.length : Int) := by omega
   have ck := cell_ext hE (HC.out k hlt)
   rw [gt_get] at ck
   have hzk := World.block_lt_of_cell? _ _ ck
   simp only at hzk
   have hft := fold_take (f := min) hlt (gt l 0)
   obtain ⟨A, hA⟩ : ∃ A, A = (l.take k).foldl min (gt l 0) := ⟨_, rfl⟩
   obtain ⟨y, hy⟩ : ∃ y, y = gt l k := ⟨_, rfl⟩
   rw [← hA, ← hy] at hft
   rw [← hA]
   rw [← hy] at ck
   have HFT := Lib.hid hft
   clear hA hy hft hE
   go_wp2_with fail
   go_roundw
   case rel => exact ⟨k + 1, by omega, by omega, by go_num, by rw [HFT.out, ← min_if A y], HE.out.trans' (by exact xx)⟩
   case measure => simp [intOf]; omega
  ·have hki : ¬ ((k : Int) < (l.length : Int)) := by omega
   have hke : k = l.length := by omega
   have hA : (l.take k).foldl min (gt l 0) = minP l := by rw [hke, List.take_length]; rfl
   rw [hA]
   clear hA hke hE
   go_wp2_with fail
   go_ret
   exact ⟨rfl, HE.out⟩
set_option maxRecDepth 100000 in
set_option maxHeartbeats 1000000 in
theorem max_any (l : List Int) (v : Value) (w : World) (hv : IsInts w .i64 v l) (h0 : 0 < l.length) :
  Calls Try.prog 78 #[v] w fun e w' => e = .returned (.int .i64 (maxP l)) ∧ Ext w w' := by
 obtain ⟨va, cap, rfl, h1, h2, hc⟩ := hv.spec
 rcases hc with hc | ⟨b, off, rfl, hc⟩
 ·rw [hc] at h0; simp at h0
 have c0 := hc 0 h0
 rw [Nat.add_zero, gt_get h0] at c0
 have HC := Lib.hid hc
 have hz0 := World.block_lt_of_cell? _ _ c0
 simp only at hz0
 have hl0 : (0 : Int) < (l.length : Int) := by omega
 have hl1 : ¬ ((l.length : Int) < 1) := by omega
 have hl2 : decide ((l.length : Int) < 1) = false := decide_eq_false hl1
 clear hc hv
 go_enter Try.func78, Try.ntmps78
 go_wp2_with fail
 go_loopw [3, 4] (fun mv iv W => ∃ k : Nat, 1 ≤ k ∧ k ≤ l.length ∧ iv = .int .i64 k ∧ mv = .int .i64 ((l.take k).foldl max (gt l 0)) ∧ Ext w W) (fun _ iv _ => l.length - (intOf iv).toNat)
 case atStart => exact ⟨1, Nat.le_refl _, by omega, rfl, by rw [fold_one (f := max) (fun a => by simp) h0], by exact xx⟩
 case round =>
  obtain ⟨k, hk1, hk, rfl, rfl, hE⟩ := hrel
  have HE := Lib.hid hE
  by_cases hlt : k < l.length
  ·have hki : (k : Int) < (l.length : Int) := by omega
   have ck := cell_ext hE (HC.out k hlt)
   rw [gt_get] at ck
   have hzk := World.block_lt_of_cell? _ _ ck
   simp only at hzk
   have hft := fold_take (f := max) hlt (gt l 0)
   obtain ⟨A, hA⟩ : ∃ A, A = (l.take k).foldl max (gt l 0) := ⟨_, rfl⟩
   obtain ⟨y, hy⟩ : ∃ y, y = gt l k := ⟨_, rfl⟩
   rw [← hA, ← hy] at hft
   rw [← hA]
   rw [← hy] at ck
   have HFT := Lib.hid hft
   clear hA hy hft hE
   go_wp2_with fail
   go_roundw
   case rel => exact ⟨k + 1, by omega, by omega, by go_num, by rw [HFT.out, ← max_if A y], HE.out.trans' (by exact xx)⟩
   case measure => simp [intOf]; omega
  ·have hki : ¬ ((k : Int) < (l.length : Int)) := by omega
   have hke : k = l.length := by omega
   have hA : (l.take k).foldl max (gt l 0) = maxP l := by rw [hke, List.take_length]; rfl
   rw [hA]
   clear hA hke hE
   go_wp2_with fail
   go_ret
   exact ⟨rfl, HE.out⟩
end Go.Proofs.Ytphajlldghcnnaa
namespace Go.Proofs.Ytphajlldghcnnaa
open Go.RowKit Go.Shelf
attribute [local go_sem] Oper.semAt_some
theorem elI64 : El 120 2 1 := El.mk' (bytes := 8) (z := .int .i64 0) (by kernel_rfl) (by kernel_rfl) rfl (by omega) (by omega)
/-- what is paid for each finish -/
def sprL (b : Bk) : List Int := (finsAll (runL b)).map fun fs => (accA b fs).p
def sprLo (b : Bk) : Int := if bkErr b = 0 then minP (sprL b) else 0
def sprHi (b : Bk) : Int := if bkErr b = 0 then maxP (sprL b) else 0
theorem finsAll_len {L : List Int} (h : L.length ≤ 8) : (finsAll L).length ≤ 65536 := by
 have hp := (pow8 h).2
 unfold finsAll finsTo
 have h1 := flatMap_len (f := fun f => finsOfF L f (2 ^ L.length)) (c := 256) (l := (List.range (2 ^ L.length)).filter fun f => decide (1 ≤ f)) fun x _ => by
  unfold finsOfF
  rw [List.length_map]
  exact Nat.le_trans (List.length_filter_le _ _) (by simpa using hp)
 have h2 : ((List.range (2 ^ L.length)).filter fun f => decide (1 ≤ f)).length ≤ 256 := Nat.le_trans (List.length_filter_le _ _) (by simpa using hp)
 have := Nat.mul_le_mul_right 256 h2
 omega
def RetSpr (w : World) (b : Bk) (e : Ending) (w' : World) : Prop :=
 Ext w w' ∧ e = .returned (.tuple #[.agg #[.int .i64 (sprLo b), .int .i64 (sprHi b)], .int .i64 (bkErr b)])
def paidRows (b : Bk) (pre : List (Value × List (List Int))) : List (List Value) := pre.map fun x => iRow (accA b x.2).p
set_option maxRecDepth 100000 in
set_option maxHeartbeats 8000000 in
theorem spread_in (b : Bk) (ba sa : Option Addr) (bcap scap : Nat) (w : World) (hv : IsBook w b ba bcap sa scap) : CallsIn Fence.wide 9 Try.prog 39 #[.agg #[.int .i64 b.kd, .int .i64 b.n, .slice ba b.bets.length bcap, .slice sa b.scr.length scap, .bool b.fav, .int .i64 b.car, .int .i64 b.duty, .int .i64 b.step]] w (RetSpr w b) := by
 have HV := Lib.hid hv
 clear hv
 refine callsIn_of_wp_marks Try.func39 rfl trivial ?_ rfl
 simp only [Try.ntmps39, List.size_toArray, List.length_cons, List.length_nil, Nat.reduceAdd, Nat.reduceSub, Array.replicate_succ, Array.replicate_zero, List.push_toArray, List.append_toArray, List.nil_append, List.cons_append]
 gi_wp2_with fail
 have hE01 : Ext w ((w.alloc (.cells #[.int .i64 b.kd, .int .i64 b.n, .slice ba b.bets.length bcap, .slice sa b.scr.length scap, .bool b.fav, .int .i64 b.car, .int .i64 b.duty, .int .i64 b.step] 25)).alloc (.cells #[.int .i64 0, .int .i64 0] 56)) := by exact xx
 obtain ⟨W0, hW0⟩ : ∃ W0, W0 = (w.alloc (.cells #[.int .i64 b.kd, .int .i64 b.n, .slice ba b.bets.length bcap, .slice sa b.scr.length scap, .bool b.fav, .int .i64 b.car, .int .i64 b.duty, .int .i64 b.step] 25)).alloc (.cells #[.int .i64 0, .int .i64 0] 56) := ⟨_, rfl⟩
 rw [← hW0] at hE01 ⊢
 have r00 : W0.heap[w.heap.size + 1]? = some (.cells #[.int .i64 0, .int .i64 0] 56 (0, 0)) := by
  rw [hW0]
  have := World.alloc_heap_new (w.alloc (.cells #[.int .i64 b.kd, .int .i64 b.n, .slice ba b.bets.length bcap, .slice sa b.scr.length scap, .bool b.fav, .int .i64 b.car, .int .i64 b.duty, .int .i64 b.step] 25)) (.cells #[.int .i64 0, .int .i64 0] 56)
  rwa [World.size_alloc] at this
 have hzw : w.heap.size + 2 = W0.heap.size := by rw [hW0]; simp
 clear hW0
 refine ⟨trivial, (callsIn_wide.2 (open_any b ba sa bcap scap _ (HV.out.ext hE01))).mono ?_⟩
 rintro e W1 ⟨hE1, ⟨hne, rfl⟩ | ⟨h0, p, m, rfl, hp, hT⟩⟩
 ·obtain ⟨er, her⟩ : ∃ er, er = bkErr b := ⟨_, rfl⟩
  rw [← her] at hne ⊢
  have f1 : (er != 0) = true := by simpa using hne
  have hr1 := (hE1.block _ (by omega)).trans r00
  have c0 : W1.cell? ⟨w.heap.size + 1, 0, none⟩ = some (.int .i64 0) := by rw [cell_of_row _ _ _ _ _ _ hr1]; rfl
  have c1 : W1.cell? ⟨w.heap.size + 1, 1, none⟩ = some (.int .i64 0) := by rw [cell_of_row _ _ _ _ _ _ hr1]; rfl
  have hfr : ∀ o, W1.frozen? ⟨w.heap.size + 1, o, none⟩ = false := fun o => by simp [World.frozen?, hr1]
  have hz1 := hE1.size
  have hzr : w.heap.size + 1 < W1.heap.size := by omega
  have HE1 := Lib.hid (Ext.trans' hE01 hE1 : Ext w W1)
  have HER := Lib.hid her
  have HNE := Lib.hid hne
  clear her hne hE1 hE01 r00 hr1
  gi_wp2_with fail
  refine ⟨.tuple #[.agg #[.int .i64 0, .int .i64 0], .int .i64 er], by simp [results, Try.results39, go_sem, c0, c1, hzr], ?_, ?_⟩
  ·have h1 := (HE1.out.setCell (p := ⟨w.heap.size + 1, 0, none⟩) (Nat.le_succ _) (.int .i64 0)).setCell (p := ⟨w.heap.size + 1, 1, none⟩) (Nat.le_succ _) (.int .i64 0)
   exact h1.alloc h1.size _
  ·unfold sprLo sprHi
   rw [if_neg (by rw [← HER.out]; exact HNE.out), if_neg (by rw [← HER.out]; exact HNE.out), HER.out]
 have HE1 := Lib.hid (Ext.trans' hE01 hE1 : Ext w W1)
 have HT1 := Lib.hid hT
 have HV1 := Lib.hid ((HV.out.ext hE01).ext hE1)
 have V := Lib.hid (bval_of h0)
 have H0 := Lib.hid h0
 have hzp := hT.till.lt
 have hzm := hT.map.lt
 have hr1 := (hE1.block _ (by omega)).trans r00
 have HR1 := Lib.hid hr1
 have hz1 := hE1.size
 clear hE1 hT h0 HV r00 hr1 hE01
 gi_wp2_with fail
 refine ⟨trivial, (callsIn_wide.2 (finishes_any p _)).mono ?_⟩
 rintro e W5 ⟨rfl, hE5, c5t, hz5⟩
 simp only [World.size_alloc] at c5t hz5
 have hE15 : Ext W1 W5 := Ext.trans' (by exact xx) hE5
 have q5 : W5.cell? ⟨W1.heap.size, 0, none⟩ = some (.pointer (some ⟨p, 0, none⟩)) := cell_ext hE5 (by simp [go_sem])
 have hO5 : W5.heap[W1.heap.size + 1]? = some (.cells #[.slice none 0 0] 120 (0, 0)) := by
  refine (hE5.block _ (by simp)).trans ?_
  have := World.alloc_heap_new (W1.alloc (.cells #[.pointer (some ⟨p, 0, none⟩)] 89)) (.cells #[.slice none 0 0] 120)
  rwa [World.size_alloc] at this
 have HZ5 := Lib.hid hz5
 have hz5' : W1.heap.size + 3 ≤ W5.heap.size := by omega
 clear hz5
 have HO5 := Lib.hid hO5
 have HE15 := Lib.hid hE15
 have HQ5 := Lib.hid q5
 clear hE5 hO5 hE15 q5
 have hsub : ∀ W, Kept (fun k => k < W5.heap.size ∧ k ≠ W1.heap.size + 1) W5 W → Ext W1 W := fun W hk => HE15.out.trans (Kept.below (hk.mono (T := fun k => k < W1.heap.size) fun k hk1 hk2 => ⟨hk1, by omega⟩) HE15.out.size)
 have HSUB := Lib.hid hsub
 clear hsub
 gi_wp2_with fail
 refine rangeOverW (n := 9) (R := fun k => k < W5.heap.size ∧ k ≠ W1.heap.size + 1) rfl (enters_of Try.func98 (by kernel_rfl) rfl)
  (fins_iter b V.out sa scap (W1.heap.size + 1 + 1) p (fun k => k < W5.heap.size ∧ k ≠ W1.heap.size + 1) W5 (fun k hk => hk.1)
   (fun W hk => ⟨hk.cell c5t ⟨by simp only; omega, by simp only; omega⟩, (HT1.out.ext (HSUB.out W hk)).till.book.c1, (HT1.out.ext (HSUB.out W hk)).till.book.c3, (HV1.out.ext (HSUB.out W hk)).scr⟩))
  (Below.refl _ _) (fun k hk => hk.1) (fun _ => rfl)
  (fun O pre W => (∀ k, O k → W5.heap.size ≤ k) ∧ W5.heap.size ≤ W.heap.size ∧ Kept (fun k => k < W5.heap.size ∧ k ≠ W1.heap.size + 1) W5 W ∧ Gath 120 2 1 (W1.heap.size + 1) (W5.heap.size + 2) (paidRows b pre) O W)
  (fun _ _ _ _ => False) ?bears (fun _ _ _ _ _ _ h _ _ _ => h) ⟨fun _ h => h.elim, Nat.le_refl _, Kept.refl _ _, ⟨_, HO5.out, Owns.nil _ _ _ _, fun g hg => (by cases hg)⟩⟩ ?round ?done (fun _ _ _ _ _ _ _ h _ => h.elim)
 case bears =>
  rintro pre O O' A B ⟨g1, g2, g3, g4⟩ hk hO1 hO2
  refine ⟨fun k hk => ?_, by have := hk.size; omega, g3.trans (hk.mono fun k _ h => ⟨fun ho => by have := g1 k ho; omega, by omega⟩), g4.kept hk ⟨fun ho => by have := g1 _ ho; omega, by omega⟩ (fun g h1 h2 => ⟨h2, by omega⟩) (fun g h => (hO2 g h).imp id fun h => h.1)⟩
  rcases hO2 k hk with h | h
  ·exact g1 k h
  ·omega
 case round =>
  rintro l O pre ⟨fv, fs⟩ W ⟨g1, g2, g3, g4⟩ ⟨⟨rest, hrest⟩, ps, hps, hfin⟩ hO2 hW2
  obtain ⟨fa, fcap, rfl, -, -, -⟩ := hfin.fin.spec
  simp only at hps hrest
  subst hps
  gi_wp2
  refine ⟨xx, fun W2 hk2 => ?_⟩
  have hlw := hk2.size
  have g32 : Kept (fun k => k < W5.heap.size ∧ k ≠ W1.heap.size + 1) W5 W2 := g3.trans (hk2.mono fun k _ h => by omega)
  have g42 : Gath 120 2 1 (W1.heap.size + 1) (W5.heap.size + 2) (paidRows b pre) O W2 := g4.kept hk2 (by omega) (fun g h1 _ => by omega) (fun _ h => .inl h)
  obtain ⟨ov, hov, hown, hno⟩ := g42
  obtain ⟨oa, on, oc, rfl⟩ := hown.isSlice
  have ho0 : W2.cell? ⟨W1.heap.size + 1, 0, none⟩ = some (.slice oa on oc) := by rw [cell_of_row _ _ _ _ _ _ hov]; rfl
  have hzo := (Array.getElem?_eq_some_iff.1 hov).1
  have q4 := g32.cell HQ5.out ⟨by simp only; omega, by simp only; omega⟩
  have hT2 := HT1.out.ext (HSUB.out W2 g32)
  have hzq : W1.heap.size < W2.heap.size := by omega
  have hlwz : W5.heap.size + 2 ≤ W2.heap.size := by omega
  have hF2 : IsFin W2 (.slice fa ps.length fcap) ps := (hfin.kept hk2 fun g hg => by omega).fin
  have hfv : FinV b (finsOf ps) := finsAll_val V.out (by rw [hrest]; simp)
  obtain ⟨A, hA⟩ : ∃ A, A = accA b (finsOf ps) := ⟨_, rfl⟩
  have hcl : ∀ W, Ext W2 W → Calls Try.prog 72 #[.pointer (some ⟨p, 0, none⟩), .slice fa ps.length fcap] W fun e w' => e = .returned (.agg #[.int .i64 A.i, .int .i64 A.k, .int .i64 A.d, .int .i64 A.p, .int .i64 A.q, .int .i64 A.o]) ∧ Ext W w' := fun W hW => by
   rw [hA]
   exact closed_any p m b ba sa fa bcap scap fcap ps W (hT2.ext hW) (hF2.ext hW) hfv
  have HLL : Hid ((paidRows b pre).length + 1 ≤ 1000000) := by
   refine Lib.hid ?_
   have h1 := finsAll_len (runL_le V.out)
   rw [hrest] at h1
   simp only [List.length_append, List.length_map] at h1
   unfold paidRows
   rw [List.length_map]; omega
  obtain ⟨x, hx⟩ : ∃ x, x = A.p := ⟨_, rfl⟩
  have HPX : Hid (x = (accA b (finsOf ps)).p) := Lib.hid (by rw [hx, hA])
  rw [← hx] at hcl
  have hfld : ∀ W, (Instr.field 48 (.agg #[.int .i64 A.i, .int .i64 A.k, .int .i64 A.d, .int .i64 x, .int .i64 A.q, .int .i64 A.o]) 3).run Try.prog W = .ok (.int .i64 x) W := fun _ => by kernel_rfl
  have HCL := Lib.hid hcl
  have HOV := Lib.hid hov
  have HOWN := Lib.hid hown
  have HNO := Lib.hid hno
  have HG3 := Lib.hid g32
  have HOO := Lib.hid hO2
  have HK2 := Lib.hid hk2
  clear hov hown hno g3 g4 g32 hO2 hk2 hT2 hF2 hfv hcl hA hx hrest hfin
  gi_wp2_with fail
  refine wpIn_region_rove_tail rfl rfl (by kernel_rfl) (W5.heap.size + 2) (hlwz)
   [sqV (.slice oa on oc), sqV (.pointer (some ⟨p, 0, none⟩)), sqV (.slice fa ps.length fcap), sqV (.agg #[.int .i64 A.i, .int .i64 A.k, .int .i64 A.d, .int .i64 x, .int .i64 A.q, .int .i64 A.o]), sqV (.int .i64 x), sqW (fun v W => ∃ b, v = .slice (some ⟨b, 0, none⟩) 1 1 ∧ RowsAt W 1 b 0 ([[Value.int .i64 x]])) (fun _ _ _ ⟨b, h1, h2⟩ e => ⟨b, h1, h2.ext e⟩), sqW (fun v W => Owns W (W5.heap.size + 2) 2 1 v (paidRows b pre ++ [[.int .i64 x]]) ∧ Kept (fun k => some k ≠ (Value.slice oa on oc).ownBlock) W2 W ∧ ∀ g, v.ownBlock = some g → (Value.slice oa on oc).ownBlock = some g ∨ W2.heap.size ≤ g) (fun _ _ _ ⟨h1, h2, h3⟩ e => ⟨h1.ext e, h2.trans (.of_below e), h3⟩)]
   [true, true, true, true, true, false, false] [false, false, false, false, false, false, true] [true, true, true, true, true, false, true] [true, true, true, true, true, true, true]
   (by kernel_rfl) (by kernel_rfl) (by decide +kernel) (by decide +kernel) (by decide +kernel) rfl ⟨rfl, rfl⟩ ⟨?s0, ?s1, ?s2, ?s3, ?s4, ?s5, ?s6, trivial⟩ [some 20, some 21, some 22, some 23, some 24, some 25, some 26] rfl rfl ?send
  case s0 =>
   intro val ρ W hE hz hd hA hx
   have o0 : ρ (.tmp 6) = .pointer (some ⟨W1.heap.size + 1, 0, none⟩) := hA.old 6 (by decide)
   have f_ho0 := cell_below hE (by simp only; omega) ho0
   clear hd
   exact runq_val (W' := W) (by simp [execOp, o0, f_ho0, go_sem]) (Below.refl _ _) rfl
  case s1 =>
   intro val ρ W hE hz hd hA hx
   have o0 : ρ (.tmp 4) = .pointer (some ⟨W1.heap.size, 0, none⟩) := hA.old 4 (by decide)
   have f_q4 := cell_below hE (by simp only; omega) q4
   clear hd
   exact runq_val (W' := W) (by simp [execOp, o0, f_q4, go_sem]) (Below.refl _ _) rfl
  case s2 =>
   intro val ρ W hE hz hd hA hx
   have o0 : ρ (.tmp 7) = .slice fa ps.length fcap := hA.old 7 (by decide)
   clear hd
   exact runq_val (W' := W) (by simp [execOp, o0, go_sem]) (Below.refl _ _) rfl
  case s3 =>
   intro val ρ W hE hz hd hA hx
   have d1 : ρ (.tmp 21) = .pointer (some ⟨p, 0, none⟩) := (hA.dep 1 (by decide) 21 rfl).trans (hd 1 (by decide))
   have d2 : ρ (.tmp 22) = .slice fa ps.length fcap := (hA.dep 2 (by decide) 22 rfl).trans (hd 2 (by decide))
   clear hd
   refine runq_call 72 _ _ rfl #[.pointer (some ⟨p, 0, none⟩), .slice fa ps.length fcap] (hA.func _) (by simp [d1, d2]) (fun args W => Try.call72 args W) ((HCL.out W (hx (by decide))).mono ?_)
   rintro e w' ⟨rfl, hb⟩
   exact ⟨_, rfl, hb, rfl⟩
  case s4 =>
   intro val ρ W hE hz hd hA hx
   have d3 : ρ (.tmp 23) = .agg #[.int .i64 A.i, .int .i64 A.k, .int .i64 A.d, .int .i64 x, .int .i64 A.q, .int .i64 A.o] := (hA.dep 3 (by decide) 23 rfl).trans (hd 3 (by decide))
   clear hd
   exact runq_val (W' := W) (by simp [execOp, d3, hfld, go_sem]) (Below.refl _ _) rfl
  case s5 =>
   intro val ρ W hE hz hd hA hx
   have d4 : ρ (.tmp 24) = .int .i64 x := (hA.dep 4 (by decide) 24 rfl).trans (hd 4 (by decide))
   clear hd hA
   refine runq_val (by simp [execOp, d4, go_sem]; exact ⟨rfl, rfl⟩) (by exact xx) ⟨_, rfl, newRows _ ([[Value.int .i64 x]]) _ _ _ 1 rfl (by simp) (by simp)⟩
  case s6 =>
   intro val ρ W hE hz hd hA hx
   have hW := hx (by decide)
   have d0 : ρ (.tmp 20) = .slice oa on oc := (hA.dep 0 (by decide) 20 rfl).trans (hd 0 (by decide))
   obtain ⟨b', e5, h5⟩ : ∃ b', val 5 = .slice (some ⟨b', 0, none⟩) 1 1 ∧ RowsAt W 1 b' 0 [[Value.int .i64 x]] := hd 5 (by decide)
   have d5 : ρ (.tmp 25) = .slice (some ⟨b', 0, none⟩) 1 1 := (hA.dep 5 (by decide) 25 rfl).trans e5
   have ho := HOWN.out.ext hW
   obtain ⟨v', w', hrun, h2, h3, h4⟩ := app_at elI64 120 (W5.heap.size + 2) ho b' 0 1 [[Value.int .i64 x]] (by simp) h5 (by simp [Value.oneCell']) HLL.out (by omega)
   exact runq_append (.tmp 20) (.tmp 25) rfl rfl _ _ d0 d5 hrun (ho.keptBelow (by omega) h3) ⟨h2, (Kept.of_below hW).trans h3, fun g hg => (h4 g hg).imp id fun h => Nat.le_trans hW.size h⟩
  case send =>
   intro val WW hE hzz hv
   obtain ⟨-, -, -, -, -, -, ⟨h22, k22, o22⟩, -⟩ := hv
   replace h22 : Owns WW (W5.heap.size + 2) 2 1 (val 6) (paidRows b pre ++ [[.int .i64 x]]) := h22
   obtain ⟨va, vn, vc, e22⟩ := h22.isSlice
   rw [e22] at h22 o22
   have hov3 := (k22.same (W1.heap.size + 1) hzo (fun h => by have := HOWN.out.notOwn _ h.symm; omega)).trans HOV.out
   have hv3 : WW.cell? ⟨W1.heap.size + 1, 0, none⟩ = some (.slice oa on oc) := by rw [cell_of_row _ _ _ _ _ _ hov3]; rfl
   have hf3 : WW.frozen? ⟨W1.heap.size + 1, 0, none⟩ = false := by simp [World.frozen?, hov3]
   have HK3 := Lib.hid k22
   have H22 := Lib.hid h22
   have HO22 := Lib.hid o22
   have HOV3 := Lib.hid hov3
   have hz3 := k22.size
   have hzo3 := (Array.getElem?_eq_some_iff.1 hov3).1
   simp only [putD, e22]
   go_frame
   clear hE h22 o22 e22 hov3 hzz k22 ho0 q4
   gi_wp2_with fail
   have hkS : ∀ (S' : Nat → Prop), (∀ g, (Value.slice oa on oc).ownBlock = some g → ¬ S' g) → ¬ S' (W1.heap.size + 1) → Kept S' W2 (WW.setCell ⟨W1.heap.size + 1, 0, none⟩ (.slice va vn vc)) := fun S' h1 h2 =>
    (HK3.out.mono fun k _ hk e => h1 k e.symm hk).setCell (fun _ => h2) _
   have ho5 : ∀ g, (Value.slice oa on oc).ownBlock = some g → W5.heap.size + 2 ≤ g ∧ ¬ O g := fun g hg => ⟨(HOWN.out.notOwn g hg).1, HNO.out g hg⟩
   refine ⟨hkS _ (fun g hg h => ?_) (fun h => ?_), g1, by simp [World.setCell]; omega, ?_, _, heap_setCell_row HOV3.out 0 _, ?_, fun g hg ho => ?_⟩
   ·have := ho5 g hg
    rcases h with h | h | h | h
    ·omega
    ·exact this.2 h
    ·omega
    ·omega
   ·rcases h with h | h | h | h
    ·exact h.2 rfl
    ·have := g1 _ h; omega
    ·omega
    ·omega
   ·exact HG3.out.trans (hkS _ (fun g hg h => by have := ho5 g hg; omega) (fun h => h.2 rfl))
   ·have e : paidRows b (pre ++ [(.slice fa ps.length fcap, finsOf ps)]) = paidRows b pre ++ [[.int .i64 x]] := by
     unfold paidRows
     rw [List.map_append, HPX.out]; rfl
    rw [e]
    exact H22.out.setOther HOV3.out (by decide) 0 _
   ·rcases HO22.out g hg with h | h
    ·exact HNO.out g h ho
    ·have := (HOO.out g ho).2; omega
 case done =>
  rintro D O xs X hD hxs ⟨g1, g2, g3, g4⟩ hDk
  obtain ⟨ov, hov, hown, hno⟩ := g4
  have hpl : paidRows b xs = (sprL b).map iRow := by
   unfold paidRows sprL
   rw [← hxs, List.map_map, List.map_map]; rfl
  rw [hpl] at hown
  have hint : IsInts X .i64 ov (sprL b) := hown.isRows
  have hpos : 0 < (sprL b).length := by
   unfold sprL
   rw [List.length_map]
   have := finsAll_pos (L := runL b) (by have := runL_two V.out; omega)
   exact List.length_pos_iff.2 this
  obtain ⟨oa, on, oc, rfl⟩ := hown.isSlice
  have ho0 : X.cell? ⟨W1.heap.size + 1, 0, none⟩ = some (.slice oa on oc) := by rw [cell_of_row _ _ _ _ _ _ hov]; rfl
  have hlo : ∀ W, Ext X W → Calls Try.prog 77 #[.slice oa on oc] W fun e w' => e = .returned (.int .i64 (minP (sprL b))) ∧ Ext W w' := fun W hW => min_any (sprL b) _ W (hint.ext hW) hpos
  have hhi : ∀ W, Ext X W → Calls Try.prog 78 #[.slice oa on oc] W fun e w' => e = .returned (.int .i64 (maxP (sprL b))) ∧ Ext W w' := fun W hW => max_any (sprL b) _ W (hint.ext hW) hpos
  obtain ⟨lo, hlo'⟩ : ∃ lo, lo = minP (sprL b) := ⟨_, rfl⟩
  obtain ⟨hi, hhi'⟩ : ∃ hi, hi = maxP (sprL b) := ⟨_, rfl⟩
  rw [← hlo'] at hlo
  rw [← hhi'] at hhi
  have HLO := Lib.hid hlo
  have HHI := Lib.hid hhi
  have HL' := Lib.hid hlo'
  have HH' := Lib.hid hhi'
  have HDK := Lib.hid hDk
  have hDlt := (Array.getElem?_eq_some_iff.1 hDk).1
  have hzo := (Array.getElem?_eq_some_iff.1 hov).1
  have HG3 := Lib.hid g3
  have hrX : X.heap[w.heap.size + 1]? = some (.cells #[.int .i64 0, .int .i64 0] 56 (0, 0)) := (g3.same _ (by omega) ⟨by omega, by omega⟩).trans ((HE15.out.block _ (by omega)).trans HR1.out)
  have HRX := Lib.hid hrX
  clear hov hown hno hDk g3 hint hlo hhi hlo' hhi' hpl hrX hxs
  gi_wp2_with fail
  refine wpIn_wide.2 ?_
  refine wp_region_rove_tails 5 rfl (by kernel_rfl) (X.heap.size) (Nat.le_refl _)
   [sqV (.slice oa on oc), sqV (.int .i64 lo), sqV (.slice oa on oc), sqV (.int .i64 hi), sqV (.agg #[.int .i64 lo, .int .i64 hi])]
   [true, true, true, true, true] [false, false, false, false, false] [true, true, true, true, true] [true, true, true, true, true]
   (by kernel_rfl) (by kernel_rfl) (by decide +kernel) (by decide +kernel) (by decide +kernel) rfl ⟨rfl, rfl⟩ ⟨?s0, ?s1, ?s2, ?s3, ?s4, trivial⟩ [some 27, some 28, some 29, some 30, some 31] rfl rfl ?send
  case s0 =>
   intro val ρ W hE hz hd hA hx
   have o0 : ρ (.tmp 6) = .pointer (some ⟨W1.heap.size + 1, 0, none⟩) := hA.old 6 (by decide)
   have f_ho0 := cell_below hE (by simp only; omega) ho0
   clear hd
   exact runq_val (W' := W) (by simp [execOp, o0, f_ho0, go_sem]) (Below.refl _ _) rfl
  case s1 =>
   intro val ρ W hE hz hd hA hx
   have d0 : ρ (.tmp 27) = .slice oa on oc := (hA.dep 0 (by decide) 27 rfl).trans (hd 0 (by decide))
   clear hd
   refine runq_call 77 _ _ rfl #[.slice oa on oc] (hA.func _) (by simp [d0]) (fun args W => Try.call77 args W) ((HLO.out W hE).mono ?_)
   rintro e w' ⟨rfl, hb⟩
   exact ⟨_, rfl, hb, rfl⟩
  case s2 =>
   intro val ρ W hE hz hd hA hx
   have o0 : ρ (.tmp 6) = .pointer (some ⟨W1.heap.size + 1, 0, none⟩) := hA.old 6 (by decide)
   have f_ho0 := cell_below hE (by simp only; omega) ho0
   clear hd
   exact runq_val (W' := W) (by simp [execOp, o0, f_ho0, go_sem]) (Below.refl _ _) rfl
  case s3 =>
   intro val ρ W hE hz hd hA hx
   have d2 : ρ (.tmp 29) = .slice oa on oc := (hA.dep 2 (by decide) 29 rfl).trans (hd 2 (by decide))
   clear hd
   refine runq_call 78 _ _ rfl #[.slice oa on oc] (hA.func _) (by simp [d2]) (fun args W => Try.call78 args W) ((HHI.out W hE).mono ?_)
   rintro e w' ⟨rfl, hb⟩
   exact ⟨_, rfl, hb, rfl⟩
  case s4 =>
   intro val ρ W hE hz hd hA hx
   have d1 : ρ (.tmp 28) = .int .i64 lo := (hA.dep 1 (by decide) 28 rfl).trans (hd 1 (by decide))
   have d3 : ρ (.tmp 30) = .int .i64 hi := (hA.dep 3 (by decide) 30 rfl).trans (hd 3 (by decide))
   clear hd
   exact runq_val (W' := W) (by simp [execOp, d1, d3, go_sem]) (Below.refl _ _) rfl
  case send =>
   intro val WW hE hzz hv
   obtain ⟨-, r1, -, r3, r4, -⟩ := hv
   have q1 : val 1 = .int .i64 lo := r1
   have q3 : val 3 = .int .i64 hi := r3
   have q4 : val 4 = .agg #[.int .i64 lo, .int .i64 hi] := r4
   have hrW := (hE.block _ (by omega)).trans HRX.out
   have c0 : WW.cell? ⟨w.heap.size + 1, 0, none⟩ = some (.int .i64 0) := by rw [cell_of_row _ _ _ _ _ _ hrW]; rfl
   have c1 : WW.cell? ⟨w.heap.size + 1, 1, none⟩ = some (.int .i64 0) := by rw [cell_of_row _ _ _ _ _ _ hrW]; rfl
   have hfr : ∀ o, WW.frozen? ⟨w.heap.size + 1, o, none⟩ = false := fun o => by simp [World.frozen?, hrW]
   have hzr : w.heap.size + 1 < WW.heap.size := by omega
   have HDW := Lib.hid ((hE.block D hDlt).trans HDK.out)
   have HEW := Lib.hid hE
   simp only [putD, q1, q3, q4]
   go_frame
   clear hE hzz r1 r3 r4 q1 q3 q4 hrW ho0
   go_wp2_with fail
   obtain ⟨Y, hY⟩ : ∃ Y, Y = (WW.setCell ⟨w.heap.size + 1, 0, none⟩ (.int .i64 lo)).setCell ⟨w.heap.size + 1, 1, none⟩ (.int .i64 hi) := ⟨_, rfl⟩
   rw [← hY]
   have hrY : Y.heap[w.heap.size + 1]? = some (.cells #[.int .i64 lo, .int .i64 hi] 56 (0, 0)) := by
    rw [hY]
    exact heap_setCell_row (heap_setCell_row ((HEW.out.block _ (by omega)).trans HRX.out) 0 (.int .i64 lo)) 1 (.int .i64 hi)
   have hkY : Kept (fun k => k ≠ w.heap.size + 1) WW Y := by
    rw [hY]
    exact ((Kept.refl _ _).setCell (fun _ h => h rfl) _).setCell (fun _ h => h rfl) _
   have hDY := (hkY.same D (by have := HEW.out.size; omega) (by omega)).trans HDW.out
   have hEY : Ext w Y := by
    have h1 := HE1.out.trans' (HSUB.out X HG3.out)
    exact ext_kept (h1.trans' HEW.out) hkY (by omega)
   have HRY := Lib.hid hrY
   have HDY := Lib.hid hDY
   have HEY := Lib.hid hEY
   clear hY hrY hkY hDY hEY c0 c1 hfr
   gi_wp2_with fail
   refine leaves_marks (B := w.heap.size) _ _ ⟨⟨D, rfl, by omega, HDY.out, fun d' hd' => by cases hd'⟩, trivial⟩ fun W' hk => ?_
   have hk2 : Kept (fun k => k ≠ D) Y W' := hk.mono fun k _ h d hd e => by
    simp only [List.mem_singleton] at hd
    subst hd
    exact h (Target.collected.inj e).symm
   have hrW := (hk2.same _ (Array.getElem?_eq_some_iff.1 HRY.out).1 (by omega)).trans HRY.out
   have c0 : W'.cell? ⟨w.heap.size + 1, 0, none⟩ = some (.int .i64 lo) := by rw [cell_of_row _ _ _ _ _ _ hrW]; rfl
   have c1 : W'.cell? ⟨w.heap.size + 1, 1, none⟩ = some (.int .i64 hi) := by rw [cell_of_row _ _ _ _ _ _ hrW]; rfl
   have hEW := HEY.out.trans (Kept.below (hk2.mono (T := fun k => k < w.heap.size) fun k _ h => by omega) HEY.out.size)
   have e1 : sprLo b = lo := by unfold sprLo; rw [if_pos H0.out, HL'.out]
   have e2 : sprHi b = hi := by unfold sprHi; rw [if_pos H0.out, HH'.out]
   exact ⟨.tuple #[.agg #[.int .i64 lo, .int .i64 hi], .int .i64 0], by simp [results, Try.results39, go_sem, c0, c1], hEW, by rw [e1, e2, H0.out]⟩
theorem spread_any (b : Bk) (ba sa : Option Addr) (bcap scap : Nat) (w : World) (hv : IsBook w b ba bcap sa scap) : Calls Try.prog 39 #[.agg #[.int .i64 b.kd, .int .i64 b.n, .slice ba b.bets.length bcap, .slice sa b.scr.length scap, .bool b.fav, .int .i64 b.car, .int .i64 b.duty, .int .i64 b.step]] w (RetSpr w b) := callsIn_wide.1 (spread_in b ba sa bcap scap w hv)
end Go.Proofs.Ytphajlldghcnnaa
