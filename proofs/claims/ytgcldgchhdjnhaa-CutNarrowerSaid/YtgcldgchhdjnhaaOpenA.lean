/-
  What the statements' arguments hold: halls, numbers, steps; and what a statement's call leaves, out of 'nothing that there was has turned'.
-/
import Derived.Test.YtgcldgchhdjnhaaRows
import Derived.Test.YtgcldgchhdjnhaaFin
import Derived.ProofKit
import Derived.OpenShut
import Derived.Carry
import Derived.Lib.SmallJoins
import Derived.Deep.Slices
namespace Go.Proofs.Ytgcldgchhdjnhaa
open Go.ChangeShapes Go.WideShapes Go.ChangeAt Go.RowKit

theorem own : ownKnob Try.prog.godebug = none := by kernel_rfl
theorem laidOut : laidOutB Try.prog = true := by kernel_rfl

section
variable {H : Type} {enc : TypeId × Value → H} {P : Program} {W W' : World}
theorem trodAll_stays (hl : laidOutB P = true) (hb : Below W.heap.size W W') : ∀ (ts : List TypeId) (vs : List Value) (ds : List (DataW H)) (ps : List MemPlace), (∀ t ∈ ts, P.readableRec t = true ∧ t < P.types.size) → DataW.TrodAll enc P W 0 (fun _ => true) true ts vs ds ps → (∀ x ∈ ps, x.block < W.heap.size) →
    DataW.TrodAll enc P W' 0 (fun b => decide (b < W.heap.size)) true ts vs ds ps
  | [], [], [], ps, _, h, _ => h
  | t :: ts, v :: vs, d :: ds, ps, ht, h, hp => by
    obtain ⟨p, q, h1, h2, rfl⟩ := h
    exact ⟨p, q, Below.trod hl (ht t (by simp)).1 (ht t (by simp)).2 h1 hb (fun x hx => hp x (by simp [hx])), trodAll_stays hl hb ts vs ds q (fun t' h' => ht t' (by simp [h'])) h2 (fun x hx => hp x (by simp [hx])), rfl⟩
  | [], _ :: _, _, _, _, h, _ => h.elim
  | [], [], _ :: _, _, _, h, _ => h.elim
  | _ :: _, [], _, _, _, h, _ => h.elim
  | _ :: _, _ :: _, [], _, _, h, _ => h.elim
def htsB (P : Program) (ts : List TypeId) : Bool := ts.all fun t => P.readableRec t && decide (t < P.types.size)
theorem hts_of {ts : List TypeId} (h : htsB P ts = true) : ∀ t ∈ ts, P.readableRec t = true ∧ t < P.types.size := fun t ht => by
  have := List.all_eq_true.1 h t ht
  simpa using this
/-- a law that returns true and leaves what there was -/
theorem law_post {f : Func} {s : ChangeSpec} {args : Array Value} {ds gs : List (DataW H)} {before : List MemPlace} {tb : TypeId} (hl : laidOutB P = true) (hts : ∀ t ∈ f.params.toList, P.readableRec t = true ∧ t < P.types.size) (hres : f.resultTypes = #[tb]) (htb : P.underlying tb = some .bool)
    (hW : DataW.Whole enc P f.params.toList s.vars false W args.toList ds gs before) (hvars : s.vars = []) (hfn : s.fn H ds = { results := [.lit (.bool true)], args := ds }) (hb : Below W.heap.size W W') :
    s.post enc P f false true false false W args (.bool true) W' := by
  have hlt := hW.lt
  have hW' := hW
  obtain ⟨p, q, hA, hV, rfl, _, _⟩ := hW
  rw [hvars] at hV
  obtain ⟨rfl, rfl⟩ := trodVars_none hV
  have hfn' : s.fn H (ds ++ []) = { results := [.lit (.bool true)], args := ds } := by rw [List.append_nil]; exact hfn
  refine ⟨ds, [], p ++ [], [], p, [], hW', ?_, ?_, ?_, World.keptBut_mono (fun x hx => ⟨hx, ?_⟩) (hb.frame (· ∈ p ++ [])), fun h => by cases h⟩
  · rw [hres, hfn']
    exact ⟨[], [], shut_bool htb true, rfl, rfl⟩
  · rw [hfn']
    exact trodAll_stays hl hb _ _ _ _ hts hA fun x hx => hlt x (by simp [hx])
  · rw [hfn', hvars]
    rfl
  · right; left; simpa using hx
end
section
variable {H : Type} {enc : TypeId × Value → H} {W : World} {sp : Nat → Bool} {held : Bool} {base b0 : Nat} {r : Reach}
/-- slices, as they are handed in -/
theorem openRows {t e : TypeId} {sz : Nat} (ht : Try.prog.underlying t = some (.slice e)) (hc : Try.prog.cellsOf e = sz) (hs0 : 0 < sz) {n : Nat} {v : Value} {y : DataW H × List MemPlace} (h : DataW.trod enc Try.prog W base sp held n t [v] = some y) :
    ∃ rows : List (List Value), IsRows W sz v rows ∧ ∀ row ∈ rows, row.length = sz ∧ ∃ m y', DataW.trod enc Try.prog W base sp held m e row = some y' := by
  rcases Go.Deep.open_slice ht h with ⟨h1, _⟩ | ⟨a, len, cap, m, n, D, Pl, h1, _, h2, h3, h4, _, h5⟩
  · cases h1
    exact ⟨[], ⟨none, 0, rfl, by simp, by omega, .inl rfl⟩, by simp⟩
  · cases h1
    have hlm : len ≤ m := by rw [h4]; split <;> omega
    obtain ⟨rows, hr1, hr2⟩ : ∃ rows : List (List Value), rows.length = len ∧ ∀ i (hi : i < rows.length), W.cells? base (a.add (i * sz)) sz = some rows[i] ∧ ∃ y', DataW.trod enc Try.prog W base sp held n e rows[i] = some y' := by
      have key : ∀ k, k ≤ len → ∃ rows : List (List Value), rows.length = k ∧ ∀ i (hi : i < rows.length), W.cells? base (a.add (i * sz)) sz = some rows[i] ∧ ∃ y', DataW.trod enc Try.prog W base sp held n e rows[i] = some y' := by
        intro k
        induction k with
        | zero => exact fun _ => ⟨[], rfl, fun i hi => by simp at hi⟩
        | succ k ih =>
          intro hk
          obtain ⟨rows, q1, q2⟩ := ih (by omega)
          obtain ⟨cs', q3, q4⟩ := h5 k (by omega)
          rw [hc] at q3
          refine ⟨rows ++ [cs'], by simp [q1], fun i hi => ?_⟩
          by_cases hik : i < rows.length
          · rw [List.getElem_append_left hik]; exact q2 i hik
          · have hik' : i = k := by simp at hi; omega
            subst hik'
            rw [List.getElem_append_right (by omega)]
            simp only [q1, Nat.sub_self, List.getElem_cons_zero]
            exact ⟨q3, _, q4⟩
      exact key len (Nat.le_refl _)
    subst hr1
    refine ⟨rows, ⟨some a, cap, rfl, h2, by simpa [maxLen] using h3, ?_⟩, fun row hrow => ?_⟩
    · by_cases hz : rows = []
      · exact .inl hz
      · have hr0 : 0 < rows.length := List.length_pos_iff.2 hz
        obtain ⟨_, q2, q3⟩ := World.cells?_some (hr2 0 hr0).1
        have q4 := q3 0 hs0
        rw [List.getElem?_eq_getElem (by omega)] at q4
        simp [Addr.add] at q4
        have hsp := World.cell?_spot q4
        right
        obtain ⟨ab, ao, asp⟩ := a
        simp only at hsp
        subst hsp
        refine ⟨ab, ao, rfl, fun i hi j hj => ?_⟩
        obtain ⟨_, q5, q6⟩ := World.cells?_some (hr2 i hi).1
        have q7 := q6 j (by omega)
        rw [List.getElem?_eq_getElem hj, addr_add, addr_add] at q7
        exact q7
    · obtain ⟨i, hi, rfl⟩ := List.getElem_of_mem hrow
      obtain ⟨q1, y', q2⟩ := hr2 i hi
      exact ⟨(World.cells?_some q1).2.1, n, y', q2⟩
/-- a counter's cells -/
theorem openCnt {n : Nat} {row : List Value} {y : DataW H × List MemPlace} (hl : row.length = 4) (h : DataW.trod enc Try.prog W base sp held n 70 row = some y) : ∃ c : Cnt, row = c.cells := by
  have ci : Try.prog.cellsOf 3 = 1 := by kernel_rfl
  have cr : Try.prog.cellsOf 35 = 2 := by kernel_rfl
  have c6 : Try.prog.cellsOf 2 = 1 := by kernel_rfl
  match row, hl with
  | [v0, v1, v2, v3], _ =>
    obtain ⟨xs, k, _, _, _, hxl, hf⟩ := DataW.trod_struct Try.underlying70 h
    have g0 := hf 0 _ rfl
    have g1 := hf 1 _ rfl
    have g2 := hf 2 _ rfl
    simp [ci, cr] at g0 g1 g2
    obtain ⟨x0, e0⟩ : ∃ x, xs[0]? = some x := ⟨xs[0]'(by rw [hxl]; decide), List.getElem?_eq_getElem _⟩
    obtain ⟨x1, e1⟩ : ∃ x, xs[1]? = some x := ⟨xs[1]'(by rw [hxl]; decide), List.getElem?_eq_getElem _⟩
    obtain ⟨x2, e2⟩ : ∃ x, xs[2]? = some x := ⟨xs[2]'(by rw [hxl]; decide), List.getElem?_eq_getElem _⟩
    rw [e0] at g0
    rw [e1] at g1
    rw [e2] at g2
    obtain ⟨a, ha, _⟩ := DataW.trod_int Try.underlying3 g0
    obtain ⟨b, hb, _⟩ := DataW.trod_int Try.underlying3 g1
    obtain ⟨xs2, k2, _, _, _, hxl2, hf2⟩ := DataW.trod_struct Try.underlying35 g2
    have g3 := hf2 0 _ rfl
    have g4 := hf2 1 _ rfl
    simp [c6] at g3 g4
    obtain ⟨x3, e3⟩ : ∃ x, xs2[0]? = some x := ⟨xs2[0]'(by rw [hxl2]; decide), List.getElem?_eq_getElem _⟩
    obtain ⟨x4, e4⟩ : ∃ x, xs2[1]? = some x := ⟨xs2[1]'(by rw [hxl2]; decide), List.getElem?_eq_getElem _⟩
    rw [e3] at g3
    rw [e4] at g4
    obtain ⟨c, hc, _⟩ := DataW.trod_int Try.underlying2 g3
    obtain ⟨d, hd, _⟩ := DataW.trod_int Try.underlying2 g4
    cases ha; cases hb; cases hc; cases hd
    exact ⟨⟨a, b, c, d⟩, rfl⟩
theorem rows_map {α : Type} (f : α → List Value) : ∀ (rows : List (List Value)), (∀ r ∈ rows, ∃ x, r = f x) → ∃ l : List α, rows = l.map f
  | [], _ => ⟨[], rfl⟩
  | r :: rs, h => by
    obtain ⟨x, rfl⟩ := h r (by simp)
    obtain ⟨l, rfl⟩ := rows_map f rs fun r hr => h r (by simp [hr])
    exact ⟨x :: l, rfl⟩
set_option maxRecDepth 100000 in
/-- a hall that is handed in -/
theorem openHall {v : Value} {d : DataW H} {p : List MemPlace} (hv : Value.okWide Try.prog W r b0 24 v) (h : DataW.Trod enc Try.prog W base sp held 24 v d p) :
    ∃ (hh : Hall) (sv : Value), v = .agg #[.int .i64 hh.n, .int .i64 hh.most, sv] ∧ IsCnts W sv hh.cs := by
  obtain ⟨v0, v1, v2, y0, y1, y2, n, rfl, -, -, h0, h1, h2⟩ := Go.Joins.open_agg3 Try.underlying24 (by kernel_rfl) (by kernel_rfl) hv h
  obtain ⟨a, ha, _⟩ := DataW.trod_int Try.underlying3 h0
  obtain ⟨b, hb, _⟩ := DataW.trod_int Try.underlying2 h1
  cases ha; cases hb
  obtain ⟨rows, hr, hx⟩ := openRows Try.underlying22 (sz := 4) (by kernel_rfl) (by omega) h2
  obtain ⟨cs, rfl⟩ := rows_map Cnt.cells rows fun row hrow => by
    obtain ⟨hl, m, y', ht⟩ := hx row hrow
    exact openCnt hl ht
  exact ⟨⟨a, b, cs⟩, v2, rfl, hr⟩
set_option maxRecDepth 100000 in
/-- numbers that are handed in -/
theorem openNums {t e : TypeId} (ht : Try.prog.underlying t = some (.slice e)) (he : Try.prog.underlying e = some (.int .i64)) (hc : Try.prog.cellsOf e = 1) {v : Value} {d : DataW H} {p : List MemPlace} (hv : Value.okWide Try.prog W r b0 t v) (h : DataW.Trod enc Try.prog W base sp held t v d p) :
    ∃ l : List Int, IsInts W .i64 v l ∧ ∀ x ∈ l, (Lit.int .i64 x).wf = true := by
  obtain ⟨a0, len, cap, rfl⟩ := okWide_slice ht hv
  obtain ⟨n, hn⟩ := h
  obtain ⟨rows, hr, hx⟩ := openRows ht hc (by omega) (v := .slice a0 len cap) (by simpa [Value.cells] using hn)
  have key : ∀ rs : List (List Value), (∀ row ∈ rs, row.length = 1 ∧ ∃ m y', DataW.trod enc Try.prog W base sp held m e row = some y') → ∃ l : List Int, rs = l.map (fun n => [Value.int .i64 n]) ∧ ∀ x ∈ l, (Lit.int .i64 x).wf = true := by
    intro rs
    induction rs with
    | nil => exact fun _ => ⟨[], rfl, by simp⟩
    | cons row rs ih =>
      intro hh
      obtain ⟨l, rfl, hl⟩ := ih fun r hr => hh r (by simp [hr])
      obtain ⟨_, m, y', ht⟩ := hh row (by simp)
      obtain ⟨x, rfl, _, hw⟩ := DataW.trod_int he ht
      exact ⟨x :: l, rfl, fun y hy => by rcases List.mem_cons.1 hy with rfl | hy; exact hw; exact hl y hy⟩
  obtain ⟨l, rfl, hl⟩ := key rows hx
  exact ⟨l, hr, hl⟩
/-- a step's cells -/
theorem openStp {n : Nat} {row : List Value} {y : DataW H × List MemPlace} (hl : row.length = 3) (h : DataW.trod enc Try.prog W base sp held n 89 row = some y) : ∃ x : Stp, row = x.cells := by
  have ci : Try.prog.cellsOf 3 = 1 := by kernel_rfl
  have cb : Try.prog.cellsOf 4 = 1 := by kernel_rfl
  match row, hl with
  | [v0, v1, v2], _ =>
    obtain ⟨xs, k, _, _, _, hxl, hf⟩ := DataW.trod_struct Try.underlying89 h
    have g0 := hf 0 _ rfl
    have g1 := hf 1 _ rfl
    have g2 := hf 2 _ rfl
    simp [ci, cb] at g0 g1 g2
    obtain ⟨x0, e0⟩ : ∃ x, xs[0]? = some x := ⟨xs[0]'(by rw [hxl]; decide), List.getElem?_eq_getElem _⟩
    obtain ⟨x1, e1⟩ : ∃ x, xs[1]? = some x := ⟨xs[1]'(by rw [hxl]; decide), List.getElem?_eq_getElem _⟩
    obtain ⟨x2, e2⟩ : ∃ x, xs[2]? = some x := ⟨xs[2]'(by rw [hxl]; decide), List.getElem?_eq_getElem _⟩
    rw [e0] at g0
    rw [e1] at g1
    rw [e2] at g2
    obtain ⟨a, ha, _⟩ := DataW.trod_bool Try.underlying4 g0
    obtain ⟨b, hb, _⟩ := DataW.trod_int Try.underlying3 g1
    obtain ⟨c, hc, _⟩ := DataW.trod_bool Try.underlying4 g2
    cases ha; cases hb; cases hc
    exact ⟨⟨a, b, c⟩, rfl⟩
theorem openStps {n : Nat} {v : Value} {y : DataW H × List MemPlace} (h : DataW.trod enc Try.prog W base sp held n 39 [v] = some y) : ∃ l : List Stp, IsStps W v l := by
  obtain ⟨rows, hr, hx⟩ := openRows Try.underlying39 (sz := 3) (by kernel_rfl) (by omega) h
  obtain ⟨l, rfl⟩ := rows_map Stp.cells rows fun row hrow => by
    obtain ⟨hl, m, y', ht⟩ := hx row hrow
    exact openStp hl ht
  exact ⟨l, hr⟩
set_option maxRecDepth 100000 in
/-- steps that are handed in -/
theorem openSteps {v : Value} {d : DataW H} {p : List MemPlace} (hv : Value.okWide Try.prog W r b0 39 v) (h : DataW.Trod enc Try.prog W base sp held 39 v d p) : ∃ l : List Stp, IsStps W v l := by
  obtain ⟨a0, len, cap, rfl⟩ := okWide_slice Try.underlying39 hv
  obtain ⟨n, hn⟩ := h
  exact openStps (n := n) (y := (d, p)) (by simpa [Value.cells] using hn)
set_option maxRecDepth 100000 in
/-- lists of steps that are handed in -/
theorem openRings {v : Value} {d : DataW H} {p : List MemPlace} (hv : Value.okWide Try.prog W r b0 49 v) (h : DataW.Trod enc Try.prog W base sp held 49 v d p) : ∃ ps : List (Value × List Stp), IsRngs W v ps := by
  obtain ⟨a0, len, cap, rfl⟩ := okWide_slice Try.underlying49 hv
  obtain ⟨n, hn⟩ := h
  obtain ⟨rows, hr, hx⟩ := openRows Try.underlying49 (sz := 1) (by kernel_rfl) (by omega) (v := .slice a0 len cap) (n := n) (y := (d, p)) (by simpa [Value.cells] using hn)
  have key : ∀ rs : List (List Value), (∀ row ∈ rs, row.length = 1 ∧ ∃ m y', DataW.trod enc Try.prog W base sp held m 39 row = some y') → ∃ ps : List (Value × List Stp), rs = ps.map (fun x => [x.1]) ∧ ∀ x ∈ ps, IsStps W x.1 x.2 := by
    intro rs
    induction rs with
    | nil => exact fun _ => ⟨[], rfl, by simp⟩
    | cons row rs ih =>
      intro hh
      obtain ⟨ps, rfl, hps⟩ := ih fun r hr => hh r (by simp [hr])
      obtain ⟨hl, m, y', ht⟩ := hh row (by simp)
      match row, hl with
      | [v], _ =>
        obtain ⟨l, hl⟩ := openStps ht
        exact ⟨(v, l) :: ps, rfl, fun y hy => by rcases List.mem_cons.1 hy with rfl | hy; exact hl; exact hps y hy⟩
  obtain ⟨ps, rfl, hps⟩ := key rows hx
  exact ⟨ps, hr, hps⟩
end
end Go.Proofs.Ytgcldgchhdjnhaa
