/-
  Slices that a call has made itself, row by row: what they own, and append onto them.
-/
import Derived.Test.YtgcldgchhdjnhaaBase
import Derived.Deep.AppendLies
import Derived.Deep.RegionLawGrows
import Derived.OwnWalk
namespace Go.Proofs.Ytgcldgchhdjnhaa
open Go.RowKit

/-- a slice type, its element type, and how many cells an element takes -/
structure El (t e : TypeId) (sz : Nat) : Prop where
  und : Try.prog.underlying t = some (.slice e)
  info : ∃ i z, Try.prog.info? e = some i ∧ i.zero = some z ∧ i.size = sz ∧ i.bytes ≤ 64 ∧ z.cells.size = sz
  pos : 0 < sz
theorem El.mk' {t e : TypeId} {sz bytes : Nat} {z : Value} (h1 : Try.prog.underlying t = some (.slice e)) (h2 : (Try.prog.info? e).map (fun i => (i.zero, i.size, i.bytes)) = some (some z, sz, bytes)) (h3 : z.cells.size = sz) (h4 : bytes ≤ 64) (h5 : 0 < sz) : El t e sz := by
  obtain ⟨i, hi, a, b, c⟩ := info_parts h2
  exact ⟨h1, ⟨i, z, hi, a, b, by omega, h3⟩, h5⟩
/-- the slice v, of so many rows, owns them: its block lies from B on -/
def Owns (w : World) (B : Nat) (e : TypeId) (sz : Nat) (v : Value) (rows : List (List Value)) : Prop :=
  w.ownsRow B e sz v rows.length rows.flatten ∧ ∀ r ∈ rows, r.length = sz
theorem Owns.nil (w : World) (B : Nat) (e : TypeId) (sz : Nat) : Owns w B e sz (.slice none 0 0) [] := ⟨World.ownsRow_nil w B e sz, by simp⟩
theorem flatten_len {sz : Nat} : ∀ {rows : List (List Value)}, (∀ r ∈ rows, r.length = sz) → rows.flatten.length = rows.length * sz
  | [], _ => by simp
  | r :: rs, h => by
    have := flatten_len (rows := rs) fun x hx => h x (by simp [hx])
    simp only [List.flatten_cons, List.length_append, List.length_cons, this, h r (by simp), Nat.add_mul, Nat.one_mul]
    omega
theorem RowsAt.tail {w : World} {sz b off : Nat} {r : List Value} {rs : List (List Value)} (h : RowsAt w sz b off (r :: rs)) : RowsAt w sz b (off + sz) rs := fun i hi j hj => by
  have := h (i + 1) (by simp; omega) j (by simpa using hj)
  have e : off + (i + 1) * sz + j = off + sz + i * sz + j := by rw [Nat.add_mul]; omega
  rw [e] at this
  simpa using this
theorem rows_flat {w : World} {sz b : Nat} : ∀ {rows : List (List Value)} {off : Nat}, (∀ r ∈ rows, r.length = sz) → RowsAt w sz b off rows → ∀ j u, rows.flatten[j]? = some u → w.cell? ⟨b, off + j, none⟩ = some u
  | [], _, _, _, j, u, h => by simp at h
  | r :: rs, off, hr, hc, j, u, h => by
    rw [List.flatten_cons] at h
    have hrl := hr r (by simp)
    by_cases hj : j < r.length
    · rw [List.getElem?_append_left hj] at h
      have := hc 0 (by simp) j (by simpa using hj)
      rw [List.getElem?_eq_getElem hj] at h
      cases h
      simpa using this
    · rw [List.getElem?_append_right (by omega)] at h
      have := rows_flat (fun x hx => hr x (by simp [hx])) hc.tail _ u h
      have e : off + sz + (j - r.length) = off + j := by omega
      rw [e] at this
      exact this
theorem flat_rows {w : World} {sz b : Nat} : ∀ {rows : List (List Value)} {off : Nat}, (∀ r ∈ rows, r.length = sz) → (∀ j u, rows.flatten[j]? = some u → w.cell? ⟨b, off + j, none⟩ = some u) → RowsAt w sz b off rows
  | [], _, _, _ => fun i hi => by simp at hi
  | r :: rs, off, hr, hc => by
    have hrl := hr r (by simp)
    have ih : RowsAt w sz b (off + sz) rs := flat_rows (fun x hx => hr x (by simp [hx])) fun j u h => by
      have := hc (r.length + j) u (by rw [List.flatten_cons, List.getElem?_append_right (by omega)]; simpa using h)
      have e : off + (r.length + j) = off + sz + j := by omega
      rw [e] at this
      exact this
    intro i hi j hj
    match i, hi, hj with
    | 0, _, hj =>
      simp only [List.getElem_cons_zero] at hj ⊢
      have := hc j r[j] (by rw [List.flatten_cons, List.getElem?_append_left hj, List.getElem?_eq_getElem hj])
      simpa using this
    | i + 1, hi, hj =>
      simp only [List.getElem_cons_succ] at hj ⊢
      have := ih i (by simpa using hi) j hj
      have e : off + sz + i * sz + j = off + (i + 1) * sz + j := by rw [Nat.add_mul]; omega
      rw [e] at this
      exact this
theorem addr_add (b off j : Nat) : (⟨b, off, none⟩ : Addr).add j = ⟨b, off + j, none⟩ := by simp [Addr.add]

/-- what it looks like -/
theorem Owns.form {w : World} {B : Nat} {e : TypeId} {sz : Nat} {v : Value} {rows : List (List Value)} (h : Owns w B e sz v rows) :
    ∃ sa cap, v = .slice sa rows.length cap ∧ rows.length ≤ cap ∧ cap ≤ 9223372036854775807 ∧ ((rows = [] ∧ sa = none ∧ cap = 0) ∨ ∃ g, sa = some ⟨g, 0, none⟩ ∧ B ≤ g ∧ g < w.heap.size ∧ RowsAt w sz g 0 rows ∧ ∀ o, w.frozen? ⟨g, o, none⟩ = false) := by
  obtain ⟨⟨h1, h2⟩, h3⟩ := h
  rcases h2 with ⟨rfl, hn⟩ | ⟨g, cap, cur, rfl, hb, hg, hc, hm, hs, ht⟩
  · have : rows = [] := List.eq_nil_of_length_eq_zero hn
    subst this
    exact ⟨none, 0, rfl, by simp, by omega, .inl ⟨rfl, rfl, rfl⟩⟩
  · refine ⟨_, cap, rfl, hc, by simpa [maxLen] using hm, .inr ⟨g, rfl, hb, (Array.getElem?_eq_some_iff.1 hg).1, flat_rows h3 fun j u hj => ?_, fun o => by simp [World.frozen?, hg]⟩⟩
    have ho : w.ownsRow B e sz (.slice (some ⟨g, 0, none⟩) rows.length cap) rows.length rows.flatten := ⟨h1, .inr ⟨g, cap, cur, rfl, hb, hg, hc, hm, hs, ht⟩⟩
    have := ho.cells (g := g) rfl j u hj
    rwa [addr_add] at this
theorem Owns.isRows {w : World} {B : Nat} {e : TypeId} {sz : Nat} {v : Value} {rows : List (List Value)} (h : Owns w B e sz v rows) : IsRows w sz v rows := by
  obtain ⟨sa, cap, rfl, h1, h2, h3⟩ := h.form
  refine ⟨sa, cap, rfl, h1, h2, ?_⟩
  rcases h3 with ⟨h3, _⟩ | ⟨g, rfl, _, _, h3, _⟩
  · exact .inl h3
  · exact .inr ⟨g, 0, rfl, h3⟩
theorem Owns.of_heap {w w' : World} {B : Nat} {e : TypeId} {sz : Nat} {v : Value} {rows : List (List Value)} (h : Owns w B e sz v rows) (hh : ∀ k, B ≤ k → k < w.heap.size → w'.heap[k]? = w.heap[k]?) : Owns w' B e sz v rows := by
  refine ⟨⟨h.1.1, ?_⟩, h.2⟩
  rcases h.1.2 with a | ⟨g, cap, cur, hv, hb, hg, hr⟩
  · exact .inl a
  · exact .inr ⟨g, cap, cur, hv, hb, by rw [hh g hb (Array.getElem?_eq_some_iff.1 hg).1]; exact hg, hr⟩
theorem Owns.ext {w w' : World} (hx : Ext w w') {B : Nat} {e : TypeId} {sz : Nat} {v : Value} {rows : List (List Value)} (h : Owns w B e sz v rows) : Owns w' B e sz v rows := h.of_heap fun k _ hk => hx.block k hk
theorem Owns.base {w : World} {B B' : Nat} (hB : B' ≤ B) {e : TypeId} {sz : Nat} {v : Value} {rows : List (List Value)} (h : Owns w B e sz v rows) : Owns w B' e sz v rows := by
  refine ⟨⟨h.1.1, ?_⟩, h.2⟩
  rcases h.1.2 with a | ⟨g, cap, cur, hv, hb, hr⟩
  · exact .inl a
  · exact .inr ⟨g, cap, cur, hv, by omega, hr⟩

section
variable {w : World}
theorem app_run {t e : TypeId} {sz : Nat} (el : El t e sz) (ty : TypeId) (B : Nat) {v : Value} {rows : List (List Value)} (hown : Owns w B e sz v rows) (b off c : Nat) (news : List (List Value))
    (hr : ∀ r ∈ news, r.length = sz) (hc : RowsAt w sz b off news) (h1 : ∀ r ∈ news, ∀ u ∈ r, u.oneCell' = true) (hn : rows.length + news.length ≤ 1000000) (hB : B ≤ w.heap.size) :
    ∃ v' w', (Builtin.append_ #[t, t] ty #[v, .slice (some ⟨b, off, none⟩) news.length c]).run Try.prog w = .ok v' w' ∧ Owns w' B e sz v' (rows ++ news) ∧ Below B w w' := by
  obtain ⟨i, z, hi, hz, hs, hby, hzs⟩ := el.info
  obtain ⟨v', w', hrun, ho, hg, _⟩ := run_append_own (P := Try.prog) w B t ty e i z sz i.bytes el.und hi hz hs rfl hzs el.pos v rows.length rows.flatten hown.1 ⟨b, off, none⟩ news.length c news.flatten (flatten_len hr)
    (fun j u hj => by rw [addr_add]; exact rows_flat hr hc j u hj) (fun u hu => by obtain ⟨r, hr1, hr2⟩ := List.mem_flatten.1 hu; exact h1 r hr1 u hr2) (by simp [maxLen]; omega)
    (by have := Nat.mul_le_mul hn hby; omega) hB
  refine ⟨v', w', hrun, ⟨by simpa using ho, fun r hr' => ?_⟩, (Below.refl B w).grown hg hB fun k hk => (hown.1.lt k hk).1⟩
  rcases List.mem_append.1 hr' with h | h
  · exact hown.2 r h
  · exact hr r h
theorem stepOwn {ops : Array Oper} {o : Oper} {a : Act} {K : Act → World → Prop} {Q : Exit → Act → World → Prop} {E : Prop} (hgd : o.guard = none) (s x : Operand) {t e : TypeId} {sz : Nat} (el : El t e sz)
    (ho : o.op = .call { callee := .builtin .append, args := #[s, x], argTypes := #[t, t] }) (B : Nat) {v : Value} {rows : List (List Value)} (hs : a.eval s = v) (hown : Owns w B e sz v rows)
    (b off c : Nat) (news : List (List Value)) (hx : a.eval x = .slice (some ⟨b, off, none⟩) news.length c) (hr : ∀ r ∈ news, r.length = sz) (hc : RowsAt w sz b off news) (h1 : ∀ r ∈ news, ∀ u ∈ r, u.oneCell' = true)
    (hn : rows.length + news.length ≤ 1000000) (hB : B ≤ w.heap.size)
    (h : ∀ v' w', Owns w' B e sz v' (rows ++ news) → Below B w w' → K (a.put o.dst v') w') : if Region.wanted o (yielded ops a.tmps) = true then Oper.wp Try.prog o a w K Q else E := by
  have hw : Region.wanted o (yielded ops a.tmps) = true := by simp [Region.wanted, hgd]
  rw [if_pos hw]
  obtain ⟨v', w', hrun, h2, h3⟩ := app_run el o.type B hown b off c news hr hc h1 hn hB
  unfold Oper.wp execOp
  simp only [ho, resolve, invoke, builtin, Sem.run_bind, Sem.run_pure, Result.andThen_ok, List.map_toArray, List.map_cons, List.map_nil, hs, hx, hrun]
  exact h v' w' h2 h3
theorem wpOwn {ops : Array Oper} {rest : List Oper} {o : Oper} {a : Act} {Q : Exit → Act → World → Prop} (hgd : o.guard = none) (s x : Operand) {t e : TypeId} {sz : Nat} (el : El t e sz)
    (ho : o.op = .call { callee := .builtin .append, args := #[s, x], argTypes := #[t, t] }) (B : Nat) {v : Value} {rows : List (List Value)} (hs : a.eval s = v) (hown : Owns w B e sz v rows)
    (b off c : Nat) (news : List (List Value)) (hx : a.eval x = .slice (some ⟨b, off, none⟩) news.length c) (hr : ∀ r ∈ news, r.length = sz) (hc : RowsAt w sz b off news) (h1 : ∀ r ∈ news, ∀ u ∈ r, u.oneCell' = true)
    (hn : rows.length + news.length ≤ 1000000) (hB : B ≤ w.heap.size)
    (h : ∀ v' w', Owns w' B e sz v' (rows ++ news) → Below B w w' → wpList Try.prog ops Q rest (a.put o.dst v') w') : wpList Try.prog ops Q (o :: rest) a w :=
  wpList_plain hgd fun K hK => by
    obtain ⟨v', w', hrun, h2, h3⟩ := app_run el o.type B hown b off c news hr hc h1 hn hB
    unfold Oper.wp execOp
    simp only [ho, resolve, invoke, builtin, Sem.run_bind, Sem.run_pure, Result.andThen_ok, List.map_toArray, List.map_cons, List.map_nil, hs, hx, hrun]
    exact hK _ _ (h v' w' h2 h3)
/-- append onto a slice without room: a new one -/
theorem stepGrow {ops : Array Oper} {o : Oper} {a : Act} {K : Act → World → Prop} {Q : Exit → Act → World → Prop} {E : Prop} (hgd : o.guard = none) (s x : Operand) {t e : TypeId} {sz : Nat} (el : El t e sz)
    (ho : o.op = .call { callee := .builtin .append, args := #[s, x], argTypes := #[t, t] }) (ao : Option Addr) (cap : Nat) {rows : List (List Value)} (hs : a.eval s = .slice ao rows.length cap) (hrows : ∀ r ∈ rows, r.length = sz)
    (hold : (ao = none ∧ rows = [] ∧ cap = 0) ∨ ∃ b off, ao = some ⟨b, off, none⟩ ∧ RowsAt w sz b off rows)
    (b off c : Nat) (news : List (List Value)) (hx : a.eval x = .slice (some ⟨b, off, none⟩) news.length c) (hr : ∀ r ∈ news, r.length = sz) (hc : RowsAt w sz b off news) (h1 : ∀ r ∈ news, ∀ u ∈ r, u.oneCell' = true)
    (hfull : cap < rows.length + news.length) (hn : rows.length + news.length ≤ 1000000)
    (h : ∀ v' w', Owns w' w.heap.size e sz v' (rows ++ news) → Below w.heap.size w w' → K (a.put o.dst v') w') : if Region.wanted o (yielded ops a.tmps) = true then Oper.wp Try.prog o a w K Q else E := by
  obtain ⟨i, z, hi, hz, hsz, hby, hzs⟩ := el.info
  refine step_append_grows hgd s x t ho e i z sz i.bytes el.und hi hz hsz rfl hzs el.pos ao rows.length cap rows.flatten hs ?_ (flatten_len hrows) ?_ ⟨b, off, none⟩ news.length c news.flatten hx (flatten_len hr)
    (fun j u hj => by rw [addr_add]; exact rows_flat hr hc j u hj) (fun u hu => by obtain ⟨r, hr1, hr2⟩ := List.mem_flatten.1 hu; exact h1 r hr1 u hr2) hfull (by simp [maxLen]; omega)
    (by have := Nat.mul_le_mul hn hby; omega) ?_
  · intro hao
    rcases hold with ⟨_, h1, h2⟩ | ⟨b, off, h1, _⟩
    · subst h1; exact ⟨rfl, h2⟩
    · rw [hao] at h1; cases h1
  · intro b' hb' j u hj
    rcases hold with ⟨h1, h2, _⟩ | ⟨b2, off2, h1, h2⟩
    · rw [hb'] at h1; cases h1
    · rw [hb'] at h1
      cases h1
      rw [addr_add]
      exact rows_flat hrows h2 j u hj
  · intro v' w' hown hg
    refine h v' w' ⟨by simpa using hown, fun r hr' => ?_⟩ ((Below.refl _ w).grown hg (Nat.le_refl _) fun k hk => by cases hk)
    rcases List.mem_append.1 hr' with h | h
    · exact hrows r h
    · exact hr r h
end
/-- one row, cell by cell -/
theorem rowsAt_one {w : World} {sz b off : Nat} {r : List Value} (h : ∀ j, (hj : j < r.length) → w.cell? ⟨b, off + j, none⟩ = some r[j]) : RowsAt w sz b off [r] := fun i hi j hj => by
  have hi0 : i = 0 := by simp at hi; omega
  subst hi0
  simpa using h j (by simpa using hj)
end Go.Proofs.Ytgcldgchhdjnhaa
