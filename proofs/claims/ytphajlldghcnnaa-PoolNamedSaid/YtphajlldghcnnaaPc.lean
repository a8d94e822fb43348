/-
 Slices that a call has made itself, row by row: what they own, and append onto them.
 Small laws that the walks of all chapters share: calls at worlds that have grown, operations of drawn regions, slices and rows that a call has made.
 Plain: books, what is odd about one, and which error it is.
 slices.IndexFunc and slices.ContainsFunc at each type of elements that the chapter uses: where the first good element stands, whatever closure tells which are good (it must answer in every later world, and turn nothing that there was).
-/
import Derived.Test.YtphajlldghcnnaaPb
import Derived.Deep.AppendLies
import Derived.Deep.RegionLawGrows
import Derived.OwnWalk
import Derived.StillTailTactics
import Derived.IntWalk
import Derived.Laws.CopyOwn
import Derived.Deep.Cut
namespace Go.Proofs.Ytphajlldghcnnaa
open Go.RowKit

/-- a slice type, its element type, and how many cells an element takes -/
structure El (t e : TypeId) (sz : Nat) : Prop where
 und : Try.prog.underlying t = some (.slice e)
 info : ∃ i z, Try.prog.info? e = some i ∧ i.zero = some z ∧ i.size = sz ∧ i.bytes ≤ 64 ∧ z.cells.size = sz
 pos : 0 < sz
theorem El.mk' {t e : TypeId} {sz bytes : Nat} {z : Value} (h1 : Try.prog.underlying t = some (.slice e)) (h2 : (Try.prog.info? e).map (fun i => (i.zero, i.size, i.bytes)) = some (some z, sz, bytes)) (h3 : z.cells.size = sz) (h4 : bytes ≤ 64) (h5 : 0 < sz) : El t e sz := by
 obtain ⟨i, hi, a, b, c⟩ := info_parts h2
 exact ⟨h1, ⟨i, z, hi, a, b, by omega, h3⟩, h5⟩
/-- the slice v, of so many rows, owns them: its block lies from B on -/
def Owns (w : World) (B : Nat) (e : TypeId) (sz : Nat) (v : Value) (rows : List (List Value)) : Prop :=
 w.ownsRow B e sz v rows.length rows.flatten ∧ ∀ r ∈ rows, r.length = sz
theorem Owns.nil (w : World) (B : Nat) (e : TypeId) (sz : Nat) : Owns w B e sz (.slice none 0 0) [] := ⟨World.ownsRow_nil w B e sz, by simp⟩
theorem flatten_len {sz : Nat} : ∀ {rows : List (List Value)}, (∀ r ∈ rows, r.length = sz) → rows.flatten.length = rows.length * sz
 | [], _ => by simp
 | r :: rs, h => by
  have := flatten_len (rows := rs) fun x hx => h x (by simp [hx])
  simp only [List.flatten_cons, List.length_append, List.length_cons, this, h r (by simp), Nat.add_mul, Nat.one_mul]
  omega
theorem RowsAt.tail {w : World} {sz b off : Nat} {r : List Value} {rs : List (List Value)} (h : RowsAt w sz b off (r :: rs)) : RowsAt w sz b (off + sz) rs := fun i hi j hj => by
 have := h (i + 1) (by simp; omega) j (by simpa using hj)
 have e : off + (i + 1) * sz + j = off + sz + i * sz + j := by rw [Nat.add_mul]; omega
 rw [e] at this
 simpa using this
theorem rows_flat {w : World} {sz b : Nat} : ∀ {rows : List (List Value)} {off : Nat}, (∀ r ∈ rows, r.length = sz) → RowsAt w sz b off rows → ∀ j u, rows.flatten[j]? = some u → w.cell? ⟨b, off + j, none⟩ = some u
 | [], _, _, _, j, u, h => by simp at h
 | r :: rs, off, hr, hc, j, u, h => by
  rw [List.flatten_cons] at h
  have hrl := hr r (by simp)
  by_cases hj : j < r.length
  ·rw [List.getElem?_append_left hj] at h
   have := hc 0 (by simp) j (by simpa using hj)
   rw [List.getElem?_eq_getElem hj] at h
   cases h
   simpa using this
  ·rw [List.getElem?_append_right (by omega)] at h
   have := rows_flat (fun x hx => hr x (by simp [hx])) hc.tail _ u h
   have e : off + sz + (j - r.length) = off + j := by omega
   rw [e] at this
   exact this
theorem flat_rows {w : World} {sz b : Nat} : ∀ {rows : List (List Value)} {off : Nat}, (∀ r ∈ rows, r.length = sz) → (∀ j u, rows.flatten[j]? = some u → w.cell? ⟨b, off + j, none⟩ = some u) → RowsAt w sz b off rows
 | [], _, _, _ => fun i hi => by simp at hi
 | r :: rs, off, hr, hc => by
  have hrl := hr r (by simp)
  have ih : RowsAt w sz b (off + sz) rs := flat_rows (fun x hx => hr x (by simp [hx])) fun j u h => by
   have := hc (r.length + j) u (by rw [List.flatten_cons, List.getElem?_append_right (by omega)]; simpa using h)
   have e : off + (r.length + j) = off + sz + j := by omega
   rw [e] at this
   exact this
  intro i hi j hj
  match i, hi, hj with
  | 0, _, hj =>
   simp only [List.getElem_cons_zero] at hj ⊢
   have := hc j r[j] (by rw [List.flatten_cons, List.getElem?_append_left hj, List.getElem?_eq_getElem hj])
   simpa using this
  | i + 1, hi, hj =>
   simp only [List.getElem_cons_succ] at hj ⊢
   have := ih i (by simpa using hi) j hj
   have e : off + sz + i * sz + j = off + (i + 1) * sz + j := by rw [Nat.add_mul]; omega
   rw [e] at this
   exact this
theorem addr_add (b off j : Nat) : (⟨b, off, none⟩ : Addr).add j = ⟨b, off + j, none⟩ := by simp [Addr.add]

/-- what it looks like -/
theorem Owns.form {w : World} {B : Nat} {e : TypeId} {sz : Nat} {v : Value} {rows : List (List Value)} (h : Owns w B e sz v rows) :
  ∃ sa cap, v = .slice sa rows.length cap ∧ rows.length ≤ cap ∧ cap ≤ 9223372036854775807 ∧ ((rows = [] ∧ sa = none ∧ cap = 0) ∨ ∃ g, sa = some ⟨g, 0, none⟩ ∧ B ≤ g ∧ g < w.heap.size ∧ RowsAt w sz g 0 rows ∧ ∀ o, w.frozen? ⟨g, o, none⟩ = false) := by
 obtain ⟨⟨h1, h2⟩, h3⟩ := h
 rcases h2 with ⟨rfl, hn⟩ | ⟨g, cap, cur, rfl, hb, hg, hc, hm, hs, ht⟩
 ·have : rows = [] := List.eq_nil_of_length_eq_zero hn
  subst this
  exact ⟨none, 0, rfl, by simp, by omega, .inl ⟨rfl, rfl, rfl⟩⟩
 ·refine ⟨_, cap, rfl, hc, by simpa [maxLen] using hm, .inr ⟨g, rfl, hb, (Array.getElem?_eq_some_iff.1 hg).1, flat_rows h3 fun j u hj => ?_, fun o => by simp [World.frozen?, hg]⟩⟩
  have ho : w.ownsRow B e sz (.slice (some ⟨g, 0, none⟩) rows.length cap) rows.length rows.flatten := ⟨h1, .inr ⟨g, cap, cur, rfl, hb, hg, hc, hm, hs, ht⟩⟩
  have := ho.cells (g := g) rfl j u hj
  rwa [addr_add] at this
theorem Owns.isRows {w : World} {B : Nat} {e : TypeId} {sz : Nat} {v : Value} {rows : List (List Value)} (h : Owns w B e sz v rows) : IsRows w sz v rows := by
 obtain ⟨sa, cap, rfl, h1, h2, h3⟩ := h.form
 refine ⟨sa, cap, rfl, h1, h2, ?_⟩
 rcases h3 with ⟨h3, _⟩ | ⟨g, rfl, _, _, h3, _⟩
 ·exact .inl h3
 ·exact .inr ⟨g, 0, rfl, h3⟩
theorem Owns.of_heap {w w' : World} {B : Nat} {e : TypeId} {sz : Nat} {v : Value} {rows : List (List Value)} (h : Owns w B e sz v rows) (hh : ∀ k, B ≤ k → k < w.heap.size → w'.heap[k]? = w.heap[k]?) : Owns w' B e sz v rows := by
 refine ⟨⟨h.1.1, ?_⟩, h.2⟩
 rcases h.1.2 with a | ⟨g, cap, cur, hv, hb, hg, hr⟩
 ·exact .inl a
 ·exact .inr ⟨g, cap, cur, hv, hb, by rw [hh g hb (Array.getElem?_eq_some_iff.1 hg).1]; exact hg, hr⟩
theorem Owns.ext {w w' : World} (hx : Ext w w') {B : Nat} {e : TypeId} {sz : Nat} {v : Value} {rows : List (List Value)} (h : Owns w B e sz v rows) : Owns w' B e sz v rows := h.of_heap fun k _ hk => hx.block k hk
theorem Owns.base {w : World} {B B' : Nat} (hB : B' ≤ B) {e : TypeId} {sz : Nat} {v : Value} {rows : List (List Value)} (h : Owns w B e sz v rows) : Owns w B' e sz v rows := by
 refine ⟨⟨h.1.1, ?_⟩, h.2⟩
 rcases h.1.2 with a | ⟨g, cap, cur, hv, hb, hr⟩
 ·exact .inl a
 ·exact .inr ⟨g, cap, cur, hv, by omega, hr⟩

section
variable {w : World}
theorem app_run {t e : TypeId} {sz : Nat} (el : El t e sz) (ty : TypeId) (B : Nat) {v : Value} {rows : List (List Value)} (hown : Owns w B e sz v rows) (b off c : Nat) (news : List (List Value))
  (hr : ∀ r ∈ news, r.length = sz) (hc : RowsAt w sz b off news) (h1 : ∀ r ∈ news, ∀ u ∈ r, u.oneCell' = true) (hn : rows.length + news.length ≤ 1000000) (hB : B ≤ w.heap.size) :
  ∃ v' w', (Builtin.append_ #[t, t] ty #[v, .slice (some ⟨b, off, none⟩) news.length c]).run Try.prog w = .ok v' w' ∧ Owns w' B e sz v' (rows ++ news) ∧ Below B w w' := by
 obtain ⟨i, z, hi, hz, hs, hby, hzs⟩ := el.info
 obtain ⟨v', w', hrun, ho, hg, _⟩ := run_append_own (P := Try.prog) w B t ty e i z sz i.bytes el.und hi hz hs rfl hzs el.pos v rows.length rows.flatten hown.1 ⟨b, off, none⟩ news.length c news.flatten (flatten_len hr)
  (fun j u hj => by rw [addr_add]; exact rows_flat hr hc j u hj) (fun u hu => by obtain ⟨r, hr1, hr2⟩ := List.mem_flatten.1 hu; exact h1 r hr1 u hr2) (by simp [maxLen]; omega)
  (by have := Nat.mul_le_mul hn hby; omega) hB
 refine ⟨v', w', hrun, ⟨by simpa using ho, fun r hr' => ?_⟩, (Below.refl B w).grown hg hB fun k hk => (hown.1.lt k hk).1⟩
 rcases List.mem_append.1 hr' with h | h
 ·exact hown.2 r h
 ·exact hr r h
theorem stepOwn {ops : Array Oper} {o : Oper} {a : Act} {K : Act → World → Prop} {Q : Exit → Act → World → Prop} {E : Prop} (hgd : o.guard = none) (s x : Operand) {t e : TypeId} {sz : Nat} (el : El t e sz)
  (ho : o.op = .call { callee := .builtin .append, args := #[s, x], argTypes := #[t, t] }) (B : Nat) {v : Value} {rows : List (List Value)} (hs : a.eval s = v) (hown : Owns w B e sz v rows)
  (b off c : Nat) (news : List (List Value)) (hx : a.eval x = .slice (some ⟨b, off, none⟩) news.length c) (hr : ∀ r ∈ news, r.length = sz) (hc : RowsAt w sz b off news) (h1 : ∀ r ∈ news, ∀ u ∈ r, u.oneCell' = true)
  (hn : rows.length + news.length ≤ 1000000) (hB : B ≤ w.heap.size)
  (h : ∀ v' w', Owns w' B e sz v' (rows ++ news) → Below B w w' → K (a.put o.dst v') w') : if Region.wanted o (yielded ops a.tmps) = true then Oper.wp Try.prog o a w K Q else E := by
 have hw : Region.wanted o (yielded ops a.tmps) = true := by simp [Region.wanted, hgd]
 rw [if_pos hw]
 obtain ⟨v', w', hrun, h2, h3⟩ := app_run el o.type B hown b off c news hr hc h1 hn hB
 unfold Oper.wp execOp
 simp only [ho, resolve, invoke, builtin, Sem.run_bind, Sem.run_pure, Result.andThen_ok, List.map_toArray, List.map_cons, List.map_nil, hs, hx, hrun]
 exact h v' w' h2 h3
theorem wpOwn {ops : Array Oper} {rest : List Oper} {o : Oper} {a : Act} {Q : Exit → Act → World → Prop} (hgd : o.guard = none) (s x : Operand) {t e : TypeId} {sz : Nat} (el : El t e sz)
  (ho : o.op = .call { callee := .builtin .append, args := #[s, x], argTypes := #[t, t] }) (B : Nat) {v : Value} {rows : List (List Value)} (hs : a.eval s = v) (hown : Owns w B e sz v rows)
  (b off c : Nat) (news : List (List Value)) (hx : a.eval x = .slice (some ⟨b, off, none⟩) news.length c) (hr : ∀ r ∈ news, r.length = sz) (hc : RowsAt w sz b off news) (h1 : ∀ r ∈ news, ∀ u ∈ r, u.oneCell' = true)
  (hn : rows.length + news.length ≤ 1000000) (hB : B ≤ w.heap.size)
  (h : ∀ v' w', Owns w' B e sz v' (rows ++ news) → Below B w w' → wpList Try.prog ops Q rest (a.put o.dst v') w') : wpList Try.prog ops Q (o :: rest) a w :=
 wpList_plain hgd fun K hK => by
  obtain ⟨v', w', hrun, h2, h3⟩ := app_run el o.type B hown b off c news hr hc h1 hn hB
  unfold Oper.wp execOp
  simp only [ho, resolve, invoke, builtin, Sem.run_bind, Sem.run_pure, Result.andThen_ok, List.map_toArray, List.map_cons, List.map_nil, hs, hx, hrun]
  exact hK _ _ (h v' w' h2 h3)
/-- append onto a slice without room: a new one -/
theorem stepGrow {ops : Array Oper} {o : Oper} {a : Act} {K : Act → World → Prop} {Q : Exit → Act → World → Prop} {E : Prop} (hgd : o.guard = none) (s x : Operand) {t e : TypeId} {sz : Nat} (el : El t e sz)
  (ho : o.op = .call { callee := .builtin .append, args := #[s, x], argTypes := #[t, t] }) (ao : Option Addr) (cap : Nat) {rows : List (List Value)} (hs : a.eval s = .slice ao rows.length cap) (hrows : ∀ r ∈ rows, r.length = sz)
  (hold : (ao = none ∧ rows = [] ∧ cap = 0) ∨ ∃ b off, ao = some ⟨b, off, none⟩ ∧ RowsAt w sz b off rows)
  (b off c : Nat) (news : List (List Value)) (hx : a.eval x = .slice (some ⟨b, off, none⟩) news.length c) (hr : ∀ r ∈ news, r.length = sz) (hc : RowsAt w sz b off news) (h1 : ∀ r ∈ news, ∀ u ∈ r, u.oneCell' = true)
  (hfull : cap < rows.length + news.length) (hn : rows.length + news.length ≤ 1000000)
  (h : ∀ v' w', Owns w' w.heap.size e sz v' (rows ++ news) → Below w.heap.size w w' → K (a.put o.dst v') w') : if Region.wanted o (yielded ops a.tmps) = true then Oper.wp Try.prog o a w K Q else E := by
 obtain ⟨i, z, hi, hz, hsz, hby, hzs⟩ := el.info
 refine step_append_grows hgd s x t ho e i z sz i.bytes el.und hi hz hsz rfl hzs el.pos ao rows.length cap rows.flatten hs ?_ (flatten_len hrows) ?_ ⟨b, off, none⟩ news.length c news.flatten hx (flatten_len hr)
  (fun j u hj => by rw [addr_add]; exact rows_flat hr hc j u hj) (fun u hu => by obtain ⟨r, hr1, hr2⟩ := List.mem_flatten.1 hu; exact h1 r hr1 u hr2) hfull (by simp [maxLen]; omega)
  (by have := Nat.mul_le_mul hn hby; omega) ?_
 ·intro hao
  rcases hold with ⟨_, h1, h2⟩ | ⟨b, off, h1, _⟩
  ·subst h1; exact ⟨rfl, h2⟩
  ·rw [hao] at h1; cases h1
 ·intro b' hb' j u hj
  rcases hold with ⟨h1, h2, _⟩ | ⟨b2, off2, h1, h2⟩
  ·rw [hb'] at h1; cases h1
  ·rw [hb'] at h1
   cases h1
   rw [addr_add]
   exact rows_flat hrows h2 j u hj
 ·intro v' w' hown hg
  refine h v' w' ⟨by simpa using hown, fun r hr' => ?_⟩ ((Below.refl _ w).grown hg (Nat.le_refl _) fun k hk => by cases hk)
  rcases List.mem_append.1 hr' with h | h
  ·exact hrows r h
  ·exact hr r h
end
/-- one row, cell by cell -/
theorem rowsAt_one {w : World} {sz b off : Nat} {r : List Value} (h : ∀ j, (hj : j < r.length) → w.cell? ⟨b, off + j, none⟩ = some r[j]) : RowsAt w sz b off [r] := fun i hi j hj => by
 have hi0 : i = 0 := by simp at hi; omega
 subst hi0
 simpa using h j (by simpa using hj)
end Go.Proofs.Ytphajlldghcnnaa
namespace Go.Proofs.Ytphajlldghcnnaa
open Go.RowKit Go.Shelf
def upd {α : Type} (f : Nat → α) (i : Nat) (v : α) : Nat → α := fun j => if j = i then v else f j
theorem upd_off {α : Type} (f : Nat → α) {i j : Nat} (v : α) (h : j ≠ i) : upd f i v j = f j := by simp [upd, h]
/-- a call behind another one: one growth in the place of two -/
theorem callGr2 {P : Program} {f : FuncId} {args : Array Value} {w : World} {g0 : Gr w} {v : Value} {Q : Ending → World → Prop} (h : Calls P f args (grow w g0) fun e w' => e = .returned v ∧ Ext (grow w g0) w') (k : ∀ g, Q (.returned v) (grow w g)) : Calls P f args (grow w g0) Q :=
 h.mono fun e w' ⟨he, hb⟩ => by
  obtain ⟨g, rfl⟩ := grow_of (Ext.trans' (grow_below w g0) hb)
  subst he
  exact k g
/-- a call at a world that W0 has grown to -/
theorem callW {P : Program} {f : FuncId} {args : Array Value} {W0 W : World} {g : Gr W0} {v : Value} {Q : Ending → World → Prop} (hW : Ext (grow W0 g) W) (h : Calls P f args W fun e w' => e = .returned v ∧ Ext W w')
  (k : ∀ g', Ext (grow W0 g) (grow W0 g') → Q (.returned v) (grow W0 g')) : Calls P f args W Q :=
 h.mono fun e w' ⟨he, hb⟩ => by
  have h1 := hW.trans' hb
  obtain ⟨g', rfl⟩ := grow_of (Ext.trans' (grow_below W0 g) h1)
  subst he
  exact k g' h1
theorem callWR {P : Program} {f : FuncId} {args : Array Value} {W0 W : World} {g : Gr W0} {Q : Ending → World → Prop} {R : Ending → World → Prop} (hW : Ext (grow W0 g) W) (h : Calls P f args W R) (hR : ∀ e w', R e w' → Ext W w')
  (k : ∀ e g', Ext (grow W0 g) (grow W0 g') → R e (grow W0 g') → Q e (grow W0 g')) : Calls P f args W Q :=
 h.mono fun e w' hr => by
  have h1 := hW.trans' (hR e w' hr)
  obtain ⟨g', rfl⟩ := grow_of (Ext.trans' (grow_below W0 g) h1)
  exact k e g' h1 hr
theorem set_off {cur : Array Value} {o i : Nat} (v : Value) (h : o ≠ i) : (cur.setIfInBounds o v)[i]? = cur[i]? := by
 rw [Array.getElem?_setIfInBounds, if_neg h]
theorem set_on {cur : Array Value} {o : Nat} (v : Value) (h : o < cur.size) : (cur.setIfInBounds o v)[o]? = some v := by
 rw [Array.getElem?_setIfInBounds, if_pos rfl, if_pos h]
theorem heap_setCell_row {W : World} {b : Nat} {cur : Array Value} {t : TypeId} (h : W.heap[b]? = some (.cells cur t (0, 0))) (o : Nat) (v : Value) :
  (W.setCell ⟨b, o, none⟩ v).heap[b]? = some (.cells (cur.setIfInBounds o v) t (0, 0)) := by
 simp [World.setCell, Array.getElem?_modify, h]
theorem Owns.isSlice {w : World} {B : Nat} {e : TypeId} {sz : Nat} {v : Value} {rows : List (List Value)} (h : Owns w B e sz v rows) : ∃ sa n cap, v = .slice sa n cap := by
 obtain ⟨sa, cap, e, _⟩ := h.form
 exact ⟨sa, _, cap, e⟩
def iRow (n : Int) : List Value := [.int .i64 n]
/-- what is appended: rows, or nothing -/
def Src (w : World) (sz : Nat) (A : Option Addr) (news : List (List Value)) : Prop := (A = none ∧ news = []) ∨ ∃ b off, A = some ⟨b, off, none⟩ ∧ RowsAt w sz b off news
theorem Src.ext {w w' : World} (h : Ext w w') {sz : Nat} {A : Option Addr} {news : List (List Value)} (s : Src w sz A news) : Src w' sz A news := by
 rcases s with s | ⟨b, off, e, s⟩
 ·exact .inl s
 ·exact .inr ⟨b, off, e, s.ext h⟩
theorem app_any {w : World} {t e : TypeId} {sz : Nat} (el : El t e sz) (ty : TypeId) (B : Nat) {v : Value} {rows : List (List Value)} (hown : Owns w B e sz v rows) (A : Option Addr) (c : Nat) (news : List (List Value))
  (hr : ∀ r ∈ news, r.length = sz) (hs : Src w sz A news) (h1 : ∀ r ∈ news, ∀ u ∈ r, u.oneCell' = true) (hn : rows.length + news.length ≤ 1000000) (hB : B ≤ w.heap.size) :
  ∃ v' w', (Builtin.append_ #[t, t] ty #[v, .slice A news.length c]).run Try.prog w = .ok v' w' ∧ Owns w' B e sz v' (rows ++ news) ∧ Kept (fun k => some k ≠ v.ownBlock) w w' := by
 obtain ⟨i, z, hi, hz, hsi, hby, hzs⟩ := el.info
 rcases hs with ⟨rfl, rfl⟩ | ⟨b, off, rfl, hc⟩
 ·refine ⟨v, w, ?_, by simpa using hown, Kept.refl _ _⟩
  rcases hown.1.2 with ⟨rfl, hn0⟩ | ⟨g, cap, cur, rfl, _, _, hnc, _⟩
  ·simp [Builtin.append_, run_underlying el.und, sizeOf, typeInfo, hi, Builtin.lenOf, Builtin.firstCells]
  ·simp [Builtin.append_, run_underlying el.und, sizeOf, typeInfo, hi, Builtin.lenOf, Builtin.firstCells, hnc, storeCells]
 ·obtain ⟨v', w', hrun, ho, hg, _⟩ := run_append_own (P := Try.prog) w B t ty e i z sz i.bytes el.und hi hz hsi rfl hzs el.pos v rows.length rows.flatten hown.1 ⟨b, off, none⟩ news.length c news.flatten (flatten_len hr)
   (fun j u hj => by rw [addr_add]; exact rows_flat hr hc j u hj) (fun u hu => by obtain ⟨r, hr1, hr2⟩ := List.mem_flatten.1 hu; exact h1 r hr1 u hr2) (by simp [maxLen]; omega)
   (by have := Nat.mul_le_mul hn hby; omega) hB
  refine ⟨v', w', hrun, ⟨by simpa using ho, fun r hr' => ?_⟩, ⟨hg.os, hg.tape, hg.output, hg.size, hg.block⟩⟩
  rcases List.mem_append.1 hr' with h | h
  ·exact hown.2 r h
  ·exact hr r h
/-- a row that was laid just now -/
theorem newRow (w : World) (l : List Value) (T : TypeId) : RowsAt (w.alloc (.cells l.toArray T)) l.length w.heap.size 0 [l] :=
 rowsAt_one fun j hj => by
  have hg : (w.alloc (.cells l.toArray T)).heap[w.heap.size]? = some (.cells l.toArray T (0, 0)) := by
   show (w.heap.push _)[w.heap.size]? = _
   rw [Array.getElem?_push, if_pos rfl]
  rw [cell_of_row _ _ _ _ _ _ hg]
  simp [hj]
theorem newRowAt (w : World) (l : List Value) (T : TypeId) (b n : Nat) (hb : b = w.heap.size) (hn : n = l.length) : RowsAt (w.alloc (.cells l.toArray T)) n b 0 [l] := by
 subst hb hn
 exact newRow w l T
section
variable {w : World}
theorem stepApp {ops : Array Oper} {o : Oper} {a : Act} {K : Act → World → Prop} {Q : Exit → Act → World → Prop} {E : Prop} (hgd : o.guard = none) (s x : Operand) {t e : TypeId} {sz : Nat} (el : El t e sz)
  (ho : o.op = .call { callee := .builtin .append, args := #[s, x], argTypes := #[t, t] }) (B : Nat) {v : Value} {rows : List (List Value)} (hs : a.eval s = v) (hown : Owns w B e sz v rows)
  (A : Option Addr) (c : Nat) (news : List (List Value)) (hx : a.eval x = .slice A news.length c) (hr : ∀ r ∈ news, r.length = sz) (hc : Src w sz A news) (h1 : ∀ r ∈ news, ∀ u ∈ r, u.oneCell' = true)
  (hn : rows.length + news.length ≤ 1000000) (hB : B ≤ w.heap.size)
  (h : ∀ v' w', Owns w' B e sz v' (rows ++ news) → Kept (fun k => some k ≠ v.ownBlock) w w' → K (a.put o.dst v') w') : if Region.wanted o (yielded ops a.tmps) = true then Oper.wp Try.prog o a w K Q else E := by
 have hw : Region.wanted o (yielded ops a.tmps) = true := by simp [Region.wanted, hgd]
 rw [if_pos hw]
 obtain ⟨v', w', hrun, h2, h3⟩ := app_any el o.type B hown A c news hr hc h1 hn hB
 unfold Oper.wp execOp
 simp only [ho, resolve, invoke, builtin, Sem.run_bind, Sem.run_pure, Result.andThen_ok, List.map_toArray, List.map_cons, List.map_nil, hs, hx, hrun]
 exact h v' w' h2 h3
theorem wpApp {ops : Array Oper} {rest : List Oper} {o : Oper} {a : Act} {Q : Exit → Act → World → Prop} (hgd : o.guard = none) (s x : Operand) {t e : TypeId} {sz : Nat} (el : El t e sz)
  (ho : o.op = .call { callee := .builtin .append, args := #[s, x], argTypes := #[t, t] }) (B : Nat) {v : Value} {rows : List (List Value)} (hs : a.eval s = v) (hown : Owns w B e sz v rows)
  (A : Option Addr) (c : Nat) (news : List (List Value)) (hx : a.eval x = .slice A news.length c) (hr : ∀ r ∈ news, r.length = sz) (hc : Src w sz A news) (h1 : ∀ r ∈ news, ∀ u ∈ r, u.oneCell' = true)
  (hn : rows.length + news.length ≤ 1000000) (hB : B ≤ w.heap.size)
  (h : ∀ v' w', Owns w' B e sz v' (rows ++ news) → Kept (fun k => some k ≠ v.ownBlock) w w' → wpList Try.prog ops Q rest (a.put o.dst v') w') : wpList Try.prog ops Q (o :: rest) a w :=
 wpList_plain hgd fun K hK => by
  obtain ⟨v', w', hrun, h2, h3⟩ := app_any el o.type B hown A c news hr hc h1 hn hB
  unfold Oper.wp execOp
  simp only [ho, resolve, invoke, builtin, Sem.run_bind, Sem.run_pure, Result.andThen_ok, List.map_toArray, List.map_cons, List.map_nil, hs, hx, hrun]
  exact hK _ _ (h v' w' h2 h3)
/-- append onto a slice without room, in a plain walk -/
theorem wpGrow {ops : Array Oper} {rest : List Oper} {o : Oper} {a : Act} {Q : Exit → Act → World → Prop} (hgd : o.guard = none) (s x : Operand) {t e : TypeId} {sz : Nat} (el : El t e sz)
  (ho : o.op = .call { callee := .builtin .append, args := #[s, x], argTypes := #[t, t] }) (ao : Option Addr) (cap : Nat) {rows : List (List Value)} (hs : a.eval s = .slice ao rows.length cap) (hrows : ∀ r ∈ rows, r.length = sz)
  (hold : (ao = none ∧ rows = [] ∧ cap = 0) ∨ ∃ b off, ao = some ⟨b, off, none⟩ ∧ RowsAt w sz b off rows)
  (b off c : Nat) (news : List (List Value)) (hx : a.eval x = .slice (some ⟨b, off, none⟩) news.length c) (hr : ∀ r ∈ news, r.length = sz) (hc : RowsAt w sz b off news) (h1 : ∀ r ∈ news, ∀ u ∈ r, u.oneCell' = true)
  (hfull : cap < rows.length + news.length) (hn : rows.length + news.length ≤ 1000000)
  (h : ∀ v' w', Owns w' w.heap.size e sz v' (rows ++ news) → Below w.heap.size w w' → wpList Try.prog ops Q rest (a.put o.dst v') w') : wpList Try.prog ops Q (o :: rest) a w :=
 wpList_plain hgd fun K hK => by
  have := stepGrow (ops := ops) (E := True) (K := K) (Q := Q) hgd s x el ho ao cap hs hrows hold b off c news hx hr hc h1 hfull hn (fun v' w' h2 h3 => hK _ _ (h v' w' h2 h3))
  rwa [if_pos (by simp [Region.wanted, hgd])] at this
end
/-- append turns no slice of another element type -/
theorem Owns.keep {W W' : World} {B B' : Nat} {e e' : TypeId} {sz sz' : Nat} {v v' : Value} {rows rows' : List (List Value)} (hne : e ≠ e') (h : Owns W B e sz v rows) (h' : Owns W B' e' sz' v' rows') (k : Kept (fun k => some k ≠ v'.ownBlock) W W') :
  Owns W' B e sz v rows := by
 refine ⟨⟨h.1.1, ?_⟩, h.2⟩
 rcases h.1.2 with a | ⟨g, cap, cur, hv, hb, hg, hr⟩
 ·exact .inl a
 ·refine .inr ⟨g, cap, cur, hv, hb, ?_, hr⟩
  have hl := (Array.getElem?_eq_some_iff.1 hg).1
  refine (k.same g hl fun hh => ?_).trans hg
  rcases h'.1.2 with ⟨rfl, _⟩ | ⟨g', cap', cur', rfl, _, hg', _⟩
  ·simp [Value.ownBlock] at hh
  ·simp only [Value.ownBlock, Option.some.injEq] at hh
   subst hh
   rw [hg] at hg'
   cases hg'
   exact hne rfl
theorem Owns.keptBelow {W W' : World} {B : Nat} {e : TypeId} {sz : Nat} {v : Value} {rows : List (List Value)} (h : Owns W B e sz v rows) (hB : B ≤ W.heap.size) (k : Kept (fun k => some k ≠ v.ownBlock) W W') : Below B W W' := by
 refine Kept.below (k.mono fun j _ hj hh => ?_) hB
 rcases h.1.2 with ⟨rfl, _⟩ | ⟨g', cap', cur', rfl, hb, _⟩
 ·simp [Value.ownBlock] at hh
 ·simp only [Value.ownBlock, Option.some.injEq] at hh
  omega
theorem Owns.src {w : World} {B : Nat} {e : TypeId} {sz : Nat} {A : Option Addr} {n c : Nat} {rows : List (List Value)} (h : Owns w B e sz (.slice A n c) rows) : n = rows.length ∧ Src w sz A rows := by
 obtain ⟨sa, cap, e, _, _, h3⟩ := h.form
 cases e
 refine ⟨rfl, ?_⟩
 rcases h3 with ⟨h1, h2, _⟩ | ⟨g, h1, _, _, h2, _⟩
 ·exact .inl ⟨h2, h1⟩
 ·exact .inr ⟨g, 0, h1, h2⟩

theorem elInt : El 23 3 1 := El.mk' (bytes := 8) (z := .int .i64 0) (by kernel_rfl) (by kernel_rfl) rfl (by omega) (by omega)
theorem Owns.oneInts {W : World} {B : Nat} {v : Value} {l : List Int} (h : Owns W B 3 1 v (l.map iRow)) : IsInts W .i64 v l := h.isRows
section
variable {P : Program} {B : Nat} {strong : Bool} {o : Oper} {ρ : Operand → Value} {W : World} {val : Nat → Value} {s : Sq}
theorem runq_val {v : Value} {W' : World} (h : (execOp ρ o).run P W = .ok (.value v) W') (he : Eff B strong W W') (hs : s.p (s.us.map val) (match o.dst with | some _ => v | none => undef) W') : RunQ P B strong o ρ W val s := by
 unfold RunQ; rw [h]; exact ⟨he, hs⟩
theorem runq_skip {W' : World} (h : (execOp ρ o).run P W = .ok .skip W') (he : Eff B strong W W') (hs : s.p (s.us.map val) undef W') : RunQ P B strong o ρ W val s := by
 unfold RunQ; rw [h]; exact ⟨he, hs⟩
theorem runq_append (x y : Operand) {t ty : TypeId} (h : o.op = .call { callee := .builtin .append, args := #[x, y], argTypes := #[t, t] }) (hty : o.type = ty) (xv yv : Value) (hx : ρ x = xv) (hy : ρ y = yv) {v : Value} {W' : World} (hr : (Builtin.append_ #[t, t] ty #[xv, yv]).run P W = .ok v W')
  (he : Eff B strong W W') (hs : s.p (s.us.map val) (match o.dst with | some _ => v | none => undef) W') : RunQ P B strong o ρ W val s := by
 refine runq_val (v := v) (W' := W') ?_ he hs
 unfold execOp
 simp only [h, resolve, invoke, builtin, Sem.run_bind, Sem.run_pure, Result.andThen_ok, List.map_toArray, List.map_cons, List.map_nil, hx, hy, hty, hr]
end
theorem runq_call {P : Program} {B : Nat} {o : Oper} {ρ : Operand → Value} {W : World} {val : Nat → Value} {s : Sq} (f : FuncId) (xs : Array Operand) (ats : Array TypeId) (h : o.op = .call { callee := .value (.func f), args := xs, argTypes := ats }) (args : Array Value) (hf : ρ (.func f) = .func (.func f) #[] #[]) (ha : xs.map ρ = args) (hc : ∀ args W, (callFunc f args).run P W = .ok (.enter f args) W)
  (hs : Calls P f args W fun e W'' => ∃ v, e = .returned v ∧ Ext W W'' ∧ s.p (s.us.map val) (match o.dst with | some _ => v | none => undef) W'') : RunQ P B false o ρ W val s := by
 obtain ⟨dst, op, type, pos, after, guard⟩ := o
 simp only at h
 subst h
 have e : execOp ρ { dst, op := .call { callee := .value (.func f), args := xs, argTypes := ats }, type, pos, after, guard } = callFunc f (#[] ++ xs.map ρ ++ #[]) := by
  simp only [execOp, resolve, hf]
  rfl
 unfold RunQ
 rw [e]
 have e2 : #[] ++ xs.map ρ ++ #[] = args := by rw [ha]; simp
 rw [e2, hc]
 exact hs
/-- an empty slice that is not nil, of a literal -/
def IsNew (w : World) (B : Nat) (e : TypeId) (sz : Nat) (v : Value) : Prop := ∃ g, v = .slice (some ⟨g, 0, none⟩) 0 0 ∧ Owns w B e sz v []
theorem isNew (w : World) (e : TypeId) (sz B : Nat) (hB : B ≤ w.heap.size) : IsNew (w.alloc (.cells #[] e)) B e sz (.slice (some ⟨w.heap.size, 0, none⟩) 0 0) := by
 refine ⟨_, rfl, ⟨by simp, .inr ⟨w.heap.size, 0, #[], rfl, hB, ?_, by simp, by simp [maxLen], by simp, by simp⟩⟩, by simp⟩
 show (w.heap.push _)[w.heap.size]? = _
 rw [Array.getElem?_push, if_pos rfl]
theorem app_new {w : World} {t e : TypeId} {sz : Nat} (el : El t e sz) (ty : TypeId) (B : Nat) {v x : Value} (hv : IsNew w B e sz v) (news : List (List Value))
  (hr : ∀ r ∈ news, r.length = sz) (hs : IsRows w sz x news) (h1 : ∀ r ∈ news, ∀ u ∈ r, u.oneCell' = true) (hn : news.length ≤ 1000000) (hB : B ≤ w.heap.size) :
  ∃ v' w', (Builtin.append_ #[t, t] ty #[v, x]).run Try.prog w = .ok v' w' ∧ Owns w' B e sz v' news ∧ Ext w w' := by
 obtain ⟨g, rfl, hown⟩ := hv
 obtain ⟨A, c, rfl, _, _, hs⟩ := hs
 obtain ⟨i, z, hi, hz, hsi, hby, hzs⟩ := el.info
 by_cases hne : news = []
 ·subst hne
  refine ⟨.slice (some ⟨g, 0, none⟩) 0 0, w, ?_, hown, Below.refl _ _⟩
  clear hs
  cases A <;> simp [Builtin.append_, run_underlying el.und, sizeOf, typeInfo, hi, Builtin.lenOf, Builtin.firstCells, storeCells, loadCells, loadCellsFrom]
 ·rcases hs with h | ⟨b, off, rfl, hc⟩
  ·exact absurd h hne
  ·have hpos : 0 < news.length := List.length_pos_iff.2 hne
   obtain ⟨v', w', hrun, r1, r2⟩ := run_append_arg_grows (P := Try.prog) w t ty e i z sz i.bytes el.und hi hz hsi rfl hzs el.pos ⟨g, 0, none⟩ 0 0 [] (by simp) (by simp) ⟨b, off, none⟩ news.length c news.flatten (flatten_len hr)
    (fun j u hj => by rw [addr_add]; exact rows_flat hr hc j u hj) (by omega) (by simp [maxLen]; omega) (by have := Nat.mul_le_mul hn hby; rw [Nat.zero_add]; omega)
   refine ⟨v', w', hrun, ?_, (Below.refl _ w).grown r2 (Nat.le_refl _) fun k hk => by cases hk⟩
   have : Owns w' w.heap.size e sz v' news := ⟨by simpa using r1, hr⟩
   exact this.base hB
theorem IsNew.ext {w w' : World} {B : Nat} {e : TypeId} {sz : Nat} {v : Value} (h : IsNew w B e sz v) (k : Ext w w') : IsNew w' B e sz v := by
 obtain ⟨g, h1, h2⟩ := h; exact ⟨g, h1, h2.ext k⟩
/-- a store into a block of another type leaves a slice that a call has made -/
theorem Owns.setOther {w : World} {B : Nat} {e T : TypeId} {sz b : Nat} {v : Value} {rows : List (List Value)} (h : Owns w B e sz v rows) {cur : Array Value} (hb : w.heap[b]? = some (.cells cur T (0, 0))) (hne : e ≠ T) (o : Nat) (x : Value) : Owns (w.setCell ⟨b, o, none⟩ x) B e sz v rows := by
 refine ⟨⟨h.1.1, ?_⟩, h.2⟩
 rcases h.1.2 with a | ⟨g, cap, cur', hv, hbb, hg, hr⟩
 ·exact .inl a
 ·refine .inr ⟨g, cap, cur', hv, hbb, ?_, hr⟩
  rw [Below.heap_setCell _ _ _ _ (fun e' => ?_)]
  ·exact hg
  ·simp only at e'
   subst e'
   rw [hb] at hg
   cases hg
   exact hne rfl
/-- a row of memory that holds so many numbers -/
structure IntsB (cur : Array Value) (n : Nat) (k : IntKind) (f : Nat → Int) : Prop where
 size : cur.size = n
 at_ : ∀ j, j < n → cur[j]? = some (.int k (f j))
theorem IntsB.set {cur : Array Value} {n : Nat} {k : IntKind} {f : Nat → Int} (h : IntsB cur n k f) (i : Nat) (v : Int) : IntsB (cur.setIfInBounds i (.int k v)) n k (upd f i v) := by
 refine ⟨by simp [h.size], fun j hj => ?_⟩
 by_cases e : i = j
 ·subst e
  rw [Array.getElem?_setIfInBounds_self_of_lt (by rw [h.size]; exact hj)]; simp [upd]
 ·rw [Array.getElem?_setIfInBounds_ne e, h.at_ j hj, upd_off _ _ (fun h => e h.symm)]
theorem IntsB.isInts {W : World} {g n cap : Nat} {T : TypeId} {cur : Array Value} {k : IntKind} {f : Nat → Int} (hg : W.heap[g]? = some (.cells cur T (0, 0))) (h : IntsB cur n k f) (h1 : n ≤ cap) (h2 : cap ≤ 9223372036854775807) : IsInts W k (.slice (some ⟨g, 0, none⟩) n cap) ((List.range n).map f) := by
 have := IsInts.mk (w := W) (k := k) (l := (List.range n).map f) (b := g) (off := 0) (cap := cap) (by simpa using h1) h2 fun i hi => by
  rw [cell_of_row _ _ _ _ _ _ hg, Nat.zero_add, h.at_ i (by simpa using hi)]; simp
 simpa using this
theorem made_ints {w : World} {B g N : Nat} {T : TypeId} {k : IntKind} (h : w.ownsRow B T 1 (.slice (some ⟨g, 0, none⟩) N N) N (madeCells #[.int k 0] N).toList) : ∃ cur, w.heap[g]? = some (.cells cur T (0, 0)) ∧ IntsB cur N k (fun _ => 0) := by
 rcases h.2 with ⟨e, _⟩ | ⟨g', cap', cur, e, _, hg', _, _, hcs, ht⟩
 ·cases e
 ·cases e
  refine ⟨cur, hg', by omega, fun j hj => ?_⟩
  have hl : (madeCells #[Value.int k 0] N).toList.length = N := by simp [h.1]
  have e1 : cur.toList[j]? = (madeCells #[Value.int k 0] N).toList[j]? := by
   rw [← ht]; rw [List.getElem?_take_of_lt (by simpa using hj)]
  rw [← Array.getElem?_toList, e1]
  simp [madeCells, hj, Nat.mod_one]
/-- append onto an empty slice, in a plain walk -/
theorem wpNew {w : World} {ops : Array Oper} {rest : List Oper} {o : Oper} {a : Act} {Q : Exit → Act → World → Prop} (hgd : o.guard = none) (s x : Operand) {t e : TypeId} {sz : Nat} (el : El t e sz)
  (ho : o.op = .call { callee := .builtin .append, args := #[s, x], argTypes := #[t, t] }) (B : Nat) {v xv : Value} (hs : a.eval s = v) (hv : IsNew w B e sz v) (hx : a.eval x = xv) (news : List (List Value)) (hr : ∀ r ∈ news, r.length = sz) (hc : IsRows w sz xv news)
  (h1 : ∀ r ∈ news, ∀ u ∈ r, u.oneCell' = true) (hn : news.length ≤ 1000000) (hB : B ≤ w.heap.size)
  (h : ∀ v' w', Owns w' B e sz v' news → Ext w w' → wpList Try.prog ops Q rest (a.put o.dst v') w') : wpList Try.prog ops Q (o :: rest) a w :=
 wpList_plain hgd fun K hK => by
  obtain ⟨v', w', hrun, h2, h3⟩ := app_new el o.type B hv news hr hc h1 hn hB
  unfold Oper.wp execOp
  simp only [ho, resolve, invoke, builtin, Sem.run_bind, Sem.run_pure, Result.andThen_ok, List.map_toArray, List.map_cons, List.map_nil, hs, hx, hrun]
  exact hK _ _ (h v' w' h2 h3)
theorem RowsAt.drop {w : World} {sz b off : Nat} {rows : List (List Value)} (h : RowsAt w sz b off rows) (k : Nat) : RowsAt w sz b (off + k * sz) (rows.drop k) := fun i hi j hj => by
 have hi' : k + i < rows.length := by simp at hi; omega
 have e : (rows.drop k)[i] = rows[k + i] := by simp
 rw [e] at hj
 have := h (k + i) hi' j hj
 rw [Nat.add_mul, ← Nat.add_assoc] at this
 rw [this]
 congr 1
 exact (List.getElem_of_eq e (by simpa using hj)).symm
theorem RowsAt.take {w : World} {sz b off : Nat} {rows : List (List Value)} (h : RowsAt w sz b off rows) (k : Nat) : RowsAt w sz b off (rows.take k) := fun i hi j hj => by
 have hi' : i < rows.length := by simp at hi; omega
 have e : (rows.take k)[i] = rows[i] := by simp
 rw [e] at hj
 have := h i hi' j hj
 rw [this]
 congr 1
 exact (List.getElem_of_eq e (by simpa using hj)).symm
end Go.Proofs.Ytphajlldghcnnaa
namespace Go.Proofs.Ytphajlldghcnnaa
open Go.RowKit
/-- a bet: on whom, on whom too, how many units -/
structure PB where
 f : Int
 s : Int
 u : Int
deriving DecidableEq
/-- a book -/
structure Bk where
 kd : Int
 n : Int
 bets : List PB
 scr : List Int
 fav : Bool
 car : Int
 duty : Int
 step : Int
def betRow (x : PB) : List Value := [.int .i64 x.f, .int .i64 x.s, .int .i64 x.u]
def IsBets (w : World) (v : Value) (l : List PB) : Prop := IsRows w 3 v (l.map betRow)
theorem IsBets.ext {w w' : World} (h : Ext w w') {v : Value} {l : List PB} (hr : IsBets w v l) : IsBets w' v l := IsRows.ext h hr
theorem IsBets.spec {w : World} {v : Value} {l : List PB} (h : IsBets w v l) :
  ∃ sa cap, v = .slice sa l.length cap ∧ l.length ≤ cap ∧ cap ≤ 9223372036854775807 ∧ (l = [] ∨ ∃ b off, sa = some ⟨b, off, none⟩ ∧ ∀ i, (h : i < l.length) →
   w.cell? ⟨b, off + i * 3, none⟩ = some (.int .i64 l[i].f) ∧ w.cell? ⟨b, off + i * 3 + 1, none⟩ = some (.int .i64 l[i].s) ∧ w.cell? ⟨b, off + i * 3 + 2, none⟩ = some (.int .i64 l[i].u)) := by
 obtain ⟨sa, cap, h1, h2, h3, h4⟩ := h
 refine ⟨sa, cap, by simpa using h1, by simpa using h2, h3, ?_⟩
 rcases h4 with h4 | ⟨b, off, e, h4⟩
 ·exact .inl (by simpa using h4)
 ·refine .inr ⟨b, off, e, fun i hi => ?_⟩
  have c0 := h4 i (by simpa using hi) 0 (by simp [betRow])
  have c1 := h4 i (by simpa using hi) 1 (by simp [betRow])
  have c2 := h4 i (by simpa using hi) 2 (by simp [betRow])
  simp [betRow] at c0 c1 c2
  exact ⟨c0, c1, c2⟩
structure IsBook (w : World) (b : Bk) (ba : Option Addr) (bcap : Nat) (sa : Option Addr) (scap : Nat) : Prop where
 bets : IsBets w (.slice ba b.bets.length bcap) b.bets
 scr : IsInts w .i64 (.slice sa b.scr.length scap) b.scr
theorem IsBook.ext {w w' : World} (h : Ext w w') {b : Bk} {ba sa : Option Addr} {bcap scap : Nat} (hr : IsBook w b ba bcap sa scap) : IsBook w' b ba bcap sa scap := ⟨hr.bets.ext h, hr.scr.ext h⟩
theorem IsBook.caps {w : World} {b : Bk} {ba sa : Option Addr} {bcap scap : Nat} (h : IsBook w b ba bcap sa scap) : (b.bets.length ≤ bcap ∧ bcap ≤ 9223372036854775807) ∧ b.scr.length ≤ scap ∧ scap ≤ 9223372036854775807 := by
 obtain ⟨_, _, e1, h1, h2, -⟩ := h.bets.spec
 obtain ⟨_, _, e2, h3, h4, -⟩ := h.scr.spec
 cases e1
 cases e2
 exact ⟨⟨h1, h2⟩, h3, h4⟩
/-- a book's cells -/
structure BookAt (w : World) (p : Nat) (b : Bk) (ba : Option Addr) (bcap : Nat) (sa : Option Addr) (scap : Nat) : Prop where
 c0 : w.cell? ⟨p, 0, none⟩ = some (.int .i64 b.kd)
 c1 : w.cell? ⟨p, 1, none⟩ = some (.int .i64 b.n)
 c2 : w.cell? ⟨p, 2, none⟩ = some (.slice ba b.bets.length bcap)
 c3 : w.cell? ⟨p, 3, none⟩ = some (.slice sa b.scr.length scap)
 c4 : w.cell? ⟨p, 4, none⟩ = some (.bool b.fav)
 c5 : w.cell? ⟨p, 5, none⟩ = some (.int .i64 b.car)
 c6 : w.cell? ⟨p, 6, none⟩ = some (.int .i64 b.duty)
 c7 : w.cell? ⟨p, 7, none⟩ = some (.int .i64 b.step)
theorem BookAt.ext {w w' : World} (h : Ext w w') {p : Nat} {b : Bk} {ba sa : Option Addr} {bcap scap : Nat} (k : BookAt w p b ba bcap sa scap) : BookAt w' p b ba bcap sa scap :=
 ⟨cell_ext h k.c0, cell_ext h k.c1, cell_ext h k.c2, cell_ext h k.c3, cell_ext h k.c4, cell_ext h k.c5, cell_ext h k.c6, cell_ext h k.c7⟩
theorem BookAt.lt {w : World} {p : Nat} {b : Bk} {ba sa : Option Addr} {bcap scap : Nat} (k : BookAt w p b ba bcap sa scap) : p < w.heap.size := World.block_lt_of_cell? _ _ k.c0
/-- from the one number to the other one -/
def inR (lo hi n : Int) : Bool := !(decide (n < lo) || decide (hi < n))
theorem inR_iff {lo hi n : Int} : inR lo hi n = true ↔ lo ≤ n ∧ n ≤ hi := by unfold inR; simp
theorem any_inR (lo hi : Int) (l : List Int) : (!l.any fun n => decide (n < lo) || decide (hi < n)) = l.all (inR lo hi) := by
 induction l with
 | nil => rfl
 | cons a l ih => simp only [List.any_cons, List.all_cons, Bool.not_or, ← ih, inR]
def single (b : Bk) : Bool := decide (b.kd = 0) || decide (b.kd = 1)
def isRun (n r : Int) : Bool := !(decide (r < 0) || decide (n ≤ r))
theorem isRun_iff {n r : Int} : isRun n r = true ↔ 0 ≤ r ∧ r < n := by unfold isRun; simp
theorem any_isRun (n : Int) (l : List Int) : (!l.any fun r => decide (r < 0) || decide (n ≤ r)) = l.all (isRun n) := by
 induction l with
 | nil => rfl
 | cons a l ih => simp only [List.any_cons, List.all_cons, Bool.not_or, ← ih, isRun]
def oddB (b : Bk) (x : PB) : Bool :=
 if inR 1 1000 x.u = false ∨ isRun b.n x.f = false then true
 else if single b = true then !decide (x.s = -1)
 else if isRun b.n x.s = false ∨ x.f = x.s then true
 else decide (b.kd = 3) && decide (x.s < x.f)
def gt (s : List Int) (i : Nat) : Int := s.getD i 0
theorem gt_get {l : List Int} {k : Nat} (h : k < l.length) : l[k] = gt l k := by unfold gt; rw [List.getD_eq_getElem?_getD, List.getElem?_eq_getElem h]; rfl
/-- does one number not grow? -/
def flat (l : List Int) (i : Nat) : Bool := decide (0 < i) && decide (gt l i ≤ gt l (i - 1))
def rising (l : List Int) : Bool := !(List.range l.length).any (flat l)
def bkErr (b : Bk) : Int :=
 if inR 0 3 b.kd = false then 2
 else if inR 2 8 b.n = false ∨ inR 0 1000000 b.car = false ∨ inR 0 500 b.duty = false ∨ inR 1 100 b.step = false then 3
 else if 100 < b.bets.length then 6
 else if b.bets.any (oddB b) = true then 16
 else if b.n - 2 < (b.scr.length : Int) ∨ b.scr.all (isRun b.n) = false ∨ rising b.scr = false then 15
 else 0
structure BVal (b : Bk) : Prop where
 kd : 0 ≤ b.kd ∧ b.kd ≤ 3
 n : 2 ≤ b.n ∧ b.n ≤ 8
 car : 0 ≤ b.car ∧ b.car ≤ 1000000
 duty : 0 ≤ b.duty ∧ b.duty ≤ 500
 step : 1 ≤ b.step ∧ b.step ≤ 100
 many : b.bets.length ≤ 100
 odd : ∀ x ∈ b.bets, oddB b x = false
 left : (b.scr.length : Int) ≤ b.n - 2
 scr : ∀ r ∈ b.scr, 0 ≤ r ∧ r < b.n
 inc : rising b.scr = true
theorem bval_of {b : Bk} (e : bkErr b = 0) : BVal b := by
 unfold bkErr at e
 split at e
 ·cases e
 rename_i h1
 split at e
 ·cases e
 rename_i h2
 split at e
 ·cases e
 rename_i h3
 split at e
 ·cases e
 rename_i h4
 split at e
 ·cases e
 rename_i h5
 simp only [not_or, Bool.not_eq_false] at h1 h2 h5
 obtain ⟨a1, a2, a3, a4⟩ := h2
 obtain ⟨c1, c2, c3⟩ := h5
 refine ⟨inR_iff.1 h1, inR_iff.1 a1, inR_iff.1 a2, inR_iff.1 a3, inR_iff.1 a4, by omega, fun x hx => ?_, by omega, fun r hr => isRun_iff.1 (List.all_eq_true.1 c2 r hr), c3⟩
 cases ho : oddB b x
 ·rfl
 ·exact absurd (List.any_eq_true.2 ⟨x, hx, ho⟩) h4
end Go.Proofs.Ytphajlldghcnnaa
namespace Go.Proofs.Ytphajlldghcnnaa
open Go.RowKit

set_option maxHeartbeats 400000 in
theorem indexFuncInt (l : List Int) (sa : Option Addr) (cap : Nat) (f : Nat) (cs : Array Value) (p : Int → Bool) (w : World)
  (hl : l.length ≤ 9223372036854775807)
  (hs : l = [] ∨ ∃ b off, sa = some ⟨b, off, none⟩ ∧ ∀ i, (h : i < l.length) → w.cell? ⟨b, off + i, none⟩ = some (.int .i64 l[i]))
  (hcall : ∀ args W, (callFunc f args).run Try.prog W = .ok (.enter f args) W)
  (hf : ∀ x, x ∈ l → ∀ W, Ext w W → Calls Try.prog f (#[.int .i64 x] ++ cs) W fun e W' => e = .returned (.bool (p x)) ∧ Ext W W') :
  Calls Try.prog 103 #[.slice sa l.length cap, .func (.func f) #[] cs] w fun e w' => e = .returned (.int .i64 (fidx p l)) ∧ Ext w w' := by
 have Hf := Lib.hid hf
 clear hf
 go_enter Try.func103, Try.ntmps103
 go_wp2
 go_loopw [8] (fun i W => ∃ k : Nat, k ≤ l.length ∧ i = .int .i64 k ∧ (∀ x ∈ l.take k, p x = false) ∧ Ext w W) (fun i _ => l.length - (intOf i).toNat)
 case atStart => exact ⟨0, Nat.zero_le _, rfl, by simp, Below.refl _ _⟩
 case round =>
  obtain ⟨k, hk, rfl, hno, hb⟩ := hrel
  have HN := Lib.hid hno
  clear hno
  by_cases hlt : k < l.length
  ·have hs' : ∃ b off, sa = some ⟨b, off, none⟩ ∧ ∀ i, (h : i < l.length) → w.cell? ⟨b, off + i, none⟩ = some (.int .i64 l[i]) := by
    rcases hs with rfl | h
    ·simp at hlt
    ·exact h
   clear hs
   obtain ⟨b, off, rfl, hc⟩ := hs'
   have hc1 := hc k hlt
   have HC : Hid (∀ i, (h : i < l.length) → w.cell? ⟨b, off + i, none⟩ = some (.int .i64 l[i])) := Lib.hid hc
   clear hc
   have hcell := cell_ext hb hc1
   clear hc1
   go_wp2_with fail
   refine (Hf.out l[k] (List.getElem_mem hlt) _ hb).mono ?_
   rintro e W' ⟨rfl, hb'⟩
   cases hp : p l[k]
   ·go_wp2
    go_roundw
    case rel => exact ⟨k + 1, by omega, by go_num, take_ext hlt HN.out hp, hb.trans' hb'⟩
    case measure => simp [intOf]; omega
   ·go_wp2
    go_ret
    exact ⟨ret_int (fidx_at hlt HN.out hp).symm, hb.trans' hb'⟩
  ·go_wp2
   go_ret
   exact ⟨ret_int (fidx_none (take_all hlt HN.out)).symm, hb⟩

set_option maxHeartbeats 400000 in
theorem containsFuncInt (l : List Int) (sa : Option Addr) (cap : Nat) (f : Nat) (cs : Array Value) (p : Int → Bool) (w : World)
  (hl : l.length ≤ 9223372036854775807)
  (hs : l = [] ∨ ∃ b off, sa = some ⟨b, off, none⟩ ∧ ∀ i, (h : i < l.length) → w.cell? ⟨b, off + i, none⟩ = some (.int .i64 l[i]))
  (hcall : ∀ args W, (callFunc f args).run Try.prog W = .ok (.enter f args) W)
  (hf : ∀ x, x ∈ l → ∀ W, Ext w W → Calls Try.prog f (#[.int .i64 x] ++ cs) W fun e W' => e = .returned (.bool (p x)) ∧ Ext W W') :
  Calls Try.prog 81 #[.slice sa l.length cap, .func (.func f) #[] cs] w fun e w' => e = .returned (.bool (l.any p)) ∧ Ext w w' := by
 have H := Lib.hid (indexFuncInt l sa cap f cs p w hl hs hcall hf)
 clear hf hs hcall
 go_enter Try.func81, Try.ntmps81
 go_wp2_with fail
 refine H.out.mono ?_
 rintro e W' ⟨rfl, hb⟩
 go_wp2
 all_goals
  go_ret
  refine ⟨ret_bool ?_, hb⟩
  rw [← fidx_any]

set_option maxHeartbeats 400000 in
theorem indexFuncI64 (l : List Int) (sa : Option Addr) (cap : Nat) (f : Nat) (cs : Array Value) (p : Int → Bool) (w : World)
  (hl : l.length ≤ 9223372036854775807)
  (hs : l = [] ∨ ∃ b off, sa = some ⟨b, off, none⟩ ∧ ∀ i, (h : i < l.length) → w.cell? ⟨b, off + i, none⟩ = some (.int .i64 l[i]))
  (hcall : ∀ args W, (callFunc f args).run Try.prog W = .ok (.enter f args) W)
  (hf : ∀ x, x ∈ l → ∀ W, Ext w W → Calls Try.prog f (#[.int .i64 x] ++ cs) W fun e W' => e = .returned (.bool (p x)) ∧ Ext W W') :
  Calls Try.prog 115 #[.slice sa l.length cap, .func (.func f) #[] cs] w fun e w' => e = .returned (.int .i64 (fidx p l)) ∧ Ext w w' := by
 have Hf := Lib.hid hf
 clear hf
 go_enter Try.func115, Try.ntmps115
 go_wp2
 go_loopw [8] (fun i W => ∃ k : Nat, k ≤ l.length ∧ i = .int .i64 k ∧ (∀ x ∈ l.take k, p x = false) ∧ Ext w W) (fun i _ => l.length - (intOf i).toNat)
 case atStart => exact ⟨0, Nat.zero_le _, rfl, by simp, Below.refl _ _⟩
 case round =>
  obtain ⟨k, hk, rfl, hno, hb⟩ := hrel
  have HN := Lib.hid hno
  clear hno
  by_cases hlt : k < l.length
  ·have hs' : ∃ b off, sa = some ⟨b, off, none⟩ ∧ ∀ i, (h : i < l.length) → w.cell? ⟨b, off + i, none⟩ = some (.int .i64 l[i]) := by
    rcases hs with rfl | h
    ·simp at hlt
    ·exact h
   clear hs
   obtain ⟨b, off, rfl, hc⟩ := hs'
   have hc1 := hc k hlt
   have HC : Hid (∀ i, (h : i < l.length) → w.cell? ⟨b, off + i, none⟩ = some (.int .i64 l[i])) := Lib.hid hc
   clear hc
   have hcell := cell_ext hb hc1
   clear hc1
   go_wp2_with fail
   refine (Hf.out l[k] (List.getElem_mem hlt) _ hb).mono ?_
   rintro e W' ⟨rfl, hb'⟩
   cases hp : p l[k]
   ·go_wp2
    go_roundw
    case rel => exact ⟨k + 1, by omega, by go_num, take_ext hlt HN.out hp, hb.trans' hb'⟩
    case measure => simp [intOf]; omega
   ·go_wp2
    go_ret
    exact ⟨ret_int (fidx_at hlt HN.out hp).symm, hb.trans' hb'⟩
  ·go_wp2
   go_ret
   exact ⟨ret_int (fidx_none (take_all hlt HN.out)).symm, hb⟩

set_option maxHeartbeats 400000 in
theorem containsFuncI64 (l : List Int) (sa : Option Addr) (cap : Nat) (f : Nat) (cs : Array Value) (p : Int → Bool) (w : World)
  (hl : l.length ≤ 9223372036854775807)
  (hs : l = [] ∨ ∃ b off, sa = some ⟨b, off, none⟩ ∧ ∀ i, (h : i < l.length) → w.cell? ⟨b, off + i, none⟩ = some (.int .i64 l[i]))
  (hcall : ∀ args W, (callFunc f args).run Try.prog W = .ok (.enter f args) W)
  (hf : ∀ x, x ∈ l → ∀ W, Ext w W → Calls Try.prog f (#[.int .i64 x] ++ cs) W fun e W' => e = .returned (.bool (p x)) ∧ Ext W W') :
  Calls Try.prog 86 #[.slice sa l.length cap, .func (.func f) #[] cs] w fun e w' => e = .returned (.bool (l.any p)) ∧ Ext w w' := by
 have H := Lib.hid (indexFuncI64 l sa cap f cs p w hl hs hcall hf)
 clear hf hs hcall
 go_enter Try.func86, Try.ntmps86
 go_wp2_with fail
 refine H.out.mono ?_
 rintro e W' ⟨rfl, hb⟩
 go_wp2
 all_goals
  go_ret
  refine ⟨ret_bool ?_, hb⟩
  rw [← fidx_any]

set_option maxHeartbeats 400000 in
theorem indexFuncBet (l : List PB) (sa : Option Addr) (cap : Nat) (f : Nat) (cs : Array Value) (p : PB → Bool) (w : World)
  (hl : l.length ≤ 9223372036854775807)
  (hs : l = [] ∨ ∃ b off, sa = some ⟨b, off, none⟩ ∧ ∀ i, (h : i < l.length) → w.cell? ⟨b, off + i * 3, none⟩ = some (.int .i64 l[i].f) ∧ w.cell? ⟨b, off + i * 3 + 1, none⟩ = some (.int .i64 l[i].s) ∧ w.cell? ⟨b, off + i * 3 + 2, none⟩ = some (.int .i64 l[i].u))
  (hcall : ∀ args W, (callFunc f args).run Try.prog W = .ok (.enter f args) W)
  (hf : ∀ x, x ∈ l → ∀ W, Ext w W → Calls Try.prog f (#[.agg #[.int .i64 x.f, .int .i64 x.s, .int .i64 x.u]] ++ cs) W fun e W' => e = .returned (.bool (p x)) ∧ Ext W W') :
  Calls Try.prog 88 #[.slice sa l.length cap, .func (.func f) #[] cs] w fun e w' => e = .returned (.int .i64 (fidx p l)) ∧ Ext w w' := by
 have Hf := Lib.hid hf
 clear hf
 go_enter Try.func88, Try.ntmps88
 go_wp2
 go_loopw [8] (fun i W => ∃ k : Nat, k ≤ l.length ∧ i = .int .i64 k ∧ (∀ x ∈ l.take k, p x = false) ∧ Ext w W) (fun i _ => l.length - (intOf i).toNat)
 case atStart => exact ⟨0, Nat.zero_le _, rfl, by simp, Below.refl _ _⟩
 case round =>
  obtain ⟨k, hk, rfl, hno, hb⟩ := hrel
  have HN := Lib.hid hno
  clear hno
  by_cases hlt : k < l.length
  ·have hs' : ∃ b off, sa = some ⟨b, off, none⟩ ∧ ∀ i, (h : i < l.length) → w.cell? ⟨b, off + i * 3, none⟩ = some (.int .i64 l[i].f) ∧ w.cell? ⟨b, off + i * 3 + 1, none⟩ = some (.int .i64 l[i].s) ∧ w.cell? ⟨b, off + i * 3 + 2, none⟩ = some (.int .i64 l[i].u) := by
    rcases hs with rfl | h
    ·simp at hlt
    ·exact h
   clear hs
   obtain ⟨b, off, rfl, hc⟩ := hs'
   have hc1 := hc k hlt
   have HC : Hid (∀ i, (h : i < l.length) → w.cell? ⟨b, off + i * 3, none⟩ = some (.int .i64 l[i].f) ∧ w.cell? ⟨b, off + i * 3 + 1, none⟩ = some (.int .i64 l[i].s) ∧ w.cell? ⟨b, off + i * 3 + 2, none⟩ = some (.int .i64 l[i].u)) := Lib.hid hc
   clear hc
   obtain ⟨a0, a1, a2⟩ := hc1
   have c0 := cell_ext hb a0
   have c1 := cell_ext hb a1
   have c2 := cell_ext hb a2
   clear a0 a1 a2
   go_wp2_with fail
   refine (Hf.out l[k] (List.getElem_mem hlt) _ hb).mono ?_
   rintro e W' ⟨rfl, hb'⟩
   cases hp : p l[k]
   ·go_wp2
    go_roundw
    case rel => exact ⟨k + 1, by omega, by go_num, take_ext hlt HN.out hp, hb.trans' hb'⟩
    case measure => simp [intOf]; omega
   ·go_wp2
    go_ret
    exact ⟨ret_int (fidx_at hlt HN.out hp).symm, hb.trans' hb'⟩
  ·go_wp2
   go_ret
   exact ⟨ret_int (fidx_none (take_all hlt HN.out)).symm, hb⟩

set_option maxHeartbeats 400000 in
theorem containsFuncBet (l : List PB) (sa : Option Addr) (cap : Nat) (f : Nat) (cs : Array Value) (p : PB → Bool) (w : World)
  (hl : l.length ≤ 9223372036854775807)
  (hs : l = [] ∨ ∃ b off, sa = some ⟨b, off, none⟩ ∧ ∀ i, (h : i < l.length) → w.cell? ⟨b, off + i * 3, none⟩ = some (.int .i64 l[i].f) ∧ w.cell? ⟨b, off + i * 3 + 1, none⟩ = some (.int .i64 l[i].s) ∧ w.cell? ⟨b, off + i * 3 + 2, none⟩ = some (.int .i64 l[i].u))
  (hcall : ∀ args W, (callFunc f args).run Try.prog W = .ok (.enter f args) W)
  (hf : ∀ x, x ∈ l → ∀ W, Ext w W → Calls Try.prog f (#[.agg #[.int .i64 x.f, .int .i64 x.s, .int .i64 x.u]] ++ cs) W fun e W' => e = .returned (.bool (p x)) ∧ Ext W W') :
  Calls Try.prog 61 #[.slice sa l.length cap, .func (.func f) #[] cs] w fun e w' => e = .returned (.bool (l.any p)) ∧ Ext w w' := by
 have H := Lib.hid (indexFuncBet l sa cap f cs p w hl hs hcall hf)
 clear hf hs hcall
 go_enter Try.func61, Try.ntmps61
 go_wp2_with fail
 refine H.out.mono ?_
 rintro e W' ⟨rfl, hb⟩
 go_wp2
 all_goals
  go_ret
  refine ⟨ret_bool ?_, hb⟩
  rw [← fidx_any]
end Go.Proofs.Ytphajlldghcnnaa
