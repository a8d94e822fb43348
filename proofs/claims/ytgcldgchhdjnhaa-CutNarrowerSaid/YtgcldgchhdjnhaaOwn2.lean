/-
  Append onto slices that a call has made itself, from a source that may be nil; and lists of lists of numbers that a call has made.
-/
import Derived.Test.YtgcldgchhdjnhaaAgree
import Derived.Test.YtgcldgchhdjnhaaTruth
namespace Go.Proofs.Ytgcldgchhdjnhaa
open Go.RowKit Go.Shelf

/-- what is appended: rows, or nothing -/
def Src (w : World) (sz : Nat) (A : Option Addr) (news : List (List Value)) : Prop := (A = none ∧ news = []) ∨ ∃ b off, A = some ⟨b, off, none⟩ ∧ RowsAt w sz b off news
theorem Src.ext {w w' : World} (h : Ext w w') {sz : Nat} {A : Option Addr} {news : List (List Value)} (s : Src w sz A news) : Src w' sz A news := by
  rcases s with s | ⟨b, off, e, s⟩
  · exact .inl s
  · exact .inr ⟨b, off, e, s.ext h⟩
theorem app_any {w : World} {t e : TypeId} {sz : Nat} (el : El t e sz) (ty : TypeId) (B : Nat) {v : Value} {rows : List (List Value)} (hown : Owns w B e sz v rows) (A : Option Addr) (c : Nat) (news : List (List Value))
    (hr : ∀ r ∈ news, r.length = sz) (hs : Src w sz A news) (h1 : ∀ r ∈ news, ∀ u ∈ r, u.oneCell' = true) (hn : rows.length + news.length ≤ 1000000) (hB : B ≤ w.heap.size) :
    ∃ v' w', (Builtin.append_ #[t, t] ty #[v, .slice A news.length c]).run Try.prog w = .ok v' w' ∧ Owns w' B e sz v' (rows ++ news) ∧ Kept (fun k => some k ≠ v.ownBlock) w w' := by
  obtain ⟨i, z, hi, hz, hsi, hby, hzs⟩ := el.info
  rcases hs with ⟨rfl, rfl⟩ | ⟨b, off, rfl, hc⟩
  · refine ⟨v, w, ?_, by simpa using hown, Kept.refl _ _⟩
    rcases hown.1.2 with ⟨rfl, hn0⟩ | ⟨g, cap, cur, rfl, _, _, hnc, _⟩
    · simp [Builtin.append_, run_underlying el.und, sizeOf, typeInfo, hi, Builtin.lenOf, Builtin.firstCells]
    · simp [Builtin.append_, run_underlying el.und, sizeOf, typeInfo, hi, Builtin.lenOf, Builtin.firstCells, hnc, storeCells]
  · obtain ⟨v', w', hrun, ho, hg, _⟩ := run_append_own (P := Try.prog) w B t ty e i z sz i.bytes el.und hi hz hsi rfl hzs el.pos v rows.length rows.flatten hown.1 ⟨b, off, none⟩ news.length c news.flatten (flatten_len hr)
      (fun j u hj => by rw [addr_add]; exact rows_flat hr hc j u hj) (fun u hu => by obtain ⟨r, hr1, hr2⟩ := List.mem_flatten.1 hu; exact h1 r hr1 u hr2) (by simp [maxLen]; omega)
      (by have := Nat.mul_le_mul hn hby; omega) hB
    refine ⟨v', w', hrun, ⟨by simpa using ho, fun r hr' => ?_⟩, ⟨hg.os, hg.tape, hg.output, hg.size, hg.block⟩⟩
    rcases List.mem_append.1 hr' with h | h
    · exact hown.2 r h
    · exact hr r h
/-- a row that was laid just now -/
theorem newRow (w : World) (l : List Value) (T : TypeId) : RowsAt (w.alloc (.cells l.toArray T)) l.length w.heap.size 0 [l] :=
  rowsAt_one fun j hj => by
    have hg : (w.alloc (.cells l.toArray T)).heap[w.heap.size]? = some (.cells l.toArray T (0, 0)) := by
      show (w.heap.push _)[w.heap.size]? = _
      rw [Array.getElem?_push, if_pos rfl]
    rw [cell_of_row _ _ _ _ _ _ hg]
    simp [hj]
theorem newRowAt (w : World) (l : List Value) (T : TypeId) (b n : Nat) (hb : b = w.heap.size) (hn : n = l.length) : RowsAt (w.alloc (.cells l.toArray T)) n b 0 [l] := by
  subst hb hn
  exact newRow w l T
section
variable {w : World}
theorem stepApp {ops : Array Oper} {o : Oper} {a : Act} {K : Act → World → Prop} {Q : Exit → Act → World → Prop} {E : Prop} (hgd : o.guard = none) (s x : Operand) {t e : TypeId} {sz : Nat} (el : El t e sz)
    (ho : o.op = .call { callee := .builtin .append, args := #[s, x], argTypes := #[t, t] }) (B : Nat) {v : Value} {rows : List (List Value)} (hs : a.eval s = v) (hown : Owns w B e sz v rows)
    (A : Option Addr) (c : Nat) (news : List (List Value)) (hx : a.eval x = .slice A news.length c) (hr : ∀ r ∈ news, r.length = sz) (hc : Src w sz A news) (h1 : ∀ r ∈ news, ∀ u ∈ r, u.oneCell' = true)
    (hn : rows.length + news.length ≤ 1000000) (hB : B ≤ w.heap.size)
    (h : ∀ v' w', Owns w' B e sz v' (rows ++ news) → Kept (fun k => some k ≠ v.ownBlock) w w' → K (a.put o.dst v') w') : if Region.wanted o (yielded ops a.tmps) = true then Oper.wp Try.prog o a w K Q else E := by
  have hw : Region.wanted o (yielded ops a.tmps) = true := by simp [Region.wanted, hgd]
  rw [if_pos hw]
  obtain ⟨v', w', hrun, h2, h3⟩ := app_any el o.type B hown A c news hr hc h1 hn hB
  unfold Oper.wp execOp
  simp only [ho, resolve, invoke, builtin, Sem.run_bind, Sem.run_pure, Result.andThen_ok, List.map_toArray, List.map_cons, List.map_nil, hs, hx, hrun]
  exact h v' w' h2 h3
theorem wpApp {ops : Array Oper} {rest : List Oper} {o : Oper} {a : Act} {Q : Exit → Act → World → Prop} (hgd : o.guard = none) (s x : Operand) {t e : TypeId} {sz : Nat} (el : El t e sz)
    (ho : o.op = .call { callee := .builtin .append, args := #[s, x], argTypes := #[t, t] }) (B : Nat) {v : Value} {rows : List (List Value)} (hs : a.eval s = v) (hown : Owns w B e sz v rows)
    (A : Option Addr) (c : Nat) (news : List (List Value)) (hx : a.eval x = .slice A news.length c) (hr : ∀ r ∈ news, r.length = sz) (hc : Src w sz A news) (h1 : ∀ r ∈ news, ∀ u ∈ r, u.oneCell' = true)
    (hn : rows.length + news.length ≤ 1000000) (hB : B ≤ w.heap.size)
    (h : ∀ v' w', Owns w' B e sz v' (rows ++ news) → Kept (fun k => some k ≠ v.ownBlock) w w' → wpList Try.prog ops Q rest (a.put o.dst v') w') : wpList Try.prog ops Q (o :: rest) a w :=
  wpList_plain hgd fun K hK => by
    obtain ⟨v', w', hrun, h2, h3⟩ := app_any el o.type B hown A c news hr hc h1 hn hB
    unfold Oper.wp execOp
    simp only [ho, resolve, invoke, builtin, Sem.run_bind, Sem.run_pure, Result.andThen_ok, List.map_toArray, List.map_cons, List.map_nil, hs, hx, hrun]
    exact hK _ _ (h v' w' h2 h3)
/-- append onto a slice without room, in a plain walk -/
theorem wpGrow {ops : Array Oper} {rest : List Oper} {o : Oper} {a : Act} {Q : Exit → Act → World → Prop} (hgd : o.guard = none) (s x : Operand) {t e : TypeId} {sz : Nat} (el : El t e sz)
    (ho : o.op = .call { callee := .builtin .append, args := #[s, x], argTypes := #[t, t] }) (ao : Option Addr) (cap : Nat) {rows : List (List Value)} (hs : a.eval s = .slice ao rows.length cap) (hrows : ∀ r ∈ rows, r.length = sz)
    (hold : (ao = none ∧ rows = [] ∧ cap = 0) ∨ ∃ b off, ao = some ⟨b, off, none⟩ ∧ RowsAt w sz b off rows)
    (b off c : Nat) (news : List (List Value)) (hx : a.eval x = .slice (some ⟨b, off, none⟩) news.length c) (hr : ∀ r ∈ news, r.length = sz) (hc : RowsAt w sz b off news) (h1 : ∀ r ∈ news, ∀ u ∈ r, u.oneCell' = true)
    (hfull : cap < rows.length + news.length) (hn : rows.length + news.length ≤ 1000000)
    (h : ∀ v' w', Owns w' w.heap.size e sz v' (rows ++ news) → Below w.heap.size w w' → wpList Try.prog ops Q rest (a.put o.dst v') w') : wpList Try.prog ops Q (o :: rest) a w :=
  wpList_plain hgd fun K hK => by
    have := stepGrow (ops := ops) (E := True) (K := K) (Q := Q) hgd s x el ho ao cap hs hrows hold b off c news hx hr hc h1 hfull hn (fun v' w' h2 h3 => hK _ _ (h v' w' h2 h3))
    rwa [if_pos (by simp [Region.wanted, hgd])] at this
end
/-- append turns no slice of another element type -/
theorem Owns.keep {W W' : World} {B B' : Nat} {e e' : TypeId} {sz sz' : Nat} {v v' : Value} {rows rows' : List (List Value)} (hne : e ≠ e') (h : Owns W B e sz v rows) (h' : Owns W B' e' sz' v' rows') (k : Kept (fun k => some k ≠ v'.ownBlock) W W') :
    Owns W' B e sz v rows := by
  refine ⟨⟨h.1.1, ?_⟩, h.2⟩
  rcases h.1.2 with a | ⟨g, cap, cur, hv, hb, hg, hr⟩
  · exact .inl a
  · refine .inr ⟨g, cap, cur, hv, hb, ?_, hr⟩
    have hl := (Array.getElem?_eq_some_iff.1 hg).1
    refine (k.same g hl fun hh => ?_).trans hg
    rcases h'.1.2 with ⟨rfl, _⟩ | ⟨g', cap', cur', rfl, _, hg', _⟩
    · simp [Value.ownBlock] at hh
    · simp only [Value.ownBlock, Option.some.injEq] at hh
      subst hh
      rw [hg] at hg'
      cases hg'
      exact hne rfl
theorem Owns.keptBelow {W W' : World} {B : Nat} {e : TypeId} {sz : Nat} {v : Value} {rows : List (List Value)} (h : Owns W B e sz v rows) (hB : B ≤ W.heap.size) (k : Kept (fun k => some k ≠ v.ownBlock) W W') : Below B W W' := by
  refine Kept.below (k.mono fun j _ hj hh => ?_) hB
  rcases h.1.2 with ⟨rfl, _⟩ | ⟨g', cap', cur', rfl, hb, _⟩
  · simp [Value.ownBlock] at hh
  · simp only [Value.ownBlock, Option.some.injEq] at hh
    omega
theorem Owns.src {w : World} {B : Nat} {e : TypeId} {sz : Nat} {A : Option Addr} {n c : Nat} {rows : List (List Value)} (h : Owns w B e sz (.slice A n c) rows) : n = rows.length ∧ Src w sz A rows := by
  obtain ⟨sa, cap, e, _, _, h3⟩ := h.form
  cases e
  refine ⟨rfl, ?_⟩
  rcases h3 with ⟨h1, h2, _⟩ | ⟨g, h1, _, _, h2, _⟩
  · exact .inl ⟨h2, h1⟩
  · exact .inr ⟨g, 0, h1, h2⟩

theorem elInt : El 56 3 1 := El.mk' (bytes := 8) (z := .int .i64 0) (by kernel_rfl) (by kernel_rfl) rfl (by omega) (by omega)
theorem elLst : El 120 56 1 := El.mk' (bytes := 24) (z := .slice none 0 0) (by kernel_rfl) (by kernel_rfl) rfl (by omega) (by omega)
/-- lists of numbers that a call has made: each slice's value, and its numbers -/
structure LL (W : World) (B : Nat) (v : Value) (ps : List (Value × List Int)) : Prop where
  own : Owns W B 56 1 v (ps.map fun x => [x.1])
  each : ∀ x ∈ ps, Owns W B 3 1 x.1 (x.2.map iRow)
theorem LL.nil (W : World) (B : Nat) : LL W B (.slice none 0 0) [] := ⟨Owns.nil _ _ _ _, by simp⟩
theorem LL.ext {W W' : World} {B : Nat} {v : Value} {ps : List (Value × List Int)} (h : LL W B v ps) (e : Ext W W') : LL W' B v ps := ⟨h.own.ext e, fun x hx => (h.each x hx).ext e⟩
theorem LL.base {W : World} {B B' : Nat} {v : Value} {ps : List (Value × List Int)} (h : LL W B v ps) (hB : B' ≤ B) : LL W B' v ps := ⟨h.own.base hB, fun x hx => (h.each x hx).base hB⟩
theorem one_rows {ps : List (Value × List Int)} : ∀ r ∈ ps.map (fun x => [x.1]), r.length = 1 := by
  intro r hr; obtain ⟨x, _, rfl⟩ := List.mem_map.1 hr; rfl
theorem Owns.oneInts {W : World} {B : Nat} {v : Value} {l : List Int} (h : Owns W B 3 1 v (l.map iRow)) : IsInts W .i64 v l := h.isRows
theorem ll_one {W : World} {B : Nat} {v : Value} {ps : List (Value × List Int)} (h : LL W B v ps) : ∀ r ∈ ps.map (fun x => [x.1]), ∀ u ∈ r, u.oneCell' = true := by
  intro r hr u hu
  obtain ⟨x, hx, rfl⟩ := List.mem_map.1 hr
  simp at hu
  subst hu
  obtain ⟨sa, n, cap, e⟩ := (h.each x hx).isSlice
  rw [e]; rfl
end Go.Proofs.Ytgcldgchhdjnhaa
