/-
  Maps whose keys are read by one law: a lookup, a store, a deletion, and a range over them, as operations on a list of entries.
  The map of the sheet: its keys are pairs of places, its values steps with what they cost.
-/
import Derived.Test.YtgcldgchhdjnhaaRange
import Derived.Test.YtgcldgchhdjnhaaSteps
namespace Go.Proofs.Ytgcldgchhdjnhaa
open Go.RowKit Go.Shelf

section
variable {K V : Type} [DecidableEq K]
/-- the entries of a map: key, value, and when it came -/
abbrev Ents (K V : Type) := List (K × V × Nat)
def encE (ke : K → Value) (ve : V → Value) (e : K × V × Nat) : MapEntry := { key := ke e.1, val := ve e.2.1, born := e.2.2 }
def IsMap (ke : K → Value) (ve : V → Value) (W : World) (r : Nat) (es : Ents K V) (clock : Nat) : Prop :=
  W.heap[r]? = some (.map (es.map (encE ke ve)).toArray clock)
def lookFrom (ve : V → Value) (k : K) : Ents K V → Nat → Option (Nat × Value)
  | [], _ => none
  | e :: es, i => if e.1 = k then some (i, ve e.2.1) else lookFrom ve k es (i + 1)
def getE (es : Ents K V) (k : K) : Option V := (es.find? fun e => decide (e.1 = k)).map (·.2.1)
def updE (k : K) (v : V) (clock : Nat) (es : Ents K V) : Ents K V :=
  match es.findIdx? (fun e => decide (e.1 = k)) with
  | some i => es.modify i fun e => (k, v, e.2.2)
  | none => es ++ [(k, v, clock)]
def clockE (k : K) (clock : Nat) (es : Ents K V) : Nat := if (es.findIdx? (fun e => decide (e.1 = k))).isSome then clock else clock + 1
def delE (k : K) (es : Ents K V) : Ents K V := es.filter fun e => decide (e.1 ≠ k)

/-- how the operations on a map of these types run -/
structure Keyed (P : Program) (tm tk tv : TypeId) (ke : K → Value) (ve : V → Value) : Prop where
  und : P.underlying tm = some (.map tk tv)
  chk : ∀ b k w, (Instr.checkKey b 10000 tk (ke k)).run P w = .ok () w
  find : ∀ k (l : Ents K V) w, (Instr.findKey tk (ke k) (l.map (encE ke ve))).run P w = .ok (lookFrom ve k l 0) w
  stay : ∀ k, Instr.sameBits 10000 (ke k) (ke k) = true

theorem lookFrom_eq (ve : V → Value) (k : K) : ∀ (es : Ents K V) (i : Nat), lookFrom ve k es i = (es.findIdx? fun e => decide (e.1 = k)).bind fun j => (es[j]?).map fun e => (i + j, ve e.2.1)
  | [], _ => rfl
  | e :: es, i => by
    unfold lookFrom
    by_cases h : e.1 = k
    · simp [h, List.findIdx?_cons]
    · rw [if_neg h, lookFrom_eq ve k es (i + 1)]
      simp only [List.findIdx?_cons, h, decide_false, Bool.false_eq_true, if_false]
      cases es.findIdx? fun e => decide (e.1 = k) with
      | none => rfl
      | some j =>
        simp only [Option.map_some, Option.bind_some, List.getElem?_cons_succ]
        congr 1
        funext e
        simp; omega
theorem find_findIdx (k : K) (es : Ents K V) : es.find? (fun e => decide (e.1 = k)) = (es.findIdx? fun e => decide (e.1 = k)).bind (es[·]?) := by
  induction es with
  | nil => rfl
  | cons e es ih =>
    simp only [List.find?_cons, List.findIdx?_cons]
    by_cases h : e.1 = k
    · simp [h]
    · simp only [h, decide_false, Bool.false_eq_true, if_false]
      rw [ih]
      cases es.findIdx? fun e => decide (e.1 = k) <;> simp

theorem lookFrom_get (ve : V → Value) (k : K) (es : Ents K V) : (lookFrom ve k es 0).map (·.2) = (getE es k).map ve := by
  rw [lookFrom_eq, getE, find_findIdx]
  cases h : es.findIdx? fun e => decide (e.1 = k) with
  | none => rfl
  | some j => simp only [Option.bind_some, Option.map_map]; rfl

theorem getE_upd (k k' : K) (v : V) (clock : Nat) (es : Ents K V) : getE (updE k v clock es) k' = if k' = k then some v else getE es k' := by
  unfold getE updE
  cases h : es.findIdx? fun e => decide (e.1 = k) with
  | none =>
    rw [List.findIdx?_eq_none_iff] at h
    simp only [List.find?_append]
    by_cases hk : k' = k
    · subst hk
      rw [List.find?_eq_none.2 (by simpa using h)]
      simp
    · simp only [hk, if_false]
      cases hf : es.find? fun e => decide (e.1 = k') with
      | some e => simp
      | none => simp [Ne.symm hk]
  | some i =>
    rw [List.findIdx?_eq_some_iff_getElem] at h
    obtain ⟨hi, h1, h2⟩ := h
    have h1' : es[i].1 = k := by simpa using h1
    clear h1
    simp only
    induction es generalizing i with
    | nil => simp at hi
    | cons e es ih =>
      cases i with
      | zero =>
        simp only [List.getElem_cons_zero] at h1'
        simp only [List.modify_zero_cons, List.find?_cons]
        by_cases hk : k' = k
        · simp [hk]
        · have : e.1 ≠ k' := fun e' => hk (e'.symm.trans h1')
          simp [hk, Ne.symm hk, this]
      | succ i =>
        simp only [List.modify_succ_cons, List.find?_cons]
        have h0 := h2 0 (by omega)
        simp at h0
        by_cases he : e.1 = k'
        · have hk : k' ≠ k := fun h => h0 (he.trans h)
          simp [he, hk]
        · simp only [he, decide_false]
          exact ih i (by simpa using hi) (fun j hj => by have := h2 (j + 1) (by omega); simpa using this) (by simpa using h1')

theorem getE_del (k k' : K) (es : Ents K V) : getE (delE k es) k' = if k' = k then none else getE es k' := by
  unfold getE delE
  by_cases hk : k' = k
  · subst hk
    simp only [if_true, Option.map_eq_none_iff, List.find?_eq_none]
    intro e he
    simp at he ⊢
    exact he.2
  · simp only [hk, if_false]
    congr 1
    induction es with
    | nil => rfl
    | cons e es ih =>
      simp only [List.filter_cons]
      by_cases h : e.1 = k
      · simp only [h, ne_eq, not_true, decide_false, Bool.false_eq_true, if_false, List.find?_cons]
        have : ¬ k = k' := fun h => hk h.symm
        simp only [this, decide_false]
        exact ih
      · simp only [ne_eq, h, not_false_iff, decide_true, if_true, List.find?_cons]
        by_cases h' : e.1 = k'
        · simp [h']
        · simp only [h', decide_false]; exact ih

/-- the keys come once -/
def Once (es : Ents K V) : Prop := (es.map (·.1)).Nodup
theorem Once.upd {es : Ents K V} (h : Once es) (k : K) (v : V) (c : Nat) : Once (updE k v c es) := by
  unfold Once updE at *
  cases hf : es.findIdx? fun e => decide (e.1 = k) with
  | none =>
    rw [List.findIdx?_eq_none_iff] at hf
    simp only [List.map_append, List.map_cons, List.map_nil]
    rw [List.nodup_append]
    refine ⟨h, by simp, ?_⟩
    intro a ha b hb
    simp at hb
    subst hb
    rw [List.mem_map] at ha
    obtain ⟨e, he, rfl⟩ := ha
    simpa using hf e he
  | some i =>
    rw [List.findIdx?_eq_some_iff_getElem] at hf
    obtain ⟨hi, h1, _⟩ := hf
    have h1' : es[i].1 = k := by simpa using h1
    have : (es.modify i fun e => (k, v, e.2.2)).map (·.1) = es.map (·.1) := by
      apply List.ext_getElem (by simp)
      intro j hj1 hj2
      simp only [List.getElem_map, List.getElem_modify]
      split
      · rename_i e; subst e; exact h1'.symm
      · rfl
    simp only [this]; exact h
theorem Once.del {es : Ents K V} (h : Once es) (k : K) : Once (delE k es) := by
  unfold Once delE at *
  exact List.Nodup.sublist (List.Sublist.map _ List.filter_sublist) h
omit [DecidableEq K] in
theorem once_nil : Once ([] : Ents K V) := List.Pairwise.nil

variable {P : Program} {tm tk tv : TypeId} {ke : K → Value} {ve : V → Value} (hk : Keyed P tm tk tv ke ve)
include hk

theorem run_lookup_ok {W : World} {r : Nat} {es : Ents K V} {c : Nat} (hm : IsMap ke ve W r es c) (k : K) {v : V} (hg : getE es k = some v) :
    (Instr.lookup tm (.map (some r)) (ke k) true).run P W = .ok (.tuple #[ve v, .bool true]) W := by
  have h1 := lookFrom_get ve k es
  rw [hg] at h1
  obtain ⟨p, hp, hp2⟩ := Option.map_eq_some_iff.1 h1
  obtain ⟨i, u⟩ := p
  simp only at hp2
  subst hp2
  have hf := hk.find k es W
  rw [hp] at hf
  unfold IsMap at hm
  simp [Instr.lookup, run_underlying hk.und, getObj, Sem.run, hm, hk.chk, hf]
theorem run_lookup_none {W : World} {r : Nat} {es : Ents K V} {c : Nat} (hm : IsMap ke ve W r es c) (k : K) (hg : getE es k = none) {z : Value} (hz : ∀ w, (zeroValue tv).run P w = .ok z w) :
    (Instr.lookup tm (.map (some r)) (ke k) true).run P W = .ok (.tuple #[z, .bool false]) W := by
  have h1 := lookFrom_get ve k es
  rw [hg] at h1
  have hp : lookFrom ve k es 0 = none := by simpa using h1
  have hf := hk.find k es W
  rw [hp] at hf
  unfold IsMap at hm
  simp [Instr.lookup, run_underlying hk.und, getObj, Sem.run, hm, hk.chk, hf, hz]
theorem run_lookup1 {W : World} {r : Nat} {es : Ents K V} {c : Nat} (hm : IsMap ke ve W r es c) (k : K) {v : V} (hg : getE es k = some v) :
    (Instr.lookup tm (.map (some r)) (ke k) false).run P W = .ok (ve v) W := by
  have h1 := lookFrom_get ve k es
  rw [hg] at h1
  obtain ⟨p, hp, hp2⟩ := Option.map_eq_some_iff.1 h1
  obtain ⟨i, u⟩ := p
  simp only at hp2
  subst hp2
  have hf := hk.find k es W
  rw [hp] at hf
  unfold IsMap at hm
  simp [Instr.lookup, run_underlying hk.und, getObj, Sem.run, hm, hk.chk, hf]
theorem run_lookup1_none {W : World} {r : Nat} {es : Ents K V} {c : Nat} (hm : IsMap ke ve W r es c) (k : K) (hg : getE es k = none) {z : Value} (hz : ∀ w, (zeroValue tv).run P w = .ok z w) :
    (Instr.lookup tm (.map (some r)) (ke k) false).run P W = .ok z W := by
  have h1 := lookFrom_get ve k es
  rw [hg] at h1
  have hp : lookFrom ve k es 0 = none := by simpa using h1
  have hf := hk.find k es W
  rw [hp] at hf
  unfold IsMap at hm
  simp [Instr.lookup, run_underlying hk.und, getObj, Sem.run, hm, hk.chk, hf, hz]

theorem run_update {W : World} {r : Nat} {es : Ents K V} {c : Nat} (hm : IsMap ke ve W r es c) (k : K) (v : V) :
    (Instr.mapUpdate tm (.map (some r)) (ke k) (ve v)).run P W = .ok () (W.putObj r (.map ((updE k v c es).map (encE ke ve)).toArray (clockE k c es))) := by
  have hf := hk.find k es W
  rw [lookFrom_eq] at hf
  unfold IsMap at hm
  unfold updE clockE
  cases hi : es.findIdx? fun e => decide (e.1 = k) with
  | none =>
    rw [hi] at hf
    simp only [Option.bind_none] at hf
    simp [Instr.mapUpdate, run_underlying hk.und, getObj, setObj, Sem.run, hm, hk.chk, hf, World.putObj, encE]
  | some i =>
    rw [hi] at hf
    rw [List.findIdx?_eq_some_iff_getElem] at hi
    obtain ⟨hl, h1, _⟩ := hi
    have h1' : es[i].1 = k := by simpa using h1
    simp only [Option.bind_some, List.getElem?_eq_getElem hl, Option.map_some] at hf
    have hky : (((es.map (encE ke ve)).toArray[i]?).map (·.key)).getD (ke k) = ke k := by
      simp [hl, encE, h1']
    have e2 : ((es.map (encE ke ve)).modify i fun e => { e with key := ke k, val := ve v }) = (es.modify i fun e => (k, v, e.2.2)).map (encE ke ve) := by
      apply List.ext_getElem (by simp)
      intro j hj1 hj2
      simp only [List.getElem_modify, List.getElem_map]
      split
      · rename_i e; simp [encE]
      · rfl
    have hky' : (Option.map ((fun x => x.key) ∘ encE ke ve) es[i]?).getD (ke k) = ke k := by simpa using hky
    have hst : (Instr.keyThatStays (ke k) (ke k)).run P W = .ok (ke k) W := by simp [Instr.keyThatStays, hk.stay]
    simp [Instr.mapUpdate, run_underlying hk.und, getObj, setObj, Sem.run, hm, hk.chk, hf, World.putObj]
    rw [hky', hst]
    simp [hm, e2]

omit [DecidableEq K] hk in
theorem eraseIdx_map' {α β : Type} (f : α → β) : ∀ (l : List α) (i : Nat), (l.map f).eraseIdx i = (l.eraseIdx i).map f
  | [], _ => rfl
  | _ :: _, 0 => rfl
  | a :: l, i + 1 => by simp [eraseIdx_map' f l i]
theorem run_delete {W : World} {r : Nat} {es : Ents K V} {c : Nat} (hm : IsMap ke ve W r es c) (ho : Once es) (k : K) (ty : TypeId) :
    (Builtin.delete_ #[tm, tk] ty #[.map (some r), ke k]).run P W = .ok (.tuple #[]) (W.putObj r (.map ((delE k es).map (encE ke ve)).toArray c)) := by
  have hf := hk.find k es W
  rw [lookFrom_eq] at hf
  unfold IsMap at hm
  cases hi : es.findIdx? fun e => decide (e.1 = k) with
  | none =>
    rw [hi] at hf
    simp only [Option.bind_none] at hf
    rw [List.findIdx?_eq_none_iff] at hi
    have e : delE k es = es := by
      unfold delE
      rw [List.filter_eq_self]
      intro a ha
      simpa using hi a ha
    rw [e]
    simp [Builtin.delete_, run_underlying hk.und, getObj, setObj, Sem.run, hm, hk.chk, hf, World.putObj]
  | some i =>
    rw [hi] at hf
    rw [List.findIdx?_eq_some_iff_getElem] at hi
    obtain ⟨hl, h1, _⟩ := hi
    have h1' : es[i].1 = k := by simpa using h1
    simp only [Option.bind_some, List.getElem?_eq_getElem hl, Option.map_some] at hf
    have e : delE k es = es.eraseIdx i := by
      unfold delE
      clear hm hf
      induction es generalizing i with
      | nil => simp at hl
      | cons a es ih =>
        unfold Once at ho
        simp only [List.map_cons, List.nodup_cons] at ho
        cases i with
        | zero =>
          simp only [List.getElem_cons_zero] at h1'
          simp only [List.eraseIdx_cons_zero, List.filter_cons, h1', ne_eq, not_true, decide_false, Bool.false_eq_true, if_false]
          rw [List.filter_eq_self]
          intro b hb
          have : b.1 ≠ a.1 := fun e => ho.1 (by rw [← e]; exact List.mem_map_of_mem hb)
          rw [h1'] at this
          simpa using this
        | succ i =>
          simp only [List.eraseIdx_cons_succ, List.filter_cons]
          have hne : a.1 ≠ k := fun e => ho.1 (by
            rw [e, ← h1']
            simp only [List.getElem_cons_succ]
            exact List.mem_map_of_mem (List.getElem_mem _))
          simp only [ne_eq, hne, not_false_iff, decide_true, if_true]
          rw [ih ho.2 i (by simpa using hl) (by simpa using h1) (by rename_i hh; intro j hj; have := hh (j+1) (by omega); simpa using this) (by simpa using h1')]
    have e2 : ((es.map (encE ke ve)).toArray.eraseIdxIfInBounds i) = ((delE k es).map (encE ke ve)).toArray := by
      rw [e]
      rw [← eraseIdx_map']
      simp
    simp [Builtin.delete_, run_underlying hk.und, getObj, setObj, Sem.run, hm, hk.chk, hf, World.putObj]
    rw [← e2]
    simp

theorem run_range {W : World} {r : Nat} {es : Ents K V} {c : Nat} (hm : IsMap ke ve W r es c) :
    (Instr.range tm (.map (some r))).run P W = .ok (.pointer (some ⟨W.heap.size, 0, none⟩)) (W.alloc (.mapIter (some r) c #[] c)) := by
  unfold IsMap at hm
  simp [Instr.range, run_underlying hk.und, getObj, Sem.run, hm]

omit [DecidableEq K] hk in
/-- one step of a range over a map into which nothing comes meanwhile: it is over, or some entry is met that was not met before -/
theorem run_next {W : World} {r it : Nat} {es : Ents K V} {c : Nat} {seen : Array Nat} (hm : IsMap ke ve W r es c) (hi : W.heap[it]? = some (.mapIter (some r) c seen c)) (hb : ∀ e ∈ es, e.2.2 < c) :
    ((∀ e ∈ es, e.2.2 ∈ seen) ∧ ∀ ty, (Instr.next (.pointer (some ⟨it, 0, none⟩)) false ty).run P W = .ok (.tuple #[.bool false]) W) ∨
    ∃ e ∈ es, e.2.2 ∉ seen ∧ ∃ W', W'.heap = (W.putObj it (.mapIter (some r) c (seen.push e.2.2) c)).heap ∧ W'.os = W.os ∧ W'.tape = W.tape ∧ W'.output = W.output ∧
      ∀ ty, (Instr.next (.pointer (some ⟨it, 0, none⟩)) false ty).run P W = .ok (.tuple #[.bool true, ke e.1, ve e.2.1]) W' := by
  unfold IsMap at hm
  have hns : (!seen.isEmpty && !(es.map (encE ke ve)).toArray.isEmpty && (es.map (encE ke ve)).toArray.all (·.born ≥ c)) = false := by
    cases es with
    | nil => simp
    | cons e es =>
      have := hb e (by simp)
      simp [encE]
      intro _ h
      omega
  let left := (es.map (encE ke ve)).toArray.filter fun e => !seen.contains e.born
  have hleft : ∀ x ∈ left, ∃ e ∈ es, e.2.2 ∉ seen ∧ x = encE ke ve e := by
    intro x hx
    simp only [left, Array.mem_filter, List.mem_toArray, List.mem_map] at hx
    obtain ⟨⟨e, he, rfl⟩, h2⟩ := hx
    exact ⟨e, he, by simpa [encE] using h2, rfl⟩
  have hold : left.filter (·.born < c) = left := by
    rw [Array.filter_eq_self]
    intro x hx
    obtain ⟨e, he, _, rfl⟩ := hleft x hx
    exact decide_eq_true (hb e he)
  have hnew : left.filter (·.born ≥ c) = #[] := by
    rw [Array.filter_eq_empty_iff]
    intro x hx
    obtain ⟨e, he, _, rfl⟩ := hleft x hx
    have := hb e he
    simp [encE]; omega
  by_cases h0 : left = #[]
  · refine .inl ⟨fun e he => ?_, ?_⟩
    · by_cases hs : e.2.2 ∈ seen
      · exact hs
      · exfalso
        have : encE ke ve e ∈ left := by
          simp only [left, Array.mem_filter, List.mem_toArray]
          exact ⟨List.mem_map_of_mem he, by simpa [encE] using hs⟩
        rw [h0] at this
        simp at this
    · intro ty
      simp only [left] at h0 hold hnew
      simp only [Instr.next, Sem.run_bind, getObj, Sem.run, hi, hm, Result.andThen_ok]
      simp only [hns, Bool.false_eq_true, if_false, Sem.run_bind, h0]
      simp [choose, Sem.run, Question.forced]
  · right
    have hne : left.isEmpty = false := by simpa using h0
    let cand := (if left.isEmpty then #[none] else #[]) ++ (left ++ (#[] : Array MapEntry)).map some
    have hcand : cand = left.map some := by simp [cand, hne]
    have hsz : 0 < left.size := by
      rcases Nat.eq_zero_or_pos left.size with h | h
      · exact absurd (Array.size_eq_zero_iff.1 h) h0
      · exact h
    have pick : ∀ j, j < left.size → ∃ e ∈ es, e.2.2 ∉ seen ∧ (left.map some)[j]? = some (some (encE ke ve e)) := by
      intro j hj
      obtain ⟨e, he, hs, hx⟩ := hleft left[j] (Array.getElem_mem hj)
      exact ⟨e, he, hs, by simp [hj, hx]⟩
    have run : ∀ (j : Nat) (W2 : World) (e : K × V × Nat), (choose (.mapNext left.size)).run P W = .ok j W2 → W2.heap = W.heap → W2.os = W.os → W2.tape = W.tape → W2.output = W.output → (left.map some)[j]? = some (some (encE ke ve e)) →
        ∃ W', W'.heap = (W.putObj it (.mapIter (some r) c (seen.push e.2.2) c)).heap ∧ W'.os = W.os ∧ W'.tape = W.tape ∧ W'.output = W.output ∧
          ∀ ty, (Instr.next (.pointer (some ⟨it, 0, none⟩)) false ty).run P W = .ok (.tuple #[.bool true, ke e.1, ve e.2.1]) W' := by
      intro j W2 e hch hh ho ht hp he
      refine ⟨W2.putObj it (.mapIter (some r) c (seen.push e.2.2) c), by simp [World.putObj, hh], ho, ht, hp, fun ty => ?_⟩
      have hi2 : W2.heap[it]? = some (.mapIter (some r) c seen c) := by rw [hh]; exact hi
      simp only [left] at hold hnew hne hch he
      simp only [Instr.next, Sem.run_bind, getObj, Sem.run, hi, hm, Result.andThen_ok]
      simp only [hns, Bool.false_eq_true, if_false, Sem.run_bind, Sem.run_pure, Result.andThen_ok, hold, hnew, hne, Array.append_empty, Array.empty_append, Array.size_map, hch, he]
      simp [setObj, Sem.run, hi2, World.putObj, encE]
    by_cases h1 : left.size ≤ 1
    · obtain ⟨e, he, hs, hx⟩ := pick 0 hsz
      obtain ⟨W', a1, a2, a3, a4, a5⟩ := run 0 W e (by simp [choose, Sem.run, Question.forced, h1]) rfl rfl rfl rfl hx
      exact ⟨e, he, hs, W', a1, a2, a3, a4, a5⟩
    · obtain ⟨e, he, hs, hx⟩ := pick ((Question.mapNext left.size).cut (W.tape W.drawn (.mapNext left.size))) (by simp [Question.cut]; exact Nat.mod_lt _ hsz)
      obtain ⟨W', a1, a2, a3, a4, a5⟩ := run _ { W with drawn := W.drawn + 1 } e (by simp [choose, Sem.run, Question.forced, h1]) rfl rfl rfl rfl hx
      exact ⟨e, he, hs, W', a1, a2, a3, a4, a5⟩

omit [DecidableEq K] hk in
theorem run_entry {W : World} {r it : Nat} {es : Ents K V} {c : Nat} {seen : Array Nat} {e : K × V × Nat} (hm : IsMap ke ve W r es c) (hi : W.heap[it]? = some (.mapIter (some r) c (seen.push e.2.2) c))
    (he : e ∈ es) (hb : (es.map (·.2.2)).Nodup) :
    (Instr.entry (.pointer (some ⟨it, 0, none⟩))).run P W = .ok (.tuple #[ke e.1, ve e.2.1]) W := by
  unfold IsMap at hm
  have hf : (es.map (encE ke ve)).find? (fun x => x.born == e.2.2) = some (encE ke ve e) := by
    clear hm
    induction es with
    | nil => simp at he
    | cons a es ih =>
      simp only [List.map_cons, List.find?_cons]
      simp only [List.map_cons, List.nodup_cons] at hb
      by_cases h : a.2.2 = e.2.2
      · have : a = e := by
          rcases List.mem_cons.1 he with rfl | h'
          · rfl
          · exact absurd (by rw [h]; exact List.mem_map_of_mem h') hb.1
        subst this
        simp [encE]
      · have : ((encE ke ve a).born == e.2.2) = false := by simpa [encE] using h
        rw [this]
        have he' : e ∈ es := by
          rcases List.mem_cons.1 he with rfl | h'
          · exact absurd rfl h
          · exact h'
        exact ih he' hb.2
  simp [Instr.entry, getObj, Sem.run, hi, hm, hf, encE]

omit hk in
/-- no two entries came at once, and all came before now -/
def Borns (es : Ents K V) (c : Nat) : Prop := (es.map (·.2.2)).Nodup ∧ ∀ e ∈ es, e.2.2 < c
omit hk in
theorem Borns.upd {es : Ents K V} {c : Nat} (h : Borns es c) (k : K) (v : V) : Borns (updE k v c es) (clockE k c es) := by
  unfold Borns updE clockE at *
  cases hf : es.findIdx? fun e => decide (e.1 = k) with
  | none =>
    refine ⟨?_, ?_⟩
    · simp only [List.map_append, List.map_cons, List.map_nil]
      rw [List.nodup_append]
      refine ⟨h.1, by simp, ?_⟩
      intro a ha b hb
      simp at hb
      subst hb
      rw [List.mem_map] at ha
      obtain ⟨e, he, rfl⟩ := ha
      have := h.2 e he
      omega
    · intro e he
      simp only [List.mem_append, List.mem_singleton] at he
      rcases he with he | rfl
      · have := h.2 e he
        simp; omega
      · simp
  | some i =>
    have hm : (es.modify i fun e => (k, v, e.2.2)).map (·.2.2) = es.map (·.2.2) := by
      apply List.ext_getElem (by simp)
      intro j hj1 hj2
      simp only [List.getElem_map, List.getElem_modify]
      split <;> rfl
    refine ⟨by simp only [hm]; exact h.1, ?_⟩
    intro e he
    have : e.2.2 ∈ (es.modify i fun e => (k, v, e.2.2)).map (·.2.2) := List.mem_map_of_mem he
    rw [hm, List.mem_map] at this
    obtain ⟨e', he', e2⟩ := this
    have := h.2 e' he'
    simp; omega
omit hk in
theorem Borns.del {es : Ents K V} {c : Nat} (h : Borns es c) (k : K) : Borns (delE k es) c := by
  unfold Borns delE at *
  exact ⟨List.Nodup.sublist (List.Sublist.map _ List.filter_sublist) h.1, fun e he => h.2 e (List.mem_filter.1 he).1⟩
omit hk in
/-- a map that holds F -/
def MapIs (ke : K → Value) (ve : V → Value) (W : World) (r : Nat) (F : K → Option V) : Prop :=
  ∃ es c, IsMap ke ve W r es c ∧ Once es ∧ Borns es c ∧ ∀ k, getE es k = F k
omit hk in
theorem MapIs.of_heap {W W' : World} {r : Nat} {F : K → Option V} (h : MapIs ke ve W r F) (e : W'.heap[r]? = W.heap[r]?) : MapIs ke ve W' r F := by
  obtain ⟨es, c, h1, h2⟩ := h
  exact ⟨es, c, e.trans h1, h2⟩
omit hk in
theorem MapIs.ext {W W' : World} {r : Nat} {F : K → Option V} (h : MapIs ke ve W r F) (e : Below W.heap.size W W') : MapIs ke ve W' r F := by
  refine h.of_heap (e.block r ?_)
  obtain ⟨es, c, h1, _⟩ := h
  exact (Array.getElem?_eq_some_iff.1 h1).1
omit hk in
theorem MapIs.lt {W : World} {r : Nat} {F : K → Option V} (h : MapIs ke ve W r F) : r < W.heap.size := by
  obtain ⟨es, c, h1, _⟩ := h
  exact (Array.getElem?_eq_some_iff.1 h1).1
omit hk in
theorem mapIs_new (W : World) : MapIs ke ve (W.alloc (.map #[] 0)) W.heap.size (fun _ : K => (none : Option V)) :=
  ⟨[], 0, World.alloc_heap_new W _, once_nil, ⟨List.Pairwise.nil, fun _ h => by cases h⟩, fun _ => rfl⟩
theorem MapIs.upd {W : World} {r : Nat} {F : K → Option V} (h : MapIs ke ve W r F) (k : K) (v : V) :
    ∃ W', (Instr.mapUpdate tm (.map (some r)) (ke k) (ve v)).run P W = .ok () W' ∧ W.grownBy W' (some r) ∧ W'.heap.size = W.heap.size ∧ MapIs ke ve W' r (fun k' => if k' = k then some v else F k') := by
  have hl := h.lt
  obtain ⟨es, c, h1, h2, h3, h4⟩ := h
  refine ⟨_, run_update hk h1 k v, ?_, by simp, ?_⟩
  · exact ⟨rfl, rfl, rfl, by simp, fun j hj hne => World.putObj_heap_other (fun e => hne (by rw [e]))⟩
  · exact ⟨_, _, World.putObj_heap_same hl, h2.upd k v c, h3.upd k v, fun k' => by rw [getE_upd, h4]⟩
theorem MapIs.look {W : World} {r : Nat} {F : K → Option V} (h : MapIs ke ve W r F) (k : K) {v : V} (hg : F k = some v) :
    (Instr.lookup tm (.map (some r)) (ke k) false).run P W = .ok (ve v) W := by
  obtain ⟨es, c, h1, h2, h3, h4⟩ := h
  exact run_lookup1 hk h1 k ((h4 k).trans hg)
theorem MapIs.look_ok {W : World} {r : Nat} {F : K → Option V} (h : MapIs ke ve W r F) (k : K) {v : V} (hg : F k = some v) :
    (Instr.lookup tm (.map (some r)) (ke k) true).run P W = .ok (.tuple #[ve v, .bool true]) W := by
  obtain ⟨es, c, h1, h2, h3, h4⟩ := h
  exact run_lookup_ok hk h1 k ((h4 k).trans hg)
theorem MapIs.look_none {W : World} {r : Nat} {F : K → Option V} (h : MapIs ke ve W r F) (k : K) (hg : F k = none) {z : Value} (hz : ∀ w, (zeroValue tv).run P w = .ok z w) :
    (Instr.lookup tm (.map (some r)) (ke k) true).run P W = .ok (.tuple #[z, .bool false]) W := by
  obtain ⟨es, c, h1, h2, h3, h4⟩ := h
  exact run_lookup_none hk h1 k ((h4 k).trans hg) hz
theorem MapIs.del {W : World} {r : Nat} {es : Ents K V} {c : Nat} (h1 : IsMap ke ve W r es c) (h2 : Once es) (h3 : Borns es c) (k : K) (ty : TypeId) :
    ∃ W', (Builtin.delete_ #[tm, tk] ty #[.map (some r), ke k]).run P W = .ok (.tuple #[]) W' ∧ W.grownBy W' (some r) ∧ W'.heap.size = W.heap.size ∧ IsMap ke ve W' r (delE k es) c ∧ Once (delE k es) ∧ Borns (delE k es) c := by
  have hl : r < W.heap.size := (Array.getElem?_eq_some_iff.1 h1).1
  refine ⟨_, run_delete hk h1 h2 k ty, ?_, by simp, World.putObj_heap_same hl, h2.del k, h3.del k⟩
  exact ⟨rfl, rfl, rfl, by simp, fun j hj hne => World.putObj_heap_other (fun e => hne (by rw [e]))⟩

omit [DecidableEq K] hk in
theorem nodup_inj {α β : Type} (f : α → β) : ∀ (l : List α), (l.map f).Nodup → ∀ a ∈ l, ∀ b ∈ l, f a = f b → a = b
  | [], _, _, ha, _, _, _ => by cases ha
  | x :: l, h, a, ha, b, hb, e => by
    simp only [List.map_cons, List.nodup_cons] at h
    rcases List.mem_cons.1 ha with rfl | ha' <;> rcases List.mem_cons.1 hb with rfl | hb'
    · rfl
    · exact absurd (by rw [e]; exact List.mem_map_of_mem hb') h.1
    · exact absurd (by rw [← e]; exact List.mem_map_of_mem ha') h.1
    · exact nodup_inj f l h.2 a ha' b hb' e
omit hk in
theorem getE_filter {es : Ents K V} (ho : Once es) (p : V → Bool) (k : K) : getE (es.filter fun e => p e.2.1) k = (getE es k).filter p := by
  unfold getE Once at *
  induction es with
  | nil => rfl
  | cons e es ih =>
    simp only [List.map_cons, List.nodup_cons] at ho
    simp only [List.filter_cons, List.find?_cons]
    by_cases h : e.1 = k
    · subst h
      by_cases hp : p e.2.1 = true
      · simp [hp, Option.filter]
      · have hn : (es.filter fun e => p e.2.1).find? (fun a => decide (a.1 = e.1)) = none := by
          rw [List.find?_eq_none]
          intro a ha
          have := (List.mem_filter.1 ha).1
          simp only [decide_eq_true_eq]
          exact fun h => ho.1 (by rw [← h]; exact List.mem_map_of_mem this)
        simp [hp, hn, Option.filter]
    · by_cases hp : p e.2.1 = true
      · simp only [hp, if_true, List.find?_cons, h, decide_false]; exact ih ho.2
      · simp only [hp, h, decide_false]; exact ih ho.2
omit hk in
/-- which entries are left when those that were met and are bad have been taken out -/
def keepE (bad : V → Bool) (seen : Array Nat) (e : K × V × Nat) : Bool := !(decide (e.2.2 ∈ seen) && bad e.2.1)
omit hk in
theorem keep_del {es : Ents K V} {c : Nat} (ho : Once es) (hb : Borns es c) (bad : V → Bool) (seen : Array Nat) {e : K × V × Nat} (he : e ∈ es) (hx : bad e.2.1 = true) :
    delE e.1 (es.filter (keepE bad seen)) = es.filter (keepE bad (seen.push e.2.2)) := by
  unfold delE
  rw [List.filter_filter]
  refine List.filter_congr fun a ha => ?_
  by_cases h : a = e
  · subst h
    simp [keepE, hx]
  · have h1 : a.1 ≠ e.1 := fun h' => h (nodup_inj _ es ho a ha e he h')
    have h2 : a.2.2 ≠ e.2.2 := fun h' => h (nodup_inj _ es hb.1 a ha e he h')
    simp [keepE, h1, h2]
omit [DecidableEq K] hk in
theorem keep_same {es : Ents K V} {c : Nat} (hb : Borns es c) (bad : V → Bool) (seen : Array Nat) {e : K × V × Nat} (he : e ∈ es) (hx : bad e.2.1 = false) :
    es.filter (keepE bad seen) = es.filter (keepE bad (seen.push e.2.2)) := by
  refine List.filter_congr fun a ha => ?_
  by_cases h : a = e
  · subst h
    simp [keepE, hx]
  · have h2 : a.2.2 ≠ e.2.2 := fun h' => h (nodup_inj _ es hb.1 a ha e he h')
    simp [keepE, h2]
omit [DecidableEq K] hk in
theorem keep_done {es : Ents K V} (bad : V → Bool) (seen : Array Nat) (hs : ∀ e ∈ es.filter (keepE bad seen), e.2.2 ∈ seen) :
    es.filter (keepE bad seen) = es.filter fun e => !(bad e.2.1) := by
  refine List.filter_congr fun a ha => ?_
  by_cases hb : bad a.2.1 = true
  · by_cases h : a.2.2 ∈ seen
    · simp [keepE, h]
    · have := hs a (List.mem_filter.2 ⟨ha, by simp [keepE, h]⟩)
      exact absurd this h
  · simp [keepE, hb]
/-- how many entries have not been met yet, read off the world -/
def unmet (es : Ents K V) (it : Nat) (W : World) : Nat :=
  match W.heap[it]? with
  | some (.mapIter _ _ seen _) => (es.filter fun e => decide (e.2.2 ∉ seen)).length
  | _ => 0
omit [DecidableEq K] hk in
theorem unmet_lt {es : Ents K V} {seen : Array Nat} {e : K × V × Nat} (he : e ∈ es) (hs : e.2.2 ∉ seen) :
    (es.filter fun a => decide (a.2.2 ∉ seen.push e.2.2)).length < (es.filter fun a => decide (a.2.2 ∉ seen)).length := by
  have e1 : (es.filter fun a => decide (a.2.2 ∉ seen.push e.2.2)) = (es.filter fun a => decide (a.2.2 ∉ seen)).filter fun a => decide (a.2.2 ≠ e.2.2) := by
    rw [List.filter_filter]
    refine List.filter_congr fun a _ => ?_
    simp only [Array.mem_push, not_or]
    rw [Bool.eq_iff_iff]; simp; exact and_comm
  rw [e1]
  refine List.length_filter_lt_length_iff_exists.2 ⟨e, List.mem_filter.2 ⟨he, by simpa using hs⟩, by simp⟩
end
end Go.Proofs.Ytgcldgchhdjnhaa
namespace Go.Proofs.Ytgcldgchhdjnhaa
open Go.RowKit Go.Shelf

def kv (k : Int × Int) : Value := .agg #[.int .i64 k.1, .int .i64 k.2]
def av (a : Stp × Int) : Value := .agg #[.bool a.1.win, .int .i64 a.1.idx, .bool a.1.back, .int .i64 a.2]

theorem equal_pair (a b : Int × Int) (w : World) : (Op.equal 137 (kv a) (kv b)).run Try.prog w = .ok (decide (a = b)) w := by
  obtain ⟨a1, a2⟩ := a
  obtain ⟨b1, b2⟩ := b
  have h : (Op.equal 137 (kv (a1, a2)) (kv (b1, b2))).run Try.prog w = .ok (a1 == b1 && a2 == b2) w := by
    simp only [Op.equal, Op.maxDepth, kv]
    rw [run_equalIn_struct w 9999 137 _ _ (by kernel_rfl) (by kernel_rfl)]
    have hf : (Try.prog.fieldsOf 137).toList = [⟨"from", 3, 0, false, "", "quinella/cut", 0⟩, ⟨"to", 3, 1, false, "", "quinella/cut", 8⟩] := by kernel_rfl
    rw [hf]
    by_cases e1 : a1 = b1 <;> by_cases e2 : a2 = b2 <;> simp [go_sem, e1, e2]
  rw [h]
  have e : (a1 == b1 && a2 == b2) = decide ((a1, a2) = (b1, b2)) := by rw [Bool.eq_iff_iff]; simp
  rw [e]
theorem check_pair' (b : Bool) (k : Int × Int) (w : World) (n : Nat) : (Instr.checkKey b (n + 2) 137 (kv k)).run Try.prog w = .ok () w := by
  have h3 : ∀ x w, (Instr.checkKey b (n + 1) 3 (.int .i64 x)).run Try.prog w = .ok () w := fun x w => by
    rw [Instr.checkKey]; simp [go_sem]
  rw [Instr.checkKey]
  simp only [kv, Sem.run_bind, Try.runUnderlying137, Result.andThen_ok]
  simp [go_sem, h3]
theorem check_pair (b : Bool) (k : Int × Int) (w : World) : (Instr.checkKey b 10000 137 (kv k)).run Try.prog w = .ok () w := check_pair' b k w 9998
theorem find_pair (k : Int × Int) (l : Ents (Int × Int) (Stp × Int)) (w : World) : (Instr.findKey 137 (kv k) (l.map (encE kv av))).run Try.prog w = .ok (lookFrom av k l 0) w := by
  have h : ∀ (l : Ents (Int × Int) (Stp × Int)) (i : Nat), (Instr.findAsking 137 (kv k) (l.map (encE kv av)) i).run Try.prog w = .ok (lookFrom av k l i) w := by
    intro l
    induction l with
    | nil => intro i; rfl
    | cons e l ih =>
      intro i
      simp only [List.map_cons, Instr.findAsking, lookFrom, encE, Sem.run_bind, equal_pair, Result.andThen_ok]
      by_cases hk : e.1 = k
      · subst hk; simp
      · have : ¬ k = e.1 := fun h => hk h.symm
        simp only [hk, this, decide_false, Bool.false_eq_true, if_false]
        exact ih (i + 1)
  cases l with
  | nil => simp [Instr.findKey, go_sem, Instr.findNow, lookFrom]
  | cons e l =>
    have := h (e :: l) 0
    simp only [Instr.findKey, Sem.run_bind, Try.runUnderlying137, Result.andThen_ok, List.map_cons, Instr.findNow, encE, kv, Instr.sameNow] at this ⊢
    exact this
theorem pair_keyed : Keyed Try.prog 130 137 134 kv av where
  und := by kernel_rfl
  chk := check_pair
  find := find_pair
  stay := fun k => by
    have : ∀ n : Nat, Instr.sameBits (n + 2) (kv k) (kv k) = true := fun n => by simp [Instr.sameBits, kv]
    exact this 9998
end Go.Proofs.Ytgcldgchhdjnhaa
