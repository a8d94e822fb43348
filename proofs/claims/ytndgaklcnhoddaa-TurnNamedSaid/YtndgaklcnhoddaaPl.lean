/-
  Plain: in a graph each place has the places to which it leads: how many turns can be done from a place, which places go on without end, and the rank of all others.
  Plain: the shortest way from a place back to itself, as a search finds it that goes through places in the order in which they are found.
  Plain: threads, states, what a turn does to them, and their numbers.
  Plain: rows and circles: what becomes of each window's screw, and that a list is a circle, as the program sees it, just if it is one, as the reference counts.
  Plain: circles are ways from a state back to itself; less full states last as long; a state is safe just if some way from it comes back.
  Plain: increasing lists of numbers below another one, in lexicographic order; the same sets as bits.
  Plain: steps that doom a state, the longest rows, and what visits lead to.
  Plain: which windows have to wait: the first list in the order of their lengths, then in lexicographic order; found by bits it is the same one.
  Plain: the lists of numbers below one, as the program goes from one to the next.
  Plain: how many turns can be done from states, by their numbers: what is found step by step is right, and what is never found never ends.
  Plain: windows that are named otherwise: states, rows, circles and ranks go with them.
  Plain: the way back, out of where each state was found from; ways by numbers are ways by states.
-/

namespace Go.Proofs.Ytndgaklcnhoddaa
section
variable {α : Type}
/-- can so many turns be done? -/
def lv (nx : α → List α) : Nat → α → Bool
  | 0, _ => true
  | m + 1, i => (nx i).any (lv nx m)
/-- without end -/
def SafeP (nx : α → List α) (i : α) : Prop := ∀ m, lv nx m i = true
/-- just so many -/
def Rk (nx : α → List α) (i : α) (r : Nat) : Prop := lv nx r i = true ∧ lv nx (r + 1) i = false
variable {nx : α → List α}
theorem lv_down : ∀ (m : Nat) (i : α), lv nx (m + 1) i = true → lv nx m i = true
  | 0, _, _ => rfl
  | m + 1, i, h => by
    unfold lv at h ⊢
    rw [List.any_eq_true] at h ⊢
    obtain ⟨x, hx, hl⟩ := h
    exact ⟨x, hx, lv_down m x hl⟩
theorem lv_le {m k : Nat} (i : α) (hk : k ≤ m) (h : lv nx m i = true) : lv nx k i = true := by
  induction m with
  | zero => obtain rfl : k = 0 := by omega
            exact h
  | succ m ih =>
    by_cases e : k = m + 1
    · subst e; exact h
    · exact ih (by omega) (lv_down _ _ h)
theorem Rk.inj {i : α} {r s : Nat} (h : Rk nx i r) (k : Rk nx i s) : r = s := by
  rcases Nat.lt_trichotomy r s with a | a | a
  · have := lv_le i (show r + 1 ≤ s by omega) k.1
    rw [h.2] at this; cases this
  · exact a
  · have := lv_le i (show s + 1 ≤ r by omega) h.1
    rw [k.2] at this; cases this
theorem Rk.unsafe {i : α} {r : Nat} (h : Rk nx i r) : ¬ SafeP nx i := fun s => by have := s (r + 1); rw [h.2] at this; cases this
theorem rk_of_not : ∀ {m : Nat} {i : α}, lv nx m i = false → ∃ r, r < m ∧ Rk nx i r
  | 0, _, h => by cases h
  | m + 1, i, h => by
    cases e : lv nx m i with
    | true => exact ⟨m, by omega, e, h⟩
    | false =>
      obtain ⟨r, hr, hk⟩ := rk_of_not e
      exact ⟨r, by omega, hk⟩
theorem safe_or (nx : α → List α) (i : α) : SafeP nx i ∨ ∃ r, Rk nx i r := by
  by_cases h : ∃ m, lv nx m i = false
  · obtain ⟨m, hm⟩ := h
    obtain ⟨r, _, hr⟩ := rk_of_not hm
    exact .inr ⟨r, hr⟩
  · refine .inl fun m => ?_
    cases e : lv nx m i with
    | true => rfl
    | false => exact absurd ⟨m, e⟩ h
/-- the rank, if the ranks of all to which a place leads are known -/
def topR (rk : α → Nat) : List α → Nat
  | [] => 0
  | x :: l => max (rk x + 1) (topR rk l)
theorem topR_ge {rk : α → Nat} : ∀ {l : List α} {x : α}, x ∈ l → rk x + 1 ≤ topR rk l
  | y :: l, x, h => by
    unfold topR
    rcases List.mem_cons.1 h with e | e
    · subst e; omega
    · have := topR_ge (rk := rk) e; omega
theorem topR_at {rk : α → Nat} : ∀ {l : List α}, 0 < topR rk l → ∃ x ∈ l, rk x + 1 = topR rk l
  | [], h => by simp [topR] at h
  | y :: l, h => by
    unfold topR at h ⊢
    by_cases e : topR rk l ≤ rk y + 1
    · exact ⟨y, by simp, by omega⟩
    · obtain ⟨x, hx, he⟩ := topR_at (rk := rk) (l := l) (by omega)
      exact ⟨x, by simp [hx], by omega⟩
theorem rk_of {i : α} {rk : α → Nat} (h : ∀ x ∈ nx i, Rk nx x (rk x)) : Rk nx i (topR rk (nx i)) := by
  refine ⟨?_, ?_⟩
  · by_cases h0 : topR rk (nx i) = 0
    · rw [h0]; rfl
    · obtain ⟨x, hx, e⟩ := topR_at (rk := rk) (l := nx i) (by omega)
      rw [← e]
      unfold lv
      rw [List.any_eq_true]
      exact ⟨x, hx, (h x hx).1⟩
  · unfold lv
    rw [List.any_eq_false]
    intro x hx
    have h1 := topR_ge (rk := rk) hx
    intro hl
    have := lv_le x h1 hl
    rw [(h x hx).2] at this
    cases this
/-- what all of whose places lead on to some of them goes on without end -/
theorem safe_of {S : α → Prop} (h : ∀ i, S i → ∃ x ∈ nx i, S x) : ∀ i, S i → SafeP nx i := by
  intro i hi m
  induction m generalizing i with
  | zero => rfl
  | succ m ih =>
    obtain ⟨x, hx, hs⟩ := h i hi
    unfold lv
    rw [List.any_eq_true]
    exact ⟨x, hx, ih x hs⟩
theorem safe_next {i : α} (h : SafeP nx i) : ∃ x ∈ nx i, SafeP nx x := by
  by_cases hn : ∃ x ∈ nx i, SafeP nx x
  · exact hn
  · exfalso
    have hr : ∀ x ∈ nx i, ∃ r, Rk nx x r := fun x hx => (safe_or nx x).resolve_left fun s => hn ⟨x, hx, s⟩
    have : ∃ rk : α → Nat, ∀ x ∈ nx i, Rk nx x (rk x) := by
      classical
      exact ⟨fun x => if hx : x ∈ nx i then (hr x hx).choose else 0, fun x hx => by simp only [dif_pos hx]; exact (hr x hx).choose_spec⟩
    obtain ⟨rk, hk⟩ := this
    exact (rk_of hk).unsafe h
theorem safe_back {i x : α} (hx : x ∈ nx i) (h : SafeP nx x) : SafeP nx i := by
  intro m
  cases m with
  | zero => rfl
  | succ m => unfold lv; rw [List.any_eq_true]; exact ⟨x, hx, h m⟩
theorem safe_iff (i : α) : SafeP nx i ↔ ∃ x ∈ nx i, SafeP nx x := ⟨safe_next, fun ⟨_, hx, h⟩ => safe_back hx h⟩
/-- how many turns can be done from a place, -1: without end -/
noncomputable def rowOf (nx : α → List α) (i : α) : Int := by
  classical
  exact if h : ∃ r, Rk nx i r then (h.choose : Int) else -1
theorem rowOf_rk {i : α} {r : Nat} (h : Rk nx i r) : rowOf nx i = r := by
  unfold rowOf
  rw [dif_pos ⟨r, h⟩, (Exists.choose_spec (⟨r, h⟩ : ∃ r, Rk nx i r)).inj h]
theorem rowOf_safe {i : α} (h : SafeP nx i) : rowOf nx i = -1 := by
  unfold rowOf
  rw [dif_neg fun ⟨r, hr⟩ => hr.unsafe h]
theorem rowOf_cases (nx : α → List α) (i : α) : (rowOf nx i = -1 ∧ SafeP nx i) ∨ ∃ r : Nat, rowOf nx i = r ∧ Rk nx i r := by
  rcases safe_or nx i with h | ⟨r, h⟩
  · exact .inl ⟨rowOf_safe h, h⟩
  · exact .inr ⟨r, rowOf_rk h, h⟩
theorem rowOf_neg {i : α} : rowOf nx i < 0 ↔ SafeP nx i := by
  rcases rowOf_cases nx i with ⟨e, h⟩ | ⟨r, e, h⟩
  · simp [e, h]
  · simp [e, h.unsafe]
/-- a table of ranks that fits the graph is that of the ranks -/
theorem rowOf_table {P : α → Prop} {T : α → Int} (hN : ∀ i, P i → ∀ x ∈ nx i, P x)
    (h1 : ∀ i, P i → T i < 0 → T i = -1 ∧ ∃ x ∈ nx i, T x < 0)
    (h2 : ∀ i, P i → 0 ≤ T i → (∀ x ∈ nx i, 0 ≤ T x ∧ T x < T i) ∧ (0 < T i → ∃ x ∈ nx i, T x = T i - 1)) : ∀ i, P i → rowOf nx i = T i := by
  have hs : ∀ i, (P i ∧ T i < 0) → SafeP nx i := safe_of fun i ⟨hi, ht⟩ => by
    obtain ⟨_, x, hx, hn⟩ := h1 i hi ht
    exact ⟨x, hx, hN i hi x hx, hn⟩
  have hr : ∀ (n : Nat) (i : α), P i → T i = n → Rk nx i n := by
    intro n
    induction n using Nat.strongRecOn with
    | _ n ih =>
      intro i hi ht
      obtain ⟨a, b⟩ := h2 i hi (by omega)
      have hk : ∀ x ∈ nx i, Rk nx x (T x).toNat := fun x hx => by
        obtain ⟨p, q⟩ := a x hx
        exact ih (T x).toNat (by omega) x (hN i hi x hx) (by omega)
      have := rk_of hk
      have e : topR (fun x => (T x).toNat) (nx i) = n := by
        by_cases h0 : n = 0
        · by_cases hp : 0 < topR (fun x => (T x).toNat) (nx i)
          · obtain ⟨x, hx, _⟩ := topR_at hp
            have := a x hx
            omega
          · omega
        · obtain ⟨x, hx, hxe⟩ := b (by omega)
          have h3 := topR_ge (rk := fun x => (T x).toNat) hx
          obtain ⟨y, hy, hye⟩ := topR_at (rk := fun x => (T x).toNat) (l := nx i) (by omega)
          have := a y hy
          omega
      rw [e] at this
      exact this
  intro i hi
  by_cases ht : T i < 0
  · rw [rowOf_safe (hs i ⟨hi, ht⟩), (h1 i hi ht).1]
  · rw [rowOf_rk (hr (T i).toNat i hi (by omega))]; omega
/-- all turns of a row, and its end -/
def Row (nx : α → List α) : α → List α → α → Prop
  | i, [], j => i = j
  | i, x :: l, j => x ∈ nx i ∧ Row nx x l j
theorem lv_iff : ∀ {m : Nat} {i : α}, lv nx m i = true ↔ ∃ l j, l.length = m ∧ Row nx i l j
  | 0, i => by simp [lv]; exact ⟨i, rfl⟩
  | m + 1, i => by
    unfold lv
    rw [List.any_eq_true]
    constructor
    · rintro ⟨x, hx, h⟩
      obtain ⟨l, j, h1, h2⟩ := lv_iff.1 h
      exact ⟨x :: l, j, by simp [h1], hx, h2⟩
    · rintro ⟨l, j, h1, h2⟩
      cases l with
      | nil => simp at h1
      | cons x l => exact ⟨x, h2.1, lv_iff.2 ⟨l, j, by simpa using h1, h2.2⟩⟩
end
end Go.Proofs.Ytndgaklcnhoddaa
namespace Go.Proofs.Ytndgaklcnhoddaa
section
variable {α : Type}
/-- so many turns lead from one place to another one -/
def Wlk (nx : α → List α) : Nat → α → α → Prop
  | 0, i, j => i = j
  | m + 1, i, j => ∃ x ∈ nx i, Wlk nx m x j
variable {nx : α → List α}
theorem Wlk.snoc : ∀ {m : Nat} {i j k : α}, Wlk nx m i j → k ∈ nx j → Wlk nx (m + 1) i k
  | 0, i, j, k, h, hk => by cases h; exact ⟨k, hk, rfl⟩
  | m + 1, i, j, k, ⟨x, hx, h⟩, hk => ⟨x, hx, h.snoc hk⟩
theorem Wlk.last : ∀ {m : Nat} {i k : α}, Wlk nx (m + 1) i k → ∃ j, Wlk nx m i j ∧ k ∈ nx j
  | 0, i, k, ⟨x, hx, h⟩ => by cases h; exact ⟨i, rfl, hx⟩
  | m + 1, i, k, ⟨x, hx, h⟩ => by
    obtain ⟨j, h1, h2⟩ := h.last
    exact ⟨j, ⟨x, hx, h1⟩, h2⟩
theorem Wlk.app : ∀ {m k : Nat} {i j l : α}, Wlk nx m i j → Wlk nx k j l → Wlk nx (m + k) i l
  | 0, k, i, j, l, h, h2 => by cases h; rw [Nat.zero_add]; exact h2
  | m + 1, k, i, j, l, ⟨x, hx, h⟩, h2 => by rw [Nat.succ_add]; exact ⟨x, hx, h.app h2⟩
theorem Wlk.lv : ∀ {m : Nat} {i j : α}, Wlk nx m i j → lv nx m i = true
  | 0, _, _, _ => rfl
  | m + 1, i, j, ⟨x, hx, h⟩ => by unfold Go.Proofs.Ytndgaklcnhoddaa.lv; rw [List.any_eq_true]; exact ⟨x, hx, h.lv⟩
theorem wlk_of_lv : ∀ {m : Nat} {i : α}, lv nx m i = true → ∃ j, Wlk nx m i j
  | 0, i, _ => ⟨i, rfl⟩
  | m + 1, i, h => by
    unfold Go.Proofs.Ytndgaklcnhoddaa.lv at h
    obtain ⟨x, hx, hl⟩ := List.any_eq_true.1 h
    obtain ⟨j, hj⟩ := wlk_of_lv hl
    exact ⟨j, x, hx, hj⟩
/-- how far the places of the search are -/
def farQ (st : α) (d : α → Nat) (q : List α) (j : Nat) : Nat := if j = 0 then 0 else d (q.getD j st)
/-- what holds of a search that has not come back yet: q: what was found, i: how many of it were gone through, and of the next one its first places -/
structure Bfs (nx : α → List α) (st : α) (q : List α) (i : Nat) (seen : List α) (d : α → Nat) : Prop where
  head : q.head? = some st
  le : i ≤ q.length
  new : d st = 0
  pos : ∀ j, 1 ≤ j → j < q.length → 0 < d (q.getD j st)
  nodup : q.Nodup
  mem : ∀ x, 0 < d x → x ∈ q
  walk : ∀ x, 0 < d x → Wlk nx (d x) st x
  mono : ∀ j k, j ≤ k → k < q.length → farQ st d q j ≤ farQ st d q k
  near : ∀ k, i < q.length → k < q.length → farQ st d q k ≤ farQ st d q i + 1
  done : ∀ j, j < i → ∀ y ∈ nx (q.getD j st), 0 < d y ∧ d y ≤ farQ st d q j + 1
  part : ∀ y ∈ seen, 0 < d y ∧ d y ≤ farQ st d q i + 1
theorem farQ_app {st : α} {d : α → Nat} {q r : List α} {j : Nat} (h : j < q.length) : farQ st d (q ++ r) j = farQ st d q j := by
  unfold farQ
  split
  · rfl
  · rw [List.getD_eq_getElem?_getD, List.getD_eq_getElem?_getD, List.getElem?_append_left h]
theorem Bfs.start (nx : α → List α) (st : α) : Bfs nx st [st] 0 [] (fun _ => 0) where
  head := rfl
  le := by simp
  new := rfl
  pos := fun j h1 h2 => by simp at h2; omega
  nodup := by simp
  mem := fun x h => by simp at h
  walk := fun x h => by simp at h
  mono := fun j k h1 h2 => by simp at h2; subst h2; obtain rfl : j = 0 := by omega
                              exact Nat.le_refl _
  near := fun k _ h2 => by simp at h2; subst h2; simp [farQ]
  done := fun j h => by omega
  part := by simp
variable {st : α} {q seen : List α} {i : Nat} {d : α → Nat}
theorem Bfs.skip (h : Bfs nx st q i seen d) (hi : i < q.length) {y : α} (hy : 0 < d y) : Bfs nx st q i (seen ++ [y]) d := by
  refine { h with part := fun z hz => ?_ }
  rcases List.mem_append.1 hz with hz | hz
  · exact h.part z hz
  · obtain rfl : z = y := by simpa using hz
    refine ⟨hy, ?_⟩
    obtain ⟨k, hk, e⟩ := List.getElem_of_mem (h.mem z hy)
    have hk0 : k ≠ 0 := by
      intro h0
      subst h0
      have := h.head
      rw [List.head?_eq_getElem?, List.getElem?_eq_getElem hk, e] at this
      cases this
      rw [h.new] at hy; omega
    have := h.near k hi hk
    unfold farQ at this
    rw [if_neg hk0, List.getD_eq_getElem?_getD, List.getElem?_eq_getElem hk, Option.getD_some, e] at this
    exact this
theorem Bfs.next (h : Bfs nx st q i seen d) (hi : i < q.length) (hs : ∀ y ∈ nx (q.getD i st), y ∈ seen) : Bfs nx st q (i + 1) [] d := by
  refine { h with le := hi, near := fun k h1 h2 => ?_, done := fun j hj y hy => ?_, part := by simp }
  · have a := h.near k hi h2
    have b := h.mono i (i + 1) (by omega) h1
    omega
  · by_cases e : j < i
    · exact h.done j e y hy
    · obtain rfl : j = i := by omega
      exact h.part y (hs y hy)
section
variable [DecidableEq α]
def setD (d : α → Nat) (y : α) (v : Nat) : α → Nat := fun x => if x = y then v else d x
theorem setD_at (d : α → Nat) (y : α) (v : Nat) : setD d y v y = v := by simp [setD]
theorem setD_off (d : α → Nat) {x y : α} (v : Nat) (h : x ≠ y) : setD d y v x = d x := by simp [setD, h]
theorem Bfs.add (h : Bfs nx st q i seen d) (hi : i < q.length) {y : α} (hy : d y = 0) (hst : y ≠ st) (hn : y ∈ nx (q.getD i st)) :
    Bfs nx st (q ++ [y]) i (seen ++ [y]) (setD d y (farQ st d q i + 1)) := by
  have hh : q.head? = some st := h.head
  have hq0 : 0 < q.length := by omega
  have hnq : y ∉ q := by
    intro hm
    obtain ⟨k, hk, e⟩ := List.getElem_of_mem hm
    by_cases h0 : k = 0
    · subst h0
      rw [List.head?_eq_getElem?, List.getElem?_eq_getElem hk, e] at hh
      cases hh; exact hst rfl
    · have := h.pos k (by omega) hk
      rw [List.getD_eq_getElem?_getD, List.getElem?_eq_getElem hk, Option.getD_some, e] at this
      omega
  have hg : ∀ j, j < q.length → (q ++ [y]).getD j st = q.getD j st := fun j hj => by
    rw [List.getD_eq_getElem?_getD, List.getD_eq_getElem?_getD, List.getElem?_append_left hj]
  have hl : (q ++ [y]).getD q.length st = y := by
    rw [List.getD_eq_getElem?_getD, List.getElem?_append_right (Nat.le_refl _)]; simp
  have hne : ∀ j, j < q.length → q.getD j st ≠ y := fun j hj e => hnq (by
    rw [← e, List.getD_eq_getElem?_getD, List.getElem?_eq_getElem hj]; exact List.getElem_mem hj)
  have hfar : ∀ j, j < q.length → farQ st (setD d y (farQ st d q i + 1)) (q ++ [y]) j = farQ st d q j := fun j hj => by
    unfold farQ
    split
    · rfl
    · rw [hg j hj, setD_off _ _ (hne j hj)]
  have hfl : farQ st (setD d y (farQ st d q i + 1)) (q ++ [y]) q.length = farQ st d q i + 1 := by
    unfold farQ
    rw [if_neg (by omega), hl, setD_at]
  refine ⟨?_, ?_, ?_, ?_, ?_, ?_, ?_, ?_, ?_, ?_, ?_⟩
  · rw [List.head?_append, hh]; rfl
  · simp; omega
  · rw [setD_off _ _ (fun e => hst e.symm)]; exact h.new
  · intro j h1 h2
    by_cases e : j < q.length
    · rw [hg j e, setD_off _ _ (hne j e)]; exact h.pos j h1 e
    · obtain rfl : j = q.length := by simp at h2; omega
      rw [hl, setD_at]; omega
  · rw [List.nodup_append]
    refine ⟨h.nodup, by simp, fun a ha b hb => ?_⟩
    have hby : b = y := by simpa using hb
    intro e
    rw [e, hby] at ha
    exact hnq ha
  · intro x hx
    by_cases e : x = y
    · subst e; simp
    · rw [setD_off _ _ e] at hx
      exact List.mem_append_left _ (h.mem x hx)
  · intro x hx
    by_cases e : x = y
    · subst e
      rw [setD_at]
      refine Wlk.snoc ?_ hn
      by_cases h0 : i = 0
      · have : q.getD i st = st := by
          subst h0
          rw [List.getD_eq_getElem?_getD, ← List.head?_eq_getElem?, hh]; rfl
        rw [this]
        simp [farQ, h0, Wlk]
      · have hp := h.pos i (by omega) hi
        have := h.walk _ hp
        simpa [farQ, h0] using this
    · rw [setD_off _ _ e] at hx ⊢
      exact h.walk x hx
  · intro j k h1 h2
    by_cases ek : k < q.length
    · rw [hfar j (by omega), hfar k ek]; exact h.mono j k h1 ek
    · obtain rfl : k = q.length := by simp at h2; omega
      rw [hfl]
      by_cases ej : j < q.length
      · rw [hfar j ej]; exact h.near j hi ej
      · obtain rfl : j = q.length := by omega
        rw [hfl]; exact Nat.le_refl _
  · intro k _ h2
    rw [hfar i hi]
    by_cases ek : k < q.length
    · rw [hfar k ek]; exact h.near k hi ek
    · obtain rfl : k = q.length := by simp at h2; omega
      rw [hfl]; exact Nat.le_refl _
  · intro j hj z hz
    rw [hg j (by omega)] at hz
    rw [hfar j (by omega)]
    have := h.done j hj z hz
    rw [setD_off _ _ (fun e => by rw [e] at this; omega)]
    exact this
  · intro z hz
    rw [hfar i hi]
    by_cases e : z = y
    · subst e; rw [setD_at]; omega
    · rw [setD_off _ _ e]
      rcases List.mem_append.1 hz with hz | hz
      · exact h.part z hz
      · exact absurd (by simpa using hz) e
end
theorem Bfs.reach (h : Bfs nx st q i seen d) : ∀ (m : Nat) (x : α), 1 ≤ m → Wlk nx m st x → (0 < d x ∧ d x ≤ m) ∨ ∃ j, i ≤ j ∧ j < q.length ∧ farQ st d q j + 1 ≤ m := by
  have hz0 : 0 < q.length := by
    have := h.head
    cases q with
    | nil => cases this
    | cons a t => simp
  have hq0 : q.getD 0 st = st := by rw [List.getD_eq_getElem?_getD, ← List.head?_eq_getElem?, h.head]; rfl
  intro m
  induction m with
  | zero => intro x h1; omega
  | succ m ih =>
    intro x _ hw
    obtain ⟨z, hz, hx⟩ := hw.last
    by_cases hm : m = 0
    · subst hm
      have e : st = z := hz
      subst e
      by_cases hi : 0 < i
      · left
        have := h.done 0 hi x (by rw [hq0]; exact hx)
        simp [farQ] at this
        omega
      · right
        exact ⟨0, by omega, hz0, by simp [farQ]⟩
    · rcases ih z (by omega) hz with ⟨a, b⟩ | ⟨j, a, b, c⟩
      · obtain ⟨k, hk, e⟩ := List.getElem_of_mem (h.mem z a)
        have hk0 : k ≠ 0 := by
          intro h0
          subst h0
          rw [List.getD_eq_getElem?_getD, List.getElem?_eq_getElem hk, Option.getD_some, e] at hq0
          rw [hq0, h.new] at a; omega
        have hgk : q.getD k st = z := by rw [List.getD_eq_getElem?_getD, List.getElem?_eq_getElem hk, Option.getD_some, e]
        have hf : farQ st d q k = d z := by unfold farQ; rw [if_neg hk0, hgk]
        by_cases hki : k < i
        · left
          have := h.done k hki x (by rw [hgk]; exact hx)
          omega
        · right
          exact ⟨k, by omega, hk, by omega⟩
      · right
        exact ⟨j, a, b, by omega⟩
/-- it comes back by as few turns as can be -/
theorem Bfs.found (h : Bfs nx st q i seen d) (hi : i < q.length) (hn : st ∈ nx (q.getD i st)) : Wlk nx (farQ st d q i + 1) st st ∧ ∀ m, 1 ≤ m → Wlk nx m st st → farQ st d q i + 1 ≤ m := by
  have hq0 : q.getD 0 st = st := by rw [List.getD_eq_getElem?_getD, ← List.head?_eq_getElem?, h.head]; rfl
  refine ⟨Wlk.snoc ?_ hn, fun m hm hw => ?_⟩
  · by_cases h0 : i = 0
    · subst h0
      rw [hq0]
      simp [farQ, Wlk]
    · have := h.walk _ (h.pos i (by omega) hi)
      simpa [farQ, h0] using this
  · rcases h.reach m st hm hw with ⟨a, _⟩ | ⟨j, a, b, c⟩
    · rw [h.new] at a; omega
    · have := h.mono i j a b
      omega
/-- it never comes back -/
theorem Bfs.none (h : Bfs nx st q q.length seen d) : ∀ m, 1 ≤ m → ¬ Wlk nx m st st := fun m hm hw => by
  rcases h.reach m st hm hw with ⟨a, _⟩ | ⟨j, a, b, c⟩
  · rw [h.new] at a; omega
  · omega
end
end Go.Proofs.Ytndgaklcnhoddaa
namespace Go.Proofs.Ytndgaklcnhoddaa
def prodK : List Int → Int
  | [] => 1
  | k :: l => (k + 1) * prodK l
/-- the error of a hall -/
def tchk (ks : List Int) : Int :=
  if ks.length < 1 ∨ 5 < ks.length then 6 else if ks.any (fun k => decide (k < 1) || decide (12 < k)) = true then 3 else if 1000 < prodK ks then 2 else 0
structure TVal (ks : List Int) : Prop where
  n1 : 1 ≤ ks.length
  n5 : ks.length ≤ 5
  kb : ∀ k ∈ ks, 1 ≤ k ∧ k ≤ 12
  pr : prodK ks ≤ 1000
theorem tval_of {ks : List Int} (e : tchk ks = 0) : TVal ks := by
  unfold tchk at e
  by_cases h1 : ks.length < 1 ∨ 5 < ks.length
  · rw [if_pos h1] at e; omega
  rw [if_neg h1] at e
  by_cases h2 : ks.any (fun k => decide (k < 1) || decide (12 < k)) = true
  · rw [if_pos h2] at e; omega
  rw [if_neg h2] at e
  by_cases h3 : 1000 < prodK ks
  · rw [if_pos h3] at e; omega
  refine ⟨by omega, by omega, fun k hk => ?_, by omega⟩
  by_cases h : k < 1 ∨ 12 < k
  · exact absurd (by rw [List.any_eq_true]; exact ⟨k, hk, by simp; omega⟩) h2
  · omega
theorem tchk_of {ks : List Int} (v : TVal ks) : tchk ks = 0 := by
  unfold tchk
  rw [if_neg (by have := v.n1; have := v.n5; omega), if_neg, if_neg (by have := v.pr; omega)]
  intro h
  obtain ⟨k, hk, h⟩ := List.any_eq_true.1 h
  have := v.kb k hk
  simp at h
  omega
/-- is it a state? -/
def isSt : List Int → List Int → Bool
  | [], [] => true
  | k :: ks, s :: ss => decide (0 ≤ s) && decide (s ≤ k) && isSt ks ss
  | _, _ => false
theorem isSt_len : ∀ {ks s : List Int}, isSt ks s = true → s.length = ks.length
  | [], [], _ => rfl
  | k :: ks, s :: ss, h => by
    unfold isSt at h
    simp only [Bool.and_eq_true] at h
    simp [isSt_len h.2]
theorem isSt_at : ∀ {ks s : List Int}, isSt ks s = true → ∀ i, i < ks.length → 0 ≤ s.getD i 0 ∧ s.getD i 0 ≤ ks.getD i 0
  | k :: ks, s :: ss, h, i, hi => by
    unfold isSt at h
    simp only [Bool.and_eq_true, decide_eq_true_eq] at h
    cases i with
    | zero => simpa using h.1
    | succ i => simpa using isSt_at h.2 i (by simpa using hi)
theorem isSt_of : ∀ {ks s : List Int}, s.length = ks.length → (∀ i, i < ks.length → 0 ≤ s.getD i 0 ∧ s.getD i 0 ≤ ks.getD i 0) → isSt ks s = true
  | [], [], _, _ => rfl
  | [], s :: ss, h, _ => by simp at h
  | k :: ks, [], h, _ => by simp at h
  | k :: ks, s :: ss, h, hb => by
    unfold isSt
    have h0 := hb 0 (by simp)
    simp at h0
    rw [isSt_of (ks := ks) (s := ss) (by simpa using h) fun i hi => by simpa using hb (i + 1) (by simpa using hi)]
    simp [h0]
/-- the error of a state -/
def stErr (ks s : List Int) : Int := if tchk ks ≠ 0 then tchk ks else if s.length ≠ ks.length then 15 else if isSt ks s = true then 0 else 3
theorem stErr_ok {ks s : List Int} (e : stErr ks s = 0) : TVal ks ∧ isSt ks s = true := by
  unfold stErr at e
  by_cases h1 : tchk ks ≠ 0
  · rw [if_pos h1] at e; exact absurd e h1
  rw [if_neg h1] at e
  by_cases h2 : s.length ≠ ks.length
  · rw [if_pos h2] at e; omega
  rw [if_neg h2] at e
  by_cases h3 : isSt ks s = true
  · exact ⟨tval_of (by omega), h3⟩
  · rw [if_neg h3] at e; omega
theorem stErr_of {ks s : List Int} (v : TVal ks) (h : isSt ks s = true) : stErr ks s = 0 := by
  unfold stErr
  rw [if_neg (fun hh => hh (tchk_of v)), if_neg (fun hh => hh (isSt_len h)), if_pos h]
/-- is a screw full, if these windows pull? -/
def fullP (p : Nat → Bool) (ks s : List Int) : Bool := (List.range ks.length).any fun i => p i && decide (ks.getD i 0 < s.getD i 0 + 1)
def upP (p : Nat → Bool) (s : List Int) : List Int := s.mapIdx fun i x => if p i then x + 1 else x
def pullP (p : Nat → Bool) (ks s : List Int) : Option (List Int) := if fullP p ks s then none else some (upP p s)
theorem upP_len (p : Nat → Bool) (s : List Int) : (upP p s).length = s.length := by simp [upP]
theorem upP_at (p : Nat → Bool) (s : List Int) (i : Nat) (hi : i < s.length) : (upP p s).getD i 0 = if p i then s.getD i 0 + 1 else s.getD i 0 := by
  unfold upP
  rw [List.getD_eq_getElem?_getD, List.getD_eq_getElem?_getD, List.getElem?_mapIdx, List.getElem?_eq_getElem hi]
  rfl
theorem fullP_false {p : Nat → Bool} {ks s : List Int} : fullP p ks s = false ↔ ∀ i, i < ks.length → p i = true → s.getD i 0 + 1 ≤ ks.getD i 0 := by
  unfold fullP
  rw [List.any_eq_false]
  constructor
  · intro h i hi hp
    have := h i (by simpa using hi)
    simp [hp] at this
    simpa using this
  · intro h i hi hb
    have := h i (by simpa using hi)
    simp at hb
    have := this hb.1
    simp at this
    omega
theorem up_st {p : Nat → Bool} {ks s : List Int} (h : isSt ks s = true) (hf : fullP p ks s = false) : isSt ks (upP p s) = true := by
  have hl := isSt_len h
  refine isSt_of (by rw [upP_len, hl]) fun i hi => ?_
  have h1 := isSt_at h i hi
  rw [upP_at p s i (by omega)]
  cases hp : p i with
  | true => have := fullP_false.1 hf i hi hp; simp only [if_true]; omega
  | false => exact h1
/-- after a visit -/
def visit (s : List Int) (w : Nat) : List Int := s.set w 0
theorem visit_len (s : List Int) (w : Nat) : (visit s w).length = s.length := by simp [visit]
theorem visit_at (s : List Int) (w i : Nat) : (visit s w).getD i 0 = if i = w then 0 else s.getD i 0 := by
  unfold visit
  rw [List.getD_eq_getElem?_getD, List.getD_eq_getElem?_getD, List.getElem?_set]
  by_cases e : w = i
  · subst e
    by_cases hl : w < s.length
    · simp [hl]
    · simp [hl]
  · rw [if_neg e, if_neg (fun h => e h.symm)]
theorem visit_st {ks s : List Int} (h : isSt ks s = true) (hk : ∀ i, i < ks.length → 0 ≤ ks.getD i 0) (w : Nat) : isSt ks (visit s w) = true :=
  isSt_of (by rw [visit_len, isSt_len h]) fun i hi => by
    rw [visit_at]
    split
    · exact ⟨Int.le_refl _, hk i hi⟩
    · exact isSt_at h i hi
theorem TVal.at_ {ks : List Int} (v : TVal ks) (i : Nat) (hi : i < ks.length) : 1 ≤ ks.getD i 0 ∧ ks.getD i 0 ≤ 12 := by
  have := v.kb (ks[i]) (List.getElem_mem hi)
  rwa [List.getD_eq_getElem?_getD, List.getElem?_eq_getElem hi, Option.getD_some]
def allW : Nat → Bool := fun _ => true
/-- the states to which visits lead -/
def nxS (ks s : List Int) : List (List Int) := if fullP allW ks s then [] else (List.range ks.length).map (visit (upP allW s))
theorem nxS_st {ks s : List Int} (v : TVal ks) (h : isSt ks s = true) : ∀ x ∈ nxS ks s, isSt ks x = true := by
  intro x hx
  unfold nxS at hx
  split at hx
  · cases hx
  · rename_i hf
    obtain ⟨w, _, rfl⟩ := List.mem_map.1 hx
    exact visit_st (up_st h (by simpa using hf)) (fun i hi => by have := v.at_ i hi; omega) w
/-- the number of a state -/
def numA : Int → List Int → List Int → Int
  | n, k :: ks, s :: ss => numA (n * (k + 1) + s) ks ss
  | n, _, _ => n
def numS (ks s : List Int) : Int := numA 0 ks s
theorem prodK_pos : ∀ {ks : List Int}, (∀ k ∈ ks, 0 ≤ k) → 1 ≤ prodK ks
  | [], _ => by simp [prodK]
  | k :: ks, h => by
    unfold prodK
    have h1 := prodK_pos (ks := ks) fun x hx => h x (by simp [hx])
    have h2 := h k (by simp)
    have := Int.mul_le_mul (show (1 : Int) ≤ k + 1 by omega) h1 (by omega) (by omega)
    omega
theorem numA_lin : ∀ {ks s : List Int} (n : Int), isSt ks s = true → numA n ks s = n * prodK ks + numA 0 ks s
  | [], [], n, _ => by simp [numA, prodK]
  | k :: ks, s :: ss, n, h => by
    unfold isSt at h
    simp only [Bool.and_eq_true] at h
    unfold numA prodK
    rw [numA_lin _ h.2, numA_lin (0 * (k + 1) + s) h.2, Int.add_mul, Int.zero_mul, Int.zero_add, Int.mul_assoc, Int.add_assoc]
theorem numS_bd : ∀ {ks s : List Int}, (∀ k ∈ ks, 0 ≤ k) → isSt ks s = true → 0 ≤ numS ks s ∧ numS ks s < prodK ks
  | [], [], _, _ => by simp [numS, numA, prodK]
  | k :: ks, s :: ss, hk, h => by
    unfold isSt at h
    simp only [Bool.and_eq_true, decide_eq_true_eq] at h
    have ih := numS_bd (ks := ks) (fun x hx => hk x (by simp [hx])) h.2
    have hp := prodK_pos (ks := ks) fun x hx => hk x (by simp [hx])
    unfold numS at ih ⊢
    unfold numA prodK
    rw [numA_lin _ h.2, Int.zero_mul, Int.zero_add]
    have h1 : 0 ≤ s * prodK ks := Int.mul_nonneg h.1.1 (by omega)
    have h2 : s * prodK ks ≤ k * prodK ks := Int.mul_le_mul_of_nonneg_right h.1.2 (by omega)
    rw [Int.add_mul, Int.one_mul]
    omega
theorem numS_inj : ∀ {ks s t : List Int}, (∀ k ∈ ks, 0 ≤ k) → isSt ks s = true → isSt ks t = true → numS ks s = numS ks t → s = t
  | [], [], [], _, _, _, _ => rfl
  | k :: ks, s :: ss, t :: ts, hk, h, h', e => by
    unfold isSt at h h'
    simp only [Bool.and_eq_true, decide_eq_true_eq] at h h'
    have hk' : ∀ x ∈ ks, 0 ≤ x := fun x hx => hk x (by simp [hx])
    have b1 := numS_bd hk' h.2
    have b2 := numS_bd hk' h'.2
    unfold numS at e b1 b2
    unfold numA at e
    rw [numA_lin _ h.2, numA_lin (0 * (k + 1) + t) h'.2, Int.zero_mul, Int.zero_add, Int.zero_add] at e
    have hst : s = t := by
      rcases Int.lt_trichotomy s t with a | a | a
      · have h3 : (s + 1) * prodK ks ≤ t * prodK ks := Int.mul_le_mul_of_nonneg_right (by omega) (by omega)
        rw [Int.add_mul, Int.one_mul] at h3; omega
      · exact a
      · have h3 : (t + 1) * prodK ks ≤ s * prodK ks := Int.mul_le_mul_of_nonneg_right (by omega) (by omega)
        rw [Int.add_mul, Int.one_mul] at h3; omega
    subst hst
    rw [numS_inj hk' h.2 h'.2 (by unfold numS; omega)]
/-- the state of a number, from the last window on, and what is left of the number -/
def stN : List Int → Int → List Int × Int
  | [], n => ([], n)
  | k :: ks, n => (((stN ks n).2 % (k + 1)) :: (stN ks n).1, (stN ks n).2 / (k + 1))
theorem stN_rest : ∀ {ks : List Int} (n : Int), (∀ k ∈ ks, 0 ≤ k) → 0 ≤ n → 0 ≤ (stN ks n).2
  | [], n, _, h => h
  | k :: ks, n, hk, h => by
    unfold stN
    exact Int.ediv_nonneg (stN_rest n (fun x hx => hk x (by simp [hx])) h) (by have := hk k (by simp); omega)
theorem stN_st : ∀ {ks : List Int} (n : Int), (∀ k ∈ ks, 0 ≤ k) → isSt ks (stN ks n).1 = true
  | [], n, _ => rfl
  | k :: ks, n, hk => by
    have h := hk k (by simp)
    unfold stN isSt
    rw [stN_st n fun x hx => hk x (by simp [hx])]
    have h1 := Int.emod_nonneg (stN ks n).2 (show k + 1 ≠ 0 by omega)
    have h2 := Int.emod_lt_of_pos (stN ks n).2 (show 0 < k + 1 by omega)
    simp only [Bool.and_true, Bool.and_eq_true, decide_eq_true_eq]
    omega
theorem stN_num : ∀ {ks : List Int} (n : Int), (∀ k ∈ ks, 0 ≤ k) → numA (stN ks n).2 ks (stN ks n).1 = n
  | [], n, _ => rfl
  | k :: ks, n, hk => by
    have h := hk k (by simp)
    have ih := stN_num (ks := ks) n (fun x hx => hk x (by simp [hx]))
    show numA ((stN ks n).2 / (k + 1) * (k + 1) + (stN ks n).2 % (k + 1)) ks (stN ks n).1 = n
    rw [Int.mul_comm, Int.mul_ediv_add_emod]
    exact ih
theorem stN_zero {ks : List Int} {n : Int} (hk : ∀ k ∈ ks, 0 ≤ k) (h0 : 0 ≤ n) (h : n < prodK ks) : (stN ks n).2 = 0 := by
  have hr := stN_rest n hk h0
  have e := stN_num n hk
  have hs := stN_st n hk
  rw [numA_lin _ hs] at e
  have hb := numS_bd hk hs
  unfold numS at hb
  have hp := prodK_pos hk
  by_cases hz : (stN ks n).2 = 0
  · exact hz
  · exfalso
    have : 1 * prodK ks ≤ (stN ks n).2 * prodK ks := Int.mul_le_mul_of_nonneg_right (by omega) (by omega)
    omega
def stOf (ks : List Int) (n : Int) : List Int := (stN ks n).1
theorem num_st {ks : List Int} {n : Int} (hk : ∀ k ∈ ks, 0 ≤ k) (h0 : 0 ≤ n) (h : n < prodK ks) : numS ks (stOf ks n) = n := by
  have := stN_num n hk
  rw [stN_zero hk h0 h] at this
  exact this
theorem st_num {ks s : List Int} (hk : ∀ k ∈ ks, 0 ≤ k) (h : isSt ks s = true) : stOf ks (numS ks s) = s := by
  have b := numS_bd hk h
  exact numS_inj hk (stN_st _ hk) h (num_st hk b.1 b.2)
theorem st_st {ks : List Int} {n : Int} (hk : ∀ k ∈ ks, 0 ≤ k) : isSt ks (stOf ks n) = true := stN_st n hk
theorem TVal.nn {ks : List Int} (v : TVal ks) : ∀ k ∈ ks, 0 ≤ k := fun k hk => by have := v.kb k hk; omega
/-- different numbers below another one are no more than it -/
theorem nodup_le : ∀ (N : Nat) (l : List Nat), l.Nodup → (∀ x ∈ l, x < N) → l.length ≤ N
  | 0, l, _, h => by
    cases l with
    | nil => simp
    | cons a t => exact absurd (h a (by simp)) (by omega)
  | N + 1, l, hn, h => by
    by_cases hm : N ∈ l
    · have h1 := nodup_le N (l.erase N) (hn.erase N) fun x hx => by
        have := (hn.mem_erase_iff).1 hx
        have := h x this.2
        omega
      rw [List.length_erase_of_mem hm] at h1
      omega
    · have := nodup_le N l hn fun x hx => by
        have := h x hx
        by_cases e : x = N
        · subst e; exact absurd hx hm
        · omega
      omega
theorem nodup_map {α β : Type} (f : α → β) : ∀ {l : List α}, l.Nodup → (∀ x ∈ l, ∀ y ∈ l, f x = f y → x = y) → (l.map f).Nodup
  | [], _, _ => by simp
  | a :: l, h, hi => by
    rw [List.nodup_cons] at h
    rw [List.map_cons, List.nodup_cons]
    refine ⟨fun hm => ?_, nodup_map f h.2 fun x hx y hy => hi x (by simp [hx]) y (by simp [hy])⟩
    obtain ⟨x, hx, e⟩ := List.mem_map.1 hm
    have := hi x (by simp [hx]) a (by simp) e
    subst this
    exact h.1 hx
/-- different states are no more than there are -/
theorem states_le {ks : List Int} (v : TVal ks) {l : List (List Int)} (hn : l.Nodup) (h : ∀ s ∈ l, isSt ks s = true) : (l.length : Int) ≤ prodK ks := by
  have hm := nodup_map (fun s => (numS ks s).toNat) hn fun x hx y hy e => by
    have a := numS_bd v.nn (h x hx)
    have b := numS_bd v.nn (h y hy)
    exact numS_inj v.nn (h x hx) (h y hy) (by omega)
  have := nodup_le (prodK ks).toNat _ hm fun x hx => by
    obtain ⟨s, hs, rfl⟩ := List.mem_map.1 hx
    have := numS_bd v.nn (h s hs)
    omega
  rw [List.length_map] at this
  have := prodK_pos v.nn
  omega
/-- no rank is as great as there are states -/
theorem rk_chain {α : Type} {nx : α → List α} : ∀ {r : Nat} {i : α}, Rk nx i r → ∃ l : List α, l.length = r + 1 ∧ l.head? = some i ∧ (∀ x ∈ l, ∃ k, k ≤ r ∧ Rk nx x k) ∧ l.Nodup ∧ ∀ P : α → Prop, P i → (∀ x, P x → ∀ y ∈ nx x, P y) → ∀ x ∈ l, P x
  | 0, i, h => ⟨[i], rfl, rfl, fun x hx => ⟨0, by omega, by simp at hx; subst hx; exact h⟩, by simp, fun P hp _ x hx => by simp at hx; subst hx; exact hp⟩
  | r + 1, i, h => by
    have h1 := h.1
    unfold lv at h1
    obtain ⟨x, hx, hl⟩ := List.any_eq_true.1 h1
    have hk : Rk nx x r := by
      refine ⟨hl, ?_⟩
      have h2 := h.2
      unfold lv at h2
      rw [List.any_eq_false] at h2
      cases e : lv nx (r + 1) x with
      | false => rfl
      | true => exact absurd e (h2 x hx)
    obtain ⟨l, a, b, c, d, e⟩ := rk_chain hk
    refine ⟨i :: l, by simp [a], rfl, fun y hy => ?_, ?_, fun P hp hc y hy => ?_⟩
    · rcases List.mem_cons.1 hy with hy | hy
      · subst hy; exact ⟨r + 1, by omega, h⟩
      · obtain ⟨k, k1, k2⟩ := c y hy
        exact ⟨k, by omega, k2⟩
    · rw [List.nodup_cons]
      refine ⟨fun hm => ?_, d⟩
      obtain ⟨k, k1, k2⟩ := c i hm
      have := k2.inj h
      omega
    · rcases List.mem_cons.1 hy with hy | hy
      · subst hy; exact hp
      · exact e P (hc i hp x hx) hc y hy
theorem rk_lt {ks s : List Int} (v : TVal ks) (h : isSt ks s = true) {r : Nat} (hr : Rk (nxS ks) s r) : (r : Int) < prodK ks := by
  obtain ⟨l, a, b, c, d, e⟩ := rk_chain hr
  have := states_le v d (e (fun s => isSt ks s = true) h fun x hx y hy => nxS_st v hx y hy)
  omega
end Go.Proofs.Ytndgaklcnhoddaa
namespace Go.Proofs.Ytndgaklcnhoddaa
/-- the turns of a row: the state after it, and how many were done -/
def playP (ks : List Int) : Nat → List Int → List Int → Option (List Int) × Nat
  | n, s, [] => (some s, n)
  | n, s, w :: row => if fullP allW ks s then (none, n) else playP ks (n + 1) (visit (upP allW s) w.toNat) row
/-- one screw in the turns of a row -/
def run1 (k w : Int) : Int → List Int → Option Int
  | n, [] => some n
  | n, x :: l => if k < n + 1 then none else run1 k w (if x = w then 0 else n + 1) l
theorem run1_app (k w : Int) : ∀ (l m : List Int) (n : Int), run1 k w n (l ++ m) = (run1 k w n l).bind fun n' => run1 k w n' m
  | [], m, n => rfl
  | x :: l, m, n => by
    rw [List.cons_append, run1, run1]
    split
    · rfl
    · exact run1_app k w l m _
theorem run1_le (k w : Int) : ∀ (l : List Int) (n a : Int), 0 ≤ n → n ≤ k → run1 k w n l = some a → 0 ≤ a ∧ a ≤ k
  | [], n, a, h0, h1, h => by cases h; exact ⟨h0, h1⟩
  | x :: l, n, a, h0, h1, h => by
    rw [run1] at h
    split at h
    · cases h
    · refine run1_le k w l _ a ?_ ?_ h
      · split <;> omega
      · split <;> omega
/-- with less to begin with -/
theorem run1_mono {k w : Int} : ∀ (l : List Int) (m n : Int) {a : Int}, m ≤ n → run1 k w n l = some a → ∃ b, b ≤ a ∧ run1 k w m l = some b
  | [], m, n, a, h, e => by cases e; exact ⟨m, h, rfl⟩
  | x :: l, m, n, a, h, e => by
    rw [run1] at e ⊢
    split at e
    · cases e
    · rw [if_neg (by omega)]
      by_cases hx : x = w
      · rw [if_pos hx] at e ⊢; exact run1_mono l 0 0 (Int.le_refl _) e
      · rw [if_neg hx] at e ⊢; exact run1_mono l (m + 1) (n + 1) (by omega) e
theorem run1_not {k w : Int} : ∀ (l : List Int) (n a : Int), w ∉ l → run1 k w n l = some a → a = n + l.length
  | [], n, a, _, e => by cases e; simp
  | x :: l, n, a, hw, e => by
    rw [run1] at e
    split at e
    · cases e
    · have hx : ¬ x = w := fun h => hw (by simp [h])
      rw [if_neg hx] at e
      have := run1_not l _ a (fun h => hw (by simp [h])) e
      simp only [List.length_cons]
      omega
/-- how long ago the last visit was -/
def endc (w : Int) : Int → List Int → Int
  | n, [] => n
  | n, x :: l => endc w (if x = w then 0 else n + 1) l
theorem run1_end {k w : Int} : ∀ (l : List Int) (n a : Int), run1 k w n l = some a → a = endc w n l
  | [], n, a, e => by cases e; rfl
  | x :: l, n, a, e => by
    rw [run1] at e
    split at e
    · cases e
    · rw [endc]; exact run1_end l _ a e
theorem endc_app (w : Int) : ∀ (l m : List Int) (n : Int), endc w n (l ++ m) = endc w (endc w n l) m
  | [], m, n => rfl
  | x :: l, m, n => by rw [List.cons_append, endc, endc]; exact endc_app w l m _
theorem endc_ge (w : Int) : ∀ (l : List Int) (n : Int), 0 ≤ n → 0 ≤ endc w n l
  | [], n, h => h
  | x :: l, n, h => by rw [endc]; exact endc_ge w l _ (by split <;> omega)
theorem endc_not (w : Int) : ∀ (l : List Int) (n : Int), w ∉ l → endc w n l = n + l.length
  | [], n, _ => by simp [endc]
  | x :: l, n, h => by
    rw [endc, if_neg (fun e => h (by simp [e])), endc_not w l _ (fun e => h (by simp [e]))]
    simp only [List.length_cons]; omega
/-- if it is visited, it does not matter what was before -/
theorem endc_same (w : Int) : ∀ (l : List Int) (m n : Int), w ∈ l → endc w m l = endc w n l
  | x :: l, m, n, h => by
    rw [endc, endc]
    by_cases e : x = w
    · rw [if_pos e, if_pos e]
    · rw [if_neg e, if_neg e]
      exact endc_same w l _ _ ((List.mem_cons.1 h).resolve_left fun h => e h.symm)
/-- as the reference counts: the turns since the last visit, and whether there was one -/
def gap (k w : Int) : Int → Bool → List Int → Bool
  | _, _, [] => true
  | t, seen, x :: l => if x = w then (if seen = true ∧ k < t + 1 then false else gap k w 0 true l) else gap k w (t + 1) seen l
theorem gap_app (k w : Int) : ∀ (l m : List Int) (t : Int), gap k w t true (l ++ m) = (gap k w t true l && gap k w (endc w t l) true m)
  | [], m, t => by simp [gap, endc]
  | x :: l, m, t => by
    rw [List.cons_append, gap, gap, endc]
    by_cases e : x = w
    · rw [if_pos e, if_pos e, if_pos e]
      split
      · rfl
      · exact gap_app k w l m 0
    · rw [if_neg e, if_neg e, if_neg e]; exact gap_app k w l m _
theorem gap_skip (k w : Int) : ∀ (l m : List Int) (t : Int) (seen : Bool), w ∉ l → gap k w t seen (l ++ m) = gap k w (t + l.length) seen m
  | [], m, t, seen, _ => by simp
  | x :: l, m, t, seen, h => by
    rw [List.cons_append, gap, if_neg (fun e => h (by simp [e])), gap_skip k w l m _ seen (fun e => h (by simp [e]))]
    congr 1
    simp only [List.length_cons]; omega
theorem gap_over {k w : Int} : ∀ (l : List Int) (n : Int), k < n → ¬ (gap k w n true l = true ∧ endc w n l ≤ k)
  | [], n, h, ⟨_, h2⟩ => by rw [endc] at h2; omega
  | x :: l, n, h, ⟨h1, h2⟩ => by
    rw [gap] at h1
    rw [endc] at h2
    by_cases e : x = w
    · rw [if_pos e, if_pos ⟨rfl, by omega⟩] at h1; cases h1
    · rw [if_neg e] at h1 h2
      exact gap_over l (n + 1) (by omega) ⟨h1, h2⟩
theorem run1_gap {k w : Int} (hk0 : 0 ≤ k) : ∀ (l : List Int) (n : Int), n ≤ k → ((run1 k w n l).isSome = true ↔ gap k w n true l = true ∧ endc w n l ≤ k)
  | [], n, h => by simp [run1, gap, endc, h]
  | x :: l, n, h => by
    rw [run1, gap, endc]
    by_cases hk : k < n + 1
    · rw [if_pos hk]
      by_cases e : x = w
      · rw [if_pos e, if_pos ⟨rfl, hk⟩]; simp
      · rw [if_neg e, if_neg e]
        simp only [Option.isSome_none, Bool.false_eq_true, false_iff]
        exact gap_over l (n + 1) hk
    · rw [if_neg hk]
      by_cases e : x = w
      · rw [if_pos e, if_pos e, if_neg (fun h => hk h.2)]
        exact run1_gap hk0 l 0 hk0
      · rw [if_neg e, if_neg e]
        exact run1_gap hk0 l (n + 1) (by omega)
/-- the first one -/
theorem split_first {w : Int} : ∀ {l : List Int}, w ∈ l → ∃ a b, l = a ++ w :: b ∧ w ∉ a
  | x :: l, h => by
    by_cases e : x = w
    · subst e; exact ⟨[], l, rfl, by simp⟩
    · obtain ⟨a, b, h1, h2⟩ := split_first ((List.mem_cons.1 h).resolve_left fun h => e h.symm)
      exact ⟨x :: a, b, by rw [h1]; rfl, fun hh => by rcases List.mem_cons.1 hh with hh | hh; exact e hh.symm; exact h2 hh⟩
theorem run1_skip {k w : Int} : ∀ (a m : List Int) (n : Int), w ∉ a → (run1 k w n (a ++ m)).isSome = true → n + a.length ≤ k ∨ a = []
  | [], m, n, _, _ => .inr rfl
  | x :: a, m, n, h, e => by
    rw [List.cons_append, run1] at e
    split at e
    · cases e
    · rw [if_neg (fun hh => h (by simp [hh]))] at e
      rcases run1_skip a m (n + 1) (fun hh => h (by simp [hh])) e with h1 | h1
      · left; simp only [List.length_cons]; omega
      · left; subst h1; simp; omega
theorem run1_skip_eq {k w : Int} : ∀ (a m : List Int) (n : Int), w ∉ a → n + a.length ≤ k → run1 k w n (a ++ m) = run1 k w (n + a.length) m
  | [], m, n, _, _ => by simp
  | x :: a, m, n, h, e => by
    simp only [List.length_cons] at e ⊢
    rw [List.cons_append, run1, if_neg (by omega), if_neg (fun hh => h (by simp [hh])), run1_skip_eq a m (n + 1) (fun hh => h (by simp [hh])) (by omega)]
    congr 1
    omega
/-- twice round from nothing on, as the reference counts and as the screw turns -/
theorem circ1 {k w : Int} (hk : 1 ≤ k) {c : List Int} (h : w ∈ c) : (run1 k w 0 (c ++ c)).isSome = true ↔ gap k w 0 false (c ++ c) = true := by
  obtain ⟨a, b, rfl, ha⟩ := split_first h
  have e : a ++ w :: b ++ (a ++ w :: b) = a ++ (w :: (b ++ (a ++ w :: b))) := by simp
  rw [e]
  have hg : gap k w 0 false (a ++ w :: (b ++ (a ++ w :: b))) = gap k w 0 true (b ++ (a ++ w :: b)) := by
    rw [gap_skip k w a _ 0 false ha, gap, if_pos rfl, if_neg (by simp)]
  rw [hg]
  constructor
  · intro hs
    have hl : (0 : Int) + a.length + 1 ≤ k := by
      rcases run1_skip a _ 0 ha hs with h1 | h1
      · rw [run1_skip_eq a _ 0 ha h1, run1] at hs
        split at hs
        · cases hs
        · omega
      · subst h1; simp; omega
    rw [run1_skip_eq a _ 0 ha (by omega), run1, if_neg (by omega), if_pos rfl] at hs
    exact ((run1_gap (by omega) _ 0 (by omega)).1 hs).1
  · intro hs
    have hs2 := hs
    rw [gap_app, Bool.and_eq_true, gap_skip k w a _ _ true ha, gap, if_pos rfl] at hs2
    have hb : 0 ≤ endc w 0 b := endc_ge w b 0 (by omega)
    have hle : endc w 0 b + a.length + 1 ≤ k := by
      by_cases hk2 : k < endc w 0 b + a.length + 1
      · rw [if_pos ⟨rfl, hk2⟩] at hs2; cases hs2.2
      · omega
    rw [run1_skip_eq a _ 0 ha (by omega), run1, if_neg (by omega), if_pos rfl]
    refine (run1_gap (by omega) _ 0 (by omega)).2 ⟨hs, ?_⟩
    rw [endc_app, endc_app, endc, if_pos rfl]
    omega
/-- all screws in the turns of a row -/
theorem play_some {ks : List Int} : ∀ (row : List Int) (m : Nat) (s t : List Int), s.length = ks.length → (∀ x ∈ row, 0 ≤ x) → (playP ks m s row).1 = some t → t.length = ks.length ∧ ∀ i : Nat, i < ks.length → run1 (ks.getD i 0) i (s.getD i 0) row = some (t.getD i 0)
  | [], m, s, t, hl, _, e => by cases e; exact ⟨hl, fun i _ => rfl⟩
  | w :: row, m, s, t, hl, hw, e => by
    unfold playP at e
    by_cases hf : fullP allW ks s = true
    · rw [if_pos hf] at e; cases e
    rw [if_neg hf] at e
    have hf' := fullP_false.1 (by simpa using hf)
    obtain ⟨h1, h2⟩ := play_some row (m + 1) _ t (by rw [visit_len, upP_len, hl]) (fun x hx => hw x (by simp [hx])) e
    refine ⟨h1, fun i hi => ?_⟩
    rw [run1, if_neg (by have := hf' i hi rfl; omega), ← h2 i hi, visit_at, upP_at allW s i (by omega)]
    have h0 := hw w (by simp)
    congr 1
    by_cases e : w = (i : Int)
    · rw [if_pos e, if_pos (by omega)]
    · rw [if_neg e, if_neg (by omega)]; rfl
theorem play_none {ks : List Int} : ∀ (row : List Int) (m : Nat) (s : List Int), s.length = ks.length → (∀ x ∈ row, 0 ≤ x) → (playP ks m s row).1 = none → ∃ i : Nat, i < ks.length ∧ run1 (ks.getD i 0) i (s.getD i 0) row = none
  | [], m, s, hl, _, e => by cases e
  | w :: row, m, s, hl, hw, e => by
    unfold playP at e
    by_cases hf : fullP allW ks s = true
    · unfold fullP at hf
      obtain ⟨i, hi, hd⟩ := List.any_eq_true.1 hf
      refine ⟨i, by simpa using hi, ?_⟩
      rw [run1, if_pos (by simpa [allW] using hd)]
    rw [if_neg hf] at e
    have hf' := fullP_false.1 (by simpa using hf)
    obtain ⟨i, hi, h2⟩ := play_none row (m + 1) _ (by rw [visit_len, upP_len, hl]) (fun x hx => hw x (by simp [hx])) e
    refine ⟨i, hi, ?_⟩
    rw [run1, if_neg (by have := hf' i hi rfl; omega), ← h2, visit_at, upP_at allW s i (by omega)]
    have h0 := hw w (by simp)
    congr 1
    by_cases e : w = (i : Int)
    · rw [if_pos e, if_pos (by omega)]
    · rw [if_neg e, if_neg (by omega)]; rfl
theorem play_iff {ks : List Int} {row : List Int} {m : Nat} {s : List Int} (hl : s.length = ks.length) (hw : ∀ x ∈ row, 0 ≤ x) : (playP ks m s row).1.isSome = true ↔ ∀ i : Nat, i < ks.length → (run1 (ks.getD i 0) i (s.getD i 0) row).isSome = true := by
  cases e : (playP ks m s row).1 with
  | none =>
    simp only [Option.isSome_none, Bool.false_eq_true, false_iff]
    intro h
    obtain ⟨i, hi, hn⟩ := play_none row m s hl hw e
    have := h i hi
    rw [hn] at this; cases this
  | some t =>
    simp only [Option.isSome_some, true_iff]
    intro i hi
    rw [(play_some row m s t hl hw e).2 i hi]; rfl
def zeroS (ks : List Int) : List Int := List.replicate ks.length 0
theorem zeroS_at (ks : List Int) (i : Nat) : (zeroS ks).getD i 0 = 0 := by
  unfold zeroS
  rw [List.getD_eq_getElem?_getD, List.getElem?_replicate]
  split <;> rfl
theorem zeroS_len (ks : List Int) : (zeroS ks).length = ks.length := by simp [zeroS]
theorem zeroS_st {ks : List Int} (v : TVal ks) : isSt ks (zeroS ks) = true := isSt_of (zeroS_len ks) fun i hi => by rw [zeroS_at]; have := v.at_ i hi; omega
/-- is it a circle? as the program sees it, and as the reference counts -/
def circP (ks c : List Int) : Bool := (playP ks 0 (zeroS ks) (c ++ c)).1.isSome && (List.range ks.length).all fun w => c.contains (w : Int)
def circR (ks c : List Int) : Bool := (List.range ks.length).all fun w => gap (ks.getD w 0) w 0 false (c ++ c) && c.contains (w : Int)
theorem circ_eq {ks c : List Int} (v : TVal ks) (hc : ∀ x ∈ c, 0 ≤ x) : circP ks c = circR ks c := by
  rw [Bool.eq_iff_iff]
  unfold circP circR
  rw [Bool.and_eq_true, List.all_eq_true, List.all_eq_true, play_iff (zeroS_len ks) (fun x hx => by rcases List.mem_append.1 hx with h | h <;> exact hc x h)]
  constructor
  · rintro ⟨h1, h2⟩ w hw
    have hw' : w < ks.length := by simpa using hw
    have hm := h2 w hw
    rw [Bool.and_eq_true]
    refine ⟨?_, hm⟩
    have := h1 w hw'
    rw [zeroS_at] at this
    exact (circ1 (v.at_ w hw').1 (by simpa using hm)).1 this
  · intro h
    refine ⟨fun i hi => ?_, fun w hw => ?_⟩
    · have := h i (by simpa using hi)
      rw [Bool.and_eq_true] at this
      rw [zeroS_at]
      exact (circ1 (v.at_ i hi).1 (by simpa using this.2)).2 this.1
    · have := h w hw
      rw [Bool.and_eq_true] at this
      exact this.2
end Go.Proofs.Ytndgaklcnhoddaa
namespace Go.Proofs.Ytndgaklcnhoddaa
theorem nxS_mem {ks s x : List Int} : x ∈ nxS ks s ↔ fullP allW ks s = false ∧ ∃ w, w < ks.length ∧ x = visit (upP allW s) w := by
  unfold nxS
  cases h : fullP allW ks s with
  | true => simp
  | false =>
    simp only [Bool.false_eq_true, if_false, List.mem_map, List.mem_range, true_and]
    exact ⟨fun ⟨w, h1, h2⟩ => ⟨w, h1, h2.symm⟩, fun ⟨w, h1, h2⟩ => ⟨w, h1, h2.symm⟩⟩
def WinL (ks row : List Int) : Prop := ∀ x ∈ row, 0 ≤ x ∧ x < ks.length
/-- ways are rows -/
theorem wlk_play {ks : List Int} : ∀ {m : Nat} {s t : List Int}, Wlk (nxS ks) m s t → ∃ row, row.length = m ∧ WinL ks row ∧ ∀ a, playP ks a s row = (some t, a + m)
  | 0, s, t, h => by cases h; exact ⟨[], rfl, fun x hx => by simp at hx, fun a => rfl⟩
  | m + 1, s, t, ⟨x, hx, h⟩ => by
    obtain ⟨row, h1, h2, h3⟩ := wlk_play h
    obtain ⟨hf, w, hw, rfl⟩ := nxS_mem.1 hx
    refine ⟨(w : Int) :: row, by simp [h1], fun y hy => ?_, fun a => ?_⟩
    · rcases List.mem_cons.1 hy with hy | hy
      · subst hy; omega
      · exact h2 y hy
    · rw [playP, hf, if_neg (by simp), Int.toNat_natCast, h3]
      congr 1
      omega
theorem play_wlk {ks : List Int} : ∀ {row : List Int} {a : Nat} {s t : List Int}, WinL ks row → (playP ks a s row).1 = some t → Wlk (nxS ks) row.length s t
  | [], a, s, t, _, h => by cases h; rfl
  | w :: row, a, s, t, hw, h => by
    unfold playP at h
    by_cases hf : fullP allW ks s = true
    · rw [if_pos hf] at h; cases h
    rw [if_neg hf] at h
    have h0 := hw w (by simp)
    refine ⟨_, nxS_mem.2 ⟨by simpa using hf, w.toNat, by omega, rfl⟩, play_wlk (fun x hx => hw x (by simp [hx])) h⟩
theorem wlk_st {ks : List Int} (v : TVal ks) : ∀ {m : Nat} {s t : List Int}, isSt ks s = true → Wlk (nxS ks) m s t → isSt ks t = true
  | 0, s, t, h, hw => by cases hw; exact h
  | m + 1, s, t, h, ⟨x, hx, hw⟩ => wlk_st v (nxS_st v h x hx) hw
theorem getD_ext {a b : List Int} (hl : a.length = b.length) (h : ∀ i, i < a.length → a.getD i 0 = b.getD i 0) : a = b := by
  apply List.ext_getElem hl
  intro i h1 h2
  have := h i h1
  rw [List.getD_eq_getElem?_getD, List.getD_eq_getElem?_getD, List.getElem?_eq_getElem h1, List.getElem?_eq_getElem h2] at this
  exact this
/-- what comes back is a circle -/
theorem closed_circ {ks s c : List Int} (_ : TVal ks) (hs : isSt ks s = true) (hw : WinL ks c) (hc : c ≠ []) {a : Nat} (h : (playP ks a s c).1 = some s) : circP ks c = true := by
  have hw0 : ∀ x ∈ c, 0 ≤ x := fun x hx => (hw x hx).1
  have hr := (play_some c a s s (isSt_len hs) hw0 h).2
  unfold circP
  rw [Bool.and_eq_true, List.all_eq_true, play_iff (zeroS_len ks) (fun x hx => by rcases List.mem_append.1 hx with h | h <;> exact hw0 x h)]
  refine ⟨fun i hi => ?_, fun w hw' => ?_⟩
  · have h2 : run1 (ks.getD i 0) i (s.getD i 0) (c ++ c) = some (s.getD i 0) := by rw [run1_app, hr i hi]; exact hr i hi
    obtain ⟨b, _, hb⟩ := run1_mono (k := ks.getD i 0) (w := i) (c ++ c) ((zeroS ks).getD i 0) (s.getD i 0) (by rw [zeroS_at]; exact (isSt_at hs i hi).1) h2
    rw [hb]; rfl
  · have hwl : w < ks.length := by simpa using hw'
    by_cases hm : (w : Int) ∈ c
    · simpa using hm
    · have := run1_not c _ _ hm (hr w hwl)
      have : 0 < c.length := List.length_pos_iff.2 hc
      omega
/-- a circle comes back -/
theorem circ_closed {ks c : List Int} (v : TVal ks) (hw : WinL ks c) (h : circP ks c = true) : ∃ s, isSt ks s = true ∧ (playP ks 0 (zeroS ks) c).1 = some s ∧ (∀ a, (playP ks a s c).1 = some s) ∧ c ≠ [] := by
  have hw0 : ∀ x ∈ c, 0 ≤ x := fun x hx => (hw x hx).1
  unfold circP at h
  rw [Bool.and_eq_true, List.all_eq_true, play_iff (zeroS_len ks) (fun x hx => by rcases List.mem_append.1 hx with h | h <;> exact hw0 x h)] at h
  obtain ⟨h1, h2⟩ := h
  have hin : ∀ w, w < ks.length → (w : Int) ∈ c := fun w hw' => by have := h2 w (by simpa using hw'); simpa using this
  have hr1 : ∀ i : Nat, i < ks.length → (run1 (ks.getD i 0) i ((zeroS ks).getD i 0) c).isSome = true := fun i hi => by
    have := h1 i hi
    rw [run1_app] at this
    cases e : run1 (ks.getD i 0) i ((zeroS ks).getD i 0) c with
    | none => rw [e] at this; cases this
    | some b => rfl
  cases e1 : (playP ks 0 (zeroS ks) c).1 with
  | none =>
    obtain ⟨i, hi, hn⟩ := play_none c 0 _ (zeroS_len ks) hw0 e1
    have := hr1 i hi
    rw [hn] at this; cases this
  | some s =>
    obtain ⟨hl, hs⟩ := play_some c 0 _ s (zeroS_len ks) hw0 e1
    have hst : isSt ks s = true := isSt_of hl fun i hi => run1_le _ _ c _ _ (by rw [zeroS_at]; omega) (by rw [zeroS_at]; have := v.at_ i hi; omega) (hs i hi)
    refine ⟨s, hst, rfl, fun a => ?_, fun hc => ?_⟩
    · cases e2 : (playP ks a s c).1 with
      | none =>
        obtain ⟨i, hi, hn⟩ := play_none c a s hl hw0 e2
        have := h1 i hi
        rw [run1_app, hs i hi] at this
        simp only [Option.bind_some, hn] at this
        cases this
      | some t =>
        obtain ⟨hl2, ht⟩ := play_some c a s t hl hw0 e2
        congr 1
        apply getD_ext (by omega)
        intro i hi
        have hi' : i < ks.length := by omega
        rw [run1_end c _ _ (ht i hi'), run1_end c _ _ (hs i hi')]
        exact endc_same _ c _ _ (hin i hi')
    · subst hc
      have := hin 0 (by have := v.n1; omega)
      simp at this
/-- no fuller -/
def leS (s t : List Int) : Prop := s.length = t.length ∧ ∀ i, s.getD i 0 ≤ t.getD i 0
theorem leS.refl (s : List Int) : leS s s := ⟨rfl, fun _ => Int.le_refl _⟩
theorem leS.trans {a b c : List Int} (h : leS a b) (k : leS b c) : leS a c := ⟨h.1.trans k.1, fun i => Int.le_trans (h.2 i) (k.2 i)⟩
theorem leS.zero {ks s : List Int} (h : isSt ks s = true) : leS (zeroS ks) s := ⟨by rw [zeroS_len, isSt_len h], fun i => by
  rw [zeroS_at]
  by_cases hi : i < ks.length
  · exact (isSt_at h i hi).1
  · rw [List.getD_eq_getElem?_getD, List.getElem?_eq_none (by rw [isSt_len h]; omega)]; exact Int.le_refl _⟩
theorem leS.up {s t : List Int} (h : leS s t) (p : Nat → Bool) : leS (upP p s) (upP p t) := by
  refine ⟨by rw [upP_len, upP_len, h.1], fun i => ?_⟩
  by_cases hi : i < s.length
  · rw [upP_at p s i hi, upP_at p t i (by rw [← h.1]; exact hi)]
    have := h.2 i
    split <;> omega
  · rw [List.getD_eq_getElem?_getD, List.getElem?_eq_none (by rw [upP_len]; omega), List.getD_eq_getElem?_getD, List.getElem?_eq_none (by rw [upP_len, ← h.1]; omega)]
    exact Int.le_refl _
theorem leS.visit {s t : List Int} (h : leS s t) (w : Nat) : leS (Go.Proofs.Ytndgaklcnhoddaa.visit s w) (Go.Proofs.Ytndgaklcnhoddaa.visit t w) := by
  refine ⟨by rw [visit_len, visit_len, h.1], fun i => ?_⟩
  rw [visit_at, visit_at]
  split
  · exact Int.le_refl _
  · exact h.2 i
theorem leS.full {ks s t : List Int} (h : leS s t) {p : Nat → Bool} (hf : fullP p ks t = false) : fullP p ks s = false :=
  fullP_false.2 fun i hi hp => by have := fullP_false.1 hf i hi hp; have := h.2 i; omega
theorem leS.lv {ks : List Int} : ∀ (m : Nat) {s t : List Int}, leS s t → Go.Proofs.Ytndgaklcnhoddaa.lv (nxS ks) m t = true → Go.Proofs.Ytndgaklcnhoddaa.lv (nxS ks) m s = true
  | 0, _, _, _, _ => rfl
  | m + 1, s, t, h, hl => by
    unfold Go.Proofs.Ytndgaklcnhoddaa.lv at hl ⊢
    obtain ⟨x, hx, hl⟩ := List.any_eq_true.1 hl
    obtain ⟨hf, w, hw, rfl⟩ := nxS_mem.1 hx
    rw [List.any_eq_true]
    exact ⟨_, nxS_mem.2 ⟨h.full hf, w, hw, rfl⟩, leS.lv m ((h.up allW).visit w) hl⟩
theorem leS.safe {ks s t : List Int} (h : leS s t) (k : SafeP (nxS ks) t) : SafeP (nxS ks) s := fun m => h.lv m (k m)
/-- what comes back is safe -/
theorem closed_safe {α : Type} {nx : α → List α} {m : Nat} {s : α} (hm : 1 ≤ m) (h : Wlk nx m s s) : SafeP nx s := by
  have : ∀ k : Nat, lv nx (m * k) s = true ∧ ∃ j, Wlk nx (m * k) s j ∧ j = s := by
    intro k
    induction k with
    | zero => exact ⟨rfl, s, rfl, rfl⟩
    | succ k ih =>
      obtain ⟨_, j, hj, rfl⟩ := ih
      have := hj.app h
      rw [← Nat.mul_succ] at this
      exact ⟨this.lv, j, this, rfl⟩
  intro n
  refine lv_le s ?_ (this n).1
  have := Nat.mul_le_mul_right n hm
  omega
/-- the places of a way -/
theorem wlk_list {α : Type} {nx : α → List α} : ∀ {m : Nat} {i j : α}, Wlk nx m i j → ∃ l : List α, l.length = m + 1 ∧ ∀ a b : Nat, ∀ (_ : a ≤ b) (hb : b < l.length), Wlk nx (b - a) (l[a]'(by omega)) l[b] ∧ (a = 0 → l[a]'(by omega) = i)
  | 0, i, j, h => ⟨[i], rfl, fun a b hab hb => by
      simp at hb
      obtain rfl : b = 0 := hb
      obtain rfl : a = 0 := by omega
      exact ⟨rfl, fun _ => rfl⟩⟩
  | m + 1, i, j, ⟨x, hx, h⟩ => by
    obtain ⟨l, h1, h2⟩ := wlk_list h
    refine ⟨i :: l, by simp [h1], fun a b hab hb => ?_⟩
    have hx0 := (h2 0 0 (Nat.le_refl _) (by omega)).2 rfl
    cases b with
    | zero =>
      obtain rfl : a = 0 := by omega
      exact ⟨rfl, fun _ => rfl⟩
    | succ b =>
      have hb' : b < l.length := by simpa using hb
      cases a with
      | zero =>
        refine ⟨?_, fun _ => rfl⟩
        have := (h2 0 b (by omega) hb').1
        rw [hx0] at this
        simp only [Nat.sub_zero] at this
        exact ⟨x, hx, this⟩
      | succ a =>
        refine ⟨?_, fun e => by omega⟩
        have := (h2 a b (by omega) hb').1
        simpa [Nat.add_sub_add_right] using this
/-- whoever is safe goes on until it comes back -/
theorem safe_closed {ks s : List Int} (v : TVal ks) (hs : isSt ks s = true) (h : SafeP (nxS ks) s) : ∃ t m, isSt ks t = true ∧ 1 ≤ m ∧ Wlk (nxS ks) m t t := by
  have hp := prodK_pos v.nn
  obtain ⟨j, hj⟩ := wlk_of_lv (h (prodK ks).toNat)
  obtain ⟨l, h1, h2⟩ := wlk_list hj
  have hst : ∀ a (ha : a < l.length), isSt ks l[a] = true := fun a ha => by
    have h3 := (h2 0 a (by omega) ha)
    rw [h3.2 rfl] at h3
    exact wlk_st v hs h3.1
  by_cases hn : l.Nodup
  · have := states_le v hn fun x hx => by
      obtain ⟨a, ha, rfl⟩ := List.getElem_of_mem hx
      exact hst a ha
    omega
  · unfold List.Nodup at hn
    rw [List.pairwise_iff_getElem] at hn
    simp only [Classical.not_forall] at hn
    obtain ⟨a, b, ha, hb, hab, hne⟩ := hn
    have e : l[a] = l[b] := Classical.not_not.1 hne
    have := (h2 a b (by omega) hb).1
    rw [← e] at this
    exact ⟨l[a], b - a, hst a ha, by omega, this⟩
/-- the empty state is safe just if there is a circle -/
theorem zero_safe {ks : List Int} (v : TVal ks) : SafeP (nxS ks) (zeroS ks) ↔ ∃ t m, isSt ks t = true ∧ 1 ≤ m ∧ Wlk (nxS ks) m t t :=
  ⟨fun h => safe_closed v (zeroS_st v) h, fun ⟨_, _, ht, hm, hw⟩ => (leS.zero ht).safe (closed_safe hm hw)⟩
/-- how many visits a shortest circle has -/
def IsShort (ks : List Int) (m : Nat) : Prop := 1 ≤ m ∧ (∃ t, isSt ks t = true ∧ Wlk (nxS ks) m t t) ∧ ∀ t k, isSt ks t = true → 1 ≤ k → Wlk (nxS ks) k t t → m ≤ k
theorem IsShort.inj {ks : List Int} {m n : Nat} (h : IsShort ks m) (k : IsShort ks n) : m = n := by
  obtain ⟨h1, ⟨t, ht, hw⟩, h3⟩ := h
  obtain ⟨k1, ⟨u, hu, ku⟩, k3⟩ := k
  have := h3 u n hu k1 ku
  have := k3 t m ht h1 hw
  omega
end Go.Proofs.Ytndgaklcnhoddaa
namespace Go.Proofs.Ytndgaklcnhoddaa
/-- what comes behind a list -/
def start (l : List Int) : Int := match l.getLast? with | none => 0 | some a => a + 1
def nxt (n : Int) (l : List Int) : List (List Int) := (List.range (n - start l).toNat).map fun (i : Nat) => l ++ [start l + (i : Int)]
/-- all increasing lists of so many numbers below another one -/
def incs (n : Int) : Nat → List (List Int)
  | 0 => [[]]
  | k + 1 => (incs n k).flatMap (nxt n)
theorem start_snoc (l : List Int) (a : Int) : start (l ++ [a]) = a + 1 := by unfold start; simp

/-- increasing, below a number, from 0 on -/
def Inc (n : Int) (l : List Int) : Prop := (∀ x ∈ l, 0 ≤ x ∧ x < start l) ∧ start l ≤ n ∧ (l.length : Int) ≤ start l
theorem nxt_mem {n : Int} {l m : List Int} (h : m ∈ nxt n l) : ∃ i : Nat, start l + i < n ∧ m = l ++ [start l + i] := by
  unfold nxt at h
  rw [List.mem_map] at h
  obtain ⟨i, hi, rfl⟩ := h
  have := List.mem_range.1 hi
  exact ⟨i, by omega, rfl⟩
theorem start_nn {l : List Int} (h : ∀ x ∈ l, 0 ≤ x) : 0 ≤ start l := by
  unfold start
  cases e : l.getLast? with
  | none => simp
  | some a =>
    have := h a (List.mem_of_getLast? e)
    simp only; omega
theorem Inc.nxt {n : Int} {l m : List Int} (h : Inc n l) (hm : m ∈ nxt n l) : Inc n m := by
  obtain ⟨i, hi, rfl⟩ := nxt_mem hm
  have h0 := start_nn fun x hx => (h.1 x hx).1
  refine ⟨fun x hx => ?_, ?_, ?_⟩
  · rw [start_snoc]
    rcases List.mem_append.1 hx with hx | hx
    · have := h.1 x hx; omega
    · simp at hx; omega
  · rw [start_snoc]; omega
  · rw [start_snoc]
    have := h.2.2
    simp; omega
theorem incs_inc {n : Int} (hn : 0 ≤ n) : ∀ k, ∀ l ∈ incs n k, Inc n l
  | 0, l, h => by
    simp [incs] at h
    subst h
    exact ⟨by simp, by simpa [start] using hn, by simp [start]⟩
  | k + 1, l, h => by
    rw [incs, List.mem_flatMap] at h
    obtain ⟨m, hm, hl⟩ := h
    exact (incs_inc hn k m hm).nxt hl
theorem incs_len_eq (n : Int) : ∀ (k : Nat) (l : List Int), l ∈ incs n k → l.length = k
  | 0, l, h => by simp [incs] at h; rw [h]; rfl
  | k + 1, l, h => by
    rw [incs, List.mem_flatMap] at h
    obtain ⟨m, hm, hl⟩ := h
    obtain ⟨i, _, rfl⟩ := nxt_mem hl
    have := incs_len_eq n k m hm
    simp [this]
/-- the numbers of the bits of a number, below another one -/
def bitsL (n b : Nat) : List Int := ((List.range n).filter fun i => b.testBit i).map fun (i : Nat) => (i : Int)
/-- the number whose bits they are -/
def maskL (l : List Int) : Nat := (l.map fun x => 2 ^ x.toNat).sum
theorem mask_snoc (l : List Int) (x : Int) : maskL (l ++ [x]) = maskL l + 2 ^ x.toNat := by simp [maskL]
theorem mask_lt {n : Int} (hn : 0 ≤ n) : ∀ k, ∀ l ∈ incs n k, maskL l < 2 ^ (start l).toNat ∧ ∀ i : Nat, (maskL l).testBit i = true ↔ (i : Int) ∈ l
  | 0, l, h => by
    simp [incs] at h
    subst h
    simp [maskL, start]
  | k + 1, l, h => by
    rw [incs, List.mem_flatMap] at h
    obtain ⟨m, hm, hl⟩ := h
    obtain ⟨j, hj, rfl⟩ := nxt_mem hl
    obtain ⟨h1, h2⟩ := mask_lt hn k m hm
    have hinc := incs_inc hn k m hm
    have h0 := start_nn fun x hx => (hinc.1 x hx).1
    have hle : maskL m < 2 ^ (start m + j).toNat := Nat.lt_of_lt_of_le h1 (Nat.pow_le_pow_right (by omega) (by omega))
    rw [mask_snoc, start_snoc]
    have e1 : (start m + j + 1).toNat = (start m + j).toNat + 1 := by omega
    refine ⟨by rw [e1, Nat.pow_succ]; omega, fun i => ?_⟩
    have e2 : maskL m + 2 ^ (start m + j).toNat = 2 ^ (start m + j).toNat ||| maskL m := by
      have := Nat.two_pow_add_eq_or_of_lt hle 1
      rw [Nat.mul_one] at this
      omega
    rw [e2, Nat.testBit_or, Nat.testBit_two_pow, Bool.or_eq_true, h2 i]
    simp only [decide_eq_true_eq, List.mem_append, List.mem_singleton]
    constructor
    · rintro (hh | hh)
      · right; omega
      · exact .inl hh
    · rintro (hh | hh)
      · exact .inr hh
      · left; omega
theorem sorted_ext : ∀ {a b : List Int}, a.Pairwise (· < ·) → b.Pairwise (· < ·) → (∀ x, x ∈ a ↔ x ∈ b) → a = b
  | [], [], _, _, _ => rfl
  | [], y :: b, _, _, h => absurd ((h y).2 (by simp)) (by simp)
  | x :: a, [], _, _, h => absurd ((h x).1 (by simp)) (by simp)
  | x :: a, y :: b, ha, hb, h => by
    rw [List.pairwise_cons] at ha hb
    have e : x = y := by
      rcases List.mem_cons.1 ((h x).1 (by simp)) with h1 | h1
      · exact h1
      · rcases List.mem_cons.1 ((h y).2 (by simp)) with h2 | h2
        · exact h2.symm
        · have := hb.1 x h1
          have := ha.1 y h2
          omega
    subst e
    have e2 : a = b := sorted_ext ha.2 hb.2 fun z => by
      constructor
      · intro hz
        rcases List.mem_cons.1 ((h z).1 (by simp [hz])) with h1 | h1
        · have := ha.1 z hz
          omega
        · exact h1
      · intro hz
        rcases List.mem_cons.1 ((h z).2 (by simp [hz])) with h1 | h1
        · have := hb.1 z hz
          omega
        · exact h1
    rw [e2]
theorem incs_sorted {n : Int} (hn : 0 ≤ n) : ∀ k, ∀ l ∈ incs n k, l.Pairwise (· < ·)
  | 0, l, h => by
    simp [incs] at h
    subst h
    exact List.Pairwise.nil
  | k + 1, l, h => by
    rw [incs, List.mem_flatMap] at h
    obtain ⟨m, hm, hl⟩ := h
    obtain ⟨j, hj, rfl⟩ := nxt_mem hl
    have hinc := incs_inc hn k m hm
    rw [List.pairwise_append]
    refine ⟨incs_sorted hn k m hm, by simp, fun x hx y hy => ?_⟩
    rw [List.mem_singleton] at hy
    subst hy
    have := (hinc.1 x hx).2
    omega
theorem incs_all {n : Int} (hn : 0 ≤ n) : ∀ (k : Nat) (l : List Int), l.length = k → l.Pairwise (· < ·) → (∀ x ∈ l, 0 ≤ x ∧ x < n) → l ∈ incs n k
  | 0, l, hk, _, _ => by
    rw [List.length_eq_zero_iff] at hk
    subst hk
    simp [incs]
  | k + 1, l, hk, hs, hb => by
    obtain ⟨m, x, rfl⟩ : ∃ m x, l = m ++ [x] := by
      rcases List.eq_nil_or_concat l with rfl | ⟨m, x, h⟩
      · simp at hk
      · exact ⟨m, x, by simpa using h⟩
    rw [List.pairwise_append] at hs
    have hm := incs_all hn k m (by simpa using hk) hs.1 fun y hy => hb y (by simp [hy])
    rw [incs, List.mem_flatMap]
    refine ⟨m, hm, ?_⟩
    have hx := hb x (by simp)
    have hst : start m ≤ x := by
      unfold start
      cases e : m.getLast? with
      | none => simpa using hx.1
      | some a =>
        have := hs.2.2 a (List.mem_of_getLast? e) x (by simp)
        simp only; omega
    unfold nxt
    rw [List.mem_map]
    exact ⟨(x - start m).toNat, List.mem_range.2 (by omega), by congr 2; omega⟩
theorem bits_sorted (n b : Nat) : (bitsL n b).Pairwise (· < ·) := by
  unfold bitsL
  rw [List.pairwise_map]
  exact List.Pairwise.imp (fun h => by omega) (List.pairwise_lt_range.filter _)
theorem bits_mem {n b : Nat} {x : Int} : x ∈ bitsL n b ↔ 0 ≤ x ∧ x < n ∧ b.testBit x.toNat = true := by
  unfold bitsL
  simp only [List.mem_map, List.mem_filter, List.mem_range]
  constructor
  · rintro ⟨i, ⟨h1, h2⟩, rfl⟩
    exact ⟨by omega, by omega, by simpa using h2⟩
  · rintro ⟨h1, h2, h3⟩
    exact ⟨x.toNat, ⟨by omega, h3⟩, by omega⟩
theorem bits_incs {n : Nat} {k : Nat} {l : List Int} (h : l ∈ incs n k) : bitsL n (maskL l) = l ∧ maskL l < 2 ^ n := by
  obtain ⟨h1, h2⟩ := mask_lt (by omega) k l h
  have hi := incs_inc (by omega) k l h
  refine ⟨sorted_ext (bits_sorted _ _) (incs_sorted (by omega) k l h) fun x => ?_, Nat.lt_of_lt_of_le h1 (Nat.pow_le_pow_right (by omega) (by have := hi.2.1; omega))⟩
  rw [bits_mem, h2]
  constructor
  · rintro ⟨a, _, c⟩
    rwa [Int.toNat_of_nonneg a] at c
  · intro hx
    have := hi.1 x hx
    have := hi.2.1
    refine ⟨by omega, by omega, ?_⟩
    rwa [Int.toNat_of_nonneg (by omega)]
theorem bits_in (n b : Nat) : bitsL n b ∈ incs n (bitsL n b).length :=
  incs_all (by omega) _ _ rfl (bits_sorted n b) fun _ hx => ⟨(bits_mem.1 hx).1, (bits_mem.1 hx).2.1⟩
theorem bits_inj {n a b : Nat} (ha : a < 2 ^ n) (hb : b < 2 ^ n) (h : bitsL n a = bitsL n b) : a = b := by
  refine Nat.eq_of_testBit_eq fun i => ?_
  by_cases hi : i < n
  · have : (i : Int) ∈ bitsL n a ↔ (i : Int) ∈ bitsL n b := by rw [h]
    rw [bits_mem, bits_mem] at this
    simp only [Int.toNat_natCast] at this
    have h0 : (0 : Int) ≤ i ∧ (i : Int) < n := by omega
    simp only [h0.1, h0.2, true_and] at this
    cases e1 : a.testBit i <;> cases e2 : b.testBit i <;> simp_all
  · rw [Nat.testBit_lt_two_pow (Nat.lt_of_lt_of_le ha (Nat.pow_le_pow_right (by omega) (by omega))), Nat.testBit_lt_two_pow (Nat.lt_of_lt_of_le hb (Nat.pow_le_pow_right (by omega) (by omega)))]

/-- a list comes before another one -/
def lex : List Int → List Int → Prop
  | x :: a, y :: b => x < y ∨ (x = y ∧ lex a b)
  | _, _ => False
theorem lex_irr : ∀ a, ¬ lex a a
  | [], h => h
  | x :: a, h => by
    rcases h with h | ⟨_, h⟩
    · omega
    · exact lex_irr a h
theorem lex_trans : ∀ {a b c}, lex a b → lex b c → lex a c
  | [], _, _, h, _ => h.elim
  | _ :: _, [], _, h, _ => h.elim
  | _ :: _, _ :: _, [], _, h => h.elim
  | x :: a, y :: b, z :: c, h1, h2 => by
    rcases h1 with h1 | ⟨rfl, h1⟩ <;> rcases h2 with h2 | ⟨rfl, h2⟩
    · exact .inl (by omega)
    · exact .inl h1
    · exact .inl h2
    · exact .inr ⟨rfl, lex_trans h1 h2⟩
theorem lex_tot : ∀ {a b : List Int}, a.length = b.length → a = b ∨ lex a b ∨ lex b a
  | [], [], _ => .inl rfl
  | [], _ :: _, h => by simp at h
  | _ :: _, [], h => by simp at h
  | x :: a, y :: b, h => by
    by_cases h1 : x < y
    · exact .inr (.inl (.inl h1))
    · by_cases h2 : y < x
      · exact .inr (.inr (.inl h2))
      · have e : x = y := by omega
        subst e
        rcases lex_tot (a := a) (b := b) (by simpa using h) with h3 | h3 | h3
        · exact .inl (by rw [h3])
        · exact .inr (.inl (.inr ⟨rfl, h3⟩))
        · exact .inr (.inr (.inr ⟨rfl, h3⟩))
theorem lex_app : ∀ {a b : List Int} (c d : List Int), lex a b → lex (a ++ c) (b ++ d)
  | [], _, _, _, h => h.elim
  | _ :: _, [], _, _, h => h.elim
  | _ :: _, _ :: _, c, d, h => by
    rcases h with h | ⟨e, h⟩
    · exact .inl h
    · exact .inr ⟨e, lex_app c d h⟩
theorem lex_end : ∀ (a : List Int) {x y : Int}, x < y → lex (a ++ [x]) (a ++ [y])
  | [], _, _, h => .inl h
  | _ :: a, _, _, h => .inr ⟨rfl, lex_end a h⟩
theorem incs_lex (n : Int) : ∀ k, (incs n k).Pairwise lex
  | 0 => by simp [incs]
  | k + 1 => by
    rw [incs, List.pairwise_flatMap]
    refine ⟨fun a _ => ?_, List.Pairwise.imp (fun {a b} h x hx y hy => ?_) (incs_lex n k)⟩
    · unfold nxt
      rw [List.pairwise_map]
      exact List.Pairwise.imp (fun h => lex_end a (by omega)) List.pairwise_lt_range
    · obtain ⟨i, _, rfl⟩ := nxt_mem hx
      obtain ⟨j, _, rfl⟩ := nxt_mem hy
      exact lex_app _ _ h
theorem incs_nodup (n : Int) (k : Nat) : (incs n k).Nodup :=
  List.Pairwise.imp (fun {a b} h e => by subst e; exact lex_irr a h) (incs_lex n k)
/-- the sets of so many, as bits -/
def setsK (n k : Nat) : List Nat := (List.range (2 ^ n)).filter fun b => (bitsL n b).length == k
theorem sets_perm (n k : Nat) : ((setsK n k).map (bitsL n)).Perm (incs n k) := by
  refine (List.perm_ext_iff_of_nodup ?_ (incs_nodup n k)).2 fun l => ?_
  · unfold setsK List.Nodup
    rw [List.pairwise_map, List.pairwise_filter]
    refine List.Pairwise.imp_of_mem (fun {a b} ha hb h _ _ e => ?_) List.pairwise_lt_range
    have := bits_inj (List.mem_range.1 ha) (List.mem_range.1 hb) e
    omega
  · rw [List.mem_map]
    constructor
    · rintro ⟨b, hb, rfl⟩
      unfold setsK at hb
      rw [List.mem_filter] at hb
      have := eq_of_beq hb.2
      rw [← this]
      exact bits_in n b
    · intro h
      obtain ⟨h1, h2⟩ := bits_incs h
      refine ⟨maskL l, ?_, h1⟩
      unfold setsK
      rw [List.mem_filter]
      exact ⟨List.mem_range.2 h2, by rw [h1, incs_len_eq _ _ _ h]; simp⟩
end Go.Proofs.Ytndgaklcnhoddaa
namespace Go.Proofs.Ytndgaklcnhoddaa
/-- at least as full -/
def geB (s t : List Int) : Bool := (List.range s.length).all fun i => decide (t.getD i 0 ≤ s.getD i 0)
theorem geB_iff {s t : List Int} : geB s t = true ↔ ∀ i, i < s.length → t.getD i 0 ≤ s.getD i 0 := by
  unfold geB; rw [List.all_eq_true]
  exact ⟨fun h i hi => by simpa using h i (by simpa using hi), fun h i hi => by simpa using h i (by simpa using hi)⟩
def covB (l : List (List Int × Int)) (s : List Int) (left : Int) : Bool := l.any fun d => decide (d.2 < left) && geB s d.1
def rightB (ks : List Int) (l : List (List Int × Int)) : Bool := l.all fun d => fullP allW ks d.1 || (List.range ks.length).all fun w => covB l (visit (upP allW d.1) w) d.2
def doomErr (ks s : List Int) (l : List (List Int × Int)) : Int :=
  if stErr ks s ≠ 0 then stErr ks s else if 1000 < l.length then 6
  else if l.any (fun d => decide (stErr ks d.1 ≠ 0) || decide (d.2 < 1) || decide (1099511627776 < d.2)) = true then 3
  else if rightB ks l = true ∧ covB l s 1099511627777 = true then 0 else 14
theorem leS_of {s t : List Int} (hl : s.length = t.length) (h : geB t s = true) : leS s t := ⟨hl, fun i => by
  by_cases hi : i < t.length
  · exact geB_iff.1 h i hi
  · rw [List.getD_eq_getElem?_getD, List.getElem?_eq_none (by omega), List.getD_eq_getElem?_getD, List.getElem?_eq_none (by omega)]; exact Int.le_refl _⟩
theorem geB_refl (s : List Int) : geB s s = true := geB_iff.2 fun _ _ => Int.le_refl _
/-- steps that are right doom what is at least as full as one of them -/
theorem right_doom {ks : List Int} {l : List (List Int × Int)} (hs : ∀ d ∈ l, d.1.length = ks.length ∧ 0 ≤ d.2) (hr : rightB ks l = true) : ∀ (n : Nat) (d : List Int × Int), d ∈ l → d.2 ≤ n → ∀ t : List Int, leS d.1 t → ¬ SafeP (nxS ks) t := by
  intro n
  induction n with
  | zero =>
    intro d hd hn t hle hsafe
    have h0 := hs d hd
    obtain ⟨y, hy, _⟩ := safe_next hsafe
    obtain ⟨hf, w, hw, rfl⟩ := nxS_mem.1 hy
    have h1 := List.all_eq_true.1 hr d hd
    rw [Bool.or_eq_true] at h1
    have h2 := h1.resolve_left (by rw [hle.full hf]; simp)
    have h3 := List.all_eq_true.1 h2 w (by simpa using hw)
    obtain ⟨e, he, h4⟩ := List.any_eq_true.1 h3
    simp only [Bool.and_eq_true, decide_eq_true_eq] at h4
    have := (hs e he).2
    omega
  | succ n ih =>
    intro d hd hn t hle hsafe
    have h0 := hs d hd
    obtain ⟨y, hy, hys⟩ := safe_next hsafe
    obtain ⟨hf, w, hw, rfl⟩ := nxS_mem.1 hy
    have h1 := List.all_eq_true.1 hr d hd
    rw [Bool.or_eq_true] at h1
    have h2 := h1.resolve_left (by rw [hle.full hf]; simp)
    have h3 := List.all_eq_true.1 h2 w (by simpa using hw)
    obtain ⟨e, he, h4⟩ := List.any_eq_true.1 h3
    simp only [Bool.and_eq_true, decide_eq_true_eq] at h4
    have h5 : leS e.1 (visit (upP allW d.1) w) := leS_of (by rw [visit_len, upP_len, (hs e he).1, h0.1]) h4.2
    exact ih e he (by omega) _ (h5.trans ((hle.up allW).visit w)) hys
theorem doom_sound {ks s : List Int} {l : List (List Int × Int)} (e : doomErr ks s l = 0) : ¬ SafeP (nxS ks) s := by
  unfold doomErr at e
  by_cases h1 : stErr ks s ≠ 0
  · rw [if_pos h1] at e; exact absurd e h1
  rw [if_neg h1] at e
  by_cases h2 : 1000 < l.length
  · rw [if_pos h2] at e; omega
  rw [if_neg h2] at e
  by_cases h3 : l.any (fun d => decide (stErr ks d.1 ≠ 0) || decide (d.2 < 1) || decide (1099511627776 < d.2)) = true
  · rw [if_pos h3] at e; omega
  rw [if_neg h3] at e
  by_cases h4 : rightB ks l = true ∧ covB l s 1099511627777 = true
  · obtain ⟨hr, hc⟩ := h4
    have hst := (stErr_ok (Classical.not_not.1 h1)).2
    have hs : ∀ d ∈ l, d.1.length = ks.length ∧ 0 ≤ d.2 := fun d hd => by
      have hn : ¬ (stErr ks d.1 ≠ 0 ∨ d.2 < 1) := fun hh => h3 (by
        rw [List.any_eq_true]
        refine ⟨d, hd, ?_⟩
        simp only [Bool.or_eq_true, decide_eq_true_eq]
        exact .inl hh)
      have h0 : stErr ks d.1 = 0 := Classical.not_not.1 fun h => hn (.inl h)
      exact ⟨isSt_len (stErr_ok h0).2, by have : ¬ d.2 < 1 := fun h => hn (.inr h); omega⟩
    obtain ⟨d, hd, h5⟩ := List.any_eq_true.1 hc
    simp only [Bool.and_eq_true, decide_eq_true_eq] at h5
    exact right_doom hs hr d.2.toNat d hd (by have := (hs d hd).2; omega) s (leS_of (by rw [(hs d hd).1, isSt_len hst]) h5.2)
  · rw [if_neg h4] at e; omega
/-- ranks fall -/
theorem rk_next {α : Type} {nx : α → List α} {i x : α} {r : Nat} (h : Rk nx i r) (hx : x ∈ nx i) : ∃ k, k < r ∧ Rk nx x k := by
  have h2 := h.2
  unfold lv at h2
  rw [List.any_eq_false] at h2
  have h3 := h2 x hx
  obtain ⟨k, hk, hr⟩ := rk_of_not (m := r) (i := x) (nx := nx) (by cases e : lv nx r x with | false => rfl | true => exact absurd e h3)
  exact ⟨k, hk, hr⟩
theorem rk_some {α : Type} {nx : α → List α} {i : α} {r : Nat} (h : Rk nx i (r + 1)) : ∃ x ∈ nx i, Rk nx x r := by
  have h1 := h.1
  unfold lv at h1
  obtain ⟨x, hx, hl⟩ := List.any_eq_true.1 h1
  obtain ⟨k, hk, hr⟩ := rk_next h hx
  have : k = r := by
    by_cases e : k = r
    · exact e
    · have := lv_le x (show k + 1 ≤ r by omega) hl
      rw [hr.2] at this; cases this
  subst this
  exact ⟨x, hx, hr⟩
/-- what is led to from a doomed state dooms it -/
theorem from_doom {ks s : List Int} (v : TVal ks) (hs : isSt ks s = true) (_ : ¬ SafeP (nxS ks) s) {R : List (List Int)} (h0 : s ∈ R) (hR : ∀ x ∈ R, isSt ks x = true ∧ ¬ SafeP (nxS ks) x) (hc : ∀ x ∈ R, ∀ y ∈ nxS ks x, y ∈ R) (hn : R.Nodup) :
    doomErr ks s (R.map fun x => (x, rowOf (nxS ks) x + 1)) = 0 := by
  have hrow : ∀ x ∈ R, 0 ≤ rowOf (nxS ks) x ∧ rowOf (nxS ks) x < 1000 := fun x hx => by
    rcases rowOf_cases (nxS ks) x with ⟨_, h⟩ | ⟨r, e, h⟩
    · exact absurd h (hR x hx).2
    · have := rk_lt v (hR x hx).1 h
      have := v.pr
      omega
  unfold doomErr
  rw [if_neg (fun h => h (stErr_of v hs)), if_neg, if_neg, if_pos]
  · refine ⟨?_, ?_⟩
    · unfold rightB
      rw [List.all_eq_true]
      intro d hdm
      obtain ⟨x, hx, rfl⟩ := List.mem_map.1 hdm
      simp only [Bool.or_eq_true]
      cases hf : fullP allW ks x with
      | true => exact .inl rfl
      | false =>
        right
        rw [List.all_eq_true]
        intro w hw
        have hy : visit (upP allW x) w ∈ nxS ks x := nxS_mem.2 ⟨hf, w, by simpa using hw, rfl⟩
        have hyR := hc x hx _ hy
        unfold covB
        rw [List.any_eq_true]
        refine ⟨_, List.mem_map.2 ⟨_, hyR, rfl⟩, ?_⟩
        simp only [Bool.and_eq_true, decide_eq_true_eq, geB_refl, and_true]
        rcases rowOf_cases (nxS ks) x with ⟨_, h⟩ | ⟨r, e, h⟩
        · exact absurd h (hR x hx).2
        · obtain ⟨k, hk, hr⟩ := rk_next h hy
          rw [e, rowOf_rk hr]; omega
    · unfold covB
      rw [List.any_eq_true]
      refine ⟨_, List.mem_map.2 ⟨s, h0, rfl⟩, ?_⟩
      simp only [Bool.and_eq_true, decide_eq_true_eq, geB_refl, and_true]
      have := hrow s h0
      omega
  · intro h
    obtain ⟨d, hdm, h⟩ := List.any_eq_true.1 h
    obtain ⟨x, hx, rfl⟩ := List.mem_map.1 hdm
    have := hrow x hx
    have h1 := stErr_of v (hR x hx).1
    simp [h1] at h
    omega
  · have := states_le v hn fun x hx => (hR x hx).1
    have := v.pr
    simp only [List.length_map]
    omega
/-- the longest row, the first one: so many turns -/
noncomputable def lastG (ks : List Int) : Nat → List Int → List Int
  | 0, _ => []
  | r + 1, s => match (List.range ks.length).find? fun w => decide (rowOf (nxS ks) (visit (upP allW s) w) = r) with
    | some w => (w : Int) :: lastG ks r (visit (upP allW s) w)
    | none => []
theorem lastG_step {ks s : List Int} {r : Nat} (h : Rk (nxS ks) s (r + 1)) : ∃ w, w < ks.length ∧ fullP allW ks s = false ∧ Rk (nxS ks) (visit (upP allW s) w) r ∧ lastG ks (r + 1) s = (w : Int) :: lastG ks r (visit (upP allW s) w) ∧ ∀ u, u < w → ¬ Rk (nxS ks) (visit (upP allW s) u) r := by
  obtain ⟨x, hx, hr⟩ := rk_some h
  obtain ⟨hf, w0, hw0, rfl⟩ := nxS_mem.1 hx
  have iff : ∀ w, decide (rowOf (nxS ks) (visit (upP allW s) w) = (r : Int)) = true ↔ Rk (nxS ks) (visit (upP allW s) w) r := fun w => by
    rw [decide_eq_true_eq]
    rcases rowOf_cases (nxS ks) (visit (upP allW s) w) with ⟨e, hs⟩ | ⟨k, e, hk⟩
    · rw [e]
      exact ⟨fun h => by omega, fun h => absurd hs h.unsafe⟩
    · rw [e]
      exact ⟨fun h => by have : k = r := by omega
                         subst this; exact hk, fun h => by rw [hk.inj h]⟩
  cases hfd : (List.range ks.length).find? fun w => decide (rowOf (nxS ks) (visit (upP allW s) w) = (r : Int)) with
  | none =>
    rw [List.find?_eq_none] at hfd
    exact absurd ((iff w0).2 hr) (hfd w0 (by simpa using hw0))
  | some w =>
    have h1 := List.find?_some hfd
    have h2 := List.mem_of_find?_eq_some hfd
    refine ⟨w, by simpa using h2, hf, (iff w).1 h1, ?_, fun u hu hk => ?_⟩
    · show (match (List.range ks.length).find? fun w => decide (rowOf (nxS ks) (visit (upP allW s) w) = (r : Int)) with
        | some w => (w : Int) :: lastG ks r (visit (upP allW s) w)
        | none => []) = _
      rw [hfd]
    · obtain ⟨as, bs, e1, e2⟩ := (List.find?_eq_some_iff_append.1 hfd).2
      have hl : w = as.length := by
        have h3 := congrArg (fun l => l[as.length]?) e1
        simp at h3
        have h4 : as.length < ks.length := by
          have := congrArg List.length e1
          simp at this; omega
        rw [List.getElem?_range h4] at h3
        simpa using h3.symm
      have hua : u ∈ as := by
        have h5 : (List.range ks.length)[u]? = some u := List.getElem?_range (by have := (by simpa using h2 : w < ks.length); omega)
        rw [e1, List.getElem?_append_left (by omega)] at h5
        exact List.mem_of_getElem? h5
      have := e2 u hua
      simp only [Bool.not_eq_true', decide_eq_false_iff_not] at this
      exact this (by simpa using (iff u).2 hk)
theorem lastG_len {ks : List Int} : ∀ {r : Nat} {s : List Int}, Rk (nxS ks) s r → (lastG ks r s).length = r
  | 0, _, _ => rfl
  | r + 1, s, h => by
    obtain ⟨w, _, _, hr, e, _⟩ := lastG_step h
    rw [e, List.length_cons, lastG_len hr]
theorem lastG_win {ks : List Int} : ∀ {r : Nat} {s : List Int}, Rk (nxS ks) s r → WinL ks (lastG ks r s)
  | 0, _, _ => fun x hx => by simp [lastG] at hx
  | r + 1, s, h => by
    obtain ⟨w, hw, _, hr, e, _⟩ := lastG_step h
    rw [e]
    intro x hx
    rcases List.mem_cons.1 hx with hx | hx
    · subst hx; omega
    · exact lastG_win hr x hx
/-- its beginnings: what is left -/
theorem lastG_play {ks : List Int} : ∀ {r : Nat} {s : List Int}, Rk (nxS ks) s r → ∀ k a, k ≤ r → ∃ t, playP ks a s ((lastG ks r s).take k) = (some t, a + k) ∧ Rk (nxS ks) t (r - k) ∧ lastG ks (r - k) t = (lastG ks r s).drop k
  | r, s, h, 0, a, _ => ⟨s, by simp [playP], h, by simp⟩
  | 0, s, h, k + 1, a, hk => by omega
  | r + 1, s, h, k + 1, a, hk => by
    obtain ⟨w, hw, hf, hr, e, _⟩ := lastG_step h
    obtain ⟨t, h1, h2, h3⟩ := lastG_play hr k (a + 1) (by omega)
    refine ⟨t, ?_, by rw [Nat.add_sub_add_right]; exact h2, by rw [Nat.add_sub_add_right, e, List.drop_succ_cons]; exact h3⟩
    rw [e, List.take_succ_cons, playP, hf, if_neg (by simp), Int.toNat_natCast, h1]
    congr 1
    omega
/-- no row has more turns -/
theorem play_le {ks : List Int} : ∀ (row : List Int) {r : Nat} {s : List Int} (a : Nat), Rk (nxS ks) s r → WinL ks row → (playP ks a s row).2 ≤ a + r ∧ ((playP ks a s row).1.isSome = true → (playP ks a s row).2 = a + row.length)
  | [], r, s, a, _, _ => by simp [playP]
  | w :: row, r, s, a, h, hw => by
    rw [playP]
    cases hf : fullP allW ks s with
    | true => simp
    | false =>
      rw [if_neg (by simp)]
      have h0 := hw w (by simp)
      have hy : visit (upP allW s) w.toNat ∈ nxS ks s := nxS_mem.2 ⟨hf, w.toNat, by omega, rfl⟩
      obtain ⟨k, hk, hr⟩ := rk_next h hy
      obtain ⟨h1, h2⟩ := play_le row (a + 1) hr fun x hx => hw x (by simp [hx])
      refine ⟨by omega, fun hh => ?_⟩
      have := h2 hh
      simp only [List.length_cons]
      omega
/-- a row that is as long does not come before it -/
def befr : List Int → List Int → Bool
  | [], _ => false
  | _ :: _, [] => false
  | a :: l, b :: m => if a = b then befr l m else decide (a < b)
theorem lastG_first {ks : List Int} : ∀ (row : List Int) {s : List Int} (a : Nat), Rk (nxS ks) s row.length → WinL ks row → (playP ks a s row).1.isSome = true → befr row (lastG ks row.length s) = false
  | [], s, a, _, _, _ => by simp [befr]
  | w :: row, s, a, h, hw, hp => by
    obtain ⟨u, hu, hf, hr, e, hleast⟩ := lastG_step (r := row.length) h
    have h0 := hw w (by simp)
    have hw' : WinL ks row := fun x hx => hw x (by simp [hx])
    rw [playP, hf, if_neg (by simp)] at hp
    have hy : visit (upP allW s) w.toNat ∈ nxS ks s := nxS_mem.2 ⟨hf, w.toNat, by omega, rfl⟩
    obtain ⟨k, hk, hk2⟩ := rk_next h hy
    have hge := play_le row (a + 1) hk2 hw'
    have := hge.2 hp
    have hkr : k = row.length := by simp only [List.length_cons] at hk; omega
    subst hkr
    rw [List.length_cons, e, befr]
    by_cases hwu : w = (u : Int)
    · rw [if_pos hwu]
      subst hwu
      rw [Int.toNat_natCast] at hp
      exact lastG_first row (a + 1) hr hw' hp
    · rw [if_neg hwu]
      have : ¬ w.toNat < u := fun hh => hleast _ hh hk2
      simp; omega
end Go.Proofs.Ytndgaklcnhoddaa
namespace Go.Proofs.Ytndgaklcnhoddaa
/-- the windows whose visit leads to a safe state, if some pull -/
noncomputable def leadsL (ks : List Int) (p : Nat → Bool) (s : List Int) : List Int :=
  if fullP p ks s then [] else ((List.range ks.length).filter fun w => decide (rowOf (nxS ks) (visit (upP p s) w) < 0)).map fun (w : Nat) => (w : Int)
theorem leads_ne {ks : List Int} {p : Nat → Bool} {s : List Int} : leadsL ks p s ≠ [] ↔ fullP p ks s = false ∧ ∃ w, w < ks.length ∧ SafeP (nxS ks) (visit (upP p s) w) := by
  unfold leadsL
  cases h : fullP p ks s with
  | true => simp
  | false =>
    rw [if_neg (by simp)]
    simp only [ne_eq, List.map_eq_nil_iff, List.filter_eq_nil_iff, List.mem_range, decide_eq_true_eq, Classical.not_forall, Classical.not_not, true_and]
    exact ⟨fun ⟨w, h1, h2⟩ => ⟨w, h1, rowOf_neg.1 h2⟩, fun ⟨w, h1, h2⟩ => ⟨w, h1, rowOf_neg.2 h2⟩⟩
theorem leads_all {ks s : List Int} : leadsL ks allW s ≠ [] ↔ SafeP (nxS ks) s := by
  rw [leads_ne, safe_iff]
  constructor
  · rintro ⟨hf, w, hw, h⟩
    exact ⟨_, nxS_mem.2 ⟨hf, w, hw, rfl⟩, h⟩
  · rintro ⟨x, hx, h⟩
    obtain ⟨hf, w, hw, rfl⟩ := nxS_mem.1 hx
    exact ⟨hf, w, hw, h⟩
def notIn (l : List Int) : Nat → Bool := fun w => !l.contains (w : Int)
/-- all lists, those with fewer elements first -/
def subsAll (n : Nat) : List (List Int) := (List.range (n + 1)).flatMap fun k => incs n k
/-- fewer, or as many that come before -/
def befL (a b : List Int) : Prop := a.length < b.length ∨ (a.length = b.length ∧ lex a b)
theorem befL_irr (a : List Int) : ¬ befL a a := fun h => by
  rcases h with h | ⟨_, h⟩
  · omega
  · exact lex_irr a h
theorem befL_trans {a b c : List Int} (h : befL a b) (k : befL b c) : befL a c := by
  rcases h with h | ⟨h1, h2⟩
  · rcases k with k | ⟨k1, _⟩
    · exact .inl (by omega)
    · exact .inl (by omega)
  · rcases k with k | ⟨k1, k2⟩
    · exact .inl (by omega)
    · exact .inr ⟨h1.trans k1, lex_trans h2 k2⟩
theorem befL_tot (a b : List Int) : a = b ∨ befL a b ∨ befL b a := by
  rcases Nat.lt_trichotomy a.length b.length with h | h | h
  · exact .inr (.inl (.inl h))
  · rcases lex_tot h with e | e | e
    · exact .inl e
    · exact .inr (.inl (.inr ⟨h, e⟩))
    · exact .inr (.inr (.inr ⟨h.symm, e⟩))
  · exact .inr (.inr (.inl h))
theorem subs_mem {n : Nat} {l : List Int} : l ∈ subsAll n ↔ ∃ b, b < 2 ^ n ∧ l = bitsL n b := by
  unfold subsAll
  rw [List.mem_flatMap]
  constructor
  · rintro ⟨k, _, hl⟩
    obtain ⟨h1, h2⟩ := bits_incs hl
    exact ⟨maskL l, h2, h1.symm⟩
  · rintro ⟨b, _, rfl⟩
    have h1 := bits_in n b
    have h2 := incs_inc (by omega : (0 : Int) ≤ (n : Int)) _ _ h1
    have := h2.2.1
    have := h2.2.2
    exact ⟨_, List.mem_range.2 (by omega), h1⟩
theorem subs_sorted (n : Nat) : (subsAll n).Pairwise befL := by
  unfold subsAll
  rw [List.pairwise_flatMap]
  refine ⟨fun k _ => ?_, ?_⟩
  · refine List.Pairwise.imp_of_mem (fun {a b} ha hb h => .inr ⟨?_, h⟩) (incs_lex n k)
    rw [incs_len_eq _ _ _ ha, incs_len_eq _ _ _ hb]
  · refine List.Pairwise.imp (fun {a b} h x hx y hy => .inl ?_) List.pairwise_lt_range
    rw [incs_len_eq _ _ _ hx, incs_len_eq _ _ _ hy]; exact h
/-- the best of those that are good -/
def BestL (n : Nat) (ok : List Int → Bool) (o : Option (List Int)) : Prop := match o with
  | none => ∀ b, b < 2 ^ n → ok (bitsL n b) = false
  | some l => ok l = true ∧ (∃ b, b < 2 ^ n ∧ l = bitsL n b) ∧ ∀ b, b < 2 ^ n → ok (bitsL n b) = true → ¬ befL (bitsL n b) l
theorem BestL.inj {n : Nat} {ok : List Int → Bool} {o o' : Option (List Int)} (h : BestL n ok o) (k : BestL n ok o') : o = o' := by
  cases o with
  | none =>
    cases o' with
    | none => rfl
    | some l =>
      obtain ⟨h1, ⟨b, hb, rfl⟩, _⟩ := k
      have := h b hb
      rw [h1] at this; cases this
  | some l =>
    obtain ⟨h1, ⟨b, hb, rfl⟩, h2⟩ := h
    cases o' with
    | none => have := k b hb; rw [h1] at this; cases this
    | some l' =>
      obtain ⟨k1, ⟨c, hc, rfl⟩, k2⟩ := k
      rcases befL_tot (bitsL n b) (bitsL n c) with e | e | e
      · rw [e]
      · exact absurd e (k2 b hb h1)
      · exact absurd e (h2 c hc k1)
theorem find_best (n : Nat) (ok : List Int → Bool) : BestL n ok ((subsAll n).find? ok) := by
  cases h : (subsAll n).find? ok with
  | none =>
    intro b hb
    rw [List.find?_eq_none] at h
    have := h _ (subs_mem.2 ⟨b, hb, rfl⟩)
    simpa using this
  | some l =>
    have h1 := List.find?_some h
    refine ⟨h1, subs_mem.1 (List.mem_of_find?_eq_some h), fun b hb hok hbef => ?_⟩
    obtain ⟨as, bs, e1, e2⟩ := (List.find?_eq_some_iff_append.1 h).2
    have hm : bitsL n b ∈ subsAll n := subs_mem.2 ⟨b, hb, rfl⟩
    have hs := subs_sorted n
    rw [e1] at hm hs
    rw [List.pairwise_append] at hs
    rcases List.mem_append.1 hm with hm | hm
    · have := e2 _ hm
      rw [hok] at this; cases this
    · rcases List.mem_cons.1 hm with hm | hm
      · rw [hm] at hbef; exact befL_irr _ hbef
      · have h3 := (List.pairwise_cons.1 hs.2.1).1 _ hm
        exact befL_irr _ (befL_trans hbef h3)
/-- the same one, if sets are tried by bits -/
def bestTo (n : Nat) (ok : List Int → Bool) (bef : List Int → List Int → Bool) : Nat → Option (List Int)
  | 0 => none
  | k + 1 => if ok (bitsL n k) && (match bestTo n ok bef k with | none => true | some b => bef (bitsL n k) b) then some (bitsL n k) else bestTo n ok bef k
theorem bestTo_spec {n : Nat} {ok : List Int → Bool} {bef : List Int → List Int → Bool} (hb : ∀ a b, bef a b = true ↔ befL a b) : ∀ k, match bestTo n ok bef k with
    | none => ∀ b, b < k → ok (bitsL n b) = false
    | some l => ok l = true ∧ (∃ b, b < k ∧ l = bitsL n b) ∧ ∀ b, b < k → ok (bitsL n b) = true → ¬ befL (bitsL n b) l
  | 0 => by simp [bestTo]
  | k + 1 => by
    have ih := bestTo_spec (n := n) (ok := ok) hb k
    unfold bestTo
    cases e : bestTo n ok bef k with
    | none =>
      rw [e] at ih
      simp only [Bool.and_true]
      by_cases ho : ok (bitsL n k) = true
      · rw [if_pos ho]
        refine ⟨ho, ⟨k, by omega, rfl⟩, fun b hbk hok => ?_⟩
        by_cases hlt : b < k
        · have := ih b hlt; rw [hok] at this; cases this
        · obtain rfl : b = k := by omega
          exact befL_irr _
      · rw [if_neg ho]
        intro b hbk
        by_cases hlt : b < k
        · exact ih b hlt
        · obtain rfl : b = k := by omega
          simpa using ho
    | some l =>
      rw [e] at ih
      obtain ⟨i1, ⟨c, hc, rfl⟩, i3⟩ := ih
      simp only
      by_cases ho : (ok (bitsL n k) && bef (bitsL n k) (bitsL n c)) = true
      · rw [if_pos ho]
        rw [Bool.and_eq_true, hb] at ho
        refine ⟨ho.1, ⟨k, by omega, rfl⟩, fun b hbk hok hbef => ?_⟩
        by_cases hlt : b < k
        · exact i3 b hlt hok (befL_trans hbef ho.2)
        · obtain rfl : b = k := by omega
          exact befL_irr _ hbef
      · rw [if_neg ho]
        refine ⟨i1, ⟨c, by omega, rfl⟩, fun b hbk hok hbef => ?_⟩
        by_cases hlt : b < k
        · exact i3 b hlt hok hbef
        · obtain rfl : b = k := by omega
          exact ho (by rw [Bool.and_eq_true, hb]; exact ⟨hok, hbef⟩)
theorem bestTo_find {n : Nat} {ok : List Int → Bool} {bef : List Int → List Int → Bool} (hb : ∀ a b, bef a b = true ↔ befL a b) : bestTo n ok bef (2 ^ n) = (subsAll n).find? ok := by
  refine BestL.inj (n := n) (ok := ok) ?_ (find_best n ok)
  have := bestTo_spec (n := n) (ok := ok) hb (2 ^ n)
  unfold BestL
  cases e : bestTo n ok bef (2 ^ n) <;> (rw [e] at this; exact this)
/-- the list that Wait returns -/
noncomputable def waitL (ks s : List Int) : Option (List Int) := (subsAll ks.length).find? fun l => !(leadsL ks (notIn l) s).isEmpty
/-- with more threads -/
theorem more_lv {ks kt : List Int} (hk : leS ks kt) : ∀ (m : Nat) (s : List Int), lv (nxS ks) m s = true → lv (nxS kt) m s = true
  | 0, _, _ => rfl
  | m + 1, s, h => by
    unfold lv at h ⊢
    obtain ⟨x, hx, hl⟩ := List.any_eq_true.1 h
    obtain ⟨hf, w, hw, rfl⟩ := nxS_mem.1 hx
    rw [List.any_eq_true]
    refine ⟨_, nxS_mem.2 ⟨fullP_false.2 fun i hi hp => ?_, w, by rw [← hk.1]; exact hw, rfl⟩, more_lv hk m _ hl⟩
    have := fullP_false.1 hf i (by rw [hk.1]; exact hi) hp
    have := hk.2 i
    omega
theorem more_safe {ks kt s : List Int} (hk : leS ks kt) (h : SafeP (nxS ks) s) : SafeP (nxS kt) s := fun m => more_lv hk m s (h m)
/-- a visit that leads to a safe state if all pull does so if fewer pull -/
theorem up_le (p : Nat → Bool) (s : List Int) : leS (upP p s) (upP allW s) := by
  refine ⟨by rw [upP_len, upP_len], fun i => ?_⟩
  by_cases hi : i < s.length
  · rw [upP_at p s i hi, upP_at allW s i hi]
    simp only [allW, if_true]
    split <;> omega
  · rw [List.getD_eq_getElem?_getD, List.getElem?_eq_none (by rw [upP_len]; omega), List.getD_eq_getElem?_getD, List.getElem?_eq_none (by rw [upP_len]; omega)]
    exact Int.le_refl _
theorem full_le {p : Nat → Bool} {ks s : List Int} (h : fullP allW ks s = false) : fullP p ks s = false := fullP_false.2 fun i hi _ => fullP_false.1 h i hi rfl
end Go.Proofs.Ytndgaklcnhoddaa
namespace Go.Proofs.Ytndgaklcnhoddaa
/-- behind the last element that can still grow -/
def growG (n m : Nat) (c : List Int) : Nat → Nat
  | 0 => 0
  | j + 1 => if c.getD j 0 = (n : Int) - m + j then growG n m c j else j + 1
def stepC (c : List Int) (i : Nat) : List Int := (List.range c.length).map fun (k : Nat) => if k < i then c.getD k 0 else c.getD i 0 + 1 + ((k : Int) - i)
def okSeq (n m : Nat) : List (List Int) → Bool
  | [] => false
  | [c] => growG n m c m == 0
  | c :: d :: r => growG n m c m != 0 && (d == stepC c (growG n m c m - 1) && okSeq n m (d :: r))
def baseC (m : Nat) : List Int := (List.range m).map fun (i : Nat) => (i : Int)
def okAll (n m : Nat) : Bool := okSeq n m (incs n m) && ((incs n m).head? == some (baseC m) && (incs n m).all fun c => c.length == m && c.all fun x => decide (0 ≤ x) && decide (x < (n : Int)))
set_option maxRecDepth 100000 in
theorem okAll_all : ∀ n, n < 6 → ∀ m, m < n + 1 → okAll n m = true := by decide +kernel
theorem okSeq_all {n : Nat} (hn : n ≤ 5) {m : Nat} (hm : m ≤ n) : okSeq n m (incs n m) = true ∧ (incs n m).head? = some (baseC m) ∧ ∀ c ∈ incs n m, c.length = m ∧ ∀ x ∈ c, 0 ≤ x ∧ x < (n : Int) := by
  have h := okAll_all n (by omega) m (by omega)
  unfold okAll at h
  rw [Bool.and_eq_true, Bool.and_eq_true, List.all_eq_true] at h
  refine ⟨h.1, eq_of_beq h.2.1, fun c hc => ?_⟩
  have := h.2.2 c hc
  rw [Bool.and_eq_true, List.all_eq_true] at this
  refine ⟨eq_of_beq this.1, fun x hx => ?_⟩
  have h3 := this.2 x hx
  rw [Bool.and_eq_true] at h3
  exact ⟨of_decide_eq_true h3.1, of_decide_eq_true h3.2⟩
theorem okSeq_at {n m : Nat} {c : List Int} : ∀ {pre rest : List (List Int)}, okSeq n m (pre ++ c :: rest) = true →
    (growG n m c m = 0 → rest = []) ∧ (growG n m c m ≠ 0 → ∃ r, rest = stepC c (growG n m c m - 1) :: r)
  | [], [], h => by
    simp only [List.nil_append, okSeq, beq_iff_eq] at h
    exact ⟨fun _ => rfl, fun h2 => absurd h h2⟩
  | [], d :: r, h => by
    simp only [List.nil_append, okSeq, Bool.and_eq_true, bne_iff_ne, beq_iff_eq] at h
    exact ⟨fun h2 => absurd h2 h.1, fun _ => ⟨r, by rw [h.2.1]⟩⟩
  | a :: pre, rest, h => by
    refine okSeq_at (pre := pre) (rest := rest) ?_
    cases pre with
    | nil =>
      simp only [List.cons_append, List.nil_append, okSeq, Bool.and_eq_true] at h ⊢
      exact h.2.2
    | cons b p =>
      simp only [List.cons_append, okSeq, Bool.and_eq_true] at h ⊢
      exact h.2.2
/-- the lists of fewer elements -/
def flatK (n m : Nat) : List (List Int) := (List.range m).flatMap fun k => incs n k
theorem flatK_succ (n m : Nat) : flatK n (m + 1) = flatK n m ++ incs n m := by unfold flatK; rw [List.range_succ, List.flatMap_append]; simp
theorem flatK_all (n : Nat) : subsAll n = flatK n (n + 1) := rfl
theorem flatK_pre {n : Nat} : ∀ (d m : Nat), m + d = n + 1 → ∃ r, subsAll n = flatK n m ++ r
  | 0, m, h => ⟨[], by rw [flatK_all, show m = n + 1 by omega]; simp⟩
  | d + 1, m, h => by
    obtain ⟨r, hr⟩ := flatK_pre (n := n) d (m + 1) (by omega)
    exact ⟨incs n m ++ r, by rw [hr, flatK_succ, List.append_assoc]⟩
theorem idx_at {α : Type} [BEq α] [LawfulBEq α] {c : α} {rest : List α} : ∀ {pre : List α}, (pre ++ c :: rest).Nodup → (pre ++ c :: rest).idxOf c = pre.length
  | [], _ => by simp
  | a :: pre, h => by
    rw [List.cons_append, List.nodup_cons] at h
    have hne : a ≠ c := fun e => h.1 (by simp [e])
    rw [List.cons_append, List.idxOf_cons, idx_at h.2, show (a == c) = false by simpa using hne]
    rfl
theorem growG_le (n m : Nat) (c : List Int) : ∀ j, growG n m c j ≤ j
  | 0 => Nat.le_refl _
  | j + 1 => by
    unfold growG
    split
    · have := growG_le n m c j; omega
    · exact Nat.le_refl _
end Go.Proofs.Ytndgaklcnhoddaa
namespace Go.Proofs.Ytndgaklcnhoddaa
/-- the numbers of the states to which a state leads -/
def nxN (ks : List Int) (i : Int) : List Int := (nxS ks (stOf ks i)).map (numS ks)
noncomputable def rkN (ks : List Int) (i : Int) : Int := rowOf (nxS ks) (stOf ks i)
/-- what is known is right -/
def RowsOk (ks : List Int) (rows : Int → Int) : Prop := ∀ i, 0 ≤ i → i < prodK ks → rows i = -1 ∨ (0 ≤ rows i ∧ Rk (nxS ks) (stOf ks i) (rows i).toNat)
/-- the most turns, if this is known of all to which it leads -/
def bndL (rows : Int → Int) : Int → List Int → Option Int
  | n, [] => some n
  | n, x :: l => if rows x < 0 then none else bndL rows (max n (rows x + 1)) l
theorem bndL_none {rows : Int → Int} : ∀ {l : List Int} {n : Int}, bndL rows n l = none ↔ ∃ x ∈ l, rows x < 0
  | [], n => by simp [bndL]
  | x :: l, n => by
    unfold bndL
    by_cases h : rows x < 0
    · rw [if_pos h]; simp [h]
    · rw [if_neg h, bndL_none]
      simp [h]
theorem bndL_some {rows : Int → Int} : ∀ {l : List Int} {n m : Int}, bndL rows n l = some m → (∀ x ∈ l, 0 ≤ rows x) ∧ m = max n ((topR (fun x => (rows x).toNat) l : Nat) : Int) ∨ (l = [] ∧ m = n)
  | [], n, m, h => by cases h; exact .inr ⟨rfl, rfl⟩
  | x :: l, n, m, h => by
    unfold bndL at h
    by_cases hx : rows x < 0
    · rw [if_pos hx] at h; cases h
    rw [if_neg hx] at h
    left
    rcases bndL_some h with ⟨h1, h2⟩ | ⟨h1, h2⟩
    · refine ⟨fun y hy => ?_, ?_⟩
      · rcases List.mem_cons.1 hy with hy | hy
        · subst hy; omega
        · exact h1 y hy
      · rw [h2, topR]; omega
    · subst h1
      refine ⟨fun y hy => ?_, ?_⟩
      · simp at hy; subst hy; omega
      · rw [h2, topR, topR]; omega
theorem bnd_rk {ks : List Int} (v : TVal ks) {rows : Int → Int} (h : RowsOk ks rows) {i : Int} {m : Int} (e : bndL rows 0 (nxN ks i) = some m) : 0 ≤ m ∧ Rk (nxS ks) (stOf ks i) m.toNat := by
  have hst := st_st v.nn (n := i)
  have key : ∀ l : List (List Int), (∀ x ∈ l, isSt ks x = true) → (∀ x ∈ l.map (numS ks), 0 ≤ rows x) → (∀ x ∈ l, Rk (nxS ks) x (rows (numS ks x)).toNat) ∧ topR (fun x => (rows x).toNat) (l.map (numS ks)) = topR (fun x => (rows (numS ks x)).toNat) l := by
    intro l hl hr
    refine ⟨fun x hx => ?_, ?_⟩
    · have hb := numS_bd v.nn (hl x hx)
      have h0 := hr _ (List.mem_map.2 ⟨x, hx, rfl⟩)
      rcases h _ hb.1 hb.2 with h1 | ⟨_, h1⟩
      · omega
      · rwa [st_num v.nn (hl x hx)] at h1
    · clear hl hr
      induction l with
      | nil => rfl
      | cons a l ih => rw [List.map_cons, topR, topR, ih]
  rcases bndL_some e with ⟨h1, h2⟩ | ⟨h1, h2⟩
  · obtain ⟨k1, k2⟩ := key (nxS ks (stOf ks i)) (nxS_st v hst) h1
    have hk := rk_of (nx := nxS ks) (i := stOf ks i) k1
    unfold nxN at h2
    rw [k2] at h2
    rw [h2]
    refine ⟨by omega, ?_⟩
    rw [show (max (0 : Int) ((topR (fun x => (rows (numS ks x)).toNat) (nxS ks (stOf ks i)) : Nat) : Int)).toNat = topR (fun x => (rows (numS ks x)).toNat) (nxS ks (stOf ks i)) by omega]
    exact hk
  · have : nxS ks (stOf ks i) = [] := by unfold nxN at h1; simpa using h1
    subst h2
    refine ⟨Int.le_refl _, rfl, ?_⟩
    show (nxS ks (stOf ks i)).any _ = false
    rw [this]; rfl
/-- what is never found never ends -/
theorem rest_safe {ks : List Int} (v : TVal ks) {rows : Int → Int} (hn : ∀ i, 0 ≤ i → i < prodK ks → rows i < 0 → bndL rows 0 (nxN ks i) = none) : ∀ i, 0 ≤ i → i < prodK ks → rows i < 0 → SafeP (nxS ks) (stOf ks i) := by
  have hs : ∀ s, (isSt ks s = true ∧ rows (numS ks s) < 0) → SafeP (nxS ks) s := safe_of fun s ⟨h1, h2⟩ => by
    have hb := numS_bd v.nn h1
    have := hn _ hb.1 hb.2 h2
    rw [bndL_none] at this
    obtain ⟨x, hx, hr⟩ := this
    unfold nxN at hx
    rw [st_num v.nn h1] at hx
    obtain ⟨y, hy, rfl⟩ := List.mem_map.1 hx
    exact ⟨y, hy, nxS_st v h1 y hy, hr⟩
  intro i h0 h1 hr
  exact hs _ ⟨st_st v.nn, by rw [num_st v.nn h0 h1]; exact hr⟩
theorem rows_all {ks : List Int} (v : TVal ks) {rows : Int → Int} (h : RowsOk ks rows) (hn : ∀ i, 0 ≤ i → i < prodK ks → rows i < 0 → bndL rows 0 (nxN ks i) = none) : ∀ i, 0 ≤ i → i < prodK ks → rows i = rkN ks i := by
  intro i h0 h1
  unfold rkN
  rcases h i h0 h1 with e | ⟨e, hk⟩
  · rw [rowOf_safe (rest_safe v hn i h0 h1 (by omega)), e]
  · rw [rowOf_rk hk]; omega
theorem rows_bd {ks : List Int} (v : TVal ks) {rows : Int → Int} (h : RowsOk ks rows) {i : Int} (h0 : 0 ≤ i) (h1 : i < prodK ks) : -1 ≤ rows i ∧ rows i < 1000 := by
  rcases h i h0 h1 with e | ⟨e, hk⟩
  · omega
  · have := rk_lt v (st_st v.nn) hk
    have := v.pr
    omega
theorem rkN_bd {ks : List Int} (v : TVal ks) (i : Int) : -1 ≤ rkN ks i ∧ rkN ks i < 1000 := by
  unfold rkN
  rcases rowOf_cases (nxS ks) (stOf ks i) with ⟨e, _⟩ | ⟨r, e, hr⟩
  · rw [e]; omega
  · have := rk_lt v (st_st v.nn) hr
    have := v.pr
    rw [e]; omega
/-- what is known is one more -/
theorem RowsOk.set {ks : List Int} (v : TVal ks) {rows : Int → Int} (h : RowsOk ks rows) {i m : Int} (e : bndL rows 0 (nxN ks i) = some m) : RowsOk ks (fun x => if x = i then m else rows x) := by
  intro x h0 h1
  by_cases hx : x = i
  · subst hx
    obtain ⟨a, b⟩ := bnd_rk v h e
    simp only [if_true]
    exact .inr ⟨a, b⟩
  · simp only [if_neg hx]; exact h x h0 h1
theorem rowsOk_start (ks : List Int) : RowsOk ks (fun _ => -1) := fun _ _ _ => .inl rfl
end Go.Proofs.Ytndgaklcnhoddaa
namespace Go.Proofs.Ytndgaklcnhoddaa
/-- two names are exchanged -/
def tr (a b i : Nat) : Nat := if i = a then b else if i = b then a else i
theorem tr_tr (a b i : Nat) : tr a b (tr a b i) = i := by unfold tr; split <;> (repeat (split <;> try omega)) <;> omega
theorem tr_lt {a b i n : Nat} (ha : a < n) (hb : b < n) (hi : i < n) : tr a b i < n := by unfold tr; split; exact hb; split; exact ha; exact hi
def sw (a b : Nat) (l : List Int) : List Int := (l.set a (l.getD b 0)).set b (l.getD a 0)
theorem sw_len (a b : Nat) (l : List Int) : (sw a b l).length = l.length := by simp [sw]
theorem set_at (l : List Int) (a i : Nat) (x : Int) (ha : a < l.length) : (l.set a x).getD i 0 = if i = a then x else l.getD i 0 := by
  rw [List.getD_eq_getElem?_getD, List.getD_eq_getElem?_getD, List.getElem?_set]
  by_cases e : a = i
  · subst e; simp [ha]
  · rw [if_neg e, if_neg (fun h => e h.symm)]
theorem sw_at {a b : Nat} {l : List Int} (ha : a < l.length) (hb : b < l.length) (i : Nat) : (sw a b l).getD i 0 = l.getD (tr a b i) 0 := by
  unfold sw tr
  rw [set_at _ _ _ _ (by simpa using hb), set_at _ _ _ _ ha]
  by_cases h1 : i = b
  · subst h1
    rw [if_pos rfl]
    by_cases h2 : i = a
    · subst h2; simp
    · rw [if_neg h2, if_pos rfl]
  · rw [if_neg h1]
    by_cases h2 : i = a
    · rw [if_pos h2, if_pos h2]
    · rw [if_neg h2, if_neg h2, if_neg h1]
theorem sw_sw {a b : Nat} {l : List Int} (ha : a < l.length) (hb : b < l.length) : sw a b (sw a b l) = l := by
  apply getD_ext (by rw [sw_len, sw_len])
  intro i hi
  rw [sw_at (by rw [sw_len]; exact ha) (by rw [sw_len]; exact hb), sw_at ha hb, tr_tr]
theorem sw_full {a b : Nat} {ks s : List Int} (ha : a < ks.length) (hb : b < ks.length) (hl : s.length = ks.length) : fullP allW (sw a b ks) (sw a b s) = fullP allW ks s := by
  have key : ∀ {ks s : List Int}, a < ks.length → b < ks.length → s.length = ks.length → fullP allW ks s = false → fullP allW (sw a b ks) (sw a b s) = false := fun {ks s} ha hb hl h =>
    fullP_false.2 fun i hi _ => by
      rw [sw_at ha hb, sw_at (by omega) (by omega)]
      rw [sw_len] at hi
      exact fullP_false.1 h _ (tr_lt ha hb hi) rfl
  cases h : fullP allW ks s with
  | false => exact key ha hb hl h
  | true =>
    cases h2 : fullP allW (sw a b ks) (sw a b s) with
    | true => rfl
    | false =>
      have := key (ks := sw a b ks) (s := sw a b s) (by rw [sw_len]; exact ha) (by rw [sw_len]; exact hb) (by rw [sw_len, sw_len, hl]) h2
      rw [sw_sw ha hb, sw_sw (by omega) (by omega), h] at this
      cases this
theorem sw_up {a b : Nat} {s : List Int} (ha : a < s.length) (hb : b < s.length) : upP allW (sw a b s) = sw a b (upP allW s) := by
  apply getD_ext (by rw [upP_len, sw_len, sw_len, upP_len])
  intro i hi
  rw [upP_len, sw_len] at hi
  rw [upP_at _ _ _ (by rw [sw_len]; exact hi), sw_at ha hb, sw_at (by rw [upP_len]; exact ha) (by rw [upP_len]; exact hb), upP_at _ _ _ (tr_lt ha hb hi)]
  rfl
theorem sw_visit {a b : Nat} {x : List Int} (ha : a < x.length) (hb : b < x.length) (w : Nat) : visit (sw a b x) w = sw a b (visit x (tr a b w)) := by
  apply getD_ext (by rw [visit_len, sw_len, sw_len, visit_len])
  intro i hi
  rw [visit_at, sw_at ha hb, sw_at (by rw [visit_len]; exact ha) (by rw [visit_len]; exact hb), visit_at]
  by_cases e : i = w
  · subst e; simp
  · rw [if_neg e, if_neg]
    intro h
    have := congrArg (tr a b) h
    rw [tr_tr, tr_tr] at this
    exact e this
theorem sw_nx {a b : Nat} {ks s : List Int} (ha : a < ks.length) (hb : b < ks.length) (hl : s.length = ks.length) (y : List Int) : y ∈ nxS (sw a b ks) (sw a b s) ↔ ∃ x ∈ nxS ks s, y = sw a b x := by
  rw [nxS_mem, sw_full ha hb hl, sw_up (by omega) (by omega), sw_len]
  constructor
  · rintro ⟨hf, w, hw, rfl⟩
    exact ⟨_, nxS_mem.2 ⟨hf, tr a b w, tr_lt ha hb hw, rfl⟩, sw_visit (by rw [upP_len]; omega) (by rw [upP_len]; omega) w⟩
  · rintro ⟨x, hx, rfl⟩
    obtain ⟨hf, w, hw, rfl⟩ := nxS_mem.1 hx
    refine ⟨hf, tr a b w, tr_lt ha hb hw, ?_⟩
    rw [sw_visit (by rw [upP_len]; omega) (by rw [upP_len]; omega), tr_tr]
section
variable {α β : Type} {nx : α → List α} {ny : β → List β} {f : α → β} {P : α → Prop}
/-- a graph that is drawn anew -/
theorem lv_map (hP : ∀ i, P i → ∀ x ∈ nx i, P x) (hf : ∀ i, P i → ∀ y, y ∈ ny (f i) ↔ ∃ x ∈ nx i, y = f x) : ∀ (m : Nat) (i : α), P i → lv ny m (f i) = lv nx m i
  | 0, i, h => rfl
  | m + 1, i, h => by
    unfold lv
    rw [Bool.eq_iff_iff, List.any_eq_true, List.any_eq_true]
    constructor
    · rintro ⟨y, hy, hl⟩
      obtain ⟨x, hx, rfl⟩ := (hf i h y).1 hy
      rw [lv_map hP hf m x (hP i h x hx)] at hl
      exact ⟨x, hx, hl⟩
    · rintro ⟨x, hx, hl⟩
      refine ⟨f x, (hf i h _).2 ⟨x, hx, rfl⟩, ?_⟩
      rw [lv_map hP hf m x (hP i h x hx)]
      exact hl
theorem safe_map (hP : ∀ i, P i → ∀ x ∈ nx i, P x) (hf : ∀ i, P i → ∀ y, y ∈ ny (f i) ↔ ∃ x ∈ nx i, y = f x) {i : α} (h : P i) : SafeP ny (f i) ↔ SafeP nx i :=
  forall_congr' fun m => by rw [lv_map hP hf m i h]
theorem rowOf_map (hP : ∀ i, P i → ∀ x ∈ nx i, P x) (hf : ∀ i, P i → ∀ y, y ∈ ny (f i) ↔ ∃ x ∈ nx i, y = f x) {i : α} (h : P i) : rowOf ny (f i) = rowOf nx i := by
  rcases rowOf_cases nx i with ⟨e, hs⟩ | ⟨r, e, hr⟩
  · rw [e, rowOf_safe ((safe_map hP hf h).2 hs)]
  · rw [e]
    refine rowOf_rk ⟨?_, ?_⟩
    · rw [lv_map hP hf _ i h]; exact hr.1
    · rw [lv_map hP hf _ i h]; exact hr.2
theorem wlk_map (hP : ∀ i, P i → ∀ x ∈ nx i, P x) (hf : ∀ i, P i → ∀ y, y ∈ ny (f i) ↔ ∃ x ∈ nx i, y = f x) : ∀ {m : Nat} {i j : α}, P i → Wlk nx m i j → Wlk ny m (f i) (f j)
  | 0, _, _, _, h => by cases h; rfl
  | m + 1, i, j, hi, ⟨x, hx, h⟩ => ⟨f x, (hf i hi _).2 ⟨x, hx, rfl⟩, wlk_map hP hf (hP i hi x hx) h⟩
end
theorem nxS_len {ks s : List Int} (h : s.length = ks.length) : ∀ x ∈ nxS ks s, x.length = ks.length := fun x hx => by
  obtain ⟨_, w, _, rfl⟩ := nxS_mem.1 hx
  rw [visit_len, upP_len, h]
section
variable {a b : Nat} {ks : List Int} (ha : a < ks.length) (hb : b < ks.length)
include ha hb
theorem sw_rowOf {s : List Int} (hl : s.length = ks.length) : rowOf (nxS (sw a b ks)) (sw a b s) = rowOf (nxS ks) s :=
  rowOf_map (P := fun s => s.length = ks.length) (fun _ h x hx => nxS_len h x hx) (fun _ h y => sw_nx ha hb h y) hl
theorem sw_isSt {s : List Int} (h : isSt ks s = true) : isSt (sw a b ks) (sw a b s) = true := by
  have hl := isSt_len h
  refine isSt_of (by rw [sw_len, sw_len, hl]) fun i hi => ?_
  rw [sw_len] at hi
  rw [sw_at (by omega) (by omega), sw_at ha hb]
  exact isSt_at h _ (tr_lt ha hb hi)
theorem sw_short {m : Nat} (h : IsShort ks m) : IsShort (sw a b ks) m := by
  obtain ⟨h1, ⟨t, ht, hw⟩, h3⟩ := h
  have key : ∀ {ks : List Int}, a < ks.length → b < ks.length → ∀ {k : Nat} {t : List Int}, isSt ks t = true → Wlk (nxS ks) k t t → Wlk (nxS (sw a b ks)) k (sw a b t) (sw a b t) := fun {ks} ha hb {k t} ht hw =>
    wlk_map (P := fun s => s.length = ks.length) (fun i h x hx => nxS_len h x hx) (fun i h y => sw_nx ha hb h y) (isSt_len ht) hw
  refine ⟨h1, ⟨sw a b t, sw_isSt ha hb ht, key ha hb ht hw⟩, fun t k ht hk hw => ?_⟩
  have h4 := key (ks := sw a b ks) (by rw [sw_len]; exact ha) (by rw [sw_len]; exact hb) ht hw
  have h5 : isSt ks (sw a b t) = true := by
    have := sw_isSt (ks := sw a b ks) (by rw [sw_len]; exact ha) (by rw [sw_len]; exact hb) ht
    rwa [sw_sw ha hb] at this
  rw [sw_sw ha hb] at h4
  exact h3 _ k h5 hk h4
theorem sw_zero : sw a b (zeroS ks) = zeroS (sw a b ks) := by
  apply getD_ext (by rw [sw_len, zeroS_len, zeroS_len, sw_len])
  intro i _
  rw [sw_at (by rw [zeroS_len]; exact ha) (by rw [zeroS_len]; exact hb), zeroS_at, zeroS_at]
end
theorem sw_prod_aux : ∀ (l : List Int) (a : Nat) (x : Int), a < l.length → prodK (l.set a x) * (l.getD a 0 + 1) = prodK l * (x + 1)
  | k :: l, 0, x, _ => by simp [prodK]; rw [Int.mul_right_comm, Int.mul_comm (x + 1), Int.mul_assoc, Int.mul_assoc, Int.mul_comm (x + 1)]
  | k :: l, a + 1, x, h => by
    have := sw_prod_aux l a x (by simpa using h)
    simp only [List.set_cons_succ, prodK, List.getD_cons_succ]
    rw [Int.mul_assoc, this, Int.mul_assoc]
theorem sw_valid {a b : Nat} {ks : List Int} (v : TVal ks) (ha : a < ks.length) (hb : b < ks.length) : TVal (sw a b ks) := by
  refine ⟨by rw [sw_len]; exact v.n1, by rw [sw_len]; exact v.n5, fun k hk => ?_, ?_⟩
  · obtain ⟨i, hi, rfl⟩ := List.getElem_of_mem hk
    have : (sw a b ks)[i] = (sw a b ks).getD i 0 := by rw [List.getD_eq_getElem?_getD, List.getElem?_eq_getElem hi]; rfl
    rw [this, sw_at ha hb]
    exact v.at_ _ (tr_lt ha hb (by rwa [sw_len] at hi))
  · have e : prodK (sw a b ks) = prodK ks := by
      have h1 := sw_prod_aux (ks.set a (ks.getD b 0)) b (ks.getD a 0) (by simpa using hb)
      have h2 := sw_prod_aux ks a (ks.getD b 0) ha
      have hpa := v.at_ a ha
      have hpb := v.at_ b hb
      have e1 : (ks.set a (ks.getD b 0)).getD b 0 = ks.getD b 0 := by
        rw [set_at _ _ _ _ ha]
        split
        · rfl
        · rfl
      rw [e1] at h1
      have h3 : prodK (sw a b ks) * (ks.getD b 0 + 1) = prodK ks * (ks.getD b 0 + 1) := by
        show prodK ((ks.set a (ks.getD b 0)).set b (ks.getD a 0)) * _ = _
        rw [h1, h2]
      exact Int.eq_of_mul_eq_mul_right (by omega) h3
    rw [e]; exact v.pr
end Go.Proofs.Ytndgaklcnhoddaa
namespace Go.Proofs.Ytndgaklcnhoddaa
/-- how a state was found: the visits from the start on -/
inductive Chain (ks : List Int) (bf : Int → Int) (st : Int) : Nat → Int → List Int → Prop
  | one {y : Int} {w : Nat} : bf y = 1 + st * 5 + w → w < ks.length → (nxN ks st)[w]? = some y → Chain ks bf st 1 y [(w : Int)]
  | more {k : Nat} {y z : Int} {w : Nat} {row : List Int} : Chain ks bf st k z row → z ≠ st → 0 ≤ z → bf y = 1 + z * 5 + w → w < ks.length → (nxN ks z)[w]? = some y → Chain ks bf st (k + 1) y (row ++ [(w : Int)])
def setB (bf : Int → Int) (y v : Int) : Int → Int := fun x => if x = y then v else bf x
theorem Chain.len {ks : List Int} {bf : Int → Int} {st : Int} {k : Nat} {y : Int} {row : List Int} (h : Chain ks bf st k y row) : row.length = k := by
  induction h with
  | one => rfl
  | more _ _ _ _ _ _ ih => simp [ih]
theorem Chain.pos {ks : List Int} {bf : Int → Int} {st : Int} {k : Nat} {y : Int} {row : List Int} (h : Chain ks bf st k y row) : 1 ≤ k := by
  cases h <;> omega
theorem Chain.win {ks : List Int} {bf : Int → Int} {st : Int} {k : Nat} {y : Int} {row : List Int} (h : Chain ks bf st k y row) : WinL ks row := by
  induction h with
  | one _ h2 _ => intro x hx; simp at hx; subst hx; omega
  | more _ _ _ _ h2 _ ih =>
    intro x hx
    rcases List.mem_append.1 hx with hx | hx
    · exact ih x hx
    · simp at hx; subst hx; omega
/-- what was found later does not turn it -/
theorem Chain.keep {ks : List Int} {bf : Int → Int} {st : Int} (h0 : 0 ≤ st) {k : Nat} {y : Int} {row : List Int} (h : Chain ks bf st k y row) {u v : Int} (hu : bf u = 0) : Chain ks (setB bf u v) st k y row := by
  induction h with
  | @one y w h1 h2 h3 =>
    refine .one ?_ h2 h3
    unfold setB
    rw [if_neg (fun e => by rw [e, hu] at h1; omega)]
    exact h1
  | @more k y z w row h1 hz hz0 h2 h3 h4 ih =>
    refine .more ih hz hz0 ?_ h3 h4
    unfold setB
    rw [if_neg (fun e => by rw [e, hu] at h2; omega)]
    exact h2
theorem nxN_at {ks : List Int} {i : Int} {w : Nat} {y : Int} (h : (nxN ks i)[w]? = some y) : fullP allW ks (stOf ks i) = false ∧ w < ks.length ∧ y = numS ks (visit (upP allW (stOf ks i)) w) := by
  unfold nxN nxS at h
  cases hf : fullP allW ks (stOf ks i) with
  | true => rw [hf] at h; simp at h
  | false =>
    rw [hf, if_neg (by simp)] at h
    simp only [List.getElem?_map, List.map_map] at h
    by_cases hw : w < ks.length
    · rw [List.getElem?_range hw] at h
      exact ⟨rfl, hw, by simpa using h.symm⟩
    · rw [List.getElem?_eq_none (by simpa using hw)] at h; cases h
theorem nxN_bd {ks : List Int} (v : TVal ks) {i x : Int} (h : x ∈ nxN ks i) : 0 ≤ x ∧ x < prodK ks := by
  unfold nxN at h
  obtain ⟨y, hy, rfl⟩ := List.mem_map.1 h
  exact numS_bd v.nn (nxS_st v (st_st v.nn) y hy)
/-- the visits lead there -/
theorem Chain.play {ks : List Int} (v : TVal ks) {bf : Int → Int} {st : Int} {k : Nat} {y : Int} {row : List Int} (h : Chain ks bf st k y row) : ∀ a, playP ks a (stOf ks st) row = (some (stOf ks y), a + k) := by
  have app : ∀ (l m : List Int) (a : Nat) (s t : List Int) (b : Nat), playP ks a s l = (some t, b) → playP ks a s (l ++ m) = playP ks b t m := by
    intro l
    induction l with
    | nil => intro m a s t b e; cases e; rfl
    | cons w l ih =>
      intro m a s t b e
      rw [List.cons_append, playP] at *
      split at e
      · cases e
      · rename_i hf
        rw [if_neg hf]
        exact ih m _ _ _ _ e
  induction h with
  | @one y w h1 h2 h3 =>
    intro a
    obtain ⟨hf, hw, rfl⟩ := nxN_at h3
    have hst : isSt ks (visit (upP allW (stOf ks st)) w) = true := nxS_st v (st_st v.nn) _ (nxS_mem.2 ⟨hf, w, hw, rfl⟩)
    rw [playP, hf, if_neg (by simp), Int.toNat_natCast, st_num v.nn hst]
    rfl
  | @more k y z w row h1 hz hz0 h2 h3 h4 ih =>
    intro a
    obtain ⟨hf, hw, rfl⟩ := nxN_at h4
    have hst : isSt ks (visit (upP allW (stOf ks z)) w) = true := nxS_st v (st_st v.nn) _ (nxS_mem.2 ⟨hf, w, hw, rfl⟩)
    rw [app _ _ _ _ _ _ (ih a), playP, hf, if_neg (by simp), Int.toNat_natCast, st_num v.nn hst]
    rfl
/-- ways by numbers -/
theorem wlk_num {ks : List Int} (v : TVal ks) {m : Nat} {i j : Int} (hi : 0 ≤ i) (hi2 : i < prodK ks) (h : Wlk (nxN ks) m i j) : Wlk (nxS ks) m (stOf ks i) (stOf ks j) :=
  wlk_map (nx := nxN ks) (ny := nxS ks) (f := stOf ks) (P := fun i => 0 ≤ i ∧ i < prodK ks) (fun i _ x hx => nxN_bd v hx) (fun i _ y => by
    unfold nxN
    constructor
    · intro hy
      exact ⟨_, List.mem_map.2 ⟨y, hy, rfl⟩, (st_num v.nn (nxS_st v (st_st v.nn) y hy)).symm⟩
    · rintro ⟨x, hx, rfl⟩
      obtain ⟨z, hz, rfl⟩ := List.mem_map.1 hx
      rw [st_num v.nn (nxS_st v (st_st v.nn) z hz)]
      exact hz) ⟨hi, hi2⟩ h
theorem wlk_st2 {ks : List Int} (v : TVal ks) {m : Nat} {s t : List Int} (hs : isSt ks s = true) (h : Wlk (nxS ks) m s t) : Wlk (nxN ks) m (numS ks s) (numS ks t) :=
  wlk_map (nx := nxS ks) (ny := nxN ks) (f := numS ks) (P := fun s => isSt ks s = true) (fun i hi x hx => nxS_st v hi x hx) (fun s hs y => by
    unfold nxN
    rw [st_num v.nn hs, List.mem_map]
    exact ⟨fun ⟨x, hx, e⟩ => ⟨x, hx, e.symm⟩, fun ⟨x, hx, e⟩ => ⟨x, hx, e.symm⟩⟩) hs h
/-- the shortest of all, by numbers -/
theorem short_num {ks : List Int} (v : TVal ks) {m : Nat} (h1 : 1 ≤ m) {i : Int} (hi : 0 ≤ i) (hi2 : i < prodK ks) (hw : Wlk (nxN ks) m i i) (hm : ∀ j k, 0 ≤ j → j < prodK ks → 1 ≤ k → Wlk (nxN ks) k j j → m ≤ k) : IsShort ks m :=
  ⟨h1, ⟨stOf ks i, st_st v.nn, wlk_num v hi hi2 hw⟩, fun t k ht hk hw' => by
    have hb := numS_bd v.nn ht
    exact hm _ k hb.1 hb.2 hk (wlk_st2 v ht hw')⟩
end Go.Proofs.Ytndgaklcnhoddaa
