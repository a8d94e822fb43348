/-
  Plain: sums of states in a turn.
-/
import Derived.Test.YtndgaklcnhoddaaRefP
namespace Go.Proofs.Ytndgaklcnhoddaa
theorem set_sum : ∀ (l : List Int) (i : Nat) (x : Int), i < l.length → (l.set i x).sum = l.sum - l.getD i 0 + x
  | [], i, x, h => by simp at h
  | a :: l, 0, x, _ => by simp; omega
  | a :: l, i + 1, x, h => by
    have := set_sum l i x (by simpa using h)
    simp only [List.set_cons_succ, List.sum_cons, List.getD_cons_succ, this]
    omega
theorem visit_sum {s : List Int} {w : Nat} (h : w < s.length) : (visit s w).sum = s.sum - s.getD w 0 := by
  unfold visit
  rw [set_sum s w 0 h]; omega
theorem mapIdx_sum (f : Nat → Int → Int) (s : List Int) : (s.mapIdx f).sum = ((List.range s.length).map fun i => f i (s.getD i 0)).sum := by
  congr 1
  refine List.ext_getElem? fun i => ?_
  rw [List.getElem?_mapIdx, List.getElem?_map]
  by_cases h : i < s.length
  · rw [List.getElem?_range h, List.getElem?_eq_getElem h]
    simp [h]
  · rw [List.getElem?_eq_none (by omega), List.getElem?_eq_none (by simp; omega)]; rfl
theorem sum_add (f g : Nat → Int) : ∀ l : List Nat, (l.map fun i => f i + g i).sum = (l.map f).sum + (l.map g).sum
  | [] => rfl
  | a :: l => by
    rw [List.map_cons, List.sum_cons, sum_add f g l, List.map_cons, List.map_cons, List.sum_cons, List.sum_cons]
    omega
theorem range_sum (s : List Int) : ((List.range s.length).map fun i => s.getD i 0).sum = s.sum := by
  have := mapIdx_sum (fun _ x => x) s
  rw [← this]
  congr 1
  exact List.ext_getElem? fun i => by rw [List.getElem?_mapIdx]; cases s[i]? <;> rfl
theorem upP_sum (p : Nat → Bool) (s : List Int) : (upP p s).sum = s.sum + ((List.range s.length).filter p).length := by
  unfold upP
  rw [mapIdx_sum]
  have e1 : (fun i => if p i = true then s.getD i 0 + 1 else s.getD i 0) = fun i => s.getD i 0 + (if p i = true then (1 : Int) else 0) := by
    funext i
    split <;> omega
  have e2 := sum_add (fun i => s.getD i 0) (fun i => if p i = true then (1 : Int) else 0) (List.range s.length)
  have e3 : ∀ l : List Nat, (l.map fun i => if p i = true then (1 : Int) else 0).sum = ((l.filter p).length : Int) := fun l => by
    induction l with
    | nil => rfl
    | cons a l ih =>
      rw [List.map_cons, List.sum_cons, ih, List.filter_cons]
      cases p a
      · simp
      · simp; omega
  rw [e1, e2, range_sum, e3]
theorem turn_sum {s : List Int} {n b w : Nat} (hl : s.length = n) (hw : w < n) : (visit (upP (fun i => (bitsL n b).contains (i : Int)) s) w).sum = s.sum + (bitsL n b).length - (upP (fun i => (bitsL n b).contains (i : Int)) s).getD w 0 := by
  rw [visit_sum (by rw [upP_len]; omega), upP_sum, hl]
  have e : ((List.range n).filter fun (i : Nat) => (bitsL n b).contains (i : Int)).length = (bitsL n b).length := by
    unfold bitsL
    rw [List.length_map]
    congr 1
    refine List.filter_congr fun i hi => ?_
    have hi2 := List.mem_range.1 hi
    have := bits_mem (n := n) (b := b) (x := (i : Int))
    rw [Bool.eq_iff_iff, List.contains_iff_mem]
    have h2 : ((i : Int) ∈ ((List.range n).filter fun i => b.testBit i).map fun (i : Nat) => (i : Int)) ↔ ((i : Int) ∈ bitsL n b) := Iff.rfl
    rw [h2, this]
    simp; omega
  rw [e]
theorem take_sum {s : List Int} {k : Nat} (h : k < s.length) : (s.take (k + 1)).sum = (s.take k).sum + s.getD k 0 := by
  rw [List.take_add_one, List.getElem?_eq_getElem h, List.sum_append]
  simp [List.getD_eq_getElem?_getD, List.getElem?_eq_getElem h]
theorem sum_bd : ∀ (s : List Int) (c : Int), 0 ≤ c → (∀ x ∈ s, 0 ≤ x ∧ x ≤ c) → 0 ≤ s.sum ∧ s.sum ≤ s.length * c
  | [], c, _, _ => by simp
  | a :: s, c, hc, h => by
    have h1 := sum_bd s c hc fun x hx => h x (by simp [hx])
    have h2 := h a (by simp)
    rw [List.sum_cons, List.length_cons]
    refine ⟨by omega, ?_⟩
    have : (((s.length + 1 : Nat) : Int)) * c = s.length * c + c := by
      rw [Int.natCast_add, Int.add_mul]; simp
    omega
theorem st_le12 {ks s : List Int} (v : TVal ks) (h : isSt ks s = true) : ∀ x ∈ s, 0 ≤ x ∧ x ≤ 12 := fun x hx => by
  obtain ⟨i, hi, rfl⟩ := List.getElem_of_mem hx
  have h1 := isSt_at h i (by rw [← isSt_len h]; exact hi)
  have h2 := v.at_ i (by rw [← isSt_len h]; exact hi)
  rw [List.getD_eq_getElem?_getD, List.getElem?_eq_getElem hi, Option.getD_some] at h1
  omega
theorem st_sum {ks s : List Int} (v : TVal ks) (h : isSt ks s = true) (k : Nat) : 0 ≤ (s.take k).sum ∧ (s.take k).sum ≤ 60 := by
  have h1 := sum_bd (s.take k) 12 (by omega) fun x hx => st_le12 v h x (List.mem_of_mem_take hx)
  have h2 := isSt_len h
  have h3 := v.n5
  have h4 : (s.take k).length ≤ 5 := by rw [List.length_take]; omega
  omega
theorem incP_of {n : Int} : ∀ {ps : List Int} {a : Int}, ps.Pairwise (· < ·) → (∀ x ∈ ps, a ≤ x ∧ x < n) → incP n a ps = true
  | [], a, _, _ => rfl
  | y :: ps, a, hp, h => by
    obtain ⟨h1, h2⟩ := List.pairwise_cons.1 hp
    have hy := h y (by simp)
    rw [incP, Bool.and_eq_true, inR_iff]
    exact ⟨by omega, incP_of h2 fun x hx => by have := h1 x hx; have := h x (by simp [hx]); omega⟩
end Go.Proofs.Ytndgaklcnhoddaa
