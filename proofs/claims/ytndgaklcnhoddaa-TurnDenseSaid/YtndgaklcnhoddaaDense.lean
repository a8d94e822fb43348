/-
  Plain: how dense a hall is: above 1 all states are doomed, up to 5 by 6 the empty state is safe.
-/
import Derived.Test.YtndgaklcnhoddaaPl
namespace Go.Proofs.Ytndgaklcnhoddaa
def dens (ks : List Int) : Int := (ks.map fun k => 27720 / k).sum
theorem map_range {ks : List Int} {f : Int → Int} : (List.range ks.length).map (fun i => f (ks.getD i 0)) = ks.map f := by
  apply List.ext_getElem (by simp)
  intro i h1 h2
  simp only [List.length_map, List.length_range] at h1
  simp only [List.getElem_map, List.getElem_range]
  rw [List.getD_eq_getElem?_getD, List.getElem?_eq_getElem h1]
  rfl
theorem run1_count {k w : Int} : ∀ (l : List Int) (n a : Int), run1 k w n l = some a → n + l.length ≤ a + k * (l.count w : Int)
  | [], n, a, e => by cases e; simp
  | x :: l, n, a, e => by
    rw [run1] at e
    split at e
    · cases e
    · by_cases hx : x = w
      · rw [if_pos hx] at e
        have := run1_count l 0 a e
        rw [List.count_cons, if_pos (by simp [hx])]
        simp only [List.length_cons, Int.natCast_add, Int.mul_add]
        omega
      · rw [if_neg hx] at e
        have := run1_count l (n + 1) a e
        rw [List.count_cons, if_neg (by simp [hx])]
        simp only [List.length_cons, Int.natCast_add, Nat.add_zero]
        omega
theorem sum_range_add (f g : Nat → Int) : ∀ n, ((List.range n).map fun i => f i + g i).sum = ((List.range n).map f).sum + ((List.range n).map g).sum
  | 0 => rfl
  | n + 1 => by
    simp only [List.range_succ, List.map_append, List.sum_append, List.map_cons, List.map_nil, List.sum_cons, List.sum_nil, sum_range_add f g n]
    omega
theorem sum_one : ∀ (n : Nat) (x : Int), 0 ≤ x → x < n → ((List.range n).map fun (i : Nat) => if x = (i : Int) then (1 : Int) else 0).sum = 1
  | 0, x, h, h2 => by omega
  | n + 1, x, h, h2 => by
    simp only [List.range_succ, List.map_append, List.sum_append, List.map_cons, List.map_nil, List.sum_cons, List.sum_nil]
    by_cases e : x = n
    · have : ((List.range n).map fun (i : Nat) => if x = (i : Int) then (1 : Int) else 0) = (List.range n).map fun _ => (0 : Int) := List.map_congr_left fun i hi => by
        have : i < n := by simpa using hi
        rw [if_neg (by omega)]
      rw [this, if_pos e]
      have hz : ∀ m, ((List.range m).map fun _ => (0 : Int)).sum = 0 := fun m => by
        induction m with
        | zero => rfl
        | succ m ih => simp only [List.range_succ, List.map_append, List.sum_append, ih]; rfl
      rw [hz]; rfl
    · rw [sum_one n x h (by omega), if_neg e]; rfl
theorem sum_zero (n : Nat) : ((List.range n).map fun _ => (0 : Int)).sum = 0 := by
  induction n with
  | zero => rfl
  | succ m ih => simp only [List.range_succ, List.map_append, List.sum_append, ih]; rfl
theorem count_sum (n : Nat) : ∀ (c : List Int), (∀ x ∈ c, 0 ≤ x ∧ x < n) → ((List.range n).map fun (i : Nat) => (c.count (i : Int) : Int)).sum = c.length
  | [], _ => sum_zero n
  | x :: c, h => by
    have h0 := h x (by simp)
    have e : ((List.range n).map fun (i : Nat) => ((x :: c).count (i : Int) : Int)) = (List.range n).map fun (i : Nat) => (c.count (i : Int) : Int) + (if x = (i : Int) then 1 else 0) := List.map_congr_left fun i _ => by
      rw [List.count_cons]
      by_cases hx : x = (i : Int)
      · rw [if_pos (by simp [hx]), if_pos hx]; rfl
      · rw [if_neg (by simp [hx]), if_neg hx]; simp
    rw [e, sum_range_add, count_sum n c (fun y hy => h y (by simp [hy])), sum_one n x h0.1 h0.2]
    simp
theorem sum_le (f g : Nat → Int) : ∀ n, (∀ i, i < n → f i ≤ g i) → ((List.range n).map f).sum ≤ ((List.range n).map g).sum
  | 0, _ => by simp
  | n + 1, h => by
    have := sum_le f g n fun i hi => h i (by omega)
    have := h n (by omega)
    simp only [List.range_succ, List.map_append, List.sum_append, List.map_cons, List.map_nil, List.sum_cons, List.sum_nil]
    omega
theorem sum_mul (f : Nat → Int) (c : Int) : ∀ n, ((List.range n).map fun i => f i * c).sum = ((List.range n).map f).sum * c
  | 0 => by simp
  | n + 1 => by
    simp only [List.range_succ, List.map_append, List.sum_append, List.map_cons, List.map_nil, List.sum_cons, List.sum_nil, sum_mul f c n, Int.add_mul]
    omega
/-- a hall with a safe state is not too dense -/
theorem dens_le {ks s : List Int} (v : TVal ks) (hs : isSt ks s = true) (h : SafeP (nxS ks) s) : dens ks ≤ 27720 := by
  obtain ⟨t, m, ht, hm, hw⟩ := safe_closed v hs h
  obtain ⟨c, hc, hwin, hp⟩ := wlk_play hw
  have hr := (play_some c 0 t t (isSt_len ht) (fun x hx => (hwin x hx).1) (by rw [hp])).2
  have h1 : ∀ i, i < ks.length → 27720 / ks.getD i 0 * (m : Int) ≤ (c.count (i : Int) : Int) * 27720 := fun i hi => by
    have hk := v.at_ i hi
    have h2 := run1_count c _ _ (hr i hi)
    rw [hc] at h2
    have h3 : (m : Int) ≤ ks.getD i 0 * (c.count (i : Int) : Int) := by omega
    have h4 : 0 ≤ 27720 / ks.getD i 0 := Int.ediv_nonneg (by omega) (by omega)
    have h5 := Int.mul_le_mul_of_nonneg_left h3 h4
    have h6 : 27720 / ks.getD i 0 * ks.getD i 0 ≤ 27720 := Int.ediv_mul_le _ (by omega)
    have h7 := Int.mul_le_mul_of_nonneg_right h6 (show (0 : Int) ≤ (c.count (i : Int) : Int) by omega)
    rw [← Int.mul_assoc] at h5
    rw [Int.mul_comm (c.count (i : Int) : Int)]
    omega
  have h2 := sum_le _ _ ks.length h1
  rw [sum_mul, sum_mul, count_sum ks.length c hwin, hc, map_range (f := fun k => 27720 / k)] at h2
  have h3 : dens ks * (m : Int) ≤ 27720 * (m : Int) := by rw [Int.mul_comm 27720]; exact h2
  exact Int.le_of_mul_le_mul_right h3 (by omega)
/-- four windows are too dense -/
def four : Bool := (List.range 13).all fun a => a == 0 || (List.range 13).all fun b => b == 0 || (1000 < (a + 1) * (b + 1)) || (List.range 13).all fun c => c == 0 || (1000 < (a + 1) * (b + 1) * (c + 1)) || (List.range 13).all fun d => d == 0 || (1000 < (a + 1) * (b + 1) * (c + 1) * (d + 1)) || (23100 < 27720 / a + 27720 / b + 27720 / c + 27720 / d)
theorem four_ok : four = true := by decide +kernel
theorem four_of {a b c d : Nat} (ha : 1 ≤ a ∧ a ≤ 12) (hb : 1 ≤ b ∧ b ≤ 12) (hc : 1 ≤ c ∧ c ≤ 12) (hd : 1 ≤ d ∧ d ≤ 12) (hp : (a + 1) * (b + 1) * (c + 1) * (d + 1) ≤ 1000) : 23100 < 27720 / a + 27720 / b + 27720 / c + 27720 / d := by
  have h := four_ok
  unfold four at h
  have p1 : (a + 1) * (b + 1) * (c + 1) ≤ 1000 := by
    have := Nat.mul_le_mul_left ((a + 1) * (b + 1) * (c + 1)) (show 1 ≤ d + 1 by omega)
    omega
  have p2 : (a + 1) * (b + 1) ≤ 1000 := by
    have := Nat.mul_le_mul_left ((a + 1) * (b + 1)) (show 1 ≤ c + 1 by omega)
    omega
  have h1 := List.all_eq_true.1 h a (by simp; omega)
  rw [Bool.or_eq_true] at h1
  have h1 := List.all_eq_true.1 (h1.resolve_left (by simp; omega)) b (by simp; omega)
  simp only [Bool.or_eq_true, decide_eq_true_eq, beq_iff_eq] at h1
  have h1 := List.all_eq_true.1 (h1.resolve_left (by omega)) c (by simp; omega)
  simp only [Bool.or_eq_true, decide_eq_true_eq, beq_iff_eq] at h1
  have h1 := List.all_eq_true.1 (h1.resolve_left (by omega)) d (by simp; omega)
  simp only [Bool.or_eq_true, decide_eq_true_eq, beq_iff_eq] at h1
  omega
theorem cast_div (a : Nat) : (27720 : Int) / (a : Int) = ((27720 / a : Nat) : Int) := rfl
theorem sum_nn {l : List Int} (h : ∀ x ∈ l, 0 ≤ x) : 0 ≤ l.sum := by
  induction l with
  | nil => simp
  | cons a l ih =>
    have := ih fun x hx => h x (by simp [hx])
    have := h a (by simp)
    simp only [List.sum_cons]; omega
theorem dens_four {a b c d : Int} {r : List Int} (v : TVal (a :: b :: c :: d :: r)) : 23100 < dens (a :: b :: c :: d :: r) := by
  have ha := v.kb a (by simp)
  have hb := v.kb b (by simp)
  have hc := v.kb c (by simp)
  have hd := v.kb d (by simp)
  have hr := prodK_pos (ks := r) fun k hk => by have := v.kb k (by simp [hk]); omega
  have hp := v.pr
  simp only [prodK] at hp
  obtain ⟨A, rfl⟩ : ∃ A : Nat, a = A := ⟨a.toNat, by omega⟩
  obtain ⟨B, rfl⟩ : ∃ A : Nat, b = A := ⟨b.toNat, by omega⟩
  obtain ⟨C, rfl⟩ : ∃ A : Nat, c = A := ⟨c.toNat, by omega⟩
  obtain ⟨D, rfl⟩ : ∃ A : Nat, d = A := ⟨d.toNat, by omega⟩
  have h0 : (((A + 1) * (B + 1) * (C + 1) * (D + 1) : Nat) : Int) * 1 ≤ (((A + 1) * (B + 1) * (C + 1) * (D + 1) : Nat) : Int) * prodK r := Int.mul_le_mul_of_nonneg_left hr (by omega)
  have h1 : (((A + 1) * (B + 1) * (C + 1) * (D + 1) : Nat) : Int) * prodK r = ((A : Int) + 1) * (((B : Int) + 1) * (((C : Int) + 1) * (((D : Int) + 1) * prodK r))) := by
    simp only [Int.natCast_mul, Int.natCast_add, Int.natCast_one, Int.mul_assoc]
  have h2 := four_of (a := A) (b := B) (c := C) (d := D) (by omega) (by omega) (by omega) (by omega) (by omega)
  have h3 : 0 ≤ (r.map fun k => 27720 / k).sum := sum_nn fun x hx => by
    obtain ⟨k, hk, rfl⟩ := List.mem_map.1 hx
    have := v.kb k (by simp [hk])
    exact Int.ediv_nonneg (by omega) (by omega)
  unfold dens
  simp only [List.map_cons, List.sum_cons, cast_div]
  omega
theorem div_lo {k : Int} (h : 1 ≤ k ∧ k ≤ 3) : 9240 ≤ 27720 / k := by
  rcases (show k = 1 ∨ k = 2 ∨ k = 3 by omega) with rfl | rfl | rfl <;> decide
theorem div_pos {k : Int} (h : 1 ≤ k ∧ k ≤ 12) : 2310 ≤ 27720 / k := by
  rcases (show k = 1 ∨ k = 2 ∨ k = 3 ∨ k = 4 ∨ k = 5 ∨ k = 6 ∨ k = 7 ∨ k = 8 ∨ k = 9 ∨ k = 10 ∨ k = 11 ∨ k = 12 by omega) with rfl | rfl | rfl | rfl | rfl | rfl | rfl | rfl | rfl | rfl | rfl | rfl <;> decide
theorem safe_circ {ks c : List Int} (v : TVal ks) (hw : WinL ks c) (h : circR ks c = true) : SafeP (nxS ks) (zeroS ks) := by
  rw [← circ_eq v fun x hx => (hw x hx).1] at h
  obtain ⟨s, h1, _, h3, h4⟩ := circ_closed v hw h
  exact (zero_safe v).2 ⟨s, c.length, h1, List.length_pos_iff.2 h4, play_wlk hw (h3 0)⟩
/-- a hall that is not dense has a circle -/
theorem sparse_safe {ks : List Int} (v : TVal ks) (h : dens ks ≤ 23100) : SafeP (nxS ks) (zeroS ks) := by
  match ks, v, h with
  | [], v, _ => have := v.n1; simp at this
  | [a], v, h =>
    have ha := v.kb a (by simp)
    have h1 : 2 ≤ a := by
      by_cases e : a = 1
      · subst e; simp [dens] at h
      · omega
    refine safe_circ (c := [0]) v (by simp [WinL]) ?_
    simp [circR, gap]; omega
  | [a, b], v, h =>
    have ha := v.kb a (by simp)
    have hb := v.kb b (by simp)
    have pa := div_pos ha
    have pb := div_pos hb
    simp only [dens, List.map_cons, List.map_nil, List.sum_cons, List.sum_nil] at h
    have h1 : 2 ≤ a := by
      by_cases e : a = 1
      · subst e; simp at h; omega
      · omega
    have h2 : 2 ≤ b := by
      by_cases e : b = 1
      · subst e; simp at h; omega
      · omega
    refine safe_circ (c := [0, 1]) v (by simp [WinL]) ?_
    simp [circR, gap, List.range_succ]; omega
  | [a, b, c], v, h =>
    have ha := v.kb a (by simp)
    have hb := v.kb b (by simp)
    have hc := v.kb c (by simp)
    have pa := div_pos ha
    have pb := div_pos hb
    have pc := div_pos hc
    simp only [dens, List.map_cons, List.map_nil, List.sum_cons, List.sum_nil] at h
    have one : ∀ k : Int, 1 ≤ k ∧ k ≤ 12 → 27720 / k ≤ 23100 → 2 ≤ k := fun k hk hl => by
      by_cases e : k = 1
      · subst e; simp at hl
      · omega
    have h1 := one a ha (by omega)
    have h2 := one b hb (by omega)
    have h3 := one c hc (by omega)
    have lo : ∀ k : Int, 1 ≤ k ∧ k ≤ 12 → 27720 / k < 9240 → 4 ≤ k := fun k hk hl => by
      by_cases e : k ≤ 3
      · have := div_lo (k := k) ⟨hk.1, e⟩; omega
      · omega
    by_cases ea : a = 2
    · subst ea
      simp at h
      have := lo b hb (by omega)
      have := lo c hc (by omega)
      refine safe_circ (c := [0, 1, 0, 2]) v (by simp [WinL]) ?_
      simp [circR, gap, List.range_succ]; omega
    by_cases eb : b = 2
    · subst eb
      simp at h
      have := lo a ha (by omega)
      have := lo c hc (by omega)
      refine safe_circ (c := [1, 0, 1, 2]) v (by simp [WinL]) ?_
      simp [circR, gap, List.range_succ]; omega
    by_cases ec : c = 2
    · subst ec
      simp at h
      have := lo a ha (by omega)
      have := lo b hb (by omega)
      refine safe_circ (c := [2, 0, 2, 1]) v (by simp [WinL]) ?_
      simp [circR, gap, List.range_succ]; omega
    refine safe_circ (c := [0, 1, 2]) v (by simp [WinL]) ?_
    simp [circR, gap, List.range_succ]; omega
  | a :: b :: c :: d :: r, v, h =>
    have := dens_four v
    omega
end Go.Proofs.Ytndgaklcnhoddaa
