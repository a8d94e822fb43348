/-
  Plain: numbers of places that no step betters, by windows and counters; halls turned about, with counters narrower, in another order, with a window more.
-/
import Derived.Test.YtgcldgchhdjnhaaSpm
namespace Go.Proofs.Ytgcldgchhdjnhaa

theorem pot_iff {h : Hall} {d : Nat → Int} : Pot h d ↔ (∀ i : Nat, (i : Int) < h.n → 0 ≤ d (i + 1) - d i ∧ d (i + 1) - d i ≤ h.most) ∧ ∀ c ∈ h.cs, c.lo ≤ d (c.t + 1).toNat - d c.f.toNat ∧ d (c.t + 1).toNat - d c.f.toNat ≤ c.hi := by
  constructor
  · exact fun p => ⟨fun i hi => pot_win p hi, fun c hc => pot_cnt p hc⟩
  · intro ⟨h1, h2⟩ x o
    have key : (stpC h x).lo ≤ d ((stpC h x).t + 1).toNat - d (stpC h x).f.toNat ∧ d ((stpC h x).t + 1).toNat - d (stpC h x).f.toNat ≤ (stpC h x).hi := by
      unfold okStp at o
      unfold stpC
      by_cases hw : x.win = true
      · rw [if_pos hw] at o ⊢
        simp only [Bool.and_eq_true, decide_eq_true_eq] at o
        obtain ⟨k, hk⟩ : ∃ k : Nat, x.idx = k := ⟨x.idx.toNat, by omega⟩
        have := h1 k (by omega)
        simp only [hk, Int.toNat_natCast, show ((k : Int) + 1).toNat = k + 1 by omega]
        omega
      · rw [if_neg hw] at o ⊢
        simp only [Bool.and_eq_true, decide_eq_true_eq] at o
        have hl : x.idx.toNat < h.cs.length := by omega
        have e : h.cs.getD x.idx.toNat ⟨0, 0, 0, 0⟩ = h.cs[x.idx.toNat] := by simp [List.getD, hl]
        rw [e]
        exact h2 _ (List.getElem_mem hl)
    unfold src dst cost
    split <;> omega
/-- a counter, its windows in the opposite order -/
def revC (n : Int) (c : Cnt) : Cnt := ⟨n - 1 - c.t, n - 1 - c.f, c.lo, c.hi⟩
def revH (h : Hall) : Hall := { h with cs := h.cs.map (revC h.n) }
def revD (n : Int) (d : Nat → Int) (i : Nat) : Int := -d (n - i).toNat
theorem rev_valid {h : Hall} (v : Valid h) : Valid (revH h) :=
  ⟨v.n1, v.n10, by simpa [revH] using v.len, v.m0, v.m1, fun c hc => by
    simp only [revH, List.mem_map] at hc
    obtain ⟨x, hx, rfl⟩ := hc
    have := v.cs x hx
    simp only [revC, revH]
    omega⟩
theorem pot_rev {h : Hall} (v : Valid h) {d : Nat → Int} (p : Pot h d) : Pot (revH h) (revD h.n d) := by
  obtain ⟨h1, h2⟩ := pot_iff.1 p
  refine pot_iff.2 ⟨fun i hi => ?_, fun c hc => ?_⟩
  · have hi' : (i : Int) < h.n := hi
    have := h1 (h.n - (i + 1)).toNat (by omega)
    have e : (h.n - (i + 1 : Int)).toNat + 1 = (h.n - i).toNat := by omega
    rw [e] at this
    have e2 : (h.n - ((i + 1 : Nat) : Int)).toNat = (h.n - (i + 1 : Int)).toNat := by omega
    simp only [revD]
    show 0 ≤ _ ∧ _ ≤ h.most
    rw [e2]
    omega
  · simp only [revH, List.mem_map] at hc
    obtain ⟨x, hx, rfl⟩ := hc
    have hv := v.cs x hx
    have := h2 x hx
    simp only [revD, revC]
    have e1 : (h.n - (((h.n - 1 - x.f + 1).toNat : Nat) : Int)).toNat = x.f.toNat := by omega
    have e2 : (h.n - (((h.n - 1 - x.t).toNat : Nat) : Int)).toNat = (x.t + 1).toNat := by omega
    rw [e1, e2]
    omega
theorem revH_revH {h : Hall} : revH (revH h) = h := by
  unfold revH
  simp only [List.map_map]
  have : (revC h.n ∘ revC h.n) = id := by
    funext c
    simp only [Function.comp, revC, id]
    obtain ⟨f, t, lo, hi⟩ := c
    congr 1
    · show h.n - 1 - (h.n - 1 - f) = f; omega
    · show h.n - 1 - (h.n - 1 - t) = t; omega
  rw [this, List.map_id]
theorem agr_rev {h : Hall} (v : Valid h) : Agr (revH h) ↔ Agr h :=
  ⟨fun ⟨_, p⟩ => by have := pot_rev (rev_valid v) p; rw [revH_revH] at this; exact ⟨_, this⟩, fun ⟨_, p⟩ => ⟨_, pot_rev v p⟩⟩
theorem ds_rev_le {h : Hall} (v : Valid h) (g : Agr h) {a b : Nat} (ha : (a : Int) ≤ h.n) (hb : (b : Int) ≤ h.n) : ds h (h.n - b).toNat (h.n - a).toNat ≤ ds (revH h) a b := by
  refine (ds_sub (h := revH h) (x := h) (rev_valid v) v g (a := a) (b := b) ha hb (by omega) (by omega) fun d p => ⟨_, pot_rev v p, ?_⟩).2
  simp only [revD]
  omega
theorem ds_rev {h : Hall} (v : Valid h) (g : Agr h) {a b : Nat} (ha : (a : Int) ≤ h.n) (hb : (b : Int) ≤ h.n) : ds (revH h) a b = ds h (h.n - b).toNat (h.n - a).toNat := by
  have h1 := ds_rev_le v g ha hb
  have h2 := ds_rev_le (h := revH h) (rev_valid v) ((agr_rev v).2 g) (a := (h.n - b).toNat) (b := (h.n - a).toNat) (by show _ ≤ h.n; omega) (by show _ ≤ h.n; omega)
  rw [revH_revH] at h2
  have e1 : (h.n - (((h.n - a).toNat : Nat) : Int)).toNat = a := by omega
  have e2 : (h.n - (((h.n - b).toNat : Nat) : Int)).toNat = b := by omega
  have h2' : ds (revH h) (h.n - (((h.n - a).toNat : Nat) : Int)).toNat (h.n - (((h.n - b).toNat : Nat) : Int)).toNat ≤ ds h (h.n - b).toNat (h.n - a).toNat := h2
  rw [e1, e2] at h2'
  omega
/-- a hall with a window more -/
def moreH (h : Hall) : Hall := { h with n := h.n + 1 }
theorem more_valid {h : Hall} (v : Valid h) (h10 : h.n < 10) : Valid (moreH h) :=
  ⟨by have := v.n1; simp only [moreH]; omega, by simp only [moreH]; omega, v.len, v.m0, v.m1, fun c hc => by have := v.cs c hc; simp only [moreH]; omega⟩
theorem pot_more {h : Hall} {d : Nat → Int} (p : Pot (moreH h) d) : Pot h d := by
  obtain ⟨h1, h2⟩ := pot_iff.1 p
  exact pot_iff.2 ⟨fun i hi => h1 i (by simp only [moreH]; omega), h2⟩
theorem pot_less {h : Hall} (v : Valid h) {d : Nat → Int} (p : Pot h d) : Pot (moreH h) (fun i => if (i : Int) ≤ h.n then d i else d h.n.toNat) := by
  obtain ⟨h1, h2⟩ := pot_iff.1 p
  have m0 := v.m0
  refine pot_iff.2 ⟨fun i hi => ?_, fun c hc => ?_⟩
  · have hi' : (i : Int) < h.n + 1 := hi
    show 0 ≤ _ ∧ _ ≤ h.most
    by_cases hlt : (i : Int) < h.n
    · have := h1 i hlt
      rw [if_pos (by omega), if_pos (by omega)]
      exact this
    · have e : h.n.toNat = i := by omega
      rw [if_neg (by omega), if_pos (by omega), e]
      omega
  · have hv := v.cs c hc
    have := h2 c hc
    rw [if_pos (by omega), if_pos (by omega)]
    exact this
theorem more_eq {h : Hall} (v : Valid h) (h10 : h.n < 10) : (Agr (moreH h) ↔ Agr h) ∧ ∀ (_ : Agr h) (a b : Nat), (a : Int) ≤ h.n → (b : Int) ≤ h.n → ds (moreH h) a b = ds h a b := by
  have vm := more_valid v h10
  have ag : Agr (moreH h) ↔ Agr h := ⟨fun ⟨_, p⟩ => ⟨_, pot_more p⟩, fun ⟨_, p⟩ => ⟨_, pot_less v p⟩⟩
  refine ⟨ag, fun g a b ha hb => ?_⟩
  have ha' : (a : Int) ≤ (moreH h).n := by simp only [moreH]; omega
  have hb' : (b : Int) ≤ (moreH h).n := by simp only [moreH]; omega
  have h1 := (ds_sub v vm (ag.2 g) ha hb ha' hb' fun d p => ⟨d, pot_more p, rfl⟩).2
  have h2 := (ds_sub vm v g ha' hb' ha hb fun d p => ⟨_, pot_less v p, by rw [if_pos hb, if_pos ha]⟩).2
  omega
/-- a hall whose potentials are among another one's -/
theorem ds_mono {h x : Hall} (v : Valid h) (vx : Valid x) (gx : Agr x) (hn : x.n = h.n) (hs : ∀ d, Pot x d → Pot h d) : Agr h ∧ ∀ a b : Nat, (a : Int) ≤ h.n → (b : Int) ≤ h.n → ds x a b ≤ ds h a b := by
  obtain ⟨d, p⟩ := gx
  exact ⟨⟨d, hs d p⟩, fun a b ha hb => (ds_sub v vx ⟨d, p⟩ ha hb (by omega) (by omega) fun d p => ⟨d, hs d p, rfl⟩).2⟩
end Go.Proofs.Ytgcldgchhdjnhaa
