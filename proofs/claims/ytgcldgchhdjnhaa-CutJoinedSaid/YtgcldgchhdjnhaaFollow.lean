/-
  The walks of odd, follow, isRing and CheckWay.
-/
import Derived.Test.YtgcldgchhdjnhaaOpen
namespace Go.Proofs.Ytgcldgchhdjnhaa
open Go.RowKit Go.Shelf

set_option maxHeartbeats 1000000 in
theorem odd_any (h : Hall) (sv : Value) (x : Stp) (b r : Nat) (w : World) (hs : SheetAt w b r h sv) :
    Calls Try.prog 71 #[.pointer (some ⟨b, 0, none⟩), .agg #[.bool x.win, .int .i64 x.idx, .bool x.back]] w fun e w' => e = .returned (.bool (oddS h x)) ∧ Ext w w' := by
  have c0 := hs.c0
  have c2 := hs.c2
  obtain ⟨sa, cap, rfl, hl1, hl2, -⟩ := hs.cs.spec
  have hb := World.block_lt_of_cell? _ _ c0
  clear hs
  obtain ⟨xw, xi, xb⟩ := x
  by_cases h0 : xi < 0
  · have h0' : decide (xi < 0) = true := by simpa using h0
    cases xw
    all_goals
      go_enter Try.func71, Try.ntmps71
      go_wp2_with fail
      go_quiet (fail)
      go_wp2_with fail
      go_ret
      exact ⟨ret_bool (by simp [oddS, okStp]; omega), (by repeat (first | exact Below.refl _ _ | refine Ext.al ?_ _ | refine Ext.dr ?_ | refine Ext.drN ?_ _ | refine Ext.gr ?_ _ | refine Ext.set ?_ (by simp) _ | (refine Ext.trans' ?_ (by assumption))))⟩
  · have h0' : decide (xi < 0) = false := by simpa using h0
    cases xw
    · by_cases h1 : (h.cs.length : Int) ≤ xi
      · have h1' : decide ((h.cs.length : Int) ≤ xi) = true := by simpa using h1
        go_enter Try.func71, Try.ntmps71
        go_wp2_with fail
        go_quiet (fail)
        go_wp2_with fail
        go_ret
        exact ⟨ret_bool (by simp [oddS, okStp]; omega), (by repeat (first | exact Below.refl _ _ | refine Ext.al ?_ _ | refine Ext.dr ?_ | refine Ext.drN ?_ _ | refine Ext.gr ?_ _ | refine Ext.set ?_ (by simp) _ | (refine Ext.trans' ?_ (by assumption))))⟩
      · have h1' : decide ((h.cs.length : Int) ≤ xi) = false := by simpa using h1
        go_enter Try.func71, Try.ntmps71
        go_wp2_with fail
        go_quiet (fail)
        go_wp2_with fail
        go_ret
        exact ⟨ret_bool (by simp [oddS, okStp]; omega), (by repeat (first | exact Below.refl _ _ | refine Ext.al ?_ _ | refine Ext.dr ?_ | refine Ext.drN ?_ _ | refine Ext.gr ?_ _ | refine Ext.set ?_ (by simp) _ | (refine Ext.trans' ?_ (by assumption))))⟩
    · by_cases h1 : h.n ≤ xi
      · have h1' : decide (h.n ≤ xi) = true := by simpa using h1
        go_enter Try.func71, Try.ntmps71
        go_wp2_with fail
        go_quiet (fail)
        go_wp2_with fail
        go_ret
        exact ⟨ret_bool (by simp [oddS, okStp]; omega), (by repeat (first | exact Below.refl _ _ | refine Ext.al ?_ _ | refine Ext.dr ?_ | refine Ext.drN ?_ _ | refine Ext.gr ?_ _ | refine Ext.set ?_ (by simp) _ | (refine Ext.trans' ?_ (by assumption))))⟩
      · have h1' : decide (h.n ≤ xi) = false := by simpa using h1
        go_enter Try.func71, Try.ntmps71
        go_wp2_with fail
        go_quiet (fail)
        go_wp2_with fail
        go_ret
        exact ⟨ret_bool (by simp [oddS, okStp]; omega), (by repeat (first | exact Below.refl _ _ | refine Ext.al ?_ _ | refine Ext.dr ?_ | refine Ext.drN ?_ _ | refine Ext.gr ?_ _ | refine Ext.set ?_ (by simp) _ | (refine Ext.trans' ?_ (by assumption))))⟩

theorem fol_drop {h : Hall} {s f : Int} {l : List Stp} {k : Nat} (hk : k < l.length) : fol h s f (l.drop k) = if src h l[k] = f then fol h (s + cost h l[k]) (dst h l[k]) (l.drop (k + 1)) else (0, 0, false) := by
  rw [List.drop_eq_getElem_cons hk, fol]

set_option maxHeartbeats 1000000 in
theorem follow_any (h : Hall) (sv lv : Value) (f : Int) (l : List Stp) (v : Valid h) (hl : ∀ x ∈ l, okStp h x = true) (h200 : l.length ≤ 200) (b r : Nat) (w : World) (hs : SheetAt w b r h sv) (hv : IsStps w lv l) :
    Calls Try.prog 72 #[.pointer (some ⟨b, 0, none⟩), .int .i64 f, lv] w fun e w' =>
      e = .returned (.tuple #[.int .i64 (fol h 0 f l).1, .int .i64 (fol h 0 f l).2.1, .bool (fol h 0 f l).2.2]) ∧ Ext w w' := by
  obtain ⟨sa, cap, rfl, hl1, hl2, -⟩ := hv.spec
  have HS := Lib.hid hs
  have HV := Lib.hid hv
  have V := Lib.hid v
  have HL := Lib.hid hl
  clear hs hv v hl
  go_enter Try.func72, Try.ntmps72
  go_wp2_with fail
  go_loopw [1, 9, 17] (fun fv s i W => ∃ (k : Nat) (f' s' : Int), k ≤ l.length ∧ i = .int .i64 k ∧ s = .int .i64 s' ∧ fv = .int .i64 f' ∧ -(10000000 * (k : Int)) ≤ s' ∧ s' ≤ 10000000 * (k : Int) ∧ fol h s' f' (l.drop k) = fol h 0 f l ∧ Ext w W) (fun _ _ i _ => l.length - (intOf i).toNat)
  case atStart => exact ⟨0, f, 0, Nat.zero_le _, rfl, rfl, rfl, by simp, by simp, by simp, Below.refl _ _⟩
  case round =>
    obtain ⟨k, f', s', hk, rfl, rfl, rfl, b1, b2, hfol, hb⟩ := hrel
    have HF := Lib.hid hfol
    clear hfol
    by_cases hlt : k < l.length
    · rcases (HV.out.ext hb).opened with e | ⟨cb, off, rfl, hc⟩
      · simp [e] at hlt
      obtain ⟨c0, c1, c2⟩ := hc k hlt
      have hok := HL.out l[k] (List.getElem_mem hlt)
      have hcb := cost_bd V.out hok
      have HOK := Lib.hid hok
      have HX := Lib.hid hb
      clear hc hok hb
      go_wp2_with fail
      refine (ends_any h (sv := sv) l[k] b _ V.out HOK.out ((HS.out.ext HX.out).at.ext (by repeat (first | exact Below.refl _ _ | refine Ext.al ?_ _ | refine Ext.dr ?_ | refine Ext.drN ?_ _ | refine Ext.gr ?_ _ | refine Ext.set ?_ (by simp) _ | (refine Ext.trans' ?_ (by assumption)))))).mono ?_
      rintro e W' ⟨rfl, hb'⟩
      by_cases hsrc : src h l[k] = f'
      · have hsrc' : (src h l[k] == f') = true := by simpa using hsrc
        go_wp2_with fail
        go_roundw
        case rel => exact ⟨k + 1, dst h l[k], s' + cost h l[k], by omega, by go_num, rfl, rfl, by omega, by omega, by rw [← HF.out, fol_drop hlt, if_pos hsrc], (Ext.al HX.out _).trans' hb'⟩
        case measure => simp [intOf]; omega
      · have hsrc' : (src h l[k] == f') = false := by simpa using hsrc
        go_wp2_with fail
        go_ret3
        exact ⟨ret_iib' (by have := HF.out; rw [fol_drop hlt, if_neg hsrc] at this; rw [← this]), (Ext.al HX.out _).trans' hb'⟩
    · obtain rfl : k = l.length := by omega
      have hf := HF.out
      rw [List.drop_length, fol] at hf
      go_wp2_with fail
      go_ret3
      exact ⟨ret_iib' (by rw [← hf]), hb⟩
end Go.Proofs.Ytgcldgchhdjnhaa
