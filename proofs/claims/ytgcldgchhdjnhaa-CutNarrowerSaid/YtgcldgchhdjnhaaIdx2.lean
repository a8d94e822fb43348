/-
  slices.IndexFunc and slices.ContainsFunc at slices of slices: where the first good element stands, whatever closure tells which are good (it must answer in every later world, and turn nothing that there was).
-/
import Derived.Test.YtgcldgchhdjnhaaBase
import Derived.Test.YtgcldgchhdjnhaaOpen
namespace Go.Proofs.Ytgcldgchhdjnhaa
open Go.RowKit

set_option maxHeartbeats 400000 in
theorem indexFuncRng (l : List (Value × List Stp)) (sa : Option Addr) (cap : Nat) (f : Nat) (cs : Array Value) (p : (Value × List Stp) → Bool) (w : World)
    (hl : l.length ≤ 9223372036854775807)
    (hs : l = [] ∨ ∃ b off, sa = some ⟨b, off, none⟩ ∧ ∀ i, (h : i < l.length) → w.cell? ⟨b, off + i, none⟩ = some (l[i].1))
    (hcall : ∀ args W, (callFunc f args).run Try.prog W = .ok (.enter f args) W)
    (hf : ∀ x, x ∈ l → ∀ W, Ext w W → Calls Try.prog f (#[x.1] ++ cs) W fun e W' => e = .returned (.bool (p x)) ∧ Ext W W') :
    Calls Try.prog 104 #[.slice sa l.length cap, .func (.func f) #[] cs] w fun e w' => e = .returned (.int .i64 (fidx p l)) ∧ Ext w w' := by
  have Hf := Lib.hid hf
  clear hf
  go_enter Try.func104, Try.ntmps104
  go_wp2
  go_loopw [8] (fun i W => ∃ k : Nat, k ≤ l.length ∧ i = .int .i64 k ∧ (∀ x ∈ l.take k, p x = false) ∧ Ext w W) (fun i _ => l.length - (intOf i).toNat)
  case atStart => exact ⟨0, Nat.zero_le _, rfl, by simp, Below.refl _ _⟩
  case round =>
    obtain ⟨k, hk, rfl, hno, hb⟩ := hrel
    have HN := Lib.hid hno
    clear hno
    by_cases hlt : k < l.length
    · have hs' : ∃ b off, sa = some ⟨b, off, none⟩ ∧ ∀ i, (h : i < l.length) → w.cell? ⟨b, off + i, none⟩ = some (l[i].1) := by
        rcases hs with rfl | h
        · simp at hlt
        · exact h
      clear hs
      obtain ⟨b, off, rfl, hc⟩ := hs'
      have hc1 := hc k hlt
      have HC : Hid (∀ i, (h : i < l.length) → w.cell? ⟨b, off + i, none⟩ = some (l[i].1)) := Lib.hid hc
      clear hc
      have hcell := cell_ext hb hc1
      clear hc1
      go_wp2_with fail
      refine (Hf.out l[k] (List.getElem_mem hlt) _ hb).mono ?_
      rintro e W' ⟨rfl, hb'⟩
      cases hp : p l[k]
      · go_wp2
        go_roundw
        case rel => exact ⟨k + 1, by omega, by go_num, take_ext hlt HN.out hp, hb.trans' hb'⟩
        case measure => simp [intOf]; omega
      · go_wp2
        go_ret
        exact ⟨ret_int (fidx_at hlt HN.out hp).symm, hb.trans' hb'⟩
    · go_wp2
      go_ret
      exact ⟨ret_int (fidx_none (take_all hlt HN.out)).symm, hb⟩

set_option maxHeartbeats 400000 in
theorem containsFuncRng (l : List (Value × List Stp)) (sa : Option Addr) (cap : Nat) (f : Nat) (cs : Array Value) (p : (Value × List Stp) → Bool) (w : World)
    (hl : l.length ≤ 9223372036854775807)
    (hs : l = [] ∨ ∃ b off, sa = some ⟨b, off, none⟩ ∧ ∀ i, (h : i < l.length) → w.cell? ⟨b, off + i, none⟩ = some (l[i].1))
    (hcall : ∀ args W, (callFunc f args).run Try.prog W = .ok (.enter f args) W)
    (hf : ∀ x, x ∈ l → ∀ W, Ext w W → Calls Try.prog f (#[x.1] ++ cs) W fun e W' => e = .returned (.bool (p x)) ∧ Ext W W') :
    Calls Try.prog 80 #[.slice sa l.length cap, .func (.func f) #[] cs] w fun e w' => e = .returned (.bool (l.any p)) ∧ Ext w w' := by
  have H := Lib.hid (indexFuncRng l sa cap f cs p w hl hs hcall hf)
  clear hf hs hcall
  go_enter Try.func80, Try.ntmps80
  go_wp2_with fail
  refine H.out.mono ?_
  rintro e W' ⟨rfl, hb⟩
  go_wp2
  all_goals
    go_ret
    refine ⟨ret_bool ?_, hb⟩
    rw [← fidx_any]

set_option maxHeartbeats 400000 in
theorem indexFuncLst (l : List (Value × List Int)) (sa : Option Addr) (cap : Nat) (f : Nat) (cs : Array Value) (p : (Value × List Int) → Bool) (w : World)
    (hl : l.length ≤ 9223372036854775807)
    (hs : l = [] ∨ ∃ b off, sa = some ⟨b, off, none⟩ ∧ ∀ i, (h : i < l.length) → w.cell? ⟨b, off + i, none⟩ = some (l[i].1))
    (hcall : ∀ args W, (callFunc f args).run Try.prog W = .ok (.enter f args) W)
    (hf : ∀ x, x ∈ l → ∀ W, Ext w W → Calls Try.prog f (#[x.1] ++ cs) W fun e W' => e = .returned (.bool (p x)) ∧ Ext W W') :
    Calls Try.prog 107 #[.slice sa l.length cap, .func (.func f) #[] cs] w fun e w' => e = .returned (.int .i64 (fidx p l)) ∧ Ext w w' := by
  have Hf := Lib.hid hf
  clear hf
  go_enter Try.func107, Try.ntmps107
  go_wp2
  go_loopw [8] (fun i W => ∃ k : Nat, k ≤ l.length ∧ i = .int .i64 k ∧ (∀ x ∈ l.take k, p x = false) ∧ Ext w W) (fun i _ => l.length - (intOf i).toNat)
  case atStart => exact ⟨0, Nat.zero_le _, rfl, by simp, Below.refl _ _⟩
  case round =>
    obtain ⟨k, hk, rfl, hno, hb⟩ := hrel
    have HN := Lib.hid hno
    clear hno
    by_cases hlt : k < l.length
    · have hs' : ∃ b off, sa = some ⟨b, off, none⟩ ∧ ∀ i, (h : i < l.length) → w.cell? ⟨b, off + i, none⟩ = some (l[i].1) := by
        rcases hs with rfl | h
        · simp at hlt
        · exact h
      clear hs
      obtain ⟨b, off, rfl, hc⟩ := hs'
      have hc1 := hc k hlt
      have HC : Hid (∀ i, (h : i < l.length) → w.cell? ⟨b, off + i, none⟩ = some (l[i].1)) := Lib.hid hc
      clear hc
      have hcell := cell_ext hb hc1
      clear hc1
      go_wp2_with fail
      refine (Hf.out l[k] (List.getElem_mem hlt) _ hb).mono ?_
      rintro e W' ⟨rfl, hb'⟩
      cases hp : p l[k]
      · go_wp2
        go_roundw
        case rel => exact ⟨k + 1, by omega, by go_num, take_ext hlt HN.out hp, hb.trans' hb'⟩
        case measure => simp [intOf]; omega
      · go_wp2
        go_ret
        exact ⟨ret_int (fidx_at hlt HN.out hp).symm, hb.trans' hb'⟩
    · go_wp2
      go_ret
      exact ⟨ret_int (fidx_none (take_all hlt HN.out)).symm, hb⟩

end Go.Proofs.Ytgcldgchhdjnhaa
