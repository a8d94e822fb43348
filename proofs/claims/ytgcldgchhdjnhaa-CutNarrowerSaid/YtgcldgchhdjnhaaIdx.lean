/-
  slices.IndexFunc and slices.ContainsFunc at each type of elements that the chapter uses: where the first good element stands, whatever closure tells which are good (it must answer in every later world, and turn nothing that there was).
-/
import Derived.Test.YtgcldgchhdjnhaaBase
import Derived.Test.YtgcldgchhdjnhaaPlain
namespace Go.Proofs.Ytgcldgchhdjnhaa
open Go.RowKit

set_option maxHeartbeats 400000 in
theorem indexFuncI64 (l : List Int) (sa : Option Addr) (cap : Nat) (f : Nat) (cs : Array Value) (p : Int → Bool) (w : World)
    (hl : l.length ≤ 9223372036854775807)
    (hs : l = [] ∨ ∃ b off, sa = some ⟨b, off, none⟩ ∧ ∀ i, (h : i < l.length) → w.cell? ⟨b, off + i, none⟩ = some (.int .i64 l[i]))
    (hcall : ∀ args W, (callFunc f args).run Try.prog W = .ok (.enter f args) W)
    (hf : ∀ x, x ∈ l → ∀ W, Ext w W → Calls Try.prog f (#[.int .i64 x] ++ cs) W fun e W' => e = .returned (.bool (p x)) ∧ Ext W W') :
    Calls Try.prog 111 #[.slice sa l.length cap, .func (.func f) #[] cs] w fun e w' => e = .returned (.int .i64 (fidx p l)) ∧ Ext w w' := by
  have Hf := Lib.hid hf
  clear hf
  go_enter Try.func111, Try.ntmps111
  go_wp2
  go_loopw [8] (fun i W => ∃ k : Nat, k ≤ l.length ∧ i = .int .i64 k ∧ (∀ x ∈ l.take k, p x = false) ∧ Ext w W) (fun i _ => l.length - (intOf i).toNat)
  case atStart => exact ⟨0, Nat.zero_le _, rfl, by simp, Below.refl _ _⟩
  case round =>
    obtain ⟨k, hk, rfl, hno, hb⟩ := hrel
    have HN := Lib.hid hno
    clear hno
    by_cases hlt : k < l.length
    · have hs' : ∃ b off, sa = some ⟨b, off, none⟩ ∧ ∀ i, (h : i < l.length) → w.cell? ⟨b, off + i, none⟩ = some (.int .i64 l[i]) := by
        rcases hs with rfl | h
        · simp at hlt
        · exact h
      clear hs
      obtain ⟨b, off, rfl, hc⟩ := hs'
      have hc1 := hc k hlt
      have HC : Hid (∀ i, (h : i < l.length) → w.cell? ⟨b, off + i, none⟩ = some (.int .i64 l[i])) := Lib.hid hc
      clear hc
      have hcell := cell_ext hb hc1
      clear hc1
      go_wp2_with fail
      refine (Hf.out l[k] (List.getElem_mem hlt) _ hb).mono ?_
      rintro e W' ⟨rfl, hb'⟩
      cases hp : p l[k]
      · go_wp2
        go_roundw
        case rel => exact ⟨k + 1, by omega, by go_num, take_ext hlt HN.out hp, hb.trans' hb'⟩
        case measure => simp [intOf]; omega
      · go_wp2
        go_ret
        exact ⟨ret_int (fidx_at hlt HN.out hp).symm, hb.trans' hb'⟩
    · go_wp2
      go_ret
      exact ⟨ret_int (fidx_none (take_all hlt HN.out)).symm, hb⟩

set_option maxHeartbeats 400000 in
theorem containsFuncI64 (l : List Int) (sa : Option Addr) (cap : Nat) (f : Nat) (cs : Array Value) (p : Int → Bool) (w : World)
    (hl : l.length ≤ 9223372036854775807)
    (hs : l = [] ∨ ∃ b off, sa = some ⟨b, off, none⟩ ∧ ∀ i, (h : i < l.length) → w.cell? ⟨b, off + i, none⟩ = some (.int .i64 l[i]))
    (hcall : ∀ args W, (callFunc f args).run Try.prog W = .ok (.enter f args) W)
    (hf : ∀ x, x ∈ l → ∀ W, Ext w W → Calls Try.prog f (#[.int .i64 x] ++ cs) W fun e W' => e = .returned (.bool (p x)) ∧ Ext W W') :
    Calls Try.prog 97 #[.slice sa l.length cap, .func (.func f) #[] cs] w fun e w' => e = .returned (.bool (l.any p)) ∧ Ext w w' := by
  have H := Lib.hid (indexFuncI64 l sa cap f cs p w hl hs hcall hf)
  clear hf hs hcall
  go_enter Try.func97, Try.ntmps97
  go_wp2_with fail
  refine H.out.mono ?_
  rintro e W' ⟨rfl, hb⟩
  go_wp2
  all_goals
    go_ret
    refine ⟨ret_bool ?_, hb⟩
    rw [← fidx_any]

set_option maxHeartbeats 400000 in
theorem indexFuncInt (l : List Int) (sa : Option Addr) (cap : Nat) (f : Nat) (cs : Array Value) (p : Int → Bool) (w : World)
    (hl : l.length ≤ 9223372036854775807)
    (hs : l = [] ∨ ∃ b off, sa = some ⟨b, off, none⟩ ∧ ∀ i, (h : i < l.length) → w.cell? ⟨b, off + i, none⟩ = some (.int .i64 l[i]))
    (hcall : ∀ args W, (callFunc f args).run Try.prog W = .ok (.enter f args) W)
    (hf : ∀ x, x ∈ l → ∀ W, Ext w W → Calls Try.prog f (#[.int .i64 x] ++ cs) W fun e W' => e = .returned (.bool (p x)) ∧ Ext W W') :
    Calls Try.prog 109 #[.slice sa l.length cap, .func (.func f) #[] cs] w fun e w' => e = .returned (.int .i64 (fidx p l)) ∧ Ext w w' := by
  have Hf := Lib.hid hf
  clear hf
  go_enter Try.func109, Try.ntmps109
  go_wp2
  go_loopw [8] (fun i W => ∃ k : Nat, k ≤ l.length ∧ i = .int .i64 k ∧ (∀ x ∈ l.take k, p x = false) ∧ Ext w W) (fun i _ => l.length - (intOf i).toNat)
  case atStart => exact ⟨0, Nat.zero_le _, rfl, by simp, Below.refl _ _⟩
  case round =>
    obtain ⟨k, hk, rfl, hno, hb⟩ := hrel
    have HN := Lib.hid hno
    clear hno
    by_cases hlt : k < l.length
    · have hs' : ∃ b off, sa = some ⟨b, off, none⟩ ∧ ∀ i, (h : i < l.length) → w.cell? ⟨b, off + i, none⟩ = some (.int .i64 l[i]) := by
        rcases hs with rfl | h
        · simp at hlt
        · exact h
      clear hs
      obtain ⟨b, off, rfl, hc⟩ := hs'
      have hc1 := hc k hlt
      have HC : Hid (∀ i, (h : i < l.length) → w.cell? ⟨b, off + i, none⟩ = some (.int .i64 l[i])) := Lib.hid hc
      clear hc
      have hcell := cell_ext hb hc1
      clear hc1
      go_wp2_with fail
      refine (Hf.out l[k] (List.getElem_mem hlt) _ hb).mono ?_
      rintro e W' ⟨rfl, hb'⟩
      cases hp : p l[k]
      · go_wp2
        go_roundw
        case rel => exact ⟨k + 1, by omega, by go_num, take_ext hlt HN.out hp, hb.trans' hb'⟩
        case measure => simp [intOf]; omega
      · go_wp2
        go_ret
        exact ⟨ret_int (fidx_at hlt HN.out hp).symm, hb.trans' hb'⟩
    · go_wp2
      go_ret
      exact ⟨ret_int (fidx_none (take_all hlt HN.out)).symm, hb⟩

set_option maxHeartbeats 400000 in
theorem containsFuncInt (l : List Int) (sa : Option Addr) (cap : Nat) (f : Nat) (cs : Array Value) (p : Int → Bool) (w : World)
    (hl : l.length ≤ 9223372036854775807)
    (hs : l = [] ∨ ∃ b off, sa = some ⟨b, off, none⟩ ∧ ∀ i, (h : i < l.length) → w.cell? ⟨b, off + i, none⟩ = some (.int .i64 l[i]))
    (hcall : ∀ args W, (callFunc f args).run Try.prog W = .ok (.enter f args) W)
    (hf : ∀ x, x ∈ l → ∀ W, Ext w W → Calls Try.prog f (#[.int .i64 x] ++ cs) W fun e W' => e = .returned (.bool (p x)) ∧ Ext W W') :
    Calls Try.prog 94 #[.slice sa l.length cap, .func (.func f) #[] cs] w fun e w' => e = .returned (.bool (l.any p)) ∧ Ext w w' := by
  have H := Lib.hid (indexFuncInt l sa cap f cs p w hl hs hcall hf)
  clear hf hs hcall
  go_enter Try.func94, Try.ntmps94
  go_wp2_with fail
  refine H.out.mono ?_
  rintro e W' ⟨rfl, hb⟩
  go_wp2
  all_goals
    go_ret
    refine ⟨ret_bool ?_, hb⟩
    rw [← fidx_any]

set_option maxHeartbeats 400000 in
theorem indexFuncCnt (l : List Cnt) (sa : Option Addr) (cap : Nat) (f : Nat) (cs : Array Value) (p : Cnt → Bool) (w : World)
    (hl : l.length ≤ 9223372036854775807)
    (hs : l = [] ∨ ∃ b off, sa = some ⟨b, off, none⟩ ∧ ∀ i, (h : i < l.length) → w.cell? ⟨b, off + i * 4, none⟩ = some (.int .i64 l[i].f) ∧ w.cell? ⟨b, off + i * 4 + 1, none⟩ = some (.int .i64 l[i].t) ∧ w.cell? ⟨b, off + i * 4 + 2, none⟩ = some (.int .i64 l[i].lo) ∧ w.cell? ⟨b, off + i * 4 + 3, none⟩ = some (.int .i64 l[i].hi))
    (hcall : ∀ args W, (callFunc f args).run Try.prog W = .ok (.enter f args) W)
    (hf : ∀ x, x ∈ l → ∀ W, Ext w W → Calls Try.prog f (#[.agg #[.int .i64 x.f, .int .i64 x.t, .int .i64 x.lo, .int .i64 x.hi]] ++ cs) W fun e W' => e = .returned (.bool (p x)) ∧ Ext W W') :
    Calls Try.prog 99 #[.slice sa l.length cap, .func (.func f) #[] cs] w fun e w' => e = .returned (.int .i64 (fidx p l)) ∧ Ext w w' := by
  have Hf := Lib.hid hf
  clear hf
  go_enter Try.func99, Try.ntmps99
  go_wp2
  go_loopw [8] (fun i W => ∃ k : Nat, k ≤ l.length ∧ i = .int .i64 k ∧ (∀ x ∈ l.take k, p x = false) ∧ Ext w W) (fun i _ => l.length - (intOf i).toNat)
  case atStart => exact ⟨0, Nat.zero_le _, rfl, by simp, Below.refl _ _⟩
  case round =>
    obtain ⟨k, hk, rfl, hno, hb⟩ := hrel
    have HN := Lib.hid hno
    clear hno
    by_cases hlt : k < l.length
    · have hs' : ∃ b off, sa = some ⟨b, off, none⟩ ∧ ∀ i, (h : i < l.length) → w.cell? ⟨b, off + i * 4, none⟩ = some (.int .i64 l[i].f) ∧ w.cell? ⟨b, off + i * 4 + 1, none⟩ = some (.int .i64 l[i].t) ∧ w.cell? ⟨b, off + i * 4 + 2, none⟩ = some (.int .i64 l[i].lo) ∧ w.cell? ⟨b, off + i * 4 + 3, none⟩ = some (.int .i64 l[i].hi) := by
        rcases hs with rfl | h
        · simp at hlt
        · exact h
      clear hs
      obtain ⟨b, off, rfl, hc⟩ := hs'
      have hc1 := hc k hlt
      have HC : Hid (∀ i, (h : i < l.length) → w.cell? ⟨b, off + i * 4, none⟩ = some (.int .i64 l[i].f) ∧ w.cell? ⟨b, off + i * 4 + 1, none⟩ = some (.int .i64 l[i].t) ∧ w.cell? ⟨b, off + i * 4 + 2, none⟩ = some (.int .i64 l[i].lo) ∧ w.cell? ⟨b, off + i * 4 + 3, none⟩ = some (.int .i64 l[i].hi)) := Lib.hid hc
      clear hc
      obtain ⟨a0, a1, a2, a3⟩ := hc1
      have c0 := cell_ext hb a0
      have c1 := cell_ext hb a1
      have c2 := cell_ext hb a2
      have c3 := cell_ext hb a3
      clear a0 a1 a2 a3
      go_wp2_with fail
      refine (Hf.out l[k] (List.getElem_mem hlt) _ hb).mono ?_
      rintro e W' ⟨rfl, hb'⟩
      cases hp : p l[k]
      · go_wp2
        go_roundw
        case rel => exact ⟨k + 1, by omega, by go_num, take_ext hlt HN.out hp, hb.trans' hb'⟩
        case measure => simp [intOf]; omega
      · go_wp2
        go_ret
        exact ⟨ret_int (fidx_at hlt HN.out hp).symm, hb.trans' hb'⟩
    · go_wp2
      go_ret
      exact ⟨ret_int (fidx_none (take_all hlt HN.out)).symm, hb⟩

set_option maxHeartbeats 400000 in
theorem containsFuncCnt (l : List Cnt) (sa : Option Addr) (cap : Nat) (f : Nat) (cs : Array Value) (p : Cnt → Bool) (w : World)
    (hl : l.length ≤ 9223372036854775807)
    (hs : l = [] ∨ ∃ b off, sa = some ⟨b, off, none⟩ ∧ ∀ i, (h : i < l.length) → w.cell? ⟨b, off + i * 4, none⟩ = some (.int .i64 l[i].f) ∧ w.cell? ⟨b, off + i * 4 + 1, none⟩ = some (.int .i64 l[i].t) ∧ w.cell? ⟨b, off + i * 4 + 2, none⟩ = some (.int .i64 l[i].lo) ∧ w.cell? ⟨b, off + i * 4 + 3, none⟩ = some (.int .i64 l[i].hi))
    (hcall : ∀ args W, (callFunc f args).run Try.prog W = .ok (.enter f args) W)
    (hf : ∀ x, x ∈ l → ∀ W, Ext w W → Calls Try.prog f (#[.agg #[.int .i64 x.f, .int .i64 x.t, .int .i64 x.lo, .int .i64 x.hi]] ++ cs) W fun e W' => e = .returned (.bool (p x)) ∧ Ext W W') :
    Calls Try.prog 68 #[.slice sa l.length cap, .func (.func f) #[] cs] w fun e w' => e = .returned (.bool (l.any p)) ∧ Ext w w' := by
  have H := Lib.hid (indexFuncCnt l sa cap f cs p w hl hs hcall hf)
  clear hf hs hcall
  go_enter Try.func68, Try.ntmps68
  go_wp2_with fail
  refine H.out.mono ?_
  rintro e W' ⟨rfl, hb⟩
  go_wp2
  all_goals
    go_ret
    refine ⟨ret_bool ?_, hb⟩
    rw [← fidx_any]

set_option maxHeartbeats 400000 in
theorem indexFuncStp (l : List Stp) (sa : Option Addr) (cap : Nat) (f : Nat) (cs : Array Value) (p : Stp → Bool) (w : World)
    (hl : l.length ≤ 9223372036854775807)
    (hs : l = [] ∨ ∃ b off, sa = some ⟨b, off, none⟩ ∧ ∀ i, (h : i < l.length) → w.cell? ⟨b, off + i * 3, none⟩ = some (.bool l[i].win) ∧ w.cell? ⟨b, off + i * 3 + 1, none⟩ = some (.int .i64 l[i].idx) ∧ w.cell? ⟨b, off + i * 3 + 2, none⟩ = some (.bool l[i].back))
    (hcall : ∀ args W, (callFunc f args).run Try.prog W = .ok (.enter f args) W)
    (hf : ∀ x, x ∈ l → ∀ W, Ext w W → Calls Try.prog f (#[.agg #[.bool x.win, .int .i64 x.idx, .bool x.back]] ++ cs) W fun e W' => e = .returned (.bool (p x)) ∧ Ext W W') :
    Calls Try.prog 100 #[.slice sa l.length cap, .func (.func f) #[] cs] w fun e w' => e = .returned (.int .i64 (fidx p l)) ∧ Ext w w' := by
  have Hf := Lib.hid hf
  clear hf
  go_enter Try.func100, Try.ntmps100
  go_wp2
  go_loopw [8] (fun i W => ∃ k : Nat, k ≤ l.length ∧ i = .int .i64 k ∧ (∀ x ∈ l.take k, p x = false) ∧ Ext w W) (fun i _ => l.length - (intOf i).toNat)
  case atStart => exact ⟨0, Nat.zero_le _, rfl, by simp, Below.refl _ _⟩
  case round =>
    obtain ⟨k, hk, rfl, hno, hb⟩ := hrel
    have HN := Lib.hid hno
    clear hno
    by_cases hlt : k < l.length
    · have hs' : ∃ b off, sa = some ⟨b, off, none⟩ ∧ ∀ i, (h : i < l.length) → w.cell? ⟨b, off + i * 3, none⟩ = some (.bool l[i].win) ∧ w.cell? ⟨b, off + i * 3 + 1, none⟩ = some (.int .i64 l[i].idx) ∧ w.cell? ⟨b, off + i * 3 + 2, none⟩ = some (.bool l[i].back) := by
        rcases hs with rfl | h
        · simp at hlt
        · exact h
      clear hs
      obtain ⟨b, off, rfl, hc⟩ := hs'
      have hc1 := hc k hlt
      have HC : Hid (∀ i, (h : i < l.length) → w.cell? ⟨b, off + i * 3, none⟩ = some (.bool l[i].win) ∧ w.cell? ⟨b, off + i * 3 + 1, none⟩ = some (.int .i64 l[i].idx) ∧ w.cell? ⟨b, off + i * 3 + 2, none⟩ = some (.bool l[i].back)) := Lib.hid hc
      clear hc
      obtain ⟨a0, a1, a2⟩ := hc1
      have c0 := cell_ext hb a0
      have c1 := cell_ext hb a1
      have c2 := cell_ext hb a2
      clear a0 a1 a2
      go_wp2_with fail
      refine (Hf.out l[k] (List.getElem_mem hlt) _ hb).mono ?_
      rintro e W' ⟨rfl, hb'⟩
      cases hp : p l[k]
      · go_wp2
        go_roundw
        case rel => exact ⟨k + 1, by omega, by go_num, take_ext hlt HN.out hp, hb.trans' hb'⟩
        case measure => simp [intOf]; omega
      · go_wp2
        go_ret
        exact ⟨ret_int (fidx_at hlt HN.out hp).symm, hb.trans' hb'⟩
    · go_wp2
      go_ret
      exact ⟨ret_int (fidx_none (take_all hlt HN.out)).symm, hb⟩

set_option maxHeartbeats 400000 in
theorem containsFuncStp (l : List Stp) (sa : Option Addr) (cap : Nat) (f : Nat) (cs : Array Value) (p : Stp → Bool) (w : World)
    (hl : l.length ≤ 9223372036854775807)
    (hs : l = [] ∨ ∃ b off, sa = some ⟨b, off, none⟩ ∧ ∀ i, (h : i < l.length) → w.cell? ⟨b, off + i * 3, none⟩ = some (.bool l[i].win) ∧ w.cell? ⟨b, off + i * 3 + 1, none⟩ = some (.int .i64 l[i].idx) ∧ w.cell? ⟨b, off + i * 3 + 2, none⟩ = some (.bool l[i].back))
    (hcall : ∀ args W, (callFunc f args).run Try.prog W = .ok (.enter f args) W)
    (hf : ∀ x, x ∈ l → ∀ W, Ext w W → Calls Try.prog f (#[.agg #[.bool x.win, .int .i64 x.idx, .bool x.back]] ++ cs) W fun e W' => e = .returned (.bool (p x)) ∧ Ext W W') :
    Calls Try.prog 70 #[.slice sa l.length cap, .func (.func f) #[] cs] w fun e w' => e = .returned (.bool (l.any p)) ∧ Ext w w' := by
  have H := Lib.hid (indexFuncStp l sa cap f cs p w hl hs hcall hf)
  clear hf hs hcall
  go_enter Try.func70, Try.ntmps70
  go_wp2_with fail
  refine H.out.mono ?_
  rintro e W' ⟨rfl, hb⟩
  go_wp2
  all_goals
    go_ret
    refine ⟨ret_bool ?_, hb⟩
    rw [← fidx_any]

set_option maxHeartbeats 400000 in
theorem indexFuncStpB (l : List Stp) (sa : Option Addr) (cap : Nat) (f : Nat) (bs : Array Value) (cs : Array Value) (p : Stp → Bool) (w : World)
    (hl : l.length ≤ 9223372036854775807)
    (hs : l = [] ∨ ∃ b off, sa = some ⟨b, off, none⟩ ∧ ∀ i, (h : i < l.length) → w.cell? ⟨b, off + i * 3, none⟩ = some (.bool l[i].win) ∧ w.cell? ⟨b, off + i * 3 + 1, none⟩ = some (.int .i64 l[i].idx) ∧ w.cell? ⟨b, off + i * 3 + 2, none⟩ = some (.bool l[i].back))
    (hcall : ∀ args W, (callFunc f args).run Try.prog W = .ok (.enter f args) W)
    (hf : ∀ x, x ∈ l → ∀ W, Ext w W → Calls Try.prog f (bs ++ #[.agg #[.bool x.win, .int .i64 x.idx, .bool x.back]] ++ cs) W fun e W' => e = .returned (.bool (p x)) ∧ Ext W W') :
    Calls Try.prog 100 #[.slice sa l.length cap, .func (.func f) bs cs] w fun e w' => e = .returned (.int .i64 (fidx p l)) ∧ Ext w w' := by
  have Hf := Lib.hid hf
  clear hf
  go_enter Try.func100, Try.ntmps100
  go_wp2
  go_loopw [8] (fun i W => ∃ k : Nat, k ≤ l.length ∧ i = .int .i64 k ∧ (∀ x ∈ l.take k, p x = false) ∧ Ext w W) (fun i _ => l.length - (intOf i).toNat)
  case atStart => exact ⟨0, Nat.zero_le _, rfl, by simp, Below.refl _ _⟩
  case round =>
    obtain ⟨k, hk, rfl, hno, hb⟩ := hrel
    have HN := Lib.hid hno
    clear hno
    by_cases hlt : k < l.length
    · have hs' : ∃ b off, sa = some ⟨b, off, none⟩ ∧ ∀ i, (h : i < l.length) → w.cell? ⟨b, off + i * 3, none⟩ = some (.bool l[i].win) ∧ w.cell? ⟨b, off + i * 3 + 1, none⟩ = some (.int .i64 l[i].idx) ∧ w.cell? ⟨b, off + i * 3 + 2, none⟩ = some (.bool l[i].back) := by
        rcases hs with rfl | h
        · simp at hlt
        · exact h
      clear hs
      obtain ⟨b, off, rfl, hc⟩ := hs'
      have hc1 := hc k hlt
      have HC : Hid (∀ i, (h : i < l.length) → w.cell? ⟨b, off + i * 3, none⟩ = some (.bool l[i].win) ∧ w.cell? ⟨b, off + i * 3 + 1, none⟩ = some (.int .i64 l[i].idx) ∧ w.cell? ⟨b, off + i * 3 + 2, none⟩ = some (.bool l[i].back)) := Lib.hid hc
      clear hc
      obtain ⟨a0, a1, a2⟩ := hc1
      have c0 := cell_ext hb a0
      have c1 := cell_ext hb a1
      have c2 := cell_ext hb a2
      clear a0 a1 a2
      go_wp2_with fail
      refine (Hf.out l[k] (List.getElem_mem hlt) _ hb).mono ?_
      rintro e W' ⟨rfl, hb'⟩
      cases hp : p l[k]
      · go_wp2
        go_roundw
        case rel => exact ⟨k + 1, by omega, by go_num, take_ext hlt HN.out hp, hb.trans' hb'⟩
        case measure => simp [intOf]; omega
      · go_wp2
        go_ret
        exact ⟨ret_int (fidx_at hlt HN.out hp).symm, hb.trans' hb'⟩
    · go_wp2
      go_ret
      exact ⟨ret_int (fidx_none (take_all hlt HN.out)).symm, hb⟩

set_option maxHeartbeats 400000 in
theorem containsFuncStpB (l : List Stp) (sa : Option Addr) (cap : Nat) (f : Nat) (bs : Array Value) (cs : Array Value) (p : Stp → Bool) (w : World)
    (hl : l.length ≤ 9223372036854775807)
    (hs : l = [] ∨ ∃ b off, sa = some ⟨b, off, none⟩ ∧ ∀ i, (h : i < l.length) → w.cell? ⟨b, off + i * 3, none⟩ = some (.bool l[i].win) ∧ w.cell? ⟨b, off + i * 3 + 1, none⟩ = some (.int .i64 l[i].idx) ∧ w.cell? ⟨b, off + i * 3 + 2, none⟩ = some (.bool l[i].back))
    (hcall : ∀ args W, (callFunc f args).run Try.prog W = .ok (.enter f args) W)
    (hf : ∀ x, x ∈ l → ∀ W, Ext w W → Calls Try.prog f (bs ++ #[.agg #[.bool x.win, .int .i64 x.idx, .bool x.back]] ++ cs) W fun e W' => e = .returned (.bool (p x)) ∧ Ext W W') :
    Calls Try.prog 70 #[.slice sa l.length cap, .func (.func f) bs cs] w fun e w' => e = .returned (.bool (l.any p)) ∧ Ext w w' := by
  have H := Lib.hid (indexFuncStpB l sa cap f bs cs p w hl hs hcall hf)
  clear hf hs hcall
  go_enter Try.func70, Try.ntmps70
  go_wp2_with fail
  refine H.out.mono ?_
  rintro e W' ⟨rfl, hb⟩
  go_wp2
  all_goals
    go_ret
    refine ⟨ret_bool ?_, hb⟩
    rw [← fidx_any]
end Go.Proofs.Ytgcldgchhdjnhaa
