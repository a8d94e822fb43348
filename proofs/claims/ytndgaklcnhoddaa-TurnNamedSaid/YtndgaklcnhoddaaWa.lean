/-
  slices.IndexFunc and slices.ContainsFunc at each type of elements that the chapter uses: where the first good element stands, whatever closure tells which are good (it must answer in every later world, and turn nothing that there was).
  The walks of CheckHall, many and stated of the program, and of CheckHall, IsWindow and Stated of the reference: the errors of halls and states.
  The walks of the functions on states: newState, list, visited, pulled.
  The walk of stated: a state of a hall, or the error.
  The walks of checkRow, Play and CheckCircle of the program.
  The walk of CheckCircle of the program.
  The walk of Turn of the program.
-/
import Derived.Test.YtndgaklcnhoddaaGm
import Derived.Test.YtndgaklcnhoddaaPl
import Derived.Lib.SliceRun
namespace Go.Proofs.Ytndgaklcnhoddaa
open Go.RowKit

set_option maxHeartbeats 400000 in
theorem indexFuncInt (l : List Int) (sa : Option Addr) (cap : Nat) (f : Nat) (cs : Array Value) (p : Int → Bool) (w : World)
    (hl : l.length ≤ 9223372036854775807)
    (hs : l = [] ∨ ∃ b off, sa = some ⟨b, off, none⟩ ∧ ∀ i, (h : i < l.length) → w.cell? ⟨b, off + i, none⟩ = some (.int .i64 l[i]))
    (hcall : ∀ args W, (callFunc f args).run Try.prog W = .ok (.enter f args) W)
    (hf : ∀ x, x ∈ l → ∀ W, Ext w W → Calls Try.prog f (#[.int .i64 x] ++ cs) W fun e W' => e = .returned (.bool (p x)) ∧ Ext W W') :
    Calls Try.prog 108 #[.slice sa l.length cap, .func (.func f) #[] cs] w fun e w' => e = .returned (.int .i64 (fidx p l)) ∧ Ext w w' := by
  have Hf := Lib.hid hf
  clear hf
  go_enter Try.func108, Try.ntmps108
  go_wp2
  go_loopw [8] (fun i W => ∃ k : Nat, k ≤ l.length ∧ i = .int .i64 k ∧ (∀ x ∈ l.take k, p x = false) ∧ Ext w W) (fun i _ => l.length - (intOf i).toNat)
  case atStart => exact ⟨0, Nat.zero_le _, rfl, by simp, Below.refl _ _⟩
  case round =>
    obtain ⟨k, hk, rfl, hno, hb⟩ := hrel
    have HN := Lib.hid hno
    clear hno
    by_cases hlt : k < l.length
    · have hs' : ∃ b off, sa = some ⟨b, off, none⟩ ∧ ∀ i, (h : i < l.length) → w.cell? ⟨b, off + i, none⟩ = some (.int .i64 l[i]) := by
        rcases hs with rfl | h
        · simp at hlt
        · exact h
      clear hs
      obtain ⟨b, off, rfl, hc⟩ := hs'
      have hc1 := hc k hlt
      have HC : Hid (∀ i, (h : i < l.length) → w.cell? ⟨b, off + i, none⟩ = some (.int .i64 l[i])) := Lib.hid hc
      clear hc
      have hcell := cell_ext hb hc1
      clear hc1
      go_wp2_with fail
      refine (Hf.out l[k] (List.getElem_mem hlt) _ hb).mono ?_
      rintro e W' ⟨rfl, hb'⟩
      cases hp : p l[k]
      · go_wp2
        go_roundw
        case rel => exact ⟨k + 1, by omega, by go_num, take_ext hlt HN.out hp, hb.trans' hb'⟩
        case measure => simp [intOf]; omega
      · go_wp2
        go_ret
        exact ⟨ret_int (fidx_at hlt HN.out hp).symm, hb.trans' hb'⟩
    · go_wp2
      go_ret
      exact ⟨ret_int (fidx_none (take_all hlt HN.out)).symm, hb⟩

set_option maxHeartbeats 400000 in
theorem containsFuncInt (l : List Int) (sa : Option Addr) (cap : Nat) (f : Nat) (cs : Array Value) (p : Int → Bool) (w : World)
    (hl : l.length ≤ 9223372036854775807)
    (hs : l = [] ∨ ∃ b off, sa = some ⟨b, off, none⟩ ∧ ∀ i, (h : i < l.length) → w.cell? ⟨b, off + i, none⟩ = some (.int .i64 l[i]))
    (hcall : ∀ args W, (callFunc f args).run Try.prog W = .ok (.enter f args) W)
    (hf : ∀ x, x ∈ l → ∀ W, Ext w W → Calls Try.prog f (#[.int .i64 x] ++ cs) W fun e W' => e = .returned (.bool (p x)) ∧ Ext W W') :
    Calls Try.prog 93 #[.slice sa l.length cap, .func (.func f) #[] cs] w fun e w' => e = .returned (.bool (l.any p)) ∧ Ext w w' := by
  have H := Lib.hid (indexFuncInt l sa cap f cs p w hl hs hcall hf)
  clear hf hs hcall
  go_enter Try.func93, Try.ntmps93
  go_wp2_with fail
  refine H.out.mono ?_
  rintro e W' ⟨rfl, hb⟩
  go_wp2
  all_goals
    go_ret
    refine ⟨ret_bool ?_, hb⟩
    rw [← fidx_any]

set_option maxHeartbeats 400000 in
theorem indexFuncDoom (l : List (List Int × Int)) (sa : Option Addr) (cap : Nat) (f : Nat) (cs : Array Value) (p : (List Int × Int) → Bool) (w : World)
    (hl : l.length ≤ 9223372036854775807)
    (hs : l = [] ∨ ∃ b off, sa = some ⟨b, off, none⟩ ∧ ∀ i, (h : i < l.length) → w.cell? ⟨b, off + i * 6, none⟩ = some (.int .i64 ((l[i]).1.getD 0 0)) ∧ w.cell? ⟨b, off + i * 6 + 1, none⟩ = some (.int .i64 ((l[i]).1.getD 1 0)) ∧ w.cell? ⟨b, off + i * 6 + 2, none⟩ = some (.int .i64 ((l[i]).1.getD 2 0)) ∧ w.cell? ⟨b, off + i * 6 + 3, none⟩ = some (.int .i64 ((l[i]).1.getD 3 0)) ∧ w.cell? ⟨b, off + i * 6 + 4, none⟩ = some (.int .i64 ((l[i]).1.getD 4 0)) ∧ w.cell? ⟨b, off + i * 6 + 5, none⟩ = some (.int .i64 (l[i]).2))
    (hcall : ∀ args W, (callFunc f args).run Try.prog W = .ok (.enter f args) W)
    (hf : ∀ x, x ∈ l → ∀ W, Ext w W → Calls Try.prog f (#[.agg #[.int .i64 ((x).1.getD 0 0), .int .i64 ((x).1.getD 1 0), .int .i64 ((x).1.getD 2 0), .int .i64 ((x).1.getD 3 0), .int .i64 ((x).1.getD 4 0), .int .i64 (x).2]] ++ cs) W fun e W' => e = .returned (.bool (p x)) ∧ Ext W W') :
    Calls Try.prog 112 #[.slice sa l.length cap, .func (.func f) #[] cs] w fun e w' => e = .returned (.int .i64 (fidx p l)) ∧ Ext w w' := by
  have Hf := Lib.hid hf
  clear hf
  go_enter Try.func112, Try.ntmps112
  go_wp2
  go_loopw [8] (fun i W => ∃ k : Nat, k ≤ l.length ∧ i = .int .i64 k ∧ (∀ x ∈ l.take k, p x = false) ∧ Ext w W) (fun i _ => l.length - (intOf i).toNat)
  case atStart => exact ⟨0, Nat.zero_le _, rfl, by simp, Below.refl _ _⟩
  case round =>
    obtain ⟨k, hk, rfl, hno, hb⟩ := hrel
    have HN := Lib.hid hno
    clear hno
    by_cases hlt : k < l.length
    · have hs' : ∃ b off, sa = some ⟨b, off, none⟩ ∧ ∀ i, (h : i < l.length) → w.cell? ⟨b, off + i * 6, none⟩ = some (.int .i64 ((l[i]).1.getD 0 0)) ∧ w.cell? ⟨b, off + i * 6 + 1, none⟩ = some (.int .i64 ((l[i]).1.getD 1 0)) ∧ w.cell? ⟨b, off + i * 6 + 2, none⟩ = some (.int .i64 ((l[i]).1.getD 2 0)) ∧ w.cell? ⟨b, off + i * 6 + 3, none⟩ = some (.int .i64 ((l[i]).1.getD 3 0)) ∧ w.cell? ⟨b, off + i * 6 + 4, none⟩ = some (.int .i64 ((l[i]).1.getD 4 0)) ∧ w.cell? ⟨b, off + i * 6 + 5, none⟩ = some (.int .i64 (l[i]).2) := by
        rcases hs with rfl | h
        · simp at hlt
        · exact h
      clear hs
      obtain ⟨b, off, rfl, hc⟩ := hs'
      have hc1 := hc k hlt
      have HC : Hid (∀ i, (h : i < l.length) → w.cell? ⟨b, off + i * 6, none⟩ = some (.int .i64 ((l[i]).1.getD 0 0)) ∧ w.cell? ⟨b, off + i * 6 + 1, none⟩ = some (.int .i64 ((l[i]).1.getD 1 0)) ∧ w.cell? ⟨b, off + i * 6 + 2, none⟩ = some (.int .i64 ((l[i]).1.getD 2 0)) ∧ w.cell? ⟨b, off + i * 6 + 3, none⟩ = some (.int .i64 ((l[i]).1.getD 3 0)) ∧ w.cell? ⟨b, off + i * 6 + 4, none⟩ = some (.int .i64 ((l[i]).1.getD 4 0)) ∧ w.cell? ⟨b, off + i * 6 + 5, none⟩ = some (.int .i64 (l[i]).2)) := Lib.hid hc
      clear hc
      obtain ⟨a0, a1, a2, a3, a4, a5⟩ := hc1
      have c0 := cell_ext hb a0
      have c1 := cell_ext hb a1
      have c2 := cell_ext hb a2
      have c3 := cell_ext hb a3
      have c4 := cell_ext hb a4
      have c5 := cell_ext hb a5
      clear a0 a1 a2 a3 a4 a5
      go_wp2_with fail
      refine (Hf.out l[k] (List.getElem_mem hlt) _ hb).mono ?_
      rintro e W' ⟨rfl, hb'⟩
      cases hp : p l[k]
      · go_wp2
        go_roundw
        case rel => exact ⟨k + 1, by omega, by go_num, take_ext hlt HN.out hp, hb.trans' hb'⟩
        case measure => simp [intOf]; omega
      · go_wp2
        go_ret
        exact ⟨ret_int (fidx_at hlt HN.out hp).symm, hb.trans' hb'⟩
    · go_wp2
      go_ret
      exact ⟨ret_int (fidx_none (take_all hlt HN.out)).symm, hb⟩

set_option maxHeartbeats 400000 in
theorem containsFuncDoom (l : List (List Int × Int)) (sa : Option Addr) (cap : Nat) (f : Nat) (cs : Array Value) (p : (List Int × Int) → Bool) (w : World)
    (hl : l.length ≤ 9223372036854775807)
    (hs : l = [] ∨ ∃ b off, sa = some ⟨b, off, none⟩ ∧ ∀ i, (h : i < l.length) → w.cell? ⟨b, off + i * 6, none⟩ = some (.int .i64 ((l[i]).1.getD 0 0)) ∧ w.cell? ⟨b, off + i * 6 + 1, none⟩ = some (.int .i64 ((l[i]).1.getD 1 0)) ∧ w.cell? ⟨b, off + i * 6 + 2, none⟩ = some (.int .i64 ((l[i]).1.getD 2 0)) ∧ w.cell? ⟨b, off + i * 6 + 3, none⟩ = some (.int .i64 ((l[i]).1.getD 3 0)) ∧ w.cell? ⟨b, off + i * 6 + 4, none⟩ = some (.int .i64 ((l[i]).1.getD 4 0)) ∧ w.cell? ⟨b, off + i * 6 + 5, none⟩ = some (.int .i64 (l[i]).2))
    (hcall : ∀ args W, (callFunc f args).run Try.prog W = .ok (.enter f args) W)
    (hf : ∀ x, x ∈ l → ∀ W, Ext w W → Calls Try.prog f (#[.agg #[.int .i64 ((x).1.getD 0 0), .int .i64 ((x).1.getD 1 0), .int .i64 ((x).1.getD 2 0), .int .i64 ((x).1.getD 3 0), .int .i64 ((x).1.getD 4 0), .int .i64 (x).2]] ++ cs) W fun e W' => e = .returned (.bool (p x)) ∧ Ext W W') :
    Calls Try.prog 102 #[.slice sa l.length cap, .func (.func f) #[] cs] w fun e w' => e = .returned (.bool (l.any p)) ∧ Ext w w' := by
  have H := Lib.hid (indexFuncDoom l sa cap f cs p w hl hs hcall hf)
  clear hf hs hcall
  go_enter Try.func102, Try.ntmps102
  go_wp2_with fail
  refine H.out.mono ?_
  rintro e W' ⟨rfl, hb⟩
  go_wp2
  all_goals
    go_ret
    refine ⟨ret_bool ?_, hb⟩
    rw [← fidx_any]
end Go.Proofs.Ytndgaklcnhoddaa
namespace Go.Proofs.Ytndgaklcnhoddaa
open Go.RowKit Go.Shelf
/-- from the one number to the other one -/
def inR (lo hi n : Int) : Bool := !(decide (n < lo) || decide (hi < n))
theorem any_inR (lo hi : Int) (l : List Int) : (!l.any fun n => decide (n < lo) || decide (hi < n)) = l.all (inR lo hi) := by
  induction l with
  | nil => rfl
  | cons a l ih => simp only [List.any_cons, List.all_cons, Bool.not_or, ← ih, inR]
set_option maxHeartbeats 400000 in
theorem within1_any (n lo hi : Int) (a b : Addr) (w : World) (h1 : w.cell? a = some (.int .i64 lo)) (h2 : w.cell? b = some (.int .i64 hi)) :
    Calls Try.prog 94 #[.int .i64 n, .pointer (some a), .pointer (some b)] w fun e w' => e = .returned (.bool (decide (n < lo) || decide (hi < n))) ∧ Ext w w' := by
  go_enter Try.func94, Try.ntmps94
  go_wp2
  all_goals
    go_ret
    exact ⟨ret_bool (by simp [*]), Below.refl _ _⟩
set_option maxHeartbeats 400000 in
theorem within_any (lo hi : Int) (v : Value) (l : List Int) (w : World) (hv : IsInts w .i64 v l) :
    Calls Try.prog 63 #[.int .i64 lo, .int .i64 hi, v] w fun e w' => e = .returned (.bool (l.all (inR lo hi))) ∧ Ext w w' := by
  obtain ⟨sa, cap, rfl, h1, h2, h3⟩ := hv.spec
  have H3 := Lib.hid h3
  clear h3 hv
  go_enter Try.func63, Try.ntmps63
  go_wp2_with fail
  have hE : Ext w ((w.alloc (.cells #[.int .i64 lo] 3)).alloc (.cells #[.int .i64 hi] 3)) := ((Below.refl _ _).alloc (Nat.le_refl _) _).alloc (by simp) _
  have e1 : ((w.alloc (.cells #[.int .i64 lo] 3)).alloc (.cells #[.int .i64 hi] 3)).cell? ⟨w.heap.size, 0, none⟩ = some (.int .i64 lo) := by simp [go_sem]
  have e2 : ((w.alloc (.cells #[.int .i64 lo] 3)).alloc (.cells #[.int .i64 hi] 3)).cell? ⟨w.heap.size + 1, 0, none⟩ = some (.int .i64 hi) := by simp [go_sem]
  refine (containsFuncInt l sa cap 94 #[.pointer (some ⟨w.heap.size, 0, none⟩), .pointer (some ⟨w.heap.size + 1, 0, none⟩)] (fun n => decide (n < lo) || decide (hi < n)) _ (by omega) (H3.out.imp id fun ⟨b, off, e, hc⟩ => ⟨b, off, e, fun i hi => cell_ext hE (hc i hi)⟩)
    (fun args W => Try.call94 args W) (fun x _ W hW => within1_any x lo hi _ _ W (cell_ext hW e1) (cell_ext hW e2))).mono ?_
  rintro e W' ⟨rfl, hb⟩
  clear e1 e2
  go_wp2
  all_goals
    go_ret
    refine ⟨ret_bool (a := !l.any fun n => decide (n < lo) || decide (hi < n)) ?_, hE.trans' hb⟩
    exact any_inR lo hi l
theorem isInts_one {w : World} {b cap : Nat} {x : Int} (h2 : 1 ≤ cap) (h3 : cap ≤ 9223372036854775807) (c0 : w.cell? ⟨b, 0, none⟩ = some (.int .i64 x)) :
    IsInts w .i64 (.slice (some ⟨b, 0, none⟩) 1 cap) [x] := by
  refine IsInts.mk (l := [x]) (off := 0) (by simpa using h2) h3 fun i hi => ?_
  match i, hi with
  | 0, _ => simpa using c0
theorem prod_take : ∀ (ks : List Int) (k : Nat) (hk : k < ks.length), prodK (ks.take (k + 1)) = prodK (ks.take k) * (ks[k] + 1)
  | a :: ks, 0, _ => by simp [prodK]
  | a :: ks, k + 1, hk => by
    have := prod_take ks k (by simpa using hk)
    simp only [List.take_succ_cons, prodK, this, List.getElem_cons_succ, Int.mul_assoc]
theorem prod_bd : ∀ (ks : List Int), (∀ k ∈ ks, 1 ≤ k ∧ k ≤ 12) → 1 ≤ prodK ks ∧ prodK ks ≤ 13 ^ ks.length
  | [], _ => by simp [prodK]
  | a :: ks, h => by
    obtain ⟨h1, h2⟩ := prod_bd ks fun x hx => h x (by simp [hx])
    have ha := h a (by simp)
    have h3 := Int.mul_le_mul (show a + 1 ≤ 13 by omega) h2 (by omega) (by omega)
    have h4 := Int.mul_le_mul (show (1 : Int) ≤ a + 1 by omega) h1 (by omega) (by omega)
    rw [prodK, List.length_cons, Int.pow_succ, Int.mul_comm (13 ^ _)]
    omega
theorem pow13 {n : Nat} (h : n ≤ 5) : (13 : Int) ^ n ≤ 371293 := by
  match n, h with
  | 0, _ => decide
  | 1, _ => decide
  | 2, _ => decide
  | 3, _ => decide
  | 4, _ => decide
  | 5, _ => decide
set_option maxHeartbeats 400000 in
theorem many_any (ks : List Int) (kv : Value) (w : World) (hv : IsInts w .i64 kv ks) (h5 : ks.length ≤ 5) (hb : ∀ k ∈ ks, 1 ≤ k ∧ k ≤ 12) :
    Calls Try.prog 69 #[.agg #[kv]] w fun e w' => e = .returned (.int .i64 (prodK ks)) ∧ Ext w w' := by
  obtain ⟨sa, cap, rfl, h1, h2, -⟩ := hv.spec
  have HV := Lib.hid hv
  have HB := Lib.hid hb
  clear hv hb
  go_enter Try.func69, Try.ntmps69
  go_wp2_with fail
  obtain ⟨w1, hw1⟩ : ∃ w1, w1 = w.alloc (.cells #[.slice sa ks.length cap] 24) := ⟨_, rfl⟩
  have hE1 : Ext w w1 := by rw [hw1]; exact (by repeat (first | exact Below.refl _ _ | refine Ext.al ?_ _ | refine Ext.dr ?_ | refine Ext.drN ?_ _ | refine Ext.gr ?_ _ | refine Ext.set ?_ (by simp) _ | (refine Ext.trans' ?_ (by assumption))))
  rw [← hw1]
  have HE1 := Lib.hid hE1
  clear hw1 hE1
  go_loopw [3, 9] (fun n i W => ∃ k : Nat, k ≤ ks.length ∧ i = .int .i64 k ∧ n = .int .i64 (prodK (ks.take k)) ∧ Ext w1 W) (fun _ i _ => ks.length - (intOf i).toNat)
  case atStart => exact ⟨0, Nat.zero_le _, rfl, by simp [prodK], Below.refl _ _⟩
  case round =>
    obtain ⟨k, hk, rfl, rfl, hE⟩ := hrel
    by_cases hlt : k < ks.length
    · rcases (HV.out.ext (HE1.out.trans' hE)).spec with ⟨sa', cap', e, -, -, hc⟩
      cases e
      rcases hc with hc | ⟨b, off, rfl, hc⟩
      · rw [hc] at hlt; simp at hlt
      have c0 := hc k hlt
      have hx := HB.out ks[k] (List.getElem_mem hlt)
      have hpt := prod_take ks k hlt
      have hb1 := prod_bd (ks.take k) fun x hx => HB.out x (List.mem_of_mem_take hx)
      have hb2 := prod_bd (ks.take (k + 1)) fun x hx => HB.out x (List.mem_of_mem_take hx)
      have hp1 := pow13 (n := (ks.take k).length) (by simp; omega)
      have hp2 := pow13 (n := (ks.take (k + 1)).length) (by simp; omega)
      obtain ⟨p, hp⟩ : ∃ p, p = prodK (ks.take k) := ⟨_, rfl⟩
      obtain ⟨x, hxx⟩ : ∃ x, x = ks[k] := ⟨_, rfl⟩
      rw [← hp, ← hxx] at hpt
      rw [← hp] at hb1 ⊢
      rw [← hxx] at c0 hx
      rw [hpt] at hb2
      have q1 : 0 ≤ p := by omega
      have q2 : p ≤ 371293 := by omega
      have q3 : 1 ≤ p * (x + 1) := by omega
      have q4 : p * (x + 1) ≤ 371293 := by omega
      have HPT := Lib.hid hpt
      have HE := Lib.hid hE
      clear hc hb1 hb2 hp1 hp2 hp hxx hpt hE
      go_wp2_with fail
      go_roundw
      case rel => exact ⟨k + 1, by omega, by go_num, by rw [HPT.out], HE.out⟩
      case measure => simp [intOf]; omega
    · obtain rfl : k = ks.length := by omega
      have HE := Lib.hid (HE1.out.trans' hE)
      clear hE
      go_wp2_with fail
      go_ret
      exact ⟨by first | rfl | (rw [List.take_length]; rfl) | simp, HE.out⟩
theorem len_in (n : Nat) (h : ¬ (n < 1 ∨ 5 < n)) : [(n : Int)].all (inR 1 5) = true := by simp [inR]; omega
theorem len_out (n : Nat) (h : n < 1 ∨ 5 < n) : [(n : Int)].all (inR 1 5) = false := by simp [inR]; omega
theorem all_inR {ks : List Int} {lo hi : Int} : ks.all (inR lo hi) = !(ks.any fun k => decide (k < lo) || decide (hi < k)) := (any_inR lo hi ks).symm
set_option maxHeartbeats 1000000 in
theorem checkHall_any (ks : List Int) (kv : Value) (w : World) (hv : IsInts w .i64 kv ks) :
    Calls Try.prog 22 #[.agg #[kv]] w fun e w' => e = .returned (.int .i64 (tchk ks)) ∧ Ext w w' := by
  obtain ⟨sa, cap, rfl, h1, h2, -⟩ := hv.spec
  have HV := Lib.hid hv
  clear hv
  go_enter Try.func22, Try.ntmps22
  go_upto_region 1 with (fail)
  obtain ⟨W0, hW0⟩ : ∃ W0, W0 = w.alloc (.cells #[.slice sa ks.length cap] 24) := ⟨_, rfl⟩
  have hE : Ext w W0 := by rw [hW0]; exact (by repeat (first | exact Below.refl _ _ | refine Ext.al ?_ _ | refine Ext.dr ?_ | refine Ext.drN ?_ _ | refine Ext.gr ?_ _ | refine Ext.set ?_ (by simp) _ | (refine Ext.trans' ?_ (by assumption))))
  have k0 : W0.cell? ⟨w.heap.size, 0, none⟩ = some (.slice sa ks.length cap) := by rw [hW0]; simp [go_sem]
  have hz : w.heap.size < W0.heap.size := World.block_lt_of_cell? _ _ k0
  have HS := Lib.hid (HV.out.ext hE)
  have HW := Lib.hid hE
  rw [← hW0]
  clear hW0 HV hE

  go_wp2_with fail
  refine callW (W0 := W0) (g := ⟨W0, Below.refl _ _⟩) (by exact (by repeat (first | exact Below.refl _ _ | refine Ext.al ?_ _ | refine Ext.dr ?_ | refine Ext.drN ?_ _ | refine Ext.gr ?_ _ | refine Ext.set ?_ (by simp) _ | (refine Ext.trans' ?_ (by assumption))))) (within_any 1 5 _ [(ks.length : Int)] _ (isInts_one (by omega) (by omega) (by simp [go_sem]))) fun g1 hgr => ?_
  clear hgr
  by_cases hn : ks.length < 1 ∨ 5 < ks.length
  · rw [len_out _ hn]
    go_wp2_with fail
    go_ret
    exact ⟨ret_int (by unfold tchk; rw [if_pos hn]), HW.out.trans' (grow_below W0 g1)⟩
  rw [len_in _ hn]
  go_wp2_with fail
  refine callW (W0 := W0) (g := g1) (by exact (by repeat (first | exact Below.refl _ _ | refine Ext.al ?_ _ | refine Ext.dr ?_ | refine Ext.drN ?_ _ | refine Ext.gr ?_ _ | refine Ext.set ?_ (by simp) _ | (refine Ext.trans' ?_ (by assumption))))) (within_any 1 12 (.slice sa ks.length cap) ks _ (HS.out.ext (by exact (by repeat (first | exact Below.refl _ _ | refine Ext.al ?_ _ | refine Ext.dr ?_ | refine Ext.drN ?_ _ | refine Ext.gr ?_ _ | refine Ext.set ?_ (by simp) _ | (refine Ext.trans' ?_ (by assumption))))))) fun g2 hgr => ?_
  clear hgr
  rw [all_inR]
  cases hb : ks.any fun k => decide (k < 1) || decide (12 < k)
  · have hkb : ∀ k ∈ ks, 1 ≤ k ∧ k ≤ 12 := fun k hk => by
      have := (List.any_eq_false.1 hb) k hk
      simp at this; omega
    go_wp2_with fail
    refine callW (W0 := W0) (g := g2) (by exact (by repeat (first | exact Below.refl _ _ | refine Ext.al ?_ _ | refine Ext.dr ?_ | refine Ext.drN ?_ _ | refine Ext.gr ?_ _ | refine Ext.set ?_ (by simp) _ | (refine Ext.trans' ?_ (by assumption))))) (many_any ks (.slice sa ks.length cap) _ (HS.out.ext (by exact (by repeat (first | exact Below.refl _ _ | refine Ext.al ?_ _ | refine Ext.dr ?_ | refine Ext.drN ?_ _ | refine Ext.gr ?_ _ | refine Ext.set ?_ (by simp) _ | (refine Ext.trans' ?_ (by assumption)))))) (by omega) hkb) fun g3 hgr => ?_
    clear hgr
    by_cases hp : 1000 < prodK ks
    · have hp' : decide (1000 < prodK ks) = true := by simpa using hp
      go_wp2_with fail
      go_ret
      exact ⟨ret_int (by unfold tchk; rw [if_neg hn, hb, if_neg (by simp), if_pos hp]), HW.out.trans' (grow_below W0 g3)⟩
    · have hp' : decide (1000 < prodK ks) = false := by simpa using hp
      go_wp2_with fail
      go_ret
      exact ⟨ret_int (by unfold tchk; rw [if_neg hn, hb, if_neg (by simp), if_neg (show ¬ 1000 < prodK ks by omega)]), HW.out.trans' (grow_below W0 g3)⟩
  · go_wp2_with fail
    go_ret
    exact ⟨ret_int (by unfold tchk; rw [if_neg hn, if_pos hb]), HW.out.trans' (grow_below W0 g2)⟩
end Go.Proofs.Ytndgaklcnhoddaa
namespace Go.Proofs.Ytndgaklcnhoddaa
open Go.RowKit Go.Shelf
/-- the number of a screw; those beyond hold nothing -/
def gt (s : List Int) (i : Nat) : Int := s.getD i 0
/-- a state's value -/
def stA (s : List Int) : Array Value := #[.int .i64 (gt s 0), .int .i64 (gt s 1), .int .i64 (gt s 2), .int .i64 (gt s 3), .int .i64 (gt s 4)]
def stV (s : List Int) : Value := .agg (stA s)
theorem gt_visit (s : List Int) (w i : Nat) : gt (visit s w) i = if i = w then 0 else gt s i := visit_at s w i
theorem stA_of {cur : Array Value} {f : Nat → Int} (h : IntsB cur 5 .i64 f) : cur = #[.int .i64 (f 0), .int .i64 (f 1), .int .i64 (f 2), .int .i64 (f 3), .int .i64 (f 4)] := by
  apply Array.ext_getElem?
  intro i
  by_cases hi : i < 5
  · rw [h.at_ i hi]
    match i, hi with
    | 0, _ => rfl
    | 1, _ => rfl
    | 2, _ => rfl
    | 3, _ => rfl
    | 4, _ => rfl
  · rw [Array.getElem?_eq_none (by rw [h.size]; omega), Array.getElem?_eq_none (by simp; omega)]
theorem pad_stA {l : List Int} (h5 : l.length ≤ 5) : ((#[Value.int .i64 0, .int .i64 0, .int .i64 0, .int .i64 0, .int .i64 0] : Array Value).toList.take 0 ++ l.map (Value.int .i64) ++ (#[Value.int .i64 0, .int .i64 0, .int .i64 0, .int .i64 0, .int .i64 0] : Array Value).toList.drop (0 + (l.map (Value.int .i64)).length)).toArray = stA l := by
  match l, h5 with
  | [], _ => rfl
  | [a], _ => rfl
  | [a, b], _ => rfl
  | [a, b, c], _ => rfl
  | [a, b, c, d], _ => rfl
  | [a, b, c, d, e], _ => rfl
set_option maxRecDepth 100000 in
set_option maxHeartbeats 1000000 in
theorem newState_any (l : List Int) (lv : Value) (w : World) (hv : IsInts w .i64 lv l) (h0 : 1 ≤ l.length) (h5 : l.length ≤ 5) :
    Calls Try.prog 92 #[lv] w fun e w' => e = .returned (stV l) ∧ Ext w w' := by
  obtain ⟨sa, cap, rfl, h1, h2, hc⟩ := hv.spec
  have HV := Lib.hid hv
  have HC := Lib.hid hc
  clear hv hc
  go_enter Try.func92, Try.ntmps92
  go_upto_region 2 with (fail)
  obtain ⟨W1, hW1⟩ : ∃ W1, W1 = (w.alloc (.cells #[.int .i64 0, .int .i64 0, .int .i64 0, .int .i64 0, .int .i64 0] 73)).alloc (.cells #[.int .i64 0, .int .i64 0, .int .i64 0, .int .i64 0, .int .i64 0] 73) := ⟨_, rfl⟩
  have hE : Ext w W1 := by rw [hW1]; exact (by repeat (first | exact Below.refl _ _ | refine Ext.al ?_ _ | refine Ext.dr ?_ | refine Ext.drN ?_ _ | refine Ext.gr ?_ _ | refine Ext.set ?_ (by simp) _ | (refine Ext.trans' ?_ (by assumption))))
  have hg0 : W1.heap[w.heap.size]? = some (.cells #[.int .i64 0, .int .i64 0, .int .i64 0, .int .i64 0, .int .i64 0] 73 (0, 0)) := by
    rw [hW1]; show (Array.push (Array.push _ _) _)[w.heap.size]? = _; rw [Array.getElem?_push, if_neg (by simp), Array.getElem?_push, if_pos rfl]
  have hg1 : W1.heap[w.heap.size + 1]? = some (.cells #[.int .i64 0, .int .i64 0, .int .i64 0, .int .i64 0, .int .i64 0] 73 (0, 0)) := by
    rw [hW1]; show (Array.push (Array.push _ _) _)[w.heap.size + 1]? = _; rw [Array.getElem?_push, if_pos (by simp)]
  rw [← hW1]
  have hclr : ∀ ty, (Builtin.clear_ #[22] ty #[.slice (some ⟨w.heap.size + 1, 0, none⟩) 5 5]).run Try.prog W1 = .ok (.tuple #[]) (W1.setCells (w.heap.size + 1) 0 (List.replicate 5 (.int .i64 0))) := fun ty =>
    Lib.run_clear_slice _ 22 3 ty (.int .i64 0) (by kernel_rfl) (fun w => by kernel_rfl) rfl rfl (w.heap.size + 1) 0 5 5 (by omega) (fun j hj => by rw [cell_of_row _ _ _ _ _ _ hg1]; match j, hj with | 0, _ => rfl | 1, _ => rfl | 2, _ => rfl | 3, _ => rfl | 4, _ => rfl) (fun j hj => by simp [World.frozen?, hg1])
  have HE := Lib.hid hE
  have HG0 := Lib.hid hg0
  have HG1 := Lib.hid hg1
  clear hE hW1 hg0 hg1
  go_upto_region 3 with (simp only [hclr])
  have hg2 : (W1.setCells (w.heap.size + 1) 0 [.int .i64 0, .int .i64 0, .int .i64 0, .int .i64 0, .int .i64 0]).heap[w.heap.size + 1]? = some (.cells #[.int .i64 0, .int .i64 0, .int .i64 0, .int .i64 0, .int .i64 0] 73 (0, 0)) :=
    heap_setCell_row (heap_setCell_row (heap_setCell_row (heap_setCell_row (heap_setCell_row HG1.out 0 _) 1 _) 2 _) 3 _) 4 _
  have hk2 : Below (w.heap.size + 1) W1 (W1.setCells (w.heap.size + 1) 0 [.int .i64 0, .int .i64 0, .int .i64 0, .int .i64 0, .int .i64 0]) :=
    (((((Below.refl _ W1).setCell (by simp) _).setCell (by simp) _).setCell (by simp) _).setCell (by simp) _).setCell (by simp) _
  obtain ⟨W2, hW2⟩ : ∃ W2, W2 = W1.setCells (w.heap.size + 1) 0 [.int .i64 0, .int .i64 0, .int .i64 0, .int .i64 0, .int .i64 0] := ⟨_, rfl⟩
  rw [← hW2] at hg2 hk2 ⊢
  rcases HC.out with hl | ⟨b, off, rfl, hc⟩
  · rw [hl] at h0; simp at h0
  have hsrc : ∀ j v, (l.map (Value.int .i64))[j]? = some v → W2.cell? ((⟨b, off, none⟩ : Addr).add j) = some v := fun j v hj => by
    rw [addr_add]
    rw [List.getElem?_map] at hj
    obtain ⟨x, hx, rfl⟩ := Option.map_eq_some_iff.1 hj
    obtain ⟨hjl, rfl⟩ := List.getElem?_eq_some_iff.1 hx
    have hcell := hc j hjl
    have hbl := World.block_lt_of_cell? _ _ hcell
    simp only at hbl
    exact cell_below hk2 (by simp only; omega) (cell_ext HE.out hcell)
  have hone : ∀ v ∈ l.map (Value.int .i64), v.oneCell' = true := by
    intro v hv; obtain ⟨x, _, rfl⟩ := List.mem_map.1 hv; rfl
  have hcopy : ∀ ty, (Builtin.copy_ #[22, 22] ty #[.slice (some ⟨w.heap.size + 1, 0, none⟩) 5 5, .slice (some ⟨b, off, none⟩) l.length cap]).run Try.prog W2 = .ok (goInt (l.map (Value.int .i64)).length) (W2.setRow (w.heap.size + 1) (stA l)) := fun ty => by
    have := run_copy_row (P := Try.prog) W2 22 22 ty 3 (w.heap.size + 1) 0 5 5 ⟨b, off, none⟩ l.length cap #[.int .i64 0, .int .i64 0, .int .i64 0, .int .i64 0, .int .i64 0] 73 (l.map (Value.int .i64)) (by kernel_rfl) (by kernel_rfl) hg2 (by rw [List.length_map]; exact (Nat.min_eq_left h5).symm) hsrc (by simp; omega) hone
    rw [this]
    congr 2
    exact pad_stA h5
  have HG2 := Lib.hid hg2
  have HK2 := Lib.hid (HE.out.trans (hk2.mono (by omega)) : Ext w W2)
  have HK3 := Lib.hid hk2
  have hb3 : Below (w.heap.size + 1) W2 (W2.setRow (w.heap.size + 1) (stA l)) := below_setRow (Below.refl _ _) (Nat.le_refl _) _
  have hg3 := setRow_heap W2 (w.heap.size + 1) _ (stA l) 73 (0, 0) hg2
  clear hW2 hclr hg2 hk2 hsrc hone
  go_upto_region 4 with (simp only [hcopy])
  obtain ⟨w3, hw3⟩ : ∃ w3, w3 = W2.setRow (w.heap.size + 1) (stA l) := ⟨_, rfl⟩
  rw [← hw3] at hb3 hg3 ⊢
  clear hcopy hw3
  have hg3' := hg3
  unfold stA at hg3'
  have c0 : w3.cell? ⟨w.heap.size + 1, 0, none⟩ = some (.int .i64 (gt l 0)) := by rw [cell_of_row _ _ _ _ _ _ hg3']; rfl
  have c1 : w3.cell? ⟨w.heap.size + 1, 1, none⟩ = some (.int .i64 (gt l 1)) := by rw [cell_of_row _ _ _ _ _ _ hg3']; rfl
  have c2 : w3.cell? ⟨w.heap.size + 1, 2, none⟩ = some (.int .i64 (gt l 2)) := by rw [cell_of_row _ _ _ _ _ _ hg3']; rfl
  have c3 : w3.cell? ⟨w.heap.size + 1, 3, none⟩ = some (.int .i64 (gt l 3)) := by rw [cell_of_row _ _ _ _ _ _ hg3']; rfl
  have c4 : w3.cell? ⟨w.heap.size + 1, 4, none⟩ = some (.int .i64 (gt l 4)) := by rw [cell_of_row _ _ _ _ _ _ hg3']; rfl
  have hr : w3.heap[w.heap.size]? = some (.cells #[.int .i64 0, .int .i64 0, .int .i64 0, .int .i64 0, .int .i64 0] 73 (0, 0)) :=
    (hb3.block _ (by omega)).trans ((HK3.out.block _ (by omega)).trans HG0.out)
  have r0 : w3.cell? ⟨w.heap.size, 0, none⟩ = some (.int .i64 0) := by rw [cell_of_row _ _ _ _ _ _ hr]; rfl
  have r1 : w3.cell? ⟨w.heap.size, 1, none⟩ = some (.int .i64 0) := by rw [cell_of_row _ _ _ _ _ _ hr]; rfl
  have r2 : w3.cell? ⟨w.heap.size, 2, none⟩ = some (.int .i64 0) := by rw [cell_of_row _ _ _ _ _ _ hr]; rfl
  have r3 : w3.cell? ⟨w.heap.size, 3, none⟩ = some (.int .i64 0) := by rw [cell_of_row _ _ _ _ _ _ hr]; rfl
  have r4 : w3.cell? ⟨w.heap.size, 4, none⟩ = some (.int .i64 0) := by rw [cell_of_row _ _ _ _ _ _ hr]; rfl
  have rf : ∀ o, w3.frozen? ⟨w.heap.size, o, none⟩ = false := fun o => by simp [World.frozen?, hr]
  have HW3 := Lib.hid (HK2.out.trans (hb3.mono (by omega)) : Ext w w3)
  clear hr hg3 hg3' hb3
  go_wp2_with fail
  refine bodyPost_ret (v := stV l) (by simp [results, Try.results92, go_sem, stV, stA, r0, r1, r2, r3, r4]) rfl ⟨rfl, ?_⟩
  exact ((((HW3.out.setCell (Nat.le_refl _) _).setCell (Nat.le_refl _) _).setCell (Nat.le_refl _) _).setCell (Nat.le_refl _) _).setCell (Nat.le_refl _) _
/-- a state that was found is a state's value -/
theorem stA_eq {s : List Int} {f : Nat → Int} (h : ∀ i, i < 5 → f i = gt s i) : (#[.int .i64 (f 0), .int .i64 (f 1), .int .i64 (f 2), .int .i64 (f 3), .int .i64 (f 4)] : Array Value) = stA s := by
  unfold stA; rw [h 0 (by omega), h 1 (by omega), h 2 (by omega), h 3 (by omega), h 4 (by omega)]
theorem stA_ints (s : List Int) : IntsB (stA s) 5 .i64 (gt s) := ⟨rfl, fun j hj => match j, hj with | 0, _ => rfl | 1, _ => rfl | 2, _ => rfl | 3, _ => rfl | 4, _ => rfl⟩
theorem ints_one {l : List Int} : ∀ r ∈ l.map (fun n => [Value.int .i64 n]), ∀ u ∈ r, u.oneCell' = true := by
  intro r hr; obtain ⟨x, _, rfl⟩ := List.mem_map.1 hr; simp [Value.oneCell']
theorem ints_len {l : List Int} : ∀ r ∈ l.map (fun n => [Value.int .i64 n]), r.length = 1 := by
  intro r hr; obtain ⟨x, _, rfl⟩ := List.mem_map.1 hr; rfl
set_option maxRecDepth 100000 in
set_option maxHeartbeats 1000000 in
theorem clone_any (l : List Int) (b off n cap : Nat) (w : World) (hv : IsInts w .i64 (.slice (some ⟨b, off, none⟩) n cap) l) (hl : l.length ≤ 1000000) :
    Calls Try.prog 96 #[.slice (some ⟨b, off, none⟩) n cap] w fun e W => ∃ v, e = .returned v ∧ Ext w W ∧ Owns W w.heap.size 3 1 v (l.map iRow) := by
  have HV := Lib.hid hv
  clear hv
  have heq : ∀ W, (binOp .eql 22 (.slice (some ⟨b, off, none⟩) n cap) (.slice none 0 0)).run Try.prog W = .ok (.bool false) W := fun W => Lib.run_eql_slice_nil W 22 3 _ _ _ _ _ elInt.und
  go_enter Try.func96, Try.ntmps96
  go_wp2_with (at_builtin; refine wpNew rfl (.tmp 5) (.tmp 6) elInt rfl w.heap.size rfl (isNew _ _ _ _ (Nat.le_refl _)) rfl (l.map iRow) ints_len (HV.out.ext (by exact (by repeat (first | exact Below.refl _ _ | refine Ext.al ?_ _ | refine Ext.dr ?_ | refine Ext.drN ?_ _ | refine Ext.gr ?_ _ | refine Ext.set ?_ (by simp) _ | (refine Ext.trans' ?_ (by assumption)))))) ints_one (by simpa using hl) (by simp) ?_)
  intro v' w' hown' hE'
  obtain ⟨sa', n', cap', rfl⟩ := hown'.isSlice
  have HO := Lib.hid hown'
  have HE := Lib.hid hE'
  clear hown' hE'
  go_wp2_with fail
  go_ret
  exact ⟨_, rfl, Ext.trans' (by exact (by repeat (first | exact Below.refl _ _ | refine Ext.al ?_ _ | refine Ext.dr ?_ | refine Ext.drN ?_ _ | refine Ext.gr ?_ _ | refine Ext.set ?_ (by simp) _ | (refine Ext.trans' ?_ (by assumption))))) HE.out, HO.out⟩
theorem IntsB.congr {cur : Array Value} {n : Nat} {k : IntKind} {f g : Nat → Int} (h : IntsB cur n k f) (e : ∀ j, j < n → f j = g j) : IntsB cur n k g := ⟨h.size, fun j hj => by rw [h.at_ j hj, e j hj]⟩
set_option maxRecDepth 100000 in
set_option maxHeartbeats 1000000 in
theorem list_own (s : List Int) (ks : List Int) (kv : Value) (w : World) (hv : IsInts w .i64 kv ks) (hs : s.length = ks.length) (h5 : ks.length ≤ 5) :
    Calls Try.prog 68 #[stV s, .agg #[kv]] w fun e W => ∃ v, e = .returned v ∧ Ext w W ∧ Owns W w.heap.size 3 1 v (s.map iRow) := by
  obtain ⟨sa, cap, rfl, h1, h2, -⟩ := hv.spec
  clear hv
  have h5i : (ks.length : Int) ≤ 5 := by omega
  unfold stV stA
  go_enter Try.func68, Try.ntmps68
  have hV : ∀ W, W.heap[w.heap.size]? = some (.cells (stA s) 73 (0, 0)) → IsInts W .i64 (.slice (some ⟨w.heap.size, 0, none⟩) ks.length 5) s := fun W hg => by
    have := IsInts.mk (w := W) (k := .i64) (l := s) (b := w.heap.size) (off := 0) (cap := 5) (by omega) (by omega) fun i hi => by
      rw [cell_of_row _ _ _ _ _ _ hg, Nat.zero_add, (stA_ints s).at_ i (by omega)]
      unfold gt
      rw [List.getD_eq_getElem?_getD, List.getElem?_eq_getElem hi]; rfl
    rwa [hs] at this
  have HV := Lib.hid hV
  clear hV
  go_wp2_with fail
  refine (clone_any s w.heap.size 0 ks.length 5 _ (HV.out _ ?_) (by omega)).mono ?_
  · show (Array.push (Array.push _ _) _)[w.heap.size]? = _; rw [Array.getElem?_push, if_neg (by simp), Array.getElem?_push, if_pos rfl]; rfl
  rintro e W1 ⟨v, rfl, hE, hO⟩
  have HO := Lib.hid hO
  obtain ⟨va, vn, vc, rfl⟩ := hO.isSlice
  have HE := Lib.hid (Ext.trans' (by exact (by repeat (first | exact Below.refl _ _ | refine Ext.al ?_ _ | refine Ext.dr ?_ | refine Ext.drN ?_ _ | refine Ext.gr ?_ _ | refine Ext.set ?_ (by simp) _ | (refine Ext.trans' ?_ (by assumption))))) hE : Ext w W1)
  clear hO hE
  go_wp2_with fail
  go_ret
  exact ⟨_, rfl, HE.out, HO.out.base (by simp; omega)⟩
theorem list_any (s : List Int) (ks : List Int) (kv : Value) (w : World) (hv : IsInts w .i64 kv ks) (hs : s.length = ks.length) (h5 : ks.length ≤ 5) :
    Calls Try.prog 68 #[stV s, .agg #[kv]] w fun e W => ∃ v, e = .returned v ∧ Ext w W ∧ IsInts W .i64 v s :=
  (list_own s ks kv w hv hs h5).mono fun _ _ ⟨v, h1, h2, h3⟩ => ⟨v, h1, h2, h3.oneInts⟩
/-- the function value of a predicate on windows: it answers in each later world, and turns nothing that there was -/
structure Pulls (w : World) (fv : Value) (p : Nat → Bool) : Prop where
  ex : ∃ (f : Nat) (cs : Array Value), fv = .func (.func f) #[] cs ∧ (∀ args W, (callFunc f args).run Try.prog W = .ok (.enter f args) W) ∧
    ∀ (i : Nat) W, i < 5 → Ext w W → Calls Try.prog f (#[.int .i64 i] ++ cs) W fun e W' => e = .returned (.bool (p i)) ∧ Ext W W'
theorem Pulls.ext {w w' : World} (e : Ext w w') {fv : Value} {p : Nat → Bool} (h : Pulls w fv p) : Pulls w' fv p := by
  obtain ⟨f, cs, h1, h2, h3⟩ := h.ex
  exact ⟨f, cs, h1, h2, fun i W hi hW => h3 i W hi (e.trans' hW)⟩
theorem all_pulls (w : World) : Pulls w (.func (.func 71) #[] #[]) allW :=
  ⟨71, #[], rfl, fun args W => Try.call71 args W, fun i W _ _ => by
    go_enter Try.func71, Try.ntmps71
    go_wp2
    go_ret
    exact ⟨rfl, Below.refl _ _⟩⟩
/-- the first windows have pulled -/
def upTo (p : Nat → Bool) (s : List Int) (k i : Nat) : Int := if i < k ∧ p i = true then gt s i + 1 else gt s i
theorem upTo_all {p : Nat → Bool} {s : List Int} {i : Nat} : upTo p s s.length i = gt (upP p s) i := by
  unfold upTo
  by_cases hi : i < s.length
  · unfold gt
    rw [upP_at p s i hi]
    simp [hi]
  · rw [if_neg (by omega)]
    unfold gt
    rw [List.getD_eq_getElem?_getD, List.getElem?_eq_none (by omega), List.getD_eq_getElem?_getD, List.getElem?_eq_none (by rw [upP_len]; omega)]
def RetPull (p : Nat → Bool) (ks s : List Int) (w : World) (e : Ending) (w' : World) : Prop :=
  e = .returned (if fullP p ks s then .tuple #[stV [], .bool false] else .tuple #[stV (upP p s), .bool true]) ∧ Ext w w'
set_option maxRecDepth 100000 in
set_option maxHeartbeats 1000000 in
theorem pulled_any (s ks : List Int) (kv fv : Value) (p : Nat → Bool) (w : World) (hv : IsInts w .i64 kv ks) (hp : Pulls w fv p) (hl : s.length = ks.length) (h5 : ks.length ≤ 5) (hb : ∀ i, i < ks.length → 0 ≤ gt s i ∧ gt s i ≤ 1000) :
    Calls Try.prog 64 #[stV s, .agg #[kv], fv] w (RetPull p ks s w) := by
  obtain ⟨sa, cap, rfl, h1, h2, -⟩ := hv.spec
  obtain ⟨f, cs, rfl, hcall, hf⟩ := hp.ex
  have HV := Lib.hid hv
  have HF := Lib.hid hf
  have HB := Lib.hid hb
  clear hv hp hf hb
  rw [show stV s = .agg (stA s) from rfl]
  go_enter Try.func64, Try.ntmps64
  go_upto_region 1 with (fail)
  obtain ⟨W0, hW0⟩ : ∃ W0, W0 = ((w.alloc (.cells (stA s) 73)).alloc (.cells #[.slice sa ks.length cap] 24)).alloc (.cells #[.int .i64 0, .int .i64 0, .int .i64 0, .int .i64 0, .int .i64 0] 73) := ⟨_, rfl⟩
  have hE : Ext w W0 := by rw [hW0]; exact (by repeat (first | exact Below.refl _ _ | refine Ext.al ?_ _ | refine Ext.dr ?_ | refine Ext.drN ?_ _ | refine Ext.gr ?_ _ | refine Ext.set ?_ (by simp) _ | (refine Ext.trans' ?_ (by assumption))))
  have hs0 : W0.heap[w.heap.size]? = some (.cells (stA s) 73 (0, 0)) := by
    rw [hW0]; show (Array.push (Array.push (Array.push _ _) _) _)[w.heap.size]? = _; rw [Array.getElem?_push, if_neg (by simp; omega), Array.getElem?_push, if_neg (by simp), Array.getElem?_push, if_pos rfl]
  have hr0 : W0.heap[w.heap.size + 1 + 1]? = some (.cells #[.int .i64 0, .int .i64 0, .int .i64 0, .int .i64 0, .int .i64 0] 73 (0, 0)) := by
    rw [hW0]; show (Array.push (Array.push (Array.push _ _) _) _)[w.heap.size + 1 + 1]? = _; rw [Array.getElem?_push, if_pos (by simp)]
  have k0 : W0.cell? ⟨w.heap.size + 1, 0, none⟩ = some (.slice sa ks.length cap) := by rw [hW0]; simp [go_sem]
  rw [← hW0]
  have HE0 := Lib.hid hE
  have HS0 := Lib.hid hs0
  have HR0 := Lib.hid hr0
  clear hW0 hE hs0 hr0
  go_wp2_with fail
  go_loopw [13] (fun i W => ∃ (k : Nat) (cur : Array Value), k ≤ ks.length ∧ i = .int .i64 k ∧ (∀ j, j < k → p j = true → gt s j + 1 ≤ gt ks j) ∧ Ext w W ∧ W.heap[w.heap.size]? = some (.cells cur 73 (0, 0)) ∧ IntsB cur 5 .i64 (upTo p s k) ∧ W.heap[w.heap.size + 1 + 1]? = some (.cells #[.int .i64 0, .int .i64 0, .int .i64 0, .int .i64 0, .int .i64 0] 73 (0, 0))) (fun i _ => ks.length - (intOf i).toNat)
  case atStart => exact ⟨0, stA s, by omega, rfl, by omega, HE0.out, HS0.out, (stA_ints s).congr fun j _ => by unfold upTo; rw [if_neg (by omega)], HR0.out⟩
  case round =>
    obtain ⟨k, cur, hk, rfl, hno, hE, hc, hI, hr⟩ := hrel
    have HNO := Lib.hid hno
    have HR := Lib.hid hr
    have HI := Lib.hid hI
    have hzw : w.heap.size < wr.heap.size := (Array.getElem?_eq_some_iff.1 hc).1
    by_cases hlt : k < ks.length
    · have hk5 : (k : Int) < 5 := by omega
      rcases (HV.out.ext hE).spec with ⟨sa', cap', e, -, -, hcc⟩
      cases e
      rcases hcc with hcc | ⟨b, off, rfl, hcc⟩
      · rw [hcc] at hlt; simp at hlt
      have c0 := hcc k hlt
      have hgk : ks[k] = gt ks k := by unfold gt; rw [List.getD_eq_getElem?_getD, List.getElem?_eq_getElem hlt]; rfl
      rw [hgk] at c0
      have hki : (k : Int) < (ks.length : Int) := by omega
      have HE := Lib.hid hE
      have HC := Lib.hid hc
      clear hcc hgk hE hc hI hr hno
      go_wp2_with fail
      refine (HF.out k _ (by omega) HE.out).mono ?_
      rintro e W1 ⟨rfl, hE1⟩
      have hc1 := (hE1.block _ hzw).trans HC.out
      have hr1 := (hE1.block _ (Array.getElem?_eq_some_iff.1 HR.out).1).trans HR.out
      have HE1 := Lib.hid (HE.out.trans' hE1)
      have HC1 := Lib.hid hc1
      have HR1 := Lib.hid hr1
      obtain ⟨b0, b1⟩ := HB.out k hlt
      obtain ⟨x, hx⟩ : ∃ x, x = gt s k := ⟨_, rfl⟩
      obtain ⟨m, hm⟩ : ∃ m, m = gt ks k := ⟨_, rfl⟩
      have d0 : W1.cell? ⟨w.heap.size, k, none⟩ = some (.int .i64 x) := by
        rw [cell_of_row _ _ _ _ _ _ hc1, HI.out.at_ k (by omega), hx]; unfold upTo; rw [if_neg (by omega)]
      have df : W1.frozen? ⟨w.heap.size, k, none⟩ = false := by simp [World.frozen?, hc1]
      have hzw1 : w.heap.size < W1.heap.size := (Array.getElem?_eq_some_iff.1 hc1).1
      rw [← hx] at b0 b1
      rw [← hm]
      have HX := Lib.hid hx
      have HM := Lib.hid hm
      clear hE1 hc1 hr1 c0 hx hm
      cases hpk : p k
      · go_wp2_with fail
        go_roundw
        case rel => exact ⟨k + 1, cur, by omega, by go_num, fun j hj hp => by
            by_cases e : j = k
            · subst e; rw [hpk] at hp; cases hp
            · exact HNO.out j (by omega) hp, HE1.out, HC1.out, HI.out.congr fun j _ => by
            unfold upTo
            by_cases e : j = k
            · subst e; rw [if_neg (by omega), if_neg (by rw [hpk]; simp)]
            · by_cases h : j < k ∧ p j = true
              · rw [if_pos h, if_pos ⟨by omega, h.2⟩]
              · rw [if_neg h, if_neg (fun hh => h ⟨by omega, hh.2⟩)], HR1.out⟩
        case measure => simp [intOf]; omega
      · by_cases hfull : m < x + 1
        · have hf' : decide (m < x + 1) = true := decide_eq_true hfull
          have hfl : fullP p ks s = true := by
            cases e : fullP p ks s with
            | true => rfl
            | false =>
              have := fullP_false.1 e k hlt hpk
              have h1 := HX.out
              have h2 := HM.out
              unfold gt at h1 h2
              omega
          have HFL := Lib.hid hfl
          clear hfl
          have r0 : W1.cell? ⟨w.heap.size + 1 + 1, 0, none⟩ = some (.int .i64 0) := by rw [cell_of_row _ _ _ _ _ _ HR1.out]; rfl
          have r1 : W1.cell? ⟨w.heap.size + 1 + 1, 1, none⟩ = some (.int .i64 0) := by rw [cell_of_row _ _ _ _ _ _ HR1.out]; rfl
          have r2 : W1.cell? ⟨w.heap.size + 1 + 1, 2, none⟩ = some (.int .i64 0) := by rw [cell_of_row _ _ _ _ _ _ HR1.out]; rfl
          have r3 : W1.cell? ⟨w.heap.size + 1 + 1, 3, none⟩ = some (.int .i64 0) := by rw [cell_of_row _ _ _ _ _ _ HR1.out]; rfl
          have r4 : W1.cell? ⟨w.heap.size + 1 + 1, 4, none⟩ = some (.int .i64 0) := by rw [cell_of_row _ _ _ _ _ _ HR1.out]; rfl
          have rf : ∀ o, W1.frozen? ⟨w.heap.size + 1 + 1, o, none⟩ = false := fun o => by simp [World.frozen?, HR1.out]
          have hzr : w.heap.size + 1 + 1 < W1.heap.size := (Array.getElem?_eq_some_iff.1 HR1.out).1
          have hne1 : (w.heap.size = w.heap.size + 1 + 1) = False := eq_false (by omega)
          have hne2 : (w.heap.size + 1 + 1 = w.heap.size) = False := eq_false (by omega)
          go_wp2_with fail
          refine bodyPost_ret (v := .tuple #[stV [], .bool false]) (by simp [results, Try.results64, go_sem, stV, stA, gt, r0, r1, r2, r3, r4]) rfl ⟨by rw [HFL.out]; rfl, ?_⟩
          exact (((((HE1.out.setCell (Nat.le_refl _) _).setCell (by simp only; omega) _).setCell (by simp only; omega) _).setCell (by simp only; omega) _).setCell (by simp only; omega) _).setCell (by simp only; omega) _
        · have hf' : decide (m < x + 1) = false := decide_eq_false hfull
          go_wp2_with fail
          go_roundw
          case rel =>
            refine ⟨k + 1, cur.setIfInBounds k (.int .i64 (x + 1)), by omega, by go_num, fun j hj hp => ?_, HE1.out.setCell (Nat.le_refl _) _, heap_setCell_row HC1.out k _, (HI.out.set k (x + 1)).congr fun j hj => ?_, (Below.heap_setCell _ _ _ _ (by simp only; omega)).trans HR1.out⟩
            · by_cases e : j = k
              · subst e; rw [← HX.out, ← HM.out]; omega
              · exact HNO.out j (by omega) hp
            · unfold upd upTo
              by_cases e : j = k
              · subst e; rw [if_pos rfl, if_pos ⟨by omega, hpk⟩, HX.out]
              · rw [if_neg e]
                by_cases h : j < k ∧ p j = true
                · rw [if_pos h, if_pos ⟨by omega, h.2⟩]
                · rw [if_neg h, if_neg (fun hh => h ⟨by omega, hh.2⟩)]
          case measure => simp [intOf]; omega
    · obtain rfl : k = ks.length := by omega
      have hfl : fullP p ks s = false := fullP_false.2 fun i hi hp => HNO.out i hi hp
      have hcur := stA_of hI
      subst hcur
      rw [← hl] at hI hc
      have hst : (#[.int .i64 (upTo p s s.length 0), .int .i64 (upTo p s s.length 1), .int .i64 (upTo p s s.length 2), .int .i64 (upTo p s s.length 3), .int .i64 (upTo p s s.length 4)] : Array Value) = stA (upP p s) := by
        simp only [upTo_all]; rfl
      rw [hst] at hc
      unfold stA at hc
      have d0 : wr.cell? ⟨w.heap.size, 0, none⟩ = some (.int .i64 (gt (upP p s) 0)) := by rw [cell_of_row _ _ _ _ _ _ hc]; rfl
      have d1 : wr.cell? ⟨w.heap.size, 1, none⟩ = some (.int .i64 (gt (upP p s) 1)) := by rw [cell_of_row _ _ _ _ _ _ hc]; rfl
      have d2 : wr.cell? ⟨w.heap.size, 2, none⟩ = some (.int .i64 (gt (upP p s) 2)) := by rw [cell_of_row _ _ _ _ _ _ hc]; rfl
      have d3 : wr.cell? ⟨w.heap.size, 3, none⟩ = some (.int .i64 (gt (upP p s) 3)) := by rw [cell_of_row _ _ _ _ _ _ hc]; rfl
      have d4 : wr.cell? ⟨w.heap.size, 4, none⟩ = some (.int .i64 (gt (upP p s) 4)) := by rw [cell_of_row _ _ _ _ _ _ hc]; rfl
      have r0 : wr.cell? ⟨w.heap.size + 1 + 1, 0, none⟩ = some (.int .i64 0) := by rw [cell_of_row _ _ _ _ _ _ HR.out]; rfl
      have r1 : wr.cell? ⟨w.heap.size + 1 + 1, 1, none⟩ = some (.int .i64 0) := by rw [cell_of_row _ _ _ _ _ _ HR.out]; rfl
      have r2 : wr.cell? ⟨w.heap.size + 1 + 1, 2, none⟩ = some (.int .i64 0) := by rw [cell_of_row _ _ _ _ _ _ HR.out]; rfl
      have r3 : wr.cell? ⟨w.heap.size + 1 + 1, 3, none⟩ = some (.int .i64 0) := by rw [cell_of_row _ _ _ _ _ _ HR.out]; rfl
      have r4 : wr.cell? ⟨w.heap.size + 1 + 1, 4, none⟩ = some (.int .i64 0) := by rw [cell_of_row _ _ _ _ _ _ HR.out]; rfl
      have rf : ∀ o, wr.frozen? ⟨w.heap.size + 1 + 1, o, none⟩ = false := fun o => by simp [World.frozen?, HR.out]
      have hzr : w.heap.size + 1 + 1 < wr.heap.size := (Array.getElem?_eq_some_iff.1 HR.out).1
      have hne1 : (w.heap.size = w.heap.size + 1 + 1) = False := eq_false (by omega)
      have hne2 : (w.heap.size + 1 + 1 = w.heap.size) = False := eq_false (by omega)
      have HFL := Lib.hid hfl
      have HE := Lib.hid hE
      clear hfl hst hc hI hr hno hE
      go_wp2_with fail
      refine bodyPost_ret (v := .tuple #[stV (upP p s), .bool true]) (by simp [results, Try.results64, go_sem, stV, stA, r0, r1, r2, r3, r4]) rfl ⟨by rw [HFL.out]; rfl, ?_⟩
      exact ((((HE.out.setCell (by simp only; omega) _).setCell (by simp only; omega) _).setCell (by simp only; omega) _).setCell (by simp only; omega) _).setCell (by simp only; omega) _
set_option maxRecDepth 100000 in
set_option maxHeartbeats 1000000 in
theorem visited_any (s : List Int) (v : Nat) (w : World) (hw : v < 5) :
    Calls Try.prog 67 #[stV s, .int .i64 v] w fun e W => e = .returned (stV (visit s v)) ∧ Ext w W := by
  unfold stV stA
  simp only [gt_visit]
  rcases (show v = 0 ∨ v = 1 ∨ v = 2 ∨ v = 3 ∨ v = 4 by omega) with rfl | rfl | rfl | rfl | rfl
  all_goals
    go_enter Try.func67, Try.ntmps67
    go_wp2_with fail
    refine bodyPost_ret (v := _) (by simp [results, Try.results67, go_sem]; rfl) rfl ⟨?_, (by repeat (first | exact Below.refl _ _ | refine Ext.al ?_ _ | refine Ext.dr ?_ | refine Ext.drN ?_ _ | refine Ext.gr ?_ _ | refine Ext.set ?_ (by simp) _ | (refine Ext.trans' ?_ (by assumption))))⟩
    simp
end Go.Proofs.Ytndgaklcnhoddaa
namespace Go.Proofs.Ytndgaklcnhoddaa
open Go.RowKit Go.Shelf
def RetStated (ks l : List Int) (w : World) (e : Ending) (w' : World) : Prop :=
  e = .returned (.tuple #[stV (if stErr ks l = 0 then l else []), .int .i64 (stErr ks l)]) ∧ Ext w w'
theorem isSt_gt {ks s : List Int} (h : isSt ks s = true) (i : Nat) (hi : i < ks.length) : 0 ≤ gt s i ∧ gt s i ≤ gt ks i := isSt_at h i hi
theorem inR_iff {lo hi n : Int} : inR lo hi n = true ↔ lo ≤ n ∧ n ≤ hi := by unfold inR; simp
theorem isSt_all {ks l : List Int} (hl : l.length = ks.length) : isSt ks l = true ↔ ∀ i, i < l.length → inR 0 (gt ks i) (gt l i) = true :=
  ⟨fun h i hi => inR_iff.2 (isSt_gt h i (by omega)), fun h => isSt_of hl fun i hi => inR_iff.1 (h i (by omega))⟩
theorem gt_get {l : List Int} {k : Nat} (h : k < l.length) : l[k] = gt l k := by unfold gt; rw [List.getD_eq_getElem?_getD, List.getElem?_eq_getElem h]; rfl
set_option maxRecDepth 100000 in
set_option maxHeartbeats 1000000 in
theorem stated_any (ks l : List Int) (kv lv : Value) (w : World) (hv : IsInts w .i64 kv ks) (hl : IsInts w .i64 lv l) :
    Calls Try.prog 62 #[.agg #[kv], lv] w (RetStated ks l w) := by
  obtain ⟨sa, cap, rfl, h1, h2, -⟩ := hv.spec
  obtain ⟨la, lcap, rfl, h3, h4, -⟩ := hl.spec
  have HV := Lib.hid hv
  have HL := Lib.hid hl
  clear hv hl
  go_enter Try.func62, Try.ntmps62
  go_upto_region 1 with (fail)
  obtain ⟨W0, hW0⟩ : ∃ W0, W0 = (w.alloc (.cells #[.slice sa ks.length cap] 24)).alloc (.cells #[.int .i64 0, .int .i64 0, .int .i64 0, .int .i64 0, .int .i64 0] 73) := ⟨_, rfl⟩
  have hE : Ext w W0 := by rw [hW0]; exact (by repeat (first | exact Below.refl _ _ | refine Ext.al ?_ _ | refine Ext.dr ?_ | refine Ext.drN ?_ _ | refine Ext.gr ?_ _ | refine Ext.set ?_ (by simp) _ | (refine Ext.trans' ?_ (by assumption))))
  have k0 : W0.cell? ⟨w.heap.size, 0, none⟩ = some (.slice sa ks.length cap) := by rw [hW0]; simp [go_sem]
  have hr0 : W0.heap[w.heap.size + 1]? = some (.cells #[.int .i64 0, .int .i64 0, .int .i64 0, .int .i64 0, .int .i64 0] 73 (0, 0)) := by
    rw [hW0]; show (Array.push (Array.push _ _) _)[w.heap.size + 1]? = _; rw [Array.getElem?_push, if_pos (by simp)]
  have hz : w.heap.size < W0.heap.size := World.block_lt_of_cell? _ _ k0
  have HS := Lib.hid (HV.out.ext hE)
  have HT := Lib.hid (HL.out.ext hE)
  have HW := Lib.hid hE
  have HR0 := Lib.hid hr0
  rw [← hW0]
  clear hW0 HV HL hE hr0



  go_wp2_with fail
  refine callW (W0 := W0) (g := ⟨W0, Below.refl _ _⟩) (by exact (by repeat (first | exact Below.refl _ _ | refine Ext.al ?_ _ | refine Ext.dr ?_ | refine Ext.drN ?_ _ | refine Ext.gr ?_ _ | refine Ext.set ?_ (by simp) _ | (refine Ext.trans' ?_ (by assumption))))) (checkHall_any ks _ _ (HS.out.ext (by exact (by repeat (first | exact Below.refl _ _ | refine Ext.al ?_ _ | refine Ext.dr ?_ | refine Ext.drN ?_ _ | refine Ext.gr ?_ _ | refine Ext.set ?_ (by simp) _ | (refine Ext.trans' ?_ (by assumption))))))) fun g1 hgr => ?_
  clear hgr
  have hrg := ((grow_below W0 g1).block _ (Array.getElem?_eq_some_iff.1 HR0.out).1).trans HR0.out
  have HRG := Lib.hid hrg
  have HEG := Lib.hid (HW.out.trans' (grow_below W0 g1))
  clear hrg
  by_cases hc : tchk ks = 0
  rotate_left
  · have hc1 : (tchk ks == 0) = false := by simpa using hc
    have hc2 : (tchk ks != 0) = true := by simpa using hc
    have hst : stErr ks l = tchk ks := by unfold stErr; rw [if_pos hc]
    have HST := Lib.hid hst
    have HC := Lib.hid hc
    clear hc hst
    have r0 : (grow W0 g1).cell? ⟨w.heap.size + 1, 0, none⟩ = some (.int .i64 0) := by rw [cell_of_row _ _ _ _ _ _ HRG.out]; rfl
    have r1 : (grow W0 g1).cell? ⟨w.heap.size + 1, 1, none⟩ = some (.int .i64 0) := by rw [cell_of_row _ _ _ _ _ _ HRG.out]; rfl
    have r2 : (grow W0 g1).cell? ⟨w.heap.size + 1, 2, none⟩ = some (.int .i64 0) := by rw [cell_of_row _ _ _ _ _ _ HRG.out]; rfl
    have r3 : (grow W0 g1).cell? ⟨w.heap.size + 1, 3, none⟩ = some (.int .i64 0) := by rw [cell_of_row _ _ _ _ _ _ HRG.out]; rfl
    have r4 : (grow W0 g1).cell? ⟨w.heap.size + 1, 4, none⟩ = some (.int .i64 0) := by rw [cell_of_row _ _ _ _ _ _ HRG.out]; rfl
    have rf : ∀ o, (grow W0 g1).frozen? ⟨w.heap.size + 1, o, none⟩ = false := fun o => by simp [World.frozen?, HRG.out]
    have hzr : w.heap.size + 1 < (grow W0 g1).heap.size := (Array.getElem?_eq_some_iff.1 HRG.out).1
    go_wp2_with fail
    refine bodyPost_ret (v := .tuple #[stV [], .int .i64 (stErr ks l)]) (by simp [results, Try.results62, go_sem, stV, stA, gt, r0, r1, r2, r3, r4]; rw [HST.out]) rfl ⟨by rw [if_neg (fun hh => HC.out (HST.out.symm.trans hh))], ?_⟩
    exact ((((HEG.out.setCell (by simp only; omega) _).setCell (by simp only; omega) _).setCell (by simp only; omega) _).setCell (by simp only; omega) _).setCell (by simp only; omega) _
  have hc1 : (tchk ks == 0) = true := by simpa using hc
  have hc2 : (tchk ks != 0) = false := by simpa using hc
  by_cases hn : l.length = ks.length
  rotate_left
  · have hn1 : ((l.length : Int) == (ks.length : Int)) = false := by simp; omega
    have hn2 : ((l.length : Int) != (ks.length : Int)) = true := by simp; omega
    have hst : stErr ks l = 15 := by unfold stErr; rw [if_neg (fun h => h hc), if_pos hn]
    have HST := Lib.hid hst
    have HC := Lib.hid hc
    clear hc hst hn
    rw [HC.out]
    have r0 : (grow W0 g1).cell? ⟨w.heap.size + 1, 0, none⟩ = some (.int .i64 0) := by rw [cell_of_row _ _ _ _ _ _ HRG.out]; rfl
    have r1 : (grow W0 g1).cell? ⟨w.heap.size + 1, 1, none⟩ = some (.int .i64 0) := by rw [cell_of_row _ _ _ _ _ _ HRG.out]; rfl
    have r2 : (grow W0 g1).cell? ⟨w.heap.size + 1, 2, none⟩ = some (.int .i64 0) := by rw [cell_of_row _ _ _ _ _ _ HRG.out]; rfl
    have r3 : (grow W0 g1).cell? ⟨w.heap.size + 1, 3, none⟩ = some (.int .i64 0) := by rw [cell_of_row _ _ _ _ _ _ HRG.out]; rfl
    have r4 : (grow W0 g1).cell? ⟨w.heap.size + 1, 4, none⟩ = some (.int .i64 0) := by rw [cell_of_row _ _ _ _ _ _ HRG.out]; rfl
    have rf : ∀ o, (grow W0 g1).frozen? ⟨w.heap.size + 1, o, none⟩ = false := fun o => by simp [World.frozen?, HRG.out]
    have hzr : w.heap.size + 1 < (grow W0 g1).heap.size := (Array.getElem?_eq_some_iff.1 HRG.out).1
    go_wp2_with fail
    refine bodyPost_ret (v := .tuple #[stV [], .int .i64 (stErr ks l)]) (by simp [results, Try.results62, go_sem, stV, stA, gt, r0, r1, r2, r3, r4]; rw [HST.out]) rfl ⟨by rw [if_neg (fun hh => absurd (HST.out.symm.trans hh) (by decide))], ?_⟩
    exact ((((HEG.out.setCell (by simp only; omega) _).setCell (by simp only; omega) _).setCell (by simp only; omega) _).setCell (by simp only; omega) _).setCell (by simp only; omega) _
  have hn1 : ((l.length : Int) == (ks.length : Int)) = true := by simp; omega
  have hn2 : ((l.length : Int) != (ks.length : Int)) = false := by simp; omega
  have V := Lib.hid (tval_of hc)
  have HC := Lib.hid hc
  have HN := Lib.hid hn
  rw [hc]
  clear hc hc1 hc2 hn
  go_upto_region 6 with (fail)
  have hrg := HRG.out
  obtain ⟨W1, hW1⟩ : ∃ zz9, zz9 = (grow W0 g1) := ⟨_, rfl⟩
  have eW1 : Ext W0 W1 := by rw [hW1]; exact (by repeat (first | exact Below.refl _ _ | refine Ext.al ?_ _ | refine Ext.dr ?_ | refine Ext.drN ?_ _ | refine Ext.gr ?_ _ | refine Ext.set ?_ (by simp) _ | (refine Ext.trans' ?_ (by assumption))))
  replace k0 := cell_ext eW1 k0
  replace HS := Lib.hid (HS.out.ext eW1)
  replace HT := Lib.hid (HT.out.ext eW1)
  replace HW := Lib.hid (HW.out.trans' eW1)
  rw [← hW1] at hrg ⊢
  replace hz := World.block_lt_of_cell? _ _ k0
  clear hW1 eW1
  replace HRG := Lib.hid hrg
  clear hrg
  go_wp2_with fail
  go_loopw [26] (fun i W => ∃ k : Nat, k ≤ l.length ∧ i = .int .i64 k ∧ (∀ j, j < k → inR 0 (gt ks j) (gt l j) = true) ∧ Ext W1 W) (fun i _ => l.length - (intOf i).toNat)
  case atStart => exact ⟨0, by omega, rfl, by omega, Below.refl _ _⟩
  case round =>
    obtain ⟨k, hk, rfl, hno, hE⟩ := hrel
    have HNO := Lib.hid hno
    have HE := Lib.hid hE
    have k0' := cell_ext hE k0
    have hzr' : w.heap.size < wr.heap.size := World.block_lt_of_cell? _ _ k0'
    by_cases hlt : k < l.length
    · have hkl : k < ks.length := by have := HN.out; omega
      rcases (HS.out.ext hE).spec with ⟨sa', cap', e, -, -, hcc⟩
      cases e
      rcases hcc with hcc | ⟨b, off, rfl, hcc⟩
      · rw [hcc] at hkl; simp at hkl
      rcases (HT.out.ext hE).spec with ⟨la', lcap', e, -, -, hdd⟩
      cases e
      rcases hdd with hdd | ⟨lb, loff, rfl, hdd⟩
      · rw [hdd] at hlt; simp at hlt
      have c0 := hcc k hkl
      have d0 := hdd k hlt
      rw [gt_get hkl] at c0
      rw [gt_get hlt] at d0
      have hki : (k : Int) < (ks.length : Int) := by omega
      have hki2 : (k : Int) < (l.length : Int) := by omega
      obtain ⟨x, hx⟩ : ∃ x, x = gt l k := ⟨_, rfl⟩
      obtain ⟨m, hm⟩ : ∃ m, m = gt ks k := ⟨_, rfl⟩
      rw [← hm] at c0
      rw [← hx] at d0
      have HX := Lib.hid hx
      have HM := Lib.hid hm
      clear hcc hdd hno hE hx hm
      go_wp2_with fail
      refine (within_any 0 m _ [x] _ (isInts_one (by omega) (by omega) (by simp [go_sem]))).mono ?_
      rintro e W2 ⟨rfl, hE2⟩
      have HE2 := Lib.hid (Ext.trans' HE.out (Ext.trans' (by exact (by repeat (first | exact Below.refl _ _ | refine Ext.al ?_ _ | refine Ext.dr ?_ | refine Ext.drN ?_ _ | refine Ext.gr ?_ _ | refine Ext.set ?_ (by simp) _ | (refine Ext.trans' ?_ (by assumption))))) hE2) : Ext W1 W2)
      clear hE2
      cases hin : [x].all (inR 0 m)
      · have hst : stErr ks l = 3 := by
          unfold stErr
          rw [if_neg (fun h => h HC.out), if_neg (fun h => h HN.out), if_neg]
          intro h
          have := (isSt_all HN.out).1 h k hlt
          rw [← HX.out, ← HM.out] at this
          simp [this] at hin
        have HST := Lib.hid hst
        have hrg := (HE2.out.block _ (Array.getElem?_eq_some_iff.1 HRG.out).1).trans HRG.out
        have HRG2 := Lib.hid hrg
        have HEG2 := Lib.hid (HW.out.trans' HE2.out)
        clear hst hrg
        have r0 : W2.cell? ⟨w.heap.size + 1, 0, none⟩ = some (.int .i64 0) := by rw [cell_of_row _ _ _ _ _ _ HRG2.out]; rfl
        have r1 : W2.cell? ⟨w.heap.size + 1, 1, none⟩ = some (.int .i64 0) := by rw [cell_of_row _ _ _ _ _ _ HRG2.out]; rfl
        have r2 : W2.cell? ⟨w.heap.size + 1, 2, none⟩ = some (.int .i64 0) := by rw [cell_of_row _ _ _ _ _ _ HRG2.out]; rfl
        have r3 : W2.cell? ⟨w.heap.size + 1, 3, none⟩ = some (.int .i64 0) := by rw [cell_of_row _ _ _ _ _ _ HRG2.out]; rfl
        have r4 : W2.cell? ⟨w.heap.size + 1, 4, none⟩ = some (.int .i64 0) := by rw [cell_of_row _ _ _ _ _ _ HRG2.out]; rfl
        have rf : ∀ o, W2.frozen? ⟨w.heap.size + 1, o, none⟩ = false := fun o => by simp [World.frozen?, HRG2.out]
        have hzr : w.heap.size + 1 < W2.heap.size := (Array.getElem?_eq_some_iff.1 HRG2.out).1
        go_wp2_with fail
        refine bodyPost_ret (v := .tuple #[stV [], .int .i64 (stErr ks l)]) (by simp [results, Try.results62, go_sem, stV, stA, gt, r0, r1, r2, r3, r4]; rw [HST.out]) rfl ⟨by rw [if_neg (fun hh => absurd (HST.out.symm.trans hh) (by decide))], ?_⟩
        exact ((((HEG2.out.setCell (by simp only; omega) _).setCell (by simp only; omega) _).setCell (by simp only; omega) _).setCell (by simp only; omega) _).setCell (by simp only; omega) _
      · have HIN := Lib.hid hin
        clear hin
        go_wp2_with fail
        go_roundw
        case rel => exact ⟨k + 1, by omega, by go_num, fun j hj => by
          by_cases e : j = k
          · subst e; rw [← HX.out, ← HM.out]; simpa using HIN.out
          · exact HNO.out j (by omega), HE2.out⟩
        case measure => simp [intOf]; omega
    · obtain rfl : k = l.length := by omega
      have hst : stErr ks l = 0 := by
        unfold stErr
        rw [if_neg (fun h => h HC.out), if_neg (fun h => h HN.out), if_pos ((isSt_all HN.out).2 hno)]
      have h5 := V.out.n5
      have h6 := V.out.n1
      have h7 := HN.out
      have hl5 : l.length ≤ 5 := by omega
      have hl1 : 1 ≤ l.length := by omega
      have HST := Lib.hid hst
      clear h7 hst hno hE
      go_wp2_with fail
      refine (newState_any l _ _ (HT.out.ext HE.out) hl1 hl5).mono ?_
      rintro e W2 ⟨rfl, hE2⟩
      have HE2 := Lib.hid (HE.out.trans' hE2)
      have hrg := (HE2.out.block _ (Array.getElem?_eq_some_iff.1 HRG.out).1).trans HRG.out
      have HRG2 := Lib.hid hrg
      have HEG2 := Lib.hid (HW.out.trans' HE2.out)
      rw [show stV l = .agg (stA l) from rfl]
      unfold stA
      have r0 : W2.cell? ⟨w.heap.size + 1, 0, none⟩ = some (.int .i64 0) := by rw [cell_of_row _ _ _ _ _ _ HRG2.out]; rfl
      have r1 : W2.cell? ⟨w.heap.size + 1, 1, none⟩ = some (.int .i64 0) := by rw [cell_of_row _ _ _ _ _ _ HRG2.out]; rfl
      have r2 : W2.cell? ⟨w.heap.size + 1, 2, none⟩ = some (.int .i64 0) := by rw [cell_of_row _ _ _ _ _ _ HRG2.out]; rfl
      have r3 : W2.cell? ⟨w.heap.size + 1, 3, none⟩ = some (.int .i64 0) := by rw [cell_of_row _ _ _ _ _ _ HRG2.out]; rfl
      have r4 : W2.cell? ⟨w.heap.size + 1, 4, none⟩ = some (.int .i64 0) := by rw [cell_of_row _ _ _ _ _ _ HRG2.out]; rfl
      have rf : ∀ o, W2.frozen? ⟨w.heap.size + 1, o, none⟩ = false := fun o => by simp [World.frozen?, HRG2.out]
      have hzr : w.heap.size + 1 < W2.heap.size := (Array.getElem?_eq_some_iff.1 HRG2.out).1
      clear hrg hE2
      go_wp2_with fail
      refine bodyPost_ret (v := .tuple #[stV l, .int .i64 (stErr ks l)]) (by simp [results, Try.results62, go_sem, stV, stA, r0, r1, r2, r3, r4]; rw [HST.out]) rfl ⟨by rw [if_pos HST.out], ?_⟩
      exact ((((HEG2.out.setCell (by simp only; omega) _).setCell (by simp only; omega) _).setCell (by simp only; omega) _).setCell (by simp only; omega) _).setCell (by simp only; omega) _
end Go.Proofs.Ytndgaklcnhoddaa
namespace Go.Proofs.Ytndgaklcnhoddaa
open Go.RowKit Go.Shelf
/-- a state that lies in a block -/
def StB (W : World) (b : Nat) (s : List Int) : Prop := W.heap[b]? = some (.cells (stA s) 73 (0, 0))
theorem StB.ext {W W' : World} {b : Nat} {s : List Int} (h : StB W b s) (e : Ext W W') : StB W' b s := (e.block _ (Array.getElem?_eq_some_iff.1 h).1).trans h
theorem StB.c {W : World} {b : Nat} {s : List Int} (h : StB W b s) (i : Nat) (hi : i < 5) : W.cell? ⟨b, i, none⟩ = some (.int .i64 (gt s i)) := by
  unfold StB at h
  rw [cell_of_row _ _ _ _ _ _ h, (stA_ints s).at_ i hi]
theorem StB.free {W : World} {b : Nat} {s : List Int} (h : StB W b s) (o : Nat) : W.frozen? ⟨b, o, none⟩ = false := by
  unfold StB at h
  simp [World.frozen?, h]
theorem StB.lt {W : World} {b : Nat} {s : List Int} (h : StB W b s) : b < W.heap.size := (Array.getElem?_eq_some_iff.1 h).1
theorem StB.set {W : World} {b : Nat} {s : List Int} (h : StB W b s) (t : List Int) : StB (((((W.setCell ⟨b, 0, none⟩ (.int .i64 (gt t 0))).setCell ⟨b, 1, none⟩ (.int .i64 (gt t 1))).setCell ⟨b, 2, none⟩ (.int .i64 (gt t 2))).setCell ⟨b, 3, none⟩ (.int .i64 (gt t 3))).setCell ⟨b, 4, none⟩ (.int .i64 (gt t 4))) b t :=
  heap_setCell_row (heap_setCell_row (heap_setCell_row (heap_setCell_row (heap_setCell_row h 0 _) 1 _) 2 _) 3 _) 4 _
theorem stV_eq (s : List Int) : stV s = .agg #[.int .i64 (gt s 0), .int .i64 (gt s 1), .int .i64 (gt s 2), .int .i64 (gt s 3), .int .i64 (gt s 4)] := rfl
theorem StB.new (W : World) (s : List Int) : StB (W.alloc (.cells #[.int .i64 (gt s 0), .int .i64 (gt s 1), .int .i64 (gt s 2), .int .i64 (gt s 3), .int .i64 (gt s 4)] 73)) W.heap.size s := World.alloc_heap_new W _
theorem below_set5 {W0 W : World} {B b : Nat} (h : Below B W0 W) (hb : B ≤ b) (v0 v1 v2 v3 v4 : Value) : Below B W0 (((((W.setCell ⟨b, 0, none⟩ v0).setCell ⟨b, 1, none⟩ v1).setCell ⟨b, 2, none⟩ v2).setCell ⟨b, 3, none⟩ v3).setCell ⟨b, 4, none⟩ v4) :=
  ((((h.setCell hb _).setCell hb _).setCell hb _).setCell hb _).setCell hb _
/-- the error of a row -/
def rowErr (ks row : List Int) : Int := if 1000 < row.length then 6 else if row.all (inR 0 ((ks.length : Int) - 1)) = true then 0 else 2
theorem rowErr_ok {ks row : List Int} (e : rowErr ks row = 0) : row.length ≤ 1000 ∧ WinL ks row := by
  unfold rowErr at e
  by_cases h1 : 1000 < row.length
  · rw [if_pos h1] at e; omega
  rw [if_neg h1] at e
  by_cases h2 : row.all (inR 0 ((ks.length : Int) - 1)) = true
  · refine ⟨by omega, fun x hx => ?_⟩
    have := inR_iff.1 (List.all_eq_true.1 h2 x hx)
    omega
  · rw [if_neg h2] at e; omega
set_option maxRecDepth 100000 in
set_option maxHeartbeats 1000000 in
theorem checkRow_any (ks row : List Int) (kv rv : Value) (w : World) (hv : IsInts w .i64 kv ks) (hr : IsInts w .i64 rv row) (h5 : ks.length ≤ 5) :
    Calls Try.prog 70 #[.agg #[kv], rv] w fun e w' => e = .returned (.int .i64 (rowErr ks row)) ∧ Ext w w' := by
  obtain ⟨sa, cap, rfl, h1, h2, -⟩ := hv.spec
  obtain ⟨ra, rcap, rfl, h3, h4, -⟩ := hr.spec
  have HV := Lib.hid hv
  have HR0 := Lib.hid hr
  clear hv hr
  go_enter Try.func70, Try.ntmps70
  go_upto_region 1 with (fail)
  obtain ⟨W0, hW0⟩ : ∃ W0, W0 = w.alloc (.cells #[.slice sa ks.length cap] 24) := ⟨_, rfl⟩
  have hE : Ext w W0 := by rw [hW0]; exact (by repeat (first | exact Below.refl _ _ | refine Ext.al ?_ _ | refine Ext.dr ?_ | refine Ext.drN ?_ _ | refine Ext.gr ?_ _ | refine Ext.set ?_ (by simp) _ | (refine Ext.trans' ?_ (by assumption))))
  have k0 : W0.cell? ⟨w.heap.size, 0, none⟩ = some (.slice sa ks.length cap) := by rw [hW0]; simp [go_sem]
  have hz : w.heap.size < W0.heap.size := World.block_lt_of_cell? _ _ k0
  have HS := Lib.hid (HV.out.ext hE)
  have HW := Lib.hid hE
  rw [← hW0]
  clear hW0 HV
  have HR := Lib.hid (HR0.out.ext hE)
  clear hE HR0
  by_cases hl : 1000 < row.length
  · have hl1 : decide ((1000 : Int) < (row.length : Int)) = true := decide_eq_true (by omega)
    go_wp2_with fail
    go_ret
    exact ⟨ret_int (by unfold rowErr; rw [if_pos hl]), HW.out⟩
  have hl1 : decide ((1000 : Int) < (row.length : Int)) = false := decide_eq_false (by omega)

  go_wp2_with fail
  refine callW (W0 := W0) (g := ⟨W0, Below.refl _ _⟩) (by exact (by repeat (first | exact Below.refl _ _ | refine Ext.al ?_ _ | refine Ext.dr ?_ | refine Ext.drN ?_ _ | refine Ext.gr ?_ _ | refine Ext.set ?_ (by simp) _ | (refine Ext.trans' ?_ (by assumption))))) (within_any 0 ((ks.length : Int) - 1) _ row _ (HR.out.ext (by exact (by repeat (first | exact Below.refl _ _ | refine Ext.al ?_ _ | refine Ext.dr ?_ | refine Ext.drN ?_ _ | refine Ext.gr ?_ _ | refine Ext.set ?_ (by simp) _ | (refine Ext.trans' ?_ (by assumption))))))) fun g1 hgr => ?_
  clear hgr
  cases ha : row.all (inR 0 ((ks.length : Int) - 1))
  · go_wp2_with fail
    go_ret
    exact ⟨ret_int (by unfold rowErr; rw [if_neg hl, ha, if_neg (by simp)]), HW.out.trans' (grow_below W0 g1)⟩
  · go_wp2_with fail
    go_ret
    exact ⟨ret_int (by unfold rowErr; rw [if_neg hl, ha, if_pos rfl]), HW.out.trans' (grow_below W0 g1)⟩
/-- what Play returns -/
def playErr (ks s row : List Int) : Int := if stErr ks s ≠ 0 then stErr ks s else if rowErr ks row ≠ 0 then rowErr ks row else if (playP ks 0 s row).1.isSome = true then 0 else 17
def playL (ks s row : List Int) : List Int := if playErr ks s row = 0 then (playP ks 0 s row).1.getD [] else []
def playN (ks s row : List Int) : Int := if stErr ks s ≠ 0 ∨ rowErr ks row ≠ 0 then 0 else (playP ks 0 s row).2
def RetPlay (ks s row : List Int) (w : World) (e : Ending) (w' : World) : Prop :=
  ∃ v, e = .returned (.tuple #[v, .int .i64 (playN ks s row), .int .i64 (playErr ks s row)]) ∧ Ext w w' ∧ IsInts w' .i64 v (playL ks s row)
theorem IsInts.nil (w : World) (k : IntKind) : IsInts w k (.slice none 0 0) [] := ⟨none, 0, rfl, by simp, by omega, .inl rfl⟩
/-- the turns from the k-th one on -/
theorem play_drop {ks row : List Int} {k : Nat} (hk : k < row.length) (n : Nat) (s : List Int) : playP ks n s (row.drop k) = if fullP allW ks s then (none, n) else playP ks (n + 1) (visit (upP allW s) (gt row k).toNat) (row.drop (k + 1)) := by
  rw [List.drop_eq_getElem_cons hk, playP, gt_get hk]
set_option maxRecDepth 100000 in
set_option maxHeartbeats 2000000 in
theorem play_any (ks s row : List Int) (kv lv rv : Value) (w : World) (hv : IsInts w .i64 kv ks) (hl : IsInts w .i64 lv s) (hr : IsInts w .i64 rv row) :
    Calls Try.prog 26 #[.agg #[kv], lv, rv] w (RetPlay ks s row w) := by
  obtain ⟨sa, cap, rfl, h1, h2, -⟩ := hv.spec
  obtain ⟨la, lcap, rfl, h3, h4, -⟩ := hl.spec
  obtain ⟨ra, rcap, rfl, h5, h6, -⟩ := hr.spec
  have HV := Lib.hid hv
  have HL0 := Lib.hid hl
  have HR0 := Lib.hid hr
  clear hv hl hr
  go_enter Try.func26, Try.ntmps26
  go_upto_region 1 with (fail)
  obtain ⟨W0, hW0⟩ : ∃ W0, W0 = w.alloc (.cells #[.slice sa ks.length cap] 24) := ⟨_, rfl⟩
  have hE : Ext w W0 := by rw [hW0]; exact (by repeat (first | exact Below.refl _ _ | refine Ext.al ?_ _ | refine Ext.dr ?_ | refine Ext.drN ?_ _ | refine Ext.gr ?_ _ | refine Ext.set ?_ (by simp) _ | (refine Ext.trans' ?_ (by assumption))))
  have k0 : W0.cell? ⟨w.heap.size, 0, none⟩ = some (.slice sa ks.length cap) := by rw [hW0]; simp [go_sem]
  have hz : w.heap.size < W0.heap.size := World.block_lt_of_cell? _ _ k0
  have HS := Lib.hid (HV.out.ext hE)
  have HW := Lib.hid hE
  rw [← hW0]
  clear hW0 HV
  have HL := Lib.hid (HL0.out.ext hE)
  have HR := Lib.hid (HR0.out.ext hE)
  clear hE HL0 HR0



  have c1 := fun w hs hl => stated_any ks s (.slice sa ks.length cap) (.slice la s.length lcap) w hs hl
  unfold RetStated at c1
  by_cases hst : stErr ks s = 0
  rotate_left
  · rw [if_neg hst] at c1
    rw [stV_eq] at c1
    have e1 : (stErr ks s == 0) = false := by simpa using hst
    have e2 : (stErr ks s != 0) = true := by simpa using hst
    have C1 := Lib.hid c1
    have HST := Lib.hid hst
    clear c1 hst

    go_wp2_with fail
    refine callW (W0 := W0) (g := ⟨W0, Below.refl _ _⟩) (by exact (by repeat (first | exact Below.refl _ _ | refine Ext.al ?_ _ | refine Ext.dr ?_ | refine Ext.drN ?_ _ | refine Ext.gr ?_ _ | refine Ext.set ?_ (by simp) _ | (refine Ext.trans' ?_ (by assumption))))) (C1.out _ (HS.out.ext (by exact (by repeat (first | exact Below.refl _ _ | refine Ext.al ?_ _ | refine Ext.dr ?_ | refine Ext.drN ?_ _ | refine Ext.gr ?_ _ | refine Ext.set ?_ (by simp) _ | (refine Ext.trans' ?_ (by assumption)))))) (HL.out.ext (by exact (by repeat (first | exact Below.refl _ _ | refine Ext.al ?_ _ | refine Ext.dr ?_ | refine Ext.drN ?_ _ | refine Ext.gr ?_ _ | refine Ext.set ?_ (by simp) _ | (refine Ext.trans' ?_ (by assumption))))))) fun g1 hgr => ?_
    clear hgr
    go_wp2_with fail
    refine bodyPost_ret (v := .tuple #[.slice none 0 0, .int .i64 0, .int .i64 (stErr ks s)]) (by simp [results, Try.results26, go_sem]) rfl ?_
    refine ⟨.slice none 0 0, ?_, HW.out.trans' (Ext.trans' (grow_below W0 g1) (by repeat (first | exact Below.refl _ _ | refine Ext.al ?_ _ | refine Ext.dr ?_ | refine Ext.drN ?_ _ | refine Ext.gr ?_ _ | refine Ext.set ?_ (by simp) _ | (refine Ext.trans' ?_ (by assumption))))), ?_⟩
    · have a1 : playErr ks s row = stErr ks s := by unfold playErr; rw [if_pos HST.out]
      have a2 : playN ks s row = 0 := by unfold playN; rw [if_pos (.inl HST.out)]
      rw [a1, a2]
    · have a1 : playErr ks s row = stErr ks s := by unfold playErr; rw [if_pos HST.out]
      unfold playL
      rw [if_neg (by rw [a1]; exact HST.out)]
      exact IsInts.nil _ _

  · rw [if_pos hst, hst] at c1
    rw [stV_eq] at c1
    obtain ⟨v, hs⟩ := stErr_ok hst
    have n1 := v.n1
    have n5 := v.n5
    have C1 := Lib.hid c1
    have HST := Lib.hid hst
    have V := Lib.hid v
    have HIS := Lib.hid hs
    clear c1 hst v hs

    go_wp2_with fail
    refine callW (W0 := W0) (g := ⟨W0, Below.refl _ _⟩) (by exact (by repeat (first | exact Below.refl _ _ | refine Ext.al ?_ _ | refine Ext.dr ?_ | refine Ext.drN ?_ _ | refine Ext.gr ?_ _ | refine Ext.set ?_ (by simp) _ | (refine Ext.trans' ?_ (by assumption))))) (C1.out _ (HS.out.ext (by exact (by repeat (first | exact Below.refl _ _ | refine Ext.al ?_ _ | refine Ext.dr ?_ | refine Ext.drN ?_ _ | refine Ext.gr ?_ _ | refine Ext.set ?_ (by simp) _ | (refine Ext.trans' ?_ (by assumption)))))) (HL.out.ext (by exact (by repeat (first | exact Below.refl _ _ | refine Ext.al ?_ _ | refine Ext.dr ?_ | refine Ext.drN ?_ _ | refine Ext.gr ?_ _ | refine Ext.set ?_ (by simp) _ | (refine Ext.trans' ?_ (by assumption))))))) fun g2 hgr => ?_
    clear hgr
    obtain ⟨G0, hG0⟩ : ∃ zz9, zz9 = (grow W0 g2) := ⟨_, rfl⟩
    have eG0 : Ext W0 G0 := by rw [hG0]; exact (by repeat (first | exact Below.refl _ _ | refine Ext.al ?_ _ | refine Ext.dr ?_ | refine Ext.drN ?_ _ | refine Ext.gr ?_ _ | refine Ext.set ?_ (by simp) _ | (refine Ext.trans' ?_ (by assumption))))
    replace k0 := cell_ext eG0 k0
    replace HS := Lib.hid (HS.out.ext eG0)
    replace HL := Lib.hid (HL.out.ext eG0)
    replace HR := Lib.hid (HR.out.ext eG0)
    replace HW := Lib.hid (HW.out.trans' eG0)
    rw [← hG0]
    replace hz := World.block_lt_of_cell? _ _ k0
    clear hG0 eG0
    go_upto_region 4 with (fail)
    have hb9 := Lib.hid (StB.new G0 s)
    obtain ⟨gz, hgz⟩ := grow_of (show Ext G0 (G0.alloc (.cells #[.int .i64 (gt s 0), .int .i64 (gt s 1), .int .i64 (gt s 2), .int .i64 (gt s 3), .int .i64 (gt s 4)] 73)) by exact (by repeat (first | exact Below.refl _ _ | refine Ext.al ?_ _ | refine Ext.dr ?_ | refine Ext.drN ?_ _ | refine Ext.gr ?_ _ | refine Ext.set ?_ (by simp) _ | (refine Ext.trans' ?_ (by assumption)))))
    replace hb9 := hb9.out
    rw [hgz] at hb9 ⊢
    have HB := Lib.hid hb9
    clear hgz hb9


    go_wp2_with fail
    refine callW (W0 := G0) (g := gz) (by exact (by repeat (first | exact Below.refl _ _ | refine Ext.al ?_ _ | refine Ext.dr ?_ | refine Ext.drN ?_ _ | refine Ext.gr ?_ _ | refine Ext.set ?_ (by simp) _ | (refine Ext.trans' ?_ (by assumption))))) (checkRow_any ks row _ _ _ (HS.out.ext (by exact (by repeat (first | exact Below.refl _ _ | refine Ext.al ?_ _ | refine Ext.dr ?_ | refine Ext.drN ?_ _ | refine Ext.gr ?_ _ | refine Ext.set ?_ (by simp) _ | (refine Ext.trans' ?_ (by assumption)))))) (HR.out.ext (by exact (by repeat (first | exact Below.refl _ _ | refine Ext.al ?_ _ | refine Ext.dr ?_ | refine Ext.drN ?_ _ | refine Ext.gr ?_ _ | refine Ext.set ?_ (by simp) _ | (refine Ext.trans' ?_ (by assumption)))))) (by omega)) fun g3 hgr => ?_
    replace HB := Lib.hid (HB.out.ext hgr)
    clear hgr
    by_cases hre : rowErr ks row = 0
    rotate_left
    · have e1 : (rowErr ks row == 0) = false := by simpa using hre
      have e2 : (rowErr ks row != 0) = true := by simpa using hre
      have HRE := Lib.hid hre
      clear hre
      go_wp2_with fail
      refine bodyPost_ret (v := .tuple #[.slice none 0 0, .int .i64 0, .int .i64 (rowErr ks row)]) (by simp [results, Try.results26, go_sem]) rfl ?_
      have a1 : playErr ks s row = rowErr ks row := by unfold playErr; rw [if_neg (fun h => h HST.out), if_pos HRE.out]
      have a2 : playN ks s row = 0 := by unfold playN; rw [if_pos (.inr HRE.out)]
      refine ⟨.slice none 0 0, by rw [a1, a2], HW.out.trans' (grow_below G0 _), ?_⟩
      unfold playL
      rw [if_neg (by rw [a1]; exact HRE.out)]
      exact IsInts.nil _ _
    have HRE := Lib.hid hre
    rw [hre]
    clear hre
    go_upto_region 7 with (fail)
    go_wp2_with fail
    go_loopw [33] (fun i W => ∃ (k : Nat) (t : List Int), k ≤ row.length ∧ i = .int .i64 k ∧ isSt ks t = true ∧ playP ks 0 s row = playP ks k t (row.drop k) ∧ Ext G0 W ∧ StB W G0.heap.size t) (fun i _ => row.length - (intOf i).toNat)
    case atStart => exact ⟨0, s, by omega, rfl, HIS.out, by simp, grow_below G0 _, HB.out⟩
    case round =>
      clear HB
      obtain ⟨k, t, hk, rfl, hist, hpl, hE, hb⟩ := hrel
      obtain ⟨gw, rfl⟩ := grow_of hE
      have HB := Lib.hid hb
      have HPL := Lib.hid hpl
      have hlt5 := isSt_len hist
      have HT := Lib.hid hist

      have c0p := (hb).c 0 (by omega)
      have c1p := (hb).c 1 (by omega)
      have c2p := (hb).c 2 (by omega)
      have c3p := (hb).c 3 (by omega)
      have c4p := (hb).c 4 (by omega)
      have cfp := (hb).free
      have czp := (hb).lt
      by_cases hlt : k < row.length
      · rcases (HR.out.ext hE).spec with ⟨ra', rcap', e, -, -, hcc⟩
        cases e
        rcases hcc with hcc | ⟨b, off, rfl, hcc⟩
        · rw [hcc] at hlt; simp at hlt
        have d0 := hcc k hlt
        rw [gt_get hlt] at d0
        have hxw := (rowErr_ok HRE.out).2 row[k] (List.getElem_mem hlt)
        rw [gt_get hlt] at hxw
        have hpd := play_drop (ks := ks) hlt k t
        obtain ⟨X, hX⟩ : ∃ X : Nat, gt row k = (X : Int) := ⟨(gt row k).toNat, by omega⟩
        rw [hX] at d0 hxw hpd
        rw [Int.toNat_natCast] at hpd
        have hX5 : X < 5 := by omega
        have hki : (k : Int) < (row.length : Int) := by omega
        have hgb : ∀ i, i < ks.length → 0 ≤ gt t i ∧ gt t i ≤ 1000 := fun i hi => by
          have h1 := isSt_gt hist i hi
          have h2 := V.out.at_ i hi
          unfold gt at h1 ⊢
          omega
        have cp := fun w hs => pulled_any t ks (.slice sa ks.length cap) (.func (.func 71) #[] #[]) allW w hs (all_pulls w) hlt5 n5 hgb
        unfold RetPull at cp
        cases hf : fullP allW ks t
        · rw [hf, if_neg (by simp), stV_eq, stV_eq] at cp
          rw [hf, if_neg (by simp)] at hpd
          have hup := up_st hist hf
          have cv := fun w => visited_any (upP allW t) X w hX5
          simp only [stV_eq] at cv
          have hvs : isSt ks (visit (upP allW t) X) = true := visit_st hup (fun i hi => by have := V.out.at_ i hi; omega) X
          have CP := Lib.hid cp
          have CV := Lib.hid cv
          have HPD := Lib.hid hpd
          have HVS := Lib.hid hvs
          clear cp cv hpd hvs hup hf hgb hcc hb hist hpl hE hX

          go_wp2_with fail
          refine callW (W0 := G0) (g := gw) (by exact (by repeat (first | exact Below.refl _ _ | refine Ext.al ?_ _ | refine Ext.dr ?_ | refine Ext.drN ?_ _ | refine Ext.gr ?_ _ | refine Ext.set ?_ (by simp) _ | (refine Ext.trans' ?_ (by assumption))))) (CP.out _ (HS.out.ext (by exact (by repeat (first | exact Below.refl _ _ | refine Ext.al ?_ _ | refine Ext.dr ?_ | refine Ext.drN ?_ _ | refine Ext.gr ?_ _ | refine Ext.set ?_ (by simp) _ | (refine Ext.trans' ?_ (by assumption))))))) fun g4 hgr => ?_
          replace HB := Lib.hid (HB.out.ext hgr)
          clear hgr
          go_wp2_with fail
          refine callW (W0 := G0) (g := g4) (by exact (by repeat (first | exact Below.refl _ _ | refine Ext.al ?_ _ | refine Ext.dr ?_ | refine Ext.drN ?_ _ | refine Ext.gr ?_ _ | refine Ext.set ?_ (by simp) _ | (refine Ext.trans' ?_ (by assumption))))) (CV.out _) fun g5 hgr => ?_
          replace HB := Lib.hid (HB.out.ext hgr)
          clear hgr
          have hb2 := HB.out
          have c0q := (hb2).c 0 (by omega)
          have c1q := (hb2).c 1 (by omega)
          have c2q := (hb2).c 2 (by omega)
          have c3q := (hb2).c 3 (by omega)
          have c4q := (hb2).c 4 (by omega)
          have cfq := (hb2).free
          have czq := (hb2).lt
          clear hb2 c0p c1p c2p c3p c4p cfp
          go_wp2_with fail
          go_roundw
          case rel => exact ⟨k + 1, visit (upP allW t) X, by omega, by go_num, HVS.out, by rw [HPL.out, HPD.out], below_set5 (grow_below G0 _) (Nat.le_refl _) _ _ _ _ _, HB.out.set _⟩
          case measure => simp [intOf]; omega

        · rw [hf, if_pos rfl, stV_eq, stV_eq] at cp
          rw [hf, if_pos rfl] at hpd
          have CP := Lib.hid cp
          have hfin : playP ks 0 s row = (none, k) := HPL.out.trans hpd
          have a1 : playErr ks s row = 17 := by unfold playErr; rw [if_neg (fun h => h HST.out), if_neg (fun h => h HRE.out), hfin]; rfl
          have a2 : playN ks s row = k := by unfold playN; rw [if_neg (by rintro (h | h); exact h HST.out; exact h HRE.out), hfin]
          have A1 := Lib.hid a1
          have A2 := Lib.hid a2
          clear cp hpd hfin hf hgb hcc hb hist hpl hE hX a1 a2

          go_wp2_with fail
          refine callW (W0 := G0) (g := gw) (by exact (by repeat (first | exact Below.refl _ _ | refine Ext.al ?_ _ | refine Ext.dr ?_ | refine Ext.drN ?_ _ | refine Ext.gr ?_ _ | refine Ext.set ?_ (by simp) _ | (refine Ext.trans' ?_ (by assumption))))) (CP.out _ (HS.out.ext (by exact (by repeat (first | exact Below.refl _ _ | refine Ext.al ?_ _ | refine Ext.dr ?_ | refine Ext.drN ?_ _ | refine Ext.gr ?_ _ | refine Ext.set ?_ (by simp) _ | (refine Ext.trans' ?_ (by assumption))))))) fun g6 hgr => ?_
          replace HB := Lib.hid (HB.out.ext hgr)
          clear hgr
          go_wp2_with fail
          refine bodyPost_ret (v := .tuple #[.slice none 0 0, .int .i64 k, .int .i64 17]) (by simp [results, Try.results26, go_sem]) rfl ?_
          refine ⟨.slice none 0 0, by rw [A1.out, A2.out], HW.out.trans' (Ext.trans' (grow_below G0 _) (by repeat (first | exact Below.refl _ _ | refine Ext.al ?_ _ | refine Ext.dr ?_ | refine Ext.drN ?_ _ | refine Ext.gr ?_ _ | refine Ext.set ?_ (by simp) _ | (refine Ext.trans' ?_ (by assumption))))), ?_⟩
          unfold playL
          rw [if_neg (by rw [A1.out]; decide)]
          exact IsInts.nil _ _

      · obtain rfl : k = row.length := by omega
        have hfin : playP ks 0 s row = (some t, row.length) := by rw [hpl, List.drop_length]; rfl
        have a1 : playErr ks s row = 0 := by unfold playErr; rw [if_neg (fun h => h HST.out), if_neg (fun h => h HRE.out), hfin]; rfl
        have a2 : playN ks s row = row.length := by unfold playN; rw [if_neg (by rintro (h | h); exact h HST.out; exact h HRE.out), hfin]
        have a3 : playL ks s row = t := by unfold playL; rw [if_pos a1, hfin]; rfl
        have A1 := Lib.hid a1
        have A2 := Lib.hid a2
        have A3 := Lib.hid a3
        have cl := fun w hs => list_any t ks (.slice sa ks.length cap) w hs hlt5 n5
        rw [stV_eq] at cl
        have CL := Lib.hid cl
        clear cl hfin a1 a2 a3 hb hist hpl hE

        go_wp2_with fail
        refine callWR (W0 := G0) (g := gw) (by exact (by repeat (first | exact Below.refl _ _ | refine Ext.al ?_ _ | refine Ext.dr ?_ | refine Ext.drN ?_ _ | refine Ext.gr ?_ _ | refine Ext.set ?_ (by simp) _ | (refine Ext.trans' ?_ (by assumption))))) (CL.out _ (HS.out.ext (by exact (by repeat (first | exact Below.refl _ _ | refine Ext.al ?_ _ | refine Ext.dr ?_ | refine Ext.drN ?_ _ | refine Ext.gr ?_ _ | refine Ext.set ?_ (by simp) _ | (refine Ext.trans' ?_ (by assumption))))))) (fun _ _ ⟨_, _, r, _⟩ => r) fun _ g7 hgr hr => ?_
        obtain ⟨vv, rfl, -, hvv⟩ := hr
        replace HB := Lib.hid (HB.out.ext hgr)
        clear hgr
        obtain ⟨va, vc, rfl, -⟩ := hvv.spec
        have HVV := Lib.hid hvv
        clear hvv
        go_wp2_with fail
        refine bodyPost_ret (v := .tuple #[.slice va ks.length vc, .int .i64 row.length, .int .i64 0]) (by simp [results, Try.results26, go_sem]) rfl ?_
        refine ⟨.slice va ks.length vc, by rw [A1.out, A2.out], HW.out.trans' (grow_below G0 _), ?_⟩
        rw [A3.out, ← hlt5]
        exact HVV.out


end Go.Proofs.Ytndgaklcnhoddaa
namespace Go.Proofs.Ytndgaklcnhoddaa
open Go.RowKit Go.Shelf
theorem play_fst {ks : List Int} : ∀ (row : List Int) (a b : Nat) (s : List Int), (playP ks a s row).1 = (playP ks b s row).1
  | [], _, _, _ => rfl
  | w :: row, a, b, s => by
    rw [playP, playP]
    split
    · rfl
    · exact play_fst row _ _ _
/-- the visits that are left, if so many times have been gone round -/
def remC (c : List Int) : Nat → List Int
  | 0 => c ++ c
  | 1 => c
  | _ => []
theorem rem_step (c : List Int) {r : Nat} (h : r < 2) : remC c r = c ++ remC c (r + 1) := by
  match r, h with
  | 0, _ => rfl
  | 1, _ => simp [remC]
/-- the error of a circle -/
def circErr (ks c : List Int) : Int := if tchk ks ≠ 0 then tchk ks else if c.length < 1 then 6 else if rowErr ks c ≠ 0 then rowErr ks c else if circP ks c = true then 0 else 17
theorem play_app {ks c m : List Int} {k : Nat} (hk : k < c.length) (s : List Int) : (playP ks 0 s (c.drop k ++ m)).1 = if fullP allW ks s then none else (playP ks 0 (visit (upP allW s) (gt c k).toNat) (c.drop (k + 1) ++ m)).1 := by
  rw [List.drop_eq_getElem_cons hk, List.cons_append, playP, gt_get hk]
  split
  · rfl
  · exact play_fst _ _ _ _
set_option maxRecDepth 100000 in
set_option maxHeartbeats 4000000 in
theorem checkCircle_any (ks c : List Int) (kv rv : Value) (w : World) (hv : IsInts w .i64 kv ks) (hr : IsInts w .i64 rv c) :
    Calls Try.prog 28 #[.agg #[kv], rv] w fun e w' => e = .returned (.int .i64 (circErr ks c)) ∧ Ext w w' := by
  obtain ⟨sa, cap, rfl, h1, h2, -⟩ := hv.spec
  obtain ⟨ra, rcap, rfl, h5, h6, -⟩ := hr.spec
  have HV := Lib.hid hv
  have HR0 := Lib.hid hr
  clear hv hr
  go_enter Try.func28, Try.ntmps28
  go_upto_region 1 with (fail)
  obtain ⟨W0, hW0⟩ : ∃ W0, W0 = w.alloc (.cells #[.slice sa ks.length cap] 24) := ⟨_, rfl⟩
  have hE : Ext w W0 := by rw [hW0]; exact (by repeat (first | exact Below.refl _ _ | refine Ext.al ?_ _ | refine Ext.dr ?_ | refine Ext.drN ?_ _ | refine Ext.gr ?_ _ | refine Ext.set ?_ (by simp) _ | (refine Ext.trans' ?_ (by assumption))))
  have k0 : W0.cell? ⟨w.heap.size, 0, none⟩ = some (.slice sa ks.length cap) := by rw [hW0]; simp [go_sem]
  have hz : w.heap.size < W0.heap.size := World.block_lt_of_cell? _ _ k0
  have HS := Lib.hid (HV.out.ext hE)
  have HW := Lib.hid hE
  rw [← hW0]
  clear hW0 HV
  have HR := Lib.hid (HR0.out.ext hE)
  clear hE HR0



  go_wp2_with fail
  refine callW (W0 := W0) (g := ⟨W0, Below.refl _ _⟩) (by exact (by repeat (first | exact Below.refl _ _ | refine Ext.al ?_ _ | refine Ext.dr ?_ | refine Ext.drN ?_ _ | refine Ext.gr ?_ _ | refine Ext.set ?_ (by simp) _ | (refine Ext.trans' ?_ (by assumption))))) (checkHall_any ks _ _ (HS.out.ext (by exact (by repeat (first | exact Below.refl _ _ | refine Ext.al ?_ _ | refine Ext.dr ?_ | refine Ext.drN ?_ _ | refine Ext.gr ?_ _ | refine Ext.set ?_ (by simp) _ | (refine Ext.trans' ?_ (by assumption))))))) fun g1 hgr => ?_
  clear hgr
  by_cases hc : tchk ks = 0
  rotate_left
  · have e1 : (tchk ks == 0) = false := by simpa using hc
    have e2 : (tchk ks != 0) = true := by simpa using hc
    have HC := Lib.hid hc
    clear hc
    go_wp2_with fail
    go_ret
    exact ⟨ret_int (by unfold circErr; rw [if_pos HC.out]), HW.out.trans' (grow_below W0 _)⟩
  have V := Lib.hid (tval_of hc)
  have n1 := V.out.n1
  have n5 := V.out.n5
  have HC := Lib.hid hc
  rw [hc]
  clear hc
  by_cases hl : c.length < 1
  · have e1 : decide ((c.length : Int) < 1) = true := decide_eq_true (by omega)
    have HL := Lib.hid hl
    clear hl
    go_wp2_with fail
    go_ret
    exact ⟨ret_int (by unfold circErr; rw [if_neg (fun h => h HC.out), if_pos HL.out]), HW.out.trans' (grow_below W0 _)⟩
  have e1 : decide ((c.length : Int) < 1) = false := decide_eq_false (by omega)
  go_wp2_with fail
  refine callW (W0 := W0) (g := g1) (by exact (by repeat (first | exact Below.refl _ _ | refine Ext.al ?_ _ | refine Ext.dr ?_ | refine Ext.drN ?_ _ | refine Ext.gr ?_ _ | refine Ext.set ?_ (by simp) _ | (refine Ext.trans' ?_ (by assumption))))) (checkRow_any ks c _ _ _ (HS.out.ext (by exact (by repeat (first | exact Below.refl _ _ | refine Ext.al ?_ _ | refine Ext.dr ?_ | refine Ext.drN ?_ _ | refine Ext.gr ?_ _ | refine Ext.set ?_ (by simp) _ | (refine Ext.trans' ?_ (by assumption)))))) (HR.out.ext (by exact (by repeat (first | exact Below.refl _ _ | refine Ext.al ?_ _ | refine Ext.dr ?_ | refine Ext.drN ?_ _ | refine Ext.gr ?_ _ | refine Ext.set ?_ (by simp) _ | (refine Ext.trans' ?_ (by assumption)))))) (by omega)) fun g2 hgr => ?_
  clear hgr
  by_cases hre : rowErr ks c = 0
  rotate_left
  · have e2 : (rowErr ks c == 0) = false := by simpa using hre
    have e3 : (rowErr ks c != 0) = true := by simpa using hre
    have HRE := Lib.hid hre
    have HL := Lib.hid hl
    clear hre hl
    go_wp2_with fail
    go_ret
    exact ⟨ret_int (by unfold circErr; rw [if_neg (fun h => h HC.out), if_neg HL.out, if_pos HRE.out]), HW.out.trans' (grow_below W0 _)⟩
  have HRE := Lib.hid hre
  have HL := Lib.hid hl
  rw [hre]
  clear hre hl e1
  go_upto_region 9 with (fail)
  obtain ⟨G0, hG0⟩ : ∃ zz9, zz9 = (grow W0 g2) := ⟨_, rfl⟩
  have eG0 : Ext W0 G0 := by rw [hG0]; exact (by repeat (first | exact Below.refl _ _ | refine Ext.al ?_ _ | refine Ext.dr ?_ | refine Ext.drN ?_ _ | refine Ext.gr ?_ _ | refine Ext.set ?_ (by simp) _ | (refine Ext.trans' ?_ (by assumption))))
  replace k0 := cell_ext eG0 k0
  replace HS := Lib.hid (HS.out.ext eG0)
  replace HR := Lib.hid (HR.out.ext eG0)
  replace HW := Lib.hid (HW.out.trans' eG0)
  rw [← hG0]
  replace hz := World.block_lt_of_cell? _ _ k0
  clear hG0 eG0
  go_upto_region 10 with (fail)
  have hb9 : StB (G0.alloc (.cells #[.int .i64 0, .int .i64 0, .int .i64 0, .int .i64 0, .int .i64 0] 73)) G0.heap.size (zeroS ks) := by
    have hz : ∀ i, gt (zeroS ks) i = 0 := fun i => zeroS_at ks i
    have := StB.new G0 (zeroS ks)
    simp only [hz] at this
    exact this
  have hE9 : Ext G0 (G0.alloc (.cells #[.int .i64 0, .int .i64 0, .int .i64 0, .int .i64 0, .int .i64 0] 73)) := by exact (by repeat (first | exact Below.refl _ _ | refine Ext.al ?_ _ | refine Ext.dr ?_ | refine Ext.drN ?_ _ | refine Ext.gr ?_ _ | refine Ext.set ?_ (by simp) _ | (refine Ext.trans' ?_ (by assumption))))
  have HB9 := Lib.hid hb9
  have HE9 := Lib.hid hE9
  clear hb9 hE9
  go_wp2_with fail
  go_loopw [29] (fun i W => ∃ (r : Nat) (t : List Int), r ≤ 2 ∧ i = .int .i64 r ∧ isSt ks t = true ∧ (playP ks 0 (zeroS ks) (c ++ c)).1 = (playP ks 0 t (remC c r)).1 ∧ Ext G0 W ∧ StB W G0.heap.size t) (fun i _ => 2 - (intOf i).toNat)
  case atStart => exact ⟨0, zeroS ks, by omega, rfl, zeroS_st V.out, rfl, HE9.out, HB9.out⟩
  case round =>
    clear HB9 HE9
    obtain ⟨r, t, hr2, rfl, hist, hpl, hE, hb⟩ := hrel
    by_cases hrlt : r < 2
    · have hr2d : decide ((r : Int) < 2) = true := decide_eq_true (by omega)
      obtain ⟨w1, rfl⟩ : ∃ w1 : World, w1 = wr := ⟨_, rfl⟩
      obtain ⟨v4, rfl⟩ : ∃ v4, v4 = u4 := ⟨_, rfl⟩
      have hrs := rem_step c hrlt
      rw [hrs] at hpl
      have HRS := Lib.hid hrs
      have HPL := Lib.hid hpl
      have HIS := Lib.hid hist
      have HE := Lib.hid hE
      have HB := Lib.hid hb
      clear hrs hpl hist hE hb
      go_wp2_with fail
      go_loopw [33] (fun i W => ∃ (k : Nat) (t : List Int), k ≤ c.length ∧ i = .int .i64 k ∧ isSt ks t = true ∧ (playP ks 0 (zeroS ks) (c ++ c)).1 = (playP ks 0 t (c.drop k ++ remC c (r + 1))).1 ∧ Ext G0 W ∧ StB W G0.heap.size t) (fun i _ => c.length - (intOf i).toNat)
      case atStart => exact ⟨0, t, by omega, rfl, HIS.out, by simpa using HPL.out, HE.out, HB.out⟩
      case round =>
        clear HPL HIS HE HB
        obtain ⟨k, t, hk, rfl, hist, hpl, hE, hb⟩ := hrel
        have hlt5 := isSt_len hist
        obtain ⟨gw, rfl⟩ := grow_of hE
        have HB := Lib.hid hb
        have HPL := Lib.hid hpl
        have HT := Lib.hid hist


        have c0p := (hb).c 0 (by omega)
        have c1p := (hb).c 1 (by omega)
        have c2p := (hb).c 2 (by omega)
        have c3p := (hb).c 3 (by omega)
        have c4p := (hb).c 4 (by omega)
        have cfp := (hb).free
        have czp := (hb).lt
        by_cases hlt : k < c.length
        · rcases (HR.out.ext hE).spec with ⟨ra', rcap', e, -, -, hcc⟩
          cases e
          rcases hcc with hcc | ⟨b, off, rfl, hcc⟩
          · rw [hcc] at hlt; simp at hlt
          have d0 := hcc k hlt
          rw [gt_get hlt] at d0
          have hxw := (rowErr_ok HRE.out).2 c[k] (List.getElem_mem hlt)
          rw [gt_get hlt] at hxw
          have hpd := play_app (ks := ks) (m := remC c (r + 1)) hlt t
          obtain ⟨X, hX⟩ : ∃ X : Nat, gt c k = (X : Int) := ⟨(gt c k).toNat, by omega⟩
          rw [hX] at d0 hxw hpd
          rw [Int.toNat_natCast] at hpd
          have hX5 : X < 5 := by omega
          have hki : (k : Int) < (c.length : Int) := by omega
          have hgb : ∀ i, i < ks.length → 0 ≤ gt t i ∧ gt t i ≤ 1000 := fun i hi => by
            have h1 := isSt_gt hist i hi
            have h2 := V.out.at_ i hi
            unfold gt at h1 ⊢
            omega
          have cp := fun w hs => pulled_any t ks (.slice sa ks.length cap) (.func (.func 71) #[] #[]) allW w hs (all_pulls w) hlt5 n5 hgb
          unfold RetPull at cp
          cases hf : fullP allW ks t
          · rw [hf, if_neg (by simp), stV_eq, stV_eq] at cp
            rw [hf, if_neg (by simp)] at hpd
            have hup := up_st hist hf
            have cv := fun w => visited_any (upP allW t) X w hX5
            simp only [stV_eq] at cv
            have hvs : isSt ks (visit (upP allW t) X) = true := visit_st hup (fun i hi => by have := V.out.at_ i hi; omega) X
            have CP := Lib.hid cp
            have CV := Lib.hid cv
            have HPD := Lib.hid hpd
            have HVS := Lib.hid hvs
            clear cp cv hpd hvs hup hf hgb hcc hb hist hpl hE hX hlt5

            go_wp2_with fail
            refine callW (W0 := G0) (g := gw) (by exact (by repeat (first | exact Below.refl _ _ | refine Ext.al ?_ _ | refine Ext.dr ?_ | refine Ext.drN ?_ _ | refine Ext.gr ?_ _ | refine Ext.set ?_ (by simp) _ | (refine Ext.trans' ?_ (by assumption))))) (CP.out _ (HS.out.ext (by exact (by repeat (first | exact Below.refl _ _ | refine Ext.al ?_ _ | refine Ext.dr ?_ | refine Ext.drN ?_ _ | refine Ext.gr ?_ _ | refine Ext.set ?_ (by simp) _ | (refine Ext.trans' ?_ (by assumption))))))) fun g3 hgr => ?_
            replace HB := Lib.hid (HB.out.ext hgr)
            clear hgr
            go_wp2_with fail
            refine callW (W0 := G0) (g := g3) (by exact (by repeat (first | exact Below.refl _ _ | refine Ext.al ?_ _ | refine Ext.dr ?_ | refine Ext.drN ?_ _ | refine Ext.gr ?_ _ | refine Ext.set ?_ (by simp) _ | (refine Ext.trans' ?_ (by assumption))))) (CV.out _) fun g4 hgr => ?_
            replace HB := Lib.hid (HB.out.ext hgr)
            clear hgr
            have hb2 := HB.out
            have c0q := (hb2).c 0 (by omega)
            have c1q := (hb2).c 1 (by omega)
            have c2q := (hb2).c 2 (by omega)
            have c3q := (hb2).c 3 (by omega)
            have c4q := (hb2).c 4 (by omega)
            have cfq := (hb2).free
            have czq := (hb2).lt
            clear hb2 c0p c1p c2p c3p c4p cfp
            go_wp2_with fail
            go_roundw
            case rel => exact ⟨k + 1, visit (upP allW t) X, by omega, by go_num, HVS.out, by rw [HPL.out, HPD.out], below_set5 (grow_below G0 _) (Nat.le_refl _) _ _ _ _ _, HB.out.set _⟩
            case measure => simp [intOf]; omega

          · rw [hf, if_pos rfl, stV_eq, stV_eq] at cp
            rw [hf, if_pos rfl] at hpd
            have CP := Lib.hid cp
            have hfin : circErr ks c = 17 := by
              unfold circErr circP
              rw [if_neg (fun h => h HC.out), if_neg HL.out, if_neg (fun h => h HRE.out), HPL.out.trans hpd]
              rfl
            have HFIN := Lib.hid hfin
            clear cp hpd hfin hf hgb hcc hb hist hpl hE hX hlt5

            go_wp2_with fail
            refine callW (W0 := G0) (g := gw) (by exact (by repeat (first | exact Below.refl _ _ | refine Ext.al ?_ _ | refine Ext.dr ?_ | refine Ext.drN ?_ _ | refine Ext.gr ?_ _ | refine Ext.set ?_ (by simp) _ | (refine Ext.trans' ?_ (by assumption))))) (CP.out _ (HS.out.ext (by exact (by repeat (first | exact Below.refl _ _ | refine Ext.al ?_ _ | refine Ext.dr ?_ | refine Ext.drN ?_ _ | refine Ext.gr ?_ _ | refine Ext.set ?_ (by simp) _ | (refine Ext.trans' ?_ (by assumption))))))) fun g5 hgr => ?_
            replace HB := Lib.hid (HB.out.ext hgr)
            clear hgr
            go_wp2_with fail
            go_ret
            exact ⟨ret_int HFIN.out.symm, HW.out.trans' (Ext.trans' (grow_below G0 _) (by repeat (first | exact Below.refl _ _ | refine Ext.al ?_ _ | refine Ext.dr ?_ | refine Ext.drN ?_ _ | refine Ext.gr ?_ _ | refine Ext.set ?_ (by simp) _ | (refine Ext.trans' ?_ (by assumption)))))⟩

        · obtain rfl : k = c.length := by omega
          rw [List.drop_length, List.nil_append] at hpl
          have HPL2 := Lib.hid hpl
          clear hb hist hpl HPL hlt5
          go_wp2_with fail
          go_roundw
          case rel => exact ⟨r + 1, t, by omega, by go_num, HT.out, HPL2.out, grow_below G0 _, HB.out⟩
          case measure => simp [intOf]; omega
    · have hr2 : r = 2 := by omega
      have hsome : (playP ks 0 (zeroS ks) (c ++ c)).1.isSome = true := by rw [hpl, hr2]; rfl
      have HSO := Lib.hid hsome
      have HE := Lib.hid hE
      replace k0 := cell_ext hE k0
      clear hpl hist hE hb hsome
      have hr2d : decide ((r : Int) < 2) = false := decide_eq_false (by omega)
      clear hr2
      go_wp2_with fail
      obtain ⟨w2, rfl⟩ : ∃ w2 : World, w2 = wr := ⟨_, rfl⟩
      obtain ⟨v4, rfl⟩ : ∃ v4, v4 = u4 := ⟨_, rfl⟩
      go_loopw [53] (fun i W => ∃ k : Nat, k ≤ ks.length ∧ i = .int .i64 k ∧ (∀ j, j < k → c.contains (j : Int) = true) ∧ Ext w2 W) (fun i _ => ks.length - (intOf i).toNat)
      case atStart => exact ⟨0, by omega, rfl, by omega, Below.refl _ _⟩
      case round =>
        obtain ⟨k, hk, rfl, hno, hE⟩ := hrel
        have HNO := Lib.hid hno
        have HE2 := Lib.hid (HE.out.trans' hE)
        have HE3 := Lib.hid hE
        clear hno hE
        by_cases hlt : k < ks.length
        · go_wp2_with fail
          refine (contains_any c k _ _ (HR.out.ext HE2.out)).mono ?_
          rintro e W3 ⟨rfl, hE4⟩
          have HE4 := Lib.hid hE4
          clear hE4
          cases hct : c.contains (k : Int)
          · have hfin : circErr ks c = 17 := by
              unfold circErr
              rw [if_neg (fun h => h HC.out), if_neg HL.out, if_neg (fun h => h HRE.out), if_neg]
              unfold circP
              rw [Bool.and_eq_true, List.all_eq_true]
              intro h
              have := h.2 k (by simpa using hlt)
              rw [hct] at this; cases this
            have HFIN := Lib.hid hfin
            clear hfin hct
            go_wp2_with fail
            go_ret
            exact ⟨ret_int HFIN.out.symm, HW.out.trans' (HE2.out.trans' HE4.out)⟩
          · have HCT := Lib.hid hct
            clear hct
            go_wp2_with fail
            go_roundw
            case rel =>
              refine ⟨k + 1, by omega, by go_num, fun j hj => ?_, HE3.out.trans' HE4.out⟩
              by_cases e : j = k
              · subst e; exact HCT.out
              · exact HNO.out j (by omega)
            case measure => simp [intOf]; omega
        · obtain rfl : k = ks.length := by omega
          have hfin : circErr ks c = 0 := by
            unfold circErr
            rw [if_neg (fun h => h HC.out), if_neg HL.out, if_neg (fun h => h HRE.out), if_pos]
            unfold circP
            rw [Bool.and_eq_true, List.all_eq_true]
            exact ⟨HSO.out, fun j hj => HNO.out j (by simpa using hj)⟩
          have HFIN := Lib.hid hfin
          clear hfin
          go_wp2_with fail
          go_ret
          exact ⟨ret_int HFIN.out.symm, HW.out.trans' HE2.out⟩
end Go.Proofs.Ytndgaklcnhoddaa
namespace Go.Proofs.Ytndgaklcnhoddaa
open Go.RowKit Go.Shelf
/-- do windows that pull come in order? -/
def incP (n : Int) : Int → List Int → Bool
  | _, [] => true
  | a, x :: r => inR a (n - 1) x && incP n (x + 1) r
/-- what Turn returns -/
def turnErr (ks s ps : List Int) (v : Int) : Int := if stErr ks s ≠ 0 then stErr ks s else if incP ks.length 0 ps = true ∧ inR 0 ((ks.length : Int) - 1) v = true then (if fullP (fun i => ps.contains (i : Int)) ks s then 17 else 0) else 2
def turnL (ks s ps : List Int) (v : Int) : List Int := if turnErr ks s ps v = 0 then visit (upP (fun i => ps.contains (i : Int)) s) v.toNat else []
def turnN (ks s ps : List Int) (v : Int) : Int := if turnErr ks s ps v = 0 then gt (upP (fun i => ps.contains (i : Int)) s) v.toNat else 0
def RetTurn (ks s ps : List Int) (v : Int) (w : World) (e : Ending) (w' : World) : Prop :=
  ∃ lv, e = .returned (.tuple #[lv, .int .i64 (turnN ks s ps v), .int .i64 (turnErr ks s ps v)]) ∧ Ext w w' ∧ IsInts w' .i64 lv (turnL ks s ps v)
theorem incP_drop {n a : Int} {ps : List Int} {k : Nat} (hk : k < ps.length) : incP n a (ps.drop k) = (inR a (n - 1) (gt ps k) && incP n (gt ps k + 1) (ps.drop (k + 1))) := by
  rw [List.drop_eq_getElem_cons hk, incP, gt_get hk]
theorem turn_bad {ks s ps : List Int} {v e : Int} (w : World) (h : turnErr ks s ps v = e) (he : e ≠ 0) {w0 : World} (hE : Ext w0 w) : RetTurn ks s ps v w0 (.returned (.tuple #[.slice none 0 0, .int .i64 0, .int .i64 e])) w := by
  refine ⟨.slice none 0 0, ?_, hE, ?_⟩
  · unfold turnN; rw [if_neg (by rw [h]; exact he), h]
  · unfold turnL; rw [if_neg (by rw [h]; exact he)]; exact IsInts.nil _ _
theorem turn1_pulls {W : World} {b : Nat} {pa : Option Addr} {pcap : Nat} {ps : List Int} (k1 : W.cell? ⟨b, 0, none⟩ = some (.slice pa ps.length pcap)) (hp : IsInts W .i64 (.slice pa ps.length pcap) ps) :
    Pulls W (.func (.func 65) #[] #[.pointer (some ⟨b, 0, none⟩)]) (fun i => ps.contains (i : Int)) :=
  ⟨65, #[.pointer (some ⟨b, 0, none⟩)], rfl, fun args W => Try.call65 args W, fun i W' _ hE => by
    have k2 := cell_ext hE k1
    have HP := Lib.hid (hp.ext hE)
    clear hp k1 hE
    go_enter Try.func65, Try.ntmps65
    go_wp2_with fail
    refine callGr (contains_any ps i _ _ HP.out) fun g => ?_
    go_wp2_with fail
    go_ret
    exact ⟨ret_bool (by simp), grow_below W' g⟩⟩
set_option maxRecDepth 100000 in
set_option maxHeartbeats 4000000 in
theorem turn_any (ks s ps : List Int) (v : Int) (kv lv pv : Value) (w : World) (hv : IsInts w .i64 kv ks) (hl : IsInts w .i64 lv s) (hp : IsInts w .i64 pv ps) :
    Calls Try.prog 20 #[.agg #[kv], lv, pv, .int .i64 v] w (RetTurn ks s ps v w) := by
  obtain ⟨sa, cap, rfl, h1, h2, -⟩ := hv.spec
  obtain ⟨la, lcap, rfl, h3, h4, -⟩ := hl.spec
  obtain ⟨pa, pcap, rfl, h5, h6, -⟩ := hp.spec
  have HV := Lib.hid hv
  have HL0 := Lib.hid hl
  have HP0 := Lib.hid hp
  clear hv hl hp
  go_enter Try.func20, Try.ntmps20
  go_upto_region 1 with (fail)
  obtain ⟨W0, hW0⟩ : ∃ W0, W0 = (w.alloc (.cells #[.slice sa ks.length cap] 24)).alloc (.cells #[.slice pa ps.length pcap] 22) := ⟨_, rfl⟩
  have hE : Ext w W0 := by rw [hW0]; exact (by repeat (first | exact Below.refl _ _ | refine Ext.al ?_ _ | refine Ext.dr ?_ | refine Ext.drN ?_ _ | refine Ext.gr ?_ _ | refine Ext.set ?_ (by simp) _ | (refine Ext.trans' ?_ (by assumption))))
  have k0 : W0.cell? ⟨w.heap.size, 0, none⟩ = some (.slice sa ks.length cap) := by rw [hW0]; simp [go_sem]
  have k1 : W0.cell? ⟨w.heap.size + 1, 0, none⟩ = some (.slice pa ps.length pcap) := by rw [hW0]; simp [go_sem]
  have hz : w.heap.size < W0.heap.size := World.block_lt_of_cell? _ _ k0
  have hz1 : w.heap.size + 1 < W0.heap.size := World.block_lt_of_cell? _ _ k1
  have HS := Lib.hid (HV.out.ext hE)
  have HL := Lib.hid (HL0.out.ext hE)
  have HP := Lib.hid (HP0.out.ext hE)
  have HW := Lib.hid hE
  rw [← hW0]
  clear hW0 HV hE HL0 HP0




  have c1 := fun w hs hl => stated_any ks s (.slice sa ks.length cap) (.slice la s.length lcap) w hs hl
  unfold RetStated at c1
  by_cases hst : stErr ks s = 0
  rotate_left
  · rw [if_neg hst] at c1
    rw [stV_eq] at c1
    have e1 : (stErr ks s == 0) = false := by simpa using hst
    have e2 : (stErr ks s != 0) = true := by simpa using hst
    have C1 := Lib.hid c1
    have HST := Lib.hid hst
    clear c1 hst

    go_wp2_with fail
    refine callW (W0 := W0) (g := ⟨W0, Below.refl _ _⟩) (by exact (by repeat (first | exact Below.refl _ _ | refine Ext.al ?_ _ | refine Ext.dr ?_ | refine Ext.drN ?_ _ | refine Ext.gr ?_ _ | refine Ext.set ?_ (by simp) _ | (refine Ext.trans' ?_ (by assumption))))) (C1.out _ (HS.out.ext (by exact (by repeat (first | exact Below.refl _ _ | refine Ext.al ?_ _ | refine Ext.dr ?_ | refine Ext.drN ?_ _ | refine Ext.gr ?_ _ | refine Ext.set ?_ (by simp) _ | (refine Ext.trans' ?_ (by assumption)))))) (HL.out.ext (by exact (by repeat (first | exact Below.refl _ _ | refine Ext.al ?_ _ | refine Ext.dr ?_ | refine Ext.drN ?_ _ | refine Ext.gr ?_ _ | refine Ext.set ?_ (by simp) _ | (refine Ext.trans' ?_ (by assumption))))))) fun g1 hgr => ?_
    clear hgr
    go_wp2_with fail
    refine bodyPost_ret (v := .tuple #[.slice none 0 0, .int .i64 0, .int .i64 (stErr ks s)]) (by simp [results, Try.results20, go_sem]) rfl ?_
    exact turn_bad _ (by unfold turnErr; rw [if_pos HST.out]) HST.out (HW.out.trans' (Ext.trans' (grow_below W0 g1) (by repeat (first | exact Below.refl _ _ | refine Ext.al ?_ _ | refine Ext.dr ?_ | refine Ext.drN ?_ _ | refine Ext.gr ?_ _ | refine Ext.set ?_ (by simp) _ | (refine Ext.trans' ?_ (by assumption))))))

  · rw [if_pos hst, hst] at c1
    rw [stV_eq] at c1
    obtain ⟨vv, hs⟩ := stErr_ok hst
    have n1 := vv.n1
    have n5 := vv.n5
    have hs5 := isSt_len hs
    have hgb : ∀ i, i < ks.length → 0 ≤ gt s i ∧ gt s i ≤ 1000 := fun i hi => by
      have h1 := isSt_gt hs i hi
      have h2 := vv.at_ i hi
      unfold gt at h1 ⊢
      omega
    have GB := Lib.hid hgb
    have C1 := Lib.hid c1
    have HST := Lib.hid hst
    have HS5 := Lib.hid hs5
    clear c1 hst vv hs hgb hs5

    go_wp2_with fail
    refine callW (W0 := W0) (g := ⟨W0, Below.refl _ _⟩) (by exact (by repeat (first | exact Below.refl _ _ | refine Ext.al ?_ _ | refine Ext.dr ?_ | refine Ext.drN ?_ _ | refine Ext.gr ?_ _ | refine Ext.set ?_ (by simp) _ | (refine Ext.trans' ?_ (by assumption))))) (C1.out _ (HS.out.ext (by exact (by repeat (first | exact Below.refl _ _ | refine Ext.al ?_ _ | refine Ext.dr ?_ | refine Ext.drN ?_ _ | refine Ext.gr ?_ _ | refine Ext.set ?_ (by simp) _ | (refine Ext.trans' ?_ (by assumption)))))) (HL.out.ext (by exact (by repeat (first | exact Below.refl _ _ | refine Ext.al ?_ _ | refine Ext.dr ?_ | refine Ext.drN ?_ _ | refine Ext.gr ?_ _ | refine Ext.set ?_ (by simp) _ | (refine Ext.trans' ?_ (by assumption))))))) fun g2 hgr => ?_
    clear hgr
    obtain ⟨G0, hG0⟩ : ∃ zz9, zz9 = (grow W0 g2) := ⟨_, rfl⟩
    have eG0 : Ext W0 G0 := by rw [hG0]; exact (by repeat (first | exact Below.refl _ _ | refine Ext.al ?_ _ | refine Ext.dr ?_ | refine Ext.drN ?_ _ | refine Ext.gr ?_ _ | refine Ext.set ?_ (by simp) _ | (refine Ext.trans' ?_ (by assumption))))
    replace k0 := cell_ext eG0 k0
    replace k1 := cell_ext eG0 k1
    replace HS := Lib.hid (HS.out.ext eG0)
    replace HL := Lib.hid (HL.out.ext eG0)
    replace HP := Lib.hid (HP.out.ext eG0)
    replace HW := Lib.hid (HW.out.trans' eG0)
    rw [← hG0]
    replace hz := World.block_lt_of_cell? _ _ k0
    replace hz1 := World.block_lt_of_cell? _ _ k1
    clear hG0 eG0
    go_upto_region 4 with (fail)
    have hb9 := Lib.hid (StB.new G0 s)
    obtain ⟨gz, hgz⟩ := grow_of (show Ext G0 (G0.alloc (.cells #[.int .i64 (gt s 0), .int .i64 (gt s 1), .int .i64 (gt s 2), .int .i64 (gt s 3), .int .i64 (gt s 4)] 73)) by exact (by repeat (first | exact Below.refl _ _ | refine Ext.al ?_ _ | refine Ext.dr ?_ | refine Ext.drN ?_ _ | refine Ext.gr ?_ _ | refine Ext.set ?_ (by simp) _ | (refine Ext.trans' ?_ (by assumption)))))
    replace hb9 := hb9.out
    rw [hgz] at hb9 ⊢
    have HB := Lib.hid hb9
    clear hgz hb9


    go_upto_region 5 with (fail)
    go_wp2_with fail
    go_loopw [13, 28] (fun a i W => ∃ (k : Nat) (m : Int), k ≤ ps.length ∧ 0 ≤ m ∧ m ≤ 5 ∧ i = .int .i64 k ∧ a = .int .i64 m ∧ incP ks.length 0 ps = incP ks.length m (ps.drop k) ∧ Ext G0 W ∧ StB W G0.heap.size s) (fun _ i _ => ps.length - (intOf i).toNat)
    case atStart => exact ⟨0, 0, by omega, by omega, by omega, rfl, rfl, by simp, grow_below G0 _, HB.out⟩
    case round =>
      clear HB
      obtain ⟨k, m, hk, hm0, hm5, rfl, rfl, hin, hE, hb⟩ := hrel
      obtain ⟨gw, rfl⟩ := grow_of hE
      have HB := Lib.hid hb

      by_cases hlt : k < ps.length
      · rcases (HP.out.ext hE).spec with ⟨pa', pcap', e, -, -, hcc⟩
        cases e
        rcases hcc with hcc | ⟨b, off, rfl, hcc⟩
        · rw [hcc] at hlt; simp at hlt
        have d0 := hcc k hlt
        rw [gt_get hlt] at d0
        rw [incP_drop hlt] at hin
        have hki : (k : Int) < (ps.length : Int) := by omega
        obtain ⟨x, hx⟩ : ∃ x, x = gt ps k := ⟨_, rfl⟩
        rw [← hx] at d0 hin
        have HIN := Lib.hid hin
        clear hcc hx hb hE hin

        go_wp2_with fail
        refine callW (W0 := G0) (g := gw) (by exact (by repeat (first | exact Below.refl _ _ | refine Ext.al ?_ _ | refine Ext.dr ?_ | refine Ext.drN ?_ _ | refine Ext.gr ?_ _ | refine Ext.set ?_ (by simp) _ | (refine Ext.trans' ?_ (by assumption))))) (within_any m ((ks.length : Int) - 1) _ [x] _ (isInts_one (by omega) (by omega) (by simp [go_sem]))) fun g3 hgr => ?_
        replace HB := Lib.hid (HB.out.ext hgr)
        clear hgr
        cases hir : inR m ((ks.length : Int) - 1) x
        · have hall : ([x].all (inR m ((ks.length : Int) - 1))) = false := by simp [hir]
          have hfin : turnErr ks s ps v = 2 := by
            unfold turnErr
            rw [if_neg (fun h => h HST.out), HIN.out, hir, if_neg (by simp)]
          have HFIN := Lib.hid hfin
          have HALL := Lib.hid hall
          rw [hall]
          clear hfin hir hall
          go_wp2_with fail
          refine bodyPost_ret (v := .tuple #[.slice none 0 0, .int .i64 0, .int .i64 2]) (by simp [results, Try.results20, go_sem]) rfl ?_
          exact turn_bad _ HFIN.out (by decide) (HW.out.trans' (grow_below G0 _))
        · have hall : ([x].all (inR m ((ks.length : Int) - 1))) = true := by simp [hir]
          have hxr := inR_iff.1 hir
          rw [hall]
          rw [hir] at HIN
          have hin2 := HIN.out
          rw [Bool.true_and] at hin2
          have HIN2 := Lib.hid hin2
          clear hall hir hin2 HIN
          go_wp2_with fail
          go_roundw
          case rel => exact ⟨k + 1, x + 1, by omega, by omega, by omega, by go_num, rfl, HIN2.out, grow_below G0 _, HB.out⟩
          case measure => simp [intOf]; omega

      · obtain rfl : k = ps.length := by omega
        rw [List.drop_length] at hin
        have HIN := Lib.hid (show incP ks.length 0 ps = true from hin)
        clear hin hb hE
        go_wp2_with fail
        refine callW (W0 := G0) (g := gw) (by exact (by repeat (first | exact Below.refl _ _ | refine Ext.al ?_ _ | refine Ext.dr ?_ | refine Ext.drN ?_ _ | refine Ext.gr ?_ _ | refine Ext.set ?_ (by simp) _ | (refine Ext.trans' ?_ (by assumption))))) (within_any 0 ((ks.length : Int) - 1) _ [v] _ (isInts_one (by omega) (by omega) (by simp [go_sem]))) fun g4 hgr => ?_
        replace HB := Lib.hid (HB.out.ext hgr)
        clear hgr
        cases hir : inR 0 ((ks.length : Int) - 1) v
        · have hall : ([v].all (inR 0 ((ks.length : Int) - 1))) = false := by simp [hir]
          have hfin : turnErr ks s ps v = 2 := by
            unfold turnErr
            rw [if_neg (fun h => h HST.out), hir, if_neg (by simp)]
          have HFIN := Lib.hid hfin
          rw [hall]
          clear hfin hir hall
          go_wp2_with fail
          refine bodyPost_ret (v := .tuple #[.slice none 0 0, .int .i64 0, .int .i64 2]) (by simp [results, Try.results20, go_sem]) rfl ?_
          exact turn_bad _ HFIN.out (by decide) (HW.out.trans' (grow_below G0 _))
        · have hall : ([v].all (inR 0 ((ks.length : Int) - 1))) = true := by simp [hir]
          have hxr := inR_iff.1 hir
          have HXR := Lib.hid hir
          rw [hall]
          clear hall hir
          obtain ⟨V, rfl⟩ : ∃ V : Nat, v = (V : Int) := ⟨v.toNat, by omega⟩
          have hV5 : V < 5 := by omega
          have hVk : V < ks.length := by omega
          have cp := fun W hs hp => pulled_any s ks (.slice sa ks.length cap) (.func (.func 65) #[] #[.pointer (some ⟨w.heap.size + 1, 0, none⟩)]) (fun i => ps.contains (i : Int)) W hs hp HS5.out n5 GB.out
          unfold RetPull at cp
          obtain ⟨p, hp⟩ : ∃ p : Nat → Bool, p = fun (i : Nat) => ps.contains (i : Int) := ⟨_, rfl⟩
          have tp := fun W b k1 hp => turn1_pulls (W := W) (b := b) (pa := pa) (pcap := pcap) (ps := ps) k1 hp
          rw [← hp] at cp tp
          have hte : turnErr ks s ps V = if fullP p ks s then 17 else 0 := by
            unfold turnErr
            rw [if_neg (fun h => h HST.out), if_pos ⟨HIN.out, HXR.out⟩, hp]
          have TP := Lib.hid tp
          clear tp
          go_upto_region 14 with (fail)
          cases hf : fullP p ks s

          · rw [hf, if_neg (by simp)] at hte
            rw [hf, if_neg (by simp), stV_eq, stV_eq] at cp
            have hup : (upP p s).length = ks.length := by rw [upP_len]; exact HS5.out
            have htl : turnL ks s ps V = visit (upP p s) V := by unfold turnL; rw [if_pos hte, hp]; rfl
            have htn : turnN ks s ps V = gt (upP p s) V := by unfold turnN; rw [if_pos hte, hp]; rfl
            have CP := Lib.hid cp
            have HTE := Lib.hid hte
            have HTL := Lib.hid htl
            have HTN := Lib.hid htn
            have HUP := Lib.hid hup
            clear cp hte hf hp htl htn hup
            have c0p := (HB.out).c 0 (by omega)
            have c1p := (HB.out).c 1 (by omega)
            have c2p := (HB.out).c 2 (by omega)
            have c3p := (HB.out).c 3 (by omega)
            have c4p := (HB.out).c 4 (by omega)
            have cfp := (HB.out).free
            have czp := (HB.out).lt
            go_wp2_with fail
            refine callW (W0 := G0) (g := g4) (by exact (by repeat (first | exact Below.refl _ _ | refine Ext.al ?_ _ | refine Ext.dr ?_ | refine Ext.drN ?_ _ | refine Ext.gr ?_ _ | refine Ext.set ?_ (by simp) _ | (refine Ext.trans' ?_ (by assumption))))) (CP.out _ (HS.out.ext (by exact (by repeat (first | exact Below.refl _ _ | refine Ext.al ?_ _ | refine Ext.dr ?_ | refine Ext.drN ?_ _ | refine Ext.gr ?_ _ | refine Ext.set ?_ (by simp) _ | (refine Ext.trans' ?_ (by assumption)))))) (TP.out _ _ (cell_ext (by exact (by repeat (first | exact Below.refl _ _ | refine Ext.al ?_ _ | refine Ext.dr ?_ | refine Ext.drN ?_ _ | refine Ext.gr ?_ _ | refine Ext.set ?_ (by simp) _ | (refine Ext.trans' ?_ (by assumption))))) k1) (HP.out.ext (by exact (by repeat (first | exact Below.refl _ _ | refine Ext.al ?_ _ | refine Ext.dr ?_ | refine Ext.drN ?_ _ | refine Ext.gr ?_ _ | refine Ext.set ?_ (by simp) _ | (refine Ext.trans' ?_ (by assumption)))))))) fun g5 hgr => ?_
            replace HB := Lib.hid (HB.out.ext hgr)
            clear hgr
            have hb2 := HB.out
            have c0q := (hb2).c 0 (by omega)
            have c1q := (hb2).c 1 (by omega)
            have c2q := (hb2).c 2 (by omega)
            have c3q := (hb2).c 3 (by omega)
            have c4q := (hb2).c 4 (by omega)
            have cfq := (hb2).free
            have czq := (hb2).lt
            clear hb2 c0p c1p c2p c3p c4p cfp
            go_upto_region 17 with (fail)
            have hb3 := HB.out.set (upP p s)
            obtain ⟨gy, hgy⟩ := grow_of (show Ext G0 (((((((grow G0 g5)).setCell ⟨G0.heap.size, 0, none⟩ (.int .i64 (gt (upP p s) 0))).setCell ⟨G0.heap.size, 1, none⟩ (.int .i64 (gt (upP p s) 1))).setCell ⟨G0.heap.size, 2, none⟩ (.int .i64 (gt (upP p s) 2))).setCell ⟨G0.heap.size, 3, none⟩ (.int .i64 (gt (upP p s) 3))).setCell ⟨G0.heap.size, 4, none⟩ (.int .i64 (gt (upP p s) 4))) from below_set5 (grow_below G0 _) (Nat.le_refl _) _ _ _ _ _)
            rw [hgy] at hb3 ⊢
            clear HB c0q c1q c2q c3q c4q cfq czq hgy
            have HB := Lib.hid hb3
            clear hb3

            obtain ⟨G1, hG1⟩ : ∃ zz9, zz9 = (grow G0 gy) := ⟨_, rfl⟩
            have eG1 : Ext G0 G1 := by rw [hG1]; exact (by repeat (first | exact Below.refl _ _ | refine Ext.al ?_ _ | refine Ext.dr ?_ | refine Ext.drN ?_ _ | refine Ext.gr ?_ _ | refine Ext.set ?_ (by simp) _ | (refine Ext.trans' ?_ (by assumption))))
            have eG1c : Ext (grow G0 gy) G1 := by rw [hG1]; exact (by repeat (first | exact Below.refl _ _ | refine Ext.al ?_ _ | refine Ext.dr ?_ | refine Ext.drN ?_ _ | refine Ext.gr ?_ _ | refine Ext.set ?_ (by simp) _ | (refine Ext.trans' ?_ (by assumption))))
            replace k0 := cell_ext eG1 k0
            replace k1 := cell_ext eG1 k1
            replace HS := Lib.hid (HS.out.ext eG1)
            replace HL := Lib.hid (HL.out.ext eG1)
            replace HP := Lib.hid (HP.out.ext eG1)
            replace HB := Lib.hid (HB.out.ext eG1c)
            replace HW := Lib.hid (HW.out.trans' eG1)
            rw [← hG1]
            replace hz := World.block_lt_of_cell? _ _ k0
            replace hz1 := World.block_lt_of_cell? _ _ k1
            clear hG1 eG1 eG1c
            have hVi : (V : Int) < 5 := by omega
            have hcv := (HB.out).c V hV5
            have hb2 := HB.out
            have c0q := (hb2).c 0 (by omega)
            have c1q := (hb2).c 1 (by omega)
            have c2q := (hb2).c 2 (by omega)
            have c3q := (hb2).c 3 (by omega)
            have c4q := (hb2).c 4 (by omega)
            have cfq := (hb2).free
            have czq := (hb2).lt
            clear hb2
            obtain ⟨x, hx⟩ : ∃ x, x = upP p s := ⟨_, rfl⟩
            have cl := fun W hs => list_any (visit x V) ks (.slice sa ks.length cap) W hs (by rw [visit_len, hx]; exact HUP.out) n5
            have cv := fun W => visited_any x V W hV5
            simp only [stV_eq] at cl cv
            have CL := Lib.hid cl
            have CV := Lib.hid cv
            rw [← hx] at c0q c1q c2q c3q c4q hcv
            clear cl cv
            have HX := Lib.hid hx
            clear hx
            refine wp_region_rove (G1.heap.size) (Nat.le_refl _)
              [sqV (.agg #[.int .i64 (gt x 0), .int .i64 (gt x 1), .int .i64 (gt x 2), .int .i64 (gt x 3), .int .i64 (gt x 4)]),
               sqV (.int .i64 V),
               sqV (.agg #[.int .i64 (gt (visit x V) 0), .int .i64 (gt (visit x V) 1), .int .i64 (gt (visit x V) 2), .int .i64 (gt (visit x V) 3), .int .i64 (gt (visit x V) 4)]),
               sqV (.agg #[.slice sa ks.length cap]),
               sqW (fun v W => ∃ va vc, v = .slice va ks.length vc ∧ IsInts W .i64 v (visit x V)) (fun _ _ _ ⟨va, vc, h1, h2⟩ e => ⟨va, vc, h1, h2.ext e⟩),
               sqV (.int .i64 V),
               sqV (.pointer (some ⟨G0.heap.size, V, none⟩)),
               sqV (.int .i64 (gt x V)),
               sqW (fun v W => ∃ va vc, v = .slice va ks.length vc ∧ IsInts W .i64 v (visit x V)) (fun _ _ _ ⟨va, vc, h1, h2⟩ e => ⟨va, vc, h1, h2.ext e⟩),
               sqV (.int .i64 (gt x V)),
               sqV (.int .i64 0)]
              [true, true, true, true, false, true, true, true, false, true, true] [false, false, false, false, false, false, false, false, false, false, false] [true, true, true, true, true, true, true, true, true, true, true] [true, true, true, true, true, true, true, true, true, true, true]
              (by kernel_rfl) (by kernel_rfl) (by decide +kernel) (by decide +kernel) (by decide +kernel) rfl ⟨rfl, rfl⟩ ⟨?s0, ?s1, ?s2, ?s3, ?s4, ?s5, ?s6, ?s7, ?s8, ?s9, ?s10, trivial⟩ [some 61, some 62, some 63, some 64, some 65, some 66, some 67, some 68, some 8, some 9, some 10] rfl rfl ?send
            case s0 =>
              intro val ρ W hE hz hd hA hx
              have o0 : ρ (.tmp 11) = .pointer (some ⟨G0.heap.size, 0, none⟩) := hA.old 11 (by decide)
              have f_c0q := cell_below hE (by simp only; omega) c0q
              have f_c1q := cell_below hE (by simp only; omega) c1q
              have f_c2q := cell_below hE (by simp only; omega) c2q
              have f_c3q := cell_below hE (by simp only; omega) c3q
              have f_c4q := cell_below hE (by simp only; omega) c4q
              clear hd
              exact runq_val (W' := W) (by simp [execOp, o0, f_c0q, f_c1q, f_c2q, f_c3q, f_c4q, go_sem]) (Below.refl _ _) rfl
            case s1 =>
              intro val ρ W hE hz hd hA hx
              have o0 : ρ (.tmp 3) = .int .i64 V := hA.old 3 (by decide)
              clear hd
              exact runq_val (W' := W) (by simp [execOp, o0, go_sem]) (Below.refl _ _) rfl
            case s2 =>
              intro val ρ W hE hz hd hA hx
              have d0 : ρ (.tmp 61) = .agg #[.int .i64 (gt x 0), .int .i64 (gt x 1), .int .i64 (gt x 2), .int .i64 (gt x 3), .int .i64 (gt x 4)] := (hA.dep 0 (by decide) 61 rfl).trans (hd 0 (by decide))
              have d1 : ρ (.tmp 62) = .int .i64 V := (hA.dep 1 (by decide) 62 rfl).trans (hd 1 (by decide))
              clear hd
              refine runq_call 67 _ _ rfl #[.agg #[.int .i64 (gt x 0), .int .i64 (gt x 1), .int .i64 (gt x 2), .int .i64 (gt x 3), .int .i64 (gt x 4)], .int .i64 V] (hA.func _) (by simp [d0, d1]) (fun args W => Try.call67 args W) ((CV.out W).mono ?_)
              rintro e w' ⟨rfl, hb⟩
              exact ⟨_, rfl, hb, rfl⟩
            case s3 =>
              intro val ρ W hE hz hd hA hx
              have o0 : ρ (.tmp 4) = .pointer (some ⟨w.heap.size, 0, none⟩) := hA.old 4 (by decide)
              have f_k0 := cell_below hE (by simp only; omega) k0
              clear hd
              exact runq_val (W' := W) (by simp [execOp, o0, f_k0, go_sem]) (Below.refl _ _) rfl
            case s5 =>
              intro val ρ W hE hz hd hA hx
              have o0 : ρ (.tmp 3) = .int .i64 V := hA.old 3 (by decide)
              clear hd
              exact runq_val (W' := W) (by simp [execOp, o0, go_sem]) (Below.refl _ _) rfl
            case s6 =>
              intro val ρ W hE hz hd hA hx
              have d5 : ρ (.tmp 66) = .int .i64 V := (hA.dep 5 (by decide) 66 rfl).trans (hd 5 (by decide))
              have o0 : ρ (.tmp 11) = .pointer (some ⟨G0.heap.size, 0, none⟩) := hA.old 11 (by decide)
              clear hd
              exact runq_val (W' := W) (by simp [execOp, d5, o0, hVi, go_sem]) (Below.refl _ _) rfl
            case s7 =>
              intro val ρ W hE hz hd hA hx
              have d6 : ρ (.tmp 67) = .pointer (some ⟨G0.heap.size, V, none⟩) := (hA.dep 6 (by decide) 67 rfl).trans (hd 6 (by decide))
              have f_hcv := cell_below hE (by simp only; omega) hcv
              clear hd
              exact runq_val (W' := W) (by simp [execOp, d6, f_hcv, go_sem]) (Below.refl _ _) rfl
            case s9 =>
              intro val ρ W hE hz hd hA hx
              have d7 : ρ (.tmp 68) = .int .i64 (gt x V) := (hA.dep 7 (by decide) 68 rfl).trans (hd 7 (by decide))
              clear hd
              exact runq_val (W' := W) (by simp [execOp, d7, go_sem]) (Below.refl _ _) rfl
            case s10 =>
              intro val ρ W hE hz hd hA hx
              clear hd
              exact runq_val (W' := W) (by simp [execOp, hA.const, go_sem]) (Below.refl _ _) rfl
            case s4 =>
              intro val ρ W hE hz hd hA hx9
              have d2 : ρ (.tmp 63) = .agg #[.int .i64 (gt (visit x V) 0), .int .i64 (gt (visit x V) 1), .int .i64 (gt (visit x V) 2), .int .i64 (gt (visit x V) 3), .int .i64 (gt (visit x V) 4)] := (hA.dep 2 (by decide) 63 rfl).trans (hd 2 (by decide))
              have d3 : ρ (.tmp 64) = .agg #[.slice sa ks.length cap] := (hA.dep 3 (by decide) 64 rfl).trans (hd 3 (by decide))
              clear hd
              refine runq_call 68 _ _ rfl #[.agg #[.int .i64 (gt (visit x V) 0), .int .i64 (gt (visit x V) 1), .int .i64 (gt (visit x V) 2), .int .i64 (gt (visit x V) 3), .int .i64 (gt (visit x V) 4)], .agg #[.slice sa ks.length cap]] (hA.func _) (by simp [d2, d3]) (fun args W => Try.call68 args W) ((CL.out W (HS.out.ext hE)).mono ?_)
              rintro e w' ⟨lv, rfl, hb, hs⟩
              obtain ⟨va, vc, rfl, -⟩ := hs.spec
              have hlen : (visit x V).length = ks.length := by rw [visit_len, HX.out]; exact HUP.out
              rw [hlen] at hs
              exact ⟨_, rfl, hb, va, vc, by rw [hlen], by rw [hlen]; exact hs⟩
            case s8 =>
              intro val ρ W hE hz hd hA hx9
              obtain ⟨va, vc, e4, h4⟩ : ∃ va vc, val 4 = .slice va ks.length vc ∧ IsInts W .i64 (val 4) (visit x V) := hd 4 (by decide)
              have d4 : ρ (.tmp 65) = .slice va ks.length vc := (hA.dep 4 (by decide) 65 rfl).trans e4
              clear hd
              exact runq_val (W' := W) (by simp [execOp, d4, go_sem]) (Below.refl _ _) ⟨va, vc, rfl, e4 ▸ h4⟩
            case send =>
              intro val WW hE hzz hv
              obtain ⟨-, -, -, -, -, -, -, -, r8, r9, r10, -⟩ := hv
              obtain ⟨va, vc, e8, h8⟩ : ∃ va vc, val 8 = .slice va ks.length vc ∧ IsInts WW .i64 (val 8) (visit x V) := r8
              have q9 : val 9 = .int .i64 (gt x V) := r9
              have q10 : val 10 = .int .i64 0 := r10
              rw [e8] at h8
              have H8 := Lib.hid h8
              clear r9 r10 h8
              simp only [putD, e8, q9, q10]
              go_frame
              clear e8 q9 q10
              go_wp2_with fail
              refine bodyPost_ret (v := .tuple #[.slice va ks.length vc, .int .i64 (gt x V), .int .i64 0]) (by simp [results, Try.results20, go_sem]) rfl ?_
              exact ⟨.slice va ks.length vc, by rw [HTN.out, HTE.out, HX.out], HW.out.trans' hE, by rw [HTL.out, ← HX.out]; exact H8.out⟩

          · rw [hf, if_pos rfl] at hte
            rw [hf, if_pos rfl, stV_eq, stV_eq] at cp
            have CP := Lib.hid cp
            have HTE := Lib.hid hte
            clear cp hte hf hp

            have c0p := (HB.out).c 0 (by omega)
            have c1p := (HB.out).c 1 (by omega)
            have c2p := (HB.out).c 2 (by omega)
            have c3p := (HB.out).c 3 (by omega)
            have c4p := (HB.out).c 4 (by omega)
            have cfp := (HB.out).free
            have czp := (HB.out).lt
            go_wp2_with fail
            refine callW (W0 := G0) (g := g4) (by exact (by repeat (first | exact Below.refl _ _ | refine Ext.al ?_ _ | refine Ext.dr ?_ | refine Ext.drN ?_ _ | refine Ext.gr ?_ _ | refine Ext.set ?_ (by simp) _ | (refine Ext.trans' ?_ (by assumption))))) (CP.out _ (HS.out.ext (by exact (by repeat (first | exact Below.refl _ _ | refine Ext.al ?_ _ | refine Ext.dr ?_ | refine Ext.drN ?_ _ | refine Ext.gr ?_ _ | refine Ext.set ?_ (by simp) _ | (refine Ext.trans' ?_ (by assumption)))))) (TP.out _ _ (cell_ext (by exact (by repeat (first | exact Below.refl _ _ | refine Ext.al ?_ _ | refine Ext.dr ?_ | refine Ext.drN ?_ _ | refine Ext.gr ?_ _ | refine Ext.set ?_ (by simp) _ | (refine Ext.trans' ?_ (by assumption))))) k1) (HP.out.ext (by exact (by repeat (first | exact Below.refl _ _ | refine Ext.al ?_ _ | refine Ext.dr ?_ | refine Ext.drN ?_ _ | refine Ext.gr ?_ _ | refine Ext.set ?_ (by simp) _ | (refine Ext.trans' ?_ (by assumption)))))))) fun g6 hgr => ?_
            replace HB := Lib.hid (HB.out.ext hgr)
            clear hgr
            have hb2 := HB.out
            have c0q := (hb2).c 0 (by omega)
            have c1q := (hb2).c 1 (by omega)
            have c2q := (hb2).c 2 (by omega)
            have c3q := (hb2).c 3 (by omega)
            have c4q := (hb2).c 4 (by omega)
            have cfq := (hb2).free
            have czq := (hb2).lt
            clear hb2 c0p c1p c2p c3p c4p cfp
            go_wp2_with fail
            refine bodyPost_ret (v := .tuple #[.slice none 0 0, .int .i64 0, .int .i64 17]) (by simp [results, Try.results20, go_sem]) rfl ?_
            exact turn_bad _ HTE.out (by decide) (HW.out.trans' (below_set5 (grow_below G0 _) (Nat.le_refl _) _ _ _ _ _))


end Go.Proofs.Ytndgaklcnhoddaa
