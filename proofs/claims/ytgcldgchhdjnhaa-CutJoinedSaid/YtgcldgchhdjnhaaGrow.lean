/-
  Worlds that a call has grown, as a function of the world before it: what there was is read through it. And slices.Index, slices.Contains on numbers.
-/
import Derived.Test.YtgcldgchhdjnhaaQuiet
import Derived.Test.YtgcldgchhdjnhaaIdx
namespace Go.Proofs.Ytgcldgchhdjnhaa
open Go.RowKit Go.Shelf
theorem grow_size (w : World) (g) : w.heap.size ≤ (grow w g).heap.size := g.h.size
@[go_sem] theorem lt_grow (w : World) (g) (b : Nat) (h : b < w.heap.size) : (b < (grow w g).heap.size) = True := eq_true (Nat.lt_of_lt_of_le h g.h.size)
@[go_sem] theorem lt_more (a b : Nat) (h : a < b) : (a < b + 1) = True := eq_true (by omega)
@[go_sem] theorem le_more (a b : Nat) (h : a < b) : (a ≤ b) = True := eq_true (by omega)
@[go_sem] theorem lt_self1 (a : Nat) : (a < a + 1) = True := eq_true (by omega)
@[go_sem] theorem lt_al (w : World) (o : Obj) (b : Nat) (h : b < w.heap.size) : (b < (w.alloc o).heap.size) = True := eq_true (by simp; omega)
@[go_sem] theorem lt_al_self (w : World) (o : Obj) : (w.heap.size < (w.alloc o).heap.size) = True := eq_true (by simp)
theorem Ext.gr {w W : World} (h : Ext w W) (g) : Ext w (grow W g) := Ext.trans' h (grow_below W g)
theorem callGr {P : Program} {f : FuncId} {args : Array Value} {w : World} {v : Value} {Q : Ending → World → Prop} (h : Calls P f args w fun e w' => e = .returned v ∧ Ext w w') (k : ∀ g, Q (.returned v) (grow w g)) : Calls P f args w Q :=
  h.mono fun e w' ⟨he, hb⟩ => by obtain ⟨g, rfl⟩ := grow_of hb; subst he; exact k g
theorem callGrEx {P : Program} {f : FuncId} {args : Array Value} {w : World} {Q : Ending → World → Prop} {R : Value → World → Prop} (h : Calls P f args w fun e w' => ∃ v, e = .returned v ∧ Ext w w' ∧ R v w') (k : ∀ v g, R v (grow w g) → Q (.returned v) (grow w g)) : Calls P f args w Q :=
  h.mono fun e w' ⟨v, he, hb, hr⟩ => by obtain ⟨g, rfl⟩ := grow_of hb; subst he; exact k v g hr

set_option maxHeartbeats 400000 in
theorem index_any (l : List Int) (x : Int) (lv : Value) (w : World) (hv : IsInts w .i64 lv l) :
    Calls Try.prog 108 #[lv, .int .i64 x] w fun e w' => e = .returned (.int .i64 (fidx (fun y => x == y) l)) ∧ Ext w w' := by
  obtain ⟨sa, cap, rfl, h1, h2, hs⟩ := hv.spec
  clear hv
  go_enter Try.func108, Try.ntmps108
  go_wp2
  go_loopw [8] (fun i W => ∃ k : Nat, k ≤ l.length ∧ i = .int .i64 k ∧ (∀ y ∈ l.take k, (x == y) = false) ∧ Ext w W) (fun i _ => l.length - (intOf i).toNat)
  case atStart => exact ⟨0, Nat.zero_le _, rfl, by simp, Below.refl _ _⟩
  case round =>
    obtain ⟨k, hk, rfl, hno, hb⟩ := hrel
    have HN := Lib.hid hno
    clear hno
    by_cases hlt : k < l.length
    · rcases hs with rfl | ⟨b, off, rfl, hc⟩
      · simp at hlt
      have hcell := cell_ext hb (hc k hlt)
      clear hc
      cases hp : (x == l[k])
      · go_wp2
        go_roundw
        case rel => exact ⟨k + 1, by omega, by go_num, take_ext (p := fun y => x == y) hlt HN.out hp, hb⟩
        case measure => simp [intOf]; omega
      · go_wp2
        go_ret
        exact ⟨ret_int (fidx_at (p := fun y => x == y) hlt HN.out hp).symm, hb⟩
    · go_wp2
      go_ret
      exact ⟨ret_int (fidx_none (p := fun y => x == y) (take_all hlt HN.out)).symm, hb⟩

set_option maxHeartbeats 400000 in
theorem contains_any (l : List Int) (x : Int) (lv : Value) (w : World) (hv : IsInts w .i64 lv l) :
    Calls Try.prog 93 #[lv, .int .i64 x] w fun e w' => e = .returned (.bool (l.contains x)) ∧ Ext w w' := by
  have H := Lib.hid (index_any l x lv w hv)
  clear hv
  go_enter Try.func93, Try.ntmps93
  go_wp2_with fail
  refine callGr H.out fun g => ?_
  go_wp2
  all_goals
    go_ret
    refine ⟨ret_bool ?_, grow_below w g⟩
    rw [fidx_any, List.contains_eq_any_beq]
end Go.Proofs.Ytgcldgchhdjnhaa
