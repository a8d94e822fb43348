/-
  The walks of the small functions on steps: where they lead, which are valid.
-/
import Derived.Test.YtgcldgchhdjnhaaHallR
namespace Go.Proofs.Ytgcldgchhdjnhaa
open Go.RowKit

def Stp.val (x : Stp) : Value := .agg #[.bool x.win, .int .i64 x.idx, .bool x.back]
/-- the cells of a hall, one behind the other -/
structure HallAt (w : World) (b : Nat) (h : Hall) (sv : Value) : Prop where
  c0 : w.cell? ⟨b, 0, none⟩ = some (.int .i64 h.n)
  c1 : w.cell? ⟨b, 1, none⟩ = some (.int .i64 h.most)
  c2 : w.cell? ⟨b, 2, none⟩ = some sv
  cs : IsCnts w sv h.cs
theorem HallAt.ext {w w' : World} (e : Ext w w') {b : Nat} {h : Hall} {sv : Value} (p : HallAt w b h sv) : HallAt w' b h sv :=
  ⟨cell_ext e p.c0, cell_ext e p.c1, cell_ext e p.c2, p.cs.ext e⟩

set_option maxHeartbeats 1000000 in
theorem ends_win (h : Hall) (sv : Value) (x : Stp) (b : Nat) (w : World) (v : Valid h) (o : okStp h x = true) (hw : x.win = true) (p : HallAt w b h sv) :
    Calls Try.prog 101 #[.pointer (some ⟨b, 0, none⟩), .agg #[.bool x.win, .int .i64 x.idx, .bool x.back]] w fun e w' =>
      e = .returned (.tuple #[.int .i64 (src h x), .int .i64 (dst h x), .int .i64 (cost h x)]) ∧ Ext w w' := by
  obtain ⟨c0, c1, c2, cs⟩ := p
  obtain ⟨xw, xi, xb⟩ := x
  obtain rfl : xw = true := hw
  have hb : b < w.heap.size := World.block_lt_of_cell? _ _ c0
  clear cs c0
  have := v.n10
  simp [okStp] at o
  obtain ⟨o1, o2⟩ := o
  cases xb
  all_goals
    go_enter Try.func101, Try.ntmps101
    go_wp2
    go_region
    go_wp2
    go_region
    go_wp2
    go_ret3
    exact ⟨ret_iii (by simp [src, stpC]) (by simp [dst, stpC]) (by simp [cost, stpC]), (by repeat (first | exact Below.refl _ _ | refine Ext.al ?_ _ | refine Ext.dr ?_ | refine Ext.drN ?_ _ | refine Ext.gr ?_ _ | refine Ext.set ?_ (by simp) _ | (refine Ext.trans' ?_ (by assumption))))⟩

set_option maxHeartbeats 1000000 in
theorem ends_cnt (h : Hall) (sv : Value) (x : Stp) (b : Nat) (w : World) (v : Valid h) (o : okStp h x = true) (hw : x.win = false) (p : HallAt w b h sv) :
    Calls Try.prog 101 #[.pointer (some ⟨b, 0, none⟩), .agg #[.bool x.win, .int .i64 x.idx, .bool x.back]] w fun e w' =>
      e = .returned (.tuple #[.int .i64 (src h x), .int .i64 (dst h x), .int .i64 (cost h x)]) ∧ Ext w w' := by
  have hv := stpC_ok v o
  obtain ⟨c0, c1, c2, cs⟩ := p
  obtain ⟨xw, xi, xb⟩ := x
  obtain rfl : xw = false := hw
  have hb : b < w.heap.size := World.block_lt_of_cell? _ _ c0
  simp [okStp] at o
  obtain ⟨o1, o2⟩ := o
  obtain ⟨k, rfl⟩ : ∃ k : Nat, xi = k := ⟨xi.toNat, by omega⟩
  have hk : k < h.cs.length := by omega
  obtain ⟨sa, cap, rfl, hl1, hl2, hl3⟩ := cs.spec
  rcases hl3 with e | ⟨sb, off, rfl, hc⟩
  · simp [e] at hk
  obtain ⟨a0, a1, a2, a3⟩ := hc k hk
  have hsb : sb < w.heap.size := World.block_lt_of_cell? _ _ a0
  have e : stpC h ⟨false, (k : Int), xb⟩ = h.cs[k] := by simp [stpC, List.getD, hk]
  rw [e] at hv
  have := v.n10
  obtain ⟨v1, v2, v3, v4, v5, v6⟩ := hv
  have E := Lib.hid e
  clear e cs c0 hc
  cases xb
  all_goals
    go_enter Try.func101, Try.ntmps101
    go_wp2
    go_region
    go_wp2
    go_region
    go_wp2
    go_region
    go_wp2
    go_ret3
    exact ⟨ret_iii (by simp [src, E.out]) (by simp [dst, E.out]) (by simp [cost, E.out]), (by repeat (first | exact Below.refl _ _ | refine Ext.al ?_ _ | refine Ext.dr ?_ | refine Ext.drN ?_ _ | refine Ext.gr ?_ _ | refine Ext.set ?_ (by simp) _ | (refine Ext.trans' ?_ (by assumption))))⟩

theorem ends_any (h : Hall) (sv : Value) (x : Stp) (b : Nat) (w : World) (v : Valid h) (o : okStp h x = true) (p : HallAt w b h sv) :
    Calls Try.prog 101 #[.pointer (some ⟨b, 0, none⟩), .agg #[.bool x.win, .int .i64 x.idx, .bool x.back]] w fun e w' =>
      e = .returned (.tuple #[.int .i64 (src h x), .int .i64 (dst h x), .int .i64 (cost h x)]) ∧ Ext w w' := by
  cases hw : x.win
  · rw [← hw]; exact ends_cnt h sv x b w v o hw p
  · rw [← hw]; exact ends_win h sv x b w v o hw p
end Go.Proofs.Ytgcldgchhdjnhaa
