/-
 The law's Finish: a finish of a valid book, by numbers.
 Plain: the account's parts, and what is paid for all bets.
-/
import Derived.Test.YtphajlldghcnnaaPr
import Derived.Test.YtphajlldghcnnaaPs
import Derived.Test.YtphajlldghcnnaaPj
namespace Go.Proofs.Ytphajlldghcnnaa
open Go.RowKit Go.Shelf
def keyN (bs : List Int) (r : Nat) : Int := if bs = [] then (r : Int) else (gt bs (r % bs.length)) % 8
def grpN (b : Bk) (bs : List Int) (k : Int) (m : Nat) : List Int := (runK b m).filter fun r => decide (keyN bs r.toNat = k)
def finN (b : Bk) (bs : List Int) (m : Nat) : List (List Int) := ((List.range m).map fun (k : Nat) => grpN b bs k b.n.toNat).filter fun g => !g.isEmpty
def finL (b : Bk) (bs : List Int) : List (List Int) := finN b bs 8
theorem grpN_succ (b : Bk) (bs : List Int) (k : Int) (m : Nat) : grpN b bs k (m + 1) = grpN b bs k m ++ if outB b m = false ∧ keyN bs m = k then [(m : Int)] else [] := by
 unfold grpN
 rw [runK_succ, List.filter_append]
 congr 1
 cases ho : outB b m
 ·by_cases hk : keyN bs m = k <;> simp [hk]
 ·simp
theorem grpN_len (b : Bk) (bs : List Int) (k : Int) (m : Nat) : (grpN b bs k m).length ≤ m := by
 unfold grpN
 exact Nat.le_trans (List.length_filter_le _ _) (runK_len b m)
theorem finN_succ (b : Bk) (bs : List Int) (m : Nat) : finN b bs (m + 1) = finN b bs m ++ if (grpN b bs m b.n.toNat).isEmpty = true then [] else [grpN b bs m b.n.toNat] := by
 unfold finN
 rw [List.range_succ, List.map_append, List.filter_append]
 congr 1
 cases h : (grpN b bs m b.n.toNat).isEmpty <;> simp [h]
theorem finN_len (b : Bk) (bs : List Int) (m : Nat) : (finN b bs m).length ≤ m := by
 unfold finN
 exact Nat.le_trans (List.length_filter_le _ _) (by simp)
theorem part_perm (L : List Int) (f : Int → Int) : ∀ m : Nat, (L.filter fun r => decide (0 ≤ f r ∧ f r < (m : Int))).Perm ((List.range m).flatMap fun (k : Nat) => L.filter fun r => decide (f r = (k : Int)))
 | 0 => by
  have : (L.filter fun r => decide (0 ≤ f r ∧ f r < ((0 : Nat) : Int))) = [] := List.filter_eq_nil_iff.2 fun r _ => by simp
  rw [this]; simp
 | m + 1 => by
  rw [List.range_succ, List.flatMap_append]
  refine List.Perm.trans ?_ ((part_perm L f m).append_right _)
  have h1 := List.filter_append_perm (fun r => decide (f r < (m : Int))) (L.filter fun r => decide (0 ≤ f r ∧ f r < ((m + 1 : Nat) : Int)))
  refine h1.symm.trans ?_
  rw [List.filter_filter, List.filter_filter]
  have e1 : (L.filter fun a => decide (f a < (m : Int)) && decide (0 ≤ f a ∧ f a < ((m + 1 : Nat) : Int))) = L.filter fun r => decide (0 ≤ f r ∧ f r < (m : Int)) := List.filter_congr fun r _ => by
   rw [Bool.eq_iff_iff]; simp; omega
  have e2 : (L.filter fun a => (!decide (f a < (m : Int))) && decide (0 ≤ f a ∧ f a < ((m + 1 : Nat) : Int))) = ([m].flatMap fun (k : Nat) => L.filter fun r => decide (f r = (k : Int))) := by
   simp only [List.flatMap_cons, List.flatMap_nil, List.append_nil]
   exact List.filter_congr fun r _ => by rw [Bool.eq_iff_iff]; simp; omega
  rw [e1, e2]
theorem keyN_bd {bs : List Int} {r : Nat} (hr : r < 8) : 0 ≤ keyN bs r ∧ keyN bs r < 8 := by
 unfold keyN
 split
 ·omega
 ·omega
theorem finL_val {b : Bk} (v : BVal b) (bs : List Int) : FinV b (finL b bs) := by
 refine ⟨v, ?_, fun g hg => ?_, fun g hg => ?_⟩
 ·unfold finL finN
  rw [filter_flat]
  have h1 := part_perm (runL b) (fun r => keyN bs r.toNat) 8
  have h2 : ((runL b).filter fun r => decide (0 ≤ keyN bs r.toNat ∧ keyN bs r.toNat < ((8 : Nat) : Int))) = runL b := List.filter_eq_self.2 fun r hr => by
   have h3 := runL_mem.1 hr
   have h4 := v.n
   have := keyN_bd (bs := bs) (r := r.toNat) (by omega)
   simp; omega
  rw [h2] at h1
  rw [List.flatMap_def] at h1
  exact h1
 ·unfold finL finN at hg
  have := (List.mem_filter.1 hg).2
  intro e; subst e; simp at this
 ·unfold finL finN at hg
  obtain ⟨k, _, rfl⟩ := List.mem_map.1 (List.mem_filter.1 hg).1
  have := rising_iff.1 (runL_rising b)
  exact rising_iff.2 (this.filter _)
def u8L (bs : List Int) : Prop := ∀ x ∈ bs, 0 ≤ x ∧ x ≤ 255
theorem nums_cell {w : World} {k : IntKind} {v : Value} {l : List Int} (h : IsInts w k v l) : ∃ sa cap, v = .slice sa l.length cap ∧ l.length ≤ cap ∧ cap ≤ 9223372036854775807 ∧ ∀ i, i < l.length → ∃ sb off, sa = some ⟨sb, off, none⟩ ∧ ∀ W, Ext w W → W.cell? ⟨sb, off + i, none⟩ = some (.int k (gt l i)) ∧ sb < W.heap.size := by
 obtain ⟨sa, cap, h1, h2, h3, hc⟩ := h.spec
 refine ⟨sa, cap, h1, h2, h3, fun i hi => ?_⟩
 rcases hc with h0 | ⟨sb, off, rfl, hc⟩
 ·rw [h0] at hi; simp at hi
 ·refine ⟨sb, off, rfl, fun W e => ?_⟩
  have c0 := cell_ext e (hc i hi)
  rw [gt_get] at c0
  exact ⟨c0, World.block_lt_of_cell? _ _ c0⟩
set_option maxRecDepth 100000 in
set_option maxHeartbeats 8000000 in
theorem finishL_any (bv : Value) (bs : List Int) (b : Bk) (ba sa : Option Addr) (bcap scap : Nat) (w : World) (hv : IsBook w b ba bcap sa scap) (v : BVal b) (hb : IsInts w .u8 bv bs) (h8 : u8L bs) :
  Calls Try.prog 42 #[.agg #[.int .i64 b.kd, .int .i64 b.n, .slice ba b.bets.length bcap, .slice sa b.scr.length scap, .bool b.fav, .int .i64 b.car, .int .i64 b.duty, .int .i64 b.step], bv] w fun e w' => ∃ v ps, e = .returned v ∧ Ext w w' ∧ LL w' w.heap.size v ps ∧ finsOf ps = finL b bs := by
 obtain ⟨na, ncap, rfl, hn1, hn2, hnc⟩ := nums_cell hb
 have V := Lib.hid v
 have hvn := v.n
 have H8 := Lib.hid h8
 have HNC := Lib.hid hnc
 clear v hb h8 hnc
 have HV := Lib.hid hv
 clear hv
 go_enter Try.func42, Try.ntmps42
 go_upto_region 1 with (fail)
 obtain ⟨W0, hW0⟩ : ∃ W0, W0 = w.alloc (.cells #[.int .i64 b.kd, .int .i64 b.n, .slice ba b.bets.length bcap, .slice sa b.scr.length scap, .bool b.fav, .int .i64 b.car, .int .i64 b.duty, .int .i64 b.step] 25) := ⟨_, rfl⟩
 have hE : Ext w W0 := by rw [hW0]; exact xx
 have k0 : W0.cell? ⟨w.heap.size, 0, none⟩ = some (.int .i64 b.kd) := by rw [hW0]; simp [go_sem]
 have k1 : W0.cell? ⟨w.heap.size, 1, none⟩ = some (.int .i64 b.n) := by rw [hW0]; simp [go_sem]
 have k2 : W0.cell? ⟨w.heap.size, 2, none⟩ = some (.slice ba b.bets.length bcap) := by rw [hW0]; simp [go_sem]
 have k3 : W0.cell? ⟨w.heap.size, 3, none⟩ = some (.slice sa b.scr.length scap) := by rw [hW0]; simp [go_sem]
 have k4 : W0.cell? ⟨w.heap.size, 4, none⟩ = some (.bool b.fav) := by rw [hW0]; simp [go_sem]
 have k5 : W0.cell? ⟨w.heap.size, 5, none⟩ = some (.int .i64 b.car) := by rw [hW0]; simp [go_sem]
 have k6 : W0.cell? ⟨w.heap.size, 6, none⟩ = some (.int .i64 b.duty) := by rw [hW0]; simp [go_sem]
 have k7 : W0.cell? ⟨w.heap.size, 7, none⟩ = some (.int .i64 b.step) := by rw [hW0]; simp [go_sem]
 have hz : w.heap.size < W0.heap.size := World.block_lt_of_cell? _ _ k0
 have HS := Lib.hid (HV.out.ext hE)
 have HW := Lib.hid hE
 rw [← hW0]
 clear hW0 HV
 have hw0 := hE.size
 have HE0 := Lib.hid hE
 clear hE
 go_wp2_with fail
 go_loopw [5, 6] (fun ov iv W => ∃ (k : Nat) (ps : List (Value × List Int)), k ≤ 8 ∧ iv = .int .i64 k ∧ LL W W0.heap.size ov ps ∧ finsOf ps = finN b bs k ∧ Ext W0 W) (fun _ iv _ => 8 - (intOf iv).toNat)
 case atStart => exact ⟨0, [], by omega, rfl, LL.nil _ _, rfl, Below.refl _ _⟩
 case round =>
  obtain ⟨k, ps, hk, rfl, hll, hps, hE⟩ := hrel
  have HLL := Lib.hid hll
  have HPS := Lib.hid hps
  have HE := Lib.hid hE
  obtain ⟨oa, on, oc, rfl⟩ := hll.own.isSlice
  by_cases hlt : k < 8
  ·have hki : (k : Int) < 8 := by omega
   have i1 := cell_ext hE k1
   have iz := World.block_lt_of_cell? _ _ i1
   simp only at iz
   have hxz := hE.size
   obtain ⟨X, rfl⟩ : ∃ X, X = wr := ⟨_, rfl⟩
   clear hll hps hE
   go_wp2_with fail
   go_loopw [7, 8] (fun gv rv W => ∃ r : Nat, (r : Int) ≤ b.n ∧ rv = .int .i64 r ∧ Owns W X.heap.size 3 1 gv ((grpN b bs k r).map iRow) ∧ Ext X W) (fun _ rv _ => b.n.toNat - (intOf rv).toNat)
   case atStart => exact ⟨0, by omega, rfl, Owns.nil _ _ _ _, Below.refl _ _⟩
   case round =>
    obtain ⟨r, hr, rfl, hg, hE3⟩ := hrel
    have HG := Lib.hid hg
    have HE3 := Lib.hid hE3
    obtain ⟨ga, gn, gc, rfl⟩ := hg.isSlice
    replace i1 := cell_ext hE3 i1
    have i3 := cell_ext (HE.out.trans' hE3) k3
    replace iz := World.block_lt_of_cell? _ _ i1
    simp only at iz
    have hz3 := hE3.size
    by_cases hlt2 : (r : Int) < b.n
    ·clear k0 k1 k2 k3 k4 k5 k6 k7 hz
     by_cases hb0 : bs.length = 0
     ·have hbi : ¬ ((0 : Int) < (bs.length : Int)) := by omega
      have hbe : bs = [] := List.eq_nil_of_length_eq_zero hb0
      have HQ : Hid ((r : Int) = keyN bs r) := Lib.hid (by unfold keyN; rw [if_pos hbe])
      have hd : decide ((0 : Int) < (bs.length : Int)) = false := decide_eq_false hbi
      have hd2 : decide (0 < bs.length) = false := decide_eq_false (by omega)
      clear hg hE3 hbe hb0
      by_cases hqk0 : (r : Int) = (k : Int)
      rotate_left
      ·have hqk : ((r : Int) == (k : Int)) = false := by simpa using hqk0
       have HNK : Hid (¬ (outB b r = false ∧ keyN bs r = (k : Int))) := Lib.hid (fun h => hqk0 (by rw [HQ.out]; exact h.2))
       go_wp2_with fail
       go_roundw
       case rel => exact ⟨r + 1, by omega, by go_num, by rw [grpN_succ, if_neg HNK.out, List.append_nil]; exact HG.out, HE3.out⟩
       case measure => simp [intOf]; omega
      ·have hqk : ((r : Int) == (k : Int)) = true := by simpa using hqk0
       have HKEY : Hid (keyN bs r = (k : Int)) := Lib.hid (by rw [← HQ.out]; exact hqk0)
       clear hqk0
       have HSW := Lib.hid ((HS.out.ext (HE.out.trans' HE3.out)).scr)
       go_wp2_with fail
       refine (has_any b.scr r _ _ (HSW.out.ext (by exact xx))).mono ?_
       rintro e Y ⟨rfl, hEY⟩
       have HEY := Lib.hid (HE3.out.trans' hEY)
       have hyz := (HE3.out.trans' hEY).size
       replace HG := Lib.hid (HG.out.ext hEY)
       clear hEY i1 i3 iz
       by_cases ho : (r : Int) ∈ b.scr
       ·have HNK : Hid (¬ (outB b r = false ∧ keyN bs r = (k : Int))) := Lib.hid (fun h => by have h1 := h.1; unfold outB at h1; rw [List.contains_iff_mem.2 ho] at h1; cases h1)
        go_wp2_with fail
        go_roundw
        case rel => exact ⟨r + 1, by omega, by go_num, by rw [grpN_succ, if_neg HNK.out, List.append_nil]; exact HG.out, HEY.out⟩
        case measure => simp [intOf]; omega
       ·have HYK : Hid (outB b r = false ∧ keyN bs r = (k : Int)) := Lib.hid ⟨by unfold outB; simpa using ho, HKEY.out⟩
        have HLEN : Hid (((grpN b bs k r).map iRow).length + [[Value.int .i64 r]].length ≤ 1000000) := Lib.hid (by have := grpN_len b bs k r; simp; omega)
        go_wp2_with (at_builtin; refine wpOwn rfl (.tmp 43) (.tmp 45) elInt rfl X.heap.size rfl (HG.out.ext (by exact xx)) Y.heap.size 0 1 [[.int .i64 r]] rfl (by simp) (newRowAt _ [.int .i64 r] _ _ _ rfl rfl) (by simp [Value.oneCell']) HLEN.out (by simp; omega) ?_)
        intro v' W4 hown4 hb4
        obtain ⟨va, vn, vc, rfl⟩ := hown4.isSlice
        have hE4 : Ext X W4 := Below.trans (HEY.out.trans' (by exact xx : Ext Y (Y.alloc (.cells #[.int .i64 r] 3)))) hb4
        have HO4 := Lib.hid hown4
        have HE4 := Lib.hid hE4
        clear hown4 hb4 hE4
        go_wp2_with fail
        go_roundw
        case rel => exact ⟨r + 1, by omega, by go_num, by rw [grpN_succ, if_pos HYK.out, List.map_append]; exact HO4.out, HE4.out⟩
        case measure => simp [intOf]; omega
     ·have hbi : (0 : Int) < (bs.length : Int) := by omega
      obtain ⟨m, hm⟩ : ∃ m, m = r % bs.length := ⟨_, rfl⟩
      have hmt : Int.tmod (r : Int) (bs.length : Int) = (m : Int) := by rw [Int.tmod_eq_emod_of_nonneg (by omega), hm]; rfl
      have hme : (r : Int) % (bs.length : Int) = (m : Int) := by rw [hm]; rfl
      have hml : m < bs.length := by rw [hm]; exact Nat.mod_lt _ (by omega)
      have hmli : (m : Int) < (bs.length : Int) := by omega
      obtain ⟨nb, off, rfl, hnb⟩ := HNC.out m hml
      obtain ⟨d0, hzd⟩ := hnb wr (HE0.out.trans' (HE.out.trans' hE3))
      have hx8 := H8.out bs[m] (List.getElem_mem hml)
      rw [gt_get] at hx8
      obtain ⟨x, hx⟩ : ∃ x, x = gt bs m := ⟨_, rfl⟩
      rw [← hx] at d0 hx8
      obtain ⟨q, hq⟩ : ∃ q, q = x % 8 := ⟨_, rfl⟩
      have hqt : Int.tmod x 8 = q := by rw [Int.tmod_eq_emod_of_nonneg (by omega), hq]
      have hqe : x % 8 = q := hq.symm
      have hq8 : 0 ≤ q ∧ q < 8 := by omega
      have hwx : IntKind.i64.wrap x = x := IntWalk.i64_in _ (by omega)
      have hb1 : ¬ bs = [] := fun h => hb0 (by rw [h]; rfl)
      have HQ : Hid (q = keyN bs r) := Lib.hid (by unfold keyN; rw [if_neg hb1, ← hm, ← hx, hq])
      clear hg hE3 hm hx hq hnb
      by_cases hqk0 : q = (k : Int)
      rotate_left
      ·have hqk : (q == (k : Int)) = false := by simpa using hqk0
       have HNK : Hid (¬ (outB b r = false ∧ keyN bs r = (k : Int))) := Lib.hid (fun h => hqk0 (by rw [HQ.out]; exact h.2))
       go_wp2_with fail
       go_roundw
       case rel => exact ⟨r + 1, by omega, by go_num, by rw [grpN_succ, if_neg HNK.out, List.append_nil]; exact HG.out, HE3.out⟩
       case measure => simp [intOf]; omega
      ·have hqk : (q == (k : Int)) = true := by simpa using hqk0
       have HKEY : Hid (keyN bs r = (k : Int)) := Lib.hid (by rw [← HQ.out]; exact hqk0)
       clear hqk0
       have HSW := Lib.hid ((HS.out.ext (HE.out.trans' HE3.out)).scr)
       go_wp2_with fail
       refine (has_any b.scr r _ _ (HSW.out.ext (by exact xx))).mono ?_
       rintro e Y ⟨rfl, hEY⟩
       have HEY := Lib.hid (HE3.out.trans' hEY)
       have hyz := (HE3.out.trans' hEY).size
       replace HG := Lib.hid (HG.out.ext hEY)
       clear hEY i1 i3 iz
       by_cases ho : (r : Int) ∈ b.scr
       ·have HNK : Hid (¬ (outB b r = false ∧ keyN bs r = (k : Int))) := Lib.hid (fun h => by have h1 := h.1; unfold outB at h1; rw [List.contains_iff_mem.2 ho] at h1; cases h1)
        go_wp2_with fail
        go_roundw
        case rel => exact ⟨r + 1, by omega, by go_num, by rw [grpN_succ, if_neg HNK.out, List.append_nil]; exact HG.out, HEY.out⟩
        case measure => simp [intOf]; omega
       ·have HYK : Hid (outB b r = false ∧ keyN bs r = (k : Int)) := Lib.hid ⟨by unfold outB; simpa using ho, HKEY.out⟩
        have HLEN : Hid (((grpN b bs k r).map iRow).length + [[Value.int .i64 r]].length ≤ 1000000) := Lib.hid (by have := grpN_len b bs k r; simp; omega)
        go_wp2_with (at_builtin; refine wpOwn rfl (.tmp 43) (.tmp 45) elInt rfl X.heap.size rfl (HG.out.ext (by exact xx)) Y.heap.size 0 1 [[.int .i64 r]] rfl (by simp) (newRowAt _ [.int .i64 r] _ _ _ rfl rfl) (by simp [Value.oneCell']) HLEN.out (by simp; omega) ?_)
        intro v' W4 hown4 hb4
        obtain ⟨va, vn, vc, rfl⟩ := hown4.isSlice
        have hE4 : Ext X W4 := Below.trans (HEY.out.trans' (by exact xx : Ext Y (Y.alloc (.cells #[.int .i64 r] 3)))) hb4
        have HO4 := Lib.hid hown4
        have HE4 := Lib.hid hE4
        clear hown4 hb4 hE4
        go_wp2_with fail
        go_roundw
        case rel => exact ⟨r + 1, by omega, by go_num, by rw [grpN_succ, if_pos HYK.out, List.map_append]; exact HO4.out, HE4.out⟩
        case measure => simp [intOf]; omega
    ·have hre : r = b.n.toNat := by omega
     rw [hre] at hg
     obtain ⟨G, hG⟩ : ∃ G, G = grpN b bs k b.n.toNat := ⟨_, rfl⟩
     rw [← hG] at hg
     have hgl : G.length ≤ 8 := by rw [hG]; exact Nat.le_trans (grpN_len _ _ _ _) (by omega)
     have hsucc := finN_succ b bs k
     rw [← hG] at hsucc
     have HSU := Lib.hid hsucc
     obtain ⟨_, _, hge, -, -, -⟩ := hg.oneInts.spec
     cases hge
     have HGG := Lib.hid hg
     have HFU := Lib.hid (HE.out.trans' hE3)
     have HLY := Lib.hid (HLL.out.ext hE3)
     have hfl := finN_len b bs k
     clear hg hE3 hG hsucc hre k0 k1 k2 k3 k4 k5 k6 k7 hz
     obtain ⟨Y, rfl⟩ : ∃ Y, Y = wr := ⟨_, rfl⟩
     by_cases hg0 : G.length = 0
     ·have hgi : ¬ ((0 : Int) < (G.length : Int)) := by omega
      have hge : G = [] := List.eq_nil_of_length_eq_zero hg0
      have HS2 : Hid (finN b bs (k + 1) = finN b bs k) := Lib.hid (by rw [HSU.out, hge]; simp)
      have hd : decide ((0 : Int) < (G.length : Int)) = false := decide_eq_false hgi
      have hd2 : decide (0 < G.length) = false := decide_eq_false (by omega)
      clear hge hg0
      go_wp2_with fail
      go_roundw
      case rel => exact ⟨k + 1, ps, by omega, by go_num, HLY.out, by rw [HS2.out, HPS.out], HFU.out⟩
      case measure => simp [intOf]; omega
     ·have hgi : (0 : Int) < (G.length : Int) := by omega
      have hgn : G.isEmpty = false := by cases G with | nil => exact absurd rfl hg0 | cons a l => rfl
      have HS2 : Hid (finN b bs (k + 1) = finN b bs k ++ [G]) := Lib.hid (by rw [HSU.out, hgn]; simp)
      have HLEN : Hid ((ps.map fun x => [x.1]).length + [[Value.slice ga G.length gc]].length ≤ 1000000) := Lib.hid (by
       have h1 : (finsOf ps).length = ps.length := by simp [finsOf]
       rw [HPS.out] at h1
       simp; omega)
      have hyw := HFU.out.size
      clear hgn hg0
      go_wp2_with (at_builtin; refine wpApp rfl (.tmp 50) (.tmp 52) elLst rfl W0.heap.size rfl (HLY.out.own.ext (by exact xx)) (some ⟨Y.heap.size, 0, none⟩) 1 [[.slice ga G.length gc]] rfl (by simp) (.inr ⟨_, 0, rfl, newRowAt _ [.slice ga G.length gc] _ _ _ rfl rfl⟩) (by simp [Value.oneCell']) HLEN.out (by simp; omega) ?_)
      intro v' W4 hown4 hk4
      have hEa : Ext Y (Y.alloc (.cells #[.slice ga G.length gc] 23)) := by exact xx
      have hoa := HLY.out.own.ext hEa
      have hll4 : LL W4 W0.heap.size v' (ps ++ [(.slice ga G.length gc, G)]) := by
       refine ⟨by rw [List.map_append]; exact hown4, fun x hx => ?_⟩
       rcases List.mem_append.1 hx with hx | hx
       ·exact ((HLY.out.each x hx).ext hEa).keep (by decide) hoa hk4
       ·simp only [List.mem_singleton] at hx
        subst hx
        exact ((HGG.out.ext hEa).base (by omega)).keep (by decide) hoa hk4
      have hE4 : Ext W0 W4 := Below.trans (HFU.out.trans' hEa) (hoa.keptBelow (by simp; omega) hk4)
      obtain ⟨va, vn, vc, rfl⟩ := hown4.isSlice
      have HL4 := Lib.hid hll4
      have HE4 := Lib.hid hE4
      clear hown4 hk4 hEa hoa hll4 hE4
      go_wp2_with fail
      go_roundw
      case rel => exact ⟨k + 1, _, by omega, by go_num, HL4.out, by rw [HS2.out, ← HPS.out]; simp [finsOf], HE4.out⟩
      case measure => simp [intOf]; omega
  ·have hke : k = 8 := by omega
   have HFP : Hid (finsOf ps = finL b bs) := Lib.hid (by rw [hps, hke]; rfl)
   clear hll hps hE hke
   go_wp2_with fail
   refine bodyPost_ret (v := .slice oa on oc) (by simp [results, Try.results42, go_sem]) rfl ?_
   exact ⟨_, ps, rfl, HW.out.trans' HE.out, HLL.out.base hw0, HFP.out⟩
end Go.Proofs.Ytphajlldghcnnaa
namespace Go.Proofs.Ytphajlldghcnnaa
theorem paid_net {b : Bk} {fs : List (List Int)} (h : FinV b fs) : 0 ≤ paidP b fs ∧ paidP b fs ≤ netP b := by
 have hnet := (net_bd h.book).2.2.2.1
 have hcar := h.book.car
 have key : ∀ l : List Spt, (∀ s ∈ l, s ∈ backedL b fs) → 0 ≤ ((l.map fun s => (s, penceP b fs s)).map fun d => d.2 * unitsP b d.1).sum ∧ ((l.map fun s => (s, penceP b fs s)).map fun d => d.2 * unitsP b d.1).sum ≤ shareP b fs * (l.length : Int) := by
  intro l
  induction l with
  | nil => intro _; simp
  | cons s l ih =>
   intro hs
   have h1 := ih fun x hx => hs x (by simp [hx])
   have h2 := pence_le h (hs s (by simp))
   simp only [List.map_cons, List.sum_cons, List.length_cons]
   rw [Int.natCast_add, Int.mul_add]
   simp only [Int.natCast_one, Int.mul_one]
   omega
 have h1 := key (backedL b fs) fun s hs => hs
 have e : paidP b fs = (((backedL b fs).map fun s => (s, penceP b fs s)).map fun d => d.2 * unitsP b d.1).sum := rfl
 rw [e]
 refine ⟨h1.1, Int.le_trans h1.2 ?_⟩
 by_cases h0 : (backedL b fs).length = 0
 ·rw [h0]; simp; omega
 ·unfold shareP
  exact Int.ediv_mul_le _ (by omega)
structure AccOk (A : Acc) : Prop where
 k : 0 ≤ A.k ∧ A.k ≤ A.i
 d : 0 ≤ A.d ∧ A.d ≤ A.i
 p : 0 ≤ A.p ∧ A.p ≤ A.i
 q : 0 ≤ A.q ∧ A.q ≤ A.i
 o : 0 ≤ A.o ∧ A.o ≤ A.i
 i : A.i ≤ 11000000
 sum : A.i = A.k + A.d + A.p + A.q + A.o
theorem acc_ok {b : Bk} {fs : List (List Int)} (h : FinV b fs) : AccOk (accA b fs) := by
 obtain ⟨h1, h2, h3, h4, -, -⟩ := net_bd h.book
 have hcar := h.book.car
 have hp := paid_net h
 have e : netP b = inP b - backP b - dutyP b := rfl
 unfold accA
 split
 ·unfold netA
  exact ⟨by simp only; omega, by simp only; omega, by simp only; omega, by simp only; omega, by simp only; omega, by simp only; omega, by simp only; omega⟩
 ·exact ⟨by simp only; omega, by simp only; omega, by simp only; omega, by simp only; omega, by simp only; omega, by simp only; omega, by simp only; omega⟩
theorem acc_ik (b : Bk) (fs : List (List Int)) : (accA b fs).i = inP b ∧ (accA b fs).k = backP b := by
 unfold accA netA; split <;> exact ⟨rfl, rfl⟩
theorem acc_p {b : Bk} {fs : List (List Int)} : (accA b fs).p = paidP b fs := by
 unfold accA
 split
 ·rename_i h
  unfold netA paidP
  rw [h]; rfl
 ·rfl
theorem find_pence (f : Spt → Int) (s : Spt) : ∀ l : List Spt, ((l.map fun x => (x, f x)).find? fun d => decide (d.1 = s)) = if s ∈ l then some (s, f s) else none
 | [] => by simp
 | x :: l => by
  rw [List.map_cons, List.find?_cons]
  by_cases e : x = s
  ·subst e; simp
  ·have e2 : ¬ s = x := fun h => e h.symm
   simp only [e, decide_false, List.mem_cons, e2, false_or]
   exact find_pence f s l
def payS (b : Bk) (f : Spt → Int) (D : List Spt) (x : PB) : Int := match onP b x with
 | none => 0
 | some s => if s ∈ D then f s * x.u else 0
theorem payP_eq (b : Bk) (fs : List (List Int)) (x : PB) : payP b fs x = backG b x + payS b (penceP b fs) (backedL b fs) x := by
 unfold payP backG payS
 cases h : onP b x with
 | none => simp
 | some s =>
  simp only [reduceCtorEq, if_false, Int.zero_add]
  have := find_pence (penceP b fs) s (backedL b fs)
  unfold divP
  rw [this]
  by_cases hm : s ∈ backedL b fs
  ·rw [if_pos hm, if_pos hm]
  ·rw [if_neg hm, if_neg hm]
theorem sumB_add (f g : PB → Int) : ∀ l, sumB (fun x => f x + g x) l = sumB f l + sumB g l
 | [] => rfl
 | x :: l => by simp only [sumB, sumB_add f g l]; omega
theorem sumB_mul (c : Int) (g : PB → Int) : ∀ l, sumB (fun x => c * g x) l = c * sumB g l
 | [] => by simp [sumB]
 | x :: l => by simp only [sumB, sumB_mul c g l, Int.mul_add]
theorem sumB_zero : ∀ l : List PB, sumB (fun _ => 0) l = 0
 | [] => rfl
 | x :: l => by simp only [sumB, sumB_zero l]; rfl
theorem payS_cons {b : Bk} {f : Spt → Int} {D : List Spt} {s : Spt} (hs : s ∉ D) (x : PB) : payS b f (s :: D) x = payS b f D x + f s * unitsG b s x := by
 unfold payS unitsG
 cases h : onP b x with
 | none => simp
 | some t =>
  simp only [List.mem_cons, Option.some.injEq]
  by_cases e : t = s
  ·subst e
   rw [if_pos (.inl rfl), if_neg hs, if_pos rfl]; omega
  ·simp only [e, false_or, if_false]
   omega
theorem payS_sum (b : Bk) (f : Spt → Int) : ∀ D : List Spt, D.Nodup → sumB (payS b f D) b.bets = (D.map fun s => f s * unitsP b s).sum
 | [], _ => by
  have : payS b f [] = fun _ => 0 := funext fun x => by
   unfold payS
   cases onP b x <;> simp
  rw [this, sumB_zero]; rfl
 | s :: D, h => by
  rw [List.nodup_cons] at h
  have : payS b f (s :: D) = fun x => payS b f D x + f s * unitsG b s x := funext fun x => payS_cons h.1 x
  rw [this, sumB_add, payS_sum b f D h.2, sumB_mul]
  simp only [List.map_cons, List.sum_cons]
  unfold unitsP
  omega
theorem pay_all {b : Bk} {fs : List (List Int)} (h : FinV b fs) : sumB (payP b fs) b.bets = backP b + paidP b fs := by
 have e : payP b fs = fun x => backG b x + payS b (penceP b fs) (backedL b fs) x := funext fun x => payP_eq b fs x
 rw [e, sumB_add, payS_sum _ _ _ (by unfold backedL; exact (wins_nodup h).filter _)]
 unfold paidP divP backP
 rw [List.map_map]
 rfl
theorem units_ge {b : Bk} (v : BVal b) {x : PB} (hx : x ∈ b.bets) {s : Spt} (hs : onP b x = some s) : x.u ≤ unitsP b s := by
 have key : ∀ l : List PB, (∀ y ∈ l, y ∈ b.bets) → x ∈ l → x.u ≤ sumB (unitsG b s) l := by
  intro l
  induction l with
  | nil => intro _ h; cases h
  | cons y l ih =>
   intro hl hm
   have hb := sumB_bd (g := unitsG b s) (c := 1000) (by omega) (l := l) fun z hz => by
    have := (v.bet (hl z (by simp [hz]))).1
    unfold unitsG; split <;> omega
   have hy := (v.bet (hl y (by simp))).1
   simp only [sumB]
   rcases List.mem_cons.1 hm with rfl | hm
   ·unfold unitsG at hb ⊢
    rw [if_pos hs]; omega
   ·have := ih (fun z hz => hl z (by simp [hz])) hm
    have h0 : 0 ≤ unitsG b s y := by unfold unitsG; split <;> omega
    omega
 exact key b.bets (fun y hy => hy) hx
theorem in_ge {b : Bk} (v : BVal b) {x : PB} (hx : x ∈ b.bets) : 100 * x.u ≤ inP b := by
 have key : ∀ l : List PB, (∀ y ∈ l, y ∈ b.bets) → x ∈ l → 100 * x.u ≤ sumB (fun x => 100 * x.u) l := by
  intro l
  induction l with
  | nil => intro _ h; cases h
  | cons y l ih =>
   intro hl hm
   have hb := sumB_bd (g := fun x => 100 * x.u) (c := 100000) (by omega) (l := l) fun z hz => by
    have := (v.bet (hl z (by simp [hz]))).1
    omega
   have hy := (v.bet (hl y (by simp))).1
   simp only [sumB]
   rcases List.mem_cons.1 hm with rfl | hm
   ·omega
   ·have := ih (fun z hz => hl z (by simp [hz])) hm
    omega
 have := key b.bets (fun y hy => hy) hx
 have := v.car
 unfold inP; omega
theorem pay_bd {b : Bk} {fs : List (List Int)} (h : FinV b fs) {x : PB} (hx : x ∈ b.bets) : 0 ≤ payP b fs x ∧ payP b fs x ≤ inP b := by
 have hu := (h.book.bet hx).1
 have hin := in_ge h.book hx
 have hi0 := (net_bd h.book).1
 have hnet := (net_bd h.book).2.2.2.1
 have hcar := h.book.car
 rw [payP_eq]
 unfold backG payS
 cases ho : onP b x with
 | none => simp; omega
 | some s =>
  simp only [reduceCtorEq, if_false, Int.zero_add]
  split
  ·rename_i hm
   have h1 := pence_le h hm
   have h2 := units_ge h.book hx ho
   have h3 : penceP b fs s * x.u ≤ penceP b fs s * unitsP b s := Int.mul_le_mul_of_nonneg_left h2 h1.1
   have h4 : 0 ≤ penceP b fs s * x.u := Int.mul_nonneg h1.1 (by omega)
   have h5 : shareP b fs ≤ netP b := by
    unfold shareP
    exact Int.ediv_le_self _ (by omega)
   omega
  ·omega
theorem pay_to {b : Bk} {fs : List (List Int)} (h : FinV b fs) (k : Nat) (hk : k ≤ b.bets.length) : 0 ≤ sumB (payP b fs) (b.bets.take k) ∧ sumB (payP b fs) (b.bets.take k) ≤ 11000000 * 100 := by
 have hi0 := (net_bd h.book).1
 have h1 := sumB_bd (g := payP b fs) (c := 11000000) (by omega) (l := b.bets.take k) fun x hx => by
  have := pay_bd h (List.mem_of_mem_take hx); omega
 have h2 := h.book.many
 have h3 : ((b.bets.take k).length : Int) ≤ 100 := by rw [List.length_take]; omega
 omega
end Go.Proofs.Ytphajlldghcnnaa
