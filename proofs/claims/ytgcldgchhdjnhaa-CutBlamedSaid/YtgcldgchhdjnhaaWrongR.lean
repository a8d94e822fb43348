/-
  The walks of the reference's Wrong and Kind.
-/
import Derived.Test.YtgcldgchhdjnhaaFewR
namespace Go.Proofs.Ytgcldgchhdjnhaa
open Go.RowKit Go.Shelf
theorem bestOf_snoc (x : List Int) : ∀ (l : List (List Int)) (b : List Int), bestOf b (l ++ [x]) = if bef x (bestOf b l) then x else bestOf b l
  | [], _ => rfl
  | y :: l, b => by
    rw [List.cons_append]
    unfold bestOf
    exact bestOf_snoc x l _
theorem nums_rows (l : List Nat) : l.map nRow = (l.map fun (n : Nat) => (n : Int)).map iRow := by rw [List.map_map]; rfl
theorem Owns.nums {W : World} {B : Nat} {v : Value} {l : List Nat} (h : Owns W B 3 1 v (l.map nRow)) : IsInts W .i64 v (l.map fun (n : Nat) => (n : Int)) := by
  rw [nums_rows] at h
  exact h.oneInts
set_option maxRecDepth 100000 in
set_option maxHeartbeats 2000000 in
theorem wrongR_any (h : Hall) (sv : Value) (w : World) (hs : IsCnts w sv h.cs) :
    Calls Try.prog 40 #[.agg #[.int .i64 h.n, .int .i64 h.most, sv]] w (RetWrong h w) := by
  obtain ⟨sa, cap, rfl, hl1, hl2, -⟩ := hs.spec
  have HS0 := Lib.hid hs
  clear hs
  obtain ⟨c, hc⟩ : ∃ c, c = chk h := ⟨_, rfl⟩
  have c2 := fun w hs => checkHallR_any h (.slice sa h.cs.length cap) w hs
  unfold RetWrong
  rw [← hc] at c2 ⊢
  have C2 := Lib.hid c2
  have HC := Lib.hid hc
  clear c2 hc
  go_enter Try.func40, Try.ntmps40
  go_upto_region 1 with (fail)
  obtain ⟨W0, hW0⟩ : ∃ W0, W0 = w.alloc (.cells #[.int .i64 h.n, .int .i64 h.most, .slice sa h.cs.length cap] 24) := ⟨_, rfl⟩
  have hE : Ext w W0 := by rw [hW0]; exact (by repeat (first | exact Below.refl _ _ | refine Ext.al ?_ _ | refine Ext.dr ?_ | refine Ext.drN ?_ _ | refine Ext.gr ?_ _ | refine Ext.set ?_ (by simp) _ | (refine Ext.trans' ?_ (by assumption))))
  have k0 : W0.cell? ⟨w.heap.size, 0, none⟩ = some (.int .i64 h.n) := by rw [hW0]; simp [go_sem]
  have k1 : W0.cell? ⟨w.heap.size, 1, none⟩ = some (.int .i64 h.most) := by rw [hW0]; simp [go_sem]
  have k2 : W0.cell? ⟨w.heap.size, 2, none⟩ = some (.slice sa h.cs.length cap) := by rw [hW0]; simp [go_sem]
  have hz : w.heap.size < W0.heap.size := World.block_lt_of_cell? _ _ k0
  have HS := Lib.hid (HS0.out.ext hE)
  have HW := Lib.hid hE
  rw [← hW0]
  clear hW0 HS0
  clear hE

  go_wp2_with fail
  refine callW (W0 := W0) (g := ⟨W0, Below.refl _ _⟩) (by exact (by repeat (first | exact Below.refl _ _ | refine Ext.al ?_ _ | refine Ext.dr ?_ | refine Ext.drN ?_ _ | refine Ext.gr ?_ _ | refine Ext.set ?_ (by simp) _ | (refine Ext.trans' ?_ (by assumption))))) (C2.out _ (HS.out.ext (by exact (by repeat (first | exact Below.refl _ _ | refine Ext.al ?_ _ | refine Ext.dr ?_ | refine Ext.drN ?_ _ | refine Ext.gr ?_ _ | refine Ext.set ?_ (by simp) _ | (refine Ext.trans' ?_ (by assumption))))))) fun g1 hgr => ?_
  clear hgr
  by_cases h0 : c = 0
  · have hc0 : chk h = 0 := HC.out.symm.trans h0
    have hv := valid_of_chk hc0
    have hlen := hv.len
    have c3 := fun w hs => fewestR_any h (.slice sa h.cs.length cap) hv w hs
    have C3 := Lib.hid c3
    have hne : fewestB h ≠ [] := fun e => by
      have := lists_eq h
      rw [e] at this
      exact fewestM_ne hv (List.eq_nil_of_length_eq_zero this.symm)
    obtain ⟨b0, T, hbT⟩ : ∃ b0 T, fewestB h = b0 :: T := by
      cases e : fewestB h with
      | nil => exact absurd e hne
      | cons b T => exact ⟨b, T, rfl⟩
    have hbd : ∀ x ∈ b0 :: T, x < 2 ^ h.cs.length := fun x hx => by rw [← hbT] at hx; exact fewB_mem hx
    have h1024 : 2 ^ h.cs.length ≤ 1024 := Nat.pow_le_pow_right (n := 2) (by omega) (show h.cs.length ≤ 10 by omega)
    have hsame : ∀ x ∈ b0 :: T, bitsL 16 x = bitsL h.cs.length x := fun x hx => bitsL_same (by have := hbd x hx; omega) (hbd x hx)
    have hwb := wrong_best hc0 hbT
    have hlen2 : ∀ x ∈ b0 :: T, (bitsL h.cs.length x).length = (bitsL h.cs.length b0).length := fun x hx => by
      have hp := fewest_perm h
      rw [hbT] at hp
      exact fewM_same h (hp.mem_iff.1 (List.mem_map_of_mem hx)) (hp.mem_iff.1 (List.mem_map_of_mem (by simp)))
    have hlb : ∀ j, (bestOf (bitsL h.cs.length b0) ((T.take j).map (bitsL h.cs.length))).length = (bitsL h.cs.length b0).length := fun j => by
      have := best_mem ((T.take j).map (bitsL h.cs.length)) (bitsL h.cs.length b0)
      rcases List.mem_cons.1 this with h' | h'
      · rw [h']
      · obtain ⟨x, hx, e⟩ := List.mem_map.1 h'
        rw [← e]
        exact hlen2 x (by simp [List.mem_of_mem_take hx])
    have h64 : ∀ x ∈ b0 :: T, x < 65536 := fun x hx => by have := hbd x hx; omega
    have HSAME := Lib.hid hsame
    have HWB := Lib.hid hwb
    have HLEN2 := Lib.hid hlen2
    have HLB := Lib.hid hlb
    have H64 := Lib.hid h64
    have hTl : T.length ≤ 1024 := by
      have : (fewestB h).length = T.length + 1 := by rw [hbT]; rfl
      have h1 := lists_eq h
      have h2 := fewM_len hlen (h.cs.length + 1) 0
      have h3 : (fewestM h).length ≤ 1024 := h2
      omega
    rw [hbT] at c3
    replace C3 := Lib.hid c3
    subst h0
    clear c3 hne hbd h1024 hsame hwb hlen2 hlb h64 hbT hc0 hv

    go_wp2_with fail
    refine callWR (W0 := W0) (g := g1) (by exact (by repeat (first | exact Below.refl _ _ | refine Ext.al ?_ _ | refine Ext.dr ?_ | refine Ext.drN ?_ _ | refine Ext.gr ?_ _ | refine Ext.set ?_ (by simp) _ | (refine Ext.trans' ?_ (by assumption))))) (C3.out _ (HS.out.ext (by exact (by repeat (first | exact Below.refl _ _ | refine Ext.al ?_ _ | refine Ext.dr ?_ | refine Ext.drN ?_ _ | refine Ext.gr ?_ _ | refine Ext.set ?_ (by simp) _ | (refine Ext.trans' ?_ (by assumption))))))) (fun _ _ ⟨_, _, r, _⟩ => r) fun _ g2 hgr hr => ?_
    obtain ⟨fv, rfl, -, hf⟩ := hr
    clear hgr
    have hi := hf.nums
    obtain ⟨fa, fc, rfl, hf1, hf2, hfc⟩ := hi.spec
    rcases hfc with hfc | ⟨fb, fo, rfl, hfc⟩
    · simp at hfc
    simp only [List.length_map, List.length_cons] at hf1 ⊢
    go_upto_region 4 with (fail)
    obtain ⟨X0, hX0⟩ : ∃ zz9, zz9 = (grow W0 g2) := ⟨_, rfl⟩
    have eX0 : Ext W0 X0 := by rw [hX0]; exact (by repeat (first | exact Below.refl _ _ | refine Ext.al ?_ _ | refine Ext.dr ?_ | refine Ext.drN ?_ _ | refine Ext.gr ?_ _ | refine Ext.set ?_ (by simp) _ | (refine Ext.trans' ?_ (by assumption))))
    replace k0 := cell_ext eX0 k0
    replace k1 := cell_ext eX0 k1
    replace k2 := cell_ext eX0 k2
    replace HS := Lib.hid (HS.out.ext eX0)
    replace HW := Lib.hid (HW.out.trans' eX0)
    rw [← hX0] at hfc ⊢
    replace hz := World.block_lt_of_cell? _ _ k0
    clear hX0 eX0
    have f0 := hfc 0 (by simp)
    simp at f0
    have HFC := Lib.hid hfc
    clear hf hi hfc
    go_wp2_with fail
    refine callWR (W0 := X0) (g := ⟨X0, Below.refl _ _⟩) (by exact (by repeat (first | exact Below.refl _ _ | refine Ext.al ?_ _ | refine Ext.dr ?_ | refine Ext.drN ?_ _ | refine Ext.gr ?_ _ | refine Ext.set ?_ (by simp) _ | (refine Ext.trans' ?_ (by assumption))))) (bitsR_any b0 (H64.out b0 (by simp)) _) (fun _ _ ⟨_, _, r, _⟩ => r) fun _ g3 hgr hr => ?_
    obtain ⟨bv, rfl, -, hb⟩ := hr
    clear hgr
    have hbi := hb.oneInts
    rw [HSAME.out b0 (by simp)] at hbi
    obtain ⟨ba, bn, bc, rfl⟩ := hb.isSlice
    have HBI := Lib.hid hbi
    clear hb hbi f0
    go_wp2_with fail
    go_loopw [5, 6] (fun ov i W => ∃ j : Nat, j ≤ T.length ∧ i = .int .i64 (j + 1 : Nat) ∧ Ext X0 W ∧ IsInts W .i64 ov (bestOf (bitsL h.cs.length b0) ((T.take j).map (bitsL h.cs.length)))) (fun _ i _ => T.length + 1 - (intOf i).toNat)
    case atStart => exact ⟨0, by omega, rfl, (by repeat (first | exact Below.refl _ _ | refine Ext.al ?_ _ | refine Ext.dr ?_ | refine Ext.drN ?_ _ | refine Ext.gr ?_ _ | refine Ext.set ?_ (by simp) _ | (refine Ext.trans' ?_ (by assumption)))), HBI.out⟩
    case round =>
      obtain ⟨j, hj, rfl, hE, hov⟩ := hrel
      have HEE := Lib.hid hE
      obtain ⟨L, hL⟩ : ∃ L, L = bestOf (bitsL h.cs.length b0) ((T.take j).map (bitsL h.cs.length)) := ⟨_, rfl⟩
      rw [← hL] at hov
      have HLL := Lib.hid hL
      have HOV := Lib.hid hov
      obtain ⟨oa, oc, rfl, -⟩ := hov.spec
      have e1 : ((j + 1 : Nat) : Int) = (j : Int) + 1 := rfl
      rw [e1]
      clear e1
      by_cases hlt : j < T.length
      · have fj := cell_ext hE (HFC.out (j + 1) (by simpa using hlt))
        simp at fj
        have hmem : T[j] ∈ b0 :: T := List.mem_cons_of_mem _ (List.getElem_mem hlt)
        have hsn := bestOf_snoc (bitsL h.cs.length T[j]) ((T.take j).map (bitsL h.cs.length)) (bitsL h.cs.length b0)
        have htk : (T.take (j + 1)).map (bitsL h.cs.length) = (T.take j).map (bitsL h.cs.length) ++ [bitsL h.cs.length T[j]] := by rw [List.take_succ_eq_append_getElem hlt, List.map_append]; rfl
        rw [← htk] at hsn
        obtain ⟨x, hx⟩ : ∃ x, x = T[j] := ⟨_, rfl⟩
        rw [← hx] at fj hmem hsn
        have HSN := Lib.hid hsn
        have HMEM := Lib.hid hmem
        have hl2 : (bitsL 16 x).length = L.length := by rw [HSAME.out x hmem, HLEN2.out x hmem, hL, HLB.out j]
        have cb := fun w => bitsR_any x (H64.out x HMEM.out) w
        obtain ⟨X, hX⟩ : ∃ X, X = bitsL 16 x := ⟨_, rfl⟩
        rw [← hX] at cb hl2
        have HXX := Lib.hid (hX.trans (HSAME.out x hmem))
        have HL2 := Lib.hid hl2
        have CB := Lib.hid cb
        rw [← hL] at hsn
        replace HSN := Lib.hid hsn
        clear hE hov hsn hmem htk hx hl2 hX hL cb
        go_wp2_with fail
        refine (CB.out _).mono ?_
        rintro e W1 ⟨bv1, rfl, hE1, hB1⟩
        have hbi := hB1.oneInts
        obtain ⟨ba1, bn1, bc1, rfl⟩ := hB1.isSlice
        have fj1 := cell_ext hE1 fj
        have HE1 := Lib.hid (HEE.out.trans' hE1)
        have HOV1 := Lib.hid (HOV.out.ext hE1)
        have HBI1 := Lib.hid hbi
        clear hE1 hB1 hbi fj
        go_wp2_with fail
        refine (first_any _ _ _ _ HL2.out _ HBI1.out HOV1.out).mono ?_
        rintro e W2 ⟨rfl, hE2⟩
        have fj2 := cell_ext hE2 fj1
        have HE2 := Lib.hid (HE1.out.trans' hE2)
        have HOV2 := Lib.hid (HOV1.out.ext hE2)
        obtain ⟨ob, hob⟩ : ∃ ob, ob = bef X L := ⟨_, rfl⟩
        rw [← hob]
        have HOB := Lib.hid hob
        clear hE2 fj1 hob
        cases ob
        · go_wp2_with fail
          go_roundw
          case rel =>
            refine ⟨j + 1, by omega, by go_num, HE2.out, ?_⟩
            have e := HOB.out
            rw [HXX.out] at e
            rw [HSN.out, ← e]
            exact HOV2.out
          case measure => simp [intOf]; omega
        · go_wp2_with fail
          refine (CB.out _).mono ?_
          rintro e W3 ⟨bv3, rfl, hE3, hB3⟩
          have hbi := hB3.oneInts
          obtain ⟨ba3, bn3, bc3, rfl⟩ := hB3.isSlice
          have HE3 := Lib.hid (HE2.out.trans' hE3)
          have HBI3 := Lib.hid hbi
          clear hE3 hB3 hbi fj2
          go_wp2_with fail
          go_roundw
          case rel =>
            refine ⟨j + 1, by omega, by go_num, HE3.out, ?_⟩
            have e := HOB.out
            rw [HXX.out] at e
            rw [HSN.out, ← e, if_pos rfl, ← HXX.out]
            exact HBI3.out
          case measure => simp [intOf]; omega
      · obtain rfl : j = T.length := by omega
        rw [List.take_length] at hL
        rw [HWB.out] at hL
        have HOV2 := Lib.hid hov
        have HLW := Lib.hid hL
        clear hE hov hL
        go_wp2_with fail
        refine bodyPost_ret (v := .tuple #[_, .int .i64 0]) (by simp [results, Try.results40, go_sem]; rfl) rfl ⟨_, rfl, HW.out.trans' HEE.out, ?_⟩
        rw [← HLW.out]
        exact HOV2.out

  · have h0' : (c == 0) = false := by simpa using h0
    have hn : wrongL h = [] := by unfold wrongL; rw [if_neg (fun e => h0 (HC.out.trans e))]
    have HN := Lib.hid hn
    clear h0 hn
    go_wp2_with fail
    refine callW (W0 := W0) (g := g1) (by exact (by repeat (first | exact Below.refl _ _ | refine Ext.al ?_ _ | refine Ext.dr ?_ | refine Ext.drN ?_ _ | refine Ext.gr ?_ _ | refine Ext.set ?_ (by simp) _ | (refine Ext.trans' ?_ (by assumption))))) (C2.out _ (HS.out.ext (by exact (by repeat (first | exact Below.refl _ _ | refine Ext.al ?_ _ | refine Ext.dr ?_ | refine Ext.drN ?_ _ | refine Ext.gr ?_ _ | refine Ext.set ?_ (by simp) _ | (refine Ext.trans' ?_ (by assumption))))))) fun g4 hgr => ?_
    clear hgr
    go_wp2_with fail
    refine bodyPost_ret (v := .tuple #[.slice none 0 0, .int .i64 c]) (by simp [results, Try.results40, go_sem]) rfl ⟨_, rfl, HW.out.trans' (grow_below W0 _), ?_⟩
    rw [HN.out]
    exact IsInts.nil _ _
theorem countP_snoc {α : Type} (p : α → Bool) (l : List α) (k : Nat) (hk : k < l.length) : (l.take (k + 1)).countP p = (l.take k).countP p + if p l[k] = true then 1 else 0 := by
  rw [List.take_succ_eq_append_getElem hk, List.countP_append]
  simp [List.countP_cons]
set_option maxRecDepth 100000 in
set_option maxHeartbeats 2000000 in
theorem kindR_any (h : Hall) (sv : Value) (c : Int) (w : World) (hs : IsCnts w sv h.cs) :
    Calls Try.prog 44 #[.agg #[.int .i64 h.n, .int .i64 h.most, sv], .int .i64 c] w fun e w' => e = .returned (.tuple #[.int .i64 (kindN h c), .int .i64 (kindErr h c)]) ∧ Ext w w' := by
  obtain ⟨sa, cap, rfl, hl1, hl2, -⟩ := hs.spec
  have HS0 := Lib.hid hs
  clear hs
  obtain ⟨e0, hc⟩ : ∃ c, c = chk h := ⟨_, rfl⟩
  have c2 := fun w hs => checkHallR_any h (.slice sa h.cs.length cap) w hs
  rw [← hc] at c2
  have C2 := Lib.hid c2
  have HC := Lib.hid hc
  clear c2 hc
  go_enter Try.func44, Try.ntmps44
  go_upto_region 1 with (fail)
  obtain ⟨W0, hW0⟩ : ∃ W0, W0 = w.alloc (.cells #[.int .i64 h.n, .int .i64 h.most, .slice sa h.cs.length cap] 24) := ⟨_, rfl⟩
  have hE : Ext w W0 := by rw [hW0]; exact (by repeat (first | exact Below.refl _ _ | refine Ext.al ?_ _ | refine Ext.dr ?_ | refine Ext.drN ?_ _ | refine Ext.gr ?_ _ | refine Ext.set ?_ (by simp) _ | (refine Ext.trans' ?_ (by assumption))))
  have k0 : W0.cell? ⟨w.heap.size, 0, none⟩ = some (.int .i64 h.n) := by rw [hW0]; simp [go_sem]
  have k1 : W0.cell? ⟨w.heap.size, 1, none⟩ = some (.int .i64 h.most) := by rw [hW0]; simp [go_sem]
  have k2 : W0.cell? ⟨w.heap.size, 2, none⟩ = some (.slice sa h.cs.length cap) := by rw [hW0]; simp [go_sem]
  have hz : w.heap.size < W0.heap.size := World.block_lt_of_cell? _ _ k0
  have HS := Lib.hid (HS0.out.ext hE)
  have HW := Lib.hid hE
  rw [← hW0]
  clear hW0 HS0
  clear hE

  go_wp2_with fail
  refine callW (W0 := W0) (g := ⟨W0, Below.refl _ _⟩) (by exact (by repeat (first | exact Below.refl _ _ | refine Ext.al ?_ _ | refine Ext.dr ?_ | refine Ext.drN ?_ _ | refine Ext.gr ?_ _ | refine Ext.set ?_ (by simp) _ | (refine Ext.trans' ?_ (by assumption))))) (C2.out _ (HS.out.ext (by exact (by repeat (first | exact Below.refl _ _ | refine Ext.al ?_ _ | refine Ext.dr ?_ | refine Ext.drN ?_ _ | refine Ext.gr ?_ _ | refine Ext.set ?_ (by simp) _ | (refine Ext.trans' ?_ (by assumption))))))) fun g1 hgr => ?_
  clear hgr
  by_cases h0 : e0 = 0
  · have hc0 : chk h = 0 := HC.out.symm.trans h0
    have hv := valid_of_chk hc0
    have hlen := hv.len
    by_cases hcc : c < 0 ∨ (h.cs.length : Int) ≤ c
    · have he : kindErr h c = 2 := by unfold kindErr; rw [if_neg (fun hh => hh hc0), if_pos hcc]
      have hn : kindN h c = 0 := by unfold kindN; rw [if_pos (by rw [he]; omega)]
      have HEN := Lib.hid (And.intro he hn)
      subst h0
      clear he hn hc0 hv
      by_cases hneg : c < 0
      · have hneg' : decide (c < 0) = true := decide_eq_true hneg
        clear hcc hneg
        go_wp2_with fail
        go_ret2
        exact ⟨by rw [HEN.out.1, HEN.out.2]; rfl, HW.out.trans' (grow_below W0 _)⟩
      · have hneg' : decide (c < 0) = false := decide_eq_false hneg
        have hge : decide ((h.cs.length : Int) ≤ c) = true := decide_eq_true (by omega)
        clear hcc hneg
        go_wp2_with fail
        go_ret2
        exact ⟨by rw [HEN.out.1, HEN.out.2]; rfl, HW.out.trans' (grow_below W0 _)⟩
    · obtain ⟨C, rfl⟩ : ∃ C : Nat, c = C := ⟨c.toNat, by omega⟩
      have hCl : C < h.cs.length := by omega
      have he : kindErr h C = 0 := by unfold kindErr; rw [if_neg (fun hh => hh hc0), if_neg (by omega)]
      have c3 := fun w hs => fewestR_any h (.slice sa h.cs.length cap) hv w hs
      have hk := kind_eq h hCl
      have hll := lists_eq h
      have hfl : (fewestM h).length ≤ 1024 := fewM_len hlen (h.cs.length + 1) 0
      have hbd : ∀ x ∈ fewestB h, x < 65536 := fun x hx => by
        have := fewB_mem (h := h) hx
        have : 2 ^ h.cs.length ≤ 1024 := Nat.pow_le_pow_right (n := 2) (by omega) (show h.cs.length ≤ 10 by omega)
        omega
      have hkn : kindN h C = if (fewestB h).countP (fun b => b.testBit C) = (fewestB h).length then 2 else if (fewestB h).countP (fun b => b.testBit C) = 0 then 0 else 1 := by
        have hpos : 0 < (fewestM h).length := List.length_pos_iff.2 (fewestM_ne hv)
        unfold kindN
        rw [if_neg (by rw [he]; omega), hk, hll]
        by_cases q : (fewestM h).countP (fun l => l.contains (C : Int)) = 0
        · rw [if_pos q, if_neg (by omega), if_pos q]
        · rw [if_neg q]
          by_cases q2 : (fewestM h).countP (fun l => l.contains (C : Int)) = (fewestM h).length
          · rw [if_pos q2, if_pos q2]
          · rw [if_neg q2, if_neg q2, if_neg q]
      rw [← hll] at hfl
      obtain ⟨L, hL⟩ : ∃ L, L = fewestB h := ⟨_, rfl⟩
      rw [← hL] at c3 hkn hfl hbd
      have C3 := Lib.hid c3
      have HKN := Lib.hid hkn
      have HBD := Lib.hid hbd
      have HEE := Lib.hid he
      subst h0
      clear c3 hkn hbd hk hll hL he hc0 hv
      have hcn : decide ((C : Int) < 0) = false := by simp
      have hge : decide ((h.cs.length : Int) ≤ (C : Int)) = false := decide_eq_false (by omega)

      go_wp2_with fail
      refine callWR (W0 := W0) (g := g1) (by exact (by repeat (first | exact Below.refl _ _ | refine Ext.al ?_ _ | refine Ext.dr ?_ | refine Ext.drN ?_ _ | refine Ext.gr ?_ _ | refine Ext.set ?_ (by simp) _ | (refine Ext.trans' ?_ (by assumption))))) (C3.out _ (HS.out.ext (by exact (by repeat (first | exact Below.refl _ _ | refine Ext.al ?_ _ | refine Ext.dr ?_ | refine Ext.drN ?_ _ | refine Ext.gr ?_ _ | refine Ext.set ?_ (by simp) _ | (refine Ext.trans' ?_ (by assumption))))))) (fun _ _ ⟨_, _, r, _⟩ => r) fun _ g2 hgr hr => ?_
      obtain ⟨fv, rfl, -, hf⟩ := hr
      clear hgr
      have hi := hf.nums
      obtain ⟨fa, fc, rfl, hf1, hf2, hfc⟩ := hi.spec
      simp only [List.length_map] at hf1 hfc ⊢
      go_upto_region 6 with (fail)
      obtain ⟨X0, hX0⟩ : ∃ zz9, zz9 = (grow W0 g2) := ⟨_, rfl⟩
      have eX0 : Ext W0 X0 := by rw [hX0]; exact (by repeat (first | exact Below.refl _ _ | refine Ext.al ?_ _ | refine Ext.dr ?_ | refine Ext.drN ?_ _ | refine Ext.gr ?_ _ | refine Ext.set ?_ (by simp) _ | (refine Ext.trans' ?_ (by assumption))))
      replace k0 := cell_ext eX0 k0
      replace k1 := cell_ext eX0 k1
      replace k2 := cell_ext eX0 k2
      replace HS := Lib.hid (HS.out.ext eX0)
      replace HW := Lib.hid (HW.out.trans' eX0)
      rw [← hX0] at hfc ⊢
      replace hz := World.block_lt_of_cell? _ _ k0
      clear hX0 eX0
      clear hf hi
      have HFC := Lib.hid hfc
      clear hfc
      go_wp2_with fail
      go_loopw [7, 8] (fun n i W => ∃ k : Nat, k ≤ L.length ∧ i = .int .i64 k ∧ n = .int .i64 ((L.take k).countP (fun b => b.testBit C) : Nat) ∧ Ext X0 W) (fun _ i _ => L.length - (intOf i).toNat)
      case atStart => exact ⟨0, by omega, rfl, rfl, (by repeat (first | exact Below.refl _ _ | refine Ext.al ?_ _ | refine Ext.dr ?_ | refine Ext.drN ?_ _ | refine Ext.gr ?_ _ | refine Ext.set ?_ (by simp) _ | (refine Ext.trans' ?_ (by assumption))))⟩
      case round =>
        obtain ⟨k, hk, rfl, rfl, hE⟩ := hrel
        have hcl : (L.take k).countP (fun b => b.testBit C) ≤ k := Nat.le_trans List.countP_le_length (List.length_take_le _ _)
        have HE2 := Lib.hid hE
        by_cases hlt : k < L.length
        · rcases HFC.out with hfc | ⟨fb, fo, rfl, hfc⟩
          · have : L = [] := by simpa using hfc
            rw [this] at hlt; simp at hlt
          have fk := cell_ext hE (hfc k hlt)
          simp at fk
          have hcs := countP_snoc (fun b => b.testBit C) L k hlt
          have hxb := HBD.out L[k] (List.getElem_mem hlt)
          obtain ⟨x, hx⟩ : ∃ x, x = L[k] := ⟨_, rfl⟩
          rw [← hx] at fk hcs hxb
          obtain ⟨m, hm⟩ : ∃ m, m = x >>> C := ⟨_, rfl⟩
          have hs : (x : Int) / 2 ^ C = (m : Int) := by rw [shr_nat, hm]
          have hmn : m ≤ 65536 := by rw [hm, Nat.shiftRight_eq_div_pow]; exact Nat.le_trans (Nat.div_le_self _ _) (by omega)
          have hbit := bit_test x C
          rw [← hm] at hbit
          obtain ⟨q, hq⟩ : ∃ q, q = (L.take k).countP (fun b => b.testBit C) := ⟨_, rfl⟩
          rw [← hq] at hcs hcl ⊢
          have HCS := Lib.hid hcs
          have HBIT := Lib.hid hbit
          clear hcs hbit hm hx hq hE hfc
          by_cases hb : m % 2 = 1
          · have hb1 : bits .and .i64 (m : Int) 1 = 1 := by rw [bits_and1 _ (by omega) (by omega)]; omega
            have HB := Lib.hid hb
            clear hb
            go_wp2_with fail
            go_roundw
            case rel => exact ⟨k + 1, by omega, by go_num, by rw [HCS.out, if_pos (HBIT.out.1 HB.out)]; go_num, HE2.out⟩
            case measure => simp [intOf]; omega
          · have hb1 : bits .and .i64 (m : Int) 1 = 0 := by rw [bits_and1 _ (by omega) (by omega)]; omega
            have HB := Lib.hid hb
            clear hb
            go_wp2_with fail
            go_roundw
            case rel => exact ⟨k + 1, by omega, by go_num, by rw [HCS.out, if_neg (fun e => HB.out (HBIT.out.2 e))]; rfl, HE2.out⟩
            case measure => simp [intOf]; omega
        · obtain rfl : k = L.length := by omega
          rw [List.take_length] at hcl ⊢
          obtain ⟨q, hq⟩ : ∃ q, q = L.countP (fun b => b.testBit C) := ⟨_, rfl⟩
          have hkn := HKN.out
          rw [← hq] at hkn hcl ⊢
          have HKN2 := Lib.hid hkn
          clear hq hE hkn
          by_cases hql : q = L.length
          · have hql' : ((q : Int) == (L.length : Int)) = true := by simp; omega
            have HQL := Lib.hid hql
            clear hql
            go_wp2_with fail
            go_ret2
            exact ⟨by rw [HEE.out, HKN2.out, if_pos HQL.out]; rfl, HW.out.trans' HE2.out⟩
          · have hql' : ((q : Int) == (L.length : Int)) = false := by simp; omega
            have HQL := Lib.hid hql
            clear hql
            by_cases hq0 : q = 0
            · subst hq0
              go_wp2_with fail
              go_ret2
              exact ⟨by rw [HEE.out, HKN2.out, if_neg HQL.out]; rfl, HW.out.trans' HE2.out⟩
            · have hmin : (if (1 : Int) < (q : Int) then (1 : Int) else (q : Int)) = 1 := by split <;> omega
              have HQ0 := Lib.hid hq0
              clear hq0
              go_wp2_with fail
              go_ret2
              exact ⟨by rw [HEE.out, HKN2.out, if_neg HQL.out, if_neg HQ0.out]; rfl, HW.out.trans' HE2.out⟩

  · have h0' : (e0 == 0) = false := by simpa using h0
    have he : kindErr h c = e0 := by unfold kindErr; rw [if_pos (fun e => h0 (HC.out.trans e)), HC.out]
    have hn : kindN h c = 0 := by unfold kindN; rw [if_pos (by rw [he]; exact h0)]
    have HEN := Lib.hid (And.intro he hn)
    clear h0 hn he
    go_wp2_with fail
    refine callW (W0 := W0) (g := g1) (by exact (by repeat (first | exact Below.refl _ _ | refine Ext.al ?_ _ | refine Ext.dr ?_ | refine Ext.drN ?_ _ | refine Ext.gr ?_ _ | refine Ext.set ?_ (by simp) _ | (refine Ext.trans' ?_ (by assumption))))) (C2.out _ (HS.out.ext (by exact (by repeat (first | exact Below.refl _ _ | refine Ext.al ?_ _ | refine Ext.dr ?_ | refine Ext.drN ?_ _ | refine Ext.gr ?_ _ | refine Ext.set ?_ (by simp) _ | (refine Ext.trans' ?_ (by assumption))))))) fun g3 hgr => ?_
    clear hgr
    go_wp2_with fail
    go_ret2
    exact ⟨by rw [HEN.out.1, HEN.out.2]; rfl, HW.out.trans' (grow_below W0 _)⟩
end Go.Proofs.Ytgcldgchhdjnhaa
