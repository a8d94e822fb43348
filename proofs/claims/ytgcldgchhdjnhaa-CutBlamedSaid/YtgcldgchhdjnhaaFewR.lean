/-
  The walks of the reference's Fewest, Wrong, Lists and Kind.
-/
import Derived.Test.YtgcldgchhdjnhaaBitsR
namespace Go.Proofs.Ytgcldgchhdjnhaa
open Go.RowKit Go.Shelf
/-- is a set, as bits, one of so many counters that can be wrong? -/
def isPick (h : Hall) (k b : Nat) : Bool := (bitsL h.cs.length b).length == k && okW h (bitsL h.cs.length b)
theorem pickB_eq (h : Hall) (k : Nat) : pickB h k = (List.range (2 ^ h.cs.length)).filter (isPick h k) := by
  unfold pickB setsK isPick
  rw [List.filter_filter]
  congr 1
  funext b
  rw [Bool.and_comm]
theorem picks_succ (h : Hall) (k b : Nat) : (List.range (b + 1)).filter (isPick h k) = (List.range b).filter (isPick h k) ++ if isPick h k b = true then [b] else [] := by
  rw [List.range_succ, List.filter_append]
  congr 1
  by_cases e : isPick h k b = true <;> simp [e]
def nRow (n : Nat) : List Value := [.int .i64 n]
theorem pickB_full {h : Hall} (v : Valid h) : pickB h h.cs.length ≠ [] := fun e => by
  have := pick_perm h h.cs.length
  rw [e] at this
  exact pick_full v (by simpa using this)
theorem fewB_at (h : Hall) : ∀ (j k m : Nat), k ≤ m → m < k + j → (∀ i, k ≤ i → i < m → pickB h i = []) → pickB h m ≠ [] → fewB h j k = pickB h m
  | 0, k, m, h1, h2, _, _ => by omega
  | j + 1, k, m, h1, h2, h3, h4 => by
    unfold fewB
    by_cases hkm : k = m
    · subst hkm
      simp [h4]
    · have h0 := h3 k (Nat.le_refl _) (by omega)
      rw [h0]
      simp
      exact fewB_at h j (k + 1) m (by omega) (by omega) (fun i hi => h3 i (by omega)) h4
set_option maxRecDepth 100000 in
set_option maxHeartbeats 2000000 in
theorem fewestR_any (h : Hall) (sv : Value) (v : Valid h) (w : World) (hs : IsCnts w sv h.cs) :
    Calls Try.prog 88 #[.agg #[.int .i64 h.n, .int .i64 h.most, sv]] w fun e w' => ∃ fv, e = .returned fv ∧ Ext w w' ∧ Owns w' w.heap.size 3 1 fv ((fewestB h).map nRow) := by
  obtain ⟨sa, cap, rfl, hl1, hl2, -⟩ := hs.spec
  have HS0 := Lib.hid hs
  have V := Lib.hid v
  have hlen := v.len
  clear hs v
  go_enter Try.func88, Try.ntmps88
  go_upto_region 2 with (fail)
  obtain ⟨W0, hW0⟩ : ∃ W0, W0 = w.alloc (.cells #[.int .i64 h.n, .int .i64 h.most, .slice sa h.cs.length cap] 24) := ⟨_, rfl⟩
  have hE : Ext w W0 := by rw [hW0]; exact (by repeat (first | exact Below.refl _ _ | refine Ext.al ?_ _ | refine Ext.dr ?_ | refine Ext.drN ?_ _ | refine Ext.gr ?_ _ | refine Ext.set ?_ (by simp) _ | (refine Ext.trans' ?_ (by assumption))))
  have k0 : W0.cell? ⟨w.heap.size, 0, none⟩ = some (.int .i64 h.n) := by rw [hW0]; simp [go_sem]
  have k1 : W0.cell? ⟨w.heap.size, 1, none⟩ = some (.int .i64 h.most) := by rw [hW0]; simp [go_sem]
  have k2 : W0.cell? ⟨w.heap.size, 2, none⟩ = some (.slice sa h.cs.length cap) := by rw [hW0]; simp [go_sem]
  have hz : w.heap.size < W0.heap.size := World.block_lt_of_cell? _ _ k0
  have HK0 := Lib.hid k0
  have HK1 := Lib.hid k1
  have HK2 := Lib.hid k2
  have HE := Lib.hid hE
  rw [← hW0]
  clear hW0 hE k0 k1 k2
  obtain ⟨N, hN⟩ : ∃ N : Nat, N = h.cs.length := ⟨_, rfl⟩
  have HNN := Lib.hid hN
  have hpw : 2 ^ N ≤ 1024 := Nat.pow_le_pow_right (n := 2) (by omega) (show N ≤ 10 by omega)
  have hN10 : N ≤ 10 := by omega
  obtain ⟨M, hM⟩ : ∃ M : Nat, M = 2 ^ N := ⟨_, rfl⟩
  have HM := Lib.hid hM
  rw [← hM] at hpw
  have hsh : wrap64 ((2 : Int) ^ h.cs.length) = (M : Int) := by
    have e : (2 : Int) ^ h.cs.length = (M : Int) := by rw [hM, hN]; simp
    rw [e]
    exact IntWalk.wrap64_in _ (by omega)
  clear hN hM
  go_wp2_with fail
  go_loopw [3, 4] (fun ov i W => ∃ m : Nat, m ≤ N + 1 ∧ (∀ j, j + 1 < m → pickB h j = []) ∧ i = .int .i64 m ∧ Ext W0 W ∧ Owns W W0.heap.size 3 1 ov ((if m = 0 then [] else pickB h (m - 1)).map nRow)) (fun _ i _ => N + 1 - (intOf i).toNat)
  case atStart => exact ⟨0, by omega, fun j hj => by omega, rfl, Below.refl _ _, Owns.nil _ _ _ _⟩
  case round =>
    obtain ⟨m, hm, hprev, rfl, hE, hown⟩ := hrel
    have HP := Lib.hid hprev
    have HE1 := Lib.hid hE
    have HO := Lib.hid hown
    have hsz := hE.size
    obtain ⟨oa, on, oc, rfl⟩ := hown.isSlice
    have hon : on = (if m = 0 then [] else pickB h (m - 1)).length := by have := hown.src.1; simpa using this
    by_cases hout : (if m = 0 then [] else pickB h (m - 1)) = []
    · have hon0 : on = 0 := by rw [hon, hout]; rfl
      subst hon0
      have hall : ∀ j, j < m → pickB h j = [] := fun j hj => by
        by_cases hj1 : j + 1 < m
        · exact hprev j hj1
        · have : j = m - 1 := by omega
          subst this
          rwa [if_neg (by omega)] at hout
      have hmN : m ≤ N := by
        rcases Nat.lt_or_ge N m with h' | h'
        · exact absurd (hall N h') (by have := HNN.out; subst this; exact pickB_full V.out)
        · exact h'
      have HALL := Lib.hid hall
      have HOUT := Lib.hid hout
      clear hprev hown hout hall hon
      obtain ⟨w1, hw1⟩ : ∃ w1, w1 = wr := ⟨_, rfl⟩
      go_wp2_with fail
      go_loopw [3, 5] (fun ov i W => ∃ b : Nat, b ≤ M ∧ i = .int .i64 b ∧ Ext W0 W ∧ Owns W W0.heap.size 3 1 ov (((List.range b).filter (isPick h m)).map nRow)) (fun _ i _ => M - (intOf i).toNat)
      case atStart =>
        refine ⟨0, by omega, rfl, HE1.out, ?_⟩
        have := HO.out
        rw [show (if m = 0 then [] else pickB h (m - 1)) = [] from HOUT.out] at this
        simpa using this
      case round =>
        obtain ⟨b, hb, rfl, hE, hown⟩ := hrel
        have k0 := cell_ext hE HK0.out
        have k1 := cell_ext hE HK1.out
        have k2 := cell_ext hE HK2.out
        have hsz := hE.size
        have HE2 := Lib.hid hE
        have HO2 := Lib.hid hown
        obtain ⟨pa, pn, pc, rfl⟩ := hown.isSlice
        by_cases hlt : b < M
        · have hpn : pn = ((List.range b).filter (isPick h m)).length := by have := hown.src.1; simpa using this
          have hpb : pn ≤ b := by rw [hpn]; exact Nat.le_trans (List.length_filter_le _ _) (by simp)
          have hsucc := picks_succ h m b
          have hip : isPick h m b = ((bitsL 16 b).length == m && (leastR (wo h (bitsL 16 b)) 0).2) := by
            have e : bitsL h.cs.length b = bitsL 16 b := bitsL_same (by have := HNN.out; have := HM.out; subst_vars; omega) (by omega)
            unfold isPick okW
            rw [e, (leastR_eq (wo_valid V.out _) (st := 0) (by have := (wo_valid V.out (bitsL 16 b)).n1; omega)).1]
          have HSUCC := Lib.hid hsucc
          have HIP := Lib.hid hip
          have HPN := Lib.hid hpn
          clear hE hown hsucc hip hpn
          go_wp2_with fail
          refine (bitsR_any b (by omega) _).mono ?_
          rintro e W1 ⟨bv, rfl, hE1, hB1⟩
          obtain ⟨ba, bn, bc, rfl⟩ := hB1.isSlice
          have hbn : (bitsL 16 b).length = bn := by have := hB1.src.1; simp at this; omega
          have k0' := cell_ext hE1 k0
          have k1' := cell_ext hE1 k1
          have k2' := cell_ext hE1 k2
          have HE3 := Lib.hid (HE2.out.trans' hE1)
          have HO3 := Lib.hid (HO2.out.ext hE1)
          have HBN := Lib.hid hbn
          clear hE1 hB1 hbn k0 k1 k2
          by_cases hc : bn = m
          · subst hc
            have hc' : ((bn : Int) == (bn : Int)) = true := by simp
            go_wp2_with fail
            refine (without_any h (.slice sa h.cs.length cap) b (by omega) _ (HS0.out.ext (HE.out.trans' HE3.out)) hlen).mono ?_
            rintro e W2 ⟨sv', rfl, hE2, hI2⟩
            have hn2 : (wo h (bitsL 16 b)).n = h.n := rfl
            have hm2 : (wo h (bitsL 16 b)).most = h.most := rfl
            have WV := Lib.hid (wo_valid V.out (bitsL 16 b))
            have HE4 := Lib.hid (HE3.out.trans' hE2)
            have HO4 := Lib.hid (HO3.out.ext hE2)
            have HI2 := Lib.hid hI2
            clear hE2 hI2 hn2 hm2 k0' k1' k2'
            obtain ⟨ok, hok⟩ : ∃ ok, ok = (leastR (wo h (bitsL 16 b)) 0).2 := ⟨_, rfl⟩
            have ca := agreeR_any (wo h (bitsL 16 b)) sv' WV.out W2 HI2.out
            rw [← hok] at ca
            have CA := Lib.hid ca
            have HOK := Lib.hid hok
            clear ca hok
            go_wp2_with fail
            refine CA.out.mono ?_
            rintro e W3 ⟨rfl, hE5⟩
            have HE5 := Lib.hid (HE4.out.trans' hE5)
            have HO5 := Lib.hid (HO4.out.ext hE5)
            have hsz5 : W0.heap.size ≤ W3.heap.size := HE5.out.size
            clear hE5 hc'
            cases ok
            · go_wp2_with fail
              go_roundw
              case rel =>
                refine ⟨b + 1, by omega, by go_num, HE5.out, ?_⟩
                rw [HSUCC.out, HIP.out, ← HOK.out, Bool.and_false, if_neg (by simp), List.append_nil]
                exact HO5.out
              case measure => simp [intOf]; omega
            · go_wp2_with (at_builtin; refine wpOwn rfl (.tmp 30) (.tmp 32) elInt rfl W0.heap.size rfl (HO5.out.ext (by exact (by repeat (first | exact Below.refl _ _ | refine Ext.al ?_ _ | refine Ext.dr ?_ | refine Ext.drN ?_ _ | refine Ext.gr ?_ _ | refine Ext.set ?_ (by simp) _ | (refine Ext.trans' ?_ (by assumption)))))) W3.heap.size 0 1 [[.int .i64 b]] rfl (by simp) (newRowAt _ [.int .i64 b] _ _ _ rfl rfl) (by simp [Value.oneCell']) (by have := HPN.out; simp; omega) (by simp; omega) ?_)
              intro v' w' hown' hb'
              obtain ⟨sa', n', cap', rfl⟩ := hown'.isSlice
              have HO' := Lib.hid hown'
              have HE' := Lib.hid (HE5.out.trans (Below.trans (by exact ((Below.refl _ _).alloc (by omega) _)) hb') : Ext W0 w')
              clear hown' hb'
              go_wp2_with fail
              go_roundw
              case rel =>
                refine ⟨b + 1, by omega, by go_num, HE'.out, ?_⟩
                rw [HSUCC.out, HIP.out, ← HOK.out, HBN.out, if_pos (by simp), List.map_append]
                exact HO'.out
              case measure => simp [intOf]; omega
          · have hc' : ((bn : Int) == (m : Int)) = false := by simp; omega
            have HC := Lib.hid hc
            clear hc
            go_wp2_with fail
            go_roundw
            case rel =>
              refine ⟨b + 1, by omega, by go_num, HE3.out, ?_⟩
              rw [HSUCC.out, HIP.out, HBN.out, if_neg (by simp [HC.out]), List.append_nil]
              exact HO3.out
            case measure => simp [intOf]; omega
        · obtain rfl : b = M := by omega
          clear hE hown
          go_wp2_with fail
          go_roundw
          case rel =>
            refine ⟨m + 1, by omega, fun j hj => HALL.out j (by omega), by go_num, HE2.out, ?_⟩
            rw [if_neg (by omega), Nat.add_sub_cancel, pickB_eq, ← HNN.out, ← HM.out]
            exact HO2.out
          case measure => simp [intOf]; omega
    · have hm0 : m ≠ 0 := fun e => hout (by rw [if_pos e])
      rw [if_neg hm0] at hout hown hon
      have hfe : fewestB h = pickB h (m - 1) := fewB_at h _ 0 (m - 1) (by omega) (by have := HNN.out; omega) (fun i _ hi => HP.out i (by omega)) hout
      have honp : 0 < on := by rw [hon]; exact List.length_pos_iff.2 hout
      have hon' : ((on : Int) == 0) = false := by simp; omega
      have HFE := Lib.hid hfe
      have HO6 := Lib.hid hown
      clear hE hown hout hfe hprev hon
      go_wp2_with fail
      refine bodyPost_ret (v := .slice oa on oc) (by simp [results, Try.results88, go_sem]) rfl ⟨_, rfl, HE.out.trans' HE1.out, ?_⟩
      rw [HFE.out]
      exact HO6.out.base HE.out.size
set_option maxRecDepth 100000 in
set_option maxHeartbeats 2000000 in
theorem listsR_any (h : Hall) (sv : Value) (w : World) (hs : IsCnts w sv h.cs) :
    Calls Try.prog 42 #[.agg #[.int .i64 h.n, .int .i64 h.most, sv]] w fun e w' => e = .returned (.tuple #[.int .i64 (listsN h), .int .i64 (chk h)]) ∧ Ext w w' := by
  obtain ⟨sa, cap, rfl, hl1, hl2, -⟩ := hs.spec
  have HS0 := Lib.hid hs
  clear hs
  obtain ⟨c, hc⟩ : ∃ c, c = chk h := ⟨_, rfl⟩
  have c2 := fun w hs => checkHallR_any h (.slice sa h.cs.length cap) w hs
  rw [← hc] at c2 ⊢
  have C2 := Lib.hid c2
  have HC := Lib.hid hc
  clear c2 hc
  go_enter Try.func42, Try.ntmps42
  go_upto_region 1 with (fail)
  obtain ⟨W0, hW0⟩ : ∃ W0, W0 = w.alloc (.cells #[.int .i64 h.n, .int .i64 h.most, .slice sa h.cs.length cap] 24) := ⟨_, rfl⟩
  have hE : Ext w W0 := by rw [hW0]; exact (by repeat (first | exact Below.refl _ _ | refine Ext.al ?_ _ | refine Ext.dr ?_ | refine Ext.drN ?_ _ | refine Ext.gr ?_ _ | refine Ext.set ?_ (by simp) _ | (refine Ext.trans' ?_ (by assumption))))
  have k0 : W0.cell? ⟨w.heap.size, 0, none⟩ = some (.int .i64 h.n) := by rw [hW0]; simp [go_sem]
  have k1 : W0.cell? ⟨w.heap.size, 1, none⟩ = some (.int .i64 h.most) := by rw [hW0]; simp [go_sem]
  have k2 : W0.cell? ⟨w.heap.size, 2, none⟩ = some (.slice sa h.cs.length cap) := by rw [hW0]; simp [go_sem]
  have hz : w.heap.size < W0.heap.size := World.block_lt_of_cell? _ _ k0
  have HS := Lib.hid (HS0.out.ext hE)
  have HW := Lib.hid hE
  rw [← hW0]
  clear hW0 HS0
  clear hE

  go_wp2_with fail
  refine callW (W0 := W0) (g := ⟨W0, Below.refl _ _⟩) (by exact (by repeat (first | exact Below.refl _ _ | refine Ext.al ?_ _ | refine Ext.dr ?_ | refine Ext.drN ?_ _ | refine Ext.gr ?_ _ | refine Ext.set ?_ (by simp) _ | (refine Ext.trans' ?_ (by assumption))))) (C2.out _ (HS.out.ext (by exact (by repeat (first | exact Below.refl _ _ | refine Ext.al ?_ _ | refine Ext.dr ?_ | refine Ext.drN ?_ _ | refine Ext.gr ?_ _ | refine Ext.set ?_ (by simp) _ | (refine Ext.trans' ?_ (by assumption))))))) fun g1 hgr => ?_
  clear hgr
  by_cases h0 : c = 0
  · have hv := valid_of_chk (HC.out.symm.trans h0)
    have hn : listsN h = (fewestB h).length := by unfold listsN; rw [if_pos (HC.out.symm.trans h0), lists_eq]
    have c3 := fun w hs => fewestR_any h (.slice sa h.cs.length cap) hv w hs
    have C3 := Lib.hid c3
    have HN := Lib.hid hn
    subst h0
    clear c3 hn hv

    go_wp2_with fail
    refine callWR (W0 := W0) (g := g1) (by exact (by repeat (first | exact Below.refl _ _ | refine Ext.al ?_ _ | refine Ext.dr ?_ | refine Ext.drN ?_ _ | refine Ext.gr ?_ _ | refine Ext.set ?_ (by simp) _ | (refine Ext.trans' ?_ (by assumption))))) (C3.out _ (HS.out.ext (by exact (by repeat (first | exact Below.refl _ _ | refine Ext.al ?_ _ | refine Ext.dr ?_ | refine Ext.drN ?_ _ | refine Ext.gr ?_ _ | refine Ext.set ?_ (by simp) _ | (refine Ext.trans' ?_ (by assumption))))))) (fun _ _ ⟨_, _, r, _⟩ => r) fun _ g2 hgr hr => ?_
    obtain ⟨fv, rfl, -, hf⟩ := hr
    clear hgr
    obtain ⟨fa, fn, fc, rfl⟩ := hf.isSlice
    have hfn : fn = (fewestB h).length := by have := hf.src.1; simpa using this
    have HF := Lib.hid hfn
    clear hf hfn
    go_wp2_with fail
    go_ret2
    exact ⟨by rw [HN.out, ← HF.out]; rfl, HW.out.trans' (grow_below W0 _)⟩

  · have h0' : (c == 0) = false := by simpa using h0
    have hn : listsN h = 0 := by unfold listsN; rw [if_neg (fun e => h0 (HC.out.trans e))]
    have HN := Lib.hid hn
    clear h0 hn
    go_wp2_with fail
    refine callW (W0 := W0) (g := g1) (by exact (by repeat (first | exact Below.refl _ _ | refine Ext.al ?_ _ | refine Ext.dr ?_ | refine Ext.drN ?_ _ | refine Ext.gr ?_ _ | refine Ext.set ?_ (by simp) _ | (refine Ext.trans' ?_ (by assumption))))) (C2.out _ (HS.out.ext (by exact (by repeat (first | exact Below.refl _ _ | refine Ext.al ?_ _ | refine Ext.dr ?_ | refine Ext.drN ?_ _ | refine Ext.gr ?_ _ | refine Ext.set ?_ (by simp) _ | (refine Ext.trans' ?_ (by assumption))))))) fun g3 hgr => ?_
    clear hgr
    go_wp2_with fail
    go_ret2
    exact ⟨by rw [HN.out]; rfl, HW.out.trans' (grow_below W0 _)⟩
/-- the best of several lists, as the reference finds it -/
def bestOf : List Int → List (List Int) → List Int
  | b, [] => b
  | b, x :: l => bestOf (if bef x b then x else b) l
theorem bef_lex : ∀ {a b : List Int}, bef a b = true ↔ lex a b
  | [], b => by cases b <;> simp [bef, lex]
  | a :: l, [] => by simp [bef, lex]
  | a :: l, b :: m => by
    unfold bef lex
    by_cases h : a = b
    · subst h; simp [bef_lex]
    · simp [h]
theorem best_mem : ∀ (l : List (List Int)) (b : List Int), bestOf b l ∈ b :: l
  | [], b => by simp [bestOf]
  | x :: l, b => by
    unfold bestOf
    have := best_mem l (if bef x b then x else b)
    rcases List.mem_cons.1 this with h | h
    · rw [h]; split <;> simp
    · simp [h]
theorem best_min (k : Nat) : ∀ (l : List (List Int)) (b : List Int), b.length = k → (∀ x ∈ l, x.length = k) → ∀ x ∈ b :: l, ¬ lex x (bestOf b l)
  | [], b, _, _ => by
    intro x hx
    simp at hx
    subst hx
    exact lex_irr _
  | y :: l, b, hb, hl => by
    have hy := hl y (by simp)
    intro x hx hlex
    unfold bestOf at hlex
    have hk : (if bef y b then y else b).length = k := by split <;> assumption
    have ih := best_min k l (if bef y b then y else b) hk (fun z hz => hl z (by simp [hz]))
    have hbest := best_mem l (if bef y b then y else b)
    have hlb : (bestOf (if bef y b then y else b) l).length = k := by
      rcases List.mem_cons.1 hbest with h | h
      · rw [h]; exact hk
      · exact hl _ (by simp [h])
    have h1 := ih (if bef y b then y else b) (by simp)
    rcases List.mem_cons.1 hx with h | h
    · subst h
      by_cases hc : bef y x = true
      · rw [if_pos hc] at hlex h1
        exact h1 (lex_trans (bef_lex.1 hc) hlex)
      · rw [if_neg hc] at hlex h1
        exact h1 hlex
    · rcases List.mem_cons.1 h with h | h
      · subst h
        by_cases hc : bef x b = true
        · rw [if_pos hc] at hlex h1
          exact h1 hlex
        · rw [if_neg hc] at hlex h1
          have hyb : b = x ∨ lex b x := by
            rcases lex_tot (a := b) (b := x) (by omega) with h | h | h
            · exact .inl h
            · exact .inr h
            · exact absurd (bef_lex.2 h) hc
          rcases hyb with h | h
          · subst h; exact h1 hlex
          · exact h1 (lex_trans h hlex)
      · exact ih x (by simp [h]) hlex
/-- what the reference's Wrong returns is what the program's does -/
theorem wrong_best {h : Hall} {b : Nat} {l : List Nat} (hc : chk h = 0) (e : fewestB h = b :: l) : bestOf (bitsL h.cs.length b) (l.map (bitsL h.cs.length)) = wrongL h := by
  have hp := fewest_perm h
  rw [e, List.map_cons] at hp
  unfold wrongL
  rw [if_pos hc]
  symm
  have hlen : ∀ x ∈ bitsL h.cs.length b :: l.map (bitsL h.cs.length), x.length = (bitsL h.cs.length b).length := fun x hx =>
    fewM_same h (hp.mem_iff.1 hx) (hp.mem_iff.1 (by simp))
  exact best_eq hp (fewM_lex h _ _) (best_mem _ _) (best_min _ _ _ rfl fun x hx => hlen x (by simp [hx]))
end Go.Proofs.Ytgcldgchhdjnhaa
