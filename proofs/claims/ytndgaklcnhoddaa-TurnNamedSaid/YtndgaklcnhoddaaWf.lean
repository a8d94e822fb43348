/-
  The walks of covered and right: do steps doom a state?
  The walk of right: does each step lead to a full screw, or to others with less left?
  The walk of CheckDoom of the program.
  The walk of Doom: steps that doom a state.
  The walk of Doom: steps that doom a state.
-/
import Derived.Test.YtndgaklcnhoddaaWa
import Derived.Test.YtndgaklcnhoddaaWb
import Derived.Test.YtndgaklcnhoddaaPl
import Derived.Test.YtndgaklcnhoddaaWd
namespace Go.Proofs.Ytndgaklcnhoddaa
open Go.RowKit Go.Shelf
def dV (d : List Int × Int) : Value := .agg #[.int .i64 (gt d.1 0), .int .i64 (gt d.1 1), .int .i64 (gt d.1 2), .int .i64 (gt d.1 3), .int .i64 (gt d.1 4), .int .i64 d.2]
def covD (s : List Int) (left : Int) (d : List Int × Int) : Bool := decide (d.2 < left) && geB s d.1
/-- is the state above in the first numbers? -/
def geTo (s t : List Int) (k : Nat) : Prop := ∀ i, i < k → gt t i ≤ gt s i
theorem geB_five {s t : List Int} (hs : s.length ≤ 5) (hl : t.length = s.length) : geB s t = true ↔ geTo s t 5 := by
  rw [geB_iff]
  refine ⟨fun h i hi => ?_, fun h i hi => h i (by omega)⟩
  by_cases hi2 : i < s.length
  · exact h i hi2
  · rw [gt_off (by omega), gt_off (by omega)]; omega
set_option maxRecDepth 100000 in
set_option maxHeartbeats 2000000 in
theorem cov1_any (s : List Int) (left : Int) (b1 b2 : Nat) (d : List Int × Int) (w : World) (hs : StB w b1 s) (hl : w.cell? ⟨b2, 0, none⟩ = some (.int .i64 left)) (h5 : s.length ≤ 5) (hd : d.1.length = s.length) :
    Calls Try.prog 103 #[dV d, .pointer (some ⟨b1, 0, none⟩), .pointer (some ⟨b2, 0, none⟩)] w fun e W => e = .returned (.bool (covD s left d)) ∧ Ext w W := by
  have hg := geB_five h5 hd
  obtain ⟨t, l⟩ := d
  obtain ⟨r, hr⟩ : ∃ r, r = (gt t 0 == gt s 0 && (gt t 1 == gt s 1 && (gt t 2 == gt s 2 && (gt t 3 == gt s 3 && gt t 4 == gt s 4)))) := ⟨_, rfl⟩
  have heq : ∀ W, (binOp .eql 73 (.agg #[.int .i64 (gt t 0), .int .i64 (gt t 1), .int .i64 (gt t 2), .int .i64 (gt t 3), .int .i64 (gt t 4)]) (.agg #[.int .i64 (gt s 0), .int .i64 (gt s 1), .int .i64 (gt s 2), .int .i64 (gt s 3), .int .i64 (gt s 4)])).run Try.prog W = .ok (.bool r) W := fun W => by
    have := equal_arr 9998 (gt t 0) (gt t 1) (gt t 2) (gt t 3) (gt t 4) (gt s 0) (gt s 1) (gt s 2) (gt s 3) (gt s 4) W
    rw [← hr] at this
    simp only [lst5] at this
    simp [binOp, Op.equal, Op.maxDepth, go_sem, this]
  have hix : ∀ W (k : Nat), k < 5 → (Instr.index 73 (.agg #[.int .i64 (gt t 0), .int .i64 (gt t 1), .int .i64 (gt t 2), .int .i64 (gt t 3), .int .i64 (gt t 4)]) (.int .i64 (k : Int))).run Try.prog W = .ok (.int .i64 (gt t k)) W := fun W k hk => by
    rcases (show k = 0 ∨ k = 1 ∨ k = 2 ∨ k = 3 ∨ k = 4 by omega) with rfl | rfl | rfl | rfl | rfl <;> simp [Instr.index, Try.runUnderlying73, go_sem]
  have hrt : r = true → geTo s t 5 := fun h i hi => by
    rw [hr] at h
    simp only [Bool.and_eq_true, beq_iff_eq] at h
    match i, hi with
    | 0, _ => omega
    | 1, _ => omega
    | 2, _ => omega
    | 3, _ => omega
    | 4, _ => omega
  unfold dV
  simp only at hg ⊢
  have HR := Lib.hid hrt
  have HG := Lib.hid hg
  have HSB := Lib.hid hs
  have c0p := (hs).c 0 (by omega)
  have c1p := (hs).c 1 (by omega)
  have c2p := (hs).c 2 (by omega)
  have c3p := (hs).c 3 (by omega)
  have c4p := (hs).c 4 (by omega)
  have cfp := (hs).free
  have czp := (hs).lt
  have czl := World.block_lt_of_cell? _ _ hl
  simp only at czl
  clear hr hrt hg hs
  go_enter Try.func103, Try.ntmps103
  go_upto_region 1 with (fail)
  obtain ⟨W0, hW0⟩ : ∃ W0, W0 = w.alloc (.cells #[.int .i64 (gt t 0), .int .i64 (gt t 1), .int .i64 (gt t 2), .int .i64 (gt t 3), .int .i64 (gt t 4), .int .i64 l] 100) := ⟨_, rfl⟩
  have hE : Ext w W0 := by rw [hW0]; exact (by repeat (first | exact Below.refl _ _ | refine Ext.al ?_ _ | refine Ext.dr ?_ | refine Ext.drN ?_ _ | refine Ext.gr ?_ _ | refine Ext.set ?_ (by simp) _ | (refine Ext.trans' ?_ (by assumption))))
  have k0 : W0.cell? ⟨w.heap.size, 0, none⟩ = some (.int .i64 (gt t 0)) := by rw [hW0]; simp [go_sem]
  have k1 : W0.cell? ⟨w.heap.size, 1, none⟩ = some (.int .i64 (gt t 1)) := by rw [hW0]; simp [go_sem]
  have k2 : W0.cell? ⟨w.heap.size, 2, none⟩ = some (.int .i64 (gt t 2)) := by rw [hW0]; simp [go_sem]
  have k3 : W0.cell? ⟨w.heap.size, 3, none⟩ = some (.int .i64 (gt t 3)) := by rw [hW0]; simp [go_sem]
  have k4 : W0.cell? ⟨w.heap.size, 4, none⟩ = some (.int .i64 (gt t 4)) := by rw [hW0]; simp [go_sem]
  have k5 : W0.cell? ⟨w.heap.size, 5, none⟩ = some (.int .i64 l) := by rw [hW0]; simp [go_sem]
  have hs := HSB.out.ext hE
  have hl0 := cell_ext hE hl
  rw [← hW0]
  have HE := Lib.hid hE
  clear c0p c1p c2p c3p c4p cfp czp hW0 hE hl
  have c0p := (hs).c 0 (by omega)
  have c1p := (hs).c 1 (by omega)
  have c2p := (hs).c 2 (by omega)
  have c3p := (hs).c 3 (by omega)
  have c4p := (hs).c 4 (by omega)
  have cfp := (hs).free
  have czp := (hs).lt
  have HS0 := Lib.hid hs
  clear hs HSB
  cases r
  · go_wp2_with (simp only [heq])
    go_loopw [17] (fun i W => ∃ k : Nat, k ≤ 5 ∧ i = .int .i64 k ∧ geTo s t k ∧ W = W0) (fun i _ => 5 - (intOf i).toNat)
    case atStart => exact ⟨0, by omega, rfl, fun i hi => by omega, rfl⟩
    case round =>
      obtain ⟨k, hk, rfl, hge, rfl⟩ := hrel
      by_cases hlt : k < 5
      · have hki : (k : Int) < 5 := by omega
        have HGE := Lib.hid hge
        by_cases hle : gt s k < gt t k
        · have hfin : covD s left (t, l) = false := by
            unfold covD
            cases hgb : geB s t with
            | false => simp
            | true => have := HG.out.1 hgb k hlt; omega
          have HF := Lib.hid hfin
          have dk := HS0.out.c k hlt
          have hx := fun W => hix W k hlt
          clear hge hfin
          go_wp2_with (simp only [hx])
          go_ret
          exact ⟨ret_bool HF.out.symm, HE.out⟩
        · have hst : geTo s t (k + 1) := fun i hi => by
            by_cases e : i = k
            · subst e; omega
            · exact hge i (by omega)
          have HST := Lib.hid hst
          have dk := HS0.out.c k hlt
          have hx := fun W => hix W k hlt
          clear hge hst HGE
          go_wp2_with (simp only [hx])
          go_roundw
          case rel => exact ⟨k + 1, by omega, by go_num, HST.out, trivial⟩
          case measure => simp [intOf]; omega
      · obtain rfl : k = 5 := by omega
        have hfin : covD s left (t, l) = decide (l < left) := by
          unfold covD
          rw [show geB s t = true from HG.out.2 hge, Bool.and_true]
        have HF := Lib.hid hfin
        clear hge hfin
        go_wp2_with fail
        go_ret
        exact ⟨ret_bool HF.out.symm, HE.out⟩
  · go_wp2_with (simp only [heq])
    go_ret
    refine ⟨ret_bool ?_, HE.out⟩
    unfold covD
    rw [show geB s t = true from HG.out.2 (HR.out trivial), Bool.and_true]
def dCells (d : List Int × Int) : List Value := [.int .i64 (gt d.1 0), .int .i64 (gt d.1 1), .int .i64 (gt d.1 2), .int .i64 (gt d.1 3), .int .i64 (gt d.1 4), .int .i64 d.2]
def IsDms (w : World) (v : Value) (l : List (List Int × Int)) : Prop := IsRows w 6 v (l.map dCells)
theorem IsDms.ext {w w' : World} (e : Ext w w') {v : Value} {l : List (List Int × Int)} (h : IsDms w v l) : IsDms w' v l := IsRows.ext e h
theorem IsDms.spec {w : World} {v : Value} {l : List (List Int × Int)} (h : IsDms w v l) :
    ∃ sa cap, v = .slice sa l.length cap ∧ l.length ≤ cap ∧ cap ≤ 9223372036854775807 ∧ (l = [] ∨ ∃ b off, sa = some ⟨b, off, none⟩ ∧ ∀ i, (h : i < l.length) →
      w.cell? ⟨b, off + i * 6, none⟩ = some (.int .i64 (gt (l[i]).1 0)) ∧ w.cell? ⟨b, off + i * 6 + 1, none⟩ = some (.int .i64 (gt (l[i]).1 1)) ∧ w.cell? ⟨b, off + i * 6 + 2, none⟩ = some (.int .i64 (gt (l[i]).1 2)) ∧ w.cell? ⟨b, off + i * 6 + 3, none⟩ = some (.int .i64 (gt (l[i]).1 3)) ∧ w.cell? ⟨b, off + i * 6 + 4, none⟩ = some (.int .i64 (gt (l[i]).1 4)) ∧ w.cell? ⟨b, off + i * 6 + 5, none⟩ = some (.int .i64 (l[i]).2)) := by
  obtain ⟨sa, cap, h1, h2, h3, h4⟩ := h
  refine ⟨sa, cap, by simpa using h1, by simpa using h2, h3, ?_⟩
  rcases h4 with h4 | ⟨b, off, e, h4⟩
  · exact .inl (by simpa using h4)
  · refine .inr ⟨b, off, e, fun i hi => ?_⟩
    have h4' := h4 i (by simpa using hi)
    have a0 := h4' 0 (by simp [dCells])
    have a1 := h4' 1 (by simp [dCells])
    have a2 := h4' 2 (by simp [dCells])
    have a3 := h4' 3 (by simp [dCells])
    have a4 := h4' 4 (by simp [dCells])
    have a5 := h4' 5 (by simp [dCells])
    simp [dCells] at a0 a1 a2 a3 a4 a5
    exact ⟨a0, a1, a2, a3, a4, a5⟩
set_option maxRecDepth 100000 in
set_option maxHeartbeats 1000000 in
theorem covered_any (s : List Int) (left : Int) (l : List (List Int × Int)) (lv : Value) (w : World) (hl : IsDms w lv l) (h5 : s.length ≤ 5) (hd : ∀ d ∈ l, d.1.length = s.length) :
    Calls Try.prog 84 #[lv, stV s, .int .i64 left] w fun e W => e = .returned (.bool (covB l s left)) ∧ Ext w W := by
  obtain ⟨sa, cap, rfl, h1, h2, h3⟩ := hl.spec
  have hc : ∀ W, Ext w W → StB W w.heap.size s → W.cell? ⟨w.heap.size + 1, 0, none⟩ = some (.int .i64 left) → Calls Try.prog 102 #[.slice sa l.length cap, .func (.func 103) #[] #[.pointer (some ⟨w.heap.size, 0, none⟩), .pointer (some ⟨w.heap.size + 1, 0, none⟩)]] W fun e w' => e = .returned (.bool (covB l s left)) ∧ Ext W w' := fun W hE hs hlf => by
    refine containsFuncDoom l sa cap 103 _ (covD s left) W (by omega) ?_ (fun args W => Try.call103 args W) fun x hx W' hE' => cov1_any s left _ _ x W' (hs.ext hE') (cell_ext hE' hlf) h5 (hd x hx)
    rcases h3 with h3 | ⟨b, off, e, h3⟩
    · exact .inl h3
    · refine .inr ⟨b, off, e, fun i hi => ?_⟩
      obtain ⟨a0, a1, a2, a3, a4, a5⟩ := h3 i hi
      exact ⟨cell_ext hE a0, cell_ext hE a1, cell_ext hE a2, cell_ext hE a3, cell_ext hE a4, cell_ext hE a5⟩
  have HC := Lib.hid hc
  rw [stV_eq]
  clear hl hc h3
  go_enter Try.func84, Try.ntmps84
  go_upto_region 1 with (fail)
  obtain ⟨W0, hW0⟩ : ∃ W0, W0 = (w.alloc (.cells #[.int .i64 (gt s 0), .int .i64 (gt s 1), .int .i64 (gt s 2), .int .i64 (gt s 3), .int .i64 (gt s 4)] 73)).alloc (.cells #[.int .i64 left] 2) := ⟨_, rfl⟩
  have hE : Ext w W0 := by rw [hW0]; exact (by repeat (first | exact Below.refl _ _ | refine Ext.al ?_ _ | refine Ext.dr ?_ | refine Ext.drN ?_ _ | refine Ext.gr ?_ _ | refine Ext.set ?_ (by simp) _ | (refine Ext.trans' ?_ (by assumption))))
  have k0 : W0.cell? ⟨w.heap.size + 1, 0, none⟩ = some (.int .i64 left) := by rw [hW0]; simp [go_sem]
  have hsb : StB W0 w.heap.size s := by
    rw [hW0]
    exact (StB.new w s).ext (by repeat (first | exact Below.refl _ _ | refine Ext.al ?_ _ | refine Ext.dr ?_ | refine Ext.drN ?_ _ | refine Ext.gr ?_ _ | refine Ext.set ?_ (by simp) _ | (refine Ext.trans' ?_ (by assumption))))
  rw [← hW0]
  have HCC := Lib.hid (HC.out W0 hE hsb k0)
  have HE := Lib.hid hE
  clear hW0 hE hsb HC
  go_wp2_with fail
  refine callGr HCC.out fun g => ?_
  go_wp2_with fail
  go_ret
  exact ⟨rfl, HE.out.trans' (grow_below W0 g)⟩
end Go.Proofs.Ytndgaklcnhoddaa
namespace Go.Proofs.Ytndgaklcnhoddaa
open Go.RowKit Go.Shelf
/-- does a step lead to a full screw, or to others? -/
def okD (ks : List Int) (l : List (List Int × Int)) (d : List Int × Int) : Bool := fullP allW ks d.1 || (List.range ks.length).all fun w => covB l (visit (upP allW d.1) w) d.2
theorem right_bad {ks : List Int} {l : List (List Int × Int)} {k : Nat} (hk : k < l.length) (h : okD ks l l[k] = false) : rightB ks l = false := by
  cases e : rightB ks l with
  | false => rfl
  | true =>
    have := List.all_eq_true.1 e l[k] (List.getElem_mem hk)
    rw [show (fullP allW ks l[k].1 || (List.range ks.length).all fun w => covB l (visit (upP allW l[k].1) w) l[k].2) = okD ks l l[k] from rfl, h] at this
    cases this
set_option maxRecDepth 100000 in
set_option maxHeartbeats 4000000 in
theorem right_any (ks : List Int) (l : List (List Int × Int)) (kv lv : Value) (w : World) (v : TVal ks) (hv : IsInts w .i64 kv ks) (hl : IsDms w lv l) (hd : ∀ d ∈ l, isSt ks d.1 = true) :
    Calls Try.prog 83 #[.agg #[kv], lv] w fun e W => e = .returned (.bool (rightB ks l)) ∧ Ext w W := by
  obtain ⟨sa, cap, rfl, h1, h2, -⟩ := hv.spec
  obtain ⟨la, lcap, rfl, h3, h4, -⟩ := hl.spec
  have n1 := v.n1
  have n5 := v.n5
  have HV := Lib.hid hv
  have HL0 := Lib.hid hl
  have V := Lib.hid v
  have HD := Lib.hid hd
  clear hv hl v hd
  go_enter Try.func83, Try.ntmps83
  go_upto_region 1 with (fail)
  obtain ⟨W0, hW0⟩ : ∃ W0, W0 = w.alloc (.cells #[.slice sa ks.length cap] 24) := ⟨_, rfl⟩
  have hE : Ext w W0 := by rw [hW0]; exact (by repeat (first | exact Below.refl _ _ | refine Ext.al ?_ _ | refine Ext.dr ?_ | refine Ext.drN ?_ _ | refine Ext.gr ?_ _ | refine Ext.set ?_ (by simp) _ | (refine Ext.trans' ?_ (by assumption))))
  have k0 : W0.cell? ⟨w.heap.size, 0, none⟩ = some (.slice sa ks.length cap) := by rw [hW0]; simp [go_sem]
  have hz : w.heap.size < W0.heap.size := World.block_lt_of_cell? _ _ k0
  have HS := Lib.hid (HV.out.ext hE)
  have HW := Lib.hid hE
  rw [← hW0]
  clear hW0 HV
  have HL := Lib.hid (HL0.out.ext hE)
  clear hE HL0



  go_wp2_with fail
  go_loopw [12] (fun i W => ∃ k : Nat, k ≤ l.length ∧ i = .int .i64 k ∧ (∀ x ∈ l.take k, okD ks l x = true) ∧ Ext W0 W) (fun i _ => l.length - (intOf i).toNat)
  case atStart => exact ⟨0, by omega, rfl, by simp, Below.refl _ _⟩
  case round =>
    obtain ⟨k, hk, rfl, hno, hE⟩ := hrel
    obtain ⟨gw, rfl⟩ := grow_of hE
    have HNO := Lib.hid hno
    clear hno
    by_cases hlt : k < l.length
    · rcases (HL.out.ext hE).spec with ⟨la', lcap', e, -, -, hcc⟩
      cases e
      rcases hcc with hcc | ⟨b, off, rfl, hcc⟩
      · rw [hcc] at hlt; simp at hlt
      obtain ⟨a0, a1, a2, a3, a4, a5⟩ := hcc k hlt
      have hki : (k : Int) < (l.length : Int) := by omega
      have hst := HD.out l[k] (List.getElem_mem hlt)
      have hrb := fun h => right_bad (ks := ks) hlt h
      have hok : okD ks l l[k] = true → ∀ x ∈ l.take (k + 1), okD ks l x = true := fun h x hx => by
        rw [List.take_add_one, List.getElem?_eq_getElem hlt] at hx
        rcases List.mem_append.1 hx with hx | hx
        · exact HNO.out x hx
        · simp at hx; subst hx; exact h
      obtain ⟨d, hd⟩ : ∃ d, d = l[k] := ⟨_, rfl⟩
      rw [← hd] at a0 a1 a2 a3 a4 a5 hst hrb hok
      obtain ⟨t, left⟩ := d
      simp only at a0 a1 a2 a3 a4 a5 hst
      have hlt5 := isSt_len hst
      have hgb : ∀ i, i < ks.length → 0 ≤ gt t i ∧ gt t i ≤ 1000 := fun i hi => by
        have h1 := isSt_gt hst i hi
        have h2 := V.out.at_ i hi
        unfold gt at h1 ⊢
        omega
      have cp := fun w hs => pulled_any t ks (.slice sa ks.length cap) (.func (.func 71) #[] #[]) allW w hs (all_pulls w) hlt5 n5 hgb
      unfold RetPull at cp
      rw [stV_eq] at cp
      have HST := Lib.hid hst
      have HRB := Lib.hid hrb
      have HOK := Lib.hid hok
      clear hcc hd hst hrb hok hgb hE HNO

      have HEW := Lib.hid (show Ext W0 W0 from Below.refl _ _)


      go_upto_region 4 with (fail)
      obtain ⟨G1, hG1⟩ : ∃ zz9, zz9 = (grow W0 gw).alloc (.cells #[.int .i64 (gt t 0), .int .i64 (gt t 1), .int .i64 (gt t 2), .int .i64 (gt t 3), .int .i64 (gt t 4), .int .i64 left] 100) := ⟨_, rfl⟩
      have e0 : G1.cell? ⟨(grow W0 gw).heap.size, 0, none⟩ = some (.int .i64 (gt t 0)) := by rw [hG1]; simp [go_sem]
      have e1 : G1.cell? ⟨(grow W0 gw).heap.size, 1, none⟩ = some (.int .i64 (gt t 1)) := by rw [hG1]; simp [go_sem]
      have e2 : G1.cell? ⟨(grow W0 gw).heap.size, 2, none⟩ = some (.int .i64 (gt t 2)) := by rw [hG1]; simp [go_sem]
      have e3 : G1.cell? ⟨(grow W0 gw).heap.size, 3, none⟩ = some (.int .i64 (gt t 3)) := by rw [hG1]; simp [go_sem]
      have e4 : G1.cell? ⟨(grow W0 gw).heap.size, 4, none⟩ = some (.int .i64 (gt t 4)) := by rw [hG1]; simp [go_sem]
      have e5 : G1.cell? ⟨(grow W0 gw).heap.size, 5, none⟩ = some (.int .i64 left) := by rw [hG1]; simp [go_sem]
      have eG1 : Ext W0 G1 := by rw [hG1]; exact (by repeat (first | exact Below.refl _ _ | refine Ext.al ?_ _ | refine Ext.dr ?_ | refine Ext.drN ?_ _ | refine Ext.gr ?_ _ | refine Ext.set ?_ (by simp) _ | (refine Ext.trans' ?_ (by assumption))))
      replace k0 := cell_ext eG1 k0
      replace HS := Lib.hid (HS.out.ext eG1)
      replace HL := Lib.hid (HL.out.ext eG1)
      replace HEW := Lib.hid (HEW.out.trans' eG1)
      rw [← hG1]
      obtain ⟨b6, hb6⟩ : ∃ b, b = (grow W0 gw).heap.size := ⟨_, rfl⟩
      rw [← hb6] at e0 e1 e2 e3 e4 e5 ⊢
      replace hz := World.block_lt_of_cell? _ _ k0
      have zb6 := World.block_lt_of_cell? _ _ e0
      simp only at zb6
      clear hG1 eG1 hb6
      cases hf : fullP allW ks t
      · rw [hf, if_neg (by simp), stV_eq] at cp
        have CP := Lib.hid cp
        have HF := Lib.hid hf
        clear cp hf

        go_wp2_with fail
        refine callW (W0 := G1) (g := ⟨G1, Below.refl _ _⟩) (by exact (by repeat (first | exact Below.refl _ _ | refine Ext.al ?_ _ | refine Ext.dr ?_ | refine Ext.drN ?_ _ | refine Ext.gr ?_ _ | refine Ext.set ?_ (by simp) _ | (refine Ext.trans' ?_ (by assumption))))) (CP.out _ (HS.out.ext (by exact (by repeat (first | exact Below.refl _ _ | refine Ext.al ?_ _ | refine Ext.dr ?_ | refine Ext.drN ?_ _ | refine Ext.gr ?_ _ | refine Ext.set ?_ (by simp) _ | (refine Ext.trans' ?_ (by assumption))))))) fun g1 hgr => ?_
        clear hgr
        obtain ⟨x, hx⟩ : ∃ x, x = upP allW t := ⟨_, rfl⟩
        rw [← hx]
        have hxl : x.length = ks.length := by rw [hx, upP_len]; exact hlt5
        have hok2 : okD ks l (t, left) = (List.range ks.length).all fun w => covB l (visit x w) left := by
          unfold okD; rw [HF.out, hx]; rfl
        have HOK2 := Lib.hid hok2
        clear hx hok2
        go_upto_region 5 with (fail)
        obtain ⟨G2, hG2⟩ : ∃ zz9, zz9 = (grow G1 g1).alloc (.cells #[.int .i64 (gt x 0), .int .i64 (gt x 1), .int .i64 (gt x 2), .int .i64 (gt x 3), .int .i64 (gt x 4)] 73) := ⟨_, rfl⟩
        have f0 : G2.cell? ⟨(grow G1 g1).heap.size, 0, none⟩ = some (.int .i64 (gt x 0)) := by rw [hG2]; simp [go_sem]
        have f1 : G2.cell? ⟨(grow G1 g1).heap.size, 1, none⟩ = some (.int .i64 (gt x 1)) := by rw [hG2]; simp [go_sem]
        have f2 : G2.cell? ⟨(grow G1 g1).heap.size, 2, none⟩ = some (.int .i64 (gt x 2)) := by rw [hG2]; simp [go_sem]
        have f3 : G2.cell? ⟨(grow G1 g1).heap.size, 3, none⟩ = some (.int .i64 (gt x 3)) := by rw [hG2]; simp [go_sem]
        have f4 : G2.cell? ⟨(grow G1 g1).heap.size, 4, none⟩ = some (.int .i64 (gt x 4)) := by rw [hG2]; simp [go_sem]
        have eG2 : Ext G1 G2 := by rw [hG2]; exact (by repeat (first | exact Below.refl _ _ | refine Ext.al ?_ _ | refine Ext.dr ?_ | refine Ext.drN ?_ _ | refine Ext.gr ?_ _ | refine Ext.set ?_ (by simp) _ | (refine Ext.trans' ?_ (by assumption))))
        replace k0 := cell_ext eG2 k0
        replace e0 := cell_ext eG2 e0
        replace e1 := cell_ext eG2 e1
        replace e2 := cell_ext eG2 e2
        replace e3 := cell_ext eG2 e3
        replace e4 := cell_ext eG2 e4
        replace e5 := cell_ext eG2 e5
        replace HS := Lib.hid (HS.out.ext eG2)
        replace HL := Lib.hid (HL.out.ext eG2)
        replace HEW := Lib.hid (HEW.out.trans' eG2)
        rw [← hG2]
        obtain ⟨b7, hb7⟩ : ∃ b, b = (grow G1 g1).heap.size := ⟨_, rfl⟩
        rw [← hb7] at f0 f1 f2 f3 f4 ⊢
        replace hz := World.block_lt_of_cell? _ _ k0
        replace zb6 := World.block_lt_of_cell? _ _ e0
        have zb7 := World.block_lt_of_cell? _ _ f0
        simp only at zb7
        clear hG2 eG2 hb7
        go_wp2_with fail
        go_loopw [28] (fun i W => ∃ j : Nat, j ≤ ks.length ∧ i = .int .i64 j ∧ (∀ m, m < j → covB l (visit x m) left = true) ∧ Ext G2 W) (fun i _ => ks.length - (intOf i).toNat)
        case atStart => exact ⟨0, by omega, rfl, by omega, Below.refl _ _⟩
        case round =>
          obtain ⟨j, hj, rfl, hall, hE⟩ := hrel
          have HALL := Lib.hid hall
          clear hall
          by_cases hjl : j < ks.length
          · have hj5 : j < 5 := by omega
            have cvi := fun W => visited_any x j W hj5
            have cco := fun W hl => covered_any (visit x j) left l (.slice (some ⟨b, off, none⟩) l.length lcap) W hl (by rw [visit_len]; omega) (fun d hd => by rw [visit_len, hxl]; exact isSt_len (HD.out d hd))
            simp only [stV_eq] at cvi cco
            obtain ⟨ob, hob⟩ : ∃ ob, ob = covB l (visit x j) left := ⟨_, rfl⟩
            rw [← hob] at cco
            have CVI := Lib.hid cvi
            have CCO := Lib.hid cco
            have HOB := Lib.hid hob
            clear cvi cco hob
            have hji : (j : Int) < (ks.length : Int) := by omega
            have HLW := Lib.hid (HL.out.ext hE)
            have HEW2 := Lib.hid (HEW.out.trans' hE)
            have m0 := cell_ext hE f0
            have m1 := cell_ext hE f1
            have m2 := cell_ext hE f2
            have m3 := cell_ext hE f3
            have m4 := cell_ext hE f4
            have m5 := cell_ext hE e5
            have y6 := World.block_lt_of_cell? _ _ m5
            have y7 := World.block_lt_of_cell? _ _ m0
            simp only at y6 y7
            have HE := Lib.hid hE
            clear hE
            go_upto_region 9 with (fail)
            refine wp_region_rove (wr.heap.size) (Nat.le_refl _)
              [sqV (.slice (some ⟨b, off, none⟩) l.length lcap),
               sqV (.agg #[.int .i64 (gt x 0), .int .i64 (gt x 1), .int .i64 (gt x 2), .int .i64 (gt x 3), .int .i64 (gt x 4)]),
               sqV (.int .i64 j),
               sqV (.agg #[.int .i64 (gt (visit x j) 0), .int .i64 (gt (visit x j) 1), .int .i64 (gt (visit x j) 2), .int .i64 (gt (visit x j) 3), .int .i64 (gt (visit x j) 4)]),
               sqV (.pointer (some ⟨b6, 5, none⟩)),
               sqV (.int .i64 left),
               sqV (.bool ob),
               sqV (.bool (!ob))]
              [true, true, true, true, true, true, true, true] [false, false, false, false, false, false, false, false] [true, true, true, true, true, true, true, true] [true, true, true, true, true, true, true, true]
              (by kernel_rfl) (by kernel_rfl) (by decide +kernel) (by decide +kernel) (by decide +kernel) rfl ⟨rfl, rfl⟩ ⟨?s0, ?s1, ?s2, ?s3, ?s4, ?s5, ?s6, ?s7, trivial⟩ [some 31, some 32, some 33, some 34, some 35, some 36, some 37, some 38] rfl rfl ?send
            case s0 =>
              intro val ρ W hE hz hd hA hx
              have o0 : ρ (.tmp 1) = .slice (some ⟨b, off, none⟩) l.length lcap := hA.old 1 (by decide)
              clear hd
              exact runq_val (W' := W) (by simp [execOp, o0, go_sem]) (Below.refl _ _) rfl
            case s1 =>
              intro val ρ W hE hz hd hA hx
              have o0 : ρ (.tmp 7) = .pointer (some ⟨b7, 0, none⟩) := hA.old 7 (by decide)
              have f_m0 := cell_below hE (by simp only; omega) m0
              have f_m1 := cell_below hE (by simp only; omega) m1
              have f_m2 := cell_below hE (by simp only; omega) m2
              have f_m3 := cell_below hE (by simp only; omega) m3
              have f_m4 := cell_below hE (by simp only; omega) m4
              clear hd
              exact runq_val (W' := W) (by simp [execOp, o0, f_m0, f_m1, f_m2, f_m3, f_m4, go_sem]) (Below.refl _ _) rfl
            case s2 =>
              intro val ρ W hE hz hd hA hx
              have o0 : ρ (.tmp 9) = .int .i64 j := hA.old 9 (by decide)
              clear hd
              exact runq_val (W' := W) (by simp [execOp, o0, go_sem]) (Below.refl _ _) rfl
            case s3 =>
              intro val ρ W hE hz hd hA hx
              have d1 : ρ (.tmp 32) = .agg #[.int .i64 (gt x 0), .int .i64 (gt x 1), .int .i64 (gt x 2), .int .i64 (gt x 3), .int .i64 (gt x 4)] := (hA.dep 1 (by decide) 32 rfl).trans (hd 1 (by decide))
              have d2 : ρ (.tmp 33) = .int .i64 j := (hA.dep 2 (by decide) 33 rfl).trans (hd 2 (by decide))
              clear hd
              refine runq_call 67 _ _ rfl #[.agg #[.int .i64 (gt x 0), .int .i64 (gt x 1), .int .i64 (gt x 2), .int .i64 (gt x 3), .int .i64 (gt x 4)], .int .i64 j] (hA.func _) (by simp [d1, d2]) (fun args W => Try.call67 args W) ((CVI.out W).mono ?_)
              rintro e w' ⟨rfl, hb⟩
              exact ⟨_, rfl, hb, rfl⟩
            case s4 =>
              intro val ρ W hE hz hd hA hx
              have o0 : ρ (.tmp 6) = .pointer (some ⟨b6, 0, none⟩) := hA.old 6 (by decide)
              clear hd
              exact runq_val (W' := W) (by simp [execOp, o0, go_sem]) (Below.refl _ _) rfl
            case s5 =>
              intro val ρ W hE hz hd hA hx
              have d4 : ρ (.tmp 35) = .pointer (some ⟨b6, 5, none⟩) := (hA.dep 4 (by decide) 35 rfl).trans (hd 4 (by decide))
              have f_m5 := cell_below hE (by simp only; omega) m5
              clear hd
              exact runq_val (W' := W) (by simp [execOp, d4, f_m5, go_sem]) (Below.refl _ _) rfl
            case s6 =>
              intro val ρ W hE hz hd hA hx
              have d0 : ρ (.tmp 31) = .slice (some ⟨b, off, none⟩) l.length lcap := (hA.dep 0 (by decide) 31 rfl).trans (hd 0 (by decide))
              have d3 : ρ (.tmp 34) = .agg #[.int .i64 (gt (visit x j) 0), .int .i64 (gt (visit x j) 1), .int .i64 (gt (visit x j) 2), .int .i64 (gt (visit x j) 3), .int .i64 (gt (visit x j) 4)] := (hA.dep 3 (by decide) 34 rfl).trans (hd 3 (by decide))
              have d5 : ρ (.tmp 36) = .int .i64 left := (hA.dep 5 (by decide) 36 rfl).trans (hd 5 (by decide))
              clear hd
              refine runq_call 84 _ _ rfl #[.slice (some ⟨b, off, none⟩) l.length lcap, .agg #[.int .i64 (gt (visit x j) 0), .int .i64 (gt (visit x j) 1), .int .i64 (gt (visit x j) 2), .int .i64 (gt (visit x j) 3), .int .i64 (gt (visit x j) 4)], .int .i64 left] (hA.func _) (by simp [d0, d3, d5]) (fun args W => Try.call84 args W) ((CCO.out W (HLW.out.ext hE)).mono ?_)
              rintro e w' ⟨rfl, hb⟩
              exact ⟨_, rfl, hb, rfl⟩
            case s7 =>
              intro val ρ W hE hz hd hA hx
              have d6 : ρ (.tmp 37) = .bool ob := (hA.dep 6 (by decide) 37 rfl).trans (hd 6 (by decide))
              clear hd
              exact runq_val (W' := W) (by simp [execOp, d6, go_sem]) (Below.refl _ _) rfl
            case send =>
              intro val WW hE hzz hv
              obtain ⟨r0, r1, r2, r3, r4, r5, r6, r7, -⟩ := hv
              have q0 : val 0 = .slice (some ⟨b, off, none⟩) l.length lcap := r0
              have q1 : val 1 = .agg #[.int .i64 (gt x 0), .int .i64 (gt x 1), .int .i64 (gt x 2), .int .i64 (gt x 3), .int .i64 (gt x 4)] := r1
              have q2 : val 2 = .int .i64 j := r2
              have q3 : val 3 = .agg #[.int .i64 (gt (visit x j) 0), .int .i64 (gt (visit x j) 1), .int .i64 (gt (visit x j) 2), .int .i64 (gt (visit x j) 3), .int .i64 (gt (visit x j) 4)] := r3
              have q4 : val 4 = .pointer (some ⟨b6, 5, none⟩) := r4
              have q5 : val 5 = .int .i64 left := r5
              have q6 : val 6 = .bool ob := r6
              have q7 : val 7 = .bool (!ob) := r7
              clear r0 r1 r2 r3 r4 r5 r6 r7
              obtain ⟨g99, rfl⟩ := grow_of hE
              clear hE hzz
              simp only [putD, q0, q1, q2, q3, q4, q5, q6, q7]
              go_frame
              clear q0 q1 q2 q3 q4 q5 q6 q7
              cases ob
              · have hfin : rightB ks l = false := HRB.out (by
                  rw [HOK2.out]
                  cases e : (List.range ks.length).all fun w => covB l (visit x w) left with
                  | false => rfl
                  | true =>
                    have := List.all_eq_true.1 e j (by simpa using hjl)
                    rw [← HOB.out] at this; cases this)
                have HFIN := Lib.hid hfin
                clear hfin
                go_wp2_with fail
                go_ret
                exact ⟨ret_bool HFIN.out.symm, HW.out.trans' (HEW2.out.trans' (grow_below wr g99))⟩
              · go_wp2_with fail
                go_roundw
                case rel =>
                  refine ⟨j + 1, by omega, by go_num, fun m hm => ?_, HE.out.trans' (grow_below wr g99)⟩
                  by_cases e : m = j
                  · subst e; exact HOB.out.symm
                  · exact HALL.out m (by omega)
                case measure => simp [intOf]; omega
          · obtain rfl : j = ks.length := by omega
            have hfin : okD ks l (t, left) = true := by rw [HOK2.out, List.all_eq_true]; exact fun m hm => HALL.out m (by simpa using hm)
            have HFIN := Lib.hid (HOK.out hfin)
            clear hfin
            go_wp2_with fail
            go_roundw
            case rel => exact ⟨k + 1, by omega, by go_num, HFIN.out, HEW.out.trans' hE⟩
            case measure => simp [intOf]; omega

      · rw [hf, if_pos rfl, stV_eq] at cp
        have CP := Lib.hid cp
        have HF := Lib.hid hf
        clear cp hf

        go_wp2_with fail
        refine callW (W0 := G1) (g := ⟨G1, Below.refl _ _⟩) (by exact (by repeat (first | exact Below.refl _ _ | refine Ext.al ?_ _ | refine Ext.dr ?_ | refine Ext.drN ?_ _ | refine Ext.gr ?_ _ | refine Ext.set ?_ (by simp) _ | (refine Ext.trans' ?_ (by assumption))))) (CP.out _ (HS.out.ext (by exact (by repeat (first | exact Below.refl _ _ | refine Ext.al ?_ _ | refine Ext.dr ?_ | refine Ext.drN ?_ _ | refine Ext.gr ?_ _ | refine Ext.set ?_ (by simp) _ | (refine Ext.trans' ?_ (by assumption))))))) fun g2 hgr => ?_
        clear hgr
        go_wp2_with fail
        go_roundw
        case rel => exact ⟨k + 1, by omega, by go_num, HOK.out (by unfold okD; rw [HF.out]; rfl), HEW.out.trans' (Ext.trans' (grow_below G1 _) (by repeat (first | exact Below.refl _ _ | refine Ext.al ?_ _ | refine Ext.dr ?_ | refine Ext.drN ?_ _ | refine Ext.gr ?_ _ | refine Ext.set ?_ (by simp) _ | (refine Ext.trans' ?_ (by assumption)))))⟩
        case measure => simp [intOf]; omega



    · obtain rfl : k = l.length := by omega
      have hfin : rightB ks l = true := List.all_eq_true.2 fun x hx => HNO.out x (by rw [List.take_length]; exact hx)
      have HF := Lib.hid hfin
      clear hfin
      go_wp2_with fail
      go_ret
      exact ⟨ret_bool HF.out.symm, HW.out.trans' hE⟩
end Go.Proofs.Ytndgaklcnhoddaa
namespace Go.Proofs.Ytndgaklcnhoddaa
open Go.RowKit Go.Shelf
/-- a slice of steps -/
def IsStps (w : World) (v : Value) (l : List (List Int × Int)) : Prop := ∃ sa cap, v = .slice sa l.length cap ∧ l.length ≤ cap ∧ cap ≤ 9223372036854775807 ∧ (l = [] ∨ ∃ b off, sa = some ⟨b, off, none⟩ ∧ ∀ i, (h : i < l.length) →
  ∃ xa xc, w.cell? ⟨b, off + i * 2, none⟩ = some (.slice xa (l[i]).1.length xc) ∧ IsInts w .i64 (.slice xa (l[i]).1.length xc) (l[i]).1 ∧ w.cell? ⟨b, off + i * 2 + 1, none⟩ = some (.int .i64 (l[i]).2))
theorem IsStps.ext {w w' : World} (e : Ext w w') {v : Value} {l : List (List Int × Int)} (h : IsStps w v l) : IsStps w' v l := by
  obtain ⟨sa, cap, h1, h2, h3, h4⟩ := h
  refine ⟨sa, cap, h1, h2, h3, ?_⟩
  rcases h4 with h4 | ⟨b, off, e', h4⟩
  · exact .inl h4
  · refine .inr ⟨b, off, e', fun i hi => ?_⟩
    obtain ⟨xa, xc, a, c, d⟩ := h4 i hi
    exact ⟨xa, xc, cell_ext e a, c.ext e, cell_ext e d⟩
/-- is a step one? -/
def badStp (ks : List Int) (x : List Int × Int) : Bool := decide (stErr ks x.1 ≠ 0) || decide (x.2 < 1) || decide (1099511627776 < x.2)
theorem stp_bad {ks s : List Int} {l : List (List Int × Int)} {k : Nat} (hk : k < l.length) (h0 : stErr ks s = 0) (h1 : ¬ 1000 < l.length) (h : badStp ks l[k] = true) : doomErr ks s l = 3 := by
  unfold doomErr
  rw [if_neg (fun e => e h0), if_neg h1]
  exact if_pos (List.any_eq_true.2 ⟨l[k], List.getElem_mem hk, h⟩)
theorem elDm : El 98 100 6 := El.mk' (bytes := 48) (z := dV ([], 0)) (by kernel_rfl) (by kernel_rfl) rfl (by omega) (by omega)
set_option maxRecDepth 100000 in
set_option maxHeartbeats 4000000 in
theorem checkDoom_any (ks s : List Int) (l : List (List Int × Int)) (kv sv lv : Value) (w : World) (hv : IsInts w .i64 kv ks) (hs : IsInts w .i64 sv s) (hl : IsStps w lv l) :
    Calls Try.prog 36 #[.agg #[kv], sv, lv] w fun e W => e = .returned (.int .i64 (doomErr ks s l)) ∧ Ext w W := by
  obtain ⟨sa, cap, rfl, h1, h2, -⟩ := hv.spec
  obtain ⟨ra, rcap, rfl, h3, h4, -⟩ := hs.spec
  have hlc := hl
  obtain ⟨la, lcap, rfl, h5, h6, -⟩ := hlc
  have HV := Lib.hid hv
  have HP0 := Lib.hid hs
  have HL0 := Lib.hid hl
  clear hv hs hl
  go_enter Try.func36, Try.ntmps36
  go_upto_region 1 with (fail)
  obtain ⟨W0, hW0⟩ : ∃ W0, W0 = w.alloc (.cells #[.slice sa ks.length cap] 24) := ⟨_, rfl⟩
  have hE : Ext w W0 := by rw [hW0]; exact (by repeat (first | exact Below.refl _ _ | refine Ext.al ?_ _ | refine Ext.dr ?_ | refine Ext.drN ?_ _ | refine Ext.gr ?_ _ | refine Ext.set ?_ (by simp) _ | (refine Ext.trans' ?_ (by assumption))))
  have k0 : W0.cell? ⟨w.heap.size, 0, none⟩ = some (.slice sa ks.length cap) := by rw [hW0]; simp [go_sem]
  have hz : w.heap.size < W0.heap.size := World.block_lt_of_cell? _ _ k0
  have HS := Lib.hid (HV.out.ext hE)
  have HW := Lib.hid hE
  rw [← hW0]
  clear hW0 HV
  have HP := Lib.hid (HP0.out.ext hE)
  have HL := Lib.hid (HL0.out.ext hE)
  clear hE HL0 HP0



  have c1 := fun w hs hl => stated_any ks s (.slice sa ks.length cap) (.slice ra s.length rcap) w hs hl
  unfold RetStated at c1
  by_cases hst : stErr ks s = 0
  rotate_left
  · rw [if_neg hst] at c1
    rw [stV_eq] at c1
    have e1 : (stErr ks s == 0) = false := by simpa using hst
    have e2 : (stErr ks s != 0) = true := by simpa using hst
    have C1 := Lib.hid c1
    have HST := Lib.hid hst
    clear c1 hst

    go_wp2_with fail
    refine callW (W0 := W0) (g := ⟨W0, Below.refl _ _⟩) (by exact (by repeat (first | exact Below.refl _ _ | refine Ext.al ?_ _ | refine Ext.dr ?_ | refine Ext.drN ?_ _ | refine Ext.gr ?_ _ | refine Ext.set ?_ (by simp) _ | (refine Ext.trans' ?_ (by assumption))))) (C1.out _ (HS.out.ext (by exact (by repeat (first | exact Below.refl _ _ | refine Ext.al ?_ _ | refine Ext.dr ?_ | refine Ext.drN ?_ _ | refine Ext.gr ?_ _ | refine Ext.set ?_ (by simp) _ | (refine Ext.trans' ?_ (by assumption)))))) (HP.out.ext (by exact (by repeat (first | exact Below.refl _ _ | refine Ext.al ?_ _ | refine Ext.dr ?_ | refine Ext.drN ?_ _ | refine Ext.gr ?_ _ | refine Ext.set ?_ (by simp) _ | (refine Ext.trans' ?_ (by assumption))))))) fun g1 hgr => ?_
    clear hgr
    go_wp2_with fail
    go_ret
    exact ⟨ret_int (by unfold doomErr; rw [if_pos HST.out]), HW.out.trans' (Ext.trans' (grow_below W0 g1) (by repeat (first | exact Below.refl _ _ | refine Ext.al ?_ _ | refine Ext.dr ?_ | refine Ext.drN ?_ _ | refine Ext.gr ?_ _ | refine Ext.set ?_ (by simp) _ | (refine Ext.trans' ?_ (by assumption)))))⟩

  · rw [if_pos hst, hst] at c1
    rw [stV_eq] at c1
    obtain ⟨v, hsi⟩ := stErr_ok hst
    have n1 := v.n1
    have n5 := v.n5
    have HS5 := Lib.hid (isSt_len hsi)
    have C1 := Lib.hid c1
    have HST := Lib.hid hst
    have V := Lib.hid v
    clear c1 hst v hsi

    go_wp2_with fail
    refine callW (W0 := W0) (g := ⟨W0, Below.refl _ _⟩) (by exact (by repeat (first | exact Below.refl _ _ | refine Ext.al ?_ _ | refine Ext.dr ?_ | refine Ext.drN ?_ _ | refine Ext.gr ?_ _ | refine Ext.set ?_ (by simp) _ | (refine Ext.trans' ?_ (by assumption))))) (C1.out _ (HS.out.ext (by exact (by repeat (first | exact Below.refl _ _ | refine Ext.al ?_ _ | refine Ext.dr ?_ | refine Ext.drN ?_ _ | refine Ext.gr ?_ _ | refine Ext.set ?_ (by simp) _ | (refine Ext.trans' ?_ (by assumption)))))) (HP.out.ext (by exact (by repeat (first | exact Below.refl _ _ | refine Ext.al ?_ _ | refine Ext.dr ?_ | refine Ext.drN ?_ _ | refine Ext.gr ?_ _ | refine Ext.set ?_ (by simp) _ | (refine Ext.trans' ?_ (by assumption))))))) fun g2 hgr => ?_
    clear hgr
    go_upto_region 2 with (fail)
    obtain ⟨G0, hG0⟩ : ∃ zz9, zz9 = (grow W0 g2).alloc (.cells #[.int .i64 (gt s 0), .int .i64 (gt s 1), .int .i64 (gt s 2), .int .i64 (gt s 3), .int .i64 (gt s 4)] 73) := ⟨_, rfl⟩
    have e0 : G0.cell? ⟨(grow W0 g2).heap.size, 0, none⟩ = some (.int .i64 (gt s 0)) := by rw [hG0]; simp [go_sem]
    have e1 : G0.cell? ⟨(grow W0 g2).heap.size, 1, none⟩ = some (.int .i64 (gt s 1)) := by rw [hG0]; simp [go_sem]
    have e2 : G0.cell? ⟨(grow W0 g2).heap.size, 2, none⟩ = some (.int .i64 (gt s 2)) := by rw [hG0]; simp [go_sem]
    have e3 : G0.cell? ⟨(grow W0 g2).heap.size, 3, none⟩ = some (.int .i64 (gt s 3)) := by rw [hG0]; simp [go_sem]
    have e4 : G0.cell? ⟨(grow W0 g2).heap.size, 4, none⟩ = some (.int .i64 (gt s 4)) := by rw [hG0]; simp [go_sem]
    have eG0 : Ext W0 G0 := by rw [hG0]; exact (by repeat (first | exact Below.refl _ _ | refine Ext.al ?_ _ | refine Ext.dr ?_ | refine Ext.drN ?_ _ | refine Ext.gr ?_ _ | refine Ext.set ?_ (by simp) _ | (refine Ext.trans' ?_ (by assumption))))
    replace k0 := cell_ext eG0 k0
    replace HS := Lib.hid (HS.out.ext eG0)
    replace HP := Lib.hid (HP.out.ext eG0)
    replace HL := Lib.hid (HL.out.ext eG0)
    replace HW := Lib.hid (HW.out.trans' eG0)
    rw [← hG0]
    obtain ⟨b7, hb7⟩ : ∃ b, b = (grow W0 g2).heap.size := ⟨_, rfl⟩
    rw [← hb7] at e0 e1 e2 e3 e4 ⊢
    replace hz := World.block_lt_of_cell? _ _ k0
    have zb7 := World.block_lt_of_cell? _ _ e0
    simp only at zb7
    clear hG0 eG0 hb7
    by_cases hl1 : 1000 < l.length
    · have hl2 : decide ((1000 : Int) < (l.length : Int)) = true := decide_eq_true (by omega)
      have HL1 := Lib.hid hl1
      clear hl1
      go_wp2_with fail
      go_ret
      exact ⟨ret_int (by unfold doomErr; rw [if_neg (fun h => h HST.out), if_pos HL1.out]), HW.out⟩
    have hl2 : decide ((1000 : Int) < (l.length : Int)) = false := decide_eq_false (by omega)
    have HL1 := Lib.hid hl1
    have hl1' : l.length ≤ 1000 := by omega
    clear hl1
    go_wp2_with fail
    go_loopw [9, 30] (fun a i W => ∃ k : Nat, k ≤ l.length ∧ i = .int .i64 k ∧ (∀ x ∈ l.take k, badStp ks x = false) ∧ Ext G0 W ∧ Owns W G0.heap.size 100 6 a ((l.take k).map dCells)) (fun _ i _ => l.length - (intOf i).toNat)
    case atStart => exact ⟨0, by omega, rfl, by simp, Below.refl _ _, Owns.nil _ _ _ _⟩
    case round =>
      obtain ⟨k, hk, rfl, hno, hE, hown⟩ := hrel
      obtain ⟨oa, on, oc, rfl⟩ := hown.isSlice
      have HNO := Lib.hid hno
      have HO := Lib.hid hown
      clear hno hown
      by_cases hlt : k < l.length
      · obtain ⟨_, _, e, _, _, hcc⟩ := (HL.out.ext hE : IsStps _ _ _)
        cases e
        rcases hcc with hcc | ⟨b, off, rfl, hcc⟩
        · rw [hcc] at hlt; simp at hlt
        obtain ⟨xa, xc, q0, hqi, q1⟩ := hcc k hlt
        have hki : (k : Int) < (l.length : Int) := by omega
        have hbad := fun h => stp_bad (ks := ks) (s := s) hlt HST.out HL1.out h
        have hgood : badStp ks l[k] = false → ∀ x ∈ l.take (k + 1), badStp ks x = false := fun h x hx => by
          rw [List.take_add_one, List.getElem?_eq_getElem hlt] at hx
          rcases List.mem_append.1 hx with hx | hx
          · exact HNO.out x hx
          · simp at hx; subst hx; exact h
        have htk : l.take (k + 1) = l.take k ++ [l[k]] := by rw [List.take_add_one, List.getElem?_eq_getElem hlt]; rfl
        obtain ⟨d, hd⟩ : ∃ d, d = l[k] := ⟨_, rfl⟩
        rw [← hd] at q0 q1 hqi hbad hgood htk
        obtain ⟨t, left⟩ := d
        simp only at q0 q1 hqi
        have HQ := Lib.hid hqi
        have HBAD := Lib.hid hbad
        have HGOOD := Lib.hid hgood
        have HTK := Lib.hid htk
        obtain ⟨gw, rfl⟩ := grow_of hE
        have HEW := Lib.hid (show Ext G0 G0 from Below.refl _ _)
        clear hcc hd hqi hbad hgood hE HNO htk




        go_upto_region 10 with (fail)
        obtain ⟨G1, hG1⟩ : ∃ zz9, zz9 = (grow G0 gw).alloc (.cells #[.slice xa t.length xc, .int .i64 left] 43) := ⟨_, rfl⟩
        have p0 : G1.cell? ⟨(grow G0 gw).heap.size, 0, none⟩ = some (.slice xa t.length xc) := by rw [hG1]; simp [go_sem]
        have p1 : G1.cell? ⟨(grow G0 gw).heap.size, 1, none⟩ = some (.int .i64 left) := by rw [hG1]; simp [go_sem]
        have eG1 : Ext G0 G1 := by rw [hG1]; exact (by repeat (first | exact Below.refl _ _ | refine Ext.al ?_ _ | refine Ext.dr ?_ | refine Ext.drN ?_ _ | refine Ext.gr ?_ _ | refine Ext.set ?_ (by simp) _ | (refine Ext.trans' ?_ (by assumption))))
        have eG1c : Ext (grow G0 gw) G1 := by rw [hG1]; exact (by repeat (first | exact Below.refl _ _ | refine Ext.al ?_ _ | refine Ext.dr ?_ | refine Ext.drN ?_ _ | refine Ext.gr ?_ _ | refine Ext.set ?_ (by simp) _ | (refine Ext.trans' ?_ (by assumption))))
        replace k0 := cell_ext eG1 k0
        replace e0 := cell_ext eG1 e0
        replace e1 := cell_ext eG1 e1
        replace e2 := cell_ext eG1 e2
        replace e3 := cell_ext eG1 e3
        replace e4 := cell_ext eG1 e4
        replace HS := Lib.hid (HS.out.ext eG1)
        replace HP := Lib.hid (HP.out.ext eG1)
        replace HL := Lib.hid (HL.out.ext eG1)
        replace HO := Lib.hid (HO.out.ext eG1c)
        replace HQ := Lib.hid (HQ.out.ext eG1c)
        replace HEW := Lib.hid (HEW.out.trans' eG1)
        rw [← hG1]
        obtain ⟨b11, hb11⟩ : ∃ b, b = (grow G0 gw).heap.size := ⟨_, rfl⟩
        rw [← hb11] at p0 p1 ⊢
        replace hz := World.block_lt_of_cell? _ _ k0
        replace zb7 := World.block_lt_of_cell? _ _ e0
        have zb11 := World.block_lt_of_cell? _ _ p0
        simp only at zb11
        clear hG1 eG1 eG1c hb11
        have c2 := fun w hs hl => stated_any ks t (.slice sa ks.length cap) (.slice xa t.length xc) w hs hl
        unfold RetStated at c2
        by_cases ht : stErr ks t = 0
        · rw [if_pos ht, ht] at c2
          rw [stV_eq] at c2
          have C2 := Lib.hid c2
          have HT := Lib.hid ht
          clear c2 ht

          go_wp2_with fail
          refine callW (W0 := G1) (g := ⟨G1, Below.refl _ _⟩) (by exact (by repeat (first | exact Below.refl _ _ | refine Ext.al ?_ _ | refine Ext.dr ?_ | refine Ext.drN ?_ _ | refine Ext.gr ?_ _ | refine Ext.set ?_ (by simp) _ | (refine Ext.trans' ?_ (by assumption))))) (C2.out _ (HS.out.ext (by exact (by repeat (first | exact Below.refl _ _ | refine Ext.al ?_ _ | refine Ext.dr ?_ | refine Ext.drN ?_ _ | refine Ext.gr ?_ _ | refine Ext.set ?_ (by simp) _ | (refine Ext.trans' ?_ (by assumption)))))) (HQ.out.ext (by exact (by repeat (first | exact Below.refl _ _ | refine Ext.al ?_ _ | refine Ext.dr ?_ | refine Ext.drN ?_ _ | refine Ext.gr ?_ _ | refine Ext.set ?_ (by simp) _ | (refine Ext.trans' ?_ (by assumption))))))) fun g3 hgr => ?_
          clear hgr
          go_upto_region 11 with (fail)
          obtain ⟨G2, hG2⟩ : ∃ zz9, zz9 = (grow G1 g3).alloc (.cells #[.int .i64 (gt t 0), .int .i64 (gt t 1), .int .i64 (gt t 2), .int .i64 (gt t 3), .int .i64 (gt t 4)] 73) := ⟨_, rfl⟩
          have y0 : G2.cell? ⟨(grow G1 g3).heap.size, 0, none⟩ = some (.int .i64 (gt t 0)) := by rw [hG2]; simp [go_sem]
          have y1 : G2.cell? ⟨(grow G1 g3).heap.size, 1, none⟩ = some (.int .i64 (gt t 1)) := by rw [hG2]; simp [go_sem]
          have y2 : G2.cell? ⟨(grow G1 g3).heap.size, 2, none⟩ = some (.int .i64 (gt t 2)) := by rw [hG2]; simp [go_sem]
          have y3 : G2.cell? ⟨(grow G1 g3).heap.size, 3, none⟩ = some (.int .i64 (gt t 3)) := by rw [hG2]; simp [go_sem]
          have y4 : G2.cell? ⟨(grow G1 g3).heap.size, 4, none⟩ = some (.int .i64 (gt t 4)) := by rw [hG2]; simp [go_sem]
          have eG2 : Ext G1 G2 := by rw [hG2]; exact (by repeat (first | exact Below.refl _ _ | refine Ext.al ?_ _ | refine Ext.dr ?_ | refine Ext.drN ?_ _ | refine Ext.gr ?_ _ | refine Ext.set ?_ (by simp) _ | (refine Ext.trans' ?_ (by assumption))))
          replace k0 := cell_ext eG2 k0
          replace e0 := cell_ext eG2 e0
          replace e1 := cell_ext eG2 e1
          replace e2 := cell_ext eG2 e2
          replace e3 := cell_ext eG2 e3
          replace e4 := cell_ext eG2 e4
          replace p0 := cell_ext eG2 p0
          replace p1 := cell_ext eG2 p1
          replace HS := Lib.hid (HS.out.ext eG2)
          replace HP := Lib.hid (HP.out.ext eG2)
          replace HL := Lib.hid (HL.out.ext eG2)
          replace HO := Lib.hid (HO.out.ext eG2)
          replace HQ := Lib.hid (HQ.out.ext eG2)
          replace HEW := Lib.hid (HEW.out.trans' eG2)
          rw [← hG2]
          obtain ⟨b12, hb12⟩ : ∃ b, b = (grow G1 g3).heap.size := ⟨_, rfl⟩
          rw [← hb12] at y0 y1 y2 y3 y4 ⊢
          replace hz := World.block_lt_of_cell? _ _ k0
          replace zb7 := World.block_lt_of_cell? _ _ e0
          replace zb11 := World.block_lt_of_cell? _ _ p0
          have zb12 := World.block_lt_of_cell? _ _ y0
          simp only at zb12
          clear hG2 eG2 hb12
          by_cases hb1 : left < 1
          · have f1 : decide (left < 1) = true := decide_eq_true hb1
            have HFIN := Lib.hid (HBAD.out (by unfold badStp; simp [hb1]))
            clear hb1
            go_wp2_with fail
            go_ret
            exact ⟨ret_int HFIN.out.symm, HW.out.trans' (HEW.out.trans' (by repeat (first | exact Below.refl _ _ | refine Ext.al ?_ _ | refine Ext.dr ?_ | refine Ext.drN ?_ _ | refine Ext.gr ?_ _ | refine Ext.set ?_ (by simp) _ | (refine Ext.trans' ?_ (by assumption)))))⟩
          have f1 : decide (left < 1) = false := decide_eq_false hb1
          by_cases hb2 : 1099511627776 < left
          · have f2 : decide (1099511627776 < left) = true := decide_eq_true hb2
            have HFIN := Lib.hid (HBAD.out (by unfold badStp; simp [hb2]))
            clear hb1 hb2
            go_wp2_with fail
            go_ret
            exact ⟨ret_int HFIN.out.symm, HW.out.trans' (HEW.out.trans' (by repeat (first | exact Below.refl _ _ | refine Ext.al ?_ _ | refine Ext.dr ?_ | refine Ext.drN ?_ _ | refine Ext.gr ?_ _ | refine Ext.set ?_ (by simp) _ | (refine Ext.trans' ?_ (by assumption)))))⟩
          have f2 : decide (1099511627776 < left) = false := decide_eq_false hb2
          have HG := Lib.hid (HGOOD.out (by unfold badStp; simp [HT.out, hb1, hb2]))
          clear hb1 hb2
          have hsz := HEW.out.size
          go_wp2_with (at_builtin; refine wpOwn rfl (.tmp 53) (.tmp 58) elDm rfl G0.heap.size rfl (HO.out.ext (by exact (by repeat (first | exact Below.refl _ _ | refine Ext.al ?_ _ | refine Ext.dr ?_ | refine Ext.drN ?_ _ | refine Ext.gr ?_ _ | refine Ext.set ?_ (by simp) _ | (refine Ext.trans' ?_ (by assumption)))))) G2.heap.size 0 1 [dCells (t, left)] rfl (by simp [dCells]) (newRow _ (dCells (t, left)) _) (by simp [dCells, Value.oneCell']) (by simp; omega) (by simp; omega) ?_)
          intro v' w' hown' hbel
          obtain ⟨va, vn, vc, rfl⟩ := hown'.isSlice
          have HO2 := Lib.hid hown'
          have HB2 := Lib.hid hbel
          clear hown' hbel
          go_wp2_with fail
          go_roundw
          case rel =>
            refine ⟨k + 1, by omega, by go_num, HG.out, (show Ext G0 _ from HEW.out.trans' (by repeat (first | exact Below.refl _ _ | refine Ext.al ?_ _ | refine Ext.dr ?_ | refine Ext.drN ?_ _ | refine Ext.gr ?_ _ | refine Ext.set ?_ (by simp) _ | (refine Ext.trans' ?_ (by assumption))))).trans HB2.out, ?_⟩
            rw [HTK.out, List.map_append, List.map_take]
            exact HO2.out
          case measure => simp [intOf]; omega

        · rw [if_neg ht] at c2
          rw [stV_eq] at c2
          have e1 : (stErr ks t == 0) = false := by simpa using ht
          have e2 : (stErr ks t != 0) = true := by simpa using ht
          have HFIN := Lib.hid (HBAD.out (by unfold badStp; simp [ht]))
          have C2 := Lib.hid c2
          clear c2 ht

          go_wp2_with fail
          refine callW (W0 := G1) (g := ⟨G1, Below.refl _ _⟩) (by exact (by repeat (first | exact Below.refl _ _ | refine Ext.al ?_ _ | refine Ext.dr ?_ | refine Ext.drN ?_ _ | refine Ext.gr ?_ _ | refine Ext.set ?_ (by simp) _ | (refine Ext.trans' ?_ (by assumption))))) (C2.out _ (HS.out.ext (by exact (by repeat (first | exact Below.refl _ _ | refine Ext.al ?_ _ | refine Ext.dr ?_ | refine Ext.drN ?_ _ | refine Ext.gr ?_ _ | refine Ext.set ?_ (by simp) _ | (refine Ext.trans' ?_ (by assumption)))))) (HQ.out.ext (by exact (by repeat (first | exact Below.refl _ _ | refine Ext.al ?_ _ | refine Ext.dr ?_ | refine Ext.drN ?_ _ | refine Ext.gr ?_ _ | refine Ext.set ?_ (by simp) _ | (refine Ext.trans' ?_ (by assumption))))))) fun g4 hgr => ?_
          clear hgr
          go_wp2_with fail
          go_ret
          exact ⟨ret_int HFIN.out.symm, HW.out.trans' (HEW.out.trans' (Ext.trans' (grow_below G1 _) (by repeat (first | exact Below.refl _ _ | refine Ext.al ?_ _ | refine Ext.dr ?_ | refine Ext.drN ?_ _ | refine Ext.gr ?_ _ | refine Ext.set ?_ (by simp) _ | (refine Ext.trans' ?_ (by assumption))))))⟩



      · obtain rfl : k = l.length := by omega
        have hno := HNO.out
        have hown := HO.out
        rw [List.take_length] at hno hown
        have hstd : ∀ d ∈ l, stErr ks d.1 = 0 := fun d hd => by
          have := hno d hd
          unfold badStp at this
          simp at this
          exact this.1.1
        have HIS := Lib.hid (fun d hd => (stErr_ok (hstd d hd)).2 : ∀ d ∈ l, isSt ks d.1 = true)
        have hany : ¬ (l.any fun d => decide (stErr ks d.1 ≠ 0) || decide (d.2 < 1) || decide (1099511627776 < d.2)) = true := fun h => by
          obtain ⟨d, hd, h⟩ := List.any_eq_true.1 h
          have h2 := hno d hd
          unfold badStp at h2
          rw [h2] at h; cases h
        have hde : doomErr ks s l = if rightB ks l = true ∧ covB l s 1099511627777 = true then 0 else 14 := by
          unfold doomErr
          rw [if_neg (fun e => e HST.out), if_neg HL1.out, if_neg hany]
        have HDE := Lib.hid hde
        have HDM := Lib.hid (show IsDms wr (.slice oa on oc) l from hown.isRows)
        have cr := fun w hv hl => right_any ks l (.slice sa ks.length cap) (.slice oa on oc) w V.out hv hl HIS.out
        have cc := fun w hl => covered_any s 1099511627777 l (.slice oa on oc) w hl (by rw [HS5.out]; exact n5) (fun d hd => by rw [HS5.out]; exact isSt_len (HIS.out d hd))
        simp only [stV_eq] at cc
        obtain ⟨rb, hrb⟩ : ∃ rb, rb = rightB ks l := ⟨_, rfl⟩
        obtain ⟨cb, hcb⟩ : ∃ cb, cb = covB l s 1099511627777 := ⟨_, rfl⟩
        rw [← hrb] at cr hde
        rw [← hcb] at cc hde
        obtain ⟨gw, rfl⟩ := grow_of hE
        have CR := Lib.hid cr
        have CC := Lib.hid cc
        have HDE2 := Lib.hid hde
        clear hno hown hstd hany hde HDE cr cc hrb hcb hE HO HNO



        go_wp2_with fail
        refine callW (W0 := G0) (g := gw) (by exact (by repeat (first | exact Below.refl _ _ | refine Ext.al ?_ _ | refine Ext.dr ?_ | refine Ext.drN ?_ _ | refine Ext.gr ?_ _ | refine Ext.set ?_ (by simp) _ | (refine Ext.trans' ?_ (by assumption))))) (CR.out _ (HS.out.ext (by exact (by repeat (first | exact Below.refl _ _ | refine Ext.al ?_ _ | refine Ext.dr ?_ | refine Ext.drN ?_ _ | refine Ext.gr ?_ _ | refine Ext.set ?_ (by simp) _ | (refine Ext.trans' ?_ (by assumption)))))) HDM.out) fun g5 hgr => ?_
        replace HDM := Lib.hid (HDM.out.ext hgr)
        clear hgr
        cases rb
        · go_wp2_with fail
          go_ret
          exact ⟨ret_int (by rw [HDE2.out]; simp), HW.out.trans' (grow_below G0 _)⟩
        · have hz9 := hz
          go_wp2_with fail
          refine callW (W0 := G0) (g := g5) (by exact (by repeat (first | exact Below.refl _ _ | refine Ext.al ?_ _ | refine Ext.dr ?_ | refine Ext.drN ?_ _ | refine Ext.gr ?_ _ | refine Ext.set ?_ (by simp) _ | (refine Ext.trans' ?_ (by assumption))))) (CC.out _ HDM.out) fun g6 hgr => ?_
          replace HDM := Lib.hid (HDM.out.ext hgr)
          clear hgr
          cases cb
          · go_wp2_with fail
            go_ret
            exact ⟨ret_int (by rw [HDE2.out]; simp), HW.out.trans' (grow_below G0 _)⟩
          · go_wp2_with fail
            go_ret
            exact ⟨ret_int (by rw [HDE2.out]; simp), HW.out.trans' (grow_below G0 _)⟩


end Go.Proofs.Ytndgaklcnhoddaa
namespace Go.Proofs.Ytndgaklcnhoddaa
open Go.RowKit Go.Shelf
theorem elStp : El 41 43 2 := El.mk' (bytes := 32) (z := .agg #[.slice none 0 0, .int .i64 0]) (by kernel_rfl) (by kernel_rfl) rfl (by omega) (by omega)
/-- steps that a call has made: their lists, and what is left -/
structure OwnStps (W : World) (B : Nat) (v : Value) (l : List (List Int × Int)) (lvs : List Value) : Prop where
  len : lvs.length = l.length
  own : Owns W B 43 2 v ((List.range l.length).map fun i => [lvs.getD i (.slice none 0 0), .int .i64 (l.getD i ([], 0)).2])
  ls : ∀ i, i < l.length → Owns W B 3 1 (lvs.getD i (.slice none 0 0)) ((l.getD i ([], 0)).1.map iRow)
theorem OwnStps.nil (W : World) (B : Nat) : OwnStps W B (.slice none 0 0) [] [] := ⟨rfl, Owns.nil _ _ _ _, fun i hi => by simp at hi⟩
theorem OwnStps.ext {W W' : World} {B : Nat} {v : Value} {l : List (List Int × Int)} {lvs : List Value} (h : OwnStps W B v l lvs) (e : Ext W W') : OwnStps W' B v l lvs := ⟨h.len, h.own.ext e, fun i hi => (h.ls i hi).ext e⟩
theorem stps_rows (l : List (List Int × Int)) (lvs : List Value) (x : List Int × Int) (lv : Value) (hl : lvs.length = l.length) :
    ((List.range (l ++ [x]).length).map fun i => [(lvs ++ [lv]).getD i (.slice none 0 0), .int .i64 ((l ++ [x]).getD i ([], 0)).2]) = ((List.range l.length).map fun i => [lvs.getD i (.slice none 0 0), Value.int .i64 (l.getD i ([], 0)).2]) ++ [[lv, .int .i64 x.2]] := by
  rw [List.length_append, List.length_singleton, List.range_succ, List.map_append]
  congr 1
  · refine List.map_congr_left fun i hi => ?_
    have hi' : i < l.length := by simpa using hi
    simp [List.getElem?_append_left, hi', hl]
  · simp [hl]
theorem OwnStps.more {W W' : World} {B : Nat} {v v' lv : Value} {l : List (List Int × Int)} {lvs : List Value} {x : List Int × Int} (h : OwnStps W B v l lvs) (hlv : Owns W B 3 1 lv (x.1.map iRow))
    (h' : Owns W' B 43 2 v' (((List.range l.length).map fun i => [lvs.getD i (.slice none 0 0), Value.int .i64 (l.getD i ([], 0)).2]) ++ [[lv, .int .i64 x.2]])) (k : Kept (fun k => some k ≠ v.ownBlock) W W') : OwnStps W' B v' (l ++ [x]) (lvs ++ [lv]) := by
  refine ⟨by simp [h.len], by rw [stps_rows l lvs x lv h.len]; exact h', fun i hi => ?_⟩
  by_cases e : i < l.length
  · have := (h.ls i e).thr (by decide) h.own k
    have e1 : (lvs ++ [lv]).getD i (.slice none 0 0) = lvs.getD i (.slice none 0 0) := by simp [List.getElem?_append_left, h.len, e]
    have e2 : (l ++ [x]).getD i ([], 0) = l.getD i ([], 0) := by simp [List.getElem?_append_left, e]
    rw [e1, e2]; exact this
  · have e0 : i = l.length := by simp at hi; omega
    subst e0
    have := hlv.thr (by decide) h.own k
    have e1 : (lvs ++ [lv]).getD l.length (.slice none 0 0) = lv := by simp [← h.len]
    have e2 : (l ++ [x]).getD l.length ([], 0) = x := by simp
    rw [e1, e2]; exact this
theorem OwnStps.isStps {W : World} {B : Nat} {v : Value} {l : List (List Int × Int)} {lvs : List Value} (h : OwnStps W B v l lvs) : IsStps W v l := by
  obtain ⟨sa, cap, e, h1, h2, hf⟩ := h.own.form
  rw [List.length_map, List.length_range] at e h1
  refine ⟨sa, cap, e, h1, h2, ?_⟩
  rcases hf with ⟨h0, _⟩ | ⟨g, rfl, _, _, hr, _⟩
  · left
    have := congrArg List.length h0
    simp at this
    exact this
  · refine .inr ⟨g, 0, rfl, fun i hi => ?_⟩
    have c0 := hr i (by simpa using hi) 0 (by simp)
    have c1 := hr i (by simpa using hi) 1 (by simp)
    simp only [List.getElem_map, List.getElem_range, List.getElem_cons_zero, List.getElem_cons_succ, Nat.zero_add, Nat.add_zero] at c0 c1
    have ho := h.ls i hi
    have e2 : l.getD i ([], 0) = l[i] := by simp [hi]
    rw [e2] at ho c1
    obtain ⟨xa, xc, e3, _, _, _⟩ := ho.form
    rw [List.length_map] at e3
    refine ⟨xa, xc, by rw [Nat.zero_add, c0, e3], by rw [← e3]; exact ho.oneInts, by rw [Nat.zero_add, c1]⟩
noncomputable def doomRErr (ks s : List Int) : Int := if stErr ks s ≠ 0 then stErr ks s else if rowOf (nxS ks) s < 0 then 5 else 0
/-- what Doom answers: an error and nothing, or steps that doom -/
def RetDoom (ks s : List Int) (w : World) (e : Ending) (w' : World) : Prop :=
  ∃ v l, e = .returned (.tuple #[v, .int .i64 (doomRErr ks s)]) ∧ Ext w w' ∧ IsStps w' v l ∧ (doomRErr ks s ≠ 0 → l = []) ∧ (doomRErr ks s = 0 → doomErr ks s l = 0 ∧ ∀ x ∈ l, x.1.length ≤ 5)
theorem from_steps {ks s : List Int} (v : TVal ks) (hst : isSt ks s = true) (hd : ¬ rowOf (nxS ks) s < 0) {o : List Int} {seen : Nat → Int} (hf : FromI ks (numS ks s) o [] seen) (hc : ClosedTo ks o o) :
    doomErr ks s (o.map fun x => (stOf ks x, rkN ks x + 1)) = 0 := by
  have hns : ¬ SafeP (nxS ks) s := fun h => hd (rowOf_neg.2 h)
  have e : (o.map fun x => (stOf ks x, rkN ks x + 1)) = (o.map (stOf ks)).map fun x => (x, rowOf (nxS ks) x + 1) := by rw [List.map_map]; rfl
  have hbd := hf.bd
  have hnd := hf.nd
  have hstt := hf.st
  have hun := hf.un
  rw [List.append_nil] at hbd hnd hstt hun
  rw [e]
  refine from_doom v hst hns ?_ ?_ ?_ ?_
  · exact List.mem_map.2 ⟨_, hstt, st_num v.nn hst⟩
  · intro x hx
    obtain ⟨i, hi, rfl⟩ := List.mem_map.1 hx
    exact ⟨st_st v.nn, hun (by rw [st_num v.nn hst]; exact hns) i hi⟩
  · intro x hx y hy
    obtain ⟨i, hi, rfl⟩ := List.mem_map.1 hx
    have := hc i hi (numS ks y) (List.mem_map.2 ⟨y, hy, rfl⟩)
    exact List.mem_map.2 ⟨_, this, st_num v.nn (nxS_st v (st_st v.nn) y hy)⟩
  · refine nodup_map _ hnd fun x hx y hy h => ?_
    have := congrArg (numS ks) h
    rw [num_st v.nn (hbd x hx).1 (hbd x hx).2, num_st v.nn (hbd y hy).1 (hbd y hy).2] at this
    exact this
end Go.Proofs.Ytndgaklcnhoddaa
namespace Go.Proofs.Ytndgaklcnhoddaa
open Go.RowKit Go.Shelf
set_option maxRecDepth 100000 in
set_option maxHeartbeats 4000000 in
theorem doomF_any (ks s : List Int) (kv lv : Value) (w : World) (hv : IsInts w .i64 kv ks) (hl : IsInts w .i64 lv s) :
    Calls Try.prog 34 #[.agg #[kv], lv] w (RetDoom ks s w) := by
  obtain ⟨sa, cap, rfl, h1, h2, -⟩ := hv.spec
  have HV := Lib.hid hv
  have HL0 := Lib.hid hl
  clear hv hl
  go_enter Try.func34, Try.ntmps34
  go_upto_region 1 with (fail)
  obtain ⟨W0, hW0⟩ : ∃ W0, W0 = w.alloc (.cells #[.slice sa ks.length cap] 24) := ⟨_, rfl⟩
  have hE : Ext w W0 := by rw [hW0]; exact (by repeat (first | exact Below.refl _ _ | refine Ext.al ?_ _ | refine Ext.dr ?_ | refine Ext.drN ?_ _ | refine Ext.gr ?_ _ | refine Ext.set ?_ (by simp) _ | (refine Ext.trans' ?_ (by assumption))))
  have k0 : W0.cell? ⟨w.heap.size, 0, none⟩ = some (.slice sa ks.length cap) := by rw [hW0]; simp [go_sem]
  have hz : w.heap.size < W0.heap.size := World.block_lt_of_cell? _ _ k0
  have HS := Lib.hid (HV.out.ext hE)
  have HW := Lib.hid hE
  rw [← hW0]
  clear hW0 HV
  have HL := Lib.hid (HL0.out.ext hE)
  clear hE HL0
  go_wp2_with fail
  refine (open_any ks s _ _ W0 HS.out HL.out).mono ?_
  rintro e W1 (⟨hne, rfl, hE1⟩ | ⟨h0, p, rfl, hE1, hT1⟩)
  · obtain ⟨er, her⟩ : ∃ er, er = stErr ks s := ⟨_, rfl⟩
    rw [← her] at hne ⊢
    have e1 : (er == 0) = false := by simpa using hne
    have e2 : (er != 0) = true := by simpa using hne
    have HN := Lib.hid hne
    have HER := Lib.hid her
    have HE1 := Lib.hid hE1
    rw [stV_eq]
    clear hne her hE1
    go_wp2_with fail
    refine bodyPost_ret (v := .tuple #[.slice none 0 0, .int .i64 er]) (by simp [results, Try.results34, go_sem]) rfl ?_
    have hE2 : Ext w W1 := HW.out.trans' HE1.out
    have hd : doomRErr ks s = er := by unfold doomRErr; rw [if_pos (by rw [← HER.out]; exact HN.out), HER.out]
    exact ⟨.slice none 0 0, [], by rw [hd], hE2.trans' (by exact (by repeat (first | exact Below.refl _ _ | refine Ext.al ?_ _ | refine Ext.dr ?_ | refine Ext.drN ?_ _ | refine Ext.gr ?_ _ | refine Ext.set ?_ (by simp) _ | (refine Ext.trans' ?_ (by assumption))))), ⟨none, 0, rfl, by simp, by omega, .inl rfl⟩, fun _ => rfl, fun h => absurd (hd.symm.trans h) HN.out⟩
  · obtain ⟨v, hst⟩ := stErr_ok h0
    have V := Lib.hid v
    have HST := Lib.hid hst
    have H0 := Lib.hid h0
    have hcf := fun W h1 h2 => isSafe_any ks s p (FofR ks (rkN ks)) W v hst h1 h2
    rw [safe_F v hst, stV_eq] at hcf
    obtain ⟨sb, hsb⟩ : ∃ sb : Bool, sb = decide (rowOf (nxS ks) s < 0) := ⟨_, rfl⟩
    rw [← hsb] at hcf
    have HCF := Lib.hid hcf
    have HSB := Lib.hid hsb
    have n5 := v.n5
    have hN := nSt_le v
    have hNe := nSt_eq v
    rw [stV_eq]
    have HT1 := Lib.hid hT1
    have HE1 := Lib.hid hE1
    have k1 := cell_ext hE1 k0
    have NE := Lib.hid hNe
    clear v hst h0 hT1 hE1 hcf hsb hNe
    go_wp2_with fail
    refine (HCF.out _ (HT1.out.hd.ext (by exact (by repeat (first | exact Below.refl _ _ | refine Ext.al ?_ _ | refine Ext.dr ?_ | refine Ext.drN ?_ _ | refine Ext.gr ?_ _ | refine Ext.set ?_ (by simp) _ | (refine Ext.trans' ?_ (by assumption)))))) (HT1.out.mp.ext (by exact (by repeat (first | exact Below.refl _ _ | refine Ext.al ?_ _ | refine Ext.dr ?_ | refine Ext.drN ?_ _ | refine Ext.gr ?_ _ | refine Ext.set ?_ (by simp) _ | (refine Ext.trans' ?_ (by assumption))))))).mono ?_
    rintro e W2 ⟨rfl, hE2⟩
    have hb1 : StB (W1.alloc (.cells #[.int .i64 (gt s 0), .int .i64 (gt s 1), .int .i64 (gt s 2), .int .i64 (gt s 3), .int .i64 (gt s 4)] 73)) W1.heap.size s := StB.new W1 s
    have hb2 := hb1.ext hE2
    have hE12 : Ext W1 W2 := Ext.trans' (by exact (by repeat (first | exact Below.refl _ _ | refine Ext.al ?_ _ | refine Ext.dr ?_ | refine Ext.drN ?_ _ | refine Ext.gr ?_ _ | refine Ext.set ?_ (by simp) _ | (refine Ext.trans' ?_ (by assumption))))) hE2
    have HE12 := Lib.hid hE12
    have k2 := cell_ext hE12 k1
    have HT2 := Lib.hid (HT1.out.ext hE12)
    have c0s := (hb2).c 0 (by omega)
    have c1s := (hb2).c 1 (by omega)
    have c2s := (hb2).c 2 (by omega)
    have c3s := (hb2).c 3 (by omega)
    have c4s := (hb2).c 4 (by omega)
    have cfs := (hb2).free
    have czs := (hb2).lt
    clear hb1 hb2 hE2 hE12 HCF k1
    have hEw : Ext w W2 := HW.out.trans' (HE1.out.trans' HE12.out)
    have HEW := Lib.hid hEw
    clear hEw
    cases sb
    · have hnn : ¬ rowOf (nxS ks) s < 0 := by simpa using HSB.out.symm
      have HNN := Lib.hid hnn
      clear hnn
      go_wp2_with fail
      refine (from_any ks s p W2 V.out HST.out HT2.out).mono ?_
      rintro e W3 ⟨r, o, seen, rfl, hE3, hown3, hf3, hc3⟩
      have hor := hown3.isRows
      obtain ⟨oa, oc, rfl, ho1, ho2, -⟩ := hor
      rw [List.length_map] at ho1
      have hdm := from_steps V.out HST.out (by have := HNN.out; omega) hf3 hc3
      have hlen := hf3.len V.out
      have hbd := hf3.bd
      rw [List.append_nil] at hbd
      have HDM := Lib.hid hdm
      have HBD := Lib.hid hbd
      have HOW := Lib.hid hown3
      have HE3 := Lib.hid (HEW.out.trans' hE3)
      have k3 := cell_ext hE3 k2
      have HT3 := Lib.hid (HT2.out.ext hE3)
      have HS3 := Lib.hid (HS.out.ext (HE1.out.trans' (HE12.out.trans' hE3)))
      have hlen' : o.length ≤ 1000 := by simp at hlen; omega
      clear hE3 hown3 hf3 hc3 hdm hbd hlen HT2 HEW k2
      obtain ⟨L, hL⟩ : ∃ L, L = o.length := ⟨_, rfl⟩
      simp only [List.length_map] at HOW ⊢
      rw [← hL] at ho1 hlen' HOW ⊢
      have HLL := Lib.hid hL
      clear hL
      go_wp2_with fail
      go_loopw [9, 31] (fun ov jv W => ∃ (k : Nat) (lvs : List Value), k ≤ L ∧ jv = .int .i64 k ∧ OwnStps W W3.heap.size ov ((o.take k).map fun x => (stOf ks x, rkN ks x + 1)) lvs ∧ Ext W3 W) (fun _ jv _ => L - (intOf jv).toNat)
      case atStart => exact ⟨0, [], by omega, rfl, OwnStps.nil _ _, Below.refl _ _⟩
      case round =>
        obtain ⟨k, lvs, hk, rfl, hown, hE⟩ := hrel
        obtain ⟨da, dn, dc, rfl⟩ := hown.own.isSlice
        have HOWN := Lib.hid hown
        have HEr := Lib.hid hE
        by_cases hlt : k < L
        · have hko : k < o.length := by rw [← HLL.out]; exact hlt
          have hki : (k : Int) < (L : Int) := by omega
          obtain ⟨_, _, e, _, _, hcc⟩ := (HOW.out.ext hE).form
          simp only [Value.slice.injEq] at e
          obtain ⟨rfl, -, rfl⟩ := e
          rcases hcc with ⟨h0, _⟩ | ⟨gb, rfl, _, _, hcc, _⟩
          · have := List.map_eq_nil_iff.1 h0; rw [this] at hko; simp at hko
          have hbi := HBD.out o[k] (List.getElem_mem hko)
          obtain ⟨i, hi⟩ : ∃ i : Nat, o[k] = (i : Int) := ⟨o[k].toNat, by omega⟩
          have hrow : ∀ j (hj : j < 5), wr.cell? ⟨gb, k * 5 + j, none⟩ = some (.int .i64 (gt (stOf ks i) j)) := fun j hj => by
            have := hcc k (by simpa using hko) j (by simp [stR]; exact hj)
            rw [Nat.zero_add] at this
            rw [this]
            match j, hj with
            | 0, _ => simp [stR, hi]
            | 1, _ => simp [stR, hi]
            | 2, _ => simp [stR, hi]
            | 3, _ => simp [stR, hi]
            | 4, _ => simp [stR, hi]
          have htk : (o.take (k + 1)).map (fun x => (stOf ks x, rkN ks x + 1)) = (o.take k).map (fun x => (stOf ks x, rkN ks x + 1)) ++ [(stOf ks i, rkN ks i + 1)] := by
            rw [List.take_succ_eq_append_getElem hko, List.map_append, hi]; rfl
          rw [hi] at hbi
          have hts : isSt ks (stOf ks i) = true := st_st V.out.nn
          have hnum := num_st V.out.nn hbi.1 hbi.2
          have hrk := rkN_bd V.out (i : Int)
          obtain ⟨t, ht⟩ : ∃ t, t = stOf ks (i : Int) := ⟨_, rfl⟩
          obtain ⟨r, hr⟩ : ∃ r, r = rkN ks (i : Int) := ⟨_, rfl⟩
          rw [← ht] at hrow htk hts hnum
          rw [← hr] at htk hrk
          have y0 := hrow 0 (by omega)
          have y1 := hrow 1 (by omega)
          have y2 := hrow 2 (by omega)
          have y3 := hrow 3 (by omega)
          have y4 := hrow 4 (by omega)
          rw [Nat.add_zero] at y0
          have hT := HT3.out.ext hE
          obtain ⟨rb, ro, rc, c3, r1, r2, hrows⟩ := hT.rw
          have hiN : i < nSt ks := by have := NE.out; omega
          have cr := hrows i hiN
          rw [← hr] at cr
          have hii : (i : Int) < (nSt ks : Int) := by omega
          obtain ⟨N, hNN⟩ : ∃ N, N = nSt ks := ⟨_, rfl⟩
          rw [← hNN] at hii c3
          have k4 := cell_ext hE k3
          have hw1 : IntKind.i64.wrap (r + 1) = r + 1 := IntWalk.i64_in _ (by omega)
          have cn := fun W ht => num_any ks t p W V.out hts ht
          rw [hnum, stV_eq] at cn
          have cl := fun W hs => list_own t ks (.slice sa ks.length cap) W hs (isSt_len hts) n5
          rw [stV_eq] at cl
          have CN := Lib.hid cn
          have CL := Lib.hid cl
          have HTK := Lib.hid htk
          have HHD := Lib.hid hT.hd
          have HSr := Lib.hid (HS3.out.ext hE)
          have hlk : ((o.take k).map fun x => (stOf ks x, rkN ks x + 1)).length = k := by rw [List.length_map, List.length_take]; omega
          have HLK := Lib.hid hlk
          clear hown hE hcc hi hrow htk hts hnum ht hr hT hrows hNN cn cl hlk hbi
          go_wp2_with fail
          obtain ⟨X, hX⟩ : ∃ X, wr.alloc (.cells #[.int .i64 (gt t 0), .int .i64 (gt t 1), .int .i64 (gt t 2), .int .i64 (gt t 3), .int .i64 (gt t 4)] 73) = X := ⟨_, rfl⟩
          have hEX : Ext wr X := by rw [← hX]; exact (by repeat (first | exact Below.refl _ _ | refine Ext.al ?_ _ | refine Ext.dr ?_ | refine Ext.drN ?_ _ | refine Ext.gr ?_ _ | refine Ext.set ?_ (by simp) _ | (refine Ext.trans' ?_ (by assumption))))
          have hbx : StB X wr.heap.size t := by rw [← hX]; exact StB.new wr t
          rw [hX]
          replace k4 := cell_ext hEX k4
          replace c3 := cell_ext hEX c3
          replace cr := cell_ext hEX cr
          have HSX := Lib.hid (HSr.out.ext hEX)
          have HDX := Lib.hid (HHD.out.ext hEX)
          have HOX := Lib.hid (HOWN.out.ext hEX)
          have HEX := Lib.hid (HEr.out.trans' hEX)
          have hxz : W3.heap.size ≤ X.heap.size := HEX.out.size
          have c0x := (hbx).c 0 (by omega)
          have c1x := (hbx).c 1 (by omega)
          have c2x := (hbx).c 2 (by omega)
          have c3x := (hbx).c 3 (by omega)
          have c4x := (hbx).c 4 (by omega)
          have cfx := (hbx).free
          have czx := (hbx).lt
          have HLN : Hid (((List.range ((o.take k).map fun x => (stOf ks x, rkN ks x + 1)).length).map fun i => [lvs.getD i (.slice none 0 0), Value.int .i64 (((o.take k).map fun x => (stOf ks x, rkN ks x + 1)).getD i ([], 0)).2]).length + 1 ≤ 1000000) := Lib.hid (by rw [List.length_map, List.length_range, HLK.out]; omega)
          clear hX hEX hbx y0 y1 y2 y3 y4 HSr HHD
          refine wp_region_rove_tail rfl rfl (by kernel_rfl) (W3.heap.size) (hxz)
            [sqV (.slice da dn dc),
             sqV (.agg #[.int .i64 (gt t 0), .int .i64 (gt t 1), .int .i64 (gt t 2), .int .i64 (gt t 3), .int .i64 (gt t 4)]),
             sqV (.agg #[.slice sa ks.length cap]),
             sqW (fun v W => Owns W X.heap.size 3 1 v (t.map iRow)) (fun _ _ _ h e => h.ext e),
             sqV (.pointer (some ⟨p, 0, none⟩)),
             sqV (.pointer (some ⟨p, 0, none⟩)),
             sqV (.pointer (some ⟨p, 3, none⟩)),
             sqV (.slice (some ⟨rb, ro, none⟩) N rc),
             sqV (.pointer (some ⟨p, 0, none⟩)),
             sqV (.agg #[.int .i64 (gt t 0), .int .i64 (gt t 1), .int .i64 (gt t 2), .int .i64 (gt t 3), .int .i64 (gt t 4)]),
             sqV (.int .i64 i),
             sqV (.pointer (some ⟨rb, ro + i, none⟩)),
             sqV (.int .i64 r),
             sqV (.int .i64 (r + 1)),
             sqW (fun v W => ∃ lw, v = .agg #[lw, .int .i64 (r + 1)] ∧ Owns W X.heap.size 3 1 lw (t.map iRow)) (fun _ _ _ ⟨lw, h1, h2⟩ e => ⟨lw, h1, h2.ext e⟩),
             sqW (fun v W => ∃ lw b, v = .slice (some ⟨b, 0, none⟩) 1 1 ∧ RowsAt W 2 b 0 [[lw, .int .i64 (r + 1)]] ∧ Owns W X.heap.size 3 1 lw (t.map iRow)) (fun _ _ _ ⟨lw, b, h1, h2, h3⟩ e => ⟨lw, b, h1, h2.ext e, h3.ext e⟩),
             sqW (fun v W => ∃ lvs', OwnStps W W3.heap.size v (((o.take k).map fun x => (stOf ks x, rkN ks x + 1)) ++ [(t, r + 1)]) lvs') (fun _ _ _ ⟨lvs', h⟩ e => ⟨lvs', h.ext e⟩)]
            [true, true, true, false, true, true, true, true, true, true, true, true, true, true, false, false, false] [false, false, false, false, false, false, false, false, false, false, false, false, false, false, false, false, true] [true, true, true, false, true, true, true, true, true, true, true, true, true, true, false, false, true] [true, true, true, true, true, true, true, true, true, true, true, true, true, true, true, true, true]
            (by kernel_rfl) (by kernel_rfl) (by decide +kernel) (by decide +kernel) (by decide +kernel) rfl ⟨rfl, rfl⟩ ⟨?s0, ?s1, ?s2, ?s3, ?s4, ?s5, ?s6, ?s7, ?s8, ?s9, ?s10, ?s11, ?s12, ?s13, ?s14, ?s15, ?s16, trivial⟩ [some 35, some 36, some 37, some 38, some 39, some 40, some 41, some 42, some 43, some 44, some 45, some 46, some 47, some 48, some 49, some 50, some 51] rfl rfl ?send
          case s0 =>
            intro val ρ W hE hz hd hA hx
            have o0 : ρ (.tmp 9) = .slice da dn dc := hA.old 9 (by decide)
            clear hd
            exact runq_val (W' := W) (by simp [execOp, o0, go_sem]) (Below.refl _ _) rfl
          case s1 =>
            intro val ρ W hE hz hd hA hx
            have o0 : ρ (.tmp 11) = .pointer (some ⟨wr.heap.size, 0, none⟩) := hA.old 11 (by decide)
            have f_c0x := cell_ext (hx (by decide)) c0x
            have f_c1x := cell_ext (hx (by decide)) c1x
            have f_c2x := cell_ext (hx (by decide)) c2x
            have f_c3x := cell_ext (hx (by decide)) c3x
            have f_c4x := cell_ext (hx (by decide)) c4x
            clear hd
            exact runq_val (W' := W) (by simp [execOp, o0, f_c0x, f_c1x, f_c2x, f_c3x, f_c4x, go_sem]) (Below.refl _ _) rfl
          case s2 =>
            intro val ρ W hE hz hd hA hx
            have o0 : ρ (.tmp 2) = .pointer (some ⟨w.heap.size, 0, none⟩) := hA.old 2 (by decide)
            have f_k4 := cell_ext (hx (by decide)) k4
            clear hd
            exact runq_val (W' := W) (by simp [execOp, o0, f_k4, go_sem]) (Below.refl _ _) rfl
          case s4 =>
            intro val ρ W hE hz hd hA hx
            have o0 : ρ (.tmp 6) = .pointer (some ⟨p, 0, none⟩) := hA.old 6 (by decide)
            clear hd
            exact runq_val (W' := W) (by simp [execOp, o0, go_sem]) (Below.refl _ _) rfl
          case s5 =>
            intro val ρ W hE hz hd hA hx
            have d4 : ρ (.tmp 39) = .pointer (some ⟨p, 0, none⟩) := (hA.dep 4 (by decide) 39 rfl).trans (hd 4 (by decide))
            clear hd
            exact runq_val (W' := W) (by simp [execOp, d4, go_sem]) (Below.refl _ _) rfl
          case s6 =>
            intro val ρ W hE hz hd hA hx
            have d5 : ρ (.tmp 40) = .pointer (some ⟨p, 0, none⟩) := (hA.dep 5 (by decide) 40 rfl).trans (hd 5 (by decide))
            clear hd
            exact runq_val (W' := W) (by simp [execOp, d5, go_sem]) (Below.refl _ _) rfl
          case s7 =>
            intro val ρ W hE hz hd hA hx
            have d6 : ρ (.tmp 41) = .pointer (some ⟨p, 3, none⟩) := (hA.dep 6 (by decide) 41 rfl).trans (hd 6 (by decide))
            have f_c3 := cell_ext (hx (by decide)) c3
            clear hd
            exact runq_val (W' := W) (by simp [execOp, d6, f_c3, go_sem]) (Below.refl _ _) rfl
          case s8 =>
            intro val ρ W hE hz hd hA hx
            have o0 : ρ (.tmp 6) = .pointer (some ⟨p, 0, none⟩) := hA.old 6 (by decide)
            clear hd
            exact runq_val (W' := W) (by simp [execOp, o0, go_sem]) (Below.refl _ _) rfl
          case s9 =>
            intro val ρ W hE hz hd hA hx
            have o0 : ρ (.tmp 11) = .pointer (some ⟨wr.heap.size, 0, none⟩) := hA.old 11 (by decide)
            have f_c0x := cell_ext (hx (by decide)) c0x
            have f_c1x := cell_ext (hx (by decide)) c1x
            have f_c2x := cell_ext (hx (by decide)) c2x
            have f_c3x := cell_ext (hx (by decide)) c3x
            have f_c4x := cell_ext (hx (by decide)) c4x
            clear hd
            exact runq_val (W' := W) (by simp [execOp, o0, f_c0x, f_c1x, f_c2x, f_c3x, f_c4x, go_sem]) (Below.refl _ _) rfl
          case s10 =>
            intro val ρ W hE hz hd hA hx
            have d8 : ρ (.tmp 43) = .pointer (some ⟨p, 0, none⟩) := (hA.dep 8 (by decide) 43 rfl).trans (hd 8 (by decide))
            have d9 : ρ (.tmp 44) = .agg #[.int .i64 (gt t 0), .int .i64 (gt t 1), .int .i64 (gt t 2), .int .i64 (gt t 3), .int .i64 (gt t 4)] := (hA.dep 9 (by decide) 44 rfl).trans (hd 9 (by decide))
            clear hd
            refine runq_call 82 _ _ rfl #[.pointer (some ⟨p, 0, none⟩), .agg #[.int .i64 (gt t 0), .int .i64 (gt t 1), .int .i64 (gt t 2), .int .i64 (gt t 3), .int .i64 (gt t 4)]] (hA.func _) (by simp [d8, d9]) (fun args W => Try.call82 args W) ((CN.out W (HDX.out.ext (hx (by decide)))).mono ?_)
            rintro e w' ⟨rfl, hb⟩
            exact ⟨_, rfl, hb, rfl⟩
          case s11 =>
            intro val ρ W hE hz hd hA hx
            have d7 : ρ (.tmp 42) = .slice (some ⟨rb, ro, none⟩) N rc := (hA.dep 7 (by decide) 42 rfl).trans (hd 7 (by decide))
            have d10 : ρ (.tmp 45) = .int .i64 i := (hA.dep 10 (by decide) 45 rfl).trans (hd 10 (by decide))
            clear hd
            exact runq_val (W' := W) (by simp [execOp, d7, d10, hii, go_sem]) (Below.refl _ _) rfl
          case s12 =>
            intro val ρ W hE hz hd hA hx
            have d11 : ρ (.tmp 46) = .pointer (some ⟨rb, ro + i, none⟩) := (hA.dep 11 (by decide) 46 rfl).trans (hd 11 (by decide))
            have f_cr := cell_ext (hx (by decide)) cr
            clear hd
            exact runq_val (W' := W) (by simp [execOp, d11, f_cr, go_sem]) (Below.refl _ _) rfl
          case s13 =>
            intro val ρ W hE hz hd hA hx
            have d12 : ρ (.tmp 47) = .int .i64 r := (hA.dep 12 (by decide) 47 rfl).trans (hd 12 (by decide))
            clear hd
            exact runq_val (W' := W) (by simp [execOp, hA.const, d12, hw1, go_sem]) (Below.refl _ _) rfl
          case s3 =>
            intro val ρ W hE hz hd hA hx
            have d1 : ρ (.tmp 36) = .agg #[.int .i64 (gt t 0), .int .i64 (gt t 1), .int .i64 (gt t 2), .int .i64 (gt t 3), .int .i64 (gt t 4)] := (hA.dep 1 (by decide) 36 rfl).trans (hd 1 (by decide))
            have d2 : ρ (.tmp 37) = .agg #[.slice sa ks.length cap] := (hA.dep 2 (by decide) 37 rfl).trans (hd 2 (by decide))
            clear hd
            refine runq_call 68 _ _ rfl #[.agg #[.int .i64 (gt t 0), .int .i64 (gt t 1), .int .i64 (gt t 2), .int .i64 (gt t 3), .int .i64 (gt t 4)], .agg #[.slice sa ks.length cap]] (hA.func _) (by simp [d1, d2]) (fun args W => Try.call68 args W) ((CL.out W (HSX.out.ext (hx (by decide)))).mono ?_)
            rintro e w' ⟨lw, rfl, hb, hs⟩
            exact ⟨_, rfl, hb, hs.base hz⟩
          case s14 =>
            intro val ρ W hE hz hd hA hx
            have h3 : Owns W X.heap.size 3 1 (val 3) (t.map iRow) := hd 3 (by decide)
            have d3 : ρ (.tmp 38) = val 3 := hA.dep 3 (by decide) 38 rfl
            have d13 : ρ (.tmp 48) = .int .i64 (r + 1) := (hA.dep 13 (by decide) 48 rfl).trans (hd 13 (by decide))
            obtain ⟨xa, xn, xc, e3⟩ := h3.isSlice
            rw [e3] at d3 h3
            clear hd
            exact runq_val (v := .agg #[.slice xa xn xc, .int .i64 (r + 1)]) (W' := W) (by simp [execOp, d3, d13, go_sem]) (Below.refl _ _) ⟨_, rfl, h3⟩
          case s15 =>
            intro val ρ W hE hz hd hA hx
            obtain ⟨lw, e14, h14⟩ : ∃ lw, val 14 = .agg #[lw, .int .i64 (r + 1)] ∧ Owns W X.heap.size 3 1 lw (t.map iRow) := hd 14 (by decide)
            have d14 : ρ (.tmp 49) = .agg #[lw, .int .i64 (r + 1)] := (hA.dep 14 (by decide) 49 rfl).trans e14
            obtain ⟨xa, xn, xc, rfl⟩ := h14.isSlice
            clear hd
            refine runq_val (v := .slice (some ⟨W.heap.size, 0, none⟩) 1 1) (W' := W.alloc (.cells #[.slice xa xn xc, .int .i64 (r + 1)] 43)) (by simp [execOp, d14, go_sem]) (by exact (by repeat (first | exact Below.refl _ _ | refine Ext.al ?_ _ | refine Ext.dr ?_ | refine Ext.drN ?_ _ | refine Ext.gr ?_ _ | refine Ext.set ?_ (by simp) _ | (refine Ext.trans' ?_ (by assumption))))) ⟨_, _, rfl, newRows _ [[.slice xa xn xc, .int .i64 (r + 1)]] _ _ _ 2 rfl (by simp) (by simp), h14.ext (by exact (by repeat (first | exact Below.refl _ _ | refine Ext.al ?_ _ | refine Ext.dr ?_ | refine Ext.drN ?_ _ | refine Ext.gr ?_ _ | refine Ext.set ?_ (by simp) _ | (refine Ext.trans' ?_ (by assumption)))))⟩
          case s16 =>
            intro val ρ W hE hz hd hA hx
            have hW := hx (by decide)
            have d0 : ρ (.tmp 35) = .slice da dn dc := (hA.dep 0 (by decide) 35 rfl).trans (hd 0 (by decide))
            obtain ⟨lw, b, e15, h15, ho15⟩ : ∃ lw b, val 15 = .slice (some ⟨b, 0, none⟩) 1 1 ∧ RowsAt W 2 b 0 [[lw, .int .i64 (r + 1)]] ∧ Owns W X.heap.size 3 1 lw (t.map iRow) := hd 15 (by decide)
            have d15 : ρ (.tmp 50) = .slice (some ⟨b, 0, none⟩) 1 1 := (hA.dep 15 (by decide) 50 rfl).trans e15
            obtain ⟨xa, xn, xc, rfl⟩ := ho15.isSlice
            have ho := HOX.out.ext hW
            obtain ⟨v', w', hrun, h2, h3, h4⟩ := app_at elStp 41 W3.heap.size ho.own b 0 1 [[.slice xa xn xc, .int .i64 (r + 1)]] (by simp) h15 (by simp [Value.oneCell']) HLN.out (by omega)
            exact runq_append (.tmp 35) (.tmp 50) rfl rfl _ _ d0 d15 hrun (ho.own.keptBelow (by omega) h3) ⟨_, ho.more (x := (t, r + 1)) (ho15.base hxz) h2 h3⟩
          case send =>
            intro val W hE hzz hv
            obtain ⟨-, -, -, -, -, -, -, -, -, -, -, -, -, -, -, -, ⟨lvs', h16⟩, -⟩ := hv
            replace h16 : OwnStps W W3.heap.size (val 16) (((o.take k).map fun x => (stOf ks x, rkN ks x + 1)) ++ [(t, r + 1)]) lvs' := h16
            obtain ⟨va, vn, vc, e16⟩ := h16.own.isSlice
            rw [e16, ← HTK.out] at h16
            have hEn : Ext W3 W := HEX.out.trans hE
            have H16 := Lib.hid h16
            have HEN := Lib.hid hEn
            simp only [putD, e16]
            go_frame
            clear e16 h16 hEn hE hzz
            go_wp2_with fail
            go_wp2_with fail
            go_roundw
            case rel => exact ⟨k + 1, lvs', by omega, by go_num, H16.out, HEN.out⟩
            case measure => simp [intOf]; omega
        · have hkL : k = L := by omega
          have HKL := Lib.hid hkL
          clear hown hE hkL
          go_wp2_with fail
          refine bodyPost_ret (v := .tuple #[.slice da dn dc, .int .i64 0]) (by simp [results, Try.results34, go_sem]) rfl ?_
          have hd : doomRErr ks s = 0 := by unfold doomRErr; rw [if_neg (fun h => h H0.out), if_neg (by have := HNN.out; omega)]
          have e : (o.take k).map (fun x => (stOf ks x, rkN ks x + 1)) = o.map (fun x => (stOf ks x, rkN ks x + 1)) := by rw [HKL.out, HLL.out, List.take_length]
          have hst := HOWN.out.isStps
          rw [e] at hst
          refine ⟨_, _, by rw [hd], HE3.out.trans' HEr.out, hst, fun h => absurd hd h, fun _ => ⟨HDM.out, fun x hx => ?_⟩⟩
          obtain ⟨y, _, rfl⟩ := List.mem_map.1 hx
          rw [stOf_len]; exact n5
    · have hnn : rowOf (nxS ks) s < 0 := by simpa using HSB.out.symm
      have HNN := Lib.hid hnn
      clear hnn
      go_wp2_with fail
      refine bodyPost_ret (v := .tuple #[.slice none 0 0, .int .i64 5]) (by simp [results, Try.results34, go_sem]) rfl ?_
      have hd : doomRErr ks s = 5 := by unfold doomRErr; rw [if_neg (fun h => h H0.out), if_pos HNN.out]
      exact ⟨.slice none 0 0, [], by rw [hd], HEW.out, ⟨none, 0, rfl, by simp, by omega, .inl rfl⟩, fun _ => rfl, fun h => absurd (hd.symm.trans h) (by decide)⟩
end Go.Proofs.Ytndgaklcnhoddaa
