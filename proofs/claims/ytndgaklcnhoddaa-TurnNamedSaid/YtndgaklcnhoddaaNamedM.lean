/-
  Plain: what stays when windows are named otherwise: safe states, the windows that can be visited next, circles, and how many states are safe.
-/
import Derived.Test.YtndgaklcnhoddaaPl
import Derived.Test.YtndgaklcnhoddaaWd
import Derived.Test.YtndgaklcnhoddaaWe
import Derived.Test.YtndgaklcnhoddaaRefN
namespace Go.Proofs.Ytndgaklcnhoddaa
theorem sw_cnt_le {a b : Nat} {ks : List Int} (v : TVal ks) (ha : a < ks.length) (hb : b < ks.length) : cntN (sw a b ks) ≤ cntN ks := by
  have v' := sw_valid v ha hb
  have ha' : a < (sw a b ks).length := by rw [sw_len]; exact ha
  have hb' : b < (sw a b ks).length := by rw [sw_len]; exact hb
  have back : ∀ {s : List Int}, isSt (sw a b ks) s = true → isSt ks (sw a b s) = true := fun {s} h => by
    have := sw_isSt ha' hb' h
    rwa [sw_sw ha hb] at this
  have hrow : ∀ {s : List Int}, isSt (sw a b ks) s = true → rowOf (nxS ks) (sw a b s) = rowOf (nxS (sw a b ks)) s := fun {s} h => by
    have := sw_rowOf ha' hb' (isSt_len h)
    rwa [sw_sw ha hb] at this
  let g : Nat → Nat := fun i => (numS ks (sw a b (stOf (sw a b ks) i))).toNat
  have hin : ∀ i : Nat, 0 ≤ numS ks (sw a b (stOf (sw a b ks) i)) ∧ numS ks (sw a b (stOf (sw a b ks) i)) < prodK ks := fun i => numS_bd v.nn (back (st_st v'.nn))
  have h1 := nodup_sub ((((List.range (nSt (sw a b ks))).filter fun (i : Nat) => decide (rkN (sw a b ks) i < 0)).map g)) ((List.range (nSt ks)).filter fun (i : Nat) => decide (rkN ks i < 0)) ?_ ?_
  · simp only [List.length_map] at h1
    exact h1
  · refine nodup_map g (List.Nodup.sublist List.filter_sublist List.nodup_range) fun x hx y hy e => ?_
    have hx1 := List.mem_range.1 (List.mem_filter.1 hx).1
    have hy1 := List.mem_range.1 (List.mem_filter.1 hy).1
    have e1 : numS ks (sw a b (stOf (sw a b ks) x)) = numS ks (sw a b (stOf (sw a b ks) y)) := by
      have := hin x; have := hin y
      simp only [g] at e
      omega
    have e2 := numS_inj v.nn (back (st_st v'.nn)) (back (st_st v'.nn)) e1
    have hl : ∀ i : Int, (stOf (sw a b ks) i).length = ks.length := fun i => by rw [isSt_len (st_st v'.nn), sw_len]
    have e3 := congrArg (sw a b) e2
    rw [sw_sw (by rw [hl]; exact ha) (by rw [hl]; exact hb), sw_sw (by rw [hl]; exact ha) (by rw [hl]; exact hb)] at e3
    have e4 := congrArg (numS (sw a b ks)) e3
    have hN := nSt_eq v'
    rw [num_st v'.nn (by omega) (by omega), num_st v'.nn (by omega) (by omega)] at e4
    omega
  · intro x hx
    obtain ⟨i, hi, rfl⟩ := List.mem_map.1 hx
    have h2 := of_decide_eq_true (List.mem_filter.1 hi).2
    have hb := hin i
    have hN := nSt_eq v
    refine List.mem_filter.2 ⟨List.mem_range.2 (by simp only [g]; omega), decide_eq_true ?_⟩
    have e : ((g i : Nat) : Int) = numS ks (sw a b (stOf (sw a b ks) i)) := by simp only [g]; omega
    rw [e, rkN_num v (back (st_st v'.nn)), hrow (st_st v'.nn)]
    exact h2
theorem sw_cnt {a b : Nat} {ks : List Int} (v : TVal ks) (ha : a < ks.length) (hb : b < ks.length) : cntN (sw a b ks) = cntN ks := by
  have h1 := sw_cnt_le v ha hb
  have h2 := sw_cnt_le (a := a) (b := b) (sw_valid v ha hb) (by rw [sw_len]; exact ha) (by rw [sw_len]; exact hb)
  rw [sw_sw ha hb] at h2
  omega
theorem leads_mem {ks s : List Int} {x : Int} : x ∈ leadsL ks allW s ↔ fullP allW ks s = false ∧ ∃ w : Nat, w < ks.length ∧ rowOf (nxS ks) (visit (upP allW s) w) < 0 ∧ x = (w : Int) := by
  unfold leadsL
  cases h : fullP allW ks s with
  | true => simp
  | false =>
    rw [if_neg (by simp)]
    simp only [List.mem_map, List.mem_filter, List.mem_range, decide_eq_true_eq, true_and]
    constructor
    · rintro ⟨w, ⟨h1, h2⟩, rfl⟩; exact ⟨w, h1, h2, rfl⟩
    · rintro ⟨w, h1, h2, rfl⟩; exact ⟨w, ⟨h1, h2⟩, rfl⟩
theorem leads_nodup (ks s : List Int) : (leadsL ks allW s).Nodup := by
  unfold leadsL
  split
  · exact List.nodup_nil
  · exact nodup_map _ (List.Nodup.sublist List.filter_sublist List.nodup_range) fun x _ y _ e => by omega
theorem sw_leads {a b : Nat} {ks s : List Int} (ha : a < ks.length) (hb : b < ks.length) (hl : s.length = ks.length) {w : Nat} : (w : Int) ∈ leadsL (sw a b ks) allW (sw a b s) ↔ ((tr a b w : Nat) : Int) ∈ leadsL ks allW s := by
  have key : ∀ w, rowOf (nxS (sw a b ks)) (visit (upP allW (sw a b s)) w) = rowOf (nxS ks) (visit (upP allW s) (tr a b w)) := fun w => by
    rw [sw_up (by omega) (by omega), sw_visit (by rw [upP_len]; omega) (by rw [upP_len]; omega), sw_rowOf ha hb (by rw [visit_len, upP_len, hl])]
  rw [leads_mem, leads_mem, sw_full ha hb hl, sw_len]
  constructor
  · rintro ⟨hf, u, h1, h2, e⟩
    have : w = u := by omega
    subst this
    exact ⟨hf, tr a b w, tr_lt ha hb h1, by rw [← key]; exact h2, rfl⟩
  · rintro ⟨hf, u, h1, h2, e⟩
    have hu : tr a b w = u := by omega
    subst hu
    refine ⟨hf, w, ?_, by rw [key]; exact h2, rfl⟩
    have := tr_lt ha hb h1
    rwa [tr_tr] at this
theorem sw_leads_len {a b : Nat} {ks s : List Int} (ha : a < ks.length) (hb : b < ks.length) (hl : s.length = ks.length) : (leadsL (sw a b ks) allW (sw a b s)).length = (leadsL ks allW s).length := by
  have inj : ∀ {x y : Int}, 0 ≤ x → 0 ≤ y → ((tr a b x.toNat : Nat) : Int) = ((tr a b y.toNat : Nat) : Int) → x = y := fun {x y} hx hy e => by
    have e1 : tr a b x.toNat = tr a b y.toNat := by omega
    have e2 := congrArg (tr a b) e1
    rw [tr_tr, tr_tr] at e2
    omega
  have pos : ∀ {ks s : List Int} {x : Int}, x ∈ leadsL ks allW s → 0 ≤ x := fun h => by
    obtain ⟨_, w, _, _, rfl⟩ := leads_mem.1 h
    omega
  have h1 := nodup_sub ((leadsL (sw a b ks) allW (sw a b s)).map fun x => ((tr a b x.toNat : Nat) : Int)) (leadsL ks allW s) (nodup_map _ (leads_nodup _ _) fun x hx y hy e => inj (pos hx) (pos hy) e) fun x hx => by
    obtain ⟨y, hy, rfl⟩ := List.mem_map.1 hx
    have := pos hy
    have e : y = ((y.toNat : Nat) : Int) := by omega
    rw [e] at hy
    exact (sw_leads ha hb hl).1 hy
  have h2 := nodup_sub ((leadsL ks allW s).map fun x => ((tr a b x.toNat : Nat) : Int)) (leadsL (sw a b ks) allW (sw a b s)) (nodup_map _ (leads_nodup _ _) fun x hx y hy e => inj (pos hx) (pos hy) e) fun x hx => by
    obtain ⟨y, hy, rfl⟩ := List.mem_map.1 hx
    have := pos hy
    refine (sw_leads ha hb hl).2 ?_
    rw [tr_tr]
    have e : y = ((y.toNat : Nat) : Int) := by omega
    rwa [← e]
  simp only [List.length_map] at h1 h2
  omega
/-- KX and T: the hall and the state, named otherwise; NM: the old names -/
structure NamI (ks s KX T NM : List Int) : Prop where
  v : TVal KX
  st : isSt KX T = true
  kl : KX.length = ks.length
  tl : T.length = ks.length
  nl : NM.length = ks.length
  nm : ∀ i, i < ks.length → 0 ≤ gt NM i ∧ gt NM i < ks.length
  zero : rowOf (nxS KX) (zeroS KX) = rowOf (nxS ks) (zeroS ks)
  row : rowOf (nxS KX) T = rowOf (nxS ks) s
  short : ∀ m, IsShort ks m → IsShort KX m
  cnt : cntN KX = cntN ks
  nxl : (leadsL KX allW T).length = (leadsL ks allW s).length
  nx : ∀ w : Nat, w < ks.length → (w : Int) ∈ leadsL KX allW T → gt NM w ∈ leadsL ks allW s
theorem upL_at {n i : Nat} (h : i < n) : gt (upL n) i = i := by
  unfold gt upL
  rw [List.getD_eq_getElem?_getD, List.getElem?_map, List.getElem?_range h]; rfl
theorem NamI.start {ks s : List Int} (v : TVal ks) (hs : isSt ks s = true) : NamI ks s ks s (upL ks.length) :=
  ⟨v, hs, rfl, isSt_len hs, by simp [upL], fun i hi => by rw [upL_at hi]; omega, rfl, rfl, fun _ h => h, rfl, rfl, fun w hw h => by rw [upL_at hw]; exact h⟩
theorem NamI.step {ks s KX T NM : List Int} (h : NamI ks s KX T NM) {a b : Nat} (ha : a < ks.length) (hb : b < ks.length) : NamI ks s (sw a b KX) (sw a b T) (sw a b NM) := by
  have ha' : a < KX.length := by rw [h.kl]; exact ha
  have hb' : b < KX.length := by rw [h.kl]; exact hb
  have hT : T.length = KX.length := by rw [h.tl, h.kl]
  have hN : ∀ i, gt (sw a b NM) i = gt NM (tr a b i) := fun i => sw_at (by rw [h.nl]; exact ha) (by rw [h.nl]; exact hb) i
  refine ⟨sw_valid h.v ha' hb', sw_isSt ha' hb' h.st, by rw [sw_len, h.kl], by rw [sw_len, h.tl], by rw [sw_len, h.nl], fun i hi => ?_, ?_, ?_, fun m hm => sw_short ha' hb' (h.short m hm), ?_, ?_, fun w hw hx => ?_⟩
  · rw [hN]; exact h.nm _ (tr_lt ha hb hi)
  · rw [← sw_zero ha' hb', sw_rowOf ha' hb' (by rw [zeroS_len]), h.zero]
  · rw [sw_rowOf ha' hb' hT, h.row]
  · rw [sw_cnt h.v ha' hb', h.cnt]
  · rw [sw_leads_len ha' hb' hT, h.nxl]
  · rw [hN]; exact h.nx _ (tr_lt ha hb hw) ((sw_leads ha' hb' hT).1 hx)
/-- what the statement compares -/
structure NamR (ks s KX T NM : List Int) : Prop where
  circ : circleErr KX = circleErr ks
  cnt : (countErr KX).1 = (countErr ks).1 ∧ (countErr KX).2 = 0 ∧ (countErr ks).2 = 0
  nerr : nextErr KX T = nextErr ks s
  nlen : (nextL KX T).length = (nextL ks s).length
  lerr : lastsErr KX T = lastsErr ks s
  llen : (lastsL KX T).length = (lastsL ks s).length
  both : (nextErr ks s = 0 ∧ lastsErr ks s = 5) ∨ (nextErr ks s = 17 ∧ lastsErr ks s = 0)
  nx : ∀ x ∈ nextL KX T, ∃ w : Nat, x = (w : Int) ∧ w < ks.length ∧ gt NM w ∈ nextL ks s
theorem NamI.res {ks s KX T NM : List Int} (h : NamI ks s KX T NM) (v : TVal ks) (hs : isSt ks s = true) : NamR ks s KX T NM := by
  have t1 := tchk_of v
  have t2 := tchk_of h.v
  have s1 := stErr_of v hs
  have s2 := stErr_of h.v h.st
  have n1 : nextL ks s = leadsL ks allW s := by unfold nextL; rw [if_neg (fun e => e s1)]
  have n2 : nextL KX T = leadsL KX allW T := by unfold nextL; rw [if_neg (fun e => e s2)]
  have e1 : nextErr ks s = if leadsL ks allW s = [] then 17 else 0 := by unfold nextErr; rw [if_neg (fun e => e s1)]
  have e2 : nextErr KX T = if leadsL KX allW T = [] then 17 else 0 := by unfold nextErr; rw [if_neg (fun e => e s2)]
  have l1 : lastsErr ks s = if rowOf (nxS ks) s < 0 then 5 else 0 := by unfold lastsErr; rw [if_neg (fun e => e s1)]
  have l2 : lastsErr KX T = if rowOf (nxS ks) s < 0 then 5 else 0 := by unfold lastsErr; rw [if_neg (fun e => e s2), h.row]
  have hnil : leadsL KX allW T = [] ↔ leadsL ks allW s = [] := by
    rw [← List.length_eq_zero_iff, ← List.length_eq_zero_iff, h.nxl]
  refine ⟨?_, ?_, ?_, by rw [n1, n2, h.nxl], by rw [l1, l2], ?_, ?_, fun x hx => ?_⟩
  · unfold circleErr
    rw [h.zero, if_neg (show ¬ tchk KX ≠ 0 from fun e => e t2), if_neg (show ¬ tchk ks ≠ 0 from fun e => e t1)]
  · unfold countErr
    rw [if_neg (fun e => e t2), if_neg (fun e => e t1), h.cnt]
    exact ⟨rfl, rfl, rfl⟩
  · rw [e1, e2]
    by_cases e : leadsL ks allW s = []
    · rw [if_pos e, if_pos (hnil.2 e)]
    · rw [if_neg e, if_neg (fun k => e (hnil.1 k))]
  · unfold lastsL
    rw [l1, l2, h.row]
    rcases rowOf_cases (nxS ks) s with ⟨e, _⟩ | ⟨r, e, hr⟩
    · rw [e]; simp
    · rw [e]
      have hr2 : Rk (nxS KX) T r := by
        rcases rowOf_cases (nxS KX) T with ⟨e', _⟩ | ⟨r', e', hr'⟩
        · have := h.row; omega
        · have : r' = r := by have := h.row; omega
          subst this; exact hr'
      have hr0 : ¬ ((r : Int) < 0) := by omega
      simp only [if_neg hr0, if_true, Int.toNat_natCast]
      rw [lastG_len hr, lastG_len hr2]
  · rw [e1, l1]
    by_cases e : leadsL ks allW s = []
    · rw [if_pos e, if_neg fun k => absurd e (leads_all.2 (rowOf_neg.1 k))]
      exact .inr ⟨rfl, rfl⟩
    · rw [if_neg e, if_pos (rowOf_neg.2 (leads_all.1 e))]
      exact .inl ⟨rfl, rfl⟩
  · rw [n2] at hx
    obtain ⟨_, w, hw, _, rfl⟩ := leads_mem.1 hx
    rw [h.kl] at hw
    exact ⟨w, rfl, hw, by rw [n1]; exact h.nx w hw hx⟩
end Go.Proofs.Ytndgaklcnhoddaa
