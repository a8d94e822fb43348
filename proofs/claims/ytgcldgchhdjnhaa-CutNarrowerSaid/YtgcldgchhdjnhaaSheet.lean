/-
  The walk of newSheet: a sheet is the hall with a map of the cheapest steps.
-/
import Derived.Test.YtgcldgchhdjnhaaMap
import Derived.Test.YtgcldgchhdjnhaaPlain
import Derived.Test.YtgcldgchhdjnhaaQuiet
namespace Go.Proofs.Ytgcldgchhdjnhaa
open Go.RowKit Go.Shelf

attribute [local go_sem] Oper.semAt_some

/-- what newSheet has laid so far: the box of the hall, the map, the sheet, the box of its pointer -/
structure Sh (w : World) (h : Hall) (sv : Value) (W : World) : Prop where
  ext : Below w.heap.size w W
  lt : w.heap.size + 4 ≤ W.heap.size
  a0 : W.cell? ⟨w.heap.size, 0, none⟩ = some (.int .i64 h.n)
  c0 : W.cell? ⟨w.heap.size + 1 + 1, 0, none⟩ = some (.int .i64 h.n)
  c1 : W.cell? ⟨w.heap.size + 1 + 1, 1, none⟩ = some (.int .i64 h.most)
  c2 : W.cell? ⟨w.heap.size + 1 + 1, 2, none⟩ = some sv
  c3 : W.cell? ⟨w.heap.size + 1 + 1, 3, none⟩ = some (.map (some (w.heap.size + 1)))
  p : W.cell? ⟨w.heap.size + 1 + 1 + 1, 0, none⟩ = some (.pointer (some ⟨w.heap.size + 1 + 1, 0, none⟩))
theorem Sh.kept {w : World} {h : Hall} {sv : Value} {W W' : World} (s : Sh w h sv W) (k : Kept (fun j => j ≠ w.heap.size + 1 ∧ j < w.heap.size + 4) W W') : Sh w h sv W' :=
  ⟨s.ext.trans ⟨k.os, k.tape, k.output, k.size, fun j hj => k.same j (by have := s.ext.size; omega) (by omega)⟩, Nat.le_trans s.lt k.size, k.cell s.a0 (by simp), k.cell s.c0 (by simp <;> omega), k.cell s.c1 (by simp <;> omega), k.cell s.c2 (by simp <;> omega), k.cell s.c3 (by simp <;> omega), k.cell s.p (by simp <;> omega)⟩
theorem Sh.ext' {w : World} {h : Hall} {sv : Value} {W W' : World} (s : Sh w h sv W) (k : Ext W W') : Sh w h sv W' := s.kept (.of_below k)
theorem Sh.grown {w : World} {h : Hall} {sv : Value} {W W' : World} (s : Sh w h sv W) (k : W.grownBy W' (some (w.heap.size + 1))) : Sh w h sv W' :=
  s.kept ((Kept.refl _ W).grown k (fun j e _ hh => by cases e; exact hh.1 rfl))

/-- which pairs have been laid: all of the rows below p, and of row p those below q -/
def laid (h : Hall) (p q : Nat) (k : Int × Int) : Option (Stp × Int) :=
  if 0 ≤ k.1 ∧ 0 ≤ k.2 ∧ k.2 ≤ h.n ∧ (k.1 < p ∨ (k.1 = p ∧ k.2 < q)) then some (⟨false, 0, false⟩, nowh) else none
theorem laid_succ {h : Hall} {p q : Nat} (hq : (q : Int) ≤ h.n) : (fun k => if k = ((p : Int), (q : Int)) then some ((⟨false, 0, false⟩ : Stp), nowh) else laid h p q k) = laid h p (q + 1) := by
  funext k
  obtain ⟨k1, k2⟩ := k
  unfold laid
  simp only [Prod.mk.injEq]
  by_cases h1 : k1 = p ∧ k2 = q
  · rw [if_pos h1, if_pos (by omega)]
  · rw [if_neg h1]
    by_cases h2 : 0 ≤ k1 ∧ 0 ≤ k2 ∧ k2 ≤ h.n ∧ (k1 < p ∨ k1 = p ∧ k2 < q)
    · rw [if_pos h2, if_pos (by omega)]
    · rw [if_neg h2, if_neg (by omega)]
theorem laid_row {h : Hall} {p q : Nat} (hq : (q : Int) = h.n + 1) : laid h p q = laid h (p + 1) 0 := by
  funext k
  obtain ⟨k1, k2⟩ := k
  unfold laid
  simp only
  by_cases h2 : 0 ≤ k1 ∧ 0 ≤ k2 ∧ k2 ≤ h.n ∧ (k1 < p ∨ k1 = p ∧ k2 < q)
  · rw [if_pos h2, if_pos (by omega)]
  · rw [if_neg h2, if_neg (by omega)]
theorem laid_all {h : Hall} {p : Nat} (hp : (p : Int) = h.n + 1) : laid h p 0 = initA h := by
  funext k
  obtain ⟨k1, k2⟩ := k
  unfold laid initA
  simp only
  by_cases h2 : 0 ≤ k1 ∧ 0 ≤ k2 ∧ k2 ≤ h.n ∧ (k1 < p ∨ k1 = p ∧ k2 < (0 : Nat))
  · rw [if_pos h2, if_pos (by omega)]
  · rw [if_neg h2, if_neg (by omega)]
theorem laid_none (h : Hall) : laid h 0 0 = fun _ => none := by
  funext k
  unfold laid
  rw [if_neg (by omega)]

set_option maxRecDepth 100000 in
set_option maxHeartbeats 2000000 in
theorem newSheet_in (h : Hall) (sv : Value) (v : Valid h) (w : World) (hs : IsCnts w sv h.cs) :
    CallsIn Fence.wide 9 Try.prog 96 #[.agg #[.int .i64 h.n, .int .i64 h.most, sv]] w fun e w' => e = .returned (.pointer (some ⟨w.heap.size + 1 + 1, 0, none⟩)) ∧ Sh w h sv w' ∧ MapIs kv av w' (w.heap.size + 1) (arcs h) := by
  have hmm := @run_makeMap Try.prog
  have n1 := v.n1
  have n10 := v.n10
  obtain ⟨sa, cap, rfl, hl1, hl2, h3⟩ := hs.spec
  have HS := Lib.hid hs
  have V := Lib.hid v
  clear hs v
  refine callsIn_of_wp_marks Try.func96 rfl trivial ?_ rfl
  simp only [Try.ntmps96, List.size_toArray, List.length_cons, List.length_nil, Nat.reduceAdd, Nat.reduceSub, Array.replicate_succ, Array.replicate_zero, List.push_toArray, List.append_toArray, List.nil_append, List.cons_append]
  gi_wp2
  gi_loopw [20] (fun i W => ∃ p : Nat, (p : Int) ≤ h.n + 1 ∧ i = .int .i64 p ∧ Sh w h (.slice sa h.cs.length cap) W ∧ MapIs kv av W (w.heap.size + 1) (laid h p 0)) (fun i _ => (h.n + 1 - intOf i).toNat)
  case atStart =>
    refine ⟨0, by omega, rfl, ⟨?_, ?_, ?_, ?_, ?_, ?_, ?_, ?_⟩, ?_⟩
    · exact (by repeat (first | exact Below.refl _ _ | refine Ext.al ?_ _ | refine Ext.dr ?_ | refine Ext.drN ?_ _ | refine Ext.gr ?_ _ | refine Ext.set ?_ (by simp) _ | (refine Ext.trans' ?_ (by assumption))))
    · simp
    · simp [go_sem]
    · simp [go_sem]
    · simp [go_sem]
    · simp [go_sem]
    · simp [go_sem]
    · simp [go_sem]
    · rw [laid_none]
      have hm := mapIs_new (ke := kv) (ve := av) (w.alloc (.cells #[.int .i64 h.n, .int .i64 h.most, .slice sa h.cs.length cap] 24))
      rw [World.size_alloc] at hm
      exact hm.ext (by repeat (first | exact Below.refl _ _ | refine Ext.al ?_ _ | refine Ext.dr ?_ | refine Ext.drN ?_ _ | refine Ext.gr ?_ _ | refine Ext.set ?_ (by simp) _ | (refine Ext.trans' ?_ (by assumption))))
  case round =>
    obtain ⟨p, hp, rfl, hsh, hm⟩ := hrel
    have HM := Lib.hid hm
    have HSh := Lib.hid hsh
    obtain ⟨_, hlt4, a0, c0, c1, c2, c3, hpt⟩ := hsh
    clear hm
    by_cases hlt : (p : Int) < h.n + 1
    · gi_wp2
      obtain ⟨w1, rfl⟩ : ∃ w1 : World, w1 = wr := ⟨_, rfl⟩
      gi_loopw [26] (fun i W => ∃ q : Nat, (q : Int) ≤ h.n + 1 ∧ i = .int .i64 q ∧ Sh w h (.slice sa h.cs.length cap) W ∧ MapIs kv av W (w.heap.size + 1) (laid h p q)) (fun i _ => (h.n + 1 - intOf i).toNat)
      case atStart => exact ⟨0, by omega, rfl, HSh.out, HM.out⟩
      case round =>
        obtain ⟨q, hq, rfl, hsh, hm⟩ := hrel
        clear hlt4 a0 c0 c1 c2 c3 hpt HM HSh
        have HSh := Lib.hid hsh
        obtain ⟨_, hlt4, a0, c0, c1, c2, c3, hpt⟩ := hsh
        by_cases hltq : (q : Int) < h.n + 1
        · obtain ⟨W', hup, hg, _, hm'⟩ := hm.upd pair_keyed ((p : Int), (q : Int)) (⟨false, 0, false⟩, nowh)
          rw [laid_succ (by omega)] at hm'
          simp only [kv, av, nowh] at hup
          have HM := Lib.hid hm'
          have HS' := Lib.hid (HSh.out.grown hg)
          clear hm hm' hg
          gi_wp2
          go_roundw
          case rel => exact ⟨q + 1, by omega, by go_num, HS'.out, HM.out⟩
          case measure => simp [intOf]; omega
        · have e : (q : Int) = h.n + 1 := by omega
          rw [laid_row e] at hm
          have HM := Lib.hid hm
          have HE := Lib.hid e
          clear hm e
          gi_wp2
          go_roundw
          case rel => exact ⟨p + 1, by omega, by go_num, HSh.out, HM.out⟩
          case measure => simp [intOf]; omega
    · have e : (p : Int) = h.n + 1 := by omega
      have hm := HM.out
      rw [laid_all e] at hm
      have HM2 := Lib.hid hm
      clear hm e HM
      gi_wp2_with fail
      refine ⟨trivial, (callsIn_wide.2 (steps_any _ _)).mono ?_⟩
      rintro e W5 ⟨rfl, hW5⟩
      have hb5 : W5.cell? ⟨wr.heap.size, 0, none⟩ = some (.pointer (some ⟨w.heap.size + 1 + 1, 0, none⟩)) := by rw [hW5]; simp [go_sem]
      have hE5 : Ext wr W5 := by rw [hW5]; exact Ext.al (Below.refl _ _) _
      have hs5 : W5.heap.size = wr.heap.size + 1 := by rw [hW5]; simp
      have HM5 := Lib.hid (HM2.out.ext hE5)
      have HSh5 := Lib.hid (HSh.out.ext' hE5)
      have HX5 := Lib.hid (HS.out.ext (Ext.trans' HSh.out.ext hE5))
      clear hW5 HM2 HSh hE5 hlt4 a0 c0 c1 c2 c3 hpt
      gi_wp2_with fail
      go_outline
      have HB : Hid (h.cs = [] ∨ ∀ g, (Value.slice sa h.cs.length cap).ownBlock = some g → g < W5.heap.size ∧ g ≠ w.heap.size + 1) := by
        refine Lib.hid ?_
        rcases h3 with e | ⟨b, off, rfl, hc⟩
        · exact .inl e
        · by_cases e : h.cs = []
          · exact .inl e
          · right
            intro g hg
            have hl : 0 < h.cs.length := List.length_pos_iff.2 e
            have := World.block_lt_of_cell? _ _ (hc 0 hl).1
            have := HSh5.out.ext.size
            have := HSh5.out.lt
            simp [Value.ownBlock] at hg
            simp at *
            omega
      refine rangeOver (n := 9) (R := fun k => k < W5.heap.size ∧ k ≠ w.heap.size + 1) rfl (enters_of Try.func115 (by kernel_rfl) rfl)
        (steps_iter h (.slice sa h.cs.length cap) V.out (fun k => k < W5.heap.size ∧ k ≠ w.heap.size + 1) wr.heap.size (w.heap.size + 1 + 1) W5 (fun k hk => hk.1) ⟨by omega, by have := HSh5.out.lt; omega⟩ hb5
          ⟨HSh5.out.c0, HSh5.out.c1, HSh5.out.c2, HX5.out, ⟨by have := HSh5.out.lt; omega, by omega⟩, ?_⟩) (Below.refl _ _) (fun k hk => hk.1) (fun _ => rfl)
        (fun O pre W => (∀ k, O k → W5.heap.size ≤ k) ∧ W5.heap.size ≤ W.heap.size ∧ (Sh w h (.slice sa h.cs.length cap) W ∧ IsCnts W (.slice sa h.cs.length cap) h.cs ∧ MapIs kv av W (w.heap.size + 1) (arcsUp h pre)))
        (fun _ _ _ _ => False) ?bears (fun _ _ _ _ _ _ h _ _ _ => h) ⟨fun _ h => h.elim, Nat.le_refl _, HSh5.out, HX5.out, HM5.out⟩ ?round ?done (fun _ _ _ _ _ _ _ h _ => h.elim)
      · exact HB.out
      case bears =>
        intro pre
        refine bears_low fun A A' hg hb => ?_
        obtain ⟨g1, g2, g3⟩ := hg
        have hl := HSh5.out.lt
        have hb4 : Kept (fun j => j < W5.heap.size) A A' := ⟨hb.os, hb.tape, hb.output, hb.size, fun k _ hk => hb.block k hk⟩
        refine ⟨g1.kept (hb4.mono fun k _ hk => by omega), IsRows.kept hb4 ?_ g2, g3.of_heap (hb.block _ (by omega))⟩
        rcases HB.out with e | e
        · exact .inl (by rw [e]; rfl)
        · exact .inr fun g hg => (e g hg).1
      case round =>
        rintro l O pre x W ⟨hO, hWs, hsh, hcs, hm⟩ hpre hO2 hW2
        gi_wp2
        refine ⟨(by repeat (first | exact Below.refl _ _ | refine Ext.al ?_ _ | refine Ext.dr ?_ | refine Ext.drN ?_ _ | refine Ext.gr ?_ _ | refine Ext.set ?_ (by simp) _ | (refine Ext.trans' ?_ (by assumption)))), fun W2 hk2 => ?_⟩
        have hE2 : Ext W ((W.alloc (.cells #[.bool x.win, .int .i64 x.idx, .bool x.back] 89)).alloc (.cells #[.int .i64 (src h x), .int .i64 (dst h x)] 137)) := (by repeat (first | exact Below.refl _ _ | refine Ext.al ?_ _ | refine Ext.dr ?_ | refine Ext.drN ?_ _ | refine Ext.gr ?_ _ | refine Ext.set ?_ (by simp) _ | (refine Ext.trans' ?_ (by assumption))))
        have hl5 := HSh5.out.lt
        have x0 := hk2.cell (p := ⟨W.heap.size, 0, none⟩) (v := .bool x.win) (by simp [go_sem]) (by simp; omega)
        have x1 := hk2.cell (p := ⟨W.heap.size, 1, none⟩) (v := .int .i64 x.idx) (by simp [go_sem]) (by simp; omega)
        have x2 := hk2.cell (p := ⟨W.heap.size, 2, none⟩) (v := .bool x.back) (by simp [go_sem]) (by simp; omega)
        have y0 := hk2.cell (p := ⟨W.heap.size + 1, 0, none⟩) (v := .int .i64 (src h x)) (by simp [go_sem]) (by simp; omega)
        have y1 := hk2.cell (p := ⟨W.heap.size + 1, 1, none⟩) (v := .int .i64 (dst h x)) (by simp [go_sem]) (by simp; omega)
        have hsh2 := (hsh.ext' hE2).kept (hk2.mono fun k _ hk => by omega)
        have hcs2 : IsCnts W2 (.slice sa h.cs.length cap) h.cs := IsRows.kept hk2 (by
          rcases HB.out with e | e
          · exact .inl (by rw [e]; rfl)
          · exact .inr fun g hg => by have := e g hg; omega) (hcs.ext hE2)
        have hm2 := (hm.ext hE2).of_heap (hk2.same _ (by simp; have := hsh.lt; omega) (by omega))
        have hz2 := hk2.size
        simp only [World.size_alloc] at hz2
        have ok := stps_ok V.out x (hpre.subset (by simp))
        have hx := stpC_ok V.out ok
        have HX := Lib.hid hx
        have OK := Lib.hid ok
        have HC2 := Lib.hid hcs2
        have HM2 := Lib.hid hm2
        have HS2 := Lib.hid hsh2
        have p2 := hsh2.p
        have c32 := hsh2.c3
        have HO := Lib.hid hO2
        clear hsh hcs hm hk2 hE2 hsh2 hcs2 hm2 hx ok hO hO2
        gi_wp2_with fail
        refine ⟨trivial, (CallsIn.inRound l (callsIn_wide.2 (ends_any h _ x (w.heap.size + 1 + 1) _ V.out OK.out ⟨HS2.out.c0, HS2.out.c1, HS2.out.c2, HC2.out⟩))).mono ?_⟩
        rintro e W3 ⟨rfl, hE3⟩
        replace x0 := cell_ext hE3 x0
        replace x1 := cell_ext hE3 x1
        replace x2 := cell_ext hE3 x2
        replace y0 := cell_ext hE3 y0
        replace y1 := cell_ext hE3 y1
        replace p2 := cell_ext hE3 p2
        replace c32 := cell_ext hE3 c32
        have HC3 := Lib.hid (HC2.out.ext hE3)
        have hm3 := HM2.out.ext hE3
        have HS3 := Lib.hid (HS2.out.ext' hE3)
        have hz3 := hE3.size
        have HE3 := Lib.hid hE3
        obtain ⟨a, ha⟩ := arcsUp_some h pre (k := (src h x, dst h x)) (by have := HX.out; unfold src dst; simp only; split <;> omega)
        have hlk : ∀ n, (Instr.lookup 130 (.map (some (w.heap.size + 1))) (.agg #[.int .i64 (src h x), .int .i64 (dst h x)]) false).run Try.prog (W3.drewN n) = .ok (.agg #[.bool a.1.win, .int .i64 a.1.idx, .bool a.1.back, .int .i64 a.2]) (W3.drewN n) :=
          fun n => (hm3.of_heap (W' := W3.drewN n) rfl).look pair_keyed (src h x, dst h x) ha
        have hfld : ∀ W, (Instr.field 134 (.agg #[.bool a.1.win, .int .i64 a.1.idx, .bool a.1.back, .int .i64 a.2]) 1).run Try.prog W = .ok (.int .i64 a.2) W := fun _ => by kernel_rfl
        have HM3 := Lib.hid hm3
        have HA := Lib.hid ha
        clear hm3 hE3 HM2 HS2 HC2 ha
        by_cases hc : cost h x < a.2
        · gi_wp2_with fail
          refine quietR (by kernel_rfl) (by kernel_rfl) ?_
          repeat (first | go_big_quiet_step (fail) | quiet_step (fail))
          refine wpQuiet_nil ?_
          rintro _ ⟨nq, rfl⟩
          clear hlk hfld
          gi_wp2_with fail
          refine tailR rfl rfl (by kernel_rfl) (by kernel_rfl) (by kernel_rfl) ?_
          dsimp only [List.dropLast]
          repeat (first | go_big_quiet_step (fail) | quiet_step (fail))
          refine wpQuiet_nil ?_
          rintro _ ⟨nq2, rfl⟩
          obtain ⟨W4, hup, hg4, hz4, hm4⟩ := (HM3.out.of_heap (W' := W3.drewN (nq + nq2)) rfl).upd pair_keyed (src h x, dst h x) (x, cost h x)
          simp only [kv, av] at hup
          have HM4 := Lib.hid hm4
          have HG4 := Lib.hid hg4
          clear hm4 hg4
          gi_wp2_with fail
          have hk34 : Kept (fun k => (k < W5.heap.size ∧ k ≠ w.heap.size + 1) ∨ O k ∨ k = W5.heap.size + 1 ∨ k + 1 = W5.heap.size + 1) W2 W4 :=
            ((Kept.of_below HE3.out).trans (Kept.of_below (Ext.drN (Below.refl _ W3) (nq + nq2)))).grown HG4.out (fun k e _ hk => by
              cases e
              rcases hk with hk | hk | hk | hk
              · exact hk.2 rfl
              · have := HO.out _ hk; omega
              · omega
              · omega)
          refine ⟨hk34, fun k hk => by have := HO.out k hk; omega, by have := hk34.size; omega, (HS3.out.ext' (Ext.drN (Below.refl _ _) (nq + nq2))).grown HG4.out, ?_, ?_⟩
          · refine IsRows.kept (S := fun k => k < W5.heap.size ∧ k ≠ w.heap.size + 1) ((Kept.refl _ (W3.drewN (nq + nq2))).grown HG4.out (fun k e _ hk => by cases e; exact hk.2 rfl)) ?_ (HC3.out.ext (Ext.drN (Below.refl _ _) _))
            rcases HB.out with e | e
            · exact .inl (by rw [e]; rfl)
            · exact .inr fun g hg => e g hg
          · rw [arcsUp_snoc]
            have : (fun k' => if k' = (src h x, dst h x) then some (x, cost h x) else arcsUp h pre k') = relax h (arcsUp h pre) x := by
              funext k
              unfold relax
              by_cases hk : k = (src h x, dst h x)
              · subst hk
                simp [HA.out, hc]
              · rw [if_neg hk]
                cases arcsUp h pre k <;> simp [hk]
            rw [← this]
            exact HM4.out
        · gi_wp2_with fail
          refine quietR (by kernel_rfl) (by kernel_rfl) ?_
          repeat (first | go_big_quiet_step (fail) | quiet_step (fail))
          refine wpQuiet_nil ?_
          rintro _ ⟨nq, rfl⟩
          clear hlk hfld
          gi_wp2_with fail
          have hk34 : Below W2.heap.size W2 (W3.drewN nq) := Ext.drN HE3.out nq
          refine ⟨.of_below hk34, fun k hk => by have := HO.out k hk; omega, by have := hk34.size; omega, HS3.out.ext' (Ext.drN (Below.refl _ _) nq), HC3.out.ext (Ext.drN (Below.refl _ _) nq), ?_⟩
          rw [arcsUp_snoc]
          have : arcsUp h pre = relax h (arcsUp h pre) x := by
            funext k
            unfold relax
            by_cases hk : k = (src h x, dst h x)
            · subst hk
              have : ¬ cost h x < a.2 := by omega
              simp [HA.out, this]
            · cases arcsUp h pre k <;> simp [hk]
          rw [← this]
          exact HM3.out.of_heap rfl
      case done =>
        rintro D O xs W hD rfl ⟨hO, hWs, hsh, hcs, hm⟩ hDk
        have HShD := Lib.hid hsh
        obtain ⟨_, hlt4, a0, c0, c1, c2, c3, hpt⟩ := hsh
        obtain ⟨es, c, hm1, ho, hbn, hget⟩ := hm
        have hrg := run_range pair_keyed hm1
        have hsz := hlt4
        have hl5 := HSh5.out.lt
        have HM1 := Lib.hid hm1
        have HO := Lib.hid ho
        have HBN := Lib.hid hbn
        have HGET := Lib.hid hget
        have HDK := Lib.hid hDk
        clear hm1 ho hbn hget hDk hO hWs hcs HX5 HM5 HSh5 hb5
        gi_wp2_with fail
        clear hrg
        obtain ⟨w6, rfl⟩ : ∃ w6 : World, w6 = W := ⟨_, rfl⟩
        gi_loopw [79] (fun _ W => ∃ seen : Array Nat, IsMap kv av W (w.heap.size + 1) (es.filter (keepE (fun a => decide (a.2 = nowh)) seen)) c ∧ W.heap[w6.heap.size]? = some (.mapIter (some (w.heap.size + 1)) c seen c) ∧ Sh w h (.slice sa h.cs.length cap) W ∧ w6.heap.size < W.heap.size ∧ W.heap[D]? = some (.deferred (some [])))
          (fun _ W => unmet es w6.heap.size W)
        case atStart =>
          refine ⟨#[], ?_, World.alloc_heap_new _ _, HShD.out.ext' (by repeat (first | exact Below.refl _ _ | refine Ext.al ?_ _ | refine Ext.dr ?_ | refine Ext.drN ?_ _ | refine Ext.gr ?_ _ | refine Ext.set ?_ (by simp) _ | (refine Ext.trans' ?_ (by assumption)))), by simp, ?_⟩
          · have : es.filter (keepE (fun a => decide (a.2 = nowh)) #[]) = es := by
              rw [List.filter_eq_self]; intro a _; simp [keepE]
            rw [this]
            exact (Below.heap_alloc _ _ _ (by omega)).trans HM1.out
          · exact (Below.heap_alloc _ _ _ (Array.getElem?_eq_some_iff.1 HDK.out).1).trans HDK.out
        case round =>
          obtain ⟨seen, hm1, hit, hsh, hltw, hDk⟩ := hrel
          have HSr := Lib.hid hsh
          have HDr := Lib.hid hDk
          rcases run_next (P := Try.prog) hm1 hit (fun e he => HBN.out.2 e (List.mem_filter.1 he).1) with ⟨hall, hrun⟩ | ⟨e, he, hs, W2, hheap, hos, htape, hout, hrun⟩
          · rw [keep_done _ _ hall] at hm1
            have HMr := Lib.hid hm1
            have hp2 := hsh.p
            clear hm1 hit hsh hDk hall hpt c0 c1 c2 c3 a0
            gi_wp2
            refine ⟨by simp, .inl ⟨_, _, rfl, run_takeDeferred HDr.out, ?_⟩⟩
            refine ⟨_, results_tmp rfl _ _ _, rfl, HSr.out.kept ((Kept.refl _ wr).putObj _ (fun _ hk => by omega)), ?_⟩
            refine MapIs.of_heap (W := wr) ?_ (World.putObj_heap_other (by omega))
            refine ⟨_, c, HMr.out, ?_, ⟨List.Nodup.sublist (List.Sublist.map _ List.filter_sublist) HBN.out.1, fun e he => HBN.out.2 e (List.mem_filter.1 he).1⟩, fun k => ?_⟩
            · exact List.Nodup.sublist (List.Sublist.map _ List.filter_sublist) HO.out
            · have hgf := getE_filter HO.out (fun a : Stp × Int => !(decide (a.2 = nowh))) k
              rw [HGET.out] at hgf
              rw [hgf]
              unfold arcs
              cases arcsUp h (stps h) k with
              | none => rfl
              | some a => by_cases ha : a.2 = nowh <;> simp [Option.filter, ha]
          · have hmem := (List.mem_filter.1 he).1
            have hlt2 : w6.heap.size < wr.heap.size := hltw
            have hg2 : wr.grownBy W2 (some w6.heap.size) := ⟨hos, htape, hout, by rw [hheap]; simp, fun k hk hne => by rw [hheap]; exact World.putObj_heap_other (fun e => hne (by rw [e]))⟩
            have hk2 : Kept (fun k => k ≠ w6.heap.size) wr W2 := (Kept.refl _ wr).grown hg2 (fun k e _ hk => by cases e; exact hk rfl)
            have hm2 : IsMap kv av W2 (w.heap.size + 1) (es.filter (keepE (fun a => decide (a.2 = nowh)) seen)) c := (hk2.same _ (Array.getElem?_eq_some_iff.1 hm1).1 (by omega)).trans hm1
            have hit2 : W2.heap[w6.heap.size]? = some (.mapIter (some (w.heap.size + 1)) c (seen.push e.2.2) c) := by rw [hheap]; exact World.putObj_heap_same hlt2
            have hsh2 := hsh.kept (hk2.mono fun k _ hk => by omega)
            have hD2 := (hk2.same D (Array.getElem?_eq_some_iff.1 hDk).1 (by have := (Array.getElem?_eq_some_iff.1 HDK.out).1; omega)).trans hDk
            have hen := run_entry (P := Try.prog) hm2 hit2 he (List.Nodup.sublist (List.Sublist.map _ List.filter_sublist) HBN.out.1)
            have hz2 := hk2.size
            have hun := unmet_lt hmem hs
            have HUN := Lib.hid hun
            have HM2 := Lib.hid hm2
            have HIT := Lib.hid hit
            have HIT2 := Lib.hid hit2
            have HS2 := Lib.hid hsh2
            have HD2 := Lib.hid hD2
            have HE := Lib.hid hmem
            clear hm1 hit hsh hDk he hs hheap hos htape hout hmem hg2 hk2 hm2 hit2 hsh2 hD2 hpt c0 c1 c2 c3 a0 hun
            simp only [kv, av] at hrun hen
            have hun2 : ∀ W', W'.heap[w6.heap.size]? = W2.heap[w6.heap.size]? → unmet es w6.heap.size W' < unmet es w6.heap.size wr := fun W' hW' => by
              unfold unmet
              rw [hW', HIT2.out, HIT.out]
              exact HUN.out
            have HUN2 := Lib.hid hun2
            clear hun2
            obtain ⟨W3, hW3⟩ : ∃ W3, (W2.alloc (.cells #[.int .i64 e.1.1, .int .i64 e.1.2] 137)).alloc (.cells #[.bool e.2.1.1.win, .int .i64 e.2.1.1.idx, .bool e.2.1.1.back, .int .i64 e.2.1.2] 134) = W3 := ⟨_, rfl⟩
            have hE3 : Ext W2 W3 := by rw [← hW3]; exact (by repeat (first | exact Below.refl _ _ | refine Ext.al ?_ _ | refine Ext.dr ?_ | refine Ext.drN ?_ _ | refine Ext.gr ?_ _ | refine Ext.set ?_ (by simp) _ | (refine Ext.trans' ?_ (by assumption))))
            have HW3 := Lib.hid hW3
            have HE3 := Lib.hid hE3
            have hb2 := (Array.getElem?_eq_some_iff.1 HIT2.out).1
            have hbm := (Array.getElem?_eq_some_iff.1 HM2.out).1
            have hbd := (Array.getElem?_eq_some_iff.1 HD2.out).1
            have hM3 : IsMap kv av W3 (w.heap.size + 1) (es.filter (keepE (fun a => decide (a.2 = nowh)) seen)) c := (hE3.block _ hbm).trans HM2.out
            have HM3 := Lib.hid hM3
            have hp2 := cell_ext hE3 HS2.out.p
            have hc2 := cell_ext hE3 HS2.out.c3
            have q0 : W3.cell? ⟨W2.heap.size, 0, none⟩ = some (.int .i64 e.1.1) := by rw [← hW3]; simp [go_sem]
            have q1 : W3.cell? ⟨W2.heap.size, 1, none⟩ = some (.int .i64 e.1.2) := by rw [← hW3]; simp [go_sem]
            clear hW3 hE3 hM3
            by_cases hcn : e.2.1.2 = 1099511627776
            · have hcb : (e.2.1.2 == 1099511627776) = true := by simpa using hcn
              have HCN := Lib.hid hcn
              clear hcn
              gi_wp2_with fail
              rw [HW3.out]
              refine tailT rfl rfl (by kernel_rfl) (by kernel_rfl) (by kernel_rfl) ?_
              dsimp only [List.dropLast]
              repeat (first | go_big_quiet_step (fail) | quiet_step (fail))
              refine wpQuiet_nil ?_
              rintro _ ⟨nq, rfl⟩
              obtain ⟨W4, hdel, hg4, hz4, hm4, _, _⟩ := MapIs.del pair_keyed (W := W3.drewN nq) HM3.out (List.Nodup.sublist (List.Sublist.map _ List.filter_sublist) HO.out) ⟨List.Nodup.sublist (List.Sublist.map _ List.filter_sublist) HBN.out.1, fun e he => HBN.out.2 e (List.mem_filter.1 he).1⟩ e.1 0
              simp only [kv] at hdel
              have hk4 : Kept (fun k => k ≠ w.heap.size + 1) W2 W4 := ((Kept.of_below HE3.out).trans (Kept.of_below (Ext.drN (Below.refl _ W3) nq))).grown hg4 (fun k e _ hk => by cases e; exact hk rfl)
              rw [keep_del HO.out HBN.out _ _ HE.out (decide_eq_true HCN.out)] at hm4
              have HM4 := Lib.hid hm4
              have HK4 := Lib.hid hk4
              clear hm4 hk4 hg4
              gi_wp2_with fail
              go_roundw
              case rel => exact ⟨_, HM4.out, (HK4.out.same _ hb2 (by omega)).trans HIT2.out, HS2.out.kept (HK4.out.mono fun k _ hk => hk.1), by have := HK4.out.size; omega, (HK4.out.same _ hbd (by omega)).trans HD2.out⟩
              case measure => exact HUN2.out _ (HK4.out.same _ hb2 (by omega))
            · have hcb : (e.2.1.2 == 1099511627776) = false := by simpa using hcn
              have HCN := Lib.hid hcn
              clear hcn
              gi_wp2_with fail
              rw [HW3.out]
              have hm4 := HM3.out
              rw [keep_same HBN.out _ _ HE.out (decide_eq_false HCN.out)] at hm4
              have HM4 := Lib.hid hm4
              clear hm4
              go_roundw
              case rel => exact ⟨_, HM4.out, (HE3.out.block _ hb2).trans HIT2.out, HS2.out.ext' HE3.out, by have := HE3.out.size; omega, (HE3.out.block _ hbd).trans HD2.out⟩
              case measure => exact HUN2.out _ (HE3.out.block _ hb2)

theorem newSheet_any (h : Hall) (sv : Value) (v : Valid h) (w : World) (hs : IsCnts w sv h.cs) :
    Calls Try.prog 96 #[.agg #[.int .i64 h.n, .int .i64 h.most, sv]] w fun e w' => e = .returned (.pointer (some ⟨w.heap.size + 1 + 1, 0, none⟩)) ∧ Sh w h sv w' ∧ MapIs kv av w' (w.heap.size + 1) (arcs h) :=
  callsIn_wide.1 (newSheet_in h sv v w hs)
end Go.Proofs.Ytgcldgchhdjnhaa
