/-
  The statement CutNarrower holds: with one more counter, or a narrower Count, no span is wider, and counters that agree then did before; truths that agree with it stay; for every hall and any numbers that are handed in. No condition.
-/
import Derived.Test.YtgcldgchhdjnhaaHeld
import Derived.Deep.Cut
import Derived.Test.YtgcldgchhdjnhaaOpenA
namespace Go.Proofs.Ytgcldgchhdjnhaa
open Go.RowKit Go.Shelf
/-- append onto an empty slice, in a plain walk -/
theorem wpNew {w : World} {ops : Array Oper} {rest : List Oper} {o : Oper} {a : Act} {Q : Exit → Act → World → Prop} (hgd : o.guard = none) (s x : Operand) {t e : TypeId} {sz : Nat} (el : El t e sz)
    (ho : o.op = .call { callee := .builtin .append, args := #[s, x], argTypes := #[t, t] }) (B : Nat) {v xv : Value} (hs : a.eval s = v) (hv : IsNew w B e sz v) (hx : a.eval x = xv) (news : List (List Value)) (hr : ∀ r ∈ news, r.length = sz) (hc : IsRows w sz xv news)
    (h1 : ∀ r ∈ news, ∀ u ∈ r, u.oneCell' = true) (hn : news.length ≤ 1000000) (hB : B ≤ w.heap.size)
    (h : ∀ v' w', Owns w' B e sz v' news → Ext w w' → wpList Try.prog ops Q rest (a.put o.dst v') w') : wpList Try.prog ops Q (o :: rest) a w :=
  wpList_plain hgd fun K hK => by
    obtain ⟨v', w', hrun, h2, h3⟩ := app_new el o.type B hv news hr hc h1 hn hB
    unfold Oper.wp execOp
    simp only [ho, resolve, invoke, builtin, Sem.run_bind, Sem.run_pure, Result.andThen_ok, List.map_toArray, List.map_cons, List.map_nil, hs, hx, hrun]
    exact hK _ _ (h v' w' h2 h3)
/-- a hall that says no less than another one -/
structure Narrower (x h : Hall) : Prop where
  n : x.n = h.n
  most : x.most = h.most
  valid : Valid x
  cs : ∀ c ∈ h.cs, ∃ c' ∈ x.cs, c'.f = c.f ∧ c'.t = c.t ∧ c.lo ≤ c'.lo ∧ c'.hi ≤ c.hi
theorem Narrower.pot {x h : Hall} (k : Narrower x h) {d : Nat → Int} (p : Pot x d) : Pot h d := by
  rw [pot_iff] at p ⊢
  rw [k.n, k.most] at p
  refine ⟨p.1, fun c hc => ?_⟩
  obtain ⟨c', h1, h2, h3, h4, h5⟩ := k.cs c hc
  have := p.2 c' h1
  rw [h2, h3] at this
  omega
theorem Narrower.truth {x h : Hall} (k : Narrower x h) {t : List Int} (i : IsTruth x t) : IsTruth h t :=
  ⟨i.len.trans k.n, fun y hy => by have := i.all y hy; rwa [k.most] at this, fun c hc => by
    obtain ⟨c', h1, h2, h3, h4, h5⟩ := k.cs c hc
    have := i.cnt c' h1
    rw [h2, h3] at this
    omega⟩
theorem Narrower.truthE {x h : Hall} (k : Narrower x h) (v : Valid h) {t : List Int} (e : truthE x t = 0) : Go.Proofs.Ytgcldgchhdjnhaa.truthE h t = 0 := truthE_iff.2 ⟨chk_of_valid v, k.truth (truthE_iff.1 e).2⟩
theorem Narrower.agr {x h : Hall} (k : Narrower x h) (v : Valid h) (e : (leastM x 0).2 = true) : (leastM h 0).2 = true := by
  obtain ⟨d, p⟩ := (agr_iff k.valid).1 e
  exact (agr_iff v).2 ⟨d, k.pot p⟩
theorem Narrower.ds {x h : Hall} (k : Narrower x h) (v : Valid h) (e : (leastM x 0).2 = true) {a b : Nat} (ha : (a : Int) ≤ h.n) (hb : (b : Int) ≤ h.n) : Go.Proofs.Ytgcldgchhdjnhaa.ds x a b ≤ Go.Proofs.Ytgcldgchhdjnhaa.ds h a b :=
  (ds_mono v k.valid ((agr_iff k.valid).1 e) k.n fun d p => k.pot p).2 a b ha hb
theorem narrower_with {h : Hall} (v : Valid h) (hl : h.cs.length < 10) {c : Cnt} (hc : 0 ≤ c.f ∧ c.f ≤ c.t ∧ c.t < h.n ∧ 0 ≤ c.lo ∧ c.lo ≤ c.hi ∧ c.hi ≤ 10000000) : Narrower (withH h c) h :=
  ⟨rfl, rfl, with_valid v hl hc, fun c hc => ⟨c, by simp [withH, hc], rfl, rfl, Int.le_refl _, Int.le_refl _⟩⟩
/-- the hall with a narrower Count -/
def setH (h : Hall) (k : Nat) (lo hi : Int) : Hall := { h with cs := h.cs.modify k fun c => ⟨c.f, c.t, lo, hi⟩ }
theorem narrower_set {h : Hall} (v : Valid h) {k : Nat} (hk : k < h.cs.length) {lo hi : Int} (h1 : (h.cs[k]).lo ≤ lo) (h2 : lo ≤ hi) (h3 : hi ≤ (h.cs[k]).hi) : Narrower (setH h k lo hi) h := by
  have hm : ∀ c ∈ (setH h k lo hi).cs, c ∈ h.cs ∨ c = ⟨(h.cs[k]).f, (h.cs[k]).t, lo, hi⟩ := fun c hc => by
    obtain ⟨i, hi', rfl⟩ := List.getElem_of_mem hc
    simp only [setH, List.length_modify] at hi'
    by_cases e : k = i
    · subst e; right; simp [setH]
    · left; simp only [setH, List.getElem_modify, if_neg e]; exact List.getElem_mem _
  have hb := v.cs _ (List.getElem_mem hk)
  refine ⟨rfl, rfl, ⟨v.n1, v.n10, by simpa [setH] using v.len, v.m0, v.m1, fun c hc => ?_⟩, fun c hc => ?_⟩
  · rcases hm c hc with hc | rfl
    · exact v.cs c hc
    · exact ⟨hb.1, hb.2.1, hb.2.2.1, Int.le_trans hb.2.2.2.1 h1, h2, Int.le_trans h3 hb.2.2.2.2.2⟩
  · obtain ⟨i, hi', rfl⟩ := List.getElem_of_mem hc
    have hi2 : i < (setH h k lo hi).cs.length := by simpa [setH] using hi'
    refine ⟨(setH h k lo hi).cs[i], List.getElem_mem _, ?_⟩
    by_cases e : k = i
    · subst e; exact ⟨by simp [setH], by simp [setH], by simpa [setH] using h1, by simpa [setH] using h3⟩
    · simp only [setH, List.getElem_modify, if_neg e]; exact ⟨trivial, trivial, Int.le_refl _, Int.le_refl _⟩
/-- where the narrower hall lies -/
def NarrowIn (h : Hall) (Y : World) (bx : Nat) (w : World) : Prop :=
  ∃ (x : Hall) (va : Option Addr) (vc : Nat), Ext Y w ∧ w.heap[bx]? = some (.cells #[.int .i64 h.n, .int .i64 h.most, .slice va x.cs.length vc] 24 (0, 0)) ∧ IsCnts w (.slice va x.cs.length vc) x.cs ∧ Narrower x h
/-- a row of a block of counters is turned -/
theorem set_count {w : World} {g : Nat} {T : TypeId} {cur : Array Value} {cs : List Cnt} {n cap : Nat} (hg : w.heap[g]? = some (.cells cur T (0, 0))) (h : IsCnts w (.slice (some ⟨g, 0, none⟩) n cap) cs) {k : Nat} (hk : k < cs.length) (lo hi : Int) :
    IsCnts ((w.setCell ⟨g, k * 4 + 2, none⟩ (.int .i64 lo)).setCell ⟨g, k * 4 + 3, none⟩ (.int .i64 hi)) (.slice (some ⟨g, 0, none⟩) n cap) (cs.modify k fun c => ⟨c.f, c.t, lo, hi⟩) := by
  have hg2 := heap_setCell_row (heap_setCell_row hg (k * 4 + 2) (.int .i64 lo)) (k * 4 + 3) (.int .i64 hi)
  have hr : RowsAt w 4 g 0 (cs.map Cnt.cells) := by
    obtain ⟨sa, cap', e, _, _, h4⟩ := h
    cases e
    rcases h4 with h4 | ⟨b', off', e, h4⟩
    · rw [h4]; exact fun i hi => by simp at hi
    · cases e; exact h4
  obtain ⟨sa, cap', e, e1, e2, -⟩ := h.spec
  cases e
  refine ⟨_, cap, by simp, by simpa using e1, e2, .inr ⟨g, 0, rfl, fun i hi' j hj => ?_⟩⟩
  have hil : i < cs.length := by simpa using hi'
  have hj4 : j < 4 := by simpa [Cnt.cells] using hj
  have hold := hr i (by simpa using hil) j (by simpa [Cnt.cells] using hj4)
  rw [cell_of_row _ _ _ _ _ _ hg, Nat.zero_add] at hold
  rw [cell_of_row _ _ _ _ _ _ hg2, Nat.zero_add]
  have hkr : ∀ j, (hj : j < 4) → ∃ u, cur[k * 4 + j]? = some u := fun j hj => by
    have := hr k (by simpa using hk) j (by simpa [Cnt.cells] using hj)
    rw [cell_of_row _ _ _ _ _ _ hg, Nat.zero_add] at this
    exact ⟨_, this⟩
  have hsz : k * 4 + 3 < cur.size := by
    obtain ⟨u, hu⟩ := hkr 3 (by omega)
    exact (Array.getElem?_eq_some_iff.1 hu).1
  have hcell : ∀ (c : Cnt), ((c.cells)[0]? = some (.int .i64 c.f)) ∧ ((c.cells)[1]? = some (.int .i64 c.t)) ∧ ((c.cells)[2]? = some (.int .i64 c.lo)) ∧ ((c.cells)[3]? = some (.int .i64 c.hi)) := fun c => by simp [Cnt.cells]
  have e1 : (cs.map Cnt.cells)[i]'(by simpa using hil) = (cs[i]).cells := by simp
  replace hold : cur[i * 4 + j]? = some ((cs[i]).cells[j]'(by simpa [Cnt.cells] using hj4)) := hold.trans (congrArg some (List.getElem_of_eq e1 _))
  by_cases e : k = i
  · subst e
    have e2 : ((cs.modify k fun c => ⟨c.f, c.t, lo, hi⟩).map Cnt.cells)[k]'hi' = Cnt.cells ⟨(cs[k]).f, (cs[k]).t, lo, hi⟩ := by simp
    rw [List.getElem_of_eq e2 hj]
    rcases (show j = 0 ∨ j = 1 ∨ j = 2 ∨ j = 3 by omega) with rfl | rfl | rfl | rfl
    · rw [set_off _ (by omega), set_off _ (by omega), hold]; rfl
    · rw [set_off _ (by omega), set_off _ (by omega), hold]; rfl
    · rw [set_off _ (by omega), set_on _ (by omega)]; rfl
    · rw [set_on _ (by simpa using hsz)]; rfl
  · have e2 : ((cs.modify k fun c => ⟨c.f, c.t, lo, hi⟩).map Cnt.cells)[i]'hi' = (cs[i]).cells := by simp [e]
    rw [List.getElem_of_eq e2 hj, set_off _ (by omega), set_off _ (by omega), hold]
section
open Go.ChangeShapes Go.WideShapes Go.ChangeAt
variable {H : Type} {enc : TypeId × Value → H} {W : World} {sp : Nat → Bool} {held : Bool} {base b0 : Nat} {r : Reach}
set_option maxRecDepth 100000 in
/-- numbers of any kind that are handed in -/
theorem openNumsK {k : IntKind} {t e : TypeId} (ht : Try.prog.underlying t = some (.slice e)) (he : Try.prog.underlying e = some (.int k)) (hc : Try.prog.cellsOf e = 1) {v : Value} {d : DataW H} {p : List MemPlace} (hv : Value.okWide Try.prog W r b0 t v) (h : DataW.Trod enc Try.prog W base sp held t v d p) :
    ∃ l : List Int, IsRows W 1 v (l.map fun n => [.int k n]) ∧ ∀ x ∈ l, (Lit.int k x).wf = true := by
  obtain ⟨a0, len, cap, rfl⟩ := okWide_slice ht hv
  obtain ⟨n, hn⟩ := h
  obtain ⟨rows, hr, hx⟩ := openRows ht hc (by omega) (v := .slice a0 len cap) (by simpa [Value.cells] using hn)
  have key : ∀ rs : List (List Value), (∀ row ∈ rs, row.length = 1 ∧ ∃ m y', DataW.trod enc Try.prog W base sp held m e row = some y') → ∃ l : List Int, rs = l.map (fun n => [Value.int k n]) ∧ ∀ x ∈ l, (Lit.int k x).wf = true := by
    intro rs
    induction rs with
    | nil => exact fun _ => ⟨[], rfl, by simp⟩
    | cons row rs ih =>
      intro hh
      obtain ⟨l, rfl, hl⟩ := ih fun r hr => hh r (by simp [hr])
      obtain ⟨_, m, y', ht⟩ := hh row (by simp)
      obtain ⟨x, rfl, _, hw⟩ := DataW.trod_int he ht
      exact ⟨x :: l, rfl, fun y hy => by rcases List.mem_cons.1 hy with rfl | hy; exact hw; exact hl y hy⟩
  obtain ⟨l, rfl, hl⟩ := key rows hx
  exact ⟨l, hr, hl⟩
set_option maxRecDepth 100000 in
/-- two numbers that are handed in as an array -/
theorem openPair32 {v : Value} {d : DataW H} {p : List MemPlace} (hv : Value.okWide Try.prog W r b0 74 v) (h : DataW.Trod enc Try.prog W base sp held 74 v d p) :
    ∃ a b : Int, v = .agg #[.int .u32 a, .int .u32 b] ∧ (Lit.int .u32 a).wf = true ∧ (Lit.int .u32 b).wf = true := by
  have hu := Try.underlying74
  have hc : Try.prog.cellsOf 64 = 1 := by kernel_rfl
  have hc2 : Try.prog.cellsOf 74 = 2 := by kernel_rfl
  obtain ⟨cs, rfl, hsz⟩ : ∃ cs, v = .agg cs ∧ cs.size = Try.prog.cellsOf 74 := by
    simp only [Value.okWide, hu] at hv
    obtain ⟨cs, h1, h2, _⟩ := hv
    exact ⟨cs, h1, h2⟩
  obtain ⟨c0, c1, rfl⟩ := Go.Joins.array2 (hsz.trans hc2)
  obtain ⟨fuel, hf⟩ := h
  obtain ⟨xs, m, _, _, _, hl, hel⟩ := DataW.trod_array hu hf
  have h0 := hel 0 (by omega)
  have h1 := hel 1 (by omega)
  simp [hc, Value.cells] at h0 h1
  obtain ⟨x0, e0⟩ : ∃ x, xs[0]? = some x := ⟨xs[0]'(by omega), List.getElem?_eq_getElem _⟩
  obtain ⟨x1, e1⟩ : ∃ x, xs[1]? = some x := ⟨xs[1]'(by omega), List.getElem?_eq_getElem _⟩
  rw [e0] at h0
  rw [e1] at h1
  obtain ⟨a, ea, _, wa⟩ := DataW.trod_int Try.underlying64 h0
  obtain ⟨b, eb, _, wb⟩ := DataW.trod_int Try.underlying64 h1
  cases ea; cases eb
  exact ⟨a, b, rfl, wa, wb⟩
end
set_option maxRecDepth 100000 in
set_option maxHeartbeats 4000000 in
theorem cutNarrower_any (h : Hall) (sv : Value) (f to which l0 l1 : Int) (bv : Value) (by_ : List Int) (w : World) (hs : IsCnts w sv h.cs) (wf : (Lit.int .u8 f).wf = true) (wt : (Lit.int .u8 to).wf = true) (ww : (Lit.int .u8 which).wf = true)
    (w0 : (Lit.int .u32 l0).wf = true) (w1 : (Lit.int .u32 l1).wf = true) (hb : IsRows w 1 bv (by_.map fun n => [.int .u32 n])) (hl : ∀ x ∈ by_, (Lit.int .u32 x).wf = true) :
    Calls Try.prog 11 #[.agg #[.int .i64 h.n, .int .i64 h.most, sv], .int .u8 f, .int .u8 to, .int .u8 which, .agg #[.int .u32 l0, .int .u32 l1], bv] w fun e w' => e = .returned (.bool true) ∧ Ext w w' := by
  obtain ⟨sa, cap, rfl, hl1, hl2, -⟩ := hs.spec
  obtain ⟨f0, f1⟩ := bounds_u8 wf
  obtain ⟨t0, t1⟩ := bounds_u8 wt
  obtain ⟨i0, i1⟩ := bounds_u8 ww
  obtain ⟨a0, a1⟩ := bounds_u32 w0
  obtain ⟨b0, b1⟩ := bounds_u32 w1
  have HL := Lib.hid (fun x hx => bounds_u32 (hl x hx))
  have hbk := hb
  obtain ⟨ba, bcap, rfl, hm1, hm2, -⟩ := hb
  simp only [List.length_map] at hm1 hbk ⊢
  have HS0 := Lib.hid hs
  have HBY0 := Lib.hid hbk
  clear hs wf wt ww w0 w1 hl hbk
  go_enter Try.func11, Try.ntmps11
  go_upto_region 1 with (fail)
  obtain ⟨W0, hW0⟩ : ∃ W0, W0 = (w.alloc (.cells #[.int .i64 h.n, .int .i64 h.most, .slice sa h.cs.length cap] 24)).alloc (.cells #[.int .u32 l0, .int .u32 l1] 74) := ⟨_, rfl⟩
  have hE : Ext w W0 := by rw [hW0]; exact (by repeat (first | exact Below.refl _ _ | refine Ext.al ?_ _ | refine Ext.dr ?_ | refine Ext.drN ?_ _ | refine Ext.gr ?_ _ | refine Ext.set ?_ (by simp) _ | (refine Ext.trans' ?_ (by assumption))))
  have k0 : W0.cell? ⟨w.heap.size, 0, none⟩ = some (.int .i64 h.n) := by rw [hW0]; simp [go_sem]
  have k1 : W0.cell? ⟨w.heap.size, 1, none⟩ = some (.int .i64 h.most) := by rw [hW0]; simp [go_sem]
  have k2 : W0.cell? ⟨w.heap.size, 2, none⟩ = some (.slice sa h.cs.length cap) := by rw [hW0]; simp [go_sem]
  have r0 : W0.cell? ⟨w.heap.size + 1, 0, none⟩ = some (.int .u32 l0) := by rw [hW0]; simp [go_sem]
  have r1 : W0.cell? ⟨w.heap.size + 1, 1, none⟩ = some (.int .u32 l1) := by rw [hW0]; simp [go_sem]
  have hz : w.heap.size < W0.heap.size := World.block_lt_of_cell? _ _ k0
  have hz2 : w.heap.size + 1 < W0.heap.size := World.block_lt_of_cell? _ _ r0
  have HS := Lib.hid (HS0.out.ext hE)
  have HBY := Lib.hid (HBY0.out.ext hE)
  have HW := Lib.hid hE
  rw [← hW0]
  clear hW0 HS0 HBY0 hE




  go_wp2_with fail
  refine callW (W0 := W0) (g := ⟨W0, Below.refl _ _⟩) (by exact (by repeat (first | exact Below.refl _ _ | refine Ext.al ?_ _ | refine Ext.dr ?_ | refine Ext.drN ?_ _ | refine Ext.gr ?_ _ | refine Ext.set ?_ (by simp) _ | (refine Ext.trans' ?_ (by assumption))))) (fine_any h _ _ (HS.out.ext (by exact (by repeat (first | exact Below.refl _ _ | refine Ext.al ?_ _ | refine Ext.dr ?_ | refine Ext.drN ?_ _ | refine Ext.gr ?_ _ | refine Ext.set ?_ (by simp) _ | (refine Ext.trans' ?_ (by assumption))))))) fun g1 hgr => ?_
  clear hgr
  by_cases hc : chk h = 0
  rotate_left
  · rw [show (chk h == 0) = false by simpa using hc]
    clear hc

    go_wp2_with fail
    refine callW (W0 := W0) (g := g1) (by exact (by repeat (first | exact Below.refl _ _ | refine Ext.al ?_ _ | refine Ext.dr ?_ | refine Ext.drN ?_ _ | refine Ext.gr ?_ _ | refine Ext.set ?_ (by simp) _ | (refine Ext.trans' ?_ (by assumption))))) (works_any _) fun g2 hgr => ?_
    clear hgr
    go_wp2_with fail
    go_ret
    exact ⟨rfl, HW.out.trans' (grow_below W0 g2)⟩

  rw [show (chk h == 0) = true by simpa using hc]
  by_cases h30 : 30 < by_.length
  · have h30' : decide ((30 : Int) < (by_.length : Int)) = true := decide_eq_true (by omega)
    clear h30 hc

    go_wp2_with fail
    refine callW (W0 := W0) (g := g1) (by exact (by repeat (first | exact Below.refl _ _ | refine Ext.al ?_ _ | refine Ext.dr ?_ | refine Ext.drN ?_ _ | refine Ext.gr ?_ _ | refine Ext.set ?_ (by simp) _ | (refine Ext.trans' ?_ (by assumption))))) (works_any _) fun g3 hgr => ?_
    clear hgr
    go_wp2_with fail
    go_ret
    exact ⟨rfl, HW.out.trans' (grow_below W0 g3)⟩

  have h30' : decide ((30 : Int) < (by_.length : Int)) = false := decide_eq_false (by omega)
  have V := Lib.hid (valid_of_chk hc)
  have n1 := V.out.n1
  have n10 := V.out.n10
  have m0 := V.out.m0
  have m1 := V.out.m1
  have hlen := V.out.len
  have HC := Lib.hid hc
  clear hc h30
  obtain ⟨A, hA, hAn⟩ := modN f0 n1
  obtain ⟨T, hT, hTn⟩ := modN (n := h.n - A) t0 (by omega)
  obtain ⟨B, hB⟩ : ∃ B : Nat, (A : Int) + T = B := ⟨A + T, by omega⟩
  have hAB : A ≤ B := by omega
  have hBn : (B : Int) < h.n := by omega
  go_upto_region 5 with (fail)
  simp only [hA, hT]
  clear hA hT hB f0 f1 t0 t1
  obtain ⟨q, hq⟩ : ∃ q, l0.tmod 10000001 = q := ⟨_, rfl⟩
  have q0 : 0 ≤ q := by rw [← hq, Int.tmod_eq_emod_of_nonneg a0]; exact Int.emod_nonneg _ (by omega)
  have q1 : q ≤ 10000000 := by rw [← hq, Int.tmod_eq_emod_of_nonneg a0]; have := Int.emod_lt_of_pos l0 (show (0 : Int) < 10000001 by omega); omega
  have hw0 : IntKind.i64.wrap l0 = l0 := IntWalk.i64_in _ (by omega)
  obtain ⟨Y0, hY0⟩ : ∃ zz9, zz9 = (grow W0 g1) := ⟨_, rfl⟩
  have eY0 : Ext W0 Y0 := by rw [hY0]; exact (by repeat (first | exact Below.refl _ _ | refine Ext.al ?_ _ | refine Ext.dr ?_ | refine Ext.drN ?_ _ | refine Ext.gr ?_ _ | refine Ext.set ?_ (by simp) _ | (refine Ext.trans' ?_ (by assumption))))
  replace k0 := cell_ext eY0 k0
  replace k1 := cell_ext eY0 k1
  replace k2 := cell_ext eY0 k2
  replace r0 := cell_ext eY0 r0
  replace r1 := cell_ext eY0 r1
  replace HS := Lib.hid (HS.out.ext eY0)
  replace HBY := Lib.hid (HBY.out.ext eY0)
  replace HW := Lib.hid (HW.out.trans' eY0)
  rw [← hY0]
  replace hz := World.block_lt_of_cell? _ _ k0
  replace hz2 := World.block_lt_of_cell? _ _ r0
  clear hY0 eY0
  have hw := fun w hs => with_own h (.slice sa h.cs.length cap) ⟨(A : Int), (B : Int), q, 10000000⟩ w hs (by omega)
  have CW := Lib.hid hw
  clear hw
  refine wp_region_rove_tail rfl rfl (by kernel_rfl) (Y0.heap.size) (Nat.le_refl _)
    [sqV (.agg #[.int .i64 h.n, .int .i64 h.most, .slice sa h.cs.length cap]),
     sqV (.int .i64 A),
     sqV (.int .i64 B),
     sqV (.pointer (some ⟨w.heap.size + 1, 0, none⟩)),
     sqV (.int .u32 l0),
     sqV (.int .i64 l0),
     sqV (.int .i64 q),
     sqV (.agg #[.int .i64 A, .int .i64 B, .int .i64 q, .int .i64 10000000]),
     sqW (fun v W => ∃ sv', v = .agg #[.int .i64 h.n, .int .i64 h.most, sv'] ∧ Owns W Y0.heap.size 70 4 sv' ((h.cs ++ [(⟨(A : Int), (B : Int), q, 10000000⟩ : Cnt)]).map Cnt.cells)) (fun _ _ _ ⟨sv', h1, h2⟩ e => ⟨sv', h1, h2.ext e⟩),
     sqW (fun v W => ∃ b, v = .pointer (some ⟨b, 0, none⟩) ∧ Y0.heap.size ≤ b ∧ W.heap[b]? = some (.cells #[.int .i64 0, .int .i64 0, .slice none 0 0] 24 (0, 0))) (fun _ _ _ ⟨b, h1, h2, h3⟩ e => ⟨b, h1, h2, (e.block _ (Array.getElem?_eq_some_iff.1 h3).1).trans h3⟩)]
    [true, true, true, true, true, true, true, true, false, false] [false, false, false, false, false, false, false, false, false, false] [true, true, true, true, true, true, true, true, true, true] [true, true, true, true, true, true, true, true, true, true]
    (by kernel_rfl) (by kernel_rfl) (by decide +kernel) (by decide +kernel) (by decide +kernel) rfl rfl ⟨?s0, ?s1, ?s2, ?s3, ?s4, ?s5, ?s6, ?s7, ?s8, ?s9, trivial⟩ [some 45, some 46, some 47, some 48, some 49, some 50, some 51, some 52, some 53, some 15] rfl rfl ?send
  case s0 =>
    intro val ρ W hE hz hd hA hx
    have o0 : ρ (.tmp 6) = .pointer (some ⟨w.heap.size, 0, none⟩) := hA.old 6 (by decide)
    have f_k0 := cell_below hE (by simp only; omega) k0
    have f_k1 := cell_below hE (by simp only; omega) k1
    have f_k2 := cell_below hE (by simp only; omega) k2
    clear hd
    exact runq_val (W' := W) (by simp [execOp, o0, f_k0, f_k1, f_k2, go_sem]) (Below.refl _ _) rfl
  case s1 =>
    intro val ρ W hE hz hd hA hx
    have o0 : ρ (.tmp 13) = .int .i64 A := hA.old 13 (by decide)
    clear hd
    exact runq_val (W' := W) (by simp [execOp, o0, go_sem]) (Below.refl _ _) rfl
  case s2 =>
    intro val ρ W hE hz hd hA hx
    have o0 : ρ (.tmp 14) = .int .i64 B := hA.old 14 (by decide)
    clear hd
    exact runq_val (W' := W) (by simp [execOp, o0, go_sem]) (Below.refl _ _) rfl
  case s3 =>
    intro val ρ W hE hz hd hA hx
    have o0 : ρ (.tmp 10) = .pointer (some ⟨w.heap.size + 1, 0, none⟩) := hA.old 10 (by decide)
    clear hd
    exact runq_val (W' := W) (by simp [execOp, hA.const, o0, go_sem]) (Below.refl _ _) rfl
  case s4 =>
    intro val ρ W hE hz hd hA hx
    have d3 : ρ (.tmp 48) = .pointer (some ⟨w.heap.size + 1, 0, none⟩) := (hA.dep 3 (by decide) 48 rfl).trans (hd 3 (by decide))
    have f_r0 := cell_below hE (by simp only; omega) r0
    clear hd
    exact runq_val (W' := W) (by simp [execOp, d3, f_r0, go_sem]) (Below.refl _ _) rfl
  case s5 =>
    intro val ρ W hE hz hd hA hx
    have d4 : ρ (.tmp 49) = .int .u32 l0 := (hA.dep 4 (by decide) 49 rfl).trans (hd 4 (by decide))
    clear hd
    exact runq_val (W' := W) (by simp [execOp, d4, hw0, go_sem]) (Below.refl _ _) rfl
  case s6 =>
    intro val ρ W hE hz hd hA hx
    have d5 : ρ (.tmp 50) = .int .i64 l0 := (hA.dep 5 (by decide) 50 rfl).trans (hd 5 (by decide))
    clear hd
    exact runq_val (W' := W) (by simp [execOp, hA.const, d5, hq, go_sem]) (Below.refl _ _) rfl
  case s7 =>
    intro val ρ W hE hz hd hA hx
    have d1 : ρ (.tmp 46) = .int .i64 A := (hA.dep 1 (by decide) 46 rfl).trans (hd 1 (by decide))
    have d2 : ρ (.tmp 47) = .int .i64 B := (hA.dep 2 (by decide) 47 rfl).trans (hd 2 (by decide))
    have d6 : ρ (.tmp 51) = .int .i64 q := (hA.dep 6 (by decide) 51 rfl).trans (hd 6 (by decide))
    clear hd
    refine runq_call 50 _ _ rfl #[.int .i64 A, .int .i64 B, .int .i64 q, .int .i64 10000000] (hA.func _) (by simp [d1, d2, d6, hA.const]) (fun args W => Try.call50 args W) ((counter_any _ _ _ _ W).mono ?_)
    rintro e w' ⟨rfl, hb⟩
    exact ⟨_, rfl, hb, rfl⟩
  case s8 =>
    intro val ρ W hE hz hd hA hx
    have d0 : ρ (.tmp 45) = .agg #[.int .i64 h.n, .int .i64 h.most, .slice sa h.cs.length cap] := (hA.dep 0 (by decide) 45 rfl).trans (hd 0 (by decide))
    have d5 : ρ (.tmp 52) = .agg #[.int .i64 A, .int .i64 B, .int .i64 q, .int .i64 10000000] := (hA.dep 7 (by decide) 52 rfl).trans (hd 7 (by decide))
    clear hd
    refine runq_call 49 _ _ rfl #[.agg #[.int .i64 h.n, .int .i64 h.most, .slice sa h.cs.length cap], .agg #[.int .i64 A, .int .i64 B, .int .i64 q, .int .i64 10000000]] (hA.func _) (by simp [d0, d5]) (fun args W => Try.call49 args W) ((CW.out W (HS.out.ext hE)).mono ?_)
    rintro e w' ⟨sv', rfl, hb, hs⟩
    exact ⟨_, rfl, hb, sv', rfl, hs.base hz⟩
  case s9 =>
    intro val ρ W hE hz hd hA hx
    refine runq_val (W' := W.alloc (.cells #[.int .i64 0, .int .i64 0, .slice none 0 0] 24)) (v := .pointer (some ⟨W.heap.size, 0, none⟩)) (by simp [execOp, go_sem]) (by repeat (first | exact Below.refl _ _ | refine Ext.al ?_ _ | refine Ext.dr ?_ | refine Ext.drN ?_ _ | refine Ext.gr ?_ _ | refine Ext.set ?_ (by simp) _ | (refine Ext.trans' ?_ (by assumption)))) ⟨_, rfl, hz, ?_⟩
    show (W.heap.push _)[W.heap.size]? = _
    rw [Array.getElem?_push, if_pos rfl]
  case send =>
    intro val WW hE hzz hv
    obtain ⟨-, -, -, -, -, -, -, -, x8, x9, -⟩ := hv
    obtain ⟨sv', e8, i8⟩ : ∃ sv', val 8 = .agg #[.int .i64 h.n, .int .i64 h.most, sv'] ∧ Owns WW Y0.heap.size 70 4 sv' ((h.cs ++ [(⟨(A : Int), (B : Int), q, 10000000⟩ : Cnt)]).map Cnt.cells) := x8
    obtain ⟨bx, e9, g9, j9⟩ : ∃ b, val 9 = .pointer (some ⟨b, 0, none⟩) ∧ Y0.heap.size ≤ b ∧ WW.heap[b]? = some (.cells #[.int .i64 0, .int .i64 0, .slice none 0 0] 24 (0, 0)) := x9
    have b0' : WW.cell? ⟨bx, 0, none⟩ = some (.int .i64 0) := by rw [cell_of_row _ _ _ _ _ _ j9]; rfl
    have b1' : WW.cell? ⟨bx, 1, none⟩ = some (.int .i64 0) := by rw [cell_of_row _ _ _ _ _ _ j9]; rfl
    have b2' : WW.cell? ⟨bx, 2, none⟩ = some (.slice none 0 0) := by rw [cell_of_row _ _ _ _ _ _ j9]; rfl
    have bf : ∀ o, WW.frozen? ⟨bx, o, none⟩ = false := fun o => by simp [World.frozen?, j9]
    obtain ⟨xa, xn, xcap, rfl⟩ := i8.isSlice
    have hxn : xn = h.cs.length + 1 := by have := i8.src.1; simpa using this
    subst hxn
    have HX := Lib.hid i8
    have HJ := Lib.hid j9
    have hbb : bx < WW.heap.size := (Array.getElem?_eq_some_iff.1 j9).1
    have HEE := Lib.hid hE
    clear i8 j9 hE hw0 hq CW
    simp only [putD, e8, e9]
    go_frame
    clear e8 e9
    go_upto_region 6 with (fail)
    have hxz := ((HX.out.setOther HJ.out (by decide) 0 (.int .i64 h.n)).setOther (heap_setCell_row HJ.out 0 _) (by decide) 1 (.int .i64 h.most)).setOther (heap_setCell_row (heap_setCell_row HJ.out 0 _) 1 _) (by decide) 2 (.slice xa (h.cs.length + 1) xcap)
    have hjz := heap_setCell_row (heap_setCell_row (heap_setCell_row HJ.out 0 (.int .i64 h.n)) 1 (.int .i64 h.most)) 2 (.slice xa (h.cs.length + 1) xcap)
    obtain ⟨Z0, hZ0⟩ : ∃ Z0, Z0 = ((WW.setCell ⟨bx, 0, none⟩ (.int .i64 h.n)).setCell ⟨bx, 1, none⟩ (.int .i64 h.most)).setCell ⟨bx, 2, none⟩ (.slice xa (h.cs.length + 1) xcap) := ⟨_, rfl⟩
    rw [← hZ0] at hxz hjz ⊢
    have hEZ : Ext Y0 Z0 := by rw [hZ0]; exact ((HEE.out.setCell (by simp only; omega) _).setCell (by simp only; omega) _).setCell (by simp only; omega) _
    have hjz : Z0.heap[bx]? = some (.cells #[.int .i64 h.n, .int .i64 h.most, .slice xa (h.cs.length + 1) xcap] 24 (0, 0)) := hjz
    have hbz : bx < Z0.heap.size := (Array.getElem?_eq_some_iff.1 hjz).1
    have k2z := cell_ext hEZ k2
    have HXZ := Lib.hid hxz
    have HJZ := Lib.hid hjz
    have HEZ := Lib.hid hEZ
    clear hxz hjz b0' b1' b2' bf HX HJ HEE hzz hbb hZ0 hEZ
    obtain ⟨nb, hnb⟩ : ∃ nb, nb = (decide (10 ≤ h.cs.length) || (decide (0 < h.cs.length) && decide (which % 2 = 0))) := ⟨_, rfl⟩
    have HNB := Lib.hid hnb
    clear hnb
    go_cut [68] from 54 (fun v wx => v = .bool nb ∧ Z0 = wx)
    case first =>
      by_cases c1 : 10 ≤ h.cs.length
      · have c1' : decide ((10 : Int) ≤ (h.cs.length : Int)) = true := decide_eq_true (by omega)
        go_wp2_with fail
        go_meet
        case rel => exact ⟨by rw [HNB.out]; simp [c1], rfl⟩
      have c1' : decide ((10 : Int) ≤ (h.cs.length : Int)) = false := decide_eq_false (by omega)
      by_cases c0 : 0 < h.cs.length
      · have c0' : decide ((0 : Int) < (h.cs.length : Int)) = true := decide_eq_true (by omega)
        by_cases c2 : which % 2 = 0
        · go_wp2_with fail
          go_meet
          case rel => exact ⟨by rw [HNB.out]; simp [c0, c2], rfl⟩
        · have c2' : (which % 2 == 0) = false := by simpa using c2
          go_wp2_with fail
          go_meet
          case rel => exact ⟨by rw [HNB.out]; simp [c1, c2], rfl⟩
      · have c0' : decide ((0 : Int) < (h.cs.length : Int)) = false := decide_eq_false (by omega)
        go_wp2_with fail
        go_meet
        case rel => exact ⟨by rw [HNB.out]; simp [c1, c0], rfl⟩
    case rest =>
      obtain ⟨rfl, rfl⟩ := hcut
      go_upto_if 68 with (fail)
      go_cut [] from 69 (fun wx => NarrowIn h Y0 bx wx)
      case first =>
        cases nb
        · have hl10 : h.cs.length < 10 := by
            have := HNB.out
            simp at this
            omega
          go_wp2_with fail
          go_meet
          case rel =>
            refine ⟨withH h ⟨A, B, q, 10000000⟩, xa, xcap, HEZ.out, by rw [show (withH h ⟨A, B, q, 10000000⟩).cs.length = h.cs.length + 1 by simp [withH]]; exact HJZ.out, ?_, narrower_with V.out hl10 ⟨by simp only; omega, by simp only; omega, hBn, q0, q1, Int.le_refl _⟩⟩
            rw [show (withH h ⟨A, B, q, 10000000⟩).cs.length = h.cs.length + 1 by simp [withH]]
            exact HXZ.out.isRows
        · have hl0 : 0 < h.cs.length := by
            have := HNB.out
            simp at this
            omega
          obtain ⟨K, hK, hKn⟩ := modN (n := (h.cs.length : Int)) i0 (by omega)
          have hKl : K < h.cs.length := by omega
          go_upto_region 8 with (fail)
          simp only [hK]
          clear hK
          have bz2 : Z0.cell? ⟨bx, 2, none⟩ = some (.slice xa (h.cs.length + 1) xcap) := by rw [cell_of_row _ _ _ _ _ _ HJZ.out]; rfl
          have bfz : Z0.frozen? ⟨bx, 2, none⟩ = false := by simp [World.frozen?, HJZ.out]
          have hsz : Y0.heap.size ≤ Z0.heap.size := HEZ.out.size
          have hzz : w.heap.size < Z0.heap.size := Nat.lt_of_lt_of_le hz hsz
          go_wp2_with (at_builtin; refine wpNew rfl (.tmp 75) (.tmp 77) elCnt rfl Z0.heap.size rfl (isNew _ _ _ _ (Nat.le_refl _)) rfl (h.cs.map Cnt.cells) cnt_len (HS.out.ext (HEZ.out.trans' (by exact (by repeat (first | exact Below.refl _ _ | refine Ext.al ?_ _ | refine Ext.dr ?_ | refine Ext.drN ?_ _ | refine Ext.gr ?_ _ | refine Ext.set ?_ (by simp) _ | (refine Ext.trans' ?_ (by assumption))))))) cnt_one (by simp; omega) (by simp) ?_)
          intro v' w' hown' hE'
          obtain ⟨g, xc, cur, hgv, hgz, hgw, hcell, hxc1, hxc2⟩ : ∃ g xc cur, v' = .slice (some ⟨g, 0, none⟩) h.cs.length xc ∧ Z0.heap.size ≤ g ∧ w'.heap[g]? = some (.cells cur 70 (0, 0)) ∧ RowsAt w' 4 g 0 (h.cs.map Cnt.cells) ∧ h.cs.length ≤ xc ∧ xc ≤ 9223372036854775807 := by
            have h6 := hown'.isRows
            rcases hown'.1.2 with ⟨_, e⟩ | ⟨g, cap', cur, hv, hB, hg, _⟩
            · rw [List.length_map] at e; omega
            · obtain ⟨sa6, cap6, e6, h61, h62, h7⟩ := h6
              rw [hv] at e6
              cases e6
              refine ⟨g, cap', cur, by rw [hv]; simp, hB, hg, ?_, by simpa using h61, h62⟩
              rcases h7 with h7 | ⟨b, off, e, h7⟩
              · rw [h7]; exact fun i hi => by simp at hi
              · cases e; exact h7
          subst hgv
          have hE2 : Ext Z0 w' := Ext.trans' (by exact (by repeat (first | exact Below.refl _ _ | refine Ext.al ?_ _ | refine Ext.dr ?_ | refine Ext.drN ?_ _ | refine Ext.gr ?_ _ | refine Ext.set ?_ (by simp) _ | (refine Ext.trans' ?_ (by assumption))))) hE'
          have hjw : w'.heap[bx]? = some (.cells #[.int .i64 h.n, .int .i64 h.most, .slice xa (h.cs.length + 1) xcap] 24 (0, 0)) := (hE2.block _ hbz).trans HJZ.out
          have bw2 : w'.cell? ⟨bx, 2, none⟩ = some (.slice xa (h.cs.length + 1) xcap) := by rw [cell_of_row _ _ _ _ _ _ hjw]; rfl
          have bfw : w'.frozen? ⟨bx, 2, none⟩ = false := by simp [World.frozen?, hjw]
          have HCL := Lib.hid hcell
          have HGW := Lib.hid hgw
          have HJW := Lib.hid hjw
          have HE2 := Lib.hid hE2
          clear hown' hE' hcell hgw hjw hE2
          go_upto_region 9 with (fail)
          have hjv := heap_setCell_row HJW.out 2 (.slice (some ⟨g, 0, none⟩) h.cs.length xc)
          have hgv : (w'.setCell ⟨bx, 2, none⟩ (.slice (some ⟨g, 0, none⟩) h.cs.length xc)).heap[g]? = some (.cells cur 70 (0, 0)) := (Below.heap_setCell _ _ _ _ (by simp only; omega)).trans HGW.out
          have hcv : RowsAt (w'.setCell ⟨bx, 2, none⟩ (.slice (some ⟨g, 0, none⟩) h.cs.length xc)) 4 g 0 (h.cs.map Cnt.cells) := fun i hi j hj => by
            have := HCL.out i hi j hj
            rw [cell_of_row _ _ _ _ _ _ HGW.out] at this
            rw [cell_of_row _ _ _ _ _ _ hgv]
            exact this
          have hEV : Ext Y0 (w'.setCell ⟨bx, 2, none⟩ (.slice (some ⟨g, 0, none⟩) h.cs.length xc)) := (HEZ.out.trans' HE2.out).setCell (by simp only; omega) _
          obtain ⟨V2, hV2⟩ : ∃ V2, V2 = w'.setCell ⟨bx, 2, none⟩ (.slice (some ⟨g, 0, none⟩) h.cs.length xc) := ⟨_, rfl⟩
          rw [← hV2] at hjv hgv hcv hEV ⊢
          have hjv : V2.heap[bx]? = some (.cells #[.int .i64 h.n, .int .i64 h.most, .slice (some ⟨g, 0, none⟩) h.cs.length xc] 24 (0, 0)) := hjv
          have bv2 : V2.cell? ⟨bx, 2, none⟩ = some (.slice (some ⟨g, 0, none⟩) h.cs.length xc) := by rw [cell_of_row _ _ _ _ _ _ hjv]; rfl
          have r0v := cell_ext hEV r0
          have r1v := cell_ext hEV r1
          have hcb := V.out.cs h.cs[K] (List.getElem_mem hKl)
          obtain ⟨e2, e3⟩ : V2.cell? ⟨g, K * 4 + 2, none⟩ = some (.int .i64 (h.cs[K]).lo) ∧ V2.cell? ⟨g, K * 4 + 3, none⟩ = some (.int .i64 (h.cs[K]).hi) := by
            have h2 := hcv K (by simpa using hKl) 2 (by simp [Cnt.cells])
            have h3 := hcv K (by simpa using hKl) 3 (by simp [Cnt.cells])
            simp [Cnt.cells] at h2 h3
            exact ⟨h2, h3⟩
          obtain ⟨lo, hlo⟩ : ∃ lo, lo = (h.cs[K]).lo := ⟨_, rfl⟩
          obtain ⟨hi, hhi⟩ : ∃ hi, hi = (h.cs[K]).hi := ⟨_, rfl⟩
          rw [← hlo] at e2 hcb
          rw [← hhi] at e3 hcb
          obtain ⟨-, -, -, cb1, cb2, cb3⟩ := hcb
          obtain ⟨r, hr⟩ : ∃ r, l0 % (hi - lo + 1) = r := ⟨_, rfl⟩
          obtain ⟨t, ht⟩ : ∃ t, l1 % (hi - (lo + r) + 1) = t := ⟨_, rfl⟩
          have rb0 : 0 ≤ r := by rw [← hr]; exact Int.emod_nonneg _ (by omega)
          have rb1 : r ≤ hi - lo := by have := Int.emod_lt_of_pos l0 (show 0 < hi - lo + 1 by omega); omega
          have tb0 : 0 ≤ t := by rw [← ht]; exact Int.emod_nonneg _ (by omega)
          have tb1 : t ≤ hi - (lo + r) := by have := Int.emod_lt_of_pos l1 (show 0 < hi - (lo + r) + 1 by omega); omega
          have CI := Lib.hid (fun W => inside_any lo hi l0 l1 r t W cb1 cb2 cb3 a0 a1 b0 b1 hr ht)
          have hnr := narrower_set V.out hKl (lo := lo + r) (hi := lo + r + t) (by omega) (by omega) (by omega)
          have HNR := Lib.hid hnr
          have HJV := Lib.hid hjv
          have HGV := Lib.hid hgv
          have HCV := Lib.hid hcv
          have HEV := Lib.hid hEV
          have hbv : bx < V2.heap.size := (Array.getElem?_eq_some_iff.1 hjv).1
          have hgs : g < V2.heap.size := (Array.getElem?_eq_some_iff.1 hgv).1
          have hzv : w.heap.size + 1 < V2.heap.size := World.block_lt_of_cell? _ _ r0v
          have hKi : (K : Int) < (h.cs.length : Int) := by omega
          clear hV2 hjv hgv hcv hEV hlo hhi hr ht hnr bw2 bfw
          refine wp_region_rove_tail rfl rfl (by kernel_rfl) (V2.heap.size) (Nat.le_refl _)
            [sqV (.pointer (some ⟨bx, 2, none⟩)),
             sqV (.slice (some ⟨g, 0, none⟩) h.cs.length xc),
             sqV (.int .i64 K),
             sqV (.pointer (some ⟨bx, 2, none⟩)),
             sqV (.slice (some ⟨g, 0, none⟩) h.cs.length xc),
             sqV (.int .i64 K),
             sqV (.pointer (some ⟨g, K * 4, none⟩)),
             sqV (.pointer (some ⟨g, K * 4 + 2, none⟩)),
             sqV (.agg #[.int .i64 lo, .int .i64 hi]),
             sqV (.pointer (some ⟨w.heap.size + 1, 0, none⟩)),
             sqV (.int .u32 l0),
             sqV (.pointer (some ⟨w.heap.size + 1, 1, none⟩)),
             sqV (.int .u32 l1),
             sqV (.agg #[.int .i64 (lo + r), .int .i64 (lo + r + t)]),
             sqV (.pointer (some ⟨g, K * 4, none⟩)),
             sqV (.pointer (some ⟨g, K * 4 + 2, none⟩))]
            [true, true, true, true, true, true, true, true, true, true, true, true, true, true, true, true] [false, false, false, false, false, false, false, false, false, false, false, false, false, false, false, false] [true, true, true, true, true, true, true, true, true, true, true, true, true, true, true, true] [true, true, true, true, true, true, true, true, true, true, true, true, true, true, true, true]
            (by kernel_rfl) (by kernel_rfl) (by decide +kernel) (by decide +kernel) (by decide +kernel) rfl rfl ⟨?s0, ?s1, ?s2, ?s3, ?s4, ?s5, ?s6, ?s7, ?s8, ?s9, ?s10, ?s11, ?s12, ?s13, ?s14, ?s15, trivial⟩ [some 80, some 81, some 82, some 83, some 84, some 85, some 86, some 87, some 88, some 89, some 90, some 91, some 92, some 93, some 94, some 95] rfl rfl ?send
          case s0 =>
            intro val ρ W hE hz hd hA hx
            have o0 : ρ (.tmp 15) = .pointer (some ⟨bx, 0, none⟩) := hA.old 15 (by decide)
            clear hd
            exact runq_val (W' := W) (by simp [execOp, o0, go_sem]) (Below.refl _ _) rfl
          case s1 =>
            intro val ρ W hE hz hd hA hx
            have d0 : ρ (.tmp 80) = .pointer (some ⟨bx, 2, none⟩) := (hA.dep 0 (by decide) 80 rfl).trans (hd 0 (by decide))
            have f_bv2 := cell_below hE (by simp only; omega) bv2
            clear hd
            exact runq_val (W' := W) (by simp [execOp, d0, f_bv2, go_sem]) (Below.refl _ _) rfl
          case s2 =>
            intro val ρ W hE hz hd hA hx
            have o0 : ρ (.tmp 16) = .int .i64 K := hA.old 16 (by decide)
            clear hd
            exact runq_val (W' := W) (by simp [execOp, o0, go_sem]) (Below.refl _ _) rfl
          case s3 =>
            intro val ρ W hE hz hd hA hx
            have o0 : ρ (.tmp 15) = .pointer (some ⟨bx, 0, none⟩) := hA.old 15 (by decide)
            clear hd
            exact runq_val (W' := W) (by simp [execOp, o0, go_sem]) (Below.refl _ _) rfl
          case s4 =>
            intro val ρ W hE hz hd hA hx
            have d3 : ρ (.tmp 83) = .pointer (some ⟨bx, 2, none⟩) := (hA.dep 3 (by decide) 83 rfl).trans (hd 3 (by decide))
            have f_bv2 := cell_below hE (by simp only; omega) bv2
            clear hd
            exact runq_val (W' := W) (by simp [execOp, d3, f_bv2, go_sem]) (Below.refl _ _) rfl
          case s5 =>
            intro val ρ W hE hz hd hA hx
            have o0 : ρ (.tmp 16) = .int .i64 K := hA.old 16 (by decide)
            clear hd
            exact runq_val (W' := W) (by simp [execOp, o0, go_sem]) (Below.refl _ _) rfl
          case s6 =>
            intro val ρ W hE hz hd hA hx
            have d4 : ρ (.tmp 84) = .slice (some ⟨g, 0, none⟩) h.cs.length xc := (hA.dep 4 (by decide) 84 rfl).trans (hd 4 (by decide))
            have d5 : ρ (.tmp 85) = .int .i64 K := (hA.dep 5 (by decide) 85 rfl).trans (hd 5 (by decide))
            clear hd
            exact runq_val (W' := W) (by simp [execOp, d4, d5, hKl, go_sem]) (Below.refl _ _) rfl
          case s7 =>
            intro val ρ W hE hz hd hA hx
            have d6 : ρ (.tmp 86) = .pointer (some ⟨g, K * 4, none⟩) := (hA.dep 6 (by decide) 86 rfl).trans (hd 6 (by decide))
            clear hd
            exact runq_val (W' := W) (by simp [execOp, d6, go_sem]) (Below.refl _ _) rfl
          case s8 =>
            intro val ρ W hE hz hd hA hx
            have d7 : ρ (.tmp 87) = .pointer (some ⟨g, K * 4 + 2, none⟩) := (hA.dep 7 (by decide) 87 rfl).trans (hd 7 (by decide))
            have f_e2 := cell_below hE (by simp only; omega) e2
            have f_e3 := cell_below hE (by simp only; omega) e3
            clear hd
            exact runq_val (W' := W) (by simp [execOp, d7, f_e2, f_e3, go_sem]) (Below.refl _ _) rfl
          case s9 =>
            intro val ρ W hE hz hd hA hx
            have o0 : ρ (.tmp 10) = .pointer (some ⟨w.heap.size + 1, 0, none⟩) := hA.old 10 (by decide)
            clear hd
            exact runq_val (W' := W) (by simp [execOp, hA.const, o0, go_sem]) (Below.refl _ _) rfl
          case s10 =>
            intro val ρ W hE hz hd hA hx
            have d9 : ρ (.tmp 89) = .pointer (some ⟨w.heap.size + 1, 0, none⟩) := (hA.dep 9 (by decide) 89 rfl).trans (hd 9 (by decide))
            have f_r0v := cell_below hE (by simp only; omega) r0v
            clear hd
            exact runq_val (W' := W) (by simp [execOp, d9, f_r0v, go_sem]) (Below.refl _ _) rfl
          case s11 =>
            intro val ρ W hE hz hd hA hx
            have o0 : ρ (.tmp 10) = .pointer (some ⟨w.heap.size + 1, 0, none⟩) := hA.old 10 (by decide)
            clear hd
            exact runq_val (W' := W) (by simp [execOp, hA.const, o0, go_sem]) (Below.refl _ _) rfl
          case s12 =>
            intro val ρ W hE hz hd hA hx
            have d11 : ρ (.tmp 91) = .pointer (some ⟨w.heap.size + 1, 1, none⟩) := (hA.dep 11 (by decide) 91 rfl).trans (hd 11 (by decide))
            have f_r1v := cell_below hE (by simp only; omega) r1v
            clear hd
            exact runq_val (W' := W) (by simp [execOp, d11, f_r1v, go_sem]) (Below.refl _ _) rfl
          case s13 =>
            intro val ρ W hE hz hd hA hx
            have d8 : ρ (.tmp 88) = .agg #[.int .i64 lo, .int .i64 hi] := (hA.dep 8 (by decide) 88 rfl).trans (hd 8 (by decide))
            have d10 : ρ (.tmp 90) = .int .u32 l0 := (hA.dep 10 (by decide) 90 rfl).trans (hd 10 (by decide))
            have d12 : ρ (.tmp 92) = .int .u32 l1 := (hA.dep 12 (by decide) 92 rfl).trans (hd 12 (by decide))
            clear hd
            refine runq_call 51 _ _ rfl #[.agg #[.int .i64 lo, .int .i64 hi], .int .u32 l0, .int .u32 l1] (hA.func _) (by simp [d8, d10, d12]) (fun args W => Try.call51 args W) ((CI.out W).mono ?_)
            rintro e w' ⟨rfl, hb⟩
            exact ⟨_, rfl, hb, rfl⟩
          case s14 =>
            intro val ρ W hE hz hd hA hx
            have d1 : ρ (.tmp 81) = .slice (some ⟨g, 0, none⟩) h.cs.length xc := (hA.dep 1 (by decide) 81 rfl).trans (hd 1 (by decide))
            have d2 : ρ (.tmp 82) = .int .i64 K := (hA.dep 2 (by decide) 82 rfl).trans (hd 2 (by decide))
            clear hd
            exact runq_val (W' := W) (by simp [execOp, d1, d2, hKl, go_sem]) (Below.refl _ _) rfl
          case s15 =>
            intro val ρ W hE hz hd hA hx
            have d14 : ρ (.tmp 94) = .pointer (some ⟨g, K * 4, none⟩) := (hA.dep 14 (by decide) 94 rfl).trans (hd 14 (by decide))
            clear hd
            exact runq_val (W' := W) (by simp [execOp, d14, go_sem]) (Below.refl _ _) rfl
          case send =>
            intro val2 VV hE hzz hv
            obtain ⟨-, -, -, -, -, -, -, -, -, -, -, -, -, r13, -, r15, -⟩ := hv
            have q13 : val2 13 = .agg #[.int .i64 (lo + r), .int .i64 (lo + r + t)] := r13
            have q15 : val2 15 = .pointer (some ⟨g, K * 4 + 2, none⟩) := r15
            clear r13 r15
            have hgn := (hE.block _ hgs).trans HGV.out
            have hjn := (hE.block _ hbv).trans HJV.out
            have n2 := cell_ext hE e2
            have n3 := cell_ext hE e3
            have nf : ∀ o, VV.frozen? ⟨g, o, none⟩ = false := fun o => by simp [World.frozen?, hgn]
            have nf2 := nf (K * 4 + 2)
            have nf3 := nf (K * 4 + 3)
            have hcn : IsCnts VV (.slice (some ⟨g, 0, none⟩) h.cs.length xc) h.cs := ⟨_, xc, by simp, by simpa using hxc1, hxc2, .inr ⟨g, 0, rfl, HCV.out.ext hE⟩⟩
            have HGN := Lib.hid hgn
            have HJN := Lib.hid hjn
            have HCN := Lib.hid hcn
            have HEE := Lib.hid (HEV.out.trans' hE)
            clear hgn hjn hcn hE nf
            simp only [putD, q13, q15]
            go_frame
            clear q13 q15
            go_wp2_with fail
            go_meet
            case rel =>
              refine ⟨setH h K (lo + r) (lo + r + t), some ⟨g, 0, none⟩, xc, (HEE.out.setCell (by simp only; omega) _).setCell (by simp only; omega) _, ?_, ?_, HNR.out⟩
              · rw [show (setH h K (lo + r) (lo + r + t)).cs.length = h.cs.length by simp [setH], Below.heap_setCell _ _ _ _ (by simp only; omega), Below.heap_setCell _ _ _ _ (by simp only; omega)]
                exact HJN.out
              · rw [show (setH h K (lo + r) (lo + r + t)).cs.length = h.cs.length by simp [setH]]
                exact set_count HGN.out HCN.out hKl _ _
      case rest =>
        obtain ⟨x, xa', xc, hE, hj, hxs, hnar⟩ := hcut
        have hx0 : wc.cell? ⟨bx, 0, none⟩ = some (.int .i64 h.n) := by rw [cell_of_row _ _ _ _ _ _ hj]; rfl
        have hx1 : wc.cell? ⟨bx, 1, none⟩ = some (.int .i64 h.most) := by rw [cell_of_row _ _ _ _ _ _ hj]; rfl
        have hx2 : wc.cell? ⟨bx, 2, none⟩ = some (.slice xa' x.cs.length xc) := by rw [cell_of_row _ _ _ _ _ _ hj]; rfl
        obtain ⟨gz, rfl⟩ := grow_of hE
        have HX := Lib.hid hxs
        have HNAR := Lib.hid hnar
        clear hE hj hxs HNB k2z HXZ HJZ HEZ hbz


        go_upto_region 10 with (fail)
        obtain ⟨Q0, hQ0⟩ : ∃ zz9, zz9 = (grow Y0 gz) := ⟨_, rfl⟩
        have x0 : Q0.cell? ⟨bx, 0, none⟩ = some (.int .i64 h.n) := by rw [hQ0]; simp [go_sem, hx0, hx1, hx2]
        have x1 : Q0.cell? ⟨bx, 1, none⟩ = some (.int .i64 h.most) := by rw [hQ0]; simp [go_sem, hx0, hx1, hx2]
        have x2' : Q0.cell? ⟨bx, 2, none⟩ = some (.slice xa' x.cs.length xc) := by rw [hQ0]; simp [go_sem, hx0, hx1, hx2]
        have eQ0 : Ext Y0 Q0 := by rw [hQ0]; exact (by repeat (first | exact Below.refl _ _ | refine Ext.al ?_ _ | refine Ext.dr ?_ | refine Ext.drN ?_ _ | refine Ext.gr ?_ _ | refine Ext.set ?_ (by simp) _ | (refine Ext.trans' ?_ (by assumption))))
        have eQ0c : Ext (grow Y0 gz) Q0 := by rw [hQ0]; exact (by repeat (first | exact Below.refl _ _ | refine Ext.al ?_ _ | refine Ext.dr ?_ | refine Ext.drN ?_ _ | refine Ext.gr ?_ _ | refine Ext.set ?_ (by simp) _ | (refine Ext.trans' ?_ (by assumption))))
        replace k0 := cell_ext eQ0 k0
        replace k1 := cell_ext eQ0 k1
        replace k2 := cell_ext eQ0 k2
        replace r0 := cell_ext eQ0 r0
        replace r1 := cell_ext eQ0 r1
        replace HS := Lib.hid (HS.out.ext eQ0)
        replace HBY := Lib.hid (HBY.out.ext eQ0)
        replace HX := Lib.hid (HX.out.ext eQ0c)
        replace HW := Lib.hid (HW.out.trans' eQ0)
        rw [← hQ0]
        replace hz := World.block_lt_of_cell? _ _ k0
        replace hz2 := World.block_lt_of_cell? _ _ r0
        clear hQ0 eQ0 eQ0c
        have zx := World.block_lt_of_cell? _ _ x0
        simp only at zx

        clear hx0 hx1 hx2 g9
        have VX := hnar.valid
        have hag' := hnar.agr V.out
        have hds1 := fun e => hnar.ds V.out e (a := A) (b := B + 1) (by omega) (by omega)
        have hds2 := fun e => hnar.ds V.out e (a := B + 1) (b := A) (by omega) (by omega)
        have htt := fun t => hnar.truthE V.out (t := t)
        have d1 := fun w hs => span_any h (.slice sa h.cs.length cap) (A : Int) (B : Int) w hs
        have d2 := fun w hs => span_any x (.slice xa' x.cs.length xc) (A : Int) (B : Int) w hs
        rw [hnar.n, hnar.most] at d2
        have ct := fun w hs hb => truthLaw_any h (.slice sa h.cs.length cap) (.slice ba by_.length bcap) by_ V.out w hs hb (fun y hy => HL.out y hy)
        obtain ⟨tt, htt0⟩ : ∃ tt, tt = truthBy h.n.toNat h.most by_ := ⟨_, rfl⟩
        rw [← htt0] at ct
        have c3 := fun tv w hs ht => checkTruth_any x (.slice xa' x.cs.length xc) tv tt w hs ht
        rw [hnar.n, hnar.most] at c3
        have c4 := fun tv w hs ht => checkTruth_any h (.slice sa h.cs.length cap) tv tt w hs ht
        have htx := htt tt
        obtain ⟨tx, htx0⟩ : ∃ tx, tx = truthE x tt := ⟨_, rfl⟩
        obtain ⟨th, hth0⟩ : ∃ th, th = truthE h tt := ⟨_, rfl⟩
        rw [← htx0] at c3 htx
        rw [← hth0] at c4 htx
        have CT := Lib.hid ct
        have C3 := Lib.hid c3
        have C4 := Lib.hid c4
        have HTX := Lib.hid htx
        clear ct c3 c4 htx htx0 hth0 htt0 htt
        cases hax : (leastM x 0).2
        · obtain ⟨q4, q5, q6⟩ := span_not VX hax (a := A) (b := B) (by omega) (by rw [hnar.n]; omega)
          rw [q4, q5, q6] at d2
          have D2 := Lib.hid d2
          clear hds1 hds2 d2 q4 q5 q6 hag' hax hnar VX
          cases hag : (leastM h 0).2
          · obtain ⟨q1, q2, q3⟩ := span_not V.out hag (a := A) (b := B) (by omega) (by omega)
            rw [q1, q2, q3] at d1
            have D1 := Lib.hid d1
            clear d1 q1 q2 q3 hag

            go_wp2_with fail
            refine callW (W0 := Q0) (g := ⟨Q0, Below.refl _ _⟩) (by exact (by repeat (first | exact Below.refl _ _ | refine Ext.al ?_ _ | refine Ext.dr ?_ | refine Ext.drN ?_ _ | refine Ext.gr ?_ _ | refine Ext.set ?_ (by simp) _ | (refine Ext.trans' ?_ (by assumption))))) (D1.out _ (HS.out.ext (by exact (by repeat (first | exact Below.refl _ _ | refine Ext.al ?_ _ | refine Ext.dr ?_ | refine Ext.drN ?_ _ | refine Ext.gr ?_ _ | refine Ext.set ?_ (by simp) _ | (refine Ext.trans' ?_ (by assumption))))))) fun g4 hgr => ?_
            clear hgr
            go_upto_region 11 with (fail)
            obtain ⟨Q1, hQ1⟩ : ∃ zz9, zz9 = (grow Q0 g4).alloc (.cells #[.int .i64 0, .int .i64 0] 35) := ⟨_, rfl⟩
            have s0 : Q1.cell? ⟨(grow Q0 g4).heap.size, 0, none⟩ = some (.int .i64 0) := by rw [hQ1]; simp [go_sem]
            have s1 : Q1.cell? ⟨(grow Q0 g4).heap.size, 1, none⟩ = some (.int .i64 0) := by rw [hQ1]; simp [go_sem]
            have eQ1 : Ext Q0 Q1 := by rw [hQ1]; exact (by repeat (first | exact Below.refl _ _ | refine Ext.al ?_ _ | refine Ext.dr ?_ | refine Ext.drN ?_ _ | refine Ext.gr ?_ _ | refine Ext.set ?_ (by simp) _ | (refine Ext.trans' ?_ (by assumption))))
            replace k0 := cell_ext eQ1 k0
            replace k1 := cell_ext eQ1 k1
            replace k2 := cell_ext eQ1 k2
            replace r0 := cell_ext eQ1 r0
            replace r1 := cell_ext eQ1 r1
            replace x0 := cell_ext eQ1 x0
            replace x1 := cell_ext eQ1 x1
            replace x2' := cell_ext eQ1 x2'
            replace HS := Lib.hid (HS.out.ext eQ1)
            replace HBY := Lib.hid (HBY.out.ext eQ1)
            replace HX := Lib.hid (HX.out.ext eQ1)
            replace HW := Lib.hid (HW.out.trans' eQ1)
            rw [← hQ1]
            obtain ⟨bS, hbS⟩ : ∃ b, b = (grow Q0 g4).heap.size := ⟨_, rfl⟩
            rw [← hbS] at s0 s1 ⊢
            replace hz := World.block_lt_of_cell? _ _ k0
            replace hz2 := World.block_lt_of_cell? _ _ r0
            replace zx := World.block_lt_of_cell? _ _ x0
            have zbS := World.block_lt_of_cell? _ _ s0
            simp only at zbS
            clear hQ1 eQ1 hbS
            go_wp2_with fail
            refine callW (W0 := Q1) (g := ⟨Q1, Below.refl _ _⟩) (by exact (by repeat (first | exact Below.refl _ _ | refine Ext.al ?_ _ | refine Ext.dr ?_ | refine Ext.drN ?_ _ | refine Ext.gr ?_ _ | refine Ext.set ?_ (by simp) _ | (refine Ext.trans' ?_ (by assumption))))) (D2.out _ (HX.out.ext (by exact (by repeat (first | exact Below.refl _ _ | refine Ext.al ?_ _ | refine Ext.dr ?_ | refine Ext.drN ?_ _ | refine Ext.gr ?_ _ | refine Ext.set ?_ (by simp) _ | (refine Ext.trans' ?_ (by assumption))))))) fun g5 hgr => ?_
            clear hgr
            go_upto_region 12 with (fail)
            obtain ⟨Q2, hQ2⟩ : ∃ zz9, zz9 = (grow Q1 g5).alloc (.cells #[.int .i64 0, .int .i64 0] 35) := ⟨_, rfl⟩
            have t0 : Q2.cell? ⟨(grow Q1 g5).heap.size, 0, none⟩ = some (.int .i64 0) := by rw [hQ2]; simp [go_sem]
            have t1 : Q2.cell? ⟨(grow Q1 g5).heap.size, 1, none⟩ = some (.int .i64 0) := by rw [hQ2]; simp [go_sem]
            have eQ2 : Ext Q1 Q2 := by rw [hQ2]; exact (by repeat (first | exact Below.refl _ _ | refine Ext.al ?_ _ | refine Ext.dr ?_ | refine Ext.drN ?_ _ | refine Ext.gr ?_ _ | refine Ext.set ?_ (by simp) _ | (refine Ext.trans' ?_ (by assumption))))
            replace k0 := cell_ext eQ2 k0
            replace k1 := cell_ext eQ2 k1
            replace k2 := cell_ext eQ2 k2
            replace r0 := cell_ext eQ2 r0
            replace r1 := cell_ext eQ2 r1
            replace x0 := cell_ext eQ2 x0
            replace x1 := cell_ext eQ2 x1
            replace x2' := cell_ext eQ2 x2'
            replace s0 := cell_ext eQ2 s0
            replace s1 := cell_ext eQ2 s1
            replace HS := Lib.hid (HS.out.ext eQ2)
            replace HBY := Lib.hid (HBY.out.ext eQ2)
            replace HX := Lib.hid (HX.out.ext eQ2)
            replace HW := Lib.hid (HW.out.trans' eQ2)
            rw [← hQ2]
            obtain ⟨bR, hbR⟩ : ∃ b, b = (grow Q1 g5).heap.size := ⟨_, rfl⟩
            rw [← hbR] at t0 t1 ⊢
            replace hz := World.block_lt_of_cell? _ _ k0
            replace hz2 := World.block_lt_of_cell? _ _ r0
            replace zx := World.block_lt_of_cell? _ _ x0
            replace zbS := World.block_lt_of_cell? _ _ s0
            have zbR := World.block_lt_of_cell? _ _ t0
            simp only at zbR
            clear hQ2 eQ2 hbR
            go_wp2_with fail
            refine callWR (W0 := Q2) (g := ⟨Q2, Below.refl _ _⟩) (by exact (by repeat (first | exact Below.refl _ _ | refine Ext.al ?_ _ | refine Ext.dr ?_ | refine Ext.drN ?_ _ | refine Ext.gr ?_ _ | refine Ext.set ?_ (by simp) _ | (refine Ext.trans' ?_ (by assumption))))) (CT.out (grow Q2 ⟨Q2, Below.refl _ _⟩) (HS.out.ext (by exact (by repeat (first | exact Below.refl _ _ | refine Ext.al ?_ _ | refine Ext.dr ?_ | refine Ext.drN ?_ _ | refine Ext.gr ?_ _ | refine Ext.set ?_ (by simp) _ | (refine Ext.trans' ?_ (by assumption)))))) (HBY.out.ext (by exact (by repeat (first | exact Below.refl _ _ | refine Ext.al ?_ _ | refine Ext.dr ?_ | refine Ext.drN ?_ _ | refine Ext.gr ?_ _ | refine Ext.set ?_ (by simp) _ | (refine Ext.trans' ?_ (by assumption))))))) (fun _ _ ⟨_, _, r, _⟩ => r) fun _ g6 hgr hr => ?_
            obtain ⟨tv, rfl, -, htv⟩ := hr
            clear hgr
            obtain ⟨tva, tvc, rfl, -⟩ := htv.spec
            have HTV := Lib.hid htv
            clear htv

            go_wp2_with fail
            refine callW (W0 := Q2) (g := g6) (by exact (by repeat (first | exact Below.refl _ _ | refine Ext.al ?_ _ | refine Ext.dr ?_ | refine Ext.drN ?_ _ | refine Ext.gr ?_ _ | refine Ext.set ?_ (by simp) _ | (refine Ext.trans' ?_ (by assumption))))) (C3.out _ _ (HX.out.ext (by exact (by repeat (first | exact Below.refl _ _ | refine Ext.al ?_ _ | refine Ext.dr ?_ | refine Ext.drN ?_ _ | refine Ext.gr ?_ _ | refine Ext.set ?_ (by simp) _ | (refine Ext.trans' ?_ (by assumption)))))) (HTV.out.ext (by exact (by repeat (first | exact Below.refl _ _ | refine Ext.al ?_ _ | refine Ext.dr ?_ | refine Ext.drN ?_ _ | refine Ext.gr ?_ _ | refine Ext.set ?_ (by simp) _ | (refine Ext.trans' ?_ (by assumption))))))) fun g7 hgr => ?_
            replace HTV := Lib.hid (HTV.out.ext hgr)
            clear hgr
            by_cases hx0 : tx = 0
            · have ht0 := HTX.out hx0
              subst hx0 ht0

              go_wp2_with fail
              refine callW (W0 := Q2) (g := g7) (by exact (by repeat (first | exact Below.refl _ _ | refine Ext.al ?_ _ | refine Ext.dr ?_ | refine Ext.drN ?_ _ | refine Ext.gr ?_ _ | refine Ext.set ?_ (by simp) _ | (refine Ext.trans' ?_ (by assumption))))) (C4.out _ _ (HS.out.ext (by exact (by repeat (first | exact Below.refl _ _ | refine Ext.al ?_ _ | refine Ext.dr ?_ | refine Ext.drN ?_ _ | refine Ext.gr ?_ _ | refine Ext.set ?_ (by simp) _ | (refine Ext.trans' ?_ (by assumption)))))) (HTV.out.ext (by exact (by repeat (first | exact Below.refl _ _ | refine Ext.al ?_ _ | refine Ext.dr ?_ | refine Ext.drN ?_ _ | refine Ext.gr ?_ _ | refine Ext.set ?_ (by simp) _ | (refine Ext.trans' ?_ (by assumption))))))) fun g8 hgr => ?_
              replace HTV := Lib.hid (HTV.out.ext hgr)
              clear hgr
              go_wp2_with fail
              refine callW (W0 := Q2) (g := g8) (by exact (by repeat (first | exact Below.refl _ _ | refine Ext.al ?_ _ | refine Ext.dr ?_ | refine Ext.drN ?_ _ | refine Ext.gr ?_ _ | refine Ext.set ?_ (by simp) _ | (refine Ext.trans' ?_ (by assumption))))) (works_any _) fun g9 hgr => ?_
              replace HTV := Lib.hid (HTV.out.ext hgr)
              clear hgr
              go_wp2_with fail
              go_ret
              exact ⟨rfl, HW.out.trans' (grow_below Q2 g9)⟩

            · have hx1 : (tx == 0) = false := by simpa using hx0
              have hx2 : (tx != 0) = true := by simpa using hx0
              clear hx0

              go_wp2_with fail
              refine callW (W0 := Q2) (g := g7) (by exact (by repeat (first | exact Below.refl _ _ | refine Ext.al ?_ _ | refine Ext.dr ?_ | refine Ext.drN ?_ _ | refine Ext.gr ?_ _ | refine Ext.set ?_ (by simp) _ | (refine Ext.trans' ?_ (by assumption))))) (works_any _) fun g10 hgr => ?_
              replace HTV := Lib.hid (HTV.out.ext hgr)
              clear hgr
              go_wp2_with fail
              go_ret
              exact ⟨rfl, HW.out.trans' (grow_below Q2 g10)⟩


          · have q1 := spanE_agr V.out (a := A) (b := B) (by omega) (by omega)
            rw [hag] at q1
            replace q1 : spanE h A B = 0 := q1
            rw [q1, spanLo_agr V.out hag (by omega) (by omega), spanHi_agr V.out hag (by omega) (by omega)] at d1
            obtain ⟨slo, hlo⟩ : ∃ lo, lo = -ds h (B + 1) A := ⟨_, rfl⟩
            obtain ⟨shi, hhi⟩ : ∃ hi, hi = ds h A (B + 1) := ⟨_, rfl⟩
            rw [← hlo, ← hhi] at d1
            have D1 := Lib.hid d1
            clear d1 q1 hag hlo hhi

            go_wp2_with fail
            refine callW (W0 := Q0) (g := ⟨Q0, Below.refl _ _⟩) (by exact (by repeat (first | exact Below.refl _ _ | refine Ext.al ?_ _ | refine Ext.dr ?_ | refine Ext.drN ?_ _ | refine Ext.gr ?_ _ | refine Ext.set ?_ (by simp) _ | (refine Ext.trans' ?_ (by assumption))))) (D1.out _ (HS.out.ext (by exact (by repeat (first | exact Below.refl _ _ | refine Ext.al ?_ _ | refine Ext.dr ?_ | refine Ext.drN ?_ _ | refine Ext.gr ?_ _ | refine Ext.set ?_ (by simp) _ | (refine Ext.trans' ?_ (by assumption))))))) fun g11 hgr => ?_
            clear hgr
            go_upto_region 11 with (fail)
            obtain ⟨Q1, hQ1⟩ : ∃ zz9, zz9 = (grow Q0 g11).alloc (.cells #[.int .i64 slo, .int .i64 shi] 35) := ⟨_, rfl⟩
            have s0 : Q1.cell? ⟨(grow Q0 g11).heap.size, 0, none⟩ = some (.int .i64 slo) := by rw [hQ1]; simp [go_sem]
            have s1 : Q1.cell? ⟨(grow Q0 g11).heap.size, 1, none⟩ = some (.int .i64 shi) := by rw [hQ1]; simp [go_sem]
            have eQ1 : Ext Q0 Q1 := by rw [hQ1]; exact (by repeat (first | exact Below.refl _ _ | refine Ext.al ?_ _ | refine Ext.dr ?_ | refine Ext.drN ?_ _ | refine Ext.gr ?_ _ | refine Ext.set ?_ (by simp) _ | (refine Ext.trans' ?_ (by assumption))))
            replace k0 := cell_ext eQ1 k0
            replace k1 := cell_ext eQ1 k1
            replace k2 := cell_ext eQ1 k2
            replace r0 := cell_ext eQ1 r0
            replace r1 := cell_ext eQ1 r1
            replace x0 := cell_ext eQ1 x0
            replace x1 := cell_ext eQ1 x1
            replace x2' := cell_ext eQ1 x2'
            replace HS := Lib.hid (HS.out.ext eQ1)
            replace HBY := Lib.hid (HBY.out.ext eQ1)
            replace HX := Lib.hid (HX.out.ext eQ1)
            replace HW := Lib.hid (HW.out.trans' eQ1)
            rw [← hQ1]
            obtain ⟨bS, hbS⟩ : ∃ b, b = (grow Q0 g11).heap.size := ⟨_, rfl⟩
            rw [← hbS] at s0 s1 ⊢
            replace hz := World.block_lt_of_cell? _ _ k0
            replace hz2 := World.block_lt_of_cell? _ _ r0
            replace zx := World.block_lt_of_cell? _ _ x0
            have zbS := World.block_lt_of_cell? _ _ s0
            simp only at zbS
            clear hQ1 eQ1 hbS
            go_wp2_with fail
            refine callW (W0 := Q1) (g := ⟨Q1, Below.refl _ _⟩) (by exact (by repeat (first | exact Below.refl _ _ | refine Ext.al ?_ _ | refine Ext.dr ?_ | refine Ext.drN ?_ _ | refine Ext.gr ?_ _ | refine Ext.set ?_ (by simp) _ | (refine Ext.trans' ?_ (by assumption))))) (D2.out _ (HX.out.ext (by exact (by repeat (first | exact Below.refl _ _ | refine Ext.al ?_ _ | refine Ext.dr ?_ | refine Ext.drN ?_ _ | refine Ext.gr ?_ _ | refine Ext.set ?_ (by simp) _ | (refine Ext.trans' ?_ (by assumption))))))) fun g12 hgr => ?_
            clear hgr
            go_upto_region 12 with (fail)
            obtain ⟨Q2, hQ2⟩ : ∃ zz9, zz9 = (grow Q1 g12).alloc (.cells #[.int .i64 0, .int .i64 0] 35) := ⟨_, rfl⟩
            have t0 : Q2.cell? ⟨(grow Q1 g12).heap.size, 0, none⟩ = some (.int .i64 0) := by rw [hQ2]; simp [go_sem]
            have t1 : Q2.cell? ⟨(grow Q1 g12).heap.size, 1, none⟩ = some (.int .i64 0) := by rw [hQ2]; simp [go_sem]
            have eQ2 : Ext Q1 Q2 := by rw [hQ2]; exact (by repeat (first | exact Below.refl _ _ | refine Ext.al ?_ _ | refine Ext.dr ?_ | refine Ext.drN ?_ _ | refine Ext.gr ?_ _ | refine Ext.set ?_ (by simp) _ | (refine Ext.trans' ?_ (by assumption))))
            replace k0 := cell_ext eQ2 k0
            replace k1 := cell_ext eQ2 k1
            replace k2 := cell_ext eQ2 k2
            replace r0 := cell_ext eQ2 r0
            replace r1 := cell_ext eQ2 r1
            replace x0 := cell_ext eQ2 x0
            replace x1 := cell_ext eQ2 x1
            replace x2' := cell_ext eQ2 x2'
            replace s0 := cell_ext eQ2 s0
            replace s1 := cell_ext eQ2 s1
            replace HS := Lib.hid (HS.out.ext eQ2)
            replace HBY := Lib.hid (HBY.out.ext eQ2)
            replace HX := Lib.hid (HX.out.ext eQ2)
            replace HW := Lib.hid (HW.out.trans' eQ2)
            rw [← hQ2]
            obtain ⟨bR, hbR⟩ : ∃ b, b = (grow Q1 g12).heap.size := ⟨_, rfl⟩
            rw [← hbR] at t0 t1 ⊢
            replace hz := World.block_lt_of_cell? _ _ k0
            replace hz2 := World.block_lt_of_cell? _ _ r0
            replace zx := World.block_lt_of_cell? _ _ x0
            replace zbS := World.block_lt_of_cell? _ _ s0
            have zbR := World.block_lt_of_cell? _ _ t0
            simp only at zbR
            clear hQ2 eQ2 hbR
            go_wp2_with fail
            refine callWR (W0 := Q2) (g := ⟨Q2, Below.refl _ _⟩) (by exact (by repeat (first | exact Below.refl _ _ | refine Ext.al ?_ _ | refine Ext.dr ?_ | refine Ext.drN ?_ _ | refine Ext.gr ?_ _ | refine Ext.set ?_ (by simp) _ | (refine Ext.trans' ?_ (by assumption))))) (CT.out (grow Q2 ⟨Q2, Below.refl _ _⟩) (HS.out.ext (by exact (by repeat (first | exact Below.refl _ _ | refine Ext.al ?_ _ | refine Ext.dr ?_ | refine Ext.drN ?_ _ | refine Ext.gr ?_ _ | refine Ext.set ?_ (by simp) _ | (refine Ext.trans' ?_ (by assumption)))))) (HBY.out.ext (by exact (by repeat (first | exact Below.refl _ _ | refine Ext.al ?_ _ | refine Ext.dr ?_ | refine Ext.drN ?_ _ | refine Ext.gr ?_ _ | refine Ext.set ?_ (by simp) _ | (refine Ext.trans' ?_ (by assumption))))))) (fun _ _ ⟨_, _, r, _⟩ => r) fun _ g13 hgr hr => ?_
            obtain ⟨tv, rfl, -, htv⟩ := hr
            clear hgr
            obtain ⟨tva, tvc, rfl, -⟩ := htv.spec
            have HTV := Lib.hid htv
            clear htv

            go_wp2_with fail
            refine callW (W0 := Q2) (g := g13) (by exact (by repeat (first | exact Below.refl _ _ | refine Ext.al ?_ _ | refine Ext.dr ?_ | refine Ext.drN ?_ _ | refine Ext.gr ?_ _ | refine Ext.set ?_ (by simp) _ | (refine Ext.trans' ?_ (by assumption))))) (C3.out _ _ (HX.out.ext (by exact (by repeat (first | exact Below.refl _ _ | refine Ext.al ?_ _ | refine Ext.dr ?_ | refine Ext.drN ?_ _ | refine Ext.gr ?_ _ | refine Ext.set ?_ (by simp) _ | (refine Ext.trans' ?_ (by assumption)))))) (HTV.out.ext (by exact (by repeat (first | exact Below.refl _ _ | refine Ext.al ?_ _ | refine Ext.dr ?_ | refine Ext.drN ?_ _ | refine Ext.gr ?_ _ | refine Ext.set ?_ (by simp) _ | (refine Ext.trans' ?_ (by assumption))))))) fun g14 hgr => ?_
            replace HTV := Lib.hid (HTV.out.ext hgr)
            clear hgr
            by_cases hx0 : tx = 0
            · have ht0 := HTX.out hx0
              subst hx0 ht0

              go_wp2_with fail
              refine callW (W0 := Q2) (g := g14) (by exact (by repeat (first | exact Below.refl _ _ | refine Ext.al ?_ _ | refine Ext.dr ?_ | refine Ext.drN ?_ _ | refine Ext.gr ?_ _ | refine Ext.set ?_ (by simp) _ | (refine Ext.trans' ?_ (by assumption))))) (C4.out _ _ (HS.out.ext (by exact (by repeat (first | exact Below.refl _ _ | refine Ext.al ?_ _ | refine Ext.dr ?_ | refine Ext.drN ?_ _ | refine Ext.gr ?_ _ | refine Ext.set ?_ (by simp) _ | (refine Ext.trans' ?_ (by assumption)))))) (HTV.out.ext (by exact (by repeat (first | exact Below.refl _ _ | refine Ext.al ?_ _ | refine Ext.dr ?_ | refine Ext.drN ?_ _ | refine Ext.gr ?_ _ | refine Ext.set ?_ (by simp) _ | (refine Ext.trans' ?_ (by assumption))))))) fun g15 hgr => ?_
              replace HTV := Lib.hid (HTV.out.ext hgr)
              clear hgr
              go_wp2_with fail
              refine callW (W0 := Q2) (g := g15) (by exact (by repeat (first | exact Below.refl _ _ | refine Ext.al ?_ _ | refine Ext.dr ?_ | refine Ext.drN ?_ _ | refine Ext.gr ?_ _ | refine Ext.set ?_ (by simp) _ | (refine Ext.trans' ?_ (by assumption))))) (works_any _) fun g16 hgr => ?_
              replace HTV := Lib.hid (HTV.out.ext hgr)
              clear hgr
              go_wp2_with fail
              go_ret
              exact ⟨rfl, HW.out.trans' (grow_below Q2 g16)⟩

            · have hx1 : (tx == 0) = false := by simpa using hx0
              have hx2 : (tx != 0) = true := by simpa using hx0
              clear hx0

              go_wp2_with fail
              refine callW (W0 := Q2) (g := g14) (by exact (by repeat (first | exact Below.refl _ _ | refine Ext.al ?_ _ | refine Ext.dr ?_ | refine Ext.drN ?_ _ | refine Ext.gr ?_ _ | refine Ext.set ?_ (by simp) _ | (refine Ext.trans' ?_ (by assumption))))) (works_any _) fun g17 hgr => ?_
              replace HTV := Lib.hid (HTV.out.ext hgr)
              clear hgr
              go_wp2_with fail
              go_ret
              exact ⟨rfl, HW.out.trans' (grow_below Q2 g17)⟩


        · have hag := hag' hax
          have q1 := spanE_agr V.out (a := A) (b := B) (by omega) (by omega)
          rw [hag] at q1
          replace q1 : spanE h A B = 0 := q1
          rw [q1, spanLo_agr V.out hag (by omega) (by omega), spanHi_agr V.out hag (by omega) (by omega)] at d1
          have q2 := spanE_agr VX (a := A) (b := B) (by omega) (by rw [hnar.n]; omega)
          rw [hax] at q2
          replace q2 : spanE x A B = 0 := q2
          rw [q2, spanLo_agr VX hax (by omega) (by rw [hnar.n]; omega), spanHi_agr VX hax (by omega) (by rw [hnar.n]; omega)] at d2
          replace hds1 := hds1 hax
          replace hds2 := hds2 hax
          obtain ⟨slo, hlo⟩ : ∃ lo, lo = -ds h (B + 1) A := ⟨_, rfl⟩
          obtain ⟨shi, hhi⟩ : ∃ hi, hi = ds h A (B + 1) := ⟨_, rfl⟩
          obtain ⟨rlo, hrlo⟩ : ∃ lo, lo = -ds x (B + 1) A := ⟨_, rfl⟩
          obtain ⟨rhi, hrhi⟩ : ∃ hi, hi = ds x A (B + 1) := ⟨_, rfl⟩
          rw [← hlo, ← hhi] at d1
          rw [← hrlo, ← hrhi] at d2
          rw [← hhi, ← hrhi] at hds1
          have hds3 : slo ≤ rlo := by omega
          have D1 := Lib.hid d1
          have D2 := Lib.hid d2
          clear d1 d2 q1 q2 hax hag hag' hnar VX hds2 hlo hhi hrlo hrhi
          have s1 : decide (rlo < slo) = false := decide_eq_false (by omega)
          have s2 : decide (shi < rhi) = false := decide_eq_false (by omega)

          go_wp2_with fail
          refine callW (W0 := Q0) (g := ⟨Q0, Below.refl _ _⟩) (by exact (by repeat (first | exact Below.refl _ _ | refine Ext.al ?_ _ | refine Ext.dr ?_ | refine Ext.drN ?_ _ | refine Ext.gr ?_ _ | refine Ext.set ?_ (by simp) _ | (refine Ext.trans' ?_ (by assumption))))) (D1.out _ (HS.out.ext (by exact (by repeat (first | exact Below.refl _ _ | refine Ext.al ?_ _ | refine Ext.dr ?_ | refine Ext.drN ?_ _ | refine Ext.gr ?_ _ | refine Ext.set ?_ (by simp) _ | (refine Ext.trans' ?_ (by assumption))))))) fun g18 hgr => ?_
          clear hgr
          go_upto_region 11 with (fail)
          obtain ⟨Q1, hQ1⟩ : ∃ zz9, zz9 = (grow Q0 g18).alloc (.cells #[.int .i64 slo, .int .i64 shi] 35) := ⟨_, rfl⟩
          have s0 : Q1.cell? ⟨(grow Q0 g18).heap.size, 0, none⟩ = some (.int .i64 slo) := by rw [hQ1]; simp [go_sem]
          have s1 : Q1.cell? ⟨(grow Q0 g18).heap.size, 1, none⟩ = some (.int .i64 shi) := by rw [hQ1]; simp [go_sem]
          have eQ1 : Ext Q0 Q1 := by rw [hQ1]; exact (by repeat (first | exact Below.refl _ _ | refine Ext.al ?_ _ | refine Ext.dr ?_ | refine Ext.drN ?_ _ | refine Ext.gr ?_ _ | refine Ext.set ?_ (by simp) _ | (refine Ext.trans' ?_ (by assumption))))
          replace k0 := cell_ext eQ1 k0
          replace k1 := cell_ext eQ1 k1
          replace k2 := cell_ext eQ1 k2
          replace r0 := cell_ext eQ1 r0
          replace r1 := cell_ext eQ1 r1
          replace x0 := cell_ext eQ1 x0
          replace x1 := cell_ext eQ1 x1
          replace x2' := cell_ext eQ1 x2'
          replace HS := Lib.hid (HS.out.ext eQ1)
          replace HBY := Lib.hid (HBY.out.ext eQ1)
          replace HX := Lib.hid (HX.out.ext eQ1)
          replace HW := Lib.hid (HW.out.trans' eQ1)
          rw [← hQ1]
          obtain ⟨bS, hbS⟩ : ∃ b, b = (grow Q0 g18).heap.size := ⟨_, rfl⟩
          rw [← hbS] at s0 s1 ⊢
          replace hz := World.block_lt_of_cell? _ _ k0
          replace hz2 := World.block_lt_of_cell? _ _ r0
          replace zx := World.block_lt_of_cell? _ _ x0
          have zbS := World.block_lt_of_cell? _ _ s0
          simp only at zbS
          clear hQ1 eQ1 hbS
          go_wp2_with fail
          refine callW (W0 := Q1) (g := ⟨Q1, Below.refl _ _⟩) (by exact (by repeat (first | exact Below.refl _ _ | refine Ext.al ?_ _ | refine Ext.dr ?_ | refine Ext.drN ?_ _ | refine Ext.gr ?_ _ | refine Ext.set ?_ (by simp) _ | (refine Ext.trans' ?_ (by assumption))))) (D2.out _ (HX.out.ext (by exact (by repeat (first | exact Below.refl _ _ | refine Ext.al ?_ _ | refine Ext.dr ?_ | refine Ext.drN ?_ _ | refine Ext.gr ?_ _ | refine Ext.set ?_ (by simp) _ | (refine Ext.trans' ?_ (by assumption))))))) fun g19 hgr => ?_
          clear hgr
          go_upto_region 12 with (fail)
          obtain ⟨Q2, hQ2⟩ : ∃ zz9, zz9 = (grow Q1 g19).alloc (.cells #[.int .i64 rlo, .int .i64 rhi] 35) := ⟨_, rfl⟩
          have t0 : Q2.cell? ⟨(grow Q1 g19).heap.size, 0, none⟩ = some (.int .i64 rlo) := by rw [hQ2]; simp [go_sem]
          have t1 : Q2.cell? ⟨(grow Q1 g19).heap.size, 1, none⟩ = some (.int .i64 rhi) := by rw [hQ2]; simp [go_sem]
          have eQ2 : Ext Q1 Q2 := by rw [hQ2]; exact (by repeat (first | exact Below.refl _ _ | refine Ext.al ?_ _ | refine Ext.dr ?_ | refine Ext.drN ?_ _ | refine Ext.gr ?_ _ | refine Ext.set ?_ (by simp) _ | (refine Ext.trans' ?_ (by assumption))))
          replace k0 := cell_ext eQ2 k0
          replace k1 := cell_ext eQ2 k1
          replace k2 := cell_ext eQ2 k2
          replace r0 := cell_ext eQ2 r0
          replace r1 := cell_ext eQ2 r1
          replace x0 := cell_ext eQ2 x0
          replace x1 := cell_ext eQ2 x1
          replace x2' := cell_ext eQ2 x2'
          replace s0 := cell_ext eQ2 s0
          replace s1 := cell_ext eQ2 s1
          replace HS := Lib.hid (HS.out.ext eQ2)
          replace HBY := Lib.hid (HBY.out.ext eQ2)
          replace HX := Lib.hid (HX.out.ext eQ2)
          replace HW := Lib.hid (HW.out.trans' eQ2)
          rw [← hQ2]
          obtain ⟨bR, hbR⟩ : ∃ b, b = (grow Q1 g19).heap.size := ⟨_, rfl⟩
          rw [← hbR] at t0 t1 ⊢
          replace hz := World.block_lt_of_cell? _ _ k0
          replace hz2 := World.block_lt_of_cell? _ _ r0
          replace zx := World.block_lt_of_cell? _ _ x0
          replace zbS := World.block_lt_of_cell? _ _ s0
          have zbR := World.block_lt_of_cell? _ _ t0
          simp only at zbR
          clear hQ2 eQ2 hbR
          go_wp2_with fail
          refine callWR (W0 := Q2) (g := ⟨Q2, Below.refl _ _⟩) (by exact (by repeat (first | exact Below.refl _ _ | refine Ext.al ?_ _ | refine Ext.dr ?_ | refine Ext.drN ?_ _ | refine Ext.gr ?_ _ | refine Ext.set ?_ (by simp) _ | (refine Ext.trans' ?_ (by assumption))))) (CT.out (grow Q2 ⟨Q2, Below.refl _ _⟩) (HS.out.ext (by exact (by repeat (first | exact Below.refl _ _ | refine Ext.al ?_ _ | refine Ext.dr ?_ | refine Ext.drN ?_ _ | refine Ext.gr ?_ _ | refine Ext.set ?_ (by simp) _ | (refine Ext.trans' ?_ (by assumption)))))) (HBY.out.ext (by exact (by repeat (first | exact Below.refl _ _ | refine Ext.al ?_ _ | refine Ext.dr ?_ | refine Ext.drN ?_ _ | refine Ext.gr ?_ _ | refine Ext.set ?_ (by simp) _ | (refine Ext.trans' ?_ (by assumption))))))) (fun _ _ ⟨_, _, r, _⟩ => r) fun _ g20 hgr hr => ?_
          obtain ⟨tv, rfl, -, htv⟩ := hr
          clear hgr
          obtain ⟨tva, tvc, rfl, -⟩ := htv.spec
          have HTV := Lib.hid htv
          clear htv

          go_wp2_with fail
          refine callW (W0 := Q2) (g := g20) (by exact (by repeat (first | exact Below.refl _ _ | refine Ext.al ?_ _ | refine Ext.dr ?_ | refine Ext.drN ?_ _ | refine Ext.gr ?_ _ | refine Ext.set ?_ (by simp) _ | (refine Ext.trans' ?_ (by assumption))))) (C3.out _ _ (HX.out.ext (by exact (by repeat (first | exact Below.refl _ _ | refine Ext.al ?_ _ | refine Ext.dr ?_ | refine Ext.drN ?_ _ | refine Ext.gr ?_ _ | refine Ext.set ?_ (by simp) _ | (refine Ext.trans' ?_ (by assumption)))))) (HTV.out.ext (by exact (by repeat (first | exact Below.refl _ _ | refine Ext.al ?_ _ | refine Ext.dr ?_ | refine Ext.drN ?_ _ | refine Ext.gr ?_ _ | refine Ext.set ?_ (by simp) _ | (refine Ext.trans' ?_ (by assumption))))))) fun g21 hgr => ?_
          replace HTV := Lib.hid (HTV.out.ext hgr)
          clear hgr
          by_cases hx0 : tx = 0
          · have ht0 := HTX.out hx0
            subst hx0 ht0

            go_wp2_with fail
            refine callW (W0 := Q2) (g := g21) (by exact (by repeat (first | exact Below.refl _ _ | refine Ext.al ?_ _ | refine Ext.dr ?_ | refine Ext.drN ?_ _ | refine Ext.gr ?_ _ | refine Ext.set ?_ (by simp) _ | (refine Ext.trans' ?_ (by assumption))))) (C4.out _ _ (HS.out.ext (by exact (by repeat (first | exact Below.refl _ _ | refine Ext.al ?_ _ | refine Ext.dr ?_ | refine Ext.drN ?_ _ | refine Ext.gr ?_ _ | refine Ext.set ?_ (by simp) _ | (refine Ext.trans' ?_ (by assumption)))))) (HTV.out.ext (by exact (by repeat (first | exact Below.refl _ _ | refine Ext.al ?_ _ | refine Ext.dr ?_ | refine Ext.drN ?_ _ | refine Ext.gr ?_ _ | refine Ext.set ?_ (by simp) _ | (refine Ext.trans' ?_ (by assumption))))))) fun g22 hgr => ?_
            replace HTV := Lib.hid (HTV.out.ext hgr)
            clear hgr
            go_wp2_with fail
            refine callW (W0 := Q2) (g := g22) (by exact (by repeat (first | exact Below.refl _ _ | refine Ext.al ?_ _ | refine Ext.dr ?_ | refine Ext.drN ?_ _ | refine Ext.gr ?_ _ | refine Ext.set ?_ (by simp) _ | (refine Ext.trans' ?_ (by assumption))))) (works_any _) fun g23 hgr => ?_
            replace HTV := Lib.hid (HTV.out.ext hgr)
            clear hgr
            go_wp2_with fail
            go_ret
            exact ⟨rfl, HW.out.trans' (grow_below Q2 g23)⟩

          · have hx1 : (tx == 0) = false := by simpa using hx0
            have hx2 : (tx != 0) = true := by simpa using hx0
            clear hx0

            go_wp2_with fail
            refine callW (W0 := Q2) (g := g21) (by exact (by repeat (first | exact Below.refl _ _ | refine Ext.al ?_ _ | refine Ext.dr ?_ | refine Ext.drN ?_ _ | refine Ext.gr ?_ _ | refine Ext.set ?_ (by simp) _ | (refine Ext.trans' ?_ (by assumption))))) (works_any _) fun g24 hgr => ?_
            replace HTV := Lib.hid (HTV.out.ext hgr)
            clear hgr
            go_wp2_with fail
            go_ret
            exact ⟨rfl, HW.out.trans' (grow_below Q2 g24)⟩


open Go.ChangeShapes Go.WideShapes Go.ChangeAt in
set_option maxRecDepth 100000 in
theorem cutNarrower_lifted (os : Os) (started : os.Started) (H : Type) (enc : TypeId × Value → H) :
    ReturnsInHanded {} Try.checked os 11 .any (Rows.cutNarrowerSpec.pre6 enc Try.prog Try.f11 Rows.cutNarrowerRow.domain false) (Rows.cutNarrowerSpec.post enc Try.prog Try.f11 false true false false) := by
  refine returnsInHanded_of_change (C := Try.checked) own started (by kernel_rfl) Try.func11
    (ChangeSpec.witness6 (enc := enc) (C := Try.checked) false ⟨#[], #[.agg #[.int .i64 0, .int .i64 0, .slice none 0 0], .int .u8 0, .int .u8 0, .int .u8 0, .agg #[.int .u32 0, .int .u32 0], .slice none 0 0], []⟩ 8 (by kernel_rfl) (by kernel_rfl) (by kernel_rfl) (by kernel_rfl)) ?_
  intro W base args ds gs before hval0 hW hcnd _
  have hval : ∀ (j : Nat) t v, Try.f11.params[j]? = some t → args[j]? = some v → Value.okWide Try.prog W .any base t v := hval0
  have hW' := hW
  obtain ⟨p, q, hA0, hV, rfl, hfz, hnd⟩ := hW
  have hA : DataW.TrodAll enc Try.prog W 0 (fun _ => true) true Try.f11.params.toList args.toList ds p := hA0
  rw [Try.params11] at hA hval
  obtain ⟨v0, vs0, d0, ds0, p0, q0, hargs, rfl, rfl, h0, r0⟩ := trodAll_cons hA
  obtain ⟨v1, vs1, d1, ds1, p1, q1, rfl, rfl, rfl, h1, r1⟩ := trodAll_cons r0
  obtain ⟨v2, vs2, d2, ds2, p2, q2, rfl, rfl, rfl, h2, r2⟩ := trodAll_cons r1
  obtain ⟨v3, vs3, d3, ds3, p3, q3, rfl, rfl, rfl, h3, r3⟩ := trodAll_cons r2
  obtain ⟨v4, vs4, d4, ds4, p4, q4, rfl, rfl, rfl, h4, r4⟩ := trodAll_cons r3
  obtain ⟨v5, vs5, d5, ds5, p5, q5, rfl, rfl, rfl, h5, r5⟩ := trodAll_cons r4
  obtain ⟨rfl, rfl, rfl⟩ := trodAll_nil r5
  obtain rfl : args = #[v0, v1, v2, v3, v4, v5] := by cases args; simp_all
  obtain ⟨hh, shh, rfl, hhh⟩ := openHall (hval 0 24 v0 rfl rfl) h0
  obtain ⟨a, rfl, rfl, rfl, wa⟩ := open_int Try.underlying5 (hval 1 5 v1 rfl rfl) h1
  obtain ⟨b, rfl, rfl, rfl, wb⟩ := open_int Try.underlying5 (hval 2 5 v2 rfl rfl) h2
  obtain ⟨c, rfl, rfl, rfl, wc⟩ := open_int Try.underlying5 (hval 3 5 v3 rfl rfl) h3
  obtain ⟨qa, qb, rfl, wqa, wqb⟩ := openPair32 (hval 4 74 v4 rfl rfl) h4
  obtain ⟨m, hm, wm⟩ := openNumsK (k := .u32) Try.underlying75 Try.underlying64 (by kernel_rfl) (hval 5 75 v5 rfl rfl) h5
  clear hA0 hval0
  refine (cutNarrower_any hh shh a b c qa qb v5 m W hhh wa wb wc wqa wqb hm wm).mono fun e W' ⟨he, hb⟩ => ?_
  subst he
  exact ⟨_, rfl, law_post laidOut (tb := 4) (hts_of (by kernel_rfl)) (by kernel_rfl) Try.underlying4 hW' rfl rfl hb⟩
theorem cutNarrower_holds : Rows.CutNarrowerSaid :=
  OpenClaim.holds_of_wide 11 Try.f11 rfl rfl rfl rfl rfl rfl rfl ⟨rfl, rfl, rfl, rfl, rfl⟩ rfl rfl rfl rfl rfl (by kernel_rfl) Try.func11 (by kernel_rfl)
    (of_decide_eq_true (by kernel_rfl)) (by unfold Func.isWrapper; first | (rw [if_pos (by decide +kernel)]; kernel_rfl) | (rw [if_neg (by decide +kernel)]; exact ⟨rfl, rfl⟩))
    (fun os started H enc _ => cutNarrower_lifted os started H enc)
end Go.Proofs.Ytgcldgchhdjnhaa
