/-
  The walks of the statements' functions long, several and fine.
  The walks of the statements' functions with, agrees, Truth, inside, before.
  The walks of the statements' functions agrees, Truth, inside, before.
-/
import Derived.Test.YtgcldgchhdjnhaaWorks
import Derived.Test.YtgcldgchhdjnhaaRove
import Derived.Test.YtgcldgchhdjnhaaMath2
import Derived.StillTailTactics
import Derived.IntWalk
namespace Go.Proofs.Ytgcldgchhdjnhaa
open Go.RowKit Go.Shelf
def longB (l : List Stp) : Bool := (decide (40 < l.length) && decide (l.length ≤ 200)) || decide (210 < l.length)
def severalB (ll : List (List Stp)) : Bool := decide (30 < ll.length) || ll.any longB
set_option maxHeartbeats 1000000 in
theorem long_any (l : List Stp) (lv : Value) (w : World) (hl : IsStps w lv l) : Calls Try.prog 27 #[lv] w fun e w' => e = .returned (.bool (longB l)) ∧ Ext w w' := by
  obtain ⟨sa, cap, rfl, h1, h2, -⟩ := hl.spec
  clear hl
  by_cases ha : 40 < l.length
  · have ha' : decide ((40 : Int) < (l.length : Int)) = true := decide_eq_true (by omega)
    by_cases hb : l.length ≤ 200
    · have hb' : decide ((l.length : Int) ≤ 200) = true := decide_eq_true (by omega)
      have e : longB l = true := by simp [longB]; omega
      have E := Lib.hid e
      clear ha hb e
      go_enter Try.func27, Try.ntmps27
      go_wp2_with fail
      go_ret
      exact ⟨ret_bool (by rw [E.out]), Below.refl _ _⟩
    · have hb' : decide ((l.length : Int) ≤ 200) = false := decide_eq_false (by omega)
      by_cases hc : 210 < l.length
      · have hc' : decide ((210 : Int) < (l.length : Int)) = true := decide_eq_true (by omega)
        have e : longB l = true := by simp [longB]; omega
        have E := Lib.hid e
        clear ha hb hc e
        go_enter Try.func27, Try.ntmps27
        go_wp2_with fail
        go_ret
        exact ⟨ret_bool (by rw [E.out]), Below.refl _ _⟩
      · have hc' : decide ((210 : Int) < (l.length : Int)) = false := decide_eq_false (by omega)
        have e : longB l = false := by simp [longB]; omega
        have E := Lib.hid e
        clear ha hb hc e
        go_enter Try.func27, Try.ntmps27
        go_wp2_with fail
        go_ret
        exact ⟨ret_bool (by rw [E.out]), Below.refl _ _⟩
  · have ha' : decide ((40 : Int) < (l.length : Int)) = false := decide_eq_false (by omega)
    have hc' : decide ((210 : Int) < (l.length : Int)) = false := decide_eq_false (by omega)
    have e : longB l = false := by simp [longB]; omega
    have E := Lib.hid e
    clear ha e
    go_enter Try.func27, Try.ntmps27
    go_wp2_with fail
    go_ret
    exact ⟨ret_bool (by rw [E.out]), Below.refl _ _⟩
set_option maxRecDepth 100000 in
set_option maxHeartbeats 1000000 in
theorem several_any (ps : List (Value × List Stp)) (rv : Value) (w : World) (hv : IsRngs w rv ps) : Calls Try.prog 33 #[rv] w fun e w' => e = .returned (.bool (severalB (ps.map (·.2)))) ∧ Ext w w' := by
  obtain ⟨sa, cap, rfl, h1, h2, -⟩ := hv.spec
  have HV := Lib.hid hv
  clear hv
  by_cases ha : 30 < ps.length
  · have ha' : decide ((30 : Int) < (ps.length : Int)) = true := decide_eq_true (by omega)
    have e : severalB (ps.map (·.2)) = true := by simp [severalB, ha]
    have E := Lib.hid e
    clear ha e
    go_enter Try.func33, Try.ntmps33
    go_wp2_with fail
    go_ret
    exact ⟨ret_bool (by rw [E.out]), Below.refl _ _⟩
  · have ha' : decide ((30 : Int) < (ps.length : Int)) = false := decide_eq_false (by omega)
    have e : severalB (ps.map (·.2)) = ps.any (fun x => longB x.2) := by
      unfold severalB
      rw [List.length_map, decide_eq_false ha, Bool.false_or, any_map2]
    have E := Lib.hid e
    clear ha e
    go_enter Try.func33, Try.ntmps33
    go_wp2_with fail
    go_loopw [3] (fun i W => ∃ k : Nat, k ≤ ps.length ∧ i = .int .i64 k ∧ (∀ x ∈ ps.take k, longB x.2 = false) ∧ Ext w W) (fun i _ => ps.length - (intOf i).toNat)
    case atStart => exact ⟨0, Nat.zero_le _, rfl, by simp, Below.refl _ _⟩
    case round =>
      obtain ⟨k, hk, rfl, hno, hb⟩ := hrel
      have HN := Lib.hid hno
      have HB := Lib.hid hb
      by_cases hlt : k < ps.length
      · rcases (HV.out.ext hb).opened with e | ⟨rb, ro, rfl, hrc⟩
        · simp [e] at hlt
        have hck := hrc k hlt
        have hst := (HV.out.2 ps[k] (List.getElem_mem hlt)).ext hb
        have HST := Lib.hid hst
        clear hno hb hrc hst
        go_wp2_with fail
        refine callGr (long_any ps[k].2 ps[k].1 _ HST.out) fun g => ?_
        cases hx : longB ps[k].2
        · have HX := Lib.hid hx
          clear hx
          go_wp2_with fail
          go_roundw
          case rel => exact ⟨k + 1, by omega, by go_num, take_ext (p := fun x => longB x.2) hlt HN.out HX.out, HB.out.trans' (grow_below _ _)⟩
          case measure => simp [intOf]; omega
        · have HX := Lib.hid hx
          clear hx
          go_wp2_with fail
          go_ret
          exact ⟨ret_bool (by rw [E.out, any_of_at hlt (p := fun x => longB x.2) HX.out]), HB.out.trans' (grow_below _ _)⟩
      · have hnone := take_all hlt HN.out
        have HNO := Lib.hid hnone
        clear hno hb hnone
        go_wp2_with fail
        go_ret
        exact ⟨ret_bool (by rw [E.out, any_of_none HNO.out]), HB.out⟩
set_option maxHeartbeats 1000000 in
theorem fine_any (h : Hall) (sv : Value) (w : World) (hs : IsCnts w sv h.cs) :
    Calls Try.prog 46 #[.agg #[.int .i64 h.n, .int .i64 h.most, sv]] w fun e w' => e = .returned (.bool (chk h == 0)) ∧ Ext w w' := by
  obtain ⟨sa, cap, rfl, hl1, hl2, -⟩ := hs.spec
  have HS := Lib.hid hs
  clear hs
  obtain ⟨c, hc⟩ : ∃ c, c = chk h := ⟨_, rfl⟩
  have c2 := fun w hs => checkHallR_any h (.slice sa h.cs.length cap) w hs
  rw [← hc] at c2 ⊢
  have C2 := Lib.hid c2
  have HC := Lib.hid hc
  clear c2 hc
  go_enter Try.func46, Try.ntmps46
  go_wp2_with fail
  refine callGr (great_any h _ _ (HS.out.ext (by exact (by repeat (first | exact Below.refl _ _ | refine Ext.al ?_ _ | refine Ext.dr ?_ | refine Ext.drN ?_ _ | refine Ext.gr ?_ _ | refine Ext.set ?_ (by simp) _ | (refine Ext.trans' ?_ (by assumption))))))) fun g => ?_
  by_cases hg : 20 < h.cs.length
  · have e : (c == 0) = false := by
      have : chk h = 6 := by unfold chk; rw [if_pos (by omega)]
      rw [HC.out, this]; rfl
    have E := Lib.hid e
    rw [decide_eq_true hg]
    clear hg e
    go_wp2_with fail
    go_ret
    exact ⟨ret_bool (by rw [E.out]), (by repeat (first | exact Below.refl _ _ | refine Ext.al ?_ _ | refine Ext.dr ?_ | refine Ext.drN ?_ _ | refine Ext.gr ?_ _ | refine Ext.set ?_ (by simp) _ | (refine Ext.trans' ?_ (by assumption))))⟩
  · rw [decide_eq_false hg]
    clear hg
    go_wp2_with fail
    refine callGr2 (C2.out _ (HS.out.ext (by exact (by repeat (first | exact Below.refl _ _ | refine Ext.al ?_ _ | refine Ext.dr ?_ | refine Ext.drN ?_ _ | refine Ext.gr ?_ _ | refine Ext.set ?_ (by simp) _ | (refine Ext.trans' ?_ (by assumption))))))) fun g => ?_
    go_wp2_with fail
    go_ret
    exact ⟨ret_bool rfl, (by repeat (first | exact Below.refl _ _ | refine Ext.al ?_ _ | refine Ext.dr ?_ | refine Ext.drN ?_ _ | refine Ext.gr ?_ _ | refine Ext.set ?_ (by simp) _ | (refine Ext.trans' ?_ (by assumption))))⟩
end Go.Proofs.Ytgcldgchhdjnhaa
namespace Go.Proofs.Ytgcldgchhdjnhaa
open Go.RowKit Go.Shelf
section
variable {P : Program} {B : Nat} {strong : Bool} {o : Oper} {ρ : Operand → Value} {W : World} {s : Sq}
theorem runq_val {v : Value} {W' : World} (h : (execOp ρ o).run P W = .ok (.value v) W') (he : Eff B strong W W') (hs : s.p (match o.dst with | some _ => v | none => undef) W') : RunQ P B strong o ρ W s := by
  unfold RunQ; rw [h]; exact ⟨he, hs⟩
theorem runq_skip {W' : World} (h : (execOp ρ o).run P W = .ok .skip W') (he : Eff B strong W W') (hs : s.p undef W') : RunQ P B strong o ρ W s := by
  unfold RunQ; rw [h]; exact ⟨he, hs⟩
theorem runq_append (x y : Operand) {t ty : TypeId} (h : o.op = .call { callee := .builtin .append, args := #[x, y], argTypes := #[t, t] }) (hty : o.type = ty) (xv yv : Value) (hx : ρ x = xv) (hy : ρ y = yv) {v : Value} {W' : World} (hr : (Builtin.append_ #[t, t] ty #[xv, yv]).run P W = .ok v W')
    (he : Eff B strong W W') (hs : s.p (match o.dst with | some _ => v | none => undef) W') : RunQ P B strong o ρ W s := by
  refine runq_val (v := v) (W' := W') ?_ he hs
  unfold execOp
  simp only [h, resolve, invoke, builtin, Sem.run_bind, Sem.run_pure, Result.andThen_ok, List.map_toArray, List.map_cons, List.map_nil, hx, hy, hty, hr]
end
theorem runq_call {P : Program} {B : Nat} {o : Oper} {ρ : Operand → Value} {W : World} {s : Sq} (f : FuncId) (xs : Array Operand) (ats : Array TypeId) (h : o.op = .call { callee := .value (.func f), args := xs, argTypes := ats }) (args : Array Value) (hf : ρ (.func f) = .func (.func f) #[] #[]) (ha : xs.map ρ = args) (hc : ∀ args W, (callFunc f args).run P W = .ok (.enter f args) W)
    (hs : Calls P f args W fun e W'' => ∃ v, e = .returned v ∧ Ext W W'' ∧ s.p (match o.dst with | some _ => v | none => undef) W'') : RunQ P B false o ρ W s := by
  obtain ⟨dst, op, type, pos, after, guard⟩ := o
  simp only at h
  subst h
  have e : execOp ρ { dst, op := .call { callee := .value (.func f), args := xs, argTypes := ats }, type, pos, after, guard } = callFunc f (#[] ++ xs.map ρ ++ #[]) := by
    simp only [execOp, resolve, hf]
    rfl
  unfold RunQ
  rw [e]
  have e2 : #[] ++ xs.map ρ ++ #[] = args := by rw [ha]; simp
  rw [e2, hc]
  exact hs
/-- an empty slice that is not nil, of a literal -/
def IsNew (w : World) (B : Nat) (e : TypeId) (sz : Nat) (v : Value) : Prop := ∃ g, v = .slice (some ⟨g, 0, none⟩) 0 0 ∧ Owns w B e sz v []
theorem isNew (w : World) (e : TypeId) (sz B : Nat) (hB : B ≤ w.heap.size) : IsNew (w.alloc (.cells #[] e)) B e sz (.slice (some ⟨w.heap.size, 0, none⟩) 0 0) := by
  refine ⟨_, rfl, ⟨by simp, .inr ⟨w.heap.size, 0, #[], rfl, hB, ?_, by simp, by simp [maxLen], by simp, by simp⟩⟩, by simp⟩
  show (w.heap.push _)[w.heap.size]? = _
  rw [Array.getElem?_push, if_pos rfl]
theorem app_new {w : World} {t e : TypeId} {sz : Nat} (el : El t e sz) (ty : TypeId) (B : Nat) {v x : Value} (hv : IsNew w B e sz v) (news : List (List Value))
    (hr : ∀ r ∈ news, r.length = sz) (hs : IsRows w sz x news) (h1 : ∀ r ∈ news, ∀ u ∈ r, u.oneCell' = true) (hn : news.length ≤ 1000000) (hB : B ≤ w.heap.size) :
    ∃ v' w', (Builtin.append_ #[t, t] ty #[v, x]).run Try.prog w = .ok v' w' ∧ Owns w' B e sz v' news ∧ Ext w w' := by
  obtain ⟨g, rfl, hown⟩ := hv
  obtain ⟨A, c, rfl, _, _, hs⟩ := hs
  obtain ⟨i, z, hi, hz, hsi, hby, hzs⟩ := el.info
  by_cases hne : news = []
  · subst hne
    refine ⟨.slice (some ⟨g, 0, none⟩) 0 0, w, ?_, hown, Below.refl _ _⟩
    clear hs
    cases A <;> simp [Builtin.append_, run_underlying el.und, sizeOf, typeInfo, hi, Builtin.lenOf, Builtin.firstCells, storeCells, loadCells, loadCellsFrom]
  · rcases hs with h | ⟨b, off, rfl, hc⟩
    · exact absurd h hne
    · have hpos : 0 < news.length := List.length_pos_iff.2 hne
      obtain ⟨v', w', hrun, r1, r2⟩ := run_append_arg_grows (P := Try.prog) w t ty e i z sz i.bytes el.und hi hz hsi rfl hzs el.pos ⟨g, 0, none⟩ 0 0 [] (by simp) (by simp) ⟨b, off, none⟩ news.length c news.flatten (flatten_len hr)
        (fun j u hj => by rw [addr_add]; exact rows_flat hr hc j u hj) (by omega) (by simp [maxLen]; omega) (by have := Nat.mul_le_mul hn hby; rw [Nat.zero_add]; omega)
      refine ⟨v', w', hrun, ?_, (Below.refl _ w).grown r2 (Nat.le_refl _) fun k hk => by cases hk⟩
      have : Owns w' w.heap.size e sz v' news := ⟨by simpa using r1, hr⟩
      exact this.base hB
theorem IsNew.ext {w w' : World} {B : Nat} {e : TypeId} {sz : Nat} {v : Value} (h : IsNew w B e sz v) (k : Ext w w') : IsNew w' B e sz v := by
  obtain ⟨g, h1, h2⟩ := h; exact ⟨g, h1, h2.ext k⟩
theorem cnt_len {cs : List Cnt} : ∀ r ∈ cs.map Cnt.cells, r.length = 4 := by
  intro r hr; obtain ⟨x, _, rfl⟩ := List.mem_map.1 hr; rfl
theorem cnt_one {cs : List Cnt} : ∀ r ∈ cs.map Cnt.cells, ∀ u ∈ r, u.oneCell' = true := by
  intro r hr; obtain ⟨x, _, rfl⟩ := List.mem_map.1 hr
  simp [Cnt.cells, Value.oneCell']
set_option maxRecDepth 100000 in
set_option maxHeartbeats 1000000 in
theorem with_own (h : Hall) (sv : Value) (c : Cnt) (w : World) (hs : IsCnts w sv h.cs) (h10 : h.cs.length ≤ 20) :
    Calls Try.prog 49 #[.agg #[.int .i64 h.n, .int .i64 h.most, sv], .agg #[.int .i64 c.f, .int .i64 c.t, .int .i64 c.lo, .int .i64 c.hi]] w fun e w' => ∃ sv', e = .returned (.agg #[.int .i64 h.n, .int .i64 h.most, sv']) ∧ Ext w w' ∧ Owns w' w.heap.size 70 4 sv' ((h.cs ++ [c]).map Cnt.cells) := by
  obtain ⟨sa, cap, rfl, hl1, hl2, -⟩ := hs.spec
  have HS0 := Lib.hid hs
  clear hs
  go_enter Try.func49, Try.ntmps49
  go_upto_region 2 with (fail)
  obtain ⟨s, hs⟩ : ∃ s, s = w.heap.size := ⟨_, rfl⟩
  obtain ⟨W1, hW1⟩ : ∃ W1, W1 = (((w.alloc (.cells #[.int .i64 h.n, .int .i64 h.most, .slice sa h.cs.length cap] 24)).alloc (.cells #[.int .i64 c.f, .int .i64 c.t, .int .i64 c.lo, .int .i64 c.hi] 70)).alloc (.cells #[.int .i64 0, .int .i64 0, .slice none 0 0] 24)).alloc (.cells #[.int .i64 h.n, .int .i64 h.most, .slice sa h.cs.length cap] 24) := ⟨_, rfl⟩
  have hE : Ext w W1 := by rw [hW1]; exact (by repeat (first | exact Below.refl _ _ | refine Ext.al ?_ _ | refine Ext.dr ?_ | refine Ext.drN ?_ _ | refine Ext.gr ?_ _ | refine Ext.set ?_ (by simp) _ | (refine Ext.trans' ?_ (by assumption))))
  have k2 : W1.cell? ⟨s, 2, none⟩ = some (.slice sa h.cs.length cap) := by rw [hW1, hs]; simp [go_sem]
  have c0 : W1.cell? ⟨s + 1, 0, none⟩ = some (.int .i64 c.f) := by rw [hW1, hs]; simp [go_sem]
  have c1 : W1.cell? ⟨s + 1, 1, none⟩ = some (.int .i64 c.t) := by rw [hW1, hs]; simp [go_sem]
  have c2 : W1.cell? ⟨s + 1, 2, none⟩ = some (.int .i64 c.lo) := by rw [hW1, hs]; simp [go_sem]
  have c3 : W1.cell? ⟨s + 1, 3, none⟩ = some (.int .i64 c.hi) := by rw [hW1, hs]; simp [go_sem]
  have hb : W1.heap[s + 1 + 1 + 1]? = some (.cells #[.int .i64 h.n, .int .i64 h.most, .slice sa h.cs.length cap] 24 (0, 0)) := by
    rw [hW1, hs]
    show (Array.push _ _)[w.heap.size + 1 + 1 + 1]? = _
    rw [Array.getElem?_push, if_pos (by simp)]
  have hr : W1.heap[s + 1 + 1]? = some (.cells #[.int .i64 0, .int .i64 0, .slice none 0 0] 24 (0, 0)) := by
    rw [hW1, hs]
    show (Array.push (Array.push _ _) _)[w.heap.size + 1 + 1]? = _
    rw [Array.getElem?_push, if_neg (by simp), Array.getElem?_push, if_pos (by simp)]
  have hz : W1.heap.size = s + 1 + 1 + 1 + 1 := by rw [hW1, hs]; simp
  rw [← hs, ← hW1]
  have HE := Lib.hid hE
  have HSS := Lib.hid hs
  have HB := Lib.hid hb
  have HR := Lib.hid hr
  have HZ := Lib.hid hz
  clear hW1 hE hs hb hr hz
  have hz1 := HZ.out
  refine wp_region_rove_tail rfl rfl (by kernel_rfl) (s + 1 + 1 + 1 + 1) (by omega)
    [sqW (fun v W => IsNew W (s + 1 + 1 + 1 + 1) 70 4 v) (fun _ _ _ h e => h.ext e),
     sqV (.pointer (some ⟨s, 2, none⟩)),
     sqV (.slice sa h.cs.length cap),
     sqW (fun v W => Owns W (s + 1 + 1 + 1 + 1) 70 4 v (h.cs.map Cnt.cells)) (fun _ _ _ h e => h.ext e),
     sqV (.agg #[.int .i64 c.f, .int .i64 c.t, .int .i64 c.lo, .int .i64 c.hi]),
     sqW (fun v W => ∃ b, v = .slice (some ⟨b, 0, none⟩) 1 1 ∧ RowsAt W 4 b 0 ([c.cells])) (fun _ _ _ ⟨b, h1, h2⟩ e => ⟨b, h1, h2.ext e⟩),
     sqW (fun v W => Owns W (s + 1 + 1 + 1 + 1) 70 4 v (h.cs.map Cnt.cells ++ [c.cells])) (fun _ _ _ h e => h.ext e),
     sqV (.pointer (some ⟨s + 1 + 1 + 1, 2, none⟩))]
    [false, true, true, false, true, false, false, true] [false, false, false, false, false, false, true, false] [false, true, true, false, true, false, true, true] [true, true, true, true, true, true, true, false]
    (by kernel_rfl) (by kernel_rfl) (by decide +kernel) (by decide +kernel) (by decide +kernel) rfl rfl ⟨?s0, ?s1, ?s2, ?s3, ?s4, ?s5, ?s6, ?s7, trivial⟩ [some 7, some 8, some 9, some 10, some 11, some 12, some 13, some 14] rfl rfl ?send
  case s0 =>
    intro val ρ W hE hz hd hA hx
    exact runq_val (W' := W.alloc (.cells #[] 70)) (v := .slice (some ⟨W.heap.size, 0, none⟩) 0 0) (by simp [execOp, go_sem]) (by repeat (first | exact Below.refl _ _ | refine Ext.al ?_ _ | refine Ext.dr ?_ | refine Ext.drN ?_ _ | refine Ext.gr ?_ _ | refine Ext.set ?_ (by simp) _ | (refine Ext.trans' ?_ (by assumption)))) (isNew W _ _ _ (by omega))
  case s1 =>
    intro val ρ W hE hz hd hA hx
    have o0 : ρ (.tmp 2) = .pointer (some ⟨s, 0, none⟩) := hA.old 2 (by decide)
    clear hd
    exact runq_val (W' := W) (by simp [execOp, o0, go_sem]) (Below.refl _ _) rfl
  case s2 =>
    intro val ρ W hE hz hd hA hx
    have d1 : ρ (.tmp 8) = .pointer (some ⟨s, 2, none⟩) := (hA.dep 1 (by decide) 8 rfl).trans (hd 1 (by decide))
    have f_k2 := cell_below hE (by simp only; omega) k2
    clear hd
    exact runq_val (W' := W) (by simp [execOp, d1, f_k2, go_sem]) (Below.refl _ _) rfl
  case s4 =>
    intro val ρ W hE hz hd hA hx
    have o0 : ρ (.tmp 3) = .pointer (some ⟨s + 1, 0, none⟩) := hA.old 3 (by decide)
    have f_c0 := cell_below hE (by simp only; omega) c0
    have f_c1 := cell_below hE (by simp only; omega) c1
    have f_c2 := cell_below hE (by simp only; omega) c2
    have f_c3 := cell_below hE (by simp only; omega) c3
    clear hd
    exact runq_val (W' := W) (by simp [execOp, o0, f_c0, f_c1, f_c2, f_c3, go_sem]) (Below.refl _ _) rfl
  case s5 =>
    intro val ρ W hE hz hd hA hx
    have d4 : ρ (.tmp 11) = .agg #[.int .i64 c.f, .int .i64 c.t, .int .i64 c.lo, .int .i64 c.hi] := (hA.dep 4 (by decide) 11 rfl).trans (hd 4 (by decide))
    clear hd hA
    refine runq_val (by simp [execOp, d4, go_sem]; exact ⟨rfl, rfl⟩) (by exact (by repeat (first | exact Below.refl _ _ | refine Ext.al ?_ _ | refine Ext.dr ?_ | refine Ext.drN ?_ _ | refine Ext.gr ?_ _ | refine Ext.set ?_ (by simp) _ | (refine Ext.trans' ?_ (by assumption))))) ⟨_, rfl, newRows _ ([c.cells]) _ _ _ 4 rfl (by simp [Cnt.cells]) (by simp [Cnt.cells])⟩
  case s7 =>
    intro val ρ W hE hz hd hA hx
    have o0 : ρ (.tmp 5) = .pointer (some ⟨s + 1 + 1 + 1, 0, none⟩) := hA.old 5 (by decide)
    clear hd
    exact runq_val (W' := W) (by simp [execOp, o0, go_sem]) (Below.refl _ _) rfl
  case s3 =>
    intro val ρ W hE hz hd hA hx
    have d0 : IsNew W (s + 1 + 1 + 1 + 1) 70 4 (val 0) := hd 0 (by decide)
    have e0 : ρ (.tmp 7) = val 0 := hA.dep 0 (by decide) 7 rfl
    have d2 : ρ (.tmp 9) = .slice sa h.cs.length cap := (hA.dep 2 (by decide) 9 rfl).trans (hd 2 (by decide))
    have hS : IsCnts W (.slice sa h.cs.length cap) h.cs := HS0.out.ext (HE.out.trans (hE.mono (by have := HSS.out; omega)))
    obtain ⟨v', w', hrun, ho, he⟩ := app_new elCnt 22 _ d0 (h.cs.map Cnt.cells) cnt_len hS cnt_one (by simp; omega) (by omega)
    exact runq_append (.tmp 7) (.tmp 9) rfl rfl _ _ e0 d2 hrun he ho
  case s6 =>
    intro val ρ W hE hz hd hA hx
    have d3 : Owns W (s + 1 + 1 + 1 + 1) 70 4 (val 3) (h.cs.map Cnt.cells) := hd 3 (by decide)
    have e3 : ρ (.tmp 10) = val 3 := hA.dep 3 (by decide) 10 rfl
    obtain ⟨b, hv5, d5⟩ : ∃ b, val 5 = .slice (some ⟨b, 0, none⟩) 1 1 ∧ RowsAt W 4 b 0 [c.cells] := hd 5 (by decide)
    have e5 : ρ (.tmp 12) = .slice (some ⟨b, 0, none⟩) 1 1 := (hA.dep 5 (by decide) 12 rfl).trans hv5
    obtain ⟨v', w', hrun, ho, hb⟩ := app_run elCnt 22 (s + 1 + 1 + 1 + 1) d3 b 0 1 [c.cells] (by simp [Cnt.cells]) d5 (by simp [Cnt.cells, Value.oneCell']) (by simp; omega) (by omega)
    exact runq_append (.tmp 10) (.tmp 12) rfl rfl _ _ e3 e5 hrun (hb.mono (by omega)) ho
  case send =>
    intro val W hE hz hv
    obtain ⟨-, -, -, -, -, -, r6, r7, -⟩ := hv
    have q6 : Owns W (s + 1 + 1 + 1 + 1) 70 4 (val 6) (h.cs.map Cnt.cells ++ [c.cells]) := r6
    have q7 : val 7 = .pointer (some ⟨s + 1 + 1 + 1, 2, none⟩) := r7
    clear r6 r7
    obtain ⟨va, vn, vc, hv⟩ := q6.isSlice
    have hb : W.heap[s + 1 + 1 + 1]? = some (.cells #[.int .i64 h.n, .int .i64 h.most, .slice sa h.cs.length cap] 24 (0, 0)) := (hE.block _ (by omega)).trans HB.out
    have hr : W.heap[s + 1 + 1]? = some (.cells #[.int .i64 0, .int .i64 0, .slice none 0 0] 24 (0, 0)) := (hE.block _ (by omega)).trans HR.out
    have hzz : s + 1 + 1 + 1 < W.heap.size := by omega
    have b2 : W.cell? ⟨s + 1 + 1 + 1, 2, none⟩ = some (.slice sa h.cs.length cap) := by rw [cell_of_row _ _ _ _ _ _ hb]; rfl
    have b0 : W.cell? ⟨s + 1 + 1 + 1, 0, none⟩ = some (.int .i64 h.n) := by rw [cell_of_row _ _ _ _ _ _ hb]; rfl
    have b1 : W.cell? ⟨s + 1 + 1 + 1, 1, none⟩ = some (.int .i64 h.most) := by rw [cell_of_row _ _ _ _ _ _ hb]; rfl
    have r0 : W.cell? ⟨s + 1 + 1, 0, none⟩ = some (.int .i64 0) := by rw [cell_of_row _ _ _ _ _ _ hr]; rfl
    have r1 : W.cell? ⟨s + 1 + 1, 1, none⟩ = some (.int .i64 0) := by rw [cell_of_row _ _ _ _ _ _ hr]; rfl
    have r2 : W.cell? ⟨s + 1 + 1, 2, none⟩ = some (.slice none 0 0) := by rw [cell_of_row _ _ _ _ _ _ hr]; rfl
    have rf : ∀ o, W.frozen? ⟨s + 1 + 1, o, none⟩ = false := fun o => by simp [World.frozen?, hr]
    have bf : W.frozen? ⟨s + 1 + 1 + 1, 2, none⟩ = false := by simp [World.frozen?, hb]
    have HB2 := Lib.hid hb
    have HR2 := Lib.hid hr
    have HE2 := Lib.hid hE
    clear hb hr hE k2 c0 c1 c2 c3
    simp only [putD, q7, hv]
    go_frame
    clear q7
    rw [hv] at q6
    have HQ6 := Lib.hid q6
    clear hv q6
    go_wp2_with fail
    obtain rfl := HSS.out
    have HE3 := Lib.hid (HE.out.trans (HE2.out.mono (by omega)) : Ext w W)
    refine bodyPost_ret (v := .agg #[.int .i64 h.n, .int .i64 h.most, .slice va vn vc]) (by simp [results, Try.results49, go_sem, r0, r1, r2]) rfl ?_
    refine ⟨_, rfl, ?_, ?_⟩
    · exact (((HE3.out.setCell (by simp only; omega) _).setCell (by simp only; omega) _).setCell (by simp only; omega) _).setCell (by simp only; omega) _
    · have := HQ6.out.of_heap (w' := (((W.setCell ⟨w.heap.size + 1 + 1 + 1, 2, none⟩ (.slice va vn vc)).setCell ⟨w.heap.size + 1 + 1, 0, none⟩ (.int .i64 h.n)).setCell ⟨w.heap.size + 1 + 1, 1, none⟩ (.int .i64 h.most)).setCell ⟨w.heap.size + 1 + 1, 2, none⟩ (.slice va vn vc)) fun k hk _ => by
        rw [Below.heap_setCell _ _ _ _ (by simp only; omega), Below.heap_setCell _ _ _ _ (by simp only; omega), Below.heap_setCell _ _ _ _ (by simp only; omega), Below.heap_setCell _ _ _ _ (by simp only; omega)]
      rw [show h.cs.map Cnt.cells ++ [c.cells] = (h.cs ++ [c]).map Cnt.cells by simp] at this
      exact this.base (by omega)
theorem with_any (h : Hall) (sv : Value) (c : Cnt) (w : World) (hs : IsCnts w sv h.cs) (h10 : h.cs.length ≤ 20) :
    Calls Try.prog 49 #[.agg #[.int .i64 h.n, .int .i64 h.most, sv], .agg #[.int .i64 c.f, .int .i64 c.t, .int .i64 c.lo, .int .i64 c.hi]] w fun e w' => ∃ sv', e = .returned (.agg #[.int .i64 h.n, .int .i64 h.most, sv']) ∧ Ext w w' ∧ IsCnts w' sv' (h.cs ++ [c]) :=
  (with_own h sv c w hs h10).mono fun _ _ ⟨sv', h1, h2, h3⟩ => ⟨sv', h1, h2, h3.isRows⟩
/-- a store into a block of another type leaves a slice that a call has made -/
theorem Owns.setOther {w : World} {B : Nat} {e T : TypeId} {sz b : Nat} {v : Value} {rows : List (List Value)} (h : Owns w B e sz v rows) {cur : Array Value} (hb : w.heap[b]? = some (.cells cur T (0, 0))) (hne : e ≠ T) (o : Nat) (x : Value) : Owns (w.setCell ⟨b, o, none⟩ x) B e sz v rows := by
  refine ⟨⟨h.1.1, ?_⟩, h.2⟩
  rcases h.1.2 with a | ⟨g, cap, cur', hv, hbb, hg, hr⟩
  · exact .inl a
  · refine .inr ⟨g, cap, cur', hv, hbb, ?_, hr⟩
    rw [Below.heap_setCell _ _ _ _ (fun e' => ?_)]
    · exact hg
    · simp only at e'
      subst e'
      rw [hb] at hg
      cases hg
      exact hne rfl
end Go.Proofs.Ytgcldgchhdjnhaa
namespace Go.Proofs.Ytgcldgchhdjnhaa
open Go.RowKit Go.Shelf
set_option maxRecDepth 100000 in
set_option maxHeartbeats 1000000 in
theorem agrees_any (h : Hall) (sv : Value) (v : Valid h) (w : World) (hs : IsCnts w sv h.cs) :
    Calls Try.prog 48 #[.agg #[.int .i64 h.n, .int .i64 h.most, sv]] w fun e w' => e = .returned (.tuple #[.bool (leastM h 0).2, .bool true]) ∧ Ext w w' := by
  obtain ⟨sa, cap, rfl, hl1, hl2, -⟩ := hs.spec
  have HS0 := Lib.hid hs
  have hc := chk_of_valid v
  clear hs v
  obtain ⟨t, ht⟩ : ∃ t, t = truthL h := ⟨_, rfl⟩
  have c1 := fun w hs => truth_fin h (.slice sa h.cs.length cap) w hs
  unfold RetTruth at c1
  cases hag : (leastM h 0).2
  · have e : truthErr h = 5 := by unfold truthErr; rw [if_neg (fun hh => hh hc), hag]; rfl
    rw [e, ← ht] at c1
    have C1 := Lib.hid c1
    clear c1 e ht hag hc
    go_enter Try.func48, Try.ntmps48
    go_wp2_with fail
    refine (C1.out _ (HS0.out.ext (by exact (by repeat (first | exact Below.refl _ _ | refine Ext.al ?_ _ | refine Ext.dr ?_ | refine Ext.drN ?_ _ | refine Ext.gr ?_ _ | refine Ext.set ?_ (by simp) _ | (refine Ext.trans' ?_ (by assumption))))))).mono ?_
    rintro e W1 ⟨tv, rfl, hE, hT⟩
    obtain ⟨ta, tcap, rfl, -⟩ := hT.spec
    have HE := Lib.hid (Ext.trans' (by exact (by repeat (first | exact Below.refl _ _ | refine Ext.al ?_ _ | refine Ext.dr ?_ | refine Ext.drN ?_ _ | refine Ext.gr ?_ _ | refine Ext.set ?_ (by simp) _ | (refine Ext.trans' ?_ (by assumption))))) hE : Ext w W1)
    clear hT hE
    go_wp2_with fail
    go_ret2
    exact ⟨rfl, HE.out⟩
  · have e : truthErr h = 0 := by unfold truthErr; rw [if_neg (fun hh => hh hc), hag]; rfl
    have e2 := truthL_ok e
    have c2 := fun tv w hs ht => checkTruthR_any h (.slice sa h.cs.length cap) tv t w hs ht
    rw [e, ← ht] at c1
    rw [← ht] at e2
    rw [e2] at c2
    have C1 := Lib.hid c1
    have C2 := Lib.hid c2
    clear c1 c2 e e2 ht hag hc
    go_enter Try.func48, Try.ntmps48
    go_upto_region 1 with (fail)
    obtain ⟨W0, hW0⟩ : ∃ W0, W0 = w.alloc (.cells #[.int .i64 h.n, .int .i64 h.most, .slice sa h.cs.length cap] 24) := ⟨_, rfl⟩
    have hE : Ext w W0 := by rw [hW0]; exact (by repeat (first | exact Below.refl _ _ | refine Ext.al ?_ _ | refine Ext.dr ?_ | refine Ext.drN ?_ _ | refine Ext.gr ?_ _ | refine Ext.set ?_ (by simp) _ | (refine Ext.trans' ?_ (by assumption))))
    have k0 : W0.cell? ⟨w.heap.size, 0, none⟩ = some (.int .i64 h.n) := by rw [hW0]; simp [go_sem]
    have k1 : W0.cell? ⟨w.heap.size, 1, none⟩ = some (.int .i64 h.most) := by rw [hW0]; simp [go_sem]
    have k2 : W0.cell? ⟨w.heap.size, 2, none⟩ = some (.slice sa h.cs.length cap) := by rw [hW0]; simp [go_sem]
    have hz : w.heap.size < W0.heap.size := World.block_lt_of_cell? _ _ k0
    have HS := Lib.hid (HS0.out.ext hE)
    have HW := Lib.hid hE
    rw [← hW0]
    clear hW0 HS0 hE

    go_wp2_with fail
    refine callWR (W0 := W0) (g := ⟨W0, Below.refl _ _⟩) (by exact (by repeat (first | exact Below.refl _ _ | refine Ext.al ?_ _ | refine Ext.dr ?_ | refine Ext.drN ?_ _ | refine Ext.gr ?_ _ | refine Ext.set ?_ (by simp) _ | (refine Ext.trans' ?_ (by assumption))))) (C1.out _ (HS.out.ext (by exact (by repeat (first | exact Below.refl _ _ | refine Ext.al ?_ _ | refine Ext.dr ?_ | refine Ext.drN ?_ _ | refine Ext.gr ?_ _ | refine Ext.set ?_ (by simp) _ | (refine Ext.trans' ?_ (by assumption))))))) (fun _ _ ⟨_, _, r, _⟩ => r) fun _ g1 hgr hr => ?_
    obtain ⟨tv, rfl, -, hT⟩ := hr
    clear hgr
    obtain ⟨ta, tcap, rfl, -⟩ := hT.spec
    have HT := Lib.hid hT
    clear hT

    go_wp2_with fail
    refine callW (W0 := W0) (g := g1) (by exact (by repeat (first | exact Below.refl _ _ | refine Ext.al ?_ _ | refine Ext.dr ?_ | refine Ext.drN ?_ _ | refine Ext.gr ?_ _ | refine Ext.set ?_ (by simp) _ | (refine Ext.trans' ?_ (by assumption))))) (C2.out _ _ (HS.out.ext (by exact (by repeat (first | exact Below.refl _ _ | refine Ext.al ?_ _ | refine Ext.dr ?_ | refine Ext.drN ?_ _ | refine Ext.gr ?_ _ | refine Ext.set ?_ (by simp) _ | (refine Ext.trans' ?_ (by assumption)))))) (HT.out.ext (by exact (by repeat (first | exact Below.refl _ _ | refine Ext.al ?_ _ | refine Ext.dr ?_ | refine Ext.drN ?_ _ | refine Ext.gr ?_ _ | refine Ext.set ?_ (by simp) _ | (refine Ext.trans' ?_ (by assumption))))))) fun g2 hgr => ?_
    replace HT := Lib.hid (HT.out.ext hgr)
    clear hgr
    go_wp2_with fail
    go_ret2
    exact ⟨rfl, HW.out.trans' (grow_below W0 g2)⟩
set_option maxRecDepth 100000 in
set_option maxHeartbeats 1000000 in
theorem inside_any (lo hi a b r t : Int) (w : World) (h0 : 0 ≤ lo) (h1 : lo ≤ hi) (h2 : hi ≤ 10000000) (ha : 0 ≤ a) (ha2 : a ≤ 4294967295) (hb : 0 ≤ b) (hb2 : b ≤ 4294967295) (hr : a % (hi - lo + 1) = r) (ht : b % (hi - (lo + r) + 1) = t) :
    Calls Try.prog 51 #[.agg #[.int .i64 lo, .int .i64 hi], .int .u32 a, .int .u32 b] w fun e w' => e = .returned (.agg #[.int .i64 (lo + r), .int .i64 (lo + r + t)]) ∧ Ext w w' := by
  have r0 : 0 ≤ r := by rw [← hr]; exact Int.emod_nonneg _ (by omega)
  have r1 : r ≤ hi - lo := by have := Int.emod_lt_of_pos a (show 0 < hi - lo + 1 by omega); omega
  have t0 : 0 ≤ t := by rw [← ht]; exact Int.emod_nonneg _ (by omega)
  have t1 : t ≤ hi - lo - r := by have := Int.emod_lt_of_pos b (show 0 < hi - (lo + r) + 1 by omega); omega
  go_enter Try.func51, Try.ntmps51
  go_wp2_with fail
  go_quiet (fail)
  go_wp2_with fail
  refine bodyPost_ret (v := .agg #[.int .i64 (lo + r), .int .i64 (lo + r + t)]) (by simp [results, Try.results51, go_sem]) rfl ⟨rfl, ?_⟩
  exact (by repeat (first | exact Below.refl _ _ | refine Ext.al ?_ _ | refine Ext.dr ?_ | refine Ext.drN ?_ _ | refine Ext.gr ?_ _ | refine Ext.set ?_ (by simp) _ | (refine Ext.trans' ?_ (by assumption))))
/-- a row of memory that holds so many numbers -/
structure IntsB (cur : Array Value) (n : Nat) (k : IntKind) (f : Nat → Int) : Prop where
  size : cur.size = n
  at_ : ∀ j, j < n → cur[j]? = some (.int k (f j))
theorem IntsB.set {cur : Array Value} {n : Nat} {k : IntKind} {f : Nat → Int} (h : IntsB cur n k f) (i : Nat) (v : Int) : IntsB (cur.setIfInBounds i (.int k v)) n k (upd f i v) := by
  refine ⟨by simp [h.size], fun j hj => ?_⟩
  by_cases e : i = j
  · subst e
    rw [Array.getElem?_setIfInBounds_self_of_lt (by rw [h.size]; exact hj)]; simp [upd]
  · rw [Array.getElem?_setIfInBounds_ne e, h.at_ j hj, upd_off _ _ (fun h => e h.symm)]
theorem IntsB.isInts {W : World} {g n cap : Nat} {T : TypeId} {cur : Array Value} {k : IntKind} {f : Nat → Int} (hg : W.heap[g]? = some (.cells cur T (0, 0))) (h : IntsB cur n k f) (h1 : n ≤ cap) (h2 : cap ≤ 9223372036854775807) : IsInts W k (.slice (some ⟨g, 0, none⟩) n cap) ((List.range n).map f) := by
  have := IsInts.mk (w := W) (k := k) (l := (List.range n).map f) (b := g) (off := 0) (cap := cap) (by simpa using h1) h2 fun i hi => by
    rw [cell_of_row _ _ _ _ _ _ hg, Nat.zero_add, h.at_ i (by simpa using hi)]; simp
  simpa using this
theorem made_ints {w : World} {B g N : Nat} {T : TypeId} {k : IntKind} (h : w.ownsRow B T 1 (.slice (some ⟨g, 0, none⟩) N N) N (madeCells #[.int k 0] N).toList) : ∃ cur, w.heap[g]? = some (.cells cur T (0, 0)) ∧ IntsB cur N k (fun _ => 0) := by
  rcases h.2 with ⟨e, _⟩ | ⟨g', cap', cur, e, _, hg', _, _, hcs, ht⟩
  · cases e
  · cases e
    refine ⟨cur, hg', by omega, fun j hj => ?_⟩
    have hl : (madeCells #[Value.int k 0] N).toList.length = N := by simp [h.1]
    have e1 : cur.toList[j]? = (madeCells #[Value.int k 0] N).toList[j]? := by
      rw [← ht]; rw [List.getElem?_take_of_lt (by simpa using hj)]
    rw [← Array.getElem?_toList, e1]
    simp [madeCells, hj, Nat.mod_one]
/-- numbers for the windows, by numbers -/
def byL (most : Int) (by_ : List Int) (i : Nat) : Int := by_.getD (i % by_.length) 0 % (most + 1)
def truthBy (n : Nat) (most : Int) (by_ : List Int) : List Int := if by_ = [] then List.replicate n 0 else (List.range n).map (byL most by_)
set_option maxRecDepth 100000 in
set_option maxHeartbeats 1000000 in
theorem truthLaw_any (h : Hall) (sv bv : Value) (l : List Int) (v : Valid h) (w : World) (hs : IsCnts w sv h.cs) (hb : IsRows w 1 bv (l.map fun n => [.int .u32 n])) (hl : ∀ x ∈ l, 0 ≤ x ∧ x ≤ 4294967295) :
    Calls Try.prog 52 #[.agg #[.int .i64 h.n, .int .i64 h.most, sv], bv] w fun e w' => ∃ tv, e = .returned tv ∧ Ext w w' ∧ IsInts w' .i64 tv (truthBy h.n.toNat h.most l) := by
  obtain ⟨sa, cap, rfl, hl1, hl2, -⟩ := hs.spec
  obtain ⟨ba, bcap, rfl, hm1, hm2, hb2⟩ := hb
  simp only [List.length_map] at hm1 ⊢
  have n1 := v.n1
  have n10 := v.n10
  have m0 := v.m0
  have m1 := v.m1
  obtain ⟨N, hN⟩ : ∃ N : Nat, h.n = N := ⟨h.n.toNat, by omega⟩
  rw [hN] at n1 n10 ⊢
  have HN := Lib.hid hN
  have HL := Lib.hid hl
  clear hs v hl hN
  go_enter Try.func52, Try.ntmps52
  obtain ⟨iI, hiI, hzI, hsI, hbI⟩ := infI64
  have hbk : iI.bytes * N ≤ 281474976710656 := by rw [hbI]; omega
  go_wp2_with (first | (at_make; refine wpList_make_full _ rfl _ _ 25 rfl w.heap.size 2 iI (.int .i64 0) 1 elI64.und hiI hzI hsI .i64 .i64 _ _ N rfl rfl rfl rfl hbk (by simp [maxLen]; omega) (by simp) ?_))
  intro w3 hown3 hg3'
  obtain ⟨cur0, hc0, hb0⟩ := made_ints hown3
  have hE3 : Ext (w.alloc (.cells #[.int .i64 N, .int .i64 h.most, .slice sa h.cs.length cap] 24)) w3 := (Below.refl _ _).grown hg3' (Nat.le_refl _) fun k hk => by cases hk
  have k1 : w3.cell? ⟨w.heap.size, 1, none⟩ = some (.int .i64 h.most) := cell_ext hE3 (by simp [go_sem])
  have HK1 := Lib.hid k1
  have hE : Ext w w3 := Ext.trans' (by exact (by repeat (first | exact Below.refl _ _ | refine Ext.al ?_ _ | refine Ext.dr ?_ | refine Ext.drN ?_ _ | refine Ext.gr ?_ _ | refine Ext.set ?_ (by simp) _ | (refine Ext.trans' ?_ (by assumption))))) hE3
  have HE := Lib.hid hE
  have HC0 := Lib.hid hc0
  have HB0 := Lib.hid hb0
  have hg : Hid (w.heap.size + 1 < w3.heap.size) := Lib.hid (Array.getElem?_eq_some_iff.1 hc0).1
  clear hown3 hg3' hc0 hb0 hE3 hE k1 hiI hzI hsI hbI hbk iI
  go_wp2_with fail
  go_loopw [6] (fun i W => ∃ (k : Nat) (cur : Array Value), k ≤ N ∧ (l = [] → k = 0) ∧ i = .int .i64 k ∧ Below (w.heap.size + 1) w3 W ∧ w3.heap.size ≤ W.heap.size ∧ W.heap[w.heap.size + 1]? = some (.cells cur 2 (0, 0)) ∧ IntsB cur N .i64 (fun j => if j < k then byL h.most l j else 0)) (fun i _ => N - (intOf i).toNat)
  case atStart => exact ⟨0, cur0, by omega, fun _ => rfl, rfl, Below.refl _ _, Nat.le_refl _, HC0.out, by simpa using HB0.out⟩
  case round =>
    obtain ⟨k, cur, hk, hk0, rfl, hB, hsz, hcur, hI⟩ := hrel
    have k1 : wr.cell? ⟨w.heap.size, 1, none⟩ = some (.int .i64 h.most) := cell_below hB (by simp only; omega) HK1.out
    have HBB := Lib.hid hB
    have HCUR := Lib.hid hcur
    have HI := Lib.hid hI
    have HK0 := Lib.hid hk0
    have hgs := hg.out
    by_cases hlt : k < N
    · by_cases hl0 : l = []
      · subst hl0
        have hk00 := HK0.out rfl
        subst hk00
        clear hcur hI hk0 hB hb2
        go_wp2_with fail
        refine bodyPost_ret (v := .slice (some ⟨w.heap.size + 1, 0, none⟩) N N) (by simp [results, Try.results52, go_sem]) rfl ⟨_, rfl, HE.out.trans (HBB.out.mono (by omega)), ?_⟩
        have := HI.out.isInts HCUR.out (Nat.le_refl _) (by omega)
        rw [show (List.range N).map (fun j => if j < 0 then byL h.most [] j else 0) = truthBy N h.most [] by simp only [truthBy, if_pos, Nat.not_lt_zero, if_false]; rw [List.map_const', List.length_range]] at this
        exact this
      · have hne : 0 < l.length := List.length_pos_iff.2 hl0
        rcases hb2 with hb2 | ⟨bb, bo, rfl, hrows⟩
        · exact absurd (by simpa using hb2) hl0
        have hqb : k % l.length < l.length := Nat.mod_lt _ hne
        obtain ⟨q, hq⟩ : ∃ q, q = k % l.length := ⟨_, rfl⟩
        rw [← hq] at hqb
        have hq2 : (k : Int) % (l.length : Int) = (q : Int) := by rw [hq]; simp
        obtain ⟨x, hx⟩ : ∃ x, x = l[q] := ⟨_, rfl⟩
        have hxb := HL.out l[q] (List.getElem_mem hqb)
        have hc : wr.cell? ⟨bb, bo + q, none⟩ = some (.int .u32 x) := by
          have := hrows q (by simpa using hqb) 0 (by simp)
          simp at this
          rw [hx]
          exact cell_ext (HE.out.trans (hB.mono (by omega))) this
        rw [← hx] at hxb
        obtain ⟨x0, x1⟩ := hxb
        obtain ⟨r, hr⟩ : ∃ r, x % (h.most + 1) = r := ⟨_, rfl⟩
        have hlp : 0 < (l.length : Int) := by omega
        have hqi : (q : Int) < (l.length : Int) := by omega
        have hki : (k : Int) < (N : Int) := by omega
        have ho : wr.cell? ⟨w.heap.size + 1, k, none⟩ = some (.int .i64 0) := by
          rw [cell_of_row _ _ _ _ _ _ hcur, hI.at_ k hlt, if_neg (by omega)]
        have hof : wr.frozen? ⟨w.heap.size + 1, k, none⟩ = false := by simp [World.frozen?, hcur]
        have HQ := Lib.hid hq
        have HX := Lib.hid hx
        have hr' := Lib.hid hr
        clear hcur hI hk0 hB hrows hq hx
        go_wp2_with fail
        have hq3 : (k : Int).tmod (l.length : Int) = (q : Int) := by rw [Int.tmod_eq_emod_of_nonneg (by omega)]; exact hq2
        have hr3 : x.tmod (h.most + 1) = r := by rw [Int.tmod_eq_emod_of_nonneg (by omega)]; exact hr'.out
        have hwx : IntKind.i64.wrap x = x := IntWalk.i64_in _ (by omega)
        have hw1 : IntKind.i64.wrap (h.most + 1) = h.most + 1 := IntWalk.i64_in _ (by omega)
        have hmz : ¬ h.most + 1 = 0 := by omega
        go_still_tail 15, (by kernel_rfl)
        change wpList _ _ _ _ _ wr.drew
        have ho' : wr.drew.cell? ⟨w.heap.size + 1, k, none⟩ = some (.int .i64 0) := ho
        have hof' : wr.drew.frozen? ⟨w.heap.size + 1, k, none⟩ = false := hof
        clear hq3 hr3 hwx hw1 hmz hq2 hr
        go_wp2_with fail
        go_roundw
        case rel =>
          refine ⟨k + 1, cur.setIfInBounds k (.int .i64 r), by omega, fun e => absurd e hl0, by go_num, (HBB.out.setCell (by simp) _).drew, by simp; omega, heap_setCell_row HCUR.out k _, ?_⟩
          have hs := HI.out.set k r
          refine ⟨hs.size, fun j hj => ?_⟩
          rw [hs.at_ j hj]
          unfold upd
          by_cases hjk : j = k
          · subst hjk
            rw [if_pos rfl, if_pos (by omega), ← hr'.out, HX.out]
            unfold byL
            rw [← HQ.out, List.getD_eq_getElem?_getD, List.getElem?_eq_getElem hqb]; rfl
          · rw [if_neg hjk]
            show some (Value.int IntKind.i64 (if j < k then byL h.most l j else 0)) = _
            by_cases hjk2 : j < k
            · rw [if_pos hjk2, if_pos (by omega)]
            · rw [if_neg hjk2, if_neg (by omega)]
        case measure => simp [intOf]; omega
    · obtain rfl : k = N := by omega
      clear hcur hI hk0 hB hb2
      have hlt' : decide ((k : Int) < (k : Int)) = false := by simp
      go_wp2_with fail
      refine bodyPost_ret (v := .slice (some ⟨w.heap.size + 1, 0, none⟩) k k) (by simp [results, Try.results52, go_sem]) rfl ⟨_, rfl, HE.out.trans (HBB.out.mono (by omega)), ?_⟩
      have := HI.out.isInts HCUR.out (Nat.le_refl _) (by omega)
      rw [show (List.range k).map (fun j => if j < k then byL h.most l j else 0) = truthBy k h.most l by
        unfold truthBy
        rw [if_neg (fun e => by have := HK0.out e; omega)]
        exact List.map_congr_left fun j hj => by rw [if_pos (by simpa using hj)]] at this
      exact this
/-- does a list come before another one of the same length? -/
def bef : List Int → List Int → Bool
  | [], _ => false
  | _ :: _, [] => false
  | a :: l, b :: m => if a = b then bef l m else decide (a < b)
theorem bef_drop {a b : List Int} {k : Nat} (ha : k < a.length) (hb : k < b.length) : bef (a.drop k) (b.drop k) = if a[k] = b[k] then bef (a.drop (k + 1)) (b.drop (k + 1)) else decide (a[k] < b[k]) := by
  rw [List.drop_eq_getElem_cons ha, List.drop_eq_getElem_cons hb, bef]
set_option maxRecDepth 100000 in
set_option maxHeartbeats 1000000 in
theorem before_any (a b : List Int) (av bv : Value) (hl : a.length = b.length) (w : World) (ha : IsInts w .i64 av a) (hb : IsInts w .i64 bv b) :
    Calls Try.prog 55 #[av, bv] w fun e w' => e = .returned (.bool (bef a b)) ∧ Ext w w' := by
  obtain ⟨sa, cap, rfl, hl1, hl2, h1⟩ := ha.spec
  obtain ⟨sb, capb, rfl, hm1, hm2, h2⟩ := hb.spec
  have HL := Lib.hid hl
  clear ha hb hl
  go_enter Try.func55, Try.ntmps55
  go_wp2_with fail
  go_loopw [5] (fun i W => ∃ k : Nat, k ≤ a.length ∧ i = .int .i64 k ∧ bef a b = bef (a.drop k) (b.drop k) ∧ Ext w W) (fun i _ => a.length - (intOf i).toNat)
  case atStart => exact ⟨0, Nat.zero_le _, rfl, by simp, Below.refl _ _⟩
  case round =>
    obtain ⟨k, hk, rfl, heq, hE⟩ := hrel
    have HEQ := Lib.hid heq
    have HE := Lib.hid hE
    by_cases hlt : k < a.length
    · have hltb : k < b.length := by have := HL.out; omega
      have hst := bef_drop hlt hltb
      rcases h1 with h1 | ⟨ab, ao, rfl, hc1⟩
      · rw [h1] at hlt; simp at hlt
      rcases h2 with h2 | ⟨bb, bo, rfl, hc2⟩
      · rw [h2] at hltb; simp at hltb
      have c1 := cell_ext hE (hc1 k hlt)
      have c2 := cell_ext hE (hc2 k hltb)
      obtain ⟨x, hx⟩ : ∃ x, x = a[k] := ⟨_, rfl⟩
      obtain ⟨y, hy⟩ : ∃ y, y = b[k] := ⟨_, rfl⟩
      rw [← hx] at c1 hst
      rw [← hy] at c2 hst
      have HST := Lib.hid hst
      clear hc1 hc2 heq hE hx hy hst
      by_cases hxy : x = y
      · subst hxy
        have hxy' : (x == x) = true := by simp
        go_wp2_with fail
        go_quiet (fail)
        go_wp2_with fail
        go_roundw
        case rel => exact ⟨k + 1, by omega, by go_num, by rw [HEQ.out, HST.out]; simp, HE.out.drN _⟩
        case measure => simp [intOf]; omega
      · have hxy' : (x == y) = false := by simpa using hxy
        have hxy2 : (x != y) = true := by simpa using hxy
        have HXY := Lib.hid hxy
        clear hxy
        go_wp2_with fail
        go_quiet (fail)
        go_wp2_with fail
        go_quiet (fail)
        go_wp2_with fail
        go_ret
        exact ⟨ret_bool (by rw [HEQ.out, HST.out, if_neg HXY.out]), (by repeat (first | exact Below.refl _ _ | refine Ext.al ?_ _ | refine Ext.dr ?_ | refine Ext.drN ?_ _ | refine Ext.gr ?_ _ | refine Ext.set ?_ (by simp) _ | (refine Ext.trans' ?_ (by assumption))))⟩
    · obtain rfl : k = a.length := by omega
      clear heq hE
      go_wp2_with fail
      go_ret
      exact ⟨ret_bool (by rw [HEQ.out, List.drop_length]; rfl), HE.out⟩
set_option maxRecDepth 100000 in
set_option maxHeartbeats 1000000 in
theorem first_any (a b : List Int) (av bv : Value) (hl : a.length = b.length) (w : World) (ha : IsInts w .i64 av a) (hb : IsInts w .i64 bv b) :
    Calls Try.prog 89 #[av, bv] w fun e w' => e = .returned (.bool (bef a b)) ∧ Ext w w' := by
  obtain ⟨sa, cap, rfl, hl1, hl2, h1⟩ := ha.spec
  obtain ⟨sb, capb, rfl, hm1, hm2, h2⟩ := hb.spec
  have HL := Lib.hid hl
  clear ha hb hl
  go_enter Try.func89, Try.ntmps89
  go_wp2_with fail
  go_loopw [5] (fun i W => ∃ k : Nat, k ≤ a.length ∧ i = .int .i64 k ∧ bef a b = bef (a.drop k) (b.drop k) ∧ Ext w W) (fun i _ => a.length - (intOf i).toNat)
  case atStart => exact ⟨0, Nat.zero_le _, rfl, by simp, Below.refl _ _⟩
  case round =>
    obtain ⟨k, hk, rfl, heq, hE⟩ := hrel
    have HEQ := Lib.hid heq
    have HE := Lib.hid hE
    by_cases hlt : k < a.length
    · have hltb : k < b.length := by have := HL.out; omega
      have hst := bef_drop hlt hltb
      rcases h1 with h1 | ⟨ab, ao, rfl, hc1⟩
      · rw [h1] at hlt; simp at hlt
      rcases h2 with h2 | ⟨bb, bo, rfl, hc2⟩
      · rw [h2] at hltb; simp at hltb
      have c1 := cell_ext hE (hc1 k hlt)
      have c2 := cell_ext hE (hc2 k hltb)
      obtain ⟨x, hx⟩ : ∃ x, x = a[k] := ⟨_, rfl⟩
      obtain ⟨y, hy⟩ : ∃ y, y = b[k] := ⟨_, rfl⟩
      rw [← hx] at c1 hst
      rw [← hy] at c2 hst
      have HST := Lib.hid hst
      clear hc1 hc2 heq hE hx hy hst
      by_cases hxy : x = y
      · subst hxy
        have hxy' : (x == x) = true := by simp
        go_wp2_with fail
        go_quiet (fail)
        go_wp2_with fail
        go_roundw
        case rel => exact ⟨k + 1, by omega, by go_num, by rw [HEQ.out, HST.out]; simp, HE.out.drN _⟩
        case measure => simp [intOf]; omega
      · have hxy' : (x == y) = false := by simpa using hxy
        have hxy2 : (x != y) = true := by simpa using hxy
        have HXY := Lib.hid hxy
        clear hxy
        go_wp2_with fail
        go_quiet (fail)
        go_wp2_with fail
        go_quiet (fail)
        go_wp2_with fail
        go_ret
        exact ⟨ret_bool (by rw [HEQ.out, HST.out, if_neg HXY.out]), (by repeat (first | exact Below.refl _ _ | refine Ext.al ?_ _ | refine Ext.dr ?_ | refine Ext.drN ?_ _ | refine Ext.gr ?_ _ | refine Ext.set ?_ (by simp) _ | (refine Ext.trans' ?_ (by assumption))))⟩
    · obtain rfl : k = a.length := by omega
      clear heq hE
      go_wp2_with fail
      go_ret
      exact ⟨ret_bool (by rw [HEQ.out, List.drop_length]; rfl), HE.out⟩
end Go.Proofs.Ytgcldgchhdjnhaa
