/-
  The walk of open: the sheet of a hall, or its error, or that of places.
  Slices of steps as they lie in memory, and what following a way computes: plain, but for memory.
-/
import Derived.Test.YtgcldgchhdjnhaaLeast
namespace Go.Proofs.Ytgcldgchhdjnhaa
open Go.RowKit Go.Shelf

theorem IsInts.nil (w : World) (k : IntKind) : IsInts w k (.slice none 0 0) [] := ⟨none, 0, rfl, by simp, by omega, .inl rfl⟩

set_option maxHeartbeats 400000 in
theorem open1_any (p n : Int) (a : Addr) (w : World) (c0 : w.cell? a = some (.int .i64 n)) (ha : a.spot = none) :
    Calls Try.prog 95 #[.int .i64 p, .pointer (some a)] w fun e w' => e = .returned (.bool (oddP n p)) ∧ Ext w w' := by
  obtain ⟨b, o, sp⟩ := a
  obtain rfl : sp = none := ha
  by_cases h : p < 0
  · go_enter Try.func95, Try.ntmps95
    go_wp2
    all_goals
      go_ret
      exact ⟨ret_bool (by simp [oddP, h]), (by repeat (first | exact Below.refl _ _ | refine Ext.al ?_ _ | refine Ext.dr ?_ | refine Ext.drN ?_ _ | refine Ext.gr ?_ _ | refine Ext.set ?_ (by simp) _ | (refine Ext.trans' ?_ (by assumption))))⟩
  · go_enter Try.func95, Try.ntmps95
    go_wp2
    all_goals
      go_ret
      exact ⟨ret_bool (by simp [oddP]; omega), (by repeat (first | exact Below.refl _ _ | refine Ext.al ?_ _ | refine Ext.dr ?_ | refine Ext.drN ?_ _ | refine Ext.gr ?_ _ | refine Ext.set ?_ (by simp) _ | (refine Ext.trans' ?_ (by assumption))))⟩

set_option maxHeartbeats 1000000 in
theorem open_bad (h : Hall) (sv pv : Value) (ps : List Int) (w : World) (hs : IsCnts w sv h.cs) (hp : IsInts w .i64 pv ps) (he : openE h ps ≠ 0) :
    Calls Try.prog 63 #[.agg #[.int .i64 h.n, .int .i64 h.most, sv], pv] w fun e w' => e = .returned (.tuple #[.pointer none, .int .i64 (openE h ps)]) ∧ Ext w w' := by
  obtain ⟨sa, cap, rfl, hl1, hl2, -⟩ := hs.spec
  obtain ⟨pa, pcap, rfl, hm1, hm2, -⟩ := hp.spec
  have HS := Lib.hid hs
  have HP := Lib.hid hp
  have HE := Lib.hid he
  clear hs hp he
  go_enter Try.func63, Try.ntmps63
  go_wp2_with fail
  refine (checkHall_any h (.slice sa h.cs.length cap) _ (HS.out.ext (by repeat (first | exact Below.refl _ _ | refine Ext.al ?_ _ | refine Ext.dr ?_ | refine Ext.drN ?_ _ | refine Ext.gr ?_ _ | refine Ext.set ?_ (by simp) _ | (refine Ext.trans' ?_ (by assumption)))))).mono ?_
  rintro e W1 ⟨rfl, hb1⟩
  have k0 := cell_ext hb1 (a := ⟨w.heap.size, 0, none⟩) (v := .int .i64 h.n) (by simp [go_sem])
  have hE1 : Ext w W1 := (by repeat (first | exact Below.refl _ _ | refine Ext.al ?_ _ | refine Ext.dr ?_ | refine Ext.drN ?_ _ | refine Ext.gr ?_ _ | refine Ext.set ?_ (by simp) _ | (refine Ext.trans' ?_ (by assumption))))
  have HE1 := Lib.hid hE1
  clear hb1 hE1
  by_cases hc : chk h = 0
  · have hc' : (chk h == 0) = true := by simpa using hc
    go_wp2_with fail
    refine (containsFuncInt ps pa pcap 95 #[.pointer (some ⟨w.heap.size, 0, none⟩)] (oddP h.n) _ (by omega) (by obtain ⟨_, _, e, _, _, h3⟩ := (HP.out.ext HE1.out).spec; cases e; exact h3)
      (fun args W => Try.call95 args W) (fun x _ W hW => open1_any x h.n _ W (cell_ext hW k0) rfl)).mono ?_
    rintro e W2 ⟨rfl, hb2⟩
    have hpa : ps.any (oddP h.n) = true := by
      have := HE.out
      unfold openE at this
      simp only [hc, ne_eq, not_true_eq_false, if_false] at this
      by_cases ha : ps.any (oddP h.n) = true
      · exact ha
      · simp [ha] at this
    go_wp2_with fail
    refine bodyPost_ret (v := .tuple #[.pointer none, .int .i64 2]) (by simp [results, Try.results63, go_sem]) rfl ?_
    refine ⟨?_, HE1.out.trans' hb2⟩
    have e : openE h ps = 2 := by simp [openE, hc, hpa]
    rw [e]
  · have hc' : (chk h == 0) = false := by simpa using hc
    go_wp2_with fail
    refine bodyPost_ret (v := .tuple #[.pointer none, .int .i64 (chk h)]) (by simp [results, Try.results63, go_sem]) rfl ?_
    refine ⟨?_, HE1.out⟩
    have e : openE h ps = chk h := by simp [openE, hc]
    rw [e]

set_option maxHeartbeats 1000000 in
theorem open_ok (h : Hall) (sv pv : Value) (ps : List Int) (w : World) (hs : IsCnts w sv h.cs) (hp : IsInts w .i64 pv ps) (he : openE h ps = 0) :
    Calls Try.prog 63 #[.agg #[.int .i64 h.n, .int .i64 h.most, sv], pv] w fun e w' => ∃ b r, e = .returned (.tuple #[.pointer (some ⟨b, 0, none⟩), .int .i64 0]) ∧ Ext w w' ∧ SheetAt w' b r h sv := by
  have hc : chk h = 0 := by
    unfold openE at he
    by_cases e : chk h = 0
    · exact e
    · simp [e] at he
  have hpa : ps.any (oddP h.n) = false := by
    unfold openE at he
    simp only [hc, ne_eq, not_true_eq_false, if_false] at he
    by_cases ha : ps.any (oddP h.n) = true
    · simp [ha] at he
    · simpa using ha
  have v := valid_of_chk hc
  obtain ⟨sa, cap, rfl, hl1, hl2, -⟩ := hs.spec
  obtain ⟨pa, pcap, rfl, hm1, hm2, -⟩ := hp.spec
  have HS := Lib.hid hs
  have HP := Lib.hid hp
  have V := Lib.hid v
  clear hs hp he v
  go_enter Try.func63, Try.ntmps63
  go_wp2_with fail
  refine (checkHall_any h (.slice sa h.cs.length cap) _ (HS.out.ext (by repeat (first | exact Below.refl _ _ | refine Ext.al ?_ _ | refine Ext.dr ?_ | refine Ext.drN ?_ _ | refine Ext.gr ?_ _ | refine Ext.set ?_ (by simp) _ | (refine Ext.trans' ?_ (by assumption)))))).mono ?_
  rintro e W1 ⟨rfl, hb1⟩
  have k0 := cell_ext hb1 (a := ⟨w.heap.size, 0, none⟩) (v := .int .i64 h.n) (by simp [go_sem])
  have k1 := cell_ext hb1 (a := ⟨w.heap.size, 1, none⟩) (v := .int .i64 h.most) (by simp [go_sem])
  have k2 := cell_ext hb1 (a := ⟨w.heap.size, 2, none⟩) (v := .slice sa h.cs.length cap) (by simp [go_sem])
  have hE1 : Ext w W1 := (by repeat (first | exact Below.refl _ _ | refine Ext.al ?_ _ | refine Ext.dr ?_ | refine Ext.drN ?_ _ | refine Ext.gr ?_ _ | refine Ext.set ?_ (by simp) _ | (refine Ext.trans' ?_ (by assumption))))
  have HE1 := Lib.hid hE1
  clear hb1 hE1
  have hc' : (chk h == 0) = true := by simpa using hc
  go_wp2_with fail
  refine (containsFuncInt ps pa pcap 95 #[.pointer (some ⟨w.heap.size, 0, none⟩)] (oddP h.n) _ (by omega) (by obtain ⟨_, _, e, _, _, h3⟩ := (HP.out.ext HE1.out).spec; cases e; exact h3)
    (fun args W => Try.call95 args W) (fun x _ W hW => open1_any x h.n _ W (cell_ext hW k0) rfl)).mono ?_
  rintro e W2 ⟨rfl, hb2⟩
  replace k0 := cell_ext hb2 k0
  replace k1 := cell_ext hb2 k1
  replace k2 := cell_ext hb2 k2
  have HE2 := Lib.hid (HE1.out.trans' hb2)
  clear hb2
  go_wp2_with fail
  refine (newSheet_any h (.slice sa h.cs.length cap) V.out _ (HS.out.ext HE2.out)).mono ?_
  rintro e W3 ⟨rfl, hsh, hm⟩
  have HSh := Lib.hid hsh
  have HM := Lib.hid hm
  clear hsh hm k0 k1 k2
  go_wp2_with fail
  refine bodyPost_ret (v := .tuple #[.pointer (some ⟨W2.heap.size + 1 + 1, 0, none⟩), .int .i64 0]) (by simp [results, Try.results63, go_sem]) rfl ?_
  have hE3 : Ext w W3 := HE2.out.trans' HSh.out.ext
  exact ⟨_, _, rfl, hE3, HSh.out.c0, HSh.out.c1, HSh.out.c2, HSh.out.c3, HS.out.ext hE3, HM.out⟩
end Go.Proofs.Ytgcldgchhdjnhaa
namespace Go.Proofs.Ytgcldgchhdjnhaa
open Go.RowKit Go.Shelf

def Stp.cells (x : Stp) : List Value := [.bool x.win, .int .i64 x.idx, .bool x.back]
/-- a slice of steps -/
def IsStps (w : World) (v : Value) (l : List Stp) : Prop := IsRows w 3 v (l.map Stp.cells)
theorem IsStps.ext {w w' : World} (h : Ext w w') {v : Value} {l : List Stp} (hr : IsStps w v l) : IsStps w' v l := IsRows.ext h hr
theorem IsStps.nil (w : World) : IsStps w (.slice none 0 0) [] := ⟨none, 0, rfl, by simp, by omega, .inl rfl⟩
theorem IsStps.spec {w : World} {v : Value} {l : List Stp} (h : IsStps w v l) :
    ∃ sa cap, v = .slice sa l.length cap ∧ l.length ≤ cap ∧ cap ≤ 9223372036854775807 ∧ (l = [] ∨ ∃ b off, sa = some ⟨b, off, none⟩ ∧ ∀ i, (h : i < l.length) →
      w.cell? ⟨b, off + i * 3, none⟩ = some (.bool l[i].win) ∧ w.cell? ⟨b, off + i * 3 + 1, none⟩ = some (.int .i64 l[i].idx) ∧ w.cell? ⟨b, off + i * 3 + 2, none⟩ = some (.bool l[i].back)) := by
  obtain ⟨sa, cap, h1, h2, h3, h4⟩ := h
  refine ⟨sa, cap, by simpa using h1, by simpa using h2, h3, ?_⟩
  rcases h4 with h4 | ⟨b, off, e, h4⟩
  · exact .inl (by simpa using h4)
  · refine .inr ⟨b, off, e, fun i hi => ?_⟩
    have h4' := h4 i (by simpa using hi)
    have a0 := h4' 0 (by simp [Stp.cells])
    have a1 := h4' 1 (by simp [Stp.cells])
    have a2 := h4' 2 (by simp [Stp.cells])
    simp [Stp.cells] at a0 a1 a2
    exact ⟨a0, a1, a2⟩
theorem IsStps.opened {w : World} {sa : Option Addr} {cap n : Nat} {l : List Stp} (h : IsStps w (.slice sa n cap) l) :
    (l = [] ∨ ∃ b off, sa = some ⟨b, off, none⟩ ∧ ∀ i, (h : i < l.length) →
      w.cell? ⟨b, off + i * 3, none⟩ = some (.bool l[i].win) ∧ w.cell? ⟨b, off + i * 3 + 1, none⟩ = some (.int .i64 l[i].idx) ∧ w.cell? ⟨b, off + i * 3 + 2, none⟩ = some (.bool l[i].back)) := by
  obtain ⟨sa', cap', e, _, _, h3⟩ := h.spec
  cases e
  exact h3
theorem IsStps.mk {w : World} {l : List Stp} {b off cap : Nat} (h2 : l.length ≤ cap) (h3 : cap ≤ 9223372036854775807) (h : ∀ i, (h : i < l.length) →
      w.cell? ⟨b, off + i * 3, none⟩ = some (.bool l[i].win) ∧ w.cell? ⟨b, off + i * 3 + 1, none⟩ = some (.int .i64 l[i].idx) ∧ w.cell? ⟨b, off + i * 3 + 2, none⟩ = some (.bool l[i].back)) :
    IsStps w (.slice (some ⟨b, off, none⟩) l.length cap) l := by
  refine ⟨_, cap, by simp, by simpa using h2, h3, .inr ⟨b, off, rfl, fun i hi j hj => ?_⟩⟩
  simp only [List.length_map] at hi
  obtain ⟨a0, a1, a2⟩ := h i hi
  simp only [List.getElem_map, Stp.cells, List.length_cons, List.length_nil] at hj ⊢
  match j, hj with
  | 0, _ => simpa using a0
  | 1, _ => simpa using a1
  | 2, _ => simpa using a2

theorem ret_iib' {x y x' y' : Int} {z z' : Bool} (h : (x, y, z) = (x', y', z')) : Ending.returned (.tuple #[.int .i64 x, .int .i64 y, .bool z]) = .returned (.tuple #[.int .i64 x', .int .i64 y', .bool z']) := by
  cases h; rfl
end Go.Proofs.Ytgcldgchhdjnhaa
