/-
 The laws' helper paid: the dividends that the program returns, none if no winner is backed.
 What a dividend is: the plain law for PoolShared.
-/
import Derived.Test.YtphajlldghcnnaaPr
import Derived.Test.YtphajlldghcnnaaPj
import Derived.Test.YtphajlldghcnnaaPw
namespace Go.Proofs.Ytphajlldghcnnaa
open Go.RowKit Go.Shelf
/-- what paid returns of a finish that is one -/
def RetPaid (w : World) (b : Bk) (fs : List (List Int)) (e : Ending) (w' : World) : Prop :=
 Ext w w' ∧ ∃ v, e = .returned (.tuple #[v, .bool true]) ∧ IsRows w' 3 v ((divP b fs).map divRow)
set_option maxRecDepth 100000 in
set_option maxHeartbeats 2000000 in
theorem paidL_any (ps : List (Value × List Int)) (fv : Value) (b : Bk) (ba sa : Option Addr) (bcap scap : Nat) (w : World) (hv : IsBook w b ba bcap sa scap) (hf : IsFin w fv ps) (h0 : finErr b (finsOf ps) = 0) :
  Calls Try.prog 44 #[.agg #[.int .i64 b.kd, .int .i64 b.n, .slice ba b.bets.length bcap, .slice sa b.scr.length scap, .bool b.fav, .int .i64 b.car, .int .i64 b.duty, .int .i64 b.step], fv] w (RetPaid w b (finsOf ps)) := by
 obtain ⟨fa, fcap, rfl, hf1, hf2, -⟩ := hf.spec
 have HF := Lib.hid hf
 have H0 := Lib.hid h0
 clear hf h0
 have HV := Lib.hid hv
 clear hv
 go_enter Try.func44, Try.ntmps44
 go_upto_region 1 with (fail)
 obtain ⟨W0, hW0⟩ : ∃ W0, W0 = w.alloc (.cells #[.int .i64 b.kd, .int .i64 b.n, .slice ba b.bets.length bcap, .slice sa b.scr.length scap, .bool b.fav, .int .i64 b.car, .int .i64 b.duty, .int .i64 b.step] 25) := ⟨_, rfl⟩
 have hE : Ext w W0 := by rw [hW0]; exact xx
 have k0 : W0.cell? ⟨w.heap.size, 0, none⟩ = some (.int .i64 b.kd) := by rw [hW0]; simp [go_sem]
 have k1 : W0.cell? ⟨w.heap.size, 1, none⟩ = some (.int .i64 b.n) := by rw [hW0]; simp [go_sem]
 have k2 : W0.cell? ⟨w.heap.size, 2, none⟩ = some (.slice ba b.bets.length bcap) := by rw [hW0]; simp [go_sem]
 have k3 : W0.cell? ⟨w.heap.size, 3, none⟩ = some (.slice sa b.scr.length scap) := by rw [hW0]; simp [go_sem]
 have k4 : W0.cell? ⟨w.heap.size, 4, none⟩ = some (.bool b.fav) := by rw [hW0]; simp [go_sem]
 have k5 : W0.cell? ⟨w.heap.size, 5, none⟩ = some (.int .i64 b.car) := by rw [hW0]; simp [go_sem]
 have k6 : W0.cell? ⟨w.heap.size, 6, none⟩ = some (.int .i64 b.duty) := by rw [hW0]; simp [go_sem]
 have k7 : W0.cell? ⟨w.heap.size, 7, none⟩ = some (.int .i64 b.step) := by rw [hW0]; simp [go_sem]
 have hz : w.heap.size < W0.heap.size := World.block_lt_of_cell? _ _ k0
 have HS := Lib.hid (HV.out.ext hE)
 have HW := Lib.hid hE
 rw [← hW0]
 clear hW0 HV
 have HFW := Lib.hid (HF.out.ext hE)
 clear hE HF




 have t1 := fun w h1 h2 => dividendsP_any ps (.slice fa ps.length fcap) b ba sa bcap scap w h1 h2
 obtain ⟨er, her⟩ : ∃ er, er = divErr b (finsOf ps) := ⟨_, rfl⟩
 obtain ⟨L, hL⟩ : ∃ L, L = divP b (finsOf ps) := ⟨_, rfl⟩
 have hLL : divL b (finsOf ps) = L := by unfold divL; rw [if_pos H0.out, hL]
 have hee : er = if L = [] then 19 else 0 := by rw [her]; unfold divErr; rw [if_neg (fun h => h H0.out), hL]
 unfold RetDiv at t1
 rw [hLL, ← her] at t1
 have T1 := Lib.hid t1
 clear t1 hLL her
 have HL := Lib.hid hL
 clear hL
 go_wp2_with fail
 refine callWR (W0 := W0) (g := ⟨W0, Below.refl _ _⟩) xx (T1.out _ (HS.out.ext xx) (HFW.out.ext xx)) (fun _ _ h => h.1) fun _ g1 hgr hr => ?_
 obtain ⟨-, u, rfl, hU⟩ := hr
 clear hgr
 obtain ⟨ua, uc, rfl, -, -, -⟩ := divs_spec hU
 have HU := Lib.hid hU
 clear hU
 by_cases hl : L = []
 ·rw [if_pos hl] at hee
  have hl0 : (L.length : Int) = 0 := by rw [hl]; rfl
  have hlb : ((L.length : Int) == 0) = true := by rw [beq_iff_eq]; exact hl0
  have hen : (er == 0) = false := by rw [hee]; rfl
  have he19 : (er == 19) = true := by rw [hee]; rfl
  clear hl hee hl0
  go_wp2_with fail
  refine bodyPost_ret (v := .tuple #[.slice ua L.length uc, .bool true]) (by simp [results, Try.results44, go_sem]) rfl ?_
  exact ⟨HW.out.trans' (grow_below W0 _), _, rfl, by rw [← HL.out]; exact HU.out⟩
 ·rw [if_neg hl] at hee
  have hl0 : (0 : Int) < (L.length : Int) := by have := List.length_pos_iff.2 hl; omega
  have hl1 : (L.length : Int) > 0 := hl0
  have hl2 : 0 < L.length := List.length_pos_iff.2 hl
  have hen : (er == 0) = true := by rw [hee]; rfl
  clear hl hee
  go_wp2_with fail
  refine bodyPost_ret (v := .tuple #[.slice ua L.length uc, .bool true]) (by simp [results, Try.results44, go_sem]) rfl ?_
  exact ⟨HW.out.trans' (grow_below W0 _), _, rfl, by rw [← HL.out]; exact HU.out⟩
end Go.Proofs.Ytphajlldghcnnaa
namespace Go.Proofs.Ytphajlldghcnnaa
open Go.RowKit Go.Shelf
theorem filter_at {α : Type} (f : α → Bool) {L : List α} {k : Nat} (hk : k < L.length) (h : f L[k] = true) : (L.filter f)[((L.take k).filter f).length]? = some L[k] := by
 have e : L = L.take k ++ L[k] :: L.drop (k + 1) := by rw [List.getElem_cons_drop, List.take_append_drop]
 have e2 : L.filter f = (L.take k).filter f ++ L[k] :: (L.drop (k + 1)).filter f := by
  conv => lhs; rw [e]
  rw [List.filter_append, List.filter_cons_of_pos h]
 rw [e2, List.getElem?_append_right (Nat.le_refl _), Nat.sub_self]
 rfl
theorem divP_len (b : Bk) (fs : List (List Int)) : (divP b fs).length = (backedL b fs).length := by unfold divP; rw [List.length_map]
theorem cntB_all (b : Bk) (fs : List (List Int)) : cntB b (winsP b fs) (winsP b fs).length = (divP b fs).length := by
 rw [divP_len]; unfold cntB backedL; rw [List.take_length]
theorem divP_at {b : Bk} {fs : List (List Int)} {k : Nat} (hk : k < (winsP b fs).length) (h : unitsP b (winsP b fs)[k] ≠ 0) : (divP b fs)[cntB b (winsP b fs) k]? = some ((winsP b fs)[k], penceP b fs (winsP b fs)[k]) := by
 have := filter_at (fun s => decide (unitsP b s ≠ 0)) hk (by simpa using h)
 unfold divP cntB backedL
 rw [List.getElem?_map, this]
 rfl
theorem backed_mem {b : Bk} {fs : List (List Int)} {k : Nat} (hk : k < (winsP b fs).length) (h : unitsP b (winsP b fs)[k] ≠ 0) : (winsP b fs)[k] ∈ backedL b fs := by
 unfold backedL
 exact List.mem_filter.2 ⟨List.getElem_mem hk, by simpa using h⟩
/-- a dividend lies on the step's grid and is the last that the share bears -/
theorem pence_grid {b : Bk} {fs : List (List Int)} (h : FinV b fs) {s : Spt} (hs : s ∈ backedL b fs) :
  0 ≤ penceP b fs s ∧ penceP b fs s ≤ shareP b fs ∧ Int.tmod (penceP b fs s) b.step = 0 ∧ penceP b fs s * unitsP b s ≤ shareP b fs ∧ shareP b fs < (penceP b fs s + b.step) * unitsP b s := by
 have hp := pence_le h hs
 have hu := units_bd' h.book s
 have hst := h.book.step
 have hu0 : unitsP b s ≠ 0 := by
  unfold backedL at hs
  simpa using (List.mem_filter.1 hs).2
 have hle : penceP b fs s * 1 ≤ penceP b fs s * unitsP b s := Int.mul_le_mul_of_nonneg_left (by omega) hp.1
 refine ⟨hp.1, by omega, ?_, hp.2.2.2.1, ?_⟩
 ·rw [Int.tmod_eq_emod_of_nonneg hp.1]
  unfold penceP
  exact Int.mul_emod_left _ _
 ·unfold penceP
  have e : (shareP b fs / (unitsP b s * b.step) * b.step + b.step) * unitsP b s = (shareP b fs / (unitsP b s * b.step) + 1) * (unitsP b s * b.step) := by
   rw [Int.mul_comm (unitsP b s) b.step, ← Int.mul_assoc, Int.add_mul (shareP b fs / (b.step * unitsP b s)) 1 b.step, Int.one_mul]
  rw [e]
  exact Int.lt_ediv_add_one_mul_self _ (Int.mul_pos (by omega) (by omega))
end Go.Proofs.Ytphajlldghcnnaa
