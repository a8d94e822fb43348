/-
 Plain: a runner on whom nobody has bet is scratched: what is paid stays.
-/
import Derived.Test.YtphajlldghcnnaaPza
import Derived.Test.YtphajlldghcnnaaPv
namespace Go.Proofs.Ytphajlldghcnnaa
/-- a bet is not on a runner -/
def offR (r : Int) (x : PB) : Bool := decide (x.f ≠ r ∧ x.s ≠ r)
def leftB (b : Bk) (r : Int) : Bk := { b with bets := b.bets.filter (offR r) }
theorem left_val {b : Bk} (v : BVal b) (r : Int) : BVal (leftB b r) :=
 ⟨v.kd, v.n, v.car, v.duty, v.step, Nat.le_trans (List.length_filter_le _ _) v.many, fun x hx => v.odd x (List.mem_filter.1 hx).1, v.left, v.scr, v.inc⟩
theorem filt_take {α : Type} (f : α → Bool) {l : List α} {k : Nat} (h : k < l.length) : (l.take (k + 1)).filter f = (l.take k).filter f ++ if f l[k] = true then [l[k]] else [] := by
 rw [List.take_add_one, List.getElem?_eq_getElem h, List.filter_append]
 congr 1
 cases e : f l[k] <;> simp [e]
/-- those whose worth is least do not matter -/
theorem most_drop {g : Int → Int} {r : Int} (h : ∀ q, g r ≤ g q) : ∀ (l : List Int) (a : Int), mostL g a (l.filter fun q => decide (q ≠ r)) = mostL g a l
 | [], _ => rfl
 | x :: l, a => by
  by_cases e : x = r
  ·subst e
   rw [List.filter_cons_of_neg (by simp), mostL, if_neg (by have := h a; omega)]
   exact most_drop h l a
  ·rw [List.filter_cons_of_pos (by simpa using e), mostL, mostL]
   exact most_drop h l _
theorem most_from {g : Int → Int} : ∀ (l : List Int) (a c : Int), g a ≤ g c → mostL g c l ≠ c → mostL g a l = mostL g c l
 | [], _, _, _, hn => absurd rfl hn
 | x :: l, a, c, h, hn => by
  rw [mostL] at hn ⊢
  rw [mostL]
  by_cases hc : g c < g x
  ·rw [if_pos (show g a < g x by omega), if_pos hc]
  ·rw [if_neg hc] at hn ⊢
   split
   ·exact most_from l x c (by omega) hn
   ·exact most_from l a c h hn
theorem most_self {g : Int → Int} (a : Int) (l : List Int) : mostL g a (a :: l) = mostL g a l := by
 rw [mostL, if_neg (by omega)]
theorem run_scr (b : Bk) (r : Int) : runL (scrP b r) = (runL b).filter fun q => decide (q ≠ r) := by
 unfold runL runK
 rw [List.filter_filter]
 show (List.filter (fun q => !outB (scrP b r) q) (List.map (fun (i : Nat) => (i : Int)) (List.range b.n.toNat))) = _
 refine List.filter_congr fun q _ => ?_
 rw [Bool.eq_iff_iff]
 have := scr_out (b := b) (r := r) (x := q)
 cases h1 : outB (scrP b r) q <;> cases h2 : outB b q <;> simp [h1, h2] at this ⊢ <;> exact this
theorem nob_out {b : Bk} {r : Int} (hoff : ∀ x ∈ b.bets, offR r x = true) {x : PB} (hx : x ∈ b.bets) : outB (scrP b r) x.f = outB b x.f ∧ outB (scrP b r) x.s = outB b x.s := by
 have h := hoff x hx
 unfold offR at h
 have h := of_decide_eq_true h
 constructor
 ·have := scr_out (b := b) (r := r) (x := x.f)
  rw [Bool.eq_iff_iff, this]
  exact ⟨fun h2 => h2.elim id fun e => absurd e h.1, .inl⟩
 ·have := scr_out (b := b) (r := r) (x := x.s)
  rw [Bool.eq_iff_iff, this]
  exact ⟨fun h2 => h2.elim id fun e => absurd e h.2, .inl⟩
theorem nob_sums {b : Bk} {r : Int} (hoff : ∀ x ∈ b.bets, offR r x = true) : sumsP (scrP b r) = sumsP b := funext fun q => by
 unfold sumsP
 show sumB (onF (scrP b r) q) b.bets = _
 refine sumB_congr fun x hx => ?_
 obtain ⟨h1, h2⟩ := nob_out hoff hx
 unfold onF
 rw [h1, h2]
theorem nob_zero {b : Bk} {r : Int} (v : BVal b) (hoff : ∀ x ∈ b.bets, offR r x = true) : ∀ q, sumsP b r ≤ sumsP b q := fun q => by
 have h1 : sumsP b r = 0 := by
  unfold sumsP
  rw [← sumB_zero b.bets]
  refine sumB_congr fun x hx => ?_
  have h := of_decide_eq_true (hoff x hx)
  unfold onF
  rw [if_neg]
  rintro ⟨-, -, e⟩
  exact h.1 e
 have h2 := sums_bd v q b.bets.length
 rw [List.take_length] at h2
 rw [h1]
 exact h2.1
section
variable {b : Bk} {r : Int} (v : BVal b) (hoff : ∀ x ∈ b.bets, offR r x = true) (hr : r ∈ runL b)
include v hoff hr
theorem nob_fav (hl : 3 ≤ (runL b).length) (hf : favP b ≠ r) : favP (scrP b r) = favP b := by
 have h0 := nob_zero v hoff
 unfold favP at hf ⊢
 rw [nob_sums hoff, run_scr]
 have hnd := runL_nodup b
 cases hL : runL b with
 | nil => rw [hL] at hr; cases hr
 | cons a l =>
  rw [hL] at hf hl hnd
  rw [List.nodup_cons] at hnd
  simp only [List.headD_cons] at hf ⊢
  rw [most_self] at hf ⊢
  by_cases e : a = r
  ·subst e
   have hfl : l.filter (fun q => decide (q ≠ a)) = l := List.filter_eq_self.2 fun q hq => by
    simp
    intro e; subst e; exact hnd.1 hq
   rw [List.filter_cons_of_neg (by simp), hfl]
   cases l with
   | nil => simp at hl
   | cons c l =>
    simp only [List.headD_cons]
    rw [most_self]
    rw [mostL] at hf ⊢
    by_cases hac : sumsP b a < sumsP b c
    ·rw [if_pos hac]
    ·rw [if_neg hac] at hf ⊢
     exact most_from l c a (by omega) hf
  ·rw [List.filter_cons_of_pos (by simpa using e)]
   simp only [List.headD_cons]
   rw [most_self, most_drop h0]
theorem nob_on (hl : 3 ≤ (runL b).length) (hf : favP b ≠ r) {x : PB} (hx : x ∈ b.bets) : onP (scrP b r) x = onP b x := by
 obtain ⟨h1, h2⟩ := nob_out hoff hx
 unfold onP
 rw [h1, h2, nob_fav v hoff hr hl hf]
 rfl
theorem nob_units (hl : 3 ≤ (runL b).length) (hf : favP b ≠ r) (s : Spt) : unitsP (scrP b r) s = unitsP b s := by
 unfold unitsP
 show sumB (unitsG (scrP b r) s) b.bets = _
 refine sumB_congr fun x hx => ?_
 unfold unitsG
 rw [nob_on v hoff hr hl hf hx]
theorem nob_back (hl : 3 ≤ (runL b).length) (hf : favP b ≠ r) : backP (scrP b r) = backP b := by
 unfold backP
 show sumB (backG (scrP b r)) b.bets = _
 refine sumB_congr fun x hx => ?_
 unfold backG
 rw [nob_on v hoff hr hl hf hx]
theorem nob_acc (hl : 3 ≤ (runL b).length) (hf : favP b ≠ r) {fs gs : List (List Int)} (hw : winsP b gs = winsP (scrP b r) fs) : accA b gs = accA (scrP b r) fs := by
 have hu : unitsP (scrP b r) = unitsP b := funext fun s => nob_units v hoff hr hl hf s
 have hi : inP (scrP b r) = inP b := rfl
 have hk := nob_back v hoff hr hl hf
 have hd : dutyP (scrP b r) = dutyP b := by unfold dutyP; rw [hi, hk]; rfl
 have hn : netP (scrP b r) = netP b := by unfold netP; rw [hi, hk, hd]
 have hb : backedL (scrP b r) fs = backedL b gs := by unfold backedL; rw [hu, hw]
 have hs : shareP (scrP b r) fs = shareP b gs := by unfold shareP; rw [hn, hb]
 have hp : penceP (scrP b r) fs = penceP b gs := funext fun s => by unfold penceP; rw [hs, hu]; rfl
 have hv : divP (scrP b r) fs = divP b gs := by unfold divP; rw [hb, hp]
 unfold accA netA paidP
 rw [hi, hk, hd, hn, hv, hu]
end
/-- the scratched runner comes in last, alone -/
theorem nob_fin {b : Bk} (v : BVal b) {r : Int} (hr : r ∈ runL b) {fs : List (List Int)} (h : FinV (scrP b r) fs) : FinV b (fs ++ [[r]]) := by
 refine ⟨v, ?_, fun g hg => ?_, fun g hg => ?_⟩
 ·have h1 := h.perm
  rw [List.flatten_append]
  have h2 : fs.flatten.Nodup := h1.nodup_iff.1 (runL_nodup _)
  have hm : ∀ x, x ∈ fs.flatten ↔ x ∈ runL b ∧ x ≠ r := fun x => by rw [← h1.mem_iff]; exact scr_run
  refine (List.perm_ext_iff_of_nodup (runL_nodup b) ?_).2 fun x => ?_
  ·rw [List.nodup_append]
   refine ⟨h2, by simp, fun x hx y hy e => ?_⟩
   subst e
   simp at hy
   exact ((hm x).1 hx).2 hy
  ·rw [List.mem_append, hm]
   by_cases e : x = r
   ·subst e; simp [hr]
   ·simp [e]
 ·rcases List.mem_append.1 hg with hg | hg
  ·exact h.ne g hg
  ·simp at hg; rw [hg]; simp
 ·rcases List.mem_append.1 hg with hg | hg
  ·exact h.up g hg
  ·simp at hg; rw [hg]; rfl
theorem nob_wins {b : Bk} (v : BVal b) {r : Int} (hr : r ∈ runL b) {fs : List (List Int)} (h : FinV (scrP b r) fs) : winsP b (fs ++ [[r]]) = winsP (scrP b r) fs := by
 have hg := nob_fin v hr h
 rw [← refW_wins hg, ← refW_wins h]
 have hw : ∀ a, isW b (fs ++ [[r]]) a = isW (scrP b r) fs a := fun a => funext fun c => by
  match fs, h with
  | [], h => have := h.pos; simp at this
  | [g], h =>
   have hl := h.len
   have h2 := runL_two h.book
   simp only [List.flatten_cons, List.flatten_nil, List.append_nil] at hl
   have hal : alo [g] = false := by unfold alo fst0; rw [decide_eq_false_iff_not]; simp only [List.headD_cons]; omega
   have hal2 : alo ([g] ++ [[r]]) = false := hal
   have f1 : fst0 ([g] ++ [[r]]) = fst0 [g] := rfl
   unfold isW
   rw [hal, hal2, f1]
   simp only [Bool.false_and]
   rfl
  | g :: g2 :: l, h => rfl
 have hrow : rowW b (fs ++ [[r]]) = rowW (scrP b r) fs := funext fun a => funext fun k => by unfold rowW; rw [hw]
 unfold refW
 rw [hrow]
 rfl
/-- winners are others than one who is scratched -/
theorem nob_not {b : Bk} {r : Int} (hr : 0 ≤ r) {fs : List (List Int)} (h : FinV (scrP b r) fs) {s : Spt} (hs : s ∈ winsP (scrP b r) fs) : s.1 ≠ r ∧ s.2 ≠ r := by
 obtain ⟨a, c⟩ := s
 have hw := ((wins_mem h).1 hs).2.2
 have hin : ∀ x, x ∈ fst0 fs ∨ x ∈ snd0 fs → x ≠ r := fun x hx => by
  have h1 : x ∈ fs.flatten := by
   match fs, hx with
   | [], hx => simp [fst0, snd0] at hx
   | [g], hx => simp [fst0, snd0] at hx ⊢; exact hx
   | g :: g2 :: l, hx =>
    simp [fst0, snd0] at hx ⊢
    rcases hx with hx | hx
    ·exact .inl hx
    ·exact .inr (.inl hx)
  exact (scr_run.1 (h.perm.symm.subset h1)).2
 simp only
 unfold isW at hw
 by_cases k0 : (scrP b r).kd = 0
 ·rw [if_pos k0] at hw
  simp at hw
  exact ⟨hin a (.inl hw.2), by omega⟩
 ·rw [if_neg k0] at hw
  by_cases k1 : (scrP b r).kd = 1
  ·rw [if_pos k1] at hw
   simp at hw
   refine ⟨?_, by omega⟩
   rcases hw.2 with hh | hh
   ·exact hin a (.inl hh)
   ·exact hin a (.inr hh.2)
  ·rw [if_neg k1] at hw
   by_cases k2 : (scrP b r).kd = 2
   ·rw [if_pos k2] at hw
    simp at hw
    refine ⟨hin a (.inl hw.1.2), ?_⟩
    rcases hw.2 with hh | hh
    ·exact hin c (.inl hh.2)
    ·exact hin c (.inr hh.2)
   ·rw [if_neg k2] at hw
    simp at hw
    rcases hw.2 with hh | hh
    ·exact ⟨hin a (.inl hh.1.2), hin c (.inl hh.2)⟩
    ·rcases hh.2 with hh | hh
     ·exact ⟨hin a (.inl hh.1), hin c (.inr hh.2)⟩
     ·exact ⟨hin a (.inr hh.2), hin c (.inl hh.1)⟩
end Go.Proofs.Ytphajlldghcnnaa
