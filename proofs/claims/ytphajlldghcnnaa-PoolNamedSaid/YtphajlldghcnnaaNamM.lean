/-
 Plain: runners with other names.
-/
import Derived.Test.YtphajlldghcnnaaPza
namespace Go.Proofs.Ytphajlldghcnnaa
def nm (σ : List Int) (r : Int) : Int := gt σ r.toNat
structure IsNam (n : Int) (σ : List Int) : Prop where
 len : (σ.length : Int) = n
 bd : ∀ r, 0 ≤ r → r < n → 0 ≤ nm σ r ∧ nm σ r < n
 inj : ∀ r s, 0 ≤ r → r < n → 0 ≤ s → s < n → nm σ r = nm σ s → r = s
def cas (m : Nat) : List Int := (List.range m).map fun (i : Nat) => (i : Int)
theorem cas_mem {m : Nat} {x : Int} : x ∈ cas m ↔ 0 ≤ x ∧ x < m := by
 unfold cas
 rw [List.mem_map]
 constructor
 ·rintro ⟨i, hi, rfl⟩
  have := List.mem_range.1 hi
  omega
 ·rintro ⟨h1, h2⟩
  exact ⟨x.toNat, List.mem_range.2 (by omega), by omega⟩
theorem cas_nodup (m : Nat) : (cas m).Nodup := by
 unfold cas
 rw [List.nodup_iff_pairwise_ne, List.pairwise_map]
 exact List.nodup_range.imp fun h e => h (by omega)
theorem cas_succ (m : Nat) : cas (m + 1) = cas m ++ [(m : Int)] := by
 unfold cas
 rw [List.range_succ, List.map_append]; rfl
/-- a runner's number, once for each of the first m names that are this number and bear a mark -/
def selR (σ : List Int) (t : Int → Bool) (r m : Nat) : List Int := ((cas m).filter fun k => decide (nm σ k = (r : Int)) && t k).map fun _ => (r : Int)
def selTo (σ : List Int) (t : Int → Bool) (n m : Nat) : List Int := (List.range m).flatMap fun r => selR σ t r n
def selN (σ : List Int) (n : Int) (t : Int → Bool) : List Int := selTo σ t n.toNat n.toNat
theorem selR_succ (σ : List Int) (t : Int → Bool) (r m : Nat) : selR σ t r (m + 1) = selR σ t r m ++ if (decide (nm σ m = (r : Int)) && t m) = true then [(r : Int)] else [] := by
 unfold selR
 rw [cas_succ, List.filter_append, List.map_append]
 congr 1
 cases h : (decide (nm σ m = (r : Int)) && t m) <;> simp [List.filter_cons, h]
theorem selTo_succ (σ : List Int) (t : Int → Bool) (n m : Nat) : selTo σ t n (m + 1) = selTo σ t n m ++ selR σ t m n := by
 unfold selTo
 rw [List.range_succ, List.flatMap_append]
 simp
theorem one_list {α : Type} [DecidableEq α] : ∀ {l : List α}, l.Nodup → (∀ x ∈ l, ∀ y ∈ l, x = y) → l.length ≤ 1
 | [], _, _ => by simp
 | [_], _, _ => by simp
 | a :: b :: l, h, he => by
  have e := he a (by simp) b (by simp)
  subst e
  simp at h
section
variable {n : Int} {σ : List Int} (h : IsNam n σ)
include h
theorem selR_one (t : Int → Bool) (r : Nat) : (selR σ t r n.toNat).length ≤ 1 := by
 unfold selR
 rw [List.length_map]
 refine one_list ((cas_nodup _).filter _) fun x hx y hy => ?_
 obtain ⟨h1, h2⟩ := List.mem_filter.1 hx
 obtain ⟨h3, h4⟩ := List.mem_filter.1 hy
 rw [Bool.and_eq_true] at h2 h4
 have h1 := cas_mem.1 h1
 have h3 := cas_mem.1 h3
 exact h.inj x y h1.1 (by omega) h3.1 (by omega) ((of_decide_eq_true h2.1).trans (of_decide_eq_true h4.1).symm)
theorem selTo_len (t : Int → Bool) : ∀ m, (selTo σ t n.toNat m).length ≤ m
 | 0 => by simp [selTo]
 | m + 1 => by
  rw [selTo_succ, List.length_append]
  have := selTo_len t m
  have := selR_one h t m
  omega
theorem selTo_up (t : Int → Bool) : ∀ m, (selTo σ t n.toNat m).Pairwise (· < ·) ∧ ∀ x ∈ selTo σ t n.toNat m, x < m
 | 0 => by simp [selTo]
 | m + 1 => by
  obtain ⟨h1, h2⟩ := selTo_up t m
  have hr : ∀ x ∈ selR σ t m n.toNat, x = (m : Int) := fun x hx => by
   unfold selR at hx
   obtain ⟨_, _, e⟩ := List.mem_map.1 hx
   exact e.symm
  have hl := selR_one h t m
  rw [selTo_succ]
  refine ⟨?_, fun x hx => ?_⟩
  ·rw [List.pairwise_append]
   refine ⟨h1, ?_, fun x hx y hy => by rw [hr y hy]; exact h2 x hx⟩
   match selR σ t m n.toNat, hl with
   | [], _ => simp
   | [_], _ => simp
   | _ :: _ :: _, hl => simp at hl
  ·rcases List.mem_append.1 hx with hx | hx
   ·have := h2 x hx; omega
   ·rw [hr x hx]; omega
theorem selN_rising (t : Int → Bool) : rising (selN σ n t) = true := rising_iff.2 (selTo_up h t n.toNat).1
theorem selN_mem {t : Int → Bool} {x : Int} : x ∈ selN σ n t ↔ ∃ k, (0 ≤ k ∧ k < n) ∧ nm σ k = x ∧ t k = true := by
 unfold selN selTo
 rw [List.mem_flatMap]
 constructor
 ·rintro ⟨r, hr, hx⟩
  unfold selR at hx
  obtain ⟨k, hk, rfl⟩ := List.mem_map.1 hx
  obtain ⟨h1, h2⟩ := List.mem_filter.1 hk
  rw [Bool.and_eq_true] at h2
  have h1 := cas_mem.1 h1
  exact ⟨k, ⟨h1.1, by omega⟩, of_decide_eq_true h2.1, h2.2⟩
 ·rintro ⟨k, hk, rfl, ht⟩
  have hb := h.bd k hk.1 hk.2
  refine ⟨(nm σ k).toNat, List.mem_range.2 (by omega), ?_⟩
  unfold selR
  refine List.mem_map.2 ⟨k, List.mem_filter.2 ⟨cas_mem.2 ⟨hk.1, by omega⟩, ?_⟩, by omega⟩
  rw [Bool.and_eq_true]
  exact ⟨decide_eq_true (by omega), ht⟩
theorem selN_nm {t : Int → Bool} {k : Int} (hk : 0 ≤ k ∧ k < n) : nm σ k ∈ selN σ n t ↔ t k = true := by
 rw [selN_mem h]
 constructor
 ·rintro ⟨j, hj, e, ht⟩
  rw [← h.inj j k hj.1 hj.2 hk.1 hk.2 e]; exact ht
 ·exact fun ht => ⟨k, hk, rfl, ht⟩
theorem map_nodup {l : List Int} (hl : l.Nodup) (hin : ∀ x ∈ l, 0 ≤ x ∧ x < n) : (l.map (nm σ)).Nodup := by
 rw [List.nodup_iff_pairwise_ne] at hl ⊢
 rw [List.pairwise_map]
 refine hl.imp_of_mem fun {a b} ha hb hne e => hne ?_
 have h1 := hin a ha
 have h2 := hin b hb
 exact h.inj a b h1.1 h1.2 h2.1 h2.2 e
theorem selN_perm {l : List Int} (hl : l.Nodup) (hin : ∀ x ∈ l, 0 ≤ x ∧ x < n) : (selN σ n fun k => l.contains k).Perm (l.map (nm σ)) :=
 (List.perm_ext_iff_of_nodup (rising_nodup (selN_rising h _)) (map_nodup h hl hin)).2 fun x => by
  rw [selN_mem h, List.mem_map]
  constructor
  ·rintro ⟨k, _, e, ht⟩; exact ⟨k, by simpa using ht, e⟩
  ·rintro ⟨k, hk, e⟩; exact ⟨k, hin k hk, e, by simpa using hk⟩
end
/-- a spot with other names -/
def namS (kd : Int) (σ : List Int) (s : Spt) : Spt :=
 let p := nm σ s.1
 let q := if 0 ≤ s.2 then nm σ s.2 else s.2
 if kd = 3 ∧ q < p then (q, p) else (p, q)
def namB (kd : Int) (σ : List Int) (x : PB) : PB := ⟨(namS kd σ (x.f, x.s)).1, (namS kd σ (x.f, x.s)).2, x.u⟩
def namC (b : Bk) (σ : List Int) : Bk := { b with bets := b.bets.map (namB b.kd σ), scr := selN σ b.n fun k => b.scr.contains k }
def namF (b : Bk) (σ : List Int) (fs : List (List Int)) : List (List Int) := fs.map fun g => selN σ b.n fun k => g.contains k
/-- a spot as a valid bet has it -/
structure OkS (b : Bk) (s : Spt) : Prop where
 one : 0 ≤ s.1 ∧ s.1 < b.n
 two : single b = true → s.2 = -1
 pair : single b = false → 0 ≤ s.2 ∧ s.2 < b.n ∧ s.1 ≠ s.2 ∧ (b.kd = 3 → s.1 < s.2)
theorem okS_bet {b : Bk} (v : BVal b) {x : PB} (hx : x ∈ b.bets) : OkS b (x.f, x.s) := by
 obtain ⟨-, h1, h2, h3⟩ := v.bet hx
 refine ⟨h1, h2, fun h => ?_⟩
 obtain ⟨a1, a2, a3, a4⟩ := h3 h
 exact ⟨a1, a2, a3, fun hk => by have := a4 hk; simp only; omega⟩
section
variable {b : Bk} {σ : List Int} (h : IsNam b.n σ)
include h
theorem namS_ok {s : Spt} (hs : OkS b s) : OkS b (namS b.kd σ s) := by
 obtain ⟨p, q⟩ := s
 obtain ⟨h1, h2, h3⟩ := hs
 simp only at h1 h2 h3
 have hp := h.bd p h1.1 h1.2
 cases hsg : single b
 ·obtain ⟨a1, a2, a3, a4⟩ := h3 hsg
  have hq := h.bd q a1 a2
  have hne : nm σ p ≠ nm σ q := fun e => a3 (h.inj p q h1.1 h1.2 a1 a2 e)
  unfold namS
  simp only
  rw [if_pos a1]
  split
  ·rename_i hc
   exact ⟨hq, (fun e => by rw [hsg] at e; cases e), fun _ => ⟨hp.1, hp.2, hne.symm, fun _ => hc.2⟩⟩
  ·rename_i hc
   refine ⟨hp, (fun e => by rw [hsg] at e; cases e), fun _ => ⟨hq.1, hq.2, hne, fun hk => ?_⟩⟩
   simp only
   have : ¬ nm σ q < nm σ p := fun h2 => hc ⟨hk, h2⟩
   omega
 ·have e := h2 hsg
  subst e
  have hk : ¬ b.kd = 3 := fun hk => by unfold single at hsg; simp [hk] at hsg
  unfold namS
  simp only
  have e0 : (if (0 : Int) ≤ -1 then nm σ (-1) else -1) = -1 := if_neg (by omega)
  rw [e0, if_neg (fun hc => hk hc.1)]
  exact ⟨hp, fun _ => rfl, (fun e => by rw [hsg] at e; cases e)⟩
theorem namS_inj {s t : Spt} (hs : OkS b s) (ht : OkS b t) (e : namS b.kd σ s = namS b.kd σ t) : s = t := by
 obtain ⟨p, q⟩ := s
 obtain ⟨x, y⟩ := t
 obtain ⟨h1, h2, h3⟩ := hs
 obtain ⟨g1, g2, g3⟩ := ht
 simp only at h1 h2 h3 g1 g2 g3
 cases hsg : single b
 ·obtain ⟨a1, a2, a3, a4⟩ := h3 hsg
  obtain ⟨c1, c2, c3, c4⟩ := g3 hsg
  unfold namS at e
  simp only at e
  rw [if_pos a1, if_pos c1] at e
  have j1 := h.inj p x h1.1 h1.2 g1.1 g1.2
  have j2 := h.inj q y a1 a2 c1 c2
  have j3 := h.inj p y h1.1 h1.2 c1 c2
  have j4 := h.inj q x a1 a2 g1.1 g1.2
  by_cases hk : b.kd = 3
  ·have := a4 hk
   have := c4 hk
   split at e <;> split at e <;> simp only [Prod.mk.injEq] at e ⊢
   ·exact ⟨j1 e.2, j2 e.1⟩
   ·have := j4 e.1; have := j3 e.2; omega
   ·have := j3 e.1; have := j4 e.2; omega
   ·exact ⟨j1 e.1, j2 e.2⟩
  ·rw [if_neg (fun hc => hk hc.1), if_neg (fun hc => hk hc.1)] at e
   simp only [Prod.mk.injEq] at e ⊢
   exact ⟨j1 e.1, j2 e.2⟩
 ·have e1 := h2 hsg
  have e2 := g2 hsg
  subst e1 e2
  have hk : ¬ b.kd = 3 := fun hk => by unfold single at hsg; simp [hk] at hsg
  unfold namS at e
  simp only at e
  have e0 : (if (0 : Int) ≤ -1 then nm σ (-1) else -1) = -1 := if_neg (by omega)
  rw [e0, if_neg (fun hc => hk hc.1), if_neg (fun hc => hk hc.1)] at e
  simp only [Prod.mk.injEq] at e ⊢
  exact ⟨h.inj p x h1.1 h1.2 g1.1 g1.2 e.1, trivial⟩
end
theorem outB_iff {b : Bk} {r : Int} : outB b r = true ↔ r ∈ b.scr := by unfold outB; simp
section
variable {b : Bk} {σ : List Int} (v : BVal b) (h : IsNam b.n σ)
include v h
omit v in
theorem nam_out {r : Int} (hr : 0 ≤ r ∧ r < b.n) : outB (namC b σ) (nm σ r) = outB b r := by
 rw [Bool.eq_iff_iff, outB_iff, outB_iff]
 show nm σ r ∈ selN σ b.n (fun k => b.scr.contains k) ↔ _
 rw [selN_nm h hr]
 simp
theorem nam_out1 : outB (namC b σ) (-1) = outB b (-1) := by
 have h1 : outB b (-1) = false := by
  rw [Bool.eq_false_iff]
  intro e
  have := v.scr _ (outB_iff.1 e)
  omega
 rw [h1, Bool.eq_false_iff]
 intro e
 have := (selN_mem h).1 (outB_iff.1 e : (-1 : Int) ∈ selN σ b.n fun k => b.scr.contains k)
 obtain ⟨k, hk, e, -⟩ := this
 have := h.bd k hk.1 hk.2
 omega
theorem nam_scr_len : (namC b σ).scr.length = b.scr.length := by
 have := (selN_perm h (rising_nodup v.inc) v.scr).length_eq
 rw [List.length_map] at this
 exact this
theorem nam_bet_ok {x : PB} (hx : x ∈ b.bets) : OkS b ((namB b.kd σ x).f, (namB b.kd σ x).s) := namS_ok h (okS_bet v hx)
theorem nam_val : BVal (namC b σ) := by
 refine ⟨v.kd, v.n, v.car, v.duty, v.step, ?_, fun y hy => ?_, ?_, fun r hr => ?_, selN_rising h _⟩
 ·show (b.bets.map (namB b.kd σ)).length ≤ 100
  rw [List.length_map]; exact v.many
 ·have hy : y ∈ b.bets.map (namB b.kd σ) := hy
  obtain ⟨x, hx, rfl⟩ := List.mem_map.1 hy
  obtain ⟨h1, h2, h3⟩ := nam_bet_ok v h hx
  have hu : 1 ≤ (namB b.kd σ x).u ∧ (namB b.kd σ x).u ≤ 1000 := (v.bet hx).1
  show oddB b _ = false
  unfold oddB
  rw [if_neg (by
   rw [not_or]
   exact ⟨by rw [inR_iff.2 hu]; simp, by rw [isRun_iff.2 h1]; simp⟩)]
  cases hsg : single b
  ·obtain ⟨a1, a2, a3, a4⟩ := h3 hsg
   simp only at a1 a2 a3 a4
   rw [if_neg (by simp), if_neg (by
    rw [not_or]
    exact ⟨by rw [isRun_iff.2 ⟨a1, a2⟩]; simp, a3⟩)]
   by_cases hk : b.kd = 3
   ·have h9 := a4 hk
    rw [show decide ((namB b.kd σ x).s < (namB b.kd σ x).f) = false from decide_eq_false (by omega)]
    simp
   ·simp [hk]
  ·rw [if_pos rfl]
   have := h2 hsg
   simp only at this
   simp [this]
 ·rw [nam_scr_len v h]; exact v.left
 ·obtain ⟨k, hk, e, -⟩ := (selN_mem h).1 hr
  rw [← e]; exact h.bd k hk.1 hk.2
theorem nam_run {x : Int} : x ∈ runL (namC b σ) ↔ ∃ k ∈ runL b, nm σ k = x := by
 rw [runL_mem]
 constructor
 ·rintro ⟨h1, h2, h3⟩
  -- a name is someone's
  have hs : x ∈ selN σ b.n fun _ => true := by
   have hp : (selN σ b.n fun k => (cas b.n.toNat).contains k).Perm ((cas b.n.toNat).map (nm σ)) := selN_perm h (cas_nodup _) fun x hx => by have := cas_mem.1 hx; have := v.n; omega
   have hl : (selN σ b.n fun k => (cas b.n.toNat).contains k).length = b.n.toNat := by
    rw [hp.length_eq, List.length_map]
    unfold cas; simp
   have hr := selN_rising h fun k => (cas b.n.toNat).contains k
   have hsub : ∀ y ∈ selN σ b.n (fun k => (cas b.n.toNat).contains k), y ∈ cas b.n.toNat := fun y hy => by
    obtain ⟨k, hk, e, -⟩ := (selN_mem h).1 hy
    have := h.bd k hk.1 hk.2
    rw [cas_mem]; omega
   have hc := count_out (rising_nodup hr) hsub (cas_nodup _)
   have hl2 : (cas b.n.toNat).length = b.n.toNat := by unfold cas; simp
   rw [hl, hl2] at hc
   have hnil : ((cas b.n.toNat).filter fun x => !(selN σ b.n fun k => (cas b.n.toNat).contains k).contains x) = [] := List.eq_nil_of_length_eq_zero (by omega)
   have hx : x ∈ cas b.n.toNat := cas_mem.2 ⟨h1, by have : (namC b σ).n = b.n := rfl; omega⟩
   have := List.filter_eq_nil_iff.1 hnil x hx
   have h5 : x ∈ selN σ b.n fun k => (cas b.n.toNat).contains k := by simpa using this
   obtain ⟨k, hk, e, -⟩ := (selN_mem h).1 h5
   exact (selN_mem h).2 ⟨k, hk, e, rfl⟩
  obtain ⟨k, hk, e, -⟩ := (selN_mem h).1 hs
  refine ⟨k, runL_mem.2 ⟨hk.1, hk.2, ?_⟩, e⟩
  rw [← nam_out h hk, e]; exact h3
 ·rintro ⟨k, hk, rfl⟩
  obtain ⟨h1, h2, h3⟩ := runL_mem.1 hk
  have := h.bd k h1 h2
  exact ⟨this.1, this.2, by rw [nam_out h ⟨h1, h2⟩]; exact h3⟩
theorem nam_fin {fs : List (List Int)} (hf : FinV b fs) : FinV (namC b σ) (namF b σ fs) := by
 have hin : ∀ g ∈ fs, ∀ x ∈ g, 0 ≤ x ∧ x < b.n := fun g hg x hx => by
  have h1 : x ∈ fs.flatten := List.mem_flatten.2 ⟨g, hg, hx⟩
  have := runL_mem.1 (hf.perm.symm.subset h1)
  omega
 have hperm : ∀ l : List (List Int), (∀ g ∈ l, g ∈ fs) → (namF b σ l).flatten.Perm (l.flatten.map (nm σ)) := by
  intro l
  induction l with
  | nil => intro _; exact List.Perm.refl _
  | cons g l ih =>
   intro hl
   have hg := hl g (by simp)
   have h1 := selN_perm h (rising_nodup (hf.up g hg)) (hin g hg)
   have h2 := ih fun x hx => hl x (by simp [hx])
   unfold namF at h2 ⊢
   simp only [List.map_cons, List.flatten_cons, List.map_append]
   exact h1.append h2
 refine ⟨nam_val v h, ?_, fun g hg => ?_, fun g hg => ?_⟩
 ·have h1 : (runL (namC b σ)).Perm ((runL b).map (nm σ)) := (List.perm_ext_iff_of_nodup (runL_nodup _) (map_nodup h (runL_nodup b) fun x hx => by have := runL_mem.1 hx; omega)).2 fun x => by
   rw [nam_run v h, List.mem_map]
  exact h1.trans ((hf.perm.map _).trans (hperm fs fun g hg => hg).symm)
 ·unfold namF at hg
  obtain ⟨g0, hg0, rfl⟩ := List.mem_map.1 hg
  intro e
  have h1 := (selN_perm h (rising_nodup (hf.up g0 hg0)) (hin g0 hg0)).length_eq
  rw [e, List.length_map] at h1
  exact hf.ne g0 hg0 (List.eq_nil_of_length_eq_zero h1.symm)
 ·unfold namF at hg
  obtain ⟨g0, hg0, rfl⟩ := List.mem_map.1 hg
  exact selN_rising h _
theorem nam_on (hfav : b.fav = false) {x : PB} (hx : x ∈ b.bets) : onP (namC b σ) (namB b.kd σ x) = (onP b x).map (namS b.kd σ) := by
 have hs := okS_bet v hx
 obtain ⟨h1, h2, h3⟩ := hs
 simp only at h1 h2 h3
 have hfc : (namC b σ).fav = false := hfav
 have ho : (outB (namC b σ) (namB b.kd σ x).f = false ∧ outB (namC b σ) (namB b.kd σ x).s = false) ↔ (outB b x.f = false ∧ outB b x.s = false) := by
  have o1 := nam_out h h1
  unfold namB namS
  simp only
  cases hsg : single b
  ·obtain ⟨a1, a2, -, -⟩ := h3 hsg
   have o2 := nam_out h ⟨a1, a2⟩
   rw [if_pos a1]
   split
   ·simp only; rw [o1, o2]; exact And.comm
   ·simp only; rw [o1, o2]
  ·have e := h2 hsg
   have hk : ¬ b.kd = 3 := fun hk => by unfold single at hsg; simp [hk] at hsg
   have o2 := nam_out1 v h
   rw [if_neg (fun hc => hk hc.1)]
   simp only
   rw [e, if_neg (by omega), o1, o2]
 unfold onP
 by_cases hb : outB b x.f = false ∧ outB b x.s = false
 ·rw [if_pos hb, if_pos (ho.2 hb)]
  rfl
 ·rw [if_neg hb, if_neg (fun e => hb (ho.1 e)), if_neg (by rw [hfc]; simp), if_neg (by rw [hfav]; simp)]
  rfl
theorem nam_units (hfav : b.fav = false) {s : Spt} (hs : OkS b s) : unitsP (namC b σ) (namS b.kd σ s) = unitsP b s := by
 unfold unitsP
 show sumB _ (b.bets.map (namB b.kd σ)) = _
 have key : ∀ l : List PB, (∀ x ∈ l, x ∈ b.bets) → sumB (unitsG (namC b σ) (namS b.kd σ s)) (l.map (namB b.kd σ)) = sumB (unitsG b s) l := by
  intro l
  induction l with
  | nil => intro _; rfl
  | cons x l ih =>
   intro hl
   have hx := hl x (by simp)
   simp only [List.map_cons, sumB]
   rw [ih fun y hy => hl y (by simp [hy])]
   congr 1
   unfold unitsG
   rw [nam_on v h hfav hx]
   have he : ((onP b x).map (namS b.kd σ) = some (namS b.kd σ s)) ↔ onP b x = some s := by
    cases ho : onP b x with
    | none => simp
    | some t =>
     have ht : t = (x.f, x.s) := by
      unfold onP at ho
      split at ho
      ·exact (Option.some.inj ho).symm
      ·rw [if_neg (by rw [hfav]; simp)] at ho; cases ho
     simp only [Option.map_some, Option.some.injEq]
     exact ⟨fun e => namS_inj h (by rw [ht]; exact okS_bet v hx) hs e, fun e => by rw [e]⟩
   by_cases hq : onP b x = some s
   ·rw [if_pos hq, if_pos (he.2 hq)]; rfl
   ·rw [if_neg hq, if_neg (fun e => hq (he.1 e))]
 exact key b.bets fun x hx => hx
theorem nam_back (hfav : b.fav = false) : backP (namC b σ) = backP b ∧ inP (namC b σ) = inP b := by
 have key : ∀ l : List PB, (∀ x ∈ l, x ∈ b.bets) → sumB (backG (namC b σ)) (l.map (namB b.kd σ)) = sumB (backG b) l ∧ sumB (fun x => 100 * x.u) (l.map (namB b.kd σ)) = sumB (fun x => 100 * x.u) l := by
  intro l
  induction l with
  | nil => intro _; exact ⟨rfl, rfl⟩
  | cons x l ih =>
   intro hl
   have hx := hl x (by simp)
   obtain ⟨i1, i2⟩ := ih fun y hy => hl y (by simp [hy])
   simp only [List.map_cons, sumB]
   rw [i1, i2]
   refine ⟨?_, rfl⟩
   congr 1
   unfold backG
   rw [nam_on v h hfav hx]
   cases onP b x <;> rfl
 obtain ⟨k1, k2⟩ := key b.bets fun x hx => hx
 refine ⟨k1, ?_⟩
 unfold inP
 show b.car + sumB _ (b.bets.map (namB b.kd σ)) = _
 rw [k2]
end
theorem wins_okS {b : Bk} {fs : List (List Int)} (hf : FinV b fs) {s : Spt} (hs : s ∈ winsP b fs) : OkS b s := by
 obtain ⟨a, c⟩ := s
 obtain ⟨h1, h2, hw⟩ := (wins_mem hf).1 hs
 have hkd := hf.book.kd
 have hin : ∀ x, x ∈ fst0 fs ∨ x ∈ snd0 fs → 0 ≤ x ∧ x < b.n := fun x hx => by
  have h1 : x ∈ fs.flatten := by
   match fs, hx with
   | [], hx => simp [fst0, snd0] at hx
   | [g], hx => simp [fst0, snd0] at hx ⊢; exact hx
   | g :: g2 :: l, hx =>
    simp [fst0, snd0] at hx ⊢
    rcases hx with hx | hx
    ·exact .inl hx
    ·exact .inr (.inl hx)
  have := runL_mem.1 (hf.perm.symm.subset h1)
  omega
 unfold isW at hw
 by_cases k0 : b.kd = 0
 ·rw [if_pos k0] at hw
  simp at hw
  exact ⟨h1, fun _ => hw.1, (fun e => by unfold single at e; simp [k0] at e)⟩
 rw [if_neg k0] at hw
 by_cases k1 : b.kd = 1
 ·rw [if_pos k1] at hw
  simp at hw
  exact ⟨h1, fun _ => hw.1, (fun e => by unfold single at e; simp [k1] at e)⟩
 rw [if_neg k1] at hw
 have hns : single b = true → (a, c).2 = -1 := fun e => by unfold single at e; simp [k0, k1] at e
 by_cases k2 : b.kd = 2
 ·rw [if_pos k2] at hw
  simp at hw
  have hc : 0 ≤ c ∧ c < b.n := hin c (hw.2.elim (fun h => .inl h.2) fun h => .inr h.2)
  exact ⟨h1, hns, fun _ => ⟨hc.1, hc.2, hw.1.1, fun e => absurd e (by omega)⟩⟩
 ·rw [if_neg k2] at hw
  simp at hw
  exact ⟨h1, hns, fun _ => ⟨by simp only; omega, h2.2, (fun e => by simp only at e; omega), fun _ => hw.1⟩⟩
section
variable {b : Bk} {σ : List Int} (h : IsNam b.n σ)
include h
theorem selN_empty : (selN σ b.n fun k => ([] : List Int).contains k) = [] := by
 rw [List.eq_nil_iff_forall_not_mem]
 intro x hx
 obtain ⟨k, _, _, e⟩ := (selN_mem h).1 hx
 simp at e
theorem nam_f0 (fs : List (List Int)) : fst0 (namF b σ fs) = selN σ b.n fun k => (fst0 fs).contains k := by
 cases fs with
 | nil => exact (selN_empty h).symm
 | cons g l => rfl
theorem nam_f1 (fs : List (List Int)) : snd0 (namF b σ fs) = selN σ b.n fun k => (snd0 fs).contains k := by
 match fs with
 | [] => exact (selN_empty h).symm
 | [g] => exact (selN_empty h).symm
 | g :: g2 :: l => rfl
end
section
variable {b : Bk} {σ : List Int} (h : IsNam b.n σ) {fs : List (List Int)} (hf : FinV b fs)
include h hf
theorem nam_alo : alo (namF b σ fs) = alo fs := by
 have hr : ∀ x ∈ fst0 fs, 0 ≤ x ∧ x < b.n := fun x hx => by
  have h1 : x ∈ fs.flatten := by
   cases fs with
   | nil => simp [fst0] at hx
   | cons g l => simp [fst0] at hx ⊢; exact .inl hx
  have := runL_mem.1 (hf.perm.symm.subset h1)
  omega
 have hn : (fst0 fs).Nodup := by
  cases hfs : fs with
  | nil => simp [fst0]
  | cons g l => exact rising_nodup (hf.up g (by rw [hfs]; simp))
 have := (selN_perm h hn hr).length_eq
 rw [List.length_map] at this
 unfold alo
 rw [nam_f0 h, this]
theorem nam_wins1 {s : Spt} (hs : s ∈ winsP b fs) : namS b.kd σ s ∈ winsP (namC b σ) (namF b σ fs) := by
 have v := hf.book
 have hok := wins_okS hf hs
 have hok2 := namS_ok h hok
 obtain ⟨a, c⟩ := s
 have hw := ((wins_mem hf).1 hs).2.2
 have hgf := nam_fin v h hf
 have ea : ∀ x, 0 ≤ x ∧ x < b.n → (nm σ x ∈ fst0 (namF b σ fs) ↔ x ∈ fst0 fs) := fun x hx => by rw [nam_f0 h, selN_nm h hx]; simp
 have eb : ∀ x, 0 ≤ x ∧ x < b.n → (nm σ x ∈ snd0 (namF b σ fs) ↔ x ∈ snd0 fs) := fun x hx => by rw [nam_f1 h, selN_nm h hx]; simp
 have hal := nam_alo h hf
 obtain ⟨h1, h2, h3⟩ := hok
 simp only at h1 h2 h3
 have hA := h.bd a h1.1 h1.2
 have hn : (namC b σ).n = b.n := rfl
 have hk' : (namC b σ).kd = b.kd := rfl
 cases hsg : single b
 ·obtain ⟨b1, b2, b3, b4⟩ := h3 hsg
  have hC := h.bd c b1 b2
  have hne : nm σ a ≠ nm σ c := fun e => b3 (h.inj a c h1.1 h1.2 b1 b2 e)
  have k0 : ¬ b.kd = 0 := fun e => by unfold single at hsg; simp [e] at hsg
  have k1 : ¬ b.kd = 1 := fun e => by unfold single at hsg; simp [e] at hsg
  have hcc : 0 ≤ c ∧ c < b.n := ⟨b1, b2⟩
  unfold namS
  simp only
  rw [if_pos b1]
  unfold isW at hw
  rw [if_neg k0, if_neg k1] at hw
  by_cases k2 : b.kd = 2
  ·rw [if_pos k2] at hw
   rw [if_neg (fun e => by have := e.1; omega)]
   refine (wins_mem hgf).2 ⟨by rw [hn]; exact hA, by rw [hn]; omega, ?_⟩
   unfold isW
   rw [hk', if_neg k0, if_neg k1, if_pos k2, hal]
   simp at hw ⊢
   rw [ea a h1, ea c hcc, eb c hcc]
   exact ⟨⟨hne, hw.1.2⟩, hw.2⟩
  ·rw [if_neg k2] at hw
   have k3 : b.kd = 3 := by have := v.kd; omega
   simp at hw
   split
   ·rename_i hc
    refine (wins_mem hgf).2 ⟨by rw [hn]; exact hC, by rw [hn]; omega, ?_⟩
    unfold isW
    rw [hk', if_neg k0, if_neg k1, if_neg k2, hal]
    simp
    rw [ea a h1, ea c hcc, eb a h1, eb c hcc]
    refine ⟨hc.2, ?_⟩
    rcases hw.2 with hh | ⟨hh, h5⟩
    ·exact .inl ⟨⟨hh.1.1, hh.2⟩, hh.1.2⟩
    ·exact .inr ⟨hh, h5.symm⟩
   ·rename_i hc
    refine (wins_mem hgf).2 ⟨by rw [hn]; exact hA, by rw [hn]; omega, ?_⟩
    unfold isW
    rw [hk', if_neg k0, if_neg k1, if_neg k2, hal]
    simp
    rw [ea a h1, ea c hcc, eb a h1, eb c hcc]
    have hlt : nm σ a < nm σ c := by
     have : ¬ nm σ c < nm σ a := fun e => hc ⟨k3, e⟩
     omega
    exact ⟨hlt, hw.2⟩
 ·have e := h2 hsg
  subst e
  have hk3 : ¬ b.kd = 3 := fun hk => by unfold single at hsg; simp [hk] at hsg
  have e0 : (if (0 : Int) ≤ -1 then nm σ (-1) else -1) = -1 := if_neg (by omega)
  unfold namS
  simp only
  rw [e0, if_neg (fun hc => hk3 hc.1)]
  have hbn := v.n
  refine (wins_mem hgf).2 ⟨by rw [hn]; exact hA, by rw [hn]; omega, ?_⟩
  unfold isW at hw ⊢
  rw [hk', hal]
  by_cases k0 : b.kd = 0
  ·rw [if_pos k0] at hw ⊢
   simp at hw ⊢
   rw [ea a h1]; exact hw
  ·rw [if_neg k0] at hw ⊢
   have k1 : b.kd = 1 := by
    unfold single at hsg
    simp [k0] at hsg
    exact hsg
   rw [if_pos k1] at hw ⊢
   simp at hw ⊢
   rw [ea a h1, eb a h1]; exact hw
end
end Go.Proofs.Ytphajlldghcnnaa
