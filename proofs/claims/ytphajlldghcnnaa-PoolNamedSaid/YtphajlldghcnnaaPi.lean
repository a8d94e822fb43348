/-
 Plain: dividends, the account, what is paid; and the map of the winners that are backed.
 Laws on append inside a fence (in the rounds of a range over a function): onto a slice that a call has made itself, and onto one without room.
 A list that a loop's body gathers: its slice lies in a block of one cell, its memory is of its own.
 The walk of Winners.
 A range over a function in a loop: each round leaves a mark among the deferred calls; all of them are taken at the end.
 The walk of dividends: two ranges over the winners, with a map of those that are backed.
-/
import Derived.Test.YtphajlldghcnnaaPh
import Derived.Test.YtphajlldghcnnaaPc
import Derived.Test.YtphajlldghcnnaaPa
import Derived.ArgAppend
import Derived.OwnWalkIn
namespace Go.Proofs.Ytphajlldghcnnaa
open Go.RowKit Go.Shelf
def backF (b : Bk) (pre : List Spt) : Spt → Option Int := fun s => if s ∈ pre ∧ unitsP b s ≠ 0 then some (unitsP b s) else none
def backedL (b : Bk) (fs : List (List Int)) : List Spt := (winsP b fs).filter fun s => decide (unitsP b s ≠ 0)
def shareP (b : Bk) (fs : List (List Int)) : Int := netP b / ((backedL b fs).length : Int)
/-- a dividend: on whom, on whom too, how many pence -/
abbrev Dvd := Spt × Int
def penceP (b : Bk) (fs : List (List Int)) (s : Spt) : Int := shareP b fs / (unitsP b s * b.step) * b.step
def divP (b : Bk) (fs : List (List Int)) : List Dvd := (backedL b fs).map fun s => (s, penceP b fs s)
def divRow (d : Dvd) : List Value := [.int .i64 d.1.1, .int .i64 d.1.2, .int .i64 d.2]
def paidP (b : Bk) (fs : List (List Int)) : Int := ((divP b fs).map fun d => d.2 * unitsP b d.1).sum
theorem units_bd' {b : Bk} (v : BVal b) (s : Spt) : 0 ≤ unitsP b s ∧ unitsP b s ≤ 100000 := by
 have := units_bd v s b.bets.length
 rwa [List.take_length] at this
theorem backF_nil (b : Bk) : backF b [] = fun _ => none := funext fun s => by simp [backF]
theorem backF_on {b : Bk} {pre : List Spt} {s : Spt} (h : unitsP b s ≠ 0) : (fun k => if k = s then some (unitsP b s) else backF b pre k) = backF b (pre ++ [s]) := funext fun k => by
 unfold backF
 by_cases e : k = s
 ·subst e; simp [h]
 ·simp [e]
theorem backF_off {b : Bk} {pre : List Spt} {s : Spt} (h : unitsP b s = 0) : (fun k => if k = s then none else if k = s then some (unitsP b s) else backF b pre k) = backF b (pre ++ [s]) := funext fun k => by
 unfold backF
 by_cases e : k = s
 ·subst e; simp [h]
 ·simp [e]
/-- the firsts of a finish come once -/
theorem firsts_nodup {b : Bk} {fs : List (List Int)} (h : FinV b fs) (k : Nat) : (firstsP fs k).Nodup := by
 have h1 : fs.flatten.Nodup := h.perm.nodup_iff.1 (runL_nodup b)
 have h2 : (fs.take k).flatten.Nodup := by
  have e : fs.flatten = (fs.take k).flatten ++ (fs.drop k).flatten := by rw [← List.flatten_append, List.take_append_drop]
  rw [e, List.nodup_append] at h1
  exact h1.1
 unfold firstsP
 exact (List.mergeSort_perm _ _).nodup_iff.2 h2
theorem nodup_flat {α β : Type} {f : α → List β} : ∀ {l : List α}, l.Nodup → (∀ x ∈ l, (f x).Nodup) → (∀ x ∈ l, ∀ y ∈ l, ∀ z, z ∈ f x → z ∈ f y → x = y) → (l.flatMap f).Nodup
 | [], _, _, _ => by simp
 | a :: l, h, h1, h2 => by
  rw [List.nodup_cons] at h
  rw [List.flatMap_cons, List.nodup_append]
  refine ⟨h1 a (by simp), nodup_flat h.2 (fun x hx => h1 x (by simp [hx])) (fun x hx y hy => h2 x (by simp [hx]) y (by simp [hy])), ?_⟩
  intro z hz y hy e
  subst e
  obtain ⟨x, hx, hzx⟩ := List.mem_flatMap.1 hy
  have := h2 a (by simp) x (by simp [hx]) z hz hzx
  subst this
  exact h.1 hx
theorem nodup_mapI {α β : Type} {f : α → β} {l : List α} (h : l.Nodup) (hf : ∀ x y, f x = f y → x = y) : (l.map f).Nodup := by
 unfold List.Nodup at h ⊢
 rw [List.pairwise_map]
 exact h.imp fun hne e => hne (hf _ _ e)
theorem wins_nodup {b : Bk} {fs : List (List Int)} (h : FinV b fs) : (winsP b fs).Nodup := by
 have hn := firsts_nodup h (grp b fs)
 unfold winsP
 generalize firstsP fs (grp b fs) = L at hn ⊢
 refine nodup_flat hn (fun a _ => ?_) (fun x _ y _ z hz hy => ?_)
 ·unfold winsAt
  split
  ·simp
  ·exact nodup_mapI (hn.filter _) fun x y e => (Prod.mk.inj e).2
 ·have hf : ∀ a z, z ∈ winsAt b fs L a → z.1 = a := fun a z hz => by
   unfold winsAt at hz
   split at hz
   ·simp at hz; rw [hz]
   ·obtain ⟨c, _, rfl⟩ := List.mem_map.1 hz; rfl
  rw [← hf x z hz, ← hf y z hy]
/-- how many entries a map has -/
theorem once_len {es : Ents Spt Int} (h : Once es) {l : List Spt} (hl : l.Nodup) (hm : ∀ k, getE es k ≠ none ↔ k ∈ l) : es.length = l.length := by
 have hk : ∀ k, k ∈ es.map (·.1) ↔ k ∈ l := fun k => by
  rw [← hm k]
  unfold getE
  constructor
  ·intro h
   obtain ⟨e, he, rfl⟩ := List.mem_map.1 h
   intro hn
   rw [Option.map_eq_none_iff, List.find?_eq_none] at hn
   have := hn e he
   simp at this
  ·intro h
   cases hf : es.find? fun e => decide (e.1 = k) with
   | none => rw [hf] at h; exact absurd rfl h
   | some e =>
    have h1 := List.mem_of_find?_eq_some hf
    have h2 := List.find?_some hf
    simp at h2
    exact List.mem_map.2 ⟨e, h1, h2⟩
 have hp : (es.map (·.1)).Perm l := (List.perm_ext_iff_of_nodup h hl).2 hk
 have := hp.length_eq
 simpa using this
end Go.Proofs.Ytphajlldghcnnaa
namespace Go.Proofs.Ytphajlldghcnnaa
open Go.RowKit Go.Shelf
theorem wpIn_append {F : Fence} {n : Nat} {P : Program} {w : World} {ops : Array Oper} {rest : List Oper} {o : Oper} {a : Act} {Q : Exit → Act → World → Prop} (hgd : o.guard = none) (s x : Operand) {t ty : TypeId}
  (ho : o.op = .call { callee := .builtin .append, args := #[s, x], argTypes := #[t, t] }) (hty : o.type = ty) {v xv v' : Value} {w' : World} (hs : a.eval s = v) (hx : a.eval x = xv) (hrun : (Builtin.append_ #[t, t] ty #[v, xv]).run P w = .ok v' w')
  (h : wpListIn F n P ops Q rest (a.put o.dst v') w') : wpListIn F n P ops Q (o :: rest) a w :=
 wpListIn_plain hgd fun K hK => by
  unfold Oper.wpIn
  refine ⟨?_, ?_⟩
  ·simp [Oper.about, ho, resolve, Target.leads, Sem.run_pure]
  ·rw [Oper.semAt_plain F _ _ (by rw [ho]; intro c hc'; cases hc')]
   simp [execOp, ho, resolve, invoke, builtin, hs, hx, hty, hrun, Result.andThen]
   exact hK _ _ h
/-- where the slice lies that append has left: where it lay, or in a new block -/
theorem app_at {w : World} {t e : TypeId} {sz : Nat} (el : El t e sz) (ty : TypeId) (B : Nat) {v : Value} {rows : List (List Value)} (hown : Owns w B e sz v rows) (b off c : Nat) (news : List (List Value))
  (hr : ∀ r ∈ news, r.length = sz) (hs : RowsAt w sz b off news) (h1 : ∀ r ∈ news, ∀ u ∈ r, u.oneCell' = true) (hn : rows.length + news.length ≤ 1000000) (hB : B ≤ w.heap.size) :
  ∃ v' w', (Builtin.append_ #[t, t] ty #[v, .slice (some ⟨b, off, none⟩) news.length c]).run Try.prog w = .ok v' w' ∧ Owns w' B e sz v' (rows ++ news) ∧ Kept (fun k => some k ≠ v.ownBlock) w w' ∧ (∀ g, v'.ownBlock = some g → v.ownBlock = some g ∨ w.heap.size ≤ g) := by
 obtain ⟨i, z, hi, hz, hsi, hby, hzs⟩ := el.info
 have hfl : ∀ j u, news.flatten[j]? = some u → w.cell? ((⟨b, off, none⟩ : Addr).add j) = some u := fun j u hj => by rw [addr_add]; exact rows_flat hr hs j u hj
 have h1f : ∀ u ∈ news.flatten, u.oneCell' = true := fun u hu => by obtain ⟨r, hr1, hr2⟩ := List.mem_flatten.1 hu; exact h1 r hr1 u hr2
 have hby2 : (rows.length + news.length) * i.bytes ≤ 140737488355328 := by have := Nat.mul_le_mul hn hby; omega
 have hrr : ∀ r ∈ rows ++ news, r.length = sz := fun r hr' => by
  rcases List.mem_append.1 hr' with h | h
  ·exact hown.2 r h
  ·exact hr r h
 have hkept : ∀ {w' : World} {x : Option Nat}, w.grownBy w' x → (x = none ∨ x = v.ownBlock) → Kept (fun k => some k ≠ v.ownBlock) w w' := fun hg hx =>
  (Kept.refl _ w).grown hg fun k e _ hk => by
   rcases hx with hx | hx
   ·rw [hx] at e; cases e
   ·rw [hx] at e; exact hk e.symm
 rcases hown.1.2 with ⟨rfl, hn0⟩ | ⟨g, cap, cur, rfl, hb, hg, hnc, hm, hsz, ht⟩
 ·have h0 : rows = [] := List.eq_nil_of_length_eq_zero hn0
  subst h0
  obtain ⟨v', w', hrun, ho, hg, _⟩ := run_append_own (P := Try.prog) w w.heap.size t ty e i z sz i.bytes el.und hi hz hsi rfl hzs el.pos (.slice none 0 0) 0 [] (World.ownsRow_nil w _ e sz) ⟨b, off, none⟩ news.length c news.flatten (flatten_len hr)
   hfl h1f (by simp [maxLen] at *; omega) (by simpa using hby2) (Nat.le_refl _)
  have ho' : Owns w' w.heap.size e sz v' ([] ++ news) := ⟨by simpa using ho, hrr⟩
  exact ⟨v', w', hrun, ho'.base hB, hkept hg (.inr rfl), fun k hk => .inr (ho'.1.lt k hk).1⟩
 ·by_cases hroom : rows.length + news.length ≤ cap
  ·obtain ⟨w', hrun, ho, hg2⟩ := run_append_fits (P := Try.prog) w B t ty e i sz el.und hi hsi g rows.length cap rows.flatten hown.1 ⟨b, off, none⟩ news.length c news.flatten (flatten_len hr) hfl h1f hroom
   exact ⟨_, w', hrun, ⟨by simpa using ho, hrr⟩, hkept hg2 (.inr rfl), fun k hk => .inl hk⟩
  ·obtain ⟨v', w', hrun, ho, hg2⟩ := run_append_arg_grows (P := Try.prog) w t ty e i z sz i.bytes el.und hi hz hsi rfl hzs el.pos ⟨g, 0, none⟩ rows.length cap rows.flatten (flatten_len hown.2)
    (fun j u hj => hown.1.cells rfl j u hj) ⟨b, off, none⟩ news.length c news.flatten (flatten_len hr) hfl (by omega) (by simp [maxLen]; omega) hby2
   have ho' : Owns w' w.heap.size e sz v' (rows ++ news) := ⟨by simpa using ho, hrr⟩
   exact ⟨v', w', hrun, ho'.base hB, hkept hg2 (.inl rfl), fun k hk => .inr (ho'.1.lt k hk).1⟩
/-- onto a slice that a call has made itself -/
theorem wpOwnIn {F : Fence} {n : Nat} {w : World} {ops : Array Oper} {rest : List Oper} {o : Oper} {a : Act} {Q : Exit → Act → World → Prop} (hgd : o.guard = none) (s x : Operand) {t e : TypeId} {sz : Nat} (el : El t e sz)
  (ho : o.op = .call { callee := .builtin .append, args := #[s, x], argTypes := #[t, t] }) (B : Nat) {v : Value} {rows : List (List Value)} (hs : a.eval s = v) (hown : Owns w B e sz v rows)
  (b off c : Nat) (news : List (List Value)) (hx : a.eval x = .slice (some ⟨b, off, none⟩) news.length c) (hr : ∀ r ∈ news, r.length = sz) (hc : RowsAt w sz b off news) (h1 : ∀ r ∈ news, ∀ u ∈ r, u.oneCell' = true)
  (hn : rows.length + news.length ≤ 1000000) (hB : B ≤ w.heap.size)
  (h : ∀ v' w', Owns w' B e sz v' (rows ++ news) → Kept (fun k => some k ≠ v.ownBlock) w w' → (∀ g, v'.ownBlock = some g → v.ownBlock = some g ∨ w.heap.size ≤ g) → wpListIn F n Try.prog ops Q rest (a.put o.dst v') w') : wpListIn F n Try.prog ops Q (o :: rest) a w := by
 obtain ⟨v', w', hrun, h2, h3, h4⟩ := app_at el o.type B hown b off c news hr hc h1 hn hB
 exact wpIn_append hgd s x ho rfl hs hx hrun (h v' w' h2 h3 h4)
/-- append onto a slice without room: a new one -/
theorem app_full {w : World} {t e : TypeId} {sz : Nat} (el : El t e sz) (ty : TypeId) (ao : Option Addr) (n cap : Nat) {rows : List (List Value)} (hl : n = rows.length) (hrows : ∀ r ∈ rows, r.length = sz) (hold : (ao = none ∧ rows = [] ∧ cap = 0) ∨ ∃ b off, ao = some ⟨b, off, none⟩ ∧ RowsAt w sz b off rows)
  (b off c : Nat) (news : List (List Value)) (hr : ∀ r ∈ news, r.length = sz) (hs : RowsAt w sz b off news) (h1 : ∀ r ∈ news, ∀ u ∈ r, u.oneCell' = true) (hfull : cap < n + news.length) (hn : rows.length + news.length ≤ 1000000) :
  ∃ v' w', (Builtin.append_ #[t, t] ty #[.slice ao n cap, .slice (some ⟨b, off, none⟩) news.length c]).run Try.prog w = .ok v' w' ∧ Owns w' w.heap.size e sz v' (rows ++ news) ∧ Ext w w' := by
 subst hl
 obtain ⟨i, z, hi, hz, hsi, hby, hzs⟩ := el.info
 have hfl : ∀ j u, news.flatten[j]? = some u → w.cell? ((⟨b, off, none⟩ : Addr).add j) = some u := fun j u hj => by rw [addr_add]; exact rows_flat hr hs j u hj
 have h1f : ∀ u ∈ news.flatten, u.oneCell' = true := fun u hu => by obtain ⟨r, hr1, hr2⟩ := List.mem_flatten.1 hu; exact h1 r hr1 u hr2
 have hby2 : (rows.length + news.length) * i.bytes ≤ 140737488355328 := by have := Nat.mul_le_mul hn hby; omega
 have hrr : ∀ r ∈ rows ++ news, r.length = sz := fun r hr' => by
  rcases List.mem_append.1 hr' with h | h
  ·exact hrows r h
  ·exact hr r h
 rcases hold with ⟨rfl, rfl, rfl⟩ | ⟨g, o, rfl, hc⟩
 ·obtain ⟨v', w', hrun, ho, hg, _⟩ := run_append_own (P := Try.prog) w w.heap.size t ty e i z sz i.bytes el.und hi hz hsi rfl hzs el.pos (.slice none 0 0) 0 [] (World.ownsRow_nil w _ e sz) ⟨b, off, none⟩ news.length c news.flatten (flatten_len hr)
   hfl h1f (by simp [maxLen] at *; omega) (by simpa using hby2) (Nat.le_refl _)
  exact ⟨v', w', hrun, ⟨by simpa using ho, hrr⟩, (Below.refl _ w).grown hg (Nat.le_refl _) fun k hk => by cases hk⟩
 ·obtain ⟨v', w', hrun, ho, hg2⟩ := run_append_arg_grows (P := Try.prog) w t ty e i z sz i.bytes el.und hi hz hsi rfl hzs el.pos ⟨g, o, none⟩ rows.length cap rows.flatten (flatten_len hrows)
   (fun j u hj => by rw [addr_add]; exact rows_flat hrows hc j u hj) ⟨b, off, none⟩ news.length c news.flatten (flatten_len hr) hfl (by omega) (by simp [maxLen]; omega) hby2
  exact ⟨v', w', hrun, ⟨by simpa using ho, hrr⟩, (Below.refl _ w).grown hg2 (Nat.le_refl _) fun k hk => by cases hk⟩
/-- rows that were laid just now -/
theorem newRows (w : World) (rows : List (List Value)) (arr : Array Value) (T : TypeId) (b sz : Nat) (hb : b = w.heap.size) (hr : ∀ r ∈ rows, r.length = sz) (ha : arr.toList = rows.flatten) : RowsAt (w.alloc (.cells arr T)) sz b 0 rows := by
 subst hb
 refine flat_rows hr fun j u hj => ?_
 have hg : (w.alloc (.cells arr T)).heap[w.heap.size]? = some (.cells arr T (0, 0)) := by
  show (w.heap.push _)[w.heap.size]? = _
  rw [Array.getElem?_push, if_pos rfl]
 rw [cell_of_row _ _ _ _ _ _ hg, Nat.zero_add, ← Array.getElem?_toList, ha]
 exact hj
end Go.Proofs.Ytphajlldghcnnaa
namespace Go.Proofs.Ytphajlldghcnnaa
open Go.RowKit Go.Shelf
theorem Owns.notOwn {w : World} {B : Nat} {e : TypeId} {sz : Nat} {v : Value} {rows : List (List Value)} (h : Owns w B e sz v rows) : ∀ g, v.ownBlock = some g → B ≤ g ∧ g < w.heap.size := h.1.lt
theorem Owns.putOther {w : World} {B : Nat} {e : TypeId} {sz : Nat} {v : Value} {rows : List (List Value)} (h : Owns w B e sz v rows) {D : Nat} {x : Option (List Deferred)} (hD : w.heap[D]? = some (.deferred x)) (o : Obj) : Owns (w.putObj D o) B e sz v rows := by
 refine ⟨⟨h.1.1, ?_⟩, h.2⟩
 rcases h.1.2 with a | ⟨g, cap, cur, hv, hb, hg, hr⟩
 ·exact .inl a
 ·refine .inr ⟨g, cap, cur, hv, hb, (World.putObj_heap_other fun e => ?_).trans hg, hr⟩
  subst e
  rw [hD] at hg; cases hg
theorem Owns.keptAt {S : Nat → Prop} {w w' : World} {B : Nat} {e : TypeId} {sz : Nat} {v : Value} {rows : List (List Value)} (h : Owns w B e sz v rows) (k : Kept S w w') (hs : ∀ g cur, B ≤ g → v.ownBlock = some g → w.heap[g]? = some (.cells cur e (0, 0)) → S g) : Owns w' B e sz v rows := by
 refine ⟨⟨h.1.1, ?_⟩, h.2⟩
 rcases h.1.2 with a | ⟨g, cap, cur, hv, hb, hg, hr⟩
 ·exact .inl a
 ·exact .inr ⟨g, cap, cur, hv, hb, (k.same g (Array.getElem?_eq_some_iff.1 hg).1 (hs g cur hb (by rw [hv]; rfl) hg)).trans hg, hr⟩
def Gath (ty ety : TypeId) (sz bO B : Nat) (rows : List (List Value)) (O : Nat → Prop) (W : World) : Prop :=
 ∃ v, W.heap[bO]? = some (.cells #[v] ty (0, 0)) ∧ Owns W B ety sz v rows ∧ ∀ g, v.ownBlock = some g → ¬ O g
theorem Gath.kept {ty ety : TypeId} {sz bO B : Nat} {rows : List (List Value)} {O O' : Nat → Prop} {A A' : World} {S : Nat → Prop} (h : Gath ty ety sz bO B rows O A) (k : Kept S A A') (h1 : S bO) (h2 : ∀ g, B ≤ g → ¬ O g → S g) (h3 : ∀ g, O' g → O g ∨ A.heap.size ≤ g) : Gath ty ety sz bO B rows O' A' := by
 obtain ⟨v, a, b, c⟩ := h
 refine ⟨v, (k.same bO (Array.getElem?_eq_some_iff.1 a).1 h1).trans a, ?_, fun g hg ho => ?_⟩
 ·refine ⟨⟨b.1.1, ?_⟩, b.2⟩
  rcases b.1.2 with q | ⟨g, cap, cur, hv, hb, hg, hr⟩
  ·exact .inl q
  ·refine .inr ⟨g, cap, cur, hv, hb, (k.same g (Array.getElem?_eq_some_iff.1 hg).1 (h2 g hb (c g ?_))).trans hg, hr⟩
   subst hv; rfl
 ·rcases h3 g ho with q | q
  ·exact c g hg q
  ·have := (b.notOwn g hg).2; omega
/-- what is gathered bears what an iterator does -/
theorem Gath.bears {ty ety : TypeId} {sz bO B : Nat} {rows : List (List Value)} {O O' : Nat → Prop} {A A' : World} {X : Nat → Prop} (h : Gath ty ety sz bO B rows O A) (hO : ∀ k, O k → B ≤ k) (hX : ∀ k, X k → k < B ∧ k ≠ bO) (hb : bO < B)
  (k : Kept (fun k => ¬ O k ∧ ¬ X k) A A') (hO2 : ∀ k, O' k → O k ∨ (A.heap.size ≤ k ∧ k < A'.heap.size)) : Gath ty ety sz bO B rows O' A' :=
 h.kept k ⟨fun ho => by have := hO _ ho; omega, fun hx => (hX _ hx).2 rfl⟩ (fun g h1 h2 => ⟨h2, fun hx => by have := hX _ hx; omega⟩) (fun g h => (hO2 g h).imp id fun h => h.1)
end Go.Proofs.Ytphajlldghcnnaa
namespace Go.Proofs.Ytphajlldghcnnaa
open Go.RowKit Go.Shelf
attribute [local go_sem] Oper.semAt_some
theorem elTwo : El 38 71 2 := El.mk' (bytes := 16) (z := .agg #[.int .i64 0, .int .i64 0]) (by kernel_rfl) (by kernel_rfl) rfl (by omega) (by omega)
def twoRow (x : Spt) : List Value := [.int .i64 x.1, .int .i64 x.2]
def winL (b : Bk) (fs : List (List Int)) : List Spt := if finErr b fs = 0 then winsP b fs else []
theorem flatMap_len {α β : Type} {f : α → List β} {c : Nat} : ∀ {l : List α}, (∀ x ∈ l, (f x).length ≤ c) → (l.flatMap f).length ≤ l.length * c
 | [], _ => by simp
 | a :: l, h => by
  have h1 := h a (by simp)
  have h2 := flatMap_len (l := l) fun x hx => h x (by simp [hx])
  rw [List.flatMap_cons, List.length_append, List.length_cons, Nat.add_mul]; omega
theorem firstsP_le {b : Bk} {fs : List (List Int)} (h : FinV b fs) (k : Nat) : (firstsP fs k).length ≤ 8 := by
 have h1 := runL_le h.book
 have h2 := flat_le fs k
 unfold firstsP
 rw [sortL_len]
 have := h.len
 omega
theorem winsP_le {b : Bk} {fs : List (List Int)} (h : FinV b fs) : (winsP b fs).length ≤ 64 := by
 obtain ⟨L, hL⟩ : ∃ L, L = firstsP fs (grp b fs) := ⟨_, rfl⟩
 have h8 : L.length ≤ 8 := by rw [hL]; exact firstsP_le h _
 unfold winsP
 rw [← hL]
 have h1 := flatMap_len (f := winsAt b fs L) (c := 8) (l := L) fun x hx => by
  unfold winsAt
  split
  ·simp
  ·rw [List.length_map]; exact Nat.le_trans (List.length_filter_le _ _) h8
 have := Nat.mul_le_mul_right 8 h8
 omega
/-- what the iterator reads lies in the world that was -/
theorem winM_of {W0 W1 W : World} {p m : Nat} {b : Bk} {ba sa fa : Option Addr} {bcap scap fcap bt bf : Nat} {ps : List (Value × List Int)} (ht : IsTill W0 p m b ba bcap sa scap) (hf : IsFin W0 (.slice fa ps.length fcap) ps) (e : Ext W0 W)
  (c1 : W1.cell? ⟨bt, 0, none⟩ = some (.pointer (some ⟨p, 0, none⟩))) (c2 : W1.cell? ⟨bf, 0, none⟩ = some (.slice fa ps.length fcap)) {R : Nat → Prop} (k : Kept R W1 W) (h1 : R bt) (h2 : R bf) : WinM W bt bf p b ba bcap sa scap fa fcap ps :=
 ⟨k.cell c1 h1, k.cell c2 h2, (ht.ext e).till.book, hf.ext e⟩
def RetWin (w : World) (b : Bk) (fs : List (List Int)) (e : Ending) (w' : World) : Prop :=
 Ext w w' ∧ ∃ v, e = .returned (.tuple #[v, .int .i64 (finErr b fs)]) ∧ IsRows w' 2 v ((winL b fs).map twoRow)
set_option maxRecDepth 100000 in
set_option maxHeartbeats 4000000 in
theorem winners_in (ps : List (Value × List Int)) (fv : Value) (b : Bk) (ba sa : Option Addr) (bcap scap : Nat) (w : World) (hv : IsBook w b ba bcap sa scap) (hf : IsFin w fv ps) :
  CallsIn Fence.wide 9 Try.prog 27 #[.agg #[.int .i64 b.kd, .int .i64 b.n, .slice ba b.bets.length bcap, .slice sa b.scr.length scap, .bool b.fav, .int .i64 b.car, .int .i64 b.duty, .int .i64 b.step], fv] w (RetWin w b (finsOf ps)) := by
 obtain ⟨fa, fcap, rfl, hf1, hf2, -⟩ := hf.spec
 have HF0 := Lib.hid hf
 have HV := Lib.hid hv
 clear hf hv
 refine callsIn_of_wp_marks Try.func27 rfl trivial ?_ rfl
 simp only [Try.ntmps27, List.size_toArray, List.length_cons, List.length_nil, Nat.reduceAdd, Nat.reduceSub, Array.replicate_succ, Array.replicate_zero, List.push_toArray, List.append_toArray, List.nil_append, List.cons_append]
 gi_wp2_with fail
 refine ⟨trivial, (callsIn_wide.2 (finished_any ps _ b ba sa bcap scap _ (HV.out.ext (by exact xx)) (HF0.out.ext (by exact xx)))).mono ?_⟩
 rintro e W1 ⟨hE1, ⟨hne, rfl⟩ | ⟨h0, p, m, rfl, hp, hT⟩⟩
 ·obtain ⟨er, her⟩ : ∃ er, er = finErr b (finsOf ps) := ⟨_, rfl⟩
  rw [← her] at hne ⊢
  have f1 : (er != 0) = true := by simpa using hne
  have HE1 := Lib.hid (Ext.trans' (by exact xx) hE1 : Ext w W1)
  have HER := Lib.hid her
  have HNE := Lib.hid hne
  clear her hne hE1
  gi_wp2_with fail
  refine ⟨.tuple #[.slice none 0 0, .int .i64 er], by simp [results, Try.results27, go_sem], HE1.out, _, by rw [HER.out], ?_⟩
  have e0 : winL b (finsOf ps) = [] := by unfold winL; rw [if_neg (by rw [← HER.out]; exact HNE.out)]
  rw [e0]
  exact ⟨none, 0, rfl, by simp, by simp, .inl rfl⟩
 have HE1 := Lib.hid (Ext.trans' (by exact xx) hE1 : Ext w W1)
 have HT1 := Lib.hid hT
 have HF1 := Lib.hid (HF0.out.ext HE1.out)
 have FV := Lib.hid (finV_of h0)
 have H0 := Lib.hid h0
 have hzp := hT.till.lt
 clear hE1 hT h0 HF0 HV
 gi_wp2_with fail
 refine ⟨trivial, (callsIn_wide.2 (winners_any p fa ps.length fcap _)).mono ?_⟩
 rintro e W5 ⟨rfl, hE5, c5t, c5f, hz5⟩
 simp only [World.size_alloc] at c5t c5f hz5
 have hE15 : Ext W1 W5 := Ext.trans' (by exact xx) hE5
 have hO5 : W5.heap[W1.heap.size]? = some (.cells #[.slice none 0 0] 38 (0, 0)) :=
  (hE5.block _ (by simp)).trans (World.alloc_heap_new W1 _)
 have HO5 := Lib.hid hO5
 have HE15 := Lib.hid hE15
 clear hE5 hO5 hE15
 gi_wp2_with fail
 refine rangeOver (n := 9) (R := fun k => k < W5.heap.size ∧ k ≠ W1.heap.size) rfl (enters_of Try.func94 (by kernel_rfl) rfl)
  (winners_iter b ba sa fa bcap scap fcap (W1.heap.size + 1) (W1.heap.size + 1 + 1) p ps (fun k => k < W5.heap.size ∧ k ≠ W1.heap.size) W5 (fun k hk => hk.1)
   (fun W hk => winM_of HT1.out HF1.out (HE15.out.trans (Kept.below (hk.mono (T := fun k => k < W1.heap.size) fun k hk1 hk2 => ⟨hk1, by omega⟩) HE15.out.size)) c5t c5f hk ⟨by omega, by simp⟩ ⟨by omega, by simp; omega⟩) FV.out.ok)
  (Below.refl _ _) (fun k hk => hk.1) (fun _ => rfl)
  (fun O pre W => (∀ k, O k → W5.heap.size ≤ k) ∧ W5.heap.size ≤ W.heap.size ∧ Ext W1 W ∧ Gath 38 71 2 W1.heap.size (W5.heap.size + 2) (pre.map twoRow) O W)
  (fun _ _ _ _ => False) ?bears (fun _ _ _ _ _ _ h _ _ _ => h) ⟨fun _ h => h.elim, Nat.le_refl _, HE15.out, ⟨_, HO5.out, Owns.nil _ _ _ _, fun g hg => (by cases hg)⟩⟩ ?round ?done (fun _ _ _ _ _ _ _ h _ => h.elim)
 case bears =>
  rintro pre O O' A B ⟨g1, g2, g3, g4⟩ hk hO1 hO2
  have hlow : Kept (fun k => k < W5.heap.size) A B := hk.mono fun k _ hk => ⟨fun ho => by have := g1 k ho; omega, by omega⟩
  refine ⟨fun k hk => ?_, by have := hk.size; omega, g3.trans (Kept.below (hlow.mono fun k _ h => by omega) g3.size), g4.kept hk ⟨fun ho => by have := g1 _ ho; omega, by omega⟩ (fun g h1 h2 => ⟨h2, by omega⟩) (fun g h => (hO2 g h).imp id fun h => h.1)⟩
  rcases hO2 k hk with h | h
  ·exact g1 k h
  ·omega
 case round =>
  rintro l O pre y W ⟨g1, g2, g3, g4⟩ hy hO2 hW2
  simp only [skey]
  gi_wp2
  refine ⟨xx, fun W2 hk2 => ?_⟩
  have hE2 : Ext W (W.alloc (.cells #[.int .i64 y.1, .int .i64 y.2] 110)) := xx
  have y0 := hk2.cell (p := ⟨W.heap.size, 0, none⟩) (v := .int .i64 y.1) (by simp [go_sem]) (by simp; omega)
  have y1 := hk2.cell (p := ⟨W.heap.size, 1, none⟩) (v := .int .i64 y.2) (by simp [go_sem]) (by simp; omega)
  have g32 : Ext W1 W2 := (g3.trans' hE2).trans (Kept.below (hk2.mono fun k _ h => by have := HE15.out.size; omega) (by have := g3.size; simp; omega))
  have g42 : Gath 38 71 2 W1.heap.size (W5.heap.size + 2) (pre.map twoRow) O W2 :=
   (g4.kept (O' := O) (.of_below hE2) (S := fun _ => True) trivial (fun _ _ _ => trivial) (fun _ h => .inl h)).kept hk2 (by omega) (fun g h1 _ => by omega) (fun _ h => .inl h)
  have hz2 := hk2.size
  simp only [World.size_alloc] at hz2
  have hzy : W.heap.size < W2.heap.size := by omega
  obtain ⟨ov, hov, hown, hno⟩ := g42
  obtain ⟨oa, on, oc, rfl⟩ := hown.isSlice
  have ho0 : W2.cell? ⟨W1.heap.size, 0, none⟩ = some (.slice oa on oc) := by rw [cell_of_row _ _ _ _ _ _ hov]; rfl
  have hof : W2.frozen? ⟨W1.heap.size, 0, none⟩ = false := by simp [World.frozen?, hov]
  have hzo := (Array.getElem?_eq_some_iff.1 hov).1
  have HLL : Hid ((pre.map twoRow).length + [twoRow y].length ≤ 1000000) := by
   refine Lib.hid ?_
   obtain ⟨rest, hr⟩ := hy
   have h1 := winsP_le FV.out
   rw [hr] at h1
   simp at h1 ⊢; omega
  have HOV := Lib.hid hov
  have HOWN := Lib.hid hown
  have HNO := Lib.hid hno
  have G3 := Lib.hid g32
  have HO2 := Lib.hid hO2
  have HK2 := Lib.hid hk2
  clear hov hown hno g3 g4 g32 hO2 hk2 hE2 hy
  gi_wp2_with (refine wpOwnIn rfl (.tmp 23) (.tmp 29) elTwo rfl (W5.heap.size + 2) rfl (HOWN.out.ext (by exact xx)) W2.heap.size 0 1 [twoRow y] rfl (by simp [twoRow]) (newRow _ (twoRow y) _) (by simp [twoRow, Value.oneCell']) HLL.out (by simp; omega) ?_)
  intro v' W4 hown4 hk4 hat4
  have hob4 := hown4.notOwn
  have hov4 := (hk4.same W1.heap.size (by simp; omega) (fun h => by
   have := HOWN.out.notOwn _ h.symm; omega)).trans ((Below.heap_alloc W2 _ _ hzo).trans HOV.out)
  have ho4 : W4.cell? ⟨W1.heap.size, 0, none⟩ = some (.slice oa on oc) := by rw [cell_of_row _ _ _ _ _ _ hov4]; rfl
  have hof4 : W4.frozen? ⟨W1.heap.size, 0, none⟩ = false := by simp [World.frozen?, hov4]
  obtain ⟨va, vn, vc, rfl⟩ := hown4.isSlice
  have HK4 := Lib.hid hk4
  have HAT4 := Lib.hid hat4
  have HOWN4 := Lib.hid hown4
  have HOV4 := Lib.hid hov4
  clear hk4 hat4 hown4 hov4 hob4
  gi_wp2_with fail
  have hkS : ∀ (S : Nat → Prop), (∀ g, (Value.slice oa on oc).ownBlock = some g → ¬ S g) → ¬ S W1.heap.size → Kept S W2 (W4.setCell ⟨W1.heap.size, 0, none⟩ (.slice va vn vc)) := fun S h1 h2 =>
   (((Kept.refl S W2).alloc _).trans (HK4.out.mono fun k _ hk e => h1 k e.symm hk)).setCell (fun _ => h2) _
  have hz4 := HK4.out.size
  simp only [World.size_alloc] at hz4
  have ho5 : ∀ g, (Value.slice oa on oc).ownBlock = some g → W5.heap.size + 2 ≤ g ∧ ¬ O g := fun g hg => ⟨(HOWN.out.notOwn g hg).1, HNO.out g hg⟩
  refine ⟨hkS _ (fun g hg h => ?_) (fun h => ?_), g1, by simp [World.setCell]; omega, ?_, _, ?_, (by rw [List.map_append]; exact (HOWN4.out.setOther HOV4.out (by decide) 0 _).base (by omega)), fun g hg ho => ?_⟩
  ·have := ho5 g hg
   rcases h with h | h | h | h
   ·omega
   ·exact this.2 h
   ·omega
   ·omega
  ·rcases h with h | h | h | h
   ·exact h.2 rfl
   ·have := g1 _ h; omega
   ·omega
   ·omega
  ·exact G3.out.trans (Kept.below (hkS _ (fun g hg h => by have := ho5 g hg; omega) (by omega)) G3.out.size)
  ·exact heap_setCell_row HOV4.out 0 _
  ·rcases HAT4.out g hg with h | h
   ·exact HNO.out g h ho
   ·have := (HO2.out g ho).2; have : W2.heap.size + 1 ≤ g := by simpa using h
    omega
 case done =>
  rintro D O xs W hD rfl ⟨g1, g2, g3, g4⟩ hDk
  obtain ⟨ov, hov, hown, hno⟩ := g4
  obtain ⟨oa, on, oc, rfl⟩ := hown.isSlice
  have ho0 : W.cell? ⟨W1.heap.size, 0, none⟩ = some (.slice oa on oc) := by rw [cell_of_row _ _ _ _ _ _ hov]; rfl
  have HOWN := Lib.hid hown
  have HDK := Lib.hid hDk
  have hDlt := (Array.getElem?_eq_some_iff.1 hDk).1
  clear hov hown hno hDk
  gi_wp2_with fail
  refine ⟨by simp, .inl ⟨_, _, rfl, run_takeDeferred HDK.out, ?_⟩⟩
  refine ⟨.tuple #[.slice oa on oc, .int .i64 0], by simp [results, Try.results27, go_sem], ?_, _, by rw [H0.out], ?_⟩
  ·have h1 := HE1.out.trans' g3
   have hk := (((Kept.of_below h1 : Kept (fun k => k < w.heap.size) w W)).putObj (r := D) (.deferred none) (fun h2 h3 => by have := h1.size; have := g3.size; have := HE1.out.size; omega))
   exact hk.below (Nat.le_refl _)
  ·have e : winL b (finsOf ps) = winsP b (finsOf ps) := by unfold winL; rw [if_pos H0.out]
   rw [e]
   exact (HOWN.out.putOther HDK.out _).isRows
theorem winnersP_any (ps : List (Value × List Int)) (fv : Value) (b : Bk) (ba sa : Option Addr) (bcap scap : Nat) (w : World) (hv : IsBook w b ba bcap sa scap) (hf : IsFin w fv ps) :
  Calls Try.prog 27 #[.agg #[.int .i64 b.kd, .int .i64 b.n, .slice ba b.bets.length bcap, .slice sa b.scr.length scap, .bool b.fav, .int .i64 b.car, .int .i64 b.duty, .int .i64 b.step], fv] w (RetWin w b (finsOf ps)) :=
 callsIn_wide.1 (winners_in ps fv b ba sa bcap scap w hv hf)
end Go.Proofs.Ytphajlldghcnnaa
namespace Go.Proofs.Ytphajlldghcnnaa
open Go.RowKit Go.Shelf
/-- the marks that ranges over functions have left, in blocks from B on -/
def Marks (B : Nat) : List Deferred → World → Prop
 | [], _ => True
 | d :: ds, W => (∃ D, d.target = .collected D ∧ B ≤ D ∧ W.heap[D]? = some (.deferred (some [])) ∧ ∀ d' ∈ ds, d'.target ≠ .collected D) ∧ Marks B ds W
theorem Marks.kept {B : Nat} {S : Nat → Prop} {W W' : World} (k : Kept S W W') (hs : ∀ D, B ≤ D → W.heap[D]? = some (.deferred (some [])) → S D) : ∀ {ds : List Deferred}, Marks B ds W → Marks B ds W'
 | [], _ => trivial
 | _ :: _, ⟨⟨D, h1, h2, h3, h4⟩, h⟩ => ⟨⟨D, h1, h2, (k.same D (Array.getElem?_eq_some_iff.1 h3).1 (hs D h2 h3)).trans h3, h4⟩, Marks.kept k hs h⟩
theorem Marks.lt {B : Nat} {W : World} : ∀ {ds : List Deferred}, Marks B ds W → ∀ d ∈ ds, ∀ D, d.target = .collected D → B ≤ D ∧ W.heap[D]? = some (.deferred (some []))
 | _ :: _, ⟨⟨D, h1, h2, h3, _⟩, h⟩, d, hd, D', e => by
  rcases List.mem_cons.1 hd with rfl | hd
  ·rw [h1] at e; cases e; exact ⟨h2, h3⟩
  ·exact Marks.lt h d hd D' e
theorem Marks.add {B D : Nat} {W : World} {ds : List Deferred} (h : Marks B ds W) (hB : B ≤ D) (hD : W.heap[D]? = some (.deferred (some []))) (hn : ∀ d ∈ ds, d.target ≠ .collected D) : Marks B ({ target := .collected D, args := #[] } :: ds) W :=
 ⟨⟨D, rfl, hB, hD, hn⟩, h⟩
theorem leaves_marks {F : Fence} {n : Nat} {P : Program} {fn : Func} {tmps : Array Value} {R : Ending → World → Prop} {B : Nat} : ∀ (ds : List Deferred) (W : World), Marks B ds W →
  (∀ W', Kept (fun k => ∀ d ∈ ds, d.target ≠ .collected k) W W' → LeavesInM F n P fn tmps R [] .returning W') → LeavesInM F n P fn tmps R ds .returning W
 | [], W, _, h => h W (Kept.refl _ _)
 | d :: ds, W, ⟨⟨D, h1, h2, h3, h4⟩, hm⟩, h => by
  refine ⟨by simp, .inl ⟨D, _, h1, run_takeDeferred h3, ?_⟩⟩
  have hput : ∀ o, Kept (fun k => k ≠ D) W (W.putObj D o) := fun o => (Kept.refl _ W).putObj o (fun _ h => h rfl)
  refine leaves_marks (B := B) ds _ ?_ fun W' hk => h W' ((hput _).mono (fun k _ hk e => hk d (by simp) (by rw [h1, e])) |>.trans (hk.mono fun k _ hk d' hd' => hk d' (by simp [hd'])))
  have : ∀ {ds : List Deferred} {W : World}, (∀ d' ∈ ds, d'.target ≠ .collected D) → Marks B ds W → ∀ o, Marks B ds (W.putObj D o) := by
   intro ds
   induction ds with
   | nil => intro W _ _ _; trivial
   | cons d' ds ih =>
    intro W hne hm o
    obtain ⟨⟨D', a1, a2, a3, a4⟩, hm⟩ := hm
    refine ⟨⟨D', a1, a2, (World.putObj_heap_other fun e => hne d' (by simp) (by rw [a1, e])).trans a3, a4⟩, ih (fun x hx => hne x (by simp [hx])) hm o⟩
  exact this h4 hm _
end Go.Proofs.Ytphajlldghcnnaa
namespace Go.Proofs.Ytphajlldghcnnaa
open Go.RowKit Go.Shelf
attribute [local go_sem] Oper.semAt_some
theorem elDvd : El 44 73 3 := El.mk' (bytes := 24) (z := .agg #[.int .i64 0, .int .i64 0, .int .i64 0]) (by kernel_rfl) (by kernel_rfl) rfl (by omega) (by omega)
theorem MapIs.del' {K V : Type} [DecidableEq K] {P : Program} {tm tk tv : TypeId} {ke : K → Value} {ve : V → Value} (hk : Keyed P tm tk tv ke ve) {W : World} {r : Nat} {F : K → Option V} (h : MapIs ke ve W r F) (k : K) (ty : TypeId) :
  ∃ W', (Builtin.delete_ #[tm, tk] ty #[.map (some r), ke k]).run P W = .ok (.tuple #[]) W' ∧ W.grownBy W' (some r) ∧ W'.heap.size = W.heap.size ∧ MapIs ke ve W' r (fun k' => if k' = k then none else F k') := by
 obtain ⟨es, c, h1, h2, h3, h4⟩ := h
 obtain ⟨W', r1, r2, r3, r4, r5, r6⟩ := MapIs.del hk h1 h2 h3 k ty
 exact ⟨W', r1, r2, r3, _, _, r4, r5, r6, fun k' => by rw [getE_del, h4]⟩
theorem MapIs.len {P : Program} {tm tk tv : TypeId} {ke : Spt → Value} {ve : Int → Value} (hk : Keyed P tm tk tv ke ve) {W : World} {r : Nat} {F : Spt → Option Int} (h : MapIs ke ve W r F) {l : List Spt} (hl : l.Nodup) (hm : ∀ k, F k ≠ none ↔ k ∈ l) (ty : TypeId) :
  (Builtin.len_ #[tm] ty #[.map (some r)]).run P W = .ok (.int .i64 (l.length : Int)) W := by
 obtain ⟨es, c, h1, h2, h3, h4⟩ := h
 have e := once_len h2 hl fun k => by rw [h4]; exact hm k
 have h1' : W.heap[r]? = some (.map (es.map (encE ke ve)).toArray c) := h1
 have hs : (es.map (encE ke ve)).toArray.size = l.length := by simpa using e
 simp [Builtin.len_, run_underlying hk.und, run_getObj_map W r _ c h1', hs, goInt]
theorem backF_mem {b : Bk} {fs : List (List Int)} (k : Spt) : backF b (winsP b fs) k ≠ none ↔ k ∈ backedL b fs := by
 unfold backF backedL
 rw [List.mem_filter]
 by_cases h : k ∈ winsP b fs ∧ unitsP b k ≠ 0
 ·rw [if_pos h]; simp [h.1, h.2]
 ·rw [if_neg h]; simp only [ne_eq, not_true, false_iff]; intro h2; exact h ⟨h2.1, by simpa using h2.2⟩
/-- the dividends of the winners so far -/
def divsTo (b : Bk) (fs : List (List Int)) (pre : List Spt) : List (List Value) := ((pre.filter fun s => decide (unitsP b s ≠ 0)).map fun s => (s, penceP b fs s)).map divRow
set_option maxRecDepth 100000 in
set_option maxHeartbeats 8000000 in
theorem dividends_in (p m : Nat) (b : Bk) (ba sa fa : Option Addr) (bcap scap fcap : Nat) (ps : List (Value × List Int)) (w : World) (ht : IsTill w p m b ba bcap sa scap) (hf : IsFin w (.slice fa ps.length fcap) ps) (hfv : FinV b (finsOf ps)) :
  CallsIn Fence.wide 9 Try.prog 70 #[.pointer (some ⟨p, 0, none⟩), .slice fa ps.length fcap] w fun e w' => ∃ v, e = .returned v ∧ Ext w w' ∧ IsRows w' 3 v ((divP b (finsOf ps)).map divRow) ∧ ∀ g, v.ownBlock = some g → w.heap.size ≤ g := by
 have hmm := @run_makeMap Try.prog
 have HT := Lib.hid ht
 have HF := Lib.hid hf
 have FV := Lib.hid hfv
 have hzp := ht.till.lt
 have hzm := ht.map.lt
 clear ht hf hfv
 refine callsIn_of_wp_marks Try.func70 rfl trivial ?_ rfl
 simp only [Try.ntmps70, List.size_toArray, List.length_cons, List.length_nil, Nat.reduceAdd, Nat.reduceSub, Array.replicate_succ, Array.replicate_zero, List.push_toArray, List.append_toArray, List.nil_append, List.cons_append]
 gi_wp2_with fail
 refine ⟨trivial, (callsIn_wide.2 (winners_any p fa ps.length fcap _)).mono ?_⟩
 rintro e W5 ⟨rfl, hE5, c5t, c5f, hz5⟩
 simp only [World.size_alloc] at c5t c5f hz5
 have hEw : Ext w W5 := Ext.trans' (by exact xx) hE5
 have hm5 : MapIs skey ival W5 (w.heap.size + 1) (backF b []) := by
  rw [backF_nil]
  have hm := mapIs_new (ke := skey) (ve := ival) (w.alloc (.cells #[.pointer (some ⟨p, 0, none⟩)] 89))
  rw [World.size_alloc] at hm
  exact hm.ext (Ext.trans' (by exact xx) hE5)
 have x2 : W5.cell? ⟨w.heap.size, 0, none⟩ = some (.pointer (some ⟨p, 0, none⟩)) := cell_ext hE5 (by simp [go_sem])
 have x5 : W5.cell? ⟨w.heap.size + 1 + 1, 0, none⟩ = some (.map (some (w.heap.size + 1))) := cell_ext hE5 (by simp [go_sem])
 have HEW := Lib.hid hEw
 have HM5 := Lib.hid hm5
 clear hE5 hEw hm5 hmm
 gi_wp2_with fail
 refine rangeOver (n := 9) (R := fun k => k < W5.heap.size ∧ k ≠ w.heap.size + 1) rfl (enters_of Try.func94 (by kernel_rfl) rfl)
  (winners_iter b ba sa fa bcap scap fcap (w.heap.size + 3) (w.heap.size + 3 + 1) p ps (fun k => k < W5.heap.size ∧ k ≠ w.heap.size + 1) W5 (fun k hk => hk.1)
   (fun W hk => winM_of HT.out HF.out (HEW.out.trans (Kept.below (hk.mono (T := fun k => k < w.heap.size) fun k hk1 hk2 => ⟨hk1, by omega⟩) HEW.out.size)) c5t c5f hk ⟨by omega, by omega⟩ ⟨by omega, by omega⟩) FV.out.ok)
  (Below.refl _ _) (fun k hk => hk.1) (fun _ => rfl)
  (fun O pre W => (∀ k, O k → W5.heap.size ≤ k) ∧ W5.heap.size ≤ W.heap.size ∧ Kept (fun k => k < W5.heap.size ∧ k ≠ w.heap.size + 1) W5 W ∧ MapIs skey ival W (w.heap.size + 1) (backF b pre))
  (fun _ _ _ _ => False) ?bears (fun _ _ _ _ _ _ h _ _ _ => h) ⟨fun _ h => h.elim, Nat.le_refl _, Kept.refl _ _, HM5.out⟩ ?round ?done (fun _ _ _ _ _ _ _ h _ => h.elim)
 case bears =>
  rintro pre O O' A B ⟨g1, g2, g3, g4⟩ hk hO1 hO2
  have hlow : Kept (fun k => k < W5.heap.size) A B := hk.mono fun k _ hk => ⟨fun ho => by have := g1 k ho; omega, by omega⟩
  refine ⟨fun k hk => ?_, by have := hk.size; omega, g3.trans (hlow.mono fun k _ h => h.1), g4.of_heap (hlow.same _ g4.lt (by omega))⟩
  rcases hO2 k hk with h | h
  ·exact g1 k h
  ·omega
 case round =>
  rintro l O pre y W ⟨g1, g2, g3, g4⟩ hy hO2 hW2
  simp only [skey]
  gi_wp2_with fail
  refine ⟨xx, fun W2 hk2 => ?_⟩
  have hE2 : Ext W (W.alloc (.cells #[.int .i64 y.1, .int .i64 y.2] 110)) := xx
  have y0 := hk2.cell (p := ⟨W.heap.size, 0, none⟩) (v := .int .i64 y.1) (by simp [go_sem]) (by simp; omega)
  have y1 := hk2.cell (p := ⟨W.heap.size, 1, none⟩) (v := .int .i64 y.2) (by simp [go_sem]) (by simp; omega)
  have hz2 := hk2.size
  simp only [World.size_alloc] at hz2
  have g32 : Kept (fun k => k < W5.heap.size ∧ k ≠ w.heap.size + 1) W5 W2 := (g3.trans (Kept.of_below hE2)).trans (hk2.mono fun k _ h => by omega)
  have g42 : MapIs skey ival W2 (w.heap.size + 1) (backF b pre) := (g4.ext hE2).of_heap (hk2.same _ (by simp; have := g4.lt; omega) (by omega))
  have hEw2 : Ext w W2 := HEW.out.trans (Kept.below (g32.mono (T := fun k => k < w.heap.size) fun k hk1 hk2 => ⟨hk1, by omega⟩) HEW.out.size)
  have q2 := g32.cell x2 ⟨by simp only; omega, by simp only; omega⟩
  have q5 := g32.cell x5 ⟨by simp only; omega, by simp only; omega⟩
  have ht2 := (HT.out.ext hEw2)
  have q9 := ht2.till.c9
  have hlk : ∀ n, (Instr.lookup 95 (.map (some m)) (.agg #[.int .i64 y.1, .int .i64 y.2]) false).run Try.prog (W2.drewN n) = .ok (.int .i64 (unitsP b y)) (W2.drewN n) :=
   fun n => units_look (ht2.map.of_heap (W' := W2.drewN n) rfl) y
  obtain ⟨u, hu⟩ : ∃ u, u = unitsP b y := ⟨_, rfl⟩
  rw [← hu] at hlk
  have HU := Lib.hid hu
  have HO := Lib.hid hO2
  have HM2 := Lib.hid g42
  have HK5 := Lib.hid g32
  clear hu hO2 g42 g32 g3 g4 hk2 hE2 hEw2 ht2 hy
  gi_wp2_with fail
  refine tailR rfl rfl (by kernel_rfl) (by kernel_rfl) (by kernel_rfl) ?_
  dsimp only [List.dropLast]
  repeat (first | go_big_quiet_step (fail) | quiet_step (fail))
  refine wpQuiet_nil ?_
  rintro _ ⟨nq, rfl⟩
  obtain ⟨W4, hup, hg4, hz4, hm4⟩ := (HM2.out.of_heap (W' := W2.drewN nq) rfl).upd spot_keyed y u
  simp only [skey, ival] at hup
  have hkG : ∀ (S : Nat → Prop), ¬ S (w.heap.size + 1) → Kept S W2 W4 := fun S h => (Kept.of_below (Ext.drN (Below.refl _ W2) nq)).grown hg4 (fun k e _ hk => by cases e; exact h hk)
  have y04 := (hkG (fun k => k ≠ w.heap.size + 1) (fun h => h rfl)).cell y0 (by simp only; omega)
  have y14 := (hkG (fun k => k ≠ w.heap.size + 1) (fun h => h rfl)).cell y1 (by simp only; omega)
  have q54 := (hkG (fun k => k ≠ w.heap.size + 1) (fun h => h rfl)).cell q5 (by simp only; omega)
  have hlk4 : (Instr.lookup 95 (.map (some (w.heap.size + 1))) (.agg #[.int .i64 y.1, .int .i64 y.2]) false).run Try.prog W4 = .ok (.int .i64 u) W4 := hm4.look spot_keyed y (by rw [if_pos rfl])
  have hz24 := (hkG (fun _ => False) (fun h => h)).size
  have HKG := Lib.hid hkG
  have HG4 := Lib.hid hg4
  have HM4 := Lib.hid hm4
  clear hkG hg4 hm4 hlk y0 y1 q2 q5 q9
  have hR : ∀ (W6 : World), (∀ (S : Nat → Prop), ¬ S (w.heap.size + 1) → Kept S W2 W6) → Kept (fun k => (k < W5.heap.size ∧ k ≠ w.heap.size + 1) ∨ O k ∨ k = W5.heap.size + 1 ∨ k + 1 = W5.heap.size + 1) W2 W6 ∧ Kept (fun k => k < W5.heap.size ∧ k ≠ w.heap.size + 1) W5 W6 := fun W6 hk =>
   ⟨hk _ fun h => by
    rcases h with h | h | h | h
    ·exact h.2 rfl
    ·have := g1 _ h; omega
    ·omega
    ·omega, HK5.out.trans (hk _ fun h => h.2 rfl)⟩
  have HR := Lib.hid hR
  clear hR
  by_cases h0 : u = 0
  ·subst h0
   obtain ⟨W6, hdel, hg6, hz6, hm6⟩ := MapIs.del' spot_keyed HM4.out y 0
   simp only [skey] at hdel
   have hk6 : ∀ (S : Nat → Prop), ¬ S (w.heap.size + 1) → Kept S W2 W6 := fun S h => (HKG.out S h).grown hg6 (fun k e _ hk => by cases e; exact h hk)
   have hz46 := (hk6 (fun _ => False) (fun h => h)).size
   have HK6 := Lib.hid hk6
   have HM6 := Lib.hid hm6
   have HU0 := Lib.hid HU.out.symm
   clear hg6 hm6 hk6
   gi_wp2_with fail
   obtain ⟨r1, r2⟩ := HR.out _ HK6.out
   refine ⟨r1, g1, by omega, r2, ?_⟩
   have e := backF_off (b := b) (pre := pre) HU0.out
   rw [← e]
   have := HM6.out
   rw [HU.out] at this
   exact this
  ·have hu0 : (u == 0) = false := by simpa using h0
   have HU0 := Lib.hid (fun h => h0 (HU.out.trans h) : unitsP b y ≠ 0)
   clear h0
   gi_wp2_with fail
   obtain ⟨r1, r2⟩ := HR.out _ HKG.out
   refine ⟨r1, g1, by omega, r2, ?_⟩
   have e := backF_on (b := b) (pre := pre) HU0.out
   rw [← e]
   have := HM4.out
   rw [HU.out] at this
   exact this
 case done =>
  rintro D O xs V0 hD rfl ⟨g1, g2, g3, g4⟩ hDk
  have hEW : Ext w V0 := HEW.out.trans (Kept.below (g3.mono (T := fun k => k < w.heap.size) fun k hk1 hk2 => ⟨hk1, by omega⟩) HEW.out.size)
  have q2 := g3.cell x2 ⟨by simp only; omega, by simp only; omega⟩
  have q5 := g3.cell x5 ⟨by simp only; omega, by simp only; omega⟩
  have HEV := Lib.hid hEW
  have HMV := Lib.hid g4
  have HDK := Lib.hid hDk
  have hDlt := (Array.getElem?_eq_some_iff.1 hDk).1
  have hzw0 : w.heap.size < V0.heap.size := by omega
  have hzw2 : w.heap.size + 1 + 1 < V0.heap.size := by omega
  clear g3 g4 hDk hEW x2 x5 c5t c5f HM5 HEW
  gi_wp2_with fail
  refine ⟨trivial, (callsIn_wide.2 (winners_any p fa ps.length fcap _)).mono ?_⟩
  rintro e W6 ⟨rfl, hE6, c6t, c6f, hz6⟩
  simp only [World.size_alloc] at c6t c6f hz6
  have hE : Ext V0 W6 := Ext.trans' (by exact xx) hE6
  have hO6 : W6.heap[V0.heap.size]? = some (.cells #[.slice none 0 0] 44 (0, 0)) := (hE6.block _ (by simp)).trans (World.alloc_heap_new V0 _)
  have HO6 := Lib.hid hO6
  have HE6 := Lib.hid hE
  clear hE6 hO6 hE
  gi_wp2_with fail
  refine rangeOver (n := 9) (R := fun k => k < W6.heap.size ∧ k ≠ V0.heap.size) rfl (enters_of Try.func94 (by kernel_rfl) rfl)
   (winners_iter b ba sa fa bcap scap fcap (V0.heap.size + 1) (V0.heap.size + 1 + 1) p ps (fun k => k < W6.heap.size ∧ k ≠ V0.heap.size) W6 (fun k hk => hk.1)
    (fun W' hk => winM_of HT.out HF.out (HEV.out.trans ((Kept.below (B := w.heap.size) ((Kept.of_below HE6.out).mono (T := fun k => k < w.heap.size) fun k _ _ => trivial) HEV.out.size).trans
     (Kept.below (B := w.heap.size) (hk.mono (T := fun k => k < w.heap.size) fun k hk1 hk2 => ⟨hk1, by have := HEV.out.size; omega⟩) (by have := HEV.out.size; have := HE6.out.size; omega)))) c6t c6f hk ⟨by omega, by simp⟩ ⟨by omega, by simp; omega⟩) FV.out.ok)
   (Below.refl _ _) (fun k hk => hk.1) (fun _ => rfl)
   (fun O pre W' => (∀ k, O k → W6.heap.size ≤ k) ∧ W6.heap.size ≤ W'.heap.size ∧ Ext V0 W' ∧ Gath 44 73 3 V0.heap.size (W6.heap.size + 2) (divsTo b (finsOf ps) pre) O W')
   (fun _ _ _ _ => False) ?bears2 (fun _ _ _ _ _ _ h _ _ _ => h) ⟨fun _ h => h.elim, Nat.le_refl _, HE6.out, ⟨_, HO6.out, Owns.nil _ _ _ _, fun g hg => (by cases hg)⟩⟩ ?round2 ?done2 (fun _ _ _ _ _ _ _ h _ => h.elim)
  case bears2 =>
   rintro pre O O' A B ⟨g1, g2, g3, g4⟩ hk hO1 hO2
   have hlow : Kept (fun k => k < W6.heap.size) A B := hk.mono fun k _ hk => ⟨fun ho => by have := g1 k ho; omega, by omega⟩
   refine ⟨fun k hk => ?_, by have := hk.size; omega, g3.trans (Kept.below (hlow.mono fun k _ h => by have := HE6.out.size; omega) g3.size), g4.kept hk ⟨fun ho => by have := g1 _ ho; omega, by omega⟩ (fun g h1 h2 => ⟨h2, by omega⟩) (fun g h => (hO2 g h).imp id fun h => h.1)⟩
   rcases hO2 k hk with h | h
   ·exact g1 k h
   ·omega
  case round2 =>
   rintro l O pre y X ⟨g1, g2, g3, g4⟩ hy hO2 hX2
   simp only [skey]
   gi_wp2_with fail
   refine ⟨xx, fun X2 hk2 => ?_⟩
   have hE2 : Ext X (X.alloc (.cells #[.int .i64 y.1, .int .i64 y.2] 110)) := xx
   have y0 := hk2.cell (p := ⟨X.heap.size, 0, none⟩) (v := .int .i64 y.1) (by simp [go_sem]) (by simp; omega)
   have y1 := hk2.cell (p := ⟨X.heap.size, 1, none⟩) (v := .int .i64 y.2) (by simp [go_sem]) (by simp; omega)
   have g32 : Ext V0 X2 := (g3.trans' hE2).trans (Kept.below (hk2.mono fun k _ h => by have := HE6.out.size; omega) (by have := g3.size; simp; omega))
   have g42 : Gath 44 73 3 V0.heap.size (W6.heap.size + 2) (divsTo b (finsOf ps) pre) O X2 :=
    (g4.kept (O' := O) (.of_below hE2) (S := fun _ => True) trivial (fun _ _ _ => trivial) (fun _ h => .inl h)).kept hk2 (by omega) (fun g h1 _ => by omega) (fun _ h => .inl h)
   have hz2 := hk2.size
   simp only [World.size_alloc] at hz2
   have q2' := cell_ext g32 q2
   have q5' := cell_ext g32 q5
   have hEw2 : Ext w X2 := HEV.out.trans' g32
   have hm2 := HMV.out.ext g32
   have hsz := HEV.out.size
   have hszW := HE6.out.size
   obtain ⟨u, hu⟩ : ∃ u, u = unitsP b y := ⟨_, rfl⟩
   have HU := Lib.hid hu
   have HG := Lib.hid g42
   have HG3 := Lib.hid g32
   have HOO := Lib.hid hO2
   by_cases h0 : u = 0
   ·have hlk : (Instr.lookup 95 (.map (some (w.heap.size + 1))) (.agg #[.int .i64 y.1, .int .i64 y.2]) true).run Try.prog X2 = .ok (.tuple #[.int .i64 0, .bool false]) X2 :=
     hm2.look_none spot_keyed y (by unfold backF; rw [if_neg (fun h => h.2 (by rw [← hu]; exact h0))]) zero64
    have hds : divsTo b (finsOf ps) (pre ++ [y]) = divsTo b (finsOf ps) pre := by unfold divsTo; rw [List.filter_append]; simp [← hu, h0]
    have HDS := Lib.hid hds
    clear hu h0 hds g42 g32 hk2 hm2 hEw2 g3 g4 hO2 hE2
    gi_wp2_with fail
    exact ⟨Kept.refl _ _, g1, by omega, HG3.out, by rw [HDS.out]; exact HG.out⟩
   ·have hlk : (Instr.lookup 95 (.map (some (w.heap.size + 1))) (.agg #[.int .i64 y.1, .int .i64 y.2]) true).run Try.prog X2 = .ok (.tuple #[.int .i64 u, .bool true]) X2 :=
     hm2.look_ok spot_keyed y (by
      unfold backF
      have hyw : y ∈ winsP b (finsOf ps) := by obtain ⟨r, hr⟩ := hy; rw [hr]; simp
      rw [if_pos ⟨hyw, by rw [← hu]; exact h0⟩, ← hu])
    have hds : divsTo b (finsOf ps) (pre ++ [y]) = divsTo b (finsOf ps) pre ++ [divRow (y, penceP b (finsOf ps) y)] := by unfold divsTo; rw [List.filter_append]; simp [← hu, h0]
    have hyb : y ∈ backedL b (finsOf ps) := by
     obtain ⟨r, hr⟩ := hy
     unfold backedL
     rw [List.mem_filter]
     exact ⟨by rw [hr]; simp, by rw [← hu]; simpa using h0⟩
    obtain ⟨c, hc⟩ : ∃ c : Int, c = ((backedL b (finsOf ps)).length : Int) := ⟨_, rfl⟩
    have hc1 : 1 ≤ c := by have := List.length_pos_of_mem hyb; omega
    have hln := fun n => MapIs.len spot_keyed (hm2.of_heap (W' := X2.drewN n) rfl) ((wins_nodup FV.out).filter _) (backF_mem (b := b) (fs := finsOf ps)) 3
    rw [show (((winsP b (finsOf ps)).filter fun s => decide (unitsP b s ≠ 0)).length : Int) = c from hc.symm] at hln
    have hnet := (net_bd FV.out.book).2.2.2.1
    have hin := (net_bd FV.out.book).1
    have hcar := FV.out.book.car
    have ht2 := HT.out.ext hEw2
    have q15 := ht2.till.c15
    obtain ⟨N, hN⟩ : ∃ N, N = netP b := ⟨_, rfl⟩
    rw [← hN] at q15 hnet
    have hN0 : 0 ≤ N := by omega
    have hN1 : N ≤ 11000000 := by omega
    have hc0 : ¬ c = 0 := by omega
    have HC := Lib.hid hc
    have HN := Lib.hid hN
    have HDS := Lib.hid hds
    have HT2 := Lib.hid ht2
    have HU0 := Lib.hid h0
    have HEW2 := Lib.hid hEw2
    clear hu h0 hds g42 g32 hk2 hm2 hEw2 g3 g4 hO2 hE2 hyb hnet hin hcar ht2 hc hN
    gi_wp2_with fail
    refine quietR (by kernel_rfl) (by kernel_rfl) ?_
    repeat (first | go_big_quiet_step (fail) | quiet_step (fail))
    refine wpQuiet_nil ?_
    rintro _ ⟨nq, rfl⟩
    obtain ⟨S, hS⟩ : ∃ S, S = N / c := ⟨_, rfl⟩
    rw [← hS]
    have hS0 : 0 ≤ S := by rw [hS]; exact Int.ediv_nonneg hN0 (by omega)
    have hS1 : S ≤ 11000000 := by rw [hS]; exact Int.le_trans (Int.ediv_le_self _ hN0) hN1
    have HSS : Hid (S = shareP b (finsOf ps)) := Lib.hid (by unfold shareP; rw [hS, HN.out, HC.out])
    obtain ⟨Z, hZ⟩ : ∃ Z, Z = X2.drewN nq := ⟨_, rfl⟩
    have hEZ : Ext X2 Z := by rw [hZ]; exact Ext.drN (Below.refl _ _) nq
    have ht3 := HT2.out.ext hEZ
    have c7 := ht3.till.c7
    have hzpZ := ht3.till.lt
    have q2z := cell_ext hEZ q2'
    have y0z := cell_ext hEZ y0
    have y1z := cell_ext hEZ y1
    have hzZ := hEZ.size
    have hgz := HG.out.kept (O' := O) (.of_below hEZ) (S := fun _ => True) trivial (fun _ _ _ => trivial) (fun _ h => .inl h)
    obtain ⟨ov, hov, hown, hno⟩ := hgz
    obtain ⟨oa, on, oc, rfl⟩ := hown.isSlice
    have ho0 : Z.cell? ⟨V0.heap.size, 0, none⟩ = some (.slice oa on oc) := by rw [cell_of_row _ _ _ _ _ _ hov]; rfl
    have hzo := (Array.getElem?_eq_some_iff.1 hov).1
    have hu1 : 1 ≤ u ∧ u ≤ 100000 := by
     have := units_bd' FV.out.book y
     have h1 := HU.out
     have h2 := HU0.out
     omega
    have hst := FV.out.book.step
    obtain ⟨st, hst'⟩ : ∃ st, st = b.step := ⟨_, rfl⟩
    rw [← hst'] at hst c7
    obtain ⟨M, hM⟩ : ∃ M, M = u * st := ⟨_, rfl⟩
    have hM1 : 1 ≤ M := by rw [hM]; exact Int.mul_pos (by omega) (by omega)
    have hM2 : M ≤ 100000 * 100 := by rw [hM]; exact Int.mul_le_mul hu1.2 hst.2 (by omega) (by omega)
    obtain ⟨Q, hQ⟩ : ∃ Q, Q = S / M := ⟨_, rfl⟩
    have hQ0 : 0 ≤ Q := by rw [hQ]; exact Int.ediv_nonneg hS0 (by omega)
    have hQ1 : Q ≤ 11000000 := by rw [hQ]; exact Int.le_trans (Int.ediv_le_self _ hS0) hS1
    obtain ⟨P, hP⟩ : ∃ P, P = Q * st := ⟨_, rfl⟩
    have hP0 : 0 ≤ P := by rw [hP]; exact Int.mul_nonneg hQ0 (by omega)
    have hP1 : P ≤ 11000000 * 100 := by rw [hP]; exact Int.mul_le_mul hQ1 hst.2 (by omega) (by omega)
    have HPP : Hid (P = penceP b (finsOf ps) y) := Lib.hid (by unfold penceP; rw [hP, hQ, hM, hst', HU.out, HSS.out])
    have hwM : IntKind.i64.wrap (u * st) = M := by rw [← hM]; exact IntWalk.i64_in _ (by omega)
    have hwQ : IntKind.i64.wrap (S.tdiv M) = Q := by rw [hQ]; exact IntWalk.i64_quo S M ⟨hS0, by omega, hM1⟩
    have hwP : IntKind.i64.wrap (Q * st) = P := by rw [← hP]; exact IntWalk.i64_in _ (by omega)
    have hM0 : ¬ M = 0 := by omega
    have HEZ := Lib.hid hEZ
    have HOV := Lib.hid hov
    have HOWN := Lib.hid hown
    have HNO := Lib.hid hno
    have HLL : Hid ((divsTo b (finsOf ps) pre).length + 1 ≤ 1000000) := by
     refine Lib.hid ?_
     obtain ⟨rest, hr⟩ := hy
     have h1 := winsP_le FV.out
     rw [hr] at h1
     have h2 := List.length_filter_le (fun s => decide (unitsP b s ≠ 0)) pre
     unfold divsTo
     rw [List.length_map, List.length_map]
     rw [List.length_append] at h1
     omega
    rw [← hZ]
    clear hZ hEZ ht3 hov hown hno hQ hM hP hS hlk hln q15 q2' q5' y0 y1 hst' HG HN HC hy
    gi_wp2_with fail
    refine wpIn_region_rove_tail rfl rfl (by kernel_rfl) (W6.heap.size + 2) (by omega)
     [sqV (.slice oa on oc), sqV (.pointer (some ⟨X.heap.size, 0, none⟩)), sqV (.int .i64 y.1), sqV (.pointer (some ⟨X.heap.size, 1, none⟩)), sqV (.int .i64 y.2), sqV (.int .i64 S), sqV (.int .i64 u), sqV (.pointer (some ⟨p, 0, none⟩)), sqV (.pointer (some ⟨p, 0, none⟩)), sqV (.pointer (some ⟨p, 0, none⟩)), sqV (.pointer (some ⟨p, 7, none⟩)), sqV (.int .i64 st), sqV (.int .i64 M), sqV (.int .i64 Q), sqV (.pointer (some ⟨p, 0, none⟩)), sqV (.pointer (some ⟨p, 0, none⟩)), sqV (.pointer (some ⟨p, 0, none⟩)), sqV (.pointer (some ⟨p, 7, none⟩)), sqV (.int .i64 st), sqV (.int .i64 P), sqV (.agg #[.int .i64 y.1, .int .i64 y.2, .int .i64 P]), sqW (fun v W => ∃ b, v = .slice (some ⟨b, 0, none⟩) 1 1 ∧ RowsAt W 3 b 0 ([[Value.int .i64 y.1, Value.int .i64 y.2, Value.int .i64 P]])) (fun _ _ _ ⟨b, h1, h2⟩ e => ⟨b, h1, h2.ext e⟩), sqW (fun v W => Owns W (W6.heap.size + 2) 73 3 v (divsTo b (finsOf ps) pre ++ [[.int .i64 y.1, .int .i64 y.2, .int .i64 P]]) ∧ Kept (fun k => some k ≠ (Value.slice oa on oc).ownBlock) Z W ∧ ∀ g, v.ownBlock = some g → (Value.slice oa on oc).ownBlock = some g ∨ Z.heap.size ≤ g) (fun _ _ _ ⟨h1, h2, h3⟩ e => ⟨h1.ext e, h2.trans (.of_below e), h3⟩)]
     [true, true, true, true, true, true, true, true, true, true, true, true, true, true, true, true, true, true, true, true, true, false, false] [false, false, false, false, false, false, false, false, false, false, false, false, false, false, false, false, false, false, false, false, false, false, true] [true, true, true, true, true, true, true, true, true, true, true, true, true, true, true, true, true, true, true, true, true, false, true] [true, true, true, true, true, true, true, true, true, true, true, true, true, true, true, true, true, true, true, true, true, true, true]
     (by kernel_rfl) (by kernel_rfl) (by decide +kernel) (by decide +kernel) (by decide +kernel) rfl ⟨rfl, rfl⟩ ⟨?s0, ?s1, ?s2, ?s3, ?s4, ?s5, ?s6, ?s7, ?s8, ?s9, ?s10, ?s11, ?s12, ?s13, ?s14, ?s15, ?s16, ?s17, ?s18, ?s19, ?s20, ?s21, ?s22, trivial⟩ [some 51, some 52, some 53, some 54, some 55, some 56, some 57, some 58, some 59, some 60, some 61, some 62, some 63, some 64, some 65, some 66, some 67, some 68, some 69, some 70, some 71, some 72, some 73] rfl rfl ?send
    case s0 =>
     intro val ρ W hE hz hd hA hx
     have o0 : ρ (.tmp 7) = .pointer (some ⟨V0.heap.size, 0, none⟩) := hA.old 7 (by decide)
     have f_ho0 := cell_below hE (by simp only; omega) ho0
     clear hd
     exact runq_val (W' := W) (by simp [execOp, o0, f_ho0, go_sem]) (Below.refl _ _) rfl
    case s1 =>
     intro val ρ W hE hz hd hA hx
     have o0 : ρ (.tmp 8) = .pointer (some ⟨X.heap.size, 0, none⟩) := hA.old 8 (by decide)
     clear hd
     exact runq_val (W' := W) (by simp [execOp, o0, go_sem]) (Below.refl _ _) rfl
    case s2 =>
     intro val ρ W hE hz hd hA hx
     have d1 : ρ (.tmp 52) = .pointer (some ⟨X.heap.size, 0, none⟩) := (hA.dep 1 (by decide) 52 rfl).trans (hd 1 (by decide))
     have f_y0z := cell_ext (hx (by decide)) y0z
     clear hd
     exact runq_val (W' := W) (by simp [execOp, d1, f_y0z, go_sem]) (Below.refl _ _) rfl
    case s3 =>
     intro val ρ W hE hz hd hA hx
     have o0 : ρ (.tmp 8) = .pointer (some ⟨X.heap.size, 0, none⟩) := hA.old 8 (by decide)
     clear hd
     exact runq_val (W' := W) (by simp [execOp, o0, go_sem]) (Below.refl _ _) rfl
    case s4 =>
     intro val ρ W hE hz hd hA hx
     have d3 : ρ (.tmp 54) = .pointer (some ⟨X.heap.size, 1, none⟩) := (hA.dep 3 (by decide) 54 rfl).trans (hd 3 (by decide))
     have f_y1z := cell_ext (hx (by decide)) y1z
     clear hd
     exact runq_val (W' := W) (by simp [execOp, d3, f_y1z, go_sem]) (Below.refl _ _) rfl
    case s5 =>
     intro val ρ W hE hz hd hA hx
     have o0 : ρ (.tmp 11) = .int .i64 S := hA.old 11 (by decide)
     clear hd
     exact runq_val (W' := W) (by simp [execOp, o0, go_sem]) (Below.refl _ _) rfl
    case s6 =>
     intro val ρ W hE hz hd hA hx
     have o0 : ρ (.tmp 9) = .int .i64 u := hA.old 9 (by decide)
     clear hd
     exact runq_val (W' := W) (by simp [execOp, o0, go_sem]) (Below.refl _ _) rfl
    case s7 =>
     intro val ρ W hE hz hd hA hx
     have o0 : ρ (.tmp 2) = .pointer (some ⟨w.heap.size, 0, none⟩) := hA.old 2 (by decide)
     have f_q2z := cell_below hE (by simp only; omega) q2z
     clear hd
     exact runq_val (W' := W) (by simp [execOp, o0, f_q2z, go_sem]) (Below.refl _ _) rfl
    case s8 =>
     intro val ρ W hE hz hd hA hx
     have d7 : ρ (.tmp 58) = .pointer (some ⟨p, 0, none⟩) := (hA.dep 7 (by decide) 58 rfl).trans (hd 7 (by decide))
     clear hd
     exact runq_val (W' := W) (by simp [execOp, d7, go_sem]) (Below.refl _ _) rfl
    case s9 =>
     intro val ρ W hE hz hd hA hx
     have d8 : ρ (.tmp 59) = .pointer (some ⟨p, 0, none⟩) := (hA.dep 8 (by decide) 59 rfl).trans (hd 8 (by decide))
     clear hd
     exact runq_val (W' := W) (by simp [execOp, d8, go_sem]) (Below.refl _ _) rfl
    case s10 =>
     intro val ρ W hE hz hd hA hx
     have d9 : ρ (.tmp 60) = .pointer (some ⟨p, 0, none⟩) := (hA.dep 9 (by decide) 60 rfl).trans (hd 9 (by decide))
     clear hd
     exact runq_val (W' := W) (by simp [execOp, d9, go_sem]) (Below.refl _ _) rfl
    case s11 =>
     intro val ρ W hE hz hd hA hx
     have d10 : ρ (.tmp 61) = .pointer (some ⟨p, 7, none⟩) := (hA.dep 10 (by decide) 61 rfl).trans (hd 10 (by decide))
     have f_c7 := cell_below hE (by simp only; omega) c7
     clear hd
     exact runq_val (W' := W) (by simp [execOp, d10, f_c7, go_sem]) (Below.refl _ _) rfl
    case s12 =>
     intro val ρ W hE hz hd hA hx
     have d6 : ρ (.tmp 57) = .int .i64 u := (hA.dep 6 (by decide) 57 rfl).trans (hd 6 (by decide))
     have d11 : ρ (.tmp 62) = .int .i64 st := (hA.dep 11 (by decide) 62 rfl).trans (hd 11 (by decide))
     clear hd
     exact runq_val (W' := W) (by simp [execOp, d6, d11, hwM, go_sem]) (Below.refl _ _) rfl
    case s13 =>
     intro val ρ W hE hz hd hA hx
     have d5 : ρ (.tmp 56) = .int .i64 S := (hA.dep 5 (by decide) 56 rfl).trans (hd 5 (by decide))
     have d12 : ρ (.tmp 63) = .int .i64 M := (hA.dep 12 (by decide) 63 rfl).trans (hd 12 (by decide))
     clear hd
     exact runq_val (W' := W) (by simp [execOp, d5, d12, hwQ, hM0, go_sem]) (Below.refl _ _) rfl
    case s14 =>
     intro val ρ W hE hz hd hA hx
     have o0 : ρ (.tmp 2) = .pointer (some ⟨w.heap.size, 0, none⟩) := hA.old 2 (by decide)
     have f_q2z := cell_below hE (by simp only; omega) q2z
     clear hd
     exact runq_val (W' := W) (by simp [execOp, o0, f_q2z, go_sem]) (Below.refl _ _) rfl
    case s15 =>
     intro val ρ W hE hz hd hA hx
     have d14 : ρ (.tmp 65) = .pointer (some ⟨p, 0, none⟩) := (hA.dep 14 (by decide) 65 rfl).trans (hd 14 (by decide))
     clear hd
     exact runq_val (W' := W) (by simp [execOp, d14, go_sem]) (Below.refl _ _) rfl
    case s16 =>
     intro val ρ W hE hz hd hA hx
     have d15 : ρ (.tmp 66) = .pointer (some ⟨p, 0, none⟩) := (hA.dep 15 (by decide) 66 rfl).trans (hd 15 (by decide))
     clear hd
     exact runq_val (W' := W) (by simp [execOp, d15, go_sem]) (Below.refl _ _) rfl
    case s17 =>
     intro val ρ W hE hz hd hA hx
     have d16 : ρ (.tmp 67) = .pointer (some ⟨p, 0, none⟩) := (hA.dep 16 (by decide) 67 rfl).trans (hd 16 (by decide))
     clear hd
     exact runq_val (W' := W) (by simp [execOp, d16, go_sem]) (Below.refl _ _) rfl
    case s18 =>
     intro val ρ W hE hz hd hA hx
     have d17 : ρ (.tmp 68) = .pointer (some ⟨p, 7, none⟩) := (hA.dep 17 (by decide) 68 rfl).trans (hd 17 (by decide))
     have f_c7 := cell_below hE (by simp only; omega) c7
     clear hd
     exact runq_val (W' := W) (by simp [execOp, d17, f_c7, go_sem]) (Below.refl _ _) rfl
    case s19 =>
     intro val ρ W hE hz hd hA hx
     have d13 : ρ (.tmp 64) = .int .i64 Q := (hA.dep 13 (by decide) 64 rfl).trans (hd 13 (by decide))
     have d18 : ρ (.tmp 69) = .int .i64 st := (hA.dep 18 (by decide) 69 rfl).trans (hd 18 (by decide))
     clear hd
     exact runq_val (W' := W) (by simp [execOp, d13, d18, hwP, go_sem]) (Below.refl _ _) rfl
    case s20 =>
     intro val ρ W hE hz hd hA hx
     have d2 : ρ (.tmp 53) = .int .i64 y.1 := (hA.dep 2 (by decide) 53 rfl).trans (hd 2 (by decide))
     have d4 : ρ (.tmp 55) = .int .i64 y.2 := (hA.dep 4 (by decide) 55 rfl).trans (hd 4 (by decide))
     have d19 : ρ (.tmp 70) = .int .i64 P := (hA.dep 19 (by decide) 70 rfl).trans (hd 19 (by decide))
     clear hd
     exact runq_val (W' := W) (by simp [execOp, d2, d4, d19, go_sem]) (Below.refl _ _) rfl
    case s21 =>
     intro val ρ W hE hz hd hA hx
     have d20 : ρ (.tmp 71) = .agg #[.int .i64 y.1, .int .i64 y.2, .int .i64 P] := (hA.dep 20 (by decide) 71 rfl).trans (hd 20 (by decide))
     clear hd hA
     refine runq_val (by simp [execOp, d20, go_sem]; exact ⟨rfl, rfl⟩) (by exact xx) ⟨_, rfl, newRows _ ([[Value.int .i64 y.1, Value.int .i64 y.2, Value.int .i64 P]]) _ _ _ 3 rfl (by simp) (by simp)⟩
    case s22 =>
     intro val ρ W hE hz hd hA hx
     have hW := hx (by decide)
     have d0 : ρ (.tmp 51) = .slice oa on oc := (hA.dep 0 (by decide) 51 rfl).trans (hd 0 (by decide))
     obtain ⟨b', e21, h21⟩ : ∃ b', val 21 = .slice (some ⟨b', 0, none⟩) 1 1 ∧ RowsAt W 3 b' 0 [[Value.int .i64 y.1, Value.int .i64 y.2, Value.int .i64 P]] := hd 21 (by decide)
     have d21 : ρ (.tmp 72) = .slice (some ⟨b', 0, none⟩) 1 1 := (hA.dep 21 (by decide) 72 rfl).trans e21
     have ho := HOWN.out.ext hW
     obtain ⟨v', w', hrun, h2, h3, h4⟩ := app_at elDvd 44 (W6.heap.size + 2) ho b' 0 1 [[Value.int .i64 y.1, Value.int .i64 y.2, Value.int .i64 P]] (by simp) h21 (by simp [Value.oneCell']) HLL.out (by omega)
     exact runq_append (.tmp 51) (.tmp 72) rfl rfl _ _ d0 d21 hrun (ho.keptBelow (by omega) h3) ⟨h2, (Kept.of_below hW).trans h3, fun g hg => (h4 g hg).imp id fun h => Nat.le_trans hW.size h⟩
    case send =>
     intro val WW hE hzz hv
     obtain ⟨-, -, -, -, -, -, -, -, -, -, -, -, -, -, -, -, -, -, -, -, -, -, ⟨h22, k22, o22⟩, -⟩ := hv
     replace h22 : Owns WW (W6.heap.size + 2) 73 3 (val 22) (divsTo b (finsOf ps) pre ++ [[Value.int .i64 y.1, Value.int .i64 y.2, Value.int .i64 P]]) := h22
     obtain ⟨va, vn, vc, e22⟩ := h22.isSlice
     rw [e22] at h22 o22
     have hov3 := (k22.same V0.heap.size hzo (fun h => by have := HOWN.out.notOwn _ h.symm; omega)).trans HOV.out
     have hv3 : WW.cell? ⟨V0.heap.size, 0, none⟩ = some (.slice oa on oc) := by rw [cell_of_row _ _ _ _ _ _ hov3]; rfl
     have hf3 : WW.frozen? ⟨V0.heap.size, 0, none⟩ = false := by simp [World.frozen?, hov3]
     have HK3 := Lib.hid k22
     have H22 := Lib.hid h22
     have HO22 := Lib.hid o22
     have HOV3 := Lib.hid hov3
     have hz3 := k22.size
     have hzo3 := (Array.getElem?_eq_some_iff.1 hov3).1
     simp only [putD, e22]
     go_frame
     clear hE h22 o22 e22 hov3 hzz k22 ho0 y0z y1z q2z c7
     gi_wp2_with fail
     have hkS : ∀ (S' : Nat → Prop), (∀ g, (Value.slice oa on oc).ownBlock = some g → ¬ S' g) → ¬ S' V0.heap.size → Kept S' X2 (WW.setCell ⟨V0.heap.size, 0, none⟩ (.slice va vn vc)) := fun S' h1 h2 =>
      (((Kept.of_below HEZ.out).trans (HK3.out.mono fun k _ hk e => h1 k e.symm hk))).setCell (fun _ => h2) _
     have ho5 : ∀ g, (Value.slice oa on oc).ownBlock = some g → W6.heap.size + 2 ≤ g ∧ ¬ O g := fun g hg => ⟨(HOWN.out.notOwn g hg).1, HNO.out g hg⟩
     refine ⟨hkS _ (fun g hg h => ?_) (fun h => ?_), g1, by simp [World.setCell]; omega, ?_, _, heap_setCell_row HOV3.out 0 _, (by rw [HDS.out, ← HPP.out]; exact (H22.out.setOther HOV3.out (by decide) 0 _)), fun g hg ho => ?_⟩
     ·have := ho5 g hg
      rcases h with h | h | h | h
      ·omega
      ·exact this.2 h
      ·omega
      ·omega
     ·rcases h with h | h | h | h
      ·exact h.2 rfl
      ·have := g1 _ h; omega
      ·omega
      ·omega
     ·exact HG3.out.trans (Kept.below (hkS _ (fun g hg h => by have := ho5 g hg; omega) (by omega)) HG3.out.size)
     ·rcases HO22.out g hg with h | h
      ·exact HNO.out g h ho
      ·have := (HOO.out g ho).2; omega
  case done2 =>
   rintro D2 O2 xs V1 hD2 rfl ⟨g1, g2, g3, g4⟩ hDk2
   obtain ⟨ov, hov, hown, hno⟩ := g4
   obtain ⟨oa, on, oc, rfl⟩ := hown.isSlice
   have ho0 : V1.cell? ⟨V0.heap.size, 0, none⟩ = some (.slice oa on oc) := by rw [cell_of_row _ _ _ _ _ _ hov]; rfl
   have HOWN := Lib.hid hown
   have HDK2 := Lib.hid hDk2
   have HDK1 := Lib.hid ((g3.block D hDlt).trans HDK.out)
   have hDlt2 := (Array.getElem?_eq_some_iff.1 hDk2).1
   have hzo := (Array.getElem?_eq_some_iff.1 hov).1
   have HG3 := Lib.hid g3
   clear hov hown hno hDk2 g3
   gi_wp2_with fail
   have hne : D2 ≠ D := by omega
   refine leaves_marks (B := w.heap.size) _ _ ⟨⟨D2, rfl, by omega, HDK2.out, fun d' hd' e => ?_⟩, ⟨D, rfl, by omega, HDK1.out, fun d' hd' => by cases hd'⟩, trivial⟩ fun W' hk => ?_
   ·simp only [List.mem_singleton] at hd'
    subst hd'
    exact hne (Target.collected.inj e).symm
   have hk2 : Kept (fun k => k ≠ D ∧ k ≠ D2) V1 W' := hk.mono fun k _ h d hd e => by
    rcases List.mem_cons.1 hd with rfl | hd
    ·exact h.2 (Target.collected.inj e).symm
    ·simp only [List.mem_singleton] at hd
     subst hd
     exact h.1 (Target.collected.inj e).symm
   refine ⟨.slice oa on oc, by simp [results, Try.results70, go_sem], _, rfl, ?_, ?_, fun g hg => by have := (HOWN.out.notOwn g hg).1; omega⟩
   ·exact (Ext.trans' HEV.out HG3.out).trans (Kept.below (hk2.mono fun k _ h => by omega) (Ext.trans' HEV.out HG3.out).size)
   ·exact (HOWN.out.keptAt hk2 (fun g cur _ _ h3 => ⟨fun e => (by rw [e, HDK1.out] at h3; cases h3), fun e => (by rw [e, HDK2.out] at h3; cases h3)⟩)).isRows
theorem dividends_any (p m : Nat) (b : Bk) (ba sa fa : Option Addr) (bcap scap fcap : Nat) (ps : List (Value × List Int)) (w : World) (ht : IsTill w p m b ba bcap sa scap) (hf : IsFin w (.slice fa ps.length fcap) ps) (hfv : FinV b (finsOf ps)) :
  Calls Try.prog 70 #[.pointer (some ⟨p, 0, none⟩), .slice fa ps.length fcap] w fun e w' => ∃ v, e = .returned v ∧ Ext w w' ∧ IsRows w' 3 v ((divP b (finsOf ps)).map divRow) ∧ ∀ g, v.ownBlock = some g → w.heap.size ≤ g :=
 callsIn_wide.1 (dividends_in p m b ba sa fa bcap scap fcap ps w ht hf hfv)
end Go.Proofs.Ytphajlldghcnnaa
