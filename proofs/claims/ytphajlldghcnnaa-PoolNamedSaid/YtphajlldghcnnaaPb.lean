/-
 Small definitions and lemmas that the walks of this seat share: where the first good element of a list stands, slices of numbers and of structs as they lie in memory, and that memory below a block stays.
 Worlds that a call has grown, as a function of the world before it: what there was is read through it. And slices.Index, slices.Contains on numbers.
 A region that draws its order, whose operations only lay new memory: what each operation yields is said by a predicate that later memory does not turn; each operation is then walked once, whatever the order.
 A region that draws its order, whose operations lay new memory or turn what the region itself has laid: each operation is walked once, whatever the order. What an operation yields is said by a predicate that stays as memory grows; an operation that turns memory ends the predicates of all others that do not wait for it, so whoever needs them has to come before it.
 A region that draws its order, whose operations lay new memory or turn what the region itself has laid: each operation is walked once, whatever the order. What an operation yields is said by a predicate that stays as memory grows; an operation that turns memory ends the predicates of all others that do not wait for it, so whoever needs them has to come before it.
-/
import Derived.Test.YtphajlldghcnnaaProg
import Derived.WalkKit
import Derived.WalkSpells
import Derived.WalkLawsBesides
import Derived.BigQuiet
import Derived.Deep.QuietTactic
import Derived.Lib.Hide
import Derived.Test.YtphajlldghcnnaaPa
import Derived.OwnWalkIn
namespace Go.Proofs.Ytphajlldghcnnaa
open Go.RowKit

/-- where the first good element stands, -1 if none is -/
def fidx {α : Type} (p : α → Bool) (l : List α) : Int := match l.findIdx? p with | some i => (i : Int) | none => -1
theorem fidx_none {α : Type} {p : α → Bool} {l : List α} (h : ∀ x ∈ l, p x = false) : fidx p l = -1 := by
 have : l.findIdx? p = none := by rw [List.findIdx?_eq_none_iff]; intro x hx; exact h x (by simpa using hx)
 simp [fidx, this]
theorem fidx_at {α : Type} {p : α → Bool} {l : List α} {k : Nat} (hk : k < l.length) (h : ∀ x ∈ l.take k, p x = false) (hp : p l[k] = true) : fidx p l = k := by
 have : l.findIdx? p = some k := by
  rw [List.findIdx?_eq_some_iff_getElem]
  refine ⟨hk, hp, fun j hj => ?_⟩
  have := h l[j] (by rw [List.mem_take_iff_getElem]; exact ⟨j, by omega, rfl⟩)
  simp [this]
 simp [fidx, this]
theorem fidx_any {α : Type} (p : α → Bool) (l : List α) : decide (0 ≤ fidx p l) = l.any p := by
 unfold fidx
 cases h : l.findIdx? p with
 | none => rw [List.findIdx?_eq_none_iff] at h; simp; exact h
 | some i =>
  rw [List.findIdx?_eq_some_iff_getElem] at h
  obtain ⟨h1, h2, _⟩ := h
  simp; exact ⟨_, List.getElem_mem h1, h2⟩
theorem take_ext {α : Type} {p : α → Bool} {l : List α} {k : Nat} (hk : k < l.length) (h : ∀ x ∈ l.take k, p x = false) (hp : p l[k] = false) : ∀ x ∈ l.take (k + 1), p x = false := by
 intro x hx
 rw [List.take_succ_eq_append_getElem hk, List.mem_append] at hx
 rcases hx with hx | hx
 ·exact h x hx
 ·simp at hx; rw [hx]; exact hp
theorem take_all {α : Type} {p : α → Bool} {l : List α} {k : Nat} (hk : ¬ k < l.length) (h : ∀ x ∈ l.take k, p x = false) : ∀ x ∈ l, p x = false := by
 rwa [List.take_of_length_le (by omega)] at h
theorem ret_int {k : IntKind} {a b : Int} (h : a = b) : Ending.returned (.int k a) = .returned (.int k b) := by rw [h]
theorem ret_bool {a b : Bool} (h : a = b) : Ending.returned (.bool a) = .returned (.bool b) := by rw [h]
theorem ret_ii {x y x' y' : Int} (h1 : x = x') (h2 : y = y') : Ending.returned (.tuple #[.int .i64 x, .int .i64 y]) = .returned (.tuple #[.int .i64 x', .int .i64 y']) := by rw [h1, h2]
theorem ret_iii {x y z x' y' z' : Int} (h1 : x = x') (h2 : y = y') (h3 : z = z') : Ending.returned (.tuple #[.int .i64 x, .int .i64 y, .int .i64 z]) = .returned (.tuple #[.int .i64 x', .int .i64 y', .int .i64 z']) := by rw [h1, h2, h3]
theorem ret_iib {x y x' y' : Int} {z z' : Bool} (h1 : x = x') (h2 : y = y') (h3 : z = z') : Ending.returned (.tuple #[.int .i64 x, .int .i64 y, .bool z]) = .returned (.tuple #[.int .i64 x', .int .i64 y', .bool z']) := by rw [h1, h2, h3]

/-- below the blocks that there are, nothing has turned -/
abbrev Ext (w w' : World) : Prop := Below w.heap.size w w'
theorem Ext.trans' {a b c : World} (h : Ext a b) (k : Ext b c) : Ext a c := Below.trans h (k.mono h.size)
theorem Ext.al {w W : World} (h : Ext w W) (o : Obj) : Ext w (W.alloc o) := Below.alloc h h.size o
theorem Ext.dr {w W : World} (h : Ext w W) : Ext w W.drew := Below.drew h
theorem Ext.drN {w W : World} (h : Ext w W) (n : Nat) : Ext w (W.drewN n) := ⟨h.os, h.tape, h.output, h.size, h.block⟩
theorem bcell {B : Nat} {W w1 : World} (hb : Below B W w1) : (∀ b o, b < B → w1.cell? ⟨b, o, none⟩ = W.cell? ⟨b, o, none⟩) ∧ (∀ b o, b < B → w1.frozen? ⟨b, o, none⟩ = W.frozen? ⟨b, o, none⟩) :=
 ⟨fun b o h => hb.cell (p := ⟨b, o, none⟩) h, fun b o h => hb.frozen (p := ⟨b, o, none⟩) h⟩
theorem cell_ext {w w' : World} (h : Ext w w') {a : Addr} {v : Value} (hc : w.cell? a = some v) : w'.cell? a = some v :=
 (h.cell (World.block_lt_of_cell? w a hc)).trans hc
theorem cell_below {B : Nat} {w w' : World} (h : Below B w w') {a : Addr} (ha : a.block < B) {v : Value} (hc : w.cell? a = some v) : w'.cell? a = some v :=
 (h.cell ha).trans hc

/-- the cells of rows of 'sz' cells each, one behind the other -/
def RowsAt (w : World) (sz b off : Nat) (rows : List (List Value)) : Prop :=
 ∀ i (h : i < rows.length) j (hj : j < rows[i].length), w.cell? ⟨b, off + i * sz + j, none⟩ = some rows[i][j]
/-- a slice of such rows -/
def IsRows (w : World) (sz : Nat) (v : Value) (rows : List (List Value)) : Prop :=
 ∃ sa cap, v = .slice sa rows.length cap ∧ rows.length ≤ cap ∧ cap ≤ 9223372036854775807 ∧ (rows = [] ∨ ∃ b off, sa = some ⟨b, off, none⟩ ∧ RowsAt w sz b off rows)
theorem RowsAt.ext {w w' : World} (h : Ext w w') {sz b off : Nat} {rows : List (List Value)} (hr : RowsAt w sz b off rows) : RowsAt w' sz b off rows :=
 fun i hi j hj => cell_ext h (hr i hi j hj)
theorem IsRows.ext {w w' : World} (h : Ext w w') {sz : Nat} {v : Value} {rows : List (List Value)} (hr : IsRows w sz v rows) : IsRows w' sz v rows := by
 obtain ⟨sa, cap, h1, h2, h3, h4⟩ := hr
 refine ⟨sa, cap, h1, h2, h3, ?_⟩
 rcases h4 with h4 | ⟨b, off, e, h4⟩
 ·exact .inl h4
 ·exact .inr ⟨b, off, e, h4.ext h⟩
/-- a slice of numbers of one kind -/
def IsInts (w : World) (k : IntKind) (v : Value) (l : List Int) : Prop := IsRows w 1 v (l.map fun n => [.int k n])
theorem IsInts.ext {w w' : World} (h : Ext w w') {k : IntKind} {v : Value} {l : List Int} (hr : IsInts w k v l) : IsInts w' k v l := IsRows.ext h hr
/-- opened: what the walks use -/
theorem IsInts.spec {w : World} {k : IntKind} {v : Value} {l : List Int} (h : IsInts w k v l) :
  ∃ sa cap, v = .slice sa l.length cap ∧ l.length ≤ cap ∧ cap ≤ 9223372036854775807 ∧ (l = [] ∨ ∃ b off, sa = some ⟨b, off, none⟩ ∧ ∀ i, (h : i < l.length) → w.cell? ⟨b, off + i, none⟩ = some (.int k l[i])) := by
 obtain ⟨sa, cap, h1, h2, h3, h4⟩ := h
 refine ⟨sa, cap, by simpa using h1, by simpa using h2, h3, ?_⟩
 rcases h4 with h4 | ⟨b, off, e, h4⟩
 ·exact .inl (by simpa using h4)
 ·refine .inr ⟨b, off, e, fun i hi => ?_⟩
  have := h4 i (by simpa using hi) 0 (by simp)
  simpa using this
theorem IsInts.mk {w : World} {k : IntKind} {l : List Int} {b off cap : Nat} (h2 : l.length ≤ cap) (h3 : cap ≤ 9223372036854775807) (h : ∀ i, (h : i < l.length) → w.cell? ⟨b, off + i, none⟩ = some (.int k l[i])) :
  IsInts w k (.slice (some ⟨b, off, none⟩) l.length cap) l := by
 refine ⟨_, cap, by simp, by simpa using h2, h3, .inr ⟨b, off, rfl, fun i hi j hj => ?_⟩⟩
 simp only [List.length_map] at hi
 have hj0 : j = 0 := by simp at hj; omega
 subst hj0
 simpa using h i hi
end Go.Proofs.Ytphajlldghcnnaa
namespace Go.Proofs.Ytphajlldghcnnaa
open Go.RowKit Go.Shelf
theorem grow_size (w : World) (g) : w.heap.size ≤ (grow w g).heap.size := g.h.size
@[go_sem] theorem lt_grow (w : World) (g) (b : Nat) (h : b < w.heap.size) : (b < (grow w g).heap.size) = True := eq_true (Nat.lt_of_lt_of_le h g.h.size)
@[go_sem] theorem lt_more (a b : Nat) (h : a < b) : (a < b + 1) = True := eq_true (by omega)
@[go_sem] theorem le_more (a b : Nat) (h : a < b) : (a ≤ b) = True := eq_true (by omega)
@[go_sem] theorem lt_self1 (a : Nat) : (a < a + 1) = True := eq_true (by omega)
@[go_sem] theorem lt_al (w : World) (o : Obj) (b : Nat) (h : b < w.heap.size) : (b < (w.alloc o).heap.size) = True := eq_true (by simp; omega)
@[go_sem] theorem lt_al_self (w : World) (o : Obj) : (w.heap.size < (w.alloc o).heap.size) = True := eq_true (by simp)
theorem Ext.gr {w W : World} (h : Ext w W) (g) : Ext w (grow W g) := Ext.trans' h (grow_below W g)
/-- a world that has only grown: found by a search of its own -/
theorem xx {w W : World} (h : Ext w W := by repeat (first | exact Below.refl _ _ | refine Ext.al ?_ _ | refine Ext.dr ?_ | refine Ext.drN ?_ _ | refine Ext.gr ?_ _ | (refine Ext.trans' ?_ (by assumption)))) : Ext w W := h
theorem callGr {P : Program} {f : FuncId} {args : Array Value} {w : World} {v : Value} {Q : Ending → World → Prop} (h : Calls P f args w fun e w' => e = .returned v ∧ Ext w w') (k : ∀ g, Q (.returned v) (grow w g)) : Calls P f args w Q :=
 h.mono fun e w' ⟨he, hb⟩ => by obtain ⟨g, rfl⟩ := grow_of hb; subst he; exact k g
theorem callGrEx {P : Program} {f : FuncId} {args : Array Value} {w : World} {Q : Ending → World → Prop} {R : Value → World → Prop} (h : Calls P f args w fun e w' => ∃ v, e = .returned v ∧ Ext w w' ∧ R v w') (k : ∀ v g, R v (grow w g) → Q (.returned v) (grow w g)) : Calls P f args w Q :=
 h.mono fun e w' ⟨v, he, hb, hr⟩ => by obtain ⟨g, rfl⟩ := grow_of hb; subst he; exact k v g hr

set_option maxHeartbeats 400000 in
theorem index_any (l : List Int) (x : Int) (lv : Value) (w : World) (hv : IsInts w .i64 lv l) :
  Calls Try.prog 92 #[lv, .int .i64 x] w fun e w' => e = .returned (.int .i64 (fidx (fun y => x == y) l)) ∧ Ext w w' := by
 obtain ⟨sa, cap, rfl, h1, h2, hs⟩ := hv.spec
 clear hv
 go_enter Try.func92, Try.ntmps92
 go_wp2
 go_loopw [8] (fun i W => ∃ k : Nat, k ≤ l.length ∧ i = .int .i64 k ∧ (∀ y ∈ l.take k, (x == y) = false) ∧ Ext w W) (fun i _ => l.length - (intOf i).toNat)
 case atStart => exact ⟨0, Nat.zero_le _, rfl, by simp, Below.refl _ _⟩
 case round =>
  obtain ⟨k, hk, rfl, hno, hb⟩ := hrel
  have HN := Lib.hid hno
  clear hno
  by_cases hlt : k < l.length
  ·rcases hs with rfl | ⟨b, off, rfl, hc⟩
   ·simp at hlt
   have hcell := cell_ext hb (hc k hlt)
   clear hc
   cases hp : (x == l[k])
   ·go_wp2
    go_roundw
    case rel => exact ⟨k + 1, by omega, by go_num, take_ext (p := fun y => x == y) hlt HN.out hp, hb⟩
    case measure => simp [intOf]; omega
   ·go_wp2
    go_ret
    exact ⟨ret_int (fidx_at (p := fun y => x == y) hlt HN.out hp).symm, hb⟩
  ·go_wp2
   go_ret
   exact ⟨ret_int (fidx_none (p := fun y => x == y) (take_all hlt HN.out)).symm, hb⟩

set_option maxHeartbeats 400000 in
theorem contains_any (l : List Int) (x : Int) (lv : Value) (w : World) (hv : IsInts w .i64 lv l) :
  Calls Try.prog 83 #[lv, .int .i64 x] w fun e w' => e = .returned (.bool (l.contains x)) ∧ Ext w w' := by
 have H := Lib.hid (index_any l x lv w hv)
 clear hv
 go_enter Try.func83, Try.ntmps83
 go_wp2_with fail
 refine callGr H.out fun g => ?_
 go_wp2
 all_goals
  go_ret
  refine ⟨ret_bool ?_, grow_below w g⟩
  rw [fidx_any, List.contains_eq_any_beq]
end Go.Proofs.Ytphajlldghcnnaa
namespace Go.Proofs.Ytphajlldghcnnaa
open Go.RowKit Go.Shelf

/-- what an operation yields: a predicate that stays -/
structure Sp where
 p : Value → World → Prop
 m : ∀ v w w', p v w → Ext w w' → p v w'
def spV (v0 : Value) : Sp := ⟨fun v _ => v = v0, fun _ _ _ h _ => h⟩
def spT : Sp := ⟨fun _ _ => True, fun _ _ _ h _ => h⟩
/-- the operations that one waits for -/
def depsOf (o : Oper) : List Nat := (o.after.toList.filter fun e => Region.binds .any e).map (·.on)
def dstOf (ls : List Oper) (j : Nat) : Option Tmp := (ls[j]?).bind (·.dst)
/-- the frame, some operations carried out -/
def frameOf (ls : List Oper) (val : Nat → Value) (a : Act) : List Nat → Act
 | [] => a
 | j :: js => frameOf ls val (a.put (dstOf ls j) (val j)) js
def selB (o : Op) : Bool := match o with | .select _ _ => true | _ => false
/-- what is asked of the region's form -/
def relB (ls : List Oper) (size : Nat) : Bool :=
 (List.range ls.length).all fun i => match ls[i]? with
  | none => true
  | some o => o.guard.isNone && !selB o.op && (match o.dst with | none => true | some d => decide (d < size)) &&
   (depsOf o).all (fun j => decide (j < i)) &&
   (List.range ls.length).all (fun j => decide (j = i) || (match o.dst with | none => true | some d => !(dstOf ls j == some d))) &&
   o.op.operands.toList.all fun x => match x with
    | .tmp s => ((depsOf o).any fun j => dstOf ls j == some s) || (List.range ls.length).all fun j => !(dstOf ls j == some s)
    | _ => true
structure RelAt (ls : List Oper) (size i : Nat) (o : Oper) : Prop where
 g : o.guard = none
 s : ∀ cs b, o.op ≠ .select cs b
 d : ∀ d, o.dst = some d → d < size
 dep : ∀ j ∈ depsOf o, j < i
 ne : ∀ j, j < ls.length → j ≠ i → ∀ d, o.dst = some d → dstOf ls j ≠ some d
 x : ∀ s, Operand.tmp s ∈ o.op.operands → (∃ j ∈ depsOf o, dstOf ls j = some s) ∨ ∀ j, j < ls.length → dstOf ls j ≠ some s
theorem relB_at {ls : List Oper} {size : Nat} (h : relB ls size = true) {i : Nat} {o : Oper} (hi : ls[i]? = some o) : RelAt ls size i o := by
 unfold relB at h
 rw [List.all_eq_true] at h
 have hlt : i < ls.length := (List.getElem?_eq_some_iff.1 hi).1
 have h1 := h i (List.mem_range.2 hlt)
 rw [hi] at h1
 simp only [Bool.and_eq_true] at h1
 obtain ⟨⟨⟨⟨⟨a1, a2⟩, a3⟩, a4⟩, a5⟩, a6⟩ := h1
 refine ⟨by simpa using a1, fun cs b e => ?_, fun d hd => ?_, fun j hj => ?_, fun j hj hne d hd => ?_, fun s hs => ?_⟩
 ·rw [e] at a2; simp [selB] at a2
 ·rw [hd] at a3; simpa using a3
 ·have := List.all_eq_true.1 a4 j hj; simpa using this
 ·have := List.all_eq_true.1 a5 j (List.mem_range.2 hj)
  rw [hd] at this
  simp only [Bool.or_eq_true, decide_eq_true_eq, Bool.not_eq_true'] at this
  rcases this with h | h
  ·exact absurd h hne
  ·simpa using h
 ·have := List.all_eq_true.1 a6 (.tmp s) (by simpa using hs)
  simp only [Bool.or_eq_true] at this
  rcases this with h | h
  ·left
   obtain ⟨j, hj, hd⟩ := List.any_eq_true.1 h
   exact ⟨j, hj, by simpa using hd⟩
  ·right
   intro j hj
   have := List.all_eq_true.1 h j (List.mem_range.2 hj)
   simpa using this

theorem put_size (a : Act) (d : Option Tmp) (v : Value) : (a.put d v).tmps.size = a.tmps.size := by cases d <;> simp [Act.put]
theorem put_defers (a : Act) (d : Option Tmp) (v : Value) : (a.put d v).defers = a.defers := by cases d <;> rfl
theorem put_off (a : Act) {d : Option Tmp} {s : Tmp} (v : Value) (h : d ≠ some s) : (a.put d v).tmps[s]? = a.tmps[s]? := by
 cases d with
 | none => rfl
 | some d => simp only [Act.put]; rw [Array.getElem?_setIfInBounds_ne (fun e => h (by rw [e]))]
theorem put_on (a : Act) {s : Tmp} (v : Value) (h : s < a.tmps.size) : (a.put (some s) v).tmps[s]? = some v := by simp [Act.put, h]
theorem frame_size (ls : List Oper) (val : Nat → Value) : ∀ (js : List Nat) (a : Act), (frameOf ls val a js).tmps.size = a.tmps.size
 | [], _ => rfl
 | j :: js, a => by rw [frameOf, frame_size ls val js, put_size]
theorem frame_defers (ls : List Oper) (val : Nat → Value) : ∀ (js : List Nat) (a : Act), (frameOf ls val a js).defers = a.defers
 | [], _ => rfl
 | j :: js, a => by rw [frameOf, frame_defers ls val js, put_defers]
theorem frame_off (ls : List Oper) (val : Nat → Value) {s : Tmp} : ∀ (js : List Nat) (a : Act), (∀ j ∈ js, dstOf ls j ≠ some s) → (frameOf ls val a js).tmps[s]? = a.tmps[s]?
 | [], _, _ => rfl
 | j :: js, a, h => by rw [frameOf, frame_off ls val js _ fun k hk => h k (by simp [hk]), put_off _ _ (h j (by simp))]
theorem frame_on {ls : List Oper} (val : Nat → Value) {s : Tmp} {i : Nat} (hi : dstOf ls i = some s) : ∀ (js : List Nat) (a : Act), (∀ j ∈ js, dstOf ls j = some s → j = i) → s < a.tmps.size → (i ∈ js ∨ a.tmps[s]? = some (val i)) → (frameOf ls val a js).tmps[s]? = some (val i)
 | [], a, _, _, h => by
  rcases h with h | h
  ·cases h
  ·exact h
 | j :: js, a, hu, hs, h => by
  rw [frameOf]
  refine frame_on val hi js _ (fun k hk => hu k (by simp [hk])) (by rw [put_size]; exact hs) ?_
  by_cases hj : dstOf ls j = some s
  ·obtain rfl := hu j (by simp) hj
   right
   rw [hj, put_on _ _ hs]
  ·rcases h with h | h
   ·rcases List.mem_cons.1 h with rfl | h
    ·exact absurd hi hj
    ·exact .inl h
   ·right; rw [put_off _ _ hj]; exact h
/-- what the operation has yielded -/
def got (o : Oper) (a : Act) : Value := match o.dst with | some d => a.tmps.getD d undef | none => undef
theorem got_put {o : Oper} {a : Act} {v : Value} (h : ∀ d, o.dst = some d → d < a.tmps.size) : got o (a.put o.dst v) = match o.dst with | some _ => v | none => undef := by
 unfold got
 cases hd : o.dst with
 | none => rfl
 | some d => simp [Act.put, h d hd]
theorem act_ext {a b : Act} (h1 : a.defers = b.defers) (h2 : a.tmps.size = b.tmps.size) (h3 : ∀ s : Nat, a.tmps[s]? = b.tmps[s]?) : a = b := by
 obtain ⟨ta, da⟩ := a
 obtain ⟨tb, db⟩ := b
 simp only at h1 h2 h3
 subst h1
 congr 1
 exact Array.ext_getElem? h3
theorem countP_off (p q : Nat → Bool) (i : Nat) : ∀ n, (∀ j, j ≠ i → q j = p j) → p i = true → q i = false → i < n → (List.range n).countP p = (List.range n).countP q + 1
 | 0, _, _, _, hi => absurd hi (by omega)
 | n + 1, h, hp, hq, hi => by
  rw [List.range_succ, List.countP_append, List.countP_append]
  by_cases e : i = n
  ·subst e
   have : (List.range i).countP p = (List.range i).countP q := List.countP_congr fun j hj => by
    have := List.mem_range.1 hj
    rw [h j (by omega)]
   rw [this]
   simp [hp, hq]
  ·rw [countP_off p q i n h hp hq (by omega)]
   have : q n = p n := h n (fun e' => e e'.symm)
   simp only [List.countP_cons, List.countP_nil, this]
   omega

/-- what holds when some operations have been carried out -/
def WInv (w : World) (ls : List Oper) (S : Nat → Sp) (a : Act) (listed : Array Bool) (a' : Act) (W : World) : Prop :=
 Ext w W ∧ ∃ val : Nat → Value, (∀ j, j < ls.length → listed.getD j false = true → (S j).p (val j) W) ∧ a'.defers = a.defers ∧ a'.tmps.size = a.tmps.size ∧
  (∀ j s, dstOf ls j = some s → listed.getD j false = true → a'.tmps[s]? = some (val j)) ∧ (∀ s, (∀ j, listed.getD j false = true → dstOf ls j ≠ some s) → a'.tmps[s]? = a.tmps[s]?)
/-- one operation: what is to be shown -/
def StepOk (P : Program) (w : World) (ls : List Oper) (S : Nat → Sp) (a : Act) (i : Nat) (o : Oper) : Prop :=
 ∀ (val : Nat → Value) (W : World), Ext w W → (∀ j ∈ depsOf o, (S j).p (val j) W) →
  wpList P #[o] (fun e a' W' => e = .normal ∧ a'.defers = a.defers ∧ Ext W W' ∧ (S i).p (got o a') W') [o] (frameOf ls val a (depsOf o)) W
theorem wander {P : Program} {w : World} {ls : List Oper} {S : Nat → Sp} {a : Act} {Q : Exit → Act → World → Prop} (hB : relB ls a.tmps.size = true)
  (hstep : ∀ i o, ls[i]? = some o → StepOk P w ls S a i o)
  (hend : ∀ (val : Nat → Value) (W : World), Ext w W → (∀ j, j < ls.length → (S j).p (val j) W) → Q .normal (frameOf ls val a (List.range ls.length)) W) :
  ∀ (fuel : Nat) (listed : Array Bool) (a' : Act) (W : World), listed.size = ls.length → (List.range ls.length).countP (fun j => !listed.getD j false) ≤ fuel → WInv w ls S a listed a' W →
   wpAny P .any ls.toArray Q fuel listed a' W := by
 have fin : ∀ (listed : Array Bool) (a' : Act) (W : World), listed.size = ls.length → WInv w ls S a listed a' W → (∀ j, j < ls.length → listed.getD j false = true) → Q .normal a' W := by
  intro listed a' W hs ⟨hE, val, h1, h2, h3, h4, h5⟩ hall
  have e : a' = frameOf ls val a (List.range ls.length) := by
   refine act_ext (by rw [h2, frame_defers]) (by rw [h3, frame_size]) fun s => ?_
   by_cases hx : ∃ j, j < ls.length ∧ dstOf ls j = some s
   ·obtain ⟨j, hj, hd⟩ := hx
    have hj' : ls[j]? = some ls[j] := List.getElem?_eq_getElem hj
    have hR := relB_at hB hj'
    have hdst : ls[j].dst = some s := by unfold dstOf at hd; rw [hj'] at hd; exact hd
    rw [h4 j s hd (hall j hj), frame_on val hd _ _ (fun k hk hd2 => ?_) (hR.d s hdst) (.inl (List.mem_range.2 hj))]
    by_cases hkj : k = j
    ·exact hkj
    ·exact absurd hd2 (hR.ne k (List.mem_range.1 hk) hkj s hdst)
   ·rw [h5 s fun j hl hd => hx ⟨j, ?_, hd⟩, frame_off ls val _ _ fun j hj hd => hx ⟨j, List.mem_range.1 hj, hd⟩]
    unfold dstOf at hd
    rcases Nat.lt_or_ge j ls.length with hj | hj
    ·exact hj
    ·rw [List.getElem?_eq_none hj] at hd; cases hd
  rw [e]
  exact hend val W hE fun j hj => h1 j hj (hall j hj)
 have allL : ∀ (listed : Array Bool), listed.size = ls.length → Region.ready .any ls.toArray listed = [] → ∀ j, j < ls.length → listed.getD j false = true := by
  intro listed hs h0 j
  induction j using Nat.strongRecOn with
  | _ j ih =>
   intro hj
   cases hl : listed.getD j false with
   | true => rfl
   | false =>
    exfalso
    have hj' : ls[j]? = some ls[j] := List.getElem?_eq_getElem hj
    have hR := relB_at hB hj'
    have hin : j ∈ Region.ready .any ls.toArray listed := by
     refine mem_ready.2 ⟨?_, ls[j], by simp [hj], fun e he hb => ?_⟩
     ·have hjs : j < listed.size := by omega
      simp [hjs] at hl ⊢
      exact hl
     ·have hd : e.on ∈ depsOf ls[j] := List.mem_map.2 ⟨e, List.mem_filter.2 ⟨by simpa using he, hb⟩, rfl⟩
      have hlt := hR.dep _ hd
      exact ih _ hlt (by omega)
    rw [h0] at hin
    cases hin
 have step : ∀ (listed : Array Bool) (a' : Act) (W : World) (i : Nat) (K : Act → World → Prop), listed.size = ls.length → WInv w ls S a listed a' W → i ∈ Region.ready .any ls.toArray listed →
   (∀ a2 W2, WInv w ls S a (listed.setIfInBounds i true) a2 W2 → K a2 W2) → wpOp P ls.toArray Q i K a' W := by
  intro listed a' W i K hs ⟨hE, val, h1, h2, h3, h4, h5⟩ hi hK
  obtain ⟨hl, o, ho, hdeps⟩ := mem_ready.1 hi
  have ho' : ls[i]? = some o := by simpa using ho
  have hilt : i < ls.length := (List.getElem?_eq_some_iff.1 ho').1
  have hR := relB_at hB ho'
  have hdl : ∀ j ∈ depsOf o, listed.getD j false = true := fun j hj => by
   obtain ⟨e, he, rfl⟩ := List.mem_map.1 hj
   obtain ⟨he1, he2⟩ := List.mem_filter.1 he
   exact hdeps e (by simpa using he1) he2
  have hilf : listed.getD i false = false := by
   have : i < listed.size := by omega
   simp [this] at hl ⊢
   exact hl
  have hev : ∀ x ∈ o.op.operands, a'.eval x = (frameOf ls val a (depsOf o)).eval x := fun x hx => by
   cases x with
   | tmp s =>
    have hh : a'.tmps[s]? = (frameOf ls val a (depsOf o)).tmps[s]? := by
     rcases hR.x s hx with ⟨j, hj, hd⟩ | hno
     ·have hji := hR.dep j hj
      have hj' : ls[j]? = some (ls[j]'(by omega)) := List.getElem?_eq_getElem (by omega)
      have hRj := relB_at hB hj'
      have hdst : (ls[j]'(by omega)).dst = some s := by unfold dstOf at hd; rw [hj'] at hd; exact hd
      rw [h4 j s hd (hdl j hj), frame_on val hd _ _ (fun k hk hd2 => ?_) (hRj.d s hdst) (.inl hj)]
      by_cases hkj : k = j
      ·exact hkj
      ·exact absurd hd2 (hRj.ne k (by have := hR.dep k hk; omega) hkj s hdst)
     ·rw [h5 s fun j hl hd => ?_, frame_off ls val _ _ fun j hj => hno j (by have := hR.dep j hj; omega)]
      rcases Nat.lt_or_ge j ls.length with hj | hj
      ·exact hno j hj hd
      ·unfold dstOf at hd; rw [List.getElem?_eq_none hj] at hd; cases hd
    simp only [Act.eval, Array.getD_eq_getD_getElem?, hh]
   | _ => rfl
  have hx := execOp_congr o hR.s hev
  have hw := hstep i o ho' val W hE fun j hj => h1 j (by have := hR.dep j hj; omega) (hdl j hj)
  have hwant : ∀ y, Region.wanted o y = true := fun y => by simp [Region.wanted, hR.g]
  unfold wpList at hw
  rw [if_pos (hwant _)] at hw
  have hw : o.wp P (frameOf ls val a (depsOf o)) W (wpList P #[o] (fun e a' W' => e = .normal ∧ a'.defers = a.defers ∧ Ext W W' ∧ (S i).p (got o a') W') []) (fun e a' W' => e = .normal ∧ a'.defers = a.defers ∧ Ext W W' ∧ (S i).p (got o a') W') := by
   rcases hw with hw | ⟨_, _, _, hw⟩
   ·exact hw
   ·cases hw.1
  unfold wpOp
  rw [ho]
  simp only
  rw [if_pos (hwant _)]
  left
  have next : ∀ v W', Ext W W' → (S i).p (match o.dst with | some _ => v | none => undef) W' → K (a'.put o.dst v) W' := fun v W' hE' hS => by
   refine hK _ _ ⟨hE.trans' hE', fun j => if j = i then (match o.dst with | some _ => v | none => undef) else val j, fun j hj hlj => ?_, by rw [put_defers, h2], by rw [put_size, h3], fun j s hd hlj => ?_, fun s hno => ?_⟩
   ·by_cases hji : j = i
    ·subst hji; simp only [if_true]; exact hS
    ·rw [getD_set_ne false (Ne.symm hji)] at hlj
     simp only [hji, if_false]
     exact (S j).m _ _ _ (h1 j hj hlj) hE'
   ·by_cases hji : j = i
    ·subst hji
     have hdst : o.dst = some s := by unfold dstOf at hd; rw [ho'] at hd; exact hd
     simp only [if_true, hdst]
     exact put_on _ _ (by rw [h3]; exact hR.d s hdst)
    ·rw [getD_set_ne false (Ne.symm hji)] at hlj
     simp only [hji, if_false]
     rw [put_off, h4 j s hd hlj]
     intro hdst
     rcases Nat.lt_or_ge j ls.length with hj | hj
     ·exact hR.ne j hj hji s hdst hd
     ·unfold dstOf at hd; rw [List.getElem?_eq_none hj] at hd; cases hd
   ·have hoi : o.dst ≠ some s := by
     have := hno i (by simp [hs, hilt])
     unfold dstOf at this
     rw [ho'] at this
     exact this
    rw [put_off _ _ hoi, h5 s fun j hlj => hno j (getD_set_true hlj)]
  have hsz : ∀ d, o.dst = some d → d < (frameOf ls val a (depsOf o)).tmps.size := fun d hd => by rw [frame_size]; exact hR.d d hd
  unfold Oper.wp at hw ⊢
  rw [hx]
  generalize (execOp (frameOf ls val a (depsOf o)).eval o).run P W = r at *
  cases r with
  | ok x W' =>
   cases x <;> simp only [Oper.upon] at hw ⊢
   case value v =>
    obtain ⟨_, _, hE', hS⟩ := hw
    rw [got_put hsz] at hS
    exact next v W' hE' hS
   case skip =>
    obtain ⟨_, _, hE', hS⟩ := hw
    rw [got_put hsz] at hS
    exact next undef W' hE' hS
   case defer d =>
    obtain ⟨_, hd, _⟩ := hw
    rw [put_defers] at hd
    simp only [frame_defers] at hd
    exact absurd hd (by simp)
   case enter f args =>
    refine Calls.mono hw fun e W'' he => ?_
    cases e with
    | returned v =>
     obtain ⟨_, _, hE', hS⟩ := he
     rw [got_put hsz] at hS
     exact next v W'' hE' hS
    | panicked c => exact absurd he.1 (by simp)
    | outgrown => obtain ⟨_, _, he⟩ := he; exact absurd he.1 (by simp)
   case row row args =>
    refine Rows.mono hw fun v W'' he => ?_
    obtain ⟨_, _, hE', hS⟩ := he
    rw [got_put hsz] at hS
    exact next v W'' hE' hS
  | halt x W' =>
   cases x <;> simp only [Oper.upon] at hw ⊢
   exact absurd hw.1 (by simp)
 intro fuel
 induction fuel with
 | zero =>
  intro listed a' W hs hf hW
  have hall : ∀ j, j < ls.length → listed.getD j false = true := fun j hj => by
   have h0 : (List.range ls.length).countP (fun j => !listed.getD j false) = 0 := by omega
   rw [List.countP_eq_zero] at h0
   have := h0 j (List.mem_range.2 hj)
   simpa using this
  refine ⟨?_, fin listed a' W hs hW hall⟩
  rcases hr : Region.ready .any ls.toArray listed with _ | ⟨k, rs⟩
  ·rfl
  ·exfalso
   have hk : k ∈ Region.ready .any ls.toArray listed := by rw [hr]; simp
   obtain ⟨g1, ok, g2, _⟩ := mem_ready.1 hk
   have hlt : k < ls.length := by have := (Array.getElem?_eq_some_iff.1 g2).1; simpa using this
   have hka := hall k hlt
   have : k < listed.size := by omega
   simp [this] at g1 hka
   rw [g1] at hka
   cases hka
 | succ fuel ih =>
  intro listed a' W hs hf hW
  refine ⟨fun h0 => fin listed a' W hs hW (allL listed hs h0), fun i hi => ?_⟩
  refine step listed a' W i _ hs hW hi fun a2 W2 hW2 => ih _ a2 W2 (by simpa using hs) ?_ hW2
  obtain ⟨hl, o, ho, _⟩ := mem_ready.1 hi
  have hilt : i < ls.length := by have := (Array.getElem?_eq_some_iff.1 ho).1; simpa using this
  have his : i < listed.size := by omega
  have hc := countP_off (fun j => !listed.getD j false) (fun j => !(listed.setIfInBounds i true).getD j false) i ls.length (fun j hj => by rw [getD_set_ne false (Ne.symm hj)]) (by simp [his] at hl ⊢; exact hl) (by simp [his]) hilt
  omega

/-- all operations, one by one -/
def StepsOk (P : Program) (w : World) (ls : List Oper) (S : Nat → Sp) (a : Act) : Nat → List Oper → Prop
 | _, [] => True
 | i, o :: os => StepOk P w ls S a i o ∧ StepsOk P w ls S a (i + 1) os
theorem StepsOk.at {P : Program} {w : World} {ls : List Oper} {S : Nat → Sp} {a : Act} : ∀ {os : List Oper} {i : Nat}, StepsOk P w ls S a i os → ∀ {j : Nat} {o : Oper}, os[j]? = some o → StepOk P w ls S a (i + j) o
 | [], _, _, j, o, h => by simp at h
 | x :: os, i, hs, 0, o, h => by
  simp at h
  subst h
  exact hs.1
 | x :: os, i, hs, j + 1, o, h => by
  have := StepsOk.at hs.2 (j := j) (o := o) (by simpa using h)
  rwa [Nat.add_assoc, Nat.add_comm 1 j] at this
theorem wp_region_wander {P : Program} {id : Nat} {Q : Exit → Act → World → Prop} {a : Act} {w : World} {ls : List Oper} (S : List Sp) (hm : P.follows .mixedOrders = true) (hB : relB ls a.tmps.size = true)
  (hstep : StepsOk P w ls (fun i => S.getD i spT) a 0 ls)
  (hend : ∀ (val : Nat → Value) (W : World), Ext w W → (∀ j, j < ls.length → (S.getD j spT).p (val j) W) → Q .normal (frameOf ls val a (List.range ls.length)) W) :
  (Code.region id ls.toArray true).wp P Q a w := by
 refine wp_region_any hm ?_
 refine wander (S := fun i => S.getD i spT) hB (fun i o hi => by have := hstep.at hi; rwa [Nat.zero_add] at this) hend _ _ _ _ (by simp) ?_ ⟨Ext.dr (Below.refl _ _), fun _ => undef, fun j _ hl => ?_, rfl, rfl, fun j s _ hl => ?_, fun _ _ => rfl⟩
 ·have := List.countP_le_length (p := fun j => !((Array.replicate ls.toArray.size false).getD j false)) (l := List.range ls.length)
  simpa using this
 ·rw [getD_replicate] at hl; cases hl
 ·rw [getD_replicate] at hl; cases hl

/-- one operation, carried out once: what it yields -/
def Run1 (P : Program) (o : Oper) (ρ : Operand → Value) (W : World) (s : Sp) : Prop :=
 match (execOp ρ o).run P W with
 | .ok (.value v) W' => Ext W W' ∧ s.p v W'
 | .ok (.enter f args) W' => Calls P f args W' fun e W'' => ∃ v, e = .returned v ∧ Ext W W'' ∧ s.p v W''
 | _ => False
/-- what an operation's operands hold: what those that it waits for have yielded, or what they held before the region -/
structure Holds (ls : List Oper) (a : Act) (o : Oper) (val : Nat → Value) (ρ : Operand → Value) : Prop where
 dep : ∀ j ∈ depsOf o, ∀ t, dstOf ls j = some t → ρ (.tmp t) = val j
 old : ∀ t, (∀ j ∈ depsOf o, dstOf ls j ≠ some t) → ρ (.tmp t) = a.eval (.tmp t)
 const : ∀ c, ρ (.const c) = c
 func : ∀ f, ρ (.func f) = .func (.func f) #[] #[]
def StepOk1 (P : Program) (w : World) (ls : List Oper) (S : Nat → Sp) (a : Act) (o : Oper) (s : Sp) : Prop :=
 ∀ (val : Nat → Value) (ρ : Operand → Value) (W : World), Ext w W → (∀ j ∈ depsOf o, (S j).p (val j) W) → Holds ls a o val ρ → Run1 P o ρ W s
def StepsOk1 (P : Program) (w : World) (ls : List Oper) (S : Nat → Sp) (a : Act) : List Oper → List Sp → Prop
 | [], _ => True
 | _ :: _, [] => False
 | o :: os, s :: ss => StepOk1 P w ls S a o s ∧ StepsOk1 P w ls S a os ss
def dstB (ls : List Oper) : Bool := ls.all fun o => o.dst.isSome
theorem stepOk_of {P : Program} {w : World} {ls : List Oper} {S : Nat → Sp} {a : Act} {i : Nat} {o : Oper} (hB : relB ls a.tmps.size = true) (hi : ls[i]? = some o) (hd : o.dst.isSome = true) (h : StepOk1 P w ls S a o (S i)) : StepOk P w ls S a i o := by
 intro val W hE hS
 have hR := relB_at hB hi
 have hilt : i < ls.length := (List.getElem?_eq_some_iff.1 hi).1
 have hH : Holds ls a o val (frameOf ls val a (depsOf o)).eval := by
  refine ⟨fun j hj t ht => ?_, fun t ht => ?_, fun _ => rfl, fun _ => rfl⟩
  ·have hji := hR.dep j hj
   have hj' : ls[j]? = some (ls[j]'(by omega)) := List.getElem?_eq_getElem (by omega)
   have hRj := relB_at hB hj'
   have hdst : (ls[j]'(by omega)).dst = some t := by unfold dstOf at ht; rw [hj'] at ht; exact ht
   have := frame_on val ht (depsOf o) a (fun k hk hd2 => by
    by_cases hkj : k = j
    ·exact hkj
    ·exact absurd hd2 (hRj.ne k (by have := hR.dep k hk; omega) hkj t hdst)) (hRj.d t hdst) (.inl hj)
   simp [Act.eval, Array.getD_eq_getD_getElem?, this]
  ·have := frame_off ls val (depsOf o) a (fun j hj => ht j hj)
   simp only [Act.eval, Array.getD_eq_getD_getElem?, this]
 have hr := h val _ W hE hS hH
 unfold Run1 at hr
 obtain ⟨d, hd'⟩ := Option.isSome_iff_exists.1 hd
 have hwant : ∀ y, Region.wanted o y = true := fun y => by simp [Region.wanted, hR.g]
 have hsz : ∀ d, o.dst = some d → d < (frameOf ls val a (depsOf o)).tmps.size := fun d hd => by rw [frame_size]; exact hR.d d hd
 have hgot : ∀ v, got o ((frameOf ls val a (depsOf o)).put o.dst v) = v := fun v => by rw [got_put hsz, hd']
 unfold wpList
 rw [if_pos (hwant _)]
 left
 unfold Oper.wp
 generalize (execOp (frameOf ls val a (depsOf o)).eval o).run P W = r at *
 cases r with
 | ok x W' =>
  cases x <;> simp only [Oper.upon] at hr ⊢
  case value v => exact ⟨rfl, by rw [put_defers, frame_defers], hr.1, by rw [hgot]; exact hr.2⟩
  case enter f args =>
   refine Calls.mono hr fun e W'' ⟨v, he, h1, h2⟩ => ?_
   subst he
   exact ⟨rfl, by rw [put_defers, frame_defers], h1, by rw [hgot]; exact h2⟩
 | halt x W' => cases hr
theorem StepsOk1.at {P : Program} {w : World} {ls : List Oper} {S : Nat → Sp} {a : Act} : ∀ {os : List Oper} {ss : List Sp}, StepsOk1 P w ls S a os ss → ∀ {j : Nat} {o : Oper}, os[j]? = some o → StepOk1 P w ls S a o (ss.getD j spT)
 | [], _, _, j, o, h => by simp at h
 | x :: os, [], hs, _, _, _ => hs.elim
 | x :: os, s :: ss, hs, 0, o, h => by
  simp at h
  subst h
  exact hs.1
 | x :: os, s :: ss, hs, j + 1, o, h => by
  have := StepsOk1.at hs.2 (j := j) (o := o) (by simpa using h)
  simpa using this
/-- the frame at the end, by the slots alone -/
def putD : List (Option Tmp) → Nat → (Nat → Value) → Act → Act
 | [], _, _, a => a
 | d :: ds, i, val, a => putD ds (i + 1) val (a.put d (val i))
theorem frame_putD {ls : List Oper} {val : Nat → Value} : ∀ (os : List Oper) (i : Nat) (a : Act), (∀ j o, os[j]? = some o → dstOf ls (i + j) = o.dst) → frameOf ls val a (List.range' i os.length) = putD (os.map (·.dst)) i val a
 | [], _, _, _ => rfl
 | o :: os, i, a, h => by
  rw [List.length_cons, List.range'_succ, frameOf, List.map_cons, putD, frame_putD os (i + 1) _ fun j o hj => by have := h (j + 1) o (by simpa using hj); rwa [Nat.add_assoc, Nat.add_comm 1 j]]
  have := h 0 o rfl
  rw [Nat.add_zero] at this
  rw [this]
/-- what all have yielded -/
def AllP : List Sp → Nat → (Nat → Value) → World → Prop
 | [], _, _, _ => True
 | s :: ss, i, val, W => s.p (val i) W ∧ AllP ss (i + 1) val W
theorem allP_of {W : World} {val : Nat → Value} : ∀ (ss : List Sp) (i : Nat), (∀ j, j < ss.length → (ss.getD j spT).p (val (i + j)) W) → AllP ss i val W
 | [], _, _ => trivial
 | s :: ss, i, h => ⟨by have := h 0 (by simp); simpa using this, allP_of ss (i + 1) fun j hj => by have := h (j + 1) (by simp; omega); rw [Nat.add_assoc, Nat.add_comm 1 j]; simpa using this⟩
theorem wp_region_wander1 {P : Program} {id : Nat} {Q : Exit → Act → World → Prop} {a : Act} {w : World} {ls : List Oper} (S : List Sp) (hm : P.follows .mixedOrders = true) (hB : relB ls a.tmps.size = true) (hD : dstB ls = true)
  (hstep : StepsOk1 P w ls (fun i => S.getD i spT) a ls S)
  (D : List (Option Tmp)) (hDs : ls.map (·.dst) = D) (hlen : S.length = ls.length)
  (hend : ∀ (val : Nat → Value) (W : World), Ext w W → AllP S 0 val W → Q .normal (putD D 0 val a) W) :
  (Code.region id ls.toArray true).wp P Q a w := by
 refine wp_region_any hm ?_
 have hend : ∀ (val : Nat → Value) (W : World), Ext w W → (∀ j, j < ls.length → (S.getD j spT).p (val j) W) → Q .normal (frameOf ls val a (List.range ls.length)) W := fun val W hE hS => by
  rw [List.range_eq_range', frame_putD ls 0 a (fun j o hj => by rw [Nat.zero_add]; unfold dstOf; rw [hj]; rfl), hDs]
  exact hend val W hE (allP_of S 0 fun j hj => by rw [Nat.zero_add]; exact hS j (by omega))
 refine wander (S := fun i => S.getD i spT) hB (fun i o hi => stepOk_of hB hi ?_ (hstep.at hi)) hend _ _ _ _ (by simp) ?_ ⟨Ext.dr (Below.refl _ _), fun _ => undef, fun j _ hl => ?_, rfl, rfl, fun j s _ hl => ?_, fun _ _ => rfl⟩
 ·exact List.all_eq_true.1 hD o (List.mem_of_getElem? hi)
 ·have := List.countP_le_length (p := fun j => !((Array.replicate ls.toArray.size false).getD j false)) (l := List.range ls.length)
  simpa using this
 ·rw [getD_replicate] at hl; cases hl
 ·rw [getD_replicate] at hl; cases hl

section
variable {P : Program} {o : Oper} {ρ : Operand → Value} {W : World} {s : Sp}
theorem run1_call (f : FuncId) (xs : Array Operand) (ats : Array TypeId) (h : o.op = .call { callee := .value (.func f), args := xs, argTypes := ats }) (args : Array Value) (hf : ρ (.func f) = .func (.func f) #[] #[]) (ha : xs.map ρ = args) (hc : ∀ args W, (callFunc f args).run P W = .ok (.enter f args) W)
  (hs : Calls P f args W fun e W'' => ∃ v, e = .returned v ∧ Ext W W'' ∧ s.p v W'') : Run1 P o ρ W s := by
 obtain ⟨dst, op, type, pos, after, guard⟩ := o
 simp only at h
 subst h
 have e : execOp ρ { dst, op := .call { callee := .value (.func f), args := xs, argTypes := ats }, type, pos, after, guard } = callFunc f (#[] ++ xs.map ρ ++ #[]) := by
  simp only [execOp, resolve, hf]
  rfl
 unfold Run1
 rw [e, ha, Array.append_empty, Array.empty_append, hc]
 exact hs
theorem run1_val {v : Value} {W' : World} (h : (execOp ρ o).run P W = .ok (.value v) W') (hE : Ext W W') (hs : s.p v W') : Run1 P o ρ W s := by
 unfold Run1
 rw [h]
 exact ⟨hE, hs⟩
theorem run1_move (x : Operand) (h : o.op = .move x) (hs : s.p (ρ x) W) : Run1 P o ρ W s := run1_val (by unfold execOp; rw [h]; rfl) (Below.refl _ _) hs
theorem run1_assign (x : Operand) (h : o.op = .assign x) (hs : s.p (ρ x) W) : Run1 P o ρ W s := run1_val (by unfold execOp; rw [h]; rfl) (Below.refl _ _) hs
theorem run1_extract (x : Operand) (i : Nat) (h : o.op = .extract x i) (vs : Array Value) (v : Value) (hx : ρ x = .tuple vs) (hv : vs[i]? = some v) (hs : s.p v W) : Run1 P o ρ W s :=
 run1_val (v := v) (W' := W) (by unfold execOp; rw [h]; simp [Instr.extract, hx, hv]) (Below.refl _ _) hs
end
end Go.Proofs.Ytphajlldghcnnaa
namespace Go.Proofs.Ytphajlldghcnnaa
open Go.RowKit Go.Shelf
/-- what an operation yields: of its value and of those that it waits for, us -/
structure Sq where
 us : List Nat
 p : List Value → Value → World → Prop
 hard : Bool
 m : ∀ l v w w', p l v w → Ext w w' → p l v w'
 hm : hard = true → ∀ l v w w', p l v w → p l v w'
def sqV (v0 : Value) : Sq := ⟨[], fun _ v _ => v = v0, true, fun _ _ _ _ h _ => h, fun _ _ _ _ _ h => h⟩
def sqT : Sq := ⟨[], fun _ _ _ => True, true, fun _ _ _ _ h _ => h, fun _ _ _ _ _ h => h⟩
def sqW (p : Value → World → Prop) (m : ∀ v w w', p v w → Ext w w' → p v w') : Sq := ⟨[], fun _ => p, false, fun _ => m, fun h => by cases h⟩
def sqD (us : List Nat) (p : List Value → Value → World → Prop) (m : ∀ l v w w', p l v w → Ext w w' → p l v w') : Sq := ⟨us, p, false, m, fun h => by cases h⟩
/-- it speaks of those alone that it waits for -/
def usB (ls : List Oper) (S : List Sq) : Bool := (List.range ls.length).all fun i => match ls[i]? with
 | none => true
 | some o => (S.getD i sqT).us.all fun k => (depsOf o).contains k
/-- those whose yield it uses -/
def usesOf (ls : List Oper) (o : Oper) : List Nat := (depsOf o).filter fun j => o.op.operands.toList.any fun x => match x with | .tmp s => dstOf ls j == some s | _ => false
/-- all that an operation waits for, through others too -/
def ancL (ls : List Oper) : List (List Nat) := ls.foldl (fun acc o => acc ++ [((depsOf o).flatMap fun j => j :: acc.getD j []).eraseDups]) []
def ancB (ls : List Oper) (A : List (List Nat)) : Bool :=
 (List.range ls.length).all fun j => (A.getD j []).all fun i => match ls[j]? with
  | none => false
  | some o => (depsOf o).any fun d => d == i || (A.getD d []).contains i
/-- does an operation end what another one has yielded? -/
def killB (A : List (List Nat)) (hd st : List Bool) (k j : Nat) : Bool := st.getD k false && !hd.getD j true && !(k == j) && !(A.getD j []).contains k
def orderB (ls : List Oper) (A : List (List Nat)) (hd st : List Bool) : Bool :=
 ancB ls A && (List.range ls.length).all fun i => match ls[i]? with
  | none => true
  | some o => (usesOf ls o).all fun j => (List.range ls.length).all fun k => !killB A hd st k j || k == i || (A.getD k []).contains i
def DownC (ls : List Oper) (listed : Array Bool) : Prop := ∀ (j : Nat) (o : Oper), ls[j]? = some o → listed.getD j false = true → ∀ d ∈ depsOf o, listed.getD d false = true
theorem anc_listed {ls : List Oper} {A : List (List Nat)} {size : Nat} (hR : relB ls size = true) (hA : ancB ls A = true) {listed : Array Bool} (hc : DownC ls listed) : ∀ (j : Nat), j < ls.length → listed.getD j false = true → ∀ i ∈ A.getD j [], listed.getD i false = true := by
 intro j
 induction j using Nat.strongRecOn with
 | _ j ih =>
  intro hj hl i hi
  have h1 := List.all_eq_true.1 (List.all_eq_true.1 hA j (List.mem_range.2 hj)) i hi
  have hj' : ls[j]? = some ls[j] := List.getElem?_eq_getElem hj
  rw [hj'] at h1
  obtain ⟨d, hd, h2⟩ := List.any_eq_true.1 h1
  have hdl := hc j _ hj' hl d hd
  have hdj := (relB_at hR hj').dep d hd
  rw [Bool.or_eq_true] at h2
  rcases h2 with h2 | h2
  ·have : d = i := by simpa using h2
   subst this; exact hdl
  ·exact ih d hdj (by omega) hdl i (by simpa using h2)
def Alive (n : Nat) (A : List (List Nat)) (hd st : List Bool) (listed : Array Bool) (j : Nat) : Prop := ∀ k, k < n → listed.getD k false = true → killB A hd st k j = false
/-- what holds when some operations have been carried out -/
def RInv (w : World) (B : Nat) (ls : List Oper) (S : Nat → Sq) (A : List (List Nat)) (hd st : List Bool) (a : Act) (listed : Array Bool) (a' : Act) (W : World) : Prop :=
 Below B w W ∧ DownC ls listed ∧ ((∀ k, k < ls.length → listed.getD k false = true → st.getD k false = false) → Ext w W) ∧ ∃ val : Nat → Value, (∀ j, j < ls.length → listed.getD j false = true → Alive ls.length A hd st listed j → (S j).p ((S j).us.map val) (val j) W) ∧ a'.defers = a.defers ∧ a'.tmps.size = a.tmps.size ∧
  (∀ j s, dstOf ls j = some s → listed.getD j false = true → a'.tmps[s]? = some (val j)) ∧ (∀ s, (∀ j, listed.getD j false = true → dstOf ls j ≠ some s) → a'.tmps[s]? = a.tmps[s]?)
/-- what an operation may do to the world -/
def Eff (B : Nat) (strong : Bool) (W W' : World) : Prop := if strong then Below B W W' else Ext W W'
/-- one operation, carried out once: what it yields -/
def RunQ (P : Program) (B : Nat) (strong : Bool) (o : Oper) (ρ : Operand → Value) (W : World) (val : Nat → Value) (s : Sq) : Prop :=
 match (execOp ρ o).run P W with
 | .ok (.value v) W' => Eff B strong W W' ∧ s.p (s.us.map val) (match o.dst with | some _ => v | none => undef) W'
 | .ok .skip W' => Eff B strong W W' ∧ s.p (s.us.map val) undef W'
 | .ok (.enter f args) W' => Calls P f args W' fun e W'' => ∃ v, e = .returned v ∧ Eff B strong W W'' ∧ s.p (s.us.map val) (match o.dst with | some _ => v | none => undef) W''
 | _ => False
/-- does it come before all that turn memory? -/
def earlyL (n : Nat) (A : List (List Nat)) (st : List Bool) : List Bool := (List.range n).map fun i => (List.range n).all fun k => !st.getD k false || k == i || (A.getD k []).contains i
def StepQ (P : Program) (w : World) (B : Nat) (ls : List Oper) (S : Nat → Sq) (a : Act) (strong early : Bool) (o : Oper) (s : Sq) : Prop :=
 ∀ (val : Nat → Value) (ρ : Operand → Value) (W : World), Below B w W → w.heap.size ≤ W.heap.size → (∀ j ∈ usesOf ls o, (S j).p ((S j).us.map val) (val j) W) → Holds ls a o val ρ → (early = true → Ext w W) → RunQ P B strong o ρ W val s
theorem Eff.below {B : Nat} {s : Bool} {W W' : World} (h : Eff B s W W') (hB : B ≤ W.heap.size) : Below B W W' := by
 unfold Eff at h
 cases s
 ·exact h.mono hB
 ·exact h
theorem undef_put (a : Act) (d : Option Tmp) (v : Value) : a.put d v = a.put d (match d with | some _ => v | none => undef) := by cases d <;> rfl
/-- one operation, carried out; what it enters returns -/
def wpL1 (P : Program) (o : Oper) (a : Act) (w : World) (K : Act → World → Prop) : Prop := match (execOp a.eval o).run P w with
 | .ok (.value v) w' => K (a.put o.dst v) w'
 | .ok .skip w' => K (a.put o.dst undef) w'
 | .ok (.enter f args) w' => Calls P f args w' fun e w'' => ∃ v, e = .returned v ∧ K (a.put o.dst v) w''
 | _ => False
def wpOpL (P : Program) (ops : Array Oper) (i : Nat) (K : Act → World → Prop) (a : Act) (w : World) : Prop :=
 match ops[i]? with
 | none => K a w
 | some o => if Region.wanted o (yielded ops a.tmps) then wpL1 P o a w K else K (a.put o.dst undef) w
/-- all orders; no operation leaves the region -/
def wpAnyL (P : Program) (md : Region.Mode) (ops : Array Oper) (Q : Act → World → Prop) : Nat → Array Bool → Act → World → Prop
 | 0, listed, a, w => Region.ready md ops listed = [] ∧ Q a w
 | fuel + 1, listed, a, w => (Region.ready md ops listed = [] → Q a w) ∧ ∀ i ∈ Region.ready md ops listed, wpOpL P ops i (wpAnyL P md ops Q fuel (listed.setIfInBounds i true)) a w
theorem wp_of_L {P : Program} {o : Oper} {a : Act} {w : World} {K K' : Act → World → Prop} {Q : Exit → Act → World → Prop} (hk : ∀ a w, K a w → K' a w) (h : wpL1 P o a w K) : o.wp P a w K' Q := by
 unfold wpL1 at h
 unfold Oper.wp
 generalize (execOp a.eval o).run P w = r at *
 cases r with
 | ok x w' =>
  cases x <;> simp only [Oper.upon] at h ⊢
  case value v => exact hk _ _ h
  case skip => exact hk _ _ h
  case enter f args =>
   refine Calls.mono h fun e w'' ⟨v, he, q⟩ => ?_
   subst he
   exact hk _ _ q
 | halt x w' => cases h
theorem wpIn_of_L {P : Program} {n : Nat} {ro : Option Nat} {o : Oper} {a : Act} {w : World} {K K' : Act → World → Prop} {Q : Exit → Act → World → Prop} (hk : ∀ a w, K a w → K' a w) (h : wpL1 P o a w K) : o.wpIn (FW ro) n P a w K' Q := by
 unfold wpL1 at h
 have e : (o.semAt (FW ro).round a.eval) = execOp a.eval o := by
  refine Oper.semAt_plain (FW ro) a.eval o fun c hc => ?_
  rw [show execOp a.eval o = execOp a.eval { o with op := .defer c } by rw [← hc]] at h
  revert h
  unfold execOp
  simp
  generalize (resolve a.eval c o.type).run P w = r
  cases r <;> simp [Result.andThen]
 refine ⟨fun _ _ => trivial, ?_⟩
 rw [e]
 generalize (execOp a.eval o).run P w = r at *
 cases r with
 | ok x w' =>
  cases x <;> simp only [Oper.uponIn] at h ⊢
  case value v => exact hk _ _ h
  case skip => exact hk _ _ h
  case enter f args =>
   refine ⟨fun hd => by simp [FW] at hd, callsFW (h.mono fun e w'' ⟨v, he, q⟩ => ?_)⟩
   subst he
   exact hk _ _ q
 | halt x w' => cases h
theorem wpAny_of_L {P : Program} {md : Region.Mode} {ops : Array Oper} {Q : Exit → Act → World → Prop} : ∀ (fuel : Nat) (listed : Array Bool) (a : Act) (w : World), wpAnyL P md ops (Q .normal) fuel listed a w → wpAny P md ops Q fuel listed a w
 | 0, _, _, _, h => h
 | fuel + 1, listed, a, w, ⟨h1, h2⟩ => ⟨h1, fun i hi => by
   have h3 := h2 i hi
   unfold wpOpL at h3
   unfold wpOp
   split at h3
   ·rename_i ho; simp only [ho]; exact wpAny_of_L fuel _ _ _ h3
   ·rename_i o ho
    simp only [ho]
    split at h3
    ·rename_i hw; rw [if_pos hw]; exact .inl (wp_of_L (fun a w => wpAny_of_L fuel _ a w) h3)
    ·rename_i hw; rw [if_neg hw]; exact wpAny_of_L fuel _ _ _ h3⟩
theorem wpAnyIn_of_L {P : Program} {n : Nat} {ro : Option Nat} {md : Region.Mode} {ops : Array Oper} {Q : Exit → Act → World → Prop} : ∀ (fuel : Nat) (listed : Array Bool) (a : Act) (w : World), wpAnyL P md ops (Q .normal) fuel listed a w → wpAnyIn (FW ro) n P md ops Q fuel listed a w
 | 0, _, _, _, h => h
 | fuel + 1, listed, a, w, ⟨h1, h2⟩ => ⟨h1, fun i hi => by
   have h3 := h2 i hi
   unfold wpOpL at h3
   unfold wpOpIn
   split at h3
   ·rename_i ho; simp only [ho]; exact wpAnyIn_of_L fuel _ _ _ h3
   ·rename_i o ho
    simp only [ho]
    split at h3
    ·rename_i hw; rw [if_pos hw]; exact wpIn_of_L (fun a w => wpAnyIn_of_L fuel _ a w) h3
    ·rename_i hw; rw [if_neg hw]; exact ⟨fun _ _ => trivial, wpAnyIn_of_L fuel _ _ _ h3⟩⟩
theorem rove {P : Program} {w : World} {B : Nat} (hBw : B ≤ w.heap.size) {ls : List Oper} {S : Nat → Sq} {A : List (List Nat)} {hd st : List Bool} {a : Act} {Q : Act → World → Prop} (hB : relB ls a.tmps.size = true) (hO : orderB ls A hd st = true)
  (hhd : ∀ j, hd.getD j true = true → (S j).hard = true) (hus : ∀ i o, ls[i]? = some o → ∀ k ∈ (S i).us, k ∈ depsOf o)
  (hstep : ∀ i o, ls[i]? = some o → StepQ P w B ls S a (st.getD i false) ((earlyL ls.length A st).getD i false) o (S i))
  (hend : ∀ (val : Nat → Value) (W : World), Below B w W → (∀ j, j < ls.length → (∀ k, k < ls.length → killB A hd st k j = false) → (S j).p ((S j).us.map val) (val j) W) → Q (frameOf ls val a (List.range ls.length)) W) :
  ∀ (fuel : Nat) (listed : Array Bool) (a' : Act) (W : World), listed.size = ls.length → (List.range ls.length).countP (fun j => !listed.getD j false) ≤ fuel → w.heap.size ≤ W.heap.size → RInv w B ls S A hd st a listed a' W →
   wpAnyL P .any ls.toArray Q fuel listed a' W := by
 simp only [orderB, Bool.and_eq_true] at hO
 obtain ⟨hA, hO⟩ := hO
 have fin : ∀ (listed : Array Bool) (a' : Act) (W : World), listed.size = ls.length → RInv w B ls S A hd st a listed a' W → (∀ j, j < ls.length → listed.getD j false = true) → Q a' W := by
  intro listed a' W hs ⟨hE, hc, _, val, h1, h2, h3, h4, h5⟩ hall
  have e : a' = frameOf ls val a (List.range ls.length) := by
   refine act_ext (by rw [h2, frame_defers]) (by rw [h3, frame_size]) fun s => ?_
   by_cases hx : ∃ j, j < ls.length ∧ dstOf ls j = some s
   ·obtain ⟨j, hj, hd⟩ := hx
    have hj' : ls[j]? = some ls[j] := List.getElem?_eq_getElem hj
    have hR := relB_at hB hj'
    have hdst : ls[j].dst = some s := by unfold dstOf at hd; rw [hj'] at hd; exact hd
    rw [h4 j s hd (hall j hj), frame_on val hd _ _ (fun k hk hd2 => ?_) (hR.d s hdst) (.inl (List.mem_range.2 hj))]
    by_cases hkj : k = j
    ·exact hkj
    ·exact absurd hd2 (hR.ne k (List.mem_range.1 hk) hkj s hdst)
   ·rw [h5 s fun j hl hd => hx ⟨j, ?_, hd⟩, frame_off ls val _ _ fun j hj hd => hx ⟨j, List.mem_range.1 hj, hd⟩]
    unfold dstOf at hd
    rcases Nat.lt_or_ge j ls.length with hj | hj
    ·exact hj
    ·rw [List.getElem?_eq_none hj] at hd; cases hd
  rw [e]
  exact hend val W hE fun j hj hk => h1 j hj (hall j hj) fun k hkl _ => hk k hkl
 have allL : ∀ (listed : Array Bool), listed.size = ls.length → Region.ready .any ls.toArray listed = [] → ∀ j, j < ls.length → listed.getD j false = true := by
  intro listed hs h0 j
  induction j using Nat.strongRecOn with
  | _ j ih =>
   intro hj
   cases hl : listed.getD j false with
   | true => rfl
   | false =>
    exfalso
    have hj' : ls[j]? = some ls[j] := List.getElem?_eq_getElem hj
    have hR := relB_at hB hj'
    have hin : j ∈ Region.ready .any ls.toArray listed := by
     refine mem_ready.2 ⟨?_, ls[j], by simp [hj], fun e he hb => ?_⟩
     ·have hjs : j < listed.size := by omega
      simp [hjs] at hl ⊢
      exact hl
     ·have hd : e.on ∈ depsOf ls[j] := List.mem_map.2 ⟨e, List.mem_filter.2 ⟨by simpa using he, hb⟩, rfl⟩
      have hlt := hR.dep _ hd
      exact ih _ hlt (by omega)
    rw [h0] at hin
    cases hin
 have step : ∀ (listed : Array Bool) (a' : Act) (W : World) (i : Nat) (K : Act → World → Prop), listed.size = ls.length → w.heap.size ≤ W.heap.size → RInv w B ls S A hd st a listed a' W → i ∈ Region.ready .any ls.toArray listed →
   (∀ a2 W2, w.heap.size ≤ W2.heap.size → RInv w B ls S A hd st a (listed.setIfInBounds i true) a2 W2 → K a2 W2) → wpOpL P ls.toArray i K a' W := by
  intro listed a' W i K hs hsz0 ⟨hE, hc, hx0, val, h1, h2, h3, h4, h5⟩ hi hK
  obtain ⟨hl, o, ho, hdeps⟩ := mem_ready.1 hi
  have ho' : ls[i]? = some o := by simpa using ho
  have hilt : i < ls.length := (List.getElem?_eq_some_iff.1 ho').1
  have hR := relB_at hB ho'
  have hdl : ∀ j ∈ depsOf o, listed.getD j false = true := fun j hj => by
   obtain ⟨e, he, rfl⟩ := List.mem_map.1 hj
   obtain ⟨he1, he2⟩ := List.mem_filter.1 he
   exact hdeps e (by simpa using he1) he2
  have hilf : listed.getD i false = false := by
   have : i < listed.size := by omega
   simp [this] at hl ⊢
   exact hl
  have hnl : ∀ {b : Prop}, listed.getD i false = true → b := fun h => by rw [hilf] at h; cases h
  have hanc := anc_listed hB hA hc
  have hev : ∀ x ∈ o.op.operands, a'.eval x = (frameOf ls val a (depsOf o)).eval x := fun x hx => by
   cases x with
   | tmp s =>
    have hh : a'.tmps[s]? = (frameOf ls val a (depsOf o)).tmps[s]? := by
     rcases hR.x s hx with ⟨j, hj, hd⟩ | hno
     ·have hji := hR.dep j hj
      have hj' : ls[j]? = some (ls[j]'(by omega)) := List.getElem?_eq_getElem (by omega)
      have hRj := relB_at hB hj'
      have hdst : (ls[j]'(by omega)).dst = some s := by unfold dstOf at hd; rw [hj'] at hd; exact hd
      rw [h4 j s hd (hdl j hj), frame_on val hd _ _ (fun k hk hd2 => ?_) (hRj.d s hdst) (.inl hj)]
      by_cases hkj : k = j
      ·exact hkj
      ·exact absurd hd2 (hRj.ne k (by have := hR.dep k hk; omega) hkj s hdst)
     ·rw [h5 s fun j hl hd => ?_, frame_off ls val _ _ fun j hj => hno j (by have := hR.dep j hj; omega)]
      rcases Nat.lt_or_ge j ls.length with hj | hj
      ·exact hno j hj hd
      ·unfold dstOf at hd; rw [List.getElem?_eq_none hj] at hd; cases hd
    simp only [Act.eval, Array.getD_eq_getD_getElem?, hh]
   | _ => rfl
  have hx := execOp_congr o hR.s hev
  have hH : Holds ls a o val (frameOf ls val a (depsOf o)).eval := by
   refine ⟨fun j hj t ht => ?_, fun t ht => ?_, fun _ => rfl, fun _ => rfl⟩
   ·have hji := hR.dep j hj
    have hj' : ls[j]? = some (ls[j]'(by omega)) := List.getElem?_eq_getElem (by omega)
    have hRj := relB_at hB hj'
    have hdst : (ls[j]'(by omega)).dst = some t := by unfold dstOf at ht; rw [hj'] at ht; exact ht
    have := frame_on val ht (depsOf o) a (fun k hk hd2 => by
     by_cases hkj : k = j
     ·exact hkj
     ·exact absurd hd2 (hRj.ne k (by have := hR.dep k hk; omega) hkj t hdst)) (hRj.d t hdst) (.inl hj)
    simp [Act.eval, Array.getD_eq_getD_getElem?, this]
   ·have := frame_off ls val (depsOf o) a (fun j hj => ht j hj)
    simp only [Act.eval, Array.getD_eq_getD_getElem?, this]
  have hdepS : ∀ j ∈ usesOf ls o, (S j).p ((S j).us.map val) (val j) W := fun j hju => by
   have hj : j ∈ depsOf o := (List.mem_filter.1 hju).1
   refine h1 j (by have := hR.dep j hj; omega) (hdl j hj) fun k hk hlk => ?_
   cases hkl : killB A hd st k j with
   | false => rfl
   | true =>
    have q := List.all_eq_true.1 hO i (List.mem_range.2 hilt)
    rw [ho'] at q
    have q2 := List.all_eq_true.1 (List.all_eq_true.1 q j hju) k (List.mem_range.2 hk)
    rw [hkl] at q2
    simp only [Bool.not_true, Bool.false_or, Bool.or_eq_true] at q2
    rcases q2 with q2 | q2
    ·have : k = i := by simpa using q2
     subst this; exact hnl hlk
    ·exact hnl (hanc k hk hlk i (by simpa using q2))
  have hw := hstep i o ho' val _ W hE hsz0 hdepS hH fun he => hx0 fun k hk hlk => by
   simp only [earlyL, List.getD_eq_getElem?_getD, List.getElem?_map, List.getElem?_range hilt, Option.map_some, Option.getD_some] at he
   have q := List.all_eq_true.1 he k (List.mem_range.2 hk)
   simp only [Bool.or_eq_true, Bool.not_eq_true'] at q
   rcases q with (q | q) | q
   ·simpa [List.getD_eq_getElem?_getD] using q
   ·have : k = i := by simpa using q
    subst this; exact hnl hlk
   ·exact hnl (hanc k hk hlk i (by simpa [List.getD_eq_getElem?_getD] using q))
  have hwant : ∀ y, Region.wanted o y = true := fun y => by simp [Region.wanted, hR.g]
  unfold wpOpL
  rw [ho]
  simp only
  rw [if_pos (hwant _)]
  have hupd : ∀ (j : Nat) (oj : Oper), ls[j]? = some oj → (listed.getD j false = true ∨ j = i) → (S j).us.map (fun k => if k = i then (match o.dst with | some _ => undef | none => undef) else val k) = (S j).us.map val ∧ ∀ u : Value, (S j).us.map (fun k => if k = i then u else val k) = (S j).us.map val := fun j oj hj hlj => by
   have key : ∀ u : Value, (S j).us.map (fun k => if k = i then u else val k) = (S j).us.map val := fun u => List.map_congr_left fun k hk => by
    have hkd := hus j oj hj k hk
    have hkl : listed.getD k false = true := by
     rcases hlj with h | rfl
     ·exact hc j oj hj h k hkd
     ·rw [ho'] at hj; cases hj; exact hdl k hkd
    have : k ≠ i := fun e => by subst e; exact hnl hkl
    rw [if_neg this]
   exact ⟨key _, key⟩
  have next : ∀ v W', Eff B (st.getD i false) W W' → (S i).p ((S i).us.map val) (match o.dst with | some _ => v | none => undef) W' → K (a'.put o.dst v) W' := fun v W' hE' hS => by
   have hsz1 : W.heap.size ≤ W'.heap.size := by
    unfold Eff at hE'
    split at hE'
    ·exact hE'.size
    ·exact hE'.size
   refine hK _ _ (by omega) ⟨hE.trans (hE'.below (by omega)), fun j oj hj hlj d hd => ?_, fun hns => ?_, fun j => if j = i then (match o.dst with | some _ => v | none => undef) else val j, fun j hj hlj hal => ?_, by rw [put_defers, h2], by rw [put_size, h3], fun j s hd hlj => ?_, fun s hno => ?_⟩
   ·by_cases hji : j = i
    ·subst hji
     rw [ho'] at hj
     cases hj
     exact getD_set_true (hdl d hd)
    ·rw [getD_set_ne false (Ne.symm hji)] at hlj
     exact getD_set_true (hc j oj hj hlj d hd)
   ·have hst := hns i hilt (by simp [hs, hilt])
    rw [hst] at hE'
    exact (hx0 fun k hk hlk => hns k hk (getD_set_true hlk)).trans' hE'
   ·by_cases hji : j = i
    ·subst hji; rw [(hupd j o ho' (.inr rfl)).2]; simp only [if_true]; exact hS
    ·rw [getD_set_ne false (Ne.symm hji)] at hlj
     rw [(hupd j _ (List.getElem?_eq_getElem hj) (.inl hlj)).2]
     simp only [hji, if_false]
     have hold := h1 j hj hlj fun k hk hlk => hal k hk (getD_set_true hlk)
     have hki := hal i hilt (by simp [hs, hilt])
     cases hst : st.getD i false with
     | false =>
      rw [hst] at hE'
      exact (S j).m _ _ _ _ hold hE'
     | true =>
      unfold killB at hki
      rw [hst] at hki
      have hij : (i == j) = false := by simpa using fun h => hji h.symm
      rw [hij] at hki
      simp only [Bool.true_and, Bool.not_false, Bool.and_true, Bool.and_eq_false_iff, Bool.not_eq_false'] at hki
      rcases hki with hki | hki
      ·exact (S j).hm (hhd j hki) _ _ _ _ hold
      ·exact hnl (hanc j hj hlj i (by simpa using hki))
   ·by_cases hji : j = i
    ·subst hji
     have hdst : o.dst = some s := by unfold dstOf at hd; rw [ho'] at hd; exact hd
     simp only [if_true, hdst]
     exact put_on _ _ (by rw [h3]; exact hR.d s hdst)
    ·rw [getD_set_ne false (Ne.symm hji)] at hlj
     simp only [hji, if_false]
     rw [put_off, h4 j s hd hlj]
     intro hdst
     rcases Nat.lt_or_ge j ls.length with hj | hj
     ·exact hR.ne j hj hji s hdst hd
     ·unfold dstOf at hd; rw [List.getElem?_eq_none hj] at hd; cases hd
   ·have hoi : o.dst ≠ some s := by
     have := hno i (by simp [hs, hilt])
     unfold dstOf at this
     rw [ho'] at this
     exact this
    rw [put_off _ _ hoi, h5 s fun j hlj => hno j (getD_set_true hlj)]
  unfold RunQ at hw
  unfold wpL1
  rw [hx]
  generalize (execOp (frameOf ls val a (depsOf o)).eval o).run P W = r at *
  cases r with
  | ok x W' =>
   cases x <;> simp only at hw ⊢
   case value v => exact next v W' hw.1 hw.2
   case skip => exact next undef W' hw.1 (by cases o.dst <;> exact hw.2)
   case enter f args =>
    refine Calls.mono hw fun e W'' ⟨v, he, q1, q2⟩ => ?_
    subst he
    exact ⟨v, rfl, next v W'' q1 q2⟩
  | halt x W' => cases hw
 intro fuel
 induction fuel with
 | zero =>
  intro listed a' W hs hf hz hW
  have hall : ∀ j, j < ls.length → listed.getD j false = true := fun j hj => by
   have h0 : (List.range ls.length).countP (fun j => !listed.getD j false) = 0 := by omega
   rw [List.countP_eq_zero] at h0
   have := h0 j (List.mem_range.2 hj)
   simpa using this
  refine ⟨?_, fin listed a' W hs hW hall⟩
  rcases hr : Region.ready .any ls.toArray listed with _ | ⟨k, rs⟩
  ·rfl
  ·exfalso
   have hk : k ∈ Region.ready .any ls.toArray listed := by rw [hr]; simp
   obtain ⟨g1, ok, g2, _⟩ := mem_ready.1 hk
   have hlt : k < ls.length := by have := (Array.getElem?_eq_some_iff.1 g2).1; simpa using this
   have hka := hall k hlt
   have : k < listed.size := by omega
   simp [this] at g1 hka
   rw [g1] at hka
   cases hka
 | succ fuel ih =>
  intro listed a' W hs hf hz hW
  refine ⟨fun h0 => fin listed a' W hs hW (allL listed hs h0), fun i hi => ?_⟩
  refine step listed a' W i _ hs hz hW hi fun a2 W2 hz2 hW2 => ih _ a2 W2 (by simpa using hs) ?_ hz2 hW2
  obtain ⟨hl, o, ho, _⟩ := mem_ready.1 hi
  have hilt : i < ls.length := by have := (Array.getElem?_eq_some_iff.1 ho).1; simpa using this
  have his : i < listed.size := by omega
  have hcnt := countP_off (fun j => !listed.getD j false) (fun j => !(listed.setIfInBounds i true).getD j false) i ls.length (fun j hj => by rw [getD_set_ne false (Ne.symm hj)]) (by simp [his] at hl ⊢; exact hl) (by simp [his]) hilt
  omega
def StepsQ (P : Program) (w : World) (B : Nat) (ls : List Oper) (S : Nat → Sq) (a : Act) : List (Bool × Bool) → List Oper → List Sq → Prop
 | _, [], _ => True
 | _, _ :: _, [] => False
 | [], _ :: _, _ :: _ => False
 | b :: bs, o :: os, s :: ss => StepQ P w B ls S a b.1 b.2 o s ∧ StepsQ P w B ls S a bs os ss
theorem StepsQ.at {P : Program} {w : World} {B : Nat} {ls : List Oper} {S : Nat → Sq} {a : Act} : ∀ {st : List (Bool × Bool)} {os : List Oper} {ss : List Sq}, StepsQ P w B ls S a st os ss → ∀ {j : Nat} {o : Oper}, os[j]? = some o → StepQ P w B ls S a (st.getD j (false, false)).1 (st.getD j (false, false)).2 o (ss.getD j sqT)
 | _, [], _, _, j, o, h => by simp at h
 | bs, x :: os, [], hs, _, _, _ => by cases bs <;> exact False.elim hs
 | [], x :: os, s :: ss, hs, _, _, _ => False.elim hs
 | b :: bs, x :: os, s :: ss, hs, 0, o, h => by
  simp at h
  subst h
  exact hs.1
 | b :: bs, x :: os, s :: ss, hs, j + 1, o, h => by
  have := StepsQ.at hs.2 (j := j) (o := o) (by simpa using h)
  simpa using this
/-- what the operations have yielded whose predicates have not ended -/
def AllQ (keep : List Bool) : List Sq → Nat → (Nat → Value) → World → Prop
 | [], _, _, _ => True
 | s :: ss, i, val, W => (if keep.getD i false then s.p (s.us.map val) (val i) W else True) ∧ AllQ keep ss (i + 1) val W
theorem allQ_of {W : World} {val : Nat → Value} {keep : List Bool} : ∀ (ss : List Sq) (i : Nat), (∀ j, j < ss.length → keep.getD (i + j) false = true → (ss.getD j sqT).p ((ss.getD j sqT).us.map val) (val (i + j)) W) → AllQ keep ss i val W
 | [], _, _ => trivial
 | s :: ss, i, h => ⟨by
   split
   ·rename_i hk
    have := h 0 (by simp) (by simpa using hk)
    simpa using this
   ·trivial, allQ_of ss (i + 1) fun j hj hk => by
   have := h (j + 1) (by simp; omega) (by rw [← Nat.add_assoc, Nat.add_right_comm]; exact hk)
   rw [Nat.add_assoc, Nat.add_comm 1 j]; simpa using this⟩
def keepL (n : Nat) (A : List (List Nat)) (hd st : List Bool) : List Bool := (List.range n).map fun j => (List.range n).all fun k => !killB A hd st k j
theorem rove_any {P : Program} {Q : Act → World → Prop} {a : Act} {w : World} {ls : List Oper} (B : Nat) (hBw : B ≤ w.heap.size) (S : List Sq) (hd st keep ea : List Bool) (hB : relB ls a.tmps.size = true)
  (hO : orderB ls (ancL ls) hd st = true) (hK : keepL ls.length (ancL ls) hd st = keep) (hEa : earlyL ls.length (ancL ls) st = ea) (hsl : st.length = ls.length) (hhd : S.map (·.hard) = hd ∧ usB ls S = true)
  (hstep : StepsQ P w B ls (fun i => S.getD i sqT) a (st.zip ea) ls S)
  (D : List (Option Tmp)) (hDs : ls.map (·.dst) = D) (hlen : S.length = ls.length)
  (hend : ∀ (val : Nat → Value) (W : World), Below B w W → w.heap.size ≤ W.heap.size → AllQ keep S 0 val W → Q (putD D 0 val a) W) :
  wpAnyL P .any ls.toArray Q ls.toArray.size (Array.replicate ls.toArray.size false) a { w with drawn := w.drawn + 1 } := by
 have hend : ∀ (val : Nat → Value) (W : World), Below B w W → (∀ j, j < ls.length → (∀ k, k < ls.length → killB (ancL ls) hd st k j = false) → (S.getD j sqT).p ((S.getD j sqT).us.map val) (val j) W) → Q (frameOf ls val a (List.range ls.length)) W := fun val W hE hS => by
  rw [List.range_eq_range', frame_putD ls 0 a (fun j o hj => by rw [Nat.zero_add]; unfold dstOf; rw [hj]; rfl), hDs]
  refine hend val W hE hE.size (allQ_of S 0 fun j hj hk => ?_)
  rw [Nat.zero_add] at hk ⊢
  refine hS j (by omega) fun k hkl => ?_
  rw [← hK] at hk
  unfold keepL at hk
  have hjl : j < ls.length := by omega
  simp only [List.getD_eq_getElem?_getD, List.getElem?_map, List.getElem?_range hjl, Option.map_some, Option.getD_some] at hk
  have := List.all_eq_true.1 hk k (List.mem_range.2 hkl)
  simpa using this
 refine rove (A := ancL ls) (hd := hd) (st := st) hBw (S := fun i => S.getD i sqT) hB hO (fun j hj => ?_) (fun i o hi k hk => by
   have h1 := List.all_eq_true.1 hhd.2 i (List.mem_range.2 (List.getElem?_eq_some_iff.1 hi).1)
   rw [hi] at h1
   have h2 := List.all_eq_true.1 h1 k hk
   simpa using h2) (fun i o hi => ?hst) hend _ _ _ _ (by simp) ?_ (Nat.le_refl _) ⟨Below.drew (Below.refl _ _), fun j o _ hl => ?_, fun _ => Ext.dr (Below.refl _ _), fun _ => undef, fun j _ hl => ?_, rfl, rfl, fun j s _ hl => ?_, fun _ _ => rfl⟩
 ·rw [← hhd.1] at hj
  rcases Nat.lt_or_ge j S.length with h | h
  ·simpa [List.getD_eq_getElem?_getD, h] using hj
  ·simp [List.getD_eq_getElem?_getD, h, sqT]
 ·have h1 := hstep.at hi
  have hil : i < ls.length := (List.getElem?_eq_some_iff.1 hi).1
  have hel : ea.length = ls.length := by rw [← hEa]; simp [earlyL]
  have hz : (st.zip ea).getD i (false, false) = (st.getD i false, ea.getD i false) := by
   simp only [List.getD_eq_getElem?_getD, List.getElem?_eq_getElem (show i < (st.zip ea).length by simp; omega), List.getElem?_eq_getElem (show i < st.length by omega), List.getElem?_eq_getElem (show i < ea.length by omega), Option.getD_some, List.getElem_zip]
  rw [hz] at h1
  rw [hEa]
  exact h1
 ·have := List.countP_le_length (p := fun j => !((Array.replicate ls.toArray.size false).getD j false)) (l := List.range ls.length)
  simpa using this
 ·rw [getD_replicate] at hl; cases hl
 ·rw [getD_replicate] at hl; cases hl
 ·rw [getD_replicate] at hl; cases hl
theorem wp_region_rove {P : Program} {id : Nat} {Q : Exit → Act → World → Prop} {a : Act} {w : World} {ls : List Oper} (B : Nat) (hBw : B ≤ w.heap.size) (S : List Sq) (hd st keep ea : List Bool) (hm : P.follows .mixedOrders = true) (hB : relB ls a.tmps.size = true)
  (hO : orderB ls (ancL ls) hd st = true) (hK : keepL ls.length (ancL ls) hd st = keep) (hEa : earlyL ls.length (ancL ls) st = ea) (hsl : st.length = ls.length) (hhd : S.map (·.hard) = hd ∧ usB ls S = true)
  (hstep : StepsQ P w B ls (fun i => S.getD i sqT) a (st.zip ea) ls S)
  (D : List (Option Tmp)) (hDs : ls.map (·.dst) = D) (hlen : S.length = ls.length)
  (hend : ∀ (val : Nat → Value) (W : World), Below B w W → w.heap.size ≤ W.heap.size → AllQ keep S 0 val W → Q .normal (putD D 0 val a) W) :
  (Code.region id ls.toArray true).wp P Q a w := wp_region_any hm (wpAny_of_L _ _ _ _ (rove_any B hBw S hd st keep ea hB hO hK hEa hsl hhd hstep D hDs hlen hend))

section
variable {P : Program} {md : Region.Mode}
theorem wp_monoQ {o : Oper} {a : Act} {w : World} {K : Act → World → Prop} {Q Q' : Exit → Act → World → Prop} (hq : ∀ e a w, e ≠ .normal → Q e a w → Q' e a w) (hh : o.wp P a w K Q) : o.wp P a w K Q' := by
 unfold Oper.wp at *
 have hl : LetsOut Q → LetsOut Q' := fun ⟨a, w, h⟩ => ⟨a, w, hq _ _ _ (by simp) h⟩
 generalize (execOp a.eval o).run P w = r at *
 cases r with
 | ok x w' =>
  cases x <;> simp only [Oper.upon] at hh ⊢ <;>
   first
    | exact hh
    | exact Calls.mono hh (fun e w'' he => by cases e <;> first | exact he | exact hl he | exact hq _ _ _ (by simp) he)
 | halt x w' => cases x <;> simp only [Oper.upon] at hh ⊢ <;> first | exact hh | exact hq _ _ _ (by simp) hh
theorem wpAny_end {ops : Array Oper} {Q : Exit → Act → World → Prop} {listed : Array Bool} {a : Act} {w : World} (h0 : Region.ready md ops listed = []) (h : Q .normal a w) : ∀ fuel, wpAny P md ops Q fuel listed a w
 | 0 => ⟨h0, h⟩
 | _ + 1 => ⟨fun _ => h, fun i hi => by rw [h0] at hi; cases hi⟩
theorem wpAny_snoc {head : Array Oper} {o : Oper} {Q : Exit → Act → World → Prop} (hB : lastB md head o = true) : ∀ (fuel : Nat) (listed : Array Bool) (a : Act) (w : World), listed.size = head.size → Closed md head listed →
  wpAny P md head (Exit.then (fun a w => wpOp P (head.push o) Q head.size (Q .normal) a w) Q) fuel listed a w → wpAny P md (head.push o) Q (fuel + 1) (listed.push false) a w := by
 have last : ∀ (fuel : Nat) (listed : Array Bool) (a : Act) (w : World), listed.size = head.size → Closed md head listed → Region.ready md head listed = [] → wpOp P (head.push o) Q head.size (Q .normal) a w →
   wpAny P md (head.push o) Q (fuel + 1) (listed.push false) a w := by
  intro fuel listed a w hs hcl h0 h
  have hall := all_listed hB hs h0
  have hin : head.size ∈ Region.ready md (head.push o) (listed.push false) := by
   refine mem_ready.2 ⟨by rw [← hs]; simp [Array.getD], o, by simp, fun e he hb => ?_⟩
   have hon : e.on < head.size := (lastB_spec hB).2.2 e he hb
   have := hall e.on hon
   rw [getD_push_false]
   simp [show e.on < listed.size by omega] at this ⊢
   exact this
  refine ⟨fun h1 => (by rw [h1] at hin; cases hin), fun i hi => ?_⟩
  rcases ready_push hB hs hcl hi with ⟨hlt, hr⟩ | ⟨rfl, _⟩
  ·rw [h0] at hr; cases hr
  ·refine wpOp_mono (fun a w hq => wpAny_end ?_ hq fuel) h
   rcases hr : Region.ready md (head.push o) ((listed.push false).setIfInBounds head.size true) with _ | ⟨k, rs⟩
   ·rfl
   ·exfalso
    have hk : k ∈ Region.ready md (head.push o) ((listed.push false).setIfInBounds head.size true) := by rw [hr]; simp
    obtain ⟨g1, ok, g2, _⟩ := mem_ready.1 hk
    have hsz := (Array.getElem?_eq_some_iff.1 g2).1
    simp only [Array.size_push] at hsz
    by_cases hkl : k = head.size
    ·subst hkl
     simp [Array.getD, hs] at g1
    ·rw [getD_set_ne true (fun h => hkl h.symm), getD_push_lt true (by omega), hall k (by omega)] at g1
     cases g1
 intro fuel
 induction fuel with
 | zero => exact fun listed a w hs hcl h => last 0 listed a w hs hcl h.1 h.2
 | succ fuel ih =>
  intro listed a w hs hcl h
  by_cases h0 : Region.ready md head listed = []
  ·exact last _ listed a w hs hcl h0 (h.1 h0)
  ·refine ⟨fun h1 => ?_, fun i hi => ?_⟩
   ·exfalso
    rcases hr : Region.ready md head listed with _ | ⟨k, rs⟩
    ·exact h0 hr
    ·have hk : k ∈ Region.ready md head listed := by rw [hr]; simp
     obtain ⟨g1, ok, g2, g3⟩ := mem_ready.1 hk
     have hkl : k < head.size := (Array.getElem?_eq_some_iff.1 g2).1
     have : k ∈ Region.ready md (head.push o) (listed.push false) :=
      mem_ready.2 ⟨by rw [getD_push_lt true (by omega)]; exact g1, ok, by rw [Array.getElem?_push, if_neg (by omega)]; exact g2, fun e he hb => by rw [getD_push_false]; exact g3 e he hb⟩
     rw [h1] at this
     cases this
   ·rcases ready_push hB hs hcl hi with ⟨hlt, hr⟩ | ⟨_, hr⟩
    ·have h2 := h.2 i hr
     have e1 : (head.push o)[i]? = head[i]? := by rw [Array.getElem?_push, if_neg (by omega)]
     have e2 : (listed.push false).setIfInBounds i true = (listed.setIfInBounds i true).push false := by
      apply Array.ext'
      simp only [Array.toList_setIfInBounds, Array.toList_push]
      rw [List.set_append_left _ _ (by simpa [hs] using hlt)]
     generalize (fun a w => wpOp P (head.push o) Q head.size (Q .normal) a w) = KK at h2 ih
     unfold wpOp at h2 ⊢
     rw [e1, e2]
     have hg : head[i]? = some head[i] := by simp [hlt]
     rw [hg] at h2 ⊢
     simp only at h2 ⊢
     rw [wanted_push (o := o) ((lastB_spec hB).1 i head[i] hg).2]
     have hmq : ∀ e a w, e ≠ Exit.normal → Exit.then KK Q e a w → Q e a w := fun e a w hne hq => by cases e <;> first | exact absurd rfl hne | exact hq
     split
     ·rename_i hw
      rw [if_pos hw] at h2
      rcases h2 with h2 | ⟨h2, a2, w2, h3⟩
      ·exact .inl (wp_monoQ hmq (Oper.wp_mono (fun a w => ih _ a w (by simp [hs]) (hcl.set hr)) h2))
      ·exact .inr ⟨h2, a2, w2, hmq _ _ _ (by simp) h3⟩
     ·rename_i hw
      rw [if_neg hw] at h2
      exact ih _ _ _ (by simp [hs]) (hcl.set hr) h2
    ·exact absurd hr h0

end
theorem wp_region_rove_last {P : Program} {id : Nat} {Q : Exit → Act → World → Prop} {a : Act} {w : World} {hd0 : List Oper} {o : Oper} {ls : List Oper} (hls : ls = hd0 ++ [o]) (hg : o.guard = none) (hL : lastB .any hd0.toArray o = true)
  (B : Nat) (hBw : B ≤ w.heap.size) (S : List Sq) (hd st keep ea : List Bool) (hm : P.follows .mixedOrders = true) (hB : relB hd0 a.tmps.size = true)
  (hO : orderB hd0 (ancL hd0) hd st = true) (hK : keepL hd0.length (ancL hd0) hd st = keep) (hEa : earlyL hd0.length (ancL hd0) st = ea) (hsl : st.length = hd0.length) (hhd : S.map (·.hard) = hd ∧ usB hd0 S = true)
  (hstep : StepsQ P w B hd0 (fun i => S.getD i sqT) a (st.zip ea) hd0 S)
  (D : List (Option Tmp)) (hDs : hd0.map (·.dst) = D) (hlen : S.length = hd0.length)
  (hend : ∀ (val : Nat → Value) (W : World), Below B w W → w.heap.size ≤ W.heap.size → AllQ keep S 0 val W → wpList P ls.toArray Q [o] (putD D 0 val a) W) :
  (Code.region id ls.toArray true).wp P Q a w := by
 subst hls
 have e : (hd0 ++ [o]).toArray = hd0.toArray.push o := by simp
 rw [e] at hend ⊢
 refine wp_region_any hm ?_
 have e2 : Array.replicate (hd0.toArray.push o).size false = (Array.replicate hd0.toArray.size false).push false := by
  rw [Array.size_push, Array.replicate_succ]
 rw [e2, Array.size_push]
 refine wpAny_snoc hL _ _ _ _ (by simp) (fun j oj _ hl => by rw [getD_replicate] at hl; cases hl) ?_
 have hend' : ∀ (val : Nat → Value) (W : World), Below B w W → w.heap.size ≤ W.heap.size → AllQ keep S 0 val W → Exit.then (fun a w => wpOp P (hd0.toArray.push o) Q hd0.toArray.size (Q .normal) a w) Q .normal (putD D 0 val a) W := by
  intro val W h1 h2 h3
  have h := hend val W h1 h2 h3
  unfold wpList at h
  simp only [Exit.then]
  unfold wpOp
  have hi : (hd0.toArray.push o)[hd0.toArray.size]? = some o := by simp
  rw [hi]
  have hw : ∀ y, Region.wanted o y = true := fun y => by simp [Region.wanted, hg]
  simp only [hw, if_true] at h ⊢
  exact h
 exact wpAny_of_L _ _ _ _ (rove_any B hBw S hd st keep ea hB hO hK hEa hsl hhd hstep D hDs hlen hend')
/-- the same, the operations written out: 'dsimp only [List.dropLast]' behind it -/
theorem wp_region_rove_tail {P : Program} {id : Nat} {Q : Exit → Act → World → Prop} {a : Act} {w : World} {o : Oper} {ls : List Oper} (ho : ls.getLast? = some o) (hg : o.guard = none) (hL : lastB .any ls.dropLast.toArray o = true)
  (B : Nat) (hBw : B ≤ w.heap.size) (S : List Sq) (hd st keep ea : List Bool) (hm : P.follows .mixedOrders = true) (hB : relB ls.dropLast a.tmps.size = true)
  (hO : orderB ls.dropLast (ancL ls.dropLast) hd st = true) (hK : keepL ls.dropLast.length (ancL ls.dropLast) hd st = keep) (hEa : earlyL ls.dropLast.length (ancL ls.dropLast) st = ea) (hsl : st.length = ls.dropLast.length) (hhd : S.map (·.hard) = hd ∧ usB ls.dropLast S = true)
  (hstep : StepsQ P w B ls.dropLast (fun i => S.getD i sqT) a (st.zip ea) ls.dropLast S)
  (D : List (Option Tmp)) (hDs : ls.dropLast.map (·.dst) = D) (hlen : S.length = ls.dropLast.length)
  (hend : ∀ (val : Nat → Value) (W : World), Below B w W → w.heap.size ≤ W.heap.size → AllQ keep S 0 val W → wpList P ls.toArray Q [o] (putD D 0 val a) W) :
  (Code.region id ls.toArray true).wp P Q a w := by
 refine wp_region_rove_last ?_ hg hL B hBw S hd st keep ea hm hB hO hK hEa hsl hhd hstep D hDs hlen hend
 have hne : ls ≠ [] := by intro e; rw [e] at ho; cases ho
 rw [List.getLast?_eq_some_getLast hne] at ho
 have := List.dropLast_concat_getLast hne
 rw [← this]
 cases ho
 simp
/-- the same in a round of a range over a function -/
theorem wpIn_region_rove {P : Program} {n l : Nat} {id : Nat} {Q : Exit → Act → World → Prop} {a : Act} {w : World} {ls : List Oper} (B : Nat) (hBw : B ≤ w.heap.size) (S : List Sq) (hd st keep ea : List Bool) (hm : P.follows .mixedOrders = true) (hB : relB ls a.tmps.size = true)
  (hO : orderB ls (ancL ls) hd st = true) (hK : keepL ls.length (ancL ls) hd st = keep) (hEa : earlyL ls.length (ancL ls) st = ea) (hsl : st.length = ls.length) (hhd : S.map (·.hard) = hd ∧ usB ls S = true)
  (hstep : StepsQ P w B ls (fun i => S.getD i sqT) a (st.zip ea) ls S)
  (D : List (Option Tmp)) (hDs : ls.map (·.dst) = D) (hlen : S.length = ls.length)
  (hend : ∀ (val : Nat → Value) (W : World), Below B w W → w.heap.size ≤ W.heap.size → AllQ keep S 0 val W → Q .normal (putD D 0 val a) W) :
  (Code.region id ls.toArray true).wpIn (Fence.wide.inRound l) n P Q a w := wpIn_region_any (F := FW (some l)) hm (wpAnyIn_of_L _ _ _ _ (rove_any B hBw S hd st keep ea hB hO hK hEa hsl hhd hstep D hDs hlen hend))

theorem wpIn_region_rove_last {P : Program} {n l : Nat} {id : Nat} {Q : Exit → Act → World → Prop} {a : Act} {w : World} {hd0 : List Oper} {o : Oper} {ls : List Oper} (hls : ls = hd0 ++ [o]) (hg : o.guard = none) (hL : lastB .any hd0.toArray o = true)
  (B : Nat) (hBw : B ≤ w.heap.size) (S : List Sq) (hd st keep ea : List Bool) (hm : P.follows .mixedOrders = true) (hB : relB hd0 a.tmps.size = true)
  (hO : orderB hd0 (ancL hd0) hd st = true) (hK : keepL hd0.length (ancL hd0) hd st = keep) (hEa : earlyL hd0.length (ancL hd0) st = ea) (hsl : st.length = hd0.length) (hhd : S.map (·.hard) = hd ∧ usB hd0 S = true)
  (hstep : StepsQ P w B hd0 (fun i => S.getD i sqT) a (st.zip ea) hd0 S)
  (D : List (Option Tmp)) (hDs : hd0.map (·.dst) = D) (hlen : S.length = hd0.length)
  (hend : ∀ (val : Nat → Value) (W : World), Below B w W → w.heap.size ≤ W.heap.size → AllQ keep S 0 val W → wpListIn (Fence.wide.inRound l) n P ls.toArray Q [o] (putD D 0 val a) W) :
  (Code.region id ls.toArray true).wpIn (Fence.wide.inRound l) n P Q a w := by
 subst hls
 have e : (hd0 ++ [o]).toArray = hd0.toArray.push o := by simp
 rw [e] at hend ⊢
 refine wpIn_region_any (F := FW (some l)) hm ?_
 have e2 : Array.replicate (hd0.toArray.push o).size false = (Array.replicate hd0.toArray.size false).push false := by
  rw [Array.size_push, Array.replicate_succ]
 rw [e2, Array.size_push]
 refine wpAnyIn_snoc hL _ _ _ _ (by simp) (fun j oj _ hl => by rw [getD_replicate] at hl; cases hl) ?_
 have hend' : ∀ (val : Nat → Value) (W : World), Below B w W → w.heap.size ≤ W.heap.size → AllQ keep S 0 val W → Exit.then (fun a w => wpOpIn (FW (some l)) n P (hd0.toArray.push o) Q hd0.toArray.size (Q .normal) a w) Q .normal (putD D 0 val a) W := by
  intro val W h1 h2 h3
  have h := hend val W h1 h2 h3
  unfold wpListIn at h
  simp only [Exit.then]
  unfold wpOpIn
  have hi : (hd0.toArray.push o)[hd0.toArray.size]? = some o := by simp
  rw [hi]
  have hw : ∀ y, Region.wanted o y = true := fun y => by simp [Region.wanted, hg]
  simp only [hw, if_true] at h ⊢
  exact h
 exact wpAnyIn_of_L _ _ _ _ (rove_any B hBw S hd st keep ea hB hO hK hEa hsl hhd hstep D hDs hlen hend')
/-- the same, the operations written out: 'dsimp only [List.dropLast]' behind it -/
theorem wpIn_region_rove_tail {P : Program} {n l : Nat} {id : Nat} {Q : Exit → Act → World → Prop} {a : Act} {w : World} {o : Oper} {ls : List Oper} (ho : ls.getLast? = some o) (hg : o.guard = none) (hL : lastB .any ls.dropLast.toArray o = true)
  (B : Nat) (hBw : B ≤ w.heap.size) (S : List Sq) (hd st keep ea : List Bool) (hm : P.follows .mixedOrders = true) (hB : relB ls.dropLast a.tmps.size = true)
  (hO : orderB ls.dropLast (ancL ls.dropLast) hd st = true) (hK : keepL ls.dropLast.length (ancL ls.dropLast) hd st = keep) (hEa : earlyL ls.dropLast.length (ancL ls.dropLast) st = ea) (hsl : st.length = ls.dropLast.length) (hhd : S.map (·.hard) = hd ∧ usB ls.dropLast S = true)
  (hstep : StepsQ P w B ls.dropLast (fun i => S.getD i sqT) a (st.zip ea) ls.dropLast S)
  (D : List (Option Tmp)) (hDs : ls.dropLast.map (·.dst) = D) (hlen : S.length = ls.dropLast.length)
  (hend : ∀ (val : Nat → Value) (W : World), Below B w W → w.heap.size ≤ W.heap.size → AllQ keep S 0 val W → wpListIn (Fence.wide.inRound l) n P ls.toArray Q [o] (putD D 0 val a) W) :
  (Code.region id ls.toArray true).wpIn (Fence.wide.inRound l) n P Q a w := by
 refine wpIn_region_rove_last ?_ hg hL B hBw S hd st keep ea hm hB hO hK hEa hsl hhd hstep D hDs hlen hend
 have hne : ls ≠ [] := by intro e; rw [e] at ho; cases ho
 rw [List.getLast?_eq_some_getLast hne] at ho
 have := List.dropLast_concat_getLast hne
 rw [← this]
 cases ho
 simp
end Go.Proofs.Ytphajlldghcnnaa
