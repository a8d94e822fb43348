/-
  Worlds that a call has grown, as a function of the world before it: what there was is read through it. And slices.Index, slices.Contains on numbers.
  A region that draws its order, whose operations only lay new memory: what each operation yields is said by a predicate that later memory does not turn; each operation is then walked once, whatever the order.
  A region that draws its order, whose operations lay new memory or turn what the region itself has laid: each operation is walked once, whatever the order. What an operation yields is said by a predicate that stays as memory grows; an operation that turns memory ends the predicates of all others that do not wait for it, so whoever needs them has to come before it.
-/
import Derived.Test.YtgcldgchhdjnhaaQuiet
import Derived.Test.YtgcldgchhdjnhaaIdx
namespace Go.Proofs.Ytgcldgchhdjnhaa
open Go.RowKit Go.Shelf
theorem grow_size (w : World) (g) : w.heap.size ≤ (grow w g).heap.size := g.h.size
@[go_sem] theorem lt_grow (w : World) (g) (b : Nat) (h : b < w.heap.size) : (b < (grow w g).heap.size) = True := eq_true (Nat.lt_of_lt_of_le h g.h.size)
@[go_sem] theorem lt_more (a b : Nat) (h : a < b) : (a < b + 1) = True := eq_true (by omega)
@[go_sem] theorem le_more (a b : Nat) (h : a < b) : (a ≤ b) = True := eq_true (by omega)
@[go_sem] theorem lt_self1 (a : Nat) : (a < a + 1) = True := eq_true (by omega)
@[go_sem] theorem lt_al (w : World) (o : Obj) (b : Nat) (h : b < w.heap.size) : (b < (w.alloc o).heap.size) = True := eq_true (by simp; omega)
@[go_sem] theorem lt_al_self (w : World) (o : Obj) : (w.heap.size < (w.alloc o).heap.size) = True := eq_true (by simp)
theorem Ext.gr {w W : World} (h : Ext w W) (g) : Ext w (grow W g) := Ext.trans' h (grow_below W g)
theorem callGr {P : Program} {f : FuncId} {args : Array Value} {w : World} {v : Value} {Q : Ending → World → Prop} (h : Calls P f args w fun e w' => e = .returned v ∧ Ext w w') (k : ∀ g, Q (.returned v) (grow w g)) : Calls P f args w Q :=
  h.mono fun e w' ⟨he, hb⟩ => by obtain ⟨g, rfl⟩ := grow_of hb; subst he; exact k g
theorem callGrEx {P : Program} {f : FuncId} {args : Array Value} {w : World} {Q : Ending → World → Prop} {R : Value → World → Prop} (h : Calls P f args w fun e w' => ∃ v, e = .returned v ∧ Ext w w' ∧ R v w') (k : ∀ v g, R v (grow w g) → Q (.returned v) (grow w g)) : Calls P f args w Q :=
  h.mono fun e w' ⟨v, he, hb, hr⟩ => by obtain ⟨g, rfl⟩ := grow_of hb; subst he; exact k v g hr

set_option maxHeartbeats 400000 in
theorem index_any (l : List Int) (x : Int) (lv : Value) (w : World) (hv : IsInts w .i64 lv l) :
    Calls Try.prog 108 #[lv, .int .i64 x] w fun e w' => e = .returned (.int .i64 (fidx (fun y => x == y) l)) ∧ Ext w w' := by
  obtain ⟨sa, cap, rfl, h1, h2, hs⟩ := hv.spec
  clear hv
  go_enter Try.func108, Try.ntmps108
  go_wp2
  go_loopw [8] (fun i W => ∃ k : Nat, k ≤ l.length ∧ i = .int .i64 k ∧ (∀ y ∈ l.take k, (x == y) = false) ∧ Ext w W) (fun i _ => l.length - (intOf i).toNat)
  case atStart => exact ⟨0, Nat.zero_le _, rfl, by simp, Below.refl _ _⟩
  case round =>
    obtain ⟨k, hk, rfl, hno, hb⟩ := hrel
    have HN := Lib.hid hno
    clear hno
    by_cases hlt : k < l.length
    · rcases hs with rfl | ⟨b, off, rfl, hc⟩
      · simp at hlt
      have hcell := cell_ext hb (hc k hlt)
      clear hc
      cases hp : (x == l[k])
      · go_wp2
        go_roundw
        case rel => exact ⟨k + 1, by omega, by go_num, take_ext (p := fun y => x == y) hlt HN.out hp, hb⟩
        case measure => simp [intOf]; omega
      · go_wp2
        go_ret
        exact ⟨ret_int (fidx_at (p := fun y => x == y) hlt HN.out hp).symm, hb⟩
    · go_wp2
      go_ret
      exact ⟨ret_int (fidx_none (p := fun y => x == y) (take_all hlt HN.out)).symm, hb⟩

set_option maxHeartbeats 400000 in
theorem contains_any (l : List Int) (x : Int) (lv : Value) (w : World) (hv : IsInts w .i64 lv l) :
    Calls Try.prog 93 #[lv, .int .i64 x] w fun e w' => e = .returned (.bool (l.contains x)) ∧ Ext w w' := by
  have H := Lib.hid (index_any l x lv w hv)
  clear hv
  go_enter Try.func93, Try.ntmps93
  go_wp2_with fail
  refine callGr H.out fun g => ?_
  go_wp2
  all_goals
    go_ret
    refine ⟨ret_bool ?_, grow_below w g⟩
    rw [fidx_any, List.contains_eq_any_beq]
end Go.Proofs.Ytgcldgchhdjnhaa
namespace Go.Proofs.Ytgcldgchhdjnhaa
open Go.RowKit Go.Shelf

/-- what an operation yields: a predicate that stays -/
structure Sp where
  p : Value → World → Prop
  m : ∀ v w w', p v w → Ext w w' → p v w'
def spV (v0 : Value) : Sp := ⟨fun v _ => v = v0, fun _ _ _ h _ => h⟩
def spT : Sp := ⟨fun _ _ => True, fun _ _ _ h _ => h⟩
/-- the operations that one waits for -/
def depsOf (o : Oper) : List Nat := (o.after.toList.filter fun e => Region.binds .any e).map (·.on)
def dstOf (ls : List Oper) (j : Nat) : Option Tmp := (ls[j]?).bind (·.dst)
/-- the frame, some operations carried out -/
def frameOf (ls : List Oper) (val : Nat → Value) (a : Act) : List Nat → Act
  | [] => a
  | j :: js => frameOf ls val (a.put (dstOf ls j) (val j)) js
def selB (o : Op) : Bool := match o with | .select _ _ => true | _ => false
/-- what is asked of the region's form -/
def relB (ls : List Oper) (size : Nat) : Bool :=
  (List.range ls.length).all fun i => match ls[i]? with
    | none => true
    | some o => o.guard.isNone && !selB o.op && (match o.dst with | none => true | some d => decide (d < size)) &&
      (depsOf o).all (fun j => decide (j < i)) &&
      (List.range ls.length).all (fun j => decide (j = i) || (match o.dst with | none => true | some d => !(dstOf ls j == some d))) &&
      o.op.operands.toList.all fun x => match x with
        | .tmp s => ((depsOf o).any fun j => dstOf ls j == some s) || (List.range ls.length).all fun j => !(dstOf ls j == some s)
        | _ => true
structure RelAt (ls : List Oper) (size i : Nat) (o : Oper) : Prop where
  g : o.guard = none
  s : ∀ cs b, o.op ≠ .select cs b
  d : ∀ d, o.dst = some d → d < size
  dep : ∀ j ∈ depsOf o, j < i
  ne : ∀ j, j < ls.length → j ≠ i → ∀ d, o.dst = some d → dstOf ls j ≠ some d
  x : ∀ s, Operand.tmp s ∈ o.op.operands → (∃ j ∈ depsOf o, dstOf ls j = some s) ∨ ∀ j, j < ls.length → dstOf ls j ≠ some s
theorem relB_at {ls : List Oper} {size : Nat} (h : relB ls size = true) {i : Nat} {o : Oper} (hi : ls[i]? = some o) : RelAt ls size i o := by
  unfold relB at h
  rw [List.all_eq_true] at h
  have hlt : i < ls.length := (List.getElem?_eq_some_iff.1 hi).1
  have h1 := h i (List.mem_range.2 hlt)
  rw [hi] at h1
  simp only [Bool.and_eq_true] at h1
  obtain ⟨⟨⟨⟨⟨a1, a2⟩, a3⟩, a4⟩, a5⟩, a6⟩ := h1
  refine ⟨by simpa using a1, fun cs b e => ?_, fun d hd => ?_, fun j hj => ?_, fun j hj hne d hd => ?_, fun s hs => ?_⟩
  · rw [e] at a2; simp [selB] at a2
  · rw [hd] at a3; simpa using a3
  · have := List.all_eq_true.1 a4 j hj; simpa using this
  · have := List.all_eq_true.1 a5 j (List.mem_range.2 hj)
    rw [hd] at this
    simp only [Bool.or_eq_true, decide_eq_true_eq, Bool.not_eq_true'] at this
    rcases this with h | h
    · exact absurd h hne
    · simpa using h
  · have := List.all_eq_true.1 a6 (.tmp s) (by simpa using hs)
    simp only [Bool.or_eq_true] at this
    rcases this with h | h
    · left
      obtain ⟨j, hj, hd⟩ := List.any_eq_true.1 h
      exact ⟨j, hj, by simpa using hd⟩
    · right
      intro j hj
      have := List.all_eq_true.1 h j (List.mem_range.2 hj)
      simpa using this

theorem put_size (a : Act) (d : Option Tmp) (v : Value) : (a.put d v).tmps.size = a.tmps.size := by cases d <;> simp [Act.put]
theorem put_defers (a : Act) (d : Option Tmp) (v : Value) : (a.put d v).defers = a.defers := by cases d <;> rfl
theorem put_off (a : Act) {d : Option Tmp} {s : Tmp} (v : Value) (h : d ≠ some s) : (a.put d v).tmps[s]? = a.tmps[s]? := by
  cases d with
  | none => rfl
  | some d => simp only [Act.put]; rw [Array.getElem?_setIfInBounds_ne (fun e => h (by rw [e]))]
theorem put_on (a : Act) {s : Tmp} (v : Value) (h : s < a.tmps.size) : (a.put (some s) v).tmps[s]? = some v := by simp [Act.put, h]
theorem frame_size (ls : List Oper) (val : Nat → Value) : ∀ (js : List Nat) (a : Act), (frameOf ls val a js).tmps.size = a.tmps.size
  | [], _ => rfl
  | j :: js, a => by rw [frameOf, frame_size ls val js, put_size]
theorem frame_defers (ls : List Oper) (val : Nat → Value) : ∀ (js : List Nat) (a : Act), (frameOf ls val a js).defers = a.defers
  | [], _ => rfl
  | j :: js, a => by rw [frameOf, frame_defers ls val js, put_defers]
theorem frame_off (ls : List Oper) (val : Nat → Value) {s : Tmp} : ∀ (js : List Nat) (a : Act), (∀ j ∈ js, dstOf ls j ≠ some s) → (frameOf ls val a js).tmps[s]? = a.tmps[s]?
  | [], _, _ => rfl
  | j :: js, a, h => by rw [frameOf, frame_off ls val js _ fun k hk => h k (by simp [hk]), put_off _ _ (h j (by simp))]
theorem frame_on {ls : List Oper} (val : Nat → Value) {s : Tmp} {i : Nat} (hi : dstOf ls i = some s) : ∀ (js : List Nat) (a : Act), (∀ j ∈ js, dstOf ls j = some s → j = i) → s < a.tmps.size → (i ∈ js ∨ a.tmps[s]? = some (val i)) → (frameOf ls val a js).tmps[s]? = some (val i)
  | [], a, _, _, h => by
    rcases h with h | h
    · cases h
    · exact h
  | j :: js, a, hu, hs, h => by
    rw [frameOf]
    refine frame_on val hi js _ (fun k hk => hu k (by simp [hk])) (by rw [put_size]; exact hs) ?_
    by_cases hj : dstOf ls j = some s
    · obtain rfl := hu j (by simp) hj
      right
      rw [hj, put_on _ _ hs]
    · rcases h with h | h
      · rcases List.mem_cons.1 h with rfl | h
        · exact absurd hi hj
        · exact .inl h
      · right; rw [put_off _ _ hj]; exact h
/-- what the operation has yielded -/
def got (o : Oper) (a : Act) : Value := match o.dst with | some d => a.tmps.getD d undef | none => undef
theorem got_put {o : Oper} {a : Act} {v : Value} (h : ∀ d, o.dst = some d → d < a.tmps.size) : got o (a.put o.dst v) = match o.dst with | some _ => v | none => undef := by
  unfold got
  cases hd : o.dst with
  | none => rfl
  | some d => simp [Act.put, h d hd]
theorem act_ext {a b : Act} (h1 : a.defers = b.defers) (h2 : a.tmps.size = b.tmps.size) (h3 : ∀ s : Nat, a.tmps[s]? = b.tmps[s]?) : a = b := by
  obtain ⟨ta, da⟩ := a
  obtain ⟨tb, db⟩ := b
  simp only at h1 h2 h3
  subst h1
  congr 1
  exact Array.ext_getElem? h3
theorem countP_off (p q : Nat → Bool) (i : Nat) : ∀ n, (∀ j, j ≠ i → q j = p j) → p i = true → q i = false → i < n → (List.range n).countP p = (List.range n).countP q + 1
  | 0, _, _, _, hi => absurd hi (by omega)
  | n + 1, h, hp, hq, hi => by
    rw [List.range_succ, List.countP_append, List.countP_append]
    by_cases e : i = n
    · subst e
      have : (List.range i).countP p = (List.range i).countP q := List.countP_congr fun j hj => by
        have := List.mem_range.1 hj
        rw [h j (by omega)]
      rw [this]
      simp [hp, hq]
    · rw [countP_off p q i n h hp hq (by omega)]
      have : q n = p n := h n (fun e' => e e'.symm)
      simp only [List.countP_cons, List.countP_nil, this]
      omega

/-- what holds when some operations have been carried out -/
def WInv (w : World) (ls : List Oper) (S : Nat → Sp) (a : Act) (listed : Array Bool) (a' : Act) (W : World) : Prop :=
  Ext w W ∧ ∃ val : Nat → Value, (∀ j, j < ls.length → listed.getD j false = true → (S j).p (val j) W) ∧ a'.defers = a.defers ∧ a'.tmps.size = a.tmps.size ∧
    (∀ j s, dstOf ls j = some s → listed.getD j false = true → a'.tmps[s]? = some (val j)) ∧ (∀ s, (∀ j, listed.getD j false = true → dstOf ls j ≠ some s) → a'.tmps[s]? = a.tmps[s]?)
/-- one operation: what is to be shown -/
def StepOk (P : Program) (w : World) (ls : List Oper) (S : Nat → Sp) (a : Act) (i : Nat) (o : Oper) : Prop :=
  ∀ (val : Nat → Value) (W : World), Ext w W → (∀ j ∈ depsOf o, (S j).p (val j) W) →
    wpList P #[o] (fun e a' W' => e = .normal ∧ a'.defers = a.defers ∧ Ext W W' ∧ (S i).p (got o a') W') [o] (frameOf ls val a (depsOf o)) W
theorem wander {P : Program} {w : World} {ls : List Oper} {S : Nat → Sp} {a : Act} {Q : Exit → Act → World → Prop} (hB : relB ls a.tmps.size = true)
    (hstep : ∀ i o, ls[i]? = some o → StepOk P w ls S a i o)
    (hend : ∀ (val : Nat → Value) (W : World), Ext w W → (∀ j, j < ls.length → (S j).p (val j) W) → Q .normal (frameOf ls val a (List.range ls.length)) W) :
    ∀ (fuel : Nat) (listed : Array Bool) (a' : Act) (W : World), listed.size = ls.length → (List.range ls.length).countP (fun j => !listed.getD j false) ≤ fuel → WInv w ls S a listed a' W →
      wpAny P .any ls.toArray Q fuel listed a' W := by
  have fin : ∀ (listed : Array Bool) (a' : Act) (W : World), listed.size = ls.length → WInv w ls S a listed a' W → (∀ j, j < ls.length → listed.getD j false = true) → Q .normal a' W := by
    intro listed a' W hs ⟨hE, val, h1, h2, h3, h4, h5⟩ hall
    have e : a' = frameOf ls val a (List.range ls.length) := by
      refine act_ext (by rw [h2, frame_defers]) (by rw [h3, frame_size]) fun s => ?_
      by_cases hx : ∃ j, j < ls.length ∧ dstOf ls j = some s
      · obtain ⟨j, hj, hd⟩ := hx
        have hj' : ls[j]? = some ls[j] := List.getElem?_eq_getElem hj
        have hR := relB_at hB hj'
        have hdst : ls[j].dst = some s := by unfold dstOf at hd; rw [hj'] at hd; exact hd
        rw [h4 j s hd (hall j hj), frame_on val hd _ _ (fun k hk hd2 => ?_) (hR.d s hdst) (.inl (List.mem_range.2 hj))]
        by_cases hkj : k = j
        · exact hkj
        · exact absurd hd2 (hR.ne k (List.mem_range.1 hk) hkj s hdst)
      · rw [h5 s fun j hl hd => hx ⟨j, ?_, hd⟩, frame_off ls val _ _ fun j hj hd => hx ⟨j, List.mem_range.1 hj, hd⟩]
        unfold dstOf at hd
        rcases Nat.lt_or_ge j ls.length with hj | hj
        · exact hj
        · rw [List.getElem?_eq_none hj] at hd; cases hd
    rw [e]
    exact hend val W hE fun j hj => h1 j hj (hall j hj)
  have allL : ∀ (listed : Array Bool), listed.size = ls.length → Region.ready .any ls.toArray listed = [] → ∀ j, j < ls.length → listed.getD j false = true := by
    intro listed hs h0 j
    induction j using Nat.strongRecOn with
    | _ j ih =>
      intro hj
      cases hl : listed.getD j false with
      | true => rfl
      | false =>
        exfalso
        have hj' : ls[j]? = some ls[j] := List.getElem?_eq_getElem hj
        have hR := relB_at hB hj'
        have hin : j ∈ Region.ready .any ls.toArray listed := by
          refine mem_ready.2 ⟨?_, ls[j], by simp [hj], fun e he hb => ?_⟩
          · have hjs : j < listed.size := by omega
            simp [hjs] at hl ⊢
            exact hl
          · have hd : e.on ∈ depsOf ls[j] := List.mem_map.2 ⟨e, List.mem_filter.2 ⟨by simpa using he, hb⟩, rfl⟩
            have hlt := hR.dep _ hd
            exact ih _ hlt (by omega)
        rw [h0] at hin
        cases hin
  have step : ∀ (listed : Array Bool) (a' : Act) (W : World) (i : Nat) (K : Act → World → Prop), listed.size = ls.length → WInv w ls S a listed a' W → i ∈ Region.ready .any ls.toArray listed →
      (∀ a2 W2, WInv w ls S a (listed.setIfInBounds i true) a2 W2 → K a2 W2) → wpOp P ls.toArray Q i K a' W := by
    intro listed a' W i K hs ⟨hE, val, h1, h2, h3, h4, h5⟩ hi hK
    obtain ⟨hl, o, ho, hdeps⟩ := mem_ready.1 hi
    have ho' : ls[i]? = some o := by simpa using ho
    have hilt : i < ls.length := (List.getElem?_eq_some_iff.1 ho').1
    have hR := relB_at hB ho'
    have hdl : ∀ j ∈ depsOf o, listed.getD j false = true := fun j hj => by
      obtain ⟨e, he, rfl⟩ := List.mem_map.1 hj
      obtain ⟨he1, he2⟩ := List.mem_filter.1 he
      exact hdeps e (by simpa using he1) he2
    have hilf : listed.getD i false = false := by
      have : i < listed.size := by omega
      simp [this] at hl ⊢
      exact hl
    have hev : ∀ x ∈ o.op.operands, a'.eval x = (frameOf ls val a (depsOf o)).eval x := fun x hx => by
      cases x with
      | tmp s =>
        have hh : a'.tmps[s]? = (frameOf ls val a (depsOf o)).tmps[s]? := by
          rcases hR.x s hx with ⟨j, hj, hd⟩ | hno
          · have hji := hR.dep j hj
            have hj' : ls[j]? = some (ls[j]'(by omega)) := List.getElem?_eq_getElem (by omega)
            have hRj := relB_at hB hj'
            have hdst : (ls[j]'(by omega)).dst = some s := by unfold dstOf at hd; rw [hj'] at hd; exact hd
            rw [h4 j s hd (hdl j hj), frame_on val hd _ _ (fun k hk hd2 => ?_) (hRj.d s hdst) (.inl hj)]
            by_cases hkj : k = j
            · exact hkj
            · exact absurd hd2 (hRj.ne k (by have := hR.dep k hk; omega) hkj s hdst)
          · rw [h5 s fun j hl hd => ?_, frame_off ls val _ _ fun j hj => hno j (by have := hR.dep j hj; omega)]
            rcases Nat.lt_or_ge j ls.length with hj | hj
            · exact hno j hj hd
            · unfold dstOf at hd; rw [List.getElem?_eq_none hj] at hd; cases hd
        simp only [Act.eval, Array.getD_eq_getD_getElem?, hh]
      | _ => rfl
    have hx := execOp_congr o hR.s hev
    have hw := hstep i o ho' val W hE fun j hj => h1 j (by have := hR.dep j hj; omega) (hdl j hj)
    have hwant : ∀ y, Region.wanted o y = true := fun y => by simp [Region.wanted, hR.g]
    unfold wpList at hw
    rw [if_pos (hwant _)] at hw
    have hw : o.wp P (frameOf ls val a (depsOf o)) W (wpList P #[o] (fun e a' W' => e = .normal ∧ a'.defers = a.defers ∧ Ext W W' ∧ (S i).p (got o a') W') []) (fun e a' W' => e = .normal ∧ a'.defers = a.defers ∧ Ext W W' ∧ (S i).p (got o a') W') := by
      rcases hw with hw | ⟨_, _, _, hw⟩
      · exact hw
      · cases hw.1
    unfold wpOp
    rw [ho]
    simp only
    rw [if_pos (hwant _)]
    left
    have next : ∀ v W', Ext W W' → (S i).p (match o.dst with | some _ => v | none => undef) W' → K (a'.put o.dst v) W' := fun v W' hE' hS => by
      refine hK _ _ ⟨hE.trans' hE', fun j => if j = i then (match o.dst with | some _ => v | none => undef) else val j, fun j hj hlj => ?_, by rw [put_defers, h2], by rw [put_size, h3], fun j s hd hlj => ?_, fun s hno => ?_⟩
      · by_cases hji : j = i
        · subst hji; simp only [if_true]; exact hS
        · rw [getD_set_ne false (Ne.symm hji)] at hlj
          simp only [hji, if_false]
          exact (S j).m _ _ _ (h1 j hj hlj) hE'
      · by_cases hji : j = i
        · subst hji
          have hdst : o.dst = some s := by unfold dstOf at hd; rw [ho'] at hd; exact hd
          simp only [if_true, hdst]
          exact put_on _ _ (by rw [h3]; exact hR.d s hdst)
        · rw [getD_set_ne false (Ne.symm hji)] at hlj
          simp only [hji, if_false]
          rw [put_off, h4 j s hd hlj]
          intro hdst
          rcases Nat.lt_or_ge j ls.length with hj | hj
          · exact hR.ne j hj hji s hdst hd
          · unfold dstOf at hd; rw [List.getElem?_eq_none hj] at hd; cases hd
      · have hoi : o.dst ≠ some s := by
          have := hno i (by simp [hs, hilt])
          unfold dstOf at this
          rw [ho'] at this
          exact this
        rw [put_off _ _ hoi, h5 s fun j hlj => hno j (getD_set_true hlj)]
    have hsz : ∀ d, o.dst = some d → d < (frameOf ls val a (depsOf o)).tmps.size := fun d hd => by rw [frame_size]; exact hR.d d hd
    unfold Oper.wp at hw ⊢
    rw [hx]
    generalize (execOp (frameOf ls val a (depsOf o)).eval o).run P W = r at *
    cases r with
    | ok x W' =>
      cases x <;> simp only [Oper.upon] at hw ⊢
      case value v =>
        obtain ⟨_, _, hE', hS⟩ := hw
        rw [got_put hsz] at hS
        exact next v W' hE' hS
      case skip =>
        obtain ⟨_, _, hE', hS⟩ := hw
        rw [got_put hsz] at hS
        exact next undef W' hE' hS
      case defer d =>
        obtain ⟨_, hd, _⟩ := hw
        rw [put_defers] at hd
        simp only [frame_defers] at hd
        exact absurd hd (by simp)
      case enter f args =>
        refine Calls.mono hw fun e W'' he => ?_
        cases e with
        | returned v =>
          obtain ⟨_, _, hE', hS⟩ := he
          rw [got_put hsz] at hS
          exact next v W'' hE' hS
        | panicked c => exact absurd he.1 (by simp)
        | outgrown => obtain ⟨_, _, he⟩ := he; exact absurd he.1 (by simp)
      case row row args =>
        refine Rows.mono hw fun v W'' he => ?_
        obtain ⟨_, _, hE', hS⟩ := he
        rw [got_put hsz] at hS
        exact next v W'' hE' hS
    | halt x W' =>
      cases x <;> simp only [Oper.upon] at hw ⊢
      exact absurd hw.1 (by simp)
  intro fuel
  induction fuel with
  | zero =>
    intro listed a' W hs hf hW
    have hall : ∀ j, j < ls.length → listed.getD j false = true := fun j hj => by
      have h0 : (List.range ls.length).countP (fun j => !listed.getD j false) = 0 := by omega
      rw [List.countP_eq_zero] at h0
      have := h0 j (List.mem_range.2 hj)
      simpa using this
    refine ⟨?_, fin listed a' W hs hW hall⟩
    rcases hr : Region.ready .any ls.toArray listed with _ | ⟨k, rs⟩
    · rfl
    · exfalso
      have hk : k ∈ Region.ready .any ls.toArray listed := by rw [hr]; simp
      obtain ⟨g1, ok, g2, _⟩ := mem_ready.1 hk
      have hlt : k < ls.length := by have := (Array.getElem?_eq_some_iff.1 g2).1; simpa using this
      have hka := hall k hlt
      have : k < listed.size := by omega
      simp [this] at g1 hka
      rw [g1] at hka
      cases hka
  | succ fuel ih =>
    intro listed a' W hs hf hW
    refine ⟨fun h0 => fin listed a' W hs hW (allL listed hs h0), fun i hi => ?_⟩
    refine step listed a' W i _ hs hW hi fun a2 W2 hW2 => ih _ a2 W2 (by simpa using hs) ?_ hW2
    obtain ⟨hl, o, ho, _⟩ := mem_ready.1 hi
    have hilt : i < ls.length := by have := (Array.getElem?_eq_some_iff.1 ho).1; simpa using this
    have his : i < listed.size := by omega
    have hc := countP_off (fun j => !listed.getD j false) (fun j => !(listed.setIfInBounds i true).getD j false) i ls.length (fun j hj => by rw [getD_set_ne false (Ne.symm hj)]) (by simp [his] at hl ⊢; exact hl) (by simp [his]) hilt
    omega

/-- all operations, one by one -/
def StepsOk (P : Program) (w : World) (ls : List Oper) (S : Nat → Sp) (a : Act) : Nat → List Oper → Prop
  | _, [] => True
  | i, o :: os => StepOk P w ls S a i o ∧ StepsOk P w ls S a (i + 1) os
theorem StepsOk.at {P : Program} {w : World} {ls : List Oper} {S : Nat → Sp} {a : Act} : ∀ {os : List Oper} {i : Nat}, StepsOk P w ls S a i os → ∀ {j : Nat} {o : Oper}, os[j]? = some o → StepOk P w ls S a (i + j) o
  | [], _, _, j, o, h => by simp at h
  | x :: os, i, hs, 0, o, h => by
    simp at h
    subst h
    exact hs.1
  | x :: os, i, hs, j + 1, o, h => by
    have := StepsOk.at hs.2 (j := j) (o := o) (by simpa using h)
    rwa [Nat.add_assoc, Nat.add_comm 1 j] at this
theorem wp_region_wander {P : Program} {id : Nat} {Q : Exit → Act → World → Prop} {a : Act} {w : World} {ls : List Oper} (S : List Sp) (hm : P.follows .mixedOrders = true) (hB : relB ls a.tmps.size = true)
    (hstep : StepsOk P w ls (fun i => S.getD i spT) a 0 ls)
    (hend : ∀ (val : Nat → Value) (W : World), Ext w W → (∀ j, j < ls.length → (S.getD j spT).p (val j) W) → Q .normal (frameOf ls val a (List.range ls.length)) W) :
    (Code.region id ls.toArray true).wp P Q a w := by
  refine wp_region_any hm ?_
  refine wander (S := fun i => S.getD i spT) hB (fun i o hi => by have := hstep.at hi; rwa [Nat.zero_add] at this) hend _ _ _ _ (by simp) ?_ ⟨Ext.dr (Below.refl _ _), fun _ => undef, fun j _ hl => ?_, rfl, rfl, fun j s _ hl => ?_, fun _ _ => rfl⟩
  · have := List.countP_le_length (p := fun j => !((Array.replicate ls.toArray.size false).getD j false)) (l := List.range ls.length)
    simpa using this
  · rw [getD_replicate] at hl; cases hl
  · rw [getD_replicate] at hl; cases hl

/-- one operation, carried out once: what it yields -/
def Run1 (P : Program) (o : Oper) (ρ : Operand → Value) (W : World) (s : Sp) : Prop :=
  match (execOp ρ o).run P W with
  | .ok (.value v) W' => Ext W W' ∧ s.p v W'
  | .ok (.enter f args) W' => Calls P f args W' fun e W'' => ∃ v, e = .returned v ∧ Ext W W'' ∧ s.p v W''
  | _ => False
/-- what an operation's operands hold: what those that it waits for have yielded, or what they held before the region -/
structure Holds (ls : List Oper) (a : Act) (o : Oper) (val : Nat → Value) (ρ : Operand → Value) : Prop where
  dep : ∀ j ∈ depsOf o, ∀ t, dstOf ls j = some t → ρ (.tmp t) = val j
  old : ∀ t, (∀ j ∈ depsOf o, dstOf ls j ≠ some t) → ρ (.tmp t) = a.eval (.tmp t)
  const : ∀ c, ρ (.const c) = c
  func : ∀ f, ρ (.func f) = .func (.func f) #[] #[]
def StepOk1 (P : Program) (w : World) (ls : List Oper) (S : Nat → Sp) (a : Act) (o : Oper) (s : Sp) : Prop :=
  ∀ (val : Nat → Value) (ρ : Operand → Value) (W : World), Ext w W → (∀ j ∈ depsOf o, (S j).p (val j) W) → Holds ls a o val ρ → Run1 P o ρ W s
def StepsOk1 (P : Program) (w : World) (ls : List Oper) (S : Nat → Sp) (a : Act) : List Oper → List Sp → Prop
  | [], _ => True
  | _ :: _, [] => False
  | o :: os, s :: ss => StepOk1 P w ls S a o s ∧ StepsOk1 P w ls S a os ss
def dstB (ls : List Oper) : Bool := ls.all fun o => o.dst.isSome
theorem stepOk_of {P : Program} {w : World} {ls : List Oper} {S : Nat → Sp} {a : Act} {i : Nat} {o : Oper} (hB : relB ls a.tmps.size = true) (hi : ls[i]? = some o) (hd : o.dst.isSome = true) (h : StepOk1 P w ls S a o (S i)) : StepOk P w ls S a i o := by
  intro val W hE hS
  have hR := relB_at hB hi
  have hilt : i < ls.length := (List.getElem?_eq_some_iff.1 hi).1
  have hH : Holds ls a o val (frameOf ls val a (depsOf o)).eval := by
    refine ⟨fun j hj t ht => ?_, fun t ht => ?_, fun _ => rfl, fun _ => rfl⟩
    · have hji := hR.dep j hj
      have hj' : ls[j]? = some (ls[j]'(by omega)) := List.getElem?_eq_getElem (by omega)
      have hRj := relB_at hB hj'
      have hdst : (ls[j]'(by omega)).dst = some t := by unfold dstOf at ht; rw [hj'] at ht; exact ht
      have := frame_on val ht (depsOf o) a (fun k hk hd2 => by
        by_cases hkj : k = j
        · exact hkj
        · exact absurd hd2 (hRj.ne k (by have := hR.dep k hk; omega) hkj t hdst)) (hRj.d t hdst) (.inl hj)
      simp [Act.eval, Array.getD_eq_getD_getElem?, this]
    · have := frame_off ls val (depsOf o) a (fun j hj => ht j hj)
      simp only [Act.eval, Array.getD_eq_getD_getElem?, this]
  have hr := h val _ W hE hS hH
  unfold Run1 at hr
  obtain ⟨d, hd'⟩ := Option.isSome_iff_exists.1 hd
  have hwant : ∀ y, Region.wanted o y = true := fun y => by simp [Region.wanted, hR.g]
  have hsz : ∀ d, o.dst = some d → d < (frameOf ls val a (depsOf o)).tmps.size := fun d hd => by rw [frame_size]; exact hR.d d hd
  have hgot : ∀ v, got o ((frameOf ls val a (depsOf o)).put o.dst v) = v := fun v => by rw [got_put hsz, hd']
  unfold wpList
  rw [if_pos (hwant _)]
  left
  unfold Oper.wp
  generalize (execOp (frameOf ls val a (depsOf o)).eval o).run P W = r at *
  cases r with
  | ok x W' =>
    cases x <;> simp only [Oper.upon] at hr ⊢
    case value v => exact ⟨rfl, by rw [put_defers, frame_defers], hr.1, by rw [hgot]; exact hr.2⟩
    case enter f args =>
      refine Calls.mono hr fun e W'' ⟨v, he, h1, h2⟩ => ?_
      subst he
      exact ⟨rfl, by rw [put_defers, frame_defers], h1, by rw [hgot]; exact h2⟩
  | halt x W' => cases hr
theorem StepsOk1.at {P : Program} {w : World} {ls : List Oper} {S : Nat → Sp} {a : Act} : ∀ {os : List Oper} {ss : List Sp}, StepsOk1 P w ls S a os ss → ∀ {j : Nat} {o : Oper}, os[j]? = some o → StepOk1 P w ls S a o (ss.getD j spT)
  | [], _, _, j, o, h => by simp at h
  | x :: os, [], hs, _, _, _ => hs.elim
  | x :: os, s :: ss, hs, 0, o, h => by
    simp at h
    subst h
    exact hs.1
  | x :: os, s :: ss, hs, j + 1, o, h => by
    have := StepsOk1.at hs.2 (j := j) (o := o) (by simpa using h)
    simpa using this
/-- the frame at the end, by the slots alone -/
def putD : List (Option Tmp) → Nat → (Nat → Value) → Act → Act
  | [], _, _, a => a
  | d :: ds, i, val, a => putD ds (i + 1) val (a.put d (val i))
theorem frame_putD {ls : List Oper} {val : Nat → Value} : ∀ (os : List Oper) (i : Nat) (a : Act), (∀ j o, os[j]? = some o → dstOf ls (i + j) = o.dst) → frameOf ls val a (List.range' i os.length) = putD (os.map (·.dst)) i val a
  | [], _, _, _ => rfl
  | o :: os, i, a, h => by
    rw [List.length_cons, List.range'_succ, frameOf, List.map_cons, putD, frame_putD os (i + 1) _ fun j o hj => by have := h (j + 1) o (by simpa using hj); rwa [Nat.add_assoc, Nat.add_comm 1 j]]
    have := h 0 o rfl
    rw [Nat.add_zero] at this
    rw [this]
/-- what all have yielded -/
def AllP : List Sp → Nat → (Nat → Value) → World → Prop
  | [], _, _, _ => True
  | s :: ss, i, val, W => s.p (val i) W ∧ AllP ss (i + 1) val W
theorem allP_of {W : World} {val : Nat → Value} : ∀ (ss : List Sp) (i : Nat), (∀ j, j < ss.length → (ss.getD j spT).p (val (i + j)) W) → AllP ss i val W
  | [], _, _ => trivial
  | s :: ss, i, h => ⟨by have := h 0 (by simp); simpa using this, allP_of ss (i + 1) fun j hj => by have := h (j + 1) (by simp; omega); rw [Nat.add_assoc, Nat.add_comm 1 j]; simpa using this⟩
theorem wp_region_wander1 {P : Program} {id : Nat} {Q : Exit → Act → World → Prop} {a : Act} {w : World} {ls : List Oper} (S : List Sp) (hm : P.follows .mixedOrders = true) (hB : relB ls a.tmps.size = true) (hD : dstB ls = true)
    (hstep : StepsOk1 P w ls (fun i => S.getD i spT) a ls S)
    (D : List (Option Tmp)) (hDs : ls.map (·.dst) = D) (hlen : S.length = ls.length)
    (hend : ∀ (val : Nat → Value) (W : World), Ext w W → AllP S 0 val W → Q .normal (putD D 0 val a) W) :
    (Code.region id ls.toArray true).wp P Q a w := by
  refine wp_region_any hm ?_
  have hend : ∀ (val : Nat → Value) (W : World), Ext w W → (∀ j, j < ls.length → (S.getD j spT).p (val j) W) → Q .normal (frameOf ls val a (List.range ls.length)) W := fun val W hE hS => by
    rw [List.range_eq_range', frame_putD ls 0 a (fun j o hj => by rw [Nat.zero_add]; unfold dstOf; rw [hj]; rfl), hDs]
    exact hend val W hE (allP_of S 0 fun j hj => by rw [Nat.zero_add]; exact hS j (by omega))
  refine wander (S := fun i => S.getD i spT) hB (fun i o hi => stepOk_of hB hi ?_ (hstep.at hi)) hend _ _ _ _ (by simp) ?_ ⟨Ext.dr (Below.refl _ _), fun _ => undef, fun j _ hl => ?_, rfl, rfl, fun j s _ hl => ?_, fun _ _ => rfl⟩
  · exact List.all_eq_true.1 hD o (List.mem_of_getElem? hi)
  · have := List.countP_le_length (p := fun j => !((Array.replicate ls.toArray.size false).getD j false)) (l := List.range ls.length)
    simpa using this
  · rw [getD_replicate] at hl; cases hl
  · rw [getD_replicate] at hl; cases hl

section
variable {P : Program} {o : Oper} {ρ : Operand → Value} {W : World} {s : Sp}
theorem run1_call (f : FuncId) (xs : Array Operand) (ats : Array TypeId) (h : o.op = .call { callee := .value (.func f), args := xs, argTypes := ats }) (args : Array Value) (hf : ρ (.func f) = .func (.func f) #[] #[]) (ha : xs.map ρ = args) (hc : ∀ args W, (callFunc f args).run P W = .ok (.enter f args) W)
    (hs : Calls P f args W fun e W'' => ∃ v, e = .returned v ∧ Ext W W'' ∧ s.p v W'') : Run1 P o ρ W s := by
  obtain ⟨dst, op, type, pos, after, guard⟩ := o
  simp only at h
  subst h
  have e : execOp ρ { dst, op := .call { callee := .value (.func f), args := xs, argTypes := ats }, type, pos, after, guard } = callFunc f (#[] ++ xs.map ρ ++ #[]) := by
    simp only [execOp, resolve, hf]
    rfl
  unfold Run1
  rw [e, ha, Array.append_empty, Array.empty_append, hc]
  exact hs
theorem run1_val {v : Value} {W' : World} (h : (execOp ρ o).run P W = .ok (.value v) W') (hE : Ext W W') (hs : s.p v W') : Run1 P o ρ W s := by
  unfold Run1
  rw [h]
  exact ⟨hE, hs⟩
theorem run1_move (x : Operand) (h : o.op = .move x) (hs : s.p (ρ x) W) : Run1 P o ρ W s := run1_val (by unfold execOp; rw [h]; rfl) (Below.refl _ _) hs
theorem run1_assign (x : Operand) (h : o.op = .assign x) (hs : s.p (ρ x) W) : Run1 P o ρ W s := run1_val (by unfold execOp; rw [h]; rfl) (Below.refl _ _) hs
theorem run1_extract (x : Operand) (i : Nat) (h : o.op = .extract x i) (vs : Array Value) (v : Value) (hx : ρ x = .tuple vs) (hv : vs[i]? = some v) (hs : s.p v W) : Run1 P o ρ W s :=
  run1_val (v := v) (W' := W) (by unfold execOp; rw [h]; simp [Instr.extract, hx, hv]) (Below.refl _ _) hs
end
end Go.Proofs.Ytgcldgchhdjnhaa
