/-
  A region that draws its order, whose operations lay new memory or turn what the region itself has laid: each operation is walked once, whatever the order. What an operation yields is said by a predicate that stays as memory grows; an operation that turns memory ends the predicates of all others that do not wait for it, so whoever needs them has to come before it.
-/
import Derived.Test.YtgcldgchhdjnhaaGrow
namespace Go.Proofs.Ytgcldgchhdjnhaa
open Go.RowKit Go.Shelf
structure Sq where
  p : Value → World → Prop
  hard : Bool
  m : ∀ v w w', p v w → Ext w w' → p v w'
  hm : hard = true → ∀ v w w', p v w → p v w'
def sqV (v0 : Value) : Sq := ⟨fun v _ => v = v0, true, fun _ _ _ h _ => h, fun _ _ _ _ h => h⟩
def sqT : Sq := ⟨fun _ _ => True, true, fun _ _ _ h _ => h, fun _ _ _ _ h => h⟩
def sqW (p : Value → World → Prop) (m : ∀ v w w', p v w → Ext w w' → p v w') : Sq := ⟨p, false, m, fun h => by cases h⟩
/-- those whose yield it uses -/
def usesOf (ls : List Oper) (o : Oper) : List Nat := (depsOf o).filter fun j => o.op.operands.toList.any fun x => match x with | .tmp s => dstOf ls j == some s | _ => false
/-- all that an operation waits for, through others too -/
def ancL (ls : List Oper) : List (List Nat) := ls.foldl (fun acc o => acc ++ [((depsOf o).flatMap fun j => j :: acc.getD j []).eraseDups]) []
def ancB (ls : List Oper) (A : List (List Nat)) : Bool :=
  (List.range ls.length).all fun j => (A.getD j []).all fun i => match ls[j]? with
    | none => false
    | some o => (depsOf o).any fun d => d == i || (A.getD d []).contains i
/-- does an operation end what another one has yielded? -/
def killB (A : List (List Nat)) (hd st : List Bool) (k j : Nat) : Bool := st.getD k false && !hd.getD j true && !(k == j) && !(A.getD j []).contains k
def orderB (ls : List Oper) (A : List (List Nat)) (hd st : List Bool) : Bool :=
  ancB ls A && (List.range ls.length).all fun i => match ls[i]? with
    | none => true
    | some o => (usesOf ls o).all fun j => (List.range ls.length).all fun k => !killB A hd st k j || k == i || (A.getD k []).contains i
def DownC (ls : List Oper) (listed : Array Bool) : Prop := ∀ (j : Nat) (o : Oper), ls[j]? = some o → listed.getD j false = true → ∀ d ∈ depsOf o, listed.getD d false = true
theorem anc_listed {ls : List Oper} {A : List (List Nat)} {size : Nat} (hR : relB ls size = true) (hA : ancB ls A = true) {listed : Array Bool} (hc : DownC ls listed) : ∀ (j : Nat), j < ls.length → listed.getD j false = true → ∀ i ∈ A.getD j [], listed.getD i false = true := by
  intro j
  induction j using Nat.strongRecOn with
  | _ j ih =>
    intro hj hl i hi
    have h1 := List.all_eq_true.1 (List.all_eq_true.1 hA j (List.mem_range.2 hj)) i hi
    have hj' : ls[j]? = some ls[j] := List.getElem?_eq_getElem hj
    rw [hj'] at h1
    obtain ⟨d, hd, h2⟩ := List.any_eq_true.1 h1
    have hdl := hc j _ hj' hl d hd
    have hdj := (relB_at hR hj').dep d hd
    rw [Bool.or_eq_true] at h2
    rcases h2 with h2 | h2
    · have : d = i := by simpa using h2
      subst this; exact hdl
    · exact ih d hdj (by omega) hdl i (by simpa using h2)
def Alive (n : Nat) (A : List (List Nat)) (hd st : List Bool) (listed : Array Bool) (j : Nat) : Prop := ∀ k, k < n → listed.getD k false = true → killB A hd st k j = false
/-- what holds when some operations have been carried out -/
def RInv (w : World) (B : Nat) (ls : List Oper) (S : Nat → Sq) (A : List (List Nat)) (hd st : List Bool) (a : Act) (listed : Array Bool) (a' : Act) (W : World) : Prop :=
  Below B w W ∧ DownC ls listed ∧ ((∀ k, k < ls.length → listed.getD k false = true → st.getD k false = false) → Ext w W) ∧ ∃ val : Nat → Value, (∀ j, j < ls.length → listed.getD j false = true → Alive ls.length A hd st listed j → (S j).p (val j) W) ∧ a'.defers = a.defers ∧ a'.tmps.size = a.tmps.size ∧
    (∀ j s, dstOf ls j = some s → listed.getD j false = true → a'.tmps[s]? = some (val j)) ∧ (∀ s, (∀ j, listed.getD j false = true → dstOf ls j ≠ some s) → a'.tmps[s]? = a.tmps[s]?)
/-- what an operation may do to the world -/
def Eff (B : Nat) (strong : Bool) (W W' : World) : Prop := if strong then Below B W W' else Ext W W'
/-- one operation, carried out once: what it yields -/
def RunQ (P : Program) (B : Nat) (strong : Bool) (o : Oper) (ρ : Operand → Value) (W : World) (s : Sq) : Prop :=
  match (execOp ρ o).run P W with
  | .ok (.value v) W' => Eff B strong W W' ∧ s.p (match o.dst with | some _ => v | none => undef) W'
  | .ok .skip W' => Eff B strong W W' ∧ s.p undef W'
  | .ok (.enter f args) W' => Calls P f args W' fun e W'' => ∃ v, e = .returned v ∧ Eff B strong W W'' ∧ s.p (match o.dst with | some _ => v | none => undef) W''
  | _ => False
/-- does it come before all that turn memory? -/
def earlyL (n : Nat) (A : List (List Nat)) (st : List Bool) : List Bool := (List.range n).map fun i => (List.range n).all fun k => !st.getD k false || k == i || (A.getD k []).contains i
def StepQ (P : Program) (w : World) (B : Nat) (ls : List Oper) (S : Nat → Sq) (a : Act) (strong early : Bool) (o : Oper) (s : Sq) : Prop :=
  ∀ (val : Nat → Value) (ρ : Operand → Value) (W : World), Below B w W → w.heap.size ≤ W.heap.size → (∀ j ∈ usesOf ls o, (S j).p (val j) W) → Holds ls a o val ρ → (early = true → Ext w W) → RunQ P B strong o ρ W s
theorem Eff.below {B : Nat} {s : Bool} {W W' : World} (h : Eff B s W W') (hB : B ≤ W.heap.size) : Below B W W' := by
  unfold Eff at h
  cases s
  · exact h.mono hB
  · exact h
theorem undef_put (a : Act) (d : Option Tmp) (v : Value) : a.put d v = a.put d (match d with | some _ => v | none => undef) := by cases d <;> rfl
theorem rove {P : Program} {w : World} {B : Nat} (hBw : B ≤ w.heap.size) {ls : List Oper} {S : Nat → Sq} {A : List (List Nat)} {hd st : List Bool} {a : Act} {Q : Exit → Act → World → Prop} (hB : relB ls a.tmps.size = true) (hO : orderB ls A hd st = true)
    (hhd : ∀ j, hd.getD j true = true → (S j).hard = true)
    (hstep : ∀ i o, ls[i]? = some o → StepQ P w B ls S a (st.getD i false) ((earlyL ls.length A st).getD i false) o (S i))
    (hend : ∀ (val : Nat → Value) (W : World), Below B w W → (∀ j, j < ls.length → (∀ k, k < ls.length → killB A hd st k j = false) → (S j).p (val j) W) → Q .normal (frameOf ls val a (List.range ls.length)) W) :
    ∀ (fuel : Nat) (listed : Array Bool) (a' : Act) (W : World), listed.size = ls.length → (List.range ls.length).countP (fun j => !listed.getD j false) ≤ fuel → w.heap.size ≤ W.heap.size → RInv w B ls S A hd st a listed a' W →
      wpAny P .any ls.toArray Q fuel listed a' W := by
  simp only [orderB, Bool.and_eq_true] at hO
  obtain ⟨hA, hO⟩ := hO
  have fin : ∀ (listed : Array Bool) (a' : Act) (W : World), listed.size = ls.length → RInv w B ls S A hd st a listed a' W → (∀ j, j < ls.length → listed.getD j false = true) → Q .normal a' W := by
    intro listed a' W hs ⟨hE, hc, _, val, h1, h2, h3, h4, h5⟩ hall
    have e : a' = frameOf ls val a (List.range ls.length) := by
      refine act_ext (by rw [h2, frame_defers]) (by rw [h3, frame_size]) fun s => ?_
      by_cases hx : ∃ j, j < ls.length ∧ dstOf ls j = some s
      · obtain ⟨j, hj, hd⟩ := hx
        have hj' : ls[j]? = some ls[j] := List.getElem?_eq_getElem hj
        have hR := relB_at hB hj'
        have hdst : ls[j].dst = some s := by unfold dstOf at hd; rw [hj'] at hd; exact hd
        rw [h4 j s hd (hall j hj), frame_on val hd _ _ (fun k hk hd2 => ?_) (hR.d s hdst) (.inl (List.mem_range.2 hj))]
        by_cases hkj : k = j
        · exact hkj
        · exact absurd hd2 (hR.ne k (List.mem_range.1 hk) hkj s hdst)
      · rw [h5 s fun j hl hd => hx ⟨j, ?_, hd⟩, frame_off ls val _ _ fun j hj hd => hx ⟨j, List.mem_range.1 hj, hd⟩]
        unfold dstOf at hd
        rcases Nat.lt_or_ge j ls.length with hj | hj
        · exact hj
        · rw [List.getElem?_eq_none hj] at hd; cases hd
    rw [e]
    exact hend val W hE fun j hj hk => h1 j hj (hall j hj) fun k hkl _ => hk k hkl
  have allL : ∀ (listed : Array Bool), listed.size = ls.length → Region.ready .any ls.toArray listed = [] → ∀ j, j < ls.length → listed.getD j false = true := by
    intro listed hs h0 j
    induction j using Nat.strongRecOn with
    | _ j ih =>
      intro hj
      cases hl : listed.getD j false with
      | true => rfl
      | false =>
        exfalso
        have hj' : ls[j]? = some ls[j] := List.getElem?_eq_getElem hj
        have hR := relB_at hB hj'
        have hin : j ∈ Region.ready .any ls.toArray listed := by
          refine mem_ready.2 ⟨?_, ls[j], by simp [hj], fun e he hb => ?_⟩
          · have hjs : j < listed.size := by omega
            simp [hjs] at hl ⊢
            exact hl
          · have hd : e.on ∈ depsOf ls[j] := List.mem_map.2 ⟨e, List.mem_filter.2 ⟨by simpa using he, hb⟩, rfl⟩
            have hlt := hR.dep _ hd
            exact ih _ hlt (by omega)
        rw [h0] at hin
        cases hin
  have step : ∀ (listed : Array Bool) (a' : Act) (W : World) (i : Nat) (K : Act → World → Prop), listed.size = ls.length → w.heap.size ≤ W.heap.size → RInv w B ls S A hd st a listed a' W → i ∈ Region.ready .any ls.toArray listed →
      (∀ a2 W2, w.heap.size ≤ W2.heap.size → RInv w B ls S A hd st a (listed.setIfInBounds i true) a2 W2 → K a2 W2) → wpOp P ls.toArray Q i K a' W := by
    intro listed a' W i K hs hsz0 ⟨hE, hc, hx0, val, h1, h2, h3, h4, h5⟩ hi hK
    obtain ⟨hl, o, ho, hdeps⟩ := mem_ready.1 hi
    have ho' : ls[i]? = some o := by simpa using ho
    have hilt : i < ls.length := (List.getElem?_eq_some_iff.1 ho').1
    have hR := relB_at hB ho'
    have hdl : ∀ j ∈ depsOf o, listed.getD j false = true := fun j hj => by
      obtain ⟨e, he, rfl⟩ := List.mem_map.1 hj
      obtain ⟨he1, he2⟩ := List.mem_filter.1 he
      exact hdeps e (by simpa using he1) he2
    have hilf : listed.getD i false = false := by
      have : i < listed.size := by omega
      simp [this] at hl ⊢
      exact hl
    have hnl : ∀ {b : Prop}, listed.getD i false = true → b := fun h => by rw [hilf] at h; cases h
    have hanc := anc_listed hB hA hc
    have hev : ∀ x ∈ o.op.operands, a'.eval x = (frameOf ls val a (depsOf o)).eval x := fun x hx => by
      cases x with
      | tmp s =>
        have hh : a'.tmps[s]? = (frameOf ls val a (depsOf o)).tmps[s]? := by
          rcases hR.x s hx with ⟨j, hj, hd⟩ | hno
          · have hji := hR.dep j hj
            have hj' : ls[j]? = some (ls[j]'(by omega)) := List.getElem?_eq_getElem (by omega)
            have hRj := relB_at hB hj'
            have hdst : (ls[j]'(by omega)).dst = some s := by unfold dstOf at hd; rw [hj'] at hd; exact hd
            rw [h4 j s hd (hdl j hj), frame_on val hd _ _ (fun k hk hd2 => ?_) (hRj.d s hdst) (.inl hj)]
            by_cases hkj : k = j
            · exact hkj
            · exact absurd hd2 (hRj.ne k (by have := hR.dep k hk; omega) hkj s hdst)
          · rw [h5 s fun j hl hd => ?_, frame_off ls val _ _ fun j hj => hno j (by have := hR.dep j hj; omega)]
            rcases Nat.lt_or_ge j ls.length with hj | hj
            · exact hno j hj hd
            · unfold dstOf at hd; rw [List.getElem?_eq_none hj] at hd; cases hd
        simp only [Act.eval, Array.getD_eq_getD_getElem?, hh]
      | _ => rfl
    have hx := execOp_congr o hR.s hev
    have hH : Holds ls a o val (frameOf ls val a (depsOf o)).eval := by
      refine ⟨fun j hj t ht => ?_, fun t ht => ?_, fun _ => rfl, fun _ => rfl⟩
      · have hji := hR.dep j hj
        have hj' : ls[j]? = some (ls[j]'(by omega)) := List.getElem?_eq_getElem (by omega)
        have hRj := relB_at hB hj'
        have hdst : (ls[j]'(by omega)).dst = some t := by unfold dstOf at ht; rw [hj'] at ht; exact ht
        have := frame_on val ht (depsOf o) a (fun k hk hd2 => by
          by_cases hkj : k = j
          · exact hkj
          · exact absurd hd2 (hRj.ne k (by have := hR.dep k hk; omega) hkj t hdst)) (hRj.d t hdst) (.inl hj)
        simp [Act.eval, Array.getD_eq_getD_getElem?, this]
      · have := frame_off ls val (depsOf o) a (fun j hj => ht j hj)
        simp only [Act.eval, Array.getD_eq_getD_getElem?, this]
    have hdepS : ∀ j ∈ usesOf ls o, (S j).p (val j) W := fun j hju => by
      have hj : j ∈ depsOf o := (List.mem_filter.1 hju).1
      refine h1 j (by have := hR.dep j hj; omega) (hdl j hj) fun k hk hlk => ?_
      cases hkl : killB A hd st k j with
      | false => rfl
      | true =>
        have q := List.all_eq_true.1 hO i (List.mem_range.2 hilt)
        rw [ho'] at q
        have q2 := List.all_eq_true.1 (List.all_eq_true.1 q j hju) k (List.mem_range.2 hk)
        rw [hkl] at q2
        simp only [Bool.not_true, Bool.false_or, Bool.or_eq_true] at q2
        rcases q2 with q2 | q2
        · have : k = i := by simpa using q2
          subst this; exact hnl hlk
        · exact hnl (hanc k hk hlk i (by simpa using q2))
    have hw := hstep i o ho' val _ W hE hsz0 hdepS hH fun he => hx0 fun k hk hlk => by
      simp only [earlyL, List.getD_eq_getElem?_getD, List.getElem?_map, List.getElem?_range hilt, Option.map_some, Option.getD_some] at he
      have q := List.all_eq_true.1 he k (List.mem_range.2 hk)
      simp only [Bool.or_eq_true, Bool.not_eq_true'] at q
      rcases q with (q | q) | q
      · simpa [List.getD_eq_getElem?_getD] using q
      · have : k = i := by simpa using q
        subst this; exact hnl hlk
      · exact hnl (hanc k hk hlk i (by simpa [List.getD_eq_getElem?_getD] using q))
    have hwant : ∀ y, Region.wanted o y = true := fun y => by simp [Region.wanted, hR.g]
    unfold wpOp
    rw [ho]
    simp only
    rw [if_pos (hwant _)]
    left
    have next : ∀ v W', Eff B (st.getD i false) W W' → (S i).p (match o.dst with | some _ => v | none => undef) W' → K (a'.put o.dst v) W' := fun v W' hE' hS => by
      have hsz1 : W.heap.size ≤ W'.heap.size := by
        unfold Eff at hE'
        split at hE'
        · exact hE'.size
        · exact hE'.size
      refine hK _ _ (by omega) ⟨hE.trans (hE'.below (by omega)), fun j oj hj hlj d hd => ?_, fun hns => ?_, fun j => if j = i then (match o.dst with | some _ => v | none => undef) else val j, fun j hj hlj hal => ?_, by rw [put_defers, h2], by rw [put_size, h3], fun j s hd hlj => ?_, fun s hno => ?_⟩
      · by_cases hji : j = i
        · subst hji
          rw [ho'] at hj
          cases hj
          exact getD_set_true (hdl d hd)
        · rw [getD_set_ne false (Ne.symm hji)] at hlj
          exact getD_set_true (hc j oj hj hlj d hd)
      · have hst := hns i hilt (by simp [hs, hilt])
        rw [hst] at hE'
        exact (hx0 fun k hk hlk => hns k hk (getD_set_true hlk)).trans' hE'
      · by_cases hji : j = i
        · subst hji; simp only [if_true]; exact hS
        · rw [getD_set_ne false (Ne.symm hji)] at hlj
          simp only [hji, if_false]
          have hold := h1 j hj hlj fun k hk hlk => hal k hk (getD_set_true hlk)
          have hki := hal i hilt (by simp [hs, hilt])
          cases hst : st.getD i false with
          | false =>
            rw [hst] at hE'
            exact (S j).m _ _ _ hold hE'
          | true =>
            unfold killB at hki
            rw [hst] at hki
            have hij : (i == j) = false := by simpa using fun h => hji h.symm
            rw [hij] at hki
            simp only [Bool.true_and, Bool.not_false, Bool.and_true, Bool.and_eq_false_iff, Bool.not_eq_false'] at hki
            rcases hki with hki | hki
            · exact (S j).hm (hhd j hki) _ _ _ hold
            · exact hnl (hanc j hj hlj i (by simpa using hki))
      · by_cases hji : j = i
        · subst hji
          have hdst : o.dst = some s := by unfold dstOf at hd; rw [ho'] at hd; exact hd
          simp only [if_true, hdst]
          exact put_on _ _ (by rw [h3]; exact hR.d s hdst)
        · rw [getD_set_ne false (Ne.symm hji)] at hlj
          simp only [hji, if_false]
          rw [put_off, h4 j s hd hlj]
          intro hdst
          rcases Nat.lt_or_ge j ls.length with hj | hj
          · exact hR.ne j hj hji s hdst hd
          · unfold dstOf at hd; rw [List.getElem?_eq_none hj] at hd; cases hd
      · have hoi : o.dst ≠ some s := by
          have := hno i (by simp [hs, hilt])
          unfold dstOf at this
          rw [ho'] at this
          exact this
        rw [put_off _ _ hoi, h5 s fun j hlj => hno j (getD_set_true hlj)]
    unfold RunQ at hw
    unfold Oper.wp
    rw [hx]
    generalize (execOp (frameOf ls val a (depsOf o)).eval o).run P W = r at *
    cases r with
    | ok x W' =>
      cases x <;> simp only [Oper.upon] at hw ⊢
      case value v => exact next v W' hw.1 hw.2
      case skip => exact next undef W' hw.1 (by cases o.dst <;> exact hw.2)
      case enter f args =>
        refine Calls.mono hw fun e W'' ⟨v, he, q1, q2⟩ => ?_
        subst he
        exact next v W'' q1 q2
    | halt x W' => cases hw
  intro fuel
  induction fuel with
  | zero =>
    intro listed a' W hs hf hz hW
    have hall : ∀ j, j < ls.length → listed.getD j false = true := fun j hj => by
      have h0 : (List.range ls.length).countP (fun j => !listed.getD j false) = 0 := by omega
      rw [List.countP_eq_zero] at h0
      have := h0 j (List.mem_range.2 hj)
      simpa using this
    refine ⟨?_, fin listed a' W hs hW hall⟩
    rcases hr : Region.ready .any ls.toArray listed with _ | ⟨k, rs⟩
    · rfl
    · exfalso
      have hk : k ∈ Region.ready .any ls.toArray listed := by rw [hr]; simp
      obtain ⟨g1, ok, g2, _⟩ := mem_ready.1 hk
      have hlt : k < ls.length := by have := (Array.getElem?_eq_some_iff.1 g2).1; simpa using this
      have hka := hall k hlt
      have : k < listed.size := by omega
      simp [this] at g1 hka
      rw [g1] at hka
      cases hka
  | succ fuel ih =>
    intro listed a' W hs hf hz hW
    refine ⟨fun h0 => fin listed a' W hs hW (allL listed hs h0), fun i hi => ?_⟩
    refine step listed a' W i _ hs hz hW hi fun a2 W2 hz2 hW2 => ih _ a2 W2 (by simpa using hs) ?_ hz2 hW2
    obtain ⟨hl, o, ho, _⟩ := mem_ready.1 hi
    have hilt : i < ls.length := by have := (Array.getElem?_eq_some_iff.1 ho).1; simpa using this
    have his : i < listed.size := by omega
    have hcnt := countP_off (fun j => !listed.getD j false) (fun j => !(listed.setIfInBounds i true).getD j false) i ls.length (fun j hj => by rw [getD_set_ne false (Ne.symm hj)]) (by simp [his] at hl ⊢; exact hl) (by simp [his]) hilt
    omega
def StepsQ (P : Program) (w : World) (B : Nat) (ls : List Oper) (S : Nat → Sq) (a : Act) : List (Bool × Bool) → List Oper → List Sq → Prop
  | _, [], _ => True
  | _, _ :: _, [] => False
  | [], _ :: _, _ :: _ => False
  | b :: bs, o :: os, s :: ss => StepQ P w B ls S a b.1 b.2 o s ∧ StepsQ P w B ls S a bs os ss
theorem StepsQ.at {P : Program} {w : World} {B : Nat} {ls : List Oper} {S : Nat → Sq} {a : Act} : ∀ {st : List (Bool × Bool)} {os : List Oper} {ss : List Sq}, StepsQ P w B ls S a st os ss → ∀ {j : Nat} {o : Oper}, os[j]? = some o → StepQ P w B ls S a (st.getD j (false, false)).1 (st.getD j (false, false)).2 o (ss.getD j sqT)
  | _, [], _, _, j, o, h => by simp at h
  | bs, x :: os, [], hs, _, _, _ => by cases bs <;> exact False.elim hs
  | [], x :: os, s :: ss, hs, _, _, _ => False.elim hs
  | b :: bs, x :: os, s :: ss, hs, 0, o, h => by
    simp at h
    subst h
    exact hs.1
  | b :: bs, x :: os, s :: ss, hs, j + 1, o, h => by
    have := StepsQ.at hs.2 (j := j) (o := o) (by simpa using h)
    simpa using this
/-- what the operations have yielded whose predicates have not ended -/
def AllQ (keep : List Bool) : List Sq → Nat → (Nat → Value) → World → Prop
  | [], _, _, _ => True
  | s :: ss, i, val, W => (if keep.getD i false then s.p (val i) W else True) ∧ AllQ keep ss (i + 1) val W
theorem allQ_of {W : World} {val : Nat → Value} {keep : List Bool} : ∀ (ss : List Sq) (i : Nat), (∀ j, j < ss.length → keep.getD (i + j) false = true → (ss.getD j sqT).p (val (i + j)) W) → AllQ keep ss i val W
  | [], _, _ => trivial
  | s :: ss, i, h => ⟨by
      split
      · rename_i hk
        have := h 0 (by simp) (by simpa using hk)
        simpa using this
      · trivial, allQ_of ss (i + 1) fun j hj hk => by
      have := h (j + 1) (by simp; omega) (by rw [← Nat.add_assoc, Nat.add_right_comm]; exact hk)
      rw [Nat.add_assoc, Nat.add_comm 1 j]; simpa using this⟩
def keepL (n : Nat) (A : List (List Nat)) (hd st : List Bool) : List Bool := (List.range n).map fun j => (List.range n).all fun k => !killB A hd st k j
theorem rove_any {P : Program} {Q : Exit → Act → World → Prop} {a : Act} {w : World} {ls : List Oper} (B : Nat) (hBw : B ≤ w.heap.size) (S : List Sq) (hd st keep ea : List Bool) (hB : relB ls a.tmps.size = true)
    (hO : orderB ls (ancL ls) hd st = true) (hK : keepL ls.length (ancL ls) hd st = keep) (hEa : earlyL ls.length (ancL ls) st = ea) (hsl : st.length = ls.length) (hhd : S.map (·.hard) = hd)
    (hstep : StepsQ P w B ls (fun i => S.getD i sqT) a (st.zip ea) ls S)
    (D : List (Option Tmp)) (hDs : ls.map (·.dst) = D) (hlen : S.length = ls.length)
    (hend : ∀ (val : Nat → Value) (W : World), Below B w W → w.heap.size ≤ W.heap.size → AllQ keep S 0 val W → Q .normal (putD D 0 val a) W) :
    wpAny P .any ls.toArray Q ls.toArray.size (Array.replicate ls.toArray.size false) a { w with drawn := w.drawn + 1 } := by
  have hend : ∀ (val : Nat → Value) (W : World), Below B w W → (∀ j, j < ls.length → (∀ k, k < ls.length → killB (ancL ls) hd st k j = false) → (S.getD j sqT).p (val j) W) → Q .normal (frameOf ls val a (List.range ls.length)) W := fun val W hE hS => by
    rw [List.range_eq_range', frame_putD ls 0 a (fun j o hj => by rw [Nat.zero_add]; unfold dstOf; rw [hj]; rfl), hDs]
    refine hend val W hE hE.size (allQ_of S 0 fun j hj hk => ?_)
    rw [Nat.zero_add] at hk ⊢
    refine hS j (by omega) fun k hkl => ?_
    rw [← hK] at hk
    unfold keepL at hk
    have hjl : j < ls.length := by omega
    simp only [List.getD_eq_getElem?_getD, List.getElem?_map, List.getElem?_range hjl, Option.map_some, Option.getD_some] at hk
    have := List.all_eq_true.1 hk k (List.mem_range.2 hkl)
    simpa using this
  refine rove (A := ancL ls) (hd := hd) (st := st) hBw (S := fun i => S.getD i sqT) hB hO (fun j hj => ?_) (fun i o hi => ?hst) hend _ _ _ _ (by simp) ?_ (Nat.le_refl _) ⟨Below.drew (Below.refl _ _), fun j o _ hl => ?_, fun _ => Ext.dr (Below.refl _ _), fun _ => undef, fun j _ hl => ?_, rfl, rfl, fun j s _ hl => ?_, fun _ _ => rfl⟩
  · rw [← hhd] at hj
    rcases Nat.lt_or_ge j S.length with h | h
    · simpa [List.getD_eq_getElem?_getD, h] using hj
    · simp [List.getD_eq_getElem?_getD, h, sqT]
  · have h1 := hstep.at hi
    have hil : i < ls.length := (List.getElem?_eq_some_iff.1 hi).1
    have hel : ea.length = ls.length := by rw [← hEa]; simp [earlyL]
    have hz : (st.zip ea).getD i (false, false) = (st.getD i false, ea.getD i false) := by
      simp only [List.getD_eq_getElem?_getD, List.getElem?_zip_eq_some, List.getElem?_eq_getElem (show i < (st.zip ea).length by simp; omega), List.getElem?_eq_getElem (show i < st.length by omega), List.getElem?_eq_getElem (show i < ea.length by omega), Option.getD_some, List.getElem_zip]
    rw [hz] at h1
    rw [hEa]
    exact h1
  · have := List.countP_le_length (p := fun j => !((Array.replicate ls.toArray.size false).getD j false)) (l := List.range ls.length)
    simpa using this
  · rw [getD_replicate] at hl; cases hl
  · rw [getD_replicate] at hl; cases hl
  · rw [getD_replicate] at hl; cases hl
theorem wp_region_rove {P : Program} {id : Nat} {Q : Exit → Act → World → Prop} {a : Act} {w : World} {ls : List Oper} (B : Nat) (hBw : B ≤ w.heap.size) (S : List Sq) (hd st keep ea : List Bool) (hm : P.follows .mixedOrders = true) (hB : relB ls a.tmps.size = true)
    (hO : orderB ls (ancL ls) hd st = true) (hK : keepL ls.length (ancL ls) hd st = keep) (hEa : earlyL ls.length (ancL ls) st = ea) (hsl : st.length = ls.length) (hhd : S.map (·.hard) = hd)
    (hstep : StepsQ P w B ls (fun i => S.getD i sqT) a (st.zip ea) ls S)
    (D : List (Option Tmp)) (hDs : ls.map (·.dst) = D) (hlen : S.length = ls.length)
    (hend : ∀ (val : Nat → Value) (W : World), Below B w W → w.heap.size ≤ W.heap.size → AllQ keep S 0 val W → Q .normal (putD D 0 val a) W) :
    (Code.region id ls.toArray true).wp P Q a w := wp_region_any hm (rove_any B hBw S hd st keep ea hB hO hK hEa hsl hhd hstep D hDs hlen hend)

section
variable {P : Program} {md : Region.Mode}
theorem wp_monoQ {o : Oper} {a : Act} {w : World} {K : Act → World → Prop} {Q Q' : Exit → Act → World → Prop} (hq : ∀ e a w, e ≠ .normal → Q e a w → Q' e a w) (hh : o.wp P a w K Q) : o.wp P a w K Q' := by
  unfold Oper.wp at *
  have hl : LetsOut Q → LetsOut Q' := fun ⟨a, w, h⟩ => ⟨a, w, hq _ _ _ (by simp) h⟩
  generalize (execOp a.eval o).run P w = r at *
  cases r with
  | ok x w' =>
    cases x <;> simp only [Oper.upon] at hh ⊢ <;>
      first
        | exact hh
        | exact Calls.mono hh (fun e w'' he => by cases e <;> first | exact he | exact hl he | exact hq _ _ _ (by simp) he)
  | halt x w' => cases x <;> simp only [Oper.upon] at hh ⊢ <;> first | exact hh | exact hq _ _ _ (by simp) hh
theorem wpAny_end {ops : Array Oper} {Q : Exit → Act → World → Prop} {listed : Array Bool} {a : Act} {w : World} (h0 : Region.ready md ops listed = []) (h : Q .normal a w) : ∀ fuel, wpAny P md ops Q fuel listed a w
  | 0 => ⟨h0, h⟩
  | _ + 1 => ⟨fun _ => h, fun i hi => by rw [h0] at hi; cases hi⟩
theorem wpAny_snoc {head : Array Oper} {o : Oper} {Q : Exit → Act → World → Prop} (hB : lastB md head o = true) : ∀ (fuel : Nat) (listed : Array Bool) (a : Act) (w : World), listed.size = head.size → Closed md head listed →
    wpAny P md head (Exit.then (fun a w => wpOp P (head.push o) Q head.size (Q .normal) a w) Q) fuel listed a w → wpAny P md (head.push o) Q (fuel + 1) (listed.push false) a w := by
  have last : ∀ (fuel : Nat) (listed : Array Bool) (a : Act) (w : World), listed.size = head.size → Closed md head listed → Region.ready md head listed = [] → wpOp P (head.push o) Q head.size (Q .normal) a w →
      wpAny P md (head.push o) Q (fuel + 1) (listed.push false) a w := by
    intro fuel listed a w hs hcl h0 h
    have hall := all_listed hB hs h0
    have hin : head.size ∈ Region.ready md (head.push o) (listed.push false) := by
      refine mem_ready.2 ⟨by rw [← hs]; simp [Array.getD], o, by simp, fun e he hb => ?_⟩
      have hon : e.on < head.size := (lastB_spec hB).2.2 e he hb
      have := hall e.on hon
      rw [getD_push_false]
      simp [show e.on < listed.size by omega] at this ⊢
      exact this
    refine ⟨fun h1 => (by rw [h1] at hin; cases hin), fun i hi => ?_⟩
    rcases ready_push hB hs hcl hi with ⟨hlt, hr⟩ | ⟨rfl, _⟩
    · rw [h0] at hr; cases hr
    · refine wpOp_mono (fun a w hq => wpAny_end ?_ hq fuel) h
      rcases hr : Region.ready md (head.push o) ((listed.push false).setIfInBounds head.size true) with _ | ⟨k, rs⟩
      · rfl
      · exfalso
        have hk : k ∈ Region.ready md (head.push o) ((listed.push false).setIfInBounds head.size true) := by rw [hr]; simp
        obtain ⟨g1, ok, g2, _⟩ := mem_ready.1 hk
        have hsz := (Array.getElem?_eq_some_iff.1 g2).1
        simp only [Array.size_push] at hsz
        by_cases hkl : k = head.size
        · subst hkl
          simp [Array.getD, hs] at g1
        · rw [getD_set_ne true (fun h => hkl h.symm), getD_push_lt true (by omega), hall k (by omega)] at g1
          cases g1
  intro fuel
  induction fuel with
  | zero => exact fun listed a w hs hcl h => last 0 listed a w hs hcl h.1 h.2
  | succ fuel ih =>
    intro listed a w hs hcl h
    by_cases h0 : Region.ready md head listed = []
    · exact last _ listed a w hs hcl h0 (h.1 h0)
    · refine ⟨fun h1 => ?_, fun i hi => ?_⟩
      · exfalso
        rcases hr : Region.ready md head listed with _ | ⟨k, rs⟩
        · exact h0 hr
        · have hk : k ∈ Region.ready md head listed := by rw [hr]; simp
          obtain ⟨g1, ok, g2, g3⟩ := mem_ready.1 hk
          have hkl : k < head.size := (Array.getElem?_eq_some_iff.1 g2).1
          have : k ∈ Region.ready md (head.push o) (listed.push false) :=
            mem_ready.2 ⟨by rw [getD_push_lt true (by omega)]; exact g1, ok, by rw [Array.getElem?_push, if_neg (by omega)]; exact g2, fun e he hb => by rw [getD_push_false]; exact g3 e he hb⟩
          rw [h1] at this
          cases this
      · rcases ready_push hB hs hcl hi with ⟨hlt, hr⟩ | ⟨_, hr⟩
        · have h2 := h.2 i hr
          have e1 : (head.push o)[i]? = head[i]? := by rw [Array.getElem?_push, if_neg (by omega)]
          have e2 : (listed.push false).setIfInBounds i true = (listed.setIfInBounds i true).push false := by
            apply Array.ext'
            simp only [Array.toList_setIfInBounds, Array.toList_push]
            rw [List.set_append_left _ _ (by simpa [hs] using hlt)]
          generalize (fun a w => wpOp P (head.push o) Q head.size (Q .normal) a w) = KK at h2 ih
          unfold wpOp at h2 ⊢
          rw [e1, e2]
          have hg : head[i]? = some head[i] := by simp [hlt]
          rw [hg] at h2 ⊢
          simp only at h2 ⊢
          rw [wanted_push (o := o) ((lastB_spec hB).1 i head[i] hg).2]
          have hmq : ∀ e a w, e ≠ Exit.normal → Exit.then KK Q e a w → Q e a w := fun e a w hne hq => by cases e <;> first | exact absurd rfl hne | exact hq
          split
          · rename_i hw
            rw [if_pos hw] at h2
            rcases h2 with h2 | ⟨h2, a2, w2, h3⟩
            · exact .inl (wp_monoQ hmq (Oper.wp_mono (fun a w => ih _ a w (by simp [hs]) (hcl.set hr)) h2))
            · exact .inr ⟨h2, a2, w2, hmq _ _ _ (by simp) h3⟩
          · rename_i hw
            rw [if_neg hw] at h2
            exact ih _ _ _ (by simp [hs]) (hcl.set hr) h2
        · exact absurd hr h0

end
theorem wp_region_rove_last {P : Program} {id : Nat} {Q : Exit → Act → World → Prop} {a : Act} {w : World} {hd0 : List Oper} {o : Oper} {ls : List Oper} (hls : ls = hd0 ++ [o]) (hg : o.guard = none) (hL : lastB .any hd0.toArray o = true)
    (B : Nat) (hBw : B ≤ w.heap.size) (S : List Sq) (hd st keep ea : List Bool) (hm : P.follows .mixedOrders = true) (hB : relB hd0 a.tmps.size = true)
    (hO : orderB hd0 (ancL hd0) hd st = true) (hK : keepL hd0.length (ancL hd0) hd st = keep) (hEa : earlyL hd0.length (ancL hd0) st = ea) (hsl : st.length = hd0.length) (hhd : S.map (·.hard) = hd)
    (hstep : StepsQ P w B hd0 (fun i => S.getD i sqT) a (st.zip ea) hd0 S)
    (D : List (Option Tmp)) (hDs : hd0.map (·.dst) = D) (hlen : S.length = hd0.length)
    (hend : ∀ (val : Nat → Value) (W : World), Below B w W → w.heap.size ≤ W.heap.size → AllQ keep S 0 val W → wpList P ls.toArray Q [o] (putD D 0 val a) W) :
    (Code.region id ls.toArray true).wp P Q a w := by
  subst hls
  have e : (hd0 ++ [o]).toArray = hd0.toArray.push o := by simp
  rw [e] at hend ⊢
  refine wp_region_any hm ?_
  have e2 : Array.replicate (hd0.toArray.push o).size false = (Array.replicate hd0.toArray.size false).push false := by
    rw [Array.size_push, Array.replicate_succ]
  rw [e2, Array.size_push]
  refine wpAny_snoc hL _ _ _ _ (by simp) (fun j oj _ hl => by rw [getD_replicate] at hl; cases hl) ?_
  have hend' : ∀ (val : Nat → Value) (W : World), Below B w W → w.heap.size ≤ W.heap.size → AllQ keep S 0 val W → Exit.then (fun a w => wpOp P (hd0.toArray.push o) Q hd0.toArray.size (Q .normal) a w) Q .normal (putD D 0 val a) W := by
    intro val W h1 h2 h3
    have h := hend val W h1 h2 h3
    unfold wpList at h
    simp only [Exit.then]
    unfold wpOp
    have hi : (hd0.toArray.push o)[hd0.toArray.size]? = some o := by simp
    rw [hi]
    have hw : ∀ y, Region.wanted o y = true := fun y => by simp [Region.wanted, hg]
    simp only [hw, if_true] at h ⊢
    exact h
  exact rove_any B hBw S hd st keep ea hB hO hK hEa hsl hhd hstep D hDs hlen hend'
/-- the same, the operations written out: 'dsimp only [List.dropLast]' behind it -/
theorem wp_region_rove_tail {P : Program} {id : Nat} {Q : Exit → Act → World → Prop} {a : Act} {w : World} {o : Oper} {ls : List Oper} (ho : ls.getLast? = some o) (hg : o.guard = none) (hL : lastB .any ls.dropLast.toArray o = true)
    (B : Nat) (hBw : B ≤ w.heap.size) (S : List Sq) (hd st keep ea : List Bool) (hm : P.follows .mixedOrders = true) (hB : relB ls.dropLast a.tmps.size = true)
    (hO : orderB ls.dropLast (ancL ls.dropLast) hd st = true) (hK : keepL ls.dropLast.length (ancL ls.dropLast) hd st = keep) (hEa : earlyL ls.dropLast.length (ancL ls.dropLast) st = ea) (hsl : st.length = ls.dropLast.length) (hhd : S.map (·.hard) = hd)
    (hstep : StepsQ P w B ls.dropLast (fun i => S.getD i sqT) a (st.zip ea) ls.dropLast S)
    (D : List (Option Tmp)) (hDs : ls.dropLast.map (·.dst) = D) (hlen : S.length = ls.dropLast.length)
    (hend : ∀ (val : Nat → Value) (W : World), Below B w W → w.heap.size ≤ W.heap.size → AllQ keep S 0 val W → wpList P ls.toArray Q [o] (putD D 0 val a) W) :
    (Code.region id ls.toArray true).wp P Q a w := by
  refine wp_region_rove_last ?_ hg hL B hBw S hd st keep ea hm hB hO hK hEa hsl hhd hstep D hDs hlen hend
  have hne : ls ≠ [] := by intro e; rw [e] at ho; cases ho
  rw [List.getLast?_eq_some_getLast hne] at ho
  have := List.dropLast_concat_getLast hne
  rw [← this]
  cases ho
  simp
end Go.Proofs.Ytgcldgchhdjnhaa
