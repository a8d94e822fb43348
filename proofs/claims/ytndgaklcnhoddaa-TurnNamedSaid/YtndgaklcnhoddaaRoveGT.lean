/-
  A region with guards that draws its order, whose last operation writes, and in a round of a range over a function.
-/
import Derived.Test.YtndgaklcnhoddaaRoveG
namespace Go.Proofs.Ytndgaklcnhoddaa
open Go.RowKit Go.Shelf
theorem wp_region_roveG_last {P : Program} {id : Nat} {Q : Exit → Act → World → Prop} {a : Act} {w : World} {hd0 : List Oper} {o : Oper} {ls : List Oper} (hls : ls = hd0 ++ [o]) (hg : o.guard = none) (hL : lastB .any hd0.toArray o = true)
    (B : Nat) (hBw : B ≤ w.heap.size) (S : List Sq) (hd st keep ea : List Bool) (wt : List Bool) (gv : List (Option Bool)) (hm : P.follows .mixedOrders = true) (hB : relG hd0 a.tmps.size = true) (hG : guardsB hd0 wt gv hd = true) (hgv : GvOk gv S)
    (hO : orderB hd0 (ancL hd0) hd st = true) (hK : keepL hd0.length (ancL hd0) hd st = keep) (hEa : earlyL hd0.length (ancL hd0) st = ea) (hsl : st.length = hd0.length) (hhd : S.map (·.hard) = hd ∧ usB hd0 S = true ∧ usO hd0.length S (ancL hd0) hd st = true)
    (hstep : StepsG P w B hd0 (fun i => S.getD i sqT) a wt (st.zip ea) hd0 S)
    (D : List (Option Tmp)) (hDs : hd0.map (·.dst) = D) (hlen : S.length = hd0.length)
    (hend : ∀ (val : Nat → Value) (W : World), Below B w W → w.heap.size ≤ W.heap.size → AllQ keep S 0 val W → wpList P ls.toArray Q [o] (putD D 0 val a) W) :
    (Code.region id ls.toArray true).wp P Q a w := by
  subst hls
  have e : (hd0 ++ [o]).toArray = hd0.toArray.push o := by simp
  rw [e] at hend ⊢
  refine wp_region_any hm ?_
  have e2 : Array.replicate (hd0.toArray.push o).size false = (Array.replicate hd0.toArray.size false).push false := by
    rw [Array.size_push, Array.replicate_succ]
  rw [e2, Array.size_push]
  refine wpAny_snoc hL _ _ _ _ (by simp) (fun j oj _ hl => by rw [getD_replicate] at hl; cases hl) ?_
  have hend' : ∀ (val : Nat → Value) (W : World), Below B w W → w.heap.size ≤ W.heap.size → AllQ keep S 0 val W → Exit.then (fun a w => wpOp P (hd0.toArray.push o) Q hd0.toArray.size (Q .normal) a w) Q .normal (putD D 0 val a) W := by
    intro val W h1 h2 h3
    have h := hend val W h1 h2 h3
    unfold wpList at h
    simp only [Exit.then]
    unfold wpOp
    have hi : (hd0.toArray.push o)[hd0.toArray.size]? = some o := by simp
    rw [hi]
    have hw : ∀ y, Region.wanted o y = true := fun y => by simp [Region.wanted, hg]
    simp only [hw, if_true] at h ⊢
    exact h
  exact wpAny_of_L _ _ _ _ (rove_anyG B hBw S hd st keep ea hB wt gv hG hgv hO hK hEa hsl hhd hstep D hDs hlen hend')
/-- the same, the operations written out: 'dsimp only [List.dropLast]' behind it -/
theorem wp_region_roveG_tail {P : Program} {id : Nat} {Q : Exit → Act → World → Prop} {a : Act} {w : World} {o : Oper} {ls : List Oper} (ho : ls.getLast? = some o) (hg : o.guard = none) (hL : lastB .any ls.dropLast.toArray o = true)
    (B : Nat) (hBw : B ≤ w.heap.size) (S : List Sq) (hd st keep ea : List Bool) (wt : List Bool) (gv : List (Option Bool)) (hm : P.follows .mixedOrders = true) (hB : relG ls.dropLast a.tmps.size = true) (hG : guardsB ls.dropLast wt gv hd = true) (hgv : GvOk gv S)
    (hO : orderB ls.dropLast (ancL ls.dropLast) hd st = true) (hK : keepL ls.dropLast.length (ancL ls.dropLast) hd st = keep) (hEa : earlyL ls.dropLast.length (ancL ls.dropLast) st = ea) (hsl : st.length = ls.dropLast.length) (hhd : S.map (·.hard) = hd ∧ usB ls.dropLast S = true ∧ usO ls.dropLast.length S (ancL ls.dropLast) hd st = true)
    (hstep : StepsG P w B ls.dropLast (fun i => S.getD i sqT) a wt (st.zip ea) ls.dropLast S)
    (D : List (Option Tmp)) (hDs : ls.dropLast.map (·.dst) = D) (hlen : S.length = ls.dropLast.length)
    (hend : ∀ (val : Nat → Value) (W : World), Below B w W → w.heap.size ≤ W.heap.size → AllQ keep S 0 val W → wpList P ls.toArray Q [o] (putD D 0 val a) W) :
    (Code.region id ls.toArray true).wp P Q a w := by
  refine wp_region_roveG_last ?_ hg hL B hBw S hd st keep ea wt gv hm hB hG hgv hO hK hEa hsl hhd hstep D hDs hlen hend
  have hne : ls ≠ [] := by intro e; rw [e] at ho; cases ho
  rw [List.getLast?_eq_some_getLast hne] at ho
  have := List.dropLast_concat_getLast hne
  rw [← this]
  cases ho
  simp
/-- the same in a round of a range over a function -/
theorem wpIn_region_roveG {P : Program} {n l : Nat} {id : Nat} {Q : Exit → Act → World → Prop} {a : Act} {w : World} {ls : List Oper} (B : Nat) (hBw : B ≤ w.heap.size) (S : List Sq) (hd st keep ea : List Bool) (wt : List Bool) (gv : List (Option Bool)) (hm : P.follows .mixedOrders = true) (hB : relG ls a.tmps.size = true) (hG : guardsB ls wt gv hd = true) (hgv : GvOk gv S)
    (hO : orderB ls (ancL ls) hd st = true) (hK : keepL ls.length (ancL ls) hd st = keep) (hEa : earlyL ls.length (ancL ls) st = ea) (hsl : st.length = ls.length) (hhd : S.map (·.hard) = hd ∧ usB ls S = true ∧ usO ls.length S (ancL ls) hd st = true)
    (hstep : StepsG P w B ls (fun i => S.getD i sqT) a wt (st.zip ea) ls S)
    (D : List (Option Tmp)) (hDs : ls.map (·.dst) = D) (hlen : S.length = ls.length)
    (hend : ∀ (val : Nat → Value) (W : World), Below B w W → w.heap.size ≤ W.heap.size → AllQ keep S 0 val W → Q .normal (putD D 0 val a) W) :
    (Code.region id ls.toArray true).wpIn (Fence.wide.inRound l) n P Q a w := wpIn_region_any (F := FW (some l)) hm (wpAnyIn_of_L _ _ _ _ (rove_anyG B hBw S hd st keep ea hB wt gv hG hgv hO hK hEa hsl hhd hstep D hDs hlen hend))

theorem wpIn_region_roveG_last {P : Program} {n l : Nat} {id : Nat} {Q : Exit → Act → World → Prop} {a : Act} {w : World} {hd0 : List Oper} {o : Oper} {ls : List Oper} (hls : ls = hd0 ++ [o]) (hg : o.guard = none) (hL : lastB .any hd0.toArray o = true)
    (B : Nat) (hBw : B ≤ w.heap.size) (S : List Sq) (hd st keep ea : List Bool) (wt : List Bool) (gv : List (Option Bool)) (hm : P.follows .mixedOrders = true) (hB : relG hd0 a.tmps.size = true) (hG : guardsB hd0 wt gv hd = true) (hgv : GvOk gv S)
    (hO : orderB hd0 (ancL hd0) hd st = true) (hK : keepL hd0.length (ancL hd0) hd st = keep) (hEa : earlyL hd0.length (ancL hd0) st = ea) (hsl : st.length = hd0.length) (hhd : S.map (·.hard) = hd ∧ usB hd0 S = true ∧ usO hd0.length S (ancL hd0) hd st = true)
    (hstep : StepsG P w B hd0 (fun i => S.getD i sqT) a wt (st.zip ea) hd0 S)
    (D : List (Option Tmp)) (hDs : hd0.map (·.dst) = D) (hlen : S.length = hd0.length)
    (hend : ∀ (val : Nat → Value) (W : World), Below B w W → w.heap.size ≤ W.heap.size → AllQ keep S 0 val W → wpListIn (Fence.wide.inRound l) n P ls.toArray Q [o] (putD D 0 val a) W) :
    (Code.region id ls.toArray true).wpIn (Fence.wide.inRound l) n P Q a w := by
  subst hls
  have e : (hd0 ++ [o]).toArray = hd0.toArray.push o := by simp
  rw [e] at hend ⊢
  refine wpIn_region_any (F := FW (some l)) hm ?_
  have e2 : Array.replicate (hd0.toArray.push o).size false = (Array.replicate hd0.toArray.size false).push false := by
    rw [Array.size_push, Array.replicate_succ]
  rw [e2, Array.size_push]
  refine wpAnyIn_snoc hL _ _ _ _ (by simp) (fun j oj _ hl => by rw [getD_replicate] at hl; cases hl) ?_
  have hend' : ∀ (val : Nat → Value) (W : World), Below B w W → w.heap.size ≤ W.heap.size → AllQ keep S 0 val W → Exit.then (fun a w => wpOpIn (FW (some l)) n P (hd0.toArray.push o) Q hd0.toArray.size (Q .normal) a w) Q .normal (putD D 0 val a) W := by
    intro val W h1 h2 h3
    have h := hend val W h1 h2 h3
    unfold wpListIn at h
    simp only [Exit.then]
    unfold wpOpIn
    have hi : (hd0.toArray.push o)[hd0.toArray.size]? = some o := by simp
    rw [hi]
    have hw : ∀ y, Region.wanted o y = true := fun y => by simp [Region.wanted, hg]
    simp only [hw, if_true] at h ⊢
    exact h
  exact wpAnyIn_of_L _ _ _ _ (rove_anyG B hBw S hd st keep ea hB wt gv hG hgv hO hK hEa hsl hhd hstep D hDs hlen hend')
/-- the same, the operations written out: 'dsimp only [List.dropLast]' behind it -/
theorem wpIn_region_roveG_tail {P : Program} {n l : Nat} {id : Nat} {Q : Exit → Act → World → Prop} {a : Act} {w : World} {o : Oper} {ls : List Oper} (ho : ls.getLast? = some o) (hg : o.guard = none) (hL : lastB .any ls.dropLast.toArray o = true)
    (B : Nat) (hBw : B ≤ w.heap.size) (S : List Sq) (hd st keep ea : List Bool) (wt : List Bool) (gv : List (Option Bool)) (hm : P.follows .mixedOrders = true) (hB : relG ls.dropLast a.tmps.size = true) (hG : guardsB ls.dropLast wt gv hd = true) (hgv : GvOk gv S)
    (hO : orderB ls.dropLast (ancL ls.dropLast) hd st = true) (hK : keepL ls.dropLast.length (ancL ls.dropLast) hd st = keep) (hEa : earlyL ls.dropLast.length (ancL ls.dropLast) st = ea) (hsl : st.length = ls.dropLast.length) (hhd : S.map (·.hard) = hd ∧ usB ls.dropLast S = true ∧ usO ls.dropLast.length S (ancL ls.dropLast) hd st = true)
    (hstep : StepsG P w B ls.dropLast (fun i => S.getD i sqT) a wt (st.zip ea) ls.dropLast S)
    (D : List (Option Tmp)) (hDs : ls.dropLast.map (·.dst) = D) (hlen : S.length = ls.dropLast.length)
    (hend : ∀ (val : Nat → Value) (W : World), Below B w W → w.heap.size ≤ W.heap.size → AllQ keep S 0 val W → wpListIn (Fence.wide.inRound l) n P ls.toArray Q [o] (putD D 0 val a) W) :
    (Code.region id ls.toArray true).wpIn (Fence.wide.inRound l) n P Q a w := by
  refine wpIn_region_roveG_last ?_ hg hL B hBw S hd st keep ea wt gv hm hB hG hgv hO hK hEa hsl hhd hstep D hDs hlen hend
  have hne : ls ≠ [] := by intro e; rw [e] at ho; cases ho
  rw [List.getLast?_eq_some_getLast hne] at ho
  have := List.dropLast_concat_getLast hne
  rw [← this]
  cases ho
  simp
end Go.Proofs.Ytndgaklcnhoddaa
