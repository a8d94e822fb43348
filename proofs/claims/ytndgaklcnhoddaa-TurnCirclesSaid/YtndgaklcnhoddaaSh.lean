/-
  Plain: the search of Shortest, as the reference keeps it: how far states are, and whether the way back to the start was found.
  The walk of the reference's Shortest.
-/
import Derived.Test.YtndgaklcnhoddaaWd
import Derived.Test.YtndgaklcnhoddaaRefN
namespace Go.Proofs.Ytndgaklcnhoddaa
def FarI (ks : List Int) (st : Int) (N c : Nat) (q seen : List Int) (i : Nat) (d : Int → Nat) : Prop :=
  (∀ x ∈ q, 0 ≤ x ∧ x < prodK ks) ∧ i ≤ q.length ∧ q.length ≤ N + 1 + c ∧ (∀ x, d x ≤ N + 1 + c) ∧
  ((d st = 0 ∧ Bfs (nxN ks) st q i seen d ∧ q.length ≤ N ∧ ∀ x, d x + 1 ≤ q.length) ∨ (1 ≤ d st ∧ d st ≤ N ∧ Wlk (nxN ks) (d st) st st ∧ ∀ m, 1 ≤ m → Wlk (nxN ks) m st st → d st ≤ m))
section
variable {ks : List Int} {st : Int} {N c : Nat} {q seen : List Int} {i : Nat} {d : Int → Nat}
theorem FarI.start (h0 : 0 ≤ st) (h1 : st < prodK ks) (hN : 1 ≤ N) : FarI ks st N 0 [st] [] 0 (fun _ => 0) :=
  ⟨fun x hx => by simp at hx; subst hx; exact ⟨h0, h1⟩, by simp, by simp, fun _ => by simp, .inl ⟨rfl, Bfs.start _ _, by simpa using hN, fun x => by simp⟩⟩
theorem FarI.more (h : FarI ks st N c q seen i d) {c' : Nat} (hc : c ≤ c') : FarI ks st N c' q seen i d := by
  obtain ⟨h1, h2, h3, h4, h5⟩ := h
  exact ⟨h1, h2, by omega, fun x => by have := h4 x; omega, h5⟩
theorem FarI.base (h : FarI ks st N c q seen i d) (h0 : d st = 0) : FarI ks st N 0 q seen i d := by
  obtain ⟨h1, h2, h3, h4, h5⟩ := h
  rcases h5 with ⟨a, b, e, f⟩ | ⟨a, _⟩
  · exact ⟨h1, h2, by omega, fun x => by have := f x; omega, .inl ⟨a, b, e, f⟩⟩
  · omega
theorem FarI.skip (h : FarI ks st N c q seen i d) (hi : i < q.length) {y : Int} (hy : d y ≠ 0) : FarI ks st N c q (seen ++ [y]) i d := by
  obtain ⟨h1, h2, h3, h4, h5⟩ := h
  refine ⟨h1, h2, h3, h4, ?_⟩
  rcases h5 with ⟨a, b, e, f⟩ | h5
  · exact .inl ⟨a, b.skip hi (by omega), e, f⟩
  · exact .inr h5
theorem farQ_at (h : Bfs (nxN ks) st q i seen d) (h0 : d st = 0) : farQ st d q i = d (q.getD i st) := by
  unfold farQ
  by_cases e : i = 0
  · rw [if_pos e, e]
    have hh := h.head
    rw [List.getD_eq_getElem?_getD, ← List.head?_eq_getElem?, hh]
    exact h0.symm
  · rw [if_neg e]
theorem FarI.add (h : FarI ks st N c q seen i d) (v : TVal ks) (hN : N = nSt ks) (hi : i < q.length) {y : Int} (hy : d y = 0) (hn : y ∈ nxN ks (q.getD i st)) :
    FarI ks st N (c + 1) (q ++ [y]) (seen ++ [y]) i (setD d y (d (q.getD i st) + 1)) := by
  obtain ⟨h1, h2, h3, h4, h5⟩ := h
  have hyb := nxN_bd v hn
  have hq : ∀ x ∈ q ++ [y], 0 ≤ x ∧ x < prodK ks := fun x hx => by
    rcases List.mem_append.1 hx with hx | hx
    · exact h1 x hx
    · simp at hx; subst hx; exact hyb
  have hd : ∀ x, setD d y (d (q.getD i st) + 1) x ≤ N + 1 + (c + 1) := fun x => by
    unfold setD
    split
    · have := h4 (q.getD i st); omega
    · have := h4 x; omega
  refine ⟨hq, by simp; omega, by simp; omega, hd, ?_⟩
  rcases h5 with ⟨a, b, e, f⟩ | ⟨a, b, e, f⟩
  · have hf := farQ_at b a
    by_cases hst : y = st
    · subst hst
      obtain ⟨w1, w2⟩ := b.found hi hn
      rw [hf] at w1 w2
      right
      rw [setD_at]
      exact ⟨by omega, by have := f (q.getD i y); omega, w1, w2⟩
    · left
      have hb := b.add hi hy hst hn
      rw [hf] at hb
      have hlen : (q ++ [y]).length ≤ N := by
        have g1 : ((q ++ [y]).map Int.toNat).Nodup := nodup_map _ hb.nodup fun x hx z hz e => by
          have := hq x hx
          have := hq z hz
          omega
        have g2 := nodup_le (nSt ks) _ g1 fun x hx => by
          obtain ⟨z, hz, rfl⟩ := List.mem_map.1 hx
          have := hq z hz
          have := nSt_eq v
          omega
        rw [hN]; simpa using g2
      refine ⟨by rw [setD_off _ _ (fun e => hst e.symm)]; exact a, hb, hlen, fun x => ?_⟩
      unfold setD
      split
      · have := f (q.getD i st); rw [List.length_append, List.length_singleton]; omega
      · have := f x; rw [List.length_append, List.length_singleton]; omega
  · right
    have hst : st ≠ y := fun e => by rw [← e] at hy; omega
    rw [setD_off _ _ hst]
    exact ⟨a, b, e, f⟩
theorem FarI.next (h : FarI ks st N c q seen i d) (hi : i < q.length) (hs : ∀ y ∈ nxN ks (q.getD i st), y ∈ seen) : FarI ks st N c q [] (i + 1) d := by
  obtain ⟨h1, h2, h3, h4, h5⟩ := h
  refine ⟨h1, hi, h3, h4, ?_⟩
  rcases h5 with ⟨a, b, e, f⟩ | h5
  · exact .inl ⟨a, b.next hi hs, e, f⟩
  · exact .inr h5
theorem FarI.none (h : FarI ks st N c q seen i d) (hi : i = q.length) (h0 : d st = 0) : ∀ m, 1 ≤ m → ¬ Wlk (nxN ks) m st st := by
  obtain ⟨h1, h2, h3, h4, h5⟩ := h
  rcases h5 with ⟨a, b, e, f⟩ | ⟨a, _⟩
  · subst hi
    exact b.none
  · omega
end
/-- the fewest turns so far -/
def ShI (ks : List Int) (N s b : Nat) : Prop :=
  (b = N + 1 ∧ ∀ (j : Int) (k : Nat), 0 ≤ j → j < s → 1 ≤ k → ¬ Wlk (nxN ks) k j j) ∨
  (1 ≤ b ∧ b ≤ N ∧ (∃ j : Int, 0 ≤ j ∧ j < prodK ks ∧ Wlk (nxN ks) b j j) ∧ ∀ (j : Int) (k : Nat), 0 ≤ j → j < s → 1 ≤ k → Wlk (nxN ks) k j j → b ≤ k)
theorem ShI.start (ks : List Int) (N : Nat) : ShI ks N 0 (N + 1) := .inl ⟨rfl, fun j k h0 h1 => by omega⟩
theorem ShI.none {ks : List Int} {N s b : Nat} (h : ShI ks N s b) (hn : ∀ m, 1 ≤ m → ¬ Wlk (nxN ks) m (s : Int) s) : ShI ks N (s + 1) b := by
  rcases h with ⟨h1, h2⟩ | ⟨h1, h2, h3, h4⟩
  · refine .inl ⟨h1, fun j k a c e => ?_⟩
    by_cases ej : j < s
    · exact h2 j k a ej e
    · obtain rfl : j = s := by omega
      exact hn k e
  · refine .inr ⟨h1, h2, h3, fun j k a c e hw => ?_⟩
    by_cases ej : j < s
    · exact h4 j k a ej e hw
    · obtain rfl : j = s := by omega
      exact absurd hw (hn k e)
theorem ShI.found {ks : List Int} {N s b m : Nat} (h : ShI ks N s b) (hs : (s : Int) < prodK ks) (h1 : 1 ≤ m) (hN : m ≤ N) (hw : Wlk (nxN ks) m (s : Int) s) (hm : ∀ k, 1 ≤ k → Wlk (nxN ks) k (s : Int) s → m ≤ k) : ShI ks N (s + 1) (min b m) := by
  rcases h with ⟨q1, q2⟩ | ⟨q1, q2, q3, q4⟩
  · rw [Nat.min_eq_right (by omega)]
    refine .inr ⟨h1, hN, ⟨s, by omega, hs, hw⟩, fun j k a c e w => ?_⟩
    by_cases ej : j < s
    · exact absurd w (q2 j k a ej e)
    · obtain rfl : j = s := by omega
      exact hm k e w
  · rcases Nat.le_total b m with h | h
    · rw [Nat.min_eq_left h]
      refine .inr ⟨q1, q2, q3, fun j k a c e w => ?_⟩
      by_cases ej : j < s
      · exact q4 j k a ej e w
      · obtain rfl : j = s := by omega
        have := hm k e w; omega
    · rw [Nat.min_eq_right h]
      refine .inr ⟨h1, hN, ⟨s, by omega, hs, hw⟩, fun j k a c e w => ?_⟩
      by_cases ej : j < s
      · have := q4 j k a ej e w; omega
      · obtain rfl : j = s := by omega
        exact hm k e w
theorem ShI.bd {ks : List Int} {N s b : Nat} (h : ShI ks N s b) : 1 ≤ b ∧ b ≤ N + 1 := by
  rcases h with ⟨q1, _⟩ | ⟨q1, q2, _⟩ <;> omega
theorem ShI.fin {ks : List Int} {b : Nat} (v : TVal ks) (h : ShI ks (nSt ks) (nSt ks) b) (hs : SafeP (nxS ks) (zeroS ks)) : IsShort ks b := by
  have hNe := nSt_eq v
  rcases h with ⟨q1, q2⟩ | ⟨q1, q2, ⟨j, j0, j1, jw⟩, q4⟩
  · obtain ⟨t, m, ht, hm, hw⟩ := (zero_safe v).1 hs
    have hb := numS_bd v.nn ht
    exact absurd (wlk_st2 v ht hw) (q2 _ m hb.1 (by omega) hm)
  · exact short_num v q1 j0 j1 jw fun j' k a c e w => q4 j' k a (by omega) e w
end Go.Proofs.Ytndgaklcnhoddaa
namespace Go.Proofs.Ytndgaklcnhoddaa
open Go.RowKit Go.Shelf
theorem Que.at_ {W : World} {B : Nat} {v : Value} {q : List Int} (h : Que W B v q) (hne : 0 < q.length) : ∃ g off cap, v = .slice (some ⟨g, off, none⟩) q.length cap ∧ B ≤ g ∧ g < W.heap.size ∧ ∀ j, (hj : j < q.length) → W.cell? ⟨g, off + j, none⟩ = some (.int .i64 q[j]) := by
  obtain ⟨g, off, cap, cur, rfl, h1, h2, hB, hc, h3⟩ := h
  rcases h3 with h3 | ⟨h3, h4⟩
  · omega
  · exact ⟨g, off, cap, rfl, hB, (Array.getElem?_eq_some_iff.1 hc).1, fun j hj => by rw [cell_of_row _ _ _ _ _ _ hc]; exact h4 j hj⟩
theorem que_appA {w : World} {B : Nat} {v : Value} {q : List Int} (h : Que w B v q) (hB : B ≤ w.heap.size) (ty : TypeId) (x : Int) (b c : Nat) (hx : w.cell? ⟨b, 0, none⟩ = some (.int .i64 x)) (hn : q.length + 1 ≤ 1000000) :
    ∃ v' w', (Builtin.append_ #[22, 22] ty #[v, .slice (some ⟨b, 0, none⟩) 1 c]).run Try.prog w = .ok v' w' ∧ Que w' B v' (q ++ [x]) ∧ Kept (fun k => some k ≠ v.ownBlock) w w' ∧ (∀ g, v'.ownBlock = some g → v.ownBlock = some g ∨ w.heap.size ≤ g) := by
  obtain ⟨i, z, hi, hz, hsi, hby, hzs⟩ := elInt.info
  obtain ⟨g, off, cap, cur, rfl, h1, h2, hBg, hc, h3⟩ := h
  have hnews : ∀ j u, [Value.int .i64 x][j]? = some u → w.cell? ((⟨b, 0, none⟩ : Addr).add j) = some u := fun j u hj => by
    rw [addr_add]
    match j with
    | 0 => simp at hj; subst hj; simpa using hx
    | j + 1 => simp at hj
  by_cases hroom : q.length + 1 ≤ cap
  · rcases h3 with h3 | ⟨hsz, hq⟩
    · omega
    have hlt : off + q.length < cur.size := by omega
    have hcell : (w.cell? ⟨g, off + q.length, none⟩).isSome = true := by rw [cell_of_row _ _ _ _ _ _ hc]; simp [hlt]
    have hr := run_append_room_cells (P := Try.prog) w 22 ty 3 i elInt.und hi g off q.length cap ⟨b, 0, none⟩ 1 c [.int .i64 x] (by simp [hsi]) hnews (by simp [Value.oneCell']) hroom
      (fun j hj => by have : j = 0 := by simpa using hj
                      subst this; rw [hsi, Nat.mul_one, Nat.add_zero]; exact hcell) (fun j hj => by simp [World.frozen?, hc])
    rw [hsi, Nat.mul_one] at hr
    refine ⟨_, _, hr, ⟨g, off, cap, _, by simp, by simpa using hroom, h2, hBg, heap_setCell_row hc (off + q.length) (.int .i64 x), .inr ⟨by simpa using hsz, fun j hj => ?_⟩⟩, (Kept.refl _ w).setCell (fun _ h => h rfl) _, fun _ h => .inl h⟩
    by_cases e : j = q.length
    · subst e
      rw [set_on _ hlt]
      simp
    · rw [Array.getElem?_setIfInBounds, if_neg (by omega)]
      have hj2 : j < q.length := by simp at hj; omega
      rw [hq j hj2]
      simp [List.getElem_append_left hj2]
  · obtain ⟨v', w', hrun, ho, hg2⟩ := run_append_arg_grows (P := Try.prog) w 22 ty 3 i z 1 i.bytes elInt.und hi hz hsi rfl hzs (by omega) ⟨g, off, none⟩ q.length cap (q.map (Value.int .i64)) (by simp)
      (fun j u hj => by
        rcases h3 with h3 | ⟨hsz, hq⟩
        · have : q = [] := List.eq_nil_of_length_eq_zero (by omega)
          subst this; simp at hj
        · rw [addr_add, cell_of_row _ _ _ _ _ _ hc]
          rw [List.getElem?_map] at hj
          obtain ⟨y, hy, rfl⟩ := Option.map_eq_some_iff.1 hj
          obtain ⟨hjl, rfl⟩ := List.getElem?_eq_some_iff.1 hy
          exact hq j hjl) ⟨b, 0, none⟩ 1 c [.int .i64 x] (by simp) hnews (by omega) (by simp [maxLen]; omega) (by have := Nat.mul_le_mul hn hby; omega)
    have ho' : Owns w' w.heap.size 3 1 v' ((q ++ [x]).map iRow) := by
      refine ⟨?_, fun r hr => by obtain ⟨y, _, rfl⟩ := List.mem_map.1 hr; rfl⟩
      have e : ((q ++ [x]).map iRow).flatten = q.map (Value.int .i64) ++ [.int .i64 x] := by
        have : ∀ l : List Int, (l.map iRow).flatten = l.map (Value.int .i64) := fun l => by
          induction l with
          | nil => rfl
          | cons y l ih => simp [iRow, ih]
        rw [this]; simp
      rw [e]
      simpa using ho
    obtain ⟨g', off', cap', cur', e1, e2, e3, e4, e5, e6⟩ := ho'.que (by simp)
    exact ⟨v', w', hrun, ⟨g', off', cap', cur', e1, e2, e3, by omega, e5, e6⟩, (Kept.refl _ w).grown hg2 (fun k hk => by cases hk), fun k hk => .inr (by rw [e1] at hk; simp only [Value.ownBlock, Option.some.injEq] at hk; omega)⟩
theorem wpQueA {w : World} {ops : Array Oper} {rest : List Oper} {o : Oper} {a : Act} {Q : Exit → Act → World → Prop} (hgd : o.guard = none) (s x : Operand)
    (ho : o.op = .call { callee := .builtin .append, args := #[s, x], argTypes := #[22, 22] }) (B : Nat) {v : Value} {q : List Int} (hs : a.eval s = v) (h : Que w B v q) (y : Int) (b c : Nat) (hx : a.eval x = .slice (some ⟨b, 0, none⟩) 1 c) (hc : w.cell? ⟨b, 0, none⟩ = some (.int .i64 y))
    (hn : q.length + 1 ≤ 1000000) (hB : B ≤ w.heap.size)
    (hk : ∀ v' w', Que w' B v' (q ++ [y]) → Kept (fun k => some k ≠ v.ownBlock) w w' → (∀ g, v'.ownBlock = some g → v.ownBlock = some g ∨ w.heap.size ≤ g) → wpList Try.prog ops Q rest (a.put o.dst v') w') : wpList Try.prog ops Q (o :: rest) a w :=
  wpList_plain hgd fun K hK => by
    obtain ⟨v', w', hrun, h2, h3, h4⟩ := que_appA h hB o.type y b c hc hn
    unfold Oper.wp execOp
    simp only [ho, resolve, invoke, builtin, Sem.run_bind, Sem.run_pure, Result.andThen_ok, List.map_toArray, List.map_cons, List.map_nil, hs, hx, hrun]
    exact hK _ _ (hk v' w' h2 h3 h4)
def ShRel (ks : List Int) (N : Nat) (W1 : World) (bv sv : Value) (W : World) : Prop := ∃ s bb : Nat, s ≤ N ∧ sv = .int .i64 s ∧ bv = .int .i64 bb ∧ ShI ks N s bb ∧ Ext W1 W
def FarRel (ks : List Int) (N s : Nat) (X : World) (qv iv : Value) (W : World) : Prop := ∃ (i : Nat) (q : List Int) (d : Int → Nat), iv = .int .i64 i ∧ FarI ks s N 5 q [] i d ∧ Que W (X.heap.size + 1) qv q ∧ NumB W X.heap.size N (fun j => ((d (j : Int) : Nat) : Int)) ∧ Ext X W
def InnRel (ks XL : List Int) (xv : Value) (xb N s i I : Nat) (X : World) (qv iv : Value) (W : World) : Prop := ∃ (j : Nat) (q : List Int) (d : Int → Nat), IsInts W .i64 xv XL ∧ xb < W.heap.size ∧ qv.ownBlock ≠ some xb ∧ j ≤ ks.length ∧ iv = .int .i64 j ∧ FarI ks s N j q ((nxN ks (I : Int)).take j) i d ∧ i < q.length ∧ q.getD i (s : Int) = (I : Int) ∧ Que W (X.heap.size + 1) qv q ∧ NumB W X.heap.size N (fun j => ((d (j : Int) : Nat) : Int)) ∧ Ext X W
set_option maxRecDepth 100000 in
set_option maxHeartbeats 8000000 in
theorem shortestR_any (ks : List Int) (kv : Value) (w : World) (hv : IsInts w .i64 kv ks) (v : TVal ks) (hsafe : SafeP (nxS ks) (zeroS ks)) :
    Calls Try.prog 33 #[.agg #[kv]] w fun e W => ∃ b : Nat, e = .returned (.int .i64 b) ∧ Ext w W ∧ IsShort ks b := by
  obtain ⟨sa, cap, rfl, h1, h2, -⟩ := hv.spec
  have hN := nSt_le v
  have hNe := nSt_eq v
  have HV := Lib.hid hv
  have V := Lib.hid v
  have HSAFE := Lib.hid hsafe
  have n1 := v.n1
  have n5 := v.n5
  have cs := fun W h => statesR_any ks (.slice sa ks.length cap) W h v
  rw [← hNe] at cs
  obtain ⟨N, hNN⟩ : ∃ N, N = nSt ks := ⟨_, rfl⟩
  rw [← hNN] at hN hNe cs
  have HNE := Lib.hid hNe
  have HNN := Lib.hid hNN
  have CS := Lib.hid cs
  clear hv v hsafe hNe hNN cs
  go_enter Try.func33, Try.ntmps33
  go_upto_region 1 with (fail)
  obtain ⟨W0, hW0⟩ : ∃ W0, W0 = w.alloc (.cells #[.slice sa ks.length cap] 24) := ⟨_, rfl⟩
  have hE : Ext w W0 := by rw [hW0]; exact (by repeat (first | exact Below.refl _ _ | refine Ext.al ?_ _ | refine Ext.dr ?_ | refine Ext.drN ?_ _ | refine Ext.gr ?_ _ | refine Ext.set ?_ (by simp) _ | (refine Ext.trans' ?_ (by assumption))))
  have k0 : W0.cell? ⟨w.heap.size, 0, none⟩ = some (.slice sa ks.length cap) := by rw [hW0]; simp [go_sem]
  have hz : w.heap.size < W0.heap.size := World.block_lt_of_cell? _ _ k0
  have HS := Lib.hid (HV.out.ext hE)
  have HW := Lib.hid hE
  rw [← hW0]
  clear hW0 HV
  clear hE
  go_wp2_with fail
  refine (CS.out _ (HS.out.ext (by exact (by repeat (first | exact Below.refl _ _ | refine Ext.al ?_ _ | refine Ext.dr ?_ | refine Ext.drN ?_ _ | refine Ext.gr ?_ _ | refine Ext.set ?_ (by simp) _ | (refine Ext.trans' ?_ (by assumption))))))).mono ?_
  rintro e W1 ⟨rfl, hE1⟩
  have hE1' : Ext W0 W1 := hE1
  replace k0 := cell_ext hE1' k0
  replace hz := World.block_lt_of_cell? _ _ k0
  replace HS := Lib.hid (HS.out.ext hE1')
  replace HW := Lib.hid (HW.out.trans' hE1')
  simp only at hz
  clear hE1 hE1' CS
  go_wp2_with fail
  go_loopw [4, 5] (fun bv sv W => ShRel ks N W1 bv sv W) (fun _ sv _ => N - (intOf sv).toNat)
  case atStart => exact ⟨0, N + 1, by omega, rfl, by go_num, ShI.start ks N, Below.refl _ _⟩
  case round =>
    obtain ⟨s, bb, hs, rfl, rfl, hsh, hE⟩ := hrel
    have HSH := Lib.hid hsh
    have HE := Lib.hid hE
    have hbd := hsh.bd
    have k1 := cell_ext hE k0
    have hz1 := World.block_lt_of_cell? _ _ k1
    simp only at hz1
    have HS1 := Lib.hid (HS.out.ext hE)
    clear hsh hE
    by_cases hlt : s < N
    · have hsi : (s : Int) < (N : Int) := by omega
      obtain ⟨X, hX⟩ : ∃ X, X = wr := ⟨_, rfl⟩
      subst hX
      obtain ⟨W2, hmk, hnum, hE2⟩ := make_ints X N (by omega)
      have hzn := hnum.lt
      have HNUM := Lib.hid hnum
      have HE2 := Lib.hid hE2
      clear hnum hE2
      go_wp2_with fail
      obtain ⟨W3, hW3⟩ : ∃ W3, W2.alloc (.cells #[.int .i64 s] 3) = W3 := ⟨_, rfl⟩
      have hE3 : Ext X W3 := by
        rw [← hW3]
        exact Ext.al HE2.out _
      have hnum3 : NumB W3 X.heap.size N (fun j => (((fun _ : Int => 0) (j : Int) : Nat) : Int)) := by
        rw [← hW3]
        exact HNUM.out.of_heap (Below.heap_alloc _ _ _ hzn)
      have hq3 : Que W3 (X.heap.size + 1) (.slice (some ⟨W2.heap.size, 0, none⟩) 1 1) [(s : Int)] := by
        refine ⟨W2.heap.size, 0, 1, #[.int .i64 s], rfl, by simp, by omega, by omega, ?_, .inr ⟨rfl, fun j hj => ?_⟩⟩
        · rw [← hW3]
          exact World.alloc_heap_new W2 (.cells #[.int .i64 s] 3)
        · have : j = 0 := by simpa using hj
          subst this; rfl
      have hc3 : FarI ks s N 5 [(s : Int)] [] 0 (fun _ => 0) := (FarI.start (by omega) (by have := HNE.out; omega) (by omega)).more (by omega)
      rw [hW3]
      have HE3 := Lib.hid hE3
      have HNUM3 := Lib.hid hnum3
      have HQ3 := Lib.hid hq3
      have HC3 := Lib.hid hc3
      clear hW3 hE3 hnum3 hq3 hc3 HNUM hmk hzn
      go_loopw [7, 8] (fun qv iv W => FarRel ks N s X qv iv W) (fun _ iv _ => N + 10 - (intOf iv).toNat)
      case atStart => exact ⟨0, _, _, rfl, HC3.out, HQ3.out, HNUM3.out, HE3.out⟩
      case round =>
        clear HE3 HNUM3 HQ3 HC3 HE2
        obtain ⟨i, q, d, rfl, hfi, hq, hnum, hEX⟩ := hrel
        have HFI := Lib.hid hfi
        have HNUMr := Lib.hid hnum
        have HEX := Lib.hid hEX
        have HQr := Lib.hid hq
        have hil := hfi.2.1
        have hql := hfi.2.2.1
        have hdb := hfi.2.2.2.1 s
        have hgz := hnum.lt
        have c0 := hnum.cell s hlt
        have f0 := hnum.free s
        obtain ⟨ds, hds⟩ : ∃ ds, ds = d (s : Int) := ⟨_, rfl⟩
        rw [← hds] at c0 hdb
        have HDS := Lib.hid hds
        have k2 := cell_ext hEX k1
        have hz2 := World.block_lt_of_cell? _ _ k2
        simp only at hz2
        obtain ⟨qa, qn, qc, hqv⟩ := hq.form
        have HEND := Lib.hid (HE.out.trans' hEX)
        have HS2 := Lib.hid (HS1.out.ext hEX)
        have HSHN : Hid (ds = 0 → ShI ks N (s + 1) bb) ∨ i < q.length := by
          by_cases e : i < q.length
          · exact .inr e
          · exact .inl (Lib.hid fun h0 => HSH.out.none (hfi.none (by omega) (by rw [← hds]; exact h0)))
        have HSHF : Hid (ds ≠ 0 → ShI ks N (s + 1) (min bb ds)) := Lib.hid fun h0 => by
          rcases hfi.2.2.2.2 with ⟨a, _⟩ | ⟨a, b, c, e⟩
          · rw [← hds] at a; exact absurd a h0
          · rw [← hds] at a b c e
            exact HSH.out.found (by have := HNE.out; omega) a b c e
        clear hfi hnum hEX hds
        by_cases hiq : i < q.length
        · obtain ⟨qg, qo, qcp, hqe, hqB, hqz, hqcell⟩ := hq.at_ (by omega)
          rw [hqe] at HQr ⊢
          have hii : (i : Int) < (q.length : Int) := by omega
          have hqx : q.getD i (s : Int) = q[i] := by rw [List.getD_eq_getElem?_getD, List.getElem?_eq_getElem hiq]; rfl
          have hqb := HFI.out.1 q[i] (List.getElem_mem hiq)
          have e0 := hqcell i hiq
          rw [← hqx] at hqb e0
          obtain ⟨I, hI⟩ : ∃ I : Nat, q.getD i (s : Int) = (I : Int) := ⟨(q.getD i (s : Int)).toNat, by omega⟩
          rw [hI] at hqb e0
          have hIN : I < N := by have := HNE.out; omega
          have hIn : I < nSt ks := by rw [← HNN.out]; exact hIN
          have HI := Lib.hid hI
          have hne : ¬ qg = X.heap.size := by omega
          clear hq hqe hqv hqcell hqx hI HSHN
          by_cases hdz : ds = 0
          rotate_left
          · -- the way back was found
            have hdq : ((ds : Int) == 0) = false := by rw [beq_eq_false_iff_ne]; omega
            have hdq2 : (ds == 0) = false := by rw [beq_eq_false_iff_ne]; exact hdz
            have HSHN : Hid (ds = 0 → ShI ks N (s + 1) bb) := Lib.hid fun h => absurd h hdz
            go_wp2_with fail
            have HSH2 := Lib.hid (HSHF.out hdz)
            obtain ⟨e, rfl⟩ : ∃ e, ds = e + 1 := ⟨ds - 1, by omega⟩
            have hmn : ((min bb (e + 1) : Nat) : Int) = min (bb : Int) ((e : Int) + 1) := by omega
            clear hdz
            go_wp2_with fail
            go_roundw
            case rel => exact ⟨s + 1, min bb (e + 1), by omega, by go_num, by rw [hmn]; simp; split <;> omega, HSH2.out, HEND.out⟩
            case measure => simp [intOf]; omega
          · have HF0 := Lib.hid (HFI.out.base (by rw [← HDS.out]; exact hdz))
            subst hdz
            have HSI := Lib.hid (st_st V.out.nn (n := (I : Int)))
            clear HSHF
            go_upto_region 11 with (fail)
            obtain ⟨Y, hY⟩ : ∃ Y, Y = wr := ⟨_, rfl⟩
            subst hY
            obtain ⟨ok, hok⟩ : ∃ ok, ok = !fullP allW ks (stOf ks (I : Int)) := ⟨_, rfl⟩
            obtain ⟨XL, hXL⟩ : ∃ XL, XL = (if fullP allW ks (stOf ks (I : Int)) then [] else upP allW (stOf ks (I : Int))) := ⟨_, rfl⟩
            have HOKX := Lib.hid hok
            have HXLX := Lib.hid hXL
            clear hok hXL
            refine wp_region_rove (Y.heap.size) (Nat.le_refl _)
              [sqV (.agg #[.slice sa ks.length cap]),
               sqV (.agg #[.slice sa ks.length cap]),
               sqV (.slice (some ⟨qg, qo, none⟩) q.length qcp),
               sqV (.int .i64 i),
               sqV (.pointer (some ⟨qg, qo + i, none⟩)),
               sqV (.int .i64 I),
               sqW (fun v W => IsInts W .i64 v (stOf ks (I : Int))) (fun _ _ _ h e => IsInts.ext e h),
               sqV (.agg #[.slice sa ks.length cap]),
               sqW (fun v W => IsInts W .i64 v (upL ks.length)) (fun _ _ _ h e => IsInts.ext e h),
               sqW (fun v W => ∃ r, v = .tuple #[r, .bool ok] ∧ IsFr Y W r XL) (fun _ _ _ ⟨r, h1, h2⟩ e => ⟨r, h1, IsFr.ext e h2⟩),
               sqW (fun v W => ∃ r, v = .tuple #[r, .bool ok] ∧ IsFr Y W r XL) (fun _ _ _ ⟨r, h1, h2⟩ e => ⟨r, h1, IsFr.ext e h2⟩),
               sqW (fun v W => IsFr Y W v XL) (fun _ _ _ h e => IsFr.ext e h),
               sqV (.bool ok),
               sqW (fun v W => IsFr Y W v XL) (fun _ _ _ h e => IsFr.ext e h),
               sqV (.bool ok)]
              [true, true, true, true, true, true, false, true, false, false, false, false, true, false, true] [false, false, false, false, false, false, false, false, false, false, false, false, false, false, false] [true, true, true, true, true, true, true, true, true, true, true, true, true, true, true] [true, true, true, true, true, true, true, true, true, true, true, true, true, true, true]
              (by kernel_rfl) (by kernel_rfl) (by decide +kernel) (by decide +kernel) (by decide +kernel) rfl ⟨rfl, rfl⟩ ⟨?s0, ?s1, ?s2, ?s3, ?s4, ?s5, ?s6, ?s7, ?s8, ?s9, ?s10, ?s11, ?s12, ?s13, ?s14, trivial⟩ [some 40, some 41, some 42, some 43, some 44, some 45, some 46, some 47, some 48, some 49, some 39, some 50, some 51, some 9, some 10] rfl rfl ?send
            case s0 =>
              intro val ρ W hE hz hd hA hx
              have o0 : ρ (.tmp 1) = .pointer (some ⟨w.heap.size, 0, none⟩) := hA.old 1 (by decide)
              have f_k2 := cell_below hE (by simp only; omega) k2
              clear hd
              exact runq_val (W' := W) (by simp [execOp, o0, f_k2, go_sem]) (Below.refl _ _) rfl
            case s1 =>
              intro val ρ W hE hz hd hA hx
              have o0 : ρ (.tmp 1) = .pointer (some ⟨w.heap.size, 0, none⟩) := hA.old 1 (by decide)
              have f_k2 := cell_below hE (by simp only; omega) k2
              clear hd
              exact runq_val (W' := W) (by simp [execOp, o0, f_k2, go_sem]) (Below.refl _ _) rfl
            case s2 =>
              intro val ρ W hE hz hd hA hx
              have o0 : ρ (.tmp 7) = .slice (some ⟨qg, qo, none⟩) q.length qcp := hA.old 7 (by decide)
              clear hd
              exact runq_val (W' := W) (by simp [execOp, o0, go_sem]) (Below.refl _ _) rfl
            case s3 =>
              intro val ρ W hE hz hd hA hx
              have o0 : ρ (.tmp 8) = .int .i64 i := hA.old 8 (by decide)
              clear hd
              exact runq_val (W' := W) (by simp [execOp, o0, go_sem]) (Below.refl _ _) rfl
            case s4 =>
              intro val ρ W hE hz hd hA hx
              have d2 : ρ (.tmp 42) = .slice (some ⟨qg, qo, none⟩) q.length qcp := (hA.dep 2 (by decide) 42 rfl).trans (hd 2 (by decide))
              have d3 : ρ (.tmp 43) = .int .i64 i := (hA.dep 3 (by decide) 43 rfl).trans (hd 3 (by decide))
              clear hd
              exact runq_val (W' := W) (by simp [execOp, d2, d3, hii, go_sem]) (Below.refl _ _) rfl
            case s5 =>
              intro val ρ W hE hz hd hA hx
              have d4 : ρ (.tmp 44) = .pointer (some ⟨qg, qo + i, none⟩) := (hA.dep 4 (by decide) 44 rfl).trans (hd 4 (by decide))
              have f_e0 := cell_below hE (by simp only; omega) e0
              clear hd
              exact runq_val (W' := W) (by simp [execOp, d4, f_e0, go_sem]) (Below.refl _ _) rfl
            case s7 =>
              intro val ρ W hE hz hd hA hx
              have o0 : ρ (.tmp 1) = .pointer (some ⟨w.heap.size, 0, none⟩) := hA.old 1 (by decide)
              have f_k2 := cell_below hE (by simp only; omega) k2
              clear hd
              exact runq_val (W' := W) (by simp [execOp, o0, f_k2, go_sem]) (Below.refl _ _) rfl
            case s14 =>
              intro val ρ W hE hz hd hA hx
              have d12 : ρ (.tmp 51) = .bool ok := (hA.dep 12 (by decide) 51 rfl).trans (hd 12 (by decide))
              clear hd
              exact runq_val (W' := W) (by simp [execOp, d12, go_sem]) (Below.refl _ _) rfl
            case s8 =>
              intro val ρ W hE hz hd hA hx
              have d7 : ρ (.tmp 47) = .agg #[.slice sa ks.length cap] := (hA.dep 7 (by decide) 47 rfl).trans (hd 7 (by decide))
              clear hd
              refine runq_call 56 _ _ rfl #[.agg #[.slice sa ks.length cap]] (hA.func _) (by simp [d7]) (fun args W => Try.call56 args W) ((allR_any ks _ W (HS2.out.ext hE) (by have := (V).out.n5; omega)).mono ?_)
              rintro e w' ⟨v, rfl, hb, hi⟩
              exact ⟨_, rfl, hb, hi⟩
            case s9 =>
              intro val ρ W hE hz hd hA hx
              have d0 : ρ (.tmp 40) = .agg #[.slice sa ks.length cap] := (hA.dep 0 (by decide) 40 rfl).trans (hd 0 (by decide))
              have qs : IsInts W .i64 (val 6) (stOf ks (I : Int)) := hd 6 (by decide)
              have ds : ρ (.tmp 46) = val 6 := hA.dep 6 (by decide) 46 rfl
              have qa : IsInts W .i64 (val 8) (upL ks.length) := hd 8 (by decide)
              have da : ρ (.tmp 48) = val 8 := hA.dep 8 (by decide) 48 rfl
              clear hd
              refine runq_call 49 _ _ rfl #[.agg #[.slice sa ks.length cap], val 6, val 8] (hA.func _) (by simp [d0, ds, da]) (fun args W => Try.call49 args W) ((pulledAF_any ks (stOf ks (I : Int)) _ _ _ W (HS2.out.ext hE) qs qa (V).out (HSI).out).mono ?_)
              rintro e w' ⟨v, rfl, hb, hi, hfr⟩
              exact ⟨_, rfl, hb, v, by rw [HOKX.out], by rw [HXLX.out]; exact hi, fun g hg => by have := hfr g hg; omega⟩
            case s10 =>
              intro val ρ W hE hz hd hA hx
              obtain ⟨r, h1, h2⟩ : ∃ r, val 9 = .tuple #[r, .bool ok] ∧ IsFr Y W r XL := hd 9 (by decide)
              have dd : ρ (.tmp 49) = .tuple #[r, .bool ok] := (hA.dep 9 (by decide) 49 rfl).trans h1
              exact runq_val (W' := W) (v := .tuple #[r, .bool ok]) (by simp [execOp, dd, go_sem]) (Below.refl _ _) ⟨r, rfl, h2⟩
            case s11 =>
              intro val ρ W hE hz hd hA hx
              obtain ⟨r, h1, h2⟩ : ∃ r, val 10 = .tuple #[r, .bool ok] ∧ IsFr Y W r XL := hd 10 (by decide)
              have dd : ρ (.tmp 39) = .tuple #[r, .bool ok] := (hA.dep 10 (by decide) 39 rfl).trans h1
              exact runq_val (W' := W) (v := r) (by simp [execOp, dd, go_sem]) (Below.refl _ _) h2
            case s12 =>
              intro val ρ W hE hz hd hA hx
              obtain ⟨r, h1, h2⟩ : ∃ r, val 10 = .tuple #[r, .bool ok] ∧ IsFr Y W r XL := hd 10 (by decide)
              have dd : ρ (.tmp 39) = .tuple #[r, .bool ok] := (hA.dep 10 (by decide) 39 rfl).trans h1
              exact runq_val (W' := W) (v := .bool ok) (by simp [execOp, dd, go_sem]) (Below.refl _ _) rfl
            case s13 =>
              intro val ρ W hE hz hd hA hx
              have qx : IsFr Y W (val 11) XL := hd 11 (by decide)
              have dx : ρ (.tmp 50) = val 11 := hA.dep 11 (by decide) 50 rfl
              exact runq_val (W' := W) (v := val 11) (by simp [execOp, dx, go_sem]) (Below.refl _ _) qx
            case s6 =>
              intro val ρ W hE hz hd hA hx
              have d1 : ρ (.tmp 41) = .agg #[.slice sa ks.length cap] := (hA.dep 1 (by decide) 41 rfl).trans (hd 1 (by decide))
              have d5 : ρ (.tmp 45) = .int .i64 I := (hA.dep 5 (by decide) 45 rfl).trans (hd 5 (by decide))
              clear hd
              refine runq_call 78 _ _ rfl #[.agg #[.slice sa ks.length cap], .int .i64 I] (hA.func _) (by simp [d1, d5]) (fun args W => Try.call78 args W) ((stateR_any ks I _ W (HS2.out.ext hE) V.out (by omega)).mono ?_)
              rintro e w' ⟨v, rfl, hb, hi⟩
              exact ⟨_, rfl, hb, hi⟩
            case send =>
              intro val WW hE hzz hv
              obtain ⟨-, -, -, -, -, -, -, -, -, -, -, -, -, q8, q9, -⟩ := hv
              have q9' : val 14 = .bool ok := q9
              replace q8 : IsFr Y WW (val 13) XL := q8
              obtain ⟨X8, hX8⟩ : ∃ X8, X8 = val 13 := ⟨_, rfl⟩
              rw [← hX8] at q8
              simp only [putD, q9', ← hX8]
              go_frame
              clear q9 q9' hX8 hzz
              obtain ⟨q8, qfr⟩ := q8
              have HFR := Lib.hid qfr
              clear qfr
              obtain ⟨xa, xc, rfl, -, -, -⟩ := q8.spec
              have HX8 := Lib.hid q8
              clear q8
              have hEW : Ext Y WW := hE
              have HEW := Lib.hid (HEX.out.trans' hEW)
              have HQW := Lib.hid (HQr.out.ext hEW)
              have HNW := Lib.hid (HNUMr.out.of_heap (hEW.block _ hgz))
              have HSW := Lib.hid (HS2.out.ext hEW)
              have k3 := cell_ext hEW k2
              have hz3 := World.block_lt_of_cell? _ _ k3
              simp only at hz3
              have HQZ := Lib.hid hqz
              have HGZ := Lib.hid hgz
              clear hE hEW e0 c0 f0 hqz hgz
              have HFB := Lib.hid (show FarI ks (s : Int) N 0 q ((nxN ks (q.getD i (s : Int))).take 0) i d by rw [List.take_zero]; exact HF0.out)
              cases ok
              · have hf : fullP allW ks (stOf ks (I : Int)) = true := by have := HOKX.out; cases h : fullP allW ks (stOf ks (I : Int)) <;> simp [h] at this ⊢
                have hnx : nxN ks (q.getD i (s : Int)) = [] := by rw [HI.out]; exact nxN_full hf
                have HFN := Lib.hid ((HF0.out.next hiq (by rw [hnx]; simp)).more (show 0 ≤ 5 by omega))
                clear hf hnx
                go_wp2_with fail
                go_loopw [7, 11] (fun qv iv W => qv = .slice (some ⟨qg, qo, none⟩) q.length qcp ∧ iv = .int .i64 0 ∧ Ext WW W) (fun _ _ _ => 0)
                case atStart => exact ⟨rfl, rfl, Below.refl _ _⟩
                case round =>
                  obtain ⟨rfl, rfl, hE3⟩ := hrel
                  have HN9 := Lib.hid (HNW.out.of_heap (hE3.block _ HNW.out.lt))
                  have HQ9 := Lib.hid (HQW.out.ext hE3)
                  have HE3 := Lib.hid (HEW.out.trans' hE3)
                  clear hE3
                  go_wp2_with fail
                  go_roundw
                  case rel => exact ⟨i + 1, q, d, by go_num, HFN.out, HQ9.out, HN9.out, HE3.out⟩
                  case measure => simp [intOf]; omega
              · have hf : fullP allW ks (stOf ks (I : Int)) = false := by have := HOKX.out; cases h : fullP allW ks (stOf ks (I : Int)) <;> simp [h] at this ⊢
                have hxl : XL = upP allW (stOf ks (I : Int)) := by rw [HXLX.out, hf]; rfl
                have hdr := fun j (hj : j < ks.length) => nxN_drop hf hj
                have hxs := up_st HSI.out hf
                rw [← hxl] at hdr hxs
                have hnl : (nxN ks (I : Int)).drop ks.length = [] := nxN_end hf
                have HDR := Lib.hid hdr
                have HNL := Lib.hid hnl
                have HXS := Lib.hid hxs
                have hxll := isSt_len hxs
                have hx5 : XL.length ≤ 1000 := by omega
                have HXLL := Lib.hid hxll
                have HIQ := Lib.hid hiq
                obtain ⟨xb, xo, rfl, hxz, -⟩ := HX8.out.at_all (by omega)
                have hxy : Y.heap.size ≤ xb := HFR.out xb rfl
                have hxx : xb ≠ X.heap.size := by have := HGZ.out; omega
                clear hf hxl hdr hxs hxll HXLX HOKX hnl
                go_wp2_with fail
                go_loopw [7, 11] (fun qv iv W => InnRel ks XL (.slice (some ⟨xb, xo, none⟩) XL.length xc) xb N s i I X qv iv W) (fun _ iv _ => ks.length - (intOf iv).toNat)
                case atStart =>
                  refine ⟨0, q, d, HX8.out, hxz, fun e => ?_, by omega, rfl, by rw [List.take_zero]; exact HF0.out, HIQ.out, HI.out, HQW.out, HNW.out, HEW.out⟩
                  simp only [Value.ownBlock, Option.some.injEq] at e
                  have := HQZ.out
                  omega
                case round =>
                  obtain ⟨j, q1, d1, hxi, hxw, hxo, hj, rfl, hf1, hi1, hI1, hq1, hn1, hE1⟩ := hrel
                  obtain ⟨qg1, qo1, qc1, hqe1, hqB1, hqz1, hqcell1⟩ := hq1.at_ (by omega)
                  subst hqe1
                  have k4 := cell_ext hE1 k1
                  have hz4 := World.block_lt_of_cell? _ _ k4
                  simp only at hz4
                  have HF1 := Lib.hid hf1
                  have HI1 := Lib.hid hI1
                  have HQ1 := Lib.hid hq1
                  have HN1 := Lib.hid hn1
                  have HE1 := Lib.hid hE1
                  have hgz1 := hn1.lt
                  have HX9 := Lib.hid hxi
                  have HXO := Lib.hid hxo
                  have HS9 := Lib.hid (HS1.out.ext hE1)
                  have hql1 := hf1.2.2.1
                  have hdb1 := hf1.2.2.2.1
                  by_cases hjl : j < ks.length
                  · have hji : (j : Int) < (ks.length : Int) := by omega
                    have hjx : j < XL.length := by rw [HXLL.out]; exact hjl
                    have hvs : isSt ks (visit XL j) = true := visit_st HXS.out (fun i hi => by have := V.out.at_ i hi; omega) j
                    obtain ⟨Yn, hY, hYn⟩ := num_nat V.out hvs
                    have hYN : Yn < N := by rw [HNN.out]; exact hYn
                    have hdrj := HDR.out j hjl
                    rw [hY] at hdrj
                    have hmem : (Yn : Int) ∈ nxN ks (I : Int) := List.mem_of_mem_drop (by rw [hdrj]; exact List.mem_cons_self)
                    have htk : (nxN ks (I : Int)).take (j + 1) = (nxN ks (I : Int)).take j ++ [(Yn : Int)] := by
                      rw [List.take_add_one]
                      have : (nxN ks (I : Int))[j]? = some (Yn : Int) := by
                        have h := congrArg (fun l => l[0]?) hdrj
                        simpa using h
                      rw [this]; rfl
                    obtain ⟨dy, hdy⟩ : ∃ dy, dy = d1 (Yn : Int) := ⟨_, rfl⟩
                    have cY := hn1.cell Yn hYN
                    have fY := hn1.free Yn
                    rw [← hdy] at cY
                    have HDY := Lib.hid hdy
                    have HYE := Lib.hid hY
                    have HVS := Lib.hid hvs
                    have HMEM := Lib.hid hmem
                    have HTK := Lib.hid htk
                    have eI := hqcell1 i hi1
                    have hqx1 : q1[i] = (I : Int) := by rw [← hI1, List.getD_eq_getElem?_getD, List.getElem?_eq_getElem hi1]; rfl
                    rw [hqx1] at eI
                    have cI := hn1.cell I hIN
                    obtain ⟨di, hdi⟩ : ∃ di, di = d1 (I : Int) := ⟨_, rfl⟩
                    have hdib : di ≤ N + 1 + j := by rw [hdi]; exact hdb1 _
                    rw [← hdi] at cI
                    have HDI := Lib.hid hdi
                    have hYi : (Yn : Int) < (N : Int) := by omega
                    have hIi : (I : Int) < (N : Int) := by omega
                    have hi1i : (i : Int) < (q1.length : Int) := by omega
                    have HXI := Lib.hid hxo
                    clear hvs hY hdrj hmem htk hdy hdi hqx1 hf1 hI1 hq1 hn1 hE1 hqcell1 hxi hxo hdb1
                    go_upto_region 15 with (fail)
                    obtain ⟨Z, hZ⟩ : ∃ Z, Z = wr := ⟨_, rfl⟩
                    subst hZ
                    refine wp_region_rove (Z.heap.size) (Nat.le_refl _)
                      [sqV (.agg #[.slice sa ks.length cap]),
                       sqV (.slice (some ⟨xb, xo, none⟩) XL.length xc),
                       sqV (.int .i64 j),
                       sqW (fun v W => IsInts W .i64 v (visit XL j)) (fun _ _ _ h e => IsInts.ext e h),
                       sqV (.int .i64 Yn),
                       sqV (.int .i64 Yn)]
                      [true, true, true, false, true, true] [false, false, false, false, false, false] [true, true, true, true, true, true] [true, true, true, true, true, true]
                      (by kernel_rfl) (by kernel_rfl) (by decide +kernel) (by decide +kernel) (by decide +kernel) rfl ⟨rfl, rfl⟩ ⟨?s0, ?s1, ?s2, ?s3, ?s4, ?s5, trivial⟩ [some 62, some 63, some 64, some 65, some 66, some 12] rfl rfl ?send
                    case s0 =>
                      intro val ρ W hE hz hd hA hx
                      have o0 : ρ (.tmp 1) = .pointer (some ⟨w.heap.size, 0, none⟩) := hA.old 1 (by decide)
                      have f_k4 := cell_below hE (by simp only; omega) k4
                      clear hd
                      exact runq_val (W' := W) (by simp [execOp, o0, f_k4, go_sem]) (Below.refl _ _) rfl
                    case s1 =>
                      intro val ρ W hE hz hd hA hx
                      have o0 : ρ (.tmp 9) = .slice (some ⟨xb, xo, none⟩) XL.length xc := hA.old 9 (by decide)
                      clear hd
                      exact runq_val (W' := W) (by simp [execOp, o0, go_sem]) (Below.refl _ _) rfl
                    case s2 =>
                      intro val ρ W hE hz hd hA hx
                      have o0 : ρ (.tmp 11) = .int .i64 j := hA.old 11 (by decide)
                      clear hd
                      exact runq_val (W' := W) (by simp [execOp, o0, go_sem]) (Below.refl _ _) rfl
                    case s5 =>
                      intro val ρ W hE hz hd hA hx
                      have d4 : ρ (.tmp 66) = .int .i64 Yn := (hA.dep 4 (by decide) 66 rfl).trans (hd 4 (by decide))
                      clear hd
                      exact runq_val (W' := W) (by simp [execOp, d4, go_sem]) (Below.refl _ _) rfl
                    case s3 =>
                      intro val ρ W hE hz hd hA hx
                      have d1 : ρ (.tmp 63) = .slice (some ⟨xb, xo, none⟩) XL.length xc := (hA.dep 1 (by decide) 63 rfl).trans (hd 1 (by decide))
                      have d2 : ρ (.tmp 64) = .int .i64 j := (hA.dep 2 (by decide) 64 rfl).trans (hd 2 (by decide))
                      clear hd
                      refine runq_call 50 _ _ rfl #[.slice (some ⟨xb, xo, none⟩) XL.length xc, .int .i64 j] (hA.func _) (by simp [d1, d2]) (fun args W => Try.call50 args W) ((visitedR_any XL j _ W (HX9.out.ext hE) hjx hx5).mono ?_)
                      rintro e w' ⟨v, rfl, hb, hi⟩
                      exact ⟨_, rfl, hb, hi⟩
                    case s4 =>
                      intro val ρ W hE hz hd hA hx
                      have d0 : ρ (.tmp 62) = .agg #[.slice sa ks.length cap] := (hA.dep 0 (by decide) 62 rfl).trans (hd 0 (by decide))
                      have q3 : IsInts W .i64 (val 3) (visit XL j) := hd 3 (by decide)
                      have d3 : ρ (.tmp 65) = val 3 := hA.dep 3 (by decide) 65 rfl
                      clear hd
                      refine runq_call 79 _ _ rfl #[.agg #[.slice sa ks.length cap], val 3] (hA.func _) (by simp [d0, d3]) (fun args W => Try.call79 args W) ((indexR_any ks (visit XL j) _ _ W (HS9.out.ext hE) q3 V.out HVS.out).mono ?_)
                      rintro e w' ⟨rfl, hb⟩
                      exact ⟨_, rfl, hb, by rw [HYE.out]; rfl⟩
                    case send =>
                      intro val WW2 hE hzz hv
                      obtain ⟨-, -, -, -, -, q5, -⟩ := hv
                      have q5' : val 5 = .int .i64 Yn := q5
                      have hEZ : Ext Z WW2 := hE
                      have HE9 := Lib.hid (HE1.out.trans' hEZ)
                      have HQ9 := Lib.hid (HQ1.out.ext hEZ)
                      have HN9 := Lib.hid (HN1.out.of_heap (hEZ.block _ hgz1))
                      have HX10 := Lib.hid (HX9.out.ext hEZ)
                      have hxw2 : xb < WW2.heap.size := by have := hEZ.size; omega
                      have cY2 := cell_ext hEZ cY
                      have cI2 := cell_ext hEZ cI
                      have eI2 := cell_ext hEZ eI
                      have fY2 := HN9.out.free Yn
                      have hgz2 := HN9.out.lt
                      have hqz2 := World.block_lt_of_cell? _ _ eI2
                      simp only at hqz2
                      simp only [putD, q5']
                      go_frame
                      clear q5 q5' hE hzz hEZ cY cI eI fY hqz1 hgz1
                      by_cases hdz : dy = 0
                      · have HADD := Lib.hid (HF1.out.add V.out HNN.out hi1 (y := (Yn : Int)) (by rw [← HDY.out]; exact hdz) (by rw [HI1.out]; exact HMEM.out))
                        rw [HI1.out, ← HDI.out] at HADD
                        subst hdz
                        have hne1 : (X.heap.size = qg1) = False := eq_false (by omega)
                        have hne2 : (qg1 = X.heap.size) = False := eq_false (by omega)
                        have hnum2 : NumB (WW2.setCell ⟨X.heap.size, Yn, none⟩ (.int .i64 ((di : Int) + 1))) X.heap.size N (fun j => ((setD d1 (Yn : Int) (di + 1) (j : Int) : Nat) : Int)) := (HN9.out.set Yn _).congr fun j _ => by
                          unfold setD
                          by_cases e : j = Yn
                          · rw [if_pos e, if_pos (by omega)]; simp
                          · rw [if_neg e, if_neg (by omega)]
                        have hq2' : Que (WW2.setCell ⟨X.heap.size, Yn, none⟩ (.int .i64 ((di : Int) + 1))) (X.heap.size + 1) (.slice (some ⟨qg1, qo1, none⟩) q1.length qc1) q1 :=
                          HQ9.out.kept (S := fun k => k ≠ X.heap.size) ((Kept.refl _ WW2).setCell (fun _ h => h rfl) _) (fun g cur hg _ _ => by omega)
                        have hx2' : IsInts (WW2.setCell ⟨X.heap.size, Yn, none⟩ (.int .i64 ((di : Int) + 1))) .i64 (.slice (some ⟨xb, xo, none⟩) XL.length xc) XL :=
                          IsRows.kept (S := fun k => k ≠ X.heap.size) ((Kept.refl _ WW2).setCell (fun _ h => h rfl) _) (fun g hg => by simp only [Value.ownBlock, Option.some.injEq] at hg; omega) HX10.out
                        have hE2' : Ext X (WW2.setCell ⟨X.heap.size, Yn, none⟩ (.int .i64 ((di : Int) + 1))) := HE9.out.setCell (Nat.le_refl _) _
                        have hszs : (WW2.setCell ⟨X.heap.size, Yn, none⟩ (.int .i64 ((di : Int) + 1))).heap.size = WW2.heap.size := by simp [World.setCell]
                        have HNUM2 := Lib.hid hnum2
                        have HQ2' := Lib.hid hq2'
                        have HX2' := Lib.hid hx2'
                        have HE2' := Lib.hid hE2'
                        have HSZ := Lib.hid hszs
                        have hxs1 := HE9.out.size
                        clear hnum2 hq2' hx2' hE2' hszs
                        go_wp2_with (at_builtin; refine wpQueA rfl (.tmp 83) (.tmp 85) rfl (X.heap.size + 1) rfl (HQ2'.out.ext (by exact (by repeat (first | exact Below.refl _ _ | refine Ext.al ?_ _ | refine Ext.dr ?_ | refine Ext.drN ?_ _ | refine Ext.gr ?_ _ | refine Ext.set ?_ (by simp) _ | (refine Ext.trans' ?_ (by assumption)))))) (Yn : Int) WW2.heap.size 1 rfl (by simp [go_sem]) (by omega) (by simp [World.setCell]; omega) ?_)
                        intro v6 W6 hq6 hk6 hat6
                        obtain ⟨qa6, qn6, qc6, rfl⟩ := hq6.form
                        have hk7 : Kept (fun k => some k ≠ (Value.slice (some (⟨qg1, qo1, none⟩ : Addr)) q1.length qc1).ownBlock) (WW2.setCell ⟨X.heap.size, Yn, none⟩ (.int .i64 ((di : Int) + 1))) W6 := ((Kept.refl _ _).alloc _).trans hk6
                        have hnum6 := HNUM2.out.of_heap (hk7.same _ (by rw [HSZ.out]; exact hgz2) fun e => by simp only [Value.ownBlock, Option.some.injEq] at e; omega)
                        have hE6 : Ext X W6 := HE2'.out.trans (Kept.below (hk7.mono fun j _ hj e => by simp only [Value.ownBlock, Option.some.injEq] at e; omega) (by rw [HSZ.out]; exact hxs1))
                        have hx6 : IsInts W6 .i64 (.slice (some ⟨xb, xo, none⟩) XL.length xc) XL := IsRows.kept hk7 (fun g hg e => by
                          simp only [Value.ownBlock, Option.some.injEq] at hg e
                          exact HXI.out (by simp only [Value.ownBlock, Option.some.injEq]; omega)) HX2'.out
                        have hxw6 : xb < W6.heap.size := by
                          have := hk7.size
                          rw [HSZ.out] at this
                          omega
                        have hxo6 : (Value.slice (some qa6) qn6 qc6).ownBlock ≠ some xb := fun e => by
                          rcases hat6 xb e with h | h
                          · exact HXI.out h
                          · have h9 : WW2.heap.size + 1 ≤ xb := by simpa [World.setCell] using h
                            omega
                        have hgi : (q1 ++ [(Yn : Int)]).getD i (s : Int) = (I : Int) := by
                          rw [← HI1.out, List.getD_eq_getElem?_getD, List.getD_eq_getElem?_getD, List.getElem?_append_left hi1]
                        have HQ6 := Lib.hid hq6
                        have HNUM6 := Lib.hid hnum6
                        have HE6 := Lib.hid hE6
                        have HX6 := Lib.hid hx6
                        have HXO6 := Lib.hid hxo6
                        have HGI := Lib.hid hgi
                        clear hq6 hk6 hk7 hat6 hnum6 hE6 hx6 hxo6 hgi
                        go_wp2_with fail
                        go_roundw
                        case rel =>
                          have hrel6 : InnRel ks XL (.slice (some ⟨xb, xo, none⟩) XL.length xc) xb N s i I X (.slice (some qa6) qn6 qc6) (.int .i64 ((j : Int) + 1)) W6 := ⟨j + 1, q1 ++ [(Yn : Int)], _, HX6.out, hxw6, HXO6.out, by omega, by go_num, by rw [HTK.out]; exact HADD.out, by simp; omega, HGI.out, HQ6.out, HNUM6.out, HE6.out⟩
                          repeat apply Exists.intro
                          exact ⟨hrel6, rfl⟩
                        case measure => simp [intOf]; omega
                      · have HSK := Lib.hid ((HF1.out.skip hi1 (y := (Yn : Int)) (by rw [← HDY.out]; exact hdz)).more (show j ≤ j + 1 by omega))
                        have hdq : ((dy : Int) == 0) = false := by rw [beq_eq_false_iff_ne]; omega
                        have hdq2 : (dy == 0) = false := by rw [beq_eq_false_iff_ne]; exact hdz
                        clear hdz
                        go_wp2_with fail
                        go_roundw
                        case rel => exact ⟨j + 1, q1, d1, HX10.out, hxw2, HXI.out, by omega, by go_num, by rw [HTK.out]; exact HSK.out, hi1, HI1.out, HQ9.out, HN9.out, HE9.out⟩
                        case measure => simp [intOf]; omega
                  · have hji : ¬ ((j : Int) < (ks.length : Int)) := by omega
                    have hall : (nxN ks (I : Int)).take j = nxN ks (I : Int) := by
                      have h := HNL.out
                      have h2 := List.take_append_drop ks.length (nxN ks (I : Int))
                      rw [h, List.append_nil] at h2
                      rw [show j = ks.length by omega]; exact h2
                    have hfn := hf1.next hi1 (by rw [hI1, hall]; exact fun y hy => hy)
                    have HFN := Lib.hid (hfn.more (show j ≤ 5 by omega))
                    clear hf1 hq1 hn1 hE1 hqcell1 hxi hxo hdb1 hall hfn
                    go_wp2_with fail
                    go_roundw
                    case rel => exact ⟨i + 1, q1, d1, by go_num, HFN.out, HQ1.out, HN1.out, HE1.out⟩
                    case measure => simp [intOf]; omega
        · have hii : ¬ ((i : Int) < (q.length : Int)) := by omega
          rcases HSHN with HSHN | h
          rotate_left
          · exact absurd h hiq
          rw [hqv] at HQr ⊢
          have hqn : qn = q.length := by
            obtain ⟨g, off, cap, cur, e, _⟩ := HQr.out
            simp only [Value.slice.injEq] at e
            exact e.2.1
          subst hqn
          clear hq hqv
          by_cases hdz : ds = 0
          · go_wp2_with fail
            have HSH2 := Lib.hid (HSHN.out hdz)
            subst hdz
            clear HSHF
            go_wp2_with fail
            go_roundw
            case rel => exact ⟨s + 1, bb, by omega, by go_num, rfl, HSH2.out, HEND.out⟩
            case measure => simp [intOf]; omega
          · go_wp2_with fail
            have HSH2 := Lib.hid (HSHF.out hdz)
            obtain ⟨e, rfl⟩ : ∃ e, ds = e + 1 := ⟨ds - 1, by omega⟩
            have hmn : ((min bb (e + 1) : Nat) : Int) = min (bb : Int) ((e : Int) + 1) := by omega
            clear hdz
            go_wp2_with fail
            go_roundw
            case rel => exact ⟨s + 1, min bb (e + 1), by omega, by go_num, by rw [hmn]; simp; split <;> omega, HSH2.out, HEND.out⟩
            case measure => simp [intOf]; omega
    · have hsi : ¬ ((s : Int) < (N : Int)) := by omega
      have hfin : IsShort ks bb := by
        have hsN : s = nSt ks := by rw [← HNN.out]; omega
        have := HSH.out
        rw [HNN.out, hsN] at this
        exact this.fin V.out HSAFE.out
      have HFIN := Lib.hid hfin
      clear hfin
      go_wp2_with fail
      go_ret
      exact ⟨bb, rfl, HW.out.trans' HE.out, HFIN.out⟩
end Go.Proofs.Ytndgaklcnhoddaa
