/-
 Maps whose keys are spots, and what they hold.
 The till in memory, and the walks of out, running and on.
 'm[k] += x' on a map: the entry is found or laid, and then stored: as if it had been updated.
 A region that draws its order, whose last operations, some of them, come behind all others, one behind the other: stores, an entry of a map.
 The walks of most and of newTill's closure.
 A region that draws its order, in which a property of the world stays: each operation may use it, and whoever turns memory keeps it.
-/
import Derived.Test.YtphajlldghcnnaaPd
import Derived.WideKeyEntry
import Derived.Test.YtphajlldghcnnaaPb
namespace Go.Proofs.Ytphajlldghcnnaa
open Go.RowKit Go.Shelf
abbrev Spt := Int × Int
def skey (s : Spt) : Value := .agg #[.int .i64 s.1, .int .i64 s.2]
def ival (n : Int) : Value := .int .i64 n
set_option maxHeartbeats 2000000 in
theorem equal_spot (a b c d : Int) (w : World) : (Op.equal 110 (.agg #[.int .i64 a, .int .i64 b]) (.agg #[.int .i64 c, .int .i64 d])).run Try.prog w = .ok (a == c && b == d) w := by
 simp only [Op.equal, Op.maxDepth]
 rw [run_equalIn_struct w 9999 110 _ _ (by kernel_rfl) (by kernel_rfl)]
 have hf : (Try.prog.fieldsOf 110).toList = [⟨"first", 3, 0, false, "", "quinella/pool", 0⟩, ⟨"second", 3, 1, false, "", "quinella/pool", 8⟩] := by kernel_rfl
 rw [hf]
 by_cases e1 : a = c <;> by_cases e2 : b = d <;> simp [go_sem, e1, e2]
set_option maxHeartbeats 2000000 in
theorem check_spot (b : Bool) (n : Nat) (x y : Int) (w : World) : (Instr.checkKey b (n + 3) 110 (.agg #[.int .i64 x, .int .i64 y])).run Try.prog w = .ok () w := by
 have h3 : ∀ x w, (Instr.checkKey b (n + 2) 3 (.int .i64 x)).run Try.prog w = .ok () w := fun x w => by
  rw [Instr.checkKey]; simp [go_sem]
 rw [Instr.checkKey]
 simp only [Sem.run_bind, Try.runUnderlying110, Result.andThen_ok]
 simp [go_sem, h3]
theorem equal_key (a b : Spt) (w : World) : (Op.equal 110 (skey a) (skey b)).run Try.prog w = .ok (decide (a = b)) w := by
 unfold skey
 rw [equal_spot]
 obtain ⟨a1, a2⟩ := a
 obtain ⟨b1, b2⟩ := b
 by_cases e1 : a1 = b1 <;> by_cases e2 : a2 = b2 <;> simp [e1, e2]
theorem find_key (k : Spt) (l : Ents Spt Int) (w : World) : (Instr.findKey 110 (skey k) (l.map (encE skey ival))).run Try.prog w = .ok (lookFrom ival k l 0) w := by
 have h : ∀ (l : Ents Spt Int) (i : Nat), (Instr.findAsking 110 (skey k) (l.map (encE skey ival)) i).run Try.prog w = .ok (lookFrom ival k l i) w := by
  intro l
  induction l with
  | nil => intro i; rfl
  | cons e l ih =>
   intro i
   simp only [List.map_cons, Instr.findAsking, lookFrom, encE, Sem.run_bind, equal_key, Result.andThen_ok]
   by_cases hk : e.1 = k
   ·subst hk; simp
   ·have : ¬ k = e.1 := fun h => hk h.symm
    simp only [hk, this, decide_false, Bool.false_eq_true, if_false]
    exact ih (i + 1)
 cases l with
 | nil => simp [Instr.findKey, go_sem, Instr.findNow, lookFrom]
 | cons e l =>
  have := h (e :: l) 0
  simp only [Instr.findKey, Sem.run_bind, Try.runUnderlying110, Result.andThen_ok, List.map_cons, Instr.findNow, encE, skey, Instr.sameNow] at this ⊢
  exact this
theorem spot_keyed : Keyed Try.prog 95 110 2 skey ival where
 und := by kernel_rfl
 chk := fun b k w => check_spot b 9997 _ _ w
 find := find_key
 stay := fun k => by
  have : ∀ n : Nat, Instr.sameBits (n + 2) (skey k) (skey k) = true := fun n => by simp [Instr.sameBits, skey]
  exact this 9998
/-- the units on each spot that some bets are on -/
def unitsF (b : Bk) (l : List PB) : Spt → Option Int := fun s => if l.any (fun x => decide (onP b x = some s)) = true then some (sumB (unitsG b s) l) else none
theorem unitsF_nil (b : Bk) : unitsF b [] = fun _ => none := funext fun s => by simp [unitsF]
theorem units_none {b : Bk} {s : Spt} : ∀ {l : List PB}, l.any (fun x => decide (onP b x = some s)) = false → sumB (unitsG b s) l = 0
 | [], _ => rfl
 | x :: l, h => by
  simp only [List.any_cons, Bool.or_eq_false_iff, decide_eq_false_iff_not] at h
  rw [sumB, units_none h.2, unitsG, if_neg h.1]; rfl
theorem unitsF_off {b : Bk} {l : List PB} {x : PB} (h : onP b x = none) : unitsF b (l ++ [x]) = unitsF b l := funext fun s => by
 unfold unitsF
 rw [List.any_append, sumB_app]
 simp [sumB, unitsG, h]
theorem unitsF_on {b : Bk} {l : List PB} {x : PB} {s : Spt} (h : onP b x = some s) : unitsF b (l ++ [x]) = fun s' => if s' = s then some (sumB (unitsG b s) l + x.u) else unitsF b l s' := funext fun s' => by
 unfold unitsF
 rw [List.any_append, sumB_app]
 by_cases e : s' = s
 ·subst e
  simp [sumB, unitsG, h]
 ·have : ¬ s = s' := fun h => e h.symm
  simp [sumB, unitsG, h, e, this]
section
variable {K V : Type} [DecidableEq K] {P : Program} {tm tk tv : TypeId} {ke : K → Value} {ve : V → Value}
/-- a lookup that asks for no answer whether there is one -/
theorem MapIs.look0 (hk : Keyed P tm tk tv ke ve) {W : World} {r : Nat} {F : K → Option V} (h : MapIs ke ve W r F) (k : K) (hg : F k = none) {z : Value} (hz : ∀ w, (zeroValue tv).run P w = .ok z w) :
  (Instr.lookup tm (.map (some r)) (ke k) false).run P W = .ok z W := by
 obtain ⟨es, c, h1, h2, h3, h4⟩ := h
 exact run_lookup1_none hk h1 k ((h4 k).trans hg) hz
end
theorem zero64 (w : World) : (zeroValue 2).run Try.prog w = .ok (.int .i64 0) w := by kernel_rfl
/-- what a spot's units are, as the map tells -/
theorem units_look {b : Bk} {l : List PB} {W : World} {r : Nat} (h : MapIs skey ival W r (unitsF b l)) (s : Spt) :
  (Instr.lookup 95 (.map (some r)) (skey s) false).run Try.prog W = .ok (.int .i64 (sumB (unitsG b s) l)) W := by
 cases ha : l.any fun x => decide (onP b x = some s)
 ·rw [units_none ha]
  exact h.look0 spot_keyed s (by unfold unitsF; rw [ha]; rfl) zero64
 ·exact h.look spot_keyed s (by unfold unitsF; rw [ha]; rfl)
end Go.Proofs.Ytphajlldghcnnaa
namespace Go.Proofs.Ytphajlldghcnnaa
open Go.RowKit Go.Shelf
def tRow (b : Bk) (ba : Option Addr) (bcap : Nat) (sa : Option Addr) (scap : Nat) (fv : Int) (m : Nat) (i k d o : Int) : Array Value :=
 #[.int .i64 b.kd, .int .i64 b.n, .slice ba b.bets.length bcap, .slice sa b.scr.length scap, .bool b.fav, .int .i64 b.car, .int .i64 b.duty, .int .i64 b.step, .int .i64 fv, .map (some m), .int .i64 i, .int .i64 k, .int .i64 d, .int .i64 0, .int .i64 0, .int .i64 o]
/-- a till: its book, its favourite, its map, and the net: In, Back, Duty, Over -/
def Till (W : World) (p : Nat) (b : Bk) (ba : Option Addr) (bcap : Nat) (sa : Option Addr) (scap : Nat) (fv : Int) (m : Nat) (i k d o : Int) : Prop :=
 W.heap[p]? = some (.cells (tRow b ba bcap sa scap fv m i k d o) 97 (0, 0))
section
variable {W : World} {p : Nat} {b : Bk} {ba sa : Option Addr} {bcap scap : Nat} {fv : Int} {m : Nat} {i k d o : Int} (h : Till W p b ba bcap sa scap fv m i k d o)
include h
theorem Till.c0 : W.cell? ⟨p, 0, none⟩ = some (.int .i64 b.kd) := by rw [cell_of_row _ _ _ _ _ _ h]; rfl
theorem Till.c1 : W.cell? ⟨p, 1, none⟩ = some (.int .i64 b.n) := by rw [cell_of_row _ _ _ _ _ _ h]; rfl
theorem Till.c2 : W.cell? ⟨p, 2, none⟩ = some (.slice ba b.bets.length bcap) := by rw [cell_of_row _ _ _ _ _ _ h]; rfl
theorem Till.c3 : W.cell? ⟨p, 3, none⟩ = some (.slice sa b.scr.length scap) := by rw [cell_of_row _ _ _ _ _ _ h]; rfl
theorem Till.c4 : W.cell? ⟨p, 4, none⟩ = some (.bool b.fav) := by rw [cell_of_row _ _ _ _ _ _ h]; rfl
theorem Till.c5 : W.cell? ⟨p, 5, none⟩ = some (.int .i64 b.car) := by rw [cell_of_row _ _ _ _ _ _ h]; rfl
theorem Till.c6 : W.cell? ⟨p, 6, none⟩ = some (.int .i64 b.duty) := by rw [cell_of_row _ _ _ _ _ _ h]; rfl
theorem Till.c7 : W.cell? ⟨p, 7, none⟩ = some (.int .i64 b.step) := by rw [cell_of_row _ _ _ _ _ _ h]; rfl
theorem Till.c8 : W.cell? ⟨p, 8, none⟩ = some (.int .i64 fv) := by rw [cell_of_row _ _ _ _ _ _ h]; rfl
theorem Till.c9 : W.cell? ⟨p, 9, none⟩ = some (.map (some m)) := by rw [cell_of_row _ _ _ _ _ _ h]; rfl
theorem Till.c10 : W.cell? ⟨p, 10, none⟩ = some (.int .i64 i) := by rw [cell_of_row _ _ _ _ _ _ h]; rfl
theorem Till.c11 : W.cell? ⟨p, 11, none⟩ = some (.int .i64 k) := by rw [cell_of_row _ _ _ _ _ _ h]; rfl
theorem Till.c12 : W.cell? ⟨p, 12, none⟩ = some (.int .i64 d) := by rw [cell_of_row _ _ _ _ _ _ h]; rfl
theorem Till.c13 : W.cell? ⟨p, 13, none⟩ = some (.int .i64 0) := by rw [cell_of_row _ _ _ _ _ _ h]; rfl
theorem Till.c14 : W.cell? ⟨p, 14, none⟩ = some (.int .i64 0) := by rw [cell_of_row _ _ _ _ _ _ h]; rfl
theorem Till.c15 : W.cell? ⟨p, 15, none⟩ = some (.int .i64 o) := by rw [cell_of_row _ _ _ _ _ _ h]; rfl
theorem Till.fr (o : Nat) : W.frozen? ⟨p, o, none⟩ = false := by
 have h' : W.heap[p]? = _ := h
 simp [World.frozen?, h']
theorem Till.lt : p < W.heap.size := World.block_lt_of_cell? _ _ h.c0
theorem Till.of_heap {W' : World} (e : W'.heap[p]? = W.heap[p]?) : Till W' p b ba bcap sa scap fv m i k d o := e.trans h
theorem Till.ext {W' : World} (e : Ext W W') : Till W' p b ba bcap sa scap fv m i k d o := (e.block _ h.lt).trans h
theorem Till.book : BookAt W p b ba bcap sa scap := ⟨h.c0, h.c1, h.c2, h.c3, h.c4, h.c5, h.c6, h.c7⟩
theorem Till.setF (x : Int) : Till (W.setCell ⟨p, 8, none⟩ (.int .i64 x)) p b ba bcap sa scap x m i k d o := heap_setCell_row h 8 (.int .i64 x)
theorem Till.setI (x : Int) : Till (W.setCell ⟨p, 10, none⟩ (.int .i64 x)) p b ba bcap sa scap fv m x k d o := heap_setCell_row h 10 (.int .i64 x)
theorem Till.setK (x : Int) : Till (W.setCell ⟨p, 11, none⟩ (.int .i64 x)) p b ba bcap sa scap fv m i x d o := heap_setCell_row h 11 (.int .i64 x)
theorem Till.setD (x : Int) : Till (W.setCell ⟨p, 12, none⟩ (.int .i64 x)) p b ba bcap sa scap fv m i k x o := heap_setCell_row h 12 (.int .i64 x)
theorem Till.setO (x : Int) : Till (W.setCell ⟨p, 15, none⟩ (.int .i64 x)) p b ba bcap sa scap fv m i k d x := heap_setCell_row h 15 (.int .i64 x)
end
set_option maxRecDepth 100000 in
set_option maxHeartbeats 1000000 in
theorem out_any (b : Bk) (sa : Option Addr) (scap : Nat) (r : Int) (p : Nat) (w : World) (h3 : w.cell? ⟨p, 3, none⟩ = some (.slice sa b.scr.length scap)) (hs : IsInts w .i64 (.slice sa b.scr.length scap) b.scr) :
  Calls Try.prog 57 #[.pointer (some ⟨p, 0, none⟩), .int .i64 r] w fun e w' => e = .returned (.bool (outB b r)) ∧ Ext w w' := by
 have hz := World.block_lt_of_cell? _ _ h3
 simp only at hz
 go_enter Try.func57, Try.ntmps57
 go_wp2_with fail
 refine (contains_any b.scr r _ _ hs).mono ?_
 rintro e W' ⟨he, hb⟩
 rw [show b.scr.contains r = outB b r from rfl] at he
 subst he
 have HB := Lib.hid hb
 clear hb h3 hs
 go_wp2_with fail
 go_ret
 exact ⟨rfl, HB.out⟩
set_option maxRecDepth 100000 in
set_option maxHeartbeats 1000000 in
theorem running_any (b : Bk) (sa : Option Addr) (scap : Nat) (p : Nat) (w : World) (hn : 2 ≤ b.n ∧ b.n ≤ 8) (h1 : w.cell? ⟨p, 1, none⟩ = some (.int .i64 b.n)) (h3 : w.cell? ⟨p, 3, none⟩ = some (.slice sa b.scr.length scap)) (hs : IsInts w .i64 (.slice sa b.scr.length scap) b.scr) :
  Calls Try.prog 91 #[.pointer (some ⟨p, 0, none⟩)] w fun e w' => ∃ v, e = .returned v ∧ Ext w w' ∧ Owns w' w.heap.size 3 1 v ((runL b).map iRow) := by
 have hz := World.block_lt_of_cell? _ _ h3
 simp only at hz
 have H3 := Lib.hid h3
 have HS := Lib.hid hs
 clear h3 hs
 go_enter Try.func91, Try.ntmps91
 go_wp2_with fail
 clear h1
 go_loopw [3, 4, 10] (fun ov _ iv W => ∃ k : Nat, (k : Int) ≤ b.n ∧ iv = .int .i64 k ∧ Owns W w.heap.size 3 1 ov ((runK b k).map iRow) ∧ Ext w W) (fun _ _ iv _ => b.n.toNat - (intOf iv).toNat)
 case atStart => exact ⟨0, by omega, rfl, Owns.nil _ _ _ _, Below.refl _ _⟩
 case round =>
  obtain ⟨k, hk, rfl, hown, hE⟩ := hrel
  have hrl := runK_len b k
  by_cases hlt : (k : Int) < b.n
  ·obtain ⟨oa, oc, rfl, ho1, ho2, hf⟩ := hown.form
   rw [List.length_map] at ho1 ⊢
   obtain ⟨on, hon⟩ : ∃ on, on = (runK b k).length := ⟨_, rfl⟩
   rw [← hon] at ho1 hrl ⊢
   have hold : (oa = none ∧ (runK b k).map iRow = [] ∧ on = 0) ∨ ∃ g off, oa = some ⟨g, off, none⟩ ∧ RowsAt wr 1 g off ((runK b k).map iRow) := by
    rcases hf with ⟨e1, e2, e3⟩ | ⟨g, e1, _, _, e2, _⟩
    ·exact .inl ⟨e2, e1, by rw [hon]; simpa using e1⟩
    ·exact .inr ⟨g, 0, e1, e2⟩
   have HOLD := Lib.hid hold
   have HON := Lib.hid hon
   have HOW := Lib.hid hown
   have HE := Lib.hid hE
   have h3 := cell_ext hE H3.out
   have hzr := hE.size
   clear hown hE hon hf hold
   go_wp2_with fail
   refine (out_any b sa scap k p _ h3 (HS.out.ext HE.out)).mono ?_
   rintro e W1 ⟨rfl, hE1⟩
   have HE1 := Lib.hid hE1
   have hz1 := hE1.size
   have HO := Lib.hid hE1
   clear h3 hE1
   have hrs := runK_succ b k
   cases hout : outB b k
   ·rw [hout, if_neg (by simp)] at hrs
    have HRS := Lib.hid hrs
    clear hrs hout
    go_wp2_with (at_builtin; refine wpGrow rfl (.tmp 22) (.tmp 24) elInt rfl oa on (rows := (runK b k).map iRow) (by rw [List.length_map, ← HON.out]; rfl) (by simp [iRow]) (HOLD.out.imp id fun ⟨b', off, e1, e2⟩ => ⟨b', off, e1, e2.ext (Ext.trans' HE1.out (by exact xx))⟩) W1.heap.size 0 1 [iRow (k : Int)] rfl (by simp [iRow]) (newRow _ (iRow (k : Int)) _) (by simp [iRow, Value.oneCell']) (by simp [← HON.out]) (by simp [← HON.out]; omega) ?_)
    intro v2 W2 hown2 hb2
    obtain ⟨va, vn, vc, rfl⟩ := hown2.isSlice
    have hE2 : Ext W1 W2 := ((Below.refl _ W1).alloc (Nat.le_refl _) _).trans (hb2.mono (by omega))
    have HO2 := Lib.hid (hown2.base (B' := w.heap.size) (by omega))
    have HE2 := Lib.hid hE2
    clear hown2 hb2 hE2
    go_wp2_with fail
    go_roundw
    case rel =>
     refine ⟨k + 1, by omega, by go_num, ?_, (HE.out.trans' HE1.out).trans' HE2.out⟩
     rw [HRS.out, List.map_append]
     exact HO2.out
    case measure => simp [intOf]; omega
   ·rw [hout, if_pos rfl, List.append_nil] at hrs
    have HRS := Lib.hid hrs
    clear hrs hout
    go_wp2_with fail
    go_roundw
    case rel =>
     refine ⟨k + 1, by omega, by go_num, ?_, HE.out.trans' HE1.out⟩
     rw [HRS.out]
     have := HOW.out.ext HE1.out
     rwa [List.length_map, ← HON.out] at this
    case measure => simp [intOf]; omega
  ·have HE := Lib.hid hE
   have HOW := Lib.hid hown
   have HK := Lib.hid (show b.n.toNat = k by omega)
   obtain ⟨oa, on, oc, rfl⟩ := hown.isSlice
   clear hown hE
   go_wp2_with fail
   go_ret
   exact ⟨_, rfl, HE.out, by unfold runL; rw [HK.out]; exact HOW.out⟩
def onV (b : Bk) (fv : Int) (x : PB) : Option Spt :=
 if outB b x.f = false ∧ outB b x.s = false then some (x.f, x.s) else if single b = true ∧ b.fav = true then some (fv, -1) else none
theorem onP_eq (b : Bk) (x : PB) : onP b x = onV b (favP b) x := rfl
set_option maxRecDepth 100000 in
set_option maxHeartbeats 1000000 in
theorem on_any (b : Bk) (ba sa : Option Addr) (bcap scap : Nat) (fv : Int) (x : PB) (p : Nat) (w : World) (hb : BookAt w p b ba bcap sa scap) (h8 : w.cell? ⟨p, 8, none⟩ = some (.int .i64 fv)) (hs : IsInts w .i64 (.slice sa b.scr.length scap) b.scr) :
  Calls Try.prog 74 #[.pointer (some ⟨p, 0, none⟩), .agg #[.int .i64 x.f, .int .i64 x.s, .int .i64 x.u]] w fun e w' => e = .returned (.tuple #[.agg #[.int .i64 ((onV b fv x).getD (0, 0)).1, .int .i64 ((onV b fv x).getD (0, 0)).2], .bool (onV b fv x).isSome]) ∧ Ext w w' := by
 have H8 := Lib.hid h8
 have HB := Lib.hid hb
 have HS := Lib.hid hs
 clear hb h8 hs
 go_enter Try.func74, Try.ntmps74
 go_upto_region 1 with (fail)
 obtain ⟨W0, hW0⟩ : ∃ W0, W0 = (w.alloc (.cells #[.int .i64 x.f, .int .i64 x.s, .int .i64 x.u] 62)).alloc (.cells #[.int .i64 0, .int .i64 0] 110) := ⟨_, rfl⟩
 have hE : Ext w W0 := by rw [hW0]; exact xx
 have c0 : W0.cell? ⟨w.heap.size, 0, none⟩ = some (.int .i64 x.f) := by rw [hW0]; simp [go_sem]
 have c1 : W0.cell? ⟨w.heap.size, 1, none⟩ = some (.int .i64 x.s) := by rw [hW0]; simp [go_sem]
 have c2 : W0.cell? ⟨w.heap.size, 2, none⟩ = some (.int .i64 x.u) := by rw [hW0]; simp [go_sem]
 have d0 : W0.cell? ⟨w.heap.size + 1, 0, none⟩ = some (.int .i64 0) := by rw [hW0]; simp [go_sem]
 have d1 : W0.cell? ⟨w.heap.size + 1, 1, none⟩ = some (.int .i64 0) := by rw [hW0]; simp [go_sem]
 have hrow : W0.heap[w.heap.size + 1]? = some (.cells #[.int .i64 0, .int .i64 0] 110 (0, 0)) := by
  have := World.alloc_heap_new (w.alloc (.cells #[.int .i64 x.f, .int .i64 x.s, .int .i64 x.u] 62)) (.cells #[.int .i64 0, .int .i64 0] 110)
  simp only [World.size_alloc] at this
  rw [hW0]; exact this
 have df0 : W0.frozen? ⟨w.heap.size + 1, 0, none⟩ = false := by simp [World.frozen?, hrow]
 have df1 : W0.frozen? ⟨w.heap.size + 1, 1, none⟩ = false := by simp [World.frozen?, hrow]
 have hz1 : w.heap.size + 1 < W0.heap.size := World.block_lt_of_cell? _ _ d0
 have hzc : w.heap.size < W0.heap.size := by omega
 replace HS := Lib.hid (HS.out.ext hE)
 have hbk := HB.out.ext hE
 have k0 := (hbk).c0
 have k1 := (hbk).c1
 have k2 := (hbk).c2
 have k3 := (hbk).c3
 have k4 := (hbk).c4
 have k5 := (hbk).c5
 have k6 := (hbk).c6
 have k7 := (hbk).c7
 have hz := (hbk).lt
 have k8 := cell_ext hE H8.out
 have HW := Lib.hid hE
 rw [← hW0]
 clear hW0 hE hbk HB H8 hrow




 go_wp2_with fail
 refine callW (W0 := W0) (g := ⟨W0, Below.refl _ _⟩) xx (out_any b sa scap x.f p _ (cell_ext xx k3) (HS.out.ext xx)) fun g1 hgr => ?_
 clear hgr

 cases h1 : outB b x.f
 ·skip
  go_wp2_with fail
  refine callW (W0 := W0) (g := g1) xx (out_any b sa scap x.s p _ (cell_ext xx k3) (HS.out.ext xx)) fun g2 hgr => ?_
  clear hgr
  cases h2 : outB b x.s
  ·have E := Lib.hid (show onV b fv x = some (x.f, x.s) by unfold onV; rw [if_pos ⟨h1, h2⟩])
   clear h1 h2
   go_wp2_with fail
   refine bodyPost_ret (v := .tuple #[.agg #[.int .i64 x.f, .int .i64 x.s], .bool true]) (by simp [results, Try.results74, go_sem, d0, d1, hz1]) rfl ?_
   exact ⟨by rw [E.out]; rfl, ((HW.out.trans' (grow_below W0 _)).setCell (by simp only; omega) _).setCell (by simp only; omega) _⟩
  ·have E0 := Lib.hid (show ¬ (outB b x.f = false ∧ outB b x.s = false) by rw [h2]; simp)
   clear h1 h2
   go_wp2_with fail
   refine callW (W0 := W0) (g := g2) xx (single_any b ba sa bcap scap _) fun g3 hgr => ?_
   clear hgr
   cases h3 : single b
   ·have E := Lib.hid (show onV b fv x = none by unfold onV; rw [if_neg E0.out, if_neg (by rw [h3]; simp)])
    clear h3
    go_wp2_with fail
    refine bodyPost_ret (v := .tuple #[.agg #[.int .i64 0, .int .i64 0], .bool false]) (by simp [results, Try.results74, go_sem, d0, d1, hz1]) rfl ?_
    exact ⟨by rw [E.out]; rfl, ((HW.out.trans' (grow_below W0 _)).setCell (by simp only; omega) _).setCell (by simp only; omega) _⟩
   cases h4 : b.fav
   ·have E := Lib.hid (show onV b fv x = none by unfold onV; rw [if_neg E0.out, if_neg (by rw [h4]; simp)])
    rw [h4] at k4
    clear h3 h4
    go_wp2_with fail
    refine bodyPost_ret (v := .tuple #[.agg #[.int .i64 0, .int .i64 0], .bool false]) (by simp [results, Try.results74, go_sem, d0, d1, hz1]) rfl ?_
    exact ⟨by rw [E.out]; rfl, ((HW.out.trans' (grow_below W0 _)).setCell (by simp only; omega) _).setCell (by simp only; omega) _⟩
   have E := Lib.hid (show onV b fv x = some (fv, -1) by unfold onV; rw [if_neg E0.out, if_pos ⟨h3, h4⟩])
   rw [h4] at k4
   clear h3 h4
   go_wp2_with fail
   refine bodyPost_ret (v := .tuple #[.agg #[.int .i64 fv, .int .i64 (-1)], .bool true]) (by simp [results, Try.results74, go_sem, d0, d1, hz1]) rfl ?_
   exact ⟨by rw [E.out]; rfl, ((HW.out.trans' (grow_below W0 _)).setCell (by simp only; omega) _).setCell (by simp only; omega) _⟩

 ·have E0 := Lib.hid (show ¬ (outB b x.f = false ∧ outB b x.s = false) by rw [h1]; simp)
  clear h1
  go_wp2_with fail
  refine callW (W0 := W0) (g := g1) xx (single_any b ba sa bcap scap _) fun g4 hgr => ?_
  clear hgr
  cases h3 : single b
  ·have E := Lib.hid (show onV b fv x = none by unfold onV; rw [if_neg E0.out, if_neg (by rw [h3]; simp)])
   clear h3
   go_wp2_with fail
   refine bodyPost_ret (v := .tuple #[.agg #[.int .i64 0, .int .i64 0], .bool false]) (by simp [results, Try.results74, go_sem, d0, d1, hz1]) rfl ?_
   exact ⟨by rw [E.out]; rfl, ((HW.out.trans' (grow_below W0 _)).setCell (by simp only; omega) _).setCell (by simp only; omega) _⟩
  cases h4 : b.fav
  ·have E := Lib.hid (show onV b fv x = none by unfold onV; rw [if_neg E0.out, if_neg (by rw [h4]; simp)])
   rw [h4] at k4
   clear h3 h4
   go_wp2_with fail
   refine bodyPost_ret (v := .tuple #[.agg #[.int .i64 0, .int .i64 0], .bool false]) (by simp [results, Try.results74, go_sem, d0, d1, hz1]) rfl ?_
   exact ⟨by rw [E.out]; rfl, ((HW.out.trans' (grow_below W0 _)).setCell (by simp only; omega) _).setCell (by simp only; omega) _⟩
  have E := Lib.hid (show onV b fv x = some (fv, -1) by unfold onV; rw [if_neg E0.out, if_pos ⟨h3, h4⟩])
  rw [h4] at k4
  clear h3 h4
  go_wp2_with fail
  refine bodyPost_ret (v := .tuple #[.agg #[.int .i64 fv, .int .i64 (-1)], .bool true]) (by simp [results, Try.results74, go_sem, d0, d1, hz1]) rfl ?_
  exact ⟨by rw [E.out]; rfl, ((HW.out.trans' (grow_below W0 _)).setCell (by simp only; omega) _).setCell (by simp only; omega) _⟩
end Go.Proofs.Ytphajlldghcnnaa
namespace Go.Proofs.Ytphajlldghcnnaa
open Go.RowKit Go.Shelf Go.WideElems
section
variable {K V : Type} [DecidableEq K] {P : Program} {tm tk tv : TypeId} {ke : K → Value} {ve : V → Value}
theorem MapIs.entry' (hk : Keyed P tm tk tv ke ve) {W : World} {r : Nat} {F : K → Option V} (h : MapIs ke ve W r F) (k : K) {z : Value} (hz : ∀ w, (zeroValue tv).run P w = .ok z w) (vz : V) (hvz : ve vz = z) :
  ∃ (st : Nat) (es1 : Array MapEntry) (c1 : Nat), (Instr.mapEntry tm (.map (some r)) (ke k)).run P W = .ok (.tuple #[ve ((F k).getD vz), goInt st]) (W.putObj r (.map es1 c1)) ∧ MapIs ke ve (W.putObj r (.map es1 c1)) r (fun k' => if k' = k then some ((F k).getD vz) else F k') ∧
   ∀ (W2 : World) (v : V), W2.heap[r]? = some (.map es1 c1) → ∃ W3, (Instr.entryStore tm (.map (some r)) (goInt st) (ve v)).run P W2 = .ok () W3 ∧ W2.grownBy W3 (some r) ∧ W3.heap.size = W2.heap.size ∧ MapIs ke ve W3 r (fun k' => if k' = k then some v else F k') := by
 obtain ⟨es, c, hm, ho, hb, hF⟩ := h
 have hf := hk.find k es W
 rw [lookFrom_eq] at hf
 have hm' := hm
 unfold IsMap at hm'
 have hg : getE es k = F k := hF k
 unfold getE at hg
 rw [find_findIdx] at hg
 have fin : ∀ (W2 : World) (v : V), r < W2.heap.size → ∃ W3, W3 = W2.putObj r (.map ((updE k v c es).map (encE ke ve)).toArray (clockE k c es)) ∧ W2.grownBy W3 (some r) ∧ W3.heap.size = W2.heap.size ∧ MapIs ke ve W3 r (fun k' => if k' = k then some v else F k') := fun W2 v hl =>
  ⟨_, rfl, ⟨rfl, rfl, rfl, by simp, fun j hj hne => World.putObj_heap_other (fun e => hne (by rw [e]))⟩, by simp, _, _, World.putObj_heap_same hl, ho.upd k v c, hb.upd k v, fun k' => by rw [getE_upd, hF]⟩
 cases hi : es.findIdx? fun e => decide (e.1 = k) with
 | none =>
  rw [hi] at hf hg
  simp only [Option.bind_none, Option.map_none] at hf hg
  refine ⟨c, (es.map (encE ke ve)).toArray.push ⟨ke k, z, c⟩, c + 1, ?_, ?_, fun W2 v h2 => ?_⟩
  ·rw [← hg]
   simp [Instr.mapEntry, run_underlying hk.und, getObj, setObj, Sem.run, hm', hk.chk, hf, hz, World.putObj, hvz]
  ·have hl : r < W.heap.size := (Array.getElem?_eq_some_iff.1 hm').1
   have hU : updE k vz c es = es ++ [(k, vz, c)] := by unfold updE; rw [hi]
   have hC : clockE k c es = c + 1 := by unfold clockE; rw [hi]; rfl
   refine ⟨es ++ [(k, vz, c)], c + 1, ?_, hU ▸ ho.upd k vz c, by rw [← hU, ← hC]; exact hb.upd k vz, fun k' => ?_⟩
   ·unfold IsMap
    rw [World.putObj_heap_same hl]
    simp [encE, hvz]
   ·rw [← hU, getE_upd, hF, ← hg]; rfl
  ·obtain ⟨W3, e3, g1, g2, g3⟩ := fin W2 v (Array.getElem?_eq_some_iff.1 h2).1
   refine ⟨W3, ?_, g1, g2, g3⟩
   have hidx : ((es.map (encE ke ve)).toArray.push ⟨ke k, z, c⟩).findIdx? (fun e => ((e.born : Nat) : Int) == ((c : Nat) : Int)) = some es.length := by
    rw [findIdx_arr]
    have := findIdx_born (l := ((es.map (encE ke ve)).toArray.push ⟨ke k, z, c⟩).toList) (j := es.length) (e0 := ⟨ke k, z, c⟩) (by
     simp only [Array.toList_push, List.map_append, List.map_cons, List.map_nil, List.map_map]
     refine List.nodup_append.2 ⟨hb.1, by simp, fun a ha d hd e1 => ?_⟩
     simp only [List.mem_singleton] at hd
     obtain ⟨x, hx, rfl⟩ := List.mem_map.1 ha
     have := hb.2 x hx
     simp [encE] at e1
     omega) (by simp)
    exact this
   have hmod : ((es.map (encE ke ve)).toArray.push ⟨ke k, z, c⟩).modify es.length (fun e => { e with val := ve v }) = ((updE k v c es).map (encE ke ve)).toArray := by
    unfold updE
    rw [hi]
    apply Array.ext'
    rw [Array.toList_modify, Array.toList_push]
    have hl : es.length = (es.map (encE ke ve)).length := by simp
    rw [hl, modify_last]
    simp [encE]
   have hck : clockE k c es = c + 1 := by unfold clockE; rw [hi]; rfl
   rw [e3, hck, ← hmod]
   simp [Instr.entryStore, getObj, setObj, Sem.run, h2, asInt, asIntOf, goInt, World.putObj] at hidx ⊢
   simp [hidx]
 | some i =>
  rw [hi] at hf hg
  have hi' := hi
  rw [List.findIdx?_eq_some_iff_getElem] at hi'
  obtain ⟨hl, h1, _⟩ := hi'
  have h1' : es[i].1 = k := by simpa using h1
  simp only [Option.bind_some, List.getElem?_eq_getElem hl, Option.map_some] at hf hg
  have hky : (((es.map (encE ke ve)).toArray[i]?).map (·.key)).getD (ke k) = ke k := by
   simp [hl, encE, h1']
  have hky' : (Option.map ((fun x => x.key) ∘ encE ke ve) es[i]?).getD (ke k) = ke k := by simpa using hky
  have hst : (Instr.keyThatStays (ke k) (ke k)).run P W = .ok (ke k) W := by simp [Instr.keyThatStays, hk.stay]
  have hsame : ((es.map (encE ke ve)).modify i fun e => { e with key := ke k }) = es.map (encE ke ve) := by
   apply List.ext_getElem (by simp)
   intro j hj1 hj2
   simp only [List.getElem_modify, List.getElem_map]
   split
   ·rename_i e; subst e; simp [encE, h1']
   ·rfl
  refine ⟨es[i].2.2, (es.map (encE ke ve)).toArray, c, ?_, ?_, fun W2 v h2 => ?_⟩
  ·rw [← hg]
   simp [Instr.mapEntry, run_underlying hk.und, getObj, setObj, Sem.run, hm', hk.chk, hf, World.putObj]
   rw [hky', hst]
   simp [hm', hsame, hl, encE]
  ·have hlr : r < W.heap.size := (Array.getElem?_eq_some_iff.1 hm').1
   refine ⟨es, c, World.putObj_heap_same hlr, ho, hb, fun k' => ?_⟩
   rw [hF]
   show F k' = if k' = k then some ((F k).getD vz) else F k'
   by_cases e : k' = k
   ·rw [if_pos e, e, ← hg]; rfl
   ·rw [if_neg e]
  ·obtain ⟨W3, e3, g1, g2, g3⟩ := fin W2 v (Array.getElem?_eq_some_iff.1 h2).1
   refine ⟨W3, ?_, g1, g2, g3⟩
   have hidx : (es.map (encE ke ve)).toArray.findIdx? (fun e => ((e.born : Nat) : Int) == ((es[i].2.2 : Nat) : Int)) = some i := by
    rw [findIdx_arr]
    exact findIdx_born (l := (es.map (encE ke ve)).toArray.toList) (j := i) (e0 := encE ke ve es[i]) (by simpa [encE, Function.comp_def] using hb.1) (by simp [hl])
   have hmod : ((es.map (encE ke ve)).toArray).modify i (fun e => { e with val := ve v }) = ((updE k v c es).map (encE ke ve)).toArray := by
    unfold updE
    rw [hi]
    apply Array.ext'
    rw [Array.toList_modify]
    apply List.ext_getElem (by simp)
    intro j hj1 hj2
    simp only [List.getElem_modify, List.getElem_map]
    split
    ·rename_i e; subst e; simp [encE, h1']
    ·rfl
   have hck : clockE k c es = c := by unfold clockE; rw [hi]; rfl
   rw [e3, hck, ← hmod]
   simp [Instr.entryStore, getObj, setObj, Sem.run, h2, asInt, asIntOf, goInt, World.putObj] at hidx ⊢
   simp [hidx, h2, Sem.run]
end
end Go.Proofs.Ytphajlldghcnnaa
namespace Go.Proofs.Ytphajlldghcnnaa
open Go.RowKit Go.Shelf
def tailsB (md : Region.Mode) : List Oper → List Oper → Bool
 | _, [] => true
 | head, o :: tl => lastB md head.toArray o && o.guard.isNone && tailsB md (head ++ [o]) tl
section
variable {P : Program} {md : Region.Mode}
theorem wpAny_le {ops : Array Oper} {Q Q' : Exit → Act → World → Prop} (h : ∀ e a w, Q e a w → Q' e a w) : ∀ (fuel : Nat) (listed : Array Bool) (a : Act) (w : World), wpAny P md ops Q fuel listed a w → wpAny P md ops Q' fuel listed a w
 | 0, _, _, _, hh => ⟨hh.1, h _ _ _ hh.2⟩
 | fuel + 1, listed, a, w, hh => ⟨fun h0 => h _ _ _ (hh.1 h0), fun i hi => by
   have h2 := hh.2 i hi
   unfold wpOp at h2 ⊢
   split at h2
   ·rename_i ho; try simp only [ho]
    exact wpAny_le h fuel _ _ _ h2
   ·rename_i o ho
    try simp only [ho]
    split at h2
    ·rename_i hw
     rw [if_pos hw]
     rcases h2 with h2 | ⟨h2, a2, w2, h3⟩
     ·exact .inl (wp_monoQ (fun e a w _ hq => h e a w hq) (Oper.wp_mono (fun a w => wpAny_le h fuel _ a w) h2))
     ·exact .inr ⟨h2, a2, w2, h _ _ _ h3⟩
    ·rename_i hw; rw [if_neg hw]; exact wpAny_le h fuel _ _ _ h2⟩
theorem wpAny_tails {ops : Array Oper} {Q : Exit → Act → World → Prop} {a : Act} {w : World} : ∀ (tl head : List Oper), tailsB md head tl = true →
  wpAny P md head.toArray (Exit.then (fun a w => wpList P ops Q tl a w) Q) head.length (Array.replicate head.length false) a w → wpAny P md (head ++ tl).toArray Q (head ++ tl).length (Array.replicate (head ++ tl).length false) a w
 | [], head, _, h => by
  rw [List.append_nil]
  refine wpAny_le (fun e a w hq => ?_) _ _ _ _ h
  cases e <;> exact hq
 | o :: tl, head, hB, h => by
  simp only [tailsB, Bool.and_eq_true] at hB
  obtain ⟨⟨h1, h2⟩, h3⟩ := hB
  have e : head ++ o :: tl = (head ++ [o]) ++ tl := by simp
  rw [e]
  refine wpAny_tails (ops := ops) tl (head ++ [o]) h3 ?_
  have e1 : (head ++ [o]).toArray = head.toArray.push o := by simp
  have e2 : Array.replicate (head ++ [o]).length false = (Array.replicate head.length false).push false := by rw [List.length_append]; exact Array.replicate_succ
  rw [e1, e2, List.length_append]
  refine wpAny_snoc h1 _ _ _ _ (by simp) (fun j oj _ hl => by rw [getD_replicate] at hl; cases hl) ?_
  refine wpAny_le (fun e a w hq => ?_) _ _ _ _ h
  have hg : o.guard = none := by simpa using h2
  have hmq : ∀ e a w, e ≠ Exit.normal → Q e a w → Exit.then (fun a w => wpList P ops Q tl a w) Q e a w := fun e a w hne hq => by cases e <;> first | exact absurd rfl hne | exact hq
  cases e with
  | normal =>
   show wpOp P (head.toArray.push o) _ head.toArray.size _ a w
   have hq : wpList P ops Q (o :: tl) a w := hq
   unfold wpList at hq
   unfold wpOp
   have hi : (head.toArray.push o)[head.toArray.size]? = some o := by simp
   rw [hi]
   have hw : ∀ y, Region.wanted o y = true := fun y => by simp [Region.wanted, hg]
   simp only [hw, if_true] at hq ⊢
   rcases hq with hq | ⟨hq, a2, w2, h4⟩
   ·exact .inl (wp_monoQ (fun e a w hne hq => hmq e a w hne hq) hq)
   ·exact .inr ⟨hq, a2, w2, hmq _ _ _ (by simp) h4⟩
  | _ => exact hq
end
/-- the first k operations in any order, those behind them as they stand -/
theorem wp_region_rove_tails {P : Program} {id : Nat} {Q : Exit → Act → World → Prop} {a : Act} {w : World} {ls tl : List Oper} (k : Nat) (htl : ls.drop k = tl) (hT : tailsB .any (ls.take k) tl = true)
  (B : Nat) (hBw : B ≤ w.heap.size) (S : List Sq) (hd st keep ea : List Bool) (hm : P.follows .mixedOrders = true) (hB : relB (ls.take k) a.tmps.size = true)
  (hO : orderB (ls.take k) (ancL (ls.take k)) hd st = true) (hK : keepL (ls.take k).length (ancL (ls.take k)) hd st = keep) (hEa : earlyL (ls.take k).length (ancL (ls.take k)) st = ea) (hsl : st.length = (ls.take k).length) (hhd : S.map (·.hard) = hd ∧ usB (ls.take k) S = true)
  (hstep : StepsQ P w B (ls.take k) (fun i => S.getD i sqT) a (st.zip ea) (ls.take k) S)
  (D : List (Option Tmp)) (hDs : (ls.take k).map (·.dst) = D) (hlen : S.length = (ls.take k).length)
  (hend : ∀ (val : Nat → Value) (W : World), Below B w W → w.heap.size ≤ W.heap.size → AllQ keep S 0 val W → wpList P ls.toArray Q tl (putD D 0 val a) W) :
  (Code.region id ls.toArray true).wp P Q a w := by
 subst htl
 refine wp_region_any hm ?_
 have h := wpAny_tails (P := P) (ops := ls.toArray) (Q := Q) (a := a) (w := { w with drawn := w.drawn + 1 }) (ls.drop k) (ls.take k) hT
 rw [List.take_append_drop] at h
 refine h ?_
 have h5 := wpAny_of_L (Q := Exit.then (fun a w => wpList P ls.toArray Q (ls.drop k) a w) Q) _ _ _ _ (rove_any (Q := fun a w => wpList P ls.toArray Q (ls.drop k) a w) B hBw S hd st keep ea hB hO hK hEa hsl hhd hstep D hDs hlen hend)
 simpa using h5
end Go.Proofs.Ytphajlldghcnnaa
namespace Go.Proofs.Ytphajlldghcnnaa
open Go.RowKit Go.Shelf
/-- the block of sums -/
def SumB (W : World) (q : Nat) (f : Nat → Int) : Prop := ∃ cur : Array Value, W.heap[q]? = some (.cells cur 144 (0, 0)) ∧ cur.size = 8 ∧ ∀ j, j < 8 → cur[j]? = some (.int .i64 (f j))
theorem SumB.cell {W : World} {q : Nat} {f : Nat → Int} (h : SumB W q f) (j : Nat) (hj : j < 8) : W.cell? ⟨q, j, none⟩ = some (.int .i64 (f j)) := by
 obtain ⟨cur, h1, _, h2⟩ := h
 rw [cell_of_row _ _ _ _ _ _ h1]; exact h2 j hj
theorem SumB.free {W : World} {q : Nat} {f : Nat → Int} (h : SumB W q f) (o : Nat) : W.frozen? ⟨q, o, none⟩ = false := by
 obtain ⟨cur, h1, _, h2⟩ := h
 simp [World.frozen?, h1]
theorem SumB.lt {W : World} {q : Nat} {f : Nat → Int} (h : SumB W q f) : q < W.heap.size := by
 obtain ⟨cur, h1, _, h2⟩ := h
 exact (Array.getElem?_eq_some_iff.1 h1).1
theorem SumB.set {W : World} {q : Nat} {f : Nat → Int} (h : SumB W q f) (i : Nat) (x : Int) : SumB (W.setCell ⟨q, i, none⟩ (.int .i64 x)) q (fun j => if j = i then x else f j) := by
 obtain ⟨cur, h1, hn, h2⟩ := h
 refine ⟨_, heap_setCell_row h1 i _, by simpa using hn, fun j hj => ?_⟩
 by_cases e : j = i
 ·subst e
  rw [set_on _ (by omega)]; simp
 ·rw [set_off _ (fun h => e h.symm), h2 j hj]; simp [e]
theorem SumB.of_heap {W W' : World} {q : Nat} {f : Nat → Int} (h : SumB W q f) (e : W'.heap[q]? = W.heap[q]?) : SumB W' q f := by
 obtain ⟨cur, h1, h2⟩ := h
 exact ⟨cur, e.trans h1, h2⟩
theorem SumB.congr {W : World} {q : Nat} {f f' : Nat → Int} (h : SumB W q f) (e : ∀ j, j < 8 → f j = f' j) : SumB W q f' := by
 obtain ⟨cur, h1, h2, h3⟩ := h
 exact ⟨cur, h1, h2, fun j hj => by rw [h3 j hj, e j hj]⟩
set_option maxHeartbeats 400000 in
theorem worth_any (r : Nat) (q : Nat) (f : Nat → Int) (w : World) (hr : r < 8) (h : SumB w q f) :
  Calls Try.prog 102 #[.int .i64 r, .pointer (some ⟨q, 0, none⟩)] w fun e w' => e = .returned (.int .i64 (f r)) ∧ Ext w w' := by
 have c := h.cell r hr
 have hri : (r : Int) < 8 := by omega
 have hz := h.lt
 clear h
 go_enter Try.func102, Try.ntmps102
 go_wp2_with fail
 go_ret
 exact ⟨rfl, Below.refl _ _⟩
set_option maxHeartbeats 4000000 in
theorem equal8 (n : Nat) (a0 a1 a2 a3 a4 a5 a6 a7 : Int) (w : World) : (Op.equalIn (n + 2) 144 (.agg #[.int .i64 a0, .int .i64 a1, .int .i64 a2, .int .i64 a3, .int .i64 a4, .int .i64 a5, .int .i64 a6, .int .i64 a7]) (.agg #[.int .i64 0, .int .i64 0, .int .i64 0, .int .i64 0, .int .i64 0, .int .i64 0, .int .i64 0, .int .i64 0])).run Try.prog w = .ok (a0 == 0 && (a1 == 0 && (a2 == 0 && (a3 == 0 && (a4 == 0 && (a5 == 0 && (a6 == 0 && (a7 == 0)))))))) w := by
 have hi : ∀ x y : Int, ∀ w, (Op.equalIn (n + 1) 2 (.int .i64 x) (.int .i64 y)).run Try.prog w = .ok (x == y) w := fun x y w => run_equalIn_int w n 2 .i64 .i64 x y (by kernel_rfl)
 rw [Op.equalIn]
 simp only [Sem.run_bind, Try.runUnderlying144, Result.andThen_ok]
 have hr : List.range' 0 8 = [0, 1, 2, 3, 4, 5, 6, 7] := rfl
 by_cases e0 : a0 = 0
 ·by_cases e1 : a1 = 0
  ·by_cases e2 : a2 = 0
   ·by_cases e3 : a3 = 0
    ·by_cases e4 : a4 = 0
     ·by_cases e5 : a5 = 0
      ·by_cases e6 : a6 = 0
       ·by_cases e7 : a7 = 0
        ·simp [go_sem, hi, hr, e0, e1, e2, e3, e4, e5, e6, e7]
        ·simp [go_sem, hi, hr, e0, e1, e2, e3, e4, e5, e6, e7]
       ·simp [go_sem, hi, hr, e0, e1, e2, e3, e4, e5, e6]
      ·simp [go_sem, hi, hr, e0, e1, e2, e3, e4, e5]
     ·simp [go_sem, hi, hr, e0, e1, e2, e3, e4]
    ·simp [go_sem, hi, hr, e0, e1, e2, e3]
   ·simp [go_sem, hi, hr, e0, e1, e2]
  ·simp [go_sem, hi, hr, e0, e1]
 ·simp [go_sem, hi, hr, e0]
theorem neq8 (f : Nat → Int) (r : Bool) (hr : r = (f 0 == 0 && (f 1 == 0 && (f 2 == 0 && (f 3 == 0 && (f 4 == 0 && (f 5 == 0 && (f 6 == 0 && (f 7 == 0))))))))) (W : World) : (binOp .neq 144 (.agg #[.int .i64 (f 0), .int .i64 (f 1), .int .i64 (f 2), .int .i64 (f 3), .int .i64 (f 4), .int .i64 (f 5), .int .i64 (f 6), .int .i64 (f 7)]) (.agg #[.int .i64 0, .int .i64 0, .int .i64 0, .int .i64 0, .int .i64 0, .int .i64 0, .int .i64 0, .int .i64 0])).run Try.prog W = .ok (.bool (!r)) W := by
 have := equal8 9998 (f 0) (f 1) (f 2) (f 3) (f 4) (f 5) (f 6) (f 7) W
 rw [← hr] at this
 simp [binOp, Op.equal, Op.maxDepth, go_sem, this]
theorem mostL_take (g : Int → Int) {l : List Int} {k : Nat} (h : k < l.length) (a : Int) : mostL g a (l.take (k + 1)) = if g (mostL g a (l.take k)) < g l[k] then l[k] else mostL g a (l.take k) := by
 induction l generalizing a k with
 | nil => simp at h
 | cons x l ih =>
  cases k with
  | zero => simp [mostL]
  | succ k => rw [List.take_succ_cons, List.take_succ_cons, mostL, mostL, ih (by simpa using h)]; simp
set_option maxRecDepth 100000 in
set_option maxHeartbeats 1000000 in
theorem most_any (l : List Int) (lv : Value) (q : Nat) (f : Nat → Int) (g : Int → Int) (w : World) (hl : IsInts w .i64 lv l) (h0 : 0 < l.length) (hb : ∀ x ∈ l, 0 ≤ x ∧ x < 8) (hg : ∀ j : Nat, j < 8 → g j = f j) (h : SumB w q f) :
  Calls Try.prog 101 #[lv, .func (.func 102) #[] #[.pointer (some ⟨q, 0, none⟩)]] w fun e w' => e = .returned (.int .i64 (mostL g (l.headD 0) l)) ∧ Ext w w' := by
 obtain ⟨la, cap, rfl, h1, h2, hc⟩ := hl.spec
 rcases hc with hc | ⟨b, off, rfl, hc⟩
 ·rw [hc] at h0; simp at h0
 have HC := Lib.hid hc
 have HSM := Lib.hid h
 have HB := Lib.hid hb
 have HG := Lib.hid hg
 have c00 := hc 0 h0
 rw [Nat.add_zero] at c00
 have hz := World.block_lt_of_cell? _ _ c00
 simp only at hz
 have hd0 : l.headD 0 = l[0] := by cases l with
  | nil => simp at h0
  | cons a l => rfl
 obtain ⟨hd, hhd⟩ : ∃ x, x = l.headD 0 := ⟨_, rfl⟩
 rw [← hhd]
 have HD := Lib.hid (hhd.trans hd0)
 clear hhd
 have h0i : (0 : Int) < (l.length : Int) := by omega
 have worth : ∀ (x : Int), 0 ≤ x → x < 8 → ∀ W, Ext w W → Calls Try.prog 102 #[.int .i64 x, .pointer (some ⟨q, 0, none⟩)] W fun e w' => e = .returned (.int .i64 (g x)) ∧ Ext W w' := fun x hx0 hx8 W hE => by
  obtain ⟨r, rfl⟩ : ∃ r : Nat, x = r := ⟨x.toNat, by omega⟩
  rw [HG.out r (by omega)]
  exact worth_any r q f W (by omega) (HSM.out.of_heap (hE.block _ HSM.out.lt))
 have WO := Lib.hid worth
 clear hl hc h hb hg hd0 worth
 go_enter Try.func101, Try.ntmps101
 go_wp2_with fail
 clear c00
 go_loopw [5, 7, 13] (fun ov _ iv W => ∃ k : Nat, k ≤ l.length ∧ iv = .int .i64 k ∧ ov = .int .i64 (mostL g l[0] (l.take k)) ∧ Ext w W) (fun _ _ iv _ => l.length - (intOf iv).toNat)
 case atStart => exact ⟨0, by omega, rfl, rfl, Below.refl _ _⟩
 case round =>
  obtain ⟨k, hk, rfl, rfl, hE⟩ := hrel
  by_cases hlt : k < l.length
  ·have hki : (k : Int) < (l.length : Int) := by omega
   have c0 := cell_ext hE (HC.out k hlt)
   have hzr := World.block_lt_of_cell? _ _ c0
   simp only at hzr
   have hmt := mostL_take g hlt l[0]
   have hxb := HB.out l[k] (List.getElem_mem hlt)
   have hob : 0 ≤ mostL g l[0] (l.take k) ∧ mostL g l[0] (l.take k) < 8 := by
    rcases mostL_mem g (l.take k) l[0] with e | e
    ·rw [e]; exact HB.out _ (List.getElem_mem h0)
    ·exact HB.out _ (List.mem_of_mem_take e)
   obtain ⟨x, hx⟩ : ∃ x, x = l[k] := ⟨_, rfl⟩
   obtain ⟨o, ho⟩ : ∃ o, o = mostL g l[0] (l.take k) := ⟨_, rfl⟩
   rw [← hx, ← ho] at hmt
   rw [← hx] at c0 hxb
   rw [← ho] at hob ⊢
   have HMT := Lib.hid hmt
   have HE := Lib.hid hE
   clear hE hmt hx ho
   go_wp2_with fail
   refine (WO.out x hxb.1 hxb.2 _ HE.out).mono ?_
   rintro e W1 ⟨rfl, hE1⟩
   have HE1 := Lib.hid (HE.out.trans' hE1)
   clear hE1 c0 hzr
   go_wp2_with fail
   refine (WO.out o hob.1 hob.2 _ HE1.out).mono ?_
   rintro e W2 ⟨rfl, hE2⟩
   have HE2 := Lib.hid (HE1.out.trans' hE2)
   clear hE2
   obtain ⟨gx, hgx⟩ : ∃ gx, gx = g x := ⟨_, rfl⟩
   obtain ⟨go, hgo⟩ : ∃ go, go = g o := ⟨_, rfl⟩
   rw [← hgx, ← hgo]
   have HM := HMT.out
   rw [← hgx, ← hgo] at HM
   have HM2 := Lib.hid HM
   clear HM hgx hgo
   by_cases hlt2 : go < gx
   ·have e := HM2.out
    rw [if_pos hlt2] at e
    have HEE := Lib.hid e
    clear e
    go_wp2_with fail
    go_roundw
    case rel => exact ⟨k + 1, by omega, by go_num, by rw [HEE.out], HE2.out⟩
    case measure => simp [intOf]; omega
   ·have e := HM2.out
    rw [if_neg hlt2] at e
    have HEE := Lib.hid e
    clear e
    go_wp2_with fail
    go_roundw
    case rel => exact ⟨k + 1, by omega, by go_num, by rw [HEE.out], HE2.out⟩
    case measure => simp [intOf]; omega
  ·have hki : ¬ ((k : Int) < (l.length : Int)) := by omega
   have HE := Lib.hid hE
   have HK := Lib.hid (show k = l.length by omega)
   obtain ⟨o, ho⟩ : ∃ o, o = mostL g l[0] (l.take k) := ⟨_, rfl⟩
   rw [← ho]
   have HO := Lib.hid ho
   clear hE ho
   go_wp2_with fail
   go_ret
   exact ⟨ret_int (by rw [HO.out, HD.out, HK.out, List.take_length]), HE.out⟩
end Go.Proofs.Ytphajlldghcnnaa
namespace Go.Proofs.Ytphajlldghcnnaa
open Go.RowKit Go.Shelf
/-- what holds when some operations have been carried out -/
def RInvJ (J : World → Prop) (w : World) (B : Nat) (ls : List Oper) (S : Nat → Sq) (A : List (List Nat)) (hd st : List Bool) (a : Act) (listed : Array Bool) (a' : Act) (W : World) : Prop :=
 Below B w W ∧ J W ∧ DownC ls listed ∧ ((∀ k, k < ls.length → listed.getD k false = true → st.getD k false = false) → Ext w W) ∧ ∃ val : Nat → Value, (∀ j, j < ls.length → listed.getD j false = true → Alive ls.length A hd st listed j → (S j).p ((S j).us.map val) (val j) W) ∧ a'.defers = a.defers ∧ a'.tmps.size = a.tmps.size ∧
  (∀ j s, dstOf ls j = some s → listed.getD j false = true → a'.tmps[s]? = some (val j)) ∧ (∀ s, (∀ j, listed.getD j false = true → dstOf ls j ≠ some s) → a'.tmps[s]? = a.tmps[s]?)
/-- what an operation may do to the world -/
def EffJ (J : World → Prop) (B : Nat) (strong : Bool) (W W' : World) : Prop := if strong then Below B W W' ∧ J W' else Ext W W'
/-- one operation, carried out once: what it yields -/
def RunJ (J : World → Prop) (P : Program) (B : Nat) (strong : Bool) (o : Oper) (ρ : Operand → Value) (W : World) (val : Nat → Value) (s : Sq) : Prop :=
 match (execOp ρ o).run P W with
 | .ok (.value v) W' => EffJ J B strong W W' ∧ s.p (s.us.map val) (match o.dst with | some _ => v | none => undef) W'
 | .ok .skip W' => EffJ J B strong W W' ∧ s.p (s.us.map val) undef W'
 | .ok (.enter f args) W' => Calls P f args W' fun e W'' => ∃ v, e = .returned v ∧ EffJ J B strong W W'' ∧ s.p (s.us.map val) (match o.dst with | some _ => v | none => undef) W''
 | _ => False
def StepJ (J : World → Prop) (P : Program) (w : World) (B : Nat) (ls : List Oper) (S : Nat → Sq) (a : Act) (strong early : Bool) (o : Oper) (s : Sq) : Prop :=
 ∀ (val : Nat → Value) (ρ : Operand → Value) (W : World), Below B w W → J W → w.heap.size ≤ W.heap.size → (∀ j ∈ usesOf ls o, (S j).p ((S j).us.map val) (val j) W) → Holds ls a o val ρ → (early = true → Ext w W) → RunJ J P B strong o ρ W val s
theorem EffJ.below {J : World → Prop} {B : Nat} {s : Bool} {W W' : World} (h : EffJ J B s W W') (hB : B ≤ W.heap.size) : Below B W W' := by
 unfold EffJ at h
 cases s
 ·exact h.mono hB
 ·exact h.1
theorem EffJ.keeps {J : World → Prop} (hm : ∀ W W', J W → Ext W W' → J W') {B : Nat} {s : Bool} {W W' : World} (h : EffJ J B s W W') (hJ : J W) : J W' := by
 unfold EffJ at h
 cases s
 ·exact hm _ _ hJ h
 ·exact h.2
theorem roveJ {J : World → Prop} (hJm : ∀ W W', J W → Ext W W' → J W') {P : Program} {w : World} {B : Nat} (hBw : B ≤ w.heap.size) {ls : List Oper} {S : Nat → Sq} {A : List (List Nat)} {hd st : List Bool} {a : Act} {Q : Act → World → Prop} (hB : relB ls a.tmps.size = true) (hO : orderB ls A hd st = true)
  (hhd : ∀ j, hd.getD j true = true → (S j).hard = true) (hus : ∀ i o, ls[i]? = some o → ∀ k ∈ (S i).us, k ∈ depsOf o)
  (hstep : ∀ i o, ls[i]? = some o → StepJ J P w B ls S a (st.getD i false) ((earlyL ls.length A st).getD i false) o (S i))
  (hend : ∀ (val : Nat → Value) (W : World), Below B w W → J W → (∀ j, j < ls.length → (∀ k, k < ls.length → killB A hd st k j = false) → (S j).p ((S j).us.map val) (val j) W) → Q (frameOf ls val a (List.range ls.length)) W) :
  ∀ (fuel : Nat) (listed : Array Bool) (a' : Act) (W : World), listed.size = ls.length → (List.range ls.length).countP (fun j => !listed.getD j false) ≤ fuel → w.heap.size ≤ W.heap.size → RInvJ J w B ls S A hd st a listed a' W →
   wpAnyL P .any ls.toArray Q fuel listed a' W := by
 simp only [orderB, Bool.and_eq_true] at hO
 obtain ⟨hA, hO⟩ := hO
 have fin : ∀ (listed : Array Bool) (a' : Act) (W : World), listed.size = ls.length → RInvJ J w B ls S A hd st a listed a' W → (∀ j, j < ls.length → listed.getD j false = true) → Q a' W := by
  intro listed a' W hs ⟨hE, hJW, hc, _, val, h1, h2, h3, h4, h5⟩ hall
  have e : a' = frameOf ls val a (List.range ls.length) := by
   refine act_ext (by rw [h2, frame_defers]) (by rw [h3, frame_size]) fun s => ?_
   by_cases hx : ∃ j, j < ls.length ∧ dstOf ls j = some s
   ·obtain ⟨j, hj, hd⟩ := hx
    have hj' : ls[j]? = some ls[j] := List.getElem?_eq_getElem hj
    have hR := relB_at hB hj'
    have hdst : ls[j].dst = some s := by unfold dstOf at hd; rw [hj'] at hd; exact hd
    rw [h4 j s hd (hall j hj), frame_on val hd _ _ (fun k hk hd2 => ?_) (hR.d s hdst) (.inl (List.mem_range.2 hj))]
    by_cases hkj : k = j
    ·exact hkj
    ·exact absurd hd2 (hR.ne k (List.mem_range.1 hk) hkj s hdst)
   ·rw [h5 s fun j hl hd => hx ⟨j, ?_, hd⟩, frame_off ls val _ _ fun j hj hd => hx ⟨j, List.mem_range.1 hj, hd⟩]
    unfold dstOf at hd
    rcases Nat.lt_or_ge j ls.length with hj | hj
    ·exact hj
    ·rw [List.getElem?_eq_none hj] at hd; cases hd
  rw [e]
  exact hend val W hE hJW fun j hj hk => h1 j hj (hall j hj) fun k hkl _ => hk k hkl
 have allL : ∀ (listed : Array Bool), listed.size = ls.length → Region.ready .any ls.toArray listed = [] → ∀ j, j < ls.length → listed.getD j false = true := by
  intro listed hs h0 j
  induction j using Nat.strongRecOn with
  | _ j ih =>
   intro hj
   cases hl : listed.getD j false with
   | true => rfl
   | false =>
    exfalso
    have hj' : ls[j]? = some ls[j] := List.getElem?_eq_getElem hj
    have hR := relB_at hB hj'
    have hin : j ∈ Region.ready .any ls.toArray listed := by
     refine mem_ready.2 ⟨?_, ls[j], by simp [hj], fun e he hb => ?_⟩
     ·have hjs : j < listed.size := by omega
      simp [hjs] at hl ⊢
      exact hl
     ·have hd : e.on ∈ depsOf ls[j] := List.mem_map.2 ⟨e, List.mem_filter.2 ⟨by simpa using he, hb⟩, rfl⟩
      have hlt := hR.dep _ hd
      exact ih _ hlt (by omega)
    rw [h0] at hin
    cases hin
 have step : ∀ (listed : Array Bool) (a' : Act) (W : World) (i : Nat) (K : Act → World → Prop), listed.size = ls.length → w.heap.size ≤ W.heap.size → RInvJ J w B ls S A hd st a listed a' W → i ∈ Region.ready .any ls.toArray listed →
   (∀ a2 W2, w.heap.size ≤ W2.heap.size → RInvJ J w B ls S A hd st a (listed.setIfInBounds i true) a2 W2 → K a2 W2) → wpOpL P ls.toArray i K a' W := by
  intro listed a' W i K hs hsz0 ⟨hE, hJW, hc, hx0, val, h1, h2, h3, h4, h5⟩ hi hK
  obtain ⟨hl, o, ho, hdeps⟩ := mem_ready.1 hi
  have ho' : ls[i]? = some o := by simpa using ho
  have hilt : i < ls.length := (List.getElem?_eq_some_iff.1 ho').1
  have hR := relB_at hB ho'
  have hdl : ∀ j ∈ depsOf o, listed.getD j false = true := fun j hj => by
   obtain ⟨e, he, rfl⟩ := List.mem_map.1 hj
   obtain ⟨he1, he2⟩ := List.mem_filter.1 he
   exact hdeps e (by simpa using he1) he2
  have hilf : listed.getD i false = false := by
   have : i < listed.size := by omega
   simp [this] at hl ⊢
   exact hl
  have hnl : ∀ {b : Prop}, listed.getD i false = true → b := fun h => by rw [hilf] at h; cases h
  have hanc := anc_listed hB hA hc
  have hev : ∀ x ∈ o.op.operands, a'.eval x = (frameOf ls val a (depsOf o)).eval x := fun x hx => by
   cases x with
   | tmp s =>
    have hh : a'.tmps[s]? = (frameOf ls val a (depsOf o)).tmps[s]? := by
     rcases hR.x s hx with ⟨j, hj, hd⟩ | hno
     ·have hji := hR.dep j hj
      have hj' : ls[j]? = some (ls[j]'(by omega)) := List.getElem?_eq_getElem (by omega)
      have hRj := relB_at hB hj'
      have hdst : (ls[j]'(by omega)).dst = some s := by unfold dstOf at hd; rw [hj'] at hd; exact hd
      rw [h4 j s hd (hdl j hj), frame_on val hd _ _ (fun k hk hd2 => ?_) (hRj.d s hdst) (.inl hj)]
      by_cases hkj : k = j
      ·exact hkj
      ·exact absurd hd2 (hRj.ne k (by have := hR.dep k hk; omega) hkj s hdst)
     ·rw [h5 s fun j hl hd => ?_, frame_off ls val _ _ fun j hj => hno j (by have := hR.dep j hj; omega)]
      rcases Nat.lt_or_ge j ls.length with hj | hj
      ·exact hno j hj hd
      ·unfold dstOf at hd; rw [List.getElem?_eq_none hj] at hd; cases hd
    simp only [Act.eval, Array.getD_eq_getD_getElem?, hh]
   | _ => rfl
  have hx := execOp_congr o hR.s hev
  have hH : Holds ls a o val (frameOf ls val a (depsOf o)).eval := by
   refine ⟨fun j hj t ht => ?_, fun t ht => ?_, fun _ => rfl, fun _ => rfl⟩
   ·have hji := hR.dep j hj
    have hj' : ls[j]? = some (ls[j]'(by omega)) := List.getElem?_eq_getElem (by omega)
    have hRj := relB_at hB hj'
    have hdst : (ls[j]'(by omega)).dst = some t := by unfold dstOf at ht; rw [hj'] at ht; exact ht
    have := frame_on val ht (depsOf o) a (fun k hk hd2 => by
     by_cases hkj : k = j
     ·exact hkj
     ·exact absurd hd2 (hRj.ne k (by have := hR.dep k hk; omega) hkj t hdst)) (hRj.d t hdst) (.inl hj)
    simp [Act.eval, Array.getD_eq_getD_getElem?, this]
   ·have := frame_off ls val (depsOf o) a (fun j hj => ht j hj)
    simp only [Act.eval, Array.getD_eq_getD_getElem?, this]
  have hdepS : ∀ j ∈ usesOf ls o, (S j).p ((S j).us.map val) (val j) W := fun j hju => by
   have hj : j ∈ depsOf o := (List.mem_filter.1 hju).1
   refine h1 j (by have := hR.dep j hj; omega) (hdl j hj) fun k hk hlk => ?_
   cases hkl : killB A hd st k j with
   | false => rfl
   | true =>
    have q := List.all_eq_true.1 hO i (List.mem_range.2 hilt)
    rw [ho'] at q
    have q2 := List.all_eq_true.1 (List.all_eq_true.1 q j hju) k (List.mem_range.2 hk)
    rw [hkl] at q2
    simp only [Bool.not_true, Bool.false_or, Bool.or_eq_true] at q2
    rcases q2 with q2 | q2
    ·have : k = i := by simpa using q2
     subst this; exact hnl hlk
    ·exact hnl (hanc k hk hlk i (by simpa using q2))
  have hw := hstep i o ho' val _ W hE hJW hsz0 hdepS hH fun he => hx0 fun k hk hlk => by
   simp only [earlyL, List.getD_eq_getElem?_getD, List.getElem?_map, List.getElem?_range hilt, Option.map_some, Option.getD_some] at he
   have q := List.all_eq_true.1 he k (List.mem_range.2 hk)
   simp only [Bool.or_eq_true, Bool.not_eq_true'] at q
   rcases q with (q | q) | q
   ·simpa [List.getD_eq_getElem?_getD] using q
   ·have : k = i := by simpa using q
    subst this; exact hnl hlk
   ·exact hnl (hanc k hk hlk i (by simpa [List.getD_eq_getElem?_getD] using q))
  have hwant : ∀ y, Region.wanted o y = true := fun y => by simp [Region.wanted, hR.g]
  unfold wpOpL
  rw [ho]
  simp only
  rw [if_pos (hwant _)]
  have hupd : ∀ (j : Nat) (oj : Oper), ls[j]? = some oj → (listed.getD j false = true ∨ j = i) → (S j).us.map (fun k => if k = i then (match o.dst with | some _ => undef | none => undef) else val k) = (S j).us.map val ∧ ∀ u : Value, (S j).us.map (fun k => if k = i then u else val k) = (S j).us.map val := fun j oj hj hlj => by
   have key : ∀ u : Value, (S j).us.map (fun k => if k = i then u else val k) = (S j).us.map val := fun u => List.map_congr_left fun k hk => by
    have hkd := hus j oj hj k hk
    have hkl : listed.getD k false = true := by
     rcases hlj with h | rfl
     ·exact hc j oj hj h k hkd
     ·rw [ho'] at hj; cases hj; exact hdl k hkd
    have : k ≠ i := fun e => by subst e; exact hnl hkl
    rw [if_neg this]
   exact ⟨key _, key⟩
  have next : ∀ v W', EffJ J B (st.getD i false) W W' → (S i).p ((S i).us.map val) (match o.dst with | some _ => v | none => undef) W' → K (a'.put o.dst v) W' := fun v W' hE' hS => by
   have hsz1 : W.heap.size ≤ W'.heap.size := by
    unfold EffJ at hE'
    split at hE'
    ·exact hE'.1.size
    ·exact hE'.size
   refine hK _ _ (by omega) ⟨hE.trans (hE'.below (by omega)), hE'.keeps hJm hJW, fun j oj hj hlj d hd => ?_, fun hns => ?_, fun j => if j = i then (match o.dst with | some _ => v | none => undef) else val j, fun j hj hlj hal => ?_, by rw [put_defers, h2], by rw [put_size, h3], fun j s hd hlj => ?_, fun s hno => ?_⟩
   ·by_cases hji : j = i
    ·subst hji
     rw [ho'] at hj
     cases hj
     exact getD_set_true (hdl d hd)
    ·rw [getD_set_ne false (Ne.symm hji)] at hlj
     exact getD_set_true (hc j oj hj hlj d hd)
   ·have hst := hns i hilt (by simp [hs, hilt])
    rw [hst] at hE'
    exact (hx0 fun k hk hlk => hns k hk (getD_set_true hlk)).trans' hE'
   ·by_cases hji : j = i
    ·subst hji; rw [(hupd j o ho' (.inr rfl)).2]; simp only [if_true]; exact hS
    ·rw [getD_set_ne false (Ne.symm hji)] at hlj
     rw [(hupd j _ (List.getElem?_eq_getElem hj) (.inl hlj)).2]
     simp only [hji, if_false]
     have hold := h1 j hj hlj fun k hk hlk => hal k hk (getD_set_true hlk)
     have hki := hal i hilt (by simp [hs, hilt])
     cases hst : st.getD i false with
     | false =>
      rw [hst] at hE'
      exact (S j).m _ _ _ _ hold hE'
     | true =>
      unfold killB at hki
      rw [hst] at hki
      have hij : (i == j) = false := by simpa using fun h => hji h.symm
      rw [hij] at hki
      simp only [Bool.true_and, Bool.not_false, Bool.and_true, Bool.and_eq_false_iff, Bool.not_eq_false'] at hki
      rcases hki with hki | hki
      ·exact (S j).hm (hhd j hki) _ _ _ _ hold
      ·exact hnl (hanc j hj hlj i (by simpa using hki))
   ·by_cases hji : j = i
    ·subst hji
     have hdst : o.dst = some s := by unfold dstOf at hd; rw [ho'] at hd; exact hd
     simp only [if_true, hdst]
     exact put_on _ _ (by rw [h3]; exact hR.d s hdst)
    ·rw [getD_set_ne false (Ne.symm hji)] at hlj
     simp only [hji, if_false]
     rw [put_off, h4 j s hd hlj]
     intro hdst
     rcases Nat.lt_or_ge j ls.length with hj | hj
     ·exact hR.ne j hj hji s hdst hd
     ·unfold dstOf at hd; rw [List.getElem?_eq_none hj] at hd; cases hd
   ·have hoi : o.dst ≠ some s := by
     have := hno i (by simp [hs, hilt])
     unfold dstOf at this
     rw [ho'] at this
     exact this
    rw [put_off _ _ hoi, h5 s fun j hlj => hno j (getD_set_true hlj)]
  unfold RunJ at hw
  unfold wpL1
  rw [hx]
  generalize (execOp (frameOf ls val a (depsOf o)).eval o).run P W = r at *
  cases r with
  | ok x W' =>
   cases x <;> simp only at hw ⊢
   case value v => exact next v W' hw.1 hw.2
   case skip => exact next undef W' hw.1 (by cases o.dst <;> exact hw.2)
   case enter f args =>
    refine Calls.mono hw fun e W'' ⟨v, he, q1, q2⟩ => ?_
    subst he
    exact ⟨v, rfl, next v W'' q1 q2⟩
  | halt x W' => cases hw
 intro fuel
 induction fuel with
 | zero =>
  intro listed a' W hs hf hz hW
  have hall : ∀ j, j < ls.length → listed.getD j false = true := fun j hj => by
   have h0 : (List.range ls.length).countP (fun j => !listed.getD j false) = 0 := by omega
   rw [List.countP_eq_zero] at h0
   have := h0 j (List.mem_range.2 hj)
   simpa using this
  refine ⟨?_, fin listed a' W hs hW hall⟩
  rcases hr : Region.ready .any ls.toArray listed with _ | ⟨k, rs⟩
  ·rfl
  ·exfalso
   have hk : k ∈ Region.ready .any ls.toArray listed := by rw [hr]; simp
   obtain ⟨g1, ok, g2, _⟩ := mem_ready.1 hk
   have hlt : k < ls.length := by have := (Array.getElem?_eq_some_iff.1 g2).1; simpa using this
   have hka := hall k hlt
   have : k < listed.size := by omega
   simp [this] at g1 hka
   rw [g1] at hka
   cases hka
 | succ fuel ih =>
  intro listed a' W hs hf hz hW
  refine ⟨fun h0 => fin listed a' W hs hW (allL listed hs h0), fun i hi => ?_⟩
  refine step listed a' W i _ hs hz hW hi fun a2 W2 hz2 hW2 => ih _ a2 W2 (by simpa using hs) ?_ hz2 hW2
  obtain ⟨hl, o, ho, _⟩ := mem_ready.1 hi
  have hilt : i < ls.length := by have := (Array.getElem?_eq_some_iff.1 ho).1; simpa using this
  have his : i < listed.size := by omega
  have hcnt := countP_off (fun j => !listed.getD j false) (fun j => !(listed.setIfInBounds i true).getD j false) i ls.length (fun j hj => by rw [getD_set_ne false (Ne.symm hj)]) (by simp [his] at hl ⊢; exact hl) (by simp [his]) hilt
  omega
def StepsJ (J : World → Prop) (P : Program) (w : World) (B : Nat) (ls : List Oper) (S : Nat → Sq) (a : Act) : List (Bool × Bool) → List Oper → List Sq → Prop
 | _, [], _ => True
 | _, _ :: _, [] => False
 | [], _ :: _, _ :: _ => False
 | b :: bs, o :: os, s :: ss => StepJ J P w B ls S a b.1 b.2 o s ∧ StepsJ J P w B ls S a bs os ss
theorem StepsJ.at {J : World → Prop} {P : Program} {w : World} {B : Nat} {ls : List Oper} {S : Nat → Sq} {a : Act} : ∀ {st : List (Bool × Bool)} {os : List Oper} {ss : List Sq}, StepsJ J P w B ls S a st os ss → ∀ {j : Nat} {o : Oper}, os[j]? = some o → StepJ J P w B ls S a (st.getD j (false, false)).1 (st.getD j (false, false)).2 o (ss.getD j sqT)
 | _, [], _, _, j, o, h => by simp at h
 | bs, x :: os, [], hs, _, _, _ => by cases bs <;> exact False.elim hs
 | [], x :: os, s :: ss, hs, _, _, _ => False.elim hs
 | b :: bs, x :: os, s :: ss, hs, 0, o, h => by
  simp at h
  subst h
  exact hs.1
 | b :: bs, x :: os, s :: ss, hs, j + 1, o, h => by
  have := StepsJ.at hs.2 (j := j) (o := o) (by simpa using h)
  simpa using this
theorem rove_anyJ {J : World → Prop} (hJm : ∀ W W', J W → Ext W W' → J W') {P : Program} {Q : Act → World → Prop} {a : Act} {w : World} {ls : List Oper} (hJw : J w) (B : Nat) (hBw : B ≤ w.heap.size) (S : List Sq) (hd st keep ea : List Bool) (hB : relB ls a.tmps.size = true)
  (hO : orderB ls (ancL ls) hd st = true) (hK : keepL ls.length (ancL ls) hd st = keep) (hEa : earlyL ls.length (ancL ls) st = ea) (hsl : st.length = ls.length) (hhd : S.map (·.hard) = hd ∧ usB ls S = true)
  (hstep : StepsJ J P w B ls (fun i => S.getD i sqT) a (st.zip ea) ls S)
  (D : List (Option Tmp)) (hDs : ls.map (·.dst) = D) (hlen : S.length = ls.length)
  (hend : ∀ (val : Nat → Value) (W : World), Below B w W → J W → w.heap.size ≤ W.heap.size → AllQ keep S 0 val W → Q (putD D 0 val a) W) :
  wpAnyL P .any ls.toArray Q ls.toArray.size (Array.replicate ls.toArray.size false) a { w with drawn := w.drawn + 1 } := by
 have hend : ∀ (val : Nat → Value) (W : World), Below B w W → J W → (∀ j, j < ls.length → (∀ k, k < ls.length → killB (ancL ls) hd st k j = false) → (S.getD j sqT).p ((S.getD j sqT).us.map val) (val j) W) → Q (frameOf ls val a (List.range ls.length)) W := fun val W hE hJW hS => by
  rw [List.range_eq_range', frame_putD ls 0 a (fun j o hj => by rw [Nat.zero_add]; unfold dstOf; rw [hj]; rfl), hDs]
  refine hend val W hE hJW hE.size (allQ_of S 0 fun j hj hk => ?_)
  rw [Nat.zero_add] at hk ⊢
  refine hS j (by omega) fun k hkl => ?_
  rw [← hK] at hk
  unfold keepL at hk
  have hjl : j < ls.length := by omega
  simp only [List.getD_eq_getElem?_getD, List.getElem?_map, List.getElem?_range hjl, Option.map_some, Option.getD_some] at hk
  have := List.all_eq_true.1 hk k (List.mem_range.2 hkl)
  simpa using this
 refine roveJ hJm (A := ancL ls) (hd := hd) (st := st) hBw (S := fun i => S.getD i sqT) hB hO (fun j hj => ?_) (fun i o hi k hk => by
   have h1 := List.all_eq_true.1 hhd.2 i (List.mem_range.2 (List.getElem?_eq_some_iff.1 hi).1)
   rw [hi] at h1
   have h2 := List.all_eq_true.1 h1 k hk
   simpa using h2) (fun i o hi => ?hst) hend _ _ _ _ (by simp) ?_ (Nat.le_refl _) ⟨Below.drew (Below.refl _ _), hJm _ _ hJw (Ext.dr (Below.refl _ _)), fun j o _ hl => ?_, fun _ => Ext.dr (Below.refl _ _), fun _ => undef, fun j _ hl => ?_, rfl, rfl, fun j s _ hl => ?_, fun _ _ => rfl⟩
 ·rw [← hhd.1] at hj
  rcases Nat.lt_or_ge j S.length with h | h
  ·simpa [List.getD_eq_getElem?_getD, h] using hj
  ·simp [List.getD_eq_getElem?_getD, h, sqT]
 ·have h1 := hstep.at hi
  have hil : i < ls.length := (List.getElem?_eq_some_iff.1 hi).1
  have hel : ea.length = ls.length := by rw [← hEa]; simp [earlyL]
  have hz : (st.zip ea).getD i (false, false) = (st.getD i false, ea.getD i false) := by
   simp only [List.getD_eq_getElem?_getD, List.getElem?_eq_getElem (show i < (st.zip ea).length by simp; omega), List.getElem?_eq_getElem (show i < st.length by omega), List.getElem?_eq_getElem (show i < ea.length by omega), Option.getD_some, List.getElem_zip]
  rw [hz] at h1
  rw [hEa]
  exact h1
 ·have := List.countP_le_length (p := fun j => !((Array.replicate ls.toArray.size false).getD j false)) (l := List.range ls.length)
  simpa using this
 ·rw [getD_replicate] at hl; cases hl
 ·rw [getD_replicate] at hl; cases hl
 ·rw [getD_replicate] at hl; cases hl
theorem wp_region_roveJ_last {J : World → Prop} (hJm : ∀ W W', J W → Ext W W' → J W') {P : Program} {id : Nat} {Q : Exit → Act → World → Prop} {a : Act} {w : World} {hd0 : List Oper} {o : Oper} {ls : List Oper} (hls : ls = hd0 ++ [o]) (hg : o.guard = none) (hL : lastB .any hd0.toArray o = true)
  (hJw : J w) (B : Nat) (hBw : B ≤ w.heap.size) (S : List Sq) (hd st keep ea : List Bool) (hm : P.follows .mixedOrders = true) (hB : relB hd0 a.tmps.size = true)
  (hO : orderB hd0 (ancL hd0) hd st = true) (hK : keepL hd0.length (ancL hd0) hd st = keep) (hEa : earlyL hd0.length (ancL hd0) st = ea) (hsl : st.length = hd0.length) (hhd : S.map (·.hard) = hd ∧ usB hd0 S = true)
  (hstep : StepsJ J P w B hd0 (fun i => S.getD i sqT) a (st.zip ea) hd0 S)
  (D : List (Option Tmp)) (hDs : hd0.map (·.dst) = D) (hlen : S.length = hd0.length)
  (hend : ∀ (val : Nat → Value) (W : World), Below B w W → J W → w.heap.size ≤ W.heap.size → AllQ keep S 0 val W → wpList P ls.toArray Q [o] (putD D 0 val a) W) :
  (Code.region id ls.toArray true).wp P Q a w := by
 subst hls
 have e : (hd0 ++ [o]).toArray = hd0.toArray.push o := by simp
 rw [e] at hend ⊢
 refine wp_region_any hm ?_
 have e2 : Array.replicate (hd0.toArray.push o).size false = (Array.replicate hd0.toArray.size false).push false := by
  rw [Array.size_push, Array.replicate_succ]
 rw [e2, Array.size_push]
 refine wpAny_snoc hL _ _ _ _ (by simp) (fun j oj _ hl => by rw [getD_replicate] at hl; cases hl) ?_
 have hend' : ∀ (val : Nat → Value) (W : World), Below B w W → J W → w.heap.size ≤ W.heap.size → AllQ keep S 0 val W → Exit.then (fun a w => wpOp P (hd0.toArray.push o) Q hd0.toArray.size (Q .normal) a w) Q .normal (putD D 0 val a) W := by
  intro val W h1 hj h2 h3
  have h := hend val W h1 hj h2 h3
  unfold wpList at h
  simp only [Exit.then]
  unfold wpOp
  have hi : (hd0.toArray.push o)[hd0.toArray.size]? = some o := by simp
  rw [hi]
  have hw : ∀ y, Region.wanted o y = true := fun y => by simp [Region.wanted, hg]
  simp only [hw, if_true] at h ⊢
  exact h
 exact wpAny_of_L _ _ _ _ (rove_anyJ hJm hJw B hBw S hd st keep ea hB hO hK hEa hsl hhd hstep D hDs hlen hend')
/-- the same, the operations written out: 'dsimp only [List.dropLast]' behind it -/
theorem wp_region_roveJ_tail {J : World → Prop} (hJm : ∀ W W', J W → Ext W W' → J W') {P : Program} {id : Nat} {Q : Exit → Act → World → Prop} {a : Act} {w : World} {o : Oper} {ls : List Oper} (ho : ls.getLast? = some o) (hg : o.guard = none) (hL : lastB .any ls.dropLast.toArray o = true)
  (hJw : J w) (B : Nat) (hBw : B ≤ w.heap.size) (S : List Sq) (hd st keep ea : List Bool) (hm : P.follows .mixedOrders = true) (hB : relB ls.dropLast a.tmps.size = true)
  (hO : orderB ls.dropLast (ancL ls.dropLast) hd st = true) (hK : keepL ls.dropLast.length (ancL ls.dropLast) hd st = keep) (hEa : earlyL ls.dropLast.length (ancL ls.dropLast) st = ea) (hsl : st.length = ls.dropLast.length) (hhd : S.map (·.hard) = hd ∧ usB ls.dropLast S = true)
  (hstep : StepsJ J P w B ls.dropLast (fun i => S.getD i sqT) a (st.zip ea) ls.dropLast S)
  (D : List (Option Tmp)) (hDs : ls.dropLast.map (·.dst) = D) (hlen : S.length = ls.dropLast.length)
  (hend : ∀ (val : Nat → Value) (W : World), Below B w W → J W → w.heap.size ≤ W.heap.size → AllQ keep S 0 val W → wpList P ls.toArray Q [o] (putD D 0 val a) W) :
  (Code.region id ls.toArray true).wp P Q a w := by
 refine wp_region_roveJ_last hJm ?_ hg hL hJw B hBw S hd st keep ea hm hB hO hK hEa hsl hhd hstep D hDs hlen hend
 have hne : ls ≠ [] := by intro e; rw [e] at ho; cases ho
 rw [List.getLast?_eq_some_getLast hne] at ho
 have := List.dropLast_concat_getLast hne
 rw [← this]
 cases ho
 simp
section
variable {J : World → Prop} {P : Program} {B : Nat} {strong : Bool} {o : Oper} {ρ : Operand → Value} {W : World} {val : Nat → Value} {s : Sq}
theorem runj_val {v : Value} {W' : World} (h : (execOp ρ o).run P W = .ok (.value v) W') (he : EffJ J B strong W W') (hs : s.p (s.us.map val) (match o.dst with | some _ => v | none => undef) W') : RunJ J P B strong o ρ W val s := by
 unfold RunJ; rw [h]; exact ⟨he, hs⟩
end
end Go.Proofs.Ytphajlldghcnnaa
