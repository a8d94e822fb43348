/-
  The walks of the small functions on steps: where they lead, which are valid.
  The walks of steps and of its iterator: it yields all steps of the hall, with the places between which they lead.
-/
import Derived.Test.YtgcldgchhdjnhaaHall
import Derived.Test.YtgcldgchhdjnhaaRange
namespace Go.Proofs.Ytgcldgchhdjnhaa
open Go.RowKit

def Stp.val (x : Stp) : Value := .agg #[.bool x.win, .int .i64 x.idx, .bool x.back]
/-- the cells of a hall, one behind the other -/
structure HallAt (w : World) (b : Nat) (h : Hall) (sv : Value) : Prop where
  c0 : w.cell? ⟨b, 0, none⟩ = some (.int .i64 h.n)
  c1 : w.cell? ⟨b, 1, none⟩ = some (.int .i64 h.most)
  c2 : w.cell? ⟨b, 2, none⟩ = some sv
  cs : IsCnts w sv h.cs
theorem HallAt.ext {w w' : World} (e : Ext w w') {b : Nat} {h : Hall} {sv : Value} (p : HallAt w b h sv) : HallAt w' b h sv :=
  ⟨cell_ext e p.c0, cell_ext e p.c1, cell_ext e p.c2, p.cs.ext e⟩

set_option maxHeartbeats 1000000 in
theorem ends_win (h : Hall) (sv : Value) (x : Stp) (b : Nat) (w : World) (v : Valid h) (o : okStp h x = true) (hw : x.win = true) (p : HallAt w b h sv) :
    Calls Try.prog 101 #[.pointer (some ⟨b, 0, none⟩), .agg #[.bool x.win, .int .i64 x.idx, .bool x.back]] w fun e w' =>
      e = .returned (.tuple #[.int .i64 (src h x), .int .i64 (dst h x), .int .i64 (cost h x)]) ∧ Ext w w' := by
  obtain ⟨c0, c1, c2, cs⟩ := p
  obtain ⟨xw, xi, xb⟩ := x
  obtain rfl : xw = true := hw
  have hb : b < w.heap.size := World.block_lt_of_cell? _ _ c0
  clear cs c0
  have := v.n10
  simp [okStp] at o
  obtain ⟨o1, o2⟩ := o
  cases xb
  all_goals
    go_enter Try.func101, Try.ntmps101
    go_wp2
    go_region
    go_wp2
    go_region
    go_wp2
    go_ret3
    exact ⟨ret_iii (by simp [src, stpC]) (by simp [dst, stpC]) (by simp [cost, stpC]), (by repeat (first | exact Below.refl _ _ | refine Ext.al ?_ _ | refine Ext.dr ?_ | refine Ext.drN ?_ _ | refine Ext.gr ?_ _ | refine Ext.set ?_ (by simp) _ | (refine Ext.trans' ?_ (by assumption))))⟩

set_option maxHeartbeats 1000000 in
theorem ends_cnt (h : Hall) (sv : Value) (x : Stp) (b : Nat) (w : World) (v : Valid h) (o : okStp h x = true) (hw : x.win = false) (p : HallAt w b h sv) :
    Calls Try.prog 101 #[.pointer (some ⟨b, 0, none⟩), .agg #[.bool x.win, .int .i64 x.idx, .bool x.back]] w fun e w' =>
      e = .returned (.tuple #[.int .i64 (src h x), .int .i64 (dst h x), .int .i64 (cost h x)]) ∧ Ext w w' := by
  have hv := stpC_ok v o
  obtain ⟨c0, c1, c2, cs⟩ := p
  obtain ⟨xw, xi, xb⟩ := x
  obtain rfl : xw = false := hw
  have hb : b < w.heap.size := World.block_lt_of_cell? _ _ c0
  simp [okStp] at o
  obtain ⟨o1, o2⟩ := o
  obtain ⟨k, rfl⟩ : ∃ k : Nat, xi = k := ⟨xi.toNat, by omega⟩
  have hk : k < h.cs.length := by omega
  obtain ⟨sa, cap, rfl, hl1, hl2, hl3⟩ := cs.spec
  rcases hl3 with e | ⟨sb, off, rfl, hc⟩
  · simp [e] at hk
  obtain ⟨a0, a1, a2, a3⟩ := hc k hk
  have hsb : sb < w.heap.size := World.block_lt_of_cell? _ _ a0
  have e : stpC h ⟨false, (k : Int), xb⟩ = h.cs[k] := by simp [stpC, List.getD, hk]
  rw [e] at hv
  have := v.n10
  obtain ⟨v1, v2, v3, v4, v5, v6⟩ := hv
  have E := Lib.hid e
  clear e cs c0 hc
  cases xb
  all_goals
    go_enter Try.func101, Try.ntmps101
    go_wp2
    go_region
    go_wp2
    go_region
    go_wp2
    go_region
    go_wp2
    go_ret3
    exact ⟨ret_iii (by simp [src, E.out]) (by simp [dst, E.out]) (by simp [cost, E.out]), (by repeat (first | exact Below.refl _ _ | refine Ext.al ?_ _ | refine Ext.dr ?_ | refine Ext.drN ?_ _ | refine Ext.gr ?_ _ | refine Ext.set ?_ (by simp) _ | (refine Ext.trans' ?_ (by assumption))))⟩

theorem ends_any (h : Hall) (sv : Value) (x : Stp) (b : Nat) (w : World) (v : Valid h) (o : okStp h x = true) (p : HallAt w b h sv) :
    Calls Try.prog 101 #[.pointer (some ⟨b, 0, none⟩), .agg #[.bool x.win, .int .i64 x.idx, .bool x.back]] w fun e w' =>
      e = .returned (.tuple #[.int .i64 (src h x), .int .i64 (dst h x), .int .i64 (cost h x)]) ∧ Ext w w' := by
  cases hw : x.win
  · rw [← hw]; exact ends_cnt h sv x b w v o hw p
  · rw [← hw]; exact ends_win h sv x b w v o hw p
end Go.Proofs.Ytgcldgchhdjnhaa
namespace Go.Proofs.Ytgcldgchhdjnhaa
open Go.RowKit Go.Shelf

attribute [local go_sem] Oper.semAt_some

set_option maxHeartbeats 400000 in
theorem steps_any (sb : Nat) (w : World) :
    Calls Try.prog 110 #[.pointer (some ⟨sb, 0, none⟩)] w fun e w' => e = .returned (.func (.func 115) #[] #[.pointer (some ⟨w.heap.size, 0, none⟩)]) ∧ w' = w.alloc (.cells #[.pointer (some ⟨sb, 0, none⟩)] 91) := by
  go_enter Try.func110, Try.ntmps110
  go_wp2
  go_ret
  exact ⟨rfl, rfl⟩

/-- the cells of a hall, all of them in blocks of R -/
structure HallIn (R : Nat → Prop) (w : World) (b : Nat) (h : Hall) (sv : Value) : Prop where
  c0 : w.cell? ⟨b, 0, none⟩ = some (.int .i64 h.n)
  c1 : w.cell? ⟨b, 1, none⟩ = some (.int .i64 h.most)
  c2 : w.cell? ⟨b, 2, none⟩ = some sv
  cs : IsCnts w sv h.cs
  rb : R b
  rs : h.cs = [] ∨ ∀ g, sv.ownBlock = some g → R g
theorem RowsAt.kept {S : Nat → Prop} {w w' : World} (k : Kept S w w') {sz b off : Nat} {rows : List (List Value)} (hb : S b) (hr : RowsAt w sz b off rows) : RowsAt w' sz b off rows :=
  fun i hi j hj => k.cell (hr i hi j hj) hb
theorem IsRows.kept {S : Nat → Prop} {w w' : World} (k : Kept S w w') {sz : Nat} {v : Value} {rows : List (List Value)} (hb : rows = [] ∨ ∀ g, v.ownBlock = some g → S g) (hr : IsRows w sz v rows) : IsRows w' sz v rows := by
  obtain ⟨sa, cap, h1, h2, h3, h4⟩ := hr
  refine ⟨sa, cap, h1, h2, h3, ?_⟩
  rcases h4 with h4 | ⟨b, off, e, h4⟩
  · exact .inl h4
  · rcases hb with hb | hb
    · exact .inl hb
    · exact .inr ⟨b, off, e, h4.kept k (hb b (by rw [h1, e]; rfl))⟩
theorem HallIn.kept {R S : Nat → Prop} {w w' : World} {b : Nat} {h : Hall} {sv : Value} (p : HallIn R w b h sv) (k : Kept S w w') (hs : ∀ g, R g → S g) : HallIn R w' b h sv :=
  ⟨k.cell p.c0 (hs _ p.rb), k.cell p.c1 (hs _ p.rb), k.cell p.c2 (hs _ p.rb), IsRows.kept k (p.rs.imp (fun e => by rw [e]; rfl) fun q g e => hs _ (q g e)) p.cs, p.rb, p.rs⟩
theorem HallIn.ext {R : Nat → Prop} {w w' : World} {b : Nat} {h : Hall} {sv : Value} (p : HallIn R w b h sv) (k : Ext w w') : HallIn R w' b h sv :=
  p.kept (S := fun _ => True) (.of_below k) (fun _ _ => trivial)
theorem HallIn.at {R : Nat → Prop} {w : World} {b : Nat} {h : Hall} {sv : Value} (p : HallIn R w b h sv) : HallAt w b h sv := ⟨p.c0, p.c1, p.c2, p.cs⟩

def upTo (h : Hall) (k : Nat) : List Stp := (List.range k).flatMap (pairAt h)
theorem upTo_succ (h : Hall) (k : Nat) : upTo h (k + 1) = upTo h k ++ pairAt h k := by simp [upTo, List.range_succ, List.flatMap_append]
theorem upTo_prefix {h : Hall} {k : Nat} (hk : k < h.n.toNat + h.cs.length) {j : Nat} (hj : j < 2) : upTo h k ++ (pairAt h k).take j ++ [(pairAt h k)[j]'(by rw [pairAt_len]; exact hj)] <+: stps h := by
  have e1 : (pairAt h k).take j ++ [(pairAt h k)[j]'(by rw [pairAt_len]; exact hj)] = (pairAt h k).take (j + 1) := by
    rw [List.take_succ_eq_append_getElem (by rw [pairAt_len]; exact hj)]
  rw [List.append_assoc, e1]
  have e2 : stps h = upTo h k ++ (pairAt h k ++ ((List.range (h.n.toNat + h.cs.length - (k + 1))).map (k + 1 + ·)).flatMap (pairAt h)) := by
    have : h.n.toNat + h.cs.length = (k + 1) + (h.n.toNat + h.cs.length - (k + 1)) := by omega
    unfold stps
    conv => lhs; rw [this, List.range_add]
    rw [List.flatMap_append, ← List.append_assoc, ← upTo_succ]
    rfl
  rw [e2]
  refine List.prefix_append_right_inj _ |>.2 ?_
  exact (List.take_prefix _ _).trans (List.prefix_append _ _)

set_option maxRecDepth 100000 in
set_option maxHeartbeats 2000000 in
theorem steps_iter (h : Hall) (sv : Value) (v : Valid h) (R : Nat → Prop) (bx sb : Nat) (w0 : World) (hR : ∀ k, R k → k < w0.heap.size) (rbx : R bx)
    (hbx : w0.cell? ⟨bx, 0, none⟩ = some (.pointer (some ⟨sb, 0, none⟩))) (hh : HallIn R w0 sb h sv) :
    Iter Try.prog 115 #[.pointer (some ⟨bx, 0, none⟩)] (fun x : Stp => #[.agg #[.bool x.win, .int .i64 x.idx, .bool x.back], .agg #[.int .i64 (src h x), .int .i64 (dst h x)]]) R (fun xs => xs = stps h) (fun _ => True) (fun pre x => pre ++ [x] <+: stps h) w0 := by
  intro n l J Jx W hW hJ hJx hY h0
  have hbx1 := cell_ext hW hbx
  have hh1 := hh.ext hW
  clear hbx hh
  have hs0 := hW.size
  have n1 := v.n1
  have n10 := v.n10
  have nl := v.len
  refine callsIn_of_wp Try.func115 rfl trivial ?_ rfl
  simp only [Try.ntmps115, List.size_toArray, List.length_cons, List.length_nil, Nat.reduceAdd, Nat.reduceSub, Array.replicate_succ, Array.replicate_zero, List.push_toArray, List.append_toArray, List.nil_append, List.cons_append]
  have k0 := hh1.c0
  have k2 := hh1.c2
  obtain ⟨sa, cap, rfl, hl1, hl2, _⟩ := hh1.cs.spec
  gi_wp2
  gi_region
  have HH := Lib.hid hh1
  have HB := Lib.hid hbx1
  have HJ := Lib.hid hJ
  have HY := Lib.hid hY
  have V := Lib.hid v
  have HW := Lib.hid hW
  clear hh1 hbx1 k0 k2 hJ hY v hW
  gi_wp2
  gi_loopw [20] (fun i wr => ∃ (k : Nat) (O : Nat → Prop), k ≤ h.n.toNat + h.cs.length ∧ i = .int .i64 k ∧ J O (upTo h k) wr ∧ (∀ g, O g → w0.heap.size ≤ g) ∧ Kept R W wr)
    (fun i wr => h.n.toNat + h.cs.length - (intOf i).toNat)
  case atStart => exact ⟨0, fun _ => False, Nat.zero_le _, rfl, (HJ.out []).ext h0 (Below.refl _ _).drew, fun _ h => h.elim, (Kept.refl _ _).drew⟩
  case round =>
    obtain ⟨k, O, hk, rfl, hj, hO, hkp⟩ := hrel
    have hh := HH.out.kept hkp (fun _ h => h)
    have hbx := hkp.cell HB.out rbx
    have c0 := hh.c0
    have hz := hkp.size
    by_cases hlt : k < h.n.toNat + h.cs.length
    · have hlt' : (k : Int) < h.n + (h.cs.length : Int) := by omega
      obtain ⟨w1, rfl⟩ : ∃ w1 : World, w1 = wr := ⟨_, rfl⟩
      have HJ1 := Lib.hid hj
      have HO := Lib.hid hO
      have HK := Lib.hid hkp
      have HHr := Lib.hid hh
      clear hj hO hkp hh
      by_cases hw : (k : Int) < h.n
      · have hp : pairAt h k = [⟨true, k, false⟩, ⟨true, k, true⟩] := by unfold pairAt; rw [if_pos hw]
        have HP := Lib.hid hp
        clear hp
        gi_wp2_with fail
        gi_loopw [44] (fun jv W2 => ∃ (j : Nat) (O2 : Nat → Prop), j ≤ 2 ∧ jv = .int .i64 j ∧ J O2 (upTo h k ++ (pairAt h k).take j) W2 ∧ (∀ g, O2 g → w0.heap.size ≤ g) ∧ O2 w1.heap.size ∧ Kept R W W2 ∧
            W2.cell? ⟨w1.heap.size, 0, none⟩ = some (.bool true) ∧ W2.cell? ⟨w1.heap.size, 1, none⟩ = some (.int .i64 (k : Int)) ∧ W2.cell? ⟨w1.heap.size, 2, none⟩ = some (.bool (decide (0 < j))) ∧ W2.frozen? ⟨w1.heap.size, 2, none⟩ = false)
          (fun jv _ => 2 - (intOf jv).toNat)
        case atStart =>
          refine ⟨0, fun g => O g ∨ g = w1.heap.size, by omega, rfl, ?_, ?_, .inr rfl, ?_, ?_, ?_, ?_, ?_⟩
          · simp only [List.take_zero, List.append_nil]
            first
            | exact (HJ.out _).alloc HJ1.out _
            | exact (HJ.out _).ext ((HJ.out _).alloc HJ1.out _) (Below.drew (Below.refl _ _))
          · intro g hg
            rcases hg with hg | hg
            · exact HO.out g hg
            · omega
          · first
            | exact HK.out.alloc _
            | exact (HK.out.alloc _).drew
          all_goals simp [go_sem]
        case round =>
          obtain ⟨j, O2, hj2le, rfl, hj2, hO2, hxb, hkp2, b0, b1, b2, bf⟩ := hrel
          obtain rfl | rfl | rfl : j = 0 ∨ j = 1 ∨ j = 2 := by omega
          · simp only [Nat.lt_irrefl, decide_false] at b2
            have hx : (⟨true, (k : Int), false⟩ : Stp) ∈ pairAt h k := by rw [HP.out]; simp
            have ok := pairAt_ok V.out hlt _ hx
            have hpre := upTo_prefix hlt (j := 0) (by omega)
            have epre : upTo h k ++ (pairAt h k).take 0 ++ [(pairAt h k)[0]'(by rw [pairAt_len]; omega)] = upTo h k ++ (pairAt h k).take 0 ++ [⟨true, (k : Int), false⟩] := by simp only [HP.out]; rfl
            rw [epre] at hpre
            have PRE := Lib.hid hpre
            have OK := Lib.hid ok
            have hh2 := Lib.hid (HH.out.kept hkp2 (fun _ h => h))
            have hbx2 := hkp2.cell HB.out rbx
            have HJ2 := Lib.hid hj2
            have HO2 := Lib.hid hO2
            have HX2 := Lib.hid hxb
            have HK2 := Lib.hid hkp2
            clear hpre ok hx hj2 hO2 hxb hkp2 epre
            gi_wp2_with fail
            refine ⟨trivial, fun h => (by simp [Fence.wide] at h), (callsIn_wide.2 (ends_any h _ ⟨true, (k : Int), false⟩ sb _ V.out OK.out hh2.out.at)).mono ?_⟩
            rintro e W3 ⟨rfl, hE⟩
            have d0 := cell_ext hE b0
            have d1 := cell_ext hE b1
            have d2 := cell_ext hE b2
            have df := (hE.frozen (World.block_lt_of_cell? _ _ b2)).trans bf
            have HJ3 := Lib.hid ((HJ.out _).ext HJ2.out hE)
            have HK3 := Lib.hid (HK2.out.trans (.of_below hE))
            clear b0 b1 b2 bf hE
            obtain ⟨fn, tmps, assign, body, hy, hR⟩ := HY.out O2 _ ⟨true, (k : Int), false⟩ W3 HJ3.out PRE.out
            dsimp only at hy
            gi_wp2_with fail
            refine ⟨fun h => (by simp [Fence.wide] at h), hR.mono ?_⟩
            clear hy hR
            rintro e W4 (⟨rfl, hj4, hk4⟩ | ⟨rfl, hj4⟩)
            · have b0 := hk4.cell d0 (.inr HX2.out)
              have b1 := hk4.cell d1 (.inr HX2.out)
              have b2 := hk4.cell d2 (.inr HX2.out)
              have bf := (hk4.frozen (World.block_lt_of_cell? _ _ d2) (.inr HX2.out)).trans df
              have hk5 : Kept R W W4 := HK3.out.trans (hk4.mono fun _ _ h => .inl h)
              have HJ4 := Lib.hid hj4
              have HK5 := Lib.hid hk5
              have hz4 := hk4.size
              have hl4 := World.block_lt_of_cell? _ _ b2
              clear d0 d1 d2 df hj4 hk4 hk5
              gi_wp2
              go_roundw
              case rel =>
                refine ⟨0 + 1, O2, by omega, by go_num, ?_, HO2.out, HX2.out, ?_, ?_, ?_, ?_, ?_⟩
                · have e : upTo h k ++ (pairAt h k).take (0 + 1) = upTo h k ++ (pairAt h k).take 0 ++ [⟨true, (k : Int), false⟩] := by rw [HP.out]; simp
                  rw [e]
                  exact (HJ.out _).setCell HJ4.out HX2.out _
                · exact HK5.out.setCell (fun hl hr => by have := hR _ hr; have := HO2.out _ HX2.out; simp at *; omega) _
                all_goals simp [go_sem, b0, b1, b2, bf]
              case measure => simp [intOf]
            · gi_wp2
              refine bodyPost_ret (results_none rfl _ _ _) rfl ?_
              exact ⟨⟨_, rfl⟩, .inr ⟨O2, _, trivial, hj4⟩⟩
          · simp only [Nat.lt_add_one, decide_true] at b2
            have hx : (⟨true, (k : Int), true⟩ : Stp) ∈ pairAt h k := by rw [HP.out]; simp
            have ok := pairAt_ok V.out hlt _ hx
            have hpre := upTo_prefix hlt (j := 1) (by omega)
            have epre : upTo h k ++ (pairAt h k).take 1 ++ [(pairAt h k)[1]'(by rw [pairAt_len]; omega)] = upTo h k ++ (pairAt h k).take 1 ++ [⟨true, (k : Int), true⟩] := by simp only [HP.out]; rfl
            rw [epre] at hpre
            have PRE := Lib.hid hpre
            have OK := Lib.hid ok
            have hh2 := Lib.hid (HH.out.kept hkp2 (fun _ h => h))
            have hbx2 := hkp2.cell HB.out rbx
            have HJ2 := Lib.hid hj2
            have HO2 := Lib.hid hO2
            have HX2 := Lib.hid hxb
            have HK2 := Lib.hid hkp2
            clear hpre ok hx hj2 hO2 hxb hkp2 epre
            gi_wp2_with fail
            refine ⟨trivial, fun h => (by simp [Fence.wide] at h), (callsIn_wide.2 (ends_any h _ ⟨true, (k : Int), true⟩ sb _ V.out OK.out hh2.out.at)).mono ?_⟩
            rintro e W3 ⟨rfl, hE⟩
            have d0 := cell_ext hE b0
            have d1 := cell_ext hE b1
            have d2 := cell_ext hE b2
            have df := (hE.frozen (World.block_lt_of_cell? _ _ b2)).trans bf
            have HJ3 := Lib.hid ((HJ.out _).ext HJ2.out hE)
            have HK3 := Lib.hid (HK2.out.trans (.of_below hE))
            clear b0 b1 b2 bf hE
            obtain ⟨fn, tmps, assign, body, hy, hR⟩ := HY.out O2 _ ⟨true, (k : Int), true⟩ W3 HJ3.out PRE.out
            dsimp only at hy
            gi_wp2_with fail
            refine ⟨fun h => (by simp [Fence.wide] at h), hR.mono ?_⟩
            clear hy hR
            rintro e W4 (⟨rfl, hj4, hk4⟩ | ⟨rfl, hj4⟩)
            · have b0 := hk4.cell d0 (.inr HX2.out)
              have b1 := hk4.cell d1 (.inr HX2.out)
              have b2 := hk4.cell d2 (.inr HX2.out)
              have bf := (hk4.frozen (World.block_lt_of_cell? _ _ d2) (.inr HX2.out)).trans df
              have hk5 : Kept R W W4 := HK3.out.trans (hk4.mono fun _ _ h => .inl h)
              have HJ4 := Lib.hid hj4
              have HK5 := Lib.hid hk5
              have hz4 := hk4.size
              have hl4 := World.block_lt_of_cell? _ _ b2
              clear d0 d1 d2 df hj4 hk4 hk5
              gi_wp2
              go_roundw
              case rel =>
                refine ⟨1 + 1, O2, by omega, by go_num, ?_, HO2.out, HX2.out, ?_, ?_, ?_, ?_, ?_⟩
                · have e : upTo h k ++ (pairAt h k).take (1 + 1) = upTo h k ++ (pairAt h k).take 1 ++ [⟨true, (k : Int), true⟩] := by rw [HP.out]; simp
                  rw [e]
                  exact (HJ.out _).setCell HJ4.out HX2.out _
                · exact HK5.out.setCell (fun hl hr => by have := hR _ hr; have := HO2.out _ HX2.out; simp at *; omega) _
                all_goals simp [go_sem, b0, b1, b2, bf]
              case measure => simp [intOf]
            · gi_wp2
              refine bodyPost_ret (results_none rfl _ _ _) rfl ?_
              exact ⟨⟨_, rfl⟩, .inr ⟨O2, _, trivial, hj4⟩⟩
          · have e2 : upTo h (k + 1) = upTo h k ++ (pairAt h k).take 2 := by rw [upTo_succ, List.take_of_length_le (by rw [pairAt_len]; omega)]
            have HJ2 := Lib.hid hj2
            have HO2 := Lib.hid hO2
            have HK2 := Lib.hid hkp2
            have HE := Lib.hid e2
            clear hj2 hO2 hkp2 e2 b0 b1 b2 bf hxb
            gi_wp2
            go_roundw
            case rel => exact ⟨k + 1, O2, by omega, by go_num, by rw [HE.out]; exact HJ2.out, HO2.out, HK2.out⟩
            case measure => simp [intOf]; omega
      · have hp : pairAt h k = [⟨false, (k : Int) - h.n, false⟩, ⟨false, (k : Int) - h.n, true⟩] := by unfold pairAt; rw [if_neg hw]
        have HP := Lib.hid hp
        clear hp
        have hbl := World.block_lt_of_cell? _ _ hbx
        have hsl := World.block_lt_of_cell? _ _ c0
        simp only at hbl hsl
        gi_wp2_with fail
        gi_region
        gi_wp2_with fail
        gi_loopw [44] (fun jv W2 => ∃ (j : Nat) (O2 : Nat → Prop), j ≤ 2 ∧ jv = .int .i64 j ∧ J O2 (upTo h k ++ (pairAt h k).take j) W2 ∧ (∀ g, O2 g → w0.heap.size ≤ g) ∧ O2 w1.heap.size ∧ Kept R W W2 ∧
            W2.cell? ⟨w1.heap.size, 0, none⟩ = some (.bool false) ∧ W2.cell? ⟨w1.heap.size, 1, none⟩ = some (.int .i64 ((k : Int) - h.n)) ∧ W2.cell? ⟨w1.heap.size, 2, none⟩ = some (.bool (decide (0 < j))) ∧ W2.frozen? ⟨w1.heap.size, 2, none⟩ = false)
          (fun jv _ => 2 - (intOf jv).toNat)
        case atStart =>
          refine ⟨0, fun g => O g ∨ g = w1.heap.size, by omega, rfl, ?_, ?_, .inr rfl, ?_, ?_, ?_, ?_, ?_⟩
          · simp only [List.take_zero, List.append_nil]
            first
            | exact (HJ.out _).alloc HJ1.out _
            | exact (HJ.out _).ext ((HJ.out _).alloc HJ1.out _) (Below.drew (Below.refl _ _))
          · intro g hg
            rcases hg with hg | hg
            · exact HO.out g hg
            · omega
          · first
            | exact HK.out.alloc _
            | exact (HK.out.alloc _).drew
          all_goals simp [go_sem]
        case round =>
          obtain ⟨j, O2, hj2le, rfl, hj2, hO2, hxb, hkp2, b0, b1, b2, bf⟩ := hrel
          obtain rfl | rfl | rfl : j = 0 ∨ j = 1 ∨ j = 2 := by omega
          · simp only [Nat.lt_irrefl, decide_false] at b2
            have hx : (⟨false, ((k : Int) - h.n), false⟩ : Stp) ∈ pairAt h k := by rw [HP.out]; simp
            have ok := pairAt_ok V.out hlt _ hx
            have hpre := upTo_prefix hlt (j := 0) (by omega)
            have epre : upTo h k ++ (pairAt h k).take 0 ++ [(pairAt h k)[0]'(by rw [pairAt_len]; omega)] = upTo h k ++ (pairAt h k).take 0 ++ [⟨false, ((k : Int) - h.n), false⟩] := by simp only [HP.out]; rfl
            rw [epre] at hpre
            have PRE := Lib.hid hpre
            have OK := Lib.hid ok
            have hh2 := Lib.hid (HH.out.kept hkp2 (fun _ h => h))
            have hbx2 := hkp2.cell HB.out rbx
            have HJ2 := Lib.hid hj2
            have HO2 := Lib.hid hO2
            have HX2 := Lib.hid hxb
            have HK2 := Lib.hid hkp2
            clear hpre ok hx hj2 hO2 hxb hkp2 epre
            gi_wp2_with fail
            refine ⟨trivial, fun h => (by simp [Fence.wide] at h), (callsIn_wide.2 (ends_any h _ ⟨false, ((k : Int) - h.n), false⟩ sb _ V.out OK.out hh2.out.at)).mono ?_⟩
            rintro e W3 ⟨rfl, hE⟩
            have d0 := cell_ext hE b0
            have d1 := cell_ext hE b1
            have d2 := cell_ext hE b2
            have df := (hE.frozen (World.block_lt_of_cell? _ _ b2)).trans bf
            have HJ3 := Lib.hid ((HJ.out _).ext HJ2.out hE)
            have HK3 := Lib.hid (HK2.out.trans (.of_below hE))
            clear b0 b1 b2 bf hE
            obtain ⟨fn, tmps, assign, body, hy, hR⟩ := HY.out O2 _ ⟨false, ((k : Int) - h.n), false⟩ W3 HJ3.out PRE.out
            dsimp only at hy
            gi_wp2_with fail
            refine ⟨fun h => (by simp [Fence.wide] at h), hR.mono ?_⟩
            clear hy hR
            rintro e W4 (⟨rfl, hj4, hk4⟩ | ⟨rfl, hj4⟩)
            · have b0 := hk4.cell d0 (.inr HX2.out)
              have b1 := hk4.cell d1 (.inr HX2.out)
              have b2 := hk4.cell d2 (.inr HX2.out)
              have bf := (hk4.frozen (World.block_lt_of_cell? _ _ d2) (.inr HX2.out)).trans df
              have hk5 : Kept R W W4 := HK3.out.trans (hk4.mono fun _ _ h => .inl h)
              have HJ4 := Lib.hid hj4
              have HK5 := Lib.hid hk5
              have hz4 := hk4.size
              have hl4 := World.block_lt_of_cell? _ _ b2
              clear d0 d1 d2 df hj4 hk4 hk5
              gi_wp2
              go_roundw
              case rel =>
                refine ⟨0 + 1, O2, by omega, by go_num, ?_, HO2.out, HX2.out, ?_, ?_, ?_, ?_, ?_⟩
                · have e : upTo h k ++ (pairAt h k).take (0 + 1) = upTo h k ++ (pairAt h k).take 0 ++ [⟨false, ((k : Int) - h.n), false⟩] := by rw [HP.out]; simp
                  rw [e]
                  exact (HJ.out _).setCell HJ4.out HX2.out _
                · exact HK5.out.setCell (fun hl hr => by have := hR _ hr; have := HO2.out _ HX2.out; simp at *; omega) _
                all_goals simp [go_sem, b0, b1, b2, bf]
              case measure => simp [intOf]
            · gi_wp2
              refine bodyPost_ret (results_none rfl _ _ _) rfl ?_
              exact ⟨⟨_, rfl⟩, .inr ⟨O2, _, trivial, hj4⟩⟩
          · simp only [Nat.lt_add_one, decide_true] at b2
            have hx : (⟨false, ((k : Int) - h.n), true⟩ : Stp) ∈ pairAt h k := by rw [HP.out]; simp
            have ok := pairAt_ok V.out hlt _ hx
            have hpre := upTo_prefix hlt (j := 1) (by omega)
            have epre : upTo h k ++ (pairAt h k).take 1 ++ [(pairAt h k)[1]'(by rw [pairAt_len]; omega)] = upTo h k ++ (pairAt h k).take 1 ++ [⟨false, ((k : Int) - h.n), true⟩] := by simp only [HP.out]; rfl
            rw [epre] at hpre
            have PRE := Lib.hid hpre
            have OK := Lib.hid ok
            have hh2 := Lib.hid (HH.out.kept hkp2 (fun _ h => h))
            have hbx2 := hkp2.cell HB.out rbx
            have HJ2 := Lib.hid hj2
            have HO2 := Lib.hid hO2
            have HX2 := Lib.hid hxb
            have HK2 := Lib.hid hkp2
            clear hpre ok hx hj2 hO2 hxb hkp2 epre
            gi_wp2_with fail
            refine ⟨trivial, fun h => (by simp [Fence.wide] at h), (callsIn_wide.2 (ends_any h _ ⟨false, ((k : Int) - h.n), true⟩ sb _ V.out OK.out hh2.out.at)).mono ?_⟩
            rintro e W3 ⟨rfl, hE⟩
            have d0 := cell_ext hE b0
            have d1 := cell_ext hE b1
            have d2 := cell_ext hE b2
            have df := (hE.frozen (World.block_lt_of_cell? _ _ b2)).trans bf
            have HJ3 := Lib.hid ((HJ.out _).ext HJ2.out hE)
            have HK3 := Lib.hid (HK2.out.trans (.of_below hE))
            clear b0 b1 b2 bf hE
            obtain ⟨fn, tmps, assign, body, hy, hR⟩ := HY.out O2 _ ⟨false, ((k : Int) - h.n), true⟩ W3 HJ3.out PRE.out
            dsimp only at hy
            gi_wp2_with fail
            refine ⟨fun h => (by simp [Fence.wide] at h), hR.mono ?_⟩
            clear hy hR
            rintro e W4 (⟨rfl, hj4, hk4⟩ | ⟨rfl, hj4⟩)
            · have b0 := hk4.cell d0 (.inr HX2.out)
              have b1 := hk4.cell d1 (.inr HX2.out)
              have b2 := hk4.cell d2 (.inr HX2.out)
              have bf := (hk4.frozen (World.block_lt_of_cell? _ _ d2) (.inr HX2.out)).trans df
              have hk5 : Kept R W W4 := HK3.out.trans (hk4.mono fun _ _ h => .inl h)
              have HJ4 := Lib.hid hj4
              have HK5 := Lib.hid hk5
              have hz4 := hk4.size
              have hl4 := World.block_lt_of_cell? _ _ b2
              clear d0 d1 d2 df hj4 hk4 hk5
              gi_wp2
              go_roundw
              case rel =>
                refine ⟨1 + 1, O2, by omega, by go_num, ?_, HO2.out, HX2.out, ?_, ?_, ?_, ?_, ?_⟩
                · have e : upTo h k ++ (pairAt h k).take (1 + 1) = upTo h k ++ (pairAt h k).take 1 ++ [⟨false, ((k : Int) - h.n), true⟩] := by rw [HP.out]; simp
                  rw [e]
                  exact (HJ.out _).setCell HJ4.out HX2.out _
                · exact HK5.out.setCell (fun hl hr => by have := hR _ hr; have := HO2.out _ HX2.out; simp at *; omega) _
                all_goals simp [go_sem, b0, b1, b2, bf]
              case measure => simp [intOf]
            · gi_wp2
              refine bodyPost_ret (results_none rfl _ _ _) rfl ?_
              exact ⟨⟨_, rfl⟩, .inr ⟨O2, _, trivial, hj4⟩⟩
          · have e2 : upTo h (k + 1) = upTo h k ++ (pairAt h k).take 2 := by rw [upTo_succ, List.take_of_length_le (by rw [pairAt_len]; omega)]
            have HJ2 := Lib.hid hj2
            have HO2 := Lib.hid hO2
            have HK2 := Lib.hid hkp2
            have HE := Lib.hid e2
            clear hj2 hO2 hkp2 e2 b0 b1 b2 bf hxb
            gi_wp2
            go_roundw
            case rel => exact ⟨k + 1, O2, by omega, by go_num, by rw [HE.out]; exact HJ2.out, HO2.out, HK2.out⟩
            case measure => simp [intOf]; omega
    · gi_wp2
      go_end0
      have e : k = h.n.toNat + h.cs.length := by omega
      subst e
      exact ⟨⟨_, rfl⟩, .inl ⟨O, _, rfl, hj⟩⟩
end Go.Proofs.Ytgcldgchhdjnhaa
