/-
  The walks of ref06.CheckDay and of top.day06, for any day: where they say yes, the day is valid.
-/
import Derived.Test.YtnoffnkmibjndaaGreatTd
set_option maxRecDepth 200000
set_option maxHeartbeats 0
set_option linter.unusedSimpArgs false
set_option linter.unusedVariables false
namespace Go.Proofs.YtnoffnkmibjndaaGreat
open Go.Lib (hid)
open Go.RowKit Go.Shelf
structure z1d (L n:Int) (ks:List Int) (rest:Int):Prop where
 l6:2≤L∧L≤6
 n8:2≤n∧n≤8
 kl:(ks.length:Int)=n
 kx:∀ x∈ks,0≤x∧x < L
 rs:0≤rest∧rest < L
theorem zaa7 (L n rest:Int) (ks:List Int) (ka:Option Addr) (kc:Nat) (w:World) (hk:zn w .i64 (.slice ka ks.length kc) ks) :
  Calls Tryz.prog 15 #[.agg #[.int .i64 L,.int .i64 n,.slice ka ks.length kc,.int .i64 rest]] w fun e w'=>∃ x:Int,e = .returned (.int .i64 x)∧Ext w w'∧(x=0→z1d L n ks rest):=by
 obtain ⟨_,_,e0,hl1,hl2,hc⟩:=hk.spec;cases e0;have HC:=hid hc;clear hk hc
 go_enter Tryz.func15,Tryz.ntmps15
 by_cases hL:2≤L∧L≤6∧2≤n∧n≤8
 ·obtain ⟨hL1,hL2,hn1,hn2⟩:=hL
  have q1:¬ (L < 2):=by omega
  have q2:¬ (6 < L):=by omega
  have q3:¬ (n < 2):=by omega
  have q4:¬ (8 < n):=by omega
  by_cases hkl:(ks.length:Int)=n
  ·subst hkl
   go_wp2_with fail;obtain ⟨W0,hW0⟩:∃ W0,W0=w.alloc (.cells #[.int .i64 L,.int .i64 ks.length,.slice ka ks.length kc,.int .i64 rest] 27):=⟨_,rfl⟩
   have hE:Ext w W0:=by rw [hW0];exact xx
   have k0:W0.cell? ⟨w.heap.size,0,none⟩=some (.int .i64 L):=by rw [hW0];simp [go_sem]
   have k2:W0.cell? ⟨w.heap.size,2,none⟩=some (.slice ka ks.length kc):=by rw [hW0];simp [go_sem]
   have k3:W0.cell? ⟨w.heap.size,3,none⟩=some (.int .i64 rest):=by rw [hW0];simp [go_sem]
   have hz:=World.block_lt_of_cell? _ _ k0;rw [← hW0];have HW:=hid hE;clear hW0 hE
   go_loopw [3] (fun iv W=>∃ k:Nat,k≤ks.length∧iv = .int .i64 k∧(∀ x∈ks.take k,0≤x∧x < L)∧Ext W0 W) (fun iv _=>ks.length - (intOf iv).toNat)
   case atStart=>exact ⟨0,by omega,rfl,by simp,Below.refl _ _⟩
   case round =>
    obtain ⟨k,hk,rfl,hx,hE⟩:=hrel;replace k0:=zf hE k0;replace k2:=zf hE k2;replace k3:=zf hE k3;replace hz:=World.block_lt_of_cell? _ _ k0;have HE:=hid hE;have HX:=hid hx
    by_cases hlt:k < ks.length
    ·have hki:(k:Int) < (ks.length:Int):=by omega
     rcases HC.out with h0 | ⟨b,off,rfl,hcc⟩
     ·rw [h0] at hlt;simp at hlt
     have d0:=zf (HW.out.trans' hE) (hcc k hlt);have zd:=World.block_lt_of_cell? _ _ d0;simp only at hz zd;obtain ⟨x,hx0⟩:∃ x,x=ks[k]:=⟨_,rfl⟩
     rw [← hx0] at d0;have HX0:=hid hx0;clear hE hx hcc hx0;go_upto_region 8 with (fail);have hnk:¬ ks.length≤k:=by omega
     by_cases h1:x < 0
     ·have h1b:decide (x < 0)=true:=decide_eq_true h1
      refine za4 (wr.heap.size) (Nat.le_refl _)
       [sqV (.pointer (some ⟨w.heap.size,2,none⟩)),sqV (.slice (some ⟨b,off,none⟩) ks.length kc),sqV (.int .i64 k),sqV (.pointer (some ⟨b,off+k,none⟩)),sqV (.int .i64 x),sqV (.bool true),sqV (.bool true),sqV undef,sqV undef,sqV undef,sqV undef,sqV undef,sqV undef,sqV undef,sqV undef,sqV (.bool true)]
       [true,true,true,true,true,true,true,true,true,true,true,true,true,true,true,true] [false,false,false,false,false,false,false,false,false,false,false,false,false,false,false,false] [true,true,true,true,true,true,true,true,true,true,true,true,true,true,true,true] [true,true,true,true,true,true,true,true,true,true,true,true,true,true,true,true] [true,true,true,true,true,true,true,false,false,false,false,false,false,false,false,true] [none,none,none,none,none,some true,some true,none,none,none,none,none,none,none,none,some true]
       (by kernel_rfl) (by kernel_rfl) (by decide +kernel) ⟨fun _ _ _ h=>h,⟨fun _ _ _ h=>h,⟨fun _ _ _ h=>h,trivial⟩⟩⟩ (by decide +kernel) (by decide +kernel) (by decide +kernel) rfl ⟨rfl,rfl,rfl⟩ ⟨?s0,?s1,?s2,?s3,?s4,?s5,?s6,?s7,?s8,?s9,?s10,?s11,?s12,?s13,?s14,?s15,trivial⟩ [some 35,some 36,some 37,some 38,some 39,some 40,some 41,some 42,some 43,some 44,some 45,some 46,some 47,some 48,some 49,some 50] rfl rfl ?send
      case s0 =>
       intro val ρ W hE hz hd hu hA hx;have o0:ρ (.tmp 1) = .pointer (some ⟨w.heap.size,0,none⟩):=hA.old 1 (by decide);clear hd hu;exact zb (W':=W) (by simp [execOp,o0,go_sem]) (Below.refl _ _) rfl
      case s1 =>
       intro val ρ W hE hz hd hu hA hx;have d0:ρ (.tmp 35) = .pointer (some ⟨w.heap.size,2,none⟩):=(hA.dep 0 (by decide) 35 rfl).trans (hd 0 (by decide));have f_k2:=cell_below hE (by simp only;omega) k2;clear hd hu;exact zb (W':=W) (by simp [execOp,d0,f_k2,go_sem]) (Below.refl _ _) rfl
      case s2 =>
       intro val ρ W hE hz hd hu hA hx;have o0:ρ (.tmp 3) = .int .i64 k:=hA.old 3 (by decide);clear hd hu;exact zb (W':=W) (by simp [execOp,o0,go_sem]) (Below.refl _ _) rfl
      case s3 =>
       intro val ρ W hE hz hd hu hA hx;have d1:ρ (.tmp 36) = .slice (some ⟨b,off,none⟩) ks.length kc:=(hA.dep 1 (by decide) 36 rfl).trans (hd 1 (by decide));have d2:ρ (.tmp 37) = .int .i64 k:=(hA.dep 2 (by decide) 37 rfl).trans (hd 2 (by decide));clear hd hu;exact zb (W':=W) (by simp [execOp,d1,d2,hlt,hki,go_sem]) (Below.refl _ _) rfl
      case s4 =>
       intro val ρ W hE hz hd hu hA hx;have d3:ρ (.tmp 38) = .pointer (some ⟨b,off+k,none⟩):=(hA.dep 3 (by decide) 38 rfl).trans (hd 3 (by decide));have f_d0:=cell_below hE (by simp only;omega) d0;clear hd hu;exact zb (W':=W) (by simp [execOp,d3,f_d0,go_sem]) (Below.refl _ _) rfl
      case s5 =>
       intro val ρ W hE hz hd hu hA hx;have d4:ρ (.tmp 39) = .int .i64 x:=(hA.dep 4 (by decide) 39 rfl).trans (hd 4 (by decide));clear hd hu;exact zb (W':=W) (by simp [execOp,hA.const,d4,h1b,go_sem]) (Below.refl _ _) rfl
      case s6 =>
       intro val ρ W hE hz hd hu hA hx;have d5:ρ (.tmp 40) = .bool true:=(hA.dep 5 (by decide) 40 rfl).trans (hd 5 (by decide));clear hd hu;exact zb (W':=W) (by simp [execOp,d5,go_sem]) (Below.refl _ _) rfl
      case s7=>exact ⟨fun _ _=>rfl,fun _ _ _ h=>h⟩
      case s8=>exact ⟨fun _ _=>rfl,fun _ _ _ h=>h⟩
      case s9=>exact ⟨fun _ _=>rfl,fun _ _ _ h=>h⟩
      case s10=>exact ⟨fun _ _=>rfl,fun _ _ _ h=>h⟩
      case s11=>exact ⟨fun _ _=>rfl,fun _ _ _ h=>h⟩
      case s12=>exact ⟨fun _ _=>rfl,fun _ _ _ h=>h⟩
      case s13=>exact ⟨fun _ _=>rfl,fun _ _ _ h=>h⟩
      case s14=>exact ⟨fun _ _=>rfl,fun _ _ _ h=>h⟩
      case s15 =>
       intro val ρ W hE hz hd hu hA hx;have d6:ρ (.tmp 41) = .bool true:=(hA.dep 6 (by decide) 41 rfl).trans (hd 6 (by decide));clear hd hu;exact zb (W':=W) (by simp [execOp,hA.const,d6,go_sem]) (Below.refl _ _) rfl
      case send =>
       intro val Y hE9 hzz hv;obtain ⟨-,-,-,-,-,-,-,-,-,-,-,-,-,-,-,r15,-⟩:=hv;have q15:val 15 = .bool true:=r15;have HY:=hid hE9;simp only [zbe,q15];go_frame;clear hE9 hzz r15 q15;go_wp2_with fail;go_ret;exact ⟨3,rfl,HW.out.trans' (HE.out.trans' HY.out),fun h=>by omega⟩
     ·have h1b:decide (x < 0)=false:=decide_eq_false h1
      by_cases h2:L≤x
      ·have h2b:decide (L≤x)=true:=decide_eq_true h2
       refine za4 (wr.heap.size) (Nat.le_refl _)
        [sqV (.pointer (some ⟨w.heap.size,2,none⟩)),sqV (.slice (some ⟨b,off,none⟩) ks.length kc),sqV (.int .i64 k),sqV (.pointer (some ⟨b,off+k,none⟩)),sqV (.int .i64 x),sqV (.bool false),sqV (.bool false),sqV (.pointer (some ⟨w.heap.size,2,none⟩)),sqV (.slice (some ⟨b,off,none⟩) ks.length kc),sqV (.int .i64 k),sqV (.pointer (some ⟨b,off+k,none⟩)),sqV (.int .i64 x),sqV (.pointer (some ⟨w.heap.size,0,none⟩)),sqV (.int .i64 L),sqV (.bool true),sqV (.bool true)]
        [true,true,true,true,true,true,true,true,true,true,true,true,true,true,true,true] [false,false,false,false,false,false,false,false,false,false,false,false,false,false,false,false] [true,true,true,true,true,true,true,true,true,true,true,true,true,true,true,true] [true,true,true,true,true,true,true,true,true,true,true,true,true,true,true,true] [true,true,true,true,true,true,true,true,true,true,true,true,true,true,true,true] [none,none,none,none,none,some false,some false,none,none,none,none,none,none,none,some true,some true]
        (by kernel_rfl) (by kernel_rfl) (by decide +kernel) ⟨fun _ _ _ h=>h,⟨fun _ _ _ h=>h,⟨fun _ _ _ h=>h,⟨fun _ _ _ h=>h,trivial⟩⟩⟩⟩ (by decide +kernel) (by decide +kernel) (by decide +kernel) rfl ⟨rfl,rfl,rfl⟩ ⟨?s0,?s1,?s2,?s3,?s4,?s5,?s6,?s7,?s8,?s9,?s10,?s11,?s12,?s13,?s14,?s15,trivial⟩ [some 35,some 36,some 37,some 38,some 39,some 40,some 41,some 42,some 43,some 44,some 45,some 46,some 47,some 48,some 49,some 50] rfl rfl ?send
       case s0 =>
        intro val ρ W hE hz hd hu hA hx;have o0:ρ (.tmp 1) = .pointer (some ⟨w.heap.size,0,none⟩):=hA.old 1 (by decide);clear hd hu;exact zb (W':=W) (by simp [execOp,o0,go_sem]) (Below.refl _ _) rfl
       case s1 =>
        intro val ρ W hE hz hd hu hA hx;have d0:ρ (.tmp 35) = .pointer (some ⟨w.heap.size,2,none⟩):=(hA.dep 0 (by decide) 35 rfl).trans (hd 0 (by decide));have f_k2:=cell_below hE (by simp only;omega) k2;clear hd hu;exact zb (W':=W) (by simp [execOp,d0,f_k2,go_sem]) (Below.refl _ _) rfl
       case s2 =>
        intro val ρ W hE hz hd hu hA hx;have o0:ρ (.tmp 3) = .int .i64 k:=hA.old 3 (by decide);clear hd hu;exact zb (W':=W) (by simp [execOp,o0,go_sem]) (Below.refl _ _) rfl
       case s3 =>
        intro val ρ W hE hz hd hu hA hx;have d1:ρ (.tmp 36) = .slice (some ⟨b,off,none⟩) ks.length kc:=(hA.dep 1 (by decide) 36 rfl).trans (hd 1 (by decide));have d2:ρ (.tmp 37) = .int .i64 k:=(hA.dep 2 (by decide) 37 rfl).trans (hd 2 (by decide));clear hd hu;exact zb (W':=W) (by simp [execOp,d1,d2,hlt,hki,go_sem]) (Below.refl _ _) rfl
       case s4 =>
        intro val ρ W hE hz hd hu hA hx;have d3:ρ (.tmp 38) = .pointer (some ⟨b,off+k,none⟩):=(hA.dep 3 (by decide) 38 rfl).trans (hd 3 (by decide));have f_d0:=cell_below hE (by simp only;omega) d0;clear hd hu;exact zb (W':=W) (by simp [execOp,d3,f_d0,go_sem]) (Below.refl _ _) rfl
       case s5 =>
        intro val ρ W hE hz hd hu hA hx;have d4:ρ (.tmp 39) = .int .i64 x:=(hA.dep 4 (by decide) 39 rfl).trans (hd 4 (by decide));clear hd hu;exact zb (W':=W) (by simp [execOp,hA.const,d4,h1b,go_sem]) (Below.refl _ _) rfl
       case s6 =>
        intro val ρ W hE hz hd hu hA hx;have d5:ρ (.tmp 40) = .bool false:=(hA.dep 5 (by decide) 40 rfl).trans (hd 5 (by decide));clear hd hu;exact zb (W':=W) (by simp [execOp,d5,go_sem]) (Below.refl _ _) rfl
       case s7 =>
        intro val ρ W hE hz hd hu hA hx;have o0:ρ (.tmp 1) = .pointer (some ⟨w.heap.size,0,none⟩):=hA.old 1 (by decide);clear hd hu;exact zb (W':=W) (by simp [execOp,o0,go_sem]) (Below.refl _ _) rfl
       case s8 =>
        intro val ρ W hE hz hd hu hA hx;have d7:ρ (.tmp 42) = .pointer (some ⟨w.heap.size,2,none⟩):=(hA.dep 7 (by decide) 42 rfl).trans (hd 7 (by decide));have f_k2:=cell_below hE (by simp only;omega) k2;clear hd hu;exact zb (W':=W) (by simp [execOp,d7,f_k2,go_sem]) (Below.refl _ _) rfl
       case s9 =>
        intro val ρ W hE hz hd hu hA hx;have o0:ρ (.tmp 3) = .int .i64 k:=hA.old 3 (by decide);clear hd hu;exact zb (W':=W) (by simp [execOp,o0,go_sem]) (Below.refl _ _) rfl
       case s10 =>
        intro val ρ W hE hz hd hu hA hx;have d8:ρ (.tmp 43) = .slice (some ⟨b,off,none⟩) ks.length kc:=(hA.dep 8 (by decide) 43 rfl).trans (hd 8 (by decide));have d9:ρ (.tmp 44) = .int .i64 k:=(hA.dep 9 (by decide) 44 rfl).trans (hd 9 (by decide));clear hd hu;exact zb (W':=W) (by simp [execOp,d8,d9,hlt,hki,go_sem]) (Below.refl _ _) rfl
       case s11 =>
        intro val ρ W hE hz hd hu hA hx;have d10:ρ (.tmp 45) = .pointer (some ⟨b,off+k,none⟩):=(hA.dep 10 (by decide) 45 rfl).trans (hd 10 (by decide));have f_d0:=cell_below hE (by simp only;omega) d0;clear hd hu;exact zb (W':=W) (by simp [execOp,d10,f_d0,go_sem]) (Below.refl _ _) rfl
       case s12 =>
        intro val ρ W hE hz hd hu hA hx;have o0:ρ (.tmp 1) = .pointer (some ⟨w.heap.size,0,none⟩):=hA.old 1 (by decide);clear hd hu;exact zb (W':=W) (by simp [execOp,o0,go_sem]) (Below.refl _ _) rfl
       case s13 =>
        intro val ρ W hE hz hd hu hA hx;have d12:ρ (.tmp 47) = .pointer (some ⟨w.heap.size,0,none⟩):=(hA.dep 12 (by decide) 47 rfl).trans (hd 12 (by decide));have f_k0:=cell_below hE (by simp only;omega) k0;clear hd hu;exact zb (W':=W) (by simp [execOp,d12,f_k0,go_sem]) (Below.refl _ _) rfl
       case s14 =>
        intro val ρ W hE hz hd hu hA hx;have d11:ρ (.tmp 46) = .int .i64 x:=(hA.dep 11 (by decide) 46 rfl).trans (hd 11 (by decide));have d13:ρ (.tmp 48) = .int .i64 L:=(hA.dep 13 (by decide) 48 rfl).trans (hd 13 (by decide));clear hd hu;exact zb (W':=W) (by simp [execOp,d11,d13,h2b,go_sem]) (Below.refl _ _) rfl
       case s15 =>
        intro val ρ W hE hz hd hu hA hx;have d6:ρ (.tmp 41) = .bool false:=(hA.dep 6 (by decide) 41 rfl).trans (hd 6 (by decide));have d14:ρ (.tmp 49) = .bool true:=(hA.dep 14 (by decide) 49 rfl).trans (hd 14 (by decide));clear hd hu;exact zb (W':=W) (by simp [execOp,hA.const,d6,d14,go_sem]) (Below.refl _ _) rfl
       case send =>
        intro val Y hE9 hzz hv;obtain ⟨-,-,-,-,-,-,-,-,-,-,-,-,-,-,-,r15,-⟩:=hv;have q15:val 15 = .bool true:=r15;have HY:=hid hE9;simp only [zbe,q15];go_frame;clear hE9 hzz r15 q15;go_wp2_with fail;go_ret;exact ⟨3,rfl,HW.out.trans' (HE.out.trans' HY.out),fun h=>by omega⟩
      ·have h2b:decide (L≤x)=false:=decide_eq_false h2
       refine za4 (wr.heap.size) (Nat.le_refl _)
        [sqV (.pointer (some ⟨w.heap.size,2,none⟩)),sqV (.slice (some ⟨b,off,none⟩) ks.length kc),sqV (.int .i64 k),sqV (.pointer (some ⟨b,off+k,none⟩)),sqV (.int .i64 x),sqV (.bool false),sqV (.bool false),sqV (.pointer (some ⟨w.heap.size,2,none⟩)),sqV (.slice (some ⟨b,off,none⟩) ks.length kc),sqV (.int .i64 k),sqV (.pointer (some ⟨b,off+k,none⟩)),sqV (.int .i64 x),sqV (.pointer (some ⟨w.heap.size,0,none⟩)),sqV (.int .i64 L),sqV (.bool false),sqV (.bool false)]
        [true,true,true,true,true,true,true,true,true,true,true,true,true,true,true,true] [false,false,false,false,false,false,false,false,false,false,false,false,false,false,false,false] [true,true,true,true,true,true,true,true,true,true,true,true,true,true,true,true] [true,true,true,true,true,true,true,true,true,true,true,true,true,true,true,true] [true,true,true,true,true,true,true,true,true,true,true,true,true,true,true,true] [none,none,none,none,none,some false,some false,none,none,none,none,none,none,none,some false,some false]
        (by kernel_rfl) (by kernel_rfl) (by decide +kernel) ⟨fun _ _ _ h=>h,⟨fun _ _ _ h=>h,⟨fun _ _ _ h=>h,⟨fun _ _ _ h=>h,trivial⟩⟩⟩⟩ (by decide +kernel) (by decide +kernel) (by decide +kernel) rfl ⟨rfl,rfl,rfl⟩ ⟨?s0,?s1,?s2,?s3,?s4,?s5,?s6,?s7,?s8,?s9,?s10,?s11,?s12,?s13,?s14,?s15,trivial⟩ [some 35,some 36,some 37,some 38,some 39,some 40,some 41,some 42,some 43,some 44,some 45,some 46,some 47,some 48,some 49,some 50] rfl rfl ?send
       case s0 =>
        intro val ρ W hE hz hd hu hA hx;have o0:ρ (.tmp 1) = .pointer (some ⟨w.heap.size,0,none⟩):=hA.old 1 (by decide);clear hd hu;exact zb (W':=W) (by simp [execOp,o0,go_sem]) (Below.refl _ _) rfl
       case s1 =>
        intro val ρ W hE hz hd hu hA hx;have d0:ρ (.tmp 35) = .pointer (some ⟨w.heap.size,2,none⟩):=(hA.dep 0 (by decide) 35 rfl).trans (hd 0 (by decide));have f_k2:=cell_below hE (by simp only;omega) k2;clear hd hu;exact zb (W':=W) (by simp [execOp,d0,f_k2,go_sem]) (Below.refl _ _) rfl
       case s2 =>
        intro val ρ W hE hz hd hu hA hx;have o0:ρ (.tmp 3) = .int .i64 k:=hA.old 3 (by decide);clear hd hu;exact zb (W':=W) (by simp [execOp,o0,go_sem]) (Below.refl _ _) rfl
       case s3 =>
        intro val ρ W hE hz hd hu hA hx;have d1:ρ (.tmp 36) = .slice (some ⟨b,off,none⟩) ks.length kc:=(hA.dep 1 (by decide) 36 rfl).trans (hd 1 (by decide));have d2:ρ (.tmp 37) = .int .i64 k:=(hA.dep 2 (by decide) 37 rfl).trans (hd 2 (by decide));clear hd hu;exact zb (W':=W) (by simp [execOp,d1,d2,hlt,hki,go_sem]) (Below.refl _ _) rfl
       case s4 =>
        intro val ρ W hE hz hd hu hA hx;have d3:ρ (.tmp 38) = .pointer (some ⟨b,off+k,none⟩):=(hA.dep 3 (by decide) 38 rfl).trans (hd 3 (by decide));have f_d0:=cell_below hE (by simp only;omega) d0;clear hd hu;exact zb (W':=W) (by simp [execOp,d3,f_d0,go_sem]) (Below.refl _ _) rfl
       case s5 =>
        intro val ρ W hE hz hd hu hA hx;have d4:ρ (.tmp 39) = .int .i64 x:=(hA.dep 4 (by decide) 39 rfl).trans (hd 4 (by decide));clear hd hu;exact zb (W':=W) (by simp [execOp,hA.const,d4,h1b,go_sem]) (Below.refl _ _) rfl
       case s6 =>
        intro val ρ W hE hz hd hu hA hx;have d5:ρ (.tmp 40) = .bool false:=(hA.dep 5 (by decide) 40 rfl).trans (hd 5 (by decide));clear hd hu;exact zb (W':=W) (by simp [execOp,d5,go_sem]) (Below.refl _ _) rfl
       case s7 =>
        intro val ρ W hE hz hd hu hA hx;have o0:ρ (.tmp 1) = .pointer (some ⟨w.heap.size,0,none⟩):=hA.old 1 (by decide);clear hd hu;exact zb (W':=W) (by simp [execOp,o0,go_sem]) (Below.refl _ _) rfl
       case s8 =>
        intro val ρ W hE hz hd hu hA hx;have d7:ρ (.tmp 42) = .pointer (some ⟨w.heap.size,2,none⟩):=(hA.dep 7 (by decide) 42 rfl).trans (hd 7 (by decide));have f_k2:=cell_below hE (by simp only;omega) k2;clear hd hu;exact zb (W':=W) (by simp [execOp,d7,f_k2,go_sem]) (Below.refl _ _) rfl
       case s9 =>
        intro val ρ W hE hz hd hu hA hx;have o0:ρ (.tmp 3) = .int .i64 k:=hA.old 3 (by decide);clear hd hu;exact zb (W':=W) (by simp [execOp,o0,go_sem]) (Below.refl _ _) rfl
       case s10 =>
        intro val ρ W hE hz hd hu hA hx;have d8:ρ (.tmp 43) = .slice (some ⟨b,off,none⟩) ks.length kc:=(hA.dep 8 (by decide) 43 rfl).trans (hd 8 (by decide));have d9:ρ (.tmp 44) = .int .i64 k:=(hA.dep 9 (by decide) 44 rfl).trans (hd 9 (by decide));clear hd hu;exact zb (W':=W) (by simp [execOp,d8,d9,hlt,hki,go_sem]) (Below.refl _ _) rfl
       case s11 =>
        intro val ρ W hE hz hd hu hA hx;have d10:ρ (.tmp 45) = .pointer (some ⟨b,off+k,none⟩):=(hA.dep 10 (by decide) 45 rfl).trans (hd 10 (by decide));have f_d0:=cell_below hE (by simp only;omega) d0;clear hd hu;exact zb (W':=W) (by simp [execOp,d10,f_d0,go_sem]) (Below.refl _ _) rfl
       case s12 =>
        intro val ρ W hE hz hd hu hA hx;have o0:ρ (.tmp 1) = .pointer (some ⟨w.heap.size,0,none⟩):=hA.old 1 (by decide);clear hd hu;exact zb (W':=W) (by simp [execOp,o0,go_sem]) (Below.refl _ _) rfl
       case s13 =>
        intro val ρ W hE hz hd hu hA hx;have d12:ρ (.tmp 47) = .pointer (some ⟨w.heap.size,0,none⟩):=(hA.dep 12 (by decide) 47 rfl).trans (hd 12 (by decide));have f_k0:=cell_below hE (by simp only;omega) k0;clear hd hu;exact zb (W':=W) (by simp [execOp,d12,f_k0,go_sem]) (Below.refl _ _) rfl
       case s14 =>
        intro val ρ W hE hz hd hu hA hx;have d11:ρ (.tmp 46) = .int .i64 x:=(hA.dep 11 (by decide) 46 rfl).trans (hd 11 (by decide));have d13:ρ (.tmp 48) = .int .i64 L:=(hA.dep 13 (by decide) 48 rfl).trans (hd 13 (by decide));clear hd hu;exact zb (W':=W) (by simp [execOp,d11,d13,h2b,go_sem]) (Below.refl _ _) rfl
       case s15 =>
        intro val ρ W hE hz hd hu hA hx;have d6:ρ (.tmp 41) = .bool false:=(hA.dep 6 (by decide) 41 rfl).trans (hd 6 (by decide));have d14:ρ (.tmp 49) = .bool false:=(hA.dep 14 (by decide) 49 rfl).trans (hd 14 (by decide));clear hd hu;exact zb (W':=W) (by simp [execOp,hA.const,d6,d14,go_sem]) (Below.refl _ _) rfl
       case send =>
        intro val Y hE9 hzz hv;obtain ⟨-,-,-,-,-,-,-,-,-,-,-,-,-,-,-,r15,-⟩:=hv;have q15:val 15 = .bool false:=r15;have HY:=hid hE9;simp only [zbe,q15];go_frame;clear hE9 hzz r15 q15;go_wp2_with fail;refine ⟨⟨k+1,by omega,by go_num,fun y hy=>?_,HE.out.trans' HY.out⟩,by simp [intOf];omega⟩;rw [List.take_add_one,List.getElem?_eq_getElem hlt] at hy
        rcases List.mem_append.1 hy with hy | hy
        ·exact HX.out y hy
        ·rw [Option.toList_some,List.mem_singleton] at hy
         rw [hy,← HX0.out];omega
    ·have hki:¬ ((k:Int) < (ks.length:Int)):=by omega
     have htk:ks.take k=ks:=List.take_of_length_le (by omega);simp only at hz;clear hE hx
     by_cases h1:rest < 0
     ·go_wp2_with fail
      go_ret;exact ⟨3,rfl,HW.out.trans' HE.out,fun h=>by omega⟩
     ·by_cases h2:L≤rest
      ·go_wp2_with fail
       go_ret;exact ⟨3,rfl,HW.out.trans' HE.out,fun h=>by omega⟩
      ·go_wp2_with fail
       go_ret;exact ⟨0,rfl,HW.out.trans' HE.out,fun _=>⟨⟨hL1,hL2⟩,⟨hn1,hn2⟩,rfl,by have:=HX.out;rwa [htk] at this,⟨by omega,by omega⟩⟩⟩
  ·go_wp2_with fail
   go_ret;exact ⟨15,rfl,by exact xx,fun h=>by omega⟩
 ·by_cases q1:L < 2
  ·go_wp2_with fail
   go_ret;exact ⟨2,rfl,by exact xx,fun h=>by omega⟩
  ·by_cases q2:6 < L
   ·go_wp2_with fail
    go_ret;exact ⟨2,rfl,by exact xx,fun h=>by omega⟩
   ·by_cases q3:n < 2
    ·go_wp2_with fail
     go_ret;exact ⟨2,rfl,by exact xx,fun h=>by omega⟩
    ·have q4:8 < n:=by omega
     go_wp2_with fail;go_ret;exact ⟨2,rfl,by exact xx,fun h=>by omega⟩
def z0j (L n rest:Int) (ks:List Int) (w:World) (e:Ending) (w':World):Prop:=∃ b:Bool,e = .returned (.bool b)∧Ext w w'∧(b=true→z1d L n ks rest)
theorem zyn (L n rest:Int) (ks:List Int) (ka:Option Addr) (kc:Nat) (w:World) (hk:zn w .i64 (.slice ka ks.length kc) ks) :
  Calls Tryz.prog 5 #[.agg #[.int .i64 L,.int .i64 n,.slice ka ks.length kc,.int .i64 rest]] w (z0j L n rest ks w):=by
 have HK:=hid hk;clear hk
 go_enter Tryz.func5,Tryz.ntmps5
 by_cases hl:15 < ks.length
 ·have hli:(15:Int) < (ks.length:Int):=by omega
  go_wp2_with fail;go_ret;unfold z0j;exact ⟨false,rfl,by exact xx,fun h=>by cases h⟩
 ·have hli:¬ ((15:Int) < (ks.length:Int)):=by omega
  go_wp2_with fail;refine (zaa7 L n rest ks ka kc _ (HK.out.ext (by exact xx))).mono ?_
  rintro e W1 ⟨x,rfl,hE1,hx⟩;have HE1:=hid (Ext.trans' (by exact xx) hE1:Ext w W1);have k0:=zf hE1 (a:=⟨w.heap.size,0,none⟩) (v:=.int .i64 L) (by simp [go_sem]);have k1:=zf hE1 (a:=⟨w.heap.size,1,none⟩) (v:=.int .i64 n) (by simp [go_sem]);have hz:=World.block_lt_of_cell? _ _ k0;simp only at hz;have HX:=hid hx;clear hE1 hx
  by_cases h0:x=0
  ·subst h0
   go_wp2_with fail;have hdv:=HX.out trivial
   go_loopw [3,4] (fun nv iv W=>∃ (k:Nat) (y:Int),(k:Int)≤n∧nv = .int .i64 y∧iv = .int .i64 k∧Ext W1 W) (fun _ iv _=>n.toNat - (intOf iv).toNat)
   case atStart=>exact ⟨1,L,by have:=hdv.n8;omega,rfl,rfl,Below.refl _ _⟩
   case round =>
    obtain ⟨k,y,hk,rfl,rfl,hE⟩:=hrel;replace k0:=zf hE k0;replace k1:=zf hE k1;replace hz:=World.block_lt_of_cell? _ _ k0;simp only at hz;have HE:=hid hE;have hn8:=hdv.n8.2;have HD:=hid hdv;clear hE hdv
    by_cases hlt:(k:Int) < n
    ·go_wp2_with fail
     exact ⟨⟨k+1,_,by omega,rfl,by go_num,HE.out⟩,by simp [intOf];omega⟩
    ·go_wp2_with fail
     go_ret;unfold z0j;exact ⟨_,rfl,HE1.out.trans' HE.out,fun _=>HD.out⟩
  ·go_wp2_with fail
   go_ret;unfold z0j;exact ⟨false,rfl,HE1.out,fun h=>by cases h⟩
theorem z6b:El 33 9 1:=El.mk' (bytes:=16) (z:=.string ⟨#[]⟩) (by kernel_rfl) (by kernel_rfl) rfl (by omega) (by omega)
def wRow (w:List Nat):List Value:=[.string (zad w)]
def zcu (l:List (List Nat)):List (List Value):=l.map wRow
theorem zgt (l:List (List Nat)):(zcu l).length=l.length:=by simp [zcu]
theorem zqs (a b:List (List Nat)):zcu (a ++ b)=zcu a ++ zcu b:=by simp [zcu]
theorem z1e {w:World} {v:Value} {l:List (List Nat)} (h:IsRows w 1 v (zcu l)):∃ sa cap,v = .slice sa l.length cap∧l.length≤cap∧∀ k,k < l.length→∃ b off,sa=some ⟨b,off,none⟩∧w.cell? ⟨b,off+k,none⟩=some (.string (zad (l.getD k []))):=by
 obtain ⟨sa,cap,h1,h2,h3,h4⟩:=h;rw [zgt] at h1 h2;refine ⟨sa,cap,h1,h2,fun k hk=>?_⟩
 rcases h4 with h4 | ⟨b,off,e,h4⟩
 ·have h5:l.length=0:=by rw [← zgt,h4];rfl
  omega
 ·have c0:=h4 k (by rw [zgt];exact hk) 0 (by simp [zcu,wRow])
  simp only [zcu,wRow,List.getElem_map,List.getElem_cons_zero,Nat.mul_one,Nat.add_zero] at c0;refine ⟨b,off,e,?_⟩;rw [c0,List.getD_eq_getElem?_getD,List.getElem?_eq_getElem hk];rfl
theorem zyo (u v:List Nat):zad u ++ zad v=zad (u ++ v):=by
 apply ByteArray.ext;simp [zad]
theorem zva (a:Nat):(zad [a]).toList=[UInt8.ofNat (97+a)]:=by
 unfold ByteArray.toList;unfold ByteArray.toList.loop;rw [if_pos (by simp [zad,ByteArray.size])];unfold ByteArray.toList.loop;rw [if_neg (by simp [zad,ByteArray.size])];rfl
theorem z6c (u:List Nat) {i:Nat} (h:u.length=i+1):(zad u).extract i (i+1)=zad [u.getD i 0]:=by
 apply ByteArray.ext;simp only [zad,ByteArray.data_extract];apply Array.ext
 ·simp [h]
 ·intro j h1 h2
  have hj:j=0:=by simpa using h2
  subst hj;simp [List.getD_eq_getElem?_getD,List.getElem?_eq_getElem (show i < u.length by omega)]
theorem z8p (M:zj) (V:zal M) (ka:Option Addr) (kc:Nat) (w:World) (hk:zn w .i64 (.slice ka M.n kc) (zat M.ks)) :
  Calls Tryz.prog 18 #[.agg #[.int .i64 M.L,.int .i64 M.n,.slice ka M.n kc,.int .i64 M.rest]] w fun e w'=>∃ v,e = .returned v∧Ext w w'∧IsRows w' 1 v (zcu (zaz M.L M.n)):=by
 go_enter Tryz.func18,Tryz.ntmps18
 go_upto_region 1 with (fail);obtain ⟨W0,hW0⟩:∃ W0,W0=w.alloc (.cells #[.int .i64 M.L,.int .i64 M.n,.slice ka M.n kc,.int .i64 M.rest] 27):=⟨_,rfl⟩
 have hE:Ext w W0:=by rw [hW0];exact xx
 have k0:W0.cell? ⟨w.heap.size,0,none⟩=some (.int .i64 M.L):=by rw [hW0];simp [go_sem]
 have k1:W0.cell? ⟨w.heap.size,1,none⟩=some (.int .i64 M.n):=by rw [hW0];simp [go_sem]
 have k2:W0.cell? ⟨w.heap.size,2,none⟩=some (.slice ka M.n kc):=by rw [hW0];simp [go_sem]
 have k3:W0.cell? ⟨w.heap.size,3,none⟩=some (.int .i64 M.rest):=by rw [hW0];simp [go_sem]
 have hz:w.heap.size < W0.heap.size:=World.block_lt_of_cell? _ _ k0;have HW:=hid hE;have HK:=hid (zn.ext hE hk);rw [← hW0];clear hW0 hk hE;have hL:=V.L;have hn:=V.n;clear k2 k3 HK;go_wp2_with fail;obtain ⟨W1,hW1⟩:∃ W1,W1=W0.alloc (.cells #[.string ⟨#[]⟩] 9):=⟨_,rfl⟩
 have hE1:Ext W0 W1:=by rw [hW1];exact xx
 have hr1:IsRows W1 1 (.slice (some ⟨W0.heap.size,0,none⟩) 1 1) (zcu (zaz M.L 0)):=by
  refine ⟨_,_,rfl,Nat.le_refl _,by omega,.inr ⟨_,_,rfl,?_⟩⟩;rw [hW1];exact newRow W0 [.string ⟨#[]⟩] _
 rw [← hW1];replace k0:=zf hE1 k0;replace k1:=zf hE1 k1;have hz1:=hE1.size;have HW1:=hid (HW.out.trans' hE1);have HR1:=hid hr1;clear hW1 hE1 hr1
 go_loopw [3,4] (fun ov iv W=>∃ i:Nat,i≤M.n∧iv = .int .i64 i∧IsRows W 1 ov (zcu (zaz M.L i))∧Ext W1 W) (fun _ iv _=>M.n - (intOf iv).toNat)
 case atStart=>exact ⟨0,by omega,rfl,HR1.out,Below.refl _ _⟩
 case round =>
  obtain ⟨i,hi,rfl,hr,hE⟩:=hrel;replace k0:=zf hE k0;replace k1:=zf hE k1;have zk:=World.block_lt_of_cell? _ _ k0;simp only at zk;obtain ⟨sa,cap,rfl,hcap,hc⟩:=z1e hr;have HE:=hid hE;have HR:=hid hr
  by_cases hlt:i < M.n
  ·have hii:(i:Int) < (M.n:Int):=by omega
   have HC:=hid hc;have hmx:=zpa hL.2 (show i≤8 by omega);obtain ⟨ws,hws⟩:∃ ws,ws=zaz M.L i:=⟨_,rfl⟩
   have HV:=hid (zjx M.L i);have hun:zaz M.L (i+1)=zb8 M.L i ws:=by rw [hws];rfl
   have hmx2:=zpa hL.2 (show i+1≤8 by omega);rw [hun] at hmx2;rw [← hws] at HC HR HV hmx hcap ⊢;have HUN:=hid hun;have HMX:=hid hmx2;obtain ⟨X,rfl⟩:∃ X,X=wr:=⟨_,rfl⟩
   clear hE hr hc hws hun hmx2;go_wp2_with fail
   go_loopw [5,6] (fun nv kv W=>∃ k:Nat,k≤ws.length∧kv = .int .i64 k∧zu W X.heap.size 9 1 nv (zcu (zb8 M.L i (ws.take k)))∧Ext X W) (fun _ kv _=>ws.length - (intOf kv).toNat)
   case atStart=>exact ⟨0,by omega,rfl,zu.nil _ _ _ _,Below.refl _ _⟩
   case round =>
    obtain ⟨k,hk,rfl,hown,hE⟩:=hrel;obtain ⟨na,nn,nc,rfl⟩:=hown.isSlice;have x0:=hid k0;have x1:=hid k1;clear zk;replace k0:=zf hE k0;replace k1:=zf hE k1;have zk:=World.block_lt_of_cell? _ _ k0;simp only at zk;have HE2:=hid hE;have HO2:=hid hown
    by_cases hlk:k < ws.length
    ·have hki:(k:Int) < (ws.length:Int):=by omega
     obtain ⟨wb,wo,rfl,cw⟩:=HC.out k hlk;have huv:=HV.out (ws.getD k []) (by rw [List.getD_eq_getElem?_getD,List.getElem?_eq_getElem hlk];exact List.getElem_mem hlk);have hlen:(zb8 M.L i (ws.take k)).length≤468750:=by
      have h1:zb8 M.L i ws=zb8 M.L i (ws.take k) ++ zb8 M.L i (ws.drop k):=by
       unfold zb8;rw [← List.flatMap_append,List.take_append_drop]
      have h2:=HMX.out;rw [h1,List.length_append] at h2;omega
     have HLEN:=hid hlen;obtain ⟨u,hu⟩:∃ u,u=ws.getD k []:=⟨_,rfl⟩
     rw [← hu] at cw huv;have hul:=huv.len;have HUL:=hid huv.low;have HU:=hid hu;clear hown huv hlen hu;have CW:=hid cw;clear cw;obtain ⟨Y,rfl⟩:∃ Y,Y=wr:=⟨_,rfl⟩
     have hXY:=hE.size;clear hE;go_wp2_with fail
     go_loopw [5,7] (fun nv cv W=>∃ c:Nat,c≤M.L∧cv = .int .i64 c∧zu W X.heap.size 9 1 nv (zcu (zb8 M.L i (ws.take k) ++ upW i u c))∧Ext X W) (fun _ cv _=>M.L - (intOf cv).toNat)
     case atStart=>exact ⟨0,by omega,rfl,by rw [show upW i u 0=[] from rfl,List.append_nil];exact HO2.out,HE2.out⟩
     case round =>
      obtain ⟨c,hcL,rfl,hown,hE⟩:=hrel;obtain ⟨ma,mn,mc,rfl⟩:=hown.isSlice;clear k0 k1 zk;have k0:=zf hE x0.out;have k1:=zf hE x1.out;have zk:=World.block_lt_of_cell? _ _ k0;simp only at zk;have HE3:=hid hE;have HO3:=hid hown;have cw3:=zf hE CW.out;have zw:=World.block_lt_of_cell? _ _ cw3;simp only at zw
      by_cases hlc:c < M.L
      ·have hci:(c:Int) < (M.L:Int):=by omega
       obtain ⟨b8,hb8⟩:∃ b8:Int,b8=((97+c:Nat):Int):=⟨_,rfl⟩
       have hw1:IntKind.i64.wrap (97+(c:Int))=b8:=by rw [show 97+(c:Int)=b8 by omega];exact IntWalk.i64_in _ (by omega)
       have hw2:IntKind.u8.wrap b8=b8:=IntWalk.u8_in _ (by omega);obtain ⟨X2,hX2⟩:∃ X2,X2=wr.alloc (.cells #[.int .u8 b8] 5):=⟨_,rfl⟩
       have hcv:(convert 28 9 (.slice (some ⟨wr.heap.size,0,none⟩) 1 1)).run Tryz.prog X2 = .ok (.string (zad [c])) X2:=by
        have h1:=Go.run_convert_bytes_back (P:=Tryz.prog) X2 28 9 5 ⟨wr.heap.size,0,none⟩ 1 ([c].map fun c=>UInt8.ofNat (97+c)) Tryz.underlying28 (by kernel_rfl) Tryz.underlying9 (fun q hq=>by
         have hq0:q=0:=by simpa using hq
         subst hq0;have e:((UInt8.ofNat (97+c)).toNat:Int)=b8:=by rw [UInt8.toNat_ofNat',Nat.mod_eq_of_lt (by omega),hb8]
         show X2.cell? _=some (.int .u8 ((UInt8.ofNat (97+c)).toNat:Int));rw [e,hX2,addr_add];simp [go_sem])
        exact h1
       rw [hX2] at hcv;have hYz:=hE.size;have hsu:(zad u).size=i:=by rw [zek,hul]
       have hsc:(zad [c]).size=1:=rfl;clear hX2 hE hown hb8 hul
       rcases Nat.eq_zero_or_pos i with h0 | h0
       ·subst h0
        have hup:upW 0 u (c+1)=upW 0 u c ++ [u ++ [c]]:=by rw [zo9,if_pos (by simp)]
        obtain ⟨s9,hs9⟩:∃ s9,s9=zad (u ++ [c]):=⟨_,rfl⟩
        have hcat:zad u ++ zad [c]=s9:=by rw [hs9,zyo]
        have hoY:=HO3.out.ext (show Ext wr ((wr.alloc (.cells #[.int .u8 b8] 5)).alloc (.cells #[.string s9] 9)) from xx);obtain ⟨v',X9,hrun,h2,h3⟩:=zjt z6b 33 X.heap.size hoY (wr.heap.size+1) 0 1 [[.string s9]] (by simp) (z0x _ [.string s9] _ _ _ (by simp) rfl) (by simp [Value.oneCell']) (by have:=HLEN.out;have:=zw6 0 u c;rw [zgt,List.length_append];simp only [List.length_cons,List.length_nil];omega) (by simp;omega);have h29:Hid (zu X9 X.heap.size 9 1 v' (zcu (zb8 M.L 0 (ws.take k) ++ upW 0 u (c+1)))):=hid (by
         rw [hup,← List.append_assoc,zqs];rw [hs9] at h2;exact h2)
        have h39:=hid h3;clear h2 h3 hoY hs9;go_wp2_with (at_builtin;refine zhv rfl (.tmp 46) (.tmp 53) rfl rfl rfl hrun ?_);obtain ⟨va,vn,vc,rfl⟩:=h29.out.isSlice;have hE9:Ext X X9:=(HE3.out.trans' (by exact xx)).trans h39.out;go_roundw
        case rel =>
         (repeat apply Exists.intro)
         refine ⟨?_,rfl⟩;exact ⟨c+1,by omega,by go_num,h29.out,hE9⟩
        case measure=>simp [intOf];omega
       ·obtain ⟨j,hj⟩:∃ j,i=j+1:=⟨i - 1,by omega⟩
        have hij:(i:Int) - 1=(j:Int):=by omega
        have hex:=z6c u (i:=j) (by rw [← zek,hsu,hj]);rw [← hj] at hex;obtain ⟨a,ha⟩:∃ a,a=u.getD j 0:=⟨_,rfl⟩
        rw [← ha] at hex;have hal:a < M.L:=by
         have h5:u.length=i:=by rw [← zek,hsu]
         rw [ha,List.getD_eq_getElem?_getD,List.getElem?_eq_getElem (by omega)];exact HUL.out _ (List.getElem_mem _)
        have HA:=hid ha;have hi0:((i:Int) == 0)=false:=by
         have:(i:Int)≠0:=by omega
         simpa using this
        have hji:(j:Int)≤(i:Int):=by omega
        have hji2:j≤i:=by omega
        have h0':¬ (i=0):=by omega
        have HJ:=hid hj;clear ha hj
        by_cases hac:a=c
        ·have hup:upW i u (c+1)=upW i u c:=by
          rw [zo9,show (i == 0)=false by simpa using h0',Bool.false_or,show i - 1=j by have:=HJ.out;omega,← HA.out,hac];simp
         subst hac;go_wp2_with fail;refine ⟨?_,by simp [intOf];omega⟩;exact ⟨a+1,by omega,by go_num,by rw [hup];exact HO3.out.ext (by exact xx),HE3.out.trans' (by exact xx)⟩
        ·have hwne:((zad [a]).toList == (zad [c]).toList)=false:=by
          rw [zva,zva];refine beq_false_of_ne fun h=>hac ?_
          have h7:=congrArg UInt8.toNat (List.cons.inj h).1;rw [UInt8.toNat_ofNat',UInt8.toNat_ofNat',Nat.mod_eq_of_lt (by omega),Nat.mod_eq_of_lt (by omega)] at h7;omega
         have hup:upW i u (c+1)=upW i u c ++ [u ++ [c]]:=by
          rw [zo9,if_pos (by
           rw [Bool.or_eq_true];refine .inr ?_
           rw [show i - 1=j by have:=HJ.out;omega,← HA.out];simpa using hac)]
         obtain ⟨s9,hs9⟩:∃ s9,s9=zad (u ++ [c]):=⟨_,rfl⟩
         have hcat:zad u ++ zad [c]=s9:=by rw [hs9,zyo]
         have hoY:=HO3.out.ext (show Ext wr ((wr.alloc (.cells #[.int .u8 b8] 5)).alloc (.cells #[.string s9] 9)) from xx);obtain ⟨v',X9,hrun,h2,h3⟩:=zjt z6b 33 X.heap.size hoY (wr.heap.size+1) 0 1 [[.string s9]] (by simp) (z0x _ [.string s9] _ _ _ (by simp) rfl) (by simp [Value.oneCell']) (by have:=HLEN.out;have:=zw6 i u c;rw [zgt,List.length_append];simp only [List.length_cons,List.length_nil];omega) (by simp;omega);have h29:Hid (zu X9 X.heap.size 9 1 v' (zcu (zb8 M.L i (ws.take k) ++ upW i u (c+1)))):=hid (by
          rw [hup,← List.append_assoc,zqs];rw [hs9] at h2;exact h2)
         have h39:=hid h3;clear h2 h3 hoY hs9;go_wp2_with (at_builtin;refine zhv rfl (.tmp 46) (.tmp 53) rfl rfl rfl hrun ?_);obtain ⟨va,vn,vc,rfl⟩:=h29.out.isSlice;have hE9:Ext X X9:=(HE3.out.trans' (by exact xx)).trans h39.out;go_roundw
         case rel=>exact ⟨c+1,by omega,by go_num,h29.out,hE9⟩
         case measure=>simp [intOf];omega
      ·have hci:¬ ((c:Int) < (M.L:Int)):=by omega
       have hup2:zb8 M.L i (ws.take (k+1))=zb8 M.L i (ws.take k) ++ upW i u c:=by
        rw [z56 M.L i ws hlk,← HU.out,show M.L=c by omega]
       have HUP:=hid hup2;clear hE hown hup2;go_wp2_with fail;exact ⟨⟨k+1,by omega,by go_num,by rw [HUP.out];exact HO3.out,HE3.out⟩,by simp [intOf];omega⟩
    ·have hki:¬ ((k:Int) < (ws.length:Int)):=by omega
     have htk:ws.take k=ws:=List.take_of_length_le (by omega);have HOF:Hid (IsRows wr 1 (.slice na nn nc) (zcu (zaz M.L (i+1)))):=hid (by
      rw [HUN.out];rw [htk] at hown;exact hown.isRows)
     clear hown hE htk;go_wp2_with fail;exact ⟨⟨i+1,by omega,by go_num,HOF.out,HE.out.trans' HE2.out⟩,by simp [intOf];omega⟩
  ·have hii:¬ ((i:Int) < (M.n:Int)):=by omega
   have hin:i=M.n:=by omega
   subst hin;clear hr hc hE;go_wp2_with fail;go_ret;exact ⟨_,rfl,HW1.out.trans' HE.out,HR.out⟩
theorem z6d (M:zj) (V:zal M) (ka:Option Addr) (kc:Nat) (ls:List Nat) (hv:z0i M.L M.n ls) (w:World) (hk:zn w .i64 (.slice ka M.n kc) (zat M.ks)) :
  Calls Tryz.prog 19 #[.agg #[.int .i64 M.L,.int .i64 M.n,.slice ka M.n kc,.int .i64 M.rest],.string (zad ls)] w fun e w'=>e = .returned (.bool (zi2 M ls))∧Ext w w':=by
 go_enter Tryz.func19,Tryz.ntmps19
 go_upto_region 1 with (fail);obtain ⟨W0,hW0⟩:∃ W0,W0=w.alloc (.cells #[.int .i64 M.L,.int .i64 M.n,.slice ka M.n kc,.int .i64 M.rest] 27):=⟨_,rfl⟩
 have hE:Ext w W0:=by rw [hW0];exact xx
 have k0:W0.cell? ⟨w.heap.size,0,none⟩=some (.int .i64 M.L):=by rw [hW0];simp [go_sem]
 have k1:W0.cell? ⟨w.heap.size,1,none⟩=some (.int .i64 M.n):=by rw [hW0];simp [go_sem]
 have k2:W0.cell? ⟨w.heap.size,2,none⟩=some (.slice ka M.n kc):=by rw [hW0];simp [go_sem]
 have k3:W0.cell? ⟨w.heap.size,3,none⟩=some (.int .i64 M.rest):=by rw [hW0];simp [go_sem]
 have hz:w.heap.size < W0.heap.size:=World.block_lt_of_cell? _ _ k0;have HW:=hid hE;have HK:=hid (zn.ext hE hk);rw [← hW0];clear hW0 hk hE;have hL:=V.L;have hn:=V.n;obtain ⟨kb,ko,rfl,hkk⟩:=zeg HK.out (i:=0) (by rw [V.kl];omega);have HKK:=hid hkk;have HKL:=hid V.kl;have HVV:=hid hv;clear hkk HK hv;go_wp2_with fail
 go_loopw [5,6] (fun sv iv W=>∃ i:Nat,i≤M.n∧iv = .int .i64 i∧sv = .int .i64 (zgk M ls i)∧zgk M ls i≤i * 25∧Ext W0 W) (fun _ iv _=>M.n - (intOf iv).toNat)
 case atStart=>exact ⟨0,by omega,rfl,rfl,by simp [zgk,za9],Below.refl _ _⟩
 case round =>
  obtain ⟨i,hi,rfl,rfl,hsb,hE⟩:=hrel;replace k0:=zf hE k0;replace k1:=zf hE k1;replace k2:=zf hE k2;replace k3:=zf hE k3;replace hz:=World.block_lt_of_cell? _ _ k0;simp only at hz;have HE:=hid hE
  by_cases hlt:i < M.n
  ·have hii:(i:Int) < (M.n:Int):=by omega
   have e0:=HKK.out i (by rw [HKL.out];exact hlt) wr hE;have ze:=World.block_lt_of_cell? _ _ e0;simp only at ze;have hll:=HVV.out.len;have hcl:∀ c∈ls,c < 26:=fun c hc=>by have:=HVV.out.low c hc;omega
   have hsz:i < (zad ls).size:=by rw [zek,hll];exact hlt
   have hat:=ztx hcl (show i < ls.length by omega);have hsu:=zyh M ls i;have hkb:=V.ks i hlt;have hcb:ls.getD i 0 < M.L:=by
    rw [List.getD_eq_getElem?_getD,List.getElem?_eq_getElem (by omega)];exact HVV.out.low _ (List.getElem_mem _)
   obtain ⟨c,hc⟩:∃ c,c=ls.getD i 0:=⟨_,rfl⟩
   obtain ⟨y,hy⟩:∃ y,y=M.ks.getD i 0:=⟨_,rfl⟩
   obtain ⟨S,hS⟩:∃ S,S=zgk M ls i:=⟨_,rfl⟩
   rw [← hc] at hat hcb hsu;rw [← hy] at e0 hkb hsu;rw [← hS] at hsu hsb ⊢;obtain ⟨b8,hb8⟩:∃ b8:Int,b8=(((zad ls)[i]'hsz).toNat:Int):=⟨_,rfl⟩
   have hbc:b8=((97+c:Nat):Int):=by
    rw [hb8,← hat,List.getD_eq_getElem?_getD,List.getElem?_eq_getElem (by rw [Array.length_toList];exact hsz),Option.getD_some];rfl
   have hyc:y * c≤25:=Nat.mul_le_mul (show y≤5 by omega) (show c≤5 by omega);have hw1:IntKind.u8.wrap (b8 - 97)=(c:Int):=by rw [show b8 - 97=(c:Int) by omega];exact IntWalk.u8_in _ (by omega)
   have hw2:IntKind.i64.wrap (c:Int)=(c:Int):=IntWalk.i64_in _ (by omega);have hw3:IntKind.i64.wrap ((y:Int) * (c:Int))=((y * c:Nat):Int):=by rw [IntWalk.i64_in _ (by omega)];omega
   obtain ⟨Y,hY⟩:∃ Y,Y=y * c:=⟨_,rfl⟩
   rw [← hY] at hw3 hyc hsu;have hw4:IntKind.i64.wrap ((S:Int)+(Y:Int))=((S+Y:Nat):Int):=by rw [IntWalk.i64_in _ (by omega)];omega
   have HSU:=hid hsu;have hb9:(((zad ls)[i]'hsz).toNat:Int)=b8:=hb8.symm;clear hE hc hy hS hb8 hbc hY hsu hat hcl hll;go_upto_region 5 with (fail);refine zdc rfl rfl (by kernel_rfl) (wr.heap.size) (Nat.le_refl _)
    [sqV (.int .i64 (S:Int)),sqV (.pointer (some ⟨w.heap.size,2,none⟩)),sqV (.slice (some ⟨kb,ko,none⟩) M.n kc),sqV (.int .i64 i),sqV (.pointer (some ⟨kb,ko+i,none⟩)),sqV (.int .i64 y),sqV (.string (zad ls)),sqV (.int .i64 i),sqV (.int .u8 b8),sqV (.int .u8 c),sqV (.int .i64 c),sqV (.int .i64 Y),sqV (.int .i64 ((S+Y:Nat):Int))]
    [true,true,true,true,true,true,true,true,true,true,true,true,true] [false,false,false,false,false,false,false,false,false,false,false,false,false] [true,true,true,true,true,true,true,true,true,true,true,true,true] [true,true,true,true,true,true,true,true,true,true,true,true,true]
    (by kernel_rfl) (by kernel_rfl) (by decide +kernel) (by decide +kernel) (by decide +kernel) rfl ⟨rfl,rfl⟩ ⟨?s0,?s1,?s2,?s3,?s4,?s5,?s6,?s7,?s8,?s9,?s10,?s11,?s12,trivial⟩ [some 13,some 14,some 15,some 16,some 17,some 18,some 19,some 20,some 21,some 22,some 23,some 24,some 25] rfl rfl ?send
   case s0 =>
    intro val ρ W hE hz hd hA hx;have o0:ρ (.tmp 5) = .int .i64 (S:Int):=hA.old 5 (by decide);clear hd;exact zb (W':=W) (by simp [execOp,o0,go_sem]) (Below.refl _ _) rfl
   case s1 =>
    intro val ρ W hE hz hd hA hx;have o0:ρ (.tmp 2) = .pointer (some ⟨w.heap.size,0,none⟩):=hA.old 2 (by decide);clear hd;exact zb (W':=W) (by simp [execOp,o0,go_sem]) (Below.refl _ _) rfl
   case s2 =>
    intro val ρ W hE hz hd hA hx;have d1:ρ (.tmp 14) = .pointer (some ⟨w.heap.size,2,none⟩):=(hA.dep 1 (by decide) 14 rfl).trans (hd 1 (by decide));have f_k2:=cell_below hE (by simp only;omega) k2;clear hd;exact zb (W':=W) (by simp [execOp,d1,f_k2,go_sem]) (Below.refl _ _) rfl
   case s3 =>
    intro val ρ W hE hz hd hA hx;have o0:ρ (.tmp 6) = .int .i64 i:=hA.old 6 (by decide);clear hd;exact zb (W':=W) (by simp [execOp,o0,go_sem]) (Below.refl _ _) rfl
   case s4 =>
    intro val ρ W hE hz hd hA hx;have d2:ρ (.tmp 15) = .slice (some ⟨kb,ko,none⟩) M.n kc:=(hA.dep 2 (by decide) 15 rfl).trans (hd 2 (by decide));have d3:ρ (.tmp 16) = .int .i64 i:=(hA.dep 3 (by decide) 16 rfl).trans (hd 3 (by decide));clear hd;exact zb (W':=W) (by simp [execOp,d2,d3,hii,go_sem]) (Below.refl _ _) rfl
   case s5 =>
    intro val ρ W hE hz hd hA hx;have d4:ρ (.tmp 17) = .pointer (some ⟨kb,ko+i,none⟩):=(hA.dep 4 (by decide) 17 rfl).trans (hd 4 (by decide));have f_e0:=cell_below hE (by simp only;omega) e0;clear hd;exact zb (W':=W) (by simp [execOp,d4,f_e0,go_sem]) (Below.refl _ _) rfl
   case s6 =>
    intro val ρ W hE hz hd hA hx;have o0:ρ (.tmp 1) = .string (zad ls):=hA.old 1 (by decide);clear hd;exact zb (W':=W) (by simp [execOp,o0,go_sem]) (Below.refl _ _) rfl
   case s7 =>
    intro val ρ W hE hz hd hA hx;have o0:ρ (.tmp 6) = .int .i64 i:=hA.old 6 (by decide);clear hd;exact zb (W':=W) (by simp [execOp,o0,go_sem]) (Below.refl _ _) rfl
   case s8 =>
    intro val ρ W hE hz hd hA hx;have d6:ρ (.tmp 19) = .string (zad ls):=(hA.dep 6 (by decide) 19 rfl).trans (hd 6 (by decide));have d7:ρ (.tmp 20) = .int .i64 i:=(hA.dep 7 (by decide) 20 rfl).trans (hd 7 (by decide));clear hd;exact zb (W':=W) (by simp [execOp,d6,d7,hsz,hb9,go_sem]) (Below.refl _ _) rfl
   case s9 =>
    intro val ρ W hE hz hd hA hx;have d8:ρ (.tmp 21) = .int .u8 b8:=(hA.dep 8 (by decide) 21 rfl).trans (hd 8 (by decide));clear hd;exact zb (W':=W) (by simp [execOp,hA.const,d8,hw1,go_sem]) (Below.refl _ _) rfl
   case s10 =>
    intro val ρ W hE hz hd hA hx;have d9:ρ (.tmp 22) = .int .u8 c:=(hA.dep 9 (by decide) 22 rfl).trans (hd 9 (by decide));clear hd;exact zb (W':=W) (by simp [execOp,d9,hw2,go_sem]) (Below.refl _ _) rfl
   case s11 =>
    intro val ρ W hE hz hd hA hx;have d5:ρ (.tmp 18) = .int .i64 y:=(hA.dep 5 (by decide) 18 rfl).trans (hd 5 (by decide));have d10:ρ (.tmp 23) = .int .i64 c:=(hA.dep 10 (by decide) 23 rfl).trans (hd 10 (by decide));clear hd;exact zb (W':=W) (by simp [execOp,d5,d10,hw3,go_sem]) (Below.refl _ _) rfl
   case s12 =>
    intro val ρ W hE hz hd hA hx;have d0:ρ (.tmp 13) = .int .i64 (S:Int):=(hA.dep 0 (by decide) 13 rfl).trans (hd 0 (by decide));have d11:ρ (.tmp 24) = .int .i64 Y:=(hA.dep 11 (by decide) 24 rfl).trans (hd 11 (by decide));clear hd;exact zb (W':=W) (by simp [execOp,d0,d11,hw4,go_sem]) (Below.refl _ _) rfl
   case send =>
    intro val Y9 hE9 hzz hv;obtain ⟨-,-,-,-,-,-,-,-,-,-,-,-,r12,-⟩:=hv;have q12:val 12 = .int .i64 ((S+Y:Nat):Int):=r12;have HY:=hid hE9;simp only [zbe,q12];go_frame;clear hE9 hzz r12 q12 k0 k1 k2 k3 e0;go_wp2_with fail;exact ⟨⟨i+1,by omega,by go_num,by rw [HSU.out,Int.natCast_add],by rw [HSU.out];omega,HE.out.trans' HY.out⟩,by simp [intOf];omega⟩
  ·have hii:¬ ((i:Int) < (M.n:Int)):=by omega
   have hin:i=M.n:=by omega
   have hr:=V.rest;have hck:zi2 M ls=decide (zgk M ls i % M.L=M.rest):=by rw [hin];rfl
   obtain ⟨S,hS⟩:∃ S,S=zgk M ls i:=⟨_,rfl⟩
   rw [← hS] at hsb hck ⊢;have hL0:¬ M.L=0:=by omega
   have w4:Int.tmod (S:Int) (M.L:Int)=((S % M.L:Nat):Int):=by rw [Int.tmod_eq_emod_of_nonneg (by omega)];rfl
   obtain ⟨m,hm⟩:∃ m,m=S % M.L:=⟨_,rfl⟩
   have hmb:m < M.L:=by rw [hm];exact Nat.mod_lt _ (by omega)
   rw [← hm] at w4 hck;have w5:IntKind.i64.wrap (m:Int)=(m:Int):=IntWalk.i64_in _ (by omega);have HCK:=hid hck;clear hE hS hm hck hin;go_upto_region 6 with (fail);refine zdc rfl rfl (by kernel_rfl) (wr.heap.size) (Nat.le_refl _)
    [sqV (.int .i64 (S:Int)),sqV (.pointer (some ⟨w.heap.size,0,none⟩)),sqV (.int .i64 M.L),sqV (.int .i64 m),sqV (.pointer (some ⟨w.heap.size,3,none⟩)),sqV (.int .i64 M.rest),sqV (.bool ((m:Int) == (M.rest:Int)))]
    [true,true,true,true,true,true,true] [false,false,false,false,false,false,false] [true,true,true,true,true,true,true] [true,true,true,true,true,true,true]
    (by kernel_rfl) (by kernel_rfl) (by decide +kernel) (by decide +kernel) (by decide +kernel) rfl ⟨rfl,rfl⟩ ⟨?s0,?s1,?s2,?s3,?s4,?s5,?s6,trivial⟩ [some 26,some 27,some 28,some 29,some 30,some 31,some 32] rfl rfl ?send
   case s0 =>
    intro val ρ W hE hz hd hA hx;have o0:ρ (.tmp 5) = .int .i64 (S:Int):=hA.old 5 (by decide);clear hd;exact zb (W':=W) (by simp [execOp,o0,go_sem]) (Below.refl _ _) rfl
   case s1 =>
    intro val ρ W hE hz hd hA hx;have o0:ρ (.tmp 2) = .pointer (some ⟨w.heap.size,0,none⟩):=hA.old 2 (by decide);clear hd;exact zb (W':=W) (by simp [execOp,o0,go_sem]) (Below.refl _ _) rfl
   case s2 =>
    intro val ρ W hE hz hd hA hx;have d1:ρ (.tmp 27) = .pointer (some ⟨w.heap.size,0,none⟩):=(hA.dep 1 (by decide) 27 rfl).trans (hd 1 (by decide));have f_k0:=cell_below hE (by simp only;omega) k0;clear hd;exact zb (W':=W) (by simp [execOp,d1,f_k0,go_sem]) (Below.refl _ _) rfl
   case s3 =>
    intro val ρ W hE hz hd hA hx;have d0:ρ (.tmp 26) = .int .i64 (S:Int):=(hA.dep 0 (by decide) 26 rfl).trans (hd 0 (by decide));have d2:ρ (.tmp 28) = .int .i64 M.L:=(hA.dep 2 (by decide) 28 rfl).trans (hd 2 (by decide));clear hd;exact zb (W':=W) (by simp [execOp,d0,d2,hL0,w4,go_sem]) (Below.refl _ _) rfl
   case s4 =>
    intro val ρ W hE hz hd hA hx;have o0:ρ (.tmp 2) = .pointer (some ⟨w.heap.size,0,none⟩):=hA.old 2 (by decide);clear hd;exact zb (W':=W) (by simp [execOp,o0,go_sem]) (Below.refl _ _) rfl
   case s5 =>
    intro val ρ W hE hz hd hA hx;have d4:ρ (.tmp 30) = .pointer (some ⟨w.heap.size,3,none⟩):=(hA.dep 4 (by decide) 30 rfl).trans (hd 4 (by decide));have f_k3:=cell_below hE (by simp only;omega) k3;clear hd;exact zb (W':=W) (by simp [execOp,d4,f_k3,go_sem]) (Below.refl _ _) rfl
   case s6 =>
    intro val ρ W hE hz hd hA hx;have d3:ρ (.tmp 29) = .int .i64 m:=(hA.dep 3 (by decide) 29 rfl).trans (hd 3 (by decide));have d5:ρ (.tmp 31) = .int .i64 M.rest:=(hA.dep 5 (by decide) 31 rfl).trans (hd 5 (by decide));clear hd;exact zb (W':=W) (by simp [execOp,d3,d5,go_sem]) (Below.refl _ _) rfl
   case send =>
    intro val Y9 hE9 hzz hv;obtain ⟨-,-,-,-,-,-,r6,-⟩:=hv;have q6:val 6 = .bool ((m:Int) == (M.rest:Int)):=r6;have HY:=hid hE9;simp only [zbe,q6];go_frame;clear hE9 hzz r6 q6 k0 k1 k2 k3;go_wp2_with fail;go_ret;refine ⟨zbl ?_,HW.out.trans' (HE.out.trans' HY.out)⟩;rw [HCK.out]
    by_cases e:m=M.rest
    ·subst e
     simp
    ·rw [decide_eq_false e]
     exact beq_false_of_ne (by omega)
theorem z8q (M:zj) (V:zal M) (ka:Option Addr) (kc:Nat) (w:World) (hk:zn w .i64 (.slice ka M.n kc) (zat M.ks)) :
  Calls Tryz.prog 7 #[.agg #[.int .i64 M.L,.int .i64 M.n,.slice ka M.n kc,.int .i64 M.rest]] w fun e w'=>∃ v,e = .returned v∧Ext w w'∧IsRows w' 1 v (zcu (zqr M)):=by
 go_enter Tryz.func7,Tryz.ntmps7
 go_upto_region 1 with (fail);obtain ⟨W0,hW0⟩:∃ W0,W0=w.alloc (.cells #[.int .i64 M.L,.int .i64 M.n,.slice ka M.n kc,.int .i64 M.rest] 27):=⟨_,rfl⟩
 have hE:Ext w W0:=by rw [hW0];exact xx
 have k0:W0.cell? ⟨w.heap.size,0,none⟩=some (.int .i64 M.L):=by rw [hW0];simp [go_sem]
 have k1:W0.cell? ⟨w.heap.size,1,none⟩=some (.int .i64 M.n):=by rw [hW0];simp [go_sem]
 have k2:W0.cell? ⟨w.heap.size,2,none⟩=some (.slice ka M.n kc):=by rw [hW0];simp [go_sem]
 have k3:W0.cell? ⟨w.heap.size,3,none⟩=some (.int .i64 M.rest):=by rw [hW0];simp [go_sem]
 have hz:w.heap.size < W0.heap.size:=World.block_lt_of_cell? _ _ k0;have HW:=hid hE;have HK:=hid (zn.ext hE hk);rw [← hW0];clear hW0 hk hE;have hL:=V.L;have hn:=V.n;go_wp2_with fail;refine (z8p M V ka kc _ HK.out).mono ?_
 rintro e W1 ⟨v1,rfl,hE1,hr1⟩;replace k0:=zf hE1 k0;replace k1:=zf hE1 k1;replace k2:=zf hE1 k2;replace k3:=zf hE1 k3;obtain ⟨sa,cap,rfl,hcap,hc⟩:=z1e hr1;have hmx:=zpa hL.2 hn.2;have HV:=hid (zjx M.L M.n);have HCO:Hid (zqr M=(zaz M.L M.n).filter (zi2 M)):=hid rfl;obtain ⟨ws,hws⟩:∃ ws,ws=zaz M.L M.n:=⟨_,rfl⟩
 rw [← hws] at hr1 hcap hc hmx HV HCO;rw [← hws];have HE1:=hid (HW.out.trans' hE1);have HK1:=hid (HK.out.ext hE1);have HC:=hid hc;clear hE1 hr1 hc hws hz;go_wp2_with fail
 go_loopw [4,5] (fun ov iv W=>∃ i:Nat,i≤ws.length∧iv = .int .i64 i∧zu W W1.heap.size 9 1 ov (zcu ((ws.take i).filter (zi2 M)))∧Ext W1 W) (fun _ iv _=>ws.length - (intOf iv).toNat)
 case atStart=>exact ⟨0,by omega,rfl,zu.nil _ _ _ _,Below.refl _ _⟩
 case round =>
  obtain ⟨i,hi,rfl,hown,hE⟩:=hrel;obtain ⟨na,nn,nc,rfl⟩:=hown.isSlice;have HE:=hid hE;have HO:=hid hown
  by_cases hlt:i < ws.length
  ·have hii:(i:Int) < (ws.length:Int):=by omega
   obtain ⟨wb,wo,rfl,cw⟩:=HC.out i hlt;replace cw:=zf hE cw;replace k0:=zf hE k0;replace k1:=zf hE k1;replace k2:=zf hE k2;replace k3:=zf hE k3;have hmem:ws.getD i []∈ws:=by rw [List.getD_eq_getElem?_getD,List.getElem?_eq_getElem hlt];exact List.getElem_mem hlt
   have huv:=HV.out _ hmem;have htk:(ws.take (i+1)).filter (zi2 M)=(ws.take i).filter (zi2 M) ++ if zi2 M (ws.getD i [])=true then [ws.getD i []] else []:=by
    rw [List.take_add_one,List.filter_append,List.getElem?_eq_getElem hlt,List.getD_eq_getElem?_getD,List.getElem?_eq_getElem hlt];simp only [Option.toList_some,Option.getD_some,List.filter_cons,List.filter_nil]
   have hln:((ws.take i).filter (zi2 M)).length≤ws.length:=Nat.le_trans (List.length_filter_le _ _) (by rw [List.length_take];omega);obtain ⟨u,hu⟩:∃ u,u=ws.getD i []:=⟨_,rfl⟩
   rw [← hu] at cw huv htk;obtain ⟨q,hq⟩:∃ q,q=zi2 M u:=⟨_,rfl⟩
   rw [← hq] at htk;have HCK:=hid fun W hk=>z6d M V ka kc u huv W hk
   rw [← hq] at HCK;have HTK:=hid htk;have HLN:=hid hln;have zw:=World.block_lt_of_cell? _ _ cw;simp only at zw;have hz1:=hE.size;have zk:=World.block_lt_of_cell? _ _ k0;simp only at zk;clear hE hown hu hq huv htk hln hmem;go_upto_region 6 with (fail);refine zb5 (wr.heap.size) (Nat.le_refl _)
    [sqV (.agg #[.int .i64 M.L,.int .i64 M.n,.slice ka M.n kc,.int .i64 M.rest]),sqV (.slice (some ⟨wb,wo,none⟩) ws.length cap),sqV (.int .i64 i),sqV (.pointer (some ⟨wb,wo+i,none⟩)),sqV (.string (zad u)),sqV (.bool q)]
    [true,true,true,true,true,true] [false,false,false,false,false,false] [true,true,true,true,true,true] [true,true,true,true,true,true]
    (by kernel_rfl) (by kernel_rfl) (by decide +kernel) (by decide +kernel) (by decide +kernel) rfl ⟨rfl,rfl⟩ ⟨?s0,?s1,?s2,?s3,?s4,?s5,trivial⟩ [some 14,some 15,some 16,some 17,some 18,some 19] rfl rfl ?send
   case s0 =>
    intro val ρ W hE hz hd hA hx;have o0:ρ (.tmp 1) = .pointer (some ⟨w.heap.size,0,none⟩):=hA.old 1 (by decide);have f_k0:=cell_below hE (by simp only;omega) k0;have f_k1:=cell_below hE (by simp only;omega) k1;have f_k2:=cell_below hE (by simp only;omega) k2;have f_k3:=cell_below hE (by simp only;omega) k3;clear hd;exact zb (W':=W) (by simp [execOp,o0,f_k0,f_k1,f_k2,f_k3,go_sem]) (Below.refl _ _) rfl
   case s1 =>
    intro val ρ W hE hz hd hA hx;have o0:ρ (.tmp 3) = .slice (some ⟨wb,wo,none⟩) ws.length cap:=hA.old 3 (by decide);clear hd;exact zb (W':=W) (by simp [execOp,o0,go_sem]) (Below.refl _ _) rfl
   case s2 =>
    intro val ρ W hE hz hd hA hx;have o0:ρ (.tmp 5) = .int .i64 i:=hA.old 5 (by decide);clear hd;exact zb (W':=W) (by simp [execOp,o0,go_sem]) (Below.refl _ _) rfl
   case s3 =>
    intro val ρ W hE hz hd hA hx;have d1:ρ (.tmp 15) = .slice (some ⟨wb,wo,none⟩) ws.length cap:=(hA.dep 1 (by decide) 15 rfl).trans (hd 1 (by decide));have d2:ρ (.tmp 16) = .int .i64 i:=(hA.dep 2 (by decide) 16 rfl).trans (hd 2 (by decide));clear hd;exact zb (W':=W) (by simp [execOp,d1,d2,hii,go_sem]) (Below.refl _ _) rfl
   case s4 =>
    intro val ρ W hE hz hd hA hx;have d3:ρ (.tmp 17) = .pointer (some ⟨wb,wo+i,none⟩):=(hA.dep 3 (by decide) 17 rfl).trans (hd 3 (by decide));have f_cw:=cell_below hE (by simp only;omega) cw;clear hd;exact zb (W':=W) (by simp [execOp,d3,f_cw,go_sem]) (Below.refl _ _) rfl
   case s5 =>
    intro val ρ W hE hz hd hA hx;have d0:ρ (.tmp 14) = .agg #[.int .i64 M.L,.int .i64 M.n,.slice ka M.n kc,.int .i64 M.rest]:=(hA.dep 0 (by decide) 14 rfl).trans (hd 0 (by decide));have d4:ρ (.tmp 18) = .string (zad u):=(hA.dep 4 (by decide) 18 rfl).trans (hd 4 (by decide));clear hd;refine zcm 19 _ _ rfl #[.agg #[.int .i64 M.L,.int .i64 M.n,.slice ka M.n kc,.int .i64 M.rest],.string (zad u)] (hA.func _) (by simp [d0,d4]) (fun args W=>Tryz.call19 args W) ((HCK.out W (HK1.out.ext (HE.out.trans' hE))).mono ?_);rintro e w' ⟨rfl,hb⟩;exact ⟨_,rfl,hb,rfl⟩
   case send =>
    intro val Y9 hE9 hzz hv;obtain ⟨-,-,-,-,-,r5,-⟩:=hv;have q5:val 5 = .bool q:=r5;have HY:=hid hE9;simp only [zbe,q5];go_frame;clear r5 q5;have hY:Ext wr Y9:=HY.out;replace cw:=zf hY cw;replace zw:=World.block_lt_of_cell? _ _ cw;simp only at zw;have hYz:=hY.size;have HO9:=hid (HO.out.ext hY);clear hE9 hzz hY k0 k1 k2 k3 zk;cases q
    ·rw [if_neg (by simp),List.append_nil] at HTK
     go_wp2_with fail;exact ⟨⟨i+1,by omega,by go_num,by rw [HTK.out];exact HO9.out,HE.out.trans' HY.out⟩,by simp [intOf];omega⟩
    ·rw [if_pos rfl] at HTK
     have hoY:=HO9.out.ext (show Ext Y9 (Y9.alloc (.cells #[.string (zad u)] 9)) from xx);obtain ⟨v',X9,hrun,h2,h3⟩:=zjt z6b 33 W1.heap.size hoY Y9.heap.size 0 1 [[.string (zad u)]] (by simp) (newRow _ [.string (zad u)] _) (by simp [Value.oneCell']) (by have:=HLN.out;rw [zgt];simp only [List.length_cons,List.length_nil];omega) (by simp;omega);have h29:Hid (zu X9 W1.heap.size 9 1 v' (zcu ((ws.take (i+1)).filter (zi2 M)))):=hid (by
      rw [HTK.out,zqs];exact h2)
     have h39:Hid (Ext W1 X9):=hid ((Ext.trans' HE.out (Ext.trans' HY.out (by exact xx))).trans h3);clear h2 h3 hoY;go_wp2_with (at_builtin;refine zhv rfl (.tmp 20) (.tmp 25) rfl rfl rfl hrun ?_);obtain ⟨va,vn,vc,rfl⟩:=h29.out.isSlice;go_roundw
     case rel=>exact ⟨i+1,by omega,by go_num,h29.out,h39.out⟩
     case measure=>simp [intOf];omega
  ·have hii:¬ ((i:Int) < (ws.length:Int)):=by omega
   have HR:=hid hown.isRows;rw [show ws.take i=ws from List.take_of_length_le (by omega),← HCO.out] at HR;clear hE hown;go_wp2_with fail;go_ret;exact ⟨_,rfl,HE1.out.trans' HE.out,HR.out⟩
def zim (M:zj) (bs:List Nat) (i:Nat):Nat:=if bs.length=0 then 2 ^ M.L - 1 else 1+bs.getD (i % bs.length) 0 % (2 ^ M.L - 1)
def zde (M:zj) (bs:List Nat) (k:Nat):List Nat:=(List.range k).map (zim M bs)
theorem zvb (M:zj) (bs:List Nat) (k:Nat):zde M bs (k+1)=zde M bs k ++ [zim M bs k]:=by
 unfold zde;rw [List.range_succ,List.map_append];rfl
theorem zlh (M:zj) (bs:List Nat) (k:Nat):(zde M bs k).length=k:=by simp [zde]
theorem z8r {L:Nat} (h:2≤L∧L≤6):4≤2 ^ L∧2 ^ L≤64:=by
 have h1:2 ^ 2≤2 ^ L:=Nat.pow_le_pow_right (by omega) h.1;have h2:2 ^ L≤2 ^ 6:=Nat.pow_le_pow_right (by omega) h.2;omega
theorem zyp {M:zj} (V:zal M) (bs:List Nat) (i:Nat):1≤zim M bs i∧zim M bs i < 2 ^ M.L:=by
 have h:=z8r V.L;unfold zim
 split
 ·omega
 ·have:=Nat.mod_lt (bs.getD (i % bs.length) 0) (show 0 < 2 ^ M.L - 1 by omega)
  omega
def zr1 (M:zj) (bs:List Nat):zj:={ M with ss:=zde M bs M.n }
theorem z1f (M:zj) (bs:List Nat) {i:Nat} (h:i < M.n):(zr1 M bs).ss.getD i 0=zim M bs i:=by
 simp [zr1,zde,List.getD_eq_getElem?_getD,h]
theorem zady {M:zj} (V:zal M) (bs:List Nat):zal (zr1 M bs):=by
 refine ⟨V.L,V.n,V.kl,zlh M bs M.n,V.ks,fun i hi=>?_,V.rest⟩;rw [z1f M bs hi];exact (zyp V bs i).2
theorem z8s {M:zj} (V:zal M) (bs:List Nat):∀ i,i < (zr1 M bs).n→1≤(zr1 M bs).ss.getD i 0:=fun i hi=>by
 rw [z1f M bs hi];exact (zyp V bs i).1
theorem z6e (M:zj) (V:zal M) (ka:Option Addr) (kc:Nat) (bs:List Nat) (hb8:∀ x∈bs,x≤255) (bv:Value) (w:World) (hk:zn w .i64 (.slice ka M.n kc) (zat M.ks)) (hb:zn w .u8 bv (zat bs)) :
  Calls Tryz.prog 11 #[.agg #[.int .i64 M.L,.int .i64 M.n,.slice ka M.n kc,.int .i64 M.rest],bv] w fun e w'=>∃ sa sc,e = .returned (.slice sa M.n sc)∧Ext w w'∧zn w' .i64 (.slice sa M.n sc) (zat (zde M bs M.n)):=by
 obtain ⟨ba,bc,rfl,hbl,hbc,hbx⟩:=hb.spec;rw [zbx] at hbl ⊢;have HBX:=hid hbx;clear hb hbx
 go_enter Tryz.func11,Tryz.ntmps11
 go_upto_region 1 with (fail);obtain ⟨W0,hW0⟩:∃ W0,W0=w.alloc (.cells #[.int .i64 M.L,.int .i64 M.n,.slice ka M.n kc,.int .i64 M.rest] 27):=⟨_,rfl⟩
 have hE:Ext w W0:=by rw [hW0];exact xx
 have k0:W0.cell? ⟨w.heap.size,0,none⟩=some (.int .i64 M.L):=by rw [hW0];simp [go_sem]
 have k1:W0.cell? ⟨w.heap.size,1,none⟩=some (.int .i64 M.n):=by rw [hW0];simp [go_sem]
 have k2:W0.cell? ⟨w.heap.size,2,none⟩=some (.slice ka M.n kc):=by rw [hW0];simp [go_sem]
 have k3:W0.cell? ⟨w.heap.size,3,none⟩=some (.int .i64 M.rest):=by rw [hW0];simp [go_sem]
 have hz:w.heap.size < W0.heap.size:=World.block_lt_of_cell? _ _ k0;have HW:=hid hE;have HK:=hid (zn.ext hE hk);rw [← hW0];clear hW0 hk hE;have hL:=V.L;have hn:=V.n;obtain ⟨hw1,hw2,hw3⟩:=bshl hL.2;have hlo:=z8r hL;have hof:∀ i,zim M bs i=if bs.length=0 then 2 ^ M.L - 1 else 1+bs.getD (i % bs.length) 0 % (2 ^ M.L - 1):=fun i=>rfl
 obtain ⟨N,hN⟩:∃ N:Nat,N=2 ^ M.L:=⟨_,rfl⟩
 rw [← hN] at hw1 hw2 hw3 hlo hof;have hmin:min M.L 64=M.L:=by omega
 obtain ⟨Z,hZ⟩:∃ Z:Nat,Z=N - 1:=⟨_,rfl⟩
 have hwN:IntKind.i64.wrap ((N:Int) - 1)=(Z:Int):=by rw [IntWalk.i64_in _ (by omega)];omega
 rw [← hZ] at hof;have hZ3:3≤Z∧Z≤63:=by omega
 have HOF:=hid hof;clear hN hZ hof hw2 hw3 hlo k2 k3 HK;go_wp2_with fail
 go_loopw [5,6] (fun ov iv W=>∃ i:Nat,i≤M.n∧iv = .int .i64 i∧zu W W0.heap.size 3 1 ov ((zat (zde M bs i)).map zb0)∧Ext W0 W) (fun _ iv _=>M.n - (intOf iv).toNat)
 case atStart=>exact ⟨0,by omega,rfl,zu.nil _ _ _ _,Below.refl _ _⟩
 case round =>
  obtain ⟨i,hi,rfl,hown,hE⟩:=hrel;obtain ⟨na,nn,nc,rfl⟩:=hown.isSlice;replace k0:=zf hE k0;replace k1:=zf hE k1;have zk:=World.block_lt_of_cell? _ _ k0;simp only at zk;have HE:=hid hE;have HO:=hid hown;have hz1:=hE.size
  by_cases hlt:i < M.n
  ·have hii:(i:Int) < (M.n:Int):=by omega
   have hof:=HOF.out i;obtain ⟨t,ht⟩:∃ t,t=zim M bs i:=⟨_,rfl⟩
   rw [← ht] at hof;have HT:=hid ht;clear hE hown ht
   by_cases hb0:bs.length=0
   ·have hb0i:¬ ((0:Int) < (bs.length:Int)):=by omega
    rw [if_pos hb0] at hof;subst hof;go_upto_region 8 with (fail);have HTS:Hid (zat (zde M bs (i+1))=zat (zde M bs i) ++ [(t:Int)]):=hid (by rw [zvb,← HT.out];simp [zat]);have hoY:=HO.out.ext (show Ext wr (wr.alloc (.cells #[.int .i64 (t:Int)] 3)) from xx);obtain ⟨v',X9,hrun,h2,h3⟩:=zjt zo0 25 W0.heap.size hoY wr.heap.size 0 1 [zb0 (t:Int)] (by simp [zb0]) (newRow _ [.int .i64 (t:Int)] _) (by simp [zb0,Value.oneCell']) (by rw [List.length_map,zbx,zlh];simp only [List.length_cons,List.length_nil];omega) (by simp;omega);have h29:Hid (zu X9 W0.heap.size 3 1 v' ((zat (zde M bs (i+1))).map zb0)):=hid (by
     rw [HTS.out,List.map_append];exact h2)
    have h39:Hid (Ext W0 X9):=hid ((Ext.trans' HE.out (by exact xx)).trans h3);clear h2 h3 hoY;go_wp2_with (at_builtin;refine zhv rfl (.tmp 32) (.tmp 34) rfl rfl rfl hrun ?_);obtain ⟨va,vn,vc,rfl⟩:=h29.out.isSlice;go_roundw
    case rel=>exact ⟨i+1,by omega,by go_num,h29.out,h39.out⟩
    case measure=>simp [intOf];omega
   ·have hb0i:(0:Int) < (bs.length:Int):=by omega
    rw [if_neg hb0] at hof;have hml:i % bs.length < bs.length:=Nat.mod_lt _ (by omega)
    rcases HBX.out with h0 | ⟨b,off,rfl,hcc⟩
    ·have:(zat bs).length=0:=by rw [h0];rfl
     rw [zbx] at this;omega
    have d0:=zf (HW.out.trans' HE.out) (hcc (i % bs.length) (by rw [zbx];exact hml));rw [zw1 hml] at d0;have hx8:bs.getD (i % bs.length) 0≤255:=by
     rw [List.getD_eq_getElem?_getD,List.getElem?_eq_getElem hml];exact hb8 _ (List.getElem_mem _)
    obtain ⟨m,hm⟩:∃ m,m=i % bs.length:=⟨_,rfl⟩
    rw [← hm] at d0 hml hx8 hof;obtain ⟨x,hx⟩:∃ x,x=bs.getD m 0:=⟨_,rfl⟩
    rw [← hx] at d0 hx8 hof;have hbn0:¬ (bs.length=0):=hb0;have w1:Int.tmod (i:Int) (bs.length:Int)=(m:Int):=by rw [Int.tmod_eq_emod_of_nonneg (by omega),hm];rfl
    have w2:Int.tmod (x:Int) (Z:Int)=((x % Z:Nat):Int):=by rw [Int.tmod_eq_emod_of_nonneg (by omega)];rfl
    obtain ⟨y,hy⟩:∃ y,y=x % Z:=⟨_,rfl⟩
    have hyb:y < Z:=by rw [hy];exact Nat.mod_lt _ (by omega)
    rw [← hy] at w2 hof;have hZ0:¬ (Z=0):=by omega
    have w3:IntKind.i64.wrap (1+(y:Int))=(t:Int):=by rw [IntWalk.i64_in _ (by omega)];omega
    have w4:IntKind.i64.wrap (x:Int)=(x:Int):=IntWalk.i64_in _ (by omega);have hmi:(m:Int) < (bs.length:Int):=by omega
    have zd:=World.block_lt_of_cell? _ _ d0;simp only at zd;clear hm hx hy hof hcc;go_upto_region 8 with (fail);have HTS:Hid (zat (zde M bs (i+1))=zat (zde M bs i) ++ [(t:Int)]):=hid (by rw [zvb,← HT.out];simp [zat]);have hoY:=HO.out.ext (show Ext wr (wr.alloc (.cells #[.int .i64 (t:Int)] 3)) from xx);obtain ⟨v',X9,hrun,h2,h3⟩:=zjt zo0 25 W0.heap.size hoY wr.heap.size 0 1 [zb0 (t:Int)] (by simp [zb0]) (newRow _ [.int .i64 (t:Int)] _) (by simp [zb0,Value.oneCell']) (by rw [List.length_map,zbx,zlh];simp only [List.length_cons,List.length_nil];omega) (by simp;omega);have h29:Hid (zu X9 W0.heap.size 3 1 v' ((zat (zde M bs (i+1))).map zb0)):=hid (by
     rw [HTS.out,List.map_append];exact h2)
    have h39:Hid (Ext W0 X9):=hid ((Ext.trans' HE.out (by exact xx)).trans h3);clear h2 h3 hoY;go_wp2_with (at_builtin;refine zhv rfl (.tmp 32) (.tmp 34) rfl rfl rfl hrun ?_);obtain ⟨va,vn,vc,rfl⟩:=h29.out.isSlice;go_roundw
    case rel=>exact ⟨i+1,by omega,by go_num,h29.out,h39.out⟩
    case measure=>simp [intOf];omega
  ·have hii:¬ ((i:Int) < (M.n:Int)):=by omega
   have hin:i=M.n:=by omega
   have HR:Hid (zn wr .i64 (.slice na nn nc) (zat (zde M bs M.n))):=hid (by rw [hin] at hown;exact hown.oneInts);have hnn:nn=M.n:=by
    obtain ⟨_,_,e,-⟩:=HR.out;rw [List.length_map,zbx,zlh] at e;cases e;rfl
   subst hnn;clear hE hown hin;go_wp2_with fail;go_ret;exact ⟨_,_,rfl,HW.out.trans' HE.out,HR.out⟩
end Go.Proofs.YtnoffnkmibjndaaGreat
