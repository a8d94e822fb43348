/-
  The walks of ref06.CheckDay and of top.day06, for any day: where they say yes, the day is valid.
-/
import Derived.Test.YtdcnbeehckgpcaaGreatTd
set_option maxRecDepth 200000
set_option maxHeartbeats 0
set_option linter.unusedSimpArgs false
set_option linter.unusedVariables false
namespace Go.Proofs.YtdcnbeehckgpcaaGreat
open Go.Lib (hid)
open Go.RowKit Go.Shelf
structure zzo(L n:Int)(ks:List Int)(rest:Int):Prop where
 l6:2≤L∧L≤6
 n8:2≤n∧n≤8
 kl:(ks.length:Int)=n
 kx:∀x∈ks,0≤x∧x<L
 rs:0≤rest∧rest<L
theorem z4c(L n rest:Int)(ks:List Int)(ka:Option Addr)(kc:Nat)(w:World)(hk:zo w .i64 (.slice ka ks.length kc) ks) :
  Calls Tryz.prog 18 #[.agg #[.int .i64 L,.int .i64 n,.slice ka ks.length kc,.int .i64 rest]] w fun e w'=>∃x:Int,e=.returned (.int .i64 x)∧Ext w w'∧(x=0→zzo L n ks rest):=by
 obtain⟨_,_,e0,hl1,hl2,hc⟩:=hk.spec;cases e0;have HC:=hid hc;clear hk hc
 go_enter Tryz.func18,Tryz.ntmps18
 by_cases hL:2≤L∧L≤6∧2≤n∧n≤8
 ·obtain⟨hL1,hL2,hn1,hn2⟩:=hL
  have q1:¬(L<2):=by omega
  have q2:¬(6<L):=by omega
  have q3:¬(n<2):=by omega
  have q4:¬(8<n):=by omega
  by_cases hkl:(ks.length:Int)=n
  ·subst hkl
   go_wp2_with fail;obtain⟨W0,hW0⟩:∃W0,W0=w.alloc (.cells #[.int .i64 L,.int .i64 ks.length,.slice ka ks.length kc,.int .i64 rest] 24):=⟨_,rfl⟩
   have hE:Ext w W0:=by rw[hW0];exact xx
   have k0:W0.cell? ⟨w.heap.size,0,none⟩=some (.int .i64 L):=by rw[hW0];simp[go_sem]
   have k2:W0.cell? ⟨w.heap.size,2,none⟩=some (.slice ka ks.length kc):=by rw[hW0];simp[go_sem]
   have k3:W0.cell? ⟨w.heap.size,3,none⟩=some (.int .i64 rest):=by rw[hW0];simp[go_sem]
   have hz:=wfu _ _ k0;rw[←hW0];have HW:=hid hE;clear hW0 hE
   go_loopw [3] (fun iv W=>∃k:Nat,k≤ks.length∧iv=.int .i64 k∧(∀x∈ks.take k,0≤x∧x<L)∧Ext W0 W) (fun iv _=>ks.length-(intOf iv).toNat)
   case atStart=>exact⟨0,by omega,rfl,by simp,Below.refl _ _⟩
   case round =>
    obtain⟨k,hk,rfl,hx,hE⟩:=hrel;replace k0:=zh hE k0;replace k2:=zh hE k2;replace k3:=zh hE k3;replace hz:=wfu _ _ k0;have HE:=hid hE;have HX:=hid hx
    by_cases hlt:k<ks.length
    ·have hki:(k:Int)<(ks.length:Int):=by omega
     rcases HC.out with h0|⟨b,off,rfl,hcc⟩
     ·rw[h0]at hlt;simp at hlt
     have d0:=zh (HW.out.trans' hE) (hcc k hlt);have zd:=wfu _ _ d0;simp only at hz zd;obtain⟨x,hx0⟩:∃x,x=ks[k]:=⟨_,rfl⟩
     rw[←hx0]at d0;have HX0:=hid hx0;clear hE hx hcc hx0;go_upto_region 8 with(fail);have hnk:¬ks.length≤k:=by omega
     by_cases h1:x<0
     ·have h1b:decide (x<0)=true:=decide_eq_true h1
      refine zau (wr.heap.size) (weq _)
       [sqV (.pointer (some ⟨w.heap.size,2,none⟩)),sqV (.slice (some ⟨b,off,none⟩) ks.length kc),sqV (.int .i64 k),sqV (.pointer (some ⟨b,off+k,none⟩)),sqV (.int .i64 x),sqV (.bool true),sqV (.bool true),sqV undef,sqV undef,sqV undef,sqV undef,sqV undef,sqV undef,sqV undef,sqV undef,sqV (.bool true)]
       [true,true,true,true,true,true,true,true,true,true,true,true,true,true,true,true] [false,false,false,false,false,false,false,false,false,false,false,false,false,false,false,false] [true,true,true,true,true,true,true,true,true,true,true,true,true,true,true,true] [true,true,true,true,true,true,true,true,true,true,true,true,true,true,true,true] [true,true,true,true,true,true,true,false,false,false,false,false,false,false,false,true] [none,none,none,none,none,some true,some true,none,none,none,none,none,none,none,none,some true]
       (by kernel_rfl) (by kernel_rfl) (by decide +kernel) ⟨fun _ _ _ h=>h,⟨fun _ _ _ h=>h,⟨fun _ _ _ h=>h,trivial⟩⟩⟩ (by decide +kernel) (by decide +kernel) (by decide +kernel) rfl ⟨rfl,rfl,rfl⟩ ⟨?s0,?s1,?s2,?s3,?s4,?s5,?s6,?s7,?s8,?s9,?s10,?s11,?s12,?s13,?s14,?s15,trivial⟩ [some 35,some 36,some 37,some 38,some 39,some 40,some 41,some 42,some 43,some 44,some 45,some 46,some 47,some 48,some 49,some 50] rfl rfl ?send
      case s0 =>
       intro f g W b e d h a c;have o0:g (.tmp 1)=.pointer (some ⟨w.heap.size,0,none⟩):=a.old 1 (by decide);exact ze (by simp[execOp,o0,go_sem]) rfl
      case s1 =>
       intro f g W b e d h a c;have d0:g (.tmp 35)=.pointer (some ⟨w.heap.size,2,none⟩):=dpv a d 0 35;have f_k2:=cell_below b (by simp only;omega) k2;exact ze (by simp[execOp,d0,f_k2,go_sem]) rfl
      case s2 =>
       intro f g W b e d h a c;have o0:g (.tmp 3)=.int .i64 k:=a.old 3 (by decide);exact ze (by simp[execOp,o0,go_sem]) rfl
      case s3 =>
       intro g h W c f e i a d;have d1:h (.tmp 36)=.slice (some ⟨b,off,none⟩) ks.length kc:=dpv a e 1 36;have d2:h (.tmp 37)=.int .i64 k:=dpv a e 2 37;exact ze (by simp[execOp,d1,d2,hlt,hki,go_sem]) rfl
      case s4 =>
       intro g h W c f e i a d;have d3:h (.tmp 38)=.pointer (some ⟨b,off+k,none⟩):=dpv a e 3 38;have f_d0:=cell_below c (by simp only;omega) d0;exact ze (by simp[execOp,d3,f_d0,go_sem]) rfl
      case s5 =>
       intro f g W b e d h a c;have d4:g (.tmp 39)=.int .i64 x:=dpv a d 4 39;exact ze (by simp[execOp,a.const,d4,h1b,go_sem]) rfl
      case s6 =>
       intro f g W b e d h a c;have d5:g (.tmp 40)=.bool true:=dpv a d 5 40;exact ze (by simp[execOp,d5,go_sem]) rfl
      case s7=>exact⟨fun _ _=>rfl,fun _ _ _ h=>h⟩
      case s8=>exact⟨fun _ _=>rfl,fun _ _ _ h=>h⟩
      case s9=>exact⟨fun _ _=>rfl,fun _ _ _ h=>h⟩
      case s10=>exact⟨fun _ _=>rfl,fun _ _ _ h=>h⟩
      case s11=>exact⟨fun _ _=>rfl,fun _ _ _ h=>h⟩
      case s12=>exact⟨fun _ _=>rfl,fun _ _ _ h=>h⟩
      case s13=>exact⟨fun _ _=>rfl,fun _ _ _ h=>h⟩
      case s14=>exact⟨fun _ _=>rfl,fun _ _ _ h=>h⟩
      case s15 =>
       intro f g W b e d h a c;have d6:g (.tmp 41)=.bool true:=dpv a d 6 41;exact ze (by simp[execOp,a.const,d6,go_sem]) rfl
      case send =>
       intro val Y hE9 hzz hv;obtain⟨-,-,-,-,-,-,-,-,-,-,-,-,-,-,-,r15,-⟩:=hv;have q15:val 15=.bool true:=r15;have HY:=hid hE9;simp only[za9,q15];go_frame;clear hE9 hzz r15 q15;go_wp2_with fail;go_ret;exact⟨3,rfl,HW.out.trans' (HE.out.trans' HY.out),fun h=>by omega⟩
     ·have h1b:decide (x<0)=false:=decide_eq_false h1
      by_cases h2:L≤x
      ·have h2b:decide (L≤x)=true:=decide_eq_true h2
       refine zau (wr.heap.size) (weq _)
        [sqV (.pointer (some ⟨w.heap.size,2,none⟩)),sqV (.slice (some ⟨b,off,none⟩) ks.length kc),sqV (.int .i64 k),sqV (.pointer (some ⟨b,off+k,none⟩)),sqV (.int .i64 x),sqV (.bool false),sqV (.bool false),sqV (.pointer (some ⟨w.heap.size,2,none⟩)),sqV (.slice (some ⟨b,off,none⟩) ks.length kc),sqV (.int .i64 k),sqV (.pointer (some ⟨b,off+k,none⟩)),sqV (.int .i64 x),sqV (.pointer (some ⟨w.heap.size,0,none⟩)),sqV (.int .i64 L),sqV (.bool true),sqV (.bool true)]
        [true,true,true,true,true,true,true,true,true,true,true,true,true,true,true,true] [false,false,false,false,false,false,false,false,false,false,false,false,false,false,false,false] [true,true,true,true,true,true,true,true,true,true,true,true,true,true,true,true] [true,true,true,true,true,true,true,true,true,true,true,true,true,true,true,true] [true,true,true,true,true,true,true,true,true,true,true,true,true,true,true,true] [none,none,none,none,none,some false,some false,none,none,none,none,none,none,none,some true,some true]
        (by kernel_rfl) (by kernel_rfl) (by decide +kernel) ⟨fun _ _ _ h=>h,⟨fun _ _ _ h=>h,⟨fun _ _ _ h=>h,⟨fun _ _ _ h=>h,trivial⟩⟩⟩⟩ (by decide +kernel) (by decide +kernel) (by decide +kernel) rfl ⟨rfl,rfl,rfl⟩ ⟨?s0,?s1,?s2,?s3,?s4,?s5,?s6,?s7,?s8,?s9,?s10,?s11,?s12,?s13,?s14,?s15,trivial⟩ [some 35,some 36,some 37,some 38,some 39,some 40,some 41,some 42,some 43,some 44,some 45,some 46,some 47,some 48,some 49,some 50] rfl rfl ?send
       case s0 =>
        intro f g W b e d h a c;have o0:g (.tmp 1)=.pointer (some ⟨w.heap.size,0,none⟩):=a.old 1 (by decide);exact ze (by simp[execOp,o0,go_sem]) rfl
       case s1 =>
        intro f g W b e d h a c;have d0:g (.tmp 35)=.pointer (some ⟨w.heap.size,2,none⟩):=dpv a d 0 35;have f_k2:=cell_below b (by simp only;omega) k2;exact ze (by simp[execOp,d0,f_k2,go_sem]) rfl
       case s2 =>
        intro f g W b e d h a c;have o0:g (.tmp 3)=.int .i64 k:=a.old 3 (by decide);exact ze (by simp[execOp,o0,go_sem]) rfl
       case s3 =>
        intro g h W c f e i a d;have d1:h (.tmp 36)=.slice (some ⟨b,off,none⟩) ks.length kc:=dpv a e 1 36;have d2:h (.tmp 37)=.int .i64 k:=dpv a e 2 37;exact ze (by simp[execOp,d1,d2,hlt,hki,go_sem]) rfl
       case s4 =>
        intro g h W c f e i a d;have d3:h (.tmp 38)=.pointer (some ⟨b,off+k,none⟩):=dpv a e 3 38;have f_d0:=cell_below c (by simp only;omega) d0;exact ze (by simp[execOp,d3,f_d0,go_sem]) rfl
       case s5 =>
        intro f g W b e d h a c;have d4:g (.tmp 39)=.int .i64 x:=dpv a d 4 39;exact ze (by simp[execOp,a.const,d4,h1b,go_sem]) rfl
       case s6 =>
        intro f g W b e d h a c;have d5:g (.tmp 40)=.bool false:=dpv a d 5 40;exact ze (by simp[execOp,d5,go_sem]) rfl
       case s7 =>
        intro f g W b e d h a c;have o0:g (.tmp 1)=.pointer (some ⟨w.heap.size,0,none⟩):=a.old 1 (by decide);exact ze (by simp[execOp,o0,go_sem]) rfl
       case s8 =>
        intro f g W b e d h a c;have d7:g (.tmp 42)=.pointer (some ⟨w.heap.size,2,none⟩):=dpv a d 7 42;have f_k2:=cell_below b (by simp only;omega) k2;exact ze (by simp[execOp,d7,f_k2,go_sem]) rfl
       case s9 =>
        intro f g W b e d h a c;have o0:g (.tmp 3)=.int .i64 k:=a.old 3 (by decide);exact ze (by simp[execOp,o0,go_sem]) rfl
       case s10 =>
        intro g h W c f e i a d;have d8:h (.tmp 43)=.slice (some ⟨b,off,none⟩) ks.length kc:=dpv a e 8 43;have d9:h (.tmp 44)=.int .i64 k:=dpv a e 9 44;exact ze (by simp[execOp,d8,d9,hlt,hki,go_sem]) rfl
       case s11 =>
        intro g h W c f e i a d;have d10:h (.tmp 45)=.pointer (some ⟨b,off+k,none⟩):=dpv a e 10 45;have f_d0:=cell_below c (by simp only;omega) d0;exact ze (by simp[execOp,d10,f_d0,go_sem]) rfl
       case s12 =>
        intro f g W b e d h a c;have o0:g (.tmp 1)=.pointer (some ⟨w.heap.size,0,none⟩):=a.old 1 (by decide);exact ze (by simp[execOp,o0,go_sem]) rfl
       case s13 =>
        intro f g W b e d h a c;have d12:g (.tmp 47)=.pointer (some ⟨w.heap.size,0,none⟩):=dpv a d 12 47;have f_k0:=cell_below b (by simp only;omega) k0;exact ze (by simp[execOp,d12,f_k0,go_sem]) rfl
       case s14 =>
        intro f g W b e d h a c;have d11:g (.tmp 46)=.int .i64 x:=dpv a d 11 46;have d13:g (.tmp 48)=.int .i64 L:=dpv a d 13 48;exact ze (by simp[execOp,d11,d13,h2b,go_sem]) rfl
       case s15 =>
        intro f g W b e d h a c;have d6:g (.tmp 41)=.bool false:=dpv a d 6 41;have d14:g (.tmp 49)=.bool true:=dpv a d 14 49;exact ze (by simp[execOp,a.const,d6,d14,go_sem]) rfl
       case send =>
        intro val Y hE9 hzz hv;obtain⟨-,-,-,-,-,-,-,-,-,-,-,-,-,-,-,r15,-⟩:=hv;have q15:val 15=.bool true:=r15;have HY:=hid hE9;simp only[za9,q15];go_frame;clear hE9 hzz r15 q15;go_wp2_with fail;go_ret;exact⟨3,rfl,HW.out.trans' (HE.out.trans' HY.out),fun h=>by omega⟩
      ·have h2b:decide (L≤x)=false:=decide_eq_false h2
       refine zau (wr.heap.size) (weq _)
        [sqV (.pointer (some ⟨w.heap.size,2,none⟩)),sqV (.slice (some ⟨b,off,none⟩) ks.length kc),sqV (.int .i64 k),sqV (.pointer (some ⟨b,off+k,none⟩)),sqV (.int .i64 x),sqV (.bool false),sqV (.bool false),sqV (.pointer (some ⟨w.heap.size,2,none⟩)),sqV (.slice (some ⟨b,off,none⟩) ks.length kc),sqV (.int .i64 k),sqV (.pointer (some ⟨b,off+k,none⟩)),sqV (.int .i64 x),sqV (.pointer (some ⟨w.heap.size,0,none⟩)),sqV (.int .i64 L),sqV (.bool false),sqV (.bool false)]
        [true,true,true,true,true,true,true,true,true,true,true,true,true,true,true,true] [false,false,false,false,false,false,false,false,false,false,false,false,false,false,false,false] [true,true,true,true,true,true,true,true,true,true,true,true,true,true,true,true] [true,true,true,true,true,true,true,true,true,true,true,true,true,true,true,true] [true,true,true,true,true,true,true,true,true,true,true,true,true,true,true,true] [none,none,none,none,none,some false,some false,none,none,none,none,none,none,none,some false,some false]
        (by kernel_rfl) (by kernel_rfl) (by decide +kernel) ⟨fun _ _ _ h=>h,⟨fun _ _ _ h=>h,⟨fun _ _ _ h=>h,⟨fun _ _ _ h=>h,trivial⟩⟩⟩⟩ (by decide +kernel) (by decide +kernel) (by decide +kernel) rfl ⟨rfl,rfl,rfl⟩ ⟨?s0,?s1,?s2,?s3,?s4,?s5,?s6,?s7,?s8,?s9,?s10,?s11,?s12,?s13,?s14,?s15,trivial⟩ [some 35,some 36,some 37,some 38,some 39,some 40,some 41,some 42,some 43,some 44,some 45,some 46,some 47,some 48,some 49,some 50] rfl rfl ?send
       case s0 =>
        intro f g W b e d h a c;have o0:g (.tmp 1)=.pointer (some ⟨w.heap.size,0,none⟩):=a.old 1 (by decide);exact ze (by simp[execOp,o0,go_sem]) rfl
       case s1 =>
        intro f g W b e d h a c;have d0:g (.tmp 35)=.pointer (some ⟨w.heap.size,2,none⟩):=dpv a d 0 35;have f_k2:=cell_below b (by simp only;omega) k2;exact ze (by simp[execOp,d0,f_k2,go_sem]) rfl
       case s2 =>
        intro f g W b e d h a c;have o0:g (.tmp 3)=.int .i64 k:=a.old 3 (by decide);exact ze (by simp[execOp,o0,go_sem]) rfl
       case s3 =>
        intro g h W c f e i a d;have d1:h (.tmp 36)=.slice (some ⟨b,off,none⟩) ks.length kc:=dpv a e 1 36;have d2:h (.tmp 37)=.int .i64 k:=dpv a e 2 37;exact ze (by simp[execOp,d1,d2,hlt,hki,go_sem]) rfl
       case s4 =>
        intro g h W c f e i a d;have d3:h (.tmp 38)=.pointer (some ⟨b,off+k,none⟩):=dpv a e 3 38;have f_d0:=cell_below c (by simp only;omega) d0;exact ze (by simp[execOp,d3,f_d0,go_sem]) rfl
       case s5 =>
        intro f g W b e d h a c;have d4:g (.tmp 39)=.int .i64 x:=dpv a d 4 39;exact ze (by simp[execOp,a.const,d4,h1b,go_sem]) rfl
       case s6 =>
        intro f g W b e d h a c;have d5:g (.tmp 40)=.bool false:=dpv a d 5 40;exact ze (by simp[execOp,d5,go_sem]) rfl
       case s7 =>
        intro f g W b e d h a c;have o0:g (.tmp 1)=.pointer (some ⟨w.heap.size,0,none⟩):=a.old 1 (by decide);exact ze (by simp[execOp,o0,go_sem]) rfl
       case s8 =>
        intro f g W b e d h a c;have d7:g (.tmp 42)=.pointer (some ⟨w.heap.size,2,none⟩):=dpv a d 7 42;have f_k2:=cell_below b (by simp only;omega) k2;exact ze (by simp[execOp,d7,f_k2,go_sem]) rfl
       case s9 =>
        intro f g W b e d h a c;have o0:g (.tmp 3)=.int .i64 k:=a.old 3 (by decide);exact ze (by simp[execOp,o0,go_sem]) rfl
       case s10 =>
        intro g h W c f e i a d;have d8:h (.tmp 43)=.slice (some ⟨b,off,none⟩) ks.length kc:=dpv a e 8 43;have d9:h (.tmp 44)=.int .i64 k:=dpv a e 9 44;exact ze (by simp[execOp,d8,d9,hlt,hki,go_sem]) rfl
       case s11 =>
        intro g h W c f e i a d;have d10:h (.tmp 45)=.pointer (some ⟨b,off+k,none⟩):=dpv a e 10 45;have f_d0:=cell_below c (by simp only;omega) d0;exact ze (by simp[execOp,d10,f_d0,go_sem]) rfl
       case s12 =>
        intro f g W b e d h a c;have o0:g (.tmp 1)=.pointer (some ⟨w.heap.size,0,none⟩):=a.old 1 (by decide);exact ze (by simp[execOp,o0,go_sem]) rfl
       case s13 =>
        intro f g W b e d h a c;have d12:g (.tmp 47)=.pointer (some ⟨w.heap.size,0,none⟩):=dpv a d 12 47;have f_k0:=cell_below b (by simp only;omega) k0;exact ze (by simp[execOp,d12,f_k0,go_sem]) rfl
       case s14 =>
        intro f g W b e d h a c;have d11:g (.tmp 46)=.int .i64 x:=dpv a d 11 46;have d13:g (.tmp 48)=.int .i64 L:=dpv a d 13 48;exact ze (by simp[execOp,d11,d13,h2b,go_sem]) rfl
       case s15 =>
        intro f g W b e d h a c;have d6:g (.tmp 41)=.bool false:=dpv a d 6 41;have d14:g (.tmp 49)=.bool false:=dpv a d 14 49;exact ze (by simp[execOp,a.const,d6,d14,go_sem]) rfl
       case send =>
        intro val Y hE9 hzz hv;obtain⟨-,-,-,-,-,-,-,-,-,-,-,-,-,-,-,r15,-⟩:=hv;have q15:val 15=.bool false:=r15;have HY:=hid hE9;simp only[za9,q15];go_frame;clear hE9 hzz r15 q15;go_wp2_with fail;refine⟨⟨k+1,by omega,by go_num,fun y hy=>?_,HE.out.trans' HY.out⟩,by simp[intOf];omega⟩;rw[wea,wcn hlt]at hy
        rcases wdm.1 hy with hy|hy
        ·exact HX.out y hy
        ·rw[Option.toList_some,wd0]at hy
         rw[hy,←HX0.out];omega
    ·have hki:¬((k:Int)<(ks.length:Int)):=by omega
     have htk:ks.take k=ks:=wec (by omega);simp only at hz;clear hE hx
     by_cases h1:rest<0
     ·go_wp2_with fail
      go_ret;exact⟨3,rfl,HW.out.trans' HE.out,fun h=>by omega⟩
     ·by_cases h2:L≤rest
      ·go_wp2_with fail
       go_ret;exact⟨3,rfl,HW.out.trans' HE.out,fun h=>by omega⟩
      ·go_wp2_with fail
       go_ret;exact⟨0,rfl,HW.out.trans' HE.out,fun _=>⟨⟨hL1,hL2⟩,⟨hn1,hn2⟩,rfl,by have:=HX.out;rwa [htk]at this,⟨by omega,by omega⟩⟩⟩
  ·go_wp2_with fail
   go_ret;exact⟨15,rfl,by exact xx,fun h=>by omega⟩
 ·by_cases q1:L<2
  ·go_wp2_with fail
   go_ret;exact⟨2,rfl,by exact xx,fun h=>by omega⟩
  ·by_cases q2:6<L
   ·go_wp2_with fail
    go_ret;exact⟨2,rfl,by exact xx,fun h=>by omega⟩
   ·by_cases q3:n<2
    ·go_wp2_with fail
     go_ret;exact⟨2,rfl,by exact xx,fun h=>by omega⟩
    ·have q4:8<n:=by omega
     go_wp2_with fail;go_ret;exact⟨2,rfl,by exact xx,fun h=>by omega⟩
def z3d(L n rest:Int)(ks:List Int)(w:World)(e:Ending)(w':World):Prop:=∃b:Bool,e=.returned (.bool b)∧Ext w w'∧(b=true→zzo L n ks rest)
theorem zacr(L n rest:Int)(ks:List Int)(ka:Option Addr)(kc:Nat)(w:World)(hk:zo w .i64 (.slice ka ks.length kc) ks) :
  Calls Tryz.prog 4 #[.agg #[.int .i64 L,.int .i64 n,.slice ka ks.length kc,.int .i64 rest]] w (z3d L n rest ks w):=by
 have HK:=hid hk;clear hk
 go_enter Tryz.func4,Tryz.ntmps4
 by_cases hl:15<ks.length
 ·have hli:(15:Int)<(ks.length:Int):=by omega
  go_wp2_with fail;go_ret;unfold z3d;exact⟨false,rfl,by exact xx,fun h=>by cases h⟩
 ·have hli:¬((15:Int)<(ks.length:Int)):=by omega
  go_wp2_with fail;refine(z4c L n rest ks ka kc _ (HK.out.ext (by exact xx))).mono ?_
  rintro e W1 ⟨x,rfl,hE1,hx⟩;have HE1:=hid (Ext.trans' (by exact xx) hE1:Ext w W1);have k0:=zh hE1 (a:=⟨w.heap.size,0,none⟩) (v:=.int .i64 L) (by simp[go_sem]);have k1:=zh hE1 (a:=⟨w.heap.size,1,none⟩) (v:=.int .i64 n) (by simp[go_sem]);have hz:=wfu _ _ k0;simp only at hz;have HX:=hid hx;clear hE1 hx
  by_cases h0:x=0
  ·subst h0
   go_wp2_with fail;have hdv:=HX.out trivial
   go_loopw [3,4] (fun nv iv W=>∃(k:Nat) (y:Int),(k:Int)≤n∧nv=.int .i64 y∧iv=.int .i64 k∧Ext W1 W) (fun _ iv _=>n.toNat-(intOf iv).toNat)
   case atStart=>exact⟨1,L,by have:=hdv.n8;omega,rfl,rfl,Below.refl _ _⟩
   case round =>
    obtain⟨k,y,hk,rfl,rfl,hE⟩:=hrel;replace k0:=zh hE k0;replace k1:=zh hE k1;replace hz:=wfu _ _ k0;simp only at hz;have HE:=hid hE;have hn8:=hdv.n8.2;have HD:=hid hdv;clear hE hdv
    by_cases hlt:(k:Int)<n
    ·go_wp2_with fail
     exact⟨⟨k+1,_,by omega,rfl,by go_num,HE.out⟩,by simp[intOf];omega⟩
    ·go_wp2_with fail
     go_ret;unfold z3d;exact⟨_,rfl,HE1.out.trans' HE.out,fun _=>HD.out⟩
  ·go_wp2_with fail
   go_ret;unfold z3d;exact⟨false,rfl,HE1.out,fun h=>by cases h⟩
def zka(M:zl)(bs:List Nat)(i:Nat):Nat:=if bs.length=0 then 2^M.L-1 else 1+bs.getD (i%bs.length) 0%(2^M.L-1)
def zdf(M:zl)(bs:List Nat)(k:Nat):List Nat:=(List.range k).map (zka M bs)
theorem zxn(M:zl)(bs:List Nat)(k:Nat):zdf M bs (k+1)=zdf M bs k++[zka M bs k]:=by
 unfold zdf;rw[wd6,wde];rfl
theorem zkb(M:zl)(bs:List Nat)(k:Nat):(zdf M bs k).length=k:=by simp[zdf]
theorem zacs{L:Nat}(h:2≤L∧L≤6):4≤2^L∧2^L≤64:=by
 have h1:2^2≤2^L:=we3 (by omega) h.1;have h2:2^L≤2^6:=we3 (by omega) h.2;omega
theorem z07{M:zl}(V:zag M)(bs:List Nat)(i:Nat):1≤zka M bs i∧zka M bs i<2^M.L:=by
 have h:=zacs V.L;unfold zka
 split
 ·omega
 ·have:=wex (bs.getD (i%bs.length) 0) (show 0<2^M.L-1 by omega)
  omega
def zxo(M:zl)(bs:List Nat):zl:={ M with ss:=zdf M bs M.n }
theorem z4d(M:zl)(bs:List Nat){i:Nat}(h:i<M.n):(zxo M bs).ss.getD i 0=zka M bs i:=by
 simp[zxo,zdf,wch,h]
theorem zaig{M:zl}(V:zag M)(bs:List Nat):zag (zxo M bs):=by
 refine⟨V.L,V.n,V.kl,zkb M bs M.n,V.ks,fun i hi=>?_,V.rest⟩;rw[z4d M bs hi];exact(z07 V bs i).2
theorem zact{M:zl}(V:zag M)(bs:List Nat):∀i,i<(zxo M bs).n→1≤(zxo M bs).ss.getD i 0:=fun i hi=>by
 rw[z4d M bs hi];exact(z07 V bs i).1
theorem z64(M:zl)(V:zag M)(ka:Option Addr)(kc:Nat)(bs:List Nat)(hb8:∀x∈bs,x≤255)(bv:Value)(w:World)(hk:zo w .i64 (.slice ka M.n kc) (zy M.ks))(hb:zo w .u8 bv (zy bs)) :
  Calls Tryz.prog 6 #[.agg #[.int .i64 M.L,.int .i64 M.n,.slice ka M.n kc,.int .i64 M.rest],bv] w fun e w'=>∃sa sc,e=.returned (.slice sa M.n sc)∧Ext w w'∧zab w' w.heap.size 3 1 (.slice sa M.n sc) ((zy (zdf M bs M.n)).map zas):=by
 obtain⟨ba,bc,rfl,hbl,hbc,hbx⟩:=hb.spec;rw[zad]at hbl ⊢;have HBX:=hid hbx;clear hb hbx
 go_enter Tryz.func6,Tryz.ntmps6
 go_upto_region 1 with(fail);obtain⟨W0,hW0⟩:∃W0,W0=w.alloc (.cells #[.int .i64 M.L,.int .i64 M.n,.slice ka M.n kc,.int .i64 M.rest] 24):=⟨_,rfl⟩
 have hE:Ext w W0:=by rw[hW0];exact xx
 have k0:W0.cell? ⟨w.heap.size,0,none⟩=some (.int .i64 M.L):=by rw[hW0];simp[go_sem]
 have k1:W0.cell? ⟨w.heap.size,1,none⟩=some (.int .i64 M.n):=by rw[hW0];simp[go_sem]
 have k2:W0.cell? ⟨w.heap.size,2,none⟩=some (.slice ka M.n kc):=by rw[hW0];simp[go_sem]
 have k3:W0.cell? ⟨w.heap.size,3,none⟩=some (.int .i64 M.rest):=by rw[hW0];simp[go_sem]
 have hz:w.heap.size<W0.heap.size:=wfu _ _ k0;have HW:=hid hE;have HK:=hid (zo.ext hE hk);rw[←hW0];clear hW0 hk hE;have hL:=V.L;have hn:=V.n;obtain⟨hw1,hw2,hw3⟩:=zjf hL.2;have hlo:=zacs hL;have hof:∀i,zka M bs i=if bs.length=0 then 2^M.L-1 else 1+bs.getD (i%bs.length) 0%(2^M.L-1):=fun i=>rfl
 obtain⟨N,hN⟩:∃N:Nat,N=2^M.L:=⟨_,rfl⟩
 rw[←hN]at hw1 hw2 hw3 hlo hof;have hmin:min M.L 64=M.L:=by omega
 obtain⟨Z,hZ⟩:∃Z:Nat,Z=N-1:=⟨_,rfl⟩
 have hwN:IntKind.i64.wrap ((N:Int)-1)=(Z:Int):=by rw[wbh _ (by omega)];omega
 rw[←hZ]at hof;have hZ3:3≤Z∧Z≤63:=by omega
 have HOF:=hid hof;clear hN hZ hof hw2 hw3 hlo k2 k3 HK;go_wp2_with fail
 go_loopw [5,6] (fun ov iv W=>∃i:Nat,i≤M.n∧iv=.int .i64 i∧zab W W0.heap.size 3 1 ov ((zy (zdf M bs i)).map zas)∧Ext W0 W) (fun _ iv _=>M.n-(intOf iv).toNat)
 case atStart=>exact⟨0,by omega,rfl,zab.nil _ _ _ _,Below.refl _ _⟩
 case round =>
  obtain⟨i,hi,rfl,hown,hE⟩:=hrel;obtain⟨na,nn,nc,rfl⟩:=hown.isSlice;replace k0:=zh hE k0;replace k1:=zh hE k1;have zk:=wfu _ _ k0;simp only at zk;have HE:=hid hE;have HO:=hid hown;have hz1:=hE.size
  by_cases hlt:i<M.n
  ·have hii:(i:Int)<(M.n:Int):=by omega
   have hof:=HOF.out i;obtain⟨t,ht⟩:∃t,t=zka M bs i:=⟨_,rfl⟩
   rw[←ht]at hof;have HT:=hid ht;clear hE hown ht
   by_cases hb0:bs.length=0
   ·have hb0i:¬((0:Int)<(bs.length:Int)):=by omega
    rw [if_pos hb0] at hof;subst hof;go_upto_region 8 with (fail);have HTS:Hid (zy (zdf M bs (i+1))=zy (zdf M bs i) ++ [(t:Int)]):=hid (by rw [zxn,← HT.out];simp [zy]);have hoY:=HO.out.ext (show Ext wr (wr.alloc (.cells #[.int .i64 (t:Int)] 3)) from xx);obtain ⟨v',X9,hrun,h2,h3⟩:=zty zgc 22 W0.heap.size hoY wr.heap.size 0 1 [zas (t:Int)] (by simp [zas]) (newRow _ [.int .i64 (t:Int)] _) (by simp [zas,Value.oneCell']) (by rw [wc8,zad,zkb];simp only [wc4,wc9];omega) (by simp;omega);have h29:Hid (zab X9 W0.heap.size 3 1 v' ((zy (zdf M bs (i+1))).map zas)):=hid (by
     rw[HTS.out,wde];exact h2)
    have h39:Hid (Ext W0 X9):=hid ((Ext.trans' HE.out (by exact xx)).trans h3);clear h2 h3 hoY;go_wp2_with (at_builtin;refine zhb rfl (.tmp 32) (.tmp 34) rfl rfl rfl hrun ?_);obtain⟨va,vn,vc,rfl⟩:=h29.out.isSlice;go_roundw
    case rel=>exact⟨i+1,by omega,by go_num,h29.out,h39.out⟩
    case measure=>simp[intOf];omega
   ·have hb0i:(0:Int)<(bs.length:Int):=by omega
    rw[if_neg hb0]at hof;have hml:i%bs.length<bs.length:=wex _ (by omega)
    rcases HBX.out with h0|⟨b,off,rfl,hcc⟩
    ·have:(zy bs).length=0:=by rw[h0];rfl
     rw[zad]at this;omega
    have d0:=zh (HW.out.trans' HE.out) (hcc (i%bs.length) (by rw[zad];exact hml));rw[zig hml]at d0;have hx8:bs.getD (i%bs.length) 0≤255:=by
     rw[wch,wcn hml];exact hb8 _ (wcy _)
    obtain⟨m,hm⟩:∃m,m=i%bs.length:=⟨_,rfl⟩
    rw[←hm]at d0 hml hx8 hof;obtain⟨x,hx⟩:∃x,x=bs.getD m 0:=⟨_,rfl⟩
    rw[←hx]at d0 hx8 hof;have hbn0:¬(bs.length=0):=hb0;have w1:Int.tmod (i:Int) (bs.length:Int)=(m:Int):=by rw[wbf (by omega),hm];rfl
    have w2:Int.tmod (x:Int) (Z:Int)=((x%Z:Nat):Int):=by rw[wbf (by omega)];rfl
    obtain⟨y,hy⟩:∃y,y=x%Z:=⟨_,rfl⟩
    have hyb:y<Z:=by rw[hy];exact wex _ (by omega)
    rw[←hy]at w2 hof;have hZ0:¬(Z=0):=by omega
    have w3:IntKind.i64.wrap (1+(y:Int))=(t:Int):=by rw[wbh _ (by omega)];omega
    have w4:IntKind.i64.wrap (x:Int)=(x:Int):=wbh _ (by omega);have hmi:(m:Int)<(bs.length:Int):=by omega
    have zd:=wfu _ _ d0;simp only at zd;clear hm hx hy hof hcc;go_upto_region 8 with (fail);have HTS:Hid (zy (zdf M bs (i+1))=zy (zdf M bs i) ++ [(t:Int)]):=hid (by rw [zxn,← HT.out];simp [zy]);have hoY:=HO.out.ext (show Ext wr (wr.alloc (.cells #[.int .i64 (t:Int)] 3)) from xx);obtain ⟨v',X9,hrun,h2,h3⟩:=zty zgc 22 W0.heap.size hoY wr.heap.size 0 1 [zas (t:Int)] (by simp [zas]) (newRow _ [.int .i64 (t:Int)] _) (by simp [zas,Value.oneCell']) (by rw [wc8,zad,zkb];simp only [wc4,wc9];omega) (by simp;omega);have h29:Hid (zab X9 W0.heap.size 3 1 v' ((zy (zdf M bs (i+1))).map zas)):=hid (by
     rw[HTS.out,wde];exact h2)
    have h39:Hid (Ext W0 X9):=hid ((Ext.trans' HE.out (by exact xx)).trans h3);clear h2 h3 hoY;go_wp2_with (at_builtin;refine zhb rfl (.tmp 32) (.tmp 34) rfl rfl rfl hrun ?_);obtain⟨va,vn,vc,rfl⟩:=h29.out.isSlice;go_roundw
    case rel=>exact⟨i+1,by omega,by go_num,h29.out,h39.out⟩
    case measure=>simp[intOf];omega
  ·have hii:¬((i:Int)<(M.n:Int)):=by omega
   have hin:i=M.n:=by omega
   have HR:Hid (zab wr W0.heap.size 3 1 (.slice na nn nc) ((zy (zdf M bs M.n)).map zas)):=hid (by rw[hin]at hown;exact hown);have hnn:nn=M.n:=by
    obtain⟨_,_,e,-⟩:=HR.out.isRows;rw[wc8,zad,zkb]at e;cases e;rfl
   subst hnn;clear hE hown hin;go_wp2_with fail;go_ret;refine⟨_,_,rfl,HW.out.trans' HE.out,⟨⟨HR.out.1.1,?_⟩,HR.out.2⟩⟩
   rcases HR.out.1.2 with a|⟨g,cap,cur,hv,hb,hr⟩
   ·exact .inl a
   ·exact .inr ⟨g,cap,cur,hv,wer HW.out.size hb,hr⟩
end Go.Proofs.YtdcnbeehckgpcaaGreat
