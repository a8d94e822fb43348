/-
  The walk of the statement on turntables and crowds.
-/
import Derived.Test.YtnfdiohfojjnlaaGreatWf
import Derived.Test.YtnfdiohfojjnlaaGreatUf
import Derived.Test.YtnfdiohfojjnlaaGreatWb
import Derived.Test.YtnfdiohfojjnlaaGreatBb
set_option maxRecDepth 200000
set_option maxHeartbeats 0
namespace Go.Proofs.YtnfdiohfojjnlaaGreat
open Go.Lib (hid)
open Go.RowKit Go.Shelf
attribute [local go_sem] Oper.semAt_some
theorem z6j (a b c:Int) (w:World):Calls Tryz.prog 7 #[.int .i64 a,.int .i64 b,.int .i64 c] w fun e w'=>e = .returned (.agg #[.int .i64 a,.int .i64 b,.int .i64 c])∧Ext w w':=by
 go_enter Tryz.func7,Tryz.ntmps7
 go_wp2_with fail;refine bodyPost_ret (v:=.agg #[.int .i64 a,.int .i64 b,.int .i64 c]) (by simp [results,Tryz.results7,go_sem]) rfl ?_
 exact ⟨rfl,xx⟩
theorem zy7 (ks:List Int) (m:Nat) (hm:m≤255) (kv:Value) (w:World) (hv:IsInts w .i64 kv ks) :
  Calls Tryz.prog 3 #[.agg #[kv],.int .u8 (m:Int)] w fun e w'=>e = .returned (.bool true)∧Ext w w':=by
 obtain ⟨sa,cap,rfl,h1,h2,-⟩:=hv.spec;have HV:=hid hv;clear hv
 go_enter Tryz.func3,Tryz.ntmps3
 go_upto_region 1 with (fail);obtain ⟨W0,hW0⟩:∃ W0,W0=w.alloc (.cells #[.slice sa ks.length cap] 24):=⟨_,rfl⟩
 have hE:Ext w W0:=by rw [hW0];exact xx
 have k0:W0.cell? ⟨w.heap.size,0,none⟩=some (.slice sa ks.length cap):=by rw [hW0];simp [go_sem]
 have hz:w.heap.size < W0.heap.size:=World.block_lt_of_cell? _ _ k0;have HS:=hid (HV.out.ext hE);have HW:=hid hE;rw [← hW0];clear hW0 HV hE;go_wp2_with fail;refine (Tu.hall03_any ks _ W0 HS.out).mono ?_
 rintro e W1 ⟨rfl,hE1⟩;obtain ⟨g,hg⟩:∃ g,g=(Tu.tchk ks == 0):=⟨_,rfl⟩
 rw [← hg];have HG:=hid hg;have HE1:=hid hE1;have k1:=zj hE1 k0;clear hE1 hg k0;cases g
 ·go_wp2_with fail
  refine (zix _).mono ?_
  rintro e W9 ⟨rfl,hE9⟩;go_wp2_with fail;go_ret;exact ⟨rfl,(HW.out.trans' HE1.out).trans' hE9⟩
 have V:Hid (Tu.TVal ks):=hid (Tu.tval_of (by simpa using HG.out.symm));have HW1:=hid (HW.out.trans' HE1.out);have HS1:=hid (HS.out.ext HE1.out);have n5:=V.out.n5;have n1:=V.out.n1;obtain ⟨kb,ko,rfl,-,hkc⟩:=HS1.out.at_all (by omega);have HKC:Hid (∀ W,Ext W1 W→∀ i,i < ks.length→W.cell? ⟨kb,ko+i,none⟩=some (.int .i64 (ks.getD i 0))):=hid hkc;clear HG HW HE1 HS hz hkc;go_upto_region 4 with (fail);obtain ⟨N,hN⟩:∃ N:Nat,N=1+m % 60:=⟨_,rfl⟩
 have hNi:(1+(m:Int) % 60)=(N:Int):=by omega
 rw [hNi];have hN1:1≤N∧N≤60:=by omega
 obtain ⟨X,hX⟩:∃ X,X=W1.heap.size:=⟨_,rfl⟩
 obtain ⟨W2,hW2⟩:∃ W2,W2=W1.alloc (.cells #[.int .i64 (N:Int),.slice none 0 0] 29):=⟨_,rfl⟩
 have hx2:zd9 W2 X (N:Int) (.slice none 0 0):=by
  rw [hW2,hX];show (W1.heap.push _)[W1.heap.size]? = _;rw [Array.getElem?_push,if_pos rfl]
 have hE2:Ext W1 W2:=by rw [hW2];exact xx
 have HT0:Hid (TwS W1 X N (kfT ks) (zat N (kfT ks) 0) (.slice none 0 0) (.slice none 0 0) W2):=hid ⟨hE2,hx2,Owns.nil _ _ _ _,Owns.nil _ _ _ _⟩;have HX:=hid (show W1.heap.size≤X by omega);have HXD:Hid (w.heap.size < X):=hid (by rw [hX];exact World.block_lt_of_cell? _ _ k1);have HXE:Hid (X=W1.heap.size):=hid hX;have HK:Hid (∀ W,Ext W1 W→W.cell? ⟨w.heap.size,0,none⟩=some (.slice (some ⟨kb,ko,none⟩) ks.length cap)):=hid fun W e=>zj e k1
 rw [← hW2,← hX];clear hW2 hX hx2 hE2 hN hNi hm k1;go_wp2_with fail
 go_loopw [6,7] (fun sv iv W=>∃ (q:Nat) (pv:Value),q≤ks.length∧iv = .int .i64 q∧TwS W1 X N (kfT ks) (zat N (kfT ks) q) pv sv W) (fun _ iv _=>ks.length - (intOf iv).toNat)
 case atStart=>exact ⟨0,_,by omega,rfl,HT0.out⟩
 case round =>
  obtain ⟨q,pv,hq,rfl,hT⟩:=hrel;obtain ⟨Y,rfl⟩:∃ Y,Y=wr:=⟨_,rfl⟩
  have k0:=HK.out Y hT.e;obtain ⟨za,zn,zc,rfl⟩:=hT.s.isSlice;have HT:=hid hT;clear hT
  by_cases hlt:q < ks.length
  ·have hqi:(q:Int) < (ks.length:Int):=by omega
   have hkq:=HKC.out Y HT.out.e q hlt;obtain ⟨hk1,hk12,hke⟩:=zpy V.out hlt;obtain ⟨k,hk⟩:∃ k,k=kfT ks q:=⟨_,rfl⟩
   rw [hke] at hkq;rw [← hk] at hk1 hk12 hkq;have HKQ:=hid hk;clear hke hk;go_wp2_with fail;clear k0 hkq;have HQ:=hid hlt
   go_loopw [6,9] (fun sv fv W=>∃ (j f:Nat) (pv:Value),j≤N / k∧f=1+j * k∧fv = .int .i64 f∧TwS W1 X N (kfT ks) (zat N (kfT ks) q ++ zd4 k q j) pv sv W) (fun _ fv _=>100 - (intOf fv).toNat)
   case atStart=>exact ⟨0,1,pv,Nat.zero_le _,by simp,rfl,by simpa [zd4] using HT.out⟩
   case round =>
    obtain ⟨j,f,pv,hj,hf,rfl,hT⟩:=hrel;obtain ⟨Z,rfl⟩:∃ Z,Z=wr:=⟨_,rfl⟩
    obtain ⟨za,zn,zc,rfl⟩:=hT.s.isSlice;obtain ⟨pa,pn,pc,rfl⟩:=hT.p.isSlice;have k0:=HK.out Z hT.e;have x0:=hT.x.c0;have x1:=hT.x.c1;have xz:=hT.x.lt;have xf:=hT.x.fr 1;have HT:=hid hT;clear hT;have hjk:1+j * k≤1+N:=by
     have:=Nat.mul_le_mul_right k hj;have:=Nat.div_mul_le_self N k;omega
    rw [← hf] at hjk;have hmore:=z9s (N:=N) (j:=j) hk1;rw [← hf] at hmore;have HFJ:=hid hf;clear hf
    by_cases hin:f+k - 1≤N
    ·have hini:(f:Int)+(k:Int) - 1≤(N:Int):=by omega
     go_upto_region 12 with (fail);have HFR:Hid (∀ g,(Value.slice pa pn pc).ownBlock=some g→(Value.slice za zn zc).ownBlock≠some g):=hid (z3q HT.out.p HT.out.s (by decide));have HSL:Hid (∀ g,(Value.slice za zn zc).ownBlock=some g→g < Z.heap.size):=hid fun g hg=>(HT.out.s.notOwn g hg).2
     have HPL:Hid (∀ g,(Value.slice pa pn pc).ownBlock=some g→g < Z.heap.size):=hid fun g hg=>(HT.out.p.notOwn g hg).2
     have hll:(zat N (kfT ks) q ++ zd4 k q j).length≤1000:=by
      rw [List.length_append,zzr];have:=z0p (N:=N) (kf:=kfT ks) q;have:=Nat.div_le_self N k;have:q * N≤5 * 60:=Nat.mul_le_mul (by omega) hN1.2;omega
     have hrow:zet (kfT ks) (q,f)=[.int .i64 (f:Int),.int .i64 (f:Int),.int .i64 ((f:Int)+(k:Int) - 1)]:=by
      show [Value.int .i64 (f:Int),.int .i64 (f:Int),.int .i64 ((f+kfT ks q - 1:Nat):Int)]=_;rw [← HKQ.out,show ((f+k - 1:Nat):Int)=(f:Int)+(k:Int) - 1 by omega]
     have HLL:=hid hll;have HROW:=hid hrow;have HX1:=hid x1;have HMO:=hid hmore;clear k0 x0 x1 xf hll hrow hmore;refine zlb (zady (cv:=.slice pa pn pc) (sv:=.slice za zn zc)) 16 rfl (by kernel_rfl) (X+1) (zafa (fun g hg=>(HT.out.p.notOwn g hg).1) (fun g hg=>(HT.out.s.notOwn g hg).1)) xz trivial
      [zib [10,14] (.pointer (some ⟨X,1,none⟩)),
      zib [10,14] (.slice pa pn pc),
      zib [10,14] (.int .i64 f),
      zib [10,14] (.int .i64 f),
      zib [10,14] (.int .i64 f),
      zib [10,14] (.int .i64 k),
      zib [10,14] (.int .i64 ((f:Int)+(k:Int))),
      zib [10,14] (.int .i64 ((f:Int)+(k:Int) - 1)),
      zib [10,14] (.agg #[.int .i64 f,.int .i64 f,.int .i64 ((f:Int)+(k:Int) - 1)]),
      z47 [] [] (fun _=>zev Z.heap.size (zet (kfT ks) (q,f))) (fun _ _ _ _ h e=>h.ext e) (fun _ h=>by cases h),
      z47 [] [] (fun _=>PTw (X+1) 33 3 (.slice pa pn pc) ((zat N (kfT ks) q ++ zd4 k q j).map (zet (kfT ks)) ++ [zet (kfT ks) (q,f)]) (fun b=>some b≠(Value.slice pa pn pc).ownBlock) Z) (fun _ _ _ _ h e=>h.ext e) (fun _ h=>by cases h),
      zib [10,14] (.slice za zn zc),
      zib [10,14] (.int .i64 q),
      z47 [] [10] (fun _=>zev Z.heap.size (zg8 (q,f))) (fun _ _ _ _ h e=>h.ext e) (fun i hi _ _ _ _ h e=>zev.hard HPL.out hi h e),
      z47 [10] [] (fun l v W=>PTw (X+1) 33 3 (.slice pa pn pc) ((zat N (kfT ks) q ++ zd4 k q j).map (zet (kfT ks)) ++ [zet (kfT ks) (q,f)]) (fun b=>some b≠(Value.slice pa pn pc).ownBlock∧some b≠(Value.slice za zn zc).ownBlock) Z (l.headD undef) W∧PTw (X+1) 3 1 (.slice za zn zc) ((zat N (kfT ks) q ++ zd4 k q j).map zg8 ++ [zg8 (q,f)]) (fun b=>some b≠(Value.slice pa pn pc).ownBlock∧some b≠(Value.slice za zn zc).ownBlock) Z v W) (fun _ _ _ _ h e=>⟨h.1.ext e,h.2.ext e⟩) (fun _ h=>by cases h),
      zib [10,14] (.pointer (some ⟨X,1,none⟩))]
      [[10,14],[10,14],[10,14],[10,14],[10,14],[10,14],[10,14],[10,14],[10,14],[],[],[10,14],[10,14],[10],[],[10,14]] [false,false,false,false,false,false,false,false,false,false,true,false,false,false,true,false] [true,true,true,true,true,true,true,true,true,false,false,true,true,false,true,true] [true,true,true,true,true,true,true,true,true,true,true,false,false,false,false,false] [true,true,true,true,true,true,true,true,true,true,true,true,true,true,true,true]
      (by kernel_rfl) (by kernel_rfl) [[],[],[],[],[],[],[],[],[],[],[],[],[],[],[10],[]] rfl (by decide +kernel) (by decide +kernel) (by decide +kernel) (by decide +kernel) rfl ⟨rfl,rfl⟩ ⟨?s0,?s1,?s2,?s3,?s4,?s5,?s6,?s7,?s8,?s9,?s10,?s11,?s12,?s13,?s14,?s15,trivial⟩ [some 50,some 51,some 52,some 53,some 54,some 55,some 56,some 57,some 58,some 59,some 60,some 61,some 62,some 63,some 64,some 65] rfl rfl ?send
     case s0 =>
      intro val ρ W hE hz hd hA hx hj;have o0:ρ (.tmp 5) = .pointer (some ⟨X,0,none⟩):=hA.old 5 (by decide);exact zb0 (W':=W) (by simp [execOp,o0,go_sem]) (Below.refl _ _) rfl
     case s1 =>
      intro val ρ W hE hz hd hA hx hj;have d0:ρ (.tmp 50) = .pointer (some ⟨X,1,none⟩):=(hA.dep 0 (by decide) 50 rfl).trans (hd 0 (List.mem_append_left _ (by decide)));have c1:=zj (hx (by decide)) HX1.out;exact zb0 (W':=W) (by simp [execOp,d0,c1,go_sem]) (Below.refl _ _) rfl
     case s2 =>
      intro val ρ W hE hz hd hA hx hj;have o0:ρ (.tmp 9) = .int .i64 f:=hA.old 9 (by decide);exact zb0 (W':=W) (by simp [execOp,o0,go_sem]) (Below.refl _ _) rfl
     case s3 =>
      intro val ρ W hE hz hd hA hx hj;have o0:ρ (.tmp 9) = .int .i64 f:=hA.old 9 (by decide);exact zb0 (W':=W) (by simp [execOp,o0,go_sem]) (Below.refl _ _) rfl
     case s4 =>
      intro val ρ W hE hz hd hA hx hj;have o0:ρ (.tmp 9) = .int .i64 f:=hA.old 9 (by decide);exact zb0 (W':=W) (by simp [execOp,o0,go_sem]) (Below.refl _ _) rfl
     case s5 =>
      intro val ρ W hE hz hd hA hx hj;have o0:ρ (.tmp 8) = .int .i64 k:=hA.old 8 (by decide);exact zb0 (W':=W) (by simp [execOp,o0,go_sem]) (Below.refl _ _) rfl
     case s6 =>
      intro val ρ W hE hz hd hA hx hj;have d4:ρ (.tmp 54) = .int .i64 f:=(hA.dep 4 (by decide) 54 rfl).trans (hd 4 (List.mem_append_left _ (by decide)));have d5:ρ (.tmp 55) = .int .i64 k:=(hA.dep 5 (by decide) 55 rfl).trans (hd 5 (List.mem_append_left _ (by decide)));have hw:IntKind.i64.wrap ((f:Int)+(k:Int))=(f:Int)+(k:Int):=IntWalk.i64_in _ (by omega);exact zb0 (W':=W) (by simp [execOp,d4,d5,hw,go_sem]) (Below.refl _ _) rfl
     case s7 =>
      intro val ρ W hE hz hd hA hx hj;have d6:ρ (.tmp 56) = .int .i64 ((f:Int)+(k:Int)):=(hA.dep 6 (by decide) 56 rfl).trans (hd 6 (List.mem_append_left _ (by decide)));have hw:IntKind.i64.wrap ((f:Int)+(k:Int) - 1)=(f:Int)+(k:Int) - 1:=IntWalk.i64_in _ (by omega);exact zb0 (W':=W) (by simp [execOp,d6,hA.const,hw,go_sem]) (Below.refl _ _) rfl
     case s8 =>
      intro val ρ W hE hz hd hA hx hj;have d2:ρ (.tmp 52) = .int .i64 f:=(hA.dep 2 (by decide) 52 rfl).trans (hd 2 (List.mem_append_left _ (by decide)));have d3:ρ (.tmp 53) = .int .i64 f:=(hA.dep 3 (by decide) 53 rfl).trans (hd 3 (List.mem_append_left _ (by decide)));have d7:ρ (.tmp 57) = .int .i64 ((f:Int)+(k:Int) - 1):=(hA.dep 7 (by decide) 57 rfl).trans (hd 7 (List.mem_append_left _ (by decide)));refine z7i 7 _ _ rfl #[.int .i64 f,.int .i64 f,.int .i64 ((f:Int)+(k:Int) - 1)] (hA.func _) (by simp [d2,d3,d7]) (fun args W=>Tryz.call7 args W) ((z6j _ _ _ W).mono ?_);rintro e w' ⟨rfl,hb⟩;exact ⟨_,rfl,hb,rfl⟩
     case s9 =>
      intro val ρ W hE hz hd hA hx hj;have d8:ρ (.tmp 58) = .agg #[.int .i64 f,.int .i64 f,.int .i64 ((f:Int)+(k:Int) - 1)]:=(hA.dep 8 (by decide) 58 rfl).trans (hd 8 (List.mem_append_left _ (by decide)));exact zb0 (v:=.slice (some ⟨W.heap.size,0,none⟩) 1 1) (W':=W.alloc (.cells #[.int .i64 (f:Int),.int .i64 (f:Int),.int .i64 ((f:Int)+(k:Int) - 1)] 33)) (by simp [execOp,d8,go_sem]) xx ⟨W.heap.size,rfl,hz,by rw [HROW.out];exact newRow W [.int .i64 (f:Int),.int .i64 (f:Int),.int .i64 ((f:Int)+(k:Int) - 1)] _⟩
     case s10 =>
      intro val ρ W hE hz hd hA hx hj;have d1:ρ (.tmp 51) = .slice pa pn pc:=(hA.dep 1 (by decide) 51 rfl).trans (hd 1 (List.mem_append_left _ (by decide)));have r9:zev Z.heap.size (zet (kfT ks) (q,f)) (val 9) W:=hd 9 (List.mem_append_left _ (by decide));obtain ⟨b',e9,-,hl⟩:=r9;have d9:ρ (.tmp 59) = .slice (some ⟨b',0,none⟩) 1 1:=(hA.dep 9 (by decide) 59 rfl).trans e9;have hW:=hx (by decide);obtain ⟨v',w',hrun,q2,q3,q4⟩:=zhw zae9 27 (X+1) (HT.out.p.ext hW) b' 0 1 [zet (kfT ks) (q,f)] (by simp [zet]) hl (by simp [zet,Value.oneCell']) (by have:=HLL.out;rw [List.length_map];simp at this ⊢;omega) (Nat.le_trans xz hz);exact zr2 (.tmp 51) (.tmp 59) rfl rfl _ _ d1 d9 hrun (.inl ⟨rfl,q3⟩) ⟨q2,fun g hg=>(q4 g hg).imp id fun h=>Nat.le_trans hz h,(Kept.of_below hW).trans q3⟩
     case s11 =>
      intro val ρ W hE hz hd hA hx hj;have o0:ρ (.tmp 6) = .slice za zn zc:=hA.old 6 (by decide);exact zb0 (W':=W) (by simp [execOp,o0,go_sem]) (Below.refl _ _) rfl
     case s12 =>
      intro val ρ W hE hz hd hA hx hj;have o0:ρ (.tmp 7) = .int .i64 q:=hA.old 7 (by decide);exact zb0 (W':=W) (by simp [execOp,o0,go_sem]) (Below.refl _ _) rfl
     case s13 =>
      intro val ρ W hE hz hd hA hx hj;have d12:ρ (.tmp 62) = .int .i64 q:=(hA.dep 12 (by decide) 62 rfl).trans (hd 12 (List.mem_append_left _ (by decide)));exact zb0 (v:=.slice (some ⟨W.heap.size,0,none⟩) 1 1) (W':=W.alloc (.cells #[.int .i64 (q:Int)] 3)) (by simp [execOp,d12,go_sem]) xx ⟨W.heap.size,rfl,hz,newRow W [.int .i64 (q:Int)] _⟩
     case s14 =>
      intro val ρ W hE hz hd hA hx hj;have d11:ρ (.tmp 61) = .slice za zn zc:=(hA.dep 11 (by decide) 61 rfl).trans (hd 11 (List.mem_append_left _ (by decide)));have r13:zev Z.heap.size (zg8 (q,f)) (val 13) W:=hd 13 (List.mem_append_left _ (by decide));obtain ⟨b',e13,-,hl⟩:=r13;have d13:ρ (.tmp 63) = .slice (some ⟨b',0,none⟩) 1 1:=(hA.dep 13 (by decide) 63 rfl).trans e13;have r10:PTw (X+1) 33 3 (.slice pa pn pc) ((zat N (kfT ks) q ++ zd4 k q j).map (zet (kfT ks)) ++ [zet (kfT ks) (q,f)]) (fun b=>some b≠(Value.slice pa pn pc).ownBlock) Z (val 10) W:=hd 10 (List.mem_append_right _ (List.Mem.head _));have hos:=HT.out.s.keptAt r10.2.2 fun g _ _ hg _ e=>z3q HT.out.s HT.out.p (by decide) g hg e.symm
      obtain ⟨v',w',hrun,q2,q3,q4⟩:=zhw zfz 22 (X+1) hos b' 0 1 [zg8 (q,f)] (by simp [zg8]) hl (by simp [zg8,Value.oneCell']) (by have:=HLL.out;rw [List.length_map];simp at this ⊢;omega) (Nat.le_trans xz hz);have hk9:Kept (fun b=>some b≠(Value.slice pa pn pc).ownBlock∧some b≠(Value.slice za zn zc).ownBlock) Z w':=(r10.2.2.mono fun _ _ h=>h.1).trans (q3.mono fun _ _ h=>h.2);refine zr2 (.tmp 61) (.tmp 63) rfl rfl _ _ d11 d13 hrun (.inr ⟨rfl,q3⟩) ⟨⟨r10.1.keptAt q3 fun g _ _ hg _ e=>?_,r10.2.1,hk9⟩,q2,fun g hg=>(q4 g hg).imp id fun h=>Nat.le_trans hz h,hk9⟩
      rcases r10.2.1 g hg with h | h
      ·exact HFR.out g h e.symm
      ·have:=HSL.out g e.symm;omega
     case s15 =>
      intro val ρ W hE hz hd hA hx hj;have o0:ρ (.tmp 5) = .pointer (some ⟨X,0,none⟩):=hA.old 5 (by decide);exact zb0 (W':=W) (by simp [execOp,o0,go_sem]) (Below.refl _ _) rfl
     case send =>
      intro val WW hE hzz hv;obtain ⟨-,-,-,-,-,-,-,-,-,-,-,-,-,-,r14,r15,-⟩:=hv;have r14:PTw (X+1) 33 3 (.slice pa pn pc) ((zat N (kfT ks) q ++ zd4 k q j).map (zet (kfT ks)) ++ [zet (kfT ks) (q,f)]) (fun b=>some b≠(Value.slice pa pn pc).ownBlock∧some b≠(Value.slice za zn zc).ownBlock) Z (val 10) WW∧PTw (X+1) 3 1 (.slice za zn zc) ((zat N (kfT ks) q ++ zd4 k q j).map zg8 ++ [zg8 (q,f)]) (fun b=>some b≠(Value.slice pa pn pc).ownBlock∧some b≠(Value.slice za zn zc).ownBlock) Z (val 14) WW:=r14;obtain ⟨r10,r14⟩:=r14;have hgr:=TwS.grow HX.out HT.out r10 r14;have hx:=HT.out.x.kept r10.2.2 ⟨fun e=>by have:=(HT.out.p.notOwn X e.symm).1;omega,fun e=>by have:=(HT.out.s.notOwn X e.symm).1;omega⟩;have xz2:=hx.lt;have xf2:=hx.fr 1;have xc2:=hx.c1;obtain ⟨va10,vn10,vc10,e10⟩:=r10.1.isSlice;obtain ⟨va14,vn14,vc14,e14⟩:=r14.1.isSlice;have e15:val 15 = .pointer (some ⟨X,1,none⟩):=r15;rw [e10,e14] at hgr;have HGR:=hid hgr;simp only [zbx,e10,e14,e15];go_frame;clear hE hzz r10 r14 r15 hgr e10 e14 e15 hx;go_wp2_with fail;refine ⟨⟨j+1,f+k,.slice va10 vn10 vc10,?_,?_,by go_num,?_⟩,by simp [intOf];omega⟩
      ·have:=HMO.out.1 hin
       omega
      ·rw [HFJ.out,Nat.add_mul,Nat.one_mul];omega
      ·rw [z6r,← List.append_assoc,← HFJ.out]
       exact HGR.out
    ·have hini:¬ (f:Int)+(k:Int) - 1≤(N:Int):=by omega
     have hjn:j=N / k:=by omega
     have HJN:=hid hjn;clear hjn hmore;go_wp2_with fail;refine ⟨⟨q+1,.slice pa pn pc,by have:=HQ.out;omega,by go_num,?_⟩,by have:=HQ.out;simp [intOf];omega⟩;rw [zpr,← HKQ.out,← HJN.out];exact HT.out
  ·have hqi:¬ (q:Int) < (ks.length:Int):=by omega
   have hqn:q=ks.length:=by omega
   subst hqn;have hT:=HT.out;obtain ⟨pa,pn,pc,rfl⟩:=hT.p.isSlice;obtain ⟨e1,e2⟩:=hT.ns;subst e1 e2;have hkf:∀ w,w < ks.length→1≤kfT ks w:=fun w h=>(zpy V.out h).1
   have HKF:=hid hkf;have x0:=hT.x.c0;have x1:=hT.x.c1;obtain ⟨l,hl⟩:∃ l,l=zat N (kfT ks) ks.length:=⟨_,rfl⟩
   have HT2:=hid hT;rw [← hl] at HT2 x1 ⊢;have HL:=hid hl;clear hT HT hl hkf
   by_cases h30:30 < l.length
   ·have h30i:(30:Int) < (l.length:Int):=by omega
    go_wp2_with fail;refine (zix _).mono ?_
    rintro e W9 ⟨rfl,hE9⟩;go_wp2_with fail;go_ret;exact ⟨rfl,(HW1.out.trans' HT2.out.e).trans' hE9⟩
   have h30i:¬ (30:Int) < (l.length:Int):=by omega
   have hCV:zjk N (l.map (zcz (kfT ks))):=by rw [HL.out];exact z9u HKF.out hN1 (by rw [← HL.out];omega)
   have hPN:Pnt (l.map (zcz (kfT ks))):=by rw [HL.out];exact zadz HKF.out hN1.2
   have HCV:=hid hCV;have HPN:=hid hPN;have hma:=zz0 N (l.map (zcz (kfT ks))) (.slice pa l.length pc) Y hCV HT2.out.ps hPN;obtain ⟨F,hF⟩:∃ F,F=zgs (cmN (zca (l.map (zcz (kfT ks))))) (unP (l.map (zcz (kfT ks)))) (l.map (zcz (kfT ks))).length N:=⟨_,rfl⟩
   rw [← hF] at hma;have HF:=hid hF;clear hF hCV hPN;go_wp2_with fail;refine hma.mono ?_
   rintro e Y2 ⟨rfl,hE2⟩;have HE2:=hid hE2;have k0:=HK.out Y2 (HT2.out.e.trans' hE2);clear hma hE2 x0 x1;go_upto_region 16 with (fail);obtain ⟨R,hR⟩:∃ R,R=Y2.heap.size:=⟨_,rfl⟩
   obtain ⟨Y3,hY3⟩:∃ Y3,Y3=Y2.alloc (.cells #[.int .i64 (F:Int),.int .i64 (F:Int)] 31):=⟨_,rfl⟩
   have hE3:Ext Y2 Y3:=by rw [hY3];exact xx
   have r0:Y3.cell? ⟨R,0,none⟩=some (.int .i64 (F:Int)):=by rw [hY3,hR];simp [go_sem]
   have r1:Y3.cell? ⟨R,1,none⟩=some (.int .i64 (F:Int)):=by rw [hY3,hR];simp [go_sem]
   rw [← hY3,← hR];have HR:Hid (∀ W,Ext Y3 W→W.cell? ⟨R,0,none⟩=some (.int .i64 (F:Int))∧W.cell? ⟨R,1,none⟩=some (.int .i64 (F:Int))):=hid fun W e=>⟨zj e r0,zj e r1⟩
   have HT3:=hid ((HT2.out.ext HE2.out).ext hE3);have k0:=HK.out Y3 HT3.out.e;clear hY3 hR hE3 r0 r1 HT2 HE2;go_wp2_with fail;refine (Tu.circleT_any ks _ Y3 (HS1.out.ext HT3.out.e)).mono ?_
   rintro e Y4 ⟨c,cl,rfl,hE4,hci,hcr⟩;obtain ⟨er,her⟩:∃ er,er=Tu.circleErr ks:=⟨_,rfl⟩
   rw [← her];have hec:er=0∨er=17:=by
    rw [her];unfold Tu.circleErr;rw [if_neg (fun h=>h (Tu.tchk_of V.out))]
    split
    ·exact .inl rfl
    ·exact .inr rfl
   obtain ⟨ca,cc,rfl,c1,c2,-⟩:=hci.spec;obtain ⟨r0,r1⟩:=HR.out Y4 hE4;have rz:=World.block_lt_of_cell? _ _ r0;simp only at rz;have hf0:¬ (F:Int) < 0:=by omega
   have HT4:=hid (HT3.out.ext hE4);have k0:=HK.out Y4 HT4.out.e;have HR4:Hid (∀ W,Ext Y4 W→W.cell? ⟨R,1,none⟩=some (.int .i64 (F:Int))):=hid fun W e=>(HR.out W (hE4.trans' e)).2
   have HCI:=hid hci;have HCR:=hid hcr;have HER:=hid her;clear hci hcr her hE4 HT3 HR
   rcases hec with rfl | rfl
   case inr =>
    go_wp2_with fail;refine (zix _).mono ?_
    rintro e W9 ⟨rfl,hE9⟩;go_wp2_with fail;go_ret;exact ⟨rfl,(HW1.out.trans' HT4.out.e).trans' hE9⟩
   go_upto_region 21 with (fail);have hF1:F≤1:=by
    rw [HF.out,HL.out];exact z9w V.out HCR.out HER.out.symm N N
   have hF1i:¬ (1:Int) < (F:Int):=by omega
   have hcc:=Tu.checkCircleR_any ks cl (.slice (some ⟨kb,ko,none⟩) ks.length cap) (.slice ca cl.length cc) Y4 (HS1.out.ext HT4.out.e) HCI.out;rw [z9v HCR.out HER.out.symm] at hcc;have hcl0:0 < cl.length:=List.length_pos_iff.2 (HCR.out.ne HER.out.symm);clear hF1;go_wp2_with fail;refine hcc.mono ?_
   rintro e Y5 ⟨rfl,hE5⟩;have r1:=HR4.out Y5 hE5;have rz:=World.block_lt_of_cell? _ _ r1;simp only at rz;have HT5:=hid (HT4.out.ext hE5);have x1:=HT5.out.x.c1;have x0:=HT5.out.x.c0;have xz:=HT5.out.x.lt;obtain ⟨cb,co,rfl,-,hcell⟩:=(HCI.out.ext hE5).at_all hcl0;have HCC:Hid (∀ W,Ext Y5 W→∀ i,i < cl.length→W.cell? ⟨cb,co+i,none⟩=some (.int .i64 (Tu.gt cl i))):=hid hcell;clear hcc hcell hE5 HT4 HR4 k0 r0;go_wp2_with fail;clear r1 rz x0 x1 xz;have hse:=HT5.out.ints
   go_loopw [14,15] (fun gv iv W=>∃ (al:List Nat),al.length≤l.length∧iv = .int .i64 al.length∧Ext Y5 W∧Owns W Y5.heap.size 2 1 gv ((zbq al).map zam)∧∀ j,j < al.length→zh9 (kfT ks) (z0o cl) (l.getD j (0,0)) (al.getD j 0)) (fun _ iv _=>l.length - (intOf iv).toNat)
   case atStart=>exact ⟨[],by simp,rfl,Below.refl _ _,Owns.nil _ _ _ _,fun j hj=>by simp at hj⟩
   case round =>
    obtain ⟨al,hal,rfl,hE,ho,hpl⟩:=hrel;obtain ⟨Z,rfl⟩:∃ Z,Z=wr:=⟨_,rfl⟩
    obtain ⟨ga,gn,gc,rfl⟩:=ho.isSlice;have HTZ:=hid (HT5.out.ext hE);have k0:=HK.out Z HTZ.out.e;have x0:=HTZ.out.x.c0;have x1:=HTZ.out.x.c1;have HO:=hid ho;have HPL:=hid hpl;have HE:=hid hE;clear ho hpl hE
    by_cases hlt:al.length < l.length
    ·have hlti:(al.length:Int) < (l.length:Int):=by omega
     obtain ⟨pb,po,rfl,hpc⟩:∃ b off,pa=some ⟨b,off,none⟩∧∀ i,(h:i < l.length)→Z.cell? ⟨b,off+i * 3,none⟩=some (.int .i64 ((l.getD i (0,0)).2:Nat)):=by
      obtain ⟨_,_,e0,-,-,hc⟩:=HTZ.out.ps.spec;simp only [List.length_map,Value.slice.injEq] at e0;obtain ⟨rfl,-,rfl⟩:=e0
      rcases hc with h0 | ⟨b,off,rfl,hc⟩
      ·have:l.length=0:=by simpa using congrArg List.length h0
       omega
      ·refine ⟨b,off,rfl,fun i hi=>?_⟩
       have:=(hc i (by simpa using hi)).1;rw [this,List.getElem_map,List.getD_eq_getElem?_getD,List.getElem?_eq_getElem hi];rfl
     have hpi:=hpc _ hlt;obtain ⟨i,hi⟩:∃ i,i=al.length:=⟨_,rfl⟩
     rw [← hi] at hlti hlt hpi ⊢;have HI:=hid hi;obtain ⟨p,hp⟩:∃ p,p=l.getD i (0,0):=⟨_,rfl⟩
     rw [← hp] at hpi;have HP:=hid hp;clear hpc hi hp;go_wp2_with fail;clear k0 x0 x1 hpi;have hmem:p∈zat N (kfT ks) ks.length:=by rw [← HL.out,HP.out];exact getD_in hlt
     have hp1:=(zjj HKF.out hmem).1;obtain ⟨i0,hi0,hv0⟩:=zxk V.out (HCR.out.win HER.out.symm) (HCR.out.circ HER.out.symm) hmem;have hb1:=(zpy V.out (zg3 hmem).1).2.1;have hp60:=(zjj HKF.out hmem).2.2;obtain ⟨zb,zo,rfl,-,hzc⟩:=(HT5.out.ints).at_all (by simpa [zbq] using (show 0 < l.length by omega));have hzi:=hzc Z HE.out i (by simpa [zbq] using hlt);have hze:Tu.gt (zbq (l.map (·.1))) i=((p.1:Nat):Int):=by
      unfold Tu.gt zbq;rw [HP.out,List.map_map,List.getD_eq_getElem?_getD,List.getElem?_map,List.getElem?_eq_getElem hlt,List.getD_eq_getElem?_getD,List.getElem?_eq_getElem hlt];rfl
     rw [hze] at hzi;have HV0:=hid hv0;clear hzc hze hv0 hmem hse
     go_loopw [16] (fun tv W=>∃ (q t:Nat),q≤i0∧t=p.2+q∧tv = .int .i64 t∧Ext Z W) (fun tv _=>200 - (intOf tv).toNat)
     case atStart=>exact ⟨0,p.2,by omega,rfl,rfl,Below.refl _ _⟩
     case round =>
      obtain ⟨q,t,hq,ht,rfl,hEr⟩:=hrel;have zi:=zj hEr hzi;obtain ⟨d,hd⟩:∃ d,d=(t - 1) % cl.length:=⟨_,rfl⟩
      have hdl:d < cl.length:=by rw [hd];exact Nat.mod_lt _ hcl0
      have ci:=HCC.out _ (HE.out.trans' hEr) d hdl;obtain ⟨x,hx⟩:∃ x,x=Tu.gt cl d:=⟨_,rfl⟩
      rw [← hx] at ci;have hdli:(d:Int) < (cl.length:Int):=by omega
      have hm1:IntKind.i64.wrap ((t:Int) - 1)=(t:Int) - 1:=IntWalk.i64_in _ (by omega);have hm2:((t:Int) - 1).tmod (cl.length:Int)=(d:Int):=by
       rw [hd,show (t:Int) - 1=((t - 1:Nat):Int) by omega,← Int.ofNat_tmod]
      have hm3:((t:Int) - 1) % (cl.length:Int)=(d:Int):=by
       rw [hd,show (t:Int) - 1=((t - 1:Nat):Int) by omega];omega
      have HTQ:=hid ht;have HD:=hid hd;have HXV:=hid hx;have htb:t≤200:=by omega
      have hw2:IntKind.i64.wrap ((t:Int)+1)=(t:Int)+1:=IntWalk.i64_in _ (by omega);clear hd hx ht
      by_cases hxp:x=((p.1:Nat):Int)
      ·have hb:(x != ((p.1:Nat):Int))=false:=by simpa using hxp
       have HXP:=hid hxp;clear hxp;go_upto_region 28 with (fail)
       go_quiet (fail)
       clear ci hm1 hm2 hm3 hdli zi;have hE9:Ext Z ((wr.drewN nq).alloc (.cells #[.int .i64 (t:Int)] 2)):=hEr.trans' xx;obtain ⟨v',W6,hrun,q2,q3,q4⟩:=zhw zin 41 Y5.heap.size (HO.out.ext hE9) (wr.drewN nq).heap.size 0 1 [[.int .i64 (t:Int)]] (by simp) (newRow _ [.int .i64 (t:Int)] _) (by simp [Value.oneCell']) (by rw [List.length_map,zd6];have:=HI.out;simp;omega) (Nat.le_trans HE.out.size hE9.size);have hE7:Ext Y5 W6:=(HE.out.trans' hE9).trans (Kept.below (q3.mono (T:=fun b=>b < Y5.heap.size) fun b _ hb e=>by have:=(HO.out.notOwn b e.symm).1;omega) (HE.out.trans' hE9).size);have hrows:(zbq al).map zam ++ [[Value.int .i64 (t:Int)]]=(zbq (al ++ [t])).map zam:=by simp [zbq,zam]
       rw [hrows] at q2;have HE7:=hid hE7;have HO7:=hid q2;have hpn:zh9 (kfT ks) (z0o cl) p t:=by
        rw [HTQ.out];refine z7h hp1 (by omega) ?_
        have e:=HXV.out.symm;rw [HXP.out,HD.out,HTQ.out,show p.2+q - 1=p.2 - 1+q by omega] at e;exact e
       have HPN9:=hid hpn;clear q2 q3 q4 hE9 hE7 hrows hpn;go_wp2_with (at_builtin;refine z3c rfl (.tmp 144) (.tmp 146) rfl rfl rfl hrun ?_);have hil:(al ++ [t]).length=i+1:=by rw [List.length_append,List.length_singleton,HI.out]
       refine ⟨⟨al ++ [t],by rw [hil];exact hlt,by rw [hil];go_num,HE7.out,HO7.out,fun j hj=>?_⟩,by have:=HI.out;simp [intOf];omega⟩;rw [hil] at hj
       by_cases hji:j < i
       ·have:=HPL.out j (by rw [← HI.out];exact hji)
        rw [List.getD_eq_getElem?_getD (l:=al ++ [t]),List.getElem?_append_left (by rw [← HI.out];exact hji),← List.getD_eq_getElem?_getD];exact this
       ·have hj2:j=i:=by omega
        rw [hj2,← HP.out,List.getD_eq_getElem?_getD,HI.out,List.getElem?_append_right (by omega)];simpa using HPN9.out
      ·have hb:(x != ((p.1:Nat):Int))=true:=by simpa using hxp
       have HXP:=hid hxp;clear hxp;go_upto_region 28 with (fail)
       go_quiet (fail)
       clear ci hm1 hm2 hm3 hdli zi;go_wp2_with fail;refine ⟨⟨q+1,t+1,?_,?_,by go_num,hEr.trans' xx⟩,by have:=HTQ.out;simp [intOf];omega⟩
       ·by_cases hqi:q=i0
        ·refine absurd ?_ HXP.out
         rw [HXV.out,HD.out,HTQ.out,show p.2+q - 1=p.2 - 1+q by omega,hqi];exact HV0.out
        ·omega
       ·rw [HTQ.out];omega
    ·have hlti:¬ (al.length:Int) < (l.length:Int):=by omega
     have hln:al.length=l.length:=by omega
     have x1z:=HTZ.out.x.lt;have k0z:=World.block_lt_of_cell? _ _ k0;simp only at k0z;have hpn:gn=al.length:=by
      obtain ⟨_,_,e0,-⟩:=HO.out.form;simp only [Value.slice.injEq,List.length_map,zd6] at e0;exact e0.2.1
     subst hpn;have HLN:=hid hln;clear hln;go_upto_region 31 with (fail);refine zb9 (Z.heap.size) (Nat.le_refl _)
      [sqV (.agg #[.slice (some ⟨kb,ko,none⟩) ks.length cap]),sqV (.agg #[.slice (some ⟨kb,ko,none⟩) ks.length cap]),sqW (fun v W=>IsInts W .i64 v (Tu.zeroS ks)) (fun _ _ _ h e=>IsInts.ext e h),sqW (fun v W=>∃ r,v = .tuple #[r,.int .i64 5]) (fun _ _ _ h _=>h),sqW (fun v W=>∃ r,v = .tuple #[r,.int .i64 5]) (fun _ _ _ h _=>h),sqW (fun v W=>True) (fun _ _ _ _ _=>trivial),sqV (.int .i64 5),sqW (fun v W=>True) (fun _ _ _ _ _=>trivial),sqV (.int .i64 5)]
      [true,true,false,false,false,false,true,false,true] [false,false,false,false,false,false,false,false,false] [true,true,true,true,true,true,true,true,true] [true,true,true,true,true,true,true,true,true]
      (by kernel_rfl) (by kernel_rfl) (by decide +kernel) (by decide +kernel) (by decide +kernel) rfl ⟨rfl,rfl⟩ ⟨?s0,?s1,?s2,?s3,?s4,?s5,?s6,?s7,?s8,trivial⟩ [some 149,some 150,some 151,some 152,some 148,some 153,some 154,some 17,some 18] rfl rfl ?send
     case s0 =>
      intro val ρ W hE hz hd hA hx;have o0:ρ (.tmp 2) = .pointer (some ⟨w.heap.size,0,none⟩):=hA.old 2 (by decide);have f_k0:=cell_below hE (by simp only;omega) k0;clear hd;exact zh (W':=W) (by simp [execOp,o0,f_k0,go_sem]) (Below.refl _ _) rfl
     case s1 =>
      intro val ρ W hE hz hd hA hx;have o0:ρ (.tmp 2) = .pointer (some ⟨w.heap.size,0,none⟩):=hA.old 2 (by decide);have f_k0:=cell_below hE (by simp only;omega) k0;clear hd;exact zh (W':=W) (by simp [execOp,o0,f_k0,go_sem]) (Below.refl _ _) rfl
     case s8 =>
      intro val ρ W hE hz hd hA hx;have d6:ρ (.tmp 154) = .int .i64 5:=(hA.dep 6 (by decide) 154 rfl).trans (hd 6 (by decide));clear hd;exact zh (W':=W) (by simp [execOp,d6,go_sem]) (Below.refl _ _) rfl
     case s2 =>
      intro val ρ W hE hz hd hA hx;have d1:ρ (.tmp 150) = .agg #[.slice (some ⟨kb,ko,none⟩) ks.length cap]:=(hA.dep 1 (by decide) 150 rfl).trans (hd 1 (by decide));clear hd;refine zct 12 _ _ rfl #[.agg #[.slice (some ⟨kb,ko,none⟩) ks.length cap]] (hA.func _) (by simp [d1]) (fun args W=>Tryz.call12 args W) ((Tu.emptyR_any ks _ W (HS1.out.ext (HTZ.out.e.trans' hE)) (by omega)).mono ?_);rintro e w' ⟨g,rfl,hb,-,hN⟩;exact ⟨_,rfl,hb,Tu.zero_ints hN (by omega)⟩
     case s3 =>
      intro val ρ W hE hz hd hA hx;have d0:ρ (.tmp 149) = .agg #[.slice (some ⟨kb,ko,none⟩) ks.length cap]:=(hA.dep 0 (by decide) 149 rfl).trans (hd 0 (by decide));have q2:IsInts W .i64 (val 2) (Tu.zeroS ks):=hd 2 (by decide);have d2:ρ (.tmp 151)=val 2:=hA.dep 2 (by decide) 151 rfl;clear hd;refine zct 11 _ _ rfl #[.agg #[.slice (some ⟨kb,ko,none⟩) ks.length cap],val 2] (hA.func _) (by simp [d0,d2]) (fun args W=>Tryz.call11 args W) ((Tu.doomSafe_any ks (Tu.zeroS ks) _ _ W (HS1.out.ext (HTZ.out.e.trans' hE)) q2 (Tu.stErr_of V.out (Tu.zeroS_st V.out)) (Tu.safe_of0 HER.out.symm V.out)).mono ?_);rintro e w' ⟨r,rfl,hb⟩;exact ⟨_,rfl,hb,r,rfl⟩
     case s4 =>
      intro val ρ W hE hz hd hA hx;obtain ⟨r,h1⟩:∃ r,val 3 = .tuple #[r,.int .i64 5]:=hd 3 (by decide);have dd:ρ (.tmp 152) = .tuple #[r,.int .i64 5]:=(hA.dep 3 (by decide) 152 rfl).trans h1;exact zh (W':=W) (v:=.tuple #[r,.int .i64 5]) (by simp [execOp,dd,go_sem]) (Below.refl _ _) ⟨r,rfl⟩
     case s5 =>
      intro val ρ W hE hz hd hA hx;obtain ⟨r,h1⟩:∃ r,val 4 = .tuple #[r,.int .i64 5]:=hd 4 (by decide);have dd:ρ (.tmp 148) = .tuple #[r,.int .i64 5]:=(hA.dep 4 (by decide) 148 rfl).trans h1;exact zh (W':=W) (v:=r) (by simp [execOp,dd,go_sem]) (Below.refl _ _) trivial
     case s6 =>
      intro val ρ W hE hz hd hA hx;obtain ⟨r,h1⟩:∃ r,val 4 = .tuple #[r,.int .i64 5]:=hd 4 (by decide);have dd:ρ (.tmp 148) = .tuple #[r,.int .i64 5]:=(hA.dep 4 (by decide) 148 rfl).trans h1;exact zh (W':=W) (v:=.int .i64 5) (by simp [execOp,dd,go_sem]) (Below.refl _ _) rfl
     case s7 =>
      intro val ρ W hE hz hd hA hx;have d5:ρ (.tmp 153)=val 5:=hA.dep 5 (by decide) 153 rfl;exact zh (W':=W) (v:=val 5) (by simp [execOp,d5,go_sem]) (Below.refl _ _) trivial
     case send =>
      intro val WQ hE hzz hv;obtain ⟨-,-,-,-,-,-,-,-,q8,-⟩:=hv;have q8':val 8 = .int .i64 5:=q8;simp only [zbx,q8'];go_frame;have HEQ:Hid (Ext Z WQ):=hid hE;have HTQ:=hid (HTZ.out.ext HEQ.out);have x0:=HTQ.out.x.c0;have x1:=HTQ.out.x.c1;have xz:=HTQ.out.x.lt;have hchk:=zyf N 1 (l.map (zcz (kfT ks))) (.slice pa l.length pc) (.slice ga al.length gc) al WQ HCV.out HTQ.out.ps HPN.out (by omega) (HO.out.ext HEQ.out).isRows (by rw [zvx];exact HLN.out)
       (zach HLN.out HPL.out) (fun t _=>z9x HL.out HKF.out HLN.out HPL.out t)
      clear hE hzz q8 q8' k0 k0z x1z;go_wp2_with fail;refine hchk.mono ?_
      rintro e Y6 ⟨rfl,hE6⟩;go_wp2_with fail;refine (zix _).mono ?_
      rintro e W9 ⟨rfl,hE9⟩;go_wp2_with fail;go_ret;exact ⟨rfl,(HW1.out.trans' (HTQ.out.e.trans' hE6)).trans' hE9⟩
end Go.Proofs.YtnfdiohfojjnlaaGreat
namespace Go.Proofs.YtnfdiohfojjnlaaGreat
open Go.Lib (hid)
open Go.RowKit
theorem zpk (ks:List Int) (kv:Value) (m:Int) (w:World) (hv:IsInts w .i64 kv ks) (hm:(Lit.int .u8 m).wf=true) :
  Calls Tryz.prog 3 #[.agg #[kv],.int .u8 m] w fun e w'=>e = .returned (.bool true)∧Ext w w':=by
 have hb:0≤m∧m≤255:=by
  have h:=hm;simp [Lit.wf] at h;have e1:IntKind.u8.min=0:=rfl;have e2:IntKind.u8.max=255:=rfl;omega
 obtain ⟨n,rfl⟩:∃ n:Nat,m=(n:Int):=⟨m.toNat,by omega⟩
 exact zy7 ks n (by omega) kv w hv
end Go.Proofs.YtnfdiohfojjnlaaGreat
