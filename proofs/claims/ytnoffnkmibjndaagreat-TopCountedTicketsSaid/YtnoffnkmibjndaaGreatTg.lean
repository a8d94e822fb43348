/-
  The walk of the statement on counted tickets.
-/
import Derived.Test.YtnoffnkmibjndaaGreatTf
import Derived.Test.YtnoffnkmibjndaaGreatCd
import Derived.Test.YtnoffnkmibjndaaGreatBc
import Derived.Test.YtnoffnkmibjndaaGreatLy
import Derived.OpenShut
set_option maxRecDepth 200000
set_option maxHeartbeats 0
set_option linter.unusedSimpArgs false
set_option linter.unusedVariables false
namespace Go.Proofs.YtnoffnkmibjndaaGreat
open Go.Lib (hid)
open Go.RowKit Go.Shelf
attribute [local go_sem] Oper.semAt_some
theorem zup (h:Cu.Hall) (sv:Value) (M:zj) (V:zal M) (hpos:∀ i,i < M.n→1≤M.ss.getD i 0) (bs:List Nat) (hb8:∀ x∈bs,x≤255) (hss:M.ss=zde M bs M.n) (ka:Option Addr) (kc:Nat) (bv:Value) (w:World) (hc0:Cu.chk h=0) (hs:Cu.IsCnts w sv h.cs)
  (hk:zn w .i64 (.slice ka M.n kc) (zat M.ks)) (hb:zn w .u8 bv (zat bs)) :
  Calls Tryz.prog 3 #[.agg #[.int .i64 h.n,.int .i64 h.most,sv],.agg #[.int .i64 M.L,.int .i64 M.n,.slice ka M.n kc,.int .i64 M.rest],bv] w fun e w'=>e = .returned (.bool true)∧Ext w w':=by
 obtain ⟨sa,cap,rfl,hl1,hl2,-⟩:=hs.spec;obtain ⟨ba,bc,rfl,hbl,hbc,-⟩:=hb.spec;rw [zbx] at hbl ⊢;have v:=Cu.valid_of_chk hc0;have hcl:=v.len;have hcn:¬ ((20:Int) < (h.cs.length:Int)):=by omega
 have HS:=hid hs;have HB:=hid hb;have HSS:=hid hss;have HV:=hid v;clear hs hb hss v
 go_enter Tryz.func3,Tryz.ntmps3
 go_upto_region 1 with (fail);obtain ⟨W0,hW0⟩:∃ W0,W0=(w.alloc (.cells #[.int .i64 h.n,.int .i64 h.most,.slice sa h.cs.length cap] 24)).alloc (.cells #[.int .i64 M.L,.int .i64 M.n,.slice ka M.n kc,.int .i64 M.rest] 27):=⟨_,rfl⟩
 have hE:Ext w W0:=by rw [hW0];exact xx
 obtain ⟨Q,hQ⟩:∃ Q,Q=w.heap.size:=⟨_,rfl⟩
 have hQ0:W0.heap[Q]? = some (.cells #[.int .i64 h.n,.int .i64 h.most,.slice sa h.cs.length cap] 24 (0,0)):=by
  have e2:Ext (w.alloc (.cells #[.int .i64 h.n,.int .i64 h.most,.slice sa h.cs.length cap] 24)) W0:=by rw [hW0];exact xx
  have:=World.alloc_heap_new w (.cells #[.int .i64 h.n,.int .i64 h.most,.slice sa h.cs.length cap] 24);rw [hQ];exact (e2.block _ (by simp)).trans this
 have k0:W0.cell? ⟨Q,0,none⟩=some (.int .i64 h.n):=by rw [cell_of_row _ _ _ _ _ _ hQ0];rfl
 have k1:W0.cell? ⟨Q,1,none⟩=some (.int .i64 h.most):=by rw [cell_of_row _ _ _ _ _ _ hQ0];rfl
 have k2:W0.cell? ⟨Q,2,none⟩=some (.slice sa h.cs.length cap):=by rw [cell_of_row _ _ _ _ _ _ hQ0];rfl
 have c0:W0.cell? ⟨Q+1,0,none⟩=some (.int .i64 M.L):=by rw [hW0,hQ];simp [go_sem]
 have c1:W0.cell? ⟨Q+1,1,none⟩=some (.int .i64 M.n):=by rw [hW0,hQ];simp [go_sem]
 have c2:W0.cell? ⟨Q+1,2,none⟩=some (.slice ka M.n kc):=by rw [hW0,hQ];simp [go_sem]
 have c3:W0.cell? ⟨Q+1,3,none⟩=some (.int .i64 M.rest):=by rw [hW0,hQ];simp [go_sem]
 have zq:=World.block_lt_of_cell? _ _ c0;simp only at zq;have HD:Hid (∀ W,Ext W0 W→W.cell? ⟨Q+1,0,none⟩=some (.int .i64 M.L)∧W.cell? ⟨Q+1,1,none⟩=some (.int .i64 M.n)∧W.cell? ⟨Q+1,2,none⟩=some (.slice ka M.n kc)∧W.cell? ⟨Q+1,3,none⟩=some (.int .i64 M.rest)∧Q+1 < W.heap.size) :=
  hid fun W e=>⟨zf e c0,zf e c1,zf e c2,zf e c3,Nat.lt_of_lt_of_le zq e.size⟩
 have HH:Hid (∀ W,Ext W0 W→W.cell? ⟨Q,0,none⟩=some (.int .i64 h.n)∧W.cell? ⟨Q,1,none⟩=some (.int .i64 h.most)∧W.cell? ⟨Q,2,none⟩=some (.slice sa h.cs.length cap)) :=
  hid fun W e=>⟨zf e k0,zf e k1,zf e k2⟩
 have HW:=hid hE;have HK:=hid hk;have HQQ:=hid hQ;have HQ0:=hid hQ0;rw [← hW0];rw [← hQ];clear hW0 hk hE hQ hQ0;have zp:Q < W0.heap.size:=by omega
 go_wp2_with fail;have hch:=Cu.checkHallR_any h (.slice sa h.cs.length cap) W0 (HS.out.ext HW.out);rw [hc0] at hch;refine hch.mono ?_
 rintro e W1 ⟨rfl,hE1⟩;replace c0:=zf hE1 c0;replace c1:=zf hE1 c1;replace c2:=zf hE1 c2;replace c3:=zf hE1 c3;replace zq:=World.block_lt_of_cell? _ _ c0;have HE1:=hid hE1;clear hE1 hch;go_wp2_with fail;have hdy:=zyn M.L M.n M.rest (zat M.ks) ka kc W1 (by rw [zbx,V.kl];exact HK.out.ext (HW.out.trans' HE1.out));rw [zbx,V.kl] at hdy;refine hdy.mono ?_
 rintro e W2 ⟨b,rfl,hE2,-⟩;have HE2:=hid (HE1.out.trans' hE2);clear hE2 hdy;cases b
 ·go_wp2_with fail
  refine (zeu _).mono ?_
  rintro e W9 ⟨rfl,hE9⟩;go_wp2_with fail;go_ret;exact ⟨rfl,(HW.out.trans' HE2.out).trans' hE9⟩
 by_cases hb20:20 < bs.length
 ·have hb20i:(20:Int) < (bs.length:Int):=by omega
  go_wp2_with fail;refine (zeu _).mono ?_
  rintro e W9 ⟨rfl,hE9⟩;go_wp2_with fail;go_ret;exact ⟨rfl,(HW.out.trans' HE2.out).trans' hE9⟩
 have hb20i:¬ ((20:Int) < (bs.length:Int)):=by omega
 clear c0 c1 c2 c3 k0 k1 k2 hb20 hcn zq zp;obtain ⟨N,hN⟩:∃ N:Nat,h.n=(N:Int):=⟨h.n.toNat,by have:=HV.out.n1;omega⟩
 have hN1:1≤N∧N≤10:=by have:=HV.out.n1;have:=HV.out.n10;omega
 obtain ⟨K,hK⟩:∃ K,K=(zqr M).length:=⟨_,rfl⟩
 have hKc:K=cnt (opM M) ts0:=by rw [hK];exact z8h (M:=opM M) (zaa2 M) (by have:=V.L;show 0 < M.L;omega)
 have hK6:K≤1679616:=by rw [hKc];exact ze9 (zu9 V) ts0
 obtain ⟨E,hE⟩:∃ E,E=K / N:=⟨_,rfl⟩
 have hNE:N * E≤cnt (opM M) ts0:=by rw [hE,← hKc];exact zafg
 have hE6:E≤K:=by rw [hE];exact Nat.div_le_self _ _
 have w1:Int.tdiv (K:Int) (N:Int)=(E:Int):=by rw [Int.tdiv_eq_ediv_of_nonneg (by omega),hE];rfl
 have w2:IntKind.i64.wrap (E:Int)=(E:Int):=IntWalk.i64_in _ (by omega);have hN0:¬ (N=0):=by omega
 have HNE:=hid hNE;have HKK:=hid hK;have HKC:=hid hKc.symm;obtain ⟨c0,c1,c2,c3,zq⟩:=HD.out W2 HE2.out;obtain ⟨k0,k1,k2⟩:=HH.out W2 HE2.out;rw [hN] at k0;have zp:Q < W2.heap.size:=by omega
 clear hK hKc hE hNE;have HN:=hid hN;go_upto_region 3 with (fail);refine zb5 (W2.heap.size) (Nat.le_refl _)
  [sqV (.agg #[.int .i64 M.L,.int .i64 M.n,.slice ka M.n kc,.int .i64 M.rest]),sqW (fun v W=>∃ sa cap,v = .slice sa K cap) (fun _ _ _ h _=>h),sqV (.int .i64 K),sqV (.pointer (some ⟨Q,0,none⟩)),sqV (.int .i64 N),sqV (.int .i64 E),sqV (.int .i64 E)]
  [true,false,true,true,true,true,true] [false,false,false,false,false,false,false] [true,true,true,true,true,true,true] [true,true,true,true,true,true,true]
  (by kernel_rfl) (by kernel_rfl) (by decide +kernel) (by decide +kernel) (by decide +kernel) rfl ⟨rfl,rfl⟩ ⟨?s0,?s1,?s2,?s3,?s4,?s5,?s6,trivial⟩ [some 46,some 47,some 48,some 49,some 50,some 51,some 7] rfl rfl ?send
 case s0 =>
  intro val ρ W hE hz hd hA hx;have o0:ρ (.tmp 4) = .pointer (some ⟨Q+1,0,none⟩):=hA.old 4 (by decide);have f_c0:=cell_below hE (by simp only;omega) c0;have f_c1:=cell_below hE (by simp only;omega) c1;have f_c2:=cell_below hE (by simp only;omega) c2;have f_c3:=cell_below hE (by simp only;omega) c3;clear hd;exact zb (W':=W) (by simp [execOp,o0,f_c0,f_c1,f_c2,f_c3,go_sem]) (Below.refl _ _) rfl
 case s3 =>
  intro val ρ W hE hz hd hA hx;have o0:ρ (.tmp 3) = .pointer (some ⟨Q,0,none⟩):=hA.old 3 (by decide);clear hd;exact zb (W':=W) (by simp [execOp,o0,go_sem]) (Below.refl _ _) rfl
 case s4 =>
  intro val ρ W hE hz hd hA hx;have d3:ρ (.tmp 49) = .pointer (some ⟨Q,0,none⟩):=(hA.dep 3 (by decide) 49 rfl).trans (hd 3 (by decide));have f_k0:=cell_below hE (by simp only;omega) k0;clear hd;exact zb (W':=W) (by simp [execOp,d3,f_k0,go_sem]) (Below.refl _ _) rfl
 case s5 =>
  intro val ρ W hE hz hd hA hx;have d2:ρ (.tmp 48) = .int .i64 K:=(hA.dep 2 (by decide) 48 rfl).trans (hd 2 (by decide));have d4:ρ (.tmp 50) = .int .i64 N:=(hA.dep 4 (by decide) 50 rfl).trans (hd 4 (by decide));clear hd;exact zb (W':=W) (by simp [execOp,d2,d4,w1,w2,hN0,go_sem]) (Below.refl _ _) rfl
 case s6 =>
  intro val ρ W hE hz hd hA hx;have d5:ρ (.tmp 51) = .int .i64 E:=(hA.dep 5 (by decide) 51 rfl).trans (hd 5 (by decide));clear hd;exact zb (W':=W) (by simp [execOp,d5,go_sem]) (Below.refl _ _) rfl
 case s1 =>
  intro val ρ W hE hz hd hA hx;have e0:ρ (.tmp 46) = .agg #[.int .i64 M.L,.int .i64 M.n,.slice ka M.n kc,.int .i64 M.rest]:=(hA.dep 0 (by decide) 46 rfl).trans (hd 0 (by decide));refine zcm 7 _ _ rfl #[.agg #[.int .i64 M.L,.int .i64 M.n,.slice ka M.n kc,.int .i64 M.rest]] (hA.func _) (by simp [e0]) (fun args W=>Tryz.call7 args W) ((z8q M V ka kc W (HK.out.ext ((HW.out.trans' HE2.out).trans' hE))).mono ?_);rintro e w' ⟨v,rfl,hb,hr⟩;exact ⟨v,rfl,hb,by obtain ⟨sa,cap,e,-⟩:=z1e hr;exact ⟨sa,cap,by rw [e,HKK.out]⟩⟩
 case s2 =>
  intro val ρ W hE hz hd hA hx;obtain ⟨sa,cap,e⟩:=hd 1 (by decide);have e1:ρ (.tmp 47) = .slice sa K cap:=(hA.dep 1 (by decide) 47 rfl).trans e;exact zb (W':=W) (by simp [execOp,e1,go_sem]) (Below.refl _ _) rfl
 case send =>
  intro val W3 hE3 hzz hv;obtain ⟨-,-,-,-,-,-,r6,-⟩:=hv;have q6:val 6 = .int .i64 E:=r6;simp only [zbe,q6];go_frame;have HE3:=hid (HE2.out.trans' hE3);obtain ⟨k0,k1,k2⟩:=HH.out W3 HE3.out;rw [hN] at k0;have hq3:=(HE3.out.block Q (Array.getElem?_eq_some_iff.1 HQ0.out).1).trans HQ0.out;have fz:W3.frozen? ⟨Q,1,none⟩=false:=by simp [World.frozen?,hq3]
  clear hE3 hN hb20i hzz r6 q6 c0 c1 c2 c3 zq zp w1 w2 hN0;go_upto_region 5 with (fail);obtain ⟨h',g1,g2,g3⟩:∃ h':Cu.Hall,h'.n=h.n∧h'.most=min h.most E∧h'.cs=h.cs:=⟨⟨h.n,min h.most E,h.cs⟩,rfl,rfl,rfl⟩
  have hv':=z6m HV.out (E:=(E:Int)) (by omega) g1 g2 g3;have hme:h'.most≤E:=by rw [g2];omega
  rw [← g3] at hq3;rw [← g2];obtain ⟨W4,hW4⟩:∃ W4,W4=W3.setCell ⟨Q,1,none⟩ (.int .i64 h'.most):=⟨_,rfl⟩
  rw [← hW4];have hk4:Kept (fun k=>k≠Q) W3 W4:=by rw [hW4];exact (Kept.refl _ W3).setCell (fun _ h=>h rfl) _
  have hq4:=zx hq3 1 (.int .i64 h'.most);rw [← hW4] at hq4;have hE4:Ext w W4:=(HW.out.trans' HE3.out).trans (Kept.below (hk4.mono (T:=fun k=>k < w.heap.size) fun k _ hk=>by have:=HQQ.out;omega) (HW.out.trans' HE3.out).size);have HH4:Hid (∀ W,Ext W4 W→W.cell? ⟨Q,0,none⟩=some (.int .i64 N)∧W.cell? ⟨Q,1,none⟩=some (.int .i64 h'.most)∧W.cell? ⟨Q,2,none⟩=some (.slice sa h'.cs.length cap)):=hid fun W e=>by
   refine ⟨zf e ?_,zf e ?_,zf e ?_⟩
   ·rw [cell_of_row _ _ _ _ _ _ hq4,← HN.out];rfl
   ·rw [cell_of_row _ _ _ _ _ _ hq4];rfl
   ·rw [cell_of_row _ _ _ _ _ _ hq4];rfl
  have HD4:Hid (∀ W,Ext W4 W→W.cell? ⟨Q+1,0,none⟩=some (.int .i64 M.L)∧W.cell? ⟨Q+1,1,none⟩=some (.int .i64 M.n)∧W.cell? ⟨Q+1,2,none⟩=some (.slice ka M.n kc)∧W.cell? ⟨Q+1,3,none⟩=some (.int .i64 M.rest)∧Q+1 < W.heap.size):=hid fun W e=>by
   obtain ⟨c0,c1,c2,c3,c4⟩:=HD.out W3 HE3.out;exact ⟨zf e (hk4.cell c0 (by simp only;omega)),zf e (hk4.cell c1 (by simp only;omega)),zf e (hk4.cell c2 (by simp only;omega)),zf e (hk4.cell c3 (by simp only;omega)),Nat.lt_of_lt_of_le c4 (Nat.le_trans hk4.size e.size)⟩
  have HS4:Hid (Cu.IsCnts w (.slice sa h'.cs.length cap) h'.cs):=hid (by rw [g3];exact HS.out);have g1:h'.n=(N:Int):=g1.trans HN.out;have HE4:=hid hE4;have HV4:=hid hv';have HG1:=hid g1;have HME:=hid hme;obtain ⟨k0,k1,k2⟩:=HH4.out W4 (Below.refl _ _);clear hW4 hk4 hq4 hq3 hE4 HH HD HS HV HE2 HE3 HW HQ0 g2 g3 fz hv' hme;go_wp2_with fail;have htr:=Cu.truth_any h' (.slice sa h'.cs.length cap) W4 (HS4.out.ext HE4.out);rw [g1] at htr
  rcases (z81 HV4.out).symm with t5 | ⟨t0,gA,iT⟩
  ·rw [t5] at htr
   refine htr.mono ?_
   rintro e W5 ⟨tv,rfl,hE5,-⟩;have HE5:=hid hE5;clear hE5 htr t5 g1;go_wp2_with fail;refine (zeu _).mono ?_
   rintro e W9 ⟨rfl,hE9⟩;go_wp2_with fail;go_ret;exact ⟨rfl,(HE4.out.trans' HE5.out).trans' hE9⟩
  rw [t0] at htr;obtain ⟨t,ht⟩:∃ t,t=Cu.truthL h':=⟨_,rfl⟩
  have hte:=Cu.truthL_ok t0;rw [← ht] at htr iT hte;refine htr.mono ?_
  rintro e W5 ⟨tv,rfl,hE5,hT⟩;obtain ⟨ta,tc,rfl,htc1,htc2,-⟩:=hT.spec;have HE5:=hid hE5;have HT:=hid hT;have HIT:=hid iT;have HGA:=hid gA;obtain ⟨k0,k1,k2⟩:=HH4.out W5 HE5.out;clear hE5 htr t0 ht hT iT gA;go_wp2_with fail;have hct:=Cu.checkTruthR_any h' (.slice sa h'.cs.length cap) (.slice ta t.length tc) t W5 (HS4.out.ext (HE4.out.trans' HE5.out)) HT.out;rw [g1,hte] at hct;refine hct.mono ?_
  rintro e W6 ⟨rfl,hE6⟩;have HE6:=hid (HE5.out.trans' hE6);have HT6:=hid (HT.out.ext hE6);have SH:=hid (zagn HV4.out HGA.out HIT.out (M:=M) HME.out (by rw [g1];simpa using HNE.out));clear hE6 hct hte g1 HT HE5 k0 k1 k2;go_upto_region 11 with (fail);obtain ⟨W7,hW7⟩:∃ W7,W7=W6.alloc (.cells #[.slice none 0 0,.slice none 0 0,.slice none 0 0] 40):=⟨_,rfl⟩
  rw [← hW7];have hsm:=zabl hW7;obtain ⟨P,hP⟩:∃ P,P=W6.heap.size:=⟨_,rfl⟩
  rw [← hP] at hsm ⊢;have HPP:=hid hP;have HSM:=hid hsm;clear hW7 hsm hP;go_wp2_with fail
  go_loopw [11] (fun iv W=>∃ (k:Nat) (vs:Nat→Value),k≤N∧iv = .int .i64 k∧zen W6 W P vs (fun j=>zc2 h' t E j k)) (fun iv _=>N - (intOf iv).toNat)
  case atStart=>exact ⟨0,_,by omega,rfl,HSM.out⟩
  case round =>
   obtain ⟨k,vs,hk,rfl,hsm⟩:=hrel;obtain ⟨X,rfl⟩:∃ X,X=wr:=⟨_,rfl⟩
   have HX:=hid hsm;clear hsm;obtain ⟨k0,k1,k2⟩:=HH4.out X (HE6.out.trans' HX.out.k)
   by_cases hlt:k < N
   ·have hki:(k:Int) < (N:Int):=by omega
    obtain ⟨s0,s1,s2,s3,s4⟩:=zt6 HV4.out HGA.out HIT.out (w:=k) (by rw [HG1.out];exact hki);have hsp:=Cu.span_any h' (.slice sa h'.cs.length cap) k k X (HS4.out.ext (HE4.out.trans' (HE6.out.trans' HX.out.k)));rw [HG1.out,s0] at hsp;obtain ⟨hm1,hm2⟩:(∀ j,j < 3→0≤ze6 h' t k j)∧∀ j,j < 3→ze6 h' t k j≤E:=⟨fun j hj=>(SH.out.each k (by rw [HG1.out];exact hki) j hj).1,fun j hj=>(SH.out.each k (by rw [HG1.out];exact hki) j hj).2⟩
    have hmj:∀ j,ze6 h' t k j=zvi (Cu.spanLo h' k k) (t.getD k 0) (Cu.spanHi h' k k) j:=fun j=>rfl
    obtain ⟨lo,hlo⟩:∃ lo,lo=Cu.spanLo h' k k:=⟨_,rfl⟩
    obtain ⟨hi,hhi⟩:∃ hi,hi=Cu.spanHi h' k k:=⟨_,rfl⟩
    obtain ⟨tk,htk⟩:∃ tk,tk=t.getD k 0:=⟨_,rfl⟩
    rw [← hlo] at hsp s1 s3 hmj;rw [← hhi] at hsp s2 s4 hmj;rw [← htk] at s3 s4 hmj;have HMJ:=hid hmj;have HM1:=hid hm1;have HM2:=hid hm2;have hkt:k < t.length:=by have:=HIT.out.len;rw [HG1.out] at this;omega
    obtain ⟨tb,off,rfl,hct⟩:∃ tb off,ta=some ⟨tb,off,none⟩∧∀ W,Ext W6 W→W.cell? ⟨tb,off+k,none⟩=some (.int .i64 tk):=by
     obtain ⟨_,_,e0,-,-,hc⟩:=HT6.out.spec;cases e0
     rcases hc with h0 | ⟨tb,off,rfl,hc⟩
     ·rw [h0] at hkt;simp at hkt
     ·refine ⟨tb,off,rfl,fun W e=>?_⟩
      have c0:=zf e (hc k hkt);rw [c0,htk,List.getD_eq_getElem?_getD,List.getElem?_eq_getElem hkt];rfl
    have HCT:=hid hct;clear hlo hhi htk hmj hm1 hm2 hct s0;go_wp2_with fail;refine hsp.mono ?_
    rintro e X1 ⟨rfl,hE1⟩;clear hsp k0 k1 k2;go_upto_region 15 with (fail);obtain ⟨X2,hX2⟩:∃ X2,X2=X1.alloc (.cells #[.int .i64 lo,.int .i64 hi] 42):=⟨_,rfl⟩
    rw [← hX2];have hE2:Ext X X2:=Ext.trans' hE1 (by rw [hX2];exact xx);obtain ⟨S,hS⟩:∃ S,S=X1.heap.size:=⟨_,rfl⟩
    have c0:X2.cell? ⟨S,0,none⟩=some (.int .i64 lo):=by rw [hX2,hS];simp [go_sem]
    have c1:X2.cell? ⟨S,1,none⟩=some (.int .i64 hi):=by rw [hX2,hS];simp [go_sem]
    rw [← hS];have HX2:=hid (HX.out.ext hE2);obtain ⟨k0,k1,k2⟩:=HH4.out X2 (HE6.out.trans' HX2.out.k);have ct:=HCT.out X2 HX2.out.k;have zS:=World.block_lt_of_cell? _ _ c0;have zQ:=World.block_lt_of_cell? _ _ k0;have zt:=World.block_lt_of_cell? _ _ ct;simp only at zS zQ zt;clear hX2 hE1 hE2 hS HX;have b1:decide (lo < 0)=false:=decide_eq_false (by omega);have b2:decide (h'.most < hi)=false:=decide_eq_false (by omega);have b3:decide (tk < lo)=false:=decide_eq_false (by omega);have b4:decide (hi < tk)=false:=decide_eq_false (by omega);have hkti:(k:Int) < (t.length:Int):=by omega
    refine za4 (X2.heap.size) (Nat.le_refl _)
     [sqV (.int .i64 0),sqV (.bool false),sqV (.bool false),sqV (.pointer (some ⟨S,0,none⟩)),sqV (.int .i64 lo),sqV (.bool false),sqV (.bool false),sqV (.bool false),sqV (.pointer (some ⟨S,1,none⟩)),sqV (.int .i64 hi),sqV (.pointer (some ⟨Q,1,none⟩)),sqV (.int .i64 h'.most),sqV (.bool false),sqV (.bool false),sqV (.bool false),sqV (.slice (some ⟨tb,off,none⟩) t.length tc),sqV (.int .i64 k),sqV (.pointer (some ⟨tb,off+k,none⟩)),sqV (.int .i64 tk),sqV (.pointer (some ⟨S,0,none⟩)),sqV (.int .i64 lo),sqV (.bool false),sqV (.bool false),sqV (.bool false),sqV (.slice (some ⟨tb,off,none⟩) t.length tc),sqV (.int .i64 k),sqV (.pointer (some ⟨tb,off+k,none⟩)),sqV (.int .i64 tk),sqV (.pointer (some ⟨S,1,none⟩)),sqV (.int .i64 hi),sqV (.bool false),sqV (.bool false)]
     [true,true,true,true,true,true,true,true,true,true,true,true,true,true,true,true,true,true,true,true,true,true,true,true,true,true,true,true,true,true,true,true] [false,false,false,false,false,false,false,false,false,false,false,false,false,false,false,false,false,false,false,false,false,false,false,false,false,false,false,false,false,false,false,false] [true,true,true,true,true,true,true,true,true,true,true,true,true,true,true,true,true,true,true,true,true,true,true,true,true,true,true,true,true,true,true,true] [true,true,true,true,true,true,true,true,true,true,true,true,true,true,true,true,true,true,true,true,true,true,true,true,true,true,true,true,true,true,true,true] [true,true,true,true,true,true,true,true,true,true,true,true,true,true,true,true,true,true,true,true,true,true,true,true,true,true,true,true,true,true,true,true] [none,some false,some false,none,none,some false,some false,some false,none,none,none,none,some false,some false,some false,none,none,none,none,none,none,some false,some false,some false,none,none,none,none,none,none,some false,some false]
     (by kernel_rfl) (by kernel_rfl) (by decide +kernel) ⟨fun _ _ _ h=>h,⟨fun _ _ _ h=>h,⟨fun _ _ _ h=>h,⟨fun _ _ _ h=>h,⟨fun _ _ _ h=>h,⟨fun _ _ _ h=>h,⟨fun _ _ _ h=>h,⟨fun _ _ _ h=>h,⟨fun _ _ _ h=>h,⟨fun _ _ _ h=>h,⟨fun _ _ _ h=>h,⟨fun _ _ _ h=>h,⟨fun _ _ _ h=>h,trivial⟩⟩⟩⟩⟩⟩⟩⟩⟩⟩⟩⟩⟩ (by decide +kernel) (by decide +kernel) (by decide +kernel) rfl ⟨rfl,rfl,rfl⟩ ⟨?s0,?s1,?s2,?s3,?s4,?s5,?s6,?s7,?s8,?s9,?s10,?s11,?s12,?s13,?s14,?s15,?s16,?s17,?s18,?s19,?s20,?s21,?s22,?s23,?s24,?s25,?s26,?s27,?s28,?s29,?s30,?s31,trivial⟩ [some 86,some 87,some 88,some 89,some 90,some 91,some 92,some 93,some 94,some 95,some 96,some 97,some 98,some 99,some 100,some 101,some 102,some 103,some 104,some 105,some 106,some 107,some 108,some 109,some 110,some 111,some 112,some 113,some 114,some 115,some 116,some 117] rfl rfl ?send
    case s0 =>
     intro val ρ W hE hz hd hu hA hx;have o0:ρ (.tmp 13) = .int .i64 0:=hA.old 13 (by decide);clear hd hu;exact zb (W':=W) (by simp [execOp,o0,go_sem]) (Below.refl _ _) rfl
    case s1 =>
     intro val ρ W hE hz hd hu hA hx;have d0:ρ (.tmp 86) = .int .i64 0:=(hA.dep 0 (by decide) 86 rfl).trans (hd 0 (by decide));clear hd hu;exact zb (W':=W) (by simp [execOp,hA.const,d0,go_sem]) (Below.refl _ _) rfl
    case s2 =>
     intro val ρ W hE hz hd hu hA hx;have d1:ρ (.tmp 87) = .bool false:=(hA.dep 1 (by decide) 87 rfl).trans (hd 1 (by decide));clear hd hu;exact zb (W':=W) (by simp [execOp,d1,go_sem]) (Below.refl _ _) rfl
    case s3 =>
     intro val ρ W hE hz hd hu hA hx;have o0:ρ (.tmp 12) = .pointer (some ⟨S,0,none⟩):=hA.old 12 (by decide);clear hd hu;exact zb (W':=W) (by simp [execOp,o0,go_sem]) (Below.refl _ _) rfl
    case s4 =>
     intro val ρ W hE hz hd hu hA hx;have d3:ρ (.tmp 89) = .pointer (some ⟨S,0,none⟩):=(hA.dep 3 (by decide) 89 rfl).trans (hd 3 (by decide));have f_c0:=cell_below hE (by simp only;omega) c0;clear hd hu;exact zb (W':=W) (by simp [execOp,d3,f_c0,go_sem]) (Below.refl _ _) rfl
    case s5 =>
     intro val ρ W hE hz hd hu hA hx;have d4:ρ (.tmp 90) = .int .i64 lo:=(hA.dep 4 (by decide) 90 rfl).trans (hd 4 (by decide));clear hd hu;exact zb (W':=W) (by simp [execOp,hA.const,d4,b1,go_sem]) (Below.refl _ _) rfl
    case s6 =>
     intro val ρ W hE hz hd hu hA hx;have d2:ρ (.tmp 88) = .bool false:=(hA.dep 2 (by decide) 88 rfl).trans (hd 2 (by decide));have d5:ρ (.tmp 91) = .bool false:=(hA.dep 5 (by decide) 91 rfl).trans (hd 5 (by decide));clear hd hu;exact zb (W':=W) (by simp [execOp,hA.const,d2,d5,go_sem]) (Below.refl _ _) rfl
    case s7 =>
     intro val ρ W hE hz hd hu hA hx;have d6:ρ (.tmp 92) = .bool false:=(hA.dep 6 (by decide) 92 rfl).trans (hd 6 (by decide));clear hd hu;exact zb (W':=W) (by simp [execOp,d6,go_sem]) (Below.refl _ _) rfl
    case s8 =>
     intro val ρ W hE hz hd hu hA hx;have o0:ρ (.tmp 12) = .pointer (some ⟨S,0,none⟩):=hA.old 12 (by decide);clear hd hu;exact zb (W':=W) (by simp [execOp,o0,go_sem]) (Below.refl _ _) rfl
    case s9 =>
     intro val ρ W hE hz hd hu hA hx;have d8:ρ (.tmp 94) = .pointer (some ⟨S,1,none⟩):=(hA.dep 8 (by decide) 94 rfl).trans (hd 8 (by decide));have f_c1:=cell_below hE (by simp only;omega) c1;clear hd hu;exact zb (W':=W) (by simp [execOp,d8,f_c1,go_sem]) (Below.refl _ _) rfl
    case s10 =>
     intro val ρ W hE hz hd hu hA hx;have o0:ρ (.tmp 3) = .pointer (some ⟨Q,0,none⟩):=hA.old 3 (by decide);clear hd hu;exact zb (W':=W) (by simp [execOp,o0,go_sem]) (Below.refl _ _) rfl
    case s11 =>
     intro val ρ W hE hz hd hu hA hx;have d10:ρ (.tmp 96) = .pointer (some ⟨Q,1,none⟩):=(hA.dep 10 (by decide) 96 rfl).trans (hd 10 (by decide));have f_k1:=cell_below hE (by simp only;omega) k1;clear hd hu;exact zb (W':=W) (by simp [execOp,d10,f_k1,go_sem]) (Below.refl _ _) rfl
    case s12 =>
     intro val ρ W hE hz hd hu hA hx;have d9:ρ (.tmp 95) = .int .i64 hi:=(hA.dep 9 (by decide) 95 rfl).trans (hd 9 (by decide));have d11:ρ (.tmp 97) = .int .i64 h'.most:=(hA.dep 11 (by decide) 97 rfl).trans (hd 11 (by decide));clear hd hu;exact zb (W':=W) (by simp [execOp,d9,d11,b2,go_sem]) (Below.refl _ _) rfl
    case s13 =>
     intro val ρ W hE hz hd hu hA hx;have d7:ρ (.tmp 93) = .bool false:=(hA.dep 7 (by decide) 93 rfl).trans (hd 7 (by decide));have d12:ρ (.tmp 98) = .bool false:=(hA.dep 12 (by decide) 98 rfl).trans (hd 12 (by decide));clear hd hu;exact zb (W':=W) (by simp [execOp,hA.const,d7,d12,go_sem]) (Below.refl _ _) rfl
    case s14 =>
     intro val ρ W hE hz hd hu hA hx;have d13:ρ (.tmp 99) = .bool false:=(hA.dep 13 (by decide) 99 rfl).trans (hd 13 (by decide));clear hd hu;exact zb (W':=W) (by simp [execOp,d13,go_sem]) (Below.refl _ _) rfl
    case s15 =>
     intro val ρ W hE hz hd hu hA hx;have o0:ρ (.tmp 8) = .slice (some ⟨tb,off,none⟩) t.length tc:=hA.old 8 (by decide);clear hd hu;exact zb (W':=W) (by simp [execOp,o0,go_sem]) (Below.refl _ _) rfl
    case s16 =>
     intro val ρ W hE hz hd hu hA hx;have o0:ρ (.tmp 11) = .int .i64 k:=hA.old 11 (by decide);clear hd hu;exact zb (W':=W) (by simp [execOp,o0,go_sem]) (Below.refl _ _) rfl
    case s17 =>
     intro val ρ W hE hz hd hu hA hx;have d15:ρ (.tmp 101) = .slice (some ⟨tb,off,none⟩) t.length tc:=(hA.dep 15 (by decide) 101 rfl).trans (hd 15 (by decide));have d16:ρ (.tmp 102) = .int .i64 k:=(hA.dep 16 (by decide) 102 rfl).trans (hd 16 (by decide));clear hd hu;exact zb (W':=W) (by simp [execOp,d15,d16,hkti,go_sem]) (Below.refl _ _) rfl
    case s18 =>
     intro val ρ W hE hz hd hu hA hx;have d17:ρ (.tmp 103) = .pointer (some ⟨tb,off+k,none⟩):=(hA.dep 17 (by decide) 103 rfl).trans (hd 17 (by decide));have f_ct:=cell_below hE (by simp only;omega) ct;clear hd hu;exact zb (W':=W) (by simp [execOp,d17,f_ct,go_sem]) (Below.refl _ _) rfl
    case s19 =>
     intro val ρ W hE hz hd hu hA hx;have o0:ρ (.tmp 12) = .pointer (some ⟨S,0,none⟩):=hA.old 12 (by decide);clear hd hu;exact zb (W':=W) (by simp [execOp,o0,go_sem]) (Below.refl _ _) rfl
    case s20 =>
     intro val ρ W hE hz hd hu hA hx;have d19:ρ (.tmp 105) = .pointer (some ⟨S,0,none⟩):=(hA.dep 19 (by decide) 105 rfl).trans (hd 19 (by decide));have f_c0:=cell_below hE (by simp only;omega) c0;clear hd hu;exact zb (W':=W) (by simp [execOp,d19,f_c0,go_sem]) (Below.refl _ _) rfl
    case s21 =>
     intro val ρ W hE hz hd hu hA hx;have d18:ρ (.tmp 104) = .int .i64 tk:=(hA.dep 18 (by decide) 104 rfl).trans (hd 18 (by decide));have d20:ρ (.tmp 106) = .int .i64 lo:=(hA.dep 20 (by decide) 106 rfl).trans (hd 20 (by decide));clear hd hu;exact zb (W':=W) (by simp [execOp,d18,d20,b3,go_sem]) (Below.refl _ _) rfl
    case s22 =>
     intro val ρ W hE hz hd hu hA hx;have d14:ρ (.tmp 100) = .bool false:=(hA.dep 14 (by decide) 100 rfl).trans (hd 14 (by decide));have d21:ρ (.tmp 107) = .bool false:=(hA.dep 21 (by decide) 107 rfl).trans (hd 21 (by decide));clear hd hu;exact zb (W':=W) (by simp [execOp,hA.const,d14,d21,go_sem]) (Below.refl _ _) rfl
    case s23 =>
     intro val ρ W hE hz hd hu hA hx;have d22:ρ (.tmp 108) = .bool false:=(hA.dep 22 (by decide) 108 rfl).trans (hd 22 (by decide));clear hd hu;exact zb (W':=W) (by simp [execOp,d22,go_sem]) (Below.refl _ _) rfl
    case s24 =>
     intro val ρ W hE hz hd hu hA hx;have o0:ρ (.tmp 8) = .slice (some ⟨tb,off,none⟩) t.length tc:=hA.old 8 (by decide);clear hd hu;exact zb (W':=W) (by simp [execOp,o0,go_sem]) (Below.refl _ _) rfl
    case s25 =>
     intro val ρ W hE hz hd hu hA hx;have o0:ρ (.tmp 11) = .int .i64 k:=hA.old 11 (by decide);clear hd hu;exact zb (W':=W) (by simp [execOp,o0,go_sem]) (Below.refl _ _) rfl
    case s26 =>
     intro val ρ W hE hz hd hu hA hx;have d24:ρ (.tmp 110) = .slice (some ⟨tb,off,none⟩) t.length tc:=(hA.dep 24 (by decide) 110 rfl).trans (hd 24 (by decide));have d25:ρ (.tmp 111) = .int .i64 k:=(hA.dep 25 (by decide) 111 rfl).trans (hd 25 (by decide));clear hd hu;exact zb (W':=W) (by simp [execOp,d24,d25,hkti,go_sem]) (Below.refl _ _) rfl
    case s27 =>
     intro val ρ W hE hz hd hu hA hx;have d26:ρ (.tmp 112) = .pointer (some ⟨tb,off+k,none⟩):=(hA.dep 26 (by decide) 112 rfl).trans (hd 26 (by decide));have f_ct:=cell_below hE (by simp only;omega) ct;clear hd hu;exact zb (W':=W) (by simp [execOp,d26,f_ct,go_sem]) (Below.refl _ _) rfl
    case s28 =>
     intro val ρ W hE hz hd hu hA hx;have o0:ρ (.tmp 12) = .pointer (some ⟨S,0,none⟩):=hA.old 12 (by decide);clear hd hu;exact zb (W':=W) (by simp [execOp,o0,go_sem]) (Below.refl _ _) rfl
    case s29 =>
     intro val ρ W hE hz hd hu hA hx;have d28:ρ (.tmp 114) = .pointer (some ⟨S,1,none⟩):=(hA.dep 28 (by decide) 114 rfl).trans (hd 28 (by decide));have f_c1:=cell_below hE (by simp only;omega) c1;clear hd hu;exact zb (W':=W) (by simp [execOp,d28,f_c1,go_sem]) (Below.refl _ _) rfl
    case s30 =>
     intro val ρ W hE hz hd hu hA hx;have d27:ρ (.tmp 113) = .int .i64 tk:=(hA.dep 27 (by decide) 113 rfl).trans (hd 27 (by decide));have d29:ρ (.tmp 115) = .int .i64 hi:=(hA.dep 29 (by decide) 115 rfl).trans (hd 29 (by decide));clear hd hu;exact zb (W':=W) (by simp [execOp,d27,d29,b4,go_sem]) (Below.refl _ _) rfl
    case s31 =>
     intro val ρ W hE hz hd hu hA hx;have d23:ρ (.tmp 109) = .bool false:=(hA.dep 23 (by decide) 109 rfl).trans (hd 23 (by decide));have d30:ρ (.tmp 116) = .bool false:=(hA.dep 30 (by decide) 116 rfl).trans (hd 30 (by decide));clear hd hu;exact zb (W':=W) (by simp [execOp,hA.const,d23,d30,go_sem]) (Below.refl _ _) rfl
    case send =>
     intro val X3 hE3 hzz hv;have r31:val 31 = .bool false:=by
      obtain ⟨-,-,-,-,-,-,-,-,-,-,-,-,-,-,-,-,-,-,-,-,-,-,-,-,-,-,-,-,-,-,-,r31,-⟩:=hv;exact r31
     clear hv;simp only [zbe,r31];go_frame;replace c0:=zf hE3 c0;replace c1:=zf hE3 c1;replace ct:=zf hE3 ct;replace zS:=World.block_lt_of_cell? _ _ c0;replace zt:=World.block_lt_of_cell? _ _ ct;simp only at zS zt;have HX3:=hid (HX2.out.ext hE3);have hkE:k * E≤K:=Nat.le_trans (Nat.mul_le_mul_right E (show k≤N by omega)) (Nat.le_trans HNE.out (by rw [HKC.out];exact Nat.le_refl _));obtain ⟨f,hf⟩:∃ f,f=k * E:=⟨_,rfl⟩
     have w1:(k:Int) * (E:Int)=(f:Int):=by rw [hf,Int.natCast_mul]
     rw [← hf] at hkE;have w2:IntKind.i64.wrap (f:Int)=(f:Int):=IntWalk.i64_in _ (by omega);have HF:=hid hf;clear hE3 hzz r31 k0 k1 k2 zQ b1 b2 b3 b4 hf;go_upto_region 18 with (fail);refine zb5 (X3.heap.size) (Nat.le_refl _)
      [sqV (.pointer (some ⟨S,0,none⟩)),sqV (.int .i64 lo),sqV (.slice (some ⟨tb,off,none⟩) t.length tc),sqV (.int .i64 k),sqV (.pointer (some ⟨tb,off+k,none⟩)),sqV (.int .i64 tk),sqV (.pointer (some ⟨S,1,none⟩)),sqV (.int .i64 hi),sqW (fun v W=>∃ b,v = .slice (some ⟨b,0,none⟩) 3 3∧zu W X3.heap.size 2 1 v ([lo,tk,hi].map zb0)) (fun _ _ _ ⟨b,h1,h2⟩ e=>⟨b,h1,h2.ext e⟩),sqD [8] (fun l v W=>v=l.headD undef) (fun _ _ _ _ h _=>h)]
      [true,true,true,true,true,true,true,true,false,false] [false,false,false,false,false,false,false,false,false,false] [true,true,true,true,true,true,true,true,true,true] [true,true,true,true,true,true,true,true,true,true]
      (by kernel_rfl) (by kernel_rfl) (by decide +kernel) (by decide +kernel) (by decide +kernel) rfl ⟨rfl,rfl⟩ ⟨?s0,?s1,?s2,?s3,?s4,?s5,?s6,?s7,?s8,?s9,trivial⟩ [some 121,some 122,some 123,some 124,some 125,some 126,some 127,some 128,some 129,some 15] rfl rfl ?send
     case s0 =>
      intro val ρ W hE hz hd hA hx;have o0:ρ (.tmp 12) = .pointer (some ⟨S,0,none⟩):=hA.old 12 (by decide);clear hd;exact zb (W':=W) (by simp [execOp,o0,go_sem]) (Below.refl _ _) rfl
     case s1 =>
      intro val ρ W hE hz hd hA hx;have d0:ρ (.tmp 121) = .pointer (some ⟨S,0,none⟩):=(hA.dep 0 (by decide) 121 rfl).trans (hd 0 (by decide));have f_c0:=cell_below hE (by simp only;omega) c0;clear hd;exact zb (W':=W) (by simp [execOp,d0,f_c0,go_sem]) (Below.refl _ _) rfl
     case s2 =>
      intro val ρ W hE hz hd hA hx;have o0:ρ (.tmp 8) = .slice (some ⟨tb,off,none⟩) t.length tc:=hA.old 8 (by decide);clear hd;exact zb (W':=W) (by simp [execOp,o0,go_sem]) (Below.refl _ _) rfl
     case s3 =>
      intro val ρ W hE hz hd hA hx;have o0:ρ (.tmp 11) = .int .i64 k:=hA.old 11 (by decide);clear hd;exact zb (W':=W) (by simp [execOp,o0,go_sem]) (Below.refl _ _) rfl
     case s4 =>
      intro val ρ W hE hz hd hA hx;have d2:ρ (.tmp 123) = .slice (some ⟨tb,off,none⟩) t.length tc:=(hA.dep 2 (by decide) 123 rfl).trans (hd 2 (by decide));have d3:ρ (.tmp 124) = .int .i64 k:=(hA.dep 3 (by decide) 124 rfl).trans (hd 3 (by decide));clear hd;exact zb (W':=W) (by simp [execOp,d2,d3,hkti,go_sem]) (Below.refl _ _) rfl
     case s5 =>
      intro val ρ W hE hz hd hA hx;have d4:ρ (.tmp 125) = .pointer (some ⟨tb,off+k,none⟩):=(hA.dep 4 (by decide) 125 rfl).trans (hd 4 (by decide));have f_ct:=cell_below hE (by simp only;omega) ct;clear hd;exact zb (W':=W) (by simp [execOp,d4,f_ct,go_sem]) (Below.refl _ _) rfl
     case s6 =>
      intro val ρ W hE hz hd hA hx;have o0:ρ (.tmp 12) = .pointer (some ⟨S,0,none⟩):=hA.old 12 (by decide);clear hd;exact zb (W':=W) (by simp [execOp,o0,go_sem]) (Below.refl _ _) rfl
     case s7 =>
      intro val ρ W hE hz hd hA hx;have d6:ρ (.tmp 127) = .pointer (some ⟨S,1,none⟩):=(hA.dep 6 (by decide) 127 rfl).trans (hd 6 (by decide));have f_c1:=cell_below hE (by simp only;omega) c1;clear hd;exact zb (W':=W) (by simp [execOp,d6,f_c1,go_sem]) (Below.refl _ _) rfl
     case s8 =>
      intro val ρ W hE hz hd hA hx;have e1:ρ (.tmp 122) = .int .i64 lo:=(hA.dep 1 (by decide) 122 rfl).trans (hd 1 (by decide));have e5:ρ (.tmp 126) = .int .i64 tk:=(hA.dep 5 (by decide) 126 rfl).trans (hd 5 (by decide));have e7:ρ (.tmp 128) = .int .i64 hi:=(hA.dep 7 (by decide) 128 rfl).trans (hd 7 (by decide));refine zb (by simp [execOp,e1,e5,e7,go_sem]) (by exact xx) ⟨_,rfl,(z83 W lo tk hi).from hz⟩
     case s9 =>
      intro val ρ W hE hz hd hA hx;have e8:ρ (.tmp 129)=val 8:=hA.dep 8 (by decide) 129 rfl;exact zb (v:=val 8) (W':=W) (by simp [execOp,e8,go_sem]) (Below.refl _ _) rfl
     case send =>
      intro val X4 hE4 hzz hv;obtain ⟨-,-,-,-,-,-,-,-,r8,r9,-⟩:=hv;obtain ⟨mb,e8,ho⟩:=r8;have q9:val 9 = .slice (some ⟨mb,0,none⟩) 3 3:=Eq.trans r9 e8;rw [e8] at ho;simp only [zbe,q9];go_frame;have hx3:=HX3.out.lt;have HX4:=hid (HX3.out.ext hE4);have HMO:=hid (ho.from (B':=P) (by omega));have HMF:Hid (∀ j,j < 3→∀ g,(Value.slice (some ⟨mb,0,none⟩) 3 3).ownBlock=some g→(vs j).ownBlock≠some g):=hid fun j hj g h1 h2=>by
       have:=(ho.notOwn g h1).1;have:=((HX3.out.own j hj).notOwn g h2).2;omega
      clear hE4 hzz r9 q9 e8 ho hx3 c0 c1 ct zS zt w1 w2;go_wp2_with fail
      go_loopw [16] (fun iv W=>∃ (i:Nat) (vs:Nat→Value),i≤3∧iv = .int .i64 i∧zen W6 W P vs (fun j=>if j < i then zc2 h' t E j (k+1) else zc2 h' t E j k)∧zu W P 2 1 (.slice (some ⟨mb,0,none⟩) 3 3) ([lo,tk,hi].map zb0)∧(∀ j,j < 3→∀ g,(Value.slice (some ⟨mb,0,none⟩) 3 3).ownBlock=some g→(vs j).ownBlock≠some g)) (fun iv _=>3 - (intOf iv).toNat)
      case atStart=>exact ⟨0,vs,by omega,rfl,by simpa using HX4.out,HMO.out,HMF.out⟩
      case round =>
       obtain ⟨i,us,hi3,rfl,hsm,hmo,hmf⟩:=hrel;obtain ⟨Y,rfl⟩:∃ Y,Y=wr:=⟨_,rfl⟩
       have HY:=hid hsm;have HMO2:=hid hmo;have HMF2:=hid hmf;clear hsm hmo hmf
       by_cases hl3:i < 3
       ·have hi3i:(i:Int) < 3:=by omega
        have cm:=z84 HMO2.out hl3;rw [← HMJ.out] at cm;have zm:=World.block_lt_of_cell? _ _ cm;simp only at zm;obtain ⟨mi,hmi⟩:∃ mi,mi=ze6 h' t k i:=⟨_,rfl⟩
        have m1:=HM1.out i hl3;have m2:=HM2.out i hl3;have hsr:=z6n h' t E i k;rw [← hmi] at cm m1 m2 hsr;have HSR:=hid hsr;clear hmi hsr
        by_cases hmp:0 < mi
        ·have hmpb:decide (0 < mi)=true:=decide_eq_true hmp
         rw [if_pos hmp] at HSR;have cp:=HY.out.cell i hl3;have zP:=HY.out.lt;have hoi:=HY.out.own i hl3;simp only [Nat.lt_irrefl,if_false] at hoi;have HOI:=hid hoi;have hln:(zc2 h' t E i k).length≤10:=Nat.le_trans (z82 SH.out hl3 (by rw [HG1.out];simp;omega)) (by omega);obtain ⟨u,hu⟩:∃ u,u=us i:=⟨_,rfl⟩
         rw [← hu] at cp hoi;have HU:=hid hu;obtain ⟨q,hq⟩:∃ q:Nat,mi=(q:Int):=⟨mi.toNat,by omega⟩
         subst hq;rw [Int.toNat_natCast] at HSR;obtain ⟨g,hg⟩:∃ g,g=f+q:=⟨_,rfl⟩
         obtain ⟨c,hc⟩:∃ c,c=f+q - 1:=⟨_,rfl⟩
         have hcx:=HSR.out;rw [← HF.out,← hc] at hcx;have HSX:=hid hcx;have w3:IntKind.i64.wrap ((f:Int)+(q:Int))=(g:Int):=by rw [IntWalk.i64_in _ (by omega)];omega
         have w4:IntKind.i64.wrap ((g:Int) - 1)=(c:Int):=by rw [IntWalk.i64_in _ (by omega)];omega
         clear hu hg hc hcx HSR hoi;go_upto_region 23 with (fail);refine zo3 15 rfl (by kernel_rfl) (P+1) (zP)
          [sqV (.int .i64 i),sqV (.int .i64 i),sqV (.pointer (some ⟨P,i,none⟩)),sqV (u),sqV (.int .i64 f),sqV (.int .i64 f),sqV (.slice (some ⟨mb,0,none⟩) 3 3),sqV (.int .i64 i),sqV (.pointer (some ⟨mb,i,none⟩)),sqV (.int .i64 q),sqV (.int .i64 g),sqV (.int .i64 c),sqV (.agg #[.int .i64 f,.int .i64 c]),sqW (fun v W=>∃ b,v = .slice (some ⟨b,0,none⟩) 1 1∧RowsAt W 2 b 0 ([[Value.int .i64 f,.int .i64 c]])) (fun _ _ _ ⟨b,h1,h2⟩ e=>⟨b,h1,h2.ext e⟩),sqW (fun v W=>ApR Y P u ((zc2 h' t E i k).map zcs) f c v W) (fun _ _ _ h e=>h.ext e)]
          [true,true,true,true,true,true,true,true,true,true,true,true,true,false,false] [false,false,false,false,false,false,false,false,false,false,false,false,false,false,true] [true,true,true,true,true,true,true,true,true,true,true,true,true,false,true] [false,true,true,true,true,true,true,true,true,true,true,true,true,true,true]
          (by kernel_rfl) (by kernel_rfl) (by decide +kernel) (by decide +kernel) (by decide +kernel) rfl ⟨rfl,rfl⟩ ⟨?s0,?s1,?s2,?s3,?s4,?s5,?s6,?s7,?s8,?s9,?s10,?s11,?s12,?s13,?s14,trivial⟩ [some 139,some 140,some 141,some 142,some 143,some 144,some 145,some 146,some 147,some 148,some 149,some 150,some 151,some 152,some 153] rfl rfl ?send
         case s0 =>
          intro val ρ W hE hz hd hA hx;have o0:ρ (.tmp 16) = .int .i64 i:=hA.old 16 (by decide);clear hd;exact zb (W':=W) (by simp [execOp,o0,go_sem]) (Below.refl _ _) rfl
         case s1 =>
          intro val ρ W hE hz hd hA hx;have o0:ρ (.tmp 16) = .int .i64 i:=hA.old 16 (by decide);clear hd;exact zb (W':=W) (by simp [execOp,o0,go_sem]) (Below.refl _ _) rfl
         case s2 =>
          intro val ρ W hE hz hd hA hx;have d1:ρ (.tmp 140) = .int .i64 i:=(hA.dep 1 (by decide) 140 rfl).trans (hd 1 (by decide));have o0:ρ (.tmp 10) = .pointer (some ⟨P,0,none⟩):=hA.old 10 (by decide);clear hd;exact zb (W':=W) (by simp [execOp,d1,o0,hi3i,go_sem]) (Below.refl _ _) rfl
         case s3 =>
          intro val ρ W hE hz hd hA hx;have d2:ρ (.tmp 141) = .pointer (some ⟨P,i,none⟩):=(hA.dep 2 (by decide) 141 rfl).trans (hd 2 (by decide));have f_cp:=cell_below hE (by simp only;omega) cp;clear hd;exact zb (W':=W) (by simp [execOp,d2,f_cp,go_sem]) (Below.refl _ _) rfl
         case s4 =>
          intro val ρ W hE hz hd hA hx;have o0:ρ (.tmp 14) = .int .i64 f:=hA.old 14 (by decide);clear hd;exact zb (W':=W) (by simp [execOp,o0,go_sem]) (Below.refl _ _) rfl
         case s5 =>
          intro val ρ W hE hz hd hA hx;have o0:ρ (.tmp 14) = .int .i64 f:=hA.old 14 (by decide);clear hd;exact zb (W':=W) (by simp [execOp,o0,go_sem]) (Below.refl _ _) rfl
         case s6 =>
          intro val ρ W hE hz hd hA hx;have o0:ρ (.tmp 15) = .slice (some ⟨mb,0,none⟩) 3 3:=hA.old 15 (by decide);clear hd;exact zb (W':=W) (by simp [execOp,o0,go_sem]) (Below.refl _ _) rfl
         case s7 =>
          intro val ρ W hE hz hd hA hx;have o0:ρ (.tmp 16) = .int .i64 i:=hA.old 16 (by decide);clear hd;exact zb (W':=W) (by simp [execOp,o0,go_sem]) (Below.refl _ _) rfl
         case s8 =>
          intro val ρ W hE hz hd hA hx;have d6:ρ (.tmp 145) = .slice (some ⟨mb,0,none⟩) 3 3:=(hA.dep 6 (by decide) 145 rfl).trans (hd 6 (by decide));have d7:ρ (.tmp 146) = .int .i64 i:=(hA.dep 7 (by decide) 146 rfl).trans (hd 7 (by decide));clear hd;exact zb (W':=W) (by simp [execOp,d6,d7,hi3i,go_sem]) (Below.refl _ _) rfl
         case s10 =>
          intro val ρ W hE hz hd hA hx;have d5:ρ (.tmp 144) = .int .i64 f:=(hA.dep 5 (by decide) 144 rfl).trans (hd 5 (by decide));have d9:ρ (.tmp 148) = .int .i64 q:=(hA.dep 9 (by decide) 148 rfl).trans (hd 9 (by decide));clear hd;exact zb (W':=W) (by simp [execOp,d5,d9,w3,go_sem]) (Below.refl _ _) rfl
         case s11 =>
          intro val ρ W hE hz hd hA hx;have d10:ρ (.tmp 149) = .int .i64 g:=(hA.dep 10 (by decide) 149 rfl).trans (hd 10 (by decide));clear hd;exact zb (W':=W) (by simp [execOp,hA.const,d10,w4,go_sem]) (Below.refl _ _) rfl
         case s12 =>
          intro val ρ W hE hz hd hA hx;have d4:ρ (.tmp 143) = .int .i64 f:=(hA.dep 4 (by decide) 143 rfl).trans (hd 4 (by decide));have d11:ρ (.tmp 150) = .int .i64 c:=(hA.dep 11 (by decide) 150 rfl).trans (hd 11 (by decide));clear hd;exact zb (W':=W) (by simp [execOp,d4,d11,go_sem]) (Below.refl _ _) rfl
         case s13 =>
          intro val ρ W hE hz hd hA hx;have d12:ρ (.tmp 151) = .agg #[.int .i64 f,.int .i64 c]:=(hA.dep 12 (by decide) 151 rfl).trans (hd 12 (by decide));clear hd hA;refine zb (by simp [execOp,d12,go_sem];exact ⟨rfl,rfl⟩) (by exact xx) ⟨_,rfl,zadm _ ([[Value.int .i64 f,.int .i64 c]]) _ _ _ 2 rfl (by simp) (by simp)⟩
         case s9 =>
          intro val ρ W hE hz hd hA hx;have e8:ρ (.tmp 147) = .pointer (some ⟨mb,i,none⟩):=(hA.dep 8 (by decide) 147 rfl).trans (hd 8 (by decide));have hc:=zf (hx (by decide)) cm;exact zb (W':=W) (by simp [execOp,e8,hc,go_sem]) (Below.refl _ _) rfl
         case s14 =>
          intro val ρ W hE hz hd hA hx;have e3:ρ (.tmp 142)=u:=(hA.dep 3 (by decide) 142 rfl).trans (hd 3 (by decide));obtain ⟨b',e13,hl13⟩:=hd 13 (by decide);have d13:ρ (.tmp 152) = .slice (some ⟨b',0,none⟩) 1 1:=(hA.dep 13 (by decide) 152 rfl).trans e13;have hW:=hx (by decide);have hoi:=HOI.out.ext hW;rw [← HU.out] at hoi;obtain ⟨v',w',hrun,h2,h3,h4⟩:=zu0 elRg 39 P hoi b' 0 1 [[.int .i64 (f:Int),.int .i64 (c:Int)]] (by simp) hl13 (by simp [Value.oneCell']) (by simp;omega) (by omega);have hot:=HY.out.other hl3;rw [← HU.out] at hot;refine z3k (.tmp 142) (.tmp 152) rfl rfl _ _ e3 d13 hrun (Kept.below (h3.mono (T:=fun k=>k < P+1) fun j _ hj e=>?_) (by omega)) ⟨h2,(Kept.of_below hW).trans h3,fun g hg=>(h4 g hg).imp id fun h=>Nat.le_trans hW.size h⟩;have h5:=(hoi.notOwn j e.symm).1;have h6:j=P:=by omega
          rw [h6] at e;exact hot e.symm
         case send =>
          intro val Z hE hzz hv;obtain ⟨r0,-,-,-,-,-,-,-,-,-,-,-,-,-,r14,-⟩:=hv;have q0:val 0 = .int .i64 i:=r0;have r14:ApR Y P u ((zc2 h' t E i k).map zcs) f c (val 14) Z:=r14;obtain ⟨p1,p2,p3⟩:=r14;obtain ⟨n2,a2,cap2,e14⟩:=p1.isSlice;rw [e14] at p1 p3;have hot:=HY.out.other hl3;rw [← HU.out] at hot;have cp2:=p2.cell cp (fun e=>hot e.symm);have fz2:Z.frozen? ⟨P,i,none⟩=false:=(p2.frozen (p:=⟨P,i,none⟩) zP (fun e=>hot e.symm)).trans (HY.out.free i);have zP2:P < Z.heap.size:=Nat.lt_of_lt_of_le zP hzz;rw [HU.out] at p2 p3;have hp1:zu Z P 42 2 (.slice n2 a2 cap2) ((zc2 h' t E i (k+1)).map zcs):=by rw [HSX.out,List.map_append];exact p1
          have hput:=HY.out.put hl3 hp1 p2 p3;rw [zafh (fun j=>zc2 h' t E j (k+1)) (fun j=>zc2 h' t E j k) i] at hput;have hkp:=HY.out.keeps hl3 HMO2.out HMF2.out p2 p3;have HPUT:=hid hput;have HKP:=hid hkp;simp only [zbe,e14,q0];go_frame;clear hE hzz r0 q0 e14 p1 p2 p3 hot hp1 hput hkp cp cm zm w3 w4 m1 m2 hkE;go_wp2_with fail;refine ⟨?_,by simp [intOf];omega⟩
          repeat apply Exists.intro
          refine ⟨?_,rfl⟩;exact ⟨i+1,_,by omega,by go_num,HPUT.out,HKP.out.1,HKP.out.2⟩
        ·have hmpb:decide (0 < mi)=false:=decide_eq_false hmp
         have h9:=HSR.out;rw [if_neg hmp,List.append_nil] at h9;have heq:=zago (fun j=>zc2 h' t E j (k+1)) (fun j=>zc2 h' t E j k) i h9;have HY9:=HY.out;rw [heq] at HY9;have HYY:=hid HY9;clear heq HY9 h9;go_wp2_with fail;exact ⟨⟨i+1,us,by omega,by go_num,HYY.out,HMO2.out,HMF2.out⟩,by simp [intOf];omega⟩
       ·have hi3i:¬ ((i:Int) < 3):=by omega
        have hi33:i=3:=by omega
        have HY9:=HY.out;rw [hi33] at HY9;have HYY:=hid (zafi HY9);clear HY9 hi33;go_wp2_with fail;exact ⟨⟨k+1,us,by omega,by go_num,HYY.out⟩,by simp [intOf];omega⟩
   ·have hki:¬ ((k:Int) < (N:Int)):=by omega
    have hkn:k=h'.n.toNat:=by rw [HG1.out];simp;omega
    have hx:=HX.out;rw [hkn] at hx;have HX9:=hid hx;have hEX:=HE4.out.trans' (HE6.out.trans' HX9.out.k);obtain ⟨c0,c1,c2,c3,zq⟩:=HD4.out X (HE6.out.trans' HX9.out.k);have hto:=z6e M V ka kc bs hb8 (.slice ba bs.length bc) X (HK.out.ext hEX) (by have:=HB.out;rw [zbx] at this;exact this.ext hEX);rw [← HSS.out] at hto;have HEX:=hid hEX;clear hkn hx HX k1 k2 hEX;go_wp2_with fail;refine hto.mono ?_
    rintro e X1 ⟨st,sc,rfl,hE1,hst⟩;have HE9:=hid (HEX.out.trans' hE1);have HE1:=hid (HE6.out.trans' (HX9.out.k.trans' hE1));have HY:=hid (HX9.out.ext hE1);have HST:=hid hst;have HKD:Hid (∀ i,i < 3→∀ W,Ext X1 W→Calls Tryz.prog 12 #[.agg #[.int .i64 M.L,.int .i64 M.n,.slice ka M.n kc,.int .i64 M.rest],.slice st M.n sc,vs i] W fun e w'=>e = .returned (.tuple #[.int .i64 (zr4 h' t E M (i+1)),.int .i64 0])∧Ext W w'):=hid fun i hi W hW =>
     z8n M V hpos ka st kc sc (zc2 h' t E i h'.n.toNat) (z4q SH.out hi) (vs i) W (HK.out.ext (HE9.out.trans' hW)) (HST.out.ext hW) (IsRows.ext hW (HY.out.own i hi).isRows)
    have HFD:Hid (∀ i,i < 3→∀ W,Ext X1 W→Calls Tryz.prog 13 #[.agg #[.int .i64 M.L,.int .i64 M.n,.slice ka M.n kc,.int .i64 M.rest],.slice st M.n sc,vs i] W fun e w'=>e = .returned (.tuple #[.int .i64 (cnt M ts0:Int),.int .i64 (zr5 h' t E M (i+1):Int),.int .i64 0])∧Ext W w'):=hid fun i hi W hW =>
     zyk M V hpos ka st kc sc (zc2 h' t E i h'.n.toNat) (z4q SH.out hi) (vs i) W (HK.out.ext (HE9.out.trans' hW)) (HST.out.ext hW) (IsRows.ext hW (HY.out.own i hi).isRows)
    clear hE1 hto hst c0 c1 c2 c3 zq k0;go_wp2_with fail
    go_loopw [18,19,20] (fun lv fv iv W=>∃ i:Nat,i≤3∧lv = .int .i64 (zr4 h' t E M i)∧fv = .int .i64 (zr5 h' t E M i:Int)∧iv = .int .i64 i∧Ext X1 W) (fun _ _ iv _=>3 - (intOf iv).toNat)
    case atStart=>exact ⟨0,by omega,rfl,rfl,rfl,Below.refl _ _⟩
    case round =>
     obtain ⟨i,hi3,rfl,rfl,rfl,hE⟩:=hrel;obtain ⟨Y,rfl⟩:∃ Y,Y=wr:=⟨_,rfl⟩
     have HE:=hid hE;clear hE
     by_cases hl3:i < 3
     ·have hi3i:(i:Int) < 3:=by omega
      have hkm:=zabj V SH.out hl3;have hfm:=zabk V SH.out hl3;have hkd:=HKD.out i hl3;have hfd:=HFD.out i hl3;have cp:=zf HE.out (HY.out.cell i hl3);obtain ⟨u,hu⟩:∃ u,u=vs i:=⟨_,rfl⟩
      obtain ⟨kb,hkb⟩:∃ kb,kb=zr4 h' t E M i:=⟨_,rfl⟩
      obtain ⟨kn,hkn⟩:∃ kn,kn=zr4 h' t E M (i+1):=⟨_,rfl⟩
      obtain ⟨fb,hfb⟩:∃ fb,fb=zr5 h' t E M i:=⟨_,rfl⟩
      obtain ⟨fn,hfn⟩:∃ fn,fn=zr5 h' t E M (i+1):=⟨_,rfl⟩
      rw [← hkb,← hkn] at hkm;rw [← hfb,← hfn] at hfm;rw [← hu,← hkn] at hkd;rw [← hu,← hfn] at hfd;rw [← hu] at cp;rw [← hkb,← hfb];have HKD9:=hid hkd;have HFD9:=hid hfd;have HKN:=hid hkn;have HFN:=hid hfn;obtain ⟨c0,c1,c2,c3,zq⟩:=HD4.out Y (HE1.out.trans' HE.out);have zP:=World.block_lt_of_cell? _ _ cp;simp only at zP;clear hu hkb hkn hfb hfn hkd hfd;go_upto_region 29 with (fail);refine zb5 (Y.heap.size) (Nat.le_refl _)
       [sqV (.agg #[.int .i64 M.L,.int .i64 M.n,.slice ka M.n kc,.int .i64 M.rest]),sqV (.slice st M.n sc),sqV (.int .i64 i),sqV (.pointer (some ⟨P,i,none⟩)),sqV (u),sqV (.tuple #[.int .i64 kn,.int .i64 0]),sqV (.tuple #[.int .i64 kn,.int .i64 0]),sqV (.int .i64 kn),sqV (.int .i64 0),sqV (.int .i64 kn),sqV (.int .i64 0)]
       [true,true,true,true,true,true,true,true,true,true,true] [false,false,false,false,false,false,false,false,false,false,false] [true,true,true,true,true,true,true,true,true,true,true] [true,true,true,true,true,true,true,true,true,true,true]
       (by kernel_rfl) (by kernel_rfl) (by decide +kernel) (by decide +kernel) (by decide +kernel) rfl ⟨rfl,rfl⟩ ⟨?s0,?s1,?s2,?s3,?s4,?s5,?s6,?s7,?s8,?s9,?s10,trivial⟩ [some 163,some 164,some 165,some 166,some 167,some 168,some 162,some 169,some 170,some 21,some 22] rfl rfl ?send
      case s0 =>
       intro val ρ W hE hz hd hA hx;have o0:ρ (.tmp 4) = .pointer (some ⟨Q+1,0,none⟩):=hA.old 4 (by decide);have f_c0:=cell_below hE (by simp only;omega) c0;have f_c1:=cell_below hE (by simp only;omega) c1;have f_c2:=cell_below hE (by simp only;omega) c2;have f_c3:=cell_below hE (by simp only;omega) c3;clear hd;exact zb (W':=W) (by simp [execOp,o0,f_c0,f_c1,f_c2,f_c3,go_sem]) (Below.refl _ _) rfl
      case s1 =>
       intro val ρ W hE hz hd hA hx;have o0:ρ (.tmp 17) = .slice st M.n sc:=hA.old 17 (by decide);clear hd;exact zb (W':=W) (by simp [execOp,o0,go_sem]) (Below.refl _ _) rfl
      case s2 =>
       intro val ρ W hE hz hd hA hx;have o0:ρ (.tmp 20) = .int .i64 i:=hA.old 20 (by decide);clear hd;exact zb (W':=W) (by simp [execOp,o0,go_sem]) (Below.refl _ _) rfl
      case s3 =>
       intro val ρ W hE hz hd hA hx;have d2:ρ (.tmp 165) = .int .i64 i:=(hA.dep 2 (by decide) 165 rfl).trans (hd 2 (by decide));have o0:ρ (.tmp 10) = .pointer (some ⟨P,0,none⟩):=hA.old 10 (by decide);clear hd;exact zb (W':=W) (by simp [execOp,d2,o0,hi3i,go_sem]) (Below.refl _ _) rfl
      case s4 =>
       intro val ρ W hE hz hd hA hx;have d3:ρ (.tmp 166) = .pointer (some ⟨P,i,none⟩):=(hA.dep 3 (by decide) 166 rfl).trans (hd 3 (by decide));have f_cp:=cell_below hE (by simp only;omega) cp;clear hd;exact zb (W':=W) (by simp [execOp,d3,f_cp,go_sem]) (Below.refl _ _) rfl
      case s5 =>
       intro val ρ W hE hz hd hA hx;have d0:ρ (.tmp 163) = .agg #[.int .i64 M.L,.int .i64 M.n,.slice ka M.n kc,.int .i64 M.rest]:=(hA.dep 0 (by decide) 163 rfl).trans (hd 0 (by decide));have d1:ρ (.tmp 164) = .slice st M.n sc:=(hA.dep 1 (by decide) 164 rfl).trans (hd 1 (by decide));have d4:ρ (.tmp 167)=u:=(hA.dep 4 (by decide) 167 rfl).trans (hd 4 (by decide));clear hd;refine zcm 12 _ _ rfl #[.agg #[.int .i64 M.L,.int .i64 M.n,.slice ka M.n kc,.int .i64 M.rest],.slice st M.n sc,u] (hA.func _) (by simp [d0,d1,d4]) (fun args W=>Tryz.call12 args W) ((HKD9.out W (HE.out.trans' hE)).mono ?_);rintro e w' ⟨rfl,hb⟩;exact ⟨_,rfl,hb,rfl⟩
      case s6 =>
       intro val ρ W hE hz hd hA hx;have d5:ρ (.tmp 168) = .tuple #[.int .i64 kn,.int .i64 0]:=(hA.dep 5 (by decide) 168 rfl).trans (hd 5 (by decide));clear hd;exact zb (W':=W) (by simp [execOp,d5,go_sem]) (Below.refl _ _) rfl
      case s7 =>
       intro val ρ W hE hz hd hA hx;have d6:ρ (.tmp 162) = .tuple #[.int .i64 kn,.int .i64 0]:=(hA.dep 6 (by decide) 162 rfl).trans (hd 6 (by decide));clear hd;exact zb (W':=W) (by simp [execOp,d6,go_sem]) (Below.refl _ _) rfl
      case s8 =>
       intro val ρ W hE hz hd hA hx;have d6:ρ (.tmp 162) = .tuple #[.int .i64 kn,.int .i64 0]:=(hA.dep 6 (by decide) 162 rfl).trans (hd 6 (by decide));clear hd;exact zb (W':=W) (by simp [execOp,d6,go_sem]) (Below.refl _ _) rfl
      case s9 =>
       intro val ρ W hE hz hd hA hx;have d7:ρ (.tmp 169) = .int .i64 kn:=(hA.dep 7 (by decide) 169 rfl).trans (hd 7 (by decide));clear hd;exact zb (W':=W) (by simp [execOp,d7,go_sem]) (Below.refl _ _) rfl
      case s10 =>
       intro val ρ W hE hz hd hA hx;have d8:ρ (.tmp 170) = .int .i64 0:=(hA.dep 8 (by decide) 170 rfl).trans (hd 8 (by decide));clear hd;exact zb (W':=W) (by simp [execOp,d8,go_sem]) (Below.refl _ _) rfl
      case send =>
       intro val Y1 hE1 hzz hv;obtain ⟨-,-,-,-,-,-,-,-,-,r9,r10,-⟩:=hv;have q9:val 9 = .int .i64 kn:=r9;have q10:val 10 = .int .i64 0:=r10;simp only [zbe,q9,q10];go_frame;replace c0:=zf hE1 c0;replace c1:=zf hE1 c1;replace c2:=zf hE1 c2;replace c3:=zf hE1 c3;replace cp:=zf hE1 cp;replace zq:=Nat.lt_of_lt_of_le zq hE1.size;replace zP:=World.block_lt_of_cell? _ _ cp;have HE5:=hid (HE.out.trans' hE1);clear hE1 hzz r9 r10 q9 q10 HE;go_upto_region 30 with (fail);refine zb5 (Y1.heap.size) (Nat.le_refl _)
        [sqV (.agg #[.int .i64 M.L,.int .i64 M.n,.slice ka M.n kc,.int .i64 M.rest]),sqV (.slice st M.n sc),sqV (.int .i64 i),sqV (.pointer (some ⟨P,i,none⟩)),sqV (u),sqV (.tuple #[.int .i64 (cnt M ts0:Int),.int .i64 fn,.int .i64 0]),sqV (.tuple #[.int .i64 (cnt M ts0:Int),.int .i64 fn,.int .i64 0]),sqV (.int .i64 (cnt M ts0:Int)),sqV (.int .i64 fn),sqV (.int .i64 0),sqV (.int .i64 (cnt M ts0:Int)),sqV (.int .i64 fn),sqV (.int .i64 0)]
        [true,true,true,true,true,true,true,true,true,true,true,true,true] [false,false,false,false,false,false,false,false,false,false,false,false,false] [true,true,true,true,true,true,true,true,true,true,true,true,true] [true,true,true,true,true,true,true,true,true,true,true,true,true]
        (by kernel_rfl) (by kernel_rfl) (by decide +kernel) (by decide +kernel) (by decide +kernel) rfl ⟨rfl,rfl⟩ ⟨?s0,?s1,?s2,?s3,?s4,?s5,?s6,?s7,?s8,?s9,?s10,?s11,?s12,trivial⟩ [some 172,some 173,some 174,some 175,some 176,some 177,some 171,some 178,some 179,some 180,some 23,some 24,some 25] rfl rfl ?send
       case s0 =>
        intro val ρ W hE hz hd hA hx;have o0:ρ (.tmp 4) = .pointer (some ⟨Q+1,0,none⟩):=hA.old 4 (by decide);have f_c0:=cell_below hE (by simp only;omega) c0;have f_c1:=cell_below hE (by simp only;omega) c1;have f_c2:=cell_below hE (by simp only;omega) c2;have f_c3:=cell_below hE (by simp only;omega) c3;clear hd;exact zb (W':=W) (by simp [execOp,o0,f_c0,f_c1,f_c2,f_c3,go_sem]) (Below.refl _ _) rfl
       case s1 =>
        intro val ρ W hE hz hd hA hx;have o0:ρ (.tmp 17) = .slice st M.n sc:=hA.old 17 (by decide);clear hd;exact zb (W':=W) (by simp [execOp,o0,go_sem]) (Below.refl _ _) rfl
       case s2 =>
        intro val ρ W hE hz hd hA hx;have o0:ρ (.tmp 20) = .int .i64 i:=hA.old 20 (by decide);clear hd;exact zb (W':=W) (by simp [execOp,o0,go_sem]) (Below.refl _ _) rfl
       case s3 =>
        intro val ρ W hE hz hd hA hx;have d2:ρ (.tmp 174) = .int .i64 i:=(hA.dep 2 (by decide) 174 rfl).trans (hd 2 (by decide));have o0:ρ (.tmp 10) = .pointer (some ⟨P,0,none⟩):=hA.old 10 (by decide);clear hd;exact zb (W':=W) (by simp [execOp,d2,o0,hi3i,go_sem]) (Below.refl _ _) rfl
       case s4 =>
        intro val ρ W hE hz hd hA hx;have d3:ρ (.tmp 175) = .pointer (some ⟨P,i,none⟩):=(hA.dep 3 (by decide) 175 rfl).trans (hd 3 (by decide));have f_cp:=cell_below hE (by simp only;omega) cp;clear hd;exact zb (W':=W) (by simp [execOp,d3,f_cp,go_sem]) (Below.refl _ _) rfl
       case s5 =>
        intro val ρ W hE hz hd hA hx;have d0:ρ (.tmp 172) = .agg #[.int .i64 M.L,.int .i64 M.n,.slice ka M.n kc,.int .i64 M.rest]:=(hA.dep 0 (by decide) 172 rfl).trans (hd 0 (by decide));have d1:ρ (.tmp 173) = .slice st M.n sc:=(hA.dep 1 (by decide) 173 rfl).trans (hd 1 (by decide));have d4:ρ (.tmp 176)=u:=(hA.dep 4 (by decide) 176 rfl).trans (hd 4 (by decide));clear hd;refine zcm 13 _ _ rfl #[.agg #[.int .i64 M.L,.int .i64 M.n,.slice ka M.n kc,.int .i64 M.rest],.slice st M.n sc,u] (hA.func _) (by simp [d0,d1,d4]) (fun args W=>Tryz.call13 args W) ((HFD9.out W (HE5.out.trans' hE)).mono ?_);rintro e w' ⟨rfl,hb⟩;exact ⟨_,rfl,hb,rfl⟩
       case s6 =>
        intro val ρ W hE hz hd hA hx;have d5:ρ (.tmp 177) = .tuple #[.int .i64 (cnt M ts0:Int),.int .i64 fn,.int .i64 0]:=(hA.dep 5 (by decide) 177 rfl).trans (hd 5 (by decide));clear hd;exact zb (W':=W) (by simp [execOp,d5,go_sem]) (Below.refl _ _) rfl
       case s7 =>
        intro val ρ W hE hz hd hA hx;have d6:ρ (.tmp 171) = .tuple #[.int .i64 (cnt M ts0:Int),.int .i64 fn,.int .i64 0]:=(hA.dep 6 (by decide) 171 rfl).trans (hd 6 (by decide));clear hd;exact zb (W':=W) (by simp [execOp,d6,go_sem]) (Below.refl _ _) rfl
       case s8 =>
        intro val ρ W hE hz hd hA hx;have d6:ρ (.tmp 171) = .tuple #[.int .i64 (cnt M ts0:Int),.int .i64 fn,.int .i64 0]:=(hA.dep 6 (by decide) 171 rfl).trans (hd 6 (by decide));clear hd;exact zb (W':=W) (by simp [execOp,d6,go_sem]) (Below.refl _ _) rfl
       case s9 =>
        intro val ρ W hE hz hd hA hx;have d6:ρ (.tmp 171) = .tuple #[.int .i64 (cnt M ts0:Int),.int .i64 fn,.int .i64 0]:=(hA.dep 6 (by decide) 171 rfl).trans (hd 6 (by decide));clear hd;exact zb (W':=W) (by simp [execOp,d6,go_sem]) (Below.refl _ _) rfl
       case s10 =>
        intro val ρ W hE hz hd hA hx;have d7:ρ (.tmp 178) = .int .i64 (cnt M ts0:Int):=(hA.dep 7 (by decide) 178 rfl).trans (hd 7 (by decide));clear hd;exact zb (W':=W) (by simp [execOp,d7,go_sem]) (Below.refl _ _) rfl
       case s11 =>
        intro val ρ W hE hz hd hA hx;have d8:ρ (.tmp 179) = .int .i64 fn:=(hA.dep 8 (by decide) 179 rfl).trans (hd 8 (by decide));clear hd;exact zb (W':=W) (by simp [execOp,d8,go_sem]) (Below.refl _ _) rfl
       case s12 =>
        intro val ρ W hE hz hd hA hx;have d9:ρ (.tmp 180) = .int .i64 0:=(hA.dep 9 (by decide) 180 rfl).trans (hd 9 (by decide));clear hd;exact zb (W':=W) (by simp [execOp,d9,go_sem]) (Below.refl _ _) rfl
       case send =>
        intro val Y2 hE2 hzz hv;obtain ⟨-,-,-,-,-,-,-,-,-,-,r10,r11,r12,-⟩:=hv;have q10:val 10 = .int .i64 (cnt M ts0:Int):=r10;have q11:val 11 = .int .i64 fn:=r11;have q12:val 12 = .int .i64 0:=r12;simp only [zbe,q10,q11,q12];go_frame;have HE7:=hid (HE5.out.trans' hE2);have hk9:¬ (kn < kb):=by omega
        have hf9:¬ ((fn:Int) < (fb:Int)):=by omega
        clear hE2 hzz r10 r11 r12 q10 q11 q12 HE5 c0 c1 c2 c3 cp zP zq hkm hfm;go_wp2_with fail;exact ⟨⟨i+1,by omega,by rw [HKN.out],by rw [HFN.out],by go_num,HE7.out⟩,by simp [intOf];omega⟩
     ·have hi3i:¬ ((i:Int) < 3):=by omega
      go_wp2_with fail;refine (zeu _).mono ?_
      rintro e W9 ⟨rfl,hE9⟩;go_wp2_with fail;go_ret;exact ⟨rfl,(HE9.out.trans' HE.out).trans' hE9⟩
end Go.Proofs.YtnoffnkmibjndaaGreat
namespace Go.Proofs.YtnoffnkmibjndaaGreat
open Go.Lib (hid)
open Go.RowKit Go.Shelf
theorem zyb (h:Cu.Hall) (sv:Value) (L n rest:Int) (ks:List Int) (ka:Option Addr) (kc:Nat) (bv:Value) (bs:List Int) (w:World) (hno:Cu.chk h=0→¬ z1d L n ks rest) (hs:Cu.IsCnts w sv h.cs)
  (hk:zn w .i64 (.slice ka ks.length kc) ks) (hb:zn w .u8 bv bs) :
  Calls Tryz.prog 3 #[.agg #[.int .i64 h.n,.int .i64 h.most,sv],.agg #[.int .i64 L,.int .i64 n,.slice ka ks.length kc,.int .i64 rest],bv] w fun e w'=>e = .returned (.bool true)∧Ext w w':=by
 obtain ⟨sa,cap,rfl,hl1,hl2,-⟩:=hs.spec;obtain ⟨ba,bc,rfl,hbl,hbc,-⟩:=hb.spec;have HS:=hid hs;have HN:=hid hno;clear hs hb hno
 go_enter Tryz.func3,Tryz.ntmps3
 go_upto_region 1 with (fail);obtain ⟨W0,hW0⟩:∃ W0,W0=(w.alloc (.cells #[.int .i64 h.n,.int .i64 h.most,.slice sa h.cs.length cap] 24)).alloc (.cells #[.int .i64 L,.int .i64 n,.slice ka ks.length kc,.int .i64 rest] 27):=⟨_,rfl⟩
 have hE:Ext w W0:=by rw [hW0];exact xx
 obtain ⟨Q,hQ⟩:∃ Q,Q=w.heap.size:=⟨_,rfl⟩
 have k0:W0.cell? ⟨Q,0,none⟩=some (.int .i64 h.n):=by rw [hW0,hQ];simp [go_sem]
 have k1:W0.cell? ⟨Q,1,none⟩=some (.int .i64 h.most):=by rw [hW0,hQ];simp [go_sem]
 have k2:W0.cell? ⟨Q,2,none⟩=some (.slice sa h.cs.length cap):=by rw [hW0,hQ];simp [go_sem]
 have d0:W0.cell? ⟨Q+1,0,none⟩=some (.int .i64 L):=by rw [hW0,hQ];simp [go_sem]
 have d1:W0.cell? ⟨Q+1,1,none⟩=some (.int .i64 n):=by rw [hW0,hQ];simp [go_sem]
 have d2:W0.cell? ⟨Q+1,2,none⟩=some (.slice ka ks.length kc):=by rw [hW0,hQ];simp [go_sem]
 have d3:W0.cell? ⟨Q+1,3,none⟩=some (.int .i64 rest):=by rw [hW0,hQ];simp [go_sem]
 have zq:=World.block_lt_of_cell? _ _ d0;simp only at zq;have zp:Q < W0.heap.size:=by omega
 have HW:=hid hE;have HK:=hid hk;rw [← hW0];rw [← hQ];clear hW0 hk hE hQ
 by_cases hc20:20 < h.cs.length
 ·have hcn:(20:Int) < (h.cs.length:Int):=by omega
  go_wp2_with fail;refine (zeu _).mono ?_
  rintro e W9 ⟨rfl,hE9⟩;go_wp2_with fail;go_ret;exact ⟨rfl,HW.out.trans' hE9⟩
 have hcn:¬ ((20:Int) < (h.cs.length:Int)):=by omega
 go_wp2_with fail;have hch:=Cu.checkHallR_any h (.slice sa h.cs.length cap) W0 (HS.out.ext HW.out)
 by_cases hc0:Cu.chk h=0
 ·rw [hc0] at hch
  refine hch.mono ?_
  rintro e W1 ⟨rfl,hE1⟩;replace d0:=zf hE1 d0;replace d1:=zf hE1 d1;replace d2:=zf hE1 d2;replace d3:=zf hE1 d3;replace zq:=World.block_lt_of_cell? _ _ d0;have HE1:=hid hE1;have HD:=hid (HN.out hc0);clear hE1 hch hc0;go_wp2_with fail;refine (zyn L n rest ks ka kc W1 (HK.out.ext (HW.out.trans' HE1.out))).mono ?_
  rintro e W2 ⟨b,rfl,hE2,hb⟩;have HE2:=hid (HE1.out.trans' hE2);cases b
  ·clear hE2 hb
   go_wp2_with fail;refine (zeu _).mono ?_
   rintro e W9 ⟨rfl,hE9⟩;go_wp2_with fail;go_ret;exact ⟨rfl,(HW.out.trans' HE2.out).trans' hE9⟩
  ·exact absurd (hb rfl) HD.out
 ·obtain ⟨c,hc⟩:∃ c,c=Cu.chk h:=⟨_,rfl⟩
  rw [← hc] at hch hc0;have hcb:decide (c=0)=false:=decide_eq_false hc0;have hcb2:(c == 0)=false:=beq_false_of_ne hc0;refine hch.mono ?_
  rintro e W1 ⟨rfl,hE1⟩;have HE1:=hid hE1;clear hE1 hch hc;go_wp2_with fail;refine (zeu _).mono ?_
  rintro e W9 ⟨rfl,hE9⟩;go_wp2_with fail;go_ret;exact ⟨rfl,(HW.out.trans' HE1.out).trans' hE9⟩
theorem zow (h:Cu.Hall) (sv:Value) (L n rest:Int) (ks:List Int) (kv:Value) (bv:Value) (bs:List Int) (w:World) (hs:Cu.IsCnts w sv h.cs) (hk:zn w .i64 kv ks) (hb:IsRows w 1 bv (bs.map fun n=>[.int .u8 n])) (h8:∀ x∈bs,(Lit.int .u8 x).wf=true) :
  Calls Tryz.prog 3 #[.agg #[.int .i64 h.n,.int .i64 h.most,sv],.agg #[.int .i64 L,.int .i64 n,kv,.int .i64 rest],bv] w fun e w'=>e = .returned (.bool true)∧Ext w w':=by
 obtain ⟨ka,kc,rfl,-⟩:=hk.spec;have hbI:zn w .u8 bv bs:=hb
 by_cases hd:Cu.chk h=0∧z1d L n ks rest
 ·obtain ⟨hc,D⟩:=hd
  have hb0:∀ x∈bs,0≤x∧x≤255:=fun x hx=>bounds_u8 (h8 x hx)
  have hbs:=zt5 fun x hx=>(hb0 x hx).1
  obtain ⟨M,V,hpos,rfl,rfl,rfl,rfl,hss⟩:=zabi D (bs.map Int.toNat);have:=zup h sv M V hpos (bs.map Int.toNat) (fun x hx=>by
   obtain ⟨y,hy,rfl⟩:=List.mem_map.1 hx;have:=hb0 y hy;omega) hss ka kc bv w hc hs (by rw [zbx,V.kl] at hk;exact hk) (by rw [← hbs];exact hbI)
  rw [zbx,V.kl];exact this
 ·exact zyb h sv L n rest ks ka kc bv bs w (fun hc hD=>hd ⟨hc,hD⟩) hs hk hbI
end Go.Proofs.YtnoffnkmibjndaaGreat
