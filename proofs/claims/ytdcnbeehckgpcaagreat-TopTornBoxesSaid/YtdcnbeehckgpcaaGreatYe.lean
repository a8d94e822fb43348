/-
  The walk of covered: with how many outcomes that begin so some ticket wins.
-/
import Derived.Test.YtdcnbeehckgpcaaGreatXd
import Derived.Test.YtdcnbeehckgpcaaGreatTd
set_option maxRecDepth 200000
set_option maxHeartbeats 0
namespace Go.Proofs.YtdcnbeehckgpcaaGreat
open Go.Lib (hid)
open Go.RowKit Go.Shelf
attribute [local go_sem] Oper.semAt_some
def zm1(won sets:List Nat)(k r:Nat):Nat:=if r<k then sets.getD r 0&&&2^won.getD r 0 else sets.getD r 0
def zea(won sets:List Nat)(n:Nat):List Nat:=(List.range n).map (zm1 won sets won.length)
theorem zwe(won sets:List Nat){n r:Nat}(h:r<n):(zea won sets n).getD r 0=zm1 won sets won.length r:=by
 simp[zea,h]
theorem zaim(won sets:List Nat)(k r:Nat):zm1 won sets k r≤sets.getD r 0:=by
 unfold zm1
 split
 ·exact wej
 ·exact weq _
def zjl(us:List Int)(n m:Nat)(won:List Nat)(x:Lf):Int:=if zdd us x.2 n=0 then 0 else (zb1 (zea won x.1 m) m:Int)
def zcl(us:List Int)(n m:Nat)(won:List Nat)(l:List Lf):Int:=(l.map (zjl us n m won)).sum
theorem zac1(us:List Int)(n m:Nat)(won:List Nat)(l:List Lf)(x:Lf):zcl us n m won (l++[x])=zcl us n m won l+zjl us n m won x:=by
 unfold zcl;rw[wde,wd8];simp
theorem wrap_add(a b:Int):IntKind.i64.wrap (IntKind.i64.wrap a+b)=IntKind.i64.wrap (a+b):=by
 simp only[IntKind.wrap_i64];omega
theorem zwf{g:List Nat→List Bool→List Lf}{cls:Nat→List Bool}{sets:List Nat}{race n b:Nat}(hg:∀s a,(g s a).length≤b):∀{m left:Nat},(zdp g cls sets race n m left).length≤m*b
 |0,_=>by simp[zdp]
 |m+1,left=>by
  simp only[zdp];rw[we7]
  split
  ·rw[wc3]
   have h1:=hg (sets.set race (ownB left n (n-(m+1)) cls n)) (cls (n-(m+1)));have h2:=zwf (cls:=cls) (sets:=sets) (race:=race) (n:=n) hg (m:=m) (left:=ze2 left (ownB left n (n-(m+1)) cls n));omega
  ·have h2:=zwf (cls:=cls) (sets:=sets) (race:=race) (n:=n) hg (m:=m) (left:=left)
   omega
theorem z8e{rs:List Nat}{ts:List (List Nat)}(h6:∀r,rs.getD r 0≤6):∀(f:Nat) (sets:List Nat) (al:List Bool),(zdt rs ts f sets al).length≤6^f
 |0,sets,al=>by simp[zdt]
 |f+1,sets,al=>by
  simp only[zdt]
  split
  ·have:=Nat.one_le_pow (f+1) 6 (by omega)
   simpa using this
  ·have h:=zwf (g:=zdt rs ts f) (cls:=zd9 ts (rs.length-(f+1)) al) (sets:=sets) (race:=rs.length-(f+1)) (n:=rs.getD (rs.length-(f+1)) 0) (fun s a=>z8e h6 f s a) (m:=rs.getD (rs.length-(f+1)) 0) (left:=sets.getD (rs.length-(f+1)) 0)
   have h2:=we0 (6^f) (h6 (rs.length-(f+1)));rw[we4,Nat.mul_comm (6^f) 6];omega
theorem z8f(us:List Int)(n m:Nat)(won:List Nat)(hm:m≤5):∀l:List Lf,0≤zcl us n m won l∧zcl us n m won l≤7776*(l.length:Int)
 |[]=>by simp[zcl]
 |x::l=>by
  have ih:=z8f us n m won hm l;have hx:0≤zjl us n m won x∧zjl us n m won x≤7776:=by
   unfold zjl;have h1:=zsq (zea won x.1 m) m;have h2:6^m≤6^5:=we3 (by omega) hm
   split<;>omega
  have e:zcl us n m won (x::l)=zjl us n m won x+zcl us n m won l:=by simp[zcl]
  rw[e,wc4];omega
theorem zaft{rs:List Nat}(V:zfr rs)(us:List Int)(n m:Nat)(hm:m≤5)(won:List Nat)(ts:List (List Nat)):IntKind.i64.wrap (zcl us n m won (zck rs ts))=zcl us n m won (zck rs ts):=by
 have h6:∀r,rs.getD r 0≤6:=fun r=>by
  by_cases h:r<rs.length
  ·exact(V.each r h).2
  ·rw[wch,wco (by omega)];simp
 have h:=z8e (ts:=ts) h6 rs.length (zdc rs) (List.replicate ts.length true);have hp:6^rs.length≤6^5:=we3 (by omega) V.hi;have hb:=z8f us n m won hm (zck rs ts);have hl:(zck rs ts).length≤7776:=wer h (wer hp (by decide));exact wbh _ (by omega)
theorem zxu(rs:List Nat)(ps:List (Value×Tk))(ra ta:Option Addr)(rcap tc p:Nat)(won:List Nat)(wa:Option Addr)(wc:Nat)(w:World)(hr:zo w .i64 (.slice ra rs.length rcap) (zy rs))(ht:ze4 w (.slice ta ps.length tc) ps)(V:zfr rs)(VT:zjj rs (zac ps))(hS:zc2 w p (.slice ra rs.length rcap) (.slice ta ps.length tc))(hw:zo w .i64 (.slice wa won.length wc) (zy won))(hwl:won.length≤rs.length)(hw6:∀r,r<won.length→won.getD r 0<6) :
  CallsIn Fence.wide 9 Tryz.prog 31 #[.pointer (some ⟨p,0,none⟩),.slice wa won.length wc] w fun e w'=>e=.returned (.int .i64 (zcl (za2 (zac ps)) ps.length rs.length won (zck rs (zap (zac ps)))))∧Ext w w':=by
 have HT0:=hid ht;have HR0:=hid hr;have HV:=hid V;have HVT:=hid VT;have HS0:=hid hS;have HWN:=hid hw;have HW6:=hid hw6;have hl10:ps.length≤10:=by have:=VT.hi;simpa[zac]using this
 have hr1:=V.lo;have hr5:=V.hi;have hpw:=hS.lt;clear ht V VT hr hS hw hw6;refine callsIn_of_wp_marks Tryz.func31 rfl trivial ?_ rfl;simp only[Tryz.ntmps31,wd7,wc4,wc9,Nat.reduceAdd,Nat.reduceSub,wai,waj,wd4,wbo,wd1,wbp];obtain⟨rb,ro,hra,-⟩:=za7 HR0.out (show 0<rs.length by omega);subst hra;obtain⟨W0,hW0⟩:∃W0,W0=(w.alloc (.cells #[.slice wa won.length wc] 22)).alloc (.cells #[.int .i64 0] 2):=⟨_,rfl⟩
 have hE0:Ext w W0:=by rw[hW0];exact xx
 have k0:W0.cell? ⟨w.heap.size,0,none⟩=some (.slice wa won.length wc):=by rw[hW0];simp[go_sem]
 have k1:W0.heap[w.heap.size+1]?=some (.cells #[.int .i64 0] 2 (0,0)):=by
  have:=World.alloc_heap_new (w.alloc (.cells #[.slice wa won.length wc] 22)) (.cells #[.int .i64 0] 2);rw[wfx]at this;rw[hW0];exact this
 have hz0:W0.heap.size=w.heap.size+2:=by rw[hW0];simp
 gi_wp2_with fail;rw[←hW0];refine⟨trivial,(callsIn_wide.2 (zaah p W0)).mono ?_⟩;rintro e W5 ⟨rfl,hE5,hb5,hz5⟩;obtain⟨ab,hab⟩:∃ab,ab=w.heap.size+1:=⟨_,rfl⟩
 rw[show W0.heap.size=ab+1 by omega]at hb5 hz5 ⊢;rw[←hab]at k1 ⊢;have hw00:IntKind.i64.wrap 0=0:=wbh _ (by omega);have hE05:Ext w W5:=hE0.trans' hE5;replace k0:=zh hE5 k0;have k15:W5.heap[ab]?=some (.cells #[.int .i64 0] 2 (0,0)):=(hE5.block ab (by omega)).trans k1;have hz51:ab+2=W5.heap.size:=by omega
 have HB5:=hid hb5;have HE05:=hid hE05;have HAB:=hid hab;have hsub:∀W,Kept (fun k=>k<W5.heap.size∧k≠ab) W5 W→Ext w W:=fun W hk=>HE05.out.trans (Kept.below (hk.mono (T:=fun k=>k<w.heap.size) fun k hk1 hk2=>⟨hk1,by have:=HAB.out;omega⟩) HE05.out.size)
 have HSUB:=hid hsub;have HK0:=hid k0;have HK15:=hid k15;have hwab:w.heap.size<W5.heap.size∧w.heap.size≠ab:=by omega
 clear hW0 hE0 hE5 k1 hb5 hz5 hz0 hE05 k15 hsub k0 hab;have E5:zsn (fun k=>k<W5.heap.size∧k≠ab) W5 p rs ps rb ro rcap ta tc:=by
  obtain⟨_,_,e9,q1,q2,-⟩:=HR0.out.spec;rw[zad]at e9 q1;cases e9;refine⟨fun W hk=>HS0.out.ext (HSUB.out W hk),fun W hk r hr=>?_,fun W hk=>HT0.out.ext (HSUB.out W hk),⟨q1,q2⟩,HV.out,HVT.out⟩;obtain⟨_,_,e8,hc⟩:=za7 HR0.out hr;cases e8;exact hc r hr W (HSUB.out W hk)
 have HE5:=hid E5;clear E5;obtain⟨ts,hts⟩:∃ts,ts=zap (zac ps):=⟨_,rfl⟩
 obtain⟨us,hus⟩:∃us,us=za2 (zac ps):=⟨_,rfl⟩
 have HTS:=hid hts;have HUS:=hid hus;clear hts hus;gi_wp2_with fail;refine zaae (n:=9) (R:=fun k=>k<W5.heap.size∧k≠ab) rfl (enters_of Tryz.func108 (by kernel_rfl) rfl)
  (zaai HE5.out (ab+1) (fun W hk=>hk.cell HB5.out ⟨by simp only;omega,by simp only;omega⟩))
  (Below.refl _ _) (fun k hk=>hk.1) (fun _=>rfl)
  (fun O pre W=>(∀k,O k→W5.heap.size≤k)∧W5.heap.size≤W.heap.size∧Kept (fun k=>k<W5.heap.size∧k≠ab) W5 W∧W.heap[ab]?=some (.cells #[.int .i64 (IntKind.i64.wrap (zcl us ps.length rs.length won (pre.map (·.2))))] 2 (0,0)))
  (fun _ _ _ _=>False) ?bears (fun _ _ _ _ _ _ h _ _ _=>h) ⟨fun _ h=>h.elim,weq _,Kept.refl _ _,by simpa[zcl,hw00]using HK15.out⟩ ?round ?done (fun _ _ _ _ _ _ _ h _=>h.elim)
 case bears =>
  rintro pre O O' A B ⟨g1,g2,g3,g4⟩ hk hO1 hO2;have hal:=(wad.1 g4).1;refine⟨fun k hk=>?_,by have:=hk.size;omega,g3.trans (hk.mono fun k _ h=>⟨fun ho=>by have:=g1 k ho;omega,by omega⟩),(hk.same ab hal ⟨fun ho=>by have:=g1 _ ho;omega,by omega⟩).trans g4⟩
  rcases hO2 k hk with h|h
  ·exact g1 k h
  ·omega
 case round =>
  rintro l O pre ⟨xv,sets,al⟩ W ⟨g1,g2,g3,g4⟩ ⟨sb,so,sc,hxv,hS,hsl,hlt64,hgood⟩ hO2 hW2;simp only at hxv hS hsl hlt64 hgood;subst hxv;simp only[encB];gi_wp2_with fail;refine⟨Below.refl _ _,fun W2 hk2=>?_⟩;have hlw:=hk2.size;have hal:=(wad.1 g4).1;have g32:Kept (fun k=>k<W5.heap.size∧k≠ab) W5 W2:=g3.trans (hk2.mono fun k _ h=>by omega);have g42:=(hk2.same ab hal (by omega)).trans g4;have hS2:zb0 W2 O sb so sc sets rs.length:=⟨hS.1,hS.2.1,hS.2.2.1,fun r hr=>hk2.cell (hS.2.2.2 r hr) (by have:=hO2 sb hS.2.2.1;simp only;omega)⟩
  have hE2:=HSUB.out W2 g32;have HG3:=hid g32;have HG4:=hid g42;have HS2:=hid hS2;have HE2:=hid hE2;have HSL:=hid hsl;have H64:=hid hlt64;have hw2z:W5.heap.size≤W2.heap.size:=by omega
  obtain⟨vu,hvu⟩:∃vu,vu=zdd (za2 (zac ps)) al ps.length:=⟨_,rfl⟩
  have HVU:Hid (vu=zdd us al ps.length):=hid (by rw[hvu,HUS.out]);rw[←hvu];have hsn:=zac1 us ps.length rs.length won (pre.map (·.2)) (sets,al);obtain⟨S0,hS0⟩:∃S0,S0=zcl us ps.length rs.length won (pre.map (·.2)):=⟨_,rfl⟩
  have HSN:=hid hsn;clear g3 g4 g32 g42 hS hS2 hE2 hgood hsl hlt64 hk2 hvu hsn hal hS0
  by_cases hv0:vu=0
  ·subst hv0
   have hz:zjl us ps.length rs.length won (sets,al)=0:=by
    unfold zjl;rw[if_pos HVU.out.symm]
   have HZ:=hid hz;clear hz;gi_wp2_with fail;refine⟨Kept.refl _ _,g1,by omega,HG3.out,?_⟩;rw[wde,wdg,wdj,HSN.out,HZ.out,Int.add_zero];exact HG4.out
  ·have hvb:(vu == 0)=false:=beq_false_of_ne hv0
   have hvb2:decide (vu=0)=false:=decide_eq_false hv0;obtain⟨Wm,hmk,hnum,hEm⟩:=zky W2 rs.length (by omega);obtain⟨g,hg⟩:∃g,g=W2.heap.size:=⟨_,rfl⟩
   rw[←hg]at hmk hnum;obtain⟨Wc,hcp,hkc,hnc⟩:=zxs Wm g rs.length _ sets sb so sc 3 hnum HSL.out (fun r hr=>zh hEm (HS2.out.2.2.2 r hr));have hgl:=hnum.lt;have HNC:=hid hnc;have hWc:Kept (fun k=>k<W2.heap.size) W2 Wc:=Kept.trans ((Kept.of_below hEm).mono fun _ _ _=>trivial) (hkc.mono fun k _ hk=>by omega);have HWC:=hid hWc;have hw3:Kept (fun k=>k<W5.heap.size∧k≠ab) W5 Wc:=HG3.out.trans (hWc.mono fun k _ hk=>by have:=hk.1;omega);have k0c:=hw3.cell HK0.out ⟨by simp only;omega,by simp only;omega⟩;have zc0:=wfu _ _ k0c;simp only at zc0;have HK0C:=hid k0c;have hg5:W5.heap.size≤g:=by omega
   have HG:=hid hg;clear hnum hEm hkc hnc hWc hw3 hg;gi_wp2_with fail
   gi_loopw [25] (fun iv wr=>∃r:Nat,r≤won.length∧iv=.int .i64 r∧zbj wr g rs.length (fun j=>(zm1 won sets r j:Int))∧Kept (fun k=>k≠g) Wc wr) (fun iv _=>won.length-(intOf iv).toNat)
   case atStart=>exact⟨0,by omega,rfl,HNC.out.congr fun j hj=>by simp[zm1],Kept.refl _ _⟩
   case round =>
    obtain⟨r,hr,rfl,hnb,hkg⟩:=hrel;obtain⟨X,rfl⟩:∃X,X=wr:=⟨_,rfl⟩
    have HNB:=hid hnb;have HKG:=hid hkg
    by_cases hlr:r<won.length
    ·have hri:(r:Int)<(won.length:Int):=by omega
     have hrl:r<rs.length:=by omega
     have hrli:(r:Int)<(rs.length:Int):=by omega
     have hkx:Kept (fun k=>k<W2.heap.size) W2 X:=HWC.out.trans (hkg.mono fun k _ hk=>by have:=HG.out;omega);have hEX:Ext w X:=HE2.out.trans (Kept.below (hkx.mono (T:=fun k=>k<w.heap.size) fun k _ hk=>by have:=HE2.out.size;omega) HE2.out.size);obtain⟨wb,wo,rfl,hcw⟩:=za7 (HWN.out.ext hEX) hlr;have cw:=hcw r hlr X (Below.refl _ _);have hx6:=HW6.out r hlr;have hS6:=H64.out r hrl;have cj:=HNB.out.cell r hrl;have hown:zm1 won sets r r=sets.getD r 0:=by unfold zm1;rw[if_neg (Nat.lt_irrefl r)]
     rw[hown]at cj;have fz:=HNB.out.free r;have zg:=HNB.out.lt;obtain⟨x,hx0⟩:∃x,x=won.getD r 0:=⟨_,rfl⟩
     obtain⟨A,hA0⟩:∃A,A=sets.getD r 0:=⟨_,rfl⟩
     rw[←hx0]at cw hx6;rw[←hA0]at cj hS6;obtain⟨hsh,hp64,-⟩:=zjf (n:=x) (by omega);have hmin:min x 64=x:=by omega
     have hand:=zj9 A (2^x) (by omega) (by omega);obtain⟨P2,hP2⟩:∃P2,P2=2^x:=⟨_,rfl⟩
     rw[←hP2]at hsh hand;obtain⟨C,hC⟩:∃C,C=A&&&P2:=⟨_,rfl⟩
     rw[←hC]at hand;have HC:Hid (C=sets.getD r 0&&&2^won.getD r 0):=hid (by rw[hC,hP2,hA0,hx0]);have zw:=wfu _ _ cw;simp only at zw;clear hkx hEX hcw hown hx0 hA0 hP2 hC hkg hnb hp64;gi_wp2_with fail;refine zif rfl rfl (by kernel_rfl) (X.heap.size) (weq _)
      [sqV (.slice (some ⟨g,0,none⟩) rs.length rs.length),sqV (.int .i64 r),sqV (.pointer (some ⟨g,r,none⟩)),sqV (.int .i64 A),sqV (.int .i64 x),sqV (.int .i64 P2),sqV (.int .i64 C),sqV (.pointer (some ⟨g,r,none⟩))]
      [true,true,true,true,true,true,true,true] [false,false,false,false,false,false,false,false] [true,true,true,true,true,true,true,true] [true,true,true,true,true,true,true,true]
      (by kernel_rfl) (by kernel_rfl) (by decide +kernel) (by decide +kernel) (by decide +kernel) rfl ⟨rfl,rfl⟩ ⟨?s0,?s1,?s2,?s3,?s4,?s5,?s6,?s7,trivial⟩ [some 30,some 31,some 32,some 33,some 34,some 35,some 36,some 37] rfl rfl ?send
     case s0 =>
      intro f h W b e d a c;have o0:h (.tmp 8)=.slice (some ⟨g,0,none⟩) rs.length rs.length:=a.old 8 (by decide);exact ze (by simp[execOp,o0,go_sem]) rfl
     case s1 =>
      intro f g W b e d a c;have o0:g (.tmp 9)=.int .i64 r:=a.old 9 (by decide);exact ze (by simp[execOp,o0,go_sem]) rfl
     case s2 =>
      intro f h W b e d a c;have d0:h (.tmp 30)=.slice (some ⟨g,0,none⟩) rs.length rs.length:=dpv a d 0 30;have d1:h (.tmp 31)=.int .i64 r:=dpv a d 1 31;exact ze (by simp[execOp,d0,d1,hrli,go_sem]) rfl
     case s3 =>
      intro f h W b e d a c;have d2:h (.tmp 32)=.pointer (some ⟨g,r,none⟩):=dpv a d 2 32;have f_cj:=cell_below b (by simp only;omega) cj;exact ze (by simp[execOp,d2,f_cj,go_sem]) rfl
     case s4 =>
      intro f g W b e d a c;have o0:g (.tmp 10)=.int .i64 x:=a.old 10 (by decide);exact ze (by simp[execOp,o0,go_sem]) rfl
     case s5 =>
      intro f g W b e d a c;have d4:g (.tmp 34)=.int .i64 x:=dpv a d 4 34;exact ze (by simp[execOp,a.const,d4,hsh,go_sem]) rfl
     case s6 =>
      intro f g W b e d a c;have d3:g (.tmp 33)=.int .i64 A:=dpv a d 3 33;have d5:g (.tmp 35)=.int .i64 P2:=dpv a d 5 35;exact ze (by simp[execOp,d3,d5,hand,go_sem]) rfl
     case s7 =>
      intro f h W b e d a c;have d0:h (.tmp 30)=.slice (some ⟨g,0,none⟩) rs.length rs.length:=dpv a d 0 30;have d1:h (.tmp 31)=.int .i64 r:=dpv a d 1 31;exact ze (by simp[execOp,d0,d1,hrli,go_sem]) rfl
     case send =>
      intro val Z hE hzz hv;obtain⟨-,-,-,-,-,-,r6,r7,-⟩:=hv;have q6:val 6=.int .i64 C:=r6;have q7:val 7=.pointer (some ⟨g,r,none⟩):=r7;simp only[za9,q6,q7];go_frame;have HNB2:=hid (HNB.out.of_heap (hE.block g zg));have cj2:=zh hE cj;have fz2:=HNB2.out.free r;have zg2:=HNB2.out.lt;have HKE:=hid (HKG.out.trans (Kept.of_below hE));clear hE hzz r6 r7 q6 q7 cj fz zg;gi_wp2_with fail;refine⟨⟨r+1,by omega,by go_num,(HNB2.out.set r (C:Int)).congr fun q hq=>?_,HKE.out.setCell (fun _ h=>h rfl) _⟩,by simp[intOf];omega⟩;unfold zm1
      by_cases e:q=r
      ·subst e
       rw[if_pos rfl,if_pos (by omega),HC.out]
      ·rw[if_neg e]
       by_cases h:q<r
       ·rw[if_pos h,if_pos (by omega)]
       ·rw[if_neg h,if_neg (by omega)]
    ·have hri:¬((r:Int)<(won.length:Int)):=by omega
     have hrw:r=won.length:=by omega
     subst hrw;have hab2:ab<W2.heap.size:=by omega
     have hkx:Kept (fun k=>k<W2.heap.size) W2 X:=HWC.out.trans (hkg.mono fun k _ hk=>by have:=HG.out;omega);have h4:=(hkx.same ab hab2 hab2).trans HG4.out;have hsi:zo X .i64 (.slice (some ⟨g,0,none⟩) rs.length rs.length) (zy (zea won sets rs.length)):=by
      refine zbj.intsC (HNB.out.congr fun j hj=>?_) (by rw[zad];simp[zea]) (weq _) (by omega);have hl:(zea won sets rs.length).length=rs.length:=by simp[zea]
      have hjl:j<(zy (zea won sets rs.length)).length:=by rw[zad,hl];exact hj
      show(zm1 won sets won.length j:Int)=(zy (zea won sets rs.length)).getD j 0;rw[wch,wcn hjl,wfk,zig (by rw[hl];exact hj),zwe won sets hj]
     have hsz:=fun W hW=>z4q (zea won sets rs.length) (.slice (some ⟨g,0,none⟩) rs.length rs.length) W (hsi.ext hW) (by simp [zea];omega) (fun r hr=>by
      have hl:(zea won sets rs.length).length=rs.length:=by simp[zea]
      rw[hl]at hr;rw[zwe won sets hr];exact wes (zaim won sets won.length r) (H64.out r hr))
     have hll:(zea won sets rs.length).length=rs.length:=by simp[zea]
     rw[hll]at hsz;have hcv:zjl us ps.length rs.length won (sets,al)=(zb1 (zea won sets rs.length) rs.length:Int):=by
      unfold zjl;rw[if_neg (by rw[←HVU.out];exact hv0)]
     obtain⟨z,hz⟩:∃z,z=zb1 (zea won sets rs.length) rs.length:=⟨_,rfl⟩
     rw[←hz]at hsz hcv;have HSZ:=hid hsz;have HCV:=hid hcv;have hca:X.cell? ⟨ab,0,none⟩=some (.int .i64 (IntKind.i64.wrap (zcl us ps.length rs.length won (pre.map (·.2))))):=by rw[cell_of_row _ _ _ _ _ _ h4];rfl
     have hwa:=wrap_add (zcl us ps.length rs.length won (pre.map (·.2))) (z:Int);obtain⟨a0,ha0⟩:∃a0,a0=IntKind.i64.wrap (zcl us ps.length rs.length won (pre.map (·.2))):=⟨_,rfl⟩
     rw[←ha0]at hca hwa h4;obtain⟨a1,ha1⟩:∃a1,a1=IntKind.i64.wrap (zcl us ps.length rs.length won (pre.map (·.2))+(z:Int)):=⟨_,rfl⟩
     rw[←ha1]at hwa;have HA1:=hid ha1;have H4:=hid h4;have HKX:=hid hkx;have hza:=wfu _ _ hca;simp only at hza;clear hkx h4 hsi hsz hll hcv hz ha0 ha1 hkg hnb;gi_wp2_with fail;refine zif rfl rfl (by kernel_rfl) (X.heap.size) (weq _)
      [sqV (.int .i64 a0),sqV (.slice (some ⟨g,0,none⟩) rs.length rs.length),sqV (.int .i64 z),sqV (.int .i64 a1)]
      [true,true,true,true] [false,false,false,false] [true,true,true,true] [true,true,true,true]
      (by kernel_rfl) (by kernel_rfl) (by decide +kernel) (by decide +kernel) (by decide +kernel) rfl ⟨rfl,rfl⟩ ⟨?s0,?s1,?s2,?s3,trivial⟩ [some 39,some 40,some 41,some 42] rfl rfl ?send
     case s0 =>
      intro f g W b e d a c;have o0:g (.tmp 5)=.pointer (some ⟨ab,0,none⟩):=a.old 5 (by decide);have f_hca:=cell_below b (by simp only;omega) hca;exact ze (by simp[execOp,o0,f_hca,go_sem]) rfl
     case s1 =>
      intro f h W b e d a c;have o0:h (.tmp 8)=.slice (some ⟨g,0,none⟩) rs.length rs.length:=a.old 8 (by decide);exact ze (by simp[execOp,o0,go_sem]) rfl
     case s2 =>
      intro h i W b f d a c;have d1:i (.tmp 40)=.slice (some ⟨g,0,none⟩) rs.length rs.length:=dpv a d 1 40;clear d;refine zbx 26 _ _ rfl #[.slice (some ⟨g,0,none⟩) rs.length rs.length] (a.func _) (by simp[d1]) (fun args W=>Tryz.call26 args W) ((HSZ.out W b).mono ?_);rintro e w' ⟨rfl,hb⟩;exact⟨_,rfl,hb,rfl⟩
     case s3 =>
      intro f g W b e d a c;have d0:g (.tmp 39)=.int .i64 a0:=dpv a d 0 39;have d2:g (.tmp 41)=.int .i64 z:=dpv a d 2 41;exact ze (by simp[execOp,d0,d2,hwa,go_sem]) rfl
     case send =>
      intro val Z hE hzz hv;obtain⟨-,-,-,r3,-⟩:=hv;have q3:val 3=.int .i64 a1:=r3;simp only[za9,q3];go_frame;have h4z:=(hE.block ab hza).trans H4.out;have hcz:Z.cell? ⟨ab,0,none⟩=some (.int .i64 a0):=by rw[cell_of_row _ _ _ _ _ _ h4z];rfl
      have fz:Z.frozen? ⟨ab,0,none⟩=false:=by simp[World.frozen?,h4z]
      have hzb:ab<Z.heap.size:=wet hza hzz;have HKZ:=hid (HKX.out.trans (Kept.of_below hE));have H4Z:=hid (zal h4z 0 (.int .i64 a1));clear hE r3 q3 h4z hca hza;gi_wp2_with fail;have hf:∀S:Nat→Prop,(∀k,S k→k≠ab)→Kept S W2 (Z.setCell ⟨ab,0,none⟩ (.int .i64 a1)):=fun S hS=>by
       have h1:Kept S W2 Z:=HKZ.out.mono fun k hk _=>hk
       exact h1.setCell (fun _ h=>hS _ h rfl) _
      have hf5:Kept (fun k=>k<W5.heap.size∧k≠ab) W5 (Z.setCell ⟨ab,0,none⟩ (.int .i64 a1)):=HG3.out.trans (hf _ fun k h=>h.2);refine⟨hf _ fun k h2 e=>?_,g1,by have:=HKZ.out.size;simp[World.setCell];omega,hf5,?_⟩
      ·subst e
       rcases h2 with h|h|h|h
       ·exact h.2 rfl
       ·have:=g1 _ h;omega
       ·omega
       ·omega
      ·rw[wde,wdg,wdj,HSN.out,HCV.out,←HA1.out]
       simpa using H4Z.out
 case done =>
  rintro D O xs W hD hxs ⟨g1,g2,g3,g4⟩ hDk;rw[←HTS.out]at hxs;rw[hxs,zaft HV.out us ps.length rs.length hr5 won ts]at g4;obtain⟨U,hU⟩:∃U,U=zcl us ps.length rs.length won (zck rs ts):=⟨_,rfl⟩
  rw[←hU]at g4;have HU:Hid (U=zcl (za2 (zac ps)) ps.length rs.length won (zck rs (zap (zac ps)))):=hid (by rw[hU,HUS.out,HTS.out]);have hc:W.cell? ⟨ab,0,none⟩=some (.int .i64 U):=by rw[cell_of_row _ _ _ _ _ _ g4];rfl
  have zc:=wfu _ _ hc;simp only at zc;have HDK:=hid hDk;have HEW:=hid (HSUB.out W g3);clear g1 g2 g3 g4 hxs hU hDk;gi_wp2_with fail;refine⟨by simp,.inl ⟨_,_,rfl,run_takeDeferred HDK.out,?_⟩⟩;have hkd:Kept (fun k=>k≠D) W (W.putObj D (.deferred none)):=(Kept.refl _ W).putObj _ (fun _ h=>h rfl);refine⟨.int .i64 U,by simp[results,Tryz.results31,go_sem],by rw[HU.out],?_⟩;exact HEW.out.trans (Kept.below (hkd.mono fun k _ h=>by have:=HE05.out.size;omega) HEW.out.size)
theorem zafu(w:World):zo w .i64 (.slice none ([]:List Nat).length 0) (zy []):=⟨none,0,rfl,by simp[zy],by omega,.inl rfl⟩
theorem z4r(rs:List Nat)(ps:List (Value×Tk))(ra ta:Option Addr)(rcap tc:Nat)(w:World)(hr:zo w .i64 (.slice ra rs.length rcap) (zy rs))(ht:ze4 w (.slice ta ps.length tc) ps)(V:zfr rs)(VT:zjj rs (zac ps)) :
  Calls Tryz.prog 12 #[.agg #[.slice ra rs.length rcap],.slice ta ps.length tc] w fun e w'=>e=.returned (.tuple #[.int .i64 (zcl (za2 (zac ps)) ps.length rs.length [] (zck rs (zap (zac ps)))),.int .i64 0])∧Ext w w':=by
 have HR:=hid hr;have HT:=hid ht;have HV:=hid V;have HVT:=hid VT;obtain⟨U,hU⟩:∃U,U=zcl (za2 (zac ps)) ps.length rs.length [] (zck rs (zap (zac ps))):=⟨_,rfl⟩
 rw[←hU];have HU:=hid hU;clear hr ht V VT hU
 go_enter Tryz.func12,Tryz.ntmps12
 go_upto_region 1 with(fail);obtain⟨W0,hW0⟩:∃W0,W0=w.alloc (.cells #[.slice ra rs.length rcap] 29):=⟨_,rfl⟩
 have hE:Ext w W0:=by rw[hW0];exact xx
 have k0:W0.cell? ⟨w.heap.size,0,none⟩=some (.slice ra rs.length rcap):=by rw[hW0];simp[go_sem]
 have hz:=wfu _ _ k0;simp only at hz;have HW:=hid hE;rw[←hW0];clear hW0 hE;go_wp2_with fail;refine(zsp rs ps ra ta rcap tc W0 (HR.out.ext HW.out) (HT.out.ext HW.out) HV.out HVT.out).mono ?_
 rintro e W1 ⟨p,rfl,hE1,-,hS⟩;have HE1:=hid (HW.out.trans' hE1);have HS:=hid hS;clear hE1 hS k0 hz;go_wp2_with fail;have hc:=callsIn_wide.1 (zxu rs ps ra ta rcap tc p [] none 0 W1 (HR.out.ext HE1.out) (HT.out.ext HE1.out) HV.out HVT.out HS.out (zafu W1) (wfd _) (fun r h=>by cases h));rw[←HU.out]at hc;refine wa8 hc ?_
 rintro e W2 ⟨rfl,hE2⟩;have HE2:=hid (HE1.out.trans' hE2);clear hE2 hc;go_wp2_with fail;refine bodyPost_ret (v:=.tuple #[.int .i64 U,.int .i64 0]) (by simp[results,Tryz.results12,go_sem]) rfl ?_
 exact⟨rfl,HE2.out⟩
theorem zac2(rs won:List Nat)(ra wa:Option Addr)(rcap wc p:Nat)(tv:Value)(w:World)(hr:zo w .i64 (.slice ra rs.length rcap) (zy rs))(hw:zo w .i64 (.slice wa won.length wc) (zy won))(hS:zc2 w p (.slice ra rs.length rcap) tv)(hl:won.length≤rs.length)(hl5:rs.length≤5)(ho:∀r,r<won.length→won.getD r 0<rs.getD r 0) :
  Calls Tryz.prog 34 #[.pointer (some ⟨p,0,none⟩),.slice wa won.length wc] w fun e w'=>e=.returned (.bool true)∧Ext w w':=by
 have c0:=hS.c0;have zp:=wfu _ _ c0;simp only at zp;have HR:=hid hr;have HWN:=hid hw;have HO:=hid ho;clear hr hw hS ho
 go_enter Tryz.func34,Tryz.ntmps34
 go_wp2_with fail
 go_loopw [9] (fun iv W=>∃k:Nat,k≤won.length∧iv=.int .i64 k∧Ext w W) (fun iv _=>won.length-(intOf iv).toNat)
 case atStart=>exact⟨0,by omega,rfl,by exact xx⟩
 case round =>
  obtain⟨k,hk,rfl,hE⟩:=hrel;have HE:=hid hE
  by_cases hlt:k<won.length
  ·have hki:(k:Int)<(won.length:Int):=by omega
   have hkr:(k:Int)<(rs.length:Int):=by omega
   obtain⟨wb,wo,rfl,hcw⟩:=za7 (HWN.out.ext hE) hlt;obtain⟨rb,ro,rfl,hcr⟩:=za7 (HR.out.ext hE) (show k<rs.length by omega);have cw:=hcw k hlt wr (Below.refl _ _);have cr:=hcr k (by omega) wr (Below.refl _ _);have hxy:=HO.out k hlt;obtain⟨x,hx⟩:∃x,x=won.getD k 0:=⟨_,rfl⟩
   obtain⟨y,hy⟩:∃y,y=rs.getD k 0:=⟨_,rfl⟩
   rw[←hx]at cw hxy;rw[←hy]at cr hxy;have zw:=wfu _ _ cw;have zr:=wfu _ _ cr;simp only at zw zr;have h1:¬((x:Int)<0):=by omega
   have h2:¬((y:Int)≤(x:Int)):=by omega
   have h3:decide ((y:Int)≤(x:Int))=false:=decide_eq_false h2;replace c0:=zh hE c0;replace zp:=wfu _ _ c0;simp only at zp;clear hE hcw hcr hx hy hxy;go_wp2_with fail;exact⟨⟨k+1,by omega,by go_num,HE.out⟩,by simp[intOf];omega⟩
  ·have hki:¬((k:Int)<(won.length:Int)):=by omega
   go_wp2_with fail;go_ret;exact⟨rfl,HE.out⟩
def zc3(ts:List (List Nat))(won:List Nat)(m k:Nat):List Nat:=(List.range k).filter fun i=>zeg (ts.getD i []) (zet won) m
theorem z4s(ts:List (List Nat))(won:List Nat)(m k:Nat):zc3 ts won m (k+1)=zc3 ts won m k++if zeg (ts.getD k []) (zet won) m=true then [k]else []:=by
 unfold zc3;rw[wd6,wb1,wb3,wb6]
theorem z68(ts:List (List Nat))(won:List Nat)(m k:Nat):(zc3 ts won m k).length≤k:=by
 unfold zc3;have:=wc7 (fun i=>zeg (ts.getD i []) (zet won) m) (List.range k);simpa using this
theorem zafv{l:List Nat}:(zy (zet l)).length=l.length:=by rw[zad];simp[zet]
theorem zac3{l:List Nat}{k:Nat}(h:k<l.length):(zet l).getD k 0=2^l.getD k 0:=by
 unfold zet;rw[wch,wcq,wch,wcn h];rfl
theorem zaal(rs:List Nat)(ps:List (Value×Tk))(won:List Nat)(ra ta wa:Option Addr)(rcap tc wc:Nat)(w:World)(hr:zo w .i64 (.slice ra rs.length rcap) (zy rs))(ht:ze4 w (.slice ta ps.length tc) ps)(V:zfr rs)(VT:zjj rs (zac ps))(hw:zo w .i64 (.slice wa won.length wc) (zy won))(hl:won.length=rs.length)(ho:∀r,r<won.length→won.getD r 0<rs.getD r 0) :
  Calls Tryz.prog 15 #[.agg #[.slice ra rs.length rcap],.slice ta ps.length tc,.slice wa won.length wc] w fun e w'=>∃(x:Int) (v:Value),e=.returned (.tuple #[.int .i64 x,v,.int .i64 0])∧Ext w w'∧zo w' .i64 v (zy (zc3 (zap (zac ps)) won rs.length ps.length)):=by
 have HR:=hid hr;have HT:=hid ht;have HV:=hid V;have HVT:=hid VT;have HWN:=hid hw;have HO:=hid ho;have hr5:=V.hi;have hl10:ps.length≤10:=by have:=VT.hi;simpa[zac]using this
 have hw6:∀r,r<won.length→won.getD r 0<6:=fun r hr=>by
  have h1:=ho r hr;have h2:=(V.each r (by omega)).2;omega
 have HW6:=hid hw6;have HL:=hid hl;have hnl:¬((rs.length:Int)<(won.length:Int)):=by omega
 obtain⟨ts,hts⟩:∃ts,ts=zap (zac ps):=⟨_,rfl⟩
 rw[←hts];have HTS:=hid hts;clear hts;clear hr ht V VT hw ho hw6 hl
 go_enter Tryz.func15,Tryz.ntmps15
 go_upto_region 1 with(fail);obtain⟨W0,hW0⟩:∃W0,W0=w.alloc (.cells #[.slice ra rs.length rcap] 29):=⟨_,rfl⟩
 have hE:Ext w W0:=by rw[hW0];exact xx
 have k0:W0.cell? ⟨w.heap.size,0,none⟩=some (.slice ra rs.length rcap):=by rw[hW0];simp[go_sem]
 have hz:=wfu _ _ k0;simp only at hz;have HW:=hid hE;rw[←hW0];clear hW0 hE;go_wp2_with fail;refine(zsp rs ps ra ta rcap tc W0 (HR.out.ext HW.out) (HT.out.ext HW.out) HV.out HVT.out).mono ?_
 rintro e W1 ⟨p,rfl,hE1,-,hS⟩;have HE1:=hid (HW.out.trans' hE1);have HS:=hid hS;replace k0:=zh hE1 k0;have hz:=wfu _ _ k0;simp only at hz;clear hE1 hS;go_wp2_with fail;refine(zac2 rs won ra wa rcap wc p (.slice ta ps.length tc) W1 (HR.out.ext HE1.out) (HWN.out.ext HE1.out) HS.out (by have:=HL.out;omega) hr5 HO.out).mono ?_
 rintro e W2 ⟨rfl,hE2⟩;have HE2:=hid (HE1.out.trans' hE2);have HS2:=hid (zc2.ext hE2 HS.out);have hz2:=hE2.size;clear hE2 k0 hz;go_wp2_with fail
 go_loopw [11,38] (fun ov iv W=>∃k:Nat,k≤ps.length∧iv=.int .i64 k∧zab W W2.heap.size 3 1 ov ((zy (zc3 ts won rs.length k)).map zas)∧Ext W2 W) (fun _ iv _=>ps.length-(intOf iv).toNat)
 case atStart=>exact⟨0,by omega,rfl,zab.nil _ _ _ _,Below.refl _ _⟩
 case round =>
  obtain⟨k,hk,rfl,hown,hE⟩:=hrel;obtain⟨X,rfl⟩:∃X,X=wr:=⟨_,rfl⟩
  obtain⟨oa,on,oc,rfl⟩:=hown.isSlice;have HE:=hid hE;have HOW:=hid hown
  by_cases hlt:k<ps.length
  ·have hki:(k:Int)<(ps.length:Int):=by omega
   have hT:=HT.out.ext (HE2.out.trans' hE);obtain⟨_,_,e9,-,-,hcc⟩:=hT.spec;cases e9
   rcases hcc with hc0|⟨tb,to,rfl,hcc⟩
   ·rw[hc0]at hlt;simp at hlt
   obtain⟨t0,t1⟩:=hcc k hlt;have zt:=wfu _ _ t0;simp only at zt;have hln:=zacy HVT.out _ (wcy hlt);have hle:=zahk HV.out HVT.out _ (wcy hlt);have hsv0:=hT.sets _ (wcy hlt);obtain⟨sa,sc2,hsv,hcap,hmx,-⟩:=hsv0.spec;rw[zad,hln]at hsv hcap;rw[hsv]at hsv0 t0;obtain⟨u,hu⟩:∃u,u=ps[k].2.u:=⟨_,rfl⟩
   rw[←hu]at t1;have hsa:ts.getD k []=ps[k].2.s:=by rw[HTS.out,zzr hlt]
   obtain⟨S,hS⟩:∃S,S=ps[k].2.s:=⟨_,rfl⟩
   rw[←hS]at hsv0 hln hle hsa;have HSV:=hid hsv0;have HLN:=hid hln;have HLE:=hid hle;have HSA:=hid hsa;have hsc:=z4s ts won rs.length k;rw[hsa]at hsc;have HSC:=hid hsc;have hlen9:=z68 ts won rs.length k;clear hT hcc hsv hu hsa hS hsv0 hln hle hsc hown hE;go_upto_region 12 with(fail);obtain⟨Y,hY⟩:∃Y,Y=X.alloc (.cells #[.slice sa rs.length sc2,.int .i64 u] 35):=⟨_,rfl⟩
   have hEY:Ext X Y:=by rw[hY];exact xx
   obtain⟨R,hR⟩:∃R,R=X.heap.size:=⟨_,rfl⟩
   have x0:Y.cell? ⟨R,0,none⟩=some (.slice sa rs.length sc2):=by rw[hY,hR];simp[go_sem]
   have zR:=wfu _ _ x0;simp only at zR;rw[←hY,←hR];have HEY:=hid hEY;obtain⟨xb,xo,rfl,-⟩:=za7 HSV.out (show 0<S.length by rw[HLN.out];have:=HV.out.lo;omega);obtain⟨bb,hbb⟩:∃bb,bb=zeg S (zet won) rs.length:=⟨_,rfl⟩
   have HBB:=hid hbb;clear hY hEY hR t0 t1 zt hbb;refine zb8 (Y.heap.size) (weq _)
    [sqV (.pointer (some ⟨R,0,none⟩)),sqV (.slice (some ⟨xb,xo,none⟩) rs.length sc2),sqV (.slice wa won.length wc),sqV (.int .i64 won.length),sqV (.slice (some ⟨xb,xo,none⟩) rs.length sc2),sqV (.slice wa won.length wc),sqW (fun v W=>∃oa oc,v=.slice oa won.length oc∧zo W .i64 v (zy (zet won))) (fun _ _ _ ⟨oa,oc,h1,h2⟩ e=>⟨oa,oc,h1,h2.ext e⟩),sqV (.bool bb)]
    [true,true,true,true,true,true,false,true] [false,false,false,false,false,false,false,false] [true,true,true,true,true,true,true,true] [true,true,true,true,true,true,true,true]
    (by kernel_rfl) (by kernel_rfl) (by decide +kernel) (by decide +kernel) (by decide +kernel) rfl ⟨rfl,rfl⟩ ⟨?s0,?s1,?s2,?s3,?s4,?s5,?s6,?s7,trivial⟩ [some 43,some 44,some 45,some 46,some 47,some 48,some 49,some 50] rfl rfl ?send
   case s0 =>
    intro f g W b e d a c;have o0:g (.tmp 13)=.pointer (some ⟨R,0,none⟩):=a.old 13 (by decide);exact ze (by simp[execOp,o0,go_sem]) rfl
   case s1 =>
    intro f g W b e d a c;have d0:g (.tmp 43)=.pointer (some ⟨R,0,none⟩):=dpv a d 0 43;have f_x0:=cell_below b (by simp only;omega) x0;exact ze (by simp[execOp,d0,f_x0,go_sem]) rfl
   case s2 =>
    intro f g W b e d a c;have o0:g (.tmp 2)=.slice wa won.length wc:=a.old 2 (by decide);exact ze (by simp[execOp,o0,go_sem]) rfl
   case s3 =>
    intro f g W b e d a c;have d2:g (.tmp 45)=.slice wa won.length wc:=dpv a d 2 45;exact ze (by simp[d2,go_sem]) rfl
   case s5 =>
    intro f g W b e d a c;have o0:g (.tmp 2)=.slice wa won.length wc:=a.old 2 (by decide);exact ze (by simp[execOp,o0,go_sem]) rfl
   case s4 =>
    intro f g W b e d a c;have hww:=HL.out;have e1:g (.tmp 44)=.slice (some ⟨xb,xo,none⟩) rs.length sc2:=dpv a d 1 44;have e3:g (.tmp 46)=.int .i64 won.length:=dpv a d 3 46;rw[hww]at e3;have h2:¬(sc2<rs.length):=by omega
    exact ze (by simp[execOp,e1,e3,h2,go_sem]) rfl
   case s6 =>
    intro g h W b f d a c;have hww:=HL.out;have e5:h (.tmp 48)=.slice wa won.length wc:=dpv a d 5 48;refine zbx 36 _ _ rfl #[.slice wa won.length wc] (a.func _) (by simp[e5]) (fun args W=>Tryz.call36 args W) ((z66 won _ W (HWN.out.ext ((HE2.out.trans' HE.out).trans' (HEY.out.trans' b))) HW6.out (by omega)).mono ?_);rintro e w' ⟨v,rfl,hb,ho⟩;have hi:=ho.oneInts;obtain⟨oa,oc,e9,-⟩:=hi.spec;rw[zafv]at e9;exact⟨v,rfl,hb,oa,oc,e9,hi⟩
   case s7 =>
    intro g h W b f d a c;have hww:=HL.out;obtain ⟨oa,oc,e9,hi⟩:=d 6 (by decide);have e4:h (.tmp 47) = .slice (some ⟨xb,xo,none⟩) rs.length sc2:=dpv a d 4 47;have e6:h (.tmp 49) = .slice oa won.length oc:=(a.dep 6 (by decide) 49 rfl).trans e9;rw [e9] at hi;have hh:=zaff S (zet won) (.slice (some ⟨xb,xo,none⟩) rs.length sc2) (.slice oa won.length oc) W (HSV.out.ext (HEY.out.trans' b)) hi (by rw [HLN.out];simp [zet];omega) (fun r hr=>by have:=HLE.out r (by rw [HLN.out] at hr;exact hr);omega) (fun r hr=>by
     rw[HLN.out]at hr;rw[zac3 (by omega)];have h1:=HW6.out r (by omega);have h2:2^won.getD r 0≤2^6:=we3 (by omega) (by omega);omega) (by rw[HLN.out];omega)
    rw[HLN.out,←HBB.out]at hh;refine zbx 35 _ _ rfl #[.slice (some ⟨xb,xo,none⟩) rs.length sc2,.slice oa won.length oc] (a.func _) (by simp[e4,e6]) (fun args W=>Tryz.call35 args W) (hh.mono ?_);rintro e w' ⟨rfl,hb⟩;exact⟨_,rfl,hb,rfl⟩
   case send =>
    intro val Z hE hzz hv;obtain⟨-,-,-,-,-,-,-,r7,-⟩:=hv;have q7:val 7=.bool bb:=r7;simp only[za9,q7];go_frame;have HZ:=hid (HE.out.trans' (HEY.out.trans' hE));have HOZ:=hid (HOW.out.ext (HEY.out.trans' hE));clear hE hzz r7 q7 x0 zR;have hsc9:=HSC.out;rw[←HBB.out]at hsc9;cases bb
    ·have HAT:Hid (zc3 ts won rs.length (k+1)=zc3 ts won rs.length k):=hid (by rw[hsc9];simp)
     clear hsc9;go_wp2_with fail;exact⟨⟨k+1,by omega,by go_num,by rw[HAT.out];exact HOZ.out,HZ.out⟩,by simp[intOf];omega⟩
    ·have HAT:Hid ((zy (zc3 ts won rs.length (k+1))).map zas=(zy (zc3 ts won rs.length k)).map zas++[[.int .i64 (k:Int)]]):=hid (by rw[hsc9];simp[zy,zas])
     clear hsc9;have hoY:=HOZ.out.ext (show Ext Z (Z.alloc (.cells #[.int .i64 (k:Int)] 3))from xx);have hsz:=HZ.out.size;obtain⟨v',X9,hrun,h2,h3⟩:=zty zgc 22 W2.heap.size hoY Z.heap.size 0 1 [zas (k:Int)] (by simp[zas]) (newRow _ [.int .i64 (k:Int)] _) (by simp[zas,Value.oneCell']) (by simp[zy];omega) (by simp;omega);have h29:Hid (zab X9 W2.heap.size 3 1 v' ((zy (zc3 ts won rs.length (k+1))).map zas)):=hid (by rw[HAT.out];exact h2);have h39:Hid (Ext W2 X9):=hid ((Ext.trans' HZ.out (by exact xx)).trans h3);clear h2 h3 hoY hsz;go_wp2_with (at_builtin;refine zhb rfl (.tmp 51) (.tmp 53) rfl rfl rfl hrun ?_);obtain⟨va,vn,vc,rfl⟩:=h29.out.isSlice;exact⟨⟨k+1,by omega,by go_num,h29.out,h39.out⟩,by simp[intOf];omega⟩
  ·have hki:¬((k:Int)<(ps.length:Int)):=by omega
   have hke:k=ps.length:=by omega
   have hfin:zo X .i64 (.slice oa on oc) (zy (zc3 ts won rs.length ps.length)):=by
    have:=hown.oneInts
    rwa [hke]at this
   have HFIN:=hid hfin;have hc:=callsIn_wide.1 (zxu rs ps ra ta rcap tc p won wa wc X (HR.out.ext (HE2.out.trans' hE)) (HT.out.ext (HE2.out.trans' hE)) HV.out HVT.out (zc2.ext hE HS2.out) (HWN.out.ext (HE2.out.trans' hE)) (by have:=HL.out;omega) HW6.out);obtain⟨U,hU⟩:∃U,U=zcl (za2 (zac ps)) ps.length rs.length won (zck rs (zap (zac ps))):=⟨_,rfl⟩
   rw[←hU]at hc;clear hfin hke hU hown hE;go_wp2_with fail;refine wa8 hc ?_
   rintro e W9 ⟨rfl,hE9⟩;have HE9:=hid hE9;clear hc hE9;go_wp2_with fail;refine bodyPost_ret (v:=.tuple #[.int .i64 U,.slice oa on oc,.int .i64 0]) (by simp[results,Tryz.results15,go_sem]) rfl ?_
   exact⟨U,_,rfl,(HE2.out.trans' HE.out).trans' HE9.out,HFIN.out.ext HE9.out⟩
theorem z2e(rs won:List Nat)(ra wa:Option Addr)(rcap wc:Nat)(w:World)(hr:zo w .i64 (.slice ra rs.length rcap) (zy rs))(hw:zo w .i64 (.slice wa won.length wc) (zy won))(hl:won.length=rs.length)(hl5:rs.length≤1000)(ho:∀r,r<won.length→won.getD r 0<rs.getD r 0) :
  Calls Tryz.prog 16 #[.agg #[.slice ra rs.length rcap],.slice wa won.length wc] w fun e w'=>e=.returned (.int .i64 0)∧Ext w w':=by
 have HR:=hid hr;have HWN:=hid hw;have HO:=hid ho;have HL:=hid hl;have hlb:((won.length:Int) == (rs.length:Int))=true:=by rw[hl];simp
 have hln:¬((won.length:Int)≠(rs.length:Int)):=by rw[hl];simp
 have hl1000:won.length≤1000:=by omega
 clear hr hw ho hl hln
 go_enter Tryz.func16,Tryz.ntmps16
 go_upto_region 1 with(fail);obtain⟨W0,hW0⟩:∃W0,W0=w.alloc (.cells #[.slice ra rs.length rcap] 29):=⟨_,rfl⟩
 have hE:Ext w W0:=by rw[hW0];exact xx
 have k0:W0.cell? ⟨w.heap.size,0,none⟩=some (.slice ra rs.length rcap):=by rw[hW0];simp[go_sem]
 have hz:=wfu _ _ k0;simp only at hz;have HW:=hid hE;rw[←hW0];clear hW0 hE;have hlq:(won.length:Int)=(rs.length:Int):=by have:=HL.out;omega
 have HLQ:=hid hlq;clear hlq;go_wp2_with fail
 go_loopw [5] (fun iv W=>∃k:Nat,k≤won.length∧iv=.int .i64 k∧Ext W0 W) (fun iv _=>won.length-(intOf iv).toNat)
 case atStart=>exact⟨0,by omega,rfl,Below.refl _ _⟩
 case round =>
  obtain⟨k,hk,rfl,hE⟩:=hrel;have HE:=hid hE
  by_cases hlt:k<won.length
  ·have hki:(k:Int)<(won.length:Int):=by omega
   have hkr:(k:Int)<(rs.length:Int):=by have:=HL.out;omega
   have hkr2:k<rs.length:=by have:=HL.out;omega
   obtain⟨wb,wo,rfl,hcw⟩:=za7 (HWN.out.ext (HW.out.trans' hE)) hlt;obtain⟨rb,ro,rfl,hcr⟩:=za7 (HR.out.ext (HW.out.trans' hE)) hkr2;have cw:=hcw k hlt wr (Below.refl _ _);have cr:=hcr k hkr2 wr (Below.refl _ _);have hxy:=HO.out k hlt;obtain⟨x,hx⟩:∃x,x=won.getD k 0:=⟨_,rfl⟩
   obtain⟨y,hy⟩:∃y,y=rs.getD k 0:=⟨_,rfl⟩
   rw[←hx]at cw hxy;rw[←hy]at cr hxy;have zw:=wfu _ _ cw;have zr:=wfu _ _ cr;simp only at zw zr;have b1:decide ((x:Int)<0)=false:=decide_eq_false (by omega);have b2:x<y:=hxy;have c0:=zh hE k0;have zc:=wfu _ _ c0;simp only at zc;clear hE hcw hcr hx hy hxy;go_upto_region 6 with(fail);refine zau (wr.heap.size) (weq _)
    [sqV (.slice (some ⟨wb,wo,none⟩) won.length wc),sqV (.int .i64 k),sqV (.pointer (some ⟨wb,wo+k,none⟩)),sqV (.int .i64 x),sqV (.bool false),sqV (.bool false),sqV (.slice (some ⟨wb,wo,none⟩) won.length wc),sqV (.int .i64 k),sqV (.pointer (some ⟨wb,wo+k,none⟩)),sqV (.int .i64 x),sqV (.pointer (some ⟨w.heap.size,0,none⟩)),sqV (.slice (some ⟨rb,ro,none⟩) rs.length rcap),sqV (.int .i64 k),sqV (.pointer (some ⟨rb,ro+k,none⟩)),sqV (.int .i64 y),sqV (.bool false),sqV (.bool false)]
    [true,true,true,true,true,true,true,true,true,true,true,true,true,true,true,true,true] [false,false,false,false,false,false,false,false,false,false,false,false,false,false,false,false,false] [true,true,true,true,true,true,true,true,true,true,true,true,true,true,true,true,true] [true,true,true,true,true,true,true,true,true,true,true,true,true,true,true,true,true] [true,true,true,true,true,true,true,true,true,true,true,true,true,true,true,true,true] [none,none,none,none,some false,some false,none,none,none,none,none,none,none,none,none,some false,some false]
    (by kernel_rfl) (by kernel_rfl) (by decide +kernel) ⟨fun _ _ _ h=>h,⟨fun _ _ _ h=>h,⟨fun _ _ _ h=>h,⟨fun _ _ _ h=>h,trivial⟩⟩⟩⟩ (by decide +kernel) (by decide +kernel) (by decide +kernel) rfl ⟨rfl,rfl,rfl⟩ ⟨?s0,?s1,?s2,?s3,?s4,?s5,?s6,?s7,?s8,?s9,?s10,?s11,?s12,?s13,?s14,?s15,?s16,trivial⟩ [some 18,some 19,some 20,some 21,some 22,some 23,some 24,some 25,some 26,some 27,some 28,some 29,some 30,some 31,some 32,some 33,some 34] rfl rfl ?send
   case s0 =>
    intro f g W b e d h a c;have o0:g (.tmp 1)=.slice (some ⟨wb,wo,none⟩) won.length wc:=a.old 1 (by decide);exact ze (by simp[execOp,o0,go_sem]) rfl
   case s1 =>
    intro f g W b e d h a c;have o0:g (.tmp 5)=.int .i64 k:=a.old 5 (by decide);exact ze (by simp[execOp,o0,go_sem]) rfl
   case s2 =>
    intro f g W b e d h a c;have d0:g (.tmp 18)=.slice (some ⟨wb,wo,none⟩) won.length wc:=dpv a d 0 18;have d1:g (.tmp 19)=.int .i64 k:=dpv a d 1 19;exact ze (by simp[execOp,d0,d1,hki,go_sem]) rfl
   case s3 =>
    intro f g W b e d h a c;have d2:g (.tmp 20)=.pointer (some ⟨wb,wo+k,none⟩):=dpv a d 2 20;have f_cw:=cell_below b (by simp only;omega) cw;exact ze (by simp[execOp,d2,f_cw,go_sem]) rfl
   case s4 =>
    intro f g W b e d h a c;have d3:g (.tmp 21)=.int .i64 x:=dpv a d 3 21;exact ze (by simp[execOp,a.const,d3,b1,go_sem]) rfl
   case s5 =>
    intro f g W b e d h a c;have d4:g (.tmp 22)=.bool false:=dpv a d 4 22;exact ze (by simp[execOp,d4,go_sem]) rfl
   case s6 =>
    intro f g W b e d h a c;have o0:g (.tmp 1)=.slice (some ⟨wb,wo,none⟩) won.length wc:=a.old 1 (by decide);exact ze (by simp[execOp,o0,go_sem]) rfl
   case s7 =>
    intro f g W b e d h a c;have o0:g (.tmp 5)=.int .i64 k:=a.old 5 (by decide);exact ze (by simp[execOp,o0,go_sem]) rfl
   case s8 =>
    intro f g W b e d h a c;have d6:g (.tmp 24)=.slice (some ⟨wb,wo,none⟩) won.length wc:=dpv a d 6 24;have d7:g (.tmp 25)=.int .i64 k:=dpv a d 7 25;exact ze (by simp[execOp,d6,d7,hki,go_sem]) rfl
   case s9 =>
    intro f g W b e d h a c;have d8:g (.tmp 26)=.pointer (some ⟨wb,wo+k,none⟩):=dpv a d 8 26;have f_cw:=cell_below b (by simp only;omega) cw;exact ze (by simp[execOp,d8,f_cw,go_sem]) rfl
   case s10 =>
    intro f g W b e d h a c;have o0:g (.tmp 2)=.pointer (some ⟨w.heap.size,0,none⟩):=a.old 2 (by decide);exact ze (by simp[execOp,o0,go_sem]) rfl
   case s11 =>
    intro f g W b e d h a c;have d10:g (.tmp 28)=.pointer (some ⟨w.heap.size,0,none⟩):=dpv a d 10 28;have f_c0:=cell_below b (by simp only;omega) c0;exact ze (by simp[execOp,d10,f_c0,go_sem]) rfl
   case s12 =>
    intro f g W b e d h a c;have o0:g (.tmp 5)=.int .i64 k:=a.old 5 (by decide);exact ze (by simp[execOp,o0,go_sem]) rfl
   case s13 =>
    intro f g W b e d h a c;have d11:g (.tmp 29)=.slice (some ⟨rb,ro,none⟩) rs.length rcap:=dpv a d 11 29;have d12:g (.tmp 30)=.int .i64 k:=dpv a d 12 30;exact ze (by simp[execOp,d11,d12,hkr,go_sem]) rfl
   case s14 =>
    intro f g W b e d h a c;have d13:g (.tmp 31)=.pointer (some ⟨rb,ro+k,none⟩):=dpv a d 13 31;have f_cr:=cell_below b (by simp only;omega) cr;exact ze (by simp[execOp,d13,f_cr,go_sem]) rfl
   case s15 =>
    intro f g W b e d h a c;have d9:g (.tmp 27)=.int .i64 x:=dpv a d 9 27;have d14:g (.tmp 32)=.int .i64 y:=dpv a d 14 32;exact ze (by simp[execOp,d9,d14,b2,go_sem]) rfl
   case s16 =>
    intro f g W b e d h a c;have d5:g (.tmp 23)=.bool false:=dpv a d 5 23;have d15:g (.tmp 33)=.bool false:=dpv a d 15 33;exact ze (by simp[execOp,a.const,d5,d15,go_sem]) rfl
   case send =>
    intro val Y hE9 hzz hv;have q16:val 16=.bool false:=by
     obtain⟨-,-,-,-,-,-,-,-,-,-,-,-,-,-,-,-,r16,-⟩:=hv;exact r16
    have HY:=hid hE9;simp only[za9,q16];go_frame;clear hE9 hzz hv q16;go_wp2_with fail;exact⟨⟨k+1,by omega,by go_num,HE.out.trans' HY.out⟩,by simp[intOf];omega⟩
  ·have hki:¬((k:Int)<(won.length:Int)):=by omega
   go_wp2_with fail;go_ret;exact⟨rfl,HW.out.trans' HE.out⟩
end Go.Proofs.YtdcnbeehckgpcaaGreat
