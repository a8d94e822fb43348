/-
  The walk of from of the ticket machine, by induction on the letters that are left: how many codes that fit go on from a state.
-/
import Derived.Test.YtdcnbeehckgpcaaGreatTa
import Derived.Test.YtdcnbeehckgpcaaGreatPc
set_option maxRecDepth 200000
set_option maxHeartbeats 0
set_option linter.unusedSimpArgs false
set_option linter.unusedVariables false
namespace Go.Proofs.YtdcnbeehckgpcaaGreat
open Go.Lib (hid)
open Go.RowKit Go.Shelf
attribute [local go_sem] Oper.semAt_some
def ztz(M:zl)(mb:Nat)(s:TSt)(F:TSt→Option Int)(W:World)(e:Ending)(W':World):Prop :=
 e=.returned (.int .i64 (cnt M s:Int))∧Kept (fun k=>k≠mb) W W'∧∃F',zbo zai zcu W' mb F'∧znf M F'∧(∀t v,F t=some v→F' t=some v)∧(s.at_<M.n→F' s=some (cnt M s:Int))
theorem ztz.same{M:zl}{mb:Nat}{s:TSt}{F:TSt→Option Int}{W W':World}(hr:znf M F)(hm:zbo zai zcu W mb F)(he:Ext W W')(hs:s.at_<M.n→F s=some (cnt M s:Int)):ztz M mb s F W (.returned (.int .i64 (cnt M s:Int))) W' :=
 ⟨rfl,Kept.of_below he,F,hm.ext he,hr,fun _ _ h=>h,hs⟩
def waC(g:Nat→Int):Array Value:=#[.int .i64 (g 0),.int .i64 (g 1),.int .i64 (g 2),.int .i64 (g 3),.int .i64 (g 4),.int .i64 (g 5)]
def zjg(W:World)(b:Nat)(g:Nat→Int):Prop:=W.heap[b]?=some (.cells (waC g) 165 (0,0))
theorem zjg.lt{W:World}{b:Nat}{g:Nat→Int}(h:zjg W b g):b<W.heap.size:=(wad.1 h).1
theorem zjg.fr{W:World}{b:Nat}{g:Nat→Int}(h:zjg W b g)(o:Nat):W.frozen? ⟨b,o,none⟩=false:=by
 have h':W.heap[b]?=_:=h;simp[World.frozen?,h']
theorem zjg.cell{W:World}{b:Nat}{g:Nat→Int}(h:zjg W b g){j:Nat}(hj:j<6):W.cell? ⟨b,j,none⟩=some (.int .i64 (g j)):=by
 rw[cell_of_row _ _ _ _ _ _ h]
 match j,hj with
 |0,_=>rfl
 |1,_=>rfl
 |2,_=>rfl
 |3,_=>rfl
 |4,_=>rfl
 |5,_=>rfl
theorem zjg.set{W:World}{b:Nat}{g:Nat→Int}(h:zjg W b g){j:Nat}(hj:j<6)(x:Int):zjg (W.setCell ⟨b,j,none⟩ (.int .i64 x)) b (fun k=>if k=j then x else g k):=by
 have h1:=zal h j (.int .i64 x)
 match j,hj with
 |0,_=>exact h1
 |1,_=>exact h1
 |2,_=>exact h1
 |3,_=>exact h1
 |4,_=>exact h1
 |5,_=>exact h1
def waF(M:zl)(s:TSt)(pre:List Nat)(j:Nat):Int:=if j∈pre then (cnt M (toS M s j):Int)else 0
theorem zah4(M:zl)(s:TSt):waF M s []=fun _=>0:=funext fun j=>by simp[waF]
theorem zah5(M:zl)(s:TSt)(pre:List Nat)(c:Nat):(fun k=>if k=c then (cnt M (toS M s c):Int)else waF M s pre k)=waF M s (pre++[c]):=funext fun j=>by
 unfold waF
 by_cases h:j=c
 ·subst h;simp
 ·simp[h]
theorem z7u{M:zl}{s:TSt}{k j:Nat}:j∈stL M s k↔j<k∧okS M s j=true:=by
 unfold stL;rw[wds,wdz]
def zfn(g:Nat→Int):Nat→Int
 |0=>0
 |k+1=>zfn g k+g k
theorem z7v(M:zl)(s:TSt)(j:Nat):waF M s (stL M s M.L) j=if j<M.L then (za8 M s j:Int)else 0:=by
 unfold waF za8
 by_cases h1:j<M.L
 ·by_cases h2:okS M s j=true<;>simp[z7u,h1,h2]
 ·simp[z7u,h1]
theorem zva(M:zl)(s:TSt):∀k,k≤M.L→zfn (waF M s (stL M s M.L)) k=(zaq (za8 M s) k:Int)
 |0,_=>rfl
 |k+1,h=>by rw[zfn,zaq,zva M s k (by omega),z7v,if_pos (by omega)];omega
theorem zvb(M:zl)(s:TSt):∀d,zfn (waF M s (stL M s M.L)) (M.L+d)=(zaq (za8 M s) M.L:Int)
 |0=>zva M s M.L (weq _)
 |d+1=>by rw[←wed,zfn,zvb M s d,z7v,if_neg (by omega)];omega
theorem zae1{M:zl}{s:TSt}(h6:M.L≤6)(h:s.at_<M.n):zfn (waF M s (stL M s M.L)) 6=(cnt M s:Int):=by
 rw[zgk h,show 6=M.L+(6-M.L) by omega,zvb]
theorem zajz{M:zl}(V:zag M)(s:TSt)(pre:List Nat)(j:Nat):0≤waF M s pre j∧waF M s pre j≤1679616:=by
 unfold waF
 split
 ·have:=zfz V (toS M s j);omega
 ·omega
theorem z7w{g:Nat→Int}{c:Int}(h:∀j,0≤g j∧g j≤c):∀k:Nat,0≤zfn g k∧zfn g k≤c*(k:Int)
 |0=>by simp[zfn]
 |k+1=>by
  have h1:=z7w h k;have h2:=h k;rw[zfn,wbc,Int.mul_add];simp only[Int.natCast_one,Int.mul_one];omega
theorem zze(M:zl)(V:zag M)(p mb:Nat)(ka sa:Option Addr)(kc sc:Nat)(o:zqa p ka sa mb):∀(f:Nat) (s:TSt) (F:TSt→Option Int) (W:World),StV M s→M.n-s.at_=f→zbm W p M ka sa kc sc mb→zbo zai zcu W mb F→znf M F →
  CallsIn Fence.wide 9 Tryz.prog 64 #[.pointer (some ⟨p,0,none⟩),zai s] W (ztz M mb s F W):=by
 intro f
 induction f with
 |zero =>
  intro s F W hv hf hm hmap hr;have HSE:Hid (s.at_=M.n):=hid (by have:=hv.p;omega);clear hf;have HM:=hid hm;have HMAP:=hid hmap;have HR:=hid hr;have HSV:=hid hv;have hpz:=hm.lt;have hmz:=hmap.lt;clear hm hmap hr;unfold zai stC;refine callsIn_of_wp_marks Tryz.func64 rfl trivial ?_ rfl;simp only[Tryz.ntmps64,wd7,wc4,wc9,Nat.reduceAdd,Nat.reduceSub,wai,waj,wd4,wbo,wd1,wbp];obtain⟨W0,hW0⟩:∃W0,W0=(W.alloc (.cells #[.pointer (some ⟨p,0,none⟩)] 57)).alloc (.cells #[.int .i64 s.at_,.int .i64 s.last,.int .i64 s.sum] 97):=⟨_,rfl⟩
  have hE0:Ext W W0:=by rw[hW0];exact xx
  have b0:W0.cell? ⟨W.heap.size,0,none⟩=some (.pointer (some ⟨p,0,none⟩)):=by rw[hW0];simp[go_sem]
  have s0:W0.cell? ⟨W.heap.size+1,0,none⟩=some (.int .i64 s.at_):=by rw[hW0];simp[go_sem]
  have s1:W0.cell? ⟨W.heap.size+1,1,none⟩=some (.int .i64 s.last):=by rw[hW0];simp[go_sem]
  have s2:W0.cell? ⟨W.heap.size+1,2,none⟩=some (.int .i64 s.sum):=by rw[hW0];simp[go_sem]
  have hz0:W0.heap.size=W.heap.size+2:=by rw[hW0];simp
  gi_wp2_with fail;rw[←hW0];have c1:=zh hE0 HM.out.c1;have c3:=zh hE0 HM.out.c3;have HE0:=hid hE0;clear hW0 hE0;have hzb:W.heap.size<W0.heap.size:=by omega
  have hzs:W.heap.size+1<W0.heap.size:=by omega
  have hzp:p<W0.heap.size:=by omega
  have hsei:((s.at_:Int) == (M.n:Int))=true:=by rw[HSE.out];simp
  refine wpIn_wide.2 ?_
  go_quiet (fail)
  obtain⟨nq0,hnq0⟩:∃n,n=nq:=⟨_,rfl⟩
  rw[←hnq0];clear hnq0;gi_wp2_with fail
  by_cases hx:s.sum=M.rest
  ·have hxi:((s.sum:Int) == (M.rest:Int))=true:=by rw[hx];simp
   have HX:=hid hx;clear hx;refine wpIn_wide.2 ?_
   go_quiet (fail)
   gi_wp2_with fail;refine⟨.int .i64 1,by simp[results,Tryz.results64,go_sem],?_⟩;have hc:(cnt M s:Int)=1:=by rw[zih HSE.out,if_pos HX.out];rfl
   have:=ztz.same (s:=s) (W':=(W0.drewN nq0).drewN nq) HR.out HMAP.out (HE0.out.trans' (by exact xx)) (fun h=>by have:=HSE.out;omega);rw[hc]at this;exact this
  ·have hxi:((s.sum:Int) == (M.rest:Int))=false:=by rw[beq_eq_false_iff_ne];omega
   have HX:=hid hx;clear hx;refine wpIn_wide.2 ?_
   go_quiet (fail)
   gi_wp2_with fail;refine⟨.int .i64 0,by simp[results,Tryz.results64,go_sem],?_⟩;have hc:(cnt M s:Int)=0:=by rw[zih HSE.out,if_neg HX.out];rfl
   have:=ztz.same (s:=s) (W':=(W0.drewN nq0).drewN nq) HR.out HMAP.out (HE0.out.trans' (by exact xx)) (fun h=>by have:=HSE.out;omega);rw[hc]at this;exact this
 |succ f ih =>
  intro s F W hv hf hm hmap hr;have hsl:s.at_<M.n:=by omega
  have HM:=hid hm;have HMAP:=hid hmap;have HR:=hid hr;have HSV:=hid hv;have hpz:=hm.lt;have hmz:=hmap.lt;clear hm hmap hr;unfold zai stC;refine callsIn_of_wp_marks Tryz.func64 rfl trivial ?_ rfl;simp only[Tryz.ntmps64,wd7,wc4,wc9,Nat.reduceAdd,Nat.reduceSub,wai,waj,wd4,wbo,wd1,wbp];obtain⟨W0,hW0⟩:∃W0,W0=(W.alloc (.cells #[.pointer (some ⟨p,0,none⟩)] 57)).alloc (.cells #[.int .i64 s.at_,.int .i64 s.last,.int .i64 s.sum] 97):=⟨_,rfl⟩
  have hE0:Ext W W0:=by rw[hW0];exact xx
  have b0:W0.cell? ⟨W.heap.size,0,none⟩=some (.pointer (some ⟨p,0,none⟩)):=by rw[hW0];simp[go_sem]
  have s0:W0.cell? ⟨W.heap.size+1,0,none⟩=some (.int .i64 s.at_):=by rw[hW0];simp[go_sem]
  have s1:W0.cell? ⟨W.heap.size+1,1,none⟩=some (.int .i64 s.last):=by rw[hW0];simp[go_sem]
  have s2:W0.cell? ⟨W.heap.size+1,2,none⟩=some (.int .i64 s.sum):=by rw[hW0];simp[go_sem]
  have hz0:W0.heap.size=W.heap.size+2:=by rw[hW0];simp
  gi_wp2_with fail;rw[←hW0];have c1:=zh hE0 HM.out.c1;have c3:=zh hE0 HM.out.c3;have HE0:=hid hE0;clear hW0 hE0;have hzb:W.heap.size<W0.heap.size:=by omega
  have hzs:W.heap.size+1<W0.heap.size:=by omega
  have hzp:p<W0.heap.size:=by omega
  have hsei:((s.at_:Int) == (M.n:Int))=false:=by rw[beq_eq_false_iff_ne];omega
  have c5:=zh HE0.out HM.out.c5;have HSL:=hid hsl;have HIH:=hid ih;have HF1:=hid hf;clear ih hf hv hsl;refine wpIn_wide.2 ?_
  go_quiet (fail)
  have hE1:Ext W0 (W0.drewN nq):=Ext.drN (Below.refl _ W0) nq;generalize W0.drewN nq=W1 at hE1 ⊢;replace b0:=zh hE1 b0;replace s0:=zh hE1 s0;replace s1:=zh hE1 s1;replace s2:=zh hE1 s2;replace c5:=zh hE1 c5;have HE1:=hid (HE0.out.trans' hE1);have hz1:=hE1.size;have HMAP1:=hid (HMAP.out.ext HE1.out);have hzb:W.heap.size<W1.heap.size:=by omega
  have hzs:W.heap.size+1<W1.heap.size:=by omega
  have hzp:p<W1.heap.size:=by omega
  clear hE1 c1 c3 hsei;gi_wp2_with fail;cases hF:F s with
  |some v =>
   obtain rfl:=HR.out s v hF;have HF:=hid hF;obtain⟨C,hC⟩:∃C:Int,C=(cnt M s:Int):=⟨_,rfl⟩
   rw[←hC]at hF;have HC:=hid hC;have hlk:∀n,(Instr.lookup 93 (.map (some mb)) (.agg #[.int .i64 s.at_,.int .i64 s.last,.int .i64 s.sum]) true).run Tryz.prog (W1.drewN n)=.ok (.tuple #[.int .i64 C,.bool true]) (W1.drewN n) :=
    fun n=>(HMAP1.out.of_heap (W':=W1.drewN n) rfl).look_ok zfm s hF
   clear hF hC;refine wpIn_wide.2 ?_
   go_quiet (fail)
   gi_wp2_with fail;refine⟨.int .i64 C,by simp[results,Tryz.results64,go_sem],?_⟩;have:=ztz.same (s:=s) (W':=W1.drewN nq) HR.out HMAP.out (HE1.out.trans' (by exact xx)) (fun _=>HF.out);rw[←HC.out]at this;exact this
  |none =>
   have hlk:∀n,(Instr.lookup 93 (.map (some mb)) (.agg #[.int .i64 s.at_,.int .i64 s.last,.int .i64 s.sum]) true).run Tryz.prog (W1.drewN n)=.ok (.tuple #[.int .i64 0,.bool false]) (W1.drewN n) :=
    fun n=>(HMAP1.out.of_heap (W':=W1.drewN n) rfl).look_none zfm s hF zalf
   have HF:=hid hF;clear hF;refine wpIn_wide.2 ?_
   go_quiet (fail)
   have hE2:Ext W1 (W1.drewN nq):=Ext.drN (Below.refl _ W1) nq;generalize W1.drewN nq=W2 at hE2 ⊢;replace b0:=zh hE2 b0;replace s0:=zh hE2 s0;replace s1:=zh hE2 s1;replace s2:=zh hE2 s2;replace c5:=zh hE2 c5;have HE2:=hid (HE1.out.trans' hE2);have hz2:=hE2.size;have hzb:W.heap.size<W2.heap.size:=by omega
   have hzs:W.heap.size+1<W2.heap.size:=by omega
   have hzp:p<W2.heap.size:=by omega
   clear hE2 hlk;gi_wp2_with fail;refine⟨trivial,(callsIn_wide.2 (zv7 p s _)).mono ?_⟩;rintro e W5 ⟨rfl,hE5,c5m,c5s,hz5⟩;simp only[wfx]at c5m c5s hz5;have hE25:Ext W2 W5:=Ext.trans' (by exact xx) hE5;have hwa:zjg W5 W2.heap.size (waF M s []):=by
    rw[zah4];exact(hE5.block _ (by simp)).trans (World.alloc_heap_new W2 _)
   have HE5:=hid (HE2.out.trans' hE25);have HMAP5:=hid (HMAP.out.ext HE5.out);replace b0:=zh hE25 b0;replace s0:=zh hE25 s0;replace s1:=zh hE25 s1;replace s2:=zh hE25 s2;replace c5:=zh hE25 c5;have HWA:=hid hwa;have C5M:=hid c5m;have C5S:=hid c5s;have hz25:=hE25.size;clear hE5 hE25 hwa c5m c5s;gi_wp2_with fail;have hMS:∀X,Kept (fun k=>k<W5.heap.size∧k≠mb∧k≠W2.heap.size) W5 X→zxb X p (W2.heap.size+1) (W2.heap.size+1+1) M s ka sa kc sc mb:=fun X hk =>
    ⟨hk.cell C5M.out ⟨by simp only;omega,by simp only;omega,by simp only;omega⟩,C5S.out.kept hk ⟨by omega,by omega,by omega⟩,
     HM.out.kept (S:=fun k=>k<W.heap.size∧k≠mb) o (((Kept.of_below HE5.out).mono fun k _ _=>trivial).trans (hk.mono fun k _ h=>⟨by omega,h.2,by omega⟩)) fun b h1 h2=>⟨h1,h2⟩⟩
   have HMS:=hid hMS;clear hMS;refine zrz (n:=9) (R:=fun k=>k<W5.heap.size∧k≠mb∧k≠W2.heap.size) rfl (enters_of Tryz.func111 (by kernel_rfl) rfl)
    (zqb M s p (W2.heap.size+1) (W2.heap.size+1+1) ka sa kc sc mb _ W5 HMS.out V HSV.out HSL.out) (Below.refl _ _) (fun k hk=>hk.1) (fun _=>rfl)
    (fun O pre X=>(∀k,O k→W5.heap.size≤k)∧W5.heap.size≤X.heap.size∧Kept (fun k=>k<W5.heap.size∧k≠mb∧k≠W2.heap.size) W5 X∧zjg X W2.heap.size (waF M s pre)∧∃F',zbo zai zcu X mb F'∧znf M F'∧∀t v,F t=some v→F' t=some v)
    (fun _ _ _ _=>False) ?bears (fun _ _ _ _ _ _ h _ _ _=>h) ⟨fun _ h=>h.elim,weq _,Kept.refl _ _,HWA.out,F,HMAP5.out,HR.out,fun _ _ h=>h⟩ ?round ?done (fun _ _ _ _ _ _ _ h _=>h.elim)
   case bears =>
    rintro pre O O' A B ⟨g1,g2,g3,g4,F',g5,g6,g7⟩ hk hO1 hO2;have hlow:Kept (fun k=>k<W5.heap.size) A B:=hk.mono fun k _ hk=>⟨fun ho=>by have:=g1 k ho;omega,by omega⟩
    refine⟨fun k hk=>?_,by have:=hk.size;omega,g3.trans (hlow.mono fun k _ h=>h.1),(hlow.same _ g4.lt (by omega)).trans g4,F',g5.of_heap (hlow.same _ g5.lt (by omega)),g6,g7⟩
    rcases hO2 k hk with h|h
    ·exact g1 k h
    ·omega
   case round =>
    rintro l O pre c Wr ⟨g1,g2,g3,g4,F',g5,g6,g7⟩ ⟨hc,hok,hpre⟩ hO2 hW2;simp only[zai,stC];gi_wp2_with fail;refine⟨xx,fun X hk2=>?_⟩;have hE2:Ext Wr (Wr.alloc (.cells #[.int .i64 (toS M s c).at_,.int .i64 (toS M s c).last,.int .i64 (toS M s c).sum] 97)):=xx;have hst:zbl X Wr.heap.size (toS M s c):=(hk2.same _ (by simp) (by omega)).trans (World.alloc_heap_new Wr _);have hz2:=hk2.size;simp only[wfx]at hz2;have g32:Kept (fun k=>k<W5.heap.size∧k≠mb∧k≠W2.heap.size) W5 X:=(g3.trans (Kept.of_below hE2)).trans (hk2.mono fun k _ h=>by omega);have g42:zjg X W2.heap.size (waF M s pre):=(hk2.same _ (by simp;have:=g4.lt;omega) (by omega)).trans ((hE2.block _ g4.lt).trans g4);have g52:zbo zai zcu X mb F':=(g5.ext hE2).of_heap (hk2.same _ (by simp;have:=g5.lt;omega) (by omega));have hmX:zbm X p M ka sa kc sc mb:=HM.out.kept (S:=fun k=>k<W.heap.size∧k≠mb) o (((Kept.of_below HE5.out).mono fun k _ _=>trivial).trans (g32.mono fun k _ h=>⟨by omega,h.2,by omega⟩)) fun b h1 h2=>⟨h1,h2⟩
    have b0x:=g32.cell b0 ⟨by simp only;omega,by simp only;omega,by simp only;omega⟩;have y0:=hst.c0;have y1:=hst.c1;have y2:=hst.c2;have hih:=HIH.out (toS M s c) F' X (zsd V HSL.out hc) (by have:=HF1.out;unfold toS;simp only;omega) hmX g52 g6;unfold zai stC at hih;obtain⟨N,hN⟩:∃N:Int,N=(cnt M (toS M s c):Int):=⟨_,rfl⟩
    have HN:=hid hN;have HIHX:=hid hih;have HK5:=hid g32;have HW4:=hid g42;have HG7:=hid g7;have HPRE:=hid hpre;have hc6:c<6:=by have:=V.L;omega
    have hci:(c:Int)<6:=by omega
    have hzx:=wfu _ _ b0x;simp only at hzx;have hzw:=g42.lt;clear hst hmX hih hN hk2 hE2 g32 g42 g52 g3 g4 g5 g6 g7 hpre hok;gi_wp2_with fail;refine⟨trivial,(CallsIn.inRound l (callsIn_wide.2 (callsIn_wide.1 HIHX.out))).mono ?_⟩;rintro e Y ⟨rfl,hkY,F'',m1,m2,m3,m4⟩;rw[←HN.out];have hwY:zjg Y W2.heap.size (waF M s pre):=(hkY.same _ hzw (by omega)).trans HW4.out;have cw:=hwY.cell hc6;have fw:=fun o=>hwY.fr o
    have hzY:=hwY.lt;have HWY:=hid hwY;have HM1:=hid m1;have HM3:=hid m3;have HKY:=hid hkY;clear hwY m1 m3 m4 hkY y0 y1 y2 b0x;gi_wp2_with fail;have hkx:Kept (fun k=>(k<W5.heap.size∧k≠mb∧k≠W2.heap.size)∨O k∨k=W5.heap.size+1∨k+1=W5.heap.size+1) X (Y.setCell ⟨W2.heap.size,c,none⟩ (.int .i64 N)):=by
     refine(HKY.out.mono fun k _ h=>?_).setCell (fun _ h=>?_) _
     ·rcases h with h|h|h|h
      ·exact h.2.1
      ·have:=g1 k h;omega
      ·omega
      ·omega
     ·simp only at h
      rcases h with h|h|h|h
      ·exact h.2.2 rfl
      ·have:=g1 _ h;omega
      ·omega
      ·omega
    have hset:=HWY.out.set hc6 N;rw[HN.out,zah5,←HN.out]at hset;refine⟨hkx,g1,by have:=hkx.size;omega,HK5.out.trans (hkx.mono fun k _ h=>.inl h),hset,F'',HM1.out.of_heap (Below.heap_setCell _ _ _ _ (by simp only;omega)),m2,fun t v h=>HM3.out t v (HG7.out t v h)⟩
   case done =>
    rintro D O xs V0 hD rfl ⟨g1,g2,g3,g4,F',g5,g6,g7⟩ hDk;have HG3:=hid g3;have HW4:=hid g4;have HM5:=hid g5;have HG6:=hid g6;have HG7:=hid g7;have HDK:=hid hDk;have hDlt:=(wad.1 hDk).1;have hzw:=g4.lt;have b0v:=g3.cell b0 ⟨by simp only;omega,by simp only;omega,by simp only;omega⟩;have s0v:=g3.cell s0 ⟨by simp only;omega,by simp only;omega,by simp only;omega⟩;have s1v:=g3.cell s1 ⟨by simp only;omega,by simp only;omega,by simp only;omega⟩;have s2v:=g3.cell s2 ⟨by simp only;omega,by simp only;omega,by simp only;omega⟩;have c5v:=g3.cell c5 ⟨by simp only;omega,by simp only;exact o.p,by simp only;omega⟩;have w0:=g4.cell (j:=0) (by omega);have w1:=g4.cell (j:=1) (by omega);have w2:=g4.cell (j:=2) (by omega);have w3:=g4.cell (j:=3) (by omega);have w4:=g4.cell (j:=4) (by omega);have w5:=g4.cell (j:=5) (by omega);have hsum:=zae1 V.L.2 HSL.out;have hbd:=zajz V s (stL M s M.L);obtain⟨g,hg⟩:∃g,g=waF M s (stL M s M.L):=⟨_,rfl⟩
    rw[←hg]at w0 w1 w2 w3 w4 w5 hsum hbd;have HSUM:=hid hsum;have HBD:=hid hbd;have hzb5:W.heap.size<V0.heap.size:=by omega
    have hzs5:W.heap.size+1<V0.heap.size:=by omega
    have hzp5:p<V0.heap.size:=by omega
    clear g3 g4 g5 g6 g7 hDk hg hsum hbd b0 s0 s1 s2 c5;obtain⟨q,hq⟩:∃q,q=(g 0 == 0&&(g 1 == 0&&(g 2 == 0&&(g 3 == 0&&(g 4 == 0&&g 5 == 0))))):=⟨_,rfl⟩
    have heq6:∀W,(Op.equalIn 10000 165 (.agg #[.int .i64 (g 0),.int .i64 (g 1),.int .i64 (g 2),.int .i64 (g 3),.int .i64 (g 4),.int .i64 (g 5)]) (.agg #[.int .i64 0,.int .i64 0,.int .i64 0,.int .i64 0,.int .i64 0,.int .i64 0])).run Tryz.prog W=.ok q W:=fun W=>by
     rw[hq];exact zab6 g 9998 W
    have HQ:=hid hq;clear hq;cases q
    ·gi_wp2_with fail
     gi_loopw [10,54] (fun sv iv X=>∃k:Nat,k≤6∧sv=.int .i64 (zfn g k)∧iv=.int .i64 k∧X=V0) (fun _ iv _=>6-(intOf iv).toNat)
     case atStart=>exact⟨0,by omega,rfl,rfl,rfl⟩
     case round =>
      obtain⟨k,hk,rfl,rfl,hX⟩:=hrel;have hX:=hX.symm;subst hX
      by_cases hlt:k<6
      ·have hki:(k:Int)<6:=by omega
       have hb1:=z7w HBD.out k;have hb2:=HBD.out k;have hwk:IntKind.i64.wrap (zfn g k+g k)=zfn g (k+1):=wbh _ (by omega);have hix:∀W,(Instr.index 165 (.agg #[.int .i64 (g 0),.int .i64 (g 1),.int .i64 (g 2),.int .i64 (g 3),.int .i64 (g 4),.int .i64 (g 5)]) (.int .i64 (k:Int))).run Tryz.prog W=.ok (.int .i64 (g k)) W:=fun W=>zab7 g k hlt W
       have HSC:Hid (zfn g (k+1)=zfn g (k+1)):=hid rfl;obtain⟨S1,hS1⟩:∃S1,S1=zfn g (k+1):=⟨_,rfl⟩
       rw[←hS1]at hwk;have HS1:=hid hS1;have hk5:k≤5:=by omega
       clear hS1 hb1 hb2 heq6;gi_wp2_with fail;go_roundw
       case rel=>exact⟨k+1,by omega,by rw[HS1.out],by go_num,trivial⟩
       case measure=>simp[intOf];omega
      ·have hki:¬((k:Int)<6):=by omega
       have hke:k=6:=by omega
       subst hke;obtain⟨C,hC⟩:∃C:Int,C=zfn g 6:=⟨_,rfl⟩
       have HC0:Hid (C=(cnt M s:Int)):=hid (by rw[←HSUM.out,hC]);rw[←hC];clear hC heq6 w0 w1 w2 w3 w4 w5;gi_wp2_with fail;refine zp4 rfl rfl (by kernel_rfl) (by kernel_rfl) (by kernel_rfl) ?_
       dsimp only[List.dropLast]
       repeat (first|go_big_quiet_step (fail)|quiet_step (fail))
       refine wpQuiet_nil ?_
       rintro _ ⟨nq,rfl⟩;obtain⟨V1,hup,hg1,hz1',hm1⟩:=(HM5.out.of_heap (W':=V0.drewN nq) rfl).upd zfm s C;simp only[zai,stC,zcu]at hup;have hk1:∀S:Nat→Prop,¬S mb→Kept S V0 V1:=fun S h=>(Kept.of_below (Ext.drN (Below.refl _ V0) nq)).grown hg1 (fun k e _ hk=>by cases e;exact h hk)
       have hD1:=((hk1 (fun k=>k≠mb) (fun h=>h rfl)).same D hDlt (by omega)).trans HDK.out;have HK1:=hid hk1;have HM1:=hid hm1;clear hg1 hm1 hk1;gi_wp2_with fail;refine ze8 (B:=W.heap.size) _ _ ⟨⟨D,rfl,by omega,hD1,fun d' hd'=>by cases hd'⟩,trivial⟩ fun W' hk=>?_
       have hk2:Kept (fun k=>k≠D) V1 W':=hk.mono fun k _ h d hd e=>by
        simp only[wd0]at hd;subst hd;exact h (Target.collected.inj e).symm
       have hk5:Kept (fun k=>k<W.heap.size∧k≠mb) W W':=((((Kept.of_below HE5.out).mono fun k _ _=>trivial:Kept (fun k=>k<W.heap.size∧k≠mb) W W5).trans (HG3.out.mono fun k _ h=>⟨by omega,h.2,by omega⟩)).trans (HK1.out _ fun h=>h.2 rfl)).trans (hk2.mono fun k _ h=>by omega);have hmb1:mb<V1.heap.size:=HM1.out.lt;refine⟨.int .i64 C,by simp[results,Tryz.results64,go_sem],by rw[←HC0.out],hk5.mono fun k h1 h2=>⟨h1,h2⟩,_,HM1.out.of_heap (hk2.same mb hmb1 (by omega)),fun t v h=>?_,fun t v h=>?_,fun _=>?_⟩
       ·replace h:(if t=s then some (C:Int)else F' t)=some v:=h
        by_cases e:t=s
        ·rw[if_pos e]at h
         rw[e,←HC0.out];exact(wfo h).symm
        ·rw[if_neg e]at h
         exact HG6.out t v h
       ·show(if t=s then some (C:Int)else F' t)=some v
        by_cases e:t=s
        ·rw[e,HF.out]at h
         cases h
        ·rw[if_neg e]
         exact HG7.out t v h
       ·show(if s=s then some (C:Int)else F' s)=some (cnt M s:Int)
        rw[if_pos rfl,←HC0.out]
    ·gi_wp2_with fail
     have h0:=HQ.out;simp only[Bool.true_eq,waw,beq_iff_eq]at h0;have hs0:zfn g 6=0:=by simp only[zfn];omega
     have HC0:Hid ((0:Int)=(cnt M s:Int)):=hid (by rw[←HSUM.out,hs0]);clear h0 hs0 heq6 w0 w1 w2 w3 w4 w5;refine zp4 rfl rfl (by kernel_rfl) (by kernel_rfl) (by kernel_rfl) ?_
     dsimp only[List.dropLast]
     repeat (first|go_big_quiet_step (fail)|quiet_step (fail))
     refine wpQuiet_nil ?_
     rintro _ ⟨nq,rfl⟩;obtain⟨V1,hup,hg1,hz1',hm1⟩:=(HM5.out.of_heap (W':=V0.drewN nq) rfl).upd zfm s 0;simp only[zai,stC,zcu]at hup;have hk1:∀S:Nat→Prop,¬S mb→Kept S V0 V1:=fun S h=>(Kept.of_below (Ext.drN (Below.refl _ V0) nq)).grown hg1 (fun k e _ hk=>by cases e;exact h hk)
     have hD1:=((hk1 (fun k=>k≠mb) (fun h=>h rfl)).same D hDlt (by omega)).trans HDK.out;have HK1:=hid hk1;have HM1:=hid hm1;clear hg1 hm1 hk1;gi_wp2_with fail;refine ze8 (B:=W.heap.size) _ _ ⟨⟨D,rfl,by omega,hD1,fun d' hd'=>by cases hd'⟩,trivial⟩ fun W' hk=>?_
     have hk2:Kept (fun k=>k≠D) V1 W':=hk.mono fun k _ h d hd e=>by
      simp only[wd0]at hd;subst hd;exact h (Target.collected.inj e).symm
     have hk5:Kept (fun k=>k<W.heap.size∧k≠mb) W W':=((((Kept.of_below HE5.out).mono fun k _ _=>trivial:Kept (fun k=>k<W.heap.size∧k≠mb) W W5).trans (HG3.out.mono fun k _ h=>⟨by omega,h.2,by omega⟩)).trans (HK1.out _ fun h=>h.2 rfl)).trans (hk2.mono fun k _ h=>by omega);have hmb1:mb<V1.heap.size:=HM1.out.lt;refine⟨.int .i64 0,by simp[results,Tryz.results64,go_sem],by rw[←HC0.out],hk5.mono fun k h1 h2=>⟨h1,h2⟩,_,HM1.out.of_heap (hk2.same mb hmb1 (by omega)),fun t v h=>?_,fun t v h=>?_,fun _=>?_⟩
     ·replace h:(if t=s then some (0:Int)else F' t)=some v:=h
      by_cases e:t=s
      ·rw[if_pos e]at h
       rw[e,←HC0.out];exact(wfo h).symm
      ·rw[if_neg e]at h
       exact HG6.out t v h
     ·show(if t=s then some (0:Int)else F' t)=some v
      by_cases e:t=s
      ·rw[e,HF.out]at h
       cases h
      ·rw[if_neg e]
       exact HG7.out t v h
     ·show(if s=s then some (0:Int)else F' s)=some (cnt M s:Int)
      rw[if_pos rfl,←HC0.out]
end Go.Proofs.YtdcnbeehckgpcaaGreat
namespace Go.Proofs.YtdcnbeehckgpcaaGreat
open Go.Lib (hid)
open Go.RowKit
theorem zky(w:World)(N:Nat)(hN:N≤1000000):∃w',(Instr.makeSlice 22 (.int .i64 (N:Int)) (.int .i64 (N:Int))).run Tryz.prog w=.ok (.slice (some ⟨w.heap.size,0,none⟩) N N) w'∧zbj w' w.heap.size N (fun _=>0)∧Ext w w':=by
 obtain⟨i,z,hi,hz,hsi,hby,hzs⟩:=zgc.info;have hz0:z=.int .i64 0:=by
  have h1:(Tryz.prog.info? 3).map (fun i=>i.zero)=some (some (.int .i64 0)):=by kernel_rfl
  rw[hi]at h1;simp[hz]at h1;exact h1
 subst hz0;obtain⟨w',hrun,hown,hg⟩:=run_makeSlice_full (P:=Tryz.prog) w w.heap.size 22 3 i (.int .i64 0) 1 zgc.und hi hz hsi .i64 .i64 N (by omega) (by have:=wez hby hN;omega) (by simp[maxLen];omega) (weq _);rw[Nat.mul_one]at hown;obtain⟨cur,hc,hI⟩:=zab3 hown;exact⟨w',hrun,⟨cur,hc,by rw[hI.size];omega,fun j hj=>hI.at_ j hj⟩,(Below.refl _ w).grown hg (weq _) fun k hk=>by cases hk⟩
theorem zbj.extb{W W':World}{g n:Nat}{f:Nat→Int}(h:zbj W g n f)(e:Ext W W'):zbj W' g n f:=h.of_heap (e.block _ h.lt)
end Go.Proofs.YtdcnbeehckgpcaaGreat
namespace Go.Proofs.YtdcnbeehckgpcaaGreat
open Go.Lib (hid)
open Go.RowKit Go.Shelf
attribute [local go_sem] Oper.semAt_some
def zkl(x:Int)(k j:Nat):Int:=if j<k then x else 0
theorem z3v(w:World)(g n k m sLen dLen dCap sCap:Nat)(x:Int)(a:Addr)(ty:TypeId)(hN:zbj w g n (zkl x k))(hm:m=Nat.min sLen dLen)(hkm:k+m≤n)(hsrc:∀j,j<m→w.cell? (a.add j)=some (.int .i64 x)) :
  ∃w',(Builtin.copy_ #[22,22] ty #[.slice (some ⟨g,k,none⟩) dLen dCap,.slice (some a) sLen sCap]).run Tryz.prog w=.ok (.int .i64 (m:Int)) w'∧Kept (fun b=>b≠g) w w'∧zbj w' g n (zkl x (k+m)):=by
 obtain⟨cur,h1,h2,h3⟩:=hN;obtain⟨cs,hcs⟩:∃cs,cs=List.replicate m (Value.int .i64 x):=⟨_,rfl⟩
 have hlen:cs.length=m:=by rw[hcs,wdb]
 have hr:=run_copy_row (P:=Tryz.prog) w 22 22 ty 3 g k dLen dCap a sLen sCap cur 3 cs zgc.und (by kernel_rfl) h1 (by rw [hlen,hm]) (fun j v hj=>by
   have hjm:j<m:=by
    have:=(wcp.1 hj).1;omega
   rw [hcs,wcs,if_pos hjm] at hj;cases hj;exact hsrc j hjm) (by omega) (fun v hv=>by
   rw[hcs]at hv;rw[List.eq_of_mem_replicate hv];rfl)
 have hg:goInt cs.length=.int .i64 (m:Int):=by rw[hlen];rfl
 rw[hg]at hr;refine⟨_,hr,⟨rfl,rfl,rfl,by simp[World.setRow],fun b _ hne=>setRow_other w g b _ hne⟩,_,setRow_heap w g _ _ _ _ h1,?_,fun j hj=>?_⟩
 ·simp only[wd7,wc3,wdd,wc5,wah];omega
 ·have h4:=h3 j hj
  unfold zkl at h4 ⊢;have hc:j<cur.size:=by omega
  rw[wcu]
  by_cases hjk:j<k
  ·rw[wbm,wcj (by rw[wdd,wah];omega),List.getElem?_take_of_lt hjk,wag,h4,if_pos hjk,if_pos (by omega)]
  ·have hlt:(cur.toList.take k).length=k:=by rw[wdd,wah];omega
   by_cases hjm:j<k+m
   ·rw[wbm,wck (by omega),hlt,wcj (by omega),hcs,wcs,if_pos (by omega),if_pos hjm]
   ·rw[wck (by rw[wc3];omega),wc3,hlt,hlen,wcm,wag,show k+m+(j-(k+m))=j by omega,h4,if_neg hjk,if_neg hjm]
theorem zae2{w:World}{g n:Nat}{x:Int}(h:zbj w g n (zkl x n))(hn:n≤1000):zo w .i64 (.slice (some ⟨g,0,none⟩) n n) (List.replicate n x):=by
 have hi:=zo.mk (w:=w) (k:=.i64) (l:=List.replicate n x) (b:=g) (off:=0) (cap:=n) (by simp) (by omega) fun i hi=>by
  rw[wdb]at hi;have:=h.cell i hi;unfold zkl at this;rw[if_pos hi]at this;rw[wfc,this,List.getElem_replicate]
 rw[wdb]at hi;exact hi
theorem z9v(x:Int)(n:Nat)(hn:1≤n∧n≤1000)(b:Nat)(w:World)(hx:w.cell? ⟨b,0,none⟩=some (.int .i64 x)) :
  Calls Tryz.prog 101 #[.slice (some ⟨b,0,none⟩) 1 1,.int .i64 n] w fun e w'=>∃g,e=.returned (.slice (some ⟨g,0,none⟩) n n)∧Ext w w'∧w.heap.size≤g∧zo w' .i64 (.slice (some ⟨g,0,none⟩) n n) (List.replicate n x):=by
 have hzb:=wfu _ _ hx;simp only at hzb;have hn0:¬((n:Int)<0):=by omega
 have hnb:¬((9223372036854775807:Int)<(n:Int)):=by omega
 have hmul:=Tryz.bits_Mul 1 n (by omega) (by omega) w;have e1:1*n / 18446744073709551616=0:=by rw[Nat.one_mul];exact Nat.div_eq_of_lt (by omega)
 have e2:1*n%18446744073709551616=n:=by rw[Nat.one_mul];exact wew (by omega)
 rw[e1,e2]at hmul;have HMUL:=hid hmul;have HX:=hid hx;have hwn:IntKind.u64.wrap (n:Int)=(n:Int):=by rw[IntKind.wrap_u64];omega
 clear hmul e1 e2 hx
 go_enter Tryz.func101,Tryz.ntmps101
 go_wp2_with fail;refine HMUL.out.mono ?_
 rintro e W1 ⟨rfl,hW1⟩;subst hW1;obtain⟨W2,hmk,hN2,hE2⟩:=zky W1 n (by omega);have hN20:zbj W2 W1.heap.size n (zkl x 0):=by
  have:(fun _=>0)=zkl x 0:=funext fun j=>by simp[zkl]
  rw[←this];exact hN2
 obtain ⟨W3,hcp,hk3,hN3⟩:=z3v W2 W1.heap.size n 0 1 1 n n 1 x ⟨b,0,none⟩ 3 hN20 (Nat.min_eq_left (show 1≤n by omega)).symm (by omega) (fun j hj=>by
  have:j=0:=by omega
  subst this;exact zh hE2 HX.out)
 have HE2:=hid hE2;have HK3:=hid hk3;have HN3:=hid hN3;clear hN2 hN20 hE2 hk3 hN3;have HEW3:Hid (Ext W1 W3):=hid (Below.trans HE2.out (Kept.below (HK3.out.mono fun k _ h=>by omega) HE2.out.size));have hz3:W1.heap.size<W3.heap.size:=HN3.out.lt;go_wp2_with fail
 go_loopw [8] (fun iv W=>∃k:Nat,1≤k∧k≤n∧iv=.int .i64 k∧zbj W W1.heap.size n (zkl x k)∧Ext W1 W) (fun iv _=>n-(intOf iv).toNat)
 case atStart=>exact⟨1,by omega,by omega,rfl,HN3.out,HEW3.out⟩
 case round =>
  obtain⟨k,hk1,hk,rfl,hN,hE⟩:=hrel;obtain⟨X,rfl⟩:∃X,X=wr:=⟨_,rfl⟩
  have HN:=hid hN;have HE:=hid hE;have hXz:=hN.lt;clear hN hE hmk hcp
  by_cases hlt:k<n
  ·have hki:(k:Int)<(n:Int):=by omega
   obtain⟨m,hm⟩:∃m,m=Nat.min k (n-k):=⟨_,rfl⟩
   have hm1:1≤m∧k+m≤n:=by
    rw[hm];have h1:Nat.min k (n-k)≤n-k:=Nat.min_le_right k (n-k);have h2:1≤Nat.min k (n-k):=Nat.le_min.2 ⟨hk1,by omega⟩;omega
   have HM:=hid hm;have hsl:((k:Int)≤(n:Int)):=by omega
   have hwk:IntKind.i64.wrap ((k:Int)+(m:Int))=((k+m:Nat):Int):=by rw[wbh _ (by omega)];omega
   clear hm;have hnk:¬(n=k):=by omega
   go_wp2_with fail;refine zf9 rfl rfl (by kernel_rfl) (W1.heap.size) (by omega)
    [sqV (.int .i64 k),sqV (.slice (some ⟨W1.heap.size,0,none⟩) n n),sqV (.int .i64 k),sqV (.slice (some ⟨W1.heap.size,k,none⟩) (n-k) (n-k)),sqV (.slice (some ⟨W1.heap.size,0,none⟩) n n),sqV (.int .i64 k),sqV (.slice (some ⟨W1.heap.size,0,none⟩) k n),sqW (fun v W=>v=.int .i64 (m:Int)∧zbj W W1.heap.size n (zkl x (k+m))) (fun _ _ _ ⟨h1,h2⟩ e=>⟨h1,h2.extb e⟩),sqV (.int .i64 ((k+m:Nat):Int))]
    [true,true,true,true,true,true,true,false,true] [false,false,false,false,false,false,false,true,false] [true,true,true,true,true,true,true,true,true] [false,true,true,true,true,true,true,true,false]
    (by kernel_rfl) (by kernel_rfl) (by decide +kernel) (by decide +kernel) (by decide +kernel) rfl ⟨rfl,rfl⟩ ⟨?s0,?s1,?s2,?s3,?s4,?s5,?s6,?s7,?s8,trivial⟩ [some 38,some 39,some 40,some 41,some 42,some 43,some 44,some 45,some 46] rfl rfl ?send
   case s0 =>
    intro f g W b e d a c;have o0:g (.tmp 8)=.int .i64 k:=a.old 8 (by decide);exact ze (by simp[execOp,o0,go_sem]) rfl
   case s1 =>
    intro f g W b e d a c;have o0:g (.tmp 7)=.slice (some ⟨W1.heap.size,0,none⟩) n n:=a.old 7 (by decide);exact ze (by simp[execOp,o0,go_sem]) rfl
   case s2 =>
    intro f g W b e d a c;have o0:g (.tmp 8)=.int .i64 k:=a.old 8 (by decide);exact ze (by simp[execOp,o0,go_sem]) rfl
   case s3 =>
    intro f g W b e d a c;have d1:g (.tmp 39)=.slice (some ⟨W1.heap.size,0,none⟩) n n:=dpv a d 1 39;have d2:g (.tmp 40)=.int .i64 k:=dpv a d 2 40;exact ze (by simp[execOp,d1,d2,hsl,hnk,go_sem]) rfl
   case s4 =>
    intro f g W b e d a c;have o0:g (.tmp 7)=.slice (some ⟨W1.heap.size,0,none⟩) n n:=a.old 7 (by decide);exact ze (by simp[execOp,o0,go_sem]) rfl
   case s5 =>
    intro f g W b e d a c;have o0:g (.tmp 8)=.int .i64 k:=a.old 8 (by decide);exact ze (by simp[execOp,o0,go_sem]) rfl
   case s6 =>
    intro f g W b e d a c;have d4:g (.tmp 42)=.slice (some ⟨W1.heap.size,0,none⟩) n n:=dpv a d 4 42;have d5:g (.tmp 43)=.int .i64 k:=dpv a d 5 43;exact ze (by simp[execOp,d4,d5,hsl,go_sem]) rfl
   case s7 =>
    intro g i W b f d a c;have hW:=c (by decide);have d3:i (.tmp 41) = .slice (some ⟨W1.heap.size,k,none⟩) (n - k) (n - k):=dpv a d 3 41;have d6:i (.tmp 44) = .slice (some ⟨W1.heap.size,0,none⟩) k n:=dpv a d 6 44;clear d;have hN:=HN.out.extb hW;obtain ⟨W4,hrun,hk4,hN4⟩:=z3v W W1.heap.size n k m k (n - k) (n - k) n x ⟨W1.heap.size,0,none⟩ 3 hN HM.out hm1.2 (fun j hj=>by
     rw[addr_add];have hjk:j<k:=by
      have h1:=HM.out;have h2:Nat.min k (n-k)≤k:=Nat.min_le_left k (n-k);omega
     have:=hN.cell j (by omega);unfold zkl at this;rw[if_pos hjk]at this;rw[wfc];exact this)
    refine zgi (v:=.int .i64 (m:Int)) (W':=W4) ?_ (Kept.below (hk4.mono fun k _ h e=>by omega) (by omega)) ⟨rfl,hN4⟩;unfold execOp;simp only[resolve,invoke,builtin,wfr,wfs,wfq,wdl,wdg,wdj,d3,d6,hrun]
   case s8 =>
    intro f g W b e d a c;have d0:g (.tmp 38)=.int .i64 k:=dpv a d 0 38;obtain⟨h7,-⟩:f 7=.int .i64 (m:Int)∧zbj W W1.heap.size n (zkl x (k+m)):=d 7 (by decide);have d7:g (.tmp 45)=.int .i64 (m:Int):=(a.dep 7 (by decide) 45 rfl).trans h7;exact zgi (W':=W) (v:=.int .i64 ((k+m:Nat):Int)) (by simp only[wbc]at hwk ⊢;simp[execOp,d0,d7,hwk,go_sem]) (Below.refl _ _) rfl
   case send =>
    intro val Y hE hzz hv;obtain⟨-,-,-,-,-,-,-,⟨-,hN4⟩,r8,-⟩:=hv;have q8:val 8=.int .i64 ((k+m:Nat):Int):=r8;have HN4:=hid hN4;have HE4:Hid (Ext W1 Y):=hid (Below.trans HE.out hE);simp only[za9,q8];go_frame;have hkm:1≤k+m∧k+m≤n:=by omega
    clear hE hzz r8 q8 hN4 hwk;go_wp2_with fail;go_roundw
    case rel=>exact⟨k+m,by omega,by omega,rfl,HN4.out,HE4.out⟩
    case measure=>simp[intOf];omega
  ·have hki:¬((k:Int)<(n:Int)):=by omega
   have hkn:k=n:=by omega
   have HI:Hid (zo X .i64 (.slice (some ⟨W1.heap.size,0,none⟩) n n) (List.replicate n x)):=hid (zae2 (by have:=HN.out;rwa [hkn]at this) (by omega));clear hkn;go_wp2_with fail;go_ret;exact⟨_,rfl,HE.out,weq _,HI.out⟩
section
variable{K V:Type}[DecidableEq K]
theorem z7x {es:za3 K V}(ho:zdr es){e:K×V×Nat}(he:e∈es):zd3 es e.1=some e.2.1:=by
 unfold zd3;cases hf:es.find? fun x=>decide (x.1=e.1)with
 |none =>
  rw[wb9]at hf;have:=hf e he;simp at this
 |some x =>
  have h1:=wca hf;have h2:=wdx hf;simp only[decide_eq_true_eq]at h1;have:x=e:=zj8 _ es ho x h2 e he h1;rw[this];rfl
theorem z3w{es:za3 K V}{k:K}{v:V}(h:zd3 es k=some v):∃e∈es,e.1=k∧e.2.1=v:=by
 unfold zd3 at h;obtain⟨e,h1,h2⟩:=wfm.1 h;have h3:=wca h1;simp only[decide_eq_true_eq]at h3;exact⟨e,wdx h1,h3,h2⟩
end
def zan(W:World)(mb:Nat)(M:zl):Prop:=∃F,zbo zai zcu W mb F∧znf M F∧F ts0=some (cnt M ts0:Int)
theorem zan.of_heap{W W':World}{mb:Nat}{M:zl}(h:zan W mb M)(e:W'.heap[mb]?=W.heap[mb]?):zan W' mb M:=by
 obtain⟨F,h1,h2,h3⟩:=h;exact⟨F,h1.of_heap e,h2,h3⟩
theorem zan.lt{W:World}{mb:Nat}{M:zl}(h:zan W mb M):mb<W.heap.size:=by
 obtain⟨F,h1,-⟩:=h;exact h1.lt
def z9w(M:zl)(ka:Option Addr)(kc:Nat)(w:World)(e:Ending)(w':World):Prop :=
 ∃p mb sa sc,e=.returned (.pointer (some ⟨p,0,none⟩))∧Ext w w'∧w.heap.size≤p∧w.heap.size≤mb∧zbm w' p M ka sa kc sc mb∧zqa p ka sa mb∧zan w' mb M
structure zi0(es es':za3 TSt Int):Prop where
 sub:es'.Sublist es
 st:∀e∈es,e.1=ts0→e∈es'
theorem zi0.del{es es':za3 TSt Int}(h:zi0 es es'){k:TSt}(hk:k≠ts0):zi0 es (zgj k es'):=by
 unfold zgj;refine⟨wb7.trans h.sub,fun e he h0=>wds.2 ⟨h.st e he h0,?_⟩⟩;simp only[ne_eq,decide_eq_true_eq];intro e1;exact hk (e1.symm.trans h0)
theorem zi0.once{es es':za3 TSt Int}(h:zi0 es es')(ho:zdr es):zdr es':=wbi (wbj _ h.sub) ho
theorem zi0.borns{es es':za3 TSt Int}{c:Nat}(h:zi0 es es')(hb:zd8 es c):zd8 es' c:=⟨wbi (wbj _ h.sub) hb.1,fun e he=>hb.2 e (h.sub.subset he)⟩
theorem zi0.map{W:World}{mb c:Nat}{M:zl}{es es':za3 TSt Int}{F:TSt→Option Int}(h:zi0 es es')(hm:IsMap zai zcu W mb es' c)(ho:zdr es)(hb:zd8 es c)(hg:∀k,zd3 es k=F k)(hr:znf M F)(h0:F ts0=some (cnt M ts0:Int)):zan W mb M:=by
 refine⟨fun k=>zd3 es' k,⟨es',c,hm,h.once ho,h.borns hb,fun _=>rfl⟩,fun s v hv=>?_,?_⟩
 ·obtain⟨e,he,rfl,rfl⟩:=z3w hv
  exact hr _ _ (by rw[←hg];exact z7x ho (h.sub.subset he))
 ·obtain⟨e,he,h1,h2⟩:=z3w ((hg ts0).trans h0)
  have:=z7x (h.once ho) (h.st e he h1);rw[h1,h2]at this;exact this
theorem zi1(M:zl)(V:zag M)(ka sa:Option Addr)(kc sc:Nat)(w:World)(hk:zo w .i64 (.slice ka M.n kc) (zy M.ks))(hs:zo w .i64 (.slice sa M.n sc) (zy M.ss)) :
  Calls Tryz.prog 52 #[.agg #[.int .i64 M.L,.int .i64 M.n,.slice ka M.n kc,.int .i64 M.rest],.slice sa M.n sc] w (z9w M ka kc w):=by
 have hmm:=@run_makeMap Tryz.prog;have HK:=hid hk;have HS:=hid hs;obtain⟨sb,so,rfl,hsc⟩:=za7 hs (i:=0) (by have:=V.sl;have:=V.n;omega);obtain⟨kb,ko,rfl,hkc⟩:=za7 hk (i:=0) (by have:=V.kl;have:=V.n;omega);have hzs:=wfu _ _ (hsc 0 (by have:=V.sl;have:=V.n;omega) w (Below.refl _ _));have hzk:=wfu _ _ (hkc 0 (by have:=V.kl;have:=V.n;omega) w (Below.refl _ _));simp only at hzs hzk;clear hk hs hsc hkc;have heq:∀W,(binOp .eql 22 (.slice (some ⟨sb,so,none⟩) M.n sc) (.slice none 0 0)).run Tryz.prog W=.ok (.bool false) W:=fun W=>Lib.run_eql_slice_nil W 22 3 _ _ _ _ _ zgc.und
 go_enter Tryz.func52,Tryz.ntmps52
 go_upto_region 4 with(fail);obtain⟨W0,hW0⟩:∃W0,W0=((w.alloc (.cells #[.int .i64 M.L,.int .i64 M.n,.slice (some ⟨kb,ko,none⟩) M.n kc,.int .i64 M.rest] 24)).alloc (.map #[] 0)).alloc (.cells #[.int .i64 M.L,.int .i64 M.n,.slice (some ⟨kb,ko,none⟩) M.n kc,.int .i64 M.rest,.slice (some ⟨sb,so,none⟩) M.n sc,.map (some (w.heap.size+1))] 95):=⟨_,rfl⟩
 have hE0:Ext w W0:=by rw[hW0];exact xx
 have hma:zbm W0 (w.heap.size+1+1) M (some ⟨kb,ko,none⟩) (some ⟨sb,so,none⟩) kc sc (w.heap.size+1):=by
  refine⟨?_,?_,?_,?_,?_,?_,HK.out.ext hE0,HS.out.ext hE0⟩<;>(rw[hW0];simp[go_sem])
 have hmp:zbo zai zcu W0 (w.heap.size+1) (fun _=>none):=by
  have h1:=zr9 (ke:=zai) (ve:=zcu) (w.alloc (.cells #[.int .i64 M.L,.int .i64 M.n,.slice (some ⟨kb,ko,none⟩) M.n kc,.int .i64 M.rest] 24));rw[wfx]at h1;rw[hW0];exact h1.ext (by exact xx)
 have hz0:W0.heap.size=w.heap.size+3:=by rw[hW0];simp
 have hmm2:zqa (w.heap.size+1+1) (some ⟨kb,ko,none⟩) (some ⟨sb,so,none⟩) (w.heap.size+1):=⟨by omega,fun b off e=>by cases e;omega,fun b off e=>by cases e;omega⟩
 rw[←hW0];clear hW0 hmm heq;obtain⟨mb,hmb⟩:∃mb,mb=w.heap.size+1:=⟨_,rfl⟩
 rw[←hmb]at hma hmp hmm2 ⊢;obtain⟨p,hp⟩:∃p,p=mb+1:=⟨_,rfl⟩
 rw[←hp]at hma hmm2 ⊢;have HOFF:=hid hmm2;have HMA:=hid hma;have HMP:=hid hmp;have HE0:=hid hE0;have hmbz:w.heap.size≤mb∧mb<p∧p<W0.heap.size:=by omega
 obtain⟨hmb1,hmp1,hpz1⟩:=hmbz;clear hE0 hma hmp hmm2 hmb hp hz0;go_wp2_with fail;refine(zfl W0).mono ?_
 rintro e W1 ⟨rfl,hE1⟩;have hfr:=callsIn_wide.1 (zze M V p mb _ _ kc sc HOFF.out (M.n-ts0.at_) ts0 (fun _=>none) W1 (z9u V) rfl (HMA.out.ext hE1) (HMP.out.ext hE1) (fun _ _ h=>by cases h));have HFR:=hid hfr;have HE1:=hid hE1;have hzz1:=hE1.size;clear hfr hE1;go_wp2_with fail;refine HFR.out.mono ?_
 rintro e W2 ⟨rfl,hk2,F',hmap,hrf,-,hf0⟩;have c5:=hk2.cell (zh HE1.out HMA.out.c5) HOFF.out.p;have hzz2:=hk2.size;have HRF:=hid hrf;have HF0:=hid (hf0 (by have:=V.n;simp only[ts0];omega));have HK2:=hid hk2;have hzp:p<W2.heap.size:=by omega
 have hpm:p≠mb:=by omega
 have hfin:∀X,Kept (fun k=>k≠mb∧k≠W2.heap.size) W2 X→zan X mb M→z9w M (some ⟨kb,ko,none⟩) kc w (.returned (.pointer (some ⟨p,0,none⟩))) X:=fun X hk hm=>by
  have hk3:Kept (fun k=>k≠mb∧k<W2.heap.size) W1 X:=(hk2.mono fun k _ h=>h.1).trans (hk.mono fun k _ h=>⟨h.1,by omega⟩);refine⟨p,mb,some ⟨sb,so,none⟩,sc,rfl,?_,by omega,hmb1,(HMA.out.ext HE1.out).kept HOFF.out hk3 fun b h1 h2=>⟨h2,by omega⟩,HOFF.out,hm⟩;exact Below.trans (HE0.out.trans' HE1.out) (Kept.below (hk3.mono fun k _ h=>⟨by omega,by omega⟩) (HE0.out.trans' HE1.out).size)
 have HFIN:=hid hfin;clear hk2 hrf hf0 hfin;obtain⟨es,c,hm1,ho,hbn,hget⟩:=hmap;have hrg:=zr4 zfm hm1;have HM1:=hid hm1;have HO:=hid ho;have HBN:=hid hbn;have HGET:=hid hget;have hmz2:mb<W2.heap.size:=(wad.1 hm1).1;clear hm1 ho hbn hget;go_wp2_with fail;clear hrg
 go_loopw [35] (fun _ W=>∃(seen:Array Nat) (es':za3 TSt Int),IsMap zai zcu W mb es' c∧zi0 es es'∧W.heap[W2.heap.size]?=some (.mapIter (some mb) c seen c)∧Kept (fun k=>k≠mb∧k≠W2.heap.size) W2 W)
  (fun _ W=>zh1 es W2.heap.size W)
 case atStart =>
  exact⟨#[],es,(Below.heap_alloc _ _ _ hmz2).trans HM1.out,⟨List.Sublist.refl _,fun _ h _=>h⟩,World.alloc_heap_new _ _,(Kept.of_below (by exact xx))⟩
 case round =>
  obtain⟨seen,es',hm1,hle,hit,hkp⟩:=hrel;obtain⟨X,rfl⟩:∃X,X=wr:=⟨_,rfl⟩
  have hkX:Kept (fun k=>k<W2.heap.size∧k≠mb) W2 X:=hkp.mono fun k _ h=>⟨h.2,by omega⟩
  have c5x:=hkX.cell c5 ⟨by simp only;omega,by simp only;omega⟩;have hzc:=wfu _ _ c5x;simp only at hzc;have hzi:=(wad.1 hit).1;have hzm:=(wad.1 hm1).1
  rcases zv3 (P:=Tryz.prog) hm1 hit (fun e he=>(hle.borns HBN.out).2 e he)with⟨-,hrun⟩|⟨e,he,hs,X2,hheap,hos,htape,hout,hrun⟩
  ·have HMC:=hid (hle.map hm1 HO.out HBN.out HGET.out HRF.out HF0.out)
   have HKP:=hid hkp;clear hm1 hle hit hkp hkX;go_wp2_with fail;go_ret;exact HFIN.out X HKP.out HMC.out
  ·have hmem:=hle.sub.subset he
   have hg2:X.grownBy X2 (some W2.heap.size):=⟨hos,htape,hout,by rw[hheap];simp,fun k hk hne=>by rw[hheap];exact World.putObj_heap_other (fun e=>hne (by rw[e]))⟩
   have hk2:Kept (fun k=>k≠W2.heap.size) X X2:=(Kept.refl _ X).grown hg2 (fun k e _ hk=>by cases e;exact hk rfl);have hm2:IsMap zai zcu X2 mb es' c:=(hk2.same _ hzm (by omega)).trans hm1;have hit2:X2.heap[W2.heap.size]?=some (.mapIter (some mb) c (seen.push e.2.2) c):=by rw[hheap];exact World.putObj_heap_same hzi
   have hen:=zr5 (P:=Tryz.prog) hm2 hit2 he (hle.borns HBN.out).1;have hun:=zv4 hmem hs;have hun2:∀W',W'.heap[W2.heap.size]?=X2.heap[W2.heap.size]?→zh1 es W2.heap.size W'<zh1 es W2.heap.size X:=fun W' hW'=>by
    unfold zh1;rw[hW',hit2,hit];exact hun
   have hk9:Kept (fun k=>k≠mb∧k≠W2.heap.size) W2 X2:=hkp.trans (hk2.mono fun k _ h=>h.2);have c5y:=hk2.cell c5x (by simp only;omega);have hz29:=hk2.size;have HUN2:=hid hun2;have HM2:=hid hm2;have HIT2:=hid hit2;have HK9:=hid hk9;have HLE:=hid hle;have HE:=hid he;clear hm1 hle hit hkp he hs hheap hos htape hout hmem hg2 hk2 hm2 hit2 hun hun2 hk9 hkX c5x;simp only[zai,stC,zcu]at hrun hen;obtain⟨k,v,bo⟩:=e;simp only at hrun hen HE HUN2 HIT2;obtain⟨X3,hX3⟩:∃X3,X2.alloc (.cells #[.int .i64 k.at_,.int .i64 k.last,.int .i64 k.sum] 97)=X3:=⟨_,rfl⟩
   have hE3:Ext X2 X3:=by rw[←hX3];exact xx
   have hst3:zbl X3 X2.heap.size k:=by rw[←hX3];exact World.alloc_heap_new X2 _
   have HX3:=hid hX3;have HE3:=hid hE3;have hb2:=(wad.1 HIT2.out).1;have hbm:=(wad.1 HM2.out).1;have hM3:IsMap zai zcu X3 mb es' c:=(hE3.block _ hbm).trans HM2.out;have HM3:=hid hM3;have c5z:=zh hE3 c5y;have s0:=hst3.c0;have s1:=hst3.c1;have s2:=hst3.c2;have hz3:=hst3.lt;have hzp3:p<X3.heap.size:=by omega
   clear hE3 hst3 hM3 hX3 c5y;go_upto_region 8 with(fail);rw[HX3.out];have hes:∀W,(Op.equalIn 10000 97 (.agg #[.int .i64 k.at_,.int .i64 k.last,.int .i64 k.sum]) (.agg #[.int .i64 0,.int .i64 (-1),.int .i64 0])).run Tryz.prog W=.ok (decide (k=ts0)) W:=fun W=>zse k ts0 W
   by_cases hv0:v=0
   ·subst hv0
    by_cases hks:k=ts0
    ·rw[decide_eq_true hks]at hes
     clear hks;refine zau (X3.heap.size) (weq _)
      [sqV (.int .i64 0),sqV (.bool true),sqV (.bool true),sqV (.agg #[.int .i64 k.at_,.int .i64 k.last,.int .i64 k.sum]),sqV (.agg #[.int .i64 0,.int .i64 (-1),.int .i64 0]),sqV (.bool false),sqV (.bool false)]
      [true,true,true,true,true,true,true] [false,false,false,false,false,false,false] [true,true,true,true,true,true,true] [true,true,true,true,true,true,true] [true,true,true,true,true,true,true] [none,some true,some true,none,none,some false,some false]
      (by kernel_rfl) (by kernel_rfl) (by decide +kernel) ⟨fun _ _ _ h=>h,⟨fun _ _ _ h=>h,⟨fun _ _ _ h=>h,⟨fun _ _ _ h=>h,trivial⟩⟩⟩⟩ (by decide +kernel) (by decide +kernel) (by decide +kernel) rfl ⟨rfl,rfl,rfl⟩ ⟨?s0,?s1,?s2,?s3,?s4,?s5,?s6,trivial⟩ [some 39,some 40,some 41,some 42,some 43,some 44,some 45] rfl rfl ?send
     case s0 =>
      intro f g W b e d h a c;have o0:g (.tmp 7)=.int .i64 0:=a.old 7 (by decide);exact ze (by simp[execOp,o0,go_sem]) rfl
     case s1 =>
      intro f g W b e d h a c;have d0:g (.tmp 39)=.int .i64 0:=dpv a d 0 39;exact ze (by simp[execOp,a.const,d0,go_sem]) rfl
     case s2 =>
      intro f g W b e d h a c;have d1:g (.tmp 40)=.bool true:=dpv a d 1 40;exact ze (by simp[execOp,d1,go_sem]) rfl
     case s3 =>
      intro f g W b e d h a c;have o0:g (.tmp 6)=.pointer (some ⟨X2.heap.size,0,none⟩):=a.old 6 (by decide);have f_s0:=cell_below b (by simp only;omega) s0;have f_s1:=cell_below b (by simp only;omega) s1;have f_s2:=cell_below b (by simp only;omega) s2;exact ze (by simp[execOp,o0,f_s0,f_s1,f_s2,go_sem]) rfl
     case s4 =>
      intro g h W b f d i a c;clear d i;refine zbx 54 _ _ rfl #[] (a.func _) (by simp[]) (fun args W=>Tryz.call54 args W) ((zfl W).mono ?_);rintro e w' ⟨rfl,hb⟩;exact⟨_,rfl,hb,rfl⟩
     case s5 =>
      intro f g W b e d h a c;have d3:g (.tmp 42)=.agg #[.int .i64 k.at_,.int .i64 k.last,.int .i64 k.sum]:=dpv a d 3 42;have d4:g (.tmp 43)=.agg #[.int .i64 0,.int .i64 (-1),.int .i64 0]:=dpv a d 4 43;exact ze (by simp[execOp,d3,d4,hes,go_sem]) rfl
     case s6 =>
      intro f g W b e d h a c;have d2:g (.tmp 41)=.bool true:=dpv a d 2 41;have d5:g (.tmp 44)=.bool false:=dpv a d 5 44;exact ze (by simp[execOp,a.const,d2,d5,go_sem]) rfl
     case send =>
      intro val Y hE hzz hv;obtain⟨-,-,-,-,-,-,r6,-⟩:=hv;have q6:val 6=.bool false:=r6;simp only[za9,q6];go_frame;have hE:Ext X3 Y:=hE;have HEY:=hid (HE3.out.trans' hE);clear hE hzz r6 q6 s0 s1 s2 c5z;go_wp2_with fail;go_roundw
      case rel=>exact⟨_,es',(HEY.out.block _ hbm).trans HM2.out,HLE.out,(HEY.out.block _ hb2).trans HIT2.out,HK9.out.trans (Kept.of_below HEY.out)⟩
      case measure=>exact HUN2.out _ (HEY.out.block _ hb2)
    ·rw[decide_eq_false hks]at hes
     have HKS:=hid hks;clear hks;refine zau (X3.heap.size) (weq _)
      [sqV (.int .i64 0),sqV (.bool true),sqV (.bool true),sqV (.agg #[.int .i64 k.at_,.int .i64 k.last,.int .i64 k.sum]),sqV (.agg #[.int .i64 0,.int .i64 (-1),.int .i64 0]),sqV (.bool true),sqV (.bool true)]
      [true,true,true,true,true,true,true] [false,false,false,false,false,false,false] [true,true,true,true,true,true,true] [true,true,true,true,true,true,true] [true,true,true,true,true,true,true] [none,some true,some true,none,none,some true,some true]
      (by kernel_rfl) (by kernel_rfl) (by decide +kernel) ⟨fun _ _ _ h=>h,⟨fun _ _ _ h=>h,⟨fun _ _ _ h=>h,⟨fun _ _ _ h=>h,trivial⟩⟩⟩⟩ (by decide +kernel) (by decide +kernel) (by decide +kernel) rfl ⟨rfl,rfl,rfl⟩ ⟨?s0,?s1,?s2,?s3,?s4,?s5,?s6,trivial⟩ [some 39,some 40,some 41,some 42,some 43,some 44,some 45] rfl rfl ?send
     case s0 =>
      intro f g W b e d h a c;have o0:g (.tmp 7)=.int .i64 0:=a.old 7 (by decide);exact ze (by simp[execOp,o0,go_sem]) rfl
     case s1 =>
      intro f g W b e d h a c;have d0:g (.tmp 39)=.int .i64 0:=dpv a d 0 39;exact ze (by simp[execOp,a.const,d0,go_sem]) rfl
     case s2 =>
      intro f g W b e d h a c;have d1:g (.tmp 40)=.bool true:=dpv a d 1 40;exact ze (by simp[execOp,d1,go_sem]) rfl
     case s3 =>
      intro f g W b e d h a c;have o0:g (.tmp 6)=.pointer (some ⟨X2.heap.size,0,none⟩):=a.old 6 (by decide);have f_s0:=cell_below b (by simp only;omega) s0;have f_s1:=cell_below b (by simp only;omega) s1;have f_s2:=cell_below b (by simp only;omega) s2;exact ze (by simp[execOp,o0,f_s0,f_s1,f_s2,go_sem]) rfl
     case s4 =>
      intro g h W b f d i a c;clear d i;refine zbx 54 _ _ rfl #[] (a.func _) (by simp[]) (fun args W=>Tryz.call54 args W) ((zfl W).mono ?_);rintro e w' ⟨rfl,hb⟩;exact⟨_,rfl,hb,rfl⟩
     case s5 =>
      intro f g W b e d h a c;have d3:g (.tmp 42)=.agg #[.int .i64 k.at_,.int .i64 k.last,.int .i64 k.sum]:=dpv a d 3 42;have d4:g (.tmp 43)=.agg #[.int .i64 0,.int .i64 (-1),.int .i64 0]:=dpv a d 4 43;exact ze (by simp[execOp,d3,d4,hes,go_sem]) rfl
     case s6 =>
      intro f g W b e d h a c;have d2:g (.tmp 41)=.bool true:=dpv a d 2 41;have d5:g (.tmp 44)=.bool true:=dpv a d 5 44;exact ze (by simp[execOp,a.const,d2,d5,go_sem]) rfl
     case send =>
      intro val Y hE hzz hv;obtain⟨-,-,-,-,-,-,r6,-⟩:=hv;have q6:val 6=.bool true:=r6;simp only[za9,q6];go_frame;have hE:Ext X3 Y:=hE;have HEY:=hid (HE3.out.trans' hE);have HMY:Hid (IsMap zai zcu Y mb es' c):=hid ((hE.block _ (wad.1 HM3.out).1).trans HM3.out);replace s0:=zh hE s0;replace s1:=zh hE s1;replace s2:=zh hE s2;replace c5z:=zh hE c5z;have hzy:=hE.size;have hzp4:p<Y.heap.size:=by omega
      have hzx4:X2.heap.size<Y.heap.size:=by omega
      clear hE hzz r6 q6;go_wp2_with fail;refine(wpIn_wide (n:=9)).1 ?_
      refine zp4 rfl rfl (by kernel_rfl) (by kernel_rfl) (by kernel_rfl) ?_
      dsimp only[List.dropLast]
      repeat (first|go_big_quiet_step (fail)|quiet_step (fail))
      refine wpQuiet_nil ?_
      rintro _ ⟨nq,rfl⟩;obtain⟨W4,hdel,hg4,hz4,hm4,-,-⟩:=zbo.del zfm (W:=Y.drewN nq) HMY.out (HLE.out.once HO.out) (HLE.out.borns HBN.out) k 0;simp only[zai,stC]at hdel;have hk4:Kept (fun b=>b≠mb) X2 W4:=((Kept.of_below HEY.out).trans (Kept.of_below (Ext.drN (Below.refl _ Y) nq))).grown hg4 (fun b e _ hk=>by cases e;exact hk rfl);have HM4:=hid hm4;have HK4:=hid hk4;clear hm4 hk4 hg4;gi_wp2_with fail;exact⟨⟨_,_,HM4.out,HLE.out.del HKS.out,(HK4.out.same _ hb2 (by omega)).trans HIT2.out,HK9.out.trans (HK4.out.mono fun b _ h=>h.1)⟩,HUN2.out _ (HK4.out.same _ hb2 (by omega))⟩
   ·have hvb:(v == 0)=false:=by simpa using hv0
    refine zau (X3.heap.size) (weq _)
     [sqV (.int .i64 v),sqV (.bool false),sqV (.bool false),sqV undef,sqV undef,sqV undef,sqV (.bool false)]
     [true,true,true,true,true,true,true] [false,false,false,false,false,false,false] [true,true,true,true,true,true,true] [true,true,true,true,true,true,true] [true,true,true,false,false,false,true] [none,some false,some false,none,none,none,some false]
     (by kernel_rfl) (by kernel_rfl) (by decide +kernel) ⟨fun _ _ _ h=>h,⟨fun _ _ _ h=>h,⟨fun _ _ _ h=>h,trivial⟩⟩⟩ (by decide +kernel) (by decide +kernel) (by decide +kernel) rfl ⟨rfl,rfl,rfl⟩ ⟨?s0,?s1,?s2,?s3,?s4,?s5,?s6,trivial⟩ [some 39,some 40,some 41,some 42,some 43,some 44,some 45] rfl rfl ?send
    case s0 =>
     intro f g W b e d h a c;have o0:g (.tmp 7)=.int .i64 v:=a.old 7 (by decide);exact ze (by simp[execOp,o0,go_sem]) rfl
    case s1 =>
     intro f g W b e d h a c;have d0:g (.tmp 39)=.int .i64 v:=dpv a d 0 39;exact ze (by simp[execOp,a.const,d0,hvb,go_sem]) rfl
    case s2 =>
     intro f g W b e d h a c;have d1:g (.tmp 40)=.bool false:=dpv a d 1 40;exact ze (by simp[execOp,d1,go_sem]) rfl
    case s3=>exact⟨fun _ _=>rfl,fun _ _ _ h=>h⟩
    case s4=>exact⟨fun _ _=>rfl,fun _ _ _ h=>h⟩
    case s5=>exact⟨fun _ _=>rfl,fun _ _ _ h=>h⟩
    case s6 =>
     intro f g W b e d h a c;have d2:g (.tmp 41)=.bool false:=dpv a d 2 41;exact ze (by simp[execOp,a.const,d2,go_sem]) rfl
    case send =>
     intro val Y hE hzz hv;obtain⟨-,-,-,-,-,-,r6,-⟩:=hv;have q6:val 6=.bool false:=r6;simp only[za9,q6];go_frame;have hE:Ext X3 Y:=hE;have HEY:=hid (HE3.out.trans' hE);clear hE hzz r6 q6 s0 s1 s2 c5z;go_wp2_with fail;go_roundw
     case rel=>exact⟨_,es',(HEY.out.block _ hbm).trans HM2.out,HLE.out,(HEY.out.block _ hb2).trans HIT2.out,HK9.out.trans (Kept.of_below HEY.out)⟩
     case measure=>exact HUN2.out _ (HEY.out.block _ hb2)
theorem zzf(M:zl)(V:zag M)(hss:M.ss=List.replicate M.n (2^M.L-1))(ka:Option Addr)(kc:Nat)(w:World)(hk:zo w .i64 (.slice ka M.n kc) (zy M.ks)) :
  Calls Tryz.prog 52 #[.agg #[.int .i64 M.L,.int .i64 M.n,.slice ka M.n kc,.int .i64 M.rest],.slice none 0 0] w (z9w M ka kc w):=by
 have hmm:=@run_makeMap Tryz.prog;have HK:=hid hk;obtain⟨kb,ko,rfl,hkc⟩:=za7 hk (i:=0) (by have:=V.kl;have:=V.n;omega);have hzk:=wfu _ _ (hkc 0 (by have:=V.kl;have:=V.n;omega) w (Below.refl _ _));simp only at hzk;clear hk hkc
 go_enter Tryz.func52,Tryz.ntmps52
 have heq:∀W,(binOp .eql 22 (.slice none 0 0) (.slice none 0 0)).run Tryz.prog W=.ok (.bool true) W:=fun W=>Lib.run_eql_slice_nil W 22 3 _ _ _ _ _ zgc.und
 obtain⟨q1,hN1,hN2⟩:=zjf (n:=M.L) V.L.2;obtain⟨N,hN⟩:∃N:Nat,N=2^M.L:=⟨_,rfl⟩
 rw[←hN]at q1 hN1 hN2;obtain⟨m,hm⟩:∃m:Nat,m=N-1:=⟨_,rfl⟩
 have hwm:IntKind.i64.wrap ((N:Int)-1)=(m:Int):=by rw[show(N:Int)-1=(m:Int) by omega];exact wbh _ (by omega)
 rw[show(2:Int)^M.L=2^min M.L 64 by rw[Nat.min_eq_left (by have:=V.L;omega)]]at q1;have HSS:Hid (zy M.ss=List.replicate M.n (m:Int)):=hid (by rw[hss,←hN,←hm];unfold zy;rw[List.map_replicate]);clear hN hm hN1 hN2 hss;go_upto_region 3 with(fail);obtain⟨Z,hZ⟩:∃Z,Z=((w.alloc (.cells #[.int .i64 M.L,.int .i64 M.n,.slice (some ⟨kb,ko,none⟩) M.n kc,.int .i64 M.rest] 24)).alloc (.map #[] 0)).alloc (.cells #[.int .i64 M.L,.int .i64 M.n,.slice (some ⟨kb,ko,none⟩) M.n kc,.int .i64 M.rest,.slice none 0 0,.map (some (w.heap.size+1))] 95):=⟨_,rfl⟩
 have hE0:Ext w Z:=by rw[hZ];exact xx
 have hrow:Z.heap[w.heap.size+1+1]?=some (.cells #[.int .i64 M.L,.int .i64 M.n,.slice (some ⟨kb,ko,none⟩) M.n kc,.int .i64 M.rest,.slice none 0 0,.map (some (w.heap.size+1))] 95 (0,0)):=by
  have h1:=World.alloc_heap_new ((w.alloc (.cells #[.int .i64 M.L,.int .i64 M.n,.slice (some ⟨kb,ko,none⟩) M.n kc,.int .i64 M.rest] 24)).alloc (.map #[] 0)) (.cells #[.int .i64 M.L,.int .i64 M.n,.slice (some ⟨kb,ko,none⟩) M.n kc,.int .i64 M.rest,.slice none 0 0,.map (some (w.heap.size+1))] 95);rw[wfx,wfx]at h1;rw[hZ];exact h1
 have hmp0:zbo zai zcu Z (w.heap.size+1) (fun _=>none):=by
  have h1:=zr9 (ke:=zai) (ve:=zcu) (w.alloc (.cells #[.int .i64 M.L,.int .i64 M.n,.slice (some ⟨kb,ko,none⟩) M.n kc,.int .i64 M.rest] 24));rw[wfx]at h1;rw[hZ];exact h1.ext (by exact xx)
 have d0:Z.cell? ⟨w.heap.size,0,none⟩=some (.int .i64 M.L):=by rw[hZ];simp[go_sem]
 have d1:Z.cell? ⟨w.heap.size,1,none⟩=some (.int .i64 M.n):=by rw[hZ];simp[go_sem]
 have hzz:Z.heap.size=w.heap.size+3:=by rw[hZ];simp
 rw[←hZ];have HE00:=hid hE0;have HROW:=hid hrow;have HMP0:=hid hmp0;have hzw:w.heap.size<Z.heap.size:=by omega
 have hzv:w.heap.size+1+1<Z.heap.size:=by omega
 have hzl:w.heap.size+1+1≤Z.heap.size:=by omega
 have hn8:=V.n;have hz3:w.heap.size+3≤Z.heap.size:=by omega
 clear hZ hE0 hrow hmp0 hmm heq hzz;refine zb8 (w.heap.size+1+1) (hzl)
  [sqV (.pointer (some ⟨w.heap.size+1+1,0,none⟩)),sqV (.pointer (some ⟨w.heap.size,0,none⟩)),sqV (.int .i64 M.L),sqV (.int .i64 N),sqV (.int .i64 m),sqW (fun v W=>∃b,v=.slice (some ⟨b,0,none⟩) 1 1∧W.cell? ⟨b,0,none⟩=some (.int .i64 m)) (fun _ _ _ ⟨b,h1,h2⟩ e=>⟨b,h1,zh e h2⟩),sqV (.pointer (some ⟨w.heap.size,1,none⟩)),sqV (.int .i64 M.n),sqW (fun v W=>∃g,v=.slice (some ⟨g,0,none⟩) M.n M.n∧Z.heap.size≤g∧zo W .i64 (.slice (some ⟨g,0,none⟩) M.n M.n) (List.replicate M.n (m:Int))) (fun _ _ _ ⟨g,h1,h2,h3⟩ e=>⟨g,h1,h2,h3.ext e⟩),sqV (.pointer (some ⟨w.heap.size+1+1,0,none⟩)),sqV (.pointer (some ⟨w.heap.size+1+1,4,none⟩)),sqW (fun v W=>∃g,Z.heap.size≤g∧zo W .i64 (.slice (some ⟨g,0,none⟩) M.n M.n) (List.replicate M.n (m:Int))∧W.heap[w.heap.size+1+1]?=some (.cells #[.int .i64 M.L,.int .i64 M.n,.slice (some ⟨kb,ko,none⟩) M.n kc,.int .i64 M.rest,.slice (some ⟨g,0,none⟩) M.n M.n,.map (some (w.heap.size+1))] 95 (0,0))) (fun _ _ _ ⟨g,h1,h2,h3⟩ e=>⟨g,h1,h2.ext e,(e.block _ (wad.1 h3).1).trans h3⟩)]
  [true,true,true,true,true,false,true,true,false,true,true,false] [false,false,false,false,false,false,false,false,false,false,false,true] [true,true,true,true,true,false,true,true,false,true,true,true] [true,true,true,true,true,true,true,true,true,true,true,true]
  (by kernel_rfl) (by kernel_rfl) (by decide +kernel) (by decide +kernel) (by decide +kernel) rfl ⟨rfl,rfl⟩ ⟨?s0,?s1,?s2,?s3,?s4,?s5,?s6,?s7,?s8,?s9,?s10,?s11,trivial⟩ [some 15,some 16,some 17,some 18,some 19,some 20,some 21,some 22,some 23,some 24,some 25,none] rfl rfl ?send
 case s0 =>
  intro f g W b e d a c;have o0:g (.tmp 5)=.pointer (some ⟨w.heap.size+1+1,0,none⟩):=a.old 5 (by decide);exact ze (by simp[execOp,o0,go_sem]) rfl
 case s1 =>
  intro f g W b e d a c;have o0:g (.tmp 2)=.pointer (some ⟨w.heap.size,0,none⟩):=a.old 2 (by decide);exact ze (by simp[execOp,o0,go_sem]) rfl
 case s2 =>
  intro f g W b e d a c;have d1:g (.tmp 16)=.pointer (some ⟨w.heap.size,0,none⟩):=dpv a d 1 16;have f_d0:=cell_below b (by simp only;omega) d0;exact ze (by simp[execOp,d1,f_d0,go_sem]) rfl
 case s3 =>
  intro f g W b e d a c;have d2:g (.tmp 17)=.int .i64 M.L:=dpv a d 2 17;exact ze (by simp[execOp,a.const,d2,q1,go_sem]) rfl
 case s4 =>
  intro f g W b e d a c;have d3:g (.tmp 18)=.int .i64 N:=dpv a d 3 18;exact ze (by simp[execOp,a.const,d3,hwm,go_sem]) rfl
 case s6 =>
  intro f g W b e d a c;have o0:g (.tmp 2)=.pointer (some ⟨w.heap.size,0,none⟩):=a.old 2 (by decide);exact ze (by simp[execOp,o0,go_sem]) rfl
 case s7 =>
  intro f g W b e d a c;have d6:g (.tmp 21)=.pointer (some ⟨w.heap.size,1,none⟩):=dpv a d 6 21;have f_d1:=cell_below b (by simp only;omega) d1;exact ze (by simp[execOp,d6,f_d1,go_sem]) rfl
 case s9 =>
  intro f g W b e d a c;have d0:g (.tmp 15)=.pointer (some ⟨w.heap.size+1+1,0,none⟩):=dpv a d 0 15;exact ze (by simp[execOp,d0,go_sem]) rfl
 case s10 =>
  intro f g W b e d a c;have d9:g (.tmp 24)=.pointer (some ⟨w.heap.size+1+1,0,none⟩):=dpv a d 9 24;exact ze (by simp[execOp,d9,go_sem]) rfl
 case s5 =>
  intro f g W b e d a c;have d4:g (.tmp 19)=.int .i64 m:=dpv a d 4 19;exact zgi (W':=W.alloc (.cells #[.int .i64 m] 3)) (v:=.slice (some ⟨W.heap.size,0,none⟩) 1 1) (by simp[execOp,d4,go_sem]) xx ⟨_,rfl,by simp[go_sem]⟩
 case s8 =>
  intro i j W c h f a d;obtain⟨b,e5,hb5⟩:∃b,i 5=.slice (some ⟨b,0,none⟩) 1 1∧W.cell? ⟨b,0,none⟩=some (.int .i64 m):=f 5 (by decide);have d5:j (.tmp 20)=.slice (some ⟨b,0,none⟩) 1 1:=(a.dep 5 (by decide) 20 rfl).trans e5;have d7:j (.tmp 22)=.int .i64 M.n:=dpv a f 7 22;clear f;refine zbx 101 _ _ rfl #[.slice (some ⟨b,0,none⟩) 1 1,.int .i64 M.n] (a.func _) (by simp[d5,d7]) (fun args W=>Tryz.call101 args W) ((z9v m M.n (by omega) b W hb5).mono ?_);rintro e w' ⟨g,rfl,hb,hg,hi⟩;exact⟨_,rfl,hb,g,rfl,by have:=(d (by decide)).size;omega,hi⟩
 case s11 =>
  intro j l W c i f a d;obtain⟨g,e8,hg,hi⟩:∃g,j 8=.slice (some ⟨g,0,none⟩) M.n M.n∧Z.heap.size≤g∧zo W .i64 (.slice (some ⟨g,0,none⟩) M.n M.n) (List.replicate M.n (m:Int)):=f 8 (by decide);have d8:l (.tmp 23)=.slice (some ⟨g,0,none⟩) M.n M.n:=(a.dep 8 (by decide) 23 rfl).trans e8;have d10:l (.tmp 25)=.pointer (some ⟨w.heap.size+1+1,4,none⟩):=dpv a f 10 25;clear f;have hW:=d (by decide);have hr:=(hW.block _ hzv).trans HROW.out;have c4:W.cell? ⟨w.heap.size+1+1,4,none⟩=some (.slice none 0 0):=by rw[cell_of_row _ _ _ _ _ _ hr];rfl
  have cf:∀o,W.frozen? ⟨w.heap.size+1+1,o,none⟩=false:=fun o=>by simp[World.frozen?,hr]
  have hB:w.heap.size+1+1≤w.heap.size+1+1:=weq _;exact zmg (W':=W.setCell ⟨w.heap.size+1+1,4,none⟩ (.slice (some ⟨g,0,none⟩) M.n M.n)) (by simp[execOp,d8,d10,go_sem,c4,cf]) ((Below.refl _ W).setCell hB _) ⟨g,hg,zgl hi ((Kept.refl (fun k=>k≠w.heap.size+1+1) W).setCell (fun _ h=>h rfl) _) (fun b off e=>by cases e;omega),zal hr 4 _⟩
 case send =>
  intro val W0 hE hzy hv;obtain⟨-,-,-,-,-,-,-,-,-,-,-,r11,-⟩:=hv;obtain⟨g,hg,hi,hr⟩:=r11;simp only[za9];go_frame;have hE0:Ext w W0:=Below.trans HE00.out (hE.mono (by omega));have hma:zbm W0 (w.heap.size+1+1) M (some ⟨kb,ko,none⟩) (some ⟨g,0,none⟩) kc M.n (w.heap.size+1) :=
   ⟨by rw[cell_of_row _ _ _ _ _ _ hr];rfl,by rw[cell_of_row _ _ _ _ _ _ hr];rfl,by rw[cell_of_row _ _ _ _ _ _ hr];rfl,by rw[cell_of_row _ _ _ _ _ _ hr];rfl,by rw[cell_of_row _ _ _ _ _ _ hr];rfl,by rw[cell_of_row _ _ _ _ _ _ hr];rfl,HK.out.ext hE0,by rw[HSS.out];exact hi⟩
  have hmp:zbo zai zcu W0 (w.heap.size+1) (fun _=>none):=HMP0.out.of_heap (hE.block _ (by omega));have hz0:w.heap.size+3≤W0.heap.size:=by omega
  have hmm2:zqa (w.heap.size+1+1) (some ⟨kb,ko,none⟩) (some ⟨g,0,none⟩) (w.heap.size+1):=⟨by omega,fun b off e=>by cases e;omega,fun b off e=>by cases e;omega⟩
  clear hE hzy hg hi hr d0 d1 hzw hzv hzl hz3 q1 hwm;obtain⟨mb,hmb⟩:∃mb,mb=w.heap.size+1:=⟨_,rfl⟩
  rw[←hmb]at hma hmp hmm2 ⊢;obtain⟨p,hp⟩:∃p,p=mb+1:=⟨_,rfl⟩
  rw[←hp]at hma hmm2 ⊢;have HOFF:=hid hmm2;have HMA:=hid hma;have HMP:=hid hmp;have HE0:=hid hE0;have hmbz:w.heap.size≤mb∧mb<p∧p<W0.heap.size:=by omega
  obtain⟨hmb1,hmp1,hpz1⟩:=hmbz;clear hE0 hma hmp hmm2 hmb hp hz0;go_wp2_with fail;refine(zfl W0).mono ?_
  rintro e W1 ⟨rfl,hE1⟩;have hfr:=callsIn_wide.1 (zze M V p mb _ _ kc M.n HOFF.out (M.n-ts0.at_) ts0 (fun _=>none) W1 (z9u V) rfl (HMA.out.ext hE1) (HMP.out.ext hE1) (fun _ _ h=>by cases h));have HFR:=hid hfr;have HE1:=hid hE1;have hzz1:=hE1.size;clear hfr hE1;go_wp2_with fail;refine HFR.out.mono ?_
  rintro e W2 ⟨rfl,hk2,F',hmap,hrf,-,hf0⟩;have c5:=hk2.cell (zh HE1.out HMA.out.c5) HOFF.out.p;have hzz2:=hk2.size;have HRF:=hid hrf;have HF0:=hid (hf0 (by have:=V.n;simp only[ts0];omega));have HK2:=hid hk2;have hzp:p<W2.heap.size:=by omega
  have hpm:p≠mb:=by omega
  have hfin:∀X,Kept (fun k=>k≠mb∧k≠W2.heap.size) W2 X→zan X mb M→z9w M (some ⟨kb,ko,none⟩) kc w (.returned (.pointer (some ⟨p,0,none⟩))) X:=fun X hk hm=>by
   have hk3:Kept (fun k=>k≠mb∧k<W2.heap.size) W1 X:=(hk2.mono fun k _ h=>h.1).trans (hk.mono fun k _ h=>⟨h.1,by omega⟩);refine⟨p,mb,some ⟨g,0,none⟩,M.n,rfl,?_,by omega,hmb1,(HMA.out.ext HE1.out).kept HOFF.out hk3 fun b h1 h2=>⟨h2,by omega⟩,HOFF.out,hm⟩;exact Below.trans (HE0.out.trans' HE1.out) (Kept.below (hk3.mono fun k _ h=>⟨by omega,by omega⟩) (HE0.out.trans' HE1.out).size)
  have HFIN:=hid hfin;clear hk2 hrf hf0 hfin;obtain⟨es,c,hm1,ho,hbn,hget⟩:=hmap;have hrg:=zr4 zfm hm1;have HM1:=hid hm1;have HO:=hid ho;have HBN:=hid hbn;have HGET:=hid hget;have hmz2:mb<W2.heap.size:=(wad.1 hm1).1;clear hm1 ho hbn hget;go_wp2_with fail;clear hrg
  go_loopw [35] (fun _ W=>∃(seen:Array Nat) (es':za3 TSt Int),IsMap zai zcu W mb es' c∧zi0 es es'∧W.heap[W2.heap.size]?=some (.mapIter (some mb) c seen c)∧Kept (fun k=>k≠mb∧k≠W2.heap.size) W2 W)
   (fun _ W=>zh1 es W2.heap.size W)
  case atStart =>
   exact⟨#[],es,(Below.heap_alloc _ _ _ hmz2).trans HM1.out,⟨List.Sublist.refl _,fun _ h _=>h⟩,World.alloc_heap_new _ _,(Kept.of_below (by exact xx))⟩
  case round =>
   obtain⟨seen,es',hm1,hle,hit,hkp⟩:=hrel;obtain⟨X,rfl⟩:∃X,X=wr:=⟨_,rfl⟩
   have hkX:Kept (fun k=>k<W2.heap.size∧k≠mb) W2 X:=hkp.mono fun k _ h=>⟨h.2,by omega⟩
   have c5x:=hkX.cell c5 ⟨by simp only;omega,by simp only;omega⟩;have hzc:=wfu _ _ c5x;simp only at hzc;have hzi:=(wad.1 hit).1;have hzm:=(wad.1 hm1).1
   rcases zv3 (P:=Tryz.prog) hm1 hit (fun e he=>(hle.borns HBN.out).2 e he)with⟨-,hrun⟩|⟨e,he,hs,X2,hheap,hos,htape,hout,hrun⟩
   ·have HMC:=hid (hle.map hm1 HO.out HBN.out HGET.out HRF.out HF0.out)
    have HKP:=hid hkp;clear hm1 hle hit hkp hkX;go_wp2_with fail;go_ret;exact HFIN.out X HKP.out HMC.out
   ·have hmem:=hle.sub.subset he
    have hg2:X.grownBy X2 (some W2.heap.size):=⟨hos,htape,hout,by rw[hheap];simp,fun k hk hne=>by rw[hheap];exact World.putObj_heap_other (fun e=>hne (by rw[e]))⟩
    have hk2:Kept (fun k=>k≠W2.heap.size) X X2:=(Kept.refl _ X).grown hg2 (fun k e _ hk=>by cases e;exact hk rfl);have hm2:IsMap zai zcu X2 mb es' c:=(hk2.same _ hzm (by omega)).trans hm1;have hit2:X2.heap[W2.heap.size]?=some (.mapIter (some mb) c (seen.push e.2.2) c):=by rw[hheap];exact World.putObj_heap_same hzi
    have hen:=zr5 (P:=Tryz.prog) hm2 hit2 he (hle.borns HBN.out).1;have hun:=zv4 hmem hs;have hun2:∀W',W'.heap[W2.heap.size]?=X2.heap[W2.heap.size]?→zh1 es W2.heap.size W'<zh1 es W2.heap.size X:=fun W' hW'=>by
     unfold zh1;rw[hW',hit2,hit];exact hun
    have hk9:Kept (fun k=>k≠mb∧k≠W2.heap.size) W2 X2:=hkp.trans (hk2.mono fun k _ h=>h.2);have c5y:=hk2.cell c5x (by simp only;omega);have hz29:=hk2.size;have HUN2:=hid hun2;have HM2:=hid hm2;have HIT2:=hid hit2;have HK9:=hid hk9;have HLE:=hid hle;have HE:=hid he;clear hm1 hle hit hkp he hs hheap hos htape hout hmem hg2 hk2 hm2 hit2 hun hun2 hk9 hkX c5x;simp only[zai,stC,zcu]at hrun hen;obtain⟨k,v,bo⟩:=e;simp only at hrun hen HE HUN2 HIT2;obtain⟨X3,hX3⟩:∃X3,X2.alloc (.cells #[.int .i64 k.at_,.int .i64 k.last,.int .i64 k.sum] 97)=X3:=⟨_,rfl⟩
    have hE3:Ext X2 X3:=by rw[←hX3];exact xx
    have hst3:zbl X3 X2.heap.size k:=by rw[←hX3];exact World.alloc_heap_new X2 _
    have HX3:=hid hX3;have HE3:=hid hE3;have hb2:=(wad.1 HIT2.out).1;have hbm:=(wad.1 HM2.out).1;have hM3:IsMap zai zcu X3 mb es' c:=(hE3.block _ hbm).trans HM2.out;have HM3:=hid hM3;have c5z:=zh hE3 c5y;have s0:=hst3.c0;have s1:=hst3.c1;have s2:=hst3.c2;have hz3:=hst3.lt;have hzp3:p<X3.heap.size:=by omega
    clear hE3 hst3 hM3 hX3 c5y;go_upto_region 8 with(fail);rw[HX3.out];have hes:∀W,(Op.equalIn 10000 97 (.agg #[.int .i64 k.at_,.int .i64 k.last,.int .i64 k.sum]) (.agg #[.int .i64 0,.int .i64 (-1),.int .i64 0])).run Tryz.prog W=.ok (decide (k=ts0)) W:=fun W=>zse k ts0 W
    by_cases hv0:v=0
    ·subst hv0
     by_cases hks:k=ts0
     ·rw[decide_eq_true hks]at hes
      clear hks;refine zau (X3.heap.size) (weq _)
       [sqV (.int .i64 0),sqV (.bool true),sqV (.bool true),sqV (.agg #[.int .i64 k.at_,.int .i64 k.last,.int .i64 k.sum]),sqV (.agg #[.int .i64 0,.int .i64 (-1),.int .i64 0]),sqV (.bool false),sqV (.bool false)]
       [true,true,true,true,true,true,true] [false,false,false,false,false,false,false] [true,true,true,true,true,true,true] [true,true,true,true,true,true,true] [true,true,true,true,true,true,true] [none,some true,some true,none,none,some false,some false]
       (by kernel_rfl) (by kernel_rfl) (by decide +kernel) ⟨fun _ _ _ h=>h,⟨fun _ _ _ h=>h,⟨fun _ _ _ h=>h,⟨fun _ _ _ h=>h,trivial⟩⟩⟩⟩ (by decide +kernel) (by decide +kernel) (by decide +kernel) rfl ⟨rfl,rfl,rfl⟩ ⟨?s0,?s1,?s2,?s3,?s4,?s5,?s6,trivial⟩ [some 39,some 40,some 41,some 42,some 43,some 44,some 45] rfl rfl ?send
      case s0 =>
       intro f g W b e d h a c;have o0:g (.tmp 7)=.int .i64 0:=a.old 7 (by decide);exact ze (by simp[execOp,o0,go_sem]) rfl
      case s1 =>
       intro f g W b e d h a c;have d0:g (.tmp 39)=.int .i64 0:=dpv a d 0 39;exact ze (by simp[execOp,a.const,d0,go_sem]) rfl
      case s2 =>
       intro f g W b e d h a c;have d1:g (.tmp 40)=.bool true:=dpv a d 1 40;exact ze (by simp[execOp,d1,go_sem]) rfl
      case s3 =>
       intro f g W b e d h a c;have o0:g (.tmp 6)=.pointer (some ⟨X2.heap.size,0,none⟩):=a.old 6 (by decide);have f_s0:=cell_below b (by simp only;omega) s0;have f_s1:=cell_below b (by simp only;omega) s1;have f_s2:=cell_below b (by simp only;omega) s2;exact ze (by simp[execOp,o0,f_s0,f_s1,f_s2,go_sem]) rfl
      case s4 =>
       intro g h W b f d i a c;clear d i;refine zbx 54 _ _ rfl #[] (a.func _) (by simp[]) (fun args W=>Tryz.call54 args W) ((zfl W).mono ?_);rintro e w' ⟨rfl,hb⟩;exact⟨_,rfl,hb,rfl⟩
      case s5 =>
       intro f g W b e d h a c;have d3:g (.tmp 42)=.agg #[.int .i64 k.at_,.int .i64 k.last,.int .i64 k.sum]:=dpv a d 3 42;have d4:g (.tmp 43)=.agg #[.int .i64 0,.int .i64 (-1),.int .i64 0]:=dpv a d 4 43;exact ze (by simp[execOp,d3,d4,hes,go_sem]) rfl
      case s6 =>
       intro f g W b e d h a c;have d2:g (.tmp 41)=.bool true:=dpv a d 2 41;have d5:g (.tmp 44)=.bool false:=dpv a d 5 44;exact ze (by simp[execOp,a.const,d2,d5,go_sem]) rfl
      case send =>
       intro val Y hE hzz hv;obtain⟨-,-,-,-,-,-,r6,-⟩:=hv;have q6:val 6=.bool false:=r6;simp only[za9,q6];go_frame;have hE:Ext X3 Y:=hE;have HEY:=hid (HE3.out.trans' hE);clear hE hzz r6 q6 s0 s1 s2 c5z;go_wp2_with fail;go_roundw
       case rel=>exact⟨_,es',(HEY.out.block _ hbm).trans HM2.out,HLE.out,(HEY.out.block _ hb2).trans HIT2.out,HK9.out.trans (Kept.of_below HEY.out)⟩
       case measure=>exact HUN2.out _ (HEY.out.block _ hb2)
     ·rw[decide_eq_false hks]at hes
      have HKS:=hid hks;clear hks;refine zau (X3.heap.size) (weq _)
       [sqV (.int .i64 0),sqV (.bool true),sqV (.bool true),sqV (.agg #[.int .i64 k.at_,.int .i64 k.last,.int .i64 k.sum]),sqV (.agg #[.int .i64 0,.int .i64 (-1),.int .i64 0]),sqV (.bool true),sqV (.bool true)]
       [true,true,true,true,true,true,true] [false,false,false,false,false,false,false] [true,true,true,true,true,true,true] [true,true,true,true,true,true,true] [true,true,true,true,true,true,true] [none,some true,some true,none,none,some true,some true]
       (by kernel_rfl) (by kernel_rfl) (by decide +kernel) ⟨fun _ _ _ h=>h,⟨fun _ _ _ h=>h,⟨fun _ _ _ h=>h,⟨fun _ _ _ h=>h,trivial⟩⟩⟩⟩ (by decide +kernel) (by decide +kernel) (by decide +kernel) rfl ⟨rfl,rfl,rfl⟩ ⟨?s0,?s1,?s2,?s3,?s4,?s5,?s6,trivial⟩ [some 39,some 40,some 41,some 42,some 43,some 44,some 45] rfl rfl ?send
      case s0 =>
       intro f g W b e d h a c;have o0:g (.tmp 7)=.int .i64 0:=a.old 7 (by decide);exact ze (by simp[execOp,o0,go_sem]) rfl
      case s1 =>
       intro f g W b e d h a c;have d0:g (.tmp 39)=.int .i64 0:=dpv a d 0 39;exact ze (by simp[execOp,a.const,d0,go_sem]) rfl
      case s2 =>
       intro f g W b e d h a c;have d1:g (.tmp 40)=.bool true:=dpv a d 1 40;exact ze (by simp[execOp,d1,go_sem]) rfl
      case s3 =>
       intro f g W b e d h a c;have o0:g (.tmp 6)=.pointer (some ⟨X2.heap.size,0,none⟩):=a.old 6 (by decide);have f_s0:=cell_below b (by simp only;omega) s0;have f_s1:=cell_below b (by simp only;omega) s1;have f_s2:=cell_below b (by simp only;omega) s2;exact ze (by simp[execOp,o0,f_s0,f_s1,f_s2,go_sem]) rfl
      case s4 =>
       intro g h W b f d i a c;clear d i;refine zbx 54 _ _ rfl #[] (a.func _) (by simp[]) (fun args W=>Tryz.call54 args W) ((zfl W).mono ?_);rintro e w' ⟨rfl,hb⟩;exact⟨_,rfl,hb,rfl⟩
      case s5 =>
       intro f g W b e d h a c;have d3:g (.tmp 42)=.agg #[.int .i64 k.at_,.int .i64 k.last,.int .i64 k.sum]:=dpv a d 3 42;have d4:g (.tmp 43)=.agg #[.int .i64 0,.int .i64 (-1),.int .i64 0]:=dpv a d 4 43;exact ze (by simp[execOp,d3,d4,hes,go_sem]) rfl
      case s6 =>
       intro f g W b e d h a c;have d2:g (.tmp 41)=.bool true:=dpv a d 2 41;have d5:g (.tmp 44)=.bool true:=dpv a d 5 44;exact ze (by simp[execOp,a.const,d2,d5,go_sem]) rfl
      case send =>
       intro val Y hE hzz hv;obtain⟨-,-,-,-,-,-,r6,-⟩:=hv;have q6:val 6=.bool true:=r6;simp only[za9,q6];go_frame;have hE:Ext X3 Y:=hE;have HEY:=hid (HE3.out.trans' hE);have HMY:Hid (IsMap zai zcu Y mb es' c):=hid ((hE.block _ (wad.1 HM3.out).1).trans HM3.out);replace s0:=zh hE s0;replace s1:=zh hE s1;replace s2:=zh hE s2;replace c5z:=zh hE c5z;have hzy:=hE.size;have hzp4:p<Y.heap.size:=by omega
       have hzx4:X2.heap.size<Y.heap.size:=by omega
       clear hE hzz r6 q6;go_wp2_with fail;refine(wpIn_wide (n:=9)).1 ?_
       refine zp4 rfl rfl (by kernel_rfl) (by kernel_rfl) (by kernel_rfl) ?_
       dsimp only[List.dropLast]
       repeat (first|go_big_quiet_step (fail)|quiet_step (fail))
       refine wpQuiet_nil ?_
       rintro _ ⟨nq,rfl⟩;obtain⟨W4,hdel,hg4,hz4,hm4,-,-⟩:=zbo.del zfm (W:=Y.drewN nq) HMY.out (HLE.out.once HO.out) (HLE.out.borns HBN.out) k 0;simp only[zai,stC]at hdel;have hk4:Kept (fun b=>b≠mb) X2 W4:=((Kept.of_below HEY.out).trans (Kept.of_below (Ext.drN (Below.refl _ Y) nq))).grown hg4 (fun b e _ hk=>by cases e;exact hk rfl);have HM4:=hid hm4;have HK4:=hid hk4;clear hm4 hk4 hg4;gi_wp2_with fail;exact⟨⟨_,_,HM4.out,HLE.out.del HKS.out,(HK4.out.same _ hb2 (by omega)).trans HIT2.out,HK9.out.trans (HK4.out.mono fun b _ h=>h.1)⟩,HUN2.out _ (HK4.out.same _ hb2 (by omega))⟩
    ·have hvb:(v == 0)=false:=by simpa using hv0
     refine zau (X3.heap.size) (weq _)
      [sqV (.int .i64 v),sqV (.bool false),sqV (.bool false),sqV undef,sqV undef,sqV undef,sqV (.bool false)]
      [true,true,true,true,true,true,true] [false,false,false,false,false,false,false] [true,true,true,true,true,true,true] [true,true,true,true,true,true,true] [true,true,true,false,false,false,true] [none,some false,some false,none,none,none,some false]
      (by kernel_rfl) (by kernel_rfl) (by decide +kernel) ⟨fun _ _ _ h=>h,⟨fun _ _ _ h=>h,⟨fun _ _ _ h=>h,trivial⟩⟩⟩ (by decide +kernel) (by decide +kernel) (by decide +kernel) rfl ⟨rfl,rfl,rfl⟩ ⟨?s0,?s1,?s2,?s3,?s4,?s5,?s6,trivial⟩ [some 39,some 40,some 41,some 42,some 43,some 44,some 45] rfl rfl ?send
     case s0 =>
      intro f g W b e d h a c;have o0:g (.tmp 7)=.int .i64 v:=a.old 7 (by decide);exact ze (by simp[execOp,o0,go_sem]) rfl
     case s1 =>
      intro f g W b e d h a c;have d0:g (.tmp 39)=.int .i64 v:=dpv a d 0 39;exact ze (by simp[execOp,a.const,d0,hvb,go_sem]) rfl
     case s2 =>
      intro f g W b e d h a c;have d1:g (.tmp 40)=.bool false:=dpv a d 1 40;exact ze (by simp[execOp,d1,go_sem]) rfl
     case s3=>exact⟨fun _ _=>rfl,fun _ _ _ h=>h⟩
     case s4=>exact⟨fun _ _=>rfl,fun _ _ _ h=>h⟩
     case s5=>exact⟨fun _ _=>rfl,fun _ _ _ h=>h⟩
     case s6 =>
      intro f g W b e d h a c;have d2:g (.tmp 41)=.bool false:=dpv a d 2 41;exact ze (by simp[execOp,a.const,d2,go_sem]) rfl
     case send =>
      intro val Y hE hzz hv;obtain⟨-,-,-,-,-,-,r6,-⟩:=hv;have q6:val 6=.bool false:=r6;simp only[za9,q6];go_frame;have hE:Ext X3 Y:=hE;have HEY:=hid (HE3.out.trans' hE);clear hE hzz r6 q6 s0 s1 s2 c5z;go_wp2_with fail;go_roundw
      case rel=>exact⟨_,es',(HEY.out.block _ hbm).trans HM2.out,HLE.out,(HEY.out.block _ hb2).trans HIT2.out,HK9.out.trans (Kept.of_below HEY.out)⟩
      case measure=>exact HUN2.out _ (HEY.out.block _ hb2)
structure zc6(W:World)(p:Nat)(M:zl)(ka sa:Option Addr)(kc sc mb:Nat):Prop where
 m:zbm W p M ka sa kc sc mb
 o:zqa p ka sa mb
 map:zan W mb M
theorem zc6.kept{S:Nat→Prop}{W W':World}{p:Nat}{M:zl}{ka sa:Option Addr}{kc sc mb:Nat}(h:zc6 W p M ka sa kc sc mb)(k:Kept S W W')(hS:∀b,b<W.heap.size→b≠mb→S b)(hm:zan W' mb M):zc6 W' p M ka sa kc sc mb:=⟨h.m.kept h.o k hS,h.o,hm⟩
theorem zc6.ext{W W':World}{p:Nat}{M:zl}{ka sa:Option Addr}{kc sc mb:Nat}(h:zc6 W p M ka sa kc sc mb)(e:Ext W W'):zc6 W' p M ka sa kc sc mb:=⟨h.m.ext e,h.o,h.map.of_heap (e.block _ h.map.lt)⟩
def McQ(mb:Nat)(M:zl)(v:Value)(W:World)(e:Ending)(W':World):Prop:=e=.returned v∧Kept (fun k=>k≠mb) W W'∧zan W' mb M
theorem z7y(M:zl)(V:zag M)(p mb:Nat)(ka sa:Option Addr)(kc sc:Nat)(s:TSt)(W:World)(h:zc6 W p M ka sa kc sc mb)(hs:StV M s) :
  Calls Tryz.prog 64 #[.pointer (some ⟨p,0,none⟩),zai s] W (McQ mb M (.int .i64 (cnt M s:Int)) W):=by
 obtain⟨F,h1,h2,h3⟩:=h.map;refine(callsIn_wide.1 (zze M V p mb ka sa kc sc h.o _ s F W hs rfl h.m h1 h2)).mono ?_
 rintro e W' ⟨he,hk,F',g1,g2,g3,-⟩;exact⟨he,hk,F',g1,g2,g3 _ _ h3⟩
theorem znh(M:zl)(p mb:Nat)(ka sa:Option Addr)(kc sc:Nat)(W:World)(h:zc6 W p M ka sa kc sc mb) :
  Calls Tryz.prog 24 #[.pointer (some ⟨p,0,none⟩)] W fun e W'=>e=.returned (.int .i64 (cnt M ts0:Int))∧Ext W W':=by
 obtain⟨F,h1,h2,h3⟩:=h.map;obtain⟨C,hC⟩:∃C:Int,C=(cnt M ts0:Int):=⟨_,rfl⟩
 rw[←hC]at h3 ⊢;have c5:=h.m.c5;have hz:=h.m.lt;have HM1:=hid h1;have HF:=hid h3;have hlk:∀W',Ext W W'→(Instr.lookup 93 (.map (some mb)) (zai ts0) false).run Tryz.prog W'=.ok (.int .i64 C) W':=fun W' hE=>(HM1.out.ext hE).look zfm ts0 HF.out
 have HLK:=hid hlk;clear h h1 h2 h3 hC hlk
 go_enter Tryz.func24,Tryz.ntmps24
 go_wp2_with fail;refine zf9 rfl rfl (by kernel_rfl) (W.heap.size) (weq _)
  [sqV (.pointer (some ⟨p,0,none⟩)),sqV (.pointer (some ⟨p,0,none⟩)),sqV (.pointer (some ⟨p,5,none⟩)),sqV (.map (some mb)),sqV (zai ts0),sqV (.int .i64 C)]
  [true,true,true,true,true,true] [false,false,false,false,false,false] [true,true,true,true,true,true] [true,true,true,true,true,true]
  (by kernel_rfl) (by kernel_rfl) (by decide +kernel) (by decide +kernel) (by decide +kernel) rfl ⟨rfl,rfl⟩ ⟨?s0,?s1,?s2,?s3,?s4,?s5,trivial⟩ [some 3,some 4,some 5,some 6,some 7,some 8] rfl rfl ?send
 case s0 =>
  intro f g W b e d a c;have o0:g (.tmp 0)=.pointer (some ⟨p,0,none⟩):=a.old 0 (by decide);exact ze (by simp[execOp,o0,go_sem]) rfl
 case s1 =>
  intro f g W b e d a c;have d0:g (.tmp 3)=.pointer (some ⟨p,0,none⟩):=dpv a d 0 3;exact ze (by simp[execOp,d0,go_sem]) rfl
 case s2 =>
  intro f g W b e d a c;have d1:g (.tmp 4)=.pointer (some ⟨p,0,none⟩):=dpv a d 1 4;exact ze (by simp[execOp,d1,go_sem]) rfl
 case s3 =>
  intro f g W b e d a c;have d2:g (.tmp 5)=.pointer (some ⟨p,5,none⟩):=dpv a d 2 5;have f_c5:=cell_below b (by simp only;omega) c5;exact ze (by simp[execOp,d2,f_c5,go_sem]) rfl
 case s4 =>
  intro g h W b f d a c;clear d;refine zbx 54 _ _ rfl #[] (a.func _) (by simp[]) (fun args W=>Tryz.call54 args W) ((zfl W).mono ?_);rintro e w' ⟨rfl,hb⟩;exact⟨_,rfl,hb,rfl⟩
 case s5 =>
  intro val ρ W' hE hz hd hA hx;have d3:ρ (.tmp 6)=.map (some mb):=dpv hA hd 3 6;have d4:ρ (.tmp 7)=zai ts0:=dpv hA hd 4 7;clear hd;have hl:=HLK.out W' (hx (by decide));exact zgi (W':=W') (v:=.int .i64 C) (by simp[execOp,d3,d4,hl]) (Below.refl _ _) rfl
 case send =>
  intro val Y hE hzz hv;obtain⟨-,-,-,-,-,r5,-⟩:=hv;have q5:val 5=.int .i64 C:=r5;simp only[za9,q5];go_frame;have HE:Hid (Ext W Y):=hid hE;clear hE hzz r5 q5;go_wp2_with fail;go_ret;exact⟨rfl,HE.out⟩
end Go.Proofs.YtdcnbeehckgpcaaGreat
namespace Go.Proofs.YtdcnbeehckgpcaaGreat
open Go.Lib (hid)
def zcn(l:List Nat):ByteArray:=⟨(l.map fun c=>UInt8.ofNat (97+c)).toArray⟩
theorem zkz(l:List Nat):(zcn l).size=l.length:=by simp[zcn,ByteArray.size]
theorem zv8{l:List Nat}(h:∀c∈l,c<26){i:Nat}(hi:i<l.length):((zcn l).data.toList.getD i 0).toNat=97+l.getD i 0:=by
 have h1:=h l[i] (wcy hi);simp only[zcn,wch,wcq,wcn hi,wfn,wfk,UInt8.toNat_ofNat'];omega
def zci(M:zl):List Nat→TSt→Nat
 |[],_=>0
 |a::l,s=>zaq (fun c=>if c<a then za8 M s c else 0) M.L+if okS M s a=true then zci M l (toS M s a)else 0
def zd4(M:zl)(s:TSt)(a:Nat)(pre:List Nat):Nat:=(pre.map fun c=>if c<a then cnt M (toS M s c)else 0).sum
theorem zqc(M:zl)(s:TSt)(a:Nat)(pre:List Nat)(c:Nat):zd4 M s a (pre++[c])=zd4 M s a pre+if c<a then cnt M (toS M s c)else 0:=by
 unfold zd4;simp
theorem zqd(M:zl)(s:TSt)(a:Nat):∀k,zd4 M s a (stL M s k)=zaq (fun c=>if c<a then za8 M s c else 0) k
 |0=>by simp[zd4,stL,zaq]
 |k+1=>by
  rw[zaq,←zqd M s a k,zv6];unfold za8
  by_cases h:okS M s k=true
  ·rw[if_pos h,zqc,if_pos h]
  ·rw[if_neg h,wbn,if_neg h]
   split<;>omega
theorem zzg{M:zl}(V:zag M)(s:TSt)(a:Nat):∀pre:List Nat,zd4 M s a pre≤pre.length*1679616
 |[]=>by simp[zd4]
 |c::l=>by
  have h1:=zzg V s a l;have h2:=zfz V (toS M s c);unfold zd4 at h1 ⊢;simp only[wdg,List.sum_cons,wc4]
  split<;>omega
theorem z7z(M:zl)(s:TSt)(k:Nat):(stL M s k).length≤k:=by
 unfold stL;exact wer (wc7 _ _) (by simp)
def zkm(M:zl)(l:List Nat)(k:Nat):Bool:=(List.range k).all fun i=>(M.ss.getD i 0).testBit (l.getD i 0)
theorem z0x (M:zl)(l:List Nat)(k:Nat):zkm M l (k+1)=(zkm M l k&&(M.ss.getD k 0).testBit (l.getD k 0)):=by
 unfold zkm;rw[wd6,List.all_append];simp
end Go.Proofs.YtdcnbeehckgpcaaGreat
