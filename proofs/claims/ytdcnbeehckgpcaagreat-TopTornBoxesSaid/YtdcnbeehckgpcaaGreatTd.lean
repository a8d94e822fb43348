/-
  The walks of within, CheckDay, checkTorn, checkSold, open and opened of the tickets, where all is valid.
-/
import Derived.Test.YtdcnbeehckgpcaaGreatTc
set_option maxRecDepth 200000
set_option maxHeartbeats 0
set_option linter.unusedSimpArgs false
set_option linter.unusedVariables false
noncomputable section
namespace Go.Proofs.YtdcnbeehckgpcaaGreat
open Go.Lib (hid)
open Go.RowKit Go.Shelf
theorem z30(n lo hi:Int)(a b:Addr)(w:World)(h1:w.cell? a=some (.int .i64 lo))(h2:w.cell? b=some (.int .i64 hi)) :
  Calls Tryz.prog 61 #[.int .i64 n,.pointer (some a),.pointer (some b)] w fun e w'=>e=.returned (.bool (decide (n<lo)||decide (hi<n)))∧Ext w w':=by
 go_enter Tryz.func61,Tryz.ntmps61
 go_wp2
 all_goals
  go_ret;exact⟨zcp (by simp[*]),Below.refl _ _⟩
theorem zes(lo hi:Int)(v:Value)(l:List Int)(w:World)(hv:zo w .i64 v l) :
  Calls Tryz.prog 29 #[.int .i64 lo,.int .i64 hi,v] w fun e w'=>e=.returned (.bool (l.all (inR lo hi)))∧Ext w w':=by
 obtain⟨sa,cap,rfl,h1,h2,h3⟩:=hv.spec;have H3:=hid h3;clear h3 hv
 go_enter Tryz.func29,Tryz.ntmps29
 go_wp2_with fail;have hE:Ext w ((w.alloc (.cells #[.int .i64 lo] 3)).alloc (.cells #[.int .i64 hi] 3)):=((Below.refl _ _).alloc (weq _) _).alloc (by simp) _;have e1:((w.alloc (.cells #[.int .i64 lo] 3)).alloc (.cells #[.int .i64 hi] 3)).cell? ⟨w.heap.size,0,none⟩=some (.int .i64 lo):=by simp[go_sem]
 have e2:((w.alloc (.cells #[.int .i64 lo] 3)).alloc (.cells #[.int .i64 hi] 3)).cell? ⟨w.heap.size+1,0,none⟩=some (.int .i64 hi):=by simp[go_sem]
 refine (zxc l sa cap 61 #[.pointer (some ⟨w.heap.size,0,none⟩),.pointer (some ⟨w.heap.size+1,0,none⟩)] (fun n=>decide (n<lo)||decide (hi<n)) _ (by omega) (H3.out.imp id fun⟨b,off,e,hc⟩=>⟨b,off,e,fun i hi=>zh hE (hc i hi)⟩)
  (fun args W=>Tryz.call61 args W) (fun x _ W hW=>z30 x lo hi _ _ W (zh hW e1) (zh hW e2))).mono ?_
 rintro e W' ⟨rfl,hb⟩;clear e1 e2
 go_wp2
 all_goals
  go_ret;refine⟨zcp (a:=!l.any fun n=>decide (n<lo)||decide (hi<n)) ?_,hE.trans' hb⟩;exact z7t lo hi l
theorem zxg{lo hi n:Int}(h:lo≤n∧n≤hi):inR lo hi n=true:=z7s.2 h
theorem zwa(p:Int→Bool)(x:Int):[x].all p=p x:=by simp
theorem zzi{l:List Nat}{lo hi:Int}(h:∀i,i<l.length→lo≤(l.getD i 0:Int)∧(l.getD i 0:Int)≤hi):(zy l).all (inR lo hi)=true:=by
 rw[wbk];intro x hx;obtain⟨i,hi,rfl⟩:=wc0 hx;rw[zad]at hi;rw[zig hi];exact zxg (h i hi)
theorem zae5(M:zl)(V:zag M)(ka:Option Addr)(kc:Nat)(w:World)(hk:zo w .i64 (.slice ka M.n kc) (zy M.ks)):Calls Tryz.prog 58 #[.agg #[.int .i64 M.L,.int .i64 M.n,.slice ka M.n kc,.int .i64 M.rest]] w fun e w'=>e=.returned (.int .i64 0)∧Ext w w':=by
 have hL:=V.L;have hn:=V.n;have hr:=V.rest;have hall:(zy M.ks).all (inR 0 ((M.L:Int)-1))=true:=zzi fun i hi=>by
  have:=V.ks i (by rw[V.kl]at hi;exact hi);omega
 have hwL:IntKind.i64.wrap ((M.L:Int)-1)=(M.L:Int)-1:=wbh _ (by omega)
 go_enter Tryz.func58,Tryz.ntmps58
 go_upto_region 1 with(fail);obtain⟨W0,hW0⟩:∃W0,W0=w.alloc (.cells #[.int .i64 M.L,.int .i64 M.n,.slice ka M.n kc,.int .i64 M.rest] 24):=⟨_,rfl⟩
 have hE:Ext w W0:=by rw[hW0];exact xx
 have k0:W0.cell? ⟨w.heap.size,0,none⟩=some (.int .i64 M.L):=by rw[hW0];simp[go_sem]
 have k1:W0.cell? ⟨w.heap.size,1,none⟩=some (.int .i64 M.n):=by rw[hW0];simp[go_sem]
 have k2:W0.cell? ⟨w.heap.size,2,none⟩=some (.slice ka M.n kc):=by rw[hW0];simp[go_sem]
 have k3:W0.cell? ⟨w.heap.size,3,none⟩=some (.int .i64 M.rest):=by rw[hW0];simp[go_sem]
 have hz:w.heap.size<W0.heap.size:=wfu _ _ k0;have HW:=hid hE;have HK:=hid (zo.ext hE hk);rw[←hW0];clear hW0 hk hE;go_wp2_with fail;refine ze1 (W0:=W0) (g:=⟨W0,Below.refl _ _⟩) xx (zes 2 6 _ [(M.L:Int)] _ (zee (by omega) (by omega) (by simp[go_sem]))) fun g1 hgr=>?_
 clear hgr;rw[zwa,zxg (by omega)];go_wp2_with fail;refine ze1 (W0:=W0) (g:=g1) xx (zes 2 8 _ [(M.n:Int)] _ (zee (by omega) (by omega) (by simp[go_sem]))) fun g2 hgr=>?_
 clear hgr;rw[zwa,zxg (by omega)];go_wp2_with fail;refine ze1 (W0:=W0) (g:=g2) xx (zes 0 ((M.L:Int)-1) _ (zy M.ks) _ (HK.out.ext xx)) fun g3 hgr=>?_
 clear hgr;rw[hall];go_wp2_with fail;refine ze1 (W0:=W0) (g:=g3) xx (zes 0 ((M.L:Int)-1) _ [(M.rest:Int)] _ (zee (by omega) (by omega) (by simp[go_sem]))) fun g4 hgr=>?_
 clear hgr;rw[zwa,zxg (by omega)];go_wp2_with fail;go_ret;exact⟨rfl,HW.out.trans' (zb7 W0 _)⟩
theorem zacd(M:zl)(V:zag M)(hpos:∀i,i<M.n→1≤M.ss.getD i 0)(ka sa:Option Addr)(kc sc vb vc:Nat)(w:World)(hk:zo w .i64 (.slice ka M.n kc) (zy M.ks))(hs:zo w .i64 (.slice sa M.n sc) (zy M.ss))(hv:w.cell? ⟨vb,0,none⟩=some (.slice sa M.n sc))(hvc:1≤vc) :
  Calls Tryz.prog 51 #[.agg #[.int .i64 M.L,.int .i64 M.n,.slice ka M.n kc,.int .i64 M.rest],.slice (some ⟨vb,0,none⟩) 1 vc] w fun e w'=>e=.returned (.int .i64 0)∧Ext w w':=by
 have hL:=V.L;have hn:=V.n;obtain⟨hw1,hw2,hw3⟩:=zjf hL.2;have hall:(zy M.ss).all (inR 1 ((2^M.L:Nat)-1:Int))=true:=zzi fun i hi=>by
  rw[V.sl]at hi;have h1:=V.ss i hi;have h2:=hpos i hi;omega
 obtain⟨N,hN⟩:∃N:Nat,N=2^M.L:=⟨_,rfl⟩
 rw[←hN]at hw1 hw2 hw3 hall;have hmin:min M.L 64=M.L:=by omega
 have hwN:IntKind.i64.wrap ((N:Int)-1)=(N:Int)-1:=wbh _ (by omega);have HS0:=hid hs;have HALL:=hid hall;have HHN:=hid hN;clear hs hall hN
 go_enter Tryz.func51,Tryz.ntmps51
 go_upto_region 1 with(fail);obtain⟨W0,hW0⟩:∃W0,W0=w.alloc (.cells #[.int .i64 M.L,.int .i64 M.n,.slice ka M.n kc,.int .i64 M.rest] 24):=⟨_,rfl⟩
 have hE:Ext w W0:=by rw[hW0];exact xx
 have k0:W0.cell? ⟨w.heap.size,0,none⟩=some (.int .i64 M.L):=by rw[hW0];simp[go_sem]
 have k1:W0.cell? ⟨w.heap.size,1,none⟩=some (.int .i64 M.n):=by rw[hW0];simp[go_sem]
 have k2:W0.cell? ⟨w.heap.size,2,none⟩=some (.slice ka M.n kc):=by rw[hW0];simp[go_sem]
 have k3:W0.cell? ⟨w.heap.size,3,none⟩=some (.int .i64 M.rest):=by rw[hW0];simp[go_sem]
 have hz:w.heap.size<W0.heap.size:=wfu _ _ k0;have HW:=hid hE;have HK:=hid (zo.ext hE hk);rw[←hW0];clear hW0 hk hE;have kv:=zh HW.out hv;have HS:=hid (HS0.out.ext HW.out);have hzv:=wfu _ _ hv;simp only at hzv;have hzv0:vb<W0.heap.size:=by omega
 clear hv;go_wp2_with fail
 go_loopw [9] (fun iv W=>∃k:Nat,k≤1∧iv=.int .i64 k∧Ext W0 W) (fun iv _=>1-(intOf iv).toNat)
 case atStart=>exact⟨0,by omega,rfl,Below.refl _ _⟩
 case round =>
  obtain⟨k,hk,rfl,hE⟩:=hrel;obtain⟨X,rfl⟩:∃X,X=wr:=⟨_,rfl⟩
  have HEX:=hid hE
  by_cases hlt:k<1
  ·have hk0:k=0:=by omega
   subst hk0;clear hk hlt;replace k0:=zh hE k0;replace k1:=zh hE k1;replace kv:=zh hE kv;have zc:=wfu _ _ k0;have zv:=wfu _ _ kv;simp only at zc zv;replace HS:=hid (HS.out.ext hE);clear hE k2 k3;go_wp2_with fail;refine ze1 (W0:=X) (g:=⟨X,Below.refl _ _⟩) xx (zes 1 ((N:Int)-1) _ (zy M.ss) _ (HS.out.ext xx)) fun g1 hgr=>?_
   clear hgr;rw[HALL.out];go_wp2_with fail;exact⟨⟨1,by omega,by go_num,HEX.out.trans' (zb7 X _)⟩,by simp[intOf]⟩
  ·have hk1:k=1:=by omega
   subst hk1;clear hE;go_wp2_with fail;go_ret;exact⟨rfl,HW.out.trans' HEX.out⟩
def zcw(r:Nat×Nat):List Value:=[.int .i64 (r.1:Int),.int .i64 (r.2:Int)]
def nxR(l:List (Nat×Nat)):Nat→Nat
 |0=>0
 |k+1=>(l.getD k (0,0)).2+1
structure zfp(all:Nat)(l:List (Nat×Nat)):Prop where
 len:l.length≤10
 each:∀k,k<l.length→nxR l k≤(l.getD k (0,0)).1∧(l.getD k (0,0)).1≤(l.getD k (0,0)).2∧(l.getD k (0,0)).2<all
theorem zgm{w:World}{v:Value}{l:List (Nat×Nat)}(h:zao w 2 v (l.map zcw)):∃sa cap,v=.slice sa l.length cap∧l.length≤cap∧cap≤9223372036854775807∧∀k,k<l.length→∃b off,sa=some ⟨b,off,none⟩∧∀k,k<l.length→∀W,Ext w W→W.cell? ⟨b,off+k*2,none⟩=some (.int .i64 ((l.getD k (0,0)).1:Int))∧W.cell? ⟨b,off+k*2+1,none⟩=some (.int .i64 ((l.getD k (0,0)).2:Int)):=by
 obtain⟨sa,cap,h1,h2,h3,h4⟩:=h;rw[wc8]at h1 h2;refine⟨sa,cap,h1,h2,h3,fun k hk=>?_⟩
 rcases h4 with h4|⟨b,off,e,h4⟩
 ·rw[wdh.1 h4]at hk
  simp at hk
 ·refine⟨b,off,e,fun k hk W hE=>?_⟩
  have c0:=zh hE (h4 k (by simpa using hk) 0 (by simp[zcw]));have c1:=zh hE (h4 k (by simpa using hk) 1 (by simp[zcw]));simp only[wcx,zcw,wcw,wcv,wei]at c0 c1;rw[wch,wcn hk,wfk];exact⟨c0,c1⟩
theorem z03(M:zl)(V:zag M)(p mb:Nat)(ka sa:Option Addr)(kc sc:Nat)(l:List (Nat×Nat))(hl:zfp (cnt M ts0) l)(v:Value)(w:World)(h:zc6 w p M ka sa kc sc mb)(hr:zao w 2 v (l.map zcw)) :
  Calls Tryz.prog 22 #[.pointer (some ⟨p,0,none⟩),v] w fun e w'=>e=.returned (.int .i64 0)∧Ext w w':=by
 obtain⟨sl,cap,rfl,hcap,-,hc⟩:=zgm hr;have hlen:=hl.len;have HV:=hid hl;have hmx:=zfz V ts0;have hmy:=znh M p mb ka sa kc sc w h;obtain⟨C,hC⟩:∃C,C=cnt M ts0:=⟨_,rfl⟩
 rw[←hC]at hmy hmx;have HMY:=hid hmy;have HC:=hid hC;have HCE:=hid hc;clear h hr hc hC hmy hl
 go_enter Tryz.func22,Tryz.ntmps22
 go_wp2_with fail;refine HMY.out.mono ?_
 rintro e W1 ⟨rfl,hE1⟩;have HE1:=hid hE1;clear hE1;go_wp2_with fail
 go_loopw [5,16] (fun nv iv W=>∃k:Nat,k≤l.length∧nv=.int .i64 (nxR l k)∧iv=.int .i64 k∧Ext W1 W) (fun _ iv _=>l.length-(intOf iv).toNat)
 case atStart=>exact⟨0,by omega,rfl,rfl,Below.refl _ _⟩
 case round =>
  obtain⟨k,hk,rfl,rfl,hE⟩:=hrel;have HE:=hid hE
  by_cases hlt:k<l.length
  ·have hki:(k:Int)<(l.length:Int):=by omega
   obtain⟨b,off,rfl,hcc⟩:=HCE.out k hlt;obtain⟨d0,d1⟩:=hcc k hlt wr (HE1.out.trans' hE);obtain⟨h1,h2,h3⟩:=HV.out.each k hlt;rw[←HC.out]at h3;have hnx:nxR l (k+1)=(l.getD k (0,0)).2+1:=rfl;obtain⟨a,ha⟩:∃a,a=(l.getD k (0,0)).1:=⟨_,rfl⟩
   obtain⟨c,hc⟩:∃c,c=(l.getD k (0,0)).2:=⟨_,rfl⟩
   obtain⟨n,hn⟩:∃n,n=nxR l k:=⟨_,rfl⟩
   rw[←ha]at d0 h1 h2;rw[←hc]at d1 h2 h3 hnx;rw[←hn]at h1 ⊢;have hw:IntKind.i64.wrap ((c:Int)+1)=((c+1:Nat):Int):=by rw[wbh _ (by omega)];omega
   have HNX:=hid hnx;have zd:=wfu _ _ d0;simp only at zd;have q1:¬((a:Int)<(n:Int)):=by omega
   have q2:¬((c:Int)<(a:Int)):=by omega
   have q3:¬((C:Int)≤(c:Int)):=by omega
   clear ha hc hn hnx hcc h1 h2 h3 hE;go_wp2_with fail;exact⟨⟨k+1,by omega,by rw[HNX.out];go_num,by go_num,HE.out.trans' (by exact xx)⟩,by simp[intOf];omega⟩
  ·have hki:¬((k:Int)<(l.length:Int)):=by omega
   clear hE;go_wp2_with fail;go_ret;exact⟨rfl,HE1.out.trans' HE.out⟩
def opM(M:zl):zl:={ M with ss:=List.replicate M.n (2^M.L-1) }
theorem z31(M:zl){i:Nat}(h:i<M.n):(opM M).ss.getD i 0=2^M.L-1:=by
 simp[opM,wch,wcs,h]
theorem zjz{M:zl}(V:zag M):zag (opM M):=by
 refine⟨V.L,V.n,V.kl,by simp[opM],V.ks,fun i hi=>?_,V.rest⟩;rw[z31 M hi];have:1≤2^M.L:=we1;show 2^M.L-1<2^M.L;omega
theorem zqh(M:zl):zef (opM M):=fun i hi=>z31 M hi
theorem z74(M:zl):zda (opM M) M:=⟨rfl,rfl,rfl,rfl⟩
theorem map_cell{W:World}{mb:Nat}{M:zl}(h:zan W mb M)(o:Nat):W.cell? ⟨mb,o,none⟩=none:=by
 obtain⟨F,⟨es,c,hm,-⟩,-⟩:=h;have h':W.heap[mb]?=_:=hm;simp[World.cell?,h']
theorem zk9{W:World}{p m2 mb:Nat}{M T:zl}{ka sa:Option Addr}{kc sc:Nat}(V:zag T)(hm:zan W mb M)(h:zbm W p T ka sa kc sc m2):zqa p ka sa mb:=by
 have hb:∀{A:Option Addr} {n c:Nat} {l:List Nat},zo W .i64 (.slice A n c) (zy l)→0<l.length→∀b off,A=some ⟨b,off,none⟩→b≠mb:=by
  intro A n c l hi hl b off e e2;subst e e2;obtain⟨sb,so,e,hc⟩:=za7 hi hl;have h1:=hc 0 hl W (Below.refl _ _);cases e;rw[map_cell hm]at h1;cases h1
 have hn:=V.n;refine⟨fun e=>?_,hb h.ks (by rw[V.kl];omega),hb h.ss (by rw[V.sl];omega)⟩;have h1:=h.c0;rw[e,map_cell hm]at h1;cases h1
structure zdw(W:World)(p p2 mb mb2:Nat)(M T:zl)(ka sa sa2:Option Addr)(kc sc sc2:Nat):Prop where
 a:zc6 W p M ka sa kc sc mb
 b:zc6 W p2 T ka sa2 kc sc2 mb2
 oa:zqa p2 ka sa2 mb
 ob:zqa p ka sa mb2
 ne:mb≠mb2
theorem zdw.ext{W W':World}{p p2 mb mb2:Nat}{M T:zl}{ka sa sa2:Option Addr}{kc sc sc2:Nat}(h:zdw W p p2 mb mb2 M T ka sa sa2 kc sc sc2)(e:Ext W W'):zdw W' p p2 mb mb2 M T ka sa sa2 kc sc sc2:=⟨h.a.ext e,h.b.ext e,h.oa,h.ob,h.ne⟩
theorem zdw.fst{W W':World}{p p2 mb mb2:Nat}{M T:zl}{ka sa sa2:Option Addr}{kc sc sc2:Nat}(h:zdw W p p2 mb mb2 M T ka sa sa2 kc sc sc2)(k:Kept (fun k=>k≠mb) W W')(hm:zan W' mb M):zdw W' p p2 mb mb2 M T ka sa sa2 kc sc sc2 :=
 ⟨h.a.kept k (fun _ _ hb=>hb) hm,⟨h.b.m.kept h.oa k fun _ _ hb=>hb,h.b.o,h.b.map.of_heap (k.same _ h.b.map.lt h.ne.symm)⟩,h.oa,h.ob,h.ne⟩
theorem zdw.snd{W W':World}{p p2 mb mb2:Nat}{M T:zl}{ka sa sa2:Option Addr}{kc sc sc2:Nat}(h:zdw W p p2 mb mb2 M T ka sa sa2 kc sc sc2)(k:Kept (fun k=>k≠mb2) W W')(hm:zan W' mb2 T):zdw W' p p2 mb mb2 M T ka sa sa2 kc sc sc2 :=
 ⟨⟨h.a.m.kept h.ob k fun _ _ hb=>hb,h.a.o,h.a.map.of_heap (k.same _ h.a.map.lt h.ne)⟩,h.b.kept k (fun _ _ hb=>hb) hm,h.oa,h.ob,h.ne⟩
theorem zmi(M:zl)(V:zag M)(ka:Option Addr)(kc:Nat)(w:World)(hk:zo w .i64 (.slice ka M.n kc) (zy M.ks)):Calls Tryz.prog 27 #[.agg #[.int .i64 M.L,.int .i64 M.n,.slice ka M.n kc,.int .i64 M.rest]] w fun e w' =>
  ∃p mb sa sc,e=.returned (.tuple #[.pointer (some ⟨p,0,none⟩),.int .i64 0])∧Ext w w'∧w.heap.size≤p∧w.heap.size≤mb∧zc6 w' p (opM M) ka sa kc sc mb:=by
 go_enter Tryz.func27,Tryz.ntmps27
 go_upto_region 1 with(fail);obtain⟨W0,hW0⟩:∃W0,W0=w.alloc (.cells #[.int .i64 M.L,.int .i64 M.n,.slice ka M.n kc,.int .i64 M.rest] 24):=⟨_,rfl⟩
 have hE:Ext w W0:=by rw[hW0];exact xx
 have k0:W0.cell? ⟨w.heap.size,0,none⟩=some (.int .i64 M.L):=by rw[hW0];simp[go_sem]
 have k1:W0.cell? ⟨w.heap.size,1,none⟩=some (.int .i64 M.n):=by rw[hW0];simp[go_sem]
 have k2:W0.cell? ⟨w.heap.size,2,none⟩=some (.slice ka M.n kc):=by rw[hW0];simp[go_sem]
 have k3:W0.cell? ⟨w.heap.size,3,none⟩=some (.int .i64 M.rest):=by rw[hW0];simp[go_sem]
 have hz:w.heap.size<W0.heap.size:=wfu _ _ k0;have HW:=hid hE;have HK:=hid (zo.ext hE hk);rw[←hW0];clear hW0 hk hE;go_wp2_with fail;refine(zae5 M V ka kc _ HK.out).mono ?_
 rintro e W1 ⟨rfl,hE1⟩;have HE1:=hid (HW.out.trans' hE1);have HK1:=hid (HK.out.ext hE1);replace k0:=zh hE1 k0;replace k1:=zh hE1 k1;replace k2:=zh hE1 k2;replace k3:=zh hE1 k3;clear hE1;go_wp2_with fail;refine(zzf (opM M) (zjz V) rfl ka kc _ HK1.out).mono ?_
 rintro e W2 ⟨p,mb,sa,sc,rfl,hE2,hp,hm,h1,h2,h3⟩;have HE2:=hid (HE1.out.trans' hE2);have hz1:=HE1.out.size;have HI:=hid (zc6.mk h1 h2 h3);clear hE2 h1 h2 h3;go_wp2_with fail;refine bodyPost_ret (v:=.tuple #[.pointer (some ⟨p,0,none⟩),.int .i64 0]) (by simp[results,Tryz.results27,go_sem]) rfl ?_
 exact⟨p,mb,sa,sc,rfl,HE2.out,by omega,by omega,HI.out⟩
theorem zvc(M:zl)(V:zag M)(hpos:∀i,i<M.n→1≤M.ss.getD i 0)(ka st:Option Addr)(kc tc:Nat)(w:World)(hk:zo w .i64 (.slice ka M.n kc) (zy M.ks))(hs:zo w .i64 (.slice st M.n tc) (zy M.ss)):Calls Tryz.prog 21 #[.agg #[.int .i64 M.L,.int .i64 M.n,.slice ka M.n kc,.int .i64 M.rest],.slice st M.n tc] w fun e w' =>
  ∃p p2 mb mb2 sa sa2 sc sc2,e=.returned (.tuple #[.pointer (some ⟨p,0,none⟩),.pointer (some ⟨p2,0,none⟩),.int .i64 0])∧Ext w w'∧w.heap.size≤mb∧w.heap.size≤mb2∧zdw w' p p2 mb mb2 (opM M) M ka sa sa2 kc sc sc2:=by
 have HK0:=hid hk;have HS:=hid hs
 go_enter Tryz.func21,Tryz.ntmps21
 go_upto_region 1 with(fail);obtain⟨W0,hW0⟩:∃W0,W0=w.alloc (.cells #[.int .i64 M.L,.int .i64 M.n,.slice ka M.n kc,.int .i64 M.rest] 24):=⟨_,rfl⟩
 have hE:Ext w W0:=by rw[hW0];exact xx
 have k0:W0.cell? ⟨w.heap.size,0,none⟩=some (.int .i64 M.L):=by rw[hW0];simp[go_sem]
 have k1:W0.cell? ⟨w.heap.size,1,none⟩=some (.int .i64 M.n):=by rw[hW0];simp[go_sem]
 have k2:W0.cell? ⟨w.heap.size,2,none⟩=some (.slice ka M.n kc):=by rw[hW0];simp[go_sem]
 have k3:W0.cell? ⟨w.heap.size,3,none⟩=some (.int .i64 M.rest):=by rw[hW0];simp[go_sem]
 have hz:w.heap.size<W0.heap.size:=wfu _ _ k0;have HW:=hid hE;have HK:=hid (zo.ext hE hk);rw[←hW0];clear hW0 hk hE;go_wp2_with fail;refine(zmi M V ka kc _ HK.out).mono ?_
 rintro e W1 ⟨p,mb,sa,sc,rfl,hE1,hp,hm,hI⟩;have HE1:=hid (HW.out.trans' hE1);have HI:=hid hI;replace k0:=zh hE1 k0;replace k1:=zh hE1 k1;replace k2:=zh hE1 k2;replace k3:=zh hE1 k3;have hz1:=hE1.size;have hmb:=hI.map.lt;have hwz1:w.heap.size<W1.heap.size:=by omega
 clear hE1 hI hs;go_wp2_with fail;refine(zacd M V hpos ka st kc tc W1.heap.size 1 _ (HK0.out.ext (HE1.out.trans' (by exact xx))) (HS.out.ext (HE1.out.trans' (by exact xx))) (by simp[go_sem]) (weq _)).mono ?_
 rintro e W2 ⟨rfl,hE2⟩;have hE12:Ext W1 W2:=Ext.trans' (by exact xx) hE2;have HE2:=hid (HE1.out.trans' hE12);have HI2:=hid (HI.out.ext hE12);replace k0:=zh hE12 k0;replace k1:=zh hE12 k1;replace k2:=zh hE12 k2;replace k3:=zh hE12 k3;have hz2:=hE12.size;have hwz2:w.heap.size<W2.heap.size:=by omega
 clear hE12 hE2;go_wp2_with fail;refine(zi1 M V ka st kc tc _ (HK0.out.ext HE2.out) (HS.out.ext HE2.out)).mono ?_
 rintro e W3 ⟨p2,mb2,sa2,sc2,rfl,hE3,hp2,hm2,h1,h2,h3⟩;have HE3:=hid (HE2.out.trans' hE3);have HI3:=hid (HI2.out.ext hE3);have HJ:=hid (zc6.mk h1 h2 h3);clear hE3 h1 h2 h3;go_wp2_with fail;refine bodyPost_ret (v:=.tuple #[.pointer (some ⟨p,0,none⟩),.pointer (some ⟨p2,0,none⟩),.int .i64 0]) (by simp[results,Tryz.results21,go_sem]) rfl ?_
 exact⟨p,p2,mb,mb2,sa,sa2,sc,sc2,rfl,HE3.out,by omega,by omega,HI3.out,HJ.out,zk9 V HI3.out.map HJ.out.m,zk9 (zjz V) HJ.out.map HI3.out.m,by omega⟩
theorem zace{M:zl}(V:zag M):∀(f:Nat) (s:TSt) (x:Nat),M.n-s.at_=f→s.at_≤M.n→x<cnt M s→∃u,zbu M u s x
 |0,s,x,hf,hs,hx=>by
  rw[zih (by omega)]at hx
  split at hx
  ·exact⟨[],by omega,by assumption,by omega⟩
  ·omega
 |f+1,s,x,hf,hs,hx=>by
  rw[zgk (by omega)]at hx;have hd:∀k,k≤M.L→x<zaq (za8 M s) k→∃c,c<M.L∧zaq (za8 M s) c≤x∧x<zaq (za8 M s) c+za8 M s c:=by
   intro k
   induction k with
   |zero=>intro _ h;simp[zaq]at h
   |succ k ih =>
    intro hk h;rw[zaq]at h
    by_cases h2:x<zaq (za8 M s) k
    ·exact ih (by omega) h2
    ·exact⟨k,by omega,by omega,h⟩
  obtain⟨c,hc,h1,h2⟩:=hd M.L (weq _) hx;have hok:okS M s c=true:=by
   rcases Bool.eq_false_or_eq_true (okS M s c)with h|h
   ·exact h
   ·have:za8 M s c=0:=by unfold za8;rw[h];rfl
    omega
  have hw:za8 M s c=cnt M (toS M s c):=by unfold za8;rw[if_pos hok]
  obtain⟨u,hu⟩:=zace V f (toS M s c) (x-zaq (za8 M s) c) (by unfold toS;simp only;omega) (by unfold toS;simp only;omega) (by omega);exact⟨c::u,by omega,hc,hok,_,by omega,by omega,hu⟩
theorem zgn{M:zl}(V:zag M){x:Nat}(hx:x<cnt M ts0):zbu M (zfo M x) ts0 x:=by
 obtain⟨u,hu⟩:=zace V _ ts0 x rfl (wfd _) hx;rw[zzh hu];exact hu
def bfI(M T:zl)(x:Nat):Nat:=zci T (zfo M x) ts0
def ftI(M T:zl)(x:Nat):Bool:=zkm T (zfo M x) T.n
def upI(M T:zl)(x:Nat):Nat:=bfI M T x+zh2 (ftI M T x)
def zi3(M T:zl)(r:Nat×Nat):List (Nat×Nat):=if bfI M T r.1<upI M T r.2 then [(bfI M T r.1,upI M T r.2-1)]else []
def zcj(M T:zl)(l:List (Nat×Nat)):List (Nat×Nat):=l.flatMap (zi3 M T)
theorem zacf(M T:zl)(l:List (Nat×Nat)){k:Nat}(h:k<l.length):zcj M T (l.take (k+1))=zcj M T (l.take k)++zi3 M T (l.getD k (0,0)):=by
 unfold zcj;rw[wea,List.flatMap_append,wcn h,wch,wcn h];simp
theorem zni(M T:zl):∀l,(zcj M T l).length≤l.length
 |[]=>by simp[zcj]
 |r::l=>by
  have h1:=zni M T l;have h2:(zi3 M T r).length≤1:=by unfold zi3;split<;>simp
  unfold zcj at h1 ⊢;rw[wce,wc3,wc4];omega
theorem z90{M T:zl}(D:zda M T)(V:zag M){x:Nat}(hx:x<cnt M ts0):upI M T x≤cnt T ts0:=by
 have h1:=zgn V hx;have h2:=z70 D h1;have h3:=h1.len;unfold upI bfI ftI;rw[D.n,←show(zfo M x).length=M.n by simpa[ts0]using h3,z0y];exact h2
theorem znj(M:zl)(V:zag M)(p mb:Nat)(ka sa:Option Addr)(kc sc:Nat)(x:Nat)(hx:x<cnt M ts0)(w:World)(h:zc6 w p M ka sa kc sc mb) :
  Calls Tryz.prog 33 #[.pointer (some ⟨p,0,none⟩),.int .i64 x] w (McQ mb M (.string (zcn (zfo M x))) w):=by
 refine(callsIn_wide.1 (zah6 M V p mb ka sa kc sc x hx w h)).mono ?_
 rintro e W' ⟨ls,hls,hq⟩;rw[zzh hls];exact hq
theorem zmj(M:zl)(V:zag M)(p mb:Nat)(ka sa:Option Addr)(kc sc:Nat)(ls:List Nat)(hl:ls.length=M.n)(hc:∀c∈ls,c<M.L)(w:World)(h:zc6 w p M ka sa kc sc mb) :
  Calls Tryz.prog 32 #[.pointer (some ⟨p,0,none⟩),.string (zcn ls)] w (McQ mb M (.int .i64 (zci M ls ts0:Int)) w):=callsIn_wide.1 (zab9 M V p mb ka sa kc sc ls hl hc w h)
theorem zbm.keptP{S:Nat→Prop}{W W':World}{p:Nat}{M:zl}{ka sa:Option Addr}{kc sc mb:Nat}(h:zbm W p M ka sa kc sc mb)(k:Kept S W W')(hp:S p)(hk:∀b off,ka=some ⟨b,off,none⟩→S b)(hs:∀b off,sa=some ⟨b,off,none⟩→S b):zbm W' p M ka sa kc sc mb :=
 ⟨k.cell h.c0 hp,k.cell h.c1 hp,k.cell h.c2 hp,k.cell h.c3 hp,k.cell h.c4 hp,k.cell h.c5 hp,zgl h.ks k hk,zgl h.ss k hs⟩
theorem zdw.kept2{W W':World}{p p2 mb mb2:Nat}{M T:zl}{ka sa sa2:Option Addr}{kc sc sc2:Nat}(h:zdw W p p2 mb mb2 M T ka sa sa2 kc sc sc2)(k:Kept (fun k=>k≠mb∧k≠mb2) W W')(m1:zan W' mb M)(m2:zan W' mb2 T):zdw W' p p2 mb mb2 M T ka sa sa2 kc sc sc2 :=
 ⟨⟨h.a.m.keptP k ⟨h.a.o.p,h.ob.p⟩ (fun b o e=>⟨h.a.o.k b o e,h.ob.k b o e⟩) fun b o e=>⟨h.a.o.s b o e,h.ob.s b o e⟩,h.a.o,m1⟩,⟨h.b.m.keptP k ⟨h.oa.p,h.b.o.p⟩ (fun b o e=>⟨h.oa.k b o e,h.b.o.k b o e⟩) fun b o e=>⟨h.oa.s b o e,h.b.o.s b o e⟩,h.b.o,m2⟩,h.oa,h.ob,h.ne⟩
theorem Kept.transB{S:Nat→Prop}{a b c:World}(h:Kept S a b)(k:Kept (fun k=>k<a.heap.size) b c):Kept S a c :=
 ⟨k.os.trans h.os,k.tape.trans h.tape,k.output.trans h.output,wer h.size k.size,fun i hi hs=>(k.same i (wet hi h.size) hi).trans (h.same i hi hs)⟩
theorem elRg:El 43 45 2:=El.mk' (bytes:=16) (z:=.agg #[.int .i64 0,.int .i64 0]) (by kernel_rfl) (by kernel_rfl) rfl (by omega) (by omega)
structure zho(w W:World)(mb mb2:Nat)(M T:zl):Prop where
 k:Kept (fun k=>k≠mb∧k≠mb2) w W
 m1:zan W mb M
 m2:zan W mb2 T
theorem zho.ext{w W W':World}{mb mb2:Nat}{M T:zl}(h:zho w W mb mb2 M T)(e:Ext W W'):zho w W' mb mb2 M T:=⟨h.k.trans (Kept.of_below e),h.m1.of_heap (e.block _ h.m1.lt),h.m2.of_heap (e.block _ h.m2.lt)⟩
theorem zho.low{w W W':World}{mb mb2:Nat}{M T:zl}(h:zho w W mb mb2 M T)(h1:mb<w.heap.size)(h2:mb2<w.heap.size)(k:Kept (fun k=>k<w.heap.size) W W'):zho w W' mb mb2 M T:=⟨h.k.transB k,h.m1.of_heap (k.same _ h.m1.lt h1),h.m2.of_heap (k.same _ h.m2.lt h2)⟩
theorem zho.fst{w W W':World}{mb mb2:Nat}{M T:zl}(h:zho w W mb mb2 M T)(hn:mb≠mb2)(k:Kept (fun k=>k≠mb) W W')(hm:zan W' mb M):zho w W' mb mb2 M T:=⟨h.k.trans (k.mono fun _ _ h=>h.1),hm,h.m2.of_heap (k.same _ h.m2.lt hn.symm)⟩
theorem zho.snd{w W W':World}{mb mb2:Nat}{M T:zl}(h:zho w W mb mb2 M T)(hn:mb≠mb2)(k:Kept (fun k=>k≠mb2) W W')(hm:zan W' mb2 T):zho w W' mb mb2 M T:=⟨h.k.trans (k.mono fun _ _ h=>h.2),h.m1.of_heap (k.same _ h.m1.lt hn),hm⟩
theorem zhb{w:World}{ops:Array Oper}{rest:List Oper}{o:Oper}{a:Act}{Q:Exit→Act→World→Prop}(hgd:o.guard=none)(s x:Operand){t:TypeId}
  (ho:o.op=.call { callee:=.builtin .append,args:=#[s,x],argTypes:=#[t,t] }) {vs vx v':Value} {w':World} (hs:a.eval s=vs) (hx:a.eval x=vx) (hrun:(Builtin.append_ #[t,t] o.type #[vs,vx]).run Tryz.prog w=.ok v' w')
  (h:wpList Tryz.prog ops Q rest (a.put o.dst v') w'):wpList Tryz.prog ops Q (o::rest) a w :=
 wpList_plain hgd fun K hK=>by
  unfold Oper.wp execOp;simp only[ho,resolve,invoke,builtin,wfr,wfs,wfq,wdl,wdg,wdj,hs,hx,hrun];exact hK _ _ h
theorem zqi(M T:zl)(D:zda M T)(VM:zag M)(VT:zag T)(p p2 mb mb2:Nat)(ka sa sa2:Option Addr)(kc sc sc2:Nat)(l:List (Nat×Nat))(hl:zfp (cnt M ts0) l)(v:Value)(w:World)(h:zdw w p p2 mb mb2 M T ka sa sa2 kc sc sc2)(hr:zao w 2 v (l.map zcw)) :
  Calls Tryz.prog 23 #[.pointer (some ⟨p,0,none⟩),.pointer (some ⟨p2,0,none⟩),v] w fun e w'=>∃v',e=.returned v'∧zho w w' mb mb2 M T∧zao w' 2 v' ((zcj M T l).map zcw):=by
 obtain⟨sl,cap,rfl,hcap,-,hc⟩:=zgm hr;have hlen:=hl.len;have HV:=hid hl;have HT:=hid h;have HCE:=hid hc;have HNE:=hid h.ne;have hm1:=h.a.map.lt;have hm2:=h.b.map.lt;clear h hr hc hl
 go_enter Tryz.func23,Tryz.ntmps23
 go_wp2_with fail
 go_loopw [7,14] (fun ov iv W=>∃k:Nat,k≤l.length∧iv=.int .i64 k∧zho w W mb mb2 M T∧zab W w.heap.size 45 2 ov ((zcj M T (l.take k)).map zcw)) (fun _ iv _=>l.length-(intOf iv).toNat)
 case atStart=>exact⟨0,by omega,rfl,⟨Kept.refl _ _,HT.out.a.map,HT.out.b.map⟩,zab.nil _ _ _ _⟩
 case round =>
  obtain⟨k,hk,rfl,hK,hown⟩:=hrel
  by_cases hlt:k<l.length
  ·have hki:(k:Int)<(l.length:Int):=by omega
   obtain⟨b,off,rfl,hcc⟩:=HCE.out k hlt;obtain⟨d0,d1⟩:=hcc k hlt w (Below.refl _ _);have hbm1:b≠mb:=fun e=>by rw[e,map_cell HT.out.a.map]at d0;cases d0
   have hbm2:b≠mb2:=fun e=>by rw[e,map_cell HT.out.b.map]at d0;cases d0
   replace d0:=hK.k.cell d0 ⟨hbm1,hbm2⟩;replace d1:=hK.k.cell d1 ⟨hbm1,hbm2⟩;obtain⟨h1,h2,h3⟩:=HV.out.each k hlt;obtain⟨sa',sn,scap,rfl⟩:=hown.isSlice;have htk:=zacf M T l hlt;have hln:=zni M T (l.take k);rw[wdd]at hln;obtain⟨a,ha⟩:∃a,a=(l.getD k (0,0)).1:=⟨_,rfl⟩
   obtain⟨c,hc⟩:∃c,c=(l.getD k (0,0)).2:=⟨_,rfl⟩
   rw[show l.getD k (0,0)=(a,c) by rw[ha,hc]]at htk;rw[←ha]at d0 h2;rw[←hc]at d1 h2 h3;have hcm:=zfz VM ts0;have hctm:=zfz VT ts0;have hub:=z90 D VM h3;have hca:=zgn VM (x:=a) (by omega);have hcc2:=zgn VM h3;have HCA:=hid hca;have HCC:=hid hcc2;have ha3:a<cnt M ts0:=by omega
   have hua:=z90 D VM ha3;have HA3:=hid ha3;have HC3:=hid h3;have HTK:=hid htk;have HUB:=hid hub;have HUA:=hid hua;have HK:=hid hK;have HO:=hid hown;have zd:=wfu _ _ d0;simp only at zd;have hwz:=hK.k.size;have hwa:IntKind.i64.wrap (a:Int)=(a:Int):=wbh _ (by omega);clear ha hc hcc h1 h2 h3 hK hown htk hub hca hcc2 ha3 hua hcm hctm;go_wp2_with fail;obtain⟨X1,hX1⟩:∃X,X=wr.alloc (.cells #[.int .i64 a,.int .i64 c] 45):=⟨_,rfl⟩
   have hE1:Ext wr X1:=by rw[hX1];exact xx
   have q0:X1.cell? ⟨wr.heap.size,0,none⟩=some (.int .i64 a):=by rw[hX1];simp[go_sem]
   have q1:X1.cell? ⟨wr.heap.size,1,none⟩=some (.int .i64 c):=by rw[hX1];simp[go_sem]
   have zq:=wfu _ _ q0;simp only at zq;rw[←hX1];have HK1:=hid (HK.out.ext hE1);have HO1:=hid (HO.out.ext hE1);clear hX1 hE1 d0 d1;have hf1:=znj M VM p mb ka sa kc sc c HC3.out X1 (HT.out.kept2 HK1.out.k HK1.out.m1 HK1.out.m2).a;obtain⟨lc,hlc⟩:∃lc,lc=zfo M c:=⟨_,rfl⟩
   rw[←hlc]at hf1 HCC;refine hf1.mono ?_
   rintro e X2 ⟨rfl,hk2,hm2'⟩;clear hf1;replace q0:=hk2.cell q0 (by simp only;omega);replace q1:=hk2.cell q1 (by simp only;omega);replace zq:=wfu _ _ q0;have HK2:=hid (HK1.out.fst HNE.out hk2 hm2');have HO2:=hid (HO1.out.keptAt hk2 fun g cur hB hg _=>by omega);have HLC:=hid hlc;clear hk2 hm2' hlc;simp only at zq;go_wp2_with fail;have hf2:=znj M VM p mb ka sa kc sc a HA3.out X2 (HT.out.kept2 HK2.out.k HK2.out.m1 HK2.out.m2).a;obtain⟨la,hla⟩:∃la,la=zfo M a:=⟨_,rfl⟩
   rw[←hla]at hf2 HCA;refine hf2.mono ?_
   rintro e X3 ⟨rfl,hk3,hm3'⟩;clear hf2;replace q0:=hk3.cell q0 (by simp only;omega);replace q1:=hk3.cell q1 (by simp only;omega);replace zq:=wfu _ _ q0;have HK3:=hid (HK2.out.fst HNE.out hk3 hm3');have HO3:=hid (HO2.out.keptAt hk3 fun g cur hB hg _=>by omega);have HLA:=hid hla;clear hk3 hm3' hla;simp only at zq;go_wp2_with fail;have hlan:la.length=T.n:=by have:=HCA.out.len;rw[D.n];simpa[ts0]using this
   have hlcn:lc.length=T.n:=by have:=HCC.out.len;rw[D.n];simpa[ts0]using this
   have hlal:∀c∈la,c<T.L:=by rw[D.L];exact HCA.out.letters
   have hlcl:∀c∈lc,c<T.L:=by rw[D.L];exact HCC.out.letters
   have HLN:=hid hlcn;have HLL:=hid hlcl;have hf3:=zmj T VT p2 mb2 ka sa2 kc sc2 la hlan hlal X3 (HT.out.kept2 HK3.out.k HK3.out.m1 HK3.out.m2).b;obtain⟨A,hA⟩:∃A,A=zci T la ts0:=⟨_,rfl⟩
   rw[←hA]at hf3;refine hf3.mono ?_
   rintro e X4 ⟨rfl,hk4,hm4'⟩;clear hf3 hlan hlcn hlal hlcl;replace q0:=hk4.cell q0 (by simp only;omega);replace q1:=hk4.cell q1 (by simp only;omega);replace zq:=wfu _ _ q0;have HK4:=hid (HK3.out.snd HNE.out hk4 hm4');have HO4:=hid (HO3.out.keptAt hk4 fun g cur hB hg _=>by omega);have HAA:=hid hA;clear hk4 hm4' hA;simp only at zq;go_wp2_with fail;have hf4:=zmj T VT p2 mb2 ka sa2 kc sc2 lc HLN.out HLL.out X4 (HT.out.kept2 HK4.out.k HK4.out.m1 HK4.out.m2).b;obtain⟨B,hB⟩:∃B,B=zci T lc ts0:=⟨_,rfl⟩
   rw[←hB]at hf4;refine hf4.mono ?_
   rintro e X5 ⟨rfl,hk5,hm5'⟩;clear hf4;replace q0:=hk5.cell q0 (by simp only;omega);replace q1:=hk5.cell q1 (by simp only;omega);replace zq:=wfu _ _ q0;have HK5:=hid (HK4.out.snd HNE.out hk5 hm5');have HO5:=hid (HO4.out.keptAt hk5 fun g cur hB hg _=>by omega);have HBB:=hid hB;clear hk5 hm5' hB;simp only at zq;obtain⟨F,hF⟩:∃F,F=zkm T lc T.n:=⟨_,rfl⟩
   have hbfa:bfI M T a=A:=by rw[HAA.out,HLA.out];rfl
   have hupc:upI M T c=B+zh2 F:=by rw[HBB.out,hF,HLC.out];rfl
   have hctm:=zfz VT ts0;have hAb:A≤1679616:=by have:=HUA.out;unfold upI at this;omega
   have hBb:B+zh2 F≤1679616:=by have:=HUB.out;omega
   obtain⟨Z,hZ⟩:∃Z:Int,Z=(B:Int)-1:=⟨_,rfl⟩
   have hwZ:IntKind.i64.wrap ((B:Int)-1)=Z:=by rw[←hZ];exact wbh _ (by omega)
   have HTK2:Hid (zcj M T (l.take (k+1))=zcj M T (l.take k)++if A<B+zh2 F then [(A,B+zh2 F-1)]else []):=hid (by rw[HTK.out];unfold zi3;rw[hbfa,hupc]);have HF:=hid hF;have HZ:=hid hZ;clear hbfa hupc hctm hF hZ;go_wp2_with fail;obtain⟨X6,hX6⟩:∃X,X=X5.alloc (.cells #[.int .i64 A,.int .i64 Z] 45):=⟨_,rfl⟩
   have hE6:Ext X5 X6:=by rw[hX6];exact xx
   have hr6:X6.heap[X5.heap.size]?=some (.cells #[.int .i64 A,.int .i64 Z] 45 (0,0)):=by rw[hX6];exact World.alloc_heap_new _ _
   rw[←hX6];have HK6:=hid (HK5.out.ext hE6);have HO6:=hid (HO5.out.ext hE6);clear hX6 hE6 q0 q1;have hf5:=zaib T VT p2 mb2 ka sa2 kc sc2 lc HLN.out HLL.out X6 (HT.out.kept2 HK6.out.k HK6.out.m1 HK6.out.m2).b.m;rw[←HF.out]at hf5;refine hf5.mono ?_
   rintro e X7 ⟨rfl,hE7⟩;have zr6:=(wad.1 hr6).1;have hr7:=(hE7.block _ zr6).trans hr6;have HK7:=hid (HK6.out.ext hE7);have HO7:=hid (HO6.out.ext hE7);have hz56:=HK5.out.k.size;have hz67:=hE7.size;clear hf5 hE7 hr6;have r0:X7.cell? ⟨X5.heap.size,0,none⟩=some (.int .i64 A):=by rw[cell_of_row _ _ _ _ _ _ hr7];rfl
   have r1:X7.cell? ⟨X5.heap.size,1,none⟩=some (.int .i64 Z):=by rw[cell_of_row _ _ _ _ _ _ hr7];rfl
   have rf:∀o,X7.frozen? ⟨X5.heap.size,o,none⟩=false:=fun o=>by simp[World.frozen?,hr7]
   have zr7:X5.heap.size<X7.heap.size:=by omega
   have hrm1:X5.heap.size≠mb:=by omega
   have hrm2:X5.heap.size≠mb2:=by omega
   cases F
   ·simp only[zh2,waz,if_false,wei]at HTK2 hBb
    by_cases hAB:A<B
    ·have hcmp:(A:Int)≤Z:=by have:=HZ.out;omega
     rw[if_pos hAB]at HTK2;have hZN:Z=((B-1:Nat):Int):=by have:=HZ.out;omega
     have hAE:(A:Int)≤((B-1:Nat):Int):=by omega
     rw[hZN]at r1 ⊢;clear hcmp hr7 hwZ;have hoY:=HO7.out.ext (show Ext X7 (X7.alloc (.cells #[.int .i64 (A:Int),.int .i64 ((B-1:Nat):Int)] 45))from xx);obtain⟨v',X9,hrun,h2,h3,-⟩:=zfy elRg 43 w.heap.size hoY X7.heap.size 0 1 [[.int .i64 (A:Int),.int .i64 ((B-1:Nat):Int)]] (by simp) (newRow _ [.int .i64 (A:Int),.int .i64 ((B-1:Nat):Int)] _) (by simp[Value.oneCell']) (by simp;omega) (by simp;omega);have HOV:=hid hoY;have h29:=hid h2;have h39:=hid h3;clear h2 h3 hoY;go_wp2_with (at_builtin;refine zhb rfl (.tmp 45) (.tmp 47) rfl rfl rfl hrun ?_);have hk9:=(HK7.out.ext (show Ext X7 (X7.alloc (.cells #[.int .i64 (A:Int),.int .i64 ((B-1:Nat):Int)] 45))from xx)).low hm1 hm2 (h39.out.mono fun j _ hj e=>by have:=(HOV.out.notOwn j e.symm).1;omega);have ho9:=h29.out;rw[show(zcj M T (l.take k)).map zcw++[[.int .i64 (A:Int),.int .i64 ((B-1:Nat):Int)]]=(zcj M T (l.take (k+1))).map zcw by rw[HTK2.out,wde];rfl]at ho9;exact⟨⟨k+1,by omega,by go_num,hk9,ho9⟩,by simp[intOf];omega⟩
    ·have hcmp:¬((A:Int)≤Z):=by have:=HZ.out;omega
     rw[if_neg hAB,wbn]at HTK2;go_wp2_with fail;exact⟨⟨k+1,by omega,by go_num,HK7.out,by rw[HTK2.out];exact HO7.out⟩,by simp[intOf];omega⟩
   ·simp only[zh2,if_true]at HTK2 hBb
    have hwZ1:IntKind.i64.wrap (Z+1)=(B:Int):=by have:=HZ.out;rw[wbh _ (by omega)];omega
    by_cases hAB:A<B+1
    ·have hcmp:(A:Int)≤(B:Int):=by omega
     rw[if_pos hAB]at HTK2;go_upto_region 9 with(fail);obtain⟨X8,hX8⟩:∃X,X=X7.setCell ⟨X5.heap.size,1,none⟩ (.int .i64 (B:Int)):=⟨_,rfl⟩
     have hr8:X8.heap[X5.heap.size]?=some (.cells #[.int .i64 A,.int .i64 B] 45 (0,0)):=by rw[hX8];exact zal hr7 1 _
     have hk78:Kept (fun k=>k≠X5.heap.size) X7 X8:=by rw[hX8];exact(Kept.refl _ X7).setCell (fun _ h=>h rfl) _
     rw[←hX8];clear hX8 r0 r1 rf hr7;have r0:X8.cell? ⟨X5.heap.size,0,none⟩=some (.int .i64 A):=by rw[cell_of_row _ _ _ _ _ _ hr8];rfl
     have r1:X8.cell? ⟨X5.heap.size,1,none⟩=some (.int .i64 B):=by rw[cell_of_row _ _ _ _ _ _ hr8];rfl
     have HK8:=hid (HK7.out.low hm1 hm2 (hk78.mono fun k _ h=>by omega));have HO8:=hid (HO7.out.keptAt hk78 fun g cur hB hg _=>by have:=(HO5.out.notOwn g hg).2;omega);have hz8:=hk78.size;have zr8:X5.heap.size<X8.heap.size:=by omega
     clear hk78 hr8;have hoY:=HO8.out.ext (show Ext X8 (X8.alloc (.cells #[.int .i64 (A:Int),.int .i64 ((B:Nat):Int)] 45))from xx);obtain⟨v',X9,hrun,h2,h3,-⟩:=zfy elRg 43 w.heap.size hoY X8.heap.size 0 1 [[.int .i64 (A:Int),.int .i64 ((B:Nat):Int)]] (by simp) (newRow _ [.int .i64 (A:Int),.int .i64 ((B:Nat):Int)] _) (by simp[Value.oneCell']) (by simp;omega) (by simp;omega);have HOV:=hid hoY;have h29:=hid h2;have h39:=hid h3;clear h2 h3 hoY;go_wp2_with (at_builtin;refine zhb rfl (.tmp 45) (.tmp 47) rfl rfl rfl hrun ?_);have hk9:=(HK8.out.ext (show Ext X8 (X8.alloc (.cells #[.int .i64 (A:Int),.int .i64 ((B:Nat):Int)] 45))from xx)).low hm1 hm2 (h39.out.mono fun j _ hj e=>by have:=(HOV.out.notOwn j e.symm).1;omega);have ho9:=h29.out;rw[show(zcj M T (l.take k)).map zcw++[[.int .i64 (A:Int),.int .i64 ((B:Nat):Int)]]=(zcj M T (l.take (k+1))).map zcw by rw[HTK2.out,wde];rfl]at ho9;exact⟨⟨k+1,by omega,by go_num,hk9,ho9⟩,by simp[intOf];omega⟩
    ·have hcmp:¬((A:Int)≤(B:Int)):=by omega
     rw[if_neg hAB,wbn]at HTK2;go_wp2_with fail;have hk78:Kept (fun k=>k≠X5.heap.size) X7 (X7.setCell ⟨X5.heap.size,1,none⟩ (.int .i64 (B:Int))):=(Kept.refl _ X7).setCell (fun _ h=>h rfl) _;exact⟨⟨k+1,by omega,by go_num,HK7.out.low hm1 hm2 (hk78.mono fun k _ h=>by omega),by rw[HTK2.out];exact HO7.out.keptAt hk78 fun g cur hB hg _=>by have:=(HO5.out.notOwn g hg).2;omega⟩,by simp[intOf];omega⟩
  ·have hki:¬((k:Int)<(l.length:Int)):=by omega
   obtain⟨sa',sn,scap,rfl⟩:=hown.isSlice;have HK:=hid hK;have HR:=hid hown.isRows;clear hK hown;go_wp2_with fail;go_ret;exact⟨_,rfl,HK.out,by rw[show l.take k=l from wec (by omega)]at HR;exact HR.out⟩
def zb3(l:List (Nat×Nat)):Nat:=(l.map fun r=>r.2-r.1+1).sum
theorem zxh(l:List (Nat×Nat)){k:Nat}(h:k<l.length):zb3 (l.take (k+1))=zb3 (l.take k)+((l.getD k (0,0)).2-(l.getD k (0,0)).1+1):=by
 unfold zb3;rw[wea,wde,wd8,wcn h,wch,wcn h];simp
theorem zwb{b:Nat}:∀(l:List (Nat×Nat)),(∀r∈l,r.2-r.1+1≤b)→zb3 l≤l.length*b
 |[],_=>by simp[zb3]
 |r::l,h=>by
  have h1:=zwb l fun x hx=>h x (wdq _ hx)
  have h2:=h r wdr;unfold zb3 at h1 ⊢;rw[wdg,List.sum_cons,wc4,we7];omega
def z91(M:zl)(l:List (Nat×Nat)):Nat:=zb3 (zcj (opM M) M l)
theorem zqj{M T:zl}(D:zda M T)(V:zag M){l:List (Nat×Nat)}(hl:zfp (cnt M ts0) l):∀r∈zcj M T l,r.1≤r.2∧r.2<cnt T ts0:=by
 intro r hr;unfold zcj at hr;obtain⟨x,hx,hr⟩:=wdt.1 hr;obtain⟨k,hk,rfl⟩:=wc0 hx;have h1:=(hl.each k hk).2.2;rw[wch,wcn hk,wfk]at h1;have h2:=z90 D V h1;unfold zi3 at hr
 split at hr
 ·rw[wd0.1 hr]
  simp only;omega
 ·simp at hr
theorem zacg(M:zl)(V:zag M)(hpos:∀i,i<M.n→1≤M.ss.getD i 0)(ka st:Option Addr)(kc tc:Nat)(l:List (Nat×Nat))(hl:zfp (cnt (opM M) ts0) l)(v:Value)(w:World)(hk:zo w .i64 (.slice ka M.n kc) (zy M.ks))(hs:zo w .i64 (.slice st M.n tc) (zy M.ss))(hr:zao w 2 v (l.map zcw)) :
  Calls Tryz.prog 8 #[.agg #[.int .i64 M.L,.int .i64 M.n,.slice ka M.n kc,.int .i64 M.rest],.slice st M.n tc,v] w fun e w'=>e=.returned (.tuple #[.int .i64 (cnt M ts0:Int),.int .i64 (z91 M l:Int),.int .i64 0])∧Ext w w':=by
 have VO:=zjz V;have hlen:=hl.len;have hie:=zqj (z74 M) VO hl;have hil:=zni (opM M) M l;have hcm:=zfz V ts0;obtain⟨il,hi⟩:∃il,il=zcj (opM M) M l:=⟨_,rfl⟩
 rw[show z91 M l=zb3 (zcj (opM M) M l)from rfl];rw[←hi]at hie hil ⊢;obtain⟨S0,hS0⟩:∃S0,S0=zb3 il:=⟨_,rfl⟩
 obtain⟨C,hC⟩:∃C,C=cnt M ts0:=⟨_,rfl⟩
 rw[←hS0,←hC];have HI:=hid hi;have HS0:=hid hS0;have HC:=hid hC;clear hi hS0 hC;have HL:=hid hl;have HS:=hid hs;have HR:=hid hr;obtain⟨sl,cap,rfl,-⟩:=zgm hr;clear hs hr hl
 go_enter Tryz.func8,Tryz.ntmps8
 go_upto_region 1 with(fail);obtain⟨W0,hW0⟩:∃W0,W0=w.alloc (.cells #[.int .i64 M.L,.int .i64 M.n,.slice ka M.n kc,.int .i64 M.rest] 24):=⟨_,rfl⟩
 have hE:Ext w W0:=by rw[hW0];exact xx
 have k0:W0.cell? ⟨w.heap.size,0,none⟩=some (.int .i64 M.L):=by rw[hW0];simp[go_sem]
 have k1:W0.cell? ⟨w.heap.size,1,none⟩=some (.int .i64 M.n):=by rw[hW0];simp[go_sem]
 have k2:W0.cell? ⟨w.heap.size,2,none⟩=some (.slice ka M.n kc):=by rw[hW0];simp[go_sem]
 have k3:W0.cell? ⟨w.heap.size,3,none⟩=some (.int .i64 M.rest):=by rw[hW0];simp[go_sem]
 have hz:w.heap.size<W0.heap.size:=wfu _ _ k0;have HW:=hid hE;have HK:=hid (zo.ext hE hk);rw[←hW0];clear hW0 hk hE;go_wp2_with fail;refine(zvc M V hpos ka st kc tc _ HK.out (HS.out.ext HW.out)).mono ?_
 rintro e W1 ⟨p,p2,mb,mb2,sa,sa2,sc,sc2,rfl,hE1,hm1,hm2,hT⟩;have HE1:=hid (HW.out.trans' hE1);have HT1:=hid hT;clear hE1 hT;go_wp2_with fail;refine(z03 (opM M) VO p mb ka sa kc sc l HL.out _ W1 HT1.out.a (zao.ext HE1.out HR.out)).mono ?_
 rintro e W2 ⟨rfl,hE2⟩;have HE2:=hid (HE1.out.trans' hE2);have HT2:=hid (HT1.out.ext hE2);clear hE2;go_wp2_with fail;refine(zqi (opM M) M (z74 M) VO V p p2 mb mb2 ka sa sa2 kc sc sc2 l HL.out _ W2 HT2.out (zao.ext HE2.out HR.out)).mono ?_
 rintro e W3 ⟨v',rfl,hK3,hR3⟩;have hE3:Ext w W3:=⟨hK3.k.os.trans HE2.out.os,hK3.k.tape.trans HE2.out.tape,hK3.k.output.trans HE2.out.output,wer HE2.out.size hK3.k.size,fun k hk=>(hK3.k.same k (wet hk HE2.out.size) ⟨by omega,by omega⟩).trans (HE2.out.block k hk)⟩
 have HE3:=hid hE3;have HT3:=hid (HT2.out.kept2 hK3.k hK3.m1 hK3.m2);rw[←HI.out]at hR3;obtain⟨sl3,cap3,rfl,-,-,hc3⟩:=zgm hR3;have HC3:=hid hc3;have HIE:=hid hie;clear hK3 hR3 hE3 hc3 hie k0 k1 k2 k3;go_wp2_with fail
 go_loopw [13,37] (fun nv iv W=>∃k:Nat,k≤il.length∧nv=.int .i64 (zb3 (il.take k))∧iv=.int .i64 k∧Ext W3 W) (fun _ iv _=>il.length-(intOf iv).toNat)
 case atStart=>exact⟨0,by omega,rfl,rfl,Below.refl _ _⟩
 case round =>
  obtain⟨k,hk,rfl,rfl,hE⟩:=hrel
  by_cases hlt:k<il.length
  ·have hki:(k:Int)<(il.length:Int):=by omega
   obtain⟨b,off,rfl,hcc⟩:=HC3.out k hlt;obtain⟨d0,d1⟩:=hcc k hlt wr hE;have hsp:=zxh il hlt;have hmem:il.getD k (0,0)∈il:=by rw[wch,wcn hlt];exact wcy hlt
   obtain⟨h1,h2⟩:=HIE.out _ hmem;have hsb:=zwb (b:=1679616) (il.take k) fun r hr=>by have:=HIE.out r (List.mem_of_mem_take hr);omega
   have htk:(il.take k).length≤10:=by rw[wdd];omega
   have hsb2:zb3 (il.take k)≤16796160:=wer hsb (wer (we0 _ htk) (by omega));obtain⟨a,ha⟩:∃a,a=(il.getD k (0,0)).1:=⟨_,rfl⟩
   obtain⟨c,hc⟩:∃c,c=(il.getD k (0,0)).2:=⟨_,rfl⟩
   obtain⟨S,hS⟩:∃S,S=zb3 (il.take k):=⟨_,rfl⟩
   rw[←ha]at d0 h1 hsp;rw[←hc]at d1 h1 h2 hsp;rw[←hS]at hsb2 hsp ⊢;have hw1:IntKind.i64.wrap ((c:Int)-(a:Int))=((c-a:Nat):Int):=by rw[wbh _ (by omega)];omega
   have hw2:IntKind.i64.wrap (((c-a:Nat):Int)+1)=((c-a+1:Nat):Int):=by rw[wbh _ (by omega)];omega
   obtain⟨R,hR⟩:∃R,R=c-a+1:=⟨_,rfl⟩
   rw[←hR]at hw2 hsp;have hw3:IntKind.i64.wrap ((S:Int)+(R:Int))=((S+R:Nat):Int):=by rw[wbh _ (by omega)];omega
   obtain⟨Q,hQ⟩:∃Q,Q=c-a:=⟨_,rfl⟩
   rw[←hQ]at hw1 hw2;have HSP:=hid hsp;have HE:=hid hE;have zd:=wfu _ _ d0;simp only at zd;clear ha hc hcc h1 h2 hsb htk hS hR hQ hsp hE hmem;go_wp2_with fail;exact⟨⟨k+1,by omega,by rw[HSP.out,wbc],by go_num,HE.out.trans' (by exact xx)⟩,by simp[intOf];omega⟩
  ·have hki:¬((k:Int)<(il.length:Int)):=by omega
   have HE:=hid hE;have htk:il.take k=il:=wec (by omega);rw[htk,←HS0.out];clear hE htk;go_wp2_with fail;have hmy:=znh M p2 mb2 ka sa2 kc sc2 wr (HT3.out.ext HE.out).b;rw[←HC.out]at hmy;refine hmy.mono ?_
   rintro e W4 ⟨rfl,hE4⟩;clear hmy;go_wp2_with fail;refine bodyPost_ret (v:=.tuple #[.int .i64 (C:Int),.int .i64 (S0:Int),.int .i64 0]) (by simp[results,Tryz.results8,go_sem]) rfl ?_
   exact⟨rfl,(HE3.out.trans' HE.out).trans' hE4⟩
def zzj(l:List (Nat×Nat)):Nat:=nxR l l.length
theorem zaic(l m:List (Nat×Nat)){k:Nat}(h:k≤l.length):nxR (l++m) k=nxR l k:=by
 match k,h with
 |0,_=>rfl
 |k+1,h =>
  show((l++m).getD k (0,0)).2+1=(l.getD k (0,0)).2+1;rw[wch,wch,wcj (by omega)]
theorem zfp.add{all:Nat}{l:List (Nat×Nat)}(h:zfp all l){r:Nat×Nat}(h0:l.length<10)(h1:zzj l≤r.1)(h2:r.1≤r.2)(h3:r.2<all):zfp all (l++[r]):=by
 refine⟨by rw[wc3,wdc];omega,fun k hk=>?_⟩;rw[wc3,wdc]at hk;rw[zaic l [r] (by omega),wch]
 by_cases e:k=l.length
 ·subst e
  rw[wck (weq _),we6];exact⟨h1,h2,h3⟩
 ·rw[wcj (by omega),←wch]
  exact h.each k (by omega)
theorem zae7(M T:zl)(r:Nat×Nat):zb3 (zi3 M T r)=upI M T r.2-bfI M T r.1:=by
 unfold zi3
 by_cases h:bfI M T r.1<upI M T r.2
 ·rw[if_pos h]
  unfold zb3;rw[wdk,wd9];simp only;omega
 ·rw[if_neg h]
  unfold zb3;rw[wdj,List.sum_nil];omega
end Go.Proofs.YtdcnbeehckgpcaaGreat
end
