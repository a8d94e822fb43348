/-
  The walks of within, CheckDay, checkTorn, checkSold, open and opened of the tickets, where all is valid.
-/
import Derived.Test.YtnoffnkmibjndaaGreatTc
import Derived.Test.YtnoffnkmibjndaaGreatPa
set_option maxRecDepth 200000
set_option maxHeartbeats 0
set_option linter.unusedSimpArgs false
set_option linter.unusedVariables false
namespace Go.Proofs.YtnoffnkmibjndaaGreat
open Go.Lib (hid)
open Go.RowKit Go.Shelf
theorem z07 (n lo hi:Int) (a b:Addr) (w:World) (h1:w.cell? a=some (.int .i64 lo)) (h2:w.cell? b=some (.int .i64 hi)) :
  Calls Tryz.prog 139 #[.int .i64 n,.pointer (some a),.pointer (some b)] w fun e w'=>e = .returned (.bool (decide (n < lo) || decide (hi < n)))∧Ext w w':=by
 go_enter Tryz.func139,Tryz.ntmps139
 go_wp2
 all_goals
  go_ret;exact ⟨zbl (by simp [*]),Below.refl _ _⟩
theorem zga (lo hi:Int) (v:Value) (l:List Int) (w:World) (hv:zn w .i64 v l) :
  Calls Tryz.prog 78 #[.int .i64 lo,.int .i64 hi,v] w fun e w'=>e = .returned (.bool (l.all (inR lo hi)))∧Ext w w':=by
 obtain ⟨sa,cap,rfl,h1,h2,h3⟩:=hv.spec;have H3:=hid h3;clear h3 hv
 go_enter Tryz.func78,Tryz.ntmps78
 go_wp2_with fail;have hE:Ext w ((w.alloc (.cells #[.int .i64 lo] 3)).alloc (.cells #[.int .i64 hi] 3)):=((Below.refl _ _).alloc (Nat.le_refl _) _).alloc (by simp) _;have e1:((w.alloc (.cells #[.int .i64 lo] 3)).alloc (.cells #[.int .i64 hi] 3)).cell? ⟨w.heap.size,0,none⟩=some (.int .i64 lo):=by simp [go_sem]
 have e2:((w.alloc (.cells #[.int .i64 lo] 3)).alloc (.cells #[.int .i64 hi] 3)).cell? ⟨w.heap.size+1,0,none⟩=some (.int .i64 hi):=by simp [go_sem]
 refine (zhc l sa cap 139 #[.pointer (some ⟨w.heap.size,0,none⟩),.pointer (some ⟨w.heap.size+1,0,none⟩)] (fun n=>decide (n < lo) || decide (hi < n)) _ (by omega) (H3.out.imp id fun ⟨b,off,e,hc⟩=>⟨b,off,e,fun i hi=>zf hE (hc i hi)⟩)
  (fun args W=>Tryz.call139 args W) (fun x _ W hW=>z07 x lo hi _ _ W (zf hW e1) (zf hW e2))).mono ?_
 rintro e W' ⟨rfl,hb⟩;clear e1 e2
 go_wp2
 all_goals
  go_ret;refine ⟨zbl (a:=!l.any fun n=>decide (n < lo) || decide (hi < n)) ?_,hE.trans' hb⟩;exact any_inR lo hi l
theorem zu8 {lo hi n:Int} (h:lo≤n∧n≤hi):inR lo hi n=true:=inR_iff.2 h
theorem zt0 (p:Int→Bool) (x:Int):[x].all p=p x:=by simp
theorem z4m {l:List Nat} {lo hi:Int} (h:∀ i,i < l.length→lo≤(l.getD i 0:Int)∧(l.getD i 0:Int)≤hi):(zat l).all (inR lo hi)=true:=by
 rw [List.all_eq_true];intro x hx;obtain ⟨i,hi,rfl⟩:=List.getElem_of_mem hx;rw [zbx] at hi;rw [zw1 hi];exact zu8 (h i hi)
theorem zaa1 (M:zj) (V:zal M) (ka:Option Addr) (kc:Nat) (w:World) (hk:zn w .i64 (.slice ka M.n kc) (zat M.ks)):Calls Tryz.prog 92 #[.agg #[.int .i64 M.L,.int .i64 M.n,.slice ka M.n kc,.int .i64 M.rest]] w fun e w'=>e = .returned (.int .i64 0)∧Ext w w':=by
 have hL:=V.L;have hn:=V.n;have hr:=V.rest;have hall:(zat M.ks).all (inR 0 ((M.L:Int) - 1))=true:=z4m fun i hi=>by
  have:=V.ks i (by rw [V.kl] at hi;exact hi);omega
 have hwL:IntKind.i64.wrap ((M.L:Int) - 1)=(M.L:Int) - 1:=IntWalk.i64_in _ (by omega)
 go_enter Tryz.func92,Tryz.ntmps92
 go_upto_region 1 with (fail);obtain ⟨W0,hW0⟩:∃ W0,W0=w.alloc (.cells #[.int .i64 M.L,.int .i64 M.n,.slice ka M.n kc,.int .i64 M.rest] 27):=⟨_,rfl⟩
 have hE:Ext w W0:=by rw [hW0];exact xx
 have k0:W0.cell? ⟨w.heap.size,0,none⟩=some (.int .i64 M.L):=by rw [hW0];simp [go_sem]
 have k1:W0.cell? ⟨w.heap.size,1,none⟩=some (.int .i64 M.n):=by rw [hW0];simp [go_sem]
 have k2:W0.cell? ⟨w.heap.size,2,none⟩=some (.slice ka M.n kc):=by rw [hW0];simp [go_sem]
 have k3:W0.cell? ⟨w.heap.size,3,none⟩=some (.int .i64 M.rest):=by rw [hW0];simp [go_sem]
 have hz:w.heap.size < W0.heap.size:=World.block_lt_of_cell? _ _ k0;have HW:=hid hE;have HK:=hid (zn.ext hE hk);rw [← hW0];clear hW0 hk hE;go_wp2_with fail;refine zuz (W0:=W0) (g:=⟨W0,Below.refl _ _⟩) xx (zga 2 6 _ [(M.L:Int)] _ (isInts_one (by omega) (by omega) (by simp [go_sem]))) fun g1 hgr=>?_
 clear hgr;rw [zt0,zu8 (by omega)];go_wp2_with fail;refine zuz (W0:=W0) (g:=g1) xx (zga 2 8 _ [(M.n:Int)] _ (isInts_one (by omega) (by omega) (by simp [go_sem]))) fun g2 hgr=>?_
 clear hgr;rw [zt0,zu8 (by omega)];go_wp2_with fail;refine zuz (W0:=W0) (g:=g2) xx (zga 0 ((M.L:Int) - 1) _ (zat M.ks) _ (HK.out.ext xx)) fun g3 hgr=>?_
 clear hgr;rw [hall];go_wp2_with fail;refine zuz (W0:=W0) (g:=g3) xx (zga 0 ((M.L:Int) - 1) _ [(M.rest:Int)] _ (isInts_one (by omega) (by omega) (by simp [go_sem]))) fun g4 hgr=>?_
 clear hgr;rw [zt0,zu8 (by omega)];go_wp2_with fail;go_ret;exact ⟨rfl,HW.out.trans' (zjd W0 _)⟩
theorem z8i (M:zj) (V:zal M) (hpos:∀ i,i < M.n→1≤M.ss.getD i 0) (ka sa:Option Addr) (kc sc vb vc:Nat) (w:World) (hk:zn w .i64 (.slice ka M.n kc) (zat M.ks)) (hs:zn w .i64 (.slice sa M.n sc) (zat M.ss)) (hv:w.cell? ⟨vb,0,none⟩=some (.slice sa M.n sc)) (hvc:1≤vc) :
  Calls Tryz.prog 49 #[.agg #[.int .i64 M.L,.int .i64 M.n,.slice ka M.n kc,.int .i64 M.rest],.slice (some ⟨vb,0,none⟩) 1 vc] w fun e w'=>e = .returned (.int .i64 0)∧Ext w w':=by
 have hL:=V.L;have hn:=V.n;obtain ⟨hw1,hw2,hw3⟩:=bshl hL.2;have hall:(zat M.ss).all (inR 1 ((2 ^ M.L:Nat) - 1:Int))=true:=z4m fun i hi=>by
  rw [V.sl] at hi;have h1:=V.ss i hi;have h2:=hpos i hi;omega
 obtain ⟨N,hN⟩:∃ N:Nat,N=2 ^ M.L:=⟨_,rfl⟩
 rw [← hN] at hw1 hw2 hw3 hall;have hmin:min M.L 64=M.L:=by omega
 have hwN:IntKind.i64.wrap ((N:Int) - 1)=(N:Int) - 1:=IntWalk.i64_in _ (by omega);have HS0:=hid hs;have HALL:=hid hall;have HHN:=hid hN;clear hs hall hN
 go_enter Tryz.func49,Tryz.ntmps49
 go_upto_region 1 with (fail);obtain ⟨W0,hW0⟩:∃ W0,W0=w.alloc (.cells #[.int .i64 M.L,.int .i64 M.n,.slice ka M.n kc,.int .i64 M.rest] 27):=⟨_,rfl⟩
 have hE:Ext w W0:=by rw [hW0];exact xx
 have k0:W0.cell? ⟨w.heap.size,0,none⟩=some (.int .i64 M.L):=by rw [hW0];simp [go_sem]
 have k1:W0.cell? ⟨w.heap.size,1,none⟩=some (.int .i64 M.n):=by rw [hW0];simp [go_sem]
 have k2:W0.cell? ⟨w.heap.size,2,none⟩=some (.slice ka M.n kc):=by rw [hW0];simp [go_sem]
 have k3:W0.cell? ⟨w.heap.size,3,none⟩=some (.int .i64 M.rest):=by rw [hW0];simp [go_sem]
 have hz:w.heap.size < W0.heap.size:=World.block_lt_of_cell? _ _ k0;have HW:=hid hE;have HK:=hid (zn.ext hE hk);rw [← hW0];clear hW0 hk hE;have kv:=zf HW.out hv;have HS:=hid (HS0.out.ext HW.out);have hzv:=World.block_lt_of_cell? _ _ hv;simp only at hzv;have hzv0:vb < W0.heap.size:=by omega
 clear hv;go_wp2_with fail
 go_loopw [9] (fun iv W=>∃ k:Nat,k≤1∧iv = .int .i64 k∧Ext W0 W) (fun iv _=>1 - (intOf iv).toNat)
 case atStart=>exact ⟨0,by omega,rfl,Below.refl _ _⟩
 case round =>
  obtain ⟨k,hk,rfl,hE⟩:=hrel;obtain ⟨X,rfl⟩:∃ X,X=wr:=⟨_,rfl⟩
  have HEX:=hid hE
  by_cases hlt:k < 1
  ·have hk0:k=0:=by omega
   subst hk0;clear hk hlt;replace k0:=zf hE k0;replace k1:=zf hE k1;replace kv:=zf hE kv;have zc:=World.block_lt_of_cell? _ _ k0;have zv:=World.block_lt_of_cell? _ _ kv;simp only at zc zv;replace HS:=hid (HS.out.ext hE);clear hE k2 k3;go_wp2_with fail;refine zuz (W0:=X) (g:=⟨X,Below.refl _ _⟩) xx (zga 1 ((N:Int) - 1) _ (zat M.ss) _ (HS.out.ext xx)) fun g1 hgr=>?_
   clear hgr;rw [HALL.out];go_wp2_with fail;exact ⟨⟨1,by omega,by go_num,HEX.out.trans' (zjd X _)⟩,by simp [intOf]⟩
  ·have hk1:k=1:=by omega
   subst hk1;clear hE;go_wp2_with fail;go_ret;exact ⟨rfl,HW.out.trans' HEX.out⟩
def zcs (r:Nat × Nat):List Value:=[.int .i64 (r.1:Int),.int .i64 (r.2:Int)]
def nxR (l:List (Nat × Nat)):Nat→Nat
 | 0=>0
 | k+1=>(l.getD k (0,0)).2+1
structure zic (all:Nat) (l:List (Nat × Nat)):Prop where
 len:l.length≤10
 each:∀ k,k < l.length→nxR l k≤(l.getD k (0,0)).1∧(l.getD k (0,0)).1≤(l.getD k (0,0)).2∧(l.getD k (0,0)).2 < all
theorem zke {w:World} {v:Value} {l:List (Nat × Nat)} (h:IsRows w 2 v (l.map zcs)):∃ sa cap,v = .slice sa l.length cap∧l.length≤cap∧cap≤9223372036854775807∧∀ k,k < l.length→∃ b off,sa=some ⟨b,off,none⟩∧∀ k,k < l.length→∀ W,Ext w W→W.cell? ⟨b,off+k * 2,none⟩=some (.int .i64 ((l.getD k (0,0)).1:Int))∧W.cell? ⟨b,off+k * 2+1,none⟩=some (.int .i64 ((l.getD k (0,0)).2:Int)):=by
 obtain ⟨sa,cap,h1,h2,h3,h4⟩:=h;rw [List.length_map] at h1 h2;refine ⟨sa,cap,h1,h2,h3,fun k hk=>?_⟩
 rcases h4 with h4 | ⟨b,off,e,h4⟩
 ·rw [List.map_eq_nil_iff.1 h4] at hk
  simp at hk
 ·refine ⟨b,off,e,fun k hk W hE=>?_⟩
  have c0:=zf hE (h4 k (by simpa using hk) 0 (by simp [zcs]));have c1:=zf hE (h4 k (by simpa using hk) 1 (by simp [zcs]));simp only [List.getElem_map,zcs,List.getElem_cons_zero,List.getElem_cons_succ,Nat.add_zero] at c0 c1;rw [List.getD_eq_getElem?_getD,List.getElem?_eq_getElem hk,Option.getD_some];exact ⟨c0,c1⟩
theorem z8j (M:zj) (V:zal M) (p mb:Nat) (ka sa:Option Addr) (kc sc:Nat) (l:List (Nat × Nat)) (hl:zic (cnt M ts0) l) (v:Value) (w:World) (h:ze2 w p M ka sa kc sc mb) (hr:IsRows w 2 v (l.map zcs)) :
  Calls Tryz.prog 24 #[.pointer (some ⟨p,0,none⟩),v] w fun e w'=>e = .returned (.int .i64 0)∧Ext w w':=by
 obtain ⟨sl,cap,rfl,hcap,-,hc⟩:=zke hr;have hlen:=hl.len;have HV:=hid hl;have hmx:=ze9 V ts0;have hmy:=z4g M p mb ka sa kc sc w h;obtain ⟨C,hC⟩:∃ C,C=cnt M ts0:=⟨_,rfl⟩
 rw [← hC] at hmy hmx;have HMY:=hid hmy;have HC:=hid hC;have HCE:=hid hc;clear h hr hc hC hmy hl
 go_enter Tryz.func24,Tryz.ntmps24
 go_wp2_with fail;refine HMY.out.mono ?_
 rintro e W1 ⟨rfl,hE1⟩;have HE1:=hid hE1;clear hE1;go_wp2_with fail
 go_loopw [5,16] (fun nv iv W=>∃ k:Nat,k≤l.length∧nv = .int .i64 (nxR l k)∧iv = .int .i64 k∧Ext W1 W) (fun _ iv _=>l.length - (intOf iv).toNat)
 case atStart=>exact ⟨0,by omega,rfl,rfl,Below.refl _ _⟩
 case round =>
  obtain ⟨k,hk,rfl,rfl,hE⟩:=hrel;have HE:=hid hE
  by_cases hlt:k < l.length
  ·have hki:(k:Int) < (l.length:Int):=by omega
   obtain ⟨b,off,rfl,hcc⟩:=HCE.out k hlt;obtain ⟨d0,d1⟩:=hcc k hlt wr (HE1.out.trans' hE);obtain ⟨h1,h2,h3⟩:=HV.out.each k hlt;rw [← HC.out] at h3;have hnx:nxR l (k+1)=(l.getD k (0,0)).2+1:=rfl;obtain ⟨a,ha⟩:∃ a,a=(l.getD k (0,0)).1:=⟨_,rfl⟩
   obtain ⟨c,hc⟩:∃ c,c=(l.getD k (0,0)).2:=⟨_,rfl⟩
   obtain ⟨n,hn⟩:∃ n,n=nxR l k:=⟨_,rfl⟩
   rw [← ha] at d0 h1 h2;rw [← hc] at d1 h2 h3 hnx;rw [← hn] at h1 ⊢;have hw:IntKind.i64.wrap ((c:Int)+1)=((c+1:Nat):Int):=by rw [IntWalk.i64_in _ (by omega)];omega
   have HNX:=hid hnx;have zd:=World.block_lt_of_cell? _ _ d0;simp only at zd;have q1:¬ ((a:Int) < (n:Int)):=by omega
   have q2:¬ ((c:Int) < (a:Int)):=by omega
   have q3:¬ ((C:Int)≤(c:Int)):=by omega
   clear ha hc hn hnx hcc h1 h2 h3 hE;go_wp2_with fail;exact ⟨⟨k+1,by omega,by rw [HNX.out];go_num,by go_num,HE.out.trans' (by exact xx)⟩,by simp [intOf];omega⟩
  ·have hki:¬ ((k:Int) < (l.length:Int)):=by omega
   clear hE;go_wp2_with fail;go_ret;exact ⟨rfl,HE1.out.trans' HE.out⟩
def opM (M:zj):zj:={ M with ss:=List.replicate M.n (2 ^ M.L - 1) }
theorem z08 (M:zj) {i:Nat} (h:i < M.n):(opM M).ss.getD i 0=2 ^ M.L - 1:=by
 simp [opM,List.getD_eq_getElem?_getD,List.getElem?_replicate,h]
theorem zu9 {M:zj} (V:zal M):zal (opM M):=by
 refine ⟨V.L,V.n,V.kl,by simp [opM],V.ks,fun i hi=>?_,V.rest⟩;rw [z08 M hi];have:1≤2 ^ M.L:=Nat.one_le_two_pow;show 2 ^ M.L - 1 < 2 ^ M.L;omega
theorem zaa2 (M:zj):zu7 (opM M):=fun i hi=>z08 M hi
theorem zw7 (M:zj):zhe (opM M) M:=⟨rfl,rfl,rfl,rfl⟩
theorem map_cell {W:World} {mb:Nat} {M:zj} (h:zbb W mb M) (o:Nat):W.cell? ⟨mb,o,none⟩=none:=by
 obtain ⟨F,⟨es,c,hm,-⟩,-⟩:=h;have h':W.heap[mb]? = _:=hm;simp [World.cell?,h']
theorem z4n {W:World} {p m2 mb:Nat} {M T:zj} {ka sa:Option Addr} {kc sc:Nat} (V:zal T) (hm:zbb W mb M) (h:zba W p T ka sa kc sc m2):zo5 p ka sa mb:=by
 have hb:∀ {A:Option Addr} {n c:Nat} {l:List Nat},zn W .i64 (.slice A n c) (zat l)→0 < l.length→∀ b off,A=some ⟨b,off,none⟩→b≠mb:=by
  intro A n c l hi hl b off e e2;subst e e2;obtain ⟨sb,so,e,hc⟩:=zeg hi hl;have h1:=hc 0 hl W (Below.refl _ _);cases e;rw [map_cell hm] at h1;cases h1
 have hn:=V.n;refine ⟨fun e=>?_,hb h.ks (by rw [V.kl];omega),hb h.ss (by rw [V.sl];omega)⟩;have h1:=h.c0;rw [e,map_cell hm] at h1;cases h1
structure ze4 (W:World) (p p2 mb mb2:Nat) (M T:zj) (ka sa sa2:Option Addr) (kc sc sc2:Nat):Prop where
 a:ze2 W p M ka sa kc sc mb
 b:ze2 W p2 T ka sa2 kc sc2 mb2
 oa:zo5 p2 ka sa2 mb
 ob:zo5 p ka sa mb2
 ne:mb≠mb2
theorem ze4.ext {W W':World} {p p2 mb mb2:Nat} {M T:zj} {ka sa sa2:Option Addr} {kc sc sc2:Nat} (h:ze4 W p p2 mb mb2 M T ka sa sa2 kc sc sc2) (e:Ext W W'):ze4 W' p p2 mb mb2 M T ka sa sa2 kc sc sc2:=⟨h.a.ext e,h.b.ext e,h.oa,h.ob,h.ne⟩
theorem ze4.fst {W W':World} {p p2 mb mb2:Nat} {M T:zj} {ka sa sa2:Option Addr} {kc sc sc2:Nat} (h:ze4 W p p2 mb mb2 M T ka sa sa2 kc sc sc2) (k:Kept (fun k=>k≠mb) W W') (hm:zbb W' mb M):ze4 W' p p2 mb mb2 M T ka sa sa2 kc sc sc2 :=
 ⟨h.a.kept k (fun _ _ hb=>hb) hm,⟨h.b.m.kept h.oa k fun _ _ hb=>hb,h.b.o,h.b.map.of_heap (k.same _ h.b.map.lt h.ne.symm)⟩,h.oa,h.ob,h.ne⟩
theorem ze4.snd {W W':World} {p p2 mb mb2:Nat} {M T:zj} {ka sa sa2:Option Addr} {kc sc sc2:Nat} (h:ze4 W p p2 mb mb2 M T ka sa sa2 kc sc sc2) (k:Kept (fun k=>k≠mb2) W W') (hm:zbb W' mb2 T):ze4 W' p p2 mb mb2 M T ka sa sa2 kc sc sc2 :=
 ⟨⟨h.a.m.kept h.ob k fun _ _ hb=>hb,h.a.o,h.a.map.of_heap (k.same _ h.a.map.lt h.ne)⟩,h.b.kept k (fun _ _ hb=>hb) hm,h.oa,h.ob,h.ne⟩
theorem z8k (M:zj) (V:zal M) (ka:Option Addr) (kc:Nat) (w:World) (hk:zn w .i64 (.slice ka M.n kc) (zat M.ks)):Calls Tryz.prog 48 #[.agg #[.int .i64 M.L,.int .i64 M.n,.slice ka M.n kc,.int .i64 M.rest]] w fun e w' =>
  ∃ p mb sa sc,e = .returned (.tuple #[.pointer (some ⟨p,0,none⟩),.int .i64 0])∧Ext w w'∧w.heap.size≤p∧w.heap.size≤mb∧ze2 w' p (opM M) ka sa kc sc mb:=by
 go_enter Tryz.func48,Tryz.ntmps48
 go_upto_region 1 with (fail);obtain ⟨W0,hW0⟩:∃ W0,W0=w.alloc (.cells #[.int .i64 M.L,.int .i64 M.n,.slice ka M.n kc,.int .i64 M.rest] 27):=⟨_,rfl⟩
 have hE:Ext w W0:=by rw [hW0];exact xx
 have k0:W0.cell? ⟨w.heap.size,0,none⟩=some (.int .i64 M.L):=by rw [hW0];simp [go_sem]
 have k1:W0.cell? ⟨w.heap.size,1,none⟩=some (.int .i64 M.n):=by rw [hW0];simp [go_sem]
 have k2:W0.cell? ⟨w.heap.size,2,none⟩=some (.slice ka M.n kc):=by rw [hW0];simp [go_sem]
 have k3:W0.cell? ⟨w.heap.size,3,none⟩=some (.int .i64 M.rest):=by rw [hW0];simp [go_sem]
 have hz:w.heap.size < W0.heap.size:=World.block_lt_of_cell? _ _ k0;have HW:=hid hE;have HK:=hid (zn.ext hE hk);rw [← hW0];clear hW0 hk hE;go_wp2_with fail;refine (zaa1 M V ka kc _ HK.out).mono ?_
 rintro e W1 ⟨rfl,hE1⟩;have HE1:=hid (HW.out.trans' hE1);have HK1:=hid (HK.out.ext hE1);replace k0:=zf hE1 k0;replace k1:=zf hE1 k1;replace k2:=zf hE1 k2;replace k3:=zf hE1 k3;clear hE1;go_wp2_with fail;refine (zw3 (opM M) (zu9 V) rfl ka kc _ HK1.out).mono ?_
 rintro e W2 ⟨p,mb,sa,sc,rfl,hE2,hp,hm,h1,h2,h3⟩;have HE2:=hid (HE1.out.trans' hE2);have hz1:=HE1.out.size;have HI:=hid (ze2.mk h1 h2 h3);clear hE2 h1 h2 h3;go_wp2_with fail;refine bodyPost_ret (v:=.tuple #[.pointer (some ⟨p,0,none⟩),.int .i64 0]) (by simp [results,Tryz.results48,go_sem]) rfl ?_
 exact ⟨p,mb,sa,sc,rfl,HE2.out,by omega,by omega,HI.out⟩
theorem z3p (M:zj) (V:zal M) (hpos:∀ i,i < M.n→1≤M.ss.getD i 0) (ka st:Option Addr) (kc tc:Nat) (w:World) (hk:zn w .i64 (.slice ka M.n kc) (zat M.ks)) (hs:zn w .i64 (.slice st M.n tc) (zat M.ss)):Calls Tryz.prog 23 #[.agg #[.int .i64 M.L,.int .i64 M.n,.slice ka M.n kc,.int .i64 M.rest],.slice st M.n tc] w fun e w' =>
  ∃ p p2 mb mb2 sa sa2 sc sc2,e = .returned (.tuple #[.pointer (some ⟨p,0,none⟩),.pointer (some ⟨p2,0,none⟩),.int .i64 0])∧Ext w w'∧w.heap.size≤mb∧w.heap.size≤mb2∧ze4 w' p p2 mb mb2 (opM M) M ka sa sa2 kc sc sc2:=by
 have HK0:=hid hk;have HS:=hid hs
 go_enter Tryz.func23,Tryz.ntmps23
 go_upto_region 1 with (fail);obtain ⟨W0,hW0⟩:∃ W0,W0=w.alloc (.cells #[.int .i64 M.L,.int .i64 M.n,.slice ka M.n kc,.int .i64 M.rest] 27):=⟨_,rfl⟩
 have hE:Ext w W0:=by rw [hW0];exact xx
 have k0:W0.cell? ⟨w.heap.size,0,none⟩=some (.int .i64 M.L):=by rw [hW0];simp [go_sem]
 have k1:W0.cell? ⟨w.heap.size,1,none⟩=some (.int .i64 M.n):=by rw [hW0];simp [go_sem]
 have k2:W0.cell? ⟨w.heap.size,2,none⟩=some (.slice ka M.n kc):=by rw [hW0];simp [go_sem]
 have k3:W0.cell? ⟨w.heap.size,3,none⟩=some (.int .i64 M.rest):=by rw [hW0];simp [go_sem]
 have hz:w.heap.size < W0.heap.size:=World.block_lt_of_cell? _ _ k0;have HW:=hid hE;have HK:=hid (zn.ext hE hk);rw [← hW0];clear hW0 hk hE;go_wp2_with fail;refine (z8k M V ka kc _ HK.out).mono ?_
 rintro e W1 ⟨p,mb,sa,sc,rfl,hE1,hp,hm,hI⟩;have HE1:=hid (HW.out.trans' hE1);have HI:=hid hI;replace k0:=zf hE1 k0;replace k1:=zf hE1 k1;replace k2:=zf hE1 k2;replace k3:=zf hE1 k3;have hz1:=hE1.size;have hmb:=hI.map.lt;have hwz1:w.heap.size < W1.heap.size:=by omega
 clear hE1 hI hs;go_wp2_with fail;refine (z8i M V hpos ka st kc tc W1.heap.size 1 _ (HK0.out.ext (HE1.out.trans' (by exact xx))) (HS.out.ext (HE1.out.trans' (by exact xx))) (by simp [go_sem]) (Nat.le_refl _)).mono ?_
 rintro e W2 ⟨rfl,hE2⟩;have hE12:Ext W1 W2:=Ext.trans' (by exact xx) hE2;have HE2:=hid (HE1.out.trans' hE12);have HI2:=hid (HI.out.ext hE12);replace k0:=zf hE12 k0;replace k1:=zf hE12 k1;replace k2:=zf hE12 k2;replace k3:=zf hE12 k3;have hz2:=hE12.size;have hwz2:w.heap.size < W2.heap.size:=by omega
 clear hE12 hE2;go_wp2_with fail;refine (zu5 M V ka st kc tc _ (HK0.out.ext HE2.out) (HS.out.ext HE2.out)).mono ?_
 rintro e W3 ⟨p2,mb2,sa2,sc2,rfl,hE3,hp2,hm2,h1,h2,h3⟩;have HE3:=hid (HE2.out.trans' hE3);have HI3:=hid (HI2.out.ext hE3);have HJ:=hid (ze2.mk h1 h2 h3);clear hE3 h1 h2 h3;go_wp2_with fail;refine bodyPost_ret (v:=.tuple #[.pointer (some ⟨p,0,none⟩),.pointer (some ⟨p2,0,none⟩),.int .i64 0]) (by simp [results,Tryz.results23,go_sem]) rfl ?_
 exact ⟨p,p2,mb,mb2,sa,sa2,sc,sc2,rfl,HE3.out,by omega,by omega,HI3.out,HJ.out,z4n V HI3.out.map HJ.out.m,z4n (zu9 V) HJ.out.map HI3.out.m,by omega⟩
theorem z8l {M:zj} (V:zal M):∀ (f:Nat) (s:TSt) (x:Nat),M.n - s.at_=f→s.at_≤M.n→x < cnt M s→∃ u,zbz M u s x
 | 0,s,x,hf,hs,hx=>by
  rw [zjv (by omega)] at hx
  split at hx
  ·exact ⟨[],by omega,by assumption,by omega⟩
  ·omega
 | f+1,s,x,hf,hs,hx=>by
  rw [zkd (by omega)] at hx;have hd:∀ k,k≤M.L→x < za9 (zbj M s) k→∃ c,c < M.L∧za9 (zbj M s) c≤x∧x < za9 (zbj M s) c+zbj M s c:=by
   intro k
   induction k with
   | zero=>intro _ h;simp [za9] at h
   | succ k ih =>
    intro hk h;rw [za9] at h
    by_cases h2:x < za9 (zbj M s) k
    ·exact ih (by omega) h2
    ·exact ⟨k,by omega,by omega,h⟩
  obtain ⟨c,hc,h1,h2⟩:=hd M.L (Nat.le_refl _) hx;have hok:okS M s c=true:=by
   rcases Bool.eq_false_or_eq_true (okS M s c) with h | h
   ·exact h
   ·have:zbj M s c=0:=by unfold zbj;rw [h];rfl
    omega
  have hw:zbj M s c=cnt M (toS M s c):=by unfold zbj;rw [if_pos hok]
  obtain ⟨u,hu⟩:=z8l V f (toS M s c) (x - za9 (zbj M s) c) (by unfold toS;simp only;omega) (by unfold toS;simp only;omega) (by omega);exact ⟨c :: u,by omega,hc,hok,_,by omega,by omega,hu⟩
theorem zkf {M:zj} (V:zal M) {x:Nat} (hx:x < cnt M ts0):zbz M (zi0 M x) ts0 x:=by
 obtain ⟨u,hu⟩:=z8l V _ ts0 x rfl (Nat.zero_le _) hx;rw [z4i hu];exact hu
noncomputable def bfI (M T:zj) (x:Nat):Nat:=zc9 T (zi0 M x) ts0
noncomputable def ftI (M T:zj) (x:Nat):Bool:=zhu T (zi0 M x) T.n
noncomputable def upI (M T:zj) (x:Nat):Nat:=bfI M T x+zfv (ftI M T x)
noncomputable def zhg (M T:zj) (r:Nat × Nat):List (Nat × Nat):=if bfI M T r.1 < upI M T r.2 then [(bfI M T r.1,upI M T r.2 - 1)] else []
noncomputable def zco (M T:zj) (l:List (Nat × Nat)):List (Nat × Nat):=l.flatMap (zhg M T)
theorem z8m (M T:zj) (l:List (Nat × Nat)) {k:Nat} (h:k < l.length):zco M T (l.take (k+1))=zco M T (l.take k) ++ zhg M T (l.getD k (0,0)):=by
 unfold zco;rw [List.take_add_one,List.flatMap_append,List.getElem?_eq_getElem h,List.getD_eq_getElem?_getD,List.getElem?_eq_getElem h];simp
theorem zw8 (M T:zj):∀ l,(zco M T l).length≤l.length
 | []=>by simp [zco]
 | r :: l=>by
  have h1:=zw8 M T l;have h2:(zhg M T r).length≤1:=by unfold zhg;split<;>simp
  unfold zco at h1 ⊢;rw [List.flatMap_cons,List.length_append,List.length_cons];omega
theorem z58 {M T:zj} (D:zhe M T) (V:zal M) {x:Nat} (hx:x < cnt M ts0):upI M T x≤cnt T ts0:=by
 have h1:=zkf V hx;have h2:=zw5 D h1;have h3:=h1.len;unfold upI bfI ftI;rw [D.n,← show (zi0 M x).length=M.n by simpa [ts0] using h3,zyd];exact h2
theorem zadw {M T:zj} (D:zhe M T) (V:zal M) {x y:Nat} (hxy:x≤y) (hy:y < cnt M ts0):upI M T x≤upI M T y:=by
 rcases Nat.eq_or_lt_of_le hxy with rfl | h
 ·exact Nat.le_refl _
 ·have h1:=zkf V (x:=x) (by omega)
  have h2:=zkf V hy;have h3:=z8f D h1 h2 h;have h4:=h1.len;unfold upI bfI ftI;rw [show zhu T (zi0 M x) T.n=zi1 T (zi0 M x) 0 by rw [D.n,← show (zi0 M x).length=M.n by simpa [ts0] using h4,zyd]];exact Nat.le_trans h3 (Nat.le_add_right _ _)
theorem z4o (M:zj) (V:zal M) (p mb:Nat) (ka sa:Option Addr) (kc sc:Nat) (x:Nat) (hx:x < cnt M ts0) (w:World) (h:ze2 w p M ka sa kc sc mb) :
  Calls Tryz.prog 51 #[.pointer (some ⟨p,0,none⟩),.int .i64 x] w (McQ mb M (.string (zad (zi0 M x))) w):=by
 refine (callsIn_wide.1 (zadr M V p mb ka sa kc sc x hx w h)).mono ?_
 rintro e W' ⟨ls,hls,hq⟩;rw [z4i hls];exact hq
theorem zyj (M:zj) (V:zal M) (p mb:Nat) (ka sa:Option Addr) (kc sc:Nat) (ls:List Nat) (hl:ls.length=M.n) (hc:∀ c∈ls,c < M.L) (w:World) (h:ze2 w p M ka sa kc sc mb) :
  Calls Tryz.prog 52 #[.pointer (some ⟨p,0,none⟩),.string (zad ls)] w (McQ mb M (.int .i64 (zc9 M ls ts0:Int)) w):=callsIn_wide.1 (z8d M V p mb ka sa kc sc ls hl hc w h)
theorem zba.keptP {S:Nat→Prop} {W W':World} {p:Nat} {M:zj} {ka sa:Option Addr} {kc sc mb:Nat} (h:zba W p M ka sa kc sc mb) (k:Kept S W W') (hp:S p) (hk:∀ b off,ka=some ⟨b,off,none⟩→S b) (hs:∀ b off,sa=some ⟨b,off,none⟩→S b):zba W' p M ka sa kc sc mb :=
 ⟨k.cell h.c0 hp,k.cell h.c1 hp,k.cell h.c2 hp,k.cell h.c3 hp,k.cell h.c4 hp,k.cell h.c5 hp,zle h.ks k hk,zle h.ss k hs⟩
theorem ze4.kept2 {W W':World} {p p2 mb mb2:Nat} {M T:zj} {ka sa sa2:Option Addr} {kc sc sc2:Nat} (h:ze4 W p p2 mb mb2 M T ka sa sa2 kc sc sc2) (k:Kept (fun k=>k≠mb∧k≠mb2) W W') (m1:zbb W' mb M) (m2:zbb W' mb2 T):ze4 W' p p2 mb mb2 M T ka sa sa2 kc sc sc2 :=
 ⟨⟨h.a.m.keptP k ⟨h.a.o.p,h.ob.p⟩ (fun b o e=>⟨h.a.o.k b o e,h.ob.k b o e⟩) fun b o e=>⟨h.a.o.s b o e,h.ob.s b o e⟩,h.a.o,m1⟩,⟨h.b.m.keptP k ⟨h.oa.p,h.b.o.p⟩ (fun b o e=>⟨h.oa.k b o e,h.b.o.k b o e⟩) fun b o e=>⟨h.oa.s b o e,h.b.o.s b o e⟩,h.b.o,m2⟩,h.oa,h.ob,h.ne⟩
theorem Kept.transB {S:Nat→Prop} {a b c:World} (h:Kept S a b) (k:Kept (fun k=>k < a.heap.size) b c):Kept S a c :=
 ⟨k.os.trans h.os,k.tape.trans h.tape,k.output.trans h.output,Nat.le_trans h.size k.size,fun i hi hs=>(k.same i (Nat.lt_of_lt_of_le hi h.size) hi).trans (h.same i hi hs)⟩
theorem elRg:El 39 42 2:=El.mk' (bytes:=16) (z:=.agg #[.int .i64 0,.int .i64 0]) (by kernel_rfl) (by kernel_rfl) rfl (by omega) (by omega)
structure zhh (w W:World) (mb mb2:Nat) (M T:zj):Prop where
 k:Kept (fun k=>k≠mb∧k≠mb2) w W
 m1:zbb W mb M
 m2:zbb W mb2 T
theorem zhh.ext {w W W':World} {mb mb2:Nat} {M T:zj} (h:zhh w W mb mb2 M T) (e:Ext W W'):zhh w W' mb mb2 M T:=⟨h.k.trans (Kept.of_below e),h.m1.of_heap (e.block _ h.m1.lt),h.m2.of_heap (e.block _ h.m2.lt)⟩
theorem zhh.low {w W W':World} {mb mb2:Nat} {M T:zj} (h:zhh w W mb mb2 M T) (h1:mb < w.heap.size) (h2:mb2 < w.heap.size) (k:Kept (fun k=>k < w.heap.size) W W'):zhh w W' mb mb2 M T:=⟨h.k.transB k,h.m1.of_heap (k.same _ h.m1.lt h1),h.m2.of_heap (k.same _ h.m2.lt h2)⟩
theorem zhh.fst {w W W':World} {mb mb2:Nat} {M T:zj} (h:zhh w W mb mb2 M T) (hn:mb≠mb2) (k:Kept (fun k=>k≠mb) W W') (hm:zbb W' mb M):zhh w W' mb mb2 M T:=⟨h.k.trans (k.mono fun _ _ h=>h.1),hm,h.m2.of_heap (k.same _ h.m2.lt hn.symm)⟩
theorem zhh.snd {w W W':World} {mb mb2:Nat} {M T:zj} (h:zhh w W mb mb2 M T) (hn:mb≠mb2) (k:Kept (fun k=>k≠mb2) W W') (hm:zbb W' mb2 T):zhh w W' mb mb2 M T:=⟨h.k.trans (k.mono fun _ _ h=>h.2),h.m1.of_heap (k.same _ h.m1.lt hn),hm⟩
theorem zhv {w:World} {ops:Array Oper} {rest:List Oper} {o:Oper} {a:Act} {Q:Exit→Act→World→Prop} (hgd:o.guard=none) (s x:Operand) {t:TypeId}
  (ho:o.op = .call { callee:=.builtin .append,args:=#[s,x],argTypes:=#[t,t] }) {vs vx v':Value} {w':World} (hs:a.eval s=vs) (hx:a.eval x=vx) (hrun:(Builtin.append_ #[t,t] o.type #[vs,vx]).run Tryz.prog w = .ok v' w')
  (h:wpList Tryz.prog ops Q rest (a.put o.dst v') w'):wpList Tryz.prog ops Q (o :: rest) a w :=
 wpList_plain hgd fun K hK=>by
  unfold Oper.wp execOp;simp only [ho,resolve,invoke,builtin,Sem.run_bind,Sem.run_pure,Result.andThen_ok,List.map_toArray,List.map_cons,List.map_nil,hs,hx,hrun];exact hK _ _ h
theorem z59 (M T:zj) (D:zhe M T) (VM:zal M) (VT:zal T) (p p2 mb mb2:Nat) (ka sa sa2:Option Addr) (kc sc sc2:Nat) (l:List (Nat × Nat)) (hl:zic (cnt M ts0) l) (v:Value) (w:World) (h:ze4 w p p2 mb mb2 M T ka sa sa2 kc sc sc2) (hr:IsRows w 2 v (l.map zcs)) :
  Calls Tryz.prog 25 #[.pointer (some ⟨p,0,none⟩),.pointer (some ⟨p2,0,none⟩),v] w fun e w'=>∃ v',e = .returned v'∧zhh w w' mb mb2 M T∧IsRows w' 2 v' ((zco M T l).map zcs):=by
 obtain ⟨sl,cap,rfl,hcap,-,hc⟩:=zke hr;have hlen:=hl.len;have HV:=hid hl;have HT:=hid h;have HCE:=hid hc;have HNE:=hid h.ne;have hm1:=h.a.map.lt;have hm2:=h.b.map.lt;clear h hr hc hl
 go_enter Tryz.func25,Tryz.ntmps25
 go_wp2_with fail
 go_loopw [7,14] (fun ov iv W=>∃ k:Nat,k≤l.length∧iv = .int .i64 k∧zhh w W mb mb2 M T∧zu W w.heap.size 42 2 ov ((zco M T (l.take k)).map zcs)) (fun _ iv _=>l.length - (intOf iv).toNat)
 case atStart=>exact ⟨0,by omega,rfl,⟨Kept.refl _ _,HT.out.a.map,HT.out.b.map⟩,zu.nil _ _ _ _⟩
 case round =>
  obtain ⟨k,hk,rfl,hK,hown⟩:=hrel
  by_cases hlt:k < l.length
  ·have hki:(k:Int) < (l.length:Int):=by omega
   obtain ⟨b,off,rfl,hcc⟩:=HCE.out k hlt;obtain ⟨d0,d1⟩:=hcc k hlt w (Below.refl _ _);have hbm1:b≠mb:=fun e=>by rw [e,map_cell HT.out.a.map] at d0;cases d0
   have hbm2:b≠mb2:=fun e=>by rw [e,map_cell HT.out.b.map] at d0;cases d0
   replace d0:=hK.k.cell d0 ⟨hbm1,hbm2⟩;replace d1:=hK.k.cell d1 ⟨hbm1,hbm2⟩;obtain ⟨h1,h2,h3⟩:=HV.out.each k hlt;obtain ⟨sa',sn,scap,rfl⟩:=hown.isSlice;have htk:=z8m M T l hlt;have hln:=zw8 M T (l.take k);rw [List.length_take] at hln;obtain ⟨a,ha⟩:∃ a,a=(l.getD k (0,0)).1:=⟨_,rfl⟩
   obtain ⟨c,hc⟩:∃ c,c=(l.getD k (0,0)).2:=⟨_,rfl⟩
   rw [show l.getD k (0,0)=(a,c) by rw [ha,hc]] at htk;rw [← ha] at d0 h2;rw [← hc] at d1 h2 h3;have hcm:=ze9 VM ts0;have hctm:=ze9 VT ts0;have hub:=z58 D VM h3;have hca:=zkf VM (x:=a) (by omega);have hcc2:=zkf VM h3;have HCA:=hid hca;have HCC:=hid hcc2;have ha3:a < cnt M ts0:=by omega
   have hua:=z58 D VM ha3;have HA3:=hid ha3;have HC3:=hid h3;have HTK:=hid htk;have HUB:=hid hub;have HUA:=hid hua;have HK:=hid hK;have HO:=hid hown;have zd:=World.block_lt_of_cell? _ _ d0;simp only at zd;have hwz:=hK.k.size;have hwa:IntKind.i64.wrap (a:Int)=(a:Int):=IntWalk.i64_in _ (by omega);clear ha hc hcc h1 h2 h3 hK hown htk hub hca hcc2 ha3 hua hcm hctm;go_wp2_with fail;obtain ⟨X1,hX1⟩:∃ X,X=wr.alloc (.cells #[.int .i64 a,.int .i64 c] 42):=⟨_,rfl⟩
   have hE1:Ext wr X1:=by rw [hX1];exact xx
   have q0:X1.cell? ⟨wr.heap.size,0,none⟩=some (.int .i64 a):=by rw [hX1];simp [go_sem]
   have q1:X1.cell? ⟨wr.heap.size,1,none⟩=some (.int .i64 c):=by rw [hX1];simp [go_sem]
   have zq:=World.block_lt_of_cell? _ _ q0;simp only at zq;rw [← hX1];have HK1:=hid (HK.out.ext hE1);have HO1:=hid (HO.out.ext hE1);clear hX1 hE1 d0 d1;have hf1:=z4o M VM p mb ka sa kc sc c HC3.out X1 (HT.out.kept2 HK1.out.k HK1.out.m1 HK1.out.m2).a;obtain ⟨lc,hlc⟩:∃ lc,lc=zi0 M c:=⟨_,rfl⟩
   rw [← hlc] at hf1 HCC;refine hf1.mono ?_
   rintro e X2 ⟨rfl,hk2,hm2'⟩;clear hf1;replace q0:=hk2.cell q0 (by simp only;omega);replace q1:=hk2.cell q1 (by simp only;omega);replace zq:=World.block_lt_of_cell? _ _ q0;have HK2:=hid (HK1.out.fst HNE.out hk2 hm2');have HO2:=hid (HO1.out.keptAt hk2 fun g cur hB hg _=>by omega);have HLC:=hid hlc;clear hk2 hm2' hlc;simp only at zq;go_wp2_with fail;have hf2:=z4o M VM p mb ka sa kc sc a HA3.out X2 (HT.out.kept2 HK2.out.k HK2.out.m1 HK2.out.m2).a;obtain ⟨la,hla⟩:∃ la,la=zi0 M a:=⟨_,rfl⟩
   rw [← hla] at hf2 HCA;refine hf2.mono ?_
   rintro e X3 ⟨rfl,hk3,hm3'⟩;clear hf2;replace q0:=hk3.cell q0 (by simp only;omega);replace q1:=hk3.cell q1 (by simp only;omega);replace zq:=World.block_lt_of_cell? _ _ q0;have HK3:=hid (HK2.out.fst HNE.out hk3 hm3');have HO3:=hid (HO2.out.keptAt hk3 fun g cur hB hg _=>by omega);have HLA:=hid hla;clear hk3 hm3' hla;simp only at zq;go_wp2_with fail;have hlan:la.length=T.n:=by have:=HCA.out.len;rw [D.n];simpa [ts0] using this
   have hlcn:lc.length=T.n:=by have:=HCC.out.len;rw [D.n];simpa [ts0] using this
   have hlal:∀ c∈la,c < T.L:=by rw [D.L];exact HCA.out.letters
   have hlcl:∀ c∈lc,c < T.L:=by rw [D.L];exact HCC.out.letters
   have HLN:=hid hlcn;have HLL:=hid hlcl;have hf3:=zyj T VT p2 mb2 ka sa2 kc sc2 la hlan hlal X3 (HT.out.kept2 HK3.out.k HK3.out.m1 HK3.out.m2).b;obtain ⟨A,hA⟩:∃ A,A=zc9 T la ts0:=⟨_,rfl⟩
   rw [← hA] at hf3;refine hf3.mono ?_
   rintro e X4 ⟨rfl,hk4,hm4'⟩;clear hf3 hlan hlcn hlal hlcl;replace q0:=hk4.cell q0 (by simp only;omega);replace q1:=hk4.cell q1 (by simp only;omega);replace zq:=World.block_lt_of_cell? _ _ q0;have HK4:=hid (HK3.out.snd HNE.out hk4 hm4');have HO4:=hid (HO3.out.keptAt hk4 fun g cur hB hg _=>by omega);have HAA:=hid hA;clear hk4 hm4' hA;simp only at zq;go_wp2_with fail;have hf4:=zyj T VT p2 mb2 ka sa2 kc sc2 lc HLN.out HLL.out X4 (HT.out.kept2 HK4.out.k HK4.out.m1 HK4.out.m2).b;obtain ⟨B,hB⟩:∃ B,B=zc9 T lc ts0:=⟨_,rfl⟩
   rw [← hB] at hf4;refine hf4.mono ?_
   rintro e X5 ⟨rfl,hk5,hm5'⟩;clear hf4;replace q0:=hk5.cell q0 (by simp only;omega);replace q1:=hk5.cell q1 (by simp only;omega);replace zq:=World.block_lt_of_cell? _ _ q0;have HK5:=hid (HK4.out.snd HNE.out hk5 hm5');have HO5:=hid (HO4.out.keptAt hk5 fun g cur hB hg _=>by omega);have HBB:=hid hB;clear hk5 hm5' hB;simp only at zq;obtain ⟨F,hF⟩:∃ F,F=zhu T lc T.n:=⟨_,rfl⟩
   have hbfa:bfI M T a=A:=by rw [HAA.out,HLA.out];rfl
   have hupc:upI M T c=B+zfv F:=by rw [HBB.out,hF,HLC.out];rfl
   have hctm:=ze9 VT ts0;have hAb:A≤1679616:=by have:=HUA.out;unfold upI at this;omega
   have hBb:B+zfv F≤1679616:=by have:=HUB.out;omega
   obtain ⟨Z,hZ⟩:∃ Z:Int,Z=(B:Int) - 1:=⟨_,rfl⟩
   have hwZ:IntKind.i64.wrap ((B:Int) - 1)=Z:=by rw [← hZ];exact IntWalk.i64_in _ (by omega)
   have HTK2:Hid (zco M T (l.take (k+1))=zco M T (l.take k) ++ if A < B+zfv F then [(A,B+zfv F - 1)] else []):=hid (by rw [HTK.out];unfold zhg;rw [hbfa,hupc]);have HF:=hid hF;have HZ:=hid hZ;clear hbfa hupc hctm hF hZ;go_wp2_with fail;obtain ⟨X6,hX6⟩:∃ X,X=X5.alloc (.cells #[.int .i64 A,.int .i64 Z] 42):=⟨_,rfl⟩
   have hE6:Ext X5 X6:=by rw [hX6];exact xx
   have hr6:X6.heap[X5.heap.size]? = some (.cells #[.int .i64 A,.int .i64 Z] 42 (0,0)):=by rw [hX6];exact World.alloc_heap_new _ _
   rw [← hX6];have HK6:=hid (HK5.out.ext hE6);have HO6:=hid (HO5.out.ext hE6);clear hX6 hE6 q0 q1;have hf5:=zadv T VT p2 mb2 ka sa2 kc sc2 lc HLN.out HLL.out X6 (HT.out.kept2 HK6.out.k HK6.out.m1 HK6.out.m2).b.m;rw [← HF.out] at hf5;refine hf5.mono ?_
   rintro e X7 ⟨rfl,hE7⟩;have zr6:=(Array.getElem?_eq_some_iff.1 hr6).1;have hr7:=(hE7.block _ zr6).trans hr6;have HK7:=hid (HK6.out.ext hE7);have HO7:=hid (HO6.out.ext hE7);have hz56:=HK5.out.k.size;have hz67:=hE7.size;clear hf5 hE7 hr6;have r0:X7.cell? ⟨X5.heap.size,0,none⟩=some (.int .i64 A):=by rw [cell_of_row _ _ _ _ _ _ hr7];rfl
   have r1:X7.cell? ⟨X5.heap.size,1,none⟩=some (.int .i64 Z):=by rw [cell_of_row _ _ _ _ _ _ hr7];rfl
   have rf:∀ o,X7.frozen? ⟨X5.heap.size,o,none⟩=false:=fun o=>by simp [World.frozen?,hr7]
   have zr7:X5.heap.size < X7.heap.size:=by omega
   have hrm1:X5.heap.size≠mb:=by omega
   have hrm2:X5.heap.size≠mb2:=by omega
   cases F
   ·simp only [zfv,Bool.false_eq_true,if_false,Nat.add_zero] at HTK2 hBb
    by_cases hAB:A < B
    ·have hcmp:(A:Int)≤Z:=by have:=HZ.out;omega
     rw [if_pos hAB] at HTK2;have hZN:Z=((B - 1:Nat):Int):=by have:=HZ.out;omega
     have hAE:(A:Int)≤((B - 1:Nat):Int):=by omega
     rw [hZN] at r1 ⊢;clear hcmp hr7 hwZ;have hoY:=HO7.out.ext (show Ext X7 (X7.alloc (.cells #[.int .i64 (A:Int),.int .i64 ((B - 1:Nat):Int)] 42)) from xx);obtain ⟨v',X9,hrun,h2,h3,-⟩:=zu0 elRg 39 w.heap.size hoY X7.heap.size 0 1 [[.int .i64 (A:Int),.int .i64 ((B - 1:Nat):Int)]] (by simp) (newRow _ [.int .i64 (A:Int),.int .i64 ((B - 1:Nat):Int)] _) (by simp [Value.oneCell']) (by simp;omega) (by simp;omega);have HOV:=hid hoY;have h29:=hid h2;have h39:=hid h3;clear h2 h3 hoY;go_wp2_with (at_builtin;refine zhv rfl (.tmp 45) (.tmp 47) rfl rfl rfl hrun ?_);have hk9:=(HK7.out.ext (show Ext X7 (X7.alloc (.cells #[.int .i64 (A:Int),.int .i64 ((B - 1:Nat):Int)] 42)) from xx)).low hm1 hm2 (h39.out.mono fun j _ hj e=>by have:=(HOV.out.notOwn j e.symm).1;omega);have ho9:=h29.out;rw [show (zco M T (l.take k)).map zcs ++ [[.int .i64 (A:Int),.int .i64 ((B - 1:Nat):Int)]]=(zco M T (l.take (k+1))).map zcs by rw [HTK2.out,List.map_append];rfl] at ho9;exact ⟨⟨k+1,by omega,by go_num,hk9,ho9⟩,by simp [intOf];omega⟩
    ·have hcmp:¬ ((A:Int)≤Z):=by have:=HZ.out;omega
     rw [if_neg hAB,List.append_nil] at HTK2;go_wp2_with fail;exact ⟨⟨k+1,by omega,by go_num,HK7.out,by rw [HTK2.out];exact HO7.out⟩,by simp [intOf];omega⟩
   ·simp only [zfv,if_true] at HTK2 hBb
    have hwZ1:IntKind.i64.wrap (Z+1)=(B:Int):=by have:=HZ.out;rw [IntWalk.i64_in _ (by omega)];omega
    by_cases hAB:A < B+1
    ·have hcmp:(A:Int)≤(B:Int):=by omega
     rw [if_pos hAB] at HTK2;go_upto_region 9 with (fail);obtain ⟨X8,hX8⟩:∃ X,X=X7.setCell ⟨X5.heap.size,1,none⟩ (.int .i64 (B:Int)):=⟨_,rfl⟩
     have hr8:X8.heap[X5.heap.size]? = some (.cells #[.int .i64 A,.int .i64 B] 42 (0,0)):=by rw [hX8];exact zx hr7 1 _
     have hk78:Kept (fun k=>k≠X5.heap.size) X7 X8:=by rw [hX8];exact (Kept.refl _ X7).setCell (fun _ h=>h rfl) _
     rw [← hX8];clear hX8 r0 r1 rf hr7;have r0:X8.cell? ⟨X5.heap.size,0,none⟩=some (.int .i64 A):=by rw [cell_of_row _ _ _ _ _ _ hr8];rfl
     have r1:X8.cell? ⟨X5.heap.size,1,none⟩=some (.int .i64 B):=by rw [cell_of_row _ _ _ _ _ _ hr8];rfl
     have HK8:=hid (HK7.out.low hm1 hm2 (hk78.mono fun k _ h=>by omega));have HO8:=hid (HO7.out.keptAt hk78 fun g cur hB hg _=>by have:=(HO5.out.notOwn g hg).2;omega);have hz8:=hk78.size;have zr8:X5.heap.size < X8.heap.size:=by omega
     clear hk78 hr8;have hoY:=HO8.out.ext (show Ext X8 (X8.alloc (.cells #[.int .i64 (A:Int),.int .i64 ((B:Nat):Int)] 42)) from xx);obtain ⟨v',X9,hrun,h2,h3,-⟩:=zu0 elRg 39 w.heap.size hoY X8.heap.size 0 1 [[.int .i64 (A:Int),.int .i64 ((B:Nat):Int)]] (by simp) (newRow _ [.int .i64 (A:Int),.int .i64 ((B:Nat):Int)] _) (by simp [Value.oneCell']) (by simp;omega) (by simp;omega);have HOV:=hid hoY;have h29:=hid h2;have h39:=hid h3;clear h2 h3 hoY;go_wp2_with (at_builtin;refine zhv rfl (.tmp 45) (.tmp 47) rfl rfl rfl hrun ?_);have hk9:=(HK8.out.ext (show Ext X8 (X8.alloc (.cells #[.int .i64 (A:Int),.int .i64 ((B:Nat):Int)] 42)) from xx)).low hm1 hm2 (h39.out.mono fun j _ hj e=>by have:=(HOV.out.notOwn j e.symm).1;omega);have ho9:=h29.out;rw [show (zco M T (l.take k)).map zcs ++ [[.int .i64 (A:Int),.int .i64 ((B:Nat):Int)]]=(zco M T (l.take (k+1))).map zcs by rw [HTK2.out,List.map_append];rfl] at ho9;exact ⟨⟨k+1,by omega,by go_num,hk9,ho9⟩,by simp [intOf];omega⟩
    ·have hcmp:¬ ((A:Int)≤(B:Int)):=by omega
     rw [if_neg hAB,List.append_nil] at HTK2;go_wp2_with fail;have hk78:Kept (fun k=>k≠X5.heap.size) X7 (X7.setCell ⟨X5.heap.size,1,none⟩ (.int .i64 (B:Int))):=(Kept.refl _ X7).setCell (fun _ h=>h rfl) _;exact ⟨⟨k+1,by omega,by go_num,HK7.out.low hm1 hm2 (hk78.mono fun k _ h=>by omega),by rw [HTK2.out];exact HO7.out.keptAt hk78 fun g cur hB hg _=>by have:=(HO5.out.notOwn g hg).2;omega⟩,by simp [intOf];omega⟩
  ·have hki:¬ ((k:Int) < (l.length:Int)):=by omega
   obtain ⟨sa',sn,scap,rfl⟩:=hown.isSlice;have HK:=hid hK;have HR:=hid hown.isRows;clear hK hown;go_wp2_with fail;go_ret;exact ⟨_,rfl,HK.out,by rw [show l.take k=l from List.take_of_length_le (by omega)] at HR;exact HR.out⟩
def zct (l:List (Nat × Nat)):Nat:=(l.map fun r=>r.2 - r.1+1).sum
theorem z6a (l:List (Nat × Nat)) {k:Nat} (h:k < l.length):zct (l.take (k+1))=zct (l.take k)+((l.getD k (0,0)).2 - (l.getD k (0,0)).1+1):=by
 unfold zct;rw [List.take_add_one,List.map_append,List.sum_append,List.getElem?_eq_getElem h,List.getD_eq_getElem?_getD,List.getElem?_eq_getElem h];simp
theorem z09 {b:Nat}:∀ (l:List (Nat × Nat)),(∀ r∈l,r.2 - r.1+1≤b)→zct l≤l.length * b
 | [],_=>by simp [zct]
 | r :: l,h=>by
  have h1:=z09 l fun x hx=>h x (List.mem_cons_of_mem _ hx)
  have h2:=h r List.mem_cons_self;unfold zct at h1 ⊢;rw [List.map_cons,List.sum_cons,List.length_cons,Nat.succ_mul];omega
noncomputable def zlg (M:zj) (l:List (Nat × Nat)):Nat:=zct (zco (opM M) M l)
theorem zaa4 {M T:zj} (D:zhe M T) (V:zal M) {l:List (Nat × Nat)} (hl:zic (cnt M ts0) l):∀ r∈zco M T l,r.1≤r.2∧r.2 < cnt T ts0:=by
 intro r hr;unfold zco at hr;obtain ⟨x,hx,hr⟩:=List.mem_flatMap.1 hr;obtain ⟨k,hk,rfl⟩:=List.getElem_of_mem hx;have h1:=(hl.each k hk).2.2;rw [List.getD_eq_getElem?_getD,List.getElem?_eq_getElem hk,Option.getD_some] at h1;have h2:=z58 D V h1;unfold zhg at hr
 split at hr
 ·rw [List.mem_singleton.1 hr]
  simp only;omega
 ·simp at hr
theorem zyk (M:zj) (V:zal M) (hpos:∀ i,i < M.n→1≤M.ss.getD i 0) (ka st:Option Addr) (kc tc:Nat) (l:List (Nat × Nat)) (hl:zic (cnt (opM M) ts0) l) (v:Value) (w:World) (hk:zn w .i64 (.slice ka M.n kc) (zat M.ks)) (hs:zn w .i64 (.slice st M.n tc) (zat M.ss)) (hr:IsRows w 2 v (l.map zcs)) :
  Calls Tryz.prog 13 #[.agg #[.int .i64 M.L,.int .i64 M.n,.slice ka M.n kc,.int .i64 M.rest],.slice st M.n tc,v] w fun e w'=>e = .returned (.tuple #[.int .i64 (cnt M ts0:Int),.int .i64 (zlg M l:Int),.int .i64 0])∧Ext w w':=by
 have VO:=zu9 V;have hlen:=hl.len;have hie:=zaa4 (zw7 M) VO hl;have hil:=zw8 (opM M) M l;have hcm:=ze9 V ts0;obtain ⟨il,hi⟩:∃ il,il=zco (opM M) M l:=⟨_,rfl⟩
 rw [show zlg M l=zct (zco (opM M) M l) from rfl];rw [← hi] at hie hil ⊢;obtain ⟨S0,hS0⟩:∃ S0,S0=zct il:=⟨_,rfl⟩
 obtain ⟨C,hC⟩:∃ C,C=cnt M ts0:=⟨_,rfl⟩
 rw [← hS0,← hC];have HI:=hid hi;have HS0:=hid hS0;have HC:=hid hC;clear hi hS0 hC;have HL:=hid hl;have HS:=hid hs;have HR:=hid hr;obtain ⟨sl,cap,rfl,-⟩:=zke hr;clear hs hr hl
 go_enter Tryz.func13,Tryz.ntmps13
 go_upto_region 1 with (fail);obtain ⟨W0,hW0⟩:∃ W0,W0=w.alloc (.cells #[.int .i64 M.L,.int .i64 M.n,.slice ka M.n kc,.int .i64 M.rest] 27):=⟨_,rfl⟩
 have hE:Ext w W0:=by rw [hW0];exact xx
 have k0:W0.cell? ⟨w.heap.size,0,none⟩=some (.int .i64 M.L):=by rw [hW0];simp [go_sem]
 have k1:W0.cell? ⟨w.heap.size,1,none⟩=some (.int .i64 M.n):=by rw [hW0];simp [go_sem]
 have k2:W0.cell? ⟨w.heap.size,2,none⟩=some (.slice ka M.n kc):=by rw [hW0];simp [go_sem]
 have k3:W0.cell? ⟨w.heap.size,3,none⟩=some (.int .i64 M.rest):=by rw [hW0];simp [go_sem]
 have hz:w.heap.size < W0.heap.size:=World.block_lt_of_cell? _ _ k0;have HW:=hid hE;have HK:=hid (zn.ext hE hk);rw [← hW0];clear hW0 hk hE;go_wp2_with fail;refine (z3p M V hpos ka st kc tc _ HK.out (HS.out.ext HW.out)).mono ?_
 rintro e W1 ⟨p,p2,mb,mb2,sa,sa2,sc,sc2,rfl,hE1,hm1,hm2,hT⟩;have HE1:=hid (HW.out.trans' hE1);have HT1:=hid hT;clear hE1 hT;go_wp2_with fail;refine (z8j (opM M) VO p mb ka sa kc sc l HL.out _ W1 HT1.out.a (IsRows.ext HE1.out HR.out)).mono ?_
 rintro e W2 ⟨rfl,hE2⟩;have HE2:=hid (HE1.out.trans' hE2);have HT2:=hid (HT1.out.ext hE2);clear hE2;go_wp2_with fail;refine (z59 (opM M) M (zw7 M) VO V p p2 mb mb2 ka sa sa2 kc sc sc2 l HL.out _ W2 HT2.out (IsRows.ext HE2.out HR.out)).mono ?_
 rintro e W3 ⟨v',rfl,hK3,hR3⟩;have hE3:Ext w W3:=⟨hK3.k.os.trans HE2.out.os,hK3.k.tape.trans HE2.out.tape,hK3.k.output.trans HE2.out.output,Nat.le_trans HE2.out.size hK3.k.size,fun k hk=>(hK3.k.same k (Nat.lt_of_lt_of_le hk HE2.out.size) ⟨by omega,by omega⟩).trans (HE2.out.block k hk)⟩
 have HE3:=hid hE3;have HT3:=hid (HT2.out.kept2 hK3.k hK3.m1 hK3.m2);rw [← HI.out] at hR3;obtain ⟨sl3,cap3,rfl,-,-,hc3⟩:=zke hR3;have HC3:=hid hc3;have HIE:=hid hie;clear hK3 hR3 hE3 hc3 hie k0 k1 k2 k3;go_wp2_with fail
 go_loopw [13,37] (fun nv iv W=>∃ k:Nat,k≤il.length∧nv = .int .i64 (zct (il.take k))∧iv = .int .i64 k∧Ext W3 W) (fun _ iv _=>il.length - (intOf iv).toNat)
 case atStart=>exact ⟨0,by omega,rfl,rfl,Below.refl _ _⟩
 case round =>
  obtain ⟨k,hk,rfl,rfl,hE⟩:=hrel
  by_cases hlt:k < il.length
  ·have hki:(k:Int) < (il.length:Int):=by omega
   obtain ⟨b,off,rfl,hcc⟩:=HC3.out k hlt;obtain ⟨d0,d1⟩:=hcc k hlt wr hE;have hsp:=z6a il hlt;have hmem:il.getD k (0,0)∈il:=by rw [List.getD_eq_getElem?_getD,List.getElem?_eq_getElem hlt];exact List.getElem_mem hlt
   obtain ⟨h1,h2⟩:=HIE.out _ hmem;have hsb:=z09 (b:=1679616) (il.take k) fun r hr=>by have:=HIE.out r (List.mem_of_mem_take hr);omega
   have htk:(il.take k).length≤10:=by rw [List.length_take];omega
   have hsb2:zct (il.take k)≤16796160:=Nat.le_trans hsb (Nat.le_trans (Nat.mul_le_mul_right _ htk) (by omega));obtain ⟨a,ha⟩:∃ a,a=(il.getD k (0,0)).1:=⟨_,rfl⟩
   obtain ⟨c,hc⟩:∃ c,c=(il.getD k (0,0)).2:=⟨_,rfl⟩
   obtain ⟨S,hS⟩:∃ S,S=zct (il.take k):=⟨_,rfl⟩
   rw [← ha] at d0 h1 hsp;rw [← hc] at d1 h1 h2 hsp;rw [← hS] at hsb2 hsp ⊢;have hw1:IntKind.i64.wrap ((c:Int) - (a:Int))=((c - a:Nat):Int):=by rw [IntWalk.i64_in _ (by omega)];omega
   have hw2:IntKind.i64.wrap (((c - a:Nat):Int)+1)=((c - a+1:Nat):Int):=by rw [IntWalk.i64_in _ (by omega)];omega
   obtain ⟨R,hR⟩:∃ R,R=c - a+1:=⟨_,rfl⟩
   rw [← hR] at hw2 hsp;have hw3:IntKind.i64.wrap ((S:Int)+(R:Int))=((S+R:Nat):Int):=by rw [IntWalk.i64_in _ (by omega)];omega
   obtain ⟨Q,hQ⟩:∃ Q,Q=c - a:=⟨_,rfl⟩
   rw [← hQ] at hw1 hw2;have HSP:=hid hsp;have HE:=hid hE;have zd:=World.block_lt_of_cell? _ _ d0;simp only at zd;clear ha hc hcc h1 h2 hsb htk hS hR hQ hsp hE hmem;go_wp2_with fail;exact ⟨⟨k+1,by omega,by rw [HSP.out,Int.natCast_add],by go_num,HE.out.trans' (by exact xx)⟩,by simp [intOf];omega⟩
  ·have hki:¬ ((k:Int) < (il.length:Int)):=by omega
   have HE:=hid hE;have htk:il.take k=il:=List.take_of_length_le (by omega);rw [htk,← HS0.out];clear hE htk;go_wp2_with fail;have hmy:=z4g M p2 mb2 ka sa2 kc sc2 wr (HT3.out.ext HE.out).b;rw [← HC.out] at hmy;refine hmy.mono ?_
   rintro e W4 ⟨rfl,hE4⟩;clear hmy;go_wp2_with fail;refine bodyPost_ret (v:=.tuple #[.int .i64 (C:Int),.int .i64 (S0:Int),.int .i64 0]) (by simp [results,Tryz.results13,go_sem]) rfl ?_
   exact ⟨rfl,(HE3.out.trans' HE.out).trans' hE4⟩
def zjj (all n:Nat):Int:=if n=0 then 0 else if n < all then 1 else 2
theorem z8n (M:zj) (V:zal M) (hpos:∀ i,i < M.n→1≤M.ss.getD i 0) (ka st:Option Addr) (kc tc:Nat) (l:List (Nat × Nat)) (hl:zic (cnt (opM M) ts0) l) (v:Value) (w:World) (hk:zn w .i64 (.slice ka M.n kc) (zat M.ks)) (hs:zn w .i64 (.slice st M.n tc) (zat M.ss)) (hr:IsRows w 2 v (l.map zcs)) :
  Calls Tryz.prog 12 #[.agg #[.int .i64 M.L,.int .i64 M.n,.slice ka M.n kc,.int .i64 M.rest],.slice st M.n tc,v] w fun e w'=>e = .returned (.tuple #[.int .i64 (zjj (cnt M ts0) (zlg M l)),.int .i64 0])∧Ext w w':=by
 have hf:=fun w hk hs hr=>zyk M V hpos ka st kc tc l hl v w hk hs hr
 have HS:=hid hs;have HR:=hid hr;obtain ⟨sl,cap,rfl,-⟩:=zke hr;obtain ⟨A,hA⟩:∃ A,A=cnt M ts0:=⟨_,rfl⟩
 obtain ⟨N,hN⟩:∃ N,N=zlg M l:=⟨_,rfl⟩
 rw [← hA,← hN] at hf ⊢;have HF:=hid hf;obtain ⟨kd,hkd⟩:∃ kd,kd=zjj A N:=⟨_,rfl⟩
 rw [← hkd];unfold zjj at hkd;clear hs hr hl hf hA hN
 go_enter Tryz.func12,Tryz.ntmps12
 go_upto_region 1 with (fail);obtain ⟨W0,hW0⟩:∃ W0,W0=w.alloc (.cells #[.int .i64 M.L,.int .i64 M.n,.slice ka M.n kc,.int .i64 M.rest] 27):=⟨_,rfl⟩
 have hE:Ext w W0:=by rw [hW0];exact xx
 have k0:W0.cell? ⟨w.heap.size,0,none⟩=some (.int .i64 M.L):=by rw [hW0];simp [go_sem]
 have k1:W0.cell? ⟨w.heap.size,1,none⟩=some (.int .i64 M.n):=by rw [hW0];simp [go_sem]
 have k2:W0.cell? ⟨w.heap.size,2,none⟩=some (.slice ka M.n kc):=by rw [hW0];simp [go_sem]
 have k3:W0.cell? ⟨w.heap.size,3,none⟩=some (.int .i64 M.rest):=by rw [hW0];simp [go_sem]
 have hz:w.heap.size < W0.heap.size:=World.block_lt_of_cell? _ _ k0;have HW:=hid hE;have HK:=hid (zn.ext hE hk);rw [← hW0];clear hW0 hk hE;go_wp2_with fail;refine (HF.out _ HK.out (HS.out.ext HW.out) (IsRows.ext HW.out HR.out)).mono ?_
 rintro e W1 ⟨rfl,hE1⟩;have HE1:=hid (HW.out.trans' hE1);clear hE1 k0 k1 k2 k3
 by_cases h0:N=0
 ·rw [if_pos h0] at hkd
  subst h0 hkd;go_wp2_with fail;refine bodyPost_ret (v:=.tuple #[.int .i64 0,.int .i64 0]) (by simp [results,Tryz.results12,go_sem]) rfl ?_
  exact ⟨rfl,HE1.out⟩
 ·rw [if_neg h0] at hkd
  have h0i:¬ ((N:Int)=0):=by omega
  by_cases h1:N < A
  ·rw [if_pos h1] at hkd
   subst hkd;have h1i:(N:Int) < (A:Int):=by omega
   go_wp2_with fail;refine bodyPost_ret (v:=.tuple #[.int .i64 1,.int .i64 0]) (by simp [results,Tryz.results12,go_sem]) rfl ?_
   exact ⟨rfl,HE1.out⟩
  ·rw [if_neg h1] at hkd
   subst hkd;have h1i:¬ ((N:Int) < (A:Int)):=by omega
   go_wp2_with fail;refine bodyPost_ret (v:=.tuple #[.int .i64 2,.int .i64 0]) (by simp [results,Tryz.results12,go_sem]) rfl ?_
   exact ⟨rfl,HE1.out⟩
def zel (each:Nat) (many:Nat→Nat):Nat→List (Nat × Nat)
 | 0=>[]
 | w+1=>zel each many w ++ if 0 < many w then [(w * each,w * each+many w - 1)] else []
def zl0 (l:List (Nat × Nat)):Nat:=nxR l l.length
theorem zadx (l m:List (Nat × Nat)) {k:Nat} (h:k≤l.length):nxR (l ++ m) k=nxR l k:=by
 match k,h with
 | 0,_=>rfl
 | k+1,h =>
  show ((l ++ m).getD k (0,0)).2+1=(l.getD k (0,0)).2+1;rw [List.getD_eq_getElem?_getD,List.getD_eq_getElem?_getD,List.getElem?_append_left (by omega)]
theorem zaa5 (l:List (Nat × Nat)) (r:Nat × Nat):zl0 (l ++ [r])=r.2+1:=by
 unfold zl0;rw [List.length_append,List.length_singleton];show ((l ++ [r]).getD l.length (0,0)).2+1=_;simp [List.getD_eq_getElem?_getD]
theorem zic.add {all:Nat} {l:List (Nat × Nat)} (h:zic all l) {r:Nat × Nat} (h0:l.length < 10) (h1:zl0 l≤r.1) (h2:r.1≤r.2) (h3:r.2 < all):zic all (l ++ [r]):=by
 refine ⟨by rw [List.length_append,List.length_singleton];omega,fun k hk=>?_⟩;rw [List.length_append,List.length_singleton] at hk;rw [zadx l [r] (by omega),List.getD_eq_getElem?_getD]
 by_cases e:k=l.length
 ·subst e
  rw [List.getElem?_append_right (Nat.le_refl _),Nat.sub_self];exact ⟨h1,h2,h3⟩
 ·rw [List.getElem?_append_left (by omega),← List.getD_eq_getElem?_getD]
  exact h.each k (by omega)
theorem z1a {all each:Nat} {many:Nat→Nat}:∀ (k:Nat),k≤10→(∀ w,w < k→many w≤each)→k * each≤all→zic all (zel each many k)∧(zel each many k).length≤k∧zl0 (zel each many k)≤k * each
 | 0,_,_,_=>⟨⟨by simp [zel],fun k h=>by simp [zel] at h⟩,by simp [zel],by simp [zel,zl0,nxR]⟩
 | k+1,h0,h1,h2=>by
  rw [Nat.succ_mul] at h2 ⊢;obtain ⟨g1,g2,g3⟩:=z1a k (by omega) (fun w hw=>h1 w (by omega)) (show k * each≤all by omega);have hm:=h1 k (by omega);rw [zel]
  by_cases e:0 < many k
  ·rw [if_pos e]
   refine ⟨g1.add (by omega) (by simp only;omega) (by simp only;omega) (by simp only;omega),by rw [List.length_append,List.length_singleton];omega,?_⟩;rw [zaa5];simp only;omega
  ·rw [if_neg e,List.append_nil]
   exact ⟨g1,by omega,by omega⟩
theorem zyl (a b:List (Nat × Nat)):zct (a ++ b)=zct a+zct b:=by
 unfold zct;rw [List.map_append,List.sum_append]
theorem z1b (M T:zj) (r:Nat × Nat):zct (zhg M T r)=upI M T r.2 - bfI M T r.1:=by
 unfold zhg
 by_cases h:bfI M T r.1 < upI M T r.2
 ·rw [if_pos h]
  unfold zct;rw [List.map_singleton,List.sum_singleton];simp only;omega
 ·rw [if_neg h]
  unfold zct;rw [List.map_nil,List.sum_nil];omega
theorem z1c (M T:zj) (a b:List (Nat × Nat)):zco M T (a ++ b)=zco M T a ++ zco M T b:=by
 unfold zco;rw [List.flatMap_append]
theorem zym {M:zj} (V:zal M) {each:Nat} {many many':Nat→Nat}:∀ (k:Nat),(∀ w,w < k→many w≤many' w∧many' w≤each)→k * each≤cnt (opM M) ts0→zlg M (zel each many k)≤zlg M (zel each many' k)
 | 0,_,_=>Nat.le_refl _
 | k+1,h,hc=>by
  rw [Nat.succ_mul] at hc;have ih:=zym V k (fun w hw=>h w (by omega)) (by omega);obtain ⟨h1,h2⟩:=h k (by omega);unfold zlg at ih ⊢;rw [zel,zel,z1c,z1c,zyl,zyl];refine Nat.add_le_add ih ?_
  by_cases e:0 < many k
  ·rw [if_pos e,if_pos (by omega)]
   have hs:∀ r,zco (opM M) M [r]=zhg (opM M) M r:=fun r=>by simp [zco]
   rw [hs,hs,z1b,z1b];have:=zadw (zw7 M) (zu9 V) (x:=k * each+many k - 1) (y:=k * each+many' k - 1) (by omega) (by omega);simp only;omega
  ·rw [if_neg e]
   simp [zco,zct]
theorem z8o {all n n':Nat} (h:n≤n'):zjj all n≤zjj all n':=by
 unfold zjj
 split<;>split<;>(try split)<;>(try split)<;>omega
theorem zaa6 (all n:Nat):0≤zjj all n:=by
 unfold zjj
 split
 ·omega
 ·split<;>omega
end Go.Proofs.YtnoffnkmibjndaaGreat
