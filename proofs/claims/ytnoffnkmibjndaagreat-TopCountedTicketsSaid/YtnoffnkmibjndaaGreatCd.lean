/-
  The walk of Truth: a truth out of the least sums.
-/
import Derived.Test.YtnoffnkmibjndaaGreatCc
import Derived.Test.YtnoffnkmibjndaaGreatBa
import Derived.Laws.CopyOwn
set_option maxRecDepth 200000
set_option maxHeartbeats 0
namespace Go.Proofs.YtnoffnkmibjndaaGreat.Cu
open Go.Lib (hid)
open Go.RowKit Go.Shelf
theorem z6o:El 35 2 1:=El.mk' (bytes:=8) (z:=.int .i64 0) (by kernel_rfl) (by kernel_rfl) rfl (by omega) (by omega)
theorem zafj:∃ i,Tryz.prog.info? 2=some i∧i.zero=some (.int .i64 0)∧i.size=1∧i.bytes=8:=info_parts (by kernel_rfl)
theorem truth_any (h:Hall) (sv:Value) (w:World) (hs:IsCnts w sv h.cs) :
  Calls Tryz.prog 8 #[.agg #[.int .i64 h.n,.int .i64 h.most,sv]] w fun e w' =>
   ∃ tv,e = .returned (.tuple #[tv,.int .i64 (truthErr h)])∧Ext w w'∧zn w' .i64 tv (truthL h):=by
 obtain ⟨sa,cap,rfl,hl1,hl2,-⟩:=hs.spec;have HS:=hid hs;clear hs
 by_cases hc:chk h=0
 rotate_left
 ·go_enter Tryz.func8,Tryz.ntmps8
  go_wp2_with fail;refine (z1n h (.slice sa h.cs.length cap) (.slice none 0 0) [] _ (HS.out.ext xx) (zn.nil _ _) (by rw [zgu];exact hc)).mono ?_
  rintro e W1 ⟨rfl,hb1⟩;rw [zgu];have hc':(chk h == 0)=false:=by simpa using hc
  go_wp2_with fail;refine bodyPost_ret (v:=.tuple #[.slice none 0 0,.int .i64 (chk h)]) (by simp [results,Tryz.results8,go_sem]) rfl ?_
  have e:truthErr h=chk h:=by simp [truthErr,hc]
  refine ⟨.slice none 0 0,by rw [e],xx,?_⟩;rw [show truthL h=[] by rw [truthL,e,if_neg hc]];exact zn.nil _ _
 have v:=valid_of_chk hc;have n1:=v.n1;have n10:=v.n10;have V:=hid v;clear v
 go_enter Tryz.func8,Tryz.ntmps8
 go_wp2_with fail;refine (z4p h (.slice sa h.cs.length cap) (.slice none 0 0) [] _ (HS.out.ext xx) (zn.nil _ _) (by rw [zgu];exact hc)).mono ?_
 rintro e W1 ⟨b,r,rfl,hb1,hsh⟩;have k0:=zf hb1 (a:=⟨w.heap.size,0,none⟩) (v:=.int .i64 h.n) (by simp [go_sem]);have HE1:=hid (Ext.trans' (by exact xx) hb1:Ext w W1);have HSh:=hid hsh;clear hb1 hsh;go_wp2_with fail;refine (least_any h _ V.out 0 (by omega) b r _ HSh.out).mono ?_
 rintro e W2 ⟨rfl,hb2,hwy⟩;replace k0:=zf hb2 k0;have HE2:=hid (HE1.out.trans' hb2);have HW:=hid hwy;have hbw:=hwy.lt;have hzz:w.heap.size < W2.heap.size:=World.block_lt_of_cell? _ _ k0;clear hb2 hwy;cases hok:(leastM h 0).2
 ·go_wp2_with fail
  refine bodyPost_ret (v:=.tuple #[.slice none 0 0,.int .i64 5]) (by simp [results,Tryz.results8,go_sem]) rfl ?_
  have e:truthErr h=5:=by simp [truthErr,hc,hok]
  refine ⟨.slice none 0 0,by rw [e],HE2.out,?_⟩;rw [show truthL h=[] by rw [truthL,e];rfl];exact zn.nil _ _
 have he:truthErr h=0:=by simp [truthErr,hc,hok]
 have HERR:=hid he;obtain ⟨N,hN⟩:∃ N:Nat,N=h.n.toNat:=⟨_,rfl⟩
 have hNi:h.n=N:=by omega
 have HNI:=hid hNi;have HN:=hid hN;have hN10:N≤10:=by omega
 have hN1:1≤N:=by omega
 rw [hNi] at k0;clear he hN hNi hok;obtain ⟨σ,hσ⟩:∃ σ:Nat→Int,σ=(leastM h 0).1.sums:=⟨_,rfl⟩
 have HB:=hid (fun i=>hσ ▸ zyq V.out 0 i:∀ i,-20000000000≤σ i∧σ i≤1099511627776);have HSG:=hid hσ;have HSUM:Hid (∀ i,i < 11→W2.cell? ⟨W1.heap.size,i,none⟩=some (.int .i64 (σ i))):=hid fun i hi=>by rw [hσ];exact HW.out.sum hi
 clear hσ;go_wp2_with fail
 go_loopw [8,28] (fun v i W=>∃ k:Nat,k≤N∧i = .int .i64 k∧Ext W2 W∧zu W W2.heap.size 2 1 v ((List.range k).map fun j=>zb0 (σ (j+1) - σ j))) (fun _ i _=>N - (intOf i).toNat)
 case atStart=>exact ⟨0,Nat.zero_le _,rfl,Below.refl _ _,zu.nil _ _ _ _⟩
 case round =>
  obtain ⟨k,hk,rfl,hb,hown⟩:=hrel;have HO:=hid hown;clear hown
  by_cases hlt:k < N
  ·have s0:=zf hb (HSUM.out k (by omega))
   have s1:=zf hb (HSUM.out (k+1) (by omega));have b0:=HB.out k;have b1:=HB.out (k+1);have hz:=hb.size;have hbw':W1.heap.size < wr.heap.size:=by omega
   have HE:=hid hb;have hw1:IntKind.i64.wrap ((k:Int)+1)=(k:Int)+1:=IntWalk.i64_in _ (by omega);have hw2:((k:Int)+1).toNat=k+1:=by omega
   have hw3:(0:Int)≤(k:Int)+1:=by omega
   have hw4:(k:Int)+1 < 11:=by omega
   have hw5:(k:Int) < 11:=by omega
   have hw6:IntKind.i64.wrap (σ (k+1) - σ k)=σ (k+1) - σ k:=IntWalk.i64_in _ (by omega);clear hb;go_wp2_with fail
   go_region_law (refine zadk rfl (.tmp 31) (.tmp 46) z6o rfl W2.heap.size rfl (HO.out.ext (by exact xx)) wr.heap.size 0 1 [zb0 (σ (k+1) - σ k)] rfl (by simp [zb0]) (zuy (fun j hj=>by
     have hj0:j=0:=by simp [zb0] at hj;omega
     subst hj0;simp [go_sem,zb0])) (by simp [zb0,Value.oneCell']) (by simp;omega) (by simp;omega) ?_;intro v' w' hown' hb')
   all_goals
    have HO2:=hid hown';have HB2:=hid hb';clear hown' hb' hw1 hw2 hw3 hw4 hw5 hw6 s0 s1;go_wp2_with fail;go_roundw
    case rel =>
     refine ⟨k+1,by omega,by go_num,HE.out.trans (Below.trans (by exact ((Below.refl _ _).drew.alloc (by simp;omega) _)) HB2.out),?_⟩;have e:((List.range (k+1)).map fun j=>zb0 (σ (j+1) - σ j))=((List.range k).map fun j=>zb0 (σ (j+1) - σ j)) ++ [zb0 (σ (k+1) - σ k)]:=by
      rw [List.range_succ,List.map_append];rfl
     rw [e];exact HO2.out
    case measure=>simp [intOf];omega
  ·obtain rfl:k=N:=by omega
   obtain ⟨va,vcap,rfl,hv1,hv2,hv3⟩:=HO.out.form;have hlen:((List.range k).map fun j=>zb0 (σ (j+1) - σ j)).length=k:=by simp
   rw [hlen] at hv1 ⊢
   rcases hv3 with ⟨h0,_⟩ | ⟨g,rfl,hg1,hg2,hg3,_⟩
   ·rw [← List.length_eq_zero_iff,hlen] at h0;omega
   have HG3:=hid hg3;have HE:=hid hb;clear hlen hg3 hb;obtain ⟨iI,hiI,hzI,hsI,hbI⟩:=zafj;have hbk:iI.bytes * k≤281474976710656:=by rw [hbI];omega
   go_wp2_with (first | (at_make;refine wpList_make_full _ rfl _ _ 35 rfl W2.heap.size 2 iI (.int .i64 0) 1 z6o.und hiI hzI hsI .i64 .i64 _ _ k rfl rfl rfl rfl hbk (by simp [maxLen];omega) (by have:=HE.out.size;omega) ?_));intro w3 hown3 hg3';have hE3:Ext wr w3:=(Below.refl _ wr).grown hg3' (Nat.le_refl _) fun k hk=>by cases hk
   have hcur:∃ cur:Array Value,w3.heap[wr.heap.size]? = some (.cells cur 2 (0,0))∧cur.size=k:=by
    rcases hown3.2 with ⟨e,_⟩ | ⟨g',cap',cur,e,_,hg',_,_,hcs,_⟩
    ·cases e
    ·cases e;exact ⟨cur,hg',by omega⟩
   obtain ⟨cur,hcur,hcs⟩:=hcur;have HCUR:=hid hcur;have HCS:=hid hcs;have HE3:=hid hE3;have hsrc:∀ j v,((zcz h).map (Value.int .i64))[j]? = some v→w3.cell? ((⟨g,0,none⟩:Addr).add j)=some v:=fun j v hj=>by
    rw [addr_add,Nat.zero_add];have hjk:j < k:=by
     have:=(List.getElem?_eq_some_iff.1 hj).1;simp [zcz] at this;have:=HN.out;omega
    have:=HG3.out j (by simpa using hjk) 0 (by simp [zb0]);simp [zb0] at this;have hv:v = .int .i64 (σ (j+1) - σ j):=by
     have:=(List.getElem?_eq_some_iff.1 hj).2;simp [zcz] at this;rw [← this,HSG.out]
    rw [hv];exact zf HE3.out this
   have HSRC:=hid hsrc;have hlen:((zcz h).map (Value.int .i64)).length=Nat.min k k:=by have:=HN.out;simp [zcz];omega
   have HLEN:=hid hlen;have HFIT:Hid (0+((zcz h).map (Value.int .i64)).length≤cur.size):=hid (by rw [hlen,hcs];show 0+min k k≤k;omega);have HONE:Hid (∀ u∈(zcz h).map (Value.int .i64),u.oneCell'=true):=hid (by intro u hu;obtain ⟨y,_,rfl⟩:=List.mem_map.1 hu;rfl);have hsz1:(Tryz.prog.info? 2).map (·.size)=some 1:=by rw [hiI];simp [hsI]
   have HSZ:=hid hsz1;clear hown3 hg3' hE3 hcur hcs hsrc hlen hsz1 hiI hzI hsI hbI hbk;go_wp2_with (with_reducible refine wpList_copy_own rfl (.tmp 52) (.tmp 53) 35 35 rfl 2 z6o.und HSZ.out wr.heap.size 0 k k ⟨g,0,none⟩ k vcap rfl rfl cur 2 HCUR.out ((zcz h).map (Value.int .i64)) HLEN.out HSRC.out HFIT.out HONE.out ?_);refine bodyPost_ret (v:=.tuple #[.slice (some ⟨wr.heap.size,0,none⟩) k k,.int .i64 0]) (by simp [results,Tryz.results8,go_sem]) rfl ?_
   refine ⟨.slice (some ⟨wr.heap.size,0,none⟩) k k,by rw [HERR.out],(HE2.out.trans' HE.out).trans' (HE3.out.mono (Nat.le_refl _) |>.trans (by exact below_setRow (Below.refl _ _) (Nat.le_refl _) _)),?_⟩;have hl:(zcz h).length=k:=by have:=HN.out;simp [zcz];omega
   have e:truthL h=zcz h:=by rw [truthL,HERR.out];rfl
   rw [e];have:=zn.mk (w:=w3.setRow wr.heap.size (cur.toList.take 0 ++ ((zcz h).map (Value.int .i64) ++ cur.toList.drop (0+((zcz h).map (Value.int .i64)).length))).toArray) (k:=.i64) (l:=zcz h) (b:=wr.heap.size) (off:=0) (cap:=k) (by omega) (by omega) fun i hi=>by
    rw [cell_of_row _ _ _ _ _ _ (setRow_heap w3 wr.heap.size _ _ _ _ HCUR.out)];simp [List.getElem?_append_left,hi]
   rw [hl] at this;simpa using this
theorem zpf {x y z x' y' z':Int} (h1:x=x') (h2:y=y') (h3:z=z'):Ending.returned (.tuple #[.agg #[.int .i64 x,.int .i64 y],.int .i64 z]) = .returned (.tuple #[.agg #[.int .i64 x',.int .i64 y'],.int .i64 z']):=by rw [h1,h2,h3]
theorem span_any (h:Hall) (sv:Value) (f t:Int) (w:World) (hs:IsCnts w sv h.cs) :
  Calls Tryz.prog 10 #[.agg #[.int .i64 h.n,.int .i64 h.most,sv],.int .i64 f,.int .i64 t] w fun e w' =>
   e = .returned (.tuple #[.agg #[.int .i64 (spanLo h f t),.int .i64 (spanHi h f t)],.int .i64 (spanE h f t)])∧Ext w w':=by
 obtain ⟨sa,cap,rfl,hl1,hl2,-⟩:=hs.spec;have HS:=hid hs;clear hs
 by_cases hc:chk h=0
 rotate_left
 ·go_enter Tryz.func10,Tryz.ntmps10
  go_wp2_with fail;refine (z1n h (.slice sa h.cs.length cap) (.slice none 0 0) [] _ (HS.out.ext xx) (zn.nil _ _) (by rw [zgu];exact hc)).mono ?_
  rintro e W1 ⟨rfl,hb1⟩;rw [zgu];have r0:=zf hb1 (a:=⟨w.heap.size+1,0,none⟩) (v:=.int .i64 0) (by simp [go_sem]);have r1:=zf hb1 (a:=⟨w.heap.size+1,1,none⟩) (v:=.int .i64 0) (by simp [go_sem]);have rf0:W1.frozen? ⟨w.heap.size+1,0,none⟩=false:=(hb1.frozen (p:=⟨w.heap.size+1,0,none⟩) (by simp)).trans (by simp [go_sem]);have rf1:W1.frozen? ⟨w.heap.size+1,1,none⟩=false:=(hb1.frozen (p:=⟨w.heap.size+1,1,none⟩) (by simp)).trans (by simp [go_sem]);have HE1:=hid (Ext.trans' (by exact xx) hb1:Ext w W1);clear hb1;have hc':(chk h == 0)=false:=by simpa using hc
  have he:spanE h f t=chk h:=by simp [spanE,hc]
  have HX:=hid he;clear he;go_wp2_with fail;refine bodyPost_ret (v:=.tuple #[.agg #[.int .i64 0,.int .i64 0],.int .i64 (chk h)]) (by simp [results,Tryz.results10,go_sem,r0,r1]) rfl ?_
  exact ⟨zpf (by rw [spanLo,HX.out,if_neg hc]) (by rw [spanHi,HX.out,if_neg hc]) HX.out.symm,(HE1.out.setCell (by simp) _).setCell (by simp) _⟩
 have v:=valid_of_chk hc;have n1:=v.n1;have n10:=v.n10;have V:=hid v;clear v
 go_enter Tryz.func10,Tryz.ntmps10
 go_wp2_with fail;refine (z4p h (.slice sa h.cs.length cap) (.slice none 0 0) [] _ (HS.out.ext xx) (zn.nil _ _) (by rw [zgu];exact hc)).mono ?_
 rintro e W1 ⟨b,r,rfl,hb1,hsh⟩;have k0:=zf hb1 (a:=⟨w.heap.size,0,none⟩) (v:=.int .i64 h.n) (by simp [go_sem]);have r0:=zf hb1 (a:=⟨w.heap.size+1,0,none⟩) (v:=.int .i64 0) (by simp [go_sem]);have r1:=zf hb1 (a:=⟨w.heap.size+1,1,none⟩) (v:=.int .i64 0) (by simp [go_sem]);have rf0:W1.frozen? ⟨w.heap.size+1,0,none⟩=false:=(hb1.frozen (p:=⟨w.heap.size+1,0,none⟩) (by simp)).trans (by simp [go_sem]);have rf1:W1.frozen? ⟨w.heap.size+1,1,none⟩=false:=(hb1.frozen (p:=⟨w.heap.size+1,1,none⟩) (by simp)).trans (by simp [go_sem]);have HE1:=hid (Ext.trans' (by exact xx) hb1:Ext w W1);have HSh:=hid hsh;have hz1:w.heap.size+1 < W1.heap.size:=World.block_lt_of_cell? _ _ r0;clear hb1 hsh
 by_cases hbad:f < 0∨t < f∨h.n≤t
 ·have he:spanE h f t=2:=by simp only [spanE,hc,if_pos hbad];simp
  have HX:=hid he;clear he;have hd:(decide (f < 0) || (decide (t < f) || decide (h.n≤t)))=true:=by simpa using hbad
  go_wp2
  all_goals
   refine bodyPost_ret (v:=.tuple #[.agg #[.int .i64 0,.int .i64 0],.int .i64 2]) (by simp [results,Tryz.results10,go_sem,r0,r1]) rfl ?_
   exact ⟨zpf (by rw [spanLo,HX.out];rfl) (by rw [spanHi,HX.out];rfl) HX.out.symm,(HE1.out.setCell (by simp) _).setCell (by simp) _⟩
 obtain ⟨F,rfl⟩:∃ F:Nat,f=F:=⟨f.toNat,by omega⟩
 obtain ⟨T,rfl⟩:∃ T:Nat,t=T:=⟨t.toNat,by omega⟩
 have hft:F≤T:=by omega
 have hTn:(T:Int) < h.n:=by omega
 have hd1:decide ((F:Int) < 0)=false:=by simp
 have hd2:decide ((T:Int) < (F:Int))=false:=by simp;omega
 have hd3:decide (h.n≤(T:Int))=false:=by simp;omega
 have HBAD:=hid hbad;clear hbad;go_wp2_with fail;refine (least_any h _ V.out F (by omega) b r _ HSh.out).mono ?_
 rintro e W2 ⟨rfl,hb2,hwy⟩;replace r0:=zf hb2 r0;replace r1:=zf hb2 r1;replace rf0:W2.frozen? ⟨w.heap.size+1,0,none⟩=false:=(hb2.frozen (p:=⟨w.heap.size+1,0,none⟩) hz1).trans rf0;replace rf1:W2.frozen? ⟨w.heap.size+1,1,none⟩=false:=(hb2.frozen (p:=⟨w.heap.size+1,1,none⟩) hz1).trans rf1;have hz2:w.heap.size+1 < W2.heap.size:=World.block_lt_of_cell? _ _ r0;have HE2:=hid (HE1.out.trans' hb2);have HSh2:=hid (HSh.out.ext hb2);have HW:=hid hwy;clear hb2 hwy hd1 hd2 hd3 k0;cases hok:(leastM h F).2
 ·have he:spanE h F T=5:=by simp only [spanE,hc,if_neg HBAD.out,Int.toNat_natCast,hok];simp
  have HX:=hid he;clear he;go_wp2_with fail;refine bodyPost_ret (v:=.tuple #[.agg #[.int .i64 0,.int .i64 0],.int .i64 5]) (by simp [results,Tryz.results10,go_sem,r0,r1]) rfl ?_
  exact ⟨zpf (by rw [spanLo,HX.out];rfl) (by rw [spanHi,HX.out];rfl) HX.out.symm,(HE2.out.setCell (by simp) _).setCell (by simp) _⟩
 have he:spanE h F T=0:=by simp only [spanE,hc,if_neg HBAD.out,Int.toNat_natCast,hok];simp
 have HX:=hid he;clear he hok;have hw1:IntKind.i64.wrap ((T:Int)+1)=(T:Int)+1:=IntWalk.i64_in _ (by omega);go_wp2_with fail;refine (least_any h _ V.out (T+1) (by omega) b r _ HSh2.out).mono ?_
 rintro e W3 ⟨rfl,hb3,hwy3⟩;replace r0:=zf hb3 r0;replace r1:=zf hb3 r1;replace rf0:W3.frozen? ⟨w.heap.size+1,0,none⟩=false:=(hb3.frozen (p:=⟨w.heap.size+1,0,none⟩) hz2).trans rf0;replace rf1:W3.frozen? ⟨w.heap.size+1,1,none⟩=false:=(hb3.frozen (p:=⟨w.heap.size+1,1,none⟩) hz2).trans rf1;have HE3:=hid (HE2.out.trans' hb3);have s1:=(HW.out.ext hb3).sum (i:=T+1) (by omega);have s2:=hwy3.sum (i:=F) (by omega);have z1:W1.heap.size < W3.heap.size:=World.block_lt_of_cell? _ _ s1;have z2:W2.heap.size < W3.heap.size:=World.block_lt_of_cell? _ _ s2;have z0:w.heap.size+1 < W3.heap.size:=World.block_lt_of_cell? _ _ r0;obtain ⟨x,hx⟩:∃ x,x=(leastM h F).1.sums (T+1):=⟨_,rfl⟩
 obtain ⟨y,hy⟩:∃ y,y=(leastM h (T+1)).1.sums F:=⟨_,rfl⟩
 have hyb:=hy ▸ zyq V.out (T+1) F;rw [← hx] at s1;rw [← hy] at s2;have HXX:=hid hx;have HYY:=hid hy;have hw2:((T:Int)+1).toNat=T+1:=by omega
 have hw3:(0:Int)≤(T:Int)+1:=by omega
 have hw4:(T:Int)+1 < 11:=by omega
 have hw5:(F:Int) < 11:=by omega
 have hw6:IntKind.i64.wrap (-y) = -y:=IntWalk.i64_in _ (by omega);clear hb3 hwy3 hx hy hyb;go_wp2_with fail
 go_region
 all_goals
  go_wp2_with fail;refine bodyPost_ret (v:=.tuple #[.agg #[.int .i64 (-y),.int .i64 x],.int .i64 0]) (by simp [results,Tryz.results10,go_sem,r0,r1]) rfl ?_
  refine ⟨zpf (by rw [spanLo,HX.out,if_pos rfl,HYY.out];simp) (by rw [spanHi,HX.out,if_pos rfl,HXX.out];simp) HX.out.symm,(Below.setCell (Below.setCell (Below.drew HE3.out) (by simp) _) (by simp) _)⟩
theorem zzp (t:List Int) (f k:Nat) (hk:k < t.length) (hf:f≤k):((t.drop f).take (k+1 - f)).sum=((t.drop f).take (k - f)).sum+t[k]:=by
 have e:k+1 - f=(k - f)+1:=by omega
 have hl:k - f < (t.drop f).length:=by simp;omega
 rw [e,zp9 _ _ hl]
 congr 1
 simp
 congr 1
 omega
theorem zad3 (t:List Int) (tv:Value) (f g:Nat) (hfg:f≤g) (hg:g < t.length) (m:Int) (hm0:0≤m) (hm:m≤1000000000000) (h10:t.length≤1000) (ht:∀ x∈t,0≤x∧x≤m) (w:World) (hv:zn w .i64 tv t) :
  Calls Tryz.prog 22 #[tv,.int .i64 f,.int .i64 g] w fun e w'=>e = .returned (.int .i64 (sm t f g))∧Ext w w':=by
 obtain ⟨ta,tcap,rfl,hm1,hm2,hv3⟩:=hv.spec;have HT:=hid ht
 rcases hv3 with e | ⟨b,off,rfl,hc⟩
 ·simp [e] at hg
 have HC:=hid hc;clear hv hc ht
 go_enter Tryz.func22,Tryz.ntmps22
 go_wp2_with fail
 go_loopw [7,8] (fun s i W=>∃ k:Nat,f≤k∧k≤g+1∧i = .int .i64 k∧s = .int .i64 ((t.drop f).take (k - f)).sum∧Ext w W) (fun _ i _=>g+1 - (intOf i).toNat)
 case atStart=>exact ⟨f,Nat.le_refl _,by omega,rfl,by simp,Below.refl _ _⟩
 case round =>
  obtain ⟨k,hk1,hk2,rfl,rfl,hb⟩:=hrel;have hbd:=zafe ((t.drop f).take (k - f)) m fun x hx=>HT.out x (List.mem_of_mem_drop (List.mem_of_mem_take hx))
  obtain ⟨b1,b2⟩:=hbd;have hlen:((t.drop f).take (k - f)).length≤1000:=by simp;omega
  have b3:m * ((t.drop f).take (k - f)).length≤1000000000000 * 1000:=Int.mul_le_mul hm (by omega) (by omega) (by omega);have b4:((t.drop f).take (k - f)).sum≤1000000000000000:=by omega
  clear b2 b3 hlen
  by_cases hlt:k < g+1
  ·have hkl:k < t.length:=by omega
   have hck:=zf hb (HC.out k hkl);have hx:=HT.out t[k] (List.getElem_mem hkl);obtain ⟨x1,x2⟩:=hx;have HB:=hid hb;clear hb;go_wp2_with fail;go_roundw
   case rel=>exact ⟨k+1,by omega,by omega,by go_num,by rw [zzp t f k hkl hk1],HB.out⟩
   case measure=>simp [intOf];omega
  ·obtain rfl:k=g+1:=by omega
   go_wp2_with fail;go_ret;exact ⟨za6 (by unfold sm;congr 2;omega),hb⟩
theorem checkTruthR_any (h:Hall) (sv tv:Value) (t:List Int) (w:World) (hs:IsCnts w sv h.cs) (ht:zn w .i64 tv t) :
  Calls Tryz.prog 9 #[.agg #[.int .i64 h.n,.int .i64 h.most,sv],tv] w fun e w'=>e = .returned (.int .i64 (zev h t))∧Ext w w':=by
 obtain ⟨sa,cap,rfl,hl1,hl2,-⟩:=hs.spec;obtain ⟨ta,tcap,rfl,hm1,hm2,-⟩:=ht.spec;have HS:=hid hs;have HT:=hid ht;clear hs ht
 go_enter Tryz.func9,Tryz.ntmps9
 go_wp2_with fail;refine (checkHallR_any h (.slice sa h.cs.length cap) _ (HS.out.ext xx)).mono ?_
 rintro e W1 ⟨rfl,hb1⟩;have k0:=zf hb1 (a:=⟨w.heap.size,0,none⟩) (v:=.int .i64 h.n) (by simp [go_sem]);have k1:=zf hb1 (a:=⟨w.heap.size,1,none⟩) (v:=.int .i64 h.most) (by simp [go_sem]);have k2:=zf hb1 (a:=⟨w.heap.size,2,none⟩) (v:=.slice sa h.cs.length cap) (by simp [go_sem]);have hE1:Ext w W1:=xx;have HE1:=hid hE1;clear hb1 hE1
 by_cases hc:chk h=0
 rotate_left
 ·have hc':(chk h == 0)=false:=by simpa using hc
  go_wp2_with fail;refine (checkHallR_any h (.slice sa h.cs.length cap) _ (HS.out.ext HE1.out)).mono ?_
  rintro e W2 ⟨rfl,hb2⟩;go_wp2_with fail;go_ret;exact ⟨za6 (by simp [zev,hc]),HE1.out.trans' hb2⟩
 have hc':(chk h == 0)=true:=by simpa using hc
 have v:=valid_of_chk hc;have n1:=v.n1;have n10:=v.n10;have m0:=v.m0;have m1:=v.m1;have V:=hid v;clear v
 by_cases hlen:(t.length:Int)=h.n
 rotate_left
 ·have hl':((t.length:Int) == h.n)=false:=by simpa using hlen
  go_wp2_with fail;go_ret;exact ⟨za6 (by simp [zev,hc,hlen]),HE1.out⟩
 have hl':((t.length:Int) == h.n)=true:=by simpa using hlen
 have htl:t.length≤10:=by omega
 go_wp2_with fail;have HLEN:=hid hlen;clear hlen hl';have K1:=hid k1;have K2:=hid k2;clear k0 k1 k2
 go_loopw [5] (fun i W=>∃ k:Nat,k≤t.length∧i = .int .i64 k∧(∀ x∈t.take k,inR 0 h.most x=true)∧Ext W1 W) (fun i _=>t.length - (intOf i).toNat)
 case atStart=>exact ⟨0,Nat.zero_le _,rfl,by simp,Below.refl _ _⟩
 case round =>
  obtain ⟨k,hk,rfl,hno,hb⟩:=hrel;have HN:=hid hno;clear hno
  by_cases hlt:k < t.length
  ·rcases (HT.out.ext (HE1.out.trans' hb)).spec with ⟨ta',tcap',te,_,_,ht3⟩
   cases te
   rcases ht3 with e | ⟨tb,toff,rfl,htc⟩
   ·simp [e] at hlt
   have hck:=htc k hlt;have k1:=zf hb K1.out;have HB:=hid hb;clear htc hb
   by_cases h1:t[k] < 0
   ·have h1':decide (t[k] < 0)=true:=by simpa using h1
    go_wp2_with fail
    go_quiet (fail)
    go_wp2_with fail;go_ret;refine ⟨za6 ?_,Ext.trans' HE1.out (HB.out.trans' xx)⟩;have:t.all (inR 0 h.most)=false:=by
     rw [List.all_eq_false];exact ⟨t[k],List.getElem_mem hlt,by simp [inR];omega⟩
    simp [zev,hc,HLEN.out,this]
   ·have h1':decide (t[k] < 0)=false:=by simpa using h1
    by_cases h2:h.most < t[k]
    ·have h2':decide (h.most < t[k])=true:=by simpa using h2
     go_wp2_with fail
     go_quiet (fail)
     go_wp2_with fail;go_ret;refine ⟨za6 ?_,Ext.trans' HE1.out (HB.out.trans' xx)⟩;have:t.all (inR 0 h.most)=false:=by
      rw [List.all_eq_false];exact ⟨t[k],List.getElem_mem hlt,by simp [inR];omega⟩
     simp [zev,hc,HLEN.out,this]
    ·have h2':decide (h.most < t[k])=false:=by simpa using h2
     go_wp2_with fail
     go_quiet (fail)
     go_wp2_with fail;go_roundw
     case rel =>
      refine ⟨k+1,by omega,by go_num,fun x hx=>?_,HB.out.trans' xx⟩;rw [List.take_succ_eq_append_getElem hlt,List.mem_append] at hx
      rcases hx with hx | hx
      ·exact HN.out x hx
      ·simp at hx
       rw [hx];simp [inR];omega
     case measure=>simp [intOf];omega
  ·obtain rfl:k=t.length:=by omega
   have hall:t.all (inR 0 h.most)=true:=by
    have:=HN.out;rw [List.take_length] at this;rw [List.all_eq_true];exact this
   have hall':∀ x∈t,0≤x∧x≤h.most:=fun x hx=>by
    have:=List.all_eq_true.1 hall x hx;simp [inR] at this;omega
   have HA:=hid hall';have HALL:=hid hall;have K2b:=hid (zf hb K2.out);have HE2:=hid (HE1.out.trans' hb);clear hall hall' HN hb K2 K1;obtain ⟨w1,rfl⟩:∃ w1:World,w1=wr:=⟨_,rfl⟩
   have k2:=K2b.out;go_wp2_with fail;clear k2
   go_loopw [6] (fun i W=>∃ k:Nat,k≤h.cs.length∧i = .int .i64 k∧(∀ c∈h.cs.take k,zl2 t c=false)∧Ext w1 W) (fun i _=>h.cs.length - (intOf i).toNat)
   case atStart=>exact ⟨0,Nat.zero_le _,rfl,by simp,Below.refl _ _⟩
   case round =>
    obtain ⟨k,hk,rfl,hno,hb⟩:=hrel;have HN:=hid hno;have HB:=hid hb;have HX:=hid (HE2.out.trans' hb);have k2:=zf hb K2b.out;clear hno hb
    by_cases hlt:k < h.cs.length
    ·rcases (HS.out.ext HX.out).opened with e | ⟨cb,coff,rfl,hcc⟩
     ·simp [e] at hlt
     obtain ⟨c0,c1,c2,c3⟩:=hcc k hlt;clear hcc;have hcv:=V.out.cs h.cs[k] (List.getElem_mem hlt);obtain ⟨f,hf⟩:∃ f:Nat,h.cs[k].f=f:=⟨h.cs[k].f.toNat,by omega⟩
     obtain ⟨g,hg⟩:∃ g:Nat,h.cs[k].t=g:=⟨h.cs[k].t.toNat,by omega⟩
     have HF:=hid hf;have HG:=hid hg;have hfg:f≤g:=by omega
     have hgl:g < t.length:=by have:=HLEN.out;omega
     rw [hf] at c0;rw [hg] at c1;clear hf hg hcv;go_wp2_with fail;refine (zad3 t (.slice ta t.length tcap) f g hfg hgl h.most m0 (by omega) (by omega) HA.out _ ((HT.out.ext HX.out).ext xx)).mono ?_
     rintro e W4 ⟨rfl,hb4⟩;have d2:=zf hb4 (a:=⟨wr.heap.size,2,none⟩) (v:=.int .i64 h.cs[k].lo) (by simp [go_sem]);have d3:=zf hb4 (a:=⟨wr.heap.size,3,none⟩) (v:=.int .i64 h.cs[k].hi) (by simp [go_sem]);have hE4:Ext wr W4:=Ext.trans' xx hb4;have HE4:=hid hE4;have hof:zl2 t h.cs[k] = !(inR h.cs[k].lo h.cs[k].hi (sm t f g)):=by unfold zl2;rw [HF.out,HG.out]
     have HOF:=hid hof;clear hb4 hE4 hof c0 c1 c2 c3
     by_cases h1:sm t f g < h.cs[k].lo
     ·have h1':decide (sm t f g < h.cs[k].lo)=true:=by simpa using h1
      have hp:zl2 t h.cs[k]=true:=by rw [HOF.out];simp [inR];omega
      have HP:=hid hp;clear hp;go_wp2_with fail;go_ret;exact ⟨za6 (by simp only [zev,hc,HLEN.out,HALL.out,zlk hlt HP.out];simp),HX.out.trans' HE4.out⟩
     ·have h1':decide (sm t f g < h.cs[k].lo)=false:=by simpa using h1
      by_cases h2:h.cs[k].hi < sm t f g
      ·have h2':decide (h.cs[k].hi < sm t f g)=true:=by simpa using h2
       have hp:zl2 t h.cs[k]=true:=by rw [HOF.out];simp [inR];omega
       have HP:=hid hp;clear hp;go_wp2_with fail;go_ret;exact ⟨za6 (by simp only [zev,hc,HLEN.out,HALL.out,zlk hlt HP.out];simp),HX.out.trans' HE4.out⟩
      ·have h2':decide (h.cs[k].hi < sm t f g)=false:=by simpa using h2
       have hp:zl2 t h.cs[k]=false:=by rw [HOF.out];simp [inR];omega
       have HP:=hid hp;clear hp;go_wp2_with fail;go_roundw
       case rel=>exact ⟨k+1,by omega,by go_num,zhq hlt HN.out HP.out,HB.out.trans' HE4.out⟩
       case measure=>simp [intOf];omega
    ·go_wp2_with fail
     go_ret;exact ⟨za6 (by simp [zev,hc,HLEN.out,HALL.out,zl3 (zhr hlt HN.out)]),HX.out⟩
end Go.Proofs.YtnoffnkmibjndaaGreat.Cu
