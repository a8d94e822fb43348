/-
  The walks of the table's functions on states and their numbers.
-/
import Derived.Test.YtnfdiohfojjnlaaGreatUb
import Derived.Test.YtnfdiohfojjnlaaGreatBb
import Derived.Test.YtnfdiohfojjnlaaGreatBa
set_option maxRecDepth 200000
set_option maxHeartbeats 0
namespace Go.Proofs.YtnfdiohfojjnlaaGreat.Tu
open Go.Lib (hid)
open Go.RowKit Go.Shelf
def THd (W:World) (p:Nat) (ks:List Int):Prop:=∃ sa cap,W.cell? ⟨p,0,none⟩=some (.slice sa ks.length cap)∧IsInts W .i64 (.slice sa ks.length cap) ks
theorem THd.ext {W W':World} {p:Nat} {ks:List Int} (h:THd W p ks) (e:Ext W W'):THd W' p ks:=by
 obtain ⟨sa,cap,h1,h2⟩:=h;exact ⟨sa,cap,zj e h1,h2.ext e⟩
theorem z9d {ks:List Int} {j:Nat} (hj:j < ks.length) (n:Int):(stN (ks.drop j) n).2=(stN (ks.drop (j+1)) n).2 / (gt ks j+1):=by
 rw [List.drop_eq_getElem_cons hj,gt_get hj];rfl
theorem z3k:∀ {ks:List Int} {j:Nat} (n:Int),j < ks.length→gt (zt ks n) j=(stN (ks.drop (j+1)) n).2 % (gt ks j+1)
 | k :: ks,0,n,_=>rfl
 | k :: ks,j+1,n,h=>by
  have:=z3k (ks:=ks) (j:=j) n (by simpa using h);simpa [zt,stN,gt] using this
theorem z9e (ks:List Int) (n:Int):(zt ks n).length=ks.length:=by
 induction ks with
 | nil=>rfl
 | cons k r ih=>simp [zt,stN] at ih ⊢;exact ih
theorem zads {s:List Int} {j:Nat} (h:s.length≤j):gt s j=0:=by
 unfold gt;rw [List.getD_eq_getElem?_getD,List.getElem?_eq_none h];rfl
theorem z7a (ks:List Int) (p:Nat) (n:Nat) (w:World) (v:TVal ks) (ht:THd w p ks) (hn:n≤1000000) :
  Calls Tryz.prog 61 #[.pointer (some ⟨p,0,none⟩),.int .i64 n] w fun e W=>e = .returned (stV (zt ks n))∧Ext w W:=by
 obtain ⟨sa,cap,hk0,hs⟩:=ht;obtain ⟨_,_,e,h1,h2,-⟩:=hs.spec;cases e;have HS:=hid hs;have V:=hid v;have n1:=v.n1;have n5:=v.n5;clear hs v
 go_enter Tryz.func61,Tryz.ntmps61
 go_upto_region 2 with (fail);obtain ⟨W0,hW0⟩:∃ W0,W0=(w.alloc (.cells #[.int .i64 0,.int .i64 0,.int .i64 0,.int .i64 0,.int .i64 0] 69)).alloc (.cells #[.int .i64 0,.int .i64 0,.int .i64 0,.int .i64 0,.int .i64 0] 69):=⟨_,rfl⟩
 have hE:Ext w W0:=by rw [hW0];exact xx
 have hr0:W0.heap[w.heap.size]? = some (.cells #[.int .i64 0,.int .i64 0,.int .i64 0,.int .i64 0,.int .i64 0] 69 (0,0)):=by
  rw [hW0];show (Array.push (Array.push _ _) _)[w.heap.size]? = _;rw [Array.getElem?_push,if_neg (by simp),Array.getElem?_push,if_pos rfl]
 have hs0:W0.heap[w.heap.size+1]? = some (.cells #[.int .i64 0,.int .i64 0,.int .i64 0,.int .i64 0,.int .i64 0] 69 (0,0)):=by
  rw [hW0];show (Array.push (Array.push _ _) _)[w.heap.size+1]? = _;rw [Array.getElem?_push,if_pos (by simp)]
 have k0:=zj hE hk0;have hz:p < w.heap.size:=World.block_lt_of_cell? _ _ hk0;rw [← hW0];have HE0:=hid hE;have HS0:=hid hs0;have HR0:=hid hr0;clear hW0 hE hs0 hr0;go_wp2_with fail
 go_loopw [1,6] (fun nv i W=>∃ (k:Nat) (m:Int) (cur:Array Value),k≤ks.length∧nv = .int .i64 m∧i = .int .i64 ((k:Int) - 1)∧0≤m∧m≤1000000∧m=(stN (ks.drop k) n).2∧Ext w W∧W.heap[w.heap.size+1]? = some (.cells cur 69 (0,0))∧IntsB cur 5 .i64 (fun j=>if k≤j then gt (zt ks n) j else 0)∧W.heap[w.heap.size]? = some (.cells #[.int .i64 0,.int .i64 0,.int .i64 0,.int .i64 0,.int .i64 0] 69 (0,0))) (fun _ i _=>(intOf i+1).toNat)
 case atStart=>exact ⟨ks.length,n,_,by omega,rfl,by go_num,by omega,by omega,by rw [List.drop_length];rfl,HE0.out,HS0.out,(⟨rfl,fun j hj=>match j,hj with | 0,_=>rfl | 1,_=>rfl | 2,_=>rfl | 3,_=>rfl | 4,_=>rfl⟩:IntsB #[.int .i64 0,.int .i64 0,.int .i64 0,.int .i64 0,.int .i64 0] 5 .i64 (fun _=>0)).congr fun j _=>by
  by_cases h:ks.length≤j
  ·rw [if_pos h,zads (by rw [z9e];exact h)]
  ·rw [if_neg h],HR0.out⟩
 case round =>
  obtain ⟨k,m,cur,hk,rfl,rfl,hm0,hm1,hm,hE,hc,hI,hr⟩:=hrel;have HR:=hid hr;have HI:=hid hI;have HC:=hid hc;have HE:=hid hE;have hzw:w.heap.size+1 < wr.heap.size:=(Array.getElem?_eq_some_iff.1 hc).1;have k0':=zj hE hk0
  by_cases hlt:0 < k
  ·obtain ⟨k,rfl⟩:∃ j,k=j+1:=⟨k - 1,by omega⟩
   have hkl:k < ks.length:=by omega
   have hk5:(k:Int) < 5:=by omega
   have hg0:decide ((0:Int)≤(k:Int))=true:=decide_eq_true (by omega)
   rcases HS.out.spec with ⟨sa',cap',e,-,-,hcc⟩
   cases e
   rcases hcc with hcc | ⟨b,off,rfl,hcc⟩
   ·rw [hcc] at hkl;simp at hkl
   have c0w:=hcc k hkl;have hbl:=World.block_lt_of_cell? _ _ c0w;simp only at hbl;have hne1:(w.heap.size+1=b)=False:=eq_false (by omega);have hne2:(b=w.heap.size+1)=False:=eq_false (by omega);have c0:=zj hE c0w;rw [gt_get hkl] at c0;clear c0w;have hki:(k:Int) < (ks.length:Int):=by omega
   have hkb:=V.out.at_ k hkl;have e1:=z3k n hkl;have e2:=z9d hkl n;rw [← hm] at e1 e2;obtain ⟨x,hx⟩:∃ x,x=gt ks k:=⟨_,rfl⟩
   have hxb:1≤x∧x≤12:=by rw [hx];exact hkb
   rw [← hx] at c0 e1 e2;have hcast:((k+1:Nat):Int) - 1=(k:Int):=by omega
   have ht1:m.tmod (x+1)=m % (x+1):=Int.tmod_eq_emod_of_nonneg hm0;have ht2:m.tdiv (x+1)=m / (x+1):=Int.tdiv_eq_ediv_of_nonneg hm0;have hm3:=Int.emod_nonneg m (show x+1≠0 by omega);have hm4:=Int.emod_lt_of_pos m (show 0 < x+1 by omega);have hd1:0≤m / (x+1):=Int.ediv_nonneg hm0 (by omega);have hd2:m / (x+1)≤m:=Int.ediv_le_self _ hm0;have hw1:IntKind.i64.wrap (m % (x+1))=m % (x+1):=IntWalk.i64_in _ (by omega);have hw2:IntKind.i64.wrap (m / (x+1))=m / (x+1):=IntWalk.i64_in _ (by omega);have hxz:(x+1 == 0)=false:=by simp;omega
   have hcell:wr.cell? ⟨w.heap.size+1,k,none⟩=some (.int .i64 0):=by
    rw [cell_of_row _ _ _ _ _ _ hc,hI.at_ k (by omega),if_neg (by omega)]
   have hfr:wr.frozen? ⟨w.heap.size+1,k,none⟩=false:=by simp [World.frozen?,hc]
   have E1:=hid e1;have E2:=hid e2;clear hcc hx hE hc hI hr e1 e2 hm hkb;rw [hcast];clear hcast;go_wp2_with fail;go_roundw
   case rel=>exact ⟨k,m / (x+1),cur.setIfInBounds k (.int .i64 (m % (x+1))),by omega,rfl,by go_num,hd1,by omega,E2.out.symm,HE.out.setCell (by simp only;omega) _,zp HC.out k _,(HI.out.set k _).congr fun j hj=>by
     show (if j=k then _ else (if k+1≤j then gt (zt ks n) j else 0))=if k≤j then gt (zt ks n) j else 0
     by_cases e:j=k
     ·subst e;rw [if_pos rfl,if_pos (Nat.le_refl _),E1.out]
     ·rw [if_neg e]
      by_cases h:k≤j
      ·rw [if_pos (show k+1≤j by omega),if_pos h]
      ·rw [if_neg (show ¬ (k+1≤j) by omega),if_neg h],(Below.heap_setCell _ _ _ _ (by simp only;omega)).trans HR.out⟩
   case measure=>simp [intOf]<;>omega
  ·obtain rfl:k=0:=by omega
   have hg0:decide ((0:Int)≤(0:Int) - 1)=false:=by decide
   have hcur:=z65 hI;simp only [Nat.zero_le,if_true] at hcur;subst hcur;have hc:=HC.out;have d0:wr.cell? ⟨w.heap.size+1,0,none⟩=some (.int .i64 (gt (zt ks n) 0)):=by rw [cell_of_row _ _ _ _ _ _ hc];rfl
   have d1:wr.cell? ⟨w.heap.size+1,1,none⟩=some (.int .i64 (gt (zt ks n) 1)):=by rw [cell_of_row _ _ _ _ _ _ hc];rfl
   have d2:wr.cell? ⟨w.heap.size+1,2,none⟩=some (.int .i64 (gt (zt ks n) 2)):=by rw [cell_of_row _ _ _ _ _ _ hc];rfl
   have d3:wr.cell? ⟨w.heap.size+1,3,none⟩=some (.int .i64 (gt (zt ks n) 3)):=by rw [cell_of_row _ _ _ _ _ _ hc];rfl
   have d4:wr.cell? ⟨w.heap.size+1,4,none⟩=some (.int .i64 (gt (zt ks n) 4)):=by rw [cell_of_row _ _ _ _ _ _ hc];rfl
   have r0:wr.cell? ⟨w.heap.size,0,none⟩=some (.int .i64 0):=by rw [cell_of_row _ _ _ _ _ _ hr];rfl
   have r1:wr.cell? ⟨w.heap.size,1,none⟩=some (.int .i64 0):=by rw [cell_of_row _ _ _ _ _ _ hr];rfl
   have r2:wr.cell? ⟨w.heap.size,2,none⟩=some (.int .i64 0):=by rw [cell_of_row _ _ _ _ _ _ hr];rfl
   have r3:wr.cell? ⟨w.heap.size,3,none⟩=some (.int .i64 0):=by rw [cell_of_row _ _ _ _ _ _ hr];rfl
   have r4:wr.cell? ⟨w.heap.size,4,none⟩=some (.int .i64 0):=by rw [cell_of_row _ _ _ _ _ _ hr];rfl
   have rf:∀ o,wr.frozen? ⟨w.heap.size,o,none⟩=false:=fun o=>by simp [World.frozen?,hr]
   clear hc hI hr hE hm;go_wp2_with fail;refine bodyPost_ret (v:=stV (zt ks n)) (by simp [results,Tryz.results61,go_sem,stV,stA,r0,r1,r2,r3,r4]) rfl ⟨rfl,?_⟩;exact ((((HE.out.setCell (Nat.le_refl _) _).setCell (Nat.le_refl _) _).setCell (Nat.le_refl _) _).setCell (Nat.le_refl _) _).setCell (Nat.le_refl _) _
theorem z7b {ks s:List Int} {k:Nat} (hk:k < ks.length) (hl:s.length=ks.length) (a:Int):zf7 a (ks.drop k) (s.drop k)=zf7 (a * (gt ks k+1)+gt s k) (ks.drop (k+1)) (s.drop (k+1)):=by
 rw [List.drop_eq_getElem_cons hk,List.drop_eq_getElem_cons (show k < s.length by omega),zf7,gt_get hk,gt_get (show k < s.length by omega)]
def zes (ks:List Int) (k:Nat):Int:=zq (ks.take k)
theorem zpv:∀ (a b:List Int),zq (a ++ b)=zq a * zq b
 | [],b=>by simp [zq]
 | x :: a,b=>by rw [List.cons_append,zq,zq,zpv a b,Int.mul_assoc]
theorem z3l {ks:List Int} (hk:∀ k∈ks,0≤k) (j:Nat):zes ks j≤zq ks:=by
 have e:=zpv (ks.take j) (ks.drop j);rw [List.take_append_drop] at e;have h1:=zc9 (ks:=ks.drop j) fun x hx=>hk x (List.mem_of_mem_drop hx)
 have h2:=zc9 (ks:=ks.take j) fun x hx=>hk x (List.mem_of_mem_take hx)
 unfold zes;rw [e];have:=Int.mul_le_mul_of_nonneg_left h1 (show 0≤zq (ks.take j) by omega);omega
theorem zpw {ks:List Int} {k:Nat} (hk:k < ks.length):zes ks (k+1)=zes ks k * (gt ks k+1):=by
 unfold zes;rw [List.take_add_one,List.getElem?_eq_getElem hk,zpv,gt_get hk];simp [zq]
theorem z3m (ks s:List Int) (p:Nat) (w:World) (v:TVal ks) (hst:zaj ks s=true) (ht:THd w p ks) :
  Calls Tryz.prog 33 #[.pointer (some ⟨p,0,none⟩),stV s] w fun e W=>e = .returned (.int .i64 (zau ks s))∧Ext w W:=by
 obtain ⟨sa,cap,hk0,hs⟩:=ht;obtain ⟨_,_,e,h1,h2,-⟩:=hs.spec;cases e;have HS:=hid hs;have V:=hid v;have n1:=v.n1;have n5:=v.n5;have hl:=zd7 hst;have HST:=hid hst;rw [zcy];clear hs v hst
 go_enter Tryz.func33,Tryz.ntmps33
 go_upto_region 1 with (fail);have hb:=hid (StB.new w s);obtain ⟨g0,hg0⟩:=zk3 (show Ext w (w.alloc (.cells #[.int .i64 (gt s 0),.int .i64 (gt s 1),.int .i64 (gt s 2),.int .i64 (gt s 3),.int .i64 (gt s 4)] 69)) by exact xx);replace hb:=hb.out;rw [hg0] at hb ⊢;have k0:=zj (zax w g0) hk0;have HB:=hid hb;clear hg0 hb;go_wp2_with fail
 go_loopw [5,14] (fun nv i W=>∃ (k:Nat) (m:Int),k≤ks.length∧nv = .int .i64 m∧i = .int .i64 k∧0≤m∧m < zes ks k∧zau ks s=zf7 m (ks.drop k) (s.drop k)∧Ext w W∧StB W w.heap.size s) (fun _ i _=>ks.length - (intOf i).toNat)
 case atStart=>exact ⟨0,0,by omega,rfl,rfl,by omega,by simp [zes,zq],by simp [zau],zax w _,HB.out⟩
 case round =>
  clear HB;obtain ⟨k,m,hk,rfl,rfl,hm0,hm1,hm,hE,hb⟩:=hrel;have HB:=hid hb;have HE:=hid hE;have k0':=zj hE hk0
  by_cases hlt:k < ks.length
  ·have hk5:(k:Int) < 5:=by omega
   have hki:(k:Int) < (ks.length:Int):=by omega
   rcases (HS.out.ext hE).spec with ⟨sa',cap',e,-,-,hcc⟩
   cases e
   rcases hcc with hcc | ⟨b,off,rfl,hcc⟩
   ·rw [hcc] at hlt;simp at hlt
   have c0:=hcc k hlt;rw [gt_get hlt] at c0;have d0:=hb.c k (by omega);have hkb:=V.out.at_ k hlt;have hsb:=zvs HST.out k hlt;have e1:=z7b (s:=s) hlt hl m;have e2:=zpw hlt;have e3:=z3l V.out.nn k;have e4:=z3l V.out.nn (k+1);have e5:=V.out.pr;obtain ⟨x,hx⟩:∃ x,x=gt ks k:=⟨_,rfl⟩
   obtain ⟨y,hy⟩:∃ y,y=gt s k:=⟨_,rfl⟩
   have hxb:1≤x∧x≤12:=by rw [hx];exact hkb
   rw [← hx,← hy] at hsb e1;rw [← hx] at c0 e2;rw [← hy] at d0;have hmul1:m * (x+1)≤(zes ks k - 1) * (x+1):=Int.mul_le_mul_of_nonneg_right (by omega) (by omega);have hmul0:0≤m * (x+1):=Int.mul_nonneg hm0 (by omega);rw [Int.sub_mul] at hmul1;have hlast:m * (x+1)+y < zes ks (k+1):=by rw [e2];omega
   have hm1000:m * (x+1)≤1000:=by omega
   have hw1:IntKind.i64.wrap (m * (x+1))=m * (x+1):=IntWalk.i64_in _ (by omega);have E1:=hid (hm.trans e1);clear hcc hx hy hm e1 e2 hE hb hmul1 hkb;go_wp2_with fail;go_roundw
   case rel=>exact ⟨k+1,m * (x+1)+y,by omega,by go_num,by go_num,by omega,hlast,E1.out,HE.out,HB.out⟩
   case measure=>simp [intOf];omega
  ·obtain rfl:k=ks.length:=by omega
   rw [List.drop_length] at hm;have hfin:zau ks s=m:=by rw [hm];cases hd:s.drop ks.length<;>rfl
   have HF:=hid hfin;clear hm hE hb hfin;go_wp2_with fail;go_ret;exact ⟨zay HF.out.symm,HE.out⟩
end Go.Proofs.YtnfdiohfojjnlaaGreat.Tu
namespace Go.Proofs.YtnfdiohfojjnlaaGreat.Tu
open Go.Lib (hid)
section
variable {α β:Type} {nx:α→List α} {ny:β→List β} {f:α→β} {P:α→Prop}
theorem zvu (hP:∀ i,P i→∀ x∈nx i,P x) (hf:∀ i,P i→∀ y,y∈ny (f i)↔∃ x∈nx i,y=f x):∀ {m:Nat} {i j:α},P i→Wlk nx m i j→Wlk ny m (f i) (f j)
 | 0,_,_,_,h=>by cases h;rfl
 | m+1,i,j,hi,⟨x,hx,h⟩=>⟨f x,(hf i hi _).2 ⟨x,hx,rfl⟩,zvu hP hf (hP i hi x hx) h⟩
end
section
variable {a b:Nat} {ks:List Int} (ha:a < ks.length) (hb:b < ks.length)
include ha hb
end
end Go.Proofs.YtnfdiohfojjnlaaGreat.Tu
namespace Go.Proofs.YtnfdiohfojjnlaaGreat.Tu
open Go.Lib (hid)
inductive zad (ks:List Int) (bf:Int→Int) (st:Int):Nat→Int→List Int→Prop
 | one {y:Int} {w:Nat}:bf y=1+st * 5+w→w < ks.length→(nxN ks st)[w]? = some y→zad ks bf st 1 y [(w:Int)]
 | more {k:Nat} {y z:Int} {w:Nat} {row:List Int}:zad ks bf st k z row→z≠st→0≤z→bf y=1+z * 5+w→w < ks.length→(nxN ks z)[w]? = some y→zad ks bf st (k+1) y (row ++ [(w:Int)])
def zf8 (bf:Int→Int) (y v:Int):Int→Int:=fun x=>if x=y then v else bf x
theorem zad.len {ks:List Int} {bf:Int→Int} {st:Int} {k:Nat} {y:Int} {row:List Int} (h:zad ks bf st k y row):row.length=k:=by
 induction h with
 | one=>rfl
 | more _ _ _ _ _ _ ih=>simp [ih]
theorem zad.pos {ks:List Int} {bf:Int→Int} {st:Int} {k:Nat} {y:Int} {row:List Int} (h:zad ks bf st k y row):1≤k:=by
 cases h<;>omega
theorem zad.win {ks:List Int} {bf:Int→Int} {st:Int} {k:Nat} {y:Int} {row:List Int} (h:zad ks bf st k y row):WinL ks row:=by
 induction h with
 | one _ h2 _=>intro x hx;simp at hx;subst hx;omega
 | more _ _ _ _ h2 _ ih =>
  intro x hx
  rcases List.mem_append.1 hx with hx | hx
  ·exact ih x hx
  ·simp at hx;subst hx;omega
theorem zad.keep {ks:List Int} {bf:Int→Int} {st:Int} (h0:0≤st) {k:Nat} {y:Int} {row:List Int} (h:zad ks bf st k y row) {u v:Int} (hu:bf u=0):zad ks (zf8 bf u v) st k y row:=by
 induction h with
 | @one y w h1 h2 h3 =>
  refine .one ?_ h2 h3;unfold zf8;rw [if_neg (fun e=>by rw [e,hu] at h1;omega)];exact h1
 | @more k y z w row h1 hz hz0 h2 h3 h4 ih =>
  refine .more ih hz hz0 ?_ h3 h4;unfold zf8;rw [if_neg (fun e=>by rw [e,hu] at h2;omega)];exact h2
theorem z0i {ks:List Int} {i:Int} {w:Nat} {y:Int} (h:(nxN ks i)[w]? = some y):zbs zbu ks (zt ks i)=false∧w < ks.length∧y=zau ks (visit (upP zbu (zt ks i)) w):=by
 unfold nxN nxS at h;cases hf:zbs zbu ks (zt ks i) with
 | true=>rw [hf] at h;simp at h
 | false =>
  rw [hf,if_neg (by simp)] at h;simp only [List.getElem?_map,List.map_map] at h
  by_cases hw:w < ks.length
  ·rw [List.getElem?_range hw] at h
   exact ⟨rfl,hw,by simpa using h.symm⟩
  ·rw [List.getElem?_eq_none (by simpa using hw)] at h;cases h
theorem zh1 {ks:List Int} (v:TVal ks) {i x:Int} (h:x∈nxN ks i):0≤x∧x < zq ks:=by
 unfold nxN at h;obtain ⟨y,hy,rfl⟩:=List.mem_map.1 h;exact zcl v.nn (ze0 v (zf0 v.nn) y hy)
theorem zad.play {ks:List Int} (v:TVal ks) {bf:Int→Int} {st:Int} {k:Nat} {y:Int} {row:List Int} (h:zad ks bf st k y row):∀ a,za1 ks a (zt ks st) row=(some (zt ks y),a+k):=by
 have app:∀ (l m:List Int) (a:Nat) (s t:List Int) (b:Nat),za1 ks a s l=(some t,b)→za1 ks a s (l ++ m)=za1 ks b t m:=by
  intro l
  induction l with
  | nil=>intro m a s t b e;cases e;rfl
  | cons w l ih =>
   intro m a s t b e;rw [List.cons_append,za1] at *
   split at e
   ·cases e
   ·rename_i hf
    rw [if_neg hf];exact ih m _ _ _ _ e
 induction h with
 | @one y w h1 h2 h3 =>
  intro a;obtain ⟨hf,hw,rfl⟩:=z0i h3;have hst:zaj ks (visit (upP zbu (zt ks st)) w)=true:=ze0 v (zf0 v.nn) _ (zk7.2 ⟨hf,w,hw,rfl⟩);rw [za1,hf,if_neg (by simp),Int.toNat_natCast,zfv v.nn hst];rfl
 | @more k y z w row h1 hz hz0 h2 h3 h4 ih =>
  intro a;obtain ⟨hf,hw,rfl⟩:=z0i h4;have hst:zaj ks (visit (upP zbu (zt ks z)) w)=true:=ze0 v (zf0 v.nn) _ (zk7.2 ⟨hf,w,hw,rfl⟩);rw [app _ _ _ _ _ _ (ih a),za1,hf,if_neg (by simp),Int.toNat_natCast,zfv v.nn hst];rfl
theorem zaca {ks:List Int} (v:TVal ks) {m:Nat} {i j:Int} (hi:0≤i) (hi2:i < zq ks) (h:Wlk (nxN ks) m i j):Wlk (nxS ks) m (zt ks i) (zt ks j) :=
 zvu (nx:=nxN ks) (ny:=nxS ks) (f:=zt ks) (P:=fun i=>0≤i∧i < zq ks) (fun i _ x hx=>zh1 v hx) (fun i _ y=>by
  unfold nxN
  constructor
  ·intro hy
   exact ⟨_,List.mem_map.2 ⟨y,hy,rfl⟩,(zfv v.nn (ze0 v (zf0 v.nn) y hy)).symm⟩
  ·rintro ⟨x,hx,rfl⟩
   obtain ⟨z,hz,rfl⟩:=List.mem_map.1 hx;rw [zfv v.nn (ze0 v (zf0 v.nn) z hz)];exact hz) ⟨hi,hi2⟩ h
theorem z3n {ks:List Int} (v:TVal ks) {m:Nat} {s t:List Int} (hs:zaj ks s=true) (h:Wlk (nxS ks) m s t):Wlk (nxN ks) m (zau ks s) (zau ks t) :=
 zvu (nx:=nxS ks) (ny:=nxN ks) (f:=zau ks) (P:=fun s=>zaj ks s=true) (fun i hi x hx=>ze0 v hi x hx) (fun s hs y=>by
  unfold nxN;rw [zfv v.nn hs,List.mem_map];exact ⟨fun ⟨x,hx,e⟩=>⟨x,hx,e.symm⟩,fun ⟨x,hx,e⟩=>⟨x,hx,e.symm⟩⟩) hs h
theorem z7c {ks:List Int} (v:TVal ks) {m:Nat} (h1:1≤m) {i:Int} (hi:0≤i) (hi2:i < zq ks) (hw:Wlk (nxN ks) m i i) (hm:∀ j k,0≤j→j < zq ks→1≤k→Wlk (nxN ks) k j j→m≤k):zi2 ks m :=
 ⟨h1,⟨zt ks i,zf0 v.nn,zaca v hi hi2 hw⟩,fun t k ht hk hw'=>by
  have hb:=zcl v.nn ht;exact hm _ k hb.1 hb.2 hk (z3n v ht hw')⟩
end Go.Proofs.YtnfdiohfojjnlaaGreat.Tu
namespace Go.Proofs.YtnfdiohfojjnlaaGreat.Tu
open Go.Lib (hid)
open Go.RowKit Go.Shelf
def nSt (ks:List Int):Nat:=(zq ks).toNat
theorem zgu {ks:List Int} (v:TVal ks):(nSt ks:Int)=zq ks:=by
 have:=zc9 v.nn;unfold nSt;omega
theorem zk8 {ks:List Int} (v:TVal ks):1≤nSt ks∧nSt ks≤1000:=by
 have:=zc9 v.nn;have:=v.pr;unfold nSt;omega
def TNx (W:World) (p:Nat) (ks:List Int):Prop:=∃ b off cap,W.cell? ⟨p,2,none⟩=some (.slice (some ⟨b,off,none⟩) (nSt ks) cap)∧nSt ks≤cap∧cap≤9223372036854775807 ∧
 ∀ i,i < nSt ks→∃ sa cp,W.cell? ⟨b,off+i,none⟩=some (.slice sa (nxN ks i).length cp)∧IsInts W .i64 (.slice sa (nxN ks i).length cp) (nxN ks i)
def TRw (W:World) (p:Nat) (ks:List Int) (rows:Int→Int):Prop:=∃ b off cap,W.cell? ⟨p,3,none⟩=some (.slice (some ⟨b,off,none⟩) (nSt ks) cap)∧nSt ks≤cap∧cap≤9223372036854775807 ∧
 ∀ i,i < nSt ks→W.cell? ⟨b,off+i,none⟩=some (.int .i64 (rows i))
def TSt (W:World) (p:Nat) (ks:List Int):Prop:=∃ b off cap,W.cell? ⟨p,1,none⟩=some (.slice (some ⟨b,off,none⟩) (nSt ks) cap)∧nSt ks≤cap∧cap≤9223372036854775807 ∧
 ∀ i,i < nSt ks→∀ j,j < 5→W.cell? ⟨b,off+i * 5+j,none⟩=some (.int .i64 (gt (zt ks i) j))
theorem TNx.ext {W W':World} {p:Nat} {ks:List Int} (h:TNx W p ks) (e:Ext W W'):TNx W' p ks:=by
 obtain ⟨b,off,cap,h1,h2,h3,h4⟩:=h;exact ⟨b,off,cap,zj e h1,h2,h3,fun i hi=>by
  obtain ⟨sa,cp,a,c⟩:=h4 i hi;exact ⟨sa,cp,zj e a,c.ext e⟩⟩
theorem TRw.ext {W W':World} {p:Nat} {ks:List Int} {rows:Int→Int} (h:TRw W p ks rows) (e:Ext W W'):TRw W' p ks rows:=by
 obtain ⟨b,off,cap,h1,h2,h3,h4⟩:=h;exact ⟨b,off,cap,zj e h1,h2,h3,fun i hi=>zj e (h4 i hi)⟩
theorem TSt.ext {W W':World} {p:Nat} {ks:List Int} (h:TSt W p ks) (e:Ext W W'):TSt W' p ks:=by
 obtain ⟨b,off,cap,h1,h2,h3,h4⟩:=h;exact ⟨b,off,cap,zj e h1,h2,h3,fun i hi j hj=>zj e (h4 i hi j hj)⟩
def bndV (o:Option Int):Value:=match o with
 | none=>.tuple #[.int .i64 0,.bool false]
 | some m=>.tuple #[.int .i64 m,.bool true]
theorem bndL_drop {rows:Int→Int} {l:List Int} {k:Nat} (hk:k < l.length) (n:Int):bndL rows n (l.drop k)=if rows (gt l k) < 0 then none else bndL rows (max n (rows (gt l k)+1)) (l.drop (k+1)):=by
 rw [List.drop_eq_getElem_cons hk,bndL,gt_get hk]
theorem zvv {ks:List Int} (i:Int):(nxN ks i).length≤ks.length:=by
 unfold nxN nxS
 split<;>simp
theorem bound_any (ks:List Int) (rows:Int→Int) (p i:Nat) (w:World) (v:TVal ks) (hi:i < nSt ks) (hrb:∀ x:Int,0≤x→x < zq ks→-1≤rows x∧rows x < 1000) (hn:TNx w p ks) (hr:TRw w p ks rows) :
  Calls Tryz.prog 121 #[.pointer (some ⟨p,0,none⟩),.int .i64 i] w fun e W=>e = .returned (bndV (bndL rows 0 (nxN ks i)))∧Ext w W:=by
 obtain ⟨b,off,cap,c2,h1,h2,hb⟩:=hn;obtain ⟨rb,ro,rc,c3,h3,h4,hrr⟩:=hr;obtain ⟨sa,cp,ci,hs⟩:=hb i hi;have hN:=zk8 v;have hNe:=zgu v;have hlen:=zvv (ks:=ks) (i:Int);have hmem:=fun x hx=>zh1 v (i:=(i:Int)) (x:=x) hx
 obtain ⟨l,hl⟩:∃ l,l=nxN ks i:=⟨_,rfl⟩
 rw [← hl] at ci hs hlen hmem ⊢;obtain ⟨_,_,e,h5,h6,hcc⟩:=hs.spec;cases e;have n5:=v.n5;have HS:=hid hs;have HM:=hid hmem;have HRR:=hid hrr;have HRB:=hid hrb;have hii:(i:Int) < (nSt ks:Int):=by omega
 clear hb hs hmem hrr hrb hl v hcc
 go_enter Tryz.func121,Tryz.ntmps121
 go_wp2_with fail
 go_loopw [6,17] (fun nv j W=>∃ (k:Nat) (m:Int),k≤l.length∧nv = .int .i64 m∧j = .int .i64 k∧0≤m∧m≤1000∧bndL rows 0 l=bndL rows m (l.drop k)∧W=w) (fun _ j _=>l.length - (intOf j).toNat)
 case atStart=>exact ⟨0,0,by omega,rfl,rfl,by omega,by omega,by simp,rfl⟩
 case round =>
  obtain ⟨k,m,hk,rfl,rfl,hm0,hm1,hm,rfl⟩:=hrel
  by_cases hlt:k < l.length
  ·rcases HS.out.spec with ⟨sa',cap',e,-,-,hcc⟩
   cases e
   rcases hcc with hcc | ⟨lb,lo,rfl,hcc⟩
   ·rw [hcc] at hlt;simp at hlt
   have d0:=hcc k hlt;have hxm:=HM.out l[k] (List.getElem_mem hlt);rw [gt_get hlt] at d0 hxm;have hst:=bndL_drop (rows:=rows) hlt m;have hki:(k:Int) < (l.length:Int):=by omega
   obtain ⟨X,hX⟩:∃ X:Nat,gt l k=(X:Int):=⟨(gt l k).toNat,by omega⟩
   rw [hX] at d0 hxm hst;have hXn:X < nSt ks:=by omega
   have hXi:(X:Int) < (nSt ks:Int):=by omega
   have e0:=HRR.out X hXn;have eb:=HRB.out X hxm.1 hxm.2;obtain ⟨r,hr⟩:∃ r,r=rows X:=⟨_,rfl⟩
   rw [← hr] at e0 eb hst
   by_cases hneg:r < 0
   ·rw [if_pos hneg] at hst
    have hd:decide (r < 0)=true:=decide_eq_true hneg;have HF:=hid (hm.trans hst);clear hcc hr hm hst hX;go_wp2_with fail;refine bodyPost_ret (v:=.tuple #[.int .i64 0,.bool false]) (by simp [results,Tryz.results121,go_sem]) rfl ⟨by rw [HF.out];rfl,Below.refl _ _⟩
   ·rw [if_neg hneg] at hst
    have hd:decide (r < 0)=false:=decide_eq_false hneg;have HF:=hid (hm.trans hst);clear hcc hr hm hst hX;have hmx:0≤max m (r+1)∧max m (r+1)≤1000:=by omega
    go_wp2_with fail;go_roundw
    case rel=>exact ⟨k+1,max m (r+1),by omega,by simp;split<;>omega,by go_num,hmx.1,hmx.2,HF.out,trivial⟩
    case measure=>simp [intOf];omega
  ·obtain rfl:k=l.length:=by omega
   rw [List.drop_length] at hm;have HF:=hid hm;clear hm;go_wp2_with fail;refine bodyPost_ret (v:=.tuple #[.int .i64 m,.bool true]) (by simp [results,Tryz.results121,go_sem]) rfl ⟨by rw [HF.out];rfl,Below.refl _ _⟩
end Go.Proofs.YtnfdiohfojjnlaaGreat.Tu
namespace Go.Proofs.YtnfdiohfojjnlaaGreat.Tu
open Go.Lib (hid)
open Go.RowKit Go.Shelf
def lst5 (a b c d e:Int):Value:=.agg #[.int .i64 a,.int .i64 b,.int .i64 c,.int .i64 d,.int .i64 e]
theorem equal_arr (n:Nat) (a b c d e a' b' c' d' e':Int) (w:World):(Op.equalIn (n+2) 69 (lst5 a b c d e) (lst5 a' b' c' d' e')).run Tryz.prog w = .ok (a == a' && (b == b' && (c == c' && (d == d' && e == e')))) w:=by
 have hi:∀ x y:Int,∀ w,(Op.equalIn (n+1) 3 (.int .i64 x) (.int .i64 y)).run Tryz.prog w = .ok (x == y) w:=fun x y w=>run_equalIn_int w n 3 .i64 .i64 x y (by kernel_rfl)
 rw [Op.equalIn];simp only [lst5,Sem.run_bind,Tryz.runUnderlying69,Result.andThen_ok];have hr:List.range' 0 5=[0,1,2,3,4]:=rfl
 by_cases e1:a=a'
 ·by_cases e2:b=b'
  ·by_cases e3:c=c'
   ·by_cases e4:d=d'
    ·by_cases e5:e=e'<;>simp [go_sem,hi,e1,e2,e3,e4,e5,hr]
    ·simp [go_sem,hi,e1,e2,e3,e4,hr]
   ·simp [go_sem,hi,e1,e2,e3,hr]
  ·simp [go_sem,hi,e1,e2,hr]
 ·simp [go_sem,hi,e1,hr]
def plc (a b c d e n:Int):Value:=.agg #[.int .i64 a,.int .i64 b,.int .i64 c,.int .i64 d,.int .i64 e,.int .i64 n]
theorem equal_plc (a b c d e m a' b' c' d' e' m':Int) (w:World):(Op.equal 112 (plc a b c d e m) (plc a' b' c' d' e' m')).run Tryz.prog w = .ok ((a == a' && (b == b' && (c == c' && (d == d' && e == e')))) && m == m') w:=by
 simp only [Op.equal,Op.maxDepth,plc];rw [run_equalIn_struct w 9999 112 _ _ (by kernel_rfl) (by kernel_rfl)]
 have hf : (Tryz.prog.fieldsOf 112).toList = [⟨"at", 69, 0, false, "", "quinella/turn", 0⟩, ⟨"number", 3, 5, false, "", "quinella/turn", 40⟩] := by kernel_rfl
 rw [hf];have hq:=fun w=>equal_arr 9997 a b c d e a' b' c' d' e' w
 simp only [lst5] at hq;cases hb:(a == a' && (b == b' && (c == c' && (d == d' && e == e'))))
 ·rw [hb] at hq
  simp [go_sem,hq]
 ·rw [hb] at hq
  by_cases e1:m=m'<;>simp [go_sem,hq,e1]
theorem check_arr (b:Bool) (n:Nat) (a1 a2 a3 a4 a5:Int) (w:World):(Instr.checkKey b (n+2) 69 (lst5 a1 a2 a3 a4 a5)).run Tryz.prog w = .ok () w:=by
 have h3:∀ x w,(Instr.checkKey b (n+1) 3 (.int .i64 x)).run Tryz.prog w = .ok () w:=fun x w=>by
  rw [Instr.checkKey];simp [go_sem]
 have hr:List.range' 0 5=[0,1,2,3,4]:=rfl;rw [Instr.checkKey];simp only [lst5,Sem.run_bind,Tryz.runUnderlying69,Result.andThen_ok];simp [go_sem,h3,hr]
theorem check_plc (b:Bool) (n:Nat) (a1 a2 a3 a4 a5 m:Int) (w:World):(Instr.checkKey b (n+3) 112 (plc a1 a2 a3 a4 a5 m)).run Tryz.prog w = .ok () w:=by
 have h3:∀ x w,(Instr.checkKey b (n+2) 3 (.int .i64 x)).run Tryz.prog w = .ok () w:=fun x w=>by
  rw [Instr.checkKey];simp [go_sem]
 have h4:=fun w=>check_arr b n a1 a2 a3 a4 a5 w
 simp only [lst5] at h4;rw [Instr.checkKey];simp only [plc,Sem.run_bind,Tryz.runUnderlying112,Result.andThen_ok];simp [go_sem,h3,h4]
def pk (ks:List Int) (n:Int):Value:=plc (gt (zt ks n) 0) (gt (zt ks n) 1) (gt (zt ks n) 2) (gt (zt ks n) 3) (gt (zt ks n) 4) n
def one (_:Unit):Value:=.int .i64 1
theorem equal_pk (ks:List Int) (a b:Int) (w:World):(Op.equal 112 (pk ks a) (pk ks b)).run Tryz.prog w = .ok (decide (a=b)) w:=by
 unfold pk;rw [equal_plc]
 by_cases e:a=b
 ·subst e;simp
 ·simp [e]
theorem find_pk (ks:List Int) (k:Int) (l:zae Int Unit) (w:World):(Instr.findKey 112 (pk ks k) (l.map (zar (pk ks) one))).run Tryz.prog w = .ok (zbd one k l 0) w:=by
 have h:∀ (l:zae Int Unit) (i:Nat),(Instr.findAsking 112 (pk ks k) (l.map (zar (pk ks) one)) i).run Tryz.prog w = .ok (zbd one k l i) w:=by
  intro l
  induction l with
  | nil=>intro i;rfl
  | cons e l ih =>
   intro i;simp only [List.map_cons,Instr.findAsking,zbd,zar,Sem.run_bind,equal_pk,Result.andThen_ok]
   by_cases hk:e.1=k
   ·subst hk;simp
   ·have:¬ k=e.1:=fun h=>hk h.symm
    simp only [hk,this,decide_false,Bool.false_eq_true,if_false];exact ih (i+1)
 cases l with
 | nil=>simp [Instr.findKey,go_sem,Instr.findNow,zbd]
 | cons e l =>
  have:=h (e :: l) 0;simp only [Instr.findKey,Sem.run_bind,Tryz.runUnderlying112,Result.andThen_ok,List.map_cons,Instr.findNow,zar,pk,plc,Instr.sameNow] at this ⊢;exact this
theorem place_keyed (ks:List Int):Keyed Tryz.prog 76 112 3 (pk ks) one where
 und:=by kernel_rfl
 chk:=fun b k w=>check_plc b 9997 _ _ _ _ _ _ w
 find:=find_pk ks
 stay:=fun k=>by
  have:∀ n:Nat,Instr.sameBits (n+2) (pk ks k) (pk ks k)=true:=fun n=>by simp [Instr.sameBits,pk,plc]
  exact this 9998
end Go.Proofs.YtnfdiohfojjnlaaGreat.Tu
namespace Go.Proofs.YtnfdiohfojjnlaaGreat.Tu
open Go.Lib (hid)
open Go.RowKit Go.Shelf
def TMp (W:World) (p:Nat) (ks:List Int) (F:Int→Option Unit):Prop:=∃ r,W.cell? ⟨p,4,none⟩=some (.map (some r))∧MapIs (pk ks) one W r F
theorem TMp.ext {W W':World} {p:Nat} {ks:List Int} {F:Int→Option Unit} (h:TMp W p ks F) (e:Ext W W'):TMp W' p ks F:=by
 obtain ⟨r,h1,h2⟩:=h;exact ⟨r,zj e h1,h2.ext e⟩
def z41 (o:Option Unit):Value:=.tuple #[.int .i64 (if o.isSome then 1 else 0),.bool o.isSome]
theorem z9f {W:World} {ks:List Int} {r:Nat} {F:Int→Option Unit} (h:MapIs (pk ks) one W r F) (n:Int) :
  (Instr.lookup 76 (.map (some r)) (pk ks n) true).run Tryz.prog W = .ok (z41 (F n)) W:=by
 cases hf:F n with
 | none=>exact h.look_none (place_keyed ks) n hf (z:=.int .i64 0) fun w=>by kernel_rfl
 | some u=>exact h.look_ok (place_keyed ks) n hf
theorem zt1 (ks s:List Int) (p:Nat) (F:Int→Option Unit) (w:World) (v:TVal ks) (hst:zaj ks s=true) (ht:THd w p ks) (hm:TMp w p ks F) :
  Calls Tryz.prog 27 #[.pointer (some ⟨p,0,none⟩),stV s] w fun e W=>e = .returned (.bool (F (zau ks s)).isSome)∧Ext w W:=by
 obtain ⟨r,k4,hmap⟩:=hm;have hpk:pk ks (zau ks s) = .agg #[.int .i64 (gt s 0),.int .i64 (gt s 1),.int .i64 (gt s 2),.int .i64 (gt s 3),.int .i64 (gt s 4),.int .i64 (zau ks s)]:=by
  unfold pk plc;rw [zfv v.nn hst]
 have hz:=World.block_lt_of_cell? _ _ k4;simp only at hz;have cn:=fun W ht=>z3m ks s p W v hst ht
 rw [zcy] at cn;obtain ⟨n,hn⟩:∃ n,n=zau ks s:=⟨_,rfl⟩
 obtain ⟨o,ho⟩:∃ o,o=F (zau ks s):=⟨_,rfl⟩
 have hlk:∀ W,Ext w W→(Instr.lookup 76 (.map (some r)) (pk ks (zau ks s)) true).run Tryz.prog W = .ok (z41 (F (zau ks s))) W:=fun W hE=>z9f (hmap.ext hE) _
 rw [← ho,hpk,← hn] at hlk;rw [← hn] at cn;rw [← ho];obtain ⟨ob,hob⟩:∃ ob,ob=o.isSome:=⟨_,rfl⟩
 obtain ⟨oz,hoz⟩:∃ oz:Int,oz=if o.isSome then 1 else 0:=⟨_,rfl⟩
 unfold z41 at hlk;rw [← hoz,← hob] at hlk;rw [← hob];clear hoz hob;have HT:=hid ht;have CN:=hid cn;have HLK:=hid hlk;rw [zcy];clear hmap hpk cn hlk ht hn ho hst v
 go_enter Tryz.func27,Tryz.ntmps27
 go_upto_region 1 with (fail);have hb:=hid (StB.new w s);obtain ⟨g0,hg0⟩:=zk3 (show Ext w (w.alloc (.cells #[.int .i64 (gt s 0),.int .i64 (gt s 1),.int .i64 (gt s 2),.int .i64 (gt s 3),.int .i64 (gt s 4)] 69)) by exact xx);replace hb:=hb.out;rw [hg0] at hb ⊢;have k4':=zj (zax w g0) k4;have HE0:=hid (show Ext w (grow w g0) from zax w g0);clear hg0;have c0q:=(hb).c 0 (by omega);have c1q:=(hb).c 1 (by omega);have c2q:=(hb).c 2 (by omega);have c3q:=(hb).c 3 (by omega);have c4q:=(hb).c 4 (by omega);have cfq:=(hb).free;have czq:=(hb).lt;clear hb;obtain ⟨Y,hY⟩:∃ Y,Y=grow w g0:=⟨_,rfl⟩
 rw [← hY] at c0q c1q c2q c3q c4q cfq czq k4' HE0 ⊢;have HT2:=hid (HT.out.ext HE0.out);have hpY:p < Y.heap.size:=by omega
 clear hY HT;refine zb9 (Y.heap.size) (Nat.le_refl _)
  [sqV (.pointer (some ⟨p,0,none⟩)),sqV (.pointer (some ⟨p,0,none⟩)),sqV (.pointer (some ⟨p,4,none⟩)),sqV (.map (some r)),sqV (.agg #[.int .i64 (gt s 0),.int .i64 (gt s 1),.int .i64 (gt s 2),.int .i64 (gt s 3),.int .i64 (gt s 4)]),sqV (.pointer (some ⟨p,0,none⟩)),sqV (.agg #[.int .i64 (gt s 0),.int .i64 (gt s 1),.int .i64 (gt s 2),.int .i64 (gt s 3),.int .i64 (gt s 4)]),sqV (.int .i64 n),sqV (.agg #[.int .i64 (gt s 0),.int .i64 (gt s 1),.int .i64 (gt s 2),.int .i64 (gt s 3),.int .i64 (gt s 4),.int .i64 n]),sqV (.tuple #[.int .i64 oz,.bool ob]),sqV (.tuple #[.int .i64 oz,.bool ob]),sqV (.int .i64 oz),sqV (.bool ob),sqV (.int .i64 oz),sqV (.bool ob)]
  [true,true,true,true,true,true,true,true,true,true,true,true,true,true,true] [false,false,false,false,false,false,false,false,false,false,false,false,false,false,false] [true,true,true,true,true,true,true,true,true,true,true,true,true,true,true] [true,true,true,true,true,true,true,true,true,true,true,true,true,true,true]
  (by kernel_rfl) (by kernel_rfl) (by decide +kernel) (by decide +kernel) (by decide +kernel) rfl ⟨rfl,rfl⟩ ⟨?s0,?s1,?s2,?s3,?s4,?s5,?s6,?s7,?s8,?s9,?s10,?s11,?s12,?s13,?s14,trivial⟩ [some 8,some 9,some 10,some 11,some 12,some 13,some 14,some 15,some 16,some 17,some 7,some 18,some 19,some 5,some 6] rfl rfl ?send
 case s0 =>
  intro val ρ W hE hz hd hA hx;have o0:ρ (.tmp 0) = .pointer (some ⟨p,0,none⟩):=hA.old 0 (by decide);clear hd;exact zh (W':=W) (by simp [execOp,o0,go_sem]) (Below.refl _ _) rfl
 case s1 =>
  intro val ρ W hE hz hd hA hx;have d0:ρ (.tmp 8) = .pointer (some ⟨p,0,none⟩):=(hA.dep 0 (by decide) 8 rfl).trans (hd 0 (by decide));clear hd;exact zh (W':=W) (by simp [execOp,d0,go_sem]) (Below.refl _ _) rfl
 case s2 =>
  intro val ρ W hE hz hd hA hx;have d1:ρ (.tmp 9) = .pointer (some ⟨p,0,none⟩):=(hA.dep 1 (by decide) 9 rfl).trans (hd 1 (by decide));clear hd;exact zh (W':=W) (by simp [execOp,d1,go_sem]) (Below.refl _ _) rfl
 case s3 =>
  intro val ρ W hE hz hd hA hx;have d2:ρ (.tmp 10) = .pointer (some ⟨p,4,none⟩):=(hA.dep 2 (by decide) 10 rfl).trans (hd 2 (by decide));have f_k4':=cell_below hE (by simp only;omega) k4';clear hd;exact zh (W':=W) (by simp [execOp,d2,f_k4',go_sem]) (Below.refl _ _) rfl
 case s4 =>
  intro val ρ W hE hz hd hA hx;have o0:ρ (.tmp 3) = .pointer (some ⟨w.heap.size,0,none⟩):=hA.old 3 (by decide);have f_c0q:=cell_below hE (by simp only;omega) c0q;have f_c1q:=cell_below hE (by simp only;omega) c1q;have f_c2q:=cell_below hE (by simp only;omega) c2q;have f_c3q:=cell_below hE (by simp only;omega) c3q;have f_c4q:=cell_below hE (by simp only;omega) c4q;clear hd;exact zh (W':=W) (by simp [execOp,o0,f_c0q,f_c1q,f_c2q,f_c3q,f_c4q,go_sem]) (Below.refl _ _) rfl
 case s5 =>
  intro val ρ W hE hz hd hA hx;have o0:ρ (.tmp 0) = .pointer (some ⟨p,0,none⟩):=hA.old 0 (by decide);clear hd;exact zh (W':=W) (by simp [execOp,o0,go_sem]) (Below.refl _ _) rfl
 case s6 =>
  intro val ρ W hE hz hd hA hx;have o0:ρ (.tmp 3) = .pointer (some ⟨w.heap.size,0,none⟩):=hA.old 3 (by decide);have f_c0q:=cell_below hE (by simp only;omega) c0q;have f_c1q:=cell_below hE (by simp only;omega) c1q;have f_c2q:=cell_below hE (by simp only;omega) c2q;have f_c3q:=cell_below hE (by simp only;omega) c3q;have f_c4q:=cell_below hE (by simp only;omega) c4q;clear hd;exact zh (W':=W) (by simp [execOp,o0,f_c0q,f_c1q,f_c2q,f_c3q,f_c4q,go_sem]) (Below.refl _ _) rfl
 case s7 =>
  intro val ρ W hE hz hd hA hx;have d5:ρ (.tmp 13) = .pointer (some ⟨p,0,none⟩):=(hA.dep 5 (by decide) 13 rfl).trans (hd 5 (by decide));have d6:ρ (.tmp 14) = .agg #[.int .i64 (gt s 0),.int .i64 (gt s 1),.int .i64 (gt s 2),.int .i64 (gt s 3),.int .i64 (gt s 4)]:=(hA.dep 6 (by decide) 14 rfl).trans (hd 6 (by decide));clear hd;refine zct 33 _ _ rfl #[.pointer (some ⟨p,0,none⟩),.agg #[.int .i64 (gt s 0),.int .i64 (gt s 1),.int .i64 (gt s 2),.int .i64 (gt s 3),.int .i64 (gt s 4)]] (hA.func _) (by simp [d5,d6]) (fun args W=>Tryz.call33 args W) ((CN.out W (HT2.out.ext hE)).mono ?_);rintro e w' ⟨rfl,hb⟩;exact ⟨_,rfl,hb,rfl⟩
 case s8 =>
  intro val ρ W hE hz hd hA hx;have d4:ρ (.tmp 12) = .agg #[.int .i64 (gt s 0),.int .i64 (gt s 1),.int .i64 (gt s 2),.int .i64 (gt s 3),.int .i64 (gt s 4)]:=(hA.dep 4 (by decide) 12 rfl).trans (hd 4 (by decide));have d7:ρ (.tmp 15) = .int .i64 n:=(hA.dep 7 (by decide) 15 rfl).trans (hd 7 (by decide));clear hd;exact zh (W':=W) (by simp [execOp,d4,d7,go_sem]) (Below.refl _ _) rfl
 case s10 =>
  intro val ρ W hE hz hd hA hx;have d9:ρ (.tmp 17) = .tuple #[.int .i64 oz,.bool ob]:=(hA.dep 9 (by decide) 17 rfl).trans (hd 9 (by decide));clear hd;exact zh (W':=W) (by simp [execOp,d9,go_sem]) (Below.refl _ _) rfl
 case s11 =>
  intro val ρ W hE hz hd hA hx;have d10:ρ (.tmp 7) = .tuple #[.int .i64 oz,.bool ob]:=(hA.dep 10 (by decide) 7 rfl).trans (hd 10 (by decide));clear hd;exact zh (W':=W) (by simp [execOp,d10,go_sem]) (Below.refl _ _) rfl
 case s12 =>
  intro val ρ W hE hz hd hA hx;have d10:ρ (.tmp 7) = .tuple #[.int .i64 oz,.bool ob]:=(hA.dep 10 (by decide) 7 rfl).trans (hd 10 (by decide));clear hd;exact zh (W':=W) (by simp [execOp,d10,go_sem]) (Below.refl _ _) rfl
 case s13 =>
  intro val ρ W hE hz hd hA hx;have d11:ρ (.tmp 18) = .int .i64 oz:=(hA.dep 11 (by decide) 18 rfl).trans (hd 11 (by decide));clear hd;exact zh (W':=W) (by simp [execOp,d11,go_sem]) (Below.refl _ _) rfl
 case s14 =>
  intro val ρ W hE hz hd hA hx;have d12:ρ (.tmp 19) = .bool ob:=(hA.dep 12 (by decide) 19 rfl).trans (hd 12 (by decide));clear hd;exact zh (W':=W) (by simp [execOp,d12,go_sem]) (Below.refl _ _) rfl
 case s9 =>
  intro val ρ W hE hz hd hA hx;have d3:ρ (.tmp 11) = .map (some r):=(hA.dep 3 (by decide) 11 rfl).trans (hd 3 (by decide));have d8:ρ (.tmp 16) = .agg #[.int .i64 (gt s 0),.int .i64 (gt s 1),.int .i64 (gt s 2),.int .i64 (gt s 3),.int .i64 (gt s 4),.int .i64 n]:=(hA.dep 8 (by decide) 16 rfl).trans (hd 8 (by decide));have hq:=HLK.out W (HE0.out.trans' hE);clear hd;exact zh (W':=W) (by simp [execOp,d3,d8,go_sem,hq]) (Below.refl _ _) rfl
 case send =>
  intro val WW hE hzz hv;obtain ⟨r0,r1,r2,r3,r4,r5,r6,r7,r8,r9,r10,r11,r12,r13,r14,-⟩:=hv;have q0:val 0 = .pointer (some ⟨p,0,none⟩):=r0;have q1:val 1 = .pointer (some ⟨p,0,none⟩):=r1;have q2:val 2 = .pointer (some ⟨p,4,none⟩):=r2;have q3:val 3 = .map (some r):=r3;have q4:val 4 = .agg #[.int .i64 (gt s 0),.int .i64 (gt s 1),.int .i64 (gt s 2),.int .i64 (gt s 3),.int .i64 (gt s 4)]:=r4;have q5:val 5 = .pointer (some ⟨p,0,none⟩):=r5;have q6:val 6 = .agg #[.int .i64 (gt s 0),.int .i64 (gt s 1),.int .i64 (gt s 2),.int .i64 (gt s 3),.int .i64 (gt s 4)]:=r6;have q7:val 7 = .int .i64 n:=r7;have q8:val 8 = .agg #[.int .i64 (gt s 0),.int .i64 (gt s 1),.int .i64 (gt s 2),.int .i64 (gt s 3),.int .i64 (gt s 4),.int .i64 n]:=r8;have q9:val 9 = .tuple #[.int .i64 oz,.bool ob]:=r9;have q10:val 10 = .tuple #[.int .i64 oz,.bool ob]:=r10;have q11:val 11 = .int .i64 oz:=r11;have q12:val 12 = .bool ob:=r12;have q13:val 13 = .int .i64 oz:=r13;have q14:val 14 = .bool ob:=r14;clear r0 r1 r2 r3 r4 r5 r6 r7 r8 r9 r10 r11 r12 r13 r14;obtain ⟨g99,rfl⟩:=zk3 hE;clear hE hzz;simp only [zbx,q0,q1,q2,q3,q4,q5,q6,q7,q8,q9,q10,q11,q12,q13,q14];go_frame;clear q0 q1 q2 q3 q4 q5 q6 q7 q8 q9 q10 q11 q12 q13 q14;go_wp2_with fail;go_ret;exact ⟨rfl,HE0.out.trans' (zax Y g99)⟩
end Go.Proofs.YtnfdiohfojjnlaaGreat.Tu
namespace Go.Proofs.YtnfdiohfojjnlaaGreat.Tu
open Go.Lib (hid)
open Go.RowKit Go.Shelf
attribute [local go_sem] Oper.semAt_some
theorem z42 (p:Nat) (s:List Int) (w:World) :
  Calls Tryz.prog 64 #[.pointer (some ⟨p,0,none⟩),stV s] w fun e w'=>e = .returned (.func (.func 119) #[] #[.pointer (some ⟨w.heap.size,0,none⟩),.pointer (some ⟨w.heap.size+1,0,none⟩)]) ∧
   Ext w w'∧w'.cell? ⟨w.heap.size,0,none⟩=some (.pointer (some ⟨p,0,none⟩))∧StB w' (w.heap.size+1) s∧w'.heap.size=w.heap.size+2:=by
 rw [zcy]
 go_enter Tryz.func64,Tryz.ntmps64
 go_wp2
 go_ret;refine ⟨rfl,by exact xx,by simp [go_sem],?_,by simp⟩;have:=StB.new (w.alloc (.cells #[.pointer (some ⟨p,0,none⟩)] 65)) s
 rwa [World.size_alloc] at this
theorem StB.kept {S:Nat→Prop} {W W':World} {b:Nat} {s:List Int} (h:StB W b s) (k:Kept S W W') (hs:S b):StB W' b s:=(k.same b (Array.getElem?_eq_some_iff.1 h).1 hs).trans h
theorem z2r (ks s:List Int) (n5:ks.length≤5) (R:Nat→Prop) (bx bs p:Nat) (w0:World) (_:∀ k,R k→k < w0.heap.size) (rbs:R bs)
  (hbx:w0.cell? ⟨bx,0,none⟩=some (.pointer (some ⟨p,0,none⟩))) (ht:THd w0 p ks) (hbs:StB w0 bs s) :
  Iter Tryz.prog 119 #[.pointer (some ⟨bx,0,none⟩),.pointer (some ⟨bs,0,none⟩)] (fun x:Nat=>#[.int .i64 (x:Int),stV (visit s x)]) R (fun xs=>xs=List.range ks.length) (fun _=>True) (fun pre x=>pre=List.range x∧x < ks.length) w0:=by
 intro n l J Jx W hW hJ hJx hY h0;have hbx1:=zj hW hbx;obtain ⟨sa,cap,ht1,-⟩:=ht.ext hW;have hbs1:=hbs.ext hW;clear hbx ht hbs;have hs0:=hW.size;refine callsIn_of_wp Tryz.func119 rfl trivial ?_ rfl;simp only [Tryz.ntmps119,List.size_toArray,List.length_cons,List.length_nil,Nat.reduceAdd,Nat.reduceSub,Array.replicate_succ,Array.replicate_zero,List.push_toArray,List.append_toArray,List.nil_append,List.cons_append];have HJ:=hid hJ;have HY:=hid hY;have HB:=hid hbs1;have HW:=hid hW;clear hJ hY hW hbs1
 gi_wp2
 gi_loopw [11] (fun i wr=>∃ (k:Nat) (O:Nat→Prop),k≤ks.length∧i = .int .i64 k∧J O (List.range k) wr∧(∀ g,O g→w0.heap.size≤g)∧Kept R W wr)
  (fun i wr=>ks.length - (intOf i).toNat)
 case atStart=>exact ⟨0,fun _=>False,Nat.zero_le _,rfl,h0,fun _ h=>h.elim,Kept.refl _ _⟩
 case round =>
  obtain ⟨k,O,hk,rfl,hj,hO,hkp⟩:=hrel;have hb:=HB.out.kept hkp rbs
  by_cases hlt:k < ks.length
  ·have hki:(k:Int) < (ks.length:Int):=by omega
   have HJ1:=hid hj;have HO:=hid hO;have HK:=hid hkp;have hf:=hb.free;have c0:=hb.c 0 (by omega);have c1:=hb.c 1 (by omega);have c2:=hb.c 2 (by omega);have c3:=hb.c 3 (by omega);have c4:=hb.c 4 (by omega);clear hj hO hkp hb;gi_wp2_with fail;refine ⟨trivial,fun h=>(by simp [Fence.wide] at h),(callsIn_wide.2 (z2o s k _ (by omega))).mono ?_⟩;rintro e W3 ⟨rfl,hE⟩;have HJ3:=hid ((HJ.out _).ext HJ1.out hE);have HK3:=hid (HK.out.trans (.of_below hE));clear hE c0 c1 c2 c3 c4 hf;obtain ⟨fn,tmps,assign,body,hy,hR⟩:=HY.out O _ k W3 HJ3.out ⟨rfl,hlt⟩;gi_wp2_with fail;refine ⟨fun h=>(by simp [Fence.wide] at h),hR.mono ?_⟩;clear hy hR;rintro e W4 (⟨rfl,hj4,hk4⟩ | ⟨rfl,hj4⟩)
   ·have HJ4:=hid hj4
    have HK5:=hid (HK3.out.trans (hk4.mono fun _ _ h=>.inl h));clear hj4 hk4
    gi_wp2
    go_roundw
    case rel=>exact ⟨k+1,O,by omega,by go_num,by rw [List.range_succ];exact HJ4.out,HO.out,HK5.out⟩
    case measure=>simp [intOf];omega
   ·gi_wp2
    refine bodyPost_ret (results_none rfl _ _ _) rfl ?_
    exact ⟨⟨_,rfl⟩,.inr ⟨O,_,trivial,hj4⟩⟩
  ·gi_wp2
   go_end0
   have e:k=ks.length:=by omega
   subst e;exact ⟨⟨_,rfl⟩,.inl ⟨O,_,rfl,hj⟩⟩
end Go.Proofs.YtnfdiohfojjnlaaGreat.Tu
namespace Go.Proofs.YtnfdiohfojjnlaaGreat.Tu
open Go.Lib (hid)
open Go.RowKit Go.Shelf
attribute [local go_sem] Oper.semAt_some
section
variable (P:Program) (w:World) (a:Addr) (m:Mode)
theorem zadt:(store a .nilFunc m).run P w=stored P w a .nilFunc m:=run_store P w a _ m rfl
theorem zadu (fn:Fn) (first captured:Array Value):(store a (.func fn first captured) m).run P w=stored P w a (.func fn first captured) m:=run_store P w a _ m rfl
end
attribute [local go_sem] zadt zadu
def Found (bO B:Nat) (rows:List (List Value)) (O:Nat→Prop) (W:World):Prop :=
 ∃ v,W.heap[bO]? = some (.cells #[v] 22 (0,0))∧Owns W B 3 1 v rows∧∀ g,v.ownBlock=some g→¬ O g
theorem Found.kept {bO B:Nat} {rows:List (List Value)} {O O':Nat→Prop} {A A':World} {S:Nat→Prop} (h:Found bO B rows O A) (k:Kept S A A') (h1:S bO) (h2:∀ g,B≤g→¬ O g→S g) (h3:∀ g,O' g→O g∨A.heap.size≤g):Found bO B rows O' A':=by
 obtain ⟨v,a,b,c⟩:=h;refine ⟨v,(k.same bO (Array.getElem?_eq_some_iff.1 a).1 h1).trans a,?_,fun g hg ho=>?_⟩
 ·refine ⟨⟨b.1.1,?_⟩,b.2⟩
  rcases b.1.2 with q | ⟨g,cap,cur,hv,hb,hg,hr⟩
  ·exact .inl q
  ·refine .inr ⟨g,cap,cur,hv,hb,(k.same g (Array.getElem?_eq_some_iff.1 hg).1 (h2 g hb (c g ?_))).trans hg,hr⟩
   subst hv;rfl
 ·rcases h3 g ho with q | q
  ·exact c g hg q
  ·have:=(b.notOwn g hg).2;omega
end Go.Proofs.YtnfdiohfojjnlaaGreat.Tu
namespace Go.Proofs.YtnfdiohfojjnlaaGreat.Tu
open Go.Lib (hid)
open Go.RowKit Go.Shelf
theorem _root_.Go.Proofs.YtnfdiohfojjnlaaGreat.RowsAt.kept {S:Nat→Prop} {w w':World} (k:Kept S w w') {sz b off:Nat} {rows:List (List Value)} (hb:S b) (hr:RowsAt w sz b off rows):RowsAt w' sz b off rows :=
 fun i hi j hj=>k.cell (hr i hi j hj) hb
theorem _root_.Go.Proofs.YtnfdiohfojjnlaaGreat.IsRows.kept {S:Nat→Prop} {w w':World} (k:Kept S w w') {sz:Nat} {v:Value} {rows:List (List Value)} (hb:∀ g,v.ownBlock=some g→S g) (hr:IsRows w sz v rows):IsRows w' sz v rows:=by
 obtain ⟨sa,cap,h1,h2,h3,h4⟩:=hr;refine ⟨sa,cap,h1,h2,h3,?_⟩
 rcases h4 with h4 | ⟨b,off,e,h4⟩
 ·exact .inl h4
 ·exact .inr ⟨b,off,e,h4.kept k (hb b (by rw [h1,e];rfl))⟩
theorem _root_.Go.Proofs.YtnfdiohfojjnlaaGreat.Kept.step {S T:Nat→Prop} {w a b:World} (h:Kept S w a) (k:Kept T a b) (hs:∀ j,j < w.heap.size→S j→T j):Kept S w b :=
 ⟨k.os.trans h.os,k.tape.trans h.tape,k.output.trans h.output,Nat.le_trans h.size k.size,fun j hj hsj=>(k.same j (Nat.lt_of_lt_of_le hj h.size) (hs j hj hsj)).trans (h.same j hj hsj)⟩
def TNxS (S:Nat→Prop) (W:World) (p:Nat) (ks:List Int):Prop:=∃ b off cap,W.cell? ⟨p,2,none⟩=some (.slice (some ⟨b,off,none⟩) (nSt ks) cap)∧nSt ks≤cap∧cap≤9223372036854775807∧S b∧S p ∧
 ∀ i,i < nSt ks→∃ sa cp,W.cell? ⟨b,off+i,none⟩=some (.slice sa (nxN ks i).length cp)∧IsInts W .i64 (.slice sa (nxN ks i).length cp) (nxN ks i)∧∀ g,(Value.slice sa (nxN ks i).length cp).ownBlock=some g→S g
theorem TNxS.at {S:Nat→Prop} {W:World} {p:Nat} {ks:List Int} (h:TNxS S W p ks):TNx W p ks:=by
 obtain ⟨b,off,cap,h1,h2,h3,_,_,h4⟩:=h;exact ⟨b,off,cap,h1,h2,h3,fun i hi=>by obtain ⟨sa,cp,a,c,_⟩:=h4 i hi;exact ⟨sa,cp,a,c⟩⟩
theorem TNxS.kept {S:Nat→Prop} {W W':World} {p:Nat} {ks:List Int} (h:TNxS S W p ks) (k:Kept S W W'):TNxS S W' p ks:=by
 obtain ⟨b,off,cap,h1,h2,h3,hb,hp,h4⟩:=h;refine ⟨b,off,cap,k.cell h1 hp,h2,h3,hb,hp,fun i hi=>?_⟩;obtain ⟨sa,cp,a,c,d⟩:=h4 i hi;exact ⟨sa,cp,k.cell a hb,IsRows.kept k d c,d⟩
def RowB (W:World) (rb:Nat) (ks:List Int) (rows:Int→Int):Prop:=∃ cur:Array Value,W.heap[rb]? = some (.cells cur 3 (0,0))∧∀ i:Nat,i < nSt ks→cur[i]? = some (.int .i64 (rows i))
theorem RowB.of_heap {W W':World} {rb:Nat} {ks:List Int} {rows:Int→Int} (h:RowB W rb ks rows) (e:W'.heap[rb]? = W.heap[rb]?):RowB W' rb ks rows:=by
 obtain ⟨cur,h1,h2⟩:=h;exact ⟨cur,e.trans h1,h2⟩
theorem RowB.lt {W:World} {rb:Nat} {ks:List Int} {rows:Int→Int} (h:RowB W rb ks rows):rb < W.heap.size:=by
 obtain ⟨cur,h1,h2⟩:=h;exact (Array.getElem?_eq_some_iff.1 h1).1
theorem RowB.rw {W:World} {rb p rc:Nat} {ks:List Int} {rows:Int→Int} (h:RowB W rb ks rows) (c3:W.cell? ⟨p,3,none⟩=some (.slice (some ⟨rb,0,none⟩) (nSt ks) rc)) (h1:nSt ks≤rc) (h2:rc≤9223372036854775807):TRw W p ks rows:=by
 obtain ⟨cur,h3,h4⟩:=h;exact ⟨rb,0,rc,c3,h1,h2,fun i hi=>by rw [cell_of_row _ _ _ _ _ _ h3,Nat.zero_add];exact h4 i hi⟩
theorem RowB.set {W:World} {rb:Nat} {ks:List Int} {rows:Int→Int} (h:RowB W rb ks rows) (i:Nat) (m:Int):RowB (W.setCell ⟨rb,i,none⟩ (.int .i64 m)) rb ks (fun x=>if x=(i:Int) then m else rows x):=by
 obtain ⟨cur,h1,h2⟩:=h;refine ⟨_,zp h1 i _,fun j hj=>?_⟩
 by_cases e:j=i
 ·subst e
  simp only [if_true];rw [ztj _ (Array.getElem?_eq_some_iff.1 (h2 j hj)).1]
 ·have:((j:Int)=(i:Int))=False:=eq_false (by omega)
  simp only [this,if_false];rw [Array.getElem?_setIfInBounds,if_neg (fun h=>e h.symm),h2 j hj]
def FofR (ks:List Int) (rows:Int→Int):Int→Option Unit:=fun i=>if 0≤i∧i < zq ks∧rows i < 0 then some () else none
theorem fofR_some {ks:List Int} {rows:Int→Int} {i:Int} {u:Unit} (h:FofR ks rows i=some u):0≤i∧i < zq ks∧rows i < 0:=by
 unfold FofR at h
 split at h
 ·assumption
 ·cases h
theorem fofR_of {ks:List Int} {rows:Int→Int} {i:Int} (h:0≤i∧i < zq ks∧rows i < 0):FofR ks rows i=some ():=by unfold FofR;rw [if_pos h]
def cntW (W:World) (rb:Nat) (ks:List Int):Nat :=
 match W.heap[rb]? with
 | some (.cells cur _ _)=>((List.range (nSt ks)).filter fun i=>match cur[i]? with | some (Value.int _ n)=>decide (n < 0) | _=>false).length
 | _=>0
theorem cntW_eq {W:World} {rb:Nat} {ks:List Int} {rows:Int→Int} (h:RowB W rb ks rows):cntW W rb ks=((List.range (nSt ks)).filter fun (i:Nat)=>decide (rows i < 0)).length:=by
 obtain ⟨cur,h1,h2⟩:=h;unfold cntW;rw [h1];simp only
 congr 1
 refine List.filter_congr fun i hi=>?_
 rw [h2 i (List.mem_range.1 hi)]
theorem cnt_lt {ks:List Int} {rows rows1:Int→Int} (hle:∀ i:Nat,rows1 i < 0→rows i < 0) {i:Nat} (hi:i < nSt ks) (h0:rows i < 0) (h1:¬ rows1 i < 0) :
  ((List.range (nSt ks)).filter fun (i:Nat)=>decide (rows1 i < 0)).length < ((List.range (nSt ks)).filter fun (i:Nat)=>decide (rows i < 0)).length:=by
 have e:((List.range (nSt ks)).filter fun (i:Nat)=>decide (rows1 i < 0))=((List.range (nSt ks)).filter fun (i:Nat)=>decide (rows i < 0)).filter fun (i:Nat)=>decide (rows1 i < 0):=by
  rw [List.filter_filter];refine List.filter_congr fun a _=>?_
  rw [Bool.eq_iff_iff];simp;exact hle a
 rw [e];exact List.length_filter_lt_length_iff_exists.2 ⟨i,List.mem_filter.2 ⟨by simpa using hi,by simpa using h0⟩,by simpa using h1⟩
section
variable {K V:Type} [DecidableEq K]
theorem getE_mem {es:zae K V} (ho:zcg es) {e:K × V × Nat} (he:e∈es):zc3 es e.1=some e.2.1:=by
 unfold zc3;cases h:es.find? fun x=>decide (x.1=e.1) with
 | none=>rw [List.find?_eq_none] at h;have:=h e he;simp at this
 | some x =>
  have h1:=List.find?_some h;have h2:=List.mem_of_find?_eq_some h;have:x=e:=zb6 _ _ ho x h2 e he (by simpa using h1);rw [this];rfl
theorem mem_getE {es:zae K V} {k:K} {v:V} (h:zc3 es k=some v):∃ e∈es,e.1=k:=by
 unfold zc3 at h;obtain ⟨x,hx,_⟩:=Option.map_eq_some_iff.1 h;exact ⟨x,List.mem_of_find?_eq_some hx,by simpa using List.find?_some hx⟩
variable {P:Program} {tm tk tv:TypeId} {ke:K→Value} {ve:V→Value} (hk:Keyed P tm tk tv ke ve)
include hk
theorem _root_.Go.Proofs.YtnfdiohfojjnlaaGreat.MapIs.dele {W:World} {r:Nat} {F:K→Option V} (h:MapIs ke ve W r F) (k:K) (ty:TypeId) :
  ∃ W',(Builtin.delete_ #[tm,tk] ty #[.map (some r),ke k]).run P W = .ok (.tuple #[]) W'∧W.grownBy W' (some r)∧MapIs ke ve W' r (fun k'=>if k'=k then none else F k'):=by
 obtain ⟨es,c,h1,h2,h3,h4⟩:=h;obtain ⟨W',a,b,_,d,e,f⟩:=MapIs.del hk h1 h2 h3 k ty;exact ⟨W',a,b,_,c,d,e,f,fun k'=>by rw [z8z,h4]⟩
end
def RoundR (ks:List Int) (rows0 rows:Int→Int) (l:List Int):Prop:=RowsOk ks rows∧(∀ i∈l,0≤i∧i < zq ks∧rows0 i < 0∧0≤rows i)∧∀ i,i ∉ l→rows i=rows0 i
theorem RoundR.start {ks:List Int} {rows:Int→Int} (h:RowsOk ks rows):RoundR ks rows rows []:=⟨h,fun i hi=>(by cases hi),fun _ _=>rfl⟩
theorem RoundR.more {ks:List Int} (v:TVal ks) {rows0 rows:Int→Int} {l:List Int} (h:RoundR ks rows0 rows l) {i m:Int} (hi:0≤i∧i < zq ks∧rows0 i < 0) (e:bndL rows 0 (nxN ks i)=some m) :
  RoundR ks rows0 (fun x=>if x=i then m else rows x) (l ++ [i]):=by
 obtain ⟨a,_⟩:=bnd_rk v h.1 e;refine ⟨h.1.set v e,fun x hx=>?_,fun x hx=>?_⟩
 ·by_cases hxi:x=i
  ·subst hxi;simp only [if_true];exact ⟨hi.1,hi.2.1,hi.2.2,a⟩
  ·simp only [if_neg hxi]
   exact h.2.1 x (by simpa [hxi] using hx)
 ·have hxi:x≠i:=fun e=>hx (by simp [e])
  simp only [if_neg hxi];exact h.2.2 x (fun hh=>hx (by simp [hh]))
theorem RoundR.fof {ks:List Int} {rows0 rows:Int→Int} {l:List Int} (h:RoundR ks rows0 rows l) (k:Int):(if k∈l then none else FofR ks rows0 k)=FofR ks rows k:=by
 by_cases hk:k∈l
 ·rw [if_pos hk]
  unfold FofR;rw [if_neg (fun hh=>by have:=h.2.1 k hk;omega)]
 ·rw [if_neg hk]
  unfold FofR;rw [h.2.2 k hk]
end Go.Proofs.YtnfdiohfojjnlaaGreat.Tu
