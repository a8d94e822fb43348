/-
  The walk of serve.
-/
import Derived.Test.YtnfdiohfojjnlaaGreatWc
import Derived.Test.YtnfdiohfojjnlaaGreatTa
set_option maxRecDepth 200000
set_option maxHeartbeats 0
namespace Go.Proofs.YtnfdiohfojjnlaaGreat
open Go.Lib (hid)
open Go.RowKit Go.Shelf
attribute [local go_sem] Oper.semAt_some
def cmN (cm:List Nat) (i:Nat):Nat:=cm.getD i 0
theorem zvo {cm u:Nat→Nat} {n k:Nat}:∀ t,∀ x∈(toW cm u n k t).ws,cm x≤t∧x < n
 | 0,x,h=>by cases h
 | t+1,x,h=>by
  have key:∀ k (s:SW),(∀ i∈s.ws,cm i≤t+1∧i < n)→∀ i∈(zaw u (t+1) k s).ws,cm i≤t+1∧i < n:=by
   intro k
   induction k with
   | zero=>exact fun s h=>h
   | succ k ih =>
    intro s hs i hi;rw [zaw] at hi;unfold stepW at hi
    split at hi
    ·exact ih s hs i hi
    ·exact ih s hs i (List.mem_of_mem_erase hi)
  have h:x∈(zaw u (t+1) k ⟨(toW cm u n k t).out,(toW cm u n k t).ws ++ zds cm u (t+1) n,(toW cm u n k t).shut⟩).ws.filter fun i=>u i != t+1:=h
  refine key k _ (fun i hi=>?_) x (List.mem_filter.1 h).1;have hi:i∈(toW cm u n k t).ws ++ zds cm u (t+1) n:=hi
  rcases List.mem_append.1 hi with hi | hi
  ·have:=zvo t i hi
   omega
  ·unfold zds at hi
   obtain ⟨h1,h2⟩:=List.mem_filter.1 hi;simp only [Bool.and_eq_true,beq_iff_eq,decide_eq_true_eq] at h2;have:=List.mem_range.1 h1;omega
theorem zaby {cm u:Nat→Nat} {n k t i:Nat} (hc:cm i=t+1):i ∉ (toW cm u n k t).ws ++ zds cm u (t+1) i:=fun h=>by
 rcases List.mem_append.1 h with h | h
 ·have:=(zvo t i h).1
  omega
 ·unfold zds at h
  have:=List.mem_range.1 (List.mem_filter.1 h).1;omega
theorem z86 {u:Nat→Nat} {t:Nat} {s:SW}:(stepW u t s).out.length=s.out.length:=by
 unfold stepW
 split
 ·rfl
 ·show (s.out.set _ _).length=_
  rw [List.length_set]
theorem zps {u:Nat→Nat} {t:Nat} {s:SW}:∀ k,(zaw u t k s).out.length=s.out.length
 | 0=>rfl
 | k+1=>by rw [zaw,z86,zps k]
theorem z3a {cm u:Nat→Nat} {n k:Nat}:∀ t,(toW cm u n k t).out.length=n
 | 0=>by simp [toW]
 | t+1=>by
  show (zaw u (t+1) k _).out.length=n;rw [zps];exact z3a t
theorem z87 {u:Nat→Nat} {t:Nat} {s:SW} {x:Nat} (h:x∈(stepW u t s).ws):x∈s.ws:=by
 unfold stepW at h
 split at h
 ·exact h
 ·exact List.mem_of_mem_erase h
theorem zkb {u:Nat→Nat} {t:Nat} {s:SW} {x:Nat}:∀ k,x∈(zaw u t k s).ws→x∈s.ws
 | 0,h=>h
 | k+1,h=>zkb k (z87 h)
theorem zw4 {u:Nat→Nat} {t:Nat} {s:SW} {j:Nat} (h:(zaw u t j s).ws=[]):∀ d,zaw u t (j+d) s=zaw u t j s
 | 0=>rfl
 | d+1=>by
  have e:zaw u t (j+(d+1)) s=stepW u t (zaw u t (j+d) s):=rfl;rw [e,zw4 h d];unfold stepW;rw [if_pos h]
theorem IsW.map {u:Nat→Nat} {W:World} {mb:Nat} {ws:List Nat} (h:IsW u W mb ws):∃ arr c,W.heap[mb]? = some (.map arr c)∧arr.size=ws.length:=by
 obtain ⟨es,c,h1,h2,h3,h4⟩:=h;exact ⟨_,c,h1,by rw [← h3];simp⟩
theorem z3b {W:World} {mb:Nat} {arr:Array MapEntry} {c:Nat} (h:W.heap[mb]? = some (.map arr c)):(Builtin.len_ #[147] 3 #[.map (some mb)]).run Tryz.prog W = .ok (.int .i64 (arr.size:Nat)) W:=by
 simp [Builtin.len_,getObj,Sem.run,go_sem,h]
theorem zw5 {es:zae Nat Nat} {seen:Array Nat} {t:Nat}:∀ {e:Nat × Nat × Nat},(es.map (·.2.2)).Nodup→e∈es→e.2.2 ∉ seen →
  (es.filter fun a=>decide (a.2.2∈seen.push e.2.2) && (a.2.1 == t)).length=(es.filter fun a=>decide (a.2.2∈seen) && (a.2.1 == t)).length+if e.2.1=t then 1 else 0:=by
 induction es with
 | nil=>intro e _ h;cases h
 | cons a es ih =>
  intro e hn he hs;rw [List.map_cons,List.nodup_cons] at hn;simp only [List.filter_cons]
  rcases List.mem_cons.1 he with rfl | he'
  ·have e1:(es.filter fun a=>decide (a.2.2∈seen.push e.2.2) && (a.2.1 == t))=es.filter fun a=>decide (a.2.2∈seen) && (a.2.1 == t):=by
    refine List.filter_congr fun b hb=>?_
    have:¬ b.2.2=e.2.2:=fun h=>hn.1 (by rw [← h];exact List.mem_map_of_mem hb)
    simp [this]
   rw [e1];have h1:decide (e.2.2∈seen)=false:=decide_eq_false hs;have h2:decide (e.2.2∈seen.push e.2.2)=true:=decide_eq_true (by simp);rw [h1,h2,Bool.true_and,Bool.false_and]
   by_cases h:e.2.1=t
   ·have hb:(e.2.1 == t)=true:=by rw [h];simp
    rw [hb,if_pos rfl,if_pos h,if_neg (by simp)];rfl
   ·have hb:(e.2.1 == t)=false:=beq_false_of_ne h
    rw [hb,if_neg (by simp),if_neg h];rfl
  ·have hne:¬ a.2.2=e.2.2:=fun h=>hn.1 (by rw [h];exact List.mem_map_of_mem he')
   have h1:decide (a.2.2∈seen.push e.2.2)=decide (a.2.2∈seen):=by simp [hne]
   rw [h1];have:=ih hn.2 he' hs
   split
   ·rw [List.length_cons,List.length_cons,this];omega
   ·exact this
theorem z6x {es:zae Nat Nat} {t:Nat} {seen:Array Nat} (hall:∀ e∈es.filter (za7 (· == t) seen),e.2.2∈seen) {e:Nat × Nat × Nat} (he:e∈es) (_:e.2.1=t):e.2.2∈seen:=by
 by_cases h:e.2.2∈seen
 ·exact h
 ·exact hall e (List.mem_filter.2 ⟨he,by simp [za7,h]⟩)
theorem zrx {es:zae Nat Nat} {ws:List Nat} {u:Nat→Nat} {t:Nat} {seen:Array Nat} (h3:es.map (·.1)=ws) (h5:∀ e∈es,e.2.1=u e.1) (hall:∀ e∈es.filter (za7 (· == t) seen),e.2.2∈seen) :
  (es.filter fun e=>decide (e.2.2∈seen) && (e.2.1 == t)).length=ws.countP fun i=>u i == t:=by
 rw [← h3,List.countP_map,List.countP_eq_length_filter]
 congr 1
 refine List.filter_congr fun e he=>?_
 simp only [Function.comp_apply];rw [h5 e he]
 by_cases hb:u e.1=t
 ·have:=z6x hall he ((h5 e he).trans hb)
  simp [this]
 ·have:(u e.1 == t)=false:=beq_false_of_ne hb
  rw [this,Bool.and_false]
theorem zw6 {W:World} {mb c:Nat} {es:zae Nat Nat} {ws:List Nat} {u:Nat→Nat} {t:Nat} {seen:Array Nat} (h1:IsMap (slK u) sl1 W mb (es.filter (za7 (· == t) seen)) c) (h2:zcd es c) (h3:es.map (·.1)=ws) (h4:ws.Nodup) (h5:∀ e∈es,e.2.1=u e.1)
  (hall:∀ e∈es.filter (za7 (· == t) seen),e.2.2∈seen):IsW u W mb (ws.filter fun i=>u i != t):=by
 rw [z6p _ _ hall] at h1;refine ⟨_,c,h1,⟨List.Nodup.sublist (List.Sublist.map _ List.filter_sublist) h2.1,fun e he=>h2.2 e (List.mem_filter.1 he).1⟩,?_,h4.filter _,fun e he=>h5 e (List.mem_filter.1 he).1⟩;rw [← h3,List.filter_map]
 congr 1
 refine List.filter_congr fun e he=>?_
 simp only [Function.comp_apply];rw [h5 e he];rfl
def zbz (W:World) (A:Nat) (out:List Nat):Prop:=W.heap[A]? = some (.cells (out.map fun (n:Nat)=>Value.int .i64 (n:Int)).toArray 2 (0,0))
section
variable {W W':World} {A:Nat} {out:List Nat}
theorem zbz.lt (h:zbz W A out):A < W.heap.size:=(Array.getElem?_eq_some_iff.1 h).1
theorem zbz.of_heap (h:zbz W A out) (e:W'.heap[A]? = W.heap[A]?):zbz W' A out:=e.trans h
theorem zbz.ext (h:zbz W A out) (e:Ext W W'):zbz W' A out:=h.of_heap (e.block A h.lt)
theorem zbz.kept {S:Nat→Prop} (h:zbz W A out) (k:Kept S W W') (hs:S A):zbz W' A out:=h.of_heap (k.same A h.lt hs)
theorem zbz.cell (h:zbz W A out) {i:Nat} (hi:i < out.length):W.cell? ⟨A,i,none⟩=some (.int .i64 (out.getD i 0:Nat)):=by
 rw [cell_of_row _ _ _ _ _ _ h];simp [List.getD_eq_getElem?_getD,hi]
theorem zbz.fr (h:zbz W A out) (o:Nat):W.frozen? ⟨A,o,none⟩=false:=by
 have h':W.heap[A]? = _:=h;simp [World.frozen?,h']
theorem zbz.set (h:zbz W A out) {i:Nat} (_:i < out.length) (v:Nat):zbz (W.setCell ⟨A,i,none⟩ (.int .i64 (v:Int))) A (out.set i v):=by
 have:=zp h i (.int .i64 (v:Int));unfold zbz;rw [this]
 congr 2
 apply Array.ext';simp [List.map_set]
end
theorem zin:El 41 2 1:=El.mk' (bytes:=8) (z:=.int .i64 0) (by kernel_rfl) (by kernel_rfl) rfl (by omega) (by omega)
theorem z4x (w:World) (N:Nat) (hN:N≤1000000):∃ w',(Instr.makeSlice 41 (.int .i64 (N:Int)) (.int .i64 (N:Int))).run Tryz.prog w = .ok (.slice (some ⟨w.heap.size,0,none⟩) N N) w'∧zbz w' w.heap.size (List.replicate N 0)∧Ext w w':=by
 obtain ⟨i,z,hi,hz,hsi,hby,hzs⟩:=zin.info;have hz0:z = .int .i64 0:=by
  have h1:(Tryz.prog.info? 2).map (fun i=>i.zero)=some (some (.int .i64 0)):=by kernel_rfl
  rw [hi] at h1;simp [hz] at h1;exact h1
 subst hz0;obtain ⟨w',hrun,hown,hg⟩:=run_makeSlice_full (P:=Tryz.prog) w w.heap.size 41 2 i (.int .i64 0) 1 zin.und hi hz hsi .i64 .i64 N (by omega) (by have:=Nat.mul_le_mul hby hN;omega) (by simp [maxLen];omega) (Nat.le_refl _);rw [Nat.mul_one] at hown;obtain ⟨cur,hc,hI⟩:=zwz hown;refine ⟨w',hrun,?_,(Below.refl _ w).grown hg (Nat.le_refl _) fun k hk=>by cases hk⟩;have e:cur=((List.replicate N 0).map fun (n:Nat)=>Value.int .i64 (n:Int)).toArray:=by
  apply Array.ext_getElem?;intro j
  by_cases hj:j < N
  ·rw [hI.at_ j hj]
   simp [hj]
  ·rw [Array.getElem?_eq_none (by rw [hI.size];omega),Array.getElem?_eq_none (by simp;omega)]
 unfold zbz;rw [hc,e]
def zsp (cm u:Nat→Nat) (n k M:Nat) (w:World) (e:Ending) (w':World):Prop:=∃ b,w.heap.size≤b∧e = .returned (.tuple #[.slice (some ⟨b,0,none⟩) n n,.int .i64 ((toW cm u n k M).shut:Nat)])∧Ext w w'∧zbz w' b (toW cm u n k M).out
theorem ztr (q o M k n pc cc:Nat) (u cf:Nat→Nat) (pa ca:Option Addr) (w:World) (c0:w.cell? ⟨q,o,none⟩=some (.int .i64 (M:Int))) (c1:w.cell? ⟨q,o+1,none⟩=some (.slice pa n pc))
  (hpc:∀ i,i < n→∃ b off,pa=some ⟨b,off,none⟩∧w.cell? ⟨b,off+i * 3+2,none⟩=some (.int .i64 (u i:Nat))) (hcc:∀ i,i < n→∃ b off,ca=some ⟨b,off,none⟩∧w.cell? ⟨b,off+i,none⟩=some (.int .i64 (cf i:Nat)))
  (hM:M≤1000) (hps:n≤1000) (hk:k≤1000) :
  Calls Tryz.prog 47 #[.pointer (some ⟨q,o,none⟩),.int .i64 (k:Int),.slice ca n cc] w (zsp cf u n k M w):=by
 have hq:=World.block_lt_of_cell? _ _ c0;simp only at hq;have HPC:=hid hpc;have HC:=hid hcc;clear hpc hcc;obtain ⟨W0,hmk,hout,hE0⟩:=z4x w n (by omega);have hmm:=@run_makeMap Tryz.prog;have HO:=hid hout;have HE0:=hid hE0;have hz0:=hout.lt;clear hout hE0
 go_enter Tryz.func47,Tryz.ntmps47
 go_wp2_with fail;obtain ⟨A,hA⟩:∃ A,A=w.heap.size:=⟨_,rfl⟩
 obtain ⟨mb,hmb⟩:∃ mb,mb=W0.heap.size:=⟨_,rfl⟩
 obtain ⟨W1,hW1⟩:∃ W1,W1=W0.alloc (.map #[] 0):=⟨_,rfl⟩
 have hE1:Ext W0 W1:=by rw [hW1];exact xx
 have hm0:IsW u W1 mb []:=IsW.nil (by rw [hW1,hmb];exact World.alloc_heap_new _ _);have ho1:zbz W1 A (toW cf u n k 0).out:=by rw [hA];exact HO.out.ext hE1
 have hz1:W1.heap.size=mb+1:=by rw [hW1,hmb];simp
 have hAm:A < mb:=by rw [hA,hmb];exact hz0
 have hqA:q < A:=by rw [hA];exact hq
 rw [← hW1];rw [← hA,← hmb];have HE1:=hid (HE0.out.trans' hE1:Ext w W1);have HM0:=hid hm0;have HO1:=hid ho1;have HA:=hid hA;have d0:=zj HE1.out c0;have d1:=zj HE1.out c1;clear hW1 hE1 hm0 ho1 hA hmb hmk hmm HO HE0 c0 c1
 go_loopw [9,11] (fun sv mv W=>∃ t:Nat,t≤M∧sv = .int .i64 ((toW cf u n k t).shut:Nat)∧mv = .int .i64 ((t+1:Nat):Int)∧Kept (fun j=>j≠A∧j≠mb) W1 W∧zbz W A (toW cf u n k t).out∧IsW u W mb (toW cf u n k t).ws∧(toW cf u n k t).shut≤t * 1000) (fun _ mv _=>M+1 - (intOf mv).toNat)
 case atStart=>exact ⟨0,by omega,rfl,rfl,Kept.refl _ _,HO1.out,HM0.out,by simp [toW]⟩
 case round =>
  obtain ⟨t,ht,rfl,rfl,hK,ho,hm,hshb⟩:=hrel;obtain ⟨Y,rfl⟩:∃ Y,Y=wr:=⟨_,rfl⟩
  have e0:=hK.cell d0 ⟨by simp only;omega,by simp only;omega⟩;have e1:=hK.cell d1 ⟨by simp only;omega,by simp only;omega⟩;have hqz:=World.block_lt_of_cell? _ _ e0;simp only at hqz;have HK:=hid hK;have HOt:=hid ho;have HMt:=hid hm;have hAz:=ho.lt;have hmz:=hm.lt;clear hK ho hm
  by_cases htM:t < M
  ·have hti:((t+1:Nat):Int)≤(M:Int):=by omega
   go_wp2_with fail;obtain ⟨ws,hws⟩:∃ ws,ws=(toW cf u n k t).ws:=⟨_,rfl⟩
   have HWS:=hid hws;rw [← hws] at HMt;clear hws
   go_loopw [31] (fun iv W=>∃ i:Nat,i≤n∧iv = .int .i64 i∧Kept (fun j=>j≠mb) Y W∧IsW u W mb (ws ++ zds cf u (t+1) i)) (fun iv _=>n - (intOf iv).toNat)
   case atStart=>exact ⟨0,by omega,rfl,Kept.refl _ _,by simpa [zds] using HMt.out⟩
   case round =>
    obtain ⟨i,hi,rfl,hK,hm⟩:=hrel;obtain ⟨Z,rfl⟩:∃ Z,Z=wr:=⟨_,rfl⟩
    have hKz:=hK.size;have HKi:=hid hK;have HMi:=hid hm
    by_cases hlt:i < n
    ·have hii:(i:Int) < (n:Int):=by omega
     obtain ⟨sb,soff,rfl,g0⟩:=HC.out i hlt;obtain ⟨pb,po,rfl,r0⟩:=HPC.out i hlt;have rz:=World.block_lt_of_cell? _ _ r0;simp only at rz;have hsz:=World.block_lt_of_cell? _ _ g0;simp only at hsz;have hAw:A=w.heap.size:=HA.out;replace g0:=hK.cell (HK.out.cell (zj HE1.out g0) ⟨by simp only;omega,by simp only;omega⟩) (by simp only;omega);replace r0:=hK.cell (HK.out.cell (zj HE1.out r0) ⟨by simp only;omega,by simp only;omega⟩) (by simp only;omega);have e0:=hK.cell e0 (by simp only;omega);have e1:=hK.cell e1 (by simp only;omega);clear hK hm;obtain ⟨c,hc⟩:∃ c,c=cf i:=⟨_,rfl⟩
     rw [← hc] at g0;have HCI:=hid hc;clear hc
     by_cases h1:c=t+1
     ·subst h1
      by_cases h2:t+1≤u i
      ·have h2i:(t:Int)+1≤(u i:Int):=by omega
       have hnot:i ∉ ws ++ zds cf u (t+1) i:=by rw [HWS.out];exact zaby HCI.out.symm
       obtain ⟨W2,hrun,hg2,hz2,hm2⟩:=HMi.out.add hnot;simp only [slK] at hrun;have hK2:Kept (fun j=>j≠mb) Z W2:=(Kept.refl _ Z).grown hg2 (fun k e _ hk=>by cases e;exact hk rfl);have HK2:=hid (HKi.out.trans hK2);have HM2:=hid hm2;clear hnot hg2 hm2 hK2;go_wp2_with fail;go_roundw
       case rel=>exact ⟨i+1,by omega,by go_num,HK2.out,by rw [zpq,if_pos ⟨HCI.out.symm,h2⟩,← List.append_assoc];exact HM2.out⟩
       case measure=>simp [intOf];omega
      ·have h2i:¬ (t:Int)+1≤(u i:Int):=by omega
       go_wp2_with fail;go_roundw
       case rel=>exact ⟨i+1,by omega,by go_num,HKi.out,by rw [zpq,if_neg (fun e=>h2 e.2),List.append_nil];exact HMi.out⟩
       case measure=>simp [intOf];omega
     ·have h1b:((c:Int) == (t:Int)+1)=false:=beq_false_of_ne fun e=>h1 (by omega)
      go_wp2_with fail;go_roundw
      case rel=>exact ⟨i+1,by omega,by go_num,HKi.out,by rw [zpq,if_neg (fun e=>h1 (HCI.out.trans e.1)),List.append_nil];exact HMi.out⟩
      case measure=>simp [intOf];omega
    ·have hii:¬ (i:Int) < (n:Int):=by omega
     have hin:i=n:=by omega
     have HIN:=hid hin;clear hin hK hm;rw [HIN.out] at HMi;clear HIN hi;obtain ⟨sh,hsh⟩:∃ sh,sh=(toW cf u n k t).shut:=⟨_,rfl⟩
     rw [← hsh] at hshb ⊢;have HSH:=hid hsh;clear hsh;obtain ⟨s1,hs1⟩:∃ s1:SW,s1=⟨(toW cf u n k t).out,ws ++ zds cf u (t+1) n,sh⟩:=⟨_,rfl⟩
     have HS1:=hid hs1;have hOz:zbz Z A s1.out:=by rw [hs1];exact HOt.out.kept HKi.out (by omega)
     have hMz:IsW u Z mb s1.ws:=by rw [hs1];exact HMi.out
     have hol:s1.out.length=n:=by rw [hs1];exact z3a t
     have hsub:∀ x∈s1.ws,x < n:=fun x hx=>by
      rw [hs1] at hx;have hx:x∈ws ++ zds cf u (t+1) n:=hx
      rcases List.mem_append.1 hx with hx | hx
      ·rw [HWS.out] at hx;exact (zvo t x hx).2
      ·unfold zds at hx;exact List.mem_range.1 (List.mem_filter.1 hx).1
     have HOZ:=hid hOz;have HMZ:=hid hMz;have HSUB:=hid hsub;have HOL:=hid hol;have hAZ:=hOz.lt;have hMZ:=hMz.lt;clear hs1 hOz hMz hsub hol HMi;go_wp2_with fail;clear hlt hii
     go_loopw [66] (fun iv W=>∃ j:Nat,j≤k∧iv = .int .i64 j∧Kept (fun b=>b≠A∧b≠mb) Z W∧zbz W A (zaw u (t+1) j s1).out∧IsW u W mb (zaw u (t+1) j s1).ws) (fun iv _=>k - (intOf iv).toNat)
     case atStart=>exact ⟨0,by omega,rfl,Kept.refl _ _,HOZ.out,HMZ.out⟩
     case round =>
      obtain ⟨j,hj,rfl,hK,ho,hm⟩:=hrel;obtain ⟨X,rfl⟩:∃ X,X=wr:=⟨_,rfl⟩
      have hKx:=hK.size;have HKx:=hid hK;have HOx:=hid ho;have HMx:=hid hm;have hAx:=ho.lt;have hMx:=hm.lt;have hmap:=hm.map;clear hK ho hm
      by_cases hlt:j < k
      ·have hii:(j:Int) < (k:Int):=by omega
       obtain ⟨arr,c,hmc,hms⟩:=hmap
       by_cases hw0:(zaw u (t+1) j s1).ws=[]
       ·have hlen:(Builtin.len_ #[147] 3 #[.map (some mb)]).run Tryz.prog X = .ok (.int .i64 0) X:=by
         rw [z3b hmc,hms,hw0];rfl
        have HFIN:Hid (zaw u (t+1) k s1=zaw u (t+1) j s1):=hid (by
         have:=zw4 hw0 (k - j);rw [show j+(k - j)=k by omega] at this;exact this)
        clear hmc hms hw0;obtain ⟨s2,hs2⟩:∃ s2:SW,s2=zaw u (t+1) k s1:=⟨_,rfl⟩
        have HS2:=hid hs2;have ho2:zbz X A s2.out:=by rw [hs2,HFIN.out];exact HOx.out
        have hm2:IsW u X mb s2.ws:=by rw [hs2,HFIN.out];exact HMx.out
        have hsh2:s2.shut=sh:=by rw [hs2,zim,HS1.out]
        obtain ⟨es,c,h1,h2,h3,h4,h5⟩:=hm2;have hrg:=zhx (zd5 u) h1;have hwl:s2.ws.length≤1000:=by
         have:=zfj s2.ws (List.range n) h4 fun x hx=>by
          rw [hs2] at hx;exact List.mem_range.2 (HSUB.out x (zkb k hx))
         rw [List.length_range] at this;omega
        have HWL:=hid hwl;clear hwl;have HO2:=hid ho2;have HSH2:=hid hsh2;have H1:=hid h1;have H2:=hid h2;have H3:=hid h3;have H4:=hid h4;have H5:=hid h5;clear hs2 ho2 hsh2 h1 h2 h3 h4 h5 HOx HMx;go_wp2_with fail;clear hrg;obtain ⟨it,hit⟩:∃ it,it=X.heap.size:=⟨_,rfl⟩
        obtain ⟨X1,hX1⟩:∃ X1,X1=X.alloc (.mapIter (some mb) c #[] c):=⟨_,rfl⟩
        have hEX:Ext X X1:=by rw [hX1];exact xx
        have hiX:X1.heap[it]? = some (.mapIter (some mb) c #[] c):=by rw [hX1,hit];exact World.alloc_heap_new _ _
        have hzX:X1.heap.size=it+1:=by rw [hX1,hit];simp
        rw [← hX1,← hit];have hmit:mb < it:=by rw [hit];exact hMx
        have hAit:A < it:=by rw [hit];exact hAx
        have HEX:=hid hEX;have HIX:=hid hiX;have HIT:=hid hit;clear hX1 hEX hiX hit
        go_loopw [9] (fun sv W=>∃ seen:Array Nat,sv = .int .i64 ((sh+(es.filter fun e=>decide (e.2.2∈seen) && (e.2.1 == t+1)).length:Nat):Int)∧Kept (fun b=>b≠mb∧b≠it) X1 W∧W.heap[it]? = some (.mapIter (some mb) c seen c)∧IsMap (slK u) sl1 W mb (es.filter (za7 (· == t+1) seen)) c) (fun _ W=>zck es it W)
        case atStart =>
         refine ⟨#[],?_,Kept.refl _ _,HIX.out,?_⟩
         ·have e:(es.filter fun e=>decide (e.2.2∈(#[]:Array Nat)) && (e.2.1 == t+1))=[]:=by
           rw [List.filter_eq_nil_iff];intro a _;simp
          rw [e];rfl
         ·have e:es.filter (za7 (· == t+1) #[])=es:=by
           rw [List.filter_eq_self];intro a _;simp [za7]
          rw [e];exact (HEX.out.block mb (by have:=HIT.out;omega)).trans H1.out
        case round =>
         obtain ⟨seen,hsv,hK,hi,hm⟩:=hrel;obtain ⟨L,hL⟩:∃ L,L=(es.filter fun e=>decide (e.2.2∈seen) && (e.2.1 == t+1)).length:=⟨_,rfl⟩
         rw [← hL] at hsv;subst hsv;have hLb:L≤1000:=by
          have h1:=List.length_filter_le (fun e:Nat × Nat × Nat=>decide (e.2.2∈seen) && (e.2.1 == t+1)) es;have h2:es.length=s2.ws.length:=by rw [← H3.out,List.length_map]
          have:=HWL.out;omega
         have HL:=hid hL;clear hL;obtain ⟨V,rfl⟩:∃ V,V=wr:=⟨_,rfl⟩
         have hzV:=hK.size;have HKV:=hid hK;have HMV:=hid hm;have hzi:=(Array.getElem?_eq_some_iff.1 hi).1
         rcases zjg (P:=Tryz.prog) hm hi (fun e he=>H2.out.2 e (List.mem_filter.1 he).1) with ⟨hall,hrun⟩ | ⟨e,he,hs,W2,hheap,hos,htape,hout,hrun⟩
         ·have HALL:=hid hall
          clear hK hi hm hall;go_wp2_with fail;go_roundw
          case rel =>
           have e:toW cf u n k (t+1)=ztn u (t+1) s2:=by
            rw [HS2.out,HS1.out,HSH.out,HWS.out];rfl
           refine ⟨t+1,by omega,?_,by go_num,?_,?_,?_,?_⟩
           ·rw [HL.out,zrx H3.out H5.out HALL.out,e,← HSH2.out];rfl
           ·have hT:Kept (fun b=>(b≠A∧b≠mb)∧b < it) W1 V :=
             (((HK.out.mono fun b _ h=>h.1).trans (HKi.out.mono fun b _ h=>h.1.2)).trans (HKx.out.mono fun b _ h=>h.1)).trans (((Kept.of_below HEX.out).mono fun _ _ _=>trivial).trans (HKV.out.mono fun b _ h=>⟨h.1.2,by omega⟩))
            refine hT.mono fun b hb h=>⟨h,?_⟩
            have:=HIT.out;have:=HK.out.size;omega
           ·rw [e]
            exact (HO2.out.ext HEX.out).kept HKV.out ⟨by omega,by omega⟩
           ·rw [e]
            exact zw6 HMV.out H2.out H3.out H4.out H5.out HALL.out
           ·rw [e]
            show s2.shut+s2.ws.countP _≤_;rw [HSH2.out];have:=List.countP_le_length (p:=fun i=>u i == t+1) (l:=s2.ws);have:=HWL.out;omega
          case measure=>simp [intOf];omega
         ·have heS:=(List.mem_filter.1 he).1
          have hit2:W2.heap[it]? = some (.mapIter (some mb) c (seen.push e.2.2) c):=by rw [hheap];exact World.putObj_heap_same hzi
          have hk2:Kept (fun b=>b≠it) V W2:=(Kept.refl _ V).grown (row:=some it) ⟨hos,htape,hout,by rw [hheap];simp,fun k hk hne=>by rw [hheap];exact World.putObj_heap_other (fun e=>hne (by rw [e]))⟩ (fun k e _ hk=>by cases e;exact hk rfl);have hm2:IsMap (slK u) sl1 W2 mb (es.filter (za7 (· == t+1) seen)) c:=(hk2.same _ (Array.getElem?_eq_some_iff.1 hm).1 (by omega)).trans hm;have hnb:((es.filter (za7 (· == t+1) seen)).map (·.2.2)).Nodup:=List.Nodup.sublist (List.Sublist.map _ List.filter_sublist) H2.out.1;have hen:=zhy (P:=Tryz.prog) hm2 hit2 he hnb;have hzW2:W2.heap.size=V.heap.size:=by rw [hheap];simp
          have hun:=zjh heS hs;have hun2:∀ W',W'.heap[it]? = W2.heap[it]?→zck es it W' < zck es it V:=fun W' hW'=>by
           unfold zck;rw [hW',hit2,hi];exact hun
          have HUN:=hid hun2;have hpush:=zw5 (t:=t+1) H2.out.1 heS hs;have hue:=H5.out e heS;rw [hue] at hpush;obtain ⟨x,hx⟩:∃ x,x=e.1:=⟨_,rfl⟩
          rw [← hx] at hrun hen hpush hue;have HPUSH:=hid hpush;have HUE:=hid hue;have HHE:=hid heS;have HX:=hid hx;have HIT2:=hid hit2;have HM2:=hid hm2;have HK2:Hid (Kept (fun b=>b≠mb∧b≠it) X1 W2):=hid (hK.trans (hk2.mono fun b _ h=>h.2));clear hK hi hm he hs hheap hos htape hout heS hit2 hk2 hm2 hnb hun hun2 hpush hue hx HMV HKV;simp only [slK,sl1] at hrun hen
          by_cases hb:u x=t+1
          ·have hbi:(u x:Int)=(t:Int)+1:=by omega
           have HB:=hid hb;clear hb;go_wp2_with fail;obtain ⟨W3,hW3⟩:∃ W3,W3=W2.alloc (.cells #[.int .i64 ((t:Int)+1),.int .i64 (x:Int)] 149):=⟨_,rfl⟩
           have hE3:Ext W2 W3:=by rw [hW3];exact xx
           rw [← hW3];have hm3:IsMap (slK u) sl1 W3 mb (es.filter (za7 (· == t+1) seen)) c:=(hE3.block mb (by omega)).trans HM2.out;obtain ⟨W4,hdel,hg4,hz4,hm4,-,-⟩:=MapIs.del (zd5 u) hm3 (List.Nodup.sublist (List.Sublist.map _ List.filter_sublist) (by rw [H3.out];exact H4.out)) ⟨List.Nodup.sublist (List.Sublist.map _ List.filter_sublist) H2.out.1,fun e he=>H2.out.2 e (List.mem_filter.1 he).1⟩ x 0;simp only [slK,hbi] at hdel;have hk4:Kept (fun b=>b≠mb) W2 W4:=((Kept.of_below hE3).mono fun _ _ _=>trivial).trans ((Kept.refl _ W3).grown hg4 (fun k e _ hk=>by cases e;exact hk rfl));rw [HX.out,zzq (by unfold zcg;rw [H3.out];exact H4.out) H2.out (· == t+1) seen HHE.out (by rw [HUE.out,HB.out];simp)] at hm4;have HM4:=hid hm4;have HK4:=hid hk4;clear hW3 hE3 hm3 hm4 hk4 hg4;rw [hdel];go_wp2_with fail;go_roundw
           case rel =>
            refine ⟨_,?_,HK2.out.trans (HK4.out.mono fun b _ h=>h.1),(HK4.out.same it (by omega) (by omega)).trans HIT2.out,HM4.out⟩;rw [HPUSH.out,← HL.out,if_pos HB.out];exact congrArg (Value.int .i64) (by omega)
           case measure=>exact HUN.out _ (HK4.out.same it (by omega) (by omega))
          ·have hbi:¬ (u x:Int)=(t:Int)+1:=by omega
           have HB:=hid hb;clear hb;go_wp2_with fail;obtain ⟨W3,hW3⟩:∃ W3,W3=W2.alloc (.cells #[.int .i64 (u x:Int),.int .i64 (x:Int)] 149):=⟨_,rfl⟩
           have hE3:Ext W2 W3:=by rw [hW3];exact xx
           rw [← hW3];have hm3:IsMap (slK u) sl1 W3 mb (es.filter (za7 (· == t+1) seen)) c:=(hE3.block mb (by omega)).trans HM2.out;rw [zw0 H2.out (· == t+1) seen HHE.out (by rw [HUE.out];exact beq_false_of_ne HB.out)] at hm3;have HE3:=hid hE3;have HM3:=hid hm3;clear hW3 hE3 hm3;go_roundw
           case rel =>
            refine ⟨_,?_,HK2.out.trans ((Kept.of_below HE3.out).mono fun _ _ _=>trivial),(HE3.out.block it (by omega)).trans HIT2.out,HM3.out⟩;rw [HPUSH.out,← HL.out,if_neg HB.out];rfl
           case measure=>exact HUN.out _ (HE3.out.block it (by omega))
       ·have hlen:=z3b hmc
        have hms0:((arr.size:Int) == 0)=false:=beq_false_of_ne fun h=>hw0 (List.eq_nil_of_length_eq_zero (by omega))
        obtain ⟨s2,hs2⟩:∃ s2,s2=zaw u (t+1) j s1:=⟨_,rfl⟩
        rw [← hs2] at HOx HMx hw0 hms;have hnd:s2.ws.Nodup:=by obtain ⟨_,_,_,_,_,h,_⟩:=HMx.out;exact h
        have hsb2:∀ x∈s2.ws,x < n:=fun x hx=>HSUB.out x (zkb j (by rw [← hs2];exact hx))
        have hwl:s2.ws.length≤1000:=by
         have:=zfj s2.ws (List.range n) hnd fun x hx=>List.mem_range.2 (hsb2 x hx)
         rw [List.length_range] at this;omega
        have hol2:s2.out.length=n:=by rw [hs2,zps];exact HOL.out
        have HS2:=hid hs2;have HW0:=hid hw0;have HWL:=hid hwl;have HSB2:=hid hsb2;have HOL2:=hid hol2;clear hs2 hw0 hwl hsb2 hol2 hnd hms;go_wp2_with fail;refine (z6w mb X).mono ?_
        rintro e X2 ⟨bt,rfl,hE2,hct⟩;have HE2:=hid hE2;have HCT:=hid hct;clear hlen hms0 hmc hE2 hct;go_wp2_with fail;refine (zzx u mb bt s2.ws X2 (HMx.out.ext HE2.out) HWL.out HCT.out).mono ?_
        rintro e X3 ⟨v,xs,rfl,hE3,hrows,hxs⟩;have HE3:=hid hE3;have hne:xs≠[]:=fun h=>HW0.out (List.eq_nil_iff_forall_not_mem.2 fun x hx=>by
         have:=(hxs x).2 hx;rw [h] at this;cases this)
        have hmin:zeq u xs=zeq u s2.ws:=by
         obtain ⟨m1,m2⟩:=zji u xs hne;exact z28 ((hxs _).1 m1) fun x hx=>m2 x ((hxs x).2 hx)
        have hmem:zeq u s2.ws∈s2.ws:=(zji u s2.ws HW0.out).1;have hL:=z4w u xs v X3 hne hrows;rw [hmin] at hL;obtain ⟨p0,hp0⟩:∃ p0,p0=zeq u s2.ws:=⟨_,rfl⟩
        rw [← hp0] at hL hmem;have hpn:=HSB2.out p0 hmem;have hpi:(p0:Int) < (n:Int):=by omega
        have HP0:=hid hp0;clear hE3 hrows hxs hne hmin hmem hp0;go_wp2_with fail;refine hL.mono ?_
        rintro e X4 ⟨rfl,hE4⟩;have hE04:=(HE2.out.trans' HE3.out).trans' hE4;have HE4:=hid hE04;have hO4:=HOx.out.ext hE04;have hM4:=HMx.out.ext hE04;have o0:=hO4.cell (i:=p0) (by rw [HOL2.out];exact hpn);have of:=hO4.fr;have oz:=hO4.lt;have HO4:=hid hO4;have HM4:=hid hM4;clear hE4 hE04 hO4 hM4 hL;unfold slK;go_wp2_with fail;obtain ⟨X5,hX5⟩:∃ X5,X5=X4.setCell ⟨A,p0,none⟩ (.int .i64 ((t:Int)+1)):=⟨_,rfl⟩
        have hk5:Kept (fun b=>b≠A) X4 X5:=by rw [hX5];exact (Kept.refl _ X4).setCell (fun _ h=>h rfl) _
        have ho5:zbz X5 A (s2.out.set p0 (t+1)):=by rw [hX5];exact HO4.out.set (by rw [HOL2.out];exact hpn) (t+1)
        rw [← hX5];have hm5:IsW u X5 mb s2.ws:=HM4.out.kept hk5 (by omega);obtain ⟨X6,hX6⟩:∃ X6,X6=X5.alloc (.cells #[.int .i64 (u p0:Int),.int .i64 (p0:Int)] 149):=⟨_,rfl⟩
        have hE6:Ext X5 X6:=by rw [hX6];exact xx
        have hk6:Kept (fun b=>b≠A) X4 X6:=hk5.trans ((Kept.of_below hE6).mono fun _ _ _=>trivial);have ho6:=ho5.ext hE6;rw [← hX6];have hm6:=hm5.ext hE6;obtain ⟨X7,hdel,hg7,hz7,hm7⟩:=hm6.del p0 0;unfold slK at hdel;have hk7:Kept (fun b=>b≠mb) X6 X7:=(Kept.refl _ X6).grown hg7 (fun k e _ hk=>by cases e;exact hk rfl);have ho7:=ho6.kept hk7 (by omega);have hk37:Kept (fun b=>b≠A∧b≠mb) X X7:=((Kept.of_below HE4.out).mono fun _ _ _=>trivial).trans ((hk6.mono fun b _ h=>h.1).trans (hk7.mono fun b _ h=>h.2));have HO7:=hid ho7;have HM7:=hid hm7;have HK7:=hid hk37;clear hX5 hk5 ho5 hm5 hX6 hE6 hk6 ho6 hm6 hg7 hm7 hk7 ho7 hk37 o0 of;rw [hdel];go_wp2_with fail;go_roundw
        case rel =>
         have e:zaw u (t+1) (j+1) s1=⟨s2.out.set p0 (t+1),s2.ws.erase p0,s2.shut⟩:=by
          show stepW u (t+1) (zaw u (t+1) j s1)=_;rw [← HS2.out,HP0.out];unfold stepW;rw [if_neg HW0.out]
         exact ⟨j+1,by omega,by go_num,HKx.out.trans HK7.out,by rw [e];exact HO7.out,by rw [e];exact HM7.out⟩
        case measure=>simp [intOf];omega
      ·have hii:¬ (j:Int) < (k:Int):=by omega
       have HFIN:Hid (zaw u (t+1) k s1=zaw u (t+1) j s1):=hid (by rw [show j=k by omega]);clear hmap;obtain ⟨s2,hs2⟩:∃ s2:SW,s2=zaw u (t+1) k s1:=⟨_,rfl⟩
       have HS2:=hid hs2;have ho2:zbz X A s2.out:=by rw [hs2,HFIN.out];exact HOx.out
       have hm2:IsW u X mb s2.ws:=by rw [hs2,HFIN.out];exact HMx.out
       have hsh2:s2.shut=sh:=by rw [hs2,zim,HS1.out]
       obtain ⟨es,c,h1,h2,h3,h4,h5⟩:=hm2;have hrg:=zhx (zd5 u) h1;have hwl:s2.ws.length≤1000:=by
        have:=zfj s2.ws (List.range n) h4 fun x hx=>by
         rw [hs2] at hx;exact List.mem_range.2 (HSUB.out x (zkb k hx))
        rw [List.length_range] at this;omega
       have HWL:=hid hwl;clear hwl;have HO2:=hid ho2;have HSH2:=hid hsh2;have H1:=hid h1;have H2:=hid h2;have H3:=hid h3;have H4:=hid h4;have H5:=hid h5;clear hs2 ho2 hsh2 h1 h2 h3 h4 h5 HOx HMx;go_wp2_with fail;clear hrg;obtain ⟨it,hit⟩:∃ it,it=X.heap.size:=⟨_,rfl⟩
       obtain ⟨X1,hX1⟩:∃ X1,X1=X.alloc (.mapIter (some mb) c #[] c):=⟨_,rfl⟩
       have hEX:Ext X X1:=by rw [hX1];exact xx
       have hiX:X1.heap[it]? = some (.mapIter (some mb) c #[] c):=by rw [hX1,hit];exact World.alloc_heap_new _ _
       have hzX:X1.heap.size=it+1:=by rw [hX1,hit];simp
       rw [← hX1,← hit];have hmit:mb < it:=by rw [hit];exact hMx
       have hAit:A < it:=by rw [hit];exact hAx
       have HEX:=hid hEX;have HIX:=hid hiX;have HIT:=hid hit;clear hX1 hEX hiX hit
       go_loopw [9] (fun sv W=>∃ seen:Array Nat,sv = .int .i64 ((sh+(es.filter fun e=>decide (e.2.2∈seen) && (e.2.1 == t+1)).length:Nat):Int)∧Kept (fun b=>b≠mb∧b≠it) X1 W∧W.heap[it]? = some (.mapIter (some mb) c seen c)∧IsMap (slK u) sl1 W mb (es.filter (za7 (· == t+1) seen)) c) (fun _ W=>zck es it W)
       case atStart =>
        refine ⟨#[],?_,Kept.refl _ _,HIX.out,?_⟩
        ·have e:(es.filter fun e=>decide (e.2.2∈(#[]:Array Nat)) && (e.2.1 == t+1))=[]:=by
          rw [List.filter_eq_nil_iff];intro a _;simp
         rw [e];rfl
        ·have e:es.filter (za7 (· == t+1) #[])=es:=by
          rw [List.filter_eq_self];intro a _;simp [za7]
         rw [e];exact (HEX.out.block mb (by have:=HIT.out;omega)).trans H1.out
       case round =>
        obtain ⟨seen,hsv,hK,hi,hm⟩:=hrel;obtain ⟨L,hL⟩:∃ L,L=(es.filter fun e=>decide (e.2.2∈seen) && (e.2.1 == t+1)).length:=⟨_,rfl⟩
        rw [← hL] at hsv;subst hsv;have hLb:L≤1000:=by
         have h1:=List.length_filter_le (fun e:Nat × Nat × Nat=>decide (e.2.2∈seen) && (e.2.1 == t+1)) es;have h2:es.length=s2.ws.length:=by rw [← H3.out,List.length_map]
         have:=HWL.out;omega
        have HL:=hid hL;clear hL;obtain ⟨V,rfl⟩:∃ V,V=wr:=⟨_,rfl⟩
        have hzV:=hK.size;have HKV:=hid hK;have HMV:=hid hm;have hzi:=(Array.getElem?_eq_some_iff.1 hi).1
        rcases zjg (P:=Tryz.prog) hm hi (fun e he=>H2.out.2 e (List.mem_filter.1 he).1) with ⟨hall,hrun⟩ | ⟨e,he,hs,W2,hheap,hos,htape,hout,hrun⟩
        ·have HALL:=hid hall
         clear hK hi hm hall;go_wp2_with fail;go_roundw
         case rel =>
          have e:toW cf u n k (t+1)=ztn u (t+1) s2:=by
           rw [HS2.out,HS1.out,HSH.out,HWS.out];rfl
          refine ⟨t+1,by omega,?_,by go_num,?_,?_,?_,?_⟩
          ·rw [HL.out,zrx H3.out H5.out HALL.out,e,← HSH2.out];rfl
          ·have hT:Kept (fun b=>(b≠A∧b≠mb)∧b < it) W1 V :=
            (((HK.out.mono fun b _ h=>h.1).trans (HKi.out.mono fun b _ h=>h.1.2)).trans (HKx.out.mono fun b _ h=>h.1)).trans (((Kept.of_below HEX.out).mono fun _ _ _=>trivial).trans (HKV.out.mono fun b _ h=>⟨h.1.2,by omega⟩))
           refine hT.mono fun b hb h=>⟨h,?_⟩
           have:=HIT.out;have:=HK.out.size;omega
          ·rw [e]
           exact (HO2.out.ext HEX.out).kept HKV.out ⟨by omega,by omega⟩
          ·rw [e]
           exact zw6 HMV.out H2.out H3.out H4.out H5.out HALL.out
          ·rw [e]
           show s2.shut+s2.ws.countP _≤_;rw [HSH2.out];have:=List.countP_le_length (p:=fun i=>u i == t+1) (l:=s2.ws);have:=HWL.out;omega
         case measure=>simp [intOf];omega
        ·have heS:=(List.mem_filter.1 he).1
         have hit2:W2.heap[it]? = some (.mapIter (some mb) c (seen.push e.2.2) c):=by rw [hheap];exact World.putObj_heap_same hzi
         have hk2:Kept (fun b=>b≠it) V W2:=(Kept.refl _ V).grown (row:=some it) ⟨hos,htape,hout,by rw [hheap];simp,fun k hk hne=>by rw [hheap];exact World.putObj_heap_other (fun e=>hne (by rw [e]))⟩ (fun k e _ hk=>by cases e;exact hk rfl);have hm2:IsMap (slK u) sl1 W2 mb (es.filter (za7 (· == t+1) seen)) c:=(hk2.same _ (Array.getElem?_eq_some_iff.1 hm).1 (by omega)).trans hm;have hnb:((es.filter (za7 (· == t+1) seen)).map (·.2.2)).Nodup:=List.Nodup.sublist (List.Sublist.map _ List.filter_sublist) H2.out.1;have hen:=zhy (P:=Tryz.prog) hm2 hit2 he hnb;have hzW2:W2.heap.size=V.heap.size:=by rw [hheap];simp
         have hun:=zjh heS hs;have hun2:∀ W',W'.heap[it]? = W2.heap[it]?→zck es it W' < zck es it V:=fun W' hW'=>by
          unfold zck;rw [hW',hit2,hi];exact hun
         have HUN:=hid hun2;have hpush:=zw5 (t:=t+1) H2.out.1 heS hs;have hue:=H5.out e heS;rw [hue] at hpush;obtain ⟨x,hx⟩:∃ x,x=e.1:=⟨_,rfl⟩
         rw [← hx] at hrun hen hpush hue;have HPUSH:=hid hpush;have HUE:=hid hue;have HHE:=hid heS;have HX:=hid hx;have HIT2:=hid hit2;have HM2:=hid hm2;have HK2:Hid (Kept (fun b=>b≠mb∧b≠it) X1 W2):=hid (hK.trans (hk2.mono fun b _ h=>h.2));clear hK hi hm he hs hheap hos htape hout heS hit2 hk2 hm2 hnb hun hun2 hpush hue hx HMV HKV;simp only [slK,sl1] at hrun hen
         by_cases hb:u x=t+1
         ·have hbi:(u x:Int)=(t:Int)+1:=by omega
          have HB:=hid hb;clear hb;go_wp2_with fail;obtain ⟨W3,hW3⟩:∃ W3,W3=W2.alloc (.cells #[.int .i64 ((t:Int)+1),.int .i64 (x:Int)] 149):=⟨_,rfl⟩
          have hE3:Ext W2 W3:=by rw [hW3];exact xx
          rw [← hW3];have hm3:IsMap (slK u) sl1 W3 mb (es.filter (za7 (· == t+1) seen)) c:=(hE3.block mb (by omega)).trans HM2.out;obtain ⟨W4,hdel,hg4,hz4,hm4,-,-⟩:=MapIs.del (zd5 u) hm3 (List.Nodup.sublist (List.Sublist.map _ List.filter_sublist) (by rw [H3.out];exact H4.out)) ⟨List.Nodup.sublist (List.Sublist.map _ List.filter_sublist) H2.out.1,fun e he=>H2.out.2 e (List.mem_filter.1 he).1⟩ x 0;simp only [slK,hbi] at hdel;have hk4:Kept (fun b=>b≠mb) W2 W4:=((Kept.of_below hE3).mono fun _ _ _=>trivial).trans ((Kept.refl _ W3).grown hg4 (fun k e _ hk=>by cases e;exact hk rfl));rw [HX.out,zzq (by unfold zcg;rw [H3.out];exact H4.out) H2.out (· == t+1) seen HHE.out (by rw [HUE.out,HB.out];simp)] at hm4;have HM4:=hid hm4;have HK4:=hid hk4;clear hW3 hE3 hm3 hm4 hk4 hg4;rw [hdel];go_wp2_with fail;go_roundw
          case rel =>
           refine ⟨_,?_,HK2.out.trans (HK4.out.mono fun b _ h=>h.1),(HK4.out.same it (by omega) (by omega)).trans HIT2.out,HM4.out⟩;rw [HPUSH.out,← HL.out,if_pos HB.out];exact congrArg (Value.int .i64) (by omega)
          case measure=>exact HUN.out _ (HK4.out.same it (by omega) (by omega))
         ·have hbi:¬ (u x:Int)=(t:Int)+1:=by omega
          have HB:=hid hb;clear hb;go_wp2_with fail;obtain ⟨W3,hW3⟩:∃ W3,W3=W2.alloc (.cells #[.int .i64 (u x:Int),.int .i64 (x:Int)] 149):=⟨_,rfl⟩
          have hE3:Ext W2 W3:=by rw [hW3];exact xx
          rw [← hW3];have hm3:IsMap (slK u) sl1 W3 mb (es.filter (za7 (· == t+1) seen)) c:=(hE3.block mb (by omega)).trans HM2.out;rw [zw0 H2.out (· == t+1) seen HHE.out (by rw [HUE.out];exact beq_false_of_ne HB.out)] at hm3;have HE3:=hid hE3;have HM3:=hid hm3;clear hW3 hE3 hm3;go_roundw
          case rel =>
           refine ⟨_,?_,HK2.out.trans ((Kept.of_below HE3.out).mono fun _ _ _=>trivial),(HE3.out.block it (by omega)).trans HIT2.out,HM3.out⟩;rw [HPUSH.out,← HL.out,if_neg HB.out];rfl
          case measure=>exact HUN.out _ (HE3.out.block it (by omega))
  ·have hti:¬ ((t+1:Nat):Int)≤(M:Int):=by omega
   have htm:t=M:=by omega
   have HT:=hid htm;clear htm;go_wp2_with fail;refine bodyPost_ret (v:=.tuple #[.slice (some ⟨A,0,none⟩) n n,.int .i64 ((toW cf u n k t).shut:Nat)]) (by simp [results,Tryz.results47,go_sem]) rfl ?_
   rw [HT.out] at HOt ⊢;refine ⟨A,by rw [HA.out];exact Nat.le_refl _,rfl,HE1.out.trans (Kept.below (HK.out.mono fun j _ h=>?_) (by have:=HE1.out.size;omega)),HOt.out⟩;have:j < w.heap.size:=h;have:=HA.out;omega
theorem z6y (q o M k:Nat) (pv cv:Value) (ps:List Psn) (cm:List Nat) (w:World) (c0:w.cell? ⟨q,o,none⟩=some (.int .i64 (M:Int))) (c1:w.cell? ⟨q,o+1,none⟩=some pv) (hp:zf6 w pv ps) (hc:IsInts w .i64 cv (zbq cm)) (hn:cm.length=ps.length)
  (hM:M≤1000) (hps:ps.length≤1000) (hk:k≤1000) :
  Calls Tryz.prog 47 #[.pointer (some ⟨q,o,none⟩),.int .i64 (k:Int),cv] w (zsp (cmN cm) (unP ps) ps.length k M w):=by
 obtain ⟨pa,pc,rfl,p1,p2,hpc⟩:=hp.spec;obtain ⟨ca,cc,rfl,q1,q2,-⟩:=hc.spec;rw [zd6] at hc ⊢;rw [hn] at hc ⊢;refine ztr q o M k ps.length pc cc (unP ps) (cmN cm) pa ca w c0 c1 (fun i hi=>?_) (fun i hi=>?_) hM hps hk
 ·rcases hpc with e | ⟨b,off,e,h⟩
  ·rw [e] at hi;cases hi
  ·exact ⟨b,off,e,by rw [zadm hi];exact (h i hi).2.2⟩
 ·obtain ⟨sb,soff,e,hcell⟩:=zzy hc (i:=i) (by rw [hn];exact hi)
  exact ⟨sb,soff,e,hcell i (by rw [hn];exact hi) w (Below.refl _ _)⟩
end Go.Proofs.YtnfdiohfojjnlaaGreat
namespace Go.Proofs.YtnfdiohfojjnlaaGreat
open Go.Lib (hid)
open Go.RowKit
attribute [local go_sem] Oper.semAt_some
def wiR (lo hi x:Int):Bool:=decide (lo≤x) && decide (x≤hi)
theorem zzz (n lo hi:Int) (a b:Addr) (w:World) (h1:w.cell? a=some (.int .i64 lo)) (h2:w.cell? b=some (.int .i64 hi)) :
  Calls Tryz.prog 71 #[.int .i64 n,.pointer (some a),.pointer (some b)] w fun e w'=>e = .returned (.bool (decide (n < lo) || decide (hi < n)))∧Ext w w':=by
 go_enter Tryz.func71,Tryz.ntmps71
 go_wp2
 all_goals
  go_ret;exact ⟨zd2 (by simp [*]),Below.refl _ _⟩
theorem zabz (lo hi:Int) (l:List Int):(!l.any fun n=>decide (n < lo) || decide (hi < n))=l.all (wiR lo hi):=by
 induction l with
 | nil=>rfl
 | cons a l ih =>
  simp only [List.any_cons,List.all_cons,Bool.not_or,← ih,wiR]
  congr 1
  by_cases h1:a < lo<;>by_cases h2:hi < a
  ·rw [decide_eq_true h1,decide_eq_false (show ¬ lo≤a by omega)];simp
  ·rw [decide_eq_true h1,decide_eq_false (show ¬ lo≤a by omega)];simp
  ·rw [decide_eq_false h1,decide_eq_true h2,decide_eq_true (show lo≤a by omega),decide_eq_false (show ¬ a≤hi by omega)];rfl
  ·rw [decide_eq_false h1,decide_eq_false h2,decide_eq_true (show lo≤a by omega),decide_eq_true (show a≤hi by omega)];rfl
theorem zho (lo hi:Int) (v:Value) (l:List Int) (w:World) (hv:IsInts w .i64 v l) :
  Calls Tryz.prog 36 #[.int .i64 lo,.int .i64 hi,v] w fun e w'=>e = .returned (.bool (l.all (wiR lo hi)))∧Ext w w':=by
 obtain ⟨sa,cap,rfl,h1,h2,h3⟩:=hv.spec;have H3:=hid h3;clear h3 hv
 go_enter Tryz.func36,Tryz.ntmps36
 go_wp2_with fail;have hE:Ext w ((w.alloc (.cells #[.int .i64 lo] 2)).alloc (.cells #[.int .i64 hi] 2)):=((Below.refl _ _).alloc (Nat.le_refl _) _).alloc (by simp) _;have e1:((w.alloc (.cells #[.int .i64 lo] 2)).alloc (.cells #[.int .i64 hi] 2)).cell? ⟨w.heap.size,0,none⟩=some (.int .i64 lo):=by simp [go_sem]
 have e2:((w.alloc (.cells #[.int .i64 lo] 2)).alloc (.cells #[.int .i64 hi] 2)).cell? ⟨w.heap.size+1,0,none⟩=some (.int .i64 hi):=by simp [go_sem]
 refine (zto l sa cap 71 #[.pointer (some ⟨w.heap.size,0,none⟩),.pointer (some ⟨w.heap.size+1,0,none⟩)] (fun n=>decide (n < lo) || decide (hi < n)) _ (by omega) (H3.out.imp id fun ⟨b,off,e,hc⟩=>⟨b,off,e,fun i hi=>zj hE (hc i hi)⟩)
  (fun args W=>Tryz.call71 args W) (fun x _ W hW=>zzz x lo hi _ _ W (zj hW e1) (zj hW e2))).mono ?_
 rintro e W' ⟨rfl,hb⟩;clear e1 e2
 go_wp2
 all_goals
  go_ret;refine ⟨zd2 (a:=!l.any fun n=>decide (n < lo) || decide (hi < n)) ?_,hE.trans' hb⟩;exact zabz lo hi l
theorem zpt {w:World} {b:Nat} {x:Int} (c0:w.cell? ⟨b,0,none⟩=some (.int .i64 x)):IsInts w .i64 (.slice (some ⟨b,0,none⟩) 1 1) [x]:=by
 refine IsInts.mk (l:=[x]) (off:=0) (by simp) (by omega) fun i hi=>?_
 match i,hi with
 | 0,_=>simpa using c0
theorem z2k {w:World} {b:Nat} {x y z:Int} (c0:w.cell? ⟨b,0,none⟩=some (.int .i64 x)) (c1:w.cell? ⟨b,1,none⟩=some (.int .i64 y)) (c2:w.cell? ⟨b,2,none⟩=some (.int .i64 z)) :
  IsInts w .i64 (.slice (some ⟨b,0,none⟩) 3 3) [x,y,z]:=by
 refine IsInts.mk (l:=[x,y,z]) (off:=0) (by simp) (by omega) fun i hi=>?_
 match i,hi with
 | 0,_=>simpa using c0
 | 1,_=>simpa using c1
 | 2,_=>simpa using c2
structure zjk (M:Nat) (ps:List Psn):Prop where
 m:1≤M∧M≤60
 n:ps.length≤30
 ok:∀ p∈ps,p.lo≤p.hi∧1≤p.lo∧p.lo≤M∧1≤p.hi∧p.hi≤M∧1≤p.u∧p.u≤M
theorem zado (M:Nat) (p:Psn) (b:Nat) (w:World) (hp:p.lo≤p.hi∧1≤p.lo∧p.lo≤M∧1≤p.hi∧p.hi≤M∧1≤p.u∧p.u≤M) (c0:w.cell? ⟨b,0,none⟩=some (.int .i64 (M:Int))) :
  Calls Tryz.prog 115 #[.agg #[.int .i64 (p.lo:Int),.int .i64 (p.hi:Int),.int .i64 (p.u:Int)],.pointer (some ⟨b,0,none⟩)] w fun e w'=>e = .returned (.bool false)∧Ext w w':=by
 obtain ⟨h1,h2,h3,h4,h5,h6,h7⟩:=hp;have hlt:¬ (p.hi:Int) < (p.lo:Int):=by omega
 have hbl:=World.block_lt_of_cell? _ _ c0;simp only at hbl
 go_enter Tryz.func115,Tryz.ntmps115
 go_wp2_with fail;refine (zho 1 M _ [(p.lo:Int),(p.hi:Int),(p.u:Int)] _ (z2k (by simp [go_sem]) (by simp [go_sem]) (by simp [go_sem]))).mono ?_
 rintro e W' ⟨rfl,hb⟩;have hall:([(p.lo:Int),(p.hi:Int),(p.u:Int)].all (wiR 1 M))=true:=by
  simp [wiR];omega
 rw [hall];go_wp2_with fail;go_ret;exact ⟨rfl,xx⟩
theorem zvp (M:Nat) (ps:List Psn) (pv:Value) (w:World) (h:zjk M ps) (hp:zf6 w pv ps) :
  Calls Tryz.prog 58 #[.agg #[.int .i64 (M:Int),pv]] w fun e w'=>e = .returned (.int .i64 0)∧Ext w w':=by
 obtain ⟨pa,pc,rfl,p1,p2,hpc⟩:=hp.spec;have HPC:=hid hpc;have HV:=hid h;clear hp hpc h;have hm:=HV.out.m;have hn:=HV.out.n
 go_enter Tryz.func58,Tryz.ntmps58
 go_wp2_with fail;refine (zho 1 60 _ [(M:Int)] _ (zpt (by simp [go_sem]))).mono ?_
 rintro e W1 ⟨rfl,hb⟩;have hall:([(M:Int)].all (wiR 1 60))=true:=by
  simp [wiR];omega
 rw [hall];have hE1:Ext w W1:=by exact xx
 have b0:W1.cell? ⟨w.heap.size,0,none⟩=some (.int .i64 (M:Int)):=zj hb (by simp [go_sem]);have b1:W1.cell? ⟨w.heap.size,1,none⟩=some (.slice pa ps.length pc):=zj hb (by simp [go_sem]);have bz:=World.block_lt_of_cell? _ _ b0;simp only at bz;have HE1:=hid hE1;have hni:¬ (30:Int) < (ps.length:Int):=by omega
 clear hb hE1 hall;go_wp2_with fail;refine (ztp ps pa pc 115 #[.pointer (some ⟨w.heap.size,0,none⟩)] (fun _=>false) W1 (by omega) (HPC.out.imp id fun ⟨b,off,e,hc⟩=>⟨b,off,e,fun i hi=>⟨zj HE1.out (hc i hi).1,zj HE1.out (hc i hi).2.1,zj HE1.out (hc i hi).2.2⟩⟩)
  (fun args W=>Tryz.call115 args W) (fun x hx W hW=>zado M x _ W (HV.out.ok x hx) (zj hW b0))).mono ?_
 rintro e W2 ⟨rfl,hE2⟩;have HE2:=hid hE2;have hany:(ps.any fun _=>false)=false:=by
  rw [List.any_eq_false];intro x _;simp
 rw [hany];clear hE2 hany;go_wp2_with fail;go_ret;exact ⟨rfl,HE1.out.trans' HE2.out⟩
def zgg (W:World) (q M:Nat) (pv:Value):Prop:=W.cell? ⟨q,0,none⟩=some (.int .i64 (M:Int))∧W.cell? ⟨q,1,none⟩=some pv
theorem zgg.ext {W W':World} {q M:Nat} {pv:Value} (h:zgg W q M pv) (e:Ext W W'):zgg W' q M pv:=⟨zj e h.1,zj e h.2⟩
theorem zw7 (M:Nat) (ps:List Psn) (pv:Value) (w:World) (h:zjk M ps) (hp:zf6 w pv ps) :
  Calls Tryz.prog 22 #[.agg #[.int .i64 (M:Int),pv]] w fun e w'=>∃ q,e = .returned (.tuple #[.pointer (some ⟨q,0,none⟩),.int .i64 0])∧Ext w w'∧zgg w' q M pv:=by
 obtain ⟨pa,pc,rfl,p1,p2,-⟩:=hp.spec;have HP:=hid hp;clear hp
 go_enter Tryz.func22,Tryz.ntmps22
 go_wp2_with fail;obtain ⟨W0,hW0⟩:∃ W0,W0=w.alloc (.cells #[.int .i64 (M:Int),.slice pa ps.length pc] 29):=⟨_,rfl⟩
 have hE0:Ext w W0:=by rw [hW0];exact xx
 have b0:W0.cell? ⟨w.heap.size,0,none⟩=some (.int .i64 (M:Int)):=by rw [hW0];simp [go_sem]
 have b1:W0.cell? ⟨w.heap.size,1,none⟩=some (.slice pa ps.length pc):=by rw [hW0];simp [go_sem]
 rw [← hW0];have HE0:=hid hE0;clear hW0 hE0;refine (zvp M ps _ W0 h (HP.out.ext HE0.out)).mono ?_
 rintro e W1 ⟨rfl,hE1⟩;replace b0:=zj hE1 b0;replace b1:=zj hE1 b1;have bz:=World.block_lt_of_cell? _ _ b0;simp only at bz;have HE1:=hid (HE0.out.trans' hE1);clear hE1;go_wp2_with fail;refine bodyPost_ret (v:=.tuple #[.pointer (some ⟨W1.heap.size,0,none⟩),.int .i64 0]) (by simp [results,Tryz.results22,go_sem]) rfl ?_
 exact ⟨_,rfl,HE1.out.trans' (by exact xx),by simp [go_sem],by simp [go_sem]⟩
end Go.Proofs.YtnfdiohfojjnlaaGreat
