/-
  The walk of doom: how many turns can be done from each state; the safe ones are left in the map.
-/
import Derived.Test.YtnfdiohfojjnlaaGreatUc
import Derived.Test.YtnfdiohfojjnlaaGreatBb
set_option maxRecDepth 200000
set_option maxHeartbeats 0
namespace Go.Proofs.YtnfdiohfojjnlaaGreat.Tu
open Go.Lib (hid)
open Go.RowKit Go.Shelf
attribute [local go_sem] Oper.semAt_some
def plRow (ks:List Int) (i:Int):List Value:=[.int .i64 (gt (zt ks i) 0),.int .i64 (gt (zt ks i) 1),.int .i64 (gt (zt ks i) 2),.int .i64 (gt (zt ks i) 3),.int .i64 (gt (zt ks i) 4),.int .i64 i]
theorem elPl:El 195 112 6:=El.mk' (bytes:=48) (z:=plc 0 0 0 0 0 0) (by kernel_rfl) (by kernel_rfl) rfl (by omega) (by omega)
theorem doom_in (ks:List Int) (p M rb rc:Nat) (w:World) (v:TVal ks) (hn:TNxS (fun k=>k≠rb∧k≠M) w p ks) (c3:w.cell? ⟨p,3,none⟩=some (.slice (some ⟨rb,0,none⟩) (nSt ks) rc)) (hrc:nSt ks≤rc) (hrc2:rc≤9223372036854775807)
  (c4:w.cell? ⟨p,4,none⟩=some (.map (some M))) (hr:RowB w rb ks (fun _=>-1)) (hm:MapIs (pk ks) one w M (FofR ks fun _=>-1)) :
  CallsIn Fence.wide 9 Tryz.prog 65 #[.pointer (some ⟨p,0,none⟩)] w fun e W=>∃ r,e = .returned r∧Kept (fun k=>k≠rb∧k≠M) w W∧RowB W rb ks (rkN ks)∧MapIs (pk ks) one W M (FofR ks (rkN ks)):=by
 have hpS:p≠rb∧p≠M:=by obtain ⟨_,_,_,_,_,_,_,h,_⟩:=hn;exact h
 have hz:p < w.heap.size:=World.block_lt_of_cell? _ _ c3;have hzr:=hr.lt;have hzm:=hm.lt;have hN:=zk8 v;have hNe:=zgu v;have hMr:M≠rb:=fun e=>by
  obtain ⟨cur,h1,_⟩:=hr;obtain ⟨es,c,h2,_⟩:=hm;unfold IsMap at h2;rw [e,h1] at h2;cases h2
 have HN:=hid hn;have HR:=hid hr;have HM:=hid hm;have V:=hid v;have NE:=hid hNe;clear hn hr hm v hNe;refine callsIn_of_wp_marks Tryz.func65 rfl trivial ?_ rfl;simp only [Tryz.ntmps65,List.size_toArray,List.length_cons,List.length_nil,Nat.reduceAdd,Nat.reduceSub,Array.replicate_succ,Array.replicate_zero,List.push_toArray,List.append_toArray,List.nil_append,List.cons_append]
 gi_wp2
 gi_loopw [2] (fun _ W=>∃ rows,RowsOk ks rows∧Kept (fun k=>k≠rb∧k≠M) w W∧RowB W rb ks rows∧MapIs (pk ks) one W M (FofR ks rows)) (fun _ W=>cntW W rb ks)
 case atStart=>exact ⟨_,rowsOk_start ks,Kept.refl _ _,HR.out,HM.out⟩
 case round =>
  obtain ⟨rows0,hok,hkp,hrow,hmap⟩:=hrel;obtain ⟨es,c,hm1,ho,hbn,hget⟩:=hmap;have c4':=hkp.cell c4 hpS;have hrg:=zhx (place_keyed ks) hm1;have hsz:=hkp.size;have ROW0:=hid hrow;have HK0:=hid hkp;have HOK0:=hid hok;have HM1:=hid hm1;have HO:=hid ho;have HBN:=hid hbn;have HGET:=hid hget;clear hm1 ho hbn hget hrow hkp hok;gi_wp2_with fail;clear hrg;obtain ⟨w6,rfl⟩:∃ w6:World,w6=wr:=⟨_,rfl⟩
  have hzi:w6.heap.size < (w6.alloc (.mapIter (some M) c #[] c)).heap.size:=by simp
  gi_loopw [2] (fun fv W=>∃ (seen:Array Nat) (l:List Int) (rows:Int→Int),Owns W w.heap.size 112 6 fv (l.map (plRow ks))∧IsMap (pk ks) one W M es c∧W.heap[w6.heap.size]? = some (.mapIter (some M) c seen c) ∧
    Kept (fun k=>k≠rb∧k≠M) w W∧RowB W rb ks rows∧RoundR ks rows0 rows l∧l.Nodup∧(∀ i∈l,∃ e∈es,e.1=i∧e.2.2∈seen)∧(l=[]→∀ e∈es,e.2.2∈seen→bndL rows0 0 (nxN ks e.1)=none))
   (fun _ W=>zck es w6.heap.size W)
  case atStart =>
   refine ⟨#[],[],rows0,Owns.nil _ _ _ _,(Below.heap_alloc _ _ _ (Array.getElem?_eq_some_iff.1 HM1.out).1).trans HM1.out,World.alloc_heap_new _ _,HK0.out.alloc _,ROW0.out.of_heap (Below.heap_alloc _ _ _ ROW0.out.lt),RoundR.start HOK0.out,List.Pairwise.nil,fun i hi=>(by cases hi),fun _ e _ h=>(by simp at h)⟩
  case round =>
   obtain ⟨seen,l,rows,hown,hm1,hit,hkp,hrow,hrnd,hnd,hls,hnone⟩:=hrel;obtain ⟨fa,fn,fc,rfl⟩:=hown.isSlice;have c3':=hkp.cell c3 hpS;have c4':=hkp.cell c4 hpS;have hszr:=hkp.size;have hzir:=(Array.getElem?_eq_some_iff.1 hit).1
   rcases zjg (P:=Tryz.prog) hm1 hit (fun e he=>HBN.out.2 e he) with ⟨hall,hrun⟩ | ⟨e,he,hs,W2,hheap,hos,htape,hout,hrun⟩
   ·have hlen:=hown.form
    obtain ⟨_,_,e,hfc,hfc2,hcells⟩:=hlen;cases e;have HALL:=hid hall;have HOWN:=hid hown;have HM1r:=hid hm1;have HKP:=hid hkp;have HROW:=hid hrow;have HRND:=hid hrnd;have HNONE:=hid hnone;clear hall hown hm1 hit hkp hrow hrnd hnd hls hnone
    by_cases hl:l=[]
    ·have HL:=hid hl
     subst hl;gi_wp2_with fail;have hneg:∀ i,0≤i→i < zq ks→rows0 i < 0→bndL rows0 0 (nxN ks i)=none:=fun i h0 h1 h2=>by
      obtain ⟨x,hx,rfl⟩:=mem_getE ((HGET.out i).trans (fofR_of ⟨h0,h1,h2⟩));exact HNONE.out trivial x hx (HALL.out x hx)
     have hfin:=rows_all V.out HOK0.out hneg;have hrr:rows=rows0:=funext fun y=>HRND.out.2.2 y (by simp)
     refine ⟨_,results_none rfl _ _ _,⟨_,rfl⟩,HKP.out,?_,?_⟩
     ·obtain ⟨cur,h1,h2⟩:=HROW.out
      refine ⟨cur,h1,fun i hi=>?_⟩;rw [h2 i hi,hrr,hfin i (by omega) (by have:=NE.out;omega)]
     ·have:FofR ks (rkN ks)=FofR ks rows0:=funext fun k=>by
       unfold FofR
       by_cases hk:0≤k∧k < zq ks
       ·rw [hfin k hk.1 hk.2]
       ·rw [if_neg (fun h=>hk ⟨h.1,h.2.1⟩),if_neg (fun h=>hk ⟨h.1,h.2.1⟩)]
      rw [this];exact ⟨es,c,HM1r.out,HO.out,HBN.out,HGET.out⟩
    ·obtain ⟨L,hL⟩:∃ L,L=l.length:=⟨_,rfl⟩
     rw [List.length_map] at hfc;simp only [List.length_map] at HOWN ⊢;rw [← hL] at hfc HOWN ⊢;have hLp:0 < L:=by rw [hL];exact List.length_pos_iff.2 hl
     have hLI:((L:Int) == 0)=false:=by simp;omega
     have HLL:=hid hL;have HLN:=hid hl;clear hL hl hcells;gi_wp2_with fail
     gi_loopw [42] (fun jv W=>∃ j:Nat,j≤L∧jv = .int .i64 j∧Kept (fun k=>k≠rb∧k≠M) w W∧RowB W rb ks rows∧Owns W w.heap.size 112 6 (.slice fa L fc) (l.map (plRow ks))∧MapIs (pk ks) one W M (fun k=>if k∈l.take j then none else FofR ks rows0 k)) (fun jv _=>L - (intOf jv).toNat)
     case atStart=>exact ⟨0,by omega,rfl,HKP.out,HROW.out,HOWN.out,by simp;exact ⟨es,c,HM1r.out,HO.out,HBN.out,HGET.out⟩⟩
     case round =>
      obtain ⟨j,hj,rfl,hkp,hrow,hown,hmap⟩:=hrel
      by_cases hlt:j < L
      ·have hjl:j < l.length:=by have:=HLL.out;omega
       have hji:(j:Int) < (L:Int):=by omega
       obtain ⟨fa',fc',e,_,_,hcells⟩:=hown.form;simp only [Value.slice.injEq] at e;obtain ⟨rfl,-,rfl⟩:=e
       rcases hcells with ⟨h0,_⟩ | ⟨fb,rfl,hfb,hfb2,hcells,hfro⟩
       ·exact absurd (List.map_eq_nil_iff.1 h0) HLN.out
       have hrow6:∀ t (ht:t < 6),wr.cell? ⟨fb,j * 6+t,none⟩=some ((plRow ks l[j])[t]'(by simp [plRow];exact ht)):=fun t ht=>by
        have:=hcells j (by simpa using hjl) t (by simp [plRow];exact ht);rw [Nat.zero_add] at this;rw [this];simp
       obtain ⟨y,hy⟩:∃ y,y=l[j]:=⟨_,rfl⟩
       rw [← hy] at hrow6;have y0:=hrow6 0 (by omega);have y1:=hrow6 1 (by omega);have y2:=hrow6 2 (by omega);have y3:=hrow6 3 (by omega);have y4:=hrow6 4 (by omega);have y5:=hrow6 5 (by omega);simp only [plRow,List.getElem_cons_zero,List.getElem_cons_succ,Nat.add_zero] at y0 y1 y2 y3 y4 y5;have c4'':=hkp.cell c4 hpS;have hzpp:=World.block_lt_of_cell? _ _ c4'';simp only at hzpp;have HY:=hid hy;have HKPr:=hid hkp;have HROWr:=hid hrow;have HOWNr:=hid hown;have HMAPr:=hid hmap;have hzl:=hmap.lt;clear hrow6 hy hkp hrow hown hmap hcells hfro;gi_wp2_with fail;obtain ⟨W1,hW1⟩:∃ W1,wr.alloc (.cells #[.int .i64 (gt (zt ks y) 0),.int .i64 (gt (zt ks y) 1),.int .i64 (gt (zt ks y) 2),.int .i64 (gt (zt ks y) 3),.int .i64 (gt (zt ks y) 4),.int .i64 y] 112)=W1:=⟨_,rfl⟩
       have hE1:Ext wr W1:=by rw [← hW1];exact xx
       have z0:W1.cell? ⟨wr.heap.size,0,none⟩=some (.int .i64 (gt (zt ks y) 0)):=by rw [← hW1];simp [go_sem]
       have z1:W1.cell? ⟨wr.heap.size,1,none⟩=some (.int .i64 (gt (zt ks y) 1)):=by rw [← hW1];simp [go_sem]
       have z2:W1.cell? ⟨wr.heap.size,2,none⟩=some (.int .i64 (gt (zt ks y) 2)):=by rw [← hW1];simp [go_sem]
       have z3:W1.cell? ⟨wr.heap.size,3,none⟩=some (.int .i64 (gt (zt ks y) 3)):=by rw [← hW1];simp [go_sem]
       have z4:W1.cell? ⟨wr.heap.size,4,none⟩=some (.int .i64 (gt (zt ks y) 4)):=by rw [← hW1];simp [go_sem]
       have z5:W1.cell? ⟨wr.heap.size,5,none⟩=some (.int .i64 y):=by rw [← hW1];simp [go_sem]
       rw [hW1];replace c4'':=zj hE1 c4'';clear hW1 y0 y1 y2 y3 y4 y5;refine ztg rfl rfl (by kernel_rfl) (by kernel_rfl) (by kernel_rfl) ?_
       dsimp only [List.dropLast]
       repeat (first | go_big_quiet_step (fail) | quiet_step (fail))
       refine wpQuiet_nil ?_
       rintro _ ⟨nq,rfl⟩;obtain ⟨W2,hdel,hg2,hm2⟩:=((HMAPr.out.ext hE1).of_heap (W':=W1.drewN nq) rfl).dele (place_keyed ks) y 0;simp only [pk,plc] at hdel;have hk2:Kept (fun k=>k≠M) wr W2:=((Kept.of_below hE1).trans (Kept.of_below (Ext.drN (Below.refl _ W1) nq))).grown hg2 (fun k e _ hk=>by cases e;exact hk rfl);have HM2:=hid hm2;have HK2:=hid hk2;clear hm2 hg2 hk2;gi_wp2_with fail;go_roundw
       case rel =>
        refine ⟨j+1,by omega,by go_num,HKPr.out.trans (HK2.out.mono fun k _ h=>h.2),HROWr.out.of_heap (HK2.out.same _ (by have:=HROWr.out.lt;omega) hMr.symm),HOWNr.out.keptAt HK2.out (fun g cur hb _ _=>by omega),?_⟩;have:(fun k=>if k∈l.take (j+1) then none else FofR ks rows0 k)=fun k'=>if k'=y then none else (fun k=>if k∈l.take j then none else FofR ks rows0 k) k':=funext fun k=>by
         rw [List.take_add_one,List.getElem?_eq_getElem hjl,← HY.out]
         by_cases h1:k=y
         ·subst h1;simp
         ·simp [h1]
        rw [this];exact HM2.out
       case measure=>simp [intOf];omega
      ·have hjL:j=L:=by omega
       subst hjL;have hmap':MapIs (pk ks) one wr M (FofR ks rows):=by
        have:FofR ks rows=fun k=>if k∈l.take j then none else FofR ks rows0 k:=funext fun k=>by
         rw [List.take_of_length_le (by rw [HLL.out];omega),HRND.out.fof]
        rw [this];exact hmap
       have HROWr:=hid hrow;have HKPr:=hid hkp;have HMAPr:=hid hmap';clear hrow hkp hmap hmap' hown;gi_wp2_with fail;go_roundw
       case rel=>exact ⟨rows,HRND.out.1,HKPr.out,HROWr.out,HMAPr.out⟩
       case measure =>
        rw [cntW_eq HROWr.out,cntW_eq ROW0.out];obtain ⟨x,hx⟩:=List.exists_mem_of_ne_nil _ HLN.out;have h1:=HRND.out.2.1 x hx;have hxx:((x.toNat:Nat):Int)=x:=by omega
        refine cnt_lt (fun i hi=>?_) (i:=x.toNat) (by have:=NE.out;omega) (by rw [hxx];omega) (by rw [hxx];omega)
        by_cases hm:(i:Int)∈l
        ·have:=HRND.out.2.1 _ hm;omega
        ·rw [← HRND.out.2.2 _ hm];exact hi
   ·have hei:=fofR_some ((HGET.out e.1).symm.trans (getE_mem HO.out he))
    obtain ⟨i,hi⟩:∃ i:Nat,e.1=(i:Int):=⟨e.1.toNat,by omega⟩
    have hg2:wr.grownBy W2 (some w6.heap.size):=⟨hos,htape,hout,by rw [hheap];simp,fun k hk hne=>by rw [hheap];exact World.putObj_heap_other (fun e=>hne (by rw [e]))⟩
    have hk2:Kept (fun k=>k≠w6.heap.size) wr W2:=(Kept.refl _ wr).grown hg2 (fun k e _ hk=>by cases e;exact hk rfl);have hit2:W2.heap[w6.heap.size]? = some (.mapIter (some M) c (seen.push e.2.2) c):=by rw [hheap];exact World.putObj_heap_same hzir
    have hm2:IsMap (pk ks) one W2 M es c:=(hk2.same _ (Array.getElem?_eq_some_iff.1 hm1).1 (by omega)).trans hm1;have hen:=zhy (P:=Tryz.prog) hm2 hit2 he HBN.out.1;rw [hi] at hrun hen;simp only [pk,plc,one] at hrun hen;have hun:=zjh he hs;have hun2:∀ W',W'.heap[w6.heap.size]? = W2.heap[w6.heap.size]?→zck es w6.heap.size W' < zck es w6.heap.size wr:=fun W' hW'=>by
     unfold zck;rw [hW',hit2,hit];exact hun
    have hown2:Owns W2 w.heap.size 112 6 (.slice fa fn fc) (l.map (plRow ks)):=hown.keptAt hk2 fun g cur _ _ hg e=>by rw [e,hit] at hg;cases hg
    have hog:∀ g,(Value.slice fa fn fc).ownBlock=some g→w.heap.size≤g∧g < W2.heap.size∧g≠w6.heap.size:=fun g hg=>by
     have h1:=hown2.notOwn g hg;refine ⟨h1.1,h1.2,fun e=>?_⟩
     rcases hown2.1.2 with ⟨hv,_⟩ | ⟨g',cap,cur,hv,_,hg',_⟩
     ·rw [hv] at hg;cases hg
     ·rw [hv] at hg;cases hg
      simp only at e;rw [e,hit2] at hg';cases hg'
    have HOG:=hid hog;clear hog;obtain ⟨W3,hW3⟩:∃ W3,W2.alloc (.cells #[.int .i64 (gt (zt ks i) 0),.int .i64 (gt (zt ks i) 1),.int .i64 (gt (zt ks i) 2),.int .i64 (gt (zt ks i) 3),.int .i64 (gt (zt ks i) 4),.int .i64 i] 112)=W3:=⟨_,rfl⟩
    have hE3:Ext W2 W3:=by rw [← hW3];exact xx
    have hk3:Kept (fun k=>k≠w6.heap.size) wr W3:=hk2.trans (.of_below hE3);have hS3:Kept (fun k=>k≠rb∧k≠M) w W3:=hkp.step hk3 fun j hj _=>by omega
    have hrow3:RowB W3 rb ks rows:=hrow.of_heap (hk3.same _ (by omega) (by omega));have hm3:IsMap (pk ks) one W3 M es c:=(hE3.block _ (Array.getElem?_eq_some_iff.1 hm2).1).trans hm2;have hit3:=(hE3.block _ (Array.getElem?_eq_some_iff.1 hit2).1).trans hit2;have hown3:=hown2.ext hE3;have q5:W3.cell? ⟨W2.heap.size,5,none⟩=some (.int .i64 i):=by rw [← hW3];simp [go_sem]
    have q0:W3.cell? ⟨W2.heap.size,0,none⟩=some (.int .i64 (gt (zt ks i) 0)):=by rw [← hW3];simp [go_sem]
    have q1:W3.cell? ⟨W2.heap.size,1,none⟩=some (.int .i64 (gt (zt ks i) 1)):=by rw [← hW3];simp [go_sem]
    have q2:W3.cell? ⟨W2.heap.size,2,none⟩=some (.int .i64 (gt (zt ks i) 2)):=by rw [← hW3];simp [go_sem]
    have q3:W3.cell? ⟨W2.heap.size,3,none⟩=some (.int .i64 (gt (zt ks i) 3)):=by rw [← hW3];simp [go_sem]
    have q4:W3.cell? ⟨W2.heap.size,4,none⟩=some (.int .i64 (gt (zt ks i) 4)):=by rw [← hW3];simp [go_sem]
    have hin:i < nSt ks:=by have:=NE.out;omega
    have hbd:=bound_any ks rows p i W3 V.out hin (fun x h0 h1=>rows_bd V.out hrnd.1 h0 h1) (HN.out.kept hS3).at (hrow3.rw (hS3.cell c3 hpS) hrc hrc2);have HW3:=hid hW3;have HE3:=hid hE3;have HS3:=hid hS3;have HROW3:=hid hrow3;have HM3:=hid hm3;have HIT3:=hid hit3;have HOWN3:=hid hown3;have HRND:=hid hrnd;have HND:=hid hnd;have HLS:=hid hls;have HNONE:=hid hnone;have HUN2:=hid hun2;have HSS:=hid hs;have HEE:=hid he;have HI:=hid hi;have HEI:=hid hei;have HIT2:=hid hit2;have c3'':=hS3.cell c3 hpS;have hz3:=hS3.size;clear hown hm1 hit hkp hrow hrnd hnd hls hnone hos htape hout hheap hg2 hk2 hun2 hun hown2 hE3 hk3 hS3 hrow3 hm3 hit3 hown3 hit2 hm2 hs he hi hei hW3;generalize hbb:bndL rows 0 (nxN ks (i:Int))=bb at hbd;have HBB:=hid hbb;clear hbb;have heq:∀ x∈es,x.2.2∈seen.push e.2.2→x.2.2∈seen∨x=e:=fun x hx hh=>by
     rw [Array.mem_push] at hh;exact hh.imp id fun hh=>zb6 _ _ HBN.out.1 x hx e HEE.out hh
    have HEQ:=hid heq;clear heq;cases bb with
    | none =>
     simp only [bndV] at hbd;have HBD:=hid hbd;clear hbd;gi_wp2_with fail;refine ⟨trivial,?_⟩;rw [HW3.out];refine (callsIn_wide.2 HBD.out).mono ?_
     rintro e4 W4 ⟨rfl,hE4⟩;have HE4:=hid hE4;clear hE4;gi_wp2_with fail;go_roundw
     case rel =>
      refine ⟨seen.push e.2.2,l,rows,HOWN3.out.ext HE4.out,(HE4.out.block _ (Array.getElem?_eq_some_iff.1 HM3.out).1).trans HM3.out,(HE4.out.block _ (Array.getElem?_eq_some_iff.1 HIT3.out).1).trans HIT3.out,HS3.out.trans (.of_below HE4.out),
       HROW3.out.of_heap (HE4.out.block _ HROW3.out.lt),HRND.out,HND.out,fun x hx=>?_,fun hl x hx hh=>?_⟩
      ·obtain ⟨y,h1,h2,h3⟩:=HLS.out x hx
       exact ⟨y,h1,h2,by simp [h3]⟩
      ·rcases HEQ.out x hx hh with hh | rfl
       ·exact HNONE.out hl x hx hh
       ·have:rows=rows0:=funext fun y=>HRND.out.2.2 y (by rw [hl];simp)
        rw [HI.out,← this];exact HBB.out
     case measure=>exact HUN2.out _ ((HE4.out.block _ (Array.getElem?_eq_some_iff.1 HIT3.out).1).trans (HIT3.out.trans HIT2.out.symm))
    | some m =>
     simp only [bndV] at hbd;have HBD:=hid hbd;clear hbd;have hnl:(i:Int) ∉ l:=fun hh=>by
      obtain ⟨y,h1,h2,h3⟩:=HLS.out _ hh;have:y=e:=zb6 _ _ HO.out y h1 e HEE.out (h2.trans HI.out.symm);subst this;exact HSS.out h3
     have hlen:(l.map (plRow ks)).length + [plRow ks (i:Int)].length≤1000000:=by
      have h1:(l.map Int.toNat).Nodup:=nodup_map _ HND.out fun x hx y hy e=>by
       have:=HRND.out.2.1 x hx;have:=HRND.out.2.1 y hy;omega
      have h2:=nodup_le (nSt ks) _ h1 fun x hx=>by
       obtain ⟨y,hy,rfl⟩:=List.mem_map.1 hx;have:=HRND.out.2.1 y hy;have:=NE.out;omega
      rw [List.length_map] at h2 ⊢;show _+1≤_;omega
     have HLEN:=hid hlen;have HNL:=hid hnl;clear hlen hnl;gi_wp2_with fail;refine ⟨trivial,?_⟩;rw [HW3.out];refine (callsIn_wide.2 HBD.out).mono ?_
     rintro e4 W4 ⟨rfl,hE4⟩;have HE4:=hid hE4;replace q0:=zj hE4 q0;replace q1:=zj hE4 q1;replace q2:=zj hE4 q2;replace q3:=zj hE4 q3;replace q4:=zj hE4 q4;replace q5:=zj hE4 q5;have hz4:=hE4.size;have HOWN4:=hid (HOWN3.out.ext hE4);clear hE4 c3'' c3' c4';gi_wp2_with (refine zvm rfl (.tmp 25) (.tmp 27) elPl rfl w.heap.size rfl (HOWN4.out.ext (by exact xx)) W4.heap.size 0 1 [plRow ks (i:Int)] rfl (by simp [plRow]) (newRow _ (plRow ks (i:Int)) _) (by simp [plRow,Value.oneCell']) HLEN.out (by simp;omega) ?_);intro v' W5 hown5 hk5 hat5;obtain ⟨va,vn,vc,rfl⟩:=hown5.isSlice;have hkk:Kept (fun k=>some k≠(Value.slice fa fn fc).ownBlock) W4 W5:=((Kept.refl _ W4).alloc _).trans hk5;have hS5:Kept (fun k=>k≠rb∧k≠M) w W5:=(HS3.out.trans (.of_below HE4.out)).step hkk fun j hj _ e=>by have:=(HOG.out j e.symm).1;omega
     have hz5:=hkk.size;have hrow5:RowB W5 rb ks rows:=(HROW3.out.of_heap (HE4.out.block _ HROW3.out.lt)).of_heap (hkk.same _ (by omega) fun e=>by have:=(HOG.out _ e.symm).1;omega);have hm5:IsMap (pk ks) one W5 M es c:=(hkk.same _ (by omega) fun e=>by have:=(HOG.out _ e.symm).1;omega).trans ((HE4.out.block _ (Array.getElem?_eq_some_iff.1 HM3.out).1).trans HM3.out);have hit5:W5.heap[w6.heap.size]? = some (.mapIter (some M) c (seen.push e.2.2) c):=(hkk.same _ (by have:=(Array.getElem?_eq_some_iff.1 HIT3.out).1;omega) fun e=>(HOG.out _ e.symm).2.2 rfl).trans ((HE4.out.block _ (Array.getElem?_eq_some_iff.1 HIT3.out).1).trans HIT3.out);have s5:=hkk.cell q5 (fun e=>by have:=(HOG.out _ e.symm).2.1;simp only at this;omega);have c35:=hS5.cell c3 hpS;have hii:(i:Int) < (nSt ks:Int):=by omega
     have hrcell:W5.cell? ⟨rb,i,none⟩=some (.int .i64 (rows i)):=by
      obtain ⟨cur,h1,h2⟩:=hrow5;rw [cell_of_row _ _ _ _ _ _ h1];exact h2 i hin
     have hrfro:W5.frozen? ⟨rb,i,none⟩=false:=by
      obtain ⟨cur,h1,h2⟩:=hrow5;simp [World.frozen?,h1]
     have hzb:=hrow5.lt;have HOWN5:=hid hown5;have HS5:=hid hS5;have HROW5:=hid hrow5;have HM5:=hid hm5;have HIT5:=hid hit5;clear hown5 hk5 hat5 hkk hS5 hrow5 hm5 hit5 q0 q1 q2 q3 q4 q5;gi_wp2_with fail;refine ztg rfl rfl (by kernel_rfl) (by kernel_rfl) (by kernel_rfl) ?_
     dsimp only [List.dropLast]
     repeat (first | go_big_quiet_step (fail) | quiet_step (fail))
     refine wpQuiet_nil ?_
     rintro _ ⟨nq,rfl⟩;gi_wp2_with fail;go_roundw
     case rel =>
      have hset:∀ k,k≠rb→((W5.drewN nq).setCell ⟨rb,i,none⟩ (.int .i64 m)).heap[k]? = W5.heap[k]?:=fun k hk=>Below.heap_setCell _ _ _ _ hk
      obtain ⟨cur,hcur,_⟩:=HROW5.out;refine ⟨seen.push e.2.2,l ++ [(i:Int)],fun x=>if x=(i:Int) then m else rows x,?_,(hset M (by omega)).trans HM5.out,(hset _ (by omega)).trans HIT5.out,?_,(HROW5.out.of_heap (W':=W5.drewN nq) rfl).set i m,HRND.out.more V.out (by rw [← HI.out];exact HEI.out) HBB.out,?_,fun x hx=>?_,fun hl=>?_⟩
      ·rw [List.map_append]
       exact (HOWN5.out.ext (Ext.drN (Below.refl _ _) nq)).setOther (w:=W5.drewN nq) hcur (by decide) i _
      ·exact (HS5.out.trans (.of_below (Ext.drN (Below.refl _ _) nq))).setCell (fun _ h=>h.1 rfl) _
      ·rw [List.nodup_append]
       exact ⟨HND.out,by simp,fun x hx y hy e=>by simp at hy;subst hy;subst e;exact HNL.out hx⟩
      ·rcases List.mem_append.1 hx with hx | hx
       ·obtain ⟨y,h1,h2,h3⟩:=HLS.out x hx
        exact ⟨y,h1,h2,by simp [h3]⟩
       ·simp at hx
        exact ⟨e,HEE.out,HI.out.trans hx.symm,by simp⟩
      ·simp at hl
     case measure =>
      refine HUN2.out _ ?_
      have:((W5.drewN nq).setCell ⟨rb,i,none⟩ (.int .i64 m)).heap[w6.heap.size]? = W5.heap[w6.heap.size]?:=Below.heap_setCell _ _ _ _ (by simp only;omega);exact this.trans (HIT5.out.trans HIT2.out.symm)
theorem doom_any (ks:List Int) (p M rb rc:Nat) (w:World) (v:TVal ks) (hn:TNxS (fun k=>k≠rb∧k≠M) w p ks) (c3:w.cell? ⟨p,3,none⟩=some (.slice (some ⟨rb,0,none⟩) (nSt ks) rc)) (hrc:nSt ks≤rc) (hrc2:rc≤9223372036854775807)
  (c4:w.cell? ⟨p,4,none⟩=some (.map (some M))) (hr:RowB w rb ks (fun _=>-1)) (hm:MapIs (pk ks) one w M (FofR ks fun _=>-1)) :
  Calls Tryz.prog 65 #[.pointer (some ⟨p,0,none⟩)] w fun e W=>∃ r,e = .returned r∧Kept (fun k=>k≠rb∧k≠M) w W∧RowB W rb ks (rkN ks)∧MapIs (pk ks) one W M (FofR ks (rkN ks)) :=
 callsIn_wide.1 (doom_in ks p M rb rc w v hn c3 hrc hrc2 c4 hr hm)
end Go.Proofs.YtnfdiohfojjnlaaGreat.Tu
namespace Go.Proofs.YtnfdiohfojjnlaaGreat.Tu
open Go.Lib (hid)
open Go.RowKit Go.Shelf
structure TB (w:World) (kv sv nv rv:Value) (W:World):Prop where
 ext:Below w.heap.size w W
 lt:w.heap.size+4≤W.heap.size
 h0:W.heap[w.heap.size]? = some (.cells #[kv] 24 (0,0))
 tb:W.heap[w.heap.size+1+1]? = some (.cells #[kv,sv,nv,rv,.map (some (w.heap.size+1))] 78 (0,0))
 pb:W.heap[w.heap.size+1+1+1]? = some (.cells #[.pointer (some ⟨w.heap.size+1+1,0,none⟩)] 65 (0,0))
theorem TB.kept {w:World} {kv sv nv rv:Value} {W W':World} (s:TB w kv sv nv rv W) (k:Kept (fun j=>j≠w.heap.size+1∧j < w.heap.size+4) W W'):TB w kv sv nv rv W' :=
 ⟨s.ext.trans ⟨k.os,k.tape,k.output,k.size,fun j hj=>k.same j (by have:=s.ext.size;omega) (by omega)⟩,Nat.le_trans s.lt k.size,(k.same _ (by have:=s.lt;omega) (by omega)).trans s.h0,(k.same _ (by have:=s.lt;omega) (by omega)).trans s.tb,(k.same _ (by have:=s.lt;omega) (by omega)).trans s.pb⟩
theorem TB.ext' {w:World} {kv sv nv rv:Value} {W W':World} (s:TB w kv sv nv rv W) (k:Ext W W'):TB w kv sv nv rv W':=s.kept (.of_below k)
section
variable {w:World} {kv sv nv rv:Value} {W:World} (s:TB w kv sv nv rv W)
include s
theorem TB.ch:W.cell? ⟨w.heap.size,0,none⟩=some kv:=by rw [cell_of_row _ _ _ _ _ _ s.h0];rfl
theorem TB.c0:W.cell? ⟨w.heap.size+1+1,0,none⟩=some kv:=by rw [cell_of_row _ _ _ _ _ _ s.tb];rfl
theorem TB.c1:W.cell? ⟨w.heap.size+1+1,1,none⟩=some sv:=by rw [cell_of_row _ _ _ _ _ _ s.tb];rfl
theorem TB.c2:W.cell? ⟨w.heap.size+1+1,2,none⟩=some nv:=by rw [cell_of_row _ _ _ _ _ _ s.tb];rfl
theorem TB.c3:W.cell? ⟨w.heap.size+1+1,3,none⟩=some rv:=by rw [cell_of_row _ _ _ _ _ _ s.tb];rfl
theorem TB.c4:W.cell? ⟨w.heap.size+1+1,4,none⟩=some (.map (some (w.heap.size+1))):=by rw [cell_of_row _ _ _ _ _ _ s.tb];rfl
theorem TB.cp:W.cell? ⟨w.heap.size+1+1+1,0,none⟩=some (.pointer (some ⟨w.heap.size+1+1,0,none⟩)):=by rw [cell_of_row _ _ _ _ _ _ s.pb];rfl
theorem TB.fr (o:Nat):W.frozen? ⟨w.heap.size+1+1,o,none⟩=false:=by simp [World.frozen?,s.tb]
theorem TB.set1 (x:Value):TB w kv x nv rv (W.setCell ⟨w.heap.size+1+1,1,none⟩ x) :=
 ⟨s.ext.setCell (by simp only;omega) _,by have:=s.lt;simpa [World.setCell] using this,(Below.heap_setCell _ _ _ _ (by simp only;omega)).trans s.h0,zp s.tb 1 x,(Below.heap_setCell _ _ _ _ (by simp only;omega)).trans s.pb⟩
theorem TB.set2 (x:Value):TB w kv sv x rv (W.setCell ⟨w.heap.size+1+1,2,none⟩ x) :=
 ⟨s.ext.setCell (by simp only;omega) _,by have:=s.lt;simpa [World.setCell] using this,(Below.heap_setCell _ _ _ _ (by simp only;omega)).trans s.h0,zp s.tb 2 x,(Below.heap_setCell _ _ _ _ (by simp only;omega)).trans s.pb⟩
theorem TB.set3 (x:Value):TB w kv sv nv x (W.setCell ⟨w.heap.size+1+1,3,none⟩ x) :=
 ⟨s.ext.setCell (by simp only;omega) _,by have:=s.lt;simpa [World.setCell] using this,(Below.heap_setCell _ _ _ _ (by simp only;omega)).trans s.h0,zp s.tb 3 x,(Below.heap_setCell _ _ _ _ (by simp only;omega)).trans s.pb⟩
end
def zce (ks:List Int) (i:Nat):List Value:=[.int .i64 (gt (zt ks i) 0),.int .i64 (gt (zt ks i) 1),.int .i64 (gt (zt ks i) 2),.int .i64 (gt (zt ks i) 3),.int .i64 (gt (zt ks i) 4)]
def zsv (_:Nat):List Value:=[.int .i64 (-1)]
def upF (k:Nat):Int→Option Unit:=fun i=>if 0≤i∧i < (k:Int) then some () else none
theorem z9g (k:Nat):upF (k+1)=fun i=>if i=(k:Int) then some () else upF k i:=funext fun i=>by
 unfold upF
 by_cases h:i=(k:Int)
 ·rw [if_pos h,if_pos (by omega)]
 ·rw [if_neg h]
  by_cases h2:0≤i∧i < (k:Int)
  ·rw [if_pos h2,if_pos (by omega)]
  ·rw [if_neg h2,if_neg (by omega)]
theorem zacb {ks:List Int} (v:TVal ks):upF (nSt ks)=FofR ks fun _=>-1:=funext fun i=>by
 have:=zgu v;unfold upF FofR
 by_cases h:0≤i∧i < (nSt ks:Int)
 ·rw [if_pos h,if_pos (show 0≤i∧i < zq ks∧(-1:Int) < 0 by omega)]
 ·rw [if_neg h,if_neg (show ¬ (0≤i∧i < zq ks∧(-1:Int) < 0) by omega)]
theorem z9h:upF 0=fun _=>none:=funext fun i=>by unfold upF;rw [if_neg (by omega)]
theorem elSt:El 73 69 5:=El.mk' (bytes:=40) (z:=lst5 0 0 0 0 0) (by kernel_rfl) (by kernel_rfl) rfl (by omega) (by omega)
theorem elSl:El 75 22 1:=El.mk' (bytes:=24) (z:=.slice none 0 0) (by kernel_rfl) (by kernel_rfl) rfl (by omega) (by omega)
theorem _root_.Go.Proofs.YtnfdiohfojjnlaaGreat.Owns.neBlock {W:World} {B:Nat} {e T:TypeId} {sz:Nat} {v:Value} {rows:List (List Value)} (h:Owns W B e sz v rows) {b:Nat} {cur:Array Value} {fr:Nat × Nat} (hb:W.heap[b]? = some (.cells cur T fr)) (hne:T≠e):some b≠v.ownBlock:=fun hh=>by
 rcases h.1.2 with ⟨hv,_⟩ | ⟨g,cap,cur',hv,_,hg,_⟩
 ·rw [hv] at hh;cases hh
 ·rw [hv] at hh;cases hh
  simp only at hb;rw [hg] at hb;cases hb;exact hne rfl
theorem _root_.Go.Proofs.YtnfdiohfojjnlaaGreat.Owns.thr {W W':World} {B B':Nat} {e e':TypeId} {sz sz':Nat} {v v':Value} {rows rows':List (List Value)} (hne:e≠e') (h:Owns W B e sz v rows) (h':Owns W B' e' sz' v' rows') (k:Kept (fun k=>some k≠v'.ownBlock) W W'):Owns W' B e sz v rows:=h.keep hne h' k
structure NSt (w:World) (ks:List Int) (kv sv rv:Value) (N N1:Nat) (nv:Value) (tos:List Value) (ds:List Deferred) (W:World):Prop where
 tb:TB w kv sv nv rv W
 n1:N1≤W.heap.size
 os:Owns W (w.heap.size+4) 69 5 sv ((List.range N).map (zce ks))
 orr:Owns W (w.heap.size+4) 3 1 rv ((List.range N).map zsv)
 mp:MapIs (pk ks) one W (w.heap.size+1) (upF N)
 nv:Owns W N1 22 1 nv (tos.map fun v=>[v])
 tos:∀ i (h:i < tos.length),Owns W N1 3 1 tos[i] ((nxN ks i).map zam)
 mks:Marks N1 ds W
theorem NSt.ext {w:World} {ks:List Int} {kv sv rv:Value} {N N1:Nat} {nv:Value} {tos:List Value} {ds:List Deferred} {W W':World} (h:NSt w ks kv sv rv N N1 nv tos ds W) (e:Ext W W'):NSt w ks kv sv rv N N1 nv tos ds W' :=
 ⟨h.tb.ext' e,Nat.le_trans h.n1 e.size,h.os.ext e,h.orr.ext e,h.mp.ext e,h.nv.ext e,fun i hi=>(h.tos i hi).ext e,h.mks.kept (S:=fun _=>True) (.of_below e) (fun _ _ _=>trivial)⟩
theorem NSt.more {w:World} {ks:List Int} {kv sv rv:Value} {N N1:Nat} {nv nv' tv:Value} {tos:List Value} {ds:List Deferred} {W W':World} (h:NSt w ks kv sv rv N N1 nv tos ds W) (hN1:w.heap.size+4≤N1) (ht:Owns W N1 3 1 tv ((nxN ks tos.length).map zam))
  (h':Owns W' N1 22 1 nv' (tos.map (fun v=>[v]) ++ [[tv]])) (k:Kept (fun k=>some k≠nv.ownBlock) W W'):NSt w ks kv sv rv N N1 nv' (tos ++ [tv]) ds (W'.setCell ⟨w.heap.size+1+1,2,none⟩ nv'):=by
 have hog:∀ g,nv.ownBlock=some g→N1≤g∧g < W.heap.size:=h.nv.notOwn;have tb':=h.tb.kept (k.mono fun j _ hj e=>by have:=hog j e.symm;omega);have hT:∀ {e:TypeId} {B sz:Nat} {v:Value} {rows:List (List Value)},e≠22→e≠78→Owns W B e sz v rows→Owns (W'.setCell ⟨w.heap.size+1+1,2,none⟩ nv') B e sz v rows:=fun h1 h2 ho=>(ho.thr h1 h.nv k).setOther tb'.tb h2 2 _
 refine ⟨tb'.set2 nv',by have:=h.n1;have:=k.size;simp [World.setCell];omega,hT (by decide) (by decide) h.os,hT (by decide) (by decide) h.orr,?_,?_,fun i hi=>?_,?_⟩
 ·refine (h.mp.of_heap (k.same _ h.mp.lt fun e=>by have:=hog _ e.symm;omega)).of_heap (Below.heap_setCell _ _ _ _ (by simp only;omega))
 ·rw [List.map_append]
  exact h'.setOther tb'.tb (by decide) 2 _
 ·by_cases hi2:i < tos.length
  ·rw [List.getElem_append_left hi2]
   exact hT (by decide) (by decide) (h.tos i hi2)
  ·have e:i=tos.length:=by simp at hi;omega
   subst e;simp only [List.getElem_concat_length];exact hT (by decide) (by decide) ht
 ·refine (h.mks.kept k fun D hD hd e=>?_).kept (S:=fun k=>k≠w.heap.size+1+1) ((Kept.refl _ W').setCell (fun _ hh=>hh rfl) _) (fun D hD _=>by omega)
  rcases h.nv.1.2 with ⟨hv,_⟩ | ⟨g,cap,cur,hv,_,hg,_⟩
  ·rw [hv] at e;cases e
  ·rw [hv] at e;cases e
   simp only at hd;rw [hg] at hd;cases hd
structure Tab (W:World) (p:Nat) (ks:List Int):Prop where
 hd:THd W p ks
 st:TSt W p ks
 nx:TNx W p ks
 rw:TRw W p ks (rkN ks)
 mp:TMp W p ks (FofR ks (rkN ks))
theorem Tab.ext {W W':World} {p:Nat} {ks:List Int} (h:Tab W p ks) (e:Ext W W'):Tab W' p ks:=⟨h.hd.ext e,h.st.ext e,h.nx.ext e,h.rw.ext e,h.mp.ext e⟩
theorem NSt.rowB {w:World} {ks:List Int} {kv sv nv:Value} {N1 rb rn rc:Nat} {tos:List Value} {ds:List Deferred} {W:World} (h:NSt w ks kv sv (.slice (some ⟨rb,0,none⟩) rn rc) (nSt ks) N1 nv tos ds W):RowB W rb ks (fun _=>-1):=by
 rcases h.orr.1.2 with ⟨hv,_⟩ | ⟨g,cap,cur,hv,_,hg,hn,_,hsz,ht⟩
 ·cases hv
 ·cases hv
  refine ⟨cur,hg,fun i hi=>?_⟩;obtain ⟨_,_,e,_,_,hf⟩:=h.orr.form
  rcases hf with ⟨h0,_⟩ | ⟨g',h0,_,_,hr,_⟩
  ·have:=congrArg List.length h0;simp at this;omega
  ·simp only [Value.slice.injEq] at e
   obtain ⟨e,-,-⟩:=e;rw [← e] at h0;cases h0;have:=hr i (by simpa using hi) 0 (by simp [zsv]);rw [cell_of_row _ _ _ _ _ _ hg] at this;simpa [zsv] using this
theorem NSt.nx {w:World} {ks:List Int} {kv sv rv nv:Value} {N1:Nat} {tos:List Value} {ds:List Deferred} {W:World} (h:NSt w ks kv sv rv (nSt ks) N1 nv tos ds W) (hl:tos.length=nSt ks) (hN:1≤nSt ks) {S:Nat→Prop} (hp:S (w.heap.size+1+1))
  (hS:∀ g,N1≤g→(∀ x,W.heap[g]?≠some (.deferred x))→S g):TNxS S W (w.heap.size+1+1) ks:=by
 have hc2:=h.tb.c2;have own:∀ {e:TypeId} {v:Value} {rows:List (List Value)},Owns W N1 e 1 v rows→∀ g,v.ownBlock=some g→S g:=fun {e v rows} ho g hg=>by
  rcases ho.1.2 with ⟨hv,_⟩ | ⟨g',cap,cur,hv,hb,hgg,_⟩
  ·rw [hv] at hg;cases hg
  ·rw [hv] at hg;cases hg
   refine hS _ hb fun x hx=>?_
   simp only at hx;rw [hgg] at hx;cases hx
 obtain ⟨_,cap,e,h1,h2,hf⟩:=h.nv.form;rw [List.length_map,hl] at e h1
 rcases hf with ⟨h0,_⟩ | ⟨g,rfl,_,_,hr,_⟩
 ·have:=congrArg List.length h0;simp at this;subst this;simp at hl;omega
 ·rw [e] at hc2
  refine ⟨g,0,cap,hc2,h1,h2,own h.nv g (by rw [e];rfl),hp,fun i hi=>?_⟩;have hi':i < tos.length:=by omega
  have ho:=h.tos i hi';obtain ⟨sa,cp,e2,h3,h4,_⟩:=ho.form;rw [List.length_map] at e2 h3;refine ⟨sa,cp,?_,by rw [← e2];exact ho.oneInts,by rw [← e2];exact own ho⟩;have:=hr i (by simpa using hi') 0 (by simp);simp only [List.getElem_map,List.getElem_cons_zero,Nat.zero_add,Nat.mul_one,Nat.add_zero] at this;rw [Nat.zero_add,this,e2]
theorem _root_.Go.Proofs.YtnfdiohfojjnlaaGreat.Owns.tst {W:World} {B b n c p:Nat} {ks:List Int} (h:Owns W B 69 5 (.slice (some ⟨b,0,none⟩) n c) ((List.range (nSt ks)).map (zce ks))) (hc:W.cell? ⟨p,1,none⟩=some (.slice (some ⟨b,0,none⟩) n c)):TSt W p ks:=by
 obtain ⟨_,_,e,h1,h2,hf⟩:=h.form;simp only [Value.slice.injEq] at e;obtain ⟨e1,e2,e3⟩:=e;rw [List.length_map,List.length_range] at e2 h1
 rcases hf with ⟨_,h0,_⟩ | ⟨g,h0,_,_,hr,_⟩
 ·rw [h0] at e1;cases e1
 ·rw [h0] at e1;cases e1
  refine ⟨b,0,c,by rw [hc,e2],by omega,by omega,fun i hi j hj=>?_⟩;have:=hr i (by simpa using hi) j (by simp [zce];exact hj);rw [this]
  match j,hj with
  | 0,_=>simp [zce]
  | 1,_=>simp [zce]
  | 2,_=>simp [zce]
  | 3,_=>simp [zce]
  | 4,_=>simp [zce]
structure zsw (S:Nat→Prop) (W:World) (p:Nat) (ks:List Int):Prop where
 sp:S p
 hd:∃ sa cap,W.cell? ⟨p,0,none⟩=some (.slice sa ks.length cap)∧IsInts W .i64 (.slice sa ks.length cap) ks∧∀ g,(Value.slice sa ks.length cap).ownBlock=some g→S g
 st:∃ b off cap,W.cell? ⟨p,1,none⟩=some (.slice (some ⟨b,off,none⟩) (nSt ks) cap)∧nSt ks≤cap∧cap≤9223372036854775807∧S b∧∀ i,i < nSt ks→∀ j,j < 5→W.cell? ⟨b,off+i * 5+j,none⟩=some (.int .i64 (gt (zt ks i) j))
 nx:TNxS S W p ks
 rw:∃ b off cap,W.cell? ⟨p,3,none⟩=some (.slice (some ⟨b,off,none⟩) (nSt ks) cap)∧nSt ks≤cap∧cap≤9223372036854775807∧S b∧∀ i,i < nSt ks→W.cell? ⟨b,off+i,none⟩=some (.int .i64 (rkN ks i))
 mp:∃ r,W.cell? ⟨p,4,none⟩=some (.map (some r))∧S r∧MapIs (pk ks) one W r (FofR ks (rkN ks))
theorem zsw.kept {S:Nat→Prop} {W W':World} {p:Nat} {ks:List Int} (h:zsw S W p ks) (k:Kept S W W'):zsw S W' p ks:=by
 obtain ⟨sp,⟨sa,cap,a1,a2,a3⟩,⟨b,off,c,b1,b2,b3,b4,b5⟩,nx,⟨rb,ro,rc,c1,c2,c3,c4,c5⟩,⟨r,d1,d2,d3⟩⟩:=h;exact ⟨sp,⟨sa,cap,k.cell a1 sp,IsRows.kept k a3 a2,a3⟩,⟨b,off,c,k.cell b1 sp,b2,b3,b4,fun i hi j hj=>k.cell (b5 i hi j hj) b4⟩,nx.kept k,⟨rb,ro,rc,k.cell c1 sp,c2,c3,c4,fun i hi=>k.cell (c5 i hi) c4⟩,⟨r,k.cell d1 sp,d2,d3.of_heap (k.same _ d3.lt d2)⟩⟩
theorem zsw.tab {S:Nat→Prop} {W:World} {p:Nat} {ks:List Int} (h:zsw S W p ks):Tab W p ks:=by
 obtain ⟨sp,⟨sa,cap,a1,a2,a3⟩,⟨b,off,c,b1,b2,b3,b4,b5⟩,nx,⟨rb,ro,rc,c1,c2,c3,c4,c5⟩,⟨r,d1,d2,d3⟩⟩:=h;exact ⟨⟨sa,cap,a1,a2⟩,⟨b,off,c,b1,b2,b3,b5⟩,nx.at,⟨rb,ro,rc,c1,c2,c3,c5⟩,⟨r,d1,d3⟩⟩
theorem TNxS.mono {S T:Nat→Prop} {W:World} {p:Nat} {ks:List Int} (h:TNxS S W p ks) (hs:∀ k,S k→T k):TNxS T W p ks:=by
 obtain ⟨b,off,cap,h1,h2,h3,hb,hp,h4⟩:=h;exact ⟨b,off,cap,h1,h2,h3,hs _ hb,hs _ hp,fun i hi=>by
  obtain ⟨sa,cp,a,c,d⟩:=h4 i hi;exact ⟨sa,cp,a,c,fun g hg=>hs _ (d g hg)⟩⟩
end Go.Proofs.YtnfdiohfojjnlaaGreat.Tu
namespace Go.Proofs.YtnfdiohfojjnlaaGreat.Tu
open Go.Lib (hid)
open Go.RowKit Go.Shelf
attribute [local go_sem] Oper.semAt_some
theorem z2s (ks:List Int) (kv:Value) (w:World) (v:TVal ks) (hv:IsInts w .i64 kv ks) :
  CallsIn Fence.wide 9 Tryz.prog 26 #[.agg #[kv]] w fun e W=>e = .returned (.pointer (some ⟨w.heap.size+1+1,0,none⟩))∧Ext w W∧zsw (fun k=>w.heap.size≤k∨kv.ownBlock=some k) W (w.heap.size+1+1) ks:=by
 have hmm:=@run_makeMap Tryz.prog;have n1:=v.n1;have n5:=v.n5;have hN:=zk8 v;have hNe:=zgu v;obtain ⟨sa,cap,rfl,hl1,hl2,h3⟩:=hv.spec;have HS:=hid hv;have V:=hid v;clear hv v h3;refine callsIn_of_wp_marks Tryz.func26 rfl trivial ?_ rfl;simp only [Tryz.ntmps26,List.size_toArray,List.length_cons,List.length_nil,Nat.reduceAdd,Nat.reduceSub,Array.replicate_succ,Array.replicate_zero,List.push_toArray,List.append_toArray,List.nil_append,List.cons_append]
 gi_wp2
 obtain ⟨W0,hW0⟩:∃ W0,(((w.alloc (.cells #[.slice sa ks.length cap] 24)).alloc (.map #[] 0)).alloc (.cells #[.slice sa ks.length cap,.slice none 0 0,.slice none 0 0,.slice none 0 0,.map (some (w.heap.size+1))] 78)).alloc (.cells #[.pointer (some ⟨w.heap.size+1+1,0,none⟩)] 65)=W0:=⟨_,rfl⟩
 have hTB:TB w (.slice sa ks.length cap) (.slice none 0 0) (.slice none 0 0) (.slice none 0 0) W0:=by
  rw [← hW0];refine ⟨by exact xx,by simp,?_,?_,?_⟩
  ·exact (Below.heap_alloc _ _ _ (by simp;omega)).trans ((Below.heap_alloc _ _ _ (by simp;omega)).trans ((Below.heap_alloc _ _ _ (by simp)).trans (World.alloc_heap_new w _)))
  ·refine (Below.heap_alloc _ _ _ (by simp)).trans ?_
   have:=World.alloc_heap_new ((w.alloc (.cells #[.slice sa ks.length cap] 24)).alloc (.map #[] 0)) (.cells #[.slice sa ks.length cap,.slice none 0 0,.slice none 0 0,.slice none 0 0,.map (some (w.heap.size+1))] 78);simp only [World.size_alloc] at this;exact this
  ·have:=World.alloc_heap_new (((w.alloc (.cells #[.slice sa ks.length cap] 24)).alloc (.map #[] 0)).alloc (.cells #[.slice sa ks.length cap,.slice none 0 0,.slice none 0 0,.slice none 0 0,.map (some (w.heap.size+1))] 78)) (.cells #[.pointer (some ⟨w.heap.size+1+1,0,none⟩)] 65)
   simp only [World.size_alloc] at this;exact this
 have hmp:MapIs (pk ks) one W0 (w.heap.size+1) (upF 0):=by
  rw [z9h,← hW0];have hm:=z6o (K:=Int) (ke:=pk ks) (ve:=one) (w.alloc (.cells #[.slice sa ks.length cap] 24));rw [World.size_alloc] at hm;exact (hm.of_heap (Below.heap_alloc _ _ _ (by simp))).of_heap (Below.heap_alloc _ _ _ (by simp))
 rw [hW0];have hE0:Ext w W0:=hTB.ext;clear hW0 hmm;have hmy:=zz7 ks _ W0 (HS.out.ext hE0) n5 V.out.kb;rw [← hNe] at hmy;have HTB:=hid hTB;have HMP:=hid hmp;have HMY:=hid hmy;have NE:=hid hNe;obtain ⟨N,hNN⟩:∃ N,N=nSt ks:=⟨_,rfl⟩
 rw [← hNN] at HMY NE hN;have HNN:=hid hNN;clear hTB hmp hmy hNe hE0 hNN;refine ⟨trivial,(callsIn_wide.2 HMY.out).mono ?_⟩;rintro e W1 ⟨rfl,hE1⟩;have HTB1:=hid (HTB.out.ext' hE1);have HMP1:=hid (HMP.out.ext hE1);clear hE1 HTB HMP HMY
 gi_wp2
 gi_loopw [21] (fun i W=>∃ (k:Nat) (sv rv:Value),k≤N∧i = .int .i64 k∧TB w (.slice sa ks.length cap) sv (.slice none 0 0) rv W∧Owns W (w.heap.size+4) 69 5 sv ((List.range k).map (zce ks))∧Owns W (w.heap.size+4) 3 1 rv ((List.range k).map zsv) ∧
   MapIs (pk ks) one W (w.heap.size+1) (upF k)) (fun i _=>N - (intOf i).toNat)
 case atStart=>exact ⟨0,.slice none 0 0,.slice none 0 0,by omega,rfl,HTB1.out,Owns.nil _ _ _ _,Owns.nil _ _ _ _,HMP1.out⟩
 case round =>
  obtain ⟨k,sv,rv,hk,rfl,htb,hos,hor,hmp⟩:=hrel;obtain ⟨fa,fn,fc,rfl⟩:=hos.isSlice;obtain ⟨ra,rn,rc,rfl⟩:=hor.isSlice;have hcp:=htb.cp;have hlt4:=htb.lt;have HT:=hid htb;have HOS:=hid hos;have HOR:=hid hor;have HM:=hid hmp;clear htb hos hor hmp HTB1 HMP1
  by_cases hlt:k < N
  ·have hki:(k:Int) < (N:Int):=by omega
   have hst:=fun W h=>z7a ks (w.heap.size+1+1) k W V.out h (by omega)
   have HST:=hid hst;clear hst;gi_wp2_with fail;refine ⟨trivial,(callsIn_wide.2 (HST.out _ ⟨sa,cap,HT.out.c0,HS.out.ext HT.out.ext⟩)).mono ?_⟩;rintro e W2 ⟨rfl,hE2⟩;have HT2:=hid (HT.out.ext' hE2);have HOS2:=hid (HOS.out.ext hE2);have HOR2:=hid (HOR.out.ext hE2);have HM2:=hid (HM.out.ext hE2);have hz2:=hE2.size;obtain ⟨t,ht⟩:∃ t,t=zt ks k:=⟨_,rfl⟩
   rw [← ht,zcy];have HTT:=hid ht;clear hE2 HT HOS HOR HM hcp ht;gi_wp2_with fail;obtain ⟨Wr,hWr⟩:∃ Wr,W2.alloc (.cells #[.int .i64 (gt t 0),.int .i64 (gt t 1),.int .i64 (gt t 2),.int .i64 (gt t 3),.int .i64 (gt t 4)] 69)=Wr:=⟨_,rfl⟩
   have hEr:Ext W2 Wr:=by rw [← hWr];exact xx
   have hbt:StB Wr W2.heap.size t:=by rw [← hWr];exact StB.new W2 t
   rw [hWr];have HTr:=hid (HT2.out.ext' hEr);have HOSr:=hid (HOS2.out.ext hEr);have HORr:=hid (HOR2.out.ext hEr);have HMr:=hid (HM2.out.ext hEr);have hcp:=HTr.out.cp;have hcf:=HTr.out.c1;have hzr:=hEr.size;have hltr:=HTr.out.lt;have hog:∀ g,(Value.slice fa fn fc).ownBlock=some g→w.heap.size+4≤g∧g < W2.heap.size:=HOS2.out.notOwn;have HOG:=hid hog;have c0t:=(hbt).c 0 (by omega);have c1t:=(hbt).c 1 (by omega);have c2t:=(hbt).c 2 (by omega);have c3t:=(hbt).c 3 (by omega);have c4t:=(hbt).c 4 (by omega);have cft:=(hbt).free;have czt:=(hbt).lt;have HBT:=hid hbt;clear hWr hEr hbt HT2 HOS2 HOR2 HM2 hog;have HLEN:Hid (((List.range k).map (zce ks)).length+1≤1000000):=hid (by rw [List.length_map,List.length_range];omega);refine wpIn_wide.2 ?_
   refine zb8 rfl rfl (by kernel_rfl) (w.heap.size+4) (by omega)
    [sqV (.pointer (some ⟨w.heap.size+1+1,0,none⟩)),sqV (.pointer (some ⟨w.heap.size+1+1,0,none⟩)),sqV (.pointer (some ⟨w.heap.size+1+1,0,none⟩)),sqV (.pointer (some ⟨w.heap.size+1+1,1,none⟩)),sqV (Value.slice fa fn fc),sqV (.agg #[.int .i64 (gt t 0),.int .i64 (gt t 1),.int .i64 (gt t 2),.int .i64 (gt t 3),.int .i64 (gt t 4)]),sqW (fun v W=>∃ b,v = .slice (some ⟨b,0,none⟩) 1 1∧RowsAt W 5 b 0 ([[Value.int .i64 (gt t 0),.int .i64 (gt t 1),.int .i64 (gt t 2),.int .i64 (gt t 3),.int .i64 (gt t 4)]])) (fun _ _ _ ⟨b,h1,h2⟩ e=>⟨b,h1,h2.ext e⟩),sqW (fun v W=>Owns W (w.heap.size+4) 69 5 v ((List.range k).map (zce ks) ++ [[Value.int .i64 (gt t 0),.int .i64 (gt t 1),.int .i64 (gt t 2),.int .i64 (gt t 3),.int .i64 (gt t 4)]])∧Kept (fun k=>some k≠(Value.slice fa fn fc).ownBlock) Wr W∧∀ g,v.ownBlock=some g→(Value.slice fa fn fc).ownBlock=some g∨Wr.heap.size≤g) (fun _ _ _ ⟨h1,h2,h3⟩ e=>⟨h1.ext e,h2.trans (.of_below e),h3⟩),sqV (.pointer (some ⟨w.heap.size+1+1,0,none⟩)),sqV (.pointer (some ⟨w.heap.size+1+1,1,none⟩))]
    [true,true,true,true,true,true,false,false,true,true] [false,false,false,false,false,false,false,true,false,false] [true,true,true,true,true,true,false,true,true,true] [false,true,true,true,true,true,true,true,false,false]
    (by kernel_rfl) (by kernel_rfl) (by decide +kernel) (by decide +kernel) (by decide +kernel) rfl ⟨rfl,rfl⟩ ⟨?s0,?s1,?s2,?s3,?s4,?s5,?s6,?s7,?s8,?s9,trivial⟩ [some 27,some 28,some 29,some 30,some 31,some 32,some 33,some 34,some 35,some 36] rfl rfl ?send
   case s0 =>
    intro val ρ W hE hz hd hA hx;have o0:ρ (.tmp 3) = .pointer (some ⟨w.heap.size+1+1+1,0,none⟩):=hA.old 3 (by decide);have f_hcp:=cell_below hE (by simp only;omega) hcp;clear hd;exact zh (W':=W) (by simp [execOp,o0,f_hcp,go_sem]) (Below.refl _ _) rfl
   case s1 =>
    intro val ρ W hE hz hd hA hx;have o0:ρ (.tmp 3) = .pointer (some ⟨w.heap.size+1+1+1,0,none⟩):=hA.old 3 (by decide);have f_hcp:=cell_below hE (by simp only;omega) hcp;clear hd;exact zh (W':=W) (by simp [execOp,o0,f_hcp,go_sem]) (Below.refl _ _) rfl
   case s2 =>
    intro val ρ W hE hz hd hA hx;have d1:ρ (.tmp 28) = .pointer (some ⟨w.heap.size+1+1,0,none⟩):=(hA.dep 1 (by decide) 28 rfl).trans (hd 1 (by decide));clear hd;exact zh (W':=W) (by simp [execOp,d1,go_sem]) (Below.refl _ _) rfl
   case s3 =>
    intro val ρ W hE hz hd hA hx;have d2:ρ (.tmp 29) = .pointer (some ⟨w.heap.size+1+1,0,none⟩):=(hA.dep 2 (by decide) 29 rfl).trans (hd 2 (by decide));clear hd;exact zh (W':=W) (by simp [execOp,d2,go_sem]) (Below.refl _ _) rfl
   case s4 =>
    intro val ρ W hE hz hd hA hx;have d3:ρ (.tmp 30) = .pointer (some ⟨w.heap.size+1+1,1,none⟩):=(hA.dep 3 (by decide) 30 rfl).trans (hd 3 (by decide));have f_hcf:=cell_below hE (by simp only;omega) hcf;clear hd;exact zh (W':=W) (by simp [execOp,d3,f_hcf,go_sem]) (Below.refl _ _) rfl
   case s5 =>
    intro val ρ W hE hz hd hA hx;have o0:ρ (.tmp 6) = .pointer (some ⟨W2.heap.size,0,none⟩):=hA.old 6 (by decide);have f_c0t:=zj (hx (by decide)) c0t;have f_c1t:=zj (hx (by decide)) c1t;have f_c2t:=zj (hx (by decide)) c2t;have f_c3t:=zj (hx (by decide)) c3t;have f_c4t:=zj (hx (by decide)) c4t;clear hd;exact zh (W':=W) (by simp [execOp,o0,f_c0t,f_c1t,f_c2t,f_c3t,f_c4t,go_sem]) (Below.refl _ _) rfl
   case s6 =>
    intro val ρ W hE hz hd hA hx;have d5:ρ (.tmp 32) = .agg #[.int .i64 (gt t 0),.int .i64 (gt t 1),.int .i64 (gt t 2),.int .i64 (gt t 3),.int .i64 (gt t 4)]:=(hA.dep 5 (by decide) 32 rfl).trans (hd 5 (by decide));clear hd hA;refine zh (by simp [execOp,d5,go_sem];exact ⟨rfl,rfl⟩) (by exact xx) ⟨_,rfl,ziz _ ([[Value.int .i64 (gt t 0),.int .i64 (gt t 1),.int .i64 (gt t 2),.int .i64 (gt t 3),.int .i64 (gt t 4)]]) _ _ _ 5 rfl (by simp) (by simp)⟩
   case s8 =>
    intro val ρ W hE hz hd hA hx;have d0:ρ (.tmp 27) = .pointer (some ⟨w.heap.size+1+1,0,none⟩):=(hA.dep 0 (by decide) 27 rfl).trans (hd 0 (by decide));clear hd;exact zh (W':=W) (by simp [execOp,d0,go_sem]) (Below.refl _ _) rfl
   case s9 =>
    intro val ρ W hE hz hd hA hx;have d8:ρ (.tmp 35) = .pointer (some ⟨w.heap.size+1+1,0,none⟩):=(hA.dep 8 (by decide) 35 rfl).trans (hd 8 (by decide));clear hd;exact zh (W':=W) (by simp [execOp,d8,go_sem]) (Below.refl _ _) rfl
   case s7 =>
    intro val ρ W hE hz hd hA hx;have hW:=hx (by decide);have d4:ρ (.tmp 31)=Value.slice fa fn fc:=(hA.dep 4 (by decide) 31 rfl).trans (hd 4 (by decide));obtain ⟨b,e6,h6⟩:∃ b,val 6 = .slice (some ⟨b,0,none⟩) 1 1∧RowsAt W 5 b 0 [[Value.int .i64 (gt t 0),.int .i64 (gt t 1),.int .i64 (gt t 2),.int .i64 (gt t 3),.int .i64 (gt t 4)]]:=hd 6 (by decide);have d6:ρ (.tmp 33) = .slice (some ⟨b,0,none⟩) 1 1:=(hA.dep 6 (by decide) 33 rfl).trans e6;have ho:=HOSr.out.ext hW;obtain ⟨v',w',hrun,h2,h3,h4⟩:=zhw elSt 73 (w.heap.size+4) ho b 0 1 [[Value.int .i64 (gt t 0),.int .i64 (gt t 1),.int .i64 (gt t 2),.int .i64 (gt t 3),.int .i64 (gt t 4)]] (by simp) h6 (by simp [Value.oneCell']) (HLEN.out) (by omega);exact zem (.tmp 31) (.tmp 33) rfl rfl _ _ d4 d6 hrun ((ho.keptBelow (by omega) h3).mono (by omega)) ⟨h2,(Kept.of_below hW).trans h3,fun g hg=>(h4 g hg).imp id fun h=>Nat.le_trans hW.size h⟩
   case send =>
    intro val WW hE hzz hv;obtain ⟨-,-,-,-,-,-,-,⟨h7,k7,o7⟩,-,r9,-⟩:=hv;have q9:val 9 = .pointer (some ⟨w.heap.size+1+1,1,none⟩):=r9;obtain ⟨va,vn,vc,e7⟩:=h7.isSlice;rw [e7] at h7 o7;have hT5:=HTr.out.kept (k7.mono fun k _ hk e=>by have:=HOG.out k e.symm;omega);have hOR5:=HORr.out.thr (by decide) HOSr.out k7;have hM5:MapIs (pk ks) one WW (w.heap.size+1) (upF k):=HMr.out.of_heap (k7.same _ HMr.out.lt fun e=>by have:=HOG.out _ e.symm;omega);have hB5:=HBT.out.kept k7 fun e=>by have:=HOG.out _ e.symm;omega
    simp only [zbx,e7,q9];go_frame;have hd1:=hT5.c1;have hf1:=hT5.fr 1;have hz5:=World.block_lt_of_cell? _ _ hd1;simp only at hz5;have HT5:=hid hT5;have HOR5:=hid hOR5;have HM5:=hid hM5;have HB5:=hid hB5;have H7:=hid h7;clear r9 e7 q9 hT5 hOR5 hM5 hB5 h7 k7 o7 hE hzz hcp hcf c0t c1t c2t c3t c4t cft czt HTr HOSr HORr HMr HBT HOG;go_wp2_with fail;obtain ⟨W6,hW6⟩:∃ W6,WW.setCell ⟨w.heap.size+1+1,1,none⟩ (.slice va vn vc)=W6:=⟨_,rfl⟩
    have hT6:TB w (.slice sa ks.length cap) (.slice va vn vc) (.slice none 0 0) (.slice ra rn rc) W6:=by rw [← hW6];exact HT5.out.set1 _
    have hOS6:Owns W6 (w.heap.size+4) 69 5 (.slice va vn vc) ((List.range (k+1)).map (zce ks)):=by
     rw [← hW6,List.range_succ,List.map_append];have:[zce ks k]=[[Value.int .i64 (gt t 0),.int .i64 (gt t 1),.int .i64 (gt t 2),.int .i64 (gt t 3),.int .i64 (gt t 4)]]:=by rw [HTT.out];rfl
     rw [List.map_singleton,this];exact H7.out.setOther HT5.out.tb (by decide) 1 _
    have hOR6:Owns W6 (w.heap.size+4) 3 1 (.slice ra rn rc) ((List.range k).map zsv):=by rw [← hW6];exact HOR5.out.setOther HT5.out.tb (by decide) 1 _
    have hM6:MapIs (pk ks) one W6 (w.heap.size+1) (upF k):=by rw [← hW6];exact HM5.out.of_heap (Below.heap_setCell _ _ _ _ (by simp only;omega))
    have hB6:StB W6 W2.heap.size t:=by rw [← hW6];exact (Below.heap_setCell _ _ _ _ (by simp only;omega)).trans HB5.out
    rw [hW6];clear hW6 HT5 HOR5 HM5 HB5 H7 hd1 hf1 hz5;have hcp:=hT6.cp;have hcf:=hT6.c3;have hlt6:=hT6.lt;have hz6:=hB6.lt;have hog6:∀ g,(Value.slice ra rn rc).ownBlock=some g→w.heap.size+4≤g∧g < W6.heap.size:=hOR6.notOwn;have HOG:=hid hog6;have HTr:=hid hT6;have HOSr:=hid hOS6;have HORr:=hid hOR6;have HMr:=hid hM6;have HBT:=hid hB6;clear hT6 hOS6 hOR6 hM6 hB6 hog6;gi_wp2_with fail;refine wpIn_wide.2 ?_
    refine zb8 rfl rfl (by kernel_rfl) (w.heap.size+4) (by omega)
     [sqV (.pointer (some ⟨w.heap.size+1+1,0,none⟩)),sqV (.pointer (some ⟨w.heap.size+1+1,0,none⟩)),sqV (.pointer (some ⟨w.heap.size+1+1,0,none⟩)),sqV (.pointer (some ⟨w.heap.size+1+1,3,none⟩)),sqV (Value.slice ra rn rc),sqW (fun v W=>∃ b,v = .slice (some ⟨b,0,none⟩) 1 1∧RowsAt W 1 b 0 ([[Value.int .i64 (-1)]])) (fun _ _ _ ⟨b,h1,h2⟩ e=>⟨b,h1,h2.ext e⟩),sqW (fun v W=>Owns W (w.heap.size+4) 3 1 v ((List.range k).map zsv ++ [[Value.int .i64 (-1)]])∧Kept (fun k=>some k≠(Value.slice ra rn rc).ownBlock) W6 W∧∀ g,v.ownBlock=some g→(Value.slice ra rn rc).ownBlock=some g∨W6.heap.size≤g) (fun _ _ _ ⟨h1,h2,h3⟩ e=>⟨h1.ext e,h2.trans (.of_below e),h3⟩),sqV (.pointer (some ⟨w.heap.size+1+1,0,none⟩)),sqV (.pointer (some ⟨w.heap.size+1+1,3,none⟩))]
     [true,true,true,true,true,false,false,true,true] [false,false,false,false,false,false,true,false,false] [true,true,true,true,true,false,true,true,true] [false,true,true,true,true,true,true,false,false]
     (by kernel_rfl) (by kernel_rfl) (by decide +kernel) (by decide +kernel) (by decide +kernel) rfl ⟨rfl,rfl⟩ ⟨?s0,?s1,?s2,?s3,?s4,?s5,?s6,?s7,?s8,trivial⟩ [some 37,some 38,some 39,some 40,some 41,some 42,some 43,some 44,some 45] rfl rfl ?send
    case s0 =>
     intro val ρ W hE hz hd hA hx;have o0:ρ (.tmp 3) = .pointer (some ⟨w.heap.size+1+1+1,0,none⟩):=hA.old 3 (by decide);have f_hcp:=cell_below hE (by simp only;omega) hcp;clear hd;exact zh (W':=W) (by simp [execOp,o0,f_hcp,go_sem]) (Below.refl _ _) rfl
    case s1 =>
     intro val ρ W hE hz hd hA hx;have o0:ρ (.tmp 3) = .pointer (some ⟨w.heap.size+1+1+1,0,none⟩):=hA.old 3 (by decide);have f_hcp:=cell_below hE (by simp only;omega) hcp;clear hd;exact zh (W':=W) (by simp [execOp,o0,f_hcp,go_sem]) (Below.refl _ _) rfl
    case s2 =>
     intro val ρ W hE hz hd hA hx;have d1:ρ (.tmp 38) = .pointer (some ⟨w.heap.size+1+1,0,none⟩):=(hA.dep 1 (by decide) 38 rfl).trans (hd 1 (by decide));clear hd;exact zh (W':=W) (by simp [execOp,d1,go_sem]) (Below.refl _ _) rfl
    case s3 =>
     intro val ρ W hE hz hd hA hx;have d2:ρ (.tmp 39) = .pointer (some ⟨w.heap.size+1+1,0,none⟩):=(hA.dep 2 (by decide) 39 rfl).trans (hd 2 (by decide));clear hd;exact zh (W':=W) (by simp [execOp,d2,go_sem]) (Below.refl _ _) rfl
    case s4 =>
     intro val ρ W hE hz hd hA hx;have d3:ρ (.tmp 40) = .pointer (some ⟨w.heap.size+1+1,3,none⟩):=(hA.dep 3 (by decide) 40 rfl).trans (hd 3 (by decide));have f_hcf:=cell_below hE (by simp only;omega) hcf;clear hd;exact zh (W':=W) (by simp [execOp,d3,f_hcf,go_sem]) (Below.refl _ _) rfl
    case s5 =>
     intro val ρ W hE hz hd hA hx;clear hd;refine zh (by simp [execOp,hA.const,go_sem];exact ⟨rfl,rfl⟩) (by exact xx) ⟨_,rfl,ziz _ ([[Value.int .i64 (-1)]]) _ _ _ 1 rfl (by simp) (by simp)⟩
    case s7 =>
     intro val ρ W hE hz hd hA hx;have d0:ρ (.tmp 37) = .pointer (some ⟨w.heap.size+1+1,0,none⟩):=(hA.dep 0 (by decide) 37 rfl).trans (hd 0 (by decide));clear hd;exact zh (W':=W) (by simp [execOp,d0,go_sem]) (Below.refl _ _) rfl
    case s8 =>
     intro val ρ W hE hz hd hA hx;have d7:ρ (.tmp 44) = .pointer (some ⟨w.heap.size+1+1,0,none⟩):=(hA.dep 7 (by decide) 44 rfl).trans (hd 7 (by decide));clear hd;exact zh (W':=W) (by simp [execOp,d7,go_sem]) (Below.refl _ _) rfl
    case s6 =>
     intro val ρ W hE hz hd hA hx;have hW:=hx (by decide);have d4:ρ (.tmp 41)=Value.slice ra rn rc:=(hA.dep 4 (by decide) 41 rfl).trans (hd 4 (by decide));obtain ⟨b,e6,h6⟩:∃ b,val 5 = .slice (some ⟨b,0,none⟩) 1 1∧RowsAt W 1 b 0 [[Value.int .i64 (-1)]]:=hd 5 (by decide);have d6:ρ (.tmp 42) = .slice (some ⟨b,0,none⟩) 1 1:=(hA.dep 5 (by decide) 42 rfl).trans e6;have ho:=HORr.out.ext hW;obtain ⟨v',w',hrun,h2,h3,h4⟩:=zhw zfz 22 (w.heap.size+4) ho b 0 1 [[Value.int .i64 (-1)]] (by simp) h6 (by simp [Value.oneCell']) (by rw [List.length_map,List.length_range];show _+1≤_;omega) (by omega);exact zem (.tmp 41) (.tmp 42) rfl rfl _ _ d4 d6 hrun (ho.keptBelow (by omega) h3) ⟨h2,(Kept.of_below hW).trans h3,fun g hg=>(h4 g hg).imp id fun h=>Nat.le_trans hW.size h⟩
    case send =>
     intro val WW hE hzz hv;obtain ⟨-,-,-,-,-,-,⟨h7,k7,o7⟩,-,r9,-⟩:=hv;have q9:val 8 = .pointer (some ⟨w.heap.size+1+1,3,none⟩):=r9;obtain ⟨ua,un,uc,e7⟩:=h7.isSlice;rw [e7] at h7 o7;have hT5:=HTr.out.kept (k7.mono fun k _ hk e=>by have:=HOG.out k e.symm;omega);have hOS5:=HOSr.out.thr (by decide) HORr.out k7;have hM5:MapIs (pk ks) one WW (w.heap.size+1) (upF k):=HMr.out.of_heap (k7.same _ HMr.out.lt fun e=>by have:=HOG.out _ e.symm;omega);have hB5:StB WW W2.heap.size t:=HBT.out.kept k7 (HORr.out.neBlock HBT.out (by decide));simp only [zbx,e7,q9];go_frame;have hd1:=hT5.c3;have hf1:=hT5.fr 3;have hz5:=World.block_lt_of_cell? _ _ hd1;simp only at hz5;have HT5:=hid hT5;have HOS5:=hid hOS5;have HM5:=hid hM5;have HB5:=hid hB5;have H7:=hid h7;clear r9 e7 q9 hT5 hOS5 hM5 hB5 h7 k7 o7 hE hzz hcp hcf HTr HOSr HORr HMr HBT HOG;go_wp2_with fail;obtain ⟨W7,hW7⟩:∃ W7,WW.setCell ⟨w.heap.size+1+1,3,none⟩ (.slice ua un uc)=W7:=⟨_,rfl⟩
     have hT7:TB w (.slice sa ks.length cap) (.slice va vn vc) (.slice none 0 0) (.slice ua un uc) W7:=by rw [← hW7];exact HT5.out.set3 _
     have hOR7:Owns W7 (w.heap.size+4) 3 1 (.slice ua un uc) ((List.range (k+1)).map zsv):=by
      rw [← hW7,List.range_succ,List.map_append];exact H7.out.setOther HT5.out.tb (by decide) 3 _
     have hOS7:Owns W7 (w.heap.size+4) 69 5 (.slice va vn vc) ((List.range (k+1)).map (zce ks)):=by rw [← hW7];exact HOS5.out.setOther HT5.out.tb (by decide) 3 _
     have hM7:MapIs (pk ks) one W7 (w.heap.size+1) (upF k):=by rw [← hW7];exact HM5.out.of_heap (Below.heap_setCell _ _ _ _ (by simp only;omega))
     have hB7:StB W7 W2.heap.size t:=by rw [← hW7];exact (Below.heap_setCell _ _ _ _ (by simp only;omega)).trans HB5.out
     rw [hW7];clear hW7 HT5 HOS5 HM5 HB5 H7 hd1 hf1 hz5;have hcp:=hT7.cp;have hc4:=hT7.c4;have hlt7:=hT7.lt;have c0t:=(hB7).c 0 (by omega);have c1t:=(hB7).c 1 (by omega);have c2t:=(hB7).c 2 (by omega);have c3t:=(hB7).c 3 (by omega);have c4t:=(hB7).c 4 (by omega);have cft:=(hB7).free;have czt:=(hB7).lt;have HT7:=hid hT7;have HOS7:=hid hOS7;have HOR7:=hid hOR7;have HM7:=hid hM7;clear hT7 hOS7 hOR7 hM7 hB7;gi_wp2_with fail;refine ztg rfl rfl (by kernel_rfl) (by kernel_rfl) (by kernel_rfl) ?_
     dsimp only [List.dropLast]
     repeat (first | go_big_quiet_step (fail) | quiet_step (fail))
     refine wpQuiet_nil ?_
     rintro _ ⟨nq,rfl⟩;obtain ⟨W8,hup,hg8,_,hm8⟩:=(HM7.out.of_heap (W':=W7.drewN nq) rfl).upd (place_keyed ks) (k:Int) ();rw [← z9g] at hm8;simp only [pk,plc,one,← HTT.out] at hup;have hk8:Kept (fun j=>j≠w.heap.size+1) W7 W8:=(Kept.of_below (Ext.drN (Below.refl _ W7) nq)).grown hg8 (fun k e _ hk=>by cases e;exact hk rfl);have HM8:=hid hm8;have HK8:=hid hk8;clear hm8 hk8 hg8;gi_wp2_with fail;go_roundw
     case rel =>
      exact ⟨k+1,_,_,by omega,by go_num,HT7.out.kept (HK8.out.mono fun j _ h=>h.1),HOS7.out.keptAt HK8.out (fun g _ h _ _=>by omega),HOR7.out.keptAt HK8.out (fun g _ h _ _=>by omega),HM8.out⟩
     case measure=>simp [intOf];omega
  ·obtain rfl:k=N:=by omega
   have hne:(List.range k).map (zce ks)≠[]:=by
    intro h;have:=congrArg List.length h;simp at this;omega
   obtain ⟨_,_,e,hsc1,hsc2,hsf⟩:=HOS.out.form;simp only [Value.slice.injEq] at e;obtain ⟨rfl,hfn,rfl⟩:=e
   rcases hsf with ⟨h0,_⟩ | ⟨sb,rfl,hsb,hsb2,hscells,hsfro⟩
   ·exact absurd h0 hne
   rw [List.length_map,List.length_range] at hfn hsc1;rw [hfn] at HOS HT;have HSC:=hid hscells;obtain ⟨N1,hN1⟩:∃ N1,N1=wr.heap.size:=⟨_,rfl⟩
   have HN14:Hid (w.heap.size+4≤N1):=hid (by omega);have HRB:Hid (∀ g,(Value.slice ra rn rc).ownBlock=some g→g < N1):=hid fun g hg=>by have:=(HOR.out.notOwn g hg).2;omega
   have HSB:Hid (sb < N1):=hid (by omega);have hc1:=HT.out.c1;have hzp:=World.block_lt_of_cell? _ _ hc1;simp only at hzp;clear hne hfn hscells hsfro;gi_wp2_with fail;refine wpIn_loop (fun a' W=>∃ (u8 u9 u10 u11 u12 u13 u59 u60 u61 u62 u63 u64 u65 u66 u67 u68 u69 u70 u71 u72 u73 u74 u75 u76 u77 u78 u79 u80 u81 u82 u83 u84 u85 u86 u87 u88 u89 u90 u91 u92 u93 u94 u95 u96:Value) (ds:List Deferred),(∃ (j:Nat) (nv:Value) (tos:List Value),j≤k∧u59 = .int .i64 j∧tos.length=j∧NSt w ks (.slice sa ks.length cap) (.slice (some ⟨sb,0,none⟩) k fc) (.slice ra rn rc) k N1 nv tos ds W)∧a'={ tmps:=#[.agg #[.slice sa ks.length cap],.pointer (some ⟨w.heap.size,0,none⟩),.pointer none,.pointer (some ⟨w.heap.size+1+1+1,0,none⟩),.int .i64 k,u5,u6,undef,u8,u9,u10,u11,u12,u13,.agg #[.slice sa ks.length cap],.map (some (w.heap.size+1)),.agg #[.slice sa ks.length cap,.slice none 0 0,.slice none 0 0,.slice none 0 0,.map (some (w.heap.size+1))],.pointer (some ⟨w.heap.size+1+1,0,none⟩),.agg #[.slice sa ks.length cap],.int .i64 k,.int .i64 k,.int .i64 k,.bool false,u23,u24,u25,u26,u27,u28,u29,u30,u31,u32,u33,u34,u35,u36,u37,u38,u39,u40,u41,u42,u43,u44,u45,u46,u47,u48,u49,u50,u51,u52,u53,.pointer (some ⟨w.heap.size+1+1,0,none⟩),.pointer (some ⟨w.heap.size+1+1,0,none⟩),.pointer (some ⟨w.heap.size+1+1,1,none⟩),.slice (some ⟨sb,0,none⟩) k fc,.int .i64 k,u59,u60,u61,u62,u63,u64,u65,u66,u67,u68,u69,u70,u71,u72,u73,u74,u75,u76,u77,u78,u79,u80,u81,u82,u83,u84,u85,u86,u87,u88,u89,u90,u91,u92,u93,u94,u95,u96,undef,undef,undef],defers:=ds }) (fun a' W=>k - (intOf (a'.tmps.getD 59 undef)).toNat) ?atStart ?round
   case atStart =>
    (repeat apply Exists.intro)
    refine ⟨?_,rfl⟩;exact ⟨0,.slice none 0 0,[],by omega,rfl,rfl,HT.out,by omega,HOS.out,HOR.out,HM.out,Owns.nil _ _ _ _,fun i h=>(by simp at h),trivial⟩
   case round =>
    rintro _ wr hinv;obtain ⟨u8,hinv⟩:=hinv;obtain ⟨u9,hinv⟩:=hinv;obtain ⟨u10,hinv⟩:=hinv;obtain ⟨u11,hinv⟩:=hinv;obtain ⟨u12,hinv⟩:=hinv;obtain ⟨u13,hinv⟩:=hinv;obtain ⟨u59,hinv⟩:=hinv;obtain ⟨u60,hinv⟩:=hinv;obtain ⟨u61,hinv⟩:=hinv;obtain ⟨u62,hinv⟩:=hinv;obtain ⟨u63,hinv⟩:=hinv;obtain ⟨u64,hinv⟩:=hinv;obtain ⟨u65,hinv⟩:=hinv;obtain ⟨u66,hinv⟩:=hinv;obtain ⟨u67,hinv⟩:=hinv;obtain ⟨u68,hinv⟩:=hinv;obtain ⟨u69,hinv⟩:=hinv;obtain ⟨u70,hinv⟩:=hinv;obtain ⟨u71,hinv⟩:=hinv;obtain ⟨u72,hinv⟩:=hinv;obtain ⟨u73,hinv⟩:=hinv;obtain ⟨u74,hinv⟩:=hinv;obtain ⟨u75,hinv⟩:=hinv;obtain ⟨u76,hinv⟩:=hinv;obtain ⟨u77,hinv⟩:=hinv;obtain ⟨u78,hinv⟩:=hinv;obtain ⟨u79,hinv⟩:=hinv;obtain ⟨u80,hinv⟩:=hinv;obtain ⟨u81,hinv⟩:=hinv;obtain ⟨u82,hinv⟩:=hinv;obtain ⟨u83,hinv⟩:=hinv;obtain ⟨u84,hinv⟩:=hinv;obtain ⟨u85,hinv⟩:=hinv;obtain ⟨u86,hinv⟩:=hinv;obtain ⟨u87,hinv⟩:=hinv;obtain ⟨u88,hinv⟩:=hinv;obtain ⟨u89,hinv⟩:=hinv;obtain ⟨u90,hinv⟩:=hinv;obtain ⟨u91,hinv⟩:=hinv;obtain ⟨u92,hinv⟩:=hinv;obtain ⟨u93,hinv⟩:=hinv;obtain ⟨u94,hinv⟩:=hinv;obtain ⟨u95,hinv⟩:=hinv;obtain ⟨u96,hinv⟩:=hinv;obtain ⟨ds,hinv⟩:=hinv;obtain ⟨hrel,ha⟩:=hinv;subst ha
    try dsimp only
    obtain ⟨j,nv,tos,hj,rfl,htl,hns⟩:=hrel;obtain ⟨fa,fn,fc',rfl⟩:=hns.nv.isSlice
    by_cases hlt:j < k
    ·have hji:(j:Int) < (k:Int):=by omega
     have hcells:∀ t (ht:t < 5),wr.cell? ⟨sb,j * 5+t,none⟩=some (.int .i64 (gt (zt ks j) t)):=fun t ht=>by
      obtain ⟨_,_,e,_,_,hsf⟩:=hns.os.form;simp only [Value.slice.injEq] at e;obtain ⟨rfl,_,rfl⟩:=e
      rcases hsf with ⟨_,h0,_⟩ | ⟨sb',h0,_,_,hr,_⟩
      ·cases h0
      ·cases h0
       have:=hr j (by simpa using hlt) t (by simp [zce];exact ht);rw [Nat.zero_add] at this;rw [this]
       match t,ht with
       | 0,_=>simp [zce]
       | 1,_=>simp [zce]
       | 2,_=>simp [zce]
       | 3,_=>simp [zce]
       | 4,_=>simp [zce]
     have hsts:zaj ks (zt ks j)=true:=zf0 V.out.nn;have hnx:nxN ks j=(if zbs zbu ks (zt ks j) then [] else (List.range ks.length).map fun w=>zau ks (visit (upP zbu (zt ks j)) w)):=by
      unfold nxN nxS
      split
      ·rfl
      ·rw [List.map_map];rfl
     obtain ⟨t,ht⟩:∃ t,t=zt ks j:=⟨_,rfl⟩
     rw [← ht] at hcells hsts hnx;have s0:=hcells 0 (by omega);have s1:=hcells 1 (by omega);have s2:=hcells 2 (by omega);have s3:=hcells 3 (by omega);have s4:=hcells 4 (by omega);rw [Nat.add_zero] at s0;have hl5:=zd7 hsts;have hgb:∀ i,i < ks.length→0≤gt t i∧gt t i≤1000:=fun i hi=>by
      have h1:=zvs hsts i hi;have h2:=V.out.at_ i hi;unfold gt at h1 ⊢;omega
     have hXs:∃ X,∃ ok:Bool,(if zbs zbu ks t then Value.tuple #[stV [],.bool false] else .tuple #[stV (upP zbu t),.bool true]) = .tuple #[stV X,.bool ok]∧(ok=true→zbs zbu ks t=false∧X=upP zbu t)∧(ok=false→zbs zbu ks t=true):=by
      cases hfu:zbs zbu ks t
      ·exact ⟨upP zbu t,true,rfl,fun _=>⟨rfl,rfl⟩,fun (h:true=false)=>(by cases h)⟩
      ·exact ⟨[],false,rfl,fun (h:false=true)=>(by cases h),fun _=>rfl⟩
     obtain ⟨X,ok,hX,hok1,hok0⟩:=hXs;have hcp:=fun W hs=>z4y t ks (.slice sa ks.length cap) (.func (.func 63) #[] #[]) zbu W hs (z66 W) hl5 n5 hgb
     unfold z3h at hcp;rw [hX,zcy,zcy] at hcp;have hch:=hns.tb.ch;have hzh:=hns.tb.lt;have hzh2:w.heap.size < wr.heap.size:=by omega
     have CP:=hid hcp;have HNS:=hid hns;have HTL:=hid htl;have HTT:=hid ht;have HST:=hid hsts;have HNX:=hid hnx;have HOK1:=hid hok1;have HOK0:=hid hok0;clear hcells hsts hnx ht hX hok1 hok0 hcp hns htl hgb HT HOS HOR HM HSC;gi_wp2_with fail;refine ⟨trivial,(callsIn_wide.2 (CP.out _ (HS.out.ext (by have:=HNS.out.tb.ext;exact (Ext.trans' this (by exact xx)))))).mono ?_⟩;rintro e W1 ⟨rfl,hE1⟩;have hEr:Ext wr W1:=Ext.trans' (by exact xx) hE1;have hto1:W1.heap[wr.heap.size+1]? = some (.cells #[.slice none 0 0] 22 (0,0)):=by
      refine (hE1.block _ (by simp)).trans ?_
      have:=World.alloc_heap_new (wr.alloc (.cells #[.int .i64 (gt t 0),.int .i64 (gt t 1),.int .i64 (gt t 2),.int .i64 (gt t 3),.int .i64 (gt t 4)] 69)) (.cells #[.slice none 0 0] 22)
      rwa [World.size_alloc] at this
     have hz1:wr.heap.size+2≤W1.heap.size:=by have:=hE1.size;simpa using this
     have HER:=hid hEr;have HTO:=hid hto1;clear hE1 hEr hto1 s0 s1 s2 s3 s4 hch;cases ok
     ·have HF:=hid (HOK0.out rfl)
      gi_wp2_with fail;obtain ⟨Wz,hWz⟩:∃ Wz,W1.alloc (.cells #[.int .i64 (gt X 0),.int .i64 (gt X 1),.int .i64 (gt X 2),.int .i64 (gt X 3),.int .i64 (gt X 4)] 69)=Wz:=⟨_,rfl⟩
      have hEz:Ext W1 Wz:=by rw [← hWz];exact xx
      rw [hWz];have HNZ:=hid ((HNS.out.ext HER.out).ext hEz);have HTZ:=hid ((hEz.block _ (by omega)).trans HTO.out);have HTV:Hid (Owns Wz N1 3 1 (.slice none 0 0) ((nxN ks j).map zam)):=hid (by rw [HNX.out,HF.out,if_pos rfl];exact Owns.nil _ _ _ _);clear hWz hEz HTO HNS HER;have hcp:=HNZ.out.tb.cp;have hcf:=HNZ.out.tb.c2;have hltr:=HNZ.out.tb.lt;have hn14:=HN14.out;have hn1z:=HNZ.out.n1;have HNV:=hid HNZ.out.nv;have hton:Wz.cell? ⟨wr.heap.size+1,0,none⟩=some (.slice none 0 0):=by rw [cell_of_row _ _ _ _ _ _ HTZ.out];rfl
      have HLEN:Hid ((tos.map fun v=>[v]).length+1≤1000000):=hid (by rw [List.length_map,HTL.out];omega);refine wpIn_wide.2 ?_
      refine zb8 rfl rfl (by kernel_rfl) (w.heap.size+4) (by omega)
       [sqV (.pointer (some ⟨w.heap.size+1+1,0,none⟩)),sqV (.pointer (some ⟨w.heap.size+1+1,0,none⟩)),sqV (.pointer (some ⟨w.heap.size+1+1,0,none⟩)),sqV (.pointer (some ⟨w.heap.size+1+1,2,none⟩)),sqV (Value.slice fa fn fc'),sqV (.slice none 0 0),sqW (fun v W=>∃ b,v = .slice (some ⟨b,0,none⟩) 1 1∧RowsAt W 1 b 0 ([[Value.slice none 0 0]])) (fun _ _ _ ⟨b,h1,h2⟩ e=>⟨b,h1,h2.ext e⟩),sqW (fun v W=>Owns W (N1) 22 1 v (tos.map (fun v=>[v]) ++ [[Value.slice none 0 0]])∧Kept (fun k=>some k≠(Value.slice fa fn fc').ownBlock) Wz W∧∀ g,v.ownBlock=some g→(Value.slice fa fn fc').ownBlock=some g∨Wz.heap.size≤g) (fun _ _ _ ⟨h1,h2,h3⟩ e=>⟨h1.ext e,h2.trans (.of_below e),h3⟩),sqV (.pointer (some ⟨w.heap.size+1+1,0,none⟩)),sqV (.pointer (some ⟨w.heap.size+1+1,2,none⟩))]
       [true,true,true,true,true,true,false,false,true,true] [false,false,false,false,false,false,false,true,false,false] [true,true,true,true,true,true,false,true,true,true] [false,true,true,true,true,true,true,true,false,false]
       (by kernel_rfl) (by kernel_rfl) (by decide +kernel) (by decide +kernel) (by decide +kernel) rfl ⟨rfl,rfl⟩ ⟨?s0,?s1,?s2,?s3,?s4,?s5,?s6,?s7,?s8,?s9,trivial⟩ [some 86,some 87,some 88,some 89,some 90,some 91,some 92,some 93,some 94,some 95] rfl rfl ?send
      case s0 =>
       intro val ρ W hE hz hd hA hx;have o0:ρ (.tmp 3) = .pointer (some ⟨w.heap.size+1+1+1,0,none⟩):=hA.old 3 (by decide);have f_hcp:=cell_below hE (by simp only;omega) hcp;clear hd;exact zh (W':=W) (by simp [execOp,o0,f_hcp,go_sem]) (Below.refl _ _) rfl
      case s1 =>
       intro val ρ W hE hz hd hA hx;have o0:ρ (.tmp 3) = .pointer (some ⟨w.heap.size+1+1+1,0,none⟩):=hA.old 3 (by decide);have f_hcp:=cell_below hE (by simp only;omega) hcp;clear hd;exact zh (W':=W) (by simp [execOp,o0,f_hcp,go_sem]) (Below.refl _ _) rfl
      case s2 =>
       intro val ρ W hE hz hd hA hx;have d1:ρ (.tmp 87) = .pointer (some ⟨w.heap.size+1+1,0,none⟩):=(hA.dep 1 (by decide) 87 rfl).trans (hd 1 (by decide));clear hd;exact zh (W':=W) (by simp [execOp,d1,go_sem]) (Below.refl _ _) rfl
      case s3 =>
       intro val ρ W hE hz hd hA hx;have d2:ρ (.tmp 88) = .pointer (some ⟨w.heap.size+1+1,0,none⟩):=(hA.dep 2 (by decide) 88 rfl).trans (hd 2 (by decide));clear hd;exact zh (W':=W) (by simp [execOp,d2,go_sem]) (Below.refl _ _) rfl
      case s4 =>
       intro val ρ W hE hz hd hA hx;have d3:ρ (.tmp 89) = .pointer (some ⟨w.heap.size+1+1,2,none⟩):=(hA.dep 3 (by decide) 89 rfl).trans (hd 3 (by decide));have f_hcf:=cell_below hE (by simp only;omega) hcf;clear hd;exact zh (W':=W) (by simp [execOp,d3,f_hcf,go_sem]) (Below.refl _ _) rfl
      case s5 =>
       intro val ρ W hE hz hd hA hx;have o0:ρ (.tmp 9) = .pointer (some ⟨wr.heap.size+1,0,none⟩):=hA.old 9 (by decide);have f_hton:=zj (hx (by decide)) hton;clear hd;exact zh (W':=W) (by simp [execOp,o0,f_hton,go_sem]) (Below.refl _ _) rfl
      case s6 =>
       intro val ρ W hE hz hd hA hx;have d5:ρ (.tmp 91) = .slice none 0 0:=(hA.dep 5 (by decide) 91 rfl).trans (hd 5 (by decide));clear hd hA;refine zh (by simp [execOp,d5,go_sem];exact ⟨rfl,rfl⟩) (by exact xx) ⟨_,rfl,ziz _ ([[Value.slice none 0 0]]) _ _ _ 1 rfl (by simp) (by simp)⟩
      case s8 =>
       intro val ρ W hE hz hd hA hx;have d0:ρ (.tmp 86) = .pointer (some ⟨w.heap.size+1+1,0,none⟩):=(hA.dep 0 (by decide) 86 rfl).trans (hd 0 (by decide));clear hd;exact zh (W':=W) (by simp [execOp,d0,go_sem]) (Below.refl _ _) rfl
      case s9 =>
       intro val ρ W hE hz hd hA hx;have d8:ρ (.tmp 94) = .pointer (some ⟨w.heap.size+1+1,0,none⟩):=(hA.dep 8 (by decide) 94 rfl).trans (hd 8 (by decide));clear hd;exact zh (W':=W) (by simp [execOp,d8,go_sem]) (Below.refl _ _) rfl
      case s7 =>
       intro val ρ W hE hz hd hA hx;have hW:=hx (by decide);have d4:ρ (.tmp 90)=Value.slice fa fn fc':=(hA.dep 4 (by decide) 90 rfl).trans (hd 4 (by decide));obtain ⟨b,e6,h6⟩:∃ b,val 6 = .slice (some ⟨b,0,none⟩) 1 1∧RowsAt W 1 b 0 [[Value.slice none 0 0]]:=hd 6 (by decide);have d6:ρ (.tmp 92) = .slice (some ⟨b,0,none⟩) 1 1:=(hA.dep 6 (by decide) 92 rfl).trans e6;have ho:=HNV.out.ext hW;obtain ⟨v',w',hrun,h2,h3,h4⟩:=zhw elSl 75 (N1) ho b 0 1 [[Value.slice none 0 0]] (by simp) h6 (by simp [Value.oneCell']) (HLEN.out) (by omega);exact zem (.tmp 90) (.tmp 92) rfl rfl _ _ d4 d6 hrun ((ho.keptBelow (by omega) h3).mono (by omega)) ⟨h2,(Kept.of_below hW).trans h3,fun g hg=>(h4 g hg).imp id fun h=>Nat.le_trans hW.size h⟩
      case send =>
       intro val WW hE hzz hv;obtain ⟨-,-,-,-,-,-,-,⟨h7,k7,o7⟩,-,r9,-⟩:=hv;have q9:val 9 = .pointer (some ⟨w.heap.size+1+1,2,none⟩):=r9;obtain ⟨va,vn,vc,e7⟩:=h7.isSlice;rw [e7] at h7 o7;have hmore:=HNZ.out.more HN14.out (by rw [HTL.out];exact HTV.out) h7 k7;have htbk:=HNZ.out.tb.kept (k7.mono fun k _ hk e=>by have:=(HNV.out.notOwn k e.symm).1;have:=HN14.out;omega);have hd1:=htbk.c2;have hf1:=htbk.fr 2;have hz5:=World.block_lt_of_cell? _ _ hd1;simp only at hz5;have HMORE:=hid hmore;simp only [zbx,e7,q9];go_frame;clear r9 e7 q9 hmore htbk h7 k7 o7 hE hzz hcp hcf hton HNV;go_wp2_with fail;gi_wp2_with fail;go_roundw
       case rel =>
        (repeat apply Exists.intro)
        refine ⟨?_,rfl⟩;exact ⟨j+1,_,tos ++ [.slice none 0 0],by omega,by go_num,by simp [HTL.out],HMORE.out⟩
       case measure=>simp [intOf];omega
     ·obtain ⟨hfu,hXe⟩:=HOK1.out rfl
      have HF:=hid hfu;have HX:=hid hXe;clear hfu hXe;have hxs:zaj ks X=true:=by rw [HX.out];exact zabc HST.out HF.out
      have HXS:=hid hxs;have hcp1:=(HNS.out.ext HER.out).tb.cp;have hzp1:w.heap.size+1+1+1 < W1.heap.size:=by omega
      clear hxs;gi_wp2_with fail;refine ⟨trivial,(callsIn_wide.2 (z42 (w.heap.size+1+1) X _)).mono ?_⟩;rintro e W5 ⟨rfl,hE5,hb5,hs5,hz5⟩;simp only [World.size_alloc] at hb5 hs5 hz5;have hEW:Ext W1 W5:=Ext.trans' (by exact xx) hE5;have HEW:=hid (HER.out.trans' hEW);have HTO5:=hid ((hEW.block _ (by omega)).trans HTO.out);have HNS5:=hid (HNS.out.ext (HER.out.trans' hEW));have HT5:=hid (show THd W5 (w.heap.size+1+1) ks from ⟨sa,cap,HNS5.out.tb.c0,HS.out.ext HNS5.out.tb.ext⟩);have HS5:=hid hs5;clear hE5 hs5 hEW HTO;gi_wp2_with fail;refine zwy (n:=9) (R:=fun k=>k < W5.heap.size∧k≠wr.heap.size+1) rfl (enters_of Tryz.func119 (by kernel_rfl) rfl)
       (z2r ks X n5 (fun k=>k < W5.heap.size∧k≠wr.heap.size+1) (W1.heap.size+1) (W1.heap.size+1+1) (w.heap.size+1+1) W5 (fun k hk=>hk.1) ⟨by omega,by omega⟩ hb5 HT5.out HS5.out) (Below.refl _ _) (fun k hk=>hk.1) (fun _=>rfl)
       (fun O pre W=>(∀ k,O k→W5.heap.size≤k)∧W5.heap.size≤W.heap.size∧Kept (fun k=>k < W5.heap.size∧k≠wr.heap.size+1) W5 W∧Found (wr.heap.size+1) (W5.heap.size+2) ((pre.map fun v=>zau ks (visit X v)).map zam) O W)
       (fun _ _ _ _=>False) ?bears (fun _ _ _ _ _ _ h _ _ _=>h) ⟨fun _ h=>h.elim,Nat.le_refl _,Kept.refl _ _,⟨_,HTO5.out,Owns.nil _ _ _ _,fun g hg=>(by cases hg)⟩⟩ ?round ?done (fun _ _ _ _ _ _ _ h _=>h.elim)
      case bears =>
       rintro pre O O' A B ⟨g1,g2,g3,g5⟩ hk hO1 hO2;refine ⟨fun k hk=>?_,by have:=hk.size;omega,g3.step hk fun j hj hs=>⟨fun ho=>by have:=g1 j ho;omega,by omega⟩,g5.kept hk ⟨fun ho=>by have:=g1 _ ho;omega,by omega⟩ (fun g h1 h2=>⟨h2,by omega⟩) (fun g h=>(hO2 g h).imp id fun h=>h.1)⟩
       rcases hO2 k hk with h | h
       ·exact g1 k h
       ·omega
      case round =>
       rintro l O pre y Wy ⟨g1,g2,g3,g5⟩ ⟨rfl,hy⟩ hO2 hW2;simp only [zcy]
       gi_wp2
       refine ⟨xx,fun W2 hk2=>?_⟩;obtain ⟨z,hz⟩:∃ z,z=visit X y:=⟨_,rfl⟩
       have hzs:zaj ks z=true:=by rw [hz];exact zz3 HXS.out (fun i hi=>by have:=V.out.at_ i hi;omega) y
       rw [← hz] at hk2 ⊢;have hE2:Ext Wy (Wy.alloc (.cells #[.int .i64 (gt z 0),.int .i64 (gt z 1),.int .i64 (gt z 2),.int .i64 (gt z 3),.int .i64 (gt z 4)] 69)):=xx;have hb2:StB W2 Wy.heap.size z:=(StB.new Wy z).kept hk2 (by omega);have g32:Kept (fun k=>k < W5.heap.size∧k≠wr.heap.size+1) W5 W2:=g3.step ((Kept.of_below hE2:Kept (fun k=>k≠W5.heap.size+1) _ _).trans hk2) fun j hj _=>by omega
       have g52:Found (wr.heap.size+1) (W5.heap.size+2) (((List.range y).map fun v=>zau ks (visit X v)).map zam) O W2 :=
        (g5.kept (O':=O) (.of_below hE2) (S:=fun _=>True) trivial (fun _ _ _=>trivial) (fun _ h=>.inl h)).kept hk2 (by omega) (fun g h1 _=>by omega) (fun _ h=>.inl h)
       have hz2:=hk2.size;simp only [World.size_alloc] at hz2;have hlow2:Kept (fun k=>k < W5.heap.size∧k≠wr.heap.size+1) W5 W2:=g32;have hEw2:Ext w W2:=HNS5.out.tb.ext.trans (Kept.below (g32.mono fun k _ h=>⟨by omega,by omega⟩) (by omega));have HT2:=hid (show THd W2 (w.heap.size+1+1) ks from ⟨sa,cap,g32.cell HNS5.out.tb.c0 ⟨by simp only;omega,by simp only;omega⟩,HS.out.ext hEw2⟩);have hcp2:W2.cell? ⟨w.heap.size+1+1+1,0,none⟩=some (.pointer (some ⟨w.heap.size+1+1,0,none⟩)):=g32.cell HNS5.out.tb.cp ⟨by simp only;omega,by simp only;omega⟩;have cn:=fun W ht=>z3m ks z (w.heap.size+1+1) W V.out hzs ht
       rw [zcy] at cn;obtain ⟨nz,hnz⟩:∃ nz,nz=zau ks z:=⟨_,rfl⟩
       rw [← hnz] at cn;have CN:=hid cn;have HNZ:Hid (nz=zau ks (visit X y)):=hid (by rw [hnz,hz]);have c0z:=(hb2).c 0 (by omega);have c1z:=(hb2).c 1 (by omega);have c2z:=(hb2).c 2 (by omega);have c3z:=(hb2).c 3 (by omega);have c4z:=(hb2).c 4 (by omega);have cfz:=(hb2).free;have czz:=(hb2).lt;obtain ⟨ov,hov,hown,hno⟩:=g52;obtain ⟨oa,on,oc,rfl⟩:=hown.isSlice;have ho0:W2.cell? ⟨wr.heap.size+1,0,none⟩=some (.slice oa on oc):=by rw [cell_of_row _ _ _ _ _ _ hov];rfl
       have hzo:=(Array.getElem?_eq_some_iff.1 hov).1;obtain ⟨oa',oc',eo,hoc1,hoc2,hof⟩:=hown.form;simp only [Value.slice.injEq] at eo;obtain ⟨rfl,hon,rfl⟩:=eo;rw [← hon] at hoc1;have HON:=hid hon;have HLY:Hid ((((List.range y).map fun v=>zau ks (visit X v)).map zam).length + [[Value.int .i64 nz]].length≤1000000):=hid (by rw [List.length_map,List.length_map,List.length_range];show _+1≤_;omega);have HOV:=hid hov;have HOWN:=hid hown;have HO2:=hid hO2;have G3:=hid g32;clear g3 g5 hk2 hb2 cn hnz g32 hlow2 hz hE2 hov hown hno hon hO2 hEw2;gi_wp2_with fail
       rcases hof with ⟨h0,rfl,rfl⟩ | ⟨g,rfl,hg1,hg2,hrows,_⟩
       ·have h0':on=0:=by have:=HON.out;rw [h0] at this;simpa using this
        subst h0';have HH0:=hid h0;clear h0;refine zgf rfl rfl (by kernel_rfl) (W2.heap.size) (Nat.le_refl _)
         [sqV (.slice (none) 0 0),sqV (.slice (none) 0 0),sqV (.int .i64 (0:Nat)),sqV (.slice (none) 0 0),sqV (.int .i64 (0:Nat)),sqV (.slice (none) 0 0),sqV (.pointer (some ⟨w.heap.size+1+1,0,none⟩)),sqV (.agg #[.int .i64 (gt z 0),.int .i64 (gt z 1),.int .i64 (gt z 2),.int .i64 (gt z 3),.int .i64 (gt z 4)]),sqV (.int .i64 nz),sqW (fun v W=>∃ b,v = .slice (some ⟨b,0,none⟩) 1 1∧RowsAt W 1 b 0 ([[Value.int .i64 nz]])) (fun _ _ _ ⟨b,h1,h2⟩ e=>⟨b,h1,h2.ext e⟩),sqW (fun v W=>Owns W W2.heap.size 3 1 v (((List.range y).map fun v=>zau ks (visit X v)).map zam ++ [[Value.int .i64 nz]])) (fun _ _ _ h e=>h.ext e)]
         [true,true,true,true,true,true,true,true,true,false,false] [false,false,false,false,false,false,false,false,false,false,false] [true,true,true,true,true,true,true,true,true,true,true] [true,true,true,true,true,true,true,true,true,true,true]
         (by kernel_rfl) (by kernel_rfl) (by decide +kernel) (by decide +kernel) (by decide +kernel) rfl ⟨rfl,rfl⟩ ⟨?s0,?s1,?s2,?s3,?s4,?s5,?s6,?s7,?s8,?s9,?s10,trivial⟩ [some 75,some 76,some 77,some 78,some 79,some 80,some 81,some 82,some 83,some 84,some 85] rfl rfl ?send
        case s0 =>
         intro val ρ W hE hz hd hA hx;have o0:ρ (.tmp 9) = .pointer (some ⟨wr.heap.size+1,0,none⟩):=hA.old 9 (by decide);have f_ho0:=cell_below hE (by simp only;omega) ho0;clear hd;exact zh (W':=W) (by simp [execOp,o0,f_ho0,go_sem]) (Below.refl _ _) rfl
        case s1 =>
         intro val ρ W hE hz hd hA hx;have o0:ρ (.tmp 9) = .pointer (some ⟨wr.heap.size+1,0,none⟩):=hA.old 9 (by decide);have f_ho0:=cell_below hE (by simp only;omega) ho0;clear hd;exact zh (W':=W) (by simp [execOp,o0,f_ho0,go_sem]) (Below.refl _ _) rfl
        case s2 =>
         intro val ρ W hE hz hd hA hx;have d1:ρ (.tmp 76) = .slice (none) 0 0:=(hA.dep 1 (by decide) 76 rfl).trans (hd 1 (by decide));clear hd;exact zh (W':=W) (by simp [d1,go_sem]) (Below.refl _ _) rfl
        case s3 =>
         intro val ρ W hE hz hd hA hx;have o0:ρ (.tmp 9) = .pointer (some ⟨wr.heap.size+1,0,none⟩):=hA.old 9 (by decide);have f_ho0:=cell_below hE (by simp only;omega) ho0;clear hd;exact zh (W':=W) (by simp [execOp,o0,f_ho0,go_sem]) (Below.refl _ _) rfl
        case s4 =>
         intro val ρ W hE hz hd hA hx;have d3:ρ (.tmp 78) = .slice (none) 0 0:=(hA.dep 3 (by decide) 78 rfl).trans (hd 3 (by decide));clear hd;exact zh (W':=W) (by simp [d3,go_sem]) (Below.refl _ _) rfl
        case s5 =>
         intro val ρ W hE hz hd hA hx;have d0:ρ (.tmp 75) = .slice (none) 0 0:=(hA.dep 0 (by decide) 75 rfl).trans (hd 0 (by decide));have d2:ρ (.tmp 77) = .int .i64 (0:Nat):=(hA.dep 2 (by decide) 77 rfl).trans (hd 2 (by decide));have d4:ρ (.tmp 79) = .int .i64 (0:Nat):=(hA.dep 4 (by decide) 79 rfl).trans (hd 4 (by decide));clear hd;exact zh (W':=W) (by simp [execOp,d0,d2,d4,go_sem]) (Below.refl _ _) rfl
        case s6 =>
         intro val ρ W hE hz hd hA hx;have o0:ρ (.tmp 3) = .pointer (some ⟨w.heap.size+1+1+1,0,none⟩):=hA.old 3 (by decide);have f_hcp2:=cell_below hE (by simp only;omega) hcp2;clear hd;exact zh (W':=W) (by simp [execOp,o0,f_hcp2,go_sem]) (Below.refl _ _) rfl
        case s7 =>
         intro val ρ W hE hz hd hA hx;have o0:ρ (.tmp 13) = .pointer (some ⟨Wy.heap.size,0,none⟩):=hA.old 13 (by decide);have f_c0z:=cell_below hE (by simp only;omega) c0z;have f_c1z:=cell_below hE (by simp only;omega) c1z;have f_c2z:=cell_below hE (by simp only;omega) c2z;have f_c3z:=cell_below hE (by simp only;omega) c3z;have f_c4z:=cell_below hE (by simp only;omega) c4z;clear hd;exact zh (W':=W) (by simp [execOp,o0,f_c0z,f_c1z,f_c2z,f_c3z,f_c4z,go_sem]) (Below.refl _ _) rfl
        case s8 =>
         intro val ρ W hE hz hd hA hx;have d6:ρ (.tmp 81) = .pointer (some ⟨w.heap.size+1+1,0,none⟩):=(hA.dep 6 (by decide) 81 rfl).trans (hd 6 (by decide));have d7:ρ (.tmp 82) = .agg #[.int .i64 (gt z 0),.int .i64 (gt z 1),.int .i64 (gt z 2),.int .i64 (gt z 3),.int .i64 (gt z 4)]:=(hA.dep 7 (by decide) 82 rfl).trans (hd 7 (by decide));clear hd;refine zct 33 _ _ rfl #[.pointer (some ⟨w.heap.size+1+1,0,none⟩),.agg #[.int .i64 (gt z 0),.int .i64 (gt z 1),.int .i64 (gt z 2),.int .i64 (gt z 3),.int .i64 (gt z 4)]] (hA.func _) (by simp [d6,d7]) (fun args W=>Tryz.call33 args W) ((CN.out W (HT2.out.ext hE)).mono ?_);rintro e w' ⟨rfl,hb⟩;exact ⟨_,rfl,hb,rfl⟩
        case s9 =>
         intro val ρ W hE hz hd hA hx;have d8:ρ (.tmp 83) = .int .i64 nz:=(hA.dep 8 (by decide) 83 rfl).trans (hd 8 (by decide));clear hd hA;refine zh (by simp [execOp,d8,go_sem];exact ⟨rfl,rfl⟩) (by exact xx) ⟨_,rfl,ziz _ ([[Value.int .i64 nz]]) _ _ _ 1 rfl (by simp) (by simp)⟩
        case s10 =>
         intro val ρ W' hE hz hd hA hx;have d5:ρ (.tmp 80) = .slice (none) 0 0:=(hA.dep 5 (by decide) 80 rfl).trans (hd 5 (by decide));obtain ⟨b,e9,h9⟩:∃ b,val 9 = .slice (some ⟨b,0,none⟩) 1 1∧RowsAt W' 1 b 0 [[Value.int .i64 nz]]:=hd 9 (by decide);have d9:ρ (.tmp 84) = .slice (some ⟨b,0,none⟩) 1 1:=(hA.dep 9 (by decide) 84 rfl).trans e9;obtain ⟨v',w',hrun,h2,h3⟩:=zn6 zfz 22 (none) 0 0 HON.out (by simp [zam]) (.inl ⟨rfl,HH0.out,rfl⟩) b 0 1 [[Value.int .i64 nz]] (by simp) h9 (by simp [Value.oneCell']) (by simp) HLY.out;exact zem (.tmp 80) (.tmp 84) rfl rfl _ _ d5 d9 hrun h3 (h2.base hz)
        case send =>
         intro val W3 hE hzz hv;obtain ⟨-,-,-,-,-,-,-,-,-,-,h10,-⟩:=hv;replace h10:Owns W3 W2.heap.size 3 1 (val 10) (((List.range y).map fun v=>zau ks (visit X v)).map zam ++ [[Value.int .i64 nz]]):=h10;obtain ⟨va,vn,vc,e10⟩:=h10.isSlice;rw [e10] at h10;have hov3:=(hE.block _ hzo).trans HOV.out;have ho3:W3.cell? ⟨wr.heap.size+1,0,none⟩=some (.slice (none) 0 0):=by rw [cell_of_row _ _ _ _ _ _ hov3];rfl
         have hf3:W3.frozen? ⟨wr.heap.size+1,0,none⟩=false:=by simp [World.frozen?,hov3]
         have hz3:=hE.size;have HE3:=hid hE;have H10:=hid h10;have HOV3:=hid hov3;simp only [zbx,e10];go_frame;clear hE h10 e10 hov3 hzz c0z c1z c2z c3z c4z cfz czz hcp2 ho0;gi_wp2_with fail;have hkS:∀ (S:Nat→Prop),¬ S (wr.heap.size+1)→Kept S W2 (W3.setCell ⟨wr.heap.size+1,0,none⟩ (.slice va vn vc)):=fun S h2=>(Kept.of_below HE3.out).setCell (fun _=>h2) _
         refine ⟨hkS _ (fun h=>?_),g1,by simp [World.setCell];omega,G3.out.trans (hkS _ (fun h=>h.2 rfl)),.slice va vn vc,zp HOV3.out 0 _,?_,fun g hg ho=>?_⟩
         ·rcases h with h | h | h | h
          ·exact h.2 rfl
          ·have:=g1 _ h;omega
          ·omega
          ·omega
         ·rw [List.map_append,List.map_append]
          have e1:([y].map fun v=>zau ks (visit X v)).map zam=[[Value.int .i64 nz]]:=by rw [HNZ.out];rfl
          rw [e1];exact (H10.out.setOther HOV3.out (by decide) 0 _).base (by omega)
         ·have h1:=(H10.out.notOwn g hg).1
          have h2:=(HO2.out g ho).2;omega
       ·have HROWS:=hid hrows
        clear hrows;refine zgf rfl rfl (by kernel_rfl) (W2.heap.size) (Nat.le_refl _)
         [sqV (.slice (some ⟨g,0,none⟩) on oc),sqV (.slice (some ⟨g,0,none⟩) on oc),sqV (.int .i64 (on:Nat)),sqV (.slice (some ⟨g,0,none⟩) on oc),sqV (.int .i64 (on:Nat)),sqV (.slice (some ⟨g,0,none⟩) on on),sqV (.pointer (some ⟨w.heap.size+1+1,0,none⟩)),sqV (.agg #[.int .i64 (gt z 0),.int .i64 (gt z 1),.int .i64 (gt z 2),.int .i64 (gt z 3),.int .i64 (gt z 4)]),sqV (.int .i64 nz),sqW (fun v W=>∃ b,v = .slice (some ⟨b,0,none⟩) 1 1∧RowsAt W 1 b 0 ([[Value.int .i64 nz]])) (fun _ _ _ ⟨b,h1,h2⟩ e=>⟨b,h1,h2.ext e⟩),sqW (fun v W=>Owns W W2.heap.size 3 1 v (((List.range y).map fun v=>zau ks (visit X v)).map zam ++ [[Value.int .i64 nz]])) (fun _ _ _ h e=>h.ext e)]
         [true,true,true,true,true,true,true,true,true,false,false] [false,false,false,false,false,false,false,false,false,false,false] [true,true,true,true,true,true,true,true,true,true,true] [true,true,true,true,true,true,true,true,true,true,true]
         (by kernel_rfl) (by kernel_rfl) (by decide +kernel) (by decide +kernel) (by decide +kernel) rfl ⟨rfl,rfl⟩ ⟨?s0,?s1,?s2,?s3,?s4,?s5,?s6,?s7,?s8,?s9,?s10,trivial⟩ [some 75,some 76,some 77,some 78,some 79,some 80,some 81,some 82,some 83,some 84,some 85] rfl rfl ?send
        case s0 =>
         intro val ρ W hE hz hd hA hx;have o0:ρ (.tmp 9) = .pointer (some ⟨wr.heap.size+1,0,none⟩):=hA.old 9 (by decide);have f_ho0:=cell_below hE (by simp only;omega) ho0;clear hd;exact zh (W':=W) (by simp [execOp,o0,f_ho0,go_sem]) (Below.refl _ _) rfl
        case s1 =>
         intro val ρ W hE hz hd hA hx;have o0:ρ (.tmp 9) = .pointer (some ⟨wr.heap.size+1,0,none⟩):=hA.old 9 (by decide);have f_ho0:=cell_below hE (by simp only;omega) ho0;clear hd;exact zh (W':=W) (by simp [execOp,o0,f_ho0,go_sem]) (Below.refl _ _) rfl
        case s2 =>
         intro val ρ W hE hz hd hA hx;have d1:ρ (.tmp 76) = .slice (some ⟨g,0,none⟩) on oc:=(hA.dep 1 (by decide) 76 rfl).trans (hd 1 (by decide));clear hd;exact zh (W':=W) (by simp [d1,go_sem]) (Below.refl _ _) rfl
        case s3 =>
         intro val ρ W hE hz hd hA hx;have o0:ρ (.tmp 9) = .pointer (some ⟨wr.heap.size+1,0,none⟩):=hA.old 9 (by decide);have f_ho0:=cell_below hE (by simp only;omega) ho0;clear hd;exact zh (W':=W) (by simp [execOp,o0,f_ho0,go_sem]) (Below.refl _ _) rfl
        case s4 =>
         intro val ρ W hE hz hd hA hx;have d3:ρ (.tmp 78) = .slice (some ⟨g,0,none⟩) on oc:=(hA.dep 3 (by decide) 78 rfl).trans (hd 3 (by decide));clear hd;exact zh (W':=W) (by simp [d3,go_sem]) (Below.refl _ _) rfl
        case s5 =>
         intro val ρ W hE hz hd hA hx;have d0:ρ (.tmp 75) = .slice (some ⟨g,0,none⟩) on oc:=(hA.dep 0 (by decide) 75 rfl).trans (hd 0 (by decide));have d2:ρ (.tmp 77) = .int .i64 (on:Nat):=(hA.dep 2 (by decide) 77 rfl).trans (hd 2 (by decide));have d4:ρ (.tmp 79) = .int .i64 (on:Nat):=(hA.dep 4 (by decide) 79 rfl).trans (hd 4 (by decide));clear hd;exact zh (W':=W) (by simp [execOp,d0,d2,d4,hoc1,go_sem]) (Below.refl _ _) rfl
        case s6 =>
         intro val ρ W hE hz hd hA hx;have o0:ρ (.tmp 3) = .pointer (some ⟨w.heap.size+1+1+1,0,none⟩):=hA.old 3 (by decide);have f_hcp2:=cell_below hE (by simp only;omega) hcp2;clear hd;exact zh (W':=W) (by simp [execOp,o0,f_hcp2,go_sem]) (Below.refl _ _) rfl
        case s7 =>
         intro val ρ W hE hz hd hA hx;have o0:ρ (.tmp 13) = .pointer (some ⟨Wy.heap.size,0,none⟩):=hA.old 13 (by decide);have f_c0z:=cell_below hE (by simp only;omega) c0z;have f_c1z:=cell_below hE (by simp only;omega) c1z;have f_c2z:=cell_below hE (by simp only;omega) c2z;have f_c3z:=cell_below hE (by simp only;omega) c3z;have f_c4z:=cell_below hE (by simp only;omega) c4z;clear hd;exact zh (W':=W) (by simp [execOp,o0,f_c0z,f_c1z,f_c2z,f_c3z,f_c4z,go_sem]) (Below.refl _ _) rfl
        case s8 =>
         intro val ρ W hE hz hd hA hx;have d6:ρ (.tmp 81) = .pointer (some ⟨w.heap.size+1+1,0,none⟩):=(hA.dep 6 (by decide) 81 rfl).trans (hd 6 (by decide));have d7:ρ (.tmp 82) = .agg #[.int .i64 (gt z 0),.int .i64 (gt z 1),.int .i64 (gt z 2),.int .i64 (gt z 3),.int .i64 (gt z 4)]:=(hA.dep 7 (by decide) 82 rfl).trans (hd 7 (by decide));clear hd;refine zct 33 _ _ rfl #[.pointer (some ⟨w.heap.size+1+1,0,none⟩),.agg #[.int .i64 (gt z 0),.int .i64 (gt z 1),.int .i64 (gt z 2),.int .i64 (gt z 3),.int .i64 (gt z 4)]] (hA.func _) (by simp [d6,d7]) (fun args W=>Tryz.call33 args W) ((CN.out W (HT2.out.ext hE)).mono ?_);rintro e w' ⟨rfl,hb⟩;exact ⟨_,rfl,hb,rfl⟩
        case s9 =>
         intro val ρ W hE hz hd hA hx;have d8:ρ (.tmp 83) = .int .i64 nz:=(hA.dep 8 (by decide) 83 rfl).trans (hd 8 (by decide));clear hd hA;refine zh (by simp [execOp,d8,go_sem];exact ⟨rfl,rfl⟩) (by exact xx) ⟨_,rfl,ziz _ ([[Value.int .i64 nz]]) _ _ _ 1 rfl (by simp) (by simp)⟩
        case s10 =>
         intro val ρ W' hE hz hd hA hx;have d5:ρ (.tmp 80) = .slice (some ⟨g,0,none⟩) on on:=(hA.dep 5 (by decide) 80 rfl).trans (hd 5 (by decide));obtain ⟨b,e9,h9⟩:∃ b,val 9 = .slice (some ⟨b,0,none⟩) 1 1∧RowsAt W' 1 b 0 [[Value.int .i64 nz]]:=hd 9 (by decide);have d9:ρ (.tmp 84) = .slice (some ⟨b,0,none⟩) 1 1:=(hA.dep 9 (by decide) 84 rfl).trans e9;obtain ⟨v',w',hrun,h2,h3⟩:=zn6 zfz 22 (some ⟨g,0,none⟩) on on HON.out (by simp [zam]) (.inr ⟨g,0,rfl,HROWS.out.ext hE⟩) b 0 1 [[Value.int .i64 nz]] (by simp) h9 (by simp [Value.oneCell']) (by simp) HLY.out;exact zem (.tmp 80) (.tmp 84) rfl rfl _ _ d5 d9 hrun h3 (h2.base hz)
        case send =>
         intro val W3 hE hzz hv;obtain ⟨-,-,-,-,-,-,-,-,-,-,h10,-⟩:=hv;replace h10:Owns W3 W2.heap.size 3 1 (val 10) (((List.range y).map fun v=>zau ks (visit X v)).map zam ++ [[Value.int .i64 nz]]):=h10;obtain ⟨va,vn,vc,e10⟩:=h10.isSlice;rw [e10] at h10;have hov3:=(hE.block _ hzo).trans HOV.out;have ho3:W3.cell? ⟨wr.heap.size+1,0,none⟩=some (.slice (some ⟨g,0,none⟩) on oc):=by rw [cell_of_row _ _ _ _ _ _ hov3];rfl
         have hf3:W3.frozen? ⟨wr.heap.size+1,0,none⟩=false:=by simp [World.frozen?,hov3]
         have hz3:=hE.size;have HE3:=hid hE;have H10:=hid h10;have HOV3:=hid hov3;simp only [zbx,e10];go_frame;clear hE h10 e10 hov3 hzz c0z c1z c2z c3z c4z cfz czz hcp2 ho0;gi_wp2_with fail;have hkS:∀ (S:Nat→Prop),¬ S (wr.heap.size+1)→Kept S W2 (W3.setCell ⟨wr.heap.size+1,0,none⟩ (.slice va vn vc)):=fun S h2=>(Kept.of_below HE3.out).setCell (fun _=>h2) _
         refine ⟨hkS _ (fun h=>?_),g1,by simp [World.setCell];omega,G3.out.trans (hkS _ (fun h=>h.2 rfl)),.slice va vn vc,zp HOV3.out 0 _,?_,fun g hg ho=>?_⟩
         ·rcases h with h | h | h | h
          ·exact h.2 rfl
          ·have:=g1 _ h;omega
          ·omega
          ·omega
         ·rw [List.map_append,List.map_append]
          have e1:([y].map fun v=>zau ks (visit X v)).map zam=[[Value.int .i64 nz]]:=by rw [HNZ.out];rfl
          rw [e1];exact (H10.out.setOther HOV3.out (by decide) 0 _).base (by omega)
         ·have h1:=(H10.out.notOwn g hg).1
          have h2:=(HO2.out g ho).2;omega
      case done =>
       rintro D O xs Wd hD rfl ⟨g1,g2,g3,g5⟩ hDk;obtain ⟨tv,htv,htown,-⟩:=g5;obtain ⟨ta,tn,tc,rfl⟩:=htown.isSlice;have hEd:Ext wr Wd:=HEW.out.trans (Kept.below (g3.mono fun k _ h=>⟨by omega,by omega⟩) (by omega));have hnd:=HNS.out.ext hEd;have hndd:∀ d∈ds,d.target≠.collected D:=fun d hd e=>by
        have:=(Array.getElem?_eq_some_iff.1 (HNS.out.mks.lt d hd D e).2).1;omega
       have hn1r:=HNS.out.n1;have HNZ:Hid (NSt w ks (.slice sa ks.length cap) (.slice (some ⟨sb,0,none⟩) k fc) (.slice ra rn rc) k N1 (.slice fa fn fc') tos ({ target:=.collected D,args:=#[] } :: ds) Wd) :=
        hid { hnd with mks:=hnd.mks.add (by omega) hDk hndd }
       have HTZ:=hid htv;have HTV:Hid (Owns Wd N1 3 1 (.slice ta tn tc) ((nxN ks j).map zam)):=hid (by
        rw [HNX.out,HF.out,if_neg (by simp),← HX.out];exact htown.base (by omega))
       clear g3 htv htown hEd hnd hndd hDk;gi_wp2_with fail;have hcp:=HNZ.out.tb.cp;have hcf:=HNZ.out.tb.c2;have hltr:=HNZ.out.tb.lt;have hn14:=HN14.out;have hn1z:=HNZ.out.n1;have HNV:=hid HNZ.out.nv;have hton:Wd.cell? ⟨wr.heap.size+1,0,none⟩=some (.slice ta tn tc):=by rw [cell_of_row _ _ _ _ _ _ HTZ.out];rfl
       have HLEN:Hid ((tos.map fun v=>[v]).length+1≤1000000):=hid (by rw [List.length_map,HTL.out];omega);refine wpIn_wide.2 ?_
       refine zb8 rfl rfl (by kernel_rfl) (w.heap.size+4) (by omega)
        [sqV (.pointer (some ⟨w.heap.size+1+1,0,none⟩)),sqV (.pointer (some ⟨w.heap.size+1+1,0,none⟩)),sqV (.pointer (some ⟨w.heap.size+1+1,0,none⟩)),sqV (.pointer (some ⟨w.heap.size+1+1,2,none⟩)),sqV (Value.slice fa fn fc'),sqV (.slice ta tn tc),sqW (fun v W=>∃ b,v = .slice (some ⟨b,0,none⟩) 1 1∧RowsAt W 1 b 0 ([[Value.slice ta tn tc]])) (fun _ _ _ ⟨b,h1,h2⟩ e=>⟨b,h1,h2.ext e⟩),sqW (fun v W=>Owns W (N1) 22 1 v (tos.map (fun v=>[v]) ++ [[Value.slice ta tn tc]])∧Kept (fun k=>some k≠(Value.slice fa fn fc').ownBlock) Wd W∧∀ g,v.ownBlock=some g→(Value.slice fa fn fc').ownBlock=some g∨Wd.heap.size≤g) (fun _ _ _ ⟨h1,h2,h3⟩ e=>⟨h1.ext e,h2.trans (.of_below e),h3⟩),sqV (.pointer (some ⟨w.heap.size+1+1,0,none⟩)),sqV (.pointer (some ⟨w.heap.size+1+1,2,none⟩))]
        [true,true,true,true,true,true,false,false,true,true] [false,false,false,false,false,false,false,true,false,false] [true,true,true,true,true,true,false,true,true,true] [false,true,true,true,true,true,true,true,false,false]
        (by kernel_rfl) (by kernel_rfl) (by decide +kernel) (by decide +kernel) (by decide +kernel) rfl ⟨rfl,rfl⟩ ⟨?s0,?s1,?s2,?s3,?s4,?s5,?s6,?s7,?s8,?s9,trivial⟩ [some 86,some 87,some 88,some 89,some 90,some 91,some 92,some 93,some 94,some 95] rfl rfl ?send
       case s0 =>
        intro val ρ W hE hz hd hA hx;have o0:ρ (.tmp 3) = .pointer (some ⟨w.heap.size+1+1+1,0,none⟩):=hA.old 3 (by decide);have f_hcp:=cell_below hE (by simp only;omega) hcp;clear hd;exact zh (W':=W) (by simp [execOp,o0,f_hcp,go_sem]) (Below.refl _ _) rfl
       case s1 =>
        intro val ρ W hE hz hd hA hx;have o0:ρ (.tmp 3) = .pointer (some ⟨w.heap.size+1+1+1,0,none⟩):=hA.old 3 (by decide);have f_hcp:=cell_below hE (by simp only;omega) hcp;clear hd;exact zh (W':=W) (by simp [execOp,o0,f_hcp,go_sem]) (Below.refl _ _) rfl
       case s2 =>
        intro val ρ W hE hz hd hA hx;have d1:ρ (.tmp 87) = .pointer (some ⟨w.heap.size+1+1,0,none⟩):=(hA.dep 1 (by decide) 87 rfl).trans (hd 1 (by decide));clear hd;exact zh (W':=W) (by simp [execOp,d1,go_sem]) (Below.refl _ _) rfl
       case s3 =>
        intro val ρ W hE hz hd hA hx;have d2:ρ (.tmp 88) = .pointer (some ⟨w.heap.size+1+1,0,none⟩):=(hA.dep 2 (by decide) 88 rfl).trans (hd 2 (by decide));clear hd;exact zh (W':=W) (by simp [execOp,d2,go_sem]) (Below.refl _ _) rfl
       case s4 =>
        intro val ρ W hE hz hd hA hx;have d3:ρ (.tmp 89) = .pointer (some ⟨w.heap.size+1+1,2,none⟩):=(hA.dep 3 (by decide) 89 rfl).trans (hd 3 (by decide));have f_hcf:=cell_below hE (by simp only;omega) hcf;clear hd;exact zh (W':=W) (by simp [execOp,d3,f_hcf,go_sem]) (Below.refl _ _) rfl
       case s5 =>
        intro val ρ W hE hz hd hA hx;have o0:ρ (.tmp 9) = .pointer (some ⟨wr.heap.size+1,0,none⟩):=hA.old 9 (by decide);have f_hton:=zj (hx (by decide)) hton;clear hd;exact zh (W':=W) (by simp [execOp,o0,f_hton,go_sem]) (Below.refl _ _) rfl
       case s6 =>
        intro val ρ W hE hz hd hA hx;have d5:ρ (.tmp 91) = .slice ta tn tc:=(hA.dep 5 (by decide) 91 rfl).trans (hd 5 (by decide));clear hd hA;refine zh (by simp [execOp,d5,go_sem];exact ⟨rfl,rfl⟩) (by exact xx) ⟨_,rfl,ziz _ ([[Value.slice ta tn tc]]) _ _ _ 1 rfl (by simp) (by simp)⟩
       case s8 =>
        intro val ρ W hE hz hd hA hx;have d0:ρ (.tmp 86) = .pointer (some ⟨w.heap.size+1+1,0,none⟩):=(hA.dep 0 (by decide) 86 rfl).trans (hd 0 (by decide));clear hd;exact zh (W':=W) (by simp [execOp,d0,go_sem]) (Below.refl _ _) rfl
       case s9 =>
        intro val ρ W hE hz hd hA hx;have d8:ρ (.tmp 94) = .pointer (some ⟨w.heap.size+1+1,0,none⟩):=(hA.dep 8 (by decide) 94 rfl).trans (hd 8 (by decide));clear hd;exact zh (W':=W) (by simp [execOp,d8,go_sem]) (Below.refl _ _) rfl
       case s7 =>
        intro val ρ W hE hz hd hA hx;have hW:=hx (by decide);have d4:ρ (.tmp 90)=Value.slice fa fn fc':=(hA.dep 4 (by decide) 90 rfl).trans (hd 4 (by decide));obtain ⟨b,e6,h6⟩:∃ b,val 6 = .slice (some ⟨b,0,none⟩) 1 1∧RowsAt W 1 b 0 [[Value.slice ta tn tc]]:=hd 6 (by decide);have d6:ρ (.tmp 92) = .slice (some ⟨b,0,none⟩) 1 1:=(hA.dep 6 (by decide) 92 rfl).trans e6;have ho:=HNV.out.ext hW;obtain ⟨v',w',hrun,h2,h3,h4⟩:=zhw elSl 75 (N1) ho b 0 1 [[Value.slice ta tn tc]] (by simp) h6 (by simp [Value.oneCell']) (HLEN.out) (by omega);exact zem (.tmp 90) (.tmp 92) rfl rfl _ _ d4 d6 hrun ((ho.keptBelow (by omega) h3).mono (by omega)) ⟨h2,(Kept.of_below hW).trans h3,fun g hg=>(h4 g hg).imp id fun h=>Nat.le_trans hW.size h⟩
       case send =>
        intro val WW hE hzz hv;obtain ⟨-,-,-,-,-,-,-,⟨h7,k7,o7⟩,-,r9,-⟩:=hv;have q9:val 9 = .pointer (some ⟨w.heap.size+1+1,2,none⟩):=r9;obtain ⟨va,vn,vc,e7⟩:=h7.isSlice;rw [e7] at h7 o7;have hmore:=HNZ.out.more HN14.out (by rw [HTL.out];exact HTV.out) h7 k7;have htbk:=HNZ.out.tb.kept (k7.mono fun k _ hk e=>by have:=(HNV.out.notOwn k e.symm).1;have:=HN14.out;omega);have hd1:=htbk.c2;have hf1:=htbk.fr 2;have hz5:=World.block_lt_of_cell? _ _ hd1;simp only at hz5;have HMORE:=hid hmore;simp only [zbx,e7,q9];go_frame;clear r9 e7 q9 hmore htbk h7 k7 o7 hE hzz hcp hcf hton HNV;go_wp2_with fail;gi_wp2_with fail;go_roundw
        case rel =>
         (repeat apply Exists.intro)
         refine ⟨?_,rfl⟩;exact ⟨j+1,_,tos ++ [.slice ta tn tc],by omega,by go_num,by simp [HTL.out],HMORE.out⟩
        case measure=>simp [intOf];omega
    ·obtain rfl:j=k:=by omega
     have hkN:=HNN.out;subst hkN;obtain ⟨rb,hrb⟩:∃ rb,ra=some ⟨rb,0,none⟩:=by
      obtain ⟨_,_,e,_,_,hf⟩:=hns.orr.form;simp only [Value.slice.injEq] at e
      rcases hf with ⟨h0,_⟩ | ⟨g,h0,_⟩
      ·have:=congrArg List.length h0;simp at this;omega
      ·exact ⟨g,e.1.trans h0⟩
     subst hrb;have hrbN:rb < N1:=HRB.out rb rfl;have hrbB:=(hns.orr.notOwn rb rfl).1;have hsbN:=HSB.out;have hn14:=HN14.out;obtain ⟨_,_,e,hrc1,hrc2,_⟩:=hns.orr.form;simp only [Value.slice.injEq] at e;obtain ⟨-,hrn,e3⟩:=e;rw [List.length_map,List.length_range] at hrn hrc1;rw [← e3] at hrc1 hrc2;subst hrn;have hrowB:=hns.rowB;have hnx:=hns.nx htl hN.1 (S:=fun b=>((b≠rb∧b≠w.heap.size+1)∧∀ d∈ds,d.target≠.collected b)∧(w.heap.size≤b∨(Value.slice sa ks.length cap).ownBlock=some b))
      ⟨⟨⟨by omega,by omega⟩,fun d hd e=>by have:=(hns.mks.lt d hd _ e).1;omega⟩,.inl (by omega)⟩ (fun g hg hne=>⟨⟨⟨by omega,by omega⟩,fun d hd e=>hne _ (hns.mks.lt d hd g e).2⟩,.inl (by omega)⟩)
     have hdm:=doom_any ks (w.heap.size+1+1) (w.heap.size+1) rb rc wr V.out (by
      obtain ⟨b,off,cap,h1,h2,h3,hb,hp,h4⟩:=hnx;exact ⟨b,off,cap,h1,h2,h3,hb.1.1,hp.1.1,fun i hi=>by obtain ⟨sa,cp,a,c,d⟩:=h4 i hi;exact ⟨sa,cp,a,c,fun g hg=>(d g hg).1.1⟩⟩) hns.tb.c3 hrc1 hrc2 hns.tb.c4 hrowB (by rw [← zacb V.out];exact hns.mp)
     have hcpw:=hns.tb.cp;have hzp:=World.block_lt_of_cell? _ _ hcpw;simp only at hzp;have HNSx:=hid hns;have HNXT:=hid hnx;have HDM:=hid hdm;clear hns hnx hdm hrowB htl HT HOS HOR HM HSC;gi_wp2_with fail;refine ⟨trivial,(callsIn_wide.2 HDM.out).mono ?_⟩;rintro e W' ⟨r,rfl,hk,hrow,hmap⟩;have hcpw':=hk.cell hcpw ⟨by simp only;omega,by simp only;omega⟩;have HK:=hid hk;have HROW:=hid hrow;have HMAP:=hid hmap;clear hk hrow hmap HDM;gi_wp2_with fail;have hmk:=HNSx.out.mks.kept HK.out (fun D hD hd=>⟨fun e=>by subst e;omega,fun e=>by omega⟩);refine zpp (B:=N1) ds W' hmk fun W'' hk2=>?_
     have hlow:∀ j,j < N1→∀ d∈ds,d.target≠.collected j:=fun j hj d hd e=>by have:=(hmk.lt d hd j e).1;omega
     have hTBk:∀ {v:Value} {o:Nat},wr.cell? ⟨w.heap.size+1+1,o,none⟩=some v→W''.cell? ⟨w.heap.size+1+1,o,none⟩=some v:=fun {v o} h =>
      Kept.cell hk2 (HK.out.cell h ⟨by simp only;omega,by simp only;omega⟩) (hlow _ (by simp only;omega))
     have hw0:=HNSx.out.tb.ext.size;have hExt:Ext w W'':=(HNSx.out.tb.ext.trans (Kept.below (HK.out.mono fun k _ h=>(⟨by omega,by omega⟩:k≠rb∧k≠w.heap.size+1)) hw0)).trans (Kept.below (hk2.mono fun k _ h=>hlow k (by omega)) (by have:=HK.out.size;omega));refine ⟨_,results_tmp rfl _ _ _,rfl,?_,?_⟩
     ·exact hExt
     ·have hgr:∀ g cur,wr.heap[g]? = some (.cells cur 69 (0,0))→g≠rb:=fun g cur hc e=>by
       obtain ⟨cur',h1,_⟩:=HNSx.out.rowB;subst e;rw [h1] at hc;cases hc
      have hos:=(HNSx.out.os.keptAt HK.out fun g cur hb hg hc=>⟨hgr g cur hc,by omega⟩).keptAt hk2 fun g cur hb hg _=>hlow g (by cases hg;exact hsbN)
      have hst:=hos.tst (hTBk HNSx.out.tb.c1);have hrw:=(HROW.out.of_heap (hk2.same _ HROW.out.lt (hlow _ hrbN))).rw (hTBk HNSx.out.tb.c3) hrc1 hrc2;have hnx:=(HNXT.out.kept (HK.out.mono fun k _ h=>h.1.1)).kept (hk2.mono fun k _ h=>h.1.2);refine ⟨.inl (by omega),⟨sa,cap,hTBk HNSx.out.tb.c0,HS.out.ext hExt,fun g hg=>.inr hg⟩,?_,hnx.mono fun k h=>h.2,?_,⟨w.heap.size+1,hTBk HNSx.out.tb.c4,.inl (by omega),HMAP.out.of_heap (hk2.same _ HMAP.out.lt (hlow _ (by omega)))⟩⟩
      ·obtain ⟨b,off,c,b1,b2,b3,b5⟩:=hst
       have e:=hTBk HNSx.out.tb.c1;rw [b1] at e;cases e;exact ⟨_,_,_,b1,b2,b3,.inl (by omega),b5⟩
      ·obtain ⟨b,off,c,b1,b2,b3,b5⟩:=hrw
       have e:=hTBk HNSx.out.tb.c3;rw [b1] at e;cases e;exact ⟨_,_,_,b1,b2,b3,.inl (by omega),b5⟩
theorem zpf (ks:List Int) (kv:Value) (w:World) (v:TVal ks) (hv:IsInts w .i64 kv ks) :
  Calls Tryz.prog 26 #[.agg #[kv]] w fun e W=>∃ p,e = .returned (.pointer (some ⟨p,0,none⟩))∧Ext w W∧zsw (fun k=>w.heap.size≤k∨kv.ownBlock=some k) W p ks :=
 (callsIn_wide.1 (z2s ks kv w v hv)).mono fun _ _ ⟨h1,h2,h3⟩=>⟨_,h1,h2,h3⟩
theorem z0j (ks:List Int) (kv:Value) (w:World) (v:TVal ks) (hv:IsInts w .i64 kv ks) :
  Calls Tryz.prog 26 #[.agg #[kv]] w fun e W=>∃ p,e = .returned (.pointer (some ⟨p,0,none⟩))∧Ext w W∧Tab W p ks :=
 (zpf ks kv w v hv).mono fun _ _ ⟨p,h1,h2,h3⟩=>⟨p,h1,h2,h3.tab⟩
end Go.Proofs.YtnfdiohfojjnlaaGreat.Tu
