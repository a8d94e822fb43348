/-
  The statement CutProved holds: the sum of a way from one place to another one that is behind it is at least the Hi of the span of the windows between, that of a way back, with the sign changed, at most its Lo; those of the ways that are returned are just these; for every hall, any two numbers and any steps that are handed in. No condition.
-/
import Derived.Test.YtnoffnkmibjndaaGreatCa
import Derived.Test.YtnoffnkmibjndaaGreatCb
import Derived.Test.YtnoffnkmibjndaaGreatBa
import Derived.Test.YtnoffnkmibjndaaGreatBb
import Derived.ChangeKeysEq
import Derived.Laws.StructEq
set_option maxRecDepth 200000
set_option maxHeartbeats 0
namespace Go.Proofs.YtnoffnkmibjndaaGreat.Cu
open Go.Lib (hid)
open Go.RowKit Go.Shelf
theorem spanE_agr {h:Hall} (v:Valid h) {a b:Nat} (ha:a≤b) (hb:(b:Int) < h.n):spanE h a b=if (leastM h 0).2 then 0 else 5:=by
 unfold spanE;rw [if_neg (fun hh=>hh (chk_of_valid v)),if_neg (by omega),Int.toNat_natCast,zabb v (by omega)]
theorem spanLo_agr {h:Hall} (v:Valid h) (g:(leastM h 0).2=true) {a b:Nat} (ha:a≤b) (hb:(b:Int) < h.n):spanLo h a b = -ds h (b+1) a:=by
 unfold spanLo;rw [if_pos (by rw [spanE_agr v ha hb,if_pos g]),Int.toNat_natCast,Int.toNat_natCast];rfl
theorem spanHi_agr {h:Hall} (v:Valid h) (g:(leastM h 0).2=true) {a b:Nat} (ha:a≤b) (hb:(b:Int) < h.n):spanHi h a b=ds h a (b+1):=by
 unfold spanHi;rw [if_pos (by rw [spanE_agr v ha hb,if_pos g]),Int.toNat_natCast,Int.toNat_natCast];rfl
end Go.Proofs.YtnoffnkmibjndaaGreat.Cu
namespace Go.Proofs.YtnoffnkmibjndaaGreat.Cu
open Go.Lib (hid)
open Go.RowKit Go.Shelf
attribute [local go_sem] Oper.semAt_some
structure Sh (w:World) (h:Hall) (sv:Value) (W:World):Prop where
 ext:Below w.heap.size w W
 lt:w.heap.size+4≤W.heap.size
 a0:W.cell? ⟨w.heap.size,0,none⟩=some (.int .i64 h.n)
 c0:W.cell? ⟨w.heap.size+1+1,0,none⟩=some (.int .i64 h.n)
 c1:W.cell? ⟨w.heap.size+1+1,1,none⟩=some (.int .i64 h.most)
 c2:W.cell? ⟨w.heap.size+1+1,2,none⟩=some sv
 c3:W.cell? ⟨w.heap.size+1+1,3,none⟩=some (.map (some (w.heap.size+1)))
 p:W.cell? ⟨w.heap.size+1+1+1,0,none⟩=some (.pointer (some ⟨w.heap.size+1+1,0,none⟩))
theorem Sh.kept {w:World} {h:Hall} {sv:Value} {W W':World} (s:Sh w h sv W) (k:Kept (fun j=>j≠w.heap.size+1∧j < w.heap.size+4) W W'):Sh w h sv W' :=
 ⟨s.ext.trans ⟨k.os,k.tape,k.output,k.size,fun j hj=>k.same j (by have:=s.ext.size;omega) (by omega)⟩,Nat.le_trans s.lt k.size,k.cell s.a0 (by simp),k.cell s.c0 (by simp<;>omega),k.cell s.c1 (by simp<;>omega),k.cell s.c2 (by simp<;>omega),k.cell s.c3 (by simp<;>omega),k.cell s.p (by simp<;>omega)⟩
theorem Sh.ext' {w:World} {h:Hall} {sv:Value} {W W':World} (s:Sh w h sv W) (k:Ext W W'):Sh w h sv W':=s.kept (.of_below k)
theorem Sh.grown {w:World} {h:Hall} {sv:Value} {W W':World} (s:Sh w h sv W) (k:W.grownBy W' (some (w.heap.size+1))):Sh w h sv W' :=
 s.kept ((Kept.refl _ W).grown k (fun j e _ hh=>by cases e;exact hh.1 rfl))
def laid (h:Hall) (p q:Nat) (k:Int × Int):Option (Stp × Int) :=
 if 0≤k.1∧0≤k.2∧k.2≤h.n∧(k.1 < p∨(k.1=p∧k.2 < q)) then some (⟨false,0,false⟩,zaw) else none
theorem z8z {h:Hall} {p q:Nat} (hq:(q:Int)≤h.n):(fun k=>if k=((p:Int),(q:Int)) then some ((⟨false,0,false⟩:Stp),zaw) else laid h p q k)=laid h p (q+1):=by
 funext k
 obtain ⟨k1,k2⟩:=k;unfold laid;simp only [Prod.mk.injEq]
 by_cases h1:k1=p∧k2=q
 ·rw [if_pos h1,if_pos (by omega)]
 ·rw [if_neg h1]
  by_cases h2:0≤k1∧0≤k2∧k2≤h.n∧(k1 < p∨k1=p∧k2 < q)
  ·rw [if_pos h2,if_pos (by omega)]
  ·rw [if_neg h2,if_neg (by omega)]
theorem zabg {h:Hall} {p q:Nat} (hq:(q:Int)=h.n+1):laid h p q=laid h (p+1) 0:=by
 funext k
 obtain ⟨k1,k2⟩:=k;unfold laid;simp only
 by_cases h2:0≤k1∧0≤k2∧k2≤h.n∧(k1 < p∨k1=p∧k2 < q)
 ·rw [if_pos h2,if_pos (by omega)]
 ·rw [if_neg h2,if_neg (by omega)]
theorem zabh {h:Hall} {p:Nat} (hp:(p:Int)=h.n+1):laid h p 0=zhi h:=by
 funext k
 obtain ⟨k1,k2⟩:=k;unfold laid zhi;simp only
 by_cases h2:0≤k1∧0≤k2∧k2≤h.n∧(k1 < p∨k1=p∧k2 < (0:Nat))
 ·rw [if_pos h2,if_pos (by omega)]
 ·rw [if_neg h2,if_neg (by omega)]
theorem z80 (h:Hall):laid h 0 0=fun _=>none:=by
 funext k
 unfold laid;rw [if_neg (by omega)]
theorem z3v (h:Hall) (sv:Value) (v:Valid h) (w:World) (hs:IsCnts w sv h.cs) :
  CallsIn Fence.wide 9 Tryz.prog 47 #[.agg #[.int .i64 h.n,.int .i64 h.most,sv]] w fun e w'=>e = .returned (.pointer (some ⟨w.heap.size+1+1,0,none⟩))∧Sh w h sv w'∧za0 kv av w' (w.heap.size+1) (za3 h):=by
 have hmm:=@run_makeMap Tryz.prog;have n1:=v.n1;have n10:=v.n10;obtain ⟨sa,cap,rfl,hl1,hl2,h3⟩:=hs.spec;have HS:=hid hs;have V:=hid v;clear hs v;refine callsIn_of_wp_marks Tryz.func47 rfl trivial ?_ rfl;simp only [Tryz.ntmps47,List.size_toArray,List.length_cons,List.length_nil,Nat.reduceAdd,Nat.reduceSub,Array.replicate_succ,Array.replicate_zero,List.push_toArray,List.append_toArray,List.nil_append,List.cons_append]
 gi_wp2
 gi_loopw [20] (fun i W=>∃ p:Nat,(p:Int)≤h.n+1∧i = .int .i64 p∧Sh w h (.slice sa h.cs.length cap) W∧za0 kv av W (w.heap.size+1) (laid h p 0)) (fun i _=>(h.n+1 - intOf i).toNat)
 case atStart =>
  refine ⟨0,by omega,rfl,⟨?_,?_,?_,?_,?_,?_,?_,?_⟩,?_⟩
  ·exact xx
  ·simp
  ·simp [go_sem]
  ·simp [go_sem]
  ·simp [go_sem]
  ·simp [go_sem]
  ·simp [go_sem]
  ·simp [go_sem]
  ·rw [z80]
   have hm:=zqj (ke:=kv) (ve:=av) (w.alloc (.cells #[.int .i64 h.n,.int .i64 h.most,.slice sa h.cs.length cap] 24));rw [World.size_alloc] at hm;exact hm.ext xx
 case round =>
  obtain ⟨p,hp,rfl,hsh,hm⟩:=hrel;have HM:=hid hm;have HSh:=hid hsh;obtain ⟨_,hlt4,a0,c0,c1,c2,c3,hpt⟩:=hsh;clear hm
  by_cases hlt:(p:Int) < h.n+1
  ·gi_wp2
   obtain ⟨w1,rfl⟩:∃ w1:World,w1=wr:=⟨_,rfl⟩
   gi_loopw [26] (fun i W=>∃ q:Nat,(q:Int)≤h.n+1∧i = .int .i64 q∧Sh w h (.slice sa h.cs.length cap) W∧za0 kv av W (w.heap.size+1) (laid h p q)) (fun i _=>(h.n+1 - intOf i).toNat)
   case atStart=>exact ⟨0,by omega,rfl,HSh.out,HM.out⟩
   case round =>
    obtain ⟨q,hq,rfl,hsh,hm⟩:=hrel;clear hlt4 a0 c0 c1 c2 c3 hpt HM HSh;have HSh:=hid hsh;obtain ⟨_,hlt4,a0,c0,c1,c2,c3,hpt⟩:=hsh
    by_cases hltq:(q:Int) < h.n+1
    ·obtain ⟨W',hup,hg,_,hm'⟩:=hm.upd zem ((p:Int),(q:Int)) (⟨false,0,false⟩,zaw)
     rw [z8z (by omega)] at hm';simp only [kv,av,zaw] at hup;have HM:=hid hm';have HS':=hid (HSh.out.grown hg);clear hm hm' hg
     gi_wp2
     go_roundw
     case rel=>exact ⟨q+1,by omega,by go_num,HS'.out,HM.out⟩
     case measure=>simp [intOf];omega
    ·have e:(q:Int)=h.n+1:=by omega
     rw [zabg e] at hm;have HM:=hid hm;have HE:=hid e;clear hm e
     gi_wp2
     go_roundw
     case rel=>exact ⟨p+1,by omega,by go_num,HSh.out,HM.out⟩
     case measure=>simp [intOf];omega
  ·have e:(p:Int)=h.n+1:=by omega
   have hm:=HM.out;rw [zabh e] at hm;have HM2:=hid hm;clear hm e HM;gi_wp2_with fail;refine ⟨trivial,(callsIn_wide.2 (z8x _ _)).mono ?_⟩;rintro e W5 ⟨rfl,hW5⟩;have hb5:W5.cell? ⟨wr.heap.size,0,none⟩=some (.pointer (some ⟨w.heap.size+1+1,0,none⟩)):=by rw [hW5];simp [go_sem]
   have hE5:Ext wr W5:=by rw [hW5];exact Ext.al (Below.refl _ _) _
   have hs5:W5.heap.size=wr.heap.size+1:=by rw [hW5];simp
   have HM5:=hid (HM2.out.ext hE5);have HSh5:=hid (HSh.out.ext' hE5);have HX5:=hid (HS.out.ext (Ext.trans' HSh.out.ext hE5));clear hW5 HM2 HSh hE5 hlt4 a0 c0 c1 c2 c3 hpt;gi_wp2_with fail
   go_outline
   have HB:Hid (h.cs=[]∨∀ g,(Value.slice sa h.cs.length cap).ownBlock=some g→g < W5.heap.size∧g≠w.heap.size+1):=by
    refine hid ?_
    rcases h3 with e | ⟨b,off,rfl,hc⟩
    ·exact .inl e
    ·by_cases e:h.cs=[]
     ·exact .inl e
     ·right
      intro g hg;have hl:0 < h.cs.length:=List.length_pos_iff.2 e;have:=World.block_lt_of_cell? _ _ (hc 0 hl).1;have:=HSh5.out.ext.size;have:=HSh5.out.lt;simp [Value.ownBlock] at hg;simp at *;omega
   refine zla (n:=9) (R:=fun k=>k < W5.heap.size∧k≠w.heap.size+1) rfl (enters_of Tryz.func146 (by kernel_rfl) rfl)
    (steps_iter h (.slice sa h.cs.length cap) V.out (fun k=>k < W5.heap.size∧k≠w.heap.size+1) wr.heap.size (w.heap.size+1+1) W5 (fun k hk=>hk.1) ⟨by omega,by have:=HSh5.out.lt;omega⟩ hb5
     ⟨HSh5.out.c0,HSh5.out.c1,HSh5.out.c2,HX5.out,⟨by have:=HSh5.out.lt;omega,by omega⟩,?_⟩) (Below.refl _ _) (fun k hk=>hk.1) (fun _=>rfl)
    (fun O pre W=>(∀ k,O k→W5.heap.size≤k)∧W5.heap.size≤W.heap.size∧(Sh w h (.slice sa h.cs.length cap) W∧IsCnts W (.slice sa h.cs.length cap) h.cs∧za0 kv av W (w.heap.size+1) (zcj h pre)))
    (fun _ _ _ _=>False) ?bears (fun _ _ _ _ _ _ h _ _ _=>h) ⟨fun _ h=>h.elim,Nat.le_refl _,HSh5.out,HX5.out,HM5.out⟩ ?round ?done (fun _ _ _ _ _ _ _ h _=>h.elim)
   ·exact HB.out
   case bears =>
    intro pre;refine z7x fun A A' hg hb=>?_
    obtain ⟨g1,g2,g3⟩:=hg;have hl:=HSh5.out.lt;have hb4:Kept (fun j=>j < W5.heap.size) A A':=⟨hb.os,hb.tape,hb.output,hb.size,fun k _ hk=>hb.block k hk⟩
    refine ⟨g1.kept (hb4.mono fun k _ hk=>by omega),IsRows.kept hb4 ?_ g2,g3.of_heap (hb.block _ (by omega))⟩
    rcases HB.out with e | e
    ·exact .inl (by rw [e];rfl)
    ·exact .inr fun g hg=>(e g hg).1
   case round =>
    rintro l O pre x W ⟨hO,hWs,hsh,hcs,hm⟩ hpre hO2 hW2
    gi_wp2
    refine ⟨xx,fun W2 hk2=>?_⟩;have hE2:Ext W ((W.alloc (.cells #[.bool x.win,.int .i64 x.idx,.bool x.back] 65)).alloc (.cells #[.int .i64 (src h x),.int .i64 (dst h x)] 106)):=xx;have hl5:=HSh5.out.lt;have x0:=hk2.cell (p:=⟨W.heap.size,0,none⟩) (v:=.bool x.win) (by simp [go_sem]) (by simp;omega);have x1:=hk2.cell (p:=⟨W.heap.size,1,none⟩) (v:=.int .i64 x.idx) (by simp [go_sem]) (by simp;omega);have x2:=hk2.cell (p:=⟨W.heap.size,2,none⟩) (v:=.bool x.back) (by simp [go_sem]) (by simp;omega);have y0:=hk2.cell (p:=⟨W.heap.size+1,0,none⟩) (v:=.int .i64 (src h x)) (by simp [go_sem]) (by simp;omega);have y1:=hk2.cell (p:=⟨W.heap.size+1,1,none⟩) (v:=.int .i64 (dst h x)) (by simp [go_sem]) (by simp;omega);have hsh2:=(hsh.ext' hE2).kept (hk2.mono fun k _ hk=>by omega);have hcs2:IsCnts W2 (.slice sa h.cs.length cap) h.cs:=IsRows.kept hk2 (by
     rcases HB.out with e | e
     ·exact .inl (by rw [e];rfl)
     ·exact .inr fun g hg=>by have:=e g hg;omega) (hcs.ext hE2)
    have hm2:=(hm.ext hE2).of_heap (hk2.same _ (by simp;have:=hsh.lt;omega) (by omega));have hz2:=hk2.size;simp only [World.size_alloc] at hz2;have ok:=zw9 V.out x (hpre.subset (by simp));have hx:=zhw V.out ok;have HX:=hid hx;have OK:=hid ok;have HC2:=hid hcs2;have HM2:=hid hm2;have HS2:=hid hsh2;have p2:=hsh2.p;have c32:=hsh2.c3;have HO:=hid hO2;clear hsh hcs hm hk2 hE2 hsh2 hcs2 hm2 hx ok hO hO2;gi_wp2_with fail;refine ⟨trivial,(CallsIn.inRound l (callsIn_wide.2 (zkk h _ x (w.heap.size+1+1) _ V.out OK.out ⟨HS2.out.c0,HS2.out.c1,HS2.out.c2,HC2.out⟩))).mono ?_⟩;rintro e W3 ⟨rfl,hE3⟩;replace x0:=zf hE3 x0;replace x1:=zf hE3 x1;replace x2:=zf hE3 x2;replace y0:=zf hE3 y0;replace y1:=zf hE3 y1;replace p2:=zf hE3 p2;replace c32:=zf hE3 c32;have HC3:=hid (HC2.out.ext hE3);have hm3:=HM2.out.ext hE3;have HS3:=hid (HS2.out.ext' hE3);have hz3:=hE3.size;have HE3:=hid hE3;obtain ⟨a,ha⟩:=z3q h pre (k:=(src h x,dst h x)) (by have:=HX.out;unfold src dst;simp only;split<;>omega);have hlk:∀ n,(Instr.lookup 99 (.map (some (w.heap.size+1))) (.agg #[.int .i64 (src h x),.int .i64 (dst h x)]) false).run Tryz.prog (W3.drewN n) = .ok (.agg #[.bool a.1.win,.int .i64 a.1.idx,.bool a.1.back,.int .i64 a.2]) (W3.drewN n) :=
     fun n=>(hm3.of_heap (W':=W3.drewN n) rfl).look zem (src h x,dst h x) ha
    have hfld:∀ W,(Instr.field 103 (.agg #[.bool a.1.win,.int .i64 a.1.idx,.bool a.1.back,.int .i64 a.2]) 1).run Tryz.prog W = .ok (.int .i64 a.2) W:=fun _=>by kernel_rfl
    have HM3:=hid hm3;have HA:=hid ha;clear hm3 hE3 HM2 HS2 HC2 ha
    by_cases hc:cost h x < a.2
    ·gi_wp2_with fail
     refine z7y (by kernel_rfl) (by kernel_rfl) ?_
     repeat (first | go_big_quiet_step (fail) | quiet_step (fail))
     refine wpQuiet_nil ?_
     rintro _ ⟨nq,rfl⟩;clear hlk hfld;gi_wp2_with fail;refine zagg rfl rfl (by kernel_rfl) (by kernel_rfl) (by kernel_rfl) ?_
     dsimp only [List.dropLast]
     repeat (first | go_big_quiet_step (fail) | quiet_step (fail))
     refine wpQuiet_nil ?_
     rintro _ ⟨nq2,rfl⟩;obtain ⟨W4,hup,hg4,hz4,hm4⟩:=(HM3.out.of_heap (W':=W3.drewN (nq+nq2)) rfl).upd zem (src h x,dst h x) (x,cost h x);simp only [kv,av] at hup;have HM4:=hid hm4;have HG4:=hid hg4;clear hm4 hg4;gi_wp2_with fail;have hk34:Kept (fun k=>(k < W5.heap.size∧k≠w.heap.size+1)∨O k∨k=W5.heap.size+1∨k+1=W5.heap.size+1) W2 W4 :=
      ((Kept.of_below HE3.out).trans (Kept.of_below (Ext.drN (Below.refl _ W3) (nq+nq2)))).grown HG4.out (fun k e _ hk=>by
       cases e
       rcases hk with hk | hk | hk | hk
       ·exact hk.2 rfl
       ·have:=HO.out _ hk;omega
       ·omega
       ·omega)
     refine ⟨hk34,fun k hk=>by have:=HO.out k hk;omega,by have:=hk34.size;omega,(HS3.out.ext' (Ext.drN (Below.refl _ _) (nq+nq2))).grown HG4.out,?_,?_⟩
     ·refine IsRows.kept (S:=fun k=>k < W5.heap.size∧k≠w.heap.size+1) ((Kept.refl _ (W3.drewN (nq+nq2))).grown HG4.out (fun k e _ hk=>by cases e;exact hk.2 rfl)) ?_ (HC3.out.ext (Ext.drN (Below.refl _ _) _))
      rcases HB.out with e | e
      ·exact .inl (by rw [e];rfl)
      ·exact .inr fun g hg=>e g hg
     ·rw [zs6]
      have:(fun k'=>if k'=(src h x,dst h x) then some (x,cost h x) else zcj h pre k')=zdf h (zcj h pre) x:=by
       funext k
       unfold zdf
       by_cases hk:k=(src h x,dst h x)
       ·subst hk
        simp [HA.out,hc]
       ·rw [if_neg hk]
        cases zcj h pre k<;>simp [hk]
      rw [← this];exact HM4.out
    ·gi_wp2_with fail
     refine z7y (by kernel_rfl) (by kernel_rfl) ?_
     repeat (first | go_big_quiet_step (fail) | quiet_step (fail))
     refine wpQuiet_nil ?_
     rintro _ ⟨nq,rfl⟩;clear hlk hfld;gi_wp2_with fail;have hk34:Below W2.heap.size W2 (W3.drewN nq):=Ext.drN HE3.out nq;refine ⟨.of_below hk34,fun k hk=>by have:=HO.out k hk;omega,by have:=hk34.size;omega,HS3.out.ext' (Ext.drN (Below.refl _ _) nq),HC3.out.ext (Ext.drN (Below.refl _ _) nq),?_⟩;rw [zs6];have:zcj h pre=zdf h (zcj h pre) x:=by
      funext k
      unfold zdf
      by_cases hk:k=(src h x,dst h x)
      ·subst hk
       have:¬ cost h x < a.2:=by omega
       simp [HA.out,this]
      ·cases zcj h pre k<;>simp [hk]
     rw [← this];exact HM3.out.of_heap rfl
   case done =>
    rintro D O xs W hD rfl ⟨hO,hWs,hsh,hcs,hm⟩ hDk;have HShD:=hid hsh;obtain ⟨_,hlt4,a0,c0,c1,c2,c3,hpt⟩:=hsh;obtain ⟨es,c,hm1,ho,hbn,hget⟩:=hm;have hrg:=zlc zem hm1;have hsz:=hlt4;have hl5:=HSh5.out.lt;have HM1:=hid hm1;have HO:=hid ho;have HBN:=hid hbn;have HGET:=hid hget;have HDK:=hid hDk;clear hm1 ho hbn hget hDk hO hWs hcs HX5 HM5 HSh5 hb5;gi_wp2_with fail;clear hrg;obtain ⟨w6,rfl⟩:∃ w6:World,w6=W:=⟨_,rfl⟩
    gi_loopw [79] (fun _ W=>∃ seen:Array Nat,IsMap kv av W (w.heap.size+1) (es.filter (zdd (fun a=>decide (a.2=zaw)) seen)) c∧W.heap[w6.heap.size]? = some (.mapIter (some (w.heap.size+1)) c seen c)∧Sh w h (.slice sa h.cs.length cap) W∧w6.heap.size < W.heap.size∧W.heap[D]? = some (.deferred (some [])))
     (fun _ W=>zd1 es w6.heap.size W)
    case atStart =>
     refine ⟨#[],?_,World.alloc_heap_new _ _,HShD.out.ext' xx,by simp,?_⟩
     ·have:es.filter (zdd (fun a=>decide (a.2=zaw)) #[])=es:=by
       rw [List.filter_eq_self];intro a _;simp [zdd]
      rw [this];exact (Below.heap_alloc _ _ _ (by omega)).trans HM1.out
     ·exact (Below.heap_alloc _ _ _ (Array.getElem?_eq_some_iff.1 HDK.out).1).trans HDK.out
    case round =>
     obtain ⟨seen,hm1,hit,hsh,hltw,hDk⟩:=hrel;have HSr:=hid hsh;have HDr:=hid hDk
     rcases zo1 (P:=Tryz.prog) hm1 hit (fun e he=>HBN.out.2 e (List.mem_filter.1 he).1) with ⟨hall,hrun⟩ | ⟨e,he,hs,W2,hheap,hos,htape,hout,hrun⟩
     ·rw [z74 _ _ hall] at hm1
      have HMr:=hid hm1;have hp2:=hsh.p;clear hm1 hit hsh hDk hall hpt c0 c1 c2 c3 a0
      gi_wp2
      refine ⟨by simp,.inl ⟨_,_,rfl,run_takeDeferred HDr.out,?_⟩⟩;refine ⟨_,results_tmp rfl _ _ _,rfl,HSr.out.kept ((Kept.refl _ wr).putObj _ (fun _ hk=>by omega)),?_⟩;refine za0.of_heap (W:=wr) ?_ (World.putObj_heap_other (by omega));refine ⟨_,c,HMr.out,?_,⟨List.Nodup.sublist (List.Sublist.map _ List.filter_sublist) HBN.out.1,fun e he=>HBN.out.2 e (List.mem_filter.1 he).1⟩,fun k=>?_⟩
      ·exact List.Nodup.sublist (List.Sublist.map _ List.filter_sublist) HO.out
      ·have hgf:=z3m HO.out (fun a:Stp × Int=>!(decide (a.2=zaw))) k
       rw [HGET.out] at hgf;rw [hgf];unfold za3;cases zcj h (zgl h) k with
       | none=>rfl
       | some a=>by_cases ha:a.2=zaw<;>simp [Option.filter,ha]
     ·have hmem:=(List.mem_filter.1 he).1
      have hlt2:w6.heap.size < wr.heap.size:=hltw;have hg2:wr.grownBy W2 (some w6.heap.size):=⟨hos,htape,hout,by rw [hheap];simp,fun k hk hne=>by rw [hheap];exact World.putObj_heap_other (fun e=>hne (by rw [e]))⟩
      have hk2:Kept (fun k=>k≠w6.heap.size) wr W2:=(Kept.refl _ wr).grown hg2 (fun k e _ hk=>by cases e;exact hk rfl);have hm2:IsMap kv av W2 (w.heap.size+1) (es.filter (zdd (fun a=>decide (a.2=zaw)) seen)) c:=(hk2.same _ (Array.getElem?_eq_some_iff.1 hm1).1 (by omega)).trans hm1;have hit2:W2.heap[w6.heap.size]? = some (.mapIter (some (w.heap.size+1)) c (seen.push e.2.2) c):=by rw [hheap];exact World.putObj_heap_same hlt2
      have hsh2:=hsh.kept (hk2.mono fun k _ hk=>by omega);have hD2:=(hk2.same D (Array.getElem?_eq_some_iff.1 hDk).1 (by have:=(Array.getElem?_eq_some_iff.1 HDK.out).1;omega)).trans hDk;have hen:=zld (P:=Tryz.prog) hm2 hit2 he (List.Nodup.sublist (List.Sublist.map _ List.filter_sublist) HBN.out.1);have hz2:=hk2.size;have hun:=zo2 hmem hs;have HUN:=hid hun;have HM2:=hid hm2;have HIT:=hid hit;have HIT2:=hid hit2;have HS2:=hid hsh2;have HD2:=hid hD2;have HE:=hid hmem;clear hm1 hit hsh hDk he hs hheap hos htape hout hmem hg2 hk2 hm2 hit2 hsh2 hD2 hpt c0 c1 c2 c3 a0 hun;simp only [kv,av] at hrun hen;have hun2:∀ W',W'.heap[w6.heap.size]? = W2.heap[w6.heap.size]?→zd1 es w6.heap.size W' < zd1 es w6.heap.size wr:=fun W' hW'=>by
       unfold zd1;rw [hW',HIT2.out,HIT.out];exact HUN.out
      have HUN2:=hid hun2;clear hun2;obtain ⟨W3,hW3⟩:∃ W3,(W2.alloc (.cells #[.int .i64 e.1.1,.int .i64 e.1.2] 106)).alloc (.cells #[.bool e.2.1.1.win,.int .i64 e.2.1.1.idx,.bool e.2.1.1.back,.int .i64 e.2.1.2] 103)=W3:=⟨_,rfl⟩
      have hE3:Ext W2 W3:=by rw [← hW3];exact xx
      have HW3:=hid hW3;have HE3:=hid hE3;have hb2:=(Array.getElem?_eq_some_iff.1 HIT2.out).1;have hbm:=(Array.getElem?_eq_some_iff.1 HM2.out).1;have hbd:=(Array.getElem?_eq_some_iff.1 HD2.out).1;have hM3:IsMap kv av W3 (w.heap.size+1) (es.filter (zdd (fun a=>decide (a.2=zaw)) seen)) c:=(hE3.block _ hbm).trans HM2.out;have HM3:=hid hM3;have hp2:=zf hE3 HS2.out.p;have hc2:=zf hE3 HS2.out.c3;have q0:W3.cell? ⟨W2.heap.size,0,none⟩=some (.int .i64 e.1.1):=by rw [← hW3];simp [go_sem]
      have q1:W3.cell? ⟨W2.heap.size,1,none⟩=some (.int .i64 e.1.2):=by rw [← hW3];simp [go_sem]
      clear hW3 hE3 hM3
      by_cases hcn:e.2.1.2=1099511627776
      ·have hcb:(e.2.1.2 == 1099511627776)=true:=by simpa using hcn
       have HCN:=hid hcn;clear hcn;gi_wp2_with fail;rw [HW3.out];refine zox rfl rfl (by kernel_rfl) (by kernel_rfl) (by kernel_rfl) ?_
       dsimp only [List.dropLast]
       repeat (first | go_big_quiet_step (fail) | quiet_step (fail))
       refine wpQuiet_nil ?_
       rintro _ ⟨nq,rfl⟩;obtain ⟨W4,hdel,hg4,hz4,hm4,_,_⟩:=za0.del zem (W:=W3.drewN nq) HM3.out (List.Nodup.sublist (List.Sublist.map _ List.filter_sublist) HO.out) ⟨List.Nodup.sublist (List.Sublist.map _ List.filter_sublist) HBN.out.1,fun e he=>HBN.out.2 e (List.mem_filter.1 he).1⟩ e.1 0;simp only [kv] at hdel;have hk4:Kept (fun k=>k≠w.heap.size+1) W2 W4:=((Kept.of_below HE3.out).trans (Kept.of_below (Ext.drN (Below.refl _ W3) nq))).grown hg4 (fun k e _ hk=>by cases e;exact hk rfl);rw [zaav HO.out HBN.out _ _ HE.out (decide_eq_true HCN.out)] at hm4;have HM4:=hid hm4;have HK4:=hid hk4;clear hm4 hk4 hg4;gi_wp2_with fail;go_roundw
       case rel=>exact ⟨_,HM4.out,(HK4.out.same _ hb2 (by omega)).trans HIT2.out,HS2.out.kept (HK4.out.mono fun k _ hk=>hk.1),by have:=HK4.out.size;omega,(HK4.out.same _ hbd (by omega)).trans HD2.out⟩
       case measure=>exact HUN2.out _ (HK4.out.same _ hb2 (by omega))
      ·have hcb:(e.2.1.2 == 1099511627776)=false:=by simpa using hcn
       have HCN:=hid hcn;clear hcn;gi_wp2_with fail;rw [HW3.out];have hm4:=HM3.out;rw [z73 HBN.out _ _ HE.out (decide_eq_false HCN.out)] at hm4;have HM4:=hid hm4;clear hm4;go_roundw
       case rel=>exact ⟨_,HM4.out,(HE3.out.block _ hb2).trans HIT2.out,HS2.out.ext' HE3.out,by have:=HE3.out.size;omega,(HE3.out.block _ hbd).trans HD2.out⟩
       case measure=>exact HUN2.out _ (HE3.out.block _ hb2)
theorem z1l (h:Hall) (sv:Value) (v:Valid h) (w:World) (hs:IsCnts w sv h.cs) :
  Calls Tryz.prog 47 #[.agg #[.int .i64 h.n,.int .i64 h.most,sv]] w fun e w'=>e = .returned (.pointer (some ⟨w.heap.size+1+1,0,none⟩))∧Sh w h sv w'∧za0 kv av w' (w.heap.size+1) (za3 h) :=
 callsIn_wide.1 (z3v h sv v w hs)
end Go.Proofs.YtnoffnkmibjndaaGreat.Cu
namespace Go.Proofs.YtnoffnkmibjndaaGreat.Cu
open Go.Lib (hid)
open Go.RowKit
theorem zs7 {P:Program} {e:TypeId} {k:IntKind} (he:P.plainKey e=true) (hu:P.underlying e=some (.int k)) (d n:Nat) (xs ys:Array Value) (f g:Nat→Int)
  (hx:∀ i,i < n→xs[i]? = some (.int k (f i))) (hy:∀ i,i < n→ys[i]? = some (.int k (g i))) (w:World):∀ is:List Nat,(∀ i∈is,i < n)→(Op.eqItems (d+1) e 1 xs ys is).run P w = .ok (is.all fun i=>f i == g i) w
 | [],_=>by simp [Op.eqItems]
 | i :: is,h=>by
  have hi:=h i (by simp);have ih:=zs7 he hu d n xs ys f g hx hy w is (fun j hj=>h j (by simp [hj]));have p1:=run_part_plain (P:=P) w he (xs:=xs) (off:=i * 1) (v:=.int k (f i)) (by simpa using hx i hi);have p2:=run_part_plain (P:=P) w he (xs:=ys) (off:=i * 1) (v:=.int k (g i)) (by simpa using hy i hi);simp only [Op.eqItems,Sem.run_bind,p1,p2,Result.andThen_ok,run_equalIn_int w d e k k (f i) (g i) hu]
  by_cases hfg:f i=g i
  ·simp [hfg,ih]
  ·simp [hfg]
theorem z1m {P:Program} {t e:TypeId} {k:IntKind} {n:Nat} {info:TypeInfo} (ht:P.underlying t=some (.array n e)) (hi:P.info? e=some info) (hc:P.cellsOf e=1) (he:P.plainKey e=true) (hu:P.underlying e=some (.int k)) (xs ys:Array Value) (f g:Nat→Int)
  (hx:∀ i,i < n→xs[i]? = some (.int k (f i))) (hy:∀ i,i < n→ys[i]? = some (.int k (g i))) (w:World):(binOp .eql t (.agg xs) (.agg ys)).run P w = .ok (.bool ((List.range n).all fun i=>f i == g i)) w:=by
 rw [run_eql_struct];rw [run_equalIn_array w 9999 xs ys ht hi,hc,zs7 he hu 9998 n xs ys f g hx hy w _ (by simp)];rfl
end Go.Proofs.YtnoffnkmibjndaaGreat.Cu
namespace Go.Proofs.YtnoffnkmibjndaaGreat.Cu
open Go.Lib (hid)
open Go.RowKit Go.Shelf
structure zhx (W:World) (b r:Nat) (h:Hall) (sv:Value):Prop where
 c0:W.cell? ⟨b,0,none⟩=some (.int .i64 h.n)
 c1:W.cell? ⟨b,1,none⟩=some (.int .i64 h.most)
 c2:W.cell? ⟨b,2,none⟩=some sv
 c3:W.cell? ⟨b,3,none⟩=some (.map (some r))
 cs:IsCnts W sv h.cs
 m:za0 kv av W r (za3 h)
theorem zhx.ext {W W':World} {b r:Nat} {h:Hall} {sv:Value} (s:zhx W b r h sv) (e:Ext W W'):zhx W' b r h sv :=
 ⟨zf e s.c0,zf e s.c1,zf e s.c2,zf e s.c3,s.cs.ext e,s.m.ext e⟩
theorem zhx.at {W:World} {b r:Nat} {h:Hall} {sv:Value} (s:zhx W b r h sv):ziq W b h sv:=⟨s.c0,s.c1,s.c2,s.cs⟩
structure ze5 (cur:Array Value) (s:WSt):Prop where
 size:cur.size=56
 sums:∀ i,i < 11→cur[i]? = some (.int .i64 (s.sums i))
 bef:∀ i,i < 11→cur[11+i]? = some (.int .i64 (s.before i))
 by0:∀ i,i < 11→cur[22+i * 3]? = some (.bool (s.by_ i).win)
 by1:∀ i,i < 11→cur[22+i * 3+1]? = some (.int .i64 (s.by_ i).idx)
 by2:∀ i,i < 11→cur[22+i * 3+2]? = some (.bool (s.by_ i).back)
 ring:cur[55]? = some (.int .i64 s.ringed)
def zbc (W:World) (b:Nat) (s:WSt):Prop:=∃ cur,W.heap[b]? = some (.cells cur 68 (0,0))∧ze5 cur s
theorem zbc.of_heap {W W':World} {b:Nat} {s:WSt} (w:zbc W b s) (e:W'.heap[b]? = W.heap[b]?):zbc W' b s:=by
 obtain ⟨cur,h1,h2⟩:=w;exact ⟨cur,e.trans h1,h2⟩
section
variable {W:World} {b:Nat} {s:WSt} (w:zbc W b s)
include w
theorem zbc.lt:b < W.heap.size:=by obtain ⟨cur,h1,_⟩:=w;exact (Array.getElem?_eq_some_iff.1 h1).1
theorem zbc.ext {W':World} (e:Ext W W'):zbc W' b s:=w.of_heap (e.block b w.lt)
theorem zbc.sum {i:Nat} (hi:i < 11):W.cell? ⟨b,i,none⟩=some (.int .i64 (s.sums i)):=by
 obtain ⟨cur,h1,h2⟩:=w;rw [cell_of_row W b i cur _ _ h1];exact h2.sums i hi
theorem zbc.befo {i:Nat} (hi:i < 11):W.cell? ⟨b,11+i,none⟩=some (.int .i64 (s.before i)):=by
 obtain ⟨cur,h1,h2⟩:=w;rw [cell_of_row W b _ cur _ _ h1];exact h2.bef i hi
theorem zbc.b0 {i:Nat} (hi:i < 11):W.cell? ⟨b,22+i * 3,none⟩=some (.bool (s.by_ i).win):=by
 obtain ⟨cur,h1,h2⟩:=w;rw [cell_of_row W b _ cur _ _ h1];exact h2.by0 i hi
theorem zbc.b1 {i:Nat} (hi:i < 11):W.cell? ⟨b,22+i * 3+1,none⟩=some (.int .i64 (s.by_ i).idx):=by
 obtain ⟨cur,h1,h2⟩:=w;rw [cell_of_row W b _ cur _ _ h1];exact h2.by1 i hi
theorem zbc.b2 {i:Nat} (hi:i < 11):W.cell? ⟨b,22+i * 3+2,none⟩=some (.bool (s.by_ i).back):=by
 obtain ⟨cur,h1,h2⟩:=w;rw [cell_of_row W b _ cur _ _ h1];exact h2.by2 i hi
theorem zbc.rin:W.cell? ⟨b,55,none⟩=some (.int .i64 s.ringed):=by
 obtain ⟨cur,h1,h2⟩:=w;rw [cell_of_row W b _ cur _ _ h1];exact h2.ring
theorem zbc.free (o:Nat):W.frozen? ⟨b,o,none⟩=false:=by
 obtain ⟨cur,h1,h2⟩:=w;simp [World.frozen?,h1]
end
theorem ze5.sum {cur:Array Value} {s:WSt} (h:ze5 cur s) {i:Nat} (hi:i < 11) (v:Int):ze5 (cur.setIfInBounds i (.int .i64 v)) { s with sums:=upd s.sums i v } where
 size:=by simp [h.size]
 sums:=fun j hj=>by
  by_cases e:i=j
  ·subst e;rw [zha _ (by rw [h.size];omega)];simp [upd]
  ·rw [zac _ e,h.sums j hj];simp [upd,Ne.symm e]
 bef:=fun j hj=>by rw [zac _ (by omega)];exact h.bef j hj
 by0:=fun j hj=>by rw [zac _ (by omega)];exact h.by0 j hj
 by1:=fun j hj=>by rw [zac _ (by omega)];exact h.by1 j hj
 by2:=fun j hj=>by rw [zac _ (by omega)];exact h.by2 j hj
 ring:=by rw [zac _ (by omega)];exact h.ring
theorem ze5.befo {cur:Array Value} {s:WSt} (h:ze5 cur s) {i:Nat} (hi:i < 11) (v:Int):ze5 (cur.setIfInBounds (11+i) (.int .i64 v)) { s with before:=upd s.before i v } where
 size:=by simp [h.size]
 sums:=fun j hj=>by rw [zac _ (by omega)];exact h.sums j hj
 bef:=fun j hj=>by
  by_cases e:i=j
  ·subst e;rw [zha _ (by rw [h.size];omega)];simp [upd]
  ·rw [zac _ (by omega),h.bef j hj];simp [upd,Ne.symm e]
 by0:=fun j hj=>by rw [zac _ (by omega)];exact h.by0 j hj
 by1:=fun j hj=>by rw [zac _ (by omega)];exact h.by1 j hj
 by2:=fun j hj=>by rw [zac _ (by omega)];exact h.by2 j hj
 ring:=by rw [zac _ (by omega)];exact h.ring
theorem ze5.stp {cur:Array Value} {s:WSt} (h:ze5 cur s) {i:Nat} (hi:i < 11) (x:Stp) :
  ze5 (((cur.setIfInBounds (22+i * 3) (.bool x.win)).setIfInBounds (22+i * 3+1) (.int .i64 x.idx)).setIfInBounds (22+i * 3+2) (.bool x.back)) { s with by_:=upd s.by_ i x } where
 size:=by simp [h.size]
 sums:=fun j hj=>by rw [zac _ (by omega),zac _ (by omega),zac _ (by omega)];exact h.sums j hj
 bef:=fun j hj=>by rw [zac _ (by omega),zac _ (by omega),zac _ (by omega)];exact h.bef j hj
 by0:=fun j hj=>by
  by_cases e:i=j
  ·subst e;rw [zac _ (by omega),zac _ (by omega),zha _ (by rw [h.size];omega)];simp [upd]
  ·rw [zac _ (by omega),zac _ (by omega),zac _ (by omega),h.by0 j hj];simp [upd,Ne.symm e]
 by1:=fun j hj=>by
  by_cases e:i=j
  ·subst e;rw [zac _ (by omega),zha _ (by simp [h.size];omega)];simp [upd]
  ·rw [zac _ (by omega),zac _ (by omega),zac _ (by omega),h.by1 j hj];simp [upd,Ne.symm e]
 by2:=fun j hj=>by
  by_cases e:i=j
  ·subst e;rw [zha _ (by simp [h.size];omega)];simp [upd]
  ·rw [zac _ (by omega),zac _ (by omega),zac _ (by omega),h.by2 j hj];simp [upd,Ne.symm e]
 ring:=by rw [zac _ (by omega),zac _ (by omega),zac _ (by omega)];exact h.ring
theorem ze5.rin {cur:Array Value} {s:WSt} (h:ze5 cur s) (v:Int):ze5 (cur.setIfInBounds 55 (.int .i64 v)) { s with ringed:=v } where
 size:=by simp [h.size]
 sums:=fun j hj=>by rw [zac _ (by omega)];exact h.sums j hj
 bef:=fun j hj=>by rw [zac _ (by omega)];exact h.bef j hj
 by0:=fun j hj=>by rw [zac _ (by omega)];exact h.by0 j hj
 by1:=fun j hj=>by rw [zac _ (by omega)];exact h.by1 j hj
 by2:=fun j hj=>by rw [zac _ (by omega)];exact h.by2 j hj
 ring:=by rw [zha _ (by rw [h.size];omega)]
def zagm:Array Value:=#[.int .i64 0,.int .i64 0,.int .i64 0,.int .i64 0,.int .i64 0,.int .i64 0,.int .i64 0,.int .i64 0,.int .i64 0,.int .i64 0,.int .i64 0,.int .i64 0,.int .i64 0,.int .i64 0,.int .i64 0,.int .i64 0,.int .i64 0,.int .i64 0,.int .i64 0,.int .i64 0,.int .i64 0,.int .i64 0,.bool false,.int .i64 0,.bool false,.bool false,.int .i64 0,.bool false,.bool false,.int .i64 0,.bool false,.bool false,.int .i64 0,.bool false,.bool false,.int .i64 0,.bool false,.bool false,.int .i64 0,.bool false,.bool false,.int .i64 0,.bool false,.bool false,.int .i64 0,.bool false,.bool false,.int .i64 0,.bool false,.bool false,.int .i64 0,.bool false,.bool false,.int .i64 0,.bool false,.int .i64 0]
theorem z6j:ze5 zagm ⟨fun _=>0,fun _=>0,fun _=>⟨false,0,false⟩,0⟩ where
 size:=rfl
 sums:=fun i hi=>match i,hi with | 0,_=>rfl | 1,_=>rfl | 2,_=>rfl | 3,_=>rfl | 4,_=>rfl | 5,_=>rfl | 6,_=>rfl | 7,_=>rfl | 8,_=>rfl | 9,_=>rfl | 10,_=>rfl | n+11,h=>absurd h (by omega)
 bef:=fun i hi=>match i,hi with | 0,_=>rfl | 1,_=>rfl | 2,_=>rfl | 3,_=>rfl | 4,_=>rfl | 5,_=>rfl | 6,_=>rfl | 7,_=>rfl | 8,_=>rfl | 9,_=>rfl | 10,_=>rfl | n+11,h=>absurd h (by omega)
 by0:=fun i hi=>match i,hi with | 0,_=>rfl | 1,_=>rfl | 2,_=>rfl | 3,_=>rfl | 4,_=>rfl | 5,_=>rfl | 6,_=>rfl | 7,_=>rfl | 8,_=>rfl | 9,_=>rfl | 10,_=>rfl | n+11,h=>absurd h (by omega)
 by1:=fun i hi=>match i,hi with | 0,_=>rfl | 1,_=>rfl | 2,_=>rfl | 3,_=>rfl | 4,_=>rfl | 5,_=>rfl | 6,_=>rfl | 7,_=>rfl | 8,_=>rfl | 9,_=>rfl | 10,_=>rfl | n+11,h=>absurd h (by omega)
 by2:=fun i hi=>match i,hi with | 0,_=>rfl | 1,_=>rfl | 2,_=>rfl | 3,_=>rfl | 4,_=>rfl | 5,_=>rfl | 6,_=>rfl | 7,_=>rfl | 8,_=>rfl | 9,_=>rfl | 10,_=>rfl | n+11,h=>absurd h (by omega)
 ring:=rfl
def zr2 (k:Nat):WSt:=⟨fun i=>if i < k then zaw else 0,fun _=>0,fun _=>⟨false,0,false⟩,0⟩
theorem z6k (k:Nat):({ zr2 k with sums:=upd (zr2 k).sums k zaw }:WSt)=zr2 (k+1):=by
 simp only [zr2,WSt.mk.injEq,and_true]
 funext i
 simp only [upd]
 by_cases h:i=k
 ·rw [if_pos h,if_pos (by omega)]
 ·rw [if_neg h]
  by_cases h2:i < k
  ·rw [if_pos h2,if_pos (by omega)]
  ·rw [if_neg h2,if_neg (by omega)]
theorem zbc.cong {W:World} {b:Nat} {s t:WSt} (w:zbc W b s) (h1:∀ i,i < 11→s.sums i=t.sums i) (h2:∀ i,i < 11→s.before i=t.before i) (h3:∀ i,i < 11→s.by_ i=t.by_ i) (h4:s.ringed=t.ringed):zbc W b t:=by
 obtain ⟨cur,hc,hw⟩:=w;exact ⟨cur,hc,hw.size,fun i hi=>by rw [← h1 i hi];exact hw.sums i hi,fun i hi=>by rw [← h2 i hi];exact hw.bef i hi,fun i hi=>by rw [← h3 i hi];exact hw.by0 i hi,
  fun i hi=>by rw [← h3 i hi];exact hw.by1 i hi,fun i hi=>by rw [← h3 i hi];exact hw.by2 i hi,by rw [← h4];exact hw.ring⟩
theorem z6l {w W:World} {σ:WSt} {q:Nat} (hq:q < 11) (hE:Ext w W) (hw:zbc W w.heap.size σ) (X:Obj) (m:Nat) (sv p rg:Int) (x:Stp) :
  Ext w (((((((W.alloc X).drewN m).setCell ⟨w.heap.size,q,none⟩ (.int .i64 sv)).setCell ⟨w.heap.size,11+q,none⟩ (.int .i64 p)).setCell ⟨w.heap.size,22+q * 3,none⟩ (.bool x.win)).setCell ⟨w.heap.size,22+q * 3+1,none⟩ (.int .i64 x.idx)).setCell ⟨w.heap.size,22+q * 3+2,none⟩ (.bool x.back) |>.setCell ⟨w.heap.size,55,none⟩ (.int .i64 rg)) ∧
  W.heap.size≤(((((((W.alloc X).drewN m).setCell ⟨w.heap.size,q,none⟩ (.int .i64 sv)).setCell ⟨w.heap.size,11+q,none⟩ (.int .i64 p)).setCell ⟨w.heap.size,22+q * 3,none⟩ (.bool x.win)).setCell ⟨w.heap.size,22+q * 3+1,none⟩ (.int .i64 x.idx)).setCell ⟨w.heap.size,22+q * 3+2,none⟩ (.bool x.back) |>.setCell ⟨w.heap.size,55,none⟩ (.int .i64 rg)).heap.size ∧
  (∀ b o v,b≠w.heap.size→W.cell? ⟨b,o,none⟩=some v→(((((((W.alloc X).drewN m).setCell ⟨w.heap.size,q,none⟩ (.int .i64 sv)).setCell ⟨w.heap.size,11+q,none⟩ (.int .i64 p)).setCell ⟨w.heap.size,22+q * 3,none⟩ (.bool x.win)).setCell ⟨w.heap.size,22+q * 3+1,none⟩ (.int .i64 x.idx)).setCell ⟨w.heap.size,22+q * 3+2,none⟩ (.bool x.back) |>.setCell ⟨w.heap.size,55,none⟩ (.int .i64 rg)).cell? ⟨b,o,none⟩=some v) ∧
  zbc (((((((W.alloc X).drewN m).setCell ⟨w.heap.size,q,none⟩ (.int .i64 sv)).setCell ⟨w.heap.size,11+q,none⟩ (.int .i64 p)).setCell ⟨w.heap.size,22+q * 3,none⟩ (.bool x.win)).setCell ⟨w.heap.size,22+q * 3+1,none⟩ (.int .i64 x.idx)).setCell ⟨w.heap.size,22+q * 3+2,none⟩ (.bool x.back) |>.setCell ⟨w.heap.size,55,none⟩ (.int .i64 rg)) w.heap.size
   ⟨upd σ.sums q sv,upd σ.before q p,upd σ.by_ q x,rg⟩:=by
 have hbw:=hw.lt;have hA:Ext W ((W.alloc X).drewN m):=Ext.drN (Ext.al (Below.refl _ _) _) _;generalize (W.alloc X).drewN m=V at hA ⊢;have hV:Ext w V:=hE.trans' hA;have hk:∀ (A:World) (o:Nat) (v:Value),Kept (fun k=>k≠w.heap.size) V A→Kept (fun k=>k≠w.heap.size) V (A.setCell ⟨w.heap.size,o,none⟩ v):=fun A o v h=>h.setCell (p:=⟨w.heap.size,o,none⟩) (fun _ hne=>hne rfl) v
 have hb:∀ (A:World) (o:Nat) (v:Value),Ext w A→Ext w (A.setCell ⟨w.heap.size,o,none⟩ v):=fun A o v h=>h.setCell (p:=⟨w.heap.size,o,none⟩) (Nat.le_refl _) v
 have hkA:=hk _ 55 (.int .i64 rg) (hk _ (22+q * 3+2) (.bool x.back) (hk _ (22+q * 3+1) (.int .i64 x.idx) (hk _ (22+q * 3) (.bool x.win) (hk _ (11+q) (.int .i64 p) (hk _ q (.int .i64 sv) (Kept.refl _ V))))));refine ⟨hb _ _ _ (hb _ _ _ (hb _ _ _ (hb _ _ _ (hb _ _ _ (hb _ _ _ hV))))),Nat.le_trans hA.size hkA.size,fun b o v hne hc=>hkA.cell (p:=⟨b,o,none⟩) (zf hA hc) hne,?_⟩;obtain ⟨cur,hc,hw⟩:=hw.ext hA;exact ⟨_,zx (zx (zx (zx (zx (zx hc _ _) _ _) _ _) _ _) _ _) _ _,(((hw.sum hq _).befo hq _).stp hq x).rin _⟩
theorem least_any (h:Hall) (sv:Value) (v:Valid h) (start:Nat) (hst:(start:Int)≤h.n) (b r:Nat) (w:World) (hs:zhx w b r h sv) :
  Calls Tryz.prog 21 #[.pointer (some ⟨b,0,none⟩),.int .i64 start] w fun e w' =>
   e = .returned (.tuple #[.pointer (some ⟨w.heap.size,0,none⟩),.bool (leastM h start).2])∧Ext w w'∧zbc w' w.heap.size (leastM h start).1:=by
 have n1:=v.n1;have n10:=v.n10;have HS:=hid hs;have c0:=hs.c0;have hb:=World.block_lt_of_cell? _ _ c0;clear hs
 go_enter Tryz.func21,Tryz.ntmps21
 go_wp2
 go_loopw [15] (fun i W=>∃ k:Nat,k≤11∧i = .int .i64 k∧Ext w W∧zbc W w.heap.size (zr2 k)) (fun i _=>11 - (intOf i).toNat)
 case atStart=>exact ⟨0,by omega,rfl,xx,_,World.alloc_heap_new w _,z6j⟩
 case round =>
  obtain ⟨k,hk,rfl,hE,hw⟩:=hrel;have HE:=hid hE;have HWy:=hid hw;clear hE
  by_cases hlt:k < 11
  ·have k1:=hw.sum hlt
   have kf:=hw.free k;clear hw
   go_wp2
   go_roundw
   case rel =>
    refine ⟨k+1,by omega,by go_num,Below.setCell HE.out (Nat.le_refl _) _,?_⟩;obtain ⟨cur,hc,hb⟩:=HWy.out;rw [← z6k];exact ⟨_,zx hc _ _,hb.sum hlt _⟩
   case measure=>simp [intOf];omega
  ·obtain rfl:k=11:=by omega
   rw [show ((11:Nat):Int)=11 from rfl];have k1:=hw.sum (i:=start) (by omega);have kf:=hw.free start;have c0':=zf HE.out c0;have hb':=HE.out.size;clear hw;go_wp2_with fail;have hw2:zbc (wr.setCell ⟨w.heap.size,start,none⟩ (.int .i64 0)) w.heap.size (zfb start):=by
    obtain ⟨cur,hc,hb⟩:=HWy.out;have h2:zbc (wr.setCell ⟨w.heap.size,start,none⟩ (.int .i64 0)) w.heap.size _:=⟨_,zx hc start (.int .i64 0),hb.sum (i:=start) (by omega) 0⟩
    refine zbc.cong h2 (fun i hi=>?_) (fun _ _=>rfl) (fun _ _=>rfl) rfl;simp only [zfb,upd,zr2,if_pos hi]
   have hE2:Ext w (wr.setCell ⟨w.heap.size,start,none⟩ (.int .i64 0)):=Below.setCell HE.out (Nat.le_refl _) _;have HW2:=hid hw2;have HE2:=hid hE2;have CB:=hid (zpb v);obtain ⟨N,hN⟩:∃ N:Nat,N=h.n.toNat+1:=⟨_,rfl⟩
   have hNi:(N:Int)=h.n+1:=by omega
   have HN:=hid hN;have HNi:=hid hNi;have hN11:N≤11:=by omega
   clear hw2 hE2 HE HWy k1 kf c0' hb' hN hNi
   go_loopw [35] (fun i W=>∃ (t:Nat) (s:WSt),(t:Int)≤h.n+2∧i = .int .i64 t∧Ext w W∧zbc W w.heap.size s∧Bd (t * 121) s∧zfa (za3 h) N (h.n.toNat+2 - t) s=leastM h start) (fun i _=>(h.n+2 - intOf i).toNat)
   case atStart=>exact ⟨0,zfb start,by omega,rfl,HE2.out,HW2.out,by simpa using zxa start,by rw [HN.out];rfl⟩
   case round =>
    obtain ⟨t,s,ht,rfl,hE,hw,hbd,hrun⟩:=hrel;have HE:=hid hE;have HWs:=hid hw;have HBD:=hid hbd;have HRUN:=hid hrun;have c0':=zf hE c0;have hb':b < wr.heap.size:=Nat.lt_of_lt_of_le hb hE.size;have hbw:=hw.lt;clear hE hbd hrun HE2 HW2
    by_cases hlt:(t:Int) < h.n+2
    ·have s0:=hw.sum (i:=0) (by omega)
     have s1:=hw.sum (i:=1) (by omega);have s2:=hw.sum (i:=2) (by omega);have s3:=hw.sum (i:=3) (by omega);have s4:=hw.sum (i:=4) (by omega);have s5:=hw.sum (i:=5) (by omega);have s6:=hw.sum (i:=6) (by omega);have s7:=hw.sum (i:=7) (by omega);have s8:=hw.sum (i:=8) (by omega);have s9:=hw.sum (i:=9) (by omega);have s10:=hw.sum (i:=10) (by omega);clear hw;go_wp2_with fail;obtain ⟨w2,rfl⟩:∃ w2:World,w2=wr:=⟨_,rfl⟩
     have hEl:Ext w2 (w2.alloc (.cells #[.int .i64 (s.sums 0),.int .i64 (s.sums 1),.int .i64 (s.sums 2),.int .i64 (s.sums 3),.int .i64 (s.sums 4),.int .i64 (s.sums 5),.int .i64 (s.sums 6),.int .i64 (s.sums 7),.int .i64 (s.sums 8),.int .i64 (s.sums 9),.int .i64 (s.sums 10)] 63)):=xx;have HEl:=hid hEl;clear hEl s0 s1 s2 s3 s4 s5 s6 s7 s8 s9 s10
     go_loopw [47] (fun i W=>∃ p:Nat,p≤N∧i = .int .i64 p∧Ext w W∧w2.heap.size < W.heap.size∧(∀ j,j < 11→W.cell? ⟨w2.heap.size,j,none⟩=some (.int .i64 (s.sums j)))∧zbc W w.heap.size (stP (za3 h) N s p)) (fun i _=>(h.n+1 - intOf i).toNat)
     case atStart =>
      refine ⟨0,by omega,rfl,HE.out.trans' HEl.out,by simp,fun j hj=>?_,HWs.out.ext HEl.out⟩;exact match j,hj with | 0,_=>by simp [go_sem] | 1,_=>by simp [go_sem] | 2,_=>by simp [go_sem] | 3,_=>by simp [go_sem] | 4,_=>by simp [go_sem] | 5,_=>by simp [go_sem] | 6,_=>by simp [go_sem] | 7,_=>by simp [go_sem] | 8,_=>by simp [go_sem] | 9,_=>by simp [go_sem] | 10,_=>by simp [go_sem] | n+11,h=>absurd h (by omega)
     case round =>
      obtain ⟨p,hp,rfl,hE,hz,hla,hw⟩:=hrel;have HE3:=hid hE;have HLA:=hid hla;have HW3:=hid hw;have c03:=zf hE c0;have hNi:=HNi.out;clear hE hla c0'
      by_cases hltp:p < N
      ·have hltp':(p:Int) < h.n+1:=by omega
       clear hw hNi;go_wp2_with fail;obtain ⟨w3,rfl⟩:∃ w3:World,w3=wr:=⟨_,rfl⟩
       clear c03
       go_loopw [56] (fun i W=>∃ q:Nat,q≤N∧i = .int .i64 q∧Ext w W∧w2.heap.size < W.heap.size∧(∀ j,j < 11→W.cell? ⟨w2.heap.size,j,none⟩=some (.int .i64 (s.sums j)))∧zbc W w.heap.size (stQ (za3 h) p (stP (za3 h) N s p) q)) (fun i _=>(h.n+1 - intOf i).toNat)
       case atStart=>exact ⟨0,by omega,rfl,HE3.out,hz,HLA.out,HW3.out⟩
       case round =>
        obtain ⟨q,hq,rfl,hE,hz4,hla,hw⟩:=hrel;have HE4:=hid hE;have HLA4:=hid hla;have HW4:=hid hw;have hs4:=HS.out.ext hE;have c04:=hs4.c0;have c34:=hs4.c3;have hm4:=hs4.m;have hNi:=HNi.out;have hb4:=World.block_lt_of_cell? _ _ c04;have hbw4:=hw.lt;clear hE hla HE3 HLA HW3
        by_cases hltq:q < N
        ·have hltq':(q:Int) < h.n+1:=by omega
         clear hNi hw;cases ha:za3 h ((p:Int),(q:Int)) with
         | none =>
          have hlk:=hm4.look_none zem ((p:Int),(q:Int)) ha (z:=.agg #[.bool false,.int .i64 0,.bool false,.int .i64 0]) (fun _=>by kernel_rfl);simp only [kv] at hlk;have hstep:stQ (za3 h) p (stP (za3 h) N s p) (q+1)=stQ (za3 h) p (stP (za3 h) N s p) q:=by simp only [stQ,lstep,ha]
          have HST:=hid hstep;clear hm4 ha hstep hs4;go_wp2_with fail
          go_quiet (fail)
          go_wp2_with fail;go_roundw
          case rel=>exact ⟨q+1,by omega,by go_num,xx,by simp;omega,fun j hj=>zf (by exact xx:Ext wr _) (HLA4.out j hj),by rw [HST.out];exact HW4.out.ext xx⟩
          case measure=>simp [intOf];omega
         | some a =>
          have hlk:=hm4.look_ok zem ((p:Int),(q:Int)) ha;simp only [kv,av] at hlk;have sp:=HW4.out.sum (i:=p) (by omega);have sq:=HW4.out.sum (i:=q) (by omega);have HA:=hid ha;have hcb:=CB.out _ _ ha;have hbd:=((HBD.out.stP CB.out (N:=N) p).stQ CB.out p q)
          clear hm4 ha hs4;have hpN:(p:Int) * N≤121:=by
           have:=Nat.mul_le_mul (show p≤11 by omega) hN11;have e:((p * N:Nat):Int)=(p:Int) * N:=by simp
           omega
          obtain ⟨σ,hσ⟩:∃ σ:WSt,σ=stQ (za3 h) p (stP (za3 h) N s p) q:=⟨_,rfl⟩
          have hstep:stQ (za3 h) p (stP (za3 h) N s p) (q+1)=(if σ.sums p=zaw∨σ.sums q≤σ.sums p+a.2 then σ else ⟨upd σ.sums q (σ.sums p+a.2),upd σ.before q (p:Int),upd σ.by_ q a.1,(q:Int)⟩):=by
           simp only [stQ,lstep,HA.out,← hσ]
          rw [← hσ] at sp sq hbd;have HW5:=hid (hσ ▸ HW4.out:zbc wr w.heap.size σ);have bp:=hbd p;have bq:=hbd q;have bp1 : -20000000000≤σ.sums p:=by unfold zaw at bp;omega
          have bp2:σ.sums p≤1099511627776:=by unfold zaw at bp;omega
          have bq1 : -20000000000≤σ.sums q:=by unfold zaw at bq;omega
          have bq2:σ.sums q≤1099511627776:=by unfold zaw at bq;omega
          obtain ⟨hc1,hc2⟩:=hcb;have HST:=hid hstep;have hfr:=fun o=>HW5.out.free o
          have HF:=hid hfr;clear hstep hbd bp bq HW4 hσ hpN HA hfr
          by_cases h1:σ.sums p=1099511627776
          ·have h1':(σ.sums p == 1099511627776)=true:=by simpa using h1
           have H1:=hid h1;clear h1;go_wp2_with fail
           go_quiet (fail)
           go_wp2_with fail;go_roundw
           case rel=>exact ⟨q+1,by omega,by go_num,xx,by simp;omega,fun j hj=>zf (by exact xx:Ext wr _) (HLA4.out j hj),by rw [HST.out,if_pos (.inl H1.out)];exact HW5.out.ext xx⟩
           case measure=>simp [intOf];omega
          ·have h1':(σ.sums p == 1099511627776)=false:=by simpa using h1
           have H1:=hid h1;clear h1
           by_cases h2:σ.sums q≤σ.sums p+a.2
           ·have h2':decide (σ.sums q≤σ.sums p+a.2)=true:=by simpa using h2
            go_wp2_with fail
            go_quiet (fail)
            go_wp2_with fail;go_roundw
            case rel=>exact ⟨q+1,by omega,by go_num,xx,by simp;omega,fun j hj=>zf (by exact xx:Ext wr _) (HLA4.out j hj),by rw [HST.out,if_pos (.inr h2)];exact HW5.out.ext xx⟩
            case measure=>simp [intOf];omega
           ·have h2':decide (σ.sums q≤σ.sums p+a.2)=false:=by simpa using h2
            have e1:=HW5.out.befo (i:=q) (by omega);have e2:=HW5.out.b0 (i:=q) (by omega);have e3:=HW5.out.b1 (i:=q) (by omega);have e4:=HW5.out.b2 (i:=q) (by omega);have e5:=HW5.out.rin;have f0:=HF.out q;have f1:=HF.out (11+q);have f2:=HF.out (22+q * 3);have f3:=HF.out (22+q * 3+1);have f4:=HF.out (22+q * 3+2);have f5:=HF.out 55;go_wp2_with fail
            go_quiet (fail)
            go_wp2_with fail
            go_region
            go_wp2_with fail;have H2:=hid h2;go_roundw
            case rel =>
             obtain ⟨g1,g2,g3,g4⟩:=z6l (q:=q) (by omega) HE4.out HW5.out (.cells #[.bool a.1.win,.int .i64 a.1.idx,.bool a.1.back,.int .i64 a.2] 103) (nq+1) (σ.sums p+a.2) (p:Int) (q:Int) a.1;refine ⟨q+1,by omega,by go_num,g1,by omega,fun j hj=>g3 _ _ _ (by omega) (HLA4.out j hj),?_⟩;rw [HST.out,if_neg (by have:=H1.out;have:=H2.out;unfold zaw;omega)];exact g4
            case measure=>simp [intOf];omega
        ·clear hw hm4 hs4 hNi
         obtain rfl:q=N:=by omega
         have hNi:=HNi.out
         go_wp2
         go_roundw
         case rel=>exact ⟨p+1,by omega,by go_num,HE4.out,hz4,HLA4.out,HW4.out⟩
         case measure=>simp [intOf];omega
      ·obtain rfl:p=N:=by omega
       have t0:=hw.sum (i:=0) (by omega);have t1:=hw.sum (i:=1) (by omega);have t2:=hw.sum (i:=2) (by omega);have t3:=hw.sum (i:=3) (by omega);have t4:=hw.sum (i:=4) (by omega);have t5:=hw.sum (i:=5) (by omega);have t6:=hw.sum (i:=6) (by omega);have t7:=hw.sum (i:=7) (by omega);have t8:=hw.sum (i:=8) (by omega);have t9:=hw.sum (i:=9) (by omega);have t10:=hw.sum (i:=10) (by omega);have l0:=HLA.out 0 (by omega);have l1:=HLA.out 1 (by omega);have l2:=HLA.out 2 (by omega);have l3:=HLA.out 3 (by omega);have l4:=HLA.out 4 (by omega);have l5:=HLA.out 5 (by omega);have l6:=HLA.out 6 (by omega);have l7:=HLA.out 7 (by omega);have l8:=HLA.out 8 (by omega);have l9:=HLA.out 9 (by omega);have l10:=HLA.out 10 (by omega);obtain ⟨u,hu⟩:∃ u:WSt,u=stP (za3 h) p s p:=⟨_,rfl⟩
       rw [← hu] at t0 t1 t2 t3 t4 t5 t6 t7 t8 t9 t10;have HU:=hid hu;have heq:∀ W,(binOp .eql 63 (.agg #[.int .i64 (s.sums 0),.int .i64 (s.sums 1),.int .i64 (s.sums 2),.int .i64 (s.sums 3),.int .i64 (s.sums 4),.int .i64 (s.sums 5),.int .i64 (s.sums 6),.int .i64 (s.sums 7),.int .i64 (s.sums 8),.int .i64 (s.sums 9),.int .i64 (s.sums 10)]) (.agg #[.int .i64 (u.sums 0),.int .i64 (u.sums 1),.int .i64 (u.sums 2),.int .i64 (u.sums 3),.int .i64 (u.sums 4),.int .i64 (u.sums 5),.int .i64 (u.sums 6),.int .i64 (u.sums 7),.int .i64 (u.sums 8),.int .i64 (u.sums 9),.int .i64 (u.sums 10)])).run Tryz.prog W = .ok (.bool (zmn s u)) W:=fun W =>
        z1m (info:=Tryz.t2) (by kernel_rfl) (by kernel_rfl) (by kernel_rfl) (by kernel_rfl) Tryz.underlying2 _ _ s.sums u.sums (fun i hi=>match i,hi with | 0,_=>rfl | 1,_=>rfl | 2,_=>rfl | 3,_=>rfl | 4,_=>rfl | 5,_=>rfl | 6,_=>rfl | 7,_=>rfl | 8,_=>rfl | 9,_=>rfl | 10,_=>rfl | n+11,h=>absurd h (by omega)) (fun i hi=>match i,hi with | 0,_=>rfl | 1,_=>rfl | 2,_=>rfl | 3,_=>rfl | 4,_=>rfl | 5,_=>rfl | 6,_=>rfl | 7,_=>rfl | 8,_=>rfl | 9,_=>rfl | 10,_=>rfl | n+11,h=>absurd h (by omega)) W
       clear hw hu;cases hsame:zmn s u
       ·go_wp2_with fail
        go_quiet (fail)
        go_wp2_with fail;go_roundw
        case rel =>
         refine ⟨t+1,u,by omega,by go_num,xx,by rw [HU.out];exact HW3.out.ext xx,?_,?_⟩
         ·rw [HU.out]
          refine (HBD.out.stP CB.out (N:=p) p).mono ?_
          have:=Nat.mul_le_mul hN11 hN11;have e:((p * p:Nat):Int)=(p:Int) * p:=by simp
          omega
         ·have hr:=HRUN.out
          have e:h.n.toNat+2 - t=(h.n.toNat+2 - (t+1))+1:=by omega
          rw [e] at hr;simp only [zfa,← HU.out,hsame] at hr;exact hr
        case measure=>simp [intOf];omega
       ·go_wp2_with fail
        go_quiet (fail)
        go_wp2_with fail;refine bodyPost_ret (v:=.tuple #[.pointer (some ⟨w.heap.size,0,none⟩),.bool true]) (by simp [results,Tryz.results21,go_sem]) rfl ?_
        have hr:=HRUN.out;have e:h.n.toNat+2 - t=(h.n.toNat+2 - (t+1))+1:=by omega
        rw [e] at hr;simp only [zfa,← HU.out,hsame,if_true] at hr;rw [← hr];exact ⟨rfl,xx,by rw [HU.out];exact HW3.out.ext xx⟩
    ·go_wp2
     refine bodyPost_ret (v:=.tuple #[.pointer (some ⟨w.heap.size,0,none⟩),.bool false]) (by simp [results,Tryz.results21,go_sem]) rfl ?_
     have e:h.n.toNat+2 - t=0:=by omega
     have hr:=HRUN.out;rw [e] at hr;simp only [zfa] at hr;rw [← hr];exact ⟨rfl,HE.out,HWs.out⟩
end Go.Proofs.YtnoffnkmibjndaaGreat.Cu
namespace Go.Proofs.YtnoffnkmibjndaaGreat.Cu
open Go.Lib (hid)
open Go.RowKit Go.Shelf
theorem zn.nil (w:World) (k:IntKind):zn w k (.slice none 0 0) []:=⟨none,0,rfl,by simp,by omega,.inl rfl⟩
theorem zys (p n:Int) (a:Addr) (w:World) (c0:w.cell? a=some (.int .i64 n)) (ha:a.spot=none) :
  Calls Tryz.prog 46 #[.int .i64 p,.pointer (some a)] w fun e w'=>e = .returned (.bool (zl1 n p))∧Ext w w':=by
 obtain ⟨b,o,sp⟩:=a;obtain rfl:sp=none:=ha
 by_cases h:p < 0
 ·go_enter Tryz.func46,Tryz.ntmps46
  go_wp2
  all_goals
   go_ret;exact ⟨zbl (by simp [zl1,h]),xx⟩
 ·go_enter Tryz.func46,Tryz.ntmps46
  go_wp2
  all_goals
   go_ret;exact ⟨zbl (by simp [zl1];omega),xx⟩
theorem z1n (h:Hall) (sv pv:Value) (ps:List Int) (w:World) (hs:IsCnts w sv h.cs) (hp:zn w .i64 pv ps) (he:zgf h ps≠0) :
  Calls Tryz.prog 20 #[.agg #[.int .i64 h.n,.int .i64 h.most,sv],pv] w fun e w'=>e = .returned (.tuple #[.pointer none,.int .i64 (zgf h ps)])∧Ext w w':=by
 obtain ⟨sa,cap,rfl,hl1,hl2,-⟩:=hs.spec;obtain ⟨pa,pcap,rfl,hm1,hm2,-⟩:=hp.spec;have HS:=hid hs;have HP:=hid hp;have HE:=hid he;clear hs hp he
 go_enter Tryz.func20,Tryz.ntmps20
 go_wp2_with fail;refine (zqa h (.slice sa h.cs.length cap) _ (HS.out.ext xx)).mono ?_
 rintro e W1 ⟨rfl,hb1⟩;have k0:=zf hb1 (a:=⟨w.heap.size,0,none⟩) (v:=.int .i64 h.n) (by simp [go_sem]);have hE1:Ext w W1:=xx;have HE1:=hid hE1;clear hb1 hE1
 by_cases hc:chk h=0
 ·have hc':(chk h == 0)=true:=by simpa using hc
  go_wp2_with fail;refine (zhc ps pa pcap 46 #[.pointer (some ⟨w.heap.size,0,none⟩)] (zl1 h.n) _ (by omega) (by obtain ⟨_,_,e,_,_,h3⟩:=(HP.out.ext HE1.out).spec;cases e;exact h3)
   (fun args W=>Tryz.call46 args W) (fun x _ W hW=>zys x h.n _ W (zf hW k0) rfl)).mono ?_
  rintro e W2 ⟨rfl,hb2⟩;have hpa:ps.any (zl1 h.n)=true:=by
   have:=HE.out;unfold zgf at this;simp only [hc,ne_eq,not_true_eq_false,if_false] at this
   by_cases ha:ps.any (zl1 h.n)=true
   ·exact ha
   ·simp [ha] at this
  go_wp2_with fail;refine bodyPost_ret (v:=.tuple #[.pointer none,.int .i64 2]) (by simp [results,Tryz.results20,go_sem]) rfl ?_
  refine ⟨?_,HE1.out.trans' hb2⟩;have e:zgf h ps=2:=by simp [zgf,hc,hpa]
  rw [e]
 ·have hc':(chk h == 0)=false:=by simpa using hc
  go_wp2_with fail;refine bodyPost_ret (v:=.tuple #[.pointer none,.int .i64 (chk h)]) (by simp [results,Tryz.results20,go_sem]) rfl ?_
  refine ⟨?_,HE1.out⟩;have e:zgf h ps=chk h:=by simp [zgf,hc]
  rw [e]
theorem z4p (h:Hall) (sv pv:Value) (ps:List Int) (w:World) (hs:IsCnts w sv h.cs) (hp:zn w .i64 pv ps) (he:zgf h ps=0) :
  Calls Tryz.prog 20 #[.agg #[.int .i64 h.n,.int .i64 h.most,sv],pv] w fun e w'=>∃ b r,e = .returned (.tuple #[.pointer (some ⟨b,0,none⟩),.int .i64 0])∧Ext w w'∧zhx w' b r h sv:=by
 have hc:chk h=0:=by
  unfold zgf at he
  by_cases e:chk h=0
  ·exact e
  ·simp [e] at he
 have hpa:ps.any (zl1 h.n)=false:=by
  unfold zgf at he;simp only [hc,ne_eq,not_true_eq_false,if_false] at he
  by_cases ha:ps.any (zl1 h.n)=true
  ·simp [ha] at he
  ·simpa using ha
 have v:=valid_of_chk hc;obtain ⟨sa,cap,rfl,hl1,hl2,-⟩:=hs.spec;obtain ⟨pa,pcap,rfl,hm1,hm2,-⟩:=hp.spec;have HS:=hid hs;have HP:=hid hp;have V:=hid v;clear hs hp he v
 go_enter Tryz.func20,Tryz.ntmps20
 go_wp2_with fail;refine (zqa h (.slice sa h.cs.length cap) _ (HS.out.ext xx)).mono ?_
 rintro e W1 ⟨rfl,hb1⟩;have k0:=zf hb1 (a:=⟨w.heap.size,0,none⟩) (v:=.int .i64 h.n) (by simp [go_sem]);have k1:=zf hb1 (a:=⟨w.heap.size,1,none⟩) (v:=.int .i64 h.most) (by simp [go_sem]);have k2:=zf hb1 (a:=⟨w.heap.size,2,none⟩) (v:=.slice sa h.cs.length cap) (by simp [go_sem]);have hE1:Ext w W1:=xx;have HE1:=hid hE1;clear hb1 hE1;have hc':(chk h == 0)=true:=by simpa using hc
 go_wp2_with fail;refine (zhc ps pa pcap 46 #[.pointer (some ⟨w.heap.size,0,none⟩)] (zl1 h.n) _ (by omega) (by obtain ⟨_,_,e,_,_,h3⟩:=(HP.out.ext HE1.out).spec;cases e;exact h3)
  (fun args W=>Tryz.call46 args W) (fun x _ W hW=>zys x h.n _ W (zf hW k0) rfl)).mono ?_
 rintro e W2 ⟨rfl,hb2⟩;replace k0:=zf hb2 k0;replace k1:=zf hb2 k1;replace k2:=zf hb2 k2;have HE2:=hid (HE1.out.trans' hb2);clear hb2;go_wp2_with fail;refine (z1l h (.slice sa h.cs.length cap) V.out _ (HS.out.ext HE2.out)).mono ?_
 rintro e W3 ⟨rfl,hsh,hm⟩;have HSh:=hid hsh;have HM:=hid hm;clear hsh hm k0 k1 k2;go_wp2_with fail;refine bodyPost_ret (v:=.tuple #[.pointer (some ⟨W2.heap.size+1+1,0,none⟩),.int .i64 0]) (by simp [results,Tryz.results20,go_sem]) rfl ?_
 have hE3:Ext w W3:=HE2.out.trans' HSh.out.ext;exact ⟨_,_,rfl,hE3,HSh.out.c0,HSh.out.c1,HSh.out.c2,HSh.out.c3,HS.out.ext hE3,HM.out⟩
end Go.Proofs.YtnoffnkmibjndaaGreat.Cu
namespace Go.Proofs.YtnoffnkmibjndaaGreat.Cu
open Go.Lib (hid)
open Go.RowKit Go.Shelf
def Stp.cells (x:Stp):List Value:=[.bool x.win,.int .i64 x.idx,.bool x.back]
def zfc (w:World) (v:Value) (l:List Stp):Prop:=IsRows w 3 v (l.map Stp.cells)
theorem zfc.ext {w w':World} (h:Ext w w') {v:Value} {l:List Stp} (hr:zfc w v l):zfc w' v l:=IsRows.ext h hr
theorem zfc.nil (w:World):zfc w (.slice none 0 0) []:=⟨none,0,rfl,by simp,by omega,.inl rfl⟩
theorem zfc.spec {w:World} {v:Value} {l:List Stp} (h:zfc w v l) :
  ∃ sa cap,v = .slice sa l.length cap∧l.length≤cap∧cap≤9223372036854775807∧(l=[]∨∃ b off,sa=some ⟨b,off,none⟩∧∀ i,(h:i < l.length) →
   w.cell? ⟨b,off+i * 3,none⟩=some (.bool l[i].win)∧w.cell? ⟨b,off+i * 3+1,none⟩=some (.int .i64 l[i].idx)∧w.cell? ⟨b,off+i * 3+2,none⟩=some (.bool l[i].back)):=by
 obtain ⟨sa,cap,h1,h2,h3,h4⟩:=h;refine ⟨sa,cap,by simpa using h1,by simpa using h2,h3,?_⟩
 rcases h4 with h4 | ⟨b,off,e,h4⟩
 ·exact .inl (by simpa using h4)
 ·refine .inr ⟨b,off,e,fun i hi=>?_⟩
  have h4':=h4 i (by simpa using hi);have a0:=h4' 0 (by simp [Stp.cells]);have a1:=h4' 1 (by simp [Stp.cells]);have a2:=h4' 2 (by simp [Stp.cells]);simp [Stp.cells] at a0 a1 a2;exact ⟨a0,a1,a2⟩
theorem zfc.opened {w:World} {sa:Option Addr} {cap n:Nat} {l:List Stp} (h:zfc w (.slice sa n cap) l) :
  (l=[]∨∃ b off,sa=some ⟨b,off,none⟩∧∀ i,(h:i < l.length) →
   w.cell? ⟨b,off+i * 3,none⟩=some (.bool l[i].win)∧w.cell? ⟨b,off+i * 3+1,none⟩=some (.int .i64 l[i].idx)∧w.cell? ⟨b,off+i * 3+2,none⟩=some (.bool l[i].back)):=by
 obtain ⟨sa',cap',e,_,_,h3⟩:=h.spec;cases e;exact h3
theorem zfc.mk {w:World} {l:List Stp} {b off cap:Nat} (h2:l.length≤cap) (h3:cap≤9223372036854775807) (h:∀ i,(h:i < l.length) →
   w.cell? ⟨b,off+i * 3,none⟩=some (.bool l[i].win)∧w.cell? ⟨b,off+i * 3+1,none⟩=some (.int .i64 l[i].idx)∧w.cell? ⟨b,off+i * 3+2,none⟩=some (.bool l[i].back)) :
  zfc w (.slice (some ⟨b,off,none⟩) l.length cap) l:=by
 refine ⟨_,cap,by simp,by simpa using h2,h3,.inr ⟨b,off,rfl,fun i hi j hj=>?_⟩⟩;simp only [List.length_map] at hi;obtain ⟨a0,a1,a2⟩:=h i hi;simp only [List.getElem_map,Stp.cells,List.length_cons,List.length_nil] at hj ⊢
 match j,hj with
 | 0,_=>simpa using a0
 | 1,_=>simpa using a1
 | 2,_=>simpa using a2
end Go.Proofs.YtnoffnkmibjndaaGreat.Cu
