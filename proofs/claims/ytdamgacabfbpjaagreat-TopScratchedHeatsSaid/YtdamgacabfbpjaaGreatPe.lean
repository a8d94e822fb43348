/-
  The walk of dividends: two ranges over the winners, with a map of those that are backed.
-/
import Derived.Test.YtdamgacabfbpjaaGreatPd
import Derived.Test.YtdamgacabfbpjaaGreatBb
import Derived.Test.YtdamgacabfbpjaaGreatBa
set_option maxRecDepth 200000
set_option maxHeartbeats 0
set_option linter.unusedSimpArgs false
set_option linter.unusedVariables false
namespace Go.Proofs.YtdamgacabfbpjaaGreat
open Go.Lib (hid)
open Go.RowKit Go.Shelf
attribute [local go_sem] Oper.semAt_some
theorem zaid:El 127 130 3:=El.mk' (bytes:=24) (z:=.agg #[.int .i64 0,.int .i64 0,.int .i64 0]) (by kernel_rfl) (by kernel_rfl) rfl (by omega) (by omega)
theorem zat.del' {K V:Type} [DecidableEq K] {P:Program} {tm tk tv:TypeId} {ke:K→Value} {ve:V→Value} (hk:Keyed P tm tk tv ke ve) {W:World} {r:Nat} {F:K→Option V} (h:zat ke ve W r F) (k:K) (ty:TypeId) :
  ∃ W',(Builtin.delete_ #[tm,tk] ty #[.map (some r),ke k]).run P W = .ok (.tuple #[]) W'∧W.grownBy W' (some r)∧W'.heap.size=W.heap.size∧zat ke ve W' r (fun k'=>if k'=k then none else F k'):=by
 obtain ⟨es,c,h1,h2,h3,h4⟩:=h;obtain ⟨W',r1,r2,r3,r4,r5,r6⟩:=zat.del hk h1 h2 h3 k ty;exact ⟨W',r1,r2,r3,_,_,r4,r5,r6,fun k'=>by rw [zacs,h4]⟩
theorem zat.len {P:Program} {tm tk tv:TypeId} {ke:Spt→Value} {ve:Int→Value} (hk:Keyed P tm tk tv ke ve) {W:World} {r:Nat} {F:Spt→Option Int} (h:zat ke ve W r F) {l:List Spt} (hl:l.Nodup) (hm:∀ k,F k≠none↔k∈l) (ty:TypeId) :
  (Builtin.len_ #[tm] ty #[.map (some r)]).run P W = .ok (.int .i64 (l.length:Int)) W:=by
 obtain ⟨es,c,h1,h2,h3,h4⟩:=h;have e:=zadl h2 hl fun k=>by rw [h4];exact hm k
 have h1':W.heap[r]? = some (.map (es.map (zab ke ve)).toArray c):=h1;have hs:(es.map (zab ke ve)).toArray.size=l.length:=by simpa using e
 simp [Builtin.len_,run_underlying hk.und,run_getObj_map W r _ c h1',hs,goInt]
theorem zaa7 {b:Bk} {fs:List (List Int)} (k:Spt):zfb b (zbw b fs) k≠none↔k∈zda b fs:=by
 unfold zfb zda;rw [List.mem_filter]
 by_cases h:k∈zbw b fs∧za7 b k≠0
 ·rw [if_pos h];simp [h.1,h.2]
 ·rw [if_neg h];simp only [ne_eq,not_true,false_iff];intro h2;exact h ⟨h2.1,by simpa using h2.2⟩
def zfh (b:Bk) (fs:List (List Int)) (pre:List Spt):List (List Value):=((pre.filter fun s=>decide (za7 b s≠0)).map fun s=>(s,zet b fs s)).map zia
theorem z3u (p m:Nat) (b:Bk) (ba sa fa:Option Addr) (bcap scap fcap:Nat) (ps:List (Value × List Int)) (w:World) (ht:zes w p m b ba bcap sa scap) (hf:zcz w (.slice fa ps.length fcap) ps) (hfv:zdw b (zj ps)) :
  CallsIn Fence.wide 9 Tryz.prog 83 #[.pointer (some ⟨p,0,none⟩),.slice fa ps.length fcap] w fun e w'=>∃ v,e = .returned v∧Ext w w'∧zbd w' 3 v ((zeu b (zj ps)).map zia)∧∀ g,v.ownBlock=some g→w.heap.size≤g:=by
 have hmm:=@run_makeMap Tryz.prog;have HT:=hid ht;have HF:=hid hf;have FV:=hid hfv;have hzp:=ht.till.lt;have hzm:=ht.map.lt;clear ht hf hfv;refine callsIn_of_wp_marks Tryz.func83 rfl trivial ?_ rfl;simp only [Tryz.ntmps83,List.size_toArray,List.length_cons,List.length_nil,Nat.reduceAdd,Nat.reduceSub,Array.replicate_succ,Array.replicate_zero,List.push_toArray,List.append_toArray,List.nil_append,List.cons_append];gi_wp2_with fail;refine ⟨trivial,(callsIn_wide.2 (zt4 p fa ps.length fcap _)).mono ?_⟩;rintro e W5 ⟨rfl,hE5,c5t,c5f,hz5⟩;simp only [World.size_alloc] at c5t c5f hz5;have hEw:Ext w W5:=Ext.trans' (by exact xx) hE5;have hm5:zat zbj zej W5 (w.heap.size+1) (zfb b []):=by
  rw [zaa5];have hm:=zza (ke:=zbj) (ve:=zej) (w.alloc (.cells #[.pointer (some ⟨p,0,none⟩)] 80));rw [World.size_alloc] at hm;exact hm.ext (Ext.trans' (by exact xx) hE5)
 have x2:W5.cell? ⟨w.heap.size,0,none⟩=some (.pointer (some ⟨p,0,none⟩)):=zd hE5 (by simp [go_sem]);have x5:W5.cell? ⟨w.heap.size+1+1,0,none⟩=some (.map (some (w.heap.size+1))):=zd hE5 (by simp [go_sem]);have HEW:=hid hEw;have HM5:=hid hm5;clear hE5 hEw hm5 hmm;gi_wp2_with fail;refine zly (n:=9) (R:=fun k=>k < W5.heap.size∧k≠w.heap.size+1) rfl (enters_of Tryz.func68 (by kernel_rfl) rfl)
  (zsa b ba sa fa bcap scap fcap (w.heap.size+3) (w.heap.size+3+1) p ps (fun k=>k < W5.heap.size∧k≠w.heap.size+1) W5 (fun k hk=>hk.1)
   (fun W hk=>z6j HT.out HF.out (HEW.out.trans (Kept.below (hk.mono (T:=fun k=>k < w.heap.size) fun k hk1 hk2=>⟨hk1,by omega⟩) HEW.out.size)) c5t c5f hk ⟨by omega,by omega⟩ ⟨by omega,by omega⟩) FV.out.ok)
  (Below.refl _ _) (fun k hk=>hk.1) (fun _=>rfl)
  (fun O pre W=>(∀ k,O k→W5.heap.size≤k)∧W5.heap.size≤W.heap.size∧Kept (fun k=>k < W5.heap.size∧k≠w.heap.size+1) W5 W∧zat zbj zej W (w.heap.size+1) (zfb b pre))
  (fun _ _ _ _=>False) ?bears (fun _ _ _ _ _ _ h _ _ _=>h) ⟨fun _ h=>h.elim,Nat.le_refl _,Kept.refl _ _,HM5.out⟩ ?round ?done (fun _ _ _ _ _ _ _ h _=>h.elim)
 case bears =>
  rintro pre O O' A B ⟨g1,g2,g3,g4⟩ hk hO1 hO2;have hlow:Kept (fun k=>k < W5.heap.size) A B:=hk.mono fun k _ hk=>⟨fun ho=>by have:=g1 k ho;omega,by omega⟩
  refine ⟨fun k hk=>?_,by have:=hk.size;omega,g3.trans (hlow.mono fun k _ h=>h.1),g4.of_heap (hlow.same _ g4.lt (by omega))⟩
  rcases hO2 k hk with h | h
  ·exact g1 k h
  ·omega
 case round =>
  rintro l O pre y W ⟨g1,g2,g3,g4⟩ hy hO2 hW2;simp only [zbj];gi_wp2_with fail;refine ⟨xx,fun W2 hk2=>?_⟩;have hE2:Ext W (W.alloc (.cells #[.int .i64 y.1,.int .i64 y.2] 87)):=xx;have y0:=hk2.cell (p:=⟨W.heap.size,0,none⟩) (v:=.int .i64 y.1) (by simp [go_sem]) (by simp;omega);have y1:=hk2.cell (p:=⟨W.heap.size,1,none⟩) (v:=.int .i64 y.2) (by simp [go_sem]) (by simp;omega);have hz2:=hk2.size;simp only [World.size_alloc] at hz2;have g32:Kept (fun k=>k < W5.heap.size∧k≠w.heap.size+1) W5 W2:=(g3.trans (Kept.of_below hE2)).trans (hk2.mono fun k _ h=>by omega);have g42:zat zbj zej W2 (w.heap.size+1) (zfb b pre):=(g4.ext hE2).of_heap (hk2.same _ (by simp;have:=g4.lt;omega) (by omega));have hEw2:Ext w W2:=HEW.out.trans (Kept.below (g32.mono (T:=fun k=>k < w.heap.size) fun k hk1 hk2=>⟨hk1,by omega⟩) HEW.out.size);have q2:=g32.cell x2 ⟨by simp only;omega,by simp only;omega⟩;have q5:=g32.cell x5 ⟨by simp only;omega,by simp only;omega⟩;have ht2:=(HT.out.ext hEw2)
  have q9:=ht2.till.c9;have hlk:∀ n,(Instr.lookup 99 (.map (some m)) (.agg #[.int .i64 y.1,.int .i64 y.2]) false).run Tryz.prog (W2.drewN n) = .ok (.int .i64 (za7 b y)) (W2.drewN n) :=
   fun n=>zw3 (ht2.map.of_heap (W':=W2.drewN n) rfl) y
  obtain ⟨u,hu⟩:∃ u,u=za7 b y:=⟨_,rfl⟩
  rw [← hu] at hlk;have HU:=hid hu;have HO:=hid hO2;have HM2:=hid g42;have HK5:=hid g32;clear hu hO2 g42 g32 g3 g4 hk2 hE2 hEw2 ht2 hy;gi_wp2_with fail;refine zah4 rfl rfl (by kernel_rfl) (by kernel_rfl) (by kernel_rfl) ?_
  dsimp only [List.dropLast]
  repeat (first | go_big_quiet_step (fail) | quiet_step (fail))
  refine wpQuiet_nil ?_
  rintro _ ⟨nq,rfl⟩;obtain ⟨W4,hup,hg4,hz4,hm4⟩:=(HM2.out.of_heap (W':=W2.drewN nq) rfl).upd zcp y u;simp only [zbj,zej] at hup;have hkG:∀ (S:Nat→Prop),¬ S (w.heap.size+1)→Kept S W2 W4:=fun S h=>(Kept.of_below (Ext.drN (Below.refl _ W2) nq)).grown hg4 (fun k e _ hk=>by cases e;exact h hk)
  have y04:=(hkG (fun k=>k≠w.heap.size+1) (fun h=>h rfl)).cell y0 (by simp only;omega);have y14:=(hkG (fun k=>k≠w.heap.size+1) (fun h=>h rfl)).cell y1 (by simp only;omega);have q54:=(hkG (fun k=>k≠w.heap.size+1) (fun h=>h rfl)).cell q5 (by simp only;omega);have hlk4:(Instr.lookup 99 (.map (some (w.heap.size+1))) (.agg #[.int .i64 y.1,.int .i64 y.2]) false).run Tryz.prog W4 = .ok (.int .i64 u) W4:=hm4.look zcp y (by rw [if_pos rfl]);have hz24:=(hkG (fun _=>False) (fun h=>h)).size;have HKG:=hid hkG;have HG4:=hid hg4;have HM4:=hid hm4;clear hkG hg4 hm4 hlk y0 y1 q2 q5 q9;have hR:∀ (W6:World),(∀ (S:Nat→Prop),¬ S (w.heap.size+1)→Kept S W2 W6)→Kept (fun k=>(k < W5.heap.size∧k≠w.heap.size+1)∨O k∨k=W5.heap.size+1∨k+1=W5.heap.size+1) W2 W6∧Kept (fun k=>k < W5.heap.size∧k≠w.heap.size+1) W5 W6:=fun W6 hk =>
   ⟨hk _ fun h=>by
    rcases h with h | h | h | h
    ·exact h.2 rfl
    ·have:=g1 _ h;omega
    ·omega
    ·omega,HK5.out.trans (hk _ fun h=>h.2 rfl)⟩
  have HR:=hid hR;clear hR
  by_cases h0:u=0
  ·subst h0
   obtain ⟨W6,hdel,hg6,hz6,hm6⟩:=zat.del' zcp HM4.out y 0;simp only [zbj] at hdel;have hk6:∀ (S:Nat→Prop),¬ S (w.heap.size+1)→Kept S W2 W6:=fun S h=>(HKG.out S h).grown hg6 (fun k e _ hk=>by cases e;exact h hk)
   have hz46:=(hk6 (fun _=>False) (fun h=>h)).size;have HK6:=hid hk6;have HM6:=hid hm6;have HU0:=hid HU.out.symm;clear hg6 hm6 hk6;gi_wp2_with fail;obtain ⟨r1,r2⟩:=HR.out _ HK6.out;refine ⟨r1,g1,by omega,r2,?_⟩;have e:=zaa6 (b:=b) (pre:=pre) HU0.out;rw [← e];have:=HM6.out;rw [HU.out] at this;exact this
  ·have hu0:(u == 0)=false:=by simpa using h0
   have HU0:=hid (fun h=>h0 (HU.out.trans h):za7 b y≠0);clear h0;gi_wp2_with fail;obtain ⟨r1,r2⟩:=HR.out _ HKG.out;refine ⟨r1,g1,by omega,r2,?_⟩;have e:=zadk (b:=b) (pre:=pre) HU0.out;rw [← e];have:=HM4.out;rw [HU.out] at this;exact this
 case done =>
  rintro D O xs V0 hD rfl ⟨g1,g2,g3,g4⟩ hDk;have hEW:Ext w V0:=HEW.out.trans (Kept.below (g3.mono (T:=fun k=>k < w.heap.size) fun k hk1 hk2=>⟨hk1,by omega⟩) HEW.out.size);have q2:=g3.cell x2 ⟨by simp only;omega,by simp only;omega⟩;have q5:=g3.cell x5 ⟨by simp only;omega,by simp only;omega⟩;have HEV:=hid hEW;have HMV:=hid g4;have HDK:=hid hDk;have hDlt:=(Array.getElem?_eq_some_iff.1 hDk).1;have hzw0:w.heap.size < V0.heap.size:=by omega
  have hzw2:w.heap.size+1+1 < V0.heap.size:=by omega
  clear g3 g4 hDk hEW x2 x5 c5t c5f HM5 HEW;gi_wp2_with fail;refine ⟨trivial,(callsIn_wide.2 (zt4 p fa ps.length fcap _)).mono ?_⟩;rintro e W6 ⟨rfl,hE6,c6t,c6f,hz6⟩;simp only [World.size_alloc] at c6t c6f hz6;have hE:Ext V0 W6:=Ext.trans' (by exact xx) hE6;have hO6:W6.heap[V0.heap.size]? = some (.cells #[.slice none 0 0] 127 (0,0)):=(hE6.block _ (by simp)).trans (World.alloc_heap_new V0 _);have HO6:=hid hO6;have HE6:=hid hE;clear hE6 hO6 hE;gi_wp2_with fail;refine zly (n:=9) (R:=fun k=>k < W6.heap.size∧k≠V0.heap.size) rfl (enters_of Tryz.func68 (by kernel_rfl) rfl)
   (zsa b ba sa fa bcap scap fcap (V0.heap.size+1) (V0.heap.size+1+1) p ps (fun k=>k < W6.heap.size∧k≠V0.heap.size) W6 (fun k hk=>hk.1)
    (fun W' hk=>z6j HT.out HF.out (HEV.out.trans ((Kept.below (B:=w.heap.size) ((Kept.of_below HE6.out).mono (T:=fun k=>k < w.heap.size) fun k _ _=>trivial) HEV.out.size).trans
     (Kept.below (B:=w.heap.size) (hk.mono (T:=fun k=>k < w.heap.size) fun k hk1 hk2=>⟨hk1,by have:=HEV.out.size;omega⟩) (by have:=HEV.out.size;have:=HE6.out.size;omega)))) c6t c6f hk ⟨by omega,by simp⟩ ⟨by omega,by simp;omega⟩) FV.out.ok)
   (Below.refl _ _) (fun k hk=>hk.1) (fun _=>rfl)
   (fun O pre W'=>(∀ k,O k→W6.heap.size≤k)∧W6.heap.size≤W'.heap.size∧Ext V0 W'∧zur 127 130 3 V0.heap.size (W6.heap.size+2) (zfh b (zj ps) pre) O W')
   (fun _ _ _ _=>False) ?bears2 (fun _ _ _ _ _ _ h _ _ _=>h) ⟨fun _ h=>h.elim,Nat.le_refl _,HE6.out,⟨_,HO6.out,zp.nil _ _ _ _,fun g hg=>(by cases hg)⟩⟩ ?round2 ?done2 (fun _ _ _ _ _ _ _ h _=>h.elim)
  case bears2 =>
   rintro pre O O' A B ⟨g1,g2,g3,g4⟩ hk hO1 hO2;have hlow:Kept (fun k=>k < W6.heap.size) A B:=hk.mono fun k _ hk=>⟨fun ho=>by have:=g1 k ho;omega,by omega⟩
   refine ⟨fun k hk=>?_,by have:=hk.size;omega,g3.trans (Kept.below (hlow.mono fun k _ h=>by have:=HE6.out.size;omega) g3.size),g4.kept hk ⟨fun ho=>by have:=g1 _ ho;omega,by omega⟩ (fun g h1 h2=>⟨h2,by omega⟩) (fun g h=>(hO2 g h).imp id fun h=>h.1)⟩
   rcases hO2 k hk with h | h
   ·exact g1 k h
   ·omega
  case round2 =>
   rintro l O pre y X ⟨g1,g2,g3,g4⟩ hy hO2 hX2;simp only [zbj];gi_wp2_with fail;refine ⟨xx,fun X2 hk2=>?_⟩;have hE2:Ext X (X.alloc (.cells #[.int .i64 y.1,.int .i64 y.2] 87)):=xx;have y0:=hk2.cell (p:=⟨X.heap.size,0,none⟩) (v:=.int .i64 y.1) (by simp [go_sem]) (by simp;omega);have y1:=hk2.cell (p:=⟨X.heap.size,1,none⟩) (v:=.int .i64 y.2) (by simp [go_sem]) (by simp;omega);have g32:Ext V0 X2:=(g3.trans' hE2).trans (Kept.below (hk2.mono fun k _ h=>by have:=HE6.out.size;omega) (by have:=g3.size;simp;omega));have g42:zur 127 130 3 V0.heap.size (W6.heap.size+2) (zfh b (zj ps) pre) O X2 :=
    (g4.kept (O':=O) (.of_below hE2) (S:=fun _=>True) trivial (fun _ _ _=>trivial) (fun _ h=>.inl h)).kept hk2 (by omega) (fun g h1 _=>by omega) (fun _ h=>.inl h)
   have hz2:=hk2.size;simp only [World.size_alloc] at hz2;have q2':=zd g32 q2;have q5':=zd g32 q5;have hEw2:Ext w X2:=HEV.out.trans' g32;have hm2:=HMV.out.ext g32;have hsz:=HEV.out.size;have hszW:=HE6.out.size;obtain ⟨u,hu⟩:∃ u,u=za7 b y:=⟨_,rfl⟩
   have HU:=hid hu;have HG:=hid g42;have HG3:=hid g32;have HOO:=hid hO2
   by_cases h0:u=0
   ·have hlk:(Instr.lookup 99 (.map (some (w.heap.size+1))) (.agg #[.int .i64 y.1,.int .i64 y.2]) true).run Tryz.prog X2 = .ok (.tuple #[.int .i64 0,.bool false]) X2 :=
     hm2.look_none zcp y (by unfold zfb;rw [if_neg (fun h=>h.2 (by rw [← hu];exact h0))]) zw2
    have hds:zfh b (zj ps) (pre ++ [y])=zfh b (zj ps) pre:=by unfold zfh;rw [List.filter_append];simp [← hu,h0]
    have HDS:=hid hds;clear hu h0 hds g42 g32 hk2 hm2 hEw2 g3 g4 hO2 hE2;gi_wp2_with fail;exact ⟨Kept.refl _ _,g1,by omega,HG3.out,by rw [HDS.out];exact HG.out⟩
   ·have hlk:(Instr.lookup 99 (.map (some (w.heap.size+1))) (.agg #[.int .i64 y.1,.int .i64 y.2]) true).run Tryz.prog X2 = .ok (.tuple #[.int .i64 u,.bool true]) X2 :=
     hm2.look_ok zcp y (by
      unfold zfb;have hyw:y∈zbw b (zj ps):=by obtain ⟨r,hr⟩:=hy;rw [hr];simp
      rw [if_pos ⟨hyw,by rw [← hu];exact h0⟩,← hu])
    have hds:zfh b (zj ps) (pre ++ [y])=zfh b (zj ps) pre ++ [zia (y,zet b (zj ps) y)]:=by unfold zfh;rw [List.filter_append];simp [← hu,h0]
    have hyb:y∈zda b (zj ps):=by
     obtain ⟨r,hr⟩:=hy;unfold zda;rw [List.mem_filter];exact ⟨by rw [hr];simp,by rw [← hu];simpa using h0⟩
    obtain ⟨c,hc⟩:∃ c:Int,c=((zda b (zj ps)).length:Int):=⟨_,rfl⟩
    have hc1:1≤c:=by have:=List.length_pos_of_mem hyb;omega
    have hln:=fun n=>zat.len zcp (hm2.of_heap (W':=X2.drewN n) rfl) ((z8l FV.out).filter _) (zaa7 (b:=b) (fs:=zj ps)) 3
    rw [show (((zbw b (zj ps)).filter fun s=>decide (za7 b s≠0)).length:Int)=c from hc.symm] at hln;have hnet:=(zle FV.out.book).2.2.2.1;have hin:=(zle FV.out.book).1;have hcar:=FV.out.book.car;have ht2:=HT.out.ext hEw2;have q15:=ht2.till.c15;obtain ⟨N,hN⟩:∃ N,N=ziv b:=⟨_,rfl⟩
    rw [← hN] at q15 hnet;have hN0:0≤N:=by omega
    have hN1:N≤11000000:=by omega
    have hc0:¬ c=0:=by omega
    have HC:=hid hc;have HN:=hid hN;have HDS:=hid hds;have HT2:=hid ht2;have HU0:=hid h0;have HEW2:=hid hEw2;clear hu h0 hds g42 g32 hk2 hm2 hEw2 g3 g4 hO2 hE2 hyb hnet hin hcar ht2 hc hN;gi_wp2_with fail;refine zag3 (by kernel_rfl) (by kernel_rfl) ?_
    repeat (first | go_big_quiet_step (fail) | quiet_step (fail))
    refine wpQuiet_nil ?_
    rintro _ ⟨nq,rfl⟩;obtain ⟨S,hS⟩:∃ S,S=N / c:=⟨_,rfl⟩
    rw [← hS];have hS0:0≤S:=by rw [hS];exact Int.ediv_nonneg hN0 (by omega)
    have hS1:S≤11000000:=by rw [hS];exact Int.le_trans (Int.ediv_le_self _ hN0) hN1
    have HSS:Hid (S=zgg b (zj ps)):=hid (by unfold zgg;rw [hS,HN.out,HC.out]);obtain ⟨Z,hZ⟩:∃ Z,Z=X2.drewN nq:=⟨_,rfl⟩
    have hEZ:Ext X2 Z:=by rw [hZ];exact Ext.drN (Below.refl _ _) nq
    have ht3:=HT2.out.ext hEZ;have c7:=ht3.till.c7;have hzpZ:=ht3.till.lt;have q2z:=zd hEZ q2';have y0z:=zd hEZ y0;have y1z:=zd hEZ y1;have hzZ:=hEZ.size;have hgz:=HG.out.kept (O':=O) (.of_below hEZ) (S:=fun _=>True) trivial (fun _ _ _=>trivial) (fun _ h=>.inl h);obtain ⟨ov,hov,hown,hno⟩:=hgz;obtain ⟨oa,on,oc,rfl⟩:=hown.isSlice;have ho0:Z.cell? ⟨V0.heap.size,0,none⟩=some (.slice oa on oc):=by rw [cell_of_row _ _ _ _ _ _ hov];rfl
    have hzo:=(Array.getElem?_eq_some_iff.1 hov).1;have hu1:1≤u∧u≤100000:=by
     have:=zzu FV.out.book y;have h1:=HU.out;have h2:=HU0.out;omega
    have hst:=FV.out.book.step;obtain ⟨st,hst'⟩:∃ st,st=b.step:=⟨_,rfl⟩
    rw [← hst'] at hst c7;obtain ⟨M,hM⟩:∃ M,M=u * st:=⟨_,rfl⟩
    have hM1:1≤M:=by rw [hM];exact Int.mul_pos (by omega) (by omega)
    have hM2:M≤100000 * 100:=by rw [hM];exact Int.mul_le_mul hu1.2 hst.2 (by omega) (by omega)
    obtain ⟨Q,hQ⟩:∃ Q,Q=S / M:=⟨_,rfl⟩
    have hQ0:0≤Q:=by rw [hQ];exact Int.ediv_nonneg hS0 (by omega)
    have hQ1:Q≤11000000:=by rw [hQ];exact Int.le_trans (Int.ediv_le_self _ hS0) hS1
    obtain ⟨P,hP⟩:∃ P,P=Q * st:=⟨_,rfl⟩
    have hP0:0≤P:=by rw [hP];exact Int.mul_nonneg hQ0 (by omega)
    have hP1:P≤11000000 * 100:=by rw [hP];exact Int.mul_le_mul hQ1 hst.2 (by omega) (by omega)
    have HPP:Hid (P=zet b (zj ps) y):=hid (by unfold zet;rw [hP,hQ,hM,hst',HU.out,HSS.out]);have hwM:IntKind.i64.wrap (u * st)=M:=by rw [← hM];exact IntWalk.i64_in _ (by omega)
    have hwQ:IntKind.i64.wrap (S.tdiv M)=Q:=by rw [hQ];exact IntWalk.i64_quo S M ⟨hS0,by omega,hM1⟩
    have hwP:IntKind.i64.wrap (Q * st)=P:=by rw [← hP];exact IntWalk.i64_in _ (by omega)
    have hM0:¬ M=0:=by omega
    have HEZ:=hid hEZ;have HOV:=hid hov;have HOWN:=hid hown;have HNO:=hid hno;have HLL:Hid ((zfh b (zj ps) pre).length+1≤1000000):=by
     refine hid ?_
     obtain ⟨rest,hr⟩:=hy;have h1:=z3t FV.out;rw [hr] at h1;have h2:=List.length_filter_le (fun s=>decide (za7 b s≠0)) pre;unfold zfh;rw [List.length_map,List.length_map];rw [List.length_append] at h1;omega
    rw [← hZ];clear hZ hEZ ht3 hov hown hno hQ hM hP hS hlk hln q15 q2' q5' y0 y1 hst' HG HN HC hy;gi_wp2_with fail;refine znm rfl rfl (by kernel_rfl) (W6.heap.size+2) (by omega)
     [sqV (.slice oa on oc),sqV (.pointer (some ⟨X.heap.size,0,none⟩)),sqV (.int .i64 y.1),sqV (.pointer (some ⟨X.heap.size,1,none⟩)),sqV (.int .i64 y.2),sqV (.int .i64 S),sqV (.int .i64 u),sqV (.pointer (some ⟨p,0,none⟩)),sqV (.pointer (some ⟨p,0,none⟩)),sqV (.pointer (some ⟨p,0,none⟩)),sqV (.pointer (some ⟨p,7,none⟩)),sqV (.int .i64 st),sqV (.int .i64 M),sqV (.int .i64 Q),sqV (.pointer (some ⟨p,0,none⟩)),sqV (.pointer (some ⟨p,0,none⟩)),sqV (.pointer (some ⟨p,0,none⟩)),sqV (.pointer (some ⟨p,7,none⟩)),sqV (.int .i64 st),sqV (.int .i64 P),sqV (.agg #[.int .i64 y.1,.int .i64 y.2,.int .i64 P]),sqW (fun v W=>∃ b,v = .slice (some ⟨b,0,none⟩) 1 1∧zan W 3 b 0 ([[Value.int .i64 y.1,Value.int .i64 y.2,Value.int .i64 P]])) (fun _ _ _ ⟨b,h1,h2⟩ e=>⟨b,h1,h2.ext e⟩),sqW (fun v W=>zp W (W6.heap.size+2) 130 3 v (zfh b (zj ps) pre ++ [[.int .i64 y.1,.int .i64 y.2,.int .i64 P]])∧Kept (fun k=>some k≠(Value.slice oa on oc).ownBlock) Z W∧∀ g,v.ownBlock=some g→(Value.slice oa on oc).ownBlock=some g∨Z.heap.size≤g) (fun _ _ _ ⟨h1,h2,h3⟩ e=>⟨h1.ext e,h2.trans (.of_below e),h3⟩)]
     [true,true,true,true,true,true,true,true,true,true,true,true,true,true,true,true,true,true,true,true,true,false,false] [false,false,false,false,false,false,false,false,false,false,false,false,false,false,false,false,false,false,false,false,false,false,true] [true,true,true,true,true,true,true,true,true,true,true,true,true,true,true,true,true,true,true,true,true,false,true] [true,true,true,true,true,true,true,true,true,true,true,true,true,true,true,true,true,true,true,true,true,true,true]
     (by kernel_rfl) (by kernel_rfl) (by decide +kernel) (by decide +kernel) (by decide +kernel) rfl ⟨rfl,rfl⟩ ⟨?s0,?s1,?s2,?s3,?s4,?s5,?s6,?s7,?s8,?s9,?s10,?s11,?s12,?s13,?s14,?s15,?s16,?s17,?s18,?s19,?s20,?s21,?s22,trivial⟩ [some 51,some 52,some 53,some 54,some 55,some 56,some 57,some 58,some 59,some 60,some 61,some 62,some 63,some 64,some 65,some 66,some 67,some 68,some 69,some 70,some 71,some 72,some 73] rfl rfl ?send
    case s0 =>
     intro val ρ W hE hz hd hA hx;have o0:ρ (.tmp 7) = .pointer (some ⟨V0.heap.size,0,none⟩):=hA.old 7 (by decide);have f_ho0:=cell_below hE (by simp only;omega) ho0;clear hd;exact ze (W':=W) (by simp [execOp,o0,f_ho0,go_sem]) (Below.refl _ _) rfl
    case s1 =>
     intro val ρ W hE hz hd hA hx;have o0:ρ (.tmp 8) = .pointer (some ⟨X.heap.size,0,none⟩):=hA.old 8 (by decide);clear hd;exact ze (W':=W) (by simp [execOp,o0,go_sem]) (Below.refl _ _) rfl
    case s2 =>
     intro val ρ W hE hz hd hA hx;have d1:ρ (.tmp 52) = .pointer (some ⟨X.heap.size,0,none⟩):=(hA.dep 1 (by decide) 52 rfl).trans (hd 1 (by decide));have f_y0z:=zd (hx (by decide)) y0z;clear hd;exact ze (W':=W) (by simp [execOp,d1,f_y0z,go_sem]) (Below.refl _ _) rfl
    case s3 =>
     intro val ρ W hE hz hd hA hx;have o0:ρ (.tmp 8) = .pointer (some ⟨X.heap.size,0,none⟩):=hA.old 8 (by decide);clear hd;exact ze (W':=W) (by simp [execOp,o0,go_sem]) (Below.refl _ _) rfl
    case s4 =>
     intro val ρ W hE hz hd hA hx;have d3:ρ (.tmp 54) = .pointer (some ⟨X.heap.size,1,none⟩):=(hA.dep 3 (by decide) 54 rfl).trans (hd 3 (by decide));have f_y1z:=zd (hx (by decide)) y1z;clear hd;exact ze (W':=W) (by simp [execOp,d3,f_y1z,go_sem]) (Below.refl _ _) rfl
    case s5 =>
     intro val ρ W hE hz hd hA hx;have o0:ρ (.tmp 11) = .int .i64 S:=hA.old 11 (by decide);clear hd;exact ze (W':=W) (by simp [execOp,o0,go_sem]) (Below.refl _ _) rfl
    case s6 =>
     intro val ρ W hE hz hd hA hx;have o0:ρ (.tmp 9) = .int .i64 u:=hA.old 9 (by decide);clear hd;exact ze (W':=W) (by simp [execOp,o0,go_sem]) (Below.refl _ _) rfl
    case s7 =>
     intro val ρ W hE hz hd hA hx;have o0:ρ (.tmp 2) = .pointer (some ⟨w.heap.size,0,none⟩):=hA.old 2 (by decide);have f_q2z:=cell_below hE (by simp only;omega) q2z;clear hd;exact ze (W':=W) (by simp [execOp,o0,f_q2z,go_sem]) (Below.refl _ _) rfl
    case s8 =>
     intro val ρ W hE hz hd hA hx;have d7:ρ (.tmp 58) = .pointer (some ⟨p,0,none⟩):=(hA.dep 7 (by decide) 58 rfl).trans (hd 7 (by decide));clear hd;exact ze (W':=W) (by simp [execOp,d7,go_sem]) (Below.refl _ _) rfl
    case s9 =>
     intro val ρ W hE hz hd hA hx;have d8:ρ (.tmp 59) = .pointer (some ⟨p,0,none⟩):=(hA.dep 8 (by decide) 59 rfl).trans (hd 8 (by decide));clear hd;exact ze (W':=W) (by simp [execOp,d8,go_sem]) (Below.refl _ _) rfl
    case s10 =>
     intro val ρ W hE hz hd hA hx;have d9:ρ (.tmp 60) = .pointer (some ⟨p,0,none⟩):=(hA.dep 9 (by decide) 60 rfl).trans (hd 9 (by decide));clear hd;exact ze (W':=W) (by simp [execOp,d9,go_sem]) (Below.refl _ _) rfl
    case s11 =>
     intro val ρ W hE hz hd hA hx;have d10:ρ (.tmp 61) = .pointer (some ⟨p,7,none⟩):=(hA.dep 10 (by decide) 61 rfl).trans (hd 10 (by decide));have f_c7:=cell_below hE (by simp only;omega) c7;clear hd;exact ze (W':=W) (by simp [execOp,d10,f_c7,go_sem]) (Below.refl _ _) rfl
    case s12 =>
     intro val ρ W hE hz hd hA hx;have d6:ρ (.tmp 57) = .int .i64 u:=(hA.dep 6 (by decide) 57 rfl).trans (hd 6 (by decide));have d11:ρ (.tmp 62) = .int .i64 st:=(hA.dep 11 (by decide) 62 rfl).trans (hd 11 (by decide));clear hd;exact ze (W':=W) (by simp [execOp,d6,d11,hwM,go_sem]) (Below.refl _ _) rfl
    case s13 =>
     intro val ρ W hE hz hd hA hx;have d5:ρ (.tmp 56) = .int .i64 S:=(hA.dep 5 (by decide) 56 rfl).trans (hd 5 (by decide));have d12:ρ (.tmp 63) = .int .i64 M:=(hA.dep 12 (by decide) 63 rfl).trans (hd 12 (by decide));clear hd;exact ze (W':=W) (by simp [execOp,d5,d12,hwQ,hM0,go_sem]) (Below.refl _ _) rfl
    case s14 =>
     intro val ρ W hE hz hd hA hx;have o0:ρ (.tmp 2) = .pointer (some ⟨w.heap.size,0,none⟩):=hA.old 2 (by decide);have f_q2z:=cell_below hE (by simp only;omega) q2z;clear hd;exact ze (W':=W) (by simp [execOp,o0,f_q2z,go_sem]) (Below.refl _ _) rfl
    case s15 =>
     intro val ρ W hE hz hd hA hx;have d14:ρ (.tmp 65) = .pointer (some ⟨p,0,none⟩):=(hA.dep 14 (by decide) 65 rfl).trans (hd 14 (by decide));clear hd;exact ze (W':=W) (by simp [execOp,d14,go_sem]) (Below.refl _ _) rfl
    case s16 =>
     intro val ρ W hE hz hd hA hx;have d15:ρ (.tmp 66) = .pointer (some ⟨p,0,none⟩):=(hA.dep 15 (by decide) 66 rfl).trans (hd 15 (by decide));clear hd;exact ze (W':=W) (by simp [execOp,d15,go_sem]) (Below.refl _ _) rfl
    case s17 =>
     intro val ρ W hE hz hd hA hx;have d16:ρ (.tmp 67) = .pointer (some ⟨p,0,none⟩):=(hA.dep 16 (by decide) 67 rfl).trans (hd 16 (by decide));clear hd;exact ze (W':=W) (by simp [execOp,d16,go_sem]) (Below.refl _ _) rfl
    case s18 =>
     intro val ρ W hE hz hd hA hx;have d17:ρ (.tmp 68) = .pointer (some ⟨p,7,none⟩):=(hA.dep 17 (by decide) 68 rfl).trans (hd 17 (by decide));have f_c7:=cell_below hE (by simp only;omega) c7;clear hd;exact ze (W':=W) (by simp [execOp,d17,f_c7,go_sem]) (Below.refl _ _) rfl
    case s19 =>
     intro val ρ W hE hz hd hA hx;have d13:ρ (.tmp 64) = .int .i64 Q:=(hA.dep 13 (by decide) 64 rfl).trans (hd 13 (by decide));have d18:ρ (.tmp 69) = .int .i64 st:=(hA.dep 18 (by decide) 69 rfl).trans (hd 18 (by decide));clear hd;exact ze (W':=W) (by simp [execOp,d13,d18,hwP,go_sem]) (Below.refl _ _) rfl
    case s20 =>
     intro val ρ W hE hz hd hA hx;have d2:ρ (.tmp 53) = .int .i64 y.1:=(hA.dep 2 (by decide) 53 rfl).trans (hd 2 (by decide));have d4:ρ (.tmp 55) = .int .i64 y.2:=(hA.dep 4 (by decide) 55 rfl).trans (hd 4 (by decide));have d19:ρ (.tmp 70) = .int .i64 P:=(hA.dep 19 (by decide) 70 rfl).trans (hd 19 (by decide));clear hd;exact ze (W':=W) (by simp [execOp,d2,d4,d19,go_sem]) (Below.refl _ _) rfl
    case s21 =>
     intro val ρ W hE hz hd hA hx;have d20:ρ (.tmp 71) = .agg #[.int .i64 y.1,.int .i64 y.2,.int .i64 P]:=(hA.dep 20 (by decide) 71 rfl).trans (hd 20 (by decide));clear hd hA;refine ze (by simp [execOp,d20,go_sem];exact ⟨rfl,rfl⟩) (by exact xx) ⟨_,rfl,zx4 _ ([[Value.int .i64 y.1,Value.int .i64 y.2,Value.int .i64 P]]) _ _ _ 3 rfl (by simp) (by simp)⟩
    case s22 =>
     intro val ρ W hE hz hd hA hx;have hW:=hx (by decide);have d0:ρ (.tmp 51) = .slice oa on oc:=(hA.dep 0 (by decide) 51 rfl).trans (hd 0 (by decide));obtain ⟨b',e21,h21⟩:∃ b',val 21 = .slice (some ⟨b',0,none⟩) 1 1∧zan W 3 b' 0 [[Value.int .i64 y.1,Value.int .i64 y.2,Value.int .i64 P]]:=hd 21 (by decide);have d21:ρ (.tmp 72) = .slice (some ⟨b',0,none⟩) 1 1:=(hA.dep 21 (by decide) 72 rfl).trans e21;have ho:=HOWN.out.ext hW;obtain ⟨v',w',hrun,h2,h3,h4⟩:=zv6 zaid 127 (W6.heap.size+2) ho b' 0 1 [[Value.int .i64 y.1,Value.int .i64 y.2,Value.int .i64 P]] (by simp) h21 (by simp [Value.oneCell']) HLL.out (by omega);exact zi3 (.tmp 51) (.tmp 72) rfl rfl _ _ d0 d21 hrun (ho.keptBelow (by omega) h3) ⟨h2,(Kept.of_below hW).trans h3,fun g hg=>(h4 g hg).imp id fun h=>Nat.le_trans hW.size h⟩
    case send =>
     intro val WW hE hzz hv;obtain ⟨-,-,-,-,-,-,-,-,-,-,-,-,-,-,-,-,-,-,-,-,-,-,⟨h22,k22,o22⟩,-⟩:=hv;replace h22:zp WW (W6.heap.size+2) 130 3 (val 22) (zfh b (zj ps) pre ++ [[Value.int .i64 y.1,Value.int .i64 y.2,Value.int .i64 P]]):=h22;obtain ⟨va,vn,vc,e22⟩:=h22.isSlice;rw [e22] at h22 o22;have hov3:=(k22.same V0.heap.size hzo (fun h=>by have:=HOWN.out.notOwn _ h.symm;omega)).trans HOV.out;have hv3:WW.cell? ⟨V0.heap.size,0,none⟩=some (.slice oa on oc):=by rw [cell_of_row _ _ _ _ _ _ hov3];rfl
     have hf3:WW.frozen? ⟨V0.heap.size,0,none⟩=false:=by simp [World.frozen?,hov3]
     have HK3:=hid k22;have H22:=hid h22;have HO22:=hid o22;have HOV3:=hid hov3;have hz3:=k22.size;have hzo3:=(Array.getElem?_eq_some_iff.1 hov3).1;simp only [zbq,e22];go_frame;clear hE h22 o22 e22 hov3 hzz k22 ho0 y0z y1z q2z c7;gi_wp2_with fail;have hkS:∀ (S':Nat→Prop),(∀ g,(Value.slice oa on oc).ownBlock=some g→¬ S' g)→¬ S' V0.heap.size→Kept S' X2 (WW.setCell ⟨V0.heap.size,0,none⟩ (.slice va vn vc)):=fun S' h1 h2 =>
      (((Kept.of_below HEZ.out).trans (HK3.out.mono fun k _ hk e=>h1 k e.symm hk))).setCell (fun _=>h2) _
     have ho5:∀ g,(Value.slice oa on oc).ownBlock=some g→W6.heap.size+2≤g∧¬ O g:=fun g hg=>⟨(HOWN.out.notOwn g hg).1,HNO.out g hg⟩
     refine ⟨hkS _ (fun g hg h=>?_) (fun h=>?_),g1,by simp [World.setCell];omega,?_,_,zl HOV3.out 0 _,(by rw [HDS.out,← HPP.out];exact (H22.out.setOther HOV3.out (by decide) 0 _)),fun g hg ho=>?_⟩
     ·have:=ho5 g hg
      rcases h with h | h | h | h
      ·omega
      ·exact this.2 h
      ·omega
      ·omega
     ·rcases h with h | h | h | h
      ·exact h.2 rfl
      ·have:=g1 _ h;omega
      ·omega
      ·omega
     ·exact HG3.out.trans (Kept.below (hkS _ (fun g hg h=>by have:=ho5 g hg;omega) (by omega)) HG3.out.size)
     ·rcases HO22.out g hg with h | h
      ·exact HNO.out g h ho
      ·have:=(HOO.out g ho).2;omega
  case done2 =>
   rintro D2 O2 xs V1 hD2 rfl ⟨g1,g2,g3,g4⟩ hDk2;obtain ⟨ov,hov,hown,hno⟩:=g4;obtain ⟨oa,on,oc,rfl⟩:=hown.isSlice;have ho0:V1.cell? ⟨V0.heap.size,0,none⟩=some (.slice oa on oc):=by rw [cell_of_row _ _ _ _ _ _ hov];rfl
   have HOWN:=hid hown;have HDK2:=hid hDk2;have HDK1:=hid ((g3.block D hDlt).trans HDK.out);have hDlt2:=(Array.getElem?_eq_some_iff.1 hDk2).1;have hzo:=(Array.getElem?_eq_some_iff.1 hov).1;have HG3:=hid g3;clear hov hown hno hDk2 g3;gi_wp2_with fail;have hne:D2≠D:=by omega
   refine zr0 (B:=w.heap.size) _ _ ⟨⟨D2,rfl,by omega,HDK2.out,fun d' hd' e=>?_⟩,⟨D,rfl,by omega,HDK1.out,fun d' hd'=>by cases hd'⟩,trivial⟩ fun W' hk=>?_
   ·simp only [List.mem_singleton] at hd'
    subst hd';exact hne (Target.collected.inj e).symm
   have hk2:Kept (fun k=>k≠D∧k≠D2) V1 W':=hk.mono fun k _ h d hd e=>by
    rcases List.mem_cons.1 hd with rfl | hd
    ·exact h.2 (Target.collected.inj e).symm
    ·simp only [List.mem_singleton] at hd
     subst hd;exact h.1 (Target.collected.inj e).symm
   refine ⟨.slice oa on oc,by simp [results,Tryz.results83,go_sem],_,rfl,?_,?_,fun g hg=>by have:=(HOWN.out.notOwn g hg).1;omega⟩
   ·exact (Ext.trans' HEV.out HG3.out).trans (Kept.below (hk2.mono fun k _ h=>by omega) (Ext.trans' HEV.out HG3.out).size)
   ·exact (HOWN.out.keptAt hk2 (fun g cur _ _ h3=>⟨fun e=>(by rw [e,HDK1.out] at h3;cases h3),fun e=>(by rw [e,HDK2.out] at h3;cases h3)⟩)).isRows
theorem z02 (p m:Nat) (b:Bk) (ba sa fa:Option Addr) (bcap scap fcap:Nat) (ps:List (Value × List Int)) (w:World) (ht:zes w p m b ba bcap sa scap) (hf:zcz w (.slice fa ps.length fcap) ps) (hfv:zdw b (zj ps)) :
  Calls Tryz.prog 83 #[.pointer (some ⟨p,0,none⟩),.slice fa ps.length fcap] w fun e w'=>∃ v,e = .returned v∧Ext w w'∧zbd w' 3 v ((zeu b (zj ps)).map zia)∧∀ g,v.ownBlock=some g→w.heap.size≤g :=
 callsIn_wide.1 (z3u p m b ba sa fa bcap scap fcap ps w ht hf hfv)
end Go.Proofs.YtdamgacabfbpjaaGreat
namespace Go.Proofs.YtdamgacabfbpjaaGreat
open Go.Lib (hid)
open Go.RowKit Go.Shelf
structure Acc where
 i:Int
 k:Int
 d:Int
 p:Int
 q:Int
 o:Int
deriving DecidableEq
def z3v (b:Bk):Acc:=⟨inP b,zb4 b,zfa b,0,0,ziv b⟩
def zjr (b:Bk) (fs:List (List Int)):Acc:=if zeu b fs=[] then z3v b else ⟨inP b,zb4 b,zfa b,ztg b fs,ziv b - ztg b fs,0⟩
def zix (a:Acc):Array Value:=#[.int .i64 a.i,.int .i64 a.k,.int .i64 a.d,.int .i64 a.p,.int .i64 a.q,.int .i64 a.o]
def zel (a:Acc):Value:=.agg (zix a)
def zcj (W:World) (g:Nat) (a:Acc):Prop:=W.heap[g]? = some (.cells (zix a) 62 (0,0))
section
variable {W:World} {g:Nat} {a:Acc} (h:zcj W g a)
include h
theorem zcj.c0:W.cell? ⟨g,0,none⟩=some (.int .i64 a.i):=by rw [cell_of_row _ _ _ _ _ _ h];rfl
theorem zcj.c1:W.cell? ⟨g,1,none⟩=some (.int .i64 a.k):=by rw [cell_of_row _ _ _ _ _ _ h];rfl
theorem zcj.c2:W.cell? ⟨g,2,none⟩=some (.int .i64 a.d):=by rw [cell_of_row _ _ _ _ _ _ h];rfl
theorem zcj.c3:W.cell? ⟨g,3,none⟩=some (.int .i64 a.p):=by rw [cell_of_row _ _ _ _ _ _ h];rfl
theorem zcj.c4:W.cell? ⟨g,4,none⟩=some (.int .i64 a.q):=by rw [cell_of_row _ _ _ _ _ _ h];rfl
theorem zcj.c5:W.cell? ⟨g,5,none⟩=some (.int .i64 a.o):=by rw [cell_of_row _ _ _ _ _ _ h];rfl
theorem zcj.fr (o:Nat):W.frozen? ⟨g,o,none⟩=false:=by
 have h':W.heap[g]? = _:=h;simp [World.frozen?,h']
theorem zcj.lt:g < W.heap.size:=World.block_lt_of_cell? _ _ h.c0
theorem zcj.ext {W':World} (e:Ext W W'):zcj W' g a:=(e.block _ h.lt).trans h
theorem zcj.setP (x:Int):zcj (W.setCell ⟨g,3,none⟩ (.int .i64 x)) g { a with p:=x }:=zl h 3 (.int .i64 x)
theorem zcj.setO (x:Int):zcj (W.setCell ⟨g,5,none⟩ (.int .i64 x)) g { a with o:=x }:=zl h 5 (.int .i64 x)
end
def zg5 (b:Bk) (l:List Dvd):Int:=(l.map fun d=>d.2 * za7 b d.1).sum
theorem zt6 {b:Bk} {l:List Dvd} {k:Nat} (h:k < l.length):zg5 b (l.take (k+1))=zg5 b (l.take k)+l[k].2 * za7 b l[k].1:=by
 unfold zg5;rw [List.take_add_one,List.getElem?_eq_getElem h,List.map_append];simp
theorem z3w {b:Bk} {fs:List (List Int)} (h:zdw b fs) {s:Spt} (hs:s∈zda b fs):0≤zet b fs s∧zet b fs s≤1100000000∧0≤zet b fs s * za7 b s∧zet b fs s * za7 b s≤zgg b fs∧zgg b fs≤11000000:=by
 have hnet:=(zle h.book).2.2.2.1;have hin:=(zle h.book).1;have hcar:=h.book.car;have hc1:1≤((zda b fs).length:Int):=by have:=List.length_pos_of_mem hs;omega
 have hu:=zzu h.book s;have hst:=h.book.step;have hu0:za7 b s≠0:=by
  unfold zda at hs;simpa using (List.mem_filter.1 hs).2
 have hS0:0≤zgg b fs:=Int.ediv_nonneg (by omega) (by omega);have hS1:zgg b fs≤11000000:=Int.le_trans (Int.ediv_le_self _ (by omega)) (by omega);unfold zet;generalize zgg b fs=S at hS0 hS1 ⊢;generalize za7 b s=u at hu hu0 ⊢;generalize b.step=st at hst ⊢;have hM1:1≤u * st:=Int.mul_pos (by omega) (by omega);have hQ0:0≤S / (u * st):=Int.ediv_nonneg hS0 (by omega);have hQ1:S / (u * st)≤11000000:=Int.le_trans (Int.ediv_le_self _ hS0) hS1;have hP0:0≤S / (u * st) * st:=Int.mul_nonneg hQ0 (by omega);have hP1:S / (u * st) * st≤11000000 * 100:=Int.mul_le_mul hQ1 hst.2 (by omega) (by omega);have e:S / (u * st) * st * u=S / (u * st) * (u * st):=by rw [Int.mul_assoc,Int.mul_comm st u]
 have hE:=Int.ediv_mul_le S (show u * st≠0 by omega);exact ⟨hP0,by omega,Int.mul_nonneg hP0 (by omega),by rw [e];exact hE,hS1⟩
theorem zsb {b:Bk} {fs:List (List Int)} (h:zdw b fs) (k:Nat):0≤zg5 b ((zeu b fs).take k)∧zg5 b ((zeu b fs).take k)≤11000000 * (k:Int):=by
 induction k with
 | zero=>simp [zg5]
 | succ k ih =>
  by_cases hk:k < (zeu b fs).length
  ·rw [zt6 hk]
   have hm:(zeu b fs)[k]∈zeu b fs:=List.getElem_mem hk;unfold zeu at hm;obtain ⟨s,hs,e⟩:=List.mem_map.1 hm;have:=z3w h hs;unfold zeu at ih ⊢;rw [← e];simp only;omega
  ·rw [List.take_of_length_le (by omega)]
   rw [List.take_of_length_le (by omega)] at ih;omega
theorem z6k {b:Bk} {fs:List (List Int)} (h:zdw b fs):(zeu b fs).length≤64:=by
 unfold zeu zda;rw [List.length_map];exact Nat.le_trans (List.length_filter_le _ _) (z3t h)
theorem zzv {w:World} {v:Value} {l:List Dvd} (h:zbd w 3 v (l.map zia)) :
  ∃ sa cap,v = .slice sa l.length cap∧l.length≤cap∧cap≤9223372036854775807∧(l=[]∨∃ b off,sa=some ⟨b,off,none⟩∧∀ i,(h:i < l.length) →
   w.cell? ⟨b,off+i * 3,none⟩=some (.int .i64 l[i].1.1)∧w.cell? ⟨b,off+i * 3+1,none⟩=some (.int .i64 l[i].1.2)∧w.cell? ⟨b,off+i * 3+2,none⟩=some (.int .i64 l[i].2)):=by
 obtain ⟨sa,cap,h1,h2,h3,h4⟩:=h;refine ⟨sa,cap,by simpa using h1,by simpa using h2,h3,?_⟩
 rcases h4 with h4 | ⟨b,off,e,h4⟩
 ·exact .inl (by simpa using h4)
 ·refine .inr ⟨b,off,e,fun i hi=>?_⟩
  have c0:=h4 i (by simpa using hi) 0 (by simp [zia]);have c1:=h4 i (by simpa using hi) 1 (by simp [zia]);have c2:=h4 i (by simpa using hi) 2 (by simp [zia]);simp [zia] at c0 c1 c2;exact ⟨c0,c1,c2⟩
theorem z8n (p m:Nat) (b:Bk) (ba sa fa:Option Addr) (bcap scap fcap:Nat) (ps:List (Value × List Int)) (w:World) (ht:zes w p m b ba bcap sa scap) (hf:zcz w (.slice fa ps.length fcap) ps) (hfv:zdw b (zj ps)) :
  Calls Tryz.prog 46 #[.pointer (some ⟨p,0,none⟩),.slice fa ps.length fcap] w fun e w'=>e = .returned (zel (zjr b (zj ps)))∧Ext w w':=by
 have HT:=hid ht;have HF:=hid hf;have FV:=hid hfv;have t10:=ht.till.c10;have t11:=ht.till.c11;have t12:=ht.till.c12;have t13:=ht.till.c13;have t14:=ht.till.c14;have t15:=ht.till.c15;have hzp:=ht.till.lt;clear ht hf hfv;obtain ⟨I,hI⟩:∃ I,I=inP b:=⟨_,rfl⟩
 obtain ⟨K,hK⟩:∃ K,K=zb4 b:=⟨_,rfl⟩
 obtain ⟨D,hD⟩:∃ D,D=zfa b:=⟨_,rfl⟩
 obtain ⟨N,hN⟩:∃ N,N=ziv b:=⟨_,rfl⟩
 rw [← hI] at t10;rw [← hK] at t11;rw [← hD] at t12;rw [← hN] at t15;have HA:Hid (z3v b=⟨I,K,D,0,0,N⟩):=hid (by unfold z3v;rw [hI,hK,hD,hN]);have HA2:Hid (zjr b (zj ps)=if zeu b (zj ps)=[] then ⟨I,K,D,0,0,N⟩ else ⟨I,K,D,ztg b (zj ps),N - ztg b (zj ps),0⟩):=hid (by unfold zjr z3v;rw [hI,hK,hD,hN]);have hN1:0≤N∧N≤11000000:=by
  have h1:=(zle FV.out.book).2.2.2.1;have h2:=(zle FV.out.book).1;have h3:=FV.out.book.car;omega
 have HNN:=hid hN;clear hI hK hD hN
 go_enter Tryz.func46,Tryz.ntmps46
 go_wp2_with fail;refine (z02 p m b ba sa fa bcap scap fcap ps _ (HT.out.ext (by exact xx)) (HF.out.ext (by exact xx)) FV.out).mono ?_
 rintro e W1 ⟨v,rfl,hE1,hrows,hnew⟩;obtain ⟨la,lc,rfl,hl1,hl2,-⟩:=zzv hrows;simp only [World.size_alloc] at hnew;have hA1:zcj W1 (w.heap.size+1) ⟨I,K,D,0,0,N⟩:=by
  refine (hE1.block _ (by simp)).trans ?_
  have:=World.alloc_heap_new (w.alloc (.cells #[.int .i64 0,.int .i64 0,.int .i64 0,.int .i64 0,.int .i64 0,.int .i64 0] 62)) (.cells #[.int .i64 I,.int .i64 K,.int .i64 D,.int .i64 0,.int .i64 0,.int .i64 N] 62)
  rwa [World.size_alloc] at this
 have hE:Ext w W1:=Ext.trans' (by exact xx) hE1;have hr4:W1.cell? ⟨w.heap.size,0,none⟩=some (.int .i64 0)∧W1.cell? ⟨w.heap.size,1,none⟩=some (.int .i64 0):=⟨zd hE1 (by simp [go_sem]),zd hE1 (by simp [go_sem])⟩
 have hA0:zcj W1 w.heap.size ⟨0,0,0,0,0,0⟩:=by
  refine (hE1.block _ (by simp;omega)).trans ?_
  exact (Below.heap_alloc _ _ _ (by simp)).trans (World.alloc_heap_new w _)
 have HE:=hid hE;have HA0:=hid hA0;have HA1:=hid hA1;have HR:=hid hrows;have HNEW:=hid hnew;have hz1:=hE1.size;simp only [World.size_alloc] at hz1;obtain ⟨L,hL⟩:∃ L,L=zeu b (zj ps):=⟨_,rfl⟩
 rw [← hL] at hl1 HR ⊢;have HL:=hid hL;clear hnew hE1 hrows hA1 hE hA0 hL t10 t11 t12 t13 t14 t15 hr4
 by_cases h0:L=[]
 ·subst h0
  have hA1:=HA1.out;have hA0:=HA0.out;have c0a:=(hA1).c0;have c1a:=(hA1).c1;have c2a:=(hA1).c2;have c3a:=(hA1).c3;have c4a:=(hA1).c4;have c5a:=(hA1).c5;have cfa:=fun o=>(hA1).fr o
  have cza:=(hA1).lt;simp only at c0a c1a c2a c3a c4a c5a;have c0r:=(hA0).c0;have c1r:=(hA0).c1;have c2r:=(hA0).c2;have c3r:=(hA0).c3;have c4r:=(hA0).c4;have c5r:=(hA0).c5;have cfr:=fun o=>(hA0).fr o
  have czr:=(hA0).lt;simp only at c0r c1r c2r c3r c4r c5r;clear hA1 hA0;go_wp2_with fail;refine bodyPost_ret (v:=zel ⟨I,K,D,0,0,N⟩) (by simp [results,Tryz.results46,go_sem,zel,zix,c0r,c1r,c2r,c3r,c4r,c5r,cfr]) rfl ?_
  have hA2:=HA2.out;rw [if_pos HL.out.symm] at hA2;rw [hA2];exact ⟨rfl,((((((HE.out.setCell (Nat.le_refl _) _).setCell (Nat.le_refl _) _).setCell (Nat.le_refl _) _).setCell (Nat.le_refl _) _).setCell (Nat.le_refl _) _).setCell (Nat.le_refl _) _)⟩
 have hne:¬ (L.length=0):=fun h=>h0 (List.eq_nil_of_length_eq_zero h)
 have f1:((L.length:Int) == 0)=false:=by rw [beq_eq_false_iff_ne];omega
 have f2:¬ ((L.length:Int)=0):=by omega
 have HL0:=hid h0;clear h0;go_wp2_with fail;obtain ⟨ab,hab⟩:∃ ab,ab=w.heap.size+1:=⟨_,rfl⟩
 rw [← hab] at HA1 ⊢;have hab1:w.heap.size < ab:=by omega
 have hab2:ab < w.heap.size+1+1:=by omega
 clear hab
 go_loopw [22] (fun iv W=>∃ k:Nat,k≤L.length∧iv = .int .i64 k∧zcj W ab ⟨I,K,D,zg5 b (L.take k),0,N⟩∧Kept (fun j=>j≠ab) W1 W) (fun iv _=>L.length - (intOf iv).toNat)
 case atStart=>exact ⟨0,by omega,rfl,by simpa [zg5] using HA1.out,Kept.refl _ _⟩
 case round =>
  obtain ⟨k,hk,rfl,hacc,hkp⟩:=hrel;have hEw:Ext w wr:=HE.out.trans (Kept.below (hkp.mono (T:=fun j=>j < w.heap.size) fun j _ h=>by omega) HE.out.size);have HACC:=hid hacc;have HKP:=hid hkp;have HEW:=hid hEw
  by_cases hlt:k < L.length
  ·have hki:(k:Int) < (L.length:Int):=by omega
   obtain ⟨_,_,e,-,-,hcc⟩:=zzv HR.out;cases e
   rcases hcc with hcc | ⟨lb,lo,rfl,hcc⟩
   ·exact absurd hcc HL0.out
   obtain ⟨e0,e1,e2⟩:=hcc k hlt;have hlb:ab < lb:=by have:=HNEW.out lb rfl;omega
   have d0:=hkp.cell e0 (by simp only;omega);have d1:=hkp.cell e1 (by simp only;omega);have d2:=hkp.cell e2 (by simp only;omega);obtain ⟨x0,hx0⟩:∃ x,x=L[k].1.1:=⟨_,rfl⟩
   obtain ⟨x1,hx1⟩:∃ x,x=L[k].1.2:=⟨_,rfl⟩
   obtain ⟨x2,hx2⟩:∃ x,x=L[k].2:=⟨_,rfl⟩
   rw [← hx0] at d0;rw [← hx1] at d1;rw [← hx2] at d2;have hzl:=World.block_lt_of_cell? _ _ d0;simp only at hzl;have hpt:=zt6 (b:=b) hlt;have hxs:L[k].1=(x0,x1):=by rw [hx0,hx1]
   rw [hxs,← hx2] at hpt;obtain ⟨u,hu⟩:∃ u,u=za7 b (x0,x1):=⟨_,rfl⟩
   rw [← hu] at hpt;have hb0:=zsb FV.out k;have hb1:=zsb FV.out (k+1);rw [← HL.out] at hb0 hb1;have h64:=z6k FV.out;rw [← HL.out] at h64;have hm:L[k]∈zeu b (zj ps):=by rw [← HL.out];exact List.getElem_mem hlt
   have hpu:0≤x2 * u∧x2 * u≤11000000:=by
    unfold zeu at hm;obtain ⟨s,hs,e⟩:=List.mem_map.1 hm;have h1:=z3w FV.out hs;rw [← e] at hxs hx2;simp only at hxs hx2;subst hxs;rw [hx2,hu];omega
   obtain ⟨A,hA⟩:∃ A,A=x2 * u:=⟨_,rfl⟩
   rw [← hA] at hpu hpt;obtain ⟨P0,hP0⟩:∃ P0,P0=zg5 b (L.take k):=⟨_,rfl⟩
   rw [← hP0] at hb0 hpt hacc HACC;rw [hpt] at hb1;have hw1:IntKind.i64.wrap (x2 * u)=A:=by rw [← hA];exact IntWalk.i64_in _ (by omega)
   have hw2:IntKind.i64.wrap (P0+A)=P0+A:=IntWalk.i64_in _ (by omega);have ht:=HT.out.ext hEw;have c9:=ht.till.c9;have HTm:=hid ht;have HPT:=hid hpt;have HU:=hid hu;clear hcc e0 e1 e2 hpt hm hA hP0 hu hxs hx0 hx1 hx2 hkp hEw ht hb0 hb1;go_upto_region 8 with (fail);obtain ⟨Z,hZ⟩:∃ Z,Z=wr.alloc (.cells #[.int .i64 x0,.int .i64 x1,.int .i64 x2] 130):=⟨_,rfl⟩
   have hEZ:Ext wr Z:=by rw [hZ];exact xx
   have z0:Z.cell? ⟨wr.heap.size,0,none⟩=some (.int .i64 x0):=by rw [hZ];simp [go_sem]
   have z1:Z.cell? ⟨wr.heap.size,1,none⟩=some (.int .i64 x1):=by rw [hZ];simp [go_sem]
   have z2:Z.cell? ⟨wr.heap.size,2,none⟩=some (.int .i64 x2):=by rw [hZ];simp [go_sem]
   have hzZ:wr.heap.size < Z.heap.size:=by rw [hZ];simp
   rw [← hZ];have hAZ:=hacc.ext hEZ;have a3:Z.cell? ⟨ab,3,none⟩=some (.int .i64 P0):=hAZ.c3;have m9:=zd hEZ c9;have haz:=hAZ.lt;have hpz:p < Z.heap.size:=World.block_lt_of_cell? _ _ m9;have HEZ:=hid hEZ;have HAZ:=hid hAZ;have HTZ:=hid (HTm.out.ext hEZ);clear hZ hEZ hAZ hacc c9 d0 d1 d2;refine zbe rfl rfl (by kernel_rfl) (Z.heap.size) (Nat.le_refl _)
    [sqV (.pointer (some ⟨ab,3,none⟩)),sqV (.int .i64 P0),sqV (.pointer (some ⟨wr.heap.size,2,none⟩)),sqV (.int .i64 x2),sqV (.pointer (some ⟨p,0,none⟩)),sqV (.pointer (some ⟨p,0,none⟩)),sqV (.pointer (some ⟨p,9,none⟩)),sqV (.map (some m)),sqV (.pointer (some ⟨wr.heap.size,0,none⟩)),sqV (.int .i64 x0),sqV (.pointer (some ⟨wr.heap.size,1,none⟩)),sqV (.int .i64 x1),sqV (.agg #[.int .i64 x0,.int .i64 x1]),sqV (.int .i64 u),sqV (.int .i64 A),sqV (.int .i64 (P0+A)),sqV (.pointer (some ⟨ab,3,none⟩))]
    [true,true,true,true,true,true,true,true,true,true,true,true,true,true,true,true,true] [false,false,false,false,false,false,false,false,false,false,false,false,false,false,false,false,false] [true,true,true,true,true,true,true,true,true,true,true,true,true,true,true,true,true] [true,true,true,true,true,true,true,true,true,true,true,true,true,true,true,true,true]
    (by kernel_rfl) (by kernel_rfl) (by decide +kernel) (by decide +kernel) (by decide +kernel) rfl ⟨rfl,rfl⟩ ⟨?s0,?s1,?s2,?s3,?s4,?s5,?s6,?s7,?s8,?s9,?s10,?s11,?s12,?s13,?s14,?s15,?s16,trivial⟩ [some 26,some 27,some 28,some 29,some 30,some 31,some 32,some 33,some 34,some 35,some 36,some 37,some 38,some 39,some 40,some 41,some 42] rfl rfl ?send
   case s0 =>
    intro val ρ W hE hz hd hA hx;have o0:ρ (.tmp 5) = .pointer (some ⟨ab,0,none⟩):=hA.old 5 (by decide);clear hd;exact ze (W':=W) (by simp [execOp,o0,go_sem]) (Below.refl _ _) rfl
   case s1 =>
    intro val ρ W hE hz hd hA hx;have d0:ρ (.tmp 26) = .pointer (some ⟨ab,3,none⟩):=(hA.dep 0 (by decide) 26 rfl).trans (hd 0 (by decide));have f_a3:=cell_below hE (by simp only;omega) a3;clear hd;exact ze (W':=W) (by simp [execOp,d0,f_a3,go_sem]) (Below.refl _ _) rfl
   case s2 =>
    intro val ρ W hE hz hd hA hx;have o0:ρ (.tmp 8) = .pointer (some ⟨wr.heap.size,0,none⟩):=hA.old 8 (by decide);clear hd;exact ze (W':=W) (by simp [execOp,o0,go_sem]) (Below.refl _ _) rfl
   case s3 =>
    intro val ρ W hE hz hd hA hx;have d2:ρ (.tmp 28) = .pointer (some ⟨wr.heap.size,2,none⟩):=(hA.dep 2 (by decide) 28 rfl).trans (hd 2 (by decide));have f_z2:=cell_below hE (by simp only;omega) z2;clear hd;exact ze (W':=W) (by simp [execOp,d2,f_z2,go_sem]) (Below.refl _ _) rfl
   case s4 =>
    intro val ρ W hE hz hd hA hx;have o0:ρ (.tmp 0) = .pointer (some ⟨p,0,none⟩):=hA.old 0 (by decide);clear hd;exact ze (W':=W) (by simp [execOp,o0,go_sem]) (Below.refl _ _) rfl
   case s5 =>
    intro val ρ W hE hz hd hA hx;have d4:ρ (.tmp 30) = .pointer (some ⟨p,0,none⟩):=(hA.dep 4 (by decide) 30 rfl).trans (hd 4 (by decide));clear hd;exact ze (W':=W) (by simp [execOp,d4,go_sem]) (Below.refl _ _) rfl
   case s6 =>
    intro val ρ W hE hz hd hA hx;have d5:ρ (.tmp 31) = .pointer (some ⟨p,0,none⟩):=(hA.dep 5 (by decide) 31 rfl).trans (hd 5 (by decide));clear hd;exact ze (W':=W) (by simp [execOp,d5,go_sem]) (Below.refl _ _) rfl
   case s7 =>
    intro val ρ W hE hz hd hA hx;have d6:ρ (.tmp 32) = .pointer (some ⟨p,9,none⟩):=(hA.dep 6 (by decide) 32 rfl).trans (hd 6 (by decide));have f_m9:=cell_below hE (by simp only;omega) m9;clear hd;exact ze (W':=W) (by simp [execOp,d6,f_m9,go_sem]) (Below.refl _ _) rfl
   case s8 =>
    intro val ρ W hE hz hd hA hx;have o0:ρ (.tmp 8) = .pointer (some ⟨wr.heap.size,0,none⟩):=hA.old 8 (by decide);clear hd;exact ze (W':=W) (by simp [execOp,o0,go_sem]) (Below.refl _ _) rfl
   case s9 =>
    intro val ρ W hE hz hd hA hx;have d8:ρ (.tmp 34) = .pointer (some ⟨wr.heap.size,0,none⟩):=(hA.dep 8 (by decide) 34 rfl).trans (hd 8 (by decide));have f_z0:=cell_below hE (by simp only;omega) z0;clear hd;exact ze (W':=W) (by simp [execOp,d8,f_z0,go_sem]) (Below.refl _ _) rfl
   case s10 =>
    intro val ρ W hE hz hd hA hx;have o0:ρ (.tmp 8) = .pointer (some ⟨wr.heap.size,0,none⟩):=hA.old 8 (by decide);clear hd;exact ze (W':=W) (by simp [execOp,o0,go_sem]) (Below.refl _ _) rfl
   case s11 =>
    intro val ρ W hE hz hd hA hx;have d10:ρ (.tmp 36) = .pointer (some ⟨wr.heap.size,1,none⟩):=(hA.dep 10 (by decide) 36 rfl).trans (hd 10 (by decide));have f_z1:=cell_below hE (by simp only;omega) z1;clear hd;exact ze (W':=W) (by simp [execOp,d10,f_z1,go_sem]) (Below.refl _ _) rfl
   case s12 =>
    intro val ρ W hE hz hd hA hx;have d9:ρ (.tmp 35) = .int .i64 x0:=(hA.dep 9 (by decide) 35 rfl).trans (hd 9 (by decide));have d11:ρ (.tmp 37) = .int .i64 x1:=(hA.dep 11 (by decide) 37 rfl).trans (hd 11 (by decide));clear hd;exact ze (W':=W) (by simp [execOp,d9,d11,go_sem]) (Below.refl _ _) rfl
   case s14 =>
    intro val ρ W hE hz hd hA hx;have d3:ρ (.tmp 29) = .int .i64 x2:=(hA.dep 3 (by decide) 29 rfl).trans (hd 3 (by decide));have d13:ρ (.tmp 39) = .int .i64 u:=(hA.dep 13 (by decide) 39 rfl).trans (hd 13 (by decide));clear hd;exact ze (W':=W) (by simp [execOp,d3,d13,hw1,go_sem]) (Below.refl _ _) rfl
   case s15 =>
    intro val ρ W hE hz hd hA hx;have d1:ρ (.tmp 27) = .int .i64 P0:=(hA.dep 1 (by decide) 27 rfl).trans (hd 1 (by decide));have d14:ρ (.tmp 40) = .int .i64 A:=(hA.dep 14 (by decide) 40 rfl).trans (hd 14 (by decide));clear hd;exact ze (W':=W) (by simp [execOp,d1,d14,hw2,go_sem]) (Below.refl _ _) rfl
   case s16 =>
    intro val ρ W hE hz hd hA hx;have o0:ρ (.tmp 5) = .pointer (some ⟨ab,0,none⟩):=hA.old 5 (by decide);clear hd;exact ze (W':=W) (by simp [execOp,o0,go_sem]) (Below.refl _ _) rfl
   case s13 =>
    intro val ρ W hE hz hd hA hx;have d7:ρ (.tmp 33) = .map (some m):=(hA.dep 7 (by decide) 33 rfl).trans (hd 7 (by decide));have d12:ρ (.tmp 38) = .agg #[.int .i64 x0,.int .i64 x1]:=(hA.dep 12 (by decide) 38 rfl).trans (hd 12 (by decide));have hl:=zw3 (HTZ.out.ext (hx (by decide))).map (x0,x1);simp only [zbj] at hl;rw [show zae (zc6 b (x0,x1)) b.bets=u from HU.out.symm] at hl;exact ze (W':=W) (by simp [execOp,d7,d12,hl,go_sem]) (Below.refl _ _) rfl
   case send =>
    intro val WW hE hzz hv;obtain ⟨-,-,-,-,-,-,-,-,-,-,-,-,-,-,-,r15,r16,-⟩:=hv;have q15:val 15 = .int .i64 (P0+A):=r15;have q16:val 16 = .pointer (some ⟨ab,3,none⟩):=r16;have hAW:=HAZ.out.ext hE;have v3:WW.cell? ⟨ab,3,none⟩=some (.int .i64 P0):=hAW.c3;have vf:=hAW.fr 3;have hk2:Kept (fun j=>j≠ab) W1 (WW.setCell ⟨ab,3,none⟩ (.int .i64 (P0+A))):=(HKP.out.trans (Kept.of_below (HEZ.out.trans' hE))).setCell (fun _ h=>h rfl) _;have HAN:=hid (hAW.setP (P0+A));have HKN:=hid hk2;simp only [zbq,q15,q16];go_frame;clear r15 r16 q15 q16 hAW hk2 hE hzz a3 z0 z1 z2 m9;go_wp2_with fail;go_roundw
    case rel=>exact ⟨k+1,by omega,by go_num,by rw [HPT.out];exact HAN.out,HKN.out⟩
    case measure=>simp [intOf];omega
  ·have hki:¬ ((k:Int) < (L.length:Int)):=by omega
   have hke:k=L.length:=by omega
   rw [hke,List.take_length] at hacc;have h64:=z6k FV.out;have hb:=zsb FV.out L.length;rw [← HL.out] at h64 hb;rw [List.take_length] at hb;obtain ⟨P0,hP0⟩:∃ P0,P0=zg5 b L:=⟨_,rfl⟩
   rw [← hP0] at hacc hb;have hA0:zcj wr w.heap.size ⟨0,0,0,0,0,0⟩:=(hkp.same _ HA0.out.lt (by omega)).trans HA0.out;have hw1:IntKind.i64.wrap (N - P0)=N - P0:=IntWalk.i64_in _ (by omega);have c0a:=(hacc).c0;have c1a:=(hacc).c1;have c2a:=(hacc).c2;have c3a:=(hacc).c3;have c4a:=(hacc).c4;have c5a:=(hacc).c5;have cfa:=fun o=>(hacc).fr o
   have cza:=(hacc).lt;simp only at c0a c1a c2a c3a c4a c5a;have c0r:=(hA0).c0;have c1r:=(hA0).c1;have c2r:=(hA0).c2;have c3r:=(hA0).c3;have c4r:=(hA0).c4;have c5r:=(hA0).c5;have cfr:=fun o=>(hA0).fr o
   have czr:=(hA0).lt;simp only at c0r c1r c2r c3r c4r c5r;have HP0:=hid hP0;clear hke hacc hA0 hkp hEw hP0 hb;go_wp2_with fail;refine bodyPost_ret (v:=zel ⟨I,K,D,P0,N - P0,0⟩) (by simp [results,Tryz.results46,go_sem,zel,zix,c0r,c1r,c2r,c3r,c4r,c5r,cfr]) rfl ?_
   have hA2:=HA2.out;rw [if_neg (fun h=>HL0.out (HL.out.trans h)),show ztg b (zj ps)=P0 by rw [HP0.out,HL.out];rfl] at hA2;rw [hA2];exact ⟨rfl,((((((((HEW.out.setCell (Nat.le_of_lt hab1) _).setCell (Nat.le_of_lt hab1) _).setCell (Nat.le_refl _) _).setCell (Nat.le_refl _) _).setCell (Nat.le_refl _) _).setCell (Nat.le_refl _) _).setCell (Nat.le_refl _) _).setCell (Nat.le_refl _) _)⟩
theorem z3x {w W:World} (h:Ext w W) {g:Nat} (hg:w.heap.size≤g) (a b c d e f:Value):Ext w ((((((W.setCell ⟨g,0,none⟩ a).setCell ⟨g,1,none⟩ b).setCell ⟨g,2,none⟩ c).setCell ⟨g,3,none⟩ d).setCell ⟨g,4,none⟩ e).setCell ⟨g,5,none⟩ f) :=
 (((((h.setCell hg _).setCell hg _).setCell hg _).setCell hg _).setCell hg _).setCell hg _
def z3y (b:Bk) (fs:List (List Int)):Value:=.tuple #[zel (if zbl b fs=0 then zjr b fs else ⟨0,0,0,0,0,0⟩),.int .i64 (zbl b fs)]
theorem zadm {b:Bk} {fs:List (List Int)} {er:Int} (h:er=zbl b fs) (hne:er≠0):z3y b fs = .tuple #[zel ⟨0,0,0,0,0,0⟩,.int .i64 er]:=by
 unfold z3y;rw [← h,if_neg hne]
theorem zyj {b:Bk} {fs:List (List Int)} (h:zbl b fs=0):z3y b fs = .tuple #[zel (zjr b fs),.int .i64 0]:=by
 unfold z3y;rw [h,if_pos rfl]
theorem zt7 (ps:List (Value × List Int)) (fv:Value) (b:Bk) (ba sa:Option Addr) (bcap scap:Nat) (w:World) (hv:zc4 w b ba bcap sa scap) (hf:zcz w fv ps) :
  Calls Tryz.prog 21 #[.agg #[.int .i64 b.kd,.int .i64 b.n,.slice ba b.bets.length bcap,.slice sa b.scr.length scap,.bool b.fav,.int .i64 b.car,.int .i64 b.duty,.int .i64 b.step],fv] w fun e w'=>e = .returned (z3y b (zj ps))∧Ext w w':=by
 obtain ⟨fa,fcap,rfl,hf1,hf2,-⟩:=hf.spec;have HF0:=hid hf;have HV:=hid hv;clear hf hv
 go_enter Tryz.func21,Tryz.ntmps21
 go_wp2_with fail;refine (z3r ps _ b ba sa bcap scap _ (HV.out.ext (by exact xx)) (HF0.out.ext (by exact xx))).mono ?_
 have hA0:zcj ((w.alloc (.cells #[.int .i64 b.kd,.int .i64 b.n,.slice ba b.bets.length bcap,.slice sa b.scr.length scap,.bool b.fav,.int .i64 b.car,.int .i64 b.duty,.int .i64 b.step] 41)).alloc (.cells #[.int .i64 0,.int .i64 0,.int .i64 0,.int .i64 0,.int .i64 0,.int .i64 0] 62)) (w.heap.size+1) ⟨0,0,0,0,0,0⟩:=by
  have:=World.alloc_heap_new (w.alloc (.cells #[.int .i64 b.kd,.int .i64 b.n,.slice ba b.bets.length bcap,.slice sa b.scr.length scap,.bool b.fav,.int .i64 b.car,.int .i64 b.duty,.int .i64 b.step] 41)) (.cells #[.int .i64 0,.int .i64 0,.int .i64 0,.int .i64 0,.int .i64 0,.int .i64 0] 62)
  rwa [World.size_alloc] at this
 rintro e W1 ⟨hE1,⟨hne,rfl⟩ | ⟨h0,p,m,rfl,hp,hT⟩⟩
 ·obtain ⟨er,her⟩:∃ er,er=zbl b (zj ps):=⟨_,rfl⟩
  rw [← her] at hne ⊢;have f1:(er != 0)=true:=by simpa using hne
  have HE1:=hid (Ext.trans' (by exact xx) hE1:Ext w W1);have HER:=hid her;have HNE:=hid hne;have hA1:=hA0.ext hE1;have c0r:=(hA1).c0;have c1r:=(hA1).c1;have c2r:=(hA1).c2;have c3r:=(hA1).c3;have c4r:=(hA1).c4;have c5r:=(hA1).c5;have cfr:=fun o=>(hA1).fr o
  have czr:=(hA1).lt;simp only at c0r c1r c2r c3r c4r c5r;clear her hne hE1 hA0 hA1;go_wp2_with fail;refine bodyPost_ret (v:=.tuple #[zel ⟨0,0,0,0,0,0⟩,.int .i64 er]) (by simp [results,Tryz.results21,go_sem,zel,zix,c0r,c1r,c2r,c3r,c4r,c5r,cfr]) rfl ?_
  refine ⟨congrArg _ (zadm HER.out HNE.out).symm,?_⟩;exact z3x HE1.out (Nat.le_succ _) _ _ _ _ _ _
 ·have HE1:=hid (Ext.trans' (by exact xx) hE1:Ext w W1)
  have H0:=hid h0;have HT1:=hid hT;have HF1:=hid (HF0.out.ext HE1.out);have HA1:=hid (hA0.ext hE1);clear hE1 h0 hT hA0 HF0 HV;go_wp2_with fail;refine (z8n p m b ba sa fa bcap scap fcap ps _ HT1.out HF1.out (z6i H0.out)).mono ?_
  rintro e W2 ⟨rfl,hE2⟩;obtain ⟨A,hA⟩:∃ A,A=zjr b (zj ps):=⟨_,rfl⟩
  rw [← hA];have HA:=hid hA;have hA1:=HA1.out.ext hE2;have c0r:=(hA1).c0;have c1r:=(hA1).c1;have c2r:=(hA1).c2;have c3r:=(hA1).c3;have c4r:=(hA1).c4;have c5r:=(hA1).c5;have cfr:=fun o=>(hA1).fr o
  have czr:=(hA1).lt;simp only at c0r c1r c2r c3r c4r c5r;have HE2:=hid (HE1.out.trans' hE2);simp only [zel,zix];clear hA hA1 hE2;go_wp2_with fail;refine bodyPost_ret (v:=.tuple #[zel A,.int .i64 0]) (by simp [results,Tryz.results21,go_sem,zel,zix,c0r,c1r,c2r,c3r,c4r,c5r,cfr]) rfl ?_
  refine ⟨by rw [zyj H0.out,HA.out],z3x HE2.out (Nat.le_succ _) _ _ _ _ _ _⟩
end Go.Proofs.YtdamgacabfbpjaaGreat
namespace Go.Proofs.YtdamgacabfbpjaaGreat
open Go.Lib (hid)
open Go.RowKit Go.Shelf
end Go.Proofs.YtdamgacabfbpjaaGreat
namespace Go.Proofs.YtdamgacabfbpjaaGreat
open Go.Lib (hid)
open Go.RowKit Go.Shelf
theorem zaa8 (a b a' b':Int) (w:World):(Op.equal 54 (.agg #[.int .i64 a,.int .i64 b]) (.agg #[.int .i64 a',.int .i64 b'])).run Tryz.prog w = .ok (a == a' && b == b') w:=by
 simp only [Op.equal,Op.maxDepth];rw [run_equalIn_struct w 9999 54 _ _ (by kernel_rfl) (by kernel_rfl)]
 have hf : (Tryz.prog.fieldsOf 54).toList = [⟨"Lo", 2, 0, false, "", "", 0⟩, ⟨"Hi", 2, 1, false, "", "", 8⟩] := by kernel_rfl
 rw [hf]
 by_cases e1:a=a'<;>by_cases e2:b=b'<;>simp [go_sem,e1,e2]
theorem zaa9 (x y:Acc) (w:World):(Op.equal 62 (zel x) (zel y)).run Tryz.prog w = .ok (decide (x=y)) w:=by
 simp only [Op.equal,Op.maxDepth,zel,zix];rw [run_equalIn_struct w 9999 62 _ _ (by kernel_rfl) (by kernel_rfl)]
 have hf : (Tryz.prog.fieldsOf 62).toList = [⟨"In", 2, 0, false, "", "", 0⟩, ⟨"Back", 2, 1, false, "", "", 8⟩, ⟨"Duty", 2, 2, false, "", "", 16⟩, ⟨"Paid", 2, 3, false, "", "", 24⟩, ⟨"Kept", 2, 4, false, "", "", 32⟩, ⟨"Over", 2, 5, false, "", "", 40⟩] := by kernel_rfl
 rw [hf];obtain ⟨a1,a2,a3,a4,a5,a6⟩:=x;obtain ⟨b1,b2,b3,b4,b5,b6⟩:=y;simp only [Acc.mk.injEq]
 by_cases e1:a1=b1
 ·by_cases e2:a2=b2
  ·by_cases e3:a3=b3
   ·by_cases e4:a4=b4
    ·by_cases e5:a5=b5
     ·by_cases e6:a6=b6<;>simp [go_sem,e1,e2,e3,e4,e5,e6]
     ·simp [go_sem,e1,e2,e3,e4,e5]
    ·simp [go_sem,e1,e2,e3,e4]
   ·simp [go_sem,e1,e2,e3]
  ·simp [go_sem,e1,e2]
 ·simp [go_sem,e1]
theorem zaf4 (w:World) (a b a' b':Int):(binOp .neq 54 (.agg #[.int .i64 a,.int .i64 b]) (.agg #[.int .i64 a',.int .i64 b'])).run Tryz.prog w = .ok (.bool (!(a == a' && b == b'))) w:=by
 have:=zaa8 a b a' b' w
 skip
 simp [binOp,go_sem,this]
theorem zaf5 (w:World) (p q:Acc):(binOp .eql 62 (.agg #[.int .i64 p.i,.int .i64 p.k,.int .i64 p.d,.int .i64 p.p,.int .i64 p.q,.int .i64 p.o]) (.agg #[.int .i64 q.i,.int .i64 q.k,.int .i64 q.d,.int .i64 q.p,.int .i64 q.q,.int .i64 q.o])).run Tryz.prog w = .ok (.bool (decide (p=q))) w:=by
 have:=zaa9 p q w;simp only [zel,zix] at this;simp [binOp,go_sem,this]
end Go.Proofs.YtdamgacabfbpjaaGreat
