/-
  The walk of Finish of the heats: the first finish that agrees.
-/
import Derived.Test.YtdamgacabfbpjaaGreatHb
import Derived.Test.YtdamgacabfbpjaaGreatBb
import Derived.Test.YtdamgacabfbpjaaGreatHc
import Derived.Test.YtdamgacabfbpjaaGreatPf
import Derived.Test.YtdamgacabfbpjaaGreatPd
import Derived.Test.YtdamgacabfbpjaaGreatRows
import Derived.ProofKit
import Derived.OpenShut
import Derived.Carry
import Derived.Lib.SmallJoins
import Derived.Deep.Slices
import Derived.Test.YtdamgacabfbpjaaGreatPc
import Derived.Deep.Strs
import Derived.Test.YtdamgacabfbpjaaGreatHa
set_option maxRecDepth 200000
set_option maxHeartbeats 0
set_option linter.unusedSimpArgs false
set_option linter.unusedVariables false
namespace Go.Proofs.YtdamgacabfbpjaaGreat
open Go.Lib (hid)
open Go.RowKit Go.Shelf
attribute [local go_sem] Oper.semAt_some
theorem zabg {l:List Int}:∀ r∈l.map (fun n=>[Value.int .i64 n]),∀ u∈r,u.oneCell'=true:=by
 intro r hr;obtain ⟨x,_,rfl⟩:=List.mem_map.1 hr;simp [Value.oneCell']
theorem zabh {l:List Int}:∀ r∈l.map (fun n=>[Value.int .i64 n]),r.length=1:=by
 intro r hr;obtain ⟨x,_,rfl⟩:=List.mem_map.1 hr;rfl
theorem z8y (l:List Int) (b off n cap:Nat) (w:World) (hv:zt w .i64 (.slice (some ⟨b,off,none⟩) n cap) l) (hl:l.length≤1000000) :
  Calls Tryz.prog 29 #[.slice (some ⟨b,off,none⟩) n cap] w fun e W=>∃ v,e = .returned v∧Ext w W∧zp W w.heap.size 3 1 v (l.map zbn):=by
 have HV:=hid hv;clear hv;have heq:∀ W,(binOp .eql 28 (.slice (some ⟨b,off,none⟩) n cap) (.slice none 0 0)).run Tryz.prog W = .ok (.bool false) W:=fun W=>Lib.run_eql_slice_nil W 28 3 _ _ _ _ _ zha.und
 go_enter Tryz.func29,Tryz.ntmps29
 go_wp2_with (at_builtin;refine zah7 rfl (.tmp 5) (.tmp 6) zha rfl w.heap.size rfl (zaei _ _ _ _ (Nat.le_refl _)) rfl (l.map zbn) zabh (HV.out.ext (by exact xx)) zabg (by simpa using hl) (by simp) ?_);intro v' w' hown' hE';obtain ⟨sa',n',cap',rfl⟩:=hown'.isSlice;have HO:=hid hown';have HE:=hid hE';clear hown' hE';go_wp2_with fail;go_ret;exact ⟨_,rfl,Ext.trans' (by exact xx) HE.out,HO.out⟩
theorem z4a (g n:Nat) (hn:n≤5) (W:World):(Instr.sliceAt 71 (.pointer (some ⟨g,0,none⟩)) none (some (.int .i64 n)) none).run Tryz.prog W = .ok (.slice (some ⟨g,0,none⟩) n 5) W:=by
 have hl:Tryz.prog.arrayLen 71=5:=by kernel_rfl
 have hs:∀ W,(sizeOf (Tryz.prog.elem 71)).run Tryz.prog W = .ok 1 W:=fun W=>by kernel_rfl
 rw [run_sliceAt_array_h _ _ _ (by kernel_rfl) .i64 (n:Int) (by omega) (by rw [hl];omega),hl,hs];simp [slicedAt,Addr.add]
def zu7 (h:Rc):List Int:=(zcb h).head?.getD []
theorem zadw {ws:List Wd}:∀ {L pre rest:List (List Int)} {f:List Int},L=pre ++ f :: rest→(∀ x∈pre,zck ws x=false)→zck ws f=true→L.filter (zck ws)=f :: rest.filter (zck ws):=by
 intro L pre rest f e h hf;rw [e,List.filter_append,List.filter_eq_nil_iff.2 (fun x hx=>by rw [h x hx];simp),List.filter_cons_of_pos hf,List.nil_append]
theorem zadx {ws:List Wd} {L:List (List Int)} (h:∀ x∈L,zck ws x=false):L.filter (zck ws)=[]:=List.filter_eq_nil_iff.2 (fun x hx=>by rw [h x hx];simp)
theorem A5.ints {W:World} {g n:Nat} {f:List Int} (h:A5 W g (pl f)) (hf:f.length=n) (hn:n≤5):zt W .i64 (.slice (some ⟨g,0,none⟩) n 5) f:=by
 rw [← hf];have e:∀ i,(hi:i < f.length)→W.cell? ⟨g,0+i,none⟩=some (.int .i64 f[i]):=fun i hi=>by
  rw [Nat.zero_add,h.cell i (by omega)];unfold pl;rw [List.getD_eq_getElem?_getD,List.getElem?_eq_getElem hi];rfl
 exact zt.mk (by omega) (by omega) e
theorem z8z (h:Rc) (sa:Option Addr) (cap:Nat) (w:World) (hv:zcc w (.slice sa h.ws.length cap) h.ws) (h0:zap h=0) :
  CallsIn Fence.wide 9 Tryz.prog 9 #[.agg #[.int .i64 h.n,.slice sa h.ws.length cap]] w fun e w'=>∃ v,e = .returned (.tuple #[v,.int .i64 (zcs h)])∧Ext w w'∧zt w' .i64 v (zu7 h):=by
 have V:=hid (zlg h0);have hn1:=V.out.n1;have hn5:=V.out.n5;have HV:=hid hv;have H0:=hid h0;clear hv h0;refine callsIn_of_wp_marks Tryz.func9 rfl trivial ?_ rfl;simp only [Tryz.ntmps9,List.size_toArray,List.length_cons,List.length_nil,Nat.reduceAdd,Nat.reduceSub,Array.replicate_succ,Array.replicate_zero,List.push_toArray,List.append_toArray,List.nil_append,List.cons_append];refine wpIn_wide.2 ?_
 go_upto_region 1 with (fail);obtain ⟨W0,hW0⟩:∃ W0,W0=((w.alloc (.cells #[.int .i64 h.n,.slice sa h.ws.length cap] 24)).alloc (.cells #[.slice none 0 0] 28)).alloc (.cells #[.int .i64 0] 30):=⟨_,rfl⟩
 have hE:Ext w W0:=by rw [hW0];exact xx
 have k0:W0.cell? ⟨w.heap.size,0,none⟩=some (.int .i64 h.n):=by rw [hW0];simp [go_sem]
 have k1:W0.cell? ⟨w.heap.size,1,none⟩=some (.slice sa h.ws.length cap):=by rw [hW0];simp [go_sem]
 have t1:W0.cell? ⟨w.heap.size+1,0,none⟩=some (.slice none 0 0):=by rw [hW0];simp [go_sem]
 have t2:W0.cell? ⟨w.heap.size+1+1,0,none⟩=some (.int .i64 0):=by rw [hW0];simp [go_sem]
 have f1:W0.frozen? ⟨w.heap.size+1,0,none⟩=false:=by rw [hW0];simp [go_sem]
 have f2:W0.frozen? ⟨w.heap.size+1+1,0,none⟩=false:=by rw [hW0];simp [go_sem]
 have hz:w.heap.size+1+1 < W0.heap.size:=World.block_lt_of_cell? _ _ t2;have hza:w.heap.size+1 < W0.heap.size:=by omega
 have hzb:w.heap.size < W0.heap.size:=by omega
 have HW:=hid hE;replace HV:=hid (HV.out.ext hE);rw [← hW0];clear hW0 hE;go_wp2_with fail;refine (zsc h sa cap W0 HV.out).mono ?_
 rintro e W1 ⟨hE1,⟨hne,-⟩ | ⟨-,p,rfl,hp,hR⟩⟩
 ·exact absurd H0.out hne
 replace k0:=zd hE1 k0;replace t1:=zd hE1 t1;replace t2:=zd hE1 t2;replace f1:=(hE1.frozen (p:=⟨w.heap.size+1,0,none⟩) (by simp only;omega)).trans f1;replace f2:=(hE1.frozen (p:=⟨w.heap.size+1+1,0,none⟩) (by simp only;omega)).trans f2;have hz1:=hE1.size;replace hz:w.heap.size+1+1 < W1.heap.size:=by omega
 replace hza:w.heap.size+1 < W1.heap.size:=by omega
 replace hzb:w.heap.size < W1.heap.size:=by omega
 have HW1:=hid (HW.out.trans' hE1);have HV1:=hid (HV.out.ext hE1);have HR1:=hid hR;clear hE1 hR k1 hp HW HV hz1;go_upto_region 2 with (fail);obtain ⟨Z,hZ⟩:∃ Z,W1.alloc (.cells #[.pointer (some ⟨p,0,none⟩)] 67)=Z:=⟨_,rfl⟩
 have hEZ:Ext W1 Z:=by rw [← hZ];exact xx
 have hsZ:Z.heap.size=W1.heap.size+1:=by rw [← hZ];simp
 have hpZ:Z.cell? ⟨W1.heap.size,0,none⟩=some (.pointer (some ⟨p,0,none⟩)):=by rw [← hZ];simp [go_sem]
 rw [hZ];replace k0:=zd hEZ k0;replace t1:=zd hEZ t1;replace t2:=zd hEZ t2;replace f1:=(hEZ.frozen (p:=⟨w.heap.size+1,0,none⟩) (by simp only;omega)).trans f1;replace f2:=(hEZ.frozen (p:=⟨w.heap.size+1+1,0,none⟩) (by simp only;omega)).trans f2;have kp:=HR1.out.ext hEZ;obtain ⟨n,hn⟩:∃ n:Nat,h.n=n:=⟨h.n.toNat,by omega⟩
 have hn5':n≤5:=by omega
 have hn1':2≤n:=by omega
 have HN:Hid (zcb h=(zgt n).filter (zck h.ws)):=hid (by unfold zcb;rw [hn];rfl);rw [hn] at k0;have kp0:=kp.c0;rw [hn] at kp0;have HPR:=hid kp;have HWZ:=hid (HW1.out.trans' hEZ);have HVZ:=hid (HV1.out.ext hEZ);obtain ⟨q,hq⟩:∃ q,q=W1.heap.size:=⟨_,rfl⟩
 rw [← hq] at hpZ hsZ hz hza hzb ⊢;clear hZ hEZ hq HR1 HW1 HV1 kp hn;go_wp2_with fail;refine (zq2 p Z).mono ?_
 rintro e W5 ⟨rfl,hE5,hb5,hz5⟩;rw [hsZ] at hb5 hz5;have k5:=zd hE5 k0;have x1:=zd hE5 t1;have x2:=zd hE5 t2;have y1:=(hE5.frozen (p:=⟨w.heap.size+1,0,none⟩) (by simp only;omega)).trans f1;have y2:=(hE5.frozen (p:=⟨w.heap.size+1+1,0,none⟩) (by simp only;omega)).trans f2;have kp5:=zd hE5 kp0;have hq5:=zd hE5 hpZ;have HP5:=hid (HPR.out.ext hE5);have HV5:=hid (HVZ.out.ext hE5);have HE5:=hid (HWZ.out.trans' hE5);have hqz:q < W5.heap.size:=by omega
 have hpz:p < W5.heap.size:=World.block_lt_of_cell? _ _ kp5;clear hE5 k0 t1 t2 f1 f2 kp0 hpZ HPR HVZ HWZ;go_wp2_with fail;refine (wpIn_wide (n:=9)).1 ?_
 refine zly (n:=9) (R:=fun k=>k < W5.heap.size) rfl (enters_of Tryz.func62 (by kernel_rfl) rfl)
  (zxa n p (q+1) (fun k=>k < W5.heap.size) W5 hn1' hn5' (fun k hk=>hk)
   (fun W hk=>⟨hk.cell hb5 (by simp only;omega),hk.cell kp5 (by simp only;omega)⟩))
  (Below.refl _ _) (fun k hk=>hk) (fun _=>rfl)
  (fun O pre W=>(∀ k,O k→W5.heap.size≤k)∧W5.heap.size≤W.heap.size∧Ext W5 W∧∀ x∈pre,zck h.ws x=false)
  (fun c O pre W=>c = .ret∧(∀ k,O k→W5.heap.size≤k)∧W5.heap.size≤W.heap.size∧Ext w W∧∃ va vn vc f t,zcb h=f :: t∧W.cell? ⟨w.heap.size+1,0,none⟩=some (.slice va vn vc)∧W.cell? ⟨w.heap.size+1+1,0,none⟩=some (.int .i64 0)∧zp W (W5.heap.size+2) 3 1 (.slice va vn vc) (f.map zbn)∧∀ g,(Value.slice va vn vc).ownBlock=some g→¬ O g)
  ?bears ?bearx ⟨fun _ h=>h.elim,Nat.le_refl _,Below.refl _ _,fun _ h=>(by cases h)⟩ ?round ?done ?stop
 case bears =>
  rintro pre O O' A B ⟨g1,g2,g3,g4⟩ hk hO1 hO2;have hlow:Kept (fun k=>k < W5.heap.size) A B:=hk.mono fun k _ hk=>⟨fun ho=>by have:=g1 k ho;omega,by omega⟩
  refine ⟨fun k hk2=>?_,by have:=hk.size;omega,g3.trans (Kept.below (hlow.mono fun k _ h=>by omega) g3.size),g4⟩
  rcases hO2 k hk2 with h | h
  ·exact g1 k h
  ·omega
 case bearx =>
  rintro c pre O O' A B ⟨rfl,g1,g2,g3,va,vn,vc,f,t,g4,g5,g6,g7,g8⟩ hk hO1 hO2;have hlow:Kept (fun k=>k < W5.heap.size) A B:=hk.mono fun k _ hk=>⟨fun ho=>by have:=g1 k ho;omega,by omega⟩
  refine ⟨rfl,fun k hk2=>?_,by have:=hk.size;omega,g3.trans (Kept.below (hlow.mono fun k _ h=>by have:=HE5.out.size;omega) g3.size),va,vn,vc,f,t,g4,hlow.cell g5 (by simp only;omega),hlow.cell g6 (by simp only;omega),g7.keptAt hk (fun g cur h1 h2 _=>⟨g8 g h2,by omega⟩),fun g hg ho=>?_⟩
  ·rcases hO2 k hk2 with h | h
   ·exact g1 k h
   ·omega
  ·rcases hO2 g ho with h | h
   ·exact g8 g hg h
   ·have:=(g7.notOwn g hg).2;omega
 case round =>
  rintro l O pre y W ⟨g1,g2,g3,g4⟩ ⟨rest,hrest⟩ hO2 hW2;simp only [zfd];gi_wp2_with fail;refine ⟨xx,fun W2 hk2=>?_⟩;have hEa:Ext W (W.alloc (.cells #[.int .i64 (pl y 0),.int .i64 (pl y 1),.int .i64 (pl y 2),.int .i64 (pl y 3),.int .i64 (pl y 4)] 71)):=xx;have hA:A5 W2 W.heap.size (pl y):=((A5.new W (pl y 0) (pl y 1) (pl y 2) (pl y 3) (pl y 4)).congr (zym y)).of_heap (hk2.same _ (by simp) (by omega));have hz2:=hk2.size;simp only [World.size_alloc] at hz2;have hyl:y.length=n:=zl7 (z31.1 (by rw [hrest];simp));have hE2:Ext W5 W2:=(g3.trans' hEa).trans (Kept.below (hk2.mono fun k _ h=>by omega) (by have:=g3.size;simp;omega));obtain ⟨c0,c1,c2,c3,c4⟩:=hA.five;have hq2:=zd hE2 hq5;have hqz2:q < W2.heap.size:=by omega
  have hyz:=hA.lt;have HA:=hid hA;have HE2:=hid hE2;have HAG:=hid (zqs h sa cap p y W2 (HV5.out.ext hE2) (HP5.out.ext hE2) V.out.ok);simp only [zfd] at HAG;have G4:=hid g4;have HREST:=hid hrest;have HYL:=hid hyl;clear hEa hE2 hA g3 g4 hrest hyl hk2;gi_wp2_with fail;refine ⟨trivial,(CallsIn.inRound l (callsIn_wide.2 HAG.out)).mono ?_⟩;rintro e W3 ⟨rfl,hE3⟩;have hz3:=hE3.size;have HE3:=hid hE3;have hE23:=HE2.out.trans' hE3;have HE23:=hid hE23;have k6:=zd hE23 k5;have z1:=zd hE23 x1;have z2:=zd hE23 x2;have v1:=(hE23.frozen (p:=⟨w.heap.size+1,0,none⟩) (by simp only;omega)).trans y1;have v2:=(hE23.frozen (p:=⟨w.heap.size+1+1,0,none⟩) (by simp only;omega)).trans y2;have hA3:A5 W3 W.heap.size (pl y):=HA.out.of_heap (hE3.block _ HA.out.lt);obtain ⟨d0,d1,d2,d3,d4⟩:=hA3.five;have hyz3:=hA3.lt;have HI:=hid (hA3.ints HYL.out hn5');clear hE3 hE23 HAG HA c0 c1 c2 c3 c4 hq2 hyz hqz2 hA3;cases ha:zck h.ws y
  ·have HAF:=hid ha
   clear ha;gi_wp2_with fail;refine ⟨.of_below HE3.out,g1,by omega,HE23.out,fun x hx=>?_⟩
   rcases List.mem_append.1 hx with hx | hx
   ·exact G4.out x hx
   ·simp at hx
    subst hx;exact HAF.out
  ·have HAF:=hid ha
   clear ha;have hsl:=z4a W.heap.size n hn5';gi_wp2_with fail;refine ⟨trivial,(CallsIn.inRound l (callsIn_wide.2 (z8y y _ 0 n 5 W3 HI.out (by have:=HYL.out;omega)))).mono ?_⟩;rintro e W4 ⟨v,rfl,hE4,hown⟩;obtain ⟨va,vn,vc,rfl⟩:=hown.isSlice;have u1:=zd hE4 z1;have u2:=zd hE4 z2;have g1':=(hE4.frozen (p:=⟨w.heap.size+1,0,none⟩) (by simp only;omega)).trans v1;have g2':=(hE4.frozen (p:=⟨w.heap.size+1+1,0,none⟩) (by simp only;omega)).trans v2;have hz4:=hE4.size;have HE4:=hid hE4;have HOWN:=hid hown;have HO2:=hid hO2;clear hE4 hown z1 z2 v1 v2 d0 d1 d2 d3 d4 hsl hyz3 k6 HI hO2;gi_wp2_with fail;have hkk:Kept (fun k=>k≠w.heap.size+1∧k≠w.heap.size+1+1) W4 ((W4.setCell ⟨w.heap.size+1,0,none⟩ (.slice va vn vc)).setCell ⟨w.heap.size+1+1,0,none⟩ (.int .i64 0)) :=
    ((Kept.refl (fun k=>k≠w.heap.size+1∧k≠w.heap.size+1+1) W4).setCell (fun _ h=>h.1 rfl) _).setCell (fun _ h=>h.2 rfl) _
   refine ⟨(((Kept.of_below HE3.out).trans (Kept.of_below HE4.out)).setCell (fun _ h=>by simp only at h;omega) _).setCell (fun _ h=>by simp only at h;omega) _,rfl,g1,by simp [World.setCell];omega,
    ((HE5.out.trans' (HE23.out.trans' HE4.out)).setCell (by simp only;omega) _).setCell (by simp only;omega) _,va,vn,vc,y,rest.filter (zck h.ws),?_,?_,?_,?_,?_⟩
   ·rw [HN.out]
    exact zadw HREST.out G4.out HAF.out
   ·simp [go_sem,u1,u2,g1',g2']
   ·simp [go_sem,u1,u2,g1',g2']
   ·exact (HOWN.out.keptAt hkk (fun g cur h1 _ _=>⟨by omega,by omega⟩)).base (by omega)
   ·intro g hg ho
    have h1:=(HOWN.out.notOwn g hg).1;have h2:=(HO2.out g ho).2;omega
 case done =>
  rintro D O xs W hD hS ⟨g1,g2,g3,g4⟩ hDk;have s1:=zd g3 x1;have s2:=zd g3 x2;have r1:=(g3.frozen (p:=⟨w.heap.size+1,0,none⟩) (by simp only;omega)).trans y1;have r2:=(g3.frozen (p:=⟨w.heap.size+1+1,0,none⟩) (by simp only;omega)).trans y2;have hxb:w.heap.size+1+1 < W.heap.size:=by omega
  have HDK:=hid hDk;have HEW:=hid (HE5.out.trans' g3);have hDlt:=(Array.getElem?_eq_some_iff.1 hDk).1;have hfn:zcb h=[]:=by rw [HN.out];exact zadx fun x hx=>g4 x (by rw [hS];exact hx)
  have HFN:=hid hfn;clear hDk g1 g3 g4 hS hfn;go_wp2_with fail;have hDK':=(Below.heap_setCell _ ⟨w.heap.size+1+1,0,none⟩ (.int .i64 22) D (by simp only;omega)).trans ((Below.heap_setCell W ⟨w.heap.size+1,0,none⟩ (.slice none 0 0) D (by simp only;omega)).trans HDK.out);have hc1:((W.setCell ⟨w.heap.size+1,0,none⟩ (.slice none 0 0)).setCell ⟨w.heap.size+1+1,0,none⟩ (.int .i64 22)).cell? ⟨w.heap.size+1,0,none⟩=some (.slice none 0 0):=by simp [go_sem,s1,s2,r1,r2]
  have hc2:((W.setCell ⟨w.heap.size+1,0,none⟩ (.slice none 0 0)).setCell ⟨w.heap.size+1+1,0,none⟩ (.int .i64 22)).cell? ⟨w.heap.size+1+1,0,none⟩=some (.int .i64 22):=by simp [go_sem,s1,s2,r1,r2]
  obtain ⟨V2,hV2⟩:∃ V2,V2=(W.setCell ⟨w.heap.size+1,0,none⟩ (.slice none 0 0)).setCell ⟨w.heap.size+1+1,0,none⟩ (.int .i64 22):=⟨_,rfl⟩
  have hEV:Ext w V2:=by rw [hV2];exact (HEW.out.setCell (by simp only;omega) _).setCell (by simp only;omega) _
  rw [← hV2] at hDK' hc1 hc2 ⊢;refine ⟨by simp,.inl ⟨_,_,rfl,run_takeDeferred hDK',?_⟩⟩;have hkd:Kept (fun k=>k≠D) V2 (V2.putObj D (.deferred none)):=(Kept.refl _ V2).putObj _ (fun _ h=>h rfl);have d1:=hkd.cell hc1 (by simp only;omega);have d2:=hkd.cell hc2 (by simp only;omega);refine ⟨.tuple #[.slice none 0 0,.int .i64 22],by simp [results,Tryz.results9,go_sem,d1,d2],.slice none 0 0,?_,?_,?_⟩
  ·unfold zcs;rw [HFN.out];rfl
  ·exact hEV.trans (Kept.below (hkd.mono fun k _ h=>by have:=HE5.out.size;omega) hEV.size)
  ·unfold zu7;rw [HFN.out];exact ⟨none,0,rfl,by simp,by simp,.inl rfl⟩
 case stop =>
  rintro D O c pre W hD - ⟨rfl,g1,g2,g3,va,vn,vc,f,t,g4,g5,g6,g7,g8⟩ hDk;have HDK:=hid hDk
  gi_wp2
  refine ⟨by simp,.inl ⟨_,_,rfl,run_takeDeferred HDK.out,?_⟩⟩;have hkd:Kept (fun k=>k≠D) W (W.putObj D (.deferred none)):=(Kept.refl _ W).putObj _ (fun _ h=>h rfl);have d1:=hkd.cell g5 (by simp only;omega);have d2:=hkd.cell g6 (by simp only;omega);refine ⟨.tuple #[.slice va vn vc,.int .i64 0],by simp [results,Tryz.results9,go_sem,d1,d2],.slice va vn vc,?_,?_,?_⟩
  ·unfold zcs;rw [g4];rfl
  ·exact g3.trans (Kept.below (hkd.mono fun k _ h=>by have:=HE5.out.size;omega) g3.size)
  ·unfold zu7;rw [g4];exact (g7.putOther HDK.out _).oneInts
theorem z49 (h:Rc) (sa:Option Addr) (cap:Nat) (w:World) (hv:zcc w (.slice sa h.ws.length cap) h.ws) (h0:zap h=0) :
  Calls Tryz.prog 9 #[.agg #[.int .i64 h.n,.slice sa h.ws.length cap]] w fun e w'=>∃ v,e = .returned (.tuple #[v,.int .i64 (zcs h)])∧Ext w w'∧zt w' .i64 v (zu7 h):=callsIn_wide.1 (z8z h sa cap w hv h0)
end Go.Proofs.YtdamgacabfbpjaaGreat
namespace Go.Proofs.YtdamgacabfbpjaaGreat
open Go.Lib (hid)
open Go.RowKit Go.Shelf
theorem z4b (f:List Int) (n k:Nat):zbb f n (k+1)=zbb f n k ++ if zdi f n (1+(k:Int))=[] then [] else [zdi f n (1+(k:Int))]:=by
 unfold zbb;rw [List.range_succ,List.map_append,List.filter_append]
 by_cases h:zdi f n (1+(k:Int))=[]<;>simp [h]
theorem zz0 (f:List Int) (n:Nat) (p:Int):(zdi f n p).length≤n:=by
 unfold zdi;rw [List.length_map];exact Nat.le_trans (List.length_filter_le _ _) (by simp)
theorem z4c (f:List Int) (v:Value) (w:World) (hv:zt w .i64 v f) (hn:f.length≤5) :
  Calls Tryz.prog 11 #[v] w fun e w'=>∃ v ps,e = .returned v∧Ext w w'∧LL w' w.heap.size v ps∧zj ps=zic f f.length:=by
 obtain ⟨va,vc,rfl,h1,h2,hc⟩:=hv.spec;have HC:=hid hc;clear hc hv
 go_enter Tryz.func11,Tryz.ntmps11
 go_wp2_with fail
 go_loopw [3,4] (fun ov iv W=>∃ (k:Nat) (ps:List (Value × List Int)),k≤f.length∧iv = .int .i64 (1+(k:Int))∧LL W w.heap.size ov ps∧zj ps=zbb f f.length k∧Ext w W) (fun _ iv _=>(f.length+1:Nat) - (intOf iv).toNat)
 case atStart=>exact ⟨0,[],by omega,rfl,LL.nil _ _,rfl,Below.refl _ _⟩
 case round =>
  obtain ⟨k,ps,hk,rfl,hll,hps,hE⟩:=hrel;have HLL:=hid hll;have HPS:=hid hps;have HE:=hid hE;obtain ⟨oa,on,oc,rfl⟩:=hll.own.isSlice
  by_cases hlt:k < f.length
  ·have hki:1+(k:Int)≤(f.length:Int):=by omega
   have hxz:=hE.size;obtain ⟨X,rfl⟩:∃ X,X=wr:=⟨_,rfl⟩
   clear hll hps hE;go_wp2_with fail
   go_loopw [5,6] (fun gv rv W=>∃ r:Nat,r≤f.length∧rv = .int .i64 r∧zp W X.heap.size 3 1 gv ((zdi f r (1+(k:Int))).map zbn)∧Ext X W) (fun _ rv _=>f.length - (intOf rv).toNat)
   case atStart=>exact ⟨0,by omega,rfl,zp.nil _ _ _ _,Below.refl _ _⟩
   case round =>
    obtain ⟨r,hr,rfl,hg,hE3⟩:=hrel;have HG:=hid hg;have HE3:=hid hE3;obtain ⟨ga,gn,gc,rfl⟩:=hg.isSlice;have hz3:=hE3.size
    by_cases hlt2:r < f.length
    ·have hri:(r:Int) < (f.length:Int):=by omega
     rcases HC.out with hc | ⟨b,off,rfl,hc⟩
     ·rw [hc] at hlt2;simp at hlt2
     have cr:=zd (HE.out.trans' hE3) (hc r hlt2);have hzr:=World.block_lt_of_cell? _ _ cr;simp only at hzr;rw [← zxb hlt2] at cr;have HS:=hid (zabb f r (1+(k:Int)));obtain ⟨x,hx⟩:∃ x,x=pl f r:=⟨_,rfl⟩
     rw [← hx] at cr HS;clear hc hx hg hE3
     by_cases hq:x=1+(k:Int)
     ·have hqi:(x == 1+(k:Int))=true:=by simpa using hq
      rw [if_pos hq] at HS;have HLEN:Hid (((zdi f r (1+(k:Int))).map zbn).length + [[Value.int .i64 r]].length≤1000000):=hid (by have:=zz0 f r (1+(k:Int));simp;omega);clear hq;obtain ⟨Y,rfl⟩:∃ Y,Y=wr:=⟨_,rfl⟩
      go_wp2_with (at_builtin;refine zaeg rfl (.tmp 25) (.tmp 27) zha rfl X.heap.size rfl (HG.out.ext (by exact xx)) Y.heap.size 0 1 [[.int .i64 r]] rfl (by simp) (zuq _ [.int .i64 r] _ _ _ rfl rfl) (by simp [Value.oneCell']) HLEN.out (by simp;omega) ?_);intro v' W4 hown4 hb4;obtain ⟨va2,vn,vc2,rfl⟩:=hown4.isSlice;have hE4:Ext X W4:=Below.trans (HE3.out.trans' (by exact xx:Ext Y (Y.alloc (.cells #[.int .i64 r] 3)))) hb4;have HO4:=hid hown4;have HE4:=hid hE4;clear hown4 hb4 hE4;go_wp2_with fail;go_roundw
      case rel=>exact ⟨r+1,by omega,by go_num,by rw [HS.out,List.map_append];exact HO4.out,HE4.out⟩
      case measure=>simp [intOf];omega
     ·have hqi:(x == 1+(k:Int))=false:=by simpa using hq
      rw [if_neg hq,List.append_nil] at HS;clear hq;go_wp2_with fail;go_roundw
      case rel=>exact ⟨r+1,by omega,by go_num,by rw [HS.out];exact HG.out,HE3.out⟩
      case measure=>simp [intOf];omega
    ·have hri:¬ ((r:Int) < (f.length:Int)):=by omega
     have hre:r=f.length:=by omega
     rw [hre] at hg;obtain ⟨G,hG⟩:∃ G,G=zdi f f.length (1+(k:Int)):=⟨_,rfl⟩
     rw [← hG] at hg;have hgl:G.length≤5:=by rw [hG];exact Nat.le_trans (zz0 _ _ _) hn
     have hsucc:=z4b f f.length k;rw [← hG] at hsucc;have HSU:=hid hsucc;obtain ⟨_,_,hge,-,-,-⟩:=hg.oneInts.spec;cases hge;have HGG:=hid hg;have HFU:=hid (HE.out.trans' hE3);have HLY:=hid (HLL.out.ext hE3);have HPL:Hid (ps.length≤5):=hid (by
      have h1:(zj ps).length=ps.length:=by simp [zj]
      rw [HPS.out] at h1;have h3:(zbb f f.length k).length≤k:=Nat.le_trans (List.length_filter_le _ _) (by simp);omega)
     clear hg hE3 hG hsucc hre;obtain ⟨Y,rfl⟩:∃ Y,Y=wr:=⟨_,rfl⟩
     by_cases hg0:G.length=0
     ·have hgi:¬ ((0:Int) < (G.length:Int)):=by omega
      have hge:G=[]:=List.eq_nil_of_length_eq_zero hg0;have HS2:Hid (zbb f f.length (k+1)=zbb f f.length k):=hid (by rw [HSU.out,hge];simp);have hd:decide ((0:Int) < (G.length:Int))=false:=decide_eq_false hgi;have hd2:decide (0 < G.length)=false:=decide_eq_false (by omega);clear hge hg0;go_wp2_with fail;go_roundw
      case rel=>exact ⟨k+1,ps,by omega,by go_num,HLY.out,by rw [HS2.out,HPS.out],HFU.out⟩
      case measure=>simp [intOf];omega
     ·have hgi:(0:Int) < (G.length:Int):=by omega
      have hgn:¬ G=[]:=fun h=>hg0 (by rw [h];rfl)
      have HS2:Hid (zbb f f.length (k+1)=zbb f f.length k ++ [G]):=hid (by rw [HSU.out,if_neg hgn]);have HLEN:Hid ((ps.map fun x=>[x.1]).length + [[Value.slice ga G.length gc]].length≤1000000):=hid (by have:=HPL.out;simp;omega);have hyw:=HFU.out.size;clear hgn hg0;go_wp2_with (at_builtin;refine zaeh rfl (.tmp 32) (.tmp 34) zaie rfl w.heap.size rfl (HLY.out.own.ext (by exact xx)) (some ⟨Y.heap.size,0,none⟩) 1 [[.slice ga G.length gc]] rfl (by simp) (.inr ⟨_,0,rfl,zuq _ [.slice ga G.length gc] _ _ _ rfl rfl⟩) (by simp [Value.oneCell']) HLEN.out (by simp;omega) ?_);intro v' W4 hown4 hk4;have hEa:Ext Y (Y.alloc (.cells #[.slice ga G.length gc] 28)):=by exact xx
      have hoa:=HLY.out.own.ext hEa;have hll4:LL W4 w.heap.size v' (ps ++ [(.slice ga G.length gc,G)]):=by
       refine ⟨by rw [List.map_append];exact hown4,fun x hx=>?_⟩
       rcases List.mem_append.1 hx with hx | hx
       ·exact ((HLY.out.each x hx).ext hEa).keep (by decide) hoa hk4
       ·simp only [List.mem_singleton] at hx
        subst hx;exact ((HGG.out.ext hEa).base (by omega)).keep (by decide) hoa hk4
      have hE4:Ext w W4:=Below.trans (HFU.out.trans' hEa) (hoa.keptBelow (by simp;omega) hk4);obtain ⟨va2,vn,vc2,rfl⟩:=hown4.isSlice;have HL4:=hid hll4;have HE4:=hid hE4;clear hown4 hk4 hEa hoa hll4 hE4;go_wp2_with fail;go_roundw
      case rel=>exact ⟨k+1,_,by omega,by go_num,HL4.out,by rw [HS2.out,← HPS.out];simp [zj],HE4.out⟩
      case measure=>simp [intOf];omega
  ·have hki:¬ (1+(k:Int)≤(f.length:Int)):=by omega
   have hke:k=f.length:=by omega
   have HFP:Hid (zj ps=zic f f.length):=hid (by rw [hps,hke];rfl);clear hll hps hE hke;go_wp2_with fail;refine bodyPost_ret (v:=.slice oa on oc) (by simp [results,Tryz.results11,go_sem]) rfl ?_
   exact ⟨_,rfl,HE.out,ps,HLL.out,HFP.out⟩
end Go.Proofs.YtdamgacabfbpjaaGreat
namespace Go.Proofs.YtdamgacabfbpjaaGreat
open Go.Lib (hid)
section
variable {h:Rc} {f:List Int} (hf:f∈zcb h)
include hf
theorem zagd:zcs h=0:=by
 unfold zcs;rw [if_neg];intro e;rw [List.eq_nil_of_length_eq_zero e] at hf;cases hf
theorem zage (h0:zap h=0) (hn:2≤h.n):zct h f=0:=by
 obtain ⟨h1,h2⟩:=zth.1 hf;have hl:=zl7 h1;unfold zct;rw [if_neg (by omega),if_neg (by omega),if_pos h1,if_pos h2]
end
theorem zagf {h:Rc} {f:List Int} (hc:zct h f=0):zap h=0∧f∈zcb h:=by
 unfold zct at hc
 split at hc
 ·rename_i h1
  exact absurd hc h1
 rename_i h1
 split at hc
 ·cases hc
 split at hc
 ·rename_i h2
  split at hc
  ·rename_i h3
   exact ⟨by simpa using h1,zth.2 ⟨h2,h3⟩⟩
  ·cases hc
 ·cases hc
theorem zady {h:Rc} (he:zcs h=0):zu7 h∈zcb h:=by
 unfold zcs at he;unfold zu7;cases hl:zcb h with
 | nil=>rw [hl] at he;cases he
 | cons a l=>simp
section
variable {f:List Int} {n:Nat} (h2:2≤n) (h5:n≤5) (hf:zba n f=true)
include h2 h5 hf
end
end Go.Proofs.YtdamgacabfbpjaaGreat
namespace Go.Proofs.YtdamgacabfbpjaaGreat
open Go.Lib (hid)
open Go.ChangeShapes Go.WideShapes Go.ChangeAt Go.RowKit
theorem own:ownKnob Tryz.prog.godebug=none:=by kernel_rfl
theorem laidOut:laidOutB Tryz.prog=true:=by kernel_rfl
section
variable {H:Type} {enc:TypeId × Value→H} {P:Program} {W W':World}
theorem zq3 (hl:laidOutB P=true) (hb:Below W.heap.size W W'):∀ (ts:List TypeId) (vs:List Value) (ds:List (DataW H)) (ps:List MemPlace),(∀ t∈ts,P.readableRec t=true∧t < P.types.size)→DataW.TrodAll enc P W 0 (fun _=>true) true ts vs ds ps→(∀ x∈ps,x.block < W.heap.size) →
  DataW.TrodAll enc P W' 0 (fun b=>decide (b < W.heap.size)) true ts vs ds ps
 | [],[],[],ps,_,h,_=>h
 | t :: ts,v :: vs,d :: ds,ps,ht,h,hp=>by
  obtain ⟨p,q,h1,h2,rfl⟩:=h;exact ⟨p,q,Below.trod hl (ht t (by simp)).1 (ht t (by simp)).2 h1 hb (fun x hx=>hp x (by simp [hx])),zq3 hl hb ts vs ds q (fun t' h'=>ht t' (by simp [h'])) h2 (fun x hx=>hp x (by simp [hx])),rfl⟩
 | [],_ :: _,_,_,_,h,_=>h.elim
 | [],[],_ :: _,_,_,h,_=>h.elim
 | _ :: _,[],_,_,_,h,_=>h.elim
 | _ :: _,_ :: _,[],_,_,h,_=>h.elim
def htsB (P:Program) (ts:List TypeId):Bool:=ts.all fun t=>P.readableRec t && decide (t < P.types.size)
theorem zahs {ts:List TypeId} (h:htsB P ts=true):∀ t∈ts,P.readableRec t=true∧t < P.types.size:=fun t ht=>by
 have:=List.all_eq_true.1 h t ht;simpa using this
theorem zadz {f:Func} {s:ChangeSpec} {args:Array Value} {ds gs:List (DataW H)} {before:List MemPlace} {tb:TypeId} (hl:laidOutB P=true) (hts:∀ t∈f.params.toList,P.readableRec t=true∧t < P.types.size) (hres:f.resultTypes = #[tb]) (htb:P.underlying tb=some .bool)
  (hW:DataW.Whole enc P f.params.toList s.vars false W args.toList ds gs before) (hvars:s.vars=[]) (hfn:s.fn H ds={ results:=[.lit (.bool true)],args:=ds }) (hb:Below W.heap.size W W') :
  s.post enc P f false true false false W args (.bool true) W':=by
 have hlt:=hW.lt;have hW':=hW;obtain ⟨p,q,hA,hV,rfl,_,_⟩:=hW;rw [hvars] at hV;obtain ⟨rfl,rfl⟩:=trodVars_none hV;have hfn':s.fn H (ds ++ [])={ results:=[.lit (.bool true)],args:=ds }:=by rw [List.append_nil];exact hfn
 refine ⟨ds,[],p ++ [],[],p,[],hW',?_,?_,?_,World.keptBut_mono (fun x hx=>⟨hx,?_⟩) (hb.frame (·∈p ++ [])),fun h=>by cases h⟩
 ·rw [hres,hfn']
  exact ⟨[],[],shut_bool htb true,rfl,rfl⟩
 ·rw [hfn']
  exact zq3 hl hb _ _ _ _ hts hA fun x hx=>hlt x (by simp [hx])
 ·rw [hfn',hvars]
  rfl
 ·right;left;simpa using hx
end
section
variable {H:Type} {enc:TypeId × Value→H} {W:World} {sp:Nat→Bool} {held:Bool} {base b0:Nat} {r:Reach}
theorem z4d {t e:TypeId} {sz:Nat} (ht:Tryz.prog.underlying t=some (.slice e)) (hc:Tryz.prog.cellsOf e=sz) (hs0:0 < sz) {n:Nat} {v:Value} {y:DataW H × List MemPlace} (h:DataW.trod enc Tryz.prog W base sp held n t [v]=some y) :
  ∃ rows:List (List Value),zbd W sz v rows∧∀ row∈rows,row.length=sz∧∃ m y',DataW.trod enc Tryz.prog W base sp held m e row=some y':=by
 rcases Go.Deep.open_slice ht h with ⟨h1,_⟩ | ⟨a,len,cap,m,n,D,Pl,h1,_,h2,h3,h4,_,h5⟩
 ·cases h1
  exact ⟨[],⟨none,0,rfl,by simp,by omega,.inl rfl⟩,by simp⟩
 ·cases h1
  have hlm:len≤m:=by rw [h4];split<;>omega
  obtain ⟨rows,hr1,hr2⟩:∃ rows:List (List Value),rows.length=len∧∀ i (hi:i < rows.length),W.cells? base (a.add (i * sz)) sz=some rows[i]∧∃ y',DataW.trod enc Tryz.prog W base sp held n e rows[i]=some y':=by
   have key:∀ k,k≤len→∃ rows:List (List Value),rows.length=k∧∀ i (hi:i < rows.length),W.cells? base (a.add (i * sz)) sz=some rows[i]∧∃ y',DataW.trod enc Tryz.prog W base sp held n e rows[i]=some y':=by
    intro k
    induction k with
    | zero=>exact fun _=>⟨[],rfl,fun i hi=>by simp at hi⟩
    | succ k ih =>
     intro hk;obtain ⟨rows,q1,q2⟩:=ih (by omega);obtain ⟨cs',q3,q4⟩:=h5 k (by omega);rw [hc] at q3;refine ⟨rows ++ [cs'],by simp [q1],fun i hi=>?_⟩
     by_cases hik:i < rows.length
     ·rw [List.getElem_append_left hik];exact q2 i hik
     ·have hik':i=k:=by simp at hi;omega
      subst hik';rw [List.getElem_append_right (by omega)];simp only [q1,Nat.sub_self,List.getElem_cons_zero];exact ⟨q3,_,q4⟩
   exact key len (Nat.le_refl _)
  subst hr1;refine ⟨rows,⟨some a,cap,rfl,h2,by simpa [maxLen] using h3,?_⟩,fun row hrow=>?_⟩
  ·by_cases hz:rows=[]
   ·exact .inl hz
   ·have hr0:0 < rows.length:=List.length_pos_iff.2 hz
    obtain ⟨_,q2,q3⟩:=World.cells?_some (hr2 0 hr0).1;have q4:=q3 0 hs0;rw [List.getElem?_eq_getElem (by omega)] at q4;simp [Addr.add] at q4;have hsp:=World.cell?_spot q4
    right
    obtain ⟨ab,ao,asp⟩:=a;simp only at hsp;subst hsp;refine ⟨ab,ao,rfl,fun i hi j hj=>?_⟩;obtain ⟨_,q5,q6⟩:=World.cells?_some (hr2 i hi).1;have q7:=q6 j (by omega);rw [List.getElem?_eq_getElem hj,addr_add,addr_add] at q7;exact q7
  ·obtain ⟨i,hi,rfl⟩:=List.getElem_of_mem hrow
   obtain ⟨q1,y',q2⟩:=hr2 i hi;exact ⟨(World.cells?_some q1).2.1,n,y',q2⟩
theorem z4e {α:Type} (f:α→List Value):∀ (rows:List (List Value)),(∀ r∈rows,∃ x,r=f x)→∃ l:List α,rows=l.map f
 | [],_=>⟨[],rfl⟩
 | r :: rs,h=>by
  obtain ⟨x,rfl⟩:=h r (by simp);obtain ⟨l,rfl⟩:=z4e f rs fun r hr=>h r (by simp [hr])
  exact ⟨x :: l,rfl⟩
theorem zz1 {k:IntKind} {t e:TypeId} (ht:Tryz.prog.underlying t=some (.slice e)) (he:Tryz.prog.underlying e=some (.int k)) (hc:Tryz.prog.cellsOf e=1) {v:Value} {d:DataW H} {p:List MemPlace} (hv:Value.okWide Tryz.prog W r b0 t v) (h:DataW.Trod enc Tryz.prog W base sp held t v d p) :
  ∃ l:List Int,zbd W 1 v (l.map fun n=>[.int k n])∧∀ x∈l,(Lit.int k x).wf=true:=by
 obtain ⟨a0,len,cap,rfl⟩:=okWide_slice ht hv;obtain ⟨n,hn⟩:=h;obtain ⟨rows,hr,hx⟩:=z4d ht hc (by omega) (v:=.slice a0 len cap) (by simpa [Value.cells] using hn);have key:∀ rs:List (List Value),(∀ row∈rs,row.length=1∧∃ m y',DataW.trod enc Tryz.prog W base sp held m e row=some y')→∃ l:List Int,rs=l.map (fun n=>[Value.int k n])∧∀ x∈l,(Lit.int k x).wf=true:=by
  intro rs
  induction rs with
  | nil=>exact fun _=>⟨[],rfl,by simp⟩
  | cons row rs ih =>
   intro hh;obtain ⟨l,rfl,hl⟩:=ih fun r hr=>hh r (by simp [hr])
   obtain ⟨_,m,y',ht⟩:=hh row (by simp);obtain ⟨x,rfl,_,hw⟩:=DataW.trod_int he ht;exact ⟨x :: l,rfl,fun y hy=>by rcases List.mem_cons.1 hy with rfl | hy;exact hw;exact hl y hy⟩
 obtain ⟨l,rfl,hl⟩:=key rows hx;exact ⟨l,hr,hl⟩
end
end Go.Proofs.YtdamgacabfbpjaaGreat
namespace Go.Proofs.YtdamgacabfbpjaaGreat
open Go.Lib (hid)
open Go.ChangeShapes Go.WideShapes Go.ChangeAt Go.RowKit
section
variable {H:Type} {enc:TypeId × Value→H} {W:World} {sp:Nat→Bool} {held:Bool} {base b0:Nat} {r:Reach}
end
end Go.Proofs.YtdamgacabfbpjaaGreat
namespace Go.Proofs.YtdamgacabfbpjaaGreat
open Go.Lib (hid)
open Go.ChangeShapes Go.WideShapes Go.ChangeAt Go.RowKit
section
variable {H:Type} {enc:TypeId × Value→H} {W:World} {sp:Nat→Bool} {held:Bool} {base b0:Nat} {r:Reach}
theorem array2 {α:Type} {cs:Array α} (h:cs.size=2):∃ c0 c1,cs = #[c0,c1]:=by
 obtain ⟨l⟩:=cs
 match l,h with
 | [c0,c1],_=>exact ⟨c0,c1,rfl⟩
theorem zagg {n:Nat} {v:Value} {y:DataW H × List MemPlace} (h:DataW.trod enc Tryz.prog W base sp held n 22 [v]=some y):∃ l:List Wd,zcc W v l:=by
 have c1:Tryz.prog.cellsOf 3=1:=by kernel_rfl
 obtain ⟨rows,hr,hx⟩:=z4d Tryz.underlying22 (sz:=3) (by kernel_rfl) (by omega) h;obtain ⟨l,rfl⟩:=z4e zcr rows fun row hrow=>by
  obtain ⟨hl,m,y',ht⟩:=hx row hrow
  match row,hl with
  | [v0,v1,v2],_ =>
   obtain ⟨y0,y1,y2,n,_,_,h0,h1,h2⟩:=Go.Deep.trod_struct3 Tryz.underlying48 ht;have g0:DataW.trod enc Tryz.prog W base sp held n 3 [v0]=some y0:=by simpa [c1] using h0
   have g1:DataW.trod enc Tryz.prog W base sp held n 3 [v1]=some y1:=by simpa [c1] using h1
   have g2:DataW.trod enc Tryz.prog W base sp held n 3 [v2]=some y2:=by simpa [c1] using h2
   obtain ⟨f,hf,_⟩:=DataW.trod_int Tryz.underlying3 g0;obtain ⟨s,hs,_⟩:=DataW.trod_int Tryz.underlying3 g1;obtain ⟨u,hu,_⟩:=DataW.trod_int Tryz.underlying3 g2;cases hf;cases hs;cases hu;exact ⟨(f,s,u),rfl⟩
 exact ⟨l,hr⟩
theorem zad0 {v:Value} {d:DataW H} {p:List MemPlace} (hv:Value.okWide Tryz.prog W r b0 24 v) (h:DataW.Trod enc Tryz.prog W base sp held 24 v d p) :
  ∃ (h:Rc) (sa:Option Addr) (cap:Nat),v = .agg #[.int .i64 h.n,.slice sa h.ws.length cap]∧zcc W (.slice sa h.ws.length cap) h.ws:=by
 have hs:=Tryz.underlying24;have hC:Tryz.prog.cellsOf 24=2:=by kernel_rfl
 have c1:Tryz.prog.cellsOf 3=1:=by kernel_rfl
 have c2:Tryz.prog.cellsOf 22=1:=by kernel_rfl
 obtain ⟨cs,rfl,hsz⟩:=okWide_struct hs hv;obtain ⟨v0,v1,rfl⟩:=array2 (hsz.trans hC);obtain ⟨fuel,hf⟩:=h;obtain ⟨y0,y1,n,_,_,h0,h1⟩:=trod_struct2 hs hf;have g0:DataW.trod enc Tryz.prog W base sp held n 3 [v0]=some y0:=by simpa [Value.cells,c1] using h0
 have g1:DataW.trod enc Tryz.prog W base sp held n 22 [v1]=some y1:=by simpa [Value.cells,c2] using h1
 obtain ⟨nn,e0,_⟩:=DataW.trod_int Tryz.underlying3 g0;obtain ⟨ws,hw⟩:=zagg g1;cases e0;obtain ⟨sa,cap,e1,_⟩:=id hw;have e2:v1 = .slice sa ws.length cap:=by simpa using e1
 subst e2;exact ⟨⟨nn,ws⟩,sa,cap,rfl,hw⟩
end
end Go.Proofs.YtdamgacabfbpjaaGreat
