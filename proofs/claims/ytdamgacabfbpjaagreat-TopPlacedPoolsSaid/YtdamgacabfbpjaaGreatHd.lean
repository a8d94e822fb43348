/-
  The walk of Finish of the heats: the first finish that agrees.
-/
import Derived.Test.YtdamgacabfbpjaaGreatHb
import Derived.Test.YtdamgacabfbpjaaGreatBb
import Derived.Test.YtdamgacabfbpjaaGreatHc
import Derived.Test.YtdamgacabfbpjaaGreatPf
import Derived.Test.YtdamgacabfbpjaaGreatPd
import Derived.Test.YtdamgacabfbpjaaGreatRows
import Derived.ProofKit
import Derived.OpenShut
import Derived.Carry
import Derived.Lib.SmallJoins
import Derived.Deep.Slices
import Derived.Test.YtdamgacabfbpjaaGreatPc
import Derived.Deep.Strs
import Derived.Test.YtdamgacabfbpjaaGreatHa
namespace Go.Proofs.YtdamgacabfbpjaaGreat
open Go.RowKit Go.Shelf
attribute [local go_sem] Oper.semAt_some
theorem z3f {l:List Int}:∀ r∈l.map (fun n=>[Value.int .i64 n]),∀ u∈r,u.oneCell'=true:=by
 intro r hr;obtain ⟨x,_,rfl⟩:=List.mem_map.1 hr;simp [Value.oneCell']
theorem z3g {l:List Int}:∀ r∈l.map (fun n=>[Value.int .i64 n]),r.length=1:=by
 intro r hr;obtain ⟨x,_,rfl⟩:=List.mem_map.1 hr;rfl
set_option maxRecDepth 100000 in
set_option maxHeartbeats 1000000 in
theorem z0u (l:List Int) (b off n cap:Nat) (w:World) (hv:IsInts w .i64 (.slice (some ⟨b,off,none⟩) n cap) l) (hl:l.length≤1000000) :
  Calls Tryz.prog 29 #[.slice (some ⟨b,off,none⟩) n cap] w fun e W=>∃ v,e = .returned v∧Ext w W∧Owns W w.heap.size 3 1 v (l.map iRow):=by
 have HV:=Lib.hid hv
 clear hv
 have heq:∀ W,(binOp .eql 28 (.slice (some ⟨b,off,none⟩) n cap) (.slice none 0 0)).run Tryz.prog W = .ok (.bool false) W:=fun W=>Lib.run_eql_slice_nil W 28 3 _ _ _ _ _ elInt.und
 go_enter Tryz.func29,Tryz.ntmps29
 go_wp2_with (at_builtin;refine z83 rfl (.tmp 5) (.tmp 6) elInt rfl w.heap.size rfl (z82 _ _ _ _ (Nat.le_refl _)) rfl (l.map iRow) z3g (HV.out.ext (by exact xx)) z3f (by simpa using hl) (by simp) ?_)
 intro v' w' hown' hE'
 obtain ⟨sa',n',cap',rfl⟩:=hown'.isSlice
 have HO:=Lib.hid hown'
 have HE:=Lib.hid hE'
 clear hown' hE'
 go_wp2_with fail
 go_ret
 exact ⟨_,rfl,Ext.trans' (by exact xx) HE.out,HO.out⟩
set_option maxHeartbeats 400000 in
theorem zw2 (g n:Nat) (hn:n≤5) (W:World):(Instr.sliceAt 71 (.pointer (some ⟨g,0,none⟩)) none (some (.int .i64 n)) none).run Tryz.prog W = .ok (.slice (some ⟨g,0,none⟩) n 5) W:=by
 have hl:Tryz.prog.arrayLen 71=5:=by kernel_rfl
 have hs:∀ W,(sizeOf (Tryz.prog.elem 71)).run Tryz.prog W = .ok 1 W:=fun W=>by kernel_rfl
 rw [run_sliceAt_array_h _ _ _ (by kernel_rfl) .i64 (n:Int) (by omega) (by rw [hl];omega),hl,hs]
 simp [slicedAt,Addr.add]
def finH (h:Rc):List Int:=(agrL h).head?.getD []
theorem z5f {ws:List Wd}:∀ {L pre rest:List (List Int)} {f:List Int},L=pre ++ f :: rest→(∀ x∈pre,agrP ws x=false)→agrP ws f=true→L.filter (agrP ws)=f :: rest.filter (agrP ws):=by
 intro L pre rest f e h hf
 rw [e,List.filter_append,List.filter_eq_nil_iff.2 (fun x hx=>by rw [h x hx];simp),List.filter_cons_of_pos hf,List.nil_append]
theorem z5g {ws:List Wd} {L:List (List Int)} (h:∀ x∈L,agrP ws x=false):L.filter (agrP ws)=[]:=List.filter_eq_nil_iff.2 (fun x hx=>by rw [h x hx];simp)
theorem A5.ints {W:World} {g n:Nat} {f:List Int} (h:A5 W g (pl f)) (hf:f.length=n) (hn:n≤5):IsInts W .i64 (.slice (some ⟨g,0,none⟩) n 5) f:=by
 rw [← hf]
 have e:∀ i,(hi:i < f.length)→W.cell? ⟨g,0+i,none⟩=some (.int .i64 f[i]):=fun i hi=>by
  rw [Nat.zero_add,h.cell i (by omega)]
  unfold pl
  rw [List.getD_eq_getElem?_getD,List.getElem?_eq_getElem hi];rfl
 exact IsInts.mk (by omega) (by omega) e
set_option maxRecDepth 100000 in
set_option maxHeartbeats 4000000 in
theorem z0v (h:Rc) (sa:Option Addr) (cap:Nat) (w:World) (hv:IsWds w (.slice sa h.ws.length cap) h.ws) (h0:zai h=0) :
  CallsIn Fence.wide 9 Tryz.prog 9 #[.agg #[.int .i64 h.n,.slice sa h.ws.length cap]] w fun e w'=>∃ v,e = .returned (.tuple #[v,.int .i64 (zaq h)])∧Ext w w'∧IsInts w' .i64 v (finH h):=by
 have V:=Lib.hid (zfl h0)
 have hn1:=V.out.n1
 have hn5:=V.out.n5
 have HV:=Lib.hid hv
 have H0:=Lib.hid h0
 clear hv h0
 refine callsIn_of_wp_marks Tryz.func9 rfl trivial ?_ rfl
 simp only [Tryz.ntmps9,List.size_toArray,List.length_cons,List.length_nil,Nat.reduceAdd,Nat.reduceSub,Array.replicate_succ,Array.replicate_zero,List.push_toArray,List.append_toArray,List.nil_append,List.cons_append]
 refine wpIn_wide.2 ?_
 go_upto_region 1 with (fail)
 obtain ⟨W0,hW0⟩:∃ W0,W0=((w.alloc (.cells #[.int .i64 h.n,.slice sa h.ws.length cap] 24)).alloc (.cells #[.slice none 0 0] 28)).alloc (.cells #[.int .i64 0] 30):=⟨_,rfl⟩
 have hE:Ext w W0:=by rw [hW0];exact xx
 have k0:W0.cell? ⟨w.heap.size,0,none⟩=some (.int .i64 h.n):=by rw [hW0];simp [go_sem]
 have k1:W0.cell? ⟨w.heap.size,1,none⟩=some (.slice sa h.ws.length cap):=by rw [hW0];simp [go_sem]
 have t1:W0.cell? ⟨w.heap.size+1,0,none⟩=some (.slice none 0 0):=by rw [hW0];simp [go_sem]
 have t2:W0.cell? ⟨w.heap.size+1+1,0,none⟩=some (.int .i64 0):=by rw [hW0];simp [go_sem]
 have f1:W0.frozen? ⟨w.heap.size+1,0,none⟩=false:=by rw [hW0];simp [go_sem]
 have f2:W0.frozen? ⟨w.heap.size+1+1,0,none⟩=false:=by rw [hW0];simp [go_sem]
 have hz:w.heap.size+1+1 < W0.heap.size:=World.block_lt_of_cell? _ _ t2
 have hza:w.heap.size+1 < W0.heap.size:=by omega
 have hzb:w.heap.size < W0.heap.size:=by omega
 have HW:=Lib.hid hE
 replace HV:=Lib.hid (HV.out.ext hE)
 rw [← hW0]
 clear hW0 hE
 go_wp2_with fail
 refine (zh7 h sa cap W0 HV.out).mono ?_
 rintro e W1 ⟨hE1,⟨hne,-⟩ | ⟨-,p,rfl,hp,hR⟩⟩
 ·exact absurd H0.out hne
 replace k0:=zb hE1 k0
 replace t1:=zb hE1 t1
 replace t2:=zb hE1 t2
 replace f1:=(hE1.frozen (p:=⟨w.heap.size+1,0,none⟩) (by simp only;omega)).trans f1
 replace f2:=(hE1.frozen (p:=⟨w.heap.size+1+1,0,none⟩) (by simp only;omega)).trans f2
 have hz1:=hE1.size
 replace hz:w.heap.size+1+1 < W1.heap.size:=by omega
 replace hza:w.heap.size+1 < W1.heap.size:=by omega
 replace hzb:w.heap.size < W1.heap.size:=by omega
 have HW1:=Lib.hid (HW.out.trans' hE1)
 have HV1:=Lib.hid (HV.out.ext hE1)
 have HR1:=Lib.hid hR
 clear hE1 hR k1 hp HW HV hz1
 go_upto_region 2 with (fail)
 obtain ⟨Z,hZ⟩:∃ Z,W1.alloc (.cells #[.pointer (some ⟨p,0,none⟩)] 67)=Z:=⟨_,rfl⟩
 have hEZ:Ext W1 Z:=by rw [← hZ];exact xx
 have hsZ:Z.heap.size=W1.heap.size+1:=by rw [← hZ];simp
 have hpZ:Z.cell? ⟨W1.heap.size,0,none⟩=some (.pointer (some ⟨p,0,none⟩)):=by rw [← hZ];simp [go_sem]
 rw [hZ]
 replace k0:=zb hEZ k0
 replace t1:=zb hEZ t1
 replace t2:=zb hEZ t2
 replace f1:=(hEZ.frozen (p:=⟨w.heap.size+1,0,none⟩) (by simp only;omega)).trans f1
 replace f2:=(hEZ.frozen (p:=⟨w.heap.size+1+1,0,none⟩) (by simp only;omega)).trans f2
 have kp:=HR1.out.ext hEZ
 obtain ⟨n,hn⟩:∃ n:Nat,h.n=n:=⟨h.n.toNat,by omega⟩
 have hn5':n≤5:=by omega
 have hn1':2≤n:=by omega
 have HN:Hid (agrL h=(zd7 n).filter (agrP h.ws)):=Lib.hid (by unfold agrL;rw [hn];rfl)
 rw [hn] at k0
 have kp0:=kp.c0
 rw [hn] at kp0
 have HPR:=Lib.hid kp
 have HWZ:=Lib.hid (HW1.out.trans' hEZ)
 have HVZ:=Lib.hid (HV1.out.ext hEZ)
 obtain ⟨q,hq⟩:∃ q,q=W1.heap.size:=⟨_,rfl⟩
 rw [← hq] at hpZ hsZ hz hza hzb ⊢
 clear hZ hEZ hq HR1 HW1 HV1 kp hn
 go_wp2_with fail
 refine (zl6 p Z).mono ?_
 rintro e W5 ⟨rfl,hE5,hb5,hz5⟩
 rw [hsZ] at hb5 hz5
 have k5:=zb hE5 k0
 have x1:=zb hE5 t1
 have x2:=zb hE5 t2
 have y1:=(hE5.frozen (p:=⟨w.heap.size+1,0,none⟩) (by simp only;omega)).trans f1
 have y2:=(hE5.frozen (p:=⟨w.heap.size+1+1,0,none⟩) (by simp only;omega)).trans f2
 have kp5:=zb hE5 kp0
 have hq5:=zb hE5 hpZ
 have HP5:=Lib.hid (HPR.out.ext hE5)
 have HV5:=Lib.hid (HVZ.out.ext hE5)
 have HE5:=Lib.hid (HWZ.out.trans' hE5)
 have hqz:q < W5.heap.size:=by omega
 have hpz:p < W5.heap.size:=World.block_lt_of_cell? _ _ kp5
 clear hE5 k0 t1 t2 f1 f2 kp0 hpZ HPR HVZ HWZ
 go_wp2_with fail
 refine (wpIn_wide (n:=9)).1 ?_
 refine zmz (n:=9) (R:=fun k=>k < W5.heap.size) rfl (enters_of Tryz.func62 (by kernel_rfl) rfl)
  (zrf n p (q+1) (fun k=>k < W5.heap.size) W5 hn1' hn5' (fun k hk=>hk)
   (fun W hk=>⟨hk.cell hb5 (by simp only;omega),hk.cell kp5 (by simp only;omega)⟩))
  (Below.refl _ _) (fun k hk=>hk) (fun _=>rfl)
  (fun O pre W=>(∀ k,O k→W5.heap.size≤k)∧W5.heap.size≤W.heap.size∧Ext W5 W∧∀ x∈pre,agrP h.ws x=false)
  (fun c O pre W=>c = .ret∧(∀ k,O k→W5.heap.size≤k)∧W5.heap.size≤W.heap.size∧Ext w W∧∃ va vn vc f t,agrL h=f :: t∧W.cell? ⟨w.heap.size+1,0,none⟩=some (.slice va vn vc)∧W.cell? ⟨w.heap.size+1+1,0,none⟩=some (.int .i64 0)∧Owns W (W5.heap.size+2) 3 1 (.slice va vn vc) (f.map iRow)∧∀ g,(Value.slice va vn vc).ownBlock=some g→¬ O g)
  ?bears ?bearx ⟨fun _ h=>h.elim,Nat.le_refl _,Below.refl _ _,fun _ h=>(by cases h)⟩ ?round ?done ?stop
 case bears =>
  rintro pre O O' A B ⟨g1,g2,g3,g4⟩ hk hO1 hO2
  have hlow:Kept (fun k=>k < W5.heap.size) A B:=hk.mono fun k _ hk=>⟨fun ho=>by have:=g1 k ho;omega,by omega⟩
  refine ⟨fun k hk2=>?_,by have:=hk.size;omega,g3.trans (Kept.below (hlow.mono fun k _ h=>by omega) g3.size),g4⟩
  rcases hO2 k hk2 with h | h
  ·exact g1 k h
  ·omega
 case bearx =>
  rintro c pre O O' A B ⟨rfl,g1,g2,g3,va,vn,vc,f,t,g4,g5,g6,g7,g8⟩ hk hO1 hO2
  have hlow:Kept (fun k=>k < W5.heap.size) A B:=hk.mono fun k _ hk=>⟨fun ho=>by have:=g1 k ho;omega,by omega⟩
  refine ⟨rfl,fun k hk2=>?_,by have:=hk.size;omega,g3.trans (Kept.below (hlow.mono fun k _ h=>by have:=HE5.out.size;omega) g3.size),va,vn,vc,f,t,g4,hlow.cell g5 (by simp only;omega),hlow.cell g6 (by simp only;omega),g7.keptAt hk (fun g cur h1 h2 _=>⟨g8 g h2,by omega⟩),fun g hg ho=>?_⟩
  ·rcases hO2 k hk2 with h | h
   ·exact g1 k h
   ·omega
  ·rcases hO2 g ho with h | h
   ·exact g8 g hg h
   ·have:=(g7.notOwn g hg).2;omega
 case round =>
  rintro l O pre y W ⟨g1,g2,g3,g4⟩ ⟨rest,hrest⟩ hO2 hW2
  simp only [arr5]
  gi_wp2_with fail
  refine ⟨xx,fun W2 hk2=>?_⟩
  have hEa:Ext W (W.alloc (.cells #[.int .i64 (pl y 0),.int .i64 (pl y 1),.int .i64 (pl y 2),.int .i64 (pl y 3),.int .i64 (pl y 4)] 71)):=xx
  have hA:A5 W2 W.heap.size (pl y):=((A5.new W (pl y 0) (pl y 1) (pl y 2) (pl y 3) (pl y 4)).congr (zsc y)).of_heap (hk2.same _ (by simp) (by omega))
  have hz2:=hk2.size
  simp only [World.size_alloc] at hz2
  have hyl:y.length=n:=zh5 (mem_fins.1 (by rw [hrest];simp))
  have hE2:Ext W5 W2:=(g3.trans' hEa).trans (Kept.below (hk2.mono fun k _ h=>by omega) (by have:=g3.size;simp;omega))
  obtain ⟨c0,c1,c2,c3,c4⟩:=hA.five
  have hq2:=zb hE2 hq5
  have hqz2:q < W2.heap.size:=by omega
  have hyz:=hA.lt
  have HA:=Lib.hid hA
  have HE2:=Lib.hid hE2
  have HAG:=Lib.hid (zly h sa cap p y W2 (HV5.out.ext hE2) (HP5.out.ext hE2) V.out.ok)
  simp only [arr5] at HAG
  have G4:=Lib.hid g4
  have HREST:=Lib.hid hrest
  have HYL:=Lib.hid hyl
  clear hEa hE2 hA g3 g4 hrest hyl hk2
  gi_wp2_with fail
  refine ⟨trivial,(CallsIn.inRound l (callsIn_wide.2 HAG.out)).mono ?_⟩
  rintro e W3 ⟨rfl,hE3⟩
  have hz3:=hE3.size
  have HE3:=Lib.hid hE3
  have hE23:=HE2.out.trans' hE3
  have HE23:=Lib.hid hE23
  have k6:=zb hE23 k5
  have z1:=zb hE23 x1
  have z2:=zb hE23 x2
  have v1:=(hE23.frozen (p:=⟨w.heap.size+1,0,none⟩) (by simp only;omega)).trans y1
  have v2:=(hE23.frozen (p:=⟨w.heap.size+1+1,0,none⟩) (by simp only;omega)).trans y2
  have hA3:A5 W3 W.heap.size (pl y):=HA.out.of_heap (hE3.block _ HA.out.lt)
  obtain ⟨d0,d1,d2,d3,d4⟩:=hA3.five
  have hyz3:=hA3.lt
  have HI:=Lib.hid (hA3.ints HYL.out hn5')
  clear hE3 hE23 HAG HA c0 c1 c2 c3 c4 hq2 hyz hqz2 hA3
  cases ha:agrP h.ws y
  ·have HAF:=Lib.hid ha
   clear ha
   gi_wp2_with fail
   refine ⟨.of_below HE3.out,g1,by omega,HE23.out,fun x hx=>?_⟩
   rcases List.mem_append.1 hx with hx | hx
   ·exact G4.out x hx
   ·simp at hx
    subst hx
    exact HAF.out
  ·have HAF:=Lib.hid ha
   clear ha
   have hsl:=zw2 W.heap.size n hn5'
   gi_wp2_with fail
   refine ⟨trivial,(CallsIn.inRound l (callsIn_wide.2 (z0u y _ 0 n 5 W3 HI.out (by have:=HYL.out;omega)))).mono ?_⟩
   rintro e W4 ⟨v,rfl,hE4,hown⟩
   obtain ⟨va,vn,vc,rfl⟩:=hown.isSlice
   have u1:=zb hE4 z1
   have u2:=zb hE4 z2
   have g1':=(hE4.frozen (p:=⟨w.heap.size+1,0,none⟩) (by simp only;omega)).trans v1
   have g2':=(hE4.frozen (p:=⟨w.heap.size+1+1,0,none⟩) (by simp only;omega)).trans v2
   have hz4:=hE4.size
   have HE4:=Lib.hid hE4
   have HOWN:=Lib.hid hown
   have HO2:=Lib.hid hO2
   clear hE4 hown z1 z2 v1 v2 d0 d1 d2 d3 d4 hsl hyz3 k6 HI hO2
   gi_wp2_with fail
   have hkk:Kept (fun k=>k≠w.heap.size+1∧k≠w.heap.size+1+1) W4 ((W4.setCell ⟨w.heap.size+1,0,none⟩ (.slice va vn vc)).setCell ⟨w.heap.size+1+1,0,none⟩ (.int .i64 0)) :=
    ((Kept.refl (fun k=>k≠w.heap.size+1∧k≠w.heap.size+1+1) W4).setCell (fun _ h=>h.1 rfl) _).setCell (fun _ h=>h.2 rfl) _
   refine ⟨(((Kept.of_below HE3.out).trans (Kept.of_below HE4.out)).setCell (fun _ h=>by simp only at h;omega) _).setCell (fun _ h=>by simp only at h;omega) _,rfl,g1,by simp [World.setCell];omega,
    ((HE5.out.trans' (HE23.out.trans' HE4.out)).setCell (by simp only;omega) _).setCell (by simp only;omega) _,va,vn,vc,y,rest.filter (agrP h.ws),?_,?_,?_,?_,?_⟩
   ·rw [HN.out]
    exact z5f HREST.out G4.out HAF.out
   ·simp [go_sem,u1]
   ·simp [go_sem,u2]
   ·exact (HOWN.out.keptAt hkk (fun g cur h1 _ _=>⟨by omega,by omega⟩)).base (by omega)
   ·intro g hg ho
    have h1:=(HOWN.out.notOwn g hg).1
    have h2:=(HO2.out g ho).2
    omega
 case done =>
  rintro D O xs W hD hS ⟨g1,g2,g3,g4⟩ hDk
  have s1:=zb g3 x1
  have s2:=zb g3 x2
  have r1:=(g3.frozen (p:=⟨w.heap.size+1,0,none⟩) (by simp only;omega)).trans y1
  have r2:=(g3.frozen (p:=⟨w.heap.size+1+1,0,none⟩) (by simp only;omega)).trans y2
  have hxb:w.heap.size+1+1 < W.heap.size:=by omega
  have HDK:=Lib.hid hDk
  have HEW:=Lib.hid (HE5.out.trans' g3)
  have hDlt:=(Array.getElem?_eq_some_iff.1 hDk).1
  have hfn:agrL h=[]:=by rw [HN.out];exact z5g fun x hx=>g4 x (by rw [hS];exact hx)
  have HFN:=Lib.hid hfn
  clear hDk g1 g3 g4 hS hfn
  go_wp2_with fail
  have hDK':=(Below.heap_setCell _ ⟨w.heap.size+1+1,0,none⟩ (.int .i64 22) D (by simp only;omega)).trans ((Below.heap_setCell W ⟨w.heap.size+1,0,none⟩ (.slice none 0 0) D (by simp only;omega)).trans HDK.out)
  have hc1:((W.setCell ⟨w.heap.size+1,0,none⟩ (.slice none 0 0)).setCell ⟨w.heap.size+1+1,0,none⟩ (.int .i64 22)).cell? ⟨w.heap.size+1,0,none⟩=some (.slice none 0 0):=by simp [go_sem,s1]
  have hc2:((W.setCell ⟨w.heap.size+1,0,none⟩ (.slice none 0 0)).setCell ⟨w.heap.size+1+1,0,none⟩ (.int .i64 22)).cell? ⟨w.heap.size+1+1,0,none⟩=some (.int .i64 22):=by simp [go_sem,s2]
  obtain ⟨V2,hV2⟩:∃ V2,V2=(W.setCell ⟨w.heap.size+1,0,none⟩ (.slice none 0 0)).setCell ⟨w.heap.size+1+1,0,none⟩ (.int .i64 22):=⟨_,rfl⟩
  have hEV:Ext w V2:=by rw [hV2];exact (HEW.out.setCell (by simp only;omega) _).setCell (by simp only;omega) _
  rw [← hV2] at hDK' hc1 hc2 ⊢
  refine ⟨by simp,.inl ⟨_,_,rfl,run_takeDeferred hDK',?_⟩⟩
  have hkd:Kept (fun k=>k≠D) V2 (V2.putObj D (.deferred none)):=(Kept.refl _ V2).putObj _ (fun _ h=>h rfl)
  have d1:=hkd.cell hc1 (by simp only;omega)
  have d2:=hkd.cell hc2 (by simp only;omega)
  refine ⟨.tuple #[.slice none 0 0,.int .i64 22],by simp [results,Tryz.results9,go_sem,d1,d2],.slice none 0 0,?_,?_,?_⟩
  ·unfold zaq;rw [HFN.out];rfl
  ·exact hEV.trans (Kept.below (hkd.mono fun k _ h=>by have:=HE5.out.size;omega) hEV.size)
  ·unfold finH;rw [HFN.out];exact ⟨none,0,rfl,by simp,by simp,.inl rfl⟩
 case stop =>
  rintro D O c pre W hD - ⟨rfl,g1,g2,g3,va,vn,vc,f,t,g4,g5,g6,g7,g8⟩ hDk
  have HDK:=Lib.hid hDk
  gi_wp2
  refine ⟨by simp,.inl ⟨_,_,rfl,run_takeDeferred HDK.out,?_⟩⟩
  have hkd:Kept (fun k=>k≠D) W (W.putObj D (.deferred none)):=(Kept.refl _ W).putObj _ (fun _ h=>h rfl)
  have d1:=hkd.cell g5 (by simp only;omega)
  have d2:=hkd.cell g6 (by simp only;omega)
  refine ⟨.tuple #[.slice va vn vc,.int .i64 0],by simp [results,Tryz.results9,go_sem,d1,d2],.slice va vn vc,?_,?_,?_⟩
  ·unfold zaq;rw [g4];rfl
  ·exact g3.trans (Kept.below (hkd.mono fun k _ h=>by have:=HE5.out.size;omega) g3.size)
  ·unfold finH;rw [g4];exact (g7.putOther HDK.out _).oneInts
set_option maxRecDepth 100000 in
theorem zx2 (h:Rc) (sa:Option Addr) (cap:Nat) (w:World) (hv:IsWds w (.slice sa h.ws.length cap) h.ws) (h0:zai h=0) :
  Calls Tryz.prog 9 #[.agg #[.int .i64 h.n,.slice sa h.ws.length cap]] w fun e w'=>∃ v,e = .returned (.tuple #[v,.int .i64 (zaq h)])∧Ext w w'∧IsInts w' .i64 v (finH h):=callsIn_wide.1 (z0v h sa cap w hv h0)
end Go.Proofs.YtdamgacabfbpjaaGreat
namespace Go.Proofs.YtdamgacabfbpjaaGreat
open Go.RowKit Go.Shelf
theorem zw3 (f:List Int) (n k:Nat):za7 f n (k+1)=za7 f n k ++ if grpH f n (1+(k:Int))=[] then [] else [grpH f n (1+(k:Int))]:=by
 unfold za7
 rw [List.range_succ,List.map_append,List.filter_append]
 by_cases h:grpH f n (1+(k:Int))=[]<;>simp [h]
theorem zto (f:List Int) (n:Nat) (p:Int):(grpH f n p).length≤n:=by
 unfold grpH
 rw [List.length_map]
 exact Nat.le_trans (List.length_filter_le _ _) (by simp)
set_option maxRecDepth 100000 in
set_option maxHeartbeats 8000000 in
theorem zw4 (f:List Int) (v:Value) (w:World) (hv:IsInts w .i64 v f) (hn:f.length≤5) :
  Calls Tryz.prog 11 #[v] w fun e w'=>∃ v ps,e = .returned v∧Ext w w'∧LL w' w.heap.size v ps∧zg ps=zam f f.length:=by
 obtain ⟨va,vc,rfl,h1,h2,hc⟩:=hv.spec
 have HC:=Lib.hid hc
 clear hc hv
 go_enter Tryz.func11,Tryz.ntmps11
 go_wp2_with fail
 go_loopw [3,4] (fun ov iv W=>∃ (k:Nat) (ps:List (Value × List Int)),k≤f.length∧iv = .int .i64 (1+(k:Int))∧LL W w.heap.size ov ps∧zg ps=za7 f f.length k∧Ext w W) (fun _ iv _=>(f.length+1:Nat) - (intOf iv).toNat)
 case atStart=>exact ⟨0,[],by omega,rfl,LL.nil _ _,rfl,Below.refl _ _⟩
 case round =>
  obtain ⟨k,ps,hk,rfl,hll,hps,hE⟩:=hrel
  have HLL:=Lib.hid hll
  have HPS:=Lib.hid hps
  have HE:=Lib.hid hE
  obtain ⟨oa,on,oc,rfl⟩:=hll.own.isSlice
  by_cases hlt:k < f.length
  ·have hki:1+(k:Int)≤(f.length:Int):=by omega
   have hxz:=hE.size
   obtain ⟨X,rfl⟩:∃ X,X=wr:=⟨_,rfl⟩
   clear hll hps hE
   go_wp2_with fail
   go_loopw [5,6] (fun gv rv W=>∃ r:Nat,r≤f.length∧rv = .int .i64 r∧Owns W X.heap.size 3 1 gv ((grpH f r (1+(k:Int))).map iRow)∧Ext X W) (fun _ rv _=>f.length - (intOf rv).toNat)
   case atStart=>exact ⟨0,by omega,rfl,Owns.nil _ _ _ _,Below.refl _ _⟩
   case round =>
    obtain ⟨r,hr,rfl,hg,hE3⟩:=hrel
    have HG:=Lib.hid hg
    have HE3:=Lib.hid hE3
    obtain ⟨ga,gn,gc,rfl⟩:=hg.isSlice
    have hz3:=hE3.size
    by_cases hlt2:r < f.length
    ·have hri:(r:Int) < (f.length:Int):=by omega
     rcases HC.out with hc | ⟨b,off,rfl,hc⟩
     ·rw [hc] at hlt2;simp at hlt2
     have cr:=zb (HE.out.trans' hE3) (hc r hlt2)
     have hzr:=World.block_lt_of_cell? _ _ cr
     simp only at hzr
     rw [← znd hlt2] at cr
     have HS:=Lib.hid (z27 f r (1+(k:Int)))
     obtain ⟨x,hx⟩:∃ x,x=pl f r:=⟨_,rfl⟩
     rw [← hx] at cr HS
     clear hc hx hg hE3
     by_cases hq:x=1+(k:Int)
     ·have hqi:(x == 1+(k:Int))=true:=by simpa using hq
      rw [if_pos hq] at HS
      have HLEN:Hid (((grpH f r (1+(k:Int))).map iRow).length + [[Value.int .i64 r]].length≤1000000):=Lib.hid (by have:=zto f r (1+(k:Int));simp;omega)
      clear hq
      obtain ⟨Y,rfl⟩:∃ Y,Y=wr:=⟨_,rfl⟩
      go_wp2_with (at_builtin;refine z5q rfl (.tmp 25) (.tmp 27) elInt rfl X.heap.size rfl (HG.out.ext (by exact xx)) Y.heap.size 0 1 [[.int .i64 r]] rfl (by simp) (zo9 _ [.int .i64 r] _ _ _ rfl rfl) (by simp [Value.oneCell']) HLEN.out (by simp;omega) ?_)
      intro v' W4 hown4 hb4
      obtain ⟨va2,vn,vc2,rfl⟩:=hown4.isSlice
      have hE4:Ext X W4:=Below.trans (HE3.out.trans' (by exact xx:Ext Y (Y.alloc (.cells #[.int .i64 r] 3)))) hb4
      have HO4:=Lib.hid hown4
      have HE4:=Lib.hid hE4
      clear hown4 hb4 hE4
      go_wp2_with fail
      go_roundw
      case rel=>exact ⟨r+1,by omega,by go_num,by rw [HS.out,List.map_append];exact HO4.out,HE4.out⟩
      case measure=>simp [intOf];omega
     ·have hqi:(x == 1+(k:Int))=false:=by simpa using hq
      rw [if_neg hq,List.append_nil] at HS
      clear hq
      go_wp2_with fail
      go_roundw
      case rel=>exact ⟨r+1,by omega,by go_num,by rw [HS.out];exact HG.out,HE3.out⟩
      case measure=>simp [intOf];omega
    ·have hri:¬ ((r:Int) < (f.length:Int)):=by omega
     have hre:r=f.length:=by omega
     rw [hre] at hg
     obtain ⟨G,hG⟩:∃ G,G=grpH f f.length (1+(k:Int)):=⟨_,rfl⟩
     rw [← hG] at hg
     have hgl:G.length≤5:=by rw [hG];exact Nat.le_trans (zto _ _ _) hn
     have hsucc:=zw3 f f.length k
     rw [← hG] at hsucc
     have HSU:=Lib.hid hsucc
     obtain ⟨_,_,hge,-,-,-⟩:=hg.oneInts.spec
     cases hge
     have HGG:=Lib.hid hg
     have HFU:=Lib.hid (HE.out.trans' hE3)
     have HLY:=Lib.hid (HLL.out.ext hE3)
     have HPL:Hid (ps.length≤5):=Lib.hid (by
      have h1:(zg ps).length=ps.length:=by simp [zg]
      rw [HPS.out] at h1
      have h3:(za7 f f.length k).length≤k:=Nat.le_trans (List.length_filter_le _ _) (by simp)
      omega)
     clear hg hE3 hG hsucc hre
     obtain ⟨Y,rfl⟩:∃ Y,Y=wr:=⟨_,rfl⟩
     by_cases hg0:G.length=0
     ·have hgi:¬ ((0:Int) < (G.length:Int)):=by omega
      have hge:G=[]:=List.eq_nil_of_length_eq_zero hg0
      have HS2:Hid (za7 f f.length (k+1)=za7 f f.length k):=Lib.hid (by rw [HSU.out,hge];simp)
      have hd:decide ((0:Int) < (G.length:Int))=false:=decide_eq_false hgi
      have hd2:decide (0 < G.length)=false:=decide_eq_false (by omega)
      clear hge hg0
      go_wp2_with fail
      go_roundw
      case rel=>exact ⟨k+1,ps,by omega,by go_num,HLY.out,by rw [HS2.out,HPS.out],HFU.out⟩
      case measure=>simp [intOf];omega
     ·have hgi:(0:Int) < (G.length:Int):=by omega
      have hgn:¬ G=[]:=fun h=>hg0 (by rw [h];rfl)
      have HS2:Hid (za7 f f.length (k+1)=za7 f f.length k ++ [G]):=Lib.hid (by rw [HSU.out,if_neg hgn])
      have HLEN:Hid ((ps.map fun x=>[x.1]).length + [[Value.slice ga G.length gc]].length≤1000000):=Lib.hid (by have:=HPL.out;simp;omega)
      have hyw:=HFU.out.size
      clear hgn hg0
      go_wp2_with (at_builtin;refine z5r rfl (.tmp 32) (.tmp 34) z9a rfl w.heap.size rfl (HLY.out.own.ext (by exact xx)) (some ⟨Y.heap.size,0,none⟩) 1 [[.slice ga G.length gc]] rfl (by simp) (.inr ⟨_,0,rfl,zo9 _ [.slice ga G.length gc] _ _ _ rfl rfl⟩) (by simp [Value.oneCell']) HLEN.out (by simp;omega) ?_)
      intro v' W4 hown4 hk4
      have hEa:Ext Y (Y.alloc (.cells #[.slice ga G.length gc] 28)):=by exact xx
      have hoa:=HLY.out.own.ext hEa
      have hll4:LL W4 w.heap.size v' (ps ++ [(.slice ga G.length gc,G)]):=by
       refine ⟨by rw [List.map_append];exact hown4,fun x hx=>?_⟩
       rcases List.mem_append.1 hx with hx | hx
       ·exact ((HLY.out.each x hx).ext hEa).keep (by decide) hoa hk4
       ·simp only [List.mem_singleton] at hx
        subst hx
        exact ((HGG.out.ext hEa).base (by omega)).keep (by decide) hoa hk4
      have hE4:Ext w W4:=Below.trans (HFU.out.trans' hEa) (hoa.keptBelow (by simp;omega) hk4)
      obtain ⟨va2,vn,vc2,rfl⟩:=hown4.isSlice
      have HL4:=Lib.hid hll4
      have HE4:=Lib.hid hE4
      clear hown4 hk4 hEa hoa hll4 hE4
      go_wp2_with fail
      go_roundw
      case rel=>exact ⟨k+1,_,by omega,by go_num,HL4.out,by rw [HS2.out,← HPS.out];simp [zg],HE4.out⟩
      case measure=>simp [intOf];omega
  ·have hki:¬ (1+(k:Int)≤(f.length:Int)):=by omega
   have hke:k=f.length:=by omega
   have HFP:Hid (zg ps=zam f f.length):=Lib.hid (by rw [hps,hke];rfl)
   clear hll hps hE hke
   go_wp2_with fail
   refine bodyPost_ret (v:=.slice oa on oc) (by simp [results,Tryz.results11,go_sem]) rfl ?_
   exact ⟨_,rfl,HE.out,ps,HLL.out,HFP.out⟩
end Go.Proofs.YtdamgacabfbpjaaGreat
namespace Go.Proofs.YtdamgacabfbpjaaGreat
def bkZ (kd n:Int):Bk:=⟨kd,n,[],[],false,0,0,1⟩
theorem z8r {kd n:Int} (hk:0≤kd∧kd≤3) (hn:2≤n∧n≤8):zay (bkZ kd n)=0:=by
 have h1:inR 0 3 kd=true:=inR_iff.2 hk
 have h2:inR 2 8 n=true:=inR_iff.2 hn
 unfold zay bkZ
 simp only [h1,h2]
 have:¬ n - 2 < 0:=by omega
 simp [this,inR,rising]
theorem z8s (w:World) (kd n:Int):IsBook w (bkZ kd n) none 0 none 0 :=
 ⟨⟨none,0,rfl,Nat.le_refl _,by omega,.inl rfl⟩,⟨none,0,rfl,Nat.le_refl _,by omega,.inl rfl⟩⟩
section
variable {h:Rc} {f:List Int} (hf:f∈agrL h)
include hf
theorem zoa:zaq h=0:=by
 unfold zaq
 rw [if_neg]
 intro e
 rw [List.eq_nil_of_length_eq_zero e] at hf
 cases hf
theorem z7n (h0:zai h=0) (hn:2≤h.n):zbe h f=0:=by
 obtain ⟨h1,h2⟩:=mem_agr.1 hf
 have hl:=zh5 h1
 unfold zbe
 rw [if_neg (by omega),if_neg (by omega),if_pos h1,if_pos h2]
theorem zox {q:List Int→Bool} (hk:zbp h q=0):q f=false:=by
 unfold zbp at hk
 rw [if_pos (zoa hf)] at hk
 exact z0m hk hf
theorem zho {q:List Int→Bool} (hk:zbp h q=2):q f=true:=by
 unfold zbp at hk
 rw [if_pos (zoa hf)] at hk
 exact zxr hk hf
end
theorem zw5 (h:Rc) (q:List Int→Bool):0≤zbp h q∧zbp h q≤2:=by
 unfold zbp
 split
 ·exact z7h _ _
 ·omega
theorem z7o {h:Rc} {f:List Int} (hc:zbe h f=0):zai h=0∧f∈agrL h:=by
 unfold zbe at hc
 split at hc
 ·rename_i h1
  exact absurd hc h1
 rename_i h1
 split at hc
 ·cases hc
 split at hc
 ·rename_i h2
  split at hc
  ·rename_i h3
   exact ⟨by simpa using h1,mem_agr.2 ⟨h2,h3⟩⟩
  ·cases hc
 ·cases hc
theorem z5h {h:Rc} (he:zaq h=0):finH h∈agrL h:=by
 unfold zaq at he
 unfold finH
 cases hl:agrL h with
 | nil=>rw [hl] at he;cases he
 | cons a l=>simp
section
variable {f:List Int} {n:Nat} (h2:2≤n) (h5:n≤5) (hf:zaj n f=true)
include h2 h5 hf
theorem zsd {kd:Int} (hk:0≤kd∧kd≤3):zat (bkZ kd n) (zam f n)=0:=z5a rfl rfl (z8r hk ⟨by omega,by omega⟩) hf
theorem zri {kd:Int} (hk:0≤kd∧kd≤3):winL (bkZ kd n) (zam f n)=za1 (bkZ kd n) (zam f n):=by
 unfold winL
 rw [if_pos (zsd h2 h5 hf hk)]
theorem z3h {kd:Int} (hk:kd=0∨kd=1) {r:Nat} (hr:r < n) :
  ((winL (bkZ kd n) (zam f n)).any fun x=>x.1 == (r:Int) && x.2 == -1)=decide (pl f r=1∨(kd≠0∧pl f r=2)):=by
 rw [zri h2 h5 hf (by omega)]
 rw [Bool.eq_iff_iff,List.any_eq_true,decide_eq_true_eq]
 constructor
 ·rintro ⟨⟨x,y⟩,hm,he⟩
  simp only [Bool.and_eq_true,beq_iff_eq] at he
  obtain ⟨rfl,rfl⟩:=he
  obtain ⟨_,r',e,_,h⟩:=(zwt (b:=bkZ kd n) h2 hf hk).1 hm
  have:r=r':=by omega
  subst this
  exact h
 ·intro h
  exact ⟨((r:Int),-1),(zwt (b:=bkZ kd n) h2 hf hk).2 ⟨rfl,r,rfl,hr,h⟩,by simp⟩
theorem z3i {r:Nat} (hr:r < n):((winL (bkZ 0 n) (zam f n)).any fun x=>x.1 == (r:Int) && x.2 == -1)=(pl f r == 1):=by
 rw [z3h h2 h5 hf (.inl rfl) hr,Bool.eq_iff_iff]
 simp
theorem z0w {r:Nat} (hr:r < n):((winL (bkZ 1 n) (zam f n)).any fun x=>x.1 == (r:Int) && x.2 == -1)=decide (pl f r≤2):=by
 have:=zdu hf hr
 rw [z3h h2 h5 hf (.inr rfl) hr,Bool.eq_iff_iff]
 simp only [decide_eq_true_eq]
 omega
theorem z7p {k:Nat} (hk:k < (winL (bkZ 2 n) (zam f n)).length) :
  ∃ r s:Nat,(winL (bkZ 2 n) (zam f n))[k]=((r:Int),(s:Int))∧r < n∧s < n∧r≠s∧pl f r=1∧pl f s≤2:=by
 have hm2:=List.getElem_mem hk
 obtain ⟨⟨x,y⟩,hxy⟩:∃ x,x=(winL (bkZ 2 n) (zam f n))[k]:=⟨_,rfl⟩
 rw [← hxy] at hm2 ⊢
 rw [zri h2 h5 hf (by omega)] at hm2
 obtain ⟨r,s,rfl,rfl,h⟩:=z29 (b:=bkZ 2 n) h2 hf rfl hm2
 exact ⟨r,s,rfl,h⟩
theorem z3j:0 < (winL (bkZ 2 n) (zam f n)).length:=by
 rw [zri h2 h5 hf (by omega)]
 exact List.length_pos_iff.2 (z3a (b:=bkZ 2 n) h2 hf rfl)
end
theorem z3k {h:Rc} {f:List Int} (hf:f∈agrL h) {n r s:Nat} (hn:h.n=n) (hr:r < n) (hs:s < n) (h1:pl f r=1) :
  zbp h (fun f=>zbd f ((s:Int),(r:Int),0))≠2:=by
 intro hk
 have h3:=zho hf hk
 have hb:=zdu (mem_agr.1 hf).1 (i:=s) (by omega)
 have h4:pl f s < pl f r:=by simpa [zbd] using h3
 omega
end Go.Proofs.YtdamgacabfbpjaaGreat
namespace Go.Proofs.YtdamgacabfbpjaaGreat
open Go.ChangeShapes Go.WideShapes Go.ChangeAt Go.RowKit
theorem own:ownKnob Tryz.prog.godebug=none:=by kernel_rfl
theorem laidOut:laidOutB Tryz.prog=true:=by kernel_rfl
section
variable {H:Type} {enc:TypeId × Value→H} {P:Program} {W W':World}
theorem zl7 (hl:laidOutB P=true) (hb:Below W.heap.size W W'):∀ (ts:List TypeId) (vs:List Value) (ds:List (DataW H)) (ps:List MemPlace),(∀ t∈ts,P.readableRec t=true∧t < P.types.size)→DataW.TrodAll enc P W 0 (fun _=>true) true ts vs ds ps→(∀ x∈ps,x.block < W.heap.size) →
  DataW.TrodAll enc P W' 0 (fun b=>decide (b < W.heap.size)) true ts vs ds ps
 | [],[],[],ps,_,h,_=>h
 | t :: ts,v :: vs,d :: ds,ps,ht,h,hp=>by
  obtain ⟨p,q,h1,h2,rfl⟩:=h
  exact ⟨p,q,Below.trod hl (ht t (by simp)).1 (ht t (by simp)).2 h1 hb (fun x hx=>hp x (by simp [hx])),zl7 hl hb ts vs ds q (fun t' h'=>ht t' (by simp [h'])) h2 (fun x hx=>hp x (by simp [hx])),rfl⟩
 | [],_ :: _,_,_,_,h,_=>h.elim
 | [],[],_ :: _,_,_,h,_=>h.elim
 | _ :: _,[],_,_,_,h,_=>h.elim
 | _ :: _,_ :: _,[],_,_,h,_=>h.elim
def htsB (P:Program) (ts:List TypeId):Bool:=ts.all fun t=>P.readableRec t && decide (t < P.types.size)
theorem z8t {ts:List TypeId} (h:htsB P ts=true):∀ t∈ts,P.readableRec t=true∧t < P.types.size:=fun t ht=>by
 have:=List.all_eq_true.1 h t ht
 simpa using this
theorem z5i {f:Func} {s:ChangeSpec} {args:Array Value} {ds gs:List (DataW H)} {before:List MemPlace} {tb:TypeId} (hl:laidOutB P=true) (hts:∀ t∈f.params.toList,P.readableRec t=true∧t < P.types.size) (hres:f.resultTypes = #[tb]) (htb:P.underlying tb=some .bool)
  (hW:DataW.Whole enc P f.params.toList s.vars false W args.toList ds gs before) (hvars:s.vars=[]) (hfn:s.fn H ds={ results:=[.lit (.bool true)],args:=ds }) (hb:Below W.heap.size W W') :
  s.post enc P f false true false false W args (.bool true) W':=by
 have hlt:=hW.lt
 have hW':=hW
 obtain ⟨p,q,hA,hV,rfl,_,_⟩:=hW
 rw [hvars] at hV
 obtain ⟨rfl,rfl⟩:=trodVars_none hV
 have hfn':s.fn H (ds ++ [])={ results:=[.lit (.bool true)],args:=ds }:=by rw [List.append_nil];exact hfn
 refine ⟨ds,[],p ++ [],[],p,[],hW',?_,?_,?_,World.keptBut_mono (fun x hx=>⟨hx,?_⟩) (hb.frame (·∈p ++ [])),fun h=>by cases h⟩
 ·rw [hres,hfn']
  exact ⟨[],[],shut_bool htb true,rfl,rfl⟩
 ·rw [hfn']
  exact zl7 hl hb _ _ _ _ hts hA fun x hx=>hlt x (by simp [hx])
 ·rw [hfn',hvars]
  rfl
 ·right;left;simpa using hx
end
section
variable {H:Type} {enc:TypeId × Value→H} {W:World} {sp:Nat→Bool} {held:Bool} {base b0:Nat} {r:Reach}
theorem zw6 {t e:TypeId} {sz:Nat} (ht:Tryz.prog.underlying t=some (.slice e)) (hc:Tryz.prog.cellsOf e=sz) (hs0:0 < sz) {n:Nat} {v:Value} {y:DataW H × List MemPlace} (h:DataW.trod enc Tryz.prog W base sp held n t [v]=some y) :
  ∃ rows:List (List Value),IsRows W sz v rows∧∀ row∈rows,row.length=sz∧∃ m y',DataW.trod enc Tryz.prog W base sp held m e row=some y':=by
 rcases Go.Deep.open_slice ht h with ⟨h1,_⟩ | ⟨a,len,cap,m,n,D,Pl,h1,_,h2,h3,h4,_,h5⟩
 ·cases h1
  exact ⟨[],⟨none,0,rfl,by simp,by omega,.inl rfl⟩,by simp⟩
 ·cases h1
  have hlm:len≤m:=by rw [h4];split<;>omega
  obtain ⟨rows,hr1,hr2⟩:∃ rows:List (List Value),rows.length=len∧∀ i (hi:i < rows.length),W.cells? base (a.add (i * sz)) sz=some rows[i]∧∃ y',DataW.trod enc Tryz.prog W base sp held n e rows[i]=some y':=by
   have key:∀ k,k≤len→∃ rows:List (List Value),rows.length=k∧∀ i (hi:i < rows.length),W.cells? base (a.add (i * sz)) sz=some rows[i]∧∃ y',DataW.trod enc Tryz.prog W base sp held n e rows[i]=some y':=by
    intro k
    induction k with
    | zero=>exact fun _=>⟨[],rfl,fun i hi=>by simp at hi⟩
    | succ k ih =>
     intro hk
     obtain ⟨rows,q1,q2⟩:=ih (by omega)
     obtain ⟨cs',q3,q4⟩:=h5 k (by omega)
     rw [hc] at q3
     refine ⟨rows ++ [cs'],by simp [q1],fun i hi=>?_⟩
     by_cases hik:i < rows.length
     ·rw [List.getElem_append_left hik];exact q2 i hik
     ·have hik':i=k:=by simp at hi;omega
      subst hik'
      rw [List.getElem_append_right (by omega)]
      simp only [q1,Nat.sub_self,List.getElem_cons_zero]
      exact ⟨q3,_,q4⟩
   exact key len (Nat.le_refl _)
  subst hr1
  refine ⟨rows,⟨some a,cap,rfl,h2,by simpa [maxLen] using h3,?_⟩,fun row hrow=>?_⟩
  ·by_cases hz:rows=[]
   ·exact .inl hz
   ·have hr0:0 < rows.length:=List.length_pos_iff.2 hz
    obtain ⟨_,q2,q3⟩:=World.cells?_some (hr2 0 hr0).1
    have q4:=q3 0 hs0
    rw [List.getElem?_eq_getElem (by omega)] at q4
    simp [Addr.add] at q4
    have hsp:=World.cell?_spot q4
    right
    obtain ⟨ab,ao,asp⟩:=a
    simp only at hsp
    subst hsp
    refine ⟨ab,ao,rfl,fun i hi j hj=>?_⟩
    obtain ⟨_,q5,q6⟩:=World.cells?_some (hr2 i hi).1
    have q7:=q6 j (by omega)
    rw [List.getElem?_eq_getElem hj,addr_add,addr_add] at q7
    exact q7
  ·obtain ⟨i,hi,rfl⟩:=List.getElem_of_mem hrow
   obtain ⟨q1,y',q2⟩:=hr2 i hi
   exact ⟨(World.cells?_some q1).2.1,n,y',q2⟩
theorem zw7 {α:Type} (f:α→List Value):∀ (rows:List (List Value)),(∀ r∈rows,∃ x,r=f x)→∃ l:List α,rows=l.map f
 | [],_=>⟨[],rfl⟩
 | r :: rs,h=>by
  obtain ⟨x,rfl⟩:=h r (by simp)
  obtain ⟨l,rfl⟩:=zw7 f rs fun r hr=>h r (by simp [hr])
  exact ⟨x :: l,rfl⟩
set_option maxRecDepth 100000 in
theorem z3l {k:IntKind} {t e:TypeId} (ht:Tryz.prog.underlying t=some (.slice e)) (he:Tryz.prog.underlying e=some (.int k)) (hc:Tryz.prog.cellsOf e=1) {v:Value} {d:DataW H} {p:List MemPlace} (hv:Value.okWide Tryz.prog W r b0 t v) (h:DataW.Trod enc Tryz.prog W base sp held t v d p) :
  ∃ l:List Int,IsRows W 1 v (l.map fun n=>[.int k n])∧∀ x∈l,(Lit.int k x).wf=true:=by
 obtain ⟨a0,len,cap,rfl⟩:=okWide_slice ht hv
 obtain ⟨n,hn⟩:=h
 obtain ⟨rows,hr,hx⟩:=zw6 ht hc (by omega) (v:=.slice a0 len cap) (by simpa [Value.cells] using hn)
 have key:∀ rs:List (List Value),(∀ row∈rs,row.length=1∧∃ m y',DataW.trod enc Tryz.prog W base sp held m e row=some y')→∃ l:List Int,rs=l.map (fun n=>[Value.int k n])∧∀ x∈l,(Lit.int k x).wf=true:=by
  intro rs
  induction rs with
  | nil=>exact fun _=>⟨[],rfl,by simp⟩
  | cons row rs ih =>
   intro hh
   obtain ⟨l,rfl,hl⟩:=ih fun r hr=>hh r (by simp [hr])
   obtain ⟨_,m,y',ht⟩:=hh row (by simp)
   obtain ⟨x,rfl,_,hw⟩:=DataW.trod_int he ht
   exact ⟨x :: l,rfl,fun y hy=>by rcases List.mem_cons.1 hy with rfl | hy;exact hw;exact hl y hy⟩
 obtain ⟨l,rfl,hl⟩:=key rows hx
 exact ⟨l,hr,hl⟩
end
end Go.Proofs.YtdamgacabfbpjaaGreat
namespace Go.Proofs.YtdamgacabfbpjaaGreat
open Go.ChangeShapes Go.WideShapes Go.ChangeAt Go.RowKit
section
variable {H:Type} {enc:TypeId × Value→H} {W:World} {sp:Nat→Bool} {held:Bool} {base b0:Nat} {r:Reach}
end
end Go.Proofs.YtdamgacabfbpjaaGreat
namespace Go.Proofs.YtdamgacabfbpjaaGreat
open Go.ChangeShapes Go.WideShapes Go.ChangeAt Go.RowKit
section
variable {H:Type} {enc:TypeId × Value→H} {W:World} {sp:Nat→Bool} {held:Bool} {base b0:Nat} {r:Reach}
theorem array2 {α:Type} {cs:Array α} (h:cs.size=2):∃ c0 c1,cs = #[c0,c1]:=by
 obtain ⟨l⟩:=cs
 match l,h with
 | [c0,c1],_=>exact ⟨c0,c1,rfl⟩
set_option maxRecDepth 100000 in
theorem z7q {n:Nat} {v:Value} {y:DataW H × List MemPlace} (h:DataW.trod enc Tryz.prog W base sp held n 22 [v]=some y):∃ l:List Wd,IsWds W v l:=by
 have c1:Tryz.prog.cellsOf 3=1:=by kernel_rfl
 obtain ⟨rows,hr,hx⟩:=zw6 Tryz.underlying22 (sz:=3) (by kernel_rfl) (by omega) h
 obtain ⟨l,rfl⟩:=zw7 zn9 rows fun row hrow=>by
  obtain ⟨hl,m,y',ht⟩:=hx row hrow
  match row,hl with
  | [v0,v1,v2],_ =>
   obtain ⟨y0,y1,y2,n,_,_,h0,h1,h2⟩:=Go.Deep.trod_struct3 Tryz.underlying48 ht
   have g0:DataW.trod enc Tryz.prog W base sp held n 3 [v0]=some y0:=by simpa [c1] using h0
   have g1:DataW.trod enc Tryz.prog W base sp held n 3 [v1]=some y1:=by simpa [c1] using h1
   have g2:DataW.trod enc Tryz.prog W base sp held n 3 [v2]=some y2:=by simpa [c1] using h2
   obtain ⟨f,hf,_⟩:=DataW.trod_int Tryz.underlying3 g0
   obtain ⟨s,hs,_⟩:=DataW.trod_int Tryz.underlying3 g1
   obtain ⟨u,hu,_⟩:=DataW.trod_int Tryz.underlying3 g2
   cases hf;cases hs;cases hu
   exact ⟨(f,s,u),rfl⟩
 exact ⟨l,hr⟩
set_option maxRecDepth 100000 in
theorem z5j {v:Value} {d:DataW H} {p:List MemPlace} (hv:Value.okWide Tryz.prog W r b0 24 v) (h:DataW.Trod enc Tryz.prog W base sp held 24 v d p) :
  ∃ (h:Rc) (sa:Option Addr) (cap:Nat),v = .agg #[.int .i64 h.n,.slice sa h.ws.length cap]∧IsWds W (.slice sa h.ws.length cap) h.ws:=by
 have hs:=Tryz.underlying24
 have hC:Tryz.prog.cellsOf 24=2:=by kernel_rfl
 have c1:Tryz.prog.cellsOf 3=1:=by kernel_rfl
 have c2:Tryz.prog.cellsOf 22=1:=by kernel_rfl
 obtain ⟨cs,rfl,hsz⟩:=okWide_struct hs hv
 obtain ⟨v0,v1,rfl⟩:=array2 (hsz.trans hC)
 obtain ⟨fuel,hf⟩:=h
 obtain ⟨y0,y1,n,_,_,h0,h1⟩:=trod_struct2 hs hf
 have g0:DataW.trod enc Tryz.prog W base sp held n 3 [v0]=some y0:=by simpa [Value.cells,c1] using h0
 have g1:DataW.trod enc Tryz.prog W base sp held n 22 [v1]=some y1:=by simpa [Value.cells,c2] using h1
 obtain ⟨nn,e0,_⟩:=DataW.trod_int Tryz.underlying3 g0
 obtain ⟨ws,hw⟩:=z7q g1
 cases e0
 obtain ⟨sa,cap,e1,_⟩:=id hw
 have e2:v1 = .slice sa ws.length cap:=by simpa using e1
 subst e2
 exact ⟨⟨nn,ws⟩,sa,cap,rfl,hw⟩
end
end Go.Proofs.YtdamgacabfbpjaaGreat
