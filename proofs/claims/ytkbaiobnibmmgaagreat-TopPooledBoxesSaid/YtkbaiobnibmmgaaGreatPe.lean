/-
  The walk of dividends: two ranges over the winners, with a map of those that are backed.
-/
import Derived.Test.YtkbaiobnibmmgaaGreatPd
import Derived.Test.YtkbaiobnibmmgaaGreatBb
import Derived.Test.YtkbaiobnibmmgaaGreatBa
namespace Go.Proofs.YtkbaiobnibmmgaaGreat
open Go.RowKit Go.Shelf
attribute [local go_sem] Oper.semAt_some
theorem z96:El 53 57 3:=El.mk' (bytes:=24) (z:=.agg #[.int .i64 0,.int .i64 0,.int .i64 0]) (by kernel_rfl) (by kernel_rfl) rfl (by omega) (by omega)
theorem MapIs.del' {K V:Type} [DecidableEq K] {P:Program} {tm tk tv:TypeId} {ke:K→Value} {ve:V→Value} (hk:Keyed P tm tk tv ke ve) {W:World} {r:Nat} {F:K→Option V} (h:MapIs ke ve W r F) (k:K) (ty:TypeId) :
  ∃ W',(Builtin.delete_ #[tm,tk] ty #[.map (some r),ke k]).run P W = .ok (.tuple #[]) W'∧W.grownBy W' (some r)∧W'.heap.size=W.heap.size∧MapIs ke ve W' r (fun k'=>if k'=k then none else F k'):=by
 obtain ⟨es,c,h1,h2,h3,h4⟩:=h
 obtain ⟨W',r1,r2,r3,r4,r5,r6⟩:=MapIs.del hk h1 h2 h3 k ty
 exact ⟨W',r1,r2,r3,_,_,r4,r5,r6,fun k'=>by rw [z49,h4]⟩
theorem MapIs.len {P:Program} {tm tk tv:TypeId} {ke:Spt→Value} {ve:Int→Value} (hk:Keyed P tm tk tv ke ve) {W:World} {r:Nat} {F:Spt→Option Int} (h:MapIs ke ve W r F) {l:List Spt} (hl:l.Nodup) (hm:∀ k,F k≠none↔k∈l) (ty:TypeId) :
  (Builtin.len_ #[tm] ty #[.map (some r)]).run P W = .ok (.int .i64 (l.length:Int)) W:=by
 obtain ⟨es,c,h1,h2,h3,h4⟩:=h
 have e:=z6b h2 hl fun k=>by rw [h4];exact hm k
 have h1':W.heap[r]? = some (.map (es.map (encE ke ve)).toArray c):=h1
 have hs:(es.map (encE ke ve)).toArray.size=l.length:=by simpa using e
 simp [Builtin.len_,run_underlying hk.und,run_getObj_map W r _ c h1',hs,goInt]
theorem z35 {b:Bk} {fs:List (List Int)} (k:Spt):zde b (zbj b fs) k≠none↔k∈zca b fs:=by
 unfold zde zca
 rw [List.mem_filter]
 by_cases h:k∈zbj b fs∧zz b k≠0
 ·rw [if_pos h];simp [h.1,h.2]
 ·rw [if_neg h];simp only [ne_eq,not_true,false_iff];intro h2;exact h ⟨h2.1,by simpa using h2.2⟩
def zdj (b:Bk) (fs:List (List Int)) (pre:List Spt):List (List Value):=((pre.filter fun s=>decide (zz b s≠0)).map fun s=>(s,zd3 b fs s)).map zdi
set_option maxRecDepth 100000 in
set_option maxHeartbeats 8000000 in
theorem zxu (p m:Nat) (b:Bk) (ba sa fa:Option Addr) (bcap scap fcap:Nat) (ps:List (Value × List Int)) (w:World) (ht:IsTill w p m b ba bcap sa scap) (hf:IsFin w (.slice fa ps.length fcap) ps) (hfv:FinV b (zf ps)) :
  CallsIn Fence.wide 9 Tryz.prog 41 #[.pointer (some ⟨p,0,none⟩),.slice fa ps.length fcap] w fun e w'=>∃ v,e = .returned v∧Ext w w'∧IsRows w' 3 v ((divP b (zf ps)).map zdi)∧∀ g,v.ownBlock=some g→w.heap.size≤g:=by
 have hmm:=@run_makeMap Tryz.prog
 have HT:=Lib.hid ht
 have HF:=Lib.hid hf
 have FV:=Lib.hid hfv
 have hzp:=ht.till.lt
 have hzm:=ht.map.lt
 clear ht hf hfv
 refine callsIn_of_wp_marks Tryz.func41 rfl trivial ?_ rfl
 simp only [Tryz.ntmps41,List.size_toArray,List.length_cons,List.length_nil,Nat.reduceAdd,Nat.reduceSub,Array.replicate_succ,Array.replicate_zero,List.push_toArray,List.append_toArray,List.nil_append,List.cons_append]
 gi_wp2_with fail
 refine ⟨trivial,(callsIn_wide.2 (zpu p fa ps.length fcap _)).mono ?_⟩
 rintro e W5 ⟨rfl,hE5,c5t,c5f,hz5⟩
 simp only [World.size_alloc] at c5t c5f hz5
 have hEw:Ext w W5:=Ext.trans' (by exact xx) hE5
 have hm5:MapIs skey ival W5 (w.heap.size+1) (zde b []):=by
  rw [z33]
  have hm:=ztw (ke:=skey) (ve:=ival) (w.alloc (.cells #[.pointer (some ⟨p,0,none⟩)] 82))
  rw [World.size_alloc] at hm
  exact hm.ext (Ext.trans' (by exact xx) hE5)
 have x2:W5.cell? ⟨w.heap.size,0,none⟩=some (.pointer (some ⟨p,0,none⟩)):=zb hE5 (by simp [go_sem])
 have x5:W5.cell? ⟨w.heap.size+1+1,0,none⟩=some (.map (some (w.heap.size+1))):=zb hE5 (by simp [go_sem])
 have HEW:=Lib.hid hEw
 have HM5:=Lib.hid hm5
 clear hE5 hEw hm5 hmm
 gi_wp2_with fail
 refine ztt (n:=9) (R:=fun k=>k < W5.heap.size∧k≠w.heap.size+1) rfl (enters_of Tryz.func145 (by kernel_rfl) rfl)
  (zn9 b ba sa fa bcap scap fcap (w.heap.size+3) (w.heap.size+3+1) p ps (fun k=>k < W5.heap.size∧k≠w.heap.size+1) W5 (fun k hk=>hk.1)
   (fun W hk=>zzv HT.out HF.out (HEW.out.trans (Kept.below (hk.mono (T:=fun k=>k < w.heap.size) fun k hk1 hk2=>⟨hk1,by omega⟩) HEW.out.size)) c5t c5f hk ⟨by omega,by omega⟩ ⟨by omega,by omega⟩) FV.out.ok)
  (Below.refl _ _) (fun k hk=>hk.1) (fun _=>rfl)
  (fun O pre W=>(∀ k,O k→W5.heap.size≤k)∧W5.heap.size≤W.heap.size∧Kept (fun k=>k < W5.heap.size∧k≠w.heap.size+1) W5 W∧MapIs skey ival W (w.heap.size+1) (zde b pre))
  (fun _ _ _ _=>False) ?bears (fun _ _ _ _ _ _ h _ _ _=>h) ⟨fun _ h=>h.elim,Nat.le_refl _,Kept.refl _ _,HM5.out⟩ ?round ?done (fun _ _ _ _ _ _ _ h _=>h.elim)
 case bears =>
  rintro pre O O' A B ⟨g1,g2,g3,g4⟩ hk hO1 hO2
  have hlow:Kept (fun k=>k < W5.heap.size) A B:=hk.mono fun k _ hk=>⟨fun ho=>by have:=g1 k ho;omega,by omega⟩
  refine ⟨fun k hk=>?_,by have:=hk.size;omega,g3.trans (hlow.mono fun k _ h=>h.1),g4.of_heap (hlow.same _ g4.lt (by omega))⟩
  rcases hO2 k hk with h | h
  ·exact g1 k h
  ·omega
 case round =>
  rintro l O pre y W ⟨g1,g2,g3,g4⟩ hy hO2 hW2
  simp only [skey]
  gi_wp2_with fail
  refine ⟨xx,fun W2 hk2=>?_⟩
  have hE2:Ext W (W.alloc (.cells #[.int .i64 y.1,.int .i64 y.2] 132)):=xx
  have y0:=hk2.cell (p:=⟨W.heap.size,0,none⟩) (v:=.int .i64 y.1) (by simp [go_sem]) (by simp;omega)
  have y1:=hk2.cell (p:=⟨W.heap.size,1,none⟩) (v:=.int .i64 y.2) (by simp [go_sem]) (by simp;omega)
  have hz2:=hk2.size
  simp only [World.size_alloc] at hz2
  have g32:Kept (fun k=>k < W5.heap.size∧k≠w.heap.size+1) W5 W2:=(g3.trans (Kept.of_below hE2)).trans (hk2.mono fun k _ h=>by omega)
  have g42:MapIs skey ival W2 (w.heap.size+1) (zde b pre):=(g4.ext hE2).of_heap (hk2.same _ (by simp;have:=g4.lt;omega) (by omega))
  have hEw2:Ext w W2:=HEW.out.trans (Kept.below (g32.mono (T:=fun k=>k < w.heap.size) fun k hk1 hk2=>⟨hk1,by omega⟩) HEW.out.size)
  have q2:=g32.cell x2 ⟨by simp only;omega,by simp only;omega⟩
  have q5:=g32.cell x5 ⟨by simp only;omega,by simp only;omega⟩
  have ht2:=(HT.out.ext hEw2)
  have q9:=ht2.till.c9
  have hlk:∀ n,(Instr.lookup 87 (.map (some m)) (.agg #[.int .i64 y.1,.int .i64 y.2]) false).run Tryz.prog (W2.drewN n) = .ok (.int .i64 (zz b y)) (W2.drewN n) :=
   fun n=>zsd (ht2.map.of_heap (W':=W2.drewN n) rfl) y
  obtain ⟨u,hu⟩:∃ u,u=zz b y:=⟨_,rfl⟩
  rw [← hu] at hlk
  have HU:=Lib.hid hu
  have HO:=Lib.hid hO2
  have HM2:=Lib.hid g42
  have HK5:=Lib.hid g32
  clear hu hO2 g42 g32 g3 g4 hk2 hE2 hEw2 ht2 hy
  gi_wp2_with fail
  refine z9z rfl rfl (by kernel_rfl) (by kernel_rfl) (by kernel_rfl) ?_
  dsimp only [List.dropLast]
  repeat (first | go_big_quiet_step (fail) | quiet_step (fail))
  refine wpQuiet_nil ?_
  rintro _ ⟨nq,rfl⟩
  obtain ⟨W4,hup,hg4,hz4,hm4⟩:=(HM2.out.of_heap (W':=W2.drewN nq) rfl).upd zbo y u
  simp only [skey,ival] at hup
  have hkG:∀ (S:Nat→Prop),¬ S (w.heap.size+1)→Kept S W2 W4:=fun S h=>(Kept.of_below (Ext.drN (Below.refl _ W2) nq)).grown hg4 (fun k e _ hk=>by cases e;exact h hk)
  have y04:=(hkG (fun k=>k≠w.heap.size+1) (fun h=>h rfl)).cell y0 (by simp only;omega)
  have y14:=(hkG (fun k=>k≠w.heap.size+1) (fun h=>h rfl)).cell y1 (by simp only;omega)
  have q54:=(hkG (fun k=>k≠w.heap.size+1) (fun h=>h rfl)).cell q5 (by simp only;omega)
  have hlk4:(Instr.lookup 87 (.map (some (w.heap.size+1))) (.agg #[.int .i64 y.1,.int .i64 y.2]) false).run Tryz.prog W4 = .ok (.int .i64 u) W4:=hm4.look zbo y (by rw [if_pos rfl])
  have hz24:=(hkG (fun _=>False) (fun h=>h)).size
  have HKG:=Lib.hid hkG
  have HG4:=Lib.hid hg4
  have HM4:=Lib.hid hm4
  clear hkG hg4 hm4 hlk y0 y1 q2 q5 q9
  have hR:∀ (W6:World),(∀ (S:Nat→Prop),¬ S (w.heap.size+1)→Kept S W2 W6)→Kept (fun k=>(k < W5.heap.size∧k≠w.heap.size+1)∨O k∨k=W5.heap.size+1∨k+1=W5.heap.size+1) W2 W6∧Kept (fun k=>k < W5.heap.size∧k≠w.heap.size+1) W5 W6:=fun W6 hk =>
   ⟨hk _ fun h=>by
    rcases h with h | h | h | h
    ·exact h.2 rfl
    ·have:=g1 _ h;omega
    ·omega
    ·omega,HK5.out.trans (hk _ fun h=>h.2 rfl)⟩
  have HR:=Lib.hid hR
  clear hR
  by_cases h0:u=0
  ·subst h0
   obtain ⟨W6,hdel,hg6,hz6,hm6⟩:=MapIs.del' zbo HM4.out y 0
   simp only [skey] at hdel
   have hk6:∀ (S:Nat→Prop),¬ S (w.heap.size+1)→Kept S W2 W6:=fun S h=>(HKG.out S h).grown hg6 (fun k e _ hk=>by cases e;exact h hk)
   have hz46:=(hk6 (fun _=>False) (fun h=>h)).size
   have HK6:=Lib.hid hk6
   have HM6:=Lib.hid hm6
   have HU0:=Lib.hid HU.out.symm
   clear hg6 hm6 hk6
   gi_wp2_with fail
   obtain ⟨r1,r2⟩:=HR.out _ HK6.out
   refine ⟨r1,g1,by omega,r2,?_⟩
   have e:=z34 (b:=b) (pre:=pre) HU0.out
   rw [← e]
   have:=HM6.out
   rw [HU.out] at this
   exact this
  ·have hu0:(u == 0)=false:=by simpa using h0
   have HU0:=Lib.hid (fun h=>h0 (HU.out.trans h):zz b y≠0)
   clear h0
   gi_wp2_with fail
   obtain ⟨r1,r2⟩:=HR.out _ HKG.out
   refine ⟨r1,g1,by omega,r2,?_⟩
   have e:=z6a (b:=b) (pre:=pre) HU0.out
   rw [← e]
   have:=HM4.out
   rw [HU.out] at this
   exact this
 case done =>
  rintro D O xs V0 hD rfl ⟨g1,g2,g3,g4⟩ hDk
  have hEW:Ext w V0:=HEW.out.trans (Kept.below (g3.mono (T:=fun k=>k < w.heap.size) fun k hk1 hk2=>⟨hk1,by omega⟩) HEW.out.size)
  have q2:=g3.cell x2 ⟨by simp only;omega,by simp only;omega⟩
  have q5:=g3.cell x5 ⟨by simp only;omega,by simp only;omega⟩
  have HEV:=Lib.hid hEW
  have HMV:=Lib.hid g4
  have HDK:=Lib.hid hDk
  have hDlt:=(Array.getElem?_eq_some_iff.1 hDk).1
  have hzw0:w.heap.size < V0.heap.size:=by omega
  have hzw2:w.heap.size+1+1 < V0.heap.size:=by omega
  clear g3 g4 hDk hEW x2 x5 c5t c5f HM5 HEW
  gi_wp2_with fail
  refine ⟨trivial,(callsIn_wide.2 (zpu p fa ps.length fcap _)).mono ?_⟩
  rintro e W6 ⟨rfl,hE6,c6t,c6f,hz6⟩
  simp only [World.size_alloc] at c6t c6f hz6
  have hE:Ext V0 W6:=Ext.trans' (by exact xx) hE6
  have hO6:W6.heap[V0.heap.size]? = some (.cells #[.slice none 0 0] 53 (0,0)):=(hE6.block _ (by simp)).trans (World.alloc_heap_new V0 _)
  have HO6:=Lib.hid hO6
  have HE6:=Lib.hid hE
  clear hE6 hO6 hE
  gi_wp2_with fail
  refine ztt (n:=9) (R:=fun k=>k < W6.heap.size∧k≠V0.heap.size) rfl (enters_of Tryz.func145 (by kernel_rfl) rfl)
   (zn9 b ba sa fa bcap scap fcap (V0.heap.size+1) (V0.heap.size+1+1) p ps (fun k=>k < W6.heap.size∧k≠V0.heap.size) W6 (fun k hk=>hk.1)
    (fun W' hk=>zzv HT.out HF.out (HEV.out.trans ((Kept.below (B:=w.heap.size) ((Kept.of_below HE6.out).mono (T:=fun k=>k < w.heap.size) fun k _ _=>trivial) HEV.out.size).trans
     (Kept.below (B:=w.heap.size) (hk.mono (T:=fun k=>k < w.heap.size) fun k hk1 hk2=>⟨hk1,by have:=HEV.out.size;omega⟩) (by have:=HEV.out.size;have:=HE6.out.size;omega)))) c6t c6f hk ⟨by omega,by simp⟩ ⟨by omega,by simp;omega⟩) FV.out.ok)
   (Below.refl _ _) (fun k hk=>hk.1) (fun _=>rfl)
   (fun O pre W'=>(∀ k,O k→W6.heap.size≤k)∧W6.heap.size≤W'.heap.size∧Ext V0 W'∧Gath 53 57 3 V0.heap.size (W6.heap.size+2) (zdj b (zf ps) pre) O W')
   (fun _ _ _ _=>False) ?bears2 (fun _ _ _ _ _ _ h _ _ _=>h) ⟨fun _ h=>h.elim,Nat.le_refl _,HE6.out,⟨_,HO6.out,Owns.nil _ _ _ _,fun g hg=>(by cases hg)⟩⟩ ?round2 ?done2 (fun _ _ _ _ _ _ _ h _=>h.elim)
  case bears2 =>
   rintro pre O O' A B ⟨g1,g2,g3,g4⟩ hk hO1 hO2
   have hlow:Kept (fun k=>k < W6.heap.size) A B:=hk.mono fun k _ hk=>⟨fun ho=>by have:=g1 k ho;omega,by omega⟩
   refine ⟨fun k hk=>?_,by have:=hk.size;omega,g3.trans (Kept.below (hlow.mono fun k _ h=>by have:=HE6.out.size;omega) g3.size),g4.kept hk ⟨fun ho=>by have:=g1 _ ho;omega,by omega⟩ (fun g h1 h2=>⟨h2,by omega⟩) (fun g h=>(hO2 g h).imp id fun h=>h.1)⟩
   rcases hO2 k hk with h | h
   ·exact g1 k h
   ·omega
  case round2 =>
   rintro l O pre y X ⟨g1,g2,g3,g4⟩ hy hO2 hX2
   simp only [skey]
   gi_wp2_with fail
   refine ⟨xx,fun X2 hk2=>?_⟩
   have hE2:Ext X (X.alloc (.cells #[.int .i64 y.1,.int .i64 y.2] 132)):=xx
   have y0:=hk2.cell (p:=⟨X.heap.size,0,none⟩) (v:=.int .i64 y.1) (by simp [go_sem]) (by simp;omega)
   have y1:=hk2.cell (p:=⟨X.heap.size,1,none⟩) (v:=.int .i64 y.2) (by simp [go_sem]) (by simp;omega)
   have g32:Ext V0 X2:=(g3.trans' hE2).trans (Kept.below (hk2.mono fun k _ h=>by have:=HE6.out.size;omega) (by have:=g3.size;simp;omega))
   have g42:Gath 53 57 3 V0.heap.size (W6.heap.size+2) (zdj b (zf ps) pre) O X2 :=
    (g4.kept (O':=O) (.of_below hE2) (S:=fun _=>True) trivial (fun _ _ _=>trivial) (fun _ h=>.inl h)).kept hk2 (by omega) (fun g h1 _=>by omega) (fun _ h=>.inl h)
   have hz2:=hk2.size
   simp only [World.size_alloc] at hz2
   have q2':=zb g32 q2
   have q5':=zb g32 q5
   have hEw2:Ext w X2:=HEV.out.trans' g32
   have hm2:=HMV.out.ext g32
   have hsz:=HEV.out.size
   have hszW:=HE6.out.size
   obtain ⟨u,hu⟩:∃ u,u=zz b y:=⟨_,rfl⟩
   have HU:=Lib.hid hu
   have HG:=Lib.hid g42
   have HG3:=Lib.hid g32
   have HOO:=Lib.hid hO2
   by_cases h0:u=0
   ·have hlk:(Instr.lookup 87 (.map (some (w.heap.size+1))) (.agg #[.int .i64 y.1,.int .i64 y.2]) true).run Tryz.prog X2 = .ok (.tuple #[.int .i64 0,.bool false]) X2 :=
     hm2.look_none zbo y (by unfold zde;rw [if_neg (fun h=>h.2 (by rw [← hu];exact h0))]) zsc
    have hds:zdj b (zf ps) (pre ++ [y])=zdj b (zf ps) pre:=by unfold zdj;rw [List.filter_append];simp [← hu,h0]
    have HDS:=Lib.hid hds
    clear hu h0 hds g42 g32 hk2 hm2 hEw2 g3 g4 hO2 hE2
    gi_wp2_with fail
    exact ⟨Kept.refl _ _,g1,by omega,HG3.out,by rw [HDS.out];exact HG.out⟩
   ·have hlk:(Instr.lookup 87 (.map (some (w.heap.size+1))) (.agg #[.int .i64 y.1,.int .i64 y.2]) true).run Tryz.prog X2 = .ok (.tuple #[.int .i64 u,.bool true]) X2 :=
     hm2.look_ok zbo y (by
      unfold zde
      have hyw:y∈zbj b (zf ps):=by obtain ⟨r,hr⟩:=hy;rw [hr];simp
      rw [if_pos ⟨hyw,by rw [← hu];exact h0⟩,← hu])
    have hds:zdj b (zf ps) (pre ++ [y])=zdj b (zf ps) pre ++ [zdi (y,zd3 b (zf ps) y)]:=by unfold zdj;rw [List.filter_append];simp [← hu,h0]
    have hyb:y∈zca b (zf ps):=by
     obtain ⟨r,hr⟩:=hy
     unfold zca
     rw [List.mem_filter]
     exact ⟨by rw [hr];simp,by rw [← hu];simpa using h0⟩
    obtain ⟨c,hc⟩:∃ c:Int,c=((zca b (zf ps)).length:Int):=⟨_,rfl⟩
    have hc1:1≤c:=by have:=List.length_pos_of_mem hyb;omega
    have hln:=fun n=>MapIs.len zbo (hm2.of_heap (W':=X2.drewN n) rfl) ((z1m FV.out).filter _) (z35 (b:=b) (fs:=zf ps)) 3
    rw [show (((zbj b (zf ps)).filter fun s=>decide (zz b s≠0)).length:Int)=c from hc.symm] at hln
    have hnet:=(zhx FV.out.book).2.2.2.1
    have hin:=(zhx FV.out.book).1
    have hcar:=FV.out.book.car
    have ht2:=HT.out.ext hEw2
    have q15:=ht2.till.c15
    obtain ⟨N,hN⟩:∃ N,N=netP b:=⟨_,rfl⟩
    rw [← hN] at q15 hnet
    have hN0:0≤N:=by omega
    have hN1:N≤11000000:=by omega
    have hc0:¬ c=0:=by omega
    have HC:=Lib.hid hc
    have HN:=Lib.hid hN
    have HDS:=Lib.hid hds
    have HT2:=Lib.hid ht2
    have HU0:=Lib.hid h0
    have HEW2:=Lib.hid hEw2
    clear hu h0 hds g42 g32 hk2 hm2 hEw2 g3 g4 hO2 hE2 hyb hnet hin hcar ht2 hc hN
    gi_wp2_with fail
    refine z82 (by kernel_rfl) (by kernel_rfl) ?_
    repeat (first | go_big_quiet_step (fail) | quiet_step (fail))
    refine wpQuiet_nil ?_
    rintro _ ⟨nq,rfl⟩
    obtain ⟨S,hS⟩:∃ S,S=N / c:=⟨_,rfl⟩
    rw [← hS]
    have hS0:0≤S:=by rw [hS];exact Int.ediv_nonneg hN0 (by omega)
    have hS1:S≤11000000:=by rw [hS];exact Int.le_trans (Int.ediv_le_self _ hN0) hN1
    have HSS:Hid (S=zfl b (zf ps)):=Lib.hid (by unfold zfl;rw [hS,HN.out,HC.out])
    obtain ⟨Z,hZ⟩:∃ Z,Z=X2.drewN nq:=⟨_,rfl⟩
    have hEZ:Ext X2 Z:=by rw [hZ];exact Ext.drN (Below.refl _ _) nq
    have ht3:=HT2.out.ext hEZ
    have c7:=ht3.till.c7
    have hzpZ:=ht3.till.lt
    have q2z:=zb hEZ q2'
    have y0z:=zb hEZ y0
    have y1z:=zb hEZ y1
    have hzZ:=hEZ.size
    have hgz:=HG.out.kept (O':=O) (.of_below hEZ) (S:=fun _=>True) trivial (fun _ _ _=>trivial) (fun _ h=>.inl h)
    obtain ⟨ov,hov,hown,hno⟩:=hgz
    obtain ⟨oa,on,oc,rfl⟩:=hown.isSlice
    have ho0:Z.cell? ⟨V0.heap.size,0,none⟩=some (.slice oa on oc):=by rw [cell_of_row _ _ _ _ _ _ hov];rfl
    have hzo:=(Array.getElem?_eq_some_iff.1 hov).1
    have hu1:1≤u∧u≤100000:=by
     have:=zug FV.out.book y
     have h1:=HU.out
     have h2:=HU0.out
     omega
    have hst:=FV.out.book.step
    obtain ⟨st,hst'⟩:∃ st,st=b.step:=⟨_,rfl⟩
    rw [← hst'] at hst c7
    obtain ⟨M,hM⟩:∃ M,M=u * st:=⟨_,rfl⟩
    have hM1:1≤M:=by rw [hM];exact Int.mul_pos (by omega) (by omega)
    have hM2:M≤100000 * 100:=by rw [hM];exact Int.mul_le_mul hu1.2 hst.2 (by omega) (by omega)
    obtain ⟨Q,hQ⟩:∃ Q,Q=S / M:=⟨_,rfl⟩
    have hQ0:0≤Q:=by rw [hQ];exact Int.ediv_nonneg hS0 (by omega)
    have hQ1:Q≤11000000:=by rw [hQ];exact Int.le_trans (Int.ediv_le_self _ hS0) hS1
    obtain ⟨P,hP⟩:∃ P,P=Q * st:=⟨_,rfl⟩
    have hP0:0≤P:=by rw [hP];exact Int.mul_nonneg hQ0 (by omega)
    have hP1:P≤11000000 * 100:=by rw [hP];exact Int.mul_le_mul hQ1 hst.2 (by omega) (by omega)
    have HPP:Hid (P=zd3 b (zf ps) y):=Lib.hid (by unfold zd3;rw [hP,hQ,hM,hst',HU.out,HSS.out])
    have hwM:IntKind.i64.wrap (u * st)=M:=by rw [← hM];exact IntWalk.i64_in _ (by omega)
    have hwQ:IntKind.i64.wrap (S.tdiv M)=Q:=by rw [hQ];exact IntWalk.i64_quo S M ⟨hS0,by omega,hM1⟩
    have hwP:IntKind.i64.wrap (Q * st)=P:=by rw [← hP];exact IntWalk.i64_in _ (by omega)
    have hM0:¬ M=0:=by omega
    have HEZ:=Lib.hid hEZ
    have HOV:=Lib.hid hov
    have HOWN:=Lib.hid hown
    have HNO:=Lib.hid hno
    have HLL:Hid ((zdj b (zf ps) pre).length+1≤1000000):=by
     refine Lib.hid ?_
     obtain ⟨rest,hr⟩:=hy
     have h1:=zxt FV.out
     rw [hr] at h1
     have h2:=List.length_filter_le (fun s=>decide (zz b s≠0)) pre
     unfold zdj
     rw [List.length_map,List.length_map]
     rw [List.length_append] at h1
     omega
    rw [← hZ]
    clear hZ hEZ ht3 hov hown hno hQ hM hP hS hlk hln q15 q2' q5' y0 y1 hst' HG HN HC hy
    gi_wp2_with fail
    refine zjk rfl rfl (by kernel_rfl) (W6.heap.size+2) (by omega)
     [sqV (.slice oa on oc),sqV (.pointer (some ⟨X.heap.size,0,none⟩)),sqV (.int .i64 y.1),sqV (.pointer (some ⟨X.heap.size,1,none⟩)),sqV (.int .i64 y.2),sqV (.int .i64 S),sqV (.int .i64 u),sqV (.pointer (some ⟨p,0,none⟩)),sqV (.pointer (some ⟨p,0,none⟩)),sqV (.pointer (some ⟨p,0,none⟩)),sqV (.pointer (some ⟨p,7,none⟩)),sqV (.int .i64 st),sqV (.int .i64 M),sqV (.int .i64 Q),sqV (.pointer (some ⟨p,0,none⟩)),sqV (.pointer (some ⟨p,0,none⟩)),sqV (.pointer (some ⟨p,0,none⟩)),sqV (.pointer (some ⟨p,7,none⟩)),sqV (.int .i64 st),sqV (.int .i64 P),sqV (.agg #[.int .i64 y.1,.int .i64 y.2,.int .i64 P]),sqW (fun v W=>∃ b,v = .slice (some ⟨b,0,none⟩) 1 1∧RowsAt W 3 b 0 ([[Value.int .i64 y.1,Value.int .i64 y.2,Value.int .i64 P]])) (fun _ _ _ ⟨b,h1,h2⟩ e=>⟨b,h1,h2.ext e⟩),sqW (fun v W=>Owns W (W6.heap.size+2) 57 3 v (zdj b (zf ps) pre ++ [[.int .i64 y.1,.int .i64 y.2,.int .i64 P]])∧Kept (fun k=>some k≠(Value.slice oa on oc).ownBlock) Z W∧∀ g,v.ownBlock=some g→(Value.slice oa on oc).ownBlock=some g∨Z.heap.size≤g) (fun _ _ _ ⟨h1,h2,h3⟩ e=>⟨h1.ext e,h2.trans (.of_below e),h3⟩)]
     [true,true,true,true,true,true,true,true,true,true,true,true,true,true,true,true,true,true,true,true,true,false,false] [false,false,false,false,false,false,false,false,false,false,false,false,false,false,false,false,false,false,false,false,false,false,true] [true,true,true,true,true,true,true,true,true,true,true,true,true,true,true,true,true,true,true,true,true,false,true] [true,true,true,true,true,true,true,true,true,true,true,true,true,true,true,true,true,true,true,true,true,true,true]
     (by kernel_rfl) (by kernel_rfl) (by decide +kernel) (by decide +kernel) (by decide +kernel) rfl ⟨rfl,rfl⟩ ⟨?s0,?s1,?s2,?s3,?s4,?s5,?s6,?s7,?s8,?s9,?s10,?s11,?s12,?s13,?s14,?s15,?s16,?s17,?s18,?s19,?s20,?s21,?s22,trivial⟩ [some 51,some 52,some 53,some 54,some 55,some 56,some 57,some 58,some 59,some 60,some 61,some 62,some 63,some 64,some 65,some 66,some 67,some 68,some 69,some 70,some 71,some 72,some 73] rfl rfl ?send
    case s0 =>
     intro val ρ W hE hz hd hA hx
     have o0:ρ (.tmp 7) = .pointer (some ⟨V0.heap.size,0,none⟩):=hA.old 7 (by decide)
     have f_ho0:=cell_below hE (by simp only;omega) ho0
     clear hd
     exact zd (W':=W) (by simp [execOp,o0,f_ho0,go_sem]) (Below.refl _ _) rfl
    case s1 =>
     intro val ρ W hE hz hd hA hx
     have o0:ρ (.tmp 8) = .pointer (some ⟨X.heap.size,0,none⟩):=hA.old 8 (by decide)
     clear hd
     exact zd (W':=W) (by simp [execOp,o0,go_sem]) (Below.refl _ _) rfl
    case s2 =>
     intro val ρ W hE hz hd hA hx
     have d1:ρ (.tmp 52) = .pointer (some ⟨X.heap.size,0,none⟩):=(hA.dep 1 (by decide) 52 rfl).trans (hd 1 (by decide))
     have f_y0z:=zb (hx (by decide)) y0z
     clear hd
     exact zd (W':=W) (by simp [execOp,d1,f_y0z,go_sem]) (Below.refl _ _) rfl
    case s3 =>
     intro val ρ W hE hz hd hA hx
     have o0:ρ (.tmp 8) = .pointer (some ⟨X.heap.size,0,none⟩):=hA.old 8 (by decide)
     clear hd
     exact zd (W':=W) (by simp [execOp,o0,go_sem]) (Below.refl _ _) rfl
    case s4 =>
     intro val ρ W hE hz hd hA hx
     have d3:ρ (.tmp 54) = .pointer (some ⟨X.heap.size,1,none⟩):=(hA.dep 3 (by decide) 54 rfl).trans (hd 3 (by decide))
     have f_y1z:=zb (hx (by decide)) y1z
     clear hd
     exact zd (W':=W) (by simp [execOp,d3,f_y1z,go_sem]) (Below.refl _ _) rfl
    case s5 =>
     intro val ρ W hE hz hd hA hx
     have o0:ρ (.tmp 11) = .int .i64 S:=hA.old 11 (by decide)
     clear hd
     exact zd (W':=W) (by simp [execOp,o0,go_sem]) (Below.refl _ _) rfl
    case s6 =>
     intro val ρ W hE hz hd hA hx
     have o0:ρ (.tmp 9) = .int .i64 u:=hA.old 9 (by decide)
     clear hd
     exact zd (W':=W) (by simp [execOp,o0,go_sem]) (Below.refl _ _) rfl
    case s7 =>
     intro val ρ W hE hz hd hA hx
     have o0:ρ (.tmp 2) = .pointer (some ⟨w.heap.size,0,none⟩):=hA.old 2 (by decide)
     have f_q2z:=cell_below hE (by simp only;omega) q2z
     clear hd
     exact zd (W':=W) (by simp [execOp,o0,f_q2z,go_sem]) (Below.refl _ _) rfl
    case s8 =>
     intro val ρ W hE hz hd hA hx
     have d7:ρ (.tmp 58) = .pointer (some ⟨p,0,none⟩):=(hA.dep 7 (by decide) 58 rfl).trans (hd 7 (by decide))
     clear hd
     exact zd (W':=W) (by simp [execOp,d7,go_sem]) (Below.refl _ _) rfl
    case s9 =>
     intro val ρ W hE hz hd hA hx
     have d8:ρ (.tmp 59) = .pointer (some ⟨p,0,none⟩):=(hA.dep 8 (by decide) 59 rfl).trans (hd 8 (by decide))
     clear hd
     exact zd (W':=W) (by simp [execOp,d8,go_sem]) (Below.refl _ _) rfl
    case s10 =>
     intro val ρ W hE hz hd hA hx
     have d9:ρ (.tmp 60) = .pointer (some ⟨p,0,none⟩):=(hA.dep 9 (by decide) 60 rfl).trans (hd 9 (by decide))
     clear hd
     exact zd (W':=W) (by simp [execOp,d9,go_sem]) (Below.refl _ _) rfl
    case s11 =>
     intro val ρ W hE hz hd hA hx
     have d10:ρ (.tmp 61) = .pointer (some ⟨p,7,none⟩):=(hA.dep 10 (by decide) 61 rfl).trans (hd 10 (by decide))
     have f_c7:=cell_below hE (by simp only;omega) c7
     clear hd
     exact zd (W':=W) (by simp [execOp,d10,f_c7,go_sem]) (Below.refl _ _) rfl
    case s12 =>
     intro val ρ W hE hz hd hA hx
     have d6:ρ (.tmp 57) = .int .i64 u:=(hA.dep 6 (by decide) 57 rfl).trans (hd 6 (by decide))
     have d11:ρ (.tmp 62) = .int .i64 st:=(hA.dep 11 (by decide) 62 rfl).trans (hd 11 (by decide))
     clear hd
     exact zd (W':=W) (by simp [execOp,d6,d11,hwM,go_sem]) (Below.refl _ _) rfl
    case s13 =>
     intro val ρ W hE hz hd hA hx
     have d5:ρ (.tmp 56) = .int .i64 S:=(hA.dep 5 (by decide) 56 rfl).trans (hd 5 (by decide))
     have d12:ρ (.tmp 63) = .int .i64 M:=(hA.dep 12 (by decide) 63 rfl).trans (hd 12 (by decide))
     clear hd
     exact zd (W':=W) (by simp [execOp,d5,d12,hwQ,hM0,go_sem]) (Below.refl _ _) rfl
    case s14 =>
     intro val ρ W hE hz hd hA hx
     have o0:ρ (.tmp 2) = .pointer (some ⟨w.heap.size,0,none⟩):=hA.old 2 (by decide)
     have f_q2z:=cell_below hE (by simp only;omega) q2z
     clear hd
     exact zd (W':=W) (by simp [execOp,o0,f_q2z,go_sem]) (Below.refl _ _) rfl
    case s15 =>
     intro val ρ W hE hz hd hA hx
     have d14:ρ (.tmp 65) = .pointer (some ⟨p,0,none⟩):=(hA.dep 14 (by decide) 65 rfl).trans (hd 14 (by decide))
     clear hd
     exact zd (W':=W) (by simp [execOp,d14,go_sem]) (Below.refl _ _) rfl
    case s16 =>
     intro val ρ W hE hz hd hA hx
     have d15:ρ (.tmp 66) = .pointer (some ⟨p,0,none⟩):=(hA.dep 15 (by decide) 66 rfl).trans (hd 15 (by decide))
     clear hd
     exact zd (W':=W) (by simp [execOp,d15,go_sem]) (Below.refl _ _) rfl
    case s17 =>
     intro val ρ W hE hz hd hA hx
     have d16:ρ (.tmp 67) = .pointer (some ⟨p,0,none⟩):=(hA.dep 16 (by decide) 67 rfl).trans (hd 16 (by decide))
     clear hd
     exact zd (W':=W) (by simp [execOp,d16,go_sem]) (Below.refl _ _) rfl
    case s18 =>
     intro val ρ W hE hz hd hA hx
     have d17:ρ (.tmp 68) = .pointer (some ⟨p,7,none⟩):=(hA.dep 17 (by decide) 68 rfl).trans (hd 17 (by decide))
     have f_c7:=cell_below hE (by simp only;omega) c7
     clear hd
     exact zd (W':=W) (by simp [execOp,d17,f_c7,go_sem]) (Below.refl _ _) rfl
    case s19 =>
     intro val ρ W hE hz hd hA hx
     have d13:ρ (.tmp 64) = .int .i64 Q:=(hA.dep 13 (by decide) 64 rfl).trans (hd 13 (by decide))
     have d18:ρ (.tmp 69) = .int .i64 st:=(hA.dep 18 (by decide) 69 rfl).trans (hd 18 (by decide))
     clear hd
     exact zd (W':=W) (by simp [execOp,d13,d18,hwP,go_sem]) (Below.refl _ _) rfl
    case s20 =>
     intro val ρ W hE hz hd hA hx
     have d2:ρ (.tmp 53) = .int .i64 y.1:=(hA.dep 2 (by decide) 53 rfl).trans (hd 2 (by decide))
     have d4:ρ (.tmp 55) = .int .i64 y.2:=(hA.dep 4 (by decide) 55 rfl).trans (hd 4 (by decide))
     have d19:ρ (.tmp 70) = .int .i64 P:=(hA.dep 19 (by decide) 70 rfl).trans (hd 19 (by decide))
     clear hd
     exact zd (W':=W) (by simp [execOp,d2,d4,d19,go_sem]) (Below.refl _ _) rfl
    case s21 =>
     intro val ρ W hE hz hd hA hx
     have d20:ρ (.tmp 71) = .agg #[.int .i64 y.1,.int .i64 y.2,.int .i64 P]:=(hA.dep 20 (by decide) 71 rfl).trans (hd 20 (by decide))
     clear hd hA
     refine zd (by simp [execOp,d20,go_sem];exact ⟨rfl,rfl⟩) (by exact xx) ⟨_,rfl,zsu _ ([[Value.int .i64 y.1,Value.int .i64 y.2,Value.int .i64 P]]) _ _ _ 3 rfl (by simp) (by simp)⟩
    case s22 =>
     intro val ρ W hE hz hd hA hx
     have hW:=hx (by decide)
     have d0:ρ (.tmp 51) = .slice oa on oc:=(hA.dep 0 (by decide) 51 rfl).trans (hd 0 (by decide))
     obtain ⟨b',e21,h21⟩:∃ b',val 21 = .slice (some ⟨b',0,none⟩) 1 1∧RowsAt W 3 b' 0 [[Value.int .i64 y.1,Value.int .i64 y.2,Value.int .i64 P]]:=hd 21 (by decide)
     have d21:ρ (.tmp 72) = .slice (some ⟨b',0,none⟩) 1 1:=(hA.dep 21 (by decide) 72 rfl).trans e21
     have ho:=HOWN.out.ext hW
     obtain ⟨v',w',hrun,h2,h3,h4⟩:=zrf z96 53 (W6.heap.size+2) ho b' 0 1 [[Value.int .i64 y.1,Value.int .i64 y.2,Value.int .i64 P]] (by simp) h21 (by simp [Value.oneCell']) HLL.out (by omega)
     exact zil (.tmp 51) (.tmp 72) rfl rfl _ _ d0 d21 hrun (ho.keptBelow (by omega) h3) ⟨h2,(Kept.of_below hW).trans h3,fun g hg=>(h4 g hg).imp id fun h=>Nat.le_trans hW.size h⟩
    case send =>
     intro val WW hE hzz hv
     obtain ⟨-,-,-,-,-,-,-,-,-,-,-,-,-,-,-,-,-,-,-,-,-,-,⟨h22,k22,o22⟩,-⟩:=hv
     replace h22:Owns WW (W6.heap.size+2) 57 3 (val 22) (zdj b (zf ps) pre ++ [[Value.int .i64 y.1,Value.int .i64 y.2,Value.int .i64 P]]):=h22
     obtain ⟨va,vn,vc,e22⟩:=h22.isSlice
     rw [e22] at h22 o22
     have hov3:=(k22.same V0.heap.size hzo (fun h=>by have:=HOWN.out.notOwn _ h.symm;omega)).trans HOV.out
     have hv3:WW.cell? ⟨V0.heap.size,0,none⟩=some (.slice oa on oc):=by rw [cell_of_row _ _ _ _ _ _ hov3];rfl
     have hf3:WW.frozen? ⟨V0.heap.size,0,none⟩=false:=by simp [World.frozen?,hov3]
     have HK3:=Lib.hid k22
     have H22:=Lib.hid h22
     have HO22:=Lib.hid o22
     have HOV3:=Lib.hid hov3
     have hz3:=k22.size
     have hzo3:=(Array.getElem?_eq_some_iff.1 hov3).1
     simp only [putD,e22]
     go_frame
     clear hE h22 o22 e22 hov3 hzz k22 ho0 y0z y1z q2z c7
     gi_wp2_with fail
     have hkS:∀ (S':Nat→Prop),(∀ g,(Value.slice oa on oc).ownBlock=some g→¬ S' g)→¬ S' V0.heap.size→Kept S' X2 (WW.setCell ⟨V0.heap.size,0,none⟩ (.slice va vn vc)):=fun S' h1 h2 =>
      (((Kept.of_below HEZ.out).trans (HK3.out.mono fun k _ hk e=>h1 k e.symm hk))).setCell (fun _=>h2) _
     have ho5:∀ g,(Value.slice oa on oc).ownBlock=some g→W6.heap.size+2≤g∧¬ O g:=fun g hg=>⟨(HOWN.out.notOwn g hg).1,HNO.out g hg⟩
     refine ⟨hkS _ (fun g hg h=>?_) (fun h=>?_),g1,by simp [World.setCell];omega,?_,_,zj HOV3.out 0 _,(by rw [HDS.out,← HPP.out];exact (H22.out.setOther HOV3.out (by decide) 0 _)),fun g hg ho=>?_⟩
     ·have:=ho5 g hg
      rcases h with h | h | h | h
      ·omega
      ·exact this.2 h
      ·omega
      ·omega
     ·rcases h with h | h | h | h
      ·exact h.2 rfl
      ·have:=g1 _ h;omega
      ·omega
      ·omega
     ·exact HG3.out.trans (Kept.below (hkS _ (fun g hg h=>by have:=ho5 g hg;omega) (by omega)) HG3.out.size)
     ·rcases HO22.out g hg with h | h
      ·exact HNO.out g h ho
      ·have:=(HOO.out g ho).2;omega
  case done2 =>
   rintro D2 O2 xs V1 hD2 rfl ⟨g1,g2,g3,g4⟩ hDk2
   obtain ⟨ov,hov,hown,hno⟩:=g4
   obtain ⟨oa,on,oc,rfl⟩:=hown.isSlice
   have ho0:V1.cell? ⟨V0.heap.size,0,none⟩=some (.slice oa on oc):=by rw [cell_of_row _ _ _ _ _ _ hov];rfl
   have HOWN:=Lib.hid hown
   have HDK2:=Lib.hid hDk2
   have HDK1:=Lib.hid ((g3.block D hDlt).trans HDK.out)
   have hDlt2:=(Array.getElem?_eq_some_iff.1 hDk2).1
   have hzo:=(Array.getElem?_eq_some_iff.1 hov).1
   have HG3:=Lib.hid g3
   clear hov hown hno hDk2 g3
   gi_wp2_with fail
   have hne:D2≠D:=by omega
   refine znx (B:=w.heap.size) _ _ ⟨⟨D2,rfl,by omega,HDK2.out,fun d' hd' e=>?_⟩,⟨D,rfl,by omega,HDK1.out,fun d' hd'=>by cases hd'⟩,trivial⟩ fun W' hk=>?_
   ·simp only [List.mem_singleton] at hd'
    subst hd'
    exact hne (Target.collected.inj e).symm
   have hk2:Kept (fun k=>k≠D∧k≠D2) V1 W':=hk.mono fun k _ h d hd e=>by
    rcases List.mem_cons.1 hd with rfl | hd
    ·exact h.2 (Target.collected.inj e).symm
    ·simp only [List.mem_singleton] at hd
     subst hd
     exact h.1 (Target.collected.inj e).symm
   refine ⟨.slice oa on oc,by simp [results,Tryz.results41,go_sem],_,rfl,?_,?_,fun g hg=>by have:=(HOWN.out.notOwn g hg).1;omega⟩
   ·exact (Ext.trans' HEV.out HG3.out).trans (Kept.below (hk2.mono fun k _ h=>by omega) (Ext.trans' HEV.out HG3.out).size)
   ·exact (HOWN.out.keptAt hk2 (fun g cur _ _ h3=>⟨fun e=>(by rw [e,HDK1.out] at h3;cases h3),fun e=>(by rw [e,HDK2.out] at h3;cases h3)⟩)).isRows
theorem zmu (p m:Nat) (b:Bk) (ba sa fa:Option Addr) (bcap scap fcap:Nat) (ps:List (Value × List Int)) (w:World) (ht:IsTill w p m b ba bcap sa scap) (hf:IsFin w (.slice fa ps.length fcap) ps) (hfv:FinV b (zf ps)) :
  Calls Tryz.prog 41 #[.pointer (some ⟨p,0,none⟩),.slice fa ps.length fcap] w fun e w'=>∃ v,e = .returned v∧Ext w w'∧IsRows w' 3 v ((divP b (zf ps)).map zdi)∧∀ g,v.ownBlock=some g→w.heap.size≤g :=
 callsIn_wide.1 (zxu p m b ba sa fa bcap scap fcap ps w ht hf hfv)
end Go.Proofs.YtkbaiobnibmmgaaGreat
namespace Go.Proofs.YtkbaiobnibmmgaaGreat
open Go.RowKit Go.Shelf
structure Acc where
 i:Int
 k:Int
 d:Int
 p:Int
 q:Int
 o:Int
deriving DecidableEq
def netA (b:Bk):Acc:=⟨inP b,zbg b,zeh b,0,0,netP b⟩
def accA (b:Bk) (fs:List (List Int)):Acc:=if divP b fs=[] then netA b else ⟨inP b,zbg b,zeh b,zo8 b fs,netP b - zo8 b fs,0⟩
def accC (a:Acc):Array Value:=#[.int .i64 a.i,.int .i64 a.k,.int .i64 a.d,.int .i64 a.p,.int .i64 a.q,.int .i64 a.o]
def accV (a:Acc):Value:=.agg (accC a)
def AccAt (W:World) (g:Nat) (a:Acc):Prop:=W.heap[g]? = some (.cells (accC a) 38 (0,0))
section
variable {W:World} {g:Nat} {a:Acc} (h:AccAt W g a)
include h
theorem AccAt.c0:W.cell? ⟨g,0,none⟩=some (.int .i64 a.i):=by rw [cell_of_row _ _ _ _ _ _ h];rfl
theorem AccAt.c1:W.cell? ⟨g,1,none⟩=some (.int .i64 a.k):=by rw [cell_of_row _ _ _ _ _ _ h];rfl
theorem AccAt.c2:W.cell? ⟨g,2,none⟩=some (.int .i64 a.d):=by rw [cell_of_row _ _ _ _ _ _ h];rfl
theorem AccAt.c3:W.cell? ⟨g,3,none⟩=some (.int .i64 a.p):=by rw [cell_of_row _ _ _ _ _ _ h];rfl
theorem AccAt.c4:W.cell? ⟨g,4,none⟩=some (.int .i64 a.q):=by rw [cell_of_row _ _ _ _ _ _ h];rfl
theorem AccAt.c5:W.cell? ⟨g,5,none⟩=some (.int .i64 a.o):=by rw [cell_of_row _ _ _ _ _ _ h];rfl
theorem AccAt.fr (o:Nat):W.frozen? ⟨g,o,none⟩=false:=by
 have h':W.heap[g]? = _:=h
 simp [World.frozen?,h']
theorem AccAt.lt:g < W.heap.size:=World.block_lt_of_cell? _ _ h.c0
theorem AccAt.ext {W':World} (e:Ext W W'):AccAt W' g a:=(e.block _ h.lt).trans h
theorem AccAt.setP (x:Int):AccAt (W.setCell ⟨g,3,none⟩ (.int .i64 x)) g { a with p:=x }:=zj h 3 (.int .i64 x)
theorem AccAt.setO (x:Int):AccAt (W.setCell ⟨g,5,none⟩ (.int .i64 x)) g { a with o:=x }:=zj h 5 (.int .i64 x)
end
def zen (b:Bk) (l:List Dvd):Int:=(l.map fun d=>d.2 * zz b d.1).sum
theorem zpw {b:Bk} {l:List Dvd} {k:Nat} (h:k < l.length):zen b (l.take (k+1))=zen b (l.take k)+l[k].2 * zz b l[k].1:=by
 unfold zen
 rw [List.take_add_one,List.getElem?_eq_getElem h,List.map_append]
 simp
theorem zxv {b:Bk} {fs:List (List Int)} (h:FinV b fs) {s:Spt} (hs:s∈zca b fs):0≤zd3 b fs s∧zd3 b fs s≤1100000000∧0≤zd3 b fs s * zz b s∧zd3 b fs s * zz b s≤zfl b fs∧zfl b fs≤11000000:=by
 have hnet:=(zhx h.book).2.2.2.1
 have hin:=(zhx h.book).1
 have hcar:=h.book.car
 have hc1:1≤((zca b fs).length:Int):=by have:=List.length_pos_of_mem hs;omega
 have hu:=zug h.book s
 have hst:=h.book.step
 have hu0:zz b s≠0:=by
  unfold zca at hs
  simpa using (List.mem_filter.1 hs).2
 have hS0:0≤zfl b fs:=Int.ediv_nonneg (by omega) (by omega)
 have hS1:zfl b fs≤11000000:=Int.le_trans (Int.ediv_le_self _ (by omega)) (by omega)
 unfold zd3
 generalize zfl b fs=S at hS0 hS1 ⊢
 generalize zz b s=u at hu hu0 ⊢
 generalize b.step=st at hst ⊢
 have hM1:1≤u * st:=Int.mul_pos (by omega) (by omega)
 have hQ0:0≤S / (u * st):=Int.ediv_nonneg hS0 (by omega)
 have hQ1:S / (u * st)≤11000000:=Int.le_trans (Int.ediv_le_self _ hS0) hS1
 have hP0:0≤S / (u * st) * st:=Int.mul_nonneg hQ0 (by omega)
 have hP1:S / (u * st) * st≤11000000 * 100:=Int.mul_le_mul hQ1 hst.2 (by omega) (by omega)
 have e:S / (u * st) * st * u=S / (u * st) * (u * st):=by rw [Int.mul_assoc,Int.mul_comm st u]
 have hE:=Int.ediv_mul_le S (show u * st≠0 by omega)
 exact ⟨hP0,by omega,Int.mul_nonneg hP0 (by omega),by rw [e];exact hE,hS1⟩
theorem zoa {b:Bk} {fs:List (List Int)} (h:FinV b fs) (k:Nat):0≤zen b ((divP b fs).take k)∧zen b ((divP b fs).take k)≤11000000 * (k:Int):=by
 induction k with
 | zero=>simp [zen]
 | succ k ih =>
  by_cases hk:k < (divP b fs).length
  ·rw [zpw hk]
   have hm:(divP b fs)[k]∈divP b fs:=List.getElem_mem hk
   unfold divP at hm
   obtain ⟨s,hs,e⟩:=List.mem_map.1 hm
   have:=zxv h hs
   unfold divP at ih ⊢
   rw [← e]
   simp only
   omega
  ·rw [List.take_of_length_le (by omega)]
   rw [List.take_of_length_le (by omega)] at ih
   omega
theorem zzw {b:Bk} {fs:List (List Int)} (h:FinV b fs):(divP b fs).length≤64:=by
 unfold divP zca
 rw [List.length_map]
 exact Nat.le_trans (List.length_filter_le _ _) (zxt h)
theorem zob {w:World} {v:Value} {l:List Dvd} (h:IsRows w 3 v (l.map zdi)) :
  ∃ sa cap,v = .slice sa l.length cap∧l.length≤cap∧cap≤9223372036854775807∧(l=[]∨∃ b off,sa=some ⟨b,off,none⟩∧∀ i,(h:i < l.length) →
   w.cell? ⟨b,off+i * 3,none⟩=some (.int .i64 l[i].1.1)∧w.cell? ⟨b,off+i * 3+1,none⟩=some (.int .i64 l[i].1.2)∧w.cell? ⟨b,off+i * 3+2,none⟩=some (.int .i64 l[i].2)):=by
 obtain ⟨sa,cap,h1,h2,h3,h4⟩:=h
 refine ⟨sa,cap,by simpa using h1,by simpa using h2,h3,?_⟩
 rcases h4 with h4 | ⟨b,off,e,h4⟩
 ·exact .inl (by simpa using h4)
 ·refine .inr ⟨b,off,e,fun i hi=>?_⟩
  have c0:=h4 i (by simpa using hi) 0 (by simp [zdi])
  have c1:=h4 i (by simpa using hi) 1 (by simp [zdi])
  have c2:=h4 i (by simpa using hi) 2 (by simp [zdi])
  simp [zdi] at c0 c1 c2
  exact ⟨c0,c1,c2⟩
set_option maxRecDepth 100000 in
set_option maxHeartbeats 4000000 in
theorem z1o (p m:Nat) (b:Bk) (ba sa fa:Option Addr) (bcap scap fcap:Nat) (ps:List (Value × List Int)) (w:World) (ht:IsTill w p m b ba bcap sa scap) (hf:IsFin w (.slice fa ps.length fcap) ps) (hfv:FinV b (zf ps)) :
  Calls Tryz.prog 32 #[.pointer (some ⟨p,0,none⟩),.slice fa ps.length fcap] w fun e w'=>e = .returned (accV (accA b (zf ps)))∧Ext w w':=by
 have HT:=Lib.hid ht
 have HF:=Lib.hid hf
 have FV:=Lib.hid hfv
 have t10:=ht.till.c10
 have t11:=ht.till.c11
 have t12:=ht.till.c12
 have t13:=ht.till.c13
 have t14:=ht.till.c14
 have t15:=ht.till.c15
 have hzp:=ht.till.lt
 clear ht hf hfv
 obtain ⟨I,hI⟩:∃ I,I=inP b:=⟨_,rfl⟩
 obtain ⟨K,hK⟩:∃ K,K=zbg b:=⟨_,rfl⟩
 obtain ⟨D,hD⟩:∃ D,D=zeh b:=⟨_,rfl⟩
 obtain ⟨N,hN⟩:∃ N,N=netP b:=⟨_,rfl⟩
 rw [← hI] at t10
 rw [← hK] at t11
 rw [← hD] at t12
 rw [← hN] at t15
 have HA:Hid (netA b=⟨I,K,D,0,0,N⟩):=Lib.hid (by unfold netA;rw [hI,hK,hD,hN])
 have HA2:Hid (accA b (zf ps)=if divP b (zf ps)=[] then ⟨I,K,D,0,0,N⟩ else ⟨I,K,D,zo8 b (zf ps),N - zo8 b (zf ps),0⟩):=Lib.hid (by unfold accA netA;rw [hI,hK,hD,hN])
 have hN1:0≤N∧N≤11000000:=by
  have h1:=(zhx FV.out.book).2.2.2.1
  have h2:=(zhx FV.out.book).1
  have h3:=FV.out.book.car
  omega
 have HNN:=Lib.hid hN
 clear hI hK hD hN
 go_enter Tryz.func32,Tryz.ntmps32
 go_wp2_with fail
 refine (zmu p m b ba sa fa bcap scap fcap ps _ (HT.out.ext (by exact xx)) (HF.out.ext (by exact xx)) FV.out).mono ?_
 rintro e W1 ⟨v,rfl,hE1,hrows,hnew⟩
 obtain ⟨la,lc,rfl,hl1,hl2,-⟩:=zob hrows
 simp only [World.size_alloc] at hnew
 have hA1:AccAt W1 (w.heap.size+1) ⟨I,K,D,0,0,N⟩:=by
  refine (hE1.block _ (by simp)).trans ?_
  have:=World.alloc_heap_new (w.alloc (.cells #[.int .i64 0,.int .i64 0,.int .i64 0,.int .i64 0,.int .i64 0,.int .i64 0] 38)) (.cells #[.int .i64 I,.int .i64 K,.int .i64 D,.int .i64 0,.int .i64 0,.int .i64 N] 38)
  rwa [World.size_alloc] at this
 have hE:Ext w W1:=Ext.trans' (by exact xx) hE1
 have hr4:W1.cell? ⟨w.heap.size,0,none⟩=some (.int .i64 0)∧W1.cell? ⟨w.heap.size,1,none⟩=some (.int .i64 0):=⟨zb hE1 (by simp [go_sem]),zb hE1 (by simp [go_sem])⟩
 have hA0:AccAt W1 w.heap.size ⟨0,0,0,0,0,0⟩:=by
  refine (hE1.block _ (by simp;omega)).trans ?_
  exact (Below.heap_alloc _ _ _ (by simp)).trans (World.alloc_heap_new w _)
 have HE:=Lib.hid hE
 have HA0:=Lib.hid hA0
 have HA1:=Lib.hid hA1
 have HR:=Lib.hid hrows
 have HNEW:=Lib.hid hnew
 have hz1:=hE1.size
 simp only [World.size_alloc] at hz1
 obtain ⟨L,hL⟩:∃ L,L=divP b (zf ps):=⟨_,rfl⟩
 rw [← hL] at hl1 HR ⊢
 have HL:=Lib.hid hL
 clear hnew hE1 hrows hA1 hE hA0 hL t10 t11 t12 t13 t14 t15 hr4
 by_cases h0:L=[]
 ·subst h0
  have hA1:=HA1.out
  have hA0:=HA0.out
  have c0a:=(hA1).c0
  have c1a:=(hA1).c1
  have c2a:=(hA1).c2
  have c3a:=(hA1).c3
  have c4a:=(hA1).c4
  have c5a:=(hA1).c5
  have cfa:=fun o=>(hA1).fr o
  have cza:=(hA1).lt
  simp only at c0a c1a c2a c3a c4a c5a
  have c0r:=(hA0).c0
  have c1r:=(hA0).c1
  have c2r:=(hA0).c2
  have c3r:=(hA0).c3
  have c4r:=(hA0).c4
  have c5r:=(hA0).c5
  have cfr:=fun o=>(hA0).fr o
  have czr:=(hA0).lt
  simp only at c0r c1r c2r c3r c4r c5r
  clear hA1 hA0
  go_wp2_with fail
  refine bodyPost_ret (v:=accV ⟨I,K,D,0,0,N⟩) (by simp [results,Tryz.results32,go_sem,accV,accC,c0r,c1r,c2r,c3r,c4r,c5r]) rfl ?_
  have hA2:=HA2.out
  rw [if_pos HL.out.symm] at hA2
  rw [hA2]
  exact ⟨rfl,((((((HE.out.setCell (Nat.le_refl _) _).setCell (Nat.le_refl _) _).setCell (Nat.le_refl _) _).setCell (Nat.le_refl _) _).setCell (Nat.le_refl _) _).setCell (Nat.le_refl _) _)⟩
 have hne:¬ (L.length=0):=fun h=>h0 (List.eq_nil_of_length_eq_zero h)
 have f1:((L.length:Int) == 0)=false:=by rw [beq_eq_false_iff_ne];omega
 have f2:¬ ((L.length:Int)=0):=by omega
 have HL0:=Lib.hid h0
 clear h0
 go_wp2_with fail
 obtain ⟨ab,hab⟩:∃ ab,ab=w.heap.size+1:=⟨_,rfl⟩
 rw [← hab] at HA1 ⊢
 have hab1:w.heap.size < ab:=by omega
 have hab2:ab < w.heap.size+1+1:=by omega
 clear hab
 go_loopw [22] (fun iv W=>∃ k:Nat,k≤L.length∧iv = .int .i64 k∧AccAt W ab ⟨I,K,D,zen b (L.take k),0,N⟩∧Kept (fun j=>j≠ab) W1 W) (fun iv _=>L.length - (intOf iv).toNat)
 case atStart=>exact ⟨0,by omega,rfl,by simpa [zen] using HA1.out,Kept.refl _ _⟩
 case round =>
  obtain ⟨k,hk,rfl,hacc,hkp⟩:=hrel
  have hEw:Ext w wr:=HE.out.trans (Kept.below (hkp.mono (T:=fun j=>j < w.heap.size) fun j _ h=>by omega) HE.out.size)
  have HACC:=Lib.hid hacc
  have HKP:=Lib.hid hkp
  have HEW:=Lib.hid hEw
  by_cases hlt:k < L.length
  ·have hki:(k:Int) < (L.length:Int):=by omega
   obtain ⟨_,_,e,-,-,hcc⟩:=zob HR.out
   cases e
   rcases hcc with hcc | ⟨lb,lo,rfl,hcc⟩
   ·exact absurd hcc HL0.out
   obtain ⟨e0,e1,e2⟩:=hcc k hlt
   have hlb:ab < lb:=by have:=HNEW.out lb rfl;omega
   have d0:=hkp.cell e0 (by simp only;omega)
   have d1:=hkp.cell e1 (by simp only;omega)
   have d2:=hkp.cell e2 (by simp only;omega)
   obtain ⟨x0,hx0⟩:∃ x,x=L[k].1.1:=⟨_,rfl⟩
   obtain ⟨x1,hx1⟩:∃ x,x=L[k].1.2:=⟨_,rfl⟩
   obtain ⟨x2,hx2⟩:∃ x,x=L[k].2:=⟨_,rfl⟩
   rw [← hx0] at d0
   rw [← hx1] at d1
   rw [← hx2] at d2
   have hzl:=World.block_lt_of_cell? _ _ d0
   simp only at hzl
   have hpt:=zpw (b:=b) hlt
   have hxs:L[k].1=(x0,x1):=by rw [hx0,hx1]
   rw [hxs,← hx2] at hpt
   obtain ⟨u,hu⟩:∃ u,u=zz b (x0,x1):=⟨_,rfl⟩
   rw [← hu] at hpt
   have hb0:=zoa FV.out k
   have hb1:=zoa FV.out (k+1)
   rw [← HL.out] at hb0 hb1
   have h64:=zzw FV.out
   rw [← HL.out] at h64
   have hm:L[k]∈divP b (zf ps):=by rw [← HL.out];exact List.getElem_mem hlt
   have hpu:0≤x2 * u∧x2 * u≤11000000:=by
    unfold divP at hm
    obtain ⟨s,hs,e⟩:=List.mem_map.1 hm
    have h1:=zxv FV.out hs
    rw [← e] at hxs hx2
    simp only at hxs hx2
    subst hxs
    rw [hx2,hu]
    omega
   obtain ⟨A,hA⟩:∃ A,A=x2 * u:=⟨_,rfl⟩
   rw [← hA] at hpu hpt
   obtain ⟨P0,hP0⟩:∃ P0,P0=zen b (L.take k):=⟨_,rfl⟩
   rw [← hP0] at hb0 hpt hacc HACC
   rw [hpt] at hb1
   have hw1:IntKind.i64.wrap (x2 * u)=A:=by rw [← hA];exact IntWalk.i64_in _ (by omega)
   have hw2:IntKind.i64.wrap (P0+A)=P0+A:=IntWalk.i64_in _ (by omega)
   have ht:=HT.out.ext hEw
   have c9:=ht.till.c9
   have HTm:=Lib.hid ht
   have HPT:=Lib.hid hpt
   have HU:=Lib.hid hu
   clear hcc e0 e1 e2 hpt hm hA hP0 hu hxs hx0 hx1 hx2 hkp hEw ht hb0 hb1
   go_upto_region 8 with (fail)
   obtain ⟨Z,hZ⟩:∃ Z,Z=wr.alloc (.cells #[.int .i64 x0,.int .i64 x1,.int .i64 x2] 57):=⟨_,rfl⟩
   have hEZ:Ext wr Z:=by rw [hZ];exact xx
   have z0:Z.cell? ⟨wr.heap.size,0,none⟩=some (.int .i64 x0):=by rw [hZ];simp [go_sem]
   have z1:Z.cell? ⟨wr.heap.size,1,none⟩=some (.int .i64 x1):=by rw [hZ];simp [go_sem]
   have z2:Z.cell? ⟨wr.heap.size,2,none⟩=some (.int .i64 x2):=by rw [hZ];simp [go_sem]
   have hzZ:wr.heap.size < Z.heap.size:=by rw [hZ];simp
   rw [← hZ]
   have hAZ:=hacc.ext hEZ
   have a3:Z.cell? ⟨ab,3,none⟩=some (.int .i64 P0):=hAZ.c3
   have m9:=zb hEZ c9
   have haz:=hAZ.lt
   have hpz:p < Z.heap.size:=World.block_lt_of_cell? _ _ m9
   have HEZ:=Lib.hid hEZ
   have HAZ:=Lib.hid hAZ
   have HTZ:=Lib.hid (HTm.out.ext hEZ)
   clear hZ hEZ hAZ hacc c9 d0 d1 d2
   refine zas rfl rfl (by kernel_rfl) (Z.heap.size) (Nat.le_refl _)
    [sqV (.pointer (some ⟨ab,3,none⟩)),sqV (.int .i64 P0),sqV (.pointer (some ⟨wr.heap.size,2,none⟩)),sqV (.int .i64 x2),sqV (.pointer (some ⟨p,0,none⟩)),sqV (.pointer (some ⟨p,0,none⟩)),sqV (.pointer (some ⟨p,9,none⟩)),sqV (.map (some m)),sqV (.pointer (some ⟨wr.heap.size,0,none⟩)),sqV (.int .i64 x0),sqV (.pointer (some ⟨wr.heap.size,1,none⟩)),sqV (.int .i64 x1),sqV (.agg #[.int .i64 x0,.int .i64 x1]),sqV (.int .i64 u),sqV (.int .i64 A),sqV (.int .i64 (P0+A)),sqV (.pointer (some ⟨ab,3,none⟩))]
    [true,true,true,true,true,true,true,true,true,true,true,true,true,true,true,true,true] [false,false,false,false,false,false,false,false,false,false,false,false,false,false,false,false,false] [true,true,true,true,true,true,true,true,true,true,true,true,true,true,true,true,true] [true,true,true,true,true,true,true,true,true,true,true,true,true,true,true,true,true]
    (by kernel_rfl) (by kernel_rfl) (by decide +kernel) (by decide +kernel) (by decide +kernel) rfl ⟨rfl,rfl⟩ ⟨?s0,?s1,?s2,?s3,?s4,?s5,?s6,?s7,?s8,?s9,?s10,?s11,?s12,?s13,?s14,?s15,?s16,trivial⟩ [some 26,some 27,some 28,some 29,some 30,some 31,some 32,some 33,some 34,some 35,some 36,some 37,some 38,some 39,some 40,some 41,some 42] rfl rfl ?send
   case s0 =>
    intro val ρ W hE hz hd hA hx
    have o0:ρ (.tmp 5) = .pointer (some ⟨ab,0,none⟩):=hA.old 5 (by decide)
    clear hd
    exact zd (W':=W) (by simp [execOp,o0,go_sem]) (Below.refl _ _) rfl
   case s1 =>
    intro val ρ W hE hz hd hA hx
    have d0:ρ (.tmp 26) = .pointer (some ⟨ab,3,none⟩):=(hA.dep 0 (by decide) 26 rfl).trans (hd 0 (by decide))
    have f_a3:=cell_below hE (by simp only;omega) a3
    clear hd
    exact zd (W':=W) (by simp [execOp,d0,f_a3,go_sem]) (Below.refl _ _) rfl
   case s2 =>
    intro val ρ W hE hz hd hA hx
    have o0:ρ (.tmp 8) = .pointer (some ⟨wr.heap.size,0,none⟩):=hA.old 8 (by decide)
    clear hd
    exact zd (W':=W) (by simp [execOp,o0,go_sem]) (Below.refl _ _) rfl
   case s3 =>
    intro val ρ W hE hz hd hA hx
    have d2:ρ (.tmp 28) = .pointer (some ⟨wr.heap.size,2,none⟩):=(hA.dep 2 (by decide) 28 rfl).trans (hd 2 (by decide))
    have f_z2:=cell_below hE (by simp only;omega) z2
    clear hd
    exact zd (W':=W) (by simp [execOp,d2,f_z2,go_sem]) (Below.refl _ _) rfl
   case s4 =>
    intro val ρ W hE hz hd hA hx
    have o0:ρ (.tmp 0) = .pointer (some ⟨p,0,none⟩):=hA.old 0 (by decide)
    clear hd
    exact zd (W':=W) (by simp [execOp,o0,go_sem]) (Below.refl _ _) rfl
   case s5 =>
    intro val ρ W hE hz hd hA hx
    have d4:ρ (.tmp 30) = .pointer (some ⟨p,0,none⟩):=(hA.dep 4 (by decide) 30 rfl).trans (hd 4 (by decide))
    clear hd
    exact zd (W':=W) (by simp [execOp,d4,go_sem]) (Below.refl _ _) rfl
   case s6 =>
    intro val ρ W hE hz hd hA hx
    have d5:ρ (.tmp 31) = .pointer (some ⟨p,0,none⟩):=(hA.dep 5 (by decide) 31 rfl).trans (hd 5 (by decide))
    clear hd
    exact zd (W':=W) (by simp [execOp,d5,go_sem]) (Below.refl _ _) rfl
   case s7 =>
    intro val ρ W hE hz hd hA hx
    have d6:ρ (.tmp 32) = .pointer (some ⟨p,9,none⟩):=(hA.dep 6 (by decide) 32 rfl).trans (hd 6 (by decide))
    have f_m9:=cell_below hE (by simp only;omega) m9
    clear hd
    exact zd (W':=W) (by simp [execOp,d6,f_m9,go_sem]) (Below.refl _ _) rfl
   case s8 =>
    intro val ρ W hE hz hd hA hx
    have o0:ρ (.tmp 8) = .pointer (some ⟨wr.heap.size,0,none⟩):=hA.old 8 (by decide)
    clear hd
    exact zd (W':=W) (by simp [execOp,o0,go_sem]) (Below.refl _ _) rfl
   case s9 =>
    intro val ρ W hE hz hd hA hx
    have d8:ρ (.tmp 34) = .pointer (some ⟨wr.heap.size,0,none⟩):=(hA.dep 8 (by decide) 34 rfl).trans (hd 8 (by decide))
    have f_z0:=cell_below hE (by simp only;omega) z0
    clear hd
    exact zd (W':=W) (by simp [execOp,d8,f_z0,go_sem]) (Below.refl _ _) rfl
   case s10 =>
    intro val ρ W hE hz hd hA hx
    have o0:ρ (.tmp 8) = .pointer (some ⟨wr.heap.size,0,none⟩):=hA.old 8 (by decide)
    clear hd
    exact zd (W':=W) (by simp [execOp,o0,go_sem]) (Below.refl _ _) rfl
   case s11 =>
    intro val ρ W hE hz hd hA hx
    have d10:ρ (.tmp 36) = .pointer (some ⟨wr.heap.size,1,none⟩):=(hA.dep 10 (by decide) 36 rfl).trans (hd 10 (by decide))
    have f_z1:=cell_below hE (by simp only;omega) z1
    clear hd
    exact zd (W':=W) (by simp [execOp,d10,f_z1,go_sem]) (Below.refl _ _) rfl
   case s12 =>
    intro val ρ W hE hz hd hA hx
    have d9:ρ (.tmp 35) = .int .i64 x0:=(hA.dep 9 (by decide) 35 rfl).trans (hd 9 (by decide))
    have d11:ρ (.tmp 37) = .int .i64 x1:=(hA.dep 11 (by decide) 37 rfl).trans (hd 11 (by decide))
    clear hd
    exact zd (W':=W) (by simp [execOp,d9,d11,go_sem]) (Below.refl _ _) rfl
   case s14 =>
    intro val ρ W hE hz hd hA hx
    have d3:ρ (.tmp 29) = .int .i64 x2:=(hA.dep 3 (by decide) 29 rfl).trans (hd 3 (by decide))
    have d13:ρ (.tmp 39) = .int .i64 u:=(hA.dep 13 (by decide) 39 rfl).trans (hd 13 (by decide))
    clear hd
    exact zd (W':=W) (by simp [execOp,d3,d13,hw1,go_sem]) (Below.refl _ _) rfl
   case s15 =>
    intro val ρ W hE hz hd hA hx
    have d1:ρ (.tmp 27) = .int .i64 P0:=(hA.dep 1 (by decide) 27 rfl).trans (hd 1 (by decide))
    have d14:ρ (.tmp 40) = .int .i64 A:=(hA.dep 14 (by decide) 40 rfl).trans (hd 14 (by decide))
    clear hd
    exact zd (W':=W) (by simp [execOp,d1,d14,hw2,go_sem]) (Below.refl _ _) rfl
   case s16 =>
    intro val ρ W hE hz hd hA hx
    have o0:ρ (.tmp 5) = .pointer (some ⟨ab,0,none⟩):=hA.old 5 (by decide)
    clear hd
    exact zd (W':=W) (by simp [execOp,o0,go_sem]) (Below.refl _ _) rfl
   case s13 =>
    intro val ρ W hE hz hd hA hx
    have d7:ρ (.tmp 33) = .map (some m):=(hA.dep 7 (by decide) 33 rfl).trans (hd 7 (by decide))
    have d12:ρ (.tmp 38) = .agg #[.int .i64 x0,.int .i64 x1]:=(hA.dep 12 (by decide) 38 rfl).trans (hd 12 (by decide))
    have hl:=zsd (HTZ.out.ext (hx (by decide))).map (x0,x1)
    simp only [skey] at hl
    rw [show sumB (za8 b (x0,x1)) b.bets=u from HU.out.symm] at hl
    exact zd (W':=W) (by simp [execOp,d7,d12,hl,go_sem]) (Below.refl _ _) rfl
   case send =>
    intro val WW hE hzz hv
    obtain ⟨-,-,-,-,-,-,-,-,-,-,-,-,-,-,-,r15,r16,-⟩:=hv
    have q15:val 15 = .int .i64 (P0+A):=r15
    have q16:val 16 = .pointer (some ⟨ab,3,none⟩):=r16
    have hAW:=HAZ.out.ext hE
    have v3:WW.cell? ⟨ab,3,none⟩=some (.int .i64 P0):=hAW.c3
    have vf:=hAW.fr 3
    have hk2:Kept (fun j=>j≠ab) W1 (WW.setCell ⟨ab,3,none⟩ (.int .i64 (P0+A))):=(HKP.out.trans (Kept.of_below (HEZ.out.trans' hE))).setCell (fun _ h=>h rfl) _
    have HAN:=Lib.hid (hAW.setP (P0+A))
    have HKN:=Lib.hid hk2
    simp only [putD,q15,q16]
    go_frame
    clear r15 r16 q15 q16 hAW hk2 hE hzz a3 z0 z1 z2 m9
    go_wp2_with fail
    go_roundw
    case rel=>exact ⟨k+1,by omega,by go_num,by rw [HPT.out];exact HAN.out,HKN.out⟩
    case measure=>simp [intOf];omega
  ·have hki:¬ ((k:Int) < (L.length:Int)):=by omega
   have hke:k=L.length:=by omega
   rw [hke,List.take_length] at hacc
   have h64:=zzw FV.out
   have hb:=zoa FV.out L.length
   rw [← HL.out] at h64 hb
   rw [List.take_length] at hb
   obtain ⟨P0,hP0⟩:∃ P0,P0=zen b L:=⟨_,rfl⟩
   rw [← hP0] at hacc hb
   have hA0:AccAt wr w.heap.size ⟨0,0,0,0,0,0⟩:=(hkp.same _ HA0.out.lt (by omega)).trans HA0.out
   have hw1:IntKind.i64.wrap (N - P0)=N - P0:=IntWalk.i64_in _ (by omega)
   have c0a:=(hacc).c0
   have c1a:=(hacc).c1
   have c2a:=(hacc).c2
   have c3a:=(hacc).c3
   have c4a:=(hacc).c4
   have c5a:=(hacc).c5
   have cfa:=fun o=>(hacc).fr o
   have cza:=(hacc).lt
   simp only at c0a c1a c2a c3a c4a c5a
   have c0r:=(hA0).c0
   have c1r:=(hA0).c1
   have c2r:=(hA0).c2
   have c3r:=(hA0).c3
   have c4r:=(hA0).c4
   have c5r:=(hA0).c5
   have cfr:=fun o=>(hA0).fr o
   have czr:=(hA0).lt
   simp only at c0r c1r c2r c3r c4r c5r
   have HP0:=Lib.hid hP0
   clear hke hacc hA0 hkp hEw hP0 hb
   go_wp2_with fail
   refine bodyPost_ret (v:=accV ⟨I,K,D,P0,N - P0,0⟩) (by simp [results,Tryz.results32,go_sem,accV,accC,c0r,c1r,c2r,c3r,c4r,c5r]) rfl ?_
   have hA2:=HA2.out
   rw [if_neg (fun h=>HL0.out (HL.out.trans h)),show zo8 b (zf ps)=P0 by rw [HP0.out,HL.out];rfl] at hA2
   rw [hA2]
   exact ⟨rfl,((((((((HEW.out.setCell (Nat.le_of_lt hab1) _).setCell (Nat.le_of_lt hab1) _).setCell (Nat.le_refl _) _).setCell (Nat.le_refl _) _).setCell (Nat.le_refl _) _).setCell (Nat.le_refl _) _).setCell (Nat.le_refl _) _).setCell (Nat.le_refl _) _)⟩
theorem zxw {w W:World} (h:Ext w W) {g:Nat} (hg:w.heap.size≤g) (a b c d e f:Value):Ext w ((((((W.setCell ⟨g,0,none⟩ a).setCell ⟨g,1,none⟩ b).setCell ⟨g,2,none⟩ c).setCell ⟨g,3,none⟩ d).setCell ⟨g,4,none⟩ e).setCell ⟨g,5,none⟩ f) :=
 (((((h.setCell hg _).setCell hg _).setCell hg _).setCell hg _).setCell hg _).setCell hg _
def accE (b:Bk) (fs:List (List Int)):Value:=.tuple #[accV (if za2 b fs=0 then accA b fs else ⟨0,0,0,0,0,0⟩),.int .i64 (za2 b fs)]
theorem z6c {b:Bk} {fs:List (List Int)} {er:Int} (h:er=za2 b fs) (hne:er≠0):accE b fs = .tuple #[accV ⟨0,0,0,0,0,0⟩,.int .i64 er]:=by
 unfold accE;rw [← h,if_neg hne]
theorem z8i {b:Bk} {fs:List (List Int)} (h:za2 b fs=0):accE b fs = .tuple #[accV (accA b fs),.int .i64 0]:=by
 unfold accE;rw [h,if_pos rfl]
set_option maxRecDepth 100000 in
set_option maxHeartbeats 1000000 in
theorem zyn (ps:List (Value × List Int)) (fv:Value) (b:Bk) (ba sa:Option Addr) (bcap scap:Nat) (w:World) (hv:IsBook w b ba bcap sa scap) (hf:IsFin w fv ps) :
  Calls Tryz.prog 8 #[.agg #[.int .i64 b.kd,.int .i64 b.n,.slice ba b.bets.length bcap,.slice sa b.scr.length scap,.bool b.fav,.int .i64 b.car,.int .i64 b.duty,.int .i64 b.step],fv] w fun e w'=>e = .returned (accE b (zf ps))∧Ext w w':=by
 obtain ⟨fa,fcap,rfl,hf1,hf2,-⟩:=hf.spec
 have HF0:=Lib.hid hf
 have HV:=Lib.hid hv
 clear hf hv
 go_enter Tryz.func8,Tryz.ntmps8
 go_wp2_with fail
 refine (zn8 ps _ b ba sa bcap scap _ (HV.out.ext (by exact xx)) (HF0.out.ext (by exact xx))).mono ?_
 have hA0:AccAt ((w.alloc (.cells #[.int .i64 b.kd,.int .i64 b.n,.slice ba b.bets.length bcap,.slice sa b.scr.length scap,.bool b.fav,.int .i64 b.car,.int .i64 b.duty,.int .i64 b.step] 25)).alloc (.cells #[.int .i64 0,.int .i64 0,.int .i64 0,.int .i64 0,.int .i64 0,.int .i64 0] 38)) (w.heap.size+1) ⟨0,0,0,0,0,0⟩:=by
  have:=World.alloc_heap_new (w.alloc (.cells #[.int .i64 b.kd,.int .i64 b.n,.slice ba b.bets.length bcap,.slice sa b.scr.length scap,.bool b.fav,.int .i64 b.car,.int .i64 b.duty,.int .i64 b.step] 25)) (.cells #[.int .i64 0,.int .i64 0,.int .i64 0,.int .i64 0,.int .i64 0,.int .i64 0] 38)
  rwa [World.size_alloc] at this
 rintro e W1 ⟨hE1,⟨hne,rfl⟩ | ⟨h0,p,m,rfl,hp,hT⟩⟩
 ·obtain ⟨er,her⟩:∃ er,er=za2 b (zf ps):=⟨_,rfl⟩
  rw [← her] at hne ⊢
  have f1:(er != 0)=true:=by simpa using hne
  have HE1:=Lib.hid (Ext.trans' (by exact xx) hE1:Ext w W1)
  have HER:=Lib.hid her
  have HNE:=Lib.hid hne
  have hA1:=hA0.ext hE1
  have c0r:=(hA1).c0
  have c1r:=(hA1).c1
  have c2r:=(hA1).c2
  have c3r:=(hA1).c3
  have c4r:=(hA1).c4
  have c5r:=(hA1).c5
  have cfr:=fun o=>(hA1).fr o
  have czr:=(hA1).lt
  simp only at c0r c1r c2r c3r c4r c5r
  clear her hne hE1 hA0 hA1
  go_wp2_with fail
  refine bodyPost_ret (v:=.tuple #[accV ⟨0,0,0,0,0,0⟩,.int .i64 er]) (by simp [results,Tryz.results8,go_sem,accV,accC,c0r,c1r,c2r,c3r,c4r,c5r]) rfl ?_
  refine ⟨congrArg _ (z6c HER.out HNE.out).symm,?_⟩
  exact zxw HE1.out (Nat.le_succ _) _ _ _ _ _ _
 ·have HE1:=Lib.hid (Ext.trans' (by exact xx) hE1:Ext w W1)
  have H0:=Lib.hid h0
  have HT1:=Lib.hid hT
  have HF1:=Lib.hid (HF0.out.ext HE1.out)
  have HA1:=Lib.hid (hA0.ext hE1)
  clear hE1 h0 hT hA0 HF0 HV
  go_wp2_with fail
  refine (z1o p m b ba sa fa bcap scap fcap ps _ HT1.out HF1.out (zzu H0.out)).mono ?_
  rintro e W2 ⟨rfl,hE2⟩
  obtain ⟨A,hA⟩:∃ A,A=accA b (zf ps):=⟨_,rfl⟩
  rw [← hA]
  have HA:=Lib.hid hA
  have hA1:=HA1.out.ext hE2
  have c0r:=(hA1).c0
  have c1r:=(hA1).c1
  have c2r:=(hA1).c2
  have c3r:=(hA1).c3
  have c4r:=(hA1).c4
  have c5r:=(hA1).c5
  have cfr:=fun o=>(hA1).fr o
  have czr:=(hA1).lt
  simp only at c0r c1r c2r c3r c4r c5r
  have HE2:=Lib.hid (HE1.out.trans' hE2)
  simp only [accV,accC]
  clear hA hA1 hE2
  go_wp2_with fail
  refine bodyPost_ret (v:=.tuple #[accV A,.int .i64 0]) (by simp [results,Tryz.results8,go_sem,accV,accC,c0r,c1r,c2r,c3r,c4r,c5r]) rfl ?_
  refine ⟨by rw [z8i H0.out,HA.out],zxw HE2.out (Nat.le_succ _) _ _ _ _ _ _⟩
def zfm (b:Bk) (fs:List (List Int)):Int:=if za2 b fs≠0 then za2 b fs else if divP b fs=[] then 19 else 0
def divL (b:Bk) (fs:List (List Int)):List Dvd:=if za2 b fs=0 then divP b fs else []
def RetDiv (w:World) (b:Bk) (fs:List (List Int)) (e:Ending) (w':World):Prop :=
 Ext w w'∧∃ v,e = .returned (.tuple #[v,.int .i64 (zfm b fs)])∧IsRows w' 3 v ((divL b fs).map zdi)
set_option maxRecDepth 100000 in
set_option maxHeartbeats 1000000 in
theorem zs9 (ps:List (Value × List Int)) (fv:Value) (b:Bk) (ba sa:Option Addr) (bcap scap:Nat) (w:World) (hv:IsBook w b ba bcap sa scap) (hf:IsFin w fv ps) :
  Calls Tryz.prog 15 #[.agg #[.int .i64 b.kd,.int .i64 b.n,.slice ba b.bets.length bcap,.slice sa b.scr.length scap,.bool b.fav,.int .i64 b.car,.int .i64 b.duty,.int .i64 b.step],fv] w (RetDiv w b (zf ps)):=by
 obtain ⟨fa,fcap,rfl,hf1,hf2,-⟩:=hf.spec
 have HF0:=Lib.hid hf
 have HV:=Lib.hid hv
 clear hf hv
 go_enter Tryz.func15,Tryz.ntmps15
 go_wp2_with fail
 refine (zn8 ps _ b ba sa bcap scap _ (HV.out.ext (by exact xx)) (HF0.out.ext (by exact xx))).mono ?_
 rintro e W1 ⟨hE1,⟨hne,rfl⟩ | ⟨h0,p,m,rfl,hp,hT⟩⟩
 ·obtain ⟨er,her⟩:∃ er,er=za2 b (zf ps):=⟨_,rfl⟩
  rw [← her] at hne ⊢
  have f1:(er != 0)=true:=by simpa using hne
  have HE1:=Lib.hid (Ext.trans' (by exact xx) hE1:Ext w W1)
  have HER:=Lib.hid her
  have HNE:=Lib.hid hne
  clear her hne hE1
  go_wp2_with fail
  refine bodyPost_ret (v:=.tuple #[.slice none 0 0,.int .i64 er]) (by simp [results,Tryz.results15,go_sem]) rfl ?_
  have e1:zfm b (zf ps)=er:=by unfold zfm;rw [← HER.out,if_pos HNE.out]
  have e2:divL b (zf ps)=[]:=by unfold divL;rw [← HER.out,if_neg HNE.out]
  exact ⟨HE1.out,_,by rw [e1],by rw [e2];exact ⟨none,0,rfl,by simp,by simp,.inl rfl⟩⟩
 ·have HE1:=Lib.hid (Ext.trans' (by exact xx) hE1:Ext w W1)
  have H0:=Lib.hid h0
  have HT1:=Lib.hid hT
  have HF1:=Lib.hid (HF0.out.ext HE1.out)
  clear hE1 h0 hT HF0 HV
  go_wp2_with fail
  refine (zmu p m b ba sa fa bcap scap fcap ps _ HT1.out HF1.out (zzu H0.out)).mono ?_
  rintro e W2 ⟨v,rfl,hE2,hrows,-⟩
  obtain ⟨la,lc,rfl,hl1,hl2,-⟩:=zob hrows
  have HE2:=Lib.hid (HE1.out.trans' hE2)
  obtain ⟨L,hL⟩:∃ L,L=divP b (zf ps):=⟨_,rfl⟩
  rw [← hL] at hrows ⊢
  have HL:=Lib.hid hL
  have HR:=Lib.hid hrows
  have HLL:Hid (divL b (zf ps)=L):=Lib.hid (by unfold divL;rw [if_pos H0.out,HL.out])
  clear hE2 hL hrows hl1 hl2
  by_cases hl:L=[]
  ·have e1:Hid (zfm b (zf ps)=19):=Lib.hid (by unfold zfm;rw [if_neg (fun h=>h H0.out),if_pos (by rw [← HL.out];exact hl)])
   have f1:((L.length:Int) == 0)=true:=by rw [hl];rfl
   have f2:L.length=0:=by rw [hl];rfl
   have HL0:=Lib.hid hl
   clear hl
   go_wp2_with fail
   refine bodyPost_ret (v:=.tuple #[.slice none 0 0,.int .i64 19]) (by simp [results,Tryz.results15,go_sem]) rfl ?_
   exact ⟨HE2.out,_,by rw [e1.out],by rw [HLL.out,HL0.out];exact ⟨none,0,rfl,by simp,by simp,.inl rfl⟩⟩
  ·have e1:Hid (zfm b (zf ps)=0):=Lib.hid (by unfold zfm;rw [if_neg (fun h=>h H0.out),if_neg (by rw [← HL.out];exact hl)])
   have hne:¬ (L.length=0):=fun h=>hl (List.eq_nil_of_length_eq_zero h)
   have f1:((L.length:Int) == 0)=false:=by rw [beq_eq_false_iff_ne];omega
   have f2:¬ ((L.length:Int)=0):=by omega
   clear hl
   go_wp2_with fail
   refine bodyPost_ret (v:=.tuple #[.slice la L.length lc,.int .i64 0]) (by simp [results,Tryz.results15,go_sem]) rfl ?_
   exact ⟨HE2.out,_,by rw [e1.out],by rw [HLL.out];exact HR.out⟩
end Go.Proofs.YtkbaiobnibmmgaaGreat
