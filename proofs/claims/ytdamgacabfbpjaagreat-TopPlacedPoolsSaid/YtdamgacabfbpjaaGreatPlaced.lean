/-
  The statement TopPlacedPools holds: from heats to pools: groups of runners by their places are a finish of a pool, those in place 1 win it, those in place 1 or 2 are placed, and the pairs that win are of the first two. For every race, and a finish by numbers. No condition.
-/
import Derived.Test.YtdamgacabfbpjaaGreatLy
import Derived.Test.YtdamgacabfbpjaaGreatHd
import Derived.Test.YtdamgacabfbpjaaGreatHc
import Derived.Test.YtdamgacabfbpjaaGreatBc
namespace Go.Proofs.YtdamgacabfbpjaaGreat
open Go.RowKit Go.Shelf
theorem z0x {w:World} {sa:Option Addr} {n cap:Nat} {l:List Int} (h:IsInts w .i64 (.slice sa n cap) l) {i:Nat} (hi:i < l.length):∃ sb off,sa=some ⟨sb,off,none⟩∧∀ i,i < l.length→∀ W,Ext w W→W.cell? ⟨sb,off+i,none⟩=some (.int .i64 (pl l i)):=by
 obtain ⟨_,_,e0,-,-,hc⟩:=h.spec
 cases e0
 rcases hc with h0 | ⟨sb,off,rfl,hc⟩
 ·rw [h0] at hi;simp at hi
 ·refine ⟨sb,off,rfl,fun i hi W e=>?_⟩
  have c0:=zb e (hc i hi)
  rw [← znd hi] at c0
  exact c0
theorem z3m {w:World} {sa:Option Addr} {n cap:Nat} {l:List Spt} (h:IsRows w 2 (.slice sa n cap) (l.map zbk)) {i:Nat} (hi:i < l.length):∃ lb lo,sa=some ⟨lb,lo,none⟩∧∀ i,(h:i < l.length)→∀ W,Ext w W →
  W.cell? ⟨lb,lo+i * 2,none⟩=some (.int .i64 l[i].1)∧W.cell? ⟨lb,lo+i * 2+1,none⟩=some (.int .i64 l[i].2):=by
 obtain ⟨_,_,e0,-,-,hc⟩:=zf1 h
 cases e0
 rcases hc with h0 | ⟨lb,lo,rfl,hc⟩
 ·rw [h0] at hi;simp at hi
 ·exact ⟨lb,lo,rfl,fun i hi W e=>⟨zb e (hc i hi).1,zb e (hc i hi).2⟩⟩
def TheFin (h:Rc) (X:World) (v:Value) (W:World):Prop:=∃ f fa fc,v = .slice fa f.length fc∧f∈agrL h∧IsInts W .i64 v f∧Ext X W
set_option maxRecDepth 200000 in
set_option maxHeartbeats 8000000 in
theorem zne (h:Rc) (sa:Option Addr) (cap:Nat) (nv:Value) (bs:List Int) (w:World) (hv:IsWds w (.slice sa h.ws.length cap) h.ws) (hb:IsRows w 1 nv (bs.map fun n=>[.int .u8 n])) (_:∀ x∈bs,(Lit.int .u8 x).wf=true) :
  Calls Tryz.prog 3 #[.agg #[.int .i64 h.n,.slice sa h.ws.length cap],nv] w fun e w'=>e = .returned (.bool true)∧Ext w w':=by
 have hbI:IsInts w .u8 nv bs:=hb
 obtain ⟨na,nc,rfl,hn1,hn2,-⟩:=hbI.spec
 have HN:=Lib.hid hbI
 have HV:=Lib.hid hv
 clear hb hbI hv
 go_enter Tryz.func3,Tryz.ntmps3
 go_upto_region 1 with (fail)
 obtain ⟨W0,hW0⟩:∃ W0,W0=w.alloc (.cells #[.int .i64 h.n,.slice sa h.ws.length cap] 24):=⟨_,rfl⟩
 have hE:Ext w W0:=by rw [hW0];exact xx
 have k0:W0.cell? ⟨w.heap.size,0,none⟩=some (.int .i64 h.n):=by rw [hW0];simp [go_sem]
 have k1:W0.cell? ⟨w.heap.size,1,none⟩=some (.slice sa h.ws.length cap):=by rw [hW0];simp [go_sem]
 have hz:w.heap.size < W0.heap.size:=World.block_lt_of_cell? _ _ k0
 have HW:=Lib.hid hE
 replace HV:=Lib.hid (HV.out.ext hE)
 replace HN:=Lib.hid (HN.out.ext hE)
 rw [← hW0]
 clear hW0 hE
 go_wp2_with fail
 refine zw (W0:=W0) (g:=⟨W0,Below.refl _ _⟩) xx (z0s h sa cap _ (HV.out.ext xx)) fun g1 hgr=>?_
 clear hgr
 by_cases h0:zai h=0
 case neg =>
  have e1:(zai h == 0)=false:=by simpa using h0
  clear h0
  go_wp2_with fail
  refine zw (W0:=W0) (g:=g1) xx (zgh _) fun g2 hgr=>?_
  clear hgr
  go_wp2_with fail
  go_ret
  exact ⟨rfl,HW.out.trans' (zh W0 _)⟩
 have e1:(zai h == 0)=true:=by simpa using h0
 have V:=Lib.hid (zfl h0)
 have H0:=Lib.hid h0
 clear h0
 by_cases hl:20 < bs.length
 ·have hli:(20:Int) < (bs.length:Int):=by omega
  clear hl
  go_wp2_with fail
  refine zw (W0:=W0) (g:=g1) xx (zgh _) fun g3 hgr=>?_
  clear hgr
  go_wp2_with fail
  go_ret
  exact ⟨rfl,HW.out.trans' (zh W0 _)⟩
 have hli:¬ ((20:Int) < (bs.length:Int)):=by omega
 clear hl
 obtain ⟨n,hn⟩:∃ n:Nat,h.n=n:=⟨h.n.toNat,by have:=V.out.n1;omega⟩
 have hn2':2≤n:=by have:=V.out.n1;omega
 have hn5':n≤5:=by have:=V.out.n5;omega
 have t1:∀ W,IsInts W .u8 (.slice na bs.length nc) bs→Calls Tryz.prog 7 #[.int .i64 h.n,.slice na bs.length nc] W fun e w'=>∃ (f:List Int) (sv:Value),e = .returned sv∧Ext W w'∧IsInts w' .i64 sv f∧f.length=n:=fun W hI=>by rw [hn];exact zw1 n bs _ W hI hn5'
 have T1:=Lib.hid t1
 have HNN:=Lib.hid hn
 clear t1 hn
 go_wp2_with fail
 refine ze3 (W0:=W0) (g:=g1) xx (T1.out _ (HN.out.ext xx)) (fun _ _ ⟨_,_,_,r,_⟩=>r) fun _ g4 hgr hr=>?_
 obtain ⟨f0,fv0,rfl,-,hf0,hfl0⟩:=hr
 clear hgr
 obtain ⟨fa0,fc0,rfl,-,-,-⟩:=hf0.spec
 have HF0:=Lib.hid hf0
 clear hf0 hfl0
 go_upto_region 4 with (fail)
 obtain ⟨X,hX⟩:∃ zz9,zz9=(grow W0 g4):=⟨_,rfl⟩
 have eX:Ext W0 X:=by rw [hX];exact xx
 have eXc:Ext (grow W0 g4) X:=by rw [hX];exact xx
 replace k0:=zb eX k0
 replace k1:=zb eX k1
 replace HV:=Lib.hid (HV.out.ext eX)
 replace HN:=Lib.hid (HN.out.ext eX)
 replace HF0:=Lib.hid (HF0.out.ext eXc)
 replace HW:=Lib.hid (HW.out.trans' eX)
 rw [← hX]
 replace hz:=World.block_lt_of_cell? _ _ k0
 clear hX eX eXc
 go_wp2_with fail
 refine zw (W0:=X) (g:=⟨X,Below.refl _ _⟩) xx (zw0 h sa cap f0 _ _ (HV.out.ext xx) (HF0.out.ext xx)) fun g5 hgr=>?_
 clear hgr
 go_upto_if 41 with (fail)
 go_cut [5] from 25 (fun fv W=>TheFin h X fv W)
 case first =>
  by_cases hc:zbe h f0=0
  ·have hci:(zbe h f0 != 0)=false:=by simpa using hc
   have HC:=Lib.hid hc
   clear hc
   go_wp2_with fail
   go_meet
   exact ⟨f0,fa0,fc0,rfl,(z7o HC.out).2,HF0.out.ext (zh X _),zh X _⟩
  ·have hci:(zbe h f0 != 0)=true:=by simpa using hc
   clear hc
   go_wp2_with fail
   refine ze3 (W0:=X) (g:=g5) xx (zx2 h sa cap _ (HV.out.ext xx) H0.out) (fun _ _ ⟨_,_,r,_⟩=>r) fun _ g6 hgr hr=>?_
   obtain ⟨lv,rfl,-,hlv⟩:=hr
   clear hgr
   obtain ⟨la,lc,rfl,-,-,-⟩:=hlv.spec
   have HLV:=Lib.hid hlv
   clear hlv
   by_cases ha:zaq h=0
   ·have hai:(zaq h != 0)=false:=by simpa using ha
    have HA:=Lib.hid ha
    clear ha
    go_wp2_with fail
    go_meet
    exact ⟨finH h,la,lc,rfl,z5h HA.out,HLV.out,zh X _⟩
   ·have hai:(zaq h != 0)=true:=by simpa using ha
    have hae:(zaq h == 22)=true:=by
     rw [beq_iff_eq]
     unfold zaq at ha ⊢
     split at ha
     ·rename_i h1
      rw [if_pos h1]
     ·exact absurd rfl ha
    clear ha
    go_wp2_with fail
    refine zw (W0:=X) (g:=g6) xx (zgh _) fun g7 hgr=>?_
    clear hgr
    go_wp2_with fail
    go_ret
    exact ⟨rfl,HW.out.trans' (zh X _)⟩
 case rest =>
  obtain ⟨f,fa,fc,rfl,hfm,hfi,hEX⟩:=hcut
  obtain ⟨Y,rfl⟩:∃ Y,Y=wc:=⟨_,rfl⟩
  replace k0:=zb hEX k0
  replace k1:=zb hEX k1
  replace hz:=World.block_lt_of_cell? _ _ k0
  simp only at hz
  replace HW:=Lib.hid (HW.out.trans' hEX)
  replace HV:=Lib.hid (HV.out.ext hEX)
  have HF:=Lib.hid hfi
  have HFM:=Lib.hid hfm
  have hfin:zaj n f=true:=by
   have h1:=(mem_agr.1 hfm).1
   rw [show h.n.toNat=n by have:=HNN.out;omega] at h1
   exact h1
  have hfl:=zh5 hfin
  have HFIN:=Lib.hid hfin
  have HFL:=Lib.hid hfl
  have t2:=fun W h1 h2=>zui h sa cap f (.slice fa f.length fc) W h1 h2
  rw [z7n hfm H0.out V.out.n1] at t2
  have T2:=Lib.hid t2
  have HG5:Hid (f.length≤5):=Lib.hid (by rw [hfl];exact hn5')
  clear t2 hEX hfi hfm hfin hfl HN HF0 T1 e1 hli hn1 hn2
  go_wp2_with fail
  refine zw (W0:=Y) (g:=⟨Y,Below.refl _ _⟩) xx (T2.out _ (HV.out.ext xx) (HF.out.ext xx)) fun g1 hgr=>?_
  clear hgr
  go_wp2_with fail
  refine ze3 (W0:=Y) (g:=g1) xx (zw4 f _ _ (HF.out.ext xx) HG5.out) (fun _ _ ⟨_,_,_,r,_⟩=>r) fun _ g2 hgr hr=>?_
  obtain ⟨gv,ps,rfl,-,hll,hps⟩:=hr
  clear hgr
  have hgf:=hll.fin
  obtain ⟨ga,gc,rfl,-,-,-⟩:=hgf.spec
  have HG:=Lib.hid hgf
  rw [HFL.out] at hps
  have HPS:=Lib.hid hps
  clear hll hgf hps
  have t3:∀ kd:Int,0≤kd∧kd≤3→∀ W,IsFin W (.slice ga ps.length gc) ps→Calls Tryz.prog 12 #[.agg #[.int .i64 kd,.int .i64 h.n,.slice none 0 0,.slice none 0 0,.bool false,.int .i64 0,.int .i64 0,.int .i64 1],.slice ga ps.length gc] W fun e w'=>Ext W w'∧∃ v,e = .returned (.tuple #[v,.int .i64 0])∧IsRows w' 2 v ((winL (bkZ kd n) (zam f n)).map zbk):=fun kd hk W hI=>by
   have h1:=zwp ps (.slice ga ps.length gc) (bkZ kd n) none none 0 0 W (z8s W kd n) hI
   unfold RetWin at h1
   rw [HPS.out,zsd hn2' hn5' HFIN.out hk] at h1
   rw [HNN.out]
   exact h1
  have T3:=Lib.hid t3
  clear t3
  go_wp2_with fail
  refine ze3 (W0:=Y) (g:=g2) xx (T3.out 0 (by omega) _ (HG.out.ext xx)) (fun _ _ h=>h.1) fun _ g3 hgr hr=>?_
  obtain ⟨-,v0,rfl,hr0⟩:=hr
  replace HG:=Lib.hid (HG.out.ext hgr)
  clear hgr
  obtain ⟨L0,hL0⟩:∃ L,L=winL (bkZ 0 n) (zam f n):=⟨_,rfl⟩
  rw [← hL0] at hr0
  obtain ⟨a0,c0,rfl,-,-,-⟩:=zf1 hr0
  have Hw0:=Lib.hid hr0
  have HL0:=Lib.hid hL0
  clear hr0 hL0
  go_wp2_with fail
  refine ze3 (W0:=Y) (g:=g3) xx (T3.out 1 (by omega) _ (HG.out.ext xx)) (fun _ _ h=>h.1) fun _ g4 hgr hr=>?_
  obtain ⟨-,v1,rfl,hr1⟩:=hr
  replace HG:=Lib.hid (HG.out.ext hgr)
  replace Hw0:=Lib.hid (Hw0.out.ext hgr)
  clear hgr
  obtain ⟨L1,hL1⟩:∃ L,L=winL (bkZ 1 n) (zam f n):=⟨_,rfl⟩
  rw [← hL1] at hr1
  obtain ⟨a1,c1,rfl,-,-,-⟩:=zf1 hr1
  have Hw1:=Lib.hid hr1
  have HL1:=Lib.hid hL1
  clear hr1 hL1
  go_wp2_with fail
  refine ze3 (W0:=Y) (g:=g4) xx (T3.out 2 (by omega) _ (HG.out.ext xx)) (fun _ _ h=>h.1) fun _ g5 hgr hr=>?_
  obtain ⟨-,v2,rfl,hr2⟩:=hr
  replace HG:=Lib.hid (HG.out.ext hgr)
  replace Hw0:=Lib.hid (Hw0.out.ext hgr)
  replace Hw1:=Lib.hid (Hw1.out.ext hgr)
  clear hgr
  obtain ⟨L2,hL2⟩:∃ L,L=winL (bkZ 2 n) (zam f n):=⟨_,rfl⟩
  rw [← hL2] at hr2
  obtain ⟨a2,c2,rfl,-,-,-⟩:=zf1 hr2
  have Hw2:=Lib.hid hr2
  have HL2:=Lib.hid hL2
  clear hr2 hL2
  go_upto_region 15 with (fail)
  obtain ⟨Z,hZ⟩:∃ zz9,zz9=(grow Y g5):=⟨_,rfl⟩
  have eZ:Ext Y Z:=by rw [hZ];exact xx
  have eZc:Ext (grow Y g5) Z:=by rw [hZ];exact xx
  replace k0:=zb eZ k0
  replace k1:=zb eZ k1
  replace HV:=Lib.hid (HV.out.ext eZ)
  replace HF:=Lib.hid (HF.out.ext eZ)
  replace HG:=Lib.hid (HG.out.ext eZc)
  replace Hw0:=Lib.hid (Hw0.out.ext eZc)
  replace Hw1:=Lib.hid (Hw1.out.ext eZc)
  replace Hw2:=Lib.hid (Hw2.out.ext eZc)
  replace HW:=Lib.hid (HW.out.trans' eZ)
  rw [← hZ]
  replace hz:=World.block_lt_of_cell? _ _ k0
  clear hZ eZ eZc
  simp only at hz
  obtain ⟨fb,fo,rfl,hfc⟩:=z0x HF.out (i:=0) (by have:=HFL.out;omega)
  have HFC:=Lib.hid hfc
  have WF:∀ r:Nat,r < n→((L0.any fun x=>x.1 == (r:Int) && x.2 == -1)=(pl f r == 1)):=fun r hr=>by rw [HL0.out];exact z3i hn2' hn5' HFIN.out hr
  have WP:∀ r:Nat,r < n→((L1.any fun x=>x.1 == (r:Int) && x.2 == -1)=decide (pl f r≤2)):=fun r hr=>by rw [HL1.out];exact z0w hn2' hn5' HFIN.out hr
  have HWF:=Lib.hid WF
  have HWP:=Lib.hid WP
  clear hfc WF WP T2 T3 HPS HG
  go_wp2_with fail
  go_loopw [15] (fun rv W=>∃ r:Nat,r≤n∧rv = .int .i64 r∧Ext Z W) (fun rv _=>n - (intOf rv).toNat)
  case atStart=>exact ⟨0,by omega,rfl,Below.refl _ _⟩
  case round =>
   obtain ⟨r,hr,rfl,hE⟩:=hrel
   obtain ⟨R,rfl⟩:∃ R,R=wr:=⟨_,rfl⟩
   replace k0:=zb hE k0
   replace k1:=zb hE k1
   replace hz:=World.block_lt_of_cell? _ _ k0
   simp only at hz
   replace HW:=Lib.hid (HW.out.trans' hE)
   have HEZ:=Lib.hid hE
   have HEZt:Hid (Ext Z R):=Lib.hid hE
   replace HV:=Lib.hid (HV.out.ext hE)
   replace Hw0:=Lib.hid (Hw0.out.ext hE)
   replace Hw1:=Lib.hid (Hw1.out.ext hE)
   replace Hw2:=Lib.hid (Hw2.out.ext hE)
   clear hE
   by_cases hlt:r < n
   ·have hri:(r:Int) < h.n:=by have:=HNN.out;omega
    have hrf:r < f.length:=by have:=HFL.out;omega
    have hrfi:(r:Int) < (f.length:Int):=by omega
    have t4:∀ z:Int,1≤z→z≤2→∀ W,IsWds W (.slice sa h.ws.length cap) h.ws→Calls Tryz.prog 13 #[.agg #[.int .i64 h.n,.slice sa h.ws.length cap],.int .i64 r,.int .i64 z] W fun e w'=>e = .returned (.tuple #[.int .i64 (zbp h fun f=>decide (pl f r≤z)),.int .i64 0])∧Ext W w':=fun z z0 z1 W hI=>by
     have h1:=z0p h sa cap r z W hI H0.out (by omega) (by omega) z0 (by have:=V.out.n1;omega)
     rw [zoa HFM.out] at h1
     exact h1
    obtain ⟨K1,hK1⟩:∃ K1,K1=zbp h fun f=>decide (pl f r≤1):=⟨_,rfl⟩
    obtain ⟨K2,hK2⟩:∃ K2,K2=zbp h fun f=>decide (pl f r≤2):=⟨_,rfl⟩
    have t5:=t4 1 (by omega) (by omega)
    have t6:=t4 2 (by omega) (by omega)
    rw [← hK1] at t5
    rw [← hK2] at t6
    obtain ⟨x,hx⟩:∃ x,x=pl f r:=⟨_,rfl⟩
    obtain ⟨p,hp⟩:∃ p,p=(x == 1):=⟨_,rfl⟩
    obtain ⟨q,hq⟩:∃ q,q=decide (x≤2):=⟨_,rfl⟩
    have hb:=zdu HFIN.out hlt
    have hKp:(K1=0∧p=false)∨K1=1∨(K1=2∧p=true):=by
     have h1:=zw5 h fun f=>decide (pl f r≤1)
     rw [← hK1] at h1
     have h2:K1=0∨K1=1∨K1=2:=by omega
     rcases h2 with h2 | h2 | h2
     ·left
      refine ⟨h2,?_⟩
      rw [hK1] at h2
      have h3:=zox HFM.out h2
      rw [decide_eq_false_iff_not] at h3
      rw [hp,beq_eq_false_iff_ne];omega
     ·exact .inr (.inl h2)
     ·right;right
      refine ⟨h2,?_⟩
      rw [hK1] at h2
      have h3:=zho HFM.out h2
      rw [decide_eq_true_eq] at h3
      rw [hp,beq_iff_eq];omega
    have hKq:(K2=0∧q=false)∨K2=1∨(K2=2∧q=true):=by
     have h1:=zw5 h fun f=>decide (pl f r≤2)
     rw [← hK2] at h1
     have h2:K2=0∨K2=1∨K2=2:=by omega
     rcases h2 with h2 | h2 | h2
     ·left
      refine ⟨h2,?_⟩
      rw [hK2] at h2
      rw [hq,hx]
      exact zox HFM.out h2
     ·exact .inr (.inl h2)
     ·right;right
      refine ⟨h2,?_⟩
      rw [hK2] at h2
      rw [hq,hx]
      exact zho HFM.out h2
    have t7:∀ W,IsRows W 2 (.slice a0 L0.length c0) (L0.map zbk)→Calls Tryz.prog 14 #[.slice a0 L0.length c0,.int .i64 r] W fun e w'=>e = .returned (.bool p)∧Ext W w':=fun W hI=>by
     have h1:=ztn L0 r _ W hI
     rw [HWF.out r hlt,← hx,← hp] at h1
     exact h1
    have t8:∀ W,IsRows W 2 (.slice a1 L1.length c1) (L1.map zbk)→Calls Tryz.prog 14 #[.slice a1 L1.length c1,.int .i64 r] W fun e w'=>e = .returned (.bool q)∧Ext W w':=fun W hI=>by
     have h1:=ztn L1 r _ W hI
     rw [HWP.out r hlt,← hx,← hq] at h1
     exact h1
    have cx:=HFC.out r hrf _ HEZ.out
    rw [← hx] at cx
    have zx:=World.block_lt_of_cell? _ _ cx
    simp only at zx
    have T5:=Lib.hid t5
    have T6:=Lib.hid t6
    have T7:=Lib.hid t7
    have T8:=Lib.hid t8
    have HKp:=Lib.hid hKp
    have HKq:=Lib.hid hKq
    have hp':=hp.symm
    have hq':=hq.symm
    clear t4 t5 t6 t7 t8 hK1 hK2 hx hp hq hb hKp hKq
    go_wp2_with fail
    refine zw (W0:=R) (g:=⟨R,Below.refl _ _⟩) xx (T5.out _ (HV.out.ext xx)) fun g1 hgr=>?_
    clear hgr
    go_wp2_with fail
    refine zw (W0:=R) (g:=g1) xx (T6.out _ (HV.out.ext xx)) fun g2 hgr=>?_
    clear hgr
    go_upto_region 22 with (fail)
    obtain ⟨R2,hR2⟩:∃ zz9,zz9=(grow R g2):=⟨_,rfl⟩
    have eR2:Ext R R2:=by rw [hR2];exact xx
    replace k0:=zb eR2 k0
    replace k1:=zb eR2 k1
    replace cx:=zb eR2 cx
    replace HV:=Lib.hid (HV.out.ext eR2)
    replace Hw0:=Lib.hid (Hw0.out.ext eR2)
    replace Hw1:=Lib.hid (Hw1.out.ext eR2)
    replace Hw2:=Lib.hid (Hw2.out.ext eR2)
    replace HW:=Lib.hid (HW.out.trans' eR2)
    rw [← hR2]
    replace hz:=World.block_lt_of_cell? _ _ k0
    replace zx:=World.block_lt_of_cell? _ _ cx
    replace HEZt:=Lib.hid (HEZt.out.trans' eR2)
    clear hR2 eR2
    simp only at hz zx
    refine zq4 (R2.heap.size) (Nat.le_refl _)
     [sqV (.int .i64 0),sqV (.bool false),sqV (.bool false),sqV (.int .i64 0),sqV (.bool false),sqV (.bool false),sqV (.bool false),sqV (.slice a0 L0.length c0),sqV (.int .i64 r),sqV (.bool p),sqV (.slice (some ⟨fb,fo,none⟩) f.length fc),sqV (.int .i64 r),sqV (.pointer (some ⟨fb,fo+r,none⟩)),sqV (.int .i64 x),sqV (.bool p),sqV (.bool false),sqV (.bool false),sqV (.bool false),sqV (.slice a1 L1.length c1),sqV (.int .i64 r),sqV (.bool q),sqV (.slice (some ⟨fb,fo,none⟩) f.length fc),sqV (.int .i64 r),sqV (.pointer (some ⟨fb,fo+r,none⟩)),sqV (.int .i64 x),sqV (.bool q),sqV (.bool false),sqV (.bool false)]
     [true,true,true,true,true,true,true,true,true,true,true,true,true,true,true,true,true,true,true,true,true,true,true,true,true,true,true,true] [false,false,false,false,false,false,false,false,false,false,false,false,false,false,false,false,false,false,false,false,false,false,false,false,false,false,false,false] [true,true,true,true,true,true,true,true,true,true,true,true,true,true,true,true,true,true,true,true,true,true,true,true,true,true,true,true] [true,true,true,true,true,true,true,true,true,true,true,true,true,true,true,true,true,true,true,true,true,true,true,true,true,true,true,true] [true,true,true,true,true,true,true,true,true,true,true,true,true,true,true,true,true,true,true,true,true,true,true,true,true,true,true,true] [none,some false,some false,none,some false,some false,some false,none,none,none,none,none,none,none,none,some false,some false,some false,none,none,none,none,none,none,none,none,some false,some false]
     (by kernel_rfl) (by kernel_rfl) (by decide +kernel) ⟨fun _ _ _ h=>h,⟨fun _ _ _ h=>h,⟨fun _ _ _ h=>h,⟨fun _ _ _ h=>h,⟨fun _ _ _ h=>h,⟨fun _ _ _ h=>h,⟨fun _ _ _ h=>h,⟨fun _ _ _ h=>h,⟨fun _ _ _ h=>h,⟨fun _ _ _ h=>h,trivial⟩⟩⟩⟩⟩⟩⟩⟩⟩⟩ (by decide +kernel) (by decide +kernel) (by decide +kernel) rfl ⟨rfl,rfl,rfl⟩ ⟨?s0,?s1,?s2,?s3,?s4,?s5,?s6,?s7,?s8,?s9,?s10,?s11,?s12,?s13,?s14,?s15,?s16,?s17,?s18,?s19,?s20,?s21,?s22,?s23,?s24,?s25,?s26,?s27,trivial⟩ [some 113,some 114,some 115,some 116,some 117,some 118,some 119,some 120,some 121,some 122,some 123,some 124,some 125,some 126,some 127,some 128,some 129,some 130,some 131,some 132,some 133,some 134,some 135,some 136,some 137,some 138,some 139,some 140] rfl rfl ?send
    case s0 =>
     intro val ρ W hE hz hd hu hA hx
     have o0:ρ (.tmp 17) = .int .i64 0:=hA.old 17 (by decide)
     clear hd hu
     exact zd (W':=W) (by simp [execOp,o0,go_sem]) (Below.refl _ _) rfl
    case s1 =>
     intro val ρ W hE hz hd hu hA hx
     have d0:ρ (.tmp 113) = .int .i64 0:=(hA.dep 0 (by decide) 113 rfl).trans (hd 0 (by decide))
     clear hd hu
     exact zd (W':=W) (by simp [execOp,hA.const,d0,go_sem]) (Below.refl _ _) rfl
    case s2 =>
     intro val ρ W hE hz hd hu hA hx
     have d1:ρ (.tmp 114) = .bool false:=(hA.dep 1 (by decide) 114 rfl).trans (hd 1 (by decide))
     clear hd hu
     exact zd (W':=W) (by simp [execOp,d1,go_sem]) (Below.refl _ _) rfl
    case s3 =>
     intro val ρ W hE hz hd hu hA hx
     have o0:ρ (.tmp 19) = .int .i64 0:=hA.old 19 (by decide)
     clear hd hu
     exact zd (W':=W) (by simp [execOp,o0,go_sem]) (Below.refl _ _) rfl
    case s4 =>
     intro val ρ W hE hz hd hu hA hx
     have d3:ρ (.tmp 116) = .int .i64 0:=(hA.dep 3 (by decide) 116 rfl).trans (hd 3 (by decide))
     clear hd hu
     exact zd (W':=W) (by simp [execOp,hA.const,d3,go_sem]) (Below.refl _ _) rfl
    case s5 =>
     intro val ρ W hE hz hd hu hA hx
     have d2:ρ (.tmp 115) = .bool false:=(hA.dep 2 (by decide) 115 rfl).trans (hd 2 (by decide))
     have d4:ρ (.tmp 117) = .bool false:=(hA.dep 4 (by decide) 117 rfl).trans (hd 4 (by decide))
     clear hd hu
     exact zd (W':=W) (by simp [execOp,hA.const,d2,d4,go_sem]) (Below.refl _ _) rfl
    case s6 =>
     intro val ρ W hE hz hd hu hA hx
     have d5:ρ (.tmp 118) = .bool false:=(hA.dep 5 (by decide) 118 rfl).trans (hd 5 (by decide))
     clear hd hu
     exact zd (W':=W) (by simp [execOp,d5,go_sem]) (Below.refl _ _) rfl
    case s7 =>
     intro val ρ W hE hz hd hu hA hx
     have o0:ρ (.tmp 9) = .slice a0 L0.length c0:=hA.old 9 (by decide)
     clear hd hu
     exact zd (W':=W) (by simp [execOp,o0,go_sem]) (Below.refl _ _) rfl
    case s8 =>
     intro val ρ W hE hz hd hu hA hx
     have o0:ρ (.tmp 15) = .int .i64 r:=hA.old 15 (by decide)
     clear hd hu
     exact zd (W':=W) (by simp [execOp,o0,go_sem]) (Below.refl _ _) rfl
    case s9 =>
     intro val ρ W hE hz hd hu hA hx
     have d7:ρ (.tmp 120) = .slice a0 L0.length c0:=(hA.dep 7 (by decide) 120 rfl).trans (hd 7 (by decide))
     have d8:ρ (.tmp 121) = .int .i64 r:=(hA.dep 8 (by decide) 121 rfl).trans (hd 8 (by decide))
     clear hd hu
     refine zbh 14 _ _ rfl #[.slice a0 L0.length c0,.int .i64 r] (hA.func _) (by simp [d7,d8]) (fun args W=>Tryz.call14 args W) ((T7.out W (Hw0.out.ext hE)).mono ?_)
     rintro e w' ⟨rfl,hb⟩
     exact ⟨_,rfl,hb,rfl⟩
    case s10 =>
     intro val ρ W hE hz hd hu hA hx
     have o0:ρ (.tmp 5) = .slice (some ⟨fb,fo,none⟩) f.length fc:=hA.old 5 (by decide)
     clear hd hu
     exact zd (W':=W) (by simp [execOp,o0,go_sem]) (Below.refl _ _) rfl
    case s11 =>
     intro val ρ W hE hz hd hu hA hx
     have o0:ρ (.tmp 15) = .int .i64 r:=hA.old 15 (by decide)
     clear hd hu
     exact zd (W':=W) (by simp [execOp,o0,go_sem]) (Below.refl _ _) rfl
    case s12 =>
     intro val ρ W hE hz hd hu hA hx
     have d10:ρ (.tmp 123) = .slice (some ⟨fb,fo,none⟩) f.length fc:=(hA.dep 10 (by decide) 123 rfl).trans (hd 10 (by decide))
     have d11:ρ (.tmp 124) = .int .i64 r:=(hA.dep 11 (by decide) 124 rfl).trans (hd 11 (by decide))
     clear hd hu
     exact zd (W':=W) (by simp [execOp,d10,d11,hrfi,go_sem]) (Below.refl _ _) rfl
    case s13 =>
     intro val ρ W hE hz hd hu hA hx
     have d12:ρ (.tmp 125) = .pointer (some ⟨fb,fo+r,none⟩):=(hA.dep 12 (by decide) 125 rfl).trans (hd 12 (by decide))
     have f_cx:=cell_below hE (by simp only;omega) cx
     clear hd hu
     exact zd (W':=W) (by simp [execOp,d12,f_cx,go_sem]) (Below.refl _ _) rfl
    case s14 =>
     intro val ρ W hE hz hd hu hA hx
     have d13:ρ (.tmp 126) = .int .i64 x:=(hA.dep 13 (by decide) 126 rfl).trans (hd 13 (by decide))
     clear hd hu
     exact zd (W':=W) (by simp [execOp,hA.const,d13,hp',go_sem]) (Below.refl _ _) rfl
    case s15 =>
     intro val ρ W hE hz hd hu hA hx
     have d9:ρ (.tmp 122) = .bool p:=(hA.dep 9 (by decide) 122 rfl).trans (hd 9 (by decide))
     have d14:ρ (.tmp 127) = .bool p:=(hA.dep 14 (by decide) 127 rfl).trans (hd 14 (by decide))
     clear hd hu
     exact zd (W':=W) (by simp [execOp,d9,d14,go_sem]) (Below.refl _ _) rfl
    case s16 =>
     intro val ρ W hE hz hd hu hA hx
     have d6:ρ (.tmp 119) = .bool false:=(hA.dep 6 (by decide) 119 rfl).trans (hd 6 (by decide))
     have d15:ρ (.tmp 128) = .bool false:=(hA.dep 15 (by decide) 128 rfl).trans (hd 15 (by decide))
     clear hd hu
     exact zd (W':=W) (by simp [execOp,hA.const,d6,d15,go_sem]) (Below.refl _ _) rfl
    case s17 =>
     intro val ρ W hE hz hd hu hA hx
     have d16:ρ (.tmp 129) = .bool false:=(hA.dep 16 (by decide) 129 rfl).trans (hd 16 (by decide))
     clear hd hu
     exact zd (W':=W) (by simp [execOp,d16,go_sem]) (Below.refl _ _) rfl
    case s18 =>
     intro val ρ W hE hz hd hu hA hx
     have o0:ρ (.tmp 11) = .slice a1 L1.length c1:=hA.old 11 (by decide)
     clear hd hu
     exact zd (W':=W) (by simp [execOp,o0,go_sem]) (Below.refl _ _) rfl
    case s19 =>
     intro val ρ W hE hz hd hu hA hx
     have o0:ρ (.tmp 15) = .int .i64 r:=hA.old 15 (by decide)
     clear hd hu
     exact zd (W':=W) (by simp [execOp,o0,go_sem]) (Below.refl _ _) rfl
    case s20 =>
     intro val ρ W hE hz hd hu hA hx
     have d18:ρ (.tmp 131) = .slice a1 L1.length c1:=(hA.dep 18 (by decide) 131 rfl).trans (hd 18 (by decide))
     have d19:ρ (.tmp 132) = .int .i64 r:=(hA.dep 19 (by decide) 132 rfl).trans (hd 19 (by decide))
     clear hd hu
     refine zbh 14 _ _ rfl #[.slice a1 L1.length c1,.int .i64 r] (hA.func _) (by simp [d18,d19]) (fun args W=>Tryz.call14 args W) ((T8.out W (Hw1.out.ext hE)).mono ?_)
     rintro e w' ⟨rfl,hb⟩
     exact ⟨_,rfl,hb,rfl⟩
    case s21 =>
     intro val ρ W hE hz hd hu hA hx
     have o0:ρ (.tmp 5) = .slice (some ⟨fb,fo,none⟩) f.length fc:=hA.old 5 (by decide)
     clear hd hu
     exact zd (W':=W) (by simp [execOp,o0,go_sem]) (Below.refl _ _) rfl
    case s22 =>
     intro val ρ W hE hz hd hu hA hx
     have o0:ρ (.tmp 15) = .int .i64 r:=hA.old 15 (by decide)
     clear hd hu
     exact zd (W':=W) (by simp [execOp,o0,go_sem]) (Below.refl _ _) rfl
    case s23 =>
     intro val ρ W hE hz hd hu hA hx
     have d21:ρ (.tmp 134) = .slice (some ⟨fb,fo,none⟩) f.length fc:=(hA.dep 21 (by decide) 134 rfl).trans (hd 21 (by decide))
     have d22:ρ (.tmp 135) = .int .i64 r:=(hA.dep 22 (by decide) 135 rfl).trans (hd 22 (by decide))
     clear hd hu
     exact zd (W':=W) (by simp [execOp,d21,d22,hrfi,go_sem]) (Below.refl _ _) rfl
    case s24 =>
     intro val ρ W hE hz hd hu hA hx
     have d23:ρ (.tmp 136) = .pointer (some ⟨fb,fo+r,none⟩):=(hA.dep 23 (by decide) 136 rfl).trans (hd 23 (by decide))
     have f_cx:=cell_below hE (by simp only;omega) cx
     clear hd hu
     exact zd (W':=W) (by simp [execOp,d23,f_cx,go_sem]) (Below.refl _ _) rfl
    case s25 =>
     intro val ρ W hE hz hd hu hA hx
     have d24:ρ (.tmp 137) = .int .i64 x:=(hA.dep 24 (by decide) 137 rfl).trans (hd 24 (by decide))
     clear hd hu
     exact zd (W':=W) (by simp [execOp,hA.const,d24,hq',go_sem]) (Below.refl _ _) rfl
    case s26 =>
     intro val ρ W hE hz hd hu hA hx
     have d20:ρ (.tmp 133) = .bool q:=(hA.dep 20 (by decide) 133 rfl).trans (hd 20 (by decide))
     have d25:ρ (.tmp 138) = .bool q:=(hA.dep 25 (by decide) 138 rfl).trans (hd 25 (by decide))
     clear hd hu
     exact zd (W':=W) (by simp [execOp,d20,d25,go_sem]) (Below.refl _ _) rfl
    case s27 =>
     intro val ρ W hE hz hd hu hA hx
     have d17:ρ (.tmp 130) = .bool false:=(hA.dep 17 (by decide) 130 rfl).trans (hd 17 (by decide))
     have d26:ρ (.tmp 139) = .bool false:=(hA.dep 26 (by decide) 139 rfl).trans (hd 26 (by decide))
     clear hd hu
     exact zd (W':=W) (by simp [execOp,hA.const,d17,d26,go_sem]) (Below.refl _ _) rfl
    case send =>
     intro val WW hE hzz hv
     obtain ⟨-,-,-,-,-,-,-,-,-,-,-,-,-,-,-,-,-,-,-,-,-,-,-,-,-,-,-,r27,-⟩:=hv
     have q27:val 27 = .bool false:=r27
     simp only [putD,q27]
     go_frame
     replace HW:=Lib.hid (HW.out.trans' hE)
     replace HEZt:=Lib.hid (HEZt.out.trans' hE)
     replace Hw0:=Lib.hid (Hw0.out.ext hE)
     replace Hw1:=Lib.hid (Hw1.out.ext hE)
     clear hE hzz q27 r27 cx zx hp' hq' k0 k1 hz T5 T6 HV Hw2
     rcases HKp.out with ⟨rfl,rfl⟩ | rfl | ⟨rfl,rfl⟩
     ·rcases HKq.out with ⟨rfl,rfl⟩ | rfl | ⟨rfl,rfl⟩
      ·skip
       go_wp2_with fail
       refine zw (W0:=WW) (g:=⟨WW,Below.refl _ _⟩) xx (T7.out _ (Hw0.out.ext xx)) fun g1 hgr=>?_
       clear hgr
       go_wp2_with fail
       refine zw (W0:=WW) (g:=g1) xx (T8.out _ (Hw1.out.ext xx)) fun g2 hgr=>?_
       clear hgr
       go_wp2_with fail
       go_roundw
       case rel=>exact ⟨r+1,by omega,by go_num,HEZt.out.trans' (zh WW _)⟩
       case measure=>simp [intOf];omega
      ·skip
       go_wp2_with fail
       refine zw (W0:=WW) (g:=⟨WW,Below.refl _ _⟩) xx (T7.out _ (Hw0.out.ext xx)) fun g3 hgr=>?_
       clear hgr
       go_wp2_with fail
       go_roundw
       case rel=>exact ⟨r+1,by omega,by go_num,HEZt.out.trans' (zh WW _)⟩
       case measure=>simp [intOf];omega
      ·skip
       go_wp2_with fail
       refine zw (W0:=WW) (g:=⟨WW,Below.refl _ _⟩) xx (T7.out _ (Hw0.out.ext xx)) fun g4 hgr=>?_
       clear hgr
       go_wp2_with fail
       refine zw (W0:=WW) (g:=g4) xx (T8.out _ (Hw1.out.ext xx)) fun g5 hgr=>?_
       clear hgr
       go_wp2_with fail
       go_roundw
       case rel=>exact ⟨r+1,by omega,by go_num,HEZt.out.trans' (zh WW _)⟩
       case measure=>simp [intOf];omega
     ·rcases HKq.out with ⟨rfl,rfl⟩ | rfl | ⟨rfl,rfl⟩
      ·skip
       go_wp2_with fail
       refine zw (W0:=WW) (g:=⟨WW,Below.refl _ _⟩) xx (T8.out _ (Hw1.out.ext xx)) fun g6 hgr=>?_
       clear hgr
       go_wp2_with fail
       go_roundw
       case rel=>exact ⟨r+1,by omega,by go_num,HEZt.out.trans' (zh WW _)⟩
       case measure=>simp [intOf];omega
      ·skip
       go_wp2_with fail
       go_roundw
       case rel=>exact ⟨r+1,by omega,by go_num,HEZt.out⟩
       case measure=>simp [intOf];omega
      ·skip
       go_wp2_with fail
       refine zw (W0:=WW) (g:=⟨WW,Below.refl _ _⟩) xx (T8.out _ (Hw1.out.ext xx)) fun g7 hgr=>?_
       clear hgr
       go_wp2_with fail
       go_roundw
       case rel=>exact ⟨r+1,by omega,by go_num,HEZt.out.trans' (zh WW _)⟩
       case measure=>simp [intOf];omega
     ·rcases HKq.out with ⟨rfl,rfl⟩ | rfl | ⟨rfl,rfl⟩
      ·skip
       go_wp2_with fail
       refine zw (W0:=WW) (g:=⟨WW,Below.refl _ _⟩) xx (T7.out _ (Hw0.out.ext xx)) fun g8 hgr=>?_
       clear hgr
       go_wp2_with fail
       refine zw (W0:=WW) (g:=g8) xx (T8.out _ (Hw1.out.ext xx)) fun g9 hgr=>?_
       clear hgr
       go_wp2_with fail
       go_roundw
       case rel=>exact ⟨r+1,by omega,by go_num,HEZt.out.trans' (zh WW _)⟩
       case measure=>simp [intOf];omega
      ·skip
       go_wp2_with fail
       refine zw (W0:=WW) (g:=⟨WW,Below.refl _ _⟩) xx (T7.out _ (Hw0.out.ext xx)) fun g10 hgr=>?_
       clear hgr
       go_wp2_with fail
       go_roundw
       case rel=>exact ⟨r+1,by omega,by go_num,HEZt.out.trans' (zh WW _)⟩
       case measure=>simp [intOf];omega
      ·skip
       go_wp2_with fail
       refine zw (W0:=WW) (g:=⟨WW,Below.refl _ _⟩) xx (T7.out _ (Hw0.out.ext xx)) fun g11 hgr=>?_
       clear hgr
       go_wp2_with fail
       refine zw (W0:=WW) (g:=g11) xx (T8.out _ (Hw1.out.ext xx)) fun g12 hgr=>?_
       clear hgr
       go_wp2_with fail
       go_roundw
       case rel=>exact ⟨r+1,by omega,by go_num,HEZt.out.trans' (zh WW _)⟩
       case measure=>simp [intOf];omega
   ·have hri:¬ ((r:Int) < h.n):=by have:=HNN.out;omega
    clear hr hlt
    have t9:∀ a b:Nat,a < n→b < n→a≠b→∀ W,IsWds W (.slice sa h.ws.length cap) h.ws→Calls Tryz.prog 15 #[.agg #[.int .i64 h.n,.slice sa h.ws.length cap],.agg #[.int .i64 (b:Int),.int .i64 (a:Int),.int .i64 0]] W fun e w'=>e = .returned (.tuple #[.int .i64 (zbp h fun f=>zbd f ((b:Int),(a:Int),0)),.int .i64 0])∧Ext W w':=fun a b ha hb hab W hI=>by
     have h1:=z3c h sa cap ((b:Int),(a:Int),0) W hI H0.out (by
      have:=HNN.out
      simp only [okWd,Bool.and_eq_true,decide_eq_true_eq]
      omega)
     rw [zoa HFM.out] at h1
     exact h1
    have T9:=Lib.hid t9
    have PA:∀ k,(hk:k < L2.length)→∃ r s:Nat,L2[k]=((r:Int),(s:Int))∧r < n∧s < n∧r≠s∧pl f r=1∧pl f s≤2:=fun k hk=>by
     have e:=HL2.out
     subst e
     exact z7p hn2' hn5' HFIN.out hk
    have HPA:=Lib.hid PA
    have hpos:0 < L2.length:=by rw [HL2.out];exact z3j hn2' hn5' HFIN.out
    have HPOS:=Lib.hid hpos
    have hL64:L2.length≤64:=by
     rw [HL2.out,zri hn2' hn5' HFIN.out (by omega)]
     exact zwo (zy3 (zsd hn2' hn5' HFIN.out (by omega)))
    clear t9 PA hpos
    go_wp2_with fail
    go_loopw [20] (fun iv W=>∃ i:Nat,i≤L2.length∧iv = .int .i64 i∧Ext R W) (fun iv _=>L2.length - (intOf iv).toNat)
    case atStart=>exact ⟨0,by omega,rfl,Below.refl _ _⟩
    case round =>
     obtain ⟨i,hi,rfl,hE⟩:=hrel
     obtain ⟨U,rfl⟩:∃ U,U=wr:=⟨_,rfl⟩
     replace k0:=zb hE k0
     replace k1:=zb hE k1
     replace hz:=World.block_lt_of_cell? _ _ k0
     simp only at hz
     replace HW:=Lib.hid (HW.out.trans' hE)
     replace HEZ:=Lib.hid (HEZ.out.trans' hE)
     have HER:=Lib.hid hE
     replace HV:=Lib.hid (HV.out.ext hE)
     replace Hw2:=Lib.hid (Hw2.out.ext hE)
     clear hE
     by_cases hlt:i < L2.length
     ·have hii:(i:Int) < (L2.length:Int):=by omega
      obtain ⟨lb,lo,rfl,hlc⟩:=z3m Hw2.out hlt
      obtain ⟨a,b,hab,ha,hb,hne,hfa,hfb⟩:=HPA.out i hlt
      obtain ⟨m0,m1⟩:=hlc i hlt U (Below.refl _ _)
      rw [hab] at m0 m1
      have zm:=World.block_lt_of_cell? _ _ m0
      simp only at m0 m1 zm
      have ca:=HFC.out a (by have:=HFL.out;omega) _ HEZ.out
      have cb:=HFC.out b (by have:=HFL.out;omega) _ HEZ.out
      rw [hfa] at ca
      obtain ⟨y,hy⟩:∃ y,y=pl f b:=⟨_,rfl⟩
      rw [← hy] at cb hfb
      have hkd:=z3k (r:=a) (s:=b) HFM.out HNN.out ha hb hfa
      have t10:=T9.out a b ha hb hne
      obtain ⟨K,hK⟩:∃ K,K=zbp h fun f=>zbd f ((b:Int),(a:Int),0):=⟨_,rfl⟩
      rw [← hK] at hkd t10
      have T10:=Lib.hid t10
      have hKi:(K == 2)=false:=by rw [beq_eq_false_iff_ne];exact hkd
      have zf:=World.block_lt_of_cell? _ _ ca
      simp only at zf
      have x1:¬ ((a:Int) < 0):=by omega
      have x2:¬ (h.n≤(a:Int)):=by have:=HNN.out;omega
      have x3:¬ ((b:Int) < 0):=by omega
      have x4:¬ (h.n≤(b:Int)):=by have:=HNN.out;omega
      have x5:¬ (2 < y):=by omega
      have x6:(a:Int) < (f.length:Int):=by have:=HFL.out;omega
      have x7:(b:Int) < (f.length:Int):=by have:=HFL.out;omega
      clear hlc hab hfa hfb hy hkd t10 hK ha hb hne
      go_upto_region 29 with (fail)
      refine zbl (U.heap.size) (Nat.le_refl _)
       [sqV (.slice (some ⟨lb,lo,none⟩) L2.length c2),sqV (.int .i64 i),sqV (.pointer (some ⟨lb,lo+i * 2,none⟩)),sqV (.pointer (some ⟨lb,lo+i * 2,none⟩)),sqV (.int .i64 a),sqV (.slice (some ⟨lb,lo,none⟩) L2.length c2),sqV (.int .i64 i),sqV (.pointer (some ⟨lb,lo+i * 2,none⟩)),sqV (.pointer (some ⟨lb,lo+i * 2+1,none⟩)),sqV (.int .i64 b),sqV (.int .i64 a),sqV (.int .i64 b)]
       [true,true,true,true,true,true,true,true,true,true,true,true] [false,false,false,false,false,false,false,false,false,false,false,false] [true,true,true,true,true,true,true,true,true,true,true,true] [true,true,true,true,true,true,true,true,true,true,true,true]
       (by kernel_rfl) (by kernel_rfl) (by decide +kernel) (by decide +kernel) (by decide +kernel) rfl ⟨rfl,rfl⟩ ⟨?s0,?s1,?s2,?s3,?s4,?s5,?s6,?s7,?s8,?s9,?s10,?s11,trivial⟩ [some 183,some 184,some 185,some 186,some 187,some 188,some 189,some 190,some 191,some 192,some 21,some 22] rfl rfl ?send
      case s0 =>
       intro val ρ W hE hz hd hA hx
       have o0:ρ (.tmp 13) = .slice (some ⟨lb,lo,none⟩) L2.length c2:=hA.old 13 (by decide)
       clear hd
       exact zd (W':=W) (by simp [execOp,o0,go_sem]) (Below.refl _ _) rfl
      case s1 =>
       intro val ρ W hE hz hd hA hx
       have o0:ρ (.tmp 20) = .int .i64 i:=hA.old 20 (by decide)
       clear hd
       exact zd (W':=W) (by simp [execOp,o0,go_sem]) (Below.refl _ _) rfl
      case s2 =>
       intro val ρ W hE hz hd hA hx
       have d0:ρ (.tmp 183) = .slice (some ⟨lb,lo,none⟩) L2.length c2:=(hA.dep 0 (by decide) 183 rfl).trans (hd 0 (by decide))
       have d1:ρ (.tmp 184) = .int .i64 i:=(hA.dep 1 (by decide) 184 rfl).trans (hd 1 (by decide))
       clear hd
       exact zd (W':=W) (by simp [execOp,d0,d1,hii,go_sem]) (Below.refl _ _) rfl
      case s3 =>
       intro val ρ W hE hz hd hA hx
       have d2:ρ (.tmp 185) = .pointer (some ⟨lb,lo+i * 2,none⟩):=(hA.dep 2 (by decide) 185 rfl).trans (hd 2 (by decide))
       clear hd
       exact zd (W':=W) (by simp [execOp,hA.const,d2,go_sem]) (Below.refl _ _) rfl
      case s4 =>
       intro val ρ W hE hz hd hA hx
       have d3:ρ (.tmp 186) = .pointer (some ⟨lb,lo+i * 2,none⟩):=(hA.dep 3 (by decide) 186 rfl).trans (hd 3 (by decide))
       have f_m0:=cell_below hE (by simp only;omega) m0
       clear hd
       exact zd (W':=W) (by simp [execOp,d3,f_m0,go_sem]) (Below.refl _ _) rfl
      case s5 =>
       intro val ρ W hE hz hd hA hx
       have o0:ρ (.tmp 13) = .slice (some ⟨lb,lo,none⟩) L2.length c2:=hA.old 13 (by decide)
       clear hd
       exact zd (W':=W) (by simp [execOp,o0,go_sem]) (Below.refl _ _) rfl
      case s6 =>
       intro val ρ W hE hz hd hA hx
       have o0:ρ (.tmp 20) = .int .i64 i:=hA.old 20 (by decide)
       clear hd
       exact zd (W':=W) (by simp [execOp,o0,go_sem]) (Below.refl _ _) rfl
      case s7 =>
       intro val ρ W hE hz hd hA hx
       have d5:ρ (.tmp 188) = .slice (some ⟨lb,lo,none⟩) L2.length c2:=(hA.dep 5 (by decide) 188 rfl).trans (hd 5 (by decide))
       have d6:ρ (.tmp 189) = .int .i64 i:=(hA.dep 6 (by decide) 189 rfl).trans (hd 6 (by decide))
       clear hd
       exact zd (W':=W) (by simp [execOp,d5,d6,hii,go_sem]) (Below.refl _ _) rfl
      case s8 =>
       intro val ρ W hE hz hd hA hx
       have d7:ρ (.tmp 190) = .pointer (some ⟨lb,lo+i * 2,none⟩):=(hA.dep 7 (by decide) 190 rfl).trans (hd 7 (by decide))
       clear hd
       exact zd (W':=W) (by simp [execOp,hA.const,d7,go_sem]) (Below.refl _ _) rfl
      case s9 =>
       intro val ρ W hE hz hd hA hx
       have d8:ρ (.tmp 191) = .pointer (some ⟨lb,lo+i * 2+1,none⟩):=(hA.dep 8 (by decide) 191 rfl).trans (hd 8 (by decide))
       have f_m1:=cell_below hE (by simp only;omega) m1
       clear hd
       exact zd (W':=W) (by simp [execOp,d8,f_m1,go_sem]) (Below.refl _ _) rfl
      case s10 =>
       intro val ρ W hE hz hd hA hx
       have d4:ρ (.tmp 187) = .int .i64 a:=(hA.dep 4 (by decide) 187 rfl).trans (hd 4 (by decide))
       clear hd
       exact zd (W':=W) (by simp [execOp,d4,go_sem]) (Below.refl _ _) rfl
      case s11 =>
       intro val ρ W hE hz hd hA hx
       have d9:ρ (.tmp 192) = .int .i64 b:=(hA.dep 9 (by decide) 192 rfl).trans (hd 9 (by decide))
       clear hd
       exact zd (W':=W) (by simp [execOp,d9,go_sem]) (Below.refl _ _) rfl
      case send =>
       intro val WW hE hzz hv
       obtain ⟨-,-,-,-,-,-,-,-,-,-,r10,r11,-⟩:=hv
       have q10:val 10 = .int .i64 a:=r10
       have q11:val 11 = .int .i64 b:=r11
       simp only [putD,q10,q11]
       go_frame
       replace k0:=zb hE k0
       replace k1:=zb hE k1
       replace hz:=World.block_lt_of_cell? _ _ k0
       replace ca:=zb hE ca
       replace cb:=zb hE cb
       replace zf:=World.block_lt_of_cell? _ _ ca
       simp only at hz zf
       replace HW:=Lib.hid (HW.out.trans' hE)
       replace HER:=Lib.hid (HER.out.trans' hE)
       replace HV:=Lib.hid (HV.out.ext hE)
       clear hE hzz q10 q11 r10 r11 m0 m1 zm
       go_upto_region 32 with (fail)
       refine zbl (WW.heap.size) (Nat.le_refl _)
        [sqV (.agg #[.int .i64 h.n,.slice sa h.ws.length cap]),sqV (.int .i64 b),sqV (.int .i64 a),sqV (.agg #[.int .i64 b,.int .i64 a,.int .i64 0]),sqV (.tuple #[.int .i64 K,.int .i64 0]),sqV (.tuple #[.int .i64 K,.int .i64 0]),sqV (.int .i64 K),sqV (.int .i64 0),sqV (.int .i64 K),sqV (.int .i64 0)]
        [true,true,true,true,true,true,true,true,true,true] [false,false,false,false,false,false,false,false,false,false] [true,true,true,true,true,true,true,true,true,true] [true,true,true,true,true,true,true,true,true,true]
        (by kernel_rfl) (by kernel_rfl) (by decide +kernel) (by decide +kernel) (by decide +kernel) rfl ⟨rfl,rfl⟩ ⟨?s0,?s1,?s2,?s3,?s4,?s5,?s6,?s7,?s8,?s9,trivial⟩ [some 226,some 227,some 228,some 229,some 230,some 225,some 231,some 232,some 23,some 24] rfl rfl ?send
       case s0 =>
        intro val ρ W hE hz hd hA hx
        have o0:ρ (.tmp 2) = .pointer (some ⟨w.heap.size,0,none⟩):=hA.old 2 (by decide)
        have f_k0:=cell_below hE (by simp only;omega) k0
        have f_k1:=cell_below hE (by simp only;omega) k1
        clear hd
        exact zd (W':=W) (by simp [execOp,o0,f_k0,f_k1,go_sem]) (Below.refl _ _) rfl
       case s1 =>
        intro val ρ W hE hz hd hA hx
        have o0:ρ (.tmp 22) = .int .i64 b:=hA.old 22 (by decide)
        clear hd
        exact zd (W':=W) (by simp [execOp,o0,go_sem]) (Below.refl _ _) rfl
       case s2 =>
        intro val ρ W hE hz hd hA hx
        have o0:ρ (.tmp 21) = .int .i64 a:=hA.old 21 (by decide)
        clear hd
        exact zd (W':=W) (by simp [execOp,o0,go_sem]) (Below.refl _ _) rfl
       case s3 =>
        intro val ρ W hE hz hd hA hx
        have d1:ρ (.tmp 227) = .int .i64 b:=(hA.dep 1 (by decide) 227 rfl).trans (hd 1 (by decide))
        have d2:ρ (.tmp 228) = .int .i64 a:=(hA.dep 2 (by decide) 228 rfl).trans (hd 2 (by decide))
        clear hd
        refine zbh 16 _ _ rfl #[.int .i64 b,.int .i64 0,.int .i64 a] (hA.func _) (by simp [d1,d2,hA.const]) (fun args W=>Tryz.call16 args W) ((z0t b 0 a W).mono ?_)
        rintro e w' ⟨rfl,hb⟩
        exact ⟨_,rfl,hb,rfl⟩
       case s4 =>
        intro val ρ W hE hz hd hA hx
        have d0:ρ (.tmp 226) = .agg #[.int .i64 h.n,.slice sa h.ws.length cap]:=(hA.dep 0 (by decide) 226 rfl).trans (hd 0 (by decide))
        have d3:ρ (.tmp 229) = .agg #[.int .i64 b,.int .i64 a,.int .i64 0]:=(hA.dep 3 (by decide) 229 rfl).trans (hd 3 (by decide))
        clear hd
        refine zbh 15 _ _ rfl #[.agg #[.int .i64 h.n,.slice sa h.ws.length cap],.agg #[.int .i64 b,.int .i64 a,.int .i64 0]] (hA.func _) (by simp [d0,d3]) (fun args W=>Tryz.call15 args W) ((T10.out W (HV.out.ext hE)).mono ?_)
        rintro e w' ⟨rfl,hb⟩
        exact ⟨_,rfl,hb,rfl⟩
       case s5 =>
        intro val ρ W hE hz hd hA hx
        have d4:ρ (.tmp 230) = .tuple #[.int .i64 K,.int .i64 0]:=(hA.dep 4 (by decide) 230 rfl).trans (hd 4 (by decide))
        clear hd
        exact zd (W':=W) (by simp [execOp,d4,go_sem]) (Below.refl _ _) rfl
       case s6 =>
        intro val ρ W hE hz hd hA hx
        have d5:ρ (.tmp 225) = .tuple #[.int .i64 K,.int .i64 0]:=(hA.dep 5 (by decide) 225 rfl).trans (hd 5 (by decide))
        clear hd
        exact zd (W':=W) (by simp [execOp,d5,go_sem]) (Below.refl _ _) rfl
       case s7 =>
        intro val ρ W hE hz hd hA hx
        have d5:ρ (.tmp 225) = .tuple #[.int .i64 K,.int .i64 0]:=(hA.dep 5 (by decide) 225 rfl).trans (hd 5 (by decide))
        clear hd
        exact zd (W':=W) (by simp [execOp,d5,go_sem]) (Below.refl _ _) rfl
       case s8 =>
        intro val ρ W hE hz hd hA hx
        have d6:ρ (.tmp 231) = .int .i64 K:=(hA.dep 6 (by decide) 231 rfl).trans (hd 6 (by decide))
        clear hd
        exact zd (W':=W) (by simp [execOp,d6,go_sem]) (Below.refl _ _) rfl
       case s9 =>
        intro val ρ W hE hz hd hA hx
        have d7:ρ (.tmp 232) = .int .i64 0:=(hA.dep 7 (by decide) 232 rfl).trans (hd 7 (by decide))
        clear hd
        exact zd (W':=W) (by simp [execOp,d7,go_sem]) (Below.refl _ _) rfl
       case send =>
        intro val WX hE hzz hv
        obtain ⟨-,-,-,-,-,-,-,-,r8,r9,-⟩:=hv
        have q8:val 8 = .int .i64 K:=r8
        have q9:val 9 = .int .i64 0:=r9
        simp only [putD,q8,q9]
        go_frame
        replace HER:=Lib.hid (HER.out.trans' hE)
        clear hE hzz q8 q9 r8 r9 k0 k1 hz ca cb zf
        go_wp2_with fail
        go_roundw
        case rel=>exact ⟨i+1,by omega,by go_num,HER.out⟩
        case measure=>simp [intOf];omega
     ·have hii:¬ ((i:Int) < (L2.length:Int)):=by omega
      have hd1:(0:Int) < (L2.length:Int):=by have:=HPOS.out;omega
      have hd2:decide ((0:Int) < (L2.length:Int))=true:=decide_eq_true hd1
      have hd3:decide (0 < L2.length)=true:=decide_eq_true HPOS.out
      clear hi hlt
      go_wp2_with fail
      refine zw (W0:=U) (g:=⟨U,Below.refl _ _⟩) xx (zgh _) fun g1 hgr=>?_
      clear hgr
      go_wp2_with fail
      go_ret
      exact ⟨rfl,HW.out.trans' (zh U _)⟩
end Go.Proofs.YtdamgacabfbpjaaGreat
