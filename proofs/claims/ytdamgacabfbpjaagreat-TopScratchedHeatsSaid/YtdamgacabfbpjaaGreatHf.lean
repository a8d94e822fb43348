/-
  The reference: Alone and Has.
-/
import Derived.Test.YtdamgacabfbpjaaGreatPa
import Derived.Test.YtdamgacabfbpjaaGreatBb
import Derived.Test.YtdamgacabfbpjaaGreatPf
import Derived.Test.YtdamgacabfbpjaaGreatHd
import Derived.Test.YtdamgacabfbpjaaGreatBc
import Derived.Test.YtdamgacabfbpjaaGreatPe
set_option maxRecDepth 200000
set_option maxHeartbeats 0
set_option linter.unusedSimpArgs false
set_option linter.unusedVariables false
set_option linter.unusedSectionVars false
namespace Go.Proofs.YtdamgacabfbpjaaGreat
open Go.Lib (hid)
open Go.RowKit Go.Shelf
theorem zabi (k:Int) (w:World):Calls Tryz.prog 82 #[.int .i64 k] w fun e w'=>e = .returned (.bool (decide (k=0) || decide (k=1)))∧Ext w w':=by
 go_enter Tryz.func82,Tryz.ntmps82
 by_cases h0:k=0
 ·subst h0
  go_wp2_with fail;go_ret;exact ⟨rfl,by exact xx⟩
 ·by_cases h1:k=1
  ·subst h1
   go_wp2_with fail;go_ret;exact ⟨rfl,by exact xx⟩
  ·have e0:(k == 0)=false:=by simpa using h0
   have e1:(k == 1)=false:=by simpa using h1
   have HH:Hid ((decide (k=0) || decide (k=1))=false):=hid (by simp [h0,h1]);rw [HH.out];go_wp2_with fail;go_ret;exact ⟨rfl,by exact xx⟩
end Go.Proofs.YtdamgacabfbpjaaGreat
namespace Go.Proofs.YtdamgacabfbpjaaGreat
open Go.Lib (hid)
open Go.RowKit Go.Shelf
def isB (b:Bk) (x:PB):Bool :=
 if x.u < 1∨1000 < x.u∨x.f < 0∨b.n≤x.f then false
 else if single b=true then decide (x.s = -1)
 else if x.s < 0∨b.n≤x.s∨x.s=x.f then false
 else decide (b.kd=2) || decide (x.f < x.s)
theorem z6o {b:Bk} (hk:0≤b.kd∧b.kd≤3) (x:PB):isB b x = !zdg b x:=by
 have e1:(inR 1 1000 x.u=false∨zci b.n x.f=false)↔(x.u < 1∨1000 < x.u∨x.f < 0∨b.n≤x.f):=by
  unfold inR zci;simp only [Bool.not_eq_false',Bool.or_eq_true,decide_eq_true_eq];omega
 have e2:(zci b.n x.s=false∨x.f=x.s)↔(x.s < 0∨b.n≤x.s∨x.s=x.f):=by
  unfold zci;simp only [Bool.not_eq_false',Bool.or_eq_true,decide_eq_true_eq];omega
 unfold isB zdg
 by_cases h1:x.u < 1∨1000 < x.u∨x.f < 0∨b.n≤x.f
 ·rw [if_pos h1,if_pos (e1.2 h1)];rfl
 rw [if_neg h1,if_neg (fun h=>h1 (e1.1 h))]
 by_cases hs:single b=true
 ·rw [if_pos hs,if_pos hs,Bool.not_not]
 rw [if_neg hs,if_neg hs]
 by_cases h2:x.s < 0∨b.n≤x.s∨x.s=x.f
 ·rw [if_pos h2,if_pos (e2.2 h2)];rfl
 rw [if_neg h2,if_neg (fun h=>h2 (e2.1 h))];unfold single at hs;simp only [Bool.or_eq_true,decide_eq_true_eq,not_or] at hs
 by_cases h3:b.kd=2
 ·have h4:¬ (b.kd=3):=by omega
  rw [decide_eq_true h3,decide_eq_false h4];rfl
 ·have h4:b.kd=3:=by omega
  rw [decide_eq_false h3,decide_eq_true h4]
  by_cases h5:x.f < x.s
  ·rw [decide_eq_true h5,decide_eq_false (show ¬ x.s < x.f by omega)];rfl
  ·rw [decide_eq_false h5,decide_eq_true (show x.s < x.f by omega)];rfl
theorem zz2 (b:Bk) (ba sa:Option Addr) (bcap scap:Nat) (x:PB) (w:World) :
  Calls Tryz.prog 45 #[.agg #[.int .i64 b.kd,.int .i64 b.n,.slice ba b.bets.length bcap,.slice sa b.scr.length scap,.bool b.fav,.int .i64 b.car,.int .i64 b.duty,.int .i64 b.step],.agg #[.int .i64 x.f,.int .i64 x.s,.int .i64 x.u]] w fun e w'=>e = .returned (.bool (isB b x))∧Ext w w':=by
 go_enter Tryz.func45,Tryz.ntmps45
 have hI:∀ c:Bool,isB b x=c→Hid (isB b x=c):=fun _ h=>hid h
 by_cases h1:x.u < 1
 ·have hA:isB b x=false:=by unfold isB;rw [if_pos (.inl h1)]
  have HA:=hI _ hA;clear hA;go_wp2_with fail;go_ret;exact ⟨by rw [HA.out];rfl,by exact xx⟩
 by_cases h2:1000 < x.u
 ·have hA:isB b x=false:=by unfold isB;rw [if_pos (.inr (.inl h2))]
  have HA:=hI _ hA;clear hA;go_wp2_with fail;go_ret;exact ⟨by rw [HA.out];rfl,by exact xx⟩
 by_cases h3:x.f < 0
 ·have hA:isB b x=false:=by unfold isB;rw [if_pos (.inr (.inr (.inl h3)))]
  have HA:=hI _ hA;clear hA;go_wp2_with fail;go_ret;exact ⟨by rw [HA.out];rfl,by exact xx⟩
 by_cases h4:b.n≤x.f
 ·have hA:isB b x=false:=by unfold isB;rw [if_pos (.inr (.inr (.inr h4)))]
  have HA:=hI _ hA;clear hA;go_wp2_with fail;go_ret;exact ⟨by rw [HA.out];rfl,by exact xx⟩
 have hn:¬ (x.u < 1∨1000 < x.u∨x.f < 0∨b.n≤x.f):=by omega
 go_wp2_with fail;refine (zabi b.kd _).mono ?_
 rintro e W1 ⟨rfl,hE1⟩;rw [show (decide (b.kd=0) || decide (b.kd=1))=single b from rfl];have k0:W1.cell? ⟨w.heap.size,0,none⟩=some (.int .i64 b.kd):=zd hE1 (by simp [go_sem]);have k1:W1.cell? ⟨w.heap.size,1,none⟩=some (.int .i64 b.n):=zd hE1 (by simp [go_sem]);have x0:W1.cell? ⟨w.heap.size+1,0,none⟩=some (.int .i64 x.f):=zd hE1 (by simp [go_sem]);have x1:W1.cell? ⟨w.heap.size+1,1,none⟩=some (.int .i64 x.s):=zd hE1 (by simp [go_sem]);have hz:=hE1.size;simp only [World.size_alloc] at hz;have HE:=hid (Ext.trans' (by exact xx) hE1:Ext w W1);clear hE1;cases hs:single b
 case true =>
  have hA:isB b x=decide (x.s = -1):=by unfold isB;rw [if_neg hn,if_pos hs]
  have HA:=hI _ hA;clear hA hs hn
  by_cases h5:x.s = -1
  ·have e5:(x.s == -1)=true:=by rw [h5];rfl
   have HC:=hid (decide_eq_true h5);clear h5;go_wp2_with fail;go_ret;exact ⟨by rw [HA.out,HC.out];rfl,HE.out⟩
  ·have e5:(x.s == -1)=false:=beq_eq_false_iff_ne.2 h5
   have HC:=hid (decide_eq_false h5);go_wp2_with fail;go_ret;exact ⟨by rw [HA.out,HC.out];rfl,HE.out⟩
 case false =>
 have hs2:¬ single b=true:=by rw [hs];decide
 have hB:isB b x=if x.s < 0∨b.n≤x.s∨x.s=x.f then false else decide (b.kd=2) || decide (x.f < x.s):=by unfold isB;rw [if_neg hn,if_neg hs2]
 have HB:=hid hB;clear hB hs hs2 hn
 by_cases h5:x.s < 0
 ·have HA:=hI false (by rw [HB.out,if_pos (.inl h5)])
  go_wp2_with fail;go_ret;exact ⟨by rw [HA.out];rfl,HE.out⟩
 by_cases h6:b.n≤x.s
 ·have HA:=hI false (by rw [HB.out,if_pos (.inr (.inl h6))])
  go_wp2_with fail;go_ret;exact ⟨by rw [HA.out];rfl,HE.out⟩
 by_cases h7:x.s=x.f
 ·have HA:=hI false (by rw [HB.out,if_pos (.inr (.inr h7))])
  have e7:(x.s == x.f)=true:=by rw [h7];exact beq_self_eq_true _
  go_wp2_with fail;go_ret;exact ⟨by rw [HA.out];rfl,HE.out⟩
 have e7:(x.s == x.f)=false:=beq_eq_false_iff_ne.2 h7
 by_cases h8:b.kd=2
 ·have HA:=hI true (by rw [HB.out,if_neg (by omega),decide_eq_true h8];rfl)
  rw [h8] at k0;clear h8;go_wp2_with fail;go_ret;exact ⟨by rw [HA.out];rfl,HE.out⟩
 have e8:(b.kd == 2)=false:=beq_eq_false_iff_ne.2 h8
 by_cases h9:x.f < x.s
 ·have HA:=hI true (by rw [HB.out,if_neg (by omega),decide_eq_true h9,Bool.or_true])
  go_wp2_with fail;go_ret;exact ⟨by rw [HA.out];rfl,HE.out⟩
 ·have HA:=hI false (by rw [HB.out,if_neg (by omega),decide_eq_false h8,decide_eq_false h9];rfl)
  have HD:=hid (decide_eq_false h9);go_wp2_with fail;go_ret;exact ⟨congrArg (fun c=>Ending.returned (.bool c)) (HD.out.trans HA.out.symm),HE.out⟩
end Go.Proofs.YtdamgacabfbpjaaGreat
namespace Go.Proofs.YtdamgacabfbpjaaGreat
open Go.Lib (hid)
open Go.RowKit Go.Shelf
structure BkR (b:Bk):Prop where
 kd:0≤b.kd∧b.kd≤3
 n:2≤b.n∧b.n≤8
 car:0≤b.car∧b.car≤1000000
 duty:0≤b.duty∧b.duty≤500
 step:1≤b.step∧b.step≤100
theorem zsf {lo hi n:Int} (h:n < lo∨hi < n):inR lo hi n=false:=by
 rw [Bool.eq_false_iff];intro e;rw [zbp] at e;omega
theorem zpf {lo hi n:Int} (h:lo≤n∧n≤hi):¬ inR lo hi n=false:=by rw [zbp.2 h];simp
theorem bk2 {b:Bk} (h:b.kd < 0∨3 < b.kd):zai b=2:=by unfold zai;rw [if_pos (zsf h)]
theorem bk3 {b:Bk} (hk:0≤b.kd∧b.kd≤3) (h:(b.n < 2∨8 < b.n)∨(b.car < 0∨1000000 < b.car)∨(b.duty < 0∨500 < b.duty)∨(b.step < 1∨100 < b.step)):zai b=3:=by
 unfold zai;rw [if_neg (zpf hk),if_pos (h.imp zsf fun h=>h.imp zsf fun h=>h.imp zsf zsf)]
theorem BkR.no {b:Bk} (r:BkR b):¬ (inR 2 8 b.n=false∨inR 0 1000000 b.car=false∨inR 0 500 b.duty=false∨inR 1 100 b.step=false):=by
 rw [zbp.2 r.n,zbp.2 r.car,zbp.2 r.duty,zbp.2 r.step];simp
theorem bk6 {b:Bk} (r:BkR b) (h:100 < b.bets.length):zai b=6:=by
 unfold zai;rw [if_neg (zpf r.kd),if_neg r.no,if_pos h]
theorem bk16 {b:Bk} (r:BkR b) (h:b.bets.length≤100) {x:PB} (hx:x∈b.bets) (ho:isB b x=false):zai b=16:=by
 unfold zai;rw [z6o r.kd] at ho;rw [if_neg (zpf r.kd),if_neg r.no,if_neg (by omega),if_pos (List.any_eq_true.2 ⟨x,hx,by simpa using ho⟩)]
theorem z6p {b:Bk} (r:BkR b) (hb:∀ x∈b.bets,isB b x=true):¬ b.bets.any (zdg b)=true:=by
 intro h;obtain ⟨x,hx,ho⟩:=List.any_eq_true.1 h;have:=hb x hx;rw [z6o r.kd,ho] at this;cases this
theorem z80 {b:Bk} (r:BkR b) (h:b.bets.length≤100) (hb:∀ x∈b.bets,isB b x=true) (hs:b.n - 2 < (b.scr.length:Int)∨∃ i,i < b.scr.length∧((gt b.scr i < 0∨b.n≤gt b.scr i)∨flat b.scr i=true)):zai b=15:=by
 unfold zai;rw [if_neg (zpf r.kd),if_neg r.no,if_neg (by omega),if_neg (z6p r hb),if_pos]
 rcases hs with hs | ⟨i,hi,hs | hs⟩
 ·exact .inl hs
 ·refine .inr (.inl ?_)
  rw [Bool.eq_false_iff];intro he;have:=zgd.1 (List.all_eq_true.1 he _ (List.getElem_mem hi));rw [gt_get hi] at this;omega
 ·refine .inr (.inr ?_)
  unfold rising;rw [List.any_eq_true.2 ⟨i,List.mem_range.2 hi,hs⟩];rfl
theorem bk0 {b:Bk} (r:BkR b) (h:b.bets.length≤100) (hb:∀ x∈b.bets,isB b x=true) (hl:(b.scr.length:Int)≤b.n - 2) (hs:∀ i,i < b.scr.length→(0≤gt b.scr i∧gt b.scr i < b.n)∧flat b.scr i=false):zai b=0:=by
 unfold zai;rw [if_neg (zpf r.kd),if_neg r.no,if_neg (by omega),if_neg (z6p r hb),if_neg];rintro (h1 | h1 | h1)
 ·omega
 ·rw [List.all_eq_true.2 fun x hx=>?_] at h1
  ·cases h1
  ·obtain ⟨i,hi,rfl⟩:=List.getElem_of_mem hx
   rw [gt_get hi];exact zgd.2 (hs i hi).1
 ·unfold rising at h1
  rw [List.any_eq_false.2 fun i hi=>by rw [(hs i (List.mem_range.1 hi)).2];simp] at h1;cases h1
theorem z4f (b:Bk) (ba sa:Option Addr) (bcap scap:Nat) (w:World) (hv:zc4 w b ba bcap sa scap) :
  Calls Tryz.prog 20 #[.agg #[.int .i64 b.kd,.int .i64 b.n,.slice ba b.bets.length bcap,.slice sa b.scr.length scap,.bool b.fav,.int .i64 b.car,.int .i64 b.duty,.int .i64 b.step]] w fun e w'=>e = .returned (.int .i64 (zai b))∧Ext w w':=by
 obtain ⟨⟨q1,q2⟩,q3,q4⟩:=hv.caps;have HV:=hid hv;clear hv
 go_enter Tryz.func20,Tryz.ntmps20
 go_upto_region 1 with (fail);obtain ⟨W0,hW0⟩:∃ W0,W0=w.alloc (.cells #[.int .i64 b.kd,.int .i64 b.n,.slice ba b.bets.length bcap,.slice sa b.scr.length scap,.bool b.fav,.int .i64 b.car,.int .i64 b.duty,.int .i64 b.step] 41):=⟨_,rfl⟩
 have hE:Ext w W0:=by rw [hW0];exact xx
 have k0:W0.cell? ⟨w.heap.size,0,none⟩=some (.int .i64 b.kd):=by rw [hW0];simp [go_sem]
 have k1:W0.cell? ⟨w.heap.size,1,none⟩=some (.int .i64 b.n):=by rw [hW0];simp [go_sem]
 have k2:W0.cell? ⟨w.heap.size,2,none⟩=some (.slice ba b.bets.length bcap):=by rw [hW0];simp [go_sem]
 have k3:W0.cell? ⟨w.heap.size,3,none⟩=some (.slice sa b.scr.length scap):=by rw [hW0];simp [go_sem]
 have k4:W0.cell? ⟨w.heap.size,4,none⟩=some (.bool b.fav):=by rw [hW0];simp [go_sem]
 have k5:W0.cell? ⟨w.heap.size,5,none⟩=some (.int .i64 b.car):=by rw [hW0];simp [go_sem]
 have k6:W0.cell? ⟨w.heap.size,6,none⟩=some (.int .i64 b.duty):=by rw [hW0];simp [go_sem]
 have k7:W0.cell? ⟨w.heap.size,7,none⟩=some (.int .i64 b.step):=by rw [hW0];simp [go_sem]
 have hz:w.heap.size < W0.heap.size:=World.block_lt_of_cell? _ _ k0;have HS:=hid (HV.out.ext hE);have HW:=hid hE;rw [← hW0];clear hW0 HV;clear hE
 by_cases h1:b.kd < 0
 ·go_wp2_with fail
  go_ret;exact ⟨zq (bk2 (.inl h1)).symm,HW.out⟩
 by_cases h2:3 < b.kd
 ·go_wp2_with fail
  go_ret;exact ⟨zq (bk2 (.inr h2)).symm,HW.out⟩
 have hk:0≤b.kd∧b.kd≤3:=by omega
 by_cases h3:b.n < 2
 ·skip
  go_wp2_with fail;go_ret;exact ⟨zq (bk3 hk (.inl (.inl h3))).symm,HW.out⟩
 by_cases h4:8 < b.n
 ·skip
  go_wp2_with fail;go_ret;exact ⟨zq (bk3 hk (.inl (.inr h4))).symm,HW.out⟩
 by_cases h5:b.car < 0
 ·skip
  go_wp2_with fail;go_ret;exact ⟨zq (bk3 hk (.inr (.inl (.inl h5)))).symm,HW.out⟩
 by_cases h6:1000000 < b.car
 ·skip
  go_wp2_with fail;go_ret;exact ⟨zq (bk3 hk (.inr (.inl (.inr h6)))).symm,HW.out⟩
 by_cases h7:b.duty < 0
 ·skip
  go_wp2_with fail;go_ret;exact ⟨zq (bk3 hk (.inr (.inr (.inl (.inl h7))))).symm,HW.out⟩
 by_cases h8:500 < b.duty
 ·skip
  go_wp2_with fail;go_ret;exact ⟨zq (bk3 hk (.inr (.inr (.inl (.inr h8))))).symm,HW.out⟩
 by_cases h9:b.step < 1
 ·skip
  go_wp2_with fail;go_ret;exact ⟨zq (bk3 hk (.inr (.inr (.inr (.inl h9))))).symm,HW.out⟩
 by_cases h10:100 < b.step
 ·skip
  go_wp2_with fail;go_ret;exact ⟨zq (bk3 hk (.inr (.inr (.inr (.inr h10))))).symm,HW.out⟩
 have R:BkR b:=⟨hk,by omega,by omega,by omega,by omega⟩
 by_cases h11:100 < b.bets.length
 ·have h11i:(100:Int) < (b.bets.length:Int):=by omega
  have H11:=hid h11;clear h11;go_wp2_with fail;go_ret;exact ⟨zq (bk6 R H11.out).symm,HW.out⟩
 have h11i:¬ ((100:Int) < (b.bets.length:Int)):=by omega
 have hn1:=R.n;have RR:=hid R;have H11:=hid (by omega:b.bets.length≤100);clear R h11;go_wp2_with fail;clear h1 h2 h3 h4 h5 h6 h7 h8 h9 h10 hk;obtain ⟨_,_,e0,-,-,hbc⟩:=HS.out.bets.spec;cases e0;obtain ⟨_,_,e0,-,-,hsc⟩:=HS.out.scr.spec;cases e0;have HBC:=hid hbc;have HSC:=hid hsc;clear hbc hsc
 go_loopw [3] (fun iv W=>∃ k:Nat,k≤b.bets.length∧iv = .int .i64 k∧(∀ x∈b.bets.take k,isB b x=true)∧Ext W0 W) (fun iv _=>b.bets.length - (intOf iv).toNat)
 case atStart=>exact ⟨0,by omega,rfl,by simp,Below.refl _ _⟩
 case round =>
  obtain ⟨k,hk,rfl,hno,hE⟩:=hrel;have HNO:=hid hno;have HE:=hid hE;have k0':=zd hE k0;have k1':=zd hE k1;have k2':=zd hE k2;have k3':=zd hE k3;have k4':=zd hE k4;have k5':=zd hE k5;have k6':=zd hE k6;have k7':=zd hE k7;have hz':=World.block_lt_of_cell? _ _ k0';simp only at hz'
  by_cases hlt:k < b.bets.length
  ·have hki:(k:Int) < (b.bets.length:Int):=by omega
   rcases HBC.out with hc | ⟨bb,off,rfl,hc⟩
   ·rw [hc] at hlt;simp at hlt
   have d0:=zd hE (hc k hlt).1;have d1:=zd hE (hc k hlt).2.1;have d2:=zd hE (hc k hlt).2.2;have hzd:=World.block_lt_of_cell? _ _ d0;simp only at hzd;obtain ⟨x,hx⟩:∃ x,x=b.bets[k]:=⟨_,rfl⟩
   rw [← hx] at d0 d1 d2;have HX:=hid hx;clear hno hE hc hx k0 k1 k2 k3 k4 k5 k6 k7;go_upto_region 10 with (fail);refine zx2 (by kernel_rfl) (by kernel_rfl) ?_
   repeat (first | go_big_quiet_step ((go_at_call 45;exact zy8 (zz2 b _ sa bcap scap x _))) | quiet_step ((go_at_call 45;exact zy8 (zz2 b _ sa bcap scap x _))))
   refine wpQuiet_nil ?_
   rintro _ ⟨g,rfl⟩;cases hb:isB b x
   ·go_wp2_with fail
    go_ret;exact ⟨zq (bk16 RR.out H11.out (by rw [HX.out];exact List.getElem_mem hlt) hb).symm,(HW.out.trans' HE.out).trans' (zm wr g)⟩
   ·have HB:=hid hb
    clear hb;go_wp2_with fail;go_roundw
    case rel =>
     refine ⟨k+1,by omega,by go_num,fun y hy=>?_,HE.out.trans' (zm wr g)⟩;rw [List.take_add_one,List.getElem?_eq_getElem hlt] at hy
     rcases List.mem_append.1 hy with h | h
     ·exact HNO.out y h
     ·simp at h
      rw [h,← HX.out];exact HB.out
    case measure=>simp [intOf];omega
  ·have hki:¬ ((k:Int) < (b.bets.length:Int)):=by omega
   have hall:∀ x∈b.bets,isB b x=true:=by
    have:k=b.bets.length:=by omega
    rw [this,List.take_length] at hno;exact hno
   have HALL:=hid hall;have hwn:IntKind.i64.wrap (b.n - 2)=b.n - 2:=IntWalk.i64_in _ (by omega);clear hno hE hall k0 k1 k2 k3 k4 k5 k6 k7
   by_cases h8:b.n - 2 < (b.scr.length:Int)
   ·have H8:=hid h8
    go_wp2_with fail;go_ret;exact ⟨zq (z80 RR.out H11.out HALL.out (.inl H8.out)).symm,HW.out.trans' HE.out⟩
   obtain ⟨Wa,rfl⟩:∃ Wa,Wa=wr:=⟨_,rfl⟩
   go_wp2_with fail
   go_loopw [4] (fun iv W=>∃ j:Nat,j≤b.scr.length∧iv = .int .i64 j∧(∀ i,i < j→(0≤gt b.scr i∧gt b.scr i < b.n)∧flat b.scr i=false)∧Ext Wa W) (fun iv _=>b.scr.length - (intOf iv).toNat)
   case atStart=>exact ⟨0,by omega,rfl,fun i hi=>by omega,Below.refl _ _⟩
   case round =>
    obtain ⟨j,hj,rfl,hno,hE⟩:=hrel;have HNO:=hid hno;have HE2:=hid hE;have k0:=zd hE k0';have k1:=zd hE k1';have k3:=zd hE k3';have hz2:=World.block_lt_of_cell? _ _ k1;simp only at hz2;clear hno k0' k1' k2' k3' k4' k5' k6' k7';have HF:=hid (HW.out.trans' HE.out)
    by_cases hlt2:j < b.scr.length
    ·have hji:(j:Int) < (b.scr.length:Int):=by omega
     rcases HSC.out with hc | ⟨sb,off,rfl,hc⟩
     ·rw [hc] at hlt2;simp at hlt2
     have d0:=zd (HE.out.trans' hE) (hc j hlt2);rw [gt_get] at d0;obtain ⟨y,hy⟩:∃ y,y=gt b.scr j:=⟨_,rfl⟩
     rw [← hy] at d0;have HY:=hid hy;have HSC2:=hid hc;have hze:=World.block_lt_of_cell? _ _ d0;simp only at hze;clear hy hc
     by_cases hy0:y < 0
     ·clear hE
      go_upto_region 17 with (fail)
      go_quiet (fail)
      go_wp2_with fail;go_ret;exact ⟨zq (z80 RR.out H11.out HALL.out (.inr ⟨j,hlt2,.inl (.inl (by rw [← HY.out];exact hy0))⟩)).symm,(HF.out.trans' HE2.out).drN _⟩
     by_cases hyn:b.n≤y
     ·clear hE
      go_upto_region 17 with (fail)
      go_quiet (fail)
      go_wp2_with fail;go_ret;exact ⟨zq (z80 RR.out H11.out HALL.out (.inr ⟨j,hlt2,.inl (.inr (by rw [← HY.out];exact hyn))⟩)).symm,(HF.out.trans' HE2.out).drN _⟩
     by_cases hj0:j=0
     ·have hd:decide ((0:Int) < (j:Int))=false:=decide_eq_false (by omega)
      have hd2:decide (0 < j)=false:=decide_eq_false (by omega);have hf:flat b.scr j=false:=by unfold flat;rw [decide_eq_false (by omega)];rfl
      have HFL:=hid hf;clear hE hf hj0;go_upto_region 17 with (fail)
      go_quiet (fail)
      go_wp2_with fail;go_roundw
      case rel =>
       refine ⟨j+1,by omega,by go_num,fun i hi=>?_,HE2.out.drN _⟩
       by_cases e:i=j
       ·rw [e,← HY.out];exact ⟨by omega,HFL.out⟩
       ·exact HNO.out i (by omega)
      case measure=>simp [intOf];omega
     ·obtain ⟨p,rfl⟩:∃ p,j=p+1:=⟨j - 1,by omega⟩
      have hd:decide ((0:Int) < ((p+1:Nat):Int))=true:=decide_eq_true (by omega);have hw1:IntKind.i64.wrap (((p+1:Nat):Int) - 1)=(p:Int):=by rw [IntWalk.i64_in _ (by omega)];omega
      have hpi:(p:Int) < (b.scr.length:Int):=by omega
      have d1:=zd (HE.out.trans' hE) (HSC2.out p (by omega));rw [gt_get] at d1;obtain ⟨x,hx⟩:∃ x,x=gt b.scr p:=⟨_,rfl⟩
      rw [← hx] at d1;have hfl:flat b.scr (p+1)=decide (y≤x):=by unfold flat;rw [decide_eq_true (by omega),Bool.true_and,Nat.add_sub_cancel,hx,HY.out]
      have HFL:=hid hfl;clear hE hfl hx hj0
      by_cases hyx:y≤x
      ·go_upto_region 17 with (fail)
       go_quiet (fail)
       go_wp2_with fail;go_ret;exact ⟨zq (z80 RR.out H11.out HALL.out (.inr ⟨p+1,hlt2,.inr (by rw [HFL.out];exact decide_eq_true hyx)⟩)).symm,(HF.out.trans' HE2.out).drN _⟩
      ·have HYX:=hid hyx
       go_upto_region 17 with (fail)
       go_quiet (fail)
       go_wp2_with fail;go_roundw
       case rel =>
        refine ⟨p+1+1,by omega,by go_num,fun i hi=>?_,HE2.out.drN _⟩
        by_cases e:i=p+1
        ·rw [e,← HY.out];exact ⟨by omega,by rw [HFL.out];exact decide_eq_false HYX.out⟩
        ·exact HNO.out i (by omega)
       case measure=>simp [intOf];omega
    ·have hji:¬ ((j:Int) < (b.scr.length:Int)):=by omega
     have hjl:j=b.scr.length:=by omega
     have H0:=hid (bk0 RR.out H11.out HALL.out (by omega) (by rw [← hjl];exact HNO.out));clear hE hjl;go_wp2_with fail;go_ret;exact ⟨zq H0.out.symm,HF.out.trans' HE2.out⟩
end Go.Proofs.YtdamgacabfbpjaaGreat
namespace Go.Proofs.YtdamgacabfbpjaaGreat
open Go.Lib (hid)
open Go.RowKit Go.Shelf
def zdb (b:Bk) (r:Int):Int:=if zai b≠0 then zai b else if zci b.n r=false then 3 else if zbr b r=true then 11 else if (b.scr.length:Int)=b.n - 2 then 10 else 0
def za2 (b:Bk) (r:Int):Bk:={ b with scr:=zhb (b.scr ++ [r]) }
def zif:Value:=.agg #[.int .i64 0,.int .i64 0,.slice none 0 0,.slice none 0 0,.bool false,.int .i64 0,.int .i64 0,.int .i64 0]
def z81 (b:Bk) (ba:Option Addr) (bcap:Nat) (sa:Option Addr) (scap:Nat):Value:=.agg #[.int .i64 b.kd,.int .i64 b.n,.slice ba b.bets.length bcap,.slice sa b.scr.length scap,.bool b.fav,.int .i64 b.car,.int .i64 b.duty,.int .i64 b.step]
def zyn:Array Value:=#[.int .i64 0,.int .i64 0,.slice none 0 0,.slice none 0 0,.bool false,.int .i64 0,.int .i64 0,.int .i64 0]
def RowB (W:World) (g:Nat) (vs:Array Value):Prop:=W.heap[g]? = some (.cells vs 41 (0,0))
theorem RowB.cell {W:World} {g:Nat} {vs:Array Value} (h:RowB W g vs) (j:Nat):W.cell? ⟨g,j,none⟩=vs[j]?:=cell_of_row _ _ _ _ _ _ h
theorem RowB.fr {W:World} {g:Nat} {vs:Array Value} (h:RowB W g vs) (o:Nat):W.frozen? ⟨g,o,none⟩=false:=by
 have h':W.heap[g]? = _:=h;simp [World.frozen?,h']
theorem RowB.lt {W:World} {g:Nat} {vs:Array Value} (h:RowB W g vs):g < W.heap.size:=(Array.getElem?_eq_some_iff.1 h).1
theorem RowB.ext {W W':World} {g:Nat} {vs:Array Value} (h:RowB W g vs) (e:Ext W W'):RowB W' g vs:=(e.block _ h.lt).trans h
theorem zlh {w W:World} (h:Ext w W) {g:Nat} (hg:w.heap.size≤g) (a b c d e f x y:Value):Ext w ((((((((W.setCell ⟨g,0,none⟩ a).setCell ⟨g,1,none⟩ b).setCell ⟨g,2,none⟩ c).setCell ⟨g,3,none⟩ d).setCell ⟨g,4,none⟩ e).setCell ⟨g,5,none⟩ f).setCell ⟨g,6,none⟩ x).setCell ⟨g,7,none⟩ y) :=
 (((((((h.setCell hg _).setCell hg _).setCell hg _).setCell hg _).setCell hg _).setCell hg _).setCell hg _).setCell hg _
def zaht (w:World) (b:Bk) (r:Int) (e:Ending) (w':World):Prop :=
 Ext w w'∧((zdb b r≠0∧e = .returned (.tuple #[zif,.int .i64 (zdb b r)])) ∨
  (zdb b r=0∧∃ (ba sa:Option Addr) (bcap scap:Nat),e = .returned (.tuple #[z81 (za2 b r) ba bcap sa scap,.int .i64 0])∧zc4 w' (za2 b r) ba bcap sa scap))
theorem z5a (r:Int) (b:Bk) (ba sa:Option Addr) (bcap scap:Nat) (w:World) (hv:zc4 w b ba bcap sa scap) :
  Calls Tryz.prog 18 #[.agg #[.int .i64 b.kd,.int .i64 b.n,.slice ba b.bets.length bcap,.slice sa b.scr.length scap,.bool b.fav,.int .i64 b.car,.int .i64 b.duty,.int .i64 b.step],.int .i64 r] w (zaht w b r):=by
 have HV:=hid hv;clear hv
 go_enter Tryz.func18,Tryz.ntmps18
 go_upto_region 1 with (fail);obtain ⟨W0,hW0⟩:∃ W0,W0=(w.alloc (.cells #[.int .i64 b.kd,.int .i64 b.n,.slice ba b.bets.length bcap,.slice sa b.scr.length scap,.bool b.fav,.int .i64 b.car,.int .i64 b.duty,.int .i64 b.step] 41)).alloc (.cells #[.int .i64 0,.int .i64 0,.slice none 0 0,.slice none 0 0,.bool false,.int .i64 0,.int .i64 0,.int .i64 0] 41):=⟨_,rfl⟩
 have hE0:Ext w W0:=by rw [hW0];exact xx
 have hbk0:zds W0 w.heap.size b ba bcap sa scap:=by rw [hW0];constructor<;>simp [go_sem]
 have hzr:RowB W0 (w.heap.size+1) zyn:=by
  rw [hW0];have:=World.alloc_heap_new (w.alloc (.cells #[.int .i64 b.kd,.int .i64 b.n,.slice ba b.bets.length bcap,.slice sa b.scr.length scap,.bool b.fav,.int .i64 b.car,.int .i64 b.duty,.int .i64 b.step] 41)) (.cells #[.int .i64 0,.int .i64 0,.slice none 0 0,.slice none 0 0,.bool false,.int .i64 0,.int .i64 0,.int .i64 0] 41)
  rwa [World.size_alloc] at this
 rw [← hW0];have k0:=(hbk0).c0;have k1:=(hbk0).c1;have k2:=(hbk0).c2;have k3:=(hbk0).c3;have k4:=(hbk0).c4;have k5:=(hbk0).c5;have k6:=(hbk0).c6;have k7:=(hbk0).c7;have hz:=(hbk0).lt;have HE0:=hid hE0;have HBK0:=hid hbk0;have HZ0:=hid hzr;clear hW0 hE0 hbk0 hzr;go_wp2_with fail;refine (zu0 b ba sa bcap scap _ (HV.out.ext HE0.out)).mono ?_
 rintro e W1 ⟨hE1,⟨hne,rfl⟩ | ⟨h0,p,m,rfl,hp,hT⟩⟩
 ·obtain ⟨er,her⟩:∃ er,er=zai b:=⟨_,rfl⟩
  rw [← her] at hne ⊢;have f1:(er != 0)=true:=by simpa using hne
  have HE1:=hid (HE0.out.trans' hE1);have HER:=hid her;have HNE:=hid hne;have hz:=HZ0.out.ext hE1;have z0:=(hz).cell 0;have z1:=(hz).cell 1;have z2:=(hz).cell 2;have z3:=(hz).cell 3;have z4:=(hz).cell 4;have z5:=(hz).cell 5;have z6:=(hz).cell 6;have z7:=(hz).cell 7;have zf:=fun o=>(hz).fr o
  have zz:=(hz).lt;simp only [zyn,List.getElem?_toArray,List.getElem?_cons_zero,List.getElem?_cons_succ] at z0 z1 z2 z3 z4 z5 z6 z7;clear her hne hE1 hz k0 k1 k2 k3 k4 k5 k6 k7;go_wp2_with fail;refine bodyPost_ret (v:=.tuple #[zif,.int .i64 er]) (by simp [results,Tryz.results18,go_sem,zif,z0,z1,z2,z3,z4,z5,z6,z7,zf]) rfl ?_
  have e1:zdb b r=er:=by unfold zdb;rw [← HER.out,if_pos HNE.out]
  exact ⟨zlh HE1.out (Nat.le_succ _) _ _ _ _ _ _ _ _,.inl ⟨by rw [e1];exact HNE.out,by rw [e1]⟩⟩
 have V:=hid (zht h0);have H0:=hid h0;have HT1:=hid hT;have HE1:=hid (HE0.out.trans' hE1);have HBK1:=hid (HBK0.out.ext hE1);have HZ1:=hid (HZ0.out.ext hE1);have HS1:=hid (HV.out.ext HE1.out);clear hE1 h0 hT k0 k1 k2 k3 k4 k5 k6 k7;have hbk:=HBK1.out;have k0:=(hbk).c0;have k1:=(hbk).c1;have k2:=(hbk).c2;have k3:=(hbk).c3;have k4:=(hbk).c4;have k5:=(hbk).c5;have k6:=(hbk).c6;have k7:=(hbk).c7;have hz:=(hbk).lt;clear hbk;go_wp2_with fail;refine (zh7 b ba sa bcap scap _ [r] _ (zcg (by omega) (by omega) (by simp [go_sem]))).mono ?_
 rintro e W2 ⟨rfl,hE2⟩;rw [zd1];have hE12:Ext W1 W2:=Ext.trans' (by exact xx) hE2;have HE2:=hid (HE1.out.trans' hE12);have HBK2:=hid (HBK1.out.ext hE12);have hzr:=HZ1.out.ext hE12;have HZ2:=hid hzr;have HT2:=hid (HT1.out.ext hE12);have HS2:=hid (HS1.out.ext hE12);clear hE2 hE12 k0 k1 k2 k3 k4 k5 k6 k7
 rcases hr:zci b.n r with _ | _
 ·have e1:Hid (zdb b r=3):=hid (by unfold zdb;rw [if_neg (fun h=>h H0.out),if_pos hr])
  have z0:=(hzr).cell 0;have z1:=(hzr).cell 1;have z2:=(hzr).cell 2;have z3:=(hzr).cell 3;have z4:=(hzr).cell 4;have z5:=(hzr).cell 5;have z6:=(hzr).cell 6;have z7:=(hzr).cell 7;have zf:=fun o=>(hzr).fr o
  have zz:=(hzr).lt;simp only [zyn,List.getElem?_toArray,List.getElem?_cons_zero,List.getElem?_cons_succ] at z0 z1 z2 z3 z4 z5 z6 z7;clear hr hzr;go_wp2_with fail;refine bodyPost_ret (v:=.tuple #[zif,.int .i64 3]) (by simp [results,Tryz.results18,go_sem,zif,z0,z1,z2,z3,z4,z5,z6,z7,zf]) rfl ?_
  exact ⟨zlh HE2.out (Nat.le_succ _) _ _ _ _ _ _ _ _,.inl ⟨by rw [e1.out];decide,by rw [e1.out]⟩⟩
 have HR:=hid hr;clear hr hzr;have t3:=HT2.out.till.c3;have hzp:=HT2.out.till.lt;go_wp2_with fail;refine (zki b sa scap r p _ t3 HS2.out.scr).mono ?_
 rintro e W3 ⟨rfl,hE3⟩;have HE3:=hid (HE2.out.trans' hE3);have HBK3:=hid (HBK2.out.ext hE3);have hzr:=HZ2.out.ext hE3;have HZ3:=hid hzr;have HS3:=hid (HS2.out.ext hE3);clear hE3 t3 hzp
 rcases ho:zbr b r with _ | _
 case true =>
  have e1:Hid (zdb b r=11):=hid (by unfold zdb;rw [if_neg (fun h=>h H0.out),if_neg (by rw [HR.out];decide),if_pos ho]);have z0:=(hzr).cell 0;have z1:=(hzr).cell 1;have z2:=(hzr).cell 2;have z3:=(hzr).cell 3;have z4:=(hzr).cell 4;have z5:=(hzr).cell 5;have z6:=(hzr).cell 6;have z7:=(hzr).cell 7;have zf:=fun o=>(hzr).fr o
  have zz:=(hzr).lt;simp only [zyn,List.getElem?_toArray,List.getElem?_cons_zero,List.getElem?_cons_succ] at z0 z1 z2 z3 z4 z5 z6 z7;clear ho hzr;go_wp2_with fail;refine bodyPost_ret (v:=.tuple #[zif,.int .i64 11]) (by simp [results,Tryz.results18,go_sem,zif,z0,z1,z2,z3,z4,z5,z6,z7,zf]) rfl ?_
  exact ⟨zlh HE3.out (Nat.le_succ _) _ _ _ _ _ _ _ _,.inl ⟨by rw [e1.out];decide,by rw [e1.out]⟩⟩
 have HO:=hid ho;clear ho hzr;have hbk:=HBK3.out;have k0:=(hbk).c0;have k1:=(hbk).c1;have k2:=(hbk).c2;have k3:=(hbk).c3;have k4:=(hbk).c4;have k5:=(hbk).c5;have k6:=(hbk).c6;have k7:=(hbk).c7;have hz:=(hbk).lt;clear hbk;have hn:=V.out.n;have hw2:IntKind.i64.wrap (b.n - 2)=b.n - 2:=IntWalk.i64_in _ (by omega)
 by_cases hf:(b.scr.length:Int)=b.n - 2
 ·have f1:((b.scr.length:Int) == b.n - 2)=true:=by rw [hf];exact beq_self_eq_true _
  have f2:decide ((b.scr.length:Int)=b.n - 2)=true:=decide_eq_true hf;have e1:Hid (zdb b r=10):=hid (by unfold zdb;rw [if_neg (fun h=>h H0.out),if_neg (by rw [HR.out];decide),if_neg (by rw [HO.out];decide),if_pos hf]);have hzr:=HZ3.out;have z0:=(hzr).cell 0;have z1:=(hzr).cell 1;have z2:=(hzr).cell 2;have z3:=(hzr).cell 3;have z4:=(hzr).cell 4;have z5:=(hzr).cell 5;have z6:=(hzr).cell 6;have z7:=(hzr).cell 7;have zf:=fun o=>(hzr).fr o
  have zz:=(hzr).lt;simp only [zyn,List.getElem?_toArray,List.getElem?_cons_zero,List.getElem?_cons_succ] at z0 z1 z2 z3 z4 z5 z6 z7;clear hf hzr;go_wp2_with fail;refine bodyPost_ret (v:=.tuple #[zif,.int .i64 10]) (by simp [results,Tryz.results18,go_sem,zif,z0,z1,z2,z3,z4,z5,z6,z7,zf]) rfl ?_
  exact ⟨zlh HE3.out (Nat.le_succ _) _ _ _ _ _ _ _ _,.inl ⟨by rw [e1.out];decide,by rw [e1.out]⟩⟩
 have f1:((b.scr.length:Int) == b.n - 2)=false:=beq_eq_false_iff_ne.2 hf;have e1:Hid (zdb b r=0):=hid (by unfold zdb;rw [if_neg (fun h=>h H0.out),if_neg (by rw [HR.out];decide),if_neg (by rw [HO.out];decide),if_neg hf]);go_upto_region 11 with (fail);obtain ⟨U,hU⟩:∃ U,U=W3.alloc (.cells #[.int .i64 b.kd,.int .i64 b.n,.slice ba b.bets.length bcap,.slice sa b.scr.length scap,.bool b.fav,.int .i64 b.car,.int .i64 b.duty,.int .i64 b.step] 41):=⟨_,rfl⟩
 have hEU:Ext W3 U:=by rw [hU];exact xx
 have hxr:RowB U W3.heap.size #[.int .i64 b.kd,.int .i64 b.n,.slice ba b.bets.length bcap,.slice sa b.scr.length scap,.bool b.fav,.int .i64 b.car,.int .i64 b.duty,.int .i64 b.step]:=by rw [hU];exact World.alloc_heap_new W3 _
 have hUz:U.heap.size=W3.heap.size+1:=by rw [hU];simp
 rw [← hU];have hN:=V.out.many;obtain ⟨Wm,cur,hmk,hcur,hcz,hEm⟩:=zabc U b.bets.length (by omega);have hbkU:=HBK3.out.ext hEU;have u2:=hbkU.c2;have u3:=hbkU.c3;have huz:=hbkU.lt;have hxm:=hxr.ext hEm;have xm2:=hxm.cell 2;have xmf:=hxm.fr 2;have hmz:=hEm.size;have hxz:=hxm.lt;simp only [List.getElem?_toArray,List.getElem?_cons_zero,List.getElem?_cons_succ] at xm2;have HEU:=hid hEU;have HEM:=hid hEm;have HCUR:=hid hcur;have HCZ:=hid hcz;have HXM:=hid hxm;have HBU:=hid hbkU;clear hU hEU hxr hEm hcur hcz hxm hbkU k0 k1 k2 k3 k4 k5 k6 k7 hf f1;go_upto_region 12 with (fail);obtain ⟨X1,hX1⟩:∃ X1,X1=Wm.setCell ⟨W3.heap.size,2,none⟩ (.slice (some ⟨W3.heap.size+1,0,none⟩) b.bets.length b.bets.length):=⟨_,rfl⟩
 have hE1:Ext W3 X1:=by rw [hX1];exact (HEU.out.trans' HEM.out).setCell (Nat.le_refl _) _
 have hc1:X1.heap[W3.heap.size+1]? = some (.cells cur 52 (0,0)):=by
  rw [hX1,Below.heap_setCell _ _ _ _ (by simp)];have:=HCUR.out
  rwa [hUz] at this
 have hr1:RowB X1 W3.heap.size #[.int .i64 b.kd,.int .i64 b.n,.slice (some ⟨W3.heap.size+1,0,none⟩) b.bets.length b.bets.length,.slice sa b.scr.length scap,.bool b.fav,.int .i64 b.car,.int .i64 b.duty,.int .i64 b.step]:=by
  rw [hX1];exact zl HXM.out 2 _
 rw [← hX1];obtain ⟨Xc,hcp,hkc,hbc⟩:=zabd X1 (W3.heap.size+1) b.bets.length cur b.bets ba bcap 3 hc1 HCZ.out (HS3.out.bets.ext hE1) (by omega);have r12:=hr1.cell 2;have b1:=HBK3.out.ext hE1;have v2:=b1.c2;have vz:=b1.lt;have vrz:=hr1.lt;simp only [List.getElem?_toArray,List.getElem?_cons_zero,List.getElem?_cons_succ] at r12;have HC1:=hid hc1;have HR1:=hid hr1;have HE1X:=hid hE1;have HKC:=hid hkc;have HBC:=hid hbc;clear hX1 hE1 hc1 hr1 hkc hbc b1 hmk u2 u3 huz xm2 xmf hmz hxz;go_upto_region 13 with (fail);have hEc:Ext W3 Xc:=HE1X.out.trans (Kept.below (HKC.out.mono (T:=fun k=>k < W3.heap.size) fun k _ h=>by omega) HE1X.out.size);have hrc:RowB Xc W3.heap.size #[.int .i64 b.kd,.int .i64 b.n,.slice (some ⟨W3.heap.size+1,0,none⟩) b.bets.length b.bets.length,.slice sa b.scr.length scap,.bool b.fav,.int .i64 b.car,.int .i64 b.duty,.int .i64 b.step] :=
  (HKC.out.same _ HR1.out.lt (by omega)).trans HR1.out
 have bc:=HBK3.out.ext hEc;have y3:=bc.c3;have yz:=bc.lt;have hsc:=HS3.out.scr.ext (hEc.trans' (by exact (Ext.al (Below.refl _ Xc) (.cells #[.int .i64 r] 3)):Ext Xc (Xc.alloc (.cells #[.int .i64 r] 3))));obtain ⟨-,hcap1,hcap2⟩:=HS3.out.caps;have hsn:b.scr.length≤1000:=by
  have h1:=zuz V.out;have h2:=ziw V.out;omega
 obtain ⟨va,w4,hap,hown,hEa⟩:=zaf6 _ sa scap b.scr 28 hsc hsn Xc.heap.size r (newRow Xc [.int .i64 r] _);obtain ⟨L,hL⟩:∃ L,L=b.scr ++ [r]:=⟨_,rfl⟩
 rw [← hL] at hown;obtain ⟨g,lc,rfl,hg1,hg2,hgB,hNg⟩:=zp.cellsN hown (by rw [hL];simp);have hEc4:Ext Xc w4:=Ext.trans' (by exact xx) hEa;have hr4:=hrc.ext hEc4;have r43:=hr4.cell 3;have r4f:=hr4.fr 3;have r4z:=hr4.lt;simp only [List.getElem?_toArray,List.getElem?_cons_zero,List.getElem?_cons_succ] at r43;simp only [World.size_alloc] at hgB;have HAP:=hid hap;have HLL:=hid hL;have HEC:=hid hEc;have HEC4:=hid hEc4;have HR4:=hid hr4;have HNG:=hid hNg;clear hEc hrc bc hsc hown hEa hEc4 hr4 hNg hL hcp v2 vz r12 vrz hap;go_wp2_with (at_builtin;refine zadp rfl (.tmp 59) (.tmp 61) rfl rfl rfl HAP.out ?_);have hgW:W3.heap.size+1 < g:=by
  have h1:=HKC.out.size;have h2:=(Array.getElem?_eq_some_iff.1 HC1.out).1;omega
 have hn5:zaz (w4.setCell ⟨W3.heap.size,3,none⟩ (.slice (some ⟨g,0,none⟩) L.length lc)) g L.length (gt L):=HNG.out.of_heap (Below.heap_setCell _ _ _ _ (by simp only;omega));have hL9:L.length≤1000+1:=by rw [HLL.out,List.length_append];simp;omega
 refine (zzq g lc L _ hn5 (by omega)).mono ?_
 rintro e w6 ⟨rfl,hk6,hn6⟩;have hrow:RowB w6 W3.heap.size #[.int .i64 b.kd,.int .i64 b.n,.slice (some ⟨W3.heap.size+1,0,none⟩) b.bets.length b.bets.length,.slice (some ⟨g,0,none⟩) L.length lc,.bool b.fav,.int .i64 b.car,.int .i64 b.duty,.int .i64 b.step] :=
  (hk6.same _ (by simp only [World.setCell];have:=HR4.out.lt;simpa using this) (by omega)).trans (zl HR4.out 3 _)
 have hE36:Ext W3 w6:=zql ((HEC.out.trans' HEC4.out).setCell (Nat.le_refl _) _) hk6 (by omega);have hzr:=HZ3.out.ext hE36;have hbets:zgc w6 (.slice (some ⟨W3.heap.size+1,0,none⟩) b.bets.length b.bets.length) b.bets :=
  zbd.kept (S:=fun k=>k≠W3.heap.size∧k≠g) (((Kept.of_below HEC4.out).setCell (fun _ h=>h.1 rfl) _).trans (hk6.mono fun k _ h=>h.2)) (.inr fun k hk=>by simp [Value.ownBlock] at hk;omega) HBC.out
 have HE6:=hid (HE3.out.trans' hE36);have HB6:=hid hbets;have HN6:=hid hn6;have HR6:=hid hrow;have x0:=hrow.cell 0;have x1:=hrow.cell 1;have x2:=hrow.cell 2;have x3:=hrow.cell 3;have x4:=hrow.cell 4;have x5:=hrow.cell 5;have x6:=hrow.cell 6;have x7:=hrow.cell 7;have xz:=hrow.lt;simp only [List.getElem?_toArray,List.getElem?_cons_zero,List.getElem?_cons_succ] at x0 x1 x2 x3 x4 x5 x6 x7;have z0:=(hzr).cell 0;have z1:=(hzr).cell 1;have z2:=(hzr).cell 2;have z3:=(hzr).cell 3;have z4:=(hzr).cell 4;have z5:=(hzr).cell 5;have z6:=(hzr).cell 6;have z7:=(hzr).cell 7;have zf:=fun o=>(hzr).fr o
 have zz:=(hzr).lt;simp only [zyn,List.getElem?_toArray,List.getElem?_cons_zero,List.getElem?_cons_succ] at z0 z1 z2 z3 z4 z5 z6 z7;clear hk6 hn6 hrow hE36 hzr hbets hn5 y3 yz r43 r4f r4z;go_wp2_with fail;refine bodyPost_ret (v:=.tuple #[z81 (za2 b r) (some ⟨W3.heap.size+1,0,none⟩) b.bets.length (some ⟨g,0,none⟩) lc,.int .i64 0]) (by
  have hl:(zhb (b.scr ++ [r])).length=L.length:=by rw [zgf,HLL.out]
  simp [results,Tryz.results18,go_sem,z81,hl,z0,z1,z2,z3,z4,z5,z6,z7,zf,za2]) rfl ?_
 have hzw:=HZ3.out.lt;have hkF:∀ (a b c d e f x y:Value),Kept (fun k=>k≠w.heap.size+1) w6 ((((((((w6.setCell ⟨w.heap.size+1,0,none⟩ a).setCell ⟨w.heap.size+1,1,none⟩ b).setCell ⟨w.heap.size+1,2,none⟩ c).setCell ⟨w.heap.size+1,3,none⟩ d).setCell ⟨w.heap.size+1,4,none⟩ e).setCell ⟨w.heap.size+1,5,none⟩ f).setCell ⟨w.heap.size+1,6,none⟩ x).setCell ⟨w.heap.size+1,7,none⟩ y):=fun a b c d e f x y =>
  ((((((((Kept.refl _ w6).setCell (fun _ h=>h rfl) _).setCell (fun _ h=>h rfl) _).setCell (fun _ h=>h rfl) _).setCell (fun _ h=>h rfl) _).setCell (fun _ h=>h rfl) _).setCell (fun _ h=>h rfl) _).setCell (fun _ h=>h rfl) _).setCell (fun _ h=>h rfl) _
 refine ⟨zlh HE6.out (Nat.le_succ _) _ _ _ _ _ _ _ _,.inr ⟨e1.out,_,_,_,_,rfl,?_,?_⟩⟩
 ·exact zbd.kept (hkF _ _ _ _ _ _ _ _) (.inr fun k hk=>by simp [Value.ownBlock] at hk;omega) HB6.out
 ·have hs:(za2 b r).scr=zhb L:=by rw [HLL.out];rfl
  rw [hs,zgf];exact (HN6.out.of_heap ((hkF _ _ _ _ _ _ _ _).same _ HN6.out.lt (by omega))).intsC (zgf L).symm hg1 hg2
end Go.Proofs.YtdamgacabfbpjaaGreat
namespace Go.Proofs.YtdamgacabfbpjaaGreat
open Go.Lib (hid)
open Go.RowKit Go.Shelf
attribute [local go_sem] Oper.semAt_some
def loH (n:Int) (r:Nat) (l:List (List Int)):Int:=l.foldl (fun a f=>if pl f r < a then pl f r else a) n
def hiH (r:Nat) (l:List (List Int)):Int:=l.foldl (fun a f=>if a < pl f r then pl f r else a) 1
theorem zxd {α:Type} (g:Int→α→Int) (a:Int) {l:List α} {k:Nat} (h:k < l.length):(l.take (k+1)).foldl g a=g ((l.take k).foldl g a) l[k]:=by
 rw [List.take_add_one,List.getElem?_eq_getElem h,List.foldl_append];rfl
def zgy (W:World) (g:Nat) (a b:Int):Prop:=W.heap[g]? = some (.cells #[.int .i64 a,.int .i64 b] 54 (0,0))
section
variable {W:World} {g:Nat} {a b:Int} (h:zgy W g a b)
include h
theorem zgy.c0:W.cell? ⟨g,0,none⟩=some (.int .i64 a):=by rw [cell_of_row _ _ _ _ _ _ h];rfl
theorem zgy.c1:W.cell? ⟨g,1,none⟩=some (.int .i64 b):=by rw [cell_of_row _ _ _ _ _ _ h];rfl
theorem zgy.fr (o:Nat):W.frozen? ⟨g,o,none⟩=false:=by
 have h':W.heap[g]? = _:=h;simp [World.frozen?,h']
theorem zgy.lt:g < W.heap.size:=(Array.getElem?_eq_some_iff.1 h).1
theorem zgy.ext {W':World} (e:Ext W W'):zgy W' g a b:=(e.block _ h.lt).trans h
theorem zgy.set (x y:Int):zgy ((W.setCell ⟨g,0,none⟩ (.int .i64 x)).setCell ⟨g,1,none⟩ (.int .i64 y)) g x y:=zl (zl h 0 (.int .i64 x)) 1 (.int .i64 y)
end
theorem zabj {J:World→Prop} {P:Program} {B:Nat} {strong:Bool} {o:Oper} {ρ:Operand→Value} {W:World} {val:Nat→Value} {s:Sq} {W':World} (h:(execOp ρ o).run P W = .ok .skip W') (he:ziu J B strong W W') (hs:s.p (s.us.map val) undef W'):zyh J P B strong o ρ W val s:=by
 unfold zyh;rw [h];exact ⟨he,hs⟩
theorem z5b (h:Rc) (sa:Option Addr) (cap r:Nat) (w:World) (hv:zcc w (.slice sa h.ws.length cap) h.ws) (h0:zap h=0) (hr1:(r:Int) < h.n) (hA:zcs h=0) :
  Calls Tryz.prog 17 #[.agg #[.int .i64 h.n,.slice sa h.ws.length cap],.int .i64 r] w fun e w'=>e = .returned (.tuple #[.agg #[.int .i64 (loH h.n r (zcb h)),.int .i64 (hiH r (zcb h))],.int .i64 0])∧Ext w w':=by
 have V:=hid (zlg h0);have hn1:=V.out.n1;have hn5:=V.out.n5;have HV:=hid hv;have H0:=hid h0;have hAi:(zcs h != 0)=false:=by simpa using hA
 clear hv h0 hA
 go_enter Tryz.func17,Tryz.ntmps17
 go_upto_region 1 with (fail);obtain ⟨W0,hW0⟩:∃ W0,W0=(w.alloc (.cells #[.int .i64 h.n,.slice sa h.ws.length cap] 24)).alloc (.cells #[.int .i64 0,.int .i64 0] 54):=⟨_,rfl⟩
 have hE:Ext w W0:=by rw [hW0];exact xx
 have k0:W0.cell? ⟨w.heap.size,0,none⟩=some (.int .i64 h.n):=by rw [hW0];simp [go_sem]
 have k1:W0.cell? ⟨w.heap.size,1,none⟩=some (.slice sa h.ws.length cap):=by rw [hW0];simp [go_sem]
 have r4:zgy W0 (w.heap.size+1) 0 0:=by
  rw [hW0];have:=World.alloc_heap_new (w.alloc (.cells #[.int .i64 h.n,.slice sa h.ws.length cap] 24)) (.cells #[.int .i64 0,.int .i64 0] 54)
  rwa [World.size_alloc] at this
 have hz:w.heap.size < W0.heap.size:=World.block_lt_of_cell? _ _ k0;have HW:=hid hE;have HR4:=hid r4;replace HV:=hid (HV.out.ext hE);rw [← hW0];clear hW0 hE r4;go_wp2_with fail;refine (zsc h sa cap W0 HV.out).mono ?_
 rintro e W1 ⟨hE1,⟨hne,-⟩ | ⟨-,p,rfl,hp,hR⟩⟩
 ·exact absurd H0.out hne
 replace k0:=zd hE1 k0;have hzw:=hE1.size;replace hz:w.heap.size < W1.heap.size:=by omega
 have HW1:=hid (HW.out.trans' hE1);have HV1:=hid (HV.out.ext hE1);replace HR4:=hid (HR4.out.ext hE1);have HR1:=hid hR;clear hE1 hR k1 hp hzw HW HV;go_wp2_with fail;refine zas (W0:=W1) (g:=⟨W1,Below.refl _ _⟩) xx (zi6 0 (h.n - 1) _ [(r:Int)] _ (zcg (by omega) (by omega) (by simp [go_sem]))) fun g1 hgr=>?_
 clear hgr;rw [zd1,z6n,decide_eq_true (show 0≤(r:Int)∧(r:Int) < h.n by omega)];go_wp2_with fail;refine znn (W0:=W1) (g:=g1) xx (z8u h sa cap p _ (HV1.out.ext xx) (HR1.out.ext xx) V.out) (fun _ _ ⟨_,_,h,_⟩=>h) fun _ g2 hgr hr=>?_
 obtain ⟨v,rfl,-,hF⟩:=hr;clear hgr;obtain ⟨fa,fc,rfl,-,-,-⟩:=hF.spec;have HF:=hid hF;clear hF;go_upto_region 9 with (fail);obtain ⟨U,hU⟩:∃ zz9,zz9=(grow W1 g2):=⟨_,rfl⟩
 have eU:Ext W1 U:=by rw [hU];exact xx
 have eUc:Ext (grow W1 g2) U:=by rw [hU];exact xx
 replace k0:=zd eU k0;replace HV1:=hid (HV1.out.ext eU);replace HR1:=hid (HR1.out.ext eU);replace HR4:=hid (HR4.out.ext eU);replace HF:=hid (HF.out.ext eUc);replace HW1:=hid (HW1.out.trans' eU);rw [← hU];replace hz:=World.block_lt_of_cell? _ _ k0;clear hU eU eUc;simp only at hz;have hAe:Hid (zcs h=0):=hid (by simpa using hAi);go_upto_region 10 with (fail);obtain ⟨Z,hZ⟩:∃ Z,Z=U.alloc (.cells #[.int .i64 h.n,.int .i64 1] 54):=⟨_,rfl⟩
 have rz:zgy Z U.heap.size h.n 1:=by rw [hZ];exact World.alloc_heap_new U _
 have hEZ:Ext U Z:=by rw [hZ];exact xx
 rw [← hZ];obtain ⟨g,hg⟩:∃ g,g=U.heap.size:=⟨_,rfl⟩
 rw [← hg] at rz ⊢;have HG:=hid hg;have HRZ:=hid rz;have HEZ:=hid hEZ;have hLn:=zadt h V.out;obtain ⟨L,hL⟩:∃ L,L=zcb h:=⟨_,rfl⟩
 rw [← hL] at HF hLn ⊢;have HLA:=hid hL;have hr5:r < 5:=by omega
 have hr5i:(r:Int) < 5:=by omega
 clear hZ rz hEZ hg hL k0 hz hAi HR1 HV1 hn1 hn5 hr1;go_wp2_with fail
 go_loopw [45] (fun iv W=>∃ k:Nat,k≤L.length∧iv = .int .i64 k∧zgy W g (loH h.n r (L.take k)) (hiH r (L.take k))∧Ext U W) (fun iv _=>L.length - (intOf iv).toNat)
 case atStart=>exact ⟨0,by omega,rfl,HRZ.out,HEZ.out⟩
 case round =>
  obtain ⟨k,hk,rfl,hrow,hEX⟩:=hrel;obtain ⟨X,rfl⟩:∃ X,X=wr:=⟨_,rfl⟩
  have HEX:=hid hEX;have HROW:=hid hrow;have hzg:=hrow.lt;have hzX:=hEX.size
  by_cases hlt:k < L.length
  ·have hki:(k:Int) < (L.length:Int):=by omega
   obtain ⟨_,_,e9,-,-,hcc⟩:=HF.out.spec;cases e9
   rcases hcc with hc | ⟨b,off,rfl,hc⟩
   ·rw [hc] at hlt;simp at hlt
   obtain ⟨f,hf⟩:∃ f,f=L[k]:=⟨_,rfl⟩
   have a0:=zd hEX (hc k hlt 0 (by omega));have a1:=zd hEX (hc k hlt 1 (by omega));have a2:=zd hEX (hc k hlt 2 (by omega));have a3:=zd hEX (hc k hlt 3 (by omega));have a4:=zd hEX (hc k hlt 4 (by omega));rw [← hf] at a0 a1 a2 a3 a4;rw [Nat.add_zero] at a0;have hbz:=World.block_lt_of_cell? _ _ a0;simp only at hbz;obtain ⟨lo,hlo⟩:∃ lo,lo=loH h.n r (L.take k):=⟨_,rfl⟩
   obtain ⟨hi,hhi⟩:∃ hi,hi=hiH r (L.take k):=⟨_,rfl⟩
   obtain ⟨x,hx⟩:∃ x,x=pl f r:=⟨_,rfl⟩
   obtain ⟨lo',hlo'⟩:∃ lo',(if x < lo then x else lo)=lo':=⟨_,rfl⟩
   obtain ⟨hi',hhi'⟩:∃ hi',(if hi < x then x else hi)=hi':=⟨_,rfl⟩
   have HLO:Hid (loH h.n r (L.take (k+1))=lo'):=hid (by
    rw [← hlo',hlo,hx,hf];exact zxd _ _ hlt)
   have HHI:Hid (hiH r (L.take (k+1))=hi'):=hid (by
    rw [← hhi',hhi,hx,hf];exact zxd _ _ hlt)
   rw [← hlo,← hhi] at HROW;have HX:=hid hx;clear hc hf hEX hrow hlo hhi hx;go_upto_region 13 with (fail);obtain ⟨Y,hY⟩:∃ Y,Y=X.alloc (.cells #[.int .i64 (pl f 0),.int .i64 (pl f 1),.int .i64 (pl f 2),.int .i64 (pl f 3),.int .i64 (pl f 4)] 71):=⟨_,rfl⟩
   have hEY:Ext X Y:=by rw [hY];exact xx
   have hA:A5 Y X.heap.size (pl f):=by rw [hY];exact (A5.new X (pl f 0) (pl f 1) (pl f 2) (pl f 3) (pl f 4)).congr (zym f)
   have cx:=hA.cell r hr5;rw [← HX.out] at cx;have hzx:=hA.lt;obtain ⟨bx,hbx⟩:∃ bx,bx=X.heap.size:=⟨_,rfl⟩
   rw [← hY,← hbx];rw [← hbx] at cx hzx;have HRY:=hid (HROW.out.ext hEY);have c0:=HRY.out.c0;have c1:=HRY.out.c1;have hzy:=HRY.out.lt;have HEY:Hid (Ext U Y):=hid (HEX.out.trans' hEY);have hgU:U.heap.size≤g:=by rw [HG.out];exact Nat.le_refl _
   have hYU:=HEY.out.size;have hne:g≠bx:=by have:=hEY.size;omega
   obtain ⟨J,hJ⟩:∃ J:World→Prop,J=fun W=>A5 W bx (pl f):=⟨_,rfl⟩
   have hJm:∀ W W',J W→Ext W W'→J W':=fun W W' h e=>by
    rw [hJ] at h ⊢;exact A5.of_heap h (e.block _ (A5.lt h))
   have hJw:J Y:=by rw [hJ,hbx];exact hA
   have HJ:=hid hJ;have HRUN:Hid (∀ W,J W→W.cell? ⟨bx,r,none⟩=some (.int .i64 x)∧bx < W.heap.size):=hid fun W h=>by
    rw [hJ] at h;exact ⟨by rw [HX.out];exact A5.cell h r hr5,A5.lt h⟩
   have HSET:Hid (∀ W v,J W→J (W.setCell ⟨g,0,none⟩ v)):=hid fun W v h=>by
    rw [hJ] at h ⊢;exact A5.of_heap h (Below.heap_setCell _ _ _ _ (fun e=>hne e.symm))
   clear hY hEY hA hbx hJ a0 a1 a2 a3 a4 hbz hzg hzX;refine zh6 (J:=J) hJm rfl rfl (by kernel_rfl) hJw (U.heap.size) (hYU)
    [sqV (.pointer (some ⟨g,0,none⟩)),sqV (.int .i64 lo),sqV (.int .i64 r),sqV (.pointer (some ⟨bx,r,none⟩)),sqV (.int .i64 x),sqV (.int .i64 lo'),sqV (.pointer (some ⟨g,1,none⟩)),sqV (.int .i64 hi),sqV (.int .i64 r),sqV (.pointer (some ⟨bx,r,none⟩)),sqV (.int .i64 x),sqV (.int .i64 hi'),sqV (.pointer (some ⟨g,0,none⟩)),sqW (fun v W=>zgy W g lo' hi) (fun _ _ _ h e=>h.ext e),sqV (.pointer (some ⟨g,1,none⟩))]
    [true,true,true,true,true,true,true,true,true,true,true,true,true,false,true] [false,false,false,false,false,false,false,false,false,false,false,false,false,true,false] [true,true,true,true,true,true,true,true,true,true,true,true,true,true,true] [true,true,true,true,true,true,true,true,false,false,false,false,true,true,false]
    (by kernel_rfl) (by kernel_rfl) (by decide +kernel) (by decide +kernel) (by decide +kernel) rfl ⟨rfl,rfl⟩ ⟨?s0,?s1,?s2,?s3,?s4,?s5,?s6,?s7,?s8,?s9,?s10,?s11,?s12,?s13,?s14,trivial⟩ [some 49,some 50,some 51,some 52,some 53,some 54,some 55,some 56,some 57,some 58,some 59,some 60,some 61,none,some 62] rfl rfl ?send
   case s0 =>
    intro val ρ W hE hJ hz hd hA hx;have o0:ρ (.tmp 9) = .pointer (some ⟨g,0,none⟩):=hA.old 9 (by decide);clear hd;exact za1 (W':=W) (by simp [execOp,o0,go_sem]) (Below.refl _ _) rfl
   case s1 =>
    intro val ρ W hE hJ hz hd hA hx;have d0:ρ (.tmp 49) = .pointer (some ⟨g,0,none⟩):=(hA.dep 0 (by decide) 49 rfl).trans (hd 0 (by decide));have f_c0:=zd (hx (by decide)) c0;clear hd;exact za1 (W':=W) (by simp [execOp,d0,f_c0,go_sem]) (Below.refl _ _) rfl
   case s2 =>
    intro val ρ W hE hJ hz hd hA hx;have o0:ρ (.tmp 1) = .int .i64 r:=hA.old 1 (by decide);clear hd;exact za1 (W':=W) (by simp [execOp,o0,go_sem]) (Below.refl _ _) rfl
   case s3 =>
    intro val ρ W hE hJ hz hd hA hx;have d2:ρ (.tmp 51) = .int .i64 r:=(hA.dep 2 (by decide) 51 rfl).trans (hd 2 (by decide));have o0:ρ (.tmp 11) = .pointer (some ⟨bx,0,none⟩):=hA.old 11 (by decide);clear hd;exact za1 (W':=W) (by simp [execOp,d2,o0,hr5,hr5i,go_sem]) (Below.refl _ _) rfl
   case s5 =>
    intro val ρ W hE hJ hz hd hA hx;have d1:ρ (.tmp 50) = .int .i64 lo:=(hA.dep 1 (by decide) 50 rfl).trans (hd 1 (by decide));have d4:ρ (.tmp 53) = .int .i64 x:=(hA.dep 4 (by decide) 53 rfl).trans (hd 4 (by decide));clear hd;exact za1 (W':=W) (by simp [execOp,d1,d4,hlo',Builtin.min_,Builtin.min2,go_sem]) (Below.refl _ _) rfl
   case s6 =>
    intro val ρ W hE hJ hz hd hA hx;have o0:ρ (.tmp 9) = .pointer (some ⟨g,0,none⟩):=hA.old 9 (by decide);clear hd;exact za1 (W':=W) (by simp [execOp,o0,go_sem]) (Below.refl _ _) rfl
   case s7 =>
    intro val ρ W hE hJ hz hd hA hx;have d6:ρ (.tmp 55) = .pointer (some ⟨g,1,none⟩):=(hA.dep 6 (by decide) 55 rfl).trans (hd 6 (by decide));have f_c1:=zd (hx (by decide)) c1;clear hd;exact za1 (W':=W) (by simp [execOp,d6,f_c1,go_sem]) (Below.refl _ _) rfl
   case s8 =>
    intro val ρ W hE hJ hz hd hA hx;have o0:ρ (.tmp 1) = .int .i64 r:=hA.old 1 (by decide);clear hd;exact za1 (W':=W) (by simp [execOp,o0,go_sem]) (Below.refl _ _) rfl
   case s9 =>
    intro val ρ W hE hJ hz hd hA hx;have d8:ρ (.tmp 57) = .int .i64 r:=(hA.dep 8 (by decide) 57 rfl).trans (hd 8 (by decide));have o0:ρ (.tmp 11) = .pointer (some ⟨bx,0,none⟩):=hA.old 11 (by decide);clear hd;exact za1 (W':=W) (by simp [execOp,d8,o0,hr5,hr5i,go_sem]) (Below.refl _ _) rfl
   case s11 =>
    intro val ρ W hE hJ hz hd hA hx;have d7:ρ (.tmp 56) = .int .i64 hi:=(hA.dep 7 (by decide) 56 rfl).trans (hd 7 (by decide));have d10:ρ (.tmp 59) = .int .i64 x:=(hA.dep 10 (by decide) 59 rfl).trans (hd 10 (by decide));clear hd;exact za1 (W':=W) (by simp [execOp,d7,d10,hhi',Builtin.max_,Builtin.max2,go_sem]) (Below.refl _ _) rfl
   case s12 =>
    intro val ρ W hE hJ hz hd hA hx;have o0:ρ (.tmp 9) = .pointer (some ⟨g,0,none⟩):=hA.old 9 (by decide);clear hd;exact za1 (W':=W) (by simp [execOp,o0,go_sem]) (Below.refl _ _) rfl
   case s14 =>
    intro val ρ W hE hJ hz hd hA hx;have o0:ρ (.tmp 9) = .pointer (some ⟨g,0,none⟩):=hA.old 9 (by decide);clear hd;exact za1 (W':=W) (by simp [execOp,o0,go_sem]) (Below.refl _ _) rfl
   case s4 =>
    intro val ρ W hE hJ2 hz hd hA hx;have d3:ρ (.tmp 52) = .pointer (some ⟨bx,r,none⟩):=(hA.dep 3 (by decide) 52 rfl).trans (hd 3 (by decide));obtain ⟨c,z⟩:=HRUN.out W hJ2;clear hd;exact za1 (W':=W) (by simp [execOp,d3,go_sem,c,z]) (Below.refl _ _) rfl
   case s10 =>
    intro val ρ W hE hJ2 hz hd hA hx;have d9:ρ (.tmp 58) = .pointer (some ⟨bx,r,none⟩):=(hA.dep 9 (by decide) 58 rfl).trans (hd 9 (by decide));obtain ⟨c,z⟩:=HRUN.out W hJ2;clear hd;exact za1 (W':=W) (by simp [execOp,d9,go_sem,c,z]) (Below.refl _ _) rfl
   case s13 =>
    intro val ρ W hE hJ2 hz hd hA hx;have hW:=hx (by decide);have d12:ρ (.tmp 61) = .pointer (some ⟨g,0,none⟩):=(hA.dep 12 (by decide) 61 rfl).trans (hd 12 (by decide));have d5:ρ (.tmp 54) = .int .i64 lo':=(hA.dep 5 (by decide) 54 rfl).trans (hd 5 (by decide));have hrw:=HRY.out.ext hW;have c:=hrw.c0;have fz:=hrw.fr 0;have z:=hrw.lt;clear hd;exact zabj (W':=W.setCell ⟨g,0,none⟩ (.int .i64 lo')) (by simp [execOp,d12,d5,go_sem,c,fz,z]) ⟨(Below.refl _ W).setCell hgU _,HSET.out W _ hJ2⟩ (zl hrw 0 (.int .i64 lo'))
   case send =>
    intro val WW hE hJ2 hzz hv;obtain ⟨-,-,-,-,-,-,-,-,-,-,-,r11,-,r13,r14,-⟩:=hv;have q11:val 11 = .int .i64 hi':=r11;have q14:val 14 = .pointer (some ⟨g,1,none⟩):=r14;have hrW:zgy WW g lo' hi:=r13;have y1:=hrW.c1;have yf:=hrW.fr 1;have yz:=hrW.lt;have HRW:=hid hrW;have HEW:Hid (Ext U WW):=hid (Below.trans HEY.out hE);simp only [zbq,q11,q14];go_frame;clear hE hzz q11 q14 r11 r13 r14 hrW c0 c1 cx hzx hzy hlo' hhi' hJ2 hJm hJw hYU hne;go_wp2_with fail;go_roundw
    case rel =>
     exact ⟨k+1,by omega,by go_num,by rw [HLO.out,HHI.out];exact zl HRW.out 1 (.int .i64 hi'),HEW.out.setCell hgU _⟩
    case measure=>simp [intOf];omega
  ·have hki:¬ ((k:Int) < (L.length:Int)):=by omega
   have hke:k=L.length:=by omega
   rw [hke,List.take_length] at hrow;have hr4:zgy X (w.heap.size+1) 0 0:=HR4.out.ext hEX;have c0:=hrow.c0;have c1:=hrow.c1;have d0:=hr4.c0;have d1:=hr4.c1;have df:=fun o=>hr4.fr o
   have dz:=hr4.lt;have HE:=hid (HW1.out.trans' hEX);obtain ⟨lo,hlo⟩:∃ lo,lo=loH h.n r L:=⟨_,rfl⟩
   obtain ⟨hi,hhi⟩:∃ hi,hi=hiH r L:=⟨_,rfl⟩
   rw [← hlo] at c0;rw [← hhi] at c1;have HR4X:=hid hr4;have HLO:=hid hlo;have HHI:=hid hhi;clear hrow hke hEX hr4 hlo hhi;go_wp2_with fail;obtain ⟨Y,hY⟩:∃ Y,Y=(X.setCell ⟨w.heap.size+1,0,none⟩ (.int .i64 lo)).setCell ⟨w.heap.size+1,1,none⟩ (.int .i64 hi):=⟨_,rfl⟩
   rw [← hY];have hrY:zgy Y (w.heap.size+1) lo hi:=by rw [hY];exact HR4X.out.set lo hi
   have hkY:Kept (fun k=>k≠w.heap.size+1) X Y:=by
    rw [hY];exact ((Kept.refl _ _).setCell (fun _ h=>h rfl) _).setCell (fun _ h=>h rfl) _
   have hEY:=zsd HE.out hkY (by omega);have y0:=hrY.c0;have y1:=hrY.c1;refine bodyPost_ret (v:=.tuple #[.agg #[.int .i64 lo,.int .i64 hi],.int .i64 0]) (by simp [results,Tryz.results17,go_sem,y0,y1]) rfl ?_
   exact ⟨by rw [HLO.out,HHI.out,HLA.out],hEY⟩
end Go.Proofs.YtdamgacabfbpjaaGreat
namespace Go.Proofs.YtdamgacabfbpjaaGreat
open Go.Lib (hid)
theorem zz3:∀ l:List PB,zae (fun _=>0) l=0
 | []=>rfl
 | x :: l=>by simp only [zae,zz3 l];rfl
theorem zyo {b:Bk} {r x:Int}:zbr (za2 b r) x=true↔zbr b x=true∨x=r:=by
 unfold zbr;rw [List.contains_iff_mem,List.contains_iff_mem];show x∈zhb (b.scr ++ [r])↔_;rw [(z4z _).mem_iff];simp
def zu8 (r:Int) (x:PB):Bool:=decide (x.f≠r∧x.s≠r)
theorem zsg {g:Int→Int} {r:Int} (h:∀ q,g r≤g q):∀ (l:List Int) (a:Int),zbc g a (l.filter fun q=>decide (q≠r))=zbc g a l
 | [],_=>rfl
 | x :: l,a=>by
  by_cases e:x=r
  ·subst e
   rw [List.filter_cons_of_neg (by simp),zbc,if_neg (by have:=h a;omega)];exact zsg h l a
  ·rw [List.filter_cons_of_pos (by simpa using e),zbc,zbc]
   exact zsg h l _
theorem zsh {g:Int→Int}:∀ (l:List Int) (a c:Int),g a≤g c→zbc g c l≠c→zbc g a l=zbc g c l
 | [],_,_,_,hn=>absurd rfl hn
 | x :: l,a,c,h,hn=>by
  rw [zbc] at hn ⊢;rw [zbc]
  by_cases hc:g c < g x
  ·rw [if_pos (show g a < g x by omega),if_pos hc]
  ·rw [if_neg hc] at hn ⊢
   split
   ·exact zsh l x c (by omega) hn
   ·exact zsh l a c h hn
theorem zsi {g:Int→Int} (a:Int) (l:List Int):zbc g a (a :: l)=zbc g a l:=by
 rw [zbc,if_neg (by omega)]
theorem z6q (b:Bk) (r:Int):za9 (za2 b r)=(za9 b).filter fun q=>decide (q≠r):=by
 unfold za9 runK;rw [List.filter_filter];show (List.filter (fun q=>!zbr (za2 b r) q) (List.map (fun (i:Nat)=>(i:Int)) (List.range b.n.toNat)))=_;refine List.filter_congr fun q _=>?_
 rw [Bool.eq_iff_iff];have:=zyo (b:=b) (r:=r) (x:=q);cases h1:zbr (za2 b r) q<;>cases h2:zbr b q<;>simp [h1,h2] at this ⊢<;>exact this
theorem z6r {b:Bk} {r:Int} (hoff:∀ x∈b.bets,zu8 r x=true) {x:PB} (hx:x∈b.bets):zbr (za2 b r) x.f=zbr b x.f∧zbr (za2 b r) x.s=zbr b x.s:=by
 have h:=hoff x hx;unfold zu8 at h;have h:=of_decide_eq_true h
 constructor
 ·have:=zyo (b:=b) (r:=r) (x:=x.f)
  rw [Bool.eq_iff_iff,this];exact ⟨fun h2=>h2.elim id fun e=>absurd e h.1,.inl⟩
 ·have:=zyo (b:=b) (r:=r) (x:=x.s)
  rw [Bool.eq_iff_iff,this];exact ⟨fun h2=>h2.elim id fun e=>absurd e h.2,.inl⟩
theorem zad1 {b:Bk} {r:Int} (hoff:∀ x∈b.bets,zu8 r x=true):zec (za2 b r)=zec b:=funext fun q=>by
 unfold zec;show zae (onF (za2 b r) q) b.bets=_;refine zh8 fun x hx=>?_
 obtain ⟨h1,h2⟩:=z6r hoff hx;unfold onF;rw [h1,h2]
theorem zad2 {b:Bk} {r:Int} (v:zge b) (hoff:∀ x∈b.bets,zu8 r x=true):∀ q,zec b r≤zec b q:=fun q=>by
 have h1:zec b r=0:=by
  unfold zec;rw [← zz3 b.bets];refine zh8 fun x hx=>?_
  have h:=of_decide_eq_true (hoff x hx);unfold onF;rw [if_neg];rintro ⟨-,-,e⟩;exact h.1 e
 have h2:=z6g v q b.bets.length;rw [List.take_length] at h2;rw [h1];exact h2.1
section
variable {b:Bk} {r:Int} (v:zge b) (hoff:∀ x∈b.bets,zu8 r x=true) (hr:r∈za9 b)
include v hoff hr
theorem zagh (hl:3≤(za9 b).length) (hf:zc5 b≠r):zc5 (za2 b r)=zc5 b:=by
 have h0:=zad2 v hoff;unfold zc5 at hf ⊢;rw [zad1 hoff,z6q];have hnd:=zqj b;cases hL:za9 b with
 | nil=>rw [hL] at hr;cases hr
 | cons a l =>
  rw [hL] at hf hl hnd;rw [List.nodup_cons] at hnd;simp only [List.headD_cons] at hf ⊢;rw [zsi] at hf ⊢
  by_cases e:a=r
  ·subst e
   have hfl:l.filter (fun q=>decide (q≠a))=l:=List.filter_eq_self.2 fun q hq=>by
    simp;intro e;subst e;exact hnd.1 hq
   rw [List.filter_cons_of_neg (by simp),hfl];cases l with
   | nil=>simp at hl
   | cons c l =>
    simp only [List.headD_cons];rw [zsi];rw [zbc] at hf ⊢
    by_cases hac:zec b a < zec b c
    ·rw [if_pos hac]
    ·rw [if_neg hac] at hf ⊢
     exact zsh l c a (by omega) hf
  ·rw [List.filter_cons_of_pos (by simpa using e)]
   simp only [List.headD_cons];rw [zsi,zsg h0]
theorem zabk (hl:3≤(za9 b).length) (hf:zc5 b≠r) {x:PB} (hx:x∈b.bets):onP (za2 b r) x=onP b x:=by
 obtain ⟨h1,h2⟩:=z6r hoff hx;unfold onP;rw [h1,h2,zagh v hoff hr hl hf];rfl
theorem zabl (hl:3≤(za9 b).length) (hf:zc5 b≠r) (s:Spt):za7 (za2 b r) s=za7 b s:=by
 unfold za7;show zae (zc6 (za2 b r) s) b.bets=_;refine zh8 fun x hx=>?_
 unfold zc6;rw [zabk v hoff hr hl hf hx]
theorem zad3 (hl:3≤(za9 b).length) (hf:zc5 b≠r):zb4 (za2 b r)=zb4 b:=by
 unfold zb4;show zae (zeo (za2 b r)) b.bets=_;refine zh8 fun x hx=>?_
 unfold zeo;rw [zabk v hoff hr hl hf hx]
theorem zagi (hl:3≤(za9 b).length) (hf:zc5 b≠r) {fs gs:List (List Int)} (hw:zbw b gs=zbw (za2 b r) fs):zjr b gs=zjr (za2 b r) fs:=by
 have hu:za7 (za2 b r)=za7 b:=funext fun s=>zabl v hoff hr hl hf s
 have hi:inP (za2 b r)=inP b:=rfl;have hk:=zad3 v hoff hr hl hf;have hd:zfa (za2 b r)=zfa b:=by unfold zfa;rw [hi,hk];rfl
 have hn:ziv (za2 b r)=ziv b:=by unfold ziv;rw [hi,hk,hd]
 have hb:zda (za2 b r) fs=zda b gs:=by unfold zda;rw [hu,hw]
 have hs:zgg (za2 b r) fs=zgg b gs:=by unfold zgg;rw [hn,hb]
 have hp:zet (za2 b r) fs=zet b gs:=funext fun s=>by unfold zet;rw [hs,hu];rfl
 have hv:zeu (za2 b r) fs=zeu b gs:=by unfold zeu;rw [hb,hp]
 unfold zjr z3v ztg;rw [hi,hk,hd,hn,hv,hu]
end
end Go.Proofs.YtdamgacabfbpjaaGreat
namespace Go.Proofs.YtdamgacabfbpjaaGreat
open Go.Lib (hid)
def za3 (r k:Nat):List Wd:=((List.range k).filter fun i=>decide (i≠r)).map fun (i:Nat)=>((i:Int),(r:Int),(0:Int))
theorem zt9 (r k:Nat):za3 r (k+1)=za3 r k ++ if k=r then [] else [((k:Int),(r:Int),(0:Int))]:=by
 unfold za3;rw [List.range_succ,List.filter_append,List.map_append]
 congr 1
 by_cases h:k=r<;>simp [h]
theorem zxe {r k:Nat} {x:Wd}:x∈za3 r k↔∃ i:Nat,i < k∧i≠r∧x=((i:Int),(r:Int),(0:Int)):=by
 unfold za3;rw [List.mem_map]
 constructor
 ·rintro ⟨i,hi,e⟩
  obtain ⟨h1,h2⟩:=List.mem_filter.1 hi;exact ⟨i,List.mem_range.1 h1,by simpa using h2,e.symm⟩
 ·rintro ⟨i,h1,h2,e⟩
  exact ⟨i,List.mem_filter.2 ⟨List.mem_range.2 h1,by simpa using h2⟩,e.symm⟩
theorem z82 (r k:Nat):(za3 r k).length≤k:=by
 unfold za3;rw [List.length_map];exact Nat.le_trans (List.length_filter_le _ _) (by simp)
theorem zmm {r:Nat}:∀ {k:Nat},r < k→(za3 r k).length+1=k
 | 0,h=>by omega
 | k+1,h=>by
  rw [zt9,List.length_append]
  by_cases e:k=r
  ·have h1:(za3 r k).length=k:=by
    subst e;unfold za3;rw [List.length_map,List.filter_eq_self.2 (fun a ha=>by have:=List.mem_range.1 ha;simp;omega),List.length_range]
   rw [if_pos e,h1];rfl
  ·have:=zmm (r:=r) (k:=k) (by omega)
   rw [if_neg e];simp;omega
def zb6 (us:List Int) (r k:Nat):List PB:=((List.range k).filter fun i=>decide (i≠r∧i < us.length)).map fun (i:Nat)=>⟨(i:Int),-1,1+gt us i⟩
theorem z83 (us:List Int) (r k:Nat):zb6 us r (k+1)=zb6 us r k ++ if k≠r∧k < us.length then [⟨(k:Int),-1,1+gt us k⟩] else []:=by
 unfold zb6;rw [List.range_succ,List.filter_append,List.map_append]
 congr 1
 by_cases h:k≠r∧k < us.length<;>simp [h]
theorem zz4 {us:List Int} {r k:Nat} {x:PB} (h:x∈zb6 us r k):∃ i:Nat,i < k∧i≠r∧i < us.length∧x=⟨(i:Int),-1,1+gt us i⟩:=by
 unfold zb6 at h;obtain ⟨i,hi,e⟩:=List.mem_map.1 h;obtain ⟨h1,h2⟩:=List.mem_filter.1 hi;have h2:=of_decide_eq_true h2;exact ⟨i,List.mem_range.1 h1,h2.1,h2.2,e.symm⟩
theorem zz5 (us:List Int) (r k:Nat):(zb6 us r k).length≤k:=by
 unfold zb6;rw [List.length_map];exact Nat.le_trans (List.length_filter_le _ _) (by simp)
def za6 (n:Int) (us:List Int) (r:Nat):Bk:=⟨0,n,zb6 us r n.toNat,[],false,0,0,1⟩
def zi7 (h:Rc) (r:Nat):Rc:=⟨h.n,h.ws ++ za3 r h.n.toNat⟩
section
variable {h:Rc} {n r:Nat} (hn:h.n=n) (hr:r < n)
include hn hr
theorem zad4 (h0:zap h=0) (hl:h.ws.length+n - 1≤12):zap (zi7 h r)=0:=by
 have hb:=zmm (r:=r) hr;have e:h.n.toNat=n:=by omega
 unfold zap at h0
 split at h0
 ·cases h0
 rename_i h1
 split at h0
 ·cases h0
 rename_i h2
 split at h0
 ·cases h0
 rename_i h3;unfold zap zi7;simp only;rw [if_neg h1,if_neg (by rw [List.length_append,e];omega),if_neg];rw [List.any_append,Bool.or_eq_true,not_or];refine ⟨h3,?_⟩;rw [Bool.not_eq_true,List.any_eq_false];intro x hx;obtain ⟨i,h4,h5,rfl⟩:=zxe.1 hx;have hi:i < n:=by omega
 simp only [zem,Bool.not_eq_true,Bool.not_eq_false',Bool.and_eq_true,decide_eq_true_eq];omega
theorem z6s {f:List Int} (hf:f∈zcb (zi7 h r)) {i:Nat} (hi:i < n) (hne:i≠r):pl f i < pl f r:=by
 have h1:=(zth.1 hf).2;unfold zck zi7 at h1;rw [List.all_eq_true] at h1;have h2:=h1 ((i:Int),(r:Int),0) (List.mem_append.2 (.inr (zxe.2 ⟨i,by omega,hne,rfl⟩)));simpa [zfr] using h2
theorem z4g {f:List Int} (hf:f∈zcb (zi7 h r)):zba n f=true:=by
 have h1:=(zth.1 hf).1;have:(zi7 h r).n.toNat=n:=by show h.n.toNat=n;omega
 rw [this] at h1;exact h1
theorem ztj {f:List Int} (hf:f∈zcb (zi7 h r)):pl f r=n:=by
 have h1:=z4g hn hr hf;have h2:=zu6 h1 hr;have h3:below f (pl f r) n+1=n:=by
  have h4:below f (pl f r) n=(za3 r n).length:=by
   unfold below za3;rw [List.length_map,List.countP_eq_length_filter]
   congr 1
   apply List.filter_congr;intro j hj;have hj:=List.mem_range.1 hj;rw [decide_eq_decide]
   constructor
   ·intro h5 e
    subst e;omega
   ·intro h5
    exact z6s hn hr hf hj h5
  rw [h4];exact zmm hr
 omega
theorem zad5 {f:List Int} (hf:f∈zcb (zi7 h r)):zic f n=zbb f n (n - 1) ++ [[(r:Int)]]:=by
 obtain ⟨m,rfl⟩:∃ m,n=m+1:=⟨n - 1,by omega⟩
 have hg:zdi f (m+1) (1+(m:Int))=[(r:Int)]:=by
  have hm:∀ x,x∈zdi f (m+1) (1+(m:Int))↔x=(r:Int):=fun x=>by
   rw [zqp]
   constructor
   ·rintro ⟨i,rfl,h1,h2⟩
    by_cases e:i=r
    ·rw [e]
    ·have h3:=z6s hn hr hf h1 e
     have h4:=ztj hn hr hf;omega
   ·rintro rfl
    have h4:=ztj hn hr hf;exact ⟨r,rfl,hr,by omega⟩
  have hp:=zyl f (m+1) (1+(m:Int))
  match hl:zdi f (m+1) (1+(m:Int)) with
  | []=>have:=(hm r).2 rfl;rw [hl] at this;cases this
  | [x]=>have:=(hm x).1 (by rw [hl];simp);rw [this]
  | x :: y :: l =>
   have h1:=(hm x).1 (by rw [hl];simp);have h2:=(hm y).1 (by rw [hl];simp);rw [hl] at hp;have:=(List.pairwise_cons.1 hp).1 y (by simp);omega
 unfold zic;show zbb f (m+1) (m+1)=zbb f (m+1) m ++ _;rw [zt8,hg];rfl
end
section
variable {n r:Nat} {us:List Int} (h3:3≤n) (h5:n≤5) (hr:r < n) (hu:∀ x∈us,0≤x∧x≤255)
include h3 h5 hr hu
theorem zu9:zai (za6 n us r)=0:=by
 have h1:inR 0 3 0=true:=zbp.2 (by omega);have h2:inR 2 8 (n:Int)=true:=zbp.2 (by omega);have hl:=zz5 us r n;have e:((n:Int)).toNat=n:=by omega
 unfold zai za6;simp only [h1,h2,e];have g1:¬ ((n:Int) - 2 < 0):=by omega
 have g2:¬ 100 < (zb6 us r n).length:=by omega
 have g3:¬ ((zb6 us r n).any (zdg ⟨0,n,zb6 us r n,[],false,0,0,1⟩)=true):=by
  rw [Bool.not_eq_true,List.any_eq_false];intro x hx;obtain ⟨i,i1,i2,i3,rfl⟩:=zz4 hx;have hx:=hu (gt us i) (by rw [← gt_get i3];exact List.getElem_mem _);have q1:inR 1 1000 (1+gt us i)=true:=zbp.2 (by omega);have q2:zci (n:Int) (i:Int)=true:=zgd.2 (by omega);simp [zdg,q1,q2,single]
 simp [g1,g2,g3,inR,rising]
theorem zabm:∀ x∈(za6 n us r).bets,zu8 r x=true:=fun x hx=>by
 obtain ⟨i,i1,i2,i3,rfl⟩:=zz4 hx;unfold zu8;rw [decide_eq_true_eq];simp only;omega
theorem zsj:(r:Int)∈za9 (za6 n us r)∧(za9 (za6 n us r)).length=n:=by
 have e:za9 (za6 n us r)=(List.range n).map fun (i:Nat)=>(i:Int):=z35 (b:=za6 n us r) rfl
 rw [e];refine ⟨List.mem_map.2 ⟨r,List.mem_range.2 hr,rfl⟩,by simp⟩
theorem zva:zai (za2 (za6 n us r) r)=0∧zdb (za6 n us r) r=0:=by
 have h0:=zu9 h3 h5 hr hu;have e1:(za2 (za6 n us r) r).scr=[(r:Int)]:=by
  show zhb ([] ++ [(r:Int)])=_;rw [List.nil_append];exact List.perm_singleton.1 (List.mergeSort_perm _ _)
 have q2:zci (n:Int) (r:Int)=true:=zgd.2 (by omega)
 constructor
 ·have v:=zht h0
  have i1:inR 0 3 (za2 (za6 n us r) r).kd=true:=zbp.2 v.kd;have i2:inR 2 8 (za2 (za6 n us r) r).n=true:=zbp.2 v.n;have i3:inR 0 1000000 (za2 (za6 n us r) r).car=true:=zbp.2 v.car;have i4:inR 0 500 (za2 (za6 n us r) r).duty=true:=zbp.2 v.duty;have i5:inR 1 100 (za2 (za6 n us r) r).step=true:=zbp.2 v.step;have i6:¬ 100 < (za2 (za6 n us r) r).bets.length:=by have:=v.many;exact Nat.not_lt.2 this
  have i7:¬ ((za2 (za6 n us r) r).bets.any (zdg (za2 (za6 n us r) r))=true):=by
   rw [Bool.not_eq_true,List.any_eq_false];intro x hx;have:zdg (za6 n us r) x=false:=v.odd x hx;rw [show zdg (za2 (za6 n us r) r) x=zdg (za6 n us r) x from rfl,this];simp
  have i8:zci (za2 (za6 n us r) r).n r=true:=q2;have i9:¬ ((za2 (za6 n us r) r).n - 2 < ((za2 (za6 n us r) r).scr.length:Int)):=by
   rw [e1];show ¬ ((n:Int) - 2 < 1);omega
  unfold zai;rw [if_neg (by rw [i1];simp),if_neg (by rw [i2,i3,i4,i5];simp),if_neg i6,if_neg i7,if_neg];rw [e1,not_or,not_or];refine ⟨by rw [e1] at i9;exact i9,by simp [i8],by simp [rising,flat]⟩
 ·unfold zdb
  have i8:zci (za6 n us r).n r=true:=q2;rw [if_neg (fun h=>h h0),if_neg (by rw [i8];simp),if_neg (by show ¬ (([]:List Int).contains (r:Int)=true);simp),if_neg];show ¬ ((0:Int)=(n:Int) - 2);omega
theorem zad6 {fs:List (List Int)} (h:zdw (za6 n us r) (fs ++ [[(r:Int)]])):zdw (za2 (za6 n us r) r) fs:=by
 have hrun:=zsj h3 h5 hr hu;have hv:=zva h3 h5 hr hu;refine ⟨zht hv.1,?_,fun g hg=>h.ne g (List.mem_append.2 (.inl hg)),fun g hg=>h.up g (List.mem_append.2 (.inl hg))⟩;have h1:=h.perm;rw [z6q];have h2:=h1.filter fun q=>decide (q≠(r:Int))
 have hnd:=h1.nodup_iff.1 (zqj _);rw [List.flatten_append] at h2 hnd;rw [List.nodup_append] at hnd;have e:((fs.flatten ++ [[(r:Int)]].flatten).filter fun q=>decide (q≠(r:Int)))=fs.flatten:=by
  rw [List.filter_append,List.filter_eq_self.2]
  ·simp
  ·intro x hx
   have:=hnd.2.2 x hx r (by simp);simpa using this
 rw [e] at h2;exact h2
omit h3 h5 hr hu in
theorem zad7 {fs:List (List Int)} (h:fs≠[]):zbw (za6 n us r) (fs ++ [[(r:Int)]])=zbw (za2 (za6 n us r) r) fs:=by
 have g1:∀ gs,grp (za6 n us r) gs=1:=fun gs=>by unfold grp;rw [if_neg (fun h=>h.1 rfl)]
 have g2:∀ gs,grp (za2 (za6 n us r) r) gs=1:=fun gs=>by unfold grp;rw [if_neg (fun h=>h.1 rfl)]
 have e:zbt (fs ++ [[(r:Int)]]) 1=zbt fs 1:=by
  unfold zbt;rw [List.take_append_of_le_length (by have:=List.length_pos_iff.2 h;omega)]
 unfold zbw;rw [g1,g2,e];rfl
theorem accH {f:List Int} (hf:zba n f=true) (hg:zic f n=zbb f n (n - 1) ++ [[(r:Int)]]) (hne:zc5 (za6 n us r)≠r) :
  zbl (za6 n us r) (zic f n)=0∧zbl (za2 (za6 n us r) r) (zbb f n (n - 1))=0∧zjr (za6 n us r) (zic f n)=zjr (za2 (za6 n us r) r) (zbb f n (n - 1)):=by
 have hb:=zu9 h3 h5 hr hu;have hrun:=zsj h3 h5 hr hu;have hv:=zva h3 h5 hr hu;have h1:zbl (za6 n us r) (zic f n)=0:=zado rfl rfl hb hf;have h2:=z6i h1;rw [hg] at h2;have h4:=zad6 h3 h5 hr hu h2;refine ⟨h1,zzw hv.1 h4,?_⟩;rw [hg];exact zagi (zht hb) (zabm h3 h5 hr hu) hrun.1 (by omega) hne (zad7 (by have:=h4.pos;exact List.ne_nil_of_length_pos this))
end
theorem zabn {n:Int} {r:Nat}:∀ {l:List (List Int)},(∀ f∈l,pl f r=n)→loH n r l=n
 | [],_=>rfl
 | f :: l,h=>by
  unfold loH;rw [List.foldl_cons,h f (by simp),if_neg (by omega)];exact zabn fun g hg=>h g (by simp [hg])
theorem z6t {n:Int} {r:Nat}:∀ {l:List (List Int)},(∀ f∈l,pl f r=n)→l.foldl (fun a f=>if a < pl f r then pl f r else a) n=n
 | [],_=>rfl
 | f :: l,h=>by
  rw [List.foldl_cons,h f (by simp),if_neg (by omega)];exact z6t fun g hg=>h g (by simp [hg])
theorem zahu {n:Int} {r:Nat} (h1:1≤n):∀ {l:List (List Int)},l≠[]→(∀ f∈l,pl f r=n)→hiH r l=n
 | [],h,_=>absurd rfl h
 | f :: l,_,h=>by
  unfold hiH;rw [List.foldl_cons,h f (by simp)];have e:(if 1 < n then n else 1)=n:=by split<;>omega
  rw [e];exact z6t fun g hg=>h g (by simp [hg])
end Go.Proofs.YtdamgacabfbpjaaGreat
