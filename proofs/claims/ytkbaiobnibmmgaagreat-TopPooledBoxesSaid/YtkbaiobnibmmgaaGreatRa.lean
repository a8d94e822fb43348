/-
  The reference: Alone and Has.
-/
import Derived.Test.YtkbaiobnibmmgaaGreatPa
import Derived.Test.YtkbaiobnibmmgaaGreatBb
import Derived.Test.YtkbaiobnibmmgaaGreatPc
namespace Go.Proofs.YtkbaiobnibmmgaaGreat
open Go.RowKit Go.Shelf
set_option maxRecDepth 100000 in
set_option maxHeartbeats 1000000 in
theorem zoc (k:Int) (w:World):Calls Tryz.prog 85 #[.int .i64 k] w fun e w'=>e = .returned (.bool (decide (k=0) || decide (k=1)))∧Ext w w':=by
 go_enter Tryz.func85,Tryz.ntmps85
 by_cases h0:k=0
 ·subst h0
  go_wp2_with fail
  go_ret
  exact ⟨rfl,by exact xx⟩
 ·by_cases h1:k=1
  ·subst h1
   go_wp2_with fail
   go_ret
   exact ⟨rfl,by exact xx⟩
  ·have e0:(k == 0)=false:=by simpa using h0
   have e1:(k == 1)=false:=by simpa using h1
   have HH:Hid ((decide (k=0) || decide (k=1))=false):=Lib.hid (by simp [h0,h1])
   rw [HH.out]
   go_wp2_with fail
   go_ret
   exact ⟨rfl,by exact xx⟩
set_option maxRecDepth 100000 in
set_option maxHeartbeats 1000000 in
theorem zo9 (l:List Int) (n:Int) (v:Value) (w:World) (hv:IsInts w .i64 v l):Calls Tryz.prog 84 #[v,.int .i64 n] w fun e w'=>e = .returned (.bool (l.contains n))∧Ext w w':=by
 obtain ⟨va,cap,rfl,h1,h2,hc⟩:=hv.spec
 have HC:=Lib.hid hc
 clear hc hv
 go_enter Tryz.func84,Tryz.ntmps84
 go_wp2_with fail
 go_loopw [5] (fun iv W=>∃ k:Nat,k≤l.length∧iv = .int .i64 k∧n ∉ l.take k∧Ext w W) (fun iv _=>l.length - (intOf iv).toNat)
 case atStart=>exact ⟨0,by omega,rfl,by simp,by exact xx⟩
 case round =>
  obtain ⟨k,hk,rfl,hno,hE⟩:=hrel
  have HE:=Lib.hid hE
  have HNO:=Lib.hid hno
  by_cases hlt:k < l.length
  ·have hki:(k:Int) < (l.length:Int):=by omega
   rcases HC.out with hc | ⟨b,off,rfl,hc⟩
   ·rw [hc] at hlt;simp at hlt
   have ck:=zb hE (hc k hlt)
   have hzk:=World.block_lt_of_cell? _ _ ck
   simp only at hzk
   obtain ⟨y,hy⟩:∃ y,y=l[k]:=⟨_,rfl⟩
   rw [← hy] at ck
   by_cases he:y=n
   ·subst he
    have HM:Hid (l.contains y=true):=Lib.hid (by rw [List.contains_iff_mem,hy];exact List.getElem_mem hlt)
    have HD:Hid (decide (y∈l)=true):=Lib.hid (by rw [hy];exact decide_eq_true (List.getElem_mem hlt))
    clear hc hy hno hE
    go_wp2_with fail
    go_ret
    exact ⟨by first | (rw [HM.out];rfl) | (rw [HD.out];rfl),HE.out⟩
   ·have e1:(y == n)=false:=by simpa using he
    have hno2:n ∉ l.take (k+1):=by
     rw [List.take_add_one,List.getElem?_eq_getElem hlt,← hy]
     simp only [Option.toList_some,List.mem_append,List.mem_singleton,not_or]
     exact ⟨hno,fun h=>he h.symm⟩
    have HN2:=Lib.hid hno2
    clear hc hy hno hno2 hE
    go_wp2_with fail
    go_roundw
    case rel=>exact ⟨k+1,by omega,by go_num,HN2.out,HE.out⟩
    case measure=>simp [intOf];omega
  ·have hki:¬ ((k:Int) < (l.length:Int)):=by omega
   have hke:k=l.length:=by omega
   have HM:Hid (l.contains n=false):=Lib.hid (by
    rw [hke,List.take_length] at hno
    cases h:l.contains n
    ·rfl
    ·exact absurd (List.contains_iff_mem.1 h) hno)
   have HD:Hid (decide (n∈l)=false):=Lib.hid (by rw [hke,List.take_length] at hno;exact decide_eq_false hno)
   clear hke hno hE
   go_wp2_with fail
   go_ret
   exact ⟨by first | (rw [HM.out];rfl) | (rw [HD.out];rfl),HE.out⟩
end Go.Proofs.YtkbaiobnibmmgaaGreat
namespace Go.Proofs.YtkbaiobnibmmgaaGreat
open Go.RowKit Go.Shelf
def isB (b:Bk) (x:PB):Bool :=
 if x.u < 1∨1000 < x.u∨x.f < 0∨b.n≤x.f then false
 else if single b=true then decide (x.s = -1)
 else if x.s < 0∨b.n≤x.s∨x.s=x.f then false
 else decide (b.kd=2) || decide (x.f < x.s)
theorem zzx {b:Bk} (hk:0≤b.kd∧b.kd≤3) (x:PB):isB b x = !oddB b x:=by
 have e1:(inR 1 1000 x.u=false∨zb7 b.n x.f=false)↔(x.u < 1∨1000 < x.u∨x.f < 0∨b.n≤x.f):=by
  unfold inR zb7
  simp only [Bool.not_eq_false',Bool.or_eq_true,decide_eq_true_eq]
  omega
 have e2:(zb7 b.n x.s=false∨x.f=x.s)↔(x.s < 0∨b.n≤x.s∨x.s=x.f):=by
  unfold zb7
  simp only [Bool.not_eq_false',Bool.or_eq_true,decide_eq_true_eq]
  omega
 unfold isB oddB
 by_cases h1:x.u < 1∨1000 < x.u∨x.f < 0∨b.n≤x.f
 ·rw [if_pos h1,if_pos (e1.2 h1)];rfl
 rw [if_neg h1,if_neg (fun h=>h1 (e1.1 h))]
 by_cases hs:single b=true
 ·rw [if_pos hs,if_pos hs,Bool.not_not]
 rw [if_neg hs,if_neg hs]
 by_cases h2:x.s < 0∨b.n≤x.s∨x.s=x.f
 ·rw [if_pos h2,if_pos (e2.2 h2)];rfl
 rw [if_neg h2,if_neg (fun h=>h2 (e2.1 h))]
 unfold single at hs
 simp only [Bool.or_eq_true,decide_eq_true_eq,not_or] at hs
 by_cases h3:b.kd=2
 ·have h4:¬ (b.kd=3):=by omega
  rw [decide_eq_true h3,decide_eq_false h4];rfl
 ·have h4:b.kd=3:=by omega
  rw [decide_eq_false h3,decide_eq_true h4]
  by_cases h5:x.f < x.s
  ·rw [decide_eq_true h5,decide_eq_false (show ¬ x.s < x.f by omega)];rfl
  ·rw [decide_eq_false h5,decide_eq_true (show x.s < x.f by omega)];rfl
set_option maxRecDepth 100000 in
set_option maxHeartbeats 4000000 in
theorem zuh (b:Bk) (ba sa:Option Addr) (bcap scap:Nat) (x:PB) (w:World) :
  Calls Tryz.prog 57 #[.agg #[.int .i64 b.kd,.int .i64 b.n,.slice ba b.bets.length bcap,.slice sa b.scr.length scap,.bool b.fav,.int .i64 b.car,.int .i64 b.duty,.int .i64 b.step],.agg #[.int .i64 x.f,.int .i64 x.s,.int .i64 x.u]] w fun e w'=>e = .returned (.bool (isB b x))∧Ext w w':=by
 go_enter Tryz.func57,Tryz.ntmps57
 have hI:∀ c:Bool,isB b x=c→Hid (isB b x=c):=fun _ h=>Lib.hid h
 by_cases h1:x.u < 1
 ·have hA:isB b x=false:=by unfold isB;rw [if_pos (.inl h1)]
  have HA:=hI _ hA
  clear hA
  go_wp2_with fail
  go_ret
  exact ⟨by rw [HA.out];rfl,by exact xx⟩
 by_cases h2:1000 < x.u
 ·have hA:isB b x=false:=by unfold isB;rw [if_pos (.inr (.inl h2))]
  have HA:=hI _ hA
  clear hA
  go_wp2_with fail
  go_ret
  exact ⟨by rw [HA.out];rfl,by exact xx⟩
 by_cases h3:x.f < 0
 ·have hA:isB b x=false:=by unfold isB;rw [if_pos (.inr (.inr (.inl h3)))]
  have HA:=hI _ hA
  clear hA
  go_wp2_with fail
  go_ret
  exact ⟨by rw [HA.out];rfl,by exact xx⟩
 by_cases h4:b.n≤x.f
 ·have hA:isB b x=false:=by unfold isB;rw [if_pos (.inr (.inr (.inr h4)))]
  have HA:=hI _ hA
  clear hA
  go_wp2_with fail
  go_ret
  exact ⟨by rw [HA.out];rfl,by exact xx⟩
 have hn:¬ (x.u < 1∨1000 < x.u∨x.f < 0∨b.n≤x.f):=by omega
 go_wp2_with fail
 refine (zoc b.kd _).mono ?_
 rintro e W1 ⟨rfl,hE1⟩
 rw [show (decide (b.kd=0) || decide (b.kd=1))=single b from rfl]
 have k0:W1.cell? ⟨w.heap.size,0,none⟩=some (.int .i64 b.kd):=zb hE1 (by simp [go_sem])
 have k1:W1.cell? ⟨w.heap.size,1,none⟩=some (.int .i64 b.n):=zb hE1 (by simp [go_sem])
 have x0:W1.cell? ⟨w.heap.size+1,0,none⟩=some (.int .i64 x.f):=zb hE1 (by simp [go_sem])
 have x1:W1.cell? ⟨w.heap.size+1,1,none⟩=some (.int .i64 x.s):=zb hE1 (by simp [go_sem])
 have hz:=hE1.size
 simp only [World.size_alloc] at hz
 have HE:=Lib.hid (Ext.trans' (by exact xx) hE1:Ext w W1)
 clear hE1
 cases hs:single b
 case true =>
  have hA:isB b x=decide (x.s = -1):=by unfold isB;rw [if_neg hn,if_pos hs]
  have HA:=hI _ hA
  clear hA hs hn
  by_cases h5:x.s = -1
  ·have e5:(x.s == -1)=true:=by rw [h5];rfl
   have HC:=Lib.hid (decide_eq_true h5)
   clear h5
   go_wp2_with fail
   go_ret
   exact ⟨by rw [HA.out,HC.out];rfl,HE.out⟩
  ·have e5:(x.s == -1)=false:=beq_eq_false_iff_ne.2 h5
   have HC:=Lib.hid (decide_eq_false h5)
   go_wp2_with fail
   go_ret
   exact ⟨by rw [HA.out,HC.out];rfl,HE.out⟩
 case false =>
 have hs2:¬ single b=true:=by rw [hs];decide
 have hB:isB b x=if x.s < 0∨b.n≤x.s∨x.s=x.f then false else decide (b.kd=2) || decide (x.f < x.s):=by unfold isB;rw [if_neg hn,if_neg hs2]
 have HB:=Lib.hid hB
 clear hB hs hs2 hn
 by_cases h5:x.s < 0
 ·have HA:=hI false (by rw [HB.out,if_pos (.inl h5)])
  go_wp2_with fail
  go_ret
  exact ⟨by rw [HA.out];rfl,HE.out⟩
 by_cases h6:b.n≤x.s
 ·have HA:=hI false (by rw [HB.out,if_pos (.inr (.inl h6))])
  go_wp2_with fail
  go_ret
  exact ⟨by rw [HA.out];rfl,HE.out⟩
 by_cases h7:x.s=x.f
 ·have HA:=hI false (by rw [HB.out,if_pos (.inr (.inr h7))])
  have e7:(x.s == x.f)=true:=by rw [h7];exact beq_self_eq_true _
  go_wp2_with fail
  go_ret
  exact ⟨by rw [HA.out];rfl,HE.out⟩
 have e7:(x.s == x.f)=false:=beq_eq_false_iff_ne.2 h7
 by_cases h8:b.kd=2
 ·have HA:=hI true (by rw [HB.out,if_neg (by omega),decide_eq_true h8];rfl)
  rw [h8] at k0
  clear h8
  go_wp2_with fail
  go_ret
  exact ⟨by rw [HA.out];rfl,HE.out⟩
 have e8:(b.kd == 2)=false:=beq_eq_false_iff_ne.2 h8
 by_cases h9:x.f < x.s
 ·have HA:=hI true (by rw [HB.out,if_neg (by omega),decide_eq_true h9,Bool.or_true])
  go_wp2_with fail
  go_ret
  exact ⟨by rw [HA.out];rfl,HE.out⟩
 ·have HA:=hI false (by rw [HB.out,if_neg (by omega),decide_eq_false h8,decide_eq_false h9];rfl)
  have HD:=Lib.hid (decide_eq_false h9)
  go_wp2_with fail
  go_ret
  exact ⟨congrArg (fun c=>Ending.returned (.bool c)) (HD.out.trans HA.out.symm),HE.out⟩
end Go.Proofs.YtkbaiobnibmmgaaGreat
namespace Go.Proofs.YtkbaiobnibmmgaaGreat
open Go.RowKit Go.Shelf
structure BkR (b:Bk):Prop where
 kd:0≤b.kd∧b.kd≤3
 n:2≤b.n∧b.n≤8
 car:0≤b.car∧b.car≤1000000
 duty:0≤b.duty∧b.duty≤500
 step:1≤b.step∧b.step≤100
theorem zod {lo hi n:Int} (h:n < lo∨hi < n):inR lo hi n=false:=by
 rw [Bool.eq_false_iff];intro e;rw [inR_iff] at e;omega
theorem zle {lo hi n:Int} (h:lo≤n∧n≤hi):¬ inR lo hi n=false:=by rw [inR_iff.2 h];simp
theorem bk2 {b:Bk} (h:b.kd < 0∨3 < b.kd):zai b=2:=by unfold zai;rw [if_pos (zod h)]
theorem bk3 {b:Bk} (hk:0≤b.kd∧b.kd≤3) (h:(b.n < 2∨8 < b.n)∨(b.car < 0∨1000000 < b.car)∨(b.duty < 0∨500 < b.duty)∨(b.step < 1∨100 < b.step)):zai b=3:=by
 unfold zai
 rw [if_neg (zle hk),if_pos (h.imp zod fun h=>h.imp zod fun h=>h.imp zod zod)]
theorem BkR.no {b:Bk} (r:BkR b):¬ (inR 2 8 b.n=false∨inR 0 1000000 b.car=false∨inR 0 500 b.duty=false∨inR 1 100 b.step=false):=by
 rw [inR_iff.2 r.n,inR_iff.2 r.car,inR_iff.2 r.duty,inR_iff.2 r.step];simp
theorem bk6 {b:Bk} (r:BkR b) (h:100 < b.bets.length):zai b=6:=by
 unfold zai
 rw [if_neg (zle r.kd),if_neg r.no,if_pos h]
theorem bk16 {b:Bk} (r:BkR b) (h:b.bets.length≤100) {x:PB} (hx:x∈b.bets) (ho:isB b x=false):zai b=16:=by
 unfold zai
 rw [zzx r.kd] at ho
 rw [if_neg (zle r.kd),if_neg r.no,if_neg (by omega),if_pos (List.any_eq_true.2 ⟨x,hx,by simpa using ho⟩)]
theorem zzy {b:Bk} (r:BkR b) (hb:∀ x∈b.bets,isB b x=true):¬ b.bets.any (oddB b)=true:=by
 intro h
 obtain ⟨x,hx,ho⟩:=List.any_eq_true.1 h
 have:=hb x hx
 rw [zzx r.kd,ho] at this
 cases this
theorem bk15 {b:Bk} (r:BkR b) (h:b.bets.length≤100) (hb:∀ x∈b.bets,isB b x=true) (hs:b.n - 2 < (b.scr.length:Int)∨∃ i,i < b.scr.length∧((gt b.scr i < 0∨b.n≤gt b.scr i)∨flat b.scr i=true)):zai b=15:=by
 unfold zai
 rw [if_neg (zle r.kd),if_neg r.no,if_neg (by omega),if_neg (zzy r hb),if_pos]
 rcases hs with hs | ⟨i,hi,hs | hs⟩
 ·exact .inl hs
 ·refine .inr (.inl ?_)
  rw [Bool.eq_false_iff]
  intro he
  have:=isRun_iff.1 (List.all_eq_true.1 he _ (List.getElem_mem hi))
  rw [gt_get hi] at this
  omega
 ·refine .inr (.inr ?_)
  unfold rising
  rw [List.any_eq_true.2 ⟨i,List.mem_range.2 hi,hs⟩]
  rfl
theorem bk0 {b:Bk} (r:BkR b) (h:b.bets.length≤100) (hb:∀ x∈b.bets,isB b x=true) (hl:(b.scr.length:Int)≤b.n - 2) (hs:∀ i,i < b.scr.length→(0≤gt b.scr i∧gt b.scr i < b.n)∧flat b.scr i=false):zai b=0:=by
 unfold zai
 rw [if_neg (zle r.kd),if_neg r.no,if_neg (by omega),if_neg (zzy r hb),if_neg]
 rintro (h1 | h1 | h1)
 ·omega
 ·rw [List.all_eq_true.2 fun x hx=>?_] at h1
  ·cases h1
  ·obtain ⟨i,hi,rfl⟩:=List.getElem_of_mem hx
   rw [gt_get hi]
   exact isRun_iff.2 (hs i hi).1
 ·unfold rising at h1
  rw [List.any_eq_false.2 fun i hi=>by rw [(hs i (List.mem_range.1 hi)).2];simp] at h1
  cases h1
set_option maxRecDepth 100000 in
set_option maxHeartbeats 4000000 in
theorem zxx (b:Bk) (ba sa:Option Addr) (bcap scap:Nat) (w:World) (hv:IsBook w b ba bcap sa scap) :
  Calls Tryz.prog 28 #[.agg #[.int .i64 b.kd,.int .i64 b.n,.slice ba b.bets.length bcap,.slice sa b.scr.length scap,.bool b.fav,.int .i64 b.car,.int .i64 b.duty,.int .i64 b.step]] w fun e w'=>e = .returned (.int .i64 (zai b))∧Ext w w':=by
 obtain ⟨⟨q1,q2⟩,q3,q4⟩:=hv.caps
 have HV:=Lib.hid hv
 clear hv
 go_enter Tryz.func28,Tryz.ntmps28
 go_upto_region 1 with (fail)
 obtain ⟨W0,hW0⟩:∃ W0,W0=w.alloc (.cells #[.int .i64 b.kd,.int .i64 b.n,.slice ba b.bets.length bcap,.slice sa b.scr.length scap,.bool b.fav,.int .i64 b.car,.int .i64 b.duty,.int .i64 b.step] 25):=⟨_,rfl⟩
 have hE:Ext w W0:=by rw [hW0];exact xx
 have k0:W0.cell? ⟨w.heap.size,0,none⟩=some (.int .i64 b.kd):=by rw [hW0];simp [go_sem]
 have k1:W0.cell? ⟨w.heap.size,1,none⟩=some (.int .i64 b.n):=by rw [hW0];simp [go_sem]
 have k2:W0.cell? ⟨w.heap.size,2,none⟩=some (.slice ba b.bets.length bcap):=by rw [hW0];simp [go_sem]
 have k3:W0.cell? ⟨w.heap.size,3,none⟩=some (.slice sa b.scr.length scap):=by rw [hW0];simp [go_sem]
 have k4:W0.cell? ⟨w.heap.size,4,none⟩=some (.bool b.fav):=by rw [hW0];simp [go_sem]
 have k5:W0.cell? ⟨w.heap.size,5,none⟩=some (.int .i64 b.car):=by rw [hW0];simp [go_sem]
 have k6:W0.cell? ⟨w.heap.size,6,none⟩=some (.int .i64 b.duty):=by rw [hW0];simp [go_sem]
 have k7:W0.cell? ⟨w.heap.size,7,none⟩=some (.int .i64 b.step):=by rw [hW0];simp [go_sem]
 have hz:w.heap.size < W0.heap.size:=World.block_lt_of_cell? _ _ k0
 have HS:=Lib.hid (HV.out.ext hE)
 have HW:=Lib.hid hE
 rw [← hW0]
 clear hW0 HV
 clear hE
 by_cases h1:b.kd < 0
 ·go_wp2_with fail
  go_ret
  exact ⟨zy (bk2 (.inl h1)).symm,HW.out⟩
 by_cases h2:3 < b.kd
 ·go_wp2_with fail
  go_ret
  exact ⟨zy (bk2 (.inr h2)).symm,HW.out⟩
 have hk:0≤b.kd∧b.kd≤3:=by omega
 by_cases h3:b.n < 2
 ·skip
  go_wp2_with fail
  go_ret
  exact ⟨zy (bk3 hk (.inl (.inl h3))).symm,HW.out⟩
 by_cases h4:8 < b.n
 ·skip
  go_wp2_with fail
  go_ret
  exact ⟨zy (bk3 hk (.inl (.inr h4))).symm,HW.out⟩
 by_cases h5:b.car < 0
 ·skip
  go_wp2_with fail
  go_ret
  exact ⟨zy (bk3 hk (.inr (.inl (.inl h5)))).symm,HW.out⟩
 by_cases h6:1000000 < b.car
 ·skip
  go_wp2_with fail
  go_ret
  exact ⟨zy (bk3 hk (.inr (.inl (.inr h6)))).symm,HW.out⟩
 by_cases h7:b.duty < 0
 ·skip
  go_wp2_with fail
  go_ret
  exact ⟨zy (bk3 hk (.inr (.inr (.inl (.inl h7))))).symm,HW.out⟩
 by_cases h8:500 < b.duty
 ·skip
  go_wp2_with fail
  go_ret
  exact ⟨zy (bk3 hk (.inr (.inr (.inl (.inr h8))))).symm,HW.out⟩
 by_cases h9:b.step < 1
 ·skip
  go_wp2_with fail
  go_ret
  exact ⟨zy (bk3 hk (.inr (.inr (.inr (.inl h9))))).symm,HW.out⟩
 by_cases h10:100 < b.step
 ·skip
  go_wp2_with fail
  go_ret
  exact ⟨zy (bk3 hk (.inr (.inr (.inr (.inr h10))))).symm,HW.out⟩
 have R:BkR b:=⟨hk,by omega,by omega,by omega,by omega⟩
 by_cases h11:100 < b.bets.length
 ·have h11i:(100:Int) < (b.bets.length:Int):=by omega
  have H11:=Lib.hid h11
  clear h11
  go_wp2_with fail
  go_ret
  exact ⟨zy (bk6 R H11.out).symm,HW.out⟩
 have h11i:¬ ((100:Int) < (b.bets.length:Int)):=by omega
 have hn1:=R.n
 have RR:=Lib.hid R
 have H11:=Lib.hid (by omega:b.bets.length≤100)
 clear R h11
 go_wp2_with fail
 clear h1 h2 h3 h4 h5 h6 h7 h8 h9 h10 hk
 obtain ⟨_,_,e0,-,-,hbc⟩:=HS.out.bets.spec
 cases e0
 obtain ⟨_,_,e0,-,-,hsc⟩:=HS.out.scr.spec
 cases e0
 have HBC:=Lib.hid hbc
 have HSC:=Lib.hid hsc
 clear hbc hsc
 go_loopw [3] (fun iv W=>∃ k:Nat,k≤b.bets.length∧iv = .int .i64 k∧(∀ x∈b.bets.take k,isB b x=true)∧Ext W0 W) (fun iv _=>b.bets.length - (intOf iv).toNat)
 case atStart=>exact ⟨0,by omega,rfl,by simp,Below.refl _ _⟩
 case round =>
  obtain ⟨k,hk,rfl,hno,hE⟩:=hrel
  have HNO:=Lib.hid hno
  have HE:=Lib.hid hE
  have k0':=zb hE k0
  have k1':=zb hE k1
  have k2':=zb hE k2
  have k3':=zb hE k3
  have k4':=zb hE k4
  have k5':=zb hE k5
  have k6':=zb hE k6
  have k7':=zb hE k7
  have hz':=World.block_lt_of_cell? _ _ k0'
  simp only at hz'
  by_cases hlt:k < b.bets.length
  ·have hki:(k:Int) < (b.bets.length:Int):=by omega
   rcases HBC.out with hc | ⟨bb,off,rfl,hc⟩
   ·rw [hc] at hlt;simp at hlt
   have d0:=zb hE (hc k hlt).1
   have d1:=zb hE (hc k hlt).2.1
   have d2:=zb hE (hc k hlt).2.2
   have hzd:=World.block_lt_of_cell? _ _ d0
   simp only at hzd
   obtain ⟨x,hx⟩:∃ x,x=b.bets[k]:=⟨_,rfl⟩
   rw [← hx] at d0 d1 d2
   have HX:=Lib.hid hx
   clear hno hE hc hx k0 k1 k2 k3 k4 k5 k6 k7
   go_upto_region 10 with (fail)
   refine zji (by kernel_rfl) (by kernel_rfl) ?_
   repeat (first | go_big_quiet_step ((go_at_call 57;exact zh6 (zuh b _ sa bcap scap x _))) | quiet_step ((go_at_call 57;exact zh6 (zuh b _ sa bcap scap x _))))
   refine wpQuiet_nil ?_
   rintro _ ⟨g,rfl⟩
   cases hb:isB b x
   ·go_wp2_with fail
    go_ret
    exact ⟨zy (bk16 RR.out H11.out (by rw [HX.out];exact List.getElem_mem hlt) hb).symm,(HW.out.trans' HE.out).trans' (zi wr g)⟩
   ·have HB:=Lib.hid hb
    clear hb
    go_wp2_with fail
    go_roundw
    case rel =>
     refine ⟨k+1,by omega,by go_num,fun y hy=>?_,HE.out.trans' (zi wr g)⟩
     rw [List.take_add_one,List.getElem?_eq_getElem hlt] at hy
     rcases List.mem_append.1 hy with h | h
     ·exact HNO.out y h
     ·simp at h
      rw [h,← HX.out];exact HB.out
    case measure=>simp [intOf];omega
  ·have hki:¬ ((k:Int) < (b.bets.length:Int)):=by omega
   have hall:∀ x∈b.bets,isB b x=true:=by
    have:k=b.bets.length:=by omega
    rw [this,List.take_length] at hno
    exact hno
   have HALL:=Lib.hid hall
   have hwn:IntKind.i64.wrap (b.n - 2)=b.n - 2:=IntWalk.i64_in _ (by omega)
   clear hno hE hall k0 k1 k2 k3 k4 k5 k6 k7
   by_cases h8:b.n - 2 < (b.scr.length:Int)
   ·have H8:=Lib.hid h8
    go_wp2_with fail
    go_ret
    exact ⟨zy (bk15 RR.out H11.out HALL.out (.inl H8.out)).symm,HW.out.trans' HE.out⟩
   obtain ⟨Wa,rfl⟩:∃ Wa,Wa=wr:=⟨_,rfl⟩
   go_wp2_with fail
   go_loopw [4] (fun iv W=>∃ j:Nat,j≤b.scr.length∧iv = .int .i64 j∧(∀ i,i < j→(0≤gt b.scr i∧gt b.scr i < b.n)∧flat b.scr i=false)∧Ext Wa W) (fun iv _=>b.scr.length - (intOf iv).toNat)
   case atStart=>exact ⟨0,by omega,rfl,fun i hi=>by omega,Below.refl _ _⟩
   case round =>
    obtain ⟨j,hj,rfl,hno,hE⟩:=hrel
    have HNO:=Lib.hid hno
    have HE2:=Lib.hid hE
    have k0:=zb hE k0'
    have k1:=zb hE k1'
    have k3:=zb hE k3'
    have hz2:=World.block_lt_of_cell? _ _ k1
    simp only at hz2
    clear hno k0' k1' k2' k3' k4' k5' k6' k7'
    have HF:=Lib.hid (HW.out.trans' HE.out)
    by_cases hlt2:j < b.scr.length
    ·have hji:(j:Int) < (b.scr.length:Int):=by omega
     rcases HSC.out with hc | ⟨sb,off,rfl,hc⟩
     ·rw [hc] at hlt2;simp at hlt2
     have d0:=zb (HE.out.trans' hE) (hc j hlt2)
     rw [gt_get] at d0
     obtain ⟨y,hy⟩:∃ y,y=gt b.scr j:=⟨_,rfl⟩
     rw [← hy] at d0
     have HY:=Lib.hid hy
     have HSC2:=Lib.hid hc
     have hze:=World.block_lt_of_cell? _ _ d0
     simp only at hze
     clear hy hc
     by_cases hy0:y < 0
     ·clear hE
      go_upto_region 17 with (fail)
      go_quiet (fail)
      go_wp2_with fail
      go_ret
      exact ⟨zy (bk15 RR.out H11.out HALL.out (.inr ⟨j,hlt2,.inl (.inl (by rw [← HY.out];exact hy0))⟩)).symm,(HF.out.trans' HE2.out).drN _⟩
     by_cases hyn:b.n≤y
     ·clear hE
      go_upto_region 17 with (fail)
      go_quiet (fail)
      go_wp2_with fail
      go_ret
      exact ⟨zy (bk15 RR.out H11.out HALL.out (.inr ⟨j,hlt2,.inl (.inr (by rw [← HY.out];exact hyn))⟩)).symm,(HF.out.trans' HE2.out).drN _⟩
     by_cases hj0:j=0
     ·have hd:decide ((0:Int) < (j:Int))=false:=decide_eq_false (by omega)
      have hd2:decide (0 < j)=false:=decide_eq_false (by omega)
      have hf:flat b.scr j=false:=by unfold flat;rw [decide_eq_false (by omega)];rfl
      have HFL:=Lib.hid hf
      clear hE hf hj0
      go_upto_region 17 with (fail)
      go_quiet (fail)
      go_wp2_with fail
      go_roundw
      case rel =>
       refine ⟨j+1,by omega,by go_num,fun i hi=>?_,HE2.out.drN _⟩
       by_cases e:i=j
       ·rw [e,← HY.out];exact ⟨by omega,HFL.out⟩
       ·exact HNO.out i (by omega)
      case measure=>simp [intOf];omega
     ·obtain ⟨p,rfl⟩:∃ p,j=p+1:=⟨j - 1,by omega⟩
      have hd:decide ((0:Int) < ((p+1:Nat):Int))=true:=decide_eq_true (by omega)
      have hw1:IntKind.i64.wrap (((p+1:Nat):Int) - 1)=(p:Int):=by rw [IntWalk.i64_in _ (by omega)];omega
      have hpi:(p:Int) < (b.scr.length:Int):=by omega
      have d1:=zb (HE.out.trans' hE) (HSC2.out p (by omega))
      rw [gt_get] at d1
      obtain ⟨x,hx⟩:∃ x,x=gt b.scr p:=⟨_,rfl⟩
      rw [← hx] at d1
      have hfl:flat b.scr (p+1)=decide (y≤x):=by unfold flat;rw [decide_eq_true (by omega),Bool.true_and,Nat.add_sub_cancel,hx,HY.out]
      have HFL:=Lib.hid hfl
      clear hE hfl hx hj0
      by_cases hyx:y≤x
      ·go_upto_region 17 with (fail)
       go_quiet (fail)
       go_wp2_with fail
       go_ret
       exact ⟨zy (bk15 RR.out H11.out HALL.out (.inr ⟨p+1,hlt2,.inr (by rw [HFL.out];exact decide_eq_true hyx)⟩)).symm,(HF.out.trans' HE2.out).drN _⟩
      ·have HYX:=Lib.hid hyx
       go_upto_region 17 with (fail)
       go_quiet (fail)
       go_wp2_with fail
       go_roundw
       case rel =>
        refine ⟨p+1+1,by omega,by go_num,fun i hi=>?_,HE2.out.drN _⟩
        by_cases e:i=p+1
        ·rw [e,← HY.out];exact ⟨by omega,by rw [HFL.out];exact decide_eq_false HYX.out⟩
        ·exact HNO.out i (by omega)
       case measure=>simp [intOf];omega
    ·have hji:¬ ((j:Int) < (b.scr.length:Int)):=by omega
     have hjl:j=b.scr.length:=by omega
     have H0:=Lib.hid (bk0 RR.out H11.out HALL.out (by omega) (by rw [← hjl];exact HNO.out))
     clear hE hjl
     go_wp2_with fail
     go_ret
     exact ⟨zy H0.out.symm,HF.out.trans' HE2.out⟩
end Go.Proofs.YtkbaiobnibmmgaaGreat
namespace Go.Proofs.YtkbaiobnibmmgaaGreat
open Go.RowKit Go.Shelf
def refG (b:Bk) (r:Int) (x:PB):Int:=if x.f=r∧outB b x.s=false then x.u else 0
theorem z8j {b:Bk} {r:Int} (h:outB b r=false):sumB (refG b r) b.bets=zbe b r:=zgq fun x _=>by
 unfold refG onF
 by_cases e:x.f=r
 ·rw [e];simp [h]
 ·simp [e]
theorem zzz {b:Bk} (v:BVal b) (r:Int) (k:Nat):0≤sumB (refG b r) (b.bets.take k)∧sumB (refG b r) (b.bets.take k)≤100000:=by
 have h:=zg7 (g:=refG b r) (c:=1000) (by omega) (l:=b.bets.take k) fun x hx=>by
  have:=(v.bet (List.mem_of_mem_take hx)).1
  unfold refG;split<;>omega
 have h2:=v.many
 have h3:(b.bets.take k).length≤100:=by rw [List.length_take];omega
 omega
theorem zmm (g:Int→Int):∀ (l:List Int) (a x:Int),za7 g a (l ++ [x])=if g (za7 g a l) < g x then x else za7 g a l
 | [],a,x=>rfl
 | y :: l,a,x=>by
  rw [List.cons_append,za7,zmm g l]
  rfl
def zbm (b:Bk) (k:Nat):Int:=if runK b k=[] then -1 else za7 (zbe b) ((runK b k).headD 0) (runK b k)
def zgu (b:Bk) (k:Nat):Int:=if runK b k=[] then 0 else zbe b (zbm b k)
theorem zxy {b:Bk} {k:Nat} {r:Int} (h:r∈runK b k):0≤r:=by
 unfold runK at h
 obtain ⟨i,_,rfl⟩:=List.mem_map.1 (List.mem_filter.1 h).1
 omega
theorem z36 {b:Bk} {k:Nat} (h:runK b k≠[]):0≤zbm b k:=by
 unfold zbm
 rw [if_neg h]
 rcases hl:runK b k with _ | ⟨a,l⟩
 ·exact absurd hl h
 ·rcases zid (zbe b) (a :: l) ((a :: l).headD 0) with e | e
  ·rw [e]
   exact zxy (b:=b) (k:=k) (by rw [hl];simp)
  ·exact zxy (b:=b) (k:=k) (by rw [hl];exact e)
theorem z6d {b:Bk} {k:Nat} (h:outB b k=true):zbm b (k+1)=zbm b k∧zgu b (k+1)=zgu b k:=by
 have e:runK b (k+1)=runK b k:=by rw [zic,if_pos h,List.append_nil]
 unfold zgu zbm
 rw [e]
 exact ⟨rfl,rfl⟩
theorem z1p {b:Bk} {k:Nat} (h:outB b k=false) (he:runK b k=[]):zbm b (k+1)=k∧zgu b (k+1)=zbe b k:=by
 have e:runK b (k+1)=[(k:Int)]:=by rw [zic,he,h];rfl
 have e1:zbm b (k+1)=k:=by
  unfold zbm
  rw [e,if_neg (by simp)]
  simp [za7]
 refine ⟨e1,?_⟩
 unfold zgu
 rw [e1,e,if_neg (by simp)]
theorem z37 {b:Bk} {k:Nat} (h:outB b k=false) (he:runK b k≠[]):zbm b (k+1)=(if zbe b (zbm b k) < zbe b k then (k:Int) else zbm b k)∧zgu b (k+1)=if zbe b (zbm b k) < zbe b k then zbe b k else zbe b (zbm b k):=by
 have e:runK b (k+1)=runK b k ++ [(k:Int)]:=by rw [zic,h];rfl
 have hh:(runK b k ++ [(k:Int)]).headD 0=(runK b k).headD 0:=by
  rcases hl:runK b k with _ | ⟨a,l⟩
  ·exact absurd hl he
  ·rfl
 have e1:zbm b (k+1)=if zbe b (zbm b k) < zbe b k then (k:Int) else zbm b k:=by
  have e2:zbm b k=za7 (zbe b) ((runK b k).headD 0) (runK b k):=by unfold zbm;rw [if_neg he]
  rw [e2]
  unfold zbm
  rw [e,if_neg (by simp),hh,zmm]
 refine ⟨e1,?_⟩
 unfold zgu
 rw [e,if_neg (by simp),e1]
 split<;>rfl
theorem z38 {b:Bk} (v:BVal b):zbm b b.n.toNat=favP b:=by
 have h:=zf0 v
 unfold zbm favP
 unfold runL at h ⊢
 rw [if_neg (fun e=>by rw [e] at h;simp at h)]
theorem zui {w:World} {ba:Option Addr} {bcap:Nat} {l:List PB} (h:IsBets w (.slice ba l.length bcap) l) {i:Nat} (hi:i < l.length):∃ bb off,ba=some ⟨bb,off,none⟩∧∀ W,Ext w W →
  (W.cell? ⟨bb,off+i * 3,none⟩=some (.int .i64 l[i].f)∧W.cell? ⟨bb,off+i * 3+1,none⟩=some (.int .i64 l[i].s)∧W.cell? ⟨bb,off+i * 3+2,none⟩=some (.int .i64 l[i].u))∧bb < W.heap.size:=by
 obtain ⟨_,_,e0,-,-,hbc⟩:=h.spec
 cases e0
 rcases hbc with h0 | ⟨bb,off,rfl,hc⟩
 ·rw [h0] at hi;simp at hi
 ·refine ⟨bb,off,rfl,fun W e=>?_⟩
  have c0:=zb e (hc i hi).1
  exact ⟨⟨c0,zb e (hc i hi).2.1,zb e (hc i hi).2.2⟩,World.block_lt_of_cell? _ _ c0⟩
set_option maxRecDepth 100000 in
set_option maxHeartbeats 4000000 in
theorem zuj (b:Bk) (ba sa:Option Addr) (bcap scap:Nat) (w:World) (hv:IsBook w b ba bcap sa scap) (v:BVal b) :
  Calls Tryz.prog 86 #[.agg #[.int .i64 b.kd,.int .i64 b.n,.slice ba b.bets.length bcap,.slice sa b.scr.length scap,.bool b.fav,.int .i64 b.car,.int .i64 b.duty,.int .i64 b.step]] w fun e w'=>e = .returned (.int .i64 (favP b))∧Ext w w':=by
 obtain ⟨⟨q1,q2⟩,q3,q4⟩:=hv.caps
 have V:=Lib.hid v
 have hvn:=v.n
 have hvm:=v.many
 clear v
 have HV:=Lib.hid hv
 clear hv
 go_enter Tryz.func86,Tryz.ntmps86
 go_upto_region 1 with (fail)
 obtain ⟨W0,hW0⟩:∃ W0,W0=w.alloc (.cells #[.int .i64 b.kd,.int .i64 b.n,.slice ba b.bets.length bcap,.slice sa b.scr.length scap,.bool b.fav,.int .i64 b.car,.int .i64 b.duty,.int .i64 b.step] 25):=⟨_,rfl⟩
 have hE:Ext w W0:=by rw [hW0];exact xx
 have k0:W0.cell? ⟨w.heap.size,0,none⟩=some (.int .i64 b.kd):=by rw [hW0];simp [go_sem]
 have k1:W0.cell? ⟨w.heap.size,1,none⟩=some (.int .i64 b.n):=by rw [hW0];simp [go_sem]
 have k2:W0.cell? ⟨w.heap.size,2,none⟩=some (.slice ba b.bets.length bcap):=by rw [hW0];simp [go_sem]
 have k3:W0.cell? ⟨w.heap.size,3,none⟩=some (.slice sa b.scr.length scap):=by rw [hW0];simp [go_sem]
 have k4:W0.cell? ⟨w.heap.size,4,none⟩=some (.bool b.fav):=by rw [hW0];simp [go_sem]
 have k5:W0.cell? ⟨w.heap.size,5,none⟩=some (.int .i64 b.car):=by rw [hW0];simp [go_sem]
 have k6:W0.cell? ⟨w.heap.size,6,none⟩=some (.int .i64 b.duty):=by rw [hW0];simp [go_sem]
 have k7:W0.cell? ⟨w.heap.size,7,none⟩=some (.int .i64 b.step):=by rw [hW0];simp [go_sem]
 have hz:w.heap.size < W0.heap.size:=World.block_lt_of_cell? _ _ k0
 have HS:=Lib.hid (HV.out.ext hE)
 have HW:=Lib.hid hE
 rw [← hW0]
 clear hW0 HV
 clear hE
 go_wp2_with fail
 go_loopw [3,4,5] (fun bv mv iv W=>∃ (k:Nat) (best most:Int),(k:Int)≤b.n∧iv = .int .i64 k∧bv = .int .i64 best∧mv = .int .i64 most∧best=zbm b k∧most=zgu b k∧Ext W0 W) (fun _ _ iv _=>b.n.toNat - (intOf iv).toNat)
 case atStart=>exact ⟨0,-1,0,by omega,rfl,rfl,rfl,rfl,rfl,Below.refl _ _⟩
 case round =>
  obtain ⟨k,best,most,hk,rfl,rfl,rfl,hb,hm,hE⟩:=hrel
  have HB:=Lib.hid hb
  have HM:=Lib.hid hm
  have HE:=Lib.hid hE
  replace k0:=zb hE k0
  replace k1:=zb hE k1
  replace k2:=zb hE k2
  replace k3:=zb hE k3
  replace k4:=zb hE k4
  replace k5:=zb hE k5
  replace k6:=zb hE k6
  replace k7:=zb hE k7
  replace hz:=World.block_lt_of_cell? _ _ k0
  simp only at hz
  clear hb hm
  by_cases hlt:(k:Int) < b.n
  ·obtain ⟨X,rfl⟩:∃ X,X=wr:=⟨_,rfl⟩
   have hzX:=hE.size
   clear hE
   go_wp2_with fail
   go_loopw [6,7] (fun sv iv W=>∃ (i:Nat) (sm:Int),i≤b.bets.length∧iv = .int .i64 i∧sv = .int .i64 sm∧sm=sumB (refG b k) (b.bets.take i)∧Ext X W) (fun _ iv _=>b.bets.length - (intOf iv).toNat)
   case atStart=>exact ⟨0,0,by omega,rfl,rfl,rfl,Below.refl _ _⟩
   case round =>
    obtain ⟨i,sm,hi,rfl,rfl,hs,hE2⟩:=hrel
    have HSM:=Lib.hid hs
    have HE2:=Lib.hid hE2
    have hsb:=zzz V.out k i
    rw [← hs] at hsb
    replace k0:=zb hE2 k0
    replace k1:=zb hE2 k1
    replace k2:=zb hE2 k2
    replace k3:=zb hE2 k3
    replace k4:=zb hE2 k4
    replace k5:=zb hE2 k5
    replace k6:=zb hE2 k6
    replace k7:=zb hE2 k7
    replace hz:=World.block_lt_of_cell? _ _ k0
    simp only at hz
    clear hs
    by_cases hlt2:i < b.bets.length
    ·have hii:(i:Int) < (b.bets.length:Int):=by omega
     obtain ⟨bb,off,rfl,hc⟩:=zui HS.out.bets hlt2
     obtain ⟨⟨d0,d1,d2⟩,hzd⟩:=hc wr (HE.out.trans' hE2)
     have htk:=zc7 (refG b k) hlt2
     have hbd:=zzz V.out k (i+1)
     have hxu:=(V.out.bet (List.getElem_mem hlt2)).1
     obtain ⟨x,hx⟩:∃ x,x=b.bets[i]:=⟨_,rfl⟩
     rw [← hx] at d0 d1 d2 htk hxu
     rw [htk,← HSM.out] at hbd
     rw [← HSM.out] at htk
     have HTK:=Lib.hid htk
     have HSC:=Lib.hid ((HS.out.ext (HE.out.trans' hE2)).scr)
     clear hc hx hE2 htk
     by_cases hf:x.f=(k:Int)
     ·have e1:(x.f == (k:Int))=true:=by simpa using hf
      have HF:=Lib.hid hf
      obtain ⟨c,hc⟩:∃ c,c=b.scr.contains x.s:=⟨_,rfl⟩
      have hcn:=fun W h=>zo9 b.scr x.s (.slice sa b.scr.length scap) W h
      rw [← hc] at hcn
      have HCN:=Lib.hid hcn
      have HC:=Lib.hid hc
      clear hf hc hcn
      go_upto_region 10 with (fail)
      refine zji (by kernel_rfl) (by kernel_rfl) ?_
      repeat (first | go_big_quiet_step ((go_at_call 84;exact zh6 (HCN.out _ (HSC.out.ext (by exact xx))))) | quiet_step ((go_at_call 84;exact zh6 (HCN.out _ (HSC.out.ext (by exact xx))))))
      refine wpQuiet_nil ?_
      rintro _ ⟨g,rfl⟩
      clear HCN
      cases c
      ·have hg:refG b k x=x.u:=by unfold refG outB;rw [if_pos ⟨HF.out,HC.out.symm⟩]
       rw [hg] at hbd
       have HG:=Lib.hid hg
       clear hg
       go_wp2_with fail
       go_roundw
       case rel=>exact ⟨i+1,sm+x.u,by omega,by go_num,by go_num,by rw [HTK.out,HG.out],HE2.out.trans' (zi wr g)⟩
       case measure=>simp [intOf];omega
      ·have hg:refG b k x=0:=by unfold refG outB;rw [if_neg (by rw [← HC.out];simp)]
       have HG:=Lib.hid hg
       clear hg hbd
       go_wp2_with fail
       go_roundw
       case rel=>exact ⟨i+1,sm,by omega,by go_num,rfl,by rw [HTK.out,HG.out];omega,HE2.out.trans' (zi wr g)⟩
       case measure=>simp [intOf];omega
     ·have e1:(x.f == (k:Int))=false:=by simpa using hf
      have hg:refG b k x=0:=by unfold refG;rw [if_neg (fun h=>hf h.1)]
      have HG:=Lib.hid hg
      clear hf hg hbd
      go_wp2_with fail
      go_roundw
      case rel=>exact ⟨i+1,sm,by omega,by go_num,rfl,by rw [HTK.out,HG.out];omega,HE2.out⟩
      case measure=>simp [intOf];omega
    ·have hii:¬ ((i:Int) < (b.bets.length:Int)):=by omega
     have hie:i=b.bets.length:=by omega
     have hsum:sm=sumB (refG b k) b.bets:=by have:=HSM.out;rwa [hie,List.take_length] at this
     have HSUM:=Lib.hid hsum
     have HSC:=Lib.hid ((HS.out.ext (HE.out.trans' hE2)).scr)
     have HF:=Lib.hid (HE.out.trans' hE2)
     clear hie hsum hE2
     obtain ⟨Y,rfl⟩:∃ Y,Y=wr:=⟨_,rfl⟩
     go_wp2_with fail
     refine (zo9 b.scr k _ _ (HSC.out.ext (by exact xx))).mono ?_
     rintro e W5 ⟨rfl,hE5⟩
     have HE5:=Lib.hid (HF.out.trans' hE5)
     clear hE5
     by_cases ho:(k:Int)∈b.scr
     rotate_left
     ·have ho':outB b k=false:=by unfold outB;simpa using ho
      have hsum2:sm=zbe b k:=by rw [HSUM.out,z8j ho']
      by_cases he:runK b k=[]
      ·obtain ⟨r1,r2⟩:=z1p ho' he
       have hb0:best = -1:=by rw [HB.out];unfold zbm;rw [if_pos he]
       have hbl:best < 0:=by omega
       have R1:=Lib.hid r1
       have R2:=Lib.hid r2
       have S2:=Lib.hid hsum2
       clear ho' hsum2 he r1 r2 hb0
       go_wp2_with fail
       go_roundw
       case rel=>exact ⟨k+1,k,sm,by omega,by go_num,rfl,rfl,R1.out.symm,by rw [R2.out,S2.out],HE5.out⟩
       case measure=>simp [intOf];omega
      ·obtain ⟨r1,r2⟩:=z37 ho' he
       have hbp:=z36 he
       rw [← HB.out] at hbp r1 r2
       have hmm:most=zbe b best:=by rw [HM.out,HB.out];unfold zgu;rw [if_neg he]
       rw [← hmm,← hsum2] at r1 r2
       have hbl:¬ (best < 0):=by omega
       have R1:=Lib.hid r1
       have R2:=Lib.hid r2
       clear ho' hsum2 he r1 r2 hmm hbp
       by_cases hlm:most < sm
       ·have HLM:=Lib.hid hlm
        go_wp2_with fail
        go_roundw
        case rel=>exact ⟨k+1,k,sm,by omega,by go_num,rfl,rfl,by rw [R1.out,if_pos HLM.out],by rw [R2.out,if_pos HLM.out],HE5.out⟩
        case measure=>simp [intOf];omega
       ·have HLM:=Lib.hid hlm
        go_wp2_with fail
        go_roundw
        case rel=>exact ⟨k+1,best,most,by omega,by go_num,rfl,rfl,by rw [R1.out,if_neg (by have:=HLM.out;omega)],by rw [R2.out,if_neg (by have:=HLM.out;omega)],HE5.out⟩
        case measure=>simp [intOf];omega
     ·obtain ⟨r1,r2⟩:=z6d (show outB b k=true by unfold outB;simpa using ho)
      have R1:=Lib.hid r1
      have R2:=Lib.hid r2
      clear r1 r2
      go_wp2_with fail
      go_roundw
      case rel=>exact ⟨k+1,best,most,by omega,by go_num,rfl,rfl,by rw [R1.out,HB.out],by rw [R2.out,HM.out],HE5.out⟩
      case measure=>simp [intOf];omega
  ·have hfin:best=favP b:=by
    have:k=b.n.toNat:=by omega
    rw [HB.out,this,z38 V.out]
   have HFIN:=Lib.hid hfin
   clear hfin hE
   go_wp2_with fail
   go_ret
   exact ⟨zy HFIN.out,HW.out.trans' HE.out⟩
end Go.Proofs.YtkbaiobnibmmgaaGreat
namespace Go.Proofs.YtkbaiobnibmmgaaGreat
open Go.RowKit Go.Shelf
def onRV (b:Bk) (x:PB):Int × Int:=(onP b x).getD (0,0)
def onRE (b:Bk) (x:PB):Value:=.tuple #[.agg #[.int .i64 (onRV b x).1,.int .i64 (onRV b x).2],.bool (onP b x).isSome]
theorem zoe {b:Bk} {x:PB} {p q:Int} (h:onP b x=some (p,q)):onRE b x = .tuple #[.agg #[.int .i64 p,.int .i64 q],.bool true]:=by
 unfold onRE onRV
 rw [h];rfl
theorem zig {b:Bk} {x:PB} (h:onP b x=none):onRE b x = .tuple #[.agg #[.int .i64 0,.int .i64 0],.bool false]:=by
 unfold onRE onRV
 rw [h];rfl
theorem z8k {W:World} {g:Nat} {a b:Value} {T:TypeId} (h:W.heap[g]? = some (.cells #[a,b] T (0,0))) (x y:Value):((W.setCell ⟨g,0,none⟩ x).setCell ⟨g,1,none⟩ y).heap[g]? = some (.cells #[x,y] T (0,0)) :=
 zj (zj h 0 x) 1 y
structure TwoAt (W:World) (g:Nat):Prop where
 row:W.heap[g]? = some (.cells #[.int .i64 0,.int .i64 0] 50 (0,0))
theorem TwoAt.lt {W:World} {g:Nat} (h:TwoAt W g):g < W.heap.size:=(Array.getElem?_eq_some_iff.1 h.row).1
set_option maxRecDepth 100000 in
set_option maxHeartbeats 4000000 in
theorem z39 (x:PB) (b:Bk) (ba sa:Option Addr) (bcap scap:Nat) (w:World) (hv:IsBook w b ba bcap sa scap) (v:BVal b) :
  Calls Tryz.prog 38 #[.agg #[.int .i64 b.kd,.int .i64 b.n,.slice ba b.bets.length bcap,.slice sa b.scr.length scap,.bool b.fav,.int .i64 b.car,.int .i64 b.duty,.int .i64 b.step],.agg #[.int .i64 x.f,.int .i64 x.s,.int .i64 x.u]] w fun e w'=>e = .returned (onRE b x)∧Ext w w':=by
 have HV:=Lib.hid hv
 have V:=Lib.hid v
 clear hv v
 go_enter Tryz.func38,Tryz.ntmps38
 go_upto_region 1 with (fail)
 obtain ⟨W0,hW0⟩:∃ W0,W0=((w.alloc (.cells #[.int .i64 b.kd,.int .i64 b.n,.slice ba b.bets.length bcap,.slice sa b.scr.length scap,.bool b.fav,.int .i64 b.car,.int .i64 b.duty,.int .i64 b.step] 25)).alloc (.cells #[.int .i64 x.f,.int .i64 x.s,.int .i64 x.u] 36)).alloc (.cells #[.int .i64 0,.int .i64 0] 50):=⟨_,rfl⟩
 have hE:Ext w W0:=by rw [hW0];exact xx
 have k0:W0.cell? ⟨w.heap.size,0,none⟩=some (.int .i64 b.kd):=by rw [hW0];simp [go_sem]
 have k1:W0.cell? ⟨w.heap.size,1,none⟩=some (.int .i64 b.n):=by rw [hW0];simp [go_sem]
 have k2:W0.cell? ⟨w.heap.size,2,none⟩=some (.slice ba b.bets.length bcap):=by rw [hW0];simp [go_sem]
 have k3:W0.cell? ⟨w.heap.size,3,none⟩=some (.slice sa b.scr.length scap):=by rw [hW0];simp [go_sem]
 have k4:W0.cell? ⟨w.heap.size,4,none⟩=some (.bool b.fav):=by rw [hW0];simp [go_sem]
 have k5:W0.cell? ⟨w.heap.size,5,none⟩=some (.int .i64 b.car):=by rw [hW0];simp [go_sem]
 have k6:W0.cell? ⟨w.heap.size,6,none⟩=some (.int .i64 b.duty):=by rw [hW0];simp [go_sem]
 have k7:W0.cell? ⟨w.heap.size,7,none⟩=some (.int .i64 b.step):=by rw [hW0];simp [go_sem]
 have d0:W0.cell? ⟨w.heap.size+1,0,none⟩=some (.int .i64 x.f):=by rw [hW0];simp [go_sem]
 have d1:W0.cell? ⟨w.heap.size+1,1,none⟩=some (.int .i64 x.s):=by rw [hW0];simp [go_sem]
 have HRT:TwoAt W0 (w.heap.size+1+1):=⟨by
  rw [hW0]
  have:=World.alloc_heap_new ((w.alloc (.cells #[.int .i64 b.kd,.int .i64 b.n,.slice ba b.bets.length bcap,.slice sa b.scr.length scap,.bool b.fav,.int .i64 b.car,.int .i64 b.duty,.int .i64 b.step] 25)).alloc (.cells #[.int .i64 x.f,.int .i64 x.s,.int .i64 x.u] 36)) (.cells #[.int .i64 0,.int .i64 0] 50)
  simpa using this⟩
 have hz:=World.block_lt_of_cell? _ _ k0
 have hzd:=World.block_lt_of_cell? _ _ d0
 simp only at hz hzd
 rw [← hW0]
 have HS:=Lib.hid (HV.out.ext hE)
 have HW:=Lib.hid hE
 obtain ⟨cf0,hcf⟩:∃ c,c=b.scr.contains x.f:=⟨_,rfl⟩
 obtain ⟨cs0,hcs⟩:∃ c,c=b.scr.contains x.s:=⟨_,rfl⟩
 have t1:=fun W h=>zo9 b.scr x.f (.slice sa b.scr.length scap) W h
 have t2:=fun W h=>zo9 b.scr x.s (.slice sa b.scr.length scap) W h
 rw [← hcf] at t1
 rw [← hcs] at t2
 have T1:=Lib.hid t1
 have T2:=Lib.hid t2
 have HCF:Hid (cf0=outB b x.f):=Lib.hid hcf
 have HCS:Hid (cs0=outB b x.s):=Lib.hid hcs
 clear hW0 hE hcf hcs t1 t2
 go_wp2_with fail
 refine zat (W0:=W0) (g:=⟨W0,Below.refl _ _⟩) xx (T1.out _ (HS.out.ext xx).scr) fun g1 hgr=>?_
 clear hgr
 cases cf0
 ·skip
  go_wp2_with fail
  refine zat (W0:=W0) (g:=g1) xx (T2.out _ (HS.out.ext xx).scr) fun g2 hgr=>?_
  clear hgr
  cases cs0
  ·have HO:Hid (onRE b x = .tuple #[.agg #[.int .i64 x.f,.int .i64 x.s],.bool true]):=Lib.hid (zoe (by unfold onP;rw [if_pos ⟨HCF.out.symm,HCS.out.symm⟩]))
   have hgb:=zi W0 g2
   have hr:=((hgb).block _ HRT.lt).trans HRT.row
   have c0:(grow W0 g2).cell? ⟨w.heap.size+1+1,0,none⟩=some (.int .i64 0):=by rw [cell_of_row _ _ _ _ _ _ hr];rfl
   have c1:(grow W0 g2).cell? ⟨w.heap.size+1+1,1,none⟩=some (.int .i64 0):=by rw [cell_of_row _ _ _ _ _ _ hr];rfl
   have cf:∀ o,(grow W0 g2).frozen? ⟨w.heap.size+1+1,o,none⟩=false:=fun o=>by simp [World.frozen?,hr]
   have cz:=(Array.getElem?_eq_some_iff.1 hr).1
   clear hr
   go_wp2_with fail
   refine bodyPost_ret (v:=.tuple #[.agg #[.int .i64 x.f,.int .i64 x.s],.bool true]) (by simp [results,Tryz.results38,go_sem,c0,c1]) rfl ?_
   exact ⟨by rw [HO.out],((HW.out.trans' (hgb)).setCell (p:=⟨w.heap.size+1+1,0,none⟩) (by show w.heap.size≤w.heap.size+1+1;omega) _).setCell (p:=⟨w.heap.size+1+1,1,none⟩) (by show w.heap.size≤w.heap.size+1+1;omega) _⟩
  ·have HN:Hid (¬ (outB b x.f=false∧outB b x.s=false)):=Lib.hid (fun h=>by rw [← HCS.out] at h;cases h.2)
   clear HCF HCS
   obtain ⟨sg,hsg⟩:∃ sg,sg=single b:=⟨_,rfl⟩
   have t3:=fun W=>zoc b.kd W
   rw [show (decide (b.kd=0) || decide (b.kd=1))=sg by rw [hsg];rfl] at t3
   have T3:=Lib.hid t3
   have HSG:=Lib.hid hsg
   clear hsg t3
   go_wp2_with fail
   refine zat (W0:=W0) (g:=g2) xx (T3.out _) fun g3 hgr=>?_
   clear hgr
   cases sg
   ·have HO:Hid (onRE b x = .tuple #[.agg #[.int .i64 0,.int .i64 0],.bool false]):=Lib.hid (zig (by unfold onP;rw [if_neg HN.out,if_neg (fun h=>by rw [← HSG.out] at h;cases h.1)]))
    have hgb:=zi W0 g3
    have hr:=((hgb).block _ HRT.lt).trans HRT.row
    have c0:(grow W0 g3).cell? ⟨w.heap.size+1+1,0,none⟩=some (.int .i64 0):=by rw [cell_of_row _ _ _ _ _ _ hr];rfl
    have c1:(grow W0 g3).cell? ⟨w.heap.size+1+1,1,none⟩=some (.int .i64 0):=by rw [cell_of_row _ _ _ _ _ _ hr];rfl
    have cf:∀ o,(grow W0 g3).frozen? ⟨w.heap.size+1+1,o,none⟩=false:=fun o=>by simp [World.frozen?,hr]
    have cz:=(Array.getElem?_eq_some_iff.1 hr).1
    clear hr
    go_wp2_with fail
    refine bodyPost_ret (v:=.tuple #[.agg #[.int .i64 0,.int .i64 0],.bool false]) (by simp [results,Tryz.results38,go_sem,c0,c1]) rfl ?_
    exact ⟨by rw [HO.out],((HW.out.trans' (hgb)).setCell (p:=⟨w.heap.size+1+1,0,none⟩) (by show w.heap.size≤w.heap.size+1+1;omega) _).setCell (p:=⟨w.heap.size+1+1,1,none⟩) (by show w.heap.size≤w.heap.size+1+1;omega) _⟩
   ·obtain ⟨fv,hfv⟩:∃ fv,fv=b.fav:=⟨_,rfl⟩
    have HFV:=Lib.hid hfv
    have t5:=fun W h=>zuj b ba sa bcap scap W h V.out
    rw [← hfv] at k4 t5
    have T5:=Lib.hid t5
    clear hfv t5
    cases fv
    ·have HO:Hid (onRE b x = .tuple #[.agg #[.int .i64 0,.int .i64 0],.bool false]):=Lib.hid (zig (by unfold onP;rw [if_neg HN.out,if_neg (fun h=>by rw [← HFV.out] at h;cases h.2)]))
     have hgb:=zi W0 g3
     have hr:=((hgb).block _ HRT.lt).trans HRT.row
     have c0:(grow W0 g3).cell? ⟨w.heap.size+1+1,0,none⟩=some (.int .i64 0):=by rw [cell_of_row _ _ _ _ _ _ hr];rfl
     have c1:(grow W0 g3).cell? ⟨w.heap.size+1+1,1,none⟩=some (.int .i64 0):=by rw [cell_of_row _ _ _ _ _ _ hr];rfl
     have cf:∀ o,(grow W0 g3).frozen? ⟨w.heap.size+1+1,o,none⟩=false:=fun o=>by simp [World.frozen?,hr]
     have cz:=(Array.getElem?_eq_some_iff.1 hr).1
     clear hr
     go_wp2_with fail
     refine bodyPost_ret (v:=.tuple #[.agg #[.int .i64 0,.int .i64 0],.bool false]) (by simp [results,Tryz.results38,go_sem,c0,c1]) rfl ?_
     exact ⟨by rw [HO.out],((HW.out.trans' (hgb)).setCell (p:=⟨w.heap.size+1+1,0,none⟩) (by show w.heap.size≤w.heap.size+1+1;omega) _).setCell (p:=⟨w.heap.size+1+1,1,none⟩) (by show w.heap.size≤w.heap.size+1+1;omega) _⟩
    ·have HO:Hid (onRE b x = .tuple #[.agg #[.int .i64 (favP b),.int .i64 (-1)],.bool true]):=Lib.hid (zoe (by unfold onP;rw [if_neg HN.out,if_pos ⟨HSG.out.symm,HFV.out.symm⟩]))
     go_wp2_with fail
     refine zat (W0:=W0) (g:=g3) xx (T5.out _ (HS.out.ext xx)) fun g4 hgr=>?_
     clear hgr
     have hgb:=zi W0 g4
     have hr:=((hgb).block _ HRT.lt).trans HRT.row
     have c0:(grow W0 g4).cell? ⟨w.heap.size+1+1,0,none⟩=some (.int .i64 0):=by rw [cell_of_row _ _ _ _ _ _ hr];rfl
     have c1:(grow W0 g4).cell? ⟨w.heap.size+1+1,1,none⟩=some (.int .i64 0):=by rw [cell_of_row _ _ _ _ _ _ hr];rfl
     have cf:∀ o,(grow W0 g4).frozen? ⟨w.heap.size+1+1,o,none⟩=false:=fun o=>by simp [World.frozen?,hr]
     have cz:=(Array.getElem?_eq_some_iff.1 hr).1
     clear hr
     go_wp2_with fail
     refine bodyPost_ret (v:=.tuple #[.agg #[.int .i64 (favP b),.int .i64 (-1)],.bool true]) (by simp [results,Tryz.results38,go_sem,c0,c1]) rfl ?_
     exact ⟨by rw [HO.out],((HW.out.trans' (hgb)).setCell (p:=⟨w.heap.size+1+1,0,none⟩) (by show w.heap.size≤w.heap.size+1+1;omega) _).setCell (p:=⟨w.heap.size+1+1,1,none⟩) (by show w.heap.size≤w.heap.size+1+1;omega) _⟩
 ·skip
  have HN:Hid (¬ (outB b x.f=false∧outB b x.s=false)):=Lib.hid (fun h=>by rw [← HCF.out] at h;cases h.1)
  clear HCF HCS
  obtain ⟨sg,hsg⟩:∃ sg,sg=single b:=⟨_,rfl⟩
  have t3:=fun W=>zoc b.kd W
  rw [show (decide (b.kd=0) || decide (b.kd=1))=sg by rw [hsg];rfl] at t3
  have T3:=Lib.hid t3
  have HSG:=Lib.hid hsg
  clear hsg t3
  go_wp2_with fail
  refine zat (W0:=W0) (g:=g1) xx (T3.out _) fun g5 hgr=>?_
  clear hgr
  cases sg
  ·have HO:Hid (onRE b x = .tuple #[.agg #[.int .i64 0,.int .i64 0],.bool false]):=Lib.hid (zig (by unfold onP;rw [if_neg HN.out,if_neg (fun h=>by rw [← HSG.out] at h;cases h.1)]))
   have hgb:=zi W0 g5
   have hr:=((hgb).block _ HRT.lt).trans HRT.row
   have c0:(grow W0 g5).cell? ⟨w.heap.size+1+1,0,none⟩=some (.int .i64 0):=by rw [cell_of_row _ _ _ _ _ _ hr];rfl
   have c1:(grow W0 g5).cell? ⟨w.heap.size+1+1,1,none⟩=some (.int .i64 0):=by rw [cell_of_row _ _ _ _ _ _ hr];rfl
   have cf:∀ o,(grow W0 g5).frozen? ⟨w.heap.size+1+1,o,none⟩=false:=fun o=>by simp [World.frozen?,hr]
   have cz:=(Array.getElem?_eq_some_iff.1 hr).1
   clear hr
   go_wp2_with fail
   refine bodyPost_ret (v:=.tuple #[.agg #[.int .i64 0,.int .i64 0],.bool false]) (by simp [results,Tryz.results38,go_sem,c0,c1]) rfl ?_
   exact ⟨by rw [HO.out],((HW.out.trans' (hgb)).setCell (p:=⟨w.heap.size+1+1,0,none⟩) (by show w.heap.size≤w.heap.size+1+1;omega) _).setCell (p:=⟨w.heap.size+1+1,1,none⟩) (by show w.heap.size≤w.heap.size+1+1;omega) _⟩
  ·obtain ⟨fv,hfv⟩:∃ fv,fv=b.fav:=⟨_,rfl⟩
   have HFV:=Lib.hid hfv
   have t5:=fun W h=>zuj b ba sa bcap scap W h V.out
   rw [← hfv] at k4 t5
   have T5:=Lib.hid t5
   clear hfv t5
   cases fv
   ·have HO:Hid (onRE b x = .tuple #[.agg #[.int .i64 0,.int .i64 0],.bool false]):=Lib.hid (zig (by unfold onP;rw [if_neg HN.out,if_neg (fun h=>by rw [← HFV.out] at h;cases h.2)]))
    have hgb:=zi W0 g5
    have hr:=((hgb).block _ HRT.lt).trans HRT.row
    have c0:(grow W0 g5).cell? ⟨w.heap.size+1+1,0,none⟩=some (.int .i64 0):=by rw [cell_of_row _ _ _ _ _ _ hr];rfl
    have c1:(grow W0 g5).cell? ⟨w.heap.size+1+1,1,none⟩=some (.int .i64 0):=by rw [cell_of_row _ _ _ _ _ _ hr];rfl
    have cf:∀ o,(grow W0 g5).frozen? ⟨w.heap.size+1+1,o,none⟩=false:=fun o=>by simp [World.frozen?,hr]
    have cz:=(Array.getElem?_eq_some_iff.1 hr).1
    clear hr
    go_wp2_with fail
    refine bodyPost_ret (v:=.tuple #[.agg #[.int .i64 0,.int .i64 0],.bool false]) (by simp [results,Tryz.results38,go_sem,c0,c1]) rfl ?_
    exact ⟨by rw [HO.out],((HW.out.trans' (hgb)).setCell (p:=⟨w.heap.size+1+1,0,none⟩) (by show w.heap.size≤w.heap.size+1+1;omega) _).setCell (p:=⟨w.heap.size+1+1,1,none⟩) (by show w.heap.size≤w.heap.size+1+1;omega) _⟩
   ·have HO:Hid (onRE b x = .tuple #[.agg #[.int .i64 (favP b),.int .i64 (-1)],.bool true]):=Lib.hid (zoe (by unfold onP;rw [if_neg HN.out,if_pos ⟨HSG.out.symm,HFV.out.symm⟩]))
    go_wp2_with fail
    refine zat (W0:=W0) (g:=g5) xx (T5.out _ (HS.out.ext xx)) fun g6 hgr=>?_
    clear hgr
    have hgb:=zi W0 g6
    have hr:=((hgb).block _ HRT.lt).trans HRT.row
    have c0:(grow W0 g6).cell? ⟨w.heap.size+1+1,0,none⟩=some (.int .i64 0):=by rw [cell_of_row _ _ _ _ _ _ hr];rfl
    have c1:(grow W0 g6).cell? ⟨w.heap.size+1+1,1,none⟩=some (.int .i64 0):=by rw [cell_of_row _ _ _ _ _ _ hr];rfl
    have cf:∀ o,(grow W0 g6).frozen? ⟨w.heap.size+1+1,o,none⟩=false:=fun o=>by simp [World.frozen?,hr]
    have cz:=(Array.getElem?_eq_some_iff.1 hr).1
    clear hr
    go_wp2_with fail
    refine bodyPost_ret (v:=.tuple #[.agg #[.int .i64 (favP b),.int .i64 (-1)],.bool true]) (by simp [results,Tryz.results38,go_sem,c0,c1]) rfl ?_
    exact ⟨by rw [HO.out],((HW.out.trans' (hgb)).setCell (p:=⟨w.heap.size+1+1,0,none⟩) (by show w.heap.size≤w.heap.size+1+1;omega) _).setCell (p:=⟨w.heap.size+1+1,1,none⟩) (by show w.heap.size≤w.heap.size+1+1;omega) _⟩
end Go.Proofs.YtkbaiobnibmmgaaGreat
namespace Go.Proofs.YtkbaiobnibmmgaaGreat
open Go.RowKit Go.Shelf
set_option maxHeartbeats 2000000 in
theorem z4a (a b a' b':Int) (w:World):(Op.equal 50 (.agg #[.int .i64 a,.int .i64 b]) (.agg #[.int .i64 a',.int .i64 b'])).run Tryz.prog w = .ok (a == a' && b == b') w:=by
 have hi:∀ x y:Int,∀ w,(Op.equalIn 9999 3 (.int .i64 x) (.int .i64 y)).run Tryz.prog w = .ok (x == y) w:=fun x y w=>run_equalIn_int w 9998 3 .i64 .i64 x y (by kernel_rfl)
 simp only [Op.equal,Op.maxDepth]
 rw [Op.equalIn]
 simp only [Sem.run_bind,Tryz.runUnderlying50,Result.andThen_ok]
 have hr:List.range' 0 2=[0,1]:=rfl
 by_cases e1:a=a'
 ·by_cases e2:b=b'<;>simp [go_sem,hi,e1,e2,hr]
 ·simp [go_sem,hi,e1,hr]
theorem z8l (w:World) (a b a' b':Int):(binOp .eql 50 (.agg #[.int .i64 a,.int .i64 b]) (.agg #[.int .i64 a',.int .i64 b'])).run Tryz.prog w = .ok (.bool (a == a' && b == b')) w:=by
 have:=z4a a b a' b' w
 skip
 simp [binOp,go_sem,this]
end Go.Proofs.YtkbaiobnibmmgaaGreat
namespace Go.Proofs.YtkbaiobnibmmgaaGreat
open Go.RowKit Go.Shelf
def TwoP (B:Nat) (v:Value) (W:World):Prop:=∃ q,v = .pointer (some ⟨q,0,none⟩)∧B≤q∧W.heap[q]? = some (.cells #[.int .i64 0,.int .i64 0] 50 (0,0))
def TwoI (W:World) (g:Nat) (a b:Int):Prop:=W.heap[g]? = some (.cells #[.int .i64 a,.int .i64 b] 50 (0,0))
theorem TwoI.lt {W:World} {g:Nat} {a b:Int} (h:TwoI W g a b):g < W.heap.size:=(Array.getElem?_eq_some_iff.1 h).1
theorem TwoI.ext {W W':World} {g:Nat} {a b:Int} (h:TwoI W g a b) (e:Ext W W'):TwoI W' g a b:=(e.block _ h.lt).trans h
theorem TwoI.c0 {W:World} {g:Nat} {a b:Int} (h:TwoI W g a b):W.cell? ⟨g,0,none⟩=some (.int .i64 a):=by rw [cell_of_row _ _ _ _ _ _ h];rfl
theorem TwoI.c1 {W:World} {g:Nat} {a b:Int} (h:TwoI W g a b):W.cell? ⟨g,1,none⟩=some (.int .i64 b):=by rw [cell_of_row _ _ _ _ _ _ h];rfl
theorem TwoP.ext {B:Nat} {v:Value} {w w':World} (e:Ext w w') (h:TwoP B v w):TwoP B v w':=by
 obtain ⟨q,h1,h2,h3⟩:=h
 exact ⟨q,h1,h2,(e.block q (Array.getElem?_eq_some_iff.1 h3).1).trans h3⟩
theorem z6e {b:Bk} {x:PB} {s:Spt} {p q:Int} {o:Bool} (h:onRE b x = .tuple #[.agg #[.int .i64 p,.int .i64 q],.bool o]):za8 b s x=if o=true∧p=s.1∧q=s.2 then x.u else 0:=by
 unfold onRE onRV at h
 unfold za8
 obtain ⟨s1,s2⟩:=s
 cases ho:onP b x with
 | none =>
  rw [ho] at h
  simp at h
  rw [if_neg (by simp),if_neg (fun hh=>by have h2:=h.2;have h1:=hh.1;simp_all)]
 | some t =>
  rw [ho] at h
  simp at h
  obtain ⟨⟨h1,h2⟩,h3⟩:=h
  obtain ⟨t1,t2⟩:=t
  simp only at h1 h2
  subst h1 h2 h3
  simp
theorem z6f (b:Bk) (x:PB):∃ p q o,onRE b x = .tuple #[.agg #[.int .i64 p,.int .i64 q],.bool o]:=⟨_,_,_,rfl⟩
set_option maxRecDepth 100000 in
set_option maxHeartbeats 8000000 in
theorem zsf (s:Spt) (b:Bk) (ba sa:Option Addr) (bcap scap:Nat) (w:World) (hv:IsBook w b ba bcap sa scap) (v:BVal b) :
  Calls Tryz.prog 13 #[.agg #[.int .i64 b.kd,.int .i64 b.n,.slice ba b.bets.length bcap,.slice sa b.scr.length scap,.bool b.fav,.int .i64 b.car,.int .i64 b.duty,.int .i64 b.step],.agg #[.int .i64 s.1,.int .i64 s.2]] w fun e w'=>e = .returned (.int .i64 (zz b s))∧Ext w w':=by
 have HV:=Lib.hid hv
 have V:=Lib.hid v
 obtain ⟨⟨m1,m2⟩,-⟩:=hv.caps
 clear hv v
 obtain ⟨s1,s2⟩:=s
 simp only
 go_enter Tryz.func13,Tryz.ntmps13
 go_upto_region 1 with (fail)
 obtain ⟨W0,hW0⟩:∃ W0,W0=(w.alloc (.cells #[.int .i64 b.kd,.int .i64 b.n,.slice ba b.bets.length bcap,.slice sa b.scr.length scap,.bool b.fav,.int .i64 b.car,.int .i64 b.duty,.int .i64 b.step] 25)).alloc (.cells #[.int .i64 s1,.int .i64 s2] 50):=⟨_,rfl⟩
 have hE:Ext w W0:=by rw [hW0];exact xx
 have k0:W0.cell? ⟨w.heap.size,0,none⟩=some (.int .i64 b.kd):=by rw [hW0];simp [go_sem]
 have k1:W0.cell? ⟨w.heap.size,1,none⟩=some (.int .i64 b.n):=by rw [hW0];simp [go_sem]
 have k2:W0.cell? ⟨w.heap.size,2,none⟩=some (.slice ba b.bets.length bcap):=by rw [hW0];simp [go_sem]
 have k3:W0.cell? ⟨w.heap.size,3,none⟩=some (.slice sa b.scr.length scap):=by rw [hW0];simp [go_sem]
 have k4:W0.cell? ⟨w.heap.size,4,none⟩=some (.bool b.fav):=by rw [hW0];simp [go_sem]
 have k5:W0.cell? ⟨w.heap.size,5,none⟩=some (.int .i64 b.car):=by rw [hW0];simp [go_sem]
 have k6:W0.cell? ⟨w.heap.size,6,none⟩=some (.int .i64 b.duty):=by rw [hW0];simp [go_sem]
 have k7:W0.cell? ⟨w.heap.size,7,none⟩=some (.int .i64 b.step):=by rw [hW0];simp [go_sem]
 have t0:W0.cell? ⟨w.heap.size+1,0,none⟩=some (.int .i64 s1):=by rw [hW0];simp [go_sem]
 have t1:W0.cell? ⟨w.heap.size+1,1,none⟩=some (.int .i64 s2):=by rw [hW0];simp [go_sem]
 rw [← hW0]
 have HS:=Lib.hid (HV.out.ext hE)
 have HW:=Lib.hid hE
 clear hW0 hE HV
 go_wp2_with fail
 go_loopw [5,6] (fun nv iv W=>∃ (k:Nat) (n:Int),k≤b.bets.length∧iv = .int .i64 k∧nv = .int .i64 n∧n=sumB (za8 b (s1,s2)) (b.bets.take k)∧Ext W0 W) (fun _ iv _=>b.bets.length - (intOf iv).toNat)
 case atStart=>exact ⟨0,0,by omega,rfl,rfl,by simp [sumB],Below.refl _ _⟩
 case round =>
  obtain ⟨k,n,hk,rfl,rfl,hn,hE⟩:=hrel
  have HN:=Lib.hid hn
  have HE:=Lib.hid hE
  have hbd:=zmh V.out (s1,s2) k
  rw [← hn] at hbd
  replace k0:=zb hE k0
  replace k1:=zb hE k1
  replace k2:=zb hE k2
  replace k3:=zb hE k3
  replace k4:=zb hE k4
  replace k5:=zb hE k5
  replace k6:=zb hE k6
  replace k7:=zb hE k7
  replace t0:=zb hE t0
  replace t1:=zb hE t1
  have hz:=World.block_lt_of_cell? _ _ k0
  have hzt:=World.block_lt_of_cell? _ _ t0
  simp only at hz hzt
  by_cases hlt:k < b.bets.length
  ·have hki:(k:Int) < (b.bets.length:Int):=by omega
   obtain ⟨bb,off,rfl,hc⟩:=zui HS.out.bets hlt
   obtain ⟨⟨d0,d1,d2⟩,hzd⟩:=hc wr hE
   have htk:=zc7 (za8 b (s1,s2)) hlt
   have hbd2:=zmh V.out (s1,s2) (k+1)
   obtain ⟨x,hx⟩:∃ x,x=b.bets[k]:=⟨_,rfl⟩
   rw [← hx] at d0 d1 d2 htk
   obtain ⟨p,q,o,hon⟩:=z6f b x
   have hug:=z6e (s:=(s1,s2)) hon
   rw [hug] at htk
   rw [htk,← hn] at hbd2
   rw [← hn] at htk
   have t9:=fun W h=>z39 x b (some ⟨bb,off,none⟩) sa bcap scap W h V.out
   rw [hon] at t9
   have HON:=Lib.hid t9
   have HTK:=Lib.hid htk
   have HSW:=Lib.hid (HS.out.ext hE)
   clear hn hE hc hx hon hug htk t9
   go_upto_region 5 with (fail)
   refine za0 (wr.heap.size) (Nat.le_refl _)
    [sqV (.agg #[.int .i64 b.kd,.int .i64 b.n,.slice (some ⟨bb,off,none⟩) b.bets.length bcap,.slice sa b.scr.length scap,.bool b.fav,.int .i64 b.car,.int .i64 b.duty,.int .i64 b.step]),sqV (.pointer (some ⟨w.heap.size,2,none⟩)),sqV (.slice (some ⟨bb,off,none⟩) b.bets.length bcap),sqV (.int .i64 k),sqV (.pointer (some ⟨bb,off+k * 3,none⟩)),sqV (.agg #[.int .i64 x.f,.int .i64 x.s,.int .i64 x.u]),sqV (.tuple #[.agg #[.int .i64 p,.int .i64 q],.bool o]),sqV (.tuple #[.agg #[.int .i64 p,.int .i64 q],.bool o]),sqV (.agg #[.int .i64 p,.int .i64 q]),sqV (.bool o),sqW (fun v W=>TwoP wr.heap.size v W) (fun _ _ _ h e=>TwoP.ext e h),sqD [10] (fun l v W=>∃ g,l=[.pointer (some ⟨g,0,none⟩)]∧wr.heap.size≤g∧TwoI W g p q) (fun _ _ _ _ ⟨g,h1,h2,h3⟩ e=>⟨g,h1,h2,h3.ext e⟩),sqV (.bool o)]
    [true,true,true,true,true,true,true,true,true,true,false,false,true] [false,false,false,false,false,false,false,false,false,false,false,true,false] [true,true,true,true,true,true,true,true,true,true,false,true,true] [true,true,true,true,true,true,true,true,true,false,true,true,false]
    (by kernel_rfl) (by kernel_rfl) (by decide +kernel) (by decide +kernel) (by decide +kernel) rfl ⟨rfl,rfl⟩ ⟨?s0,?s1,?s2,?s3,?s4,?s5,?s6,?s7,?s8,?s9,?s10,?s11,?s12,trivial⟩ [some 17,some 18,some 19,some 20,some 21,some 22,some 23,some 16,some 24,some 25,some 7,none,some 8] rfl rfl ?send
   case s0 =>
    intro val ρ W hE hz hd hA hx
    have o0:ρ (.tmp 2) = .pointer (some ⟨w.heap.size,0,none⟩):=hA.old 2 (by decide)
    have f_k0:=cell_below hE (by simp only;omega) k0
    have f_k1:=cell_below hE (by simp only;omega) k1
    have f_k2:=cell_below hE (by simp only;omega) k2
    have f_k3:=cell_below hE (by simp only;omega) k3
    have f_k4:=cell_below hE (by simp only;omega) k4
    have f_k5:=cell_below hE (by simp only;omega) k5
    have f_k6:=cell_below hE (by simp only;omega) k6
    have f_k7:=cell_below hE (by simp only;omega) k7
    clear hd
    exact zd (W':=W) (by simp [execOp,o0,f_k0,f_k1,f_k2,f_k3,f_k4,f_k5,f_k6,f_k7,go_sem]) (Below.refl _ _) rfl
   case s1 =>
    intro val ρ W hE hz hd hA hx
    have o0:ρ (.tmp 2) = .pointer (some ⟨w.heap.size,0,none⟩):=hA.old 2 (by decide)
    clear hd
    exact zd (W':=W) (by simp [execOp,o0,go_sem]) (Below.refl _ _) rfl
   case s2 =>
    intro val ρ W hE hz hd hA hx
    have d1:ρ (.tmp 18) = .pointer (some ⟨w.heap.size,2,none⟩):=(hA.dep 1 (by decide) 18 rfl).trans (hd 1 (by decide))
    have f_k2:=cell_below hE (by simp only;omega) k2
    clear hd
    exact zd (W':=W) (by simp [execOp,d1,f_k2,go_sem]) (Below.refl _ _) rfl
   case s3 =>
    intro val ρ W hE hz hd hA hx
    have o0:ρ (.tmp 6) = .int .i64 k:=hA.old 6 (by decide)
    clear hd
    exact zd (W':=W) (by simp [execOp,o0,go_sem]) (Below.refl _ _) rfl
   case s4 =>
    intro val ρ W hE hz hd hA hx
    have d2:ρ (.tmp 19) = .slice (some ⟨bb,off,none⟩) b.bets.length bcap:=(hA.dep 2 (by decide) 19 rfl).trans (hd 2 (by decide))
    have d3:ρ (.tmp 20) = .int .i64 k:=(hA.dep 3 (by decide) 20 rfl).trans (hd 3 (by decide))
    clear hd
    exact zd (W':=W) (by simp [execOp,d2,d3,hki,go_sem]) (Below.refl _ _) rfl
   case s5 =>
    intro val ρ W hE hz hd hA hx
    have d4:ρ (.tmp 21) = .pointer (some ⟨bb,off+k * 3,none⟩):=(hA.dep 4 (by decide) 21 rfl).trans (hd 4 (by decide))
    have f_d0:=cell_below hE (by simp only;omega) d0
    have f_d1:=cell_below hE (by simp only;omega) d1
    have f_d2:=cell_below hE (by simp only;omega) d2
    clear hd
    exact zd (W':=W) (by simp [execOp,d4,f_d0,f_d1,f_d2,go_sem]) (Below.refl _ _) rfl
   case s6 =>
    intro val ρ W hE hz hd hA hx
    have d0:ρ (.tmp 17) = .agg #[.int .i64 b.kd,.int .i64 b.n,.slice (some ⟨bb,off,none⟩) b.bets.length bcap,.slice sa b.scr.length scap,.bool b.fav,.int .i64 b.car,.int .i64 b.duty,.int .i64 b.step]:=(hA.dep 0 (by decide) 17 rfl).trans (hd 0 (by decide))
    have d5:ρ (.tmp 22) = .agg #[.int .i64 x.f,.int .i64 x.s,.int .i64 x.u]:=(hA.dep 5 (by decide) 22 rfl).trans (hd 5 (by decide))
    clear hd
    refine zby 38 _ _ rfl #[.agg #[.int .i64 b.kd,.int .i64 b.n,.slice (some ⟨bb,off,none⟩) b.bets.length bcap,.slice sa b.scr.length scap,.bool b.fav,.int .i64 b.car,.int .i64 b.duty,.int .i64 b.step],.agg #[.int .i64 x.f,.int .i64 x.s,.int .i64 x.u]] (hA.func _) (by simp [d0,d5]) (fun args W=>Tryz.call38 args W) ((HON.out W (HSW.out.ext hE)).mono ?_)
    rintro e w' ⟨rfl,hb⟩
    exact ⟨_,rfl,hb,rfl⟩
   case s7 =>
    intro val ρ W hE hz hd hA hx
    have d6:ρ (.tmp 23) = .tuple #[.agg #[.int .i64 p,.int .i64 q],.bool o]:=(hA.dep 6 (by decide) 23 rfl).trans (hd 6 (by decide))
    clear hd
    exact zd (W':=W) (by simp [execOp,d6,go_sem]) (Below.refl _ _) rfl
   case s8 =>
    intro val ρ W hE hz hd hA hx
    have d7:ρ (.tmp 16) = .tuple #[.agg #[.int .i64 p,.int .i64 q],.bool o]:=(hA.dep 7 (by decide) 16 rfl).trans (hd 7 (by decide))
    clear hd
    exact zd (W':=W) (by simp [execOp,d7,go_sem]) (Below.refl _ _) rfl
   case s9 =>
    intro val ρ W hE hz hd hA hx
    have d7:ρ (.tmp 16) = .tuple #[.agg #[.int .i64 p,.int .i64 q],.bool o]:=(hA.dep 7 (by decide) 16 rfl).trans (hd 7 (by decide))
    clear hd
    exact zd (W':=W) (by simp [execOp,d7,go_sem]) (Below.refl _ _) rfl
   case s12 =>
    intro val ρ W hE hz hd hA hx
    have d9:ρ (.tmp 25) = .bool o:=(hA.dep 9 (by decide) 25 rfl).trans (hd 9 (by decide))
    clear hd
    exact zd (W':=W) (by simp [execOp,d9,go_sem]) (Below.refl _ _) rfl
   case s10 =>
    intro val ρ W hE hz hd hA hx
    clear hd
    exact zd (W':=W.alloc (.cells #[.int .i64 0,.int .i64 0] 50)) (by simp [execOp,go_sem]) xx ⟨_,rfl,hE.size,World.alloc_heap_new W _⟩
   case s11 =>
    intro val ρ W hE hz hd hA hx
    obtain ⟨g,e1,hB,hacc⟩:TwoP wr.heap.size (val 10) W:=hd 10 (by decide)
    have dq:ρ (.tmp 7) = .pointer (some ⟨g,0,none⟩):=(hA.dep 10 (by decide) 7 rfl).trans e1
    have d5:ρ (.tmp 24) = .agg #[.int .i64 p,.int .i64 q]:=(hA.dep 8 (by decide) 24 rfl).trans (hd 8 (by decide))
    clear hd
    have c0q:W.cell? ⟨g,0,none⟩=some (.int .i64 0):=by rw [cell_of_row _ _ _ _ _ _ hacc];rfl
    have c1q:W.cell? ⟨g,1,none⟩=some (.int .i64 0):=by rw [cell_of_row _ _ _ _ _ _ hacc];rfl
    have cfq:∀ o,W.frozen? ⟨g,o,none⟩=false:=fun o=>by simp [World.frozen?,hacc]
    exact ztv (W':=(W.setCell ⟨g,0,none⟩ (.int .i64 p)).setCell ⟨g,1,none⟩ (.int .i64 q)) (by simp [execOp,dq,d5,go_sem,c0q,c1q,cfq]) ((((Below.refl _ W).setCell hB _).setCell hB _)) ⟨g,congrArg (fun x=>[x]) e1,hB,z8k hacc _ _⟩
   case send =>
    intro val WW hE hzz hv
    obtain ⟨-,-,-,-,-,-,-,-,-,-,-,r11,r12,-⟩:=hv
    have q12:val 12 = .bool o:=r12
    obtain ⟨g,e10,hgB,hg⟩:∃ g,[val 10]=[.pointer (some ⟨g,0,none⟩)]∧wr.heap.size≤g∧TwoI WW g p q:=r11
    have q10:=(List.cons.inj e10).1
    have HEW:=Lib.hid (HE.out.trans' hE)
    replace k2:=zb hE k2
    replace t0:=zb hE t0
    replace t1:=zb hE t1
    replace d2:=zb hE d2
    replace hz:=World.block_lt_of_cell? _ _ k2
    replace hzt:=World.block_lt_of_cell? _ _ t0
    replace hzd:=World.block_lt_of_cell? _ _ d2
    simp only at hz hzt hzd
    have g0:=hg.c0
    have g1:=hg.c1
    have hzg:=hg.lt
    simp only [putD,q10,q12]
    go_frame
    clear hE hzz r12 q12 q10 e10 hg k0 k1 k3 k4 k5 k6 k7 d0 d1
    have hq2:=fun W=>z8l W p q s1 s2
    cases o
    ·have HT0:Hid (sumB (za8 b (s1,s2)) (b.bets.take (k+1))=n):=Lib.hid (by rw [HTK.out,if_neg (fun h=>by cases h.1)];omega)
     clear HTK hbd2
     go_wp2_with fail
     go_roundw
     case rel=>exact ⟨k+1,n,by omega,by go_num,rfl,HT0.out.symm,HEW.out⟩
     case measure=>simp [intOf];omega
    ·by_cases he:p=s1∧q=s2
     ·have hq3:(p == s1 && q == s2)=true:=by simp [he.1,he.2]
      have HT0:Hid (sumB (za8 b (s1,s2)) (b.bets.take (k+1))=n+x.u):=Lib.hid (by rw [HTK.out,if_pos ⟨rfl,he⟩])
      rw [if_pos ⟨rfl,he⟩] at hbd2
      simp only [hq3] at hq2
      clear he hq3
      go_wp2_with fail
      go_roundw
      case rel=>exact ⟨k+1,n+x.u,by omega,by go_num,by go_num,HT0.out.symm,HEW.out⟩
      case measure=>simp [intOf];omega
     ·have hq3:(p == s1 && q == s2)=false:=by
       rw [Bool.eq_false_iff];intro h;rw [Bool.and_eq_true,beq_iff_eq,beq_iff_eq] at h;exact he h
      have HT0:Hid (sumB (za8 b (s1,s2)) (b.bets.take (k+1))=n):=Lib.hid (by rw [HTK.out,if_neg (fun h=>he h.2)];omega)
      simp only [hq3] at hq2
      clear he hq3 hbd2
      go_wp2_with fail
      go_roundw
      case rel=>exact ⟨k+1,n,by omega,by go_num,rfl,HT0.out.symm,HEW.out⟩
      case measure=>simp [intOf];omega
  ·have hki:¬ ((k:Int) < (b.bets.length:Int)):=by omega
   have HR:Hid (n=zz b (s1,s2)):=Lib.hid (by rw [hn,show k=b.bets.length by omega,List.take_length];rfl)
   clear hn hE
   go_wp2_with fail
   go_ret
   exact ⟨zy HR.out,HW.out.trans' HE.out⟩
end Go.Proofs.YtkbaiobnibmmgaaGreat
