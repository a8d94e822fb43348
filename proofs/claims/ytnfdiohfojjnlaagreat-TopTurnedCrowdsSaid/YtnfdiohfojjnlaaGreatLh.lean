/-
  The least of a chain: the walks of least, of the closure in leasts, and of smallest over it.
-/
import Derived.Test.YtnfdiohfojjnlaaGreatBb
import Derived.Test.YtnfdiohfojjnlaaGreatBa
import Derived.Test.YtnfdiohfojjnlaaGreatLf
set_option maxRecDepth 200000
set_option maxHeartbeats 0
set_option linter.unusedSimpArgs false
set_option linter.unusedVariables false
namespace Go.Proofs.YtnfdiohfojjnlaaGreat
open Go.Lib (hid)
namespace Ls
open Go.RowKit Go.Shelf
def leastF (c:List Int) (p:Nat):Int:=((p / c.length:Nat):Int) * c.getD (c.length - 1) 0+(if 0 < p % c.length then c.getD (p % c.length - 1) 0 else 0)
structure COk (c:List Int):Prop where
 n0:0 < c.length
 n1:c.length≤1000
 b:∀ x∈c,0≤x∧x≤1000000
theorem zaaz {c:List Int} (h:COk c) {p:Nat} (hp:p≤1000000):0≤leastF c p∧leastF c p≤1000001000000:=by
 have hg:∀ i,i < c.length→0≤c.getD i 0∧c.getD i 0≤1000000:=fun i hi=>by
  rw [List.getD_eq_getElem?_getD,List.getElem?_eq_getElem hi];exact h.b _ (List.getElem_mem hi)
 have hn:=h.n0;have h1:=hg (c.length - 1) (by omega);have hq:p / c.length≤1000000:=Nat.le_trans (Nat.div_le_self _ _) hp;have hq2:((p / c.length:Nat):Int)≤1000000:=Int.ofNat_le.2 hq;have h2:0≤((p / c.length:Nat):Int) * c.getD (c.length - 1) 0:=Int.mul_nonneg (Int.natCast_nonneg _) h1.1;have h3:((p / c.length:Nat):Int) * c.getD (c.length - 1) 0≤1000000 * 1000000:=Int.mul_le_mul hq2 h1.2 h1.1 (by omega);unfold leastF
 split
 ·have hm:=Nat.mod_lt p hn
  have h4:=hg (p % c.length - 1) (by omega);omega
 ·omega
theorem z8l (c:List Int) (sa:Option Addr) (cap p:Nat) (hp:p≤1000000) (w:World) (hc:COk c) (hs:IsInts w .i64 (.slice sa c.length cap) c) :
  Calls Tryz.prog 127 #[.slice sa c.length cap,.int .i64 p] w fun e W=>e = .returned (.int .i64 (leastF c p))∧Ext w W:=by
 have n0:=hc.n0;have n1:=hc.n1
 rcases hs.spec with ⟨sa',cap',e,h5,h6,hcc⟩
 cases e
 rcases hcc with hcc | ⟨lb,lo,rfl,hcc⟩
 ·rw [hcc] at n0;simp at n0
 have hB:=hc.b;obtain ⟨n,hn⟩:∃ n,n=c.length:=⟨_,rfl⟩
 obtain ⟨la,hla⟩:∃ la,la=c.getD (n - 1) 0:=⟨_,rfl⟩
 have hlast:=hcc (n - 1) (by omega);have hlb:=hB (c[n - 1]'(by omega)) (List.getElem_mem _);have el:c[n - 1]'(by omega)=la:=by rw [hla,List.getD_eq_getElem?_getD,List.getElem?_eq_getElem (by omega)];rfl
 rw [el] at hlast hlb;obtain ⟨q,hq⟩:∃ q:Nat,q=p / n:=⟨_,rfl⟩
 obtain ⟨r,hr⟩:∃ r:Nat,r=p % n:=⟨_,rfl⟩
 have hrn:r < n:=by rw [hr];exact Nat.mod_lt _ (by omega)
 have hqp:q≤1000000:=by rw [hq];exact Nat.le_trans (Nat.div_le_self _ _) hp
 have e1:(p:Int).tdiv (n:Int)=(q:Int):=by rw [hq];exact (Int.ofNat_tdiv p n).symm
 have e2:(p:Int).tmod (n:Int)=(r:Int):=by rw [hr];exact (Int.ofNat_tmod p n).symm
 have m1:0≤(q:Int) * la:=Int.mul_nonneg (by omega) hlb.1;have m2:(q:Int) * la≤1000000 * 1000000:=Int.mul_le_mul (by omega) hlb.2 hlb.1 (by omega);have w1:IntKind.i64.wrap (q:Int)=q:=IntWalk.i64_in _ (by omega);have w2:IntKind.i64.wrap ((q:Int) * la)=(q:Int) * la:=IntWalk.i64_in _ (by omega);have hni:((n:Int) == 0)=false:=by simp;omega
 have hlz:lb < w.heap.size:=World.block_lt_of_cell? _ _ hlast;have hF:leastF c p=(q:Int) * la+(if 0 < r then c.getD (r - 1) 0 else 0):=by unfold leastF;rw [← hn,← hq,← hr,← hla]
 have HF:=hid hF;have HN:=hid hn;rw [← hn] at h5 ⊢;have hidx:((n:Int) - 1).toNat=n - 1:=by omega
 by_cases hr0:0 < r
 ·have hx:=hcc (r - 1) (by omega)
  have hxb:=hB (c[r - 1]'(by omega)) (List.getElem_mem _);obtain ⟨y,hy⟩:∃ y,y=c[r - 1]'(by omega):=⟨_,rfl⟩
  rw [← hy] at hx hxb;have hres:leastF c p=(q:Int) * la+y:=by rw [hF,if_pos hr0,List.getD_eq_getElem?_getD,List.getElem?_eq_getElem (by omega),← hy];rfl
  have HRS:=hid hres;have hd:decide ((r:Int) > 0)=true:=decide_eq_true (by omega);clear hcc hB hF hn hla el hq hr hy hres hs hc
  go_enter Tryz.func127,Tryz.ntmps127
  go_wp2_with fail
  go_quiet (fail)
  go_wp2_with fail;refine bodyPost_ret (v:=.int .i64 ((q:Int) * la+y)) (by simp [results,Tryz.results127,go_sem]) rfl ⟨by rw [HRS.out],Ext.drN (Below.refl _ _) _⟩
 ·obtain rfl:r=0:=by omega
  have hres:leastF c p=(q:Int) * la:=by rw [hF,if_neg hr0];omega
  have HRS:=hid hres;have hd:decide ((0:Int) > 0)=false:=rfl;clear hcc hB hF hn hla el hq hr hres hs hc hr0
  go_enter Tryz.func127,Tryz.ntmps127
  go_wp2_with fail
  go_quiet (fail)
  go_wp2_with fail;refine bodyPost_ret (v:=.int .i64 ((q:Int) * la)) (by simp [results,Tryz.results127,go_sem]) rfl ⟨by rw [HRS.out],Ext.drN (Below.refl _ _) _⟩
theorem zaa0 (out c:List Int) (k p ob oo kb ko cb co:Nat) (sa ca:Option Addr) (ocap ccap:Nat) (w:World) (hc:COk c) (hpk:p≤k) (hk:k < out.length) (hol:out.length≤1000000) (hob:∀ x∈out,0≤x∧x≤1000000000000000)
  (h1:w.cell? ⟨ob,oo,none⟩=some (.slice sa out.length ocap)) (h2:w.cell? ⟨kb,ko,none⟩=some (.int .i64 k)) (h3:w.cell? ⟨cb,co,none⟩=some (.slice ca c.length ccap))
  (hs:IsInts w .i64 (.slice sa out.length ocap) out) (ht:IsInts w .i64 (.slice ca c.length ccap) c) :
  Calls Tryz.prog 128 #[.int .i64 p,.pointer (some ⟨ob,oo,none⟩),.pointer (some ⟨kb,ko,none⟩),.pointer (some ⟨cb,co,none⟩)] w fun e W=>e = .returned (.int .i64 (out.getD (k - p) 0+leastF c p))∧Ext w W:=by
 rcases hs.spec with ⟨sa',cap',e,h5,h6,hcc⟩
 cases e
 rcases hcc with hcc | ⟨lb,lo,rfl,hcc⟩
 ·rw [hcc] at hk;simp at hk
 have x1:=hcc (k - p) (by omega);have hxb:=hob (out[k - p]'(by omega)) (List.getElem_mem _);obtain ⟨y,hy⟩:∃ y,y=out[k - p]'(by omega):=⟨_,rfl⟩
 rw [← hy] at x1 hxb;have hyg:out.getD (k - p) 0=y:=by rw [List.getD_eq_getElem?_getD,List.getElem?_eq_getElem (by omega),← hy];rfl
 have hlb:=zaaz hc (p:=p) (by omega);obtain ⟨m,hm⟩:∃ m,m=leastF c p:=⟨_,rfl⟩
 have hw:IntKind.i64.wrap (y+m)=y+m:=IntWalk.i64_in _ (by omega);have HT:=hid ht;have HC:=hid hc;have TL:=hid (fun (W:World) (hE:Ext w W)=>z8l c ca ccap p (by omega) W hc (ht.ext hE));rw [← hm] at TL;have HY:=hid hyg;have HM:=hid hm;obtain ⟨d,gd⟩:∃ d,d=k - p:=⟨_,rfl⟩
 have hkp:(k:Int) - (p:Int)=(d:Int):=by omega
 have hdw:IntKind.i64.wrap (d:Int)=(d:Int):=IntWalk.i64_in _ (by omega);rw [← gd] at x1;have hzx:=World.block_lt_of_cell? _ _ x1;have hz1:=World.block_lt_of_cell? _ _ h1;have hz2:=World.block_lt_of_cell? _ _ h2;have hz3:=World.block_lt_of_cell? _ _ h3;simp only at hzx hz1 hz2 hz3;have hdn:d < out.length:=by omega
 have hp6:p≤1000000:=by omega
 rw [← hm] at hlb;obtain ⟨n,hn⟩:∃ n,n=out.length:=⟨_,rfl⟩
 rw [← hn] at h1 h5 hk hol hdn;have hdi:(d:Int) < (n:Int):=by omega
 clear hcc hob hy hyg hm hs ht hc hn gd hpk hk
 go_enter Tryz.func128,Tryz.ntmps128
 go_wp2_with fail;refine zb9 (w.heap.size) (Nat.le_refl _)
  [sqV (.slice (some ⟨lb,lo,none⟩) n ocap),sqV (.int .i64 k),sqV (.int .i64 p),sqV (.int .i64 d),sqV (.pointer (some ⟨lb,lo+d,none⟩)),sqV (.int .i64 y),sqV (.slice ca c.length ccap),sqV (.int .i64 p),sqV (.int .i64 m),sqV (.int .i64 (y+m)),sqV (.int .i64 (y+m))]
  [true,true,true,true,true,true,true,true,true,true,true] [false,false,false,false,false,false,false,false,false,false,false] [true,true,true,true,true,true,true,true,true,true,true] [true,true,true,true,true,true,true,true,true,true,true]
  (by kernel_rfl) (by kernel_rfl) (by decide +kernel) (by decide +kernel) (by decide +kernel) rfl ⟨rfl,rfl⟩ ⟨?s0,?s1,?s2,?s3,?s4,?s5,?s6,?s7,?s8,?s9,?s10,trivial⟩ [some 6,some 7,some 8,some 9,some 10,some 11,some 12,some 13,some 14,some 15,some 5] rfl rfl ?send
 case s0 =>
  intro val ρ W hE hz hd hA hx;have o0:ρ (.tmp 1) = .pointer (some ⟨ob,oo,none⟩):=hA.old 1 (by decide);have f_h1:=cell_below hE (by simp only;omega) h1;clear hd;exact zh (W':=W) (by simp [execOp,o0,f_h1,go_sem]) (Below.refl _ _) rfl
 case s1 =>
  intro val ρ W hE hz hd hA hx;have o0:ρ (.tmp 2) = .pointer (some ⟨kb,ko,none⟩):=hA.old 2 (by decide);have f_h2:=cell_below hE (by simp only;omega) h2;clear hd;exact zh (W':=W) (by simp [execOp,o0,f_h2,go_sem]) (Below.refl _ _) rfl
 case s2 =>
  intro val ρ W hE hz hd hA hx;have o0:ρ (.tmp 0) = .int .i64 p:=hA.old 0 (by decide);clear hd;exact zh (W':=W) (by simp [execOp,o0,go_sem]) (Below.refl _ _) rfl
 case s3 =>
  intro val ρ W hE hz hd hA hx;have d1:ρ (.tmp 7) = .int .i64 k:=(hA.dep 1 (by decide) 7 rfl).trans (hd 1 (by decide));have d2:ρ (.tmp 8) = .int .i64 p:=(hA.dep 2 (by decide) 8 rfl).trans (hd 2 (by decide));clear hd;exact zh (W':=W) (by simp [execOp,d1,d2,hkp,hdw,go_sem]) (Below.refl _ _) rfl
 case s4 =>
  intro val ρ W hE hz hd hA hx;have d0:ρ (.tmp 6) = .slice (some ⟨lb,lo,none⟩) n ocap:=(hA.dep 0 (by decide) 6 rfl).trans (hd 0 (by decide));have d3:ρ (.tmp 9) = .int .i64 d:=(hA.dep 3 (by decide) 9 rfl).trans (hd 3 (by decide));clear hd;exact zh (W':=W) (by simp [execOp,d0,d3,hdi,go_sem]) (Below.refl _ _) rfl
 case s5 =>
  intro val ρ W hE hz hd hA hx;have d4:ρ (.tmp 10) = .pointer (some ⟨lb,lo+d,none⟩):=(hA.dep 4 (by decide) 10 rfl).trans (hd 4 (by decide));have f_x1:=cell_below hE (by simp only;omega) x1;clear hd;exact zh (W':=W) (by simp [execOp,d4,f_x1,go_sem]) (Below.refl _ _) rfl
 case s6 =>
  intro val ρ W hE hz hd hA hx;have o0:ρ (.tmp 3) = .pointer (some ⟨cb,co,none⟩):=hA.old 3 (by decide);have f_h3:=cell_below hE (by simp only;omega) h3;clear hd;exact zh (W':=W) (by simp [execOp,o0,f_h3,go_sem]) (Below.refl _ _) rfl
 case s7 =>
  intro val ρ W hE hz hd hA hx;have o0:ρ (.tmp 0) = .int .i64 p:=hA.old 0 (by decide);clear hd;exact zh (W':=W) (by simp [execOp,o0,go_sem]) (Below.refl _ _) rfl
 case s8 =>
  intro val ρ W hE hz hd hA hx;have d6:ρ (.tmp 12) = .slice ca c.length ccap:=(hA.dep 6 (by decide) 12 rfl).trans (hd 6 (by decide));have d7:ρ (.tmp 13) = .int .i64 p:=(hA.dep 7 (by decide) 13 rfl).trans (hd 7 (by decide));clear hd;refine zct 127 _ _ rfl #[.slice ca c.length ccap,.int .i64 p] (hA.func _) (by simp [d6,d7]) (fun args W=>Tryz.call127 args W) ((TL.out W hE).mono ?_);rintro e w' ⟨rfl,hb⟩;exact ⟨_,rfl,hb,rfl⟩
 case s9 =>
  intro val ρ W hE hz hd hA hx;have d5:ρ (.tmp 11) = .int .i64 y:=(hA.dep 5 (by decide) 11 rfl).trans (hd 5 (by decide));have d8:ρ (.tmp 14) = .int .i64 m:=(hA.dep 8 (by decide) 14 rfl).trans (hd 8 (by decide));clear hd;exact zh (W':=W) (by simp [execOp,d5,d8,hw,go_sem]) (Below.refl _ _) rfl
 case s10 =>
  intro val ρ W hE hz hd hA hx;have d9:ρ (.tmp 15) = .int .i64 (y+m):=(hA.dep 9 (by decide) 15 rfl).trans (hd 9 (by decide));clear hd;exact zh (W':=W) (by simp [execOp,d9,go_sem]) (Below.refl _ _) rfl
 case send =>
  intro val W2 hE hz hv;obtain ⟨-,-,-,-,-,-,-,-,-,-,r10,-⟩:=hv;have q10:val 10 = .int .i64 (y+m):=r10;simp only [zbx,q10];go_frame;have HE:=hid hE;clear hE hz q10;go_wp2_with fail;refine bodyPost_ret (v:=.int .i64 (y+m)) (by simp [results,Tryz.results128,go_sem]) rfl ⟨by rw [HY.out,HM.out],HE.out⟩
def smTo (out c:List Int) (k:Nat):Nat→Int
 | 0=>out.getD k 0+leastF c 0
 | p+1=>min (smTo out c k p) (out.getD (k - (p+1)) 0+leastF c (p+1))
theorem smallest_any (out c:List Int) (k ob oo kb ko cb co:Nat) (sa ca:Option Addr) (ocap ccap:Nat) (w:World) (hc:COk c) (hk:k < out.length) (hol:out.length≤1000000) (hob:∀ x∈out,0≤x∧x≤1000000000000000)
  (h1:w.cell? ⟨ob,oo,none⟩=some (.slice sa out.length ocap)) (h2:w.cell? ⟨kb,ko,none⟩=some (.int .i64 k)) (h3:w.cell? ⟨cb,co,none⟩=some (.slice ca c.length ccap))
  (hs:IsInts w .i64 (.slice sa out.length ocap) out) (ht:IsInts w .i64 (.slice ca c.length ccap) c) :
  Calls Tryz.prog 78 #[.int .i64 k,.func (.func 128) #[] #[.pointer (some ⟨ob,oo,none⟩),.pointer (some ⟨kb,ko,none⟩),.pointer (some ⟨cb,co,none⟩)]] w fun e W=>e = .returned (.int .i64 (smTo out c k k))∧Ext w W:=by
 have T:=hid (fun (p:Nat) (hp:p≤k) (W:World) (hE:Ext w W)=>zaa0 out c k p ob oo kb ko cb co sa ca ocap ccap W hc hp hk hol hob (zj hE h1) (zj hE h2) (zj hE h3) (hs.ext hE) (ht.ext hE));have hk6:k≤1000000:=by omega
 clear hs ht h1 h2 h3 hob hc
 go_enter Tryz.func78,Tryz.ntmps78
 go_wp2_with fail;refine (T.out 0 (by omega) w (Below.refl _ _)).mono ?_
 rintro _ W1 ⟨rfl,hE1⟩;have HE1:=hid hE1;obtain ⟨z,hz⟩:∃ z,z=smTo out c k 0:=⟨_,rfl⟩
 have hz':out.getD (k - 0) 0+leastF c 0=z:=by rw [hz];rfl
 rw [hz'];have HZ:=hid hz;clear hE1 hz hz';go_wp2_with fail
 go_loopw [5,6] (fun x nv W=>∃ (n:Nat) (m:Int),1≤n∧n≤k+1∧nv = .int .i64 n∧x = .int .i64 m∧m=smTo out c k (n - 1)∧Ext w W) (fun _ nv _=>k+1 - (intOf nv).toNat)
 case atStart=>exact ⟨1,z,by omega,by omega,rfl,rfl,HZ.out,HE1.out⟩
 case round =>
  obtain ⟨n,m,hn1,hnk,rfl,rfl,hm,hE⟩:=hrel;have HM:=hid hm;have HE:=hid hE;clear hm hE
  by_cases hlt:n≤k
  ·have hd:decide ((n:Int)≤(k:Int))=true:=decide_eq_true (by omega)
   go_wp2_with fail;refine (T.out n hlt wr HE.out).mono ?_
   rintro _ W2 ⟨rfl,hE2⟩;have HE2:=hid (HE.out.trans' hE2);obtain ⟨y,hy⟩:∃ y,y=out.getD (k - n) 0+leastF c n:=⟨_,rfl⟩
   rw [← hy];have HY:=hid hy;clear hE2 hy;go_wp2_with fail;go_roundw
   case rel =>
    refine ⟨n+1,min m y,by omega,by omega,by go_num,?_,?_,HE2.out⟩
    ·simp;split<;>omega
    ·obtain ⟨j,rfl⟩:∃ j,n=j+1:=⟨n - 1,by omega⟩
     rw [HM.out,HY.out];rfl
   case measure=>simp [intOf];omega
  ·have hd:decide ((n:Int)≤(k:Int))=false:=decide_eq_false (by omega)
   have hnn:n=k+1:=by omega
   have hmm:m=smTo out c k k:=by rw [HM.out,hnn];rfl
   have HMM:=hid hmm;clear hmm hnn;go_wp2_with fail;refine bodyPost_ret (v:=.int .i64 m) (by simp [results,Tryz.results78,go_sem]) rfl ⟨by rw [HMM.out],HE.out⟩
end Ls
open Go.RowKit
noncomputable def St.orM (S:St) (m:Nat):St:=⟨S.heap,S.next,Nat.lor S.t m,S.w⟩
theorem zhk (S:St) (m x:Nat):(S.orM m).get x=S.get x:=by rw [St.get_eq,St.get_eq];rfl
theorem zl3 (S:St) (m:Nat):Lcl S (S.orM m) :=
 ⟨Nat.le_refl _,fun _ h=>zg.2 (.inl h),fun _ h=>h,fun n o _ h=>⟨o,by rw [← zhk S m];exact h⟩,fun n h1 h2=>absurd h1 (by have:(S.orM m).next=S.next:=rfl;omega),fun n o _ h=>by rw [← zhk S m];exact h,fun h0 n h=>zg.2 (.inl (h0 n h))⟩
theorem zada {ρ:Rho} {S:St} {T:Nat→Prop} {w w':World} (h:Fit ρ S T w) (hb:Below w.heap.size w w') (m:Nat):Stp ρ S T w ρ (S.orM m) w' where
 old _ _:=rfl
 fit:=⟨fun n o hn ho=>by
   rw [zhk] at ho;obtain ⟨L,h1,h2⟩:=h.obj n o hn ho;exact ⟨L,h1,by rw [hb.block _ h2.some];exact h2⟩,fun a b o o' L L' ha hb' ho ho'=>h.inj a b o o' L L' ha hb' (by rw [← zhk S m];exact ho) (by rw [← zhk S m];exact ho')⟩
 fresh n _ _ h1 h2:=absurd h1 (by have:(S.orM m).next=S.next:=rfl;omega)
 frame b hb' _:=hb.block b hb'
 size:=hb.size
 lcl:=zl3 S m
 rest:=⟨hb.os,hb.tape,hb.output⟩
noncomputable def ztb:AV→Option Nat:=fun v=>match v with
 | .int .i64 (.ofNat a)=>some a
 | _=>none
noncomputable def zrq:List AV→Option (List Nat):=@List.rec AV (fun _=>Option (List Nat)) (some []) (fun v _ ih=>bnd (ztb v) fun a=>bnd ih fun l=>some (a :: l))
noncomputable def z51 (S:St) (v:AV):Option (Nat × List Nat):=match v with
 | .sl n off len cap=>zk (Nat.ble cap 1000000000) (bnd (S.get n) fun o=>bnd (zda o) fun c=>bnd (seg c off len) fun x=>bnd (zrq x) fun l=>some (n,l)) none
 | _=>none
noncomputable def zg1 (S:St) (o p:Nat):Option AV:=bnd (S.get o) fun x=>bnd (zda x) fun c=>nth c p
theorem zj4:∀ {x:List AV} {l:List Nat},zrq x=some l→x=l.map fun a=>.int .i64 (.ofNat a)
 | [],l,h=>by cases h;rfl
 | v :: x,l,h=>by
  have h:bnd (ztb v) (fun a=>bnd (zrq x) fun l=>some (a :: l))=some l:=h;obtain ⟨a,h1,h⟩:=zd h;obtain ⟨r,h2,h⟩:=zd h;cases h;have e:v = .int .i64 (.ofNat a):=by
   unfold ztb at h1
   split at h1
   ·cases h1;rfl
   ·cases h1
  rw [e,zj4 h2];rfl
section
variable {ρ:Rho} {S:St} {T:Nat→Prop} {w:World}
theorem zj5 (h:Fit ρ S T w) {o p:Nat} {a:AV} {V:Value} (hT:T o) (hc:zg1 S o p=some a) (hV:RV ρ (.ptr o p) V):∃ (L:Loc) (X:Value),ρ o=some L∧V = .pointer (some ⟨L.b,L.s+p,none⟩)∧w.cell? ⟨L.b,L.s+p,none⟩=some X∧RV ρ a X:=by
 obtain ⟨x,h1,hc⟩:=zd hc;obtain ⟨c,h2,hc⟩:=zd hc;rw [zbn h2] at h1;rw [zb1] at hc;obtain ⟨L,hL,e⟩:=hV;obtain ⟨L',e1,cs,e',e2,e3,e4,e5⟩:=h.obj o _ hT h1;rw [hL] at e1;cases e1;obtain ⟨X,g1,g2⟩:=RC.cell e2 e5 hc;exact ⟨L,X,hL,e,g1,g2⟩
theorem z4f (h:Fit ρ S T w) {v:AV} {q:Nat × List Nat} {V:Value} (hT:T q.1) (hc:z51 S v=some q) (hV:RV ρ v V):∃ sa cap,V = .slice sa (q.2.map Int.ofNat).length cap∧IsInts w .i64 V (q.2.map Int.ofNat):=by
 unfold z51 at hc
 split at hc
 ·rename_i n off len cap
  obtain ⟨hcap,hc⟩:=zf hc;have hcap:cap≤1000000000:=Nat.le_of_ble_eq_true hcap;obtain ⟨o,h1,hc⟩:=zd hc;obtain ⟨c,h2,hc⟩:=zd hc;obtain ⟨x,h3,hc⟩:=zd hc;obtain ⟨l,h4,hc⟩:=zd hc;cases hc;rw [zbn h2] at h1;obtain ⟨k1,k2,k3⟩:=zgd h3;have k4:=zj4 h4;obtain ⟨L,o',hL,e,hle,hoff⟩:=hV;have hlen:l.length=len:=by rw [← k2,k4];simp
  have hl2:(l.map Int.ofNat).length=len:=by simpa using hlen
  refine ⟨some ⟨L.b,o',none⟩,cap,by rw [e,hl2],?_⟩;obtain ⟨L',e1,cs,e',e2,e3,e4,e5⟩:=h.obj n _ hT h1;rw [hL] at e1;cases e1;have:=IsInts.mk (w:=w) (k:=.i64) (l:=l.map Int.ofNat) (b:=L.b) (off:=o') (cap:=cap) (by omega) (by omega) fun i hi=>by
   have hi2:i < len:=by omega
   have hil:i < l.length:=by omega
   have hx:x[i]? = some (.int .i64 (.ofNat l[i])):=by rw [k4,List.getElem?_map,List.getElem?_eq_getElem hil];rfl
   rw [k1,List.getElem?_take,if_pos hi2,List.getElem?_drop] at hx;obtain ⟨X,g1,g2⟩:=RC.cell e2 e5 hx;have ho:o'=L.s+off:=by rcases hoff with q | q;omega;exact q
   have g2:X = .int .i64 (.ofNat l[i]):=g2;rw [show o'+i=L.s+(off+i) by omega,g1,g2];simp
  rw [hl2] at this;rw [e];exact this
 ·cases hc
end
noncomputable def zj6 (cz:List Nat) (n la p:Nat):Nat:=Nat.add (Nat.mul (Nat.div p n) la) ((nth cz (Nat.mod p n)).getD 0)
noncomputable def z52 (a b:Nat):Nat:=zk (Nat.ble a b) a b
noncomputable def smN (cz:List Nat) (n la:Nat):List Nat→Nat→Nat→Nat:=@List.rec Nat (fun _=>Nat→Nat→Nat) (fun _ acc=>acc) (fun x _ ih p acc=>fcN (z52 acc (Nat.add x (zj6 cz n la p))) fun acc=>ih (Nat.succ p) acc)
noncomputable def smK (out c:List Nat) (k:Nat):Nat:=smN (0 :: c) c.length ((nth c (c.length - 1)).getD 0) (out.take k).reverse 1 (Nat.add ((nth out k).getD 0) (zj6 (0 :: c) c.length ((nth c (c.length - 1)).getD 0) 0))
theorem zx4 {c:List Nat} (hn:0 < c.length) (p:Nat):(zj6 (0 :: c) c.length ((nth c (c.length - 1)).getD 0) p:Int)=Ls.leastF (c.map Int.ofNat) p:=by
 unfold zj6 Ls.leastF;rw [zb1,zb1];have e1:(c.map Int.ofNat).length=c.length:=by simp
 have e2:∀ i,(c.map Int.ofNat).getD i 0=((c[i]?).getD 0:Nat):=fun i=>by
  rw [List.getD_eq_getElem?_getD,List.getElem?_map];cases c[i]?<;>rfl
 have hm:Nat.mod p c.length=p % c.length:=rfl;have hd:Nat.div p c.length=p / c.length:=rfl;rw [e1,e2,e2,hm,hd];show ((p / c.length * (c[c.length - 1]?).getD 0+((0 :: c)[p % c.length]?).getD 0:Nat):Int)=_;rw [Int.natCast_add,Int.natCast_mul]
 congr 1
 by_cases h:0 < p % c.length
 ·rw [if_pos h]
  obtain ⟨j,hj⟩:∃ j,p % c.length=j+1:=⟨p % c.length - 1,by omega⟩
  rw [hj];simp
 ·rw [if_neg h,show p % c.length=0 by omega];rfl
theorem zadb (a b:Nat):(z52 a b:Int)=min (a:Int) (b:Int):=by
 unfold z52;rw [zx]
 split
 ·rename_i h;have:=Nat.le_of_ble_eq_true h;omega
 ·rename_i h
  have:¬ a≤b:=fun h2=>h (Nat.ble_eq_true_of_le h2)
  omega
theorem zaei {out c:List Nat} (hn:0 < c.length) {k:Nat} (hk:k < out.length):(smK out c k:Int)=Ls.smTo (out.map Int.ofNat) (c.map Int.ofNat) k k:=by
 have eo:∀ i,i < out.length→(out.map Int.ofNat).getD i 0=((out[i]?).getD 0:Nat):=fun i hi=>by
  rw [List.getD_eq_getElem?_getD,List.getElem?_map];cases out[i]?<;>rfl
 have key:∀ (m j acc:Nat),j+m=k→(acc:Int)=Ls.smTo (out.map Int.ofNat) (c.map Int.ofNat) k j→(smN (0 :: c) c.length ((nth c (c.length - 1)).getD 0) (out.take m).reverse (j+1) acc:Int)=Ls.smTo (out.map Int.ofNat) (c.map Int.ofNat) k k:=by
  intro m
  induction m with
  | zero =>
   intro j acc hj ha;have:j=k:=by omega
   subst this;exact ha
  | succ m ih =>
   intro j acc hj ha;have hm:m < out.length:=by omega
   rw [List.take_succ_eq_append_getElem hm,List.reverse_append];show ((fcN (z52 acc (Nat.add out[m] (zj6 (0 :: c) c.length ((nth c (c.length - 1)).getD 0) (j+1)))) fun acc=>smN (0 :: c) c.length ((nth c (c.length - 1)).getD 0) (out.take m).reverse (Nat.succ (j+1)) acc:Nat):Int)=_;rw [zan];refine ih (j+1) _ (by omega) ?_
   rw [zadb,ha];show min _ ((out[m]+zj6 _ _ _ (j+1):Nat):Int)=_;rw [Int.natCast_add,zx4 hn];show _=min _ ((out.map Int.ofNat).getD (k - (j+1)) 0+_);rw [show k - (j+1)=m by omega,eo m hm,List.getElem?_eq_getElem hm];rfl
 unfold smK;refine key k 0 _ (by omega) ?_
 show ((((nth out k).getD 0)+zj6 _ _ _ 0:Nat):Int)=(out.map Int.ofNat).getD k 0+_;rw [Int.natCast_add,zx4 hn,zb1,eo k hk]
noncomputable def sumL:List AV→St→Option Res:=fun args S=>match args with
 | [.int .i64 (.ofNat k),.fn f [] [.ptr o1 p1,.ptr o2 p2,.ptr o3 p3]]=>zk (Nat.beq f 128)
   (bnd (zg1 S o1 p1) fun v1=>bnd (zg1 S o2 p2) fun v2=>bnd (zg1 S o3 p3) fun v3=>bnd (z51 S v1) fun out=>bnd (z51 S v3) fun c=>bnd (ztb v2) fun k2 =>
    zk (Nat.beq k k2 && Nat.blt k out.2.length && Nat.ble out.2.length 1000000 && Nat.blt 0 c.2.length && Nat.ble c.2.length 1000 && zeb (fun x=>Nat.ble x 1000000000000000) out.2 && zeb (fun x=>Nat.ble x 1000000) c.2)
     (fcN (smK out.2 c.2 k) fun r=>some ⟨.normal,⟨.leaf,0⟩,[],.int .i64 (.ofNat r),S.orM (Nat.lor (Nat.lor (zm o1) (Nat.lor (zm o2) (zm o3))) (Nat.lor (zm out.1) (zm c.1)))⟩) none) none
 | _=>none
theorem zadc {E:Env} {args:List AV} {S:St} {r:Res} (h:sumL args S=some r):Lcl S r.st∧zc0 Tryz.prog E S r (.call 78 args):=by
 unfold sumL at h
 split at h
 ·rename_i k f o1 p1 o2 p2 o3 p3
  obtain ⟨hf,h⟩:=zf h;have hf:=Nat.eq_of_beq_eq_true hf;subst hf;obtain ⟨v1,c1,h⟩:=zd h;obtain ⟨v2,c2,h⟩:=zd h;obtain ⟨v3,c3,h⟩:=zd h;obtain ⟨out,r1,h⟩:=zd h;obtain ⟨c,r3,h⟩:=zd h;obtain ⟨k2,hk2,h⟩:=zd h;obtain ⟨hc,h⟩:=zf h;rw [zan] at h;cases h;simp only [Bool.and_eq_true] at hc;obtain ⟨⟨⟨⟨⟨⟨q1,q2⟩,q3⟩,q4⟩,q5⟩,q6⟩,q7⟩:=hc;have q1:=Nat.eq_of_beq_eq_true q1;subst q1;have q2:k < out.2.length:=Nat.le_of_ble_eq_true q2;have q3:out.2.length≤1000000:=Nat.le_of_ble_eq_true q3;have q4:0 < c.2.length:=Nat.le_of_ble_eq_true q4;have q5:c.2.length≤1000:=Nat.le_of_ble_eq_true q5;have ek:v2 = .int .i64 (.ofNat k):=by
   unfold ztb at hk2
   split at hk2
   ·cases hk2;rfl
   ·cases hk2
  subst ek;refine ⟨zl3 _ _,⟨_,_,Tryz.func78,rfl⟩,fun T ρ w vs hfit hT hfr hvs=>?_⟩;have bT:∀ n,bit (Nat.lor (Nat.lor (zm o1) (Nat.lor (zm o2) (zm o3))) (Nat.lor (zm out.1) (zm c.1))) n→T n:=fun n hn=>hT n (zg.2 (.inr hn))
  have t1:T o1:=bT _ (zg.2 (.inl (zg.2 (.inl (zl.2 rfl)))));have t2:T o2:=bT _ (zg.2 (.inl (zg.2 (.inr (zg.2 (.inl (zl.2 rfl)))))));have t3:T o3:=bT _ (zg.2 (.inl (zg.2 (.inr (zg.2 (.inr (zl.2 rfl)))))));have t4:T out.1:=bT _ (zg.2 (.inr (zg.2 (.inl (zl.2 rfl)))));have t5:T c.1:=bT _ (zg.2 (.inr (zg.2 (.inr (zl.2 rfl)))));obtain ⟨V1,l1,e1,g1,V2,l2,e2,g2,e3⟩:=hvs;subst e3;have g1:V1 = .int .i64 (.ofNat k):=g1;obtain ⟨us,bs,g2,ga,gb⟩:=g2;have ga:us.toList=[]:=ga;obtain ⟨B1,m1,f1,b1,B2,m2,f2,b2,B3,m3,f3,b3,f4⟩:=gb;subst f4;obtain ⟨L1,X1,y1,y2,y3,y4⟩:=zj5 hfit t1 c1 b1;obtain ⟨L2,X2,z1,z2,z3,z4⟩:=zj5 hfit t2 c2 b2;obtain ⟨L3,X3,x1,x2,x3,x4⟩:=zj5 hfit t3 c3 b3;have z4:X2 = .int .i64 (.ofNat k):=z4;obtain ⟨sa,ocap,u1,u2⟩:=z4f hfit t4 r1 y4;obtain ⟨ca,ccap,u3,u4⟩:=z4f hfit t5 r3 x4;have key:=Ls.smallest_any (out.2.map Int.ofNat) (c.2.map Int.ofNat) k L1.b (L1.s+p1) L2.b (L2.s+p2) L3.b (L3.s+p3) sa ca ocap ccap w ⟨by simpa using q4,by simpa using q5,fun x hx=>by
    obtain ⟨y,hy,rfl⟩:=List.mem_map.1 hx;have:=Nat.le_of_ble_eq_true (zhi q7 y hy);simp only [Int.ofNat_eq_natCast];omega⟩ (by simpa using q2) (by simpa using q3) (fun x hx=>by
    obtain ⟨y,hy,rfl⟩:=List.mem_map.1 hx;have:=Nat.le_of_ble_eq_true (zhi q6 y hy);simp only [Int.ofNat_eq_natCast];omega) (by rw [y3,u1]) (by rw [z3,z4];rfl) (by rw [x3,u3]) (by rw [← u1];exact u2) (by rw [← u3];exact u4)
  have ev:vs = #[.int .i64 k,.func (.func 128) #[] #[.pointer (some ⟨L1.b,L1.s+p1,none⟩),.pointer (some ⟨L2.b,L2.s+p2,none⟩),.pointer (some ⟨L3.b,L3.s+p3,none⟩)]]:=by
   apply Array.toList_inj.1;rw [e1,e2,g1,g2];have hb:bs = #[.pointer (some ⟨L1.b,L1.s+p1,none⟩),.pointer (some ⟨L2.b,L2.s+p2,none⟩),.pointer (some ⟨L3.b,L3.s+p3,none⟩)]:=by
    apply Array.toList_inj.1;rw [f1,f2,f3,y2,z2,x2]
   have ha:us = #[]:=Array.toList_inj.1 ga;rw [hb,ha];rfl
  rw [ev];refine key.mono ?_
  rintro e w' ⟨rfl,hE⟩;refine ⟨_,ρ,rfl,zada hfit hE _,?_⟩;show Value.int .i64 _ = .int .i64 _;rw [← zaei q4 q2];rfl
 ·cases h
end Go.Proofs.YtnfdiohfojjnlaaGreat
