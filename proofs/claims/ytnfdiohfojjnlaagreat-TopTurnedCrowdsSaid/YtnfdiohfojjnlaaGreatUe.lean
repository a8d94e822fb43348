/-
  slices.Reverse of numbers, and the walk of back: the visits that have led to a state.
-/
import Derived.Test.YtnfdiohfojjnlaaGreatUd
import Derived.Deep.RegionWith
import Derived.Test.YtnfdiohfojjnlaaGreatUb
set_option maxRecDepth 200000
set_option maxHeartbeats 0
namespace Go.Proofs.YtnfdiohfojjnlaaGreat.Tu
open Go.Lib (hid)
open Go.RowKit Go.Shelf
def zbv (W:World) (g n:Nat) (f:Nat→Int):Prop:=∃ cur:Array Value,W.heap[g]? = some (.cells cur 3 (0,0))∧n≤cur.size∧∀ j,j < n→cur[j]? = some (.int .i64 (f j))
theorem zbv.cell {W:World} {g n:Nat} {f:Nat→Int} (h:zbv W g n f) (j:Nat) (hj:j < n):W.cell? ⟨g,j,none⟩=some (.int .i64 (f j)):=by
 obtain ⟨cur,h1,_,h2⟩:=h;rw [cell_of_row _ _ _ _ _ _ h1];exact h2 j hj
theorem zbv.free {W:World} {g n:Nat} {f:Nat→Int} (h:zbv W g n f) (o:Nat):W.frozen? ⟨g,o,none⟩=false:=by
 obtain ⟨cur,h1,_,h2⟩:=h;simp [World.frozen?,h1]
theorem zbv.lt {W:World} {g n:Nat} {f:Nat→Int} (h:zbv W g n f):g < W.heap.size:=by
 obtain ⟨cur,h1,_,h2⟩:=h;exact (Array.getElem?_eq_some_iff.1 h1).1
theorem zbv.set {W:World} {g n:Nat} {f:Nat→Int} (h:zbv W g n f) (i:Nat) (x:Int):zbv (W.setCell ⟨g,i,none⟩ (.int .i64 x)) g n (fun j=>if j=i then x else f j):=by
 obtain ⟨cur,h1,hn,h2⟩:=h;refine ⟨_,zp h1 i _,by simpa using hn,fun j hj=>?_⟩
 by_cases e:j=i
 ·subst e
  simp only [if_true];rw [ztj _ (by omega)]
 ·simp only [if_neg e]
  rw [Array.getElem?_setIfInBounds,if_neg (fun h=>e h.symm),h2 j hj]
theorem zbv.of_heap {W W':World} {g n:Nat} {f:Nat→Int} (h:zbv W g n f) (e:W'.heap[g]? = W.heap[g]?):zbv W' g n f:=by
 obtain ⟨cur,h1,h2⟩:=h;exact ⟨cur,e.trans h1,h2⟩
theorem zbv.congr {W:World} {g n:Nat} {f f':Nat→Int} (h:zbv W g n f) (e:∀ j,j < n→f j=f' j):zbv W g n f':=by
 obtain ⟨cur,h1,h2,h3⟩:=h;exact ⟨cur,h1,h2,fun j hj=>by rw [h3 j hj,e j hj]⟩
theorem _root_.Go.Proofs.YtnfdiohfojjnlaaGreat.Owns.numB {W:World} {B g n cap:Nat} {l:List Int} (h:Owns W B 3 1 (.slice (some ⟨g,0,none⟩) n cap) (l.map zam)):n=l.length∧n≤cap∧cap≤9223372036854775807∧B≤g∧zbv W g n (gt l):=by
 rcases h.1.2 with ⟨hv,_⟩ | ⟨g',cap',cur,hv,hb,hg,hn,hm,hsz,ht⟩
 ·cases hv
 ·simp only [Value.slice.injEq,Option.some.injEq,Addr.mk.injEq] at hv
  obtain ⟨⟨rfl,-,-⟩,rfl,rfl⟩:=hv;rw [List.length_map] at *;refine ⟨rfl,hn,by simpa [maxLen] using hm,hb,cur,hg,by rw [hsz];omega,fun j hj=>?_⟩;obtain ⟨_,_,e,_,_,hf⟩:=h.form
  rcases hf with ⟨h0,_⟩ | ⟨g'',h0,_,_,hr,_⟩
  ·have:=List.map_eq_nil_iff.1 h0;subst this;simp at hj
  ·simp only [Value.slice.injEq] at e
   rw [← e.1] at h0;cases h0;have:=hr j (by simpa using hj) 0 (by simp [zam]);rw [cell_of_row _ _ _ _ _ _ hg] at this;simp only [List.getElem_map,zam,List.getElem_cons_zero,Nat.zero_add,Nat.mul_one,Nat.add_zero] at this;rw [this,gt_get hj]
theorem zbv.owns {W:World} {B g n cap:Nat} {l:List Int} (h:zbv W g n (gt l)) (hl:n=l.length) (hB:B≤g) (hc:n≤cap) (hm:cap≤9223372036854775807) (hsz:∀ cur T fr,W.heap[g]? = some (.cells cur T fr)→cur.size=cap):Owns W B 3 1 (.slice (some ⟨g,0,none⟩) n cap) (l.map zam):=by
 obtain ⟨cur,h1,h2,h3⟩:=h;have hfl:(l.map zam).flatten=l.map (Value.int .i64):=by
  clear hsz h1 h2 h3 hl
  induction l with
  | nil=>rfl
  | cons x l ih=>simp [zam,ih]
 refine ⟨⟨by simp [hfl],.inr ⟨g,cap,cur,by simp [hl],hB,h1,by simpa [hl] using hc,by simpa [maxLen] using hm,by rw [hsz _ _ _ h1];omega,?_⟩⟩,by simp [zam]⟩;rw [hfl,List.length_map,Nat.mul_one];apply List.ext_getElem?;intro j
 by_cases hj:j < l.length
 ·rw [List.getElem?_take_of_lt hj,Array.getElem?_toList,h3 j (by omega),List.getElem?_map,List.getElem?_eq_getElem hj,gt_get hj];rfl
 ·rw [List.getElem?_take_eq_none (by omega),List.getElem?_eq_none (by simp;omega)]
def zfk (l:List Int) (k j:Nat):Int:=if j < k∨l.length≤j+k then gt l (l.length - 1 - j) else gt l j
theorem z43 (l:List Int) (j:Nat) (hj:j < l.length):zfk l 0 j=gt l j:=by unfold zfk;rw [if_neg (by omega)]
theorem z7d (l:List Int) (k j:Nat) (hj:j < l.length) (hk:l.length≤k+k+1):zfk l k j=gt l.reverse j:=by
 have e:gt l.reverse j=gt l (l.length - 1 - j):=by
  rw [← gt_get (show j < l.reverse.length by simpa using hj),← gt_get (show l.length - 1 - j < l.length by omega),List.getElem_reverse]
 unfold zfk;rw [e]
 by_cases h:j < k∨l.length≤j+k
 ·rw [if_pos h]
 ·rw [if_neg h]
  have:l.length - 1 - j=j:=by omega
  rw [this]
theorem z44 (l:List Int) (k j:Nat) (hk:k+k+1 < l.length):(if j=l.length - 1 - k then gt l k else if j=k then gt l (l.length - 1 - k) else zfk l k j)=zfk l (k+1) j:=by
 unfold zfk
 by_cases h1:j=l.length - 1 - k
 ·rw [if_pos h1,if_pos (by omega)]
  congr 1;omega
 ·rw [if_neg h1]
  by_cases h2:j=k
  ·rw [if_pos h2,if_pos (by omega),h2]
  ·rw [if_neg h2]
   by_cases h3:j < k∨l.length≤j+k
   ·rw [if_pos h3,if_pos (by omega)]
   ·rw [if_neg h3,if_neg (by omega)]
theorem z2t (l:List Int) (g n cap B:Nat) (w:World) (h:Owns w B 3 1 (.slice (some ⟨g,0,none⟩) n cap) (l.map zam)) :
  Calls Tryz.prog 122 #[.slice (some ⟨g,0,none⟩) n cap] w fun e W=>(∃ r,e = .returned r)∧Owns W B 3 1 (.slice (some ⟨g,0,none⟩) n cap) (l.reverse.map zam)∧Kept (fun k=>k≠g) w W:=by
 obtain ⟨hn,hc,hm,hB,hnb⟩:=h.numB;have hsz:∃ cur,w.heap[g]? = some (.cells cur 3 (0,0))∧cur.size=cap:=by
  rcases h.1.2 with ⟨hv,_⟩ | ⟨g',cap',cur,hv,hb,hg,hn,hm,hsz,ht⟩
  ·cases hv
  ·simp only [Value.slice.injEq,Option.some.injEq,Addr.mk.injEq] at hv
   obtain ⟨⟨rfl,-,-⟩,-,rfl⟩:=hv;exact ⟨cur,hg,by omega⟩
 have HN:=hid hn;have HNB:=hid hnb;have HSZ:=hid hsz;clear h hnb hsz hn
 go_enter Tryz.func122,Tryz.ntmps122
 go_wp2_with fail
 go_loopw [2,3] (fun i j W=>∃ k:Nat,k≤n∧i = .int .i64 k∧j = .int .i64 ((n:Int) - 1 - k)∧(n=0∨k+k≤n+1)∧zbv W g n (zfk l k)∧Kept (fun k=>k≠g) w W∧∃ cur,W.heap[g]? = some (.cells cur 3 (0,0))∧cur.size=cap) (fun i _ _=>n - (intOf i).toNat)
 case atStart=>exact ⟨0,by omega,rfl,by go_num,by omega,HNB.out.congr fun j hj=>(z43 l j (by rw [← HN.out];exact hj)).symm,Kept.refl _ _,HSZ.out⟩
 case round =>
  obtain ⟨k,hk,rfl,rfl,hkk,hnb,hkp,hsz⟩:=hrel;have HNBr:=hid hnb;have HKP:=hid hkp;have HSZr:=hid hsz
  by_cases hlt:k+k+1 < n
  ·have hd:decide ((k:Int) < (n:Int) - 1 - (k:Int))=true:=decide_eq_true (by omega)
   obtain ⟨m,hm1⟩:∃ m:Nat,m=n - 1 - k:=⟨_,rfl⟩
   have hmm:(n:Int) - 1 - (k:Int)=(m:Int):=by omega
   have c0:=hnb.cell k (by omega);have c1:=hnb.cell m (by omega);have f0:=hnb.free k;have f1:=hnb.free m;have hzg:=hnb.lt;have hki:(k:Int) < (n:Int):=by omega
   have hmi:(m:Int) < (n:Int):=by omega
   have hkm:k < m:=by omega
   have HM1:=hid hm1;obtain ⟨x,hx⟩:∃ x,x=zfk l k k:=⟨_,rfl⟩
   obtain ⟨y,hy⟩:∃ y,y=zfk l k m:=⟨_,rfl⟩
   rw [← hx] at c0;rw [← hy] at c1;have HX:=hid hx;have HY:=hid hy;rw [hmm] at hd ⊢;clear hnb hkp hsz hx hy hmm hm1;go_wp2_with fail;refine zb8 rfl rfl (by kernel_rfl) (g) (by omega)
    [sqV (.slice (some ⟨g,0,none⟩) n cap),sqV (.int .i64 k),sqV (.slice (some ⟨g,0,none⟩) n cap),sqV (.int .i64 m),sqV (.slice (some ⟨g,0,none⟩) n cap),sqV (.int .i64 m),sqV (.pointer (some ⟨g,m,none⟩)),sqV (.int .i64 y),sqV (.slice (some ⟨g,0,none⟩) n cap),sqV (.int .i64 k),sqV (.pointer (some ⟨g,k,none⟩)),sqV (.int .i64 x),sqV (.pointer (some ⟨g,k,none⟩)),sqW (fun v W=>Kept (fun j=>j≠g) wr W∧zbv W g n (fun j=>if j=k then y else zfk l k j)∧(∃ cur,W.heap[g]? = some (.cells cur 3 (0,0))∧cur.size=cap)) (fun _ _ _ ⟨h1,h2,h3⟩ e=>⟨h1.trans (.of_below e),h2.of_heap (e.block _ h2.lt),h3.imp fun cur h=>⟨(e.block _ h2.lt).trans h.1,h.2⟩⟩),sqV (.pointer (some ⟨g,m,none⟩))]
    [true,true,true,true,true,true,true,true,true,true,true,true,true,false,true] [false,false,false,false,false,false,false,false,false,false,false,false,false,true,false] [true,true,true,true,true,true,true,true,true,true,true,true,true,true,true] [true,true,false,false,true,true,true,true,true,true,true,true,true,true,false]
    (by kernel_rfl) (by kernel_rfl) (by decide +kernel) (by decide +kernel) (by decide +kernel) rfl ⟨rfl,rfl⟩ ⟨?s0,?s1,?s2,?s3,?s4,?s5,?s6,?s7,?s8,?s9,?s10,?s11,?s12,?s13,?s14,trivial⟩ [some 14,some 15,some 16,some 17,some 18,some 19,some 20,some 21,some 22,some 23,some 24,some 25,some 26,none,some 27] rfl rfl ?send
   case s0 =>
    intro val ρ W hE hz hd hA hx;have o0:ρ (.tmp 0) = .slice (some ⟨g,0,none⟩) n cap:=hA.old 0 (by decide);clear hd;exact zh (W':=W) (by simp [execOp,o0,go_sem]) (Below.refl _ _) rfl
   case s1 =>
    intro val ρ W hE hz hd hA hx;have o0:ρ (.tmp 2) = .int .i64 k:=hA.old 2 (by decide);clear hd;exact zh (W':=W) (by simp [execOp,o0,go_sem]) (Below.refl _ _) rfl
   case s2 =>
    intro val ρ W hE hz hd hA hx;have o0:ρ (.tmp 0) = .slice (some ⟨g,0,none⟩) n cap:=hA.old 0 (by decide);clear hd;exact zh (W':=W) (by simp [execOp,o0,go_sem]) (Below.refl _ _) rfl
   case s3 =>
    intro val ρ W hE hz hd hA hx;have o0:ρ (.tmp 3) = .int .i64 m:=hA.old 3 (by decide);clear hd;exact zh (W':=W) (by simp [execOp,o0,go_sem]) (Below.refl _ _) rfl
   case s4 =>
    intro val ρ W hE hz hd hA hx;have o0:ρ (.tmp 0) = .slice (some ⟨g,0,none⟩) n cap:=hA.old 0 (by decide);clear hd;exact zh (W':=W) (by simp [execOp,o0,go_sem]) (Below.refl _ _) rfl
   case s5 =>
    intro val ρ W hE hz hd hA hx;have o0:ρ (.tmp 3) = .int .i64 m:=hA.old 3 (by decide);clear hd;exact zh (W':=W) (by simp [execOp,o0,go_sem]) (Below.refl _ _) rfl
   case s6 =>
    intro val ρ W hE hz hd hA hx;have d4:ρ (.tmp 18) = .slice (some ⟨g,0,none⟩) n cap:=(hA.dep 4 (by decide) 18 rfl).trans (hd 4 (by decide));have d5:ρ (.tmp 19) = .int .i64 m:=(hA.dep 5 (by decide) 19 rfl).trans (hd 5 (by decide));clear hd;exact zh (W':=W) (by simp [execOp,d4,d5,hmi,go_sem]) (Below.refl _ _) rfl
   case s7 =>
    intro val ρ W hE hz hd hA hx;have d6:ρ (.tmp 20) = .pointer (some ⟨g,m,none⟩):=(hA.dep 6 (by decide) 20 rfl).trans (hd 6 (by decide));have f_c1:=zj (hx (by decide)) c1;clear hd;exact zh (W':=W) (by simp [execOp,d6,f_c1,go_sem]) (Below.refl _ _) rfl
   case s8 =>
    intro val ρ W hE hz hd hA hx;have o0:ρ (.tmp 0) = .slice (some ⟨g,0,none⟩) n cap:=hA.old 0 (by decide);clear hd;exact zh (W':=W) (by simp [execOp,o0,go_sem]) (Below.refl _ _) rfl
   case s9 =>
    intro val ρ W hE hz hd hA hx;have o0:ρ (.tmp 2) = .int .i64 k:=hA.old 2 (by decide);clear hd;exact zh (W':=W) (by simp [execOp,o0,go_sem]) (Below.refl _ _) rfl
   case s10 =>
    intro val ρ W hE hz hd hA hx;have d8:ρ (.tmp 22) = .slice (some ⟨g,0,none⟩) n cap:=(hA.dep 8 (by decide) 22 rfl).trans (hd 8 (by decide));have d9:ρ (.tmp 23) = .int .i64 k:=(hA.dep 9 (by decide) 23 rfl).trans (hd 9 (by decide));clear hd;exact zh (W':=W) (by simp [execOp,d8,d9,hki,go_sem]) (Below.refl _ _) rfl
   case s11 =>
    intro val ρ W hE hz hd hA hx;have d10:ρ (.tmp 24) = .pointer (some ⟨g,k,none⟩):=(hA.dep 10 (by decide) 24 rfl).trans (hd 10 (by decide));have f_c0:=zj (hx (by decide)) c0;clear hd;exact zh (W':=W) (by simp [execOp,d10,f_c0,go_sem]) (Below.refl _ _) rfl
   case s12 =>
    intro val ρ W hE hz hd hA hx;have d0:ρ (.tmp 14) = .slice (some ⟨g,0,none⟩) n cap:=(hA.dep 0 (by decide) 14 rfl).trans (hd 0 (by decide));have d1:ρ (.tmp 15) = .int .i64 k:=(hA.dep 1 (by decide) 15 rfl).trans (hd 1 (by decide));clear hd;exact zh (W':=W) (by simp [execOp,d0,d1,hki,go_sem]) (Below.refl _ _) rfl
   case s14 =>
    intro val ρ W hE hz hd hA hx;have d2:ρ (.tmp 16) = .slice (some ⟨g,0,none⟩) n cap:=(hA.dep 2 (by decide) 16 rfl).trans (hd 2 (by decide));have d3:ρ (.tmp 17) = .int .i64 m:=(hA.dep 3 (by decide) 17 rfl).trans (hd 3 (by decide));clear hd;exact zh (W':=W) (by simp [execOp,d2,d3,hmi,go_sem]) (Below.refl _ _) rfl
   case s13 =>
    intro val ρ W hE hz hd hA hx;have hW:=hx (by decide);have d12:ρ (.tmp 26) = .pointer (some ⟨g,k,none⟩):=(hA.dep 12 (by decide) 26 rfl).trans (hd 12 (by decide));have d7:ρ (.tmp 21) = .int .i64 y:=(hA.dep 7 (by decide) 21 rfl).trans (hd 7 (by decide));have c0':=zj hW c0;have f0':=(hW.frozen (p:=⟨g,k,none⟩) hzg).trans f0;clear hd;refine z6n (W':=W.setCell ⟨g,k,none⟩ (.int .i64 y)) (by simp [execOp,d12,d7,go_sem,c0',f0']) ((Below.refl g W).setCell (Nat.le_refl _) _) ⟨(Kept.of_below hW).trans ((Kept.refl _ W).setCell (fun _ h=>h rfl) _),(HNBr.out.of_heap (hW.block _ hzg)).set k y,?_⟩;obtain ⟨cur,h1,h2⟩:=HSZr.out;exact ⟨_,zp ((hW.block _ hzg).trans h1) k _,by simpa using h2⟩
   case send =>
    intro val W hE hzz hv;obtain ⟨-,-,-,-,-,-,-,-,-,-,-,r11,-,⟨h1,h2,h3⟩,r14,-⟩:=hv;have q11:val 11 = .int .i64 x:=r11;have q14:val 14 = .pointer (some ⟨g,m,none⟩):=r14;have c1':=h2.cell m (by omega);have f1':=h2.free m;have hzw:=h2.lt;have H1:=hid h1;have H2:=hid h2;have H3:=hid h3;simp only [zbx,q11,q14];go_frame;clear r11 r14 q11 q14 h1 h2 h3 hE hzz c0 c1 f0 f1;go_wp2_with fail;go_wp2_with fail;go_roundw
    case rel =>
     refine ⟨k+1,by omega,by go_num,by rw [HM1.out];go_num,by omega,?_,(HKP.out.trans H1.out).trans ((Kept.refl _ W).setCell (fun _ h=>h rfl) _),?_⟩
     ·refine (H2.out.set m x).congr fun j hj=>?_
      have:=z44 l k j (by rw [← HN.out];exact hlt);have hL:=HN.out;have e1:x=gt l k:=by rw [HX.out];unfold zfk;rw [if_neg (by omega)]
      have e2:y=gt l (l.length - 1 - k):=by rw [HY.out];unfold zfk;rw [if_neg (by have:=HM1.out;omega)];congr 1;have:=HM1.out;omega
      rw [← this,← e1,← e2];have hm2:m=l.length - 1 - k:=by have:=HM1.out;omega
      rw [hm2]
     ·obtain ⟨cur,h1,h2⟩:=H3.out
      exact ⟨_,zp h1 m _,by simpa using h2⟩
    case measure=>simp [intOf];omega
  ·have hd:decide ((k:Int) < (n:Int) - 1 - (k:Int))=false:=decide_eq_false (by omega)
   have hkk2:¬ ((k:Int) < (n:Int) - 1 - (k:Int)):=by omega
   clear hnb hkp hsz;go_wp2_with fail;refine bodyPost_end (results_none rfl _ _ _) rfl ⟨⟨_,rfl⟩,?_,HKP.out⟩;obtain ⟨cur,h1,h2⟩:=HSZr.out;rw [← List.map_reverse];refine zbv.owns (HNBr.out.congr fun j hj=>z7d l k j (by rw [← HN.out];exact hj) (by rw [← HN.out];omega)) (by rw [List.length_reverse];exact HN.out) hB hc hm fun cur' T fr h=>?_
   rw [h1] at h;cases h;exact h2
theorem zad.bd {ks:List Int} (v:TVal ks) {bf:Int→Int} {st:Int} {k:Nat} {y:Int} {row:List Int} (h:zad ks bf st k y row):0≤y∧y < zq ks:=by
 cases h with
 | one _ _ h3=>exact zh1 v (List.mem_of_getElem? h3)
 | more _ _ _ _ _ h3=>exact zh1 v (List.mem_of_getElem? h3)
theorem zad.step {ks:List Int} (v:TVal ks) {bf:Int→Int} {st:Nat} (hst:(st:Int) < zq ks) {k:Nat} {y:Int} {row:List Int} (h:zad ks bf st k y row) :
  ∃ (z w:Nat) (row':List Int),bf y=1+(z:Int) * 5+w∧w < ks.length∧(z:Int) < zq ks∧row=row' ++ [(w:Int)]∧((z=st∧row'=[])∨(z≠st∧∃ k',zad ks bf st k' (z:Int) row')):=by
 cases h with
 | @one y w h1 h2 h3=>exact ⟨st,w,[],h1,h2,hst,rfl,.inl ⟨rfl,rfl⟩⟩
 | @more k y z w row h1 hz hz0 h2 h3 h4 =>
  have:=h1.bd v;obtain ⟨m,rfl⟩:∃ m:Nat,z=(m:Int):=⟨z.toNat,by omega⟩
  exact ⟨m,w,row,h2,h3,this.2,rfl,.inr ⟨fun e=>hz (by rw [e]),k,h1⟩⟩
def zabf (v:Value):Nat:=match v with | .slice _ n _=>n | _=>0
theorem z9i (ks:List Int) (bf:Int→Int) (st k0:Nat) (row:List Int) (tv:Value) (bb bo bc:Nat) (w:World) (v:TVal ks) (hst:st < nSt ks) (hch:zad ks bf st k0 st row) (hl:row.length≤100000)
  (hb:∀ i,i < nSt ks→w.cell? ⟨bb,bo+i,none⟩=some (.int .i64 (bf i))) :
  Calls Tryz.prog 66 #[tv,.slice (some ⟨bb,bo,none⟩) (nSt ks) bc,.int .i64 st] w fun e W=>∃ r,e = .returned r∧Ext w W∧IsInts W .i64 r row:=by
 have hN:=zk8 v;have hNe:=zgu v;have n5:=v.n5;have V:=hid v;have HB:=hid hb;have HCH:=hid hch;have NE:=hid hNe;obtain ⟨N,hNN⟩:∃ N,N=nSt ks:=⟨_,rfl⟩
 rw [← hNN] at HB NE hst hN ⊢;clear v hb hch hNe hNN
 go_enter Tryz.func66,Tryz.ntmps66
 go_wp2_with fail
 go_loopw [7,8] (fun ov av W=>∃ (a:Nat) (out row':List Int) (k':Nat),av = .int .i64 a∧zad ks bf st k' a row'∧row=row' ++ out.reverse∧Ext w W∧Owns W w.heap.size 3 1 ov (out.map zam)) (fun ov _ _=>row.length - zabf ov)
 case atStart=>exact ⟨st,[],row,k0,rfl,HCH.out,by simp,Below.refl _ _,Owns.nil _ _ _ _⟩
 case round =>
  obtain ⟨a,out,row',k',rfl,hch,hrow,hE,hown⟩:=hrel;obtain ⟨oa,on,oc,rfl⟩:=hown.isSlice;have hon:on=out.length:=by
   obtain ⟨_,_,e,_⟩:=hown.form;simp only [Value.slice.injEq,List.length_map] at e;exact e.2.1
  have hab:=hch.bd V.out;obtain ⟨z,x,row2,hbf,hx,hz,hr2,hnext⟩:=hch.step V.out (by have:=NE.out;omega);have haN:a < N:=by have:=NE.out;omega
  have hai:(a:Int) < (N:Int):=by omega
  have hzN:z < N:=by have:=NE.out;omega
  have c0:=zj hE (HB.out a haN);obtain ⟨y,hy⟩:∃ y,y=bf a:=⟨_,rfl⟩
  rw [← hy] at hbf c0;have HBW:Hid (∀ W,Ext w W→W.cell? ⟨bb,bo+a,none⟩=some (.int .i64 y)):=hid fun W h=>by rw [hy];exact zj h (HB.out a haN)
  have ht1:(y - 1).tmod 5=(x:Int):=by
   rw [hbf,Int.tmod_eq_emod_of_nonneg (by omega)];omega
  have ht2:(y - 1).tdiv 5=(z:Int):=by
   rw [hbf,Int.tdiv_eq_ediv_of_nonneg (by omega)];omega
  have hyb:1≤y∧y≤6000:=by omega
  have hlen:(out.map zam).length + [zam (x:Int)].length≤1000000:=by
   have:=congrArg List.length hrow;simp at this;rw [List.length_map];show _+1≤_;omega
  have HLEN:=hid hlen;have HROW:=hid hrow;have HR2:=hid hr2;have HE:=hid hE;have HOWN:=hid hown;have HON:=hid hon;have hsz:=hE.size;have HNEXT:=hid hnext;clear hch hrow hr2 hE hown hnext hlen hbf hy hab hz hon;go_wp2_with (at_builtin;refine zae3 rfl (.tmp 10) (.tmp 17) zfz rfl w.heap.size rfl (HOWN.out.ext (by exact xx)) wr.heap.size 0 1 [zam (x:Int)] rfl (by simp [zam]) (newRow _ (zam (x:Int)) _) (by simp [zam,Value.oneCell']) HLEN.out (by simp;omega) ?_);intro v' W1 hown1 hb1;have hE1:Ext w W1:=(HE.out.trans' (by exact xx)).trans hb1;have c1:=HBW.out _ hE1;obtain ⟨va,vn,vc,rfl⟩:=hown1.isSlice;have hvn:vn=out.length+1:=by
   obtain ⟨_,_,e,_⟩:=hown1.form;simp only [Value.slice.injEq,List.length_append,List.length_map] at e;exact e.2.1
  have HVN:=hid hvn;have e1:out.map zam ++ [zam (x:Int)]=(out ++ [(x:Int)]).map zam:=by simp
  rw [e1] at hown1;obtain ⟨g,rfl⟩:∃ g,va=some ⟨g,0,none⟩:=by
   obtain ⟨_,_,e,_,_,hf⟩:=hown1.form;simp only [Value.slice.injEq] at e
   rcases hf with ⟨h0,_⟩ | ⟨g,h0,_⟩
   ·simp at h0
   ·exact ⟨g,e.1.trans h0⟩
  have HOWN1:=hid hown1;have HE1:=hid hE1;clear hown1 hb1 hE1 c0 e1 hvn
  by_cases hzs:z=st
  ·have hzi:((z:Int) == (st:Int))=true:=by simp;omega
   have hrr:row=(out ++ [(x:Int)]).reverse:=by
    have h1:=HROW.out
    rcases HNEXT.out with ⟨_,h2⟩ | ⟨h2,_⟩
    ·rw [h1,HR2.out,h2];simp
    ·exact absurd hzs h2
   have HRR:=hid hrr;subst hzs;clear hrr hzi;go_wp2_with fail;refine (z2t _ g vn vc w.heap.size W1 HOWN1.out).mono ?_
   rintro e W2 ⟨⟨r,rfl⟩,hown2,hk2⟩;have hE2:Ext w W2:=HE1.out.trans (Kept.below (hk2.mono fun j _ hj e=>by have:=(HOWN1.out.notOwn g rfl).1;omega) HE1.out.size);have HOWN2:=hid hown2;have HE2:=hid hE2;clear hown2 hk2 hE2;go_wp2_with fail;go_ret;exact ⟨_,rfl,HE2.out,by rw [HRR.out];exact HOWN2.out.oneInts⟩
  ·have hzi:((z:Int) == (st:Int))=false:=by simp;omega
   have hzn:¬ ((z:Int)=(st:Int)):=by omega
   obtain ⟨k2,hch2⟩:∃ k',zad ks bf st k' (z:Int) row2:=by
    rcases HNEXT.out with ⟨h2,_⟩ | ⟨_,h2⟩
    ·exact absurd h2 hzs
    ·exact h2
   have HCH2:=hid hch2;clear hch2;go_wp2_with fail;go_roundw
   case rel=>exact ⟨z,out ++ [(x:Int)],row2,k2,rfl,HCH2.out,by rw [HROW.out,HR2.out];simp,HE1.out,HOWN1.out⟩
   case measure =>
    have h1:=congrArg List.length HROW.out;rw [HR2.out] at h1;have h2:=HVN.out;have h3:=HON.out;simp at h1;simp [zabf];omega
def zacc (ks l:List Int) (w:World) (e:Ending) (w':World):Prop :=
 (zbr ks l≠0∧e = .returned (.tuple #[.pointer none,stV [],.int .i64 (zbr ks l)])∧Ext w w')∨(zbr ks l=0∧∃ p,e = .returned (.tuple #[.pointer (some ⟨p,0,none⟩),stV l,.int .i64 0])∧Ext w w'∧Tab w' p ks)
theorem z9j (ks l:List Int) (kv lv:Value) (w:World) (hv:IsInts w .i64 kv ks) (hl:IsInts w .i64 lv l) :
  Calls Tryz.prog 30 #[.agg #[kv],lv] w (zacc ks l w):=by
 obtain ⟨sa,cap,rfl,h1,h2,-⟩:=hv.spec;have HKV:Hid (TVal ks→∀ g,(Value.slice sa ks.length cap).ownBlock=some g→g < w.heap.size):=hid fun v g hg=>by
  obtain ⟨_,_,e,_,_,hc⟩:=hv.spec;cases e
  rcases hc with hc | ⟨b,off,rfl,hc⟩
  ·have:=v.n1;rw [hc] at this;simp at this
  ·have:=World.block_lt_of_cell? _ _ (hc 0 v.n1)
   simp [Value.ownBlock] at hg;simp only at this;omega
 have HV:=hid hv;have HL:=hid hl;clear hv hl;have hcs:=fun W h1 h2=>z4z ks l (.slice sa ks.length cap) lv W h1 h2
 unfold zxe at hcs;simp only [zcy] at hcs;obtain ⟨er,her⟩:∃ er,er=zbr ks l:=⟨_,rfl⟩
 obtain ⟨s,hs⟩:∃ s,s=(if zbr ks l=0 then l else []):=⟨_,rfl⟩
 rw [← hs,← her] at hcs;have HCS:=hid hcs;have HER:=hid her;have HSS:=hid hs;clear hcs her hs
 go_enter Tryz.func30,Tryz.ntmps30
 go_upto_region 1 with (fail);obtain ⟨W0,hW0⟩:∃ W0,W0=(w.alloc (.cells #[.slice sa ks.length cap] 24)).alloc (.cells #[.int .i64 0,.int .i64 0,.int .i64 0,.int .i64 0,.int .i64 0] 69):=⟨_,rfl⟩
 have hE:Ext w W0:=by rw [hW0];exact xx
 have k0:W0.cell? ⟨w.heap.size,0,none⟩=some (.slice sa ks.length cap):=by rw [hW0];simp [go_sem]
 have hr0:StB W0 (w.heap.size+1) []:=by
  rw [hW0];show (Array.push (Array.push _ _) _)[w.heap.size+1]? = _;rw [Array.getElem?_push,if_pos (by simp)];rfl
 have hz:w.heap.size < W0.heap.size:=World.block_lt_of_cell? _ _ k0;have HS:=hid (HV.out.ext hE);have HT:=hid (HL.out.ext hE);have HW:=hid hE;have HR0:=hid hr0;rw [← hW0];clear hW0 HV HL hE hr0;go_wp2_with fail;refine (HCS.out _ HS.out HT.out).mono ?_
 rintro e W1 ⟨rfl,hE1⟩;have k1:=zj hE1 k0;have hr1:=HR0.out.ext hE1;have hz1:=hr1.lt;have HE1:=hid hE1;have HS1:=hid (HS.out.ext hE1);have HR1:=hid hr1;clear hE1 HCS k0 hz HS HT HR0;have c0r:=(hr1).c 0 (by omega);have c1r:=(hr1).c 1 (by omega);have c2r:=(hr1).c 2 (by omega);have c3r:=(hr1).c 3 (by omega);have c4r:=(hr1).c 4 (by omega);have cfr:=(hr1).free;have czr:=(hr1).lt
 by_cases he:er=0
 ·have he1:(er == 0)=true:=by simpa using he
  have he2:(er != 0)=false:=by simpa using he
  obtain ⟨v,hst⟩:=zz2 (HER.out.symm.trans he);have V:=hid v;have hsl:s=l:=by rw [HSS.out,if_pos (HER.out.symm.trans he)]
  have HSL:=hid hsl;have HEE:=hid he;clear he v hst hsl;go_wp2_with fail;obtain ⟨Y,hY⟩:∃ Y,W1.alloc (.cells #[.int .i64 (gt s 0),.int .i64 (gt s 1),.int .i64 (gt s 2),.int .i64 (gt s 3),.int .i64 (gt s 4)] 69)=Y:=⟨_,rfl⟩
  have hEY:Ext W1 Y:=by rw [← hY];exact xx
  have hbs:StB Y W1.heap.size s:=by rw [← hY];exact StB.new W1 s
  rw [hY];have hry:=hr1.ext hEY;have ky:=zj hEY k1;have HSY:=hid (HS1.out.ext hEY);have HWY:=hid (HW.out.trans' (HE1.out.trans' hEY));have c0s:=(hbs).c 0 (by omega);have c1s:=(hbs).c 1 (by omega);have c2s:=(hbs).c 2 (by omega);have c3s:=(hbs).c 3 (by omega);have c4s:=(hbs).c 4 (by omega);have cfs:=(hbs).free;have czs:=(hbs).lt;have c0y:=(hry).c 0 (by omega);have c1y:=(hry).c 1 (by omega);have c2y:=(hry).c 2 (by omega);have c3y:=(hry).c 3 (by omega);have c4y:=(hry).c 4 (by omega);have cfy:=(hry).free;have czy:=(hry).lt;have HRY:=hid hry;clear hY hEY hbs hry c0r c1r c2r c3r c4r cfr czr k1 hr1 HR1 HS1
  go_region_with (go_at_call 26;refine (zpf ks _ _ V.out (HSY.out.ext (by exact xx))).mono ?_;rintro e W2 ⟨p,rfl,hE20,hT2⟩;have hE2:Ext Y W2:=Ext.trans' (by exact xx) hE20;clear hE20;have HT2:=hid hT2;have HE2:=hid hE2;have d0:=zj hE2 c0s;have d1:=zj hE2 c1s;have d2:=zj hE2 c2s;have d3:=zj hE2 c3s;have d4:=zj hE2 c4s;have hr2:=HRY.out.ext hE2;have g0:=hr2.c 0 (by omega);have g1:=hr2.c 1 (by omega);have g2:=hr2.c 2 (by omega);have g3:=hr2.c 3 (by omega);have g4:=hr2.c 4 (by omega);have gf:=hr2.free;have gz:=hr2.lt;have HR2:=hid hr2;clear hT2 hE2 hr2)
  all_goals
   have hset:=zt0 (HWY.out.trans' HE2.out) (show w.heap.size≤w.heap.size+1 by omega) (.int .i64 (gt s 0)) (.int .i64 (gt s 1)) (.int .i64 (gt s 2)) (.int .i64 (gt s 3)) (.int .i64 (gt s 4));have htab:=(HT2.out.kept (W':=((((W2.setCell ⟨w.heap.size+1,0,none⟩ (.int .i64 (gt s 0))).setCell ⟨w.heap.size+1,1,none⟩ (.int .i64 (gt s 1))).setCell ⟨w.heap.size+1,2,none⟩ (.int .i64 (gt s 2))).setCell ⟨w.heap.size+1,3,none⟩ (.int .i64 (gt s 3))).setCell ⟨w.heap.size+1,4,none⟩ (.int .i64 (gt s 4))) (by
    have hs:¬ (Y.heap.size≤w.heap.size+1∨(Value.slice sa ks.length cap).ownBlock=some (w.heap.size+1)):=fun h=>by
     rcases h with h | h
     ·omega
     ·have:=HKV.out V.out _ h;omega
    exact (((((Kept.refl _ W2).setCell (fun _=>hs) _).setCell (fun _=>hs) _).setCell (fun _=>hs) _).setCell (fun _=>hs) _).setCell (fun _=>hs) _)).tab
   have HSET:=hid hset;have HTAB:=hid htab;clear hset htab;go_wp2_with fail;refine bodyPost_ret (v:=.tuple #[.pointer (some ⟨p,0,none⟩),stV s,.int .i64 0]) (by simp [results,Tryz.results30,go_sem,stV,stA,g0,g1,g2,g3,g4]) rfl ?_
   exact .inr ⟨HER.out.symm.trans HEE.out,p,by rw [HSL.out],HSET.out,HTAB.out⟩
 ·have he1:(er == 0)=false:=by simpa using he
  have he2:(er != 0)=true:=by simpa using he
  have HEE:=hid he;clear he;go_wp2_with fail;refine bodyPost_ret (v:=.tuple #[.pointer none,stV [],.int .i64 er]) (by simp [results,Tryz.results30,go_sem,stV,stA,gt,c0r,c1r,c2r,c3r,c4r,czr]) rfl ?_
  refine .inl ⟨by rw [← HER.out];exact HEE.out,by rw [HER.out],?_⟩;exact Ext.al (zt0 (b:=w.heap.size+1) (HW.out.trans' HE1.out) (by omega) _ _ _ _ _) _
def Que (W:World) (B:Nat) (v:Value) (q:List Int):Prop :=
 ∃ g off cap cur,v = .slice (some ⟨g,off,none⟩) q.length cap∧q.length≤cap∧cap≤9223372036854775807∧B≤g∧W.heap[g]? = some (.cells cur 3 (0,0))∧(cap=0∨(off+cap=cur.size∧∀ j (h:j < q.length),cur[off+j]? = some (.int .i64 q[j])))
theorem Que.kept {S:Nat→Prop} {W W':World} {B:Nat} {v:Value} {q:List Int} (h:Que W B v q) (k:Kept S W W') (hs:∀ g cur,B≤g→v.ownBlock=some g→W.heap[g]? = some (.cells cur 3 (0,0))→S g):Que W' B v q:=by
 obtain ⟨g,off,cap,cur,rfl,h1,h2,hB,hc,h3⟩:=h;exact ⟨g,off,cap,cur,rfl,h1,h2,hB,(k.same g (Array.getElem?_eq_some_iff.1 hc).1 (hs g cur hB rfl hc)).trans hc,h3⟩
theorem Que.ext {W W':World} {B:Nat} {v:Value} {q:List Int} (h:Que W B v q) (e:Ext W W'):Que W' B v q:=h.kept (S:=fun _=>True) (.of_below e) (fun _ _ _ _ _=>trivial)
theorem Que.own {W:World} {B:Nat} {v:Value} {q:List Int} (h:Que W B v q):∀ g,v.ownBlock=some g→B≤g∧∃ cur,W.heap[g]? = some (.cells cur 3 (0,0)):=fun g hg=>by
 obtain ⟨g',off,cap,cur,rfl,h1,h2,hB,hc,h3⟩:=h;cases hg;exact ⟨hB,cur,hc⟩
theorem Que.form {W:World} {B:Nat} {v:Value} {q:List Int} (h:Que W B v q):∃ a n cap,v = .slice (some a) n cap:=by
 obtain ⟨g',off,cap,cur,rfl,_⟩:=h;exact ⟨_,_,_,rfl⟩
theorem _root_.Go.Proofs.YtnfdiohfojjnlaaGreat.Owns.que {W:World} {B:Nat} {v:Value} {l:List Int} (h:Owns W B 3 1 v (l.map zam)) (hne:l≠[]):Que W B v l:=by
 obtain ⟨sa,cap,rfl,h1,h2,hf⟩:=h.form
 rcases hf with ⟨h0,_⟩ | ⟨g,rfl,_⟩
 ·exact absurd (List.map_eq_nil_iff.1 h0) hne
 ·obtain ⟨hn,hc,hm,hB,cur,hh,hs,hq⟩:=h.numB
  rcases h.1.2 with ⟨hv,_⟩ | ⟨g',cap',cur',hv,_,hg',_,_,hsz,_⟩
  ·cases hv
  ·simp only [Value.slice.injEq,Option.some.injEq,Addr.mk.injEq] at hv
   obtain ⟨⟨rfl,-,-⟩,-,rfl⟩:=hv;rw [hh] at hg';cases hg';refine ⟨_,_,_,cur,by rw [hn],by rw [← hn];exact hc,hm,hB,hh,.inr ⟨by omega,fun j hj=>?_⟩⟩;rw [Nat.zero_add,hq j (by omega),gt_get hj]
theorem zacd {w:World} {B:Nat} {v:Value} {q:List Int} (h:Que w B v q) (hB:B≤w.heap.size) (ty:TypeId) (x:Int) (b c:Nat) (hx:w.cell? ⟨b,0,none⟩=some (.int .i64 x)) (hn:q.length+1≤1000000) :
  ∃ v' w',(Builtin.append_ #[22,22] ty #[v,.slice (some ⟨b,0,none⟩) 1 c]).run Tryz.prog w = .ok v' w'∧Que w' B v' (q ++ [x])∧Kept (fun k=>some k≠v.ownBlock) w w':=by
 obtain ⟨i,z,hi,hz,hsi,hby,hzs⟩:=zfz.info;obtain ⟨g,off,cap,cur,rfl,h1,h2,hBg,hc,h3⟩:=h;have hnews:∀ j u,[Value.int .i64 x][j]? = some u→w.cell? ((⟨b,0,none⟩:Addr).add j)=some u:=fun j u hj=>by
  rw [addr_add]
  match j with
  | 0=>simp at hj;subst hj;simpa using hx
  | j+1=>simp at hj
 by_cases hroom:q.length+1≤cap
 ·rcases h3 with h3 | ⟨hsz,hq⟩
  ·omega
  have hlt:off+q.length < cur.size:=by omega
  have hcell:(w.cell? ⟨g,off+q.length,none⟩).isSome=true:=by rw [cell_of_row _ _ _ _ _ _ hc];simp [hlt]
  have hr:=run_append_room_cells (P:=Tryz.prog) w 22 ty 3 i zfz.und hi g off q.length cap ⟨b,0,none⟩ 1 c [.int .i64 x] (by simp [hsi]) hnews (by simp [Value.oneCell']) hroom
   (fun j hj=>by
           have:j=0:=by simpa using hj
           subst this;rw [hsi,Nat.mul_one,Nat.add_zero];exact hcell) (fun j hj=>by simp [World.frozen?,hc])
  rw [hsi,Nat.mul_one] at hr;refine ⟨_,_,hr,⟨g,off,cap,_,by simp,by simpa using hroom,h2,hBg,zp hc (off+q.length) (.int .i64 x),.inr ⟨by simpa using hsz,fun j hj=>?_⟩⟩,(Kept.refl _ w).setCell (fun _ h=>h rfl) _⟩
  by_cases e:j=q.length
  ·subst e
   rw [ztj _ hlt];simp
  ·rw [Array.getElem?_setIfInBounds,if_neg (by omega)]
   have hj2:j < q.length:=by simp at hj;omega
   rw [hq j hj2];simp [List.getElem_append_left hj2]
 ·obtain ⟨v',w',hrun,ho,hg2⟩:=run_append_arg_grows (P:=Tryz.prog) w 22 ty 3 i z 1 i.bytes zfz.und hi hz hsi rfl hzs (by omega) ⟨g,off,none⟩ q.length cap (q.map (Value.int .i64)) (by simp)
   (fun j u hj=>by
    rcases h3 with h3 | ⟨hsz,hq⟩
    ·have:q=[]:=List.eq_nil_of_length_eq_zero (by omega)
     subst this;simp at hj
    ·rw [addr_add,cell_of_row _ _ _ _ _ _ hc]
     rw [List.getElem?_map] at hj;obtain ⟨y,hy,rfl⟩:=Option.map_eq_some_iff.1 hj;obtain ⟨hjl,rfl⟩:=List.getElem?_eq_some_iff.1 hy;exact hq j hjl) ⟨b,0,none⟩ 1 c [.int .i64 x] (by simp) hnews (by omega) (by simp [maxLen];omega) (by have:=Nat.mul_le_mul hn hby;omega)
  have ho':Owns w' w.heap.size 3 1 v' ((q ++ [x]).map zam):=by
   refine ⟨?_,fun r hr=>by obtain ⟨y,_,rfl⟩:=List.mem_map.1 hr;rfl⟩;have e:((q ++ [x]).map zam).flatten=q.map (Value.int .i64) ++ [.int .i64 x]:=by
    have:∀ l:List Int,(l.map zam).flatten=l.map (Value.int .i64):=fun l=>by
     induction l with
     | nil=>rfl
     | cons y l ih=>simp [zam,ih]
    rw [this];simp
   rw [e];simpa using ho
  obtain ⟨g',off',cap',cur',e1,e2,e3,e4,e5,e6⟩:=ho'.que (by simp);exact ⟨v',w',hrun,⟨g',off',cap',cur',e1,e2,e3,by omega,e5,e6⟩,(Kept.refl _ w).grown hg2 (fun k hk=>by cases hk)⟩
theorem zabg {w:World} {ops:Array Oper} {rest:List Oper} {o:Oper} {a:Act} {Q:Exit→Act→World→Prop} (hgd:o.guard=none) (s x:Operand)
  (ho:o.op = .call { callee:=.builtin .append,args:=#[s,x],argTypes:=#[22,22] }) (B:Nat) {v:Value} {q:List Int} (hs:a.eval s=v) (h:Que w B v q) (y:Int) (b c:Nat) (hx:a.eval x = .slice (some ⟨b,0,none⟩) 1 c) (hc:w.cell? ⟨b,0,none⟩=some (.int .i64 y))
  (hn:q.length+1≤1000000) (hB:B≤w.heap.size)
  (hk:∀ v' w',Que w' B v' (q ++ [y])→Kept (fun k=>some k≠v.ownBlock) w w'→wpList Tryz.prog ops Q rest (a.put o.dst v') w'):wpList Tryz.prog ops Q (o :: rest) a w :=
 wpList_plain hgd fun K hK=>by
  obtain ⟨v',w',hrun,h2,h3⟩:=zacd h hB o.type y b c hc hn;unfold Oper.wp execOp;simp only [ho,resolve,invoke,builtin,Sem.run_bind,Sem.run_pure,Result.andThen_ok,List.map_toArray,List.map_cons,List.map_nil,hs,hx,hrun];exact hK _ _ (hk v' w' h2 h3)
theorem zxi (w:World) (N:Nat) (hN:N≤1000000):∃ w',(Instr.makeSlice 22 (.int .i64 (N:Int)) (.int .i64 (N:Int))).run Tryz.prog w = .ok (.slice (some ⟨w.heap.size,0,none⟩) N N) w'∧zbv w' w.heap.size N (fun _=>0)∧Ext w w':=by
 obtain ⟨i,z,hi,hz,hsi,hby,hzs⟩:=zfz.info;have hz0:z = .int .i64 0:=by
  have h1:(Tryz.prog.info? 3).map (fun i=>i.zero)=some (some (.int .i64 0)):=by kernel_rfl
  rw [hi] at h1;simp [hz] at h1;exact h1
 subst hz0;obtain ⟨w',hrun,hown,hg⟩:=run_makeSlice_full (P:=Tryz.prog) w w.heap.size 22 3 i (.int .i64 0) 1 zfz.und hi hz hsi .i64 .i64 N (by omega) (by have:=Nat.mul_le_mul hby hN;omega) (by simp [maxLen];omega) (Nat.le_refl _);rw [Nat.mul_one] at hown;obtain ⟨cur,hc,hI⟩:=zwz hown;exact ⟨w',hrun,⟨cur,hc,by rw [hI.size];omega,fun j hj=>hI.at_ j hj⟩,(Below.refl _ w).grown hg (Nat.le_refl _) fun k hk=>by cases hk⟩
theorem Que.spec {W:World} {B:Nat} {v:Value} {x:Int} {q:List Int} (h:Que W B v (x :: q)):∃ g off cap,v = .slice (some ⟨g,off,none⟩) (q.length+1) cap∧q.length+1≤cap∧cap≤9223372036854775807∧W.cell? ⟨g,off,none⟩=some (.int .i64 x) ∧
  ∀ v',(v' = .slice (some ⟨g,off+1,none⟩) q.length (cap - 1)∨(cap - 1=0∧v' = .slice (some ⟨g,off,none⟩) q.length (cap - 1)))→Que W B v' q:=by
 obtain ⟨g,off,cap,cur,rfl,h1,h2,hBg,hc,h3⟩:=h;simp only [List.length_cons] at h1
 rcases h3 with h3 | ⟨hsz,hq⟩
 ·omega
 refine ⟨g,off,cap,rfl,h1,h2,?_,fun v' hv'=>?_⟩
 ·rw [cell_of_row _ _ _ _ _ _ hc]
  have:=hq 0 (by simp);simpa using this
 ·rcases hv' with rfl | ⟨h0,rfl⟩
  ·exact ⟨g,off+1,cap - 1,cur,rfl,by omega,by omega,hBg,hc,.inr ⟨by omega,fun j hj=>by
    have:=hq (j+1) (by simpa using hj);rw [show off+1+j=off+(j+1) by omega,this];simp⟩⟩
  ·exact ⟨g,off,cap - 1,cur,rfl,by omega,by omega,hBg,hc,.inl h0⟩
def zqz (n b:Nat):List Int:=((List.range n).filter fun i=>b.testBit i).map fun (i:Nat)=>(i:Int)
def lex:List Int→List Int→Prop
 | x :: a,y :: b=>x < y∨(x=y∧lex a b)
 | _,_=>False
theorem z3o:∀ {a b:List Int},a.length=b.length→a=b∨lex a b∨lex b a
 | [],[],_=>.inl rfl
 | [],_ :: _,h=>by simp at h
 | _ :: _,[],h=>by simp at h
 | x :: a,y :: b,h=>by
  by_cases h1:x < y
  ·exact .inr (.inl (.inl h1))
  ·by_cases h2:y < x
   ·exact .inr (.inr (.inl h2))
   ·have e:x=y:=by omega
    subst e
    rcases z3o (a:=a) (b:=b) (by simpa using h) with h3 | h3 | h3
    ·exact .inl (by rw [h3])
    ·exact .inr (.inl (.inr ⟨rfl,h3⟩))
    ·exact .inr (.inr (.inr ⟨rfl,h3⟩))
def z9k (a b:List Int):Prop:=a.length < b.length∨(a.length=b.length∧lex a b)
theorem z9l (a b:List Int):a=b∨z9k a b∨z9k b a:=by
 rcases Nat.lt_trichotomy a.length b.length with h | h | h
 ·exact .inr (.inl (.inl h))
 ·rcases z3o h with e | e | e
  ·exact .inl e
  ·exact .inr (.inl (.inr ⟨h,e⟩))
  ·exact .inr (.inr (.inr ⟨h.symm,e⟩))
 ·exact .inr (.inr (.inl h))
def z45 (n:Nat) (ok:List Int→Bool) (o:Option (List Int)):Prop:=match o with
 | none=>∀ b,b < 2 ^ n→ok (zqz n b)=false
 | some l=>ok l=true∧(∃ b,b < 2 ^ n∧l=zqz n b)∧∀ b,b < 2 ^ n→ok (zqz n b)=true→¬ z9k (zqz n b) l
theorem z45.inj {n:Nat} {ok:List Int→Bool} {o o':Option (List Int)} (h:z45 n ok o) (k:z45 n ok o'):o=o':=by
 cases o with
 | none =>
  cases o' with
  | none=>rfl
  | some l =>
   obtain ⟨h1,⟨b,hb,rfl⟩,_⟩:=k;have:=h b hb;rw [h1] at this;cases this
 | some l =>
  obtain ⟨h1,⟨b,hb,rfl⟩,h2⟩:=h;cases o' with
  | none=>have:=k b hb;rw [h1] at this;cases this
  | some l' =>
   obtain ⟨k1,⟨c,hc,rfl⟩,k2⟩:=k
   rcases z9l (zqz n b) (zqz n c) with e | e | e
   ·rw [e]
   ·exact absurd e (k2 b hb h1)
   ·exact absurd e (h2 c hc k1)
noncomputable def cntN (ks:List Int):Nat:=((List.range (nSt ks)).filter fun (i:Nat)=>decide (rkN ks i < 0)).length
theorem z7e {ks s:List Int} (v:TVal ks) (h:zaj ks s=true):(FofR ks (rkN ks) (zau ks s)).isSome=decide (rowOf (nxS ks) s < 0):=by
 have hb:=zcl v.nn h;unfold FofR rkN;rw [zfv v.nn h]
 by_cases hr:rowOf (nxS ks) s < 0
 ·rw [if_pos ⟨hb.1,hb.2,hr⟩,decide_eq_true hr];rfl
 ·rw [if_neg (fun h=>hr h.2.2),decide_eq_false hr];rfl
structure zkd (ks:List Int) (s0:Int) (o q:List Int) (seen:Nat→Int):Prop where
 bd:∀ x∈o ++ q,0≤x∧x < zq ks
 nd:(o ++ q).Nodup
 sn:∀ i:Nat,i < nSt ks→seen i=if (i:Int)∈o ++ q then 1 else 0
 st:s0∈o ++ q
 un:¬ zcp (nxS ks) (zt ks s0)→∀ x∈o ++ q,¬ zcp (nxS ks) (zt ks x)
theorem zkd.move {ks:List Int} {s0 i:Int} {o q:List Int} {seen:Nat→Int} (h:zkd ks s0 o (i :: q) seen):zkd ks s0 (o ++ [i]) q seen:=by
 have e:(o ++ [i]) ++ q=o ++ i :: q:=by simp
 exact ⟨by rw [e];exact h.bd,by rw [e];exact h.nd,by rw [e];exact h.sn,by rw [e];exact h.st,by rw [e];exact h.un⟩
theorem zkd.add {ks:List Int} (v:TVal ks) {s0 i y:Int} {o q:List Int} {seen:Nat→Int} (h:zkd ks s0 o q seen) (hi:i∈o ++ q) (hy:y∈nxN ks i) (hn:y ∉ o ++ q):zkd ks s0 o (q ++ [y]) (fun j=>if (j:Int)=y then 1 else seen j):=by
 have e:o ++ (q ++ [y])=(o ++ q) ++ [y]:=by simp
 refine ⟨fun x hx=>?_,?_,fun j hj=>?_,by rw [e];exact List.mem_append_left _ h.st,fun hu x hx=>?_⟩
 ·rw [e] at hx
  rcases List.mem_append.1 hx with hx | hx
  ·exact h.bd x hx
  ·simp at hx;subst hx;exact zh1 v hy
 ·rw [e,List.nodup_append]
  exact ⟨h.nd,by simp,fun a ha b hb hab=>by simp at hb;subst hb;subst hab;exact hn ha⟩
 ·rw [e]
  by_cases hj2:(j:Int)=y
  ·rw [if_pos hj2,if_pos (by simp [hj2])]
  ·rw [if_neg hj2,h.sn j hj]
   by_cases hm:(j:Int)∈o ++ q
   ·rw [if_pos hm,if_pos (List.mem_append_left _ hm)]
   ·rw [if_neg hm,if_neg (fun hh=>by
     rcases List.mem_append.1 hh with hh | hh
     ·exact hm hh
     ·exact hj2 (by simpa using hh))]
 ·rw [e] at hx
  rcases List.mem_append.1 hx with hx | hx
  ·exact h.un hu x hx
  ·simp at hx;subst hx
   intro hs;have hbi:=h.bd i hi;unfold nxN at hy;obtain ⟨t,ht,rfl⟩:=List.mem_map.1 hy;rw [zfv v.nn (ze0 v (zf0 v.nn) t ht)] at hs;exact h.un hu i hi (z62 ht hs)
theorem zkd.len {ks:List Int} (v:TVal ks) {s0:Int} {o q:List Int} {seen:Nat→Int} (h:zkd ks s0 o q seen):o.length+q.length≤nSt ks:=by
 have h1:((o ++ q).map Int.toNat).Nodup:=nodup_map _ h.nd fun x hx y hy e=>by
  have:=h.bd x hx;have:=h.bd y hy;omega
 have h2:=nodup_le (nSt ks) _ h1 fun x hx=>by
  obtain ⟨y,hy,rfl⟩:=List.mem_map.1 hx;have:=h.bd y hy;have:=zgu v;omega
 simpa using h2
end Go.Proofs.YtnfdiohfojjnlaaGreat.Tu
