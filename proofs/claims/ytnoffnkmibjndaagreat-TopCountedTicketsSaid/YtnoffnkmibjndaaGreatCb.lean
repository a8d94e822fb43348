/-
  slices.IndexFunc and slices.ContainsFunc at each type of elements that the chapter uses: where the first good element stands, whatever closure tells which are good (it must answer in every later world, and turn nothing that there was).
-/
import Derived.Test.YtnoffnkmibjndaaGreatCa
import Derived.Test.YtnoffnkmibjndaaGreatPa
import Derived.Test.YtnoffnkmibjndaaGreatBa
import Derived.Test.YtnoffnkmibjndaaGreatBb
set_option maxRecDepth 200000
set_option maxHeartbeats 0
namespace Go.Proofs.YtnoffnkmibjndaaGreat.Cu
open Go.Lib (hid)
open Go.RowKit
theorem z1k (l:List Cnt) (sa:Option Addr) (cap:Nat) (f:Nat) (cs:Array Value) (p:Cnt→Bool) (w:World)
  (hl:l.length≤9223372036854775807)
  (hs:l=[]∨∃ b off,sa=some ⟨b,off,none⟩∧∀ i,(h:i < l.length)→w.cell? ⟨b,off+i * 4,none⟩=some (.int .i64 l[i].f)∧w.cell? ⟨b,off+i * 4+1,none⟩=some (.int .i64 l[i].t)∧w.cell? ⟨b,off+i * 4+2,none⟩=some (.int .i64 l[i].lo)∧w.cell? ⟨b,off+i * 4+3,none⟩=some (.int .i64 l[i].hi))
  (hcall:∀ args W,(callFunc f args).run Tryz.prog W = .ok (.enter f args) W)
  (hf:∀ x,x∈l→∀ W,Ext w W→Calls Tryz.prog f (#[.agg #[.int .i64 x.f,.int .i64 x.t,.int .i64 x.lo,.int .i64 x.hi]] ++ cs) W fun e W'=>e = .returned (.bool (p x))∧Ext W W') :
  Calls Tryz.prog 145 #[.slice sa l.length cap,.func (.func f) #[] cs] w fun e w'=>e = .returned (.int .i64 (zoy p l))∧Ext w w':=by
 have Hf:=hid hf;clear hf
 go_enter Tryz.func145,Tryz.ntmps145
 go_wp2
 go_loopw [8] (fun i W=>∃ k:Nat,k≤l.length∧i = .int .i64 k∧(∀ x∈l.take k,p x=false)∧Ext w W) (fun i _=>l.length - (intOf i).toNat)
 case atStart=>exact ⟨0,Nat.zero_le _,rfl,by simp,Below.refl _ _⟩
 case round =>
  obtain ⟨k,hk,rfl,hno,hb⟩:=hrel;have HN:=hid hno;clear hno
  by_cases hlt:k < l.length
  ·have hs':∃ b off,sa=some ⟨b,off,none⟩∧∀ i,(h:i < l.length)→w.cell? ⟨b,off+i * 4,none⟩=some (.int .i64 l[i].f)∧w.cell? ⟨b,off+i * 4+1,none⟩=some (.int .i64 l[i].t)∧w.cell? ⟨b,off+i * 4+2,none⟩=some (.int .i64 l[i].lo)∧w.cell? ⟨b,off+i * 4+3,none⟩=some (.int .i64 l[i].hi):=by
    rcases hs with rfl | h
    ·simp at hlt
    ·exact h
   clear hs;obtain ⟨b,off,rfl,hc⟩:=hs';have hc1:=hc k hlt;have HC:Hid (∀ i,(h:i < l.length)→w.cell? ⟨b,off+i * 4,none⟩=some (.int .i64 l[i].f)∧w.cell? ⟨b,off+i * 4+1,none⟩=some (.int .i64 l[i].t)∧w.cell? ⟨b,off+i * 4+2,none⟩=some (.int .i64 l[i].lo)∧w.cell? ⟨b,off+i * 4+3,none⟩=some (.int .i64 l[i].hi)):=hid hc;clear hc;obtain ⟨a0,a1,a2,a3⟩:=hc1;have c0:=zf hb a0;have c1:=zf hb a1;have c2:=zf hb a2;have c3:=zf hb a3;clear a0 a1 a2 a3;go_wp2_with fail;refine (Hf.out l[k] (List.getElem_mem hlt) _ hb).mono ?_
   rintro e W' ⟨rfl,hb'⟩;cases hp:p l[k]
   ·go_wp2
    go_roundw
    case rel=>exact ⟨k+1,by omega,by go_num,zhq hlt HN.out hp,hb.trans' hb'⟩
    case measure=>simp [intOf];omega
   ·go_wp2
    go_ret;exact ⟨za6 (zwy hlt HN.out hp).symm,hb.trans' hb'⟩
  ·go_wp2
   go_ret;exact ⟨za6 (zqf (zhr hlt HN.out)).symm,hb⟩
theorem zlj (l:List Cnt) (sa:Option Addr) (cap:Nat) (f:Nat) (cs:Array Value) (p:Cnt→Bool) (w:World)
  (hl:l.length≤9223372036854775807)
  (hs:l=[]∨∃ b off,sa=some ⟨b,off,none⟩∧∀ i,(h:i < l.length)→w.cell? ⟨b,off+i * 4,none⟩=some (.int .i64 l[i].f)∧w.cell? ⟨b,off+i * 4+1,none⟩=some (.int .i64 l[i].t)∧w.cell? ⟨b,off+i * 4+2,none⟩=some (.int .i64 l[i].lo)∧w.cell? ⟨b,off+i * 4+3,none⟩=some (.int .i64 l[i].hi))
  (hcall:∀ args W,(callFunc f args).run Tryz.prog W = .ok (.enter f args) W)
  (hf:∀ x,x∈l→∀ W,Ext w W→Calls Tryz.prog f (#[.agg #[.int .i64 x.f,.int .i64 x.t,.int .i64 x.lo,.int .i64 x.hi]] ++ cs) W fun e W'=>e = .returned (.bool (p x))∧Ext W W') :
  Calls Tryz.prog 88 #[.slice sa l.length cap,.func (.func f) #[] cs] w fun e w'=>e = .returned (.bool (l.any p))∧Ext w w':=by
 have H:=hid (z1k l sa cap f cs p w hl hs hcall hf);clear hf hs hcall
 go_enter Tryz.func88,Tryz.ntmps88
 go_wp2_with fail;refine H.out.mono ?_
 rintro e W' ⟨rfl,hb⟩
 go_wp2
 all_goals
  go_ret;refine ⟨zbl ?_,hb⟩;rw [← ztr]
end Go.Proofs.YtnoffnkmibjndaaGreat.Cu
namespace Go.Proofs.YtnoffnkmibjndaaGreat.Cu
open Go.Lib (hid)
open Go.RowKit
theorem within1_any (n lo hi:Int) (a b:Addr) (w:World) (h1:w.cell? a=some (.int .i64 lo)) (h2:w.cell? b=some (.int .i64 hi)) :
  Calls Tryz.prog 144 #[.int .i64 n,.pointer (some a),.pointer (some b)] w fun e w'=>e = .returned (.bool (decide (n < lo) || decide (hi < n)))∧Ext w w':=by
 go_enter Tryz.func144,Tryz.ntmps144
 go_wp2
 all_goals
  go_ret;exact ⟨zbl (by simp [*]),Below.refl _ _⟩
theorem any_inR (lo hi:Int) (l:List Int):(!l.any fun n=>decide (n < lo) || decide (hi < n))=l.all (inR lo hi):=by
 induction l with
 | nil=>rfl
 | cons a l ih=>simp only [List.any_cons,List.all_cons,Bool.not_or,← ih,inR]
theorem within_any (lo hi:Int) (v:Value) (l:List Int) (w:World) (hv:zn w .i64 v l) :
  Calls Tryz.prog 86 #[.int .i64 lo,.int .i64 hi,v] w fun e w'=>e = .returned (.bool (l.all (inR lo hi)))∧Ext w w':=by
 obtain ⟨sa,cap,rfl,h1,h2,h3⟩:=hv.spec;have H3:=hid h3;clear h3 hv
 go_enter Tryz.func86,Tryz.ntmps86
 go_wp2_with fail;have hE:Ext w ((w.alloc (.cells #[.int .i64 lo] 2)).alloc (.cells #[.int .i64 hi] 2)):=((Below.refl _ _).alloc (Nat.le_refl _) _).alloc (by simp) _;have e1:((w.alloc (.cells #[.int .i64 lo] 2)).alloc (.cells #[.int .i64 hi] 2)).cell? ⟨w.heap.size,0,none⟩=some (.int .i64 lo):=by simp [go_sem]
 have e2:((w.alloc (.cells #[.int .i64 lo] 2)).alloc (.cells #[.int .i64 hi] 2)).cell? ⟨w.heap.size+1,0,none⟩=some (.int .i64 hi):=by simp [go_sem]
 refine (zlf l sa cap 144 #[.pointer (some ⟨w.heap.size,0,none⟩),.pointer (some ⟨w.heap.size+1,0,none⟩)] (fun n=>decide (n < lo) || decide (hi < n)) _ (by omega) (H3.out.imp id fun ⟨b,off,e,hc⟩=>⟨b,off,e,fun i hi=>zf hE (hc i hi)⟩)
  (fun args W=>Tryz.call144 args W) (fun x _ W hW=>within1_any x lo hi _ _ W (zf hW e1) (zf hW e2))).mono ?_
 rintro e W' ⟨rfl,hb⟩;clear e1 e2
 go_wp2
 all_goals
  go_ret;refine ⟨zbl (a:=!l.any fun n=>decide (n < lo) || decide (hi < n)) ?_,hE.trans' hb⟩;exact any_inR lo hi l
theorem zvg {w:World} {b cap:Nat} {x y:Int} (h2:2≤cap) (h3:cap≤9223372036854775807) (c0:w.cell? ⟨b,0,none⟩=some (.int .i64 x)) (c1:w.cell? ⟨b,1,none⟩=some (.int .i64 y)) :
  zn w .i64 (.slice (some ⟨b,0,none⟩) 2 cap) [x,y]:=by
 refine zn.mk (l:=[x,y]) (off:=0) (by simpa using h2) h3 fun i hi=>?_
 match i,hi with
 | 0,_=>simpa using c0
 | 1,_=>simpa using c1
theorem isInts_one {w:World} {b cap:Nat} {x:Int} (h2:1≤cap) (h3:cap≤9223372036854775807) (c0:w.cell? ⟨b,0,none⟩=some (.int .i64 x)) :
  zn w .i64 (.slice (some ⟨b,0,none⟩) 1 cap) [x]:=by
 refine zn.mk (l:=[x]) (off:=0) (by simpa using h2) h3 fun i hi=>?_
 match i,hi with
 | 0,_=>simpa using c0
def zpd (n:Int) (c:Cnt):Bool:=decide (c.t < c.f) || !(inR 0 (n - 1) c.f && inR 0 (n - 1) c.t)
def zpe (c:Cnt):Bool:=decide (c.hi < c.lo) || !(inR 0 10000000 c.lo && inR 0 10000000 c.hi)
theorem zxc (c:Cnt) (n:Int) (h1:1≤n) (h10:n≤10) (a:Addr) (w:World) (c0:w.cell? a=some (.int .i64 n)) (ha:a.spot=none) :
  Calls Tryz.prog 85 #[.agg #[.int .i64 c.f,.int .i64 c.t,.int .i64 c.lo,.int .i64 c.hi],.pointer (some a)] w fun e w'=>e = .returned (.bool (zpd n c))∧Ext w w':=by
 obtain ⟨b,o,sp⟩:=a;obtain rfl:sp=none:=ha;have hbl:b < w.heap.size:=World.block_lt_of_cell? w _ c0
 by_cases h:c.t < c.f
 ·go_enter Tryz.func85,Tryz.ntmps85
  go_wp2
  go_ret;exact ⟨zbl (by simp [zpd,h]),(Below.refl _ _).alloc (Nat.le_refl _) _⟩
 ·go_enter Tryz.func85,Tryz.ntmps85
  go_wp2_with fail;refine (within_any 0 (n - 1) _ [c.f,c.t] _ (zvg (by omega) (by omega) (by simp [go_sem]) (by simp [go_sem]))).mono ?_
  rintro e W' ⟨rfl,hb⟩
  go_wp2
  all_goals
   go_ret;exact ⟨zbl (by simp [zpd];omega),xx⟩
theorem zxd (c:Cnt) (w:World) :
  Calls Tryz.prog 87 #[.agg #[.int .i64 c.f,.int .i64 c.t,.int .i64 c.lo,.int .i64 c.hi]] w fun e w'=>e = .returned (.bool (zpe c))∧Ext w w':=by
 by_cases h:c.hi < c.lo
 ·go_enter Tryz.func87,Tryz.ntmps87
  go_wp2
  go_ret;exact ⟨zbl (by simp [zpe,h]),xx⟩
 ·go_enter Tryz.func87,Tryz.ntmps87
  go_wp2_with fail;refine (within_any 0 10000000 _ [c.lo,c.hi] _ (zvg (by omega) (by omega) (by simp [go_sem]) (by simp [go_sem]))).mono ?_
  rintro e W' ⟨rfl,hb⟩
  go_wp2
  all_goals
   go_ret;exact ⟨zbl (by simp [zpe];omega),xx⟩
def Cnt.cells (c:Cnt):List Value:=[.int .i64 c.f,.int .i64 c.t,.int .i64 c.lo,.int .i64 c.hi]
def IsCnts (w:World) (v:Value) (l:List Cnt):Prop:=IsRows w 4 v (l.map Cnt.cells)
theorem IsCnts.ext {w w':World} (h:Ext w w') {v:Value} {l:List Cnt} (hr:IsCnts w v l):IsCnts w' v l:=IsRows.ext h hr
theorem IsCnts.spec {w:World} {v:Value} {l:List Cnt} (h:IsCnts w v l) :
  ∃ sa cap,v = .slice sa l.length cap∧l.length≤cap∧cap≤9223372036854775807∧(l=[]∨∃ b off,sa=some ⟨b,off,none⟩∧∀ i,(h:i < l.length) →
   w.cell? ⟨b,off+i * 4,none⟩=some (.int .i64 l[i].f)∧w.cell? ⟨b,off+i * 4+1,none⟩=some (.int .i64 l[i].t)∧w.cell? ⟨b,off+i * 4+2,none⟩=some (.int .i64 l[i].lo)∧w.cell? ⟨b,off+i * 4+3,none⟩=some (.int .i64 l[i].hi)):=by
 obtain ⟨sa,cap,h1,h2,h3,h4⟩:=h;refine ⟨sa,cap,by simpa using h1,by simpa using h2,h3,?_⟩
 rcases h4 with h4 | ⟨b,off,e,h4⟩
 ·exact .inl (by simpa using h4)
 ·refine .inr ⟨b,off,e,fun i hi=>?_⟩
  have h4':=h4 i (by simpa using hi);have a0:=h4' 0 (by simp [Cnt.cells]);have a1:=h4' 1 (by simp [Cnt.cells]);have a2:=h4' 2 (by simp [Cnt.cells]);have a3:=h4' 3 (by simp [Cnt.cells]);simp [Cnt.cells] at a0 a1 a2 a3;exact ⟨a0,a1,a2,a3⟩
theorem IsCnts.opened {w:World} {sa:Option Addr} {cap n:Nat} {l:List Cnt} (h:IsCnts w (.slice sa n cap) l) :
  (l=[]∨∃ b off,sa=some ⟨b,off,none⟩∧∀ i,(h:i < l.length) →
   w.cell? ⟨b,off+i * 4,none⟩=some (.int .i64 l[i].f)∧w.cell? ⟨b,off+i * 4+1,none⟩=some (.int .i64 l[i].t)∧w.cell? ⟨b,off+i * 4+2,none⟩=some (.int .i64 l[i].lo)∧w.cell? ⟨b,off+i * 4+3,none⟩=some (.int .i64 l[i].hi)):=by
 obtain ⟨sa',cap',e,_,_,h3⟩:=h.spec;cases e;exact h3
def zt3 (h:Hall):Int :=
 if ¬ (1≤h.n∧h.n≤10)∨¬ h.cs.length≤10 then 6
 else if h.cs.any (zpd h.n) then 2
 else if ¬ (0≤h.most∧h.most≤1000000)∨h.cs.any zpe then 3
 else 0
theorem zvh {α:Type} {p q:α→Bool} (l:List α) (h:∀ x∈l,p x=q x):l.any p=l.any q:=by
 induction l with
 | nil=>rfl
 | cons a l ih=>simp only [List.any_cons];rw [h a (by simp),ih fun x hx=>h x (by simp [hx])]
theorem zqu (h:Hall):chk h=zt3 h:=by
 unfold chk zt3
 by_cases h1:h.n < 1∨10 < h.n∨10 < h.cs.length
 ·rw [if_pos h1,if_pos (show ¬ (1≤h.n∧h.n≤10)∨¬ h.cs.length≤10 from by omega)]
 ·rw [if_neg h1,if_neg (show ¬ (¬ (1≤h.n∧h.n≤10)∨¬ h.cs.length≤10) from by omega)]
  have e:h.cs.any (fun c=>decide (c.f < 0) || decide (c.t < c.f) || decide (h.n≤c.t))=h.cs.any (zpd h.n):=by
   refine zvh _ fun c _=>?_
   rw [Bool.eq_iff_iff];simp [zpd,inR];omega
  have e2:h.cs.any (fun c=>!(decide (0≤c.lo) && decide (c.lo≤c.hi) && decide (c.hi≤10000000)))=h.cs.any zpe:=by
   refine zvh _ fun c _=>?_
   rw [Bool.eq_iff_iff];simp [zpe,inR];omega
  rw [e,e2]
  by_cases h2:h.cs.any (zpd h.n)=true
  ·rw [if_pos h2,if_pos h2]
  ·rw [if_neg h2,if_neg h2]
   by_cases h3:h.most < 0∨1000000 < h.most
   ·rw [if_pos h3,if_pos (Or.inl (by omega))]
   ·rw [if_neg h3]
    by_cases h4:h.cs.any zpe=true
    ·rw [if_pos h4,if_pos (Or.inr h4)]
    ·rw [if_neg h4,if_neg (by rintro (h | h);omega;exact h4 h)]
def Hall.val (h:Hall) (sv:Value):Value:=.agg #[.int .i64 h.n,.int .i64 h.most,sv]
theorem zqa (h:Hall) (sv:Value) (w:World) (hs:IsCnts w sv h.cs) :
  Calls Tryz.prog 44 #[.agg #[.int .i64 h.n,.int .i64 h.most,sv]] w fun e w'=>e = .returned (.int .i64 (chk h))∧Ext w w':=by
 obtain ⟨sa,cap,rfl,hl1,hl2,hl3⟩:=hs.spec;have HS:=hid hs;clear hs hl3
 go_enter Tryz.func44,Tryz.ntmps44
 go_wp2_with fail;refine (within_any 1 10 _ [h.n] _ (isInts_one (by omega) (by omega) (by simp [go_sem]))).mono ?_
 rintro e W1 ⟨rfl,hb1⟩;have k0:=zf hb1 (a:=⟨w.heap.size,0,none⟩) (v:=.int .i64 h.n) (by simp [go_sem]);have k1:=zf hb1 (a:=⟨w.heap.size,1,none⟩) (v:=.int .i64 h.most) (by simp [go_sem]);have k2:=zf hb1 (a:=⟨w.heap.size,2,none⟩) (v:=.slice sa h.cs.length cap) (by simp [go_sem]);have hw1:Ext w W1:=xx;clear hb1;have HW1:=hid hw1;clear hw1
 by_cases h1:1≤h.n∧h.n≤10
 ·have h1':[h.n].all (inR 1 10)=true:=by simp [inR];omega
  by_cases h2:h.cs.length≤10
  ·go_wp2_with fail
   refine (zlj h.cs sa cap 85 #[.pointer (some ⟨w.heap.size,0,none⟩)] (zpd h.n) _ (by omega) ((HS.out.ext HW1.out).opened) (fun args W=>Tryz.call85 args W)
    (fun x _ W hW=>zxc x h.n h1.1 h1.2 _ W (zf hW k0) rfl)).mono ?_
   rintro e W2 ⟨rfl,hb2⟩;have m1:=zf hb2 k1;have m2:=zf hb2 k2;have HW2:=hid (HW1.out.trans' hb2);clear hb2 k0 k1 k2;cases h3:h.cs.any (zpd h.n)
   ·go_wp2_with fail
    refine (within_any 0 1000000 _ [h.most] _ (isInts_one (by omega) (by omega) (by simp [go_sem]))).mono ?_
    rintro e W3 ⟨rfl,hb3⟩;have n2:=zf hb3 (a:=⟨w.heap.size,2,none⟩) (v:=.slice sa h.cs.length cap) (by have:=World.block_lt_of_cell? _ _ m2;simp [go_sem,m2,this]);have HW3:=hid ((HW2.out.al _).trans' hb3);clear hb3 m1 m2
    by_cases h4:0≤h.most∧h.most≤1000000
    ·have h4':[h.most].all (inR 0 1000000)=true:=by simp [inR];omega
     go_wp2_with fail;refine (zlj h.cs sa cap 87 #[] zpe _ (by omega) ((HS.out.ext HW3.out).opened) (fun args W=>Tryz.call87 args W)
      (fun x _ W hW=>zxd x W)).mono ?_
     rintro e W4 ⟨rfl,hb4⟩;have HW4:=hid (HW3.out.trans' hb4);clear hb4;cases h5:h.cs.any zpe
     all_goals
      go_wp2
      go_ret;exact ⟨za6 (by rw [zqu];simp [zt3,h1,h2,h3,h4,h5]),HW4.out⟩
    ·have h4':[h.most].all (inR 0 1000000)=false:=by simp [inR];omega
     go_wp2
     go_ret;exact ⟨za6 (by rw [zqu];simp [zt3,h1,h2,h3,h4]),HW3.out⟩
   ·go_wp2
    go_ret;exact ⟨za6 (by rw [zqu];simp [zt3,h1,h2,h3]),HW2.out⟩
  ·go_wp2
   go_ret;exact ⟨za6 (by rw [zqu];simp [zt3,h2]),HW1.out⟩
 ·have h1':[h.n].all (inR 1 10)=false:=by simp [inR];omega
  go_wp2
  go_ret;exact ⟨za6 (by rw [zqu];simp [zt3,h1]),HW1.out⟩
end Go.Proofs.YtnoffnkmibjndaaGreat.Cu
namespace Go.Proofs.YtnoffnkmibjndaaGreat.Cu
open Go.Lib (hid)
open Go.RowKit
theorem z3t (lo hi most:Int) (w:World) :
  Calls Tryz.prog 14 #[.agg #[.int .i64 lo,.int .i64 hi],.int .i64 most] w fun e w'=>e = .returned (.bool (decide (0≤lo) && decide (lo≤hi) && decide (hi≤most)))∧Ext w w':=by
 go_enter Tryz.func14,Tryz.ntmps14
 go_wp2
 all_goals
  go_ret;exact ⟨zbl (by simp [*]<;>(intros;omega)),xx⟩
def zkj (n:Int) (c:Cnt):Bool:=decide (c.f < 0) || decide (c.t < c.f) || decide (n≤c.t)
def zt4 (c:Cnt):Bool:=!(decide (0≤c.lo) && decide (c.lo≤c.hi) && decide (c.hi≤10000000))
theorem zl3 {α:Type} {p:α→Bool} {l:List α} (h:∀ x∈l,p x=false):l.any p=false:=by simpa using h
theorem zlk {α:Type} {p:α→Bool} {l:List α} {k:Nat} (hk:k < l.length) (h:p l[k]=true):l.any p=true:=by
 rw [List.any_eq_true];exact ⟨_,List.getElem_mem hk,h⟩
theorem zad2 {h:Hall} (g1:¬ h.n < 1) (g2:¬ 10 < h.n) (g3:¬ 10 < h.cs.length) {k:Nat} (hk:k < h.cs.length) (hp:zkj h.n h.cs[k]=true):2=chk h:=by
 have:=zlk hk hp;unfold zkj at this;simp [chk,g1,g2,g3,this]
theorem z8w {h:Hall} (g1:¬ h.n < 1) (g2:¬ 10 < h.n) (g3:¬ 10 < h.cs.length) (hp:h.cs.any (zkj h.n)=false) (g4:h.most < 0∨1000000 < h.most):3=chk h:=by
 unfold zkj at hp;simp only [chk];rw [if_neg (by omega),hp,if_neg (by simp),if_pos g4]
theorem zabc {h:Hall} (g1:¬ h.n < 1) (g2:¬ 10 < h.n) (g3:¬ 10 < h.cs.length) (hp:h.cs.any (zkj h.n)=false) (g4:h.cs.any zt4=true):3=chk h:=by
 unfold zkj at hp;unfold zt4 at g4;simp only [chk];rw [if_neg (by omega),hp,if_neg (by simp),g4,if_pos rfl];simp
theorem zabd {h:Hall} (g1:¬ h.n < 1) (g2:¬ 10 < h.n) (g3:¬ 10 < h.cs.length) (hp:h.cs.any (zkj h.n)=false) (g4:¬ (h.most < 0∨1000000 < h.most)) (g5:h.cs.any zt4=false):0=chk h:=by
 unfold zkj at hp;unfold zt4 at g5;simp only [chk];rw [if_neg (by omega),hp,if_neg (by simp),if_neg g4,g5,if_neg (by simp)]
theorem checkHallR_any (h:Hall) (sv:Value) (w:World) (hs:IsCnts w sv h.cs) :
  Calls Tryz.prog 4 #[.agg #[.int .i64 h.n,.int .i64 h.most,sv]] w fun e w'=>e = .returned (.int .i64 (chk h))∧Ext w w':=by
 obtain ⟨sa,cap,rfl,hl1,hl2,hl3⟩:=hs.spec;have HS:=hid hs;clear hs hl3
 by_cases g1:h.n < 1
 ·go_enter Tryz.func4,Tryz.ntmps4
  go_wp2
  go_ret;exact ⟨za6 (by simp [chk,g1]),xx⟩
 by_cases g2:10 < h.n
 ·go_enter Tryz.func4,Tryz.ntmps4
  go_wp2
  go_ret;exact ⟨za6 (by simp [chk,g2]),xx⟩
 by_cases g3:10 < h.cs.length
 ·have g3':decide ((10:Int) < (h.cs.length:Int))=true:=by simp;omega
  go_enter Tryz.func4,Tryz.ntmps4
  go_wp2
  go_ret;exact ⟨za6 (by simp [chk,g3]),xx⟩
 have g3':decide ((10:Int) < (h.cs.length:Int))=false:=by simp;omega
 go_enter Tryz.func4,Tryz.ntmps4
 go_wp2
 go_loopw [3] (fun i W=>∃ k:Nat,k≤h.cs.length∧i = .int .i64 k∧(∀ x∈h.cs.take k,zkj h.n x=false)∧Ext (w.alloc (.cells #[.int .i64 h.n,.int .i64 h.most,.slice sa h.cs.length cap] 24)) W) (fun i _=>h.cs.length - (intOf i).toNat)
 case atStart=>exact ⟨0,Nat.zero_le _,rfl,by simp,Below.refl _ _⟩
 case round =>
  obtain ⟨k,hk,rfl,hno,hb⟩:=hrel;have HN:=hid hno;have k0:=zf hb (a:=⟨w.heap.size,0,none⟩) (v:=.int .i64 h.n) (by simp [go_sem]);have k1:=zf hb (a:=⟨w.heap.size,1,none⟩) (v:=.int .i64 h.most) (by simp [go_sem]);have k2:=zf hb (a:=⟨w.heap.size,2,none⟩) (v:=.slice sa h.cs.length cap) (by simp [go_sem]);have hz:w.heap.size < wr.heap.size:=World.block_lt_of_cell? _ _ k0;have HB:=hid hb;have HX:=hid (Ext.trans' (Ext.al (Below.refl _ w) _) hb);clear hno hb
  by_cases hlt:k < h.cs.length
  ·rcases (HS.out.ext HX.out).opened with e | ⟨b,off,rfl,hc⟩
   ·simp [e] at hlt
   obtain ⟨c0,c1,c2,c3⟩:=hc k hlt;have hbl:b < wr.heap.size:=World.block_lt_of_cell? _ _ c0;clear hc
   go_wp2
   all_goals first
    | (go_ret;exact ⟨za6 (zad2 (by omega) (by omega) (by omega) hlt (by simp [zkj];omega)),Ext.al HX.out _⟩)
    | (go_roundw
       case rel=>exact ⟨k+1,by omega,by go_num,zhq hlt HN.out (by simp [zkj];omega),Ext.al HB.out _⟩
       case measure=>simp [intOf];omega)
  ·have HN2:=hid (zl3 (zhr hlt HN.out))
   clear HN
   by_cases g4:h.most < 0∨1000000 < h.most
   ·have e4:(decide (h.most < 0) || decide (1000000 < h.most))=true:=by simpa using g4
    go_wp2
    all_goals
     go_ret;exact ⟨za6 (z8w (by omega) (by omega) (by omega) HN2.out (by omega)),HX.out⟩
   ·have e4:decide (h.most < 0)=false:=by simp;omega
    have e5:decide (1000000 < h.most)=false:=by simp;omega
    go_wp2_with fail;obtain ⟨w0,rfl⟩:∃ w0:World,w0=wr:=⟨_,rfl⟩
    go_loopw [5] (fun i W=>∃ k:Nat,k≤h.cs.length∧i = .int .i64 k∧(∀ x∈h.cs.take k,zt4 x=false)∧Ext w0 W) (fun i _=>h.cs.length - (intOf i).toNat)
    case atStart=>exact ⟨0,Nat.zero_le _,rfl,by simp,Below.refl _ _⟩
    case round =>
     obtain ⟨k,hk,rfl,hno,hb⟩:=hrel;have HN:=hid hno;replace k2:=zf hb k2;have HX2:=hid (Ext.trans' HX.out hb);have HB2:=hid hb;clear hno hb
     by_cases hlt:k < h.cs.length
     ·rcases (HS.out.ext HX2.out).opened with e | ⟨b,off,rfl,hc⟩
      ·simp [e] at hlt
      obtain ⟨c0,c1,c2,c3⟩:=hc k hlt;clear hc;go_wp2_with fail;refine (z3t h.cs[k].lo h.cs[k].hi 10000000 _).mono ?_
      rintro e W' ⟨rfl,hb'⟩;cases hp:decide (0≤h.cs[k].lo) && decide (h.cs[k].lo≤h.cs[k].hi) && decide (h.cs[k].hi≤10000000)
      ·go_wp2
       go_ret;exact ⟨za6 (zabc (by omega) (by omega) (by omega) HN2.out (zlk hlt (by simp only [zt4,hp];rfl))),Ext.trans' HX2.out hb'⟩
      ·go_wp2
       go_roundw
       case rel=>exact ⟨k+1,by omega,by go_num,zhq hlt HN.out (by simp only [zt4,hp];rfl),Ext.trans' HB2.out hb'⟩
       case measure=>simp [intOf];omega
     ·go_wp2
      go_ret;exact ⟨za6 (zabd (by omega) (by omega) (by omega) HN2.out (by omega) (zl3 (zhr hlt HN.out))),HX2.out⟩
end Go.Proofs.YtnoffnkmibjndaaGreat.Cu
namespace Go.Proofs.YtnoffnkmibjndaaGreat.Cu
open Go.Lib (hid)
open Go.RowKit
def Stp.val (x:Stp):Value:=.agg #[.bool x.win,.int .i64 x.idx,.bool x.back]
structure ziq (w:World) (b:Nat) (h:Hall) (sv:Value):Prop where
 c0:w.cell? ⟨b,0,none⟩=some (.int .i64 h.n)
 c1:w.cell? ⟨b,1,none⟩=some (.int .i64 h.most)
 c2:w.cell? ⟨b,2,none⟩=some sv
 cs:IsCnts w sv h.cs
theorem ziq.ext {w w':World} (e:Ext w w') {b:Nat} {h:Hall} {sv:Value} (p:ziq w b h sv):ziq w' b h sv :=
 ⟨zf e p.c0,zf e p.c1,zf e p.c2,p.cs.ext e⟩
theorem zabe (h:Hall) (sv:Value) (x:Stp) (b:Nat) (w:World) (v:Valid h) (o:za5 h x=true) (hw:x.win=true) (p:ziq w b h sv) :
  Calls Tryz.prog 91 #[.pointer (some ⟨b,0,none⟩),.agg #[.bool x.win,.int .i64 x.idx,.bool x.back]] w fun e w' =>
   e = .returned (.tuple #[.int .i64 (src h x),.int .i64 (dst h x),.int .i64 (cost h x)])∧Ext w w':=by
 obtain ⟨c0,c1,c2,cs⟩:=p;obtain ⟨xw,xi,xb⟩:=x;obtain rfl:xw=true:=hw;have hb:b < w.heap.size:=World.block_lt_of_cell? _ _ c0;clear cs c0;have:=v.n10;simp [za5] at o;obtain ⟨o1,o2⟩:=o;cases xb
 all_goals
  go_enter Tryz.func91,Tryz.ntmps91
  go_wp2
  go_region
  go_wp2
  go_region
  go_wp2
  go_ret3
  exact ⟨z36 (by simp [src,zb3]) (by simp [dst,zb3]) (by simp [cost,zb3]),xx⟩
theorem zabf (h:Hall) (sv:Value) (x:Stp) (b:Nat) (w:World) (v:Valid h) (o:za5 h x=true) (hw:x.win=false) (p:ziq w b h sv) :
  Calls Tryz.prog 91 #[.pointer (some ⟨b,0,none⟩),.agg #[.bool x.win,.int .i64 x.idx,.bool x.back]] w fun e w' =>
   e = .returned (.tuple #[.int .i64 (src h x),.int .i64 (dst h x),.int .i64 (cost h x)])∧Ext w w':=by
 have hv:=zhw v o;obtain ⟨c0,c1,c2,cs⟩:=p;obtain ⟨xw,xi,xb⟩:=x;obtain rfl:xw=false:=hw;have hb:b < w.heap.size:=World.block_lt_of_cell? _ _ c0;simp [za5] at o;obtain ⟨o1,o2⟩:=o;obtain ⟨k,rfl⟩:∃ k:Nat,xi=k:=⟨xi.toNat,by omega⟩
 have hk:k < h.cs.length:=by omega
 obtain ⟨sa,cap,rfl,hl1,hl2,hl3⟩:=cs.spec
 rcases hl3 with e | ⟨sb,off,rfl,hc⟩
 ·simp [e] at hk
 obtain ⟨a0,a1,a2,a3⟩:=hc k hk;have hsb:sb < w.heap.size:=World.block_lt_of_cell? _ _ a0;have e:zb3 h ⟨false,(k:Int),xb⟩=h.cs[k]:=by simp [zb3,List.getD,hk]
 rw [e] at hv;have:=v.n10;obtain ⟨v1,v2,v3,v4,v5,v6⟩:=hv;have E:=hid e;clear e cs c0 hc;cases xb
 all_goals
  go_enter Tryz.func91,Tryz.ntmps91
  go_wp2
  go_region
  go_wp2
  go_region
  go_wp2
  go_region
  go_wp2
  go_ret3
  exact ⟨z36 (by simp [src,E.out]) (by simp [dst,E.out]) (by simp [cost,E.out]),xx⟩
theorem zkk (h:Hall) (sv:Value) (x:Stp) (b:Nat) (w:World) (v:Valid h) (o:za5 h x=true) (p:ziq w b h sv) :
  Calls Tryz.prog 91 #[.pointer (some ⟨b,0,none⟩),.agg #[.bool x.win,.int .i64 x.idx,.bool x.back]] w fun e w' =>
   e = .returned (.tuple #[.int .i64 (src h x),.int .i64 (dst h x),.int .i64 (cost h x)])∧Ext w w':=by
 cases hw:x.win
 ·rw [← hw];exact zabf h sv x b w v o hw p
 ·rw [← hw];exact zabe h sv x b w v o hw p
end Go.Proofs.YtnoffnkmibjndaaGreat.Cu
namespace Go.Proofs.YtnoffnkmibjndaaGreat.Cu
open Go.Lib (hid)
open Go.RowKit Go.Shelf
attribute [local go_sem] Oper.semAt_some
theorem z8x (sb:Nat) (w:World) :
  Calls Tryz.prog 90 #[.pointer (some ⟨sb,0,none⟩)] w fun e w'=>e = .returned (.func (.func 146) #[] #[.pointer (some ⟨w.heap.size,0,none⟩)])∧w'=w.alloc (.cells #[.pointer (some ⟨sb,0,none⟩)] 56):=by
 go_enter Tryz.func90,Tryz.ntmps90
 go_wp2
 go_ret;exact ⟨rfl,rfl⟩
structure zhj (R:Nat→Prop) (w:World) (b:Nat) (h:Hall) (sv:Value):Prop where
 c0:w.cell? ⟨b,0,none⟩=some (.int .i64 h.n)
 c1:w.cell? ⟨b,1,none⟩=some (.int .i64 h.most)
 c2:w.cell? ⟨b,2,none⟩=some sv
 cs:IsCnts w sv h.cs
 rb:R b
 rs:h.cs=[]∨∀ g,sv.ownBlock=some g→R g
theorem _root_.Go.Proofs.YtnoffnkmibjndaaGreat.RowsAt.kept {S:Nat→Prop} {w w':World} (k:Kept S w w') {sz b off:Nat} {rows:List (List Value)} (hb:S b) (hr:RowsAt w sz b off rows):RowsAt w' sz b off rows :=
 fun i hi j hj=>k.cell (hr i hi j hj) hb
theorem _root_.Go.Proofs.YtnoffnkmibjndaaGreat.IsRows.kept {S:Nat→Prop} {w w':World} (k:Kept S w w') {sz:Nat} {v:Value} {rows:List (List Value)} (hb:rows=[]∨∀ g,v.ownBlock=some g→S g) (hr:IsRows w sz v rows):IsRows w' sz v rows:=by
 obtain ⟨sa,cap,h1,h2,h3,h4⟩:=hr;refine ⟨sa,cap,h1,h2,h3,?_⟩
 rcases h4 with h4 | ⟨b,off,e,h4⟩
 ·exact .inl h4
 ·rcases hb with hb | hb
  ·exact .inl hb
  ·exact .inr ⟨b,off,e,h4.kept k (hb b (by rw [h1,e];rfl))⟩
theorem zhj.kept {R S:Nat→Prop} {w w':World} {b:Nat} {h:Hall} {sv:Value} (p:zhj R w b h sv) (k:Kept S w w') (hs:∀ g,R g→S g):zhj R w' b h sv :=
 ⟨k.cell p.c0 (hs _ p.rb),k.cell p.c1 (hs _ p.rb),k.cell p.c2 (hs _ p.rb),IsRows.kept k (p.rs.imp (fun e=>by rw [e];rfl) fun q g e=>hs _ (q g e)) p.cs,p.rb,p.rs⟩
theorem zhj.ext {R:Nat→Prop} {w w':World} {b:Nat} {h:Hall} {sv:Value} (p:zhj R w b h sv) (k:Ext w w'):zhj R w' b h sv :=
 p.kept (S:=fun _=>True) (.of_below k) (fun _ _=>trivial)
theorem zhj.at {R:Nat→Prop} {w:World} {b:Nat} {h:Hall} {sv:Value} (p:zhj R w b h sv):ziq w b h sv:=⟨p.c0,p.c1,p.c2,p.cs⟩
def zcg (h:Hall) (k:Nat):List Stp:=(List.range k).flatMap (zab h)
theorem zqv (h:Hall) (k:Nat):zcg h (k+1)=zcg h k ++ zab h k:=by simp [zcg,List.range_succ,List.flatMap_append]
theorem zid {h:Hall} {k:Nat} (hk:k < h.n.toNat+h.cs.length) {j:Nat} (hj:j < 2):zcg h k ++ (zab h k).take j ++ [(zab h k)[j]'(by rw [zc1];exact hj)] <+: zgl h:=by
 have e1:(zab h k).take j ++ [(zab h k)[j]'(by rw [zc1];exact hj)]=(zab h k).take (j+1):=by
  rw [List.take_succ_eq_append_getElem (by rw [zc1];exact hj)]
 rw [List.append_assoc,e1];have e2:zgl h=zcg h k ++ (zab h k ++ ((List.range (h.n.toNat+h.cs.length - (k+1))).map (k+1 + ·)).flatMap (zab h)):=by
  have:h.n.toNat+h.cs.length=(k+1)+(h.n.toNat+h.cs.length - (k+1)):=by omega
  unfold zgl
  conv=>lhs;rw [this,List.range_add]
  rw [List.flatMap_append,← List.append_assoc,← zqv];rfl
 rw [e2];refine List.prefix_append_right_inj _ |>.2 ?_
 exact (List.take_prefix _ _).trans (List.prefix_append _ _)
theorem steps_iter (h:Hall) (sv:Value) (v:Valid h) (R:Nat→Prop) (bx sb:Nat) (w0:World) (hR:∀ k,R k→k < w0.heap.size) (rbx:R bx)
  (hbx:w0.cell? ⟨bx,0,none⟩=some (.pointer (some ⟨sb,0,none⟩))) (hh:zhj R w0 sb h sv) :
  Iter Tryz.prog 146 #[.pointer (some ⟨bx,0,none⟩)] (fun x:Stp=>#[.agg #[.bool x.win,.int .i64 x.idx,.bool x.back],.agg #[.int .i64 (src h x),.int .i64 (dst h x)]]) R (fun xs=>xs=zgl h) (fun _=>True) (fun pre x=>pre ++ [x] <+: zgl h) w0:=by
 intro n l J Jx W hW hJ hJx hY h0;have hbx1:=zf hW hbx;have hh1:=hh.ext hW;clear hbx hh;have hs0:=hW.size;have n1:=v.n1;have n10:=v.n10;have nl:=v.len;refine callsIn_of_wp Tryz.func146 rfl trivial ?_ rfl;simp only [Tryz.ntmps146,List.size_toArray,List.length_cons,List.length_nil,Nat.reduceAdd,Nat.reduceSub,Array.replicate_succ,Array.replicate_zero,List.push_toArray,List.append_toArray,List.nil_append,List.cons_append];have k0:=hh1.c0;have k2:=hh1.c2;obtain ⟨sa,cap,rfl,hl1,hl2,_⟩:=hh1.cs.spec
 gi_wp2
 gi_region
 have HH:=hid hh1;have HB:=hid hbx1;have HJ:=hid hJ;have HY:=hid hY;have V:=hid v;have HW:=hid hW;clear hh1 hbx1 k0 k2 hJ hY v hW
 gi_wp2
 gi_loopw [20] (fun i wr=>∃ (k:Nat) (O:Nat→Prop),k≤h.n.toNat+h.cs.length∧i = .int .i64 k∧J O (zcg h k) wr∧(∀ g,O g→w0.heap.size≤g)∧Kept R W wr)
  (fun i wr=>h.n.toNat+h.cs.length - (intOf i).toNat)
 case atStart=>exact ⟨0,fun _=>False,Nat.zero_le _,rfl,(HJ.out []).ext h0 (Below.refl _ _).drew,fun _ h=>h.elim,(Kept.refl _ _).drew⟩
 case round =>
  obtain ⟨k,O,hk,rfl,hj,hO,hkp⟩:=hrel;have hh:=HH.out.kept hkp (fun _ h=>h);have hbx:=hkp.cell HB.out rbx;have c0:=hh.c0;have hz:=hkp.size
  by_cases hlt:k < h.n.toNat+h.cs.length
  ·have hlt':(k:Int) < h.n+(h.cs.length:Int):=by omega
   obtain ⟨w1,rfl⟩:∃ w1:World,w1=wr:=⟨_,rfl⟩
   have HJ1:=hid hj;have HO:=hid hO;have HK:=hid hkp;have HHr:=hid hh;clear hj hO hkp hh
   by_cases hw:(k:Int) < h.n
   ·have hp:zab h k=[⟨true,k,false⟩,⟨true,k,true⟩]:=by unfold zab;rw [if_pos hw]
    have HP:=hid hp;clear hp;gi_wp2_with fail
    gi_loopw [44] (fun jv W2=>∃ (j:Nat) (O2:Nat→Prop),j≤2∧jv = .int .i64 j∧J O2 (zcg h k ++ (zab h k).take j) W2∧(∀ g,O2 g→w0.heap.size≤g)∧O2 w1.heap.size∧Kept R W W2 ∧
      W2.cell? ⟨w1.heap.size,0,none⟩=some (.bool true)∧W2.cell? ⟨w1.heap.size,1,none⟩=some (.int .i64 (k:Int))∧W2.cell? ⟨w1.heap.size,2,none⟩=some (.bool (decide (0 < j)))∧W2.frozen? ⟨w1.heap.size,2,none⟩=false)
     (fun jv _=>2 - (intOf jv).toNat)
    case atStart =>
     refine ⟨0,fun g=>O g∨g=w1.heap.size,by omega,rfl,?_,?_,.inr rfl,?_,?_,?_,?_,?_⟩
     ·simp only [List.take_zero,List.append_nil]
      first
      | exact (HJ.out _).alloc HJ1.out _
      | exact (HJ.out _).ext ((HJ.out _).alloc HJ1.out _) (Below.drew (Below.refl _ _))
     ·intro g hg
      rcases hg with hg | hg
      ·exact HO.out g hg
      ·omega
     ·first
      | exact HK.out.alloc _
      | exact (HK.out.alloc _).drew
     all_goals simp [go_sem]
    case round =>
     obtain ⟨j,O2,hj2le,rfl,hj2,hO2,hxb,hkp2,b0,b1,b2,bf⟩:=hrel;obtain rfl | rfl | rfl:j=0∨j=1∨j=2:=by omega
     ·simp only [Nat.lt_irrefl,decide_false] at b2
      have hx:(⟨true,(k:Int),false⟩:Stp)∈zab h k:=by rw [HP.out];simp
      have ok:=zin V.out hlt _ hx;have hpre:=zid hlt (j:=0) (by omega);have epre:zcg h k ++ (zab h k).take 0 ++ [(zab h k)[0]'(by rw [zc1];omega)]=zcg h k ++ (zab h k).take 0 ++ [⟨true,(k:Int),false⟩]:=by simp only [HP.out];rfl
      rw [epre] at hpre;have PRE:=hid hpre;have OK:=hid ok;have hh2:=hid (HH.out.kept hkp2 (fun _ h=>h));have hbx2:=hkp2.cell HB.out rbx;have HJ2:=hid hj2;have HO2:=hid hO2;have HX2:=hid hxb;have HK2:=hid hkp2;clear hpre ok hx hj2 hO2 hxb hkp2 epre;gi_wp2_with fail;refine ⟨trivial,fun h=>(by simp [Fence.wide] at h),(callsIn_wide.2 (zkk h _ ⟨true,(k:Int),false⟩ sb _ V.out OK.out hh2.out.at)).mono ?_⟩;rintro e W3 ⟨rfl,hE⟩;have d0:=zf hE b0;have d1:=zf hE b1;have d2:=zf hE b2;have df:=(hE.frozen (World.block_lt_of_cell? _ _ b2)).trans bf;have HJ3:=hid ((HJ.out _).ext HJ2.out hE);have HK3:=hid (HK2.out.trans (.of_below hE));clear b0 b1 b2 bf hE;obtain ⟨fn,tmps,assign,body,hy,hR⟩:=HY.out O2 _ ⟨true,(k:Int),false⟩ W3 HJ3.out PRE.out
      dsimp only at hy
      gi_wp2_with fail;refine ⟨fun h=>(by simp [Fence.wide] at h),hR.mono ?_⟩;clear hy hR;rintro e W4 (⟨rfl,hj4,hk4⟩ | ⟨rfl,hj4⟩)
      ·have b0:=hk4.cell d0 (.inr HX2.out)
       have b1:=hk4.cell d1 (.inr HX2.out);have b2:=hk4.cell d2 (.inr HX2.out);have bf:=(hk4.frozen (World.block_lt_of_cell? _ _ d2) (.inr HX2.out)).trans df;have hk5:Kept R W W4:=HK3.out.trans (hk4.mono fun _ _ h=>.inl h);have HJ4:=hid hj4;have HK5:=hid hk5;have hz4:=hk4.size;have hl4:=World.block_lt_of_cell? _ _ b2;clear d0 d1 d2 df hj4 hk4 hk5
       gi_wp2
       go_roundw
       case rel =>
        refine ⟨0+1,O2,by omega,by go_num,?_,HO2.out,HX2.out,?_,?_,?_,?_,?_⟩
        ·have e:zcg h k ++ (zab h k).take (0+1)=zcg h k ++ (zab h k).take 0 ++ [⟨true,(k:Int),false⟩]:=by rw [HP.out];simp
         rw [e];exact (HJ.out _).setCell HJ4.out HX2.out _
        ·exact HK5.out.setCell (fun hl hr=>by have:=hR _ hr;have:=HO2.out _ HX2.out;simp at *;omega) _
        all_goals simp [go_sem,b0,b1,b2,bf]
       case measure=>simp [intOf]
      ·gi_wp2
       refine bodyPost_ret (results_none rfl _ _ _) rfl ?_
       exact ⟨⟨_,rfl⟩,.inr ⟨O2,_,trivial,hj4⟩⟩
     ·simp only [Nat.lt_add_one,decide_true] at b2
      have hx:(⟨true,(k:Int),true⟩:Stp)∈zab h k:=by rw [HP.out];simp
      have ok:=zin V.out hlt _ hx;have hpre:=zid hlt (j:=1) (by omega);have epre:zcg h k ++ (zab h k).take 1 ++ [(zab h k)[1]'(by rw [zc1];omega)]=zcg h k ++ (zab h k).take 1 ++ [⟨true,(k:Int),true⟩]:=by simp only [HP.out];rfl
      rw [epre] at hpre;have PRE:=hid hpre;have OK:=hid ok;have hh2:=hid (HH.out.kept hkp2 (fun _ h=>h));have hbx2:=hkp2.cell HB.out rbx;have HJ2:=hid hj2;have HO2:=hid hO2;have HX2:=hid hxb;have HK2:=hid hkp2;clear hpre ok hx hj2 hO2 hxb hkp2 epre;gi_wp2_with fail;refine ⟨trivial,fun h=>(by simp [Fence.wide] at h),(callsIn_wide.2 (zkk h _ ⟨true,(k:Int),true⟩ sb _ V.out OK.out hh2.out.at)).mono ?_⟩;rintro e W3 ⟨rfl,hE⟩;have d0:=zf hE b0;have d1:=zf hE b1;have d2:=zf hE b2;have df:=(hE.frozen (World.block_lt_of_cell? _ _ b2)).trans bf;have HJ3:=hid ((HJ.out _).ext HJ2.out hE);have HK3:=hid (HK2.out.trans (.of_below hE));clear b0 b1 b2 bf hE;obtain ⟨fn,tmps,assign,body,hy,hR⟩:=HY.out O2 _ ⟨true,(k:Int),true⟩ W3 HJ3.out PRE.out
      dsimp only at hy
      gi_wp2_with fail;refine ⟨fun h=>(by simp [Fence.wide] at h),hR.mono ?_⟩;clear hy hR;rintro e W4 (⟨rfl,hj4,hk4⟩ | ⟨rfl,hj4⟩)
      ·have b0:=hk4.cell d0 (.inr HX2.out)
       have b1:=hk4.cell d1 (.inr HX2.out);have b2:=hk4.cell d2 (.inr HX2.out);have bf:=(hk4.frozen (World.block_lt_of_cell? _ _ d2) (.inr HX2.out)).trans df;have hk5:Kept R W W4:=HK3.out.trans (hk4.mono fun _ _ h=>.inl h);have HJ4:=hid hj4;have HK5:=hid hk5;have hz4:=hk4.size;have hl4:=World.block_lt_of_cell? _ _ b2;clear d0 d1 d2 df hj4 hk4 hk5
       gi_wp2
       go_roundw
       case rel =>
        refine ⟨1+1,O2,by omega,by go_num,?_,HO2.out,HX2.out,?_,?_,?_,?_,?_⟩
        ·have e:zcg h k ++ (zab h k).take (1+1)=zcg h k ++ (zab h k).take 1 ++ [⟨true,(k:Int),true⟩]:=by rw [HP.out];simp
         rw [e];exact (HJ.out _).setCell HJ4.out HX2.out _
        ·exact HK5.out.setCell (fun hl hr=>by have:=hR _ hr;have:=HO2.out _ HX2.out;simp at *;omega) _
        all_goals simp [go_sem,b0,b1,b2,bf]
       case measure=>simp [intOf]
      ·gi_wp2
       refine bodyPost_ret (results_none rfl _ _ _) rfl ?_
       exact ⟨⟨_,rfl⟩,.inr ⟨O2,_,trivial,hj4⟩⟩
     ·have e2:zcg h (k+1)=zcg h k ++ (zab h k).take 2:=by rw [zqv,List.take_of_length_le (by rw [zc1];omega)]
      have HJ2:=hid hj2;have HO2:=hid hO2;have HK2:=hid hkp2;have HE:=hid e2;clear hj2 hO2 hkp2 e2 b0 b1 b2 bf hxb
      gi_wp2
      go_roundw
      case rel=>exact ⟨k+1,O2,by omega,by go_num,by rw [HE.out];exact HJ2.out,HO2.out,HK2.out⟩
      case measure=>simp [intOf];omega
   ·have hp:zab h k=[⟨false,(k:Int) - h.n,false⟩,⟨false,(k:Int) - h.n,true⟩]:=by unfold zab;rw [if_neg hw]
    have HP:=hid hp;clear hp;have hbl:=World.block_lt_of_cell? _ _ hbx;have hsl:=World.block_lt_of_cell? _ _ c0;simp only at hbl hsl;gi_wp2_with fail
    gi_region
    gi_wp2_with fail
    gi_loopw [44] (fun jv W2=>∃ (j:Nat) (O2:Nat→Prop),j≤2∧jv = .int .i64 j∧J O2 (zcg h k ++ (zab h k).take j) W2∧(∀ g,O2 g→w0.heap.size≤g)∧O2 w1.heap.size∧Kept R W W2 ∧
      W2.cell? ⟨w1.heap.size,0,none⟩=some (.bool false)∧W2.cell? ⟨w1.heap.size,1,none⟩=some (.int .i64 ((k:Int) - h.n))∧W2.cell? ⟨w1.heap.size,2,none⟩=some (.bool (decide (0 < j)))∧W2.frozen? ⟨w1.heap.size,2,none⟩=false)
     (fun jv _=>2 - (intOf jv).toNat)
    case atStart =>
     refine ⟨0,fun g=>O g∨g=w1.heap.size,by omega,rfl,?_,?_,.inr rfl,?_,?_,?_,?_,?_⟩
     ·simp only [List.take_zero,List.append_nil]
      first
      | exact (HJ.out _).alloc HJ1.out _
      | exact (HJ.out _).ext ((HJ.out _).alloc HJ1.out _) (Below.drew (Below.refl _ _))
     ·intro g hg
      rcases hg with hg | hg
      ·exact HO.out g hg
      ·omega
     ·first
      | exact HK.out.alloc _
      | exact (HK.out.alloc _).drew
     all_goals simp [go_sem]
    case round =>
     obtain ⟨j,O2,hj2le,rfl,hj2,hO2,hxb,hkp2,b0,b1,b2,bf⟩:=hrel;obtain rfl | rfl | rfl:j=0∨j=1∨j=2:=by omega
     ·simp only [Nat.lt_irrefl,decide_false] at b2
      have hx:(⟨false,((k:Int) - h.n),false⟩:Stp)∈zab h k:=by rw [HP.out];simp
      have ok:=zin V.out hlt _ hx;have hpre:=zid hlt (j:=0) (by omega);have epre:zcg h k ++ (zab h k).take 0 ++ [(zab h k)[0]'(by rw [zc1];omega)]=zcg h k ++ (zab h k).take 0 ++ [⟨false,((k:Int) - h.n),false⟩]:=by simp only [HP.out];rfl
      rw [epre] at hpre;have PRE:=hid hpre;have OK:=hid ok;have hh2:=hid (HH.out.kept hkp2 (fun _ h=>h));have hbx2:=hkp2.cell HB.out rbx;have HJ2:=hid hj2;have HO2:=hid hO2;have HX2:=hid hxb;have HK2:=hid hkp2;clear hpre ok hx hj2 hO2 hxb hkp2 epre;gi_wp2_with fail;refine ⟨trivial,fun h=>(by simp [Fence.wide] at h),(callsIn_wide.2 (zkk h _ ⟨false,((k:Int) - h.n),false⟩ sb _ V.out OK.out hh2.out.at)).mono ?_⟩;rintro e W3 ⟨rfl,hE⟩;have d0:=zf hE b0;have d1:=zf hE b1;have d2:=zf hE b2;have df:=(hE.frozen (World.block_lt_of_cell? _ _ b2)).trans bf;have HJ3:=hid ((HJ.out _).ext HJ2.out hE);have HK3:=hid (HK2.out.trans (.of_below hE));clear b0 b1 b2 bf hE;obtain ⟨fn,tmps,assign,body,hy,hR⟩:=HY.out O2 _ ⟨false,((k:Int) - h.n),false⟩ W3 HJ3.out PRE.out
      dsimp only at hy
      gi_wp2_with fail;refine ⟨fun h=>(by simp [Fence.wide] at h),hR.mono ?_⟩;clear hy hR;rintro e W4 (⟨rfl,hj4,hk4⟩ | ⟨rfl,hj4⟩)
      ·have b0:=hk4.cell d0 (.inr HX2.out)
       have b1:=hk4.cell d1 (.inr HX2.out);have b2:=hk4.cell d2 (.inr HX2.out);have bf:=(hk4.frozen (World.block_lt_of_cell? _ _ d2) (.inr HX2.out)).trans df;have hk5:Kept R W W4:=HK3.out.trans (hk4.mono fun _ _ h=>.inl h);have HJ4:=hid hj4;have HK5:=hid hk5;have hz4:=hk4.size;have hl4:=World.block_lt_of_cell? _ _ b2;clear d0 d1 d2 df hj4 hk4 hk5
       gi_wp2
       go_roundw
       case rel =>
        refine ⟨0+1,O2,by omega,by go_num,?_,HO2.out,HX2.out,?_,?_,?_,?_,?_⟩
        ·have e:zcg h k ++ (zab h k).take (0+1)=zcg h k ++ (zab h k).take 0 ++ [⟨false,((k:Int) - h.n),false⟩]:=by rw [HP.out];simp
         rw [e];exact (HJ.out _).setCell HJ4.out HX2.out _
        ·exact HK5.out.setCell (fun hl hr=>by have:=hR _ hr;have:=HO2.out _ HX2.out;simp at *;omega) _
        all_goals simp [go_sem,b0,b1,b2,bf]
       case measure=>simp [intOf]
      ·gi_wp2
       refine bodyPost_ret (results_none rfl _ _ _) rfl ?_
       exact ⟨⟨_,rfl⟩,.inr ⟨O2,_,trivial,hj4⟩⟩
     ·simp only [Nat.lt_add_one,decide_true] at b2
      have hx:(⟨false,((k:Int) - h.n),true⟩:Stp)∈zab h k:=by rw [HP.out];simp
      have ok:=zin V.out hlt _ hx;have hpre:=zid hlt (j:=1) (by omega);have epre:zcg h k ++ (zab h k).take 1 ++ [(zab h k)[1]'(by rw [zc1];omega)]=zcg h k ++ (zab h k).take 1 ++ [⟨false,((k:Int) - h.n),true⟩]:=by simp only [HP.out];rfl
      rw [epre] at hpre;have PRE:=hid hpre;have OK:=hid ok;have hh2:=hid (HH.out.kept hkp2 (fun _ h=>h));have hbx2:=hkp2.cell HB.out rbx;have HJ2:=hid hj2;have HO2:=hid hO2;have HX2:=hid hxb;have HK2:=hid hkp2;clear hpre ok hx hj2 hO2 hxb hkp2 epre;gi_wp2_with fail;refine ⟨trivial,fun h=>(by simp [Fence.wide] at h),(callsIn_wide.2 (zkk h _ ⟨false,((k:Int) - h.n),true⟩ sb _ V.out OK.out hh2.out.at)).mono ?_⟩;rintro e W3 ⟨rfl,hE⟩;have d0:=zf hE b0;have d1:=zf hE b1;have d2:=zf hE b2;have df:=(hE.frozen (World.block_lt_of_cell? _ _ b2)).trans bf;have HJ3:=hid ((HJ.out _).ext HJ2.out hE);have HK3:=hid (HK2.out.trans (.of_below hE));clear b0 b1 b2 bf hE;obtain ⟨fn,tmps,assign,body,hy,hR⟩:=HY.out O2 _ ⟨false,((k:Int) - h.n),true⟩ W3 HJ3.out PRE.out
      dsimp only at hy
      gi_wp2_with fail;refine ⟨fun h=>(by simp [Fence.wide] at h),hR.mono ?_⟩;clear hy hR;rintro e W4 (⟨rfl,hj4,hk4⟩ | ⟨rfl,hj4⟩)
      ·have b0:=hk4.cell d0 (.inr HX2.out)
       have b1:=hk4.cell d1 (.inr HX2.out);have b2:=hk4.cell d2 (.inr HX2.out);have bf:=(hk4.frozen (World.block_lt_of_cell? _ _ d2) (.inr HX2.out)).trans df;have hk5:Kept R W W4:=HK3.out.trans (hk4.mono fun _ _ h=>.inl h);have HJ4:=hid hj4;have HK5:=hid hk5;have hz4:=hk4.size;have hl4:=World.block_lt_of_cell? _ _ b2;clear d0 d1 d2 df hj4 hk4 hk5
       gi_wp2
       go_roundw
       case rel =>
        refine ⟨1+1,O2,by omega,by go_num,?_,HO2.out,HX2.out,?_,?_,?_,?_,?_⟩
        ·have e:zcg h k ++ (zab h k).take (1+1)=zcg h k ++ (zab h k).take 1 ++ [⟨false,((k:Int) - h.n),true⟩]:=by rw [HP.out];simp
         rw [e];exact (HJ.out _).setCell HJ4.out HX2.out _
        ·exact HK5.out.setCell (fun hl hr=>by have:=hR _ hr;have:=HO2.out _ HX2.out;simp at *;omega) _
        all_goals simp [go_sem,b0,b1,b2,bf]
       case measure=>simp [intOf]
      ·gi_wp2
       refine bodyPost_ret (results_none rfl _ _ _) rfl ?_
       exact ⟨⟨_,rfl⟩,.inr ⟨O2,_,trivial,hj4⟩⟩
     ·have e2:zcg h (k+1)=zcg h k ++ (zab h k).take 2:=by rw [zqv,List.take_of_length_le (by rw [zc1];omega)]
      have HJ2:=hid hj2;have HO2:=hid hO2;have HK2:=hid hkp2;have HE:=hid e2;clear hj2 hO2 hkp2 e2 b0 b1 b2 bf hxb
      gi_wp2
      go_roundw
      case rel=>exact ⟨k+1,O2,by omega,by go_num,by rw [HE.out];exact HJ2.out,HO2.out,HK2.out⟩
      case measure=>simp [intOf];omega
  ·gi_wp2
   go_end0
   have e:k=h.n.toNat+h.cs.length:=by omega
   subst e;exact ⟨⟨_,rfl⟩,.inl ⟨O,_,rfl,hj⟩⟩
end Go.Proofs.YtnoffnkmibjndaaGreat.Cu
namespace Go.Proofs.YtnoffnkmibjndaaGreat.Cu
open Go.Lib (hid)
open Go.RowKit Go.Shelf
section
variable {K V:Type} [DecidableEq K]
variable {P:Program} {tm tk tv:TypeId} {ke:K→Value} {ve:V→Value} (hk:Keyed P tm tk tv ke ve)
include hk
end
end Go.Proofs.YtnoffnkmibjndaaGreat.Cu
namespace Go.Proofs.YtnoffnkmibjndaaGreat.Cu
open Go.Lib (hid)
open Go.RowKit Go.Shelf
def kv (k:Int × Int):Value:=.agg #[.int .i64 k.1,.int .i64 k.2]
def av (a:Stp × Int):Value:=.agg #[.bool a.1.win,.int .i64 a.1.idx,.bool a.1.back,.int .i64 a.2]
theorem z6h (a b:Int × Int) (w:World):(Op.equal 106 (kv a) (kv b)).run Tryz.prog w = .ok (decide (a=b)) w:=by
 obtain ⟨a1,a2⟩:=a;obtain ⟨b1,b2⟩:=b;have h:(Op.equal 106 (kv (a1,a2)) (kv (b1,b2))).run Tryz.prog w = .ok (a1 == b1 && a2 == b2) w:=by
  simp only [Op.equal,Op.maxDepth,kv];rw [run_equalIn_struct w 9999 106 _ _ (by kernel_rfl) (by kernel_rfl)]
  have hf : (Tryz.prog.fieldsOf 106).toList = [⟨"from", 3, 0, false, "", "quinella/cut", 0⟩, ⟨"to", 3, 1, false, "", "quinella/cut", 8⟩] := by kernel_rfl
  rw [hf]
  by_cases e1:a1=b1<;>by_cases e2:a2=b2<;>simp [go_sem,e1,e2]
 rw [h];have e:(a1 == b1 && a2 == b2)=decide ((a1,a2)=(b1,b2)):=by rw [Bool.eq_iff_iff];simp
 rw [e]
theorem z3u (b:Bool) (k:Int × Int) (w:World) (n:Nat):(Instr.checkKey b (n+2) 106 (kv k)).run Tryz.prog w = .ok () w:=by
 have h3:∀ x w,(Instr.checkKey b (n+1) 3 (.int .i64 x)).run Tryz.prog w = .ok () w:=fun x w=>by
  rw [Instr.checkKey];simp [go_sem]
 rw [Instr.checkKey];simp only [kv,Sem.run_bind,Tryz.runUnderlying106,Result.andThen_ok];simp [go_sem,h3]
theorem z6i (b:Bool) (k:Int × Int) (w:World):(Instr.checkKey b 10000 106 (kv k)).run Tryz.prog w = .ok () w:=z3u b k w 9998
theorem z8y (k:Int × Int) (l:zai (Int × Int) (Stp × Int)) (w:World):(Instr.findKey 106 (kv k) (l.map (zax kv av))).run Tryz.prog w = .ok (zbm av k l 0) w:=by
 have h:∀ (l:zai (Int × Int) (Stp × Int)) (i:Nat),(Instr.findAsking 106 (kv k) (l.map (zax kv av)) i).run Tryz.prog w = .ok (zbm av k l i) w:=by
  intro l
  induction l with
  | nil=>intro i;rfl
  | cons e l ih =>
   intro i;simp only [List.map_cons,Instr.findAsking,zbm,zax,Sem.run_bind,z6h,Result.andThen_ok]
   by_cases hk:e.1=k
   ·subst hk;simp
   ·have:¬ k=e.1:=fun h=>hk h.symm
    simp only [hk,this,decide_false,Bool.false_eq_true,if_false];exact ih (i+1)
 cases l with
 | nil=>simp [Instr.findKey,go_sem,Instr.findNow,zbm]
 | cons e l =>
  have:=h (e :: l) 0;simp only [Instr.findKey,Sem.run_bind,Tryz.runUnderlying106,Result.andThen_ok,List.map_cons,Instr.findNow,zax,kv,Instr.sameNow] at this ⊢;exact this
theorem zem:Keyed Tryz.prog 99 106 103 kv av where
 und:=by kernel_rfl
 chk:=z6i
 find:=z8y
 stay:=fun k=>by
  have:∀ n:Nat,Instr.sameBits (n+2) (kv k) (kv k)=true:=fun n=>by simp [Instr.sameBits,kv]
  exact this 9998
end Go.Proofs.YtnoffnkmibjndaaGreat.Cu
