/-
  Plain: the statement on counted tickets: a valid day is a machine; each window's span has what a truth says; three lists that lie in one array.
-/
import Derived.Test.YtnoffnkmibjndaaGreatTd
import Derived.Test.YtnoffnkmibjndaaGreatTe
import Derived.Test.YtnoffnkmibjndaaGreatCc
import Derived.Test.YtnoffnkmibjndaaGreatBb
set_option maxRecDepth 200000
set_option maxHeartbeats 0
set_option linter.unusedSimpArgs false
set_option linter.unusedVariables false
namespace Go.Proofs.YtnoffnkmibjndaaGreat
open Go.RowKit Go.Shelf
theorem zt5:∀ {l:List Int},(∀ x∈l,0≤x)→l=zat (l.map Int.toNat)
 | [],_=>rfl
 | x :: l,h=>by
  have ih:=zt5 (l:=l) fun y hy=>h y (List.mem_cons_of_mem _ hy)
  have hx:=h x (List.mem_cons_self ..);simp only [zat,List.map_cons,List.map_map] at ih ⊢;rw [← ih]
  congr 1
  omega
theorem zabi {L n rest:Int} {ks:List Int} (D:z1d L n ks rest) (bs:List Nat):∃ M:zj,zal M∧(∀ i,i < M.n→1≤M.ss.getD i 0)∧L=(M.L:Int)∧n=(M.n:Int)∧ks=zat M.ks∧rest=(M.rest:Int)∧M.ss=zde M bs M.n:=by
 have hk:=zt5 (l:=ks) fun x hx=>(D.kx x hx).1
 have h1:=D.l6;have h2:=D.n8;have h3:=D.rs;have h4:=D.kl;have V:zal (opM ⟨L.toNat,n.toNat,ks.map Int.toNat,rest.toNat,[]⟩):=by
  refine ⟨?_,?_,?_,?_,fun i hi=>?_,fun i hi=>?_,?_⟩
  ·show 2≤L.toNat∧L.toNat≤6
   omega
  ·show 2≤n.toNat∧n.toNat≤8
   omega
  ·show (ks.map Int.toNat).length=n.toNat
   rw [List.length_map];omega
  ·simp [opM]
  ·show (ks.map Int.toNat).getD i 0 < L.toNat
   have hi':i < ks.length:=by
    have:i < n.toNat:=hi;omega
   rw [List.getD_eq_getElem?_getD,List.getElem?_map,List.getElem?_eq_getElem hi'];have:=D.kx _ (List.getElem_mem hi');simp only [Option.map_some,Option.getD_some];omega
  ·rw [z08 _ (show i < n.toNat from hi)]
   show 2 ^ L.toNat - 1 < 2 ^ L.toNat;have:1≤2 ^ L.toNat:=Nat.one_le_two_pow;omega
  ·show rest.toNat < L.toNat
   omega
 refine ⟨zr1 _ bs,zady V bs,z8s V bs,?_,?_,hk,?_,rfl⟩
 ·show L=(L.toNat:Int)
  omega
 ·show n=(n.toNat:Int)
  omega
 ·show rest=(rest.toNat:Int)
  omega
theorem zt6 {h:Cu.Hall} (v:Cu.Valid h) (g:(Cu.leastM h 0).2=true) {t:List Int} (i:Cu.IsTruth h t) {w:Nat} (hw:(w:Int) < h.n) :
  Cu.spanE h w w=0∧0≤Cu.spanLo h w w∧Cu.spanHi h w w≤h.most∧Cu.spanLo h w w≤t.getD w 0∧t.getD w 0≤Cu.spanHi h w w:=by
 have ga:=(Cu.agr_iff v).1 g;have hn:h.n.toNat≤10:=by have:=v.n10;omega
 have p1:((w+1:Nat):Int)≤h.n:=by omega
 have p0:(w:Int)≤h.n:=by omega
 rw [Cu.spanLo_agr v g (Nat.le_refl w) hw,Cu.spanHi_agr v g (Nat.le_refl w) hw,Cu.spanE_agr v (Nat.le_refl w) hw,if_pos g];have q1:=Cu.pot_win (Cu.ds_pot v ga p1) hw;have q2:=Cu.pot_win (Cu.ds_pot v ga p0) hw;have s1:=Cu.ds_self v ga p1;have s0:=Cu.ds_self v ga p0;have pt:=Cu.pot_of_truth v i;have l1:=Cu.ds_le v ga pt p0 p1;have l2:=Cu.ds_le v ga pt p1 p0;have hl:w < t.length:=by have:=i.len;omega
 have hs:=Cu.pre_succ hl;have ht:t.getD w 0=t[w]:=by rw [List.getD_eq_getElem?_getD,List.getElem?_eq_getElem hl];rfl
 rw [ht];refine ⟨rfl,?_,?_,?_,?_⟩<;>omega
theorem z6m {h h':Cu.Hall} (v:Cu.Valid h) {E:Int} (hE:0≤E) (h1:h'.n=h.n) (h2:h'.most=min h.most E) (h3:h'.cs=h.cs):Cu.Valid h':=by
 refine ⟨h1 ▸ v.n1,h1 ▸ v.n10,h3 ▸ v.len,?_,?_,fun c hc=>?_⟩
 ·rw [h2];have:=v.m0;omega
 ·rw [h2];have:=v.m1;omega
 ·rw [h1];exact v.cs c (h3 ▸ hc)
theorem z81 {h:Cu.Hall} (v:Cu.Valid h):(Cu.truthErr h=0∧(Cu.leastM h 0).2=true∧Cu.IsTruth h (Cu.truthL h))∨Cu.truthErr h=5:=by
 have e:Cu.truthErr h=if (Cu.leastM h 0).2 then 0 else 5:=by
  unfold Cu.truthErr;rw [if_neg (fun hh=>hh (Cu.chk_of_valid v))]
 cases hl:(Cu.leastM h 0).2 with
 | true =>
  rw [hl] at e;exact .inl ⟨e,rfl,(Cu.truthE_iff.1 (Cu.truthL_ok e)).2⟩
 | false =>
  rw [hl] at e;exact .inr e
def zvi (a b c:Int) (j:Nat):Int:=if j=0 then a else if j=1 then b else c
def ze6 (h:Cu.Hall) (t:List Int) (w j:Nat):Int:=zvi (Cu.spanLo h w w) (t.getD w 0) (Cu.spanHi h w w) j
def manyN (h:Cu.Hall) (t:List Int) (j w:Nat):Nat:=(ze6 h t w j).toNat
structure zr3 (h:Cu.Hall) (t:List Int) (E:Nat) (M:zj):Prop where
 each:∀ w:Nat,(w:Int) < h.n→∀ j,j < 3→0≤ze6 h t w j∧ze6 h t w j≤E
 mono:∀ w:Nat,(w:Int) < h.n→∀ j,j+1 < 3→ze6 h t w j≤ze6 h t w (j+1)
 n1:1≤h.n
 n10:h.n≤10
 cap:h.n.toNat * E≤cnt (opM M) ts0
theorem zagn {h:Cu.Hall} (v:Cu.Valid h) (g:(Cu.leastM h 0).2=true) {t:List Int} (i:Cu.IsTruth h t) {E:Nat} {M:zj} (hm:h.most≤E) (hc:h.n.toNat * E≤cnt (opM M) ts0):zr3 h t E M:=by
 refine ⟨fun w hw j hj=>?_,fun w hw j hj=>?_,v.n1,v.n10,hc⟩
 ·obtain ⟨-,h1,h2,h3,h4⟩:=zt6 v g i hw
  unfold ze6 zvi;generalize Cu.spanLo h w w=a at *;generalize t.getD w 0=b at *;generalize Cu.spanHi h w w=c at *
  match j,hj with
  | 0,_=>simp;omega
  | 1,_=>simp;omega
  | 2,_=>simp;omega
 ·obtain ⟨-,h1,h2,h3,h4⟩:=zt6 v g i hw
  unfold ze6 zvi;generalize Cu.spanLo h w w=a at *;generalize t.getD w 0=b at *;generalize Cu.spanHi h w w=c at *
  match j,hj with
  | 0,_=>simp;omega
  | 1,_=>simp;omega
  | j+2,hj=>omega
def zc2 (h:Cu.Hall) (t:List Int) (E j k:Nat):List (Nat × Nat):=zel E (manyN h t j) k
noncomputable def z0l (h:Cu.Hall) (t:List Int) (E:Nat) (M:zj) (j:Nat):Nat:=zlg M (zc2 h t E j h.n.toNat)
theorem z4q {h:Cu.Hall} {t:List Int} {E:Nat} {M:zj} (H:zr3 h t E M) {j:Nat} (hj:j < 3):zic (cnt (opM M) ts0) (zc2 h t E j h.n.toNat):=by
 have:=H.n10;exact (z1a h.n.toNat (by omega) (fun w hw=>by have:=(H.each w (by omega) j hj).2;unfold manyN;omega) H.cap).1
theorem z82 {h:Cu.Hall} {t:List Int} {E:Nat} {M:zj} (H:zr3 h t E M) {j k:Nat} (hj:j < 3) (hk:k≤h.n.toNat):(zc2 h t E j k).length≤k:=by
 have:=H.n10;refine (z1a (all:=cnt (opM M) ts0) k (by omega) (fun w hw=>by have:=(H.each w (by omega) j hj).2;unfold manyN;omega) ?_).2.1;exact Nat.le_trans (Nat.mul_le_mul_right _ hk) H.cap
theorem zvj {h:Cu.Hall} {t:List Int} {E:Nat} {M:zj} (V:zal M) (H:zr3 h t E M) {j:Nat} (hj:j+1 < 3):z0l h t E M j≤z0l h t E M (j+1):=by
 refine zym V h.n.toNat (fun w hw=>⟨?_,?_⟩) H.cap
 ·have:=H.mono w (by omega) j hj
  unfold manyN;omega
 ·have:=(H.each w (by omega) (j+1) hj).2
  unfold manyN;omega
noncomputable def zr4 (h:Cu.Hall) (t:List Int) (E:Nat) (M:zj):Nat→Int
 | 0=>0
 | j+1=>zjj (cnt M ts0) (z0l h t E M j)
noncomputable def zr5 (h:Cu.Hall) (t:List Int) (E:Nat) (M:zj):Nat→Nat
 | 0=>0
 | j+1=>z0l h t E M j
theorem zabj {h:Cu.Hall} {t:List Int} {E:Nat} {M:zj} (V:zal M) (H:zr3 h t E M) {j:Nat} (hj:j < 3):zr4 h t E M j≤zr4 h t E M (j+1):=by
 match j,hj with
 | 0,_=>exact zaa6 _ _
 | j+1,hj=>exact z8o (zvj V H hj)
theorem zabk {h:Cu.Hall} {t:List Int} {E:Nat} {M:zj} (V:zal M) (H:zr3 h t E M) {j:Nat} (hj:j < 3):zr5 h t E M j≤zr5 h t E M (j+1):=by
 match j,hj with
 | 0,_=>exact Nat.zero_le _
 | j+1,hj=>exact zvj V H hj
theorem z6n (h:Cu.Hall) (t:List Int) (E j k:Nat):zc2 h t E j (k+1)=zc2 h t E j k ++ if 0 < ze6 h t k j then [(k * E,k * E+(ze6 h t k j).toNat - 1)] else []:=by
 unfold zc2;rw [zel]
 congr 1
 unfold manyN
 by_cases e:0 < ze6 h t k j
 ·rw [if_pos e,if_pos (by omega)]
 ·rw [if_neg e,if_neg (by omega)]
theorem zafg {n c:Nat}:n * (c / n)≤c:=by
 rw [Nat.mul_comm];exact Nat.div_mul_le_self c n
structure zen (W0 W:World) (P:Nat) (vs:Nat→Value) (ls:Nat→List (Nat × Nat)):Prop where
 at0:W0.heap.size=P
 blk:∃ cur:Array Value,W.heap[P]? = some (.cells cur 40 (0,0))∧cur.size=3∧∀ j,j < 3→cur[j]? = some (vs j)
 own:∀ j,j < 3→zu W P 42 2 (vs j) ((ls j).map zcs)
 far:∀ i j,i < 3→j < 3→i≠j→∀ g,(vs i).ownBlock=some g→(vs j).ownBlock≠some g
 k:Ext W0 W
section
variable {W0 W:World} {P:Nat} {vs:Nat→Value} {ls:Nat→List (Nat × Nat)} (h:zen W0 W P vs ls)
include h
theorem zen.lt:P < W.heap.size:=by
 obtain ⟨cur,h1,_⟩:=h.blk;exact (Array.getElem?_eq_some_iff.1 h1).1
theorem zen.cell (j:Nat) (hj:j < 3):W.cell? ⟨P,j,none⟩=some (vs j):=by
 obtain ⟨cur,h1,_,h2⟩:=h.blk;rw [cell_of_row _ _ _ _ _ _ h1];exact h2 j hj
theorem zen.free (o:Nat):W.frozen? ⟨P,o,none⟩=false:=by
 obtain ⟨cur,h1,_⟩:=h.blk;simp [World.frozen?,h1]
theorem zen.ext {W':World} (e:Ext W W'):zen W0 W' P vs ls:=by
 obtain ⟨cur,h1,h2⟩:=h.blk;exact ⟨h.at0,⟨cur,(e.block P h.lt).trans h1,h2⟩,fun j hj=>(h.own j hj).ext e,h.far,Ext.trans' h.k e⟩
theorem zen.other {j:Nat} (hj:j < 3):(vs j).ownBlock≠some P:=by
 intro e;obtain ⟨cur,h1,_⟩:=h.blk
 rcases (h.own j hj).1.2 with ⟨a,_⟩ | ⟨g,cap,cur',hv,hb,hg,hr⟩
 ·rw [a] at e;cases e
 ·rw [hv] at e
  cases e;rw [hg] at h1;have:=(Obj.cells.inj (Option.some.inj h1)).2.1;exact absurd this (by decide)
theorem zen.put {W1:World} {j:Nat} (hj:j < 3) {v':Value} {l:List (Nat × Nat)} (ho:zu W1 P 42 2 v' (l.map zcs))
  (hk:Kept (fun k=>some k≠(vs j).ownBlock) W W1) (hat:∀ g,v'.ownBlock=some g→(vs j).ownBlock=some g∨W.heap.size≤g):zen W0 (W1.setCell ⟨P,j,none⟩ v') P (upd vs j v') (upd ls j l):=by
 obtain ⟨cur,h1,h2,h3⟩:=h.blk;have hg1:W1.heap[P]? = some (.cells cur 40 (0,0)):=(hk.same P h.lt (fun e=>h.other hj e.symm)).trans h1;refine ⟨h.at0,⟨cur.setIfInBounds j v',zx hg1 _ _,by simpa using h2,fun i hi=>?_⟩,fun i hi=>?_,fun i k hi hk' hne g=>?_,?_⟩
 ·unfold upd
  by_cases e:i=j
  ·subst e;rw [if_pos rfl,zha _ (by omega)]
  ·rw [if_neg e,zac _ (fun e'=>e e'.symm),h3 i hi]
 ·unfold upd
  by_cases e:i=j
  ·subst e;rw [if_pos rfl,if_pos rfl];exact ho.setOther hg1 (by decide) _ _
  ·rw [if_neg e,if_neg e]
   exact ((h.own i hi).keptAt hk fun g _ _ hg _ e'=>h.far i j hi hj e g hg e'.symm).setOther hg1 (by decide) _ _
 ·unfold upd
  by_cases e:i=j
  ·subst e
   rw [if_pos rfl,if_neg (fun e=>hne e.symm)];intro hg hg2
   rcases hat g hg with h5 | h5
   ·exact h.far i k hi hk' hne g h5 hg2
   ·have:=((h.own k hk').notOwn g hg2).2;omega
  ·rw [if_neg e]
   by_cases e2:k=j
   ·subst e2
    rw [if_pos rfl];intro hg hg2
    rcases hat g hg2 with h5 | h5
    ·exact h.far i k hi hk' hne g hg h5
    ·have:=((h.own i hi).notOwn g hg).2;omega
   ·rw [if_neg e2]
    exact h.far i k hi hk' hne g
 ·have hlow:∀ q,q < P→some q≠(vs j).ownBlock:=fun q hq e=>by have:=((h.own j hj).notOwn q e.symm).1;omega
  have a0:=h.at0;have hk2:Kept (fun k=>k≠P) W1 (W1.setCell ⟨P,j,none⟩ v'):=(Kept.refl _ W1).setCell (fun _ h=>h rfl) _;have hk3:=(hk.mono (T:=fun q=>q < P) fun q _ hq=>hlow q hq).trans (hk2.mono (T:=fun q=>q < P) fun q _ hq=>by omega);exact h.k.trans (Kept.below (hk3.mono (T:=fun k=>k < W0.heap.size) fun k _ hk=>by omega) h.k.size)
theorem zen.keeps {W1:World} {j:Nat} (hj:j < 3) {v' mv:Value} {ms:List Int} (hm:zu W P 2 1 mv (ms.map zb0)) (hf:∀ j,j < 3→∀ g,mv.ownBlock=some g→(vs j).ownBlock≠some g)
  (hk:Kept (fun k=>some k≠(vs j).ownBlock) W W1) (hat:∀ g,v'.ownBlock=some g→(vs j).ownBlock=some g∨W.heap.size≤g):zu (W1.setCell ⟨P,j,none⟩ v') P 2 1 mv (ms.map zb0)∧∀ i,i < 3→∀ g,mv.ownBlock=some g→(upd vs j v' i).ownBlock≠some g:=by
 obtain ⟨cur,h1,h2,h3⟩:=h.blk;have hg1:W1.heap[P]? = some (.cells cur 40 (0,0)):=(hk.same P h.lt (fun e=>h.other hj e.symm)).trans h1;refine ⟨(hm.keptAt hk fun g _ _ hg _ e'=>hf j hj g hg e'.symm).setOther hg1 (by decide) _ _,fun i hi g hg hg2=>?_⟩;unfold upd at hg2
 by_cases e:i=j
 ·subst e
  rw [if_pos rfl] at hg2
  rcases hat g hg2 with h5 | h5
  ·exact hf i hi g hg h5
  ·have:=(hm.notOwn g hg).2;omega
 ·rw [if_neg e] at hg2
  exact hf i hi g hg hg2
end
theorem zabl {W0 W:World} (hz:W=W0.alloc (.cells #[.slice none 0 0,.slice none 0 0,.slice none 0 0] 40)):zen W0 W W0.heap.size (fun _=>.slice none 0 0) (fun _=>[]):=by
 subst hz;have g:=World.alloc_heap_new W0 (.cells #[.slice none 0 0,.slice none 0 0,.slice none 0 0] 40);refine ⟨rfl,⟨_,g,rfl,fun j hj=>?_⟩,fun j _=>zu.nil _ _ _ _,fun _ _ _ _ _ g hg=>(by cases hg),xx⟩
 match j,hj with
 | 0,_=>rfl
 | 1,_=>rfl
 | 2,_=>rfl
theorem zu.from {w:World} {B B':Nat} {e:TypeId} {sz:Nat} {v:Value} {rows:List (List Value)} (h:zu w B e sz v rows) (hB:B'≤B):zu w B' e sz v rows:=by
 refine ⟨⟨h.1.1,?_⟩,h.2⟩
 rcases h.1.2 with a | ⟨g,cap,cur,hv,hb,hr⟩
 ·exact .inl a
 ·exact .inr ⟨g,cap,cur,hv,Nat.le_trans hB hb,hr⟩
theorem z1o (a b c:Int):([a,b,c].map zb0)=[[.int .i64 a],[.int .i64 b],[.int .i64 c]]:=rfl
theorem z83 (W:World) (a b c:Int):zu (W.alloc (.cells #[.int .i64 a,.int .i64 b,.int .i64 c] 2)) W.heap.size 2 1 (.slice (some ⟨W.heap.size,0,none⟩) 3 3) ([a,b,c].map zb0):=by
 have g:=World.alloc_heap_new W (.cells #[.int .i64 a,.int .i64 b,.int .i64 c] 2);refine ⟨⟨by simp [zb0],.inr ⟨W.heap.size,3,_,rfl,Nat.le_refl _,g,by simp [zb0],by simp [maxLen],by simp,by simp [zb0]⟩⟩,fun r hr=>?_⟩;rw [z1o] at hr;simp only [List.mem_cons,List.not_mem_nil,or_false] at hr
 rcases hr with rfl | rfl | rfl<;>rfl
theorem z84 {W:World} {B mb:Nat} {a b c:Int} (h:zu W B 2 1 (.slice (some ⟨mb,0,none⟩) 3 3) ([a,b,c].map zb0)) {i:Nat} (hi:i < 3):W.cell? ⟨mb,i,none⟩=some (.int .i64 (zvi a b c i)):=by
 obtain ⟨sa,cap,e,-,-,hc⟩:=h.isRows;rw [z1o] at e hc
 rcases hc with h0 | ⟨b',off,rfl,hc⟩
 ·cases h0
 cases e
 match i,hi with
 | 0,_=>exact hc 0 (by simp) 0 (by simp)
 | 1,_=>exact hc 1 (by simp) 0 (by simp)
 | 2,_=>exact hc 2 (by simp) 0 (by simp)
theorem zafh {α:Type} (A B:Nat→α) (i:Nat):upd (fun j=>if j < i then A j else B j) i (A i)=fun j=>if j < i+1 then A j else B j:=by
 funext j
 unfold upd
 by_cases e:j=i
 ·subst e;rw [if_pos rfl,if_pos (by omega)]
 ·rw [if_neg e]
  show (if j < i then A j else B j)=_
  by_cases h:j < i
  ·rw [if_pos h,if_pos (by omega)]
  ·rw [if_neg h,if_neg (by omega)]
theorem zago {α:Type} (A B:Nat→α) (i:Nat) (h:A i=B i):(fun j=>if j < i then A j else B j)=fun j=>if j < i+1 then A j else B j:=by
 funext j
 by_cases e:j=i
 ·subst e;rw [if_neg (by omega),if_pos (by omega),h]
 ·by_cases h:j < i
  ·rw [if_pos h,if_pos (by omega)]
  ·rw [if_neg h,if_neg (by omega)]
theorem zafi {W0 W:World} {P:Nat} {vs:Nat→Value} {A B:Nat→List (Nat × Nat)} (h:zen W0 W P vs (fun j=>if j < 3 then A j else B j)):zen W0 W P vs A :=
 ⟨h.at0,h.blk,fun j hj=>by have:=h.own j hj;simp only [if_pos hj] at this;exact this,h.far,h.k⟩
def ApR (X:World) (B:Nat) (o:Value) (rows:List (List Value)) (a c:Nat) (v:Value) (W:World):Prop :=
 zu W B 42 2 v (rows ++ [zcs (a,c)])∧Kept (fun k=>some k≠o.ownBlock) X W∧∀ g,v.ownBlock=some g→o.ownBlock=some g∨X.heap.size≤g
theorem ApR.ext {X:World} {B:Nat} {o:Value} {rows:List (List Value)} {a c:Nat} {v:Value} {W W':World} (h:ApR X B o rows a c v W) (e:Ext W W'):ApR X B o rows a c v W':=⟨h.1.ext e,h.2.1.trans (Kept.of_below e),h.2.2⟩
end Go.Proofs.YtnoffnkmibjndaaGreat
