/-
  Numbers in a block of their own.
-/
import Derived.Test.YtkfifbopmpcanaaGreatBb
import Derived.Test.YtkfifbopmpcanaaGreatPa
namespace Go.Proofs.YtkfifbopmpcanaaGreat
open Go.RowKit Go.Shelf
def NumB (W:World) (g n:Nat) (f:Nat→Int):Prop:=∃ cur:Array Value,W.heap[g]? = some (.cells cur 3 (0,0))∧n≤cur.size∧∀ j,j < n→cur[j]? = some (.int .i64 (f j))
theorem NumB.cell {W:World} {g n:Nat} {f:Nat→Int} (h:NumB W g n f) (j:Nat) (hj:j < n):W.cell? ⟨g,j,none⟩=some (.int .i64 (f j)):=by
 obtain ⟨cur,h1,_,h2⟩:=h
 rw [cell_of_row _ _ _ _ _ _ h1];exact h2 j hj
theorem NumB.free {W:World} {g n:Nat} {f:Nat→Int} (h:NumB W g n f) (o:Nat):W.frozen? ⟨g,o,none⟩=false:=by
 obtain ⟨cur,h1,_,h2⟩:=h
 simp [World.frozen?,h1]
theorem NumB.lt {W:World} {g n:Nat} {f:Nat→Int} (h:NumB W g n f):g < W.heap.size:=by
 obtain ⟨cur,h1,_,h2⟩:=h
 exact (Array.getElem?_eq_some_iff.1 h1).1
theorem NumB.set {W:World} {g n:Nat} {f:Nat→Int} (h:NumB W g n f) (i:Nat) (x:Int):NumB (W.setCell ⟨g,i,none⟩ (.int .i64 x)) g n (fun j=>if j=i then x else f j):=by
 obtain ⟨cur,h1,hn,h2⟩:=h
 refine ⟨_,zab h1 i _,by simpa using hn,fun j hj=>?_⟩
 by_cases e:j=i
 ·subst e
  simp only [if_true]
  rw [zqn _ (by omega)]
 ·simp only [if_neg e]
  rw [Array.getElem?_setIfInBounds,if_neg (fun h=>e h.symm),h2 j hj]
theorem NumB.of_heap {W W':World} {g n:Nat} {f:Nat→Int} (h:NumB W g n f) (e:W'.heap[g]? = W.heap[g]?):NumB W' g n f:=by
 obtain ⟨cur,h1,h2⟩:=h
 exact ⟨cur,e.trans h1,h2⟩
theorem NumB.congr {W:World} {g n:Nat} {f f':Nat→Int} (h:NumB W g n f) (e:∀ j,j < n→f j=f' j):NumB W g n f':=by
 obtain ⟨cur,h1,h2,h3⟩:=h
 exact ⟨cur,h1,h2,fun j hj=>by rw [h3 j hj,e j hj]⟩
theorem Owns.numB {W:World} {B g n cap:Nat} {l:List Int} (h:Owns W B 3 1 (.slice (some ⟨g,0,none⟩) n cap) (l.map iRow)):n=l.length∧n≤cap∧cap≤9223372036854775807∧B≤g∧NumB W g n (gt l):=by
 rcases h.1.2 with ⟨hv,_⟩ | ⟨g',cap',cur,hv,hb,hg,hn,hm,hsz,ht⟩
 ·cases hv
 ·simp only [Value.slice.injEq,Option.some.injEq,Addr.mk.injEq] at hv
  obtain ⟨⟨rfl,-,-⟩,rfl,rfl⟩:=hv
  rw [List.length_map] at *
  refine ⟨rfl,hn,by simpa [maxLen] using hm,hb,cur,hg,by rw [hsz];omega,fun j hj=>?_⟩
  obtain ⟨_,_,e,_,_,hf⟩:=h.form
  rcases hf with ⟨h0,_⟩ | ⟨g'',h0,_,_,hr,_⟩
  ·have:=List.map_eq_nil_iff.1 h0;subst this;simp at hj
  ·simp only [Value.slice.injEq] at e
   rw [← e.1] at h0
   cases h0
   have:=hr j (by simpa using hj) 0 (by simp [iRow])
   rw [cell_of_row _ _ _ _ _ _ hg] at this
   simp only [List.getElem_map,iRow,List.getElem_cons_zero,Nat.zero_add,Nat.mul_one,Nat.add_zero] at this
   rw [this,gt_get hj]
theorem Owns.cellsN {W:World} {B:Nat} {v:Value} {l:List Int} (h:Owns W B 3 1 v (l.map iRow)) (hne:0 < l.length):∃ g cap,v = .slice (some ⟨g,0,none⟩) l.length cap∧l.length≤cap∧cap≤9223372036854775807∧B≤g∧NumB W g l.length (gt l):=by
 obtain ⟨sa,cap,rfl,h1,h2,hf⟩:=h.form
 rcases hf with ⟨h0,_⟩ | ⟨g,rfl,_⟩
 ·have:=List.map_eq_nil_iff.1 h0;rw [this] at hne;simp at hne
 ·obtain ⟨hn,hc,hm,hB,hN⟩:=h.numB
  rw [hn] at hN
  exact ⟨g,cap,by rw [hn],by rw [hn] at hc;exact hc,hm,hB,hN⟩
theorem NumB.intsC {W:World} {g n cap:Nat} {c:List Int} (h:NumB W g n (gt c)) (hn:n=c.length) (h1:n≤cap) (h2:cap≤9223372036854775807):IsInts W .i64 (.slice (some ⟨g,0,none⟩) n cap) c:=by
 have:=IsInts.mk (w:=W) (k:=.i64) (l:=c) (b:=g) (off:=0) (cap:=cap) (by omega) h2 fun i hi=>by
  rw [Nat.zero_add,h.cell i (by omega),gt_get hi]
 rwa [← hn] at this
theorem znh {g:Nat} {t:TypeId}:∀ (l:List Value) (o:Nat) (W:World) (cur:Array Value),W.heap[g]? = some (.cells cur t (0,0))→∃ cur',(W.setCells g o l).heap[g]? = some (.cells cur' t (0,0))∧cur'.size=cur.size ∧
  ∀ q,q < cur.size→cur'[q]? = if h:o≤q∧q < o+l.length then some (l[q - o]'(by omega)) else cur[q]?
 | [],o,W,cur,h=>⟨cur,h,rfl,fun q _=>by rw [dif_neg (by rw [List.length_nil];omega)]⟩
 | v :: l,o,W,cur,h=>by
  rw [World.setCells]
  obtain ⟨cur',h1,h2,h3⟩:=znh l (o+1) _ _ (zab h o v)
  refine ⟨cur',h1,by simpa using h2,fun q hq=>?_⟩
  rw [h3 q (by simpa using hq)]
  by_cases e:o=q
  ·subst e
   rw [dif_neg (by omega),dif_pos ⟨Nat.le_refl _,by simp⟩,zqn _ hq]
   simp
  ·by_cases e2:o+1≤q∧q < o+1+l.length
   ·rw [dif_pos e2,dif_pos ⟨by omega,by rw [List.length_cons];omega⟩]
    congr 1
    rw [List.getElem_cons,dif_neg (by omega)]
    congr 1
   ·rw [dif_neg e2,dif_neg (by rw [List.length_cons];omega),z6z _ e]
theorem NumB.sets {W:World} {g n:Nat} {f:Nat→Int} (h:NumB W g n f) (l:List Int) (hl:l.length≤n):NumB (W.setCells g 0 (l.map (Value.int .i64))) g l.length (gt l):=by
 obtain ⟨cur,h1,hn,h2⟩:=h
 obtain ⟨cur',g1,g2,g3⟩:=znh (l.map (Value.int .i64)) 0 W cur h1
 refine ⟨cur',g1,by omega,fun j hj=>?_⟩
 rw [g3 j (by omega),dif_pos (by rw [List.length_map];omega)]
 simp [gt_get hj]
theorem NumB.less {W:World} {g n m:Nat} {f:Nat→Int} (h:NumB W g n f) (hm:m≤n):NumB W g m f:=by
 obtain ⟨cur,h1,h2,h3⟩:=h
 exact ⟨cur,h1,by omega,fun j hj=>h3 j (by omega)⟩
end Go.Proofs.YtkfifbopmpcanaaGreat
