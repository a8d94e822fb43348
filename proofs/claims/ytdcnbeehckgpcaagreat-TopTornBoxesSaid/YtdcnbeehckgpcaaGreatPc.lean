/-
  Contracts of Go's library off the kit's shelf, at this program (written by the shelf's own tools).
-/
import Derived.Shelf.Small.Bits
import Derived.Shelf.Small.Wraps
import Derived.Shelf.Sort.Plain
import Derived.Shelf.Bits.Mul64
import Derived.Shelf.Slices.Turned
import Derived.Shelf.Slices.Clone
import Derived.Shelf.Slices.Cells
import Derived.Shelf.Slices.In.SortNone
import Derived.Shelf.Slices.Empties
import Derived.Shelf.SlicesG.Turned
import Derived.Shelf.SlicesG.SearchI
import Derived.Shelf.SlicesE.Reverse
import Derived.Shelf.SlicesE.Delete
import Derived.Shelf.SlicesE.Clone
import Derived.Test.YtdcnbeehckgpcaaGreatPa
set_option maxRecDepth 200000
set_option maxHeartbeats 0
set_option linter.unusedSimpArgs false
set_option linter.unusedVariables false
namespace Go.Proofs
open Go.Shelf
def Tryz.lays212_ren:Go.Shelf.Ren:=⟨fun|212=>158|263=>203|264=>204|n=>n,fun|46=>102|51=>150|146=>257|53=>152|148=>259|n=>n,fun|n=>n⟩
theorem Tryz.lays212:Go.Proofs.Lays.n212 Tryz.prog Tryz.lays212_ren:={
 mixed:=by kernel_rfl
 f212:=Tryz.func158.trans (congrArg some (by kernel_rfl))
 f263:=Tryz.func203.trans (congrArg some (by kernel_rfl))
 f264:=Tryz.func204.trans (congrArg some (by kernel_rfl))
 t46:=Tryz.underlying102
 a46:=Tryz.isAgg102
 z46:=Tryz.sizeOf102
 v46:=Tryz.zeroValue102
 t51:=Tryz.underlying150
 a51:=Tryz.isAgg150
 z51:=Tryz.sizeOf150
 v51:=Tryz.zeroValue150
 t53:=Tryz.underlying152
 a53:=Tryz.isAgg152
 z53:=Tryz.sizeOf152
 v53:=Tryz.zeroValue152
 t146:=Tryz.underlying257
 a146:=Tryz.isAgg257
 z146:=Tryz.sizeOf257
 v146:=Tryz.zeroValue257
 t148:=Tryz.underlying259
 a148:=Tryz.isAgg259
 z148:=Tryz.sizeOf259
 v148:=Tryz.zeroValue259 }
open Go.RowKit Go.Lib in
theorem Tryz.bits_Mul(x y:Nat)(hx:x<18446744073709551616)(hy:y<18446744073709551616)(w:World) :
  Calls Tryz.prog 158 #[.int .u64 x,.int .u64 y] w fun e w'=>e=.returned (.tuple #[.int .u64 ((x*y / 18446744073709551616:Nat):Int),.int .u64 ((x*y%18446744073709551616:Nat):Int)])∧w'=w:=Any.bits_Mul Tryz.lays212 x y hx hy w
end Go.Proofs
namespace Go.Proofs.YtdcnbeehckgpcaaGreat
open Go.RowKit Go.Shelf
def zbj(W:World)(g n:Nat)(f:Nat→Int):Prop:=∃cur:Array Value,W.heap[g]?=some (.cells cur 3 (0,0))∧n≤cur.size∧∀j,j<n→cur[j]?=some (.int .i64 (f j))
theorem zbj.cell{W:World}{g n:Nat}{f:Nat→Int}(h:zbj W g n f)(j:Nat)(hj:j<n):W.cell? ⟨g,j,none⟩=some (.int .i64 (f j)):=by
 obtain⟨cur,h1,_,h2⟩:=h;rw[cell_of_row _ _ _ _ _ _ h1];exact h2 j hj
theorem zbj.free{W:World}{g n:Nat}{f:Nat→Int}(h:zbj W g n f)(o:Nat):W.frozen? ⟨g,o,none⟩=false:=by
 obtain⟨cur,h1,_,h2⟩:=h;simp[World.frozen?,h1]
theorem zbj.lt{W:World}{g n:Nat}{f:Nat→Int}(h:zbj W g n f):g<W.heap.size:=by
 obtain⟨cur,h1,_,h2⟩:=h;exact(wad.1 h1).1
theorem zbj.set{W:World}{g n:Nat}{f:Nat→Int}(h:zbj W g n f)(i:Nat)(x:Int):zbj (W.setCell ⟨g,i,none⟩ (.int .i64 x)) g n (fun j=>if j=i then x else f j):=by
 obtain⟨cur,h1,hn,h2⟩:=h;refine⟨_,zal h1 i _,by simpa using hn,fun j hj=>?_⟩
 by_cases e:j=i
 ·subst e
  simp only[if_true];rw[zw7 _ (by omega)]
 ·simp only[if_neg e]
  rw[waf,if_neg (fun h=>e h.symm),h2 j hj]
theorem zbj.of_heap{W W':World}{g n:Nat}{f:Nat→Int}(h:zbj W g n f)(e:W'.heap[g]?=W.heap[g]?):zbj W' g n f:=by
 obtain⟨cur,h1,h2⟩:=h;exact⟨cur,e.trans h1,h2⟩
theorem zbj.congr{W:World}{g n:Nat}{f f':Nat→Int}(h:zbj W g n f)(e:∀j,j<n→f j=f' j):zbj W g n f':=by
 obtain⟨cur,h1,h2,h3⟩:=h;exact⟨cur,h1,h2,fun j hj=>by rw[h3 j hj,e j hj]⟩
theorem zab.numB{W:World}{B g n cap:Nat}{l:List Int}(h:zab W B 3 1 (.slice (some ⟨g,0,none⟩) n cap) (l.map zas)):n=l.length∧n≤cap∧cap≤9223372036854775807∧B≤g∧zbj W g n (gt l):=by
 rcases h.1.2 with⟨hv,_⟩|⟨g',cap',cur,hv,hb,hg,hn,hm,hsz,ht⟩
 ·cases hv
 ·simp only[wft,wfp,Addr.mk.injEq]at hv
  obtain⟨⟨rfl,-,-⟩,rfl,rfl⟩:=hv;rw[wc8]at *;refine⟨rfl,hn,by simpa[maxLen]using hm,hb,cur,hg,by rw[hsz];omega,fun j hj=>?_⟩;obtain⟨_,_,e,_,_,hf⟩:=h.form
  rcases hf with⟨h0,_⟩|⟨g'',h0,_,_,hr,_⟩
  ·have:=wdh.1 h0;subst this;simp at hj
  ·simp only[wft]at e
   rw[←e.1]at h0;cases h0;have:=hr j (by simpa using hj) 0 (by simp[zas]);rw[cell_of_row _ _ _ _ _ _ hg]at this;simp only[wcx,zas,wcw,wfc,Nat.mul_one,wei]at this;rw[this,gt_get hj]
theorem zab.cellsN{W:World}{B:Nat}{v:Value}{l:List Int}(h:zab W B 3 1 v (l.map zas))(hne:0<l.length):∃g cap,v=.slice (some ⟨g,0,none⟩) l.length cap∧l.length≤cap∧cap≤9223372036854775807∧B≤g∧zbj W g l.length (gt l):=by
 obtain⟨sa,cap,rfl,h1,h2,hf⟩:=h.form
 rcases hf with⟨h0,_⟩|⟨g,rfl,_⟩
 ·have:=wdh.1 h0;rw[this]at hne;simp at hne
 ·obtain⟨hn,hc,hm,hB,hN⟩:=h.numB
  rw[hn]at hN;exact⟨g,cap,by rw[hn],by rw[hn]at hc;exact hc,hm,hB,hN⟩
theorem zbj.intsC{W:World}{g n cap:Nat}{c:List Int}(h:zbj W g n (gt c))(hn:n=c.length)(h1:n≤cap)(h2:cap≤9223372036854775807):zo W .i64 (.slice (some ⟨g,0,none⟩) n cap) c:=by
 have:=zo.mk (w:=W) (k:=.i64) (l:=c) (b:=g) (off:=0) (cap:=cap) (by omega) h2 fun i hi=>by
  rw[wfc,h.cell i (by omega),gt_get hi]
 rwa [←hn]at this
theorem zsh{g:Nat}{t:TypeId}:∀(l:List Value) (o:Nat) (W:World) (cur:Array Value),W.heap[g]?=some (.cells cur t (0,0))→∃cur',(W.setCells g o l).heap[g]?=some (.cells cur' t (0,0))∧cur'.size=cur.size ∧
  ∀q,q<cur.size→cur'[q]?=if h:o≤q∧q<o+l.length then some (l[q-o]'(by omega))else cur[q]?
 |[],o,W,cur,h=>⟨cur,h,rfl,fun q _=>by rw[dif_neg (by rw[wc9];omega)]⟩
 |v::l,o,W,cur,h=>by
  rw[World.setCells];obtain⟨cur',h1,h2,h3⟩:=zsh l (o+1) _ _ (zal h o v);refine⟨cur',h1,by simpa using h2,fun q hq=>?_⟩;rw[h3 q (by simpa using hq)]
  by_cases e:o=q
  ·subst e
   rw[dif_neg (by omega),dif_pos ⟨weq _,by simp⟩,zw7 _ hq];simp
  ·by_cases e2:o+1≤q∧q<o+1+l.length
   ·rw[dif_pos e2,dif_pos ⟨by omega,by rw[wc4];omega⟩]
    congr 1
    rw[List.getElem_cons,dif_neg (by omega)]
    congr 1
   ·rw[dif_neg e2,dif_neg (by rw[wc4];omega),z7o _ e]
theorem zbj.sets{W:World}{g n:Nat}{f:Nat→Int}(h:zbj W g n f)(l:List Int)(hl:l.length≤n):zbj (W.setCells g 0 (l.map (Value.int .i64))) g l.length (gt l):=by
 obtain⟨cur,h1,hn,h2⟩:=h;obtain⟨cur',g1,g2,g3⟩:=zsh (l.map (Value.int .i64)) 0 W cur h1;refine⟨cur',g1,by omega,fun j hj=>?_⟩;rw[g3 j (by omega),dif_pos (by rw[wc8];omega)];simp[gt_get hj]
theorem zbj.less{W:World}{g n m:Nat}{f:Nat→Int}(h:zbj W g n f)(hm:m≤n):zbj W g m f:=by
 obtain⟨cur,h1,h2,h3⟩:=h;exact⟨cur,h1,by omega,fun j hj=>h3 j (by omega)⟩
end Go.Proofs.YtdcnbeehckgpcaaGreat
