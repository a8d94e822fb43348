/-
  Plain: one machine serves all who are sent by windows of a circle; people and their windows, as they are laid.
-/
import Derived.Test.YtnfdiohfojjnlaaGreatWc
import Derived.Test.YtnfdiohfojjnlaaGreatWe
import Derived.Test.YtnfdiohfojjnlaaGreatUf
import Derived.Test.YtnfdiohfojjnlaaGreatYa
import Derived.Test.YtnfdiohfojjnlaaGreatYf
set_option maxRecDepth 200000
set_option maxHeartbeats 0
namespace Go.Proofs.YtnfdiohfojjnlaaGreat
open Go.RowKit Go.Shelf
def kfT (ks:List Int) (w:Nat):Nat:=(ks.getD w 0).toNat
def z0o (c:List Int) (a:Nat):Nat:=(c.getD (a % c.length) 0).toNat
def zcz (kf:Nat→Nat) (p:Nat × Nat):Psn:=⟨p.2,p.2,p.2+kf p.1 - 1⟩
theorem zpy {ks:List Int} (v:Tu.TVal ks) {w:Nat} (h:w < ks.length):1≤kfT ks w∧kfT ks w≤12∧ks.getD w 0=((kfT ks w:Nat):Int):=by
 have:=v.at_ w h;unfold kfT;omega
theorem losT (kf:Nat→Nat) (l:List (Nat × Nat)) (i:Nat):cmN (zca (l.map (zcz kf))) i=z4u l i:=by
 unfold cmN zca z4u;rw [List.map_map,List.getD_eq_getElem?_getD,List.getElem?_map,List.getD_eq_getElem?_getD];cases l[i]?<;>rfl
theorem unT (kf:Nat→Nat) (l:List (Nat × Nat)) (i:Nat) (h:i < l.length):unP (l.map (zcz kf)) i=z4v kf l i:=by
 unfold unP z4v;rw [List.map_map,List.getD_eq_getElem?_getD,List.getElem?_map,List.getD_eq_getElem?_getD,List.getElem?_eq_getElem h];rfl
theorem z2u {cm cm' u u':Nat→Nat} {n:Nat} (h1:∀ i,i < n→cm i=cm' i) (h2:∀ i,i < n→u i=u' i) (a c b:Nat):zfi cm u n a c b=zfi cm' u' n a c b:=by
 unfold zfi
 congr 1
 refine List.filter_congr fun i hi=>?_
 rw [h1 i (List.mem_range.1 hi),h2 i (List.mem_range.1 hi)]
theorem zacf {N n M:Nat} {kf vis:Nat→Nat} (hk:∀ w,w < n→1≤kf w) (hv:∀ p∈zat N kf n,∃ a,zh9 kf vis p a) :
  zgs (cmN (zca ((zat N kf n).map (zcz kf)))) (unP ((zat N kf n).map (zcz kf))) ((zat N kf n).map (zcz kf)).length M≤1:=by
 refine zadq (by omega) (zw3 (M:=M) (fun a b _ _ _=>?_) M (Nat.le_refl _)).1;rw [List.length_map,z2u (cm':=z4u (zat N kf n)) (u':=z4v kf (zat N kf n)) (fun i _=>losT kf _ i) (fun i hi=>unT kf _ i hi)];exact z83 hk hv a b
theorem zxk {ks c:List Int} (v:Tu.TVal ks) (hw:Tu.WinL ks c) (h:Tu.circP ks c=true) {N:Nat} {p:Nat × Nat} (hp:p∈zat N (kfT ks) ks.length) :
  ∃ i,i < kfT ks p.1∧c.getD ((p.2 - 1+i) % c.length) 0=((p.1:Nat):Int) :=
 Tu.vis_circ v hw h (zg3 hp).1 (p.2 - 1)
theorem z7h {ks c:List Int} {p:Nat × Nat} (h1:1≤p.2) {q:Nat} (hq:q < kfT ks p.1) (hc:c.getD ((p.2 - 1+q) % c.length) 0=((p.1:Nat):Int)):zh9 (kfT ks) (z0o c) p (p.2+q):=by
 refine ⟨by omega,by omega,?_⟩;unfold z0o;rw [show p.2+q - 1=p.2 - 1+q by omega,hc];omega
theorem zacg {l:List Nat} {t:Nat} (h:∀ i j,i < l.length→j < l.length→l.getD i 0=t→l.getD j 0=t→i=j):cntN l t≤1:=by
 unfold cntN
 induction l with
 | nil=>simp
 | cons x l ih =>
  rw [List.countP_cons]
  by_cases hx:x=t
  ·have hz:l.countP (fun x=>x == t)=0:=by
    rw [List.countP_eq_zero];intro y hy e;rw [beq_iff_eq] at e;obtain ⟨i,hi,rfl⟩:=List.getElem_of_mem hy;have:=h 0 (i+1) (by simp) (by simpa using hi) (by simpa using hx) (by simpa [hi] using e);omega
   rw [hz]
   split<;>omega
  ·have:(x == t)=false:=by simpa using hx
   rw [this];have:=ih fun i j hi hj e1 e2=>by
    have:=h (i+1) (j+1) (by simpa using hi) (by simpa using hj) (by simpa using e1) (by simpa using e2);omega
   simpa using this
theorem z9r {N n:Nat} {kf vis:Nat→Nat} (hk:∀ w,w < n→1≤kf w) {l:List Nat} (hl:l.length=(zat N kf n).length) (hp:∀ i,i < l.length→zh9 kf vis ((zat N kf n).getD i (0,0)) (l.getD i 0)) (t:Nat):cntN l t≤1 :=
 zacg fun i j hi hj e1 e2=>by
  have h1:=hp i hi;have h2:=hp j hj;rw [e1] at h1;rw [e2] at h2;exact getD_inj (zn8 n hk) (by omega) (by omega) (z29 hk (getD_in (by omega)) (getD_in (by omega)) h1 h2)
theorem z0p {N:Nat} {kf:Nat→Nat}:∀ n,(zat N kf n).length≤n * N
 | 0=>by simp [zat]
 | n+1=>by
  rw [zpr,List.length_append,zzr,Nat.add_mul,Nat.one_mul];have:=z0p (N:=N) (kf:=kf) n;have:=Nat.div_le_self N (kf n);omega
theorem z9s {N k j:Nat} (hk:1≤k):1+j * k+k - 1≤N↔j < N / k:=by
 have:=Nat.le_div_iff_mul_le (x:=j+1) (y:=N) (k0:=hk);have e:(j+1) * k=j * k+k:=by rw [Nat.add_mul,Nat.one_mul]
 omega
def zet (kf:Nat→Nat) (p:Nat × Nat):List Value:=[.int .i64 (p.2:Int),.int .i64 (p.2:Int),.int .i64 ((p.2+kf p.1 - 1:Nat):Int)]
def zg8 (p:Nat × Nat):List Value:=[.int .i64 (p.1:Int)]
theorem zae9:El 27 33 3:=El.mk' (bytes:=24) (z:=.agg #[.int .i64 0,.int .i64 0,.int .i64 0]) (by kernel_rfl) (by kernel_rfl) rfl (by omega) (by omega)
theorem z3q {W:World} {B:Nat} {e e':TypeId} {sz sz':Nat} {v v':Value} {r r':List (List Value)} (h:Owns W B e sz v r) (h':Owns W B e' sz' v' r') (hne:e≠e'):∀ g,v.ownBlock=some g→v'.ownBlock≠some g:=by
 intro g hg hg'
 rcases h.1.2 with ⟨a,-⟩ | ⟨g1,cap,cur,rfl,-,h1,-⟩
 ·rw [a] at hg;cases hg
 ·rcases h'.1.2 with ⟨a,-⟩ | ⟨g2,cap2,cur2,rfl,-,h2,-⟩
  ·rw [a] at hg';cases hg'
  ·cases hg;cases hg'
   rw [h1] at h2;exact hne (Obj.cells.inj (Option.some.inj h2)).2.1
theorem zph (W:World) (b i:Nat) (v:Value):Kept (fun k=>k≠b) W (W.setCell ⟨b,i,none⟩ v):=(Kept.refl _ _).setCell (fun _ h=>h rfl) _
def zd9 (W:World) (b:Nat) (N:Int) (v:Value):Prop:=W.heap[b]? = some (.cells #[.int .i64 N,v] 29 (0,0))
section
variable {W W':World} {b:Nat} {N:Int} {v:Value}
theorem zd9.c0 (h:zd9 W b N v):W.cell? ⟨b,0,none⟩=some (.int .i64 N):=by rw [cell_of_row _ _ _ _ _ _ h];rfl
theorem zd9.c1 (h:zd9 W b N v):W.cell? ⟨b,1,none⟩=some v:=by rw [cell_of_row _ _ _ _ _ _ h];rfl
theorem zd9.fr (h:zd9 W b N v) (o:Nat):W.frozen? ⟨b,o,none⟩=false:=by
 have h':W.heap[b]? = _:=h;simp [World.frozen?,h']
theorem zd9.lt (h:zd9 W b N v):b < W.heap.size:=World.block_lt_of_cell? _ _ h.c0
theorem zd9.set (h:zd9 W b N v) (u:Value):zd9 (W.setCell ⟨b,1,none⟩ u) b N u:=zp h 1 _
theorem zd9.ext (h:zd9 W b N v) (e:Ext W W'):zd9 W' b N v:=(e.block b h.lt).trans h
theorem zd9.kept {S:Nat→Prop} (h:zd9 W b N v) (k:Kept S W W') (hs:S b):zd9 W' b N v:=(k.same b h.lt hs).trans h
end
def HTw (cv sv:Value) (k:Nat) (w w':World):Prop :=
 (k=10∧Kept (fun b=>some b≠cv.ownBlock) w w')∨(k=14∧Kept (fun b=>some b≠sv.ownBlock) w w')
theorem zafa {B:Nat} {cv sv:Value} (h1:∀ g,cv.ownBlock=some g→B≤g) (h2:∀ g,sv.ownBlock=some g→B≤g):zt3 (HTw cv sv) B where
 b:=fun i w w' hB h=>by
  rcases h with ⟨-,h⟩ | ⟨-,h⟩
  ·exact Kept.below (h.mono fun k _ hk e=>by have:=h1 k e.symm;omega) hB
  ·exact Kept.below (h.mono fun k _ hk e=>by have:=h2 k e.symm;omega) hB
 s:=fun i w w' h=>by
  rcases h with ⟨-,h⟩ | ⟨-,h⟩<;>exact h.size
theorem zady {cv sv:Value}:zzb (HTw cv sv) (fun _=>True) [10,14] where
 m:=fun _ _ h _=>h
 k:=fun _ _ _ _ h _=>h
section
variable {B:Nat} {Y:World}
def PTw (B:Nat) (e:TypeId) (sz:Nat) (ov:Value) (rows:List (List Value)) (S:Nat→Prop) (Y:World) (v:Value) (W:World):Prop :=
 Owns W B e sz v rows∧(∀ g,v.ownBlock=some g→ov.ownBlock=some g∨Y.heap.size≤g)∧Kept S Y W
theorem PTw.ext {e:TypeId} {sz:Nat} {ov:Value} {rows:List (List Value)} {S:Nat→Prop} {v:Value} {W W':World} (h:PTw B e sz ov rows S Y v W) (x:Ext W W'):PTw B e sz ov rows S Y v W':=⟨h.1.ext x,h.2.1,h.2.2.trans (Kept.of_below x)⟩
def zev (S:Nat) (row:List Value) (v:Value) (W:World):Prop:=∃ b,v = .slice (some ⟨b,0,none⟩) 1 1∧S≤b∧RowsAt W row.length b 0 [row]
theorem zev.ext {S:Nat} {row:List Value} {v:Value} {W W':World} (h:zev S row v W) (e:Ext W W'):zev S row v W':=by
 obtain ⟨b,h1,h2,h3⟩:=h;exact ⟨b,h1,h2,h3.ext e⟩
theorem zev.kept {S:Nat} {row:List Value} {v:Value} {W W':World} {T:Nat→Prop} (h:zev S row v W) (k:Kept T W W') (hT:∀ b,S≤b→T b):zev S row v W':=by
 obtain ⟨b,h1,h2,h3⟩:=h;exact ⟨b,h1,h2,fun i hi j hj=>k.cell (h3 i hi j hj) (hT b h2)⟩
end
theorem zev.hard {cv sv:Value} {S:Nat} (hl:∀ g,cv.ownBlock=some g→g < S) {row:List Value} {i:Nat} (hi:i∈[10]) {v:Value} {W W':World} (h:zev S row v W) (e:HTw cv sv i W W'):zev S row v W':=by
 rcases e with ⟨-,e⟩ | ⟨rfl,-⟩
 ·exact h.kept e fun b hb hc=>by have:=hl b hc.symm;omega
 ·simp at hi
theorem PTw.hard {B:Nat} {e:TypeId} {sz:Nat} {cv sv:Value} {rows:List (List Value)} {Y:World} (hf:∀ g,cv.ownBlock=some g→sv.ownBlock≠some g) (hs:∀ g,sv.ownBlock=some g→g < Y.heap.size) {i:Nat} (hi:i∈[14]) {v:Value} {W W':World} (h:PTw B e sz cv rows (fun b=>some b≠cv.ownBlock∧some b≠sv.ownBlock) Y v W) (x:HTw cv sv i W W'):PTw B e sz cv rows (fun b=>some b≠cv.ownBlock∧some b≠sv.ownBlock) Y v W':=by
 rcases x with ⟨rfl,-⟩ | ⟨-,x⟩
 ·simp at hi
 ·refine ⟨h.1.keptAt x fun g _ _ hg _ hc=>?_,h.2.1,h.2.2.trans (x.mono fun b _ hb=>hb.2)⟩
  rcases h.2.1 g hg with h1 | h1
  ·exact hf g h1 hc.symm
  ·have:=hs g hc.symm;omega
section
variable {H:Nat→World→World→Prop} {P:Program} {i:Nat} {o:Oper} {ρ:Operand→Value} {W:World} {val:Nat→Value} {s:SqM H}
theorem z7i (f:FuncId) (xs:Array Operand) (ats:Array TypeId) (h:o.op = .call { callee:=.value (.func f),args:=xs,argTypes:=ats }) (args:Array Value) (hf:ρ (.func f) = .func (.func f) #[] #[]) (ha:xs.map ρ=args) (hc:∀ args W,(callFunc f args).run P W = .ok (.enter f args) W)
  (hs:Calls P f args W fun e W''=>∃ v,e = .returned v∧zg7 H i false W W''∧s.p (s.us.map val) (match o.dst with | some _=>v | none=>undef) W''):zof P i false o ρ W val s:=by
 obtain ⟨dst,op,type,pos,after,guard⟩:=o;simp only at h;subst h;have e:execOp ρ { dst,op:=.call { callee:=.value (.func f),args:=xs,argTypes:=ats },type,pos,after,guard }=callFunc f (#[] ++ xs.map ρ ++ #[]):=by
  simp only [execOp,resolve,hf];rfl
 unfold zof;rw [e];have e2 : #[] ++ xs.map ρ ++ #[]=args:=by rw [ha];simp
 rw [e2,hc];exact hs
end
structure TwS (W0:World) (X:Nat) (N:Nat) (kf:Nat→Nat) (l:List (Nat × Nat)) (pv sv:Value) (W:World):Prop where
 e:Ext W0 W
 x:zd9 W X N pv
 p:Owns W (X+1) 33 3 pv (l.map (zet kf))
 s:Owns W (X+1) 3 1 sv (l.map zg8)
theorem TwS.ext {W0 W W':World} {X N:Nat} {kf:Nat→Nat} {l:List (Nat × Nat)} {pv sv:Value} (h:TwS W0 X N kf l pv sv W) (e:Ext W W'):TwS W0 X N kf l pv sv W' :=
 ⟨Ext.trans' h.e e,h.x.ext e,h.p.ext e,h.s.ext e⟩
theorem z9t {kf:Nat→Nat} (l:List (Nat × Nat)):l.map (zet kf)=(l.map (zcz kf)).map zqx:=by
 rw [List.map_map];rfl
theorem TwS.grow {W0 Y W:World} {X N:Nat} {kf:Nat→Nat} {l:List (Nat × Nat)} {pv sv p' s':Value} {x:Nat × Nat} (hX:W0.heap.size≤X) (h:TwS W0 X N kf l pv sv Y)
  (h1:PTw (X+1) 33 3 pv (l.map (zet kf) ++ [zet kf x]) (fun b=>some b≠pv.ownBlock∧some b≠sv.ownBlock) Y p' W) (h2:PTw (X+1) 3 1 sv (l.map zg8 ++ [zg8 x]) (fun b=>some b≠pv.ownBlock∧some b≠sv.ownBlock) Y s' W) :
  TwS W0 X N kf (l ++ [x]) p' s' (W.setCell ⟨X,1,none⟩ p'):=by
 have hk:=h1.2.2;have hxp:∀ b,b≤X→some b≠pv.ownBlock∧some b≠sv.ownBlock:=fun b hb=>⟨fun e=>by have:=(h.p.notOwn b e.symm).1;omega,fun e=>by have:=(h.s.notOwn b e.symm).1;omega⟩
 refine ⟨?_,(h.x.kept hk (hxp X (Nat.le_refl _))).set p',?_,?_⟩
 ·have e2:Ext W0 W:=h.e.trans (Kept.below (hk.mono (T:=fun b=>b < W0.heap.size) fun b _ hb=>hxp b (by omega)) h.e.size)
  exact e2.setCell hX _
 ·rw [List.map_append]
  exact h1.1.keptAt (zph W X 1 p') fun g _ hg _ _=>by omega
 ·rw [List.map_append]
  exact h2.1.keptAt (zph W X 1 p') fun g _ hg _ _=>by omega
theorem zvx (kf:Nat→Nat) (l:List (Nat × Nat)):(l.map (zcz kf)).length=l.length:=List.length_map _
theorem zadz {N n:Nat} {kf:Nat→Nat} (hk:∀ w,w < n→1≤kf w) (hN:N≤60):Pnt ((zat N kf n).map (zcz kf)):=fun p hp=>by
 obtain ⟨x,hx,rfl⟩:=List.mem_map.1 hp;obtain ⟨h1,h2,h3⟩:=zjj hk hx;exact ⟨rfl,h2,Nat.le_trans h3 hN,h1⟩
theorem z9u {N n:Nat} {kf:Nat→Nat} (hk:∀ w,w < n→1≤kf w) (hN:1≤N∧N≤60) (h30:(zat N kf n).length≤30):zjk N ((zat N kf n).map (zcz kf)):=⟨hN,by rw [zvx];exact h30,fun p hp=>by
 obtain ⟨x,hx,rfl⟩:=List.mem_map.1 hp;obtain ⟨h1,h2,h3⟩:=zjj hk hx;exact ⟨Nat.le_refl _,h1,by show x.2≤N;omega,h1,by show x.2≤N;omega,by show 1≤x.2+kf x.1 - 1;omega,h3⟩⟩
theorem TwS.ps {W0 W:World} {X N:Nat} {kf:Nat→Nat} {l:List (Nat × Nat)} {pv sv:Value} (h:TwS W0 X N kf l pv sv W):zf6 W pv (l.map (zcz kf)):=by
 have:=h.p.isRows;rw [z9t] at this;exact this
theorem TwS.ns {W0 W:World} {X N:Nat} {kf:Nat→Nat} {l:List (Nat × Nat)} {pa sa:Option Addr} {pn pc sn sc:Nat} (h:TwS W0 X N kf l (.slice pa pn pc) (.slice sa sn sc) W):pn=l.length∧sn=l.length:=by
 obtain ⟨_,_,e1,-⟩:=h.p.form;obtain ⟨_,_,e2,-⟩:=h.s.form;simp only [Value.slice.injEq,List.length_map] at e1 e2;exact ⟨e1.2.1,e2.2.1⟩
theorem TwS.ints {W0 W:World} {X N:Nat} {kf:Nat→Nat} {l:List (Nat × Nat)} {pv sv:Value} (h:TwS W0 X N kf l pv sv W):IsInts W .i64 sv (zbq (l.map (·.1))):=by
 have e:l.map zg8=(zbq (l.map (·.1))).map zam:=by
  unfold zbq;rw [List.map_map,List.map_map];rfl
 have:=h.s;rw [e] at this;exact this.oneInts
theorem z9v {ks c:List Int} (h:Tu.CircR ks c) (e:Tu.circleErr ks=0):Tu.circErr ks c=0:=by
 have ht:Tu.tchk ks=0:=by
  unfold Tu.circleErr at e
  by_cases hc:Tu.tchk ks=0
  ·exact hc
  ·rw [if_pos hc] at e;exact absurd e hc
 have hl:¬ c.length < 1:=by
  have:=List.length_pos_iff.2 (h.ne e);omega
 have hr:Tu.rowErr ks c=0:=by
  have hle:=h.le;have hall:c.all (Tu.inR 0 ((ks.length:Int) - 1))=true:=by
   rw [List.all_eq_true];intro x hx;have:=h.win e x hx;rw [Tu.inR_iff];omega
  unfold Tu.rowErr;rw [if_neg (by omega),if_pos hall]
 unfold Tu.circErr;rw [if_neg (fun h=>h ht),if_neg hl,if_neg (fun h=>h hr),if_pos (h.circ e)]
theorem z9w {ks cl:List Int} (V:Tu.TVal ks) (h:Tu.CircR ks cl) (e:Tu.circleErr ks=0) (N M:Nat) :
  zgs (cmN (zca ((zat N (kfT ks) ks.length).map (zcz (kfT ks))))) (unP ((zat N (kfT ks) ks.length).map (zcz (kfT ks)))) ((zat N (kfT ks) ks.length).map (zcz (kfT ks))).length M≤1 :=
 zacf (vis:=z0o cl) (fun w hw=>(zpy V hw).1) fun p hp=>by
  obtain ⟨i,hi,hc⟩:=zxk V (h.win e) (h.circ e) hp;exact ⟨_,z7h (zjj (fun w hw=>(zpy V hw).1) hp).1 hi hc⟩
theorem z9x {N n:Nat} {kf vis:Nat→Nat} {l:List (Nat × Nat)} (e:l=zat N kf n) (hk:∀ w,w < n→1≤kf w) {al:List Nat} (hl:al.length=l.length) (hp:∀ i,i < al.length→zh9 kf vis (l.getD i (0,0)) (al.getD i 0)) (t:Nat):cntN al t≤1:=by
 subst e;exact z9r hk hl hp t
theorem zach {kf vis:Nat→Nat} {l:List (Nat × Nat)} {al:List Nat} (hl:al.length=l.length) (hp:∀ i,i < al.length→zh9 kf vis (l.getD i (0,0)) (al.getD i 0)) (i:Nat) (hi:i < (l.map (zcz kf)).length):(l.map (zcz kf))[i].lo≤al.getD i 0∧al.getD i 0≤(l.map (zcz kf))[i].u:=by
 have hi':i < l.length:=by rwa [zvx] at hi
 obtain ⟨g1,g2,-⟩:=hp i (by omega);have e:l.getD i (0,0)=l[i]:=by rw [List.getD_eq_getElem?_getD,List.getElem?_eq_getElem hi'];rfl
 rw [e] at g1 g2;rw [List.getElem_map];exact ⟨g1,g2⟩
open Go.ChangeShapes Go.WideShapes Go.ChangeAt Go.RowKit
section
variable {H:Type} {enc:TypeId × Value→H} {W:World} {sp:Nat→Bool} {held:Bool} {base b0:Nat} {r:Reach}
theorem z7j {v:Value} {d:DataW H} {p:List MemPlace} (hv:Value.okWide Tryz.prog W r b0 24 v) (h:DataW.Trod enc Tryz.prog W base sp held 24 v d p) :
  ∃ (ks:List Int) (kv:Value),v = .agg #[kv]∧IsInts W .i64 kv ks:=by
 have hs:=Tryz.underlying24;have hC:Tryz.prog.cellsOf 24=1:=by kernel_rfl
 have hC2:Tryz.prog.cellsOf 22=1:=by kernel_rfl
 obtain ⟨cs,rfl,hsz⟩:=okWide_struct hs hv;obtain ⟨c0,rfl⟩:∃ c0,cs = #[c0]:=by
  obtain ⟨l⟩:=cs
  match l,hsz.trans hC with
  | [c0],_=>exact ⟨c0,rfl⟩
 obtain ⟨fuel,hf⟩:=h;obtain ⟨y0,n,hx,_,h0⟩:=trod_struct1 hs hf;have h1:DataW.trod enc Tryz.prog W base sp held n 22 [c0]=some y0:=by simpa [Value.cells,hC2] using h0
 obtain ⟨rows,hr,hx⟩:=z9q Tryz.underlying22 (sz:=1) (by kernel_rfl) (by omega) h1;obtain ⟨l,rfl⟩:=z0n (fun n=>[Value.int .i64 n]) rows fun row hrow=>by
  obtain ⟨hl,m,y',ht⟩:=hx row hrow;obtain ⟨x,rfl,_,_⟩:=DataW.trod_int Tryz.underlying3 ht;exact ⟨x,rfl⟩
 exact ⟨l,c0,rfl,hr⟩
end
end Go.Proofs.YtnfdiohfojjnlaaGreat
