/-
  The walk of newTill: the till of a valid book.
-/
import Derived.Deep.Cut
import Derived.Test.YtkbaiobnibmmgaaGreatPa
import Derived.Test.YtkbaiobnibmmgaaGreatBc
namespace Go.Proofs.YtkbaiobnibmmgaaGreat
open Go.RowKit Go.Shelf
def EntT (m st:Nat) (es1:Array MapEntry) (c1:Nat) (n:Int) (F:Spt→Option Int):Prop:=∀ (W2:World),W2.heap[m]? = some (.map es1 c1)→∃ W3,(Instr.entryStore 87 (.map (some m)) (goInt st) (ival n)).run Tryz.prog W2 = .ok () W3∧W2.grownBy W3 (some m)∧MapIs skey ival W3 m F
def EntQ (m:Nat) (us n:Int) (F:Spt→Option Int) (W:World) (v:Value):Prop:=∃ (st:Nat) (es1:Array MapEntry) (c1:Nat),v = .tuple #[.int .i64 us,goInt st]∧W.heap[m]? = some (.map es1 c1)∧EntT m st es1 c1 n F
def EntS (m:Nat) (n:Int) (F:Spt→Option Int) (W:World) (v:Value):Prop:=∃ (st:Nat) (es1:Array MapEntry) (c1:Nat),v=goInt st∧W.heap[m]? = some (.map es1 c1)∧EntT m st es1 c1 n F
theorem EntQ.ext {m:Nat} {us n:Int} {F:Spt→Option Int} {W W':World} {v:Value} (h:EntQ m us n F W v) (e:Ext W W'):EntQ m us n F W' v:=by
 obtain ⟨st,es1,c1,h1,h2,h3⟩:=h
 exact ⟨st,es1,c1,h1,(e.block _ (Array.getElem?_eq_some_iff.1 h2).1).trans h2,h3⟩
theorem EntS.ext {m:Nat} {n:Int} {F:Spt→Option Int} {W W':World} {v:Value} (h:EntS m n F W v) (e:Ext W W'):EntS m n F W' v:=by
 obtain ⟨st,es1,c1,h1,h2,h3⟩:=h
 exact ⟨st,es1,c1,h1,(e.block _ (Array.getElem?_eq_some_iff.1 h2).1).trans h2,h3⟩
structure IsTill (W:World) (p m:Nat) (b:Bk) (ba:Option Addr) (bcap:Nat) (sa:Option Addr) (scap:Nat):Prop where
 till:Till W p b ba bcap sa scap (favP b) m (inP b) (zbg b) (zeh b) (netP b)
 map:MapIs skey ival W m (za9 b b.bets)
theorem IsTill.ext {W W':World} {p m:Nat} {b:Bk} {ba sa:Option Addr} {bcap scap:Nat} (h:IsTill W p m b ba bcap sa scap) (e:Ext W W'):IsTill W' p m b ba bcap sa scap:=⟨h.till.ext e,h.map.ext e⟩
def RetTill (w:World) (b:Bk) (ba:Option Addr) (bcap:Nat) (sa:Option Addr) (scap:Nat) (e:Ending) (w':World):Prop :=
 ∃ p m,e = .returned (.pointer (some ⟨p,0,none⟩))∧Ext w w'∧w.heap.size≤p∧IsTill w' p m b ba bcap sa scap
structure NS (w:World) (b:Bk) (ba:Option Addr) (bcap:Nat) (sa:Option Addr) (scap B m p q:Nat) (fv i k d o:Int) (F:Spt→Option Int) (f:Nat→Int) (W:World):Prop where
 old:Ext w W
 bk:BookAt W B b ba bcap sa scap
 till:Till W p b ba bcap sa scap fv m i k d o
 map:MapIs skey ival W m F
 sums:SumB W q f
theorem NS.kept {w:World} {b:Bk} {ba sa:Option Addr} {bcap scap B m p q:Nat} {fv i k d o:Int} {F:Spt→Option Int} {f:Nat→Int} {W W':World} (h:NS w b ba bcap sa scap B m p q fv i k d o F f W) (e:Ext W W'):NS w b ba bcap sa scap B m p q fv i k d o F f W' :=
 ⟨h.old.trans' e,h.bk.ext e,h.till.ext e,h.map.ext e,h.sums.of_heap (e.block _ h.sums.lt)⟩
theorem NS.ext {w:World} {b:Bk} {ba sa:Option Addr} {bcap scap B m p q:Nat} {fv i k d o:Int} {F:Spt→Option Int} {f:Nat→Int} {W W':World} (h:NS w b ba bcap sa scap B m p q fv i k d o F f W) (e:Ext W W'):NS w b ba bcap sa scap B m p q fv i k d o F f W':=h.kept e
theorem NS.congr {w:World} {b:Bk} {ba sa:Option Addr} {bcap scap B m p q:Nat} {fv i k d o:Int} {F:Spt→Option Int} {f f':Nat→Int} {W:World} (h:NS w b ba bcap sa scap B m p q fv i k d o F f W) (e:∀ j,f j=f' j):NS w b ba bcap sa scap B m p q fv i k d o F f' W :=
 ⟨h.old,h.bk,h.till,h.map,h.sums.congr fun j _=>e j⟩
theorem NS.cast {w:World} {b:Bk} {ba sa:Option Addr} {bcap scap B m p q:Nat} {fv i k d o i' k':Int} {F F':Spt→Option Int} {f:Nat→Int} {W:World} (h:NS w b ba bcap sa scap B m p q fv i k d o F f W) (e1:i=i') (e2:k=k') (e3:F=F'):NS w b ba bcap sa scap B m p q fv i' k' d o F' f W:=by
 subst e1;subst e2;subst e3;exact h
theorem Till.cast {W:World} {p:Nat} {b:Bk} {ba sa:Option Addr} {bcap scap:Nat} {fv:Int} {m:Nat} {i k d o i' k' d' o':Int} (h:Till W p b ba bcap sa scap fv m i k d o) (e1:i=i') (e2:k=k') (e3:d=d') (e4:o=o'):Till W p b ba bcap sa scap fv m i' k' d' o':=by
 subst e1;subst e2;subst e3;subst e4;exact h
theorem BookAt.of_heap {w w':World} {p:Nat} {b:Bk} {ba sa:Option Addr} {bcap scap:Nat} (k:BookAt w p b ba bcap sa scap) (e:w'.heap[p]? = w.heap[p]?):BookAt w' p b ba bcap sa scap:=by
 have h:∀ o u,w.cell? ⟨p,o,none⟩=some u→w'.cell? ⟨p,o,none⟩=some u:=fun o u hc=>(World.cell?_of_block (w:=w) (w':=w') e).trans hc
 exact ⟨h _ _ k.c0,h _ _ k.c1,h _ _ k.c2,h _ _ k.c3,h _ _ k.c4,h _ _ k.c5,h _ _ k.c6,h _ _ k.c7⟩
section
variable {w:World} {b:Bk} {ba sa:Option Addr} {bcap scap B m p q:Nat} {fv i k d o:Int} {F:Spt→Option Int} {f:Nat→Int} {W W':World} (h:NS w b ba bcap sa scap B m p q fv i k d o F f W) (i1:w.heap.size≤B) (i2:B < m) (i3:m < p) (i4:p < q)
include h i1 i2 i3 i4
theorem NS.keptQ (e:Kept (fun j=>j≠q) W W') {f':Nat→Int} (hs:SumB W' q f'):NS w b ba bcap sa scap B m p q fv i k d o F f' W' :=
 ⟨Below.trans h.old ((e.mono (T:=fun j=>j < w.heap.size) fun j _ hj=>by omega).below h.old.size),h.bk.of_heap (e.same _ h.bk.lt (by omega)),h.till.of_heap (e.same _ h.till.lt (by omega)),h.map.of_heap (e.same _ h.map.lt (by omega)),hs⟩
theorem NS.keptP (e:Kept (fun j=>j≠p) W W') {fv' i' k' d' o':Int} (ht:Till W' p b ba bcap sa scap fv' m i' k' d' o'):NS w b ba bcap sa scap B m p q fv' i' k' d' o' F f W' :=
 ⟨Below.trans h.old ((e.mono (T:=fun j=>j < w.heap.size) fun j _ hj=>by omega).below h.old.size),h.bk.of_heap (e.same _ h.bk.lt (by omega)),ht,h.map.of_heap (e.same _ h.map.lt (by omega)),h.sums.of_heap (e.same _ h.sums.lt (by omega))⟩
theorem NS.keptM (e:Kept (fun j=>j≠m) W W') {F':Spt→Option Int} (hm:MapIs skey ival W' m F'):NS w b ba bcap sa scap B m p q fv i k d o F' f W' :=
 ⟨Below.trans h.old ((e.mono (T:=fun j=>j < w.heap.size) fun j _ hj=>by omega).below h.old.size),h.bk.of_heap (e.same _ h.bk.lt (by omega)),h.till.of_heap (e.same _ h.till.lt (by omega)),hm,h.sums.of_heap (e.same _ h.sums.lt (by omega))⟩
end
theorem z9o {W:World} {q:Nat} {f:Nat→Int} (h:SumB W q f):SumB (W.setCells q 0 [.int .i64 0,.int .i64 0,.int .i64 0,.int .i64 0,.int .i64 0,.int .i64 0,.int .i64 0,.int .i64 0]) q (fun _=>0) ∧
  Kept (fun j=>j≠q) W (W.setCells q 0 [.int .i64 0,.int .i64 0,.int .i64 0,.int .i64 0,.int .i64 0,.int .i64 0,.int .i64 0,.int .i64 0]):=by
 have hs:=(((((((h.set 0 0).set 1 0).set 2 0).set 3 0).set 4 0).set 5 0).set 6 0).set 7 0
 refine ⟨SumB.congr hs fun j hj=>?_,?_⟩
 ·match j,hj with
  | 0,_=>rfl
  | 1,_=>rfl
  | 2,_=>rfl
  | 3,_=>rfl
  | 4,_=>rfl
  | 5,_=>rfl
  | 6,_=>rfl
  | 7,_=>rfl
 ·exact ((((((((Kept.refl _ W).setCell (p:=⟨q,_,none⟩) (fun _ hn=>hn rfl) _).setCell (p:=⟨q,_,none⟩) (fun _ hn=>hn rfl) _).setCell (p:=⟨q,_,none⟩) (fun _ hn=>hn rfl) _).setCell (p:=⟨q,_,none⟩) (fun _ hn=>hn rfl) _).setCell (p:=⟨q,_,none⟩) (fun _ hn=>hn rfl) _).setCell (p:=⟨q,_,none⟩) (fun _ hn=>hn rfl) _).setCell (p:=⟨q,_,none⟩) (fun _ hn=>hn rfl) _).setCell (p:=⟨q,_,none⟩) (fun _ hn=>hn rfl) _
theorem zub:∀ {l:List Int} (h:0 < l.length),l[0]=l.headD 0
 | _ :: _,_=>rfl
theorem z3z {b:Bk} {x:PB} {k F:Nat} (hk:k < b.bets.length) (hx:b.bets[k]=x) (hF:x.f=(F:Int)) (ho:outB b x.f=false∧outB b x.s=false) (j:Nat) :
  (if j=F then sumB (onF b (F:Int)) (b.bets.take k)+x.u else sumB (onF b (j:Int)) (b.bets.take k))=sumB (onF b (j:Int)) (b.bets.take (k+1)):=by
 rw [zc7 _ hk,hx,onF]
 by_cases e:j=F
 ·subst e;rw [if_pos rfl,if_pos ⟨ho.1,ho.2,hF⟩]
 ·rw [if_neg e,if_neg (fun h=>e (by have:=h.2.2;omega))];omega
theorem zuc {b:Bk} {x:PB} {k:Nat} (hk:k < b.bets.length) (hx:b.bets[k]=x) (ho:¬ (outB b x.f=false∧outB b x.s=false)) (j:Nat) :
  sumB (onF b (j:Int)) (b.bets.take k)=sumB (onF b (j:Int)) (b.bets.take (k+1)):=by
 rw [zc7 _ hk,hx,onF,if_neg (fun h=>ho ⟨h.1,h.2.1⟩)];omega
set_option maxRecDepth 100000 in
set_option maxHeartbeats 4000000 in
theorem zyk (b:Bk) (ba sa:Option Addr) (bcap scap:Nat) (w:World) (hv:IsBook w b ba bcap sa scap) (v:BVal b) :
  Calls Tryz.prog 74 #[.agg #[.int .i64 b.kd,.int .i64 b.n,.slice ba b.bets.length bcap,.slice sa b.scr.length scap,.bool b.fav,.int .i64 b.car,.int .i64 b.duty,.int .i64 b.step]] w (RetTill w b ba bcap sa scap):=by
 have hmm:=@run_makeMap Tryz.prog
 obtain ⟨⟨q1,q2⟩,q3,q4⟩:=hv.caps
 have HV:=Lib.hid hv
 have V:=Lib.hid v
 have hvn:=v.n
 have hvm:=v.many
 clear hv v
 go_enter Tryz.func74,Tryz.ntmps74
 go_upto_region 3 with (fail)
 obtain ⟨W0,hW0⟩:∃ W0,(((w.alloc (.cells #[.int .i64 b.kd,.int .i64 b.n,.slice ba b.bets.length bcap,.slice sa b.scr.length scap,.bool b.fav,.int .i64 b.car,.int .i64 b.duty,.int .i64 b.step] 25)).alloc (.map #[] 0)).alloc (.cells #[.int .i64 b.kd,.int .i64 b.n,.slice ba b.bets.length bcap,.slice sa b.scr.length scap,.bool b.fav,.int .i64 b.car,.int .i64 b.duty,.int .i64 b.step,.int .i64 0,.map (some ((w.heap.size+1))),.int .i64 b.car,.int .i64 0,.int .i64 0,.int .i64 0,.int .i64 0,.int .i64 0] 89)).alloc (.cells #[.int .i64 0,.int .i64 0,.int .i64 0,.int .i64 0,.int .i64 0,.int .i64 0,.int .i64 0,.int .i64 0] 208)=W0:=⟨_,rfl⟩
 have hE:Ext w W0:=by rw [← hW0];exact xx
 have hns:NS w b ba bcap sa scap w.heap.size (w.heap.size+1) (w.heap.size+1+1) (w.heap.size+1+1+1) 0 b.car 0 0 0 (fun _=>none) (fun _=>0) W0:=by
  refine ⟨hE,?_,?_,?_,?_⟩
  ·rw [← hW0];exact ⟨by simp [go_sem],by simp [go_sem],by simp [go_sem],by simp [go_sem],by simp [go_sem],by simp [go_sem],by simp [go_sem],by simp [go_sem]⟩
  ·have:=World.alloc_heap_new ((w.alloc (.cells #[.int .i64 b.kd,.int .i64 b.n,.slice ba b.bets.length bcap,.slice sa b.scr.length scap,.bool b.fav,.int .i64 b.car,.int .i64 b.duty,.int .i64 b.step] 25)).alloc (.map #[] 0)) (.cells #[.int .i64 b.kd,.int .i64 b.n,.slice ba b.bets.length bcap,.slice sa b.scr.length scap,.bool b.fav,.int .i64 b.car,.int .i64 b.duty,.int .i64 b.step,.int .i64 0,.map (some ((w.heap.size+1))),.int .i64 b.car,.int .i64 0,.int .i64 0,.int .i64 0,.int .i64 0,.int .i64 0] 89)
   simp only [World.size_alloc] at this
   unfold Till
   rw [← hW0]
   exact (Below.heap_alloc _ _ _ (by simp)).trans this
  ·have hm:=ztw (K:=Spt) (V:=Int) (ke:=skey) (ve:=ival) (w.alloc (.cells #[.int .i64 b.kd,.int .i64 b.n,.slice ba b.bets.length bcap,.slice sa b.scr.length scap,.bool b.fav,.int .i64 b.car,.int .i64 b.duty,.int .i64 b.step] 25))
   rw [World.size_alloc] at hm
   rw [← hW0]
   exact (hm.of_heap (Below.heap_alloc _ _ _ (by simp))).of_heap (Below.heap_alloc _ _ _ (by simp))
  ·have:=World.alloc_heap_new (((w.alloc (.cells #[.int .i64 b.kd,.int .i64 b.n,.slice ba b.bets.length bcap,.slice sa b.scr.length scap,.bool b.fav,.int .i64 b.car,.int .i64 b.duty,.int .i64 b.step] 25)).alloc (.map #[] 0)).alloc (.cells #[.int .i64 b.kd,.int .i64 b.n,.slice ba b.bets.length bcap,.slice sa b.scr.length scap,.bool b.fav,.int .i64 b.car,.int .i64 b.duty,.int .i64 b.step,.int .i64 0,.map (some ((w.heap.size+1))),.int .i64 b.car,.int .i64 0,.int .i64 0,.int .i64 0,.int .i64 0,.int .i64 0] 89)) (.cells #[.int .i64 0,.int .i64 0,.int .i64 0,.int .i64 0,.int .i64 0,.int .i64 0,.int .i64 0,.int .i64 0] 208)
   simp only [World.size_alloc] at this
   rw [hW0] at this
   exact ⟨_,this,rfl,fun j hj=>by
    match j,hj with
    | 0,_=>rfl
    | 1,_=>rfl
    | 2,_=>rfl
    | 3,_=>rfl
    | 4,_=>rfl
    | 5,_=>rfl
    | 6,_=>rfl
    | 7,_=>rfl⟩
 rw [hW0]
 clear hW0 hE hmm
 obtain ⟨q,hq⟩:∃ q,q=w.heap.size+1+1+1:=⟨_,rfl⟩
 rw [← hq] at hns ⊢
 obtain ⟨p,hp⟩:∃ p,p=w.heap.size+1+1:=⟨_,rfl⟩
 rw [← hp] at hns ⊢
 obtain ⟨m,hm⟩:∃ m,m=w.heap.size+1:=⟨_,rfl⟩
 rw [← hm] at hns ⊢
 obtain ⟨B,hB⟩:∃ B,B=w.heap.size:=⟨_,rfl⟩
 rw [← hB] at hns ⊢
 have i1:w.heap.size≤B:=by omega
 have i2:B < m:=by omega
 have i3:m < p:=by omega
 have i4:p < q:=by omega
 clear hq hp hm hB
 have hclr:∀ ty,(Builtin.clear_ #[143] ty #[.slice (some ⟨q,0,none⟩) 8 8]).run Tryz.prog W0 = .ok (.tuple #[]) (W0.setCells q 0 (List.replicate 8 (.int .i64 0))):=fun ty =>
  Lib.run_clear_slice _ 143 2 ty (.int .i64 0) (by kernel_rfl) (fun w=>by kernel_rfl) rfl rfl q 0 8 8 (by omega) (fun j hj=>by rw [Nat.zero_add,hns.sums.cell j hj];rfl) (fun j hj=>hns.sums.free _)
 have HNS:=Lib.hid hns
 have hz0:=hns.sums.lt
 clear hns
 go_upto_region 4 with (simp only [hclr])
 obtain ⟨W1,hW1⟩:∃ W1,W1=W0.setCells q 0 [.int .i64 0,.int .i64 0,.int .i64 0,.int .i64 0,.int .i64 0,.int .i64 0,.int .i64 0,.int .i64 0]:=⟨_,rfl⟩
 have hns1:NS w b ba bcap sa scap B m p q 0 b.car 0 0 0 (fun _=>none) (fun j=>sumB (onF b (j:Int)) (b.bets.take 0)) W1:=by
  have:=z9o HNS.out.sums
  rw [← hW1] at this
  exact HNS.out.keptQ i1 i2 i3 i4 this.2 (this.1.congr fun j _=>rfl)
 rw [← hW1]
 have HNS1:=Lib.hid hns1
 have hbk:=hns1.bk
 have k0:=(hbk).c0
 have k1:=(hbk).c1
 have k2:=(hbk).c2
 have k3:=(hbk).c3
 have k4:=(hbk).c4
 have k5:=(hbk).c5
 have k6:=(hbk).c6
 have k7:=(hbk).c7
 have hz:=(hbk).lt
 clear hW1 hns1 hbk HNS hclr hz0
 go_wp2_with fail
 clear k0 k1 k2 k3 k4 k5 k6 k7 hz
 go_loopw [6,24] (fun _ iv W=>∃ k:Nat,k≤b.bets.length∧iv = .int .i64 k∧NS w b ba bcap sa scap B m p q 0 b.car 0 0 0 (fun _=>none) (fun j=>sumB (onF b (j:Int)) (b.bets.take k)) W) (fun _ iv _=>b.bets.length - (intOf iv).toNat)
 case atStart=>exact ⟨0,by omega,rfl,HNS1.out⟩
 case round =>
  obtain ⟨k,hk,rfl,hns⟩:=hrel
  have HNS:=Lib.hid hns
  by_cases hlt:k < b.bets.length
  ·have hki:(k:Int) < (b.bets.length:Int):=by omega
   obtain ⟨_,_,eb,-,-,hbc⟩:=(HV.out.ext hns.old).bets.spec
   cases eb
   rcases hbc with hbc | ⟨bb,bo,rfl,hbc⟩
   ·rw [hbc] at hlt;simp at hlt
   obtain ⟨c0,c1,c2⟩:=hbc k hlt
   obtain ⟨x,hx⟩:∃ x,x=b.bets[k]:=⟨_,rfl⟩
   have hxb:=V.out.bet (List.getElem_mem hlt)
   rw [← hx] at c0 c1 c2 hxb
   have hzb:=World.block_lt_of_cell? _ _ c0
   simp only at hzb
   have HX:=Lib.hid hx.symm
   have hrun:=hns.old.size
   have hpz:=hns.till.lt
   have hqz:=hns.sums.lt
   clear hns hbc hx
   go_upto_region 7 with (fail)
   obtain ⟨Z,hZ⟩:∃ Z,Z=wr.alloc (.cells #[.int .i64 x.f,.int .i64 x.s,.int .i64 x.u] 36):=⟨_,rfl⟩
   have z0:Z.cell? ⟨wr.heap.size,0,none⟩=some (.int .i64 x.f):=by rw [hZ];simp [go_sem]
   have z1:Z.cell? ⟨wr.heap.size,1,none⟩=some (.int .i64 x.s):=by rw [hZ];simp [go_sem]
   have z2:Z.cell? ⟨wr.heap.size,2,none⟩=some (.int .i64 x.u):=by rw [hZ];simp [go_sem]
   have hEZ:Ext wr Z:=by rw [hZ];exact xx
   rw [← hZ]
   obtain ⟨bx,hbx⟩:∃ bx,bx=wr.heap.size:=⟨_,rfl⟩
   rw [← hbx] at z0 z1 z2 ⊢
   have HN:=Lib.hid (HNS.out.ext hEZ)
   have HW:=Lib.hid HN.out.old
   have hzz:bx < Z.heap.size:=World.block_lt_of_cell? _ _ z0
   have HSC:=Lib.hid (HV.out.scr.ext HN.out.old)
   have t3:=HN.out.till.c3
   have hzp:=HN.out.till.lt
   have hqx:q < bx:=by omega
   clear hZ hbx hEZ c0 c1 c2 hzb HNS hrun hpz hqz
   go_wp2_with fail
   refine zat (W0:=Z) (g:=⟨Z,Below.refl _ _⟩) xx (zlb b sa scap x.f p _ (zb xx t3) (HSC.out.ext xx)) fun g1 hgr=>?_
   clear hgr
   cases h1:outB b x.f
   rotate_left
   ·have HSK:=Lib.hid (fun j=>zuc hlt HX.out (fun h=>by rw [h1] at h;cases h.1) j)
    clear h1
    go_wp2_with fail
    go_roundw
    case rel =>
     exact ⟨k+1,by omega,by go_num,(HN.out.ext (zi Z _)).congr HSK.out⟩
    case measure=>simp [intOf];omega
   go_wp2_with fail
   refine zat (W0:=Z) (g:=g1) xx (zlb b sa scap x.s p _ (zb xx t3) (HSC.out.ext xx)) fun g2 hgr=>?_
   clear hgr
   cases h2:outB b x.s
   rotate_left
   ·have HSK:=Lib.hid (fun j=>zuc hlt HX.out (fun h=>by rw [h2] at h;cases h.2) j)
    clear h1 h2
    go_wp2_with fail
    go_roundw
    case rel =>
     exact ⟨k+1,by omega,by go_num,(HN.out.ext (zi Z _)).congr HSK.out⟩
    case measure=>simp [intOf];omega
   obtain ⟨F,hF⟩:∃ F:Nat,x.f=F:=⟨x.f.toNat,by omega⟩
   have HST:=Lib.hid (fun j=>z3z hlt HX.out hF ⟨h1,h2⟩ j)
   clear h1 h2
   go_upto_region 8 with (fail)
   obtain ⟨Y,hY⟩:∃ zz9,zz9=(grow Z g2):=⟨_,rfl⟩
   have eY:Ext Z Y:=by rw [hY];exact xx
   replace z0:=zb eY z0
   replace z1:=zb eY z1
   replace z2:=zb eY z2
   replace t3:=zb eY t3
   replace HN:=Lib.hid (HN.out.ext eY)
   replace HSC:=Lib.hid (HSC.out.ext eY)
   replace HW:=Lib.hid (HW.out.trans' eY)
   rw [← hY]
   replace hzz:=World.block_lt_of_cell? _ _ z0
   replace hzp:=World.block_lt_of_cell? _ _ t3
   clear hY eY
   have hF8:F < 8:=by omega
   have hFi:(F:Int) < 8:=by omega
   have hsb:=z8a V.out (F:Int) k
   have s0:=HN.out.sums.cell F hF8
   have sf:=HN.out.sums.free F
   have hyq:=HN.out.sums.lt
   obtain ⟨sv,hsv⟩:∃ sv,sv=sumB (onF b (F:Int)) (b.bets.take k):=⟨_,rfl⟩
   rw [← hsv] at s0 hsb
   rw [hF] at z0
   obtain ⟨u,hu⟩:∃ u,u=x.u:=⟨_,rfl⟩
   have hub:1≤u∧u≤1000:=by rw [hu];exact hxb.1
   rw [← hu] at z2
   have hwu:IntKind.i64.wrap (sv+u)=sv+u:=IntWalk.i64_in _ (by omega)
   have HSV:=Lib.hid hsv
   have HU:=Lib.hid hu
   clear hsv hu
   obtain ⟨Z2,hZ2⟩:∃ Z2,Z2=Y:=⟨_,rfl⟩
   subst hZ2
   refine zas rfl rfl (by kernel_rfl) (Z2.heap.size) (Nat.le_refl _)
    [sqV (.pointer (some ⟨bx,0,none⟩)),sqV (.int .i64 F),sqV (.pointer (some ⟨q,F,none⟩)),sqV (.int .i64 sv),sqV (.pointer (some ⟨bx,2,none⟩)),sqV (.int .i64 u),sqV (.int .i64 (sv+u)),sqV (.pointer (some ⟨q,F,none⟩))]
    [true,true,true,true,true,true,true,true] [false,false,false,false,false,false,false,false] [true,true,true,true,true,true,true,true] [true,true,true,true,true,true,true,true]
    (by kernel_rfl) (by kernel_rfl) (by decide +kernel) (by decide +kernel) (by decide +kernel) rfl ⟨rfl,rfl⟩ ⟨?s0,?s1,?s2,?s3,?s4,?s5,?s6,?s7,trivial⟩ [some 40,some 41,some 42,some 43,some 44,some 45,some 46,some 47] rfl rfl ?send
   case s0 =>
    intro val ρ W hE hz hd hA hx
    have o0:ρ (.tmp 6) = .pointer (some ⟨bx,0,none⟩):=hA.old 6 (by decide)
    clear hd
    exact zd (W':=W) (by simp [execOp,o0,go_sem]) (Below.refl _ _) rfl
   case s1 =>
    intro val ρ W hE hz hd hA hx
    have d0:ρ (.tmp 40) = .pointer (some ⟨bx,0,none⟩):=(hA.dep 0 (by decide) 40 rfl).trans (hd 0 (by decide))
    have f_z0:=cell_below hE (by simp only;omega) z0
    clear hd
    exact zd (W':=W) (by simp [execOp,d0,f_z0,go_sem]) (Below.refl _ _) rfl
   case s2 =>
    intro val ρ W hE hz hd hA hx
    have d1:ρ (.tmp 41) = .int .i64 F:=(hA.dep 1 (by decide) 41 rfl).trans (hd 1 (by decide))
    have o0:ρ (.tmp 4) = .pointer (some ⟨q,0,none⟩):=hA.old 4 (by decide)
    clear hd
    exact zd (W':=W) (by simp [execOp,d1,o0,hFi,go_sem]) (Below.refl _ _) rfl
   case s3 =>
    intro val ρ W hE hz hd hA hx
    have d2:ρ (.tmp 42) = .pointer (some ⟨q,F,none⟩):=(hA.dep 2 (by decide) 42 rfl).trans (hd 2 (by decide))
    have f_s0:=cell_below hE (by simp only;omega) s0
    clear hd
    exact zd (W':=W) (by simp [execOp,d2,f_s0,go_sem]) (Below.refl _ _) rfl
   case s4 =>
    intro val ρ W hE hz hd hA hx
    have o0:ρ (.tmp 6) = .pointer (some ⟨bx,0,none⟩):=hA.old 6 (by decide)
    clear hd
    exact zd (W':=W) (by simp [execOp,o0,go_sem]) (Below.refl _ _) rfl
   case s5 =>
    intro val ρ W hE hz hd hA hx
    have d4:ρ (.tmp 44) = .pointer (some ⟨bx,2,none⟩):=(hA.dep 4 (by decide) 44 rfl).trans (hd 4 (by decide))
    have f_z2:=cell_below hE (by simp only;omega) z2
    clear hd
    exact zd (W':=W) (by simp [execOp,d4,f_z2,go_sem]) (Below.refl _ _) rfl
   case s6 =>
    intro val ρ W hE hz hd hA hx
    have d3:ρ (.tmp 43) = .int .i64 sv:=(hA.dep 3 (by decide) 43 rfl).trans (hd 3 (by decide))
    have d5:ρ (.tmp 45) = .int .i64 u:=(hA.dep 5 (by decide) 45 rfl).trans (hd 5 (by decide))
    clear hd
    exact zd (W':=W) (by simp [execOp,d3,d5,hwu,go_sem]) (Below.refl _ _) rfl
   case s7 =>
    intro val ρ W hE hz hd hA hx
    have d1:ρ (.tmp 41) = .int .i64 F:=(hA.dep 1 (by decide) 41 rfl).trans (hd 1 (by decide))
    have o0:ρ (.tmp 4) = .pointer (some ⟨q,0,none⟩):=hA.old 4 (by decide)
    clear hd
    exact zd (W':=W) (by simp [execOp,d1,o0,hFi,go_sem]) (Below.refl _ _) rfl
   case send =>
    intro val WX hE hzz2 hv
    obtain ⟨-,-,-,-,-,-,q6,q7,-⟩:=hv
    have q6':val 6 = .int .i64 (sv+u):=q6
    have q7':val 7 = .pointer (some ⟨q,F,none⟩):=q7
    have hEX:Ext Z2 WX:=hE
    have HNX:=Lib.hid (HN.out.ext hEX)
    have x0:=HNX.out.sums.cell F hF8
    have xf:=HNX.out.sums.free F
    have xq:=HNX.out.sums.lt
    simp only [putD,q6',q7']
    go_frame
    clear q6 q6' q7 q7' hE hzz2 hEX s0 sf hyq z0 z1 z2 t3 hwu hzz hzp
    go_wp2_with fail
    go_roundw
    case rel =>
     refine ⟨k+1,by omega,by go_num,HNX.out.keptQ i1 i2 i3 i4 ((Kept.refl _ _).setCell (fun _ hn=>hn rfl) _) ((HNX.out.sums.set F (sv+u)).congr fun j _=>?_)⟩
     have:=HST.out j
     rw [← HSV.out,← HU.out] at this
     exact this
    case measure=>simp [intOf];omega
  ·have hki:¬ ((k:Int) < (b.bets.length:Int)):=by omega
   have hke:k=b.bets.length:=by omega
   rw [hke,List.take_length] at hns
   have HN:=Lib.hid hns
   clear hns hke HNS
   go_upto_region 10 with (fail)
   obtain ⟨Y0,hY0⟩:∃ Y0,Y0=wr:=⟨_,rfl⟩
   subst hY0
   have HSC:=Lib.hid (HV.out.scr.ext HN.out.old)
   have t1:=HN.out.till.c1
   have t3:=HN.out.till.c3
   have t8:=HN.out.till.c8
   have f8:=HN.out.till.fr 8
   have hzp:=HN.out.till.lt
   go_wp2_with fail
   refine zw5 (W0:=Y0) (g:=⟨Y0,Below.refl _ _⟩) xx (zpt b sa scap p _ hvn (zb xx t1) (zb xx t3) (HSC.out.ext xx)) (fun _ _ ⟨_,_,r,_⟩=>r) fun _ g1 hgr hr=>?_
   obtain ⟨lv,rfl,-,hown⟩:=hr
   clear hgr
   have hl2:=zf0 V.out
   have hl8:=zo7 V.out
   have hlm:=fun x (h:x∈runL b)=>runL_mem.1 h
   obtain ⟨la,lc,rfl,hlc1,hlc2,-⟩:=hown.oneInts.spec
   have HL:=Lib.hid hown.oneInts
   have HO:=Lib.hid (hown.base (B':=Y0.heap.size) (by first | exact Nat.le_refl _ | exact (by exact xx:Ext Y0 _).size))
   obtain ⟨lb,lo,rfl,hlbz,hlcell⟩:∃ lb lo,la=some ⟨lb,lo,none⟩∧lb < (grow Y0 g1).heap.size∧(grow Y0 g1).cell? ⟨lb,lo,none⟩=some (.int .i64 ((runL b).headD 0)):=by
    obtain ⟨_,_,e,-,-,hcc⟩:=HL.out.spec
    cases e
    rcases hcc with hcc | ⟨g',o',e,hcc⟩
    ·rw [hcc] at hl2;simp at hl2
    ·have:=hcc 0 (by omega)
     rw [Nat.add_zero] at this
     exact ⟨g',o',e,World.block_lt_of_cell? _ _ this,by rw [this,zub (by omega)]⟩
   have hfm:=z5p V.out
   have HLM:=Lib.hid hlm
   clear hown hfm hlm
   obtain ⟨L,hL⟩:∃ L,L=runL b:=⟨_,rfl⟩
   rw [← hL] at hl2 hl8 hlc1 HL HO hlcell HLM ⊢
   obtain ⟨l0,hl0⟩:∃ l0,l0=L.headD 0:=⟨_,rfl⟩
   rw [← hl0] at hlcell
   have hli:(0:Int) < (L.length:Int):=by omega
   have HLE:=Lib.hid hL
   have HL0:=Lib.hid hl0
   clear hL hl0 HL
   go_upto_region 12 with (fail)
   obtain ⟨W5,hW5⟩:∃ W5,W5=(grow Y0 g1).setCell ⟨p,8,none⟩ (.int .i64 l0):=⟨_,rfl⟩
   have hG:NS w b ba bcap sa scap B m p q 0 b.car 0 0 0 (fun _=>none) (fun j=>sumB (onF b (j:Int)) b.bets) (grow Y0 g1):=HN.out.ext (by exact xx)
   have hN5:NS w b ba bcap sa scap B m p q l0 b.car 0 0 0 (fun _=>none) (fun j=>sumB (onF b (j:Int)) b.bets) W5:=by
    rw [hW5]
    exact hG.keptP i1 i2 i3 i4 ((Kept.refl _ _).setCell (fun _ hn=>hn rfl) _) (hG.till.setF l0)
   have hO5:Owns W5 Y0.heap.size 3 1 (.slice (some ⟨lb,lo,none⟩) L.length lc) (L.map iRow):=by
    rw [hW5]
    exact HO.out.of_heap fun k hk _=>Below.heap_setCell _ _ _ _ (by simp only;omega)
   have hp8:=hN5.till.lt
   rw [← hW5]
   have HN5:=Lib.hid hN5
   have HL5:=Lib.hid hO5.oneInts
   obtain ⟨fs,hfs⟩:∃ fs:Nat→Int,fs=fun (j:Nat)=>sumB (onF b (j:Int)) b.bets:=⟨_,rfl⟩
   rw [← hfs] at hN5
   have HFS:=Lib.hid hfs
   have HM5:=Lib.hid hN5.sums
   have s0:=hN5.sums.cell 0 (by omega)
   have s1:=hN5.sums.cell 1 (by omega)
   have s2:=hN5.sums.cell 2 (by omega)
   have s3:=hN5.sums.cell 3 (by omega)
   have s4:=hN5.sums.cell 4 (by omega)
   have s5:=hN5.sums.cell 5 (by omega)
   have s6:=hN5.sums.cell 6 (by omega)
   have s7:=hN5.sums.cell 7 (by omega)
   have hq5:=hN5.sums.lt
   obtain ⟨r8,hr8⟩:∃ r8,r8=(fs 0 == 0 && (fs 1 == 0 && (fs 2 == 0 && (fs 3 == 0 && (fs 4 == 0 && (fs 5 == 0 && (fs 6 == 0 && (fs 7 == 0)))))))):=⟨_,rfl⟩
   have hne:=neq8 fs r8 hr8
   have HR8:=Lib.hid hr8
   clear hr8 hN5 hO5 hG hfs hW5 HN HO t1 t3 t8 f8 hlcell hlbz HSC
   go_upto_if 59 with (simp only [hne])
   go_cut [] from 51 (fun wx=>NS w b ba bcap sa scap B m p q (favP b) b.car 0 0 0 (fun _=>none) fs wx)
   case first =>
    cases r8
    ·go_wp2_with fail
     refine (z5r L _ q fs (zbe b) _ (HL5.out.ext (by exact xx)) (by omega) (fun x hx=>by have:=HLM.out x hx;omega) (fun j _=>by rw [HFS.out];rfl) (HM5.out.of_heap rfl)).mono ?_
     rintro e W6 ⟨he,hE6⟩
     rw [show za7 (zbe b) (L.headD 0) L=favP b by rw [HLE.out];rfl] at he
     subst he
     have hN6:=HN5.out.ext (Ext.trans' (by exact xx) hE6)
     have t8:=hN6.till.c8
     have f8:=hN6.till.fr 8
     have hp6:=hN6.till.lt
     have HN6:=Lib.hid hN6
     clear hN6 hE6 hne s0 s1 s2 s3 s4 s5 s6 s7
     go_wp2_with fail
     go_meet
     rw [HFS.out]
     exact HN6.out.keptP i1 i2 i3 i4 ((Kept.refl _ _).setCell (fun _ hn=>hn rfl) _) (HN6.out.till.setF (favP b))
    ·have hz:∀ x∈L,zbe b x=zbe b l0:=fun x hx=>by
      have h8:=HR8.out.symm
      simp only [Bool.and_eq_true,beq_iff_eq] at h8
      have key:∀ y,0≤y→y < 8→zbe b y=0:=fun y h1 h2=>by
       obtain ⟨j,rfl⟩:∃ j:Nat,y=j:=⟨y.toNat,by omega⟩
       have e:fs j=zbe b j:=by rw [HFS.out];rfl
       rw [← e]
       match j,(show j < 8 by omega) with
       | 0,_=>exact h8.1
       | 1,_=>exact h8.2.1
       | 2,_=>exact h8.2.2.1
       | 3,_=>exact h8.2.2.2.1
       | 4,_=>exact h8.2.2.2.2.1
       | 5,_=>exact h8.2.2.2.2.2.1
       | 6,_=>exact h8.2.2.2.2.2.2.1
       | 7,_=>exact h8.2.2.2.2.2.2.2
      have hx1:=HLM.out x hx
      have hl1:=HLM.out l0 (by rw [HL0.out,← zub (by omega)];exact List.getElem_mem _)
      rw [key x (by omega) (by omega),key l0 (by omega) (by omega)]
     have hfv:l0=favP b:=by
      unfold favP
      rw [← HLE.out,← HL0.out]
      exact (zsb _ _ _ hz).symm
     have HFV:=Lib.hid hfv
     clear hz hfv hne s0 s1 s2 s3 s4 s5 s6 s7
     go_wp2_with fail
     go_meet
     rw [← HFV.out,HFS.out]
     exact HN5.out
   case rest =>
    obtain ⟨W7,rfl⟩:∃ W7,W7=wc:=⟨_,rfl⟩
    have HN7:=Lib.hid hcut
    clear hcut hne s0 s1 s2 s3 s4 s5 s6 s7
    have hbk7:=HN7.out.bk
    have k0:=(hbk7).c0
    have k1:=(hbk7).c1
    have k2:=(hbk7).c2
    have k3:=(hbk7).c3
    have k4:=(hbk7).c4
    have k5:=(hbk7).c5
    have k6:=(hbk7).c6
    have k7:=(hbk7).c7
    have hz:=(hbk7).lt
    clear hbk7
    go_upto_region 16 with (fail)
    clear k0 k1 k2 k3 k4 k5 k6 k7 hz HN5 HL5 HM5 HR8 HLM hp8 hq5
    go_loopw [10,11,12,71] (fun _ _ _ iv W=>∃ k:Nat,k≤b.bets.length∧iv = .int .i64 k∧NS w b ba bcap sa scap B m p q (favP b) (b.car+sumB (fun x=>100 * x.u) (b.bets.take k)) (sumB (zcp b) (b.bets.take k)) 0 0 (za9 b (b.bets.take k)) fs W) (fun _ _ _ iv _=>b.bets.length - (intOf iv).toNat)
    case atStart =>
     refine ⟨0,by omega,rfl,?_⟩
     have h:=HN7.out
     rw [← z08 b] at h
     simpa [sumB] using h
    case round =>
     obtain ⟨k,hk,rfl,hns⟩:=hrel
     have HNS:=Lib.hid hns
     by_cases hlt:k < b.bets.length
     ·have hki:(k:Int) < (b.bets.length:Int):=by omega
      obtain ⟨_,_,eb,-,-,hbc⟩:=(HV.out.ext hns.old).bets.spec
      cases eb
      rcases hbc with hbc | ⟨bb,bo,rfl,hbc⟩
      ·rw [hbc] at hlt;simp at hlt
      obtain ⟨c0,c1,c2⟩:=hbc k hlt
      obtain ⟨x,hx⟩:∃ x,x=b.bets[k]:=⟨_,rfl⟩
      have hxb:=V.out.bet (List.getElem_mem hlt)
      rw [← hx] at c0 c1 c2 hxb
      have hzb:=World.block_lt_of_cell? _ _ c0
      simp only at hzb
      have HX:=Lib.hid hx.symm
      have hpz:=hns.till.lt
      have hqz:=hns.sums.lt
      clear hns hbc hx
      go_upto_region 18 with (fail)
      obtain ⟨Z,hZ⟩:∃ Z,Z=wr.alloc (.cells #[.int .i64 x.f,.int .i64 x.s,.int .i64 x.u] 36):=⟨_,rfl⟩
      have z0:Z.cell? ⟨wr.heap.size,0,none⟩=some (.int .i64 x.f):=by rw [hZ];simp [go_sem]
      have z1:Z.cell? ⟨wr.heap.size,1,none⟩=some (.int .i64 x.s):=by rw [hZ];simp [go_sem]
      have z2:Z.cell? ⟨wr.heap.size,2,none⟩=some (.int .i64 x.u):=by rw [hZ];simp [go_sem]
      have hEZ:Ext wr Z:=by rw [hZ];exact xx
      rw [← hZ]
      obtain ⟨bx,hbx⟩:∃ bx,bx=wr.heap.size:=⟨_,rfl⟩
      rw [← hbx] at z0 z1 z2 ⊢
      have HN:=Lib.hid (HNS.out.ext hEZ)
      have hzz:bx < Z.heap.size:=World.block_lt_of_cell? _ _ z0
      have hqx:q < bx:=by omega
      clear hZ hbx hEZ c0 c1 c2 hzb HNS hpz hqz
      obtain ⟨I,hI⟩:∃ I,I=b.car+sumB (fun x=>100 * x.u) (b.bets.take k):=⟨_,rfl⟩
      have hcb:=V.out.car
      have hib:=z6w V.out k
      have hbb:=zzr V.out k
      have hub:=hxb.1
      have hIb:0≤I∧I≤11000000:=by omega
      have hIn:=zc7 (fun x=>100 * x.u) hlt
      have hBn:=zc7 (zcp b) hlt
      rw [HX.out] at hIn hBn
      have hN0:=HN.out
      rw [← hI] at hN0
      have t10:=hN0.till.c10
      have hzp:=hN0.till.lt
      have hwm:IntKind.i64.wrap (100 * x.u)=100 * x.u:=IntWalk.i64_in _ (by omega)
      have hwa:IntKind.i64.wrap (I+100 * x.u)=I+100 * x.u:=IntWalk.i64_in _ (by omega)
      have HIB:=Lib.hid hIb
      have HIN:=Lib.hid (show I+100 * x.u=b.car+sumB (fun x=>100 * x.u) (b.bets.take (k+1)) by omega)
      have HBN:=Lib.hid hBn
      have HBB:=Lib.hid hbb
      have HIB2:=Lib.hid hib
      have HN0:=Lib.hid hN0
      have HTK:=Lib.hid (show b.bets.take (k+1)=b.bets.take k ++ [x] by rw [List.take_add_one,List.getElem?_eq_getElem hlt,HX.out];rfl)
      clear hcb hib hbb hIn hBn hN0 hI hIb HN
      refine zas rfl rfl (by kernel_rfl) (Z.heap.size) (Nat.le_refl _)
       [sqV (.pointer (some ⟨p,0,none⟩)),sqV (.pointer (some ⟨p,0,none⟩)),sqV (.pointer (some ⟨p,10,none⟩)),sqV (.pointer (some ⟨p,10,none⟩)),sqV (.int .i64 I),sqV (.pointer (some ⟨bx,2,none⟩)),sqV (.int .i64 x.u),sqV (.int .i64 (100 * x.u)),sqV (.int .i64 (I+100 * x.u)),sqV (.pointer (some ⟨p,0,none⟩)),sqV (.pointer (some ⟨p,10,none⟩)),sqV (.pointer (some ⟨p,10,none⟩))]
       [true,true,true,true,true,true,true,true,true,true,true,true] [false,false,false,false,false,false,false,false,false,false,false,false] [true,true,true,true,true,true,true,true,true,true,true,true] [true,true,true,true,true,true,true,true,true,true,true,true]
       (by kernel_rfl) (by kernel_rfl) (by decide +kernel) (by decide +kernel) (by decide +kernel) rfl ⟨rfl,rfl⟩ ⟨?s0,?s1,?s2,?s3,?s4,?s5,?s6,?s7,?s8,?s9,?s10,?s11,trivial⟩ [some 75,some 76,some 77,some 78,some 79,some 80,some 81,some 82,some 83,some 84,some 85,some 86] rfl rfl ?send
      case s0 =>
       intro val ρ W hE hz hd hA hx
       have o0:ρ (.tmp 3) = .pointer (some ⟨p,0,none⟩):=hA.old 3 (by decide)
       clear hd
       exact zd (W':=W) (by simp [execOp,o0,go_sem]) (Below.refl _ _) rfl
      case s1 =>
       intro val ρ W hE hz hd hA hx
       have d0:ρ (.tmp 75) = .pointer (some ⟨p,0,none⟩):=(hA.dep 0 (by decide) 75 rfl).trans (hd 0 (by decide))
       clear hd
       exact zd (W':=W) (by simp [execOp,d0,go_sem]) (Below.refl _ _) rfl
      case s2 =>
       intro val ρ W hE hz hd hA hx
       have d1:ρ (.tmp 76) = .pointer (some ⟨p,0,none⟩):=(hA.dep 1 (by decide) 76 rfl).trans (hd 1 (by decide))
       clear hd
       exact zd (W':=W) (by simp [execOp,d1,go_sem]) (Below.refl _ _) rfl
      case s3 =>
       intro val ρ W hE hz hd hA hx
       have d2:ρ (.tmp 77) = .pointer (some ⟨p,10,none⟩):=(hA.dep 2 (by decide) 77 rfl).trans (hd 2 (by decide))
       clear hd
       exact zd (W':=W) (by simp [execOp,d2,go_sem]) (Below.refl _ _) rfl
      case s4 =>
       intro val ρ W hE hz hd hA hx
       have d3:ρ (.tmp 78) = .pointer (some ⟨p,10,none⟩):=(hA.dep 3 (by decide) 78 rfl).trans (hd 3 (by decide))
       have f_t10:=cell_below hE (by simp only;omega) t10
       clear hd
       exact zd (W':=W) (by simp [execOp,d3,f_t10,go_sem]) (Below.refl _ _) rfl
      case s5 =>
       intro val ρ W hE hz hd hA hx
       have o0:ρ (.tmp 10) = .pointer (some ⟨bx,0,none⟩):=hA.old 10 (by decide)
       clear hd
       exact zd (W':=W) (by simp [execOp,o0,go_sem]) (Below.refl _ _) rfl
      case s6 =>
       intro val ρ W hE hz hd hA hx
       have d5:ρ (.tmp 80) = .pointer (some ⟨bx,2,none⟩):=(hA.dep 5 (by decide) 80 rfl).trans (hd 5 (by decide))
       have f_z2:=cell_below hE (by simp only;omega) z2
       clear hd
       exact zd (W':=W) (by simp [execOp,d5,f_z2,go_sem]) (Below.refl _ _) rfl
      case s7 =>
       intro val ρ W hE hz hd hA hx
       have d6:ρ (.tmp 81) = .int .i64 x.u:=(hA.dep 6 (by decide) 81 rfl).trans (hd 6 (by decide))
       clear hd
       exact zd (W':=W) (by simp [execOp,hA.const,d6,hwm,go_sem]) (Below.refl _ _) rfl
      case s8 =>
       intro val ρ W hE hz hd hA hx
       have d4:ρ (.tmp 79) = .int .i64 I:=(hA.dep 4 (by decide) 79 rfl).trans (hd 4 (by decide))
       have d7:ρ (.tmp 82) = .int .i64 (100 * x.u):=(hA.dep 7 (by decide) 82 rfl).trans (hd 7 (by decide))
       clear hd
       exact zd (W':=W) (by simp [execOp,d4,d7,hwa,go_sem]) (Below.refl _ _) rfl
      case s9 =>
       intro val ρ W hE hz hd hA hx
       have d0:ρ (.tmp 75) = .pointer (some ⟨p,0,none⟩):=(hA.dep 0 (by decide) 75 rfl).trans (hd 0 (by decide))
       clear hd
       exact zd (W':=W) (by simp [execOp,d0,go_sem]) (Below.refl _ _) rfl
      case s10 =>
       intro val ρ W hE hz hd hA hx
       have d9:ρ (.tmp 84) = .pointer (some ⟨p,0,none⟩):=(hA.dep 9 (by decide) 84 rfl).trans (hd 9 (by decide))
       clear hd
       exact zd (W':=W) (by simp [execOp,d9,go_sem]) (Below.refl _ _) rfl
      case s11 =>
       intro val ρ W hE hz hd hA hx
       have d10:ρ (.tmp 85) = .pointer (some ⟨p,10,none⟩):=(hA.dep 10 (by decide) 85 rfl).trans (hd 10 (by decide))
       clear hd
       exact zd (W':=W) (by simp [execOp,d10,go_sem]) (Below.refl _ _) rfl
      case send =>
       intro val WX hE hzz2 hv
       obtain ⟨-,-,-,-,-,-,-,-,r8,-,-,r11,-⟩:=hv
       have r8':val 8 = .int .i64 (I+100 * x.u):=r8
       have r11':val 11 = .pointer (some ⟨p,10,none⟩):=r11
       have hEX:Ext Z WX:=hE
       have HNX:=Lib.hid (HN0.out.ext hEX)
       have y0:=zb hEX z0
       have y1:=zb hEX z1
       have y2:=zb hEX z2
       have x0:=HNX.out.till.c10
       have xf:=HNX.out.till.fr 10
       have xq:=HNX.out.till.lt
       simp only [putD,r8',r11']
       go_frame
       clear r8 r8' r11 r11' hE hzz2 hEX t10 z0 z1 z2 hwm hwa hzz hzp HN0
       go_upto_region 19 with (fail)
       obtain ⟨Y,hY⟩:∃ Y,Y=WX.setCell ⟨p,10,none⟩ (.int .i64 (I+100 * x.u)):=⟨_,rfl⟩
       have hkY:Kept (fun j=>j≠p) WX Y:=by rw [hY];exact (Kept.refl _ _).setCell (fun _ hn=>hn rfl) _
       have hNY:=HNX.out.keptP i1 i2 i3 i4 hkY (by rw [hY];exact HNX.out.till.setI (I+100 * x.u))
       have w0:=hkY.cell y0 (by show bx≠p;omega)
       have w1:=hkY.cell y1 (by show bx≠p;omega)
       have w2:=hkY.cell y2 (by show bx≠p;omega)
       have hzw:=World.block_lt_of_cell? _ _ w0
       simp only at hzw
       rw [← hY]
       have HNY:=Lib.hid hNY
       have HW:=Lib.hid hNY.old
       have HSC:=Lib.hid (HV.out.scr.ext hNY.old)
       have t8:=hNY.till.c8
       have t9:=hNY.till.c9
       have t11:=hNY.till.c11
       have f11:=hNY.till.fr 11
       have hzp:=hNY.till.lt
       clear hkY hNY hY y0 y1 y2 x0 xf xq HNX
       go_wp2_with fail
       refine zat (W0:=Y) (g:=⟨Y,Below.refl _ _⟩) xx (z9j b (some ⟨bb,bo,none⟩) sa bcap scap (favP b) x p _ (HNY.out.ext xx).till.book (zb xx t8) (HSC.out.ext xx)) fun g1 hgr=>?_
       clear hgr
       rw [← z9i]
       rcases ho:onP b x with _ | ⟨s1,s2⟩
       ·simp only [Option.getD,Option.isSome]
        go_upto_region 22 with (fail)
        obtain ⟨Q,hQ⟩:∃ zz9,zz9=(grow Y g1).alloc (.cells #[.int .i64 0,.int .i64 0] 132):=⟨_,rfl⟩
        have eQ:Ext Y Q:=by rw [hQ];exact xx
        replace w0:=zb eQ w0
        replace w1:=zb eQ w1
        replace w2:=zb eQ w2
        replace t8:=zb eQ t8
        replace t9:=zb eQ t9
        replace t11:=zb eQ t11
        replace HNY:=Lib.hid (HNY.out.ext eQ)
        replace HSC:=Lib.hid (HSC.out.ext eQ)
        replace HW:=Lib.hid (HW.out.trans' eQ)
        rw [← hQ]
        replace hzw:=World.block_lt_of_cell? _ _ w0
        replace hzp:=World.block_lt_of_cell? _ _ t8
        clear hQ eQ
        obtain ⟨bk,hbk⟩:∃ bk,bk=sumB (zcp b) (b.bets.take k):=⟨_,rfl⟩
        have hbkb:0≤bk∧bk≤10000000:=by have:=HBB.out;have:=HIB2.out;omega
        have hbg:zcp b x=100 * x.u:=by unfold zcp;rw [if_pos ho]
        have hBN:=HBN.out
        rw [hbg,← hbk] at hBN
        have hN1:=HNY.out
        rw [← hbk] at hN1
        have t11b:=hN1.till.c11
        have hwm:IntKind.i64.wrap (100 * x.u)=100 * x.u:=IntWalk.i64_in _ (by omega)
        have hwa:IntKind.i64.wrap (bk+100 * x.u)=bk+100 * x.u:=IntWalk.i64_in _ (by omega)
        have HBN2:=Lib.hid hBN
        have HN1:=Lib.hid hN1
        have HUO:=Lib.hid (show za9 b (b.bets.take (k+1))=za9 b (b.bets.take k) by rw [HTK.out];exact z09 ho)
        clear hbk hbkb hbg hBN hN1 t11 ho
        obtain ⟨Q2,hQ2⟩:∃ Q2,Q2=Q:=⟨_,rfl⟩
        subst hQ2
        refine zas rfl rfl (by kernel_rfl) (Q2.heap.size) (Nat.le_refl _)
         [sqV (.pointer (some ⟨p,0,none⟩)),sqV (.pointer (some ⟨p,0,none⟩)),sqV (.pointer (some ⟨p,10,none⟩)),sqV (.pointer (some ⟨p,11,none⟩)),sqV (.int .i64 bk),sqV (.pointer (some ⟨bx,2,none⟩)),sqV (.int .i64 x.u),sqV (.int .i64 (100 * x.u)),sqV (.int .i64 (bk+100 * x.u)),sqV (.pointer (some ⟨p,0,none⟩)),sqV (.pointer (some ⟨p,10,none⟩)),sqV (.pointer (some ⟨p,11,none⟩))]
         [true,true,true,true,true,true,true,true,true,true,true,true] [false,false,false,false,false,false,false,false,false,false,false,false] [true,true,true,true,true,true,true,true,true,true,true,true] [true,true,true,true,true,true,true,true,true,true,true,true]
         (by kernel_rfl) (by kernel_rfl) (by decide +kernel) (by decide +kernel) (by decide +kernel) rfl ⟨rfl,rfl⟩ ⟨?s0,?s1,?s2,?s3,?s4,?s5,?s6,?s7,?s8,?s9,?s10,?s11,trivial⟩ [some 105,some 106,some 107,some 108,some 109,some 110,some 111,some 112,some 113,some 114,some 115,some 116] rfl rfl ?send
        case s0 =>
         intro val ρ W hE hz hd hA hx
         have o0:ρ (.tmp 3) = .pointer (some ⟨p,0,none⟩):=hA.old 3 (by decide)
         clear hd
         exact zd (W':=W) (by simp [execOp,o0,go_sem]) (Below.refl _ _) rfl
        case s1 =>
         intro val ρ W hE hz hd hA hx
         have d0:ρ (.tmp 105) = .pointer (some ⟨p,0,none⟩):=(hA.dep 0 (by decide) 105 rfl).trans (hd 0 (by decide))
         clear hd
         exact zd (W':=W) (by simp [execOp,d0,go_sem]) (Below.refl _ _) rfl
        case s2 =>
         intro val ρ W hE hz hd hA hx
         have d1:ρ (.tmp 106) = .pointer (some ⟨p,0,none⟩):=(hA.dep 1 (by decide) 106 rfl).trans (hd 1 (by decide))
         clear hd
         exact zd (W':=W) (by simp [execOp,d1,go_sem]) (Below.refl _ _) rfl
        case s3 =>
         intro val ρ W hE hz hd hA hx
         have d2:ρ (.tmp 107) = .pointer (some ⟨p,10,none⟩):=(hA.dep 2 (by decide) 107 rfl).trans (hd 2 (by decide))
         clear hd
         exact zd (W':=W) (by simp [execOp,d2,go_sem]) (Below.refl _ _) rfl
        case s4 =>
         intro val ρ W hE hz hd hA hx
         have d3:ρ (.tmp 108) = .pointer (some ⟨p,11,none⟩):=(hA.dep 3 (by decide) 108 rfl).trans (hd 3 (by decide))
         have f_t11b:=cell_below hE (by simp only;omega) t11b
         clear hd
         exact zd (W':=W) (by simp [execOp,d3,f_t11b,go_sem]) (Below.refl _ _) rfl
        case s5 =>
         intro val ρ W hE hz hd hA hx
         have o0:ρ (.tmp 10) = .pointer (some ⟨bx,0,none⟩):=hA.old 10 (by decide)
         clear hd
         exact zd (W':=W) (by simp [execOp,o0,go_sem]) (Below.refl _ _) rfl
        case s6 =>
         intro val ρ W hE hz hd hA hx
         have d5:ρ (.tmp 110) = .pointer (some ⟨bx,2,none⟩):=(hA.dep 5 (by decide) 110 rfl).trans (hd 5 (by decide))
         have f_w2:=cell_below hE (by simp only;omega) w2
         clear hd
         exact zd (W':=W) (by simp [execOp,d5,f_w2,go_sem]) (Below.refl _ _) rfl
        case s7 =>
         intro val ρ W hE hz hd hA hx
         have d6:ρ (.tmp 111) = .int .i64 x.u:=(hA.dep 6 (by decide) 111 rfl).trans (hd 6 (by decide))
         clear hd
         exact zd (W':=W) (by simp [execOp,hA.const,d6,hwm,go_sem]) (Below.refl _ _) rfl
        case s8 =>
         intro val ρ W hE hz hd hA hx
         have d4:ρ (.tmp 109) = .int .i64 bk:=(hA.dep 4 (by decide) 109 rfl).trans (hd 4 (by decide))
         have d7:ρ (.tmp 112) = .int .i64 (100 * x.u):=(hA.dep 7 (by decide) 112 rfl).trans (hd 7 (by decide))
         clear hd
         exact zd (W':=W) (by simp [execOp,d4,d7,hwa,go_sem]) (Below.refl _ _) rfl
        case s9 =>
         intro val ρ W hE hz hd hA hx
         have d0:ρ (.tmp 105) = .pointer (some ⟨p,0,none⟩):=(hA.dep 0 (by decide) 105 rfl).trans (hd 0 (by decide))
         clear hd
         exact zd (W':=W) (by simp [execOp,d0,go_sem]) (Below.refl _ _) rfl
        case s10 =>
         intro val ρ W hE hz hd hA hx
         have d9:ρ (.tmp 114) = .pointer (some ⟨p,0,none⟩):=(hA.dep 9 (by decide) 114 rfl).trans (hd 9 (by decide))
         clear hd
         exact zd (W':=W) (by simp [execOp,d9,go_sem]) (Below.refl _ _) rfl
        case s11 =>
         intro val ρ W hE hz hd hA hx
         have d10:ρ (.tmp 115) = .pointer (some ⟨p,10,none⟩):=(hA.dep 10 (by decide) 115 rfl).trans (hd 10 (by decide))
         clear hd
         exact zd (W':=W) (by simp [execOp,d10,go_sem]) (Below.refl _ _) rfl
        case send =>
         intro val WR hE hzz2 hv
         obtain ⟨-,-,-,-,-,-,-,-,r8,-,-,r11,-⟩:=hv
         have r8':val 8 = .int .i64 (bk+100 * x.u):=r8
         have r11':val 11 = .pointer (some ⟨p,11,none⟩):=r11
         have hER:Ext Q2 WR:=hE
         have HNR:=Lib.hid (HN1.out.ext hER)
         have x0:=HNR.out.till.c11
         have xf:=HNR.out.till.fr 11
         have xq:=HNR.out.till.lt
         simp only [putD,r8',r11']
         go_frame
         clear r8 r8' r11 r11' hE hzz2 hER hwm hwa w0 w1 w2 t8 t9 t11b f11 hzp hzw HN1
         go_wp2_with fail
         go_roundw
         case rel =>
          refine ⟨k+1,by omega,by go_num,?_⟩
          have h:=HNR.out.keptP i1 i2 i3 i4 ((Kept.refl _ _).setCell (p:=⟨p,11,none⟩) (fun _ hn=>hn rfl) (.int .i64 (bk+100 * x.u))) (HNR.out.till.setK (bk+100 * x.u))
          exact h.cast HIN.out HBN2.out.symm HUO.out.symm
         case measure=>simp [intOf];omega
       ·simp only [Option.getD,Option.isSome]
        go_upto_region 21 with (fail)
        obtain ⟨Q,hQ⟩:∃ zz9,zz9=(grow Y g1).alloc (.cells #[.int .i64 s1,.int .i64 s2] 132):=⟨_,rfl⟩
        have e0:Q.cell? ⟨(grow Y g1).heap.size,0,none⟩=some (.int .i64 s1):=by rw [hQ];simp [go_sem]
        have e1:Q.cell? ⟨(grow Y g1).heap.size,1,none⟩=some (.int .i64 s2):=by rw [hQ];simp [go_sem]
        have eQ:Ext Y Q:=by rw [hQ];exact xx
        replace w0:=zb eQ w0
        replace w1:=zb eQ w1
        replace w2:=zb eQ w2
        replace t8:=zb eQ t8
        replace t9:=zb eQ t9
        replace t11:=zb eQ t11
        replace HNY:=Lib.hid (HNY.out.ext eQ)
        replace HSC:=Lib.hid (HSC.out.ext eQ)
        replace HW:=Lib.hid (HW.out.trans' eQ)
        rw [← hQ]
        obtain ⟨sp,hsp⟩:∃ b,b=(grow Y g1).heap.size:=⟨_,rfl⟩
        rw [← hsp] at e0 e1 ⊢
        replace hzw:=World.block_lt_of_cell? _ _ w0
        replace hzp:=World.block_lt_of_cell? _ _ t8
        have zsp:=World.block_lt_of_cell? _ _ e0
        simp only at zsp
        clear hQ eQ hsp
        obtain ⟨us,hus⟩:∃ us,us=sumB (za8 b (s1,s2)) (b.bets.take k):=⟨_,rfl⟩
        have husb:0≤us∧us≤100000:=by rw [hus];exact zmh V.out (s1,s2) k
        have hwu:IntKind.i64.wrap (us+x.u)=us+x.u:=IntWalk.i64_in _ (by omega)
        have hup:=z3p (l:=b.bets.take k) ho
        rw [← hus,← HTK.out] at hup
        have HUP:=Lib.hid hup
        have hbg:zcp b x=0:=by unfold zcp;rw [if_neg (by rw [ho];simp)]
        have hBN:=HBN.out
        rw [hbg,Int.add_zero] at hBN
        have HBN2:=Lib.hid hBN
        have hus0:=hus
        clear hup husb hus hbg hBN ho
        obtain ⟨Q2,hQ2⟩:∃ Q2,Q2=Q:=⟨_,rfl⟩
        subst hQ2
        obtain ⟨J,hJ⟩:∃ J:World→Prop,J=fun W=>∃ F',MapIs skey ival W m F'∧(F' (s1,s2)).getD 0=us∧(∀ s',(if s'=(s1,s2) then some (us+x.u) else F' s')=za9 b (b.bets.take (k+1)) s')∧Kept (fun j=>j≠m) Q2 W:=⟨_,rfl⟩
        have hJm:∀ W W',J W→Ext W W'→J W':=fun W W' h e=>by
         rw [hJ] at h ⊢
         obtain ⟨F',h1,h2,h3,h4⟩:=h
         exact ⟨F',h1.ext e,h2,h3,h4.trans (Kept.of_below e)⟩
        have hJw:J Q2:=by
         rw [hJ]
         refine ⟨_,HNY.out.map,?_,fun s'=>?_,Kept.refl _ _⟩
         ·rw [hus0]
          unfold za9
          split
          ·rfl
          ·rename_i hn
           rw [zmi (by simpa using hn)];rfl
         ·rw [HUP.out]
        have hlook:∀ W,J W→(Instr.lookup 87 (.map (some m)) (skey (s1,s2)) false).run Tryz.prog W = .ok (.int .i64 us) W:=fun W h=>by
         rw [hJ] at h
         obtain ⟨F',h1,h2,-⟩:=h
         cases hf:F' (s1,s2) with
         | none =>
          rw [hf] at h2
          have h3:us=0:=h2.symm
          rw [h3]
          exact h1.look0 zbo (s1,s2) hf zsc
         | some v =>
          rw [hf] at h2
          have h3:v=us:=h2
          rw [← h3]
          exact h1.look zbo (s1,s2) hf
        have hentry:∀ W,J W→m < W.heap.size→∃ (st:Nat) (es1:Array MapEntry) (c1:Nat),(Instr.mapEntry 87 (.map (some m)) (skey (s1,s2))).run Tryz.prog W = .ok (.tuple #[.int .i64 us,goInt st]) (W.putObj m (.map es1 c1))∧J (W.putObj m (.map es1 c1)) ∧
          ∀ (W2:World),W2.heap[m]? = some (.map es1 c1)→∃ W3,(Instr.entryStore 87 (.map (some m)) (goInt st) (ival (us+x.u))).run Tryz.prog W2 = .ok () W3∧W2.grownBy W3 (some m)∧MapIs skey ival W3 m (za9 b (b.bets.take (k+1))):=fun W h hl=>by
         rw [hJ] at h
         obtain ⟨F',h1,h2,h3,h4⟩:=h
         obtain ⟨st,es1,c1,g1,g2,g3⟩:=h1.entry' zbo (s1,s2) zsc 0 rfl
         rw [h2] at g1 g2
         refine ⟨st,es1,c1,g1,?_,fun W2 e=>?_⟩
         ·rw [hJ]
          refine ⟨_,g2,by simp,fun s'=>?_,h4.putObj _ (fun _ hn=>hn rfl)⟩
          rw [← h3 s']
          by_cases e:s'=(s1,s2)
          ·rw [if_pos e,if_pos e]
          ·rw [if_neg e,if_neg e,if_neg e]
         ·obtain ⟨W3,a1,a2,-,a3⟩:=g3 W2 (us+x.u) e
          exact ⟨W3,a1,a2,by rw [← funext h3];exact a3⟩
        have HLO:=Lib.hid hlook
        have HEN:=Lib.hid hentry
        have hmlt:m < Q2.heap.size:=HNY.out.map.lt
        have hmQ:m≤Q2.heap.size:=by omega
        have HJE:=Lib.hid hJ
        clear hlook hentry hJ hus0
        refine zmf (J:=J) hJm rfl rfl (by kernel_rfl) hJw (m) (hmQ)
         [sqV (.pointer (some ⟨p,0,none⟩)),sqV (.pointer (some ⟨p,0,none⟩)),sqV (.pointer (some ⟨p,9,none⟩)),sqV (.map (some m)),sqV (.agg #[.int .i64 s1,.int .i64 s2]),sqV (.int .i64 us),sqV (.pointer (some ⟨bx,2,none⟩)),sqV (.int .i64 x.u),sqV (.int .i64 (us+x.u)),sqW (fun v W=>EntQ m us (us+x.u) (za9 b (b.bets.take (k+1))) W v) (fun _ _ _ h e=>h.ext e),sqW (fun v W=>EntS m (us+x.u) (za9 b (b.bets.take (k+1))) W v) (fun _ _ _ h e=>h.ext e)]
         [true,true,true,true,true,true,true,true,true,false,false] [false,false,false,false,false,false,false,false,false,true,false] [true,true,true,true,true,true,true,true,true,true,true] [true,true,true,true,true,false,true,true,false,true,false]
         (by kernel_rfl) (by kernel_rfl) (by decide +kernel) (by decide +kernel) (by decide +kernel) rfl ⟨rfl,rfl⟩ ⟨?s0,?s1,?s2,?s3,?s4,?s5,?s6,?s7,?s8,?s9,?s10,trivial⟩ [some 94,some 95,some 96,some 97,some 98,some 99,some 100,some 101,some 102,some 103,some 104] rfl rfl ?send
        case s0 =>
         intro val ρ W hE hJ hz hd hA hx
         have o0:ρ (.tmp 3) = .pointer (some ⟨p,0,none⟩):=hA.old 3 (by decide)
         clear hd
         exact zcc (W':=W) (by simp [execOp,o0,go_sem]) (Below.refl _ _) rfl
        case s1 =>
         intro val ρ W hE hJ hz hd hA hx
         have d0:ρ (.tmp 94) = .pointer (some ⟨p,0,none⟩):=(hA.dep 0 (by decide) 94 rfl).trans (hd 0 (by decide))
         clear hd
         exact zcc (W':=W) (by simp [execOp,d0,go_sem]) (Below.refl _ _) rfl
        case s2 =>
         intro val ρ W hE hJ hz hd hA hx
         have d1:ρ (.tmp 95) = .pointer (some ⟨p,0,none⟩):=(hA.dep 1 (by decide) 95 rfl).trans (hd 1 (by decide))
         clear hd
         exact zcc (W':=W) (by simp [execOp,d1,go_sem]) (Below.refl _ _) rfl
        case s3 =>
         intro val ρ W hE hJ hz hd hA hx
         have d2:ρ (.tmp 96) = .pointer (some ⟨p,9,none⟩):=(hA.dep 2 (by decide) 96 rfl).trans (hd 2 (by decide))
         have f_t9:=zb (hx (by decide)) t9
         clear hd
         exact zcc (W':=W) (by simp [execOp,d2,f_t9,go_sem]) (Below.refl _ _) rfl
        case s4 =>
         intro val ρ W hE hJ hz hd hA hx
         have o0:ρ (.tmp 11) = .pointer (some ⟨sp,0,none⟩):=hA.old 11 (by decide)
         have f_e0:=zb (hx (by decide)) e0
         have f_e1:=zb (hx (by decide)) e1
         clear hd
         exact zcc (W':=W) (by simp [execOp,o0,f_e0,f_e1,go_sem]) (Below.refl _ _) rfl
        case s6 =>
         intro val ρ W hE hJ hz hd hA hx
         have o0:ρ (.tmp 10) = .pointer (some ⟨bx,0,none⟩):=hA.old 10 (by decide)
         clear hd
         exact zcc (W':=W) (by simp [execOp,o0,go_sem]) (Below.refl _ _) rfl
        case s7 =>
         intro val ρ W hE hJ hz hd hA hx
         have d6:ρ (.tmp 100) = .pointer (some ⟨bx,2,none⟩):=(hA.dep 6 (by decide) 100 rfl).trans (hd 6 (by decide))
         have f_w2:=zb (hx (by decide)) w2
         clear hd
         exact zcc (W':=W) (by simp [execOp,d6,f_w2,go_sem]) (Below.refl _ _) rfl
        case s8 =>
         intro val ρ W hE hJ hz hd hA hx
         have d5:ρ (.tmp 99) = .int .i64 us:=(hA.dep 5 (by decide) 99 rfl).trans (hd 5 (by decide))
         have d7:ρ (.tmp 101) = .int .i64 x.u:=(hA.dep 7 (by decide) 101 rfl).trans (hd 7 (by decide))
         clear hd
         exact zcc (W':=W) (by simp [execOp,d5,d7,hwu,go_sem]) (Below.refl _ _) rfl
        case s5 =>
         intro val ρ W hE hJ2 hz hd hA hx
         have d3:ρ (.tmp 97) = .map (some m):=(hA.dep 3 (by decide) 97 rfl).trans (hd 3 (by decide))
         have d4:ρ (.tmp 98) = .agg #[.int .i64 s1,.int .i64 s2]:=(hA.dep 4 (by decide) 98 rfl).trans (hd 4 (by decide))
         clear hd
         have hl:=HLO.out W hJ2
         simp only [skey] at hl
         exact zcc (W':=W) (by simp [execOp,d3,d4,go_sem,hl]) (Below.refl _ _) rfl
        case s9 =>
         intro val ρ W hE hJ2 hz hd hA hx
         have d3:ρ (.tmp 97) = .map (some m):=(hA.dep 3 (by decide) 97 rfl).trans (hd 3 (by decide))
         have d4:ρ (.tmp 98) = .agg #[.int .i64 s1,.int .i64 s2]:=(hA.dep 4 (by decide) 98 rfl).trans (hd 4 (by decide))
         clear hd
         obtain ⟨st,es1,c1,g1,g2,g3⟩:=HEN.out W hJ2 (by have:=hE.size;omega)
         simp only [skey] at g1
         refine zcc (W':=W.putObj m (.map es1 c1)) (v:=.tuple #[.int .i64 us,goInt st]) (by simp [execOp,d3,d4,go_sem,g1]) ⟨(Kept.below (B:=m) ((Kept.refl (fun j=>j < m) W).putObj _ (fun _ hn=>by omega)) (by have:=hE.size;omega)),g2⟩ ?_
         exact ⟨st,es1,c1,rfl,World.putObj_heap_same (by have:=hE.size;omega),g3⟩
        case s10 =>
         intro val ρ W hE hJ2 hz hd hA hx
         obtain ⟨st,es1,c1,h1,h2,h3⟩:EntQ m us (us+x.u) (za9 b (b.bets.take (k+1))) W (val 9):=hd 9 (by decide)
         have dd:ρ (.tmp 103) = .tuple #[.int .i64 us,goInt st]:=(hA.dep 9 (by decide) 103 rfl).trans h1
         exact zcc (W':=W) (v:=goInt st) (by simp [execOp,dd,go_sem]) (Below.refl _ _) ⟨st,es1,c1,rfl,h2,h3⟩
        case send =>
         intro val WR hE hJ2 hzz2 hv
         obtain ⟨-,-,-,r3,-,-,-,-,r8,-,r10,-⟩:=hv
         have r3':val 3 = .map (some m):=r3
         have r8':val 8 = .int .i64 (us+x.u):=r8
         obtain ⟨st,es1,c1,r10',hh1,hh2⟩:EntS m (us+x.u) (za9 b (b.bets.take (k+1))) WR (val 10):=r10
         obtain ⟨W4,hst,hg4,hm4⟩:=hh2 WR hh1
         simp only [ival,goInt] at hst r10'
         have hkR:Kept (fun j=>j≠m) Q2 WR:=by
          rw [HJE.out] at hJ2
          obtain ⟨_,_,_,_,h4⟩:=hJ2
          exact h4
         have HNW:=Lib.hid (HNY.out.keptM i1 i2 i3 i4 (hkR.trans ((Kept.refl (fun j=>j≠m) WR).grown hg4 (fun j e _ hn=>by cases e;exact hn rfl))) hm4)
         simp only [putD,r3',r10',r8']
         go_frame
         clear r3 r3' r8 r8' r10' hE hzz2 hwu w0 w1 w2 t8 t9 t11 e0 e1 hh1 hh2 hg4 hm4 hzp hzw hJ2 hJm hJw hkR hmlt hmQ
         go_wp2_with fail
         go_roundw
         case rel =>
          exact ⟨k+1,by omega,by go_num,HNW.out.cast HIN.out HBN2.out.symm rfl⟩
         case measure=>simp [intOf];omega
     ·have hki:¬ ((k:Int) < (b.bets.length:Int)):=by omega
      have hke:k=b.bets.length:=by omega
      rw [hke,List.take_length] at hns
      have hN0:NS w b ba bcap sa scap B m p q (favP b) (inP b) (zbg b) 0 0 (za9 b b.bets) fs wr:=hns
      have hnb:=zhx V.out
      have hcb:=V.out.car
      have e0:netP b=inP b - zbg b - zeh b:=rfl
      have e1:zeh b=(inP b - zbg b - b.car) * b.duty / 1000:=rfl
      obtain ⟨I,hI⟩:∃ I,I=inP b:=⟨_,rfl⟩
      obtain ⟨K,hK⟩:∃ K,K=zbg b:=⟨_,rfl⟩
      obtain ⟨D,hD⟩:∃ D,D=zeh b:=⟨_,rfl⟩
      obtain ⟨M,hM⟩:∃ M,M=(I - K - b.car) * b.duty:=⟨_,rfl⟩
      rw [← hI,← hK,← hD] at hnb e0
      rw [← hI,← hK,← hD,← hM] at e1
      rw [← hM] at hnb
      rw [← hI,← hK] at hN0
      obtain ⟨hb1,hb2,hb3,hb4,hb5,hb6⟩:=hnb
      have hw1:IntKind.i64.wrap (I - K)=I - K:=IntWalk.i64_in _ (by omega)
      have hw2:IntKind.i64.wrap (I - K - b.car)=I - K - b.car:=IntWalk.i64_in _ (by omega)
      have hw3:IntKind.i64.wrap ((I - K - b.car) * b.duty)=M:=by rw [← hM];exact IntWalk.i64_in _ (by omega)
      have hq1:Int.tdiv M 1000=D:=by rw [Int.tdiv_eq_ediv_of_nonneg hb5,← e1]
      have hw4:IntKind.i64.wrap D=D:=IntWalk.i64_in _ (by omega)
      have hw5:IntKind.i64.wrap (I - K - D)=I - K - D:=IntWalk.i64_in _ (by omega)
      have HI:=Lib.hid hI
      have HK:=Lib.hid hK
      have HD:=Lib.hid hD
      have HE0:=Lib.hid e0
      have HN:=Lib.hid hN0
      have t10:=hN0.till.c10
      have t11:=hN0.till.c11
      have k5:=hN0.bk.c5
      have k6:=hN0.bk.c6
      have hzp:=hN0.till.lt
      have hzB:=hN0.bk.lt
      clear hns hke HNS hN0 hI hK hD hM e0 e1 hb1 hb2 hb3 hb4 hb5 hb6 hcb hvn hvm
      go_upto_region 24 with (fail)
      obtain ⟨Z,hZ⟩:∃ Z,Z=wr:=⟨_,rfl⟩
      subst hZ
      refine zas rfl rfl (by kernel_rfl) (Z.heap.size) (Nat.le_refl _)
       [sqV (.pointer (some ⟨p,0,none⟩)),sqV (.pointer (some ⟨p,0,none⟩)),sqV (.pointer (some ⟨p,0,none⟩)),sqV (.pointer (some ⟨p,10,none⟩)),sqV (.pointer (some ⟨p,10,none⟩)),sqV (.int .i64 I),sqV (.pointer (some ⟨p,0,none⟩)),sqV (.pointer (some ⟨p,0,none⟩)),sqV (.pointer (some ⟨p,10,none⟩)),sqV (.pointer (some ⟨p,11,none⟩)),sqV (.int .i64 K),sqV (.int .i64 (I - K)),sqV (.pointer (some ⟨B,5,none⟩)),sqV (.int .i64 b.car),sqV (.int .i64 (I - K - b.car)),sqV (.pointer (some ⟨B,6,none⟩)),sqV (.int .i64 b.duty),sqV (.int .i64 M),sqV (.int .i64 D),sqV (.pointer (some ⟨p,0,none⟩)),sqV (.pointer (some ⟨p,10,none⟩)),sqV (.pointer (some ⟨p,12,none⟩))]
       [true,true,true,true,true,true,true,true,true,true,true,true,true,true,true,true,true,true,true,true,true,true] [false,false,false,false,false,false,false,false,false,false,false,false,false,false,false,false,false,false,false,false,false,false] [true,true,true,true,true,true,true,true,true,true,true,true,true,true,true,true,true,true,true,true,true,true] [true,true,true,true,true,true,true,true,true,true,true,true,true,true,true,true,true,true,true,true,true,true]
       (by kernel_rfl) (by kernel_rfl) (by decide +kernel) (by decide +kernel) (by decide +kernel) rfl ⟨rfl,rfl⟩ ⟨?s0,?s1,?s2,?s3,?s4,?s5,?s6,?s7,?s8,?s9,?s10,?s11,?s12,?s13,?s14,?s15,?s16,?s17,?s18,?s19,?s20,?s21,trivial⟩ [some 118,some 119,some 120,some 121,some 122,some 123,some 124,some 125,some 126,some 127,some 128,some 129,some 130,some 131,some 132,some 133,some 134,some 135,some 136,some 137,some 138,some 139] rfl rfl ?send
      case s0 =>
       intro val ρ W hE hz hd hA hx
       have o0:ρ (.tmp 3) = .pointer (some ⟨p,0,none⟩):=hA.old 3 (by decide)
       clear hd
       exact zd (W':=W) (by simp [execOp,o0,go_sem]) (Below.refl _ _) rfl
      case s1 =>
       intro val ρ W hE hz hd hA hx
       have o0:ρ (.tmp 3) = .pointer (some ⟨p,0,none⟩):=hA.old 3 (by decide)
       clear hd
       exact zd (W':=W) (by simp [execOp,o0,go_sem]) (Below.refl _ _) rfl
      case s2 =>
       intro val ρ W hE hz hd hA hx
       have d1:ρ (.tmp 119) = .pointer (some ⟨p,0,none⟩):=(hA.dep 1 (by decide) 119 rfl).trans (hd 1 (by decide))
       clear hd
       exact zd (W':=W) (by simp [execOp,d1,go_sem]) (Below.refl _ _) rfl
      case s3 =>
       intro val ρ W hE hz hd hA hx
       have d2:ρ (.tmp 120) = .pointer (some ⟨p,0,none⟩):=(hA.dep 2 (by decide) 120 rfl).trans (hd 2 (by decide))
       clear hd
       exact zd (W':=W) (by simp [execOp,d2,go_sem]) (Below.refl _ _) rfl
      case s4 =>
       intro val ρ W hE hz hd hA hx
       have d3:ρ (.tmp 121) = .pointer (some ⟨p,10,none⟩):=(hA.dep 3 (by decide) 121 rfl).trans (hd 3 (by decide))
       clear hd
       exact zd (W':=W) (by simp [execOp,d3,go_sem]) (Below.refl _ _) rfl
      case s5 =>
       intro val ρ W hE hz hd hA hx
       have d4:ρ (.tmp 122) = .pointer (some ⟨p,10,none⟩):=(hA.dep 4 (by decide) 122 rfl).trans (hd 4 (by decide))
       have f_t10:=cell_below hE (by simp only;omega) t10
       clear hd
       exact zd (W':=W) (by simp [execOp,d4,f_t10,go_sem]) (Below.refl _ _) rfl
      case s6 =>
       intro val ρ W hE hz hd hA hx
       have o0:ρ (.tmp 3) = .pointer (some ⟨p,0,none⟩):=hA.old 3 (by decide)
       clear hd
       exact zd (W':=W) (by simp [execOp,o0,go_sem]) (Below.refl _ _) rfl
      case s7 =>
       intro val ρ W hE hz hd hA hx
       have d6:ρ (.tmp 124) = .pointer (some ⟨p,0,none⟩):=(hA.dep 6 (by decide) 124 rfl).trans (hd 6 (by decide))
       clear hd
       exact zd (W':=W) (by simp [execOp,d6,go_sem]) (Below.refl _ _) rfl
      case s8 =>
       intro val ρ W hE hz hd hA hx
       have d7:ρ (.tmp 125) = .pointer (some ⟨p,0,none⟩):=(hA.dep 7 (by decide) 125 rfl).trans (hd 7 (by decide))
       clear hd
       exact zd (W':=W) (by simp [execOp,d7,go_sem]) (Below.refl _ _) rfl
      case s9 =>
       intro val ρ W hE hz hd hA hx
       have d8:ρ (.tmp 126) = .pointer (some ⟨p,10,none⟩):=(hA.dep 8 (by decide) 126 rfl).trans (hd 8 (by decide))
       clear hd
       exact zd (W':=W) (by simp [execOp,d8,go_sem]) (Below.refl _ _) rfl
      case s10 =>
       intro val ρ W hE hz hd hA hx
       have d9:ρ (.tmp 127) = .pointer (some ⟨p,11,none⟩):=(hA.dep 9 (by decide) 127 rfl).trans (hd 9 (by decide))
       have f_t11:=cell_below hE (by simp only;omega) t11
       clear hd
       exact zd (W':=W) (by simp [execOp,d9,f_t11,go_sem]) (Below.refl _ _) rfl
      case s11 =>
       intro val ρ W hE hz hd hA hx
       have d5:ρ (.tmp 123) = .int .i64 I:=(hA.dep 5 (by decide) 123 rfl).trans (hd 5 (by decide))
       have d10:ρ (.tmp 128) = .int .i64 K:=(hA.dep 10 (by decide) 128 rfl).trans (hd 10 (by decide))
       clear hd
       exact zd (W':=W) (by simp [execOp,d5,d10,hw1,go_sem]) (Below.refl _ _) rfl
      case s12 =>
       intro val ρ W hE hz hd hA hx
       have o0:ρ (.tmp 1) = .pointer (some ⟨B,0,none⟩):=hA.old 1 (by decide)
       clear hd
       exact zd (W':=W) (by simp [execOp,o0,go_sem]) (Below.refl _ _) rfl
      case s13 =>
       intro val ρ W hE hz hd hA hx
       have d12:ρ (.tmp 130) = .pointer (some ⟨B,5,none⟩):=(hA.dep 12 (by decide) 130 rfl).trans (hd 12 (by decide))
       have f_k5:=cell_below hE (by simp only;omega) k5
       clear hd
       exact zd (W':=W) (by simp [execOp,d12,f_k5,go_sem]) (Below.refl _ _) rfl
      case s14 =>
       intro val ρ W hE hz hd hA hx
       have d11:ρ (.tmp 129) = .int .i64 (I - K):=(hA.dep 11 (by decide) 129 rfl).trans (hd 11 (by decide))
       have d13:ρ (.tmp 131) = .int .i64 b.car:=(hA.dep 13 (by decide) 131 rfl).trans (hd 13 (by decide))
       clear hd
       exact zd (W':=W) (by simp [execOp,d11,d13,hw2,go_sem]) (Below.refl _ _) rfl
      case s15 =>
       intro val ρ W hE hz hd hA hx
       have o0:ρ (.tmp 1) = .pointer (some ⟨B,0,none⟩):=hA.old 1 (by decide)
       clear hd
       exact zd (W':=W) (by simp [execOp,o0,go_sem]) (Below.refl _ _) rfl
      case s16 =>
       intro val ρ W hE hz hd hA hx
       have d15:ρ (.tmp 133) = .pointer (some ⟨B,6,none⟩):=(hA.dep 15 (by decide) 133 rfl).trans (hd 15 (by decide))
       have f_k6:=cell_below hE (by simp only;omega) k6
       clear hd
       exact zd (W':=W) (by simp [execOp,d15,f_k6,go_sem]) (Below.refl _ _) rfl
      case s17 =>
       intro val ρ W hE hz hd hA hx
       have d14:ρ (.tmp 132) = .int .i64 (I - K - b.car):=(hA.dep 14 (by decide) 132 rfl).trans (hd 14 (by decide))
       have d16:ρ (.tmp 134) = .int .i64 b.duty:=(hA.dep 16 (by decide) 134 rfl).trans (hd 16 (by decide))
       clear hd
       exact zd (W':=W) (by simp [execOp,d14,d16,hw3,go_sem]) (Below.refl _ _) rfl
      case s18 =>
       intro val ρ W hE hz hd hA hx
       have d17:ρ (.tmp 135) = .int .i64 M:=(hA.dep 17 (by decide) 135 rfl).trans (hd 17 (by decide))
       clear hd
       exact zd (W':=W) (by simp [execOp,hA.const,d17,hq1,hw4,go_sem]) (Below.refl _ _) rfl
      case s19 =>
       intro val ρ W hE hz hd hA hx
       have d0:ρ (.tmp 118) = .pointer (some ⟨p,0,none⟩):=(hA.dep 0 (by decide) 118 rfl).trans (hd 0 (by decide))
       clear hd
       exact zd (W':=W) (by simp [execOp,d0,go_sem]) (Below.refl _ _) rfl
      case s20 =>
       intro val ρ W hE hz hd hA hx
       have d19:ρ (.tmp 137) = .pointer (some ⟨p,0,none⟩):=(hA.dep 19 (by decide) 137 rfl).trans (hd 19 (by decide))
       clear hd
       exact zd (W':=W) (by simp [execOp,d19,go_sem]) (Below.refl _ _) rfl
      case s21 =>
       intro val ρ W hE hz hd hA hx
       have d20:ρ (.tmp 138) = .pointer (some ⟨p,10,none⟩):=(hA.dep 20 (by decide) 138 rfl).trans (hd 20 (by decide))
       clear hd
       exact zd (W':=W) (by simp [execOp,d20,go_sem]) (Below.refl _ _) rfl
      case send =>
       intro val WX hE hzz2 hv
       obtain ⟨-,-,-,-,-,-,-,-,-,-,-,-,-,-,-,-,-,-,r18,-,-,r21,-⟩:=hv
       have r18':val 18 = .int .i64 D:=r18
       have r21':val 21 = .pointer (some ⟨p,12,none⟩):=r21
       have hEX:Ext Z WX:=hE
       have HNX:=Lib.hid (HN.out.ext hEX)
       have x0:=HNX.out.till.c12
       have xf:=HNX.out.till.fr 12
       have xq:=HNX.out.till.lt
       simp only [putD,r18',r21']
       go_frame
       clear r18 r18' r21 r21' hE hzz2 hEX t10 t11 k5 k6 hzp hzB hw2 hw3 hq1 hw4 HN
       go_upto_region 25 with (fail)
       obtain ⟨Y,hY⟩:∃ Y,Y=WX.setCell ⟨p,12,none⟩ (.int .i64 D):=⟨_,rfl⟩
       have hNY:=HNX.out.keptP i1 i2 i3 i4 ((Kept.refl _ _).setCell (p:=⟨p,12,none⟩) (fun _ hn=>hn rfl) (.int .i64 D)) (HNX.out.till.setD D)
       rw [← hY] at hNY ⊢
       have t10:=hNY.till.c10
       have t11:=hNY.till.c11
       have t12:=hNY.till.c12
       have hzp:=hNY.till.lt
       have HNY:=Lib.hid hNY
       clear hY hNY x0 xf xq HNX
       refine zas rfl rfl (by kernel_rfl) (Y.heap.size) (Nat.le_refl _)
        [sqV (.pointer (some ⟨p,0,none⟩)),sqV (.pointer (some ⟨p,0,none⟩)),sqV (.pointer (some ⟨p,0,none⟩)),sqV (.pointer (some ⟨p,10,none⟩)),sqV (.pointer (some ⟨p,10,none⟩)),sqV (.int .i64 I),sqV (.pointer (some ⟨p,0,none⟩)),sqV (.pointer (some ⟨p,0,none⟩)),sqV (.pointer (some ⟨p,10,none⟩)),sqV (.pointer (some ⟨p,11,none⟩)),sqV (.int .i64 K),sqV (.int .i64 (I - K)),sqV (.pointer (some ⟨p,0,none⟩)),sqV (.pointer (some ⟨p,0,none⟩)),sqV (.pointer (some ⟨p,10,none⟩)),sqV (.pointer (some ⟨p,12,none⟩)),sqV (.int .i64 D),sqV (.int .i64 (I - K - D)),sqV (.pointer (some ⟨p,0,none⟩)),sqV (.pointer (some ⟨p,10,none⟩)),sqV (.pointer (some ⟨p,15,none⟩))]
        [true,true,true,true,true,true,true,true,true,true,true,true,true,true,true,true,true,true,true,true,true] [false,false,false,false,false,false,false,false,false,false,false,false,false,false,false,false,false,false,false,false,false] [true,true,true,true,true,true,true,true,true,true,true,true,true,true,true,true,true,true,true,true,true] [true,true,true,true,true,true,true,true,true,true,true,true,true,true,true,true,true,true,true,true,true]
        (by kernel_rfl) (by kernel_rfl) (by decide +kernel) (by decide +kernel) (by decide +kernel) rfl ⟨rfl,rfl⟩ ⟨?s0,?s1,?s2,?s3,?s4,?s5,?s6,?s7,?s8,?s9,?s10,?s11,?s12,?s13,?s14,?s15,?s16,?s17,?s18,?s19,?s20,trivial⟩ [some 140,some 141,some 142,some 143,some 144,some 145,some 146,some 147,some 148,some 149,some 150,some 151,some 152,some 153,some 154,some 155,some 156,some 157,some 158,some 159,some 160] rfl rfl ?send
       case s0 =>
        intro val ρ W hE hz hd hA hx
        have o0:ρ (.tmp 3) = .pointer (some ⟨p,0,none⟩):=hA.old 3 (by decide)
        clear hd
        exact zd (W':=W) (by simp [execOp,o0,go_sem]) (Below.refl _ _) rfl
       case s1 =>
        intro val ρ W hE hz hd hA hx
        have o0:ρ (.tmp 3) = .pointer (some ⟨p,0,none⟩):=hA.old 3 (by decide)
        clear hd
        exact zd (W':=W) (by simp [execOp,o0,go_sem]) (Below.refl _ _) rfl
       case s2 =>
        intro val ρ W hE hz hd hA hx
        have d1:ρ (.tmp 141) = .pointer (some ⟨p,0,none⟩):=(hA.dep 1 (by decide) 141 rfl).trans (hd 1 (by decide))
        clear hd
        exact zd (W':=W) (by simp [execOp,d1,go_sem]) (Below.refl _ _) rfl
       case s3 =>
        intro val ρ W hE hz hd hA hx
        have d2:ρ (.tmp 142) = .pointer (some ⟨p,0,none⟩):=(hA.dep 2 (by decide) 142 rfl).trans (hd 2 (by decide))
        clear hd
        exact zd (W':=W) (by simp [execOp,d2,go_sem]) (Below.refl _ _) rfl
       case s4 =>
        intro val ρ W hE hz hd hA hx
        have d3:ρ (.tmp 143) = .pointer (some ⟨p,10,none⟩):=(hA.dep 3 (by decide) 143 rfl).trans (hd 3 (by decide))
        clear hd
        exact zd (W':=W) (by simp [execOp,d3,go_sem]) (Below.refl _ _) rfl
       case s5 =>
        intro val ρ W hE hz hd hA hx
        have d4:ρ (.tmp 144) = .pointer (some ⟨p,10,none⟩):=(hA.dep 4 (by decide) 144 rfl).trans (hd 4 (by decide))
        have f_t10:=cell_below hE (by simp only;omega) t10
        clear hd
        exact zd (W':=W) (by simp [execOp,d4,f_t10,go_sem]) (Below.refl _ _) rfl
       case s6 =>
        intro val ρ W hE hz hd hA hx
        have o0:ρ (.tmp 3) = .pointer (some ⟨p,0,none⟩):=hA.old 3 (by decide)
        clear hd
        exact zd (W':=W) (by simp [execOp,o0,go_sem]) (Below.refl _ _) rfl
       case s7 =>
        intro val ρ W hE hz hd hA hx
        have d6:ρ (.tmp 146) = .pointer (some ⟨p,0,none⟩):=(hA.dep 6 (by decide) 146 rfl).trans (hd 6 (by decide))
        clear hd
        exact zd (W':=W) (by simp [execOp,d6,go_sem]) (Below.refl _ _) rfl
       case s8 =>
        intro val ρ W hE hz hd hA hx
        have d7:ρ (.tmp 147) = .pointer (some ⟨p,0,none⟩):=(hA.dep 7 (by decide) 147 rfl).trans (hd 7 (by decide))
        clear hd
        exact zd (W':=W) (by simp [execOp,d7,go_sem]) (Below.refl _ _) rfl
       case s9 =>
        intro val ρ W hE hz hd hA hx
        have d8:ρ (.tmp 148) = .pointer (some ⟨p,10,none⟩):=(hA.dep 8 (by decide) 148 rfl).trans (hd 8 (by decide))
        clear hd
        exact zd (W':=W) (by simp [execOp,d8,go_sem]) (Below.refl _ _) rfl
       case s10 =>
        intro val ρ W hE hz hd hA hx
        have d9:ρ (.tmp 149) = .pointer (some ⟨p,11,none⟩):=(hA.dep 9 (by decide) 149 rfl).trans (hd 9 (by decide))
        have f_t11:=cell_below hE (by simp only;omega) t11
        clear hd
        exact zd (W':=W) (by simp [execOp,d9,f_t11,go_sem]) (Below.refl _ _) rfl
       case s11 =>
        intro val ρ W hE hz hd hA hx
        have d5:ρ (.tmp 145) = .int .i64 I:=(hA.dep 5 (by decide) 145 rfl).trans (hd 5 (by decide))
        have d10:ρ (.tmp 150) = .int .i64 K:=(hA.dep 10 (by decide) 150 rfl).trans (hd 10 (by decide))
        clear hd
        exact zd (W':=W) (by simp [execOp,d5,d10,hw1,go_sem]) (Below.refl _ _) rfl
       case s12 =>
        intro val ρ W hE hz hd hA hx
        have o0:ρ (.tmp 3) = .pointer (some ⟨p,0,none⟩):=hA.old 3 (by decide)
        clear hd
        exact zd (W':=W) (by simp [execOp,o0,go_sem]) (Below.refl _ _) rfl
       case s13 =>
        intro val ρ W hE hz hd hA hx
        have d12:ρ (.tmp 152) = .pointer (some ⟨p,0,none⟩):=(hA.dep 12 (by decide) 152 rfl).trans (hd 12 (by decide))
        clear hd
        exact zd (W':=W) (by simp [execOp,d12,go_sem]) (Below.refl _ _) rfl
       case s14 =>
        intro val ρ W hE hz hd hA hx
        have d13:ρ (.tmp 153) = .pointer (some ⟨p,0,none⟩):=(hA.dep 13 (by decide) 153 rfl).trans (hd 13 (by decide))
        clear hd
        exact zd (W':=W) (by simp [execOp,d13,go_sem]) (Below.refl _ _) rfl
       case s15 =>
        intro val ρ W hE hz hd hA hx
        have d14:ρ (.tmp 154) = .pointer (some ⟨p,10,none⟩):=(hA.dep 14 (by decide) 154 rfl).trans (hd 14 (by decide))
        clear hd
        exact zd (W':=W) (by simp [execOp,d14,go_sem]) (Below.refl _ _) rfl
       case s16 =>
        intro val ρ W hE hz hd hA hx
        have d15:ρ (.tmp 155) = .pointer (some ⟨p,12,none⟩):=(hA.dep 15 (by decide) 155 rfl).trans (hd 15 (by decide))
        have f_t12:=cell_below hE (by simp only;omega) t12
        clear hd
        exact zd (W':=W) (by simp [execOp,d15,f_t12,go_sem]) (Below.refl _ _) rfl
       case s17 =>
        intro val ρ W hE hz hd hA hx
        have d11:ρ (.tmp 151) = .int .i64 (I - K):=(hA.dep 11 (by decide) 151 rfl).trans (hd 11 (by decide))
        have d16:ρ (.tmp 156) = .int .i64 D:=(hA.dep 16 (by decide) 156 rfl).trans (hd 16 (by decide))
        clear hd
        exact zd (W':=W) (by simp [execOp,d11,d16,hw5,go_sem]) (Below.refl _ _) rfl
       case s18 =>
        intro val ρ W hE hz hd hA hx
        have d0:ρ (.tmp 140) = .pointer (some ⟨p,0,none⟩):=(hA.dep 0 (by decide) 140 rfl).trans (hd 0 (by decide))
        clear hd
        exact zd (W':=W) (by simp [execOp,d0,go_sem]) (Below.refl _ _) rfl
       case s19 =>
        intro val ρ W hE hz hd hA hx
        have d18:ρ (.tmp 158) = .pointer (some ⟨p,0,none⟩):=(hA.dep 18 (by decide) 158 rfl).trans (hd 18 (by decide))
        clear hd
        exact zd (W':=W) (by simp [execOp,d18,go_sem]) (Below.refl _ _) rfl
       case s20 =>
        intro val ρ W hE hz hd hA hx
        have d19:ρ (.tmp 159) = .pointer (some ⟨p,10,none⟩):=(hA.dep 19 (by decide) 159 rfl).trans (hd 19 (by decide))
        clear hd
        exact zd (W':=W) (by simp [execOp,d19,go_sem]) (Below.refl _ _) rfl
       case send =>
        intro val WR hE hzz2 hv
        obtain ⟨-,-,-,-,-,-,-,-,-,-,-,-,-,-,-,-,-,r17,-,-,r20,-⟩:=hv
        have r17':val 17 = .int .i64 (I - K - D):=r17
        have r20':val 20 = .pointer (some ⟨p,15,none⟩):=r20
        have hER:Ext Y WR:=hE
        have HNR:=Lib.hid (HNY.out.ext hER)
        have x0:=HNR.out.till.c15
        have xf:=HNR.out.till.fr 15
        have xq:=HNR.out.till.lt
        simp only [putD,r17',r20']
        go_frame
        clear r17 r17' r20 r20' hE hzz2 hER t10 t11 t12 hzp hw1 hw5 HNY
        go_wp2_with fail
        go_ret
        have h:=HNR.out.keptP i1 i2 i3 i4 ((Kept.refl _ _).setCell (p:=⟨p,15,none⟩) (fun _ hn=>hn rfl) (.int .i64 (I - K - D))) (HNR.out.till.setO (I - K - D))
        exact ⟨p,m,rfl,h.old,by omega,h.till.cast HI.out HK.out HD.out HE0.out.symm,h.map⟩
end Go.Proofs.YtkbaiobnibmmgaaGreat
