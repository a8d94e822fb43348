/-
  make and copy of sets, and what stands round the walk of cut: the sheet in memory, the sets that are handed on.
-/
import Derived.Test.YtkfifbopmpcanaaGreatXa
import Derived.Test.YtkfifbopmpcanaaGreatPc
import Derived.Laws.CopyOwn
import Derived.Laws.CopyRow
import Derived.Test.YtkfifbopmpcanaaGreatBa
import Derived.Test.YtkfifbopmpcanaaGreatBc
namespace Go.Proofs.YtkfifbopmpcanaaGreat
open Go.RowKit Go.Shelf
theorem z0y {P:Program} (w:World) (dT sT ty elem:TypeId) (g n cap:Nat) (a:Addr) (cur:Array Value) (t:TypeId) (cs:List Value)
  (hu:P.underlying dT=some (.slice elem)) (hs:(P.info? elem).map (·.size)=some 1) (hg:w.heap[g]? = some (.cells cur t (0,0))) (hn:cs.length=n)
  (hsrc:∀ j v,cs[j]? = some v→w.cell? (a.add j)=some v) (hfit:cs.length≤cur.size) (h1:∀ v∈cs,v.oneCell'=true) :
  (Builtin.copy_ #[dT,sT] ty #[.slice (some ⟨g,0,none⟩) n n,.slice (some a) n cap]).run P w =
   .ok (goInt n) (w.setRow g (cs ++ cur.toList.drop cs.length).toArray):=by
 have hl:=run_loadCells_list (P:=P) w a cs hsrc
 have hst:=run_storeCells_at P g 0 t cs 0 cur w hg (by simpa using hfit) h1
 have hmin:Nat.min n n=n:=Nat.min_self n
 cases hq:P.info? elem with
 | none=>simp [hq] at hs
 | some i =>
  have hi:i.size=1:=by simpa [hq] using hs
  simp only [Nat.zero_add,List.take_zero,List.nil_append] at hst
  rw [hn] at hl hst ⊢
  simp [Builtin.copy_,run_underlying hu,Builtin.lenOf,Builtin.firstCells,sizeOf,typeInfo,hq,hi,hl,hst]
theorem zrp (w:World) (N:Nat) (hN:N≤1000000):∃ w',(Instr.makeSlice 23 (.int .i64 (N:Int)) (.int .i64 (N:Int))).run Tryz.prog w = .ok (.slice (some ⟨w.heap.size,0,none⟩) N N) w'∧NumB w' w.heap.size N (fun _=>0)∧Ext w w':=by
 obtain ⟨i,z,hi,hz,hsi,hby,hzs⟩:=elInt.info
 have hz0:z = .int .i64 0:=by
  have h1:(Tryz.prog.info? 3).map (fun i=>i.zero)=some (some (.int .i64 0)):=by kernel_rfl
  rw [hi] at h1
  simp [hz] at h1
  exact h1
 subst hz0
 obtain ⟨w',hrun,hown,hg⟩:=run_makeSlice_full (P:=Tryz.prog) w w.heap.size 23 3 i (.int .i64 0) 1 elInt.und hi hz hsi .i64 .i64 N (by omega) (by have:=Nat.mul_le_mul hby hN;omega) (by simp [maxLen];omega) (Nat.le_refl _)
 rw [Nat.mul_one] at hown
 obtain ⟨cur,hc,hI⟩:=zs7 hown
 exact ⟨w',hrun,⟨cur,hc,by rw [hI.size];omega,fun j hj=>hI.at_ j hj⟩,(Below.refl _ w).grown hg (Nat.le_refl _) fun k hk=>by cases hk⟩
theorem NumB.extb {W W':World} {g n:Nat} {f:Nat→Int} (h:NumB W g n f) (e:Ext W W'):NumB W' g n f:=h.of_heap (e.block _ h.lt)
theorem z0z (w:World) (g n:Nat) (f0:Nat→Int) (l:List Nat) (sb so cap:Nat) (ty:TypeId) (hN:NumB w g n f0) (hl:l.length=n) (hc:∀ r,r < n→w.cell? ⟨sb,so+r,none⟩=some (.int .i64 (l.getD r 0:Int))) :
  ∃ w',(Builtin.copy_ #[23,23] ty #[.slice (some ⟨g,0,none⟩) n n,.slice (some ⟨sb,so,none⟩) n cap]).run Tryz.prog w = .ok (goInt n) w'∧Kept (fun k=>k≠g) w w'∧NumB w' g n (fun j=>(l.getD j 0:Int)):=by
 obtain ⟨cur,h1,h2,h3⟩:=hN
 obtain ⟨cs,hcs⟩:∃ cs,cs=(natL l).map (Value.int .i64):=⟨_,rfl⟩
 have hlen:cs.length=n:=by rw [hcs,List.length_map,zaq,hl]
 have hat:∀ j,j < n→cs[j]? = some (.int .i64 (l.getD j 0:Int)):=fun j hj=>by
  have h9:=zok (l:=l) (i:=j) (by omega)
  rw [hcs,List.getElem?_map,List.getElem?_eq_getElem (by rw [zaq];omega),h9]
  rfl
 have hr:=z0y (P:=Tryz.prog) w 23 23 ty 3 g n cap ⟨sb,so,none⟩ cur 3 cs elInt.und (by kernel_rfl) h1 hlen (fun j v hj=>by
   have hjn:j < n:=by
    have:=(List.getElem?_eq_some_iff.1 hj).1
    omega
   rw [hat j hjn] at hj
   cases hj
   rw [addr_add]
   exact hc j hjn) (by omega) (fun v hv=>by
   rw [hcs] at hv
   obtain ⟨x,_,rfl⟩:=List.mem_map.1 hv
   rfl)
 refine ⟨_,hr,⟨rfl,rfl,rfl,by simp [World.setRow],fun k _ hne=>setRow_other w g k _ hne⟩,_,setRow_heap w g _ _ _ _ h1,?_,fun j hj=>?_⟩
 ·simp only [List.size_toArray,List.length_append];omega
 ·rw [List.getElem?_toArray,List.getElem?_append_left (by omega),hat j hj]
structure CutE (R:Nat→Prop) (w0:World) (p:Nat) (rs:List Nat) (ps:List (Value × Tk)) (rb ro rcap:Nat) (ta:Option Addr) (tc:Nat):Prop where
 sheet:∀ W,Kept R w0 W→SheetAt W p (.slice (some ⟨rb,ro,none⟩) rs.length rcap) (.slice ta ps.length tc)
 cells:∀ W,Kept R w0 W→∀ r,r < rs.length→W.cell? ⟨rb,ro+r,none⟩=some (.int .i64 (rs.getD r 0:Int))
 tks:∀ W,Kept R w0 W→IsTks W (.slice ta ps.length tc) ps
 cap:rs.length≤rcap∧rcap≤9223372036854775807
 V:CardV rs
 VT:TksV rs (zj ps)
theorem CutE.len {R:Nat→Prop} {w0:World} {p:Nat} {rs:List Nat} {ps:List (Value × Tk)} {rb ro rcap:Nat} {ta:Option Addr} {tc:Nat} (E:CutE R w0 p rs ps rb ro rcap ta tc):ps.length≤10:=by
 have:=E.VT.hi
 simpa [zj] using this
def SetsAt (W:World) (O:Nat→Prop) (sb so sc:Nat) (l:List Nat) (n:Nat):Prop :=
 n≤sc∧sc≤9223372036854775807∧O sb∧∀ r,r < n→W.cell? ⟨sb,so+r,none⟩=some (.int .i64 (l.getD r 0:Int))
theorem SetsAt.kept {W W':World} {O R:Nat→Prop} {sb so sc:Nat} {l:List Nat} {n:Nat} (h:SetsAt W O sb so sc l n) (k:Kept (fun k=>R k∨O k) W W'):SetsAt W' O sb so sc l n :=
 ⟨h.1,h.2.1,h.2.2.1,fun r hr=>k.cell (h.2.2.2 r hr) (.inr h.2.2.1)⟩
theorem SetsAt.mono {W:World} {O O':Nat→Prop} {sb so sc:Nat} {l:List Nat} {n:Nat} (h:SetsAt W O sb so sc l n) (k:∀ b,O b→O' b):SetsAt W O' sb so sc l n:=⟨h.1,h.2.1,k _ h.2.2.1,h.2.2.2⟩
theorem SetsAt.ext {W W':World} {O:Nat→Prop} {sb so sc:Nat} {l:List Nat} {n:Nat} (h:SetsAt W O sb so sc l n) (e:Ext W W'):SetsAt W' O sb so sc l n:=⟨h.1,h.2.1,h.2.2.1,fun r hr=>zh e (h.2.2.2 r hr)⟩
theorem SetsAt.ints {W:World} {O:Nat→Prop} {sb so sc:Nat} {l:List Nat} {n:Nat} (h:SetsAt W O sb so sc l n) (hl:l.length=n):IsInts W .i64 (.slice (some ⟨sb,so,none⟩) n sc) (natL l):=by
 subst hl
 have hi:=IsInts.mk (w:=W) (k:=.i64) (l:=natL l) (b:=sb) (off:=so) (cap:=sc) (by rw [zaq];exact h.1) h.2.1 fun i hi=>by
  rw [zaq] at hi
  rw [zok hi]
  exact h.2.2.2 i hi
 rw [zaq] at hi
 exact hi
theorem CutE.ints {R:Nat→Prop} {w0:World} {p:Nat} {rs:List Nat} {ps:List (Value × Tk)} {rb ro rcap:Nat} {ta:Option Addr} {tc:Nat} (E:CutE R w0 p rs ps rb ro rcap ta tc) {W:World} (hk:Kept R w0 W):IsInts W .i64 (.slice (some ⟨rb,ro,none⟩) rs.length rcap) (natL rs):=by
 have hi:=IsInts.mk (w:=W) (k:=.i64) (l:=natL rs) (b:=rb) (off:=ro) (cap:=rcap) (by rw [zaq];exact E.cap.1) E.cap.2 fun i hi=>by
  rw [zaq] at hi
  rw [zok hi]
  exact E.cells W hk i hi
 rw [zaq] at hi
 exact hi
theorem ztr {rs:List Nat} {ps:List (Value × Tk)} (V:TksV rs (zj ps)) (j:Nat):0≤(zar (zj ps)).getD j 0∧(zar (zj ps)).getD j 0≤1000:=by
 rw [List.getD_eq_getElem?_getD]
 cases h:(zar (zj ps))[j]? with
 | none=>simp
 | some u =>
  obtain ⟨t,ht,rfl⟩:=List.mem_map.1 (List.mem_of_getElem? h)
  have:=V.u t ht
  simp only [Option.getD_some]
  omega
theorem zw8 {n:Nat} (h:n≤6):2 ^ n≤64:=(bshl h).2.1
theorem z53 {rs:List Nat} {ps:List (Value × Tk)} (V:CardV rs) (VT:TksV rs (zj ps)):∀ x∈ps,∀ r,r < rs.length→x.2.s.getD r 0≤64:=fun x hx r hr=>by
 have h1:=VT.each x.2 (List.mem_map.2 ⟨x,hx,rfl⟩) r hr
 have h2:=zw8 (V.each r hr).2
 omega
theorem z3g {rs:List Nat} {ps:List (Value × Tk)} (VT:TksV rs (zj ps)):∀ x∈ps,x.2.s.length=rs.length:=fun x hx=>VT.len x.2 (List.mem_map.2 ⟨x,hx,rfl⟩)
theorem z8m {left n i:Nat} {cls:Nat→List Bool} {own:Nat} (h:∀ j,own.testBit j=decide (i≤j∧j < n∧left.testBit j=true∧cls j=cls i)):own=ownB left n i cls n:=by
 apply Nat.eq_of_testBit_eq
 intro j
 rw [h,zg3 _ _ _ _ (Nat.le_refl n),decide_eq_decide]
 constructor
 ·rintro ⟨a,b,c⟩
  exact ⟨by omega,b,a,c⟩
 ·rintro ⟨_,b,a,c⟩
  exact ⟨a,b,c⟩
theorem z5e {left i k:Nat} {cls:Nat→List Bool} {own:Nat} (hik:i≤k) (h:∀ j,own.testBit j=decide (i≤j∧j < k∧left.testBit j=true∧cls j=cls i)) (hb:left.testBit k=true) (hc:cls k=cls i) :
  ∀ j,(own ||| 2 ^ k).testBit j=decide (i≤j∧j < k+1∧left.testBit j=true∧cls j=cls i):=by
 intro j
 rw [Nat.testBit_or,h,Nat.testBit_two_pow,Bool.eq_iff_iff,Bool.or_eq_true,decide_eq_true_eq,decide_eq_true_eq,decide_eq_true_eq]
 constructor
 ·rintro (⟨a,b,c⟩ | rfl)
  ·exact ⟨a,by omega,c⟩
  ·exact ⟨hik,by omega,hb,hc⟩
 ·rintro ⟨a,b,c⟩
  by_cases e:k=j
  ·exact .inr e
  ·exact .inl ⟨a,by omega,c⟩
theorem zw9 {left i k:Nat} {cls:Nat→List Bool} {own:Nat} (h:∀ j,own.testBit j=decide (i≤j∧j < k∧left.testBit j=true∧cls j=cls i)) (hb:¬ (left.testBit k=true∧cls k=cls i)) :
  ∀ j,own.testBit j=decide (i≤j∧j < k+1∧left.testBit j=true∧cls j=cls i):=by
 intro j
 rw [h,decide_eq_decide]
 constructor
 ·rintro ⟨a,b,c⟩
  exact ⟨a,by omega,c⟩
 ·rintro ⟨a,b,c⟩
  refine ⟨a,?_,c⟩
  rcases Nat.lt_or_ge j k with h1 | h1
  ·exact h1
  ·have:j=k:=by omega
   subst this
   exact absurd c hb
theorem z85 {a b:Nat} (h1:a < 64) (h2:b < 64):a ||| b < 64:=Nat.or_lt_two_pow (n:=6) h1 h2
theorem z7l (a b:Nat) (h:a < 64):zc8 a b < 64:=by
 unfold zc8
 exact Nat.xor_lt_two_pow (n:=6) h (Nat.lt_of_le_of_lt Nat.and_le_left h)
end Go.Proofs.YtkfifbopmpcanaaGreat
namespace Go.Proofs.YtkfifbopmpcanaaGreat
open Go.RowKit Go.Shelf
def IterW {α:Type} (P:Program) (gf:Nat) (lb:Array Value) (encs:α→Array Value) (R:Nat→Prop) (S Sp:List α→Prop) (Nx:Nat→(Nat→Prop)→List α→α→World→Prop) (w0:World):Prop :=
 ∀ (n l:Nat) (J Jx:(Nat→Prop)→List α→World→Prop) (W:World),Below w0.heap.size w0 W →
  (∀ pre,Bears (fun _=>False) (J · pre ·))→(∀ pre,Bears (fun _=>False) (Jx · pre ·)) →
  (∀ O pre x W1,J O pre W1→Nx W.heap.size O pre x W1→YieldAt Fence.wide (n - 1) P l (encs x) W1 fun e W' =>
   (e = .returned (.bool true)∧J O (pre ++ [x]) W'∧Kept (fun k=>R k∨O k) W1 W')∨(e = .returned (.bool false)∧Jx O (pre ++ [x]) W')) →
  J (fun _=>False) [] W →
  CallsIn Fence.wide n P gf (#[.func (.yield l) #[] #[]] ++ lb) W fun e W'=>(∃ v,e = .returned v)∧((∃ O xs,S xs∧J O xs W')∨(∃ O pre,Sp pre∧Jx O pre W'))
theorem z00 {α:Type} {P:Program} {n:Nat} {g:Operand} {ps:Array Tmp} {assign body:Code} {Q:Exit→Act→World→Prop} {a:Act} {w:World} {gf:Nat} {lb:Array Value}
  (hg:a.eval g = .func (.func gf) #[] lb) (eg:∀ args w,(callFunc gf args).run P w = .ok (.enter gf args) w)
  {encs:α→Array Value} {R:Nat→Prop} {S Sp:List α→Prop} {Nx:Nat→(Nat→Prop)→List α→α→World→Prop} {w0:World} (hseq:IterW P gf lb encs R S Sp Nx w0) (hb0:Below w0.heap.size w0 w)
  (hR:∀ k,R k→k < w.heap.size) (hps:∀ x,(encs x).size=ps.size)
  (I:(Nat→Prop)→List α→World→Prop) (Ix:Code→(Nat→Prop)→List α→World→Prop)
  (hI:∀ pre,Bears (fun k=>k=w.heap.size∨k=w.heap.size+1) (I · pre ·)) (hIx:∀ c pre,Bears (fun k=>k=w.heap.size∨k=w.heap.size+1) (Ix c · pre ·))
  (h0:I (fun _=>False) [] w)
  (hround:∀ (l:Nat) O (pre:List α) (x:α) (W:World),I O pre W→Nx (w.heap.size+2) O pre x W→(∀ k,O k→w.heap.size+2≤k∧k < W.heap.size)→w.heap.size+2≤W.heap.size →
   assign.wpIn (Fence.wide.inRound l) (n - 1 - 1) P (Exit.then (fun a₁ W₁=>Below W.heap.size W W₁∧∀ W₂,Kept (fun k=>k≠w.heap.size+1) W₁ W₂ →
    body.wpIn (Fence.wide.inRound l) (n - 1 - 1) P (zyu (w.heap.size+1) R O I Ix (pre ++ [x]) W₂) a₁ W₂) (fun _ _ _=>False)) { tmps:=(ps.zip (encs x)).foldl (fun t (p,v)=>t.setIfInBounds p v) a.tmps,defers:=[] } W)
  (hdone:∀ (D:Nat) O (xs:List α) (W:World),w.heap.size≤D→S xs→I O xs W→W.heap[D]? = some (.deferred (some []))→Q .normal { a with defers:={ target:=.collected D,args:=#[] } :: a.defers } W)
  (hstop:∀ (D:Nat) O (c:Code) (pre:List α) (W:World),w.heap.size≤D→Sp pre→Ix c O pre W→W.heap[D]? = some (.deferred (some []))→c.wpIn Fence.wide n P Q { a with defers:={ target:=.collected D,args:=#[] } :: a.defers } W) :
  (Code.rangeFunc g ps assign body).wpIn Fence.wide n P Q a w:=by
 refine wpIn_rangeFunc fun fn hfn=>?_
 generalize hrec:(fun (st:LoopState) (pe:Option Code)=>({ state:=st,pending:=pe,fn,tmps:=a.tmps,params:=ps,assign,body,defers:=w.heap.size }:Loop))=rec
 have er:∀ st pe,rec st pe={ state:=st,pending:=pe,fn,tmps:=a.tmps,params:=ps,assign,body,defers:=w.heap.size }:=fun st pe=>by rw [← hrec]
 have eq1:w.heap.size+1≠w.heap.size:=by omega
 let Bk:World→Loop→Prop:=fun W r=>W.heap[w.heap.size+1]? = some (.loop r)∧W.heap[w.heap.size]? = some (.deferred (some []))
 have bk_lt:∀ {W r},Bk W r→w.heap.size+1 < W.heap.size:=fun h=>(Array.getElem?_eq_some_iff.1 h.1).1
 have bk_kept:∀ {A B r},Bk A r→Kept (fun k=>k=w.heap.size+1∨k+1=w.heap.size+1) A B→Bk B r:=fun {A B r} h hk =>
  ⟨(hk.same _ (bk_lt h) (.inl rfl)).trans h.1,(hk.same _ (by have:=bk_lt h;omega) (.inr rfl)).trans h.2⟩
 have bk_put:∀ {W r} (r':Loop),Bk W r→Bk (W.putObj (w.heap.size+1) (.loop r')) r':=fun {W r} r' h =>
  ⟨World.putObj_heap_same (bk_lt h),(World.putObj_heap_other (by omega)).trans h.2⟩
 have put_kept:∀ (W:World) (o:Obj),Kept (fun k=>k≠w.heap.size+1) W (W.putObj (w.heap.size+1) o):=fun W o=>(Kept.refl _ W).putObj o (fun _ h=>h rfl)
 have hI':∀ {O pre A} (o:Obj),I O pre A→I O pre (A.putObj (w.heap.size+1) o):=fun {O pre A} o h =>
  hI pre O O A _ h ((put_kept A o).mono fun k _ hk e=>hk.2 (.inr e)) (fun _ h=>h) (fun _ h=>.inl h)
 have hIx':∀ {c O pre A} (o:Obj),Ix c O pre A→Ix c O pre (A.putObj (w.heap.size+1) o):=fun {c O pre A} o h =>
  hIx c pre O O A _ h ((put_kept A o).mono fun k _ hk e=>hk.2 (.inr e)) (fun _ h=>h) (fun _ h=>.inl h)
 obtain ⟨W1,hW1⟩:∃ W1,(w.alloc (.deferred (some []))).alloc (.loop (rec .ready none))=W1:=⟨_,rfl⟩
 have hE1:Below w.heap.size w W1:=by rw [← hW1];exact ((Below.refl _ w).alloc (Nat.le_refl _) _).alloc (by simp) _
 have hB1:Bk W1 (rec .ready none):=by
  rw [← hW1]
  refine ⟨?_,(Below.heap_alloc _ _ _ (by simp)).trans (World.alloc_heap_new w _)⟩
  have:=World.alloc_heap_new (w.alloc (.deferred (some []))) (.loop (rec .ready none));rwa [World.size_alloc] at this
 have hs1:W1.heap.size=w.heap.size+2:=by rw [← hW1];simp
 refine ⟨w.heap.size+1,[{ target:=.collected w.heap.size,args:=#[] }],W1,{ target:=.fn (.func gf) lb,args:=#[.func (.yield (w.heap.size+1)) #[] #[]] },W1,gf,
  #[.func (.yield (w.heap.size + 1)) #[] #[]] ++ lb, W1, ?_, ?_, fun _ _ => trivial, ?_, fun h => by simp [Fence.wide] at h, ?_⟩
 ·rw [← hW1,er];exact run_enterLoop_outer _ _ _ _ _
 ·simp only [resolve,hg]
  simp [go_sem]
 ·simp [invoke,go_sem,eg]
 ·refine (hseq (n - 1) (w.heap.size+1)
   (fun O pre W=>I O pre W∧Bk W (rec .ready none)∧∀ k,O k→w.heap.size+2≤k∧k < W.heap.size)
   (fun O pre W=>∃ c,Ix c O pre W∧Bk W (rec .done (some c))∧∀ k,O k→w.heap.size+2≤k∧k < W.heap.size)
   W1 (hb0.trans (hE1.mono hb0.size)) ?_ ?_ ?_ ⟨hI [] _ _ _ _ h0 (.of_below hE1) (fun _ h=>h) (fun _ h=>.inl h),hB1,fun _ h=>h.elim⟩).mono ?_
  ·rintro pre O O' A B ⟨h1,h2,h3⟩ hk hO1 hO2
   have hlt:=bk_lt h2
   have hO3:∀ k,O' k→w.heap.size+2≤k∧k < B.heap.size:=fun k h=>by
    have:=hk.size
    rcases hO2 k h with h | h
    ·have:=h3 k h;omega
    ·omega
   exact ⟨hI pre O O' A B h1 (hk.mono fun k _ h=>⟨h.1,fun h=>h⟩) hO1 hO2,bk_kept h2 (hk.mono fun k _ h=>⟨fun ho=>by have:=h3 k ho;omega,fun h=>h⟩),hO3⟩
  ·rintro pre O O' A B ⟨c,h1,h2,h3⟩ hk hO1 hO2
   have hlt:=bk_lt h2
   have hO3:∀ k,O' k→w.heap.size+2≤k∧k < B.heap.size:=fun k h=>by
    have:=hk.size
    rcases hO2 k h with h | h
    ·have:=h3 k h;omega
    ·omega
   exact ⟨c,hIx c pre O O' A B h1 (hk.mono fun k _ h=>⟨h.1,fun h=>h⟩) hO1 hO2,bk_kept h2 (hk.mono fun k _ h=>⟨fun ho=>by have:=h3 k ho;omega,fun h=>h⟩),hO3⟩
  ·rintro O pre x W ⟨hi,hb,hO⟩ hlen
   have hlt:=bk_lt hb
   have hy:=run_yield (P:=P) (args:=encs x) hb.1 (by rw [er];exact hps x)
   rw [er] at hy
   refine ⟨fn,_,assign,body,hy,roundIn_of_wpIn hfn ?_⟩
   refine wpIn_mono (hround (w.heap.size+1) O pre x W hi (hs1 ▸ hlen) hO (by omega)) ?_
   rintro e a₁ W2 hp
   cases e with
   | normal =>
    obtain ⟨hE2,hm⟩:=hp
    have hb2:Bk W2 (rec .ready none):=bk_kept hb (.of_below hE2)
    refine ⟨_,run_beginRound hb2.1 (by rw [er]),?_⟩
    have hm3:=hm _ (put_kept W2 (.loop { rec .ready none with state:=.busy }))
    have hb3:=bk_put { rec .ready none with state:=.busy } hb2
    generalize hW3:W2.putObj (w.heap.size+1) (.loop { rec .ready none with state:=.busy })=W3 at hm3 hb3 ⊢
    have hk3:Kept (fun k=>k≠w.heap.size+1) W W3:=by rw [← hW3];exact (Kept.of_below hE2).trans (put_kept W2 _)
    have hO3:∀ k,O k→w.heap.size+2≤k∧k < W3.heap.size:=fun k h=>⟨(hO k h).1,Nat.lt_of_lt_of_le (hO k h).2 hk3.size⟩
    refine wpIn_mono hm3 ?_
    have fin:∀ (jump:Option Code) (W4:World),Kept (fun k=>k=w.heap.size+1∨k+1=w.heap.size+1) W3 W4 →
      (Instr.endRound (w.heap.size+1) jump).run P W4 = .ok (.bool jump.isNone) (W4.putObj (w.heap.size+1) (.loop (rec (if jump.isNone then .ready else .done) jump))) ∧
      Bk (W4.putObj (w.heap.size+1) (.loop (rec (if jump.isNone then .ready else .done) jump))) (rec (if jump.isNone then .ready else .done) jump):=fun jump W4 hk4=>by
     have hb4:=bk_kept hb3 hk4
     have hr:=run_endRound (P:=P) jump hb4.1
     refine ⟨?_,bk_put _ hb4⟩
     rw [hr];simp only [er]
    rintro e a3 W4 hp
    cases e with
    | normal =>
     obtain ⟨hk4,hi4⟩:=hp
     obtain ⟨hr,hb5⟩:=fin none W4 (hk4.mono fun k _ h=>.inr (.inr h))
     refine ⟨_,_,hr,.inl ⟨rfl,⟨hI' _ hi4,hb5,fun k h=>⟨(hO k h).1,?_⟩⟩,?_⟩⟩
     ·have:=(hO3 k h).2;have:=hk4.size;simp;omega
     ·have hlt4:=hk4.size
      have hk3':Kept (fun k=>R k∨O k) W W3:=hk3.mono fun k _ h=>by
       rcases h with h | h
       ·have:=hR k h;omega
       ·have:=hO k h;omega
      have hk4':Kept (fun k=>R k∨O k) W3 W4:=hk4.mono fun k _ h=>h.elim .inl fun h=>.inr (.inl h)
      refine (hk3'.trans hk4').trans ((put_kept W4 _).mono fun k _ h=>?_)
      rcases h with h | h
      ·have:=hR k h;omega
      ·have:=hO k h;omega
    | ret =>
     obtain ⟨hk4,hi4⟩:=hp
     obtain ⟨hr,hb5⟩:=fin (some .ret) W4 hk4
     exact ⟨_,_,hr,.inr ⟨rfl,.ret,hIx' _ hi4,hb5,fun k h=>⟨(hO k h).1,by have:=(hO3 k h).2;have:=hk4.size;simp;omega⟩⟩⟩
    | exit id =>
     obtain ⟨hk4,hi4⟩:=hp
     obtain ⟨hr,hb5⟩:=fin (some (.exit id)) W4 hk4
     exact ⟨_,_,hr,.inr ⟨rfl,.exit id,hIx' _ hi4,hb5,fun k h=>⟨(hO k h).1,by have:=(hO3 k h).2;have:=hk4.size;simp;omega⟩⟩⟩
    | goto t =>
     obtain ⟨hk4,hi4⟩:=hp
     obtain ⟨hr,hb5⟩:=fin (some (.goto t)) W4 hk4
     exact ⟨_,_,hr,.inr ⟨rfl,.goto t,hIx' _ hi4,hb5,fun k h=>⟨(hO k h).1,by have:=(hO3 k h).2;have:=hk4.size;simp;omega⟩⟩⟩
    | panic ch=>exact hp.elim
    | outgrown=>exact hp.elim
   | ret=>exact hp.elim
   | exit id=>exact hp.elim
   | goto t=>exact hp.elim
   | panic ch=>exact hp.elim
   | outgrown=>exact hp.elim
  ·rintro e W2 ⟨⟨v,rfl⟩,(⟨O,xs,hS,hi,hb,_⟩ | ⟨O,pre,hSp,c,hi,hb,_⟩)⟩
   ·exact ⟨none,_,by have:=run_endLoop (P:=P) hb.1 (by rw [er];simp);rw [er] at this;exact this,hdone _ O xs _ (Nat.le_refl _) hS (hI' _ hi) ((World.putObj_heap_other (by omega)).trans hb.2)⟩
   ·exact ⟨some c,_,by have:=run_endLoop (P:=P) hb.1 (by rw [er];simp);rw [er] at this;exact this,hstop _ O c pre _ (Nat.le_refl _) hSp (hIx' _ hi) ((World.putObj_heap_other (by omega)).trans hb.2)⟩
end Go.Proofs.YtkfifbopmpcanaaGreat
namespace Go.Proofs.YtkfifbopmpcanaaGreat
open Go.RowKit Go.Shelf
attribute [local go_sem] Oper.semAt_some
theorem zxa {F:Fence} (hd:F.depth=none) (k:Nat):F.room k:=fun d h=>by rw [hd] at h;cases h
theorem z01 {F:Fence} (hd:F.depth=none) {m m':Nat} {P:Program} {l:Nat} {f:FuncId} {tmps:Array Value} {assign body:Code} {w:World} {R:Ending→World→Prop}
  (h:RoundIn F m P l f tmps assign body w R):RoundIn F m' P l f tmps assign body w R:=⟨h.1,fun c cs _=>h.2 c cs (zxa hd _)⟩
theorem zly {F:Fence} (hd:F.depth=none) {m:Nat} (m':Nat) {P:Program} {l:Nat} {args:Array Value} {W:World} {R:Ending→World→Prop} (h:YieldAt F m P l args W R):YieldAt F m' P l args W R:=by
 obtain ⟨fn,tmps,assign,body,hy,hR⟩:=h
 exact ⟨fn,tmps,assign,body,hy,z01 hd hR⟩
def encB (ps:List (Value × Tk)) (x:Value × Lf):Array Value:=#[x.1,.int .i64 (valB (zar (zj ps)) x.2.2 ps.length)]
def NxB (Good:Lf→Prop) (n:Nat) (O:Nat→Prop) (W:World) (x:Value × Lf):Prop:=∃ sb so sc,x.1 = .slice (some ⟨sb,so,none⟩) n sc∧SetsAt W O sb so sc x.2.1 n∧x.2.1.length=n∧(∀ r,r < n→x.2.1.getD r 0 < 64)∧Good x.2
def CutQ (R O:Nat→Prop) (J Jx:(Nat→Prop)→List (Value × Lf)→World→Prop) (pre:List (Value × Lf)) (ys:List Lf) (W:World) (e:Ending) (W':World):Prop :=
 (e = .returned (.bool true)∧∃ O' xs,(∀ k,O k→O' k)∧xs.map (·.2)=ys∧J O' (pre ++ xs) W'∧Kept (fun k=>R k∨O k) W W')∨(e = .returned (.bool false)∧∃ O' pre',Jx O' pre' W')
set_option maxRecDepth 100000 in
set_option maxHeartbeats 16000000 in
theorem zrq {R:Nat→Prop} {w0:World} {p:Nat} {rs:List Nat} {ps:List (Value × Tk)} {rb ro rcap:Nat} {ta:Option Addr} {tc:Nat} (E:CutE R w0 p rs ps rb ro rcap ta tc) (l:Nat) (J Jx:(Nat→Prop)→List (Value × Lf)→World→Prop) (Good:Lf→Prop)
  (hJ:∀ pre,Bears (fun _=>False) (J · pre ·))
  (hY:∀ O pre x W1,J O pre W1→NxB Good rs.length O W1 x→YieldAt Fence.wide 0 Tryz.prog l (encB ps x) W1 fun e W'=>(e = .returned (.bool true)∧J O (pre ++ [x]) W'∧Kept (fun k=>R k∨O k) W1 W')∨(e = .returned (.bool false)∧Jx O (pre ++ [x]) W'))
  (race:Nat) (n:Nat) (sets:List Nat) (al:List Bool) (O:Nat→Prop) (pre:List (Value × Lf)) (sb so sc:Nat) (W:World) (hsl:sets.length=rs.length) (hal:al.length=ps.length) (hsb:∀ r,r < rs.length→sets.getD r 0 < 64) (hend:race=rs.length∨(race < rs.length∧al.all (fun b=>!b)=true)) (hGd:Good (sets,al)) (hK:Kept R w0 W) (hj:J O pre W) (hS:SetsAt W O sb so sc sets rs.length) :
   CallsIn Fence.wide n Tryz.prog 117 #[.pointer (some ⟨p,0,none⟩),.slice (some ⟨sb,so,none⟩) rs.length sc,.agg (zbp (race:Int) (mkI al)),.func (.yield l) #[] #[]] W (CutQ R O J Jx pre [(sets,al)] W):=by
 rcases hend with hend | ⟨hlt,hdead⟩
 ·have hrl:((race:Int) == (rs.length:Int))=true:=by rw [beq_iff_eq];omega
  clear hend
  unfold zbp
  obtain ⟨F,hF⟩:∃ F,F=mkI al:=⟨_,rfl⟩
  rw [← hF]
  have HF:=Lib.hid hF
  clear hF
  refine callsIn_of_wp Tryz.func117 rfl trivial ?_ rfl
  simp only [Tryz.ntmps117,List.size_toArray,List.length_cons,List.length_nil,Nat.reduceAdd,Nat.reduceSub,Array.replicate_succ,Array.replicate_zero,List.push_toArray,List.append_toArray,List.nil_append,List.cons_append]
  obtain ⟨W1,hW1⟩:∃ W1,W1=W.alloc (.cells #[.int .i64 race,.int .i64 (F 0),.int .i64 (F 1),.int .i64 (F 2),.int .i64 (F 3),.int .i64 (F 4),.int .i64 (F 5),.int .i64 (F 6),.int .i64 (F 7),.int .i64 (F 8),.int .i64 (F 9)] 172):=⟨_,rfl⟩
  have hE1:Ext W W1:=by rw [hW1];exact xx
  have hP1:PlAt 172 W1 W.heap.size race F:=by rw [hW1];exact zdx _ W race F
  have hj1:J (fun k=>O k∨k=W.heap.size) pre W1:=by rw [hW1];exact (hJ pre).alloc hj _
  have hS1:SetsAt W1 O sb so sc sets rs.length:=hS.ext hE1
  have hK1:Kept R w0 W1:=hK.trans (Kept.of_below hE1)
  gi_wp2_with fail
  rw [← hW1]
  obtain ⟨q,hq⟩:∃ q,q=W.heap.size:=⟨_,rfl⟩
  rw [← hq] at hP1 hj1 ⊢
  have c0:=(E.sheet W1 hK1).c0
  have hzp:=(E.sheet W1 hK1).lt
  have hqz:=hP1.lt
  obtain ⟨a0,a1,a2,a3,a4,a5,a6,a7,a8,a9,a10⟩:=hP1.cells
  have HE1:=Lib.hid hE1
  have HP1:=Lib.hid hP1
  have HJ1:=Lib.hid hj1
  have HS1:=Lib.hid hS1
  have HK1:=Lib.hid hK1
  have HQ:=Lib.hid hq
  clear hW1 hE1 hP1 hj1 hS1 hK1 hq hj hS hK
  refine wpIn_wide.2 ?_
  refine zcg (W1.heap.size) (Nat.le_refl _)
   [sqV (.pointer (some ⟨q,0,none⟩)),sqV (.int .i64 race),sqV (.pointer (some ⟨p,0,none⟩)),sqV (.pointer (some ⟨p,0,none⟩)),sqV (.pointer (some ⟨p,0,none⟩)),sqV (.pointer (some ⟨p,0,none⟩)),sqV (.slice (some ⟨rb,ro,none⟩) rs.length rcap),sqV (.int .i64 rs.length),sqV (.bool true),sqV (.bool true),sqV undef,sqV undef,sqV undef,sqV undef,sqV (.bool true)]
   [true,true,true,true,true,true,true,true,true,true,true,true,true,true,true] [false,false,false,false,false,false,false,false,false,false,false,false,false,false,false] [true,true,true,true,true,true,true,true,true,true,true,true,true,true,true] [true,true,true,true,true,true,true,true,true,true,true,true,true,true,true] [true,true,true,true,true,true,true,true,true,true,false,false,false,false,true] [none,none,none,none,none,none,none,none,some true,some true,none,none,none,none,some true]
   (by kernel_rfl) (by kernel_rfl) (by decide +kernel) ⟨fun _ _ _ h=>h,⟨fun _ _ _ h=>h,⟨fun _ _ _ h=>h,trivial⟩⟩⟩ (by decide +kernel) (by decide +kernel) (by decide +kernel) rfl ⟨rfl,rfl,rfl⟩ ⟨?s0,?s1,?s2,?s3,?s4,?s5,?s6,?s7,?s8,?s9,?s10,?s11,?s12,?s13,?s14,trivial⟩ [some 15,some 16,some 17,some 18,some 19,some 20,some 21,some 22,some 23,some 24,some 25,some 26,some 27,some 28,some 29] rfl rfl ?send
  case s0 =>
   intro val ρ W hE hz hd hu hA hx
   have o0:ρ (.tmp 6) = .pointer (some ⟨q,0,none⟩):=hA.old 6 (by decide)
   clear hd hu
   exact ze (W':=W) (by simp [execOp,o0,go_sem]) (Below.refl _ _) rfl
  case s1 =>
   intro val ρ W hE hz hd hu hA hx
   have d0:ρ (.tmp 15) = .pointer (some ⟨q,0,none⟩):=(hA.dep 0 (by decide) 15 rfl).trans (hd 0 (by decide))
   have f_a0:=cell_below hE (by simp only;omega) a0
   clear hd hu
   exact ze (W':=W) (by simp [execOp,d0,f_a0,go_sem]) (Below.refl _ _) rfl
  case s2 =>
   intro val ρ W hE hz hd hu hA hx
   have o0:ρ (.tmp 0) = .pointer (some ⟨p,0,none⟩):=hA.old 0 (by decide)
   clear hd hu
   exact ze (W':=W) (by simp [execOp,o0,go_sem]) (Below.refl _ _) rfl
  case s3 =>
   intro val ρ W hE hz hd hu hA hx
   have d2:ρ (.tmp 17) = .pointer (some ⟨p,0,none⟩):=(hA.dep 2 (by decide) 17 rfl).trans (hd 2 (by decide))
   clear hd hu
   exact ze (W':=W) (by simp [execOp,d2,go_sem]) (Below.refl _ _) rfl
  case s4 =>
   intro val ρ W hE hz hd hu hA hx
   have d3:ρ (.tmp 18) = .pointer (some ⟨p,0,none⟩):=(hA.dep 3 (by decide) 18 rfl).trans (hd 3 (by decide))
   clear hd hu
   exact ze (W':=W) (by simp [execOp,d3,go_sem]) (Below.refl _ _) rfl
  case s5 =>
   intro val ρ W hE hz hd hu hA hx
   have d4:ρ (.tmp 19) = .pointer (some ⟨p,0,none⟩):=(hA.dep 4 (by decide) 19 rfl).trans (hd 4 (by decide))
   clear hd hu
   exact ze (W':=W) (by simp [execOp,d4,go_sem]) (Below.refl _ _) rfl
  case s6 =>
   intro val ρ W hE hz hd hu hA hx
   have d5:ρ (.tmp 20) = .pointer (some ⟨p,0,none⟩):=(hA.dep 5 (by decide) 20 rfl).trans (hd 5 (by decide))
   have f_c0:=cell_below hE (by simp only;omega) c0
   clear hd hu
   exact ze (W':=W) (by simp [execOp,d5,f_c0,go_sem]) (Below.refl _ _) rfl
  case s7 =>
   intro val ρ W hE hz hd hu hA hx
   have d6:ρ (.tmp 21) = .slice (some ⟨rb,ro,none⟩) rs.length rcap:=(hA.dep 6 (by decide) 21 rfl).trans (hd 6 (by decide))
   clear hd hu
   exact ze (W':=W) (by simp [d6,go_sem]) (Below.refl _ _) rfl
  case s8 =>
   intro val ρ W hE hz hd hu hA hx
   have d1:ρ (.tmp 16) = .int .i64 race:=(hA.dep 1 (by decide) 16 rfl).trans (hd 1 (by decide))
   have d7:ρ (.tmp 22) = .int .i64 rs.length:=(hA.dep 7 (by decide) 22 rfl).trans (hd 7 (by decide))
   clear hd hu
   exact ze (W':=W) (by simp [execOp,d1,d7,hrl,go_sem]) (Below.refl _ _) rfl
  case s9 =>
   intro val ρ W hE hz hd hu hA hx
   have d8:ρ (.tmp 23) = .bool true:=(hA.dep 8 (by decide) 23 rfl).trans (hd 8 (by decide))
   clear hd hu
   exact ze (W':=W) (by simp [execOp,d8,go_sem]) (Below.refl _ _) rfl
  case s10=>exact ⟨fun _ _=>rfl,fun _ _ _ h=>h⟩
  case s11=>exact ⟨fun _ _=>rfl,fun _ _ _ h=>h⟩
  case s12=>exact ⟨fun _ _=>rfl,fun _ _ _ h=>h⟩
  case s13=>exact ⟨fun _ _=>rfl,fun _ _ _ h=>h⟩
  case s14 =>
   intro val ρ W hE hz hd hu hA hx
   have d9:ρ (.tmp 24) = .bool true:=(hA.dep 9 (by decide) 24 rfl).trans (hd 9 (by decide))
   clear hd hu
   exact ze (W':=W) (by simp [execOp,hA.const,d9,go_sem]) (Below.refl _ _) rfl
  case send =>
   intro val WW hE hzz hv
   obtain ⟨-,-,-,-,-,-,-,-,-,-,-,-,-,-,r14,-⟩:=hv
   have q14:val 14 = .bool true:=r14
   simp only [putD,q14]
   go_frame
   have hPW:=HP1.out.ext hE
   obtain ⟨b0,b1,b2,b3,b4,b5,b6,b7,b8,b9,b10⟩:=hPW.cells
   have hqw:=hPW.lt
   have hEW:=HE1.out.trans' hE
   have hKW:=HK1.out.trans (Kept.of_below hE)
   have hval:=zro ps al p (.slice (some ⟨rb,ro,none⟩) rs.length rcap) ta tc WW (E.sheet WW hKW) (E.tks WW hKW) E.len (ztr E.VT)
   rw [← HF.out] at hval
   have HVAL:=Lib.hid hval
   have HEW:=Lib.hid hEW
   have HJW:=Lib.hid ((hJ pre).ext HJ1.out hE)
   have HSW:=Lib.hid (HS1.out.kept (R:=R) (Kept.of_below hE))
   clear hE hzz r14 q14 hPW hEW hKW hval a0 a1 a2 a3 a4 a5 a6 a7 a8 a9 a10 c0 hzp hqz
   gi_wp2_with fail
   refine ⟨trivial,fun h=>(by simp [Fence.wide] at h),(callsIn_wide.2 HVAL.out).mono ?_⟩
   rintro e W3 ⟨rfl,hE3⟩
   have hS3:=HSW.out.kept (R:=R) (Kept.of_below hE3)
   have hy:=hY _ pre (.slice (some ⟨sb,so,none⟩) rs.length sc,(sets,al)) W3 ((hJ pre).ext HJW.out hE3) ⟨sb,so,sc,rfl,hS3.mono (fun k h=>.inl h),hsl,hsb,hGd⟩
   obtain ⟨fn,tmps,assign,body,hy,hR2⟩:=zly (F:=Fence.wide) rfl (n - 1) hy
   have hy:(Instr.yield l #[.slice (some ⟨sb,so,none⟩) rs.length sc,.int .i64 (valB (zar (zj ps)) al ps.length)]).run Tryz.prog W3 = .ok (.round l fn tmps assign body) W3:=hy
   obtain ⟨vu,hvu⟩:∃ vu,vu=valB (zar (zj ps)) al ps.length:=⟨_,rfl⟩
   rw [← hvu] at hy ⊢
   have HE3:=Lib.hid (HEW.out.trans' hE3)
   clear hvu hE3 hS3 b0 b1 b2 b3 b4 b5 b6 b7 b8 b9 b10 hqw HJW HSW HVAL
   gi_wp2_with fail
   refine ⟨fun h=>(by simp [Fence.wide] at h),hR2.mono ?_⟩
   clear hy hR2
   rintro e WX (⟨rfl,hj6,hk6⟩ | ⟨rfl,hj6⟩)
   ·have HJ6:=Lib.hid hj6
    have HK6:=Lib.hid hk6
    clear hj6 hk6
    gi_wp2_with fail
    go_ret
    exact .inl ⟨rfl,_,[(.slice (some ⟨sb,so,none⟩) rs.length sc,(sets,al))],fun k h=>.inl h,rfl,HJ6.out,(Kept.of_below HE3.out).trans (HK6.out.mono fun k _ h=>h.imp id .inl)⟩
   ·have HJ6:=Lib.hid hj6
    clear hj6
    gi_wp2_with fail
    go_ret
    exact .inr ⟨rfl,_,_,HJ6.out⟩
 ·skip
  unfold zbp
  obtain ⟨F,hF⟩:∃ F,F=mkI al:=⟨_,rfl⟩
  rw [← hF]
  have HF:=Lib.hid hF
  clear hF
  refine callsIn_of_wp Tryz.func117 rfl trivial ?_ rfl
  simp only [Tryz.ntmps117,List.size_toArray,List.length_cons,List.length_nil,Nat.reduceAdd,Nat.reduceSub,Array.replicate_succ,Array.replicate_zero,List.push_toArray,List.append_toArray,List.nil_append,List.cons_append]
  obtain ⟨W1,hW1⟩:∃ W1,W1=W.alloc (.cells #[.int .i64 race,.int .i64 (F 0),.int .i64 (F 1),.int .i64 (F 2),.int .i64 (F 3),.int .i64 (F 4),.int .i64 (F 5),.int .i64 (F 6),.int .i64 (F 7),.int .i64 (F 8),.int .i64 (F 9)] 172):=⟨_,rfl⟩
  have hE1:Ext W W1:=by rw [hW1];exact xx
  have hP1:PlAt 172 W1 W.heap.size race F:=by rw [hW1];exact zdx _ W race F
  have hj1:J (fun k=>O k∨k=W.heap.size) pre W1:=by rw [hW1];exact (hJ pre).alloc hj _
  have hS1:SetsAt W1 O sb so sc sets rs.length:=hS.ext hE1
  have hK1:Kept R w0 W1:=hK.trans (Kept.of_below hE1)
  gi_wp2_with fail
  rw [← hW1]
  obtain ⟨q,hq⟩:∃ q,q=W.heap.size:=⟨_,rfl⟩
  rw [← hq] at hP1 hj1 ⊢
  have c0:=(E.sheet W1 hK1).c0
  have hzp:=(E.sheet W1 hK1).lt
  have hqz:=hP1.lt
  obtain ⟨a0,a1,a2,a3,a4,a5,a6,a7,a8,a9,a10⟩:=hP1.cells
  have HE1:=Lib.hid hE1
  have HP1:=Lib.hid hP1
  have HJ1:=Lib.hid hj1
  have HS1:=Lib.hid hS1
  have HK1:=Lib.hid hK1
  have HQ:=Lib.hid hq
  clear hW1 hE1 hP1 hj1 hS1 hK1 hq hj hS hK
  refine wpIn_wide.2 ?_
  have hrl:((race:Int) == (rs.length:Int))=false:=by rw [beq_eq_false_iff_ne];omega
  have heq:∀ W,(Op.equalIn 10000 170 (.agg #[.int .i64 (F 0),.int .i64 (F 1),.int .i64 (F 2),.int .i64 (F 3),.int .i64 (F 4),.int .i64 (F 5),.int .i64 (F 6),.int .i64 (F 7),.int .i64 (F 8),.int .i64 (F 9)]) (.agg #[.int .i64 0,.int .i64 0,.int .i64 0,.int .i64 0,.int .i64 0,.int .i64 0,.int .i64 0,.int .i64 0,.int .i64 0,.int .i64 0])).run Tryz.prog W = .ok true W:=fun W=>by
   have h:=znl 170 Tryz.runUnderlying170 F (fun _=>0) 9998 W
   have h2:=zrm (n:=ps.length) hal E.len
   rw [hdead] at h2
   rw [← HF.out] at h2
   unfold zlw at h2
   rw [h2] at h
   exact h
  clear hlt hdead
  refine zcg (W1.heap.size) (Nat.le_refl _)
   [sqV (.pointer (some ⟨q,0,none⟩)),sqV (.int .i64 race),sqV (.pointer (some ⟨p,0,none⟩)),sqV (.pointer (some ⟨p,0,none⟩)),sqV (.pointer (some ⟨p,0,none⟩)),sqV (.pointer (some ⟨p,0,none⟩)),sqV (.slice (some ⟨rb,ro,none⟩) rs.length rcap),sqV (.int .i64 rs.length),sqV (.bool false),sqV (.bool false),sqV (.pointer (some ⟨q,1,none⟩)),sqV (.agg #[.int .i64 (F 0),.int .i64 (F 1),.int .i64 (F 2),.int .i64 (F 3),.int .i64 (F 4),.int .i64 (F 5),.int .i64 (F 6),.int .i64 (F 7),.int .i64 (F 8),.int .i64 (F 9)]),sqV (.agg #[.int .i64 0,.int .i64 0,.int .i64 0,.int .i64 0,.int .i64 0,.int .i64 0,.int .i64 0,.int .i64 0,.int .i64 0,.int .i64 0]),sqV (.bool true),sqV (.bool true)]
   [true,true,true,true,true,true,true,true,true,true,true,true,true,true,true] [false,false,false,false,false,false,false,false,false,false,false,false,false,false,false] [true,true,true,true,true,true,true,true,true,true,true,true,true,true,true] [true,true,true,true,true,true,true,true,true,true,true,true,true,true,true] [true,true,true,true,true,true,true,true,true,true,true,true,true,true,true] [none,none,none,none,none,none,none,none,some false,some false,none,none,none,some true,some true]
   (by kernel_rfl) (by kernel_rfl) (by decide +kernel) ⟨fun _ _ _ h=>h,⟨fun _ _ _ h=>h,⟨fun _ _ _ h=>h,⟨fun _ _ _ h=>h,trivial⟩⟩⟩⟩ (by decide +kernel) (by decide +kernel) (by decide +kernel) rfl ⟨rfl,rfl,rfl⟩ ⟨?s0,?s1,?s2,?s3,?s4,?s5,?s6,?s7,?s8,?s9,?s10,?s11,?s12,?s13,?s14,trivial⟩ [some 15,some 16,some 17,some 18,some 19,some 20,some 21,some 22,some 23,some 24,some 25,some 26,some 27,some 28,some 29] rfl rfl ?send
  case s0 =>
   intro val ρ W hE hz hd hu hA hx
   have o0:ρ (.tmp 6) = .pointer (some ⟨q,0,none⟩):=hA.old 6 (by decide)
   clear hd hu
   exact ze (W':=W) (by simp [execOp,o0,go_sem]) (Below.refl _ _) rfl
  case s1 =>
   intro val ρ W hE hz hd hu hA hx
   have d0:ρ (.tmp 15) = .pointer (some ⟨q,0,none⟩):=(hA.dep 0 (by decide) 15 rfl).trans (hd 0 (by decide))
   have f_a0:=cell_below hE (by simp only;omega) a0
   clear hd hu
   exact ze (W':=W) (by simp [execOp,d0,f_a0,go_sem]) (Below.refl _ _) rfl
  case s2 =>
   intro val ρ W hE hz hd hu hA hx
   have o0:ρ (.tmp 0) = .pointer (some ⟨p,0,none⟩):=hA.old 0 (by decide)
   clear hd hu
   exact ze (W':=W) (by simp [execOp,o0,go_sem]) (Below.refl _ _) rfl
  case s3 =>
   intro val ρ W hE hz hd hu hA hx
   have d2:ρ (.tmp 17) = .pointer (some ⟨p,0,none⟩):=(hA.dep 2 (by decide) 17 rfl).trans (hd 2 (by decide))
   clear hd hu
   exact ze (W':=W) (by simp [execOp,d2,go_sem]) (Below.refl _ _) rfl
  case s4 =>
   intro val ρ W hE hz hd hu hA hx
   have d3:ρ (.tmp 18) = .pointer (some ⟨p,0,none⟩):=(hA.dep 3 (by decide) 18 rfl).trans (hd 3 (by decide))
   clear hd hu
   exact ze (W':=W) (by simp [execOp,d3,go_sem]) (Below.refl _ _) rfl
  case s5 =>
   intro val ρ W hE hz hd hu hA hx
   have d4:ρ (.tmp 19) = .pointer (some ⟨p,0,none⟩):=(hA.dep 4 (by decide) 19 rfl).trans (hd 4 (by decide))
   clear hd hu
   exact ze (W':=W) (by simp [execOp,d4,go_sem]) (Below.refl _ _) rfl
  case s6 =>
   intro val ρ W hE hz hd hu hA hx
   have d5:ρ (.tmp 20) = .pointer (some ⟨p,0,none⟩):=(hA.dep 5 (by decide) 20 rfl).trans (hd 5 (by decide))
   have f_c0:=cell_below hE (by simp only;omega) c0
   clear hd hu
   exact ze (W':=W) (by simp [execOp,d5,f_c0,go_sem]) (Below.refl _ _) rfl
  case s7 =>
   intro val ρ W hE hz hd hu hA hx
   have d6:ρ (.tmp 21) = .slice (some ⟨rb,ro,none⟩) rs.length rcap:=(hA.dep 6 (by decide) 21 rfl).trans (hd 6 (by decide))
   clear hd hu
   exact ze (W':=W) (by simp [d6,go_sem]) (Below.refl _ _) rfl
  case s8 =>
   intro val ρ W hE hz hd hu hA hx
   have d1:ρ (.tmp 16) = .int .i64 race:=(hA.dep 1 (by decide) 16 rfl).trans (hd 1 (by decide))
   have d7:ρ (.tmp 22) = .int .i64 rs.length:=(hA.dep 7 (by decide) 22 rfl).trans (hd 7 (by decide))
   clear hd hu
   exact ze (W':=W) (by simp [execOp,d1,d7,hrl,go_sem]) (Below.refl _ _) rfl
  case s9 =>
   intro val ρ W hE hz hd hu hA hx
   have d8:ρ (.tmp 23) = .bool false:=(hA.dep 8 (by decide) 23 rfl).trans (hd 8 (by decide))
   clear hd hu
   exact ze (W':=W) (by simp [execOp,d8,go_sem]) (Below.refl _ _) rfl
  case s10 =>
   intro val ρ W hE hz hd hu hA hx
   have o0:ρ (.tmp 6) = .pointer (some ⟨q,0,none⟩):=hA.old 6 (by decide)
   clear hd hu
   exact ze (W':=W) (by simp [execOp,o0,go_sem]) (Below.refl _ _) rfl
  case s11 =>
   intro val ρ W hE hz hd hu hA hx
   have d10:ρ (.tmp 25) = .pointer (some ⟨q,1,none⟩):=(hA.dep 10 (by decide) 25 rfl).trans (hd 10 (by decide))
   have f_a1:=cell_below hE (by simp only;omega) a1
   have f_a2:=cell_below hE (by simp only;omega) a2
   have f_a3:=cell_below hE (by simp only;omega) a3
   have f_a4:=cell_below hE (by simp only;omega) a4
   have f_a5:=cell_below hE (by simp only;omega) a5
   have f_a6:=cell_below hE (by simp only;omega) a6
   have f_a7:=cell_below hE (by simp only;omega) a7
   have f_a8:=cell_below hE (by simp only;omega) a8
   have f_a9:=cell_below hE (by simp only;omega) a9
   have f_a10:=cell_below hE (by simp only;omega) a10
   clear hd hu
   exact ze (W':=W) (by simp [execOp,d10,f_a1,f_a2,f_a3,f_a4,f_a5,f_a6,f_a7,f_a8,f_a9,f_a10,go_sem]) (Below.refl _ _) rfl
  case s12 =>
   intro val ρ W hE hz hd hu hA hx
   clear hd hu
   exact ze (W':=W) (by simp [execOp,go_sem]) (Below.refl _ _) rfl
  case s13 =>
   intro val ρ W hE hz hd hu hA hx
   have d11:ρ (.tmp 26) = .agg #[.int .i64 (F 0),.int .i64 (F 1),.int .i64 (F 2),.int .i64 (F 3),.int .i64 (F 4),.int .i64 (F 5),.int .i64 (F 6),.int .i64 (F 7),.int .i64 (F 8),.int .i64 (F 9)]:=(hA.dep 11 (by decide) 26 rfl).trans (hd 11 (by decide))
   have d12:ρ (.tmp 27) = .agg #[.int .i64 0,.int .i64 0,.int .i64 0,.int .i64 0,.int .i64 0,.int .i64 0,.int .i64 0,.int .i64 0,.int .i64 0,.int .i64 0]:=(hA.dep 12 (by decide) 27 rfl).trans (hd 12 (by decide))
   clear hd hu
   exact ze (W':=W) (by simp [execOp,d11,d12,heq,go_sem]) (Below.refl _ _) rfl
  case s14 =>
   intro val ρ W hE hz hd hu hA hx
   have d9:ρ (.tmp 24) = .bool false:=(hA.dep 9 (by decide) 24 rfl).trans (hd 9 (by decide))
   have d13:ρ (.tmp 28) = .bool true:=(hA.dep 13 (by decide) 28 rfl).trans (hd 13 (by decide))
   clear hd hu
   exact ze (W':=W) (by simp [execOp,hA.const,d9,d13,go_sem]) (Below.refl _ _) rfl
  case send =>
   intro val WW hE hzz hv
   obtain ⟨-,-,-,-,-,-,-,-,-,-,-,-,-,-,r14,-⟩:=hv
   have q14:val 14 = .bool true:=r14
   simp only [putD,q14]
   go_frame
   have hPW:=HP1.out.ext hE
   obtain ⟨b0,b1,b2,b3,b4,b5,b6,b7,b8,b9,b10⟩:=hPW.cells
   have hqw:=hPW.lt
   have hEW:=HE1.out.trans' hE
   have hKW:=HK1.out.trans (Kept.of_below hE)
   have hval:=zro ps al p (.slice (some ⟨rb,ro,none⟩) rs.length rcap) ta tc WW (E.sheet WW hKW) (E.tks WW hKW) E.len (ztr E.VT)
   rw [← HF.out] at hval
   have HVAL:=Lib.hid hval
   have HEW:=Lib.hid hEW
   have HJW:=Lib.hid ((hJ pre).ext HJ1.out hE)
   have HSW:=Lib.hid (HS1.out.kept (R:=R) (Kept.of_below hE))
   clear hE hzz r14 q14 hPW hEW hKW hval a0 a1 a2 a3 a4 a5 a6 a7 a8 a9 a10 c0 hzp hqz
   gi_wp2_with fail
   refine ⟨trivial,fun h=>(by simp [Fence.wide] at h),(callsIn_wide.2 HVAL.out).mono ?_⟩
   rintro e W3 ⟨rfl,hE3⟩
   have hS3:=HSW.out.kept (R:=R) (Kept.of_below hE3)
   have hy:=hY _ pre (.slice (some ⟨sb,so,none⟩) rs.length sc,(sets,al)) W3 ((hJ pre).ext HJW.out hE3) ⟨sb,so,sc,rfl,hS3.mono (fun k h=>.inl h),hsl,hsb,hGd⟩
   obtain ⟨fn,tmps,assign,body,hy,hR2⟩:=zly (F:=Fence.wide) rfl (n - 1) hy
   have hy:(Instr.yield l #[.slice (some ⟨sb,so,none⟩) rs.length sc,.int .i64 (valB (zar (zj ps)) al ps.length)]).run Tryz.prog W3 = .ok (.round l fn tmps assign body) W3:=hy
   obtain ⟨vu,hvu⟩:∃ vu,vu=valB (zar (zj ps)) al ps.length:=⟨_,rfl⟩
   rw [← hvu] at hy ⊢
   have HE3:=Lib.hid (HEW.out.trans' hE3)
   clear hvu hE3 hS3 b0 b1 b2 b3 b4 b5 b6 b7 b8 b9 b10 hqw HJW HSW HVAL
   gi_wp2_with fail
   refine ⟨fun h=>(by simp [Fence.wide] at h),hR2.mono ?_⟩
   clear hy hR2
   rintro e WX (⟨rfl,hj6,hk6⟩ | ⟨rfl,hj6⟩)
   ·have HJ6:=Lib.hid hj6
    have HK6:=Lib.hid hk6
    clear hj6 hk6
    gi_wp2_with fail
    go_ret
    exact .inl ⟨rfl,_,[(.slice (some ⟨sb,so,none⟩) rs.length sc,(sets,al))],fun k h=>.inl h,rfl,HJ6.out,(Kept.of_below HE3.out).trans (HK6.out.mono fun k _ h=>h.imp id .inl)⟩
   ·have HJ6:=Lib.hid hj6
    clear hj6
    gi_wp2_with fail
    go_ret
    exact .inr ⟨rfl,_,_,HJ6.out⟩
end Go.Proofs.YtkfifbopmpcanaaGreat
