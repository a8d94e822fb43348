/-
  make and copy of sets, and what stands round the walk of cut: the sheet in memory, the sets that are handed on.
-/
import Derived.Test.YtdcnbeehckgpcaaGreatXa
import Derived.Test.YtdcnbeehckgpcaaGreatTb
set_option maxRecDepth 200000
set_option maxHeartbeats 0
namespace Go.Proofs.YtdcnbeehckgpcaaGreat
open Go.Lib (hid)
open Go.RowKit Go.Shelf
theorem zaad{P:Program}(w:World)(dT sT ty elem:TypeId)(g n cap:Nat)(a:Addr)(cur:Array Value)(t:TypeId)(cs:List Value)
  (hu:P.underlying dT=some (.slice elem)) (hs:(P.info? elem).map (·.size)=some 1) (hg:w.heap[g]?=some (.cells cur t (0,0))) (hn:cs.length=n)
  (hsrc:∀j v,cs[j]?=some v→w.cell? (a.add j)=some v) (hfit:cs.length≤cur.size) (h1:∀v∈cs,v.oneCell'=true) :
  (Builtin.copy_ #[dT,sT] ty #[.slice (some ⟨g,0,none⟩) n n,.slice (some a) n cap]).run P w =
   .ok (goInt n) (w.setRow g (cs++cur.toList.drop cs.length).toArray):=by
 have hl:=run_loadCells_list (P:=P) w a cs hsrc;have hst:=run_storeCells_at P g 0 t cs 0 cur w hg (by simpa using hfit) h1;have hmin:Nat.min n n=n:=Nat.min_self n;cases hq:P.info? elem with
 |none=>simp[hq]at hs
 |some i =>
  have hi:i.size=1:=by simpa[hq]using hs
  simp only[wfc,List.take_zero,wd1]at hst;rw[hn]at hl hst ⊢;simp[Builtin.copy_,run_underlying hu,Builtin.lenOf,Builtin.firstCells,sizeOf,typeInfo,hq,hi,hl,hst]
theorem zxs(w:World)(g n:Nat)(f0:Nat→Int)(l:List Nat)(sb so cap:Nat)(ty:TypeId)(hN:zbj w g n f0)(hl:l.length=n)(hc:∀r,r<n→w.cell? ⟨sb,so+r,none⟩=some (.int .i64 (l.getD r 0:Int))) :
  ∃w',(Builtin.copy_ #[22,22] ty #[.slice (some ⟨g,0,none⟩) n n,.slice (some ⟨sb,so,none⟩) n cap]).run Tryz.prog w=.ok (goInt n) w'∧Kept (fun k=>k≠g) w w'∧zbj w' g n (fun j=>(l.getD j 0:Int)):=by
 obtain⟨cur,h1,h2,h3⟩:=hN;obtain⟨cs,hcs⟩:∃cs,cs=(zy l).map (Value.int .i64):=⟨_,rfl⟩
 have hlen:cs.length=n:=by rw[hcs,wc8,zad,hl]
 have hat:∀j,j<n→cs[j]?=some (.int .i64 (l.getD j 0:Int)):=fun j hj=>by
  have h9:=zig (l:=l) (i:=j) (by omega);rw[hcs,wcq,wcn (by rw[zad];omega),h9];rfl
 have hr:=zaad (P:=Tryz.prog) w 22 22 ty 3 g n cap ⟨sb,so,none⟩ cur 3 cs zgc.und (by kernel_rfl) h1 hlen (fun j v hj=>by
   have hjn:j<n:=by
    have:=(wcp.1 hj).1;omega
   rw [hat j hjn] at hj;cases hj;rw [addr_add];exact hc j hjn) (by omega) (fun v hv=>by
   rw[hcs]at hv;obtain⟨x,_,rfl⟩:=wdv.1 hv;rfl)
 refine⟨_,hr,⟨rfl,rfl,rfl,by simp[World.setRow],fun k _ hne=>setRow_other w g k _ hne⟩,_,setRow_heap w g _ _ _ _ h1,?_,fun j hj=>?_⟩
 ·simp only[wd7,wc3];omega
 ·rw[wcu,wcj (by omega),hat j hj]
structure zsn(R:Nat→Prop)(w0:World)(p:Nat)(rs:List Nat)(ps:List (Value×Tk))(rb ro rcap:Nat)(ta:Option Addr)(tc:Nat):Prop where
 sheet:∀W,Kept R w0 W→zc2 W p (.slice (some ⟨rb,ro,none⟩) rs.length rcap) (.slice ta ps.length tc)
 cells:∀W,Kept R w0 W→∀r,r<rs.length→W.cell? ⟨rb,ro+r,none⟩=some (.int .i64 (rs.getD r 0:Int))
 tks:∀W,Kept R w0 W→ze4 W (.slice ta ps.length tc) ps
 cap:rs.length≤rcap∧rcap≤9223372036854775807
 V:zfr rs
 VT:zjj rs (zac ps)
theorem zsn.len{R:Nat→Prop}{w0:World}{p:Nat}{rs:List Nat}{ps:List (Value×Tk)}{rb ro rcap:Nat}{ta:Option Addr}{tc:Nat}(E:zsn R w0 p rs ps rb ro rcap ta tc):ps.length≤10:=by
 have:=E.VT.hi;simpa[zac]using this
def zb0(W:World)(O:Nat→Prop)(sb so sc:Nat)(l:List Nat)(n:Nat):Prop :=
 n≤sc∧sc≤9223372036854775807∧O sb∧∀r,r<n→W.cell? ⟨sb,so+r,none⟩=some (.int .i64 (l.getD r 0:Int))
theorem zb0.kept{W W':World}{O R:Nat→Prop}{sb so sc:Nat}{l:List Nat}{n:Nat}(h:zb0 W O sb so sc l n)(k:Kept (fun k=>R k∨O k) W W'):zb0 W' O sb so sc l n :=
 ⟨h.1,h.2.1,h.2.2.1,fun r hr=>k.cell (h.2.2.2 r hr) (.inr h.2.2.1)⟩
theorem zb0.mono{W:World}{O O':Nat→Prop}{sb so sc:Nat}{l:List Nat}{n:Nat}(h:zb0 W O sb so sc l n)(k:∀b,O b→O' b):zb0 W O' sb so sc l n:=⟨h.1,h.2.1,k _ h.2.2.1,h.2.2.2⟩
theorem zb0.ext{W W':World}{O:Nat→Prop}{sb so sc:Nat}{l:List Nat}{n:Nat}(h:zb0 W O sb so sc l n)(e:Ext W W'):zb0 W' O sb so sc l n:=⟨h.1,h.2.1,h.2.2.1,fun r hr=>zh e (h.2.2.2 r hr)⟩
theorem zb0.ints{W:World}{O:Nat→Prop}{sb so sc:Nat}{l:List Nat}{n:Nat}(h:zb0 W O sb so sc l n)(hl:l.length=n):zo W .i64 (.slice (some ⟨sb,so,none⟩) n sc) (zy l):=by
 subst hl;have hi:=zo.mk (w:=W) (k:=.i64) (l:=zy l) (b:=sb) (off:=so) (cap:=sc) (by rw[zad];exact h.1) h.2.1 fun i hi=>by
  rw[zad]at hi;rw[zig hi];exact h.2.2.2 i hi
 rw[zad]at hi;exact hi
theorem zsn.ints{R:Nat→Prop}{w0:World}{p:Nat}{rs:List Nat}{ps:List (Value×Tk)}{rb ro rcap:Nat}{ta:Option Addr}{tc:Nat}(E:zsn R w0 p rs ps rb ro rcap ta tc){W:World}(hk:Kept R w0 W):zo W .i64 (.slice (some ⟨rb,ro,none⟩) rs.length rcap) (zy rs):=by
 have hi:=zo.mk (w:=W) (k:=.i64) (l:=zy rs) (b:=rb) (off:=ro) (cap:=rcap) (by rw[zad];exact E.cap.1) E.cap.2 fun i hi=>by
  rw[zad]at hi;rw[zig hi];exact E.cells W hk i hi
 rw[zad]at hi;exact hi
theorem z1b{rs:List Nat}{ps:List (Value×Tk)}(V:zjj rs (zac ps))(j:Nat):0≤(za2 (zac ps)).getD j 0∧(za2 (zac ps)).getD j 0≤1000:=by
 rw[wch];cases h:(za2 (zac ps))[j]? with
 |none=>simp
 |some u =>
  obtain⟨t,ht,rfl⟩:=wdv.1 (wdy h);have:=V.u t ht;simp only[wfk];omega
theorem z4k{n:Nat}(h:n≤6):2^n≤64:=(zjf h).2.1
theorem zahk{rs:List Nat}{ps:List (Value×Tk)}(V:zfr rs)(VT:zjj rs (zac ps)):∀x∈ps,∀r,r<rs.length→x.2.s.getD r 0≤64:=fun x hx r hr=>by
 have h1:=VT.each x.2 (wdv.2 ⟨x,hx,rfl⟩) r hr;have h2:=z4k (V.each r hr).2;omega
theorem zacy{rs:List Nat}{ps:List (Value×Tk)}(VT:zjj rs (zac ps)):∀x∈ps,x.2.s.length=rs.length:=fun x hx=>VT.len x.2 (wdv.2 ⟨x,hx,rfl⟩)
theorem zaj7{left n i:Nat}{cls:Nat→List Bool}{own:Nat}(h:∀j,own.testBit j=decide (i≤j∧j<n∧left.testBit j=true∧cls j=cls i)):own=ownB left n i cls n:=by
 apply wen;intro j;rw[h,zt6 _ _ _ _ (weq n),decide_eq_decide]
 constructor
 ·rintro⟨a,b,c⟩
  exact⟨by omega,b,a,c⟩
 ·rintro⟨_,b,a,c⟩
  exact⟨a,b,c⟩
theorem zafk{left i k:Nat}{cls:Nat→List Bool}{own:Nat}(hik:i≤k)(h:∀j,own.testBit j=decide (i≤j∧j<k∧left.testBit j=true∧cls j=cls i))(hb:left.testBit k=true)(hc:cls k=cls i) :
  ∀j,(own ||| 2^k).testBit j=decide (i≤j∧j<k+1∧left.testBit j=true∧cls j=cls i):=by
 intro j;rw[Nat.testBit_or,h,wfa,way,wa6,decide_eq_true_eq,decide_eq_true_eq,decide_eq_true_eq]
 constructor
 ·rintro(⟨a,b,c⟩|rfl)
  ·exact⟨a,by omega,c⟩
  ·exact⟨hik,by omega,hb,hc⟩
 ·rintro⟨a,b,c⟩
  by_cases e:k=j
  ·exact .inr e
  ·exact .inl ⟨a,by omega,c⟩
theorem z4l{left i k:Nat}{cls:Nat→List Bool}{own:Nat}(h:∀j,own.testBit j=decide (i≤j∧j<k∧left.testBit j=true∧cls j=cls i))(hb:¬(left.testBit k=true∧cls k=cls i)) :
  ∀j,own.testBit j=decide (i≤j∧j<k+1∧left.testBit j=true∧cls j=cls i):=by
 intro j;rw[h,decide_eq_decide]
 constructor
 ·rintro⟨a,b,c⟩
  exact⟨a,by omega,c⟩
 ·rintro⟨a,b,c⟩
  refine⟨a,?_,c⟩
  rcases weu j k with h1|h1
  ·exact h1
  ·have:j=k:=by omega
   subst this;exact absurd c hb
theorem zalk{a b:Nat}(h1:a<64)(h2:b<64):a ||| b<64:=Nat.or_lt_two_pow (n:=6) h1 h2
theorem zaii(a b:Nat)(h:a<64):ze2 a b<64:=by
 unfold ze2;exact Nat.xor_lt_two_pow (n:=6) h (wes wej h)
def zahl{α:Type}(P:Program)(gf:Nat)(lb:Array Value)(encs:α→Array Value)(R:Nat→Prop)(S Sp:List α→Prop)(Nx:Nat→(Nat→Prop)→List α→α→World→Prop)(w0:World):Prop :=
 ∀(n l:Nat) (J Jx:(Nat→Prop)→List α→World→Prop) (W:World),Below w0.heap.size w0 W →
  (∀pre,Bears (fun _=>False) (J · pre ·))→(∀pre,Bears (fun _=>False) (Jx · pre ·)) →
  (∀ O pre x W1,J O pre W1→Nx W.heap.size O pre x W1→YieldAt Fence.wide (n-1) P l (encs x) W1 fun e W' =>
   (e=.returned (.bool true)∧J O (pre++[x]) W'∧Kept (fun k=>R k∨O k) W1 W')∨(e=.returned (.bool false)∧Jx O (pre++[x]) W')) →
  J (fun _=>False) [] W →
  CallsIn Fence.wide n P gf (#[.func (.yield l) #[] #[]]++lb) W fun e W'=>(∃v,e=.returned v)∧((∃O xs,S xs∧J O xs W')∨(∃O pre,Sp pre∧Jx O pre W'))
theorem zaae{α:Type}{P:Program}{n:Nat}{g:Operand}{ps:Array Tmp}{assign body:Code}{Q:Exit→Act→World→Prop}{a:Act}{w:World}{gf:Nat}{lb:Array Value}
  (hg:a.eval g=.func (.func gf) #[] lb) (eg:∀args w,(callFunc gf args).run P w=.ok (.enter gf args) w)
  {encs:α→Array Value} {R:Nat→Prop} {S Sp:List α→Prop} {Nx:Nat→(Nat→Prop)→List α→α→World→Prop} {w0:World} (hseq:zahl P gf lb encs R S Sp Nx w0) (hb0:Below w0.heap.size w0 w)
  (hR:∀k,R k→k<w.heap.size) (hps:∀x,(encs x).size=ps.size)
  (I:(Nat→Prop)→List α→World→Prop) (Ix:Code→(Nat→Prop)→List α→World→Prop)
  (hI:∀pre,Bears (fun k=>k=w.heap.size∨k=w.heap.size+1) (I · pre ·)) (hIx:∀c pre,Bears (fun k=>k=w.heap.size∨k=w.heap.size+1) (Ix c · pre ·))
  (h0:I (fun _=>False) [] w)
  (hround:∀(l:Nat) O (pre:List α) (x:α) (W:World),I O pre W→Nx (w.heap.size+2) O pre x W→(∀k,O k→w.heap.size+2≤k∧k<W.heap.size)→w.heap.size+2≤W.heap.size →
   assign.wpIn (Fence.wide.inRound l) (n - 1 - 1) P (Exit.then (fun a₁ W₁=>Below W.heap.size W W₁∧∀W₂,Kept (fun k=>k≠w.heap.size+1) W₁ W₂ →
    body.wpIn (Fence.wide.inRound l) (n-1-1) P (z7k (w.heap.size+1) R O I Ix (pre++[x]) W₂) a₁ W₂) (fun _ _ _=>False)) { tmps:=(ps.zip (encs x)).foldl (fun t (p,v)=>t.setIfInBounds p v) a.tmps,defers:=[] } W)
  (hdone:∀(D:Nat) O (xs:List α) (W:World),w.heap.size≤D→S xs→I O xs W→W.heap[D]?=some (.deferred (some []))→Q .normal { a with defers:={ target:=.collected D,args:=#[] }::a.defers } W)
  (hstop:∀(D:Nat) O (c:Code) (pre:List α) (W:World),w.heap.size≤D→Sp pre→Ix c O pre W→W.heap[D]?=some (.deferred (some []))→c.wpIn Fence.wide n P Q { a with defers:={ target:=.collected D,args:=#[] }::a.defers } W) :
  (Code.rangeFunc g ps assign body).wpIn Fence.wide n P Q a w:=by
 refine wpIn_rangeFunc fun fn hfn=>?_
 generalize hrec:(fun(st:LoopState) (pe:Option Code)=>({ state:=st,pending:=pe,fn,tmps:=a.tmps,params:=ps,assign,body,defers:=w.heap.size }:Loop))=rec;have er:∀st pe,rec st pe={ state:=st,pending:=pe,fn,tmps:=a.tmps,params:=ps,assign,body,defers:=w.heap.size }:=fun st pe=>by rw[←hrec]
 have eq1:w.heap.size+1≠w.heap.size:=by omega
 let Bk:World→Loop→Prop:=fun W r=>W.heap[w.heap.size+1]?=some (.loop r)∧W.heap[w.heap.size]?=some (.deferred (some []))
 have bk_lt:∀{W r},Bk W r→w.heap.size+1<W.heap.size:=fun h=>(wad.1 h.1).1
 have bk_kept:∀{A B r},Bk A r→Kept (fun k=>k=w.heap.size+1∨k+1=w.heap.size+1) A B→Bk B r:=fun {A B r} h hk =>
  ⟨(hk.same _ (bk_lt h) (.inl rfl)).trans h.1,(hk.same _ (by have:=bk_lt h;omega) (.inr rfl)).trans h.2⟩
 have bk_put:∀{W r} (r':Loop),Bk W r→Bk (W.putObj (w.heap.size+1) (.loop r')) r':=fun {W r} r' h =>
  ⟨World.putObj_heap_same (bk_lt h),(World.putObj_heap_other (by omega)).trans h.2⟩
 have put_kept:∀(W:World) (o:Obj),Kept (fun k=>k≠w.heap.size+1) W (W.putObj (w.heap.size+1) o):=fun W o=>(Kept.refl _ W).putObj o (fun _ h=>h rfl)
 have hI':∀{O pre A} (o:Obj),I O pre A→I O pre (A.putObj (w.heap.size+1) o):=fun {O pre A} o h =>
  hI pre O O A _ h ((put_kept A o).mono fun k _ hk e=>hk.2 (.inr e)) (fun _ h=>h) (fun _ h=>.inl h)
 have hIx':∀{c O pre A} (o:Obj),Ix c O pre A→Ix c O pre (A.putObj (w.heap.size+1) o):=fun {c O pre A} o h =>
  hIx c pre O O A _ h ((put_kept A o).mono fun k _ hk e=>hk.2 (.inr e)) (fun _ h=>h) (fun _ h=>.inl h)
 obtain⟨W1,hW1⟩:∃W1,(w.alloc (.deferred (some []))).alloc (.loop (rec .ready none))=W1:=⟨_,rfl⟩
 have hE1:Below w.heap.size w W1:=by rw[←hW1];exact((Below.refl _ w).alloc (weq _) _).alloc (by simp) _
 have hB1:Bk W1 (rec .ready none):=by
  rw[←hW1];refine⟨?_,(Below.heap_alloc _ _ _ (by simp)).trans (World.alloc_heap_new w _)⟩;have:=World.alloc_heap_new (w.alloc (.deferred (some []))) (.loop (rec .ready none));rwa [wfx]at this
 have hs1:W1.heap.size=w.heap.size+2:=by rw[←hW1];simp
 refine ⟨w.heap.size+1,[{ target:=.collected w.heap.size,args:=#[] }],W1,{ target:=.fn (.func gf) lb,args:=#[.func (.yield (w.heap.size+1)) #[] #[]] },W1,gf,
  #[.func (.yield (w.heap.size + 1)) #[] #[]] ++ lb, W1, ?_, ?_, fun _ _ => trivial, ?_, fun h => by simp [Fence.wide] at h, ?_⟩
 ·rw[←hW1,er];exact run_enterLoop_outer _ _ _ _ _
 ·simp only[resolve,hg]
  simp[go_sem]
 ·simp[invoke,go_sem,eg]
 ·refine (hseq (n-1) (w.heap.size+1)
   (fun O pre W=>I O pre W∧Bk W (rec .ready none)∧∀k,O k→w.heap.size+2≤k∧k<W.heap.size)
   (fun O pre W=>∃c,Ix c O pre W∧Bk W (rec .done (some c))∧∀k,O k→w.heap.size+2≤k∧k<W.heap.size)
   W1 (hb0.trans (hE1.mono hb0.size)) ?_ ?_ ?_ ⟨hI [] _ _ _ _ h0 (.of_below hE1) (fun _ h=>h) (fun _ h=>.inl h),hB1,fun _ h=>h.elim⟩).mono ?_
  ·rintro pre O O' A B ⟨h1,h2,h3⟩ hk hO1 hO2
   have hlt:=bk_lt h2;have hO3:∀k,O' k→w.heap.size+2≤k∧k<B.heap.size:=fun k h=>by
    have:=hk.size
    rcases hO2 k h with h|h
    ·have:=h3 k h;omega
    ·omega
   exact⟨hI pre O O' A B h1 (hk.mono fun k _ h=>⟨h.1,fun h=>h⟩) hO1 hO2,bk_kept h2 (hk.mono fun k _ h=>⟨fun ho=>by have:=h3 k ho;omega,fun h=>h⟩),hO3⟩
  ·rintro pre O O' A B ⟨c,h1,h2,h3⟩ hk hO1 hO2
   have hlt:=bk_lt h2;have hO3:∀k,O' k→w.heap.size+2≤k∧k<B.heap.size:=fun k h=>by
    have:=hk.size
    rcases hO2 k h with h|h
    ·have:=h3 k h;omega
    ·omega
   exact⟨c,hIx c pre O O' A B h1 (hk.mono fun k _ h=>⟨h.1,fun h=>h⟩) hO1 hO2,bk_kept h2 (hk.mono fun k _ h=>⟨fun ho=>by have:=h3 k ho;omega,fun h=>h⟩),hO3⟩
  ·rintro O pre x W ⟨hi,hb,hO⟩ hlen
   have hlt:=bk_lt hb;have hy:=run_yield (P:=P) (args:=encs x) hb.1 (by rw[er];exact hps x);rw[er]at hy;refine⟨fn,_,assign,body,hy,roundIn_of_wpIn hfn ?_⟩;refine wpIn_mono (hround (w.heap.size+1) O pre x W hi (hs1▸hlen) hO (by omega)) ?_
   rintro e a₁ W2 hp;cases e with
   |normal =>
    obtain⟨hE2,hm⟩:=hp;have hb2:Bk W2 (rec .ready none):=bk_kept hb (.of_below hE2);refine⟨_,run_beginRound hb2.1 (by rw[er]),?_⟩;have hm3:=hm _ (put_kept W2 (.loop { rec .ready none with state:=.busy }));have hb3:=bk_put { rec .ready none with state:=.busy } hb2;generalize hW3:W2.putObj (w.heap.size+1) (.loop { rec .ready none with state:=.busy })=W3 at hm3 hb3 ⊢;have hk3:Kept (fun k=>k≠w.heap.size+1) W W3:=by rw[←hW3];exact(Kept.of_below hE2).trans (put_kept W2 _)
    have hO3:∀k,O k→w.heap.size+2≤k∧k<W3.heap.size:=fun k h=>⟨(hO k h).1,wet (hO k h).2 hk3.size⟩
    refine wpIn_mono hm3 ?_
    have fin:∀(jump:Option Code) (W4:World),Kept (fun k=>k=w.heap.size+1∨k+1=w.heap.size+1) W3 W4 →
      (Instr.endRound (w.heap.size+1) jump).run P W4=.ok (.bool jump.isNone) (W4.putObj (w.heap.size+1) (.loop (rec (if jump.isNone then .ready else .done) jump))) ∧
      Bk (W4.putObj (w.heap.size+1) (.loop (rec (if jump.isNone then .ready else .done) jump))) (rec (if jump.isNone then .ready else .done) jump):=fun jump W4 hk4=>by
     have hb4:=bk_kept hb3 hk4;have hr:=run_endRound (P:=P) jump hb4.1;refine⟨?_,bk_put _ hb4⟩;rw[hr];simp only[er]
    rintro e a3 W4 hp;cases e with
    |normal =>
     obtain⟨hk4,hi4⟩:=hp;obtain⟨hr,hb5⟩:=fin none W4 (hk4.mono fun k _ h=>.inr (.inr h));refine⟨_,_,hr,.inl ⟨rfl,⟨hI' _ hi4,hb5,fun k h=>⟨(hO k h).1,?_⟩⟩,?_⟩⟩
     ·have:=(hO3 k h).2;have:=hk4.size;simp;omega
     ·have hlt4:=hk4.size
      have hk3':Kept (fun k=>R k∨O k) W W3:=hk3.mono fun k _ h=>by
       rcases h with h|h
       ·have:=hR k h;omega
       ·have:=hO k h;omega
      have hk4':Kept (fun k=>R k∨O k) W3 W4:=hk4.mono fun k _ h=>h.elim .inl fun h=>.inr (.inl h)
      refine(hk3'.trans hk4').trans ((put_kept W4 _).mono fun k _ h=>?_)
      rcases h with h|h
      ·have:=hR k h;omega
      ·have:=hO k h;omega
    |ret =>
     obtain⟨hk4,hi4⟩:=hp;obtain⟨hr,hb5⟩:=fin (some .ret) W4 hk4;exact⟨_,_,hr,.inr ⟨rfl,.ret,hIx' _ hi4,hb5,fun k h=>⟨(hO k h).1,by have:=(hO3 k h).2;have:=hk4.size;simp;omega⟩⟩⟩
    |exit id =>
     obtain⟨hk4,hi4⟩:=hp;obtain⟨hr,hb5⟩:=fin (some (.exit id)) W4 hk4;exact⟨_,_,hr,.inr ⟨rfl,.exit id,hIx' _ hi4,hb5,fun k h=>⟨(hO k h).1,by have:=(hO3 k h).2;have:=hk4.size;simp;omega⟩⟩⟩
    |goto t =>
     obtain⟨hk4,hi4⟩:=hp;obtain⟨hr,hb5⟩:=fin (some (.goto t)) W4 hk4;exact⟨_,_,hr,.inr ⟨rfl,.goto t,hIx' _ hi4,hb5,fun k h=>⟨(hO k h).1,by have:=(hO3 k h).2;have:=hk4.size;simp;omega⟩⟩⟩
    |panic ch=>exact hp.elim
    |outgrown=>exact hp.elim
   |ret=>exact hp.elim
   |exit id=>exact hp.elim
   |goto t=>exact hp.elim
   |panic ch=>exact hp.elim
   |outgrown=>exact hp.elim
  ·rintro e W2 ⟨⟨v,rfl⟩,(⟨O,xs,hS,hi,hb,_⟩|⟨O,pre,hSp,c,hi,hb,_⟩)⟩
   ·exact⟨none,_,by have:=run_endLoop (P:=P) hb.1 (by rw[er];simp);rw[er]at this;exact this,hdone _ O xs _ (weq _) hS (hI' _ hi) ((World.putObj_heap_other (by omega)).trans hb.2)⟩
   ·exact⟨some c,_,by have:=run_endLoop (P:=P) hb.1 (by rw[er];simp);rw[er]at this;exact this,hstop _ O c pre _ (weq _) hSp (hIx' _ hi) ((World.putObj_heap_other (by omega)).trans hb.2)⟩
end Go.Proofs.YtdcnbeehckgpcaaGreat
namespace Go.Proofs.YtdcnbeehckgpcaaGreat
open Go.Lib (hid)
open Go.RowKit Go.Shelf
attribute [local go_sem] Oper.semAt_some
theorem z4m{F:Fence}(hd:F.depth=none)(k:Nat):F.room k:=fun d h=>by rw[hd]at h;cases h
theorem zaaf{F:Fence}(hd:F.depth=none){m m':Nat}{P:Program}{l:Nat}{f:FuncId}{tmps:Array Value}{assign body:Code}{w:World}{R:Ending→World→Prop}
  (h:RoundIn F m P l f tmps assign body w R):RoundIn F m' P l f tmps assign body w R:=⟨h.1,fun c cs _=>h.2 c cs (z4m hd _)⟩
theorem zqt{F:Fence}(hd:F.depth=none){m:Nat}(m':Nat){P:Program}{l:Nat}{args:Array Value}{W:World}{R:Ending→World→Prop}(h:YieldAt F m P l args W R):YieldAt F m' P l args W R:=by
 obtain⟨fn,tmps,assign,body,hy,hR⟩:=h;exact⟨fn,tmps,assign,body,hy,zaaf hd hR⟩
def encB(ps:List (Value×Tk))(x:Value×Lf):Array Value:=#[x.1,.int .i64 (zdd (za2 (zac ps)) x.2.2 ps.length)]
def NxB(Good:Lf→Prop)(n:Nat)(O:Nat→Prop)(W:World)(x:Value×Lf):Prop:=∃sb so sc,x.1=.slice (some ⟨sb,so,none⟩) n sc∧zb0 W O sb so sc x.2.1 n∧x.2.1.length=n∧(∀r,r<n→x.2.1.getD r 0<64)∧Good x.2
def CutQ(R O:Nat→Prop)(J Jx:(Nat→Prop)→List (Value×Lf)→World→Prop)(pre:List (Value×Lf))(ys:List Lf)(W:World)(e:Ending)(W':World):Prop :=
 (e=.returned (.bool true)∧∃O' xs,(∀k,O k→O' k)∧xs.map (·.2)=ys∧J O' (pre++xs) W'∧Kept (fun k=>R k∨O k) W W')∨(e=.returned (.bool false)∧∃O' pre',Jx O' pre' W')
theorem zxt{R:Nat→Prop}{w0:World}{p:Nat}{rs:List Nat}{ps:List (Value×Tk)}{rb ro rcap:Nat}{ta:Option Addr}{tc:Nat}(E:zsn R w0 p rs ps rb ro rcap ta tc)(l:Nat)(J Jx:(Nat→Prop)→List (Value×Lf)→World→Prop)(Good:Lf→Prop)
  (hJ:∀pre,Bears (fun _=>False) (J · pre ·))
  (hY:∀O pre x W1,J O pre W1→NxB Good rs.length O W1 x→YieldAt Fence.wide 0 Tryz.prog l (encB ps x) W1 fun e W'=>(e=.returned (.bool true)∧J O (pre++[x]) W'∧Kept (fun k=>R k∨O k) W1 W')∨(e=.returned (.bool false)∧Jx O (pre++[x]) W'))
  (race:Nat) (n:Nat) (sets:List Nat) (al:List Bool) (O:Nat→Prop) (pre:List (Value×Lf)) (sb so sc:Nat) (W:World) (hsl:sets.length=rs.length) (hal:al.length=ps.length) (hsb:∀r,r<rs.length→sets.getD r 0<64) (hend:race=rs.length∨(race<rs.length∧al.all (fun b=>!b)=true)) (hGd:Good (sets,al)) (hK:Kept R w0 W) (hj:J O pre W) (hS:zb0 W O sb so sc sets rs.length) :
   CallsIn Fence.wide n Tryz.prog 109 #[.pointer (some ⟨p,0,none⟩),.slice (some ⟨sb,so,none⟩) rs.length sc,.agg (zdk (race:Int) (mkI al)),.func (.yield l) #[] #[]] W (CutQ R O J Jx pre [(sets,al)] W):=by
 rcases hend with hend|⟨hlt,hdead⟩
 ·have hrl:((race:Int) == (rs.length:Int))=true:=by rw[beq_iff_eq];omega
  clear hend;unfold zdk;obtain⟨F,hF⟩:∃F,F=mkI al:=⟨_,rfl⟩
  rw[←hF];have HF:=hid hF;clear hF;refine callsIn_of_wp Tryz.func109 rfl trivial ?_ rfl;simp only[Tryz.ntmps109,wd7,wc4,wc9,Nat.reduceAdd,Nat.reduceSub,wai,waj,wd4,wbo,wd1,wbp];obtain⟨W1,hW1⟩:∃W1,W1=W.alloc (.cells #[.int .i64 race,.int .i64 (F 0),.int .i64 (F 1),.int .i64 (F 2),.int .i64 (F 3),.int .i64 (F 4),.int .i64 (F 5),.int .i64 (F 6),.int .i64 (F 7),.int .i64 (F 8),.int .i64 (F 9)] 161):=⟨_,rfl⟩
  have hE1:Ext W W1:=by rw[hW1];exact xx
  have hP1:zbp 161 W1 W.heap.size race F:=by rw[hW1];exact zgq _ W race F
  have hj1:J (fun k=>O k∨k=W.heap.size) pre W1:=by rw[hW1];exact(hJ pre).alloc hj _
  have hS1:zb0 W1 O sb so sc sets rs.length:=hS.ext hE1;have hK1:Kept R w0 W1:=hK.trans (Kept.of_below hE1);gi_wp2_with fail;rw[←hW1];obtain⟨q,hq⟩:∃q,q=W.heap.size:=⟨_,rfl⟩
  rw[←hq]at hP1 hj1 ⊢;have c0:=(E.sheet W1 hK1).c0;have hzp:=(E.sheet W1 hK1).lt;have hqz:=hP1.lt;obtain⟨a0,a1,a2,a3,a4,a5,a6,a7,a8,a9,a10⟩:=hP1.cells;have HE1:=hid hE1;have HP1:=hid hP1;have HJ1:=hid hj1;have HS1:=hid hS1;have HK1:=hid hK1;have HQ:=hid hq;clear hW1 hE1 hP1 hj1 hS1 hK1 hq hj hS hK;refine wpIn_wide.2 ?_
  refine zau (W1.heap.size) (weq _)
   [sqV (.pointer (some ⟨q,0,none⟩)),sqV (.int .i64 race),sqV (.pointer (some ⟨p,0,none⟩)),sqV (.pointer (some ⟨p,0,none⟩)),sqV (.pointer (some ⟨p,0,none⟩)),sqV (.pointer (some ⟨p,0,none⟩)),sqV (.slice (some ⟨rb,ro,none⟩) rs.length rcap),sqV (.int .i64 rs.length),sqV (.bool true),sqV (.bool true),sqV undef,sqV undef,sqV undef,sqV undef,sqV (.bool true)]
   [true,true,true,true,true,true,true,true,true,true,true,true,true,true,true] [false,false,false,false,false,false,false,false,false,false,false,false,false,false,false] [true,true,true,true,true,true,true,true,true,true,true,true,true,true,true] [true,true,true,true,true,true,true,true,true,true,true,true,true,true,true] [true,true,true,true,true,true,true,true,true,true,false,false,false,false,true] [none,none,none,none,none,none,none,none,some true,some true,none,none,none,none,some true]
   (by kernel_rfl) (by kernel_rfl) (by decide +kernel) ⟨fun _ _ _ h=>h,⟨fun _ _ _ h=>h,⟨fun _ _ _ h=>h,trivial⟩⟩⟩ (by decide +kernel) (by decide +kernel) (by decide +kernel) rfl ⟨rfl,rfl,rfl⟩ ⟨?s0,?s1,?s2,?s3,?s4,?s5,?s6,?s7,?s8,?s9,?s10,?s11,?s12,?s13,?s14,trivial⟩ [some 15,some 16,some 17,some 18,some 19,some 20,some 21,some 22,some 23,some 24,some 25,some 26,some 27,some 28,some 29] rfl rfl ?send
  case s0 =>
   intro f g W b e d h a c;have o0:g (.tmp 6)=.pointer (some ⟨q,0,none⟩):=a.old 6 (by decide);exact ze (by simp[execOp,o0,go_sem]) rfl
  case s1 =>
   intro f g W b e d h a c;have d0:g (.tmp 15)=.pointer (some ⟨q,0,none⟩):=dpv a d 0 15;have f_a0:=cell_below b (by simp only;omega) a0;exact ze (by simp[execOp,d0,f_a0,go_sem]) rfl
  case s2 =>
   intro f g W b e d h a c;have o0:g (.tmp 0)=.pointer (some ⟨p,0,none⟩):=a.old 0 (by decide);exact ze (by simp[execOp,o0,go_sem]) rfl
  case s3 =>
   intro f g W b e d h a c;have d2:g (.tmp 17)=.pointer (some ⟨p,0,none⟩):=dpv a d 2 17;exact ze (by simp[execOp,d2,go_sem]) rfl
  case s4 =>
   intro f g W b e d h a c;have d3:g (.tmp 18)=.pointer (some ⟨p,0,none⟩):=dpv a d 3 18;exact ze (by simp[execOp,d3,go_sem]) rfl
  case s5 =>
   intro f g W b e d h a c;have d4:g (.tmp 19)=.pointer (some ⟨p,0,none⟩):=dpv a d 4 19;exact ze (by simp[execOp,d4,go_sem]) rfl
  case s6 =>
   intro f g W b e d h a c;have d5:g (.tmp 20)=.pointer (some ⟨p,0,none⟩):=dpv a d 5 20;have f_c0:=cell_below b (by simp only;omega) c0;exact ze (by simp[execOp,d5,f_c0,go_sem]) rfl
  case s7 =>
   intro f g W b e d h a c;have d6:g (.tmp 21)=.slice (some ⟨rb,ro,none⟩) rs.length rcap:=dpv a d 6 21;exact ze (by simp[d6,go_sem]) rfl
  case s8 =>
   intro f g W b e d h a c;have d1:g (.tmp 16)=.int .i64 race:=dpv a d 1 16;have d7:g (.tmp 22)=.int .i64 rs.length:=dpv a d 7 22;exact ze (by simp[execOp,d1,d7,hrl,go_sem]) rfl
  case s9 =>
   intro f g W b e d h a c;have d8:g (.tmp 23)=.bool true:=dpv a d 8 23;exact ze (by simp[execOp,d8,go_sem]) rfl
  case s10=>exact⟨fun _ _=>rfl,fun _ _ _ h=>h⟩
  case s11=>exact⟨fun _ _=>rfl,fun _ _ _ h=>h⟩
  case s12=>exact⟨fun _ _=>rfl,fun _ _ _ h=>h⟩
  case s13=>exact⟨fun _ _=>rfl,fun _ _ _ h=>h⟩
  case s14 =>
   intro f g W b e d h a c;have d9:g (.tmp 24)=.bool true:=dpv a d 9 24;exact ze (by simp[execOp,a.const,d9,go_sem]) rfl
  case send =>
   intro val WW hE hzz hv;obtain⟨-,-,-,-,-,-,-,-,-,-,-,-,-,-,r14,-⟩:=hv;have q14:val 14=.bool true:=r14;simp only[za9,q14];go_frame;have hPW:=HP1.out.ext hE;obtain⟨b0,b1,b2,b3,b4,b5,b6,b7,b8,b9,b10⟩:=hPW.cells;have hqw:=hPW.lt;have hEW:=HE1.out.trans' hE;have hKW:=HK1.out.trans (Kept.of_below hE);have hval:=zxr ps al p (.slice (some ⟨rb,ro,none⟩) rs.length rcap) ta tc WW (E.sheet WW hKW) (E.tks WW hKW) E.len (z1b E.VT);rw[←HF.out]at hval;have HVAL:=hid hval;have HEW:=hid hEW;have HJW:=hid ((hJ pre).ext HJ1.out hE);have HSW:=hid (HS1.out.kept (R:=R) (Kept.of_below hE));clear hE hzz r14 q14 hPW hEW hKW hval a0 a1 a2 a3 a4 a5 a6 a7 a8 a9 a10 c0 hzp hqz;gi_wp2_with fail;refine⟨trivial,fun h=>(by simp[Fence.wide]at h),(callsIn_wide.2 HVAL.out).mono ?_⟩;rintro e W3 ⟨rfl,hE3⟩;have hS3:=HSW.out.kept (R:=R) (Kept.of_below hE3);have hy:=hY _ pre (.slice (some ⟨sb,so,none⟩) rs.length sc,(sets,al)) W3 ((hJ pre).ext HJW.out hE3) ⟨sb,so,sc,rfl,hS3.mono (fun k h=>.inl h),hsl,hsb,hGd⟩;obtain⟨fn,tmps,assign,body,hy,hR2⟩:=zqt (F:=Fence.wide) rfl (n-1) hy;have hy:(Instr.yield l #[.slice (some ⟨sb,so,none⟩) rs.length sc,.int .i64 (zdd (za2 (zac ps)) al ps.length)]).run Tryz.prog W3=.ok (.round l fn tmps assign body) W3:=hy;obtain⟨vu,hvu⟩:∃vu,vu=zdd (za2 (zac ps)) al ps.length:=⟨_,rfl⟩
   rw[←hvu]at hy ⊢;have HE3:=hid (HEW.out.trans' hE3);clear hvu hE3 hS3 b0 b1 b2 b3 b4 b5 b6 b7 b8 b9 b10 hqw HJW HSW HVAL;gi_wp2_with fail;refine⟨fun h=>(by simp[Fence.wide]at h),hR2.mono ?_⟩;clear hy hR2;rintro e WX (⟨rfl,hj6,hk6⟩|⟨rfl,hj6⟩)
   ·have HJ6:=hid hj6
    have HK6:=hid hk6;clear hj6 hk6;gi_wp2_with fail;go_ret;exact .inl ⟨rfl,_,[(.slice (some ⟨sb,so,none⟩) rs.length sc,(sets,al))],fun k h=>.inl h,rfl,HJ6.out,(Kept.of_below HE3.out).trans (HK6.out.mono fun k _ h=>h.imp id .inl)⟩
   ·have HJ6:=hid hj6
    clear hj6;gi_wp2_with fail;go_ret;exact .inr ⟨rfl,_,_,HJ6.out⟩
 ·skip
  unfold zdk;obtain⟨F,hF⟩:∃F,F=mkI al:=⟨_,rfl⟩
  rw[←hF];have HF:=hid hF;clear hF;refine callsIn_of_wp Tryz.func109 rfl trivial ?_ rfl;simp only[Tryz.ntmps109,wd7,wc4,wc9,Nat.reduceAdd,Nat.reduceSub,wai,waj,wd4,wbo,wd1,wbp];obtain⟨W1,hW1⟩:∃W1,W1=W.alloc (.cells #[.int .i64 race,.int .i64 (F 0),.int .i64 (F 1),.int .i64 (F 2),.int .i64 (F 3),.int .i64 (F 4),.int .i64 (F 5),.int .i64 (F 6),.int .i64 (F 7),.int .i64 (F 8),.int .i64 (F 9)] 161):=⟨_,rfl⟩
  have hE1:Ext W W1:=by rw[hW1];exact xx
  have hP1:zbp 161 W1 W.heap.size race F:=by rw[hW1];exact zgq _ W race F
  have hj1:J (fun k=>O k∨k=W.heap.size) pre W1:=by rw[hW1];exact(hJ pre).alloc hj _
  have hS1:zb0 W1 O sb so sc sets rs.length:=hS.ext hE1;have hK1:Kept R w0 W1:=hK.trans (Kept.of_below hE1);gi_wp2_with fail;rw[←hW1];obtain⟨q,hq⟩:∃q,q=W.heap.size:=⟨_,rfl⟩
  rw[←hq]at hP1 hj1 ⊢;have c0:=(E.sheet W1 hK1).c0;have hzp:=(E.sheet W1 hK1).lt;have hqz:=hP1.lt;obtain⟨a0,a1,a2,a3,a4,a5,a6,a7,a8,a9,a10⟩:=hP1.cells;have HE1:=hid hE1;have HP1:=hid hP1;have HJ1:=hid hj1;have HS1:=hid hS1;have HK1:=hid hK1;have HQ:=hid hq;clear hW1 hE1 hP1 hj1 hS1 hK1 hq hj hS hK;refine wpIn_wide.2 ?_
  have hrl:((race:Int) == (rs.length:Int))=false:=by rw[beq_eq_false_iff_ne];omega
  have heq:∀W,(Op.equalIn 10000 159 (.agg #[.int .i64 (F 0),.int .i64 (F 1),.int .i64 (F 2),.int .i64 (F 3),.int .i64 (F 4),.int .i64 (F 5),.int .i64 (F 6),.int .i64 (F 7),.int .i64 (F 8),.int .i64 (F 9)]) (.agg #[.int .i64 0,.int .i64 0,.int .i64 0,.int .i64 0,.int .i64 0,.int .i64 0,.int .i64 0,.int .i64 0,.int .i64 0,.int .i64 0])).run Tryz.prog W=.ok true W:=fun W=>by
   have h:=zsm 159 Tryz.runUnderlying159 F (fun _=>0) 9998 W;have h2:=zxp (n:=ps.length) hal E.len;rw[hdead]at h2;rw[←HF.out]at h2;unfold zqr at h2;rw[h2]at h;exact h
  clear hlt hdead;refine zau (W1.heap.size) (weq _)
   [sqV (.pointer (some ⟨q,0,none⟩)),sqV (.int .i64 race),sqV (.pointer (some ⟨p,0,none⟩)),sqV (.pointer (some ⟨p,0,none⟩)),sqV (.pointer (some ⟨p,0,none⟩)),sqV (.pointer (some ⟨p,0,none⟩)),sqV (.slice (some ⟨rb,ro,none⟩) rs.length rcap),sqV (.int .i64 rs.length),sqV (.bool false),sqV (.bool false),sqV (.pointer (some ⟨q,1,none⟩)),sqV (.agg #[.int .i64 (F 0),.int .i64 (F 1),.int .i64 (F 2),.int .i64 (F 3),.int .i64 (F 4),.int .i64 (F 5),.int .i64 (F 6),.int .i64 (F 7),.int .i64 (F 8),.int .i64 (F 9)]),sqV (.agg #[.int .i64 0,.int .i64 0,.int .i64 0,.int .i64 0,.int .i64 0,.int .i64 0,.int .i64 0,.int .i64 0,.int .i64 0,.int .i64 0]),sqV (.bool true),sqV (.bool true)]
   [true,true,true,true,true,true,true,true,true,true,true,true,true,true,true] [false,false,false,false,false,false,false,false,false,false,false,false,false,false,false] [true,true,true,true,true,true,true,true,true,true,true,true,true,true,true] [true,true,true,true,true,true,true,true,true,true,true,true,true,true,true] [true,true,true,true,true,true,true,true,true,true,true,true,true,true,true] [none,none,none,none,none,none,none,none,some false,some false,none,none,none,some true,some true]
   (by kernel_rfl) (by kernel_rfl) (by decide +kernel) ⟨fun _ _ _ h=>h,⟨fun _ _ _ h=>h,⟨fun _ _ _ h=>h,⟨fun _ _ _ h=>h,trivial⟩⟩⟩⟩ (by decide +kernel) (by decide +kernel) (by decide +kernel) rfl ⟨rfl,rfl,rfl⟩ ⟨?s0,?s1,?s2,?s3,?s4,?s5,?s6,?s7,?s8,?s9,?s10,?s11,?s12,?s13,?s14,trivial⟩ [some 15,some 16,some 17,some 18,some 19,some 20,some 21,some 22,some 23,some 24,some 25,some 26,some 27,some 28,some 29] rfl rfl ?send
  case s0 =>
   intro f g W b e d h a c;have o0:g (.tmp 6)=.pointer (some ⟨q,0,none⟩):=a.old 6 (by decide);exact ze (by simp[execOp,o0,go_sem]) rfl
  case s1 =>
   intro f g W b e d h a c;have d0:g (.tmp 15)=.pointer (some ⟨q,0,none⟩):=dpv a d 0 15;have f_a0:=cell_below b (by simp only;omega) a0;exact ze (by simp[execOp,d0,f_a0,go_sem]) rfl
  case s2 =>
   intro f g W b e d h a c;have o0:g (.tmp 0)=.pointer (some ⟨p,0,none⟩):=a.old 0 (by decide);exact ze (by simp[execOp,o0,go_sem]) rfl
  case s3 =>
   intro f g W b e d h a c;have d2:g (.tmp 17)=.pointer (some ⟨p,0,none⟩):=dpv a d 2 17;exact ze (by simp[execOp,d2,go_sem]) rfl
  case s4 =>
   intro f g W b e d h a c;have d3:g (.tmp 18)=.pointer (some ⟨p,0,none⟩):=dpv a d 3 18;exact ze (by simp[execOp,d3,go_sem]) rfl
  case s5 =>
   intro f g W b e d h a c;have d4:g (.tmp 19)=.pointer (some ⟨p,0,none⟩):=dpv a d 4 19;exact ze (by simp[execOp,d4,go_sem]) rfl
  case s6 =>
   intro f g W b e d h a c;have d5:g (.tmp 20)=.pointer (some ⟨p,0,none⟩):=dpv a d 5 20;have f_c0:=cell_below b (by simp only;omega) c0;exact ze (by simp[execOp,d5,f_c0,go_sem]) rfl
  case s7 =>
   intro f g W b e d h a c;have d6:g (.tmp 21)=.slice (some ⟨rb,ro,none⟩) rs.length rcap:=dpv a d 6 21;exact ze (by simp[d6,go_sem]) rfl
  case s8 =>
   intro f g W b e d h a c;have d1:g (.tmp 16)=.int .i64 race:=dpv a d 1 16;have d7:g (.tmp 22)=.int .i64 rs.length:=dpv a d 7 22;exact ze (by simp[execOp,d1,d7,hrl,go_sem]) rfl
  case s9 =>
   intro f g W b e d h a c;have d8:g (.tmp 23)=.bool false:=dpv a d 8 23;exact ze (by simp[execOp,d8,go_sem]) rfl
  case s10 =>
   intro f g W b e d h a c;have o0:g (.tmp 6)=.pointer (some ⟨q,0,none⟩):=a.old 6 (by decide);exact ze (by simp[execOp,o0,go_sem]) rfl
  case s11 =>
   intro f g W b e d h a c;have d10:g (.tmp 25)=.pointer (some ⟨q,1,none⟩):=dpv a d 10 25;have f_a1:=cell_below b (by simp only;omega) a1;have f_a2:=cell_below b (by simp only;omega) a2;have f_a3:=cell_below b (by simp only;omega) a3;have f_a4:=cell_below b (by simp only;omega) a4;have f_a5:=cell_below b (by simp only;omega) a5;have f_a6:=cell_below b (by simp only;omega) a6;have f_a7:=cell_below b (by simp only;omega) a7;have f_a8:=cell_below b (by simp only;omega) a8;have f_a9:=cell_below b (by simp only;omega) a9;have f_a10:=cell_below b (by simp only;omega) a10;exact ze (by simp[execOp,d10,f_a1,f_a2,f_a3,f_a4,f_a5,f_a6,f_a7,f_a8,f_a9,f_a10,go_sem]) rfl
  case s12 =>
   intro f g W b e d h a c;exact ze (by simp[execOp,go_sem]) rfl
  case s13 =>
   intro f g W b e d h a c;have d11:g (.tmp 26)=.agg #[.int .i64 (F 0),.int .i64 (F 1),.int .i64 (F 2),.int .i64 (F 3),.int .i64 (F 4),.int .i64 (F 5),.int .i64 (F 6),.int .i64 (F 7),.int .i64 (F 8),.int .i64 (F 9)]:=dpv a d 11 26;have d12:g (.tmp 27)=.agg #[.int .i64 0,.int .i64 0,.int .i64 0,.int .i64 0,.int .i64 0,.int .i64 0,.int .i64 0,.int .i64 0,.int .i64 0,.int .i64 0]:=dpv a d 12 27;exact ze (by simp[execOp,d11,d12,heq,go_sem]) rfl
  case s14 =>
   intro f g W b e d h a c;have d9:g (.tmp 24)=.bool false:=dpv a d 9 24;have d13:g (.tmp 28)=.bool true:=dpv a d 13 28;exact ze (by simp[execOp,a.const,d9,d13,go_sem]) rfl
  case send =>
   intro val WW hE hzz hv;obtain⟨-,-,-,-,-,-,-,-,-,-,-,-,-,-,r14,-⟩:=hv;have q14:val 14=.bool true:=r14;simp only[za9,q14];go_frame;have hPW:=HP1.out.ext hE;obtain⟨b0,b1,b2,b3,b4,b5,b6,b7,b8,b9,b10⟩:=hPW.cells;have hqw:=hPW.lt;have hEW:=HE1.out.trans' hE;have hKW:=HK1.out.trans (Kept.of_below hE);have hval:=zxr ps al p (.slice (some ⟨rb,ro,none⟩) rs.length rcap) ta tc WW (E.sheet WW hKW) (E.tks WW hKW) E.len (z1b E.VT);rw[←HF.out]at hval;have HVAL:=hid hval;have HEW:=hid hEW;have HJW:=hid ((hJ pre).ext HJ1.out hE);have HSW:=hid (HS1.out.kept (R:=R) (Kept.of_below hE));clear hE hzz r14 q14 hPW hEW hKW hval a0 a1 a2 a3 a4 a5 a6 a7 a8 a9 a10 c0 hzp hqz;gi_wp2_with fail;refine⟨trivial,fun h=>(by simp[Fence.wide]at h),(callsIn_wide.2 HVAL.out).mono ?_⟩;rintro e W3 ⟨rfl,hE3⟩;have hS3:=HSW.out.kept (R:=R) (Kept.of_below hE3);have hy:=hY _ pre (.slice (some ⟨sb,so,none⟩) rs.length sc,(sets,al)) W3 ((hJ pre).ext HJW.out hE3) ⟨sb,so,sc,rfl,hS3.mono (fun k h=>.inl h),hsl,hsb,hGd⟩;obtain⟨fn,tmps,assign,body,hy,hR2⟩:=zqt (F:=Fence.wide) rfl (n-1) hy;have hy:(Instr.yield l #[.slice (some ⟨sb,so,none⟩) rs.length sc,.int .i64 (zdd (za2 (zac ps)) al ps.length)]).run Tryz.prog W3=.ok (.round l fn tmps assign body) W3:=hy;obtain⟨vu,hvu⟩:∃vu,vu=zdd (za2 (zac ps)) al ps.length:=⟨_,rfl⟩
   rw[←hvu]at hy ⊢;have HE3:=hid (HEW.out.trans' hE3);clear hvu hE3 hS3 b0 b1 b2 b3 b4 b5 b6 b7 b8 b9 b10 hqw HJW HSW HVAL;gi_wp2_with fail;refine⟨fun h=>(by simp[Fence.wide]at h),hR2.mono ?_⟩;clear hy hR2;rintro e WX (⟨rfl,hj6,hk6⟩|⟨rfl,hj6⟩)
   ·have HJ6:=hid hj6
    have HK6:=hid hk6;clear hj6 hk6;gi_wp2_with fail;go_ret;exact .inl ⟨rfl,_,[(.slice (some ⟨sb,so,none⟩) rs.length sc,(sets,al))],fun k h=>.inl h,rfl,HJ6.out,(Kept.of_below HE3.out).trans (HK6.out.mono fun k _ h=>h.imp id .inl)⟩
   ·have HJ6:=hid hj6
    clear hj6;gi_wp2_with fail;go_ret;exact .inr ⟨rfl,_,_,HJ6.out⟩
theorem zacz(g:List Nat→List Bool→List Lf)(cls:Nat→List Bool)(sets:List Nat)(race n left:Nat):zdp g cls sets race n 0 left=[]:=rfl
theorem zafm{g:List Nat→List Bool→List Lf}{cls:Nat→List Bool}{sets:List Nat}{race n i left:Nat}(hi:i<n)(hb:left.testBit i=true) :
  zdp g cls sets race n (n-i) left=g (sets.set race (ownB left n i cls n)) (cls i)++zdp g cls sets race n (n-(i+1)) (ze2 left (ownB left n i cls n)):=by
 obtain⟨m,hm⟩:∃m,n-i=m+1:=⟨n-i-1,by omega⟩
 have h2:n-(i+1)=m:=by omega
 have h3:n-(m+1)=i:=by omega
 rw[hm,h2];simp only[zdp,h3,hb,if_true]
theorem zaij{g:List Nat→List Bool→List Lf}{cls:Nat→List Bool}{sets:List Nat}{race n i left:Nat}(hi:i<n)(hb:left.testBit i=false) :
  zdp g cls sets race n (n-i) left=zdp g cls sets race n (n-(i+1)) left:=by
 obtain⟨m,hm⟩:∃m,n-i=m+1:=⟨n-i-1,by omega⟩
 have h2:n-(i+1)=m:=by omega
 have h3:n-(m+1)=i:=by omega
 rw[hm,h2];simp only[zdp,h3,hb,if_false,waz]
theorem z4n(l:List Nat)(r v:Nat)(h:r<l.length)(j:Nat):((l.set r v).getD j 0:Int)=if j=r then (v:Int)else (l.getD j 0:Int):=by
 rw[zlr _ _ _ _ h]
 split<;>rfl
theorem zaj8{R:Nat→Prop}{w0:World}{p:Nat}{rs:List Nat}{ps:List (Value×Tk)}{rb ro rcap:Nat}{ta:Option Addr}{tc:Nat}(E:zsn R w0 p rs ps rb ro rcap ta tc)(l:Nat)(J Jx:(Nat→Prop)→List (Value×Lf)→World→Prop)(Good:Lf→Prop)
  (hJ:∀pre,Bears (fun _=>False) (J · pre ·))
  (hY:∀O pre x W1,J O pre W1→NxB Good rs.length O W1 x→YieldAt Fence.wide 0 Tryz.prog l (encB ps x) W1 fun e W'=>(e=.returned (.bool true)∧J O (pre++[x]) W'∧Kept (fun k=>R k∨O k) W1 W')∨(e=.returned (.bool false)∧Jx O (pre++[x]) W')) :
  ∀(f race:Nat),race+f=rs.length→∀(n:Nat) (sets:List Nat) (al:List Bool) (O:Nat→Prop) (pre:List (Value×Lf)) (sb so sc:Nat) (W:World),sets.length=rs.length→al.length=ps.length→(∀r,r<rs.length→sets.getD r 0<64)→(∀x∈zdt rs (zap (zac ps)) f sets al,Good x)→Kept R w0 W→J O pre W→zb0 W O sb so sc sets rs.length →
   CallsIn Fence.wide n Tryz.prog 109 #[.pointer (some ⟨p,0,none⟩),.slice (some ⟨sb,so,none⟩) rs.length sc,.agg (zdk (race:Int) (mkI al)),.func (.yield l) #[] #[]] W (CutQ R O J Jx pre (zdt rs (zap (zac ps)) f sets al) W):=by
 intro f
 induction f with
 |zero =>
  intro race hf n sets al O pre sb so sc W hsl hal hsb hG hK hj hS;exact zxt E l J Jx Good hJ hY race n sets al O pre sb so sc W hsl hal hsb (.inl (by omega)) (hG _ (by simp[zdt])) hK hj hS
 |succ f ih =>
  intro race hf n sets al O pre sb so sc W hsl hal hsb hG hK hj hS
  by_cases hd:al.all (fun b=>!b)=true
  ·have hc:zdt rs (zap (zac ps)) (f+1) sets al=[(sets,al)]:=by simp only[zdt];rw[if_pos hd]
   rw[hc]at hG ⊢;exact zxt E l J Jx Good hJ hY race n sets al O pre sb so sc W hsl hal hsb (.inr ⟨by omega,hd⟩) (hG _ (by simp)) hK hj hS
  have hcut:zdt rs (zap (zac ps)) (f+1) sets al=zdp (zdt rs (zap (zac ps)) f) (zd9 (zap (zac ps)) race al) sets race (rs.getD race 0) (rs.getD race 0) (sets.getD race 0):=by
   simp only[zdt];rw[if_neg hd,show rs.length-(f+1)=race by omega]
  obtain⟨total,htot⟩:∃total,total=zdt rs (zap (zac ps)) (f+1) sets al:=⟨_,rfl⟩
  rw[←htot]at hG hcut ⊢;clear htot;obtain⟨cls,hcls⟩:∃cls,cls=zd9 (zap (zac ps)) race al:=⟨_,rfl⟩
  rw[←hcls]at hcut;have HCLS:=hid hcls;have HIH:=hid ih;have HGOOD:=hid hG;have HSB:=hid hsb;have HSL:=hid hsl;have HAL:=hid hal;have HF1:=hid hf;have hrace:race<rs.length:=by omega
  have hr5:=E.V.hi;have hNb:=E.V.each race hrace;obtain⟨N,hN⟩:∃N,N=rs.getD race 0:=⟨_,rfl⟩
  rw[←hN]at hcut hNb;have HN:=hid hN;have hl10:=E.len;have HTOT0:=hid hcut;have HLEN:=hid (zacy E.VT);have HLE:=hid (zahk E.V E.VT);have hs64:=hsb race hrace;have hdf:al.all (fun b=>!b)=false:=by cases h:al.all (fun b=>!b)with
   |true=>exact absurd h hd
   |false=>rfl
  have HDF:=hid hdf;clear hcls ih hG hsb hsl hal hf hN hcut hd hdf;unfold zdk;obtain⟨F,hF⟩:∃F,F=mkI al:=⟨_,rfl⟩
  rw[←hF];have HF:=hid hF;clear hF;refine callsIn_of_wp Tryz.func109 rfl trivial ?_ rfl;simp only[Tryz.ntmps109,wd7,wc4,wc9,Nat.reduceAdd,Nat.reduceSub,wai,waj,wd4,wbo,wd1,wbp];obtain⟨W1,hW1⟩:∃W1,W1=W.alloc (.cells #[.int .i64 race,.int .i64 (F 0),.int .i64 (F 1),.int .i64 (F 2),.int .i64 (F 3),.int .i64 (F 4),.int .i64 (F 5),.int .i64 (F 6),.int .i64 (F 7),.int .i64 (F 8),.int .i64 (F 9)] 161):=⟨_,rfl⟩
  have hE1:Ext W W1:=by rw[hW1];exact xx
  have hP1:zbp 161 W1 W.heap.size race F:=by rw[hW1];exact zgq _ W race F
  have hj1:J (fun k=>O k∨k=W.heap.size) pre W1:=by rw[hW1];exact(hJ pre).alloc hj _
  have hS1:zb0 W1 O sb so sc sets rs.length:=hS.ext hE1;have hK1:Kept R w0 W1:=hK.trans (Kept.of_below hE1);gi_wp2_with fail;rw[←hW1];obtain⟨q,hq⟩:∃q,q=W.heap.size:=⟨_,rfl⟩
  rw[←hq]at hP1 hj1 ⊢;have c0:=(E.sheet W1 hK1).c0;have hzp:=(E.sheet W1 hK1).lt;have hqz:=hP1.lt;obtain⟨a0,a1,a2,a3,a4,a5,a6,a7,a8,a9,a10⟩:=hP1.cells;have HE1:=hid hE1;have HP1:=hid hP1;have HJ1:=hid hj1;have HS1:=hid hS1;have HK1:=hid hK1;have HQ:=hid hq;clear hW1 hE1 hP1 hj1 hS1 hK1 hq hj hS hK;refine wpIn_wide.2 ?_
  have hrl:((race:Int) == (rs.length:Int))=false:=by rw[beq_eq_false_iff_ne];omega
  have heq:∀W,(Op.equalIn 10000 159 (.agg #[.int .i64 (F 0),.int .i64 (F 1),.int .i64 (F 2),.int .i64 (F 3),.int .i64 (F 4),.int .i64 (F 5),.int .i64 (F 6),.int .i64 (F 7),.int .i64 (F 8),.int .i64 (F 9)]) (.agg #[.int .i64 0,.int .i64 0,.int .i64 0,.int .i64 0,.int .i64 0,.int .i64 0,.int .i64 0,.int .i64 0,.int .i64 0,.int .i64 0])).run Tryz.prog W=.ok false W:=fun W=>by
   have h:=zsm 159 Tryz.runUnderlying159 F (fun _=>0) 9998 W;have h2:=zxp (n:=ps.length) HAL.out E.len;rw[HDF.out]at h2;rw[←HF.out]at h2;unfold zqr at h2;rw[h2]at h;exact h
  refine zau (W1.heap.size) (weq _)
   [sqV (.pointer (some ⟨q,0,none⟩)),sqV (.int .i64 race),sqV (.pointer (some ⟨p,0,none⟩)),sqV (.pointer (some ⟨p,0,none⟩)),sqV (.pointer (some ⟨p,0,none⟩)),sqV (.pointer (some ⟨p,0,none⟩)),sqV (.slice (some ⟨rb,ro,none⟩) rs.length rcap),sqV (.int .i64 rs.length),sqV (.bool false),sqV (.bool false),sqV (.pointer (some ⟨q,1,none⟩)),sqV (.agg #[.int .i64 (F 0),.int .i64 (F 1),.int .i64 (F 2),.int .i64 (F 3),.int .i64 (F 4),.int .i64 (F 5),.int .i64 (F 6),.int .i64 (F 7),.int .i64 (F 8),.int .i64 (F 9)]),sqV (.agg #[.int .i64 0,.int .i64 0,.int .i64 0,.int .i64 0,.int .i64 0,.int .i64 0,.int .i64 0,.int .i64 0,.int .i64 0,.int .i64 0]),sqV (.bool false),sqV (.bool false)]
   [true,true,true,true,true,true,true,true,true,true,true,true,true,true,true] [false,false,false,false,false,false,false,false,false,false,false,false,false,false,false] [true,true,true,true,true,true,true,true,true,true,true,true,true,true,true] [true,true,true,true,true,true,true,true,true,true,true,true,true,true,true] [true,true,true,true,true,true,true,true,true,true,true,true,true,true,true] [none,none,none,none,none,none,none,none,some false,some false,none,none,none,some false,some false]
   (by kernel_rfl) (by kernel_rfl) (by decide +kernel) ⟨fun _ _ _ h=>h,⟨fun _ _ _ h=>h,⟨fun _ _ _ h=>h,⟨fun _ _ _ h=>h,trivial⟩⟩⟩⟩ (by decide +kernel) (by decide +kernel) (by decide +kernel) rfl ⟨rfl,rfl,rfl⟩ ⟨?s0,?s1,?s2,?s3,?s4,?s5,?s6,?s7,?s8,?s9,?s10,?s11,?s12,?s13,?s14,trivial⟩ [some 15,some 16,some 17,some 18,some 19,some 20,some 21,some 22,some 23,some 24,some 25,some 26,some 27,some 28,some 29] rfl rfl ?send
  case s0 =>
   intro f g W b e d h a c;have o0:g (.tmp 6)=.pointer (some ⟨q,0,none⟩):=a.old 6 (by decide);exact ze (by simp[execOp,o0,go_sem]) rfl
  case s1 =>
   intro f g W b e d h a c;have d0:g (.tmp 15)=.pointer (some ⟨q,0,none⟩):=dpv a d 0 15;have f_a0:=cell_below b (by simp only;omega) a0;exact ze (by simp[execOp,d0,f_a0,go_sem]) rfl
  case s2 =>
   intro f g W b e d h a c;have o0:g (.tmp 0)=.pointer (some ⟨p,0,none⟩):=a.old 0 (by decide);exact ze (by simp[execOp,o0,go_sem]) rfl
  case s3 =>
   intro f g W b e d h a c;have d2:g (.tmp 17)=.pointer (some ⟨p,0,none⟩):=dpv a d 2 17;exact ze (by simp[execOp,d2,go_sem]) rfl
  case s4 =>
   intro f g W b e d h a c;have d3:g (.tmp 18)=.pointer (some ⟨p,0,none⟩):=dpv a d 3 18;exact ze (by simp[execOp,d3,go_sem]) rfl
  case s5 =>
   intro f g W b e d h a c;have d4:g (.tmp 19)=.pointer (some ⟨p,0,none⟩):=dpv a d 4 19;exact ze (by simp[execOp,d4,go_sem]) rfl
  case s6 =>
   intro f g W b e d h a c;have d5:g (.tmp 20)=.pointer (some ⟨p,0,none⟩):=dpv a d 5 20;have f_c0:=cell_below b (by simp only;omega) c0;exact ze (by simp[execOp,d5,f_c0,go_sem]) rfl
  case s7 =>
   intro f g W b e d h a c;have d6:g (.tmp 21)=.slice (some ⟨rb,ro,none⟩) rs.length rcap:=dpv a d 6 21;exact ze (by simp[d6,go_sem]) rfl
  case s8 =>
   intro f g W b e d h a c;have d1:g (.tmp 16)=.int .i64 race:=dpv a d 1 16;have d7:g (.tmp 22)=.int .i64 rs.length:=dpv a d 7 22;exact ze (by simp[execOp,d1,d7,hrl,go_sem]) rfl
  case s9 =>
   intro f g W b e d h a c;have d8:g (.tmp 23)=.bool false:=dpv a d 8 23;exact ze (by simp[execOp,d8,go_sem]) rfl
  case s10 =>
   intro f g W b e d h a c;have o0:g (.tmp 6)=.pointer (some ⟨q,0,none⟩):=a.old 6 (by decide);exact ze (by simp[execOp,o0,go_sem]) rfl
  case s11 =>
   intro f g W b e d h a c;have d10:g (.tmp 25)=.pointer (some ⟨q,1,none⟩):=dpv a d 10 25;have f_a1:=cell_below b (by simp only;omega) a1;have f_a2:=cell_below b (by simp only;omega) a2;have f_a3:=cell_below b (by simp only;omega) a3;have f_a4:=cell_below b (by simp only;omega) a4;have f_a5:=cell_below b (by simp only;omega) a5;have f_a6:=cell_below b (by simp only;omega) a6;have f_a7:=cell_below b (by simp only;omega) a7;have f_a8:=cell_below b (by simp only;omega) a8;have f_a9:=cell_below b (by simp only;omega) a9;have f_a10:=cell_below b (by simp only;omega) a10;exact ze (by simp[execOp,d10,f_a1,f_a2,f_a3,f_a4,f_a5,f_a6,f_a7,f_a8,f_a9,f_a10,go_sem]) rfl
  case s12 =>
   intro f g W b e d h a c;exact ze (by simp[execOp,go_sem]) rfl
  case s13 =>
   intro f g W b e d h a c;have d11:g (.tmp 26)=.agg #[.int .i64 (F 0),.int .i64 (F 1),.int .i64 (F 2),.int .i64 (F 3),.int .i64 (F 4),.int .i64 (F 5),.int .i64 (F 6),.int .i64 (F 7),.int .i64 (F 8),.int .i64 (F 9)]:=dpv a d 11 26;have d12:g (.tmp 27)=.agg #[.int .i64 0,.int .i64 0,.int .i64 0,.int .i64 0,.int .i64 0,.int .i64 0,.int .i64 0,.int .i64 0,.int .i64 0,.int .i64 0]:=dpv a d 12 27;exact ze (by simp[execOp,d11,d12,heq,go_sem]) rfl
  case s14 =>
   intro f g W b e d h a c;have d9:g (.tmp 24)=.bool false:=dpv a d 9 24;have d13:g (.tmp 28)=.bool false:=dpv a d 13 28;exact ze (by simp[execOp,a.const,d9,d13,go_sem]) rfl
  case send =>
  intro val WW hE hzz hv;obtain⟨-,-,-,-,-,-,-,-,-,-,-,-,-,-,r14,-⟩:=hv;have q14:val 14=.bool false:=r14;simp only[za9,q14];go_frame;have HPW:=hid (HP1.out.ext hE);have HKW:=hid (HK1.out.trans (Kept.of_below hE));have HEW:=hid (HE1.out.trans' hE);have HJW:=hid ((hJ pre).ext HJ1.out hE);have HSW:=hid (HS1.out.kept (R:=R) (Kept.of_below hE));have b0:=HPW.out.c0;have hqw:=HPW.out.lt;have c0:=(E.sheet WW HKW.out).c0;have hzp:=(E.sheet WW HKW.out).lt;have cr:=E.cells WW HKW.out race hrace;have zr:=wfu _ _ cr;simp only at zr;have cs:=HSW.out.2.2.2 race hrace;have zs:=wfu _ _ cs;simp only at zs;rw[←HN.out]at cr;obtain⟨s0,hs0⟩:∃s0:Nat,s0=sets.getD race 0:=⟨_,rfl⟩
  rw[←hs0]at cs hs64;have HS0:=hid hs0;have hri:(race:Int)<(rs.length:Int):=by omega
  clear hE hzz r14 q14 a0 a1 a2 a3 a4 a5 a6 a7 a8 a9 a10 hqz hrl heq hs0 HE1 HP1 HJ1 HS1 HK1;gi_wp2_with fail;refine wpIn_wide.2 ?_
  go_quiet (fail)
  gi_wp2_with fail;obtain⟨O1,hO1⟩:∃O1:Nat→Prop,O1=fun k=>O k∨k=q:=⟨_,rfl⟩
  have HO1:=hid hO1;have HJ2:Hid (J O1 pre (WW.drewN nq)):=hid (by rw[hO1];exact(hJ pre).ext HJW.out (Ext.drN (Below.refl _ WW) nq));have HPQ:=hid HPW.out;have HSQ:Hid (zb0 WW O1 sb so sc sets rs.length):=hid (HSW.out.mono fun k h=>by rw[hO1];exact .inl h);clear hO1 b0 hqw c0 hzp cr zr cs zs HJW HSW HPW
  gi_loopw [9,51] (fun lv iv wr=>∃(i left:Nat) (O':Nat→Prop) (xs:List (Value×Lf)),i≤N∧iv=.int .i64 i∧lv=.int .i64 left∧left<64∧(∀k,O1 k→O' k)∧J O' (pre++xs) wr∧Kept (fun k=>R k∨O1 k) WW wr∧xs.map (·.2)++zdp (zdt rs (zap (zac ps)) f) cls sets race N (N-i) left=total) (fun _ iv _=>N-(intOf iv).toNat)
  case atStart=>exact⟨0,s0,O1,[],by omega,rfl,rfl,hs64,fun k h=>h,by simpa using HJ2.out,(Kept.refl _ WW).drNb nq,by rw[HTOT0.out,HS0.out];rfl⟩
  case round =>
   obtain⟨i,left,O',xs,hi,rfl,rfl,hl64,hOO,hj,hK,htl⟩:=hrel;obtain⟨wr,rfl⟩:∃W,W=wr:=⟨_,rfl⟩
   have HOO:=hid hOO;have HJ:=hid hj;have HK:=hid hK;have HKR:Hid (Kept R w0 wr):=hid (HKW.out.trans (hK.mono fun k _ h=>.inl h));have hbit:=zsc left i (by omega)
   by_cases hlt:i<N
   ·have hii:(i:Int)<(N:Int):=by omega
    cases hb:left.testBit i
    ·rw[hb]at hbit
     simp only[waz,if_false]at hbit;have HTL:Hid (xs.map (·.2)++zdp (zdt rs (zap (zac ps)) f) cls sets race N (N-(i+1)) left=total):=hid (by rw[←zaij hlt hb];exact htl);clear htl hb hOO hj hK;gi_wp2_with fail;go_roundw
     case rel=>exact⟨i+1,left,O',xs,by omega,by go_num,rfl,hl64,HOO.out,HJ.out,HK.out,HTL.out⟩
     case measure=>simp[intOf];omega
    ·rw[hb]at hbit
     simp only[if_true]at hbit;have HTL:Hid (xs.map (·.2)++(zdt rs (zap (zac ps)) f (sets.set race (ownB left N i cls N)) (cls i)++zdp (zdt rs (zap (zac ps)) f) cls sets race N (N-(i+1)) (ze2 left (ownB left N i cls N)))=total):=hid (by rw[←zafm hlt hb];exact htl);have HB:=hid hb;have HPR:Hid (zbp 161 wr q race F):=hid (HPQ.out.of_heap (hK.same q HPQ.out.lt (.inr (by rw[HO1.out];exact .inr rfl))));have hnx:=z4j ps al race i rs.length p (.slice (some ⟨rb,ro,none⟩) rs.length rcap) ta tc wr (E.sheet wr HKR.out) (E.tks wr HKR.out) hl10 hrace hr5 HLEN.out HLE.out (by omega);rw[←HF.out,←HCLS.out]at hnx;unfold zdk at hnx;obtain⟨G,hG⟩:∃G,G=mkI (cls i):=⟨_,rfl⟩
     rw[←hG]at hnx;have HG:=hid hG;have HNX:=hid hnx;obtain⟨a0,a1,a2,a3,a4,a5,a6,a7,a8,a9,a10⟩:=HPR.out.cells;have hqz:=HPR.out.lt;clear htl hb hOO hj hK hnx hG;gi_wp2_with fail;refine⟨trivial,fun h=>(by simp[Fence.wide]at h),(callsIn_wide.2 HNX.out).mono ?_⟩;rintro e W3 ⟨rfl,hE3⟩;obtain⟨R1,hR1⟩:∃R1,R1=(race:Int)+1:=⟨_,rfl⟩
     rw[←hR1];obtain⟨X,hX⟩:∃X,X=W3.alloc (.cells #[.int .i64 R1,.int .i64 (G 0),.int .i64 (G 1),.int .i64 (G 2),.int .i64 (G 3),.int .i64 (G 4),.int .i64 (G 5),.int .i64 (G 6),.int .i64 (G 7),.int .i64 (G 8),.int .i64 (G 9)] 161):=⟨_,rfl⟩
     have hgX:zbp 161 X W3.heap.size R1 G:=by rw[hX];exact zgq _ W3 R1 G
     have hEX:Ext wr X:=by rw[hX];exact hE3.trans' xx
     have HR1:=hid hR1;clear hR1;clear a0 a1 a2 a3 a4 a5 a6 a7 a8 a9 a10 hqz HNX;gi_wp2_with fail;rw[←hX];obtain⟨g,hg⟩:∃g,g=W3.heap.size:=⟨_,rfl⟩
     rw[←hg]at hgX ⊢;have HGX:=hid hgX;have HEX:=hid hEX;have HGW:Hid (wr.heap.size≤g):=hid (by have:=hE3.size;omega);clear hX hgX hEX hg hE3 hbit
     gi_loopw [12,13] (fun ov kv W9=>∃(k own:Nat),i≤k∧k≤N∧kv=.int .i64 k∧ov=.int .i64 own∧own<64∧(∀j,own.testBit j=decide (i≤j∧j<k∧left.testBit j=true∧cls j=cls i))∧Ext X W9) (fun _ kv _=>N-(intOf kv).toNat)
     case atStart=>exact⟨i,0,weq _,by omega,rfl,rfl,by omega,fun j=>by simp;omega,Below.refl _ _⟩
     case round =>
      obtain⟨k,own,hik,hk,rfl,rfl,ho64,hown,hEk⟩:=hrel;obtain⟨Wk,rfl⟩:∃W,W=wr:=⟨_,rfl⟩
      have HK9:Hid (Ext wr Wk):=hid (HEX.out.trans' hEk);have HEk:=hid hEk;have HOWN:=hid hown;have HKk:Hid (Kept R w0 Wk):=hid (HKR.out.trans (Kept.of_below HK9.out));have c0:=(E.sheet Wk HKk.out).c0;have hzp:=(E.sheet Wk HKk.out).lt;have cr:=E.cells Wk HKk.out race hrace;have zr:=wfu _ _ cr;simp only at zr;rw[←HN.out]at cr;have HPk:Hid (zbp 161 Wk q race F):=hid (HPR.out.ext HK9.out);have b0:=HPk.out.c0;have hqz:=HPk.out.lt;clear hown hEk
      by_cases hltk:k<N
      ·have hki:(k:Int)<(N:Int):=by omega
       gi_wp2_with fail;refine wpIn_wide.2 ?_
       go_quiet (fail)
       gi_wp2_with fail;refine wpIn_wide.2 ?_
       obtain⟨Y,hY⟩:∃Y,Y=Wk.drewN nq:=⟨_,rfl⟩
       have hEY:Ext Wk Y:=by rw[hY];exact Ext.drN (Below.refl _ Wk) nq
       rw[←hY];have HEY:=hid hEY;have HKY:Hid (Kept R w0 Y):=hid (HKk.out.trans (Kept.of_below hEY));obtain⟨S,hS⟩:∃S:Nat,S=left>>>k:=⟨_,rfl⟩
       have hS1:(left:Int) / 2^k=(S:Int):=by rw[zh7,hS]
       have hbk:=zsc left k (by omega);rw[hS1]at hbk;clear hY hEY hS c0 hzp cr zr b0 hqz;cases hb:left.testBit k
       ·rw[hb]at hbk
        simp only[waz,if_false]at hbk;have HB2:=hid hb;clear hb;refine zau (Y.heap.size) (weq _)
         [sqV (.int .i64 left),sqV (.int .i64 k),sqV (.int .i64 S),sqV (.int .i64 0),sqV (.bool false),sqV (.bool false),sqV undef,sqV undef,sqV undef,sqV undef,sqV undef,sqV undef,sqV undef,sqV undef,sqV (.bool false)]
         [true,true,true,true,true,true,true,true,true,true,true,true,true,true,true] [false,false,false,false,false,false,false,false,false,false,false,false,false,false,false] [true,true,true,true,true,true,true,true,true,true,true,true,true,true,true] [true,true,true,true,true,true,true,true,true,true,true,true,true,true,true] [true,true,true,true,true,true,false,false,false,false,false,false,false,false,true] [none,none,none,none,some false,some false,none,none,none,none,none,none,none,none,some false]
         (by kernel_rfl) (by kernel_rfl) (by decide +kernel) ⟨fun _ _ _ h=>h,⟨fun _ _ _ h=>h,⟨fun _ _ _ h=>h,trivial⟩⟩⟩ (by decide +kernel) (by decide +kernel) (by decide +kernel) rfl ⟨rfl,rfl,rfl⟩ ⟨?s0,?s1,?s2,?s3,?s4,?s5,?s6,?s7,?s8,?s9,?s10,?s11,?s12,?s13,?s14,trivial⟩ [some 77,some 78,some 79,some 80,some 81,some 82,some 83,some 84,some 85,some 86,some 87,some 88,some 89,some 90,some 91] rfl rfl ?send
        case s0 =>
         intro f g W b e d h a c;have o0:g (.tmp 9)=.int .i64 left:=a.old 9 (by decide);exact ze (by simp[execOp,o0,go_sem]) rfl
        case s1 =>
         intro f g W b e d h a c;have o0:g (.tmp 13)=.int .i64 k:=a.old 13 (by decide);exact ze (by simp[execOp,o0,go_sem]) rfl
        case s2 =>
         intro f g W b e d h a c;have d0:g (.tmp 77)=.int .i64 left:=dpv a d 0 77;have d1:g (.tmp 78)=.int .i64 k:=dpv a d 1 78;exact ze (by simp[execOp,d0,d1,hS1,go_sem]) rfl
        case s3 =>
         intro f g W b e d h a c;have d2:g (.tmp 79)=.int .i64 S:=dpv a d 2 79;exact ze (by simp[execOp,a.const,d2,hbk,go_sem]) rfl
        case s4 =>
         intro f g W b e d h a c;have d3:g (.tmp 80)=.int .i64 0:=dpv a d 3 80;exact ze (by simp[execOp,a.const,d3,go_sem]) rfl
        case s5 =>
         intro f g W b e d h a c;have d4:g (.tmp 81)=.bool false:=dpv a d 4 81;exact ze (by simp[execOp,d4,go_sem]) rfl
        case s6=>exact⟨fun _ _=>rfl,fun _ _ _ h=>h⟩
        case s7=>exact⟨fun _ _=>rfl,fun _ _ _ h=>h⟩
        case s8=>exact⟨fun _ _=>rfl,fun _ _ _ h=>h⟩
        case s9=>exact⟨fun _ _=>rfl,fun _ _ _ h=>h⟩
        case s10=>exact⟨fun _ _=>rfl,fun _ _ _ h=>h⟩
        case s11=>exact⟨fun _ _=>rfl,fun _ _ _ h=>h⟩
        case s12=>exact⟨fun _ _=>rfl,fun _ _ _ h=>h⟩
        case s13=>exact⟨fun _ _=>rfl,fun _ _ _ h=>h⟩
        case s14 =>
         intro f g W b e d h a c;have d5:g (.tmp 82)=.bool false:=dpv a d 5 82;exact ze (by simp[execOp,a.const,d5,go_sem]) rfl
        case send =>
         intro val WZ hE hzz hv;obtain⟨-,-,-,-,-,-,-,-,-,-,-,-,-,-,r14,-⟩:=hv;have q14:val 14=.bool false:=r14;simp only[za9,q14];go_frame;have HEZ:=hid ((HEk.out.trans' HEY.out).trans' hE);clear hE hzz r14 q14 hbk hS1;gi_wp2_with fail;go_roundw
         case rel=>exact⟨k+1,own,by omega,by omega,by go_num,rfl,ho64,z4l HOWN.out (fun h=>by rw[HB2.out]at h;exact Bool.noConfusion h.1),HEZ.out⟩
         case measure=>simp[intOf];omega
       ·rw[hb]at hbk
        simp only[if_true]at hbk;have HB2:=hid hb;obtain⟨H,hH⟩:∃H,H=mkI (cls k):=⟨_,rfl⟩
        have hnk:∀W,Ext Y W→Calls Tryz.prog 152 #[.pointer (some ⟨p,0,none⟩),.agg #[.int .i64 race,.int .i64 (F 0),.int .i64 (F 1),.int .i64 (F 2),.int .i64 (F 3),.int .i64 (F 4),.int .i64 (F 5),.int .i64 (F 6),.int .i64 (F 7),.int .i64 (F 8),.int .i64 (F 9)],.int .i64 k] W fun e w'=>e=.returned (.agg #[.int .i64 R1,.int .i64 (H 0),.int .i64 (H 1),.int .i64 (H 2),.int .i64 (H 3),.int .i64 (H 4),.int .i64 (H 5),.int .i64 (H 6),.int .i64 (H 7),.int .i64 (H 8),.int .i64 (H 9)])∧Ext W w':=fun W hW=>by
         have h:=z4j ps al race k rs.length p (.slice (some ⟨rb,ro,none⟩) rs.length rcap) ta tc W ((E.sheet Y HKY.out).ext hW) ((E.tks Y HKY.out).ext hW) hl10 hrace hr5 HLEN.out HLE.out (by omega);rw[←HF.out,←HCLS.out,←hH,←HR1.out]at h;exact h
        have HNK:=hid hnk;have hfld:∀W,(Instr.field 161 (.agg #[.int .i64 R1,.int .i64 (H 0),.int .i64 (H 1),.int .i64 (H 2),.int .i64 (H 3),.int .i64 (H 4),.int .i64 (H 5),.int .i64 (H 6),.int .i64 (H 7),.int .i64 (H 8),.int .i64 (H 9)]) 1).run Tryz.prog W=.ok (.agg #[.int .i64 (H 0),.int .i64 (H 1),.int .i64 (H 2),.int .i64 (H 3),.int .i64 (H 4),.int .i64 (H 5),.int .i64 (H 6),.int .i64 (H 7),.int .i64 (H 8),.int .i64 (H 9)]) W:=fun _=>by kernel_rfl
        obtain⟨c,hc⟩:∃c,c=decide (cls k=cls i):=⟨_,rfl⟩
        have heq2:∀W,(Op.equalIn 10000 159 (.agg #[.int .i64 (H 0),.int .i64 (H 1),.int .i64 (H 2),.int .i64 (H 3),.int .i64 (H 4),.int .i64 (H 5),.int .i64 (H 6),.int .i64 (H 7),.int .i64 (H 8),.int .i64 (H 9)]) (.agg #[.int .i64 (G 0),.int .i64 (G 1),.int .i64 (G 2),.int .i64 (G 3),.int .i64 (G 4),.int .i64 (G 5),.int .i64 (G 6),.int .i64 (G 7),.int .i64 (G 8),.int .i64 (G 9)])).run Tryz.prog W=.ok c W:=fun W=>by
         have h:=zsm 159 Tryz.runUnderlying159 H G 9998 W;have h2:=zaab (al:=cls k) (bl:=cls i) (n:=ps.length) (by rw[HCLS.out,zlq,zh9]) (by rw[HCLS.out,zlq,zh9]) E.len;rw[←hH,←HG.out,←hc]at h2;unfold zqr at h2;rw[h2]at h;exact h
        have HC:=hid hc;obtain⟨a0,a1,a2,a3,a4,a5,a6,a7,a8,a9,a10⟩:=(HPk.out.ext HEY.out).cells;obtain⟨g0,g1,g2,g3,g4,g5,g6,g7,g8,g9,g10⟩:=((HGX.out.ext HEk.out).ext HEY.out).cells;have hqz:=(HPk.out.ext HEY.out).lt;have hgz:=((HGX.out.ext HEk.out).ext HEY.out).lt;clear hb hnk hc hH;refine zau (Y.heap.size) (weq _)
         [sqV (.int .i64 left),sqV (.int .i64 k),sqV (.int .i64 S),sqV (.int .i64 1),sqV (.bool true),sqV (.bool true),sqV (.pointer (some ⟨p,0,none⟩)),sqV (.agg #[.int .i64 race,.int .i64 (F 0),.int .i64 (F 1),.int .i64 (F 2),.int .i64 (F 3),.int .i64 (F 4),.int .i64 (F 5),.int .i64 (F 6),.int .i64 (F 7),.int .i64 (F 8),.int .i64 (F 9)]),sqV (.int .i64 k),sqV (.agg #[.int .i64 R1,.int .i64 (H 0),.int .i64 (H 1),.int .i64 (H 2),.int .i64 (H 3),.int .i64 (H 4),.int .i64 (H 5),.int .i64 (H 6),.int .i64 (H 7),.int .i64 (H 8),.int .i64 (H 9)]),sqV (.agg #[.int .i64 (H 0),.int .i64 (H 1),.int .i64 (H 2),.int .i64 (H 3),.int .i64 (H 4),.int .i64 (H 5),.int .i64 (H 6),.int .i64 (H 7),.int .i64 (H 8),.int .i64 (H 9)]),sqV (.pointer (some ⟨g,1,none⟩)),sqV (.agg #[.int .i64 (G 0),.int .i64 (G 1),.int .i64 (G 2),.int .i64 (G 3),.int .i64 (G 4),.int .i64 (G 5),.int .i64 (G 6),.int .i64 (G 7),.int .i64 (G 8),.int .i64 (G 9)]),sqV (.bool c),sqV (.bool c)]
         [true,true,true,true,true,true,true,true,true,true,true,true,true,true,true] [false,false,false,false,false,false,false,false,false,false,false,false,false,false,false] [true,true,true,true,true,true,true,true,true,true,true,true,true,true,true] [true,true,true,true,true,true,true,true,true,true,true,true,true,true,true] [true,true,true,true,true,true,true,true,true,true,true,true,true,true,true] [none,none,none,none,some true,some true]
         (by kernel_rfl) (by kernel_rfl) (by decide +kernel) ⟨fun _ _ _ h=>h,⟨fun _ _ _ h=>h,trivial⟩⟩ (by decide +kernel) (by decide +kernel) (by decide +kernel) rfl ⟨rfl,rfl,rfl⟩ ⟨?s0,?s1,?s2,?s3,?s4,?s5,?s6,?s7,?s8,?s9,?s10,?s11,?s12,?s13,?s14,trivial⟩ [some 77,some 78,some 79,some 80,some 81,some 82,some 83,some 84,some 85,some 86,some 87,some 88,some 89,some 90,some 91] rfl rfl ?send
        case s0 =>
         intro f g W b e d h a c;have o0:g (.tmp 9)=.int .i64 left:=a.old 9 (by decide);exact ze (by simp[execOp,o0,go_sem]) rfl
        case s1 =>
         intro f g W b e d h a c;have o0:g (.tmp 13)=.int .i64 k:=a.old 13 (by decide);exact ze (by simp[execOp,o0,go_sem]) rfl
        case s2 =>
         intro f g W b e d h a c;have d0:g (.tmp 77)=.int .i64 left:=dpv a d 0 77;have d1:g (.tmp 78)=.int .i64 k:=dpv a d 1 78;exact ze (by simp[execOp,d0,d1,hS1,go_sem]) rfl
        case s3 =>
         intro f g W b e d h a c;have d2:g (.tmp 79)=.int .i64 S:=dpv a d 2 79;exact ze (by simp[execOp,a.const,d2,hbk,go_sem]) rfl
        case s4 =>
         intro f g W b e d h a c;have d3:g (.tmp 80)=.int .i64 1:=dpv a d 3 80;exact ze (by simp[execOp,a.const,d3,go_sem]) rfl
        case s5 =>
         intro f g W b e d h a c;have d4:g (.tmp 81)=.bool true:=dpv a d 4 81;exact ze (by simp[execOp,d4,go_sem]) rfl
        case s6 =>
         intro f g W b e d h a c;have o0:g (.tmp 0)=.pointer (some ⟨p,0,none⟩):=a.old 0 (by decide);exact ze (by simp[execOp,o0,go_sem]) rfl
        case s7 =>
         intro f g W b e d h a c;have o0:g (.tmp 6)=.pointer (some ⟨q,0,none⟩):=a.old 6 (by decide);have f_a0:=cell_below b (by simp only;omega) a0;have f_a1:=cell_below b (by simp only;omega) a1;have f_a2:=cell_below b (by simp only;omega) a2;have f_a3:=cell_below b (by simp only;omega) a3;have f_a4:=cell_below b (by simp only;omega) a4;have f_a5:=cell_below b (by simp only;omega) a5;have f_a6:=cell_below b (by simp only;omega) a6;have f_a7:=cell_below b (by simp only;omega) a7;have f_a8:=cell_below b (by simp only;omega) a8;have f_a9:=cell_below b (by simp only;omega) a9;have f_a10:=cell_below b (by simp only;omega) a10;exact ze (by simp[execOp,o0,f_a0,f_a1,f_a2,f_a3,f_a4,f_a5,f_a6,f_a7,f_a8,f_a9,f_a10,go_sem]) rfl
        case s8 =>
         intro f g W b e d h a c;have o0:g (.tmp 13)=.int .i64 k:=a.old 13 (by decide);exact ze (by simp[execOp,o0,go_sem]) rfl
        case s9 =>
         intro g h W b f d i a c;have d6:h (.tmp 83)=.pointer (some ⟨p,0,none⟩):=dpv a d 6 83;have d7:h (.tmp 84)=.agg #[.int .i64 race,.int .i64 (F 0),.int .i64 (F 1),.int .i64 (F 2),.int .i64 (F 3),.int .i64 (F 4),.int .i64 (F 5),.int .i64 (F 6),.int .i64 (F 7),.int .i64 (F 8),.int .i64 (F 9)]:=dpv a d 7 84;have d8:h (.tmp 85)=.int .i64 k:=dpv a d 8 85;clear d i;refine zbx 152 _ _ rfl #[.pointer (some ⟨p,0,none⟩),.agg #[.int .i64 race,.int .i64 (F 0),.int .i64 (F 1),.int .i64 (F 2),.int .i64 (F 3),.int .i64 (F 4),.int .i64 (F 5),.int .i64 (F 6),.int .i64 (F 7),.int .i64 (F 8),.int .i64 (F 9)],.int .i64 k] (a.func _) (by simp[d6,d7,d8]) (fun args W=>Tryz.call152 args W) ((HNK.out W b).mono ?_);rintro e w' ⟨rfl,hb⟩;exact⟨_,rfl,hb,rfl⟩
        case s10 =>
         intro f g W b e d h a c;have d9:g (.tmp 86)=.agg #[.int .i64 R1,.int .i64 (H 0),.int .i64 (H 1),.int .i64 (H 2),.int .i64 (H 3),.int .i64 (H 4),.int .i64 (H 5),.int .i64 (H 6),.int .i64 (H 7),.int .i64 (H 8),.int .i64 (H 9)]:=dpv a d 9 86;exact ze (by simp[execOp,d9,hfld,go_sem]) rfl
        case s11 =>
         intro f h W b e d i a c;have o0:h (.tmp 11)=.pointer (some ⟨g,0,none⟩):=a.old 11 (by decide);exact ze (by simp[execOp,o0,go_sem]) rfl
        case s12 =>
         intro f h W b e d i a c;have d11:h (.tmp 88)=.pointer (some ⟨g,1,none⟩):=dpv a d 11 88;have f_g1:=cell_below b (by simp only;omega) g1;have f_g2:=cell_below b (by simp only;omega) g2;have f_g3:=cell_below b (by simp only;omega) g3;have f_g4:=cell_below b (by simp only;omega) g4;have f_g5:=cell_below b (by simp only;omega) g5;have f_g6:=cell_below b (by simp only;omega) g6;have f_g7:=cell_below b (by simp only;omega) g7;have f_g8:=cell_below b (by simp only;omega) g8;have f_g9:=cell_below b (by simp only;omega) g9;have f_g10:=cell_below b (by simp only;omega) g10;exact ze (by simp[execOp,d11,f_g1,f_g2,f_g3,f_g4,f_g5,f_g6,f_g7,f_g8,f_g9,f_g10,go_sem]) rfl
        case s13 =>
         intro f g W b e d h a c;have d10:g (.tmp 87)=.agg #[.int .i64 (H 0),.int .i64 (H 1),.int .i64 (H 2),.int .i64 (H 3),.int .i64 (H 4),.int .i64 (H 5),.int .i64 (H 6),.int .i64 (H 7),.int .i64 (H 8),.int .i64 (H 9)]:=dpv a d 10 87;have d12:g (.tmp 89)=.agg #[.int .i64 (G 0),.int .i64 (G 1),.int .i64 (G 2),.int .i64 (G 3),.int .i64 (G 4),.int .i64 (G 5),.int .i64 (G 6),.int .i64 (G 7),.int .i64 (G 8),.int .i64 (G 9)]:=dpv a d 12 89;exact ze (by simp[execOp,d10,d12,heq2,go_sem]) rfl
        case s14 =>
         intro g h W b f e i a d;have d5:h (.tmp 82)=.bool true:=dpv a e 5 82;have d13:h (.tmp 90)=.bool c:=dpv a e 13 90;exact ze (by simp[execOp,a.const,d5,d13,go_sem]) rfl
        case send =>
         intro val WZ hE hzz hv;obtain⟨-,-,-,-,-,-,-,-,-,-,-,-,-,-,r14,-⟩:=hv;have q14:val 14=.bool c:=r14;simp only[za9,q14];go_frame;have HEZ:=hid ((HEk.out.trans' HEY.out).trans' hE);clear hE hzz r14 q14 hbk hS1 hfld heq2 a0 a1 a2 a3 a4 a5 a6 a7 a8 a9 a10 g0 g1 g2 g3 g4 g5 g6 g7 g8 g9 g10 hqz hgz HNK;cases c
         ·gi_wp2_with fail
          go_roundw
          case rel=>exact⟨k+1,own,by omega,by omega,by go_num,rfl,ho64,z4l HOWN.out (fun h=>by have h9:=HC.out;rw[decide_eq_true h.2]at h9;cases h9),HEZ.out⟩
          case measure=>simp[intOf];omega
         ·obtain⟨hK1,hK2,hK3⟩:=zjf (n:=k) (by omega)
          obtain⟨K,hKK⟩:∃K:Nat,K=2^k:=⟨_,rfl⟩
          have hkk:k≤5:=by omega
          have hK4:K<64:=by
           rw[hKK];exact(Nat.pow_lt_pow_right (by omega) (by omega):2^k<2^6)
          rw[←hKK]at hK1 hK2 hK3;have hor:=zafd own K (by omega) (by omega);have HKK:=hid hKK;clear hKK;gi_wp2_with fail;go_roundw
          case rel=>exact⟨k+1,own ||| K,by omega,by omega,by go_num,rfl,zalk ho64 hK4,by rw[HKK.out];exact zafk hik HOWN.out HB2.out (of_decide_eq_true HC.out.symm),HEZ.out⟩
          case measure=>simp[intOf];omega
      ·have hki:¬((k:Int)<(N:Int)):=by omega
       have hke:k=N:=by omega
       gi_wp2_with fail;refine wpIn_wide.2 ?_
       go_quiet (fail)
       obtain⟨Y,hY⟩:∃Y,Y=Wk.drewN nq:=⟨_,rfl⟩
       have hEY:Ext Wk Y:=by rw[hY];exact Ext.drN (Below.refl _ Wk) nq
       rw[←hY];have HOB:Hid (own=ownB left N i cls N):=hid (zaj7 (by have h:=HOWN.out;rw[hke]at h;exact h));have hEwY:Ext wr Y:=HK9.out.trans' hEY;have hSY:zb0 Y O1 sb so sc sets rs.length:=(HSQ.out.kept HK.out).kept (R:=R) (Kept.of_below hEwY);obtain⟨Wm,hmk,hnum,hEm⟩:=zky Y rs.length (by omega);have hSm:=hSY.kept (R:=R) (Kept.of_below hEm);obtain⟨Wc,hcp,hkc,hnc⟩:=zxs Wm Y.heap.size rs.length (fun _=>0) sets sb so sc 3 hnum HSL.out hSm.2.2.2;have hEc:Ext Y Wc:=zzp hEm hkc (weq _);obtain⟨y,hy9⟩:∃y,y=Y.heap.size:=⟨_,rfl⟩
       rw[←hy9]at hmk hcp hnc;have hEkc:=HEk.out.trans' (hEY.trans' hEc);have hPc:=HPk.out.ext (hEY.trans' hEc);have hGc:=HGX.out.ext hEkc;have hyW:wr.heap.size≤y:=by have:=hEwY.size;omega
       have hgy:g≠y:=by have:=(HGX.out.ext (HEk.out.trans' hEY)).lt;omega
       have hqy:q≠y:=by have:=(HPk.out.ext hEY).lt;omega
       obtain⟨X2,hX2⟩:∃X2,X2=Wc.setCell ⟨y,race,none⟩ (.int .i64 own):=⟨_,rfl⟩
       have hP2:zbp 161 X2 q race F:=by rw[hX2];exact hPc.of_heap (Below.heap_setCell _ _ _ _ hqy)
       have hG2:zbp 161 X2 g R1 G:=by rw[hX2];exact hGc.of_heap (Below.heap_setCell _ _ _ _ hgy)
       have hN2:zbj X2 y rs.length (fun j=>((sets.set race own).getD j 0:Int)):=by
        rw[hX2];exact(hnc.set race own).congr fun j _=>(z4n _ _ _ (by rw[HSL.out];exact hrace) j).symm
       have hEX2:Ext wr X2:=by rw[hX2];exact(hEwY.trans' hEc).setCell hyW _
       have hfr2:=hnc.free;have hyl:=hnc.lt;have hycell:=hnc.cell race hrace;have b0:=hPc.c0;have hqz:=hPc.lt;have hless:=z99 left own (Nat.le_of_lt (wet hl64 (by decide))) (Nat.le_of_lt (wet ho64 (by decide)));obtain⟨a0,a1,a2,a3,a4,a5,a6,a7,a8,a9,a10⟩:=hG2.cells;have hgz:=hG2.lt;rw[hX2]at a0 a1 a2 a3 a4 a5 a6 a7 a8 a9 a10 hgz;have HX2:=hid hX2;have HP2:=hid hP2;have HN2:=hid hN2;have HEX2:=hid hEX2;have HYW:=hid hyW;have HGY:=hid hgy;have HQY:=hid hqy;clear hY hEY hEwY hSY hnum hEm hSm hkc hEc hnc hy9 hEkc hPc hGc hyW hX2 hP2 hG2 hN2 hEX2 hke c0 hzp cr zr;gi_wp2_with fail;obtain⟨O2,hO2⟩:∃O2:Nat→Prop,O2=fun k=>O' k∨(wr.heap.size≤k∧k<X2.heap.size):=⟨_,rfl⟩
       have hj2:J O2 (pre ++ xs) X2:=hJ (pre ++ xs) O' O2 wr X2 HJ.out (Kept.of_below HEX2.out) (fun k h=>by rw [hO2];exact .inl h) (fun k h=>by rw [hO2] at h;exact h);have hS2:zb0 X2 O2 y 0 rs.length (sets.set race own) rs.length:=⟨weq _,by omega,by rw[hO2];exact .inr ⟨HYW.out,HN2.out.lt⟩,fun r hr=>by
        rw[wfc];exact HN2.out.cell r hr⟩
       have hcall:=HIH.out (race+1) (by have:=HF1.out;omega) (n - 1) (sets.set race own) (cls i) O2 (pre ++ xs) y 0 rs.length X2 (by rw [List.length_set];exact HSL.out) (by rw [HCLS.out,zlq,zh9]) (fun r hr=>by
         rw[zlr _ _ _ _ (by rw[HSL.out];exact hrace)]
         split
         ·exact ho64
         ·exact HSB.out r hr) (fun x hx=>HGOOD.out x (by
         rw[←HTL.out,←HOB.out];exact wdm.2 (.inr (wdm.2 (.inl hx))))) (HKR.out.trans (Kept.of_below HEX2.out)) hj2 hS2
       have e1:((race+1:Nat):Int)=R1:=by rw[HR1.out];rfl
       rw[e1,←HG.out]at hcall;unfold zdk at hcall;have HCALL:=hid hcall;have HO2:=hid hO2;rw[←HX2.out];clear hj2 hS2 hcall e1 hO2;refine⟨trivial,fun h=>(by simp[Fence.wide]at h),HCALL.out.mono ?_⟩;rintro e W5 (⟨rfl,O3,xs3,hO3,hx3,hj5,hk5⟩|⟨rfl,O3,pre3,hx⟩)
       ·have HTL5:Hid ((xs ++ xs3).map (·.2) ++ zdp (zdt rs (zap (zac ps)) f) cls sets race N (N - (i+1)) (ze2 left own)=total):=hid (by
         have h:=HTL.out;rw[←HOB.out]at h;rw[wde,hx3,wbm];exact h)
        have HOO3:Hid (∀k,O1 k→O3 k):=hid fun k h=>hO3 k (by rw[HO2.out];exact .inl (HOO.out k h))
        have HJ5:Hid (J O3 (pre ++ (xs ++ xs3)) W5):=hid (by rw [← wbm];exact hj5);have HK5:Hid (Kept (fun k=>R k∨O1 k) WW W5):=hid ((HK.out.trans (Kept.of_below HEX2.out)).trans (hk5.mono fun k _ h=>by
         rcases h with h|h
         ·exact .inl h
         ·exact .inr (by rw[HO2.out];exact .inl (HOO.out k h))))
        clear hO3 hx3 hj5 hk5 hcp hmk hgy hqy hfr2 hyl hycell b0 hqz hless a0 a1 a2 a3 a4 a5 a6 a7 a8 a9 a10 hgz;gi_wp2_with fail;go_roundw
        case rel =>
         repeat apply Exists.intro
         refine⟨?_,rfl⟩;exact⟨i+1,ze2 left own,O3,xs++xs3,by omega,by go_num,rfl,zaii _ _ hl64,HOO3.out,HJ5.out,HK5.out,HTL5.out⟩
        case measure=>simp[intOf];omega
       ·have HX5:=hid hx
        clear hx hcp hmk hgy hqy hfr2 hyl hycell b0 hqz hless a0 a1 a2 a3 a4 a5 a6 a7 a8 a9 a10 hgz;gi_wp2_with fail;go_ret;exact .inr ⟨rfl,O3,pre3,HX5.out⟩
   ·have hii:¬((i:Int)<(N:Int)):=by omega
    have hie:i=N:=by omega
    have HTL:Hid (xs.map (·.2)=total):=hid (by
     rw[hie,we6,zacz,wbn]at htl;exact htl)
    clear htl hOO hj hK hie;gi_wp2_with fail;go_ret;exact .inl ⟨rfl,O',xs,fun k h=>HOO.out k (by rw [HO1.out];exact .inl h),HTL.out,HJ.out,(Kept.of_below HEW.out).trans (HK.out.mono fun k _ h=>by
     rcases h with h|h
     ·exact .inl h
     ·exact .inr (by rw[HO1.out];exact .inl h))⟩
end Go.Proofs.YtdcnbeehckgpcaaGreat
