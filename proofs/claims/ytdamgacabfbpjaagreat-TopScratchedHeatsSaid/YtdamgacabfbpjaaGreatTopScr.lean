/-
  The statement TopScratchedHeats holds: a runner that is surely last of all, and alone, can be scratched: what is paid to the others in a pool of the first one stays. For every race, runner, units on the others, and a finish by numbers. No condition.
-/
import Derived.Test.YtdamgacabfbpjaaGreatLy
import Derived.Test.YtdamgacabfbpjaaGreatHd
import Derived.Test.YtdamgacabfbpjaaGreatHf
import Derived.Test.YtdamgacabfbpjaaGreatBc
set_option maxRecDepth 200000
set_option maxHeartbeats 0
set_option linter.unusedSimpArgs false
set_option linter.unusedVariables false
set_option linter.unusedSectionVars false
namespace Go.Proofs.YtdamgacabfbpjaaGreat
open Go.Lib (hid)
open Go.RowKit Go.Shelf
attribute [local go_sem] Oper.semAt_some
theorem elHw:El 22 48 3:=El.mk' (bytes:=24) (z:=.agg #[.int .i64 0,.int .i64 0,.int .i64 0]) (by kernel_rfl) (by kernel_rfl) rfl (by omega) (by omega)
theorem zabo {l:List Wd}:∀ r∈l.map zcr,r.length=3:=fun r hr=>by obtain ⟨y,_,rfl⟩:=List.mem_map.1 hr;rfl
theorem zagj {l:List Wd}:∀ r∈l.map zcr,∀ u∈r,u.oneCell'=true:=fun r hr u hu=>by
 obtain ⟨y,_,rfl⟩:=List.mem_map.1 hr;simp only [zcr,List.mem_cons,List.not_mem_nil,or_false] at hu
 rcases hu with rfl | rfl | rfl<;>rfl
def zgz (W:World) (g:Nat) (n:Int) (v:Value):Prop:=W.heap[g]? = some (.cells #[.int .i64 n,v] 24 (0,0))
theorem zgz.c0 {W:World} {g:Nat} {n:Int} {v:Value} (h:zgz W g n v):W.cell? ⟨g,0,none⟩=some (.int .i64 n):=by rw [cell_of_row _ _ _ _ _ _ h];rfl
theorem zgz.c1 {W:World} {g:Nat} {n:Int} {v:Value} (h:zgz W g n v):W.cell? ⟨g,1,none⟩=some v:=by rw [cell_of_row _ _ _ _ _ _ h];rfl
theorem zgz.fr {W:World} {g:Nat} {n:Int} {v:Value} (h:zgz W g n v) (o:Nat):W.frozen? ⟨g,o,none⟩=false:=by
 have h':W.heap[g]? = _:=h;simp [World.frozen?,h']
theorem zgz.lt {W:World} {g:Nat} {n:Int} {v:Value} (h:zgz W g n v):g < W.heap.size:=(Array.getElem?_eq_some_iff.1 h).1
theorem zgz.ext {W W':World} {g:Nat} {n:Int} {v:Value} (h:zgz W g n v) (e:Ext W W'):zgz W' g n v:=(e.block _ h.lt).trans h
def bkH (n:Int) (v:Value):Array Value:=#[.int .i64 0,.int .i64 n,v,.slice none 0 0,.bool false,.int .i64 0,.int .i64 0,.int .i64 1]
theorem zp.notRow {W:World} {B b:Nat} {e T:TypeId} {sz:Nat} {v:Value} {rows:List (List Value)} {cur:Array Value} (h:zp W B e sz v rows) (hr:W.heap[b]? = some (.cells cur T (0,0))) (hne:e≠T):some b≠v.ownBlock:=by
 intro he
 rcases h.1.2 with ⟨hv,_⟩ | ⟨g,cap,cur',hv,hb,hg,_⟩
 ·rw [hv] at he;cases he
 ·rw [hv] at he
  have:b=g:=Option.some.inj he;subst this;rw [hr] at hg;cases hg;exact hne rfl
structure Two (W:World) (B P Q:Nat) (n:Int) (xs:List Wd) (bs:List PB) (xr xv br bv:Value):Prop where
 row:zgz W P n xr
 ws:zp W B 48 3 xv (xs.map zcr)
 book:RowB W Q (bkH n br)
 bets:zp W B 52 3 bv (bs.map zce)
theorem Two.ext {W W':World} {B P Q:Nat} {n:Int} {xs:List Wd} {bs:List PB} {xr xv br bv:Value} (h:Two W B P Q n xs bs xr xv br bv) (e:Ext W W'):Two W' B P Q n xs bs xr xv br bv:=⟨h.row.ext e,h.ws.ext e,h.book.ext e,h.bets.ext e⟩
theorem Two.addW {W W':World} {B P Q:Nat} {n:Int} {xs:List Wd} {bs:List PB} {xv bv v':Value} {x:Wd} (h:Two W B P Q n xs bs xv xv bv bv) (ho:zp W' B 48 3 v' (xs.map zcr ++ [zcr x])) (k:Kept (fun k=>some k≠xv.ownBlock) W W'):Two W' B P Q n (xs ++ [x]) bs xv v' bv bv :=
 ⟨(k.same P h.row.lt (h.ws.notRow h.row (by decide))).trans h.row,by rw [List.map_append];exact ho,(k.same Q h.book.lt (h.ws.notRow h.book (by decide))).trans h.book,h.bets.keep (by decide) h.ws k⟩
theorem Two.addB {W W':World} {B P Q:Nat} {n:Int} {xs:List Wd} {bs:List PB} {xv bv v':Value} {x:PB} (h:Two W B P Q n xs bs xv xv bv bv) (ho:zp W' B 52 3 v' (bs.map zce ++ [zce x])) (k:Kept (fun k=>some k≠bv.ownBlock) W W'):Two W' B P Q n xs (bs ++ [x]) xv xv bv v' :=
 ⟨(k.same P h.row.lt (h.bets.notRow h.row (by decide))).trans h.row,h.ws.keep (by decide) h.bets k,(k.same Q h.book.lt (h.bets.notRow h.book (by decide))).trans h.book,by rw [List.map_append];exact ho⟩
theorem Two.setW {W:World} {B P Q:Nat} {n:Int} {xs:List Wd} {bs:List PB} {xr xv br bv:Value} (h:Two W B P Q n xs bs xr xv br bv) (hPQ:P≠Q):Two (W.setCell ⟨P,1,none⟩ xv) B P Q n xs bs xv xv br bv :=
 ⟨zl h.row 1 xv,h.ws.setOther h.row (by decide) 1 xv,(Below.heap_setCell _ _ _ _ (fun e=>hPQ e.symm)).trans h.book,h.bets.setOther h.row (by decide) 1 xv⟩
theorem Two.setB {W:World} {B P Q:Nat} {n:Int} {xs:List Wd} {bs:List PB} {xr xv br bv:Value} (h:Two W B P Q n xs bs xr xv br bv) (hPQ:P≠Q):Two (W.setCell ⟨Q,2,none⟩ bv) B P Q n xs bs xr xv bv bv :=
 ⟨(Below.heap_setCell _ _ _ _ (fun e=>hPQ e)).trans h.row,h.ws.setOther h.book (by decide) 2 bv,zl h.book 2 bv,h.bets.setOther h.book (by decide) 2 bv⟩
def zahw (h:Rc) (X:World) (v:Value) (W:World):Prop:=∃ f fa fc,v = .slice fa f.length fc∧f∈zcb h∧zt W .i64 v f∧Ext X W
theorem zad8 (p:Acc) (W:World):(binOp .eql 62 (zel p) (zel p)).run Tryz.prog W = .ok (.bool true) W:=by
 have:=zaf5 W p p;rw [decide_eq_true (rfl:p=p)] at this;exact this
theorem zagk {W:World} {ga:Option Addr} {gc:Nat} {ds:List (Value × List Int)} {z:Value × List Int} (h:zcz W (.slice ga (ds ++ [z]).length gc) (ds ++ [z])):zcz W (.slice ga ds.length gc) ds:=by
 obtain ⟨_,_,e,h1,h2,h3⟩:=h.spec;cases e;refine ⟨⟨ga,gc,by simp,by simp at h1 ⊢;omega,h2,?_⟩,fun x hx=>h.ints x (List.mem_append.2 (.inl hx))⟩
 rcases h3 with h3 | ⟨b,off,e,h3⟩
 ·simp at h3
 ·refine .inr ⟨b,off,e,fun i hi j hj=>?_⟩
  have hi':i < ds.length:=by simpa using hi
  have:=h3 i (by simp;omega);rw [List.getElem_append_left hi'] at this;simp only [List.getElem_map,List.length_cons,List.length_nil] at hj ⊢;have hj0:j=0:=by omega
  subst hj0;simpa using this
theorem zpg (h:Rc) (sa:Option Addr) (cap:Nat) (ru:Int) (uv:Value) (us:List Int) (nv:Value) (bs:List Int) (w:World) (hv:zcc w (.slice sa h.ws.length cap) h.ws) (hru:(Lit.int .u8 ru).wf=true)
  (hu:zbd w 1 uv (us.map fun n=>[.int .u8 n])) (hu8:∀ x∈us,(Lit.int .u8 x).wf=true) (hb:zbd w 1 nv (bs.map fun n=>[.int .u8 n])) (_:∀ x∈bs,(Lit.int .u8 x).wf=true) :
  Calls Tryz.prog 4 #[.agg #[.int .i64 h.n,.slice sa h.ws.length cap],.int .u8 ru,uv,nv] w fun e w'=>e = .returned (.bool true)∧Ext w w':=by
 have hbI:zt w .u8 nv bs:=hb;have huI:zt w .u8 uv us:=hu;obtain ⟨na,nc,rfl,hn1,hn2,-⟩:=hbI.spec;obtain ⟨ua,uc,rfl,hu1,hu2,-⟩:=huI.spec;have HN:=hid hbI;have HU:=hid huI;have HU8:=hid hu8;have HV:=hid hv;clear hb hbI hu huI hv hu8
 go_enter Tryz.func4,Tryz.ntmps4
 go_upto_region 1 with (fail);obtain ⟨W0,hW0⟩:∃ W0,W0=w.alloc (.cells #[.int .i64 h.n,.slice sa h.ws.length cap] 24):=⟨_,rfl⟩
 have hE:Ext w W0:=by rw [hW0];exact xx
 have k0:W0.cell? ⟨w.heap.size,0,none⟩=some (.int .i64 h.n):=by rw [hW0];simp [go_sem]
 have k1:W0.cell? ⟨w.heap.size,1,none⟩=some (.slice sa h.ws.length cap):=by rw [hW0];simp [go_sem]
 have hz:w.heap.size < W0.heap.size:=World.block_lt_of_cell? _ _ k0;have HW:=hid hE;replace HV:=hid (HV.out.ext hE);replace HN:=hid (HN.out.ext hE);replace HU:=hid (HU.out.ext hE);rw [← hW0];clear hW0 hE;go_wp2_with fail;refine zas (W0:=W0) (g:=⟨W0,Below.refl _ _⟩) xx (z8w h sa cap _ (HV.out.ext xx)) fun g1 hgr=>?_
 clear hgr
 by_cases h0:zap h=0
 case neg =>
  have e1:(zap h == 0)=false:=by simpa using h0
  clear h0;go_wp2_with fail;refine zas (W0:=W0) (g:=g1) xx (zeb _) fun g2 hgr=>?_
  clear hgr;go_wp2_with fail;go_ret;exact ⟨rfl,HW.out.trans' (zm W0 _)⟩
 have e1:(zap h == 0)=true:=by simpa using h0
 have V:=hid (zlg h0);have H0:=hid h0;have hn5:=V.out.n5;have hn2':=V.out.n1;have hwl:=V.out.len;clear h0
 by_cases h3:h.n < 3
 ·have hi3:decide (h.n < 3)=true:=decide_eq_true h3
  go_wp2_with fail;refine zas (W0:=W0) (g:=g1) xx (zeb _) fun g3 hgr=>?_
  clear hgr;go_wp2_with fail;go_ret;exact ⟨rfl,HW.out.trans' (zm W0 _)⟩
 have hi3:decide (h.n < 3)=false:=decide_eq_false h3;have hq1:IntKind.i64.wrap ((h.ws.length:Int)+h.n)=(h.ws.length:Int)+h.n:=IntWalk.i64_in _ (by omega);have hq2:IntKind.i64.wrap ((h.ws.length:Int)+h.n - 1)=(h.ws.length:Int)+h.n - 1:=IntWalk.i64_in _ (by omega)
 by_cases hm:12 < (h.ws.length:Int)+h.n - 1
 ·have him:decide (12 < (h.ws.length:Int)+h.n - 1)=true:=decide_eq_true hm
  go_wp2_with fail;refine zas (W0:=W0) (g:=g1) xx (zeb _) fun g4 hgr=>?_
  clear hgr;go_wp2_with fail;go_ret;exact ⟨rfl,HW.out.trans' (zm W0 _)⟩
 have him:decide (12 < (h.ws.length:Int)+h.n - 1)=false:=decide_eq_false hm
 by_cases hul:8 < us.length
 ·have hiu:(8:Int) < (us.length:Int):=by omega
  go_wp2_with fail;refine zas (W0:=W0) (g:=g1) xx (zeb _) fun g5 hgr=>?_
  clear hgr;go_wp2_with fail;go_ret;exact ⟨rfl,HW.out.trans' (zm W0 _)⟩
 have hiu:¬ ((8:Int) < (us.length:Int)):=by omega
 by_cases hbl:20 < bs.length
 ·have hib:(20:Int) < (bs.length:Int):=by omega
  go_wp2_with fail;refine zas (W0:=W0) (g:=g1) xx (zeb _) fun g6 hgr=>?_
  clear hgr;go_wp2_with fail;go_ret;exact ⟨rfl,HW.out.trans' (zm W0 _)⟩
 have hib:¬ ((20:Int) < (bs.length:Int)):=by omega
 go_upto_region 3 with (fail);obtain ⟨U,hU⟩:∃ zz9,zz9=(grow W0 g1):=⟨_,rfl⟩
 have eU:Ext W0 U:=by rw [hU];exact xx
 replace k0:=zd eU k0;replace k1:=zd eU k1;replace HV:=hid (HV.out.ext eU);replace HN:=hid (HN.out.ext eU);replace HU:=hid (HU.out.ext eU);replace HW:=hid (HW.out.trans' eU);rw [← hU];replace hz:=World.block_lt_of_cell? _ _ k0;clear hU eU;simp only at hz;obtain ⟨n,hn⟩:∃ n:Nat,h.n=n:=⟨h.n.toNat,by omega⟩
 have hwb:=bounds_u8 hru;obtain ⟨wn,rfl⟩:∃ wn:Nat,ru=(wn:Int):=⟨ru.toNat,by omega⟩
 obtain ⟨r,hr⟩:∃ r,r=wn % n:=⟨_,rfl⟩
 have hrn:r < n:=by rw [hr];exact Nat.mod_lt _ (by omega)
 have hm1:Int.tmod (wn:Int) h.n=(r:Int):=by rw [hn,Int.tmod_eq_emod_of_nonneg (by omega),hr];rfl
 have hm2:(wn:Int) % h.n=(r:Int):=by rw [hn,hr];rfl
 have hw1:IntKind.i64.wrap (wn:Int)=(wn:Int):=IntWalk.i64_in _ (by omega);have hw6:IntKind.i64.wrap (r:Int)=(r:Int):=IntWalk.i64_in _ (by omega);have hnz:¬ h.n=0:=by omega
 have hn3:3≤n:=by omega
 have hn5':n≤5:=by omega
 have hl12:h.ws.length+n - 1≤12:=by omega
 have HNN:=hid hn;clear hr hn e1 hi3 hq1 hq2 him hiu hib h3 hm hul hbl hru hn5 hn2';go_upto_region 4 with (fail);clear hm1 hm2 hw1 hw6 hnz hwb;refine zqg 8 rfl (by kernel_rfl) (U.heap.size) (Nat.le_refl _)
  [sqV (.pointer (some ⟨w.heap.size,0,none⟩)),sqV (.int .i64 h.n),sqW (fun v W=>zlz W (U.heap.size) 48 3 v) (fun _ _ _ h e=>h.ext e),sqV (.pointer (some ⟨w.heap.size,1,none⟩)),sqV (.slice sa h.ws.length cap),sqW (fun v W=>zp W U.heap.size 48 3 v (h.ws.map zcr)) (fun _ _ _ h e=>h.ext e),sqD [5] (fun l v W=>v = .agg #[.int .i64 h.n,l.headD undef]) (fun _ _ _ _ h _=>h),sqW (fun v W=>∃ p,v = .pointer (some ⟨p,0,none⟩)∧U.heap.size≤p∧zgz W p 0 (.slice none 0 0)) (fun _ _ _ ⟨p,h1,h2,h3⟩ e=>⟨p,h1,h2,h3.ext e⟩)]
  [true,true,false,true,true,false,false,false] [false,false,false,false,false,false,false,false] [true,true,true,true,true,true,true,true] [true,true,true,true,true,true,true,true]
  (by kernel_rfl) (by kernel_rfl) (by decide +kernel) (by decide +kernel) (by decide +kernel) rfl ⟨rfl,rfl⟩ ⟨?s0,?s1,?s2,?s3,?s4,?s5,?s6,?s7,trivial⟩ [some 59,some 60,some 61,some 62,some 63,some 64,some 65,some 10] rfl rfl ?send
 case s0 =>
  intro val ρ W hE hz hd hA hx;have o0:ρ (.tmp 4) = .pointer (some ⟨w.heap.size,0,none⟩):=hA.old 4 (by decide);clear hd;exact ze (W':=W) (by simp [execOp,o0,go_sem]) (Below.refl _ _) rfl
 case s1 =>
  intro val ρ W hE hz hd hA hx;have d0:ρ (.tmp 59) = .pointer (some ⟨w.heap.size,0,none⟩):=(hA.dep 0 (by decide) 59 rfl).trans (hd 0 (by decide));have f_k0:=cell_below hE (by simp only;omega) k0;clear hd;exact ze (W':=W) (by simp [execOp,d0,f_k0,go_sem]) (Below.refl _ _) rfl
 case s2 =>
  intro val ρ W hE hz hd hA hx;exact ze (W':=W.alloc (.cells #[] 48)) (v:=.slice (some ⟨W.heap.size,0,none⟩) 0 0) (by simp [execOp,go_sem]) xx (zaei W _ _ _ (by omega))
 case s3 =>
  intro val ρ W hE hz hd hA hx;have o0:ρ (.tmp 4) = .pointer (some ⟨w.heap.size,0,none⟩):=hA.old 4 (by decide);clear hd;exact ze (W':=W) (by simp [execOp,o0,go_sem]) (Below.refl _ _) rfl
 case s4 =>
  intro val ρ W hE hz hd hA hx;have d3:ρ (.tmp 62) = .pointer (some ⟨w.heap.size,1,none⟩):=(hA.dep 3 (by decide) 62 rfl).trans (hd 3 (by decide));have f_k1:=cell_below hE (by simp only;omega) k1;clear hd;exact ze (W':=W) (by simp [execOp,d3,f_k1,go_sem]) (Below.refl _ _) rfl
 case s5 =>
  intro val ρ W hE hz hd hA hx;have d0:zlz W U.heap.size 48 3 (val 2):=hd 2 (by decide);have e0:ρ (.tmp 61)=val 2:=hA.dep 2 (by decide) 61 rfl;have d2:ρ (.tmp 63) = .slice sa h.ws.length cap:=(hA.dep 4 (by decide) 63 rfl).trans (hd 4 (by decide));clear hd;obtain ⟨v',w',hrun,ho,he⟩:=z54 elHw 22 _ d0 (h.ws.map zcr) zabo (HV.out.ext hE) zagj (by rw [List.length_map];omega) hz;exact zi3 (.tmp 61) (.tmp 63) rfl rfl _ _ e0 d2 hrun he ho
 case s6 =>
  intro val ρ W hE hz hd hA hx;have e1:ρ (.tmp 60) = .int .i64 h.n:=(hA.dep 1 (by decide) 60 rfl).trans (hd 1 (by decide));have e5:ρ (.tmp 64)=val 5:=hA.dep 5 (by decide) 64 rfl;have d5:zp W U.heap.size 48 3 (val 5) (h.ws.map zcr):=hd 5 (by decide);obtain ⟨va,vn,vc,ev⟩:=d5.isSlice;rw [ev] at e5;clear hd;refine ze (W':=W) (v:=.agg #[.int .i64 h.n,.slice va vn vc]) (by simp [execOp,e1,e5,go_sem]) (Below.refl _ _) ?_
  show _=Value.agg #[.int .i64 h.n,([val 5]:List Value).headD undef];rw [ev];rfl
 case s7 =>
  intro val ρ W hE hz hd hA hx;exact ze (W':=W.alloc (.cells #[.int .i64 0,.slice none 0 0] 24)) (v:=.pointer (some ⟨W.heap.size,0,none⟩)) (by simp [execOp,go_sem]) xx ⟨_,rfl,by omega,World.alloc_heap_new W _⟩
 case send =>
  intro val WW hE hzz hv;obtain ⟨-,-,-,-,-,r5,r6,r7,-⟩:=hv;replace r5:zp WW U.heap.size 48 3 (val 5) (h.ws.map zcr):=r5;have q6:val 6 = .agg #[.int .i64 h.n,val 5]:=r6;obtain ⟨P,q7,hP,hrP⟩:∃ p,val 7 = .pointer (some ⟨p,0,none⟩)∧U.heap.size≤p∧zgz WW p 0 (.slice none 0 0):=r7;obtain ⟨xa,xn,xc,e5⟩:=r5.isSlice;rw [e5] at r5 q6;have p0:=hrP.c0;have p1:=hrP.c1;have pf:=fun o=>hrP.fr o
  have pz:=hrP.lt;simp only [zbq,e5,q6,q7];go_frame;have HE:=hid hE;have HXW:=hid r5;have HRP:=hid hrP;have K0:=hid k0;clear hE hzz r5 r6 q6 q7 e5 hrP;go_upto_region 5 with (fail);clear p0 p1 pf;obtain ⟨A,hA⟩:∃ A,A=(WW.setCell ⟨P,0,none⟩ (.int .i64 h.n)).setCell ⟨P,1,none⟩ (.slice xa xn xc):=⟨_,rfl⟩
  have hrA:zgz A P h.n (.slice xa xn xc):=by
   rw [hA];exact zl (zl HRP.out 0 (.int .i64 h.n)) 1 (.slice xa xn xc)
  have hoA:zp A U.heap.size 48 3 (.slice xa xn xc) (h.ws.map zcr):=by
   rw [hA];have h1:=HXW.out.setOther HRP.out (by decide) 0 (.int .i64 h.n);exact h1.setOther (zl HRP.out 0 (.int .i64 h.n)) (by decide) 1 (.slice xa xn xc)
  have hkA:Kept (fun k=>k≠P) WW A:=by
   rw [hA];exact ((Kept.refl _ _).setCell (fun _ h=>h rfl) _).setCell (fun _ h=>h rfl) _
  have hEA:Ext U A:=zsd HE.out hkA hP;rw [← hA];have hzA:WW.heap.size≤A.heap.size:=hkA.size;clear hA hkA HE HXW HRP k0 k1 hz;have k0:=zd hEA K0.out;have hz:=World.block_lt_of_cell? _ _ k0;simp only at hz;go_upto_region 6 with (fail);clear k0 hz;obtain ⟨X,hX⟩:∃ X,X=A.alloc (.cells (bkH h.n (.slice none 0 0)) 41):=⟨_,rfl⟩
  obtain ⟨Q,hQ⟩:∃ Q,Q=A.heap.size:=⟨_,rfl⟩
  have hrX:RowB X Q (bkH h.n (.slice none 0 0)):=by rw [hX,hQ];exact World.alloc_heap_new A _
  have hEX:Ext A X:=by rw [hX];exact xx
  unfold bkH at hX;rw [← hX,← hQ];have HPU:=hid hP;have hPQ:P < Q:=by rw [hQ];omega
  have hQX:Q < X.heap.size:=hrX.lt;have HT0:Hid (Two X U.heap.size P Q h.n (h.ws ++ za3 r 0) (zb6 us r 0) (.slice xa xn xc) (.slice xa xn xc) (.slice none 0 0) (.slice none 0 0)):=hid ⟨hrA.ext hEX,by simpa [za3] using hoA.ext hEX,hrX,zp.nil _ _ _ _⟩;have HEX:=hid (hEA.trans' hEX);clear hX hQ hrX hEX hrA hoA hEA hzA pz;go_wp2_with fail
  go_loopw [12] (fun kv W=>∃ (k:Nat) (xv bv:Value),k≤n∧kv = .int .i64 k∧Two W U.heap.size P Q h.n (h.ws ++ za3 r k) (zb6 us r k) xv xv bv bv∧Ext U W) (fun kv _=>n - (intOf kv).toNat)
  case atStart=>exact ⟨0,_,_,by omega,rfl,HT0.out,HEX.out⟩
  case round =>
   obtain ⟨k,xv,bv,hk,rfl,hT,hE⟩:=hrel;obtain ⟨T,rfl⟩:∃ T,T=wr:=⟨_,rfl⟩
   obtain ⟨xa,xn,xc,rfl⟩:=hT.ws.isSlice;obtain ⟨ba,bn,bc,rfl⟩:=hT.bets.isSlice;have HT:=hid hT;have HE:=hid hE;have k0:=zd hE K0.out;have hz:=World.block_lt_of_cell? _ _ k0;simp only at hz;have p1:=hT.row.c1;have pz:=hT.row.lt
   by_cases hlt:k < n
   ·have hki:(k:Int) < h.n:=by have:=HNN.out;omega
    have HBS:=hid (zt9 r k);have HBT:=hid (z83 us r k)
    by_cases hkr:k=r
    ·have hkri:((k:Int) == (r:Int))=true:=by rw [hkr];simp
     have HS1:Hid (za3 r (k+1)=za3 r k):=hid (by rw [HBS.out,if_pos hkr,List.append_nil]);have HS2:Hid (zb6 us r (k+1)=zb6 us r k):=hid (by rw [HBT.out,if_neg (fun h=>h.1 hkr),List.append_nil]);clear hT hE hkr;go_wp2_with fail;go_roundw
     case rel=>exact ⟨k+1,_,_,by omega,by go_num,by rw [HS1.out,HS2.out];exact HT.out,HE.out⟩
     case measure=>simp [intOf];omega
    ·have hkri:((k:Int) == (r:Int))=false:=by rw [beq_eq_false_iff_ne];omega
     have HS1:Hid (za3 r (k+1)=za3 r k ++ [((k:Int),(r:Int),(0:Int))]):=hid (by rw [HBS.out,if_neg hkr]);have HLW:Hid (((h.ws ++ za3 r k).map zcr).length + [zcr ((k:Int),(r:Int),(0:Int))].length≤1000000):=hid (by
      have h1:=z82 r k;have h2:=V.out.len;simp;omega)
     have HLB:Hid (((zb6 us r k).map zce).length + [zce ⟨(k:Int),-1,1+gt us k⟩].length≤1000000):=hid (by
      have h1:=zz5 us r k;simp;omega)
     have HKR:=hid hkr;clear hT hE hkr;go_upto_region 10 with (fail);refine zbe rfl rfl (by kernel_rfl) (U.heap.size) (by omega)
      [sqV (.pointer (some ⟨P,1,none⟩)),sqV (.slice xa xn xc),sqV (.int .i64 k),sqV (.int .i64 r),sqV (.agg #[.int .i64 k,.int .i64 r,.int .i64 0]),sqW (fun v W=>∃ b,v = .slice (some ⟨b,0,none⟩) 1 1∧zan W 3 b 0 ([[Value.int .i64 k,.int .i64 r,.int .i64 0]])) (fun _ _ _ ⟨b,h1,h2⟩ e=>⟨b,h1,h2.ext e⟩),sqW (fun v W=>Two W U.heap.size P Q h.n (h.ws ++ za3 r k ++ [((k:Int),(r:Int),(0:Int))]) (zb6 us r k) (.slice xa xn xc) v (.slice ba bn bc) (.slice ba bn bc)) (fun _ _ _ h e=>h.ext e),sqV (.pointer (some ⟨P,1,none⟩))]
      [true,true,true,true,true,false,false,true] [false,false,false,false,false,false,true,false] [true,true,true,true,true,false,true,true] [true,true,true,true,true,true,true,false]
      (by kernel_rfl) (by kernel_rfl) (by decide +kernel) (by decide +kernel) (by decide +kernel) rfl ⟨rfl,rfl⟩ ⟨?s0,?s1,?s2,?s3,?s4,?s5,?s6,?s7,trivial⟩ [some 78,some 79,some 80,some 81,some 82,some 83,some 84,some 85] rfl rfl ?send
     case s0 =>
      intro val ρ W hE hz hd hA hx;have o0:ρ (.tmp 10) = .pointer (some ⟨P,0,none⟩):=hA.old 10 (by decide);clear hd;exact ze (W':=W) (by simp [execOp,o0,go_sem]) (Below.refl _ _) rfl
     case s1 =>
      intro val ρ W hE hz hd hA hx;have d0:ρ (.tmp 78) = .pointer (some ⟨P,1,none⟩):=(hA.dep 0 (by decide) 78 rfl).trans (hd 0 (by decide));have f_p1:=zd (hx (by decide)) p1;clear hd;exact ze (W':=W) (by simp [execOp,d0,f_p1,go_sem]) (Below.refl _ _) rfl
     case s2 =>
      intro val ρ W hE hz hd hA hx;have o0:ρ (.tmp 12) = .int .i64 k:=hA.old 12 (by decide);clear hd;exact ze (W':=W) (by simp [execOp,o0,go_sem]) (Below.refl _ _) rfl
     case s3 =>
      intro val ρ W hE hz hd hA hx;have o0:ρ (.tmp 9) = .int .i64 r:=hA.old 9 (by decide);clear hd;exact ze (W':=W) (by simp [execOp,o0,go_sem]) (Below.refl _ _) rfl
     case s4 =>
      intro val ρ W hE hz hd hA hx;have d2:ρ (.tmp 80) = .int .i64 k:=(hA.dep 2 (by decide) 80 rfl).trans (hd 2 (by decide));have d3:ρ (.tmp 81) = .int .i64 r:=(hA.dep 3 (by decide) 81 rfl).trans (hd 3 (by decide));clear hd;refine zdm 16 _ _ rfl #[.int .i64 k,.int .i64 0,.int .i64 r] (hA.func _) (by simp [d2,d3,hA.const]) (fun args W=>Tryz.call16 args W) ((z8x k 0 r W).mono ?_);rintro e w' ⟨rfl,hb⟩;exact ⟨_,rfl,hb,rfl⟩
     case s5 =>
      intro val ρ W hE hz hd hA hx;have d4:ρ (.tmp 82) = .agg #[.int .i64 k,.int .i64 r,.int .i64 0]:=(hA.dep 4 (by decide) 82 rfl).trans (hd 4 (by decide));clear hd hA;refine ze (by simp [execOp,d4,go_sem];exact ⟨rfl,rfl⟩) (by exact xx) ⟨_,rfl,zx4 _ ([[Value.int .i64 k,.int .i64 r,.int .i64 0]]) _ _ _ 3 rfl (by simp) (by simp)⟩
     case s7 =>
      intro val ρ W hE hz hd hA hx;have o0:ρ (.tmp 10) = .pointer (some ⟨P,0,none⟩):=hA.old 10 (by decide);clear hd;exact ze (W':=W) (by simp [execOp,o0,go_sem]) (Below.refl _ _) rfl
     case s6 =>
      intro val ρ W hE hz hd hA hx;have hW:=hx (by decide);have d1:ρ (.tmp 79) = .slice xa xn xc:=(hA.dep 1 (by decide) 79 rfl).trans (hd 1 (by decide));obtain ⟨b',e7,h7⟩:∃ b',val 5 = .slice (some ⟨b',0,none⟩) 1 1∧zan W 3 b' 0 [zcr ((k:Int),(r:Int),(0:Int))]:=hd 5 (by decide);have d7:ρ (.tmp 83) = .slice (some ⟨b',0,none⟩) 1 1:=(hA.dep 5 (by decide) 83 rfl).trans e7;have hTW:=HT.out.ext hW;obtain ⟨v',w',hrun,ho,hk9,-⟩:=zv6 elHw 22 U.heap.size hTW.ws b' 0 1 [zcr ((k:Int),(r:Int),(0:Int))] (by simp [zcr]) h7 (by simp [zcr,Value.oneCell']) HLW.out (by have:=HE.out.size;omega);exact zi3 (.tmp 79) (.tmp 83) rfl rfl _ _ d1 d7 hrun (hTW.ws.keptBelow (by have:=HE.out.size;omega) hk9) (hTW.addW ho hk9)
     case send =>
      intro val WW hE hzz hv;obtain ⟨-,-,-,-,-,-,r6,r7,-⟩:=hv;replace r6:Two WW U.heap.size P Q h.n (h.ws ++ za3 r k ++ [((k:Int),(r:Int),(0:Int))]) (zb6 us r k) (.slice xa xn xc) (val 6) (.slice ba bn bc) (.slice ba bn bc):=r6;have q7:val 7 = .pointer (some ⟨P,1,none⟩):=r7;obtain ⟨va,vn,vc,e6⟩:=r6.ws.isSlice;rw [e6] at r6;have y1:=r6.row.c1;have yf:=r6.row.fr 1;have yz:=r6.row.lt;have HT6:=hid r6;have hEW:Ext U WW:=Below.trans HE.out hE;have HEW:=hid hEW;have hPU:U.heap.size≤P:=HPU.out;simp only [zbq,e6,q7];go_frame;clear hE hzz r6 r7 q7 e6 k0 hz p1 pz;go_upto_region 11 with (fail);clear y1 yf yz;obtain ⟨Y,hY⟩:∃ Y,Y=WW.setCell ⟨P,1,none⟩ (.slice va vn vc):=⟨_,rfl⟩
      have hTY:Two Y U.heap.size P Q h.n (h.ws ++ za3 r k ++ [((k:Int),(r:Int),(0:Int))]) (zb6 us r k) (.slice va vn vc) (.slice va vn vc) (.slice ba bn bc) (.slice ba bn bc):=by rw [hY];exact HT6.out.setW (by omega)
      have hEY:Ext U Y:=by rw [hY];exact hEW.setCell hPU _
      rw [← hY];have HTY:=hid hTY;have HEY:=hid hEY;have q2:Y.cell? ⟨Q,2,none⟩=some (.slice ba bn bc):=by rw [cell_of_row _ _ _ _ _ _ hTY.book];rfl
      have qz:=hTY.book.lt
      by_cases hku:k < us.length
      ·have hkui:(k:Int) < (us.length:Int):=by omega
       have HS2:Hid (zb6 us r (k+1)=zb6 us r k ++ [⟨(k:Int),-1,1+gt us k⟩]):=hid (by rw [HBT.out,if_pos ⟨HKR.out,hku⟩]);obtain ⟨_,_,e9,-,-,huc⟩:=HU.out.spec;cases e9
       rcases huc with hu0 | ⟨ub,uo,rfl,huc⟩
       ·rw [hu0] at hku;simp at hku
       have cu:=zd hEY (huc k hku);have hx8:=HU8.out _ (List.getElem_mem hku);obtain ⟨u,hu⟩:∃ u,u=us[k]:=⟨_,rfl⟩
       rw [← hu] at cu hx8;have hub:=bounds_u8 hx8;have huz:=World.block_lt_of_cell? _ _ cu;simp only at huz;have HUG:Hid (gt us k=u):=hid (by rw [hu,gt_get hku]);have hwu:IntKind.i64.wrap u=u:=IntWalk.i64_in _ (by omega);have hwu1:IntKind.i64.wrap (1+u)=1+u:=IntWalk.i64_in _ (by omega);rw [HUG.out] at HS2 HLB;clear hY hTY hEY hEW huc hx8 hu;go_upto_region 12 with (fail);refine zbe rfl rfl (by kernel_rfl) (U.heap.size) (by omega)
        [sqV (.pointer (some ⟨Q,2,none⟩)),sqV (.slice ba bn bc),sqV (.int .i64 k),sqV (.slice (some ⟨ub,uo,none⟩) us.length uc),sqV (.int .i64 k),sqV (.pointer (some ⟨ub,uo+k,none⟩)),sqV (.int .u8 u),sqV (.int .i64 u),sqV (.int .i64 (1+u)),sqV (.agg #[.int .i64 k,.int .i64 (-1),.int .i64 (1+u)]),sqW (fun v W=>∃ b,v = .slice (some ⟨b,0,none⟩) 1 1∧zan W 3 b 0 ([[Value.int .i64 k,.int .i64 (-1),.int .i64 (1+u)]])) (fun _ _ _ ⟨b,h1,h2⟩ e=>⟨b,h1,h2.ext e⟩),sqW (fun v W=>Two W U.heap.size P Q h.n (h.ws ++ za3 r k ++ [((k:Int),(r:Int),(0:Int))]) (zb6 us r k ++ [⟨(k:Int),-1,1+u⟩]) (.slice va vn vc) (.slice va vn vc) (.slice ba bn bc) v) (fun _ _ _ h e=>h.ext e),sqV (.pointer (some ⟨Q,2,none⟩))]
        [true,true,true,true,true,true,true,true,true,true,false,false,true] [false,false,false,false,false,false,false,false,false,false,false,true,false] [true,true,true,true,true,true,true,true,true,true,false,true,true] [true,true,true,true,true,true,true,true,true,true,true,true,false]
        (by kernel_rfl) (by kernel_rfl) (by decide +kernel) (by decide +kernel) (by decide +kernel) rfl ⟨rfl,rfl⟩ ⟨?s0,?s1,?s2,?s3,?s4,?s5,?s6,?s7,?s8,?s9,?s10,?s11,?s12,trivial⟩ [some 90,some 91,some 92,some 93,some 94,some 95,some 96,some 97,some 98,some 99,some 100,some 101,some 102] rfl rfl ?send
       case s0 =>
        intro val ρ W hE hz hd hA hx;have o0:ρ (.tmp 11) = .pointer (some ⟨Q,0,none⟩):=hA.old 11 (by decide);clear hd;exact ze (W':=W) (by simp [execOp,o0,go_sem]) (Below.refl _ _) rfl
       case s1 =>
        intro val ρ W hE hz hd hA hx;have d0:ρ (.tmp 90) = .pointer (some ⟨Q,2,none⟩):=(hA.dep 0 (by decide) 90 rfl).trans (hd 0 (by decide));have f_q2:=zd (hx (by decide)) q2;clear hd;exact ze (W':=W) (by simp [execOp,d0,f_q2,go_sem]) (Below.refl _ _) rfl
       case s2 =>
        intro val ρ W hE hz hd hA hx;have o0:ρ (.tmp 12) = .int .i64 k:=hA.old 12 (by decide);clear hd;exact ze (W':=W) (by simp [execOp,o0,go_sem]) (Below.refl _ _) rfl
       case s3 =>
        intro val ρ W hE hz hd hA hx;have o0:ρ (.tmp 2) = .slice (some ⟨ub,uo,none⟩) us.length uc:=hA.old 2 (by decide);clear hd;exact ze (W':=W) (by simp [execOp,o0,go_sem]) (Below.refl _ _) rfl
       case s4 =>
        intro val ρ W hE hz hd hA hx;have o0:ρ (.tmp 12) = .int .i64 k:=hA.old 12 (by decide);clear hd;exact ze (W':=W) (by simp [execOp,o0,go_sem]) (Below.refl _ _) rfl
       case s5 =>
        intro val ρ W hE hz hd hA hx;have d3:ρ (.tmp 93) = .slice (some ⟨ub,uo,none⟩) us.length uc:=(hA.dep 3 (by decide) 93 rfl).trans (hd 3 (by decide));have d4:ρ (.tmp 94) = .int .i64 k:=(hA.dep 4 (by decide) 94 rfl).trans (hd 4 (by decide));clear hd;exact ze (W':=W) (by simp [execOp,d3,d4,hku,hkui,go_sem]) (Below.refl _ _) rfl
       case s6 =>
        intro val ρ W hE hz hd hA hx;have d5:ρ (.tmp 95) = .pointer (some ⟨ub,uo+k,none⟩):=(hA.dep 5 (by decide) 95 rfl).trans (hd 5 (by decide));have f_cu:=zd (hx (by decide)) cu;clear hd;exact ze (W':=W) (by simp [execOp,d5,f_cu,go_sem]) (Below.refl _ _) rfl
       case s7 =>
        intro val ρ W hE hz hd hA hx;have d6:ρ (.tmp 96) = .int .u8 u:=(hA.dep 6 (by decide) 96 rfl).trans (hd 6 (by decide));clear hd;exact ze (W':=W) (by simp [execOp,d6,hwu,go_sem]) (Below.refl _ _) rfl
       case s8 =>
        intro val ρ W hE hz hd hA hx;have d7:ρ (.tmp 97) = .int .i64 u:=(hA.dep 7 (by decide) 97 rfl).trans (hd 7 (by decide));clear hd;exact ze (W':=W) (by simp [execOp,hA.const,d7,hwu1,go_sem]) (Below.refl _ _) rfl
       case s9 =>
        intro val ρ W hE hz hd hA hx;have d2:ρ (.tmp 92) = .int .i64 k:=(hA.dep 2 (by decide) 92 rfl).trans (hd 2 (by decide));have d8:ρ (.tmp 98) = .int .i64 (1+u):=(hA.dep 8 (by decide) 98 rfl).trans (hd 8 (by decide));clear hd;exact ze (W':=W) (by simp [execOp,hA.const,d2,d8,go_sem]) (Below.refl _ _) rfl
       case s10 =>
        intro val ρ W hE hz hd hA hx;have d9:ρ (.tmp 99) = .agg #[.int .i64 k,.int .i64 (-1),.int .i64 (1+u)]:=(hA.dep 9 (by decide) 99 rfl).trans (hd 9 (by decide));clear hd hA;refine ze (by simp [execOp,d9,go_sem];exact ⟨rfl,rfl⟩) (by exact xx) ⟨_,rfl,zx4 _ ([[Value.int .i64 k,.int .i64 (-1),.int .i64 (1+u)]]) _ _ _ 3 rfl (by simp) (by simp)⟩
       case s12 =>
        intro val ρ W hE hz hd hA hx;have o0:ρ (.tmp 11) = .pointer (some ⟨Q,0,none⟩):=hA.old 11 (by decide);clear hd;exact ze (W':=W) (by simp [execOp,o0,go_sem]) (Below.refl _ _) rfl
       case s11 =>
        intro val ρ W hE hz hd hA hx;have hW:=hx (by decide);have d1:ρ (.tmp 91) = .slice ba bn bc:=(hA.dep 1 (by decide) 91 rfl).trans (hd 1 (by decide));obtain ⟨b',e7,h7⟩:∃ b',val 10 = .slice (some ⟨b',0,none⟩) 1 1∧zan W 3 b' 0 [zce ⟨(k:Int),-1,1+u⟩]:=hd 10 (by decide);have d7:ρ (.tmp 100) = .slice (some ⟨b',0,none⟩) 1 1:=(hA.dep 10 (by decide) 100 rfl).trans e7;have hTW:=HTY.out.ext hW;obtain ⟨v',w',hrun,ho,hk9,-⟩:=zv6 zti 39 U.heap.size hTW.bets b' 0 1 [zce ⟨(k:Int),-1,1+u⟩] (by simp [zce]) h7 (by simp [zce,Value.oneCell']) HLB.out (by have:=HEY.out.size;omega);exact zi3 (.tmp 91) (.tmp 100) rfl rfl _ _ d1 d7 hrun (hTW.bets.keptBelow (by have:=HEY.out.size;omega) hk9) (hTW.addB ho hk9)
       case send =>
        intro val WZ hE hzz hv;obtain ⟨-,-,-,-,-,-,-,-,-,-,-,r11,r12,-⟩:=hv;replace r11:Two WZ U.heap.size P Q h.n (h.ws ++ za3 r k ++ [((k:Int),(r:Int),(0:Int))]) (zb6 us r k ++ [⟨(k:Int),-1,1+u⟩]) (.slice va vn vc) (.slice va vn vc) (.slice ba bn bc) (val 11):=r11;have q12:val 12 = .pointer (some ⟨Q,2,none⟩):=r12;obtain ⟨da,dn,dc,e11⟩:=r11.bets.isSlice;rw [e11] at r11;have y2:WZ.cell? ⟨Q,2,none⟩=some (.slice ba bn bc):=by rw [cell_of_row _ _ _ _ _ _ r11.book];rfl
        have yf:WZ.frozen? ⟨Q,2,none⟩=false:=by simp [World.frozen?,show WZ.heap[Q]? = _ from r11.book]
        have yz:=r11.book.lt;have HT11:=hid r11;have HEZ:Hid (Ext U WZ):=hid (Below.trans HEY.out hE);simp only [zbq,e11,q12];go_frame;clear hE hzz r11 r12 q12 e11 q2 qz cu huz hwu hwu1;go_wp2_with fail;go_roundw
        case rel=>exact ⟨k+1,_,_,by omega,by go_num,by rw [HS1.out,HS2.out,← List.append_assoc];exact HT11.out.setB (by omega),HEZ.out.setCell (by have:=HPU.out;show U.heap.size≤Q;omega) _⟩
        case measure=>simp [intOf];omega
      ·have hkui:¬ ((k:Int) < (us.length:Int)):=by omega
       have HS2:Hid (zb6 us r (k+1)=zb6 us r k):=hid (by rw [HBT.out,if_neg (fun h=>hku h.2),List.append_nil]);clear hY hTY hEY hEW q2 qz hku;go_wp2_with fail;go_roundw
       case rel=>exact ⟨k+1,_,_,by omega,by go_num,by rw [HS1.out,HS2.out,← List.append_assoc];exact HTY.out,HEY.out⟩
       case measure=>simp [intOf];omega
   ·have hki:¬ ((k:Int) < h.n):=by have:=HNN.out;omega
    have hke:k=n:=by omega
    rw [hke] at hT;obtain ⟨x,hx⟩:∃ x:Rc,x=zi7 h r:=⟨_,rfl⟩
    obtain ⟨b,hb⟩:∃ b:Bk,b=za6 n us r:=⟨_,rfl⟩
    have hnn:h.n.toNat=n:=by have:=HNN.out;omega
    have hxw:x.ws=h.ws ++ za3 r n:=by rw [hx];show h.ws ++ za3 r h.n.toNat=_;rw [hnn]
    have hbb:b.bets=zb6 us r n:=by rw [hb];show zb6 us r (n:Int).toNat=_;rw [Int.toNat_natCast]
    have hbn:b.n=h.n:=by rw [hb,HNN.out];rfl
    have hxl:xn=x.ws.length:=by
     obtain ⟨_,_,e9,-⟩:=hT.ws.form;have:=(Value.slice.inj e9).2.1;rw [this,hxw];simp
    have hbl:bn=b.bets.length:=by
     obtain ⟨_,_,e9,-⟩:=hT.bets.form;have:=(Value.slice.inj e9).2.1;rw [this,hbb];simp
    subst hxl hbl;have HXV:Hid (zcc T (.slice xa x.ws.length xc) x.ws):=hid (by have:=hT.ws.isRows;rw [← hxw] at this;exact this);have HBK:Hid (zc4 T b ba bc none 0):=hid ⟨by have:=hT.bets.isRows;rw [← hbb] at this;exact this,by rw [hb];exact ⟨none,0,rfl,Nat.le_refl _,by omega,.inl rfl⟩⟩;have hrp:zgz T P h.n (.slice xa x.ws.length xc):=hT.row;have p0:T.cell? ⟨P,0,none⟩=some (.int .i64 x.n):=by rw [hrp.c0,hx];rfl
    have hrb:=hT.book;have q0:T.cell? ⟨Q,0,none⟩=some (.int .i64 b.kd):=by rw [cell_of_row _ _ _ _ _ _ hrb,hb];rfl
    have q1:T.cell? ⟨Q,1,none⟩=some (.int .i64 b.n):=by rw [cell_of_row _ _ _ _ _ _ hrb,hbn];rfl
    have q2:T.cell? ⟨Q,2,none⟩=some (.slice ba b.bets.length bc):=by rw [cell_of_row _ _ _ _ _ _ hrb];rfl
    have q3:T.cell? ⟨Q,3,none⟩=some (.slice none b.scr.length 0):=by rw [cell_of_row _ _ _ _ _ _ hrb,hb];rfl
    have q4:T.cell? ⟨Q,4,none⟩=some (.bool b.fav):=by rw [cell_of_row _ _ _ _ _ _ hrb,hb];rfl
    have q5:T.cell? ⟨Q,5,none⟩=some (.int .i64 b.car):=by rw [cell_of_row _ _ _ _ _ _ hrb,hb];rfl
    have q6:T.cell? ⟨Q,6,none⟩=some (.int .i64 b.duty):=by rw [cell_of_row _ _ _ _ _ _ hrb,hb];rfl
    have q7:T.cell? ⟨Q,7,none⟩=some (.int .i64 b.step):=by rw [cell_of_row _ _ _ _ _ _ hrb,hb];rfl
    have qz:=hrb.lt;have hus:∀ y∈us,0≤y∧y≤255:=fun y hy=>by have:=bounds_u8 (HU8.out y hy);omega
    have HUS:=hid hus;have hxn:x.n=h.n:=by rw [hx];rfl
    have X0:Hid (zap x=0):=hid (by rw [hx];exact zad4 HNN.out hrn H0.out hl12);replace HW:=hid (HW.out.trans' hE);replace HN:=hid (HN.out.ext hE);have HX:=hid hx;have HB:=hid hb;have HXN:=hid hxn;have HBN:=hid hbn;have t1:∀ W,zt W .u8 (.slice na bs.length nc) bs→Calls Tryz.prog 7 #[.int .i64 h.n,.slice na bs.length nc] W fun e w'=>∃ (f:List Int) (sv:Value),e = .returned sv∧Ext W w'∧zt w' .i64 sv f∧f.length=n:=fun W hI=>by rw [HNN.out];exact z39 n bs _ W hI hn5'
    have T1:=hid t1;clear hx hb hnn hxw hbb hbn hT hE hrp hrb hus hxn t1 hk hlt hke HT HE HT0 HEX HV HU;go_wp2_with fail;refine znn (W0:=T) (g:=⟨T,Below.refl _ _⟩) xx (T1.out _ (HN.out.ext xx)) (fun _ _ ⟨_,_,_,r,_⟩=>r) fun _ g1 hgr hr=>?_
    obtain ⟨f0,fv0,rfl,-,hf0,hfl0⟩:=hr;clear hgr;obtain ⟨fa0,fc0,rfl,-,-,-⟩:=hf0.spec;have HF0:=hid hf0;clear hf0 hfl0;go_upto_region 14 with (fail);obtain ⟨S,hS⟩:∃ zz9,zz9=(grow T g1):=⟨_,rfl⟩
    have eS:Ext T S:=by rw [hS];exact xx
    have eSc:Ext (grow T g1) S:=by rw [hS];exact xx
    replace k0:=zd eS k0;replace p0:=zd eS p0;replace p1:=zd eS p1;replace q0:=zd eS q0;replace q1:=zd eS q1;replace q2:=zd eS q2;replace q3:=zd eS q3;replace q4:=zd eS q4;replace q5:=zd eS q5;replace q6:=zd eS q6;replace q7:=zd eS q7;replace HXV:=hid (HXV.out.ext eS);replace HBK:=hid (HBK.out.ext eS);replace HN:=hid (HN.out.ext eS);replace HF0:=hid (HF0.out.ext eSc);replace HW:=hid (HW.out.trans' eS);rw [← hS];replace hz:=World.block_lt_of_cell? _ _ k0;replace pz:=World.block_lt_of_cell? _ _ p0;replace qz:=World.block_lt_of_cell? _ _ q0;clear hS eS eSc;simp only at hz pz qz;go_wp2_with fail;refine zas (W0:=S) (g:=⟨S,Below.refl _ _⟩) xx (z38 x xa xc f0 _ _ (HXV.out.ext xx) (HF0.out.ext xx)) fun g2 hgr=>?_
    clear hgr
    go_upto_if 110 with (fail)
    go_cut [13] from 25 (fun fv W=>zahw x S fv W)
    case first =>
     by_cases hc:zct x f0=0
     ·have hci:(zct x f0 != 0)=false:=by simpa using hc
      have HC:=hid hc;clear hc;go_wp2_with fail
      go_meet
      exact ⟨f0,fa0,fc0,rfl,(zagf HC.out).2,HF0.out.ext (zm S _),zm S _⟩
     ·have hci:(zct x f0 != 0)=true:=by simpa using hc
      clear hc;go_wp2_with fail;refine znn (W0:=S) (g:=g2) xx (z49 x xa xc _ (HXV.out.ext xx) X0.out) (fun _ _ ⟨_,_,r,_⟩=>r) fun _ g3 hgr hr=>?_
      obtain ⟨lv,rfl,-,hlv⟩:=hr;clear hgr;obtain ⟨la,lc,rfl,-,-,-⟩:=hlv.spec;have HLV:=hid hlv;clear hlv
      by_cases ha:zcs x=0
      ·have hai:(zcs x != 0)=false:=by simpa using ha
       have HA:=hid ha;clear ha;go_wp2_with fail
       go_meet
       exact ⟨zu7 x,la,lc,rfl,zady HA.out,HLV.out,zm S _⟩
      ·have hai:(zcs x != 0)=true:=by simpa using ha
       have hae:(zcs x == 22)=true:=by
        rw [beq_iff_eq];unfold zcs at ha ⊢
        split at ha
        ·rename_i h1
         rw [if_pos h1]
        ·exact absurd rfl ha
       clear ha;go_wp2_with fail;refine zas (W0:=S) (g:=g3) xx (zeb _) fun g4 hgr=>?_
       clear hgr;go_wp2_with fail;go_ret;exact ⟨rfl,HW.out.trans' (zm S _)⟩
    case rest =>
     obtain ⟨f,fa,fc,rfl,hfm,hfi,hES⟩:=hcut;obtain ⟨Y,rfl⟩:∃ Y,Y=wc:=⟨_,rfl⟩
     replace k0:=zd hES k0;replace p0:=zd hES p0;replace p1:=zd hES p1;replace q0:=zd hES q0;replace q1:=zd hES q1;replace q2:=zd hES q2;replace q3:=zd hES q3;replace q4:=zd hES q4;replace q5:=zd hES q5;replace q6:=zd hES q6;replace q7:=zd hES q7;replace hz:=World.block_lt_of_cell? _ _ k0;replace pz:=World.block_lt_of_cell? _ _ p0;replace qz:=World.block_lt_of_cell? _ _ q0;simp only at hz pz qz;replace HW:=hid (HW.out.trans' hES);replace HXV:=hid (HXV.out.ext hES);replace HBK:=hid (HBK.out.ext hES);have HF:=hid hfi;have HFM:Hid (f∈zcb (zi7 h r)):=hid (by rw [← HX.out];exact hfm);have HFIN:=hid (z4g HNN.out hrn HFM.out);have hfl:=zl7 HFIN.out;have HFL:=hid hfl;have hag:=zagd hfm;have t2:=fun W h1 h2=>z03 x xa xc f (.slice fa f.length fc) W h1 h2
     rw [zage hfm X0.out (by rw [HXN.out,HNN.out];omega)] at t2;have T2:=hid t2;have t3:=fun W h1=>z5b x xa xc r W h1 X0.out (by rw [HXN.out,HNN.out];omega) hag
     have hlo:loH x.n r (zcb x)=h.n:=by
      rw [HXN.out,HX.out];exact zabn fun g hg=>by rw [ztj HNN.out hrn hg,HNN.out]
     have hhi:hiH r (zcb x)=h.n:=by
      rw [HX.out];exact zahu (by rw [HNN.out];omega) (fun e=>by have:=HFM.out;rw [e] at this;cases this) fun g hg=>by rw [ztj HNN.out hrn hg,HNN.out]
     rw [hlo,hhi] at t3;have T3:=hid t3;have hbe:zai b=0:=by rw [HB.out];exact zu9 hn3 hn5' hrn HUS.out
     have hrun:(r:Int)∈za9 b∧(za9 b).length=n:=by rw [HB.out];exact zsj hn3 hn5' hrn HUS.out
     obtain ⟨hye,hse⟩:zai (za2 b r)=0∧zdb b r=0:=by rw [HB.out];exact zva hn3 hn5' hrn HUS.out
     obtain ⟨y,hy⟩:∃ y,y=za2 b r:=⟨_,rfl⟩
     rw [← hy] at hye;have t4:∀ w,zc4 w b ba bc none 0→Calls Tryz.prog 18 #[.agg #[.int .i64 b.kd,.int .i64 b.n,.slice ba b.bets.length bc,.slice none b.scr.length 0,.bool b.fav,.int .i64 b.car,.int .i64 b.duty,.int .i64 b.step],.int .i64 r] w fun e w'=>Ext w w'∧∃ ya yc ysa ysc,e = .returned (.tuple #[.agg #[.int .i64 y.kd,.int .i64 y.n,.slice ya y.bets.length yc,.slice ysa y.scr.length ysc,.bool y.fav,.int .i64 y.car,.int .i64 y.duty,.int .i64 y.step],.int .i64 0])∧zc4 w' y ya yc ysa ysc:=fun w h=>(z5a r b ba none bc 0 w h).mono fun e w' ⟨h1,h2⟩=>by
      rw [hse] at h2
      rcases h2 with ⟨h2,-⟩ | ⟨-,ya,ysa,yc,ysc,h2,h3⟩
      ·exact absurd rfl h2
      ·refine ⟨h1,ya,yc,ysa,ysc,?_,?_⟩
       ·rw [h2,hy];rfl
       ·rw [hy];exact h3
     have T4:=hid t4;have t5:=fun w h=>z01 b ba none bc 0 w h
     unfold z8h at t5;rw [if_pos hbe,hbe] at t5;obtain ⟨F,hF⟩:∃ F,F=zc5 b:=⟨_,rfl⟩
     rw [← hF] at t5;have T5:=hid t5;have HFF:=hid hF;have t6:=fun (ya ysa:Option Addr) (yc ysc:Nat) w h=>z4f y ya ysa yc ysc w h
     rw [hye] at t6;have T6:=hid t6;have HY:=hid hy;have HG5:Hid (f.length≤5):=hid (by rw [hfl];exact hn5');have qR:=fun W=>zaf4 W h.n h.n h.n h.n
     simp only [beq_self_eq_true,Bool.and_self,Bool.not_true] at qR;clear hES hfi hfm hfl hag t2 t3 t4 t5 t6 hlo hhi hbe hrun hye hse hy hF HN HF0 T1;go_wp2_with fail;refine zas (W0:=Y) (g:=⟨Y,Below.refl _ _⟩) xx (T2.out _ (HXV.out.ext xx) (HF.out.ext xx)) fun g1 hgr=>?_
     clear hgr;go_wp2_with fail;refine zas (W0:=Y) (g:=g1) xx (T3.out _ (HXV.out.ext xx)) fun g2 hgr=>?_
     clear hgr;go_upto_region 22 with (fail);obtain ⟨Z1,hZ1⟩:∃ zz9,zz9=(grow Y g2).alloc (.cells #[.int .i64 h.n,.int .i64 h.n] 54):=⟨_,rfl⟩
     have a0:Z1.cell? ⟨(grow Y g2).heap.size,0,none⟩=some (.int .i64 h.n):=by rw [hZ1];simp [go_sem]
     have a1:Z1.cell? ⟨(grow Y g2).heap.size,1,none⟩=some (.int .i64 h.n):=by rw [hZ1];simp [go_sem]
     have eZ1:Ext Y Z1:=by rw [hZ1];exact xx
     replace k0:=zd eZ1 k0;replace p0:=zd eZ1 p0;replace p1:=zd eZ1 p1;replace q0:=zd eZ1 q0;replace q1:=zd eZ1 q1;replace q2:=zd eZ1 q2;replace q3:=zd eZ1 q3;replace q4:=zd eZ1 q4;replace q5:=zd eZ1 q5;replace q6:=zd eZ1 q6;replace q7:=zd eZ1 q7;replace HXV:=hid (HXV.out.ext eZ1);replace HBK:=hid (HBK.out.ext eZ1);replace HF:=hid (HF.out.ext eZ1);replace HW:=hid (HW.out.trans' eZ1);rw [← hZ1];obtain ⟨qr,hqr⟩:∃ b,b=(grow Y g2).heap.size:=⟨_,rfl⟩
     rw [← hqr] at a0 a1 ⊢;replace hz:=World.block_lt_of_cell? _ _ k0;replace pz:=World.block_lt_of_cell? _ _ p0;replace qz:=World.block_lt_of_cell? _ _ q0;have zqr:=World.block_lt_of_cell? _ _ a0;simp only at zqr;clear hZ1 eZ1 hqr;simp only at hz pz qz;go_wp2_with fail;refine znn (W0:=Z1) (g:=⟨Z1,Below.refl _ _⟩) xx (T4.out _ (HBK.out.ext xx)) (fun _ _ h=>h.1) fun _ g3 hgr hr=>?_
     obtain ⟨-,ya,yc,ysa,ysc,rfl,hyb⟩:=hr;clear hgr;have HYB:=hid hyb;clear hyb;go_upto_region 23 with (fail);obtain ⟨Z2,hZ2⟩:∃ zz9,zz9=(grow Z1 g3).alloc (.cells #[.int .i64 y.kd,.int .i64 y.n,.slice ya y.bets.length yc,.slice ysa y.scr.length ysc,.bool y.fav,.int .i64 y.car,.int .i64 y.duty,.int .i64 y.step] 41):=⟨_,rfl⟩
     have y0:Z2.cell? ⟨(grow Z1 g3).heap.size,0,none⟩=some (.int .i64 y.kd):=by rw [hZ2];simp [go_sem]
     have y1:Z2.cell? ⟨(grow Z1 g3).heap.size,1,none⟩=some (.int .i64 y.n):=by rw [hZ2];simp [go_sem]
     have y2:Z2.cell? ⟨(grow Z1 g3).heap.size,2,none⟩=some (.slice ya y.bets.length yc):=by rw [hZ2];simp [go_sem]
     have y3:Z2.cell? ⟨(grow Z1 g3).heap.size,3,none⟩=some (.slice ysa y.scr.length ysc):=by rw [hZ2];simp [go_sem]
     have y4:Z2.cell? ⟨(grow Z1 g3).heap.size,4,none⟩=some (.bool y.fav):=by rw [hZ2];simp [go_sem]
     have y5:Z2.cell? ⟨(grow Z1 g3).heap.size,5,none⟩=some (.int .i64 y.car):=by rw [hZ2];simp [go_sem]
     have y6:Z2.cell? ⟨(grow Z1 g3).heap.size,6,none⟩=some (.int .i64 y.duty):=by rw [hZ2];simp [go_sem]
     have y7:Z2.cell? ⟨(grow Z1 g3).heap.size,7,none⟩=some (.int .i64 y.step):=by rw [hZ2];simp [go_sem]
     have eZ2:Ext Z1 Z2:=by rw [hZ2];exact xx
     have eZ2c:Ext (grow Z1 g3) Z2:=by rw [hZ2];exact xx
     replace k0:=zd eZ2 k0;replace p0:=zd eZ2 p0;replace p1:=zd eZ2 p1;replace q0:=zd eZ2 q0;replace q1:=zd eZ2 q1;replace q2:=zd eZ2 q2;replace q3:=zd eZ2 q3;replace q4:=zd eZ2 q4;replace q5:=zd eZ2 q5;replace q6:=zd eZ2 q6;replace q7:=zd eZ2 q7;replace a0:=zd eZ2 a0;replace a1:=zd eZ2 a1;replace HXV:=hid (HXV.out.ext eZ2);replace HBK:=hid (HBK.out.ext eZ2);replace HF:=hid (HF.out.ext eZ2);replace HYB:=hid (HYB.out.ext eZ2c);replace HW:=hid (HW.out.trans' eZ2);rw [← hZ2];obtain ⟨qy,hqy⟩:∃ b,b=(grow Z1 g3).heap.size:=⟨_,rfl⟩
     rw [← hqy] at y0 y1 y2 y3 y4 y5 y6 y7 ⊢;replace hz:=World.block_lt_of_cell? _ _ k0;replace pz:=World.block_lt_of_cell? _ _ p0;replace qz:=World.block_lt_of_cell? _ _ q0;replace zqr:=World.block_lt_of_cell? _ _ a0;have zqy:=World.block_lt_of_cell? _ _ y0;simp only at zqy;clear hZ2 eZ2 eZ2c hqy;simp only at hz pz qz;go_wp2_with fail;refine zas (W0:=Z2) (g:=⟨Z2,Below.refl _ _⟩) xx (T5.out _ (HBK.out.ext xx)) fun g4 hgr=>?_
     clear hgr;go_wp2_with fail;refine zas (W0:=Z2) (g:=g4) xx (T6.out _ _ _ _ _ (HYB.out.ext xx)) fun g5 hgr=>?_
     clear hgr
     by_cases hfr:F=r
     ·have f1:(F == r)=true:=by rw [beq_iff_eq];exact hfr
      clear hfr;go_wp2_with fail;refine zas (W0:=Z2) (g:=g5) xx (zeb _) fun g6 hgr=>?_
      clear hgr;go_wp2_with fail;go_ret;exact ⟨rfl,HW.out.trans' (zm Z2 _)⟩
     have f1:(F == r)=false:=by rw [beq_eq_false_iff_ne];exact hfr
     have HNF:Hid (zc5 b≠r):=hid (by rw [← HFF.out];exact hfr);clear hfr;go_wp2_with fail;refine znn (W0:=Z2) (g:=g5) xx (z4c f _ _ (HF.out.ext xx) HG5.out) (fun _ _ ⟨_,_,_,r,_⟩=>r) fun _ g7 hgr hr=>?_
     obtain ⟨gv,ps,rfl,-,hll,hps⟩:=hr;clear hgr;rw [HFL.out] at hps;have hlg:=zad5 HNN.out hrn HFM.out;obtain ⟨hfe,hfe2,hac⟩:=accH hn3 hn5' hrn HUS.out HFIN.out hlg (by rw [← HB.out];exact HNF.out);rw [← HB.out] at hfe hfe2 hac;rw [← HY.out] at hfe2 hac;obtain ⟨ds,z,hds⟩:∃ ds z,ps=ds ++ [z]:=by
      rcases List.eq_nil_or_concat ps with e | ⟨g,d,e⟩
      ·rw [e] at hps;rw [hlg] at hps;simp [zj] at hps
      ·exact ⟨g,d,by rw [e,List.concat_eq_append]⟩
     have hdf:zj ds=zbb f n (n - 1):=by
      rw [hds,hlg] at hps;have h1:zj ds ++ [z.2]=zbb f n (n - 1) ++ [[(r:Int)]]:=by rw [← hps];simp [zj]
      exact (List.append_inj' h1 rfl).1
     have hgf:=hll.fin;obtain ⟨ga,gc,rfl,hgl,hgc,-⟩:=hgf.spec;have hgd:zcz _ (.slice ga ds.length gc) ds:=zagk (by rw [hds] at hgf;exact hgf);have HG:=hid hgf;have HGD:=hid hgd;obtain ⟨A,hA⟩:∃ A,A=zjr b (zic f n):=⟨_,rfl⟩
     have t7:=fun w h1 h2=>zt7 ps (.slice ga ps.length gc) b ba none bc 0 w h1 h2
     have t8:=fun w h1 h2=>zt7 ds (.slice ga ds.length gc) y ya ysa yc ysc w h1 h2
     rw [hps,zyj hfe,← hA] at t7;rw [hdf,zyj hfe2,← hac,← hA] at t8;simp only [zel,zix] at t7 t8;have T7:=hid t7;have T8:=hid t8;have hpl:ps.length=ds.length+1:=by rw [hds];simp
     have hpl9:ps.length≤9:=by
      have h1:(zj ps).length=ps.length:=by simp [zj]
      rw [hps] at h1;have:=z8r f n n;unfold zic at h1;omega
     have HPL:=hid hpl;have HPL9:=hid hpl9;have HGC:=hid hgl;clear hll hps hlg hfe hfe2 hac hds hdf hgf hgd hA t7 t8 hpl hpl9 hgl hgc;go_wp2_with fail;refine zas (W0:=Z2) (g:=g7) xx (T7.out _ (HBK.out.ext xx) (HG.out.ext xx)) fun g8 hgr=>?_
     replace HG:=hid (HG.out.ext hgr);replace HGD:=hid (HGD.out.ext hgr);clear hgr;go_upto_region 30 with (fail);obtain ⟨Z3,hZ3⟩:∃ zz9,zz9=(grow Z2 g8).alloc (.cells #[.int .i64 A.i,.int .i64 A.k,.int .i64 A.d,.int .i64 A.p,.int .i64 A.q,.int .i64 A.o] 62):=⟨_,rfl⟩
     have b0:Z3.cell? ⟨(grow Z2 g8).heap.size,0,none⟩=some (.int .i64 A.i):=by rw [hZ3];simp [go_sem]
     have b1:Z3.cell? ⟨(grow Z2 g8).heap.size,1,none⟩=some (.int .i64 A.k):=by rw [hZ3];simp [go_sem]
     have b2:Z3.cell? ⟨(grow Z2 g8).heap.size,2,none⟩=some (.int .i64 A.d):=by rw [hZ3];simp [go_sem]
     have b3:Z3.cell? ⟨(grow Z2 g8).heap.size,3,none⟩=some (.int .i64 A.p):=by rw [hZ3];simp [go_sem]
     have b4:Z3.cell? ⟨(grow Z2 g8).heap.size,4,none⟩=some (.int .i64 A.q):=by rw [hZ3];simp [go_sem]
     have b5:Z3.cell? ⟨(grow Z2 g8).heap.size,5,none⟩=some (.int .i64 A.o):=by rw [hZ3];simp [go_sem]
     have eZ3:Ext Z2 Z3:=by rw [hZ3];exact xx
     have eZ3c:Ext (grow Z2 g8) Z3:=by rw [hZ3];exact xx
     replace k0:=zd eZ3 k0;replace p0:=zd eZ3 p0;replace p1:=zd eZ3 p1;replace q0:=zd eZ3 q0;replace q1:=zd eZ3 q1;replace q2:=zd eZ3 q2;replace q3:=zd eZ3 q3;replace q4:=zd eZ3 q4;replace q5:=zd eZ3 q5;replace q6:=zd eZ3 q6;replace q7:=zd eZ3 q7;replace a0:=zd eZ3 a0;replace a1:=zd eZ3 a1;replace y0:=zd eZ3 y0;replace y1:=zd eZ3 y1;replace y2:=zd eZ3 y2;replace y3:=zd eZ3 y3;replace y4:=zd eZ3 y4;replace y5:=zd eZ3 y5;replace y6:=zd eZ3 y6;replace y7:=zd eZ3 y7;replace HXV:=hid (HXV.out.ext eZ3);replace HBK:=hid (HBK.out.ext eZ3);replace HF:=hid (HF.out.ext eZ3);replace HYB:=hid (HYB.out.ext eZ3);replace HG:=hid (HG.out.ext eZ3c);replace HGD:=hid (HGD.out.ext eZ3c);replace HW:=hid (HW.out.trans' eZ3);rw [← hZ3];obtain ⟨qa,hqa⟩:∃ b,b=(grow Z2 g8).heap.size:=⟨_,rfl⟩
     rw [← hqa] at b0 b1 b2 b3 b4 b5 ⊢;replace hz:=World.block_lt_of_cell? _ _ k0;replace pz:=World.block_lt_of_cell? _ _ p0;replace qz:=World.block_lt_of_cell? _ _ q0;replace zqr:=World.block_lt_of_cell? _ _ a0;replace zqy:=World.block_lt_of_cell? _ _ y0;have zqa:=World.block_lt_of_cell? _ _ b0;simp only at zqa;clear hZ3 eZ3 eZ3c hqa;simp only at hz pz qz;have zy:=World.block_lt_of_cell? _ _ y0;have zb:=World.block_lt_of_cell? _ _ b0;simp only at zy zb;have hwd:IntKind.i64.wrap ((ps.length:Int) - 1)=(ds.length:Int):=by
      have h1:=HPL.out;have h2:=HPL9.out;rw [show (ps.length:Int) - 1=(ds.length:Int) by omega];exact IntWalk.i64_in _ (by omega)
     have hd1:ds.length≤ps.length:=by have:=HPL.out;omega
     have hd2:(ds.length:Int)≤(ps.length:Int):=by omega
     have hd3:ds.length≤gc:=by have:=HGC.out;omega
     have hd4:(ds.length:Int)≤(gc:Int):=by omega
     clear k0 p0 p1 q0 q1 q2 q3 q4 q5 q6 q7 a0 a1 hz pz qz;refine zdp (Z3.heap.size) (Nat.le_refl _)
      [sqV (.agg #[.int .i64 y.kd,.int .i64 y.n,.slice ya y.bets.length yc,.slice ysa y.scr.length ysc,.bool y.fav,.int .i64 y.car,.int .i64 y.duty,.int .i64 y.step]),sqV (.slice ga ps.length gc),sqV (.slice ga ps.length gc),sqV (.int .i64 ps.length),sqV (.int .i64 (ds.length:Int)),sqV (.slice ga ds.length gc),sqV (.tuple #[.agg #[.int .i64 A.i,.int .i64 A.k,.int .i64 A.d,.int .i64 A.p,.int .i64 A.q,.int .i64 A.o],.int .i64 0]),sqV (.tuple #[.agg #[.int .i64 A.i,.int .i64 A.k,.int .i64 A.d,.int .i64 A.p,.int .i64 A.q,.int .i64 A.o],.int .i64 0]),sqV (.agg #[.int .i64 A.i,.int .i64 A.k,.int .i64 A.d,.int .i64 A.p,.int .i64 A.q,.int .i64 A.o]),sqV (.int .i64 0),sqW (fun v W=>∃ p,v = .pointer (some ⟨p,0,none⟩)∧Z3.heap.size≤p∧zcj W p ⟨0,0,0,0,0,0⟩) (fun _ _ _ ⟨p,h1,h2,h3⟩ e=>⟨p,h1,h2,h3.ext e⟩),sqD [10] (fun l v W=>∃ p,l=[.pointer (some ⟨p,0,none⟩)]∧Z3.heap.size≤p∧zcj W p A) (fun _ _ _ _ ⟨p,h1,h2,h3⟩ e=>⟨p,h1,h2,h3.ext e⟩),sqV (.int .i64 0)]
      [true,true,true,true,true,true,true,true,true,true,false,false,true] [false,false,false,false,false,false,false,false,false,false,false,true,false] [true,true,true,true,true,true,true,true,true,true,false,true,true] [true,true,true,true,true,true,true,true,true,false,true,true,false]
      (by kernel_rfl) (by kernel_rfl) (by decide +kernel) (by decide +kernel) (by decide +kernel) rfl ⟨rfl,rfl⟩ ⟨?s0,?s1,?s2,?s3,?s4,?s5,?s6,?s7,?s8,?s9,?s10,?s11,?s12,trivial⟩ [some 182,some 183,some 184,some 185,some 186,some 187,some 188,some 181,some 189,some 190,some 24,none,some 19] rfl rfl ?send
     case s0 =>
      intro val ρ W hE hz hd hA hx;have o0:ρ (.tmp 18) = .pointer (some ⟨qy,0,none⟩):=hA.old 18 (by decide);have f_y0:=cell_below hE (by simp only;omega) y0;have f_y1:=cell_below hE (by simp only;omega) y1;have f_y2:=cell_below hE (by simp only;omega) y2;have f_y3:=cell_below hE (by simp only;omega) y3;have f_y4:=cell_below hE (by simp only;omega) y4;have f_y5:=cell_below hE (by simp only;omega) y5;have f_y6:=cell_below hE (by simp only;omega) y6;have f_y7:=cell_below hE (by simp only;omega) y7;clear hd;exact ze (W':=W) (by simp [execOp,o0,f_y0,f_y1,f_y2,f_y3,f_y4,f_y5,f_y6,f_y7,go_sem]) (Below.refl _ _) rfl
     case s1 =>
      intro val ρ W hE hz hd hA hx;have o0:ρ (.tmp 22) = .slice ga ps.length gc:=hA.old 22 (by decide);clear hd;exact ze (W':=W) (by simp [execOp,o0,go_sem]) (Below.refl _ _) rfl
     case s2 =>
      intro val ρ W hE hz hd hA hx;have o0:ρ (.tmp 22) = .slice ga ps.length gc:=hA.old 22 (by decide);clear hd;exact ze (W':=W) (by simp [execOp,o0,go_sem]) (Below.refl _ _) rfl
     case s3 =>
      intro val ρ W hE hz hd hA hx;have d2:ρ (.tmp 184) = .slice ga ps.length gc:=(hA.dep 2 (by decide) 184 rfl).trans (hd 2 (by decide));clear hd;exact ze (W':=W) (by simp [execOp,d2,go_sem]) (Below.refl _ _) rfl
     case s4 =>
      intro val ρ W hE hz hd hA hx;have d3:ρ (.tmp 185) = .int .i64 ps.length:=(hA.dep 3 (by decide) 185 rfl).trans (hd 3 (by decide));clear hd;exact ze (W':=W) (by simp [execOp,hA.const,d3,hwd,go_sem]) (Below.refl _ _) rfl
     case s5 =>
      intro val ρ W hE hz hd hA hx;have d1:ρ (.tmp 183) = .slice ga ps.length gc:=(hA.dep 1 (by decide) 183 rfl).trans (hd 1 (by decide));have d4:ρ (.tmp 186) = .int .i64 (ds.length:Int):=(hA.dep 4 (by decide) 186 rfl).trans (hd 4 (by decide));clear hd;exact ze (W':=W) (by simp [execOp,d1,d4,hd1,hd2,hd3,hd4,go_sem]) (Below.refl _ _) rfl
     case s6 =>
      intro val ρ W hE hz hd hA hx;have d0:ρ (.tmp 182) = .agg #[.int .i64 y.kd,.int .i64 y.n,.slice ya y.bets.length yc,.slice ysa y.scr.length ysc,.bool y.fav,.int .i64 y.car,.int .i64 y.duty,.int .i64 y.step]:=(hA.dep 0 (by decide) 182 rfl).trans (hd 0 (by decide));have d5:ρ (.tmp 187) = .slice ga ds.length gc:=(hA.dep 5 (by decide) 187 rfl).trans (hd 5 (by decide));clear hd;refine zdm 21 _ _ rfl #[.agg #[.int .i64 y.kd,.int .i64 y.n,.slice ya y.bets.length yc,.slice ysa y.scr.length ysc,.bool y.fav,.int .i64 y.car,.int .i64 y.duty,.int .i64 y.step],.slice ga ds.length gc] (hA.func _) (by simp [d0,d5]) (fun args W=>Tryz.call21 args W) ((T8.out W (HYB.out.ext hE) (HGD.out.ext hE)).mono ?_);rintro e w' ⟨rfl,hb⟩;exact ⟨_,rfl,hb,rfl⟩
     case s7 =>
      intro val ρ W hE hz hd hA hx;have d6:ρ (.tmp 188) = .tuple #[.agg #[.int .i64 A.i,.int .i64 A.k,.int .i64 A.d,.int .i64 A.p,.int .i64 A.q,.int .i64 A.o],.int .i64 0]:=(hA.dep 6 (by decide) 188 rfl).trans (hd 6 (by decide));clear hd;exact ze (W':=W) (by simp [execOp,d6,go_sem]) (Below.refl _ _) rfl
     case s8 =>
      intro val ρ W hE hz hd hA hx;have d7:ρ (.tmp 181) = .tuple #[.agg #[.int .i64 A.i,.int .i64 A.k,.int .i64 A.d,.int .i64 A.p,.int .i64 A.q,.int .i64 A.o],.int .i64 0]:=(hA.dep 7 (by decide) 181 rfl).trans (hd 7 (by decide));clear hd;exact ze (W':=W) (by simp [execOp,d7,go_sem]) (Below.refl _ _) rfl
     case s9 =>
      intro val ρ W hE hz hd hA hx;have d7:ρ (.tmp 181) = .tuple #[.agg #[.int .i64 A.i,.int .i64 A.k,.int .i64 A.d,.int .i64 A.p,.int .i64 A.q,.int .i64 A.o],.int .i64 0]:=(hA.dep 7 (by decide) 181 rfl).trans (hd 7 (by decide));clear hd;exact ze (W':=W) (by simp [execOp,d7,go_sem]) (Below.refl _ _) rfl
     case s12 =>
      intro val ρ W hE hz hd hA hx;have d9:ρ (.tmp 190) = .int .i64 0:=(hA.dep 9 (by decide) 190 rfl).trans (hd 9 (by decide));clear hd;exact ze (W':=W) (by simp [execOp,d9,go_sem]) (Below.refl _ _) rfl
     case s10 =>
      intro val ρ W hE hz hd hA hx;exact ze (W':=W.alloc (.cells (zix ⟨0,0,0,0,0,0⟩) 62)) (v:=.pointer (some ⟨W.heap.size,0,none⟩)) (by simp [execOp,zix,go_sem]) xx ⟨_,rfl,by omega,World.alloc_heap_new W _⟩
     case s11 =>
      intro val ρ W hE hz hd hA hx;obtain ⟨g,e10,hg,hr⟩:∃ p,val 10 = .pointer (some ⟨p,0,none⟩)∧Z3.heap.size≤p∧zcj W p ⟨0,0,0,0,0,0⟩:=hd 10 (by decide);have d10:ρ (.tmp 24) = .pointer (some ⟨g,0,none⟩):=(hA.dep 10 (by decide) 24 rfl).trans e10;have d8:ρ (.tmp 189) = .agg #[.int .i64 A.i,.int .i64 A.k,.int .i64 A.d,.int .i64 A.p,.int .i64 A.q,.int .i64 A.o]:=(hA.dep 8 (by decide) 189 rfl).trans (hd 8 (by decide));have c0u:=(hr).c0;have c1u:=(hr).c1;have c2u:=(hr).c2;have c3u:=(hr).c3;have c4u:=(hr).c4;have c5u:=(hr).c5;have cfu:=fun o=>(hr).fr o
      have czu:=(hr).lt;simp only at c0u c1u c2u c3u c4u c5u;clear hd;refine z98 (W':=(((((W.setCell ⟨g,0,none⟩ (.int .i64 A.i)).setCell ⟨g,1,none⟩ (.int .i64 A.k)).setCell ⟨g,2,none⟩ (.int .i64 A.d)).setCell ⟨g,3,none⟩ (.int .i64 A.p)).setCell ⟨g,4,none⟩ (.int .i64 A.q)).setCell ⟨g,5,none⟩ (.int .i64 A.o)) (by simp [execOp,d10,d8,go_sem,c0u,c1u,c2u,c3u,c4u,c5u,cfu,czu]) (((((((Below.refl _ W).setCell hg _).setCell hg _).setCell hg _).setCell hg _).setCell hg _).setCell hg _) ⟨g,by show [val 10]=_;rw [e10],hg,?_⟩;exact zl (zl (zl (zl (zl (zl hr 0 (.int .i64 A.i)) 1 (.int .i64 A.k)) 2 (.int .i64 A.d)) 3 (.int .i64 A.p)) 4 (.int .i64 A.q)) 5 (.int .i64 A.o)
     case send =>
      intro val G hE hzz hv;obtain ⟨-,-,-,-,-,-,-,-,-,-,-,r11,r12,-⟩:=hv;obtain ⟨g,e10,hg,hrG⟩:∃ p,[val 10]=[.pointer (some ⟨p,0,none⟩)]∧Z3.heap.size≤p∧zcj G p A:=r11;have q10:val 10 = .pointer (some ⟨g,0,none⟩):=by simpa using e10
      have q12:val 12 = .int .i64 0:=r12;simp only [zbq,q10,q12];go_frame;replace b0:=zd hE b0;replace b1:=zd hE b1;replace b2:=zd hE b2;replace b3:=zd hE b3;replace b4:=zd hE b4;replace b5:=zd hE b5;replace zb:=World.block_lt_of_cell? _ _ b0;simp only at zb;have c0:=hrG.c0;have c1:=hrG.c1;have c2:=hrG.c2;have c3:=hrG.c3;have c4:=hrG.c4;have c5:=hrG.c5;have zg:=hrG.lt;replace HW:=hid (HW.out.trans' hE);clear hE hzz r12 q10 q12 e10 hrG hg y0 y1 y2 y3 y4 y5 y6 y7 zy hwd hd1 hd2 hd3 hd4;have qA:=fun W=>zad8 A W
      simp only [zel,zix] at qA;go_wp2_with fail;refine zas (W0:=G) (g:=⟨G,Below.refl _ _⟩) xx (zeb _) fun g1 hgr=>?_
      clear hgr;go_wp2_with fail;go_ret;exact ⟨rfl,HW.out.trans' (zm G _)⟩
end Go.Proofs.YtdamgacabfbpjaaGreat
