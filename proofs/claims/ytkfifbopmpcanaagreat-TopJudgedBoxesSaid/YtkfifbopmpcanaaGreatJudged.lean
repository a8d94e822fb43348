/-
  The statement TopJudgedBoxes holds: of some races, on which judges agree, those can have won who can have been in the first place: they are a box, and a ticket surely wins just if it has all of it: then the box is idle beside it. For every list of races, a ticket, and finishes by numbers. No condition.
-/
import Derived.Test.YtkfifbopmpcanaaGreatLy
import Derived.Test.YtkfifbopmpcanaaGreatHc
import Derived.Test.YtkfifbopmpcanaaGreatXd
import Derived.Test.YtkfifbopmpcanaaGreatBc
namespace Go.Proofs.YtkfifbopmpcanaaGreat
open Go.RowKit Go.Shelf
attribute [local go_sem] Oper.semAt_some
theorem z5r {w:World} {sa:Option Addr} {n cap:Nat} {l:List (Value × Rc)} (h:IsRcs w (.slice sa n cap) l) {i:Nat} (hi:i < l.length):∃ sb off,sa=some ⟨sb,off,none⟩∧∀ W,Ext w W→W.cell? ⟨sb,off+i * 2,none⟩=some (.int .i64 l[i].2.n)∧W.cell? ⟨sb,off+i * 2+1,none⟩=some l[i].1:=by
 obtain ⟨_,_,e0,-,-,hc⟩:=h.spec
 cases e0
 rcases hc with h0 | ⟨sb,off,rfl,hc⟩
 ·rw [h0] at hi;simp at hi
 ·exact ⟨sb,off,rfl,fun W e=>⟨zh e (hc i hi).1,zh e (hc i hi).2⟩⟩
theorem zx5 {w:World} {sa:Option Addr} {n cap:Nat} {l:List Int} (h:IsInts w .i64 (.slice sa n cap) l) {i:Nat} (hi:i < l.length):∃ sb off,sa=some ⟨sb,off,none⟩∧∀ i,i < l.length→∀ W,Ext w W→W.cell? ⟨sb,off+i,none⟩=some (.int .i64 (pl l i)):=by
 obtain ⟨_,_,e0,-,-,hc⟩:=h.spec
 cases e0
 rcases hc with h0 | ⟨sb,off,rfl,hc⟩
 ·rw [h0] at hi;simp at hi
 ·refine ⟨sb,off,rfl,fun i hi W e=>?_⟩
  have c0:=zh e (hc i hi)
  rw [c0,pl,List.getD_eq_getElem?_getD,List.getElem?_eq_getElem hi]
  rfl
theorem zon {w:World} {ops:Array Oper} {rest:List Oper} {o:Oper} {a:Act} {Q:Exit→Act→World→Prop} (hgd:o.guard=none) (s x:Operand) {t:TypeId}
  (ho:o.op = .call { callee:=.builtin .append,args:=#[s,x],argTypes:=#[t,t] }) {vs vx v':Value} {w':World} (hs:a.eval s=vs) (hx:a.eval x=vx) (hrun:(Builtin.append_ #[t,t] o.type #[vs,vx]).run Tryz.prog w = .ok v' w')
  (h:wpList Tryz.prog ops Q rest (a.put o.dst v') w'):wpList Tryz.prog ops Q (o :: rest) a w :=
 wpList_plain hgd fun K hK=>by
  unfold Oper.wp execOp
  simp only [ho,resolve,invoke,builtin,Sem.run_bind,Sem.run_pure,Result.andThen_ok,List.map_toArray,List.map_cons,List.map_nil,hs,hx,hrun]
  exact hK _ _ h
def LitK (B:Nat) (x:Int) (v:Value) (W:World):Prop:=∃ b,v = .slice (some ⟨b,0,none⟩) 1 1∧B≤b∧W.cell? ⟨b,0,none⟩=some (.int .i64 x)
theorem LitK.ext {B:Nat} {x:Int} {v:Value} {W W':World} (h:LitK B x v W) (e:Ext W W'):LitK B x v W':=by
 obtain ⟨b,h1,h2,h3⟩:=h
 exact ⟨b,h1,h2,zh e h3⟩
theorem LitK.kept {B:Nat} {x:Int} {v:Value} {W W':World} {K:Nat→Prop} (hK:∀ k,K k→k < B) (h:LitK B x v W) (e:Kept (fun k=>¬ K k) W W'):LitK B x v W':=by
 obtain ⟨b,h1,h2,h3⟩:=h
 exact ⟨b,h1,h2,e.cell h3 fun hk=>by have:=hK _ hk;simp only at this;omega⟩
theorem LitK.rows {B:Nat} {x:Int} {v:Value} {W:World} (h:LitK B x v W):∃ b,v = .slice (some ⟨b,0,none⟩) 1 1∧RowsAt W 1 b 0 [[.int .i64 x]]:=by
 obtain ⟨b,h1,h2,h3⟩:=h
 refine ⟨b,h1,zqm (r:=[.int .i64 x]) fun j hj=>?_⟩
 match j,hj with
 | 0,_=>simpa using h3
def ApK (X:World) (B:Nat) (o:Value) (rows:List (List Value)) (x:Int) (v:Value) (W:World):Prop:=Owns W B 3 1 v (rows ++ [[.int .i64 x]])∧Kept (fun k=>some k≠o.ownBlock) X W∧∀ g,v.ownBlock=some g→o.ownBlock=some g∨X.heap.size≤g
theorem ApK.ext {X:World} {B:Nat} {o:Value} {rows:List (List Value)} {x:Int} {v:Value} {W W':World} (h:ApK X B o rows x v W) (e:Ext W W'):ApK X B o rows x v W':=⟨h.1.ext e,h.2.1.trans (Kept.of_below e),h.2.2⟩
def BothK (X:World) (B:Nat) (a b:Value) (ra rb:List (List Value)) (x y:Int) (l:List Value) (v:Value) (W:World):Prop :=
 Owns W B 3 1 (l.headD undef) (ra ++ [[.int .i64 x]])∧Owns W B 3 1 v (rb ++ [[.int .i64 y]])∧Kept (fun k=>some k≠a.ownBlock∧some k≠b.ownBlock) X W ∧
  (∀ g,(l.headD undef).ownBlock=some g→a.ownBlock=some g∨X.heap.size≤g)∧(∀ g,v.ownBlock=some g→b.ownBlock=some g∨X.heap.size≤g)∧∀ g,(l.headD undef).ownBlock=some g→v.ownBlock≠some g
theorem BothK.ext {X:World} {B:Nat} {a b:Value} {ra rb:List (List Value)} {x y:Int} {l:List Value} {v:Value} {W W':World} (h:BothK X B a b ra rb x y l v W) (e:Ext W W'):BothK X B a b ra rb x y l v W' :=
 ⟨h.1.ext e,h.2.1.ext e,h.2.2.1.trans (Kept.of_below e),h.2.2.2⟩
def FinW (n:Nat) (v:Value) (W:World):Prop:=∃ (f:List Int) (fa:Option Addr) (fc:Nat),v = .slice fa f.length fc∧f.length=n∧IsInts W .i64 v f
theorem FinW.ext {n:Nat} {v:Value} {W W':World} (h:FinW n v W) (e:Ext W W'):FinW n v W':=by
 obtain ⟨f,fa,fc,h1,h2,h3⟩:=h
 exact ⟨f,fa,fc,h1,h2,h3.ext e⟩
def tri3 {α:Type} (a b c:α) (i:Nat):α:=if i=0 then a else if i=1 then b else c
set_option maxRecDepth 200000 in
set_option maxHeartbeats 16000000 in
theorem zno (rv:Value) (l:List (Value × Rc)) (s0 s1 s2:Int) (va vb vc:Value) (b0 b1 b2:List Int) (w:World) (hl:IsRcs w rv l) (w0:(Lit.int .u8 s0).wf=true) (w1:(Lit.int .u8 s1).wf=true) (w2:(Lit.int .u8 s2).wf=true) (ha:IsInts w .u8 va b0) (hb:IsInts w .u8 vb b1) (hc:IsInts w .u8 vc b2) :
  Calls Tryz.prog 4 #[rv,.agg #[.int .u8 s0,.int .u8 s1,.int .u8 s2],.agg #[va,vb,vc]] w fun e w'=>e = .returned (.bool true)∧Ext w w':=by
 obtain ⟨la,lc,rfl,hlc1,hlc2,-⟩:=hl.spec
 obtain ⟨aa,ac,rfl,-,-,-⟩:=ha.spec
 obtain ⟨ba,bc,rfl,-,-,-⟩:=hb.spec
 obtain ⟨ca,cc,rfl,-,-,-⟩:=hc.spec
 obtain ⟨p0,p1⟩:=bounds_u8 w0
 obtain ⟨p2,p3⟩:=bounds_u8 w1
 obtain ⟨p4,p5⟩:=bounds_u8 w2
 have HL:=Lib.hid hl
 have HA:=Lib.hid ha
 have HB:=Lib.hid hb
 have HC:=Lib.hid hc
 clear hl ha hb hc w0 w1 w2
 go_enter Tryz.func4,Tryz.ntmps4
 go_upto_region 1 with (fail)
 obtain ⟨V0,hV0⟩:∃ V0,V0=(w.alloc (.cells #[.int .u8 s0,.int .u8 s1,.int .u8 s2] 60)).alloc (.cells #[.slice aa b0.length ac,.slice ba b1.length bc,.slice ca b2.length cc] 62):=⟨_,rfl⟩
 have hE0:Ext w V0:=by rw [hV0];exact xx
 have hz0:V0.heap.size=w.heap.size+2:=by rw [hV0];simp
 have HW:=Lib.hid hE0
 rw [← hV0]
 by_cases h1:l.length < 1
 ·have hli:decide ((l.length:Int) < 1)=true:=by rw [decide_eq_true_eq];omega
  have hli2:(l.length:Int) < 1:=by omega
  clear h1 hV0 hE0 hz0
  go_wp2_with fail
  refine za0 (W0:=V0) (g:=⟨V0,Below.refl _ _⟩) xx (zc6 _) fun g1 hgr=>?_
  clear hgr
  go_wp2_with fail
  go_ret
  exact ⟨rfl,HW.out.trans' (zu V0 _)⟩
 have hli:¬ ((l.length:Int) < 1):=by omega
 by_cases h3:3 < l.length
 ·have hli2:(3:Int) < (l.length:Int):=by omega
  have hli3:decide ((3:Int) < (l.length:Int))=true:=decide_eq_true hli2
  clear h1 h3 hV0 hE0 hz0
  go_wp2_with fail
  refine za0 (W0:=V0) (g:=⟨V0,Below.refl _ _⟩) xx (zc6 _) fun g1 hgr=>?_
  clear hgr
  go_wp2_with fail
  go_ret
  exact ⟨rfl,HW.out.trans' (zu V0 _)⟩
 have hli2:¬ ((3:Int) < (l.length:Int)):=by omega
 have hli3:decide ((3:Int) < (l.length:Int))=false:=decide_eq_false hli2
 have HLN:Hid (1≤l.length∧l.length≤3):=Lib.hid ⟨by omega,by omega⟩
 obtain ⟨S,hS⟩:∃ S:Nat→Int,S=tri3 s0 s1 s2:=⟨_,rfl⟩
 obtain ⟨A,hA⟩:∃ A:Nat→Option Addr,A=tri3 aa ba ca:=⟨_,rfl⟩
 obtain ⟨C,hC⟩:∃ C:Nat→Nat,C=tri3 ac bc cc:=⟨_,rfl⟩
 obtain ⟨L,hL⟩:∃ L:Nat→List Int,L=tri3 b0 b1 b2:=⟨_,rfl⟩
 have HSB:Hid (∀ i,i < 3→0≤S i∧S i≤255):=Lib.hid fun i hi=>by
  rw [hS]
  match i,hi with
  | 0,_=>simp only [tri3];simp;omega
  | 1,_=>simp only [tri3];simp;omega
  | 2,_=>simp only [tri3];simp;omega
 have HLI:Hid (∀ i,i < 3→IsInts w .u8 (.slice (A i) (L i).length (C i)) (L i)):=Lib.hid fun i hi=>by
  rw [hA,hC,hL]
  match i,hi with
  | 0,_=>exact HA.out
  | 1,_=>exact HB.out
  | 2,_=>exact HC.out
 have HKS0:Hid (∀ i,i < 3→V0.cell? ⟨w.heap.size,i,none⟩=some (.int .u8 (S i))):=Lib.hid fun i hi=>by
  rw [hS,hV0]
  match i,hi with
  | 0,_=>simp [go_sem,tri3]
  | 1,_=>simp [go_sem,tri3]
  | 2,_=>simp [go_sem,tri3]
 have HKB0:Hid (∀ i,i < 3→V0.cell? ⟨w.heap.size+1,i,none⟩=some (.slice (A i) (L i).length (C i))):=Lib.hid fun i hi=>by
  rw [hA,hC,hL,hV0]
  match i,hi with
  | 0,_=>simp [go_sem,tri3]
  | 1,_=>simp [go_sem,tri3]
  | 2,_=>simp [go_sem,tri3]
 clear hS hA hC hL hV0 HA HB HC p0 p1 p2 p3 p4 p5
 go_upto_region 5 with (fail)
 obtain ⟨W0,hW0⟩:∃ W0,W0=((V0.alloc (.cells #[.slice none 0 0] 30)).alloc (.cells #[.slice none 0 0,.int .i64 1] 33)).alloc (.cells #[.slice none 0 0,.int .i64 1] 33):=⟨_,rfl⟩
 have hE1:Ext V0 W0:=by rw [hW0];exact xx
 obtain ⟨Q,hQ⟩:∃ Q,Q=w.heap.size:=⟨_,rfl⟩
 have hT0:TriJ W0 Q W0 (.slice none 0 0) (.slice none 0 0) (.slice none 0 0) [] [] []:=by
  have g2:(V0.alloc (.cells #[.slice none 0 0] 30)).heap[Q+2]? = some (.cells #[.slice none 0 0] 30 (0,0)):=by
   have:=World.alloc_heap_new V0 (.cells #[.slice none 0 0] 30)
   rwa [hz0,← hQ] at this
  have g3:((V0.alloc (.cells #[.slice none 0 0] 30)).alloc (.cells #[.slice none 0 0,.int .i64 1] 33)).heap[Q+3]? = some (.cells #[.slice none 0 0,.int .i64 1] 33 (0,0)):=by
   have:=World.alloc_heap_new (V0.alloc (.cells #[.slice none 0 0] 30)) (.cells #[.slice none 0 0,.int .i64 1] 33)
   rwa [World.size_alloc,hz0,← hQ] at this
  have g4:W0.heap[Q+4]? = some (.cells #[.slice none 0 0,.int .i64 1] 33 (0,0)):=by
   have:=World.alloc_heap_new ((V0.alloc (.cells #[.slice none 0 0] 30)).alloc (.cells #[.slice none 0 0,.int .i64 1] 33)) (.cells #[.slice none 0 0,.int .i64 1] 33)
   rw [World.size_alloc,World.size_alloc,hz0,← hQ] at this
   rw [hW0]
   exact this
  have e2:Ext (V0.alloc (.cells #[.slice none 0 0] 30)) W0:=by rw [hW0];exact xx
  have e3:Ext ((V0.alloc (.cells #[.slice none 0 0] 30)).alloc (.cells #[.slice none 0 0,.int .i64 1] 33)) W0:=by rw [hW0];exact xx
  exact ⟨by rw [hW0];simp;omega,(e2.block _ (by simp;omega)).trans g2,(e3.block _ (by simp;omega)).trans g3,g4,Owns.nil _ _ _ _,Owns.nil _ _ _ _,Owns.nil _ _ _ _,fun g hg=>(by cases hg),fun g hg=>(by cases hg),Kept.refl _ _⟩
 have HKS:Hid (∀ i,i < 3→W0.cell? ⟨Q,i,none⟩=some (.int .u8 (S i))):=Lib.hid fun i hi=>by rw [hQ];exact zh hE1 (HKS0.out i hi)
 have HKB:Hid (∀ i,i < 3→W0.cell? ⟨Q+1,i,none⟩=some (.slice (A i) (L i).length (C i))):=Lib.hid fun i hi=>by rw [hQ];exact zh hE1 (HKB0.out i hi)
 have HEW:Hid (Ext w W0):=Lib.hid (hE0.trans' hE1)
 have HQ:=Lib.hid hQ.symm
 have HT0:=Lib.hid hT0
 rw [← hW0]
 rw [← hQ]
 clear hW0 hE1 hT0 HKS0 HKB0 hE0 hz0 hQ HW h1 h3
 go_wp2_with fail
 go_loopw [10,11] (fun hv iv W=>∃ (i:Nat) (c t f:Value),i≤l.length∧iv = .int .i64 i∧hv = .bool (hasJ l S i)∧(∀ j,j < i→OkJ l j)∧TriJ W0 Q W c t f ((List.range i).map (nJ l)) ((List.range i).map (oJ l S)) ((List.range i).map (fJ l))) (fun _ iv _=>l.length - (intOf iv).toNat)
 case atStart=>exact ⟨0,_,_,_,by omega,rfl,rfl,fun j h=>by omega,HT0.out⟩
 case round =>
  obtain ⟨i,c,t,f,hi,rfl,rfl,hok,hT⟩:=hrel
  obtain ⟨X,rfl⟩:∃ X,X=wr:=⟨_,rfl⟩
  have HOK:=Lib.hid hok
  have HT:=Lib.hid hT
  have HWX:=Lib.hid (hT.up HQ.out HEW.out)
  obtain ⟨hs,hhs⟩:∃ hs,hs=hasJ l S i:=⟨_,rfl⟩
  rw [← hhs]
  have HHS:=Lib.hid hhs
  clear hok hT hhs
  by_cases hlt:i < l.length
  ·have hii:(i:Int) < (l.length:Int):=by omega
   have hi3:i < 3:=by have:=HLN.out;omega
   have hi3i:(i:Int) < 3:=by omega
   obtain ⟨lb,lo,rfl,hcl⟩:=z5r HL.out hlt
   obtain ⟨m0,m1⟩:=hcl X HWX.out
   have hwd0:=HL.out.ws _ (List.getElem_mem hlt)
   obtain ⟨sa,cap,hsv,-,-,-⟩:=hwd0.spec
   have hrc:rcJ l i=l[i].2:=z8q hlt
   rw [← hrc] at m0 hwd0 hsv
   rw [hsv] at m1 hwd0
   obtain ⟨h,hh⟩:∃ h,h=rcJ l i:=⟨_,rfl⟩
   rw [← hh] at m0 m1 hwd0
   have HH:=Lib.hid hh
   have zm:=World.block_lt_of_cell? _ _ m0
   simp only at zm
   have HV0:=Lib.hid hwd0
   clear hcl hsv hrc hh hwd0
   go_upto_region 10 with (fail)
   obtain ⟨W1,hW1⟩:∃ W1,W1=X.alloc (.cells #[.int .i64 h.n,.slice sa h.ws.length cap] 65):=⟨_,rfl⟩
   have hE1:Ext X W1:=by rw [hW1];exact xx
   have k0:W1.cell? ⟨X.heap.size,0,none⟩=some (.int .i64 h.n):=by rw [hW1];simp [go_sem]
   have k1:W1.cell? ⟨X.heap.size,1,none⟩=some (.slice sa h.ws.length cap):=by rw [hW1];simp [go_sem]
   obtain ⟨p,hp⟩:∃ p,p=X.heap.size:=⟨_,rfl⟩
   rw [← hW1]
   rw [← hp] at k0 k1 ⊢
   have hz:=World.block_lt_of_cell? _ _ k0
   simp only at hz
   have HT1:=Lib.hid (HT.out.ext hE1)
   have HW1:=Lib.hid (HWX.out.trans' hE1)
   have HV:=Lib.hid (HV0.out.ext HW1.out)
   have HP:=Lib.hid hp
   have kb:=HT1.out.low (by omega) (HKB.out i hi3)
   have zb:=World.block_lt_of_cell? _ _ kb
   simp only at zb
   clear hW1 hE1 hp m0 m1 zm HT HWX HV0
   by_cases hw20:20 < h.ws.length
   ·have hwi:(20:Int) < (h.ws.length:Int):=by omega
    have hwd:decide ((20:Int) < (h.ws.length:Int))=true:=decide_eq_true hwi
    clear hw20
    go_wp2_with fail
    refine za0 (W0:=W1) (g:=⟨W1,Below.refl _ _⟩) xx (zc6 _) fun g1 hgr=>?_
    clear hgr
    go_wp2_with fail
    go_ret
    exact ⟨rfl,HW1.out.trans' (zu W1 _)⟩
   have hwi:¬ ((20:Int) < (h.ws.length:Int)):=by omega
   have hwd:decide ((20:Int) < (h.ws.length:Int))=false:=decide_eq_false hwi
   clear hw20
   go_wp2_with fail
   refine za0 (W0:=W1) (g:=⟨W1,Below.refl _ _⟩) xx (z0o h sa cap _ (HV.out.ext xx)) fun g2 hgr=>?_
   clear hgr
   by_cases h0:zaw h=0
   case neg =>
    have hci:(zaw h != 0)=true:=by simpa using h0
    clear h0
    go_wp2_with fail
    refine za0 (W0:=W1) (g:=g2) xx (zc6 _) fun g3 hgr=>?_
    clear hgr
    go_wp2_with fail
    go_ret
    exact ⟨rfl,HW1.out.trans' (zu W1 _)⟩
   have hci:(zaw h != 0)=false:=by simpa using h0
   have V:=Lib.hid (zlt h0)
   have H0:=Lib.hid h0
   clear h0
   by_cases hb20:20 < (L i).length
   ·have hbi:(20:Int) < ((L i).length:Int):=by omega
    have hbd:decide ((20:Int) < ((L i).length:Int))=true:=decide_eq_true hbi
    clear hb20
    go_wp2_with fail
    refine za0 (W0:=W1) (g:=g2) xx (zc6 _) fun g4 hgr=>?_
    clear hgr
    go_wp2_with fail
    go_ret
    exact ⟨rfl,HW1.out.trans' (zu W1 _)⟩
   have hbi:¬ ((20:Int) < ((L i).length:Int)):=by omega
   have hbd:decide ((20:Int) < ((L i).length:Int))=false:=decide_eq_false hbi
   clear hb20
   obtain ⟨n,hn⟩:∃ n:Nat,h.n=n:=⟨h.n.toNat,by have:=V.out.n1;omega⟩
   have hn2:2≤n:=by have:=V.out.n1;omega
   have hn5:n≤5:=by have:=V.out.n5;omega
   have HN:=Lib.hid hn
   clear hn
   go_upto_region 14 with (fail)
   obtain ⟨Y,hY⟩:∃ zz9,zz9=(grow W1 g2):=⟨_,rfl⟩
   have eY:Ext W1 Y:=by rw [hY];exact xx
   replace k0:=zh eY k0
   replace k1:=zh eY k1
   replace kb:=zh eY kb
   replace HV:=Lib.hid (HV.out.ext eY)
   replace HT1:=Lib.hid (HT1.out.ext eY)
   replace HW1:=Lib.hid (HW1.out.trans' eY)
   rw [← hY]
   replace hz:=World.block_lt_of_cell? _ _ k0
   replace zb:=World.block_lt_of_cell? _ _ kb
   replace HT1:=Lib.hid HT1.out
   clear hY eY
   simp only at hz zb
   have HTY:=Lib.hid (show TriJ W0 Q Y c t f ((List.range i).map (nJ l)) ((List.range i).map (oJ l S)) ((List.range i).map (fJ l)) from HT1.out)
   clear kb zb
   go_wp2_with fail
   go_loopw [13,14] (fun fv rv W=>∃ r:Nat,r≤n∧rv = .int .i64 r∧fv = .int .i64 (zci (canJ h) r:Nat)∧(0 < r→zbc h=0)∧Ext Y W) (fun _ rv _=>n - (intOf rv).toNat)
   case atStart=>exact ⟨0,by omega,rfl,rfl,fun h=>by omega,Below.refl _ _⟩
   case round =>
    obtain ⟨r,hr,rfl,rfl,hag,hE⟩:=hrel
    obtain ⟨R,rfl⟩:∃ R,R=wr:=⟨_,rfl⟩
    replace k0:=zh hE k0
    replace k1:=zh hE k1
    replace hz:=World.block_lt_of_cell? _ _ k0
    simp only at hz
    have HER:=Lib.hid hE
    have HAG:=Lib.hid hag
    have HVR:=Lib.hid (HV.out.ext hE)
    have HWR:=Lib.hid (HW1.out.trans' hE)
    obtain ⟨fm,hfm⟩:∃ fm,fm=zci (canJ h) r:=⟨_,rfl⟩
    have hml:fm < 2 ^ r:=by rw [hfm];exact zoj _ _
    have hmr:2 ^ r≤2 ^ 5:=Nat.pow_le_pow_right (by omega) (by omega)
    have hm32:fm≤31:=by
     have:2 ^ 5=32:=by decide
     omega
    have hms:=z0r h r
    rw [← hfm] at hms
    rw [← hfm]
    have HFM:=Lib.hid hfm
    clear hE hag hfm hml hmr
    by_cases hlr:r < n
    ·have hri:(r:Int) < h.n:=by have:=HN.out;omega
     have hpl:=z0m h sa cap r 1 R HVR.out H0.out (by omega) hri (by omega) (by have:=HN.out;omega)
     simp only [Int.toNat_natCast] at hpl
     obtain ⟨K,hK⟩:∃ K,K=zf0 h fun f=>decide (pl f r≤1):=⟨_,rfl⟩
     have hcan:canJ h r=(K != 0):=by rw [hK];rfl
     rw [← hK] at hpl
     rw [hcan] at hms
     clear hK hcan
     by_cases ha:zbc h=0
     ·rw [ha] at hpl
      have HPL:=Lib.hid hpl
      have HA0:=Lib.hid ha
      clear hpl ha
      go_wp2_with fail
      refine HPL.out.mono ?_
      rintro e R2 ⟨rfl,hE2⟩
      have HE2:=Lib.hid (HER.out.trans' hE2)
      clear hE2 k0 k1 hz HPL
      by_cases hk:K=0
      ·have hk0:(K != 0)=false:=by simpa using hk
       rw [hk0] at hms
       have HMS:Hid (zci (canJ h) (r+1)=fm):=Lib.hid (by rw [hms];simp)
       clear hk hms
       go_wp2_with fail
       go_roundw
       case rel=>exact ⟨r+1,by omega,by go_num,by rw [HMS.out],fun _=>HA0.out,HE2.out⟩
       case measure=>simp [intOf];omega
      ·have hk0:(K != 0)=true:=by simpa using hk
       rw [hk0] at hms
       obtain ⟨q1,q2,q3⟩:=bshl (n:=r) (by omega)
       obtain ⟨P,hP⟩:∃ P:Nat,P=2 ^ r:=⟨_,rfl⟩
       rw [← hP] at q1 q2 q3 hms
       have HMS:Hid (zci (canJ h) (r+1)=fm+P):=Lib.hid (by rw [hms];simp)
       have hwp:IntKind.i64.wrap ((fm:Int)+(P:Int))=((fm+P:Nat):Int):=by
        rw [show (fm:Int)+(P:Int)=((fm+P:Nat):Int) by simp]
        exact IntWalk.i64_in _ (by omega)
       have hmin:min r 64=r:=by omega
       clear hk hms hP q2 q3
       go_wp2_with fail
       go_roundw
       case rel=>exact ⟨r+1,by omega,by go_num,by rw [HMS.out];simp,fun _=>HA0.out,HE2.out⟩
       case measure=>simp [intOf];omega
     ·have h22:zbc h=22:=by
       unfold zbc at ha ⊢
       split
       ·rfl
       ·rename_i h9
        rw [if_neg h9] at ha
        exact absurd rfl ha
      have hem:agrL h=[]:=by
       unfold zbc at ha
       split at ha
       ·rename_i h9
        exact List.eq_nil_of_length_eq_zero h9
       ·exact absurd rfl ha
      rw [h22] at hpl
      have HPL:=Lib.hid hpl
      have HEM:=Lib.hid hem
      clear hpl ha h22 hem hms
      go_wp2_with fail
      refine za0 (W0:=R) (g:=⟨R,Below.refl _ _⟩) xx (HPL.out) fun g1 hgr=>?_
      clear hgr
      go_wp2_with fail
      refine za0 (W0:=R) (g:=g1) xx (zsk h sa cap _ (HVR.out.ext xx) H0.out HEM.out) fun g2 hgr=>?_
      clear hgr
      go_wp2_with fail
      refine za0 (W0:=R) (g:=g2) xx (zc6 _) fun g3 hgr=>?_
      clear hgr
      go_wp2_with fail
      go_ret
      exact ⟨rfl,HWR.out.trans' (zu R _)⟩
    ·have hri:¬ ((r:Int) < h.n):=by have:=HN.out;omega
     have hrn:r=n:=by omega
     have HA0:Hid (zbc h=0):=Lib.hid (HAG.out (by omega))
     have HF1:Hid (fm=zeh h n):=Lib.hid (by rw [HFM.out,hrn];rfl)
     have HTR:=Lib.hid (HTY.out.ext HER.out)
     have kb:=HTR.out.low (by omega) (HKB.out i hi3)
     have zb:=World.block_lt_of_cell? _ _ kb
     simp only at zb
     have hfin:∀ W,Ext R W→Calls Tryz.prog 20 #[.int .i64 h.n,.slice (A i) (L i).length (C i)] W fun e w'=>∃ v,e = .returned v∧Ext W w'∧FinW n v w':=fun W hW=>by
      rw [HN.out]
      refine (zwy n (L i) _ W ((HTR.out.ints HQ.out HEW.out (HLI.out i hi3)).ext hW) hn5).mono ?_
      rintro e w' ⟨f,sv,rfl,hE,hI,hfl⟩
      obtain ⟨fa,fc,rfl,-,-,-⟩:=hI.spec
      exact ⟨_,rfl,hE,f,fa,fc,rfl,hfl,hI⟩
     have HFIN:=Lib.hid hfin
     clear hfin hms hrn hlr hr HAG
     go_upto_region 21 with (fail)
     refine zl9 rfl rfl (by kernel_rfl) (R.heap.size) (Nat.le_refl _)
      [sqV (.pointer (some ⟨p,0,none⟩)),sqV (.int .i64 h.n),sqV (.int .i64 i),sqV (.pointer (some ⟨Q+1,i,none⟩)),sqV (.slice (A i) (L i).length (C i)),sqW (fun v W=>FinW n v W) (fun _ _ _ h e=>h.ext e)]
      [true,true,true,true,true,false] [false,false,false,false,false,false] [true,true,true,true,true,true] [true,true,true,true,true,true]
      (by kernel_rfl) (by kernel_rfl) (by decide +kernel) (by decide +kernel) (by decide +kernel) rfl ⟨rfl,rfl⟩ ⟨?s0,?s1,?s2,?s3,?s4,?s5,trivial⟩ [some 93,some 94,some 95,some 96,some 97,some 98] rfl rfl ?send
     case s0 =>
      intro val ρ W hE hz hd hA hx
      have o0:ρ (.tmp 12) = .pointer (some ⟨p,0,none⟩):=hA.old 12 (by decide)
      clear hd
      exact ze (W':=W) (by simp [execOp,o0,go_sem]) (Below.refl _ _) rfl
     case s1 =>
      intro val ρ W hE hz hd hA hx
      have d0:ρ (.tmp 93) = .pointer (some ⟨p,0,none⟩):=(hA.dep 0 (by decide) 93 rfl).trans (hd 0 (by decide))
      have f_k0:=cell_below hE (by simp only;omega) k0
      clear hd
      exact ze (W':=W) (by simp [execOp,d0,f_k0,go_sem]) (Below.refl _ _) rfl
     case s2 =>
      intro val ρ W hE hz hd hA hx
      have o0:ρ (.tmp 11) = .int .i64 i:=hA.old 11 (by decide)
      clear hd
      exact ze (W':=W) (by simp [execOp,o0,go_sem]) (Below.refl _ _) rfl
     case s3 =>
      intro val ρ W hE hz hd hA hx
      have d2:ρ (.tmp 95) = .int .i64 i:=(hA.dep 2 (by decide) 95 rfl).trans (hd 2 (by decide))
      have o0:ρ (.tmp 5) = .pointer (some ⟨Q+1,0,none⟩):=hA.old 5 (by decide)
      clear hd
      exact ze (W':=W) (by simp [execOp,d2,o0,hi3i,go_sem]) (Below.refl _ _) rfl
     case s4 =>
      intro val ρ W hE hz hd hA hx
      have d3:ρ (.tmp 96) = .pointer (some ⟨Q+1,i,none⟩):=(hA.dep 3 (by decide) 96 rfl).trans (hd 3 (by decide))
      have f_kb:=cell_below hE (by simp only;omega) kb
      clear hd
      exact ze (W':=W) (by simp [execOp,d3,f_kb,go_sem]) (Below.refl _ _) rfl
     case s5 =>
      intro val ρ W hE hz hd hA hx
      have d1:ρ (.tmp 94) = .int .i64 h.n:=(hA.dep 1 (by decide) 94 rfl).trans (hd 1 (by decide))
      have d4:ρ (.tmp 97) = .slice (A i) (L i).length (C i):=(hA.dep 4 (by decide) 97 rfl).trans (hd 4 (by decide))
      refine zbo 20 _ _ rfl #[.int .i64 h.n,.slice (A i) (L i).length (C i)] (hA.func _) (by simp [d1,d4]) (fun args W=>Tryz.call20 args W) ((HFIN.out W (hx (by decide))).mono ?_)
      rintro e w' ⟨v,rfl,hb,hv⟩
      exact ⟨_,rfl,hb,hv⟩
     case send =>
      intro val Z hE hzz hv
      obtain ⟨-,-,-,-,-,⟨f2,fa,fc,e5,hfl,hfi⟩,-⟩:=hv
      simp only [putD,e5]
      go_frame
      rw [e5] at hfi
      replace k0:=zh hE k0
      replace k1:=zh hE k1
      replace hz:=World.block_lt_of_cell? _ _ k0
      simp only at hz
      have HTZ:=Lib.hid (HTR.out.ext hE)
      have HVZ:=Lib.hid (HVR.out.ext hE)
      have HWZ:=Lib.hid (HWR.out.trans' hE)
      obtain ⟨fb,fo,rfl,hfc⟩:=zx5 hfi (i:=0) (by omega)
      have K0Z:=Lib.hid k0
      have HFC:=Lib.hid hfc
      have HFI:=Lib.hid hfi
      have HFL:=Lib.hid hfl
      clear hE hzz e5 hfl hfi hfc kb zb HFIN
      go_wp2_with fail
      go_loopw [18] (fun rv W=>∃ r:Nat,r≤n∧rv = .int .i64 r∧Ext Z W) (fun rv _=>n - (intOf rv).toNat)
      case atStart=>exact ⟨0,by omega,rfl,Below.refl _ _⟩
      case round =>
       obtain ⟨r2,hr,rfl,hE⟩:=hrel
       obtain ⟨U,rfl⟩:∃ U,U=wr:=⟨_,rfl⟩
       replace k0:=zh hE k0
       replace k1:=zh hE k1
       replace hz:=World.block_lt_of_cell? _ _ k0
       simp only at hz
       have HEU:=Lib.hid hE
       have HVU:=Lib.hid (HVZ.out.ext hE)
       have HFU:=Lib.hid (HFI.out.ext hE)
       clear hE
       by_cases hlr:r2 < n
       ·have hri2:(r2:Int) < h.n:=by have:=HN.out;omega
        have hck:=zww h sa cap f2 (.slice (some ⟨fb,fo,none⟩) f2.length fc) U HVU.out HFU.out
        obtain ⟨ce,hce⟩:∃ ce,ce=zfc h f2:=⟨_,rfl⟩
        rw [← hce] at hck
        have HCK:=Lib.hid hck
        have HCE:=Lib.hid hce
        clear hck hce
        go_wp2_with fail
        refine HCK.out.mono ?_
        rintro e T ⟨rfl,hE2⟩
        have HET:=Lib.hid (HEU.out.trans' hE2)
        clear hE2
        by_cases hck:ce=0
        ·have hckb:(ce == 0)=true:=by rw [beq_iff_eq];exact hck
         have hfa:f2∈agrL h:=z45 (by rw [← HCE.out];exact hck)
         have cx:=HFC.out r2 (by have:=HFL.out;omega) T HET.out
         have zx:=World.block_lt_of_cell? _ _ cx
         simp only at zx
         obtain ⟨x,hx⟩:∃ x,x=pl f2 r2:=⟨_,rfl⟩
         rw [← hx] at cx
         have hrf:r2 < f2.length:=by have:=HFL.out;omega
         have hrfi:(r2:Int) < (f2.length:Int):=by omega
         by_cases hx1:x=1
         ·have hxb:(x == 1)=true:=by rw [beq_iff_eq];exact hx1
          have htb:fm.testBit r2=true:=by
           rw [HF1.out]
           exact z3b hlr (zza hfa (by rw [← hx];exact hx1))
          have hbit:=zxb fm r2 (by omega)
          rw [htb] at hbit
          simp only [if_true] at hbit
          clear hck hfa hx hx1 htb
          go_wp2_with fail
          go_roundw
          case rel=>exact ⟨r2+1,by omega,by go_num,HET.out⟩
          case measure=>simp [intOf];omega
         ·have hxb:(x == 1)=false:=by rw [beq_eq_false_iff_ne];exact hx1
          clear hck hfa hx hx1
          go_wp2_with fail
          go_roundw
          case rel=>exact ⟨r2+1,by omega,by go_num,HET.out⟩
          case measure=>simp [intOf];omega
        ·have hckb:(ce == 0)=false:=by rw [beq_eq_false_iff_ne];exact hck
         clear hck
         have HTT:=Lib.hid (HTZ.out.ext HET.out)
         have HNJ:Hid (nJ l i=n):=Lib.hid (by unfold nJ;rw [← HH.out,HN.out];rfl)
         have kn:=zh HET.out K0Z.out
         rw [HN.out] at kn
         have zn:=World.block_lt_of_cell? _ _ kn
         simp only at zn
         have ks:=HTT.out.low (by omega) (HKS.out i hi3)
         have zs:=World.block_lt_of_cell? _ _ ks
         simp only at zs
         have hsb:=HSB.out i hi3
         obtain ⟨s,hs⟩:∃ s,s=S i:=⟨_,rfl⟩
         rw [← hs] at ks hsb
         have hws:IntKind.i64.wrap s=s:=IntWalk.i64_in _ (by omega)
         obtain ⟨q1,q2,q3⟩:=bshl (n:=n) (by omega)
         have hob:=zw3 s (n:=n) (by omega)
         have hot:=zw4 (s:=s) (n:=n) hsb.1 (by omega)
         have hn4:2 ^ 2≤2 ^ n:=Nat.pow_le_pow_right (by omega) hn2
         obtain ⟨N,hN⟩:∃ N:Nat,N=2 ^ n:=⟨_,rfl⟩
         rw [← hN] at q1 q2 q3 hob hot hn4
         obtain ⟨M,hM⟩:∃ M:Nat,N=M+1:=⟨N - 1,by omega⟩
         have hsub:IntKind.i64.wrap ((N:Int) - 1)=(M:Int):=by rw [show (N:Int) - 1=(M:Int) by omega];exact IntWalk.i64_in _ (by omega)
         rw [show N - 1=M by omega] at hob hot
         obtain ⟨ow,how⟩:∃ ow,ow=ownJ s n:=⟨_,rfl⟩
         rw [← how] at hob hot
         have HOW:Hid (ow=oJ l S i):=Lib.hid (by unfold oJ;rw [HNJ.out,← hs];exact how)
         have HFJ:Hid (fm=fJ l i):=Lib.hid (by unfold fJ;rw [HNJ.out,← HH.out];exact HF1.out)
         obtain ⟨md,hmd⟩:∃ md,md=s.tmod (M:Int):=⟨_,rfl⟩
         rw [← hmd] at hot
         have htm:=hmd.symm
         have hwow:IntKind.i64.wrap (1+md)=(ow:Int):=by rw [hot];exact IntWalk.i64_in _ (by omega)
         have hM1:¬ (M=0):=by omega
         have how64:ow≤64:=by omega
         clear hs hN hM how hmd hob hot hn4 q2 q3 hsb hlr
         go_upto_region 27 with (fail)
         refine zbb (T.heap.size) (Nat.le_refl _)
          [sqV (.int .i64 i),sqV (.pointer (some ⟨Q,i,none⟩)),sqV (.int .u8 s),sqV (.int .i64 s),sqV (.pointer (some ⟨p,0,none⟩)),sqV (.int .i64 n),sqV (.int .i64 N),sqV (.int .i64 M),sqV (.int .i64 md),sqV (.int .i64 ow),sqV (.int .i64 ow)]
          [true,true,true,true,true,true,true,true,true,true,true] [false,false,false,false,false,false,false,false,false,false,false] [true,true,true,true,true,true,true,true,true,true,true] [true,true,true,true,true,true,true,true,true,true,true]
          (by kernel_rfl) (by kernel_rfl) (by decide +kernel) (by decide +kernel) (by decide +kernel) rfl ⟨rfl,rfl⟩ ⟨?s0,?s1,?s2,?s3,?s4,?s5,?s6,?s7,?s8,?s9,?s10,trivial⟩ [some 123,some 124,some 125,some 126,some 127,some 128,some 129,some 130,some 131,some 132,some 19] rfl rfl ?send
         case s0 =>
          intro val ρ W hE hz hd hA hx
          have o0:ρ (.tmp 11) = .int .i64 i:=hA.old 11 (by decide)
          clear hd
          exact ze (W':=W) (by simp [execOp,o0,go_sem]) (Below.refl _ _) rfl
         case s1 =>
          intro val ρ W hE hz hd hA hx
          have d0:ρ (.tmp 123) = .int .i64 i:=(hA.dep 0 (by decide) 123 rfl).trans (hd 0 (by decide))
          have o0:ρ (.tmp 4) = .pointer (some ⟨Q,0,none⟩):=hA.old 4 (by decide)
          clear hd
          exact ze (W':=W) (by simp [execOp,d0,o0,hi3i,go_sem]) (Below.refl _ _) rfl
         case s2 =>
          intro val ρ W hE hz hd hA hx
          have d1:ρ (.tmp 124) = .pointer (some ⟨Q,i,none⟩):=(hA.dep 1 (by decide) 124 rfl).trans (hd 1 (by decide))
          have f_ks:=cell_below hE (by simp only;omega) ks
          clear hd
          exact ze (W':=W) (by simp [execOp,d1,f_ks,go_sem]) (Below.refl _ _) rfl
         case s3 =>
          intro val ρ W hE hz hd hA hx
          have d2:ρ (.tmp 125) = .int .u8 s:=(hA.dep 2 (by decide) 125 rfl).trans (hd 2 (by decide))
          clear hd
          exact ze (W':=W) (by simp [execOp,d2,hws,go_sem]) (Below.refl _ _) rfl
         case s4 =>
          intro val ρ W hE hz hd hA hx
          have o0:ρ (.tmp 12) = .pointer (some ⟨p,0,none⟩):=hA.old 12 (by decide)
          clear hd
          exact ze (W':=W) (by simp [execOp,o0,go_sem]) (Below.refl _ _) rfl
         case s5 =>
          intro val ρ W hE hz hd hA hx
          have d4:ρ (.tmp 127) = .pointer (some ⟨p,0,none⟩):=(hA.dep 4 (by decide) 127 rfl).trans (hd 4 (by decide))
          have f_kn:=cell_below hE (by simp only;omega) kn
          clear hd
          exact ze (W':=W) (by simp [execOp,d4,f_kn,go_sem]) (Below.refl _ _) rfl
         case s6 =>
          intro val ρ W hE hz hd hA hx
          have d5:ρ (.tmp 128) = .int .i64 n:=(hA.dep 5 (by decide) 128 rfl).trans (hd 5 (by decide))
          clear hd
          exact ze (W':=W) (by simp [execOp,hA.const,d5,q1,go_sem]) (Below.refl _ _) rfl
         case s7 =>
          intro val ρ W hE hz hd hA hx
          have d6:ρ (.tmp 129) = .int .i64 N:=(hA.dep 6 (by decide) 129 rfl).trans (hd 6 (by decide))
          clear hd
          exact ze (W':=W) (by simp [execOp,hA.const,d6,hsub,go_sem]) (Below.refl _ _) rfl
         case s8 =>
          intro val ρ W hE hz hd hA hx
          have d3:ρ (.tmp 126) = .int .i64 s:=(hA.dep 3 (by decide) 126 rfl).trans (hd 3 (by decide))
          have d7:ρ (.tmp 130) = .int .i64 M:=(hA.dep 7 (by decide) 130 rfl).trans (hd 7 (by decide))
          clear hd
          exact ze (W':=W) (by simp [execOp,d3,d7,htm,hM1,go_sem]) (Below.refl _ _) rfl
         case s9 =>
          intro val ρ W hE hz hd hA hx
          have d8:ρ (.tmp 131) = .int .i64 md:=(hA.dep 8 (by decide) 131 rfl).trans (hd 8 (by decide))
          clear hd
          exact ze (W':=W) (by simp [execOp,hA.const,d8,hwow,go_sem]) (Below.refl _ _) rfl
         case s10 =>
          intro val ρ W hE hz hd hA hx
          have d9:ρ (.tmp 132) = .int .i64 ow:=(hA.dep 9 (by decide) 132 rfl).trans (hd 9 (by decide))
          clear hd
          exact ze (W':=W) (by simp [execOp,d9,go_sem]) (Below.refl _ _) rfl
         case send =>
          intro val V9 hE hzz hv
          obtain ⟨-,-,-,-,-,-,-,-,-,-,r10,-⟩:=hv
          have q10:val 10 = .int .i64 ow:=r10
          simp only [putD,q10]
          go_frame
          replace kn:=zh hE kn
          replace zn:=World.block_lt_of_cell? _ _ kn
          simp only at zn
          have HT9:=Lib.hid (HTT.out.ext hE)
          have hand:=zgc ow fm (by omega) (by omega)
          obtain ⟨z,hz9⟩:∃ z,z=ow &&& fm:=⟨_,rfl⟩
          rw [← hz9] at hand
          obtain ⟨q,hq⟩:∃ q,((z:Int) == (fm:Int))=q:=⟨_,rfl⟩
          have hsc:=ztu l S i
          rw [← HHS.out,← HOW.out,← HFJ.out,← hz9,show (z == fm)=q by rw [← hq,Bool.eq_iff_iff];simp;omega] at hsc
          clear hE hzz r10 q10 ks zs hws hsub hwow hM1 htm hz9 q1
          cases hs
          ·have HQ9:Hid (hasJ l S (i+1)=false):=Lib.hid (by rw [hsc];rfl)
           clear hsc hand hq
           obtain ⟨cn,ca9,ccap,hcv⟩:=HT9.out.oc.isSlice
           obtain ⟨tn,ta9,tcap,htv⟩:=HT9.out.ot.isSlice
           obtain ⟨fn,fa9,fcap,hfv⟩:=HT9.out.of.isSlice
           subst hcv htv hfv
           have cc9:=HT9.out.cc
           have cfr:=HT9.out.fc 0
           have cz:=HT9.out.lt
           have hqz:Q+2 < V9.heap.size:=by omega
           have ho9:=HT9.out.oc.ext (xx:Ext V9 (V9.alloc (.cells #[.int .i64 (n:Int)] 3)))
           obtain ⟨c',W9,hrun,h2,h3,h4⟩:=zcr elInt 23 (Q+5) ho9 V9.heap.size 0 1 [[.int .i64 (n:Int)]] (by simp) (zep _ [.int .i64 (n:Int)] _ _ _ rfl rfl) (by simp [Value.oneCell']) (by simp [natL];omega) (by simp;omega)
           obtain ⟨cn2,ca2,ccap2,hcv2⟩:=h2.isSlice
           subst hcv2
           have hTa:=HT9.out.ext (xx:Ext V9 (V9.alloc (.cells #[.int .i64 (n:Int)] 3)))
           have hTC:=hTa.putC h2 h3 h4
           have hlowc:∀ j,j < Q+5→some j≠(Value.slice cn ca9 ccap).ownBlock:=fun j hj e=>by have:=(HT9.out.oc.notOwn j e.symm).1;omega
           have ccw:=h3.cell hTa.cc (hlowc _ (by simp only;omega))
           have cfw:W9.frozen? ⟨Q+2,0,none⟩=false:=(h3.frozen (p:=⟨Q+2,0,none⟩) (by simp;omega) (hlowc _ (by simp only;omega))).trans (hTa.fc 0)
           have czw:Q+2 < W9.heap.size:=by have:=h3.size;simp at this;omega
           have HTC:=Lib.hid hTC
           clear ho9 h2 h3 h4 hTa hTC hlowc
           go_upto_region 30 with (at_builtin;refine zon rfl (.tmp 142) (.tmp 145) rfl rfl rfl hrun ?_)
           clear hrun cc9 cfr
           obtain ⟨X1,hX1⟩:∃ X1,X1=W9.setCell ⟨Q+2,0,none⟩ (.slice cn2 ca2 ccap2):=⟨_,rfl⟩
           rw [← hX1]
           rw [← hX1] at HTC
           clear hX1 ccw cfw czw
           have ct:=HTC.out.ct
           have cf:=HTC.out.cf
           have hXs:=HTC.out.size
           have hKB:∀ k,(some k=(Value.slice tn ta9 tcap).ownBlock∨some k=(Value.slice fn fa9 fcap).ownBlock)→Q+5≤k∧k < X1.heap.size:=fun k hk=>hk.elim (fun hk=>HTC.out.ot.notOwn k hk.symm) (fun hk=>HTC.out.of.notOwn k hk.symm)
           have HKB9:=Lib.hid hKB
           clear hKB
           obtain ⟨rt,hrt⟩:∃ rt,rt=(natL ((List.range i).map (oJ l S))).map iRow:=⟨_,rfl⟩
           have hot:=HTC.out.ot
           rw [← hrt] at hot
           have HOT:=Lib.hid hot
           have hrl:rt.length≤3:=by rw [hrt];simp [natL];omega
           have HRT:=Lib.hid hrt
           clear hot hrt
           obtain ⟨rf,hrf9⟩:∃ rf,rf=(natL ((List.range i).map (fJ l))).map iRow:=⟨_,rfl⟩
           have hof:=HTC.out.of
           rw [← hrf9] at hof
           have HOF:=Lib.hid hof
           have hrfl:rf.length≤3:=by rw [hrf9];simp [natL];omega
           have HRF:=Lib.hid hrf9
           clear hof hrf9
           refine zbt (Kb:=fun k=>some k=(Value.slice tn ta9 tcap).ownBlock∨some k=(Value.slice fn fa9 fcap).ownBlock) 11 rfl (by kernel_rfl) (Q+5) (fun k hk=>(HKB9.out k hk).1) hXs
            [sqVK (.pointer (some ⟨Q+3,0,none⟩)),sqVK (.slice tn ta9 tcap),sqVK (.int .i64 ow),
            sqHK (LitK X1.heap.size ow) (fun _ _ _ h e=>h.ext e) (fun _ _ _ h e=>h.kept (fun k hk=>(HKB9.out k hk).2) e),
            sqWK (ApK X1 (Q+5) (.slice tn ta9 tcap) rt ow) (fun _ _ _ h e=>h.ext e),
            sqVK (.pointer (some ⟨Q+4,0,none⟩)),sqVK (.slice fn fa9 fcap),sqVK (.int .i64 fm),
            sqHK (LitK X1.heap.size fm) (fun _ _ _ h e=>h.ext e) (fun _ _ _ h e=>h.kept (fun k hk=>(HKB9.out k hk).2) e),
            sqDK [4] (BothK X1 (Q+5) (.slice tn ta9 tcap) (.slice fn fa9 fcap) rt rf ow fm) (fun _ _ _ _ h e=>h.ext e),
            sqVK (.pointer (some ⟨Q+3,0,none⟩))]
            [true,true,true,true,false,true,true,true,true,false,true] [false,false,false,false,true,false,false,false,false,true,false] [true,true,true,true,false,true,true,true,true,true,true] [true,true,true,true,true,false,false,false,false,false,false]
            (by kernel_rfl) (by kernel_rfl) [[],[],[],[],[],[],[],[],[],[4],[]] rfl (by decide +kernel) (by decide +kernel) (by decide +kernel) rfl ⟨rfl,rfl⟩ ⟨?s0,?s1,?s2,?s3,?s4,?s5,?s6,?s7,?s8,?s9,?s10,trivial⟩ [some 148,some 149,some 150,some 151,some 152,some 153,some 154,some 155,some 156,some 157,some 158] rfl rfl ?send
           case s0 =>
            intro val ρ W hE hz hd hA hx
            have o0:ρ (.tmp 8) = .pointer (some ⟨Q+3,0,none⟩):=hA.old 8 (by decide)
            exact zw (W':=W) (by simp [execOp,o0,go_sem]) (Below.refl _ _) rfl
           case s1 =>
            intro val ρ W hE hz hd hA hx
            have d0:ρ (.tmp 148) = .pointer (some ⟨Q+3,0,none⟩):=(hA.dep 0 (by decide) 148 rfl).trans (hd 0 (List.mem_append_left _ (by decide)))
            have f_ct:=cell_below hE (by simp only;omega) ct
            exact zw (W':=W) (by simp [execOp,d0,f_ct,go_sem]) (Below.refl _ _) rfl
           case s2 =>
            intro val ρ W hE hz hd hA hx
            have o0:ρ (.tmp 19) = .int .i64 ow:=hA.old 19 (by decide)
            exact zw (W':=W) (by simp [execOp,o0,go_sem]) (Below.refl _ _) rfl
           case s3 =>
            intro val ρ W hE hz hd hA hx
            have d2:ρ (.tmp 150) = .int .i64 ow:=(hA.dep 2 (by decide) 150 rfl).trans (hd 2 (List.mem_append_left _ (by decide)))
            exact zw (W':=W.alloc (.cells #[.int .i64 (ow:Int)] 3)) (v:=.slice (some ⟨W.heap.size,0,none⟩) 1 1) (by simp [execOp,d2,go_sem]) xx ⟨W.heap.size,rfl,hz,by simp [go_sem]⟩
           case s4 =>
            intro val ρ W hE hz hd hA hx
            have d1:ρ (.tmp 149) = .slice tn ta9 tcap:=(hA.dep 1 (by decide) 149 rfl).trans (hd 1 (List.mem_append_left _ (by decide)))
            obtain ⟨b',e3,hl3⟩:=LitK.rows (hd 3 (List.mem_append_left _ (by decide)))
            have d3:ρ (.tmp 151) = .slice (some ⟨b',0,none⟩) 1 1:=(hA.dep 3 (by decide) 151 rfl).trans e3
            have hW:=hx (by decide)
            obtain ⟨v',w',hrun,h2,h3,h4⟩:=zcr elInt 23 (Q+5) (HOT.out.ext hW) b' 0 1 [[.int .i64 (ow:Int)]] (by simp) hl3 (by simp [Value.oneCell']) (by simp;omega) (by omega)
            refine zb1 (.tmp 149) (.tmp 151) rfl rfl _ _ d1 d3 hrun (h3.mono fun k _ hk e=>hk (.inl e)) ⟨h2,(Kept.of_below hW).trans h3,fun g hg=>(h4 g hg).imp id fun h=>Nat.le_trans hW.size h⟩
           case s5 =>
            intro val ρ W hE hz hd hA hx
            have o0:ρ (.tmp 9) = .pointer (some ⟨Q+4,0,none⟩):=hA.old 9 (by decide)
            exact zw (W':=W) (by simp [execOp,o0,go_sem]) (Below.refl _ _) rfl
           case s6 =>
            intro val ρ W hE hz hd hA hx
            have d5:ρ (.tmp 153) = .pointer (some ⟨Q+4,0,none⟩):=(hA.dep 5 (by decide) 153 rfl).trans (hd 5 (List.mem_append_left _ (by decide)))
            have f_cf:=cell_below hE (by simp only;omega) cf
            exact zw (W':=W) (by simp [execOp,d5,f_cf,go_sem]) (Below.refl _ _) rfl
           case s7 =>
            intro val ρ W hE hz hd hA hx
            have o0:ρ (.tmp 13) = .int .i64 fm:=hA.old 13 (by decide)
            exact zw (W':=W) (by simp [execOp,o0,go_sem]) (Below.refl _ _) rfl
           case s8 =>
            intro val ρ W hE hz hd hA hx
            have d7:ρ (.tmp 155) = .int .i64 fm:=(hA.dep 7 (by decide) 155 rfl).trans (hd 7 (List.mem_append_left _ (by decide)))
            exact zw (W':=W.alloc (.cells #[.int .i64 (fm:Int)] 3)) (v:=.slice (some ⟨W.heap.size,0,none⟩) 1 1) (by simp [execOp,d7,go_sem]) xx ⟨W.heap.size,rfl,hz,by simp [go_sem]⟩
           case s9 =>
            intro val ρ W hE hz hd hA hx
            have d6:ρ (.tmp 154) = .slice fn fa9 fcap:=(hA.dep 6 (by decide) 154 rfl).trans (hd 6 (List.mem_append_left _ (by decide)))
            obtain ⟨b',e8,hl8⟩:=LitK.rows (hd 8 (List.mem_append_left _ (by decide)))
            have d8:ρ (.tmp 156) = .slice (some ⟨b',0,none⟩) 1 1:=(hA.dep 8 (by decide) 156 rfl).trans e8
            have r4:ApK X1 (Q+5) (.slice tn ta9 tcap) rt ow (val 4) W:=hd 4 (List.mem_append_right _ (List.Mem.head _))
            obtain ⟨p1,p2,p3⟩:=r4
            have hfo:Owns W (Q+5) 3 1 (.slice fn fa9 fcap) rf:=HOF.out.keptAt p2 (fun g _ _ h1 _ e=>HTC.out.d2 g e.symm h1)
            obtain ⟨f9,W8,hrun,g2,g3,g4⟩:=zcr elInt 23 (Q+5) hfo b' 0 1 [[.int .i64 (fm:Int)]] (by simp) hl8 (by simp [Value.oneCell']) (by simp;omega) (by omega)
            refine zb1 (.tmp 154) (.tmp 156) rfl rfl _ _ d6 d8 hrun (g3.mono fun k _ hk e=>hk (.inr e)) ?_
            have hof:=fun g (hg:(Value.slice fn fa9 fcap).ownBlock=some g)=>HTC.out.of.notOwn g hg
            refine ⟨p1.keptAt g3 (fun g _ _ h1 _ e=>?_),g2,(p2.mono fun k _ h=>h.1).trans (g3.mono fun k _ h=>h.2),p3,fun g hg=>(g4 g hg).imp id fun h=>Nat.le_trans hz h,fun g h1 h2=>?_⟩
            ·rcases p3 g h1 with h | h
             ·exact HTC.out.d2 g h e.symm
             ·have:=(hof g e.symm).2;omega
            ·rcases g4 g h2 with h | h
             ·rcases p3 g h1 with h5 | h5
              ·exact HTC.out.d2 g h5 h
              ·have:=(hof g h).2;omega
             ·have:=(p1.notOwn g h1).2;omega
           case s10 =>
            intro val ρ W hE hz hd hA hx
            have o0:ρ (.tmp 8) = .pointer (some ⟨Q+3,0,none⟩):=hA.old 8 (by decide)
            exact zw (W':=W) (by simp [execOp,o0,go_sem]) (Below.refl _ _) rfl
           case send =>
            intro val WW hE hzz hv
            obtain ⟨-,-,-,-,-,-,-,-,-,r9,r10,-⟩:=hv
            have q10:val 10 = .pointer (some ⟨Q+3,0,none⟩):=r10
            have r9:BothK X1 (Q+5) (.slice tn ta9 tcap) (.slice fn fa9 fcap) rt rf ow fm [val 4] (val 9) WW:=r9
            obtain ⟨p1,p2,p3,p4,p5,p6⟩:=r9
            have p1:Owns WW (Q+5) 3 1 (val 4) (rt ++ [[.int .i64 (ow:Int)]]):=p1
            have p4:∀ g,(val 4).ownBlock=some g→(Value.slice tn ta9 tcap).ownBlock=some g∨X1.heap.size≤g:=p4
            have p6:∀ g,(val 4).ownBlock=some g→(val 9).ownBlock≠some g:=p6
            obtain ⟨tn2,ta2,tcap2,e4⟩:=p1.isSlice
            obtain ⟨fn2,fa2,fcap2,e9⟩:=p2.isSlice
            rw [e4] at p1 p4 p6
            rw [e9] at p2 p5 p6
            rw [HRT.out] at p1
            rw [HRF.out] at p2
            have hTF:=HTC.out.putTF p1 p2 p3 p4 p5 p6
            have hlow:∀ j,j < Q+5→some j≠(Value.slice tn ta9 tcap).ownBlock∧some j≠(Value.slice fn fa9 fcap).ownBlock:=fun j hj=>⟨fun e=>by have:=(HTC.out.ot.notOwn j e.symm).1;omega,fun e=>by have:=(HTC.out.of.notOwn j e.symm).1;omega⟩
            have hX4:=HTC.out.lt
            have ct2:=p3.cell ct (hlow _ (by simp only;omega))
            have cf2:=p3.cell cf (hlow _ (by simp only;omega))
            have zt2:WW.frozen? ⟨Q+3,0,none⟩=false:=(p3.frozen (p:=⟨Q+3,0,none⟩) (by simp only;omega) (hlow _ (by simp only;omega))).trans (HTC.out.ft 0)
            have zf2:WW.frozen? ⟨Q+4,0,none⟩=false:=(p3.frozen (p:=⟨Q+4,0,none⟩) (by simp only;omega) (hlow _ (by simp only;omega))).trans (HTC.out.ff 0)
            have hz4:Q+4 < WW.heap.size:=by omega
            have hz3:Q+3 < WW.heap.size:=by omega
            have hokn:OkJ l i:=⟨by rw [← HH.out,HNJ.out];exact HN.out,by rw [HNJ.out];exact hn2,by rw [HNJ.out];exact hn5,by rw [← HH.out];exact HA0.out⟩
            have HTF:Hid (TriJ W0 Q ((WW.setCell ⟨Q+3,0,none⟩ (.slice tn2 ta2 tcap2)).setCell ⟨Q+4,0,none⟩ (.slice fn2 fa2 fcap2)) (.slice cn2 ca2 ccap2) (.slice tn2 ta2 tcap2) (.slice fn2 fa2 fcap2) ((List.range (i+1)).map (nJ l)) ((List.range (i+1)).map (oJ l S)) ((List.range (i+1)).map (fJ l))):=Lib.hid (by
             rw [za9,za9,za9,HNJ.out,← HOW.out,← HFJ.out]
             exact hTF)
            have HOK2:Hid (∀ j,j < i+1→OkJ l j):=Lib.hid fun j hj=>by
             by_cases e:j=i
             ·rw [e];exact hokn
             ·exact HOK.out j (by omega)
            simp only [putD,e4,e9,q10]
            go_frame
            clear hE hzz e4 e9 r10 q10 p1 p2 p3 p4 p5 p6 hTF hlow hokn ct cf hXs hrl hrfl kn zn
            go_wp2_with fail
            go_roundw
            case rel=>exact ⟨i+1,_,_,_,by omega,by go_num,by rw [HQ9.out],HOK2.out,HTF.out⟩
            case measure=>simp [intOf];omega
          ·have HQ9:Hid (hasJ l S (i+1)=q):=Lib.hid (by rw [hsc];simp)
           clear hsc
           obtain ⟨cn,ca9,ccap,hcv⟩:=HT9.out.oc.isSlice
           obtain ⟨tn,ta9,tcap,htv⟩:=HT9.out.ot.isSlice
           obtain ⟨fn,fa9,fcap,hfv⟩:=HT9.out.of.isSlice
           subst hcv htv hfv
           have cc9:=HT9.out.cc
           have cfr:=HT9.out.fc 0
           have cz:=HT9.out.lt
           have hqz:Q+2 < V9.heap.size:=by omega
           have ho9:=HT9.out.oc.ext (xx:Ext V9 (V9.alloc (.cells #[.int .i64 (n:Int)] 3)))
           obtain ⟨c',W9,hrun,h2,h3,h4⟩:=zcr elInt 23 (Q+5) ho9 V9.heap.size 0 1 [[.int .i64 (n:Int)]] (by simp) (zep _ [.int .i64 (n:Int)] _ _ _ rfl rfl) (by simp [Value.oneCell']) (by simp [natL];omega) (by simp;omega)
           obtain ⟨cn2,ca2,ccap2,hcv2⟩:=h2.isSlice
           subst hcv2
           have hTa:=HT9.out.ext (xx:Ext V9 (V9.alloc (.cells #[.int .i64 (n:Int)] 3)))
           have hTC:=hTa.putC h2 h3 h4
           have hlowc:∀ j,j < Q+5→some j≠(Value.slice cn ca9 ccap).ownBlock:=fun j hj e=>by have:=(HT9.out.oc.notOwn j e.symm).1;omega
           have ccw:=h3.cell hTa.cc (hlowc _ (by simp only;omega))
           have cfw:W9.frozen? ⟨Q+2,0,none⟩=false:=(h3.frozen (p:=⟨Q+2,0,none⟩) (by simp;omega) (hlowc _ (by simp only;omega))).trans (hTa.fc 0)
           have czw:Q+2 < W9.heap.size:=by have:=h3.size;simp at this;omega
           have HTC:=Lib.hid hTC
           clear ho9 h2 h3 h4 hTa hTC hlowc
           go_upto_region 30 with (at_builtin;refine zon rfl (.tmp 142) (.tmp 145) rfl rfl rfl hrun ?_)
           clear hrun cc9 cfr
           obtain ⟨X1,hX1⟩:∃ X1,X1=W9.setCell ⟨Q+2,0,none⟩ (.slice cn2 ca2 ccap2):=⟨_,rfl⟩
           rw [← hX1]
           rw [← hX1] at HTC
           clear hX1 ccw cfw czw
           have ct:=HTC.out.ct
           have cf:=HTC.out.cf
           have hXs:=HTC.out.size
           have hKB:∀ k,(some k=(Value.slice tn ta9 tcap).ownBlock∨some k=(Value.slice fn fa9 fcap).ownBlock)→Q+5≤k∧k < X1.heap.size:=fun k hk=>hk.elim (fun hk=>HTC.out.ot.notOwn k hk.symm) (fun hk=>HTC.out.of.notOwn k hk.symm)
           have HKB9:=Lib.hid hKB
           clear hKB
           obtain ⟨rt,hrt⟩:∃ rt,rt=(natL ((List.range i).map (oJ l S))).map iRow:=⟨_,rfl⟩
           have hot:=HTC.out.ot
           rw [← hrt] at hot
           have HOT:=Lib.hid hot
           have hrl:rt.length≤3:=by rw [hrt];simp [natL];omega
           have HRT:=Lib.hid hrt
           clear hot hrt
           obtain ⟨rf,hrf9⟩:∃ rf,rf=(natL ((List.range i).map (fJ l))).map iRow:=⟨_,rfl⟩
           have hof:=HTC.out.of
           rw [← hrf9] at hof
           have HOF:=Lib.hid hof
           have hrfl:rf.length≤3:=by rw [hrf9];simp [natL];omega
           have HRF:=Lib.hid hrf9
           clear hof hrf9
           refine zbt (Kb:=fun k=>some k=(Value.slice tn ta9 tcap).ownBlock∨some k=(Value.slice fn fa9 fcap).ownBlock) 11 rfl (by kernel_rfl) (Q+5) (fun k hk=>(HKB9.out k hk).1) hXs
            [sqVK (.pointer (some ⟨Q+3,0,none⟩)),sqVK (.slice tn ta9 tcap),sqVK (.int .i64 ow),
            sqHK (LitK X1.heap.size ow) (fun _ _ _ h e=>h.ext e) (fun _ _ _ h e=>h.kept (fun k hk=>(HKB9.out k hk).2) e),
            sqWK (ApK X1 (Q+5) (.slice tn ta9 tcap) rt ow) (fun _ _ _ h e=>h.ext e),
            sqVK (.pointer (some ⟨Q+4,0,none⟩)),sqVK (.slice fn fa9 fcap),sqVK (.int .i64 fm),
            sqHK (LitK X1.heap.size fm) (fun _ _ _ h e=>h.ext e) (fun _ _ _ h e=>h.kept (fun k hk=>(HKB9.out k hk).2) e),
            sqDK [4] (BothK X1 (Q+5) (.slice tn ta9 tcap) (.slice fn fa9 fcap) rt rf ow fm) (fun _ _ _ _ h e=>h.ext e),
            sqVK (.pointer (some ⟨Q+3,0,none⟩))]
            [true,true,true,true,false,true,true,true,true,false,true] [false,false,false,false,true,false,false,false,false,true,false] [true,true,true,true,false,true,true,true,true,true,true] [true,true,true,true,true,false,false,false,false,false,false]
            (by kernel_rfl) (by kernel_rfl) [[],[],[],[],[],[],[],[],[],[4],[]] rfl (by decide +kernel) (by decide +kernel) (by decide +kernel) rfl ⟨rfl,rfl⟩ ⟨?s0,?s1,?s2,?s3,?s4,?s5,?s6,?s7,?s8,?s9,?s10,trivial⟩ [some 148,some 149,some 150,some 151,some 152,some 153,some 154,some 155,some 156,some 157,some 158] rfl rfl ?send
           case s0 =>
            intro val ρ W hE hz hd hA hx
            have o0:ρ (.tmp 8) = .pointer (some ⟨Q+3,0,none⟩):=hA.old 8 (by decide)
            exact zw (W':=W) (by simp [execOp,o0,go_sem]) (Below.refl _ _) rfl
           case s1 =>
            intro val ρ W hE hz hd hA hx
            have d0:ρ (.tmp 148) = .pointer (some ⟨Q+3,0,none⟩):=(hA.dep 0 (by decide) 148 rfl).trans (hd 0 (List.mem_append_left _ (by decide)))
            have f_ct:=cell_below hE (by simp only;omega) ct
            exact zw (W':=W) (by simp [execOp,d0,f_ct,go_sem]) (Below.refl _ _) rfl
           case s2 =>
            intro val ρ W hE hz hd hA hx
            have o0:ρ (.tmp 19) = .int .i64 ow:=hA.old 19 (by decide)
            exact zw (W':=W) (by simp [execOp,o0,go_sem]) (Below.refl _ _) rfl
           case s3 =>
            intro val ρ W hE hz hd hA hx
            have d2:ρ (.tmp 150) = .int .i64 ow:=(hA.dep 2 (by decide) 150 rfl).trans (hd 2 (List.mem_append_left _ (by decide)))
            exact zw (W':=W.alloc (.cells #[.int .i64 (ow:Int)] 3)) (v:=.slice (some ⟨W.heap.size,0,none⟩) 1 1) (by simp [execOp,d2,go_sem]) xx ⟨W.heap.size,rfl,hz,by simp [go_sem]⟩
           case s4 =>
            intro val ρ W hE hz hd hA hx
            have d1:ρ (.tmp 149) = .slice tn ta9 tcap:=(hA.dep 1 (by decide) 149 rfl).trans (hd 1 (List.mem_append_left _ (by decide)))
            obtain ⟨b',e3,hl3⟩:=LitK.rows (hd 3 (List.mem_append_left _ (by decide)))
            have d3:ρ (.tmp 151) = .slice (some ⟨b',0,none⟩) 1 1:=(hA.dep 3 (by decide) 151 rfl).trans e3
            have hW:=hx (by decide)
            obtain ⟨v',w',hrun,h2,h3,h4⟩:=zcr elInt 23 (Q+5) (HOT.out.ext hW) b' 0 1 [[.int .i64 (ow:Int)]] (by simp) hl3 (by simp [Value.oneCell']) (by simp;omega) (by omega)
            refine zb1 (.tmp 149) (.tmp 151) rfl rfl _ _ d1 d3 hrun (h3.mono fun k _ hk e=>hk (.inl e)) ⟨h2,(Kept.of_below hW).trans h3,fun g hg=>(h4 g hg).imp id fun h=>Nat.le_trans hW.size h⟩
           case s5 =>
            intro val ρ W hE hz hd hA hx
            have o0:ρ (.tmp 9) = .pointer (some ⟨Q+4,0,none⟩):=hA.old 9 (by decide)
            exact zw (W':=W) (by simp [execOp,o0,go_sem]) (Below.refl _ _) rfl
           case s6 =>
            intro val ρ W hE hz hd hA hx
            have d5:ρ (.tmp 153) = .pointer (some ⟨Q+4,0,none⟩):=(hA.dep 5 (by decide) 153 rfl).trans (hd 5 (List.mem_append_left _ (by decide)))
            have f_cf:=cell_below hE (by simp only;omega) cf
            exact zw (W':=W) (by simp [execOp,d5,f_cf,go_sem]) (Below.refl _ _) rfl
           case s7 =>
            intro val ρ W hE hz hd hA hx
            have o0:ρ (.tmp 13) = .int .i64 fm:=hA.old 13 (by decide)
            exact zw (W':=W) (by simp [execOp,o0,go_sem]) (Below.refl _ _) rfl
           case s8 =>
            intro val ρ W hE hz hd hA hx
            have d7:ρ (.tmp 155) = .int .i64 fm:=(hA.dep 7 (by decide) 155 rfl).trans (hd 7 (List.mem_append_left _ (by decide)))
            exact zw (W':=W.alloc (.cells #[.int .i64 (fm:Int)] 3)) (v:=.slice (some ⟨W.heap.size,0,none⟩) 1 1) (by simp [execOp,d7,go_sem]) xx ⟨W.heap.size,rfl,hz,by simp [go_sem]⟩
           case s9 =>
            intro val ρ W hE hz hd hA hx
            have d6:ρ (.tmp 154) = .slice fn fa9 fcap:=(hA.dep 6 (by decide) 154 rfl).trans (hd 6 (List.mem_append_left _ (by decide)))
            obtain ⟨b',e8,hl8⟩:=LitK.rows (hd 8 (List.mem_append_left _ (by decide)))
            have d8:ρ (.tmp 156) = .slice (some ⟨b',0,none⟩) 1 1:=(hA.dep 8 (by decide) 156 rfl).trans e8
            have r4:ApK X1 (Q+5) (.slice tn ta9 tcap) rt ow (val 4) W:=hd 4 (List.mem_append_right _ (List.Mem.head _))
            obtain ⟨p1,p2,p3⟩:=r4
            have hfo:Owns W (Q+5) 3 1 (.slice fn fa9 fcap) rf:=HOF.out.keptAt p2 (fun g _ _ h1 _ e=>HTC.out.d2 g e.symm h1)
            obtain ⟨f9,W8,hrun,g2,g3,g4⟩:=zcr elInt 23 (Q+5) hfo b' 0 1 [[.int .i64 (fm:Int)]] (by simp) hl8 (by simp [Value.oneCell']) (by simp;omega) (by omega)
            refine zb1 (.tmp 154) (.tmp 156) rfl rfl _ _ d6 d8 hrun (g3.mono fun k _ hk e=>hk (.inr e)) ?_
            have hof:=fun g (hg:(Value.slice fn fa9 fcap).ownBlock=some g)=>HTC.out.of.notOwn g hg
            refine ⟨p1.keptAt g3 (fun g _ _ h1 _ e=>?_),g2,(p2.mono fun k _ h=>h.1).trans (g3.mono fun k _ h=>h.2),p3,fun g hg=>(g4 g hg).imp id fun h=>Nat.le_trans hz h,fun g h1 h2=>?_⟩
            ·rcases p3 g h1 with h | h
             ·exact HTC.out.d2 g h e.symm
             ·have:=(hof g e.symm).2;omega
            ·rcases g4 g h2 with h | h
             ·rcases p3 g h1 with h5 | h5
              ·exact HTC.out.d2 g h5 h
              ·have:=(hof g h).2;omega
             ·have:=(p1.notOwn g h1).2;omega
           case s10 =>
            intro val ρ W hE hz hd hA hx
            have o0:ρ (.tmp 8) = .pointer (some ⟨Q+3,0,none⟩):=hA.old 8 (by decide)
            exact zw (W':=W) (by simp [execOp,o0,go_sem]) (Below.refl _ _) rfl
           case send =>
            intro val WW hE hzz hv
            obtain ⟨-,-,-,-,-,-,-,-,-,r9,r10,-⟩:=hv
            have q10:val 10 = .pointer (some ⟨Q+3,0,none⟩):=r10
            have r9:BothK X1 (Q+5) (.slice tn ta9 tcap) (.slice fn fa9 fcap) rt rf ow fm [val 4] (val 9) WW:=r9
            obtain ⟨p1,p2,p3,p4,p5,p6⟩:=r9
            have p1:Owns WW (Q+5) 3 1 (val 4) (rt ++ [[.int .i64 (ow:Int)]]):=p1
            have p4:∀ g,(val 4).ownBlock=some g→(Value.slice tn ta9 tcap).ownBlock=some g∨X1.heap.size≤g:=p4
            have p6:∀ g,(val 4).ownBlock=some g→(val 9).ownBlock≠some g:=p6
            obtain ⟨tn2,ta2,tcap2,e4⟩:=p1.isSlice
            obtain ⟨fn2,fa2,fcap2,e9⟩:=p2.isSlice
            rw [e4] at p1 p4 p6
            rw [e9] at p2 p5 p6
            rw [HRT.out] at p1
            rw [HRF.out] at p2
            have hTF:=HTC.out.putTF p1 p2 p3 p4 p5 p6
            have hlow:∀ j,j < Q+5→some j≠(Value.slice tn ta9 tcap).ownBlock∧some j≠(Value.slice fn fa9 fcap).ownBlock:=fun j hj=>⟨fun e=>by have:=(HTC.out.ot.notOwn j e.symm).1;omega,fun e=>by have:=(HTC.out.of.notOwn j e.symm).1;omega⟩
            have hX4:=HTC.out.lt
            have ct2:=p3.cell ct (hlow _ (by simp only;omega))
            have cf2:=p3.cell cf (hlow _ (by simp only;omega))
            have zt2:WW.frozen? ⟨Q+3,0,none⟩=false:=(p3.frozen (p:=⟨Q+3,0,none⟩) (by simp only;omega) (hlow _ (by simp only;omega))).trans (HTC.out.ft 0)
            have zf2:WW.frozen? ⟨Q+4,0,none⟩=false:=(p3.frozen (p:=⟨Q+4,0,none⟩) (by simp only;omega) (hlow _ (by simp only;omega))).trans (HTC.out.ff 0)
            have hz4:Q+4 < WW.heap.size:=by omega
            have hz3:Q+3 < WW.heap.size:=by omega
            have hokn:OkJ l i:=⟨by rw [← HH.out,HNJ.out];exact HN.out,by rw [HNJ.out];exact hn2,by rw [HNJ.out];exact hn5,by rw [← HH.out];exact HA0.out⟩
            have HTF:Hid (TriJ W0 Q ((WW.setCell ⟨Q+3,0,none⟩ (.slice tn2 ta2 tcap2)).setCell ⟨Q+4,0,none⟩ (.slice fn2 fa2 fcap2)) (.slice cn2 ca2 ccap2) (.slice tn2 ta2 tcap2) (.slice fn2 fa2 fcap2) ((List.range (i+1)).map (nJ l)) ((List.range (i+1)).map (oJ l S)) ((List.range (i+1)).map (fJ l))):=Lib.hid (by
             rw [za9,za9,za9,HNJ.out,← HOW.out,← HFJ.out]
             exact hTF)
            have HOK2:Hid (∀ j,j < i+1→OkJ l j):=Lib.hid fun j hj=>by
             by_cases e:j=i
             ·rw [e];exact hokn
             ·exact HOK.out j (by omega)
            simp only [putD,e4,e9,q10]
            go_frame
            clear hE hzz e4 e9 r10 q10 p1 p2 p3 p4 p5 p6 hTF hlow hokn ct cf hXs hrl hrfl kn zn
            go_wp2_with fail
            go_roundw
            case rel=>exact ⟨i+1,_,_,_,by omega,by go_num,by rw [HQ9.out],HOK2.out,HTF.out⟩
            case measure=>simp [intOf];omega
       ·have hri2:¬ ((r2:Int) < h.n):=by have:=HN.out;omega
        obtain ⟨T,rfl⟩:∃ T,T=U:=⟨_,rfl⟩
        have HET:=Lib.hid HEU.out
        have HTT:=Lib.hid (HTZ.out.ext HET.out)
        have HNJ:Hid (nJ l i=n):=Lib.hid (by unfold nJ;rw [← HH.out,HN.out];rfl)
        have kn:=zh HET.out K0Z.out
        rw [HN.out] at kn
        have zn:=World.block_lt_of_cell? _ _ kn
        simp only at zn
        have ks:=HTT.out.low (by omega) (HKS.out i hi3)
        have zs:=World.block_lt_of_cell? _ _ ks
        simp only at zs
        have hsb:=HSB.out i hi3
        obtain ⟨s,hs⟩:∃ s,s=S i:=⟨_,rfl⟩
        rw [← hs] at ks hsb
        have hws:IntKind.i64.wrap s=s:=IntWalk.i64_in _ (by omega)
        obtain ⟨q1,q2,q3⟩:=bshl (n:=n) (by omega)
        have hob:=zw3 s (n:=n) (by omega)
        have hot:=zw4 (s:=s) (n:=n) hsb.1 (by omega)
        have hn4:2 ^ 2≤2 ^ n:=Nat.pow_le_pow_right (by omega) hn2
        obtain ⟨N,hN⟩:∃ N:Nat,N=2 ^ n:=⟨_,rfl⟩
        rw [← hN] at q1 q2 q3 hob hot hn4
        obtain ⟨M,hM⟩:∃ M:Nat,N=M+1:=⟨N - 1,by omega⟩
        have hsub:IntKind.i64.wrap ((N:Int) - 1)=(M:Int):=by rw [show (N:Int) - 1=(M:Int) by omega];exact IntWalk.i64_in _ (by omega)
        rw [show N - 1=M by omega] at hob hot
        obtain ⟨ow,how⟩:∃ ow,ow=ownJ s n:=⟨_,rfl⟩
        rw [← how] at hob hot
        have HOW:Hid (ow=oJ l S i):=Lib.hid (by unfold oJ;rw [HNJ.out,← hs];exact how)
        have HFJ:Hid (fm=fJ l i):=Lib.hid (by unfold fJ;rw [HNJ.out,← HH.out];exact HF1.out)
        obtain ⟨md,hmd⟩:∃ md,md=s.tmod (M:Int):=⟨_,rfl⟩
        rw [← hmd] at hot
        have htm:=hmd.symm
        have hwow:IntKind.i64.wrap (1+md)=(ow:Int):=by rw [hot];exact IntWalk.i64_in _ (by omega)
        have hM1:¬ (M=0):=by omega
        have how64:ow≤64:=by omega
        clear hs hN hM how hmd hob hot hn4 q2 q3 hsb hlr
        go_upto_region 27 with (fail)
        refine zbb (T.heap.size) (Nat.le_refl _)
         [sqV (.int .i64 i),sqV (.pointer (some ⟨Q,i,none⟩)),sqV (.int .u8 s),sqV (.int .i64 s),sqV (.pointer (some ⟨p,0,none⟩)),sqV (.int .i64 n),sqV (.int .i64 N),sqV (.int .i64 M),sqV (.int .i64 md),sqV (.int .i64 ow),sqV (.int .i64 ow)]
         [true,true,true,true,true,true,true,true,true,true,true] [false,false,false,false,false,false,false,false,false,false,false] [true,true,true,true,true,true,true,true,true,true,true] [true,true,true,true,true,true,true,true,true,true,true]
         (by kernel_rfl) (by kernel_rfl) (by decide +kernel) (by decide +kernel) (by decide +kernel) rfl ⟨rfl,rfl⟩ ⟨?s0,?s1,?s2,?s3,?s4,?s5,?s6,?s7,?s8,?s9,?s10,trivial⟩ [some 123,some 124,some 125,some 126,some 127,some 128,some 129,some 130,some 131,some 132,some 19] rfl rfl ?send
        case s0 =>
         intro val ρ W hE hz hd hA hx
         have o0:ρ (.tmp 11) = .int .i64 i:=hA.old 11 (by decide)
         clear hd
         exact ze (W':=W) (by simp [execOp,o0,go_sem]) (Below.refl _ _) rfl
        case s1 =>
         intro val ρ W hE hz hd hA hx
         have d0:ρ (.tmp 123) = .int .i64 i:=(hA.dep 0 (by decide) 123 rfl).trans (hd 0 (by decide))
         have o0:ρ (.tmp 4) = .pointer (some ⟨Q,0,none⟩):=hA.old 4 (by decide)
         clear hd
         exact ze (W':=W) (by simp [execOp,d0,o0,hi3i,go_sem]) (Below.refl _ _) rfl
        case s2 =>
         intro val ρ W hE hz hd hA hx
         have d1:ρ (.tmp 124) = .pointer (some ⟨Q,i,none⟩):=(hA.dep 1 (by decide) 124 rfl).trans (hd 1 (by decide))
         have f_ks:=cell_below hE (by simp only;omega) ks
         clear hd
         exact ze (W':=W) (by simp [execOp,d1,f_ks,go_sem]) (Below.refl _ _) rfl
        case s3 =>
         intro val ρ W hE hz hd hA hx
         have d2:ρ (.tmp 125) = .int .u8 s:=(hA.dep 2 (by decide) 125 rfl).trans (hd 2 (by decide))
         clear hd
         exact ze (W':=W) (by simp [execOp,d2,hws,go_sem]) (Below.refl _ _) rfl
        case s4 =>
         intro val ρ W hE hz hd hA hx
         have o0:ρ (.tmp 12) = .pointer (some ⟨p,0,none⟩):=hA.old 12 (by decide)
         clear hd
         exact ze (W':=W) (by simp [execOp,o0,go_sem]) (Below.refl _ _) rfl
        case s5 =>
         intro val ρ W hE hz hd hA hx
         have d4:ρ (.tmp 127) = .pointer (some ⟨p,0,none⟩):=(hA.dep 4 (by decide) 127 rfl).trans (hd 4 (by decide))
         have f_kn:=cell_below hE (by simp only;omega) kn
         clear hd
         exact ze (W':=W) (by simp [execOp,d4,f_kn,go_sem]) (Below.refl _ _) rfl
        case s6 =>
         intro val ρ W hE hz hd hA hx
         have d5:ρ (.tmp 128) = .int .i64 n:=(hA.dep 5 (by decide) 128 rfl).trans (hd 5 (by decide))
         clear hd
         exact ze (W':=W) (by simp [execOp,hA.const,d5,q1,go_sem]) (Below.refl _ _) rfl
        case s7 =>
         intro val ρ W hE hz hd hA hx
         have d6:ρ (.tmp 129) = .int .i64 N:=(hA.dep 6 (by decide) 129 rfl).trans (hd 6 (by decide))
         clear hd
         exact ze (W':=W) (by simp [execOp,hA.const,d6,hsub,go_sem]) (Below.refl _ _) rfl
        case s8 =>
         intro val ρ W hE hz hd hA hx
         have d3:ρ (.tmp 126) = .int .i64 s:=(hA.dep 3 (by decide) 126 rfl).trans (hd 3 (by decide))
         have d7:ρ (.tmp 130) = .int .i64 M:=(hA.dep 7 (by decide) 130 rfl).trans (hd 7 (by decide))
         clear hd
         exact ze (W':=W) (by simp [execOp,d3,d7,htm,hM1,go_sem]) (Below.refl _ _) rfl
        case s9 =>
         intro val ρ W hE hz hd hA hx
         have d8:ρ (.tmp 131) = .int .i64 md:=(hA.dep 8 (by decide) 131 rfl).trans (hd 8 (by decide))
         clear hd
         exact ze (W':=W) (by simp [execOp,hA.const,d8,hwow,go_sem]) (Below.refl _ _) rfl
        case s10 =>
         intro val ρ W hE hz hd hA hx
         have d9:ρ (.tmp 132) = .int .i64 ow:=(hA.dep 9 (by decide) 132 rfl).trans (hd 9 (by decide))
         clear hd
         exact ze (W':=W) (by simp [execOp,d9,go_sem]) (Below.refl _ _) rfl
        case send =>
         intro val V9 hE hzz hv
         obtain ⟨-,-,-,-,-,-,-,-,-,-,r10,-⟩:=hv
         have q10:val 10 = .int .i64 ow:=r10
         simp only [putD,q10]
         go_frame
         replace kn:=zh hE kn
         replace zn:=World.block_lt_of_cell? _ _ kn
         simp only at zn
         have HT9:=Lib.hid (HTT.out.ext hE)
         have hand:=zgc ow fm (by omega) (by omega)
         obtain ⟨z,hz9⟩:∃ z,z=ow &&& fm:=⟨_,rfl⟩
         rw [← hz9] at hand
         obtain ⟨q,hq⟩:∃ q,((z:Int) == (fm:Int))=q:=⟨_,rfl⟩
         have hsc:=ztu l S i
         rw [← HHS.out,← HOW.out,← HFJ.out,← hz9,show (z == fm)=q by rw [← hq,Bool.eq_iff_iff];simp;omega] at hsc
         clear hE hzz r10 q10 ks zs hws hsub hwow hM1 htm hz9 q1
         cases hs
         ·have HQ9:Hid (hasJ l S (i+1)=false):=Lib.hid (by rw [hsc];rfl)
          clear hsc hand hq
          obtain ⟨cn,ca9,ccap,hcv⟩:=HT9.out.oc.isSlice
          obtain ⟨tn,ta9,tcap,htv⟩:=HT9.out.ot.isSlice
          obtain ⟨fn,fa9,fcap,hfv⟩:=HT9.out.of.isSlice
          subst hcv htv hfv
          have cc9:=HT9.out.cc
          have cfr:=HT9.out.fc 0
          have cz:=HT9.out.lt
          have hqz:Q+2 < V9.heap.size:=by omega
          have ho9:=HT9.out.oc.ext (xx:Ext V9 (V9.alloc (.cells #[.int .i64 (n:Int)] 3)))
          obtain ⟨c',W9,hrun,h2,h3,h4⟩:=zcr elInt 23 (Q+5) ho9 V9.heap.size 0 1 [[.int .i64 (n:Int)]] (by simp) (zep _ [.int .i64 (n:Int)] _ _ _ rfl rfl) (by simp [Value.oneCell']) (by simp [natL];omega) (by simp;omega)
          obtain ⟨cn2,ca2,ccap2,hcv2⟩:=h2.isSlice
          subst hcv2
          have hTa:=HT9.out.ext (xx:Ext V9 (V9.alloc (.cells #[.int .i64 (n:Int)] 3)))
          have hTC:=hTa.putC h2 h3 h4
          have hlowc:∀ j,j < Q+5→some j≠(Value.slice cn ca9 ccap).ownBlock:=fun j hj e=>by have:=(HT9.out.oc.notOwn j e.symm).1;omega
          have ccw:=h3.cell hTa.cc (hlowc _ (by simp only;omega))
          have cfw:W9.frozen? ⟨Q+2,0,none⟩=false:=(h3.frozen (p:=⟨Q+2,0,none⟩) (by simp;omega) (hlowc _ (by simp only;omega))).trans (hTa.fc 0)
          have czw:Q+2 < W9.heap.size:=by have:=h3.size;simp at this;omega
          have HTC:=Lib.hid hTC
          clear ho9 h2 h3 h4 hTa hTC hlowc
          go_upto_region 30 with (at_builtin;refine zon rfl (.tmp 142) (.tmp 145) rfl rfl rfl hrun ?_)
          clear hrun cc9 cfr
          obtain ⟨X1,hX1⟩:∃ X1,X1=W9.setCell ⟨Q+2,0,none⟩ (.slice cn2 ca2 ccap2):=⟨_,rfl⟩
          rw [← hX1]
          rw [← hX1] at HTC
          clear hX1 ccw cfw czw
          have ct:=HTC.out.ct
          have cf:=HTC.out.cf
          have hXs:=HTC.out.size
          have hKB:∀ k,(some k=(Value.slice tn ta9 tcap).ownBlock∨some k=(Value.slice fn fa9 fcap).ownBlock)→Q+5≤k∧k < X1.heap.size:=fun k hk=>hk.elim (fun hk=>HTC.out.ot.notOwn k hk.symm) (fun hk=>HTC.out.of.notOwn k hk.symm)
          have HKB9:=Lib.hid hKB
          clear hKB
          obtain ⟨rt,hrt⟩:∃ rt,rt=(natL ((List.range i).map (oJ l S))).map iRow:=⟨_,rfl⟩
          have hot:=HTC.out.ot
          rw [← hrt] at hot
          have HOT:=Lib.hid hot
          have hrl:rt.length≤3:=by rw [hrt];simp [natL];omega
          have HRT:=Lib.hid hrt
          clear hot hrt
          obtain ⟨rf,hrf9⟩:∃ rf,rf=(natL ((List.range i).map (fJ l))).map iRow:=⟨_,rfl⟩
          have hof:=HTC.out.of
          rw [← hrf9] at hof
          have HOF:=Lib.hid hof
          have hrfl:rf.length≤3:=by rw [hrf9];simp [natL];omega
          have HRF:=Lib.hid hrf9
          clear hof hrf9
          refine zbt (Kb:=fun k=>some k=(Value.slice tn ta9 tcap).ownBlock∨some k=(Value.slice fn fa9 fcap).ownBlock) 11 rfl (by kernel_rfl) (Q+5) (fun k hk=>(HKB9.out k hk).1) hXs
           [sqVK (.pointer (some ⟨Q+3,0,none⟩)),sqVK (.slice tn ta9 tcap),sqVK (.int .i64 ow),
           sqHK (LitK X1.heap.size ow) (fun _ _ _ h e=>h.ext e) (fun _ _ _ h e=>h.kept (fun k hk=>(HKB9.out k hk).2) e),
           sqWK (ApK X1 (Q+5) (.slice tn ta9 tcap) rt ow) (fun _ _ _ h e=>h.ext e),
           sqVK (.pointer (some ⟨Q+4,0,none⟩)),sqVK (.slice fn fa9 fcap),sqVK (.int .i64 fm),
           sqHK (LitK X1.heap.size fm) (fun _ _ _ h e=>h.ext e) (fun _ _ _ h e=>h.kept (fun k hk=>(HKB9.out k hk).2) e),
           sqDK [4] (BothK X1 (Q+5) (.slice tn ta9 tcap) (.slice fn fa9 fcap) rt rf ow fm) (fun _ _ _ _ h e=>h.ext e),
           sqVK (.pointer (some ⟨Q+3,0,none⟩))]
           [true,true,true,true,false,true,true,true,true,false,true] [false,false,false,false,true,false,false,false,false,true,false] [true,true,true,true,false,true,true,true,true,true,true] [true,true,true,true,true,false,false,false,false,false,false]
           (by kernel_rfl) (by kernel_rfl) [[],[],[],[],[],[],[],[],[],[4],[]] rfl (by decide +kernel) (by decide +kernel) (by decide +kernel) rfl ⟨rfl,rfl⟩ ⟨?s0,?s1,?s2,?s3,?s4,?s5,?s6,?s7,?s8,?s9,?s10,trivial⟩ [some 148,some 149,some 150,some 151,some 152,some 153,some 154,some 155,some 156,some 157,some 158] rfl rfl ?send
          case s0 =>
           intro val ρ W hE hz hd hA hx
           have o0:ρ (.tmp 8) = .pointer (some ⟨Q+3,0,none⟩):=hA.old 8 (by decide)
           exact zw (W':=W) (by simp [execOp,o0,go_sem]) (Below.refl _ _) rfl
          case s1 =>
           intro val ρ W hE hz hd hA hx
           have d0:ρ (.tmp 148) = .pointer (some ⟨Q+3,0,none⟩):=(hA.dep 0 (by decide) 148 rfl).trans (hd 0 (List.mem_append_left _ (by decide)))
           have f_ct:=cell_below hE (by simp only;omega) ct
           exact zw (W':=W) (by simp [execOp,d0,f_ct,go_sem]) (Below.refl _ _) rfl
          case s2 =>
           intro val ρ W hE hz hd hA hx
           have o0:ρ (.tmp 19) = .int .i64 ow:=hA.old 19 (by decide)
           exact zw (W':=W) (by simp [execOp,o0,go_sem]) (Below.refl _ _) rfl
          case s3 =>
           intro val ρ W hE hz hd hA hx
           have d2:ρ (.tmp 150) = .int .i64 ow:=(hA.dep 2 (by decide) 150 rfl).trans (hd 2 (List.mem_append_left _ (by decide)))
           exact zw (W':=W.alloc (.cells #[.int .i64 (ow:Int)] 3)) (v:=.slice (some ⟨W.heap.size,0,none⟩) 1 1) (by simp [execOp,d2,go_sem]) xx ⟨W.heap.size,rfl,hz,by simp [go_sem]⟩
          case s4 =>
           intro val ρ W hE hz hd hA hx
           have d1:ρ (.tmp 149) = .slice tn ta9 tcap:=(hA.dep 1 (by decide) 149 rfl).trans (hd 1 (List.mem_append_left _ (by decide)))
           obtain ⟨b',e3,hl3⟩:=LitK.rows (hd 3 (List.mem_append_left _ (by decide)))
           have d3:ρ (.tmp 151) = .slice (some ⟨b',0,none⟩) 1 1:=(hA.dep 3 (by decide) 151 rfl).trans e3
           have hW:=hx (by decide)
           obtain ⟨v',w',hrun,h2,h3,h4⟩:=zcr elInt 23 (Q+5) (HOT.out.ext hW) b' 0 1 [[.int .i64 (ow:Int)]] (by simp) hl3 (by simp [Value.oneCell']) (by simp;omega) (by omega)
           refine zb1 (.tmp 149) (.tmp 151) rfl rfl _ _ d1 d3 hrun (h3.mono fun k _ hk e=>hk (.inl e)) ⟨h2,(Kept.of_below hW).trans h3,fun g hg=>(h4 g hg).imp id fun h=>Nat.le_trans hW.size h⟩
          case s5 =>
           intro val ρ W hE hz hd hA hx
           have o0:ρ (.tmp 9) = .pointer (some ⟨Q+4,0,none⟩):=hA.old 9 (by decide)
           exact zw (W':=W) (by simp [execOp,o0,go_sem]) (Below.refl _ _) rfl
          case s6 =>
           intro val ρ W hE hz hd hA hx
           have d5:ρ (.tmp 153) = .pointer (some ⟨Q+4,0,none⟩):=(hA.dep 5 (by decide) 153 rfl).trans (hd 5 (List.mem_append_left _ (by decide)))
           have f_cf:=cell_below hE (by simp only;omega) cf
           exact zw (W':=W) (by simp [execOp,d5,f_cf,go_sem]) (Below.refl _ _) rfl
          case s7 =>
           intro val ρ W hE hz hd hA hx
           have o0:ρ (.tmp 13) = .int .i64 fm:=hA.old 13 (by decide)
           exact zw (W':=W) (by simp [execOp,o0,go_sem]) (Below.refl _ _) rfl
          case s8 =>
           intro val ρ W hE hz hd hA hx
           have d7:ρ (.tmp 155) = .int .i64 fm:=(hA.dep 7 (by decide) 155 rfl).trans (hd 7 (List.mem_append_left _ (by decide)))
           exact zw (W':=W.alloc (.cells #[.int .i64 (fm:Int)] 3)) (v:=.slice (some ⟨W.heap.size,0,none⟩) 1 1) (by simp [execOp,d7,go_sem]) xx ⟨W.heap.size,rfl,hz,by simp [go_sem]⟩
          case s9 =>
           intro val ρ W hE hz hd hA hx
           have d6:ρ (.tmp 154) = .slice fn fa9 fcap:=(hA.dep 6 (by decide) 154 rfl).trans (hd 6 (List.mem_append_left _ (by decide)))
           obtain ⟨b',e8,hl8⟩:=LitK.rows (hd 8 (List.mem_append_left _ (by decide)))
           have d8:ρ (.tmp 156) = .slice (some ⟨b',0,none⟩) 1 1:=(hA.dep 8 (by decide) 156 rfl).trans e8
           have r4:ApK X1 (Q+5) (.slice tn ta9 tcap) rt ow (val 4) W:=hd 4 (List.mem_append_right _ (List.Mem.head _))
           obtain ⟨p1,p2,p3⟩:=r4
           have hfo:Owns W (Q+5) 3 1 (.slice fn fa9 fcap) rf:=HOF.out.keptAt p2 (fun g _ _ h1 _ e=>HTC.out.d2 g e.symm h1)
           obtain ⟨f9,W8,hrun,g2,g3,g4⟩:=zcr elInt 23 (Q+5) hfo b' 0 1 [[.int .i64 (fm:Int)]] (by simp) hl8 (by simp [Value.oneCell']) (by simp;omega) (by omega)
           refine zb1 (.tmp 154) (.tmp 156) rfl rfl _ _ d6 d8 hrun (g3.mono fun k _ hk e=>hk (.inr e)) ?_
           have hof:=fun g (hg:(Value.slice fn fa9 fcap).ownBlock=some g)=>HTC.out.of.notOwn g hg
           refine ⟨p1.keptAt g3 (fun g _ _ h1 _ e=>?_),g2,(p2.mono fun k _ h=>h.1).trans (g3.mono fun k _ h=>h.2),p3,fun g hg=>(g4 g hg).imp id fun h=>Nat.le_trans hz h,fun g h1 h2=>?_⟩
           ·rcases p3 g h1 with h | h
            ·exact HTC.out.d2 g h e.symm
            ·have:=(hof g e.symm).2;omega
           ·rcases g4 g h2 with h | h
            ·rcases p3 g h1 with h5 | h5
             ·exact HTC.out.d2 g h5 h
             ·have:=(hof g h).2;omega
            ·have:=(p1.notOwn g h1).2;omega
          case s10 =>
           intro val ρ W hE hz hd hA hx
           have o0:ρ (.tmp 8) = .pointer (some ⟨Q+3,0,none⟩):=hA.old 8 (by decide)
           exact zw (W':=W) (by simp [execOp,o0,go_sem]) (Below.refl _ _) rfl
          case send =>
           intro val WW hE hzz hv
           obtain ⟨-,-,-,-,-,-,-,-,-,r9,r10,-⟩:=hv
           have q10:val 10 = .pointer (some ⟨Q+3,0,none⟩):=r10
           have r9:BothK X1 (Q+5) (.slice tn ta9 tcap) (.slice fn fa9 fcap) rt rf ow fm [val 4] (val 9) WW:=r9
           obtain ⟨p1,p2,p3,p4,p5,p6⟩:=r9
           have p1:Owns WW (Q+5) 3 1 (val 4) (rt ++ [[.int .i64 (ow:Int)]]):=p1
           have p4:∀ g,(val 4).ownBlock=some g→(Value.slice tn ta9 tcap).ownBlock=some g∨X1.heap.size≤g:=p4
           have p6:∀ g,(val 4).ownBlock=some g→(val 9).ownBlock≠some g:=p6
           obtain ⟨tn2,ta2,tcap2,e4⟩:=p1.isSlice
           obtain ⟨fn2,fa2,fcap2,e9⟩:=p2.isSlice
           rw [e4] at p1 p4 p6
           rw [e9] at p2 p5 p6
           rw [HRT.out] at p1
           rw [HRF.out] at p2
           have hTF:=HTC.out.putTF p1 p2 p3 p4 p5 p6
           have hlow:∀ j,j < Q+5→some j≠(Value.slice tn ta9 tcap).ownBlock∧some j≠(Value.slice fn fa9 fcap).ownBlock:=fun j hj=>⟨fun e=>by have:=(HTC.out.ot.notOwn j e.symm).1;omega,fun e=>by have:=(HTC.out.of.notOwn j e.symm).1;omega⟩
           have hX4:=HTC.out.lt
           have ct2:=p3.cell ct (hlow _ (by simp only;omega))
           have cf2:=p3.cell cf (hlow _ (by simp only;omega))
           have zt2:WW.frozen? ⟨Q+3,0,none⟩=false:=(p3.frozen (p:=⟨Q+3,0,none⟩) (by simp only;omega) (hlow _ (by simp only;omega))).trans (HTC.out.ft 0)
           have zf2:WW.frozen? ⟨Q+4,0,none⟩=false:=(p3.frozen (p:=⟨Q+4,0,none⟩) (by simp only;omega) (hlow _ (by simp only;omega))).trans (HTC.out.ff 0)
           have hz4:Q+4 < WW.heap.size:=by omega
           have hz3:Q+3 < WW.heap.size:=by omega
           have hokn:OkJ l i:=⟨by rw [← HH.out,HNJ.out];exact HN.out,by rw [HNJ.out];exact hn2,by rw [HNJ.out];exact hn5,by rw [← HH.out];exact HA0.out⟩
           have HTF:Hid (TriJ W0 Q ((WW.setCell ⟨Q+3,0,none⟩ (.slice tn2 ta2 tcap2)).setCell ⟨Q+4,0,none⟩ (.slice fn2 fa2 fcap2)) (.slice cn2 ca2 ccap2) (.slice tn2 ta2 tcap2) (.slice fn2 fa2 fcap2) ((List.range (i+1)).map (nJ l)) ((List.range (i+1)).map (oJ l S)) ((List.range (i+1)).map (fJ l))):=Lib.hid (by
            rw [za9,za9,za9,HNJ.out,← HOW.out,← HFJ.out]
            exact hTF)
           have HOK2:Hid (∀ j,j < i+1→OkJ l j):=Lib.hid fun j hj=>by
            by_cases e:j=i
            ·rw [e];exact hokn
            ·exact HOK.out j (by omega)
           simp only [putD,e4,e9,q10]
           go_frame
           clear hE hzz e4 e9 r10 q10 p1 p2 p3 p4 p5 p6 hTF hlow hokn ct cf hXs hrl hrfl kn zn
           go_wp2_with fail
           go_roundw
           case rel=>exact ⟨i+1,_,_,_,by omega,by go_num,by rw [HQ9.out],HOK2.out,HTF.out⟩
           case measure=>simp [intOf];omega
         ·have HQ9:Hid (hasJ l S (i+1)=q):=Lib.hid (by rw [hsc];simp)
          clear hsc
          obtain ⟨cn,ca9,ccap,hcv⟩:=HT9.out.oc.isSlice
          obtain ⟨tn,ta9,tcap,htv⟩:=HT9.out.ot.isSlice
          obtain ⟨fn,fa9,fcap,hfv⟩:=HT9.out.of.isSlice
          subst hcv htv hfv
          have cc9:=HT9.out.cc
          have cfr:=HT9.out.fc 0
          have cz:=HT9.out.lt
          have hqz:Q+2 < V9.heap.size:=by omega
          have ho9:=HT9.out.oc.ext (xx:Ext V9 (V9.alloc (.cells #[.int .i64 (n:Int)] 3)))
          obtain ⟨c',W9,hrun,h2,h3,h4⟩:=zcr elInt 23 (Q+5) ho9 V9.heap.size 0 1 [[.int .i64 (n:Int)]] (by simp) (zep _ [.int .i64 (n:Int)] _ _ _ rfl rfl) (by simp [Value.oneCell']) (by simp [natL];omega) (by simp;omega)
          obtain ⟨cn2,ca2,ccap2,hcv2⟩:=h2.isSlice
          subst hcv2
          have hTa:=HT9.out.ext (xx:Ext V9 (V9.alloc (.cells #[.int .i64 (n:Int)] 3)))
          have hTC:=hTa.putC h2 h3 h4
          have hlowc:∀ j,j < Q+5→some j≠(Value.slice cn ca9 ccap).ownBlock:=fun j hj e=>by have:=(HT9.out.oc.notOwn j e.symm).1;omega
          have ccw:=h3.cell hTa.cc (hlowc _ (by simp only;omega))
          have cfw:W9.frozen? ⟨Q+2,0,none⟩=false:=(h3.frozen (p:=⟨Q+2,0,none⟩) (by simp;omega) (hlowc _ (by simp only;omega))).trans (hTa.fc 0)
          have czw:Q+2 < W9.heap.size:=by have:=h3.size;simp at this;omega
          have HTC:=Lib.hid hTC
          clear ho9 h2 h3 h4 hTa hTC hlowc
          go_upto_region 30 with (at_builtin;refine zon rfl (.tmp 142) (.tmp 145) rfl rfl rfl hrun ?_)
          clear hrun cc9 cfr
          obtain ⟨X1,hX1⟩:∃ X1,X1=W9.setCell ⟨Q+2,0,none⟩ (.slice cn2 ca2 ccap2):=⟨_,rfl⟩
          rw [← hX1]
          rw [← hX1] at HTC
          clear hX1 ccw cfw czw
          have ct:=HTC.out.ct
          have cf:=HTC.out.cf
          have hXs:=HTC.out.size
          have hKB:∀ k,(some k=(Value.slice tn ta9 tcap).ownBlock∨some k=(Value.slice fn fa9 fcap).ownBlock)→Q+5≤k∧k < X1.heap.size:=fun k hk=>hk.elim (fun hk=>HTC.out.ot.notOwn k hk.symm) (fun hk=>HTC.out.of.notOwn k hk.symm)
          have HKB9:=Lib.hid hKB
          clear hKB
          obtain ⟨rt,hrt⟩:∃ rt,rt=(natL ((List.range i).map (oJ l S))).map iRow:=⟨_,rfl⟩
          have hot:=HTC.out.ot
          rw [← hrt] at hot
          have HOT:=Lib.hid hot
          have hrl:rt.length≤3:=by rw [hrt];simp [natL];omega
          have HRT:=Lib.hid hrt
          clear hot hrt
          obtain ⟨rf,hrf9⟩:∃ rf,rf=(natL ((List.range i).map (fJ l))).map iRow:=⟨_,rfl⟩
          have hof:=HTC.out.of
          rw [← hrf9] at hof
          have HOF:=Lib.hid hof
          have hrfl:rf.length≤3:=by rw [hrf9];simp [natL];omega
          have HRF:=Lib.hid hrf9
          clear hof hrf9
          refine zbt (Kb:=fun k=>some k=(Value.slice tn ta9 tcap).ownBlock∨some k=(Value.slice fn fa9 fcap).ownBlock) 11 rfl (by kernel_rfl) (Q+5) (fun k hk=>(HKB9.out k hk).1) hXs
           [sqVK (.pointer (some ⟨Q+3,0,none⟩)),sqVK (.slice tn ta9 tcap),sqVK (.int .i64 ow),
           sqHK (LitK X1.heap.size ow) (fun _ _ _ h e=>h.ext e) (fun _ _ _ h e=>h.kept (fun k hk=>(HKB9.out k hk).2) e),
           sqWK (ApK X1 (Q+5) (.slice tn ta9 tcap) rt ow) (fun _ _ _ h e=>h.ext e),
           sqVK (.pointer (some ⟨Q+4,0,none⟩)),sqVK (.slice fn fa9 fcap),sqVK (.int .i64 fm),
           sqHK (LitK X1.heap.size fm) (fun _ _ _ h e=>h.ext e) (fun _ _ _ h e=>h.kept (fun k hk=>(HKB9.out k hk).2) e),
           sqDK [4] (BothK X1 (Q+5) (.slice tn ta9 tcap) (.slice fn fa9 fcap) rt rf ow fm) (fun _ _ _ _ h e=>h.ext e),
           sqVK (.pointer (some ⟨Q+3,0,none⟩))]
           [true,true,true,true,false,true,true,true,true,false,true] [false,false,false,false,true,false,false,false,false,true,false] [true,true,true,true,false,true,true,true,true,true,true] [true,true,true,true,true,false,false,false,false,false,false]
           (by kernel_rfl) (by kernel_rfl) [[],[],[],[],[],[],[],[],[],[4],[]] rfl (by decide +kernel) (by decide +kernel) (by decide +kernel) rfl ⟨rfl,rfl⟩ ⟨?s0,?s1,?s2,?s3,?s4,?s5,?s6,?s7,?s8,?s9,?s10,trivial⟩ [some 148,some 149,some 150,some 151,some 152,some 153,some 154,some 155,some 156,some 157,some 158] rfl rfl ?send
          case s0 =>
           intro val ρ W hE hz hd hA hx
           have o0:ρ (.tmp 8) = .pointer (some ⟨Q+3,0,none⟩):=hA.old 8 (by decide)
           exact zw (W':=W) (by simp [execOp,o0,go_sem]) (Below.refl _ _) rfl
          case s1 =>
           intro val ρ W hE hz hd hA hx
           have d0:ρ (.tmp 148) = .pointer (some ⟨Q+3,0,none⟩):=(hA.dep 0 (by decide) 148 rfl).trans (hd 0 (List.mem_append_left _ (by decide)))
           have f_ct:=cell_below hE (by simp only;omega) ct
           exact zw (W':=W) (by simp [execOp,d0,f_ct,go_sem]) (Below.refl _ _) rfl
          case s2 =>
           intro val ρ W hE hz hd hA hx
           have o0:ρ (.tmp 19) = .int .i64 ow:=hA.old 19 (by decide)
           exact zw (W':=W) (by simp [execOp,o0,go_sem]) (Below.refl _ _) rfl
          case s3 =>
           intro val ρ W hE hz hd hA hx
           have d2:ρ (.tmp 150) = .int .i64 ow:=(hA.dep 2 (by decide) 150 rfl).trans (hd 2 (List.mem_append_left _ (by decide)))
           exact zw (W':=W.alloc (.cells #[.int .i64 (ow:Int)] 3)) (v:=.slice (some ⟨W.heap.size,0,none⟩) 1 1) (by simp [execOp,d2,go_sem]) xx ⟨W.heap.size,rfl,hz,by simp [go_sem]⟩
          case s4 =>
           intro val ρ W hE hz hd hA hx
           have d1:ρ (.tmp 149) = .slice tn ta9 tcap:=(hA.dep 1 (by decide) 149 rfl).trans (hd 1 (List.mem_append_left _ (by decide)))
           obtain ⟨b',e3,hl3⟩:=LitK.rows (hd 3 (List.mem_append_left _ (by decide)))
           have d3:ρ (.tmp 151) = .slice (some ⟨b',0,none⟩) 1 1:=(hA.dep 3 (by decide) 151 rfl).trans e3
           have hW:=hx (by decide)
           obtain ⟨v',w',hrun,h2,h3,h4⟩:=zcr elInt 23 (Q+5) (HOT.out.ext hW) b' 0 1 [[.int .i64 (ow:Int)]] (by simp) hl3 (by simp [Value.oneCell']) (by simp;omega) (by omega)
           refine zb1 (.tmp 149) (.tmp 151) rfl rfl _ _ d1 d3 hrun (h3.mono fun k _ hk e=>hk (.inl e)) ⟨h2,(Kept.of_below hW).trans h3,fun g hg=>(h4 g hg).imp id fun h=>Nat.le_trans hW.size h⟩
          case s5 =>
           intro val ρ W hE hz hd hA hx
           have o0:ρ (.tmp 9) = .pointer (some ⟨Q+4,0,none⟩):=hA.old 9 (by decide)
           exact zw (W':=W) (by simp [execOp,o0,go_sem]) (Below.refl _ _) rfl
          case s6 =>
           intro val ρ W hE hz hd hA hx
           have d5:ρ (.tmp 153) = .pointer (some ⟨Q+4,0,none⟩):=(hA.dep 5 (by decide) 153 rfl).trans (hd 5 (List.mem_append_left _ (by decide)))
           have f_cf:=cell_below hE (by simp only;omega) cf
           exact zw (W':=W) (by simp [execOp,d5,f_cf,go_sem]) (Below.refl _ _) rfl
          case s7 =>
           intro val ρ W hE hz hd hA hx
           have o0:ρ (.tmp 13) = .int .i64 fm:=hA.old 13 (by decide)
           exact zw (W':=W) (by simp [execOp,o0,go_sem]) (Below.refl _ _) rfl
          case s8 =>
           intro val ρ W hE hz hd hA hx
           have d7:ρ (.tmp 155) = .int .i64 fm:=(hA.dep 7 (by decide) 155 rfl).trans (hd 7 (List.mem_append_left _ (by decide)))
           exact zw (W':=W.alloc (.cells #[.int .i64 (fm:Int)] 3)) (v:=.slice (some ⟨W.heap.size,0,none⟩) 1 1) (by simp [execOp,d7,go_sem]) xx ⟨W.heap.size,rfl,hz,by simp [go_sem]⟩
          case s9 =>
           intro val ρ W hE hz hd hA hx
           have d6:ρ (.tmp 154) = .slice fn fa9 fcap:=(hA.dep 6 (by decide) 154 rfl).trans (hd 6 (List.mem_append_left _ (by decide)))
           obtain ⟨b',e8,hl8⟩:=LitK.rows (hd 8 (List.mem_append_left _ (by decide)))
           have d8:ρ (.tmp 156) = .slice (some ⟨b',0,none⟩) 1 1:=(hA.dep 8 (by decide) 156 rfl).trans e8
           have r4:ApK X1 (Q+5) (.slice tn ta9 tcap) rt ow (val 4) W:=hd 4 (List.mem_append_right _ (List.Mem.head _))
           obtain ⟨p1,p2,p3⟩:=r4
           have hfo:Owns W (Q+5) 3 1 (.slice fn fa9 fcap) rf:=HOF.out.keptAt p2 (fun g _ _ h1 _ e=>HTC.out.d2 g e.symm h1)
           obtain ⟨f9,W8,hrun,g2,g3,g4⟩:=zcr elInt 23 (Q+5) hfo b' 0 1 [[.int .i64 (fm:Int)]] (by simp) hl8 (by simp [Value.oneCell']) (by simp;omega) (by omega)
           refine zb1 (.tmp 154) (.tmp 156) rfl rfl _ _ d6 d8 hrun (g3.mono fun k _ hk e=>hk (.inr e)) ?_
           have hof:=fun g (hg:(Value.slice fn fa9 fcap).ownBlock=some g)=>HTC.out.of.notOwn g hg
           refine ⟨p1.keptAt g3 (fun g _ _ h1 _ e=>?_),g2,(p2.mono fun k _ h=>h.1).trans (g3.mono fun k _ h=>h.2),p3,fun g hg=>(g4 g hg).imp id fun h=>Nat.le_trans hz h,fun g h1 h2=>?_⟩
           ·rcases p3 g h1 with h | h
            ·exact HTC.out.d2 g h e.symm
            ·have:=(hof g e.symm).2;omega
           ·rcases g4 g h2 with h | h
            ·rcases p3 g h1 with h5 | h5
             ·exact HTC.out.d2 g h5 h
             ·have:=(hof g h).2;omega
            ·have:=(p1.notOwn g h1).2;omega
          case s10 =>
           intro val ρ W hE hz hd hA hx
           have o0:ρ (.tmp 8) = .pointer (some ⟨Q+3,0,none⟩):=hA.old 8 (by decide)
           exact zw (W':=W) (by simp [execOp,o0,go_sem]) (Below.refl _ _) rfl
          case send =>
           intro val WW hE hzz hv
           obtain ⟨-,-,-,-,-,-,-,-,-,r9,r10,-⟩:=hv
           have q10:val 10 = .pointer (some ⟨Q+3,0,none⟩):=r10
           have r9:BothK X1 (Q+5) (.slice tn ta9 tcap) (.slice fn fa9 fcap) rt rf ow fm [val 4] (val 9) WW:=r9
           obtain ⟨p1,p2,p3,p4,p5,p6⟩:=r9
           have p1:Owns WW (Q+5) 3 1 (val 4) (rt ++ [[.int .i64 (ow:Int)]]):=p1
           have p4:∀ g,(val 4).ownBlock=some g→(Value.slice tn ta9 tcap).ownBlock=some g∨X1.heap.size≤g:=p4
           have p6:∀ g,(val 4).ownBlock=some g→(val 9).ownBlock≠some g:=p6
           obtain ⟨tn2,ta2,tcap2,e4⟩:=p1.isSlice
           obtain ⟨fn2,fa2,fcap2,e9⟩:=p2.isSlice
           rw [e4] at p1 p4 p6
           rw [e9] at p2 p5 p6
           rw [HRT.out] at p1
           rw [HRF.out] at p2
           have hTF:=HTC.out.putTF p1 p2 p3 p4 p5 p6
           have hlow:∀ j,j < Q+5→some j≠(Value.slice tn ta9 tcap).ownBlock∧some j≠(Value.slice fn fa9 fcap).ownBlock:=fun j hj=>⟨fun e=>by have:=(HTC.out.ot.notOwn j e.symm).1;omega,fun e=>by have:=(HTC.out.of.notOwn j e.symm).1;omega⟩
           have hX4:=HTC.out.lt
           have ct2:=p3.cell ct (hlow _ (by simp only;omega))
           have cf2:=p3.cell cf (hlow _ (by simp only;omega))
           have zt2:WW.frozen? ⟨Q+3,0,none⟩=false:=(p3.frozen (p:=⟨Q+3,0,none⟩) (by simp only;omega) (hlow _ (by simp only;omega))).trans (HTC.out.ft 0)
           have zf2:WW.frozen? ⟨Q+4,0,none⟩=false:=(p3.frozen (p:=⟨Q+4,0,none⟩) (by simp only;omega) (hlow _ (by simp only;omega))).trans (HTC.out.ff 0)
           have hz4:Q+4 < WW.heap.size:=by omega
           have hz3:Q+3 < WW.heap.size:=by omega
           have hokn:OkJ l i:=⟨by rw [← HH.out,HNJ.out];exact HN.out,by rw [HNJ.out];exact hn2,by rw [HNJ.out];exact hn5,by rw [← HH.out];exact HA0.out⟩
           have HTF:Hid (TriJ W0 Q ((WW.setCell ⟨Q+3,0,none⟩ (.slice tn2 ta2 tcap2)).setCell ⟨Q+4,0,none⟩ (.slice fn2 fa2 fcap2)) (.slice cn2 ca2 ccap2) (.slice tn2 ta2 tcap2) (.slice fn2 fa2 fcap2) ((List.range (i+1)).map (nJ l)) ((List.range (i+1)).map (oJ l S)) ((List.range (i+1)).map (fJ l))):=Lib.hid (by
            rw [za9,za9,za9,HNJ.out,← HOW.out,← HFJ.out]
            exact hTF)
           have HOK2:Hid (∀ j,j < i+1→OkJ l j):=Lib.hid fun j hj=>by
            by_cases e:j=i
            ·rw [e];exact hokn
            ·exact HOK.out j (by omega)
           simp only [putD,e4,e9,q10]
           go_frame
           clear hE hzz e4 e9 r10 q10 p1 p2 p3 p4 p5 p6 hTF hlow hokn ct cf hXs hrl hrfl kn zn
           go_wp2_with fail
           go_roundw
           case rel=>exact ⟨i+1,_,_,_,by omega,by go_num,by rw [HQ9.out],HOK2.out,HTF.out⟩
           case measure=>simp [intOf];omega
  ·have hii:¬ ((i:Int) < (l.length:Int)):=by omega
   have hk:=HLN.out
   rw [← show i=l.length by omega] at hk
   have VC:=z86 HOK.out hk
   have VT:=tksJ (S:=S) HOK.out
   have hjd:=z8r (S:=S) HOK.out
   have hsz:=z87 HOK.out
   obtain ⟨ns,hns⟩:∃ ns,ns=(List.range i).map (nJ l):=⟨_,rfl⟩
   obtain ⟨os,hos⟩:∃ os,os=(List.range i).map (oJ l S):=⟨_,rfl⟩
   obtain ⟨fs,hfs⟩:∃ fs,fs=(List.range i).map (fJ l):=⟨_,rfl⟩
   have hfl:fs.length=i:=by rw [hfs];simp
   have hT:=HT.out
   rw [← hns,← hos,← hfs] at hT
   rw [← hns] at VC
   rw [← hns,← hos,← hfs] at VT hjd
   rw [← hfs] at hsz
   rw [← HHS.out] at hjd
   rw [← hfl] at hsz
   have VF:TksV ns [⟨fs,1⟩]:=⟨by simp,fun t ht=>VT.len t (List.mem_cons_of_mem _ ht),fun t ht=>VT.each t (List.mem_cons_of_mem _ ht),fun t ht=>VT.u t (List.mem_cons_of_mem _ ht)⟩
   have hic:=hT.oc.oneInts
   have hit:=hT.ot.oneInts
   have hif:=hT.of.oneInts
   obtain ⟨ca,ccap,rfl,-,-,-⟩:=hic.spec
   rw [zaq] at hic hT
   have cc:=hT.cc
   have ct:=hT.ct
   have cu:=hT.cu
   have cf:=hT.cf
   have cv:=hT.cv
   have zc:=World.block_lt_of_cell? _ _ cc
   have zt:=World.block_lt_of_cell? _ _ ct
   have zf:=World.block_lt_of_cell? _ _ cf
   simp only at zc zt zf
   have HVC:=Lib.hid VC
   have HVT:=Lib.hid VT
   have HVF:=Lib.hid VF
   have HJD:=Lib.hid hjd
   have HSZ:=Lib.hid hsz
   have HIC:=Lib.hid hic
   have HIT:=Lib.hid hit
   have HIF:=Lib.hid hif
   clear VC VT VF hjd hsz hic hit hif hT hns hos hfs hfl hk HT HOK HHS HLN
   obtain ⟨Y,hY⟩:∃ Y,Y=X.alloc (.cells #[t,.int .i64 1,f,.int .i64 1] 33):=⟨_,rfl⟩
   have hE:Ext X Y:=by rw [hY];exact xx
   have d0:Y.cell? ⟨X.heap.size,0,none⟩=some t:=by rw [hY];simp [go_sem]
   have d1:Y.cell? ⟨X.heap.size,1,none⟩=some (.int .i64 1):=by rw [hY];simp [go_sem]
   have d2:Y.cell? ⟨X.heap.size,2,none⟩=some f:=by rw [hY];simp [go_sem]
   have d3:Y.cell? ⟨X.heap.size,3,none⟩=some (.int .i64 1):=by rw [hY];simp [go_sem]
   have HTK:Hid (IsTks Y (.slice (some ⟨X.heap.size,0,none⟩) 2 2) [(t,⟨os,1⟩),(f,⟨fs,1⟩)]):=Lib.hid (z7q (HIT.out.ext hE) (HIF.out.ext hE) d0 d1 d2 d3)
   have HEY:=Lib.hid hE
   have HYY:=Lib.hid hY
   clear hE d0 d1 d2 d3 hY
   go_wp2_with fail
   rw [← HYY.out]
   refine (z5k ns [(t,⟨os,1⟩),(f,⟨fs,1⟩)] ca _ ccap 2 Y (HIC.out.ext HEY.out) HTK.out HVC.out HVT.out).mono ?_
   rintro e Z ⟨v,rfl,hE,hI⟩
   have hI:IsInts Z .i64 v (natL (idleB [os,fs] [1,1] (zbd ns [os,fs]))):=hI
   have hXZ:=HEY.out.trans' hE
   replace cc:=zh hXZ cc
   replace cf:=zh hXZ cf
   replace cv:=zh hXZ cv
   replace zc:=World.block_lt_of_cell? _ _ cc
   replace zf:=World.block_lt_of_cell? _ _ cf
   simp only at zc zf
   have HXZ:=Lib.hid hXZ
   have HI:=Lib.hid hI
   clear hE hI hXZ ct cu zt HTK HEY HYY HIT HVT
   go_wp2_with fail
   refine (z3i ns ⟨fs,1⟩ f ca ccap Z (HIC.out.ext HXZ.out) (HIF.out.ext HXZ.out) HVC.out HVF.out).mono ?_
   rintro e U ⟨rfl,hE⟩
   have HXU:=Lib.hid (HXZ.out.trans' hE)
   have HIU:=Lib.hid (HI.out.ext hE)
   obtain ⟨z,hz⟩:∃ z,z=zbj fs fs.length:=⟨_,rfl⟩
   have hz1:=HSZ.out
   rw [← hz] at hz1
   simp only
   rw [← hz]
   have hzi:(1:Int)≤(z:Int):=by omega
   have hzd:decide ((1:Int)≤(z:Int))=true:=decide_eq_true hzi
   obtain ⟨ids,hids⟩:∃ ids,ids=natL (idleB [os,fs] [1,1] (zbd ns [os,fs])):=⟨_,rfl⟩
   have hju:=HJD.out
   rw [← hids] at hju
   have hiu:=HIU.out
   rw [← hids] at hiu
   have HIU:=Lib.hid hiu
   clear hz hz1 hids hE hiu cc cf cv zc zf
   go_wp2_with fail
   refine (z5o ids v 1 U HIU.out).mono ?_
   rintro e U2 ⟨rfl,hE⟩
   have HX2:=Lib.hid (HXU.out.trans' hE)
   rw [hju]
   clear hju hE
   go_wp2_with fail
   refine (zc6 _).mono ?_
   rintro e U3 ⟨rfl,hE⟩
   have HX3:=Lib.hid (HX2.out.trans' hE)
   clear hE
   go_wp2_with fail
   go_ret
   exact ⟨rfl,HWX.out.trans' HX3.out⟩
end Go.Proofs.YtkfifbopmpcanaaGreat
