/-
  A summary for the evaluator: serve, over the floor that lies in memory; it answers with new memory.
-/
import Derived.Test.YtnfdiohfojjnlaaGreatLi
import Derived.Test.YtnfdiohfojjnlaaGreatWd
set_option maxRecDepth 1000000
set_option maxHeartbeats 0
namespace Go.Proofs.YtnfdiohfojjnlaaGreat
open Go.RowKit
section
variable {ρ:Rho} {S:St} {T:Nat→Prop} {w w':World}
theorem zadj (h:Fit ρ S T w) (q:Nat) {o:AO} {obj:Obj} {b k:Nat} (hf:ρ S.next=none) (hB:Below w.heap.size w w') (hb:w.heap.size≤b) (hw:w'.heap[b]? = some obj)
  (ho:zcn (zed ρ S.next ⟨b,0,k,fun _=>true⟩) ⟨b,0,k,fun _=>true⟩ (some obj) o):Stp ρ S T w (zed ρ S.next ⟨b,0,k,fun _=>true⟩) ((S.orM q).alloced o) w':=by
 have hold:∀ c,c < w.heap.size→w'.heap[c]? = w.heap[c]?:=fun c hc=>hB.block c hc
 have hn:((S.orM q).alloced o).next=S.next+1:=rfl;have hsub:=zee (ρ:=ρ) (n:=S.next) ⟨b,0,k,fun _=>true⟩ hf;have place:∀ m x,T m→((S.orM q).alloced o).get m=some x→(m=S.next∧x=o)∨(m≠S.next∧S.get m=some x∧∃ L,ρ m=some L∧L.b < w.heap.size∧zcn ρ L w.heap[L.b]? x):=fun m x hTm hx=>by
  rcases St.get_alloced hx with h1 | ⟨h1,h2⟩
  ·exact .inl h1
  ·rw [zhk] at h2
   obtain ⟨L,e1,e2⟩:=h.obj m x hTm h2;exact .inr ⟨h1,h2,L,e1,e2.some,e2⟩
 refine ⟨fun m hm=>zav _ (by have hm:m < S.next∨S.next+1≤m:=hm;omega),⟨fun m x hTm hx=>?_,fun a c x y L L' hTa hTb hx hy hL hL' hb'=>?_⟩,fun n x L h1 h2 _ hL=>?_,fun c hc _=>hold c hc,hB.size,(zl3 S q).trans (za8 _ o),⟨hB.os,hB.tape,hB.output⟩⟩
 ·rcases place m x hTm hx with ⟨rfl,rfl⟩ | ⟨h1,_,L,e1,e2,e3⟩
  ·exact ⟨_,zac _ _ _,by show zcn _ _ w'.heap[b]? _;rw [hw];exact ho⟩
  ·exact ⟨L,by rw [zav _ h1];exact e1,by rw [hold _ e2];exact e3.mono hsub⟩
 ·rcases place a x hTa hx with ⟨ha,_⟩ | ⟨ha,ga,La,ea,la,_⟩<;>rcases place c y hTb hy with ⟨hc',_⟩ | ⟨hc',gb,Lb,eb,lb,_⟩
  ·rw [ha,hc']
  ·exfalso
   rw [ha,zac] at hL;rw [zav _ hc',eb] at hL';have e1:=Option.some.inj hL;have e2:=Option.some.inj hL';rw [← e1,← e2] at hb';have:b=Lb.b:=hb';omega
  ·exfalso
   rw [hc',zac] at hL';rw [zav _ ha,ea] at hL;have e1:=Option.some.inj hL;have e2:=Option.some.inj hL';rw [← e1,← e2] at hb';have:La.b=b:=hb';omega
  ·rw [zav _ ha] at hL
   rw [zav _ hc'] at hL';exact h.inj a c x y L L' hTa hTb ga gb hL hL' hb'
 ·have h1:S.next≤n:=h1
  have h2:n < S.next+1:=h2;have e:n=S.next:=by omega
  rw [e,zac] at hL;have:=Option.some.inj hL;exact .inl (by rw [← this];exact hb)
end
noncomputable def sumS:List AV→St→Option Res:=fun args S=>match args with
 | [.ptr t p0,.int .i64 (.ofNat k),cv]=>bnd (zg1 S t p0) fun vM=>bnd (ztb vM) fun M=>bnd (zg1 S t (Nat.add p0 1)) fun vp=>bnd (rowAt vp) fun rp=>bnd (rowAt cv) fun rc=>(match rp.1,rc.1 with
   | some np,some nc=>bnd (S.get np.1) fun op=>bnd (zda op) fun cp=>bnd (seg cp np.2 (Nat.mul rp.2 3)) fun xp=>bnd (zrq xp) fun lp=>bnd (S.get nc.1) fun oc=>bnd (zda oc) fun cc=>bnd (seg cc nc.2 rc.2) fun xc=>bnd (zrq xc) fun lc =>
     (fun s=>zk (Nat.beq rc.2 rp.2 && Nat.ble M 1000 && Nat.ble rp.2 1000 && Nat.ble k 1000 && Nat.beq s.out.length rp.2)
      (some ⟨.normal,⟨.leaf,0⟩,[],.tup [.sl S.next 0 rp.2 rp.2,.int .i64 (.ofNat s.shut)],(S.orM (Nat.lor (Nat.lor (zm t) (zm np.1)) (zm nc.1))).alloced (.cells (s.out.map fun n=>.int .i64 (.ofNat n)))⟩) none)
     (toW (fun i=>lc.getD i 0) (fun i=>lp.getD (i * 3+2) 0) rp.2 k M)
   | _,_=>none)
 | _=>none
theorem zadk {E:Env} {args:List AV} {S:St} {r:Res} (h:sumS args S=some r):Lcl S r.st∧zc0 Tryz.prog E S r (.call 47 args):=by
 unfold sumS at h
 split at h
 ·rename_i t p0 k cv
  obtain ⟨vM,b1,h⟩:=zd h;obtain ⟨M,b2,h⟩:=zd h;obtain ⟨vp,b3,h⟩:=zd h;obtain ⟨rp,b4,h⟩:=zd h;obtain ⟨rc,b5,h⟩:=zd h;obtain ⟨rp1,n⟩:=rp;obtain ⟨rc1,nc⟩:=rc
  split at h
  ·rename_i np ncn e1 e2
   have e1:rp1=some np:=e1;have e2:rc1=some ncn:=e2;subst e1 e2;obtain ⟨np,offp⟩:=np;obtain ⟨ncn,offc⟩:=ncn;obtain ⟨op,g1,h⟩:=zd h;obtain ⟨cp,g2,h⟩:=zd h;obtain ⟨xp,g3,h⟩:=zd h;obtain ⟨lp,g4,h⟩:=zd h;obtain ⟨oc,g5,h⟩:=zd h;obtain ⟨cc,g6,h⟩:=zd h;obtain ⟨xc,g7,h⟩:=zd h;obtain ⟨lc,g8,h⟩:=zd h;rw [zbn g2] at g1;rw [zbn g6] at g5
   dsimp only at h b4 b5 g1 g3 g5 g7
   obtain ⟨s,hs⟩:∃ s,s=toW (fun i=>lc.getD i 0) (fun i=>lp.getD (i * 3+2) 0) n k M:=⟨_,rfl⟩
   rw [← hs] at h;obtain ⟨hc,h⟩:=zf h;cases h;simp only [Bool.and_eq_true] at hc;obtain ⟨⟨⟨⟨q1,q2⟩,q3⟩,q4⟩,q5⟩:=hc;have q1:n=nc:=(Nat.eq_of_beq_eq_true q1).symm;have q2:M≤1000:=Nat.le_of_ble_eq_true q2;have q3:n≤1000:=Nat.le_of_ble_eq_true q3;have q4:k≤1000:=Nat.le_of_ble_eq_true q4;have q5:=Nat.eq_of_beq_eq_true q5;subst q1;obtain ⟨s1,s2,-⟩:=zgd g3;obtain ⟨s3,s4,-⟩:=zgd g7;have k1:=zj4 g4;have k2:=zj4 g8;refine ⟨(zl3 S _).trans (za8 _ _),⟨_,_,Tryz.func47,rfl⟩,fun T ρ w vs hfit hT hfr hvs=>?_⟩;have tM:∀ x,bit (Nat.lor (Nat.lor (zm t) (zm np)) (zm ncn)) x→T x:=fun x hx=>hT x (zg.2 (.inl (zg.2 (.inr hx))))
   have tt:T t:=tM t (zg.2 (.inl (zg.2 (.inl (zl.2 rfl)))));have tp:T np:=tM np (zg.2 (.inl (zg.2 (.inr (zl.2 rfl)))));have tc:T ncn:=tM ncn (zg.2 (.inr (zl.2 rfl)));obtain ⟨P0,r1,ev,hP,hr1⟩:=hvs;obtain ⟨P1,r2,ev1,hP1,hr2⟩:=hr1;obtain ⟨P2,r3,ev2,hP2,hr3⟩:=hr2;have hr3:r3=[]:=hr3;subst hr3 ev2 ev1;obtain ⟨L0,hL0,eP⟩:=hP;have eP1:P1 = .int .i64 (.ofNat k):=hP1;have at_:∀ (j:Nat) (a:AV),zg1 S t (Nat.add p0 j)=some a→∃ X,w.cell? ⟨L0.b,L0.s+p0+j,none⟩=some X∧RV ρ a X:=fun j a ha=>by
    obtain ⟨L,X,z1,z2,z3,z4⟩:=zj5 hfit tt ha (V:=.pointer (some ⟨L0.b,L0.s+(Nat.add p0 j),none⟩)) ⟨L0,hL0,rfl⟩;rw [hL0] at z1;cases z1;have e9:L0.s+p0+j=L0.s+Nat.add p0 j:=by show L0.s+p0+j=L0.s+(p0+j);omega
    exact ⟨X,by rw [e9];exact z3,z4⟩
   obtain ⟨X0,u0,u0'⟩:=at_ 0 vM b1;obtain ⟨X1,u1,u1'⟩:=at_ 1 vp b3;have eM:vM = .int .i64 (.ofNat M):=by
    unfold ztb at b2
    split at b2
    ·cases b2;rfl
    ·cases b2
   rw [eM] at u0';have u0':X0 = .int .i64 (.ofNat M):=u0';obtain ⟨Lp,op',capp,f1,f2,f3,f4⟩:=zj8 b4 u1';obtain ⟨Lc,oc',capc,f5,f6,f7,f8⟩:=zj8 b5 hP2;obtain ⟨_,z1,cs1,ee1,z2,z3,z4,z5⟩:=hfit.obj np _ tp g1;rw [f1] at z1;cases z1;obtain ⟨_,z6,cs2,ee2,z7,z8,z9,z10⟩:=hfit.obj ncn _ tc g5;rw [f5] at z6;cases z6;have key:=ztr L0.b (L0.s+p0) M k n capp capc (fun i=>lp.getD (i * 3+2) 0) (fun i=>lc.getD i 0) (some ⟨Lp.b,op',none⟩) (some ⟨Lc.b,oc',none⟩) w (by rw [show L0.s+p0=L0.s+p0+0 by omega,u0,u0'];rfl) (by rw [u1,f2]) (fun i hi=>?_) (fun i hi=>?_) q2 q3 q4
   ·have ev3:vs = #[.pointer (some ⟨L0.b,L0.s+p0,none⟩),.int .i64 (k:Int),.slice (some ⟨Lc.b,oc',none⟩) n capc]:=by
     apply Array.toList_inj.1;rw [ev,eP,eP1,f6];rfl
    rw [ev3];refine key.mono ?_
    rintro e W ⟨b,hb,rfl,hE,hO⟩;rw [← hs] at hO;refine ⟨_,zed ρ S.next ⟨b,0,n,fun _=>true⟩,rfl,zadj hfit _ (hfr S.next (Nat.le_refl _) (Nat.lt_succ_self _)) hE hb hO ⟨_,_,rfl,?_,?_,fun i a hi=>?_⟩,?_⟩
    ·simp [q5]
    ·simp [q5]
    ·rw [List.getElem?_map] at hi
     obtain ⟨x,hx,rfl⟩:=Option.map_eq_some_iff.1 hi;refine ⟨.int .i64 (.ofNat x),?_,rfl⟩;simp [hx]
    ·refine ⟨#[.slice (some ⟨b,0,none⟩) n n,.int .i64 (.ofNat s.shut)],by rw [← hs];rfl,_,_,rfl,⟨_,0,zac _ _ _,rfl,Nat.le_refl _,.inr rfl⟩,_,_,rfl,rfl,rfl⟩
   ·have hil:i * 3+2 < Nat.mul n 3:=by show i * 3+2 < n * 3;omega
    have hl:lp.length=n * 3:=by have s2:xp.length=n * 3:=s2;rw [← s2,k1,List.length_map]
    have hx:xp[i * 3+2]? = some (.int .i64 (.ofNat (lp.getD (i * 3+2) 0))):=by
     rw [k1,List.getElem?_map,List.getElem?_eq_getElem (by omega),List.getD_eq_getElem?_getD,List.getElem?_eq_getElem (by omega)];rfl
    rw [s1,List.getElem?_take,if_pos hil,List.getElem?_drop] at hx;obtain ⟨X,y1,y2⟩:=RC.cell z2 z5 hx;have y2:X = .int .i64 (.ofNat (lp.getD (i * 3+2) 0)):=y2;have ho:op'=Lp.s+offp:=by rcases f4 with q | q;omega;exact q
    refine ⟨Lp.b,op',rfl,?_⟩;rw [ho,show Lp.s+offp+i * 3+2=Lp.s+(offp+(i * 3+2)) by omega,y1,y2];rfl
   ·have hl:lc.length=n:=by have s4:xc.length=n:=s4;rw [← s4,k2,List.length_map]
    have hx:xc[i]? = some (.int .i64 (.ofNat (lc.getD i 0))):=by
     rw [k2,List.getElem?_map,List.getElem?_eq_getElem (by omega),List.getD_eq_getElem?_getD,List.getElem?_eq_getElem (by omega)];rfl
    rw [s3,List.getElem?_take,if_pos hi,List.getElem?_drop] at hx;obtain ⟨X,y1,y2⟩:=RC.cell z7 z10 hx;have y2:X = .int .i64 (.ofNat (lc.getD i 0)):=y2;have ho:oc'=Lc.s+offc:=by rcases f8 with q | q;omega;exact q
    refine ⟨Lc.b,oc',rfl,?_⟩;rw [ho,show Lc.s+offc+i=Lc.s+(offc+i) by omega,y1,y2];rfl
  ·cases h
 ·cases h
noncomputable def tabS:List (Nat × (List AV→St→Option Res)):=(47,sumS) :: z2e
noncomputable def ES:Env:={ zze Tryz.prog with tab:=zy tabS }
theorem zabq:zaq ES Tryz.prog:=⟨(zre Tryz.prog).ty,(zre Tryz.prog).fn⟩
theorem zaex:ziu Tryz.prog ES:=ztc rfl fun p hp args S r h=>by
 unfold tabS at hp
 rcases List.mem_cons.1 hp with rfl | hp
 ·exact zadk h
 ·exact zwo p hp args S r h
end Go.Proofs.YtnfdiohfojjnlaaGreat
