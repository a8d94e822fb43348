/-
  The evaluator is right: a loop over a map as a whole.
-/
import Derived.Test.YtnfdiohfojjnlaaGreatLe
set_option maxRecDepth 200000
set_option maxHeartbeats 0
namespace Go.Proofs.YtnfdiohfojjnlaaGreat
open Go.RowKit
open Go.ChangeMaps (setBlock)
theorem zqk (p q:Nat→Bool) (i:Nat):∀ n,(∀ j,j≠i→q j=p j)→p i=true→q i=false→i < n→(List.range n).countP p=(List.range n).countP q+1
 | 0,_,_,_,hi=>absurd hi (by omega)
 | n+1,h,hp,hq,hi=>by
  rw [List.range_succ,List.countP_append,List.countP_append]
  by_cases e:i=n
  ·subst e
   have:(List.range i).countP p=(List.range i).countP q:=List.countP_congr fun j hj=>by
    have:=List.mem_range.1 hj;rw [h j (by omega)]
   rw [this];simp [hp,hq]
  ·rw [zqk p q i n h hp hq (by omega)]
   have:q n=p n:=h n (fun e'=>e e'.symm);simp only [List.countP_cons,List.countP_nil,this];omega
theorem z1t {g:Nat→Bool} (h:∀ j,g j=true):∀ (l:List Ent) (j:Nat),zah g j l=l
 | [],_=>rfl
 | e :: l,j=>by unfold zah;rw [if_pos (h j),z1t h l]
theorem zwh {T0 T1:Tm} {d1 d2:Nat} {v1 v2:AV} (h:set2 T0 d1 d2 v1 v2=some T1):d1 < T0.sz∧d2 < T0.sz:=by
 have lt:∀ {α:Type} {q:α} {tm:Tm} {d:Nat} {v:AV} {k:Tm→Option α},tm.putK (some d) v k=some q→d < tm.sz:=fun {α q tm d v k} hr=>by
  cases tm with
  | mk m sz =>
   have hr:zk (Nat.ble (Nat.succ d) sz) (Tr.putK 24 d (some v) m fun m=>k ⟨m,sz⟩) none=some q:=hr;exact Nat.le_of_ble_eq_true (zf hr).1
 unfold set2 at h;obtain ⟨Ta,h1,s1,_⟩:=zly h;have:=lt h1;exact ⟨lt h,by rw [← s1];exact this⟩
theorem zhh {P:Program} {ops:Array Oper} {i:Nat} {o:Oper} {ro:Option Nat} {n:Nat} {Q:Exit→Act→World→Prop} {K:Act→World→Prop} {a:Act} {w w':World} {V:Value} (hi:ops[i]? = some o) (hg:o.guard=none) (hd:∀ c,o.op≠.defer c)
  (hrun:(execOp a.eval o).run P w = .ok (.value V) w') (h:K (a.put o.dst V) w'):wpOpIn (FV ro) n P ops Q i K a w:=by
 unfold wpOpIn;rw [hi];have hw:Region.wanted o (yielded ops a.tmps)=true:=by simp [Region.wanted,hg]
 simp only;rw [if_pos hw];refine ⟨fun _ _=>trivial,?_⟩;rw [Oper.semAt_plain (FV ro) a.eval o hd,hrun];exact h
theorem zql {ops:List Oper} {h:Nat × Nat × Nat} (hh:zls ops=some h):h.2.1≠h.2.2∧∃ t1 p1 a1 t2 p2 a2,ops=[⟨some h.2.1,.next (.tmp h.1) false,t1,p1,a1,none⟩,⟨some h.2.2,.extract (.tmp h.2.1) 0,t2,p2,a2,none⟩]:=by
 unfold zls at hh
 split at hh
 ·split at hh
  ·rename_i hc
   cases hh;simp only [Bool.and_eq_true,Bool.not_eq_true'] at hc;have e1:=Nat.eq_of_beq_eq_true hc.1;subst e1;refine ⟨fun e0=>?_,_,_,_,_,_,_,rfl⟩;have e1:=hc.2;simp only at e0;rw [e0,Nat.beq_refl] at e1;cases e1
  ·cases hh
 ·cases hh
section
variable {P:Program} {E:Env} {ih:Ih} {ro:Option Nat} {rest:Code} {T0:Tm} {it d1 d2:Nat} {mk:List Nat} {S:St} {n m:Nat} {es:List Ent} {ck:Nat} {qs:List Rd}
noncomputable def zg0 (S:St) (n m:Nat) (es:List Ent) (ck:Nat) (qs:List Rd):St :=
 ⟨Tr.put 24 m (some (.map (ze5 es qs) ck)) (Tr.put 24 n none S.heap),zdm S.next qs,Nat.lor (Nat.lor S.t (orT qs)) (Nat.lor (zm n) (zm m)),Nat.lor (Nat.lor S.w (orW qs)) (Nat.lor (zm n) (zm m))⟩
theorem z8b {β:Type} (k:St→β):z08 S n m es ck qs k=k (zg0 S n m es ck qs):=by
 unfold z08 zg0;simp only [zan]
theorem zxz (C:zrm P E ih ro rest T0 it d1 d2 mk S n m es ck qs) {q:Rd} (hq:q∈qs):∃ (S0 R:St),S0.next=S.next∧S0.w=0∧Lcl S0 R∧R.t=q.t∧R.w=q.w∧R.next=q.nx:=by
 obtain ⟨hlen,hat⟩:=zkk C.rounds;obtain ⟨j,hj⟩:=List.mem_iff_getElem?.1 hq;have hlt:=(List.getElem?_eq_some_iff.1 hj).1;obtain ⟨q',hq',hf⟩:=hat j _ (List.getElem?_eq_getElem (by omega));rw [hj] at hq';cases hq';unfold zoq at hf;obtain ⟨T1,hT1,hf⟩:=zd hf;obtain ⟨r,hr,hf⟩:=zd hf;obtain ⟨hok,hf⟩:=zf hf;obtain ⟨o,ho,hf⟩:=zd hf;obtain ⟨z,hz,hf⟩:=zd hf;obtain ⟨hz2,hf⟩:=zf hf;cases hf;exact ⟨zc6 S n m es ck _ _,r.st,rfl,rfl,(C.hih _ _ _ hr).1,rfl,rfl,rfl⟩
theorem z4c (C:zrm P E ih ro rest T0 it d1 d2 mk S n m es ck qs):Lcl S (zg0 S n m es ck qs):=by
 have hmx:=zrl (n:=S.next) (qs:=qs);have get:∀ x,(zg0 S n m es ck qs).get x=if x=m then some (.map (ze5 es qs) ck) else if x=n then none else S.get x:=fun x=>by
  show (⟨Tr.put 24 m _ (Tr.put 24 n none S.heap),_,_,_⟩:St).get x=_;rw [zco,← St.get_eq]
 refine ⟨hmx.1,fun x h=>zg.2 (.inl (zg.2 (.inl h))),fun x h=>zg.2 (.inl (zg.2 (.inl h))),fun x o _ ho=>?_,fun x h1 h2=>?_,fun x o hw ho=>?_,fun h0 x hx=>?_⟩
 ·rw [get] at ho
  by_cases h1:x=m
  ·subst h1;exact ⟨_,C.gm⟩
  ·rw [if_neg h1] at ho
   by_cases h2:x=n
   ·rw [if_pos h2] at ho;cases ho
   ·rw [if_neg h2] at ho;exact ⟨o,ho⟩
 ·obtain ⟨q,hq,hlt⟩:=hmx.2.2 x h1 h2
  obtain ⟨S0,R,e1,_,e2,e3,e4,e5⟩:=zxz C hq;have:=e2.new x (by omega) (by omega);rw [e3,e4] at this;exact ⟨zg.2 (.inl (zg.2 (.inr (z1s.2 ⟨q,hq,this.1⟩)))),zg.2 (.inl (zg.2 (.inr (zuo.2 ⟨q,hq,this.2⟩))))⟩
 ·rw [get] at ho
  have h1:x≠m:=fun e=>hw (zg.2 (.inr (zg.2 (.inr (zl.2 e)))))
  have h2:x≠n:=fun e=>hw (zg.2 (.inr (zg.2 (.inl (zl.2 e)))))
  rw [if_neg h1,if_neg h2] at ho;exact ho
 ·rcases zg.1 hx with hx | hx
  ·rcases zg.1 hx with hx | hx
   ·exact zg.2 (.inl (zg.2 (.inl (h0 x hx))))
   ·obtain ⟨q,hq,hb⟩:=z1s.1 hx
    obtain ⟨S0,R,_,e1,e2,e3,e4,_⟩:=zxz C hq;have:=e2.wt (fun y hy=>by rw [e1] at hy;exact absurd hy (zup y)) x (by rw [e4];exact hb);rw [e3] at this;exact zg.2 (.inl (zg.2 (.inr (zuo.2 ⟨q,hq,this⟩))))
  ·exact zg.2 (.inr hx)
theorem zkl.stp (C:zrm P E ih ro rest T0 it d1 d2 mk S n m es ck qs) {T:Nat→Prop} {ρ:Rho} {w:World} {N M:Loc} (hTn:T n) (hTm:T m) (hfr:zbl ρ S.next (zdm S.next qs)) (hρn:ρ n=some N) (hρm:ρ m=some M)
  {v:Nat→Bool} {seen:List Nat} {a':Act} {w':World} (I:zkl es ck T0 mk S n m qs T ρ w N M v seen a' w') (hall:∀ j,j < es.length→v j=true):Stp ρ S T w ρ (zg0 S n m es ck qs) w':=by
 obtain ⟨hlen,_⟩:=zkk C.rounds;have hnm:n≠m:=fun e0=>by have:=C.gn;rw [e0,C.gm] at this;cases this
 have get:∀ x,(zg0 S n m es ck qs).get x=if x=m then some (.map (ze5 es qs) ck) else if x=n then none else S.get x:=fun x=>by
  show (⟨Tr.put 24 m _ (Tr.put 24 n none S.heap),_,_,_⟩:St).get x=_;rw [zco,← St.get_eq]
 have gn':∀ p sn,(zbj S n m es ck sn p).get n=some (.it m ck sn):=fun p sn=>by unfold zbj;rw [zco,if_pos rfl]
 have gm':∀ p sn,(zbj S n m es ck sn p).get m=some (.map (zah p 0 es) ck):=fun p sn=>by unfold zbj;rw [zco,if_neg (Ne.symm hnm),if_pos rfl]
 have go':∀ p sn x,x≠n→x≠m→(zbj S n m es ck sn p).get x=S.get x:=fun p sn x h1 h2=>by unfold zbj;rw [zco,if_neg h1,if_neg h2,St.get_eq]
 have hkept:ze5 es qs=zah (fun j=>!v j || (qs[j]?.map (·.th)).getD false) 0 es:=by
  refine z4a hlen fun i q hq=>?_
  have hi:i < es.length:=by rw [← hlen];exact (List.getElem?_eq_some_iff.1 hq).1
  simp only [Nat.zero_add];rw [hall i hi,hq];rfl
 have was:∀ x o,(zg0 S n m es ck qs).get x=some o→(zbj S n m es ck seen (fun j=>!v j || (qs[j]?.map (·.th)).getD false)).get x=some o:=fun x o hx=>by
  rw [get] at hx
  by_cases h1:x=m
  ·subst h1
   rw [if_pos rfl] at hx;cases hx;rw [gm',hkept]
  ·rw [if_neg h1] at hx
   by_cases h2:x=n
   ·rw [if_pos h2] at hx;cases hx
   ·rw [if_neg h2] at hx
    rw [go' _ _ x h2 h1];exact hx
 refine ⟨fun _ _=>rfl,⟨fun x o hx ho=>I.fit.obj x o hx (was x o ho),fun x x' o o' L L' hx hx' ho ho'=>I.fit.inj x x' o o' L L' hx hx' (was x o ho) (was x' o' ho')⟩,fun x o L h1 h2 _ hL=>?_,fun b hb hno=>?_,I.size,z4c C,I.rest⟩
 ·have h3:(zg0 S n m es ck qs).next=zdm S.next qs:=rfl
  rw [hfr x h1 (by omega)] at hL;cases hL
 ·refine I.frame b hb (fun e=>?_) (fun e=>?_)
  ·exact hno n _ N hTn (zg.2 (.inr (zg.2 (.inl (zl.2 rfl))))) C.gn hρn e.symm
  ·exact hno m _ M hTm (zg.2 (.inr (zg.2 (.inr (zl.2 rfl))))) C.gm hρm e.symm
theorem zkl.loop (C:zrm P E ih ro rest T0 it d1 d2 mk S n m es ck qs) {T1e:Tm} {r:Res} (hT1e:set2 T0 d1 d2 (.tup [.bool false]) (.bool false)=some T1e) (hrE:ih (.code ro rest T1e mk) (zg0 S n m es ck qs)=some r) (hnr:zak r.ex=false)
  {T:Nat→Prop} {ρ:Rho} {w:World} {N M:Loc} (hTn:T n) (hTm:T m) (hTr:∀ x,bit r.st.t x→T x) (hfr:zbl ρ S.next r.st.next) (hρn:ρ n=some N) (hρm:ρ m=some M) {roC:Option Nat} (hro:ze9 ρ ro roC) {n0 id:Nat} {ops:Array Oper} {t1 t2:Nat} {p1 p2:String} {x1 x2:Array Edge}
  (hops:ops.toList=[⟨some d1,.next (.tmp it) false,t1,p1,x1,none⟩,⟨some d2,.extract (.tmp d1) 0,t2,p2,x2,none⟩]) :
  ∀ (k:Nat) (v:Nat→Bool) (seen:List Nat) (a':Act) (w':World),zkl es ck T0 mk S n m qs T ρ w N M v seen a' w'→(List.range es.length).countP (fun j=>!v j)=k →
   Code.roundsIn (FV roC) n0 P (.seq (.region id ops false) rest) (za4 P T ρ S w r) (k+1) a' w':=by
 obtain ⟨gE,mE,hE2⟩:=C.hih _ _ _ hrE;have hmx:=zrl (n:=S.next) (qs:=qs);have hnx:zdm S.next qs≤r.st.next:=gE.next;have hTq:∀ q∈qs,∀ x,bit q.t x→T x:=fun q hq x hx=>hTr x (gE.t x (zg.2 (.inl (zg.2 (.inr (zuo.2 ⟨q,hq,hx⟩))))))
 have hfr2:zbl ρ S.next (zdm S.next qs):=fun x h1 h2=>hfr x h1 (Nat.lt_of_lt_of_le h2 hnx)
 have hnm:n≠m:=fun e0=>by have:=C.gn;rw [e0,C.gm] at this;cases this
 have eops:ops = #[⟨some d1,.next (.tmp it) false,t1,p1,x1,none⟩,⟨some d2,.extract (.tmp d1) 0,t2,p2,x2,none⟩]:=Array.toList_inj.1 hops;obtain ⟨hl1,hl2⟩:=zwh hT1e;intro k
 induction k with
 | zero=>?_
 | succ k ihk=>?_
 all_goals
  intro v seen a' w' I hcnt;obtain ⟨N',hN',hNs,M2,hM2,hNo⟩:=I.fit.obj n (.it m ck seen) hTn (by unfold zbj;rw [zco,if_pos rfl]);rw [hρn] at hN';cases hN';rw [hρm] at hM2;cases hM2;obtain ⟨M',hM',ents,hMo,hMe⟩:=I.fit.obj m (.map (zah (fun j=>!v j || (qs[j]?.map (·.th)).getD false) 0 es) ck) hTm (by unfold zbj;rw [zco,if_neg (Ne.symm hnm),if_pos rfl]);rw [hρm] at hM';cases hM';obtain ⟨V,hV1,L0,hL0,hV2⟩:=I.rt it _ (show Tr.get T0.m it=some (.ptr n 0) by have:=C.tmp;cases T0;exact this);rw [hρn] at hL0;cases hL0;have hev:a'.eval (.tmp it) = .pointer (some ⟨N.b,0,none⟩):=by
   rw [hNs,Nat.zero_add] at hV2;simp [Act.eval,Array.getD_eq_getD_getElem?,hV1,hV2]
  show Code.wpIn (FV roC) n0 P (.seq (.region id ops false) rest) _ a' w';refine wpIn_seq (wpIn_region ?_);rw [eops];show wpOpsIn (FV roC) n0 P _ _ [0,1] a' w';rw [wpOpsIn_cons];have second:∀ (V:Value) (b:Bool) (vs:Array Value) (wz:World),V = .tuple vs→vs[0]? = some (.bool b)→∀ (Q:Exit→Act→World→Prop),Q .normal ((a'.put (some d1) V).put (some d2) (.bool b)) wz →
    wpOpsIn (FV roC) n0 P #[⟨some d1,.next (.tmp it) false,t1,p1,x1,none⟩,⟨some d2,.extract (.tmp d1) 0,t2,p2,x2,none⟩] Q [1] (a'.put (some d1) V) wz:=fun V b vs wz hV hvs Q hQ=>by
   rw [wpOpsIn_cons];have hlt:d1 < a'.tmps.size:=by rw [I.sz];exact hl1
   have hX:(a'.put (some d1) V).eval (.tmp d1) = .tuple vs:=by simp [Act.eval,Act.put,hlt,hV]
   refine zhh rfl rfl (fun c=>by simp) (V:=.bool b) (w':=wz) (by simp [execOp,hX,Instr.extract,hvs]) ?_
   exact hQ
  have hold:∀ x∈ents.toList,x.born < ck:=fun x hx=>by
   obtain ⟨y,hy,_,_,e⟩:=hMe.mem x hx;rw [e];exact C.born y (zhf hy)
  rcases run_next_at (P:=P) w' t1 N.b M.b ck ck seen.toArray ents ck hNo hMo hold (Nat.le_refl _) with ⟨h0,hrun⟩ | ⟨y,hy,w1,hw1,hrun⟩
  ·
   have hall:∀ j,j < es.length→v j=true:=fun j hj=>by
    cases hvj:v j with
    | true=>rfl
    | false =>
     exfalso;have hje:=List.getElem?_eq_getElem hj;have hmem:es[j]∈zah (fun j=>!v j || (qs[j]?.map (·.th)).getD false) 0 es:=zow.2 ⟨j,hje,by simp only [Nat.zero_add];rw [hvj];rfl⟩;obtain ⟨y,hy,hyb⟩:=hMe.has _ hmem;have hns:es[j].2.2 ∉ seen:=fun hs=>by rw [(I.seen j _ hje).2 hs] at hvj;cases hvj
     have:y∈(leftOf ents seen.toArray).toList:=by
      unfold leftOf;simp only [Array.toList_filter,List.mem_filter];refine ⟨hy,?_⟩;rw [hyb];simpa using hns
     have hz:(leftOf ents seen.toArray) = #[]:=Array.eq_empty_of_size_eq_zero h0;rw [hz] at this;cases this
   refine zhh (V:=.tuple #[.bool false]) (w':=w') rfl rfl (fun c=>by simp) (by simp [execOp,hev,hrun]) ?_
   refine second _ false #[.bool false] w' rfl rfl _ ?_
   have hstp:=I.stp C hTn hTm hfr2 hρn hρm hall;obtain ⟨s1,k1⟩:=zrn hT1e;have hpre:Pre E P T ρ (zg0 S n m es ck qs) w' T1e ((a'.put (some d1) (.tuple #[.bool false])).put (some d2) (.bool false)) :=
    ⟨C.hE,hstp.fit,k1 ρ a' _ _ I.sz I.rt ⟨_,rfl,_,_,rfl,rfl,rfl⟩ rfl,by rw [(put_eq _ _ _).2,(put_eq _ _ _).2,I.sz,s1]⟩
   have hfrE:zbl ρ (zg0 S n m es ck qs).next r.st.next:=fun x h1 h2=>hfr x (Nat.le_trans hmx.1 h1) h2
   have q:=(hE2 T ρ w' _ roC n0 hpre hTr hfrE (by rw [(put_eq _ _ _).1,(put_eq _ _ _).1];exact I.marks) hro).wp;show Code.wpIn (FV roC) n0 P rest _ _ _;refine wpIn_mono q fun ex a3 w3 hend=>?_
   have hq:za4 P T ρ S w r ex a3 w3:=by
    obtain ⟨ρ',g1,g2,g3⟩:=hend.step;exact ⟨hend.ex,⟨ρ',hstp.trans g1,g2,g3⟩,hend.size⟩
   cases ex with
   | normal=>rw [(zcu hend.ex).2 rfl] at hnr;cases hnr
   | _=>exact hq
  ·
   have hy2:y∈ents.toList∧y.born ∉ seen:=by
    unfold leftOf at hy;simp only [Array.toList_filter,List.mem_filter] at hy;exact ⟨hy.1,by simpa using hy.2⟩
   obtain ⟨e,he,hyk,hyv,hyb⟩:=hMe.mem y hy2.1;obtain ⟨j,hj,_⟩:=zow.1 he;have hvj:v j=false:=by
    cases hvj:v j with
    | false=>rfl
    | true=>exact absurd ((I.seen j e hj).1 hvj) (by rw [← hyb];exact hy2.2)
   have hjl:j < es.length:=(List.getElem?_eq_some_iff.1 hj).1;have hdown:=zqk (fun j=>!v j) (fun i=>!(if i=j then true else v i)) j es.length (fun i hi=>by rw [if_neg hi]) (by rw [hvj];rfl) (by rw [if_pos rfl];rfl) hjl
   first
    | (exfalso;omega)
    | (refine zhh (V:=.tuple #[.bool true,y.key,y.val]) (w':=setBlock w1 N.b (.mapIter (some M.b) ck (seen.toArray.push y.born) ck)) rfl rfl (fun c=>by simp) (by simp [execOp,hev,hrun]) ?_
       refine second _ true #[.bool true,y.key,y.val] _ rfl rfl _ ?_
       have hw1h:w1.heap=w'.heap:=by rcases hw1 with rfl | rfl<;>rfl
       show Code.wpIn (FV roC) n0 P rest _ _ _;refine I.round C hTn hTm hTq hfr2 hρn hρm hj hvj hyk hyv hyb hw1h (by rcases hw1 with rfl | rfl<;>exact ⟨rfl,rfl,rfl⟩) hro fun a2 w2 I2=>?_
       have z:=ihk _ _ a2 w2 I2 (by omega);rw [eops] at z;exact z)
end
section
variable {P:Program} {E:Env} {ih:Ih} {ro:Option Nat} {mk:List Nat} {S:St} {tm:Tm} {r:Res}
theorem z1u {o:AO} {q:Nat × Nat × List Nat} (h:itO o=some q):o = .it q.1 q.2.1 q.2.2:=by
 cases o<;>cases h;rfl
theorem z5t (hN:zb7 P) (hE:zaq E P) (hih:zb3 P E ih) {b:Code} (hr:zrc b E P ih ro tm mk S=some r):COk P E S r ro (.loop b) tm mk:=by
 unfold zrc at hr
 split at hr
 ·rename_i id ops rest
  obtain ⟨h,hh,hr⟩:=zd hr;obtain ⟨hd,t1,p1,x1,t2,p2,x2,hops⟩:=zql hh;obtain ⟨it,d1,d2⟩:=h;simp only at hr hd hops;have hT0:∀ t v,Tr.get (tm.less (Nat.lor (ze4 rest) (Nat.lor (zm d1) (zm d2)))).m t=some v→Tr.get tm.m t=some v:=fun t v ht=>zfa _ _ _ _ ht
  have hs0:(tm.less (Nat.lor (ze4 rest) (Nat.lor (zm d1) (zm d2)))).sz=tm.sz:=rfl;generalize tm.less (Nat.lor (ze4 rest) (Nat.lor (zm d1) (zm d2)))=T0 at hr hT0 hs0;unfold zabl at hr;obtain ⟨u,hu,hr⟩:=zd hr;obtain ⟨pp,hp,hr⟩:=zd hr;obtain ⟨h0,hr⟩:=zf hr;have h0:=Nat.eq_of_beq_eq_true h0;obtain ⟨o,go,hr⟩:=zd hr;obtain ⟨q,gq,hr⟩:=zd hr;obtain ⟨hnil,hr⟩:=zf hr;obtain ⟨o2,go2,hr⟩:=zd hr;obtain ⟨ec,gec,hr⟩:=zd hr;obtain ⟨hc,hr9⟩:=zf hr;simp only [Bool.and_eq_true] at hc;have hck:=Nat.eq_of_beq_eq_true hc.1.1;obtain ⟨n,off⟩:=pp;obtain ⟨m,ck,sn⟩:=q;obtain ⟨es,ck2⟩:=ec;simp only at h0 hnil hck hc hr9 go go2;subst h0 hck;rw [z1u gq] at go;rw [zci gec] at go2;simp only at go go2;have hsn:sn=[]:=by cases sn with | nil=>rfl | cons _ _=>cases hnil
  subst hsn;have hu:T0.get it=some (.ptr n 0):=by rw [hu,zdc hp]
  unfold z3w at hr9;obtain ⟨qs,hqs,hr⟩:=zd hr9;rw [z8b] at hr;obtain ⟨T1e,hT1e,hr⟩:=zd hr;obtain ⟨r',hrE,hr⟩:=zd hr;have hnr:zak r'.ex=false∧r'=r:=by
   cases hx:zak r'.ex with
   | true=>rw [hx] at hr;cases hr
   | false=>rw [hx] at hr;exact ⟨rfl,Option.some.inj hr⟩
  obtain ⟨hnr,rfl⟩:=hnr;have C:zrm P E ih ro rest T0 it d1 d2 mk S n m es ck2 qs:=⟨hN,hE,hih,hu,go,go2,fun e he=>by
   have:=List.all_eq_true.1 hc.1.2 e he;exact Nat.le_of_ble_eq_true this,zit hc.2,hd,hqs⟩
  have hl:=(hih _ _ _ hrE).1;refine ⟨(z4c C).trans hl,es.length+1,fun T ρ w a roC n0 h hT hf hm hro=>?_⟩;have hTn:T n:=hT n (hl.t n (zg.2 (.inr (zg.2 (.inl (zl.2 rfl))))));have hTm:T m:=hT m (hl.t m (zg.2 (.inr (zg.2 (.inr (zl.2 rfl))))));obtain ⟨N,hρn,_,M2,hM2,_⟩:=h.fit.obj n _ hTn go;obtain ⟨M,hρm,ents,_,hMe⟩:=h.fit.obj m _ hTm go2;have hnm:n≠m:=fun e0=>by rw [e0,go2] at go;cases go
  have get0:∀ x,(zbj S n m es ck2 [] (fun j=>!(fun _=>false) j || (qs[j]?.map (·.th)).getD false)).get x=S.get x:=fun x=>by
   unfold zbj;rw [zco]
   by_cases h1:x=n
   ·rw [if_pos h1,h1,go]
   ·rw [if_neg h1]
    by_cases h2:x=m
    ·have e9:=z1t (g:=fun j=>!(fun _=>false) j || (qs[j]?.map (·.th)).getD false) (fun _=>rfl) es 0
     rw [if_pos h2,h2,go2,e9]
    ·rw [if_neg h2,St.get_eq]
  have I:zkl es ck2 T0 mk S n m qs T ρ w N M (fun _=>false) [] a w:=⟨⟨fun x o hx ho=>h.fit.obj x o hx (by rw [← get0];exact ho),fun x x' o o' L L' hx hx' ho ho'=>h.fit.inj x x' o o' L L' hx hx' (by rw [← get0];exact ho) (by rw [← get0];exact ho')⟩,
   fun j e _=>by simp,fun t u ht=>h.tmp t u (hT0 t u ht),by rw [h.size,hs0],hm,Nat.le_refl _,fun _ _ _ _=>rfl,.refl w,hMe.known⟩
  have hcount:(List.range es.length).countP (fun j=>!(fun _=>false) j)=es.length:=by
   have:(List.range es.length).countP (fun _=>true)=es.length:=by rw [List.countP_true,List.length_range]
   exact this
  exact I.loop C hT1e hrE hnr hTn hTm hT hf hρn hρm hro (n0:=n0) (id:=id) hops es.length _ _ _ _ hcount
 ·cases hr
end
theorem z4d {a b:AO} (h:z93 a b=true):a=b:=by
 unfold z93 at h
 split at h
 ·rw [zeg _ _ h]
 ·rw [Bool.and_eq_true] at h
  rw [zrk h.1,Nat.eq_of_beq_eq_true h.2]
 ·rw [zeg _ _ h]
 ·cases h
theorem zdz:∀ {A B:Tr AO},zgx A B=true→∀ t v,Tr.get A t=some v→Tr.get B t=some v
 | .leaf,B,_,t,v,h=>by cases h
 | .node l x r,B,hs,t,v,h=>by
  have hs:(zrd x (Tr.get B 0) && zgx l B.lf && zgx r B.rt)=true:=hs;simp only [Bool.and_eq_true] at hs;obtain ⟨⟨h1,h2⟩,h3⟩:=hs;cases t with
  | zero =>
   rw [Tr.get_zero] at h;have h:x=some v:=h;subst h;unfold zrd at h1;simp only at h1
   split at h1
   ·rename_i v' e;rw [e,z4d h1]
   ·cases h1
  | succ t =>
   rcases Nat.mod_two_eq_zero_or_one t with ht | ht
   ·rw [Tr.get_even _ _ ht] at h ⊢;exact zdz h2 _ _ h
   ·rw [Tr.get_odd _ _ ht] at h ⊢;exact zdz h3 _ _ h
theorem zac6 {a b:Ex} (h:z94 a b=true):a=b:=by
 unfold z94 at h
 split at h
 ·rfl
 ·rfl
 ·rw [Nat.eq_of_beq_eq_true h]
 ·rw [Nat.eq_of_beq_eq_true h]
 ·cases h
structure LeR (r r':Res):Prop where
 ex:r.ex=r'.ex
 mks:r.mks=r'.mks
 tm:∀ t v,Tr.get r.tm.m t=some v→Tr.get r'.tm.m t=some v
 sz:r.tm.sz=r'.tm.sz
 heap:∀ x o,r.st.get x=some o→r'.st.get x=some o
 next:r.st.next=r'.st.next
 t:r.st.t=r'.st.t
 w:r.st.w=r'.st.w
theorem LeR.trans {a b c:Res} (h:LeR a b) (k:LeR b c):LeR a c:=⟨h.ex.trans k.ex,h.mks.trans k.mks,fun t v e=>k.tm t v (h.tm t v e),h.sz.trans k.sz,fun x o e=>k.heap x o (h.heap x o e),h.next.trans k.next,h.t.trans k.t,h.w.trans k.w⟩
theorem LeR.refl (a:Res):LeR a a:=⟨rfl,rfl,fun _ _ e=>e,rfl,fun _ _ e=>e,rfl,rfl,rfl⟩
theorem zaau {r r':Res} (h:zzi r r'=true):LeR r r':=by
 unfold zzi at h;simp only [Bool.and_eq_true] at h;obtain ⟨⟨⟨⟨⟨⟨⟨h1,h2⟩,h3⟩,h4⟩,h5⟩,h6⟩,h7⟩,h8⟩:=h;exact ⟨zac6 h1,zc7 h2,zdy h3,Nat.eq_of_beq_eq_true h4,fun x o e=>by rw [St.get_eq] at e ⊢;exact zdz h5 x o e,Nat.eq_of_beq_eq_true h6,Nat.eq_of_beq_eq_true h7,Nat.eq_of_beq_eq_true h8⟩
theorem zx0 (nx:Nat) (r:Res):LeR (zue nx r) r:=⟨rfl,rfl,fun _ _ e=>e,rfl,fun x o e=>by rw [St.get_eq] at e ⊢;exact zfa _ _ _ _ e,rfl,rfl,rfl⟩
section
variable {P:Program} {E:Env} {S:St} {r r':Res}
theorem LeR.lcl (h:LeR r r') (k:Lcl S r'.st):Lcl S r.st:=⟨by rw [h.next];exact k.next,fun n q=>by rw [h.t];exact k.t n q,fun n q=>by rw [h.w];exact k.w n q,fun n o q ho=>k.live n o (by rw [← h.next];exact q) (h.heap n o ho),fun n q1 q2=>by
  rw [h.w,h.t];exact k.new n q1 (by rw [← h.next];exact q2),fun n o q ho=>k.keep n o (by rw [← h.w];exact q) (h.heap n o ho),fun q n hn=>by rw [h.t];rw [h.w] at hn;exact k.wt q n hn⟩
theorem LeR.ends (h:LeR r r') {T:Nat→Prop} {ρ:Rho} {w:World} {e:Exit} {a':Act} {w':World} (k:za4 P T ρ S w r' e a' w'):za4 P T ρ S w r e a' w':=by
 obtain ⟨ρ',s1,s2,s3⟩:=k.step;refine ⟨by rw [h.ex];exact k.ex,⟨ρ',⟨fun m hm=>s1.old m (by rw [← h.next];exact hm),⟨fun n o q ho=>s1.fit.obj n o q (h.heap n o ho),fun m n o o' L L' q1 q2 ho ho'=>s1.fit.inj m n o o' L L' q1 q2 (h.heap m o ho) (h.heap n o' ho')⟩,
  fun n o L q1 q2 ho hL=>?_,fun b hb hno=>s1.frame b hb fun m o L q1 q2 ho hL=>hno m o L q1 (by rw [h.w];exact q2) ho hL,s1.size,h.lcl s1.lcl,s1.rest⟩,fun t v q=>s2 t v (h.tm t v q),by rw [h.mks];exact s3⟩,by rw [h.sz];exact k.size⟩
 rcases s1.fresh n o L q1 (by rw [← h.next];exact q2) (h.heap n o ho) hL with g | ⟨m,o',L',g1,g2,g3,g4,g5⟩
 ·exact .inl g
 ·exact .inr ⟨m,o',L',g1,by rw [h.w];exact g2,g3,g4,g5⟩
end
theorem zx1 {n m ck b:Nat} {S:St} (h:z95 n m ck b S=true):S.get n=some (.itAt m ck b):=by
 unfold z95 at h
 split at h
 ·rename_i m' ck' b' e
  simp only [Bool.and_eq_true] at h;rw [e,Nat.eq_of_beq_eq_true h.1.1,Nat.eq_of_beq_eq_true h.1.2,Nat.eq_of_beq_eq_true h.2]
 ·cases h
theorem zuq {m ck:Nat} {es:List Ent} {S:St} (h:isMap m es ck S=true):S.get m=some (.map es ck):=by
 unfold isMap at h
 split at h
 ·rename_i es' ck' e
  simp only [Bool.and_eq_true] at h;rw [e,zrk h.1,Nat.eq_of_beq_eq_true h.2]
 ·cases h
theorem zl2 {m i:Nat}:tb m i=true↔bit m i:=by
 unfold tb bit Nat.testBit;rw [Nat.beq_eq];have e1:Nat.land (Nat.shiftRight m i) 1=(m >>> i) % 2:=Nat.and_one_is_mod _;have e2:1 &&& (m >>> i)=(m >>> i) % 2:=Nat.one_and_eq_mod_two _;rw [e1,e2];have:=Nat.mod_two_eq_zero_or_one (m >>> i)
 rcases this with h | h<;>simp [h]
theorem zur {a:Nat}:∀ {l:List Nat},zel a l=true↔a ∉ l
 | []=>by simp [zel]
 | b :: l=>by
  unfold zel;rw [Bool.and_eq_true,zur (l:=l),Bool.not_eq_true',List.mem_cons,not_or]
  constructor
  ·rintro ⟨h1,h2⟩
   refine ⟨fun e=>?_,h2⟩;rw [e,Nat.beq_refl] at h1;cases h1
  ·rintro ⟨h1,h2⟩
   refine ⟨?_,h2⟩;cases hb:Nat.beq a b with
   | true=>exact absurd (Nat.eq_of_beq_eq_true hb) h1
   | false=>rfl
theorem zkx {f:Nat→Ent→Option Res} {sn:List Nat}:∀ {es:List Ent} {i:Nat} {rs:List Res},zgc f sn es i=some rs→∀ j e,es[j]? = some e→i+j ∉ sn→∃ r,f (i+j) e=some r∧r∈rs
 | [],_,_,_,j,e,hj,_=>by simp at hj
 | x :: l,i,rs,h,j,e,hj,hn=>by
  unfold zgc at h
  split at h
  ·obtain ⟨r,h1,h⟩:=zd h
   obtain ⟨rs',h2,h⟩:=zd h;cases h;cases j with
   | zero =>
    simp at hj;subst hj;exact ⟨r,by simpa using h1,by simp⟩
   | succ j =>
    obtain ⟨r',k1,k2⟩:=zkx h2 j e (by simpa using hj) (by rw [show i+1+j=i+(j+1) by omega];exact hn);exact ⟨r',by rw [← k1];congr 1;omega,by simp [k2]⟩
  ·rename_i hx
   cases j with
   | zero=>exact absurd (zur.2 (by simpa using hn)) hx
   | succ j =>
    obtain ⟨r',k1,k2⟩:=zkx h j e (by simpa using hj) (by rw [show i+1+j=i+(j+1) by omega];exact hn);exact ⟨r',by rw [← k1];congr 1;omega,k2⟩
theorem zih {f:Nat→Ent→Option Res} {sn:List Nat}:∀ {es:List Ent} {i:Nat} {rs:List Res},zgc f sn es i=some rs→∀ r∈rs,∃ j e,f j e=some r
 | [],_,_,h,r,hr=>by cases h;cases hr
 | x :: l,i,rs,h,r,hr=>by
  unfold zgc at h
  split at h
  ·obtain ⟨r1,h1,h⟩:=zd h
   obtain ⟨rs',h2,h⟩:=zd h;cases h
   rcases List.mem_cons.1 hr with rfl | hr
   ·exact ⟨_,_,h1⟩
   ·exact zih h2 r hr
  ·exact zih h r hr
theorem zse {rs:List Res} {r:Res} (h:z09 rs=some r):r∈rs∧∀ r'∈rs,LeR r r':=by
 cases rs with
 | nil=>cases h
 | cons x l =>
  have h:(if l.all (zzi x) then some x else none)=some r:=h
  split at h
  ·rename_i ha
   cases h;refine ⟨by simp,fun r' hr'=>?_⟩
   rcases List.mem_cons.1 hr' with rfl | hr'
   ·exact .refl _
   ·exact zaau (List.all_eq_true.1 ha r' hr')
  ·cases h
structure zus (P:Program) (E:Env) (ih:Ih) (T0:Tm) (it d1 d2:Nat) (n m:Nat) (es:List Ent) (ck:Nat):Prop where
 hE:zaq E P
 hih:zb3 P E ih
 tmp:T0.get it=some (.ptr n 0)
 born:∀ e∈es,e.2.2 < ck
 nodup:(es.map (·.2.2)).Nodup
 d12:d1≠d2
 nm:n≠m
section
variable {P:Program} {E:Env} {ih:Ih} {ro:Option Nat} {rest:Code} {T0:Tm} {it d1 d2:Nat} {mk:List Nat} {n m:Nat} {es:List Ent} {ck nx:Nat}
theorem zox {S:St} {b:Nat} (x:Nat):(zh7 S n m ck b).get x=if x=n then some (.itAt m ck b) else S.get x:=by
 rw [St.get_eq,St.get_eq];exact Tr.get_putE 24 n _ S.heap x
theorem zii (C:zus P E ih T0 it d1 d2 n m es ck) {S S':St} {e:Ent} (hn:∃ o,S.get n=some o) (hr:zdw ih ro rest T0 d1 d2 mk n m es ck S e=some S'):Lcl S S':=by
 unfold zdw at hr;obtain ⟨T1,hT1,hr⟩:=zd hr;obtain ⟨r,h1,hr⟩:=zd hr;obtain ⟨h2,hr⟩:=zf hr;cases hr;have g1:=(C.hih _ _ _ h1).1;have hgo:∀ x,x≠n→(zh7 S n m ck e.2.2).get x=S.get x:=fun x hx=>by rw [zox,if_neg hx]
 have get:∀ x,(⟨r.st.heap,r.st.next,Nat.lor (Nat.lor S.t r.st.t) (zm n),Nat.lor (Nat.lor S.w r.st.w) (zm n)⟩:St).get x=r.st.get x:=fun x=>by rw [St.get_eq,St.get_eq]
 refine ⟨g1.next,fun x h=>zg.2 (.inl (zg.2 (.inl h))),fun x h=>zg.2 (.inl (zg.2 (.inl h))),fun x o hx ho=>?_,fun x q1 q2=>?_,fun x o hw ho=>?_,fun h0 x hx=>?_⟩
 ·rw [get] at ho
  obtain ⟨o',h'⟩:=g1.live x o hx ho
  by_cases hxn:x=n
  ·subst hxn;exact hn
  ·exact ⟨o',by rw [← hgo x hxn];exact h'⟩
 ·obtain ⟨k1,k2⟩:=g1.new x q1 q2
  exact ⟨zg.2 (.inl (zg.2 (.inr k1))),zg.2 (.inl (zg.2 (.inr k2)))⟩
 ·rw [get] at ho
  have hxn:x≠n:=fun e0=>hw (zg.2 (.inr (zl.2 e0)))
  have:=g1.keep x o (fun q=>hw (zg.2 (.inl (zg.2 (.inr q))))) ho;rw [hgo x hxn] at this;exact this
 ·rcases zg.1 hx with hx | hx
  ·rcases zg.1 hx with hx | hx
   ·exact zg.2 (.inl (zg.2 (.inl (h0 x hx))))
   ·exact zg.2 (.inl (zg.2 (.inr (g1.wt (fun y hy=>absurd hy (zup y)) x hx))))
  ·exact zg.2 (.inr hx)
theorem zqm {S S':St} {e:Ent} (hr:zdw ih ro rest T0 d1 d2 mk n m es ck S e=some S'):S'.get n=some (.itAt m ck e.2.2)∧S'.get m=some (.map es ck):=by
 unfold zdw at hr;obtain ⟨T1,hT1,hr⟩:=zd hr;obtain ⟨r,h1,hr⟩:=zd hr;obtain ⟨h2,hr⟩:=zf hr;cases hr;simp only [Bool.and_eq_true] at h2;have e1:=zx1 h2.1.2;have e2:=zuq h2.2;rw [St.get_eq] at e1 e2;exact ⟨by rw [St.get_eq];exact e1,by rw [St.get_eq];exact e2⟩
theorem zoy (C:zus P E ih T0 it d1 d2 n m es ck):∀ {k:Nat} {sn:List Nat} {S:St} {r:Res},(∃ o,S.get n=some o)→zju ih ro rest T0 d1 d2 mk n m es ck nx k sn S=some r→Lcl S r.st
 | 0,sn,S,r,hn,hr=>by
  unfold zju at hr;obtain ⟨T1,hT1,hr⟩:=zd hr;obtain ⟨r1,h1,hr⟩:=zd hr;have hr2:zue nx r1=r:=by
   cases hx:zak r1.ex with
   | true=>rw [hx] at hr;cases hr
   | false=>rw [hx] at hr;exact Option.some.inj hr
  rw [← hr2];exact (zx0 nx r1).lcl (C.hih _ _ _ h1).1
 | k+1,sn,S,r,hn,hr=>by
  unfold zju at hr;obtain ⟨rs,h1,hr⟩:=zd hr;obtain ⟨hm,_⟩:=zse hr;obtain ⟨j,e,hj⟩:=zih h1 r hm;obtain ⟨S',h2,h3⟩:=zd hj;exact (zii C hn h2).trans (zoy C ⟨_,(zqm h2).1⟩ h3)
theorem z1v (C:zus P E ih T0 it d1 d2 n m es ck) {S S':St} {e:Ent} (hr:zdw ih ro rest T0 d1 d2 mk n m es ck S e=some S') {T:Nat→Prop} {ρ:Rho} {w w1:World} {N M:Loc} {a:Act} {seen:Array Nat} {y:MapEntry}
  (hn:∃ o,S.get n=some o) (hTn:T n) (hT:∀ x,bit S'.t x→T x) (hf:zbl ρ S.next S'.next) (hfit:Fit ρ S T w) (hρn:ρ n=some N) (hρm:ρ m=some M) (hNs:N.s=0) (hN:w.heap[N.b]? = some (.mapIter (some M.b) ck seen ck))
  (hsz:a.tmps.size=T0.sz) (hrt:RT ρ T0.m a.tmps) (hmk:za9 ρ mk a.defers) {roC:Option Nat} (hro:ze9 ρ ro roC) (hyk:RV ρ e.1 y.key) (hyv:RV ρ e.2.1 y.val) (hyb:y.born=e.2.2) (hw1:w1.heap=w.heap) (hwo:zbg w w1) {n0:Nat} {Q:Exit→Act→World→Prop}
  (hQ:∀ a2 w2 ρ2,Stp ρ S T w ρ2 S' w2→Sub ρ ρ2→w2.heap[N.b]? = some (.mapIter (some M.b) ck (seen.push y.born) ck)→a2.tmps.size=T0.sz→RT ρ2 T0.m a2.tmps→za9 ρ2 mk a2.defers→Q .normal a2 w2) :
  rest.wpIn (FV roC) n0 P Q ((a.put (some d1) (.tuple #[.bool true,y.key,y.val])).put (some d2) (.bool true)) (setBlock w1 N.b (.mapIter (some M.b) ck (seen.push y.born) ck)):=by
 have hl:=zii C hn hr;unfold zdw at hr;obtain ⟨T1,hT1,hr⟩:=zd hr;obtain ⟨r,h1,hr⟩:=zd hr;obtain ⟨h2,hr⟩:=zf hr;cases hr;simp only [Bool.and_eq_true,Bool.not_eq_true'] at h2;obtain ⟨⟨⟨⟨⟨⟨z1,z2⟩,z3⟩,z4⟩,z5⟩,z6⟩,z7⟩:=h2;have z2:=zc7 z2;have z4:=Nat.eq_of_beq_eq_true z4;have z6:=zx1 z6;have z7:=zuq z7;obtain ⟨gl,m2,hc⟩:=C.hih _ _ _ h1;have hgo:∀ x,x≠n→(zh7 S n m ck e.2.2).get x=S.get x:=fun x hx=>by rw [zox,if_neg hx]
 have hgn:(zh7 S n m ck e.2.2).get n=some (.itAt m ck e.2.2):=by rw [zox,if_pos rfl]
 have hnb:¬ bit r.st.w n:=fun q=>by
  have:tb r.st.w n=true:=zl2.2 q;rw [this] at z5;cases z5
 obtain ⟨on,hon⟩:=hn;obtain ⟨w2,hw2⟩:∃ w2,w2=setBlock w1 N.b (.mapIter (some M.b) ck (seen.push y.born) ck):=⟨_,rfl⟩
 rw [← hw2];have hNlt:N.b < w.heap.size:=(Array.getElem?_eq_some_iff.1 hN).1;have hw2s:w2.heap.size=w.heap.size:=by rw [hw2];show (w1.heap.setIfInBounds _ _).size=_;rw [Array.size_setIfInBounds,hw1]
 have hw2N:w2.heap[N.b]? = some (.mapIter (some M.b) ck (seen.push y.born) ck):=by rw [hw2];show (w1.heap.setIfInBounds _ _)[N.b]? = _;rw [hw1];simp [hNlt]
 have hw2o:∀ b,b≠N.b→w2.heap[b]? = w.heap[b]?:=fun b hb=>by rw [hw2];show (w1.heap.setIfInBounds _ _)[b]? = _;rw [hw1];simp [Ne.symm hb]
 have hw2r:zbg w w2:=hwo.trans (by rw [hw2];exact ⟨rfl,rfl,rfl⟩);have hap:∀ x o L,T x→x≠n→S.get x=some o→ρ x=some L→L.b≠N.b:=fun x o L hx hxn ho hL e0=>hxn (hfit.inj x n o on L N hx hTn ho hon hL hρn e0)
 have hfit2:Fit ρ (zh7 S n m ck e.2.2) T w2:=by
  have was:∀ x o,(zh7 S n m ck e.2.2).get x=some o→∃ o',S.get x=some o':=fun x o hx=>by
   by_cases hxn:x=n
   ·subst hxn;exact ⟨on,hon⟩
   ·exact ⟨o,by rw [← hgo x hxn];exact hx⟩
  refine ⟨fun x o hx ho=>?_,fun x x' o o' L L' hx hx' ho ho' hL hL' hb=>?_⟩
  ·by_cases hxn:x=n
   ·subst hxn
    rw [hgn] at ho;cases ho;exact ⟨N,hρn,hNs,M,seen,hρm,by rw [hw2N,hyb]⟩
   ·rw [hgo x hxn] at ho
    obtain ⟨L,e1,e2⟩:=hfit.obj x o hx ho;exact ⟨L,e1,by rw [hw2o _ (hap x o L hx hxn ho e1)];exact e2⟩
  ·obtain ⟨u,hu⟩:=was x o ho
   obtain ⟨u',hu'⟩:=was x' o' ho';exact hfit.inj x x' u u' L L' hx hx' hu hu' hL hL' hb
 obtain ⟨s1,k1⟩:=zrn hT1;have hpre:Pre E P T ρ (zh7 S n m ck e.2.2) w2 T1 ((a.put (some d1) (.tuple #[.bool true,y.key,y.val])).put (some d2) (.bool true)) :=
  ⟨C.hE,hfit2,k1 ρ a _ _ hsz hrt ⟨_,rfl,_,_,rfl,rfl,_,_,rfl,hyk,_,_,rfl,hyv,rfl⟩ rfl,by rw [(put_eq _ _ _).2,(put_eq _ _ _).2,hsz,s1]⟩
 have hTr:∀ x,bit r.st.t x→T x:=fun x hx=>hT x (zg.2 (.inl (zg.2 (.inr hx))))
 refine wpIn_mono (hc T ρ w2 _ roC n0 hpre hTr hf (by rw [(put_eq _ _ _).1,(put_eq _ _ _).1];exact hmk) hro).wp fun ex a3 w3 hend=>?_
 have hex:ex = .normal:=(zcu hend.ex).1 z1;subst hex;obtain ⟨ρ3,st3,rt3,mk3⟩:=hend.step;have hsub:Sub ρ ρ3:=st3.sub hf;have get:∀ x,(⟨r.st.heap,r.st.next,Nat.lor (Nat.lor S.t r.st.t) (zm n),Nat.lor (Nat.lor S.w r.st.w) (zm n)⟩:St).get x=r.st.get x:=fun x=>by rw [St.get_eq,St.get_eq]
 refine hQ a3 w3 ρ3 ⟨fun x hx=>st3.old x hx,⟨fun x o hx ho=>st3.fit.obj x o hx (by rw [← get];exact ho),fun x x' o o' L L' hx hx' ho ho'=>st3.fit.inj x x' o o' L L' hx hx' (by rw [← get];exact ho) (by rw [← get];exact ho')⟩,fun x o L q1 q2 ho hL=>?_,fun b hb hno=>?_,by rw [← hw2s];exact st3.size,hl,hw2r.trans st3.rest⟩ hsub ?_ (by rw [hend.size,z4]) (fun t v ht=>rt3 t v (zdy z3 t v ht)) (by rw [← z2];exact mk3)
 ·rcases st3.fresh x o L q1 q2 (by rw [← get];exact ho) hL with g | ⟨z,o',L',g1,g2,g3,g4,g5⟩
  ·exact .inl (by rw [← hw2s];exact g)
  ·have hzn:z≠n:=fun e0=>hnb (by rw [← e0];exact g2)
   exact .inr ⟨z,o',L',g1,zg.2 (.inl (zg.2 (.inr g2))),by rw [← hgo z hzn];exact g3,g4,g5⟩
 ·have hbN:b≠N.b:=fun e0=>hno n on N hTn (zg.2 (.inr (zl.2 rfl))) hon hρn e0.symm
  rw [st3.frame b (by rw [hw2s];exact hb) fun x o L hx hw ho hL=>?_,hw2o b hbN];have hxn:x≠n:=fun e0=>hnb (by rw [← e0];exact hw)
  exact hno x o L hx (zg.2 (.inl (zg.2 (.inr hw)))) (by rw [← hgo x hxn];exact ho) hL
 ·rw [st3.frame N.b (by rw [hw2s];exact hNlt) fun x o L hx hw ho hL=>?_,hw2N]
  have hxn:x≠n:=fun e0=>hnb (by rw [← e0];exact hw)
  exact hap x o L hx hxn (by rw [← hgo x hxn];exact ho) hL
theorem z8c (C:zus P E ih T0 it d1 d2 n m es ck) {id n0:Nat} {ops:Array Oper} {t1 t2:Nat} {p1 p2:String} {x1 x2:Array Edge}
  (hops:ops.toList=[⟨some d1,.next (.tmp it) false,t1,p1,x1,none⟩,⟨some d2,.extract (.tmp d1) 0,t2,p2,x2,none⟩]) :
  ∀ {k:Nat} {sn:List Nat} {S:St} {r:Res},zju ih ro rest T0 d1 d2 mk n m es ck nx k sn S=some r→sn.length+k=es.length→sn.Nodup→(∀ i∈sn,i < es.length) →
  ∀ {T:Nat→Prop} {ρ:Rho} {w:World} {N M:Loc} {a:Act} {seen:Array Nat} {roC:Option Nat},(∃ o,S.get n=some o)→S.get m=some (.map es ck)→T n→T m→(∀ x,bit r.st.t x→T x)→zbl ρ S.next r.st.next→Fit ρ S T w→ρ n=some N→ρ m=some M→N.s=0 →
   w.heap[N.b]? = some (.mapIter (some M.b) ck seen ck)→(∀ (j:Nat) (e:Ent),es[j]? = some e→(j∈sn↔e.2.2∈seen))→a.tmps.size=T0.sz→RT ρ T0.m a.tmps→za9 ρ mk a.defers→ze9 ρ ro roC →
   Code.roundsIn (FV roC) n0 P (.seq (.region id ops false) rest) (za4 P T ρ S w r) (k+1) a w:=by
 have eops:ops = #[⟨some d1,.next (.tmp it) false,t1,p1,x1,none⟩,⟨some d2,.extract (.tmp d1) 0,t2,p2,x2,none⟩]:=Array.toList_inj.1 hops;intro k
 induction k with
 | zero=>?_
 | succ k ihk=>?_
 all_goals
  intro sn S r hr hlen hnd hlt T ρ w N M a seen roC hn hm hTn hTm hT hf hfit hρn hρm hNs hN hseen hsz hrt hmk hro;obtain ⟨M',hM',ents,hMo,hMe⟩:=hfit.obj m _ hTm hm;rw [hρm] at hM';cases hM';obtain ⟨V,hV1,L0,hL0,hV2⟩:=hrt it _ (show Tr.get T0.m it=some (.ptr n 0) by have:=C.tmp;cases T0;exact this);rw [hρn] at hL0;cases hL0;have hev:a.eval (.tmp it) = .pointer (some ⟨N.b,0,none⟩):=by
   rw [hNs,Nat.zero_add] at hV2;simp [Act.eval,Array.getD_eq_getD_getElem?,hV1,hV2]
  show Code.wpIn (FV roC) n0 P (.seq (.region id ops false) rest) _ a w;refine wpIn_seq (wpIn_region ?_);rw [eops];show wpOpsIn (FV roC) n0 P _ _ [0,1] a w;rw [wpOpsIn_cons];have second:d1 < T0.sz→∀ (V:Value) (b:Bool) (vs:Array Value) (wz:World),V = .tuple vs→vs[0]? = some (.bool b)→∀ (Q:Exit→Act→World→Prop),Q .normal ((a.put (some d1) V).put (some d2) (.bool b)) wz →
    wpOpsIn (FV roC) n0 P #[⟨some d1,.next (.tmp it) false,t1,p1,x1,none⟩,⟨some d2,.extract (.tmp d1) 0,t2,p2,x2,none⟩] Q [1] (a.put (some d1) V) wz:=fun hl1 V b vs wz hV hvs Q hQ=>by
   rw [wpOpsIn_cons];have hlt:d1 < a.tmps.size:=by rw [hsz];exact hl1
   have hX:(a.put (some d1) V).eval (.tmp d1) = .tuple vs:=by simp [Act.eval,Act.put,hlt,hV]
   refine zhh rfl rfl (fun c=>by simp) (V:=.bool b) (w':=wz) (by simp [execOp,hX,Instr.extract,hvs]) ?_
   exact hQ
  have hold:∀ x∈ents.toList,x.born < ck:=fun x hx=>by
   obtain ⟨y,hy,_,_,e⟩:=hMe.mem x hx;rw [e];exact C.born y hy
  have hnext:=run_next_at (P:=P) w t1 N.b M.b ck ck seen ents ck hN hMo hold (Nat.le_refl _);unfold zju at hr
 ·
  obtain ⟨T1,hT1,hr⟩:=zd hr;obtain ⟨r1,h1,hr⟩:=zd hr;have hr2:zak r1.ex=false∧zue nx r1=r:=by
   cases hx:zak r1.ex with
   | true=>rw [hx] at hr;cases hr
   | false=>rw [hx] at hr;exact ⟨rfl,Option.some.inj hr⟩
  obtain ⟨hnr,hr2⟩:=hr2;have hle:LeR r r1:=by rw [← hr2];exact zx0 nx r1
  obtain ⟨hl1,hl2⟩:=zwh hT1;have hall:∀ j,j < es.length→j∈sn:=by
   intro j hj;refine Classical.byContradiction fun hq=>?_
   have hs:∀ x∈j :: sn,x∈List.range es.length:=fun x hx=>by
    rcases List.mem_cons.1 hx with rfl | hx
    ·exact List.mem_range.2 hj
    ·exact List.mem_range.2 (hlt x hx)
   have:=(List.nodup_cons.2 ⟨hq,hnd⟩).length_le_of_subset hs;rw [List.length_range,List.length_cons] at this;omega
  rcases hnext with ⟨h0,hrun⟩ | ⟨y,hy,w1,hw1,hrun⟩
  ·refine zhh (V:=.tuple #[.bool false]) (w':=w) rfl rfl (fun c=>by simp) (by simp [execOp,hev,hrun]) ?_
   refine second hl1 _ false #[.bool false] w rfl rfl _ ?_
   obtain ⟨s1,k1⟩:=zrn hT1;have hpre:Pre E P T ρ S w T1 ((a.put (some d1) (.tuple #[.bool false])).put (some d2) (.bool false)) :=
    ⟨C.hE,hfit,k1 ρ a _ _ hsz hrt ⟨_,rfl,_,_,rfl,rfl,rfl⟩ rfl,by rw [(put_eq _ _ _).2,(put_eq _ _ _).2,hsz,s1]⟩
   obtain ⟨gE,mE,hE2⟩:=C.hih _ _ _ h1;have q:=(hE2 T ρ w _ roC n0 hpre (fun x hx=>hT x (by rw [hle.t];exact hx)) (by rw [← hle.next];exact hf) (by rw [(put_eq _ _ _).1,(put_eq _ _ _).1];exact hmk) hro).wp;show Code.wpIn (FV roC) n0 P rest _ _ _;refine wpIn_mono q fun ex a3 w3 hend=>?_
   have hq:za4 P T ρ S w r ex a3 w3:=hle.ends hend;cases ex with
   | normal=>rw [(zcu hend.ex).2 rfl] at hnr;cases hnr
   | _=>exact hq
  ·exfalso
   have hy2:y∈ents.toList∧y.born ∉ seen:=by
    unfold Go.leftOf at hy;simp only [Array.toList_filter,List.mem_filter] at hy;exact ⟨hy.1,by simpa using hy.2⟩
   obtain ⟨e,he,hyk,hyv,hyb⟩:=hMe.mem y hy2.1;obtain ⟨j,hj⟩:=List.mem_iff_getElem?.1 he;have:=(hseen j e hj).1 (hall j (List.getElem?_eq_some_iff.1 hj).1);rw [← hyb] at this;exact hy2.2 this
 ·
  obtain ⟨rs,h1,hr⟩:=zd hr;obtain ⟨hmem,hpick⟩:=zse hr
  rcases hnext with ⟨h0,hrun⟩ | ⟨y,hy,w1,hw1,hrun⟩
  ·exfalso
   have hex:∃ j,j < es.length∧j ∉ sn:=by
    apply Classical.byContradiction;intro hc;have hs:∀ j∈List.range es.length,j∈sn:=fun j hj=>Classical.byContradiction fun hq=>hc ⟨j,List.mem_range.1 hj,hq⟩
    have:=(List.nodup_range (n:=es.length)).length_le_of_subset hs;rw [List.length_range] at this;omega
   obtain ⟨j,hj,hjs⟩:=hex;have hje:=List.getElem?_eq_getElem hj;obtain ⟨y,hy,hyb⟩:=hMe.has _ (List.mem_of_getElem? hje);have hns:es[j].2.2 ∉ seen:=fun hs=>hjs ((hseen j _ hje).2 hs)
   have:y∈(Go.leftOf ents seen).toList:=by
    unfold Go.leftOf;simp only [Array.toList_filter,List.mem_filter];refine ⟨hy,?_⟩;rw [hyb];simpa using hns
   have hz:(Go.leftOf ents seen) = #[]:=Array.eq_empty_of_size_eq_zero h0;rw [hz] at this;cases this
  ·have hy2:y∈ents.toList∧y.born ∉ seen:=by
    unfold Go.leftOf at hy;simp only [Array.toList_filter,List.mem_filter] at hy;exact ⟨hy.1,by simpa using hy.2⟩
   obtain ⟨e,he,hyk,hyv,hyb⟩:=hMe.mem y hy2.1;obtain ⟨j,hj⟩:=List.mem_iff_getElem?.1 he;have hjl:j < es.length:=(List.getElem?_eq_some_iff.1 hj).1;have hjs:j ∉ sn:=fun hq=>hy2.2 (by rw [hyb];exact (hseen j e hj).1 hq)
   obtain ⟨r',hr',hrm⟩:=zkx h1 j e hj (by rw [Nat.zero_add];exact hjs);rw [Nat.zero_add] at hr';obtain ⟨S',g1,g2⟩:=zd hr';have hle:=hpick r' hrm;have hat:=zqm g1;have hl1:=zii C hn g1;have hl2:=zoy C ⟨_,hat.1⟩ g2;have hd1:d1 < T0.sz:=by
    unfold zdw at g1;obtain ⟨T1,hT1,_⟩:=zd g1;exact (zwh hT1).1
   refine zhh (V:=.tuple #[.bool true,y.key,y.val]) (w':=setBlock w1 N.b (.mapIter (some M.b) ck (seen.push y.born) ck)) rfl rfl (fun c=>by simp) (by simp [execOp,hev,hrun]) ?_
   refine second hd1 _ true #[.bool true,y.key,y.val] _ rfl rfl _ ?_
   have hw1h:w1.heap=w.heap:=by rcases hw1 with rfl | rfl<;>rfl
   have hTr:∀ x,bit r'.st.t x→T x:=fun x hx=>hT x (by rw [hle.t];exact hx)
   have hfr:zbl ρ S.next r'.st.next:=by rw [← hle.next];exact hf
   show Code.wpIn (FV roC) n0 P rest _ _ _;refine z1v C g1 hn hTn (fun x hx=>hTr x (hl2.t x hx)) (fun x q1 q2=>hfr x q1 (Nat.lt_of_lt_of_le q2 hl2.next)) hfit hρn hρm hNs hN hsz hrt hmk hro hyk hyv hyb hw1h (by rcases hw1 with rfl | rfl<;>exact ⟨rfl,rfl,rfl⟩) fun a2 w2 ρ2 st hsub hN2 hsz2 hrt2 hmk2=>?_
   have hborn:∀ (i:Nat) (e':Ent),es[i]? = some e'→(i∈j :: sn↔e'.2.2∈seen.push y.born):=fun i e' hi=>by
    have hb:e'.2.2=e.2.2↔i=j:=by
     constructor
     ·intro h0
      have h1:(es.map (·.2.2))[i]? = some e.2.2:=by rw [List.getElem?_map,hi];simp [h0]
      have h2:(es.map (·.2.2))[j]? = some e.2.2:=by rw [List.getElem?_map,hj];rfl
      obtain ⟨a1,a2⟩:=List.getElem?_eq_some_iff.1 h1;obtain ⟨b1,b2⟩:=List.getElem?_eq_some_iff.1 h2;exact (List.getElem_inj C.nodup).1 (a2.trans b2.symm)
     ·intro h0
      subst h0;rw [hj] at hi;cases hi;rfl
    rw [List.mem_cons,Array.mem_push,hyb,hb,hseen i e' hi];exact Or.comm
   have z:=ihk g2 (by simp;omega) (List.nodup_cons.2 ⟨hjs,hnd⟩) (fun i hi=>by
    rcases List.mem_cons.1 hi with rfl | hi
    ·exact hjl
    ·exact hlt i hi) (N:=N) (M:=M) ⟨_,hat.1⟩ hat.2 hTn hTm hTr (st.free hfr) st.fit (hsub _ _ hρn) (hsub _ _ hρm) hNs hN2 hborn hsz2 hrt2 hmk2 (hro.mono hsub)
   rw [eops] at z;refine zkw (fun ex a3 w3 hend=>hle.ends ?_) _ _ _ z;obtain ⟨ρ',q1,q2,q3⟩:=hend.step;exact ⟨hend.ex,⟨ρ',st.trans q1,q2,q3⟩,hend.size⟩
end
section
variable {P:Program} {E:Env} {ih:Ih} {ro:Option Nat} {mk:List Nat} {S:St} {tm:Tm} {r:Res}
theorem z20 (hE:zaq E P) (hih:zb3 P E ih) {b:Code} (hr:zor b E P ih ro tm mk S=some r):COk P E S r ro (.loop b) tm mk:=by
 unfold zor at hr
 split at hr
 ·rename_i id ops rest
  obtain ⟨h,hh,hr⟩:=zd hr;obtain ⟨hd,t1,p1,x1,t2,p2,x2,hops⟩:=zql hh;obtain ⟨it,d1,d2⟩:=h;simp only at hr hd hops;have hT0:∀ t v,Tr.get (tm.less (Nat.lor (ze4 rest) (Nat.lor (zm d1) (zm d2)))).m t=some v→Tr.get tm.m t=some v:=fun t v ht=>zfa _ _ _ _ ht
  have hs0:(tm.less (Nat.lor (ze4 rest) (Nat.lor (zm d1) (zm d2)))).sz=tm.sz:=rfl;generalize tm.less (Nat.lor (ze4 rest) (Nat.lor (zm d1) (zm d2)))=T0 at hr hT0 hs0;unfold zxm at hr;obtain ⟨u,hu,hr⟩:=zd hr;obtain ⟨pp,hp,hr⟩:=zd hr;obtain ⟨h0,hr⟩:=zf hr;have h0:=Nat.eq_of_beq_eq_true h0;obtain ⟨o,go,hr⟩:=zd hr;obtain ⟨q,gq,hr⟩:=zd hr;obtain ⟨hnil,hr⟩:=zf hr;obtain ⟨o2,go2,hr⟩:=zd hr;obtain ⟨ec,gec,hr⟩:=zd hr;obtain ⟨hc,hr9⟩:=zf hr;simp only [Bool.and_eq_true] at hc;have hck:=Nat.eq_of_beq_eq_true hc.1.1.1;obtain ⟨n,off⟩:=pp;obtain ⟨m,ck,sn⟩:=q;obtain ⟨es,ck2⟩:=ec;simp only at h0 hnil hck hc hr9 go go2;subst h0 hck;rw [z1u gq] at go;rw [zci gec] at go2;simp only at go go2;have hsn:sn=[]:=by cases sn with | nil=>rfl | cons _ _=>cases hnil
  subst hsn;have hu:T0.get it=some (.ptr n 0):=by rw [hu,zdc hp]
  have hnm:n≠m:=fun e0=>by rw [e0,go2] at go;cases go
  have C:zus P E ih T0 it d1 d2 n m es ck2:=⟨hE,hih,hu,fun e he=>by
   have:=List.all_eq_true.1 hc.1.1.2 e he;exact Nat.le_of_ble_eq_true this,zit hc.1.2,hd,hnm⟩
  obtain ⟨r',hg,hr⟩:=zd hr9;obtain ⟨hbits,hr⟩:=zf hr;cases hr;rw [Bool.and_eq_true] at hbits;have hl:=zoy C ⟨_,go⟩ hg;refine ⟨hl,es.length+1,fun T ρ w a roC n0 h hT hf hm hro=>?_⟩;have hTn:T n:=hT n (zl2.1 hbits.1);have hTm:T m:=hT m (zl2.1 hbits.2);obtain ⟨N,hρn,hNs,M2,hM2,hN⟩:=h.fit.obj n _ hTn go;exact z8c C hops hg (by simp) List.nodup_nil (fun i hi=>by cases hi) ⟨_,go⟩ go2 hTn hTm hT hf h.fit hρn hM2 hNs hN (fun j e _=>by simp) (by rw [h.size,hs0]) (fun t v ht=>h.tmp t v (hT0 t v ht)) hm hro
 ·cases hr
end
def z1w (P:Program) (E:Env):Prop:=∀ (ih:Ih),zb3 P E ih→∀ (id:Nat) (ops:Array Oper) (ro:Option Nat) (tm:Tm) (mk:List Nat) (S:St) (r:Res),zwa id ops true E P ih ro tm mk S=some r→COk P E S r ro (.region id ops true) tm mk
def ziu (P:Program) (E:Env):Prop:=∀ f args S r,z5h E.tab f args S=some r→Lcl S r.st∧zc0 P E S r (.call f args)
section
variable {E:Env} {P:Program}
theorem zac7 (hN:zb7 P) (hE:zaq E P) (hD:z1w P E) {ih:Ih} (hih:zb3 P E ih) {ro:Option Nat} {c:Code} {tm:Tm} {mk:List Nat} {S:St} {r:Res} (hr:codeF c E P ih ro tm mk S=some r):COk P E S r ro c tm mk:=by
 cases c with
 | skip=>exact zlz (ih:=ih) (x:=.normal) hr fun F n Q a w h=>wpIn_skip (h _ trivial)
 | region id ops draw =>
  cases draw with
  | true=>exact hD ih hih id ops ro tm mk S r hr
  | false=>exact zaaq hN hih hr
 | seq x y=>exact seq_ok hih hr
 | cond c x y=>exact zac4 hih hr
 | block id x=>exact zaao hih hr
 | loop x =>
  have hr9 : @Option.rec Res (fun _=>Option Res) (@Option.rec Res (fun _=>Option Res) (z07 x E P ih ro tm mk S) (fun r=>some r) (zor x E P ih ro tm mk S)) (fun r=>some r) (zrc x E P ih ro tm mk S)=some r:=hr
  rcases zgy hr9 with hr9 | hr9
  ·exact z5t hN hE hih hr9
  ·rcases zgy hr9 with hr9 | hr9
   ·exact z20 hE hih hr9
   ·exact zac3 hih hr9
 | rangeFunc f ps as bd=>exact z8a hN hE hih hr
 | exit id=>exact zlz (ih:=ih) (x:=.exit id) hr fun F n Q a w h=>wpIn_exit (h _ rfl)
 | scope x=>exact zaap hih hr
 | label l=>exact zlz (ih:=ih) (x:=.normal) hr fun F n Q a w h=>z5q (h _ trivial)
 | goto l=>exact zlz (ih:=ih) (x:=.goto l) hr fun F n Q a w h=>wpIn_goto (h _ rfl)
 | ret=>exact zlz (ih:=ih) (x:=.ret) hr fun F n Q a w h=>wpIn_ret (h _ trivial)
 | refuse s=>cases hr
theorem zjb (hN:zb7 P) (hE:zaq E P) (hD:z1w P E) (hTab:ziu P E):∀ n,zb3 P E (zjv E P n)
 | 0=>fun t S r hr=>by cases hr
 | n+1=>fun t S r hr=>by
  have hih:=zjb hN hE hD hTab n;cases t with
  | call f args =>
   have hr9 : @Option.rec Res (fun _=>Option Res) (z05 E (zjv E P n) f args S) (fun r=>some r) (z5h E.tab f args S)=some r:=hr
   rcases zgy hr9 with hr9 | hr9
   ·exact hTab f args S r hr9
   ·exact z78 hE hih hr9
  | code ro c tm mk=>exact zac7 hN hE hD hih hr
  | yield l args=>exact z5s hE hih hr
end
def Tr.filter {α:Type}:(Nat→Bool)→Tr α→Tr α
 | _,.leaf=>.leaf
 | p,.node l x r=>.node (Tr.filter (fun m=>p (2 * m+1)) l) (if p 0 then x else none) (Tr.filter (fun m=>p (2 * m+2)) r)
theorem Tr.get_filter {α:Type}:∀ (t:Tr α) (p:Nat→Bool) (k:Nat),Tr.get (Tr.filter p t) k=if p k then Tr.get t k else none
 | .leaf,p,k=>by
  rw [show Tr.filter p (.leaf:Tr α) = .leaf from rfl,Tr.get_leaf];simp
 | .node l x r,p,0=>by
  rw [Tr.get_zero,Tr.get_zero];rfl
 | .node l x r,p,k+1=>by
  rcases Nat.mod_two_eq_zero_or_one k with h | h
  ·rw [Tr.get_even _ _ h,Tr.get_even _ _ h]
   show Tr.get (Tr.filter (fun m=>p (2 * m+1)) l) (k / 2)=if p (k+1) then Tr.get l (k / 2) else none
   rw [Tr.get_filter l,show 2 * (k / 2)+1=k+1 by omega]
  ·rw [Tr.get_odd _ _ h,Tr.get_odd _ _ h]
   show Tr.get (Tr.filter (fun m=>p (2 * m+2)) r) (k / 2)=if p (k+1) then Tr.get r (k / 2) else none
   rw [Tr.get_filter r,show 2 * (k / 2)+2=k+1 by omega]
def Agree (T T':Tm) (l:List Operand):Prop:=∀ x∈l,opd T x=opd T' x
theorem ziv {T T':Tm}:∀ {l:List Operand},Agree T T' l→zoi T l=zoi T' l
 | [],_=>rfl
 | x :: l,h=>by
  show bnd (opd T x) _=bnd (opd T' x) _;rw [h x (by simp)];have:=ziv (l:=l) fun y hy=>h y (by simp [hy])
  show bnd (opd T' x) (fun a=>bnd (zoi T l) _)=bnd (opd T' x) (fun a=>bnd (zoi T' l) _);rw [this]
theorem zoz {T T':Tm} {x:Option Operand} (h:Agree T T' x.toArray.toList):zv0 T x=zv0 T' x:=by
 cases x with
 | none=>rfl
 | some x =>
  have:=h x (by simp);show bnd (opd T x) _=bnd (opd T' x) _;rw [this]
theorem zij {T T':Tm}:∀ {l:List Operand},Agree T T' l→zgi T l=zgi T' l
 | [],_=>rfl
 | x :: l,h=>by
  have h1:=h x (by simp);have h2:=zij (l:=l) fun y hy=>h y (by simp [hy])
  unfold zgi zpz;rw [h1,h2]
theorem z8d {T T':Tm} {l:List Operand} (h:Agree T T' l):∀ x∈l,rho T x=rho T' x:=fun x hx=>by
 unfold rho zpz;rw [h x hx]
theorem z1x {P:Program} {T T':Tm} {o:Oper} (h:Agree T T' o.op.operands.toList):zp0 P T o=zp0 P T' o:=by
 unfold zp0;rw [zij h];cases hs:z0r o.op with
 | false=>rfl
 | true =>
  have e:execOp (rho T) o=execOp (rho T') o:=execOp_congr o (fun cs b he=>by rw [he] at hs;cases hs) fun x hx=>z8d h x (by simpa using hx)
  rw [e]
theorem zjz {T T':Tm}:∀ {ps:List (Nat × Operand)},(∀ p∈ps,opd T p.2=opd T' p.2)→zh5 T ps=zh5 T' ps
 | [],_=>rfl
 | (i,x) :: r,h=>by
  have h1:opd T x=opd T' x:=h (i,x) (by simp);have h2:=zjz (ps:=r) fun p hp=>h p (by simp [hp])
  unfold zh5;rw [h1,h2]
theorem z5u {E:Env} {P:Program} {S:St} {T T':Tm} {o:Oper} (h:Agree T T' o.op.operands.toList):zom E P T o S=zom E P T' o S:=by
 have hp:zew P T o S=zew P T' o S:=by unfold zew;rw [z1x h]
 obtain ⟨dst,op,ty,pos,after,guard⟩:=o;cases op with
 | move x=>have h1:=h x (by simp [Op.operands]);show zke x E P T ⟨dst,.move x,ty,pos,after,guard⟩ S=zke x E P T' ⟨dst,.move x,ty,pos,after,guard⟩ S;unfold zke;rw [h1]
 | assign x=>have h1:=h x (by simp [Op.operands]);show zke x E P T ⟨dst,.assign x,ty,pos,after,guard⟩ S=zke x E P T' ⟨dst,.assign x,ty,pos,after,guard⟩ S;unfold zke;rw [h1]
 | pick c x y=>have h1:=h c (by simp [Op.operands]);have h2:=h x (by simp [Op.operands]);have h3:=h y (by simp [Op.operands]);show zq5 c x y E P T ⟨dst,.pick c x y,ty,pos,after,guard⟩ S=zq5 c x y E P T' ⟨dst,.pick c x y,ty,pos,after,guard⟩ S;unfold zq5;rw [h1,h2,h3]
 | alloc e=>show zlj e E P T ⟨dst,.alloc e,ty,pos,after,guard⟩ S=zlj e E P T' ⟨dst,.alloc e,ty,pos,after,guard⟩ S;unfold zlj;rfl
 | box e x=>have h1:=h x (by simp [Op.operands]);show zv4 e x E P T ⟨dst,.box e x,ty,pos,after,guard⟩ S=zv4 e x E P T' ⟨dst,.box e x,ty,pos,after,guard⟩ S;unfold zv4;rw [h1]
 | load t x=>have h1:=h x (by simp [Op.operands]);show zq6 t x E P T ⟨dst,.load t x,ty,pos,after,guard⟩ S=zq6 t x E P T' ⟨dst,.load t x,ty,pos,after,guard⟩ S;unfold zq6;rw [h1]
 | store t x y=>have h1:=h x (by simp [Op.operands]);have h2:=h y (by simp [Op.operands]);show zlk t x y E P T ⟨dst,.store t x y,ty,pos,after,guard⟩ S=zlk t x y E P T' ⟨dst,.store t x y,ty,pos,after,guard⟩ S;unfold zlk;rw [h1,h2]
 | nilCheck x=>have h1:=h x (by simp [Op.operands]);show zv5 x E P T ⟨dst,.nilCheck x,ty,pos,after,guard⟩ S=zv5 x E P T' ⟨dst,.nilCheck x,ty,pos,after,guard⟩ S;unfold zv5;rw [h1]
 | makeSlice t x y=>have h1:=h x (by simp [Op.operands]);have h2:=h y (by simp [Op.operands]);show zfl t x y E P T ⟨dst,.makeSlice t x y,ty,pos,after,guard⟩ S=zfl t x y E P T' ⟨dst,.makeSlice t x y,ty,pos,after,guard⟩ S;unfold zfl;rw [h1,h2]
 | fieldAddr t x f=>have h1:=h x (by simp [Op.operands]);show zfm t x f E P T ⟨dst,.fieldAddr t x f,ty,pos,after,guard⟩ S=zfm t x f E P T' ⟨dst,.fieldAddr t x f,ty,pos,after,guard⟩ S;unfold zfm;rw [h1]
 | field t x f=>have h1:=h x (by simp [Op.operands]);show zlm t x f E P T ⟨dst,.field t x f,ty,pos,after,guard⟩ S=zlm t x f E P T' ⟨dst,.field t x f,ty,pos,after,guard⟩ S;unfold zlm;rw [h1]
 | indexAddr t x y=>have h1:=h x (by simp [Op.operands]);have h2:=h y (by simp [Op.operands]);show zfn t x y E P T ⟨dst,.indexAddr t x y,ty,pos,after,guard⟩ S=zfn t x y E P T' ⟨dst,.indexAddr t x y,ty,pos,after,guard⟩ S;unfold zfn;rw [h1,h2]
 | lookup t x y ok=>have h1:=h x (by simp [Op.operands]);have h2:=h y (by simp [Op.operands]);show zi5 t x y ok E P T ⟨dst,.lookup t x y ok,ty,pos,after,guard⟩ S=zi5 t x y ok E P T' ⟨dst,.lookup t x y ok,ty,pos,after,guard⟩ S;unfold zi5;rw [h1,h2]
 | mapUpdate t x y z=>have h1:=h x (by simp [Op.operands]);have h2:=h y (by simp [Op.operands]);have h3:=h z (by simp [Op.operands]);show zc5 t x y z E P T ⟨dst,.mapUpdate t x y z,ty,pos,after,guard⟩ S=zc5 t x y z E P T' ⟨dst,.mapUpdate t x y z,ty,pos,after,guard⟩ S;unfold zc5;rw [h1,h2,h3]
 | insert t x y z=>have h1:=h x (by simp [Op.operands]);have h2:=h y (by simp [Op.operands]);have h3:=h z (by simp [Op.operands]);show zc5 t x y z E P T ⟨dst,.insert t x y z,ty,pos,after,guard⟩ S=zc5 t x y z E P T' ⟨dst,.insert t x y z,ty,pos,after,guard⟩ S;unfold zc5;rw [h1,h2,h3]
 | mapEntry t x y=>have h1:=h x (by simp [Op.operands]);have h2:=h y (by simp [Op.operands]);show zlo t x y E P T ⟨dst,.mapEntry t x y,ty,pos,after,guard⟩ S=zlo t x y E P T' ⟨dst,.mapEntry t x y,ty,pos,after,guard⟩ S;unfold zlo;rw [h1,h2]
 | entryStore t x y z=>have h1:=h x (by simp [Op.operands]);have h2:=h y (by simp [Op.operands]);have h3:=h z (by simp [Op.operands]);show zen t x y z E P T ⟨dst,.entryStore t x y z,ty,pos,after,guard⟩ S=zen t x y z E P T' ⟨dst,.entryStore t x y z,ty,pos,after,guard⟩ S;unfold zen;rw [h1,h2,h3]
 | range t x=>have h1:=h x (by simp [Op.operands]);show zlp t x E P T ⟨dst,.range t x,ty,pos,after,guard⟩ S=zlp t x E P T' ⟨dst,.range t x,ty,pos,after,guard⟩ S;unfold zlp;rw [h1]
 | next x b=>have h1:=h x (by simp [Op.operands]);show zq7 x b E P T ⟨dst,.next x b,ty,pos,after,guard⟩ S=zq7 x b E P T' ⟨dst,.next x b,ty,pos,after,guard⟩ S;unfold zq7;rw [h1]
 | entry x=>have h1:=h x (by simp [Op.operands]);show zzh x E P T ⟨dst,.entry x,ty,pos,after,guard⟩ S=zzh x E P T' ⟨dst,.entry x,ty,pos,after,guard⟩ S;unfold zzh;rw [h1]
 | extract x i=>have h1:=h x (by simp [Op.operands]);show zhc x i E P T ⟨dst,.extract x i,ty,pos,after,guard⟩ S=zhc x i E P T' ⟨dst,.extract x i,ty,pos,after,guard⟩ S;unfold zhc;rw [h1]
 | binOp op t x y yt=>have h1:=h x (by simp [Op.operands]);have h2:=h y (by simp [Op.operands]);show zv6 op t x y yt E P T ⟨dst,.binOp op t x y yt,ty,pos,after,guard⟩ S=zv6 op t x y yt E P T' ⟨dst,.binOp op t x y yt,ty,pos,after,guard⟩ S;unfold zv6;rw [h1,h2,hp]
 | unOp op t x=>have h1:=h x (by simp [Op.operands]);show oUn op t x E P T ⟨dst,.unOp op t x,ty,pos,after,guard⟩ S=oUn op t x E P T' ⟨dst,.unOp op t x,ty,pos,after,guard⟩ S;unfold oUn;rw [h1,hp]
 | index t x y=>have h1:=h x (by simp [Op.operands]);have h2:=h y (by simp [Op.operands]);show zln t x y E P T ⟨dst,.index t x y,ty,pos,after,guard⟩ S=zln t x y E P T' ⟨dst,.index t x y,ty,pos,after,guard⟩ S;unfold zln;rw [h1,h2,hp]
 | convert s d x=>have h1:=h x (by simp [Op.operands]);show zhd s d x E P T ⟨dst,.convert s d x,ty,pos,after,guard⟩ S=zhd s d x E P T' ⟨dst,.convert s d x,ty,pos,after,guard⟩ S;unfold zhd;rw [h1,hp]
 | makeFunc f fs cs=>have h1:=ziv (T:=T) (T':=T') (l:=fs.toList) (fun x hx=>h x (by simp [Op.operands];exact .inl (by simpa using hx)));have h2:=ziv (T:=T) (T':=T') (l:=cs.toList) (fun x hx=>h x (by simp [Op.operands];exact .inr (by simpa using hx)));show zgk f fs cs E P T ⟨dst,.makeFunc f fs cs,ty,pos,after,guard⟩ S=zgk f fs cs E P T' ⟨dst,.makeFunc f fs cs,ty,pos,after,guard⟩ S;unfold zgk;rw [h1,h2]
 | makeMap t r =>
  cases r with
  | none=>rfl
  | some x=>have h1:=h x (by simp [Op.operands]);show zhb t (some x) E P T ⟨dst,.makeMap t (some x),ty,pos,after,guard⟩ S=zhb t (some x) E P T' ⟨dst,.makeMap t (some x),ty,pos,after,guard⟩ S;unfold zhb;simp only [h1]
 | slice t x lo hi mx=>have h1:=h x (by simp [Op.operands]);have h2:=zoz (T:=T) (T':=T') (x:=lo) (fun y hy=>h y (by simp [Op.operands] at hy ⊢;simp [hy]));have h3:=zoz (T:=T) (T':=T') (x:=hi) (fun y hy=>h y (by simp [Op.operands] at hy ⊢;simp [hy]));have h4:=zoz (T:=T) (T':=T') (x:=mx) (fun y hy=>h y (by simp [Op.operands] at hy ⊢;simp [hy]));show zll t x lo hi mx E P T ⟨dst,.slice t x lo hi mx,ty,pos,after,guard⟩ S=zll t x lo hi mx E P T' ⟨dst,.slice t x lo hi mx,ty,pos,after,guard⟩ S;unfold zll;rw [h1,h2,h3,h4,hp]
 | build t ps =>
  have h1:=zjz (T:=T) (T':=T') (ps:=ps.toList) fun p hp=>h p.2 (by simp [Op.operands];exact ⟨p.1,by simpa using hp⟩)
  show zli E T S t ps.toList=zli E T' S t ps.toList;unfold zli;rw [h1]
 | buildSlice t len ps =>
  have h1:=zjz (T:=T) (T':=T') (ps:=ps.toList) fun p hp=>h p.2 (by simp [Op.operands];exact ⟨p.1,by simpa using hp⟩)
  show ze3 E T S t len ps.toList=ze3 E T' S t len ps.toList;unfold ze3;rw [h1]
 | call c =>
  show zga E P T ⟨dst,.call c,ty,pos,after,guard⟩ S c=zga E P T' ⟨dst,.call c,ty,pos,after,guard⟩ S c;have ha:Agree T T' c.args.toList:=fun x hx=>h x (by simp [Op.operands,Call.operands];right;simpa using hx)
  unfold zga;cases hc:c.callee with
  | invoke x y=>rfl
  | value f =>
   have h1:=h f (by simp [Op.operands,Call.operands,hc]);have h2:=ziv ha;simp only [h1,h2]
  | builtin b =>
   simp only;unfold zgj;rw [zij ha,hp];generalize c.args.toList=l at ha;cases b<;>first | rfl | skip
   all_goals
    match l,ha with
    | [],_=>rfl
    | [x],ha=>simp only [ha x (by simp)]
    | [x,y],ha=>simp only [ha x (by simp),ha y (by simp)]
    | _ :: _ :: _ :: _,_=>rfl
 | _=>rfl
def Tm.only (p:Nat→Bool) (T:Tm):Tm:=⟨Tr.filter p T.m,T.sz⟩
theorem z5v {T:Tm} {p:Nat→Bool} {l:List Operand} (h:∀ t,Operand.tmp t∈l→p t=true):Agree T (T.only p) l:=fun x hx=>by
 cases x with
 | tmp t =>
  cases T with
  | mk m sz =>
  show Tr.get m t=Tr.get (Tr.filter p m) t;rw [Tr.get_filter,if_pos (h t hx)]
 | _=>rfl
theorem zac8 {ρ:Rho} {T:Tm} {p:Nat→Bool} {tmps:Array Value} (h:∀ t v,p t=true→Tr.get T.m t=some v→∃ V,tmps[t]? = some V∧RV ρ v V):RT ρ (T.only p).m tmps:=fun t v ht=>by
 have ht:Tr.get (Tr.filter p T.m) t=some v:=ht;rw [Tr.get_filter] at ht
 split at ht
 ·rename_i hp;exact h t v hp ht
 ·cases ht
theorem zc1 (n:Nat):¬ bit 0 n:=by unfold bit;simp
theorem z8e {a b n:Nat} (h1:bit a n) (h2:bit b n):zp4 a b=false:=by
 cases h:zp4 a b with
 | false=>rfl
 | true =>
  exfalso;have e:a &&& b=0:=Nat.eq_of_beq_eq_true h;have:(a &&& b).testBit n=true:=by rw [Nat.testBit_and,h1,h2];rfl
  rw [e] at this;simp at this
theorem z21 (b:Nat):zp4 0 b=true:=by unfold zp4;rw [show Nat.land 0 b=0 from Nat.zero_and b];rfl
theorem zaav {a b m n:Nat} (h:Nat.land a b=zm n) (h1:bit a m) (h2:bit b m):m=n:=by
 have:(a &&& b).testBit m=true:=by rw [Nat.testBit_and,h1,h2];rfl
 rw [show a &&& b=zm n from h] at this;exact zl.1 this
theorem zaaw {a b n:Nat} (h:Nat.land a b=zm n):bit a n∧bit b n:=by
 have:(a &&& b).testBit n=true:=by rw [show a &&& b=zm n from h];exact zl.2 rfl
 rw [Nat.testBit_and,Bool.and_eq_true] at this;exact this
theorem zfs (a b:Bool):ze1 a b=(a && b):=by cases a<;>rfl
theorem zh8 {α:Type} {p:α→Bool} {x:α}:∀ {l:List α},x∈zfo p l↔x∈l∧p x=true
 | []=>by simp [zfo]
 | y :: l=>by
  have e:zfo p (y :: l)=zk (p y) (y :: zfo p l) (zfo p l):=rfl;rw [e,zx]
  split
  ·rename_i h
   rw [List.mem_cons,zh8 (l:=l),List.mem_cons]
   constructor
   ·rintro (rfl | h');exact ⟨.inl rfl,h⟩;exact ⟨.inr h'.1,h'.2⟩
   ·rintro ⟨rfl | h1,h2⟩;exact .inl rfl;exact .inr ⟨h1,h2⟩
  ·rename_i h
   rw [zh8 (l:=l),List.mem_cons]
   constructor
   ·rintro ⟨h1,h2⟩;exact ⟨.inr h1,h2⟩
   ·rintro ⟨rfl | h1,h2⟩;exact absurd h2 h;exact ⟨h1,h2⟩
theorem zhi {α:Type} {p:α→Bool}:∀ {l:List α},zeb p l=true→∀ x∈l,p x=true
 | [],_,x,hx=>by cases hx
 | y :: l,h,x,hx=>by
  have h:ze1 (p y) (zeb p l)=true:=h;rw [zfs,Bool.and_eq_true] at h
  rcases List.mem_cons.1 hx with rfl | hx
  ·exact h.1
  ·exact zhi h.2 x hx
theorem zsf {y x:Fp} {n:Nat} (h1:bit x.w n) (h2:bit y.t n) (h3:x.i≠y.i) (h4:¬ bit x.a y.i) (h5:¬ bit y.a x.i):clash y x=true:=by
 unfold clash;have e1:Nat.beq x.i y.i=false:=by cases h:Nat.beq x.i y.i with | false=>rfl | true=>exact absurd (Nat.eq_of_beq_eq_true h) h3
 have e2:tb x.a y.i=false:=by cases h:tb x.a y.i with | false=>rfl | true=>exact absurd (zl2.1 h) h4
 have e3:tb y.a x.i=false:=by cases h:tb y.a x.i with | false=>rfl | true=>exact absurd (zl2.1 h) h5
 rw [z8e h1 h2,e1,e2,e3];rfl
theorem zaax {E:Env} {P:Program} {l:List Fp} {y x:Fp} (h:zub E P l=true) (hy:y∈l) (hx:x∈l) (hc:clash y x=true):zoo E P y x=true∧∀ x'∈l,clash y x'=true→x'=x:=by
 have inw:∀ z,z∈l→clash y z=true→z∈zfo (clash y) (zfo (fun x=>Bool.not (Nat.beq x.w 0)) l):=fun z hz hcz=>by
  refine zh8.2 ⟨zh8.2 ⟨hz,?_⟩,hcz⟩;cases hw:Nat.beq z.w 0 with
  | false=>rfl
  | true =>
   exfalso;have e:=Nat.eq_of_beq_eq_true hw;unfold clash at hcz;rw [e,z21] at hcz;cases hcz
 have h9:zk (isNil (zfo (fun x=>Bool.not (Nat.beq x.w 0)) l)) true (zeb (z5g E P (zfo (fun x=>Bool.not (Nat.beq x.w 0)) l)) l)=true:=h;have hne:isNil (zfo (fun x=>Bool.not (Nat.beq x.w 0)) l)=false:=by
  cases hn:zfo (fun x=>Bool.not (Nat.beq x.w 0)) l with
  | nil =>
   have:=(zh8.1 (inw x hx hc)).1;rw [hn] at this;cases this
  | cons _ _=>rfl
 rw [hne] at h9;have h1:=zhi h9 y hy;unfold z5g at h1;have hx1:=inw x hx hc
 split at h1
 ·rename_i e;rw [e] at hx1;cases hx1
 ·rename_i z e
  rw [e] at hx1;have e1:x=z:=by simpa using hx1
  subst e1;refine ⟨h1,fun x' hx' hc'=>?_⟩;have:=inw x' hx' hc';rw [e] at this;simpa using this
 ·cases h1
def z5w (E:Env) (P:Program) (o:Oper) (tm:Tm) (S:St) (v:AV) (S₁:St):Prop:=∀ (T:Nat→Prop) (ρ:Rho) (w:World) (a:Act),Pre E P T ρ S w tm a→(∀ n,bit S₁.t n→T n)→zbl ρ S.next S₁.next →
  ∀ (next:Act→World→Prop) (Q:Exit→Act→World→Prop) (ro:Option Nat) (n:Nat),(∀ V w' ρ',Stp ρ S T w ρ' S₁ w'→RV ρ' v V→next (a.put o.dst V) w')→o.wpIn (FV ro) n P a w next Q
section
variable {E:Env} {P:Program}
theorem z8f (hN:zb7 P) {ih:Ih} (hih:zb3 P E ih) {S:St} {tm:Tm} {o:Oper} {q:Tm × St} {k:AV→St→Option (Tm × St)} (hr:zf3 E P ih tm o S k=some q) :
  ∃ v S₁,k v S₁=some q∧Lcl S S₁∧∀ tm',Agree tm tm' o.op.operands.toList→z5w E P o tm' S v S₁:=by
 unfold zf3 at hr;obtain ⟨x,hx,hr9⟩:=zd hr;clear hr;have hl:=z1m hx;have hx2:∀ tm',Agree tm tm' o.op.operands.toList→zom E P tm' o S=some x:=fun tm' h=>by rw [← z5u h];exact hx
 have plain:∀ (ro:Option Nat) (a:Act) (h:(∀ c,o.op≠.defer c)),o.semAt (FV ro).round a.eval=execOp a.eval o:=fun ro a h=>Oper.semAt_plain (FV ro) a.eval o h
 have hd:∀ c,o.op≠.defer c:=fun c e=>by
  unfold zom at hx;rw [e] at hx;cases hx
 cases x with
 | val v S₁ =>
  refine ⟨v,S₁,hr9,hl,fun tm' hag T ρ w a h hT hf next Q ro n hk=>?_⟩;obtain ⟨V,w',ρ',h1,h2,h3⟩:=zi9 hN h (hx2 tm' hag) hT hf;have:=hk V w' ρ' h2 h3;refine ⟨fun _ _=>trivial,?_⟩;rw [plain ro a hd]
  rcases h1 with h1 | ⟨h1,rfl⟩
  ·rw [h1];exact this
  ·rw [h1];exact this
 | call f args S₁ =>
  have e1:S₁=S:=hl;subst e1;obtain ⟨r,hr1,hr2⟩:=zd hr9;obtain ⟨g1,g2,g3⟩:=hih _ _ _ hr1;refine ⟨r.v,r.st,hr2,g1,fun tm' hag T ρ w a h hT hf next Q ro n hk=>?_⟩;obtain ⟨_,q⟩:=zi9 hN h (hx2 tm' hag);obtain ⟨vs,q1,q2⟩:=q g2;refine ⟨fun _ _=>trivial,?_⟩;rw [plain ro a hd,q1];refine ⟨fun hdep=>by simp [FV] at hdep,zri ((g3 T ρ w vs h.fit hT hf q2).mono ?_)⟩;rintro e w' ⟨V,ρ',rfl,k1,k2⟩;exact hk V w' ρ' k1 k2
 | yield l args S₁ =>
  have e1:S₁=S:=hl;subst e1;obtain ⟨r,hr1,hr2⟩:=zd hr9;obtain ⟨g1,g3⟩:=hih _ _ _ hr1;refine ⟨r.v,r.st,hr2,g1,fun tm' hag T ρ w a h hT hf next Q ro n hk=>?_⟩;obtain ⟨_,L,vs,q0,q1,q2⟩:=zi9 hN h (hx2 tm' hag);obtain ⟨fn,tmps,as,bd,y1,y2⟩:=g3 T ρ w L vs h.fit hT hf q0 q2;refine ⟨fun _ _=>trivial,?_⟩;rw [plain ro a hd,q1,y1];refine ⟨fun hdep=>by simp [FV] at hdep,z38 ((y2 0).mono ?_)⟩;rintro e w' ⟨V,ρ',rfl,k1,k2⟩;exact hk V w' ρ' k1 k2
theorem z1y {α:Type} {q:α} {tm:Tm} {d:Option Nat} {v:AV} {k:Tm→Option α} (hr:tm.putK d v k=some q):∃ tm',k tm'=some q∧tm'.sz=tm.sz∧∀ t x,Tr.get tm'.m t=some x→(d=some t∧x=v)∨(d≠some t∧Tr.get tm.m t=some x):=by
 cases tm with
 | mk m sz =>
 cases d with
 | none=>exact ⟨_,hr,rfl,fun t x hx=>.inr ⟨by simp,hx⟩⟩
 | some d =>
  have hr:zk (Nat.ble (Nat.succ d) sz) (Tr.putK 24 d (some v) m fun m=>k ⟨m,sz⟩) none=some q:=hr;obtain ⟨_,hr⟩:=zf hr;rw [Tr.putK_eq] at hr;refine ⟨_,hr,rfl,fun t x hx=>?_⟩;have hx:Tr.get (Tr.put 24 d (some v) m) t=some x:=hx
  rcases Tr.get_put _ _ _ _ _ _ hx with ⟨rfl,e⟩ | ⟨hne,e⟩
  ·exact .inl ⟨rfl,(Option.some.inj e).symm⟩
  ·exact .inr ⟨fun h=>hne (Option.some.inj h).symm,e⟩
def bare (S:St):St:=⟨S.heap,S.next,0,0⟩
theorem zs7 (S:St) (m:Nat):(bare S).get m=S.get m:=by rw [St.get_eq,St.get_eq];rfl
def Fp.out (x:Fp):St:=⟨x.s'.heap,x.s'.next,x.t,x.w⟩
theorem zwi (x:Fp) (m:Nat):x.out.get m=x.s'.get m:=by rw [St.get_eq,St.get_eq];rfl
structure One (E:Env) (P:Program) (ls:List Oper) (x:Fp) (T1:Tm):Prop where
 o:ls[x.i]? = some x.o
 lcl:Lcl (bare x.s) x.out
 want:∃ b,zhp ls x.tm x.o=some b∧(b=true→∀ tm',Agree x.tm tm' x.o.op.operands.toList→z5w E P x.o tm' (bare x.s) x.v x.out)∧(b=false→x.v = .undef∧x.out=bare x.s)
 sz:T1.sz=x.tm.sz
 tm:∀ t v,Tr.get T1.m t=some v→(x.o.dst=some t∧v=x.v)∨(x.o.dst≠some t∧Tr.get x.tm.m t=some v)
def zad (E:Env) (P:Program) (ls:List Oper):List Nat→Nat→List Fp→Tm→St→Tm→St→Prop
 | _,_,[],T,S,T',S'=>T'=T∧S'.heap=S.heap∧S'.next=S.next
 | an,i,x :: R,T,S,T',S'=>x.i=i∧an.head? = some x.a∧x.tm=T∧x.s.heap=S.heap∧x.s.next=S.next∧∃ T1,One E P ls x T1∧zad E P ls an.tail (i+1) R T1 x.s' T' S'
theorem zs8 (hN:zb7 P) {ih:Ih} (hih:zb3 P E ih) {ls:List Oper}:∀ {l:List Oper} {an:List Nat} {i:Nat} {fps:List Fp} {t w:Nat} {T:Tm} {S:St} {q:Tm × St},(∀ j,ls[i+j]? = l[j]?)→zjr E P ih ls l an i fps t w T S=some q →
  ∃ R:List Fp,R.length=l.length∧zub E P (R.reverse ++ fps)=true∧zad E P ls an i R T S q.1 q.2∧(∀ n,bit q.2.t n↔bit t n∨∃ x∈R,bit x.t n)∧(∀ n,bit q.2.w n↔bit w n∨∃ x∈R,bit x.w n)
 | [],an,i,fps,t,w,T,S,q,_,hr=>by
  have hr:zk (zub E P fps) (some (T,(⟨S.heap,S.next,t,w⟩:St))) none=some q:=hr;obtain ⟨h1,h2⟩:=zf hr;cases h2;exact ⟨[],rfl,by simpa using h1,⟨rfl,rfl,rfl⟩,fun n=>by simp,fun n=>by simp⟩
 | o :: l,an,i,fps,t,w,T,S,q,hl,hr=>by
  have hat:ls[i]? = some o:=by have:=hl 0;simpa using this
  have hl':∀ j,ls[(i+1)+j]? = l[j]?:=fun j=>by have:=hl (j+1);rw [show i+1+j=i+(j+1) by omega,this];simp
  cases an with
  | nil=>have h:(none:Option (Tm × St))=some q:=hr;cases h
  | cons a an =>
   have hr9:zq9 ls T o
    (zf3 E P ih T o ⟨S.heap,S.next,0,0⟩ fun v S'=>T.putK o.dst v fun T'=>fcN (Nat.lor t S'.t) fun t'=>fcN (Nat.lor w S'.w) fun w'=>zjr E P ih ls l an (Nat.succ i) (⟨i,a,S'.t,S'.w,o,T,S,v,S'⟩ :: fps) t' w' T' S')
    (T.putK o.dst .undef fun T'=>zjr E P ih ls l an (Nat.succ i) (⟨i,a,0,0,o,T,S,.undef,S⟩ :: fps) t w T' S)=some q:=hr
   clear hr;rw [z1n] at hr9;obtain ⟨b,hb,hr8⟩:=zd hr9;clear hr9;cases b with
   | true =>
    have hr7:(zf3 E P ih T o (bare S) fun v S'=>T.putK o.dst v fun T'=>fcN (Nat.lor t S'.t) fun t'=>fcN (Nat.lor w S'.w) fun w'=>zjr E P ih ls l an (Nat.succ i) (⟨i,a,S'.t,S'.w,o,T,S,v,S'⟩ :: fps) t' w' T' S')=some q:=hr8;clear hr8;obtain ⟨v,S₁,h1,h2,h3⟩:=z8f hN hih hr7;obtain ⟨T1,p1,p2,p3⟩:=z1y h1;simp only [zan] at p1;obtain ⟨R,r1,r2,r3,r4,r5⟩:=zs8 hN hih hl' p1;refine ⟨⟨i,a,S₁.t,S₁.w,o,T,S,v,S₁⟩ :: R,by simp [r1],by simpa using r2,⟨rfl,rfl,rfl,rfl,rfl,T1,⟨hat,h2,⟨true,hb,fun _=>h3,fun h=>by cases h⟩,p2,p3⟩,r3⟩,fun n=>?_,fun n=>?_⟩
    ·rw [r4,zg]
     simp only [List.mem_cons,exists_eq_or_imp,or_assoc]
    ·rw [r5,zg]
     simp only [List.mem_cons,exists_eq_or_imp,or_assoc]
   | false =>
    have hr7:(T.putK o.dst .undef fun T'=>zjr E P ih ls l an (Nat.succ i) (⟨i,a,0,0,o,T,S,.undef,S⟩ :: fps) t w T' S)=some q:=hr8;clear hr8;obtain ⟨T1,p1,p2,p3⟩:=z1y hr7;obtain ⟨R,r1,r2,r3,r4,r5⟩:=zs8 hN hih hl' p1;refine ⟨⟨i,a,0,0,o,T,S,.undef,S⟩ :: R,by simp [r1],by simpa using r2,⟨rfl,rfl,rfl,rfl,rfl,T1,⟨hat,.refl (bare S),⟨false,hb,(fun h=>by cases h),fun _=>⟨rfl,rfl⟩⟩,p2,p3⟩,r3⟩,fun n=>?_,fun n=>?_⟩
    ·rw [r4]
     simp only [List.mem_cons,exists_eq_or_imp,zc1,false_or]
    ·rw [r5]
     simp only [List.mem_cons,exists_eq_or_imp,zc1,false_or]
end
section
variable {E:Env} {P:Program} {ls:List Oper}
theorem zsg {x:Fp} {T':Tm} {S':St}:∀ {R1 R2:List Fp} {an:List Nat} {i:Nat} {T:Tm} {S:St},zad E P ls an i (R1 ++ x :: R2) T S T' S' →
  x.i=i+R1.length∧an[R1.length]? = some x.a∧zad E P ls an i R1 T S x.tm x.s∧∃ T1,One E P ls x T1∧zad E P ls (an.drop (R1.length+1)) (x.i+1) R2 T1 x.s' T' S'
 | [],R2,an,i,T,S,⟨h1,h2,h3,h4,h5,T1,h6,h7⟩=>by
  refine ⟨h1,?_,⟨h3,h4,h5⟩,T1,h6,?_⟩
  ·rw [← h2];cases an<;>rfl
  ·rw [h1];simpa using h7
 | y :: R1,R2,an,i,T,S,⟨h1,h2,h3,h4,h5,T1,h6,h7⟩=>by
  obtain ⟨g1,g2,g3,T2,g4,g5⟩:=zsg h7;refine ⟨by rw [g1];simp;omega,?_,⟨h1,h2,h3,h4,h5,T1,h6,g3⟩,T2,g4,?_⟩
  ·rw [← g2];cases an<;>simp
  ·have:an.drop ((y :: R1).length+1)=an.tail.drop (R1.length+1):=by cases an<;>simp
   rw [this];exact g5
theorem zo0 {T':Tm} {S':St}:∀ {R:List Fp} {an:List Nat} {i:Nat} {T:Tm} {S:St},zad E P ls an i R T S T' S'→∀ (k:Nat) (x:Fp),R[k]? = some x→x.i=i+k
 | [],_,_,_,_,_,k,x,h=>by simp at h
 | y :: R,an,i,T,S,⟨h1,_,_,_,_,T1,_,h7⟩,0,x,h=>by simp at h;subst h;exact h1
 | y :: R,an,i,T,S,⟨h1,_,_,_,_,T1,_,h7⟩,k+1,x,h=>by
  have:=zo0 h7 k x (by simpa using h);omega
theorem zgo {R:List Fp} {an:List Nat} {i:Nat} {T T':Tm} {S S':St} (hC:zad E P ls an i R T S T' S') {x:Fp} (hx:x∈R):i≤x.i∧R[x.i - i]? = some x:=by
 obtain ⟨k,hk,e⟩:=List.getElem_of_mem hx;have h1:R[k]? = some x:=by rw [List.getElem?_eq_getElem hk,e]
 have h2:=zo0 hC k x h1;exact ⟨by omega,by rw [show x.i - i=k by omega];exact h1⟩
theorem zqn {R:List Fp} {an:List Nat} {i:Nat} {T T':Tm} {S S':St} (hC:zad E P ls an i R T S T' S') {x y:Fp} (hx:x∈R) (hy:y∈R) (h:x.i=y.i):x=y:=by
 have h1:=(zgo hC hx).2;have h2:=(zgo hC hy).2;rw [h,h2] at h1;exact (Option.some.inj h1).symm
theorem z1z {R:List Fp} {an:List Nat} {i:Nat} {T T':Tm} {S S':St} (hC:zad E P ls an i R T S T' S') {x:Fp} (hx:x∈R):x.i < i+R.length:=by
 have h1:=zgo hC hx;have:=(List.getElem?_eq_some_iff.1 h1.2).1;omega
theorem zj0 {R:List Fp} {an:List Nat} {i:Nat} {T T':Tm} {S S':St} (hC:zad E P ls an i R T S T' S') {x:Fp} (hx:x∈R):∃ R1 R2 T1,R=R1 ++ x :: R2∧an[x.i - i]? = some x.a∧(∀ y,y∈R1↔y∈R∧y.i < x.i)∧(∀ y,y∈R2↔y∈R∧x.i < y.i) ∧
  zad E P ls an i R1 T S x.tm x.s∧One E P ls x T1∧zad E P ls (an.drop (R1.length+1)) (x.i+1) R2 T1 x.s' T' S':=by
 obtain ⟨R1,R2,e⟩:=List.append_of_mem hx;have hC0:=hC;rw [e] at hC;obtain ⟨g1,g2,g3,T1,g4,g5⟩:=zsg hC;have a1:∀ y∈R1,y.i < x.i:=fun y hy=>by have:=z1z g3 hy;omega
 have a2:∀ y∈R2,x.i < y.i:=fun y hy=>by have:=(zgo g5 hy).1;omega
 refine ⟨R1,R2,T1,e,by rw [show x.i - i=R1.length by omega];exact g2,fun y=>⟨fun hy=>⟨by rw [e];simp [hy],a1 y hy⟩,fun hy=>?_⟩,fun y=>⟨fun hy=>⟨by rw [e];simp [hy],a2 y hy⟩,fun hy=>?_⟩,g3,g4,g5⟩
 ·obtain ⟨h1,h2⟩:=hy
  rw [e] at h1
  rcases List.mem_append.1 h1 with h1 | h1
  ·exact h1
  ·rcases List.mem_cons.1 h1 with rfl | h1
   ·omega
   ·have:=a2 y h1;omega
 ·obtain ⟨h1,h2⟩:=hy
  rw [e] at h1
  rcases List.mem_append.1 h1 with h1 | h1
  ·have:=a1 y h1;omega
  ·rcases List.mem_cons.1 h1 with rfl | h1
   ·omega
   ·exact h1
theorem zd0 {R:List Fp} {an:List Nat} {i:Nat} {T T':Tm} {S S':St} (hC:zad E P ls an i R T S T' S') {x:Fp} (hx:x∈R):∃ T1,One E P ls x T1:=by
 obtain ⟨_,_,T1,_,_,_,_,_,h,_⟩:=zj0 hC hx;exact ⟨T1,h⟩
theorem zhj {T':Tm} {S':St}:∀ {R:List Fp} {an:List Nat} {i:Nat} {T:Tm} {S:St},zad E P ls an i R T S T' S'→S.next≤S'.next∧∀ x∈R,S.next≤x.s.next∧x.s.next≤x.s'.next∧x.s'.next≤S'.next
 | [],_,_,_,_,⟨_,_,h⟩=>⟨by omega,fun x hx=>by cases hx⟩
 | y :: R,an,i,T,S,⟨h1,_,_,_,h5,T1,h6,h7⟩=>by
  obtain ⟨g1,g2⟩:=zhj h7;have l:y.s.next≤y.s'.next:=h6.lcl.next;refine ⟨by omega,fun x hx=>?_⟩
  rcases List.mem_cons.1 hx with rfl | hx
  ·exact ⟨by omega,l,g1⟩
  ·have:=g2 x hx;exact ⟨by omega,this.2.1,this.2.2⟩
theorem zx2 {R:List Fp} {an:List Nat} {i:Nat} {T T':Tm} {S S':St} (hC:zad E P ls an i R T S T' S') {x y:Fp} (hx:x∈R) (hy:y∈R) (h:x.i < y.i):x.s'.next≤y.s.next:=by
 obtain ⟨R1,R2,T1,_,_,_,h2,_,_,h5⟩:=zj0 hC hx;exact ((zhj h5).2 y ((h2 y).2 ⟨hy,h⟩)).1
theorem z14 {T':Tm} {S':St}:∀ {R:List Fp} {an:List Nat} {i:Nat} {T:Tm} {S:St},zad E P ls an i R T S T' S'→T'.sz=T.sz∧∀ x∈R,x.tm.sz=T.sz
 | [],_,_,_,_,⟨h,_,_⟩=>⟨by rw [h],fun x hx=>by cases hx⟩
 | y :: R,an,i,T,S,⟨h1,_,h3,_,h5,T1,h6,h7⟩=>by
  obtain ⟨g1,g2⟩:=z14 h7;have e:=h6.sz;rw [h3] at e;refine ⟨by rw [g1,e],fun x hx=>?_⟩
  rcases List.mem_cons.1 hx with rfl | hx
  ·rw [h3]
  ·rw [g2 x hx,e]
theorem zo1 {S S':St} (h:S'.heap=S.heap) (m:Nat):S'.get m=S.get m:=by rw [St.get_eq,St.get_eq,h]
theorem zo2 {T':Tm} {S':St} {m:Nat} {o:AO} (ho:S'.get m=some o):∀ {R:List Fp} {an:List Nat} {i:Nat} {T:Tm} {S:St},zad E P ls an i R T S T' S' →
  (∃ x∈R,bit x.w m∧x.s'.get m=some o∧∀ x'∈R,bit x'.w m→x'.i≤x.i)∨((∀ x∈R,¬ bit x.w m)∧S.get m=some o)
 | [],_,_,_,_,⟨_,h,_⟩=>.inr ⟨(fun x hx=>by cases hx),by rw [← zo1 h];exact ho⟩
 | y :: R,an,i,T,S,⟨h1,_,_,h4,h5,T1,h6,h7⟩=>by
  rcases zo2 ho h7 with ⟨x,hx,g1,g2,g3⟩ | ⟨g1,g2⟩
  ·refine .inl ⟨x,by simp [hx],g1,g2,fun x' hx' hw=>?_⟩
   rcases List.mem_cons.1 hx' with rfl | hx'
   ·have:=(zgo h7 hx).1;omega
   ·exact g3 x' hx' hw
  ·rcases Classical.em (bit y.w m) with hw | hw
   ·refine .inl ⟨y,by simp,hw,g2,fun x' hx' hw'=>?_⟩
    rcases List.mem_cons.1 hx' with rfl | hx'
    ·exact Nat.le_refl _
    ·exact absurd hw' (g1 x' hx')
   ·refine .inr ⟨fun x hx=>?_,?_⟩
    ·rcases List.mem_cons.1 hx with rfl | hx
     ·exact hw
     ·exact g1 x hx
    ·have:=h6.lcl.keep m o hw (by rw [zwi];exact g2)
     rw [zs7,zo1 h4] at this;exact this
theorem zwj {T':Tm} {S':St} {t:Nat} {v:AV} (ho:Tr.get T'.m t=some v):∀ {R:List Fp} {an:List Nat} {i:Nat} {T:Tm} {S:St},zad E P ls an i R T S T' S' →
  (∃ x∈R,x.o.dst=some t∧x.v=v∧∀ x'∈R,x'.o.dst=some t→x'.i≤x.i)∨((∀ x∈R,x.o.dst≠some t)∧Tr.get T.m t=some v)
 | [],_,_,_,_,⟨h,_,_⟩=>.inr ⟨(fun x hx=>by cases hx),by rw [← h];exact ho⟩
 | y :: R,an,i,T,S,⟨h1,_,h3,h4,h5,T1,h6,h7⟩=>by
  rcases zwj ho h7 with ⟨x,hx,g1,g2,g3⟩ | ⟨g1,g2⟩
  ·refine .inl ⟨x,by simp [hx],g1,g2,fun x' hx' hw=>?_⟩
   rcases List.mem_cons.1 hx' with rfl | hx'
   ·have:=(zgo h7 hx).1;omega
   ·exact g3 x' hx' hw
  ·rcases h6.tm t v g2 with ⟨k1,k2⟩ | ⟨k1,k2⟩
   ·refine .inl ⟨y,by simp,k1,k2.symm,fun x' hx' hw'=>?_⟩
    rcases List.mem_cons.1 hx' with rfl | hx'
    ·exact Nat.le_refl _
    ·exact absurd hw' (g1 x' hx')
   ·refine .inr ⟨fun x hx=>?_,by rw [← h3];exact k2⟩
    rcases List.mem_cons.1 hx with rfl | hx
    ·exact k1
    ·exact g1 x hx
theorem z15 {T':Tm} {S':St} {m:Nat}:∀ {R:List Fp} {an:List Nat} {i:Nat} {T:Tm} {S:St} {o:AO},zad E P ls an i R T S T' S'→(m < S.next∨S'.next≤m)→S'.get m=some o→∃ o',S.get m=some o'
 | [],_,_,_,_,o,⟨_,h,_⟩,_,ho=>⟨o,by rw [← zo1 h];exact ho⟩
 | y :: R,an,i,T,S,o,⟨h1,_,_,h4,h5,T1,h6,h7⟩,hm,ho=>by
  have l:y.s.next≤y.s'.next:=h6.lcl.next;have l2:=(zhj h7).1;obtain ⟨o',ho'⟩:=z15 h7 (by omega) ho;obtain ⟨o2,ho2⟩:=h6.lcl.live m o' (show m < y.s.next∨y.s'.next≤m by omega) (by rw [zwi];exact ho');rw [zs7,zo1 h4] at ho2;exact ⟨o2,ho2⟩
theorem zwk {T':Tm} {S':St} {m:Nat}:∀ {R:List Fp} {an:List Nat} {i:Nat} {T:Tm} {S:St},zad E P ls an i R T S T' S'→S.next≤m→m < S'.next→∃ x∈R,x.s.next≤m∧m < x.s'.next
 | [],_,_,_,_,⟨_,_,h⟩,h1,h2=>by omega
 | y :: R,an,i,T,S,⟨_,_,_,h4,h5,T1,h6,h7⟩,h1,h2=>by
  rcases Nat.lt_or_ge m y.s'.next with h | h
  ·exact ⟨y,by simp,by omega,h⟩
  ·obtain ⟨x,hx,g⟩:=zwk h7 h h2
   exact ⟨x,by simp [hx],g⟩
theorem z4e {R:List Fp} {an:List Nat} {i:Nat} {T T':Tm} {S S':St} (hC:zad E P ls an i R T S T' S') (ht:∀ n,bit S'.t n↔bit S.t n∨∃ x∈R,bit x.t n) (hw:∀ n,bit S'.w n↔bit S.w n∨∃ x∈R,bit x.w n):Lcl S S' where
 next:=(zhj hC).1
 t n h:=(ht n).2 (.inl h)
 w n h:=(hw n).2 (.inl h)
 live n o hn ho:=z15 hC hn ho
 new n h1 h2:=by
  obtain ⟨x,hx,g1,g2⟩:=zwk hC h1 h2;obtain ⟨T1,h⟩:=zd0 hC hx;obtain ⟨k1,k2⟩:=h.lcl.new n g1 g2;exact ⟨(hw n).2 (.inr ⟨x,hx,k1⟩),(ht n).2 (.inr ⟨x,hx,k2⟩)⟩
 keep n o hn ho:=by
  rcases zo2 ho hC with ⟨x,hx,g1,_⟩ | ⟨_,g⟩
  ·exact absurd ((hw n).2 (.inr ⟨x,hx,g1⟩)) hn
  ·exact g
 wt h0 n h:=by
  rcases (hw n).1 h with h | ⟨x,hx,h⟩
  ·exact (ht n).2 (.inl (h0 n h))
  ·obtain ⟨T1,h1⟩:=zd0 hC hx
   exact (ht n).2 (.inr ⟨x,hx,h1.lcl.wt (fun n hb=>absurd hb (zc1 n)) n h⟩)
end
theorem z16 {acc:List Nat}:∀ {l:List Nat} {s j:Nat},bit (l.foldl (fun s j=>Nat.lor (Nat.lor s (Nat.shiftLeft 1 j)) ((nth acc j).getD 0)) s) j→bit s j∨∃ d∈l,d=j∨∃ b,acc[d]? = some b∧bit b j
 | [],s,j,h=>.inl h
 | d :: l,s,j,h=>by
  rcases z16 (l:=l) h with h | ⟨d',h1,h2⟩
  ·rcases zg.1 h with h | h
   ·rcases zg.1 h with h | h
    ·exact .inl h
    ·exact .inr ⟨d,by simp,.inl (zl.1 h).symm⟩
   ·rw [zb1] at h
    cases e:acc[d]? with
    | none=>rw [e] at h;exact absurd h (zc1 j)
    | some b=>rw [e] at h;exact .inr ⟨d,by simp,.inr ⟨b,e,h⟩⟩
  ·exact .inr ⟨d',by simp [h1],h2⟩
theorem z8g:∀ (l:List Oper) (acc:List Nat),(∀ k,k < acc.length→(l.foldl (fun acc o=>acc ++ [zkf acc o]) acc)[k]? = acc[k]?)∧∀ i o,l[i]? = some o→∃ a,(l.foldl (fun acc o=>acc ++ [zkf acc o]) acc)[acc.length+i]? = some a ∧
  ∀ j,bit a j→∃ d∈zeo o,d=j∨∃ b,(l.foldl (fun acc o=>acc ++ [zkf acc o]) acc)[d]? = some b∧d < acc.length+i∧bit b j
 | [],acc=>⟨fun k _=>rfl,fun i o h=>by simp at h⟩
 | x :: l,acc=>by
  obtain ⟨g1,g2⟩:=z8g l (acc ++ [zkf acc x]);have e0:∀ k,k < acc.length→((x :: l).foldl (fun acc o=>acc ++ [zkf acc o]) acc)[k]? = acc[k]?:=fun k hk=>by
   rw [List.foldl_cons,g1 k (by simp;omega),List.getElem?_append_left hk]
  refine ⟨e0,fun i o h=>?_⟩;cases i with
  | zero =>
   simp at h;subst h;refine ⟨zkf acc x,by rw [List.foldl_cons,g1 _ (by simp)];simp,fun j hj=>?_⟩
   rcases z16 hj with h | ⟨d,h1,h2⟩
   ·exact absurd h (zc1 j)
   ·refine ⟨d,h1,?_⟩
    rcases h2 with h2 | ⟨b,h2,h3⟩
    ·exact .inl h2
    ·have hd:=(List.getElem?_eq_some_iff.1 h2).1
     exact .inr ⟨b,by rw [e0 d hd];exact h2,by omega,h3⟩
  | succ i =>
   obtain ⟨a,k1,k2⟩:=g2 i o (by simpa using h);have el:(acc ++ [zkf acc x]).length+i=acc.length+(i+1):=by simp;omega
   rw [el] at k1;refine ⟨a,k1,fun j hj=>?_⟩;obtain ⟨d,h1,h2⟩:=k2 j hj;refine ⟨d,h1,?_⟩
   rcases h2 with h2 | ⟨b,h2,h3,h4⟩
   ·exact .inl h2
   ·exact .inr ⟨b,h2,by omega,h4⟩
theorem zaeh {ls:List Oper} {i:Nat} {o:Oper} (h:ls[i]? = some o):∃ a,(zig ls)[i]? = some a∧∀ j,bit a j→∃ d∈zeo o,d=j∨∃ b,(zig ls)[d]? = some b∧d < i∧bit b j:=by
 obtain ⟨a,h1,h2⟩:=(z8g ls []).2 i o h;have e:([]:List Nat).length+i=i:=by simp
 rw [e] at h1;refine ⟨a,h1,fun j hj=>?_⟩;obtain ⟨d,g1,g2⟩:=h2 j hj;rw [e] at g2;exact ⟨d,g1,g2⟩
def zj1 (S:St) (R:List Fp) (L:Nat→Prop) (m:Nat) (o:AO):Prop :=
 (∃ x∈R,L x.i∧bit x.w m∧x.s'.get m=some o∧∀ x'∈R,L x'.i→bit x'.w m→x'.i≤x.i)∨((∀ x∈R,L x.i→¬ bit x.w m)∧S.get m=some o)
def z5x (T:Tm) (R:List Fp) (L:Nat→Prop) (t:Nat) (v:AV):Prop :=
 (∃ x∈R,L x.i∧x.o.dst=some t∧x.v=v∧∀ x'∈R,L x'.i→x'.o.dst=some t→x'.i≤x.i)∨((∀ x∈R,L x.i→x.o.dst≠some t)∧Tr.get T.m t=some v)
structure zbp (E:Env) (P:Program) (ls:List Oper) (R:List Fp) (T:Tm) (S:St) (T':Tm) (S':St):Prop where
 ch:zad E P ls (zig ls) 0 R T S T' S'
 ok:zub E P R.reverse=true
 len:R.length=ls.length
 dr:z02 ls T.sz=true
structure zfb (R:List Fp) (L:Nat→Prop) (x:Fp):Prop where
 mem:x∈R
 no:¬ L x.i
 anc:∀ j,bit x.a j→L j
 down:∀ y∈R,L y.i→¬ bit y.a x.i
section
variable {E:Env} {P:Program} {ls:List Oper} {R:List Fp} {Tm0 Tm1:Tm} {S S':St} {L:Nat→Prop} {x:Fp}
theorem zbp.clash (D:zbp E P ls R Tm0 S Tm1 S') {y x:Fp} (hy:y∈R) (hx:x∈R) (hc:clash y x=true):zoo E P y x=true∧∀ x'∈R,Go.Proofs.YtnfdiohfojjnlaaGreat.clash y x'=true→x'=x:=by
 obtain ⟨h1,h2⟩:=zaax D.ok (y:=y) (x:=x) (by simpa using hy) (by simpa using hx) hc;exact ⟨h1,fun x' hx'=>h2 x' (by simpa using hx')⟩
theorem zbp.anc (D:zbp E P ls R Tm0 S Tm1 S') {x:Fp} (hx:x∈R):ls[x.i]? = some x.o∧zop ls (zig ls) Tm0.sz x.i x.o=true∧(zig ls)[x.i]? = some x.a∧(∀ j,bit x.a j→j < x.i∧∃ d∈zeo x.o,d=j∨∃ y∈R,y.i=d∧bit y.a j):=by
 suffices H:∀ (n:Nat) (x:Fp),x∈R→x.i=n→ls[x.i]? = some x.o∧zop ls (zig ls) Tm0.sz x.i x.o=true∧(zig ls)[x.i]? = some x.a∧(∀ j,bit x.a j→j < x.i∧∃ d∈zeo x.o,d=j∨∃ y∈R,y.i=d∧bit y.a j) from H _ x hx rfl
 intro n
 induction n using Nat.strongRecOn with
 | _ n ih =>
  intro x hx hn;obtain ⟨T1,h1⟩:=zd0 D.ch hx;have hat:=h1.o;have hlt:x.i < ls.length:=(List.getElem?_eq_some_iff.1 hat).1;have hop:zop ls (zig ls) Tm0.sz x.i x.o=true:=by
   have:=List.all_eq_true.1 D.dr x.i (List.mem_range.2 hlt);rw [hat] at this;exact this
  obtain ⟨a,g1,g2⟩:=zaeh hat;have ha:(zig ls)[x.i]? = some x.a:=by
   obtain ⟨_,_,_,_,h,_⟩:=zj0 D.ch hx;simpa using h
  rw [ha] at g1;have e:=Option.some.inj g1;subst e;refine ⟨hat,hop,ha,fun j hj=>?_⟩;obtain ⟨d,k1,k2⟩:=g2 j hj;have hd:d < x.i:=by
   unfold zop at hop;simp only [Bool.and_eq_true] at hop;have:=List.all_eq_true.1 hop.1.1.2 d k1;simpa using this
  have hdR:d < R.length:=by rw [D.len];omega
  have hy:R[d]'hdR∈R:=List.getElem_mem hdR;have hyi:(R[d]'hdR).i=d:=by have:=zo0 D.ch d _ (List.getElem?_eq_getElem hdR);omega
  rcases k2 with rfl | ⟨b,k3,k4,k5⟩
  ·exact ⟨hd,d,k1,.inl rfl⟩
  ·obtain ⟨_,_,q3,q4⟩:=ih d (by omega) _ hy hyi
   rw [hyi,k3] at q3;have e:=Option.some.inj q3;rw [e] at k5;have:=(q4 j k5).1;exact ⟨by omega,d,k1,.inr ⟨_,hy,hyi,k5⟩⟩
theorem zbp.lt (D:zbp E P ls R Tm0 S Tm1 S') (hx:x∈R) {j:Nat} (h:bit x.a j):j < x.i:=((D.anc hx).2.2.2 j h).1
theorem zbp.meet (D:zbp E P ls R Tm0 S Tm1 S') {y x:Fp} (hy:y∈R) (hx:x∈R) {n:Nat} (h1:bit x.w n) (h2:bit y.t n) (h3:x.i≠y.i) (h4:¬ bit x.a y.i) (h5:¬ bit y.a x.i):y.i < x.i∧y.w=0∧zoo E P y x=true∧(∀ x'∈R,Go.Proofs.YtnfdiohfojjnlaaGreat.clash y x'=true→x'=x):=by
 obtain ⟨k1,k2⟩:=D.clash hy hx (zsf h1 h2 h3 h4 h5);have k3:=k1;unfold zoo at k3;rw [zfs,zfs,Bool.and_eq_true,Bool.and_eq_true] at k3;exact ⟨Nat.le_of_ble_eq_true k3.1.1,Nat.eq_of_beq_eq_true k3.1.2,k1,k2⟩
theorem zbp.order (D:zbp E P ls R Tm0 S Tm1 S') {x y:Fp} (hx:x∈R) (hy:y∈R) (h:x.i < y.i) (hm:zuc ls x.o y.o=true):bit y.a x.i:=by
 obtain ⟨h1,h2,h3,_⟩:=D.anc hy;have g:=(D.anc hx).1;unfold zop at h2;simp only [Bool.and_eq_true] at h2;have q:=List.all_eq_true.1 h2.1.2 x.i (List.mem_range.2 h);rw [g] at q;simp only [hm,Bool.not_true,Bool.false_or] at q;rw [List.getD_eq_getElem?_getD,h3] at q;exact zl2.1 q
theorem z8h (D:zbp E P ls R Tm0 S Tm1 S') (hx:x∈R) {n:Nat} (h:bit x.w n):bit x.t n:=by
 obtain ⟨T1,h1⟩:=zd0 D.ch hx;exact h1.lcl.wt (fun n hb=>absurd hb (zc1 n)) n h
theorem zfb.late (D:zbp E P ls R Tm0 S Tm1 S') (h:zfb R L x) {z:Fp} (hz:z∈R) (hL:L z.i) {m:Nat} (hw:bit z.w m) (ht:bit x.t m) (hlt:x.i < z.i):zoo E P x z=true∧x.w=0∧(∀ x'∈R,Go.Proofs.YtnfdiohfojjnlaaGreat.clash x x'=true→x'=z):=by
 obtain ⟨_,h2,h3,h4⟩:=D.meet h.mem hz hw ht (by omega) (h.down z hz hL) (fun hb=>by have:=D.lt h.mem hb;omega);exact ⟨h3,h2,h4⟩
theorem zfb.seen (D:zbp E P ls R Tm0 S Tm1 S') (h:zfb R L x) {m:Nat} {o:AO} (ht:bit x.t m) (ho:x.s.get m=some o) (hno:∀ z∈R,L z.i→bit z.w m→¬ x.i < z.i):zj1 S R L m o:=by
 obtain ⟨R1,R2,T1,e,_,m1,m2,c1,o1,c2⟩:=zj0 D.ch h.mem;have anc:∀ y∈R,y.i < x.i→bit y.w m→L y.i:=fun y hy hlt hw=>by
  rcases Classical.em (bit x.a y.i) with hb | hb
  ·exact h.anc _ hb
  ·have:=(D.meet h.mem hy hw ht (by omega) (fun hb=>by have:=D.lt hy hb;omega) hb).1
   omega
 rcases zo2 ho c1 with ⟨y,hy,g1,g2,g3⟩ | ⟨g1,g2⟩
 ·obtain ⟨hyR,hyl⟩:=(m1 y).1 hy
  refine .inl ⟨y,hyR,anc y hyR hyl g1,g1,g2,fun x' hx' hL' hw'=>?_⟩
  rcases Nat.lt_trichotomy x'.i x.i with hc | hc | hc
  ·exact g3 x' ((m1 x').2 ⟨hx',hc⟩) hw'
  ·rw [hc] at hL';exact absurd hL' h.no
  ·exact absurd hc (hno x' hx' hL' hw')
 ·refine .inr ⟨fun x' hx' hL' hw'=>?_,g2⟩
  rcases Nat.lt_trichotomy x'.i x.i with hc | hc | hc
  ·exact g1 x' ((m1 x').2 ⟨hx',hc⟩) hw'
  ·rw [hc] at hL';exact absurd hL' h.no
  ·exact absurd hc (hno x' hx' hL' hw')
structure z5y (S:St) (R:List Fp) (L:Nat→Prop) (x:Fp) (A B:St):Prop where
 na:A.next=x.s.next
 nb:B.next=x.s'.next
 see:∀ m o,bit x.t m→A.get m=some o→zj1 S R L m o
 w:∀ m,bit B.w m→bit x.w m
 out:∀ m o,bit x.w m→x.s'.get m=some o→B.get m=some o
theorem z8i {a b:AV} (h:z01 a b=true):a=b:=by
 unfold z01 at h
 split at h
 ·rw [zfs,Bool.and_eq_true] at h
  have e:=zqa h.1;have e2:=h.2;rw [zp9] at e2;rw [e,eq_of_beq e2]
 ·rename_i x y
  cases x<;>cases y<;>first | rfl | cases h
 ·cases h
theorem zfb.sees (hN:zb7 P) {ih:Ih} (hih:zb3 P E ih) (D:zbp E P ls R Tm0 S Tm1 S') (h:zfb R L x) (hs:∀ tm',Agree x.tm tm' x.o.op.operands.toList→z5w E P x.o tm' (bare x.s) x.v x.out) :
  ∃ A B,z5y S R L x A B∧(∀ m,bit B.t m→bit x.t m)∧∀ tm',Agree x.tm tm' x.o.op.operands.toList→z5w E P x.o tm' A x.v B:=by
 rcases Classical.em (∃ z∈R,L z.i∧x.i < z.i∧∃ m,bit z.w m∧bit x.t m) with ⟨z,hz,hL,hlt,m0,hw0,ht0⟩ | hno
 ·obtain ⟨k1,k2,k3⟩:=h.late D hz hL hw0 ht0 hlt
  unfold zoo at k1;rw [zfs,Bool.and_eq_true] at k1;have k4:=k1.2;simp only [zan] at k4;rw [zfs,Bool.and_eq_true] at k4;obtain ⟨k5,k6⟩:=k4;have k5:Nat.land z.w x.t=zm (Nat.log2 (Nat.land z.w x.t)):=Nat.eq_of_beq_eq_true k5;generalize Nat.log2 (Nat.land z.w x.t)=n at k5 k6
  split at k6
  ·rename_i v B he
   rw [zfs,zfs,zfs,Bool.and_eq_true,Bool.and_eq_true,Bool.and_eq_true] at k6;obtain ⟨w0,t0,n0,v0⟩:=k6;have w0:B.w=0:=Nat.eq_of_beq_eq_true w0;have t0:Nat.lor B.t x.t=x.t:=Nat.eq_of_beq_eq_true t0;have n0:B.next=x.s.next:=Nat.eq_of_beq_eq_true n0;have v0:=z8i v0;subst v0;have hr:zf3 E P ih x.tm x.o ⟨Tr.put 24 n (z.s'.get n) x.s.heap,x.s.next,0,0⟩ (fun v S=>some ((⟨Tr.put 24 0 (some v) .leaf,1⟩:Tm),S))=some (⟨Tr.put 24 0 (some x.v) .leaf,1⟩,B):=by
    unfold zf3;rw [he];rfl
   obtain ⟨v',S₁,q1,q2,q3⟩:=z8f hN hih hr;have q4:=Option.some.inj q1;have e2:S₁=B:=congrArg Prod.snd q4;have e1:v'=x.v:=by
    have:=congrArg (fun p:Tm × St=>Tr.get p.1.m 0) q4;exact Option.some.inj this
   subst e1 e2;obtain ⟨T1,h1⟩:=zd0 D.ch h.mem;have hnx:x.s'.next=x.s.next:=by
    have l1:x.s.next≤x.s'.next:=h1.lcl.next
    rcases Nat.lt_or_ge x.s.next x.s'.next with hc | hc
    ·have:=(h1.lcl.new x.s.next (Nat.le_refl _) hc).1
     have e:x.out.w=0:=k2;rw [e] at this;exact absurd this (zc1 _)
    ·omega
   refine ⟨⟨Tr.put 24 n (z.s'.get n) x.s.heap,x.s.next,0,0⟩,S₁,⟨rfl,by rw [n0,hnx],fun m o ht ho=>?_,fun m hm=>by rw [w0] at hm;exact absurd hm (zc1 _),fun m o hm=>by rw [k2] at hm;exact absurd hm (zc1 _)⟩,fun m hm=>by rw [← t0];exact zg.2 (.inl hm),q3⟩;have ho2:Tr.get (Tr.put 24 n (z.s'.get n) x.s.heap) m=some o:=by rw [St.get_eq] at ho;exact ho
   have hb:=zaaw k5;have lateN:∀ x'∈R,L x'.i→∀ m,bit x'.w m→bit x.t m→x.i < x'.i→x'=z:=fun x' hx' hL' m hw' ht' hc=>by
    exact k3 x' hx' (zsf hw' ht' (by omega) (h.down x' hx' hL') (fun hb=>by have:=D.lt h.mem hb;omega))
   rcases Tr.get_put _ _ _ _ _ _ ho2 with ⟨rfl,g⟩ | ⟨hne,g⟩
   ·refine .inl ⟨z,hz,hL,hb.1,g,fun x' hx' hL' hw'=>?_⟩
    rcases Nat.lt_or_ge x.i x'.i with hc | hc
    ·rw [lateN x' hx' hL' m hw' ht hc];exact Nat.le_refl _
    ·omega
   ·refine h.seen D ht (by rw [St.get_eq];exact g) fun z' hz' hL' hw' hc=>?_
    have e:=lateN z' hz' hL' m hw' ht hc;subst e;exact hne (zaav k5 hw' ht)
  ·cases k6
 ·refine ⟨bare x.s,x.out,⟨rfl,rfl,fun m o ht ho=>h.seen D ht (by rw [zs7] at ho;exact ho) fun z hz hL hw hlt=>hno ⟨z,hz,hL,hlt,m,hw,ht⟩,fun m hm=>hm,fun m o _ ho=>by rw [zwi];exact ho⟩,fun m hm=>hm,hs⟩
theorem zfb.step (D:zbp E P ls R Tm0 S Tm1 S') (h:zfb R L x) {m:Nat} {o:AO} (hv:zj1 S R (fun j=>L j∨j=x.i) m o):(bit x.w m∧x.s'.get m=some o)∨(¬ bit x.w m∧zj1 S R L m o):=by
 rcases hv with ⟨z,hz,hL,g1,g2,g3⟩ | ⟨g1,g2⟩
 ·rcases hL with hL | e
  ·refine .inr ⟨fun hw=>?_,.inl ⟨z,hz,hL,g1,g2,fun x' hx' hL' hw'=>g3 x' hx' (.inl hL') hw'⟩⟩
   have hle:=g3 x h.mem (.inr rfl) hw;have hne:x.i≠z.i:=fun e=>h.no (by rw [e];exact hL)
   have:=(D.meet hz h.mem hw (z8h D hz g1) hne (fun hb=>by have:=D.lt h.mem hb;omega) (h.down z hz hL)).1;omega
  ·have e:=zqn D.ch hz h.mem e
   subst e;exact .inl ⟨g1,g2⟩
 ·exact .inr ⟨g1 x h.mem (.inr rfl),.inr ⟨fun y hy hL=>g1 y hy (.inl hL),g2⟩⟩
theorem zfb.stepT (D:zbp E P ls R Tm0 S Tm1 S') (h:zfb R L x) {t:Nat} {v:AV} (hv:z5x Tm0 R (fun j=>L j∨j=x.i) t v):(x.o.dst=some t∧v=x.v)∨(x.o.dst≠some t∧z5x Tm0 R L t v):=by
 rcases hv with ⟨z,hz,hL,g1,g2,g3⟩ | ⟨g1,g2⟩
 ·rcases hL with hL | e
  ·refine .inr ⟨fun hw=>?_,.inl ⟨z,hz,hL,g1,g2,fun x' hx' hL' hw'=>g3 x' hx' (.inl hL') hw'⟩⟩
   have hle:=g3 x h.mem (.inr rfl) hw;have hne:x.i≠z.i:=fun e=>h.no (by rw [e];exact hL)
   refine h.down z hz hL (D.order h.mem hz (by omega) ?_);unfold zuc;rw [hw,g1];simp
  ·have e:=zqn D.ch hz h.mem e
   subst e;exact .inl ⟨g1,g2.symm⟩
 ·exact .inr ⟨g1 x h.mem (.inr rfl),.inr ⟨fun y hy hL=>g1 y hy (.inl hL),g2⟩⟩
theorem zfb.seenT (D:zbp E P ls R Tm0 S Tm1 S') (h:zfb R L x) {t:Nat} {v:AV} (ht:(zkg ls x.o).contains t=true) (ho:Tr.get x.tm.m t=some v):z5x Tm0 R L t v:=by
 obtain ⟨R1,R2,T1,e,_,m1,m2,c1,o1,c2⟩:=zj0 D.ch h.mem;have late:∀ z∈R,L z.i→z.o.dst=some t→¬ x.i < z.i:=fun z hz hL hd hlt=>by
  refine h.down z hz hL (D.order h.mem hz hlt ?_);unfold zuc;rw [hd];simp only [ht,Bool.or_true]
 rcases zwj ho c1 with ⟨y,hy,g1,g2,g3⟩ | ⟨g1,g2⟩
 ·obtain ⟨hyR,hyl⟩:=(m1 y).1 hy
  refine .inl ⟨y,hyR,h.anc _ (D.order hyR h.mem hyl ?_),g1,g2,fun x' hx' hL' hw'=>?_⟩
  ·unfold zuc
   rw [g1];simp only [ht,Bool.true_or]
  ·rcases Nat.lt_trichotomy x'.i x.i with hc | hc | hc
   ·exact g3 x' ((m1 x').2 ⟨hx',hc⟩) hw'
   ·rw [hc] at hL';exact absurd hL' h.no
   ·exact absurd hc (late x' hx' hL' hw')
 ·refine .inr ⟨fun x' hx' hL' hw'=>?_,g2⟩
  rcases Nat.lt_trichotomy x'.i x.i with hc | hc | hc
  ·exact g1 x' ((m1 x').2 ⟨hx',hc⟩) hw'
  ·rw [hc] at hL';exact absurd hL' h.no
  ·exact absurd hc (late x' hx' hL' hw')
end
theorem zsh (p q:Nat→Bool) (i:Nat):∀ n,(∀ j,j≠i→q j=p j)→p i=true→q i=false→i < n→(List.range n).countP p=(List.range n).countP q+1
 | 0,_,_,_,hi=>absurd hi (by omega)
 | n+1,h,hp,hq,hi=>by
  rw [List.range_succ,List.countP_append,List.countP_append]
  by_cases e:i=n
  ·subst e
   have:(List.range i).countP p=(List.range i).countP q:=List.countP_congr fun j hj=>by
    have:=List.mem_range.1 hj;rw [h j (by omega)]
   rw [this];simp [hp,hq]
  ·rw [zsh p q i n h hp hq (by omega)]
   have:q n=p n:=h n (fun e'=>e e'.symm);simp only [List.countP_cons,List.countP_nil,this];omega
structure Inv (S S':St) (Tm0:Tm) (R:List Fp) (N:Nat→Prop) (ρ0:Rho) (W0:World) (a0:Act) (L:Nat→Prop) (ρ:Rho) (a:Act) (W:World):Prop where
 obj:∀ m o,N m→zj1 S R L m o→∃ Lc,ρ m=some Lc∧zcn ρ Lc W.heap[Lc.b]? o
 inj:∀ m n o o' Lc Lc',N m→N n→zj1 S R L m o→zj1 S R L n o'→ρ m=some Lc→ρ n=some Lc'→Lc.b=Lc'.b→m=n
 old:∀ m,(m < S.next∨S'.next≤m)→ρ m=ρ0 m
 free:∀ m,S.next≤m→m < S'.next→(∀ x∈R,L x.i→¬ (x.s.next≤m∧m < x.s'.next))→ρ m=none
 place:∀ m o Lc,N m→zj1 S R L m o→ρ m=some Lc→W0.heap.size≤Lc.b∨∃ m' o' L',N m'∧S.get m'=some o'∧ρ0 m'=some L'∧L'.b=Lc.b∧(m'=m∨∃ x∈R,L x.i∧bit x.w m')
 frame:∀ b,b < W0.heap.size→(∀ m o Lc,N m→(∃ x∈R,L x.i∧bit x.w m)→S.get m=some o→ρ0 m=some Lc→Lc.b≠b)→W.heap[b]? = W0.heap[b]?
 size:W0.heap.size≤W.heap.size
 rest:zbg W0 W
 sub:Sub ρ0 ρ
 tmp:∀ t v,z5x Tm0 R L t v→∃ V,a.tmps[t]? = some V∧RV ρ v V
 tsz:a.tmps.size=a0.tmps.size
 dfr:a.defers=a0.defers
section
variable {E:Env} {P:Program} {ls:List Oper} {R:List Fp} {Tm0 Tm1:Tm} {S S':St} {L:Nat→Prop} {x:Fp} {N:Nat→Prop} {ρ0 ρ ρ':Rho} {W0 W W':World} {a0 a:Act}
theorem z8j (hf:Fit ρ0 S N W0) (hfr:zbl ρ0 S.next S'.next) (ht:RT ρ0 Tm0.m a0.tmps):Inv S S' Tm0 R N ρ0 W0 a0 (fun _=>False) ρ0 a0 W0 where
 obj m o hm hv:=by
  rcases hv with ⟨_,_,h,_⟩ | ⟨_,h⟩
  ·exact h.elim
  ·exact hf.obj m o hm h
 inj m n o o' Lc Lc' hm hn hv hv' h1 h2 h3:=by
  rcases hv with ⟨_,_,h,_⟩ | ⟨_,h⟩
  ·exact h.elim
  ·rcases hv' with ⟨_,_,h',_⟩ | ⟨_,h'⟩
   ·exact h'.elim
   ·exact hf.inj m n o o' Lc Lc' hm hn h h' h1 h2 h3
 old _ _:=rfl
 free m h1 h2 _:=hfr m h1 h2
 place m o Lc hm hv hL:=by
  rcases hv with ⟨_,_,h,_⟩ | ⟨_,h⟩
  ·exact h.elim
  ·exact .inr ⟨m,o,Lc,hm,h,hL,rfl,.inl rfl⟩
 frame _ _ _:=rfl
 size:=Nat.le_refl _
 rest:=.refl _
 sub:=.refl _
 tmp t v hv:=by
  rcases hv with ⟨_,_,h,_⟩ | ⟨_,h⟩
  ·exact h.elim
  ·exact ht t v h
 tsz:=rfl
 dfr:=rfl
theorem Inv.freeAt (I:Inv S S' Tm0 R N ρ0 W0 a0 L ρ a W) (D:zbp E P ls R Tm0 S Tm1 S') (h:zfb R L x):zbl ρ x.s.next x.s'.next:=fun m h1 h2=>by
 have q:=(zhj D.ch).2 x h.mem;refine I.free m (by omega) (by omega) fun y hy hL hc=>?_
 rcases Nat.lt_trichotomy y.i x.i with hlt | he | hlt
 ·have:=zx2 D.ch hy h.mem hlt;omega
 ·rw [he] at hL;exact h.no hL
 ·have:=zx2 D.ch h.mem hy hlt;omega
theorem Inv.fitAt (I:Inv S S' Tm0 R N ρ0 W0 a0 L ρ a W) (hN:∀ x∈R,∀ m,bit x.t m→N m) (h:zfb R L x) {A B:St} (hs:z5y S R L x A B):Fit ρ A (fun m=>bit x.t m) W :=
 ⟨fun m o hm ho=>I.obj m o (hN x h.mem m hm) (hs.see m o hm ho),fun m n o o' Lc Lc' hm hn ho ho'=>I.inj m n o o' Lc Lc' (hN x h.mem m hm) (hN x h.mem n hn) (hs.see m o hm ho) (hs.see n o' hn ho')⟩
theorem Inv.step (I:Inv S S' Tm0 R N ρ0 W0 a0 L ρ a W) (D:zbp E P ls R Tm0 S Tm1 S') (hN:∀ x∈R,∀ m,bit x.t m→N m) (h:zfb R L x) {A B:St} (hs:z5y S R L x A B) (ha0:a0.tmps.size=Tm0.sz)
  (hst:Stp ρ A (fun m=>bit x.t m) W ρ' B W') {V:Value} (hv:RV ρ' x.v V):Inv S S' Tm0 R N ρ0 W0 a0 (fun j=>L j∨j=x.i) ρ' (a.put x.o.dst V) W':=by
 have hfree:=I.freeAt D h;have hsub:Sub ρ ρ':=hst.sub (by rw [hs.na,hs.nb];exact hfree);have hnx:=(zhj D.ch).2 x h.mem;have keep:∀ m o Lc,N m→¬ bit x.w m→zj1 S R L m o→ρ m=some Lc→W'.heap[Lc.b]? = W.heap[Lc.b]?∧Lc.b < W.heap.size:=fun m o Lc hm hw hv hL=>by
  obtain ⟨L2,e1,e2⟩:=I.obj m o hm hv;rw [hL] at e1;have e1:=Option.some.inj e1;subst e1;refine ⟨hst.frame _ e2.some fun m' o' L' ht' hw' hg' hL' e=>?_,e2.some⟩;have:=I.inj m' m o' o L' Lc (hN x h.mem m' ht') hm (hs.see m' o' ht' hg') hv hL' hL e;subst this;exact hw (hs.w _ hw')
 have turned:∀ m o,bit x.w m→x.s'.get m=some o→bit x.t m∧B.get m=some o:=fun m o hw ho=>⟨z8h D h.mem hw,hs.out m o hw ho⟩
 have new:∀ m,¬ bit x.w m→ρ' m=ρ m:=fun m hw=>by
  refine hst.old m ?_
  rcases Nat.lt_or_ge m A.next with h1 | h1
  ·exact .inl h1
  ·rcases Nat.lt_or_ge m B.next with h2 | h2
   ·obtain ⟨T1,ho⟩:=zd0 D.ch h.mem
    rw [hs.na] at h1;rw [hs.nb] at h2;exact absurd (ho.lcl.new m h1 h2).1 hw
   ·exact .inr h2
 refine ⟨fun m o hm hvr=>?_,fun m n o o' Lc Lc' hm hn hvr hvr' hL hL' hb=>?_,fun m hm=>?_,fun m h1 h2 hno=>?_,fun m o Lc hm hvr hL=>?_,fun b hb hno=>?_,Nat.le_trans I.size hst.size,I.rest.trans hst.rest,I.sub.trans hsub,fun t v hvt=>?_,by rw [(put_eq a x.o.dst V).2,I.tsz],by rw [(put_eq a x.o.dst V).1,I.dfr]⟩
 ·rcases h.step D hvr with ⟨hw,ho⟩ | ⟨hw,hvr⟩
  ·obtain ⟨k1,k2⟩:=turned m o hw ho
   exact hst.fit.obj m o k1 k2
  ·obtain ⟨Lc,e1,e2⟩:=I.obj m o hm hvr
   refine ⟨Lc,hsub m Lc e1,?_⟩;rw [(keep m o Lc hm hw hvr e1).1];exact e2.mono hsub
 ·have cross:∀ m n o o' Lc Lc',N m→N n→bit x.w m→x.s'.get m=some o→¬ bit x.w n→zj1 S R L n o'→ρ' m=some Lc→ρ' n=some Lc'→Lc.b=Lc'.b→False:=fun m n o o' Lc Lc' hm hn hw ho hwn hvn hL hL' hb=>by
   obtain ⟨k1,k2⟩:=turned m o hw ho;rw [new n hwn] at hL';have hk:=(keep n o' Lc' hn hwn hvn hL').2
   rcases hst.place k1 k2 hL with hc | ⟨m',o2,L2,q1,q2,q3,q4,q5⟩
   ·omega
   ·have hw':bit x.w m':=by
     rcases q5 with rfl | q5
     ·exact hw
     ·exact hs.w _ q5
    have:=I.inj m' n o2 o' L2 Lc' (hN x h.mem m' q1) hn (hs.see m' o2 q1 q2) hvn q3 hL' (by omega);subst this;exact hwn hw'
  rcases h.step D hvr with ⟨hw,ho⟩ | ⟨hw,hvr⟩<;>rcases h.step D hvr' with ⟨hw',ho'⟩ | ⟨hw',hvr'⟩
  ·obtain ⟨k1,k2⟩:=turned m o hw ho
   obtain ⟨k3,k4⟩:=turned n o' hw' ho';exact hst.fit.inj m n o o' Lc Lc' k1 k3 k2 k4 hL hL' hb
  ·exact (cross m n o o' Lc Lc' hm hn hw ho hw' hvr' hL hL' hb).elim
  ·exact (cross n m o' o Lc' Lc hn hm hw' ho' hw hvr hL' hL hb.symm).elim
  ·rw [new m hw] at hL
   rw [new n hw'] at hL';exact I.inj m n o o' Lc Lc' hm hn hvr hvr' hL hL' hb
 ·rw [hst.old m (by rw [hs.na,hs.nb];omega),I.old m hm]
 ·have hx:=hno x h.mem (.inr rfl)
  rw [hst.old m (by rw [hs.na,hs.nb];omega)];exact I.free m h1 h2 fun y hy hL=>hno y hy (.inl hL)
 ·have wide:∀ m':Nat,(∃ y∈R,L y.i∧bit y.w m')→∃ y∈R,(L y.i∨y.i=x.i)∧bit y.w m':=fun m' ⟨y,hy,hl,hw⟩=>⟨y,hy,.inl hl,hw⟩
  rcases h.step D hvr with ⟨hw,ho⟩ | ⟨hw,hvr⟩
  ·obtain ⟨k1,k2⟩:=turned m o hw ho
   rcases hst.place k1 k2 hL with hc | ⟨m',o2,L2,q1,q2,q3,q4,q5⟩
   ·exact .inl (Nat.le_trans I.size hc)
   ·rcases I.place m' o2 L2 (hN x h.mem m' q1) (hs.see m' o2 q1 q2) q3 with hc | ⟨m2,o3,L3,p1,p2,p3,p4,p5⟩
    ·exact .inl (by omega)
    ·refine .inr ⟨m2,o3,L3,p1,p2,p3,by omega,?_⟩
     rcases p5 with rfl | p5
     ·rcases q5 with rfl | q5
      ·exact .inl rfl
      ·exact .inr ⟨x,h.mem,.inr rfl,hs.w _ q5⟩
     ·exact .inr (wide _ p5)
  ·rw [new m hw] at hL
   rcases I.place m o Lc hm hvr hL with hc | ⟨m2,o3,L3,p1,p2,p3,p4,p5⟩
   ·exact .inl hc
   ·refine .inr ⟨m2,o3,L3,p1,p2,p3,p4,?_⟩
    rcases p5 with p5 | p5
    ·exact .inl p5
    ·exact .inr (wide _ p5)
 ·rw [hst.frame b (Nat.lt_of_lt_of_le hb I.size) fun m' o' L' ht' hw' hg' hL'=>?_]
  ·exact I.frame b hb fun m o Lc hm ⟨y,hy,hl,hw⟩=>hno m o Lc hm ⟨y,hy,.inl hl,hw⟩
  ·rcases I.place m' o' L' (hN x h.mem m' ht') (hs.see m' o' ht' hg') hL' with hc | ⟨m2,o3,L3,p1,p2,p3,p4,p5⟩
   ·omega
   ·have:L3.b≠b:=hno m2 o3 L3 p1 (by
     rcases p5 with rfl | ⟨y,hy,hl,hw⟩
     ·exact ⟨x,h.mem,.inr rfl,hs.w _ hw'⟩
     ·exact ⟨y,hy,.inl hl,hw⟩) p2 p3
    omega
 ·rcases h.stepT D hvt with ⟨hd,rfl⟩ | ⟨hd,hvt⟩
  ·have hlt:t < Tm0.sz:=by
    have:=(D.anc h.mem).2.1;unfold zop at this;simp only [Bool.and_eq_true] at this;have q:=this.1.1.1.2;rw [hd] at q;simpa using q
   refine ⟨V,?_,hv⟩;have hlt2:t < a.tmps.size:=by rw [I.tsz,ha0];exact hlt
   rw [hd];simp [Act.put,hlt2]
  ·obtain ⟨V',e1,e2⟩:=I.tmp t v hvt
   refine ⟨V',?_,RV.mono hsub _ _ e2⟩;cases hdd:x.o.dst with
   | none=>exact e1
   | some d =>
    have:d≠t:=fun e=>hd (by rw [hdd,e])
    simp [Act.put,this];exact e1
theorem z5z {ls:List Oper} {T T':Tm} {o:Oper} (h:∀ j w d,o.guard=some (j,w)→zua ls j=some d→T.get d=T'.get d):zhp ls T o=zhp ls T' o:=by
 unfold zhp;cases hg:o.guard with
 | none=>rfl
 | some jw =>
  obtain ⟨j,w⟩:=jw;simp only;cases e1:nth ls j with
  | none=>rfl
  | some q =>
   show bnd q.dst _=bnd q.dst _;cases e2:q.dst with
   | none=>rfl
   | some d =>
    have hd:zua ls j=some d:=by
     unfold zua;rw [zb1] at e1;rw [e1];exact e2
    show bnd (T.get d) _=bnd (T'.get d) _;rw [h j w d hg hd]
theorem Inv.go (hE:zaq E P) (hNm:zb7 P) {ih:Ih} (hih:zb3 P E ih) (I:Inv S S' Tm0 R N ρ0 W0 a0 L ρ a W) (D:zbp E P ls R Tm0 S Tm1 S') (hN:∀ x∈R,∀ m,bit x.t m→N m) (h:zfb R L x) (ha0:a0.tmps.size=Tm0.sz)
  {ro:Option Nat} {n:Nat} {K:Act→World→Prop} {Q:Exit→Act→World→Prop} (hK:∀ ρ' a' W',Inv S S' Tm0 R N ρ0 W0 a0 (fun j=>L j∨j=x.i) ρ' a' W'→K a' W'):wpOpIn (FV ro) n P ls.toArray Q x.i K a W:=by
 obtain ⟨T1,ho⟩:=zd0 D.ch h.mem;have hat:=ho.o;have hsz:x.tm.sz=Tm0.sz:=(z14 D.ch).2 x h.mem;obtain ⟨b,hb,hb1,hb0⟩:=ho.want
 let p:Nat→Bool:=fun t=>(zkg ls x.o).contains t
 have hag:Agree x.tm (x.tm.only p) x.o.op.operands.toList:=z5v fun t ht=>by
  show (zkg ls x.o).contains t=true;rw [List.contains_iff_mem];unfold zkg;exact List.mem_append_left _ (List.mem_filterMap.2 ⟨_,ht,rfl⟩)
 have hrt:RT ρ (x.tm.only p).m a.tmps:=zac8 fun t v hp hv=>I.tmp t v (h.seenT D hp hv)
 have hwt:zhp ls (x.tm.only p) x.o=some b:=by
  rw [← hb];refine (z5z fun j w d hg hd=>?_).symm;have hp:p d=true:=by
   show (zkg ls x.o).contains d=true;rw [List.contains_iff_mem];unfold zkg;refine List.mem_append_right _ ?_
   rw [hg];simp [hd]
  show Tr.get x.tm.m d=Tr.get (Tr.filter p x.tm.m) d;rw [Tr.get_filter,if_pos hp]
 unfold wpOpIn;rw [show ls.toArray[x.i]? = some x.o by rw [List.getElem?_toArray];exact hat];simp only;cases b with
 | true =>
  obtain ⟨A,B,hs,hBt,hsem⟩:=h.sees hNm hih D (hb1 rfl);have hfit:=I.fitAt hN h hs;have hpre:Pre E P (fun m=>bit x.t m) ρ A W (x.tm.only p) a:=⟨hE,hfit,hrt,by rw [I.tsz,ha0,← hsz];rfl⟩
  rw [zrj hwt hpre,if_pos rfl];refine hsem _ hag _ ρ W a hpre hBt (by rw [hs.na,hs.nb];exact I.freeAt D h) _ Q ro n fun V w' ρ' s1 s2=>?_
  exact hK ρ' _ w' (I.step D hN h hs ha0 s1 s2)
 | false =>
  obtain ⟨e1,e2⟩:=hb0 rfl;have et:x.t=0:=congrArg St.t e2;have ew:x.w=0:=congrArg St.w e2;have en:x.s'.next=x.s.next:=by
   have q:x.out.next=(bare x.s).next:=by rw [e2]
   exact q
  have hs:z5y S R L x (bare x.s) x.out:=⟨rfl,rfl,fun m o ht=>by rw [et] at ht;exact absurd ht (zc1 m),fun m hm=>hm,fun m o hm=>by rw [ew] at hm;exact absurd hm (zc1 m)⟩
  have hfit:=I.fitAt hN h hs;have hpre:Pre E P (fun m=>bit x.t m) ρ (bare x.s) W (x.tm.only p) a:=⟨hE,hfit,hrt,by rw [I.tsz,ha0,← hsz];rfl⟩
  rw [zrj hwt hpre,if_neg (by simp)];refine ⟨fun _ _=>trivial,hK ρ _ W (I.step D hN h hs ha0 (by rw [e2];exact .refl hfit) ?_)⟩;rw [e1];exact ⟨#[],rfl,rfl⟩
theorem Inv.all (I:Inv S S' Tm0 R N ρ0 W0 a0 L ρ a W) (D:zbp E P ls R Tm0 S Tm1 S') (hN:∀ x∈R,∀ m,bit x.t m→N m) (hL:∀ x∈R,L x.i) (ht:∀ n,bit S'.t n↔bit S.t n∨∃ x∈R,bit x.t n) (hw:∀ n,bit S'.w n↔bit S.w n∨∃ x∈R,bit x.w n):Stp ρ0 S N W0 ρ S' W∧RT ρ Tm1.m a.tmps:=by
 have ver:∀ m o,S'.get m=some o→zj1 S R L m o:=fun m o ho=>by
  rcases zo2 ho D.ch with ⟨x,hx,g1,g2,g3⟩ | ⟨g1,g2⟩
  ·exact .inl ⟨x,hx,hL x hx,g1,g2,fun x' hx' _=>g3 x' hx'⟩
  ·exact .inr ⟨fun x hx _=>g1 x hx,g2⟩
 refine ⟨⟨I.old,⟨fun m o hm ho=>I.obj m o hm (ver m o ho),fun m n o o' Lc Lc' hm hn ho ho'=>I.inj m n o o' Lc Lc' hm hn (ver m o ho) (ver n o' ho')⟩,fun n o Lc h1 h2 ho hLc=>?_,fun b hb hno=>?_,I.size,z4e D.ch ht hw,I.rest⟩,fun t v hv=>?_⟩
 ·obtain ⟨x,hx,q1,q2⟩:=zwk D.ch h1 h2
  obtain ⟨T1,ho1⟩:=zd0 D.ch hx;have hb:=ho1.lcl.new n q1 q2
  rcases I.place n o Lc (hN x hx n hb.2) (ver n o ho) hLc with hc | ⟨m',o',L',p1,p2,p3,p4,p5⟩
  ·exact .inl hc
  ·refine .inr ⟨m',o',L',p1,?_,p2,p3,p4⟩
   rcases p5 with rfl | ⟨y,hy,_,hwy⟩
   ·exact (hw _).2 (.inr ⟨x,hx,hb.1⟩)
   ·exact (hw _).2 (.inr ⟨y,hy,hwy⟩)
 ·exact I.frame b hb fun m o Lc hm ⟨x,hx,_,hwx⟩=>hno m o Lc hm ((hw m).2 (.inr ⟨x,hx,hwx⟩))
 ·refine I.tmp t v ?_
  rcases zwj hv D.ch with ⟨x,hx,g1,g2,g3⟩ | ⟨g1,g2⟩
  ·exact .inl ⟨x,hx,hL x hx,g1,g2,fun x' hx' _=>g3 x' hx'⟩
  ·exact .inr ⟨fun x hx _=>g1 x hx,g2⟩
theorem Inv.same {L':Nat→Prop} (h:∀ j,L j↔L' j) (I:Inv S S' Tm0 R N ρ0 W0 a0 L ρ a W):Inv S S' Tm0 R N ρ0 W0 a0 L' ρ a W:=by
 have:L=L':=funext fun j=>propext (h j)
 rw [← this];exact I
theorem zbp.listed (D:zbp E P ls R Tm0 S Tm1 S') (hd:∀ x∈R,L x.i→∀ d∈zeo x.o,L d):∀ x∈R,L x.i→∀ j,bit x.a j→L j:=by
 intro x hx
 suffices H:∀ (n:Nat) (x:Fp),x∈R→x.i=n→L x.i→∀ j,bit x.a j→L j from H _ x hx rfl
 intro n
 induction n using Nat.strongRecOn with
 | _ n ih =>
  intro x hx hn hL j hj;obtain ⟨h1,d,h2,h3⟩:=(D.anc hx).2.2.2 j hj;have hdl:=hd x hx hL d h2
  rcases h3 with rfl | ⟨y,hy,rfl,hyb⟩
  ·exact hdl
  ·refine ih y.i ?_ y hy rfl hdl j hyb
   have q:=(D.anc hx).2.1;unfold zop at q;simp only [Bool.and_eq_true] at q;have:=List.all_eq_true.1 q.1.1.2 _ h2;have:y.i < x.i:=by simpa using this
   omega
theorem any_ok (hE:zaq E P) (hNm:zb7 P) {ih:Ih} (hih:zb3 P E ih) (D:zbp E P ls R Tm0 S Tm1 S') (hN:∀ x∈R,∀ m,bit x.t m→N m) (ha0:a0.tmps.size=Tm0.sz) {ro:Option Nat} {n:Nat} {Q:Exit→Act→World→Prop}
  (hQ:∀ ρ a W L,Inv S S' Tm0 R N ρ0 W0 a0 L ρ a W→(∀ x∈R,L x.i)→Q .normal a W) :
  ∀ (fuel:Nat) (listed:Array Bool) (ρ:Rho) (a:Act) (W:World),listed.size=ls.length→(List.range ls.length).countP (fun j=>!listed.getD j false)≤fuel→(∀ x∈R,listed.getD x.i false=true→∀ d∈zeo x.o,listed.getD d false=true) →
   Inv S S' Tm0 R N ρ0 W0 a0 (fun j=>listed.getD j false=true) ρ a W→wpAnyIn (FV ro) n P .any ls.toArray Q fuel listed a W:=by
 have ofIx:∀ j,j < ls.length→∃ x∈R,x.i=j∧ls[j]? = some x.o:=fun j hj=>by
  have hjR:j < R.length:=by rw [D.len];exact hj
  have hx:=List.getElem?_eq_getElem hjR;have e:=zo0 D.ch j _ hx;have hm:R[j]'hjR∈R:=List.getElem_mem hjR;have e:(R[j]'hjR).i=j:=by omega
  exact ⟨_,hm,e,by have q:=(D.anc hm).1;rw [e] at q;exact q⟩
 have zeb:∀ (listed:Array Bool),listed.size=ls.length→Region.ready .any ls.toArray listed=[]→∀ j,j < ls.length→listed.getD j false=true:=by
  intro listed hs h0 j
  induction j using Nat.strongRecOn with
  | _ j ih =>
   intro hj;cases hl:listed.getD j false with
   | true=>rfl
   | false =>
    exfalso;obtain ⟨x,hx,rfl,hat⟩:=ofIx j hj;have hin:x.i∈Region.ready .any ls.toArray listed:=by
     refine mem_ready.2 ⟨?_,x.o,by rw [List.getElem?_toArray];exact hat,fun e he hb=>?_⟩
     ·have hjs:x.i < listed.size:=by omega
      simp [hjs] at hl ⊢;exact hl
     ·have hd:e.on∈zeo x.o:=List.mem_map.2 ⟨e,List.mem_filter.2 ⟨by simpa using he,hb⟩,rfl⟩
      have q:=(D.anc hx).2.1;unfold zop at q;simp only [Bool.and_eq_true] at q;have:=List.all_eq_true.1 q.1.1.2 _ hd;have hlt:e.on < x.i:=by simpa using this
      exact ih _ hlt (by omega)
    rw [h0] at hin;cases hin
 have fin:∀ (listed:Array Bool) ρ a W,Inv S S' Tm0 R N ρ0 W0 a0 (fun j=>listed.getD j false=true) ρ a W→(∀ j,j < ls.length→listed.getD j false=true)→Q .normal a W:=fun listed ρ a W I hall=>by
  refine hQ ρ a W _ I fun x hx=>hall _ ?_
  have:=z1z D.ch hx;rw [D.len] at this;omega
 intro fuel
 induction fuel with
 | zero =>
  intro listed ρ a W hs hf hd I;have hall:∀ j,j < ls.length→listed.getD j false=true:=fun j hj=>by
   have h0:(List.range ls.length).countP (fun j=>!listed.getD j false)=0:=by omega
   rw [List.countP_eq_zero] at h0;have:=h0 j (List.mem_range.2 hj);simpa using this
  refine ⟨?_,fin listed ρ a W I hall⟩
  rcases hr:Region.ready .any ls.toArray listed with _ | ⟨k,rs⟩
  ·rfl
  ·exfalso
   have hk:k∈Region.ready .any ls.toArray listed:=by rw [hr];simp
   obtain ⟨g1,ok,g2,_⟩:=mem_ready.1 hk;have hlt:k < ls.length:=by have:=(Array.getElem?_eq_some_iff.1 g2).1;simpa using this
   have hka:=hall k hlt;have:k < listed.size:=by omega
   simp [this] at g1 hka;rw [g1] at hka;cases hka
 | succ fuel ihf =>
  intro listed ρ a W hs hf hd I;refine ⟨fun h0=>fin listed ρ a W I (zeb listed hs h0),fun i hi=>?_⟩;obtain ⟨hl,o,ho,hdeps⟩:=mem_ready.1 hi;have hilt:i < ls.length:=by have:=(Array.getElem?_eq_some_iff.1 ho).1;simpa using this
  have his:i < listed.size:=by omega
  obtain ⟨x,hx,rfl,hat⟩:=ofIx i hilt;have hxo:o=x.o:=by
   rw [List.getElem?_toArray,hat] at ho;exact (Option.some.inj ho).symm
  have hilf:listed.getD x.i false=false:=by
   simp [his] at hl ⊢;exact hl
  have hanc:=D.listed (L:=fun j=>listed.getD j false=true) hd;have hdl:∀ j∈zeo x.o,listed.getD j false=true:=fun j hj=>by
   obtain ⟨e,he,rfl⟩:=List.mem_map.1 hj;obtain ⟨he1,he2⟩:=List.mem_filter.1 he;exact hdeps e (by rw [hxo];simpa using he1) he2
  have hturn:zfb R (fun j=>listed.getD j false=true) x:=by
   refine ⟨hx,(fun h=>by rw [hilf] at h;cases h),fun j hj=>?_,fun y hy hly hb=>?_⟩
   ·obtain ⟨_,d,h2,h3⟩:=(D.anc hx).2.2.2 j hj
    rcases h3 with rfl | ⟨y,hy,rfl,hyb⟩
    ·exact hdl _ h2
    ·exact hanc y hy (hdl _ h2) j hyb
   ·have:=hanc y hy hly _ hb
    rw [hilf] at this;cases this
  refine I.go hE hNm hih D hN hturn ha0 fun ρ' a' W' I'=>?_
  refine ihf _ ρ' a' W' (by simpa using hs) ?_ (fun y hy hly d hdw=>?_) (I'.same fun j=>?_)
  ·have hcnt:=zsh (fun j=>!listed.getD j false) (fun j=>!(listed.setIfInBounds x.i true).getD j false) x.i ls.length (fun j hj=>by rw [getD_set_ne false (Ne.symm hj)]) (by simp [his] at hl ⊢;exact hl) (by simp [his]) hilt
   omega
  ·by_cases hyi:y.i=x.i
   ·have e:=zqn D.ch hy hx hyi
    subst e;exact getD_set_true (hdl d hdw)
   ·rw [getD_set_ne false (Ne.symm hyi)] at hly
    exact getD_set_true (hd y hy hly d hdw)
  ·by_cases hji:j=x.i
   ·subst hji
    simp [his]
   ·rw [getD_set_ne false (Ne.symm hji)]
    simp [hji]
theorem zj2 (hE:zaq E P) (hNm:zb7 P) (hm:P.follows .mixedOrders=true):z1w P E:=by
 intro ih hih id ops ro tm mk S r hr;obtain ⟨q,h1,h2⟩:=zd hr;have h3:(fcN tm.sz fun sz=>zk (z02 ops.toList sz) (zjr E P ih ops.toList ops.toList (zig ops.toList) 0 [] S.t S.w tm S) none)=some q:=h1;rw [zan] at h3;obtain ⟨h4,h5⟩:=zf h3;cases h2;obtain ⟨R,r1,r2,r3,r4,r5⟩:=zs8 hNm hih (fun j=>by rw [Nat.zero_add]) h5;have D:zbp E P ops.toList R tm S q.1 q.2:=⟨r3,by simpa using r2,r1,h4⟩
 refine ⟨z4e D.ch r4 r5,0,fun T ρ w a roC n h hT hf hmk hro=>?_⟩;have hN:∀ x∈R,∀ m,bit x.t m→T m:=fun x hx m hb=>hT m ((r4 m).2 (.inr ⟨x,hx,hb⟩))
 refine wpIn_region_any hm ?_
 have e:ops=ops.toList.toArray:=by simp
 have hst:Fit ρ S T { w with drawn:=w.drawn+1 }:=h.fit.heap rfl;have hI:=z8j (R:=R) (S':=q.2) (Tm0:=tm) hst hf h.tmp;have key:=any_ok hE hNm hih D hN h.size (ro:=roC) (n:=n) (Q:=za4 P T ρ S w ⟨.normal,q.1,mk,.undef,q.2⟩) (ρ0:=ρ) (W0:={ w with drawn:=w.drawn+1 }) (a0:=a) (fun ρ' a' W' L I hL=>by
  obtain ⟨k1,k2⟩:=I.all D hN hL r4 r5;have k3:Stp ρ S T w ρ' q.2 W':=⟨k1.old,k1.fit,k1.fresh,k1.frame,k1.size,k1.lcl,zbg.trans (b:={ w with drawn:=w.drawn+1 }) ⟨rfl,rfl,rfl⟩ k1.rest⟩
  exact ⟨trivial,⟨ρ',k3,k2,by rw [I.dfr];exact hmk.mono I.sub⟩,by rw [I.tsz,h.size];exact (z14 D.ch).1.symm⟩)
  ops.size (Array.replicate ops.size false) ρ a { w with drawn:=w.drawn+1 } (by simp) (by
   refine Nat.le_trans List.countP_le_length ?_
   simp) (fun x hx hl=>by
    exfalso;simp only [Array.getD_eq_getD_getElem?,Array.getElem?_replicate] at hl
    split at hl<;>simp at hl) (hI.same fun j=>by
    simp only [Array.getD_eq_getD_getElem?,Array.getElem?_replicate]
    split<;>simp)
 rw [← e] at key;exact key
end
noncomputable def zqo (E:Env) (P:Program) (n:Nat):Nat→Code→Tm→St→Option (Tm × St)
 | 0,_,T,S=>some (T,S)
 | k+1,.seq a b,T,S=>bnd (zjv E P n (.code none a T []) S) fun r=>zk (zak r.ex && zgb r.mks []) (zqo E P n k b r.tm r.st) none
 | _+1,_,_,_=>none
def za5:Nat→Code→Code
 | k+1,.seq _ b=>za5 k b
 | _,c=>c
def zky (h:Tr AO) (nx:Nat):St:=⟨h,nx,Nat.sub (zm nx) 1,Nat.sub (zm nx) 1⟩
noncomputable def zy {α:Type} (l:List (Nat × α)):Tr α:=l.foldl (fun t p=>Tr.put 0 p.1 (some p.2) t) .leaf
noncomputable def zfc (E:Env) (P:Program) (n k:Nat) (c:Code) (T:Tm) (S:St) (T2:Tm) (h2:Tr AO) (nx:Nat):Bool:=match zqo E P n k c T S with
 | some q=>zgw T2.m q.1.m && Nat.beq T2.sz q.1.sz && zgx h2 q.2.heap && Nat.beq nx q.2.next && Nat.blt q.2.t (zm nx) && Nat.blt q.2.w (zm nx)
 | none=>false
noncomputable def zc2 (res:Nat) (r:Res):Bool:=(match r.ex with
  | .normal=>true
  | .ret=>true
  | _=>false) && zgb r.mks [] && (match r.tm.get res with
  | some (.bool b)=>b
  | _=>false)
noncomputable def zqp (E:Env) (P:Program) (n:Nat) (c:Code) (T:Tm) (S:St) (res:Nat):Bool:=match zjv E P n (.code none c T []) S with
 | some r=>zc2 res r
 | none=>false
theorem zcw {nx n:Nat}:bit (Nat.sub (zm nx) 1) n↔n < nx:=by
 have e:Nat.sub (zm nx) 1=2 ^ nx - 1:=by show 1 <<< nx - 1=_;rw [Nat.one_shiftLeft]
 unfold bit;rw [e,Nat.testBit_two_pow_sub_one];simp
section
variable {E:Env} {P:Program}
def Good (P:Program) (E:Env) (Φ:Res→Prop) (c:Code) (T:Tm) (S:St):Prop:=∃ r,COk P E S r none c T []∧Φ r
def zcc (res:Nat) (r:Res):Prop:=(r.ex = .normal∨r.ex = .ret)∧r.mks=[]∧r.tm.get res=some (.bool true)
theorem z17 {Φ:Res→Prop} {c:Code} {T T2:Tm} {S S2:St} (h:Good P E Φ c T2 S2) (hT:∀ t v,Tr.get T2.m t=some v→Tr.get T.m t=some v) (hs:T2.sz=T.sz) (hh:∀ n o,S2.get n=some o→S.get n=some o) (hn:S2.next=S.next)
  (ht:∀ n,bit S.t n→bit S2.t n) (hw:∀ n,bit S.w n→bit S2.w n) (hwt:∀ n,bit S2.w n→bit S2.t n):Good P E Φ c T S:=by
 obtain ⟨r,⟨hl,m,hk⟩,h1⟩:=h;have hl2:Lcl S r.st:=⟨by rw [← hn];exact hl.next,fun n q=>hl.t n (ht n q),fun n q=>hl.w n (hw n q),fun n o q ho=>by
   obtain ⟨o',ho'⟩:=hl.live n o (by rw [hn];exact q) ho;exact ⟨o',hh n o' ho'⟩,fun n q1 q2=>hl.new n (by rw [hn];exact q1) q2,fun n o q ho=>hh n o (hl.keep n o q ho),fun _ n q=>hl.wt hwt n q⟩
 refine ⟨r,⟨hl2,m,fun T' ρ w a roC n h hT' hf hm hro=>?_⟩,h1⟩;have hpre:Pre E P T' ρ S2 w T2 a:=⟨h.env,⟨fun n o q ho=>h.fit.obj n o q (hh n o ho),fun x y o o' L L' q1 q2 ho ho'=>h.fit.inj x y o o' L L' q1 q2 (hh x o ho) (hh y o' ho')⟩,fun t v q=>h.tmp t v (hT t v q),by rw [h.size,hs]⟩
 refine zf4.mono (hk T' ρ w a roC n hpre hT' (by rw [hn];exact hf) hm hro) fun e a' w' q=>⟨q.ex,?_,q.size⟩
 obtain ⟨ρ',s1,s2,s3⟩:=q.step;refine ⟨ρ',⟨fun x hx=>s1.old x (by rw [hn];exact hx),s1.fit,fun x o L q1 q2 ho hL=>?_,fun b hb hno=>s1.frame b hb fun x o L q1 q2 ho hL=>hno x o L q1 q2 (hh x o ho) hL,s1.size,hl2,s1.rest⟩,s2,s3⟩
 rcases s1.fresh x o L (by rw [hn];exact q1) q2 ho hL with g | ⟨y,o',L',g1,g2,g3,g4⟩
 ·exact .inl g
 ·exact .inr ⟨y,o',L',g1,g2,hh y o' g3,g4⟩
theorem zaay (hE:zaq E P) {Φ:Res→Prop} {a b:Code} {T:Tm} {S:St} {r1:Res} (h1:COk P E S r1 none a T []) (hx:zak r1.ex=true) (hm:r1.mks=[]) (h2:Good P E Φ b r1.tm r1.st):Good P E Φ (.seq a b) T S:=by
 obtain ⟨r,hb,g1⟩:=h2;refine ⟨r,?_,g1⟩;obtain ⟨l1,m1,k1⟩:=h1;obtain ⟨l2,m2,k2⟩:=hb;refine ⟨l1.trans l2,0,fun T' ρ w ac roC n h hT hf hmk hro=>wpIn_seq ?_⟩;refine wpIn_mono (k1 T' ρ w ac roC n h (fun q hq=>hT q (l2.t q hq)) (fun q q1 q2=>hf q q1 (Nat.lt_of_lt_of_le q2 l2.next)) hmk hro).wp fun e a1 w1 z=>?_
 have e0:=(zcu z.ex).1 hx;subst e0;obtain ⟨ρ1,p1,p2,p3,p4,p5⟩:=z.next hE l2 hf hro;rw [hm] at p3;exact wpIn_mono (k2 T' ρ1 w1 a1 roC n p1 hT p2 p3 p4).wp fun e2 a2 w2 z2=>by
  cases e2<;>exact p5 _ _ _ z2
variable (hN:zb7 P) (hE:zaq E P) (hm:P.follows .mixedOrders=true) (hTab:ziu P E)
include hN hE hm hTab
theorem zs9 {Φ:Res→Prop} {n:Nat}:∀ {k:Nat} {c:Code} {T:Tm} {S:St} {q:Tm × St},zqo E P n k c T S=some q→Good P E Φ (za5 k c) q.1 q.2→Good P E Φ c T S
 | 0,c,T,S,q,hr,h=>by cases hr;exact h
 | k+1,.seq a b,T,S,q,hr,h=>by
  have hr:(bnd (zjv E P n (.code none a T []) S) fun r=>zk (zak r.ex && zgb r.mks []) (zqo E P n k b r.tm r.st) none)=some q:=hr;obtain ⟨r1,h1,hr⟩:=zd hr;obtain ⟨h2,hr⟩:=zf hr;rw [Bool.and_eq_true] at h2;have h3:=zc7 h2.2;exact zaay hE (zjb hN hE (zj2 hE hN hm) hTab n _ _ _ h1) h2.1 h3 (zs9 hr h)
 | k+1,.skip,_,_,_,hr,_=>by cases hr
 | k+1,.region ..,_,_,_,hr,_=>by cases hr
 | k+1,.cond ..,_,_,_,hr,_=>by cases hr
 | k+1,.block ..,_,_,_,hr,_=>by cases hr
 | k+1,.loop ..,_,_,_,hr,_=>by cases hr
 | k+1,.rangeFunc ..,_,_,_,hr,_=>by cases hr
 | k+1,.exit ..,_,_,_,hr,_=>by cases hr
 | k+1,.scope ..,_,_,_,hr,_=>by cases hr
 | k+1,.label ..,_,_,_,hr,_=>by cases hr
 | k+1,.goto ..,_,_,_,hr,_=>by cases hr
 | k+1,.ret,_,_,_,hr,_=>by cases hr
 | k+1,.refuse ..,_,_,_,hr,_=>by cases hr
theorem zdg {Φ:Res→Prop} {n k:Nat} {c:Code} {T:Tm} {S:St} {T2:Tm} {h2:Tr AO} {nx:Nat} (hp:zfc E P n k c T S T2 h2 nx=true) (h:Good P E Φ (za5 k c) T2 (zky h2 nx)):Good P E Φ c T S:=by
 unfold zfc at hp
 split at hp
 ·rename_i q hq
  simp only [Bool.and_eq_true] at hp;obtain ⟨⟨⟨⟨⟨p1,p2⟩,p3⟩,p4⟩,p5⟩,p6⟩:=hp;refine zs9 hN hE hm hTab hq (z17 h (zdy p1) (Nat.eq_of_beq_eq_true p2) (fun x o ho=>?_) (Nat.eq_of_beq_eq_true p4) (fun x hx=>?_) (fun x hx=>?_) fun x hx=>hx)
  ·rw [St.get_eq] at ho ⊢;exact zdz p3 _ _ ho
  ·exact zcw.2 (zdv p5 hx)
  ·exact zcw.2 (zdv p6 hx)
 ·cases hp
theorem zqq {res n:Nat} {c:Code} {T:Tm} {S:St} (hp:zqp E P n c T S res=true):Good P E (zcc res) c T S:=by
 unfold zqp at hp
 split at hp
 ·rename_i r hr
  unfold zc2 at hp;simp only [Bool.and_eq_true] at hp;obtain ⟨⟨p1,p2⟩,p3⟩:=hp;refine ⟨r,zjb hN hE (zj2 hE hN hm) hTab n _ _ _ hr,?_,zc7 p2,?_⟩
  ·cases hx:r.ex with
   | normal=>exact .inl rfl
   | ret=>exact .inr rfl
   | _=>rw [hx] at p1;cases p1
  ·cases hg:r.tm.get res with
   | none=>rw [hg] at p3;cases p3
   | some v =>
    rw [hg] at p3;cases v with
    | bool b=>have p3:b=true:=p3;rw [p3]
    | _=>cases p3
 ·cases hp
omit hN hm hTab in
theorem zdh {f:Nat} {fn:Func} {c:Code} {res:Nat} (hfn:P.funcs[f]? = some fn) (hc:fn.body=some c) (hres:fn.results = #[.tmp res]) (h:Good P E (zcc res) c ⟨.leaf,fn.ntmps⟩ st0) (w:World) :
  Calls P f #[] w fun e w'=>e = .returned (.bool true)∧Below w.heap.size w w':=by
 obtain ⟨r1,⟨g1,m,g2⟩,hx,hmk,hv⟩:=h;refine callsIn_wide (n:=0) |>.1 ?_
 have q:=g2 (fun _=>True) (fun _=>none) w { tmps:=#[] ++ Array.replicate (fn.ntmps - 0) undef,defers:=[] } none 0 ⟨hE,⟨(fun n o _ ho=>by cases ho),(fun a b o o' L L' _ _ ho=>by cases ho)⟩,(fun t v ht=>by cases ht),by simp⟩ (fun _ _=>trivial) (fun _ _ _=>rfl) rfl rfl;refine callsIn_of_wp_marks (F:=FV none) hfn hc trivial (wpIn_mono q.wp fun e a' w' z=>?_) rfl;obtain ⟨ρ',s1,s2,s3⟩:=z.step;have hd:a'.defers=[]:=by rw [hmk] at s3;exact s3
 have hb:Below w.heap.size w w':=⟨s1.rest.os,s1.rest.tape,s1.rest.output,s1.size,fun b hb=>s1.frame b hb fun m o L _ _ ho=>by cases ho⟩
 have hv:Tr.get r1.tm.m res=some (.bool true):=by rw [← hv];cases r1.tm;rfl
 obtain ⟨V,v1,v2⟩:=s2 res _ hv;have v2:V = .bool true:=v2;subst v2;have fin:LeavesInM (FV none) 0 P fn a'.tmps (fun e w'=>e = .returned (.bool true)∧Below w.heap.size w w') a'.defers .returning w':=by
  rw [hd];refine ⟨_,?_,rfl,hb⟩;rw [zul,hres];simp [zwf,Array.getD_eq_getD_getElem?,v1]
 have hz:=z.ex;cases e with
 | normal=>exact fin
 | ret=>exact fin
 | _=>rcases hx with e | e<;>(rw [e] at hz;exact hz.elim)
end
def zcf (h:Tr AO) (nx lo:Nat):St:=⟨h,nx,Nat.sub (zm nx) 1,Nat.shiftLeft (Nat.sub (zm (Nat.sub nx lo)) 1) lo⟩
theorem zfd {nx lo n:Nat}:bit (Nat.shiftLeft (Nat.sub (zm (Nat.sub nx lo)) 1) lo) n↔lo≤n∧n < nx:=by
 have h:=@zcw (Nat.sub nx lo) (n - lo);unfold bit at *;rw [show Nat.shiftLeft (Nat.sub (zm (Nat.sub nx lo)) 1) lo=(Nat.sub (zm (Nat.sub nx lo)) 1) <<< lo from rfl,Nat.testBit_shiftLeft,Bool.and_eq_true,decide_eq_true_eq,h];have e:Nat.sub nx lo=nx - lo:=rfl;rw [e];omega
noncomputable def zro (E:Env) (P:Program) (n k:Nat) (c:Code) (T:Tm) (S:St) (T2:Tm) (h2:Tr AO) (nx lo:Nat):Bool:=match zqo E P n k c T S with
 | some q=>zgw T2.m q.1.m && Nat.beq T2.sz q.1.sz && zgx h2 q.2.heap && Nat.beq nx q.2.next && Nat.blt q.2.t (zm nx) && Nat.blt q.2.w (zm nx) && Nat.beq (Nat.land q.2.w (Nat.sub (zm lo) 1)) 0 && Nat.ble lo nx
 | none=>false
noncomputable def zrp (T:Tm):List (Nat × AV)→Bool
 | []=>true
 | p :: l=>zrb (some p.2) (T.get p.1) && zrp T l
noncomputable def zfe (n0 nx:Nat) (rs:List (Nat × AV)) (r:Res):Bool:=(match r.ex with
  | .normal=>true
  | .ret=>true
  | _=>false) && zgb r.mks [] && zrp r.tm rs && Nat.beq (Nat.land r.st.w (Nat.sub (zm n0) 1)) 0 && Nat.blt r.st.t (zm nx) && Nat.blt r.st.w (zm nx) && Nat.ble r.st.next nx
noncomputable def zo3 (E:Env) (P:Program) (n:Nat) (c:Code) (T:Tm) (S:St) (n0 nx:Nat) (rs:List (Nat × AV)):Bool:=match zjv E P n (.code none c T []) S with
 | some r=>zfe n0 nx rs r
 | none=>false
noncomputable def zzk (S:St) (nx:Nat):St:=⟨S.heap,nx,Nat.lor S.t (Nat.sub (zm nx) 1),Nat.lor S.w (Nat.shiftLeft (Nat.sub (zm (Nat.sub nx S.next)) 1) S.next)⟩
noncomputable def z50 (args0:List AV) (h0:Tr AO) (n0 nx:Nat) (v:AV):List AV→St→Option Res:=fun args S=>zk (zfq args args0 && zgx h0 S.heap && Nat.ble S.next n0 && Nat.ble n0 nx) (fcN S.next fun _=>some ⟨.normal,⟨.leaf,0⟩,[],v,zzk S nx⟩) none
theorem zo4 {w lo n:Nat} (h:Nat.beq (Nat.land w (Nat.sub (zm lo) 1)) 0=true) (hn:n < lo):¬ bit w n:=fun hb=>by
 have:=z4b hn w hb;rw [Nat.eq_of_beq_eq_true h] at this;exact zup n this
theorem z18 {ρ:Rho} {a:AV} {X:Value} (h:zq1 a=some X):RV ρ a X:=by
 unfold zq1 at h
 split at h<;>first | (cases h;rfl) | cases h
theorem zta {ρ:Rho}:∀ {l:List AV} {xs:List Value},zoj l=some xs→RVs ρ l xs
 | [],xs,h=>by cases h;rfl
 | a :: l,xs,h=>by
  unfold zoj at h;obtain ⟨x,h1,h⟩:=zd h;obtain ⟨y,h2,h⟩:=zd h;cases h;exact ⟨x,y,rfl,z18 h1,zta h2⟩
theorem zac9 {ρ:Rho} {a:AV} {X:Value} (h:zf9 a=some X):RV ρ a X:=by
 unfold zf9 at h
 split at h
 ·obtain ⟨l,h1,h⟩:=zd h;cases h;exact ⟨_,rfl,by simpa using zta h1⟩
 ·obtain ⟨l,h1,h⟩:=zd h;cases h;exact ⟨_,rfl,by simpa using zta h1⟩
 ·exact z18 h
theorem zo5 {T:Tm}:∀ {l:List (Nat × AV)},zrp T l=true→∀ p∈l,T.get p.1=some p.2
 | [],_,p,hp=>by cases hp
 | q :: l,h,p,hp=>by
  have h:(zrb (some q.2) (T.get q.1) && zrp T l)=true:=h;rw [Bool.and_eq_true] at h
  rcases List.mem_cons.1 hp with rfl | hp
  ·have h1:=h.1
   unfold zrb at h1;simp only at h1
   split at h1
   ·rename_i v' e;rw [e,zl1 _ _ h1]
   ·cases h1
  ·exact zo5 h.2 p hp
theorem zj3 {E:Env} {T:Tm} {k:List AV→St→Option Res}:∀ {rs:List (Nat × AV)} {S:St} {acc:List AV},(∀ p∈rs,T.get p.1=some p.2)→zfp E T (rs.map fun p=>.tmp p.1) S acc k=k (acc ++ rs.map (·.2)) S
 | [],S,acc,_=>by simp [zfp]
 | p :: rs,S,acc,h=>by
  show (zp5 E T S (.tmp p.1) fun v S=>zfp E T (rs.map fun p=>.tmp p.1) S (acc ++ [v]) k)=_;unfold zp5;simp only;rw [h p (by simp)];show zfp E T (rs.map fun p=>.tmp p.1) S (acc ++ [p.2]) k=_;rw [zj3 fun q hq=>h q (by simp [hq])];simp
section
variable {E:Env} {P:Program}
theorem zut (hN:zb7 P) (hE:zaq E P) (hm:P.follows .mixedOrders=true) (hTab:ziu P E) {Φ:Res→Prop} {n k:Nat} {c:Code} {T:Tm} {S:St} {T2:Tm} {h2:Tr AO} {nx lo:Nat} (hp:zro E P n k c T S T2 h2 nx lo=true) (h:Good P E Φ (za5 k c) T2 (zcf h2 nx lo)):Good P E Φ c T S:=by
 unfold zro at hp
 split at hp
 ·rename_i q hq
  simp only [Bool.and_eq_true] at hp;obtain ⟨⟨⟨⟨⟨⟨⟨p1,p2⟩,p3⟩,p4⟩,p5⟩,p6⟩,p7⟩,p8⟩:=hp;refine zs9 hN hE hm hTab hq (z17 h (zdy p1) (Nat.eq_of_beq_eq_true p2) (fun x o ho=>?_) (Nat.eq_of_beq_eq_true p4) (fun x hx=>?_) (fun x hx=>?_) fun x hx=>?_)
  ·rw [St.get_eq] at ho ⊢;exact zdz p3 _ _ ho
  ·exact zcw.2 (zdv p5 hx)
  ·refine zfd.2 ⟨?_,zdv p6 hx⟩
   rcases Nat.lt_or_ge x lo with hc | hc
   ·exact absurd hx (zo4 p7 hc)
   ·exact hc
  ·exact zcw.2 (zfd.1 hx).2
 ·cases hp
theorem zx3 (hN:zb7 P) (hE:zaq E P) (hm:P.follows .mixedOrders=true) (hTab:ziu P E) {n n0 nx:Nat} {rs:List (Nat × AV)} {c:Code} {T:Tm} {S:St} (hp:zo3 E P n c T S n0 nx rs=true):Good P E (fun r=>zfe n0 nx rs r=true) c T S:=by
 unfold zo3 at hp
 split at hp
 ·rename_i r hr
  exact ⟨r,zjb hN hE (zj2 hE hN hm) hTab n _ _ _ hr,hp⟩
 ·cases hp
theorem z8k (hE:zaq E P) {f:Nat} {fn:Func} {c:Code} {args0:List AV} {h0:Tr AO} {n0 nx:Nat} {v:AV} {X:Value} {rs:List (Nat × AV)} (hfn:P.funcs[f]? = some fn) (hc:fn.body=some c) (hargs:args0.length≤fn.ntmps) (hres:fn.results.toList=rs.map fun p=>.tmp p.1)
  (hv:v=oneOf (rs.map (·.2))) (hX:zf9 v=some X) (h:Good P E (fun r=>zfe n0 nx rs r=true) c ⟨zek args0 0 .leaf,fn.ntmps⟩ ⟨h0,n0,0,0⟩) {E':Env} {args:List AV} {S:St} {r:Res} (hr:z50 args0 h0 n0 nx v args S=some r) :
  Lcl S r.st∧zc0 P E' S r (.call f args):=by
 unfold z50 at hr;obtain ⟨hck,hr⟩:=zf hr;rw [zan] at hr;cases hr;simp only [Bool.and_eq_true] at hck;obtain ⟨⟨⟨q1,q2⟩,q3⟩,q4⟩:=hck;have q1:=zeg _ _ q1;subst q1;have q2:=zdz q2;have q3:S.next≤n0:=Nat.le_of_ble_eq_true q3;have q4:n0≤nx:=Nat.le_of_ble_eq_true q4;have hget:∀ x,(zzk S nx).get x=S.get x:=fun x=>by rw [St.get_eq,St.get_eq];rfl
 have hl:Lcl S (zzk S nx):=⟨Nat.le_trans q3 q4,fun x hx=>zg.2 (.inl hx),fun x hx=>zg.2 (.inl hx),fun x o _ ho=>⟨o,by rw [← hget];exact ho⟩,fun x h1 h2=>⟨zg.2 (.inr (zfd.2 ⟨h1,h2⟩)),zg.2 (.inr (zcw.2 h2))⟩,
  fun x o _ ho=>by rw [← hget];exact ho,fun hwt x hx=>by
   rcases zg.1 hx with hx | hx
   ·exact zg.2 (.inl (hwt x hx))
   ·exact zg.2 (.inr (zcw.2 (zfd.1 hx).2))⟩
 refine ⟨hl,⟨fn,c,hfn,hc⟩,fun T ρ w vs hf hT hfr hvs=>callsIn_wide (n:=0) |>.1 ?_⟩;obtain ⟨r1,⟨g1,m,g2⟩,hend⟩:=h;unfold zfe at hend;simp only [Bool.and_eq_true] at hend;obtain ⟨⟨⟨⟨⟨⟨z1,z2⟩,z3⟩,z4⟩,z5⟩,z6⟩,z7⟩:=hend;have z2:=zc7 z2;have z3:=zo5 z3;have z7:r1.st.next≤nx:=Nat.le_of_ble_eq_true z7;have hTn:∀ x,x < nx→T x:=fun x hx=>hT x (zg.2 (.inr (zcw.2 hx)))
 have hfit:Fit ρ ⟨h0,n0,0,0⟩ T w:=⟨fun x o hx ho=>hf.obj x o hx (by rw [St.get_eq] at ho ⊢;exact q2 _ _ ho),fun x y o o' L L' hx hy ho ho'=>hf.inj x y o o' L L' hx hy (by rw [St.get_eq] at ho ⊢;exact q2 _ _ ho) (by rw [St.get_eq] at ho' ⊢;exact q2 _ _ ho')⟩
 have hfree:∀ x,S.next≤x→x < nx→ρ x=none:=hfr;obtain ⟨u1,u2⟩:=zwg hvs hargs;have q:=g2 T ρ w { tmps:=vs ++ Array.replicate (fn.ntmps - vs.size) undef,defers:=[] } none 0 ⟨hE,hfit,u1,u2⟩ (fun x hx=>hTn x (zdv z5 hx)) (fun x x1 x2=>hfree x (Nat.le_trans q3 x1) (Nat.lt_of_lt_of_le x2 z7)) rfl rfl;have hleave:zgl E fn r1=some ⟨.normal,r1.tm,[],v,r1.st⟩:=by
  unfold zgl;rw [z2,hres];show zfp E r1.tm (rs.map fun p=>.tmp p.1) r1.st [] _=_;rw [zj3 z3,hv];simp
 obtain ⟨k1,k2⟩:=zs6 hE hleave;refine callsIn_of_wp_marks (F:=FV none) hfn hc trivial (wpIn_mono q.wp fun e a' w' z=>?_) rfl;obtain ⟨ρ',s1,s2,s3⟩:=z.step;have fin:LeavesInM (FV none) 0 P fn a'.tmps (fun e w'=>∃ V ρ',e = .returned V∧Stp ρ S T w ρ' (zzk S nx) w'∧RV ρ' v V) a'.defers .returning w' :=
  k2 T ρ' w' a'.tmps a'.defers _ _ _ s1.fit s2 (fun x hx=>hTn x (zdv z5 hx)) s3 fun V w2 v1 v2=>by
   have st:=s1.trans v2;have hblock:∀ b,b < w.heap.size→w2.heap[b]? = w.heap[b]?:=fun b hb=>st.frame b hb fun x o L hx hw ho hL=>by
    exfalso;have hw:bit r1.st.w x:=hw;have h1:n0≤x:=by
     rcases Nat.lt_or_ge x n0 with hc | hc
     ·exact absurd hw (zo4 z4 hc)
     ·exact hc
    rw [hfree x (Nat.le_trans q3 h1) (zdv z6 hw)] at hL;cases hL
   refine ⟨V,ρ,rfl,⟨fun _ _=>rfl,⟨fun x o hx ho=>?_,fun x y o o' L L' hx hy ho ho'=>hf.inj x y o o' L L' hx hy (by rw [← hget];exact ho) (by rw [← hget];exact ho')⟩,fun x o L h1 h2 _ hL=>?_,fun b hb _=>hblock b hb,st.size,hl,st.rest⟩,?_⟩
   ·rw [hget] at ho
    obtain ⟨L,e1,e2⟩:=hf.obj x o hx ho;exact ⟨L,e1,by rw [hblock _ e2.some];exact e2⟩
   ·rw [hfree x h1 h2] at hL;cases hL
   ·rw [zfr hX v1];exact zac9 hX
 have hz:=z.ex;cases e with
 | normal=>exact fin
 | ret=>exact fin
 | _=>cases hx:r1.ex<;>(rw [hx] at z1 hz;first | exact hz.elim | cases z1)
end
end Go.Proofs.YtnfdiohfojjnlaaGreat
