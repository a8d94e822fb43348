/-
  The evaluator is right, sixth part: nil, cells read and written, new cells, literals, places.
-/
import Derived.Test.YtnfdiohfojjnlaaGreatLa
import Derived.Laws.Tables
import Derived.ArgAppend
import Derived.Room.Entries
set_option maxRecDepth 200000
set_option maxHeartbeats 0
namespace Go.Proofs.YtnfdiohfojjnlaaGreat
open Go.RowKit
section
variable {E:Env} {P:Program} {T:Nat→Prop} {ρ:Rho} {S:St} {w:World} {tm:Tm} {a:Act}
inductive NilPair:TypeDesc→Value→Value→Bool→Prop where
 | ptr1 (e q):NilPair (.pointer e) (.pointer none) (.pointer q) q.isNone
 | ptr2 (e p):NilPair (.pointer e) (.pointer (some p)) (.pointer none) false
 | sl1 (e q l c):NilPair (.slice e) (.slice none 0 0) (.slice q l c) q.isNone
 | sl2 (e p l c):NilPair (.slice e) (.slice (some p) l c) (.slice none 0 0) false
 | mp1 (k e q):NilPair (.map k e) (.map none) (.map q) q.isNone
 | mp2 (k e p):NilPair (.map k e) (.map (some p)) (.map none) false
 | fn0 (p r v):NilPair (.func p r v) .nilFunc .nilFunc true
 | fn1 (p r v f a b):NilPair (.func p r v) .nilFunc (.func f a b) false
 | fn2 (p r v f a b):NilPair (.func p r v) (.func f a b) .nilFunc false
theorem zacm {d:TypeDesc} {x y:AV} {X Y:Value} {r:Bool} (hx:RV ρ x X) (hy:RV ρ y Y) (h1:zzf d x=true) (h2:zzf d y=true) (h:z5a x y=some r):NilPair d X Y r:=by
 unfold z5a at h
 split at h
 ·cases h;cases d<;>first | (cases h1;done) | skip
  have eX:X=_:=hx;have eY:Y=_:=hy;subst eX;subst eY;exact .ptr1 _ _
 ·cases h;cases d<;>first | (cases h1;done) | skip
  have eX:X=_:=hx;obtain ⟨L,_,eY⟩:=hy;subst eX;subst eY;exact .ptr1 _ (some _)
 ·cases h;cases d<;>first | (cases h1;done) | skip
  obtain ⟨L,_,eX⟩:=hx;have eY:Y=_:=hy;subst eX;subst eY;exact .ptr2 _ _
 ·cases h;cases d<;>first | (cases h1;done) | skip
  have eX:X=_:=hx;have eY:Y=_:=hy;subst eX;subst eY;exact .sl1 _ none _ _
 ·cases h;cases d<;>first | (cases h1;done) | skip
  have eX:X=_:=hx;obtain ⟨L,o,_,eY,_⟩:=hy;subst eX;subst eY;exact .sl1 _ (some _) _ _
 ·cases h;cases d<;>first | (cases h1;done) | skip
  obtain ⟨L,o,_,eX,_⟩:=hx;have eY:Y=_:=hy;subst eX;subst eY;exact .sl2 _ _ _ _
 ·cases h;cases d<;>first | (cases h1;done) | skip
  have eX:X=_:=hx;obtain ⟨L,o,c,_,eY,_⟩:=hy;subst eX;subst eY;exact .sl1 _ (some _) _ _
 ·cases h;cases d<;>first | (cases h1;done) | skip
  obtain ⟨L,o,c,_,eX,_⟩:=hx;have eY:Y=_:=hy;subst eX;subst eY;exact .sl2 _ _ _ _
 ·cases h;cases d<;>first | (cases h1;done) | skip
  have eX:X=_:=hx;have eY:Y=_:=hy;subst eX;subst eY;exact .mp1 _ _ none
 ·cases h;cases d<;>first | (cases h1;done) | skip
  have eX:X=_:=hx;obtain ⟨L,_,eY⟩:=hy;subst eX;subst eY;exact .mp1 _ _ (some _)
 ·cases h;cases d<;>first | (cases h1;done) | skip
  obtain ⟨L,_,eX⟩:=hx;have eY:Y=_:=hy;subst eX;subst eY;exact .mp2 _ _ _
 ·cases h;cases d<;>first | (cases h1;done) | skip
  have eX:X=_:=hx;have eY:Y=_:=hy;subst eX;subst eY;exact .fn0 _ _ _
 ·cases h;cases d<;>first | (cases h1;done) | skip
  have eX:X=_:=hx;obtain ⟨as,bs,eY,_⟩:=hy;subst eX;subst eY;exact .fn1 _ _ _ _ _ _
 ·cases h;cases d<;>first | (cases h1;done) | skip
  obtain ⟨as,bs,eX,_⟩:=hx;have eY:Y=_:=hy;subst eX;subst eY;exact .fn2 _ _ _ _ _ _
 ·cases h
theorem z98 {t:Nat} {d:TypeDesc} {X Y:Value} {r:Bool} (n:Nat) (ht:P.underlying t=some d) (h:NilPair d X Y r):(Op.equalIn (n+1) t X Y).run P w = .ok r w:=by
 have hu:(underlying t).run P w = .ok d w:=by simp [underlying,program,Sem.run,ht]
 rw [Op.equalIn];simp only [Sem.run_bind,hu,Result.andThen_ok];cases h<;>rfl
theorem nil_eq {t:Nat} {d:TypeDesc} {X Y:Value} {r:Bool} (ht:P.underlying t=some d) (h:NilPair d X Y r):(Op.equal t X Y).run P w = .ok r w:=z98 9999 ht h
theorem z7u (op:BinOp) (t:Nat) (x y:Operand) {d:TypeDesc} {X Y:Value} {r:Bool} (h:NilPair d X Y r):(eqGuard op t x y X Y).run P w = .ok () w:=by
 unfold eqGuard;cases h<;>cases op<;>rfl
theorem zacn {t:Nat} {d:TypeDesc} {X Y:Value} {r:Bool} (ht:P.underlying t=some d) (h:NilPair d X Y r):(binOp .eql t X Y).run P w = .ok (.bool r) w∧(binOp .neq t X Y).run P w = .ok (.bool !r) w:=by
 have hq:=nil_eq (w:=w) ht h;have e1:binOp .eql t X Y=(do pure (.bool (← Op.equal t X Y))):=by cases h<;>rfl
 have e2:binOp .neq t X Y=(do pure (.bool (!(← Op.equal t X Y)))):=by cases h<;>rfl
 exact ⟨by rw [e1];simp [hq],by rw [e2];simp [hq]⟩
theorem zad7 (h:Pre E P T ρ S w tm a) {dst:Option Tmp} {ty:Nat} {pos:String} {after:Array Edge} {guard:Option (Nat × Bool)} {op:BinOp} {t yt:Nat} {x y:Operand} {r:OpR}
  (hr:zv6 op t x y yt E P tm ⟨dst,.binOp op t x y yt,ty,pos,after,guard⟩ S=some r):zb2 P T ρ S w a ⟨dst,.binOp op t x y yt,ty,pos,after,guard⟩ r:=by
 unfold zv6 at hr;obtain ⟨u,hu,hr⟩:=zd hr;obtain ⟨v,hv,hr⟩:=zd hr;have ru:=zr h hu;have rv:=zr h hv
 rcases zbo hr with hr | hr
 ·obtain ⟨z,hz,hr⟩:=zd hr
  cases hr;intro _ _
  suffices hs:∃ V,(eqGuard op t x y (a.eval x) (a.eval y)).run P w = .ok () w∧(binOp op t (a.eval x) (a.eval y)).run P w = .ok V w∧RV ρ z V by
   obtain ⟨V,h1,h2,h3⟩:=hs;exact zao h (by simp [execOp,h1,h2]) h3
  unfold zabi at hz;cases hi:zvy u with
  | none =>
   rw [hi] at hz;have hz':z5b E op t u v=some z:=hz;unfold z5b at hz';obtain ⟨e,he,hz'⟩:=zd hz';obtain ⟨ti,hti,hz'⟩:=zd hz';obtain ⟨h1,hz'⟩:=zf hz';obtain ⟨h2,hz'⟩:=zf hz';obtain ⟨r,hr,hz'⟩:=zd hz';have hd:=(h.env.ty _ _ hti).und;have hp:=zacm ru rv h1 h2 hr;have hg:=z7u (P:=P) (w:=w) op t x y hp;obtain ⟨b1,b2⟩:=zacn (w:=w) hd hp;rw [zqb hz',zx];cases op<;>first
    | (cases he;done)
    | exact ⟨.bool r,hg,b1,by cases he;rfl⟩
    | exact ⟨.bool !r,hg,b2,by cases he;rfl⟩
  | some p =>
   rw [hi] at hz;cases hj:zvy v with
   | none=>rw [hj] at hz;cases hz
   | some q =>
    rw [hj] at hz;obtain ⟨hk,hz⟩:=zf hz;rw [zp7 hi] at ru;rw [zp7 hj] at rv;have e1:a.eval x = .int p.1 p.2:=ru;have e2:a.eval y = .int q.1 q.2:=rv;obtain ⟨V,h1,h2⟩:=zad6 (P:=P) (ρ:=ρ) (w:=w) (t:=t) hz;rw [e1,e2,← zqa hk];exact ⟨V,z7t op t x y _ _ _ _,h1,h2⟩
 ·exact pure_ok h hr
theorem z7v (h:Fit ρ S T w) {n off:Nat} {β:Type} {k:AV→St→Option β} {r:β} (hr:rd1 S n off k=some r):∃ v,k v (S.touched n)=some r ∧
  (T n→∃ L V,ρ n=some L∧w.cell? ⟨L.b,L.s+off,none⟩=some V∧RV ρ v V):=by
 unfold rd1 at hr;obtain ⟨o,h1,hr⟩:=zd hr;obtain ⟨l,h2,hr⟩:=zd hr;obtain ⟨v,h3,hr⟩:=zd hr;rw [St.touch_eq] at hr;refine ⟨v,hr,fun hT=>?_⟩;obtain ⟨L,e1,e2⟩:=h.obj n o hT h1;obtain ⟨c,e,z,q1,_,_,q4⟩:=zr9 h2 e2;rw [zb1] at h3;obtain ⟨V,k1,k2⟩:=RC.cell q1 q4 h3;exact ⟨L,V,e1,k1,k2⟩
theorem zlu (h:Fit ρ S T w) {n off len:Nat} {β:Type} {k:List AV→St→Option β} {r:β} (hr:rdN S n off len k=some r):∃ x,x.length=len∧k x (S.touched n)=some r ∧
  (T n→∃ L,ρ n=some L∧∃ vs:List Value,vs.length=len∧RVs ρ x vs∧∀ o',(len=0∨o'=L.s+off)→∀ j v,vs[j]? = some v→w.cell? ((⟨L.b,o',none⟩:Addr).add j)=some v):=by
 unfold rdN at hr;obtain ⟨o,h1,hr⟩:=zd hr;obtain ⟨l,h2,hr⟩:=zd hr;obtain ⟨x,h3,hr⟩:=zd hr;rw [St.touch_eq] at hr;obtain ⟨s1,s2,s3⟩:=zgd h3;refine ⟨x,s2,hr,fun hT=>?_⟩;obtain ⟨L,e1,e2⟩:=h.obj n o hT h1;obtain ⟨c,e,z,q1,_,_,q4⟩:=zr9 h2 e2;refine ⟨L,e1,?_⟩
 rcases s3 with s3 | s3
 ·subst s3
  refine ⟨[],rfl,?_,fun _ _ j v hj=>by simp at hj⟩;have:x=[]:=List.length_eq_zero_iff.1 s2;rw [this];rfl
 ·obtain ⟨vs,k1,k2,k3⟩:=RC.seg q1 q4 s3
  refine ⟨vs,k1,by rw [s1];exact k2,fun o' ho j v hj=>?_⟩;have hadd:∀ (b o i:Nat),(⟨b,o,none⟩:Addr).add i=⟨b,o+i,none⟩:=fun b o i=>by unfold Addr.add;split<;>simp_all
  rcases ho with ho | ho
  ·rw [ho] at k1
   rw [List.length_eq_zero_iff.1 k1] at hj;simp at hj
  ·rw [hadd,ho];exact k3 j v hj
theorem zaco (h:Pre E P T ρ S w tm a) {dst:Option Tmp} {ty:Nat} {pos:String} {after:Array Edge} {guard:Option (Nat × Bool)} {t:Nat} {x:Operand} {r:OpR}
  (hr:zq6 t x E P tm ⟨dst,.load t x,ty,pos,after,guard⟩ S=some r):zb2 P T ρ S w a ⟨dst,.load t x,ty,pos,after,guard⟩ r:=by
 unfold zq6 at hr;obtain ⟨u,hu,hr⟩:=zd hr;unfold z7m at hr;obtain ⟨p,hp,hr⟩:=zd hr;obtain ⟨ti,hti,hr⟩:=zd hr;have ht:=h.env.ty _ _ hti;have ru:=zr h hu;rw [zdc hp] at ru;obtain ⟨L,hL,hX⟩:=ru;rw [zx] at hr
 split at hr
 ·rename_i hagg
  obtain ⟨l,hl,hr,hc⟩:=zlu h.fit hr;cases hr;intro hT _;obtain ⟨L',hL',vs,hv1,hv2,hv3⟩:=hc (hT _ (zg.2 (.inr (zl.2 rfl))));rw [hL] at hL';cases hL';have hload:=run_loadCells_list (P:=P) w (⟨L.b,L.s+p.2,none⟩:Addr) vs (hv3 _ (.inr rfl));rw [hv1] at hload;exact ⟨.agg vs.toArray,w,ρ,.inl (by simp [execOp,Instr.loadAt,Instr.sureAddr,hX,loadVar,zi7 ht,hagg,zb5 ht,hload]),za0 h.fit _,vs.toArray,rfl,by simpa using hv2⟩
 ·rename_i hagg
  obtain ⟨v,hr,hc⟩:=z7v h.fit hr;cases hr;intro hT _;obtain ⟨L',V,hL',hv1,hv2⟩:=hc (hT _ (zg.2 (.inr (zl.2 rfl))));rw [hL] at hL';cases hL';exact ⟨V,w,ρ,.inl (by simp [execOp,Instr.loadAt,Instr.sureAddr,hX,loadVar,zi7 ht,hagg,hv1]),za0 h.fit _,hv2⟩
end
theorem zde (b o i:Nat):(⟨b,o,none⟩:Addr).add i=⟨b,o+i,none⟩:=by unfold Addr.add;split<;>simp_all
theorem zacp {ρ:Rho} {v:AV} {V:Value} (h:zkr v=true) (r:RV ρ v V):V.oneCell'=true:=by
 cases v with
 | bool b=>have e:V=_:=r;subst e;rfl
 | int k n=>have e:V=_:=r;subst e;rfl
 | str s=>have e:V=_:=r;subst e;rfl
 | nilp=>have e:V=_:=r;subst e;rfl
 | ptr n o=>obtain ⟨L,_,e⟩:=r;subst e;rfl
 | nils=>have e:V=_:=r;subst e;rfl
 | sl n o l c=>obtain ⟨L,o',_,e,_⟩:=r;subst e;rfl
 | slo n o l c=>obtain ⟨L,o',cap,_,e,_⟩:=r;subst e;rfl
 | nilm=>have e:V=_:=r;subst e;rfl
 | map n=>obtain ⟨L,_,e⟩:=r;subst e;rfl
 | fn f a b=>obtain ⟨as,bs,e,_,_⟩:=r;subst e;rfl
 | yield l=>obtain ⟨L,_,e⟩:=r;subst e;rfl
 | nilf=>have e:V=_:=r;subst e;rfl
 | agg l=>cases h
 | tup l=>cases h
theorem z5i {v:AV} (h:zkr v=true):v.cells=[v]:=by
 cases v<;>first | rfl | cases h
theorem zxo {a b:Bool} (h:ze1 a b=true):a=true∧b=true:=by
 cases a with
 | false=>cases h
 | true=>exact ⟨rfl,h⟩
theorem zqc {α:Type} {p:α→Bool}:∀ {l:List α},zeb p l=true→∀ x∈l,p x=true
 | [],_,_,h=>by cases h
 | y :: l,h,x,hx=>by
  obtain ⟨h1,h2⟩:=zxo h
  rcases List.mem_cons.1 hx with rfl | hx
  ·exact h1
  ·exact zqc h2 x hx
theorem RVs.one {ρ:Rho}:∀ {l:List AV} {vs:List Value},(∀ x∈l,zkr x=true)→RVs ρ l vs→∀ v∈vs,v.oneCell'=true
 | [],vs,_,h,v,hv=>by rw [show vs=[] from h] at hv;cases hv
 | a :: l,vs,hl,⟨V,r,e,h1,h2⟩,v,hv=>by
  rw [e] at hv
  rcases List.mem_cons.1 hv with rfl | hv
  ·exact zacp (hl a (by simp)) h1
  ·exact RVs.one (fun x hx=>hl x (by simp [hx])) h2 v hv
theorem zdf {α:Type} (l vs:List α) (off i:Nat) (h:off+vs.length≤l.length):(l.take off ++ (vs ++ l.drop (off+vs.length)))[i]? = if i < off then l[i]? else if i < off+vs.length then vs[i - off]? else l[i]?:=by
 rw [List.getElem?_append];have hl:(l.take off).length=off:=by simp;omega
 rw [hl]
 split
 ·rw [List.getElem?_take,if_pos (by assumption)]
 ·rw [List.getElem?_append]
  split
  ·rw [if_pos (by omega)]
  ·rw [if_neg (by omega),List.getElem?_drop];congr 1;omega
section
variable {E:Env} {P:Program} {T:Nat→Prop} {ρ:Rho} {S:St} {w:World} {tm:Tm} {a:Act}
theorem zxp (h:Fit ρ S T w) {n off:Nat} {l vs:List AV} {Vs:List Value} (hT:T n) (hn:S.get n=some (.cells l)) (hl:off+vs.length≤l.length) (h1:∀ x∈vs,zkr x=true) (hv:RVs ρ vs Vs) :
  ∃ L w',ρ n=some L∧(storeCells ⟨L.b,L.s+off,none⟩ Vs 0).run P w = .ok () w'∧Stp ρ S T w ρ (S.setted n (some (.cells (l.take off ++ (vs ++ l.drop (off+vs.length)))))) w':=by
 obtain ⟨L,e1,c,e,q1,q2,q3,q4⟩:=h.obj n _ hT hn;have hvl:=hv.length;have hst:=run_storeCells_at P L.b (L.s+off) e Vs 0 c w q1 (by omega) (hv.one h1);refine ⟨L,_,e1,hst,zlt h hT hn e1 (setRow_size _ _ _) (fun b hb=>setRow_other _ _ _ _ hb) ?_⟩;have hcl:(c.toList.take (L.s+off) ++ (Vs ++ c.toList.drop (L.s+off+Vs.length))).length=c.size:=by
  simp only [List.length_append,List.length_take,List.length_drop,Array.length_toList];omega
 refine ⟨_,e,setRow_heap _ _ _ _ _ _ q1,?_,?_,fun i x hi=>?_⟩
 ·simp only [List.append_assoc,List.size_toArray,Nat.add_zero];rw [hcl,q2]
 ·simp only [List.length_append,List.length_take,List.length_drop];omega
 ·rw [zdf _ _ _ _ hl] at hi
  simp only [List.append_assoc,Nat.add_zero,List.getElem?_toArray];rw [zdf _ _ _ _ (by simp;omega)]
  by_cases hlt:i < off
  ·rw [if_pos hlt] at hi
   rw [if_pos (by omega)];have:=q4 i x hi;simpa using this
  ·rw [if_neg hlt] at hi
   rw [if_neg (by omega)]
   by_cases hlt2:i < off+vs.length
   ·rw [if_pos hlt2] at hi
    rw [if_pos (by omega)];have:=hv.at hi
    rwa [show L.s+i - (L.s+off)=i - off by omega]
   ·rw [if_neg hlt2] at hi
    rw [if_neg (by omega)];have:=q4 i x hi;simpa using this
theorem zos {n off:Nat} {vs:List AV} {β:Type} {k:St→Option β} {r:β} (hr:wrN S n off vs k=some r):∃ l,S.get n=some (.cells l)∧off+vs.length≤l.length∧(∀ x∈vs,zkr x=true) ∧
  k (S.setted n (some (.cells (l.take off ++ (vs ++ l.drop (off+vs.length))))))=some r:=by
 unfold wrN at hr;obtain ⟨o,h1,hr⟩:=zd hr;obtain ⟨l,h2,hr⟩:=zd hr;obtain ⟨h3,hr⟩:=zf hr;obtain ⟨l',h4,hr⟩:=zd hr;rw [St.set_eq] at hr;obtain ⟨h5,h6⟩:=zr7 h4;rw [h6] at hr;exact ⟨l,by rw [h1,zbn h2],h5,zqc h3,hr⟩
theorem zlv (h:Fit ρ S T w) {n off:Nat} {vs:List AV} {Vs:List Value} {β:Type} {k:St→Option β} {r:β} (hr:wrL S n off vs k=some r) (hv:RVs ρ vs Vs):∃ S',k S'=some r∧Lcl S S'∧S'.next=S.next∧((∀ n,bit S'.t n→T n) →
  ((vs=[]∧S'=S)∨T n∧∃ L,ρ n=some L)∧∀ L o',ρ n=some L→(vs=[]∨o'=L.s+off)→∃ w',(storeCells ⟨L.b,o',none⟩ Vs 0).run P w = .ok () w'∧Stp ρ S T w ρ S' w'):=by
 unfold wrL at hr;rw [zx] at hr
 split at hr
 ·rename_i hnil
  have e:vs=[]:=by
   cases vs with
   | nil=>rfl
   | cons x y=>cases hnil
  subst e;have eV:Vs=[]:=hv;subst eV;exact ⟨S,hr,.refl S,rfl,fun _=>⟨.inl ⟨rfl,rfl⟩,fun L o' _ _=>⟨w,rfl,.refl h⟩⟩⟩
 ·rename_i hn0
  obtain ⟨l,h1,h2,h3,h4⟩:=zos hr;refine ⟨_,h4,zab S n _ ⟨_,h1⟩,rfl,fun hT=>?_⟩;have hTn:T n:=hT n (zg.2 (.inr (zl.2 rfl)));obtain ⟨L,w',e1,e2,e3⟩:=zxp (P:=P) h hTn h1 h2 h3 hv;refine ⟨.inr ⟨hTn,L,e1⟩,fun L' o' hL ho=>?_⟩;rw [e1] at hL;cases hL
  rcases ho with ho | ho
  ·subst ho;exact absurd rfl hn0
  ·rw [ho];exact ⟨w',e2,e3⟩
theorem z99 (h:Pre E P T ρ S w tm a) {dst:Option Tmp} {ty:Nat} {pos:String} {after:Array Edge} {guard:Option (Nat × Bool)} {t:Nat} {x y:Operand} {r:OpR}
  (hr:zlk t x y E P tm ⟨dst,.store t x y,ty,pos,after,guard⟩ S=some r):zb2 P T ρ S w a ⟨dst,.store t x y,ty,pos,after,guard⟩ r:=by
 unfold zlk at hr;obtain ⟨u,hu,hr⟩:=zd hr;obtain ⟨v,hv,hr⟩:=zd hr;unfold z3r at hr;obtain ⟨p,hp,hr⟩:=zd hr;obtain ⟨ti,hti,hr⟩:=zd hr;obtain ⟨hsz,hr⟩:=zf hr;have hsz:=Nat.eq_of_beq_eq_true hsz;have ht:=h.env.ty _ _ hti;have ru:=zr h hu;have rv:=zr h hv;rw [zdc hp] at ru;obtain ⟨L,hL,hX⟩:=ru;have rc:=AV.cells_rv rv;have hcs:(a.eval y).cells.size=ti.size:=by rw [← hsz,← rc.length];simp
 have main:∀ (k:St→Option OpR) S' w',k S'=some r→(∀ S,k S=some (.val .undef S))→(storeCells ⟨L.b,L.s+p.2,none⟩ (a.eval y).cells.toList 0).run P w = .ok () w'→Stp ρ S T w ρ S' w'→zzj P T ρ S w a ⟨dst,.store t x y,ty,pos,after,guard⟩ .undef S':=fun k S' w' _ _ h1 h2 =>
  ⟨undef,w',ρ,.inr ⟨by simp [execOp,Instr.storeAt,Instr.sureAddr,hX,storeVar,zb5 ht,hcs,h1],rfl⟩,h2,⟨#[],rfl,rfl⟩⟩
 cases hag:zv2 v with
 | some l =>
  rw [hag] at hr;have hr':wrL S p.1 p.2 l (fun S=>some (.val .undef S))=some r:=hr;have ev:=zp8 hag;have el:v.cells=l:=by rw [ev];rfl
  rw [el] at rc;obtain ⟨S',k1,_,_,k3⟩:=zlv (P:=P) h.fit hr' rc;cases k1;intro hT _;obtain ⟨_,k4⟩:=k3 hT;obtain ⟨w',e1,e2⟩:=k4 L _ hL (.inr rfl);exact main (fun S=>some (.val .undef S)) S' w' rfl (fun _=>rfl) e1 e2
 | none =>
  rw [hag] at hr;have hr':wr1 S p.1 p.2 v (fun S=>some (.val .undef S))=some r:=hr;unfold wr1 at hr';obtain ⟨o,h1,hr⟩:=zd hr';obtain ⟨l,h2,hr⟩:=zd hr;obtain ⟨h3,hr⟩:=zf hr;obtain ⟨l',h4,hr⟩:=zd hr;rw [St.set_eq] at hr;cases hr;intro hT _;obtain ⟨h5,h6⟩:=zxn h4;have ec:=z5i h3;rw [ec] at rc;obtain ⟨L',w',e1,e2,e3⟩:=zxp (P:=P) h.fit (hT _ (zg.2 (.inr (zl.2 rfl)))) (by rw [h1,zbn h2]) (off:=p.2) (vs:=[v]) (by simp;omega) (fun x hx=>by simp at hx;rw [hx];exact h3) rc;rw [hL] at e1;cases e1;refine main (fun S=>some (.val .undef S)) _ w' rfl (fun _=>rfl) e2 ?_
  have:l'=l.take p.2 ++ ([v] ++ l.drop (p.2 + [v].length)):=by rw [h6,List.set_eq_take_append_cons_drop];simp [h5]
  rw [this];exact e3
theorem zqd (h:Fit ρ S T w) {l:List AV} {cells:Array Value} (elem:Nat) (hl:RVs ρ l cells.toList) (hf:ρ S.next=none) :
  Stp ρ S T w (zed ρ S.next ⟨w.heap.size,0,cells.size,fun _=>true⟩) (S.alloced (.cells l)) { w with heap:=w.heap.push (.cells cells elem) }:=by
 refine zdx h hf rfl ⟨cells,elem,rfl,by simp,by have:=hl.length;simp at this;show l.length≤cells.size;omega,fun i x hi=>?_⟩;obtain ⟨V,h1,h2⟩:=hl.at hi;exact ⟨V,by simpa using h1,RV.mono (zee _ hf) _ _ h2⟩
theorem zdn {o:AO} (hf:zbl ρ S.next (S.alloced o).next):ρ S.next=none:=hf S.next (Nat.le_refl _) (by have:(S.alloced o).next=S.next+1:=rfl;omega)
theorem zad8 (h:Pre E P T ρ S w tm a) {dst:Option Tmp} {ty:Nat} {pos:String} {after:Array Edge} {guard:Option (Nat × Bool)} {t:Nat} {x:Operand} {r:OpR}
  (hr:zv4 t x E P tm ⟨dst,.box t x,ty,pos,after,guard⟩ S=some r):zb2 P T ρ S w a ⟨dst,.box t x,ty,pos,after,guard⟩ r:=by
 unfold zv4 at hr;obtain ⟨v,hv,hr⟩:=zd hr;rw [St.alloc_eq] at hr;cases hr;intro _ hf;have rc:=AV.cells_rv (zr h hv);have hf':=zdn hf;exact ⟨.pointer (some ⟨w.heap.size,0,none⟩),_,_,.inl (by simp [execOp,Instr.box,newVar,newRow,newObj,Sem.run]),zqd h.fit t rc hf',⟨_,zac _ _ _,rfl⟩⟩
theorem zir {P:Program} {t:Nat} {ti:TI} (ht:zku P t ti) {z:List AV} (hz:ti.zero=some z) (ρ:Rho) (w:World):∃ Z,(zeroValue t).run P w = .ok Z w∧RVs ρ z Z.cells.toList:=by
 obtain ⟨zv,h1,h2⟩:=ht.zero z hz;obtain ⟨Z,h3,h4⟩:=z1d (w:=w) ht h1;exact ⟨Z,h3,by rw [h2];exact AV.cells_rv (ze6 h4)⟩
theorem zaaa (h:Pre E P T ρ S w tm a) {dst:Option Tmp} {ty:Nat} {pos:String} {after:Array Edge} {guard:Option (Nat × Bool)} {t:Nat} {r:OpR}
  (hr:zlj t E P tm ⟨dst,.alloc t,ty,pos,after,guard⟩ S=some r):zb2 P T ρ S w a ⟨dst,.alloc t,ty,pos,after,guard⟩ r:=by
 unfold zlj at hr;obtain ⟨ti,hti,hr⟩:=zd hr;obtain ⟨z,hz,hr⟩:=zd hr;rw [St.alloc_eq] at hr;cases hr;intro _ hf;obtain ⟨Z,h1,h2⟩:=zir (h.env.ty _ _ hti) hz ρ w;have hf':=zdn hf;exact ⟨.pointer (some ⟨w.heap.size,0,none⟩),_,_,.inl (by simp [execOp,Instr.alloc,h1,newVar,newRow,newObj,Sem.run]),zqd h.fit t h2 hf',⟨_,zac _ _ _,rfl⟩⟩
theorem zlw {d:TypeDesc} {fs:List Field} (h:zp1 d=some fs):∃ f:Array Field,d = .struct f∧f.toList=fs:=by
 cases d<;>cases h;exact ⟨_,rfl,rfl⟩
theorem zbb {d:TypeDesc} {e:Nat} (h:zb4 d=some e):d = .slice e:=by
 cases d<;>cases h;rfl
theorem zfw {d:TypeDesc} {p:Nat × Nat} (h:zlc d=some p):d = .array p.1 p.2:=by
 cases d<;>cases h;rfl
theorem z2v {d:TypeDesc} {e:Nat} (h:z7k d=some e):d = .pointer e:=by
 cases d<;>cases h;rfl
theorem z1e (h:Pre E P T ρ S w tm a) {dst:Option Tmp} {ty:Nat} {pos:String} {after:Array Edge} {guard:Option (Nat × Bool)} {t f:Nat} {x:Operand} {r:OpR}
  (hr:zfm t x f E P tm ⟨dst,.fieldAddr t x f,ty,pos,after,guard⟩ S=some r):zb2 P T ρ S w a ⟨dst,.fieldAddr t x f,ty,pos,after,guard⟩ r:=by
 unfold zfm at hr;obtain ⟨u,hu,hr⟩:=zd hr;unfold zr3 at hr;obtain ⟨p,hp,hr⟩:=zd hr;obtain ⟨ti,hti,hr⟩:=zd hr;obtain ⟨fs,hfs,hr⟩:=zd hr;obtain ⟨fd,hfd,hr⟩:=zd hr;obtain ⟨tf,htf,hr⟩:=zd hr;obtain ⟨hz,hr⟩:=zf hr;rw [zan] at hr;cases hr;intro _ _;have ht:=zbh (w:=w) (h.env.ty _ _ hti);have hs:=zb5 (w:=w) (h.env.ty _ _ htf);have hz:=Nat.le_of_ble_eq_true hz;have ru:=zr h hu;rw [zdc hp] at ru;obtain ⟨L,hL,hX⟩:=ru;obtain ⟨fa,hd,rfl⟩:=zlw hfs;rw [hd] at ht;rw [zb1] at hfd;have hfa:fa[f]? = some fd:=by simpa using hfd
 refine zao h (V:=.pointer (some ⟨L.b,L.s+(p.2+fd.offset),none⟩)) ?_ ⟨L,hL,rfl⟩;have hz':¬ tf.size=0:=by omega
 simp [execOp,Instr.fieldAt,ht,hfa,Instr.sureAddr,hX,fieldPlace,hs,hz',zde,Nat.add_assoc]
theorem z30 {l:List AV} {vs:Array Value} {t off:Nat} {v:AV} (henv:zaq E P) (hl:RVs ρ l vs.toList) (hr:zzg E t l off=some v):∃ V,(part t vs off).run P w = .ok V w∧RV ρ v V:=by
 unfold zzg at hr;obtain ⟨ti,hti,hr⟩:=zd hr;have ht:=henv.ty _ _ hti;rw [zx] at hr
 split at hr
 ·rename_i hag
  obtain ⟨x,hx,hr⟩:=zd hr;cases hr;obtain ⟨s1,_,_⟩:=zgd hx;refine ⟨.agg (vs.extract off (off+ti.size)),by simp [part,zi7 ht,hag,zb5 ht],_,rfl,?_⟩;rw [s1];have:=(hl.drop off).take ti.size;simpa [Array.toList_extract,List.extract_eq_take_drop] using this
 ·rename_i hag
  rw [zb1] at hr;obtain ⟨V,h1,h2⟩:=hl.at hr;have h1':vs[off]? = some V:=by simpa using h1
  exact ⟨V,by simp [part,zi7 ht,hag,h1'],h2⟩
theorem zaab (h:Pre E P T ρ S w tm a) {dst:Option Tmp} {ty:Nat} {pos:String} {after:Array Edge} {guard:Option (Nat × Bool)} {t f:Nat} {x:Operand} {r:OpR}
  (hr:zlm t x f E P tm ⟨dst,.field t x f,ty,pos,after,guard⟩ S=some r):zb2 P T ρ S w a ⟨dst,.field t x f,ty,pos,after,guard⟩ r:=by
 unfold zlm at hr;obtain ⟨u,hu,hr⟩:=zd hr;unfold z3s at hr;obtain ⟨l,hl,hr⟩:=zd hr;obtain ⟨ti,hti,hr⟩:=zd hr;obtain ⟨fs,hfs,hr⟩:=zd hr;obtain ⟨fd,hfd,hr⟩:=zd hr;obtain ⟨v,hv,hr⟩:=zd hr;cases hr;intro _ _;have ht:=zbh (w:=w) (h.env.ty _ _ hti);have ru:=zr h hu;rw [zp8 hl] at ru;obtain ⟨vs,hX,hvs⟩:=ru;obtain ⟨fa,hd,rfl⟩:=zlw hfs;rw [hd] at ht;rw [zb1] at hfd;have hfa:fa[f]? = some fd:=by simpa using hfd
 obtain ⟨V,h1,h2⟩:=z30 (w:=w) h.env hvs hv;exact zao h (V:=V) (by simp [execOp,Instr.field,ht,hfa,hX,asAgg,h1]) h2
theorem zaac (h:Pre E P T ρ S w tm a) {dst:Option Tmp} {ty:Nat} {pos:String} {after:Array Edge} {guard:Option (Nat × Bool)} {t:Nat} {x y:Operand} {r:OpR}
  (hr:zln t x y E P tm ⟨dst,.index t x y,ty,pos,after,guard⟩ S=some r):zb2 P T ρ S w a ⟨dst,.index t x y,ty,pos,after,guard⟩ r:=by
 unfold zln at hr;obtain ⟨u,hu,hr⟩:=zd hr;obtain ⟨i,hi,hr⟩:=zd hr
 rcases zbo hr with hr | hr
 ·unfold z3t at hr
  obtain ⟨l,hl,hr⟩:=zd hr;obtain ⟨n,hn,hr⟩:=zd hr;obtain ⟨ti,hti,hr⟩:=zd hr;obtain ⟨ne,hne,hr⟩:=zd hr;obtain ⟨hlt,hr⟩:=zf hr;obtain ⟨te,hte,hr⟩:=zd hr;obtain ⟨v,hv,hr⟩:=zd hr;cases hr;intro _ _;have ht:=zbh (w:=w) (h.env.ty _ _ hti);have hs:=zb5 (w:=w) (h.env.ty _ _ hte);rw [zfw hne] at ht;have hlt:=Nat.le_of_ble_eq_true hlt;have ru:=zr h hu;rw [zp8 hl] at ru;obtain ⟨vs,hX,hvs⟩:=ru;obtain ⟨k,hk⟩:=zdd hn;have ri:=zr h hi;rw [hk] at ri;have hY:a.eval y = .int k n:=ri;obtain ⟨V,h1,h2⟩:=z30 (w:=w) h.env hvs hv;have hlt':n < ne.1:=hlt;have h1':(part ne.2 vs (n * te.size)).run P w = .ok V w:=h1;exact zao h (V:=V) (by simp [execOp,Instr.index,ht,hX,hY,asIntOf,hs,hlt',h1']) h2
 ·exact pure_ok h hr
theorem zqe {n off len e i:Nat} {r:OpR} (hr:z0w E S n off len e i=some r):i < len∧∃ te,E.tyOf e=some te∧r = .val (.ptr n (off+i * te.size)) S:=by
 unfold z0w at hr;obtain ⟨h1,hr⟩:=zf hr;obtain ⟨te,h2,hr⟩:=zd hr;rw [zan] at hr;cases hr;exact ⟨Nat.le_of_ble_eq_true h1,te,h2,rfl⟩
theorem z7w {v:AV} {r:Nat × Nat × Nat} (h:zs1 v=some r) {V:Value} (hv:RV ρ v V):∃ L o' cap,ρ r.1=some L∧V = .slice (some ⟨L.b,o',none⟩) r.2.2 cap∧r.2.2≤cap∧(cap=0∨o'=L.s+r.2.1):=by
 cases v<;>cases h
 ·obtain ⟨L,o',h1,h2,h3,h4⟩:=hv;exact ⟨L,o',_,h1,h2,h3,h4⟩
 ·obtain ⟨L,o',cap,h1,h2,h3,_,h4⟩:=hv;exact ⟨L,o',_,h1,h2,h3,h4⟩
theorem z1f (h:Pre E P T ρ S w tm a) {dst:Option Tmp} {ty:Nat} {pos:String} {after:Array Edge} {guard:Option (Nat × Bool)} {t:Nat} {x y:Operand} {r:OpR}
  (hr:zfn t x y E P tm ⟨dst,.indexAddr t x y,ty,pos,after,guard⟩ S=some r):zb2 P T ρ S w a ⟨dst,.indexAddr t x y,ty,pos,after,guard⟩ r:=by
 unfold zfn at hr;obtain ⟨u,hu,hr⟩:=zd hr;obtain ⟨i,hi,hr⟩:=zd hr;unfold zr4 at hr;obtain ⟨n,hn,hr⟩:=zd hr;obtain ⟨ti,hti,hr⟩:=zd hr;have ht:=zbh (w:=w) (h.env.ty _ _ hti);obtain ⟨k,hk⟩:=zdd hn;have ri:=zr h hi;rw [hk] at ri;have hY:a.eval y = .int k n:=ri;have ru:=zr h hu;cases hrow:zs1 u with
 | none =>
  rw [hrow] at hr;obtain ⟨p,hp,hr⟩:=zd hr;obtain ⟨ne,hne,hr⟩:=zd hr;obtain ⟨hlt,te,hte,hr⟩:=zqe hr;rw [hr];intro _ _;have hs:=zb5 (w:=w) (h.env.ty _ _ hte);rw [zfw hne] at ht;rw [zdc hp] at ru;obtain ⟨L,hL,hX⟩:=ru;exact zao h (V:=.pointer (some ⟨L.b,L.s+(p.2+n * te.size),none⟩)) (by simp [execOp,Instr.indexAt,ht,hX,hY,asIntOf,Instr.sureAddr,hs,hlt,zde,Nat.add_assoc]) ⟨L,hL,rfl⟩
 | some q =>
  rw [hrow] at hr;obtain ⟨e,he,hr⟩:=zd hr;obtain ⟨hlt,te,hte,hr⟩:=zqe hr;rw [hr];intro _ _;have hs:=zb5 (w:=w) (h.env.ty _ _ hte);rw [zbb he] at ht;obtain ⟨L,o',cap,hL,hX,hc,ho⟩:=z7w hrow ru;have ho':o'=L.s+q.2.1:=by rcases ho with ho | ho;omega;exact ho
  subst ho';exact zao h (V:=.pointer (some ⟨L.b,L.s+(q.2.1+n * te.size),none⟩)) (by simp [execOp,Instr.indexAt,ht,hX,hY,asIntOf,hs,hlt,zde,Nat.add_assoc]) ⟨L,hL,rfl⟩
end
theorem foldl_set {α:Type}:∀ (vs:List α) (i off:Nat) (l:List α),off+i+vs.length≤l.length→(vs.zipIdx i).foldl (fun cs (p:α × Nat)=>cs.set (off+p.2) p.1) l=l.take (off+i) ++ (vs ++ l.drop (off+i+vs.length))
 | [],i,off,l,_=>by simp
 | v :: vs,i,off,l,h=>by
  simp only [List.zipIdx_cons,List.foldl_cons];simp only [List.length_cons] at h;rw [foldl_set vs (i+1) off _ (by simp;omega)];apply List.ext_getElem?;intro j;rw [zdf _ _ _ _ (by simp;omega),zdf _ (v :: vs) _ _ (by simp;omega)];simp only [List.length_cons]
  by_cases h1:j < off+i
  ·rw [if_pos (by omega),if_pos h1,List.getElem?_set_ne (by omega)]
  ·rw [if_neg h1]
   by_cases h2:j=off+i
   ·subst h2
    rw [if_pos (by omega),if_pos (by omega),List.getElem?_set_self (by omega),Nat.sub_self];rfl
   ·rw [if_neg (by omega)]
    by_cases h3:j < off+i+(vs.length+1)
    ·rw [if_pos (by omega),if_pos h3,show j - (off+i)=(j - (off+(i+1)))+1 by omega,List.getElem?_cons_succ]
    ·rw [if_neg (by omega),if_neg h3,List.getElem?_set_ne (by omega)]
section
variable {E:Env} {P:Program} {T:Nat→Prop} {ρ:Rho} {S:St} {w:World} {tm:Tm} {a:Act}
theorem zlx {place:Nat→Option (Nat × Nat)} {pl:Nat→Option (Nat × Nat)} (hpl:∀ i,place i=pl i):∀ {ps:List (Nat × AV)} {vs:List (Nat × Value)} {l r:List AV} {cells:Array Value},zq3 pl ps l=some r →
  ps.map (·.1)=vs.map (·.1)→RVs ρ (ps.map (·.2)) (vs.map (·.2))→RVs ρ l cells.toList→∃ cs,Instr.fill place cells vs=some cs∧RVs ρ r cs.toList
 | [],[],l,r,cells,h,_,_,hl=>by cases h;exact ⟨cells,rfl,hl⟩
 | [],_ :: _,_,_,_,_,e,_,_=>by simp at e
 | _ :: _,[],_,_,_,_,e,_,_=>by simp at e
 | (i,v) :: ps,(j,V) :: vs,l,r,cells,h,e,hv,hl=>by
  simp only [List.map_cons,List.cons.injEq] at e;obtain ⟨e1,e2⟩:=e;obtain ⟨V',t,e3,h1,h2⟩:=hv;simp only [List.map_cons,List.cons.injEq] at e3;obtain ⟨e3,e4⟩:=e3;subst e3;subst e4;have e1':i=j:=e1;subst e1';unfold zq3 at h;obtain ⟨os,g1,h⟩:=zd h;obtain ⟨g2,h⟩:=zf h;obtain ⟨l',g3,hfin⟩:=zd h;have g2:=Nat.eq_of_beq_eq_true g2;obtain ⟨g4,g5⟩:=zr7 g3;have rc:=AV.cells_rv h1;have hlen:=rc.length;have hll:=hl.length;simp only [Array.length_toList] at hlen hll;obtain ⟨off,size⟩:=os;simp only at g2 g4 g5;have hnew:(V.cells.zipIdx.foldl (fun cs (c,j)=>cs.setIfInBounds (off+j) c) cells).toList=cells.toList.take off ++ (V.cells.toList ++ cells.toList.drop (off+V.cells.toList.length)):=by
   rw [← Array.foldl_toList,Array.toList_zipIdx];have key:∀ (q:List (Value × Nat)) (c:Array Value),(q.foldl (fun cs (p:Value × Nat)=>cs.setIfInBounds (off+p.2) p.1) c).toList=q.foldl (fun cs (p:Value × Nat)=>cs.set (off+p.2) p.1) c.toList:=by
    intro q
    induction q with
    | nil=>intro c;rfl
    | cons x q ih=>intro c;simp only [List.foldl_cons];rw [ih];simp
   refine (key _ _).trans ?_
   have:=foldl_set V.cells.toList 0 off cells.toList (by simp;omega);simpa using this
  have hl':RVs ρ l' (V.cells.zipIdx.foldl (fun cs (c,j)=>cs.setIfInBounds (off+j) c) cells).toList:=by
   rw [hnew,g5];refine (hl.take off).append (rc.append ?_);rw [rc.length];exact hl.drop _
  obtain ⟨cs,k1,k2⟩:=zlx hpl hfin e2 h2 hl';refine ⟨cs,?_,k2⟩;unfold Instr.fill;rw [hpl,g1];simp only;rw [if_neg (by simp;omega)];exact k1
theorem zqf (h:Pre E P T ρ S w tm a):∀ {ps:List (Nat × Operand)} {l:List (Nat × AV)},zh5 tm ps=some l→l.map (·.1)=(ps.map fun (i,x)=>(i,a.eval x)).map (·.1)∧RVs ρ (l.map (·.2)) ((ps.map fun (i,x)=>(i,a.eval x)).map (·.2))
 | [],l,hl=>by cases hl;exact ⟨rfl,rfl⟩
 | (i,x) :: ps,l,hl=>by
  unfold zh5 at hl;obtain ⟨v,h1,hl⟩:=zd hl;obtain ⟨r,h2,hl⟩:=zd hl;cases hl;obtain ⟨k1,k2⟩:=zqf h h2;refine ⟨by simp only [List.map_cons,k1],?_⟩;simp only [List.map_cons];exact ⟨_,_,rfl,zr h h1,k2⟩
theorem zug (henv:zaq E P):∀ {fs:List Field} {l:List (Nat × Nat)},zq4 E fs=some l→fs.mapM (fun f=>(P.info? f.type).map fun i=>(f.offset,i.size))=some l
 | [],l,h=>by cases h;rfl
 | f :: fs,l,h=>by
  unfold zq4 at h;obtain ⟨ti,h1,h⟩:=zd h;obtain ⟨r,h2,h⟩:=zd h;cases h;obtain ⟨i,k1,k2,_⟩:=(henv.ty _ _ h1).info;simp [List.mapM_cons,k1,k2,zug henv h2]
theorem zaad (h:Pre E P T ρ S w tm a) {dst:Option Tmp} {ty:Nat} {pos:String} {after:Array Edge} {guard:Option (Nat × Bool)} {t:Nat} {ps:Array (Nat × Operand)} {r:OpR}
  (hr:z0y t ps E P tm ⟨dst,.build t ps,ty,pos,after,guard⟩ S=some r):zb2 P T ρ S w a ⟨dst,.build t ps,ty,pos,after,guard⟩ r:=by
 unfold z0y zli at hr;obtain ⟨ti,hti,hr⟩:=zd hr;obtain ⟨z,hz,hr⟩:=zd hr;obtain ⟨l,hl,hr⟩:=zd hr;have ht:=h.env.ty _ _ hti;obtain ⟨p1,p2⟩:=zqf h hl;obtain ⟨zv,z1,z2⟩:=ht.zero z hz;obtain ⟨i,i1,i2,i3⟩:=ht.info;obtain ⟨Z,i4,i5⟩:=i3 zv z1;have hZ:RVs ρ z Z.cells.toList:=by rw [z2];exact AV.cells_rv (ze6 i5)
 have hu:=ht.und
 suffices hs:∃ v cells,r = .val (.agg v) S∧P.built t (ps.map fun (i,x)=>(i,a.eval x)).toList=some cells∧RVs ρ v cells.toList by
  obtain ⟨v,cells,e1,e2,e3⟩:=hs;rw [e1];intro _ _;exact zao h (V:=.agg cells) (by simp only [execOp,Sem.run_bind,run_build w t _ cells e2,Result.andThen_ok];rfl) ⟨cells,rfl,e3⟩
 split at hr
 ·rename_i fs hd
  obtain ⟨pl,hpl,hr⟩:=zd hr;obtain ⟨v,hv,hr⟩:=zd hr;cases hr;rw [hd] at hu;have hp:=zug h.env hpl;obtain ⟨cs,c1,c2⟩:=zlx (place:=(pl.toArray[·]?)) (fun i=>by rw [zb1];simp) hv (vs:=(ps.map fun (i,x)=>(i,a.eval x)).toList) (by rw [Array.toList_map];exact p1) (by rw [Array.toList_map];exact p2) hZ;refine ⟨v,cs,rfl,?_,c2⟩;unfold Program.built;simp only [i1,hu,i4,hp];exact c1
 ·rename_i n e hd
  obtain ⟨te,hte,hr⟩:=zd hr;obtain ⟨v,hv,hr⟩:=zd hr;cases hr;rw [hd] at hu;obtain ⟨ie,e1,e2,_⟩:=(h.env.ty _ _ hte).info;obtain ⟨cs,c1,c2⟩:=zlx (place:=fun i=>some (i * ie.size,ie.size)) (fun i=>by rw [e2];rfl) hv (vs:=(ps.map fun (i,x)=>(i,a.eval x)).toList) (by rw [Array.toList_map];exact p1) (by rw [Array.toList_map];exact p2) hZ;refine ⟨v,cs,rfl,?_,c2⟩;unfold Program.built;simp only [i1,hu,i4,e1];exact c1
 ·cases hr
theorem zfx {α:Type} (n:Nat) (z:List α):(zdl n z).length=n * z.length:=by
 induction n with
 | zero=>rw [show zdl 0 z=[] from rfl];simp
 | succ n ih =>
  have:zdl (n+1) z=z ++ zdl n z:=rfl;rw [this,List.length_append,ih,Nat.succ_mul];omega
theorem z31 {α:Type}:∀ (n:Nat) (z:List α) (i:Nat),i < n * z.length→(zdl n z)[i]? = z[i % z.length]?
 | 0,z,i,h=>by simp at h
 | n+1,z,i,h=>by
  have:zdl (n+1) z=z ++ zdl n z:=rfl;rw [this,List.getElem?_append];have hz:0 < z.length:=by rcases Nat.eq_zero_or_pos z.length with h0 | h0;rw [h0] at h;omega;exact h0
  split
  ·rename_i hlt;rw [Nat.mod_eq_of_lt hlt]
  ·rename_i hge
   have e:=Nat.mod_eq_sub_mod (a:=i) (b:=z.length) (by omega);rw [z31 n z (i - z.length) (by rw [Nat.add_mul,Nat.one_mul] at h;omega),e]
theorem zrg {n m:Nat} {z:List AV} {Z:Array Value} (hz:RVs ρ z Z.toList) (hm:m=n * z.length):RVs ρ (zdl n z) ((Array.range m).map (Z[· % Z.size]!)).toList:=by
 have hl:=hz.length;simp only [Array.length_toList] at hl;refine RVs.of (by simp [zfx,hm]) fun i x hi=>?_
 have hlt:i < n * z.length:=by
  rcases Nat.lt_or_ge i (n * z.length) with h | h
  ·exact h
  ·rw [List.getElem?_eq_none (by rw [zfx];exact h)] at hi;cases hi
 rw [z31 n z i hlt] at hi;obtain ⟨V,h1,h2⟩:=hz.at hi;refine ⟨V,?_,h2⟩;have hpos:0 < z.length:=by rcases Nat.eq_zero_or_pos z.length with h0 | h0;rw [h0] at hlt;omega;exact h0
 have hmod:i % z.length < Z.size:=by rw [hl];exact Nat.mod_lt _ hpos
 simp only [Array.toList_map,Array.toList_range,List.getElem?_map];rw [List.getElem?_range (by omega)];simp only [Option.map_some,hl];rw [← hl] at hmod;have h1':Z[i % z.length]? = some V:=by simpa using h1
 simp [← hl] at h1' hmod ⊢;rw [getElem!_pos Z _ hmod];exact (Array.getElem?_eq_some_iff.1 h1').2
theorem zyg (h:Pre E P T ρ S w tm a) {dst:Option Tmp} {ty:Nat} {pos:String} {after:Array Edge} {guard:Option (Nat × Bool)} {t len:Nat} {ps:Array (Nat × Operand)} {r:OpR}
  (hr:zkt t len ps E P tm ⟨dst,.buildSlice t len ps,ty,pos,after,guard⟩ S=some r):zb2 P T ρ S w a ⟨dst,.buildSlice t len ps,ty,pos,after,guard⟩ r:=by
 unfold zkt ze3 at hr;obtain ⟨ti,hti,hr⟩:=zd hr;obtain ⟨e,he,hr⟩:=zd hr;obtain ⟨te,hte,hr⟩:=zd hr;obtain ⟨z,hz,hr⟩:=zd hr;obtain ⟨hzl,hr⟩:=zf hr;obtain ⟨hmx,hr⟩:=zf hr;obtain ⟨l,hl,hr⟩:=zd hr;obtain ⟨v,hv,hr⟩:=zd hr;rw [St.alloc_eq] at hr;cases hr;intro _ hf;have hf':=zdn hf;have ht:=zbh (w:=w) (h.env.ty _ _ hti);rw [zbb he] at ht;have hs:=zb5 (w:=w) (h.env.ty _ _ hte);have hzl:=Nat.eq_of_beq_eq_true hzl;have hmx:len * te.size≤65536:=Nat.le_of_ble_eq_true hmx;obtain ⟨Z,z1,z2⟩:=zir (h.env.ty _ _ hte) hz ρ w;obtain ⟨p1,p2⟩:=zqf h hl;have hZl:=z2.length;simp only [Array.length_toList] at hZl
 by_cases h0:len * te.size=0
 ·have hr0:RVs ρ (zdl len z) ((Array.range (len * te.size)).map ((#[]:Array Value)[· % (#[]:Array Value).size]!)).toList:=by
   have:zdl len z=[]:=List.length_eq_zero_iff.1 (by rw [zfx,hzl,h0]);rw [this,h0];have e0:((Array.range 0).map ((#[]:Array Value)[· % (#[]:Array Value).size]!)).toList=[]:=by simp
   rw [e0];rfl
  obtain ⟨cs,c1,c2⟩:=zlx (place:=fun i=>some (i * te.size,te.size)) (fun i=>rfl) hv (vs:=(ps.map fun (i,x)=>(i,a.eval x)).toList) (by rw [Array.toList_map];exact p1) (by rw [Array.toList_map];exact p2) hr0;refine ⟨.slice (some ⟨w.heap.size,0,none⟩) len len,_,_,.inl ?_,zqd h.fit e c2 hf',⟨_,0,zac _ _ _,rfl,Nat.le_refl _,.inr rfl⟩⟩;simp only [h0] at c1;simp [execOp,Instr.buildSlice,ht,hs,h0,newRow,newObj];simp at c1;simp [c1,Sem.run]
 ·have hr1:RVs ρ (zdl len z) ((Array.range (len * te.size)).map (Z.cells[· % Z.cells.size]!)).toList:=zrg z2 (by rw [hzl])
  obtain ⟨cs,c1,c2⟩:=zlx (place:=fun i=>some (i * te.size,te.size)) (fun i=>rfl) hv (vs:=(ps.map fun (i,x)=>(i,a.eval x)).toList) (by rw [Array.toList_map];exact p1) (by rw [Array.toList_map];exact p2) hr1;refine ⟨.slice (some ⟨w.heap.size,0,none⟩) len len,_,_,.inl ?_,zqd h.fit e c2 hf',⟨_,0,zac _ _ _,rfl,Nat.le_refl _,.inr rfl⟩⟩;have hgt:¬ len * te.size > 2 ^ 24:=by omega
  have hgt':¬ 16777216 < len * te.size:=by omega
  simp [execOp,Instr.buildSlice,ht,hs,hgt',newRow,newObj];rw [if_neg (by simpa using h0)];simp [z1];simp at c1;simp [c1,Sem.run]
end
section
variable {E:Env} {P:Program} {T:Nat→Prop} {ρ:Rho} {S:St} {w:World} {tm:Tm} {a:Act}
section
variable {dst:Option Tmp} {ty:Nat} {pos:String} {after:Array Edge} {guard:Option (Nat × Bool)}
theorem z32 (h:Pre E P T ρ S w tm a) {x:Operand} {r:OpR} (hr:zie S (opd tm x)=some r):zb2 P T ρ S w a ⟨dst,.move x,ty,pos,after,guard⟩ r∧zb2 P T ρ S w a ⟨dst,.assign x,ty,pos,after,guard⟩ r:=by
 unfold zie at hr;obtain ⟨v,hv,hr⟩:=zd hr;cases hr;exact ⟨fun _ _=>zao h (V:=a.eval x) (by simp [execOp]) (zr h hv),fun _ _=>zao h (V:=a.eval x) (by simp [execOp]) (zr h hv)⟩
theorem zacq (h:Pre E P T ρ S w tm a) {c x y:Operand} {r:OpR} (hr:zq5 c x y E P tm ⟨dst,.pick c x y,ty,pos,after,guard⟩ S=some r):zb2 P T ρ S w a ⟨dst,.pick c x y,ty,pos,after,guard⟩ r:=by
 unfold zq5 at hr;obtain ⟨u,hu,hr⟩:=zd hr;obtain ⟨b,hb,hr⟩:=zd hr;unfold zie at hr;obtain ⟨v,hv,hr⟩:=zd hr;cases hr;have ru:=zr h hu;rw [z1b hb] at ru;have hX:a.eval c = .bool b:=ru;intro _ _;rw [zx] at hv;cases b with
 | true=>exact zao h (V:=a.eval x) (by simp [execOp,hX,asBool]) (zr h (by simpa using hv))
 | false=>exact zao h (V:=a.eval y) (by simp [execOp,hX,asBool]) (zr h (by simpa using hv))
theorem z2w (h:Pre E P T ρ S w tm a) {x:Operand} {r:OpR} (hr:zv5 x E P tm ⟨dst,.nilCheck x,ty,pos,after,guard⟩ S=some r):zb2 P T ρ S w a ⟨dst,.nilCheck x,ty,pos,after,guard⟩ r:=by
 unfold zv5 at hr;obtain ⟨v,hv,hr⟩:=zd hr;obtain ⟨h1,hr⟩:=zf hr;cases hr;intro _ _;have rv:=zr h hv;refine zao h (V:=a.eval x) ?_ rv;cases v<;>first | (cases h1;done) | skip
 ·obtain ⟨L,_,hX⟩:=rv;simp [execOp,hX]
 ·obtain ⟨L,o',_,hX,_⟩:=rv;simp [execOp,hX]
 ·obtain ⟨L,o',c,_,hX,_⟩:=rv;simp [execOp,hX]
 ·obtain ⟨L,_,hX⟩:=rv;simp [execOp,hX]
 ·obtain ⟨as,bs,hX,_⟩:=rv;simp [execOp,hX]
 ·obtain ⟨L,_,hX⟩:=rv;simp [execOp,hX]
theorem zafe (h:Pre E P T ρ S w tm a) {op:UnOp} {t:Nat} {x:Operand} {r:OpR} (hr:oUn op t x E P tm ⟨dst,.unOp op t x,ty,pos,after,guard⟩ S=some r):zb2 P T ρ S w a ⟨dst,.unOp op t x,ty,pos,after,guard⟩ r:=by
 unfold oUn at hr;obtain ⟨u,hu,hr⟩:=zd hr
 rcases zbo hr with hr | hr
 ·unfold zie at hr
  obtain ⟨v,hv,hr⟩:=zd hr;cases hr;intro _ _;unfold zabj at hv
  split at hv
  ·obtain ⟨b,hb,hv⟩:=zd hv
   have ru:=zr h hu;rw [z1b hb] at ru;have hX:a.eval x = .bool b:=ru;rw [zqb hv];exact zao h (V:=.bool !b) (by simp [execOp,hX,Op.unary]) rfl
  ·cases hv
 ·exact pure_ok h hr
theorem z2x (h:Pre E P T ρ S w tm a) {f:Fn} {fs cs:Array Operand} {r:OpR} (hr:zgk f fs cs E P tm ⟨dst,.makeFunc f fs cs,ty,pos,after,guard⟩ S=some r):zb2 P T ρ S w a ⟨dst,.makeFunc f fs cs,ty,pos,after,guard⟩ r:=by
 unfold zgk at hr;obtain ⟨n,hn,hr⟩:=zd hr;obtain ⟨l1,h1,hr⟩:=zd hr;obtain ⟨l2,h2,hr⟩:=zd hr;cases hr;intro _ _;have ef:f = .func n:=by
  unfold fnOf at hn
  split at hn
  ·cases hn;rfl
  ·cases hn
 subst ef;exact zao h (V:=.func (.func n) (fs.map a.eval) (cs.map a.eval)) (by simp [execOp,Instr.makeFunc]) ⟨_,_,rfl,by simpa using zrf h h1,by simpa using zrf h h2⟩
theorem z5j (h:Pre E P T ρ S w tm a) {x:Operand} {i:Nat} {r:OpR} (hr:zhc x i E P tm ⟨dst,.extract x i,ty,pos,after,guard⟩ S=some r):zb2 P T ρ S w a ⟨dst,.extract x i,ty,pos,after,guard⟩ r:=by
 unfold zhc at hr;obtain ⟨u,hu,hr⟩:=zd hr;unfold zie at hr;obtain ⟨v,hv,hr⟩:=zd hr;cases hr;intro _ _;unfold zxl at hv;obtain ⟨l,hl,hv⟩:=zd hv;have ru:=zr h hu;rw [z7r hl] at ru;obtain ⟨vs,hX,hvs⟩:=ru;rw [zb1] at hv;obtain ⟨V,h1,h2⟩:=hvs.at hv;have h1':vs[i]? = some V:=by simpa using h1
 exact zao h (V:=V) (by simp [execOp,hX,Instr.extract,h1']) h2
theorem z33 (h:Fit ρ S T w) (hf:ρ S.next=none):Stp ρ S T w (zed ρ S.next ⟨w.heap.size,0,0,fun _=>true⟩) (S.alloced (.map [] 0)) { w with heap:=w.heap.push (.map #[] 0) } :=
 zdx h hf rfl ⟨#[],rfl,rfl⟩
theorem z5k (h:Pre E P T ρ S w tm a) {t:Nat} {x:Option Operand} {r:OpR} (hr:zhb t x E P tm ⟨dst,.makeMap t x,ty,pos,after,guard⟩ S=some r):zb2 P T ρ S w a ⟨dst,.makeMap t x,ty,pos,after,guard⟩ r:=by
 unfold zhb at hr;cases x with
 | none =>
  have hr':(S.alloc (.map [] 0) fun n S=>some (OpR.val (.map n) S))=some r:=hr;rw [St.alloc_eq] at hr';cases hr';intro _ hf;exact ⟨.map (some w.heap.size),_,_,.inl (by simp [execOp,Instr.makeMap,newObj,Sem.run]),z33 h.fit (zdn hf),⟨_,zac _ _ _,rfl⟩⟩
 | some x =>
  obtain ⟨ke,hm,hr⟩:=zd hr;obtain ⟨v,hv,hr⟩:=zd hr;obtain ⟨n,hn,hr⟩:=zd hr;rw [St.alloc_eq] at hr;cases hr;intro _ hf;unfold zf2 at hm;obtain ⟨ti,hti,hm⟩:=zd hm;have ht:=zbh (w:=w) (h.env.ty _ _ hti)
  split at hm
  ·rename_i k e hd
   rw [hd] at ht;obtain ⟨kk,hk⟩:=zdd hn;have rv:=zr h hv;rw [hk] at rv;have hX:a.eval x = .int kk n:=rv;exact ⟨.map (some w.heap.size),_,_,.inl (by simp [execOp,Instr.makeMap,ht,hX,asInt,asIntOf,newObj,Sem.run]),z33 h.fit (zdn hf),⟨_,zac _ _ _,rfl⟩⟩
  ·cases hm
theorem z1g (h:Pre E P T ρ S w tm a) {t:Nat} {x y:Operand} {r:OpR} (hr:zfl t x y E P tm ⟨dst,.makeSlice t x y,ty,pos,after,guard⟩ S=some r):zb2 P T ρ S w a ⟨dst,.makeSlice t x y,ty,pos,after,guard⟩ r:=by
 unfold zfl at hr;obtain ⟨u,hu,hr⟩:=zd hr;obtain ⟨v,hv,hr⟩:=zd hr;unfold zr5 at hr;obtain ⟨l,hl,hr⟩:=zd hr;obtain ⟨c,hc,hr⟩:=zd hr;obtain ⟨ti,hti,hr⟩:=zd hr;obtain ⟨e,he,hr⟩:=zd hr;obtain ⟨te,hte,hr⟩:=zd hr;obtain ⟨z,hz,hr⟩:=zd hr;obtain ⟨h1,hr⟩:=zf hr;obtain ⟨h2,hr⟩:=zf hr;obtain ⟨h2b,hr⟩:=zf hr;obtain ⟨h3,hr⟩:=zf hr;simp only [St.alloc_eq,zan] at hr;cases hr;intro _ hf;have hf':=zdn hf;have h1:l≤c:=Nat.le_of_ble_eq_true h1;have h2:c≤65536:=Nat.le_of_ble_eq_true h2;have h2b:te.bytes≤65536:=Nat.le_of_ble_eq_true h2b;have h3:=Nat.eq_of_beq_eq_true h3;have ht:=zbh (w:=w) (h.env.ty _ _ hti);rw [zbb he] at ht;have hte':=h.env.ty _ _ hte;have hs:=zb5 (w:=w) hte';obtain ⟨i,i1,i2,i3⟩:=hte'.info;have hb:=hte'.bytes i i1;have hti2:(typeInfo e).run P w = .ok i w:=by simp [typeInfo,program,Sem.run,i1]
 obtain ⟨k1,e1⟩:=zdd hl;obtain ⟨k2,e2⟩:=zdd hc;have ru:=zr h hu;have rv:=zr h hv;rw [e1] at ru;rw [e2] at rv;have hX:a.eval x = .int k1 l:=ru;have hY:a.eval y = .int k2 c:=rv;obtain ⟨Z,z1,z2⟩:=zir hte' hz ρ w;have w1:IntKind.i64.wrap (l:Int)=l:=IntWalk.i64_in _ (by omega);have w2:IntKind.i64.wrap (c:Int)=c:=IntWalk.i64_in _ (by omega);have hmul:i.bytes * c≤4294967296:=by rw [hb];exact Nat.mul_le_mul h2b h2
 have hmul2:c * i.bytes≤4294967296:=by rw [Nat.mul_comm];exact hmul
 have hmul3:(i.bytes:Int) * (c:Int)≤4294967296:=by rw [← Int.natCast_mul];exact Int.ofNat_le.2 hmul
 have hcells:∀ (zc:Array Value),(c * te.size=0→zc = #[])→(c * te.size≠0→zc=Z.cells)→RVs ρ (zdl c z) ((Array.range (c * te.size)).map (zc[· % zc.size]!)).toList:=fun zc q1 q2=>by
  by_cases h0:c * te.size=0
  ·have:zdl c z=[]:=List.length_eq_zero_iff.1 (by rw [zfx,h3,h0])
   have e0:((Array.range (c * te.size)).map (zc[· % zc.size]!)).toList=[]:=by rw [h0];simp
   rw [this,e0];rfl
  ·rw [q2 h0];exact zrg z2 (by rw [h3])
 have room:¬ c * i.bytes > roomBytes:=by unfold roomBytes;omega
 obtain ⟨zc,hz1,hz2⟩:∃ zc:Array Value,(c * te.size=0→zc = #[])∧(c * te.size≠0→zc=Z.cells):=by
  by_cases h0:c * te.size=0
  ·exact ⟨#[],fun _=>rfl,fun q=>absurd h0 q⟩
  ·exact ⟨Z.cells,fun q=>absurd q h0,fun _=>rfl⟩
 refine ⟨.slice (some ⟨w.heap.size,0,none⟩) l c,_,_,.inl ?_,zqd h.fit e (hcells zc hz1 hz2) hf',⟨_,0,zac _ _ _,rfl,h1,.inr rfl⟩⟩;have p48:(2:Int) ^ 48=281474976710656:=rfl;have t1:(decide ((c:Int) < 0) || decide ((i.bytes:Int) * c > 281474976710656))=false:=Bool.or_eq_false_iff.2 ⟨decide_eq_false (by omega),decide_eq_false (by omega)⟩;have t2:decide ((l:Int) < 0)=false:=decide_eq_false (by omega);have t3:decide ((l:Int) > c)=false:=decide_eq_false (by omega);have room':(askRoom (c * i.bytes)).run P w = .ok () w:=by unfold askRoom;rw [if_neg room];rfl
 simp only [execOp,Instr.makeSlice,Sem.run_bind,ht,hX,hY,asInt,asIntOf,Result.andThen_ok,Sem.run_pure,hti2,w1,w2,p48,t1,t2,t3,Bool.or_false,Bool.false_eq_true,if_false,Int.toNat_natCast,room',hs]
 by_cases h0:c * te.size=0
 ·rw [hz1 h0,h0]
  simp [newRow,newObj,Sem.run]
 ·rw [hz2 h0,if_neg h0]
  simp only [Sem.run_bind,z1,Result.andThen_ok,Sem.run_pure];simp [newRow,newObj,Sem.run]
end
end
theorem zacr (v:AV) (k:AV→Option OpR):z90 v k=k v:=by
 cases v<;>simp only [z90,zan]
theorem zgm (S:St) (v:AV):zjn S v=some (.val v S):=zacr v _
def BO (X:Option Value) (d y i:Nat):Prop:=(X=none∧i=d)∨∃ k,X=some (.int k i)∧i≤y
section
variable {E:Env} {P:Program} {T:Nat→Prop} {ρ:Rho} {S:St} {w:World} {tm:Tm} {a:Act}
theorem zyh {k:IntKind} {i y:Nat} (c:BoundsCode) (h:i≤y):(Instr.sliceBound (.int k i) y c).run P w = .ok i w:=by
 have h':(i:Int)≤y:=by omega
 simp [Instr.sliceBound,asIntOf,h']
theorem z7x {b:Bool} {len cap l h m:Nat} {lo hi mx:Option Value} (hm:BO mx cap cap m) (hh:BO hi len m h) (hl:BO lo 0 h l) (hhm:mx.isSome=true→hi.isSome=true) :
  (Instr.sliceBounds b len cap lo hi mx).run P w = .ok (l,h,m) w:=by
 rcases hm with ⟨rfl,rfl⟩ | ⟨k1,rfl,h1⟩<;>rcases hh with ⟨rfl,rfl⟩ | ⟨k2,rfl,h2⟩<;>rcases hl with ⟨rfl,rfl⟩ | ⟨k3,rfl,h3⟩ <;>
  first
   | (simp at hhm;done)
   | simp [Instr.sliceBounds, *,zyh]
theorem z5l (h:Pre E P T ρ S w tm a) {x:Option Operand} {v:Option AV} (hx:zv0 tm x=some v) {d y i:Nat} (hb:zcq v d=some i) (hy:v≠none→i≤y):BO (x.map a.eval) d y i∧((x.map a.eval).isSome = !isNone v):=by
 cases x with
 | none =>
  have hx':some none=some v:=hx;cases hx';cases hb;exact ⟨.inl ⟨rfl,rfl⟩,rfl⟩
 | some x =>
  have hx':bnd (opd tm x) (fun a=>some (some a))=some v:=hx;obtain ⟨u,hu,hx'⟩:=zd hx';cases hx';have hb':zgv u=some i:=hb;obtain ⟨k,hk⟩:=zdd hb';have ru:=zr h hu;rw [hk] at ru;have hX:a.eval x = .int k i:=ru;exact ⟨.inr ⟨k,by simp [hX],hy (by simp)⟩,rfl⟩
theorem zacs {hi mx:Option AV} {HI MX:Option Value} (h:zsz hi mx=true) (h1:HI.isSome = !isNone hi) (h2:MX.isSome = !isNone mx):MX.isSome=true→HI.isSome=true:=by
 unfold zsz at h;rw [zx] at h;intro hm;rw [hm] at h2;cases hmx:isNone mx with
 | true=>rw [hmx] at h2;cases h2
 | false =>
  rw [hmx] at h;rw [h1];simpa using h
theorem zrh {n off l h m sz:Nat} {L:Loc} {o' cap:Nat} (hL:ρ n=some L) (ho:cap=0∨o'=L.s+off) (hlh:l≤h) (hhm:h≤m) (hm:m≤cap) :
  RV ρ (z5c n off l h m sz) (.slice (some (if m=l then (⟨L.b,o',none⟩:Addr) else (⟨L.b,o',none⟩:Addr).add (l * sz))) (h - l) (m - l)):=by
 unfold z5c;rw [zx]
 by_cases e:m=l
 ·have e':Nat.beq m l=true:=by rw [e];simp
  rw [if_pos e',if_pos e];have h1:Nat.sub h l=0:=by show h - l=0;omega
  have h2:Nat.sub m l=0:=by show m - l=0;omega
  have h3:h - l=0:=h1;have h4:m - l=0:=h2;rw [h1,h2,h3,h4];exact ⟨L,o',hL,rfl,Nat.le_refl _,.inl rfl⟩
 ·have e':¬ Nat.beq m l=true:=fun q=>e (Nat.eq_of_beq_eq_true q)
  rw [if_neg e',if_neg e,zde];refine ⟨L,o'+l * sz,hL,rfl,by show h - l≤m - l;omega,.inr ?_⟩
  rcases ho with ho | ho
  ·omega
  ·rw [ho];show L.s+off+l * sz=L.s+(off+l * sz);omega
theorem zfy {n off len cap sz:Nat} {lo hi mx:Option AV} {r:OpR} (hr:zec S n off len cap sz lo hi mx=some r):∃ l h m,zcq mx cap=some m∧zcq hi len=some h∧zcq lo 0=some l∧zsz hi mx=true∧m≤cap∧h≤m∧l≤h∧r = .val (z5c n off l h m sz) S:=by
 unfold zec at hr;obtain ⟨m,h1,hr⟩:=zd hr;obtain ⟨h,h2,hr⟩:=zd hr;obtain ⟨l,h3,hr⟩:=zd hr;obtain ⟨h4,hr⟩:=zf hr;obtain ⟨h5,hr⟩:=zf hr;obtain ⟨h6,hr⟩:=zf hr;obtain ⟨h7,hr⟩:=zf hr;rw [zgm] at hr;cases hr;exact ⟨l,h,m,h1,h2,h3,h4,Nat.le_of_ble_eq_true h5,Nat.le_of_ble_eq_true h6,Nat.le_of_ble_eq_true h7,rfl⟩
theorem zaae (h:Pre E P T ρ S w tm a) {dst:Option Tmp} {ty:Nat} {pos:String} {after:Array Edge} {guard:Option (Nat × Bool)} {t:Nat} {x:Operand} {lo hi mx:Option Operand} {r:OpR}
  (hr:zll t x lo hi mx E P tm ⟨dst,.slice t x lo hi mx,ty,pos,after,guard⟩ S=some r):zb2 P T ρ S w a ⟨dst,.slice t x lo hi mx,ty,pos,after,guard⟩ r:=by
 unfold zll at hr;obtain ⟨u,hu,hr⟩:=zd hr;obtain ⟨vl,hvl,hr⟩:=zd hr;obtain ⟨vh,hvh,hr⟩:=zd hr;obtain ⟨vm,hvm,hr⟩:=zd hr
 rcases zbo hr with hr | hr
 case inr=>exact pure_ok h hr
 unfold zq2 at hr;obtain ⟨ti,hti,hr⟩:=zd hr;have ht:=zbh (w:=w) (h.env.ty _ _ hti);have ru:=zr h hu;have bounds:∀ (b:Bool) (len cap C l q m:Nat),zcq vm C=some m→zcq vh len=some q→zcq vl 0=some l→zsz vh vm=true→(vm≠none→m≤C)→(vh≠none→q≤m)→l≤q→C=cap →
   (Instr.sliceBounds b len cap (lo.map a.eval) (hi.map a.eval) (mx.map a.eval)).run P w = .ok (l,q,m) w:=fun b len cap C l q m b1 b2 b3 b4 b5 b6 b7 b8=>by
  subst b8;obtain ⟨c1,d1⟩:=z5l h hvm b1 b5;obtain ⟨c2,d2⟩:=z5l h hvh b2 b6;obtain ⟨c3,d3⟩:=z5l h hvl b3 (fun _=>b7);exact z7x c1 c2 c3 (zacs b4 d2 d1)
 split at hr
 ·rename_i e hd
  rw [hd] at ht;obtain ⟨te,hte,hr⟩:=zd hr;have hs:=zb5 (w:=w) (h.env.ty _ _ hte);clear hti;cases u with
  | nils =>
   have hr:(bnd (zcq vm 0) fun m=>bnd (zcq vh 0) fun h=>bnd (zcq vl 0) fun l=>zk (zsz vh vm) (zk (Nat.beq m 0) (zk (Nat.beq h 0) (zk (Nat.beq l 0) (some (OpR.val .nils S)) none) none) none) none)=some r:=hr;obtain ⟨m,b1,hr⟩:=zd hr;obtain ⟨q,b2,hr⟩:=zd hr;obtain ⟨l,b3,hr⟩:=zd hr;obtain ⟨b4,hr⟩:=zf hr;obtain ⟨c1,hr⟩:=zf hr;obtain ⟨c2,hr⟩:=zf hr;obtain ⟨c3,hr⟩:=zf hr;cases hr;have c1:=Nat.eq_of_beq_eq_true c1;have c2:=Nat.eq_of_beq_eq_true c2;have c3:=Nat.eq_of_beq_eq_true c3;subst c1;subst c2;subst c3;intro _ _;have hX:a.eval x = .slice none 0 0:=ru;have hb:=bounds true 0 0 0 0 0 0 b1 b2 b3 b4 (fun _=>Nat.le_refl _) (fun _=>Nat.le_refl _) (Nat.le_refl _) rfl;exact zao h (V:=.slice none 0 0) (by simp [execOp,Instr.sliceAt,Instr.slice,ht,hX,hb,hs]) rfl
  | sl n off len cap =>
   have hr:zec S n off len cap te.size vl vh vm=some r:=hr;obtain ⟨l,q,m,b1,b2,b3,b4,b5,b6,b7,e1⟩:=zfy hr;rw [e1];intro _ _;obtain ⟨L,o',hL,hX,hc,ho⟩:=ru;have hb:=bounds true len cap cap l q m b1 b2 b3 b4 (fun _=>b5) (fun _=>b6) b7 rfl;exact zao h (V:=.slice (some (if m=l then (⟨L.b,o',none⟩:Addr) else (⟨L.b,o',none⟩:Addr).add (l * te.size))) (q - l) (m - l)) (by
    simp only [execOp,Instr.sliceAt,Instr.slice,ht,hX,hb,hs,Sem.run_bind,Result.andThen_ok,Sem.run_pure]
    congr 3
    split<;>rfl) (zrh hL ho b7 b6 b5)
  | slo n off len sz' =>
   have hr:zk (Nat.beq te.size sz') (zk (Nat.ble 1 te.size) (zk (isNone vm) (zh4 S n off len te.size vl vh) (zec S n off len len te.size vl vh vm)) none) none=some r:=hr;obtain ⟨hsz,hr⟩:=zf hr;obtain ⟨hsz1,hr9⟩:=zf hr;have hsz:=Nat.eq_of_beq_eq_true hsz;have hsz1:1≤te.size:=Nat.le_of_ble_eq_true hsz1;rw [← hsz] at ru;clear hr hsz;obtain ⟨L,o',cap,hL,hX,hc,hk,ho⟩:=ru;rw [zx] at hr9
   by_cases hmn:isNone vm=true
   ·rw [if_pos hmn] at hr9
    have hmn:=z7s hmn;subst hmn;have hr:zh4 S n off len te.size vl vh=some r:=hr9;unfold zh4 at hr;obtain ⟨q,b2,hr⟩:=zd hr;obtain ⟨l,b3,hr⟩:=zd hr;obtain ⟨b7,hr⟩:=zf hr;have b7:l≤q:=Nat.le_of_ble_eq_true b7;have fin:∀ S',q≤cap→r = .val (.slo n (Nat.add off (Nat.mul l te.size)) (Nat.sub q l) te.size) S'→Stp ρ S T w ρ S' w→zzj P T ρ S w a ⟨dst,.slice t x lo hi mx,ty,pos,after,guard⟩ (.slo n (Nat.add off (Nat.mul l te.size)) (Nat.sub q l) te.size) S':=fun S' hq _ hst=>by
     have hb:=bounds true len cap cap l q cap rfl b2 b3 rfl (fun _=>Nat.le_refl _) (fun _=>hq) b7 rfl;refine ⟨.slice (some (if cap=l then (⟨L.b,o',none⟩:Addr) else (⟨L.b,o',none⟩:Addr).add (l * te.size))) (q - l) (cap - l),w,ρ,.inl (by
      simp only [execOp,Instr.sliceAt,Instr.slice,ht,hX,hb,hs,Sem.run_bind,Result.andThen_ok,Sem.run_pure]
      congr 3
      split<;>rfl),hst,?_⟩
     have hmul:l * te.size+(cap - l) * te.size=cap * te.size:=by rw [← Nat.add_mul];congr 1;omega
     by_cases e:cap=l
     ·rw [if_pos e]
      exact ⟨L,o',cap - l,hL,rfl,by show q - l≤cap - l;omega,by show off+l * te.size+(cap - l) * te.size=L.k;omega,.inl (by omega)⟩
     ·rw [if_neg e,zde]
      refine ⟨L,o'+l * te.size,cap - l,hL,rfl,by show q - l≤cap - l;omega,by show off+l * te.size+(cap - l) * te.size=L.k;omega,.inr ?_⟩
      rcases ho with ho | ho
      ·omega
      ·rw [ho];show L.s+off+l * te.size=L.s+(off+l * te.size);omega
    rw [zx] at hr
    split at hr
    ·rename_i hql
     have hql:q≤len:=Nat.le_of_ble_eq_true hql;rw [zgm] at hr;cases hr;intro _ _;exact fin S (by omega) rfl (.refl h.fit)
    ·obtain ⟨o,g1,hr⟩:=zd hr
     obtain ⟨c,g2,hr⟩:=zd hr;obtain ⟨g3,hr⟩:=zf hr;rw [St.touch_eq,zgm] at hr;cases hr;intro hT _;have g3:q≤(c.length - off) / te.size:=Nat.le_of_ble_eq_true g3;obtain ⟨L',e1,e2⟩:=h.fit.obj n o (hT n (zg.2 (.inr (zl.2 rfl)))) g1;rw [hL] at e1;cases e1;rw [zbn g2] at e2;obtain ⟨cc,ee,_,_,q3,_⟩:=e2;have hq2:q * te.size≤c.length - off:=(Nat.le_div_iff_mul_le (by omega)).1 g3;have hq3:q * te.size≤cap * te.size:=by omega
     exact fin _ (Nat.le_of_mul_le_mul_right hq3 (by omega)) rfl (za0 h.fit n)
   ·rw [if_neg hmn] at hr9
    obtain ⟨l,q,m,b1,b2,b3,b4,b5,b6,b7,e1⟩:=zfy hr9;rw [e1];intro _ _;have hb1:zcq vm cap=some m:=by
     cases vm with
     | none=>exact absurd rfl hmn
     | some v=>exact b1
    have hb:=bounds true len cap cap l q m hb1 b2 b3 b4 (fun _=>by omega) (fun _=>b6) b7 rfl;exact zao h (V:=.slice (some (if m=l then (⟨L.b,o',none⟩:Addr) else (⟨L.b,o',none⟩:Addr).add (l * te.size))) (q - l) (m - l)) (by
     simp only [execOp,Instr.sliceAt,Instr.slice,ht,hX,hb,hs,Sem.run_bind,Result.andThen_ok,Sem.run_pure]
     congr 3
     split<;>rfl) (zrh hL ho b7 b6 (by omega))
  | _=>cases hr
 ·rename_i n e hd
  rw [hd] at ht;obtain ⟨te,hte,hr⟩:=zd hr;obtain ⟨p,hp,hr⟩:=zd hr;have hs:=zb5 (w:=w) (h.env.ty _ _ hte);obtain ⟨l,q,m,b1,b2,b3,b4,b5,b6,b7,e1⟩:=zfy hr;rw [e1];intro _ _;rw [zdc hp] at ru;obtain ⟨L,hL,hX⟩:=ru;have hb:=bounds false n n n l q m b1 b2 b3 b4 (fun _=>b5) (fun _=>b6) b7 rfl;exact zao h (V:=.slice (some (if m=l then (⟨L.b,L.s+p.2,none⟩:Addr) else (⟨L.b,L.s+p.2,none⟩:Addr).add (l * te.size))) (q - l) (m - l)) (by
   simp [execOp,Instr.sliceAt,ht,hX,hb,hs,Instr.sureAddr]) (zrh hL (.inr rfl) b7 b6 b5)
 ·rename_i e hd
  rw [hd] at ht;obtain ⟨ta,hta,hr⟩:=zd hr;obtain ⟨ne,hne,hr⟩:=zd hr;obtain ⟨te,hte,hr⟩:=zd hr;obtain ⟨p,hp,hr⟩:=zd hr;have hs:=zb5 (w:=w) (h.env.ty _ _ hte);have ht2:=zbh (w:=w) (h.env.ty _ _ hta);rw [zfw hne] at ht2;obtain ⟨l,q,m,b1,b2,b3,b4,b5,b6,b7,e1⟩:=zfy hr;rw [e1];intro _ _;rw [zdc hp] at ru;obtain ⟨L,hL,hX⟩:=ru;have hb:=bounds false ne.1 ne.1 ne.1 l q m b1 b2 b3 b4 (fun _=>b5) (fun _=>b6) b7 rfl;exact zao h (V:=.slice (some (if m=l then (⟨L.b,L.s+p.2,none⟩:Addr) else (⟨L.b,L.s+p.2,none⟩:Addr).add (l * te.size))) (q - l) (m - l)) (by
   simp [execOp,Instr.sliceAt,Instr.slice,ht,ht2,hX,hb,hs,asAddr]) (zrh hL (.inr rfl) b7 b6 b5)
 ·cases hr
end
section
variable {E:Env} {P:Program} {T:Nat→Prop} {ρ:Rho} {S:St} {w:World} {tm:Tm} {a:Act}
theorem z34 {v:AV} {V:Value} {n:Nat} (hv:RV ρ v V) (h:z5d v=some n) (w':World):(Builtin.lenOf V).run P w' = .ok n w':=by
 cases v<;>first | (cases h;done) | skip
 ·cases h;have e:V=_:=hv;subst e;rfl
 ·cases h;have e:V=_:=hv;subst e;rfl
 ·cases h;obtain ⟨L,o',_,e,_⟩:=hv;subst e;rfl
 ·cases h;obtain ⟨L,o',c,_,e,_⟩:=hv;subst e;rfl
theorem zxq (h:Fit ρ S T w) {v:AV} {V:Value} (hv:RV ρ v V) {sz k:Nat} {β:Type} {f:List AV→St→Option β} {r:β} (hr:zt5 S sz k v f=some r):∃ new S',f new S'=some r∧Lcl S S'∧S'.next=S.next∧new.length=k * sz ∧
  ((∀ n,bit S'.t n→T n)→Stp ρ S T w ρ S' w∧∃ vs:List Value,RVs ρ new vs∧∀ w',w'.heap=w.heap→(Builtin.firstCells sz k V).run P w' = .ok vs.toArray w'):=by
 have row:∀ n off len cap L o',RV ρ v V→ρ n=some L→V = .slice (some ⟨L.b,o',none⟩) len cap→len≤cap→(cap=0∨o'=L.s+off)→k≤len→rdN S n off (Nat.mul k sz) f=some r→∃ new S',f new S'=some r∧Lcl S S'∧S'.next=S.next∧new.length=k * sz ∧
   ((∀ n,bit S'.t n→T n)→Stp ρ S T w ρ S' w∧∃ vs:List Value,RVs ρ new vs∧∀ w',w'.heap=w.heap→(Builtin.firstCells sz k V).run P w' = .ok vs.toArray w'):=fun n off len cap L o' _ hL hX hc ho hk hr=>by
  obtain ⟨x,h1,h2,h3⟩:=zlu h hr;refine ⟨x,_,h2,zaf S n,rfl,h1,fun hT=>⟨za0 h n,?_⟩⟩;obtain ⟨L',hL',vs,k1,k2,k3⟩:=h3 (hT n (zg.2 (.inr (zl.2 rfl))));rw [hL] at hL';cases hL';refine ⟨vs,k2,fun w' hw=>?_⟩;have k4:=k3 o' (by
   rcases ho with ho | ho
   ·left;have:k=0:=by omega
    subst this;exact Nat.zero_mul _
   ·exact .inr ho)
  have:=run_loadCells_list (P:=P) w' (⟨L.b,o',none⟩:Addr) vs (fun j u hj=>by rw [← k4 j u hj];simp [World.cell?,hw]);rw [k1] at this;rw [hX];exact this
 cases v<;>first | (cases hr;done) | skip
 case str s =>
  obtain ⟨h1,hr⟩:=zf hr;obtain ⟨h2,hr9⟩:=zf hr;have h1:=Nat.eq_of_beq_eq_true h1;have h2:k≤s.size:=Nat.le_of_ble_eq_true h2;subst h1;have e:V = .string s:=hv;subst e;refine ⟨_,S,hr9,.refl S,rfl,?_,fun _=>⟨.refl h,(s.extract 0 k).data.toList.map fun b=>.int .u8 b.toNat,RVs.of (by simp) fun i x hi=>?_,fun w' _=>?_⟩⟩
  ·simp only [List.length_map,Array.length_toList,Nat.mul_one]
   have:(s.extract 0 k).data.size=(s.extract 0 k).size:=rfl;rw [this];simp;omega
  ·rw [List.getElem?_map] at hi ⊢
   cases hb:(s.extract 0 k).data.toList[i]? with
   | none=>rw [hb] at hi;cases hi
   | some b=>rw [hb] at hi;simp at hi;subst hi;exact ⟨_,rfl,rfl⟩
  ·simp [Builtin.firstCells]
   apply Array.ext';simp
 case nils =>
  obtain ⟨h1,hr9⟩:=zf hr;have h1:=Nat.eq_of_beq_eq_true h1;subst h1;have e:V=_:=hv;subst e;exact ⟨[],S,hr9,.refl S,rfl,by simp,fun _=>⟨.refl h,[],rfl,fun w' _=>rfl⟩⟩
 case sl n off len cap =>
  obtain ⟨h1,hr⟩:=zf hr;obtain ⟨L,o',hL,hX,hc,ho⟩:=hv;exact row n off len cap L o' ⟨L,o',hL,hX,hc,ho⟩ hL hX hc ho (Nat.le_of_ble_eq_true h1) hr
 case slo n off len sz' =>
  obtain ⟨h1,hr⟩:=zf hr;obtain ⟨L,o',cap,hL,hX,hc,hk,ho⟩:=hv;exact row n off len cap L o' ⟨L,o',cap,hL,hX,hc,hk,ho⟩ hL hX hc ho (Nat.le_of_ble_eq_true h1) hr
def z5m (P:Program) (t1 e size:Nat) (X:Value) (k:Nat) (vs:List Value) (w:World):Prop :=
 ((∃ d,P.underlying t1=some d∧zt6 d=false)∧(∀ w',(Builtin.lenOf X).run P w' = .ok k w')∧∀ w',w'.heap=w.heap→(Builtin.firstCells size k X).run P w' = .ok vs.toArray w') ∨
 ((∃ kk,P.underlying t1=some (.int kk))∧(∃ k2,X = .int k2 k)∧k≤65536∧(∃ i,P.info? e=some i∧i.bytes≤65536)∧∃ Z,(∀ w',(zeroValue e).run P w' = .ok Z w')∧vs=(Builtin.zeroCells Z.cells k).toList∧(k * size=0→vs=[]))
theorem zot {t0 t1 ty e:Nat} {te:TI} (ht:P.underlying t0=some (.slice e)) (hte:zku P e te) {X:Value} {k:Nat} {vs:List Value} (hx:z5m P t1 e te.size X k vs w) {base:Option Addr} {len cap:Nat} (hroom:len+k≤cap) :
  (Builtin.append_ #[t0,t1] ty #[.slice base len cap,X]).run P w=((match base with | some a=>storeCells (a.add (len * te.size)) vs | none=>pure ()).run P w).andThen fun _ w'=>.ok (.slice base (len+k) cap) w':=by
 have hs:=zb5 (w:=w) hte;have hu:(underlying t0).run P w = .ok (.slice e) w:=by simp [underlying,program,Sem.run,ht]
 rcases hx with ⟨⟨d,hd,hi⟩,hl,hc⟩ | ⟨⟨kk,hd⟩,⟨k2,rfl⟩,hk,⟨i,hi,hb⟩,Z,hz,hvs,hv0⟩
 ·have hu1:(underlying t1).run P w = .ok d w:=by simp [underlying,program,Sem.run,hd]
  have hc':=hc w rfl;cases d<;>first | (cases hi;done) | (cases base<;>simp [Builtin.append_,hu,hu1,hs,hl,hroom,hc',Result.andThen])
 ·have hu1:(underlying t1).run P w = .ok (.int kk) w:=by simp [underlying,program,Sem.run,hd]
  have w1:IntKind.i64.wrap (k:Int)=k:=IntWalk.i64_in _ (by omega);have ti:(typeInfo e).run P w = .ok i w:=by simp [typeInfo,program,Sem.run,hi]
  have n1:¬ ((k:Int) < 0):=by omega
  have m1:k * i.bytes≤4294967296:=Nat.mul_le_mul hk hb;have p48:(2:Int) ^ 48=281474976710656:=rfl;have m2:¬ ((k:Int) * (i.bytes:Int) > 281474976710656):=by rw [← Int.natCast_mul];omega
  have m2':¬ (281474976710656 < (k:Int) * (i.bytes:Int)):=m2
  by_cases h0:k * te.size=0
  ·have:=hv0 h0
   subst this;cases base<;>simp [Builtin.append_,hu,hu1,hs,ti,asInt,asIntOf,w1,n1,m2',hroom,Result.andThen]<;>rw [if_pos h0]
  ·have hz':=hz w
   cases base<;>simp [Builtin.append_,hu,hu1,hs,ti,asInt,asIntOf,w1,n1,m2',hroom,hz',hvs,Result.andThen]<;>rw [if_neg h0]
end
section
variable {E:Env} {P:Program} {T:Nat→Prop} {ρ:Rho} {S:St} {w:World} {tm:Tm} {a:Act}
theorem zs3 {t0 t1 ty e:Nat} {te:TI} (ht:P.underlying t0=some (.slice e)) (hte:zku P e te) (hby:te.bytes≤65536) {Z:Value} (hZ:∀ w',(zeroValue e).run P w' = .ok Z w') {X:Value} {k:Nat} {vs olds:List Value}
  (hx:z5m P t1 e te.size X k vs w) {base:Option Addr} {len cap:Nat} (hg:¬ len+k≤cap) (hn:len+k≤65536)
  (hold:∀ w',w'.heap=w.heap→(Builtin.firstCells te.size len (.slice base len cap)).run P w' = .ok olds.toArray w') :
  ∃ C,len+k≤C∧(Builtin.append_ #[t0,t1] ty #[.slice base len cap,X]).run P w = .ok (.slice (some ⟨w.heap.size,0,none⟩) (len+k) C)
   (w.drew.alloc (.cells (olds.toArray ++ vs.toArray ++ Builtin.zeroCells Z.cells (C - (len+k))) e)):=by
 have hs:=zb5 (w:=w) hte;have hu:(underlying t0).run P w = .ok (.slice e) w:=by simp [underlying,program,Sem.run,ht]
 obtain ⟨i,i1,i2,_⟩:=hte.info;have hb:=hte.bytes i i1;have tiD:∀ w',(typeInfo e).run P w' = .ok i w':=fun w'=>by simp [typeInfo,program,Sem.run,i1]
 have hcap:=Room.nextslicecap_le' (need:=len+k) (old:=cap) (by omega);have hfit:¬ (281474976710656 < Builtin.nextslicecap (len+k) cap * i.bytes):=by
  have:Builtin.nextslicecap (len+k) cap * i.bytes≤131072 * 65536:=Nat.mul_le_mul (by omega) (by omega);omega
 have h63:¬ (9223372036854775807 < ((len:Int)+(k:Int))):=by omega
 have hwD:w.drew.heap=w.heap:=rfl;refine ⟨grownCap w (len+k) cap e,grownCap_ge _ _ _ _,?_⟩;have hold':=hold _ hwD;have key:∀ q:Array Value,olds.toArray ++ (vs.toArray ++ q)=(olds ++ vs).toArray ++ q:=fun q=>by apply Array.ext';simp
 rcases hx with ⟨⟨d,hd,hi⟩,hl,hc⟩ | ⟨⟨kk,hd⟩,⟨k2,rfl⟩,hk,⟨i',hi',hb'⟩,Z',hz,hvs,hv0⟩
 ·have hu1:(underlying t1).run P w = .ok d w:=by simp [underlying,program,Sem.run,hd]
  have hc':=hc _ hwD;cases d<;>first
   | (cases hi;done)
   | (simp [Builtin.append_,hu,hu1,hs,hl,hg,h63,hfit,tiD,Question.forced,hold',hc',hZ,Result.andThen,askRoom,grownCap,newRow]
      rw [key];rfl)
 ·have hu1:(underlying t1).run P w = .ok (.int kk) w:=by simp [underlying,program,Sem.run,hd]
  have w1:IntKind.i64.wrap (k:Int)=k:=IntWalk.i64_in _ (by omega);have n1:¬ ((k:Int) < 0):=by omega
  have m1:k * i.bytes≤4294967296:=by rw [hb];exact Nat.mul_le_mul hk hby
  have m2':¬ (281474976710656 < (k:Int) * (i.bytes:Int)):=by rw [← Int.natCast_mul];omega
  have eZ:Z'=Z:=by
   have:=(hz w).symm.trans (hZ w);cases this;rfl
  subst eZ
  by_cases h0:k * te.size=0
  ·have:=hv0 h0
   subst this;simp [Builtin.append_,hu,hu1,hs,asInt,asIntOf,w1,n1,m2',hg,h63,hfit,tiD,Question.forced,hold',hZ,Result.andThen,askRoom,grownCap,newRow,if_pos h0];rfl
  ·simp [Builtin.append_,hu,hu1,hs,asInt,asIntOf,w1,n1,m2',hg,h63,hfit,tiD,Question.forced,hold',hZ,hvs,Result.andThen,askRoom,grownCap,newRow,if_neg h0]
   rfl
end
end Go.Proofs.YtnfdiohfojjnlaaGreat
