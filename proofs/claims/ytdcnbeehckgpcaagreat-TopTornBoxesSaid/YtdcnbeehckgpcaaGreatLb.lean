/-
  The evaluator is right, sixth part: nil, cells read and written, new cells, literals, places.
-/
import Derived.Test.YtdcnbeehckgpcaaGreatLa
import Derived.ArgAppend
import Derived.Room.Entries
set_option maxRecDepth 200000
set_option maxHeartbeats 0
namespace Go.Proofs.YtdcnbeehckgpcaaGreat
open Go.RowKit
section
variable{E:Env}{P:Program}{T:Nat→Prop}{ρ:Rho}{S:St}{w:World}{tm:Tm}{a:Act}
inductive NilPair:TypeDesc→Value→Value→Bool→Prop where
 |ptr1 (e q):NilPair (.pointer e) (.pointer none) (.pointer q) q.isNone
 |ptr2 (e p):NilPair (.pointer e) (.pointer (some p)) (.pointer none) false
 |sl1 (e q l c):NilPair (.slice e) (.slice none 0 0) (.slice q l c) q.isNone
 |sl2 (e p l c):NilPair (.slice e) (.slice (some p) l c) (.slice none 0 0) false
 |mp1 (k e q):NilPair (.map k e) (.map none) (.map q) q.isNone
 |mp2 (k e p):NilPair (.map k e) (.map (some p)) (.map none) false
 |fn0 (p r v):NilPair (.func p r v) .nilFunc .nilFunc true
 |fn1 (p r v f a b):NilPair (.func p r v) .nilFunc (.func f a b) false
 |fn2 (p r v f a b):NilPair (.func p r v) (.func f a b) .nilFunc false
theorem zaiu{d:TypeDesc}{x y:AV}{X Y:Value}{r:Bool}(hx:RV ρ x X)(hy:RV ρ y Y)(h1:z3g d x=true)(h2:z3g d y=true)(h:zaaq x y=some r):NilPair d X Y r:=by
 unfold zaaq at h
 split at h
 ·cases h;cases d<;>first|(cases h1;done)|skip
  have eX:X=_:=hx;have eY:Y=_:=hy;subst eX;subst eY;exact .ptr1 _ _
 ·cases h;cases d<;>first|(cases h1;done)|skip
  have eX:X=_:=hx;obtain⟨L,_,eY⟩:=hy;subst eX;subst eY;exact .ptr1 _ (some _)
 ·cases h;cases d<;>first|(cases h1;done)|skip
  obtain⟨L,_,eX⟩:=hx;have eY:Y=_:=hy;subst eX;subst eY;exact .ptr2 _ _
 ·cases h;cases d<;>first|(cases h1;done)|skip
  have eX:X=_:=hx;have eY:Y=_:=hy;subst eX;subst eY;exact .sl1 _ none _ _
 ·cases h;cases d<;>first|(cases h1;done)|skip
  have eX:X=_:=hx;obtain⟨L,o,_,eY,_⟩:=hy;subst eX;subst eY;exact .sl1 _ (some _) _ _
 ·cases h;cases d<;>first|(cases h1;done)|skip
  obtain⟨L,o,_,eX,_⟩:=hx;have eY:Y=_:=hy;subst eX;subst eY;exact .sl2 _ _ _ _
 ·cases h;cases d<;>first|(cases h1;done)|skip
  have eX:X=_:=hx;obtain⟨L,o,c,_,eY,_⟩:=hy;subst eX;subst eY;exact .sl1 _ (some _) _ _
 ·cases h;cases d<;>first|(cases h1;done)|skip
  obtain⟨L,o,c,_,eX,_⟩:=hx;have eY:Y=_:=hy;subst eX;subst eY;exact .sl2 _ _ _ _
 ·cases h;cases d<;>first|(cases h1;done)|skip
  have eX:X=_:=hx;have eY:Y=_:=hy;subst eX;subst eY;exact .mp1 _ _ none
 ·cases h;cases d<;>first|(cases h1;done)|skip
  have eX:X=_:=hx;obtain⟨L,_,eY⟩:=hy;subst eX;subst eY;exact .mp1 _ _ (some _)
 ·cases h;cases d<;>first|(cases h1;done)|skip
  obtain⟨L,_,eX⟩:=hx;have eY:Y=_:=hy;subst eX;subst eY;exact .mp2 _ _ _
 ·cases h;cases d<;>first|(cases h1;done)|skip
  have eX:X=_:=hx;have eY:Y=_:=hy;subst eX;subst eY;exact .fn0 _ _ _
 ·cases h;cases d<;>first|(cases h1;done)|skip
  have eX:X=_:=hx;obtain⟨as,bs,eY,_⟩:=hy;subst eX;subst eY;exact .fn1 _ _ _ _ _ _
 ·cases h;cases d<;>first|(cases h1;done)|skip
  obtain⟨as,bs,eX,_⟩:=hx;have eY:Y=_:=hy;subst eX;subst eY;exact .fn2 _ _ _ _ _ _
 ·cases h
theorem zaf8{t:Nat}{d:TypeDesc}{X Y:Value}{r:Bool}(n:Nat)(ht:P.underlying t=some d)(h:NilPair d X Y r):(Op.equalIn (n+1) t X Y).run P w=.ok r w:=by
 have hu:(underlying t).run P w=.ok d w:=by simp[underlying,program,Sem.run,ht]
 rw[Op.equalIn];simp only[wfr,hu,wfq];cases h<;>rfl
theorem nil_eq{t:Nat}{d:TypeDesc}{X Y:Value}{r:Bool}(ht:P.underlying t=some d)(h:NilPair d X Y r):(Op.equal t X Y).run P w=.ok r w:=zaf8 9999 ht h
theorem zadj(op:BinOp)(t:Nat)(x y:Operand){d:TypeDesc}{X Y:Value}{r:Bool}(h:NilPair d X Y r):(eqGuard op t x y X Y).run P w=.ok () w:=by
 unfold eqGuard;cases h<;>cases op<;>rfl
theorem zaiv{t:Nat}{d:TypeDesc}{X Y:Value}{r:Bool}(ht:P.underlying t=some d)(h:NilPair d X Y r):(binOp .eql t X Y).run P w=.ok (.bool r) w∧(binOp .neq t X Y).run P w=.ok (.bool !r) w:=by
 have hq:=nil_eq (w:=w) ht h;have e1:binOp .eql t X Y=(do pure (.bool (←Op.equal t X Y))):=by cases h<;>rfl
 have e2:binOp .neq t X Y=(do pure (.bool (!(←Op.equal t X Y)))):=by cases h<;>rfl
 exact⟨by rw[e1];simp[hq],by rw[e2];simp[hq]⟩
theorem zakk(h:Pre E P T ρ S w tm a){dst:Option Tmp}{ty:Nat}{pos:String}{after:Array Edge}{guard:Option (Nat×Bool)}{op:BinOp}{t yt:Nat}{x y:Operand}{r:OpR}
  (hr:zz3 op t x y yt E P tm ⟨dst,.binOp op t x y yt,ty,pos,after,guard⟩ S=some r):zcz P T ρ S w a ⟨dst,.binOp op t x y yt,ty,pos,after,guard⟩ r:=by
 unfold zz3 at hr;obtain⟨u,hu,hr⟩:=zb hr;obtain⟨v,hv,hr⟩:=zb hr;have ru:=zah h hu;have rv:=zah h hv
 rcases zcm hr with hr|hr
 ·obtain⟨z,hz,hr⟩:=zb hr
  cases hr;intro _ _
  suffices hs:∃V,(eqGuard op t x y (a.eval x) (a.eval y)).run P w=.ok () w∧(binOp op t (a.eval x) (a.eval y)).run P w=.ok V w∧RV ρ z V by
   obtain⟨V,h1,h2,h3⟩:=hs;exact zbc h (by simp[execOp,h1,h2]) h3
  unfold zaho at hz;cases hi:zzv u with
  |none =>
   rw[hi]at hz;have hz':zaar E op t u v=some z:=hz;unfold zaar at hz';obtain⟨e,he,hz'⟩:=zb hz';obtain⟨ti,hti,hz'⟩:=zb hz';obtain⟨h1,hz'⟩:=zi hz';obtain⟨h2,hz'⟩:=zi hz';obtain⟨r,hr,hz'⟩:=zb hz';have hd:=(h.env.ty _ _ hti).und;have hp:=zaiu ru rv h1 h2 hr;have hg:=zadj (P:=P) (w:=w) op t x y hp;obtain⟨b1,b2⟩:=zaiv (w:=w) hd hp;rw[zs5 hz',zar];cases op<;>first
    |(cases he;done)
    |exact⟨.bool r,hg,b1,by cases he;rfl⟩
    |exact⟨.bool !r,hg,b2,by cases he;rfl⟩
  |some p =>
   rw[hi]at hz;cases hj:zzv v with
   |none=>rw[hj]at hz;cases hz
   |some q =>
    rw[hj]at hz;obtain⟨hk,hz⟩:=zi hz;rw[zs1 hi]at ru;rw[zs1 hj]at rv;have e1:a.eval x=.int p.1 p.2:=ru;have e2:a.eval y=.int q.1 q.2:=rv;obtain⟨V,h1,h2⟩:=zakj (P:=P) (ρ:=ρ) (w:=w) (t:=t) hz;rw[e1,e2,←zs4 hk];exact⟨V,zadi op t x y _ _ _ _,h1,h2⟩
 ·exact pure_ok h hr
theorem zadk(h:Fit ρ S T w){n off:Nat}{β:Type}{k:AV→St→Option β}{r:β}(hr:rd1 S n off k=some r):∃v,k v (S.touched n)=some r ∧
  (T n→∃L V,ρ n=some L∧w.cell? ⟨L.b,L.s+off,none⟩=some V∧RV ρ v V):=by
 unfold rd1 at hr;obtain⟨o,h1,hr⟩:=zb hr;obtain⟨l,h2,hr⟩:=zb hr;obtain⟨v,h3,hr⟩:=zb hr;rw[St.touch_eq]at hr;refine⟨v,hr,fun hT=>?_⟩;obtain⟨L,e1,e2⟩:=h.obj n o hT h1;obtain⟨c,e,z,q1,_,_,q4⟩:=zvk h2 e2;rw[zcy]at h3;obtain⟨V,k1,k2⟩:=RC.cell q1 q4 h3;exact⟨L,V,e1,k1,k2⟩
theorem zn4(h:Fit ρ S T w){n off len:Nat}{β:Type}{k:List AV→St→Option β}{r:β}(hr:rdN S n off len k=some r):∃x,x.length=len∧k x (S.touched n)=some r ∧
  (T n→∃L,ρ n=some L∧∃vs:List Value,vs.length=len∧RVs ρ x vs∧∀o',(len=0∨o'=L.s+off)→∀j v,vs[j]?=some v→w.cell? ((⟨L.b,o',none⟩:Addr).add j)=some v):=by
 unfold rdN at hr;obtain⟨o,h1,hr⟩:=zb hr;obtain⟨l,h2,hr⟩:=zb hr;obtain⟨x,h3,hr⟩:=zb hr;rw[St.touch_eq]at hr;obtain⟨s1,s2,s3⟩:=zl2 h3;refine⟨x,s2,hr,fun hT=>?_⟩;obtain⟨L,e1,e2⟩:=h.obj n o hT h1;obtain⟨c,e,z,q1,_,_,q4⟩:=zvk h2 e2;refine⟨L,e1,?_⟩
 rcases s3 with s3|s3
 ·subst s3
  refine⟨[],rfl,?_,fun _ _ j v hj=>by simp at hj⟩;have:x=[]:=wc6.1 s2;rw[this];rfl
 ·obtain⟨vs,k1,k2,k3⟩:=RC.seg q1 q4 s3
  refine⟨vs,k1,by rw[s1];exact k2,fun o' ho j v hj=>?_⟩;have hadd:∀(b o i:Nat),(⟨b,o,none⟩:Addr).add i=⟨b,o+i,none⟩:=fun b o i=>by unfold Addr.add;split<;>simp_all
  rcases ho with ho|ho
  ·rw[ho]at k1
   rw[wc6.1 k1]at hj;simp at hj
  ·rw[hadd,ho];exact k3 j v hj
theorem zaiw(h:Pre E P T ρ S w tm a){dst:Option Tmp}{ty:Nat}{pos:String}{after:Array Edge}{guard:Option (Nat×Bool)}{t:Nat}{x:Operand}{r:OpR}
  (hr:zuf t x E P tm ⟨dst,.load t x,ty,pos,after,guard⟩ S=some r):zcz P T ρ S w a ⟨dst,.load t x,ty,pos,after,guard⟩ r:=by
 unfold zuf at hr;obtain⟨u,hu,hr⟩:=zb hr;unfold zadb at hr;obtain⟨p,hp,hr⟩:=zb hr;obtain⟨ti,hti,hr⟩:=zb hr;have ht:=h.env.ty _ _ hti;have ru:=zah h hu;rw[zek hp]at ru;obtain⟨L,hL,hX⟩:=ru;rw[zar]at hr
 split at hr
 ·rename_i hagg
  obtain⟨l,hl,hr,hc⟩:=zn4 h.fit hr;cases hr;intro hT _;obtain⟨L',hL',vs,hv1,hv2,hv3⟩:=hc (hT _ (zj.2 (.inr (zz.2 rfl))));rw[hL]at hL';cases hL';have hload:=run_loadCells_list (P:=P) w (⟨L.b,L.s+p.2,none⟩:Addr) vs (hv3 _ (.inr rfl));rw[hv1]at hload;exact⟨.agg vs.toArray,w,ρ,.inl (by simp[execOp,Instr.loadAt,Instr.sureAddr,hX,loadVar,zle ht,hagg,zc5 ht,hload]),zbk h.fit _,vs.toArray,rfl,by simpa using hv2⟩
 ·rename_i hagg
  obtain⟨v,hr,hc⟩:=zadk h.fit hr;cases hr;intro hT _;obtain⟨L',V,hL',hv1,hv2⟩:=hc (hT _ (zj.2 (.inr (zz.2 rfl))));rw[hL]at hL';cases hL';exact⟨V,w,ρ,.inl (by simp[execOp,Instr.loadAt,Instr.sureAddr,hX,loadVar,zle ht,hagg,hv1]),zbk h.fit _,hv2⟩
end
theorem zem(b o i:Nat):(⟨b,o,none⟩:Addr).add i=⟨b,o+i,none⟩:=by unfold Addr.add;split<;>simp_all
theorem zaix {ρ:Rho}{v:AV}{V:Value}(h:zm3 v=true)(r:RV ρ v V):V.oneCell'=true:=by
 cases v with
 |bool b=>have e:V=_:=r;subst e;rfl
 |int k n=>have e:V=_:=r;subst e;rfl
 |str s=>have e:V=_:=r;subst e;rfl
 |nilp=>have e:V=_:=r;subst e;rfl
 |ptr n o=>obtain⟨L,_,e⟩:=r;subst e;rfl
 |nils=>have e:V=_:=r;subst e;rfl
 |sl n o l c=>obtain⟨L,o',_,e,_⟩:=r;subst e;rfl
 |slo n o l c=>obtain⟨L,o',cap,_,e,_⟩:=r;subst e;rfl
 |nilm=>have e:V=_:=r;subst e;rfl
 |map n=>obtain⟨L,_,e⟩:=r;subst e;rfl
 |fn f a b=>obtain⟨as,bs,e,_,_⟩:=r;subst e;rfl
 |yield l=>obtain⟨L,_,e⟩:=r;subst e;rfl
 |nilf=>have e:V=_:=r;subst e;rfl
 |agg l=>cases h
 |tup l=>cases h
theorem zaay{v:AV}(h:zm3 v=true):v.cells=[v]:=by
 cases v<;>first|rfl|cases h
theorem z1h{a b:Bool}(h:zgr a b=true):a=true∧b=true:=by
 cases a with
 |false=>cases h
 |true=>exact⟨rfl,h⟩
theorem zs6{α:Type}{p:α→Bool}:∀{l:List α},zd6 p l=true→∀x∈l,p x=true
 |[],_,_,h=>by cases h
 |y::l,h,x,hx=>by
  obtain⟨h1,h2⟩:=z1h h
  rcases wdp.1 hx with rfl|hx
  ·exact h1
  ·exact zs6 h2 x hx
theorem RVs.one{ρ:Rho}:∀{l:List AV} {vs:List Value},(∀x∈l,zm3 x=true)→RVs ρ l vs→∀v∈vs,v.oneCell'=true
 |[],vs,_,h,v,hv=>by rw[show vs=[]from h]at hv;cases hv
 |a::l,vs,hl,⟨V,r,e,h1,h2⟩,v,hv=>by
  rw[e]at hv
  rcases wdp.1 hv with rfl|hv
  ·exact zaix (hl a (by simp)) h1
  ·exact RVs.one (fun x hx=>hl x (by simp[hx])) h2 v hv
theorem zen{α:Type}(l vs:List α)(off i:Nat)(h:off+vs.length≤l.length):(l.take off++(vs++l.drop (off+vs.length)))[i]?=if i<off then l[i]? else if i<off+vs.length then vs[i-off]? else l[i]?:=by
 rw[wci];have hl:(l.take off).length=off:=by simp;omega
 rw[hl]
 split
 ·rw[wct,if_pos (by assumption)]
 ·rw[wci]
  split
  ·rw[if_pos (by omega)]
  ·rw[if_neg (by omega),wcm];congr 1;omega
section
variable{E:Env}{P:Program}{T:Nat→Prop}{ρ:Rho}{S:St}{w:World}{tm:Tm}{a:Act}
theorem z1i(h:Fit ρ S T w){n off:Nat}{l vs:List AV}{Vs:List Value}(hT:T n)(hn:S.get n=some (.cells l))(hl:off+vs.length≤l.length)(h1:∀x∈vs,zm3 x=true)(hv:RVs ρ vs Vs) :
  ∃L w',ρ n=some L∧(storeCells ⟨L.b,L.s+off,none⟩ Vs 0).run P w=.ok () w'∧Stp ρ S T w ρ (S.setted n (some (.cells (l.take off++(vs++l.drop (off+vs.length)))))) w':=by
 obtain⟨L,e1,c,e,q1,q2,q3,q4⟩:=h.obj n _ hT hn;have hvl:=hv.length;have hst:=run_storeCells_at P L.b (L.s+off) e Vs 0 c w q1 (by omega) (hv.one h1);refine⟨L,_,e1,hst,zn3 h hT hn e1 (setRow_size _ _ _) (fun b hb=>setRow_other _ _ _ _ hb) ?_⟩;have hcl:(c.toList.take (L.s+off)++(Vs++c.toList.drop (L.s+off+Vs.length))).length=c.size:=by
  simp only[wc3,wdd,wc5,wah];omega
 refine⟨_,e,setRow_heap _ _ _ _ _ _ q1,?_,?_,fun i x hi=>?_⟩
 ·simp only[wbm,wd7,wei];rw[hcl,q2]
 ·simp only[wc3,wdd,wc5];omega
 ·rw[zen _ _ _ _ hl]at hi
  simp only[wbm,wei,wcu];rw[zen _ _ _ _ (by simp;omega)]
  by_cases hlt:i<off
  ·rw[if_pos hlt]at hi
   rw[if_pos (by omega)];have:=q4 i x hi;simpa using this
  ·rw[if_neg hlt]at hi
   rw[if_neg (by omega)]
   by_cases hlt2:i<off+vs.length
   ·rw[if_pos hlt2]at hi
    rw[if_pos (by omega)];have:=hv.at hi
    rwa [show L.s+i-(L.s+off)=i-off by omega]
   ·rw[if_neg hlt2]at hi
    rw[if_neg (by omega)];have:=q4 i x hi;simpa using this
theorem zra{n off:Nat}{vs:List AV}{β:Type}{k:St→Option β}{r:β}(hr:wrN S n off vs k=some r):∃l,S.get n=some (.cells l)∧off+vs.length≤l.length∧(∀x∈vs,zm3 x=true) ∧
  k (S.setted n (some (.cells (l.take off++(vs++l.drop (off+vs.length))))))=some r:=by
 unfold wrN at hr;obtain⟨o,h1,hr⟩:=zb hr;obtain⟨l,h2,hr⟩:=zb hr;obtain⟨h3,hr⟩:=zi hr;obtain⟨l',h4,hr⟩:=zb hr;rw[St.set_eq]at hr;obtain⟨h5,h6⟩:=zvi h4;rw[h6]at hr;exact⟨l,by rw[h1,zdg h2],h5,zs6 h3,hr⟩
theorem zn5 (h:Fit ρ S T w) {n off:Nat} {vs:List AV} {Vs:List Value} {β:Type} {k:St→Option β} {r:β} (hr:wrL S n off vs k=some r) (hv:RVs ρ vs Vs):∃ S',k S'=some r∧Lcl S S'∧S'.next=S.next∧((∀n,bit S'.t n→T n) →
  ((vs=[]∧S'=S)∨T n∧∃L,ρ n=some L)∧∀L o',ρ n=some L→(vs=[]∨o'=L.s+off)→∃w',(storeCells ⟨L.b,o',none⟩ Vs 0).run P w=.ok () w'∧Stp ρ S T w ρ S' w'):=by
 unfold wrL at hr;rw[zar]at hr
 split at hr
 ·rename_i hnil
  have e:vs=[]:=by
   cases vs with
   |nil=>rfl
   |cons x y=>cases hnil
  subst e;have eV:Vs=[]:=hv;subst eV;exact⟨S,hr,.refl S,rfl,fun _=>⟨.inl ⟨rfl,rfl⟩,fun L o' _ _=>⟨w,rfl,.refl h⟩⟩⟩
 ·rename_i hn0
  obtain⟨l,h1,h2,h3,h4⟩:=zra hr;refine⟨_,h4,zav S n _ ⟨_,h1⟩,rfl,fun hT=>?_⟩;have hTn:T n:=hT n (zj.2 (.inr (zz.2 rfl)));obtain⟨L,w',e1,e2,e3⟩:=z1i (P:=P) h hTn h1 h2 h3 hv;refine⟨.inr ⟨hTn,L,e1⟩,fun L' o' hL ho=>?_⟩;rw[e1]at hL;cases hL
  rcases ho with ho|ho
  ·subst ho;exact absurd rfl hn0
  ·rw[ho];exact⟨w',e2,e3⟩
theorem zaf9(h:Pre E P T ρ S w tm a){dst:Option Tmp}{ty:Nat}{pos:String}{after:Array Edge}{guard:Option (Nat×Bool)}{t:Nat}{x y:Operand}{r:OpR}
  (hr:znu t x y E P tm ⟨dst,.store t x y,ty,pos,after,guard⟩ S=some r):zcz P T ρ S w a ⟨dst,.store t x y,ty,pos,after,guard⟩ r:=by
 unfold znu at hr;obtain⟨u,hu,hr⟩:=zb hr;obtain⟨v,hv,hr⟩:=zb hr;unfold z8m at hr;obtain⟨p,hp,hr⟩:=zb hr;obtain⟨ti,hti,hr⟩:=zb hr;obtain⟨hsz,hr⟩:=zi hr;have hsz:=wem hsz;have ht:=h.env.ty _ _ hti;have ru:=zah h hu;have rv:=zah h hv;rw[zek hp]at ru;obtain⟨L,hL,hX⟩:=ru;have rc:=AV.cells_rv rv;have hcs:(a.eval y).cells.size=ti.size:=by rw[←hsz,←rc.length];simp
 have main:∀(k:St→Option OpR) S' w',k S'=some r→(∀S,k S=some (.val .undef S))→(storeCells ⟨L.b,L.s+p.2,none⟩ (a.eval y).cells.toList 0).run P w=.ok () w'→Stp ρ S T w ρ S' w'→z3l P T ρ S w a ⟨dst,.store t x y,ty,pos,after,guard⟩ .undef S':=fun k S' w' _ _ h1 h2 =>
  ⟨undef,w',ρ,.inr ⟨by simp[execOp,Instr.storeAt,Instr.sureAddr,hX,storeVar,zc5 ht,hcs,h1],rfl⟩,h2,⟨#[],rfl,rfl⟩⟩
 cases hag:zzz v with
 |some l =>
  rw[hag]at hr;have hr':wrL S p.1 p.2 l (fun S=>some (.val .undef S))=some r:=hr;have ev:=zs2 hag;have el:v.cells=l:=by rw[ev];rfl
  rw[el]at rc;obtain⟨S',k1,_,_,k3⟩:=zn5 (P:=P) h.fit hr' rc;cases k1;intro hT _;obtain⟨_,k4⟩:=k3 hT;obtain⟨w',e1,e2⟩:=k4 L _ hL (.inr rfl);exact main (fun S=>some (.val .undef S)) S' w' rfl (fun _=>rfl) e1 e2
 |none =>
  rw[hag]at hr;have hr':wr1 S p.1 p.2 v (fun S=>some (.val .undef S))=some r:=hr;unfold wr1 at hr';obtain⟨o,h1,hr⟩:=zb hr';obtain⟨l,h2,hr⟩:=zb hr;obtain⟨h3,hr⟩:=zi hr;obtain⟨l',h4,hr⟩:=zb hr;rw[St.set_eq]at hr;cases hr;intro hT _;obtain⟨h5,h6⟩:=z1g h4;have ec:=zaay h3;rw[ec]at rc;obtain⟨L',w',e1,e2,e3⟩:=z1i (P:=P) h.fit (hT _ (zj.2 (.inr (zz.2 rfl)))) (by rw[h1,zdg h2]) (off:=p.2) (vs:=[v]) (by simp;omega) (fun x hx=>by simp at hx;rw[hx];exact h3) rc;rw[hL]at e1;cases e1;refine main (fun S=>some (.val .undef S)) _ w' rfl (fun _=>rfl) e2 ?_
  have:l'=l.take p.2++([v]++l.drop (p.2 + [v].length)):=by rw[h6,List.set_eq_take_append_cons_drop];simp[h5]
  rw[this];exact e3
theorem zs7(h:Fit ρ S T w){l:List AV}{cells:Array Value}(elem:Nat)(hl:RVs ρ l cells.toList)(hf:ρ S.next=none) :
  Stp ρ S T w (zhr ρ S.next ⟨w.heap.size,0,cells.size,fun _=>true⟩) (S.alloced (.cells l)) { w with heap:=w.heap.push (.cells cells elem) }:=by
 refine zfe h hf rfl ⟨cells,elem,rfl,by simp,by have:=hl.length;simp at this;show l.length≤cells.size;omega,fun i x hi=>?_⟩;obtain⟨V,h1,h2⟩:=hl.at hi;exact⟨V,by simpa using h1,RV.mono (zgw _ hf) _ _ h2⟩
theorem zex {o:AO}(hf:zch ρ S.next (S.alloced o).next):ρ S.next=none:=hf S.next (weq _) (by have:(S.alloced o).next=S.next+1:=rfl;omega)
theorem zakl(h:Pre E P T ρ S w tm a){dst:Option Tmp}{ty:Nat}{pos:String}{after:Array Edge}{guard:Option (Nat×Bool)}{t:Nat}{x:Operand}{r:OpR}
  (hr:zz1 t x E P tm ⟨dst,.box t x,ty,pos,after,guard⟩ S=some r):zcz P T ρ S w a ⟨dst,.box t x,ty,pos,after,guard⟩ r:=by
 unfold zz1 at hr;obtain⟨v,hv,hr⟩:=zb hr;rw[St.alloc_eq]at hr;cases hr;intro _ hf;have rc:=AV.cells_rv (zah h hv);have hf':=zex hf;exact⟨.pointer (some ⟨w.heap.size,0,none⟩),_,_,.inl (by simp[execOp,Instr.box,newVar,newRow,newObj,Sem.run]),zs7 h.fit t rc hf',⟨_,zbb _ _ _,rfl⟩⟩
theorem zk3{P:Program}{t:Nat}{ti:TI}(ht:zm6 P t ti){z:List AV}(hz:ti.zero=some z)(ρ:Rho)(w:World):∃Z,(zeroValue t).run P w=.ok Z w∧RVs ρ z Z.cells.toList:=by
 obtain⟨zv,h1,h2⟩:=ht.zero z hz;obtain⟨Z,h3,h4⟩:=z5p (w:=w) ht h1;exact⟨Z,h3,by rw[h2];exact AV.cells_rv (zgx h4)⟩
theorem zaga(h:Pre E P T ρ S w tm a){dst:Option Tmp}{ty:Nat}{pos:String}{after:Array Edge}{guard:Option (Nat×Bool)}{t:Nat}{r:OpR}
  (hr:znt t E P tm ⟨dst,.alloc t,ty,pos,after,guard⟩ S=some r):zcz P T ρ S w a ⟨dst,.alloc t,ty,pos,after,guard⟩ r:=by
 unfold znt at hr;obtain⟨ti,hti,hr⟩:=zb hr;obtain⟨z,hz,hr⟩:=zb hr;rw[St.alloc_eq]at hr;cases hr;intro _ hf;obtain⟨Z,h1,h2⟩:=zk3 (h.env.ty _ _ hti) hz ρ w;have hf':=zex hf;exact⟨.pointer (some ⟨w.heap.size,0,none⟩),_,_,.inl (by simp[execOp,Instr.alloc,h1,newVar,newRow,newObj,Sem.run]),zs7 h.fit t h2 hf',⟨_,zbb _ _ _,rfl⟩⟩
theorem zn6{d:TypeDesc}{fs:List Field}(h:zsv d=some fs):∃f:Array Field,d=.struct f∧f.toList=fs:=by
 cases d<;>cases h;exact⟨_,rfl,rfl⟩
theorem zbv{d:TypeDesc}{e:Nat}(h:zc4 d=some e):d=.slice e:=by
 cases d<;>cases h;rfl
theorem zhx {d:TypeDesc}{p:Nat×Nat}(h:znm d=some p):d=.array p.1 p.2:=by
 cases d<;>cases h;rfl
theorem z7a{d:TypeDesc}{e:Nat}(h:zac9 d=some e):d=.pointer e:=by
 cases d<;>cases h;rfl
theorem z5q(h:Pre E P T ρ S w tm a){dst:Option Tmp}{ty:Nat}{pos:String}{after:Array Edge}{guard:Option (Nat×Bool)}{t f:Nat}{x:Operand}{r:OpR}
  (hr:zhf t x f E P tm ⟨dst,.fieldAddr t x f,ty,pos,after,guard⟩ S=some r):zcz P T ρ S w a ⟨dst,.fieldAddr t x f,ty,pos,after,guard⟩ r:=by
 unfold zhf at hr;obtain⟨u,hu,hr⟩:=zb hr;unfold zve at hr;obtain⟨p,hp,hr⟩:=zb hr;obtain⟨ti,hti,hr⟩:=zb hr;obtain⟨fs,hfs,hr⟩:=zb hr;obtain⟨fd,hfd,hr⟩:=zb hr;obtain⟨tf,htf,hr⟩:=zb hr;obtain⟨hz,hr⟩:=zi hr;rw[zba]at hr;cases hr;intro _ _;have ht:=zce (w:=w) (h.env.ty _ _ hti);have hs:=zc5 (w:=w) (h.env.ty _ _ htf);have hz:=wep hz;have ru:=zah h hu;rw[zek hp]at ru;obtain⟨L,hL,hX⟩:=ru;obtain⟨fa,hd,rfl⟩:=zn6 hfs;rw[hd]at ht;rw[zcy]at hfd;have hfa:fa[f]?=some fd:=by simpa using hfd
 refine zbc h (V:=.pointer (some ⟨L.b,L.s+(p.2+fd.offset),none⟩)) ?_ ⟨L,hL,rfl⟩;have hz':¬tf.size=0:=by omega
 simp[execOp,Instr.fieldAt,ht,hfa,Instr.sureAddr,hX,fieldPlace,hs,hz',zem,wed]
theorem z8v{l:List AV}{vs:Array Value}{t off:Nat}{v:AV}(henv:zbh E P)(hl:RVs ρ l vs.toList)(hr:z3h E t l off=some v):∃V,(part t vs off).run P w=.ok V w∧RV ρ v V:=by
 unfold z3h at hr;obtain⟨ti,hti,hr⟩:=zb hr;have ht:=henv.ty _ _ hti;rw[zar]at hr
 split at hr
 ·rename_i hag
  obtain⟨x,hx,hr⟩:=zb hr;cases hr;obtain⟨s1,_,_⟩:=zl2 hx;refine⟨.agg (vs.extract off (off+ti.size)),by simp[part,zle ht,hag,zc5 ht],_,rfl,?_⟩;rw[s1];have:=(hl.drop off).take ti.size;simpa[Array.toList_extract,List.extract_eq_take_drop]using this
 ·rename_i hag
  rw[zcy]at hr;obtain⟨V,h1,h2⟩:=hl.at hr;have h1':vs[off]?=some V:=by simpa using h1
  exact⟨V,by simp[part,zle ht,hag,h1'],h2⟩
theorem zagb(h:Pre E P T ρ S w tm a){dst:Option Tmp}{ty:Nat}{pos:String}{after:Array Edge}{guard:Option (Nat×Bool)}{t f:Nat}{x:Operand}{r:OpR}
  (hr:znw t x f E P tm ⟨dst,.field t x f,ty,pos,after,guard⟩ S=some r):zcz P T ρ S w a ⟨dst,.field t x f,ty,pos,after,guard⟩ r:=by
 unfold znw at hr;obtain⟨u,hu,hr⟩:=zb hr;unfold z8n at hr;obtain⟨l,hl,hr⟩:=zb hr;obtain⟨ti,hti,hr⟩:=zb hr;obtain⟨fs,hfs,hr⟩:=zb hr;obtain⟨fd,hfd,hr⟩:=zb hr;obtain⟨v,hv,hr⟩:=zb hr;cases hr;intro _ _;have ht:=zce (w:=w) (h.env.ty _ _ hti);have ru:=zah h hu;rw[zs2 hl]at ru;obtain⟨vs,hX,hvs⟩:=ru;obtain⟨fa,hd,rfl⟩:=zn6 hfs;rw[hd]at ht;rw[zcy]at hfd;have hfa:fa[f]?=some fd:=by simpa using hfd
 obtain⟨V,h1,h2⟩:=z8v (w:=w) h.env hvs hv;exact zbc h (V:=V) (by simp[execOp,Instr.field,ht,hfa,hX,asAgg,h1]) h2
theorem zagc(h:Pre E P T ρ S w tm a){dst:Option Tmp}{ty:Nat}{pos:String}{after:Array Edge}{guard:Option (Nat×Bool)}{t:Nat}{x y:Operand}{r:OpR}
  (hr:znx t x y E P tm ⟨dst,.index t x y,ty,pos,after,guard⟩ S=some r):zcz P T ρ S w a ⟨dst,.index t x y,ty,pos,after,guard⟩ r:=by
 unfold znx at hr;obtain⟨u,hu,hr⟩:=zb hr;obtain⟨i,hi,hr⟩:=zb hr
 rcases zcm hr with hr|hr
 ·unfold z8o at hr
  obtain⟨l,hl,hr⟩:=zb hr;obtain⟨n,hn,hr⟩:=zb hr;obtain⟨ti,hti,hr⟩:=zb hr;obtain⟨ne,hne,hr⟩:=zb hr;obtain⟨hlt,hr⟩:=zi hr;obtain⟨te,hte,hr⟩:=zb hr;obtain⟨v,hv,hr⟩:=zb hr;cases hr;intro _ _;have ht:=zce (w:=w) (h.env.ty _ _ hti);have hs:=zc5 (w:=w) (h.env.ty _ _ hte);rw[zhx hne]at ht;have hlt:=wep hlt;have ru:=zah h hu;rw[zs2 hl]at ru;obtain⟨vs,hX,hvs⟩:=ru;obtain⟨k,hk⟩:=zel hn;have ri:=zah h hi;rw[hk]at ri;have hY:a.eval y=.int k n:=ri;obtain⟨V,h1,h2⟩:=z8v (w:=w) h.env hvs hv;have hlt':n<ne.1:=hlt;have h1':(part ne.2 vs (n*te.size)).run P w=.ok V w:=h1;exact zbc h (V:=V) (by simp[execOp,Instr.index,ht,hX,hY,asIntOf,hs,hlt',h1']) h2
 ·exact pure_ok h hr
theorem zs8{n off len e i:Nat}{r:OpR}(hr:z48 E S n off len e i=some r):i<len∧∃te,E.tyOf e=some te∧r=.val (.ptr n (off+i*te.size)) S:=by
 unfold z48 at hr;obtain⟨h1,hr⟩:=zi hr;obtain⟨te,h2,hr⟩:=zb hr;rw[zba]at hr;cases hr;exact⟨wep h1,te,h2,rfl⟩
theorem zadl{v:AV}{r:Nat×Nat×Nat}(h:zwk v=some r){V:Value}(hv:RV ρ v V):∃L o' cap,ρ r.1=some L∧V=.slice (some ⟨L.b,o',none⟩) r.2.2 cap∧r.2.2≤cap∧(cap=0∨o'=L.s+r.2.1):=by
 cases v<;>cases h
 ·obtain⟨L,o',h1,h2,h3,h4⟩:=hv;exact⟨L,o',_,h1,h2,h3,h4⟩
 ·obtain⟨L,o',cap,h1,h2,h3,_,h4⟩:=hv;exact⟨L,o',_,h1,h2,h3,h4⟩
theorem z5r(h:Pre E P T ρ S w tm a){dst:Option Tmp}{ty:Nat}{pos:String}{after:Array Edge}{guard:Option (Nat×Bool)}{t:Nat}{x y:Operand}{r:OpR}
  (hr:zhg t x y E P tm ⟨dst,.indexAddr t x y,ty,pos,after,guard⟩ S=some r):zcz P T ρ S w a ⟨dst,.indexAddr t x y,ty,pos,after,guard⟩ r:=by
 unfold zhg at hr;obtain⟨u,hu,hr⟩:=zb hr;obtain⟨i,hi,hr⟩:=zb hr;unfold zvf at hr;obtain⟨n,hn,hr⟩:=zb hr;obtain⟨ti,hti,hr⟩:=zb hr;have ht:=zce (w:=w) (h.env.ty _ _ hti);obtain⟨k,hk⟩:=zel hn;have ri:=zah h hi;rw[hk]at ri;have hY:a.eval y=.int k n:=ri;have ru:=zah h hu;cases hrow:zwk u with
 |none =>
  rw[hrow]at hr;obtain⟨p,hp,hr⟩:=zb hr;obtain⟨ne,hne,hr⟩:=zb hr;obtain⟨hlt,te,hte,hr⟩:=zs8 hr;rw[hr];intro _ _;have hs:=zc5 (w:=w) (h.env.ty _ _ hte);rw[zhx hne]at ht;rw[zek hp]at ru;obtain⟨L,hL,hX⟩:=ru;exact zbc h (V:=.pointer (some ⟨L.b,L.s+(p.2+n*te.size),none⟩)) (by simp[execOp,Instr.indexAt,ht,hX,hY,asIntOf,Instr.sureAddr,hs,hlt,zem,wed]) ⟨L,hL,rfl⟩
 |some q =>
  rw[hrow]at hr;obtain⟨e,he,hr⟩:=zb hr;obtain⟨hlt,te,hte,hr⟩:=zs8 hr;rw[hr];intro _ _;have hs:=zc5 (w:=w) (h.env.ty _ _ hte);rw[zbv he]at ht;obtain⟨L,o',cap,hL,hX,hc,ho⟩:=zadl hrow ru;have ho':o'=L.s+q.2.1:=by rcases ho with ho|ho;omega;exact ho
  subst ho';exact zbc h (V:=.pointer (some ⟨L.b,L.s+(q.2.1+n*te.size),none⟩)) (by simp[execOp,Instr.indexAt,ht,hX,hY,asIntOf,hs,hlt,zem,wed]) ⟨L,hL,rfl⟩
end
theorem foldl_set{α:Type}:∀(vs:List α) (i off:Nat) (l:List α),off+i+vs.length≤l.length→(vs.zipIdx i).foldl (fun cs (p:α×Nat)=>cs.set (off+p.2) p.1) l=l.take (off+i)++(vs++l.drop (off+i+vs.length))
 |[],i,off,l,_=>by simp
 |v::vs,i,off,l,h=>by
  simp only[List.zipIdx_cons,wcg];simp only[wc4]at h;rw[foldl_set vs (i+1) off _ (by simp;omega)];apply List.ext_getElem?;intro j;rw[zen _ _ _ _ (by simp;omega),zen _ (v::vs) _ _ (by simp;omega)];simp only[wc4]
  by_cases h1:j<off+i
  ·rw[if_pos (by omega),if_pos h1,List.getElem?_set_ne (by omega)]
  ·rw[if_neg h1]
   by_cases h2:j=off+i
   ·subst h2
    rw[if_pos (by omega),if_pos (by omega),List.getElem?_set_self (by omega),we6];rfl
   ·rw[if_neg (by omega)]
    by_cases h3:j<off+i+(vs.length+1)
    ·rw[if_pos (by omega),if_pos h3,show j-(off+i)=(j-(off+(i+1)))+1 by omega,wcl]
    ·rw[if_neg (by omega),if_neg h3,List.getElem?_set_ne (by omega)]
section
variable{E:Env}{P:Program}{T:Nat→Prop}{ρ:Rho}{S:St}{w:World}{tm:Tm}{a:Act}
theorem zn7{place:Nat→Option (Nat×Nat)}{pl:Nat→Option (Nat×Nat)}(hpl:∀i,place i=pl i):∀{ps:List (Nat×AV)} {vs:List (Nat×Value)} {l r:List AV} {cells:Array Value},zuc pl ps l=some r →
  ps.map (·.1)=vs.map (·.1)→RVs ρ (ps.map (·.2)) (vs.map (·.2))→RVs ρ l cells.toList→∃cs,Instr.fill place cells vs=some cs∧RVs ρ r cs.toList
 |[],[],l,r,cells,h,_,_,hl=>by cases h;exact⟨cells,rfl,hl⟩
 |[],_::_,_,_,_,_,e,_,_=>by simp at e
 |_::_,[],_,_,_,_,e,_,_=>by simp at e
 |(i,v)::ps,(j,V)::vs,l,r,cells,h,e,hv,hl=>by
  simp only[wdg,List.cons.injEq]at e;obtain⟨e1,e2⟩:=e;obtain⟨V',t,e3,h1,h2⟩:=hv;simp only[wdg,List.cons.injEq]at e3;obtain⟨e3,e4⟩:=e3;subst e3;subst e4;have e1':i=j:=e1;subst e1';unfold zuc at h;obtain⟨os,g1,h⟩:=zb h;obtain⟨g2,h⟩:=zi h;obtain⟨l',g3,hfin⟩:=zb h;have g2:=wem g2;obtain⟨g4,g5⟩:=zvi g3;have rc:=AV.cells_rv h1;have hlen:=rc.length;have hll:=hl.length;simp only[wah]at hlen hll;obtain⟨off,size⟩:=os;simp only at g2 g4 g5;have hnew:(V.cells.zipIdx.foldl (fun cs (c,j)=>cs.setIfInBounds (off+j) c) cells).toList=cells.toList.take off++(V.cells.toList++cells.toList.drop (off+V.cells.toList.length)):=by
   rw[←Array.foldl_toList,Array.toList_zipIdx];have key:∀(q:List (Value×Nat)) (c:Array Value),(q.foldl (fun cs (p:Value×Nat)=>cs.setIfInBounds (off+p.2) p.1) c).toList=q.foldl (fun cs (p:Value×Nat)=>cs.set (off+p.2) p.1) c.toList:=by
    intro q
    induction q with
    |nil=>intro c;rfl
    |cons x q ih=>intro c;simp only[wcg];rw[ih];simp
   refine(key _ _).trans ?_
   have:=foldl_set V.cells.toList 0 off cells.toList (by simp;omega);simpa using this
  have hl':RVs ρ l' (V.cells.zipIdx.foldl (fun cs (c,j)=>cs.setIfInBounds (off+j) c) cells).toList:=by
   rw[hnew,g5];refine(hl.take off).append (rc.append ?_);rw[rc.length];exact hl.drop _
  obtain⟨cs,k1,k2⟩:=zn7 hpl hfin e2 h2 hl';refine⟨cs,?_,k2⟩;unfold Instr.fill;rw[hpl,g1];simp only;rw[if_neg (by simp;omega)];exact k1
theorem zs9(h:Pre E P T ρ S w tm a):∀{ps:List (Nat×Operand)} {l:List (Nat×AV)},zkf tm ps=some l→l.map (·.1)=(ps.map fun(i,x)=>(i,a.eval x)).map (·.1)∧RVs ρ (l.map (·.2)) ((ps.map fun(i,x)=>(i,a.eval x)).map (·.2))
 |[],l,hl=>by cases hl;exact⟨rfl,rfl⟩
 |(i,x)::ps,l,hl=>by
  unfold zkf at hl;obtain⟨v,h1,hl⟩:=zb hl;obtain⟨r,h2,hl⟩:=zb hl;cases hl;obtain⟨k1,k2⟩:=zs9 h h2;refine⟨by simp only[wdg,k1],?_⟩;simp only[wdg];exact⟨_,_,rfl,zah h h1,k2⟩
theorem zx8(henv:zbh E P):∀{fs:List Field} {l:List (Nat×Nat)},zud E fs=some l→fs.mapM (fun f=>(P.info? f.type).map fun i=>(f.offset,i.size))=some l
 |[],l,h=>by cases h;rfl
 |f::fs,l,h=>by
  unfold zud at h;obtain⟨ti,h1,h⟩:=zb h;obtain⟨r,h2,h⟩:=zb h;cases h;obtain⟨i,k1,k2,_⟩:=(henv.ty _ _ h1).info;simp[List.mapM_cons,k1,k2,zx8 henv h2]
theorem zagd(h:Pre E P T ρ S w tm a){dst:Option Tmp}{ty:Nat}{pos:String}{after:Array Edge}{guard:Option (Nat×Bool)}{t:Nat}{ps:Array (Nat×Operand)}{r:OpR}
  (hr:z5a t ps E P tm ⟨dst,.build t ps,ty,pos,after,guard⟩ S=some r):zcz P T ρ S w a ⟨dst,.build t ps,ty,pos,after,guard⟩ r:=by
 unfold z5a zns at hr;obtain⟨ti,hti,hr⟩:=zb hr;obtain⟨z,hz,hr⟩:=zb hr;obtain⟨l,hl,hr⟩:=zb hr;have ht:=h.env.ty _ _ hti;obtain⟨p1,p2⟩:=zs9 h hl;obtain⟨zv,z1,z2⟩:=ht.zero z hz;obtain⟨i,i1,i2,i3⟩:=ht.info;obtain⟨Z,i4,i5⟩:=i3 zv z1;have hZ:RVs ρ z Z.cells.toList:=by rw[z2];exact AV.cells_rv (zgx i5)
 have hu:=ht.und
 suffices hs:∃v cells,r=.val (.agg v) S∧P.built t (ps.map fun(i,x)=>(i,a.eval x)).toList=some cells∧RVs ρ v cells.toList by
  obtain⟨v,cells,e1,e2,e3⟩:=hs;rw[e1];intro _ _;exact zbc h (V:=.agg cells) (by simp only[execOp,wfr,run_build w t _ cells e2,wfq];rfl) ⟨cells,rfl,e3⟩
 split at hr
 ·rename_i fs hd
  obtain⟨pl,hpl,hr⟩:=zb hr;obtain⟨v,hv,hr⟩:=zb hr;cases hr;rw[hd]at hu;have hp:=zx8 h.env hpl;obtain⟨cs,c1,c2⟩:=zn7 (place:=(pl.toArray[·]?)) (fun i=>by rw[zcy];simp) hv (vs:=(ps.map fun(i,x)=>(i,a.eval x)).toList) (by rw[wap];exact p1) (by rw[wap];exact p2) hZ;refine⟨v,cs,rfl,?_,c2⟩;unfold Program.built;simp only[i1,hu,i4,hp];exact c1
 ·rename_i n e hd
  obtain⟨te,hte,hr⟩:=zb hr;obtain⟨v,hv,hr⟩:=zb hr;cases hr;rw[hd]at hu;obtain⟨ie,e1,e2,_⟩:=(h.env.ty _ _ hte).info;obtain⟨cs,c1,c2⟩:=zn7 (place:=fun i=>some (i*ie.size,ie.size)) (fun i=>by rw[e2];rfl) hv (vs:=(ps.map fun(i,x)=>(i,a.eval x)).toList) (by rw[wap];exact p1) (by rw[wap];exact p2) hZ;refine⟨v,cs,rfl,?_,c2⟩;unfold Program.built;simp only[i1,hu,i4,e1];exact c1
 ·cases hr
theorem zhy{α:Type}(n:Nat)(z:List α):(zev n z).length=n*z.length:=by
 induction n with
 |zero=>rw[show zev 0 z=[]from rfl];simp
 |succ n ih =>
  have:zev (n+1) z=z++zev n z:=rfl;rw[this,wc3,ih,we7];omega
theorem z8w{α:Type}:∀(n:Nat) (z:List α) (i:Nat),i<n*z.length→(zev n z)[i]?=z[i%z.length]?
 |0,z,i,h=>by simp at h
 |n+1,z,i,h=>by
  have:zev (n+1) z=z++zev n z:=rfl;rw[this,wci];have hz:0<z.length:=by rcases weo z.length with h0|h0;rw[h0]at h;omega;exact h0
  split
  ·rename_i hlt;rw[wew hlt]
  ·rename_i hge
   have e:=Nat.mod_eq_sub_mod (a:=i) (b:=z.length) (by omega);rw[z8w n z (i-z.length) (by rw[wef,Nat.one_mul]at h;omega),e]
theorem zuo{n m:Nat}{z:List AV}{Z:Array Value}(hz:RVs ρ z Z.toList)(hm:m=n*z.length):RVs ρ (zev n z) ((Array.range m).map (Z[· % Z.size]!)).toList:=by
 have hl:=hz.length;simp only[wah]at hl;refine RVs.of (by simp[zhy,hm]) fun i x hi=>?_
 have hlt:i<n*z.length:=by
  rcases weu i (n*z.length)with h|h
  ·exact h
  ·rw[wco (by rw[zhy];exact h)]at hi;cases hi
 rw[z8w n z i hlt]at hi;obtain⟨V,h1,h2⟩:=hz.at hi;refine⟨V,?_,h2⟩;have hpos:0<z.length:=by rcases weo z.length with h0|h0;rw[h0]at hlt;omega;exact h0
 have hmod:i%z.length<Z.size:=by rw[hl];exact wex _ hpos
 simp only[wap,Array.toList_range,wcq];rw[wcr (by omega)];simp only[wfn,hl];rw[←hl]at hmod;have h1':Z[i%z.length]?=some V:=by simpa using h1
 simp[←hl]at h1' hmod ⊢;rw[getElem!_pos Z _ hmod];exact(wad.1 h1').2
theorem z2f(h:Pre E P T ρ S w tm a){dst:Option Tmp}{ty:Nat}{pos:String}{after:Array Edge}{guard:Option (Nat×Bool)}{t len:Nat}{ps:Array (Nat×Operand)}{r:OpR}
  (hr:zm5 t len ps E P tm ⟨dst,.buildSlice t len ps,ty,pos,after,guard⟩ S=some r):zcz P T ρ S w a ⟨dst,.buildSlice t len ps,ty,pos,after,guard⟩ r:=by
 unfold zm5 zgt at hr;obtain⟨ti,hti,hr⟩:=zb hr;obtain⟨e,he,hr⟩:=zb hr;obtain⟨te,hte,hr⟩:=zb hr;obtain⟨z,hz,hr⟩:=zb hr;obtain⟨hzl,hr⟩:=zi hr;obtain⟨hmx,hr⟩:=zi hr;obtain⟨l,hl,hr⟩:=zb hr;obtain⟨v,hv,hr⟩:=zb hr;rw[St.alloc_eq]at hr;cases hr;intro _ hf;have hf':=zex hf;have ht:=zce (w:=w) (h.env.ty _ _ hti);rw[zbv he]at ht;have hs:=zc5 (w:=w) (h.env.ty _ _ hte);have hzl:=wem hzl;have hmx:len*te.size≤65536:=wep hmx;obtain⟨Z,z1,z2⟩:=zk3 (h.env.ty _ _ hte) hz ρ w;obtain⟨p1,p2⟩:=zs9 h hl;have hZl:=z2.length;simp only[wah]at hZl
 by_cases h0:len*te.size=0
 ·have hr0:RVs ρ (zev len z) ((Array.range (len*te.size)).map ((#[]:Array Value)[· % (#[]:Array Value).size]!)).toList:=by
   have:zev len z=[]:=wc6.1 (by rw[zhy,hzl,h0]);rw[this,h0];have e0:((Array.range 0).map ((#[]:Array Value)[· % (#[]:Array Value).size]!)).toList=[]:=by simp
   rw[e0];rfl
  obtain⟨cs,c1,c2⟩:=zn7 (place:=fun i=>some (i*te.size,te.size)) (fun i=>rfl) hv (vs:=(ps.map fun(i,x)=>(i,a.eval x)).toList) (by rw[wap];exact p1) (by rw[wap];exact p2) hr0;refine⟨.slice (some ⟨w.heap.size,0,none⟩) len len,_,_,.inl ?_,zs7 h.fit e c2 hf',⟨_,0,zbb _ _ _,rfl,weq _,.inr rfl⟩⟩;simp only[h0]at c1;simp[execOp,Instr.buildSlice,ht,hs,h0,newRow,newObj];simp at c1;simp[c1,Sem.run]
 ·have hr1:RVs ρ (zev len z) ((Array.range (len*te.size)).map (Z.cells[· % Z.cells.size]!)).toList:=zuo z2 (by rw[hzl])
  obtain⟨cs,c1,c2⟩:=zn7 (place:=fun i=>some (i*te.size,te.size)) (fun i=>rfl) hv (vs:=(ps.map fun(i,x)=>(i,a.eval x)).toList) (by rw[wap];exact p1) (by rw[wap];exact p2) hr1;refine⟨.slice (some ⟨w.heap.size,0,none⟩) len len,_,_,.inl ?_,zs7 h.fit e c2 hf',⟨_,0,zbb _ _ _,rfl,weq _,.inr rfl⟩⟩;have hgt:¬len*te.size>2^24:=by omega
  have hgt':¬16777216<len*te.size:=by omega
  simp[execOp,Instr.buildSlice,ht,hs,hgt',newRow,newObj];rw[if_neg (by simpa using h0)];simp[z1];simp at c1;simp[c1,Sem.run]
end
section
variable{E:Env}{P:Program}{T:Nat→Prop}{ρ:Rho}{S:St}{w:World}{tm:Tm}{a:Act}
section
variable{dst:Option Tmp}{ty:Nat}{pos:String}{after:Array Edge}{guard:Option (Nat×Bool)}
theorem z8x (h:Pre E P T ρ S w tm a){x:Operand}{r:OpR}(hr:zkr S (opd tm x)=some r):zcz P T ρ S w a ⟨dst,.move x,ty,pos,after,guard⟩ r∧zcz P T ρ S w a ⟨dst,.assign x,ty,pos,after,guard⟩ r:=by
 unfold zkr at hr;obtain⟨v,hv,hr⟩:=zb hr;cases hr;exact⟨fun _ _=>zbc h (V:=a.eval x) (by simp[execOp]) (zah h hv),fun _ _=>zbc h (V:=a.eval x) (by simp[execOp]) (zah h hv)⟩
theorem zaiy(h:Pre E P T ρ S w tm a){c x y:Operand}{r:OpR}(hr:zue c x y E P tm ⟨dst,.pick c x y,ty,pos,after,guard⟩ S=some r):zcz P T ρ S w a ⟨dst,.pick c x y,ty,pos,after,guard⟩ r:=by
 unfold zue at hr;obtain⟨u,hu,hr⟩:=zb hr;obtain⟨b,hb,hr⟩:=zb hr;unfold zkr at hr;obtain⟨v,hv,hr⟩:=zb hr;cases hr;have ru:=zah h hu;rw[z5n hb]at ru;have hX:a.eval c=.bool b:=ru;intro _ _;rw[zar]at hv;cases b with
 |true=>exact zbc h (V:=a.eval x) (by simp[execOp,hX,asBool]) (zah h (by simpa using hv))
 |false=>exact zbc h (V:=a.eval y) (by simp[execOp,hX,asBool]) (zah h (by simpa using hv))
theorem z7b(h:Pre E P T ρ S w tm a){x:Operand}{r:OpR}(hr:zz2 x E P tm ⟨dst,.nilCheck x,ty,pos,after,guard⟩ S=some r):zcz P T ρ S w a ⟨dst,.nilCheck x,ty,pos,after,guard⟩ r:=by
 unfold zz2 at hr;obtain⟨v,hv,hr⟩:=zb hr;obtain⟨h1,hr⟩:=zi hr;cases hr;intro _ _;have rv:=zah h hv;refine zbc h (V:=a.eval x) ?_ rv;cases v<;>first|(cases h1;done)|skip
 ·obtain⟨L,_,hX⟩:=rv;simp[execOp,hX]
 ·obtain⟨L,o',_,hX,_⟩:=rv;simp[execOp,hX]
 ·obtain⟨L,o',c,_,hX,_⟩:=rv;simp[execOp,hX]
 ·obtain⟨L,_,hX⟩:=rv;simp[execOp,hX]
 ·obtain⟨as,bs,hX,_⟩:=rv;simp[execOp,hX]
 ·obtain⟨L,_,hX⟩:=rv;simp[execOp,hX]
theorem zalr(h:Pre E P T ρ S w tm a){op:UnOp}{t:Nat}{x:Operand}{r:OpR}(hr:oUn op t x E P tm ⟨dst,.unOp op t x,ty,pos,after,guard⟩ S=some r):zcz P T ρ S w a ⟨dst,.unOp op t x,ty,pos,after,guard⟩ r:=by
 unfold oUn at hr;obtain⟨u,hu,hr⟩:=zb hr
 rcases zcm hr with hr|hr
 ·unfold zkr at hr
  obtain⟨v,hv,hr⟩:=zb hr;cases hr;intro _ _;unfold zahp at hv
  split at hv
  ·obtain⟨b,hb,hv⟩:=zb hv
   have ru:=zah h hu;rw[z5n hb]at ru;have hX:a.eval x=.bool b:=ru;rw[zs5 hv];exact zbc h (V:=.bool !b) (by simp[execOp,hX,Op.unary]) rfl
  ·cases hv
 ·exact pure_ok h hr
theorem z7c(h:Pre E P T ρ S w tm a){f:Fn}{fs cs:Array Operand}{r:OpR}(hr:zil f fs cs E P tm ⟨dst,.makeFunc f fs cs,ty,pos,after,guard⟩ S=some r):zcz P T ρ S w a ⟨dst,.makeFunc f fs cs,ty,pos,after,guard⟩ r:=by
 unfold zil at hr;obtain⟨n,hn,hr⟩:=zb hr;obtain⟨l1,h1,hr⟩:=zb hr;obtain⟨l2,h2,hr⟩:=zb hr;cases hr;intro _ _;have ef:f=.func n:=by
  unfold fnOf at hn
  split at hn
  ·cases hn;rfl
  ·cases hn
 subst ef;exact zbc h (V:=.func (.func n) (fs.map a.eval) (cs.map a.eval)) (by simp[execOp,Instr.makeFunc]) ⟨_,_,rfl,by simpa using zun h h1,by simpa using zun h h2⟩
theorem zaaz(h:Pre E P T ρ S w tm a){x:Operand}{i:Nat}{r:OpR}(hr:zjp x i E P tm ⟨dst,.extract x i,ty,pos,after,guard⟩ S=some r):zcz P T ρ S w a ⟨dst,.extract x i,ty,pos,after,guard⟩ r:=by
 unfold zjp at hr;obtain⟨u,hu,hr⟩:=zb hr;unfold zkr at hr;obtain⟨v,hv,hr⟩:=zb hr;cases hr;intro _ _;unfold z1e at hv;obtain⟨l,hl,hv⟩:=zb hv;have ru:=zah h hu;rw[zadg hl]at ru;obtain⟨vs,hX,hvs⟩:=ru;rw[zcy]at hv;obtain⟨V,h1,h2⟩:=hvs.at hv;have h1':vs[i]?=some V:=by simpa using h1
 exact zbc h (V:=V) (by simp[execOp,hX,Instr.extract,h1']) h2
theorem z8y(h:Fit ρ S T w)(hf:ρ S.next=none):Stp ρ S T w (zhr ρ S.next ⟨w.heap.size,0,0,fun _=>true⟩) (S.alloced (.map [] 0)) { w with heap:=w.heap.push (.map #[] 0) } :=
 zfe h hf rfl ⟨#[],rfl,rfl⟩
theorem zaa0(h:Pre E P T ρ S w tm a){t:Nat}{x:Option Operand}{r:OpR}(hr:zjo t x E P tm ⟨dst,.makeMap t x,ty,pos,after,guard⟩ S=some r):zcz P T ρ S w a ⟨dst,.makeMap t x,ty,pos,after,guard⟩ r:=by
 unfold zjo at hr;cases x with
 |none =>
  have hr':(S.alloc (.map [] 0) fun n S=>some (OpR.val (.map n) S))=some r:=hr;rw[St.alloc_eq]at hr';cases hr';intro _ hf;exact⟨.map (some w.heap.size),_,_,.inl (by simp[execOp,Instr.makeMap,newObj,Sem.run]),z8y h.fit (zex hf),⟨_,zbb _ _ _,rfl⟩⟩
 |some x =>
  obtain⟨ke,hm,hr⟩:=zb hr;obtain⟨v,hv,hr⟩:=zb hr;obtain⟨n,hn,hr⟩:=zb hr;rw[St.alloc_eq]at hr;cases hr;intro _ hf;unfold zh4 at hm;obtain⟨ti,hti,hm⟩:=zb hm;have ht:=zce (w:=w) (h.env.ty _ _ hti)
  split at hm
  ·rename_i k e hd
   rw[hd]at ht;obtain⟨kk,hk⟩:=zel hn;have rv:=zah h hv;rw[hk]at rv;have hX:a.eval x=.int kk n:=rv;exact⟨.map (some w.heap.size),_,_,.inl (by simp[execOp,Instr.makeMap,ht,hX,asInt,asIntOf,newObj,Sem.run]),z8y h.fit (zex hf),⟨_,zbb _ _ _,rfl⟩⟩
  ·cases hm
theorem z5s(h:Pre E P T ρ S w tm a){t:Nat}{x y:Operand}{r:OpR}(hr:zhe t x y E P tm ⟨dst,.makeSlice t x y,ty,pos,after,guard⟩ S=some r):zcz P T ρ S w a ⟨dst,.makeSlice t x y,ty,pos,after,guard⟩ r:=by
 unfold zhe at hr;obtain⟨u,hu,hr⟩:=zb hr;obtain⟨v,hv,hr⟩:=zb hr;unfold zvg at hr;obtain⟨l,hl,hr⟩:=zb hr;obtain⟨c,hc,hr⟩:=zb hr;obtain⟨ti,hti,hr⟩:=zb hr;obtain⟨e,he,hr⟩:=zb hr;obtain⟨te,hte,hr⟩:=zb hr;obtain⟨z,hz,hr⟩:=zb hr;obtain⟨h1,hr⟩:=zi hr;obtain⟨h2,hr⟩:=zi hr;obtain⟨h2b,hr⟩:=zi hr;obtain⟨h3,hr⟩:=zi hr;simp only[St.alloc_eq,zba]at hr;cases hr;intro _ hf;have hf':=zex hf;have h1:l≤c:=wep h1;have h2:c≤65536:=wep h2;have h2b:te.bytes≤65536:=wep h2b;have h3:=wem h3;have ht:=zce (w:=w) (h.env.ty _ _ hti);rw[zbv he]at ht;have hte':=h.env.ty _ _ hte;have hs:=zc5 (w:=w) hte';obtain⟨i,i1,i2,i3⟩:=hte'.info;have hb:=hte'.bytes i i1;have hti2:(typeInfo e).run P w=.ok i w:=by simp[typeInfo,program,Sem.run,i1]
 obtain⟨k1,e1⟩:=zel hl;obtain⟨k2,e2⟩:=zel hc;have ru:=zah h hu;have rv:=zah h hv;rw[e1]at ru;rw[e2]at rv;have hX:a.eval x=.int k1 l:=ru;have hY:a.eval y=.int k2 c:=rv;obtain⟨Z,z1,z2⟩:=zk3 hte' hz ρ w;have w1:IntKind.i64.wrap (l:Int)=l:=wbh _ (by omega);have w2:IntKind.i64.wrap (c:Int)=c:=wbh _ (by omega);have hmul:i.bytes*c≤4294967296:=by rw[hb];exact wez h2b h2
 have hmul2:c*i.bytes≤4294967296:=by rw[Nat.mul_comm];exact hmul
 have hmul3:(i.bytes:Int)*(c:Int)≤4294967296:=by rw[←wbd];exact Int.ofNat_le.2 hmul
 have hcells:∀(zc:Array Value),(c*te.size=0→zc=#[])→(c*te.size≠0→zc=Z.cells)→RVs ρ (zev c z) ((Array.range (c*te.size)).map (zc[· % zc.size]!)).toList:=fun zc q1 q2=>by
  by_cases h0:c*te.size=0
  ·have:zev c z=[]:=wc6.1 (by rw[zhy,h3,h0])
   have e0:((Array.range (c*te.size)).map (zc[· % zc.size]!)).toList=[]:=by rw[h0];simp
   rw[this,e0];rfl
  ·rw[q2 h0];exact zuo z2 (by rw[h3])
 have room:¬c*i.bytes>roomBytes:=by unfold roomBytes;omega
 obtain⟨zc,hz1,hz2⟩:∃zc:Array Value,(c*te.size=0→zc=#[])∧(c*te.size≠0→zc=Z.cells):=by
  by_cases h0:c*te.size=0
  ·exact⟨#[],fun _=>rfl,fun q=>absurd h0 q⟩
  ·exact⟨Z.cells,fun q=>absurd q h0,fun _=>rfl⟩
 refine⟨.slice (some ⟨w.heap.size,0,none⟩) l c,_,_,.inl ?_,zs7 h.fit e (hcells zc hz1 hz2) hf',⟨_,0,zbb _ _ _,rfl,h1,.inr rfl⟩⟩;have p48:(2:Int)^48=281474976710656:=rfl;have t1:(decide ((c:Int)<0)||decide ((i.bytes:Int)*c>281474976710656))=false:=Bool.or_eq_false_iff.2 ⟨decide_eq_false (by omega),decide_eq_false (by omega)⟩;have t2:decide ((l:Int)<0)=false:=decide_eq_false (by omega);have t3:decide ((l:Int)>c)=false:=decide_eq_false (by omega);have room':(askRoom (c*i.bytes)).run P w=.ok () w:=by unfold askRoom;rw[if_neg room];rfl
 simp only[execOp,Instr.makeSlice,wfr,ht,hX,hY,asInt,asIntOf,wfq,wfs,hti2,w1,w2,p48,t1,t2,t3,Bool.or_false,waz,if_false,wbg,room',hs]
 by_cases h0:c*te.size=0
 ·rw[hz1 h0,h0]
  simp[newRow,newObj,Sem.run]
 ·rw[hz2 h0,if_neg h0]
  simp only[wfr,z1,wfq,wfs];simp[newRow,newObj,Sem.run]
end
end
theorem zaiz(v:AV)(k:AV→Option OpR):fcSl v k=k v:=by
 cases v<;>simp only[fcSl,zba]
theorem zin(S:St)(v:AV):zlt S v=some (.val v S):=zaiz v _
def BO(X:Option Value)(d y i:Nat):Prop:=(X=none∧i=d)∨∃k,X=some (.int k i)∧i≤y
section
variable{E:Env}{P:Program}{T:Nat→Prop}{ρ:Rho}{S:St}{w:World}{tm:Tm}{a:Act}
theorem z2g{k:IntKind}{i y:Nat}(c:BoundsCode)(h:i≤y):(Instr.sliceBound (.int k i) y c).run P w=.ok i w:=by
 have h':(i:Int)≤y:=by omega
 simp[Instr.sliceBound,asIntOf,h']
theorem zadm{b:Bool}{len cap l h m:Nat}{lo hi mx:Option Value}(hm:BO mx cap cap m)(hh:BO hi len m h)(hl:BO lo 0 h l)(hhm:mx.isSome=true→hi.isSome=true) :
  (Instr.sliceBounds b len cap lo hi mx).run P w=.ok (l,h,m) w:=by
 rcases hm with⟨rfl,rfl⟩|⟨k1,rfl,h1⟩<;>rcases hh with⟨rfl,rfl⟩|⟨k2,rfl,h2⟩<;>rcases hl with⟨rfl,rfl⟩|⟨k3,rfl,h3⟩ <;>
  first
   |(simp at hhm;done)
   |simp[Instr.sliceBounds, *,z2g]
theorem zaa1(h:Pre E P T ρ S w tm a){x:Option Operand}{v:Option AV}(hx:zzx tm x=some v){d y i:Nat}(hb:zdx v d=some i)(hy:v≠none→i≤y):BO (x.map a.eval) d y i∧((x.map a.eval).isSome = !isNone v):=by
 cases x with
 |none =>
  have hx':some none=some v:=hx;cases hx';cases hb;exact⟨.inl ⟨rfl,rfl⟩,rfl⟩
 |some x =>
  have hx':bnd (opd tm x) (fun a=>some (some a))=some v:=hx;obtain⟨u,hu,hx'⟩:=zb hx';cases hx';have hb':zi6 u=some i:=hb;obtain⟨k,hk⟩:=zel hb';have ru:=zah h hu;rw[hk]at ru;have hX:a.eval x=.int k i:=ru;exact⟨.inr ⟨k,by simp[hX],hy (by simp)⟩,rfl⟩
theorem zai0{hi mx:Option AV}{HI MX:Option Value}(h:zwi hi mx=true)(h1:HI.isSome = !isNone hi)(h2:MX.isSome = !isNone mx):MX.isSome=true→HI.isSome=true:=by
 unfold zwi at h;rw[zar]at h;intro hm;rw[hm]at h2;cases hmx:isNone mx with
 |true=>rw[hmx]at h2;cases h2
 |false =>
  rw[hmx]at h;rw[h1];simpa using h
theorem zup{n off l h m sz:Nat}{L:Loc}{o' cap:Nat}(hL:ρ n=some L)(ho:cap=0∨o'=L.s+off)(hlh:l≤h)(hhm:h≤m)(hm:m≤cap) :
  RV ρ (slAt n off l h m sz) (.slice (some (if m=l then (⟨L.b,o',none⟩:Addr)else (⟨L.b,o',none⟩:Addr).add (l*sz))) (h-l) (m-l)):=by
 unfold slAt;rw[zar]
 by_cases e:m=l
 ·have e':Nat.beq m l=true:=by rw[e];simp
  rw[if_pos e',if_pos e];have h1:Nat.sub h l=0:=by show h-l=0;omega
  have h2:Nat.sub m l=0:=by show m-l=0;omega
  have h3:h-l=0:=h1;have h4:m-l=0:=h2;rw[h1,h2,h3,h4];exact⟨L,o',hL,rfl,weq _,.inl rfl⟩
 ·have e':¬Nat.beq m l=true:=fun q=>e (wem q)
  rw[if_neg e',if_neg e,zem];refine⟨L,o'+l*sz,hL,rfl,by show h-l≤m-l;omega,.inr ?_⟩
  rcases ho with ho|ho
  ·omega
  ·rw[ho];show L.s+off+l*sz=L.s+(off+l*sz);omega
theorem zhz{n off len cap sz:Nat}{lo hi mx:Option AV}{r:OpR}(hr:zft S n off len cap sz lo hi mx=some r):∃l h m,zdx mx cap=some m∧zdx hi len=some h∧zdx lo 0=some l∧zwi hi mx=true∧m≤cap∧h≤m∧l≤h∧r=.val (slAt n off l h m sz) S:=by
 unfold zft at hr;obtain⟨m,h1,hr⟩:=zb hr;obtain⟨h,h2,hr⟩:=zb hr;obtain⟨l,h3,hr⟩:=zb hr;obtain⟨h4,hr⟩:=zi hr;obtain⟨h5,hr⟩:=zi hr;obtain⟨h6,hr⟩:=zi hr;obtain⟨h7,hr⟩:=zi hr;rw[zin]at hr;cases hr;exact⟨l,h,m,h1,h2,h3,h4,wep h5,wep h6,wep h7,rfl⟩
theorem zage(h:Pre E P T ρ S w tm a){dst:Option Tmp}{ty:Nat}{pos:String}{after:Array Edge}{guard:Option (Nat×Bool)}{t:Nat}{x:Operand}{lo hi mx:Option Operand}{r:OpR}
  (hr:znv t x lo hi mx E P tm ⟨dst,.slice t x lo hi mx,ty,pos,after,guard⟩ S=some r):zcz P T ρ S w a ⟨dst,.slice t x lo hi mx,ty,pos,after,guard⟩ r:=by
 unfold znv at hr;obtain⟨u,hu,hr⟩:=zb hr;obtain⟨vl,hvl,hr⟩:=zb hr;obtain⟨vh,hvh,hr⟩:=zb hr;obtain⟨vm,hvm,hr⟩:=zb hr
 rcases zcm hr with hr|hr
 case inr=>exact pure_ok h hr
 unfold zub at hr;obtain⟨ti,hti,hr⟩:=zb hr;have ht:=zce (w:=w) (h.env.ty _ _ hti);have ru:=zah h hu;have bounds:∀(b:Bool) (len cap C l q m:Nat),zdx vm C=some m→zdx vh len=some q→zdx vl 0=some l→zwi vh vm=true→(vm≠none→m≤C)→(vh≠none→q≤m)→l≤q→C=cap →
   (Instr.sliceBounds b len cap (lo.map a.eval) (hi.map a.eval) (mx.map a.eval)).run P w=.ok (l,q,m) w:=fun b len cap C l q m b1 b2 b3 b4 b5 b6 b7 b8=>by
  subst b8;obtain⟨c1,d1⟩:=zaa1 h hvm b1 b5;obtain⟨c2,d2⟩:=zaa1 h hvh b2 b6;obtain⟨c3,d3⟩:=zaa1 h hvl b3 (fun _=>b7);exact zadm c1 c2 c3 (zai0 b4 d2 d1)
 split at hr
 ·rename_i e hd
  rw[hd]at ht;obtain⟨te,hte,hr⟩:=zb hr;have hs:=zc5 (w:=w) (h.env.ty _ _ hte);clear hti;cases u with
  |nils =>
   have hr:(bnd (zdx vm 0) fun m=>bnd (zdx vh 0) fun h=>bnd (zdx vl 0) fun l=>zu (zwi vh vm) (zu (Nat.beq m 0) (zu (Nat.beq h 0) (zu (Nat.beq l 0) (some (OpR.val .nils S)) none) none) none) none)=some r:=hr;obtain⟨m,b1,hr⟩:=zb hr;obtain⟨q,b2,hr⟩:=zb hr;obtain⟨l,b3,hr⟩:=zb hr;obtain⟨b4,hr⟩:=zi hr;obtain⟨c1,hr⟩:=zi hr;obtain⟨c2,hr⟩:=zi hr;obtain⟨c3,hr⟩:=zi hr;cases hr;have c1:=wem c1;have c2:=wem c2;have c3:=wem c3;subst c1;subst c2;subst c3;intro _ _;have hX:a.eval x=.slice none 0 0:=ru;have hb:=bounds true 0 0 0 0 0 0 b1 b2 b3 b4 (fun _=>weq _) (fun _=>weq _) (weq _) rfl;exact zbc h (V:=.slice none 0 0) (by simp[execOp,Instr.sliceAt,Instr.slice,ht,hX,hb,hs]) rfl
  |sl n off len cap =>
   have hr:zft S n off len cap te.size vl vh vm=some r:=hr;obtain ⟨l,q,m,b1,b2,b3,b4,b5,b6,b7,e1⟩:=zhz hr;rw [e1];intro _ _;obtain ⟨L,o',hL,hX,hc,ho⟩:=ru;have hb:=bounds true len cap cap l q m b1 b2 b3 b4 (fun _=>b5) (fun _=>b6) b7 rfl;exact zbc h (V:=.slice (some (if m=l then (⟨L.b,o',none⟩:Addr) else (⟨L.b,o',none⟩:Addr).add (l * te.size))) (q - l) (m - l)) (by
    simp only[execOp,Instr.sliceAt,Instr.slice,ht,hX,hb,hs,wfr,wfq,wfs]
    congr 3
    split<;>rfl) (zup hL ho b7 b6 b5)
  |slo n off len sz' =>
   have hr:zu (Nat.beq te.size sz') (zu (Nat.ble 1 te.size) (zu (isNone vm) (zke S n off len te.size vl vh) (zft S n off len len te.size vl vh vm)) none) none=some r:=hr;obtain⟨hsz,hr⟩:=zi hr;obtain⟨hsz1,hr9⟩:=zi hr;have hsz:=wem hsz;have hsz1:1≤te.size:=wep hsz1;rw[←hsz]at ru;clear hr hsz;obtain⟨L,o',cap,hL,hX,hc,hk,ho⟩:=ru;rw[zar]at hr9
   by_cases hmn:isNone vm=true
   ·rw[if_pos hmn]at hr9
    have hmn:=zadh hmn;subst hmn;have hr:zke S n off len te.size vl vh=some r:=hr9;unfold zke at hr;obtain⟨q,b2,hr⟩:=zb hr;obtain⟨l,b3,hr⟩:=zb hr;obtain⟨b7,hr⟩:=zi hr;have b7:l≤q:=wep b7;have fin:∀S',q≤cap→r=.val (.slo n (Nat.add off (Nat.mul l te.size)) (Nat.sub q l) te.size) S'→Stp ρ S T w ρ S' w→z3l P T ρ S w a ⟨dst,.slice t x lo hi mx,ty,pos,after,guard⟩ (.slo n (Nat.add off (Nat.mul l te.size)) (Nat.sub q l) te.size) S':=fun S' hq _ hst=>by
     have hb:=bounds true len cap cap l q cap rfl b2 b3 rfl (fun _=>weq _) (fun _=>hq) b7 rfl;refine ⟨.slice (some (if cap=l then (⟨L.b,o',none⟩:Addr) else (⟨L.b,o',none⟩:Addr).add (l * te.size))) (q - l) (cap - l),w,ρ,.inl (by
      simp only[execOp,Instr.sliceAt,Instr.slice,ht,hX,hb,hs,wfr,wfq,wfs]
      congr 3
      split<;>rfl),hst,?_⟩
     have hmul:l*te.size+(cap-l)*te.size=cap*te.size:=by rw[←wef];congr 1;omega
     by_cases e:cap=l
     ·rw[if_pos e]
      exact⟨L,o',cap-l,hL,rfl,by show q-l≤cap-l;omega,by show off+l*te.size+(cap-l)*te.size=L.k;omega,.inl (by omega)⟩
     ·rw[if_neg e,zem]
      refine⟨L,o'+l*te.size,cap-l,hL,rfl,by show q-l≤cap-l;omega,by show off+l*te.size+(cap-l)*te.size=L.k;omega,.inr ?_⟩
      rcases ho with ho|ho
      ·omega
      ·rw[ho];show L.s+off+l*te.size=L.s+(off+l*te.size);omega
    rw[zar]at hr
    split at hr
    ·rename_i hql
     have hql:q≤len:=wep hql;rw[zin]at hr;cases hr;intro _ _;exact fin S (by omega) rfl (.refl h.fit)
    ·obtain⟨o,g1,hr⟩:=zb hr
     obtain⟨c,g2,hr⟩:=zb hr;obtain⟨g3,hr⟩:=zi hr;rw[St.touch_eq,zin]at hr;cases hr;intro hT _;have g3:q≤(c.length-off) / te.size:=wep g3;obtain⟨L',e1,e2⟩:=h.fit.obj n o (hT n (zj.2 (.inr (zz.2 rfl)))) g1;rw[hL]at e1;cases e1;rw[zdg g2]at e2;obtain⟨cc,ee,_,_,q3,_⟩:=e2;have hq2:q*te.size≤c.length-off:=(Nat.le_div_iff_mul_le (by omega)).1 g3;have hq3:q*te.size≤cap*te.size:=by omega
     exact fin _ (Nat.le_of_mul_le_mul_right hq3 (by omega)) rfl (zbk h.fit n)
   ·rw[if_neg hmn]at hr9
    obtain⟨l,q,m,b1,b2,b3,b4,b5,b6,b7,e1⟩:=zhz hr9;rw[e1];intro _ _;have hb1:zdx vm cap=some m:=by
     cases vm with
     |none=>exact absurd rfl hmn
     |some v=>exact b1
    have hb:=bounds true len cap cap l q m hb1 b2 b3 b4 (fun _=>by omega) (fun _=>b6) b7 rfl;exact zbc h (V:=.slice (some (if m=l then (⟨L.b,o',none⟩:Addr) else (⟨L.b,o',none⟩:Addr).add (l * te.size))) (q - l) (m - l)) (by
     simp only[execOp,Instr.sliceAt,Instr.slice,ht,hX,hb,hs,wfr,wfq,wfs]
     congr 3
     split<;>rfl) (zup hL ho b7 b6 (by omega))
  |_=>cases hr
 ·rename_i n e hd
  rw [hd] at ht;obtain ⟨te,hte,hr⟩:=zb hr;obtain ⟨p,hp,hr⟩:=zb hr;have hs:=zc5 (w:=w) (h.env.ty _ _ hte);obtain ⟨l,q,m,b1,b2,b3,b4,b5,b6,b7,e1⟩:=zhz hr;rw [e1];intro _ _;rw [zek hp] at ru;obtain ⟨L,hL,hX⟩:=ru;have hb:=bounds false n n n l q m b1 b2 b3 b4 (fun _=>b5) (fun _=>b6) b7 rfl;exact zbc h (V:=.slice (some (if m=l then (⟨L.b,L.s+p.2,none⟩:Addr) else (⟨L.b,L.s+p.2,none⟩:Addr).add (l * te.size))) (q - l) (m - l)) (by
   simp[execOp,Instr.sliceAt,ht,hX,hb,hs,Instr.sureAddr]) (zup hL (.inr rfl) b7 b6 b5)
 ·rename_i e hd
  rw [hd] at ht;obtain ⟨ta,hta,hr⟩:=zb hr;obtain ⟨ne,hne,hr⟩:=zb hr;obtain ⟨te,hte,hr⟩:=zb hr;obtain ⟨p,hp,hr⟩:=zb hr;have hs:=zc5 (w:=w) (h.env.ty _ _ hte);have ht2:=zce (w:=w) (h.env.ty _ _ hta);rw [zhx hne] at ht2;obtain ⟨l,q,m,b1,b2,b3,b4,b5,b6,b7,e1⟩:=zhz hr;rw [e1];intro _ _;rw [zek hp] at ru;obtain ⟨L,hL,hX⟩:=ru;have hb:=bounds false ne.1 ne.1 ne.1 l q m b1 b2 b3 b4 (fun _=>b5) (fun _=>b6) b7 rfl;exact zbc h (V:=.slice (some (if m=l then (⟨L.b,L.s+p.2,none⟩:Addr) else (⟨L.b,L.s+p.2,none⟩:Addr).add (l * te.size))) (q - l) (m - l)) (by
   simp[execOp,Instr.sliceAt,Instr.slice,ht,ht2,hX,hb,hs,asAddr]) (zup hL (.inr rfl) b7 b6 b5)
 ·cases hr
end
section
variable{E:Env}{P:Program}{T:Nat→Prop}{ρ:Rho}{S:St}{w:World}{tm:Tm}{a:Act}
theorem z8z{v:AV}{V:Value}{n:Nat}(hv:RV ρ v V)(h:lenA v=some n)(w':World):(Builtin.lenOf V).run P w'=.ok n w':=by
 cases v<;>first|(cases h;done)|skip
 ·cases h;have e:V=_:=hv;subst e;rfl
 ·cases h;have e:V=_:=hv;subst e;rfl
 ·cases h;obtain⟨L,o',_,e,_⟩:=hv;subst e;rfl
 ·cases h;obtain⟨L,o',c,_,e,_⟩:=hv;subst e;rfl
theorem z1j(h:Fit ρ S T w){v:AV}{V:Value}(hv:RV ρ v V){sz k:Nat}{β:Type}{f:List AV→St→Option β}{r:β}(hr:zxx S sz k v f=some r):∃new S',f new S'=some r∧Lcl S S'∧S'.next=S.next∧new.length=k*sz ∧
  ((∀n,bit S'.t n→T n)→Stp ρ S T w ρ S' w∧∃vs:List Value,RVs ρ new vs∧∀w',w'.heap=w.heap→(Builtin.firstCells sz k V).run P w'=.ok vs.toArray w'):=by
 have row:∀n off len cap L o',RV ρ v V→ρ n=some L→V=.slice (some ⟨L.b,o',none⟩) len cap→len≤cap→(cap=0∨o'=L.s+off)→k≤len→rdN S n off (Nat.mul k sz) f=some r→∃new S',f new S'=some r∧Lcl S S'∧S'.next=S.next∧new.length=k*sz ∧
   ((∀n,bit S'.t n→T n)→Stp ρ S T w ρ S' w∧∃vs:List Value,RVs ρ new vs∧∀w',w'.heap=w.heap→(Builtin.firstCells sz k V).run P w'=.ok vs.toArray w'):=fun n off len cap L o' _ hL hX hc ho hk hr=>by
  obtain ⟨x,h1,h2,h3⟩:=zn4 h hr;refine ⟨x,_,h2,zay S n,rfl,h1,fun hT=>⟨zbk h n,?_⟩⟩;obtain ⟨L',hL',vs,k1,k2,k3⟩:=h3 (hT n (zj.2 (.inr (zz.2 rfl))));rw [hL] at hL';cases hL';refine ⟨vs,k2,fun w' hw=>?_⟩;have k4:=k3 o' (by
   rcases ho with ho|ho
   ·left;have:k=0:=by omega
    subst this;exact wfe _
   ·exact .inr ho)
  have:=run_loadCells_list (P:=P) w' (⟨L.b,o',none⟩:Addr) vs (fun j u hj=>by rw[←k4 j u hj];simp[World.cell?,hw]);rw[k1]at this;rw[hX];exact this
 cases v<;>first|(cases hr;done)|skip
 case str s =>
  obtain⟨h1,hr⟩:=zi hr;obtain⟨h2,hr9⟩:=zi hr;have h1:=wem h1;have h2:k≤s.size:=wep h2;subst h1;have e:V=.string s:=hv;subst e;refine⟨_,S,hr9,.refl S,rfl,?_,fun _=>⟨.refl h,(s.extract 0 k).data.toList.map fun b=>.int .u8 b.toNat,RVs.of (by simp) fun i x hi=>?_,fun w' _=>?_⟩⟩
  ·simp only[wc8,wah,Nat.mul_one]
   have:(s.extract 0 k).data.size=(s.extract 0 k).size:=rfl;rw[this];simp;omega
  ·rw[wcq]at hi ⊢
   cases hb:(s.extract 0 k).data.toList[i]? with
   |none=>rw[hb]at hi;cases hi
   |some b=>rw[hb]at hi;simp at hi;subst hi;exact⟨_,rfl,rfl⟩
  ·simp[Builtin.firstCells]
   apply Array.ext';simp
 case nils =>
  obtain⟨h1,hr9⟩:=zi hr;have h1:=wem h1;subst h1;have e:V=_:=hv;subst e;exact⟨[],S,hr9,.refl S,rfl,by simp,fun _=>⟨.refl h,[],rfl,fun w' _=>rfl⟩⟩
 case sl n off len cap =>
  obtain⟨h1,hr⟩:=zi hr;obtain⟨L,o',hL,hX,hc,ho⟩:=hv;exact row n off len cap L o' ⟨L,o',hL,hX,hc,ho⟩ hL hX hc ho (wep h1) hr
 case slo n off len sz' =>
  obtain⟨h1,hr⟩:=zi hr;obtain⟨L,o',cap,hL,hX,hc,hk,ho⟩:=hv;exact row n off len cap L o' ⟨L,o',cap,hL,hX,hc,hk,ho⟩ hL hX hc ho (wep h1) hr
def zaa2(P:Program)(t1 e size:Nat)(X:Value)(k:Nat)(vs:List Value)(w:World):Prop :=
 ((∃d,P.underlying t1=some d∧zxy d=false)∧(∀w',(Builtin.lenOf X).run P w'=.ok k w')∧∀w',w'.heap=w.heap→(Builtin.firstCells size k X).run P w'=.ok vs.toArray w') ∨
 ((∃kk,P.underlying t1=some (.int kk))∧(∃k2,X=.int k2 k)∧k≤65536∧(∃i,P.info? e=some i∧i.bytes≤65536)∧∃Z,(∀w',(zeroValue e).run P w'=.ok Z w')∧vs=(Builtin.zeroCells Z.cells k).toList∧(k*size=0→vs=[]))
theorem zrb{t0 t1 ty e:Nat}{te:TI}(ht:P.underlying t0=some (.slice e))(hte:zm6 P e te){X:Value}{k:Nat}{vs:List Value}(hx:zaa2 P t1 e te.size X k vs w){base:Option Addr}{len cap:Nat}(hroom:len+k≤cap) :
  (Builtin.append_ #[t0,t1] ty #[.slice base len cap,X]).run P w=((match base with|some a=>storeCells (a.add (len*te.size)) vs|none=>pure ()).run P w).andThen fun _ w'=>.ok (.slice base (len+k) cap) w':=by
 have hs:=zc5 (w:=w) hte;have hu:(underlying t0).run P w=.ok (.slice e) w:=by simp[underlying,program,Sem.run,ht]
 rcases hx with⟨⟨d,hd,hi⟩,hl,hc⟩|⟨⟨kk,hd⟩,⟨k2,rfl⟩,hk,⟨i,hi,hb⟩,Z,hz,hvs,hv0⟩
 ·have hu1:(underlying t1).run P w=.ok d w:=by simp[underlying,program,Sem.run,hd]
  have hc':=hc w rfl;cases d<;>first|(cases hi;done)|(cases base<;>simp[Builtin.append_,hu,hu1,hs,hl,hroom,hc',Result.andThen])
 ·have hu1:(underlying t1).run P w=.ok (.int kk) w:=by simp[underlying,program,Sem.run,hd]
  have w1:IntKind.i64.wrap (k:Int)=k:=wbh _ (by omega);have ti:(typeInfo e).run P w=.ok i w:=by simp[typeInfo,program,Sem.run,hi]
  have n1:¬((k:Int)<0):=by omega
  have m1:k*i.bytes≤4294967296:=wez hk hb;have p48:(2:Int)^48=281474976710656:=rfl;have m2:¬((k:Int)*(i.bytes:Int)>281474976710656):=by rw[←wbd];omega
  have m2':¬(281474976710656<(k:Int)*(i.bytes:Int)):=m2
  by_cases h0:k*te.size=0
  ·have:=hv0 h0
   subst this;cases base<;>simp[Builtin.append_,hu,hu1,hs,ti,asInt,asIntOf,w1,n1,m2',hroom,Result.andThen]<;>rw[if_pos h0]
  ·have hz':=hz w
   cases base<;>simp[Builtin.append_,hu,hu1,hs,ti,asInt,asIntOf,w1,n1,m2',hroom,hz',hvs,Result.andThen]<;>rw[if_neg h0]
end
section
variable{E:Env}{P:Program}{T:Nat→Prop}{ρ:Rho}{S:St}{w:World}{tm:Tm}{a:Act}
theorem zwm{t0 t1 ty e:Nat}{te:TI}(ht:P.underlying t0=some (.slice e))(hte:zm6 P e te)(hby:te.bytes≤65536){Z:Value}(hZ:∀w',(zeroValue e).run P w'=.ok Z w'){X:Value}{k:Nat}{vs olds:List Value}
  (hx:zaa2 P t1 e te.size X k vs w) {base:Option Addr} {len cap:Nat} (hg:¬len+k≤cap) (hn:len+k≤65536)
  (hold:∀w',w'.heap=w.heap→(Builtin.firstCells te.size len (.slice base len cap)).run P w'=.ok olds.toArray w') :
  ∃C,len+k≤C∧(Builtin.append_ #[t0,t1] ty #[.slice base len cap,X]).run P w=.ok (.slice (some ⟨w.heap.size,0,none⟩) (len+k) C)
   (w.drew.alloc (.cells (olds.toArray++vs.toArray++Builtin.zeroCells Z.cells (C-(len+k))) e)):=by
 have hs:=zc5 (w:=w) hte;have hu:(underlying t0).run P w=.ok (.slice e) w:=by simp[underlying,program,Sem.run,ht]
 obtain⟨i,i1,i2,_⟩:=hte.info;have hb:=hte.bytes i i1;have tiD:∀w',(typeInfo e).run P w'=.ok i w':=fun w'=>by simp[typeInfo,program,Sem.run,i1]
 have hcap:=Room.nextslicecap_le' (need:=len+k) (old:=cap) (by omega);have hfit:¬(281474976710656<Builtin.nextslicecap (len+k) cap*i.bytes):=by
  have:Builtin.nextslicecap (len+k) cap*i.bytes≤131072*65536:=wez (by omega) (by omega);omega
 have h63:¬(9223372036854775807<((len:Int)+(k:Int))):=by omega
 have hwD:w.drew.heap=w.heap:=rfl;refine⟨grownCap w (len+k) cap e,grownCap_ge _ _ _ _,?_⟩;have hold':=hold _ hwD;have key:∀q:Array Value,olds.toArray++(vs.toArray++q)=(olds++vs).toArray++q:=fun q=>by apply Array.ext';simp
 rcases hx with⟨⟨d,hd,hi⟩,hl,hc⟩|⟨⟨kk,hd⟩,⟨k2,rfl⟩,hk,⟨i',hi',hb'⟩,Z',hz,hvs,hv0⟩
 ·have hu1:(underlying t1).run P w=.ok d w:=by simp[underlying,program,Sem.run,hd]
  have hc':=hc _ hwD;cases d<;>first
   |(cases hi;done)
   | (simp [Builtin.append_,hu,hu1,hs,hl,hg,h63,hfit,tiD,Question.forced,hold',hc',hZ,Result.andThen,askRoom,grownCap,newRow]
      rw[key];rfl)
 ·have hu1:(underlying t1).run P w=.ok (.int kk) w:=by simp[underlying,program,Sem.run,hd]
  have w1:IntKind.i64.wrap (k:Int)=k:=wbh _ (by omega);have n1:¬((k:Int)<0):=by omega
  have m1:k*i.bytes≤4294967296:=by rw[hb];exact wez hk hby
  have m2':¬(281474976710656<(k:Int)*(i.bytes:Int)):=by rw[←wbd];omega
  have eZ:Z'=Z:=by
   have:=(hz w).symm.trans (hZ w);cases this;rfl
  subst eZ
  by_cases h0:k*te.size=0
  ·have:=hv0 h0
   subst this;simp[Builtin.append_,hu,hu1,hs,asInt,asIntOf,w1,n1,m2',hg,h63,hfit,tiD,Question.forced,hold',hZ,Result.andThen,askRoom,grownCap,newRow,if_pos h0];rfl
  ·simp[Builtin.append_,hu,hu1,hs,asInt,asIntOf,w1,n1,m2',hg,h63,hfit,tiD,Question.forced,hold',hZ,hvs,Result.andThen,askRoom,grownCap,newRow,if_neg h0]
   rfl
end
end Go.Proofs.YtdcnbeehckgpcaaGreat
