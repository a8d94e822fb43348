/-
  Three lists that grow together: claims, tickets, their numbers.
-/
import Derived.Test.YtdcnbeehckgpcaaGreatYc
import Derived.Test.YtdcnbeehckgpcaaGreatTe
import Derived.Test.YtdcnbeehckgpcaaGreatYe
set_option maxRecDepth 200000
set_option maxHeartbeats 0
namespace Go.Proofs.YtdcnbeehckgpcaaGreat
open Go.Lib (hid)
open Go.RowKit Go.Shelf
theorem zall:El 30 22 1:=El.mk' (bytes:=24) (z:=.slice none 0 0) (by kernel_rfl) (by kernel_rfl) rfl (by omega) (by omega)
theorem zalm:El 31 35 2:=El.mk' (bytes:=32) (z:=.agg #[.slice none 0 0,.int .i64 0]) (by kernel_rfl) (by kernel_rfl) rfl (by omega) (by omega)
theorem zab.lower{w:World}{B B':Nat}{e:TypeId}{sz:Nat}{v:Value}{rows:List (List Value)}(h:zab w B e sz v rows)(hB:B'≤B):zab w B' e sz v rows:=by
 refine⟨⟨h.1.1,?_⟩,h.2⟩
 rcases h.1.2 with a|⟨g,cap,cur,hv,hb,hr⟩
 ·exact .inl a
 ·exact .inr ⟨g,cap,cur,hv,wer hB hb,hr⟩
def HTn(cv lv sv:Value)(k:Nat)(w w':World):Prop :=
 (k=3∧Kept (fun b=>some b≠cv.ownBlock) w w')∨(k=7∧Kept (fun b=>some b≠lv.ownBlock) w w')∨(k=11∧Kept (fun b=>some b≠sv.ownBlock) w w')
theorem zaln{B:Nat}{cv lv sv:Value}(h1:∀g,cv.ownBlock=some g→B≤g)(h2:∀g,lv.ownBlock=some g→B≤g)(h3:∀g,sv.ownBlock=some g→B≤g):zt2 (HTn cv lv sv) B where
 b:=fun i w w' hB h=>by
  rcases h with⟨-,h⟩|⟨-,h⟩|⟨-,h⟩
  ·exact Kept.below (h.mono fun k _ hk e=>by have:=h1 k e.symm;omega) hB
  ·exact Kept.below (h.mono fun k _ hk e=>by have:=h2 k e.symm;omega) hB
  ·exact Kept.below (h.mono fun k _ hk e=>by have:=h3 k e.symm;omega) hB
 s:=fun i w w' h=>by
  rcases h with⟨-,h⟩|⟨-,h⟩|⟨-,h⟩<;>exact h.size
section
variable{B:Nat}{cv lv sv:Value}{Y:World}
theorem zaka:zxi (HTn cv lv sv) (fun W=>Kept (fun b=>some b≠cv.ownBlock) Y W) [3] where
 m:=fun w w' h e=>h.trans (Kept.of_below e)
 k:=fun k hk w w' h e=>by
  rw[wd0]at hk;subst hk
  rcases e with⟨-,e⟩|⟨e,-⟩|⟨e,-⟩
  ·exact h.trans e
  ·cases e
  ·cases e
def PTn(B:Nat)(e:TypeId)(sz:Nat)(ov:Value)(rows:List (List Value))(S:Nat→Prop)(Y:World)(v:Value)(W:World):Prop :=
 zab W B e sz v rows∧(∀g,v.ownBlock=some g→ov.ownBlock=some g∨Y.heap.size≤g)∧Kept S Y W
theorem PTn.ext{e:TypeId}{sz:Nat}{ov:Value}{rows:List (List Value)}{S:Nat→Prop}{v:Value}{W W':World}(h:PTn B e sz ov rows S Y v W)(x:Ext W W'):PTn B e sz ov rows S Y v W':=⟨h.1.ext x,h.2.1,h.2.2.trans (Kept.of_below x)⟩
theorem PTn.other{e:TypeId}{sz:Nat}{ov:Value}{rows:List (List Value)}{S T:Nat→Prop}{v:Value}{W W':World}(h:PTn B e sz ov rows S Y v W)(k:Kept T W W')(hS:∀b,b<W.heap.size→S b→T b)(hT:∀g,v.ownBlock=some g→T g):PTn B e sz ov rows S Y v W' :=
 ⟨h.1.keptAt k fun g _ _ hg _=>hT g hg,h.2.1,h.2.2.trans (k.mono fun b hb hs=>hS b hb hs)⟩
def zeh(S:Nat)(row:List Value)(v:Value)(W:World):Prop:=∃b,v=.slice (some ⟨b,0,none⟩) 1 1∧S≤b∧zbd W row.length b 0 [row]
theorem zeh.ext{S:Nat}{row:List Value}{v:Value}{W W':World}(h:zeh S row v W)(e:Ext W W'):zeh S row v W':=by
 obtain⟨b,h1,h2,h3⟩:=h;exact⟨b,h1,h2,h3.ext e⟩
theorem zeh.kept{S:Nat}{row:List Value}{v:Value}{W W':World}{T:Nat→Prop}(h:zeh S row v W)(k:Kept T W W')(hT:∀b,S≤b→T b):zeh S row v W':=by
 obtain⟨b,h1,h2,h3⟩:=h;exact⟨b,h1,h2,fun i hi j hj=>k.cell (h3 i hi j hj) (hT b h2)⟩
end
structure zeu(W0:World)(M:zl)(k:Nat)(cv lv sv:Value)(cs:List (Value×List Nat))(W:World):Prop where
 e:Ext W0 W
 len:cs.length=k
 c:zab W W0.heap.size 22 1 cv (cs.map fun x=>[x.1])
 l:zab W W0.heap.size 35 2 lv (cs.map fun x=>[x.1,.int .i64 1])
 s:zab W W0.heap.size 3 1 sv ((zy (List.range k)).map zas)
 each:∀x∈cs,zab W W0.heap.size 3 1 x.1 ((zy x.2).map zas)
 far:∀x∈cs,∀g,x.1.ownBlock=some g→sv.ownBlock≠some g
 ok:∀x∈cs,zag (zbf M x.2)∧∀i,i<M.n→1≤x.2.getD i 0
theorem zeu.ext{W0 W W':World}{M:zl}{k:Nat}{cv lv sv:Value}{cs:List (Value×List Nat)}(h:zeu W0 M k cv lv sv cs W)(e:Ext W W'):zeu W0 M k cv lv sv cs W' :=
 ⟨Ext.trans' h.e e,h.len,h.c.ext e,h.l.ext e,h.s.ext e,fun x hx=>(h.each x hx).ext e,h.far,h.ok⟩
theorem zeu.nil(W0:World)(M:zl):zeu W0 M 0 (.slice none 0 0) (.slice none 0 0) (.slice none 0 0) [] W0 :=
 ⟨Below.refl _ _,rfl,zab.nil _ _ _ _,zab.nil _ _ _ _,zab.nil _ _ _ _,fun x h=>(by cases h),fun x h=>(by cases h),fun x h=>(by cases h)⟩
theorem zeu.grow{W0 Y W:World}{M:zl}{k:Nat}{cv lv sv c' l' s' tv:Value}{cs:List (Value×List Nat)}{ss:List Nat}{S:Nat}(h:zeu W0 M k cv lv sv cs Y)(ht:zab Y S 3 1 tv ((zy ss).map zas))(hS:W0.heap.size≤S)(hS2:∀g,sv.ownBlock=some g→g<S)(hok:zag (zbf M ss)∧∀i,i<M.n→1≤ss.getD i 0)
  {S1 S2:Nat→Prop} (h1:PTn W0.heap.size 22 1 cv (cs.map (fun x=>[x.1])++[[tv]]) S1 Y c' W) (h2:PTn W0.heap.size 35 2 lv (cs.map (fun x=>[x.1,.int .i64 1])++[[tv,.int .i64 1]]) S2 Y l' W) (h3:PTn W0.heap.size 3 1 sv ((zy (List.range k)).map zas++[[.int .i64 (k:Int)]]) (fun b=>some b≠cv.ownBlock∧some b≠lv.ownBlock∧some b≠sv.ownBlock) Y s' W) :
  zeu W0 M (k+1) c' l' s' (cs++[(tv,ss)]) W:=by
 have hk:=h3.2.2;have hle:zab Y W0.heap.size 3 1 tv ((zy ss).map zas):=(zab.lower ht hS)
 have hts:∀g,tv.ownBlock=some g→sv.ownBlock≠some g:=fun g hg e=>by have:=(ht.notOwn g hg).1;have:=hS2 g e;omega
 have hold:∀{v:Value} {l:List Int},zab Y W0.heap.size 3 1 v (l.map zas)→(∀g,v.ownBlock=some g→sv.ownBlock≠some g)→zab W W0.heap.size 3 1 v (l.map zas):=fun ho hd=>ho.keptAt hk fun g _ _ hg _=>⟨fun e=>zgp ho h.c (by decide) g hg e.symm,fun e=>zgp ho h.l (by decide) g hg e.symm,fun e=>hd g hg e.symm⟩
 refine⟨?_,by rw[wc3,wdc,h.len],?_,?_,?_,fun x hx=>?_,fun x hx g hg hg2=>?_,fun x hx=>?_⟩
 ·exact h.e.trans (Kept.below (hk.mono (T:=fun b=>b<W0.heap.size) fun b _ hb=>⟨fun e=>by have:=(h.c.notOwn b e.symm).1;omega,fun e=>by have:=(h.l.notOwn b e.symm).1;omega,fun e=>by have:=(h.s.notOwn b e.symm).1;omega⟩) h.e.size)
 ·rw[wde];exact h1.1
 ·rw[wde];exact h2.1
 ·have e:(zy (List.range (k+1))).map zas=(zy (List.range k)).map zas++[[.int .i64 (k:Int)]]:=by rw[wd6];simp[zy,zas]
  rw[e];exact h3.1
 ·rcases wdm.1 hx with hx|hx
  ·exact hold (h.each x hx) (h.far x hx)
  ·rw[wd0]at hx
   subst hx;exact hold hle hts
 ·rcases wdm.1 hx with hx|hx
  ·rcases h3.2.1 g hg2 with h5|h5
   ·exact h.far x hx g hg h5
   ·have:=((h.each x hx).notOwn g hg).2;omega
  ·rw[wd0]at hx
   subst hx
   rcases h3.2.1 g hg2 with h5|h5
   ·exact hts g hg h5
   ·have:=(ht.notOwn g hg).2;omega
 ·rcases wdm.1 hx with hx|hx
  ·exact h.ok x hx
  ·rw[wd0]at hx
   subst hx;exact hok
theorem zzt{M T:zl}(O:zef M){s:TSt}(hs:s.at_<M.n){c:Nat}(hc:c<M.L)(h:okS T s c=true):okS M s c=true:=by
 rw[zxe (z29 h),O _ hs,wfb];exact decide_eq_true hc
theorem z4t{M T:zl}(D:zda M T)(O:zef M):∀(f:Nat) (s:TSt),s.at_+f=M.n→cntF T f s≤cntF M f s
 |0,s,_=>by
  rw[cntF,cntF,D.rest];exact weq _
 |f+1,s,h=>by
  rw[cntF,cntF,D.L];refine zsj fun c hc=>?_
  by_cases e:okS T s c=true
  ·rw[if_pos e,if_pos (zzt O (by omega) hc e),D.to]
   exact z4t D O f (toS M s c) (by
    show s.at_+1+f=M.n;omega)
  ·rw[if_neg e]
   exact wfd _
theorem z8g{M T:zl}(D:zda M T)(O:zef M){s:TSt}(h:s.at_≤M.n):cnt T s≤cnt M s:=by
 unfold cnt;rw[D.n];exact z4t D O _ s (by omega)
theorem z8h{M T:zl}(D:zda M T)(O:zef M){s:TSt}(h:s.at_<M.n){c:Nat}(hc:c<M.L):za8 T s c≤za8 M s c:=by
 unfold za8
 by_cases e:okS T s c=true
 ·rw[if_pos e,if_pos (zzt O h hc e),D.to]
  exact z8g D O (by
   show s.at_+1≤M.n;omega)
 ·rw[if_neg e]
  exact wfd _
theorem z4u{M T:zl}(D:zda M T)(O:zef M):∀{u:List Nat} {s:TSt} {j:Nat},zbu T u s j→zbu M u s (zci M u s)∧zci M u s<cnt M s
 |[],s,j,h=>by
  obtain⟨h1,h2,h3⟩:=h;rw[D.n]at h1;rw[D.rest]at h2;refine⟨⟨h1,h2,rfl⟩,?_⟩;rw[zih h1,if_pos h2];exact Nat.one_pos
 |c::l,s,j,h=>by
  obtain⟨h1,h2,h3,k,h4,h5,h6⟩:=h;rw[D.n]at h1;rw[D.L]at h2;rw[D.to]at h6;obtain⟨g1,g2⟩:=z4u D O h6;have ok:=zzt O h1 h2 h3;have hw:za8 M s c=cnt M (toS M s c):=by unfold za8;rw[if_pos ok]
  rw[zqe M c l s (by omega),if_pos ok];refine⟨⟨h1,h2,ok,zci M l (toS M s c),rfl,by rw[hw];exact g2,g1⟩,?_⟩;rw[zgk h1];have hup:=zjh (za8 M s) (a:=c+1) (b:=M.L) (by omega);rw[zaq,hw]at hup;omega
theorem z4v{f:Nat→Nat}:∀{k:Nat},(∀c,c<k→f c=0)→zaq f k=0
 |0,_=>rfl
 |k+1,h=>by rw[zaq,z4v fun c hc=>h c (by omega),h k (by omega)]
theorem zafw{f:Nat→Nat}{k:Nat}(h:zaq f k=0):∀c,c<k→f c=0:=by
 induction k with
 |zero=>intro c hc;omega
 |succ k ih =>
  rw[zaq]at h;intro c hc
  by_cases e:c=k
  ·subst e;omega
  ·exact ih (by omega) c (by omega)
theorem z4w{M T:zl}(D:zda M T)(O:zef M):∀{u:List Nat} {s:TSt},zbu M u s 0→zci T u s=0
 |[],s,_=>rfl
 |c::l,s,h=>by
  obtain⟨h1,h2,h3,j,h4,h5,h6⟩:=h;have hj:j=0:=by omega
  subst hj;have hz:zaq (za8 M s) c=0:=by omega
  rw [zqe T c l s (by rw[D.L];omega),z4v fun d hd=>by
   have:=zafw hz d hd;have:=z8h D O h1 (show d<M.L by omega);omega]
  split
  ·rw[D.to,z4w D O h6]
  ·rfl
theorem z4x (f:Nat→Nat)(a:Nat):∀b,a≤b→zaq f b=zaq f a→∀c,a≤c→c<b→f c=0
 |0,h,_=>fun c h1 h2=>by omega
 |b+1,h,e=>by
  intro c h1 h2
  by_cases hab:a=b+1
  ·omega
  ·have hu:=zjh f (a:=a) (b:=b) (by omega)
   rw[zaq]at e
   by_cases hc:c=b
   ·subst hc;omega
   ·exact z4x f a b (by omega) (by omega) c h1 (by omega)
theorem z4y{M T:zl}(D:zda M T)(O:zef M):∀{u:List Nat} {s:TSt} {i:Nat},zbu M u s i→i+1=cnt M s→zci T u s+zh2 (zkn T u s.at_)=cnt T s
 |[],s,i,h,_=>by
  rw[zih (by rw[D.n];exact h.1),D.rest,if_pos h.2.1];simp[zci,zkn,zh2]
 |c::l,s,i,h,hi=>by
  obtain⟨h1,h2,h3,j,h4,h5,h6⟩:=h;have hL:c<T.L:=by rw[D.L];exact h2
  have hw:za8 M s c=cnt M (toS M s c):=by unfold za8;rw[if_pos h3]
  rw[zgk h1]at hi;have hup:=zjh (za8 M s) (a:=c+1) (b:=M.L) (by omega);have hs1:zaq (za8 M s) (c+1)=zaq (za8 M s) c+za8 M s c:=rfl;have hj:j+1=cnt M (toS M s c):=by omega
  have hz:=z4x (za8 M s) (c+1) M.L (by omega) (by omega);have ih:=z4y D O h6 hj;have htl:zaq (za8 T s) T.L=zaq (za8 T s) (c+1):=by
   have:∀b,c+1≤b→b≤M.L→zaq (za8 T s) b=zaq (za8 T s) (c+1):=by
    intro b hb1 hb2
    induction b with
    |zero=>omega
    |succ b ihb =>
     by_cases e:c+1=b+1
     ·rw[e]
     ·have h0:=hz b (by omega) (by omega)
      have h9:=z8h D O h1 (show b<M.L by omega);rw[zaq,ihb (by omega) (by omega)];omega
   rw[D.L];exact this M.L (by omega) (weq _)
  rw[zqe T c l s (by omega),zgk (by rw[D.n];exact h1),htl,zaq];have hb:=zxe (T:=T) (z29 h3);rw[zkn,←hb]
  by_cases e:okS T s c=true
  ·rw[if_pos e,D.to,e,wa7]
   rw[show(toS M s c).at_=s.at_+1 from rfl]at ih;have hwt:za8 T s c=cnt T (toS M s c):=by unfold za8;rw[if_pos e,D.to]
   omega
  ·rw[if_neg e,show okS T s c=false by simpa using e,Bool.false_and]
   have hwt:za8 T s c=0:=by unfold za8;rw[if_neg e]
   rw[hwt];rfl
def ze5(all:Nat):List (Nat×Nat):=if 0<all then [(0,all-1)]else []
theorem zain(all:Nat):zfp all (ze5 all):=by
 unfold ze5
 by_cases h:0<all
 ·rw[if_pos h]
  refine⟨by simp,fun k hk=>?_⟩;have:k=0:=by simpa using hk
  subst this;simp[nxR];omega
 ·rw[if_neg h]
  exact⟨by simp,fun k hk=>by simp at hk⟩
theorem zafx {M T:zl}(D:zda M T)(O:zef M)(V:zag M):zb3 (zcj M T (ze5 (cnt M ts0)))=cnt T ts0:=by
 unfold ze5
 by_cases h:0<cnt M ts0
 ·rw[if_pos h]
  have hs:zcj M T [(0,cnt M ts0-1)]=zi3 M T (0,cnt M ts0-1):=by simp[zcj]
  rw[hs,zae7];have c0:=zgn V h;have c1:=zgn V (show cnt M ts0-1<cnt M ts0 by omega);have e0:bfI M T 0=0:=z4w D O c0;have e1:=z4y D O c1 (by omega);have hl:(zfo M (cnt M ts0-1)).length=T.n:=by
   have:=c1.len;rw[D.n];simpa[ts0]using this
  have ef:ftI M T (cnt M ts0-1)=zkn T (zfo M (cnt M ts0-1)) 0:=by
   unfold ftI;rw[←hl,z0y]
  have eu:upI M T (cnt M ts0-1)=cnt T ts0:=by
   unfold upI;rw[ef];exact e1
  simp only;rw[e0,eu,Nat.sub_zero]
 ·rw[if_neg h]
  have:=z8g D O (s:=ts0) (wfd _);have e:zb3 (zcj M T [])=0:=by simp[zcj,zb3]
  omega
theorem zvd{M T:zl}(D:zda M T):zzl M T:=⟨D.L.symm,D.n.symm,D.ks.symm,D.rest.symm⟩
theorem zakb{M:zl}(O:zef M)(V:zag M)(cs:List (Value×List Nat)):zge M cs (ze5 (cnt M ts0)) (2^cs.length-1)=(((zmk M).countP fun w=>zhp (fun i=>zb5 (clF cs i) w 0) cs.length:Nat):Int):=by
 rw[←z4a (fun i w=>zb5 (clF cs i) w 0) cs.length (zmk M)];unfold zge zxm;refine zhd fun b _=>?_
 unfold zt5;rw[zafx (zgo M _) O V,z77 (zvd (zgo M _)) O]
 congr 2
 refine wbr fun w hw=>?_
 have hw2:=(wds.1 hw).1;obtain⟨h1,h2⟩:=zt3 hw2;have:=z8a (L:=M.L) (cs:=clF cs) (b:=b+1) (ss:=zko M cs (b+1) cs.length) cs.length w 0 M.n h2 (by omega) fun p hp=>zzm M cs (b+1) cs.length hp
 show zb5 (zko M cs (b+1) cs.length) w 0=true↔_;rw[this]
theorem zqu{ss:List Nat}:∀(w:List Nat) (i:Nat),zb5 ss w i=true↔∀r,r<w.length→(ss.getD (i+r) 0).testBit (w.getD r 0)=true
 |[],i=>by simp[zb5]
 |c::w,i=>by
  rw[zb5,waw,zqu w (i+1)]
  constructor
  ·rintro⟨h1,h2⟩ r hr
   match r,hr with
   |0,_=>simpa using h1
   |r+1,hr =>
    have:=h2 r (by simpa using hr);rw[show i+(r+1)=i+1+r by omega];simpa using this
  ·intro h
   refine⟨by simpa using h 0 (by simp),fun r hr=>?_⟩;have:=h (r+1) (by simpa using hr);rw[show i+(r+1)=i+1+r by omega]at this;simpa using this
def zi4(l:List Nat):Nat→Nat→Nat
 |_,0=>1
 |i,k+1=>ze3 (l.getD i 0) 6*zi4 l (i+1) k
theorem zxv(l:List Nat):∀(k i:Nat),zi4 l i (k+1)=zi4 l i k*ze3 (l.getD (i+k) 0) 6
 |0,i=>by simp[zi4]
 |k+1,i=>by
  rw[zi4,zxv l k (i+1),zi4,show i+1+k=i+(k+1) by omega,Nat.mul_assoc]
theorem zls(l:List Nat):∀k,zb1 l k=zi4 l 0 k
 |0=>rfl
 |k+1=>by rw[zb1,zls l k,zxv,wfc]
theorem z8i(s:Nat){a:Nat}:∀{b:Nat},a≤b→ze3 s a≤ze3 s b
 |0,h=>by rw[show a=0 by omega];exact weq _
 |b+1,h=>by
  by_cases e:a=b+1
  ·rw[e];exact weq _
  ·have:=z8i s (a:=a) (b:=b) (by omega)
   rw[ze3];omega
theorem z4z(s S:Nat):∀k,zaq (fun c=>if s.testBit c=true then S else 0) k=ze3 s k*S
 |0=>by simp[zaq,ze3]
 |k+1=>by
  rw[zaq,z4z s S k,ze3,wef]
  split<;>simp
theorem zsr{L:Nat}(hL:L≤6)(l:List Nat):∀(k i:Nat),(zds L k).countP (fun w=>zb5 l w i)≤zi4 l i k
 |0,i=>by simp[zds,zb5,zi4]
 |k+1,i=>by
  have ih:=zsr hL l k (i+1);rw[zds,zqo,zqp,zi4];have h1:zaq (fun c=>((zds L k).map (c :: ·)).countP fun w=>zb5 l w i) L≤zaq (fun c=>if (l.getD i 0).testBit c=true then zi4 l (i+1) k else 0) L:=zsj fun c _=>by
   rw[List.countP_map]
   by_cases h:(l.getD i 0).testBit c=true
   ·rw[if_pos h]
    refine wer (Nat.le_of_eq ?_) ih;refine wbr fun w _=>?_
    show zb5 l (c::w) i=true↔_;rw[zb5,h,wa7]
   ·rw[if_neg h]
    refine Nat.le_of_eq (wbt.2 fun w _ hw=>?_);have hw:zb5 l (c::w) i=true:=hw;rw[zb5,waw]at hw;exact h hw.1
  rw[z4z]at h1;exact wer h1 (we0 _ (z8i _ hL))
theorem zss{a b:List Nat}:∀{k:Nat},(∀r,r<k→a.getD r 0=b.getD r 0)→zb1 a k=zb1 b k
 |0,_=>rfl
 |k+1,h=>by rw[zb1,zb1,zss fun r hr=>h r (by omega),h k (by omega)]
theorem z1c{α:Type}(p q:α→Bool):∀l:List α,(l.countP fun x=>p x||q x)≤l.countP p+l.countP q
 |[]=>weq _
 |x::l=>by
  have ih:=z1c p q l;rw[wbs,wbs,wbs];cases p x<;>cases q x<;>simp<;>omega
def zi5(us:List Int)(n:Nat)(w:List Nat)(x:Lf):Bool:=decide (zdd us x.2 n≠0)&&zb5 x.1 w 0
theorem zac4{L:Nat}(hL:L≤6)(us:List Int)(n m:Nat):∀P:List Lf,(((zds L m).countP fun w=>P.any (zi5 us n w):Nat):Int)≤zcl us n m [] P
 |[]=>by
  have h:((zds L m).countP fun w=>([]:List Lf).any (zi5 us n w))=0:=wbt.2 fun w _ h=>by simp at h
  rw[h];simp[zcl]
 |x::P=>by
  have ih:=zac4 hL us n m P;have e:zcl us n m [] (x::P)=zjl us n m [] x+zcl us n m [] P:=by simp[zcl]
  rw[e];have h1:=z1c (fun w=>zi5 us n w x) (fun w=>P.any (zi5 us n w)) (zds L m);have hx:(((zds L m).countP fun w=>zi5 us n w x:Nat):Int)≤zjl us n m [] x:=by
   unfold zjl
   by_cases hv:zdd us x.2 n=0
   ·rw[if_pos hv]
    have h:((zds L m).countP fun w=>zi5 us n w x)=0:=wbt.2 fun w _ h=>by simp[zi5,hv]at h
    rw[h];exact Int.le_refl _
   ·rw[if_neg hv,zss (b:=x.1) fun r hr=>by rw[zwe [] x.1 hr];rfl,zls]
    have h2:=zsr hL x.1 m 0;have h3:((zds L m).countP fun w=>zi5 us n w x)≤(zds L m).countP fun w=>zb5 x.1 w 0:=wbw fun w _ h=>by
     unfold zi5 at h;rw[waw]at h;exact h.2
    omega
  have h4:((zds L m).countP fun w=>(x::P).any (zi5 us n w))=(zds L m).countP fun w=>zi5 us n w x||P.any (zi5 us n w):=wbr fun w _=>by rw[List.any_cons]
  rw[h4];omega
theorem z8j{us:List Int}{al:List Bool}(hu:∀j,0≤us.getD j 0){j:Nat}(hj:al.getD j false=true)(h1:1≤us.getD j 0):∀{n:Nat},j<n→1≤zdd us al n
 |0,h=>by omega
 |n+1,h=>by
  rw[zdd];have h0:∀k,0≤zdd us al k:=fun k=>by
   induction k with
   |zero=>exact Int.le_refl _
   |succ k ih =>
    rw[zdd];have:=hu k
    split<;>omega
  by_cases e:j=n
  ·subst e
   rw[if_pos hj];have:=h0 j;omega
  ·have:=z8j hu hj h1 (n:=n) (by omega)
   have:=hu n
   split<;>omega
theorem z40(p:Nat→Bool):∀m,zhp p m=true↔∃i,i<m∧p i=true
 |0=>by simp[zhp]
 |m+1=>by
  rw[zhp,wa6,z40 p m]
  constructor
  ·rintro(⟨i,h1,h2⟩|h)
   ·exact⟨i,by omega,h2⟩
   ·exact⟨m,by omega,h⟩
  ·rintro⟨i,h1,h2⟩
   by_cases e:i=m
   ·subst e;exact .inr h2
   ·exact .inl ⟨i,by omega,h2⟩
theorem zaio{M:zl}(hL:M.L≤6)(cl:Nat→List Nat)(ts:List (List Nat))(us:List Int)(hu:∀j,j<ts.length→1≤us.getD j 0)(hu0:∀j,0≤us.getD j 0)(hcl:∀j,j<ts.length→ts.getD j []=cl j) :
  (((zmk M).countP fun w=>zhp (fun i=>zb5 (cl i) w 0) ts.length:Nat):Int)≤zcl us ts.length M.n [] (zck (List.replicate M.n M.L) ts):=by
 refine Int.le_trans ?_ (zac4 hL us ts.length M.n _);have h1:(zmk M).countP (fun w=>zhp (fun i=>zb5 (cl i) w 0) ts.length)≤(zds M.L M.n).countP fun w=>zhp (fun i=>zb5 (cl i) w 0) ts.length:=by
  unfold zmk;rw[wbu];refine wbw fun w _ h=>?_
  rw[waw]at h;exact h.1
 have h2:(zds M.L M.n).countP (fun w=>zhp (fun i=>zb5 (cl i) w 0) ts.length)≤(zds M.L M.n).countP fun w=>(zck (List.replicate M.n M.L) ts).any (zi5 us ts.length w):=by
  refine wbw fun w hw h=>?_
  obtain ⟨hl,hlt⟩:=zt3 hw;obtain ⟨j,hj,hf⟩:=(z40 _ _).1 h;rw [← hcl j hj,zqu] at hf;obtain ⟨x,hx,q1,q2⟩:=z97 (rs:=List.replicate M.n M.L) (ts:=ts) (fun r=>w.getD r 0) (fun r hr=>by
   rw[wdb]at hr;rw[wch,wch,wcs,if_pos hr,wcn (by omega)];exact hlt _ (wcy _))
  rw[wbl];refine⟨x,hx,?_⟩;unfold zi5;rw[waw];have hm:=(q2 j hj).2 fun r hr=>by
   rw[wdb]at hr;have:=hf r (by omega);simpa using this
  have hv:=z8j (al:=x.2) hu0 hm (hu j hj) hj;refine⟨decide_eq_true (by omega),(zqu w 0).2 fun r hr=>?_⟩;have:=q1 r (by rw[wdb];omega);simpa using this
 omega
theorem zakc{M T:zl}(D:zda M T)(O:zef M)(hL:M.L≤6):cnt T ts0≤zb1 T.ss M.n:=by
 rw[z77 (zvd D) O,zls];refine wer ?_ (zsr hL T.ss M.n 0);unfold zmk;rw[wbu];refine wbw fun w _ h=>?_
 rw[waw]at h;exact h.1
end Go.Proofs.YtdcnbeehckgpcaaGreat
namespace Go.Proofs.YtdcnbeehckgpcaaGreat
open Go.Lib (hid)
open Go.RowKit Go.Shelf
attribute [local go_sem] Oper.semAt_some
theorem zaam(M:zl)(V:zag M)(ka:Option Addr)(kc:Nat)(w:World)(hk:zo w .i64 (.slice ka M.n kc) (zy M.ks)) :
  Calls Tryz.prog 10 #[.agg #[.int .i64 M.L,.int .i64 M.n,.slice ka M.n kc,.int .i64 M.rest]] w fun e w'=>e=.returned (.tuple #[.int .i64 (cnt (opM M) ts0:Int),.int .i64 0])∧Ext w w':=by
 go_enter Tryz.func10,Tryz.ntmps10
 go_upto_region 1 with(fail);obtain⟨W0,hW0⟩:∃W0,W0=w.alloc (.cells #[.int .i64 M.L,.int .i64 M.n,.slice ka M.n kc,.int .i64 M.rest] 24):=⟨_,rfl⟩
 have hE:Ext w W0:=by rw[hW0];exact xx
 have k0:W0.cell? ⟨w.heap.size,0,none⟩=some (.int .i64 M.L):=by rw[hW0];simp[go_sem]
 have k1:W0.cell? ⟨w.heap.size,1,none⟩=some (.int .i64 M.n):=by rw[hW0];simp[go_sem]
 have k2:W0.cell? ⟨w.heap.size,2,none⟩=some (.slice ka M.n kc):=by rw[hW0];simp[go_sem]
 have k3:W0.cell? ⟨w.heap.size,3,none⟩=some (.int .i64 M.rest):=by rw[hW0];simp[go_sem]
 have hz:w.heap.size<W0.heap.size:=wfu _ _ k0;have HW:=hid hE;have HK:=hid (zo.ext hE hk);rw[←hW0];clear hW0 hk hE;go_wp2_with fail;refine(zmi M V ka kc _ HK.out).mono ?_
 rintro e W1 ⟨p,mb,sa,sc,rfl,hE1,-,-,hm⟩;have HE1:=hid (HW.out.trans' hE1);have HM:=hid hm;clear hE1 hm k0 k1 k2 k3;go_wp2_with fail;refine(znh (opM M) p mb ka sa kc sc W1 HM.out).mono ?_
 rintro e W2 ⟨rfl,hE2⟩;have HE2:=hid (HE1.out.trans' hE2);clear hE2;obtain⟨C,hC⟩:∃C,C=cnt (opM M) ts0:=⟨_,rfl⟩
 have HC:=hid hC;rw[←hC];clear hC;go_wp2_with fail;refine bodyPost_ret (v:=.tuple #[.int .i64 (C:Int),.int .i64 0]) (by simp[results,Tryz.results10,go_sem]) rfl ?_
 exact⟨by rw[HC.out],HE2.out⟩
theorem zac5(M:zl)(V:zag M)(ka:Option Addr)(kc x:Nat)(hx:x<cnt (opM M) ts0)(w:World)(hk:zo w .i64 (.slice ka M.n kc) (zy M.ks)) :
  Calls Tryz.prog 14 #[.agg #[.int .i64 M.L,.int .i64 M.n,.slice ka M.n kc,.int .i64 M.rest],.int .i64 x] w fun e w'=>e=.returned (.tuple #[.string (zcn (zfo (opM M) x)),.int .i64 0])∧Ext w w':=by
 go_enter Tryz.func14,Tryz.ntmps14
 go_upto_region 1 with(fail);obtain⟨W0,hW0⟩:∃W0,W0=w.alloc (.cells #[.int .i64 M.L,.int .i64 M.n,.slice ka M.n kc,.int .i64 M.rest] 24):=⟨_,rfl⟩
 have hE:Ext w W0:=by rw[hW0];exact xx
 have k0:W0.cell? ⟨w.heap.size,0,none⟩=some (.int .i64 M.L):=by rw[hW0];simp[go_sem]
 have k1:W0.cell? ⟨w.heap.size,1,none⟩=some (.int .i64 M.n):=by rw[hW0];simp[go_sem]
 have k2:W0.cell? ⟨w.heap.size,2,none⟩=some (.slice ka M.n kc):=by rw[hW0];simp[go_sem]
 have k3:W0.cell? ⟨w.heap.size,3,none⟩=some (.int .i64 M.rest):=by rw[hW0];simp[go_sem]
 have hz:w.heap.size<W0.heap.size:=wfu _ _ k0;have HW:=hid hE;have HK:=hid (zo.ext hE hk);rw[←hW0];clear hW0 hk hE;go_wp2_with fail;refine(zmi M V ka kc _ HK.out).mono ?_
 rintro e W1 ⟨p,mb,sa,sc,rfl,hE1,hp1,hp2,hm⟩;have HE1:=hid (HW.out.trans' hE1);have HM:=hid hm;have HP2:=hid (wer HW.out.size hp2);have hmt:=znh (opM M) p mb ka sa kc sc W1 HM.out;obtain⟨C,hC⟩:∃C,C=cnt (opM M) ts0:=⟨_,rfl⟩
 rw[←hC]at hmt;have HC:=hid hC;have HX:=hid hx;rw[←hC]at hx;have hx0:¬((x:Int)<0):=by omega
 have hx1:¬((C:Int)≤(x:Int)):=by omega
 have hx2:decide ((C:Int)≤(x:Int))=false:=decide_eq_false hx1;clear hE1 hm k0 k1 k2 k3 hC hp1 hp2;go_wp2_with fail;refine hmt.mono ?_
 rintro e W2 ⟨rfl,hE2⟩;have HE2:=hid (HE1.out.trans' hE2);have HM2:=hid (HM.out.ext hE2);clear hE2 hmt;go_wp2_with fail;refine(znj (opM M) (zjz V) p mb ka sa kc sc x HX.out W2 HM2.out).mono ?_
 rintro e W3 ⟨rfl,hk3,-⟩;have hE3:Ext w W3:=HE2.out.trans (Kept.below (hk3.mono (T:=fun k=>k<w.heap.size) fun k _ hk=>by have:=HP2.out;omega) HE2.out.size);have HE3:=hid hE3;obtain⟨s,hs⟩:∃s,s=zcn (zfo (opM M) x):=⟨_,rfl⟩
 have HSS:=hid hs;rw[←hs];clear hs hk3 hE3;go_wp2_with fail;refine bodyPost_ret (v:=.tuple #[.string s,.int .i64 0]) (by simp[results,Tryz.results14,go_sem]) rfl ?_
 exact⟨by rw[HSS.out],HE3.out⟩
def zahm(M:zl)(w:World)(e:Ending)(w':World):Prop:=Ext w w'∧((cnt M ts0=0∧e=.returned (.tuple #[.int .i64 0,.int .i64 3]))∨(0<cnt M ts0∧e=.returned (.tuple #[.int .i64 (zci (opM M) (zfo M 0) ts0:Int),.int .i64 0])))
theorem zac6(M:zl)(V:zag M)(hpos:∀i,i<M.n→1≤M.ss.getD i 0)(ka st:Option Addr)(kc tc:Nat)(w:World)(hk:zo w .i64 (.slice ka M.n kc) (zy M.ks))(hs:zo w .i64 (.slice st M.n tc) (zy M.ss)) :
  Calls Tryz.prog 13 #[.agg #[.int .i64 M.L,.int .i64 M.n,.slice ka M.n kc,.int .i64 M.rest],.slice st M.n tc,.int .i64 0] w (zahm M w):=by
 have HS:=hid hs;clear hs
 go_enter Tryz.func13,Tryz.ntmps13
 go_upto_region 1 with(fail);obtain⟨W0,hW0⟩:∃W0,W0=w.alloc (.cells #[.int .i64 M.L,.int .i64 M.n,.slice ka M.n kc,.int .i64 M.rest] 24):=⟨_,rfl⟩
 have hE:Ext w W0:=by rw[hW0];exact xx
 have k0:W0.cell? ⟨w.heap.size,0,none⟩=some (.int .i64 M.L):=by rw[hW0];simp[go_sem]
 have k1:W0.cell? ⟨w.heap.size,1,none⟩=some (.int .i64 M.n):=by rw[hW0];simp[go_sem]
 have k2:W0.cell? ⟨w.heap.size,2,none⟩=some (.slice ka M.n kc):=by rw[hW0];simp[go_sem]
 have k3:W0.cell? ⟨w.heap.size,3,none⟩=some (.int .i64 M.rest):=by rw[hW0];simp[go_sem]
 have hz:w.heap.size<W0.heap.size:=wfu _ _ k0;have HW:=hid hE;have HK:=hid (zo.ext hE hk);rw[←hW0];clear hW0 hk hE;go_wp2_with fail;refine(zvc M V hpos ka st kc tc _ HK.out (HS.out.ext HW.out)).mono ?_
 rintro e W1 ⟨p,p2,mb,mb2,sa,sa2,sc,sc2,rfl,hE1,hm1,hm2,hT⟩;have HE1:=hid (HW.out.trans' hE1);have HT1:=hid hT;have HP1:=hid (wer HW.out.size hm1);have HP2:=hid (wer HW.out.size hm2);have hmt:=znh M p2 mb2 ka sa2 kc sc2 W1 HT1.out.b;obtain⟨C,hC⟩:∃C,C=cnt M ts0:=⟨_,rfl⟩
 rw[←hC]at hmt;have HC:=hid hC;clear hE1 hT k0 k1 k2 k3 hC hm1 hm2;go_wp2_with fail;refine hmt.mono ?_
 rintro e W2 ⟨rfl,hE2⟩;have HE2:=hid (HE1.out.trans' hE2);have HT2:=hid (HT1.out.ext hE2);clear hE2 hmt
 by_cases h0:C=0
 ·subst h0
  go_wp2_with fail;refine bodyPost_ret (v:=.tuple #[.int .i64 0,.int .i64 3]) (by simp[results,Tryz.results13,go_sem]) rfl ?_
  exact⟨HE2.out,.inl ⟨HC.out.symm,rfl⟩⟩
 ·have hx1:¬((C:Int)≤0):=by omega
  have hx2:decide ((C:Int)≤0)=false:=decide_eq_false hx1;have hC0:Hid (0<cnt M ts0):=hid (by rw[←HC.out];omega);go_wp2_with fail;refine(znj M V p2 mb2 ka sa2 kc sc2 0 hC0.out W2 HT2.out.b).mono ?_
  rintro e W3 ⟨rfl,hk3,hm3⟩;have HT3:=hid (HT2.out.kept2 (hk3.mono fun _ _ h=>h.2) (HT2.out.a.map.of_heap (hk3.same _ HT2.out.a.map.lt HT2.out.ne)) hm3);have hE3:Ext w W3:=HE2.out.trans (Kept.below (hk3.mono (T:=fun k=>k<w.heap.size) fun k _ hk=>by have:=HP2.out;omega) HE2.out.size);have HE3:=hid hE3;obtain⟨u,hu⟩:∃u,u=zfo M 0:=⟨_,rfl⟩
  have hcw:=zgn V hC0.out;rw[←hu]at hcw ⊢;have HCW:=hid hcw;have HU:=hid hu;clear hu hcw hk3 hm3 hE3;go_wp2_with fail;have hl1:u.length=M.n:=by have:=HCW.out.len;simpa[ts0]using this
  have hl2:=HCW.out.letters;refine(zmj (opM M) (zjz V) p mb ka sa kc sc u hl1 hl2 W3 HT3.out.a).mono ?_
  rintro e W4 ⟨rfl,hk4,-⟩;have hE4:Ext w W4:=HE3.out.trans (Kept.below (hk4.mono (T:=fun k=>k<w.heap.size) fun k _ hk=>by have:=HP1.out;omega) HE3.out.size);have HE4:=hid hE4;rw[HU.out];obtain⟨b,hb⟩:∃b,b=zci (opM M) (zfo M 0) ts0:=⟨_,rfl⟩
  have HB:=hid hb;rw[←hb];clear hb hk4 hE4;go_wp2_with fail;refine bodyPost_ret (v:=.tuple #[.int .i64 (b:Int),.int .i64 0]) (by simp[results,Tryz.results13,go_sem]) rfl ?_
  exact⟨HE4.out,.inr ⟨hC0.out,by rw[HB.out]⟩⟩
end Go.Proofs.YtdcnbeehckgpcaaGreat
namespace Go.Proofs.YtdcnbeehckgpcaaGreat
open Go.Lib (hid)
open Go.RowKit Go.Shelf
def fewW(L n:Int):Prop:=L*(L-1)^(n.toNat-1)≤800
def z3e(L n rest:Int)(ks:List Int)(w:World)(e:Ending)(w':World):Prop:=∃b:Bool,e=.returned (.bool b)∧Ext w w'∧(b=true→zzo L n ks rest∧fewW L n)
theorem z8k{L:Int}(h:2≤L∧L≤6):∀k:Nat,k≤7→1≤(L-1)^k∧L*(L-1)^k≤468750:=by
 intro k hk;obtain⟨l,rfl⟩:∃l:Nat,L=(l:Int)+1:=⟨(L-1).toNat,by omega⟩
 rw[Int.add_sub_cancel];have h1:1≤l^k:=Nat.one_le_pow k l (by omega);have h2:l^k≤5^k:=Nat.pow_le_pow_left (by omega) k;have h3:5^k≤5^7:=we3 (by omega) hk;have h4:(l+1)*l^k≤6*5^7:=wez (by omega) (by omega);have e:((l:Int)+1)*(l:Int)^k=(((l+1)*l^k:Nat):Int):=by simp[Int.natCast_pow]
 rw[e];have e2:(l:Int)^k=((l^k:Nat):Int):=by simp[Int.natCast_pow]
 rw[e2];omega
theorem zac7(L n rest:Int)(ks:List Int)(ka:Option Addr)(kc:Nat)(w:World)(hk:zo w .i64 (.slice ka ks.length kc) ks) :
  Calls Tryz.prog 4 #[.agg #[.int .i64 L,.int .i64 n,.slice ka ks.length kc,.int .i64 rest]] w (z3e L n rest ks w):=by
 have HK:=hid hk;clear hk
 go_enter Tryz.func4,Tryz.ntmps4
 by_cases hl:15<ks.length
 ·have hli:(15:Int)<(ks.length:Int):=by omega
  go_wp2_with fail;go_ret;unfold z3e;exact⟨false,rfl,by exact xx,fun h=>by cases h⟩
 ·have hli:¬((15:Int)<(ks.length:Int)):=by omega
  go_wp2_with fail;refine(z4c L n rest ks ka kc _ (HK.out.ext (by exact xx))).mono ?_
  rintro e W1 ⟨x,rfl,hE1,hx⟩;have HE1:=hid (Ext.trans' (by exact xx) hE1:Ext w W1);have k0:=zh hE1 (a:=⟨w.heap.size,0,none⟩) (v:=.int .i64 L) (by simp[go_sem]);have k1:=zh hE1 (a:=⟨w.heap.size,1,none⟩) (v:=.int .i64 n) (by simp[go_sem]);have hz:=wfu _ _ k0;simp only at hz;have HX:=hid hx;clear hE1 hx
  by_cases h0:x=0
  ·subst h0
   go_wp2_with fail;have hdv:=HX.out trivial
   go_loopw [3,4] (fun nv iv W=>∃(k:Nat),1≤k∧(k:Int)≤n∧nv=.int .i64 (L*(L-1)^(k-1))∧iv=.int .i64 k∧Ext W1 W) (fun _ iv _=>n.toNat-(intOf iv).toNat)
   case atStart=>exact⟨1,by omega,by have:=hdv.n8;omega,by simp,rfl,Below.refl _ _⟩
   case round =>
    obtain⟨k,hk1,hk,rfl,rfl,hE⟩:=hrel;replace k0:=zh hE k0;replace k1:=zh hE k1;replace hz:=wfu _ _ k0;simp only at hz;have HE:=hid hE;have hn8:=hdv.n8.2;have hL6:=hdv.l6;have HD:=hid hdv;obtain⟨p1,p2⟩:=z8k hL6 (k-1) (by omega);obtain⟨y,hy⟩:∃y,y=L*(L-1)^(k-1):=⟨_,rfl⟩
    rw[←hy]at p2 ⊢;have hL0:1≤y:=by
     rw[hy];have h1:1*1≤L*(L-1)^(k-1):=wbb (by omega) p1 (by omega) (by omega);omega
    have HY:=hid hy;clear hE hdv p1 hy
    by_cases hlt:(k:Int)<n
    ·obtain⟨-,p3⟩:=z8k hL6 k (by omega)
     have hmul:y*(L-1)=L*(L-1)^(k+1-1):=by
      rw[HY.out,Int.mul_assoc,←Int.pow_succ]
      congr 2
      omega
     rw[weh]at hmul;obtain⟨z,hz9⟩:∃z,z=y*(L-1):=⟨_,rfl⟩
     have hw1:IntKind.i64.wrap (L-1)=L-1:=wbh _ (by omega);have hz1:1*1≤y*(L-1):=wbb hL0 (by omega) (by omega) (by omega);have hw2:IntKind.i64.wrap (y*(L-1))=z:=by rw[←hz9];exact wbh _ (by omega)
     have HZ:=hid (hz9.trans hmul);clear hz9 hmul hz1 p3 p2 hL0;go_wp2_with fail;exact⟨⟨k+1,by omega,by omega,by rw[HZ.out,weh],by go_num,HE.out⟩,by simp[intOf];omega⟩
    ·have hke:Hid (k=n.toNat):=hid (by omega)
     go_wp2_with fail;go_ret;unfold z3e;refine⟨_,rfl,HE1.out.trans' HE.out,fun h=>⟨HD.out,?_⟩⟩;unfold fewW;rw[←hke.out,←HY.out];simpa using h
  ·go_wp2_with fail
   go_ret;unfold z3e;exact⟨false,rfl,HE1.out,fun h=>by cases h⟩
def psT(cs:List (Value×List Nat)):List (Value×Tk):=cs.map fun x=>(x.1,⟨x.2,1⟩)
theorem zzu(cs:List (Value×List Nat)):(psT cs).length=cs.length:=by simp[psT]
theorem zt9(cs:List (Value×List Nat)):zac (psT cs)=(cs.map (·.2)).map fun ss=>⟨ss,1⟩:=by
 unfold zac psT;rw[wdi,wdi];rfl
theorem zwg(cs:List (Value×List Nat)):zap (zac (psT cs))=cs.map (·.2):=by
 rw[zt9];unfold zap;rw[wdi];exact List.map_id _
theorem z1d(cs:List (Value×List Nat)){j:Nat}(h:j<cs.length):(za2 (zac (psT cs))).getD j 0=1:=by
 rw[zt9];unfold za2;rw[wch];simp[h]
theorem zaao(cs:List (Value×List Nat))(j:Nat):0≤(za2 (zac (psT cs))).getD j 0:=by
 by_cases h:j<cs.length
 ·rw[z1d cs h];decide
 ·rw[zt9]
  unfold za2;rw[wch];simp[h]
section
variable{W0 W:World}{M:zl}{k pn pc qn qc zn zc:Nat}{pa qa za:Option Addr}{cs:List (Value×List Nat)}
theorem zeu.ns(h:zeu W0 M k (.slice pa pn pc) (.slice qa qn qc) (.slice za zn zc) cs W):pn=cs.length∧qn=cs.length∧zn=cs.length:=by
 refine⟨?_,?_,?_⟩
 ·obtain⟨_,_,e,-⟩:=h.c.form
  cases e;simp
 ·obtain⟨_,_,e,-⟩:=h.l.form
  cases e;simp
 ·obtain⟨_,_,e,-⟩:=h.s.form
  cases e;simp[zy,h.len]
theorem zeu.ints(h:zeu W0 M k (.slice pa pn pc) (.slice qa qn qc) (.slice za zn zc) cs W):∀x∈cs,∃xa xc,x.1=.slice xa x.2.length xc∧zo W .i64 (.slice xa x.2.length xc) (zy x.2):=fun x hx=>by
 have h1:=(h.each x hx).oneInts;obtain⟨xa,xc,e,-⟩:=h1.spec;rw[zad]at e;rw[e]at h1;exact⟨xa,xc,e,h1⟩
theorem zeu.clm(h:zeu W0 M k (.slice pa cs.length pc) (.slice qa qn qc) (.slice za zn zc) cs W):zgd W pa pc cs:=⟨h.c.isRows,h.ints⟩
theorem zeu.tks(h:zeu W0 M k (.slice pa pn pc) (.slice qa (psT cs).length qc) (.slice za zn zc) cs W):ze4 W (.slice qa (psT cs).length qc) (psT cs):=by
 refine⟨?_,fun x hx=>?_⟩
 ·have h1:=h.l.isRows
  have e:(psT cs).map zt7=cs.map fun x=>[x.1,.int .i64 1]:=by
   unfold psT;rw[wdi];rfl
  rw[e];exact h1
 ·obtain⟨y,hy,rfl⟩:=wdv.1 hx
  exact(h.each y hy).oneInts
theorem zeu.ids(h:zeu W0 M k (.slice pa pn pc) (.slice qa qn qc) (.slice za cs.length zc) cs W):zo W .i64 (.slice za cs.length zc) (zy (List.range cs.length)):=by
 have h1:=h.s.oneInts;rw[←h.len]at h1;exact h1
end
theorem zaip{M:zl}(V:zag M)(h:fewW (M.L:Int) (M.n:Int)):cnt (opM M) ts0≤800:=by
 have hL:0<M.L:=by have:=V.L;omega
 have h0:=zacc (zqh M) (show 0<(opM M).L from hL);have h1:(z3z (opM M)).length≤(zca M.L M.n).length:=wc7 _ _;obtain⟨m,hm⟩:∃m,M.n=m+1:=⟨M.n-1,by have:=V.n;omega⟩
 have h2:=zxf M.L m;rw[←hm]at h2;unfold fewW at h;have e:((M.n:Int).toNat-1)=m:=by omega
 rw[e]at h;have h3:((M.L*(M.L-1)^m:Nat):Int)=(M.L:Int)*((M.L:Int)-1)^m:=by
  rw[wbd,Int.natCast_pow,Int.natCast_sub (by omega)];rfl
 omega
theorem zac8{M:zl}(V:zag M){cd:List Nat}(hc:cd.length=M.n)(e:cd=List.replicate M.n M.L)(cs:List (Value×List Nat)):zge (opM M) cs (ze5 (cnt (opM M) ts0)) (2^cs.length-1)≤zcl (za2 (zac (psT cs))) (psT cs).length cd.length [] (zck cd (zap (zac (psT cs)))):=by
 rw[zakb (zqh M) (zjz V) cs];have hsl:(zap (zac (psT cs))).length=cs.length:=by rw[zwg,wc8]
 have h:=zaio (M:=opM M) V.L.2 (clF cs) (zap (zac (psT cs))) (za2 (zac (psT cs))) (fun j hj=>by
  rw[hsl]at hj;rw[z1d cs hj]
  decide) (zaao cs) (fun j _=>by rw[zwg];rfl)
 rw[hsl]at h;rw[zzu,hc,e];exact h
theorem z8l{M:zl}:∀{u:List Nat} {s:TSt} {j:Nat},zbu M u s j→zb5 M.ss u s.at_=true
 |[],_,_,_=>rfl
 |c::l,s,j,h=>by
  obtain⟨h1,h2,h3,i,h4,h5,h6⟩:=h;have:=z8l h6;rw[zb5,←zxe (z29 h3),h3,wa7];exact this
theorem z69{M:zl}{cs:List (Value×List Nat)}(h1:1≤cs.length){u:List Nat}{j n:Nat}(h:zbu (zbf M (clF cs 0)) u ts0 j)(hn:u.length=n):(0:Int)∈zy (zc3 (zap (zac (psT cs))) u n (psT cs).length):=by
 unfold zy;refine wdv.2 ⟨0,?_,rfl⟩;unfold zc3;rw[wds,wdz,zzu];refine⟨h1,?_⟩;unfold zeg;rw[wbk];intro r hr;rw[wdz]at hr;have hf:=(zqu u 0).1 (z8l h) r (by omega);rw[wfc]at hf;have hf:(((cs.map fun x:Value×List Nat=>x.2).getD 0 []).getD r 0).testBit (u.getD r 0)=true:=hf;rw[zac3 (by omega),zwg,beq_iff_eq];refine wen fun i=>?_
 rw[we8,wfa]
 by_cases e:u.getD r 0=i
 ·rw[←e,hf,decide_eq_true rfl]
  rfl
 ·rw[decide_eq_false e,Bool.and_false]
end Go.Proofs.YtdcnbeehckgpcaaGreat
