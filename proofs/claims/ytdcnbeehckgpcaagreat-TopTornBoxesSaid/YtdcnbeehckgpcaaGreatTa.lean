/-
  Lists of natural numbers in memory, bits of numbers.
-/
import Derived.Test.YtdcnbeehckgpcaaGreatBb
import Derived.Test.YtdcnbeehckgpcaaGreatBc
set_option maxRecDepth 200000
set_option maxHeartbeats 0
set_option linter.unusedSimpArgs false
set_option linter.unusedVariables false
namespace Go.Proofs.YtdcnbeehckgpcaaGreat
open Go.Lib (hid)
open Go.RowKit
def zy(l:List Nat):List Int:=l.map fun(n:Nat)=>(n:Int)
theorem zad(l:List Nat):(zy l).length=l.length:=by simp[zy]
theorem zig{l:List Nat}{i:Nat}(h:i<l.length):(zy l)[i]'(by rw[zad];exact h)=(l.getD i 0:Int):=by
 simp only[zy,wcx];rw[wch,wcn h];rfl
theorem za7{w:World}{sa:Option Addr}{n cap:Nat}{l:List Nat}(h:zo w .i64 (.slice sa n cap) (zy l)){i:Nat}(hi:i<l.length):∃sb off,sa=some ⟨sb,off,none⟩∧∀i,i<l.length→∀W,Ext w W→W.cell? ⟨sb,off+i,none⟩=some (.int .i64 (l.getD i 0:Int)):=by
 obtain⟨_,_,e0,-,-,hc⟩:=h.spec;cases e0
 rcases hc with h0|⟨sb,off,rfl,hc⟩
 ·have:(zy l).length=0:=by rw[h0];rfl
  rw[zad]at this;omega
 ·refine⟨sb,off,rfl,fun i hi W e=>?_⟩
  have c0:=zh e (hc i (by rw[zad];exact hi));rw[zig hi]at c0;exact c0
theorem z9t(n:Nat)(h1:n≤4294967295):bits .and .i64 (n:Int) 1=((n%2:Nat):Int):=by
 have e:(BitVec.ofInt IntKind.i64.bits (n:Int)&&&BitVec.ofInt IntKind.i64.bits 1).toNat=n%2:=by
  show(BitVec.ofInt 64 (n:Int)&&&BitVec.ofInt 64 1).toNat=n%2;simp[BitVec.toNat_and]
 unfold bits;simp only;rw[e,wbh _ (by omega)]
theorem zj9(f s:Nat)(h1:f≤4294967295)(h2:s≤4294967295):bits .and .i64 (f:Int) (s:Int)=((f&&&s:Nat):Int):=by
 have h3:f&&&s≤f:=wej;have e:(BitVec.ofInt IntKind.i64.bits (f:Int)&&&BitVec.ofInt IntKind.i64.bits (s:Int)).toNat=f&&&s:=by
  show(BitVec.ofInt 64 (f:Int)&&&BitVec.ofInt 64 (s:Int)).toNat=f&&&s;rw[BitVec.toNat_and,wat,wat,wau,wau,wew (by omega),wew (by omega)]
 unfold bits;simp only;rw[e,wbh _ (by omega)]
theorem zh7(n k:Nat):(n:Int) / 2^k=((n>>>k:Nat):Int):=by
 rw[we5];simp
theorem z0w(n k:Nat):((n>>>k)%2=1)↔n.testBit k=true:=by
 simp[Nat.testBit]
theorem zsc(n k:Nat)(h:n≤4294967295):bits .and .i64 ((n:Int) / 2^k) 1=if n.testBit k=true then 1 else 0:=by
 rw[zh7,z9t _ (by rw[we5];exact wer (wel _ _) h)];have hb:=z0w n k;cases hx:n.testBit k
 ·rw[hx]at hb
  simp at hb;rw[if_neg (by simp),hb];rfl
 ·rw[hx]at hb
  simp at hb;rw[if_pos rfl,hb];rfl
theorem zjf{n:Nat}(h:n≤6):IntKind.i64.wrap (2^n)=((2^n:Nat):Int)∧2^n≤64∧1≤2^n:=by
 match n,h with
 |0,_=>decide +kernel
 |1,_=>decide +kernel
 |2,_=>decide +kernel
 |3,_=>decide +kernel
 |4,_=>decide +kernel
 |5,_=>decide +kernel
 |6,_=>decide +kernel
structure TSt where
 at_:Nat
 last:Int
 sum:Nat
deriving DecidableEq
def ts0:TSt:=⟨0,-1,0⟩
structure zl where
 L:Nat
 n:Nat
 ks:List Nat
 rest:Nat
 ss:List Nat
def toS(M:zl)(s:TSt)(c:Nat):TSt:=⟨s.at_+1,c,(s.sum+M.ks.getD s.at_ 0*c)%M.L⟩
def okS(M:zl)(s:TSt)(c:Nat):Bool:=decide ((c:Int)≠s.last)&&(M.ss.getD s.at_ 0).testBit c
def zaq(f:Nat→Nat):Nat→Nat
 |0=>0
 |k+1=>zaq f k+f k
theorem zg9{f g:Nat→Nat}:∀{k:Nat},(∀c,c<k→f c=g c)→zaq f k=zaq g k
 |0,_=>rfl
 |k+1,h=>by rw[zaq,zaq,zg9 fun c hc=>h c (by omega),h k (by omega)]
theorem z7p{f:Nat→Nat}{b:Nat}:∀{k:Nat},(∀c,c<k→f c≤b)→zaq f k≤k*b
 |0,_=>by simp[zaq]
 |k+1,h=>by
  have h1:=z7p (f:=f) (b:=b) (k:=k) fun c hc=>h c (by omega)
  have h2:=h k (by omega);rw[zaq,we7];omega
def cntF(M:zl):Nat→TSt→Nat
 |0,s=>if s.sum=M.rest then 1 else 0
 |f+1,s=>zaq (fun c=>if okS M s c=true then cntF M f (toS M s c)else 0) M.L
def cnt(M:zl)(s:TSt):Nat:=cntF M (M.n-s.at_) s
def za8(M:zl)(s:TSt)(c:Nat):Nat:=if okS M s c=true then cnt M (toS M s c)else 0
theorem zih{M:zl}{s:TSt}(h:s.at_=M.n):cnt M s=if s.sum=M.rest then 1 else 0:=by
 unfold cnt;rw[h,we6];rfl
theorem zgk{M:zl}{s:TSt}(h:s.at_<M.n):cnt M s=zaq (za8 M s) M.L:=by
 unfold cnt;obtain⟨f,hf⟩:∃f,M.n-s.at_=f+1:=⟨M.n-s.at_-1,by omega⟩
 rw[hf,cntF];refine zg9 fun c _=>?_
 unfold za8 cnt;rw[show M.n-(toS M s c).at_=f by unfold toS;simp only;omega]
structure zag(M:zl):Prop where
 L:2≤M.L∧M.L≤6
 n:2≤M.n∧M.n≤8
 kl:M.ks.length=M.n
 sl:M.ss.length=M.n
 ks:∀i,i<M.n→M.ks.getD i 0<M.L
 ss:∀i,i<M.n→M.ss.getD i 0<2^M.L
 rest:M.rest<M.L
structure StV(M:zl)(s:TSt):Prop where
 p:s.at_≤M.n
 last:-1≤s.last∧s.last<M.L
 sum:s.sum<M.L
theorem z9u{M:zl}(V:zag M):StV M ts0:=by
 have:=V.L;exact⟨by simp[ts0],⟨by simp[ts0],by simp only[ts0];omega⟩,by simp only[ts0];omega⟩
theorem zsd{M:zl}(V:zag M){s:TSt}(h:s.at_<M.n){c:Nat}(hc:c<M.L):StV M (toS M s c):=by
 have:=V.L;refine⟨by unfold toS;simp only;omega,by unfold toS;simp only;omega,?_⟩;unfold toS;simp only;exact wex _ (by omega)
theorem z7q{M:zl}(V:zag M):∀f s,cntF M f s≤6^f
 |0,s=>by
  unfold cntF
  split<;>simp
 |f+1,s=>by
  unfold cntF;have h1:=z7p (f:=fun c=>if okS M s c=true then cntF M f (toS M s c)else 0) (b:=6^f) (k:=M.L) fun c _=>by
   split
   ·exact z7q V f _
   ·exact wfd _
  refine wer h1 ?_
  rw[we4,Nat.mul_comm];exact Nat.mul_le_mul_left _ V.L.2
theorem zfz{M:zl}(V:zag M)(s:TSt):cnt M s≤1679616:=by
 unfold cnt;refine wer (z7q V _ _) ?_
 have:6^(M.n-s.at_)≤6^8:=we3 (by omega) (by have:=V.n;omega);omega
open Go.RowKit Go.Shelf
def stC(s:TSt):Array Value:=#[.int .i64 s.at_,.int .i64 s.last,.int .i64 s.sum]
def zai(s:TSt):Value:=.agg (stC s)
def zbl(W:World)(b:Nat)(s:TSt):Prop:=W.heap[b]?=some (.cells (stC s) 97 (0,0))
theorem zbl.c0{W:World}{b:Nat}{s:TSt}(h:zbl W b s):W.cell? ⟨b,0,none⟩=some (.int .i64 s.at_):=by rw[cell_of_row _ _ _ _ _ _ h];rfl
theorem zbl.c1{W:World}{b:Nat}{s:TSt}(h:zbl W b s):W.cell? ⟨b,1,none⟩=some (.int .i64 s.last):=by rw[cell_of_row _ _ _ _ _ _ h];rfl
theorem zbl.c2{W:World}{b:Nat}{s:TSt}(h:zbl W b s):W.cell? ⟨b,2,none⟩=some (.int .i64 s.sum):=by rw[cell_of_row _ _ _ _ _ _ h];rfl
theorem zbl.fr{W:World}{b:Nat}{s:TSt}(h:zbl W b s)(o:Nat):W.frozen? ⟨b,o,none⟩=false:=by
 have h':W.heap[b]?=_:=h;simp[World.frozen?,h']
theorem zbl.lt{W:World}{b:Nat}{s:TSt}(h:zbl W b s):b<W.heap.size:=(wad.1 h).1
theorem zbl.ext{W W':World}{b:Nat}{s:TSt}(h:zbl W b s)(e:Ext W W'):zbl W' b s:=(e.block _ h.lt).trans h
theorem zbl.kept{S:Nat→Prop}{W W':World}{b:Nat}{s:TSt}(h:zbl W b s)(k:Kept S W W')(hs:S b):zbl W' b s:=(k.same b h.lt hs).trans h
theorem zne{W:World}{b:Nat}{s:TSt}(h:zbl W b s)(t:TSt):zbl (((W.setCell ⟨b,0,none⟩ (.int .i64 t.at_)).setCell ⟨b,1,none⟩ (.int .i64 t.last)).setCell ⟨b,2,none⟩ (.int .i64 t.sum)) b t:=by
 have h0:(W.setCell ⟨b,0,none⟩ (.int .i64 t.at_)).heap[b]?=some (.cells #[.int .i64 t.at_,.int .i64 s.last,.int .i64 s.sum] 97 (0,0)):=zal h 0 _;have h1:((W.setCell ⟨b,0,none⟩ (.int .i64 t.at_)).setCell ⟨b,1,none⟩ (.int .i64 t.last)).heap[b]?=some (.cells #[.int .i64 t.at_,.int .i64 t.last,.int .i64 s.sum] 97 (0,0)):=zal h0 1 _;exact zal h1 2 _
theorem zgl{S:Nat→Prop}{W W':World}{k:IntKind}{sa:Option Addr}{n c:Nat}{l:List Int}(h:zo W k (.slice sa n c) l)(hk:Kept S W W')(hs:∀b off,sa=some ⟨b,off,none⟩→S b):zo W' k (.slice sa n c) l:=by
 obtain⟨_,_,e,h1,h2,h3⟩:=h;cases e;refine⟨_,_,rfl,h1,h2,?_⟩
 rcases h3 with h3|⟨b,off,rfl,h3⟩
 ·exact .inl h3
 ·exact .inr ⟨b,off,rfl,fun i hi j hj=>hk.cell (h3 i hi j hj) (hs b off rfl)⟩
structure zbm(W:World)(p:Nat)(M:zl)(ka sa:Option Addr)(kc sc mb:Nat):Prop where
 c0:W.cell? ⟨p,0,none⟩=some (.int .i64 M.L)
 c1:W.cell? ⟨p,1,none⟩=some (.int .i64 M.n)
 c2:W.cell? ⟨p,2,none⟩=some (.slice ka M.n kc)
 c3:W.cell? ⟨p,3,none⟩=some (.int .i64 M.rest)
 c4:W.cell? ⟨p,4,none⟩=some (.slice sa M.n sc)
 c5:W.cell? ⟨p,5,none⟩=some (.map (some mb))
 ks:zo W .i64 (.slice ka M.n kc) (zy M.ks)
 ss:zo W .i64 (.slice sa M.n sc) (zy M.ss)
theorem zbm.lt{W:World}{p:Nat}{M:zl}{ka sa:Option Addr}{kc sc mb:Nat}(h:zbm W p M ka sa kc sc mb):p<W.heap.size:=wfu _ _ h.c0
theorem zbm.ext{W W':World}{p:Nat}{M:zl}{ka sa:Option Addr}{kc sc mb:Nat}(h:zbm W p M ka sa kc sc mb)(e:Ext W W'):zbm W' p M ka sa kc sc mb :=
 ⟨zh e h.c0,zh e h.c1,zh e h.c2,zh e h.c3,zh e h.c4,zh e h.c5,h.ks.ext e,h.ss.ext e⟩
structure zqa(p:Nat)(ka sa:Option Addr)(mb:Nat):Prop where
 p:p≠mb
 k:∀b off,ka=some ⟨b,off,none⟩→b≠mb
 s:∀b off,sa=some ⟨b,off,none⟩→b≠mb
theorem zbm.kept{S:Nat→Prop}{W W':World}{p:Nat}{M:zl}{ka sa:Option Addr}{kc sc mb m:Nat}(h:zbm W p M ka sa kc sc mb)(o:zqa p ka sa m)(k:Kept S W W')(hS:∀b,b<W.heap.size→b≠m→S b):zbm W' p M ka sa kc sc mb:=by
 have hp:=hS p h.lt o.p;have hb:∀{A:Option Addr} {n c:Nat} {l:List Nat},zo W .i64 (.slice A n c) (zy l)→(∀b off,A=some ⟨b,off,none⟩→b≠m)→0<l.length→∀b off,A=some ⟨b,off,none⟩→S b:=by
  intro A n c l hi ho hl b off e;subst e;obtain⟨sb,so,e,hc⟩:=za7 hi hl;have:=wfu _ _ (hc 0 hl W (Below.refl _ _));cases e;exact hS _ this (ho _ _ rfl)
 have hl:∀{A:Option Addr} {n c:Nat} {l:List Nat},zo W .i64 (.slice A n c) (zy l)→(∀b off,A=some ⟨b,off,none⟩→b≠m)→zo W' .i64 (.slice A n c) (zy l):=by
  intro A n c l hi ho
  rcases weo l.length with h0|h0
  ·have:l=[]:=wbz h0
   subst this;obtain⟨_,_,e,h1,h2,-⟩:=hi;cases e;exact⟨_,_,rfl,h1,h2,.inl rfl⟩
  ·exact zgl hi k (hb hi ho h0)
 exact⟨k.cell h.c0 hp,k.cell h.c1 hp,k.cell h.c2 hp,k.cell h.c3 hp,k.cell h.c4 hp,k.cell h.c5 hp,hl h.ks o.k,hl h.ss o.s⟩
theorem zfl(w:World):Calls Tryz.prog 54 #[] w fun e w'=>e=.returned (zai ts0)∧Ext w w':=by
 go_enter Tryz.func54,Tryz.ntmps54
 go_wp2_with fail;refine bodyPost_ret (v:=zai ts0) (by simp[results,Tryz.results54,go_sem,zai,stC,ts0]) rfl ?_
 exact⟨rfl,by exact xx⟩
end Go.Proofs.YtdcnbeehckgpcaaGreat
namespace Go.Proofs.YtdcnbeehckgpcaaGreat
open Go.Lib (hid)
open Go.RowKit Go.Shelf
attribute [local go_sem] Oper.semAt_some
theorem z7r(M:zl)(s:TSt)(c p:Nat)(ka sa:Option Addr)(kc sc mb:Nat)(w:World)(hm:zbm w p M ka sa kc sc mb)(V:zag M)(hv:StV M s)(hp:s.at_<M.n)(hc:c<M.L) :
  Calls Tryz.prog 65 #[.pointer (some ⟨p,0,none⟩),zai s,.int .i64 c] w fun e w'=>e=.returned (.tuple #[zai (toS M s c),.bool (okS M s c)])∧Ext w w':=by
 have c0:=hm.c0;have c2:=hm.c2;have c4:=hm.c4;have hpz:=hm.lt;have hL:=V.L;have hn:=V.n;have hki:(s.at_:Int)<(M.n:Int):=by omega
 obtain⟨kb,ko,rfl,hk⟩:=za7 hm.ks (i:=s.at_) (by rw[V.kl];exact hp);obtain⟨sb,so,rfl,hss⟩:=za7 hm.ss (i:=s.at_) (by rw[V.sl];exact hp);have d0:=hk s.at_ (by rw[V.kl];exact hp) w (Below.refl _ _);have e0:=hss s.at_ (by rw[V.sl];exact hp) w (Below.refl _ _);have hzk:=wfu _ _ d0;have hzs:=wfu _ _ e0;simp only at hzk hzs;have hkb:=V.ks s.at_ hp;have hsb:=V.ss s.at_ hp;obtain⟨k,hk0⟩:∃k,k=M.ks.getD s.at_ 0:=⟨_,rfl⟩
 obtain⟨z,hz0⟩:∃z,z=M.ss.getD s.at_ 0:=⟨_,rfl⟩
 rw[←hk0]at d0 hkb;rw[←hz0]at e0 hsb;have h26:2^M.L≤2^6:=we3 (by omega) hL.2;have hsum:=hv.sum;have hkc:k*c≤36:=wez (show k≤6 by omega) (show c≤6 by omega);have w1:IntKind.i64.wrap ((s.at_:Int)+1)=(((s.at_+1:Nat)):Int):=by rw[wbh _ (by omega)];omega
 have w2:IntKind.i64.wrap ((k:Int)*(c:Int))=((k*c:Nat):Int):=by rw[wbh _ (by omega)];omega
 have w3:IntKind.i64.wrap ((s.sum:Int)+((k*c:Nat):Int))=((s.sum+k*c:Nat):Int):=by rw[wbh _ (by omega)];omega
 have w4:Int.tmod ((s.sum+k*c:Nat):Int) (M.L:Int)=(((s.sum+k*c)%M.L:Nat):Int):=by rw[wbf (by omega)];rfl
 obtain⟨m,hm0⟩:∃m,m=(s.sum+k*c)%M.L:=⟨_,rfl⟩
 have hmb:m<M.L:=by rw[hm0];exact wex _ (by omega)
 rw[←hm0]at w4;obtain⟨y,hy0⟩:∃y,y=s.sum+k*c:=⟨_,rfl⟩
 rw[←hy0]at w3 w4;have w5:IntKind.i64.wrap (m:Int)=(m:Int):=wbh _ (by omega);have hL0:¬M.L=0:=by omega
 obtain⟨x,hx0⟩:∃x,x=k*c:=⟨_,rfl⟩
 rw[←hx0]at w2 w3;obtain⟨a1,ha1⟩:∃a1,a1=s.at_+1:=⟨_,rfl⟩
 rw[←ha1]at w1;have HTO:Hid (toS M s c=⟨a1,c,m⟩):=hid (by unfold toS;rw[←hk0,hm0,ha1]);have HOK:Hid (okS M s c=(decide ((c:Int)≠s.last)&&z.testBit c)):=hid (by unfold okS;rw[hz0]);have HZ:Hid (z≤64∧c≤6∧s.at_≤8):=hid (by omega);clear hm V hv hp hc hk hss hkb hk0 hz0 hm0 hy0 hkc hsum hmb h26 hL hn hx0 ha1 hsb;unfold zai stC
 go_enter Tryz.func65,Tryz.ntmps65
 go_upto_region 1 with(fail);obtain⟨W0,hW0⟩:∃W0,W0=(w.alloc (.cells #[.int .i64 s.at_,.int .i64 s.last,.int .i64 s.sum] 97)).alloc (.cells #[.int .i64 0,.int .i64 0,.int .i64 0] 97):=⟨_,rfl⟩
 have hE:Ext w W0:=by rw[hW0];exact xx
 have hr:zbl W0 (w.heap.size+1) ⟨0,0,0⟩:=by
  rw[hW0];have:=World.alloc_heap_new (w.alloc (.cells #[.int .i64 s.at_,.int .i64 s.last,.int .i64 s.sum] 97)) (.cells #[.int .i64 0,.int .i64 0,.int .i64 0] 97)
  rwa [wfx]at this
 have b0:W0.cell? ⟨w.heap.size,0,none⟩=some (.int .i64 s.at_):=by rw[hW0];simp[go_sem]
 have b1:W0.cell? ⟨w.heap.size,1,none⟩=some (.int .i64 s.last):=by rw[hW0];simp[go_sem]
 have b2:W0.cell? ⟨w.heap.size,2,none⟩=some (.int .i64 s.sum):=by rw[hW0];simp[go_sem]
 have hz:w.heap.size+1<W0.heap.size:=hr.lt;have hzb:w.heap.size<W0.heap.size:=by omega
 replace c0:=zh hE c0;replace c2:=zh hE c2;replace c4:=zh hE c4;replace d0:=zh hE d0;replace e0:=zh hE e0;have HW:=hid hE;have HR:=hid hr;have hpz0:p<W0.heap.size:=by omega
 have hzk0:kb<W0.heap.size:=by omega
 have hzs0:sb<W0.heap.size:=by omega
 rw[←hW0];clear hW0 hE hr;refine zb8 (W0.heap.size) (weq _)
  [sqV (.pointer (some ⟨w.heap.size,0,none⟩)),sqV (.int .i64 s.at_),sqV (.int .i64 a1),sqV (.int .i64 c),sqV (.pointer (some ⟨w.heap.size,2,none⟩)),sqV (.int .i64 s.sum),sqV (.pointer (some ⟨p,0,none⟩)),sqV (.pointer (some ⟨p,0,none⟩)),sqV (.pointer (some ⟨p,0,none⟩)),sqV (.pointer (some ⟨p,2,none⟩)),sqV (.slice (some ⟨kb,ko,none⟩) M.n kc),sqV (.pointer (some ⟨w.heap.size,0,none⟩)),sqV (.int .i64 s.at_),sqV (.pointer (some ⟨kb,ko+s.at_,none⟩)),sqV (.int .i64 k),sqV (.int .i64 c),sqV (.int .i64 x),sqV (.int .i64 y),sqV (.pointer (some ⟨p,0,none⟩)),sqV (.pointer (some ⟨p,0,none⟩)),sqV (.pointer (some ⟨p,0,none⟩)),sqV (.pointer (some ⟨p,0,none⟩)),sqV (.int .i64 M.L),sqV (.int .i64 m),sqV (.agg #[.int .i64 a1,.int .i64 c,.int .i64 m]),sqW (fun v W=>∃g,v=.pointer (some ⟨g,0,none⟩)∧W0.heap.size≤g∧zbl W g ⟨0,0,0⟩) (fun _ _ _ ⟨g,h1,h2,h3⟩ e=>⟨g,h1,h2,h3.ext e⟩),sqD [25] (fun l v W=>∃g,l=[.pointer (some ⟨g,0,none⟩)]∧W0.heap.size≤g∧zbl W g ⟨a1,c,m⟩) (fun _ _ _ _ ⟨g,h1,h2,h3⟩ e=>⟨g,h1,h2,h3.ext e⟩)]
  [true,true,true,true,true,true,true,true,true,true,true,true,true,true,true,true,true,true,true,true,true,true,true,true,true,false,false] [false,false,false,false,false,false,false,false,false,false,false,false,false,false,false,false,false,false,false,false,false,false,false,false,false,false,true] [true,true,true,true,true,true,true,true,true,true,true,true,true,true,true,true,true,true,true,true,true,true,true,true,true,false,true] [true,true,true,true,true,true,true,true,true,true,true,true,true,true,true,true,true,true,true,true,true,true,true,true,true,true,true]
  (by kernel_rfl) (by kernel_rfl) (by decide +kernel) (by decide +kernel) (by decide +kernel) rfl ⟨rfl,rfl⟩ ⟨?s0,?s1,?s2,?s3,?s4,?s5,?s6,?s7,?s8,?s9,?s10,?s11,?s12,?s13,?s14,?s15,?s16,?s17,?s18,?s19,?s20,?s21,?s22,?s23,?s24,?s25,?s26,trivial⟩ [some 9,some 10,some 11,some 12,some 13,some 14,some 15,some 16,some 17,some 18,some 19,some 20,some 21,some 22,some 23,some 24,some 25,some 26,some 27,some 28,some 29,some 30,some 31,some 32,some 33,some 8,none] rfl rfl ?send
 case s0 =>
  intro f g W b e d a c;have o0:g (.tmp 4)=.pointer (some ⟨w.heap.size,0,none⟩):=a.old 4 (by decide);exact ze (by simp[execOp,o0,go_sem]) rfl
 case s1 =>
  intro f g W b e d a c;have d0:g (.tmp 9)=.pointer (some ⟨w.heap.size,0,none⟩):=dpv a d 0 9;have f_b0:=cell_below b (by simp only;omega) b0;exact ze (by simp[execOp,d0,f_b0,go_sem]) rfl
 case s2 =>
  intro f g W b e d a c;have d1:g (.tmp 10)=.int .i64 s.at_:=dpv a d 1 10;exact ze (by simp[execOp,a.const,d1,w1,go_sem]) rfl
 case s3 =>
  intro g h W b f e a d;have o0:h (.tmp 2)=.int .i64 c:=a.old 2 (by decide);exact ze (by simp[execOp,o0,go_sem]) rfl
 case s4 =>
  intro f g W b e d a c;have o0:g (.tmp 4)=.pointer (some ⟨w.heap.size,0,none⟩):=a.old 4 (by decide);exact ze (by simp[execOp,o0,go_sem]) rfl
 case s5 =>
  intro f g W b e d a c;have d4:g (.tmp 13)=.pointer (some ⟨w.heap.size,2,none⟩):=dpv a d 4 13;have f_b2:=cell_below b (by simp only;omega) b2;exact ze (by simp[execOp,d4,f_b2,go_sem]) rfl
 case s6 =>
  intro f g W b e d a c;have o0:g (.tmp 0)=.pointer (some ⟨p,0,none⟩):=a.old 0 (by decide);exact ze (by simp[execOp,o0,go_sem]) rfl
 case s7 =>
  intro f g W b e d a c;have d6:g (.tmp 15)=.pointer (some ⟨p,0,none⟩):=dpv a d 6 15;exact ze (by simp[execOp,d6,go_sem]) rfl
 case s8 =>
  intro f g W b e d a c;have d7:g (.tmp 16)=.pointer (some ⟨p,0,none⟩):=dpv a d 7 16;exact ze (by simp[execOp,d7,go_sem]) rfl
 case s9 =>
  intro f g W b e d a c;have d8:g (.tmp 17)=.pointer (some ⟨p,0,none⟩):=dpv a d 8 17;exact ze (by simp[execOp,d8,go_sem]) rfl
 case s10 =>
  intro f g W b e d a c;have d9:g (.tmp 18)=.pointer (some ⟨p,2,none⟩):=dpv a d 9 18;have f_c2:=cell_below b (by simp only;omega) c2;exact ze (by simp[execOp,d9,f_c2,go_sem]) rfl
 case s11 =>
  intro f g W b e d a c;have o0:g (.tmp 4)=.pointer (some ⟨w.heap.size,0,none⟩):=a.old 4 (by decide);exact ze (by simp[execOp,o0,go_sem]) rfl
 case s12 =>
  intro f g W b e d a c;have d11:g (.tmp 20)=.pointer (some ⟨w.heap.size,0,none⟩):=dpv a d 11 20;have f_b0:=cell_below b (by simp only;omega) b0;exact ze (by simp[execOp,d11,f_b0,go_sem]) rfl
 case s13 =>
  intro f g W b e d a c;have d10:g (.tmp 19)=.slice (some ⟨kb,ko,none⟩) M.n kc:=dpv a d 10 19;have d12:g (.tmp 21)=.int .i64 s.at_:=dpv a d 12 21;exact ze (by simp[execOp,d10,d12,hki,go_sem]) rfl
 case s14 =>
  intro f g W b e d a c;have d13:g (.tmp 22)=.pointer (some ⟨kb,ko+s.at_,none⟩):=dpv a d 13 22;have f_d0:=cell_below b (by simp only;omega) d0;exact ze (by simp[execOp,d13,f_d0,go_sem]) rfl
 case s15 =>
  intro g h W b f e a d;have o0:h (.tmp 2)=.int .i64 c:=a.old 2 (by decide);exact ze (by simp[execOp,o0,go_sem]) rfl
 case s16 =>
  intro g h W b f e a d;have d14:h (.tmp 23)=.int .i64 k:=dpv a e 14 23;have d15:h (.tmp 24)=.int .i64 c:=dpv a e 15 24;exact ze (by simp[execOp,d14,d15,w2,go_sem]) rfl
 case s17 =>
  intro f g W b e d a c;have d5:g (.tmp 14)=.int .i64 s.sum:=dpv a d 5 14;have d16:g (.tmp 25)=.int .i64 x:=dpv a d 16 25;exact ze (by simp[execOp,d5,d16,w3,go_sem]) rfl
 case s18 =>
  intro f g W b e d a c;have o0:g (.tmp 0)=.pointer (some ⟨p,0,none⟩):=a.old 0 (by decide);exact ze (by simp[execOp,o0,go_sem]) rfl
 case s19 =>
  intro f g W b e d a c;have d18:g (.tmp 27)=.pointer (some ⟨p,0,none⟩):=dpv a d 18 27;exact ze (by simp[execOp,d18,go_sem]) rfl
 case s20 =>
  intro f g W b e d a c;have d19:g (.tmp 28)=.pointer (some ⟨p,0,none⟩):=dpv a d 19 28;exact ze (by simp[execOp,d19,go_sem]) rfl
 case s21 =>
  intro f g W b e d a c;have d20:g (.tmp 29)=.pointer (some ⟨p,0,none⟩):=dpv a d 20 29;exact ze (by simp[execOp,d20,go_sem]) rfl
 case s22 =>
  intro f g W b e d a c;have d21:g (.tmp 30)=.pointer (some ⟨p,0,none⟩):=dpv a d 21 30;have f_c0:=cell_below b (by simp only;omega) c0;exact ze (by simp[execOp,d21,f_c0,go_sem]) rfl
 case s23 =>
  intro f g W b e d a c;have d17:g (.tmp 26)=.int .i64 y:=dpv a d 17 26;have d22:g (.tmp 31)=.int .i64 M.L:=dpv a d 22 31;exact ze (by simp[execOp,d17,d22,w4,hL0,go_sem]) rfl
 case s24 =>
  intro g h W b f e a d;have d2:h (.tmp 11)=.int .i64 a1:=dpv a e 2 11;have d3:h (.tmp 12)=.int .i64 c:=dpv a e 3 12;have d23:h (.tmp 32)=.int .i64 m:=dpv a e 23 32;exact ze (by simp[execOp,d2,d3,d23,go_sem]) rfl
 case s25 =>
  intro f g W b e d a c;exact zgi (W':=W.alloc (.cells #[.int .i64 0,.int .i64 0,.int .i64 0] 97)) (by simp[execOp,go_sem]) xx ⟨_,rfl,b.size,World.alloc_heap_new W _⟩
 case s26 =>
  intro h i W b f e a d;obtain⟨g,e1,hB,hst⟩:∃g,h 25=.pointer (some ⟨g,0,none⟩)∧W0.heap.size≤g∧zbl W g ⟨0,0,0⟩:=e 25 (by decide);have dq:i (.tmp 8)=.pointer (some ⟨g,0,none⟩):=(a.dep 25 (by decide) 8 rfl).trans e1;have d6:i (.tmp 33)=.agg #[.int .i64 a1,.int .i64 c,.int .i64 m]:=dpv a e 24 33;clear e;have g0:=hst.c0;have g1:=hst.c1;have g2:=hst.c2;have gf:=fun o=>hst.fr o
  exact zmg (W':=((W.setCell ⟨g,0,none⟩ (.int .i64 a1)).setCell ⟨g,1,none⟩ (.int .i64 c)).setCell ⟨g,2,none⟩ (.int .i64 m)) (by simp[execOp,dq,d6,go_sem,g0,g1,g2,gf]) (((Below.refl _ W).setCell hB _).setCell hB _ |>.setCell hB _) ⟨g,congrArg (fun x=>[x]) e1,hB,zne hst ⟨a1,c,m⟩⟩
 case send =>
  intro val X hE hzz hv;obtain⟨-,-,-,-,-,-,-,-,-,-,-,-,-,-,-,-,-,-,-,-,-,-,-,-,-,-,r26,-⟩:=hv;obtain⟨g,e25,hBg,hst⟩:∃g,[val 25]=[.pointer (some ⟨g,0,none⟩)]∧W0.heap.size≤g∧zbl X g ⟨a1,c,m⟩:=r26;have q25:val 25=.pointer (some ⟨g,0,none⟩):=(List.cons.inj e25).1;simp only[za9,q25];go_frame;have hE:Ext W0 X:=hE;replace b0:=zh hE b0;replace b1:=zh hE b1;replace c4:=zh hE c4;replace e0:=zh hE e0;replace HR:=hid (HR.out.ext hE);have g0:=hst.c0;have g1:=hst.c1;have g2:=hst.c2;have hgz:=hst.lt;have hX:=hzz;replace HW:=hid (HW.out.trans' hE);obtain⟨v,hv0⟩:∃v:Int,v=if z.testBit c=true then 1 else 0:=⟨_,rfl⟩
  obtain⟨q,hq0⟩:∃q,q=z.testBit c:=⟨_,rfl⟩
  obtain⟨e,he0⟩:∃e:Nat,e=z>>>c:=⟨_,rfl⟩
  have v1:(z:Int) / 2^min c 64=(e:Int):=by rw[Nat.min_eq_left (by have:=HZ.out;omega),he0];exact zh7 z c
  have v2:bits .and .i64 (e:Int) 1=v:=by
   have:=zsc z c (by have:=HZ.out;omega);rw[zh7,←he0]at this;rw[this,hv0]
  have v3:(v == 1)=q:=by rw[hv0,hq0];cases z.testBit c<;>rfl
  rw[←hq0]at HOK;clear hE hzz e25 q25 hst hBg c0 c2 d0 b2 hv0 hq0 he0 w1 w2 w3 w4 w5 hL0;go_upto_region 2 with(fail)
  by_cases hl:(c:Int)=s.last
  ·have hcl:((c:Int) != s.last)=false:=by simp[hl]
   have HL:=hid hl;clear hl;refine zau (w.heap.size+1) (by omega)
    [sqV (.agg #[.int .i64 a1,.int .i64 c,.int .i64 m]),sqV (.int .i64 c),sqV (.pointer (some ⟨w.heap.size,1,none⟩)),sqV (.int .i64 s.last),sqV (.bool false),sqV (.bool false),sqV undef,sqV undef,sqV undef,sqV undef,sqV undef,sqV undef,sqV undef,sqV undef,sqV undef,sqV undef,sqV undef,sqV undef,sqV (.bool false),sqW (fun v W=>zbl W (w.heap.size+1) ⟨a1,c,m⟩) (fun _ _ _ h e=>h.ext e),sqV (.bool false)]
    [true,true,true,true,true,true,true,true,true,true,true,true,true,true,true,true,true,true,true,false,true] [false,false,false,false,false,false,false,false,false,false,false,false,false,false,false,false,false,false,false,true,false] [true,true,true,true,true,true,true,true,true,true,true,true,true,true,true,true,true,true,true,true,true] [true,true,true,true,true,true,false,false,false,false,false,false,false,false,false,false,false,false,false,true,false] [true,true,true,true,true,true,false,false,false,false,false,false,false,false,false,false,false,false,true,true,true] [none,none,none,none,some false,some false,none,none,none,none,none,none,none,none,none,none,none,none,some false,none,some false]
    (by kernel_rfl) (by kernel_rfl) (by decide +kernel) ⟨fun _ _ _ h=>h,⟨fun _ _ _ h=>h,⟨fun _ _ _ h=>h,⟨fun _ _ _ h=>h,trivial⟩⟩⟩⟩ (by decide +kernel) (by decide +kernel) (by decide +kernel) rfl ⟨rfl,rfl,rfl⟩ ⟨?s0,?s1,?s2,?s3,?s4,?s5,?s6,?s7,?s8,?s9,?s10,?s11,?s12,?s13,?s14,?s15,?s16,?s17,?s18,?s19,?s20,trivial⟩ [some 34,some 35,some 36,some 37,some 38,some 39,some 40,some 41,some 42,some 43,some 44,some 45,some 46,some 47,some 48,some 49,some 50,some 51,some 52,none,some 7] rfl rfl ?send
   case s0 =>
    intro f h W b e d i a c;have o0:h (.tmp 8)=.pointer (some ⟨g,0,none⟩):=a.old 8 (by decide);have f_g0:=zh (c (by decide)) g0;have f_g1:=zh (c (by decide)) g1;have f_g2:=zh (c (by decide)) g2;exact ze (by simp[execOp,o0,f_g0,f_g1,f_g2,go_sem]) rfl
   case s1 =>
    intro g h W b f e i a d;have o0:h (.tmp 2)=.int .i64 c:=a.old 2 (by decide);exact ze (by simp[execOp,o0,go_sem]) rfl
   case s2 =>
    intro f g W b e d h a c;have o0:g (.tmp 4)=.pointer (some ⟨w.heap.size,0,none⟩):=a.old 4 (by decide);exact ze (by simp[execOp,o0,go_sem]) rfl
   case s3 =>
    intro f g W b e d h a c;have d2:g (.tmp 36)=.pointer (some ⟨w.heap.size,1,none⟩):=dpv a d 2 36;have f_b1:=cell_below b (by simp only;omega) b1;exact ze (by simp[execOp,d2,f_b1,go_sem]) rfl
   case s4 =>
    intro g h W b f e i a d;have d1:h (.tmp 35)=.int .i64 c:=dpv a e 1 35;have d3:h (.tmp 37)=.int .i64 s.last:=dpv a e 3 37;exact ze (by simp[execOp,d1,d3,hcl,go_sem]) rfl
   case s5 =>
    intro f g W b e d h a c;have d4:g (.tmp 38)=.bool false:=dpv a d 4 38;exact ze (by simp[execOp,d4,go_sem]) rfl
   case s6=>exact⟨fun _ _=>rfl,fun _ _ _ h=>h⟩
   case s7=>exact⟨fun _ _=>rfl,fun _ _ _ h=>h⟩
   case s8=>exact⟨fun _ _=>rfl,fun _ _ _ h=>h⟩
   case s9=>exact⟨fun _ _=>rfl,fun _ _ _ h=>h⟩
   case s10=>exact⟨fun _ _=>rfl,fun _ _ _ h=>h⟩
   case s11=>exact⟨fun _ _=>rfl,fun _ _ _ h=>h⟩
   case s12=>exact⟨fun _ _=>rfl,fun _ _ _ h=>h⟩
   case s13=>exact⟨fun _ _=>rfl,fun _ _ _ h=>h⟩
   case s14=>exact⟨fun _ _=>rfl,fun _ _ _ h=>h⟩
   case s15=>exact⟨fun _ _=>rfl,fun _ _ _ h=>h⟩
   case s16=>exact⟨fun _ _=>rfl,fun _ _ _ h=>h⟩
   case s17=>exact⟨fun _ _=>rfl,fun _ _ _ h=>h⟩
   case s18 =>
    intro f g W b e d h a c;have d5:g (.tmp 39)=.bool false:=dpv a d 5 39;exact ze (by simp[execOp,a.const,d5,go_sem]) rfl
   case s20 =>
    intro f g W b e d h a c;have d18:g (.tmp 52)=.bool false:=dpv a d 18 52;exact ze (by simp[execOp,d18,go_sem]) rfl
   case s19 =>
    intro g h W b f e i a d;have dq:h (.tmp 6)=.pointer (some ⟨w.heap.size+1,0,none⟩):=a.old 6 (by decide);have d6:h (.tmp 34)=.agg #[.int .i64 a1,.int .i64 c,.int .i64 m]:=dpv a e 0 34;clear e i;have hst:=HR.out.ext (d (by decide));have g0:=hst.c0;have g1:=hst.c1;have g2:=hst.c2;have gf:=fun o=>hst.fr o
    have hB:w.heap.size+1≤w.heap.size+1:=weq _;exact zmg (W':=((W.setCell ⟨w.heap.size+1,0,none⟩ (.int .i64 a1)).setCell ⟨w.heap.size+1,1,none⟩ (.int .i64 c)).setCell ⟨w.heap.size+1,2,none⟩ (.int .i64 m)) (by simp[execOp,dq,d6,go_sem,g0,g1,g2,gf]) (((Below.refl _ W).setCell hB _).setCell hB _ |>.setCell hB _) (zne hst ⟨a1,c,m⟩)
   case send =>
    intro val Y hE hzz hv;obtain⟨-,-,-,-,-,-,-,-,-,-,-,-,-,-,-,-,-,-,-,r19,r20,-⟩:=hv;have q20:val 20=.bool false:=r20;have hst:zbl Y (w.heap.size+1) ⟨a1,c,m⟩:=r19;have h0:=hst.c0;have h1:=hst.c1;have h2:=hst.c2;have hzz2:=hst.lt;have HY:Hid (Ext w Y):=hid (Below.trans HW.out (hE.mono (Nat.le_succ _)));simp only[za9,q20];go_frame;clear hE hzz r19 r20 q20 hst g0 g1 g2 c4 e0 b0 b1 hcl v1 v2 v3;go_wp2_with fail;refine bodyPost_ret (v:=.tuple #[.agg #[.int .i64 a1,.int .i64 c,.int .i64 m],.bool false]) (by simp[results,Tryz.results65,go_sem,h0,h1,h2]) rfl ?_
    refine⟨?_,HY.out⟩;have hok:=HOK.out;have hto:=HTO.out;rw[hok,hto];simp[HL.out]
  ·have hcl:((c:Int) != s.last)=true:=by simp[hl]
   have HL:=hid hl;clear hl;refine zau (w.heap.size+1) (by omega)
    [sqV (.agg #[.int .i64 a1,.int .i64 c,.int .i64 m]),sqV (.int .i64 c),sqV (.pointer (some ⟨w.heap.size,1,none⟩)),sqV (.int .i64 s.last),sqV (.bool true),sqV (.bool true),sqV (.pointer (some ⟨p,0,none⟩)),sqV (.pointer (some ⟨p,0,none⟩)),sqV (.pointer (some ⟨p,4,none⟩)),sqV (.slice (some ⟨sb,so,none⟩) M.n sc),sqV (.pointer (some ⟨w.heap.size,0,none⟩)),sqV (.int .i64 s.at_),sqV (.pointer (some ⟨sb,so+s.at_,none⟩)),sqV (.int .i64 z),sqV (.int .i64 c),sqV (.int .i64 e),sqV (.int .i64 v),sqV (.bool q),sqV (.bool q),sqW (fun v W=>zbl W (w.heap.size+1) ⟨a1,c,m⟩) (fun _ _ _ h e=>h.ext e),sqV (.bool q)]
    [true,true,true,true,true,true,true,true,true,true,true,true,true,true,true,true,true,true,true,false,true] [false,false,false,false,false,false,false,false,false,false,false,false,false,false,false,false,false,false,false,true,false] [true,true,true,true,true,true,true,true,true,true,true,true,true,true,true,true,true,true,true,true,true] [true,true,true,true,true,true,false,false,false,false,false,false,false,false,false,false,false,false,false,true,false] [true,true,true,true,true,true,true,true,true,true,true,true,true,true,true,true,true,true,true,true,true] [none,none,none,none,some true,some true]
    (by kernel_rfl) (by kernel_rfl) (by decide +kernel) ⟨fun _ _ _ h=>h,⟨fun _ _ _ h=>h,trivial⟩⟩ (by decide +kernel) (by decide +kernel) (by decide +kernel) rfl ⟨rfl,rfl,rfl⟩ ⟨?s0,?s1,?s2,?s3,?s4,?s5,?s6,?s7,?s8,?s9,?s10,?s11,?s12,?s13,?s14,?s15,?s16,?s17,?s18,?s19,?s20,trivial⟩ [some 34,some 35,some 36,some 37,some 38,some 39,some 40,some 41,some 42,some 43,some 44,some 45,some 46,some 47,some 48,some 49,some 50,some 51,some 52,none,some 7] rfl rfl ?send
   case s0 =>
    intro f h W b e d i a c;have o0:h (.tmp 8)=.pointer (some ⟨g,0,none⟩):=a.old 8 (by decide);have f_g0:=zh (c (by decide)) g0;have f_g1:=zh (c (by decide)) g1;have f_g2:=zh (c (by decide)) g2;exact ze (by simp[execOp,o0,f_g0,f_g1,f_g2,go_sem]) rfl
   case s1 =>
    intro g h W b f e i a d;have o0:h (.tmp 2)=.int .i64 c:=a.old 2 (by decide);exact ze (by simp[execOp,o0,go_sem]) rfl
   case s2 =>
    intro f g W b e d h a c;have o0:g (.tmp 4)=.pointer (some ⟨w.heap.size,0,none⟩):=a.old 4 (by decide);exact ze (by simp[execOp,o0,go_sem]) rfl
   case s3 =>
    intro f g W b e d h a c;have d2:g (.tmp 36)=.pointer (some ⟨w.heap.size,1,none⟩):=dpv a d 2 36;have f_b1:=cell_below b (by simp only;omega) b1;exact ze (by simp[execOp,d2,f_b1,go_sem]) rfl
   case s4 =>
    intro g h W b f e i a d;have d1:h (.tmp 35)=.int .i64 c:=dpv a e 1 35;have d3:h (.tmp 37)=.int .i64 s.last:=dpv a e 3 37;exact ze (by simp[execOp,d1,d3,hcl,go_sem]) rfl
   case s5 =>
    intro f g W b e d h a c;have d4:g (.tmp 38)=.bool true:=dpv a d 4 38;exact ze (by simp[execOp,d4,go_sem]) rfl
   case s6 =>
    intro f g W b e d h a c;have o0:g (.tmp 0)=.pointer (some ⟨p,0,none⟩):=a.old 0 (by decide);exact ze (by simp[execOp,o0,go_sem]) rfl
   case s7 =>
    intro f g W b e d h a c;have d6:g (.tmp 40)=.pointer (some ⟨p,0,none⟩):=dpv a d 6 40;exact ze (by simp[execOp,d6,go_sem]) rfl
   case s8 =>
    intro f g W b e d h a c;have d7:g (.tmp 41)=.pointer (some ⟨p,0,none⟩):=dpv a d 7 41;exact ze (by simp[execOp,d7,go_sem]) rfl
   case s9 =>
    intro f g W b e d h a c;have d8:g (.tmp 42)=.pointer (some ⟨p,4,none⟩):=dpv a d 8 42;have f_c4:=cell_below b (by simp only;omega) c4;exact ze (by simp[execOp,d8,f_c4,go_sem]) rfl
   case s10 =>
    intro f g W b e d h a c;have o0:g (.tmp 4)=.pointer (some ⟨w.heap.size,0,none⟩):=a.old 4 (by decide);exact ze (by simp[execOp,o0,go_sem]) rfl
   case s11 =>
    intro f g W b e d h a c;have d10:g (.tmp 44)=.pointer (some ⟨w.heap.size,0,none⟩):=dpv a d 10 44;have f_b0:=cell_below b (by simp only;omega) b0;exact ze (by simp[execOp,d10,f_b0,go_sem]) rfl
   case s12 =>
    intro f g W b e d h a c;have d9:g (.tmp 43)=.slice (some ⟨sb,so,none⟩) M.n sc:=dpv a d 9 43;have d11:g (.tmp 45)=.int .i64 s.at_:=dpv a d 11 45;exact ze (by simp[execOp,d9,d11,hki,go_sem]) rfl
   case s13 =>
    intro f g W b e d h a c;have d12:g (.tmp 46)=.pointer (some ⟨sb,so+s.at_,none⟩):=dpv a d 12 46;have f_e0:=cell_below b (by simp only;omega) e0;exact ze (by simp[execOp,d12,f_e0,go_sem]) rfl
   case s14 =>
    intro g h W b f e i a d;have o0:h (.tmp 2)=.int .i64 c:=a.old 2 (by decide);exact ze (by simp[execOp,o0,go_sem]) rfl
   case s15 =>
    intro g h W b f e i a d;have d13:h (.tmp 47)=.int .i64 z:=dpv a e 13 47;have d14:h (.tmp 48)=.int .i64 c:=dpv a e 14 48;exact ze (by simp[execOp,d13,d14,v1,go_sem]) rfl
   case s16 =>
    intro g h W b f d i a c;have d15:h (.tmp 49)=.int .i64 e:=dpv a d 15 49;exact ze (by simp[execOp,a.const,d15,v2,go_sem]) rfl
   case s17 =>
    intro f g W b e d h a c;have d16:g (.tmp 50)=.int .i64 v:=dpv a d 16 50;exact ze (by simp[execOp,a.const,d16,v3,go_sem]) rfl
   case s18 =>
    intro f g W b e d h a c;have d5:g (.tmp 39)=.bool true:=dpv a d 5 39;have d17:g (.tmp 51)=.bool q:=dpv a d 17 51;exact ze (by simp[execOp,a.const,d5,d17,go_sem]) rfl
   case s20 =>
    intro f g W b e d h a c;have d18:g (.tmp 52)=.bool q:=dpv a d 18 52;exact ze (by simp[execOp,d18,go_sem]) rfl
   case s19 =>
    intro g h W b f e i a d;have dq:h (.tmp 6)=.pointer (some ⟨w.heap.size+1,0,none⟩):=a.old 6 (by decide);have d6:h (.tmp 34)=.agg #[.int .i64 a1,.int .i64 c,.int .i64 m]:=dpv a e 0 34;clear e i;have hst:=HR.out.ext (d (by decide));have g0:=hst.c0;have g1:=hst.c1;have g2:=hst.c2;have gf:=fun o=>hst.fr o
    have hB:w.heap.size+1≤w.heap.size+1:=weq _;exact zmg (W':=((W.setCell ⟨w.heap.size+1,0,none⟩ (.int .i64 a1)).setCell ⟨w.heap.size+1,1,none⟩ (.int .i64 c)).setCell ⟨w.heap.size+1,2,none⟩ (.int .i64 m)) (by simp[execOp,dq,d6,go_sem,g0,g1,g2,gf]) (((Below.refl _ W).setCell hB _).setCell hB _ |>.setCell hB _) (zne hst ⟨a1,c,m⟩)
   case send =>
    intro val Y hE hzz hv;obtain⟨-,-,-,-,-,-,-,-,-,-,-,-,-,-,-,-,-,-,-,r19,r20,-⟩:=hv;have q20:val 20=.bool q:=r20;have hst:zbl Y (w.heap.size+1) ⟨a1,c,m⟩:=r19;have h0:=hst.c0;have h1:=hst.c1;have h2:=hst.c2;have hzz2:=hst.lt;have HY:Hid (Ext w Y):=hid (Below.trans HW.out (hE.mono (Nat.le_succ _)));simp only[za9,q20];go_frame;clear hE hzz r19 r20 q20 hst g0 g1 g2 c4 e0 b0 b1 hcl v1 v2 v3;go_wp2_with fail;refine bodyPost_ret (v:=.tuple #[.agg #[.int .i64 a1,.int .i64 c,.int .i64 m],.bool q]) (by simp[results,Tryz.results65,go_sem,h0,h1,h2]) rfl ?_
    refine⟨?_,HY.out⟩;have hok:=HOK.out;have hto:=HTO.out;rw[hok,hto];simp[HL.out]
def stL(M:zl)(s:TSt)(k:Nat):List Nat:=(List.range k).filter (okS M s)
theorem zv6(M:zl)(s:TSt)(k:Nat):stL M s (k+1)=stL M s k++if okS M s k=true then [k]else []:=by
 unfold stL;rw[wd6,wb1]
 congr 1
 cases h:okS M s k<;>simp[h]
theorem zah2{M:zl}{s:TSt}{k:Nat}(h:okS M s k=true):stL M s (k+1)=stL M s k++[k]:=by rw[zv6,if_pos h]
theorem zajy{M:zl}{s:TSt}{k:Nat}(h:okS M s k=false):stL M s (k+1)=stL M s k:=by rw[zv6,if_neg (by rw[h];simp),wbn]
structure zxb(W:World)(p bm bs:Nat)(M:zl)(s:TSt)(ka sa:Option Addr)(kc sc mb:Nat):Prop where
 cm:W.cell? ⟨bm,0,none⟩=some (.pointer (some ⟨p,0,none⟩))
 cs:zbl W bs s
 m:zbm W p M ka sa kc sc mb
theorem zxb.ext{W W':World}{p bm bs:Nat}{M:zl}{s:TSt}{ka sa:Option Addr}{kc sc mb:Nat}(h:zxb W p bm bs M s ka sa kc sc mb)(e:Ext W W'):zxb W' p bm bs M s ka sa kc sc mb:=⟨zh e h.cm,h.cs.ext e,h.m.ext e⟩
theorem zv7(p:Nat)(s:TSt)(w:World):Calls Tryz.prog 63 #[.pointer (some ⟨p,0,none⟩),zai s] w fun e w' =>
  e=.returned (.func (.func 111) #[] #[.pointer (some ⟨w.heap.size,0,none⟩),.pointer (some ⟨w.heap.size+1,0,none⟩)])∧Ext w w'∧w'.cell? ⟨w.heap.size,0,none⟩=some (.pointer (some ⟨p,0,none⟩))∧zbl w' (w.heap.size+1) s∧w'.heap.size=w.heap.size+2:=by
 unfold zai stC
 go_enter Tryz.func63,Tryz.ntmps63
 go_wp2_with fail;go_ret;refine⟨rfl,by exact xx,by simp[go_sem],?_,by simp⟩;have:=World.alloc_heap_new (w.alloc (.cells #[.pointer (some ⟨p,0,none⟩)] 57)) (.cells (stC s) 97);rw[wfx]at this;exact this
theorem zqb(M:zl)(s:TSt)(p bm bs:Nat)(ka sa:Option Addr)(kc sc mb:Nat)(R:Nat→Prop)(w0:World)(hM:∀W,Kept R w0 W→zxb W p bm bs M s ka sa kc sc mb)(V:zag M)(hv:StV M s)(hp:s.at_<M.n) :
  Iter Tryz.prog 111 #[.pointer (some ⟨bm,0,none⟩),.pointer (some ⟨bs,0,none⟩)] (fun c:Nat=>#[.int .i64 c,zai (toS M s c)]) R (fun xs=>xs=stL M s M.L) (fun _=>True) (fun pre c=>c<M.L∧okS M s c=true∧pre=stL M s c) w0:=by
 intro n l J Jx W hW hJ hJx hY h0;have hk0:Kept R w0 W:=(Kept.of_below hW).mono fun k hk _=>trivial
 have HM:=hid hM;have HJ:=hid hJ;have HY:=hid hY;have HK0:=hid hk0;have HH0:=hid h0;have HV:=hid V;have HSV:=hid hv;have HP:=hid hp;have hL6:=V.L;have hm:=hM W hk0;have cm:=hm.cm;have c0:=hm.m.c0;have hzm:=wfu _ _ cm;have hzp:=wfu _ _ c0;simp only at hzm hzp;refine callsIn_of_wp Tryz.func111 rfl trivial ?_ rfl;simp only[Tryz.ntmps111,wd7,wc4,wc9,Nat.reduceAdd,Nat.reduceSub,wai,waj,wd4,wbo,wd1,wbp];clear hM hJ hJx hY hk0 h0 hW hm V hv hp;gi_wp2_with fail
 gi_loopw [12] (fun iv wr=>∃k:Nat,k≤M.L∧iv=.int .i64 k∧J (fun _=>False) (stL M s k) wr∧Kept R W wr) (fun iv _=>M.L-(intOf iv).toNat)
 case atStart=>exact⟨0,by omega,rfl,HH0.out,Kept.refl _ _⟩
 case round =>
  obtain⟨k,hk,rfl,hj,hkp⟩:=hrel;obtain⟨X,rfl⟩:∃X,X=wr:=⟨_,rfl⟩
  have HJr:=hid hj;have HKP:=hid hkp;have hm:=HM.out X (HK0.out.trans hkp);have HMX:=hid hm;have cm:=hm.cm;have hzm:=wfu _ _ cm;have s0:=hm.cs.c0;have s1:=hm.cs.c1;have s2:=hm.cs.c2;have hzs:=hm.cs.lt;simp only at hzm;clear hj hkp hm
  by_cases hlt:k<M.L
  ·have hki:(k:Int)<(M.L:Int):=by omega
   have HLT:=hid hlt;have hnx:=z7r M s k p ka sa kc sc mb X HMX.out.m HV.out HSV.out HP.out hlt;obtain⟨q,hq⟩:∃q,q=okS M s k:=⟨_,rfl⟩
   rw[←hq]at hnx;unfold zai stC at hnx;have HNX:=hid hnx;have HQ:=hid hq;clear hnx hq hlt;gi_wp2_with fail;refine⟨trivial,fun h=>(by simp[Fence.wide]at h),(callsIn_wide.2 HNX.out).mono ?_⟩;rintro e W2 ⟨rfl,hE2⟩;have hE3:Ext X (W2.alloc (.cells #[.int .i64 (toS M s k).at_,.int .i64 (toS M s k).last,.int .i64 (toS M s k).sum] 97)):=hE2.trans' (by exact xx);have HJ3:=hid ((HJ.out _).ext HJr.out hE3);have HK3:=hid (HKP.out.trans ((Kept.of_below hE3).mono (T:=R) fun k _ _=>trivial));have hk6:k≤6:=by omega
   clear hE2 hE3 cm s0 s1 s2 hzm hzs hzp c0;cases q
   ·have HSU:=hid (zajy HQ.out.symm)
    gi_wp2_with fail;refine⟨fun f h=>(by cases h),?_⟩;gi_wp2_with fail;go_roundw
    case rel=>exact⟨k+1,by have:=HLT.out;omega,by go_num,by rw[HSU.out];exact HJ3.out,HK3.out⟩
    case measure=>have:=HLT.out;simp[intOf];omega
   ·have HSU:=hid (zah2 HQ.out.symm)
    obtain⟨fn,tmps,assign,body,hy,hRr⟩:=HY.out (fun _=>False) (stL M s k) k _ HJ3.out ⟨HLT.out,HQ.out.symm,rfl⟩;simp only[zai,stC]at hy;gi_wp2_with fail;refine⟨fun h=>(by simp[Fence.wide]at h),hRr.mono ?_⟩;clear hy hRr;rintro e W5 (⟨rfl,hj5,hk5⟩|⟨rfl,hj5⟩)
    ·have HJ5:=hid hj5
     have HK5:=hid (HK3.out.trans (hk5.mono (T:=R) fun _ _ h=>.inl h));clear hj5 hk5;gi_wp2_with fail;go_roundw
     case rel=>exact⟨k+1,by have:=HLT.out;omega,by go_num,by rw[HSU.out];exact HJ5.out,HK5.out⟩
     case measure=>have:=HLT.out;simp[intOf];omega
    ·have HJ5:=hid hj5
     clear hj5;gi_wp2_with fail;refine bodyPost_ret (results_none rfl _ _ _) rfl ?_
     exact⟨⟨_,rfl⟩,.inr ⟨_,_,trivial,HJ5.out⟩⟩
  ·have hki:¬((k:Int)<(M.L:Int)):=by omega
   have hkl:k=M.L:=by omega
   have HKL:=hid hkl;clear hkl;gi_wp2_with fail
   go_end0
   exact⟨⟨_,rfl⟩,.inl ⟨_,by rw[←HKL.out];exact HJr.out⟩⟩
end Go.Proofs.YtdcnbeehckgpcaaGreat
namespace Go.Proofs.YtdcnbeehckgpcaaGreat
open Go.Lib (hid)
open Go.RowKit Go.Shelf
def zcu(n:Int):Value:=.int .i64 n
theorem zab5(a b c d e f:Int)(w:World):(Op.equal 97 (.agg #[.int .i64 a,.int .i64 b,.int .i64 c]) (.agg #[.int .i64 d,.int .i64 e,.int .i64 f])).run Tryz.prog w=.ok (a == d&&(b == e&&c == f)) w:=by
 simp only[Op.equal,Op.maxDepth];rw[run_equalIn_struct w 9999 97 _ _ (by kernel_rfl) (by kernel_rfl)]
 have hf : (Tryz.prog.fieldsOf 97).toList = [⟨"place", 3, 0, false, "", "quinella/ticket", 0⟩, ⟨"last", 3, 1, false, "", "quinella/ticket", 8⟩, ⟨"sum", 3, 2, false, "", "quinella/ticket", 16⟩] := by kernel_rfl
 rw[hf]
 by_cases e1:a=d<;>by_cases e2:b=e<;>by_cases e3:c=f<;>simp[go_sem,e1,e2,e3]
theorem zae0(b:Bool)(n:Nat)(x y z:Int)(w:World):(Instr.checkKey b (n+3) 97 (.agg #[.int .i64 x,.int .i64 y,.int .i64 z])).run Tryz.prog w=.ok () w:=by
 have h3:∀x w,(Instr.checkKey b (n+2) 3 (.int .i64 x)).run Tryz.prog w=.ok () w:=fun x w=>by
  rw[Instr.checkKey];simp[go_sem]
 rw[Instr.checkKey];simp only[wfr,Tryz.runUnderlying97,wfq];simp[go_sem,h3]
theorem zse(a b:TSt)(w:World):(Op.equal 97 (zai a) (zai b)).run Tryz.prog w=.ok (decide (a=b)) w:=by
 unfold zai stC;rw[zab5];obtain⟨a1,a2,a3⟩:=a;obtain⟨b1,b2,b3⟩:=b
 congr 1
 rw[way];simp only[waw,beq_iff_eq,decide_eq_true_eq,TSt.mk.injEq];omega
theorem zah3(k:TSt)(l:za3 TSt Int)(w:World):(Instr.findKey 97 (zai k) (l.map (zbi zai zcu))).run Tryz.prog w=.ok (zb4 zcu k l 0) w:=by
 have h:∀(l:za3 TSt Int) (i:Nat),(Instr.findAsking 97 (zai k) (l.map (zbi zai zcu)) i).run Tryz.prog w=.ok (zb4 zcu k l i) w:=by
  intro l
  induction l with
  |nil=>intro i;rfl
  |cons e l ih =>
   intro i;simp only[wdg,Instr.findAsking,zb4,zbi,wfr,zse,wfq]
   by_cases hk:e.1=k
   ·subst hk;simp
   ·have:¬k=e.1:=fun h=>hk h.symm
    simp only[hk,this,decide_false,waz,if_false];exact ih (i+1)
 cases l with
 |nil=>simp[Instr.findKey,go_sem,Instr.findNow,zb4]
 |cons e l =>
  have:=h (e::l) 0;simp only[Instr.findKey,wfr,Tryz.runUnderlying97,wfq,wdg,Instr.findNow,zbi,zai,Instr.sameNow]at this ⊢;exact this
theorem zfm:Keyed Tryz.prog 93 97 2 zai zcu where
 und:=by kernel_rfl
 chk:=fun b k w=>zae0 b 9997 _ _ _ w
 find:=zah3
 stay:=fun k=>by
  have:∀n:Nat,Instr.sameBits (n+2) (zai k) (zai k)=true:=fun n=>by simp[Instr.sameBits,zai,stC]
  exact this 9998
theorem zalf(w:World):(zeroValue 2).run Tryz.prog w=.ok (.int .i64 0) w:=by simp[go_sem]
theorem zab6(g:Nat→Int)(n:Nat)(w:World) :
  (Op.equalIn (n+2) 165 (.agg #[.int .i64 (g 0),.int .i64 (g 1),.int .i64 (g 2),.int .i64 (g 3),.int .i64 (g 4),.int .i64 (g 5)]) (.agg #[.int .i64 0,.int .i64 0,.int .i64 0,.int .i64 0,.int .i64 0,.int .i64 0])).run Tryz.prog w =
   .ok (g 0 == 0&&(g 1 == 0&&(g 2 == 0&&(g 3 == 0&&(g 4 == 0&&g 5 == 0))))) w:=by
 have hi:∀x y:Int,∀w,(Op.equalIn (n+1) 2 (.int .i64 x) (.int .i64 y)).run Tryz.prog w=.ok (x == y) w:=fun x y w=>run_equalIn_int w n 2 .i64 .i64 x y (by kernel_rfl)
 rw[Op.equalIn];simp only[wfr,Tryz.runUnderlying165,wfq];have hr:List.range' 0 6=[0,1,2,3,4,5]:=rfl
 by_cases e0:g 0=0
 ·by_cases e1:g 1=0
  ·by_cases e2:g 2=0
   ·by_cases e3:g 3=0
    ·by_cases e4:g 4=0
     ·by_cases e5:g 5=0<;>simp[go_sem,hi,e0,e1,e2,e3,e4,e5,hr]
     ·simp[go_sem,hi,e0,e1,e2,e3,e4,hr]
    ·simp[go_sem,hi,e0,e1,e2,e3,hr]
   ·simp[go_sem,hi,e0,e1,e2,hr]
  ·simp[go_sem,hi,e0,e1,hr]
 ·simp[go_sem,hi,e0,hr]
theorem zab7(g:Nat→Int)(k:Nat)(hk:k<6)(w:World) :
  (Instr.index 165 (.agg #[.int .i64 (g 0),.int .i64 (g 1),.int .i64 (g 2),.int .i64 (g 3),.int .i64 (g 4),.int .i64 (g 5)]) (.int .i64 (k:Int))).run Tryz.prog w=.ok (.int .i64 (g k)) w:=by
 rcases (show k=0∨k=1∨k=2∨k=3∨k=4∨k=5 by omega)with rfl|rfl|rfl|rfl|rfl|rfl<;>simp[Instr.index,Tryz.runUnderlying165,go_sem]
def znf(M:zl)(F:TSt→Option Int):Prop:=∀s v,F s=some v→v=(cnt M s:Int)
end Go.Proofs.YtdcnbeehckgpcaaGreat
