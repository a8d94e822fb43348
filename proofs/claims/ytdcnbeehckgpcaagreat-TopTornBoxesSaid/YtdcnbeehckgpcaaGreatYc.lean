/-
  Plain: how many codes fit is counted over all words; those that fit some of several sets, by inclusion and exclusion.
-/
import Derived.Test.YtdcnbeehckgpcaaGreatYb
set_option maxRecDepth 200000
set_option maxHeartbeats 0
namespace Go.Proofs.YtdcnbeehckgpcaaGreat
open Go.Lib (hid)
def zds(L:Nat):Nat→List (List Nat)
 |0=>[[]]
 |k+1=>(List.range L).flatMap fun c=>(zds L k).map (c :: ·)
theorem zt3{L:Nat}:∀{k:Nat} {w:List Nat},w∈zds L k→w.length=k∧∀c∈w,c<L
 |0,w,h=>by
  rw[zds,wd0]at h;subst h;exact⟨rfl,fun c h=>by cases h⟩
 |k+1,w,h=>by
  rw[zds,wdt]at h;obtain⟨c,hc,h⟩:=h;obtain⟨u,hu,rfl⟩:=wdv.1 h;obtain⟨h1,h2⟩:=zt3 hu;refine⟨by rw[wc4,h1],fun x hx=>?_⟩
  rcases wdp.1 hx with rfl|hx
  ·exact wdz.1 hc
  ·exact h2 x hx
def okW(M:zl):List Nat→TSt→Bool
 |[],s=>decide (s.sum=M.rest)
 |c::w,s=>okS M s c&&okW M w (toS M s c)
def zb5(ss:List Nat):List Nat→Nat→Bool
 |[],_=>true
 |c::w,i=>(ss.getD i 0).testBit c&&zb5 ss w (i+1)
theorem zqo{α β:Type}(p:β→Bool)(f:α→List β):∀l:List α,(l.flatMap f).countP p=(l.map fun a=>(f a).countP p).sum
 |[]=>rfl
 |a::l=>by rw[wce,wbq,zqo p f l,wdg,List.sum_cons]
theorem zqp(f:Nat→Nat):∀k,((List.range k).map f).sum=zaq f k
 |0=>rfl
 |k+1=>by rw[wd6,wde,wd8,zqp f k,wdk,wd9,zaq]
theorem zxl(M:zl):∀(f:Nat) (s:TSt),cntF M f s=(zds M.L f).countP fun w=>okW M w s
 |0,s=>by
  rw[cntF,zds,List.countP_singleton];unfold okW
  by_cases h:s.sum=M.rest
  ·rw[if_pos h,decide_eq_true h];rfl
  ·rw[if_neg h,decide_eq_false h];rfl
 |f+1,s=>by
  rw[cntF,zds,zqo,zqp];refine zg9 fun c _=>?_
  rw[List.countP_map]
  by_cases h:okS M s c=true
  ·rw[if_pos h,zxl M f]
   refine wbr fun w _=>?_
   show okW M w (toS M s c)=true↔okW M (c::w) s=true;rw[okW,h,wa7]
  ·rw[if_neg h]
   symm
   rw[wbt];intro w _ hw;have hw:okW M (c::w) s=true:=hw;rw[okW,waw]at hw;exact h hw.1
structure zzl(M T:zl):Prop where
 L:M.L=T.L
 n:M.n=T.n
 ks:M.ks=T.ks
 rest:M.rest=T.rest
theorem z35{M T:zl}(D:zzl M T)(O:zef M):∀(w:List Nat) (s:TSt),(∀c∈w,c<M.L)→s.at_+w.length≤M.n→okW T w s=(okW M w s&&zb5 T.ss w s.at_)
 |[],s,_,_=>by
  rw[okW,okW,zb5,wax,D.rest]
 |c::w,s,h,hl=>by
  rw[wc4]at hl;have hc:=h c wdr;have e:toS M s c=toS T s c:=by
   unfold toS;rw[D.ks,D.L]
  have ih:=z35 D O w (toS T s c) (fun x hx=>h x (wdq _ hx)) (by
   show s.at_+1+w.length≤M.n;omega)
  rw[okW,okW,zb5,e,ih,show(toS T s c).at_=s.at_+1 from rfl];unfold okS;rw[O s.at_ (by omega),wfb,decide_eq_true hc,wax];cases decide ((c:Int)≠s.last)<;>cases (T.ss.getD s.at_ 0).testBit c<;>cases okW M w (toS T s c)<;>cases zb5 T.ss w (s.at_+1)<;>rfl
def zmk(M:zl):List (List Nat):=(zds M.L M.n).filter fun w=>okW M w ts0
theorem z77{M T:zl}(D:zzl M T)(O:zef M):cnt T ts0=(zmk M).countP fun w=>zb5 T.ss w 0:=by
 have h:cnt T ts0=(zds T.L T.n).countP fun w=>okW T w ts0:=by
  unfold cnt;rw[zxl];rfl
 rw[h,zmk,wbu,←D.L,←D.n];refine wbr fun w hw=>?_
 obtain⟨h1,h2⟩:=zt3 hw;rw[z35 D O w ts0 h2 (by rw[h1];exact Nat.le_of_eq (wfc _)),Bool.and_comm];exact Iff.rfl
def zdj(b:Nat):Nat→Int
 |0=>-1
 |k+1=>if b.testBit k=true then -zdj b k else zdj b k
def zd5(p:Nat→Bool)(b:Nat):Nat→Bool
 |0=>true
 |k+1=>zd5 p b k&&(!b.testBit k||p k)
def zhp(p:Nat→Bool):Nat→Bool
 |0=>false
 |k+1=>zhp p k||p k
def zby(f:Nat→Int):Nat→Int
 |0=>0
 |k+1=>zby f k+f k
theorem zhd{f g:Nat→Int}:∀{k:Nat},(∀c,c<k→f c=g c)→zby f k=zby g k
 |0,_=>rfl
 |k+1,h=>by rw[zby,zby,zhd fun c hc=>h c (by omega),h k (by omega)]
theorem z36(f g:Nat→Int):∀k,zby (fun b=>f b+g b) k=zby f k+zby g k
 |0=>rfl
 |k+1=>by
  have:=z36 f g k;simp only[zby];omega
theorem zqq(f:Nat→Int)(m:Nat):∀k,zby f (m+k)=zby f m+zby (fun b=>f (m+b)) k
 |0=>by simp[zby]
 |k+1=>by
  rw[show m+(k+1)=m+k+1 from rfl,zby,zqq f m k,zby];omega
theorem z37(f:Nat→Int):∀k,zby (fun b=>-f b) k=-zby f k
 |0=>rfl
 |k+1=>by
  have:=z37 f k;simp only[zby];omega
theorem z78{m b:Nat}:∀{k:Nat},k≤m→zdj (2^m+b) k=zdj b k
 |0,_=>rfl
 |k+1,h=>by
  rw[zdj,zdj,z78 (k:=k) (by omega),Nat.testBit_two_pow_add_gt (by omega)]
theorem z79{p:Nat→Bool}{m b:Nat}:∀{k:Nat},k≤m→zd5 p (2^m+b) k=zd5 p b k
 |0,_=>rfl
 |k+1,h=>by
  rw[zd5,zd5,z79 (k:=k) (by omega),Nat.testBit_two_pow_add_gt (by omega)]
def zdo(p:Nat→Bool)(m b:Nat):Int:=if zd5 p b m=true then zdj b m else 0
theorem zafb(p:Nat→Bool){m b:Nat}(hb:b<2^m):zdo p (m+1) b=zdo p m b:=by
 unfold zdo;rw[zd5,zdj,we9 hb];simp
theorem zack(p:Nat→Bool){m b:Nat}(hb:b<2^m):zdo p (m+1) (2^m+b)=if p m=true then -zdo p m b else 0:=by
 unfold zdo;have h1:(2^m+b).testBit m=true:=by
  rw[Nat.testBit_two_pow_add_eq,we9 hb];rfl
 rw[zd5,zdj,h1,z78 (weq m),z79 (weq m)];cases p m<;>cases zd5 p b m<;>simp
theorem z38(p:Nat→Bool):∀m,zby (zdo p m) (2^m)=if zhp p m=true then 0 else -1
 |0=>by simp[zby,zdo,zd5,zdj,zhp]
 |m+1=>by
  have ih:=z38 p m;rw[we4,Nat.mul_two,zqq,zhd (f:=zdo p (m+1)) (g:=zdo p m) fun b hb=>zafb p hb,zhd (f:=fun b=>zdo p (m+1) (2^m+b)) (g:=fun b=>if p m=true then -zdo p m b else 0) fun b hb=>zack p hb,ih,zhp]
  by_cases h:p m=true
  ·simp only[h,if_true,Bool.or_true]
   rw[z37,ih]
   split<;>omega
  ·have h':p m=false:=by simpa using h
   simp only[h',Bool.or_false];have hz:∀k,zby (fun _=>0) k=0:=fun k=>by
    induction k with
    |zero=>rfl
    |succ k ih=>rw[zby,ih];rfl
   simp only[waz,if_false];rw[hz];omega
theorem zacl(p:Nat→Bool)(m:Nat):zby (fun b=>zdo p m (b+1)) (2^m-1)=if zhp p m=true then 1 else 0:=by
 have h:=z38 p m;have h1:1≤2^m:=we1;have h2:2^m=1+(2^m-1):=by omega
 rw[h2,zqq]at h;have h0:zby (zdo p m) 1=-1:=by
  rw[zby,zby];have ha:zd5 p 0 m=true:=by
   clear h h1 h2
   induction m with
   |zero=>rfl
   |succ k ih=>rw[zd5,Nat.zero_testBit];simp[ih]
  have hs:zdj 0 m=-1:=by
   clear h h1 h2 ha
   induction m with
   |zero=>rfl
   |succ k ih=>rw[zdj,Nat.zero_testBit];simp[ih]
  unfold zdo;rw[if_pos ha,hs];rfl
 rw[h0]at h;have e:zby (fun b=>zdo p m (1+b)) (2^m-1)=zby (fun b=>zdo p m (b+1)) (2^m-1):=zhd fun b _=>by rw[wee]
 rw[e]at h;generalize zby (fun b=>zdo p m (b+1)) (2^m-1)=X at h ⊢;cases ha:zhp p m with
 |true=>rw[ha,if_pos rfl]at h;rw[if_pos rfl];omega
 |false=>rw[ha,if_neg wa0]at h;rw[if_neg wa0];omega
def zxm(U:List (List Nat))(fit:Nat→List Nat→Bool)(m:Nat):Int:=zby (fun b=>zdj (b+1) m*((U.countP fun w=>zd5 (fun i=>fit i w) (b+1) m:Nat):Int)) (2^m-1)
theorem z39(f:Nat→Int):∀k,zby (fun b=>f b*0) k=0
 |0=>rfl
 |k+1=>by rw[zby,z39 f k];omega
theorem z4a(fit:Nat→List Nat→Bool)(m:Nat):∀U:List (List Nat),zxm U fit m=((U.countP fun w=>zhp (fun i=>fit i w) m:Nat):Int)
 |[]=>by
  unfold zxm;simp only[wbx];exact z39 _ _
 |w::U=>by
  have ih:=z4a fit m U;have h:=zacl (fun i=>fit i w) m;unfold zxm at ih ⊢;rw[wbs,wbc,←ih];have e:zby (fun b=>zdj (b+1) m*(((w::U).countP fun w=>zd5 (fun i=>fit i w) (b+1) m:Nat):Int)) (2^m-1)=zby (fun b=>zdj (b+1) m*((U.countP fun w=>zd5 (fun i=>fit i w) (b+1) m:Nat):Int)+zdo (fun i=>fit i w) m (b+1)) (2^m-1):=zhd fun b _=>by
   rw[wbs,wbc,Int.mul_add]
   congr 1
   unfold zdo
   by_cases hh:zd5 (fun i=>fit i w) (b+1) m=true
   ·rw[if_pos hh,if_pos hh];simp
   ·rw[if_neg hh,if_neg hh];simp
  rw[e,z36,h]
  congr 1
  by_cases hh:zhp (fun i=>fit i w) m=true
  ·rw[if_pos hh,if_pos hh];rfl
  ·rw[if_neg hh,if_neg hh];rfl
def ze9(full:Nat)(cs:Nat→List Nat)(b:Nat):Nat→Nat→Nat
 |0,_=>full
 |k+1,p=>if b.testBit k=true then ze9 full cs b k p&&&(cs k).getD p 0 else ze9 full cs b k p
theorem z8a{L:Nat}{cs:Nat→List Nat}{b:Nat}{ss:List Nat}:∀(m:Nat) (w:List Nat) (i n:Nat),(∀c∈w,c<L)→i+w.length≤n→(∀p,p<n→ss.getD p 0=ze9 (2^L-1) cs b m p)→zb5 ss w i=zd5 (fun j=>zb5 (cs j) w i) b m
 |m,[],i,n,_,_,hs=>by
  rw[zb5];clear hs
  induction m with
  |zero=>rfl
  |succ k ih=>rw[zd5,←ih];simp[zb5]
 |m,c::w,i,n,hc,hn,hs=>by
  rw[wc4]at hn;have hw:=z8a (cs:=cs) (b:=b) (ss:=ss) m w (i+1) n (fun x hx=>hc x (wdq _ hx)) (by omega) hs;rw[zb5,hw,hs i (by omega)];have hl:=hc c wdr;clear hw hs
  induction m with
  |zero =>
   rw[ze9,zd5,zd5,wfb,decide_eq_true hl];rfl
  |succ k ih =>
   rw[zd5,zd5,←ih,ze9];cases hb:b.testBit k with
   |true =>
    rw[if_pos rfl,we8,zb5];cases (ze9 (2^L-1) cs b k i).testBit c<;>cases ((cs k).getD i 0).testBit c<;>cases zd5 (fun j=>zb5 (cs j) w (i+1)) b k<;>cases zb5 (cs k) w (i+1)<;>rfl
   |false =>
    rw[if_neg wa0];simp
open Go.RowKit Go.Shelf
def clF(cs:List (Value×List Nat))(i:Nat):List Nat:=(cs.map (·.2)).getD i []
theorem zacm{cs:List (Value×List Nat)}{i:Nat}(h:i<cs.length):clF cs i=cs[i].2:=by
 unfold clF;rw[wch,wcq,wcn h];rfl
def zko(M:zl)(cs:List (Value×List Nat))(b k:Nat):List Nat:=(List.range M.n).map fun p=>ze9 (2^M.L-1) (clF cs) b k p
theorem zzm(M:zl)(cs:List (Value×List Nat))(b k:Nat){p:Nat}(hp:p<M.n):(zko M cs b k).getD p 0=ze9 (2^M.L-1) (clF cs) b k p:=by
 simp[zko,hp]
theorem zzn(N:Nat)(cl:Nat→List Nat)(b:Nat):∀k p,ze9 N cl b k p≤N
 |0,p=>weq _
 |k+1,p=>by
  have ih:=zzn N cl b k p;rw[ze9]
  split
  ·exact wer wej ih
  ·exact ih
theorem zacn{M:zl}(V:zag M)(cs:List (Value×List Nat))(b k:Nat):zag (zbf M (zko M cs b k)):=by
 refine⟨V.L,V.n,V.kl,by simp[zbf,zko],V.ks,fun i hi=>?_,V.rest⟩;show(zko M cs b k).getD i 0<2^M.L;rw[zzm M cs b k hi];have:=zzn (2^M.L-1) (clF cs) b k i;have:1≤2^M.L:=we1;omega
theorem zt4(b:Nat):∀k,zdj b k=1∨zdj b k=-1
 |0=>.inr rfl
 |k+1=>by
  rcases zt4 b k with h|h<;>(rw[zdj];split<;>rw[h]<;>simp)
noncomputable def zt5(M:zl)(cs:List (Value×List Nat))(l:List (Nat×Nat))(b:Nat):Int:=zdj (b+1) cs.length*(zb3 (zcj M (zbf M (zko M cs (b+1) cs.length)) l):Int)
noncomputable def zge(M:zl)(cs:List (Value×List Nat))(l:List (Nat×Nat))(k:Nat):Int:=zby (zt5 M cs l) k
theorem z8b{M T:zl}(D:zda M T)(V:zag M)(VT:zag T){l:List (Nat×Nat)}(hl:zfp (cnt M ts0) l)(j:Nat):zb3 ((zcj M T l).take j)≤16796160:=by
 have hie:=zqj D V hl;have hcm:=zfz VT ts0;have hsb:=zwb (b:=1679616) ((zcj M T l).take j) fun r hr=>by have:=hie r (List.mem_of_mem_take hr);omega
 have hlen:=zni M T l;have h10:=hl.len;have htk:((zcj M T l).take j).length≤10:=by rw[wdd];omega
 exact wer hsb (wer (we0 _ htk) (by omega))
theorem zaif{M:zl}(V:zag M)(cs:List (Value×List Nat)){l:List (Nat×Nat)}(hl:zfp (cnt M ts0) l)(b:Nat):-16796160≤zt5 M cs l b∧zt5 M cs l b≤16796160:=by
 have h:=z8b (zgo M (zko M cs (b+1) cs.length)) V (zacn V cs (b+1) cs.length) hl (zcj M (zbf M (zko M cs (b+1) cs.length)) l).length;rw[wec (weq _)]at h;unfold zt5
 rcases zt4 (b+1) cs.length with e|e<;>rw[e]<;>omega
theorem z4b{M:zl}(V:zag M)(cs:List (Value×List Nat)){l:List (Nat×Nat)}(hl:zfp (cnt M ts0) l):∀k:Nat,-(16796160*(k:Int))≤zge M cs l k∧zge M cs l k≤16796160*(k:Int)
 |0=>by simp[zge,zby]
 |k+1=>by
  have ih:=z4b V cs hl k;have h:=zaif V cs hl k;unfold zge at ih ⊢;rw[zby];omega
theorem zaco{W:World}{g n:Nat}{l:List Nat}(hl:l.length=n)(hn:n≤1000)(h:zbj W g n (fun p=>(l.getD p 0:Int))):zo W .i64 (.slice (some ⟨g,0,none⟩) n n) (zy l):=by
 refine zbj.intsC (h.congr fun j hj=>?_) (by rw[zad,hl]) (weq _) (by omega);have hjl:j<(zy l).length:=by rw[zad];omega
 show((l.getD j 0:Nat):Int)=(zy l).getD j 0;rw[←zig (show j<l.length by omega),wch (l:=zy l),wcn hjl];rfl
end Go.Proofs.YtdcnbeehckgpcaaGreat
namespace Go.Proofs.YtdcnbeehckgpcaaGreat
open Go.Lib (hid)
open Go.RowKit Go.Shelf
attribute [local go_sem] Oper.semAt_some
theorem z95{P:Program}{B:Nat}{o:Oper}{ρ:Operand→Value}{W:World}{val:Nat→Value}{s:Sq}(f:FuncId)(xs:Array Operand)(ats:Array TypeId)(h:o.op=.call { callee:=.value (.func f),args:=xs,argTypes:=ats })(args:Array Value)(hf:ρ (.func f)=.func (.func f) #[] #[])(ha:xs.map ρ=args)(hc:∀args W,(callFunc f args).run P W=.ok (.enter f args) W)
  (hs:Calls P f args W fun e W''=>∃v,e=.returned v∧Below B W W''∧s.p (s.us.map val) (match o.dst with|some _=>v|none=>undef) W''):zjd P B true o ρ W val s:=by
 obtain⟨dst,op,type,pos,after,guard⟩:=o;simp only at h;subst h;have e:execOp ρ { dst,op:=.call { callee:=.value (.func f),args:=xs,argTypes:=ats },type,pos,after,guard }=callFunc f (#[]++xs.map ρ ++ #[]):=by
  simp only[execOp,resolve,hf];rfl
 unfold zjd;rw[e];have e2:#[]++xs.map ρ ++ #[]=args:=by rw[ha];simp
 rw[e2,hc];exact hs
theorem zacp(M:zl)(V:zag M)(p mb cb:Nat)(ka sa:Option Addr)(kc sc:Nat)(ca:Option Addr)(cc:Nat)(cs:List (Value×List Nat))(hc1:1≤cs.length)(hcl:cs.length≤6)(hT:∀x∈cs,zag (zbf M x.2))(l:List (Nat×Nat))(hl:zfp (cnt M ts0) l)(sl:Option Addr)(scap:Nat)(nv dv:Value)(ta:Option Addr)(tc:Nat)(w:World)(hM:zc6 w p M ka sa kc sc mb)(hcnt:zbw w cb p (.slice ca cs.length cc) (.slice sl l.length scap) nv dv)(hc:zgd w ca cc cs)(hr:zao w 2 (.slice sl l.length scap) (l.map zcw))(ht:zo w .i64 (.slice ta cs.length tc) (zy (List.range cs.length))) :
  Calls Tryz.prog 30 #[.pointer (some ⟨cb,0,none⟩),.slice ta cs.length tc] w fun e W=>e=.returned (.int .i64 (zge M cs l (2^cs.length-1)))∧MK w W mb∧zan W mb M:=by
 have hP:2≤2^cs.length∧2^cs.length≤64:=by
  have h1:2^1≤2^cs.length:=we3 (by omega) hc1;have h2:2^cs.length≤2^6:=we3 (by omega) hcl;omega
 obtain⟨hw1,-,-⟩:=zjf hcl;have hmin:min cs.length 64=cs.length:=by omega
 obtain⟨P,hPP⟩:∃P,P=2^cs.length:=⟨_,rfl⟩
 rw[←hPP]at hw1 hP ⊢;have hL:=V.L;have hn:=V.n;obtain⟨hv1,hv2,hv3⟩:=zjf hL.2;have hminL:min M.L 64=M.L:=by omega
 obtain⟨N,hN⟩:∃N:Nat,N=2^M.L:=⟨_,rfl⟩
 rw[←hN]at hv1 hv2 hv3;obtain⟨Z1,hZ1⟩:∃Z:Nat,Z=N-1:=⟨_,rfl⟩
 have hwN:IntKind.i64.wrap ((N:Int)-1)=(Z1:Int):=by rw[wbh _ (by omega)];omega
 have hZ2:Z1=2^M.L-1:=by rw[hZ1,hN]
 have HZ2:=hid hZ2;have hZ63:Z1≤63:=by omega
 have HM:=hid hM;have HCN:=hid hcnt;have HC:=hid hc;have HR:=hid hr;have HT:=hid hT;have HL:=hid hl;have HST:=hid ht;have hcb:cb<w.heap.size:=hcnt.lt;have hcm:cb≠mb:=zln hM.map hcnt;have HCA:Hid (∀W,MK w W mb→zbw W cb p (.slice ca cs.length cc) (.slice sl l.length scap) nv dv):=hid fun W k=>(k.same cb hcb ⟨hcb,hcm⟩).trans hcnt
 clear hM hcnt hc hr hT hl ht hN hZ1 hZ2 hPP hcm hcb hv2 hv3
 go_enter Tryz.func30,Tryz.ntmps30
 go_wp2_with fail
 go_loopw [5,6] (fun sv bv W=>∃b:Nat,b≤P-1∧sv=.int .i64 (zge M cs l b)∧bv=.int .i64 ((b+1:Nat):Int)∧MK w W mb∧zan W mb M) (fun _ bv _=>P-(intOf bv).toNat)
 case atStart=>exact⟨0,by omega,rfl,rfl,(MK.refl w mb).ext (by exact xx),HM.out.map.of_heap rfl⟩
 case round =>
  obtain⟨b,hb,rfl,rfl,hk,hm⟩:=hrel;obtain⟨X,rfl⟩:∃X,X=wr:=⟨_,rfl⟩
  have HK:=hid hk;have HMM:=hid hm;have hca:=HCA.out X hk;obtain⟨k0,k1,k2,-,-⟩:=hca.cells;have hMX:=HM.out.mk' hk hm;have c0:=hMX.m.c0;have c1:=hMX.m.c1;have c2:=hMX.m.c2;have c3:=hMX.m.c3;have zc:=wfu _ _ k0;have zp:=wfu _ _ c0;simp only at zc zp;obtain⟨hu1,hu2⟩:=z4b V cs HL.out b;obtain⟨s0,hs0⟩:∃s0,s0=zge M cs l b:=⟨_,rfl⟩
  rw[←hs0]at hu1 hu2 ⊢;have HS0:=hid hs0;clear hk hm hs0 hca hMX
  by_cases hlt:b+1<P
  ·have hbi:((b+1:Nat):Int)<(P:Int):=by omega
   obtain⟨X1,hrun,hnb,hE1⟩:=zky X M.n (by omega);obtain⟨g,hg⟩:∃g,g=X.heap.size:=⟨_,rfl⟩
   rw[←hg]at hrun hnb;have HNB:=hid hnb;have HE1:=hid hE1;replace c0:=zh hE1 c0;replace c1':=zh hE1 c1;have hgX:cb≠g∧p≠g∧mb≠g∧w.heap.size≤g:=⟨by omega,by omega,by have:=HMM.out.lt;omega,by rw[hg];exact HK.out.size⟩
   have k01:=zh hE1 k0;have HGX:=hid hgX;have hgs:=HNB.out.lt;have HGS:Hid (g=X.heap.size):=hid hg;clear hnb hE1 hg hgX;go_wp2_with fail
   go_loopw [34] (fun iv W=>∃j:Nat,j≤M.n∧iv=.int .i64 j∧zbj W g M.n (fun q=>if q<j then (Z1:Int)else 0)∧Kept (fun k=>k≠g) X1 W) (fun iv _=>M.n-(intOf iv).toNat)
   case atStart=>exact⟨0,by omega,rfl,by simpa using HNB.out,Kept.refl _ _⟩
   case round =>
    obtain⟨j,hj,rfl,hnb,hkg⟩:=hrel;have HNB2:=hid hnb;have HKG:=hid hkg;have e0:=hkg.cell k01 HGX.out.1;have e1:=hkg.cell c0 HGX.out.2.1;have zc:=wfu _ _ e0;have zp:=wfu _ _ e1;simp only at zc zp;clear hnb hkg
    by_cases hlj:j<M.n
    ·have hji:(j:Int)<(M.n:Int):=by omega
     have cj:=HNB2.out.cell j hlj;have fz:=HNB2.out.free j;have zg:=HNB2.out.lt;go_wp2_with fail;refine⟨⟨j+1,by omega,by go_num,(HNB2.out.set j (Z1:Int)).congr fun q hq=>?_,HKG.out.setCell (fun _ h=>h rfl) _⟩,by simp[intOf];omega⟩
     by_cases e:q=j
     ·rw[if_pos e,if_pos (by omega)]
     ·rw[if_neg e]
      by_cases h:q<j
      ·rw[if_pos h,if_pos (by omega)]
      ·rw[if_neg h,if_neg (by omega)]
    ·have hji:¬((j:Int)<(M.n:Int)):=by omega
     have hfull:zbj wr g M.n (fun q=>(ze9 Z1 (clF cs) (b+1) 0 q:Int)):=HNB2.out.congr fun q hq=>by rw[if_pos (by omega)];rfl
     obtain⟨X2,rfl⟩:∃X2,X2=wr:=⟨_,rfl⟩
     have HNB3:=hid hfull;clear hfull;go_wp2_with fail
     go_loopw [9,53] (fun gv iv W=>∃i:Nat,i≤cs.length∧gv=.int .i64 (zdj (b+1) i)∧iv=.int .i64 i∧zbj W g M.n (fun q=>(ze9 Z1 (clF cs) (b+1) i q:Int))∧Kept (fun k=>k≠g) X2 W) (fun _ iv _=>cs.length-(intOf iv).toNat)
     case atStart=>exact⟨0,by omega,rfl,rfl,HNB3.out,Kept.refl _ _⟩
     case round =>
      obtain⟨i,hi,rfl,rfl,hnb,hkg⟩:=hrel;have HNB4:=hid hnb;have hkg2:Kept (fun k=>k≠g) X1 wr:=HKG.out.trans hkg;have HKG2:=hid hkg;have HKGX:=hid hkg2;clear hnb hkg
      by_cases hli:i<cs.length
      ·have hii:(i:Int)<(cs.length:Int):=by omega
       have hXW:MK X wr mb:=MK.of (Kept.trans ((Kept.of_below HE1.out).mono fun _ _ _=>trivial:Kept (fun k=>k≠g) X X1) hkg2) fun x hx _=>by have:=HGX.out;have:=HGS.out;omega
       have hWW:MK w wr mb:=HK.out.trans hXW;obtain⟨tb,to_,rfl,ct⟩:∃tb off,ta=some ⟨tb,off,none⟩∧wr.cell? ⟨tb,off+i,none⟩=some (.int .i64 i):=by
        have ht:=znk HM.out.map hWW HST.out;obtain⟨tb,off,e,hc⟩:=za7 (i:=i) (show zo wr .i64 (.slice ta cs.length tc) (zy (List.range cs.length))from ht) (by rw[wda];exact hli);refine⟨tb,off,e,?_⟩;have:=hc i (by rw[wda];exact hli) wr (Below.refl _ _);rw[this,wch,wcr hli];rfl
       have zt:=wfu _ _ ct;simp only at zt;have hbt:=zsc (b+1) i (by omega);have hmi:min i 64=i:=by omega
       have hcw:=HC.out.mk' HM.out.map hWW;obtain⟨qb,qo,rfl,hq⟩:=hcw.cell hli;have cq:=hq i hli;have hqw:qb<w.heap.size:=by
        obtain⟨b',off',e',h'⟩:=HC.out.cell hli;cases e';exact wfu _ _ (h' i hli)
       obtain⟨xa,xc,hx1,hx2⟩:=hcw.each cs[i] (wcy hli);have hTV:=HT.out cs[i] (wcy hli);rw[hx1]at cq;have hxw:∀xb xo,xa=some ⟨xb,xo,none⟩→xb<w.heap.size:=fun xb xo e=>by
        obtain⟨xa',xc',e1,e2⟩:=HC.out.each cs[i] (wcy hli);rw[hx1]at e1;cases e1;exact zlp e2 (by have:=hTV.sl;simp only[zbf]at this;omega) e
       have HXW9:=hid hxw;clear hxw;have hcf:=zacm hli;rw[←hcf]at cq hx2 hTV;have hxl:(clF cs i).length=M.n:=hTV.sl;rw[hxl]at cq hx2;have zq:=wfu _ _ cq;simp only at zq;have HX2:=hid hx2;have HCL:=hid hxl;have HCF:=hid hcf;have HTV:=hid hTV;have HWW:=hid hWW;have HXW:=hid hXW;have e0:=hkg2.cell k01 HGX.out.1;have e1:=hkg2.cell (zh HE1.out k1) HGX.out.1;obtain⟨q,hq0⟩:∃q,q=(b+1).testBit i:=⟨_,rfl⟩
       obtain⟨v,hv0⟩:∃v:Int,v=if q=true then 1 else 0:=⟨_,rfl⟩
       obtain⟨e,he0⟩:∃e:Nat,e=(b+1)>>>i:=⟨_,rfl⟩
       have v1:((b:Int)+1) / 2^i=(e:Int):=by
        rw[he0,←zh7];rfl
       have v2:bits .and .i64 (e:Int) 1=v:=by
        rw[zh7,←he0]at hbt;rw[hbt,hv0,hq0]
       have hsg:zdj (b+1) (i+1)=if q=true then -zdj (b+1) i else zdj (b+1) i:=by rw[hq0];rfl
       have han:∀p,ze9 Z1 (clF cs) (b+1) (i+1) p=if q=true then ze9 Z1 (clF cs) (b+1) i p&&&(clF cs i).getD p 0 else ze9 Z1 (clF cs) (b+1) i p:=fun p=>by rw[hq0];rfl
       have HSG:=hid hsg;have HAN:=hid han;have hs1:=zt4 (b+1) i;obtain⟨sg,hsg0⟩:∃sg,sg=zdj (b+1) i:=⟨_,rfl⟩
       rw[←hsg0]at hs1 ⊢;have HSG0:=hid hsg0;have zg:=HNB4.out.lt;have zc:=wfu _ _ e0;simp only at zc;clear hbt he0 hsg han hq0 hkg2 hXW hWW hcw hq hx1 hx2 hTV hcf hxl hsg0;cases q
       ·simp only[waz,if_false]at hv0 HSG HAN
        subst hv0;go_wp2_with fail;refine⟨⟨i+1,by omega,by rw[HSG.out,HSG0.out],by go_num,HNB4.out.congr fun p _=>by rw[HAN.out p],HKG2.out⟩,by simp[intOf];omega⟩
       ·simp only[if_true]at hv0 HSG HAN
        subst hv0;have hng:IntKind.i64.wrap (-sg)=-sg:=wbh _ (by omega);go_upto_region 18 with(fail);obtain⟨X3,rfl⟩:∃X3,X3=wr:=⟨_,rfl⟩
        go_loopw [67] (fun iv W=>∃y:Nat,y≤M.n∧iv=.int .i64 y∧zbj W g M.n (fun q=>((if q<y then ze9 Z1 (clF cs) (b+1) i q&&&(clF cs i).getD q 0 else ze9 Z1 (clF cs) (b+1) i q:Nat):Int))∧Kept (fun k=>k≠g) X3 W) (fun iv _=>M.n-(intOf iv).toNat)
        case atStart=>exact⟨0,by omega,rfl,by simpa using HNB4.out,Kept.refl _ _⟩
        case round =>
         obtain⟨y,hy,rfl,hnb,hkg⟩:=hrel;obtain⟨Y,rfl⟩:∃Y,Y=wr:=⟨_,rfl⟩
         have HNB5:=hid hnb;have HKG5:=hid hkg;clear hnb
         by_cases hly:y<M.n
         ·have hyi:(y:Int)<(M.n:Int):=by omega
          have cj:=HNB5.out.cell y hly;rw[if_neg (Nat.lt_irrefl y)]at cj;have fz:=HNB5.out.free y;have zg:=HNB5.out.lt;have f0:=hkg.cell e0 HGX.out.1;have f1:=hkg.cell e1 HGX.out.1;have hqg:qb≠g:=by have:=HGX.out;omega
          have fq:=hkg.cell cq hqg;obtain⟨xb,xo,rfl,hxy⟩:∃xb xo,xa=some ⟨xb,xo,none⟩∧Y.cell? ⟨xb,xo+y,none⟩=some (.int .i64 ((clF cs i).getD y 0:Int)):=by
           have hl9:y<(clF cs i).length:=by rw[HCL.out];exact hly
           obtain⟨xb,xo,rfl,hc⟩:=za7 HX2.out hl9;exact⟨xb,xo,rfl,hkg.cell (hc y hl9 X3 (Below.refl _ _)) (by have:=HXW9.out xb xo rfl;have:=HGX.out;simp only;omega)⟩
          obtain⟨A,hA0⟩:∃A,A=ze9 Z1 (clF cs) (b+1) i y:=⟨_,rfl⟩
          obtain⟨Bn,hB0⟩:∃Bn,Bn=(clF cs i).getD y 0:=⟨_,rfl⟩
          have hA63:A≤63:=by rw[hA0];have:=zzn Z1 (clF cs) (b+1) i y;omega
          have hB63:Bn≤63:=by
           have:=HTV.out.ss y hly;have h2:2^M.L=Z1+1:=by have:=HZ2.out;have:1≤2^M.L:=we1;omega
           simp only[zbf]at this;rw[h2,←hB0]at this;omega
          have hand:=zj9 A Bn (by omega) (by omega);obtain⟨C,hC0⟩:∃C,C=A&&&Bn:=⟨_,rfl⟩
          rw[←hA0]at cj;rw[←hB0]at hxy;rw[←hC0]at hand;have HC0:Hid (C=ze9 Z1 (clF cs) (b+1) i y&&&(clF cs i).getD y 0):=hid (by rw[hC0,hA0,hB0]);have zf:=wfu _ _ f0;have zq:=wfu _ _ fq;have zx:=wfu _ _ hxy;simp only at zf zq zx;clear hA0 hB0 hC0 hkg e0 e1 cq;go_upto_region 20 with(fail);refine zf9 rfl rfl (by kernel_rfl) (Y.heap.size) (weq _)
           [sqV (.slice (some ⟨g,0,none⟩) M.n M.n),sqV (.int .i64 y),sqV (.pointer (some ⟨g,y,none⟩)),sqV (.int .i64 A),sqV (.pointer (some ⟨cb,0,none⟩)),sqV (.pointer (some ⟨cb,0,none⟩)),sqV (.pointer (some ⟨cb,1,none⟩)),sqV (.slice (some ⟨qb,qo,none⟩) cs.length cc),sqV (.int .i64 i),sqV (.pointer (some ⟨qb,qo+i,none⟩)),sqV (.slice (some ⟨xb,xo,none⟩) M.n xc),sqV (.int .i64 y),sqV (.pointer (some ⟨xb,xo+y,none⟩)),sqV (.int .i64 Bn),sqV (.int .i64 C),sqV (.pointer (some ⟨g,y,none⟩))]
           [true,true,true,true,true,true,true,true,true,true,true,true,true,true,true,true] [false,false,false,false,false,false,false,false,false,false,false,false,false,false,false,false] [true,true,true,true,true,true,true,true,true,true,true,true,true,true,true,true] [true,true,true,true,true,true,true,true,true,true,true,true,true,true,true,true]
           (by kernel_rfl) (by kernel_rfl) (by decide +kernel) (by decide +kernel) (by decide +kernel) rfl ⟨rfl,rfl⟩ ⟨?s0,?s1,?s2,?s3,?s4,?s5,?s6,?s7,?s8,?s9,?s10,?s11,?s12,?s13,?s14,?s15,trivial⟩ [some 70,some 71,some 72,some 73,some 74,some 75,some 76,some 77,some 78,some 79,some 80,some 81,some 82,some 83,some 84,some 85] rfl rfl ?send
          case s0 =>
           intro f h W b e d a c;have o0:h (.tmp 7)=.slice (some ⟨g,0,none⟩) M.n M.n:=a.old 7 (by decide);exact ze (by simp[execOp,o0,go_sem]) rfl
          case s1 =>
           intro f g W b e d a c;have o0:g (.tmp 12)=.int .i64 y:=a.old 12 (by decide);exact ze (by simp[execOp,o0,go_sem]) rfl
          case s2 =>
           intro f h W b e d a c;have d0:h (.tmp 70)=.slice (some ⟨g,0,none⟩) M.n M.n:=dpv a d 0 70;have d1:h (.tmp 71)=.int .i64 y:=dpv a d 1 71;exact ze (by simp[execOp,d0,d1,hyi,go_sem]) rfl
          case s3 =>
           intro f h W b e d a c;have d2:h (.tmp 72)=.pointer (some ⟨g,y,none⟩):=dpv a d 2 72;have f_cj:=cell_below b (by simp only;omega) cj;exact ze (by simp[execOp,d2,f_cj,go_sem]) rfl
          case s4 =>
           intro f g W b e d a c;have o0:g (.tmp 0)=.pointer (some ⟨cb,0,none⟩):=a.old 0 (by decide);exact ze (by simp[execOp,o0,go_sem]) rfl
          case s5 =>
           intro f g W b e d a c;have d4:g (.tmp 74)=.pointer (some ⟨cb,0,none⟩):=dpv a d 4 74;exact ze (by simp[execOp,d4,go_sem]) rfl
          case s6 =>
           intro f g W b e d a c;have d5:g (.tmp 75)=.pointer (some ⟨cb,0,none⟩):=dpv a d 5 75;exact ze (by simp[execOp,d5,go_sem]) rfl
          case s7 =>
           intro f g W b e d a c;have d6:g (.tmp 76)=.pointer (some ⟨cb,1,none⟩):=dpv a d 6 76;have f_f1:=cell_below b (by simp only;omega) f1;exact ze (by simp[execOp,d6,f_f1,go_sem]) rfl
          case s8 =>
           intro f g W b e d a c;have o0:g (.tmp 11)=.int .i64 i:=a.old 11 (by decide);exact ze (by simp[execOp,o0,go_sem]) rfl
          case s9 =>
           intro f g W b e d a c;have d7:g (.tmp 77)=.slice (some ⟨qb,qo,none⟩) cs.length cc:=dpv a d 7 77;have d8:g (.tmp 78)=.int .i64 i:=dpv a d 8 78;exact ze (by simp[execOp,d7,d8,hii,go_sem]) rfl
          case s10 =>
           intro f g W b e d a c;have d9:g (.tmp 79)=.pointer (some ⟨qb,qo+i,none⟩):=dpv a d 9 79;have f_fq:=cell_below b (by simp only;omega) fq;exact ze (by simp[execOp,d9,f_fq,go_sem]) rfl
          case s11 =>
           intro f g W b e d a c;have o0:g (.tmp 12)=.int .i64 y:=a.old 12 (by decide);exact ze (by simp[execOp,o0,go_sem]) rfl
          case s12 =>
           intro f g W b e d a c;have d10:g (.tmp 80)=.slice (some ⟨xb,xo,none⟩) M.n xc:=dpv a d 10 80;have d11:g (.tmp 81)=.int .i64 y:=dpv a d 11 81;exact ze (by simp[execOp,d10,d11,hyi,go_sem]) rfl
          case s13 =>
           intro f g W b e d a c;have d12:g (.tmp 82)=.pointer (some ⟨xb,xo+y,none⟩):=dpv a d 12 82;have f_hxy:=cell_below b (by simp only;omega) hxy;exact ze (by simp[execOp,d12,f_hxy,go_sem]) rfl
          case s14 =>
           intro f g W b e d a c;have d3:g (.tmp 73)=.int .i64 A:=dpv a d 3 73;have d13:g (.tmp 83)=.int .i64 Bn:=dpv a d 13 83;exact ze (by simp[execOp,d3,d13,hand,go_sem]) rfl
          case s15 =>
           intro f h W b e d a c;have d0:h (.tmp 70)=.slice (some ⟨g,0,none⟩) M.n M.n:=dpv a d 0 70;have d1:h (.tmp 71)=.int .i64 y:=dpv a d 1 71;exact ze (by simp[execOp,d0,d1,hyi,go_sem]) rfl
          case send =>
           intro val Z hE hzz hv;obtain⟨-,-,-,-,-,-,-,-,-,-,-,-,-,-,r14,r15,-⟩:=hv;have q14:val 14=.int .i64 C:=r14;have q15:val 15=.pointer (some ⟨g,y,none⟩):=r15;simp only[za9,q14,q15];go_frame;have HNB6:=hid (HNB5.out.of_heap (hE.block g zg));have cj2:=zh hE cj;have fz2:=HNB6.out.free y;have zg2:=HNB6.out.lt;have HKE:=hid (HKG5.out.trans (Kept.of_below hE));clear hE hzz r14 r15 q14 q15 cj fz zg;go_wp2_with fail;refine⟨⟨y+1,by omega,by go_num,(HNB6.out.set y (C:Int)).congr fun q hq=>?_,HKE.out.setCell (fun _ h=>h rfl) _⟩,by simp[intOf];omega⟩
           by_cases e:q=y
           ·subst e
            rw[if_pos rfl,if_pos (by omega),HC0.out]
           ·rw[if_neg e]
            by_cases h:q<y
            ·rw[if_pos h,if_pos (by omega)]
            ·rw[if_neg h,if_neg (by omega)]
         ·have hyi:¬((y:Int)<(M.n:Int)):=by omega
          have hfin:zbj Y g M.n (fun q=>(ze9 Z1 (clF cs) (b+1) (i+1) q:Int)):=HNB5.out.congr fun q hq=>by rw[if_pos (by omega),HAN.out q]
          have HFIN:=hid hfin;have hkz:Kept (fun k=>k≠g) X2 Y:=HKG2.out.trans hkg;have HKZ:=hid hkz;clear hfin hkz hkg;go_wp2_with fail;refine⟨⟨i+1,by omega,by rw[HSG.out,HSG0.out],by go_num,HFIN.out,HKZ.out⟩,by simp[intOf];omega⟩
      ·have hii:¬((i:Int)<(cs.length:Int)):=by omega
       have hie:i=cs.length:=by omega
       subst hie;have hXW:MK X wr mb:=MK.of (Kept.trans ((Kept.of_below HE1.out).mono fun _ _ _=>trivial:Kept (fun k=>k≠g) X X1) hkg2) fun x hx _=>by have:=HGX.out;have:=HGS.out;omega
       have hWW:MK w wr mb:=HK.out.trans hXW;have hmw:zan wr mb M:=(HMM.out.of_heap (HE1.out.block _ HMM.out.lt)).of_heap (hkg2.same _ (wet HMM.out.lt HE1.out.size) HGX.out.2.2.1);have hMW:=HM.out.mk' hWW hmw;have hVT:=zacn V cs (b+1) cs.length;obtain⟨ss,hss⟩:∃ss,ss=zko M cs (b+1) cs.length:=⟨_,rfl⟩
       have hsi:zo wr .i64 (.slice (some ⟨g,0,none⟩) M.n M.n) (zy ss):=by
        rw[hss];refine zaco (by simp[zko]) (by omega) (HNB4.out.congr fun q hq=>?_);rw[zzm M cs (b+1) cs.length hq,←HZ2.out]
       rw[←hss]at hVT;have hnm:=zi1 (zbf M ss) hVT ka (some ⟨g,0,none⟩) kc M.n wr hMW.m.ks hsi
       dsimp only[zbf]at hnm
       obtain⟨W0,rfl⟩:∃W0,W0=wr:=⟨_,rfl⟩
       have hpu:zt5 M cs l b=zdj (b+1) cs.length*(zb3 (zcj M (zbf M ss) l):Int):=by rw[hss];rfl
       have HPU:=hid hpu;have HMW:=hid hMW;have HWW:=hid hWW;have HVT:=hid hVT;have d0:=hMW.m.c0;have d1:=hMW.m.c1;have d2:=hMW.m.c2;have d3:=hMW.m.c3;have e0:=hkg2.cell k01 HGX.out.1;have zp:=wfu _ _ d0;have zc:=wfu _ _ e0;simp only at zp zc;clear hXW hWW hmw hMW hVT hss hsi hkg2 c0 c1 c2 c3 k0 k1 k2 c1' k01 hpu;go_wp2_with fail;refine hnm.mono ?_
       rintro e W1 ⟨p2,mb2,sa2,sc2,rfl,hEn,hp2,hm2,a1,a2,a3⟩;have hIX:zc6 W1 p M ka sa kc sc mb:=HMW.out.ext hEn;have hIT:zc6 W1 p2 (zbf M ss) ka sa2 kc sc2 mb2:=⟨a1,a2,a3⟩
       have hmbX:=HMW.out.map.lt;have hTwo:zdw W1 p p2 mb mb2 M (zbf M ss) ka sa sa2 kc sc sc2:=⟨hIX,hIT,zk9 HVT.out hIX.map hIT.m,zk9 V hIT.map hIX.m,by omega⟩
       have HTwo:=hid hTwo;have hWW1:MK w W1 mb:=HWW.out.ext hEn;have HWW1:=hid hWW1;have hsR:=znk HM.out.map hWW1 HR.out;have HSR:=hid hsR;have HMB2:=hid (wer HWW.out.size hm2);obtain⟨k0,k1,k2,-,-⟩:=(HCA.out W1 hWW1).cells;have hie:=zqj (zgo M ss) V HL.out;have hsb:=z8b (zgo M ss) V HVT.out HL.out;obtain⟨il,hil⟩:∃il,il=zcj M (zbf M ss) l:=⟨_,rfl⟩
       have hil10:=wer (zni M (zbf M ss) l) HL.out.len;rw[←hil]at hie hsb hil10;have HIE:=hid hie;have HSB:=hid hsb;have HIL:=hid hil;clear hnm hEn hp2 hm2 a1 a2 a3 hIX hIT hTwo hWW1 hsR hmbX d0 d1 d2 d3 e0 zp zc hie hsb hil;go_upto_region 24 with(fail);refine zb8 (0) (wfd _)
        [sqV (.pointer (some ⟨cb,0,none⟩)),sqV (.pointer (some ⟨cb,0,none⟩)),sqV (.pointer (some ⟨cb,0,none⟩)),sqV (.pointer (some ⟨p,0,none⟩)),sqV (.pointer (some ⟨p2,0,none⟩)),sqV (.pointer (some ⟨cb,0,none⟩)),sqV (.pointer (some ⟨cb,0,none⟩)),sqV (.pointer (some ⟨cb,2,none⟩)),sqV (.slice sl l.length scap),sqW (fun v W=>∃ra rc,v=.slice ra il.length rc∧zho W1 W mb mb2 M (zbf M ss)∧zao W 2 v (il.map zcw)) (fun _ _ _ ⟨ra,rc,h1,h2,h3⟩ e=>⟨ra,rc,h1,h2.ext e,zao.ext e h3⟩),sqV (.int .i64 il.length),sqV (.int .i64 0)]
        [true,true,true,true,true,true,true,true,true,false,true,true] [false,false,false,false,false,false,false,false,false,true,false,false] [true,true,true,true,true,true,true,true,true,true,true,true] [true,true,true,true,true,true,true,true,true,true,false,false]
        (by kernel_rfl) (by kernel_rfl) (by decide +kernel) (by decide +kernel) (by decide +kernel) rfl ⟨rfl,rfl⟩ ⟨?s0,?s1,?s2,?s3,?s4,?s5,?s6,?s7,?s8,?s9,?s10,?s11,trivial⟩ [some 97,some 98,some 99,some 100,some 101,some 102,some 103,some 104,some 105,some 106,some 107,some 108] rfl rfl ?send
       case s0 =>
        intro f g W b e d a c;have o0:g (.tmp 0)=.pointer (some ⟨cb,0,none⟩):=a.old 0 (by decide);exact ze (by simp[execOp,o0,go_sem]) rfl
       case s1 =>
        intro f g W b e d a c;have d0:g (.tmp 97)=.pointer (some ⟨cb,0,none⟩):=dpv a d 0 97;exact ze (by simp[execOp,d0,go_sem]) rfl
       case s2 =>
        intro f g W b e d a c;have d1:g (.tmp 98)=.pointer (some ⟨cb,0,none⟩):=dpv a d 1 98;exact ze (by simp[execOp,d1,go_sem]) rfl
       case s4 =>
        intro f g W b e d a c;have o0:g (.tmp 13)=.pointer (some ⟨p2,0,none⟩):=a.old 13 (by decide);exact ze (by simp[execOp,o0,go_sem]) rfl
       case s5 =>
        intro f g W b e d a c;have o0:g (.tmp 0)=.pointer (some ⟨cb,0,none⟩):=a.old 0 (by decide);exact ze (by simp[execOp,o0,go_sem]) rfl
       case s6 =>
        intro f g W b e d a c;have d5:g (.tmp 102)=.pointer (some ⟨cb,0,none⟩):=dpv a d 5 102;exact ze (by simp[execOp,d5,go_sem]) rfl
       case s7 =>
        intro f g W b e d a c;have d6:g (.tmp 103)=.pointer (some ⟨cb,0,none⟩):=dpv a d 6 103;exact ze (by simp[execOp,d6,go_sem]) rfl
       case s11 =>
        intro f g W b e d a c;exact ze (by simp[execOp,a.const,go_sem]) rfl
       case s3 =>
        intro f g W b e d a c;have e2:g (.tmp 99)=.pointer (some ⟨cb,0,none⟩):=dpv a d 2 99;have hc:=zh (c (by decide)) k0;exact ze (by simp[execOp,e2,hc,go_sem]) rfl
       case s8 =>
        intro f g W b e d a c;have e2:g (.tmp 104)=.pointer (some ⟨cb,2,none⟩):=dpv a d 7 104;have hc:=zh (c (by decide)) k2;exact ze (by simp[execOp,e2,hc,go_sem]) rfl
       case s9 =>
        intro g i W b f d a c;have e3:i (.tmp 100)=.pointer (some ⟨p,0,none⟩):=dpv a d 3 100;have e4:i (.tmp 101)=.pointer (some ⟨p2,0,none⟩):=dpv a d 4 101;have e8:i (.tmp 105)=.slice sl l.length scap:=dpv a d 8 105;have hW:=c (by decide);refine z95 23 _ _ rfl #[.pointer (some ⟨p,0,none⟩),.pointer (some ⟨p2,0,none⟩),.slice sl l.length scap] (a.func _) (by simp[e3,e4,e8]) (fun args W=>Tryz.call23 args W) ((zqi M (zbf M ss) (zgo M ss) V HVT.out p p2 mb mb2 ka sa sa2 kc sc sc2 l HL.out _ W (HTwo.out.ext hW) (zao.ext hW HSR.out)).mono ?_);rintro e w' ⟨v',rfl,hT,hR⟩;rw[←HIL.out]at hR;obtain⟨ra,rc,e9,-⟩:=zgm hR;exact⟨v',rfl,Kept.below (hT.k.mono (T:=fun k=>k<0) fun k _ hk=>absurd hk (Nat.not_lt_zero _)) (wfd _),ra,rc,e9,⟨(Kept.of_below hW).trans hT.k |>.mono fun _ _ h=>h,hT.m1,hT.m2⟩,hR⟩
       case s10 =>
        intro f g W b e d a c;obtain⟨ra,rc,e9,-⟩:=d 9 (by decide);have e9:g (.tmp 106)=.slice ra il.length rc:=(a.dep 9 (by decide) 106 rfl).trans e9;exact ze (by simp[e9,go_sem]) rfl
       case send =>
        intro val Z hE hzz hv;obtain⟨-,-,-,-,-,-,-,-,-,r9,r10,r11,-⟩:=hv;obtain⟨ra,rc,e9,hT,hR⟩:∃ra rc,val 9=.slice ra il.length rc∧zho W1 Z mb mb2 M (zbf M ss)∧zao Z 2 (val 9) (il.map zcw):=r9;have q10:val 10=.int .i64 il.length:=r10;have q11:val 11=.int .i64 0:=r11;rw[e9]at hR;simp only[za9,e9,q10,q11];go_frame;have hwz:MK w Z mb:=Kept.trans HWW1.out (hT.k.mono fun x _ hx=>⟨hx.2,fun e=>by have:=HMB2.out;have:=hx.1;omega⟩);have HWZ:=hid hwz;have HMZ:=hid hT.m1;obtain⟨_,_,e,-,-,hcc⟩:=zgm hR;cases e;have HCC:=hid hcc;have hs1:=zt4 (b+1) cs.length;obtain⟨sg,hsg⟩:∃sg,sg=zdj (b+1) cs.length:=⟨_,rfl⟩
        rw[←hsg]at hs1 ⊢;have HSG:=hid hsg;have HS1:=hid hs1;have hb64:(b:Int)≤63:=by omega
        have HB0:=hid (show -1100000000≤s0∧s0≤1100000000 by omega);clear hE hzz r10 r11 e9 q10 q11 hT hR hwz hcc hsg hs1 k0 k1 k2 hu1 hu2 hb64;go_wp2_with fail
        go_loopw [5,108] (fun sv iv W=>∃a:Nat,a≤il.length∧sv=.int .i64 (s0+sg*(zb3 (il.take a):Int))∧iv=.int .i64 a∧Ext Z W) (fun _ iv _=>il.length-(intOf iv).toNat)
        case atStart=>exact⟨0,by omega,by simp[zb3],rfl,Below.refl _ _⟩
        case round =>
         obtain⟨a,ha,rfl,rfl,hE⟩:=hrel;have HE:=hid hE
         by_cases hla:a<il.length
         ·have hai:(a:Int)<(il.length:Int):=by omega
          obtain⟨rb,ro,rfl,hc⟩:=HCC.out a hla;obtain⟨d0,d1⟩:=hc a hla wr hE;have hsp:=zxh il hla;have hb1:=HSB.out a;have hb2:=HSB.out (a+1);obtain⟨h1,h2⟩:=HIE.out (il.getD a (0,0)) (by rw[wch,wcn hla];exact wcy hla);obtain⟨lo,hlo⟩:∃lo,lo=(il.getD a (0,0)).1:=⟨_,rfl⟩
          obtain⟨hi,hhi⟩:∃hi,hi=(il.getD a (0,0)).2:=⟨_,rfl⟩
          rw[←hlo]at d0 h1 hsp;rw[←hhi]at d1 h1 h2 hsp;obtain⟨S1,hS1⟩:∃S1,S1=zb3 (il.take a):=⟨_,rfl⟩
          obtain⟨S2,hS2⟩:∃S2,S2=zb3 (il.take (a+1)):=⟨_,rfl⟩
          rw[←hS1]at hsp hb1 ⊢;rw[←hS2]at hsp hb2;obtain⟨Q1,hQ1⟩:∃Q1:Nat,Q1=hi-lo:=⟨_,rfl⟩
          obtain⟨Q2,hQ2⟩:∃Q2:Nat,Q2=hi-lo+1:=⟨_,rfl⟩
          have w1:IntKind.i64.wrap ((hi:Int)-(lo:Int))=(Q1:Int):=by rw[wbh _ (by omega)];omega
          have w2:IntKind.i64.wrap ((Q1:Int)+1)=(Q2:Int):=by rw[wbh _ (by omega)];omega
          obtain⟨t1,ht1⟩:∃t1:Int,t1=sg*(S1:Int):=⟨_,rfl⟩
          obtain⟨t2,ht2⟩:∃t2:Int,t2=sg*(Q2:Int):=⟨_,rfl⟩
          have hs2:sg*(S2:Int)=t1+t2:=by rw[hsp,ht1,ht2,←Int.mul_add,←hQ2];simp
          have hbt:-16796160≤t1∧t1≤16796160∧-16796160≤t2∧t2≤16796160:=by
           rcases HS1.out with e|e<;>rw[e]at ht1 ht2<;>omega
          have hs0b:=HB0.out;have w3:IntKind.i64.wrap (sg*(Q2:Int))=t2:=by rw[←ht2];exact wbh _ (by omega)
          have w4:IntKind.i64.wrap (s0+t1+t2)=s0+t1+t2:=wbh _ (by omega);have hS2c:Hid (sg*(zb3 (il.take (a+1)):Int)=t1+t2):=hid (by rw[←hS2];exact hs2);rw[←ht1];have zd:=wfu _ _ d0;simp only at zd;clear hc hsp hb1 hb2 h1 h2 hlo hhi hS1 hS2 hQ1 hQ2 ht1 ht2 hs2 hbt hs0b hE;go_wp2_with fail;refine⟨⟨a+1,by omega,by rw[hS2c.out,Int.add_assoc],by go_num,HE.out.trans' (by exact xx)⟩,by simp[intOf];omega⟩
         ·have hai:¬((a:Int)<(il.length:Int)):=by omega
          have htk:il.take a=il:=wec (by omega);have hnx:s0+sg*(zb3 (il.take a):Int)=zge M cs l (b+1):=by
           rw[htk,HIL.out,HSG.out,←HPU.out,HS0.out];rfl
          obtain⟨s9,hs9⟩:∃s9,s9=s0+sg*(zb3 (il.take a):Int):=⟨_,rfl⟩
          rw[←hs9]at hnx ⊢;have HNX:=hid hnx;have hmz:=HMZ.out.of_heap (hE.block _ HMZ.out.lt);have HMZ2:=hid hmz;have HWZ2:=hid (HWZ.out.ext hE);clear htk hnx hs9 hmz hE;go_wp2_with fail;refine⟨⟨b+1,by omega,by rw[HNX.out],by go_num,HWZ2.out,HMZ2.out⟩,by simp[intOf];omega⟩
  ·have hbi:¬(((b+1:Nat):Int)<(P:Int)):=by omega
   have HBE:Hid (b=P-1):=hid (by omega);go_wp2_with fail;go_ret;exact⟨by rw[HS0.out,HBE.out];rfl,HK.out,HMM.out⟩
end Go.Proofs.YtdcnbeehckgpcaaGreat
namespace Go.Proofs.YtdcnbeehckgpcaaGreat
open Go.Lib (hid)
open Go.RowKit Go.Shelf
theorem z96(M:zl)(V:zag M)(ka:Option Addr)(kc:Nat)(ca:Option Addr)(cc:Nat)(cs:List (Value×List Nat))(hcl:cs.length≤1000)(hT:∀x∈cs,zag (zbf M x.2))(hpos:∀x∈cs,∀i,i<M.n→1≤x.2.getD i 0)(w:World)(hk:zo w .i64 (.slice ka M.n kc) (zy M.ks))(hc:zgd w ca cc cs) :
  Calls Tryz.prog 51 #[.agg #[.int .i64 M.L,.int .i64 M.n,.slice ka M.n kc,.int .i64 M.rest],.slice ca cs.length cc] w fun e w'=>e=.returned (.int .i64 0)∧Ext w w':=by
 have hL:=V.L;have hn:=V.n;obtain⟨hw1,hw2,hw3⟩:=zjf hL.2;have hall:∀x∈cs,(zy x.2).all (inR 1 ((2^M.L:Nat)-1:Int))=true:=fun x hx=>zzi fun i hi=>by
  have hv:=hT x hx;have hsl:x.2.length=M.n:=hv.sl;rw[hsl]at hi;have h1:x.2.getD i 0<2^M.L:=hv.ss i hi;have h2:=hpos x hx i hi;omega
 have hlen:∀x∈cs,x.2.length=M.n:=fun x hx=>(hT x hx).sl
 obtain⟨N,hN⟩:∃N:Nat,N=2^M.L:=⟨_,rfl⟩
 rw[←hN]at hw1 hw2 hw3 hall;have hmin:min M.L 64=M.L:=by omega
 have hwN:IntKind.i64.wrap ((N:Int)-1)=(N:Int)-1:=wbh _ (by omega);have HC0:=hid hc;have HALL:=hid hall;have HLEN:=hid hlen;clear hc hall hN hT hpos hlen
 go_enter Tryz.func51,Tryz.ntmps51
 go_upto_region 1 with(fail);obtain⟨W0,hW0⟩:∃W0,W0=w.alloc (.cells #[.int .i64 M.L,.int .i64 M.n,.slice ka M.n kc,.int .i64 M.rest] 24):=⟨_,rfl⟩
 have hE:Ext w W0:=by rw[hW0];exact xx
 have k0:W0.cell? ⟨w.heap.size,0,none⟩=some (.int .i64 M.L):=by rw[hW0];simp[go_sem]
 have k1:W0.cell? ⟨w.heap.size,1,none⟩=some (.int .i64 M.n):=by rw[hW0];simp[go_sem]
 have k2:W0.cell? ⟨w.heap.size,2,none⟩=some (.slice ka M.n kc):=by rw[hW0];simp[go_sem]
 have k3:W0.cell? ⟨w.heap.size,3,none⟩=some (.int .i64 M.rest):=by rw[hW0];simp[go_sem]
 have hz:w.heap.size<W0.heap.size:=wfu _ _ k0;have HW:=hid hE;have HK:=hid (zo.ext hE hk);rw[←hW0];clear hW0 hk hE;have HC:=hid (HC0.out.ext HW.out);go_wp2_with fail
 go_loopw [9] (fun iv W=>∃k:Nat,k≤cs.length∧iv=.int .i64 k∧Ext W0 W) (fun iv _=>cs.length-(intOf iv).toNat)
 case atStart=>exact⟨0,by omega,rfl,Below.refl _ _⟩
 case round =>
  obtain⟨k,hk,rfl,hE⟩:=hrel;obtain⟨X,rfl⟩:∃X,X=wr:=⟨_,rfl⟩
  have HEX:=hid hE
  by_cases hlt:k<cs.length
  ·have hki:(k:Int)<(cs.length:Int):=by omega
   have hcx:=HC.out.ext hE;obtain⟨qb,qo,rfl,hcell⟩:=hcx.cell hlt;have kv:=hcell k hlt;obtain⟨xa,xc,hx1,hx2⟩:=hcx.each cs[k] (wcy hlt);have hsl:=HLEN.out cs[k] (wcy hlt);have hal:=HALL.out cs[k] (wcy hlt);obtain⟨ss,hss⟩:∃ss,ss=cs[k].2:=⟨_,rfl⟩
   rw[←hss]at hx1 hx2 hsl hal;rw[hx1,hsl]at kv;rw[hsl]at hx2;replace k0:=zh hE k0;replace k1:=zh hE k1;have zc:=wfu _ _ k0;have zv:=wfu _ _ kv;simp only at zc zv;have HS:=hid hx2;have HAL:=hid hal;clear hE k2 k3 hcx hcell hx1 hx2 hss hsl hal;go_wp2_with fail;refine ze1 (W0:=X) (g:=⟨X,Below.refl _ _⟩) xx (zes 1 ((N:Int)-1) _ (zy ss) _ (HS.out.ext xx)) fun g1 hgr=>?_
   clear hgr;rw[HAL.out];go_wp2_with fail;exact⟨⟨k+1,by omega,by go_num,HEX.out.trans' (zb7 X _)⟩,by simp[intOf];omega⟩
  ·have hki:¬((k:Int)<(cs.length:Int)):=by omega
   clear hE;go_wp2_with fail;go_ret;exact⟨rfl,HW.out.trans' HEX.out⟩
theorem z63(M:zl)(V:zag M)(ka:Option Addr)(kc:Nat)(ca:Option Addr)(cc:Nat)(cs:List (Value×List Nat))(hcl:cs.length≤6)(hT:∀x∈cs,zag (zbf M x.2))(hpos:∀x∈cs,∀i,i<M.n→1≤x.2.getD i 0)(l:List (Nat×Nat))(hl:zfp (cnt (opM M) ts0) l)(sl:Option Addr)(scap:Nat)(w:World)(hk:zo w .i64 (.slice ka M.n kc) (zy M.ks))(hc:zgd w ca cc cs)(hr:zao w 2 (.slice sl l.length scap) (l.map zcw)) :
  Calls Tryz.prog 28 #[.agg #[.int .i64 M.L,.int .i64 M.n,.slice ka M.n kc,.int .i64 M.rest],.slice ca cs.length cc,.slice sl l.length scap] w fun e W=>∃cb p mb sa sc nv dv,e=.returned (.tuple #[.pointer (some ⟨cb,0,none⟩),.int .i64 0])∧Ext w W∧w.heap.size≤mb∧zc6 W p (opM M) ka sa kc sc mb∧zbw W cb p (.slice ca cs.length cc) (.slice sl l.length scap) nv dv:=by
 have HC:=hid hc;have HR:=hid hr;have HL:=hid hl;have HT:=hid hT;have HP:=hid hpos;clear hc hr hl hT hpos;have hc6:¬((6:Int)<(cs.length:Int)):=by omega
 go_enter Tryz.func28,Tryz.ntmps28
 go_upto_region 1 with(fail);obtain⟨W0,hW0⟩:∃W0,W0=w.alloc (.cells #[.int .i64 M.L,.int .i64 M.n,.slice ka M.n kc,.int .i64 M.rest] 24):=⟨_,rfl⟩
 have hE:Ext w W0:=by rw[hW0];exact xx
 have k0:W0.cell? ⟨w.heap.size,0,none⟩=some (.int .i64 M.L):=by rw[hW0];simp[go_sem]
 have k1:W0.cell? ⟨w.heap.size,1,none⟩=some (.int .i64 M.n):=by rw[hW0];simp[go_sem]
 have k2:W0.cell? ⟨w.heap.size,2,none⟩=some (.slice ka M.n kc):=by rw[hW0];simp[go_sem]
 have k3:W0.cell? ⟨w.heap.size,3,none⟩=some (.int .i64 M.rest):=by rw[hW0];simp[go_sem]
 have hz:w.heap.size<W0.heap.size:=wfu _ _ k0;have HW:=hid hE;have HK:=hid (zo.ext hE hk);rw[←hW0];clear hW0 hk hE;go_wp2_with fail;refine(zmi M V ka kc _ HK.out).mono ?_
 rintro e W1 ⟨p,mb,sa,sc,rfl,hE1,hp,hm,hI⟩;have HE1:=hid (HW.out.trans' hE1);have HE01:=hid hE1;have HI:=hid hI;have HMB:=hid (wer HW.out.size hm);replace k0:=zh hE1 k0;replace k1:=zh hE1 k1;replace k2:=zh hE1 k2;replace k3:=zh hE1 k3;have zk:=wfu _ _ k0;simp only at zk;clear hE1 hI hp hm;go_wp2_with fail;refine(z96 M V ka kc ca cc cs (by omega) HT.out HP.out W1 (HK.out.ext HE01.out) (HC.out.ext HE1.out)).mono ?_
 rintro e W2 ⟨rfl,hE2⟩;have HE2:=hid (HE1.out.trans' hE2);have HI2:=hid (HI.out.ext hE2);clear hE2 k0 k1 k2 k3 zk;go_wp2_with fail;refine(z03 (opM M) (zjz V) p mb ka sa kc sc l HL.out _ W2 HI2.out (zao.ext HE2.out HR.out)).mono ?_
 rintro e W3 ⟨rfl,hE3⟩;have HE3:=hid (HE2.out.trans' hE3);have HI3:=hid (HI2.out.ext hE3);clear hE3;go_wp2_with fail;refine(z62 (opM M) (zjz V) p mb ka sa kc sc ca cc cs hcl HT.out l HL.out sl scap W3 HI3.out (HC.out.ext HE3.out) (zao.ext HE3.out HR.out)).mono ?_
 rintro e W4 ⟨cb,nv,dv,rfl,hk4,hm4,-,hc4⟩;have hE4:Ext w W4:=HE3.out.trans (Kept.below (hk4.mono (T:=fun k=>k<w.heap.size) fun k _ hk=>⟨by have:=HE3.out.size;omega,by have:=HMB.out;omega⟩) HE3.out.size);have HE4:=hid hE4;have HI4:=hid (HI3.out.mk' hk4 hm4);have HC4:=hid hc4;clear hE4 hk4 hm4 hc4;go_wp2_with fail;refine bodyPost_ret (v:=.tuple #[.pointer (some ⟨cb,0,none⟩),.int .i64 0]) (by simp[results,Tryz.results28,go_sem]) rfl ?_
 exact⟨cb,p,mb,sa,sc,nv,dv,rfl,HE4.out,HMB.out,HI4.out,HC4.out⟩
theorem zacq(M:zl)(V:zag M)(ka:Option Addr)(kc:Nat)(ca:Option Addr)(cc:Nat)(cs:List (Value×List Nat))(hc1:1≤cs.length)(hcl:cs.length≤6)(hT:∀x∈cs,zag (zbf M x.2))(hpos:∀x∈cs,∀i,i<M.n→1≤x.2.getD i 0)(l:List (Nat×Nat))(hl:zfp (cnt (opM M) ts0) l)(sl:Option Addr)(scap:Nat)(ta:Option Addr)(tc:Nat)(w:World)(hk:zo w .i64 (.slice ka M.n kc) (zy M.ks))(hc:zgd w ca cc cs)(hr:zao w 2 (.slice sl l.length scap) (l.map zcw))(ht:zo w .i64 (.slice ta cs.length tc) (zy (List.range cs.length))) :
  Calls Tryz.prog 11 #[.agg #[.int .i64 M.L,.int .i64 M.n,.slice ka M.n kc,.int .i64 M.rest],.slice ca cs.length cc,.slice sl l.length scap,.slice ta cs.length tc] w fun e W=>e=.returned (.tuple #[.int .i64 (zge (opM M) cs l (2^cs.length-1)),.int .i64 0])∧Ext w W:=by
 have HC:=hid hc;have HR:=hid hr;have HL:=hid hl;have HT:=hid hT;have HP:=hid hpos;have HST:=hid ht;have hub:=z4b (zjz V) cs hl (2^cs.length-1);have hP:2^cs.length≤64:=(zjf hcl).2.1;obtain⟨U,hU⟩:∃U,U=zge (opM M) cs l (2^cs.length-1):=⟨_,rfl⟩
 rw[←hU]at hub ⊢;have HU:=hid hU;have hwU:IntKind.i64.wrap U=U:=wbh _ (by omega);clear hc hr hl hT hpos ht hU hub hP
 go_enter Tryz.func11,Tryz.ntmps11
 go_upto_region 1 with(fail);obtain⟨W0,hW0⟩:∃W0,W0=w.alloc (.cells #[.int .i64 M.L,.int .i64 M.n,.slice ka M.n kc,.int .i64 M.rest] 24):=⟨_,rfl⟩
 have hE:Ext w W0:=by rw[hW0];exact xx
 have k0:W0.cell? ⟨w.heap.size,0,none⟩=some (.int .i64 M.L):=by rw[hW0];simp[go_sem]
 have k1:W0.cell? ⟨w.heap.size,1,none⟩=some (.int .i64 M.n):=by rw[hW0];simp[go_sem]
 have k2:W0.cell? ⟨w.heap.size,2,none⟩=some (.slice ka M.n kc):=by rw[hW0];simp[go_sem]
 have k3:W0.cell? ⟨w.heap.size,3,none⟩=some (.int .i64 M.rest):=by rw[hW0];simp[go_sem]
 have hz:w.heap.size<W0.heap.size:=wfu _ _ k0;have HW:=hid hE;have HK:=hid (zo.ext hE hk);rw[←hW0];clear hW0 hk hE;go_wp2_with fail;refine(z63 M V ka kc ca cc cs hcl HT.out HP.out l HL.out sl scap W0 HK.out (HC.out.ext HW.out) (zao.ext HW.out HR.out)).mono ?_
 rintro e W1 ⟨cb,p,mb,sa,sc,nv,dv,rfl,hE1,hmb,hI,hct⟩;have HE1:=hid (HW.out.trans' hE1);have HI:=hid hI;have HCT:=hid hct;have HMB:=hid (wer HW.out.size hmb);clear hE1 hI hct hmb k0 k1 k2 k3;go_wp2_with fail
 go_loopw [12,27] (fun nx iv W=>∃i:Nat,i≤cs.length∧nx=.int .i64 i∧iv=.int .i64 i∧Ext W1 W) (fun _ iv _=>cs.length-(intOf iv).toNat)
 case atStart=>exact⟨0,by omega,rfl,rfl,Below.refl _ _⟩
 case round =>
  obtain⟨i,hi,rfl,rfl,hE⟩:=hrel;obtain⟨X,rfl⟩:∃X,X=wr:=⟨_,rfl⟩
  have HE:=hid hE
  by_cases hli:i<cs.length
  ·have hii:(i:Int)<(cs.length:Int):=by omega
   obtain⟨tb,to_,rfl,hc⟩:=za7 (HST.out.ext (HE1.out.trans' hE)) (i:=i) (by rw[wda];exact hli);have ct:=hc i (by rw[wda];exact hli) X (Below.refl _ _);rw[wch,wcr hli]at ct;simp only[wfk]at ct;have zt:=wfu _ _ ct;simp only at zt;have hin:[(i:Int)].all (inR (i:Int) ((cs.length:Int)-1))=true:=by simp[inR];omega
   have hwn:IntKind.i64.wrap ((cs.length:Int)-1)=(cs.length:Int)-1:=wbh _ (by omega);clear hc hE;go_wp2_with fail;refine(zes (i:Int) ((cs.length:Int)-1) _ [(i:Int)] _ (zee (by omega) (by omega) (by simp[go_sem]))).mono ?_
   rintro e X2 ⟨rfl,hE2⟩;have HE2:=hid (HE.out.trans' (Ext.trans' (by exact xx) hE2));rw[hin];clear hE2 hin;go_wp2_with fail;exact⟨⟨i+1,by omega,by go_num,by go_num,HE2.out⟩,by simp[intOf];omega⟩
  ·have hii:¬((i:Int)<(cs.length:Int)):=by omega
   have huv:=zacp (opM M) (zjz V) p mb cb ka sa kc sc ca cc cs hc1 hcl HT.out l HL.out sl scap nv dv ta tc X (HI.out.ext hE) (HCT.out.ext hE) (HC.out.ext (HE1.out.trans' hE)) (zao.ext (HE1.out.trans' hE) HR.out) (HST.out.ext (HE1.out.trans' hE));rw[←HU.out]at huv;clear hE;go_wp2_with fail;refine huv.mono ?_
   rintro e X2 ⟨rfl,hk2,-⟩;have hE4:Ext w X2:=(HE1.out.trans' HE.out).trans (Kept.below (hk2.mono (T:=fun k=>k<w.heap.size) fun k _ hk=>⟨by have:=(HE1.out.trans' HE.out).size;omega,by have:=HMB.out;omega⟩) (HE1.out.trans' HE.out).size);have HE4:=hid hE4;clear hE4 hk2 huv;go_wp2_with fail;refine bodyPost_ret (v:=.tuple #[.int .i64 U,.int .i64 0]) (by simp[results,Tryz.results11,go_sem]) rfl ?_
   exact⟨rfl,HE4.out⟩
end Go.Proofs.YtdcnbeehckgpcaaGreat
