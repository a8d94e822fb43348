/-
  The least of a chain: the walks of least, of the closure in leasts, and of smallest over it.
-/
import Derived.Test.YtdcnbeehckgpcaaGreatBb
import Derived.Test.YtdcnbeehckgpcaaGreatLf
set_option maxRecDepth 200000
set_option maxHeartbeats 0
set_option linter.unusedSimpArgs false
set_option linter.unusedVariables false
noncomputable section
namespace Go.Proofs.YtdcnbeehckgpcaaGreat
open Go.Lib (hid)
namespace Ls
open Go.RowKit Go.Shelf
def leastF(c:List Int)(p:Nat):Int:=((p / c.length:Nat):Int)*c.getD (c.length-1) 0+(if 0<p%c.length then c.getD (p%c.length-1) 0 else 0)
structure COk(c:List Int):Prop where
 n0:0<c.length
 n1:c.length≤1000
 b:∀x∈c,0≤x∧x≤1000000
theorem zagz{c:List Int}(h:COk c){p:Nat}(hp:p≤1000000):0≤leastF c p∧leastF c p≤1000001000000:=by
 have hg:∀i,i<c.length→0≤c.getD i 0∧c.getD i 0≤1000000:=fun i hi=>by
  rw[wch,wcn hi];exact h.b _ (wcy hi)
 have hn:=h.n0;have h1:=hg (c.length-1) (by omega);have hq:p / c.length≤1000000:=wer (wel _ _) hp;have hq2:((p / c.length:Nat):Int)≤1000000:=Int.ofNat_le.2 hq;have h2:0≤((p / c.length:Nat):Int)*c.getD (c.length-1) 0:=Int.mul_nonneg (Int.natCast_nonneg _) h1.1;have h3:((p / c.length:Nat):Int)*c.getD (c.length-1) 0≤1000000*1000000:=wbb hq2 h1.2 h1.1 (by omega);unfold leastF
 split
 ·have hm:=wex p hn
  have h4:=hg (p%c.length-1) (by omega);omega
 ·omega
theorem zaea(c:List Int)(sa:Option Addr)(cap p:Nat)(hp:p≤1000000)(w:World)(hc:COk c)(hs:zo w .i64 (.slice sa c.length cap) c) :
  Calls Tryz.prog 433 #[.slice sa c.length cap,.int .i64 p] w fun e W=>e=.returned (.int .i64 (leastF c p))∧Ext w W:=by
 have n0:=hc.n0;have n1:=hc.n1
 rcases hs.spec with⟨sa',cap',e,h5,h6,hcc⟩
 cases e
 rcases hcc with hcc|⟨lb,lo,rfl,hcc⟩
 ·rw[hcc]at n0;simp at n0
 have hB:=hc.b;obtain⟨n,hn⟩:∃n,n=c.length:=⟨_,rfl⟩
 obtain⟨la,hla⟩:∃la,la=c.getD (n-1) 0:=⟨_,rfl⟩
 have hlast:=hcc (n-1) (by omega);have hlb:=hB (c[n-1]'(by omega)) (wcy _);have el:c[n-1]'(by omega)=la:=by rw[hla,wch,wcn (by omega)];rfl
 rw[el]at hlast hlb;obtain⟨q,hq⟩:∃q:Nat,q=p / n:=⟨_,rfl⟩
 obtain⟨r,hr⟩:∃r:Nat,r=p%n:=⟨_,rfl⟩
 have hrn:r<n:=by rw[hr];exact wex _ (by omega)
 have hqp:q≤1000000:=by rw[hq];exact wer (wel _ _) hp
 have e1:(p:Int).tdiv (n:Int)=(q:Int):=by rw[hq];exact(Int.ofNat_tdiv p n).symm
 have e2:(p:Int).tmod (n:Int)=(r:Int):=by rw[hr];exact(Int.ofNat_tmod p n).symm
 have m1:0≤(q:Int)*la:=Int.mul_nonneg (by omega) hlb.1;have m2:(q:Int)*la≤1000000*1000000:=wbb (by omega) hlb.2 hlb.1 (by omega);have w1:IntKind.i64.wrap (q:Int)=q:=wbh _ (by omega);have w2:IntKind.i64.wrap ((q:Int)*la)=(q:Int)*la:=wbh _ (by omega);have hni:((n:Int) == 0)=false:=by simp;omega
 have hlz:lb<w.heap.size:=wfu _ _ hlast;have hF:leastF c p=(q:Int)*la+(if 0<r then c.getD (r-1) 0 else 0):=by unfold leastF;rw[←hn,←hq,←hr,←hla]
 have HF:=hid hF;have HN:=hid hn;rw[←hn]at h5 ⊢;have hidx:((n:Int)-1).toNat=n-1:=by omega
 by_cases hr0:0<r
 ·have hx:=hcc (r-1) (by omega)
  have hxb:=hB (c[r-1]'(by omega)) (wcy _);obtain⟨y,hy⟩:∃y,y=c[r-1]'(by omega):=⟨_,rfl⟩
  rw[←hy]at hx hxb;have hres:leastF c p=(q:Int)*la+y:=by rw[hF,if_pos hr0,wch,wcn (by omega),←hy];rfl
  have HRS:=hid hres;have hd:decide ((r:Int)>0)=true:=decide_eq_true (by omega);clear hcc hB hF hn hla el hq hr hy hres hs hc
  go_enter Tryz.func433,Tryz.ntmps433
  go_wp2_with fail
  go_quiet (fail)
  go_wp2_with fail;refine bodyPost_ret (v:=.int .i64 ((q:Int)*la+y)) (by simp[results,Tryz.results433,go_sem]) rfl ⟨by rw[HRS.out],Ext.drN (Below.refl _ _) _⟩
 ·obtain rfl:r=0:=by omega
  have hres:leastF c p=(q:Int)*la:=by rw[hF,if_neg hr0];omega
  have HRS:=hid hres;have hd:decide ((0:Int)>0)=false:=rfl;clear hcc hB hF hn hla el hq hr hres hs hc hr0
  go_enter Tryz.func433,Tryz.ntmps433
  go_wp2_with fail
  go_quiet (fail)
  go_wp2_with fail;refine bodyPost_ret (v:=.int .i64 ((q:Int)*la)) (by simp[results,Tryz.results433,go_sem]) rfl ⟨by rw[HRS.out],Ext.drN (Below.refl _ _) _⟩
theorem zag0(out c:List Int)(k p ob oo kb ko cb co:Nat)(sa ca:Option Addr)(ocap ccap:Nat)(w:World)(hc:COk c)(hpk:p≤k)(hk:k<out.length)(hol:out.length≤1000000)(hob:∀x∈out,0≤x∧x≤1000000000000000)
  (h1:w.cell? ⟨ob,oo,none⟩=some (.slice sa out.length ocap)) (h2:w.cell? ⟨kb,ko,none⟩=some (.int .i64 k)) (h3:w.cell? ⟨cb,co,none⟩=some (.slice ca c.length ccap))
  (hs:zo w .i64 (.slice sa out.length ocap) out) (ht:zo w .i64 (.slice ca c.length ccap) c) :
  Calls Tryz.prog 435 #[.int .i64 p,.pointer (some ⟨ob,oo,none⟩),.pointer (some ⟨kb,ko,none⟩),.pointer (some ⟨cb,co,none⟩)] w fun e W=>e=.returned (.int .i64 (out.getD (k-p) 0+leastF c p))∧Ext w W:=by
 rcases hs.spec with⟨sa',cap',e,h5,h6,hcc⟩
 cases e
 rcases hcc with hcc|⟨lb,lo,rfl,hcc⟩
 ·rw[hcc]at hk;simp at hk
 have x1:=hcc (k-p) (by omega);have hxb:=hob (out[k-p]'(by omega)) (wcy _);obtain⟨y,hy⟩:∃y,y=out[k-p]'(by omega):=⟨_,rfl⟩
 rw[←hy]at x1 hxb;have hyg:out.getD (k-p) 0=y:=by rw[wch,wcn (by omega),←hy];rfl
 have hlb:=zagz hc (p:=p) (by omega);obtain⟨m,hm⟩:∃m,m=leastF c p:=⟨_,rfl⟩
 have hw:IntKind.i64.wrap (y+m)=y+m:=wbh _ (by omega);have HT:=hid ht;have HC:=hid hc;have TL:=hid (fun(W:World) (hE:Ext w W)=>zaea c ca ccap p (by omega) W hc (ht.ext hE));rw[←hm]at TL;have HY:=hid hyg;have HM:=hid hm;obtain⟨d,gd⟩:∃d,d=k-p:=⟨_,rfl⟩
 have hkp:(k:Int)-(p:Int)=(d:Int):=by omega
 have hdw:IntKind.i64.wrap (d:Int)=(d:Int):=wbh _ (by omega);rw[←gd]at x1;have hzx:=wfu _ _ x1;have hz1:=wfu _ _ h1;have hz2:=wfu _ _ h2;have hz3:=wfu _ _ h3;simp only at hzx hz1 hz2 hz3;have hdn:d<out.length:=by omega
 have hp6:p≤1000000:=by omega
 rw[←hm]at hlb;obtain⟨n,hn⟩:∃n,n=out.length:=⟨_,rfl⟩
 rw[←hn]at h1 h5 hk hol hdn;have hdi:(d:Int)<(n:Int):=by omega
 clear hcc hob hy hyg hm hs ht hc hn gd hpk hk
 go_enter Tryz.func435,Tryz.ntmps435
 go_wp2_with fail;refine zb8 (w.heap.size) (weq _)
  [sqV (.slice (some ⟨lb,lo,none⟩) n ocap),sqV (.int .i64 k),sqV (.int .i64 p),sqV (.int .i64 d),sqV (.pointer (some ⟨lb,lo+d,none⟩)),sqV (.int .i64 y),sqV (.slice ca c.length ccap),sqV (.int .i64 p),sqV (.int .i64 m),sqV (.int .i64 (y+m)),sqV (.int .i64 (y+m))]
  [true,true,true,true,true,true,true,true,true,true,true] [false,false,false,false,false,false,false,false,false,false,false] [true,true,true,true,true,true,true,true,true,true,true] [true,true,true,true,true,true,true,true,true,true,true]
  (by kernel_rfl) (by kernel_rfl) (by decide +kernel) (by decide +kernel) (by decide +kernel) rfl ⟨rfl,rfl⟩ ⟨?s0,?s1,?s2,?s3,?s4,?s5,?s6,?s7,?s8,?s9,?s10,trivial⟩ [some 6,some 7,some 8,some 9,some 10,some 11,some 12,some 13,some 14,some 15,some 5] rfl rfl ?send
 case s0 =>
  intro f g W b e d a c;have o0:g (.tmp 1)=.pointer (some ⟨ob,oo,none⟩):=a.old 1 (by decide);have f_h1:=cell_below b (by simp only;omega) h1;exact ze (by simp[execOp,o0,f_h1,go_sem]) rfl
 case s1 =>
  intro f g W b e d a c;have o0:g (.tmp 2)=.pointer (some ⟨kb,ko,none⟩):=a.old 2 (by decide);have f_h2:=cell_below b (by simp only;omega) h2;exact ze (by simp[execOp,o0,f_h2,go_sem]) rfl
 case s2 =>
  intro f g W b e d a c;have o0:g (.tmp 0)=.int .i64 p:=a.old 0 (by decide);exact ze (by simp[execOp,o0,go_sem]) rfl
 case s3 =>
  intro f g W b e d a c;have d1:g (.tmp 7)=.int .i64 k:=dpv a d 1 7;have d2:g (.tmp 8)=.int .i64 p:=dpv a d 2 8;exact ze (by simp[execOp,d1,d2,hkp,hdw,go_sem]) rfl
 case s4 =>
  intro g h W b f e a c;have d0:h (.tmp 6)=.slice (some ⟨lb,lo,none⟩) n ocap:=dpv a e 0 6;have d3:h (.tmp 9)=.int .i64 d:=dpv a e 3 9;exact ze (by simp[execOp,d0,d3,hdi,go_sem]) rfl
 case s5 =>
  intro g h W b f e a c;have d4:h (.tmp 10)=.pointer (some ⟨lb,lo+d,none⟩):=dpv a e 4 10;have f_x1:=cell_below b (by simp only;omega) x1;exact ze (by simp[execOp,d4,f_x1,go_sem]) rfl
 case s6 =>
  intro f g W b e d a c;have o0:g (.tmp 3)=.pointer (some ⟨cb,co,none⟩):=a.old 3 (by decide);have f_h3:=cell_below b (by simp only;omega) h3;exact ze (by simp[execOp,o0,f_h3,go_sem]) rfl
 case s7 =>
  intro f g W b e d a c;have o0:g (.tmp 0)=.int .i64 p:=a.old 0 (by decide);exact ze (by simp[execOp,o0,go_sem]) rfl
 case s8 =>
  intro h i W b g f a d;have d6:i (.tmp 12)=.slice ca c.length ccap:=dpv a f 6 12;have d7:i (.tmp 13)=.int .i64 p:=dpv a f 7 13;clear f;refine zbx 433 _ _ rfl #[.slice ca c.length ccap,.int .i64 p] (a.func _) (by simp[d6,d7]) (fun args W=>Tryz.call433 args W) ((TL.out W b).mono ?_);rintro e w' ⟨rfl,hb⟩;exact⟨_,rfl,hb,rfl⟩
 case s9 =>
  intro f g W b e d a c;have d5:g (.tmp 11)=.int .i64 y:=dpv a d 5 11;have d8:g (.tmp 14)=.int .i64 m:=dpv a d 8 14;exact ze (by simp[execOp,d5,d8,hw,go_sem]) rfl
 case s10 =>
  intro f g W b e d a c;have d9:g (.tmp 15)=.int .i64 (y+m):=dpv a d 9 15;exact ze (by simp[execOp,d9,go_sem]) rfl
 case send =>
  intro val W2 hE hz hv;obtain⟨-,-,-,-,-,-,-,-,-,-,r10,-⟩:=hv;have q10:val 10=.int .i64 (y+m):=r10;simp only[za9,q10];go_frame;have HE:=hid hE;clear hE hz q10;go_wp2_with fail;refine bodyPost_ret (v:=.int .i64 (y+m)) (by simp[results,Tryz.results435,go_sem]) rfl ⟨by rw[HY.out,HM.out],HE.out⟩
def smTo(out c:List Int)(k:Nat):Nat→Int
 |0=>out.getD k 0+leastF c 0
 |p+1=>min (smTo out c k p) (out.getD (k-(p+1)) 0+leastF c (p+1))
theorem smallest_any(out c:List Int)(k ob oo kb ko cb co:Nat)(sa ca:Option Addr)(ocap ccap:Nat)(w:World)(hc:COk c)(hk:k<out.length)(hol:out.length≤1000000)(hob:∀x∈out,0≤x∧x≤1000000000000000)
  (h1:w.cell? ⟨ob,oo,none⟩=some (.slice sa out.length ocap)) (h2:w.cell? ⟨kb,ko,none⟩=some (.int .i64 k)) (h3:w.cell? ⟨cb,co,none⟩=some (.slice ca c.length ccap))
  (hs:zo w .i64 (.slice sa out.length ocap) out) (ht:zo w .i64 (.slice ca c.length ccap) c) :
  Calls Tryz.prog 434 #[.int .i64 k,.func (.func 435) #[] #[.pointer (some ⟨ob,oo,none⟩),.pointer (some ⟨kb,ko,none⟩),.pointer (some ⟨cb,co,none⟩)]] w fun e W=>e=.returned (.int .i64 (smTo out c k k))∧Ext w W:=by
 have T:=hid (fun(p:Nat) (hp:p≤k) (W:World) (hE:Ext w W)=>zag0 out c k p ob oo kb ko cb co sa ca ocap ccap W hc hp hk hol hob (zh hE h1) (zh hE h2) (zh hE h3) (hs.ext hE) (ht.ext hE));have hk6:k≤1000000:=by omega
 clear hs ht h1 h2 h3 hob hc
 go_enter Tryz.func434,Tryz.ntmps434
 go_wp2_with fail;refine(T.out 0 (by omega) w (Below.refl _ _)).mono ?_
 rintro _ W1 ⟨rfl,hE1⟩;have HE1:=hid hE1;obtain⟨z,hz⟩:∃z,z=smTo out c k 0:=⟨_,rfl⟩
 have hz':out.getD (k-0) 0+leastF c 0=z:=by rw[hz];rfl
 rw[hz'];have HZ:=hid hz;clear hE1 hz hz';go_wp2_with fail
 go_loopw [5,6] (fun x nv W=>∃(n:Nat) (m:Int),1≤n∧n≤k+1∧nv=.int .i64 n∧x=.int .i64 m∧m=smTo out c k (n-1)∧Ext w W) (fun _ nv _=>k+1-(intOf nv).toNat)
 case atStart=>exact⟨1,z,by omega,by omega,rfl,rfl,HZ.out,HE1.out⟩
 case round =>
  obtain⟨n,m,hn1,hnk,rfl,rfl,hm,hE⟩:=hrel;have HM:=hid hm;have HE:=hid hE;clear hm hE
  by_cases hlt:n≤k
  ·have hd:decide ((n:Int)≤(k:Int))=true:=decide_eq_true (by omega)
   go_wp2_with fail;refine(T.out n hlt wr HE.out).mono ?_
   rintro _ W2 ⟨rfl,hE2⟩;have HE2:=hid (HE.out.trans' hE2);obtain⟨y,hy⟩:∃y,y=out.getD (k-n) 0+leastF c n:=⟨_,rfl⟩
   rw[←hy];have HY:=hid hy;clear hE2 hy;go_wp2_with fail;go_roundw
   case rel =>
    refine⟨n+1,min m y,by omega,by omega,by go_num,?_,?_,HE2.out⟩
    ·simp;split<;>omega
    ·obtain⟨j,rfl⟩:∃j,n=j+1:=⟨n-1,by omega⟩
     rw[HM.out,HY.out];rfl
   case measure=>simp[intOf];omega
  ·have hd:decide ((n:Int)≤(k:Int))=false:=decide_eq_false (by omega)
   have hnn:n=k+1:=by omega
   have hmm:m=smTo out c k k:=by rw[HM.out,hnn];rfl
   have HMM:=hid hmm;clear hmm hnn;go_wp2_with fail;refine bodyPost_ret (v:=.int .i64 m) (by simp[results,Tryz.results434,go_sem]) rfl ⟨by rw[HMM.out],HE.out⟩
end Ls
open Go.RowKit
def St.orM(S:St)(m:Nat):St:=⟨S.heap,S.next,Nat.lor S.t m,S.w⟩
theorem zlj(S:St)(m x:Nat):(S.orM m).get x=S.get x:=by rw[St.get_eq,St.get_eq];rfl
theorem z0j(S:St)(m:Nat):Lcl S (S.orM m) :=
 ⟨weq _,fun _ h=>zj.2 (.inl h),fun _ h=>h,fun n o _ h=>⟨o,by rw[←zlj S m];exact h⟩,fun n h1 h2=>absurd h1 (by have:(S.orM m).next=S.next:=rfl;omega),fun n o _ h=>by rw[←zlj S m];exact h,fun h0 n h=>zj.2 (.inl (h0 n h))⟩
theorem zaji{ρ:Rho}{S:St}{T:Nat→Prop}{w w':World}(h:Fit ρ S T w)(hb:Below w.heap.size w w')(m:Nat):Stp ρ S T w ρ (S.orM m) w' where
 old _ _:=rfl
 fit:=⟨fun n o hn ho=>by
   rw[zlj]at ho;obtain⟨L,h1,h2⟩:=h.obj n o hn ho;exact⟨L,h1,by rw[hb.block _ h2.some];exact h2⟩,fun a b o o' L L' ha hb' ho ho'=>h.inj a b o o' L L' ha hb' (by rw[←zlj S m];exact ho) (by rw[←zlj S m];exact ho')⟩
 fresh n _ _ h1 h2:=absurd h1 (by have:(S.orM m).next=S.next:=rfl;omega)
 frame b hb' _:=hb.block b hb'
 size:=hb.size
 lcl:=z0j S m
 rest:=⟨hb.os,hb.tape,hb.output⟩
def z6j:AV→Option Nat:=fun v=>match v with
 |.int .i64 (.ofNat a)=>some a
 |_=>none
def z3n:List AV→Option (List Nat):=@List.rec AV (fun _=>Option (List Nat)) (some []) (fun v _ ih=>bnd (z6j v) fun a=>bnd ih fun l=>some (a::l))
def rowN(S:St)(v:AV):Option (Nat×List Nat):=match v with
 |.sl n off len cap=>zu (Nat.ble cap 1000000000) (bnd (S.get n) fun o=>bnd (zf0 o) fun c=>bnd (seg c off len) fun x=>bnd (z3n x) fun l=>some (n,l)) none
 |_=>none
def zmu(S:St)(o p:Nat):Option AV:=bnd (S.get o) fun x=>bnd (zf0 x) fun c=>nth c p
theorem zwu:∀{x:List AV} {l:List Nat},z3n x=some l→x=l.map fun a=>.int .i64 (.ofNat a)
 |[],l,h=>by cases h;rfl
 |v::x,l,h=>by
  have h:bnd (z6j v) (fun a=>bnd (z3n x) fun l=>some (a::l))=some l:=h;obtain⟨a,h1,h⟩:=zb h;obtain⟨r,h2,h⟩:=zb h;cases h;have e:v=.int .i64 (.ofNat a):=by
   unfold z6j at h1
   split at h1
   ·cases h1;rfl
   ·cases h1
  rw[e,zwu h2];rfl
section
variable{ρ:Rho}{S:St}{T:Nat→Prop}{w:World}
theorem zro(h:Fit ρ S T w){o p:Nat}{a:AV}{V:Value}(hT:T o)(hc:zmu S o p=some a)(hV:RV ρ (.ptr o p) V):∃(L:Loc) (X:Value),ρ o=some L∧V=.pointer (some ⟨L.b,L.s+p,none⟩)∧w.cell? ⟨L.b,L.s+p,none⟩=some X∧RV ρ a X:=by
 obtain⟨x,h1,hc⟩:=zb hc;obtain⟨c,h2,hc⟩:=zb hc;rw[zdg h2]at h1;rw[zcy]at hc;obtain⟨L,hL,e⟩:=hV;obtain⟨L',e1,cs,e',e2,e3,e4,e5⟩:=h.obj o _ hT h1;rw[hL]at e1;cases e1;obtain⟨X,g1,g2⟩:=RC.cell e2 e5 hc;exact⟨L,X,hL,e,g1,g2⟩
theorem z9a(h:Fit ρ S T w){v:AV}{q:Nat×List Nat}{V:Value}(hT:T q.1)(hc:rowN S v=some q)(hV:RV ρ v V):∃sa cap,V=.slice sa (q.2.map Int.ofNat).length cap∧zo w .i64 V (q.2.map Int.ofNat):=by
 unfold rowN at hc
 split at hc
 ·rename_i n off len cap
  obtain⟨hcap,hc⟩:=zi hc;have hcap:cap≤1000000000:=wep hcap;obtain⟨o,h1,hc⟩:=zb hc;obtain⟨c,h2,hc⟩:=zb hc;obtain⟨x,h3,hc⟩:=zb hc;obtain⟨l,h4,hc⟩:=zb hc;cases hc;rw[zdg h2]at h1;obtain⟨k1,k2,k3⟩:=zl2 h3;have k4:=zwu h4;obtain⟨L,o',hL,e,hle,hoff⟩:=hV;have hlen:l.length=len:=by rw[←k2,k4];simp
  have hl2:(l.map Int.ofNat).length=len:=by simpa using hlen
  refine⟨some ⟨L.b,o',none⟩,cap,by rw[e,hl2],?_⟩;obtain⟨L',e1,cs,e',e2,e3,e4,e5⟩:=h.obj n _ hT h1;rw[hL]at e1;cases e1;have:=zo.mk (w:=w) (k:=.i64) (l:=l.map Int.ofNat) (b:=L.b) (off:=o') (cap:=cap) (by omega) (by omega) fun i hi=>by
   have hi2:i<len:=by omega
   have hil:i<l.length:=by omega
   have hx:x[i]?=some (.int .i64 (.ofNat l[i])):=by rw[k4,wcq,wcn hil];rfl
   rw[k1,wct,if_pos hi2,wcm]at hx;obtain⟨X,g1,g2⟩:=RC.cell e2 e5 hx;have ho:o'=L.s+off:=by rcases hoff with q|q;omega;exact q
   have g2:X=.int .i64 (.ofNat l[i]):=g2;rw[show o'+i=L.s+(off+i) by omega,g1,g2];simp
  rw[hl2]at this;rw[e];exact this
 ·cases hc
end
def zmb(cz:List Nat)(n la p:Nat):Nat:=Nat.add (Nat.mul (Nat.div p n) la) ((nth cz (Nat.mod p n)).getD 0)
def minN(a b:Nat):Nat:=zu (Nat.ble a b) a b
def smN(cz:List Nat)(n la:Nat):List Nat→Nat→Nat→Nat:=@List.rec Nat (fun _=>Nat→Nat→Nat) (fun _ acc=>acc) (fun x _ ih p acc=>fcN (minN acc (Nat.add x (zmb cz n la p))) fun acc=>ih (Nat.succ p) acc)
def smK(out c:List Nat)(k:Nat):Nat:=smN (0::c) c.length ((nth c (c.length-1)).getD 0) (out.take k).reverse 1 (Nat.add ((nth out k).getD 0) (zmb (0::c) c.length ((nth c (c.length-1)).getD 0) 0))
theorem z1x {c:List Nat}(hn:0<c.length)(p:Nat):(zmb (0::c) c.length ((nth c (c.length-1)).getD 0) p:Int)=Ls.leastF (c.map Int.ofNat) p:=by
 unfold zmb Ls.leastF;rw[zcy,zcy];have e1:(c.map Int.ofNat).length=c.length:=by simp
 have e2:∀i,(c.map Int.ofNat).getD i 0=((c[i]?).getD 0:Nat):=fun i=>by
  rw[wch,wcq];cases c[i]?<;>rfl
 have hm:Nat.mod p c.length=p%c.length:=rfl;have hd:Nat.div p c.length=p / c.length:=rfl;rw[e1,e2,e2,hm,hd];show((p / c.length*(c[c.length-1]?).getD 0+((0::c)[p%c.length]?).getD 0:Nat):Int)=_;rw[wbc,wbd]
 congr 1
 by_cases h:0<p%c.length
 ·rw[if_pos h]
  obtain⟨j,hj⟩:∃j,p%c.length=j+1:=⟨p%c.length-1,by omega⟩
  rw[hj];simp
 ·rw[if_neg h,show p%c.length=0 by omega];rfl
theorem zajj(a b:Nat):(minN a b:Int)=min (a:Int) (b:Int):=by
 unfold minN;rw[zar]
 split
 ·rename_i h;have:=wep h;omega
 ·rename_i h
  have:¬a≤b:=fun h2=>h (Nat.ble_eq_true_of_le h2)
  omega
theorem zakv{out c:List Nat}(hn:0<c.length){k:Nat}(hk:k<out.length):(smK out c k:Int)=Ls.smTo (out.map Int.ofNat) (c.map Int.ofNat) k k:=by
 have eo:∀i,i<out.length→(out.map Int.ofNat).getD i 0=((out[i]?).getD 0:Nat):=fun i hi=>by
  rw[wch,wcq];cases out[i]?<;>rfl
 have key:∀(m j acc:Nat),j+m=k→(acc:Int)=Ls.smTo (out.map Int.ofNat) (c.map Int.ofNat) k j→(smN (0::c) c.length ((nth c (c.length-1)).getD 0) (out.take m).reverse (j+1) acc:Int)=Ls.smTo (out.map Int.ofNat) (c.map Int.ofNat) k k:=by
  intro m
  induction m with
  |zero =>
   intro j acc hj ha;have:j=k:=by omega
   subst this;exact ha
  |succ m ih =>
   intro j acc hj ha;have hm:m<out.length:=by omega
   rw[List.take_succ_eq_append_getElem hm,List.reverse_append];show((fcN (minN acc (Nat.add out[m] (zmb (0::c) c.length ((nth c (c.length-1)).getD 0) (j+1)))) fun acc=>smN (0::c) c.length ((nth c (c.length-1)).getD 0) (out.take m).reverse (Nat.succ (j+1)) acc:Nat):Int)=_;rw[zba];refine ih (j+1) _ (by omega) ?_
   rw[zajj,ha];show min _ ((out[m]+zmb _ _ _ (j+1):Nat):Int)=_;rw[wbc,z1x hn];show _=min _ ((out.map Int.ofNat).getD (k-(j+1)) 0+_);rw[show k-(j+1)=m by omega,eo m hm,wcn hm];rfl
 unfold smK;refine key k 0 _ (by omega) ?_
 show((((nth out k).getD 0)+zmb _ _ _ 0:Nat):Int)=(out.map Int.ofNat).getD k 0+_;rw[wbc,z1x hn,zcy,eo k hk]
def sumL:List AV→St→Option Res:=fun args S=>match args with
 |[.int .i64 (.ofNat k),.fn f [] [.ptr o1 p1,.ptr o2 p2,.ptr o3 p3]]=>zu (Nat.beq f 435)
   (bnd (zmu S o1 p1) fun v1=>bnd (zmu S o2 p2) fun v2=>bnd (zmu S o3 p3) fun v3=>bnd (rowN S v1) fun out=>bnd (rowN S v3) fun c=>bnd (z6j v2) fun k2 =>
    zu (Nat.beq k k2&&Nat.blt k out.2.length&&Nat.ble out.2.length 1000000&&Nat.blt 0 c.2.length&&Nat.ble c.2.length 1000&&zd6 (fun x=>Nat.ble x 1000000000000000) out.2&&zd6 (fun x=>Nat.ble x 1000000) c.2)
     (fcN (smK out.2 c.2 k) fun r=>some ⟨.normal,⟨.leaf,0⟩,[],.int .i64 (.ofNat r),S.orM (Nat.lor (Nat.lor (zaa o1) (Nat.lor (zaa o2) (zaa o3))) (Nat.lor (zaa out.1) (zaa c.1)))⟩) none) none
 |_=>none
theorem zajk{E:Env}{args:List AV}{S:St}{r:Res}(h:sumL args S=some r):Lcl S r.st∧zeo Tryz.prog E S r (.call 434 args):=by
 unfold sumL at h
 split at h
 ·rename_i k f o1 p1 o2 p2 o3 p3
  obtain⟨hf,h⟩:=zi h;have hf:=wem hf;subst hf;obtain⟨v1,c1,h⟩:=zb h;obtain⟨v2,c2,h⟩:=zb h;obtain⟨v3,c3,h⟩:=zb h;obtain⟨out,r1,h⟩:=zb h;obtain⟨c,r3,h⟩:=zb h;obtain⟨k2,hk2,h⟩:=zb h;obtain⟨hc,h⟩:=zi h;rw[zba]at h;cases h;simp only[waw]at hc;obtain⟨⟨⟨⟨⟨⟨q1,q2⟩,q3⟩,q4⟩,q5⟩,q6⟩,q7⟩:=hc;have q1:=wem q1;subst q1;have q2:k<out.2.length:=wep q2;have q3:out.2.length≤1000000:=wep q3;have q4:0<c.2.length:=wep q4;have q5:c.2.length≤1000:=wep q5;have ek:v2=.int .i64 (.ofNat k):=by
   unfold z6j at hk2
   split at hk2
   ·cases hk2;rfl
   ·cases hk2
  subst ek;refine⟨z0j _ _,⟨_,_,Tryz.func434,rfl⟩,fun T ρ w vs hfit hT hfr hvs=>?_⟩;have bT:∀n,bit (Nat.lor (Nat.lor (zaa o1) (Nat.lor (zaa o2) (zaa o3))) (Nat.lor (zaa out.1) (zaa c.1))) n→T n:=fun n hn=>hT n (zj.2 (.inr hn))
  have t1:T o1:=bT _ (zj.2 (.inl (zj.2 (.inl (zz.2 rfl)))));have t2:T o2:=bT _ (zj.2 (.inl (zj.2 (.inr (zj.2 (.inl (zz.2 rfl)))))));have t3:T o3:=bT _ (zj.2 (.inl (zj.2 (.inr (zj.2 (.inr (zz.2 rfl)))))));have t4:T out.1:=bT _ (zj.2 (.inr (zj.2 (.inl (zz.2 rfl)))));have t5:T c.1:=bT _ (zj.2 (.inr (zj.2 (.inr (zz.2 rfl)))));obtain ⟨V1,l1,e1,g1,V2,l2,e2,g2,e3⟩:=hvs;subst e3;have g1:V1 = .int .i64 (.ofNat k):=g1;obtain ⟨us,bs,g2,ga,gb⟩:=g2;have ga:us.toList=[]:=ga;obtain ⟨B1,m1,f1,b1,B2,m2,f2,b2,B3,m3,f3,b3,f4⟩:=gb;subst f4;obtain ⟨L1,X1,y1,y2,y3,y4⟩:=zro hfit t1 c1 b1;obtain ⟨L2,X2,z1,z2,z3,z4⟩:=zro hfit t2 c2 b2;obtain ⟨L3,X3,x1,x2,x3,x4⟩:=zro hfit t3 c3 b3;have z4:X2 = .int .i64 (.ofNat k):=z4;obtain ⟨sa,ocap,u1,u2⟩:=z9a hfit t4 r1 y4;obtain ⟨ca,ccap,u3,u4⟩:=z9a hfit t5 r3 x4;have key:=Ls.smallest_any (out.2.map Int.ofNat) (c.2.map Int.ofNat) k L1.b (L1.s+p1) L2.b (L2.s+p2) L3.b (L3.s+p3) sa ca ocap ccap w ⟨by simpa using q4,by simpa using q5,fun x hx=>by
    obtain ⟨y,hy,rfl⟩:=wdv.1 hx;have:=wep (zjv q7 y hy);simp only [wbe];omega⟩ (by simpa using q2) (by simpa using q3) (fun x hx=>by
    obtain⟨y,hy,rfl⟩:=wdv.1 hx;have:=wep (zjv q6 y hy);simp only[wbe];omega) (by rw[y3,u1]) (by rw[z3,z4];rfl) (by rw[x3,u3]) (by rw[←u1];exact u2) (by rw[←u3];exact u4)
  have ev:vs=#[.int .i64 k,.func (.func 435) #[] #[.pointer (some ⟨L1.b,L1.s+p1,none⟩),.pointer (some ⟨L2.b,L2.s+p2,none⟩),.pointer (some ⟨L3.b,L3.s+p3,none⟩)]]:=by
   apply wao.1;rw[e1,e2,g1,g2];have hb:bs=#[.pointer (some ⟨L1.b,L1.s+p1,none⟩),.pointer (some ⟨L2.b,L2.s+p2,none⟩),.pointer (some ⟨L3.b,L3.s+p3,none⟩)]:=by
    apply wao.1;rw[f1,f2,f3,y2,z2,x2]
   have ha:us=#[]:=wao.1 ga;rw[hb,ha];rfl
  rw[ev];refine key.mono ?_
  rintro e w' ⟨rfl,hE⟩;refine⟨_,ρ,rfl,zaji hfit hE _,?_⟩;show Value.int .i64 _=.int .i64 _;rw[←zakv q4 q2];rfl
 ·cases h
end Go.Proofs.YtdcnbeehckgpcaaGreat
end
