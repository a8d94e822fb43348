/-
  The reference of the heats: words and what they say.
-/
import Derived.Test.YtdamgacabfbpjaaGreatHb
import Derived.Test.YtdamgacabfbpjaaGreatBa
import Derived.Test.YtdamgacabfbpjaaGreatBb
import Derived.Laws.EntriesVeiled
import Derived.Test.YtdamgacabfbpjaaGreatPe
import Derived.Test.YtdamgacabfbpjaaGreatPc
set_option maxRecDepth 200000
set_option maxHeartbeats 0
set_option linter.unusedSimpArgs false
set_option linter.unusedVariables false
namespace Go.Proofs.YtdamgacabfbpjaaGreat
open Go.Lib (hid)
open Go.RowKit Go.Shelf
theorem zagc (n a b k:Int):zem n (a,b,k)=(decide (0≤a) && (decide (a < n) && (decide (0≤b) && (decide (b < n) && (decide (a≠b) && (decide (0≤k) && decide (k≤2))))))):=by
 unfold zem;rw [Bool.eq_iff_iff];simp only [Bool.and_eq_true,decide_eq_true_eq]
 constructor
 ·rintro ⟨⟨h1,h2,h3⟩,h4⟩;exact ⟨h2.1,h2.2,h3.1,h3.2,h1,h4.1,h4.2⟩
 ·rintro ⟨h1,h2,h3,h4,h5,h6,h7⟩;exact ⟨⟨h5,⟨h1,h2⟩,h3,h4⟩,h6,h7⟩
theorem z47 (h:Rc) (sa:Option Addr) (cap:Nat) (x:Wd) (w:World) :
  Calls Tryz.prog 47 #[.agg #[.int .i64 h.n,.slice sa h.ws.length cap],.agg #[.int .i64 x.1,.int .i64 x.2.1,.int .i64 x.2.2]] w fun e w'=>e = .returned (.bool (zem h.n x))∧Ext w w':=by
 obtain ⟨a,b,k⟩:=x;simp only;have HO:=hid (zagc h.n a b k)
 go_enter Tryz.func47,Tryz.ntmps47
 go_wp2_with fail
 all_goals
  go_ret;refine ⟨zaa ?_,by exact xx⟩;rw [HO.out]
  first
   | (simp [*];done)
   | (simp [*];omega)
theorem zabe (f:List Int) (v:Value) (x:Wd) (w:World) (hv:zt w .i64 v f) (hx:OkW f.length x) :
  Calls Tryz.prog 63 #[.agg #[.int .i64 x.1,.int .i64 x.2.1,.int .i64 x.2.2],v] w fun e w'=>e = .returned (.bool (zfr f x))∧Ext w w':=by
 obtain ⟨va,cap,rfl,h1,h2,hc⟩:=hv.spec;have ha0:=hx.a0;have ha1:=hx.a1;have hb0:=hx.b0;have hb1:=hx.b1;have hk0:=hx.k0;have hk1:=hx.k1
 rcases hc with hc | ⟨b,off,rfl,hc⟩
 ·rw [hc] at ha1;simp at ha1;omega
 obtain ⟨i,hi⟩:∃ i:Nat,x.1=i:=⟨x.1.toNat,by omega⟩
 obtain ⟨j,hj⟩:∃ j:Nat,x.2.1=j:=⟨x.2.1.toNat,by omega⟩
 have hil:i < f.length:=by omega
 have hjl:j < f.length:=by omega
 have ci:=hc i hil;have cj:=hc j hjl;have hz:=World.block_lt_of_cell? _ _ ci;simp only at hz;obtain ⟨p,hp⟩:∃ p,p=f[i]:=⟨_,rfl⟩
 obtain ⟨q,hq⟩:∃ q,q=f[j]:=⟨_,rfl⟩
 have e1:pl f x.1.toNat=p:=by rw [hi,hp];unfold pl;rw [List.getD_eq_getElem?_getD,Int.toNat_natCast,List.getElem?_eq_getElem hil];rfl
 have e2:pl f x.2.1.toNat=q:=by rw [hj,hq];unfold pl;rw [List.getD_eq_getElem?_getD,Int.toNat_natCast,List.getElem?_eq_getElem hjl];rfl
 have HS:Hid (zfr f x=if x.2.2=0 then decide (p < q) else if x.2.2=1 then decide (p=q) else decide (p≤q)):=hid (by unfold zfr;rw [e1,e2]);rw [← hp] at ci;rw [← hq] at cj;rw [hi,hj];obtain ⟨k,hk⟩:∃ k,k=x.2.2:=⟨_,rfl⟩
 rw [← hk] at HS hk0 hk1 ⊢;clear hp hq e1 e2 hx hc hv hi hj hk ha0 ha1 hb0 hb1;have hii:(i:Int) < (f.length:Int):=by omega
 have hjj:(j:Int) < (f.length:Int):=by omega
 go_enter Tryz.func63,Tryz.ntmps63
 go_upto_region 1 with (fail);obtain ⟨W0,hW0⟩:∃ W0,W0=w.alloc (.cells #[.int .i64 i,.int .i64 j,.int .i64 k] 48):=⟨_,rfl⟩
 have hE:Ext w W0:=by rw [hW0];exact xx
 have k0:W0.cell? ⟨w.heap.size,0,none⟩=some (.int .i64 i):=by rw [hW0];simp [go_sem]
 have k1:W0.cell? ⟨w.heap.size,1,none⟩=some (.int .i64 j):=by rw [hW0];simp [go_sem]
 have k2:W0.cell? ⟨w.heap.size,2,none⟩=some (.int .i64 k):=by rw [hW0];simp [go_sem]
 have hzb:w.heap.size < W0.heap.size:=World.block_lt_of_cell? _ _ k0;replace ci:=zd hE ci;replace cj:=zd hE cj;replace hz:=World.block_lt_of_cell? _ _ ci;simp only at hz;have HW:=hid hE;rw [← hW0];clear hW0 hE
 go_quiet (fail)
 go_wp2_with fail
 all_goals
  go_ret;refine ⟨zaa ?_,HW.out.drN _⟩;rw [HS.out];clear HS HW k0 k1 k2 ci cj hz hzb
  first
   | (simp_all;done)
   | (simp_all;omega)
   | (rename_i e1 e2
      subst e1
      by_cases a0:k=0
      ·simp [a0]
      ·by_cases a1:k=1<;>simp [a0,a1])
theorem zadu (ws:List Wd) (f:List Int) {i:Nat} (hi:i < ws.length):zck (ws.take (i+1)) f=(zck (ws.take i) f && zfr f ws[i]):=by
 unfold zck;rw [List.take_add_one,List.getElem?_eq_getElem hi,List.all_append];simp
theorem z48 (h:Rc) (sa:Option Addr) (cap:Nat) (f:List Int) (v:Value) (w:World) (hw:zcc w (.slice sa h.ws.length cap) h.ws) (hv:zt w .i64 v f) (hok:∀ x∈h.ws,OkW f.length x) :
  Calls Tryz.prog 31 #[.agg #[.int .i64 h.n,.slice sa h.ws.length cap],v] w fun e w'=>e = .returned (.bool (zck h.ws f))∧Ext w w':=by
 obtain ⟨va,vc,rfl,-,-,-⟩:=hv.spec;obtain ⟨g1,g2⟩:=hw.caps;have HWD:=hid hw;have HV:=hid hv;have HOK:=hid hok;clear hw hv hok
 go_enter Tryz.func31,Tryz.ntmps31
 go_upto_region 1 with (fail);obtain ⟨W0,hW0⟩:∃ W0,W0=w.alloc (.cells #[.int .i64 h.n,.slice sa h.ws.length cap] 24):=⟨_,rfl⟩
 have hE:Ext w W0:=by rw [hW0];exact xx
 have k1:W0.cell? ⟨w.heap.size,1,none⟩=some (.slice sa h.ws.length cap):=by rw [hW0];simp [go_sem]
 have HW:=hid hE;rw [← hW0];clear hW0 hE;go_wp2_with fail
 go_loopw [5] (fun iv W=>∃ k:Nat,k≤h.ws.length∧iv = .int .i64 k∧zck (h.ws.take k) f=true∧Ext W0 W) (fun iv _=>h.ws.length - (intOf iv).toNat)
 case atStart=>exact ⟨0,by omega,rfl,by simp [zck],by exact xx⟩
 case round =>
  obtain ⟨k,hk,rfl,hno,hE⟩:=hrel;have c1:=zd hE k1;have hz1:=World.block_lt_of_cell? _ _ c1;simp only at hz1;have HE:=hid hE;have HNO:=hid hno
  by_cases hlt:k < h.ws.length
  ·have hki:(k:Int) < (h.ws.length:Int):=by omega
   have hat:=(HWD.out.ext (HW.out.trans' hE)).at
   rcases hat with hc | ⟨b,off,rfl,hc⟩
   ·rw [hc] at hlt;simp at hlt
   obtain ⟨ca,cb,cc⟩:=hc k hlt;have hzb:=World.block_lt_of_cell? _ _ ca;simp only at hzb;have HS:=hid (zadu h.ws f hlt);have hox:=HOK.out _ (List.getElem_mem hlt);obtain ⟨y,hy⟩:∃ y,y=h.ws[k]:=⟨_,rfl⟩
   rw [← hy] at ca cb cc HS hox;have HSY:=hid (zabe f _ y wr (HV.out.ext (HW.out.trans' hE)) hox);have HLT:=hid hlt;have HFull:Hid (zfr f y=false→zck h.ws f=false):=hid fun e=>by
    unfold zck;rw [List.all_eq_false];exact ⟨y,by rw [hy];exact List.getElem_mem hlt,by simp [e]⟩
   clear hc hy hno hE hox hlt;go_wp2_with fail;refine HSY.out.mono ?_
   rintro e W3 ⟨rfl,hE3⟩;have HE3:=hid (HE.out.trans' hE3);clear hE3 HSY ca cb cc;cases hs:zfr f y
   ·have HF:=hid (HFull.out hs)
    clear hs;go_wp2_with fail;go_ret;exact ⟨by rw [HF.out];rfl,HW.out.trans' HE3.out⟩
   ·rw [hs] at HS
    clear hs;go_wp2_with fail;go_roundw
    case rel=>exact ⟨k+1,by have:=HLT.out;omega,by go_num,by rw [HS.out,HNO.out];rfl,HE3.out⟩
    case measure=>simp [intOf];have:=HLT.out;omega
  ·have hki:¬ ((k:Int) < (h.ws.length:Int)):=by omega
   have hke:k=h.ws.length:=by omega
   have HF:Hid (zck h.ws f=true):=hid (by rw [hke,List.take_length] at hno;exact hno);clear hke hno hE;go_wp2_with fail;go_ret;exact ⟨by rw [HF.out];rfl,HW.out.trans' HE.out⟩
end Go.Proofs.YtdamgacabfbpjaaGreat
namespace Go.Proofs.YtdamgacabfbpjaaGreat
open Go.Lib (hid)
open Go.RowKit Go.Shelf
attribute [local go_sem] Oper.semAt_some
theorem zxb {f:List Int} {i:Nat} (h:i < f.length):pl f i=f[i]:=by
 unfold pl;rw [List.getD_eq_getElem?_getD,List.getElem?_eq_getElem h];rfl
theorem zadv {f:List Int} (h:∀ i,i < f.length→pl f i=1+(below f (pl f i) f.length:Int)):zba f.length f=true:=by
 unfold zba;rw [decide_eq_true_eq];refine z3z rfl (zjh _ _) fun i hi=>?_
 rw [zyk f hi,← h i hi]
theorem zabf {f:List Int} {i:Nat} (hi:i < f.length) (h:pl f i≠1+(below f (pl f i) f.length:Int)):zba f.length f=false:=by
 cases e:zba f.length f
 ·rfl
 ·exact absurd (zu6 e hi) h
theorem z8v (f:List Int) (v:Value) (w:World) (hv:zt w .i64 v f) (hl:f.length≤1000) :
  Calls Tryz.prog 30 #[v] w fun e w'=>e = .returned (.bool (zba f.length f))∧Ext w w':=by
 obtain ⟨va,vc,rfl,h1,h2,hc⟩:=hv.spec;have HC:=hid hc;clear hc hv
 go_enter Tryz.func30,Tryz.ntmps30
 go_wp2_with fail
 go_loopw [3] (fun iv W=>∃ k:Nat,k≤f.length∧iv = .int .i64 k∧(∀ i,i < k→pl f i=1+(below f (pl f i) f.length:Int))∧Ext w W) (fun iv _=>f.length - (intOf iv).toNat)
 case atStart=>exact ⟨0,by omega,rfl,fun i hi=>by omega,by exact xx⟩
 case round =>
  obtain ⟨i,hi,rfl,hno,hE⟩:=hrel;have HE:=hid hE;have HNO:=hid hno
  by_cases hlt:i < f.length
  ·have hki:(i:Int) < (f.length:Int):=by omega
   obtain ⟨x,hx⟩:∃ x,x=pl f i:=⟨_,rfl⟩
   have HX:=hid hx;have HLT:=hid hlt;clear hno hE hx;go_wp2_with fail
   go_loopw [4,5] (fun pv kv W=>∃ k:Nat,k≤f.length∧kv = .int .i64 k∧pv = .int .i64 (1+(below f x k:Int))∧Ext w W) (fun _ kv _=>f.length - (intOf kv).toNat)
   case atStart=>exact ⟨0,by omega,rfl,by simp [below],HE.out⟩
   case round =>
    obtain ⟨k,hk,rfl,rfl,hE2⟩:=hrel;have HE2:=hid hE2
    by_cases hltk:k < f.length
    ·have hkk:(k:Int) < (f.length:Int):=by omega
     rcases HC.out with hc | ⟨b,off,rfl,hc⟩
     ·rw [hc] at hltk;simp at hltk
     have ck:=zd hE2 (hc k hltk);have ci:=zd hE2 (hc i hlt);rw [← zxb hlt,← HX.out] at ci;rw [← zxb hltk] at ck;have hzk:=World.block_lt_of_cell? _ _ ck;simp only at hzk;obtain ⟨y,hy⟩:∃ y,y=pl f k:=⟨_,rfl⟩
     rw [← hy] at ck;have HS:=hid (zqn f x k);rw [← hy] at HS;have hbl:=below_le f x k;obtain ⟨c,hcc⟩:∃ c,c=below f x k:=⟨_,rfl⟩
     rw [← hcc] at HS hbl ⊢;have hwr:IntKind.i64.wrap (1+(c:Int)+1)=1+(c:Int)+1:=IntWalk.i64_in _ (by omega);clear hc hy hE2 hcc
     by_cases hyx:y < x
     ·go_wp2_with fail
      go_quiet (fail)
      go_wp2_with fail;go_roundw
      case rel =>
       refine ⟨k+1,by omega,by go_num,?_,HE2.out.drN _⟩;rw [HS.out,if_pos hyx,show (1+((c+1:Nat):Int))=1+(c:Int)+1 by omega]
      case measure=>simp [intOf];omega
     ·go_wp2_with fail
      go_quiet (fail)
      go_wp2_with fail;go_roundw
      case rel =>
       refine ⟨k+1,by omega,by go_num,?_,HE2.out.drN _⟩;rw [HS.out,if_neg (by omega),Nat.add_zero]
      case measure=>simp [intOf];omega
    ·have hkk:¬ ((k:Int) < (f.length:Int)):=by omega
     have hke:k=f.length:=by omega
     rcases HC.out with hc | ⟨b,off,rfl,hc⟩
     ·rw [hc] at hlt;simp at hlt
     have ci:=zd hE2 (hc i hlt);rw [← zxb hlt,← HX.out] at ci;have hzk:=World.block_lt_of_cell? _ _ ci;simp only at hzk;have HB:Hid (below f x k=below f (pl f i) f.length):=hid (by rw [hke,HX.out]);obtain ⟨c,hcc⟩:∃ c,c=below f x k:=⟨_,rfl⟩
     rw [← hcc] at HB ⊢;clear hc hE2 hke hcc
     by_cases hxe:x=1+(c:Int)
     ·have hxi:(x != 1+(c:Int))=false:=by simpa using hxe
      have HXE:=hid hxe;clear hxe;go_wp2_with fail;go_roundw
      case rel =>
       refine ⟨i+1,by have:=HLT.out;omega,by go_num,fun j hj=>?_,HE2.out⟩
       by_cases e:j=i
       ·subst e
        rw [← HB.out,← HX.out];exact HXE.out
       ·exact HNO.out j (by omega)
      case measure=>simp [intOf];have:=HLT.out;omega
     ·have hxi:(x != 1+(c:Int))=true:=by simpa using hxe
      have HF:Hid (zba f.length f=false):=hid (zabf HLT.out (by rw [← HB.out,← HX.out];exact hxe));clear hxe;go_wp2_with fail;go_ret;exact ⟨by rw [HF.out];rfl,HE2.out⟩
  ·have hki:¬ ((i:Int) < (f.length:Int)):=by omega
   have hke:i=f.length:=by omega
   have HF:Hid (zba f.length f=true):=hid (zadv fun j hj=>hno j (by omega));clear hke hno hE;go_wp2_with fail;go_ret;exact ⟨by rw [HF.out];rfl,HE.out⟩
theorem zqu (h:Rc) (sa:Option Addr) (cap:Nat) (w:World) (hw:zcc w (.slice sa h.ws.length cap) h.ws) :
  Calls Tryz.prog 22 #[.agg #[.int .i64 h.n,.slice sa h.ws.length cap]] w fun e w'=>e = .returned (.int .i64 (zap h))∧Ext w w':=by
 obtain ⟨g1,g2⟩:=hw.caps;have HWD:=hid hw;clear hw
 go_enter Tryz.func22,Tryz.ntmps22
 go_upto_region 1 with (fail);obtain ⟨W0,hW0⟩:∃ W0,W0=w.alloc (.cells #[.int .i64 h.n,.slice sa h.ws.length cap] 24):=⟨_,rfl⟩
 have hE:Ext w W0:=by rw [hW0];exact xx
 have k0:W0.cell? ⟨w.heap.size,0,none⟩=some (.int .i64 h.n):=by rw [hW0];simp [go_sem]
 have k1:W0.cell? ⟨w.heap.size,1,none⟩=some (.slice sa h.ws.length cap):=by rw [hW0];simp [go_sem]
 have hz:=World.block_lt_of_cell? _ _ k0;simp only at hz;have HW:=hid hE;rw [← hW0];clear hW0 hE
 by_cases hr:h.n < 2∨5 < h.n
 ·have HR:=hid hr
  have HH:Hid (zap h=3):=hid (by unfold zap;rw [if_pos hr]);go_wp2_with fail
  all_goals
   first
    | (exfalso;omega)
    | (go_ret
       exact ⟨by rw [HH.out];rfl,HW.out⟩)
 have hn1:2≤h.n:=by omega
 have hn2:h.n≤5:=by omega
 have HR:=hid hr;clear hr
 by_cases hl:12 < h.ws.length
 ·have hli:decide ((12:Int) < (h.ws.length:Int))=true:=by rw [decide_eq_true_eq];omega
  have HH:Hid (zap h=6):=hid (by unfold zap;rw [if_neg HR.out,if_pos hl]);clear hl;go_wp2_with fail
  all_goals
   first
    | (exfalso;omega)
    | (go_ret
       exact ⟨by rw [HH.out];rfl,HW.out⟩)
 have hli:decide ((12:Int) < (h.ws.length:Int))=false:=by rw [decide_eq_false_iff_not];omega
 have HL:=hid hl;clear hl;have hd1:decide (h.n < 2)=false:=by rw [decide_eq_false_iff_not];omega
 have hd2:decide (5 < h.n)=false:=by rw [decide_eq_false_iff_not];omega
 go_wp2_with fail
 go_loopw [3] (fun iv W=>∃ k:Nat,k≤h.ws.length∧iv = .int .i64 k∧(h.ws.take k).any (fun w=>!zem h.n w)=false∧Ext W0 W) (fun iv _=>h.ws.length - (intOf iv).toNat)
 case atStart=>exact ⟨0,by omega,rfl,by simp,by exact xx⟩
 case round =>
  obtain ⟨k,hk,rfl,hno,hE⟩:=hrel;have c0:=zd hE k0;have c1:=zd hE k1;have hz1:=World.block_lt_of_cell? _ _ c1;simp only at hz1;have HE:=hid hE;have HNO:=hid hno
  by_cases hlt:k < h.ws.length
  ·have hki:(k:Int) < (h.ws.length:Int):=by omega
   have hat:=(HWD.out.ext (HW.out.trans' hE)).at
   rcases hat with hc | ⟨b,off,rfl,hc⟩
   ·rw [hc] at hlt;simp at hlt
   obtain ⟨ca,cb,cc⟩:=hc k hlt;have hzb:=World.block_lt_of_cell? _ _ ca;simp only at hzb;obtain ⟨y,hy⟩:∃ y,y=h.ws[k]:=⟨_,rfl⟩
   have HS:Hid ((h.ws.take (k+1)).any (fun w=>!zem h.n w)=((h.ws.take k).any (fun w=>!zem h.n w) || !zem h.n y)):=hid (by
    rw [List.take_add_one,List.getElem?_eq_getElem hlt,List.any_append,← hy];simp)
   rw [← hy] at ca cb cc;have HFull:Hid (zem h.n y=false→zap h=2):=hid fun e=>by
    unfold zap;rw [if_neg HR.out,if_neg HL.out,if_pos];rw [List.any_eq_true];exact ⟨y,by rw [hy];exact List.getElem_mem hlt,by simp [e]⟩
   have HIW:=hid (fun W=>z47 h (some ⟨b,off,none⟩) cap y W);have HLT:=hid hlt;obtain ⟨o,ho⟩:∃ o,o=zem h.n y:=⟨_,rfl⟩
   rw [← ho] at HS HFull HIW;clear hc hy hno hE hlt ho k0 k1 hd1 hd2;go_upto_region 8 with (fail);refine zdp (wr.heap.size) (Nat.le_refl _)
    [sqV (.agg #[.int .i64 h.n,.slice (some ⟨b,off,none⟩) h.ws.length cap]),sqV (.pointer (some ⟨w.heap.size,1,none⟩)),sqV (.slice (some ⟨b,off,none⟩) h.ws.length cap),sqV (.int .i64 k),sqV (.pointer (some ⟨b,off+k * 3,none⟩)),sqV (.agg #[.int .i64 y.1,.int .i64 y.2.1,.int .i64 y.2.2]),sqV (.bool o),sqV (.bool (!o))]
    [true,true,true,true,true,true,true,true] [false,false,false,false,false,false,false,false] [true,true,true,true,true,true,true,true] [true,true,true,true,true,true,true,true]
    (by kernel_rfl) (by kernel_rfl) (by decide +kernel) (by decide +kernel) (by decide +kernel) rfl ⟨rfl,rfl⟩ ⟨?s0,?s1,?s2,?s3,?s4,?s5,?s6,?s7,trivial⟩ [some 23,some 24,some 25,some 26,some 27,some 28,some 29,some 30] rfl rfl ?send
   case s0 =>
    intro val ρ W hE hz hd hA hx;have o0:ρ (.tmp 1) = .pointer (some ⟨w.heap.size,0,none⟩):=hA.old 1 (by decide);have f_c0:=cell_below hE (by simp only;omega) c0;have f_c1:=cell_below hE (by simp only;omega) c1;clear hd;exact ze (W':=W) (by simp [execOp,o0,f_c0,f_c1,go_sem]) (Below.refl _ _) rfl
   case s1 =>
    intro val ρ W hE hz hd hA hx;have o0:ρ (.tmp 1) = .pointer (some ⟨w.heap.size,0,none⟩):=hA.old 1 (by decide);clear hd;exact ze (W':=W) (by simp [execOp,o0,go_sem]) (Below.refl _ _) rfl
   case s2 =>
    intro val ρ W hE hz hd hA hx;have d1:ρ (.tmp 24) = .pointer (some ⟨w.heap.size,1,none⟩):=(hA.dep 1 (by decide) 24 rfl).trans (hd 1 (by decide));have f_c1:=cell_below hE (by simp only;omega) c1;clear hd;exact ze (W':=W) (by simp [execOp,d1,f_c1,go_sem]) (Below.refl _ _) rfl
   case s3 =>
    intro val ρ W hE hz hd hA hx;have o0:ρ (.tmp 3) = .int .i64 k:=hA.old 3 (by decide);clear hd;exact ze (W':=W) (by simp [execOp,o0,go_sem]) (Below.refl _ _) rfl
   case s4 =>
    intro val ρ W hE hz hd hA hx;have d2:ρ (.tmp 25) = .slice (some ⟨b,off,none⟩) h.ws.length cap:=(hA.dep 2 (by decide) 25 rfl).trans (hd 2 (by decide));have d3:ρ (.tmp 26) = .int .i64 k:=(hA.dep 3 (by decide) 26 rfl).trans (hd 3 (by decide));clear hd;exact ze (W':=W) (by simp [execOp,d2,d3,hki,go_sem]) (Below.refl _ _) rfl
   case s5 =>
    intro val ρ W hE hz hd hA hx;have d4:ρ (.tmp 27) = .pointer (some ⟨b,off+k * 3,none⟩):=(hA.dep 4 (by decide) 27 rfl).trans (hd 4 (by decide));have f_ca:=cell_below hE (by simp only;omega) ca;have f_cb:=cell_below hE (by simp only;omega) cb;have f_cc:=cell_below hE (by simp only;omega) cc;clear hd;exact ze (W':=W) (by simp [execOp,d4,f_ca,f_cb,f_cc,go_sem]) (Below.refl _ _) rfl
   case s6 =>
    intro val ρ W hE hz hd hA hx;have d0:ρ (.tmp 23) = .agg #[.int .i64 h.n,.slice (some ⟨b,off,none⟩) h.ws.length cap]:=(hA.dep 0 (by decide) 23 rfl).trans (hd 0 (by decide));have d5:ρ (.tmp 28) = .agg #[.int .i64 y.1,.int .i64 y.2.1,.int .i64 y.2.2]:=(hA.dep 5 (by decide) 28 rfl).trans (hd 5 (by decide));clear hd;refine zdm 47 _ _ rfl #[.agg #[.int .i64 h.n,.slice (some ⟨b,off,none⟩) h.ws.length cap],.agg #[.int .i64 y.1,.int .i64 y.2.1,.int .i64 y.2.2]] (hA.func _) (by simp [d0,d5]) (fun args W=>Tryz.call47 args W) ((HIW.out W).mono ?_);rintro e w' ⟨rfl,hb⟩;exact ⟨_,rfl,hb,rfl⟩
   case s7 =>
    intro val ρ W hE hz hd hA hx;have d6:ρ (.tmp 29) = .bool o:=(hA.dep 6 (by decide) 29 rfl).trans (hd 6 (by decide));clear hd;exact ze (W':=W) (by simp [execOp,d6,go_sem]) (Below.refl _ _) rfl
   case send =>
    intro val WW hE hzz hv;obtain ⟨-,-,-,-,-,-,-,r7,-⟩:=hv;have q7:val 7 = .bool (!o):=r7;simp only [zbq,q7];go_frame;have HEW:=hid (HE.out.trans' hE);clear r7 q7 hzz hE c0 c1 ca cb cc hzb hz1 hz;cases o
    ·have HF:=hid (HFull.out rfl)
     go_wp2_with fail;go_ret;exact ⟨by rw [HF.out];rfl,HW.out.trans' HEW.out⟩
    ·go_wp2_with fail
     go_roundw
     case rel=>exact ⟨k+1,by have:=HLT.out;omega,by go_num,by rw [HS.out,HNO.out];rfl,HEW.out⟩
     case measure=>simp [intOf];have:=HLT.out;omega
  ·have hki:¬ ((k:Int) < (h.ws.length:Int)):=by omega
   have hke:k=h.ws.length:=by omega
   have HF:Hid (zap h=0):=hid (by
    rw [hke,List.take_length] at hno;unfold zap;rw [if_neg HR.out,if_neg HL.out,if_neg (by rw [hno];simp)])
   clear hke hno hE;go_wp2_with fail;go_ret;exact ⟨by rw [HF.out];rfl,HW.out.trans' HE.out⟩
end Go.Proofs.YtdamgacabfbpjaaGreat
namespace Go.Proofs.YtdamgacabfbpjaaGreat
open Go.Lib (hid)
open Go.RowKit Go.Shelf
theorem z03 (h:Rc) (sa:Option Addr) (cap:Nat) (l:List Int) (lv:Value) (w:World) (hw:zcc w (.slice sa h.ws.length cap) h.ws) (hl:zt w .i64 lv l) :
  Calls Tryz.prog 10 #[.agg #[.int .i64 h.n,.slice sa h.ws.length cap],lv] w fun e w'=>e = .returned (.int .i64 (zct h l))∧Ext w w':=by
 obtain ⟨va,vc,rfl,l1,l2,-⟩:=hl.spec;have HV:=hid hw;have HI:=hid hl;clear hw hl
 go_enter Tryz.func10,Tryz.ntmps10
 go_upto_region 1 with (fail);obtain ⟨W0,hW0⟩:∃ W0,W0=w.alloc (.cells #[.int .i64 h.n,.slice sa h.ws.length cap] 24):=⟨_,rfl⟩
 have hE:Ext w W0:=by rw [hW0];exact xx
 have k0:W0.cell? ⟨w.heap.size,0,none⟩=some (.int .i64 h.n):=by rw [hW0];simp [go_sem]
 have k1:W0.cell? ⟨w.heap.size,1,none⟩=some (.slice sa h.ws.length cap):=by rw [hW0];simp [go_sem]
 have hz:w.heap.size < W0.heap.size:=World.block_lt_of_cell? _ _ k0;have HW:=hid hE;replace HV:=hid (HV.out.ext hE);replace HI:=hid (HI.out.ext hE);rw [← hW0];clear hW0 hE;go_wp2_with fail;refine zas (W0:=W0) (g:=⟨W0,Below.refl _ _⟩) xx (zqu h sa cap _ (HV.out.ext xx)) fun g1 hgr=>?_
 clear hgr
 by_cases he:zap h=0
 case neg =>
  have e1:(zap h != 0)=true:=by simpa using he
  have HE:=hid he;clear he;go_wp2_with fail;refine zas (W0:=W0) (g:=g1) xx (zqu h sa cap _ (HV.out.ext xx)) fun g2 hgr=>?_
  clear hgr;go_wp2_with fail;go_ret;exact ⟨zq (k:=.i64) (a:=zap h) (by unfold zct;rw [if_pos HE.out]),HW.out.trans' (zm W0 _)⟩
 have V:=hid (zlg he);have hn1:=V.out.n1;have hn5:=V.out.n5;have e1:(zap h != 0)=false:=by simpa using he
 have H0:=hid he;clear he
 by_cases hlen:(l.length:Int)=h.n
 case neg =>
  have hli:((l.length:Int) != h.n)=true:=by simpa using hlen
  have HL:=hid hlen;clear hlen;go_wp2_with fail;go_ret;exact ⟨zq (k:=.i64) (a:=15) (by unfold zct;rw [if_neg (by rw [H0.out];simp),if_pos HL.out]),HW.out.trans' (zm W0 _)⟩
 have hli:((l.length:Int) != h.n)=false:=by simpa using hlen
 have hnn:h.n.toNat=l.length:=by omega
 have HL:=hid hlen;have HNN:=hid hnn;clear hlen hnn;go_wp2_with fail;refine zas (W0:=W0) (g:=g1) xx (z8v l _ _ (HI.out.ext xx) (by have:=HL.out;omega)) fun g3 hgr=>?_
 clear hgr;cases hf:zba l.length l
 ·have HF:=hid hf
  clear hf;go_wp2_with fail;go_ret;exact ⟨zq (k:=.i64) (a:=16) (by unfold zct;rw [if_neg (by rw [H0.out];simp),if_neg (by rw [HL.out];simp),if_neg (by rw [HNN.out,HF.out];simp)]),HW.out.trans' (zm W0 _)⟩
 have HF:=hid hf;clear hf;go_wp2_with fail;refine zas (W0:=W0) (g:=g3) xx (z48 h sa cap l _ _ (HV.out.ext xx) (HI.out.ext xx) (fun x hx=>by rw [← HNN.out];exact V.out.okn x hx)) fun g4 hgr=>?_
 clear hgr;cases ha:zck h.ws l
 ·have HA:=hid ha
  clear ha;go_wp2_with fail;go_ret;exact ⟨zq (k:=.i64) (a:=22) (by unfold zct;rw [if_neg (by rw [H0.out];simp),if_neg (by rw [HL.out];simp),if_pos (by rw [HNN.out,HF.out]),if_neg (by rw [HA.out];simp)]),HW.out.trans' (zm W0 _)⟩
 ·have HA:=hid ha
  clear ha;go_wp2_with fail;go_ret;exact ⟨zq (k:=.i64) (a:=0) (by unfold zct;rw [if_neg (by rw [H0.out];simp),if_neg (by rw [HL.out];simp),if_pos (by rw [HNN.out,HF.out]),if_pos HA.out]),HW.out.trans' (zm W0 _)⟩
end Go.Proofs.YtdamgacabfbpjaaGreat
namespace Go.Proofs.YtdamgacabfbpjaaGreat
open Go.Lib (hid)
open Go.RowKit Go.Shelf
attribute [local go_sem] Oper.semAt_some
theorem z8w (h:Rc) (sa:Option Addr) (cap:Nat) (w:World) (hw:zcc w (.slice sa h.ws.length cap) h.ws) :
  Calls Tryz.prog 5 #[.agg #[.int .i64 h.n,.slice sa h.ws.length cap]] w fun e w'=>e = .returned (.bool (zap h == 0))∧Ext w w':=by
 have HV:=hid hw;clear hw
 go_enter Tryz.func5,Tryz.ntmps5
 go_upto_region 1 with (fail);obtain ⟨W0,hW0⟩:∃ W0,W0=w.alloc (.cells #[.int .i64 h.n,.slice sa h.ws.length cap] 24):=⟨_,rfl⟩
 have hE:Ext w W0:=by rw [hW0];exact xx
 have k0:W0.cell? ⟨w.heap.size,0,none⟩=some (.int .i64 h.n):=by rw [hW0];simp [go_sem]
 have k1:W0.cell? ⟨w.heap.size,1,none⟩=some (.slice sa h.ws.length cap):=by rw [hW0];simp [go_sem]
 have hz:w.heap.size < W0.heap.size:=World.block_lt_of_cell? _ _ k0;have HW:=hid hE;replace HV:=hid (HV.out.ext hE);rw [← hW0];clear hW0 hE
 by_cases hl:h.ws.length≤20
 ·have hli:decide ((h.ws.length:Int)≤20)=true:=by rw [decide_eq_true_eq];omega
  clear hl;go_wp2_with fail;refine (zqu h sa cap W0 HV.out).mono ?_
  rintro e W1 ⟨rfl,hE1⟩;have HE1:=hid (HW.out.trans' hE1);clear hE1;go_wp2_with fail;go_ret;exact ⟨rfl,HE1.out⟩
 ·have hli:decide ((h.ws.length:Int)≤20)=false:=by rw [decide_eq_false_iff_not];omega
  have HH:Hid ((zap h == 0)=false):=hid (by
   rw [beq_eq_false_iff_ne];unfold zap
   split
   ·omega
   ·rw [if_pos (by omega)];omega)
  clear hl;go_wp2_with fail;go_ret;exact ⟨by rw [HH.out];rfl,HW.out⟩
theorem z8x (a k b:Int) (w:World) :
  Calls Tryz.prog 16 #[.int .i64 a,.int .i64 k,.int .i64 b] w fun e w'=>e = .returned (.agg #[.int .i64 a,.int .i64 b,.int .i64 k])∧Ext w w':=by
 go_enter Tryz.func16,Tryz.ntmps16
 go_wp2_with fail;refine bodyPost_ret (v:=.agg #[.int .i64 a,.int .i64 b,.int .i64 k]) (by simp [results,Tryz.results16,go_sem]) rfl ?_
 exact ⟨rfl,by exact xx⟩
end Go.Proofs.YtdamgacabfbpjaaGreat
namespace Go.Proofs.YtdamgacabfbpjaaGreat
open Go.Lib (hid)
open Go.RowKit Go.Shelf
attribute [local go_sem] Oper.semAt_some
theorem zxc (w:World) (N:Nat) (hN:N≤1000000):∃ w',(Instr.makeSlice 28 (.int .i64 (N:Int)) (.int .i64 (N:Int))).run Tryz.prog w = .ok (.slice (some ⟨w.heap.size,0,none⟩) N N) w'∧zaz w' w.heap.size N (fun _=>0)∧Ext w w':=by
 obtain ⟨i,z,hi,hz,hsi,hby,hzs⟩:=zha.info;have hz0:z = .int .i64 0:=by
  have h1:(Tryz.prog.info? 3).map (fun i=>i.zero)=some (some (.int .i64 0)):=by kernel_rfl
  rw [hi] at h1;simp [hz] at h1;exact h1
 subst hz0;obtain ⟨w',hrun,hown,hg⟩:=run_makeSlice_full (P:=Tryz.prog) w w.heap.size 28 3 i (.int .i64 0) 1 zha.und hi hz hsi .i64 .i64 N (by omega) (by have:=Nat.mul_le_mul hby hN;omega) (by simp [maxLen];omega) (Nat.le_refl _);rw [Nat.mul_one] at hown;obtain ⟨cur,hc,hI⟩:=z99 hown;exact ⟨w',hrun,⟨cur,hc,by rw [hI.size];omega,fun j hj=>hI.at_ j hj⟩,(Below.refl _ w).grown hg (Nat.le_refl _) fun k hk=>by cases hk⟩
theorem zaz.list {W:World} {g n:Nat} {f:Nat→Int} (h:zaz W g n f):∃ l:List Int,l.length=n∧zaz W g n (gt l):=by
 refine ⟨(List.range n).map f,by simp,h.congr fun j hj=>?_⟩;unfold gt;rw [List.getD_eq_getElem?_getD,List.getElem?_map,List.getElem?_range hj];rfl
theorem zaz.ext {W W':World} {g n:Nat} {f:Nat→Int} (h:zaz W g n f) (e:Ext W W'):zaz W' g n f:=h.of_heap (e.block _ h.lt)
theorem z39 (n:Nat) (l:List Int) (v:Value) (w:World) (hv:zt w .u8 v l) (hn:n≤5) :
  Calls Tryz.prog 7 #[.int .i64 n,v] w fun e w'=>∃ (f:List Int) (sv:Value),e = .returned sv∧Ext w w'∧zt w' .i64 sv f∧f.length=n:=by
 obtain ⟨va,vc,rfl,h1,h2,hc⟩:=hv.spec;have HC:=hid hc;clear hc hv;obtain ⟨W1,hmk,hnum,hE1⟩:=zxc w n (by omega);obtain ⟨a,ha⟩:∃ a,a=w.heap.size:=⟨_,rfl⟩
 have HA:=hid ha;rw [← ha] at hmk hnum;have HN1:=hid hnum;have HE1:=hid hE1;clear ha hnum hE1
 go_enter Tryz.func7,Tryz.ntmps7
 go_upto_region 2 with (simp only [hmk]);clear hmk;go_wp2_with fail
 go_loopw [6] (fun iv W=>∃ k:Nat,k≤n∧iv = .int .i64 k∧(∃ f,zaz W a n f)∧Ext w W) (fun iv _=>n - (intOf iv).toNat)
 case atStart=>exact ⟨0,by omega,rfl,⟨_,HN1.out⟩,HE1.out⟩
 case round =>
  obtain ⟨k,hk,rfl,⟨f,hf⟩,hE⟩:=hrel;have HE:=hid hE;have HF:=hid hf;have haw:w.heap.size≤a:=by rw [HA.out];exact Nat.le_refl _
  by_cases hlt:k < n
  ·have hki:(k:Int) < (n:Int):=by omega
   have ck:=hf.cell k hlt;have hfr:=hf.free k;have hgl:=hf.lt;have hF1:=hf.set k k;have HF1:=hid hF1
   by_cases h0:l.length=0
   ·have h0i:decide ((0:Int) < (l.length:Int))=false:=by rw [decide_eq_false_iff_not];omega
    have h0n:decide (0 < l.length)=false:=by rw [decide_eq_false_iff_not];omega
    clear hE hf hF1 h0;go_wp2_with fail;go_roundw
    case rel=>exact ⟨k+1,by omega,by go_num,⟨_,HF1.out⟩,HE.out.setCell (p:=⟨a,k,none⟩) haw _⟩
    case measure=>simp [intOf];omega
   ·have h0i:decide ((0:Int) < (l.length:Int))=true:=by rw [decide_eq_true_eq];omega
    have h0n:decide (0 < l.length)=true:=by rw [decide_eq_true_eq];omega
    rcases HC.out with hc | ⟨b,off,rfl,hc⟩
    ·rw [hc] at h0;simp at h0
    have hml:k % l.length < l.length:=Nat.mod_lt _ (by omega);have hc2:=zd hE (hc _ hml);have hbz:=World.block_lt_of_cell? _ _ (hc _ hml);simp only at hbz;have hba:b≠a:=by rw [HA.out];omega
    have hmod:(k:Int).tmod (l.length:Int)=((k % l.length:Nat):Int):=by rw [Int.ofNat_tmod]
    have hmod2:(k:Int) % (l.length:Int)=((k % l.length:Nat):Int):=by rw [Int.natCast_emod]
    obtain ⟨j,hj⟩:∃ j,j=k % l.length:=⟨_,rfl⟩
    obtain ⟨x,hx⟩:∃ x,x=l[k % l.length]:=⟨_,rfl⟩
    rw [← hx] at hc2;simp only [← hj] at hmod hmod2 hc2;have hji:(j:Int) < (l.length:Int):=by omega
    obtain ⟨X,hX⟩:∃ X,X=wr.setCell ⟨a,k,none⟩ (.int .i64 k):=⟨_,rfl⟩
    have HEX:Hid (Ext w X):=hid (by rw [hX];exact hE.setCell (p:=⟨a,k,none⟩) haw _);rw [← hX] at hF1 HF1;have ckX:=hF1.cell k hlt;have hfX:=hF1.free k;have hgX:=hF1.lt;have cX:X.cell? ⟨b,off+j,none⟩=some (.int .u8 x):=zd HEX.out (by have:=hc _ hml;rw [← hx] at this;simpa only [← hj] using this);have hbX:=World.block_lt_of_cell? _ _ cX;simp only at hbX;clear hE hf hF1 h0 hc hml hc2 hj hx;go_upto_region 6 with (fail);rw [← hX];clear hX ck hfr hgl;go_wp2_with fail;go_roundw
    case rel=>exact ⟨k+1,by omega,by go_num,⟨_,HF1.out.set k _⟩,HEX.out.setCell (p:=⟨a,k,none⟩) haw _⟩
    case measure=>simp [intOf];omega
  ·have hki:¬ ((k:Int) < (n:Int)):=by omega
   obtain ⟨W2,hmk2,hnum2,hE2⟩:=zxc wr n (by omega);obtain ⟨c,hcc⟩:∃ c,c=wr.heap.size:=⟨_,rfl⟩
   rw [← hcc] at hmk2 hnum2;have hgl:=hf.lt;have hac:a≠c:=by omega
   have hcw:w.heap.size≤c:=by omega
   have HN2:=hid hnum2;have HE2:=hid (HE.out.trans' hE2);have HF2:=hid (HF.out.ext hE2);have HAC:=hid hac;clear hnum2 hE2 hf hE hcc hgl hac;go_upto_region 9 with (simp only [hmk2]);clear hmk2;go_wp2_with fail
   go_loopw [8] (fun iv W=>∃ k:Nat,k≤n∧iv = .int .i64 k∧(∃ g,zaz W c n g)∧zaz W a n f∧Ext w W) (fun iv _=>n - (intOf iv).toNat)
   case atStart=>exact ⟨0,by omega,rfl,⟨_,HN2.out⟩,HF2.out,HE2.out⟩
   case round =>
    obtain ⟨i,hi,rfl,⟨g,hg⟩,hfa,hE⟩:=hrel;have HE3:=hid hE;have HFA:=hid hfa
    by_cases hlt:i < n
    ·have hii:(i:Int) < (n:Int):=by omega
     have ck:=hg.cell i hlt;have hfr:=hg.free i;have hgl:=hg.lt;have HG1:=hid (hg.set i 1);have HFA1:=hid (hfa.of_heap (Below.heap_setCell wr ⟨c,i,none⟩ (.int .i64 1) a (fun e=>HAC.out e)));have HE4:=hid (hE.setCell (p:=⟨c,i,none⟩) hcw (.int .i64 1));clear hE hg hfa;go_wp2_with fail
     go_loopw [9] (fun kv W=>∃ m:Nat,m≤n∧kv = .int .i64 m∧(∃ g,zaz W c n g)∧zaz W a n f∧Ext w W) (fun kv _=>n - (intOf kv).toNat)
     case atStart=>exact ⟨0,by omega,rfl,⟨_,HG1.out⟩,HFA1.out,HE4.out⟩
     case round =>
      obtain ⟨m,hm,rfl,⟨g2,hg2⟩,hfa2,hE5⟩:=hrel;have HE5:=hid hE5;have HFA2:=hid hfa2;have HG2:=hid hg2
      by_cases hltm:m < n
      ·have hmi:(m:Int) < (n:Int):=by omega
       have am:=hfa2.cell m hltm;have ai:=hfa2.cell i hlt;have ci:=hg2.cell i hlt;have hfr2:=hg2.free i;have hal:=hfa2.lt;have hgl2:=hg2.lt;obtain ⟨x,hx⟩:∃ x,x=f m:=⟨_,rfl⟩
       obtain ⟨y,hy⟩:∃ y,y=f i:=⟨_,rfl⟩
       rw [← hx] at am;rw [← hy] at ai;clear hE5 hfa2 hg2 hx hy ck hfr hgl
       by_cases hxy:x < y
       ·go_wp2_with fail
        go_quiet (fail)
        go_wp2_with fail;go_roundw
        case rel =>
         refine ⟨m+1,by omega,by go_num,⟨_,(HG2.out.of_heap (W':=wr.drewN nq) rfl).set i _⟩,?_,(HE5.out.drN _).setCell (p:=⟨c,i,none⟩) hcw _⟩;exact (HFA2.out.of_heap (W':=wr.drewN nq) rfl).of_heap (Below.heap_setCell _ _ _ _ (fun e=>HAC.out e))
        case measure=>simp [intOf];omega
       ·go_wp2_with fail
        go_quiet (fail)
        go_wp2_with fail;go_roundw
        case rel=>exact ⟨m+1,by omega,by go_num,⟨_,HG2.out.of_heap (W':=wr.drewN nq) rfl⟩,HFA2.out.of_heap (W':=wr.drewN nq) rfl,HE5.out.drN _⟩
        case measure=>simp [intOf];omega
      ·have hmi:¬ ((m:Int) < (n:Int)):=by omega
       clear hE5 hfa2 hg2 ck hfr hgl;go_wp2_with fail;go_roundw
       case rel=>exact ⟨i+1,by omega,by go_num,⟨_,HG2.out⟩,HFA2.out,HE5.out⟩
       case measure=>simp [intOf];omega
    ·have hii:¬ ((i:Int) < (n:Int)):=by omega
     have HG:=hid hg;clear hE hg hfa;go_wp2_with fail;go_ret;obtain ⟨l2,hl2,hn2⟩:=HG.out.list;exact ⟨l2,_,rfl,HE3.out,hn2.intsC hl2.symm (Nat.le_refl _) (by omega),hl2⟩
end Go.Proofs.YtdamgacabfbpjaaGreat
