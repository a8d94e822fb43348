/-
  The reference of the heats: words and what they say.
-/
import Derived.Test.YtkfifbopmpcanaaGreatHb
import Derived.Test.YtkfifbopmpcanaaGreatBa
import Derived.Test.YtkfifbopmpcanaaGreatBb
import Derived.Laws.EntriesVeiled
import Derived.Test.YtkfifbopmpcanaaGreatPc
namespace Go.Proofs.YtkfifbopmpcanaaGreat
open Go.RowKit Go.Shelf
theorem z7j (n a b k:Int):okWd n (a,b,k)=(decide (0≤a) && (decide (a < n) && (decide (0≤b) && (decide (b < n) && (decide (a≠b) && (decide (0≤k) && decide (k≤2))))))):=by
 unfold okWd
 rw [Bool.eq_iff_iff]
 simp only [Bool.and_eq_true,decide_eq_true_eq]
 constructor
 ·rintro ⟨⟨h1,h2,h3⟩,h4⟩;exact ⟨h2.1,h2.2,h3.1,h3.2,h1,h4.1,h4.2⟩
 ·rintro ⟨h1,h2,h3,h4,h5,h6,h7⟩;exact ⟨⟨h5,⟨h1,h2⟩,h3,h4⟩,h6,h7⟩
set_option maxRecDepth 100000 in
set_option maxHeartbeats 2000000 in
theorem zx0 (h:Rc) (sa:Option Addr) (cap:Nat) (x:Wd) (w:World) :
  Calls Tryz.prog 49 #[.agg #[.int .i64 h.n,.slice sa h.ws.length cap],.agg #[.int .i64 x.1,.int .i64 x.2.1,.int .i64 x.2.2]] w fun e w'=>e = .returned (.bool (okWd h.n x))∧Ext w w':=by
 obtain ⟨a,b,k⟩:=x
 simp only
 have HO:=Lib.hid (z7j h.n a b k)
 go_enter Tryz.func49,Tryz.ntmps49
 go_wp2_with fail
 all_goals
  go_ret
  refine ⟨zan ?_,by exact xx⟩
  rw [HO.out]
  first
   | (simp [*];done)
   | (simp [*];omega)
set_option maxRecDepth 100000 in
set_option maxHeartbeats 2000000 in
theorem z26 (f:List Int) (v:Value) (x:Wd) (w:World) (hv:IsInts w .i64 v f) (hx:OkW f.length x) :
  Calls Tryz.prog 112 #[.agg #[.int .i64 x.1,.int .i64 x.2.1,.int .i64 x.2.2],v] w fun e w'=>e = .returned (.bool (zec f x))∧Ext w w':=by
 obtain ⟨va,cap,rfl,h1,h2,hc⟩:=hv.spec
 have ha0:=hx.a0
 have ha1:=hx.a1
 have hb0:=hx.b0
 have hb1:=hx.b1
 have hk0:=hx.k0
 have hk1:=hx.k1
 rcases hc with hc | ⟨b,off,rfl,hc⟩
 ·rw [hc] at ha1;simp at ha1;omega
 obtain ⟨i,hi⟩:∃ i:Nat,x.1=i:=⟨x.1.toNat,by omega⟩
 obtain ⟨j,hj⟩:∃ j:Nat,x.2.1=j:=⟨x.2.1.toNat,by omega⟩
 have hil:i < f.length:=by omega
 have hjl:j < f.length:=by omega
 have ci:=hc i hil
 have cj:=hc j hjl
 have hz:=World.block_lt_of_cell? _ _ ci
 simp only at hz
 obtain ⟨p,hp⟩:∃ p,p=f[i]:=⟨_,rfl⟩
 obtain ⟨q,hq⟩:∃ q,q=f[j]:=⟨_,rfl⟩
 have e1:pl f x.1.toNat=p:=by rw [hi,hp];unfold pl;rw [List.getD_eq_getElem?_getD,Int.toNat_natCast,List.getElem?_eq_getElem hil];rfl
 have e2:pl f x.2.1.toNat=q:=by rw [hj,hq];unfold pl;rw [List.getD_eq_getElem?_getD,Int.toNat_natCast,List.getElem?_eq_getElem hjl];rfl
 have HS:Hid (zec f x=if x.2.2=0 then decide (p < q) else if x.2.2=1 then decide (p=q) else decide (p≤q)):=Lib.hid (by unfold zec;rw [e1,e2])
 rw [← hp] at ci
 rw [← hq] at cj
 rw [hi,hj]
 obtain ⟨k,hk⟩:∃ k,k=x.2.2:=⟨_,rfl⟩
 rw [← hk] at HS hk0 hk1 ⊢
 clear hp hq e1 e2 hx hc hv hi hj hk ha0 ha1 hb0 hb1
 have hii:(i:Int) < (f.length:Int):=by omega
 have hjj:(j:Int) < (f.length:Int):=by omega
 go_enter Tryz.func112,Tryz.ntmps112
 go_upto_region 1 with (fail)
 obtain ⟨W0,hW0⟩:∃ W0,W0=w.alloc (.cells #[.int .i64 i,.int .i64 j,.int .i64 k] 117):=⟨_,rfl⟩
 have hE:Ext w W0:=by rw [hW0];exact xx
 have k0:W0.cell? ⟨w.heap.size,0,none⟩=some (.int .i64 i):=by rw [hW0];simp [go_sem]
 have k1:W0.cell? ⟨w.heap.size,1,none⟩=some (.int .i64 j):=by rw [hW0];simp [go_sem]
 have k2:W0.cell? ⟨w.heap.size,2,none⟩=some (.int .i64 k):=by rw [hW0];simp [go_sem]
 have hzb:w.heap.size < W0.heap.size:=World.block_lt_of_cell? _ _ k0
 replace ci:=zh hE ci
 replace cj:=zh hE cj
 replace hz:=World.block_lt_of_cell? _ _ ci
 simp only at hz
 have HW:=Lib.hid hE
 rw [← hW0]
 clear hW0 hE
 go_quiet (fail)
 go_wp2_with fail
 all_goals
  go_ret
  refine ⟨zan ?_,HW.out.drN _⟩
  rw [HS.out]
  clear HS HW k0 k1 k2 ci cj hz hzb
  first
   | (simp_all;done)
   | (simp_all;omega)
   | (rename_i e1 e2
      subst e1
      by_cases a0:k=0
      ·simp [a0]
      ·by_cases a1:k=1<;>simp [a0,a1])
theorem z4y (ws:List Wd) (f:List Int) {i:Nat} (hi:i < ws.length):agrP (ws.take (i+1)) f=(agrP (ws.take i) f && zec f ws[i]):=by
 unfold agrP
 rw [List.take_add_one,List.getElem?_eq_getElem hi,List.all_append]
 simp
set_option maxRecDepth 100000 in
set_option maxHeartbeats 2000000 in
theorem zx1 (h:Rc) (sa:Option Addr) (cap:Nat) (f:List Int) (v:Value) (w:World) (hw:IsWds w (.slice sa h.ws.length cap) h.ws) (hv:IsInts w .i64 v f) (hok:∀ x∈h.ws,OkW f.length x) :
  Calls Tryz.prog 56 #[.agg #[.int .i64 h.n,.slice sa h.ws.length cap],v] w fun e w'=>e = .returned (.bool (agrP h.ws f))∧Ext w w':=by
 obtain ⟨va,vc,rfl,-,-,-⟩:=hv.spec
 obtain ⟨g1,g2⟩:=hw.caps
 have HWD:=Lib.hid hw
 have HV:=Lib.hid hv
 have HOK:=Lib.hid hok
 clear hw hv hok
 go_enter Tryz.func56,Tryz.ntmps56
 go_upto_region 1 with (fail)
 obtain ⟨W0,hW0⟩:∃ W0,W0=w.alloc (.cells #[.int .i64 h.n,.slice sa h.ws.length cap] 65):=⟨_,rfl⟩
 have hE:Ext w W0:=by rw [hW0];exact xx
 have k1:W0.cell? ⟨w.heap.size,1,none⟩=some (.slice sa h.ws.length cap):=by rw [hW0];simp [go_sem]
 have HW:=Lib.hid hE
 rw [← hW0]
 clear hW0 hE
 go_wp2_with fail
 go_loopw [5] (fun iv W=>∃ k:Nat,k≤h.ws.length∧iv = .int .i64 k∧agrP (h.ws.take k) f=true∧Ext W0 W) (fun iv _=>h.ws.length - (intOf iv).toNat)
 case atStart=>exact ⟨0,by omega,rfl,by simp [agrP],by exact xx⟩
 case round =>
  obtain ⟨k,hk,rfl,hno,hE⟩:=hrel
  have c1:=zh hE k1
  have hz1:=World.block_lt_of_cell? _ _ c1
  simp only at hz1
  have HE:=Lib.hid hE
  have HNO:=Lib.hid hno
  by_cases hlt:k < h.ws.length
  ·have hki:(k:Int) < (h.ws.length:Int):=by omega
   have hat:=(HWD.out.ext (HW.out.trans' hE)).at
   rcases hat with hc | ⟨b,off,rfl,hc⟩
   ·rw [hc] at hlt;simp at hlt
   obtain ⟨ca,cb,cc⟩:=hc k hlt
   have hzb:=World.block_lt_of_cell? _ _ ca
   simp only at hzb
   have HS:=Lib.hid (z4y h.ws f hlt)
   have hox:=HOK.out _ (List.getElem_mem hlt)
   obtain ⟨y,hy⟩:∃ y,y=h.ws[k]:=⟨_,rfl⟩
   rw [← hy] at ca cb cc HS hox
   have HSY:=Lib.hid (z26 f _ y wr (HV.out.ext (HW.out.trans' hE)) hox)
   have HLT:=Lib.hid hlt
   have HFull:Hid (zec f y=false→agrP h.ws f=false):=Lib.hid fun e=>by
    unfold agrP
    rw [List.all_eq_false]
    exact ⟨y,by rw [hy];exact List.getElem_mem hlt,by simp [e]⟩
   clear hc hy hno hE hox hlt
   go_wp2_with fail
   refine HSY.out.mono ?_
   rintro e W3 ⟨rfl,hE3⟩
   have HE3:=Lib.hid (HE.out.trans' hE3)
   clear hE3 HSY ca cb cc
   cases hs:zec f y
   ·have HF:=Lib.hid (HFull.out hs)
    clear hs
    go_wp2_with fail
    go_ret
    exact ⟨by rw [HF.out];rfl,HW.out.trans' HE3.out⟩
   ·rw [hs] at HS
    clear hs
    go_wp2_with fail
    go_roundw
    case rel=>exact ⟨k+1,by have:=HLT.out;omega,by go_num,by rw [HS.out,HNO.out];rfl,HE3.out⟩
    case measure=>simp [intOf];have:=HLT.out;omega
  ·have hki:¬ ((k:Int) < (h.ws.length:Int)):=by omega
   have hke:k=h.ws.length:=by omega
   have HF:Hid (agrP h.ws f=true):=Lib.hid (by rw [hke,List.take_length] at hno;exact hno)
   clear hke hno hE
   go_wp2_with fail
   go_ret
   exact ⟨by rw [HF.out];rfl,HW.out.trans' HE.out⟩
end Go.Proofs.YtkfifbopmpcanaaGreat
namespace Go.Proofs.YtkfifbopmpcanaaGreat
open Go.RowKit Go.Shelf
attribute [local go_sem] Oper.semAt_some
theorem zwx {f:List Int} {i:Nat} (h:i < f.length):pl f i=f[i]:=by
 unfold pl
 rw [List.getD_eq_getElem?_getD,List.getElem?_eq_getElem h];rfl
theorem z4z {f:List Int} (h:∀ i,i < f.length→pl f i=1+(below f (pl f i) f.length:Int)):zay f.length f=true:=by
 unfold zay
 rw [decide_eq_true_eq]
 refine zwn rfl (zgb _ _) fun i hi=>?_
 rw [zsj f hi,← h i hi]
theorem z27 {f:List Int} {i:Nat} (hi:i < f.length) (h:pl f i≠1+(below f (pl f i) f.length:Int)):zay f.length f=false:=by
 cases e:zay f.length f
 ·rfl
 ·exact absurd (zpn e hi) h
set_option maxRecDepth 100000 in
set_option maxHeartbeats 2000000 in
theorem z0n (f:List Int) (v:Value) (w:World) (hv:IsInts w .i64 v f) (hl:f.length≤1000) :
  Calls Tryz.prog 55 #[v] w fun e w'=>e = .returned (.bool (zay f.length f))∧Ext w w':=by
 obtain ⟨va,vc,rfl,h1,h2,hc⟩:=hv.spec
 have HC:=Lib.hid hc
 clear hc hv
 go_enter Tryz.func55,Tryz.ntmps55
 go_wp2_with fail
 go_loopw [3] (fun iv W=>∃ k:Nat,k≤f.length∧iv = .int .i64 k∧(∀ i,i < k→pl f i=1+(below f (pl f i) f.length:Int))∧Ext w W) (fun iv _=>f.length - (intOf iv).toNat)
 case atStart=>exact ⟨0,by omega,rfl,fun i hi=>by omega,by exact xx⟩
 case round =>
  obtain ⟨i,hi,rfl,hno,hE⟩:=hrel
  have HE:=Lib.hid hE
  have HNO:=Lib.hid hno
  by_cases hlt:i < f.length
  ·have hki:(i:Int) < (f.length:Int):=by omega
   obtain ⟨x,hx⟩:∃ x,x=pl f i:=⟨_,rfl⟩
   have HX:=Lib.hid hx
   have HLT:=Lib.hid hlt
   clear hno hE hx
   go_wp2_with fail
   go_loopw [4,5] (fun pv kv W=>∃ k:Nat,k≤f.length∧kv = .int .i64 k∧pv = .int .i64 (1+(below f x k:Int))∧Ext w W) (fun _ kv _=>f.length - (intOf kv).toNat)
   case atStart=>exact ⟨0,by omega,rfl,by simp [below],HE.out⟩
   case round =>
    obtain ⟨k,hk,rfl,rfl,hE2⟩:=hrel
    have HE2:=Lib.hid hE2
    by_cases hltk:k < f.length
    ·have hkk:(k:Int) < (f.length:Int):=by omega
     rcases HC.out with hc | ⟨b,off,rfl,hc⟩
     ·rw [hc] at hltk;simp at hltk
     have ck:=zh hE2 (hc k hltk)
     have ci:=zh hE2 (hc i hlt)
     rw [← zwx hlt,← HX.out] at ci
     rw [← zwx hltk] at ck
     have hzk:=World.block_lt_of_cell? _ _ ck
     simp only at hzk
     obtain ⟨y,hy⟩:∃ y,y=pl f k:=⟨_,rfl⟩
     rw [← hy] at ck
     have HS:=Lib.hid (zlp f x k)
     rw [← hy] at HS
     have hbl:=below_le f x k
     obtain ⟨c,hcc⟩:∃ c,c=below f x k:=⟨_,rfl⟩
     rw [← hcc] at HS hbl ⊢
     have hwr:IntKind.i64.wrap (1+(c:Int)+1)=1+(c:Int)+1:=IntWalk.i64_in _ (by omega)
     clear hc hy hE2 hcc
     by_cases hyx:y < x
     ·go_wp2_with fail
      go_quiet (fail)
      go_wp2_with fail
      go_roundw
      case rel =>
       refine ⟨k+1,by omega,by go_num,?_,HE2.out.drN _⟩
       rw [HS.out,if_pos hyx,show (1+((c+1:Nat):Int))=1+(c:Int)+1 by omega]
      case measure=>simp [intOf];omega
     ·go_wp2_with fail
      go_quiet (fail)
      go_wp2_with fail
      go_roundw
      case rel =>
       refine ⟨k+1,by omega,by go_num,?_,HE2.out.drN _⟩
       rw [HS.out,if_neg (by omega),Nat.add_zero]
      case measure=>simp [intOf];omega
    ·have hkk:¬ ((k:Int) < (f.length:Int)):=by omega
     have hke:k=f.length:=by omega
     rcases HC.out with hc | ⟨b,off,rfl,hc⟩
     ·rw [hc] at hlt;simp at hlt
     have ci:=zh hE2 (hc i hlt)
     rw [← zwx hlt,← HX.out] at ci
     have hzk:=World.block_lt_of_cell? _ _ ci
     simp only at hzk
     have HB:Hid (below f x k=below f (pl f i) f.length):=Lib.hid (by rw [hke,HX.out])
     obtain ⟨c,hcc⟩:∃ c,c=below f x k:=⟨_,rfl⟩
     rw [← hcc] at HB ⊢
     clear hc hE2 hke hcc
     by_cases hxe:x=1+(c:Int)
     ·have hxi:(x != 1+(c:Int))=false:=by simpa using hxe
      have HXE:=Lib.hid hxe
      clear hxe
      go_wp2_with fail
      go_roundw
      case rel =>
       refine ⟨i+1,by have:=HLT.out;omega,by go_num,fun j hj=>?_,HE2.out⟩
       by_cases e:j=i
       ·subst e
        rw [← HB.out,← HX.out];exact HXE.out
       ·exact HNO.out j (by omega)
      case measure=>simp [intOf];have:=HLT.out;omega
     ·have hxi:(x != 1+(c:Int))=true:=by simpa using hxe
      have HF:Hid (zay f.length f=false):=Lib.hid (z27 HLT.out (by rw [← HB.out,← HX.out];exact hxe))
      clear hxe
      go_wp2_with fail
      go_ret
      exact ⟨by rw [HF.out];rfl,HE2.out⟩
  ·have hki:¬ ((i:Int) < (f.length:Int)):=by omega
   have hke:i=f.length:=by omega
   have HF:Hid (zay f.length f=true):=Lib.hid (z4z fun j hj=>hno j (by omega))
   clear hke hno hE
   go_wp2_with fail
   go_ret
   exact ⟨by rw [HF.out];rfl,HE.out⟩
set_option maxRecDepth 100000 in
set_option maxHeartbeats 4000000 in
theorem z0o (h:Rc) (sa:Option Addr) (cap:Nat) (w:World) (hw:IsWds w (.slice sa h.ws.length cap) h.ws) :
  Calls Tryz.prog 17 #[.agg #[.int .i64 h.n,.slice sa h.ws.length cap]] w fun e w'=>e = .returned (.int .i64 (zaw h))∧Ext w w':=by
 obtain ⟨g1,g2⟩:=hw.caps
 have HWD:=Lib.hid hw
 clear hw
 go_enter Tryz.func17,Tryz.ntmps17
 go_upto_region 1 with (fail)
 obtain ⟨W0,hW0⟩:∃ W0,W0=w.alloc (.cells #[.int .i64 h.n,.slice sa h.ws.length cap] 65):=⟨_,rfl⟩
 have hE:Ext w W0:=by rw [hW0];exact xx
 have k0:W0.cell? ⟨w.heap.size,0,none⟩=some (.int .i64 h.n):=by rw [hW0];simp [go_sem]
 have k1:W0.cell? ⟨w.heap.size,1,none⟩=some (.slice sa h.ws.length cap):=by rw [hW0];simp [go_sem]
 have hz:=World.block_lt_of_cell? _ _ k0
 simp only at hz
 have HW:=Lib.hid hE
 rw [← hW0]
 clear hW0 hE
 by_cases hr:h.n < 2∨5 < h.n
 ·have HR:=Lib.hid hr
  have HH:Hid (zaw h=3):=Lib.hid (by unfold zaw;rw [if_pos hr])
  go_wp2_with fail
  all_goals
   first
    | (exfalso;omega)
    | (go_ret
       exact ⟨by rw [HH.out];rfl,HW.out⟩)
 have hn1:2≤h.n:=by omega
 have hn2:h.n≤5:=by omega
 have HR:=Lib.hid hr
 clear hr
 by_cases hl:12 < h.ws.length
 ·have hli:decide ((12:Int) < (h.ws.length:Int))=true:=by rw [decide_eq_true_eq];omega
  have HH:Hid (zaw h=6):=Lib.hid (by unfold zaw;rw [if_neg HR.out,if_pos hl])
  clear hl
  go_wp2_with fail
  all_goals
   first
    | (exfalso;omega)
    | (go_ret
       exact ⟨by rw [HH.out];rfl,HW.out⟩)
 have hli:decide ((12:Int) < (h.ws.length:Int))=false:=by rw [decide_eq_false_iff_not];omega
 have HL:=Lib.hid hl
 clear hl
 have hd1:decide (h.n < 2)=false:=by rw [decide_eq_false_iff_not];omega
 have hd2:decide (5 < h.n)=false:=by rw [decide_eq_false_iff_not];omega
 go_wp2_with fail
 go_loopw [3] (fun iv W=>∃ k:Nat,k≤h.ws.length∧iv = .int .i64 k∧(h.ws.take k).any (fun w=>!okWd h.n w)=false∧Ext W0 W) (fun iv _=>h.ws.length - (intOf iv).toNat)
 case atStart=>exact ⟨0,by omega,rfl,by simp,by exact xx⟩
 case round =>
  obtain ⟨k,hk,rfl,hno,hE⟩:=hrel
  have c0:=zh hE k0
  have c1:=zh hE k1
  have hz1:=World.block_lt_of_cell? _ _ c1
  simp only at hz1
  have HE:=Lib.hid hE
  have HNO:=Lib.hid hno
  by_cases hlt:k < h.ws.length
  ·have hki:(k:Int) < (h.ws.length:Int):=by omega
   have hat:=(HWD.out.ext (HW.out.trans' hE)).at
   rcases hat with hc | ⟨b,off,rfl,hc⟩
   ·rw [hc] at hlt;simp at hlt
   obtain ⟨ca,cb,cc⟩:=hc k hlt
   have hzb:=World.block_lt_of_cell? _ _ ca
   simp only at hzb
   obtain ⟨y,hy⟩:∃ y,y=h.ws[k]:=⟨_,rfl⟩
   have HS:Hid ((h.ws.take (k+1)).any (fun w=>!okWd h.n w)=((h.ws.take k).any (fun w=>!okWd h.n w) || !okWd h.n y)):=Lib.hid (by
    rw [List.take_add_one,List.getElem?_eq_getElem hlt,List.any_append,← hy];simp)
   rw [← hy] at ca cb cc
   have HFull:Hid (okWd h.n y=false→zaw h=2):=Lib.hid fun e=>by
    unfold zaw
    rw [if_neg HR.out,if_neg HL.out,if_pos]
    rw [List.any_eq_true]
    exact ⟨y,by rw [hy];exact List.getElem_mem hlt,by simp [e]⟩
   have HIW:=Lib.hid (fun W=>zx0 h (some ⟨b,off,none⟩) cap y W)
   have HLT:=Lib.hid hlt
   obtain ⟨o,ho⟩:∃ o,o=okWd h.n y:=⟨_,rfl⟩
   rw [← ho] at HS HFull HIW
   clear hc hy hno hE hlt ho k0 k1 hd1 hd2
   go_upto_region 8 with (fail)
   refine zbb (wr.heap.size) (Nat.le_refl _)
    [sqV (.agg #[.int .i64 h.n,.slice (some ⟨b,off,none⟩) h.ws.length cap]),sqV (.pointer (some ⟨w.heap.size,1,none⟩)),sqV (.slice (some ⟨b,off,none⟩) h.ws.length cap),sqV (.int .i64 k),sqV (.pointer (some ⟨b,off+k * 3,none⟩)),sqV (.agg #[.int .i64 y.1,.int .i64 y.2.1,.int .i64 y.2.2]),sqV (.bool o),sqV (.bool (!o))]
    [true,true,true,true,true,true,true,true] [false,false,false,false,false,false,false,false] [true,true,true,true,true,true,true,true] [true,true,true,true,true,true,true,true]
    (by kernel_rfl) (by kernel_rfl) (by decide +kernel) (by decide +kernel) (by decide +kernel) rfl ⟨rfl,rfl⟩ ⟨?s0,?s1,?s2,?s3,?s4,?s5,?s6,?s7,trivial⟩ [some 23,some 24,some 25,some 26,some 27,some 28,some 29,some 30] rfl rfl ?send
   case s0 =>
    intro val ρ W hE hz hd hA hx
    have o0:ρ (.tmp 1) = .pointer (some ⟨w.heap.size,0,none⟩):=hA.old 1 (by decide)
    have f_c0:=cell_below hE (by simp only;omega) c0
    have f_c1:=cell_below hE (by simp only;omega) c1
    clear hd
    exact ze (W':=W) (by simp [execOp,o0,f_c0,f_c1,go_sem]) (Below.refl _ _) rfl
   case s1 =>
    intro val ρ W hE hz hd hA hx
    have o0:ρ (.tmp 1) = .pointer (some ⟨w.heap.size,0,none⟩):=hA.old 1 (by decide)
    clear hd
    exact ze (W':=W) (by simp [execOp,o0,go_sem]) (Below.refl _ _) rfl
   case s2 =>
    intro val ρ W hE hz hd hA hx
    have d1:ρ (.tmp 24) = .pointer (some ⟨w.heap.size,1,none⟩):=(hA.dep 1 (by decide) 24 rfl).trans (hd 1 (by decide))
    have f_c1:=cell_below hE (by simp only;omega) c1
    clear hd
    exact ze (W':=W) (by simp [execOp,d1,f_c1,go_sem]) (Below.refl _ _) rfl
   case s3 =>
    intro val ρ W hE hz hd hA hx
    have o0:ρ (.tmp 3) = .int .i64 k:=hA.old 3 (by decide)
    clear hd
    exact ze (W':=W) (by simp [execOp,o0,go_sem]) (Below.refl _ _) rfl
   case s4 =>
    intro val ρ W hE hz hd hA hx
    have d2:ρ (.tmp 25) = .slice (some ⟨b,off,none⟩) h.ws.length cap:=(hA.dep 2 (by decide) 25 rfl).trans (hd 2 (by decide))
    have d3:ρ (.tmp 26) = .int .i64 k:=(hA.dep 3 (by decide) 26 rfl).trans (hd 3 (by decide))
    clear hd
    exact ze (W':=W) (by simp [execOp,d2,d3,hki,go_sem]) (Below.refl _ _) rfl
   case s5 =>
    intro val ρ W hE hz hd hA hx
    have d4:ρ (.tmp 27) = .pointer (some ⟨b,off+k * 3,none⟩):=(hA.dep 4 (by decide) 27 rfl).trans (hd 4 (by decide))
    have f_ca:=cell_below hE (by simp only;omega) ca
    have f_cb:=cell_below hE (by simp only;omega) cb
    have f_cc:=cell_below hE (by simp only;omega) cc
    clear hd
    exact ze (W':=W) (by simp [execOp,d4,f_ca,f_cb,f_cc,go_sem]) (Below.refl _ _) rfl
   case s6 =>
    intro val ρ W hE hz hd hA hx
    have d0:ρ (.tmp 23) = .agg #[.int .i64 h.n,.slice (some ⟨b,off,none⟩) h.ws.length cap]:=(hA.dep 0 (by decide) 23 rfl).trans (hd 0 (by decide))
    have d5:ρ (.tmp 28) = .agg #[.int .i64 y.1,.int .i64 y.2.1,.int .i64 y.2.2]:=(hA.dep 5 (by decide) 28 rfl).trans (hd 5 (by decide))
    clear hd
    refine zbo 49 _ _ rfl #[.agg #[.int .i64 h.n,.slice (some ⟨b,off,none⟩) h.ws.length cap],.agg #[.int .i64 y.1,.int .i64 y.2.1,.int .i64 y.2.2]] (hA.func _) (by simp [d0,d5]) (fun args W=>Tryz.call49 args W) ((HIW.out W).mono ?_)
    rintro e w' ⟨rfl,hb⟩
    exact ⟨_,rfl,hb,rfl⟩
   case s7 =>
    intro val ρ W hE hz hd hA hx
    have d6:ρ (.tmp 29) = .bool o:=(hA.dep 6 (by decide) 29 rfl).trans (hd 6 (by decide))
    clear hd
    exact ze (W':=W) (by simp [execOp,d6,go_sem]) (Below.refl _ _) rfl
   case send =>
    intro val WW hE hzz hv
    obtain ⟨-,-,-,-,-,-,-,r7,-⟩:=hv
    have q7:val 7 = .bool (!o):=r7
    simp only [putD,q7]
    go_frame
    have HEW:=Lib.hid (HE.out.trans' hE)
    clear r7 q7 hzz hE c0 c1 ca cb cc hzb hz1 hz
    cases o
    ·have HF:=Lib.hid (HFull.out rfl)
     go_wp2_with fail
     go_ret
     exact ⟨by rw [HF.out];rfl,HW.out.trans' HEW.out⟩
    ·go_wp2_with fail
     go_roundw
     case rel=>exact ⟨k+1,by have:=HLT.out;omega,by go_num,by rw [HS.out,HNO.out];rfl,HEW.out⟩
     case measure=>simp [intOf];have:=HLT.out;omega
  ·have hki:¬ ((k:Int) < (h.ws.length:Int)):=by omega
   have hke:k=h.ws.length:=by omega
   have HF:Hid (zaw h=0):=Lib.hid (by
    rw [hke,List.take_length] at hno
    unfold zaw
    rw [if_neg HR.out,if_neg HL.out,if_neg (by rw [hno];simp)])
   clear hke hno hE
   go_wp2_with fail
   go_ret
   exact ⟨by rw [HF.out];rfl,HW.out.trans' HE.out⟩
end Go.Proofs.YtkfifbopmpcanaaGreat
namespace Go.Proofs.YtkfifbopmpcanaaGreat
open Go.RowKit Go.Shelf
attribute [local go_sem] Oper.semAt_some
theorem zlu (w:World) (N:Nat) (hN:N≤1000000):∃ w',(Instr.makeSlice 23 (.int .i64 (N:Int)) (.int .i64 (N:Int))).run Tryz.prog w = .ok (.slice (some ⟨w.heap.size,0,none⟩) N N) w'∧NumB w' w.heap.size N (fun _=>0)∧Ext w w':=by
 obtain ⟨i,z,hi,hz,hsi,hby,hzs⟩:=elInt.info
 have hz0:z = .int .i64 0:=by
  have h1:(Tryz.prog.info? 3).map (fun i=>i.zero)=some (some (.int .i64 0)):=by kernel_rfl
  rw [hi] at h1
  simp [hz] at h1
  exact h1
 subst hz0
 obtain ⟨w',hrun,hown,hg⟩:=run_makeSlice_full (P:=Tryz.prog) w w.heap.size 23 3 i (.int .i64 0) 1 elInt.und hi hz hsi .i64 .i64 N (by omega) (by have:=Nat.mul_le_mul hby hN;omega) (by simp [maxLen];omega) (Nat.le_refl _)
 rw [Nat.mul_one] at hown
 obtain ⟨cur,hc,hI⟩:=zs7 hown
 exact ⟨w',hrun,⟨cur,hc,by rw [hI.size];omega,fun j hj=>hI.at_ j hj⟩,(Below.refl _ w).grown hg (Nat.le_refl _) fun k hk=>by cases hk⟩
theorem NumB.list {W:World} {g n:Nat} {f:Nat→Int} (h:NumB W g n f):∃ l:List Int,l.length=n∧NumB W g n (gt l):=by
 refine ⟨(List.range n).map f,by simp,h.congr fun j hj=>?_⟩
 unfold gt
 rw [List.getD_eq_getElem?_getD,List.getElem?_map,List.getElem?_range hj];rfl
theorem NumB.ext {W W':World} {g n:Nat} {f:Nat→Int} (h:NumB W g n f) (e:Ext W W'):NumB W' g n f:=h.of_heap (e.block _ h.lt)
set_option maxRecDepth 100000 in
set_option maxHeartbeats 4000000 in
theorem zwy (n:Nat) (l:List Int) (v:Value) (w:World) (hv:IsInts w .u8 v l) (hn:n≤5) :
  Calls Tryz.prog 20 #[.int .i64 n,v] w fun e w'=>∃ (f:List Int) (sv:Value),e = .returned sv∧Ext w w'∧IsInts w' .i64 sv f∧f.length=n:=by
 obtain ⟨va,vc,rfl,h1,h2,hc⟩:=hv.spec
 have HC:=Lib.hid hc
 clear hc hv
 obtain ⟨W1,hmk,hnum,hE1⟩:=zlu w n (by omega)
 obtain ⟨a,ha⟩:∃ a,a=w.heap.size:=⟨_,rfl⟩
 have HA:=Lib.hid ha
 rw [← ha] at hmk hnum
 have HN1:=Lib.hid hnum
 have HE1:=Lib.hid hE1
 clear ha hnum hE1
 go_enter Tryz.func20,Tryz.ntmps20
 go_upto_region 2 with (simp only [hmk])
 clear hmk
 go_wp2_with fail
 go_loopw [6] (fun iv W=>∃ k:Nat,k≤n∧iv = .int .i64 k∧(∃ f,NumB W a n f)∧Ext w W) (fun iv _=>n - (intOf iv).toNat)
 case atStart=>exact ⟨0,by omega,rfl,⟨_,HN1.out⟩,HE1.out⟩
 case round =>
  obtain ⟨k,hk,rfl,⟨f,hf⟩,hE⟩:=hrel
  have HE:=Lib.hid hE
  have HF:=Lib.hid hf
  have haw:w.heap.size≤a:=by rw [HA.out];exact Nat.le_refl _
  by_cases hlt:k < n
  ·have hki:(k:Int) < (n:Int):=by omega
   have ck:=hf.cell k hlt
   have hfr:=hf.free k
   have hgl:=hf.lt
   have hF1:=hf.set k k
   have HF1:=Lib.hid hF1
   by_cases h0:l.length=0
   ·have h0i:decide ((0:Int) < (l.length:Int))=false:=by rw [decide_eq_false_iff_not];omega
    have h0n:decide (0 < l.length)=false:=by rw [decide_eq_false_iff_not];omega
    clear hE hf hF1 h0
    go_wp2_with fail
    go_roundw
    case rel=>exact ⟨k+1,by omega,by go_num,⟨_,HF1.out⟩,HE.out.setCell (p:=⟨a,k,none⟩) haw _⟩
    case measure=>simp [intOf];omega
   ·have h0i:decide ((0:Int) < (l.length:Int))=true:=by rw [decide_eq_true_eq];omega
    have h0n:decide (0 < l.length)=true:=by rw [decide_eq_true_eq];omega
    rcases HC.out with hc | ⟨b,off,rfl,hc⟩
    ·rw [hc] at h0;simp at h0
    have hml:k % l.length < l.length:=Nat.mod_lt _ (by omega)
    have hc2:=zh hE (hc _ hml)
    have hbz:=World.block_lt_of_cell? _ _ (hc _ hml)
    simp only at hbz
    have hba:b≠a:=by rw [HA.out];omega
    have hmod:(k:Int).tmod (l.length:Int)=((k % l.length:Nat):Int):=by rw [Int.ofNat_tmod]
    have hmod2:(k:Int) % (l.length:Int)=((k % l.length:Nat):Int):=by rw [Int.natCast_emod]
    obtain ⟨j,hj⟩:∃ j,j=k % l.length:=⟨_,rfl⟩
    obtain ⟨x,hx⟩:∃ x,x=l[k % l.length]:=⟨_,rfl⟩
    rw [← hx] at hc2
    simp only [← hj] at hmod hmod2 hc2
    have hji:(j:Int) < (l.length:Int):=by omega
    obtain ⟨X,hX⟩:∃ X,X=wr.setCell ⟨a,k,none⟩ (.int .i64 k):=⟨_,rfl⟩
    have HEX:Hid (Ext w X):=Lib.hid (by rw [hX];exact hE.setCell (p:=⟨a,k,none⟩) haw _)
    rw [← hX] at hF1 HF1
    have ckX:=hF1.cell k hlt
    have hfX:=hF1.free k
    have hgX:=hF1.lt
    have cX:X.cell? ⟨b,off+j,none⟩=some (.int .u8 x):=zh HEX.out (by have:=hc _ hml;rw [← hx] at this;simpa only [← hj] using this)
    have hbX:=World.block_lt_of_cell? _ _ cX
    simp only at hbX
    clear hE hf hF1 h0 hc hml hc2 hj hx
    go_upto_region 6 with (fail)
    rw [← hX]
    clear hX ck hfr hgl
    go_wp2_with fail
    go_roundw
    case rel=>exact ⟨k+1,by omega,by go_num,⟨_,HF1.out.set k _⟩,HEX.out.setCell (p:=⟨a,k,none⟩) haw _⟩
    case measure=>simp [intOf];omega
  ·have hki:¬ ((k:Int) < (n:Int)):=by omega
   obtain ⟨W2,hmk2,hnum2,hE2⟩:=zlu wr n (by omega)
   obtain ⟨c,hcc⟩:∃ c,c=wr.heap.size:=⟨_,rfl⟩
   rw [← hcc] at hmk2 hnum2
   have hgl:=hf.lt
   have hac:a≠c:=by omega
   have hcw:w.heap.size≤c:=by omega
   have HN2:=Lib.hid hnum2
   have HE2:=Lib.hid (HE.out.trans' hE2)
   have HF2:=Lib.hid (HF.out.ext hE2)
   have HAC:=Lib.hid hac
   clear hnum2 hE2 hf hE hcc hgl hac
   go_upto_region 9 with (simp only [hmk2])
   clear hmk2
   go_wp2_with fail
   go_loopw [8] (fun iv W=>∃ k:Nat,k≤n∧iv = .int .i64 k∧(∃ g,NumB W c n g)∧NumB W a n f∧Ext w W) (fun iv _=>n - (intOf iv).toNat)
   case atStart=>exact ⟨0,by omega,rfl,⟨_,HN2.out⟩,HF2.out,HE2.out⟩
   case round =>
    obtain ⟨i,hi,rfl,⟨g,hg⟩,hfa,hE⟩:=hrel
    have HE3:=Lib.hid hE
    have HFA:=Lib.hid hfa
    by_cases hlt:i < n
    ·have hii:(i:Int) < (n:Int):=by omega
     have ck:=hg.cell i hlt
     have hfr:=hg.free i
     have hgl:=hg.lt
     have HG1:=Lib.hid (hg.set i 1)
     have HFA1:=Lib.hid (hfa.of_heap (Below.heap_setCell wr ⟨c,i,none⟩ (.int .i64 1) a (fun e=>HAC.out e)))
     have HE4:=Lib.hid (hE.setCell (p:=⟨c,i,none⟩) hcw (.int .i64 1))
     clear hE hg hfa
     go_wp2_with fail
     go_loopw [9] (fun kv W=>∃ m:Nat,m≤n∧kv = .int .i64 m∧(∃ g,NumB W c n g)∧NumB W a n f∧Ext w W) (fun kv _=>n - (intOf kv).toNat)
     case atStart=>exact ⟨0,by omega,rfl,⟨_,HG1.out⟩,HFA1.out,HE4.out⟩
     case round =>
      obtain ⟨m,hm,rfl,⟨g2,hg2⟩,hfa2,hE5⟩:=hrel
      have HE5:=Lib.hid hE5
      have HFA2:=Lib.hid hfa2
      have HG2:=Lib.hid hg2
      by_cases hltm:m < n
      ·have hmi:(m:Int) < (n:Int):=by omega
       have am:=hfa2.cell m hltm
       have ai:=hfa2.cell i hlt
       have ci:=hg2.cell i hlt
       have hfr2:=hg2.free i
       have hal:=hfa2.lt
       have hgl2:=hg2.lt
       obtain ⟨x,hx⟩:∃ x,x=f m:=⟨_,rfl⟩
       obtain ⟨y,hy⟩:∃ y,y=f i:=⟨_,rfl⟩
       rw [← hx] at am
       rw [← hy] at ai
       clear hE5 hfa2 hg2 hx hy ck hfr hgl
       by_cases hxy:x < y
       ·go_wp2_with fail
        go_quiet (fail)
        go_wp2_with fail
        go_roundw
        case rel =>
         refine ⟨m+1,by omega,by go_num,⟨_,(HG2.out.of_heap (W':=wr.drewN nq) rfl).set i _⟩,?_,(HE5.out.drN _).setCell (p:=⟨c,i,none⟩) hcw _⟩
         exact (HFA2.out.of_heap (W':=wr.drewN nq) rfl).of_heap (Below.heap_setCell _ _ _ _ (fun e=>HAC.out e))
        case measure=>simp [intOf];omega
       ·go_wp2_with fail
        go_quiet (fail)
        go_wp2_with fail
        go_roundw
        case rel=>exact ⟨m+1,by omega,by go_num,⟨_,HG2.out.of_heap (W':=wr.drewN nq) rfl⟩,HFA2.out.of_heap (W':=wr.drewN nq) rfl,HE5.out.drN _⟩
        case measure=>simp [intOf];omega
      ·have hmi:¬ ((m:Int) < (n:Int)):=by omega
       clear hE5 hfa2 hg2 ck hfr hgl
       go_wp2_with fail
       go_roundw
       case rel=>exact ⟨i+1,by omega,by go_num,⟨_,HG2.out⟩,HFA2.out,HE5.out⟩
       case measure=>simp [intOf];omega
    ·have hii:¬ ((i:Int) < (n:Int)):=by omega
     have HG:=Lib.hid hg
     clear hE hg hfa
     go_wp2_with fail
     go_ret
     obtain ⟨l2,hl2,hn2⟩:=HG.out.list
     exact ⟨l2,_,rfl,HE3.out,hn2.intsC hl2.symm (Nat.le_refl _) (by omega),hl2⟩
end Go.Proofs.YtkfifbopmpcanaaGreat
namespace Go.Proofs.YtkfifbopmpcanaaGreat
open Go.RowKit Go.Shelf
attribute [local go_sem] Oper.semAt_some
theorem z28 {n k:Nat} (hn:n≤5) (hk:k≤5):n ^ k≤3125:=by
 have h1:n ^ k≤5 ^ k:=Nat.pow_le_pow_left hn k
 have h2:5 ^ k≤5 ^ 5:=Nat.pow_le_pow_right (by omega) hk
 have:5 ^ 5=3125:=by decide
 omega
set_option maxRecDepth 100000 in
set_option maxHeartbeats 4000000 in
theorem zsk (h:Rc) (sa:Option Addr) (cap:Nat) (w:World) (hw:IsWds w (.slice sa h.ws.length cap) h.ws) (h0:zaw h=0) (hA:agrL h=[]) :
  Calls Tryz.prog 19 #[.agg #[.int .i64 h.n,.slice sa h.ws.length cap]] w fun e w'=>e = .returned (.slice none 0 0)∧Ext w w':=by
 have V:=Lib.hid (zlt h0)
 obtain ⟨n,hn⟩:∃ n:Nat,h.n=n:=⟨h.n.toNat,by have:=V.out.n1;omega⟩
 have hn2:2≤n:=by have:=V.out.n1;omega
 have hn5:n≤5:=by have:=V.out.n5;omega
 have hnz:¬ h.n=0:=by omega
 have HNN:=Lib.hid hn
 have HV:=Lib.hid hw
 have HA:=Lib.hid hA
 clear hw hA hn
 go_enter Tryz.func19,Tryz.ntmps19
 go_upto_region 1 with (fail)
 obtain ⟨W0,hW0⟩:∃ W0,W0=w.alloc (.cells #[.int .i64 h.n,.slice sa h.ws.length cap] 65):=⟨_,rfl⟩
 have hE:Ext w W0:=by rw [hW0];exact xx
 have k0:W0.cell? ⟨w.heap.size,0,none⟩=some (.int .i64 h.n):=by rw [hW0];simp [go_sem]
 have k1:W0.cell? ⟨w.heap.size,1,none⟩=some (.slice sa h.ws.length cap):=by rw [hW0];simp [go_sem]
 have hz:w.heap.size < W0.heap.size:=World.block_lt_of_cell? _ _ k0
 have HW:=Lib.hid hE
 replace HV:=Lib.hid (HV.out.ext hE)
 rw [← hW0]
 clear hW0 hE
 go_wp2_with fail
 go_loopw [4,5] (fun av iv W=>∃ k:Nat,k≤n∧iv = .int .i64 k∧av = .int .i64 ((n ^ k:Nat):Int)∧W=W0) (fun _ iv _=>n - (intOf iv).toNat)
 case atStart=>exact ⟨0,by omega,rfl,rfl,rfl⟩
 case round =>
  obtain ⟨k,hk,rfl,rfl,hWW⟩:=hrel
  obtain rfl:=hWW.symm
  by_cases hlt:k < n
  ·have hki:(k:Int) < h.n:=by have:=HNN.out;omega
   have hp:((n ^ k:Nat):Int) * h.n=((n ^ (k+1):Nat):Int):=by rw [HNN.out,Nat.pow_succ];simp
   have hpb:=z28 (n:=n) (k:=k+1) hn5 (by omega)
   have hpw:IntKind.i64.wrap (((n ^ k:Nat):Int) * h.n)=((n ^ (k+1):Nat):Int):=by rw [hp];exact IntWalk.i64_in _ (by omega)
   obtain ⟨P,hP⟩:∃ P,P=n ^ k:=⟨_,rfl⟩
   obtain ⟨Q,hQ⟩:∃ Q,Q=n ^ (k+1):=⟨_,rfl⟩
   rw [← hP,← hQ] at hpw
   rw [← hP]
   have HQ:=Lib.hid hQ
   clear hp hpb hP hQ
   go_wp2_with fail
   go_roundw
   case rel=>exact ⟨k+1,by omega,by go_num,by rw [HQ.out],trivial⟩
   case measure=>simp [intOf];omega
  ·have hki:¬ ((k:Int) < h.n):=by have:=HNN.out;omega
   obtain ⟨N,hN⟩:∃ N,N=n ^ k:=⟨_,rfl⟩
   have hNb:N≤3125:=by rw [hN];exact z28 hn5 (by omega)
   rw [← hN]
   clear hN hk hlt
   go_wp2_with fail
   go_loopw [3,6] (fun ov iv W=>∃ i:Nat,i≤N∧iv = .int .i64 i∧ov = .slice none 0 0∧Ext W0 W) (fun _ iv _=>N - (intOf iv).toNat)
   case atStart=>exact ⟨0,by omega,rfl,rfl,Below.refl _ _⟩
   case round =>
    obtain ⟨i,hi,rfl,rfl,hE⟩:=hrel
    obtain ⟨X,rfl⟩:∃ X,X=wr:=⟨_,rfl⟩
    have HE:=Lib.hid hE
    have k0:=zh hE k0
    have k1:=zh hE k1
    have hz:=World.block_lt_of_cell? _ _ k0
    simp only at hz
    by_cases hlt:i < N
    ·have hii:(i:Int) < (N:Int):=by omega
     obtain ⟨W1,hmk,hnum,hE1⟩:=zlu X n (by omega)
     rw [← HNN.out] at hmk
     obtain ⟨a,ha⟩:∃ a,a=X.heap.size:=⟨_,rfl⟩
     rw [← ha] at hmk hnum
     have haX:X.heap.size≤a:=by omega
     have HN1:=Lib.hid hnum
     have HE1:=Lib.hid hE1
     have K0:=Lib.hid k0
     have K1:=Lib.hid k1
     clear hnum hE1 ha hE
     go_upto_region 10 with (fail)
     go_upto_region 11 with (simp only [hmk])
     clear hmk k0 k1 hz
     have k0:=zh HE1.out K0.out
     have hz:=World.block_lt_of_cell? _ _ k0
     simp only at hz
     have hwn:IntKind.i64.wrap (h.n - 1)=h.n - 1:=IntWalk.i64_in _ (by have:=HNN.out;omega)
     go_wp2_with fail
     clear hwn
     go_loopw [8,9] (fun rv jv W=>∃ (x j:Int) (g:Nat→Int),rv = .int .i64 x∧jv = .int .i64 j∧-1≤j∧j < n∧NumB W a n g∧Ext X W) (fun _ jv _=>(intOf jv+1).toNat)
     case atStart=>exact ⟨_,_,_,rfl,rfl,by have:=HNN.out;omega,by have:=HNN.out;omega,HN1.out,HE1.out⟩
     case round =>
      obtain ⟨x,j,g,rfl,rfl,hj0,hj1,hg,hEX⟩:=hrel
      have HG:=Lib.hid hg
      have HEX:=Lib.hid hEX
      have k0:=zh hEX K0.out
      have hz:=World.block_lt_of_cell? _ _ k0
      simp only at hz
      by_cases hj:0≤j
      ·obtain ⟨j,rfl⟩:∃ jn:Nat,j=jn:=⟨j.toNat,by omega⟩
       have hjn:j < n:=by omega
       have hjx:(0:Int)≤(j:Int):=by omega
       have c0:=hg.cell j hjn
       have cf:=hg.free j
       have cz:=hg.lt
       have hjh:(j:Int) < h.n:=by have:=HNN.out;omega
       have hwx:=World.block_lt_of_cell? _ _ K0.out
       simp only at hwx
       have hne:a≠w.heap.size:=by omega
       have hwj:IntKind.i64.wrap ((j:Int) - 1)=(j:Int) - 1:=IntWalk.i64_in _ (by omega)
       clear hg hEX
       go_wp2_with fail
       go_roundw
       case rel=>exact ⟨_,_,_,rfl,rfl,by omega,by omega,HG.out.set j _,HEX.out.setCell (p:=⟨a,j,none⟩) haX _⟩
       case measure=>first | (simp [intOf];done) | (simp [intOf];omega)
      ·have hjx:¬ ((0:Int)≤j):=hj
       obtain ⟨f,hf,hnf⟩:=hg.list
       have hI:IsInts _ .i64 (.slice (some ⟨a,0,none⟩) n n) f:=hnf.intsC hf.symm (Nat.le_refl _) (by omega)
       have HI:=Lib.hid hI
       have HF:=Lib.hid hf
       obtain ⟨Y,rfl⟩:∃ Y,Y=wr:=⟨_,rfl⟩
       have k1:=zh hEX K1.out
       replace HV:=Lib.hid ((HV.out.ext HE.out).ext hEX)
       have HIY:=Lib.hid (HE.out.trans' hEX)
       clear hg hnf hf hI hEX
       have t1:=fun W h1=>z0n f (.slice (some ⟨a,0,none⟩) n n) W h1 (by rw [HF.out];omega)
       rw [HF.out] at t1
       have T1:=Lib.hid t1
       clear t1
       go_wp2_with fail
       refine za0 (W0:=Y) (g:=⟨Y,Below.refl _ _⟩) xx (T1.out _ (HI.out.ext xx)) fun g1 hgr=>?_
       clear hgr
       cases hfin:zay n f
       ·go_wp2_with fail
        go_roundw
        case rel=>exact ⟨i+1,by omega,by go_num,rfl,HIY.out.trans' (zu Y _)⟩
        case measure=>simp [intOf];omega
       ·have hno:agrP h.ws f=false:=by
         cases hag:agrP h.ws f with
         | false=>rfl
         | true =>
          have:f∈agrL h:=mem_agr.2 ⟨by rw [show h.n.toNat=n by have:=HNN.out;omega];exact hfin,hag⟩
          rw [HA.out] at this
          cases this
        have t2:=fun W h1 h2=>zx1 h sa cap f (.slice (some ⟨a,0,none⟩) n n) W h1 h2 (fun x hx=>by rw [HF.out];have:=V.out.okn x hx;rw [show h.n.toNat=n by have:=HNN.out;omega] at this;exact this)
        rw [hno] at t2
        have T2:=Lib.hid t2
        clear t2 hno hfin
        go_wp2_with fail
        refine za0 (W0:=Y) (g:=g1) xx (T2.out _ (HV.out.ext xx) (HI.out.ext xx)) fun g2 hgr=>?_
        clear hgr
        go_wp2_with fail
        go_roundw
        case rel=>exact ⟨i+1,by omega,by go_num,rfl,HIY.out.trans' (zu Y _)⟩
        case measure=>simp [intOf];omega
    ·have hii:¬ ((i:Int) < (N:Int)):=by omega
     clear hE
     go_wp2_with fail
     refine bodyPost_ret (v:=.slice none 0 0) (by simp [results,Tryz.results19,go_sem]) rfl ?_
     exact ⟨rfl,HW.out.trans' HE.out⟩
end Go.Proofs.YtkfifbopmpcanaaGreat
