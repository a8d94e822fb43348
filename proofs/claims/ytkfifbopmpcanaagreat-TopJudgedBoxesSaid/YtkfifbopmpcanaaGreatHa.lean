/-
  slices.IndexFunc and slices.ContainsFunc at each type of elements that the chapter uses: where the first good element stands, whatever closure tells which are good (it must answer in every later world, and turn nothing that there was).
-/
import Derived.Test.YtkfifbopmpcanaaGreatBb
import Derived.Test.YtkfifbopmpcanaaGreatPf
import Derived.Test.YtkfifbopmpcanaaGreatPa
import Derived.Test.YtkfifbopmpcanaaGreatBa
import Derived.Laws.EntriesVeiled
namespace Go.Proofs.YtkfifbopmpcanaaGreat
open Go.RowKit
set_option maxHeartbeats 400000 in
theorem zxs (l:List Wd) (sa:Option Addr) (cap:Nat) (f:Nat) (cs:Array Value) (p:Wd→Bool) (w:World)
  (hl:l.length≤9223372036854775807)
  (hs:l=[]∨∃ b off,sa=some ⟨b,off,none⟩∧∀ i,(h:i < l.length)→w.cell? ⟨b,off+i * 3,none⟩=some (.int .i64 l[i].1)∧w.cell? ⟨b,off+i * 3+1,none⟩=some (.int .i64 l[i].2.1)∧w.cell? ⟨b,off+i * 3+2,none⟩=some (.int .i64 l[i].2.2))
  (hcall:∀ args W,(callFunc f args).run Tryz.prog W = .ok (.enter f args) W)
  (hf:∀ x,x∈l→∀ W,Ext w W→Calls Tryz.prog f (#[.agg #[.int .i64 x.1,.int .i64 x.2.1,.int .i64 x.2.2]] ++ cs) W fun e W'=>e = .returned (.bool (p x))∧Ext W W') :
  Calls Tryz.prog 178 #[.slice sa l.length cap,.func (.func f) #[] cs] w fun e w'=>e = .returned (.int .i64 (fidx p l))∧Ext w w':=by
 have Hf:=Lib.hid hf
 clear hf
 go_enter Tryz.func178,Tryz.ntmps178
 go_wp2
 go_loopw [8] (fun i W=>∃ k:Nat,k≤l.length∧i = .int .i64 k∧(∀ x∈l.take k,p x=false)∧Ext w W) (fun i _=>l.length - (intOf i).toNat)
 case atStart=>exact ⟨0,Nat.zero_le _,rfl,by simp,Below.refl _ _⟩
 case round =>
  obtain ⟨k,hk,rfl,hno,hb⟩:=hrel
  have HN:=Lib.hid hno
  clear hno
  by_cases hlt:k < l.length
  ·have hs':∃ b off,sa=some ⟨b,off,none⟩∧∀ i,(h:i < l.length)→w.cell? ⟨b,off+i * 3,none⟩=some (.int .i64 l[i].1)∧w.cell? ⟨b,off+i * 3+1,none⟩=some (.int .i64 l[i].2.1)∧w.cell? ⟨b,off+i * 3+2,none⟩=some (.int .i64 l[i].2.2):=by
    rcases hs with rfl | h
    ·simp at hlt
    ·exact h
   clear hs
   obtain ⟨b,off,rfl,hc⟩:=hs'
   have hc1:=hc k hlt
   have HC:Hid (∀ i,(h:i < l.length)→w.cell? ⟨b,off+i * 3,none⟩=some (.int .i64 l[i].1)∧w.cell? ⟨b,off+i * 3+1,none⟩=some (.int .i64 l[i].2.1)∧w.cell? ⟨b,off+i * 3+2,none⟩=some (.int .i64 l[i].2.2)):=Lib.hid hc
   clear hc
   obtain ⟨a0,a1,a2⟩:=hc1
   have c0:=zh hb a0
   have c1:=zh hb a1
   have c2:=zh hb a2
   clear a0 a1 a2
   go_wp2_with fail
   refine (Hf.out l[k] (List.getElem_mem hlt) _ hb).mono ?_
   rintro e W' ⟨rfl,hb'⟩
   cases hp:p l[k]
   ·go_wp2
    go_roundw
    case rel=>exact ⟨k+1,by omega,by go_num,zll hlt HN.out hp,hb.trans' hb'⟩
    case measure=>simp [intOf];omega
   ·go_wp2
    go_ret
    exact ⟨zau (zoc hlt HN.out hp).symm,hb.trans' hb'⟩
  ·go_wp2
   go_ret
   exact ⟨zau (zhy (zlm hlt HN.out)).symm,hb⟩
set_option maxHeartbeats 400000 in
theorem zkr (l:List Wd) (sa:Option Addr) (cap:Nat) (f:Nat) (cs:Array Value) (p:Wd→Bool) (w:World)
  (hl:l.length≤9223372036854775807)
  (hs:l=[]∨∃ b off,sa=some ⟨b,off,none⟩∧∀ i,(h:i < l.length)→w.cell? ⟨b,off+i * 3,none⟩=some (.int .i64 l[i].1)∧w.cell? ⟨b,off+i * 3+1,none⟩=some (.int .i64 l[i].2.1)∧w.cell? ⟨b,off+i * 3+2,none⟩=some (.int .i64 l[i].2.2))
  (hcall:∀ args W,(callFunc f args).run Tryz.prog W = .ok (.enter f args) W)
  (hf:∀ x,x∈l→∀ W,Ext w W→Calls Tryz.prog f (#[.agg #[.int .i64 x.1,.int .i64 x.2.1,.int .i64 x.2.2]] ++ cs) W fun e W'=>e = .returned (.bool (p x))∧Ext W W') :
  Calls Tryz.prog 114 #[.slice sa l.length cap,.func (.func f) #[] cs] w fun e w'=>e = .returned (.bool (l.any p))∧Ext w w':=by
 have H:=Lib.hid (zxs l sa cap f cs p w hl hs hcall hf)
 clear hf hs hcall
 go_enter Tryz.func114,Tryz.ntmps114
 go_wp2_with fail
 refine H.out.mono ?_
 rintro e W' ⟨rfl,hb⟩
 go_wp2
 all_goals
  go_ret
  refine ⟨zan ?_,hb⟩
  rw [← zlk]
end Go.Proofs.YtkfifbopmpcanaaGreat
namespace Go.Proofs.YtkfifbopmpcanaaGreat
open Go.RowKit Go.Shelf
def zoh (w:Wd):List Value:=[.int .i64 w.1,.int .i64 w.2.1,.int .i64 w.2.2]
def IsWds (w:World) (v:Value) (l:List Wd):Prop:=IsRows w 3 v (l.map zoh)
theorem IsWds.ext {w w':World} (h:Ext w w') {v:Value} {l:List Wd} (hr:IsWds w v l):IsWds w' v l:=IsRows.ext h hr
theorem IsWds.spec {w:World} {v:Value} {l:List Wd} (h:IsWds w v l) :
  ∃ sa cap,v = .slice sa l.length cap∧l.length≤cap∧cap≤9223372036854775807∧(l=[]∨∃ b off,sa=some ⟨b,off,none⟩∧∀ i,(h:i < l.length) →
   w.cell? ⟨b,off+i * 3,none⟩=some (.int .i64 l[i].1)∧w.cell? ⟨b,off+i * 3+1,none⟩=some (.int .i64 l[i].2.1)∧w.cell? ⟨b,off+i * 3+2,none⟩=some (.int .i64 l[i].2.2)):=by
 obtain ⟨sa,cap,h1,h2,h3,h4⟩:=h
 refine ⟨sa,cap,by simpa using h1,by simpa using h2,h3,?_⟩
 rcases h4 with h4 | ⟨b,off,e,h4⟩
 ·exact .inl (by simpa using h4)
 ·refine .inr ⟨b,off,e,fun i hi=>?_⟩
  have c0:=h4 i (by simpa using hi) 0 (by simp [zoh])
  have c1:=h4 i (by simpa using hi) 1 (by simp [zoh])
  have c2:=h4 i (by simpa using hi) 2 (by simp [zoh])
  simp [zoh] at c0 c1 c2
  exact ⟨c0,c1,c2⟩
theorem IsWds.at {w:World} {l:List Wd} {sa:Option Addr} {cap:Nat} (h:IsWds w (.slice sa l.length cap) l):l=[]∨∃ b off,sa=some ⟨b,off,none⟩∧∀ i,(h:i < l.length) →
   w.cell? ⟨b,off+i * 3,none⟩=some (.int .i64 l[i].1)∧w.cell? ⟨b,off+i * 3+1,none⟩=some (.int .i64 l[i].2.1)∧w.cell? ⟨b,off+i * 3+2,none⟩=some (.int .i64 l[i].2.2):=by
 obtain ⟨_,_,e,_,_,h3⟩:=h.spec
 cases e
 exact h3
theorem IsWds.caps {w:World} {l:List Wd} {sa:Option Addr} {cap:Nat} (h:IsWds w (.slice sa l.length cap) l):l.length≤cap∧cap≤9223372036854775807:=by
 obtain ⟨_,_,e,h1,h2,-⟩:=h.spec
 cases e
 exact ⟨h1,h2⟩
set_option maxHeartbeats 400000 in
theorem zws (n lo hi:Int) (a b:Addr) (w:World) (h1:w.cell? a=some (.int .i64 lo)) (h2:w.cell? b=some (.int .i64 hi)) :
  Calls Tryz.prog 109 #[.int .i64 n,.pointer (some a),.pointer (some b)] w fun e w'=>e = .returned (.bool (decide (n < lo) || decide (hi < n)))∧Ext w w':=by
 go_enter Tryz.func109,Tryz.ntmps109
 go_wp2
 all_goals
  go_ret
  exact ⟨zan (by simp [*]),Below.refl _ _⟩
set_option maxHeartbeats 400000 in
theorem zeg (lo hi:Int) (v:Value) (l:List Int) (w:World) (hv:IsInts w .i64 v l) :
  Calls Tryz.prog 51 #[.int .i64 lo,.int .i64 hi,v] w fun e w'=>e = .returned (.bool (l.all (inR lo hi)))∧Ext w w':=by
 obtain ⟨sa,cap,rfl,h1,h2,h3⟩:=hv.spec
 have H3:=Lib.hid h3
 clear h3 hv
 go_enter Tryz.func51,Tryz.ntmps51
 go_wp2_with fail
 have hE:Ext w ((w.alloc (.cells #[.int .i64 lo] 3)).alloc (.cells #[.int .i64 hi] 3)):=((Below.refl _ _).alloc (Nat.le_refl _) _).alloc (by simp) _
 have e1:((w.alloc (.cells #[.int .i64 lo] 3)).alloc (.cells #[.int .i64 hi] 3)).cell? ⟨w.heap.size,0,none⟩=some (.int .i64 lo):=by simp [go_sem]
 have e2:((w.alloc (.cells #[.int .i64 lo] 3)).alloc (.cells #[.int .i64 hi] 3)).cell? ⟨w.heap.size+1,0,none⟩=some (.int .i64 hi):=by simp [go_sem]
 refine (zrg l sa cap 109 #[.pointer (some ⟨w.heap.size,0,none⟩),.pointer (some ⟨w.heap.size+1,0,none⟩)] (fun n=>decide (n < lo) || decide (hi < n)) _ (by omega) (H3.out.imp id fun ⟨b,off,e,hc⟩=>⟨b,off,e,fun i hi=>zh hE (hc i hi)⟩)
  (fun args W=>Tryz.call109 args W) (fun x _ W hW=>zws x lo hi _ _ W (zh hW e1) (zh hW e2))).mono ?_
 rintro e W' ⟨rfl,hb⟩
 clear e1 e2
 go_wp2
 all_goals
  go_ret
  refine ⟨zan (a:=!l.any fun n=>decide (n < lo) || decide (hi < n)) ?_,hE.trans' hb⟩
  exact zy6 lo hi l
theorem z0h {w:World} {b cap:Nat} {x y:Int} (h2:2≤cap) (h3:cap≤9223372036854775807) (c0:w.cell? ⟨b,0,none⟩=some (.int .i64 x)) (c1:w.cell? ⟨b,1,none⟩=some (.int .i64 y)) :
  IsInts w .i64 (.slice (some ⟨b,0,none⟩) 2 cap) [x,y]:=by
 refine IsInts.mk (l:=[x,y]) (off:=0) (by simpa using h2) h3 fun i hi=>?_
 match i,hi with
 | 0,_=>simpa using c0
 | 1,_=>simpa using c1
theorem zy7 (n x:Int):inR 0 (n - 1) x=decide (0≤x∧x < n):=by
 unfold inR
 by_cases h1:x < 0<;>by_cases h2:n - 1 < x<;>simp [h1,h2]<;>omega
theorem z7e (x:Int):inR 0 2 x=decide (0≤x∧x≤2):=by
 unfold inR
 by_cases h1:x < 0<;>by_cases h2:2 < x<;>simp [h1,h2]<;>omega
set_option maxRecDepth 100000 in
set_option maxHeartbeats 1000000 in
theorem zxt (h:Rc) (sa:Option Addr) (cap:Nat) (x:Wd) (w:World) (hn1:2≤h.n) (hn2:h.n≤5) :
  Calls Tryz.prog 174 #[.agg #[.int .i64 h.n,.slice sa h.ws.length cap],.agg #[.int .i64 x.1,.int .i64 x.2.1,.int .i64 x.2.2]] w fun e w'=>e = .returned (.bool (okWd h.n x))∧Ext w w':=by
 go_enter Tryz.func174,Tryz.ntmps174
 go_upto_region 1 with (fail)
 obtain ⟨W0,hW0⟩:∃ W0,W0=(w.alloc (.cells #[.int .i64 h.n,.slice sa h.ws.length cap] 65)).alloc (.cells #[.int .i64 x.1,.int .i64 x.2.1,.int .i64 x.2.2] 117):=⟨_,rfl⟩
 have hE:Ext w W0:=by rw [hW0];exact xx
 have k0:W0.cell? ⟨w.heap.size,0,none⟩=some (.int .i64 h.n):=by rw [hW0];simp [go_sem]
 have c0:W0.cell? ⟨w.heap.size+1,0,none⟩=some (.int .i64 x.1):=by rw [hW0];simp [go_sem]
 have c1:W0.cell? ⟨w.heap.size+1,1,none⟩=some (.int .i64 x.2.1):=by rw [hW0];simp [go_sem]
 have c2:W0.cell? ⟨w.heap.size+1,2,none⟩=some (.int .i64 x.2.2):=by rw [hW0];simp [go_sem]
 have hz1:w.heap.size+1 < W0.heap.size:=World.block_lt_of_cell? _ _ c0
 have hz:w.heap.size < W0.heap.size:=by omega
 have HW:=Lib.hid hE
 rw [← hW0]
 clear hW0 hE
 by_cases h0:x.1=x.2.1
 ·have e0:(x.1 != x.2.1)=false:=by simpa using h0
  have H0:=Lib.hid h0
  clear h0
  go_wp2_with fail
  go_ret
  exact ⟨zan (by unfold okWd;rw [decide_eq_false (fun e=>e H0.out)];rfl),HW.out⟩
 have e0:(x.1 != x.2.1)=true:=by simpa using h0
 have H0:=Lib.hid h0
 clear h0
 go_wp2_with fail
 refine za0 (W0:=W0) (g:=⟨W0,Below.refl _ _⟩) xx (zeg 0 (h.n - 1) _ [x.1,x.2.1] _ (z0h (by omega) (by omega) (by simp [go_sem]) (by simp [go_sem]))) fun g1 hgr=>?_
 clear hgr
 have hall:[x.1,x.2.1].all (inR 0 (h.n - 1))=(decide (0≤x.1∧x.1 < h.n) && decide (0≤x.2.1∧x.2.1 < h.n)):=by
  simp only [List.all_cons,List.all_nil,Bool.and_true,zy7]
 rw [hall]
 clear hall
 cases h1:(decide (0≤x.1∧x.1 < h.n) && decide (0≤x.2.1∧x.2.1 < h.n))
 ·have H1:=Lib.hid h1
  clear h1
  go_wp2_with fail
  go_ret
  exact ⟨zan (by unfold okWd;rw [H1.out,Bool.and_false];rfl),HW.out.trans' (zu W0 _)⟩
 have H1:=Lib.hid h1
 clear h1
 go_wp2_with fail
 refine za0 (W0:=W0) (g:=g1) xx (zeg 0 2 _ [x.2.2] _ (zcf (by omega) (by omega) (by simp [go_sem]))) fun g2 hgr=>?_
 clear hgr
 rw [zog,z7e]
 go_wp2_with fail
 go_ret
 exact ⟨zan (by unfold okWd;rw [H1.out,decide_eq_true H0.out];simp),HW.out.trans' (zu W0 _)⟩
end Go.Proofs.YtkfifbopmpcanaaGreat
namespace Go.Proofs.YtkfifbopmpcanaaGreat
open Go.RowKit Go.Shelf
structure RaceAt (w:World) (p:Nat) (h:Rc) (sa:Option Addr) (cap:Nat):Prop where
 c0:w.cell? ⟨p,0,none⟩=some (.int .i64 h.n)
 c1:w.cell? ⟨p,1,none⟩=some (.slice sa h.ws.length cap)
theorem RaceAt.ext {w w':World} (e:Ext w w') {p:Nat} {h:Rc} {sa:Option Addr} {cap:Nat} (k:RaceAt w p h sa cap):RaceAt w' p h sa cap:=⟨zh e k.c0,zh e k.c1⟩
theorem RaceAt.lt {w:World} {p:Nat} {h:Rc} {sa:Option Addr} {cap:Nat} (k:RaceAt w p h sa cap):p < w.heap.size:=World.block_lt_of_cell? _ _ k.c0
set_option maxRecDepth 100000 in
set_option maxHeartbeats 1000000 in
theorem zxu (h:Rc) (sa:Option Addr) (cap p:Nat) (x:Wd) (w:World) (hr:RaceAt w p h sa cap) (hn1:2≤h.n) (hn2:h.n≤5) :
  Calls Tryz.prog 173 #[.agg #[.int .i64 x.1,.int .i64 x.2.1,.int .i64 x.2.2],.pointer (some ⟨p,0,none⟩)] w fun e w'=>e = .returned (.bool (!okWd h.n x))∧Ext w w':=by
 have k0:=hr.c0
 have k1:=hr.c1
 have hz:=hr.lt
 go_enter Tryz.func173,Tryz.ntmps173
 go_wp2_with fail
 refine (zxt h sa cap x _ hn1 hn2).mono ?_
 rintro e W' ⟨rfl,hb⟩
 have hb2:Ext w W':=Ext.trans' (by exact xx) hb
 go_wp2_with fail
 go_ret
 exact ⟨rfl,hb2⟩
set_option maxRecDepth 100000 in
set_option maxHeartbeats 1000000 in
theorem z0i (h:Rc) (sa:Option Addr) (cap:Nat) (w:World) (hv:IsWds w (.slice sa h.ws.length cap) h.ws):Calls Tryz.prog 107 #[.agg #[.int .i64 h.n,.slice sa h.ws.length cap]] w fun e w'=>e = .returned (.int .i64 (zaw h))∧Ext w w':=by
 obtain ⟨h1,h2⟩:=hv.caps
 have HV:=Lib.hid hv
 clear hv
 go_enter Tryz.func107,Tryz.ntmps107
 go_upto_region 1 with (fail)
 obtain ⟨W0,hW0⟩:∃ W0,W0=w.alloc (.cells #[.int .i64 h.n,.slice sa h.ws.length cap] 65):=⟨_,rfl⟩
 have hE:Ext w W0:=by rw [hW0];exact xx
 have k0:W0.cell? ⟨w.heap.size,0,none⟩=some (.int .i64 h.n):=by rw [hW0];simp [go_sem]
 have k1:W0.cell? ⟨w.heap.size,1,none⟩=some (.slice sa h.ws.length cap):=by rw [hW0];simp [go_sem]
 have hz:w.heap.size < W0.heap.size:=World.block_lt_of_cell? _ _ k0
 have HW:=Lib.hid hE
 have HR:Hid (RaceAt W0 w.heap.size h sa cap):=Lib.hid ⟨k0,k1⟩
 replace HV:=Lib.hid (HV.out.ext hE)
 rw [← hW0]
 clear hW0 hE
 go_wp2_with fail
 refine za0 (W0:=W0) (g:=⟨W0,Below.refl _ _⟩) xx (zeg 2 5 _ [h.n] _ (zcf (by omega) (by omega) (by simp [go_sem]))) fun g1 hgr=>?_
 clear hgr
 rw [zog]
 cases hr:inR 2 5 h.n
 ·go_wp2_with fail
  go_ret
  have:h.n < 2∨5 < h.n:=by
   unfold inR at hr
   simp at hr;omega
  exact ⟨zau (k:=.i64) (a:=3) (by unfold zaw;rw [if_pos this]),HW.out.trans' (zu W0 _)⟩
 rw [inR_iff] at hr
 obtain ⟨hn1,hn2⟩:=hr
 have HN:Hid (¬ (h.n < 2∨5 < h.n)):=Lib.hid (by omega)
 by_cases hl:12 < h.ws.length
 ·have hli:decide ((12:Int) < (h.ws.length:Int))=true:=by rw [decide_eq_true_eq];omega
  have HL:=Lib.hid hl
  clear hl
  go_wp2_with fail
  go_ret
  exact ⟨zau (k:=.i64) (a:=6) (by unfold zaw;rw [if_neg HN.out,if_pos HL.out]),HW.out.trans' (zu W0 _)⟩
 have hli:decide ((12:Int) < (h.ws.length:Int))=false:=by rw [decide_eq_false_iff_not];omega
 have HL:=Lib.hid hl
 clear hl
 go_wp2_with fail
 refine za0 (W0:=W0) (g:=g1) xx (zkr h.ws sa cap 173 #[.pointer (some ⟨w.heap.size,0,none⟩)] (fun x=>!okWd h.n x) _ (by omega) ((HV.out.ext xx)).at (fun args W=>Tryz.call173 args W) (fun x _ W hW=>zxu h sa cap _ x W (((HR.out.ext xx)).ext hW) hn1 hn2)) fun g2 hgr=>?_
 clear hgr
 cases ha:h.ws.any (fun x=>!okWd h.n x)
 ·have HA:=Lib.hid ha
  clear ha
  go_wp2_with fail
  go_ret
  exact ⟨zau (k:=.i64) (a:=0) (by unfold zaw;rw [if_neg HN.out,if_neg HL.out,if_neg (by rw [HA.out];simp)]),HW.out.trans' (zu W0 _)⟩
 ·have HA:=Lib.hid ha
  clear ha
  go_wp2_with fail
  go_ret
  exact ⟨zau (k:=.i64) (a:=2) (by unfold zaw;rw [if_neg HN.out,if_neg HL.out,if_pos HA.out]),HW.out.trans' (zu W0 _)⟩
set_option maxRecDepth 100000 in
set_option maxHeartbeats 1000000 in
theorem ztk (h:Rc) (sa:Option Addr) (cap:Nat) (w:World) (hv:IsWds w (.slice sa h.ws.length cap) h.ws):Calls Tryz.prog 50 #[.agg #[.int .i64 h.n,.slice sa h.ws.length cap]] w fun e w'=>Ext w w'∧((zaw h≠0∧e = .returned (.tuple #[.pointer none,.int .i64 (zaw h)])) ∨
  (zaw h=0∧∃ p,e = .returned (.tuple #[.pointer (some ⟨p,0,none⟩),.int .i64 0])∧w.heap.size≤p∧RaceAt w' p h sa cap)):=by
 have HV:=Lib.hid hv
 clear hv
 go_enter Tryz.func50,Tryz.ntmps50
 go_upto_region 1 with (fail)
 obtain ⟨W0,hW0⟩:∃ W0,W0=w.alloc (.cells #[.int .i64 h.n,.slice sa h.ws.length cap] 65):=⟨_,rfl⟩
 have hE:Ext w W0:=by rw [hW0];exact xx
 have k0:W0.cell? ⟨w.heap.size,0,none⟩=some (.int .i64 h.n):=by rw [hW0];simp [go_sem]
 have k1:W0.cell? ⟨w.heap.size,1,none⟩=some (.slice sa h.ws.length cap):=by rw [hW0];simp [go_sem]
 have hz:w.heap.size < W0.heap.size:=World.block_lt_of_cell? _ _ k0
 have HW:=Lib.hid hE
 replace HV:=Lib.hid (HV.out.ext hE)
 rw [← hW0]
 clear hW0 hE
 go_wp2_with fail
 refine za0 (W0:=W0) (g:=⟨W0,Below.refl _ _⟩) xx (z0i h sa cap _ (HV.out.ext xx)) fun g1 hgr=>?_
 clear hgr
 by_cases he:zaw h=0
 ·have e0:(zaw h != 0)=false:=by simpa using he
  have HE:=Lib.hid he
  clear he
  go_wp2_with fail
  refine bodyPost_ret (v:=.tuple #[.pointer (some ⟨(grow W0 g1).heap.size,0,none⟩),.int .i64 0]) (by simp [results,Tryz.results50,go_sem]) rfl ?_
  exact ⟨HW.out.trans' (by exact xx),.inr ⟨HE.out,_,rfl,by have:=(zu W0 g1).size;have:=HW.out.size;omega,by simp [go_sem],by simp [go_sem]⟩⟩
 ·have e0:(zaw h != 0)=true:=by simpa using he
  have HE:=Lib.hid he
  clear he
  go_wp2_with fail
  refine bodyPost_ret (v:=.tuple #[.pointer none,.int .i64 (zaw h)]) (by simp [results,Tryz.results50,go_sem]) rfl ?_
  exact ⟨HW.out.trans' (zu W0 _),.inl ⟨HE.out,rfl⟩⟩
end Go.Proofs.YtkfifbopmpcanaaGreat
namespace Go.Proofs.YtkfifbopmpcanaaGreat
open Go.RowKit Go.Shelf
def arr5 (f:List Int):Value:=.agg #[.int .i64 (pl f 0),.int .i64 (pl f 1),.int .i64 (pl f 2),.int .i64 (pl f 3),.int .i64 (pl f 4)]
structure OkW (n:Nat) (x:Wd):Prop where
 a0:0≤x.1
 a1:x.1 < n
 b0:0≤x.2.1
 b1:x.2.1 < n
 ne:x.1≠x.2.1
 k0:0≤x.2.2
 k1:x.2.2≤2
theorem z7f {n:Int} {x:Wd} (hn:0≤n) (h:okWd n x=true):OkW n.toNat x:=by
 unfold okWd at h
 simp only [Bool.and_eq_true,decide_eq_true_eq] at h
 obtain ⟨⟨h1,h2,h3⟩,h4⟩:=h
 exact ⟨h2.1,by omega,h3.1,by omega,h1,h4.1,h4.2⟩
theorem z52 {W:World} {b:Nat} {f:List Int} (hr:∀ i,i < 5→W.cell? ⟨b,i,none⟩=some (.int .i64 (pl f i))) {x:Int} (h0:0≤x) (h1:x < 5):W.cell? ⟨b,x.toNat,none⟩=some (.int .i64 (pl f x.toNat)):=hr _ (by omega)
set_option maxRecDepth 100000 in
set_option maxHeartbeats 2000000 in
theorem z4u (f:List Int) (x:Wd) (w:World) (hx:OkW 5 x) :
  Calls Tryz.prog 113 #[arr5 f,.agg #[.int .i64 x.1,.int .i64 x.2.1,.int .i64 x.2.2]] w fun e w'=>e = .returned (.bool (zec f x))∧Ext w w':=by
 have ha0:=hx.a0
 have ha1:=hx.a1
 have hb0:=hx.b0
 have hb1:=hx.b1
 have hk0:=hx.k0
 have hk1:=hx.k1
 clear hx
 unfold arr5
 go_enter Tryz.func113,Tryz.ntmps113
 go_upto_region 1 with (fail)
 obtain ⟨W0,hW0⟩:∃ W0,W0=(w.alloc (.cells #[.int .i64 (pl f 0),.int .i64 (pl f 1),.int .i64 (pl f 2),.int .i64 (pl f 3),.int .i64 (pl f 4)] 127)).alloc (.cells #[.int .i64 x.1,.int .i64 x.2.1,.int .i64 x.2.2] 117):=⟨_,rfl⟩
 have hE:Ext w W0:=by rw [hW0];exact xx
 have hr:∀ i,i < 5→W0.cell? ⟨w.heap.size,i,none⟩=some (.int .i64 (pl f i)):=fun i hi=>by
  rw [hW0]
  match i,hi with
  | 0,_=>simp [go_sem]
  | 1,_=>simp [go_sem]
  | 2,_=>simp [go_sem]
  | 3,_=>simp [go_sem]
  | 4,_=>simp [go_sem]
 have hpa:=z52 hr ha0 ha1
 have hpb:=z52 hr hb0 hb1
 have c0:W0.cell? ⟨w.heap.size+1,0,none⟩=some (.int .i64 x.1):=by rw [hW0];simp [go_sem]
 have c1:W0.cell? ⟨w.heap.size+1,1,none⟩=some (.int .i64 x.2.1):=by rw [hW0];simp [go_sem]
 have c2:W0.cell? ⟨w.heap.size+1,2,none⟩=some (.int .i64 x.2.2):=by rw [hW0];simp [go_sem]
 have hz1:w.heap.size+1 < W0.heap.size:=World.block_lt_of_cell? _ _ c0
 have hz:w.heap.size < W0.heap.size:=by omega
 have HW:=Lib.hid hE
 rw [← hW0]
 clear hW0 hE hr
 obtain ⟨p,hp⟩:∃ p,p=pl f x.1.toNat:=⟨_,rfl⟩
 obtain ⟨q,hq⟩:∃ q,q=pl f x.2.1.toNat:=⟨_,rfl⟩
 have HS:Hid (zec f x=if x.2.2=0 then decide (p < q) else if x.2.2=1 then decide (p=q) else decide (p≤q)):=Lib.hid (by rw [hp,hq];rfl)
 rw [← hp] at hpa
 rw [← hq] at hpb
 clear hp hq
 by_cases hk:x.2.2=0
 ·have e0:(x.2.2 == 0)=true:=by simpa using hk
  have HK:=Lib.hid hk
  clear hk
  go_wp2_with fail
  go_quiet (fail)
  go_wp2_with fail
  all_goals
   go_ret
   exact ⟨zan (by rw [HS.out,if_pos HK.out]),HW.out.drN _⟩
 have e0:(x.2.2 == 0)=false:=by simpa using hk
 have HK:=Lib.hid hk
 clear hk
 by_cases hk:x.2.2=1
 ·have e1:(x.2.2 == 1)=true:=by simpa using hk
  have HK1:=Lib.hid hk
  clear hk
  go_wp2_with fail
  go_quiet (fail)
  go_wp2_with fail
  all_goals
   go_ret
   refine ⟨zan ?_,HW.out.drN _⟩
   rw [HS.out,if_neg HK.out,if_pos HK1.out]
   first | rfl | (by_cases e:p=q<;>simp [e])
 have e1:(x.2.2 == 1)=false:=by simpa using hk
 have HK1:=Lib.hid hk
 clear hk
 go_wp2_with fail
 go_quiet (fail)
 go_wp2_with fail
 all_goals
  go_ret
  exact ⟨zan (by rw [HS.out,if_neg HK.out,if_neg HK1.out]),HW.out.drN _⟩
end Go.Proofs.YtkfifbopmpcanaaGreat
namespace Go.Proofs.YtkfifbopmpcanaaGreat
open Go.RowKit Go.Shelf
theorem Kept.drN {S:Nat→Prop} {a b:World} (h:Kept S a b) (n:Nat):Kept S a (b.drewN n):=⟨h.os,h.tape,h.output,h.size,h.same⟩
theorem z24 {a b c:World} {q:Nat} (h:Ext a b) (k:Kept (fun k=>k≠q) b c) (hq:a.heap.size≤q):Ext a c :=
 Below.trans h ((k.mono (T:=fun k=>k < a.heap.size) (fun i _ hi=>by omega)).below h.size)
def A5 (W:World) (g:Nat) (f:Nat→Int):Prop:=∃ cur:Array Value,W.heap[g]? = some (.cells cur 127 (0,0))∧cur.size=5∧∀ j,j < 5→cur[j]? = some (.int .i64 (f j))
theorem A5.cell {W:World} {g:Nat} {f:Nat→Int} (h:A5 W g f) (j:Nat) (hj:j < 5):W.cell? ⟨g,j,none⟩=some (.int .i64 (f j)):=by
 obtain ⟨cur,h1,_,h2⟩:=h
 rw [cell_of_row _ _ _ _ _ _ h1];exact h2 j hj
theorem A5.free {W:World} {g:Nat} {f:Nat→Int} (h:A5 W g f) (o:Nat):W.frozen? ⟨g,o,none⟩=false:=by
 obtain ⟨cur,h1,_,h2⟩:=h
 simp [World.frozen?,h1]
theorem A5.lt {W:World} {g:Nat} {f:Nat→Int} (h:A5 W g f):g < W.heap.size:=by
 obtain ⟨cur,h1,_,h2⟩:=h
 exact (Array.getElem?_eq_some_iff.1 h1).1
theorem A5.set {W:World} {g:Nat} {f:Nat→Int} (h:A5 W g f) (i:Nat) (x:Int):A5 (W.setCell ⟨g,i,none⟩ (.int .i64 x)) g (fun j=>if j=i then x else f j):=by
 obtain ⟨cur,h1,hn,h2⟩:=h
 refine ⟨_,zab h1 i _,by simpa using hn,fun j hj=>?_⟩
 by_cases e:j=i
 ·subst e
  simp only [if_true]
  rw [zqn _ (by omega)]
 ·simp only [if_neg e]
  rw [Array.getElem?_setIfInBounds,if_neg (fun h=>e h.symm),h2 j hj]
theorem A5.of_heap {W W':World} {g:Nat} {f:Nat→Int} (h:A5 W g f) (e:W'.heap[g]? = W.heap[g]?):A5 W' g f:=by
 obtain ⟨cur,h1,h2⟩:=h
 exact ⟨cur,e.trans h1,h2⟩
theorem A5.congr {W:World} {g:Nat} {f f':Nat→Int} (h:A5 W g f) (e:∀ j,j < 5→f j=f' j):A5 W g f':=by
 obtain ⟨cur,h1,h2,h3⟩:=h
 exact ⟨cur,h1,h2,fun j hj=>by rw [h3 j hj,e j hj]⟩
theorem A5.new (w:World) (a b c d e:Int):A5 (w.alloc (.cells #[.int .i64 a,.int .i64 b,.int .i64 c,.int .i64 d,.int .i64 e] 127)) w.heap.size (fun j=>[a,b,c,d,e].getD j 0):=by
 refine ⟨_,World.alloc_heap_new w _,rfl,fun j hj=>?_⟩
 match j,hj with
 | 0,_=>rfl
 | 1,_=>rfl
 | 2,_=>rfl
 | 3,_=>rfl
 | 4,_=>rfl
theorem zy8 (f:List Int) (j:Nat) (hj:j < 5):[pl f 0,pl f 1,pl f 2,pl f 3,pl f 4].getD j 0=pl f j:=by
 match j,hj with
 | 0,_=>rfl
 | 1,_=>rfl
 | 2,_=>rfl
 | 3,_=>rfl
 | 4,_=>rfl
theorem A5.five {W:World} {g:Nat} {f:List Int} (h:A5 W g (pl f)):W.cell? ⟨g,0,none⟩=some (.int .i64 (pl f 0))∧W.cell? ⟨g,1,none⟩=some (.int .i64 (pl f 1))∧W.cell? ⟨g,2,none⟩=some (.int .i64 (pl f 2))∧W.cell? ⟨g,3,none⟩=some (.int .i64 (pl f 3))∧W.cell? ⟨g,4,none⟩=some (.int .i64 (pl f 4)) :=
 ⟨h.cell 0 (by omega),h.cell 1 (by omega),h.cell 2 (by omega),h.cell 3 (by omega),h.cell 4 (by omega)⟩
set_option maxRecDepth 100000 in
set_option maxHeartbeats 1000000 in
theorem zxv (f:List Int) (x:Wd) (w:World) (g:Nat) (hx:OkW 5 x) (hc:w.cell? ⟨g,0,none⟩=some (.func (.func 113) #[arr5 f] #[])) :
  Calls Tryz.prog 115 #[.agg #[.int .i64 x.1,.int .i64 x.2.1,.int .i64 x.2.2],.pointer (some ⟨g,0,none⟩)] w fun e w'=>e = .returned (.bool (!zec f x))∧Ext w w':=by
 have HX:=Lib.hid hx
 clear hx
 have hz:=World.block_lt_of_cell? _ _ hc
 simp only at hz
 go_enter Tryz.func115,Tryz.ntmps115
 go_wp2_with fail
 refine (z4u f x _ HX.out).mono ?_
 rintro e W' ⟨rfl,hb⟩
 have hb2:Ext w W':=Ext.trans' (by exact xx) hb
 go_wp2_with fail
 go_ret
 exact ⟨rfl,hb2⟩
theorem z7g (ws:List Wd) (f:List Int):(!ws.any fun x=>!zec f x)=agrP ws f:=by
 unfold agrP
 induction ws with
 | nil=>rfl
 | cons a l ih=>simp only [List.any_cons,List.all_cons,Bool.not_or,Bool.not_not,ih]
set_option maxRecDepth 100000 in
set_option maxHeartbeats 1000000 in
theorem zri (h:Rc) (sa:Option Addr) (cap p:Nat) (f:List Int) (w:World) (hv:IsWds w (.slice sa h.ws.length cap) h.ws) (hr:RaceAt w p h sa cap) (hok:∀ x∈h.ws,OkW 5 x) :
  Calls Tryz.prog 58 #[.pointer (some ⟨p,0,none⟩),arr5 f] w fun e w'=>e = .returned (.bool (agrP h.ws f))∧Ext w w':=by
 obtain ⟨h1,h2⟩:=hv.caps
 have HV:=Lib.hid hv
 have k1:=hr.c1
 have hz:=hr.lt
 have HOK:=Lib.hid hok
 clear hv hr hok
 have HF:Hid (arr5 f = .agg #[.int .i64 (pl f 0),.int .i64 (pl f 1),.int .i64 (pl f 2),.int .i64 (pl f 3),.int .i64 (pl f 4)]):=Lib.hid rfl
 unfold arr5
 go_enter Tryz.func58,Tryz.ntmps58
 go_upto_region 2 with (fail)
 obtain ⟨W0,hW0⟩:∃ W0,W0=(w.alloc (.cells #[.int .i64 (pl f 0),.int .i64 (pl f 1),.int .i64 (pl f 2),.int .i64 (pl f 3),.int .i64 (pl f 4)] 127)).alloc (.cells #[.func (.func 113) #[.agg #[.int .i64 (pl f 0),.int .i64 (pl f 1),.int .i64 (pl f 2),.int .i64 (pl f 3),.int .i64 (pl f 4)]] #[]] 194):=⟨_,rfl⟩
 have hE:Ext w W0:=by rw [hW0];exact xx
 have hc:W0.cell? ⟨w.heap.size+1,0,none⟩=some (.func (.func 113) #[arr5 f] #[]):=by rw [hW0,HF.out];simp [go_sem]
 have k1:=zh hE k1
 have hz:=World.block_lt_of_cell? _ _ k1
 simp only at hz
 rw [← hW0]
 clear hW0
 have HW:=Lib.hid hE
 have HV:=Lib.hid (HV.out.ext hE)
 have HC:=Lib.hid hc
 clear hE hc HF
 go_wp2_with fail
 refine (zkr h.ws sa cap 115 #[.pointer (some ⟨w.heap.size+1,0,none⟩)] (fun x=>!zec f x) W0 (by omega) HV.out.at (fun args W=>Tryz.call115 args W) (fun x hx W hW=>zxv f x W _ (HOK.out x hx) (zh hW HC.out))).mono ?_
 rintro e W1 ⟨rfl,hb⟩
 go_wp2_with fail
 go_ret
 exact ⟨zan (a:=!h.ws.any fun x=>!zec f x) (z7g h.ws f),HW.out.trans' hb⟩
end Go.Proofs.YtkfifbopmpcanaaGreat
namespace Go.Proofs.YtkfifbopmpcanaaGreat
open Go.RowKit Go.Shelf
def rkTo (n:Nat) (f:List Int) (i:Nat) (j:Nat):Int:=if j < i then 1+(below f (pl f j) n:Int) else 0
theorem z4v (n:Nat) (f:List Int) (j:Nat):rkTo n f n j=pl (zc7 n f) j:=by
 unfold rkTo
 by_cases h:j < n
 ·rw [if_pos h,zsj f h]
 ·rw [if_neg h]
  unfold pl
  rw [List.getD_eq_getElem?_getD,List.getElem?_eq_none (by rw [zgb];omega)]
  rfl
set_option maxRecDepth 100000 in
set_option maxHeartbeats 4000000 in
theorem zrj (p n:Nat) (f:List Int) (w:World) (hc:w.cell? ⟨p,0,none⟩=some (.int .i64 n)) (hn:n≤5) :
  Calls Tryz.prog 57 #[.pointer (some ⟨p,0,none⟩),arr5 f] w fun e w'=>e = .returned (arr5 (zc7 n f))∧Ext w w':=by
 have hz:=World.block_lt_of_cell? _ _ hc
 simp only at hz
 unfold arr5
 go_enter Tryz.func57,Tryz.ntmps57
 go_upto_region 2 with (fail)
 obtain ⟨W0,hW0⟩:∃ W0,W0=((w.alloc (.cells #[.int .i64 (pl f 0),.int .i64 (pl f 1),.int .i64 (pl f 2),.int .i64 (pl f 3),.int .i64 (pl f 4)] 127)).alloc (.cells #[.int .i64 0,.int .i64 0,.int .i64 0,.int .i64 0,.int .i64 0] 127)).alloc (.cells #[.int .i64 0,.int .i64 0,.int .i64 0,.int .i64 0,.int .i64 0] 127):=⟨_,rfl⟩
 have hE:Ext w W0:=by rw [hW0];exact xx
 have ha:A5 W0 w.heap.size (pl f):=by
  have h1:=(A5.new w (pl f 0) (pl f 1) (pl f 2) (pl f 3) (pl f 4)).congr (zy8 f)
  have h2:Ext (w.alloc (.cells #[.int .i64 (pl f 0),.int .i64 (pl f 1),.int .i64 (pl f 2),.int .i64 (pl f 3),.int .i64 (pl f 4)] 127)) W0:=by rw [hW0];exact xx
  exact h1.of_heap (h2.block _ (by simp))
 have hb:A5 W0 (w.heap.size+2) (rkTo n f 0):=by
  have h1:=A5.new ((w.alloc (.cells #[.int .i64 (pl f 0),.int .i64 (pl f 1),.int .i64 (pl f 2),.int .i64 (pl f 3),.int .i64 (pl f 4)] 127)).alloc (.cells #[.int .i64 0,.int .i64 0,.int .i64 0,.int .i64 0,.int .i64 0] 127)) 0 0 0 0 0
  rw [← hW0] at h1
  have e:((w.alloc (.cells #[.int .i64 (pl f 0),.int .i64 (pl f 1),.int .i64 (pl f 2),.int .i64 (pl f 3),.int .i64 (pl f 4)] 127)).alloc (.cells #[.int .i64 0,.int .i64 0,.int .i64 0,.int .i64 0,.int .i64 0] 127)).heap.size=w.heap.size+2:=by simp
  rw [e] at h1
  refine h1.congr fun j hj=>?_
  unfold rkTo
  rw [if_neg (by omega)]
  match j,hj with
  | 0,_=>rfl
  | 1,_=>rfl
  | 2,_=>rfl
  | 3,_=>rfl
  | 4,_=>rfl
 have hr1:A5 W0 (w.heap.size+1) (fun _=>0):=by
  have h1:=A5.new (w.alloc (.cells #[.int .i64 (pl f 0),.int .i64 (pl f 1),.int .i64 (pl f 2),.int .i64 (pl f 3),.int .i64 (pl f 4)] 127)) 0 0 0 0 0
  have h2:Ext ((w.alloc (.cells #[.int .i64 (pl f 0),.int .i64 (pl f 1),.int .i64 (pl f 2),.int .i64 (pl f 3),.int .i64 (pl f 4)] 127)).alloc (.cells #[.int .i64 0,.int .i64 0,.int .i64 0,.int .i64 0,.int .i64 0] 127)) W0:=by rw [hW0];exact xx
  have e:(w.alloc (.cells #[.int .i64 (pl f 0),.int .i64 (pl f 1),.int .i64 (pl f 2),.int .i64 (pl f 3),.int .i64 (pl f 4)] 127)).heap.size=w.heap.size+1:=by simp
  rw [e] at h1
  refine (h1.of_heap (h2.block _ (by simp))).congr fun j hj=>?_
  match j,hj with
  | 0,_=>rfl
  | 1,_=>rfl
  | 2,_=>rfl
  | 3,_=>rfl
  | 4,_=>rfl
 have k0:=zh hE hc
 have hzw:W0.heap.size=w.heap.size+3:=by rw [hW0];simp
 rw [← hW0]
 have HW:=Lib.hid hE
 have HA:=Lib.hid ha
 have HB:=Lib.hid hb
 have HR:=Lib.hid hr1
 have HZ:=Lib.hid hzw
 obtain ⟨g,hg⟩:∃ g,g=w.heap.size+2:=⟨_,rfl⟩
 rw [← hg] at HB ⊢
 obtain ⟨q,hq⟩:∃ q,q=w.heap.size:=⟨_,rfl⟩
 rw [← hq] at HA ⊢
 have hgq:g=q+2:=by omega
 have HGQ:=Lib.hid hgq
 have HQ:=Lib.hid hq
 have hpg:p≠g:=by omega
 have HPG:=Lib.hid hpg
 rw [← hq] at HR HZ
 clear hW0 hE ha hb hr1 hc hzw hg hgq hq hpg hz
 go_wp2_with fail
 go_loopw [13] (fun iv wr=>∃ i:Nat,i≤n∧iv = .int .i64 i∧A5 wr g (rkTo n f i)∧Kept (fun k=>k≠g) W0 wr) (fun iv _=>n - (intOf iv).toNat)
 case atStart=>exact ⟨0,by omega,rfl,HB.out,Kept.refl _ _⟩
 case round =>
  obtain ⟨i,hi,rfl,hA,hK⟩:=hrel
  have HA1:=Lib.hid hA
  have HK1:=Lib.hid hK
  by_cases hlt:i < n
  ·have hii:(i:Int) < (n:Int):=by omega
   have ci:=hA.cell i (by omega)
   have hfr:=hA.free i
   have hgl:=hA.lt
   have kp:=hK.cell k0 HPG.out
   have hi5:i < 5:=by omega
   clear hA hK
   go_upto_region 6 with (fail)
   obtain ⟨X,hX⟩:∃ X,X=wr.setCell ⟨g,i,none⟩ (.int .i64 1):=⟨_,rfl⟩
   have hA2:A5 X g (fun j=>if j=i then 1 else rkTo n f i j):=by rw [hX];exact HA1.out.set i 1
   have hK2:Kept (fun k=>k≠g) W0 X:=by rw [hX];exact HK1.out.setCell (fun _ h=>h rfl) _
   have kp2:=hK2.cell k0 HPG.out
   rw [← hX]
   have HA2:=Lib.hid hA2
   have HK2:=Lib.hid hK2
   have HI:=Lib.hid hi
   clear hX hA2 hK2 hfr hgl kp ci HA1 HK1 hi
   go_wp2_with fail
   go_loopw [23] (fun kv wr=>∃ k:Nat,k≤n∧kv = .int .i64 k∧A5 wr g (fun j=>if j=i then 1+(below f (pl f i) k:Int) else rkTo n f i j)∧Kept (fun k=>k≠g) W0 wr) (fun kv _=>n - (intOf kv).toNat)
   case atStart=>exact ⟨0,by omega,rfl,HA2.out.congr fun j _=>by simp [below],HK2.out⟩
   case round =>
    obtain ⟨k,hk,rfl,hA,hK⟩:=hrel
    have HA3:=Lib.hid hA
    have HK3:=Lib.hid hK
    clear HA2 HK2
    by_cases hltk:k < n
    ·have hki:(k:Int) < (n:Int):=by omega
     have hq5:=(HA.out.of_heap (hK.same q (by rw [HZ.out];omega) (by have:=HGQ.out;omega)))
     have ca:=hq5.cell k (by omega)
     have cb:=hq5.cell i (by omega)
     have co:=hA.cell i (by omega)
     rw [if_pos rfl] at co
     have hfr:=hA.free i
     have hgl:=hA.lt
     have hql:=hq5.lt
     have hk5:k < 5:=by omega
     obtain ⟨u,hu⟩:∃ u,u=pl f k:=⟨_,rfl⟩
     obtain ⟨v,hv⟩:∃ v,v=pl f i:=⟨_,rfl⟩
     obtain ⟨c,hcc⟩:∃ c,c=below f v k:=⟨_,rfl⟩
     have hcl:c≤5:=by rw [hcc];have:=below_le f v k;omega
     rw [← hu] at ca
     rw [← hv] at cb co
     rw [← hcc] at co
     have HU:=Lib.hid hu
     have HV:=Lib.hid hv
     have HC:=Lib.hid hcc
     have hwr:IntKind.i64.wrap (1+(c:Int)+1)=1+(c:Int)+1:=IntWalk.i64_in _ (by omega)
     clear hA hK hq5 hu hv hcc hk
     by_cases hlt2:u < v
     ·go_wp2_with fail
      go_quiet (fail)
      go_wp2_with fail
      go_roundw
      case rel =>
       refine ⟨k+1,by omega,by go_num,?_,?_⟩
       ·refine ((HA3.out.of_heap (W':=wr.drewN _) rfl).set i _).congr fun j hj=>?_
        show (if j=i then (1+(c:Int)+1) else if j=i then 1+(below f (pl f i) k:Int) else rkTo n f i j)=if j=i then 1+(below f (pl f i) (k+1):Int) else rkTo n f i j
        by_cases e:j=i
        ·rw [if_pos e,if_pos e,zlp,← HU.out,← HV.out,if_pos (by omega),← HC.out];omega
        ·rw [if_neg e,if_neg e,if_neg e]
       ·exact (HK3.out.drN _).setCell (fun _ h=>h rfl) _
      case measure=>simp [intOf];omega
     ·go_wp2_with fail
      go_quiet (fail)
      go_wp2_with fail
      go_roundw
      case rel =>
       refine ⟨k+1,by omega,by go_num,?_,?_⟩
       ·refine (HA3.out.of_heap (W':=wr.drewN _) rfl).congr fun j hj=>?_
        show (if j=i then 1+(below f (pl f i) k:Int) else rkTo n f i j)=if j=i then 1+(below f (pl f i) (k+1):Int) else rkTo n f i j
        by_cases e:j=i
        ·rw [if_pos e,if_pos e,zlp,← HU.out,← HV.out,if_neg (by omega)];omega
        ·rw [if_neg e,if_neg e]
       ·exact HK3.out.drN _
      case measure=>simp [intOf];omega
    ·have hki:¬ ((k:Int) < (n:Int)):=by omega
     have hke:k=n:=by omega
     have hA4:A5 wr g (rkTo n f (i+1)):=hA.congr fun j hj=>by
      show (if j=i then 1+(below f (pl f i) k:Int) else rkTo n f i j)=_
      unfold rkTo
      by_cases e:j=i
      ·subst e
       rw [if_pos rfl,if_pos (by omega),hke]
      ·rw [if_neg e]
       by_cases e2:j < i
       ·rw [if_pos e2,if_pos (by omega)]
       ·rw [if_neg e2,if_neg (by omega)]
     have HA4:=Lib.hid hA4
     clear hA hK hA4 HA3 hk hke
     go_wp2_with fail
     go_roundw
     case rel=>exact ⟨i+1,by omega,by go_num,HA4.out,HK3.out⟩
     case measure=>simp [intOf];omega
  ·have hii:¬ ((i:Int) < (n:Int)):=by omega
   have hie:i=n:=by omega
   rw [hie] at hA
   have hA2:A5 wr g (pl (zc7 n f)):=hA.congr fun j _=>z4v n f j
   obtain ⟨c0,c1,c2,c3,c4⟩:=hA2.five
   have hq1:=HR.out.of_heap (hK.same (q+1) (by rw [HZ.out];omega) (by have:=HGQ.out;omega))
   have d0:=hq1.cell 0 (by omega)
   have d1:=hq1.cell 1 (by omega)
   have d2:=hq1.cell 2 (by omega)
   have d3:=hq1.cell 3 (by omega)
   have d4:=hq1.cell 4 (by omega)
   have hfr:=hq1.free
   have hgl:=hA2.lt
   have hrl:=hq1.lt
   have HR1:=Lib.hid hq1
   have HE:Hid (Ext w wr):=Lib.hid (z24 HW.out hK (by have:=HGQ.out;have:=HQ.out;omega))
   have HRQ:=Lib.hid HQ.out
   clear hA hA2 hK hq1 HA1 HK1 hi hie
   go_wp2_with fail
   refine bodyPost_ret (v:=arr5 (zc7 n f)) (by simp [arr5,results,Tryz.results57,go_sem,d0,d1,d2,d3,d4]) rfl ?_
   have hqq:w.heap.size≤q+1:=by have:=HRQ.out;omega
   exact ⟨rfl,((((HE.out.setCell (p:=⟨q+1,0,none⟩) hqq _).setCell (p:=⟨q+1,1,none⟩) hqq _).setCell (p:=⟨q+1,2,none⟩) hqq _).setCell (p:=⟨q+1,3,none⟩) hqq _).setCell (p:=⟨q+1,4,none⟩) hqq _⟩
end Go.Proofs.YtkfifbopmpcanaaGreat
