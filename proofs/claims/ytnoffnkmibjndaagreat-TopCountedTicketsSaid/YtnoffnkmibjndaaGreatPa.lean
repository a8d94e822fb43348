/-
  Plain: books, what is odd about one, and which error it is.
-/
import Derived.Test.YtnoffnkmibjndaaGreatBa
import Derived.Test.YtnoffnkmibjndaaGreatBb
set_option maxRecDepth 200000
set_option maxHeartbeats 0
set_option linter.unusedSimpArgs false
set_option linter.unusedVariables false
namespace Go.Proofs.YtnoffnkmibjndaaGreat
open Go.Lib (hid)
open Go.RowKit
structure PB where
 f:Int
 s:Int
 u:Int
deriving DecidableEq
structure Bk where
 kd:Int
 n:Int
 bets:List PB
 scr:List Int
 fav:Bool
 car:Int
 duty:Int
 step:Int
def zqo (x:PB):List Value:=[.int .i64 x.f,.int .i64 x.s,.int .i64 x.u]
def zmm (w:World) (v:Value) (l:List PB):Prop:=IsRows w 3 v (l.map zqo)
theorem zmm.ext {w w':World} (h:Ext w w') {v:Value} {l:List PB} (hr:zmm w v l):zmm w' v l:=IsRows.ext h hr
theorem zmm.spec {w:World} {v:Value} {l:List PB} (h:zmm w v l) :
  ∃ sa cap,v = .slice sa l.length cap∧l.length≤cap∧cap≤9223372036854775807∧(l=[]∨∃ b off,sa=some ⟨b,off,none⟩∧∀ i,(h:i < l.length) →
   w.cell? ⟨b,off+i * 3,none⟩=some (.int .i64 l[i].f)∧w.cell? ⟨b,off+i * 3+1,none⟩=some (.int .i64 l[i].s)∧w.cell? ⟨b,off+i * 3+2,none⟩=some (.int .i64 l[i].u)):=by
 obtain ⟨sa,cap,h1,h2,h3,h4⟩:=h;refine ⟨sa,cap,by simpa using h1,by simpa using h2,h3,?_⟩
 rcases h4 with h4 | ⟨b,off,e,h4⟩
 ·exact .inl (by simpa using h4)
 ·refine .inr ⟨b,off,e,fun i hi=>?_⟩
  have c0:=h4 i (by simpa using hi) 0 (by simp [zqo]);have c1:=h4 i (by simpa using hi) 1 (by simp [zqo]);have c2:=h4 i (by simpa using hi) 2 (by simp [zqo]);simp [zqo] at c0 c1 c2;exact ⟨c0,c1,c2⟩
structure z00 (w:World) (b:Bk) (ba:Option Addr) (bcap:Nat) (sa:Option Addr) (scap:Nat):Prop where
 bets:zmm w (.slice ba b.bets.length bcap) b.bets
 scr:zn w .i64 (.slice sa b.scr.length scap) b.scr
theorem z00.ext {w w':World} (h:Ext w w') {b:Bk} {ba sa:Option Addr} {bcap scap:Nat} (hr:z00 w b ba bcap sa scap):z00 w' b ba bcap sa scap:=⟨hr.bets.ext h,hr.scr.ext h⟩
structure zqp (w:World) (p:Nat) (b:Bk) (ba:Option Addr) (bcap:Nat) (sa:Option Addr) (scap:Nat):Prop where
 c0:w.cell? ⟨p,0,none⟩=some (.int .i64 b.kd)
 c1:w.cell? ⟨p,1,none⟩=some (.int .i64 b.n)
 c2:w.cell? ⟨p,2,none⟩=some (.slice ba b.bets.length bcap)
 c3:w.cell? ⟨p,3,none⟩=some (.slice sa b.scr.length scap)
 c4:w.cell? ⟨p,4,none⟩=some (.bool b.fav)
 c5:w.cell? ⟨p,5,none⟩=some (.int .i64 b.car)
 c6:w.cell? ⟨p,6,none⟩=some (.int .i64 b.duty)
 c7:w.cell? ⟨p,7,none⟩=some (.int .i64 b.step)
theorem zqp.ext {w w':World} (h:Ext w w') {p:Nat} {b:Bk} {ba sa:Option Addr} {bcap scap:Nat} (k:zqp w p b ba bcap sa scap):zqp w' p b ba bcap sa scap :=
 ⟨zf h k.c0,zf h k.c1,zf h k.c2,zf h k.c3,zf h k.c4,zf h k.c5,zf h k.c6,zf h k.c7⟩
theorem zqp.lt {w:World} {p:Nat} {b:Bk} {ba sa:Option Addr} {bcap scap:Nat} (k:zqp w p b ba bcap sa scap):p < w.heap.size:=World.block_lt_of_cell? _ _ k.c0
def inR (lo hi n:Int):Bool:=!(decide (n < lo) || decide (hi < n))
theorem inR_iff {lo hi n:Int}:inR lo hi n=true↔lo≤n∧n≤hi:=by unfold inR;simp
theorem any_inR (lo hi:Int) (l:List Int):(!l.any fun n=>decide (n < lo) || decide (hi < n))=l.all (inR lo hi):=by
 induction l with
 | nil=>rfl
 | cons a l ih=>simp only [List.any_cons,List.all_cons,Bool.not_or,← ih,inR]
def gt (s:List Int) (i:Nat):Int:=s.getD i 0
theorem gt_get {l:List Int} {k:Nat} (h:k < l.length):l[k]=gt l k:=by unfold gt;rw [List.getD_eq_getElem?_getD,List.getElem?_eq_getElem h];rfl
theorem z01 (l:List Int) (sa:Option Addr) (cap:Nat) (f:Nat) (cs:Array Value) (p:Int→Bool) (w:World)
  (hl:l.length≤9223372036854775807)
  (hs:l=[]∨∃ b off,sa=some ⟨b,off,none⟩∧∀ i,(h:i < l.length)→w.cell? ⟨b,off+i,none⟩=some (.int .i64 l[i]))
  (hcall:∀ args W,(callFunc f args).run Tryz.prog W = .ok (.enter f args) W)
  (hf:∀ x,x∈l→∀ W,Ext w W→Calls Tryz.prog f (#[.int .i64 x] ++ cs) W fun e W'=>e = .returned (.bool (p x))∧Ext W W') :
  Calls Tryz.prog 89 #[.slice sa l.length cap,.func (.func f) #[] cs] w fun e w'=>e = .returned (.int .i64 (zoy p l))∧Ext w w':=by
 have Hf:=hid hf;clear hf
 go_enter Tryz.func89,Tryz.ntmps89
 go_wp2
 go_loopw [8] (fun i W=>∃ k:Nat,k≤l.length∧i = .int .i64 k∧(∀ x∈l.take k,p x=false)∧Ext w W) (fun i _=>l.length - (intOf i).toNat)
 case atStart=>exact ⟨0,Nat.zero_le _,rfl,by simp,Below.refl _ _⟩
 case round =>
  obtain ⟨k,hk,rfl,hno,hb⟩:=hrel;have HN:=hid hno;clear hno
  by_cases hlt:k < l.length
  ·have hs':∃ b off,sa=some ⟨b,off,none⟩∧∀ i,(h:i < l.length)→w.cell? ⟨b,off+i,none⟩=some (.int .i64 l[i]):=by
    rcases hs with rfl | h
    ·simp at hlt
    ·exact h
   clear hs;obtain ⟨b,off,rfl,hc⟩:=hs';have hc1:=hc k hlt;have HC:Hid (∀ i,(h:i < l.length)→w.cell? ⟨b,off+i,none⟩=some (.int .i64 l[i])):=hid hc;clear hc;have hcell:=zf hb hc1;clear hc1;go_wp2_with fail;refine (Hf.out l[k] (List.getElem_mem hlt) _ hb).mono ?_
   rintro e W' ⟨rfl,hb'⟩;cases hp:p l[k]
   ·go_wp2
    go_roundw
    case rel=>exact ⟨k+1,by omega,by go_num,zhq hlt HN.out hp,hb.trans' hb'⟩
    case measure=>simp [intOf];omega
   ·go_wp2
    go_ret;exact ⟨za6 (zwy hlt HN.out hp).symm,hb.trans' hb'⟩
  ·go_wp2
   go_ret;exact ⟨za6 (zqf (zhr hlt HN.out)).symm,hb⟩
theorem zhc (l:List Int) (sa:Option Addr) (cap:Nat) (f:Nat) (cs:Array Value) (p:Int→Bool) (w:World)
  (hl:l.length≤9223372036854775807)
  (hs:l=[]∨∃ b off,sa=some ⟨b,off,none⟩∧∀ i,(h:i < l.length)→w.cell? ⟨b,off+i,none⟩=some (.int .i64 l[i]))
  (hcall:∀ args W,(callFunc f args).run Tryz.prog W = .ok (.enter f args) W)
  (hf:∀ x,x∈l→∀ W,Ext w W→Calls Tryz.prog f (#[.int .i64 x] ++ cs) W fun e W'=>e = .returned (.bool (p x))∧Ext W W') :
  Calls Tryz.prog 45 #[.slice sa l.length cap,.func (.func f) #[] cs] w fun e w'=>e = .returned (.bool (l.any p))∧Ext w w':=by
 have H:=hid (z01 l sa cap f cs p w hl hs hcall hf);clear hf hs hcall
 go_enter Tryz.func45,Tryz.ntmps45
 go_wp2_with fail;refine H.out.mono ?_
 rintro e W' ⟨rfl,hb⟩
 go_wp2
 all_goals
  go_ret;refine ⟨zbl ?_,hb⟩;rw [← ztr]
theorem z02 (l:List Int) (sa:Option Addr) (cap:Nat) (f:Nat) (cs:Array Value) (p:Int→Bool) (w:World)
  (hl:l.length≤9223372036854775807)
  (hs:l=[]∨∃ b off,sa=some ⟨b,off,none⟩∧∀ i,(h:i < l.length)→w.cell? ⟨b,off+i,none⟩=some (.int .i64 l[i]))
  (hcall:∀ args W,(callFunc f args).run Tryz.prog W = .ok (.enter f args) W)
  (hf:∀ x,x∈l→∀ W,Ext w W→Calls Tryz.prog f (#[.int .i64 x] ++ cs) W fun e W'=>e = .returned (.bool (p x))∧Ext W W') :
  Calls Tryz.prog 226 #[.slice sa l.length cap,.func (.func f) #[] cs] w fun e w'=>e = .returned (.int .i64 (zoy p l))∧Ext w w':=by
 have Hf:=hid hf;clear hf
 go_enter Tryz.func226,Tryz.ntmps226
 go_wp2
 go_loopw [8] (fun i W=>∃ k:Nat,k≤l.length∧i = .int .i64 k∧(∀ x∈l.take k,p x=false)∧Ext w W) (fun i _=>l.length - (intOf i).toNat)
 case atStart=>exact ⟨0,Nat.zero_le _,rfl,by simp,Below.refl _ _⟩
 case round =>
  obtain ⟨k,hk,rfl,hno,hb⟩:=hrel;have HN:=hid hno;clear hno
  by_cases hlt:k < l.length
  ·have hs':∃ b off,sa=some ⟨b,off,none⟩∧∀ i,(h:i < l.length)→w.cell? ⟨b,off+i,none⟩=some (.int .i64 l[i]):=by
    rcases hs with rfl | h
    ·simp at hlt
    ·exact h
   clear hs;obtain ⟨b,off,rfl,hc⟩:=hs';have hc1:=hc k hlt;have HC:Hid (∀ i,(h:i < l.length)→w.cell? ⟨b,off+i,none⟩=some (.int .i64 l[i])):=hid hc;clear hc;have hcell:=zf hb hc1;clear hc1;go_wp2_with fail;refine (Hf.out l[k] (List.getElem_mem hlt) _ hb).mono ?_
   rintro e W' ⟨rfl,hb'⟩;cases hp:p l[k]
   ·go_wp2
    go_roundw
    case rel=>exact ⟨k+1,by omega,by go_num,zhq hlt HN.out hp,hb.trans' hb'⟩
    case measure=>simp [intOf];omega
   ·go_wp2
    go_ret;exact ⟨za6 (zwy hlt HN.out hp).symm,hb.trans' hb'⟩
  ·go_wp2
   go_ret;exact ⟨za6 (zqf (zhr hlt HN.out)).symm,hb⟩
theorem zlf (l:List Int) (sa:Option Addr) (cap:Nat) (f:Nat) (cs:Array Value) (p:Int→Bool) (w:World)
  (hl:l.length≤9223372036854775807)
  (hs:l=[]∨∃ b off,sa=some ⟨b,off,none⟩∧∀ i,(h:i < l.length)→w.cell? ⟨b,off+i,none⟩=some (.int .i64 l[i]))
  (hcall:∀ args W,(callFunc f args).run Tryz.prog W = .ok (.enter f args) W)
  (hf:∀ x,x∈l→∀ W,Ext w W→Calls Tryz.prog f (#[.int .i64 x] ++ cs) W fun e W'=>e = .returned (.bool (p x))∧Ext W W') :
  Calls Tryz.prog 143 #[.slice sa l.length cap,.func (.func f) #[] cs] w fun e w'=>e = .returned (.bool (l.any p))∧Ext w w':=by
 have H:=hid (z02 l sa cap f cs p w hl hs hcall hf);clear hf hs hcall
 go_enter Tryz.func143,Tryz.ntmps143
 go_wp2_with fail;refine H.out.mono ?_
 rintro e W' ⟨rfl,hb⟩
 go_wp2
 all_goals
  go_ret;refine ⟨zbl ?_,hb⟩;rw [← ztr]
open Go.RowKit Go.Shelf
theorem within1_any (n lo hi:Int) (a b:Addr) (w:World) (h1:w.cell? a=some (.int .i64 lo)) (h2:w.cell? b=some (.int .i64 hi)) :
  Calls Tryz.prog 371 #[.int .i64 n,.pointer (some a),.pointer (some b)] w fun e w'=>e = .returned (.bool (decide (n < lo) || decide (hi < n)))∧Ext w w':=by
 go_enter Tryz.func371,Tryz.ntmps371
 go_wp2
 all_goals
  go_ret;exact ⟨zbl (by simp [*]),Below.refl _ _⟩
theorem within_any (lo hi:Int) (v:Value) (l:List Int) (w:World) (hv:zn w .i64 v l) :
  Calls Tryz.prog 351 #[.int .i64 lo,.int .i64 hi,v] w fun e w'=>e = .returned (.bool (l.all (inR lo hi)))∧Ext w w':=by
 obtain ⟨sa,cap,rfl,h1,h2,h3⟩:=hv.spec;have H3:=hid h3;clear h3 hv
 go_enter Tryz.func351,Tryz.ntmps351
 go_wp2_with fail;have hE:Ext w ((w.alloc (.cells #[.int .i64 lo] 2)).alloc (.cells #[.int .i64 hi] 2)):=((Below.refl _ _).alloc (Nat.le_refl _) _).alloc (by simp) _;have e1:((w.alloc (.cells #[.int .i64 lo] 2)).alloc (.cells #[.int .i64 hi] 2)).cell? ⟨w.heap.size,0,none⟩=some (.int .i64 lo):=by simp [go_sem]
 have e2:((w.alloc (.cells #[.int .i64 lo] 2)).alloc (.cells #[.int .i64 hi] 2)).cell? ⟨w.heap.size+1,0,none⟩=some (.int .i64 hi):=by simp [go_sem]
 refine (zlf l sa cap 371 #[.pointer (some ⟨w.heap.size,0,none⟩),.pointer (some ⟨w.heap.size+1,0,none⟩)] (fun n=>decide (n < lo) || decide (hi < n)) _ (by omega) (H3.out.imp id fun ⟨b,off,e,hc⟩=>⟨b,off,e,fun i hi=>zf hE (hc i hi)⟩)
  (fun args W=>Tryz.call371 args W) (fun x _ W hW=>within1_any x lo hi _ _ W (zf hW e1) (zf hW e2))).mono ?_
 rintro e W' ⟨rfl,hb⟩;clear e1 e2
 go_wp2
 all_goals
  go_ret;refine ⟨zbl (a:=!l.any fun n=>decide (n < lo) || decide (hi < n)) ?_,hE.trans' hb⟩;exact any_inR lo hi l
theorem isInts_one {w:World} {b cap:Nat} {x:Int} (h2:1≤cap) (h3:cap≤9223372036854775807) (c0:w.cell? ⟨b,0,none⟩=some (.int .i64 x)) :
  zn w .i64 (.slice (some ⟨b,0,none⟩) 1 cap) [x]:=by
 refine zn.mk (l:=[x]) (off:=0) (by simpa using h2) h3 fun i hi=>?_
 match i,hi with
 | 0,_=>simpa using c0
end Go.Proofs.YtnoffnkmibjndaaGreat
