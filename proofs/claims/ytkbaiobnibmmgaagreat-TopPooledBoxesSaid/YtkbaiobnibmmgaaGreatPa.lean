/-
  Plain: books, what is odd about one, and which error it is.
-/
import Derived.Test.YtkbaiobnibmmgaaGreatBa
import Derived.Test.YtkbaiobnibmmgaaGreatBb
import Derived.WideKeyEntry
import Derived.Test.YtkbaiobnibmmgaaGreatBc
namespace Go.Proofs.YtkbaiobnibmmgaaGreat
open Go.RowKit
structure PB where
 f:Int
 s:Int
 u:Int
deriving DecidableEq
structure Bk where
 kd:Int
 n:Int
 bets:List PB
 scr:List Int
 fav:Bool
 car:Int
 duty:Int
 step:Int
def zla (x:PB):List Value:=[.int .i64 x.f,.int .i64 x.s,.int .i64 x.u]
def IsBets (w:World) (v:Value) (l:List PB):Prop:=IsRows w 3 v (l.map zla)
theorem IsBets.ext {w w':World} (h:Ext w w') {v:Value} {l:List PB} (hr:IsBets w v l):IsBets w' v l:=IsRows.ext h hr
theorem IsBets.spec {w:World} {v:Value} {l:List PB} (h:IsBets w v l) :
  ∃ sa cap,v = .slice sa l.length cap∧l.length≤cap∧cap≤9223372036854775807∧(l=[]∨∃ b off,sa=some ⟨b,off,none⟩∧∀ i,(h:i < l.length) →
   w.cell? ⟨b,off+i * 3,none⟩=some (.int .i64 l[i].f)∧w.cell? ⟨b,off+i * 3+1,none⟩=some (.int .i64 l[i].s)∧w.cell? ⟨b,off+i * 3+2,none⟩=some (.int .i64 l[i].u)):=by
 obtain ⟨sa,cap,h1,h2,h3,h4⟩:=h
 refine ⟨sa,cap,by simpa using h1,by simpa using h2,h3,?_⟩
 rcases h4 with h4 | ⟨b,off,e,h4⟩
 ·exact .inl (by simpa using h4)
 ·refine .inr ⟨b,off,e,fun i hi=>?_⟩
  have c0:=h4 i (by simpa using hi) 0 (by simp [zla])
  have c1:=h4 i (by simpa using hi) 1 (by simp [zla])
  have c2:=h4 i (by simpa using hi) 2 (by simp [zla])
  simp [zla] at c0 c1 c2
  exact ⟨c0,c1,c2⟩
structure IsBook (w:World) (b:Bk) (ba:Option Addr) (bcap:Nat) (sa:Option Addr) (scap:Nat):Prop where
 bets:IsBets w (.slice ba b.bets.length bcap) b.bets
 scr:IsInts w .i64 (.slice sa b.scr.length scap) b.scr
theorem IsBook.ext {w w':World} (h:Ext w w') {b:Bk} {ba sa:Option Addr} {bcap scap:Nat} (hr:IsBook w b ba bcap sa scap):IsBook w' b ba bcap sa scap:=⟨hr.bets.ext h,hr.scr.ext h⟩
theorem IsBook.caps {w:World} {b:Bk} {ba sa:Option Addr} {bcap scap:Nat} (h:IsBook w b ba bcap sa scap):(b.bets.length≤bcap∧bcap≤9223372036854775807)∧b.scr.length≤scap∧scap≤9223372036854775807:=by
 obtain ⟨_,_,e1,h1,h2,-⟩:=h.bets.spec
 obtain ⟨_,_,e2,h3,h4,-⟩:=h.scr.spec
 cases e1
 cases e2
 exact ⟨⟨h1,h2⟩,h3,h4⟩
structure BookAt (w:World) (p:Nat) (b:Bk) (ba:Option Addr) (bcap:Nat) (sa:Option Addr) (scap:Nat):Prop where
 c0:w.cell? ⟨p,0,none⟩=some (.int .i64 b.kd)
 c1:w.cell? ⟨p,1,none⟩=some (.int .i64 b.n)
 c2:w.cell? ⟨p,2,none⟩=some (.slice ba b.bets.length bcap)
 c3:w.cell? ⟨p,3,none⟩=some (.slice sa b.scr.length scap)
 c4:w.cell? ⟨p,4,none⟩=some (.bool b.fav)
 c5:w.cell? ⟨p,5,none⟩=some (.int .i64 b.car)
 c6:w.cell? ⟨p,6,none⟩=some (.int .i64 b.duty)
 c7:w.cell? ⟨p,7,none⟩=some (.int .i64 b.step)
theorem BookAt.ext {w w':World} (h:Ext w w') {p:Nat} {b:Bk} {ba sa:Option Addr} {bcap scap:Nat} (k:BookAt w p b ba bcap sa scap):BookAt w' p b ba bcap sa scap :=
 ⟨zb h k.c0,zb h k.c1,zb h k.c2,zb h k.c3,zb h k.c4,zb h k.c5,zb h k.c6,zb h k.c7⟩
theorem BookAt.lt {w:World} {p:Nat} {b:Bk} {ba sa:Option Addr} {bcap scap:Nat} (k:BookAt w p b ba bcap sa scap):p < w.heap.size:=World.block_lt_of_cell? _ _ k.c0
def inR (lo hi n:Int):Bool:=!(decide (n < lo) || decide (hi < n))
theorem inR_iff {lo hi n:Int}:inR lo hi n=true↔lo≤n∧n≤hi:=by unfold inR;simp
theorem zzq (lo hi:Int) (l:List Int):(!l.any fun n=>decide (n < lo) || decide (hi < n))=l.all (inR lo hi):=by
 induction l with
 | nil=>rfl
 | cons a l ih=>simp only [List.any_cons,List.all_cons,Bool.not_or,← ih,inR]
def single (b:Bk):Bool:=decide (b.kd=0) || decide (b.kd=1)
def zb7 (n r:Int):Bool:=!(decide (r < 0) || decide (n≤r))
theorem isRun_iff {n r:Int}:zb7 n r=true↔0≤r∧r < n:=by unfold zb7;simp
theorem z3m (n:Int) (l:List Int):(!l.any fun r=>decide (r < 0) || decide (n≤r))=l.all (zb7 n):=by
 induction l with
 | nil=>rfl
 | cons a l ih=>simp only [List.any_cons,List.all_cons,Bool.not_or,← ih,zb7]
def oddB (b:Bk) (x:PB):Bool :=
 if inR 1 1000 x.u=false∨zb7 b.n x.f=false then true
 else if single b=true then !decide (x.s = -1)
 else if zb7 b.n x.s=false∨x.f=x.s then true
 else decide (b.kd=3) && decide (x.s < x.f)
def gt (s:List Int) (i:Nat):Int:=s.getD i 0
theorem gt_get {l:List Int} {k:Nat} (h:k < l.length):l[k]=gt l k:=by unfold gt;rw [List.getD_eq_getElem?_getD,List.getElem?_eq_getElem h];rfl
def flat (l:List Int) (i:Nat):Bool:=decide (0 < i) && decide (gt l i≤gt l (i - 1))
def rising (l:List Int):Bool:=!(List.range l.length).any (flat l)
def zai (b:Bk):Int :=
 if inR 0 3 b.kd=false then 2
 else if inR 2 8 b.n=false∨inR 0 1000000 b.car=false∨inR 0 500 b.duty=false∨inR 1 100 b.step=false then 3
 else if 100 < b.bets.length then 6
 else if b.bets.any (oddB b)=true then 16
 else if b.n - 2 < (b.scr.length:Int)∨b.scr.all (zb7 b.n)=false∨rising b.scr=false then 15
 else 0
structure BVal (b:Bk):Prop where
 kd:0≤b.kd∧b.kd≤3
 n:2≤b.n∧b.n≤8
 car:0≤b.car∧b.car≤1000000
 duty:0≤b.duty∧b.duty≤500
 step:1≤b.step∧b.step≤100
 many:b.bets.length≤100
 odd:∀ x∈b.bets,oddB b x=false
 left:(b.scr.length:Int)≤b.n - 2
 scr:∀ r∈b.scr,0≤r∧r < b.n
 inc:rising b.scr=true
theorem zo6 {b:Bk} (e:zai b=0):BVal b:=by
 unfold zai at e
 split at e
 ·cases e
 rename_i h1
 split at e
 ·cases e
 rename_i h2
 split at e
 ·cases e
 rename_i h3
 split at e
 ·cases e
 rename_i h4
 split at e
 ·cases e
 rename_i h5
 simp only [not_or,Bool.not_eq_false] at h1 h2 h5
 obtain ⟨a1,a2,a3,a4⟩:=h2
 obtain ⟨c1,c2,c3⟩:=h5
 refine ⟨inR_iff.1 h1,inR_iff.1 a1,inR_iff.1 a2,inR_iff.1 a3,inR_iff.1 a4,by omega,fun x hx=>?_,by omega,fun r hr=>isRun_iff.1 (List.all_eq_true.1 c2 r hr),c3⟩
 cases ho:oddB b x
 ·rfl
 ·exact absurd (List.any_eq_true.2 ⟨x,hx,ho⟩) h4
end Go.Proofs.YtkbaiobnibmmgaaGreat
namespace Go.Proofs.YtkbaiobnibmmgaaGreat
open Go.RowKit
set_option maxHeartbeats 400000 in
theorem zxf (l:List Int) (sa:Option Addr) (cap:Nat) (f:Nat) (cs:Array Value) (p:Int→Bool) (w:World)
  (hl:l.length≤9223372036854775807)
  (hs:l=[]∨∃ b off,sa=some ⟨b,off,none⟩∧∀ i,(h:i < l.length)→w.cell? ⟨b,off+i,none⟩=some (.int .i64 l[i]))
  (hcall:∀ args W,(callFunc f args).run Tryz.prog W = .ok (.enter f args) W)
  (hf:∀ x,x∈l→∀ W,Ext w W→Calls Tryz.prog f (#[.int .i64 x] ++ cs) W fun e W'=>e = .returned (.bool (p x))∧Ext W W') :
  Calls Tryz.prog 153 #[.slice sa l.length cap,.func (.func f) #[] cs] w fun e w'=>e = .returned (.int .i64 (fidx p l))∧Ext w w':=by
 have Hf:=Lib.hid hf
 clear hf
 go_enter Tryz.func153,Tryz.ntmps153
 go_wp2
 go_loopw [8] (fun i W=>∃ k:Nat,k≤l.length∧i = .int .i64 k∧(∀ x∈l.take k,p x=false)∧Ext w W) (fun i _=>l.length - (intOf i).toNat)
 case atStart=>exact ⟨0,Nat.zero_le _,rfl,by simp,Below.refl _ _⟩
 case round =>
  obtain ⟨k,hk,rfl,hno,hb⟩:=hrel
  have HN:=Lib.hid hno
  clear hno
  by_cases hlt:k < l.length
  ·have hs':∃ b off,sa=some ⟨b,off,none⟩∧∀ i,(h:i < l.length)→w.cell? ⟨b,off+i,none⟩=some (.int .i64 l[i]):=by
    rcases hs with rfl | h
    ·simp at hlt
    ·exact h
   clear hs
   obtain ⟨b,off,rfl,hc⟩:=hs'
   have hc1:=hc k hlt
   have HC:Hid (∀ i,(h:i < l.length)→w.cell? ⟨b,off+i,none⟩=some (.int .i64 l[i])):=Lib.hid hc
   clear hc
   have hcell:=zb hb hc1
   clear hc1
   go_wp2_with fail
   refine (Hf.out l[k] (List.getElem_mem hlt) _ hb).mono ?_
   rintro e W' ⟨rfl,hb'⟩
   cases hp:p l[k]
   ·go_wp2
    go_roundw
    case rel=>exact ⟨k+1,by omega,by go_num,zhp hlt HN.out hp,hb.trans' hb'⟩
    case measure=>simp [intOf];omega
   ·go_wp2
    go_ret
    exact ⟨zy (zg4 hlt HN.out hp).symm,hb.trans' hb'⟩
  ·go_wp2
   go_ret
   exact ⟨zy (ze4 (zhq hlt HN.out)).symm,hb⟩
set_option maxHeartbeats 400000 in
theorem zr7 (l:List Int) (sa:Option Addr) (cap:Nat) (f:Nat) (cs:Array Value) (p:Int→Bool) (w:World)
  (hl:l.length≤9223372036854775807)
  (hs:l=[]∨∃ b off,sa=some ⟨b,off,none⟩∧∀ i,(h:i < l.length)→w.cell? ⟨b,off+i,none⟩=some (.int .i64 l[i]))
  (hcall:∀ args W,(callFunc f args).run Tryz.prog W = .ok (.enter f args) W)
  (hf:∀ x,x∈l→∀ W,Ext w W→Calls Tryz.prog f (#[.int .i64 x] ++ cs) W fun e W'=>e = .returned (.bool (p x))∧Ext W W') :
  Calls Tryz.prog 97 #[.slice sa l.length cap,.func (.func f) #[] cs] w fun e w'=>e = .returned (.bool (l.any p))∧Ext w w':=by
 have H:=Lib.hid (zxf l sa cap f cs p w hl hs hcall hf)
 clear hf hs hcall
 go_enter Tryz.func97,Tryz.ntmps97
 go_wp2_with fail
 refine H.out.mono ?_
 rintro e W' ⟨rfl,hb⟩
 go_wp2
 all_goals
  go_ret
  refine ⟨zac ?_,hb⟩
  rw [← zho]
set_option maxHeartbeats 400000 in
theorem zxg (l:List Int) (sa:Option Addr) (cap:Nat) (f:Nat) (cs:Array Value) (p:Int→Bool) (w:World)
  (hl:l.length≤9223372036854775807)
  (hs:l=[]∨∃ b off,sa=some ⟨b,off,none⟩∧∀ i,(h:i < l.length)→w.cell? ⟨b,off+i,none⟩=some (.int .i64 l[i]))
  (hcall:∀ args W,(callFunc f args).run Tryz.prog W = .ok (.enter f args) W)
  (hf:∀ x,x∈l→∀ W,Ext w W→Calls Tryz.prog f (#[.int .i64 x] ++ cs) W fun e W'=>e = .returned (.bool (p x))∧Ext W W') :
  Calls Tryz.prog 144 #[.slice sa l.length cap,.func (.func f) #[] cs] w fun e w'=>e = .returned (.int .i64 (fidx p l))∧Ext w w':=by
 have Hf:=Lib.hid hf
 clear hf
 go_enter Tryz.func144,Tryz.ntmps144
 go_wp2
 go_loopw [8] (fun i W=>∃ k:Nat,k≤l.length∧i = .int .i64 k∧(∀ x∈l.take k,p x=false)∧Ext w W) (fun i _=>l.length - (intOf i).toNat)
 case atStart=>exact ⟨0,Nat.zero_le _,rfl,by simp,Below.refl _ _⟩
 case round =>
  obtain ⟨k,hk,rfl,hno,hb⟩:=hrel
  have HN:=Lib.hid hno
  clear hno
  by_cases hlt:k < l.length
  ·have hs':∃ b off,sa=some ⟨b,off,none⟩∧∀ i,(h:i < l.length)→w.cell? ⟨b,off+i,none⟩=some (.int .i64 l[i]):=by
    rcases hs with rfl | h
    ·simp at hlt
    ·exact h
   clear hs
   obtain ⟨b,off,rfl,hc⟩:=hs'
   have hc1:=hc k hlt
   have HC:Hid (∀ i,(h:i < l.length)→w.cell? ⟨b,off+i,none⟩=some (.int .i64 l[i])):=Lib.hid hc
   clear hc
   have hcell:=zb hb hc1
   clear hc1
   go_wp2_with fail
   refine (Hf.out l[k] (List.getElem_mem hlt) _ hb).mono ?_
   rintro e W' ⟨rfl,hb'⟩
   cases hp:p l[k]
   ·go_wp2
    go_roundw
    case rel=>exact ⟨k+1,by omega,by go_num,zhp hlt HN.out hp,hb.trans' hb'⟩
    case measure=>simp [intOf];omega
   ·go_wp2
    go_ret
    exact ⟨zy (zg4 hlt HN.out hp).symm,hb.trans' hb'⟩
  ·go_wp2
   go_ret
   exact ⟨zy (ze4 (zhq hlt HN.out)).symm,hb⟩
set_option maxHeartbeats 400000 in
theorem zib (l:List Int) (sa:Option Addr) (cap:Nat) (f:Nat) (cs:Array Value) (p:Int→Bool) (w:World)
  (hl:l.length≤9223372036854775807)
  (hs:l=[]∨∃ b off,sa=some ⟨b,off,none⟩∧∀ i,(h:i < l.length)→w.cell? ⟨b,off+i,none⟩=some (.int .i64 l[i]))
  (hcall:∀ args W,(callFunc f args).run Tryz.prog W = .ok (.enter f args) W)
  (hf:∀ x,x∈l→∀ W,Ext w W→Calls Tryz.prog f (#[.int .i64 x] ++ cs) W fun e W'=>e = .returned (.bool (p x))∧Ext W W') :
  Calls Tryz.prog 87 #[.slice sa l.length cap,.func (.func f) #[] cs] w fun e w'=>e = .returned (.bool (l.any p))∧Ext w w':=by
 have H:=Lib.hid (zxg l sa cap f cs p w hl hs hcall hf)
 clear hf hs hcall
 go_enter Tryz.func87,Tryz.ntmps87
 go_wp2_with fail
 refine H.out.mono ?_
 rintro e W' ⟨rfl,hb⟩
 go_wp2
 all_goals
  go_ret
  refine ⟨zac ?_,hb⟩
  rw [← zho]
set_option maxHeartbeats 400000 in
theorem zxh (l:List PB) (sa:Option Addr) (cap:Nat) (f:Nat) (cs:Array Value) (p:PB→Bool) (w:World)
  (hl:l.length≤9223372036854775807)
  (hs:l=[]∨∃ b off,sa=some ⟨b,off,none⟩∧∀ i,(h:i < l.length)→w.cell? ⟨b,off+i * 3,none⟩=some (.int .i64 l[i].f)∧w.cell? ⟨b,off+i * 3+1,none⟩=some (.int .i64 l[i].s)∧w.cell? ⟨b,off+i * 3+2,none⟩=some (.int .i64 l[i].u))
  (hcall:∀ args W,(callFunc f args).run Tryz.prog W = .ok (.enter f args) W)
  (hf:∀ x,x∈l→∀ W,Ext w W→Calls Tryz.prog f (#[.agg #[.int .i64 x.f,.int .i64 x.s,.int .i64 x.u]] ++ cs) W fun e W'=>e = .returned (.bool (p x))∧Ext W W') :
  Calls Tryz.prog 197 #[.slice sa l.length cap,.func (.func f) #[] cs] w fun e w'=>e = .returned (.int .i64 (fidx p l))∧Ext w w':=by
 have Hf:=Lib.hid hf
 clear hf
 go_enter Tryz.func197,Tryz.ntmps197
 go_wp2
 go_loopw [8] (fun i W=>∃ k:Nat,k≤l.length∧i = .int .i64 k∧(∀ x∈l.take k,p x=false)∧Ext w W) (fun i _=>l.length - (intOf i).toNat)
 case atStart=>exact ⟨0,Nat.zero_le _,rfl,by simp,Below.refl _ _⟩
 case round =>
  obtain ⟨k,hk,rfl,hno,hb⟩:=hrel
  have HN:=Lib.hid hno
  clear hno
  by_cases hlt:k < l.length
  ·have hs':∃ b off,sa=some ⟨b,off,none⟩∧∀ i,(h:i < l.length)→w.cell? ⟨b,off+i * 3,none⟩=some (.int .i64 l[i].f)∧w.cell? ⟨b,off+i * 3+1,none⟩=some (.int .i64 l[i].s)∧w.cell? ⟨b,off+i * 3+2,none⟩=some (.int .i64 l[i].u):=by
    rcases hs with rfl | h
    ·simp at hlt
    ·exact h
   clear hs
   obtain ⟨b,off,rfl,hc⟩:=hs'
   have hc1:=hc k hlt
   have HC:Hid (∀ i,(h:i < l.length)→w.cell? ⟨b,off+i * 3,none⟩=some (.int .i64 l[i].f)∧w.cell? ⟨b,off+i * 3+1,none⟩=some (.int .i64 l[i].s)∧w.cell? ⟨b,off+i * 3+2,none⟩=some (.int .i64 l[i].u)):=Lib.hid hc
   clear hc
   obtain ⟨a0,a1,a2⟩:=hc1
   have c0:=zb hb a0
   have c1:=zb hb a1
   have c2:=zb hb a2
   clear a0 a1 a2
   go_wp2_with fail
   refine (Hf.out l[k] (List.getElem_mem hlt) _ hb).mono ?_
   rintro e W' ⟨rfl,hb'⟩
   cases hp:p l[k]
   ·go_wp2
    go_roundw
    case rel=>exact ⟨k+1,by omega,by go_num,zhp hlt HN.out hp,hb.trans' hb'⟩
    case measure=>simp [intOf];omega
   ·go_wp2
    go_ret
    exact ⟨zy (zg4 hlt HN.out hp).symm,hb.trans' hb'⟩
  ·go_wp2
   go_ret
   exact ⟨zy (ze4 (zhq hlt HN.out)).symm,hb⟩
set_option maxHeartbeats 400000 in
theorem zr8 (l:List PB) (sa:Option Addr) (cap:Nat) (f:Nat) (cs:Array Value) (p:PB→Bool) (w:World)
  (hl:l.length≤9223372036854775807)
  (hs:l=[]∨∃ b off,sa=some ⟨b,off,none⟩∧∀ i,(h:i < l.length)→w.cell? ⟨b,off+i * 3,none⟩=some (.int .i64 l[i].f)∧w.cell? ⟨b,off+i * 3+1,none⟩=some (.int .i64 l[i].s)∧w.cell? ⟨b,off+i * 3+2,none⟩=some (.int .i64 l[i].u))
  (hcall:∀ args W,(callFunc f args).run Tryz.prog W = .ok (.enter f args) W)
  (hf:∀ x,x∈l→∀ W,Ext w W→Calls Tryz.prog f (#[.agg #[.int .i64 x.f,.int .i64 x.s,.int .i64 x.u]] ++ cs) W fun e W'=>e = .returned (.bool (p x))∧Ext W W') :
  Calls Tryz.prog 135 #[.slice sa l.length cap,.func (.func f) #[] cs] w fun e w'=>e = .returned (.bool (l.any p))∧Ext w w':=by
 have H:=Lib.hid (zxh l sa cap f cs p w hl hs hcall hf)
 clear hf hs hcall
 go_enter Tryz.func135,Tryz.ntmps135
 go_wp2_with fail
 refine H.out.mono ?_
 rintro e W' ⟨rfl,hb⟩
 go_wp2
 all_goals
  go_ret
  refine ⟨zac ?_,hb⟩
  rw [← zho]
end Go.Proofs.YtkbaiobnibmmgaaGreat
namespace Go.Proofs.YtkbaiobnibmmgaaGreat
open Go.RowKit Go.Shelf
set_option maxHeartbeats 400000 in
theorem zyd (n lo hi:Int) (a b:Addr) (w:World) (h1:w.cell? a=some (.int .i64 lo)) (h2:w.cell? b=some (.int .i64 hi)) :
  Calls Tryz.prog 196 #[.int .i64 n,.pointer (some a),.pointer (some b)] w fun e w'=>e = .returned (.bool (decide (n < lo) || decide (hi < n)))∧Ext w w':=by
 go_enter Tryz.func196,Tryz.ntmps196
 go_wp2
 all_goals
  go_ret
  exact ⟨zac (by simp [*]),Below.refl _ _⟩
set_option maxHeartbeats 400000 in
theorem zef (lo hi:Int) (v:Value) (l:List Int) (w:World) (hv:IsInts w .i64 v l) :
  Calls Tryz.prog 134 #[.int .i64 lo,.int .i64 hi,v] w fun e w'=>e = .returned (.bool (l.all (inR lo hi)))∧Ext w w':=by
 obtain ⟨sa,cap,rfl,h1,h2,h3⟩:=hv.spec
 have H3:=Lib.hid h3
 clear h3 hv
 go_enter Tryz.func134,Tryz.ntmps134
 go_wp2_with fail
 have hE:Ext w ((w.alloc (.cells #[.int .i64 lo] 2)).alloc (.cells #[.int .i64 hi] 2)):=((Below.refl _ _).alloc (Nat.le_refl _) _).alloc (by simp) _
 have e1:((w.alloc (.cells #[.int .i64 lo] 2)).alloc (.cells #[.int .i64 hi] 2)).cell? ⟨w.heap.size,0,none⟩=some (.int .i64 lo):=by simp [go_sem]
 have e2:((w.alloc (.cells #[.int .i64 lo] 2)).alloc (.cells #[.int .i64 hi] 2)).cell? ⟨w.heap.size+1,0,none⟩=some (.int .i64 hi):=by simp [go_sem]
 refine (zib l sa cap 196 #[.pointer (some ⟨w.heap.size,0,none⟩),.pointer (some ⟨w.heap.size+1,0,none⟩)] (fun n=>decide (n < lo) || decide (hi < n)) _ (by omega) (H3.out.imp id fun ⟨b,off,e,hc⟩=>⟨b,off,e,fun i hi=>zb hE (hc i hi)⟩)
  (fun args W=>Tryz.call196 args W) (fun x _ W hW=>zyd x lo hi _ _ W (zb hW e1) (zb hW e2))).mono ?_
 rintro e W' ⟨rfl,hb⟩
 clear e1 e2
 go_wp2
 all_goals
  go_ret
  refine ⟨zac (a:=!l.any fun n=>decide (n < lo) || decide (hi < n)) ?_,hE.trans' hb⟩
  exact zzq lo hi l
theorem zaq {w:World} {b cap:Nat} {x:Int} (h2:1≤cap) (h3:cap≤9223372036854775807) (c0:w.cell? ⟨b,0,none⟩=some (.int .i64 x)) :
  IsInts w .i64 (.slice (some ⟨b,0,none⟩) 1 cap) [x]:=by
 refine IsInts.mk (l:=[x]) (off:=0) (by simpa using h2) h3 fun i hi=>?_
 match i,hi with
 | 0,_=>simpa using c0
set_option maxHeartbeats 400000 in
theorem zvf (r n:Int) (p:Nat) (w:World) (h1:w.cell? ⟨p,1,none⟩=some (.int .i64 n)) :
  Calls Tryz.prog 198 #[.int .i64 r,.pointer (some ⟨p,0,none⟩)] w fun e w'=>e = .returned (.bool (decide (r < 0) || decide (n≤r)))∧Ext w w':=by
 go_enter Tryz.func198,Tryz.ntmps198
 go_wp2
 all_goals
  go_ret
  exact ⟨zac (by simp [*]),Below.refl _ _⟩
set_option maxRecDepth 100000 in
set_option maxHeartbeats 1000000 in
theorem zhw (b:Bk) (ba sa:Option Addr) (bcap scap:Nat) (v:Value) (l:List Int) (w:World) (hv:IsInts w .i64 v l) :
  Calls Tryz.prog 138 #[.agg #[.int .i64 b.kd,.int .i64 b.n,.slice ba b.bets.length bcap,.slice sa b.scr.length scap,.bool b.fav,.int .i64 b.car,.int .i64 b.duty,.int .i64 b.step],v] w fun e w'=>e = .returned (.bool (l.all (zb7 b.n)))∧Ext w w':=by
 obtain ⟨la,cap,rfl,h1,h2,h3⟩:=hv.spec
 have H3:=Lib.hid h3
 clear h3 hv
 go_enter Tryz.func138,Tryz.ntmps138
 go_upto_region 1 with (fail)
 obtain ⟨W0,hW0⟩:∃ W0,W0=w.alloc (.cells #[.int .i64 b.kd,.int .i64 b.n,.slice ba b.bets.length bcap,.slice sa b.scr.length scap,.bool b.fav,.int .i64 b.car,.int .i64 b.duty,.int .i64 b.step] 25):=⟨_,rfl⟩
 have hE:Ext w W0:=by rw [hW0];exact xx
 have e1:W0.cell? ⟨w.heap.size,1,none⟩=some (.int .i64 b.n):=by rw [hW0];simp [go_sem]
 rw [← hW0]
 clear hW0
 go_wp2_with fail
 refine (zr7 l la cap 198 #[.pointer (some ⟨w.heap.size,0,none⟩)] (fun r=>decide (r < 0) || decide (b.n≤r)) _ (by omega) (H3.out.imp id fun ⟨b,off,e,hc⟩=>⟨b,off,e,fun i hi=>zb hE (hc i hi)⟩)
  (fun args W=>Tryz.call198 args W) (fun x _ W hW=>zvf x b.n _ W (zb hW e1))).mono ?_
 rintro e W' ⟨rfl,hb⟩
 clear e1
 go_wp2
 all_goals
  go_ret
  refine ⟨zac (a:=!l.any fun r=>decide (r < 0) || decide (b.n≤r)) ?_,hE.trans' hb⟩
  exact z3m b.n l
set_option maxRecDepth 100000 in
set_option maxHeartbeats 1000000 in
theorem zeg (b:Bk) (ba sa:Option Addr) (bcap scap:Nat) (w:World) :
  Calls Tryz.prog 147 #[.agg #[.int .i64 b.kd,.int .i64 b.n,.slice ba b.bets.length bcap,.slice sa b.scr.length scap,.bool b.fav,.int .i64 b.car,.int .i64 b.duty,.int .i64 b.step]] w fun e w'=>e = .returned (.bool (single b))∧Ext w w':=by
 go_enter Tryz.func147,Tryz.ntmps147
 go_wp2
 all_goals
  go_ret
  exact ⟨zac (by unfold single;first | (simp [*];done) | (by_cases e0:b.kd=0<;>by_cases e1:b.kd=1<;>simp_all)),by exact xx⟩
theorem ze8 {α:Type} (p:α→Bool) (x:α):[x].all p=p x:=by simp
set_option maxRecDepth 100000 in
set_option maxHeartbeats 1000000 in
theorem z78 (b:Bk) (ba sa:Option Addr) (bcap scap:Nat) (x:PB) (w:World) :
  Calls Tryz.prog 137 #[.agg #[.int .i64 b.kd,.int .i64 b.n,.slice ba b.bets.length bcap,.slice sa b.scr.length scap,.bool b.fav,.int .i64 b.car,.int .i64 b.duty,.int .i64 b.step],.agg #[.int .i64 x.f,.int .i64 x.s,.int .i64 x.u]] w fun e w'=>e = .returned (.bool (oddB b x))∧Ext w w':=by
 go_enter Tryz.func137,Tryz.ntmps137
 go_upto_region 1 with (fail)
 obtain ⟨W0,hW0⟩:∃ W0,W0=(w.alloc (.cells #[.int .i64 b.kd,.int .i64 b.n,.slice ba b.bets.length bcap,.slice sa b.scr.length scap,.bool b.fav,.int .i64 b.car,.int .i64 b.duty,.int .i64 b.step] 25)).alloc (.cells #[.int .i64 x.f,.int .i64 x.s,.int .i64 x.u] 36):=⟨_,rfl⟩
 have hE:Ext w W0:=by rw [hW0];exact xx
 have k0:W0.cell? ⟨w.heap.size,0,none⟩=some (.int .i64 b.kd):=by rw [hW0];simp [go_sem]
 have k1:W0.cell? ⟨w.heap.size,1,none⟩=some (.int .i64 b.n):=by rw [hW0];simp [go_sem]
 have k2:W0.cell? ⟨w.heap.size,2,none⟩=some (.slice ba b.bets.length bcap):=by rw [hW0];simp [go_sem]
 have k3:W0.cell? ⟨w.heap.size,3,none⟩=some (.slice sa b.scr.length scap):=by rw [hW0];simp [go_sem]
 have k4:W0.cell? ⟨w.heap.size,4,none⟩=some (.bool b.fav):=by rw [hW0];simp [go_sem]
 have k5:W0.cell? ⟨w.heap.size,5,none⟩=some (.int .i64 b.car):=by rw [hW0];simp [go_sem]
 have k6:W0.cell? ⟨w.heap.size,6,none⟩=some (.int .i64 b.duty):=by rw [hW0];simp [go_sem]
 have k7:W0.cell? ⟨w.heap.size,7,none⟩=some (.int .i64 b.step):=by rw [hW0];simp [go_sem]
 have c0:W0.cell? ⟨w.heap.size+1,0,none⟩=some (.int .i64 x.f):=by rw [hW0];simp [go_sem]
 have c1:W0.cell? ⟨w.heap.size+1,1,none⟩=some (.int .i64 x.s):=by rw [hW0];simp [go_sem]
 have c2:W0.cell? ⟨w.heap.size+1,2,none⟩=some (.int .i64 x.u):=by rw [hW0];simp [go_sem]
 have hz1:w.heap.size+1 < W0.heap.size:=World.block_lt_of_cell? _ _ c0
 have hz:w.heap.size < W0.heap.size:=by omega
 have HW:=Lib.hid hE
 rw [← hW0]
 clear hW0 hE
 go_wp2_with fail
 refine zat (W0:=W0) (g:=⟨W0,Below.refl _ _⟩) xx (zef 1 1000 _ [x.u] _ (zaq (by omega) (by omega) (by simp [go_sem]))) fun g1 hgr=>?_
 clear hgr
 rw [ze8]
 cases h1:inR 1 1000 x.u
 ·go_wp2_with fail
  go_ret
  exact ⟨zac (by unfold oddB;rw [if_pos (.inl h1)]),HW.out.trans' (zi W0 _)⟩
 go_wp2_with fail
 refine zat (W0:=W0) (g:=g1) xx (zhw b ba sa bcap scap _ [x.f] _ (zaq (by omega) (by omega) (by simp [go_sem]))) fun g2 hgr=>?_
 clear hgr
 rw [ze8]
 cases h2:zb7 b.n x.f
 ·go_wp2_with fail
  go_ret
  exact ⟨zac (by unfold oddB;rw [if_pos (.inr h2)]),HW.out.trans' (zi W0 _)⟩
 have h12:¬ (inR 1 1000 x.u=false∨zb7 b.n x.f=false):=by rw [h1,h2];simp
 have H12:=Lib.hid h12
 clear h1 h2 h12
 go_wp2_with fail
 refine zat (W0:=W0) (g:=g2) xx (zeg b ba sa bcap scap _) fun g3 hgr=>?_
 clear hgr
 cases h3:single b
 ·have H3:=Lib.hid (show ¬ single b=true by rw [h3];simp)
  clear h3
  go_wp2_with fail
  refine zat (W0:=W0) (g:=g3) xx (zhw b ba sa bcap scap _ [x.s] _ (zaq (by omega) (by omega) (by simp [go_sem]))) fun g4 hgr=>?_
  clear hgr
  rw [ze8]
  cases h4:zb7 b.n x.s
  ·go_wp2_with fail
   go_ret
   exact ⟨zac (by unfold oddB;rw [if_neg H12.out,if_neg H3.out,if_pos (.inl h4)]),HW.out.trans' (zi W0 _)⟩
  by_cases h5:x.f=x.s
  ·have e1:(x.f == x.s)=true:=by simpa using h5
   have H5:=Lib.hid h5
   clear h5
   go_wp2_with fail
   go_ret
   exact ⟨zac (by unfold oddB;rw [if_neg H12.out,if_neg H3.out,if_pos (.inr H5.out)]),HW.out.trans' (zi W0 _)⟩
  ·have e1:(x.f == x.s)=false:=by simpa using h5
   have H45:=Lib.hid (show ¬ (zb7 b.n x.s=false∨x.f=x.s) by rw [h4];simp [h5])
   clear h4 h5
   go_wp2_with fail
   all_goals
    go_ret
    refine ⟨zac ?_,HW.out.trans' (zi W0 _)⟩
    unfold oddB
    rw [if_neg H12.out,if_neg H3.out,if_neg H45.out]
    first | (simp [*];done) | (by_cases e0:b.kd=3<;>simp_all)
 ·go_wp2_with fail
  all_goals
   go_ret
   refine ⟨zac ?_,HW.out.trans' (zi W0 _)⟩
   unfold oddB
   rw [if_neg H12.out,if_pos h3]
   first | rfl | (simp [*];done) | (by_cases e0:x.s = -1<;>simp_all)
set_option maxRecDepth 100000 in
set_option maxHeartbeats 1000000 in
theorem zr9 (l:List Int) (v:Value) (w:World) (hv:IsInts w .i64 v l) :
  Calls Tryz.prog 70 #[v] w fun e w'=>e = .returned (.bool (rising l))∧Ext w w':=by
 obtain ⟨la,cap,rfl,h1,h2,h3⟩:=hv.spec
 have H3:=Lib.hid h3
 clear h3 hv
 go_enter Tryz.func70,Tryz.ntmps70
 go_wp2_with fail
 go_loopw [3,6] (fun _ iv W=>∃ k:Nat,k≤l.length∧iv = .int .i64 k∧(∀ i,i < k→flat l i=false)∧Ext w W) (fun _ iv _=>l.length - (intOf iv).toNat)
 case atStart=>exact ⟨0,by omega,rfl,fun i hi=>by omega,Below.refl _ _⟩
 case round =>
  obtain ⟨k,hk,rfl,hno,hE⟩:=hrel
  have HNO:=Lib.hid hno
  have HE:=Lib.hid hE
  clear hno
  by_cases hlt:k < l.length
  ·have hki:(k:Int) < (l.length:Int):=by omega
   rcases H3.out with h0 | ⟨b,off,rfl,hc⟩
   ·rw [h0] at hlt;simp at hlt
   have HC:=Lib.hid hc
   clear hc H3
   by_cases hk0:k=0
   ·have hd:decide ((0:Int) < (k:Int))=false:=decide_eq_false (by omega)
    have hf:flat l k=false:=by unfold flat;rw [decide_eq_false (by omega)];rfl
    have HF:=Lib.hid hf
    clear hE hf
    go_wp2_with fail
    go_quiet (fail)
    go_wp2_with fail
    go_roundw
    case rel =>
     refine ⟨k+1,by omega,by go_num,fun i hi=>?_,HE.out.trans' xx⟩
     by_cases e:i=k
     ·rw [e];exact HF.out
     ·exact HNO.out i (by omega)
    case measure=>simp [intOf];omega
   ·have hd:decide ((0:Int) < (k:Int))=true:=decide_eq_true (by omega)
    obtain ⟨p,rfl⟩:∃ p,k=p+1:=⟨k - 1,by omega⟩
    have hw1:IntKind.i64.wrap (((p+1:Nat):Int) - 1)=(p:Int):=by rw [IntWalk.i64_in _ (by omega)];omega
    have hpi:(p:Int) < (l.length:Int):=by omega
    have c0:=zb hE (HC.out p (by omega))
    have c1:=zb hE (HC.out (p+1) hlt)
    rw [gt_get] at c0 c1
    obtain ⟨x,hx⟩:∃ x,x=gt l p:=⟨_,rfl⟩
    obtain ⟨y,hy⟩:∃ y,y=gt l (p+1):=⟨_,rfl⟩
    rw [← hx] at c0
    rw [← hy] at c1
    have hfl:flat l (p+1)=decide (y≤x):=by unfold flat;rw [decide_eq_true (by omega),Bool.true_and,Nat.add_sub_cancel,hx,hy]
    have HF:=Lib.hid hfl
    clear hE hfl hx hy
    cases hyx:decide (y≤x)
    ·go_wp2_with fail
     go_quiet (fail)
     go_wp2_with fail
     go_roundw
     case rel =>
      refine ⟨p+1+1,by omega,by go_num,fun i hi=>?_,HE.out.trans' xx⟩
      by_cases e:i=p+1
      ·rw [e,HF.out];exact hyx
      ·exact HNO.out i (by omega)
     case measure=>simp [intOf];omega
    ·go_wp2_with fail
     go_quiet (fail)
     go_wp2_with fail
     go_ret
     refine ⟨zac ?_,HE.out.trans' xx⟩
     unfold rising
     rw [show (List.range l.length).any (flat l)=true from List.any_eq_true.2 ⟨p+1,List.mem_range.2 hlt,by rw [HF.out];exact hyx⟩]
     rfl
  ·have hki:¬ ((k:Int) < (l.length:Int)):=by omega
   go_wp2_with fail
   go_ret
   refine ⟨zac ?_,HE.out⟩
   unfold rising
   rw [show (List.range l.length).any (flat l)=false from List.any_eq_false.2 fun i hi=>by rw [HNO.out i (by have:=List.mem_range.1 hi;omega)];simp]
   rfl
set_option maxRecDepth 100000 in
set_option maxHeartbeats 1000000 in
theorem zs7 (b:Bk) (ba sa:Option Addr) (bcap scap:Nat) (x:PB) (p:Nat) (w:World) (h:BookAt w p b ba bcap sa scap) :
  Calls Tryz.prog 136 #[.agg #[.int .i64 x.f,.int .i64 x.s,.int .i64 x.u],.pointer (some ⟨p,0,none⟩)] w fun e w'=>e = .returned (.bool (oddB b x))∧Ext w w':=by
 have k0:=(h).c0
 have k1:=(h).c1
 have k2:=(h).c2
 have k3:=(h).c3
 have k4:=(h).c4
 have k5:=(h).c5
 have k6:=(h).c6
 have k7:=(h).c7
 have hz:=(h).lt
 clear h
 go_enter Tryz.func136,Tryz.ntmps136
 go_wp2_with fail
 refine (z78 b ba sa bcap scap x _).mono ?_
 rintro e W' ⟨rfl,hb⟩
 have HB:=Lib.hid hb
 clear k0 k1 k2 k3 k4 k5 k6 k7 hb
 go_wp2_with fail
 go_ret
 exact ⟨rfl,Ext.trans' (by exact xx) HB.out⟩
set_option maxRecDepth 100000 in
set_option maxHeartbeats 2000000 in
theorem zvg (b:Bk) (ba sa:Option Addr) (bcap scap:Nat) (w:World) (hv:IsBook w b ba bcap sa scap) :
  Calls Tryz.prog 73 #[.agg #[.int .i64 b.kd,.int .i64 b.n,.slice ba b.bets.length bcap,.slice sa b.scr.length scap,.bool b.fav,.int .i64 b.car,.int .i64 b.duty,.int .i64 b.step]] w fun e w'=>e = .returned (.int .i64 (zai b))∧Ext w w':=by
 obtain ⟨⟨q1,q2⟩,q3,q4⟩:=hv.caps
 have HV:=Lib.hid hv
 clear hv
 go_enter Tryz.func73,Tryz.ntmps73
 go_upto_region 1 with (fail)
 obtain ⟨W0,hW0⟩:∃ W0,W0=w.alloc (.cells #[.int .i64 b.kd,.int .i64 b.n,.slice ba b.bets.length bcap,.slice sa b.scr.length scap,.bool b.fav,.int .i64 b.car,.int .i64 b.duty,.int .i64 b.step] 25):=⟨_,rfl⟩
 have hE:Ext w W0:=by rw [hW0];exact xx
 have k0:W0.cell? ⟨w.heap.size,0,none⟩=some (.int .i64 b.kd):=by rw [hW0];simp [go_sem]
 have k1:W0.cell? ⟨w.heap.size,1,none⟩=some (.int .i64 b.n):=by rw [hW0];simp [go_sem]
 have k2:W0.cell? ⟨w.heap.size,2,none⟩=some (.slice ba b.bets.length bcap):=by rw [hW0];simp [go_sem]
 have k3:W0.cell? ⟨w.heap.size,3,none⟩=some (.slice sa b.scr.length scap):=by rw [hW0];simp [go_sem]
 have k4:W0.cell? ⟨w.heap.size,4,none⟩=some (.bool b.fav):=by rw [hW0];simp [go_sem]
 have k5:W0.cell? ⟨w.heap.size,5,none⟩=some (.int .i64 b.car):=by rw [hW0];simp [go_sem]
 have k6:W0.cell? ⟨w.heap.size,6,none⟩=some (.int .i64 b.duty):=by rw [hW0];simp [go_sem]
 have k7:W0.cell? ⟨w.heap.size,7,none⟩=some (.int .i64 b.step):=by rw [hW0];simp [go_sem]
 have hz:w.heap.size < W0.heap.size:=World.block_lt_of_cell? _ _ k0
 have HS:=Lib.hid (HV.out.ext hE)
 have HW:=Lib.hid hE
 rw [← hW0]
 clear hW0 HV
 have HB:Hid (BookAt W0 w.heap.size b ba bcap sa scap):=Lib.hid ⟨k0,k1,k2,k3,k4,k5,k6,k7⟩
 clear hE
 go_wp2_with fail
 refine zat (W0:=W0) (g:=⟨W0,Below.refl _ _⟩) xx (zef 0 3 _ [b.kd] _ (zaq (by omega) (by omega) (by simp [go_sem]))) fun g1 hgr=>?_
 clear hgr
 rw [ze8]
 cases h1:inR 0 3 b.kd
 ·go_wp2_with fail
  go_ret
  exact ⟨zy (by unfold zai;rw [if_pos h1]),HW.out.trans' (zi W0 _)⟩
 have H1:=Lib.hid (show ¬ inR 0 3 b.kd=false by rw [h1];simp)
 clear h1
 go_wp2_with fail
 refine zat (W0:=W0) (g:=g1) xx (zef 2 8 _ [b.n] _ (zaq (by omega) (by omega) (by simp [go_sem]))) fun g2 hgr=>?_
 clear hgr
 rw [ze8]
 cases h2:inR 2 8 b.n
 ·go_wp2_with fail
  go_ret
  exact ⟨zy (by unfold zai;rw [if_neg H1.out,if_pos (.inl h2)]),HW.out.trans' (zi W0 _)⟩
 go_wp2_with fail
 refine zat (W0:=W0) (g:=g2) xx (zef 0 1000000 _ [b.car] _ (zaq (by omega) (by omega) (by simp [go_sem]))) fun g3 hgr=>?_
 clear hgr
 rw [ze8]
 cases h3:inR 0 1000000 b.car
 ·go_wp2_with fail
  go_ret
  exact ⟨zy (by unfold zai;rw [if_neg H1.out,if_pos (.inr (.inl h3))]),HW.out.trans' (zi W0 _)⟩
 go_wp2_with fail
 refine zat (W0:=W0) (g:=g3) xx (zef 0 500 _ [b.duty] _ (zaq (by omega) (by omega) (by simp [go_sem]))) fun g4 hgr=>?_
 clear hgr
 rw [ze8]
 cases h4:inR 0 500 b.duty
 ·go_wp2_with fail
  go_ret
  exact ⟨zy (by unfold zai;rw [if_neg H1.out,if_pos (.inr (.inr (.inl h4)))]),HW.out.trans' (zi W0 _)⟩
 go_wp2_with fail
 refine zat (W0:=W0) (g:=g4) xx (zef 1 100 _ [b.step] _ (zaq (by omega) (by omega) (by simp [go_sem]))) fun g5 hgr=>?_
 clear hgr
 rw [ze8]
 cases h5:inR 1 100 b.step
 ·go_wp2_with fail
  go_ret
  exact ⟨zy (by unfold zai;rw [if_neg H1.out,if_pos (.inr (.inr (.inr h5)))]),HW.out.trans' (zi W0 _)⟩
 have hn:=inR_iff.1 h2
 have H2:=Lib.hid (show ¬ (inR 2 8 b.n=false∨inR 0 1000000 b.car=false∨inR 0 500 b.duty=false∨inR 1 100 b.step=false) by rw [h2,h3,h4,h5];simp)
 clear h2 h3 h4 h5
 by_cases h6:100 < b.bets.length
 ·have h6i:(100:Int) < (b.bets.length:Int):=by omega
  have H6:=Lib.hid h6
  clear h6
  go_wp2_with fail
  go_ret
  exact ⟨zy (by unfold zai;rw [if_neg H1.out,if_neg H2.out,if_pos H6.out]),HW.out.trans' (zi W0 _)⟩
 have h6i:¬ ((100:Int) < (b.bets.length:Int)):=by omega
 have H6:=Lib.hid h6
 clear h6
 obtain ⟨_,_,e0,-,-,hbc⟩:=HS.out.bets.spec
 cases e0
 have HBC:=Lib.hid hbc
 clear hbc
 go_wp2_with fail
 refine zat (W0:=W0) (g:=g5) xx (zr8 b.bets ba bcap 136 #[.pointer (some ⟨w.heap.size,0,none⟩)] (oddB b) _ (by omega) (HBC.out.imp id fun ⟨b',off,e,hc⟩=>⟨b',off,e,fun i hi=>⟨zb xx (hc i hi).1,zb xx (hc i hi).2.1,zb xx (hc i hi).2.2⟩⟩) (fun args W=>Tryz.call136 args W) (fun x _ W hW=>zs7 b ba sa bcap scap x _ W (HB.out.ext (Ext.trans' xx hW)))) fun g6 hgr=>?_
 clear hgr
 cases h7:b.bets.any (oddB b)
 rotate_left
 ·go_wp2_with fail
  go_ret
  exact ⟨zy (by unfold zai;rw [if_neg H1.out,if_neg H2.out,if_neg H6.out,if_pos h7]),HW.out.trans' (zi W0 _)⟩
 have H7:=Lib.hid (show ¬ b.bets.any (oddB b)=true by rw [h7];simp)
 clear h7
 have hwn:IntKind.i64.wrap (b.n - 2)=b.n - 2:=IntWalk.i64_in _ (by omega)
 by_cases h8:b.n - 2 < (b.scr.length:Int)
 ·have H8:=Lib.hid h8
  go_wp2_with fail
  go_ret
  exact ⟨zy (by unfold zai;rw [if_neg H1.out,if_neg H2.out,if_neg H6.out,if_neg H7.out,if_pos (.inl H8.out)]),HW.out.trans' (zi W0 _)⟩
 have hd8:decide (b.n - 2 < (b.scr.length:Int))=false:=decide_eq_false h8
 have h8b:(b.scr.length:Int)≤b.n - 2:=by omega
 go_wp2_with fail
 refine zat (W0:=W0) (g:=g6) xx (zhw b ba sa bcap scap _ b.scr _ (HS.out.ext xx).scr) fun g7 hgr=>?_
 clear hgr
 cases h9:b.scr.all (zb7 b.n)
 ·go_wp2_with fail
  go_ret
  exact ⟨zy (by unfold zai;rw [if_neg H1.out,if_neg H2.out,if_neg H6.out,if_neg H7.out,if_pos (.inr (.inl h9))]),HW.out.trans' (zi W0 _)⟩
 go_wp2_with fail
 refine zat (W0:=W0) (g:=g7) xx (zr9 b.scr _ _ (HS.out.ext xx).scr) fun g8 hgr=>?_
 clear hgr
 cases h10:rising b.scr
 ·go_wp2_with fail
  go_ret
  exact ⟨zy (by unfold zai;rw [if_neg H1.out,if_neg H2.out,if_neg H6.out,if_neg H7.out,if_pos (.inr (.inr h10))]),HW.out.trans' (zi W0 _)⟩
 have H8:=Lib.hid (show ¬ (b.n - 2 < (b.scr.length:Int)∨b.scr.all (zb7 b.n)=false∨rising b.scr=false) by rw [h9,h10];simp;omega)
 clear h8 h9 h10
 go_wp2_with fail
 go_ret
 exact ⟨zy (by unfold zai;rw [if_neg H1.out,if_neg H2.out,if_neg H6.out,if_neg H7.out,if_neg H8.out]),HW.out.trans' (zi W0 _)⟩
end Go.Proofs.YtkbaiobnibmmgaaGreat
namespace Go.Proofs.YtkbaiobnibmmgaaGreat
def sumB (g:PB→Int):List PB→Int
 | []=>0
 | x :: l=>g x+sumB g l
theorem zmg (g:PB→Int):∀ (l m:List PB),sumB g (l ++ m)=sumB g l+sumB g m
 | [],m=>by simp [sumB]
 | x :: l,m=>by simp only [List.cons_append,sumB,zmg g l m];omega
theorem zc7 (g:PB→Int) {l:List PB} {k:Nat} (h:k < l.length):sumB g (l.take (k+1))=sumB g (l.take k)+g l[k]:=by
 rw [List.take_add_one,List.getElem?_eq_getElem h,zmg]
 simp [sumB]
theorem zgq {g h:PB→Int}:∀ {l:List PB},(∀ x∈l,g x=h x)→sumB g l=sumB h l
 | [],_=>rfl
 | x :: l,e=>by rw [sumB,sumB,e x (by simp),zgq fun y hy=>e y (by simp [hy])]
theorem zg7 {g:PB→Int} {c:Int} (hc:0≤c):∀ {l:List PB},(∀ x∈l,0≤g x∧g x≤c)→0≤sumB g l∧sumB g l≤c * (l.length:Int)
 | [],_=>by simp [sumB]
 | x :: l,h=>by
  have h1:=h x (by simp)
  have h2:=zg7 hc fun y hy=>h y (List.mem_cons_of_mem x hy)
  rw [sumB,List.length_cons,Int.natCast_add,Int.mul_add]
  simp only [Int.natCast_one,Int.mul_one]
  omega
def outB (b:Bk) (r:Int):Bool:=b.scr.contains r
def runK (b:Bk) (k:Nat):List Int:=((List.range k).map fun (i:Nat)=>(i:Int)).filter fun r=>!outB b r
def runL (b:Bk):List Int:=runK b b.n.toNat
theorem zic (b:Bk) (k:Nat):runK b (k+1)=runK b k ++ if outB b k then [] else [(k:Int)]:=by
 unfold runK
 rw [List.range_succ,List.map_append,List.filter_append]
 congr 1
 cases h:outB b k<;>simp [h]
theorem z5o (b:Bk) (k:Nat):(runK b k).length≤k:=by
 unfold runK
 exact Nat.le_trans (List.length_filter_le _ _) (by simp)
theorem runL_mem {b:Bk} {r:Int}:r∈runL b↔0≤r∧r < b.n∧outB b r=false:=by
 unfold runL runK
 rw [List.mem_filter,List.mem_map]
 constructor
 ·rintro ⟨⟨i,hi,rfl⟩,h⟩
  have:=List.mem_range.1 hi
  exact ⟨by omega,by omega,by simpa using h⟩
 ·rintro ⟨h1,h2,h3⟩
  exact ⟨⟨r.toNat,List.mem_range.2 (by omega),by omega⟩,by simpa using h3⟩
theorem zsa (b:Bk):(runL b).Nodup:=by
 unfold runL runK
 refine List.Nodup.sublist List.filter_sublist ?_
 rw [List.nodup_iff_pairwise_ne,List.pairwise_map]
 exact List.nodup_range.imp fun h e=>h (by omega)
def onF (b:Bk) (r:Int) (x:PB):Int:=if outB b x.f=false∧outB b x.s=false∧x.f=r then x.u else 0
def zbe (b:Bk) (r:Int):Int:=sumB (onF b r) b.bets
def za7 (g:Int→Int):Int→List Int→Int
 | a,[]=>a
 | a,x :: l=>za7 g (if g a < g x then x else a) l
def favP (b:Bk):Int:=za7 (zbe b) ((runL b).headD 0) (runL b)
def onP (b:Bk) (x:PB):Option (Int × Int) :=
 if outB b x.f=false∧outB b x.s=false then some (x.f,x.s) else if single b=true∧b.fav=true then some (favP b,-1) else none
def za8 (b:Bk) (s:Int × Int) (x:PB):Int:=if onP b x=some s then x.u else 0
def zz (b:Bk) (s:Int × Int):Int:=sumB (za8 b s) b.bets
def inP (b:Bk):Int:=b.car+sumB (fun x=>100 * x.u) b.bets
def zcp (b:Bk) (x:PB):Int:=if onP b x=none then 100 * x.u else 0
def zbg (b:Bk):Int:=sumB (zcp b) b.bets
def zeh (b:Bk):Int:=(inP b - zbg b - b.car) * b.duty / 1000
def netP (b:Bk):Int:=inP b - zbg b - zeh b
theorem BVal.bet {b:Bk} (v:BVal b) {x:PB} (hx:x∈b.bets):(1≤x.u∧x.u≤1000)∧(0≤x.f∧x.f < b.n)∧(single b=true→x.s = -1)∧(single b=false→0≤x.s∧x.s < b.n∧x.f≠x.s∧(b.kd=3→x.f≤x.s)):=by
 have h:=v.odd x hx
 unfold oddB at h
 split at h
 ·cases h
 rename_i h1
 simp only [not_or,Bool.not_eq_false] at h1
 refine ⟨inR_iff.1 h1.1,isRun_iff.1 h1.2,fun hs=>?_,fun hs=>?_⟩
 ·rw [if_pos hs] at h
  simpa using h
 ·rw [if_neg (by rw [hs];simp)] at h
  split at h
  ·cases h
  rename_i h2
  simp only [not_or,Bool.not_eq_false] at h2
  have h3:=isRun_iff.1 h2.1
  refine ⟨h3.1,h3.2,h2.2,fun hk=>?_⟩
  rw [hk] at h
  simp at h
  omega
theorem z79 {l:List Int} (h:rising l=true):∀ i,i+1 < l.length→gt l i < gt l (i+1):=fun i hi=>by
 unfold rising at h
 rw [Bool.not_eq_true',List.any_eq_false] at h
 have h1:=h (i+1) (List.mem_range.2 hi)
 unfold flat at h1
 rw [decide_eq_true (by omega),Bool.true_and,Nat.add_sub_cancel,decide_eq_true_iff] at h1
 omega
theorem z3n {l:List Int} (h:rising l=true) {i j:Nat} (hij:i < j) (hj:j < l.length):gt l i < gt l j:=by
 induction j with
 | zero=>omega
 | succ j ih =>
  have h1:=z79 h j hj
  rcases Nat.lt_or_ge i j with h2 | h2
  ·have:=ih h2 (by omega);omega
  ·have:i=j:=by omega
   subst this;exact h1
theorem zxi {l:List Int} (h:rising l=true):l.Nodup:=by
 rw [List.nodup_iff_pairwise_ne,List.pairwise_iff_getElem]
 intro i j hi hj hij e
 have:=z3n h hij hj
 rw [← gt_get hi,← gt_get hj] at this
 omega
theorem zt7 {α:Type} [DecidableEq α]:∀ {m l:List α},m.Nodup→(∀ x∈m,x∈l)→l.Nodup→(l.filter fun x=>!m.contains x).length+m.length=l.length
 | [],l,_,_,_=>by simp
 | a :: m,l,hm,hs,hl=>by
  rw [List.nodup_cons] at hm
  have hal:=hs a (by simp)
  have ih:=zt7 (m:=m) (l:=l.erase a) hm.2 (fun x hx=>(List.mem_erase_of_ne (fun e=>hm.1 (by rw [← e];exact hx))).2 (hs x (by simp [hx]))) (hl.erase a)
  rw [List.length_erase_of_mem hal] at ih
  have hlp:=List.length_pos_of_mem hal
  have e:(l.erase a).filter (fun x=>!m.contains x)=l.filter fun x=>!(a :: m).contains x:=by
   rw [hl.erase_eq_filter,List.filter_filter]
   refine List.filter_congr fun x _=>?_
   by_cases h:x=a
   ·subst h;simp
   ·simp [h]
  rw [e] at ih
  rw [List.length_cons]
  omega
theorem zxj {b:Bk} (v:BVal b):((runL b).length:Int)=b.n - b.scr.length:=by
 have hn:(((List.range b.n.toNat).map fun (i:Nat)=>(i:Int))).Nodup:=by
  rw [List.nodup_iff_pairwise_ne,List.pairwise_map]
  exact List.nodup_range.imp fun h e=>h (by omega)
 have:=zt7 (m:=b.scr) (zxi v.inc) (fun x hx=>by
  have:=v.scr x hx
  exact List.mem_map.2 ⟨x.toNat,List.mem_range.2 (by omega),by omega⟩) hn
 have h2:=v.n
 simp only [List.length_map,List.length_range] at this
 unfold runL runK outB
 omega
theorem zf0 {b:Bk} (v:BVal b):2≤(runL b).length:=by
 have h1:=zxj v
 have h2:=v.left
 omega
theorem zo7 {b:Bk} (v:BVal b):(runL b).length≤8:=by
 have h1:=zxj v
 have h2:=v.n
 omega
theorem zid (g:Int→Int):∀ (l:List Int) (a:Int),za7 g a l=a∨za7 g a l∈l
 | [],a=>.inl rfl
 | x :: l,a=>by
  rw [za7]
  rcases zid g l (if g a < g x then x else a) with h | h
  ·rw [h]
   split
   ·exact .inr (by simp)
   ·exact .inl rfl
  ·exact .inr (by simp [h])
theorem z5p {b:Bk} (v:BVal b):favP b∈runL b:=by
 have h2:=zf0 v
 unfold favP
 rcases h:runL b with _ | ⟨a,l⟩
 ·rw [h] at h2;simp at h2
 ·rcases zid (zbe b) (a :: l) ((a :: l).headD 0) with e | e
  ·rw [e];simp
  ·exact e
theorem zsb (g:Int→Int):∀ (l:List Int) (a:Int),(∀ x∈l,g x=g a)→za7 g a l=a
 | [],_,_=>rfl
 | x :: l,a,h=>by
  have h1:=h x (by simp)
  rw [za7,if_neg (by omega)]
  exact zsb g l a fun y hy=>h y (by simp [hy])
theorem zmh {b:Bk} (v:BVal b) (s:Int × Int) (k:Nat):0≤sumB (za8 b s) (b.bets.take k)∧sumB (za8 b s) (b.bets.take k)≤100000:=by
 have h:=zg7 (g:=za8 b s) (c:=1000) (by omega) (l:=b.bets.take k) fun x hx=>by
  have:=(v.bet (List.mem_of_mem_take hx)).1
  unfold za8;split<;>omega
 have h2:=v.many
 have h3:(b.bets.take k).length≤100:=by rw [List.length_take];omega
 omega
theorem z8a {b:Bk} (v:BVal b) (r:Int) (k:Nat):0≤sumB (onF b r) (b.bets.take k)∧sumB (onF b r) (b.bets.take k)≤100000:=by
 have h:=zg7 (g:=onF b r) (c:=1000) (by omega) (l:=b.bets.take k) fun x hx=>by
  have:=(v.bet (List.mem_of_mem_take hx)).1
  unfold onF;split<;>omega
 have h2:=v.many
 have h3:(b.bets.take k).length≤100:=by rw [List.length_take];omega
 omega
theorem z6w {b:Bk} (v:BVal b) (k:Nat):0≤sumB (fun x=>100 * x.u) (b.bets.take k)∧sumB (fun x=>100 * x.u) (b.bets.take k)≤10000000:=by
 have h:=zg7 (g:=fun x=>100 * x.u) (c:=100000) (by omega) (l:=b.bets.take k) fun x hx=>by
  have:=(v.bet (List.mem_of_mem_take hx)).1
  omega
 have h2:=v.many
 have h3:(b.bets.take k).length≤100:=by rw [List.length_take];omega
 omega
theorem zzr {b:Bk} (v:BVal b) (k:Nat):0≤sumB (zcp b) (b.bets.take k)∧sumB (zcp b) (b.bets.take k)≤sumB (fun x=>100 * x.u) (b.bets.take k):=by
 have key:∀ (l:List PB),(∀ x∈l,x∈b.bets)→0≤sumB (zcp b) l∧sumB (zcp b) l≤sumB (fun x=>100 * x.u) l:=by
  intro l
  induction l with
  | nil=>intro _;simp [sumB]
  | cons x l ih =>
   intro h
   have h1:=ih fun y hy=>h y (by simp [hy])
   have h2:=(v.bet (h x (by simp))).1
   simp only [sumB,zcp]
   split<;>omega
 exact key _ fun x hx=>List.mem_of_mem_take hx
theorem zhx {b:Bk} (v:BVal b):(0≤inP b∧inP b≤11000000)∧(0≤zbg b∧zbg b≤inP b - b.car)∧(0≤zeh b∧zeh b≤inP b - zbg b - b.car)∧(b.car≤netP b∧netP b≤inP b)∧0≤(inP b - zbg b - b.car) * b.duty∧(inP b - zbg b - b.car) * b.duty≤5500000000:=by
 have h1:=z6w v b.bets.length
 have h2:=zzr v b.bets.length
 rw [List.take_length] at h1 h2
 have hc:=v.car
 have hd:=v.duty
 have e1:inP b=b.car+sumB (fun x=>100 * x.u) b.bets:=rfl
 have e2:zbg b=sumB (zcp b) b.bets:=rfl
 have hA:0≤inP b - zbg b - b.car:=by omega
 have hM:(inP b - zbg b - b.car) * b.duty≤(inP b - zbg b - b.car) * 500:=Int.mul_le_mul_of_nonneg_left hd.2 hA
 have hM0:0≤(inP b - zbg b - b.car) * b.duty:=Int.mul_nonneg hA hd.1
 have e3:zeh b=(inP b - zbg b - b.car) * b.duty / 1000:=rfl
 have e4:netP b=inP b - zbg b - zeh b:=rfl
 have hA2:inP b - zbg b - b.car≤11000000:=by omega
 generalize (inP b - zbg b - b.car) * b.duty=m at *
 omega
end Go.Proofs.YtkbaiobnibmmgaaGreat
namespace Go.Proofs.YtkbaiobnibmmgaaGreat
open Go.RowKit Go.Shelf
abbrev Spt:=Int × Int
def skey (s:Spt):Value:=.agg #[.int .i64 s.1,.int .i64 s.2]
def ival (n:Int):Value:=.int .i64 n
set_option maxHeartbeats 2000000 in
theorem z06 (a b c d:Int) (w:World):(Op.equal 132 (.agg #[.int .i64 a,.int .i64 b]) (.agg #[.int .i64 c,.int .i64 d])).run Tryz.prog w = .ok (a == c && b == d) w:=by
 simp only [Op.equal,Op.maxDepth]
 rw [run_equalIn_struct w 9999 132 _ _ (by kernel_rfl) (by kernel_rfl)]
 have hf : (Tryz.prog.fieldsOf 132).toList = [⟨"first", 3, 0, false, "", "quinella/pool", 0⟩, ⟨"second", 3, 1, false, "", "quinella/pool", 8⟩] := by kernel_rfl
 rw [hf]
 by_cases e1:a=c<;>by_cases e2:b=d<;>simp [go_sem,e1,e2]
set_option maxHeartbeats 2000000 in
theorem z07 (b:Bool) (n:Nat) (x y:Int) (w:World):(Instr.checkKey b (n+3) 132 (.agg #[.int .i64 x,.int .i64 y])).run Tryz.prog w = .ok () w:=by
 have h3:∀ x w,(Instr.checkKey b (n+2) 3 (.int .i64 x)).run Tryz.prog w = .ok () w:=fun x w=>by
  rw [Instr.checkKey];simp [go_sem]
 rw [Instr.checkKey]
 simp only [Sem.run_bind,Tryz.runUnderlying132,Result.andThen_ok]
 simp [go_sem,h3]
theorem z3o (a b:Spt) (w:World):(Op.equal 132 (skey a) (skey b)).run Tryz.prog w = .ok (decide (a=b)) w:=by
 unfold skey
 rw [z06]
 obtain ⟨a1,a2⟩:=a
 obtain ⟨b1,b2⟩:=b
 by_cases e1:a1=b1<;>by_cases e2:a2=b2<;>simp [e1,e2]
theorem z5q (k:Spt) (l:Ents Spt Int) (w:World):(Instr.findKey 132 (skey k) (l.map (encE skey ival))).run Tryz.prog w = .ok (zbk ival k l 0) w:=by
 have h:∀ (l:Ents Spt Int) (i:Nat),(Instr.findAsking 132 (skey k) (l.map (encE skey ival)) i).run Tryz.prog w = .ok (zbk ival k l i) w:=by
  intro l
  induction l with
  | nil=>intro i;rfl
  | cons e l ih =>
   intro i
   simp only [List.map_cons,Instr.findAsking,zbk,encE,Sem.run_bind,z3o,Result.andThen_ok]
   by_cases hk:e.1=k
   ·subst hk;simp
   ·have:¬ k=e.1:=fun h=>hk h.symm
    simp only [hk,this,decide_false,Bool.false_eq_true,if_false]
    exact ih (i+1)
 cases l with
 | nil=>simp [Instr.findKey,go_sem,Instr.findNow,zbk]
 | cons e l =>
  have:=h (e :: l) 0
  simp only [Instr.findKey,Sem.run_bind,Tryz.runUnderlying132,Result.andThen_ok,List.map_cons,Instr.findNow,encE,skey,Instr.sameNow] at this ⊢
  exact this
theorem zbo:Keyed Tryz.prog 87 132 2 skey ival where
 und:=by kernel_rfl
 chk:=fun b k w=>z07 b 9997 _ _ w
 find:=z5q
 stay:=fun k=>by
  have:∀ n:Nat,Instr.sameBits (n+2) (skey k) (skey k)=true:=fun n=>by simp [Instr.sameBits,skey]
  exact this 9998
def za9 (b:Bk) (l:List PB):Spt→Option Int:=fun s=>if l.any (fun x=>decide (onP b x=some s))=true then some (sumB (za8 b s) l) else none
theorem z08 (b:Bk):za9 b []=fun _=>none:=funext fun s=>by simp [za9]
theorem zmi {b:Bk} {s:Spt}:∀ {l:List PB},l.any (fun x=>decide (onP b x=some s))=false→sumB (za8 b s) l=0
 | [],_=>rfl
 | x :: l,h=>by
  simp only [List.any_cons,Bool.or_eq_false_iff,decide_eq_false_iff_not] at h
  rw [sumB,zmi h.2,za8,if_neg h.1];rfl
theorem z09 {b:Bk} {l:List PB} {x:PB} (h:onP b x=none):za9 b (l ++ [x])=za9 b l:=funext fun s=>by
 unfold za9
 rw [List.any_append,zmg]
 simp [sumB,za8,h]
theorem z3p {b:Bk} {l:List PB} {x:PB} {s:Spt} (h:onP b x=some s):za9 b (l ++ [x])=fun s'=>if s'=s then some (sumB (za8 b s) l+x.u) else za9 b l s':=funext fun s'=>by
 unfold za9
 rw [List.any_append,zmg]
 by_cases e:s'=s
 ·subst e
  simp [sumB,za8,h]
 ·have:¬ s=s':=fun h=>e h.symm
  simp [sumB,za8,h,e,this]
section
variable {K V:Type} [DecidableEq K] {P:Program} {tm tk tv:TypeId} {ke:K→Value} {ve:V→Value}
theorem MapIs.look0 (hk:Keyed P tm tk tv ke ve) {W:World} {r:Nat} {F:K→Option V} (h:MapIs ke ve W r F) (k:K) (hg:F k=none) {z:Value} (hz:∀ w,(zeroValue tv).run P w = .ok z w) :
  (Instr.lookup tm (.map (some r)) (ke k) false).run P W = .ok z W:=by
 obtain ⟨es,c,h1,h2,h3,h4⟩:=h
 exact zqa hk h1 k ((h4 k).trans hg) hz
end
theorem zsc (w:World):(zeroValue 2).run Tryz.prog w = .ok (.int .i64 0) w:=by kernel_rfl
theorem zsd {b:Bk} {l:List PB} {W:World} {r:Nat} (h:MapIs skey ival W r (za9 b l)) (s:Spt) :
  (Instr.lookup 87 (.map (some r)) (skey s) false).run Tryz.prog W = .ok (.int .i64 (sumB (za8 b s) l)) W:=by
 cases ha:l.any fun x=>decide (onP b x=some s)
 ·rw [zmi ha]
  exact h.look0 zbo s (by unfold za9;rw [ha];rfl) zsc
 ·exact h.look zbo s (by unfold za9;rw [ha];rfl)
end Go.Proofs.YtkbaiobnibmmgaaGreat
namespace Go.Proofs.YtkbaiobnibmmgaaGreat
open Go.RowKit Go.Shelf
def tRow (b:Bk) (ba:Option Addr) (bcap:Nat) (sa:Option Addr) (scap:Nat) (fv:Int) (m:Nat) (i k d o:Int):Array Value :=
 #[.int .i64 b.kd, .int .i64 b.n, .slice ba b.bets.length bcap, .slice sa b.scr.length scap, .bool b.fav, .int .i64 b.car, .int .i64 b.duty, .int .i64 b.step, .int .i64 fv, .map (some m), .int .i64 i, .int .i64 k, .int .i64 d, .int .i64 0, .int .i64 0, .int .i64 o]
def Till (W:World) (p:Nat) (b:Bk) (ba:Option Addr) (bcap:Nat) (sa:Option Addr) (scap:Nat) (fv:Int) (m:Nat) (i k d o:Int):Prop :=
 W.heap[p]? = some (.cells (tRow b ba bcap sa scap fv m i k d o) 89 (0,0))
section
variable {W:World} {p:Nat} {b:Bk} {ba sa:Option Addr} {bcap scap:Nat} {fv:Int} {m:Nat} {i k d o:Int} (h:Till W p b ba bcap sa scap fv m i k d o)
include h
theorem Till.c0:W.cell? ⟨p,0,none⟩=some (.int .i64 b.kd):=by rw [cell_of_row _ _ _ _ _ _ h];rfl
theorem Till.c1:W.cell? ⟨p,1,none⟩=some (.int .i64 b.n):=by rw [cell_of_row _ _ _ _ _ _ h];rfl
theorem Till.c2:W.cell? ⟨p,2,none⟩=some (.slice ba b.bets.length bcap):=by rw [cell_of_row _ _ _ _ _ _ h];rfl
theorem Till.c3:W.cell? ⟨p,3,none⟩=some (.slice sa b.scr.length scap):=by rw [cell_of_row _ _ _ _ _ _ h];rfl
theorem Till.c4:W.cell? ⟨p,4,none⟩=some (.bool b.fav):=by rw [cell_of_row _ _ _ _ _ _ h];rfl
theorem Till.c5:W.cell? ⟨p,5,none⟩=some (.int .i64 b.car):=by rw [cell_of_row _ _ _ _ _ _ h];rfl
theorem Till.c6:W.cell? ⟨p,6,none⟩=some (.int .i64 b.duty):=by rw [cell_of_row _ _ _ _ _ _ h];rfl
theorem Till.c7:W.cell? ⟨p,7,none⟩=some (.int .i64 b.step):=by rw [cell_of_row _ _ _ _ _ _ h];rfl
theorem Till.c8:W.cell? ⟨p,8,none⟩=some (.int .i64 fv):=by rw [cell_of_row _ _ _ _ _ _ h];rfl
theorem Till.c9:W.cell? ⟨p,9,none⟩=some (.map (some m)):=by rw [cell_of_row _ _ _ _ _ _ h];rfl
theorem Till.c10:W.cell? ⟨p,10,none⟩=some (.int .i64 i):=by rw [cell_of_row _ _ _ _ _ _ h];rfl
theorem Till.c11:W.cell? ⟨p,11,none⟩=some (.int .i64 k):=by rw [cell_of_row _ _ _ _ _ _ h];rfl
theorem Till.c12:W.cell? ⟨p,12,none⟩=some (.int .i64 d):=by rw [cell_of_row _ _ _ _ _ _ h];rfl
theorem Till.c13:W.cell? ⟨p,13,none⟩=some (.int .i64 0):=by rw [cell_of_row _ _ _ _ _ _ h];rfl
theorem Till.c14:W.cell? ⟨p,14,none⟩=some (.int .i64 0):=by rw [cell_of_row _ _ _ _ _ _ h];rfl
theorem Till.c15:W.cell? ⟨p,15,none⟩=some (.int .i64 o):=by rw [cell_of_row _ _ _ _ _ _ h];rfl
theorem Till.fr (o:Nat):W.frozen? ⟨p,o,none⟩=false:=by
 have h':W.heap[p]? = _:=h
 simp [World.frozen?,h']
theorem Till.lt:p < W.heap.size:=World.block_lt_of_cell? _ _ h.c0
theorem Till.of_heap {W':World} (e:W'.heap[p]? = W.heap[p]?):Till W' p b ba bcap sa scap fv m i k d o:=e.trans h
theorem Till.ext {W':World} (e:Ext W W'):Till W' p b ba bcap sa scap fv m i k d o:=(e.block _ h.lt).trans h
theorem Till.book:BookAt W p b ba bcap sa scap:=⟨h.c0,h.c1,h.c2,h.c3,h.c4,h.c5,h.c6,h.c7⟩
theorem Till.setF (x:Int):Till (W.setCell ⟨p,8,none⟩ (.int .i64 x)) p b ba bcap sa scap x m i k d o:=zj h 8 (.int .i64 x)
theorem Till.setI (x:Int):Till (W.setCell ⟨p,10,none⟩ (.int .i64 x)) p b ba bcap sa scap fv m x k d o:=zj h 10 (.int .i64 x)
theorem Till.setK (x:Int):Till (W.setCell ⟨p,11,none⟩ (.int .i64 x)) p b ba bcap sa scap fv m i x d o:=zj h 11 (.int .i64 x)
theorem Till.setD (x:Int):Till (W.setCell ⟨p,12,none⟩ (.int .i64 x)) p b ba bcap sa scap fv m i k x o:=zj h 12 (.int .i64 x)
theorem Till.setO (x:Int):Till (W.setCell ⟨p,15,none⟩ (.int .i64 x)) p b ba bcap sa scap fv m i k d x:=zj h 15 (.int .i64 x)
end
set_option maxRecDepth 100000 in
set_option maxHeartbeats 1000000 in
theorem zlb (b:Bk) (sa:Option Addr) (scap:Nat) (r:Int) (p:Nat) (w:World) (h3:w.cell? ⟨p,3,none⟩=some (.slice sa b.scr.length scap)) (hs:IsInts w .i64 (.slice sa b.scr.length scap) b.scr) :
  Calls Tryz.prog 133 #[.pointer (some ⟨p,0,none⟩),.int .i64 r] w fun e w'=>e = .returned (.bool (outB b r))∧Ext w w':=by
 have hz:=World.block_lt_of_cell? _ _ h3
 simp only at hz
 go_enter Tryz.func133,Tryz.ntmps133
 go_wp2_with fail
 refine (zhr b.scr r _ _ hs).mono ?_
 rintro e W' ⟨he,hb⟩
 rw [show b.scr.contains r=outB b r from rfl] at he
 subst he
 have HB:=Lib.hid hb
 clear hb h3 hs
 go_wp2_with fail
 go_ret
 exact ⟨rfl,HB.out⟩
set_option maxRecDepth 100000 in
set_option maxHeartbeats 1000000 in
theorem zpt (b:Bk) (sa:Option Addr) (scap:Nat) (p:Nat) (w:World) (hn:2≤b.n∧b.n≤8) (h1:w.cell? ⟨p,1,none⟩=some (.int .i64 b.n)) (h3:w.cell? ⟨p,3,none⟩=some (.slice sa b.scr.length scap)) (hs:IsInts w .i64 (.slice sa b.scr.length scap) b.scr) :
  Calls Tryz.prog 69 #[.pointer (some ⟨p,0,none⟩)] w fun e w'=>∃ v,e = .returned v∧Ext w w'∧Owns w' w.heap.size 3 1 v ((runL b).map iRow):=by
 have hz:=World.block_lt_of_cell? _ _ h3
 simp only at hz
 have H3:=Lib.hid h3
 have HS:=Lib.hid hs
 clear h3 hs
 go_enter Tryz.func69,Tryz.ntmps69
 go_wp2_with fail
 clear h1
 go_loopw [3,4,10] (fun ov _ iv W=>∃ k:Nat,(k:Int)≤b.n∧iv = .int .i64 k∧Owns W w.heap.size 3 1 ov ((runK b k).map iRow)∧Ext w W) (fun _ _ iv _=>b.n.toNat - (intOf iv).toNat)
 case atStart=>exact ⟨0,by omega,rfl,Owns.nil _ _ _ _,Below.refl _ _⟩
 case round =>
  obtain ⟨k,hk,rfl,hown,hE⟩:=hrel
  have hrl:=z5o b k
  by_cases hlt:(k:Int) < b.n
  ·obtain ⟨oa,oc,rfl,ho1,ho2,hf⟩:=hown.form
   rw [List.length_map] at ho1 ⊢
   obtain ⟨on,hon⟩:∃ on,on=(runK b k).length:=⟨_,rfl⟩
   rw [← hon] at ho1 hrl ⊢
   have hold:(oa=none∧(runK b k).map iRow=[]∧on=0)∨∃ g off,oa=some ⟨g,off,none⟩∧RowsAt wr 1 g off ((runK b k).map iRow):=by
    rcases hf with ⟨e1,e2,e3⟩ | ⟨g,e1,_,_,e2,_⟩
    ·exact .inl ⟨e2,e1,by rw [hon];simpa using e1⟩
    ·exact .inr ⟨g,0,e1,e2⟩
   have HOLD:=Lib.hid hold
   have HON:=Lib.hid hon
   have HOW:=Lib.hid hown
   have HE:=Lib.hid hE
   have h3:=zb hE H3.out
   have hzr:=hE.size
   clear hown hE hon hf hold
   go_wp2_with fail
   refine (zlb b sa scap k p _ h3 (HS.out.ext HE.out)).mono ?_
   rintro e W1 ⟨rfl,hE1⟩
   have HE1:=Lib.hid hE1
   have hz1:=hE1.size
   have HO:=Lib.hid hE1
   clear h3 hE1
   have hrs:=zic b k
   cases hout:outB b k
   ·rw [hout,if_neg (by simp)] at hrs
    have HRS:=Lib.hid hrs
    clear hrs hout
    go_wp2_with (at_builtin;refine z84 rfl (.tmp 22) (.tmp 24) zre rfl oa on (rows:=(runK b k).map iRow) (by rw [List.length_map,← HON.out];rfl) (by simp [iRow]) (HOLD.out.imp id fun ⟨b',off,e1,e2⟩=>⟨b',off,e1,e2.ext (Ext.trans' HE1.out (by exact xx))⟩) W1.heap.size 0 1 [iRow (k:Int)] rfl (by simp [iRow]) (newRow _ (iRow (k:Int)) _) (by simp [iRow,Value.oneCell']) (by simp [← HON.out]) (by simp [← HON.out];omega) ?_)
    intro v2 W2 hown2 hb2
    obtain ⟨va,vn,vc,rfl⟩:=hown2.isSlice
    have hE2:Ext W1 W2:=((Below.refl _ W1).alloc (Nat.le_refl _) _).trans (hb2.mono (by omega))
    have HO2:=Lib.hid (hown2.base (B':=w.heap.size) (by omega))
    have HE2:=Lib.hid hE2
    clear hown2 hb2 hE2
    go_wp2_with fail
    go_roundw
    case rel =>
     refine ⟨k+1,by omega,by go_num,?_,(HE.out.trans' HE1.out).trans' HE2.out⟩
     rw [HRS.out,List.map_append]
     exact HO2.out
    case measure=>simp [intOf];omega
   ·rw [hout,if_pos rfl,List.append_nil] at hrs
    have HRS:=Lib.hid hrs
    clear hrs hout
    go_wp2_with fail
    go_roundw
    case rel =>
     refine ⟨k+1,by omega,by go_num,?_,HE.out.trans' HE1.out⟩
     rw [HRS.out]
     have:=HOW.out.ext HE1.out
     rwa [List.length_map,← HON.out] at this
    case measure=>simp [intOf];omega
  ·have HE:=Lib.hid hE
   have HOW:=Lib.hid hown
   have HK:=Lib.hid (show b.n.toNat=k by omega)
   obtain ⟨oa,on,oc,rfl⟩:=hown.isSlice
   clear hown hE
   go_wp2_with fail
   go_ret
   exact ⟨_,rfl,HE.out,by unfold runL;rw [HK.out];exact HOW.out⟩
def onV (b:Bk) (fv:Int) (x:PB):Option Spt :=
 if outB b x.f=false∧outB b x.s=false then some (x.f,x.s) else if single b=true∧b.fav=true then some (fv,-1) else none
theorem z9i (b:Bk) (x:PB):onP b x=onV b (favP b) x:=rfl
set_option maxRecDepth 100000 in
set_option maxHeartbeats 1000000 in
theorem z9j (b:Bk) (ba sa:Option Addr) (bcap scap:Nat) (fv:Int) (x:PB) (p:Nat) (w:World) (hb:BookAt w p b ba bcap sa scap) (h8:w.cell? ⟨p,8,none⟩=some (.int .i64 fv)) (hs:IsInts w .i64 (.slice sa b.scr.length scap) b.scr) :
  Calls Tryz.prog 141 #[.pointer (some ⟨p,0,none⟩),.agg #[.int .i64 x.f,.int .i64 x.s,.int .i64 x.u]] w fun e w'=>e = .returned (.tuple #[.agg #[.int .i64 ((onV b fv x).getD (0,0)).1,.int .i64 ((onV b fv x).getD (0,0)).2],.bool (onV b fv x).isSome])∧Ext w w':=by
 have H8:=Lib.hid h8
 have HB:=Lib.hid hb
 have HS:=Lib.hid hs
 clear hb h8 hs
 go_enter Tryz.func141,Tryz.ntmps141
 go_upto_region 1 with (fail)
 obtain ⟨W0,hW0⟩:∃ W0,W0=(w.alloc (.cells #[.int .i64 x.f,.int .i64 x.s,.int .i64 x.u] 36)).alloc (.cells #[.int .i64 0,.int .i64 0] 132):=⟨_,rfl⟩
 have hE:Ext w W0:=by rw [hW0];exact xx
 have c0:W0.cell? ⟨w.heap.size,0,none⟩=some (.int .i64 x.f):=by rw [hW0];simp [go_sem]
 have c1:W0.cell? ⟨w.heap.size,1,none⟩=some (.int .i64 x.s):=by rw [hW0];simp [go_sem]
 have c2:W0.cell? ⟨w.heap.size,2,none⟩=some (.int .i64 x.u):=by rw [hW0];simp [go_sem]
 have d0:W0.cell? ⟨w.heap.size+1,0,none⟩=some (.int .i64 0):=by rw [hW0];simp [go_sem]
 have d1:W0.cell? ⟨w.heap.size+1,1,none⟩=some (.int .i64 0):=by rw [hW0];simp [go_sem]
 have hrow:W0.heap[w.heap.size+1]? = some (.cells #[.int .i64 0,.int .i64 0] 132 (0,0)):=by
  have:=World.alloc_heap_new (w.alloc (.cells #[.int .i64 x.f,.int .i64 x.s,.int .i64 x.u] 36)) (.cells #[.int .i64 0,.int .i64 0] 132)
  simp only [World.size_alloc] at this
  rw [hW0];exact this
 have df0:W0.frozen? ⟨w.heap.size+1,0,none⟩=false:=by simp [World.frozen?,hrow]
 have df1:W0.frozen? ⟨w.heap.size+1,1,none⟩=false:=by simp [World.frozen?,hrow]
 have hz1:w.heap.size+1 < W0.heap.size:=World.block_lt_of_cell? _ _ d0
 have hzc:w.heap.size < W0.heap.size:=by omega
 replace HS:=Lib.hid (HS.out.ext hE)
 have hbk:=HB.out.ext hE
 have k0:=(hbk).c0
 have k1:=(hbk).c1
 have k2:=(hbk).c2
 have k3:=(hbk).c3
 have k4:=(hbk).c4
 have k5:=(hbk).c5
 have k6:=(hbk).c6
 have k7:=(hbk).c7
 have hz:=(hbk).lt
 have k8:=zb hE H8.out
 have HW:=Lib.hid hE
 rw [← hW0]
 clear hW0 hE hbk HB H8 hrow
 go_wp2_with fail
 refine zat (W0:=W0) (g:=⟨W0,Below.refl _ _⟩) xx (zlb b sa scap x.f p _ (zb xx k3) (HS.out.ext xx)) fun g1 hgr=>?_
 clear hgr
 cases h1:outB b x.f
 ·skip
  go_wp2_with fail
  refine zat (W0:=W0) (g:=g1) xx (zlb b sa scap x.s p _ (zb xx k3) (HS.out.ext xx)) fun g2 hgr=>?_
  clear hgr
  cases h2:outB b x.s
  ·have E:=Lib.hid (show onV b fv x=some (x.f,x.s) by unfold onV;rw [if_pos ⟨h1,h2⟩])
   clear h1 h2
   go_wp2_with fail
   refine bodyPost_ret (v:=.tuple #[.agg #[.int .i64 x.f,.int .i64 x.s],.bool true]) (by simp [results,Tryz.results141,go_sem,d0,d1,hz1]) rfl ?_
   exact ⟨by rw [E.out];rfl,((HW.out.trans' (zi W0 _)).setCell (by simp only;omega) _).setCell (by simp only;omega) _⟩
  ·have E0:=Lib.hid (show ¬ (outB b x.f=false∧outB b x.s=false) by rw [h2];simp)
   clear h1 h2
   go_wp2_with fail
   refine zat (W0:=W0) (g:=g2) xx (zeg b ba sa bcap scap _) fun g3 hgr=>?_
   clear hgr
   cases h3:single b
   ·have E:=Lib.hid (show onV b fv x=none by unfold onV;rw [if_neg E0.out,if_neg (by rw [h3];simp)])
    clear h3
    go_wp2_with fail
    refine bodyPost_ret (v:=.tuple #[.agg #[.int .i64 0,.int .i64 0],.bool false]) (by simp [results,Tryz.results141,go_sem,d0,d1,hz1]) rfl ?_
    exact ⟨by rw [E.out];rfl,((HW.out.trans' (zi W0 _)).setCell (by simp only;omega) _).setCell (by simp only;omega) _⟩
   cases h4:b.fav
   ·have E:=Lib.hid (show onV b fv x=none by unfold onV;rw [if_neg E0.out,if_neg (by rw [h4];simp)])
    rw [h4] at k4
    clear h3 h4
    go_wp2_with fail
    refine bodyPost_ret (v:=.tuple #[.agg #[.int .i64 0,.int .i64 0],.bool false]) (by simp [results,Tryz.results141,go_sem,d0,d1,hz1]) rfl ?_
    exact ⟨by rw [E.out];rfl,((HW.out.trans' (zi W0 _)).setCell (by simp only;omega) _).setCell (by simp only;omega) _⟩
   have E:=Lib.hid (show onV b fv x=some (fv,-1) by unfold onV;rw [if_neg E0.out,if_pos ⟨h3,h4⟩])
   rw [h4] at k4
   clear h3 h4
   go_wp2_with fail
   refine bodyPost_ret (v:=.tuple #[.agg #[.int .i64 fv,.int .i64 (-1)],.bool true]) (by simp [results,Tryz.results141,go_sem,d0,d1,hz1]) rfl ?_
   exact ⟨by rw [E.out];rfl,((HW.out.trans' (zi W0 _)).setCell (by simp only;omega) _).setCell (by simp only;omega) _⟩
 ·have E0:=Lib.hid (show ¬ (outB b x.f=false∧outB b x.s=false) by rw [h1];simp)
  clear h1
  go_wp2_with fail
  refine zat (W0:=W0) (g:=g1) xx (zeg b ba sa bcap scap _) fun g4 hgr=>?_
  clear hgr
  cases h3:single b
  ·have E:=Lib.hid (show onV b fv x=none by unfold onV;rw [if_neg E0.out,if_neg (by rw [h3];simp)])
   clear h3
   go_wp2_with fail
   refine bodyPost_ret (v:=.tuple #[.agg #[.int .i64 0,.int .i64 0],.bool false]) (by simp [results,Tryz.results141,go_sem,d0,d1,hz1]) rfl ?_
   exact ⟨by rw [E.out];rfl,((HW.out.trans' (zi W0 _)).setCell (by simp only;omega) _).setCell (by simp only;omega) _⟩
  cases h4:b.fav
  ·have E:=Lib.hid (show onV b fv x=none by unfold onV;rw [if_neg E0.out,if_neg (by rw [h4];simp)])
   rw [h4] at k4
   clear h3 h4
   go_wp2_with fail
   refine bodyPost_ret (v:=.tuple #[.agg #[.int .i64 0,.int .i64 0],.bool false]) (by simp [results,Tryz.results141,go_sem,d0,d1,hz1]) rfl ?_
   exact ⟨by rw [E.out];rfl,((HW.out.trans' (zi W0 _)).setCell (by simp only;omega) _).setCell (by simp only;omega) _⟩
  have E:=Lib.hid (show onV b fv x=some (fv,-1) by unfold onV;rw [if_neg E0.out,if_pos ⟨h3,h4⟩])
  rw [h4] at k4
  clear h3 h4
  go_wp2_with fail
  refine bodyPost_ret (v:=.tuple #[.agg #[.int .i64 fv,.int .i64 (-1)],.bool true]) (by simp [results,Tryz.results141,go_sem,d0,d1,hz1]) rfl ?_
  exact ⟨by rw [E.out];rfl,((HW.out.trans' (zi W0 _)).setCell (by simp only;omega) _).setCell (by simp only;omega) _⟩
end Go.Proofs.YtkbaiobnibmmgaaGreat
namespace Go.Proofs.YtkbaiobnibmmgaaGreat
open Go.RowKit Go.Shelf Go.WideElems
section
variable {K V:Type} [DecidableEq K] {P:Program} {tm tk tv:TypeId} {ke:K→Value} {ve:V→Value}
theorem MapIs.entry' (hk:Keyed P tm tk tv ke ve) {W:World} {r:Nat} {F:K→Option V} (h:MapIs ke ve W r F) (k:K) {z:Value} (hz:∀ w,(zeroValue tv).run P w = .ok z w) (vz:V) (hvz:ve vz=z) :
  ∃ (st:Nat) (es1:Array MapEntry) (c1:Nat),(Instr.mapEntry tm (.map (some r)) (ke k)).run P W = .ok (.tuple #[ve ((F k).getD vz),goInt st]) (W.putObj r (.map es1 c1))∧MapIs ke ve (W.putObj r (.map es1 c1)) r (fun k'=>if k'=k then some ((F k).getD vz) else F k') ∧
   ∀ (W2:World) (v:V),W2.heap[r]? = some (.map es1 c1)→∃ W3,(Instr.entryStore tm (.map (some r)) (goInt st) (ve v)).run P W2 = .ok () W3∧W2.grownBy W3 (some r)∧W3.heap.size=W2.heap.size∧MapIs ke ve W3 r (fun k'=>if k'=k then some v else F k'):=by
 obtain ⟨es,c,hm,ho,hb,hF⟩:=h
 have hf:=hk.find k es W
 rw [zel] at hf
 have hm':=hm
 unfold IsMap at hm'
 have hg:getE es k=F k:=hF k
 unfold getE at hg
 rw [znw] at hg
 have fin:∀ (W2:World) (v:V),r < W2.heap.size→∃ W3,W3=W2.putObj r (.map ((updE k v c es).map (encE ke ve)).toArray (zd1 k c es))∧W2.grownBy W3 (some r)∧W3.heap.size=W2.heap.size∧MapIs ke ve W3 r (fun k'=>if k'=k then some v else F k'):=fun W2 v hl =>
  ⟨_,rfl,⟨rfl,rfl,rfl,by simp,fun j hj hne=>World.putObj_heap_other (fun e=>hne (by rw [e]))⟩,by simp,_,_,World.putObj_heap_same hl,ho.upd k v c,hb.upd k v,fun k'=>by rw [zp9,hF]⟩
 cases hi:es.findIdx? fun e=>decide (e.1=k) with
 | none =>
  rw [hi] at hf hg
  simp only [Option.bind_none,Option.map_none] at hf hg
  refine ⟨c,(es.map (encE ke ve)).toArray.push ⟨ke k,z,c⟩,c+1,?_,?_,fun W2 v h2=>?_⟩
  ·rw [← hg]
   simp [Instr.mapEntry,run_underlying hk.und,getObj,setObj,Sem.run,hm',hk.chk,hf,hz,World.putObj,hvz]
  ·have hl:r < W.heap.size:=(Array.getElem?_eq_some_iff.1 hm').1
   have hU:updE k vz c es=es ++ [(k,vz,c)]:=by unfold updE;rw [hi]
   have hC:zd1 k c es=c+1:=by unfold zd1;rw [hi];rfl
   refine ⟨es ++ [(k,vz,c)],c+1,?_,hU ▸ ho.upd k vz c,by rw [← hU,← hC];exact hb.upd k vz,fun k'=>?_⟩
   ·unfold IsMap
    rw [World.putObj_heap_same hl]
    simp [encE,hvz]
   ·rw [← hU,zp9,hF,← hg];rfl
  ·obtain ⟨W3,e3,g1,g2,g3⟩:=fin W2 v (Array.getElem?_eq_some_iff.1 h2).1
   refine ⟨W3,?_,g1,g2,g3⟩
   have hidx:((es.map (encE ke ve)).toArray.push ⟨ke k,z,c⟩).findIdx? (fun e=>((e.born:Nat):Int) == ((c:Nat):Int))=some es.length:=by
    rw [findIdx_arr]
    have:=findIdx_born (l:=((es.map (encE ke ve)).toArray.push ⟨ke k,z,c⟩).toList) (j:=es.length) (e0:=⟨ke k,z,c⟩) (by
     simp only [Array.toList_push,List.map_append,List.map_cons,List.map_nil,List.map_map]
     refine List.nodup_append.2 ⟨hb.1,by simp,fun a ha d hd e1=>?_⟩
     simp only [List.mem_singleton] at hd
     obtain ⟨x,hx,rfl⟩:=List.mem_map.1 ha
     have:=hb.2 x hx
     simp [encE] at e1
     omega) (by simp)
    exact this
   have hmod:((es.map (encE ke ve)).toArray.push ⟨ke k,z,c⟩).modify es.length (fun e=>{ e with val:=ve v })=((updE k v c es).map (encE ke ve)).toArray:=by
    unfold updE
    rw [hi]
    apply Array.ext'
    rw [Array.toList_modify,Array.toList_push]
    have hl:es.length=(es.map (encE ke ve)).length:=by simp
    rw [hl,modify_last]
    simp [encE]
   have hck:zd1 k c es=c+1:=by unfold zd1;rw [hi];rfl
   rw [e3,hck,← hmod]
   simp [Instr.entryStore,getObj,setObj,Sem.run,h2,asInt,asIntOf,goInt,World.putObj] at hidx ⊢
   simp [hidx]
 | some i =>
  rw [hi] at hf hg
  have hi':=hi
  rw [List.findIdx?_eq_some_iff_getElem] at hi'
  obtain ⟨hl,h1,_⟩:=hi'
  have h1':es[i].1=k:=by simpa using h1
  simp only [Option.bind_some,List.getElem?_eq_getElem hl,Option.map_some] at hf hg
  have hky:(((es.map (encE ke ve)).toArray[i]?).map (·.key)).getD (ke k)=ke k:=by
   simp [hl,encE,h1']
  have hky':(Option.map ((fun x=>x.key) ∘ encE ke ve) es[i]?).getD (ke k)=ke k:=by simpa using hky
  have hst:(Instr.keyThatStays (ke k) (ke k)).run P W = .ok (ke k) W:=by simp [Instr.keyThatStays,hk.stay]
  have hsame:((es.map (encE ke ve)).modify i fun e=>{ e with key:=ke k })=es.map (encE ke ve):=by
   apply List.ext_getElem (by simp)
   intro j hj1 hj2
   simp only [List.getElem_modify,List.getElem_map]
   split
   ·rename_i e;subst e;simp [encE,h1']
   ·rfl
  refine ⟨es[i].2.2,(es.map (encE ke ve)).toArray,c,?_,?_,fun W2 v h2=>?_⟩
  ·rw [← hg]
   simp [Instr.mapEntry,run_underlying hk.und,getObj,setObj,Sem.run,hm',hk.chk,hf,World.putObj]
   rw [hky',hst]
   simp [hm',hsame,hl,encE]
  ·have hlr:r < W.heap.size:=(Array.getElem?_eq_some_iff.1 hm').1
   refine ⟨es,c,World.putObj_heap_same hlr,ho,hb,fun k'=>?_⟩
   rw [hF]
   show F k'=if k'=k then some ((F k).getD vz) else F k'
   by_cases e:k'=k
   ·rw [if_pos e,e,← hg];rfl
   ·rw [if_neg e]
  ·obtain ⟨W3,e3,g1,g2,g3⟩:=fin W2 v (Array.getElem?_eq_some_iff.1 h2).1
   refine ⟨W3,?_,g1,g2,g3⟩
   have hidx:(es.map (encE ke ve)).toArray.findIdx? (fun e=>((e.born:Nat):Int) == ((es[i].2.2:Nat):Int))=some i:=by
    rw [findIdx_arr]
    exact findIdx_born (l:=(es.map (encE ke ve)).toArray.toList) (j:=i) (e0:=encE ke ve es[i]) (by simpa [encE,Function.comp_def] using hb.1) (by simp [hl])
   have hmod:((es.map (encE ke ve)).toArray).modify i (fun e=>{ e with val:=ve v })=((updE k v c es).map (encE ke ve)).toArray:=by
    unfold updE
    rw [hi]
    apply Array.ext'
    rw [Array.toList_modify]
    apply List.ext_getElem (by simp)
    intro j hj1 hj2
    simp only [List.getElem_modify,List.getElem_map]
    split
    ·rename_i e;subst e;simp [encE,h1']
    ·rfl
   have hck:zd1 k c es=c:=by unfold zd1;rw [hi];rfl
   rw [e3,hck,← hmod]
   simp [Instr.entryStore,getObj,setObj,Sem.run,h2,asInt,asIntOf,goInt,World.putObj] at hidx ⊢
   simp [hidx,h2,Sem.run]
end
end Go.Proofs.YtkbaiobnibmmgaaGreat
namespace Go.Proofs.YtkbaiobnibmmgaaGreat
open Go.RowKit Go.Shelf
def SumB (W:World) (q:Nat) (f:Nat→Int):Prop:=∃ cur:Array Value,W.heap[q]? = some (.cells cur 208 (0,0))∧cur.size=8∧∀ j,j < 8→cur[j]? = some (.int .i64 (f j))
theorem SumB.cell {W:World} {q:Nat} {f:Nat→Int} (h:SumB W q f) (j:Nat) (hj:j < 8):W.cell? ⟨q,j,none⟩=some (.int .i64 (f j)):=by
 obtain ⟨cur,h1,_,h2⟩:=h
 rw [cell_of_row _ _ _ _ _ _ h1];exact h2 j hj
theorem SumB.free {W:World} {q:Nat} {f:Nat→Int} (h:SumB W q f) (o:Nat):W.frozen? ⟨q,o,none⟩=false:=by
 obtain ⟨cur,h1,_,h2⟩:=h
 simp [World.frozen?,h1]
theorem SumB.lt {W:World} {q:Nat} {f:Nat→Int} (h:SumB W q f):q < W.heap.size:=by
 obtain ⟨cur,h1,_,h2⟩:=h
 exact (Array.getElem?_eq_some_iff.1 h1).1
theorem SumB.set {W:World} {q:Nat} {f:Nat→Int} (h:SumB W q f) (i:Nat) (x:Int):SumB (W.setCell ⟨q,i,none⟩ (.int .i64 x)) q (fun j=>if j=i then x else f j):=by
 obtain ⟨cur,h1,hn,h2⟩:=h
 refine ⟨_,zj h1 i _,by simpa using hn,fun j hj=>?_⟩
 by_cases e:j=i
 ·subst e
  rw [zrd _ (by omega)];simp
 ·rw [zzg _ (fun h=>e h.symm),h2 j hj];simp [e]
theorem SumB.of_heap {W W':World} {q:Nat} {f:Nat→Int} (h:SumB W q f) (e:W'.heap[q]? = W.heap[q]?):SumB W' q f:=by
 obtain ⟨cur,h1,h2⟩:=h
 exact ⟨cur,e.trans h1,h2⟩
theorem SumB.congr {W:World} {q:Nat} {f f':Nat→Int} (h:SumB W q f) (e:∀ j,j < 8→f j=f' j):SumB W q f':=by
 obtain ⟨cur,h1,h2,h3⟩:=h
 exact ⟨cur,h1,h2,fun j hj=>by rw [h3 j hj,e j hj]⟩
set_option maxHeartbeats 400000 in
theorem z3q (r:Nat) (q:Nat) (f:Nat→Int) (w:World) (hr:r < 8) (h:SumB w q f) :
  Calls Tryz.prog 140 #[.int .i64 r,.pointer (some ⟨q,0,none⟩)] w fun e w'=>e = .returned (.int .i64 (f r))∧Ext w w':=by
 have c:=h.cell r hr
 have hri:(r:Int) < 8:=by omega
 have hz:=h.lt
 clear h
 go_enter Tryz.func140,Tryz.ntmps140
 go_wp2_with fail
 go_ret
 exact ⟨rfl,Below.refl _ _⟩
set_option maxHeartbeats 4000000 in
theorem z9k (n:Nat) (a0 a1 a2 a3 a4 a5 a6 a7:Int) (w:World):(Op.equalIn (n+2) 208 (.agg #[.int .i64 a0,.int .i64 a1,.int .i64 a2,.int .i64 a3,.int .i64 a4,.int .i64 a5,.int .i64 a6,.int .i64 a7]) (.agg #[.int .i64 0,.int .i64 0,.int .i64 0,.int .i64 0,.int .i64 0,.int .i64 0,.int .i64 0,.int .i64 0])).run Tryz.prog w = .ok (a0 == 0 && (a1 == 0 && (a2 == 0 && (a3 == 0 && (a4 == 0 && (a5 == 0 && (a6 == 0 && (a7 == 0)))))))) w:=by
 have hi:∀ x y:Int,∀ w,(Op.equalIn (n+1) 2 (.int .i64 x) (.int .i64 y)).run Tryz.prog w = .ok (x == y) w:=fun x y w=>run_equalIn_int w n 2 .i64 .i64 x y (by kernel_rfl)
 rw [Op.equalIn]
 simp only [Sem.run_bind,Tryz.runUnderlying208,Result.andThen_ok]
 have hr:List.range' 0 8=[0,1,2,3,4,5,6,7]:=rfl
 by_cases e0:a0=0
 ·by_cases e1:a1=0
  ·by_cases e2:a2=0
   ·by_cases e3:a3=0
    ·by_cases e4:a4=0
     ·by_cases e5:a5=0
      ·by_cases e6:a6=0
       ·by_cases e7:a7=0
        ·simp [go_sem,hi,hr,e0,e1,e2,e3,e4,e5,e6,e7]
        ·simp [go_sem,hi,hr,e0,e1,e2,e3,e4,e5,e6,e7]
       ·simp [go_sem,hi,hr,e0,e1,e2,e3,e4,e5,e6]
      ·simp [go_sem,hi,hr,e0,e1,e2,e3,e4,e5]
     ·simp [go_sem,hi,hr,e0,e1,e2,e3,e4]
    ·simp [go_sem,hi,hr,e0,e1,e2,e3]
   ·simp [go_sem,hi,hr,e0,e1,e2]
  ·simp [go_sem,hi,hr,e0,e1]
 ·simp [go_sem,hi,hr,e0]
theorem neq8 (f:Nat→Int) (r:Bool) (hr:r=(f 0 == 0 && (f 1 == 0 && (f 2 == 0 && (f 3 == 0 && (f 4 == 0 && (f 5 == 0 && (f 6 == 0 && (f 7 == 0))))))))) (W:World):(binOp .neq 208 (.agg #[.int .i64 (f 0),.int .i64 (f 1),.int .i64 (f 2),.int .i64 (f 3),.int .i64 (f 4),.int .i64 (f 5),.int .i64 (f 6),.int .i64 (f 7)]) (.agg #[.int .i64 0,.int .i64 0,.int .i64 0,.int .i64 0,.int .i64 0,.int .i64 0,.int .i64 0,.int .i64 0])).run Tryz.prog W = .ok (.bool (!r)) W:=by
 have:=z9k 9998 (f 0) (f 1) (f 2) (f 3) (f 4) (f 5) (f 6) (f 7) W
 rw [← hr] at this
 simp [binOp,Op.equal,Op.maxDepth,go_sem,this]
theorem z1a (g:Int→Int) {l:List Int} {k:Nat} (h:k < l.length) (a:Int):za7 g a (l.take (k+1))=if g (za7 g a (l.take k)) < g l[k] then l[k] else za7 g a (l.take k):=by
 induction l generalizing a k with
 | nil=>simp at h
 | cons x l ih =>
  cases k with
  | zero=>simp [za7]
  | succ k=>rw [List.take_succ_cons,List.take_succ_cons,za7,za7,ih (by simpa using h)];simp
set_option maxRecDepth 100000 in
set_option maxHeartbeats 1000000 in
theorem z5r (l:List Int) (lv:Value) (q:Nat) (f:Nat→Int) (g:Int→Int) (w:World) (hl:IsInts w .i64 lv l) (h0:0 < l.length) (hb:∀ x∈l,0≤x∧x < 8) (hg:∀ j:Nat,j < 8→g j=f j) (h:SumB w q f) :
  Calls Tryz.prog 139 #[lv,.func (.func 140) #[] #[.pointer (some ⟨q,0,none⟩)]] w fun e w'=>e = .returned (.int .i64 (za7 g (l.headD 0) l))∧Ext w w':=by
 obtain ⟨la,cap,rfl,h1,h2,hc⟩:=hl.spec
 rcases hc with hc | ⟨b,off,rfl,hc⟩
 ·rw [hc] at h0;simp at h0
 have HC:=Lib.hid hc
 have HSM:=Lib.hid h
 have HB:=Lib.hid hb
 have HG:=Lib.hid hg
 have c00:=hc 0 h0
 rw [Nat.add_zero] at c00
 have hz:=World.block_lt_of_cell? _ _ c00
 simp only at hz
 have hd0:l.headD 0=l[0]:=by cases l with
  | nil=>simp at h0
  | cons a l=>rfl
 obtain ⟨hd,hhd⟩:∃ x,x=l.headD 0:=⟨_,rfl⟩
 rw [← hhd]
 have HD:=Lib.hid (hhd.trans hd0)
 clear hhd
 have h0i:(0:Int) < (l.length:Int):=by omega
 have worth:∀ (x:Int),0≤x→x < 8→∀ W,Ext w W→Calls Tryz.prog 140 #[.int .i64 x,.pointer (some ⟨q,0,none⟩)] W fun e w'=>e = .returned (.int .i64 (g x))∧Ext W w':=fun x hx0 hx8 W hE=>by
  obtain ⟨r,rfl⟩:∃ r:Nat,x=r:=⟨x.toNat,by omega⟩
  rw [HG.out r (by omega)]
  exact z3q r q f W (by omega) (HSM.out.of_heap (hE.block _ HSM.out.lt))
 have WO:=Lib.hid worth
 clear hl hc h hb hg hd0 worth
 go_enter Tryz.func139,Tryz.ntmps139
 go_wp2_with fail
 clear c00
 go_loopw [5,7,13] (fun ov _ iv W=>∃ k:Nat,k≤l.length∧iv = .int .i64 k∧ov = .int .i64 (za7 g l[0] (l.take k))∧Ext w W) (fun _ _ iv _=>l.length - (intOf iv).toNat)
 case atStart=>exact ⟨0,by omega,rfl,rfl,Below.refl _ _⟩
 case round =>
  obtain ⟨k,hk,rfl,rfl,hE⟩:=hrel
  by_cases hlt:k < l.length
  ·have hki:(k:Int) < (l.length:Int):=by omega
   have c0:=zb hE (HC.out k hlt)
   have hzr:=World.block_lt_of_cell? _ _ c0
   simp only at hzr
   have hmt:=z1a g hlt l[0]
   have hxb:=HB.out l[k] (List.getElem_mem hlt)
   have hob:0≤za7 g l[0] (l.take k)∧za7 g l[0] (l.take k) < 8:=by
    rcases zid g (l.take k) l[0] with e | e
    ·rw [e];exact HB.out _ (List.getElem_mem h0)
    ·exact HB.out _ (List.mem_of_mem_take e)
   obtain ⟨x,hx⟩:∃ x,x=l[k]:=⟨_,rfl⟩
   obtain ⟨o,ho⟩:∃ o,o=za7 g l[0] (l.take k):=⟨_,rfl⟩
   rw [← hx,← ho] at hmt
   rw [← hx] at c0 hxb
   rw [← ho] at hob ⊢
   have HMT:=Lib.hid hmt
   have HE:=Lib.hid hE
   clear hE hmt hx ho
   go_wp2_with fail
   refine (WO.out x hxb.1 hxb.2 _ HE.out).mono ?_
   rintro e W1 ⟨rfl,hE1⟩
   have HE1:=Lib.hid (HE.out.trans' hE1)
   clear hE1 c0 hzr
   go_wp2_with fail
   refine (WO.out o hob.1 hob.2 _ HE1.out).mono ?_
   rintro e W2 ⟨rfl,hE2⟩
   have HE2:=Lib.hid (HE1.out.trans' hE2)
   clear hE2
   obtain ⟨gx,hgx⟩:∃ gx,gx=g x:=⟨_,rfl⟩
   obtain ⟨go,hgo⟩:∃ go,go=g o:=⟨_,rfl⟩
   rw [← hgx,← hgo]
   have HM:=HMT.out
   rw [← hgx,← hgo] at HM
   have HM2:=Lib.hid HM
   clear HM hgx hgo
   by_cases hlt2:go < gx
   ·have e:=HM2.out
    rw [if_pos hlt2] at e
    have HEE:=Lib.hid e
    clear e
    go_wp2_with fail
    go_roundw
    case rel=>exact ⟨k+1,by omega,by go_num,by rw [HEE.out],HE2.out⟩
    case measure=>simp [intOf];omega
   ·have e:=HM2.out
    rw [if_neg hlt2] at e
    have HEE:=Lib.hid e
    clear e
    go_wp2_with fail
    go_roundw
    case rel=>exact ⟨k+1,by omega,by go_num,by rw [HEE.out],HE2.out⟩
    case measure=>simp [intOf];omega
  ·have hki:¬ ((k:Int) < (l.length:Int)):=by omega
   have HE:=Lib.hid hE
   have HK:=Lib.hid (show k=l.length by omega)
   obtain ⟨o,ho⟩:∃ o,o=za7 g l[0] (l.take k):=⟨_,rfl⟩
   rw [← ho]
   have HO:=Lib.hid ho
   clear hE ho
   go_wp2_with fail
   go_ret
   exact ⟨zy (by rw [HO.out,HD.out,HK.out,List.take_length]),HE.out⟩
end Go.Proofs.YtkbaiobnibmmgaaGreat
