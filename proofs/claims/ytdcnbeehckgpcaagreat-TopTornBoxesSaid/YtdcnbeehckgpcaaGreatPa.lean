/-
  Plain: books, what is odd about one, and which error it is.
-/
import Derived.Test.YtdcnbeehckgpcaaGreatBb
set_option maxRecDepth 200000
set_option maxHeartbeats 0
set_option linter.unusedSimpArgs false
set_option linter.unusedVariables false
namespace Go.Proofs.YtdcnbeehckgpcaaGreat
open Go.Lib (hid)
open Go.RowKit
structure PB where
 f:Int
 s:Int
 u:Int
deriving DecidableEq
structure Bk where
 kd:Int
 n:Int
 bets:List PB
 scr:List Int
 fav:Bool
 car:Int
 duty:Int
 step:Int
def zsf(x:PB):List Value:=[.int .i64 x.f,.int .i64 x.s,.int .i64 x.u]
def zng(w:World)(v:Value)(l:List PB):Prop:=zao w 3 v (l.map zsf)
theorem zng.ext{w w':World}(h:Ext w w'){v:Value}{l:List PB}(hr:zng w v l):zng w' v l:=zao.ext h hr
theorem zng.spec{w:World}{v:Value}{l:List PB}(h:zng w v l) :
  ∃ sa cap,v = .slice sa l.length cap∧l.length≤cap∧cap≤9223372036854775807∧(l=[]∨∃b off,sa=some ⟨b,off,none⟩∧∀i,(h:i<l.length) →
   w.cell? ⟨b,off+i*3,none⟩=some (.int .i64 l[i].f)∧w.cell? ⟨b,off+i*3+1,none⟩=some (.int .i64 l[i].s)∧w.cell? ⟨b,off+i*3+2,none⟩=some (.int .i64 l[i].u)):=by
 obtain⟨sa,cap,h1,h2,h3,h4⟩:=h;refine⟨sa,cap,by simpa using h1,by simpa using h2,h3,?_⟩
 rcases h4 with h4|⟨b,off,e,h4⟩
 ·exact .inl (by simpa using h4)
 ·refine .inr ⟨b,off,e,fun i hi=>?_⟩
  have c0:=h4 i (by simpa using hi) 0 (by simp[zsf]);have c1:=h4 i (by simpa using hi) 1 (by simp[zsf]);have c2:=h4 i (by simpa using hi) 2 (by simp[zsf]);simp[zsf]at c0 c1 c2;exact⟨c0,c1,c2⟩
structure z3s(w:World)(b:Bk)(ba:Option Addr)(bcap:Nat)(sa:Option Addr)(scap:Nat):Prop where
 bets:zng w (.slice ba b.bets.length bcap) b.bets
 scr:zo w .i64 (.slice sa b.scr.length scap) b.scr
theorem z3s.ext{w w':World}(h:Ext w w'){b:Bk}{ba sa:Option Addr}{bcap scap:Nat}(hr:z3s w b ba bcap sa scap):z3s w' b ba bcap sa scap:=⟨hr.bets.ext h,hr.scr.ext h⟩
structure zsg(w:World)(p:Nat)(b:Bk)(ba:Option Addr)(bcap:Nat)(sa:Option Addr)(scap:Nat):Prop where
 c0:w.cell? ⟨p,0,none⟩=some (.int .i64 b.kd)
 c1:w.cell? ⟨p,1,none⟩=some (.int .i64 b.n)
 c2:w.cell? ⟨p,2,none⟩=some (.slice ba b.bets.length bcap)
 c3:w.cell? ⟨p,3,none⟩=some (.slice sa b.scr.length scap)
 c4:w.cell? ⟨p,4,none⟩=some (.bool b.fav)
 c5:w.cell? ⟨p,5,none⟩=some (.int .i64 b.car)
 c6:w.cell? ⟨p,6,none⟩=some (.int .i64 b.duty)
 c7:w.cell? ⟨p,7,none⟩=some (.int .i64 b.step)
theorem zsg.ext{w w':World}(h:Ext w w'){p:Nat}{b:Bk}{ba sa:Option Addr}{bcap scap:Nat}(k:zsg w p b ba bcap sa scap):zsg w' p b ba bcap sa scap :=
 ⟨zh h k.c0,zh h k.c1,zh h k.c2,zh h k.c3,zh h k.c4,zh h k.c5,zh h k.c6,zh h k.c7⟩
theorem zsg.lt{w:World}{p:Nat}{b:Bk}{ba sa:Option Addr}{bcap scap:Nat}(k:zsg w p b ba bcap sa scap):p<w.heap.size:=wfu _ _ k.c0
def inR(lo hi n:Int):Bool:=!(decide (n<lo)||decide (hi<n))
theorem z7s{lo hi n:Int}:inR lo hi n=true↔lo≤n∧n≤hi:=by unfold inR;simp
theorem z7t(lo hi:Int)(l:List Int):(!l.any fun n=>decide (n<lo)||decide (hi<n))=l.all (inR lo hi):=by
 induction l with
 |nil=>rfl
 |cons a l ih=>simp only[List.any_cons,List.all_cons,Bool.not_or,←ih,inR]
def gt(s:List Int)(i:Nat):Int:=s.getD i 0
theorem gt_get{l:List Int}{k:Nat}(h:k<l.length):l[k]=gt l k:=by unfold gt;rw[wch,wcn h];rfl
theorem z3t(l:List Int)(sa:Option Addr)(cap:Nat)(f:Nat)(cs:Array Value)(p:Int→Bool)(w:World)
  (hl:l.length≤9223372036854775807)
  (hs:l=[]∨∃b off,sa=some ⟨b,off,none⟩∧∀i,(h:i<l.length)→w.cell? ⟨b,off+i,none⟩=some (.int .i64 l[i]))
  (hcall:∀args W,(callFunc f args).run Tryz.prog W=.ok (.enter f args) W)
  (hf:∀x,x∈l→∀W,Ext w W→Calls Tryz.prog f (#[.int .i64 x]++cs) W fun e W'=>e=.returned (.bool (p x))∧Ext W W') :
  Calls Tryz.prog 107 #[.slice sa l.length cap,.func (.func f) #[] cs] w fun e w'=>e=.returned (.int .i64 (zp5 p l))∧Ext w w':=by
 have Hf:=hid hf;clear hf
 go_enter Tryz.func107,Tryz.ntmps107
 go_wp2
 go_loopw [8] (fun i W=>∃k:Nat,k≤l.length∧i=.int .i64 k∧(∀x∈l.take k,p x=false)∧Ext w W) (fun i _=>l.length-(intOf i).toNat)
 case atStart=>exact⟨0,wfd _,rfl,by simp,Below.refl _ _⟩
 case round =>
  obtain⟨k,hk,rfl,hno,hb⟩:=hrel;have HN:=hid hno;clear hno
  by_cases hlt:k<l.length
  ·have hs':∃b off,sa=some ⟨b,off,none⟩∧∀i,(h:i<l.length)→w.cell? ⟨b,off+i,none⟩=some (.int .i64 l[i]):=by
    rcases hs with rfl|h
    ·simp at hlt
    ·exact h
   clear hs;obtain⟨b,off,rfl,hc⟩:=hs';have hc1:=hc k hlt;have HC:Hid (∀i,(h:i<l.length)→w.cell? ⟨b,off+i,none⟩=some (.int .i64 l[i])):=hid hc;clear hc;have hcell:=zh hb hc1;clear hc1;go_wp2_with fail;refine(Hf.out l[k] (wcy hlt) _ hb).mono ?_
   rintro e W' ⟨rfl,hb'⟩;cases hp:p l[k]
   ·go_wp2
    go_roundw
    case rel=>exact⟨k+1,by omega,by go_num,zvy hlt HN.out hp,hb.trans' hb'⟩
    case measure=>simp[intOf];omega
   ·go_wp2
    go_ret;exact⟨zg8 (zzc hlt HN.out hp).symm,hb.trans' hb'⟩
  ·go_wp2
   go_ret;exact⟨zg8 (zr0 (zvz hlt HN.out)).symm,hb⟩
theorem zxc(l:List Int)(sa:Option Addr)(cap:Nat)(f:Nat)(cs:Array Value)(p:Int→Bool)(w:World)
  (hl:l.length≤9223372036854775807)
  (hs:l=[]∨∃b off,sa=some ⟨b,off,none⟩∧∀i,(h:i<l.length)→w.cell? ⟨b,off+i,none⟩=some (.int .i64 l[i]))
  (hcall:∀args W,(callFunc f args).run Tryz.prog W=.ok (.enter f args) W)
  (hf:∀x,x∈l→∀W,Ext w W→Calls Tryz.prog f (#[.int .i64 x]++cs) W fun e W'=>e=.returned (.bool (p x))∧Ext W W') :
  Calls Tryz.prog 60 #[.slice sa l.length cap,.func (.func f) #[] cs] w fun e w'=>e=.returned (.bool (l.any p))∧Ext w w':=by
 have H:=hid (z3t l sa cap f cs p w hl hs hcall hf);clear hf hs hcall
 go_enter Tryz.func60,Tryz.ntmps60
 go_wp2_with fail;refine H.out.mono ?_
 rintro e W' ⟨rfl,hb⟩
 go_wp2
 all_goals
  go_ret;refine⟨zcp ?_,hb⟩;rw[←zvx]
theorem z3u(l:List Int)(sa:Option Addr)(cap:Nat)(f:Nat)(cs:Array Value)(p:Int→Bool)(w:World)
  (hl:l.length≤9223372036854775807)
  (hs:l=[]∨∃b off,sa=some ⟨b,off,none⟩∧∀i,(h:i<l.length)→w.cell? ⟨b,off+i,none⟩=some (.int .i64 l[i]))
  (hcall:∀args W,(callFunc f args).run Tryz.prog W=.ok (.enter f args) W)
  (hf:∀x,x∈l→∀W,Ext w W→Calls Tryz.prog f (#[.int .i64 x]++cs) W fun e W'=>e=.returned (.bool (p x))∧Ext W W') :
  Calls Tryz.prog 202 #[.slice sa l.length cap,.func (.func f) #[] cs] w fun e w'=>e=.returned (.int .i64 (zp5 p l))∧Ext w w':=by
 have Hf:=hid hf;clear hf
 go_enter Tryz.func202,Tryz.ntmps202
 go_wp2
 go_loopw [8] (fun i W=>∃k:Nat,k≤l.length∧i=.int .i64 k∧(∀x∈l.take k,p x=false)∧Ext w W) (fun i _=>l.length-(intOf i).toNat)
 case atStart=>exact⟨0,wfd _,rfl,by simp,Below.refl _ _⟩
 case round =>
  obtain⟨k,hk,rfl,hno,hb⟩:=hrel;have HN:=hid hno;clear hno
  by_cases hlt:k<l.length
  ·have hs':∃b off,sa=some ⟨b,off,none⟩∧∀i,(h:i<l.length)→w.cell? ⟨b,off+i,none⟩=some (.int .i64 l[i]):=by
    rcases hs with rfl|h
    ·simp at hlt
    ·exact h
   clear hs;obtain⟨b,off,rfl,hc⟩:=hs';have hc1:=hc k hlt;have HC:Hid (∀i,(h:i<l.length)→w.cell? ⟨b,off+i,none⟩=some (.int .i64 l[i])):=hid hc;clear hc;have hcell:=zh hb hc1;clear hc1;go_wp2_with fail;refine(Hf.out l[k] (wcy hlt) _ hb).mono ?_
   rintro e W' ⟨rfl,hb'⟩;cases hp:p l[k]
   ·go_wp2
    go_roundw
    case rel=>exact⟨k+1,by omega,by go_num,zvy hlt HN.out hp,hb.trans' hb'⟩
    case measure=>simp[intOf];omega
   ·go_wp2
    go_ret;exact⟨zg8 (zzc hlt HN.out hp).symm,hb.trans' hb'⟩
  ·go_wp2
   go_ret;exact⟨zg8 (zr0 (zvz hlt HN.out)).symm,hb⟩
theorem zxd(l:List Int)(sa:Option Addr)(cap:Nat)(f:Nat)(cs:Array Value)(p:Int→Bool)(w:World)
  (hl:l.length≤9223372036854775807)
  (hs:l=[]∨∃b off,sa=some ⟨b,off,none⟩∧∀i,(h:i<l.length)→w.cell? ⟨b,off+i,none⟩=some (.int .i64 l[i]))
  (hcall:∀args W,(callFunc f args).run Tryz.prog W=.ok (.enter f args) W)
  (hf:∀x,x∈l→∀W,Ext w W→Calls Tryz.prog f (#[.int .i64 x]++cs) W fun e W'=>e=.returned (.bool (p x))∧Ext W W') :
  Calls Tryz.prog 147 #[.slice sa l.length cap,.func (.func f) #[] cs] w fun e w'=>e=.returned (.bool (l.any p))∧Ext w w':=by
 have H:=hid (z3u l sa cap f cs p w hl hs hcall hf);clear hf hs hcall
 go_enter Tryz.func147,Tryz.ntmps147
 go_wp2_with fail;refine H.out.mono ?_
 rintro e W' ⟨rfl,hb⟩
 go_wp2
 all_goals
  go_ret;refine⟨zcp ?_,hb⟩;rw[←zvx]
open Go.RowKit Go.Shelf
theorem zee{w:World}{b cap:Nat}{x:Int}(h2:1≤cap)(h3:cap≤9223372036854775807)(c0:w.cell? ⟨b,0,none⟩=some (.int .i64 x)) :
  zo w .i64 (.slice (some ⟨b,0,none⟩) 1 cap) [x]:=by
 refine zo.mk (l:=[x]) (off:=0) (by simpa using h2) h3 fun i hi=>?_
 match i,hi with
 |0,_=>simpa using c0
end Go.Proofs.YtdcnbeehckgpcaaGreat
