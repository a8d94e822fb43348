/-
  Plain: the boxes into which a card of races is cut, by tickets: what a box yields says of each ticket whether it has all of it or nothing.
-/
import Derived.Test.YtkbaiobnibmmgaaGreatBb
import Derived.Test.YtkbaiobnibmmgaaGreatBa
import Derived.Test.YtkbaiobnibmmgaaGreatPa
import Derived.Test.YtkbaiobnibmmgaaGreatBc
namespace Go.Proofs.YtkbaiobnibmmgaaGreat
def zcd (ts:List (List Nat)) (race:Nat) (al:List Bool) (i:Nat):List Bool :=
 (List.range ts.length).map fun j=>al.getD j false && (((ts.getD j []).getD race 0).testBit i)
def sub (a b:Nat):Prop:=∀ k,a.testBit k=true→b.testBit k=true
theorem z5s (ts:List (List Nat)) (race:Nat) (al:List Bool) (i:Nat):(zcd ts race al i).length=ts.length:=by simp [zcd]
theorem z8b {ts:List (List Nat)} {race:Nat} {al:List Bool} {i j:Nat} (hj:j < ts.length):(zcd ts race al i).getD j false=(al.getD j false && (((ts.getD j []).getD race 0).testBit i)):=by
 unfold zcd
 rw [List.getD_eq_getElem?_getD,List.getElem?_map,List.getElem?_range hj]
 rfl
end Go.Proofs.YtkbaiobnibmmgaaGreat
namespace Go.Proofs.YtkbaiobnibmmgaaGreat
def valB (us:List Int) (al:List Bool):Nat→Int
 | 0=>0
 | m+1=>valB us al m+if al.getD m false=true then us.getD m 0 else 0
theorem sub_land {a b:Nat}:a &&& b=b↔sub b a:=by
 constructor
 ·intro h k hk
  rw [← h,Nat.testBit_and,Bool.and_eq_true] at hk
  exact hk.1
 ·intro h
  apply Nat.eq_of_testBit_eq
  intro k
  rw [Nat.testBit_and]
  cases hb:b.testBit k with
  | false=>simp
  | true=>rw [h k hb];rfl
end Go.Proofs.YtkbaiobnibmmgaaGreat
namespace Go.Proofs.YtkbaiobnibmmgaaGreat
end Go.Proofs.YtkbaiobnibmmgaaGreat
namespace Go.Proofs.YtkbaiobnibmmgaaGreat
open Go.RowKit
structure Tk where
 s:List Nat
 u:Int
def natL (l:List Nat):List Int:=l.map fun (n:Nat)=>(n:Int)
theorem zb2 (l:List Nat):(natL l).length=l.length:=by simp [natL]
def zgr (x:Value × Tk):List Value:=[x.1,.int .i64 x.2.u]
structure IsTks (w:World) (v:Value) (ps:List (Value × Tk)):Prop where
 rows:IsRows w 2 v (ps.map zgr)
 sets:∀ x∈ps,IsInts w .i64 x.1 (natL x.2.s)
theorem IsTks.ext {w w':World} (e:Ext w w') {v:Value} {ps:List (Value × Tk)} (h:IsTks w v ps):IsTks w' v ps:=⟨IsRows.ext e h.rows,fun x hx=>(h.sets x hx).ext e⟩
theorem IsTks.spec {w:World} {v:Value} {ps:List (Value × Tk)} (h:IsTks w v ps) :
  ∃ sa cap,v = .slice sa ps.length cap∧ps.length≤cap∧cap≤9223372036854775807∧(ps=[]∨∃ b off,sa=some ⟨b,off,none⟩∧∀ i,(h:i < ps.length) →
   w.cell? ⟨b,off+i * 2,none⟩=some ps[i].1∧w.cell? ⟨b,off+i * 2+1,none⟩=some (.int .i64 ps[i].2.u)):=by
 obtain ⟨sa,cap,h1,h2,h3,h4⟩:=h.rows
 refine ⟨sa,cap,by simpa using h1,by simpa using h2,h3,?_⟩
 rcases h4 with h4 | ⟨b,off,e,h4⟩
 ·exact .inl (by simpa using h4)
 ·refine .inr ⟨b,off,e,fun i hi=>?_⟩
  have c0:=h4 i (by simpa using hi) 0 (by simp [zgr])
  have c1:=h4 i (by simpa using hi) 1 (by simp [zgr])
  simp [zgr] at c0 c1
  exact ⟨c0,c1⟩
def zn (ps:List (Value × Tk)):List Tk:=ps.map (·.2)
def zbt (ts:List Tk):List (List Nat):=ts.map (·.s)
def zam (ts:List Tk):List Int:=ts.map (·.u)
structure CardV (rs:List Nat):Prop where
 lo:1≤rs.length
 hi:rs.length≤5
 each:∀ r,r < rs.length→1≤rs.getD r 0∧rs.getD r 0≤6
structure TksV (rs:List Nat) (ts:List Tk):Prop where
 hi:ts.length≤10
 len:∀ t∈ts,t.s.length=rs.length
 each:∀ t∈ts,∀ r,r < rs.length→1≤t.s.getD r 0∧t.s.getD r 0≤2 ^ rs.getD r 0 - 1
 u:∀ t∈ts,1≤t.u∧t.u≤1000
theorem z8c {l:List Nat} {i:Nat} (h:i < l.length):(natL l)[i]'(by rw [zb2];exact h)=(l.getD i 0:Int):=by
 simp only [natL,List.getElem_map]
 rw [List.getD_eq_getElem?_getD,List.getElem?_eq_getElem h]
 rfl
theorem zcu {w:World} {sa:Option Addr} {n cap:Nat} {l:List Nat} (h:IsInts w .i64 (.slice sa n cap) (natL l)) {i:Nat} (hi:i < l.length):∃ sb off,sa=some ⟨sb,off,none⟩∧∀ i,i < l.length→∀ W,Ext w W→W.cell? ⟨sb,off+i,none⟩=some (.int .i64 (l.getD i 0:Int)):=by
 obtain ⟨_,_,e0,-,-,hc⟩:=h.spec
 cases e0
 rcases hc with h0 | ⟨sb,off,rfl,hc⟩
 ·have:(natL l).length=0:=by rw [h0];rfl
  rw [zb2] at this
  omega
 ·refine ⟨sb,off,rfl,fun i hi W e=>?_⟩
  have c0:=zb e (hc i (by rw [zb2];exact hi))
  rw [z8c hi] at c0
  exact c0
structure SheetAt (w:World) (p:Nat) (rv tv:Value):Prop where
 c0:w.cell? ⟨p,0,none⟩=some rv
 c1:w.cell? ⟨p,1,none⟩=some tv
theorem SheetAt.ext {w w':World} (h:Ext w w') {p:Nat} {rv tv:Value} (k:SheetAt w p rv tv):SheetAt w' p rv tv:=⟨zb h k.c0,zb h k.c1⟩
theorem SheetAt.lt {w:World} {p:Nat} {rv tv:Value} (k:SheetAt w p rv tv):p < w.heap.size:=World.block_lt_of_cell? _ _ k.c0
theorem zn2 (f s:Nat) (h1:f≤4294967295) (h2:s≤4294967295):bits .and .i64 (f:Int) (s:Int)=((f &&& s:Nat):Int):=by
 have h3:f &&& s≤f:=Nat.and_le_left
 have e:(BitVec.ofInt IntKind.i64.bits (f:Int) &&& BitVec.ofInt IntKind.i64.bits (s:Int)).toNat=f &&& s:=by
  show (BitVec.ofInt 64 (f:Int) &&& BitVec.ofInt 64 (s:Int)).toNat=f &&& s
  rw [BitVec.toNat_and,BitVec.ofInt_natCast,BitVec.ofInt_natCast,BitVec.toNat_ofNat,BitVec.toNat_ofNat,Nat.mod_eq_of_lt (by omega),Nat.mod_eq_of_lt (by omega)]
 unfold bits
 simp only
 rw [e,IntWalk.i64_in _ (by omega)]
theorem z5t (n k:Nat):(n:Int) / 2 ^ k=((n >>> k:Nat):Int):=by
 rw [Nat.shiftRight_eq_div_pow];simp
theorem z3r (n k:Nat):((n >>> k) % 2=1)↔n.testBit k=true:=by
 simp [Nat.testBit]
end Go.Proofs.YtkbaiobnibmmgaaGreat
namespace Go.Proofs.YtkbaiobnibmmgaaGreat
open Go.RowKit Go.Shelf
def mkI (al:List Bool) (j:Nat):Int:=if al.getD j false=true then 1 else 0
def PlAt (T:TypeId) (W:World) (g:Nat) (race:Int) (f:Nat→Int):Prop :=
 ∃ cur:Array Value,W.heap[g]? = some (.cells cur T (0,0))∧cur.size=11∧cur[0]? = some (.int .i64 race)∧∀ j,j < 10→cur[1+j]? = some (.int .i64 (f j))
section
variable {T:TypeId} {W:World} {g:Nat} {race:Int} {f:Nat→Int} (h:PlAt T W g race f)
include h
theorem PlAt.c0:W.cell? ⟨g,0,none⟩=some (.int .i64 race):=by
 obtain ⟨cur,h1,_,h2,_⟩:=h
 rw [cell_of_row _ _ _ _ _ _ h1];exact h2
theorem PlAt.cell (j:Nat) (hj:j < 10):W.cell? ⟨g,1+j,none⟩=some (.int .i64 (f j)):=by
 obtain ⟨cur,h1,_,_,h2⟩:=h
 rw [cell_of_row _ _ _ _ _ _ h1];exact h2 j hj
theorem PlAt.free (o:Nat):W.frozen? ⟨g,o,none⟩=false:=by
 obtain ⟨cur,h1,_⟩:=h
 simp [World.frozen?,h1]
theorem PlAt.lt:g < W.heap.size:=by
 obtain ⟨cur,h1,_⟩:=h
 exact (Array.getElem?_eq_some_iff.1 h1).1
theorem PlAt.of_heap {W':World} (e:W'.heap[g]? = W.heap[g]?):PlAt T W' g race f:=by
 obtain ⟨cur,h1,h2⟩:=h
 exact ⟨cur,e.trans h1,h2⟩
theorem PlAt.ext {W':World} (e:Ext W W'):PlAt T W' g race f:=h.of_heap (e.block _ h.lt)
theorem PlAt.set (i:Nat) (hi:i < 10) (x:Int):PlAt T (W.setCell ⟨g,1+i,none⟩ (.int .i64 x)) g race (fun j=>if j=i then x else f j):=by
 obtain ⟨cur,h1,hn,h0,h2⟩:=h
 refine ⟨_,zj h1 (1+i) _,by simpa using hn,?_,fun j hj=>?_⟩
 ·rw [Array.getElem?_setIfInBounds,if_neg (by omega),h0]
 ·rw [Array.getElem?_setIfInBounds]
  by_cases e:j=i
  ·subst e
   rw [if_pos rfl,if_pos (by omega)]
   simp
  ·rw [if_neg (by omega),h2 j hj]
   simp [e]
theorem PlAt.congr {f':Nat→Int} (e:∀ j,j < 10→f j=f' j):PlAt T W g race f':=by
 obtain ⟨cur,h1,h2,h3,h4⟩:=h
 exact ⟨cur,h1,h2,h3,fun j hj=>by rw [h4 j hj,e j hj]⟩
end
def zbi (race:Int) (f:Nat→Int):Array Value:=#[.int .i64 race,.int .i64 (f 0),.int .i64 (f 1),.int .i64 (f 2),.int .i64 (f 3),.int .i64 (f 4),.int .i64 (f 5),.int .i64 (f 6),.int .i64 (f 7),.int .i64 (f 8),.int .i64 (f 9)]
def z9l (f:Nat→Int):Array Value:=#[.int .i64 (f 0),.int .i64 (f 1),.int .i64 (f 2),.int .i64 (f 3),.int .i64 (f 4),.int .i64 (f 5),.int .i64 (f 6),.int .i64 (f 7),.int .i64 (f 8),.int .i64 (f 9)]
theorem zd2 (T:TypeId) (w:World) (race:Int) (f:Nat→Int):PlAt T (w.alloc (.cells (zbi race f) T)) w.heap.size race f:=by
 refine ⟨_,World.alloc_heap_new w _,rfl,rfl,fun j hj=>?_⟩
 match j,hj with
 | 0,_=>rfl
 | 1,_=>rfl
 | 2,_=>rfl
 | 3,_=>rfl
 | 4,_=>rfl
 | 5,_=>rfl
 | 6,_=>rfl
 | 7,_=>rfl
 | 8,_=>rfl
 | 9,_=>rfl
theorem z1b (al:List Bool) (j x:Nat) (hx:x≤4294967295):bits .and .i64 (mkI al j) (x:Int)=if al.getD j false=true∧x % 2=1 then 1 else 0:=by
 unfold mkI
 by_cases ha:al.getD j false=true
 ·rw [if_pos ha]
  have h:=zn2 1 x (by omega) hx
  rw [Nat.one_and_eq_mod_two] at h
  have h':bits .and .i64 1 (x:Int)=((x % 2:Nat):Int):=h
  rw [h']
  by_cases h2:x % 2=1
  ·rw [if_pos ⟨ha,h2⟩,h2];rfl
  ·rw [if_neg (fun h=>h2 h.2),show x % 2=0 by omega];rfl
 ·rw [if_neg ha]
  have h:=zn2 0 x (by omega) hx
  rw [Nat.zero_and] at h
  have h':bits .and .i64 0 (x:Int)=0:=h
  rw [h',if_neg (fun h=>ha h.1)]
theorem z3s {ts:List (List Nat)} {race:Nat} {al:List Bool} {i j:Nat} (hj:j < ts.length) (hs:(ts.getD j []).getD race 0≤4294967295):bits .and .i64 (mkI al j) ((((ts.getD j []).getD race 0) >>> i:Nat):Int)=mkI (zcd ts race al i) j:=by
 have hb:((ts.getD j []).getD race 0) >>> i≤4294967295:=by
  rw [Nat.shiftRight_eq_div_pow]
  exact Nat.le_trans (Nat.div_le_self _ _) hs
 rw [z1b _ _ _ hb]
 unfold mkI
 rw [z8b hj]
 have hbt:=z3r ((ts.getD j []).getD race 0) i
 cases ha:al.getD j false<;>cases hx:((ts.getD j []).getD race 0).testBit i<;>rw [hx] at hbt<;>simp at hbt ⊢<;>omega
def MkAt (T:TypeId) (W:World) (g:Nat) (f:Nat→Int):Prop :=
 ∃ cur:Array Value,W.heap[g]? = some (.cells cur T (0,0))∧cur.size=10∧∀ j,j < 10→cur[j]? = some (.int .i64 (f j))
section
variable {T:TypeId} {W:World} {g:Nat} {f:Nat→Int} (h:MkAt T W g f)
include h
theorem MkAt.cell (j:Nat) (hj:j < 10):W.cell? ⟨g,j,none⟩=some (.int .i64 (f j)):=by
 obtain ⟨cur,h1,_,h2⟩:=h
 rw [cell_of_row _ _ _ _ _ _ h1];exact h2 j hj
theorem MkAt.lt:g < W.heap.size:=by
 obtain ⟨cur,h1,_⟩:=h
 exact (Array.getElem?_eq_some_iff.1 h1).1
theorem MkAt.ext {W':World} (e:Ext W W'):MkAt T W' g f:=by
 obtain ⟨cur,h1,h2⟩:=id h
 exact ⟨cur,(e.block _ h.lt).trans h1,h2⟩
end
theorem z3t (T:TypeId) (w:World) (f:Nat→Int):MkAt T (w.alloc (.cells (z9l f) T)) w.heap.size f:=by
 refine ⟨_,World.alloc_heap_new w _,rfl,fun j hj=>?_⟩
 match j,hj with
 | 0,_=>rfl
 | 1,_=>rfl
 | 2,_=>rfl
 | 3,_=>rfl
 | 4,_=>rfl
 | 5,_=>rfl
 | 6,_=>rfl
 | 7,_=>rfl
 | 8,_=>rfl
 | 9,_=>rfl
end Go.Proofs.YtkbaiobnibmmgaaGreat
namespace Go.Proofs.YtkbaiobnibmmgaaGreat
open Go.RowKit
set_option maxHeartbeats 400000 in
theorem zye (l:List (Value × Tk)) (sa:Option Addr) (cap:Nat) (f:Nat) (cs:Array Value) (p:(Value × Tk)→Bool) (w:World)
  (hl:l.length≤9223372036854775807)
  (hs:l=[]∨∃ b off,sa=some ⟨b,off,none⟩∧∀ i,(h:i < l.length)→w.cell? ⟨b,off+i * 2,none⟩=some (l[i].1)∧w.cell? ⟨b,off+i * 2+1,none⟩=some (.int .i64 l[i].2.u))
  (hcall:∀ args W,(callFunc f args).run Tryz.prog W = .ok (.enter f args) W)
  (hf:∀ x,x∈l→∀ W,Ext w W→Calls Tryz.prog f (#[.agg #[x.1,.int .i64 x.2.u]] ++ cs) W fun e W'=>e = .returned (.bool (p x))∧Ext W W') :
  Calls Tryz.prog 194 #[.slice sa l.length cap,.func (.func f) #[] cs] w fun e w'=>e = .returned (.int .i64 (fidx p l))∧Ext w w':=by
 have Hf:=Lib.hid hf
 clear hf
 go_enter Tryz.func194,Tryz.ntmps194
 go_wp2
 go_loopw [8] (fun i W=>∃ k:Nat,k≤l.length∧i = .int .i64 k∧(∀ x∈l.take k,p x=false)∧Ext w W) (fun i _=>l.length - (intOf i).toNat)
 case atStart=>exact ⟨0,Nat.zero_le _,rfl,by simp,Below.refl _ _⟩
 case round =>
  obtain ⟨k,hk,rfl,hno,hb⟩:=hrel
  have HN:=Lib.hid hno
  clear hno
  by_cases hlt:k < l.length
  ·have hs':∃ b off,sa=some ⟨b,off,none⟩∧∀ i,(h:i < l.length)→w.cell? ⟨b,off+i * 2,none⟩=some (l[i].1)∧w.cell? ⟨b,off+i * 2+1,none⟩=some (.int .i64 l[i].2.u):=by
    rcases hs with rfl | h
    ·simp at hlt
    ·exact h
   clear hs
   obtain ⟨b,off,rfl,hc⟩:=hs'
   have hc1:=hc k hlt
   have HC:Hid (∀ i,(h:i < l.length)→w.cell? ⟨b,off+i * 2,none⟩=some (l[i].1)∧w.cell? ⟨b,off+i * 2+1,none⟩=some (.int .i64 l[i].2.u)):=Lib.hid hc
   clear hc
   obtain ⟨a0,a1⟩:=hc1
   have c0:=zb hb a0
   have c1:=zb hb a1
   clear a0 a1
   go_wp2_with fail
   refine (Hf.out l[k] (List.getElem_mem hlt) _ hb).mono ?_
   rintro e W' ⟨rfl,hb'⟩
   cases hp:p l[k]
   ·go_wp2
    go_roundw
    case rel=>exact ⟨k+1,by omega,by go_num,zhp hlt HN.out hp,hb.trans' hb'⟩
    case measure=>simp [intOf];omega
   ·go_wp2
    go_ret
    exact ⟨zy (zg4 hlt HN.out hp).symm,hb.trans' hb'⟩
  ·go_wp2
   go_ret
   exact ⟨zy (ze4 (zhq hlt HN.out)).symm,hb⟩
set_option maxHeartbeats 400000 in
theorem zf1 (l:List (Value × Tk)) (sa:Option Addr) (cap:Nat) (f:Nat) (cs:Array Value) (p:(Value × Tk)→Bool) (w:World)
  (hl:l.length≤9223372036854775807)
  (hs:l=[]∨∃ b off,sa=some ⟨b,off,none⟩∧∀ i,(h:i < l.length)→w.cell? ⟨b,off+i * 2,none⟩=some (l[i].1)∧w.cell? ⟨b,off+i * 2+1,none⟩=some (.int .i64 l[i].2.u))
  (hcall:∀ args W,(callFunc f args).run Tryz.prog W = .ok (.enter f args) W)
  (hf:∀ x,x∈l→∀ W,Ext w W→Calls Tryz.prog f (#[.agg #[x.1,.int .i64 x.2.u]] ++ cs) W fun e W'=>e = .returned (.bool (p x))∧Ext W W') :
  Calls Tryz.prog 121 #[.slice sa l.length cap,.func (.func f) #[] cs] w fun e w'=>e = .returned (.bool (l.any p))∧Ext w w':=by
 have H:=Lib.hid (zye l sa cap f cs p w hl hs hcall hf)
 clear hf hs hcall
 go_enter Tryz.func121,Tryz.ntmps121
 go_wp2_with fail
 refine H.out.mono ?_
 rintro e W' ⟨rfl,hb⟩
 go_wp2
 all_goals
  go_ret
  refine ⟨zac ?_,hb⟩
  rw [← zho]
end Go.Proofs.YtkbaiobnibmmgaaGreat
namespace Go.Proofs.YtkbaiobnibmmgaaGreat
open Go.RowKit Go.Shelf
set_option maxHeartbeats 400000 in
theorem zxk (n lo hi:Int) (a b:Addr) (w:World) (h1:w.cell? a=some (.int .i64 lo)) (h2:w.cell? b=some (.int .i64 hi)) :
  Calls Tryz.prog 88 #[.int .i64 n,.pointer (some a),.pointer (some b)] w fun e w'=>e = .returned (.bool (decide (n < lo) || decide (hi < n)))∧Ext w w':=by
 go_enter Tryz.func88,Tryz.ntmps88
 go_wp2
 all_goals
  go_ret
  exact ⟨zac (by simp [*]),Below.refl _ _⟩
set_option maxHeartbeats 400000 in
theorem zem (lo hi:Int) (v:Value) (l:List Int) (w:World) (hv:IsInts w .i64 v l) :
  Calls Tryz.prog 39 #[.int .i64 lo,.int .i64 hi,v] w fun e w'=>e = .returned (.bool (l.all (inR lo hi)))∧Ext w w':=by
 obtain ⟨sa,cap,rfl,h1,h2,h3⟩:=hv.spec
 have H3:=Lib.hid h3
 clear h3 hv
 go_enter Tryz.func39,Tryz.ntmps39
 go_wp2_with fail
 have hE:Ext w ((w.alloc (.cells #[.int .i64 lo] 2)).alloc (.cells #[.int .i64 hi] 2)):=((Below.refl _ _).alloc (Nat.le_refl _) _).alloc (by simp) _
 have e1:((w.alloc (.cells #[.int .i64 lo] 2)).alloc (.cells #[.int .i64 hi] 2)).cell? ⟨w.heap.size,0,none⟩=some (.int .i64 lo):=by simp [go_sem]
 have e2:((w.alloc (.cells #[.int .i64 lo] 2)).alloc (.cells #[.int .i64 hi] 2)).cell? ⟨w.heap.size+1,0,none⟩=some (.int .i64 hi):=by simp [go_sem]
 refine (zib l sa cap 88 #[.pointer (some ⟨w.heap.size,0,none⟩),.pointer (some ⟨w.heap.size+1,0,none⟩)] (fun n=>decide (n < lo) || decide (hi < n)) _ (by omega) (H3.out.imp id fun ⟨b,off,e,hc⟩=>⟨b,off,e,fun i hi=>zb hE (hc i hi)⟩)
  (fun args W=>Tryz.call88 args W) (fun x _ W hW=>zxk x lo hi _ _ W (zb hW e1) (zb hW e2))).mono ?_
 rintro e W' ⟨rfl,hb⟩
 clear e1 e2
 go_wp2
 all_goals
  go_ret
  refine ⟨zac (a:=!l.any fun n=>decide (n < lo) || decide (hi < n)) ?_,hE.trans' hb⟩
  exact zzq lo hi l
theorem zn3 {lo hi n:Int} (h:lo≤n∧n≤hi):inR lo hi n=true:=inR_iff.2 h
theorem zlc (p:Int→Bool) (x:Int):[x].all p=p x:=by simp
set_option maxRecDepth 100000 in
set_option maxHeartbeats 2000000 in
theorem z3u (rs:List Nat) (ra:Option Addr) (rcap:Nat) (w:World) (hr:IsInts w .i64 (.slice ra rs.length rcap) (rs.map fun (n:Nat)=>(n:Int))) (V:CardV rs):Calls Tryz.prog 142 #[.agg #[.slice ra rs.length rcap]] w fun e w'=>e = .returned (.int .i64 0)∧Ext w w':=by
 have hlo:=V.lo
 have hhi:=V.hi
 go_enter Tryz.func142,Tryz.ntmps142
 go_upto_region 1 with (fail)
 obtain ⟨W0,hW0⟩:∃ W0,W0=w.alloc (.cells #[.slice ra rs.length rcap] 30):=⟨_,rfl⟩
 have hE:Ext w W0:=by rw [hW0];exact xx
 have k0:W0.cell? ⟨w.heap.size,0,none⟩=some (.slice ra rs.length rcap):=by rw [hW0];simp [go_sem]
 have hz:w.heap.size < W0.heap.size:=World.block_lt_of_cell? _ _ k0
 have HW:=Lib.hid hE
 have HR:=Lib.hid (IsInts.ext hE hr)
 rw [← hW0]
 clear hW0 hr
 go_wp2_with fail
 refine zat (W0:=W0) (g:=⟨W0,Below.refl _ _⟩) xx (zem 1 5 _ [(rs.length:Int)] _ (zaq (by omega) (by omega) (by simp [go_sem]))) fun g1 hgr=>?_
 clear hgr
 rw [zlc,zn3 (by omega)]
 go_upto_region 3 with (fail)
 obtain ⟨Z,hZ⟩:∃ zz9,zz9=(grow W0 g1):=⟨_,rfl⟩
 have eZ:Ext W0 Z:=by rw [hZ];exact xx
 replace k0:=zb eZ k0
 replace HR:=Lib.hid (HR.out.ext eZ)
 replace HW:=Lib.hid (HW.out.trans' eZ)
 rw [← hZ]
 replace hz:=World.block_lt_of_cell? _ _ k0
 clear hZ eZ
 simp only at hz
 go_wp2_with fail
 go_loopw [14] (fun iv W=>∃ i:Nat,i≤rs.length∧iv = .int .i64 i∧Ext Z W) (fun iv _=>rs.length - (intOf iv).toNat)
 case atStart=>exact ⟨0,by omega,rfl,Below.refl _ _⟩
 case round =>
  obtain ⟨i,hi,rfl,hE2⟩:=hrel
  obtain ⟨X,rfl⟩:∃ X,X=wr:=⟨_,rfl⟩
  have HEX:=Lib.hid hE2
  by_cases hlt:i < rs.length
  ·have hii:(i:Int) < (rs.length:Int):=by omega
   obtain ⟨rb,ro,rfl,hc⟩:=zcu HR.out hlt
   have c0:=hc i hlt X hE2
   have zc:=World.block_lt_of_cell? _ _ c0
   simp only at zc
   obtain ⟨x,hx⟩:∃ x:Nat,x=rs.getD i 0:=⟨_,rfl⟩
   have hb:=V.each i hlt
   rw [← hx] at c0 hb
   clear hc hE2 hx
   go_wp2_with fail
   refine zat (W0:=X) (g:=⟨X,Below.refl _ _⟩) xx (zem 1 6 _ [(x:Int)] _ (zaq (by omega) (by omega) (by simp [go_sem]))) fun g1 hgr=>?_
   clear hgr
   rw [zlc,zn3 (by omega)]
   go_wp2_with fail
   go_roundw
   case rel=>exact ⟨i+1,by omega,by go_num,HEX.out.trans' (zi X _)⟩
   case measure=>simp [intOf];omega
  ·have hii:¬ ((i:Int) < (rs.length:Int)):=by omega
   clear hE2
   go_wp2_with fail
   go_ret
   exact ⟨rfl,HW.out.trans' HEX.out⟩
set_option maxRecDepth 100000 in
set_option maxHeartbeats 1000000 in
theorem zxl (rs:List Nat) (ra:Option Addr) (rcap:Nat) (w:World) (_:IsInts w .i64 (.slice ra rs.length rcap) (rs.map fun (n:Nat)=>(n:Int))) (tv:Value) (ta:Option Addr) (tn tc:Nat) (ht:tv = .slice ta tn tc) :
  Calls Tryz.prog 76 #[.agg #[.slice ra rs.length rcap],tv] w fun e w'=>∃ p,e = .returned (.pointer (some ⟨p,0,none⟩))∧Ext w w'∧w.heap.size≤p∧SheetAt w' p (.slice ra rs.length rcap) tv:=by
 subst ht
 go_enter Tryz.func76,Tryz.ntmps76
 go_wp2_with fail
 go_ret
 exact ⟨w.heap.size+1,rfl,by exact xx,by omega,by constructor<;>simp [go_sem]⟩
end Go.Proofs.YtkbaiobnibmmgaaGreat
namespace Go.Proofs.YtkbaiobnibmmgaaGreat
open Go.RowKit Go.Shelf
attribute [local go_sem] Oper.semAt_some
def zcq (a b:List Nat) (k:Nat):Bool:=(List.range k).all fun r=>(a.getD r 0 &&& b.getD r 0) == b.getD r 0
theorem z1c (a b:List Nat) (k:Nat):zcq a b (k+1)=(zcq a b k && ((a.getD k 0 &&& b.getD k 0) == b.getD k 0)):=by
 unfold zcq
 rw [List.range_succ,List.all_append]
 simp
theorem hasTo_iff {a b:List Nat} {k:Nat}:zcq a b k=true↔∀ r,r < k→sub (b.getD r 0) (a.getD r 0):=by
 unfold zcq
 rw [List.all_eq_true]
 constructor
 ·intro h r hr
  have:=h r (List.mem_range.2 hr)
  exact sub_land.1 (by simpa using this)
 ·intro h r hr
  have:=sub_land.2 (h r (List.mem_range.1 hr))
  simpa using this
set_option maxRecDepth 100000 in
set_option maxHeartbeats 2000000 in
theorem z5u (a b:List Nat) (av bv:Value) (w:World) (ha:IsInts w .i64 av (natL a)) (hb:IsInts w .i64 bv (natL b)) (hl:b.length=a.length) (hA:∀ r,r < a.length→a.getD r 0≤4294967295) (hB:∀ r,r < a.length→b.getD r 0≤4294967295) (h9:a.length≤1000) :
  Calls Tryz.prog 55 #[av,bv] w fun e w'=>e = .returned (.bool (zcq a b a.length))∧Ext w w':=by
 obtain ⟨aa,ac,rfl,a1,a2,-⟩:=ha.spec
 obtain ⟨ba,bc,rfl,b1,b2,-⟩:=hb.spec
 rw [zb2] at ha a1 ⊢
 rw [zb2,hl] at hb b1 ⊢
 have HA:=Lib.hid ha
 have HB:=Lib.hid hb
 have HLA:=Lib.hid hA
 have HLB:=Lib.hid hB
 have HL:=Lib.hid hl
 clear ha hb hA hB hl
 go_enter Tryz.func55,Tryz.ntmps55
 go_wp2_with fail
 go_loopw [8] (fun iv W=>∃ i:Nat,i≤a.length∧iv = .int .i64 i∧zcq a b i=true∧Ext w W) (fun iv _=>a.length - (intOf iv).toNat)
 case atStart=>exact ⟨0,by omega,rfl,by simp [zcq],Below.refl _ _⟩
 case round =>
  obtain ⟨i,hi,rfl,hh,hE⟩:=hrel
  obtain ⟨X,rfl⟩:∃ X,X=wr:=⟨_,rfl⟩
  have HE:=Lib.hid hE
  have HH:=Lib.hid hh
  by_cases hlt:i < a.length
  ·have hii:(i:Int) < (a.length:Int):=by omega
   obtain ⟨ab,ao,rfl,hca⟩:=zcu HA.out hlt
   obtain ⟨bb,bo,rfl,hcb⟩:=zcu HB.out (show i < b.length by rw [HL.out];exact hlt)
   have c0:=hca i hlt X hE
   have c1:=hcb i (by rw [HL.out];exact hlt) X hE
   have z0:=World.block_lt_of_cell? _ _ c0
   have z1:=World.block_lt_of_cell? _ _ c1
   simp only at z0 z1
   have hxa:=HLA.out i hlt
   have hyb:=HLB.out i hlt
   have hsu:=z1c a b i
   rw [hh,Bool.true_and] at hsu
   obtain ⟨x,hx⟩:∃ x:Nat,x=a.getD i 0:=⟨_,rfl⟩
   obtain ⟨y,hy⟩:∃ y:Nat,y=b.getD i 0:=⟨_,rfl⟩
   rw [← hx] at c0 hxa hsu
   rw [← hy] at c1 hyb hsu
   have hbit:=zn2 x y hxa hyb
   obtain ⟨z,hz⟩:∃ z:Nat,z=x &&& y:=⟨_,rfl⟩
   rw [← hz] at hbit hsu
   obtain ⟨q,hq⟩:∃ q,((z:Int) != (y:Int))=q:=⟨_,rfl⟩
   have HSU:Hid (zcq a b (i+1) = !q):=Lib.hid (by
    rw [hsu,← hq,Bool.eq_iff_iff]
    simp
    omega)
   clear hca hcb hE hh hx hy hz hsu hxa hyb
   go_upto_region 4 with (fail)
   refine za0 (X.heap.size) (Nat.le_refl _)
    [sqV (.slice (some ⟨ab,ao,none⟩) a.length ac),sqV (.int .i64 i),sqV (.pointer (some ⟨ab,ao+i,none⟩)),sqV (.int .i64 x),sqV (.slice (some ⟨bb,bo,none⟩) a.length bc),sqV (.int .i64 i),sqV (.pointer (some ⟨bb,bo+i,none⟩)),sqV (.int .i64 y),sqV (.int .i64 z),sqV (.slice (some ⟨bb,bo,none⟩) a.length bc),sqV (.int .i64 i),sqV (.pointer (some ⟨bb,bo+i,none⟩)),sqV (.int .i64 y),sqV (.bool q)]
    [true,true,true,true,true,true,true,true,true,true,true,true,true,true] [false,false,false,false,false,false,false,false,false,false,false,false,false,false] [true,true,true,true,true,true,true,true,true,true,true,true,true,true] [true,true,true,true,true,true,true,true,true,true,true,true,true,true]
    (by kernel_rfl) (by kernel_rfl) (by decide +kernel) (by decide +kernel) (by decide +kernel) rfl ⟨rfl,rfl⟩ ⟨?s0,?s1,?s2,?s3,?s4,?s5,?s6,?s7,?s8,?s9,?s10,?s11,?s12,?s13,trivial⟩ [some 11,some 12,some 13,some 14,some 15,some 16,some 17,some 18,some 19,some 20,some 21,some 22,some 23,some 24] rfl rfl ?send
   case s0 =>
    intro val ρ W hE hz hd hA hx
    have o0:ρ (.tmp 0) = .slice (some ⟨ab,ao,none⟩) a.length ac:=hA.old 0 (by decide)
    clear hd
    exact zd (W':=W) (by simp [execOp,o0,go_sem]) (Below.refl _ _) rfl
   case s1 =>
    intro val ρ W hE hz hd hA hx
    have o0:ρ (.tmp 5) = .int .i64 i:=hA.old 5 (by decide)
    clear hd
    exact zd (W':=W) (by simp [execOp,o0,go_sem]) (Below.refl _ _) rfl
   case s2 =>
    intro val ρ W hE hz hd hA hx
    have d0:ρ (.tmp 11) = .slice (some ⟨ab,ao,none⟩) a.length ac:=(hA.dep 0 (by decide) 11 rfl).trans (hd 0 (by decide))
    have d1:ρ (.tmp 12) = .int .i64 i:=(hA.dep 1 (by decide) 12 rfl).trans (hd 1 (by decide))
    clear hd
    exact zd (W':=W) (by simp [execOp,d0,d1,hii,go_sem]) (Below.refl _ _) rfl
   case s3 =>
    intro val ρ W hE hz hd hA hx
    have d2:ρ (.tmp 13) = .pointer (some ⟨ab,ao+i,none⟩):=(hA.dep 2 (by decide) 13 rfl).trans (hd 2 (by decide))
    have f_c0:=cell_below hE (by simp only;omega) c0
    clear hd
    exact zd (W':=W) (by simp [execOp,d2,f_c0,go_sem]) (Below.refl _ _) rfl
   case s4 =>
    intro val ρ W hE hz hd hA hx
    have o0:ρ (.tmp 1) = .slice (some ⟨bb,bo,none⟩) a.length bc:=hA.old 1 (by decide)
    clear hd
    exact zd (W':=W) (by simp [execOp,o0,go_sem]) (Below.refl _ _) rfl
   case s5 =>
    intro val ρ W hE hz hd hA hx
    have o0:ρ (.tmp 5) = .int .i64 i:=hA.old 5 (by decide)
    clear hd
    exact zd (W':=W) (by simp [execOp,o0,go_sem]) (Below.refl _ _) rfl
   case s6 =>
    intro val ρ W hE hz hd hA hx
    have d4:ρ (.tmp 15) = .slice (some ⟨bb,bo,none⟩) a.length bc:=(hA.dep 4 (by decide) 15 rfl).trans (hd 4 (by decide))
    have d5:ρ (.tmp 16) = .int .i64 i:=(hA.dep 5 (by decide) 16 rfl).trans (hd 5 (by decide))
    clear hd
    exact zd (W':=W) (by simp [execOp,d4,d5,hii,go_sem]) (Below.refl _ _) rfl
   case s7 =>
    intro val ρ W hE hz hd hA hx
    have d6:ρ (.tmp 17) = .pointer (some ⟨bb,bo+i,none⟩):=(hA.dep 6 (by decide) 17 rfl).trans (hd 6 (by decide))
    have f_c1:=cell_below hE (by simp only;omega) c1
    clear hd
    exact zd (W':=W) (by simp [execOp,d6,f_c1,go_sem]) (Below.refl _ _) rfl
   case s8 =>
    intro val ρ W hE hz hd hA hx
    have d3:ρ (.tmp 14) = .int .i64 x:=(hA.dep 3 (by decide) 14 rfl).trans (hd 3 (by decide))
    have d7:ρ (.tmp 18) = .int .i64 y:=(hA.dep 7 (by decide) 18 rfl).trans (hd 7 (by decide))
    clear hd
    exact zd (W':=W) (by simp [execOp,d3,d7,hbit,go_sem]) (Below.refl _ _) rfl
   case s9 =>
    intro val ρ W hE hz hd hA hx
    have o0:ρ (.tmp 1) = .slice (some ⟨bb,bo,none⟩) a.length bc:=hA.old 1 (by decide)
    clear hd
    exact zd (W':=W) (by simp [execOp,o0,go_sem]) (Below.refl _ _) rfl
   case s10 =>
    intro val ρ W hE hz hd hA hx
    have o0:ρ (.tmp 5) = .int .i64 i:=hA.old 5 (by decide)
    clear hd
    exact zd (W':=W) (by simp [execOp,o0,go_sem]) (Below.refl _ _) rfl
   case s11 =>
    intro val ρ W hE hz hd hA hx
    have d9:ρ (.tmp 20) = .slice (some ⟨bb,bo,none⟩) a.length bc:=(hA.dep 9 (by decide) 20 rfl).trans (hd 9 (by decide))
    have d10:ρ (.tmp 21) = .int .i64 i:=(hA.dep 10 (by decide) 21 rfl).trans (hd 10 (by decide))
    clear hd
    exact zd (W':=W) (by simp [execOp,d9,d10,hii,go_sem]) (Below.refl _ _) rfl
   case s12 =>
    intro val ρ W hE hz hd hA hx
    have d11:ρ (.tmp 22) = .pointer (some ⟨bb,bo+i,none⟩):=(hA.dep 11 (by decide) 22 rfl).trans (hd 11 (by decide))
    have f_c1:=cell_below hE (by simp only;omega) c1
    clear hd
    exact zd (W':=W) (by simp [execOp,d11,f_c1,go_sem]) (Below.refl _ _) rfl
   case s13 =>
    intro val ρ W hE hz hd hA hx
    have d8:ρ (.tmp 19) = .int .i64 z:=(hA.dep 8 (by decide) 19 rfl).trans (hd 8 (by decide))
    have d12:ρ (.tmp 23) = .int .i64 y:=(hA.dep 12 (by decide) 23 rfl).trans (hd 12 (by decide))
    clear hd
    exact zd (W':=W) (by simp [execOp,d8,d12,hq,go_sem]) (Below.refl _ _) rfl
   case send =>
    intro val WW hE hzz hv
    obtain ⟨-,-,-,-,-,-,-,-,-,-,-,-,-,r13,-⟩:=hv
    have q13:val 13 = .bool q:=r13
    simp only [putD,q13]
    go_frame
    have HE2:=Lib.hid (HE.out.trans' hE)
    clear hE hzz q13 r13 c0 c1 z0 z1 hbit hq
    cases q
    ·go_wp2_with fail
     go_roundw
     case rel=>exact ⟨i+1,by omega,by go_num,by rw [HSU.out];rfl,HE2.out⟩
     case measure=>simp [intOf];omega
    ·have HF:Hid (zcq a b a.length=false):=Lib.hid (by
      cases hf:zcq a b a.length with
      | false=>rfl
      | true =>
       have h1:=hasTo_iff.1 hf
       have h2:zcq a b (i+1)=true:=hasTo_iff.2 fun r hr=>h1 r (by omega)
       rw [HSU.out] at h2
       cases h2)
     go_wp2_with fail
     go_ret
     exact ⟨zac (by rw [HF.out]),HE2.out⟩
  ·have hii:¬ ((i:Int) < (a.length:Int)):=by omega
   have hie:i=a.length:=by omega
   rw [hie] at hh
   have HF:=Lib.hid hh
   clear hE hh hie HH
   go_wp2_with fail
   go_ret
   exact ⟨zac (by rw [HF.out]),HE.out⟩
theorem bshl {n:Nat} (h:n≤6):IntKind.i64.wrap (2 ^ n)=((2 ^ n:Nat):Int)∧2 ^ n≤64∧1≤2 ^ n:=by
 match n,h with
 | 0,_=>decide +kernel
 | 1,_=>decide +kernel
 | 2,_=>decide +kernel
 | 3,_=>decide +kernel
 | 4,_=>decide +kernel
 | 5,_=>decide +kernel
 | 6,_=>decide +kernel
end Go.Proofs.YtkbaiobnibmmgaaGreat
namespace Go.Proofs.YtkbaiobnibmmgaaGreat
open Go.RowKit Go.Shelf
attribute [local go_sem] Oper.semAt_some
theorem PlAt.set0 {T:TypeId} {W:World} {g:Nat} {r:Int} {f:Nat→Int} (h:PlAt T W g r f) (x:Int):PlAt T (W.setCell ⟨g,0,none⟩ (.int .i64 x)) g x f:=by
 obtain ⟨cur,h1,hn,h0,h2⟩:=h
 refine ⟨_,zj h1 0 _,by simpa using hn,?_,fun j hj=>?_⟩
 ·rw [Array.getElem?_setIfInBounds,if_pos rfl,if_pos (by omega)]
 ·rw [Array.getElem?_setIfInBounds,if_neg (by omega),h2 j hj]
theorem PlAt.store {T:TypeId} {W:World} {g:Nat} {r:Int} {f:Nat→Int} (h:PlAt T W g r f) (r':Int) (f':Nat→Int) :
  PlAt T (((((((((((W.setCell ⟨g,0,none⟩ (.int .i64 r')).setCell ⟨g,1,none⟩ (.int .i64 (f' 0))).setCell ⟨g,2,none⟩ (.int .i64 (f' 1))).setCell ⟨g,3,none⟩ (.int .i64 (f' 2))).setCell ⟨g,4,none⟩ (.int .i64 (f' 3))).setCell ⟨g,5,none⟩ (.int .i64 (f' 4))).setCell ⟨g,6,none⟩ (.int .i64 (f' 5))).setCell ⟨g,7,none⟩ (.int .i64 (f' 6))).setCell ⟨g,8,none⟩ (.int .i64 (f' 7))).setCell ⟨g,9,none⟩ (.int .i64 (f' 8))).setCell ⟨g,10,none⟩ (.int .i64 (f' 9))) g r' f':=by
 refine (((((((((((h.set0 r').set 0 (by omega) (f' 0)).set 1 (by omega) (f' 1)).set 2 (by omega) (f' 2)).set 3 (by omega) (f' 3)).set 4 (by omega) (f' 4)).set 5 (by omega) (f' 5)).set 6 (by omega) (f' 6)).set 7 (by omega) (f' 7)).set 8 (by omega) (f' 8)).set 9 (by omega) (f' 9)).congr fun j hj=>?_
 match j,hj with
 | 0,_=>simp
 | 1,_=>simp
 | 2,_=>simp
 | 3,_=>simp
 | 4,_=>simp
 | 5,_=>simp
 | 6,_=>simp
 | 7,_=>simp
 | 8,_=>simp
 | 9,_=>simp
theorem zt8 {w W:World} (h:Ext w W) {g:Nat} (hg:w.heap.size≤g) (a0 a1 a2 a3 a4 a5 a6 a7 a8 a9 a10:Value):Ext w (((((((((((W.setCell ⟨g,0,none⟩ a0).setCell ⟨g,1,none⟩ a1).setCell ⟨g,2,none⟩ a2).setCell ⟨g,3,none⟩ a3).setCell ⟨g,4,none⟩ a4).setCell ⟨g,5,none⟩ a5).setCell ⟨g,6,none⟩ a6).setCell ⟨g,7,none⟩ a7).setCell ⟨g,8,none⟩ a8).setCell ⟨g,9,none⟩ a9).setCell ⟨g,10,none⟩ a10):=by
 exact (((((((((((h.setCell (p:=⟨g,0,none⟩) hg _).setCell (p:=⟨g,1,none⟩) hg _).setCell (p:=⟨g,2,none⟩) hg _).setCell (p:=⟨g,3,none⟩) hg _).setCell (p:=⟨g,4,none⟩) hg _).setCell (p:=⟨g,5,none⟩) hg _).setCell (p:=⟨g,6,none⟩) hg _).setCell (p:=⟨g,7,none⟩) hg _).setCell (p:=⟨g,8,none⟩) hg _).setCell (p:=⟨g,9,none⟩) hg _).setCell (p:=⟨g,10,none⟩) hg _)
theorem PlAt.cells {T:TypeId} {W:World} {g:Nat} {r:Int} {f:Nat→Int} (h:PlAt T W g r f):W.cell? ⟨g,0,none⟩=some (.int .i64 r)∧W.cell? ⟨g,1,none⟩=some (.int .i64 (f 0))∧W.cell? ⟨g,2,none⟩=some (.int .i64 (f 1))∧W.cell? ⟨g,3,none⟩=some (.int .i64 (f 2))∧W.cell? ⟨g,4,none⟩=some (.int .i64 (f 3))∧W.cell? ⟨g,5,none⟩=some (.int .i64 (f 4))∧W.cell? ⟨g,6,none⟩=some (.int .i64 (f 5))∧W.cell? ⟨g,7,none⟩=some (.int .i64 (f 6))∧W.cell? ⟨g,8,none⟩=some (.int .i64 (f 7))∧W.cell? ⟨g,9,none⟩=some (.int .i64 (f 8))∧W.cell? ⟨g,10,none⟩=some (.int .i64 (f 9)) :=
 ⟨h.c0,h.cell 0 (by omega),h.cell 1 (by omega),h.cell 2 (by omega),h.cell 3 (by omega),h.cell 4 (by omega),h.cell 5 (by omega),h.cell 6 (by omega),h.cell 7 (by omega),h.cell 8 (by omega),h.cell 9 (by omega)⟩
theorem zzs {a b c:World} {q:Nat} (h:Ext a b) (k:Kept (fun k=>k≠q) b c) (hq:a.heap.size≤q):Ext a c :=
 Below.trans h ((k.mono (T:=fun k=>k < a.heap.size) (fun i _ hi=>by omega)).below h.size)
theorem zmj (T:TypeId) (w:World):PlAt T (w.alloc (.cells #[.int .i64 0,.int .i64 0,.int .i64 0,.int .i64 0,.int .i64 0,.int .i64 0,.int .i64 0,.int .i64 0,.int .i64 0,.int .i64 0,.int .i64 0] T)) w.heap.size 0 (fun _=>0):=zd2 T w 0 (fun _=>0)
def stTo (i:Nat) (j:Nat):Int:=if j < i then 1 else 0
theorem z5v {n j:Nat}:stTo n j=mkI (List.replicate n true) j:=by
 unfold stTo mkI
 rw [List.getD_eq_getElem?_getD,List.getElem?_replicate]
 by_cases h:j < n
 ·rw [if_pos h,if_pos h];rfl
 ·rw [if_neg h,if_neg h];rfl
def nxTo (ts:List (List Nat)) (race:Nat) (al:List Bool) (i k j:Nat):Int:=if j < k then mkI (zcd ts race al i) j else 0
theorem z5w {ts:List (List Nat)} {race:Nat} {al:List Bool} {i n j:Nat} (hn:ts.length=n):nxTo ts race al i n j=mkI (zcd ts race al i) j:=by
 unfold nxTo
 by_cases h:j < n
 ·rw [if_pos h]
 ·rw [if_neg h]
  unfold mkI
  rw [List.getD_eq_getElem?_getD,List.getElem?_eq_none (by rw [z5s];omega)]
  rfl
set_option maxRecDepth 100000 in
set_option maxHeartbeats 4000000 in
theorem z3v (n p:Nat) (rv:Value) (ta:Option Addr) (tc:Nat) (w:World) (hs:SheetAt w p rv (.slice ta n tc)) (hn:n≤10) :
  Calls Tryz.prog 82 #[.pointer (some ⟨p,0,none⟩)] w fun e w'=>e = .returned (.agg (zbi 0 (mkI (List.replicate n true))))∧Ext w w':=by
 have hz:=hs.lt
 have c1:=hs.c1
 clear hs
 go_enter Tryz.func82,Tryz.ntmps82
 go_upto_region 2 with (fail)
 obtain ⟨W0,hW0⟩:∃ W0,W0=(w.alloc (.cells #[.int .i64 0,.int .i64 0,.int .i64 0,.int .i64 0,.int .i64 0,.int .i64 0,.int .i64 0,.int .i64 0,.int .i64 0,.int .i64 0,.int .i64 0] 142)).alloc (.cells #[.int .i64 0,.int .i64 0,.int .i64 0,.int .i64 0,.int .i64 0,.int .i64 0,.int .i64 0,.int .i64 0,.int .i64 0,.int .i64 0,.int .i64 0] 142):=⟨_,rfl⟩
 have hE:Ext w W0:=by rw [hW0];exact xx
 have hr:PlAt 142 W0 w.heap.size 0 (fun _=>0):=by
  rw [hW0]
  exact (zmj _ w).ext xx
 have hp:PlAt 142 W0 (w.heap.size+1) 0 (stTo 0):=by
  have h:=(zmj 142 (w.alloc (.cells #[.int .i64 0,.int .i64 0,.int .i64 0,.int .i64 0,.int .i64 0,.int .i64 0,.int .i64 0,.int .i64 0,.int .i64 0,.int .i64 0,.int .i64 0] 142))).congr (f':=stTo 0) fun j _=>by unfold stTo;simp
  rw [← hW0] at h
  simpa using h
 have k1:=zb hE c1
 have hzw:W0.heap.size=w.heap.size+2:=by rw [hW0];simp
 obtain ⟨q,hq⟩:∃ q,q=w.heap.size:=⟨_,rfl⟩
 rw [← hW0]
 rw [← hq] at hr hp hzw ⊢
 obtain ⟨g,hg⟩:∃ g,g=q+1:=⟨_,rfl⟩
 rw [← hg] at hp ⊢
 have HR:=Lib.hid hr
 have HP:=Lib.hid hp
 have HE:=Lib.hid hE
 have HQ:=Lib.hid hq
 have HG:=Lib.hid hg
 have HZ:=Lib.hid hzw
 have hzp:p < W0.heap.size:=by omega
 have hpg:p≠g:=by omega
 have HPG:=Lib.hid hpg
 clear hW0 hE hr hp hq hg hzw c1 hz hpg
 go_wp2_with fail
 go_loopw [10] (fun iv wr=>∃ i:Nat,i≤n∧iv = .int .i64 i∧PlAt 142 wr g 0 (stTo i)∧Kept (fun k=>k≠g) W0 wr) (fun iv _=>n - (intOf iv).toNat)
 case atStart=>exact ⟨0,by omega,rfl,HP.out,Kept.refl _ _⟩
 case round =>
  obtain ⟨i,hi,rfl,hA,hK⟩:=hrel
  have HA:=Lib.hid hA
  have HK:=Lib.hid hK
  by_cases hlt:i < n
  ·have hii:(i:Int) < (n:Int):=by omega
   have ci:=hA.cell i (by omega)
   have hfr:=hA.free (1+i)
   have hgl:=hA.lt
   have hi10:i < 10:=by omega
   clear hA hK
   go_wp2_with fail
   go_roundw
   case rel =>
    refine ⟨i+1,by omega,by go_num,(HA.out.set i hi10 1).congr fun j hj=>?_,HK.out.setCell (fun _ h=>h rfl) _⟩
    unfold stTo
    by_cases e:j=i
    ·rw [if_pos e,if_pos (by omega)]
    ·rw [if_neg e]
     by_cases e2:j < i
     ·rw [if_pos e2,if_pos (by omega)]
     ·rw [if_neg e2,if_neg (by omega)]
   case measure=>simp [intOf];omega
  ·have hii:¬ ((i:Int) < (n:Int)):=by omega
   have hie:i=n:=by omega
   rw [hie] at hA
   have hA2:PlAt 142 wr g 0 (mkI (List.replicate n true)):=hA.congr fun j _=>z5v
   obtain ⟨f,hf⟩:∃ f,f=mkI (List.replicate n true):=⟨_,rfl⟩
   rw [← hf] at hA2
   have HFF:=Lib.hid hf
   obtain ⟨a0,a1,a2,a3,a4,a5,a6,a7,a8,a9,a10⟩:=hA2.cells
   have hq1:=HR.out.of_heap (hK.same q (by rw [HZ.out];omega) (by have:=HG.out;omega))
   obtain ⟨d0,d1,d2,d3,d4,d5,d6,d7,d8,d9,d10⟩:=hq1.cells
   have hfr:=hq1.free
   have hgl:=hA2.lt
   have hrl:=hq1.lt
   have HE2:Hid (Ext w wr):=Lib.hid (zzs HE.out hK (by have:=HG.out;have:=HQ.out;omega))
   have HRQ:=Lib.hid HQ.out
   clear hA hA2 hK hq1 HA HK hi hie hf
   go_wp2_with fail
   refine bodyPost_ret (v:=.agg (zbi 0 f)) (by simp [zbi,results,Tryz.results82,go_sem,d0,d1,d2,d3,d4,d5,d6,d7,d8,d9,d10]) rfl ?_
   exact ⟨by rw [HFF.out],zt8 HE2.out (by have:=HRQ.out;omega) _ _ _ _ _ _ _ _ _ _ _⟩
end Go.Proofs.YtkbaiobnibmmgaaGreat
namespace Go.Proofs.YtkbaiobnibmmgaaGreat
open Go.RowKit Go.Shelf
attribute [local go_sem] Oper.semAt_some
theorem Kept.drNb {S:Nat→Prop} {a b:World} (h:Kept S a b) (n:Nat):Kept S a (b.drewN n):=⟨h.os,h.tape,h.output,h.size,h.same⟩
theorem zzt {ps:List (Value × Tk)} {k:Nat} (h:k < ps.length):(zbt (zn ps)).getD k []=ps[k].2.s:=by
 rw [List.getD_eq_getElem?_getD]
 simp [zbt,zn,List.getElem?_eq_getElem h]
theorem zxm (ps:List (Value × Tk)):(zbt (zn ps)).length=ps.length:=by simp [zbt,zn]
set_option maxRecDepth 100000 in
set_option maxHeartbeats 8000000 in
theorem zxn (ps:List (Value × Tk)) (al:List Bool) (race i n p:Nat) (rv:Value) (ta:Option Addr) (tc:Nat) (w:World) (hs:SheetAt w p rv (.slice ta ps.length tc)) (ht:IsTks w (.slice ta ps.length tc) ps) (hl:ps.length≤10) (hr:race < n) (hn:n≤5)
  (hlen:∀ x∈ps,x.2.s.length=n) (hle:∀ x∈ps,∀ r,r < n→x.2.s.getD r 0≤64) (hi:i≤6) :
  Calls Tryz.prog 77 #[.pointer (some ⟨p,0,none⟩),.agg (zbi race (mkI al)),.int .i64 i] w fun e w'=>e = .returned (.agg (zbi ((race:Int)+1) (mkI (zcd (zbt (zn ps)) race al i))))∧Ext w w':=by
 have hz:=hs.lt
 have c1:=hs.c1
 have HT0:=Lib.hid ht
 have HLEN:=Lib.hid hlen
 have HLE:=Lib.hid hle
 clear hs ht hlen hle
 unfold zbi
 obtain ⟨f,hf⟩:∃ f,f=mkI al:=⟨_,rfl⟩
 rw [← hf]
 have HF:=Lib.hid hf
 clear hf
 go_enter Tryz.func77,Tryz.ntmps77
 go_upto_region 1 with (fail)
 obtain ⟨W9,hW9⟩:∃ W9,W9=(w.alloc (.cells #[.int .i64 race,.int .i64 (f 0),.int .i64 (f 1),.int .i64 (f 2),.int .i64 (f 3),.int .i64 (f 4),.int .i64 (f 5),.int .i64 (f 6),.int .i64 (f 7),.int .i64 (f 8),.int .i64 (f 9)] 142)).alloc (.cells #[.int .i64 0,.int .i64 0,.int .i64 0,.int .i64 0,.int .i64 0,.int .i64 0,.int .i64 0,.int .i64 0,.int .i64 0,.int .i64 0,.int .i64 0] 142):=⟨_,rfl⟩
 have hE9:Ext w W9:=by rw [hW9];exact xx
 have hr9:PlAt 142 W9 (w.heap.size+1) 0 (fun _=>0):=by
  have h:=zmj 142 (w.alloc (.cells #[.int .i64 race,.int .i64 (f 0),.int .i64 (f 1),.int .i64 (f 2),.int .i64 (f 3),.int .i64 (f 4),.int .i64 (f 5),.int .i64 (f 6),.int .i64 (f 7),.int .i64 (f 8),.int .i64 (f 9)] 142))
  rw [← hW9] at h
  simpa using h
 have hp9:PlAt 142 W9 w.heap.size race f:=by
  rw [hW9]
  exact (zd2 142 w race f).ext xx
 have hz9:W9.heap.size=w.heap.size+2:=by rw [hW9];simp
 have kp9:=hp9.c0
 have kz9:=hp9.lt
 have hwr:IntKind.i64.wrap ((race:Int)+1)=(race:Int)+1:=IntWalk.i64_in _ (by omega)
 rw [← hW9]
 clear hW9
 go_upto_region 2 with (fail)
 obtain ⟨R0,hR0⟩:∃ R0,R0=(race:Int)+1:=⟨_,rfl⟩
 rw [← hR0]
 obtain ⟨Z0,hZ0⟩:∃ Z0:Nat→Int,Z0=fun _=>0:=⟨_,rfl⟩
 obtain ⟨W0,hW0⟩:∃ W0,W0=W9.alloc (.cells #[.int .i64 R0,.int .i64 0,.int .i64 0,.int .i64 0,.int .i64 0,.int .i64 0,.int .i64 0,.int .i64 0,.int .i64 0,.int .i64 0,.int .i64 0] 142):=⟨_,rfl⟩
 have hg0:PlAt 142 W0 W9.heap.size ((race:Int)+1) (nxTo (zbt (zn ps)) race al i 0):=by
  rw [hW0,← hR0]
  exact (zd2 142 W9 R0 (fun _=>0)).congr fun j _=>by unfold nxTo;simp
 have hE0:Ext W9 W0:=by rw [hW0];exact xx
 rw [← hW0]
 rw [hR0]
 have hE:=hE9.trans' hE0
 have hr:=hr9.ext hE0
 have hp:=hp9.ext hE0
 have k1:=zb hE c1
 obtain ⟨q,hq⟩:∃ q,q=w.heap.size:=⟨_,rfl⟩
 obtain ⟨g,hg⟩:∃ g,g=q+2:=⟨_,rfl⟩
 rw [← hq] at hr hp hz9 ⊢
 rw [hz9] at hg0
 rw [← hg] at hg0 ⊢
 have hzg:g < W0.heap.size:=hg0.lt
 have hgq:g=q+2:=by omega
 have HR:=Lib.hid hr
 have HPQ:=Lib.hid hp
 have HG0:=Lib.hid hg0
 have HE:=Lib.hid hE
 have HQ:=Lib.hid hq
 have HGQ:=Lib.hid hgq
 have HZG:=Lib.hid hzg
 have hzp:p < W0.heap.size:=by omega
 clear hW0 hR0 hZ0 hg0 hE0 hE hr hp hq hg hz9 hr9 hp9 kp9 kz9 hE9 c1 hz hgq hzg hwr
 go_wp2_with fail
 go_loopw [19] (fun iv wr=>∃ k:Nat,k≤ps.length∧iv = .int .i64 k∧PlAt 142 wr g ((race:Int)+1) (nxTo (zbt (zn ps)) race al i k)∧Kept (fun k=>k≠g) W0 wr) (fun iv _=>ps.length - (intOf iv).toNat)
 case atStart=>exact ⟨0,by omega,rfl,HG0.out,Kept.refl _ _⟩
 case round =>
  obtain ⟨k,hk,rfl,hA,hK⟩:=hrel
  have HA:=Lib.hid hA
  have HK:=Lib.hid hK
  have hEw:Ext w wr:=zzs HE.out hK (by have:=HQ.out;have:=HGQ.out;omega)
  have HEW:=Lib.hid hEw
  have HPA:Hid (PlAt 142 wr q race f):=Lib.hid (HPQ.out.of_heap (hK.same q (by have:=HZG.out;have:=HGQ.out;omega) (by have:=HGQ.out;omega)))
  have HRA:Hid (PlAt 142 wr (q+1) 0 (fun _=>0)):=Lib.hid (HR.out.of_heap (hK.same (q+1) (by have:=HZG.out;have:=HGQ.out;omega) (by have:=HGQ.out;omega)))
  by_cases hlt:k < ps.length
  ·have hki:(k:Int) < (ps.length:Int):=by omega
   have hT:=HT0.out.ext hEw
   obtain ⟨_,_,e9,-,-,hcc⟩:=hT.spec
   cases e9
   rcases hcc with hc0 | ⟨tb,to,rfl,hcc⟩
   ·rw [hc0] at hlt;simp at hlt
   obtain ⟨t0,t1⟩:=hcc k hlt
   have zt:=World.block_lt_of_cell? _ _ t0
   simp only at zt
   have hln:=HLEN.out _ (List.getElem_mem hlt)
   have hsv0:=hT.sets _ (List.getElem_mem hlt)
   obtain ⟨sa,sc,hsv,-,-,-⟩:=hsv0.spec
   rw [zb2,hln] at hsv
   rw [hsv] at hsv0 t0
   obtain ⟨sb,so,rfl,hcs⟩:=zcu hsv0 (show race < ps[k].2.s.length by rw [hln];exact hr)
   have hcs1:=fun W e=>hcs race (by rw [hln];exact hr) W e
   have hs64:=HLE.out _ (List.getElem_mem hlt) race hr
   obtain ⟨u,hu⟩:∃ u,u=ps[k].2.u:=⟨_,rfl⟩
   rw [← hu] at t1
   have hmk:bits .and .i64 (f k) ((ps[k].2.s.getD race 0:Int) / 2 ^ i)=mkI (zcd (zbt (zn ps)) race al i) k:=by
    rw [z5t,HF.out]
    have h:=z3s (ts:=zbt (zn ps)) (race:=race) (al:=al) (i:=i) (j:=k) (by rw [zxm];exact hlt) (by rw [zzt hlt];omega)
    rw [zzt hlt] at h
    exact h
   obtain ⟨s,hs⟩:∃ s:Nat,s=ps[k].2.s.getD race 0:=⟨_,rfl⟩
   rw [← hs] at hcs1 hs64 hmk
   obtain ⟨m,hm⟩:∃ m,m=mkI (zcd (zbt (zn ps)) race al i) k:=⟨_,rfl⟩
   rw [← hm] at hmk
   have HM:=Lib.hid hm
   have hk10:k < 10:=by omega
   have hk10i:(k:Int) < 10:=by omega
   have hri:(race:Int) < (n:Int):=by omega
   clear hA hK hT hcc hln hsv0 hsv hs hm hu hcs hEw
   go_upto_region 5 with (fail)
   obtain ⟨X,hX⟩:∃ X,X=wr.alloc (.cells #[.slice (some ⟨sb,so,none⟩) n sc,.int .i64 u] 33):=⟨_,rfl⟩
   have hEX:Ext wr X:=by rw [hX];exact xx
   have x0:X.cell? ⟨wr.heap.size,0,none⟩=some (.slice (some ⟨sb,so,none⟩) n sc):=by rw [hX];simp [go_sem]
   have hA2:=HA.out.ext hEX
   have hP2:=HPA.out.ext hEX
   have xs:=hcs1 X hEX
   have xf:=hP2.cell k hk10
   have xr:=hP2.c0
   have xg:=hA2.cell k hk10
   have xfr:=hA2.free (1+k)
   have zg:=hA2.lt
   have zq:=hP2.lt
   have zx:=World.block_lt_of_cell? _ _ x0
   have zs:=World.block_lt_of_cell? _ _ xs
   simp only at zx zs
   rw [← hX]
   have HA2:=Lib.hid hA2
   have HEX:=Lib.hid hEX
   clear hX hA2 hP2 hEX t0 t1 hcs1 zt
   refine (wpIn_wide (n:=9)).1 ?_
   refine z0m rfl rfl (by kernel_rfl) (by kernel_rfl) (by kernel_rfl) ?_
   dsimp only [List.dropLast]
   repeat (first | go_big_quiet_step (fail) | quiet_step (fail))
   refine wpQuiet_nil ?_
   rintro _ ⟨nq,rfl⟩
   gi_wp2_with fail
   go_wp2_with fail
   go_roundw
   case rel =>
    refine ⟨k+1,by omega,by go_num,((HA2.out.of_heap (W':=X.drewN nq) rfl).set k hk10 m).congr fun j hj=>?_,((HK.out.trans (Kept.of_below HEX.out)).drNb nq).setCell (fun _ h=>h rfl) _⟩
    unfold nxTo
    by_cases e:j=k
    ·rw [if_pos e,if_pos (by omega),HM.out,e]
    ·rw [if_neg e]
     by_cases e2:j < k
     ·rw [if_pos e2,if_pos (by omega)]
     ·rw [if_neg e2,if_neg (by omega)]
   case measure=>simp [intOf];omega
  ·have hki:¬ ((k:Int) < (ps.length:Int)):=by omega
   have hke:k=ps.length:=by omega
   rw [hke] at hA
   have hA2:PlAt 142 wr g ((race:Int)+1) (mkI (zcd (zbt (zn ps)) race al i)):=hA.congr fun j _=>z5w (zxm ps)
   obtain ⟨m,hm⟩:∃ m,m=mkI (zcd (zbt (zn ps)) race al i):=⟨_,rfl⟩
   obtain ⟨R,hR⟩:∃ R,R=(race:Int)+1:=⟨_,rfl⟩
   rw [← hm,← hR] at hA2
   have HM:=Lib.hid hm
   have HRR:=Lib.hid hR
   obtain ⟨a0,a1,a2,a3,a4,a5,a6,a7,a8,a9,a10⟩:=hA2.cells
   have hq1:=HRA.out
   obtain ⟨d0,d1,d2,d3,d4,d5,d6,d7,d8,d9,d10⟩:=hq1.cells
   have hfr:=hq1.free
   have hgl:=hA2.lt
   have hrl:=hq1.lt
   have HRQ:=Lib.hid HQ.out
   clear hA hA2 hK hq1 HA HK hk hke hm hR hEw HPA HRA
   go_wp2_with fail
   refine bodyPost_ret (v:=.agg (zbi R m)) (by simp [zbi,results,Tryz.results77,go_sem,d0,d1,d2,d3,d4,d5,d6,d7,d8,d9,d10]) rfl ?_
   exact ⟨by rw [HM.out,HRR.out];rfl,zt8 HEW.out (by have:=HRQ.out;omega) _ _ _ _ _ _ _ _ _ _ _⟩
end Go.Proofs.YtkbaiobnibmmgaaGreat
namespace Go.Proofs.YtkbaiobnibmmgaaGreat
open Go.RowKit Go.Shelf
attribute [local go_sem] Oper.semAt_some
theorem zs8 {us:List Int} {al:List Bool} (hu:∀ j,0≤us.getD j 0∧us.getD j 0≤1000):∀ k,0≤valB us al k∧valB us al k≤1000 * (k:Int)
 | 0=>by simp [valB]
 | k+1=>by
  have h:=zs8 (al:=al) hu k
  have h1:=hu k
  unfold valB
  split<;>omega
set_option maxRecDepth 100000 in
set_option maxHeartbeats 4000000 in
theorem z1d (ps:List (Value × Tk)) (al:List Bool) (p:Nat) (rv:Value) (ta:Option Addr) (tc:Nat) (w:World) (hs:SheetAt w p rv (.slice ta ps.length tc)) (ht:IsTks w (.slice ta ps.length tc) ps) (hl:ps.length≤10) (hu:∀ j,0≤(zam (zn ps)).getD j 0∧(zam (zn ps)).getD j 0≤1000) :
  Calls Tryz.prog 80 #[.pointer (some ⟨p,0,none⟩),.agg #[.int .i64 (mkI al 0),.int .i64 (mkI al 1),.int .i64 (mkI al 2),.int .i64 (mkI al 3),.int .i64 (mkI al 4),.int .i64 (mkI al 5),.int .i64 (mkI al 6),.int .i64 (mkI al 7),.int .i64 (mkI al 8),.int .i64 (mkI al 9)]] w fun e w' =>
   e = .returned (.int .i64 (valB (zam (zn ps)) al ps.length))∧Ext w w':=by
 have HS:=Lib.hid hs
 have HT:=Lib.hid ht
 have HU:=Lib.hid hu
 clear hs ht hu
 go_enter Tryz.func80,Tryz.ntmps80
 go_upto_region 1 with (fail)
 obtain ⟨W0,hW0⟩:∃ W0,W0=w.alloc (.cells #[.int .i64 (mkI al 0),.int .i64 (mkI al 1),.int .i64 (mkI al 2),.int .i64 (mkI al 3),.int .i64 (mkI al 4),.int .i64 (mkI al 5),.int .i64 (mkI al 6),.int .i64 (mkI al 7),.int .i64 (mkI al 8),.int .i64 (mkI al 9)] 140):=⟨_,rfl⟩
 have hE:Ext w W0:=by rw [hW0];exact xx
 have hM:MkAt 140 W0 w.heap.size (mkI al):=by rw [hW0];exact z3t _ w (mkI al)
 rw [← hW0]
 have c1:=zb hE HS.out.c1
 have hz:=World.block_lt_of_cell? _ _ c1
 simp only at hz
 have HM:=Lib.hid hM
 have HE:=Lib.hid hE
 clear hW0 hE hM
 go_wp2_with fail
 go_loopw [5,13] (fun nv iv W=>∃ k:Nat,k≤ps.length∧iv = .int .i64 k∧nv = .int .i64 (valB (zam (zn ps)) al k)∧Ext W0 W) (fun _ iv _=>ps.length - (intOf iv).toNat)
 case atStart=>exact ⟨0,by omega,rfl,rfl,Below.refl _ _⟩
 case round =>
  obtain ⟨k,hk,rfl,rfl,hEX⟩:=hrel
  obtain ⟨X,rfl⟩:∃ X,X=wr:=⟨_,rfl⟩
  have HEX:=Lib.hid hEX
  have hvb:=zs8 (al:=al) HU.out k
  have hub:=HU.out k
  by_cases hlt:k < ps.length
  ·have hki:(k:Int) < (ps.length:Int):=by omega
   obtain ⟨_,_,e9,-,-,hcc⟩:=(HT.out.ext (HE.out.trans' hEX)).spec
   cases e9
   rcases hcc with hc0 | ⟨tb,to,rfl,hcc⟩
   ·rw [hc0] at hlt;simp at hlt
   obtain ⟨t0,t1⟩:=hcc k hlt
   have zt:=World.block_lt_of_cell? _ _ t0
   simp only at zt
   obtain ⟨sb,sc,hsv,-,-,-⟩:=(HT.out.sets _ (List.getElem_mem hlt)).spec
   rw [hsv] at t0
   have hk10:k < 10:=by omega
   have hk10i:(k:Int) < 10:=by omega
   have cm:=zb hEX (HM.out.cell k hk10)
   have zm:=World.block_lt_of_cell? _ _ cm
   simp only at zm
   obtain ⟨u,hu⟩:∃ u,u=ps[k].2.u:=⟨_,rfl⟩
   have huu:(zam (zn ps)).getD k 0=u:=by
    rw [hu,List.getD_eq_getElem?_getD]
    simp [zam,zn,List.getElem?_eq_getElem hlt]
   rw [← hu] at t1
   obtain ⟨v,hv⟩:∃ v,v=valB (zam (zn ps)) al k:=⟨_,rfl⟩
   have hsu:valB (zam (zn ps)) al (k+1)=v+if al.getD k false=true then u else 0:=by rw [hv,← huu];rfl
   rw [huu] at hub
   rw [← hv] at hvb ⊢
   cases ha:al.getD k false
   ·have hmk:mkI al k=0:=by unfold mkI;rw [ha];rfl
    rw [hmk] at cm
    rw [ha] at hsu
    have HSU:Hid (valB (zam (zn ps)) al (k+1)=v):=Lib.hid (by rw [hsu];simp)
    clear hsu hmk ha hv hu huu hsv hcc hEX
    go_wp2_with fail
    go_roundw
    case rel=>exact ⟨k+1,by omega,by go_num,by rw [HSU.out],HEX.out.trans' (by exact xx)⟩
    case measure=>simp [intOf];omega
   ·have hmk:mkI al k=1:=by unfold mkI;rw [ha];rfl
    rw [hmk] at cm
    rw [ha] at hsu
    have HSU:Hid (valB (zam (zn ps)) al (k+1)=v+u):=Lib.hid (by rw [hsu];simp)
    have hw1:IntKind.i64.wrap (v+u)=v+u:=IntWalk.i64_in _ (by omega)
    clear hsu hmk ha hv hu huu hsv hcc hEX
    go_wp2_with fail
    go_roundw
    case rel=>exact ⟨k+1,by omega,by go_num,by rw [HSU.out],HEX.out.trans' (by exact xx)⟩
    case measure=>simp [intOf];omega
  ·have hki:¬ ((k:Int) < (ps.length:Int)):=by omega
   have hke:k=ps.length:=by omega
   obtain ⟨v,hv⟩:∃ v,v=valB (zam (zn ps)) al k:=⟨_,rfl⟩
   rw [← hv]
   have HVV:Hid (v=valB (zam (zn ps)) al ps.length):=Lib.hid (by rw [hv,hke])
   clear hEX hv hke hvb
   go_wp2_with fail
   go_ret
   exact ⟨zy HVV.out,HE.out.trans' HEX.out⟩
end Go.Proofs.YtkbaiobnibmmgaaGreat
