/-
  The walk of doom, over any graph, part one: what a table looks like in memory, its keys, and bound. (Chapter 1's walk, its halls made graphs.)
-/
import Derived.Test.YtnfdiohfojjnlaaGreatBb
import Derived.Test.YtnfdiohfojjnlaaGreatBa
import Derived.Test.YtnfdiohfojjnlaaGreatLh
import Derived.Test.YtnfdiohfojjnlaaGreatLf
import Derived.Test.YtnfdiohfojjnlaaGreatLg
set_option maxRecDepth 1000000
set_option maxHeartbeats 0
set_option linter.unusedSimpArgs false
set_option linter.unusedVariables false
namespace Go.Proofs.YtnfdiohfojjnlaaGreat
open Go.Lib (hid)
namespace Dg
open Go.RowKit Go.Shelf
structure DG where
 n:Nat
 st:Int→List Int
 nx:Int→List Int
 R:Int→Int
def gt (s:List Int) (i:Nat):Int:=s.getD i 0
theorem gt_get {l:List Int} {k:Nat} (h:k < l.length):l[k]=gt l k:=by unfold gt;rw [List.getD_eq_getElem?_getD,List.getElem?_eq_getElem h];rfl
def bndL (rows:Int→Int):Int→List Int→Option Int
 | n,[]=>some n
 | n,x :: l=>if rows x < 0 then none else bndL rows (max n (rows x+1)) l
structure DOk (g:DG):Prop where
 n1:g.n≤1000
 nx:∀ i x,0≤i→i < (g.n:Int)→x∈g.nx i→0≤x∧x < (g.n:Int)
 len:∀ i,0≤i→i < (g.n:Int)→(g.nx i).length≤1000
 rb:∀ i,0≤i→i < (g.n:Int)→-1≤g.R i∧g.R i < 1000
 yes:∀ i,0≤i→i < (g.n:Int)→0≤g.R i→bndL g.R 0 (g.nx i)=some (g.R i)
 no:∀ i,0≤i→i < (g.n:Int)→g.R i < 0→bndL g.R 0 (g.nx i)=none
def RowsOk (ks:DG) (rows:Int→Int):Prop:=∀ i,0≤i→i < (ks.n:Int)→rows i = -1∨(0≤rows i∧rows i=ks.R i)
theorem rowsOk_start (ks:DG):RowsOk ks (fun _=>-1):=fun _ _ _=>.inl rfl
theorem bndL_none {rows:Int→Int}:∀ {l:List Int} {n:Int},bndL rows n l=none↔∃ x∈l,rows x < 0
 | [],n=>by simp [bndL]
 | x :: l,n=>by
  unfold bndL
  by_cases h:rows x < 0
  ·rw [if_pos h];simp [h]
  ·rw [if_neg h,bndL_none]
   simp [h]
theorem zux {r r':Int→Int}:∀ {l:List Int} {n:Int},(∀ x∈l,r x=r' x)→bndL r n l=bndL r' n l
 | [],_,_=>rfl
 | x :: l,n,h=>by
  unfold bndL;rw [h x (by simp),zux fun y hy=>h y (by simp [hy])]
theorem zwm {r:Int→Int}:∀ {l:List Int} {n m:Int},bndL r n l=some m→n≤m∧∀ x∈l,0≤r x∧r x+1≤m
 | [],n,m,h=>by
  have:n=m:=by simpa [bndL] using h
  exact ⟨by omega,fun x hx=>by cases hx⟩
 | x :: l,n,m,h=>by
  unfold bndL at h
  split at h
  ·cases h
  ·obtain ⟨h1,h2⟩:=zwm h
   refine ⟨by omega,fun y hy=>?_⟩
   rcases List.mem_cons.1 hy with rfl | hy
   ·omega
   ·exact h2 y hy
theorem bnd_rk {ks:DG} (v:DOk ks) {rows:Int→Int} (h:RowsOk ks rows) {i m:Int} (hi:0≤i∧i < (ks.n:Int)) (e:bndL rows 0 (ks.nx i)=some m):0≤m∧m=ks.R i:=by
 have h1:=zwm e;have e2:bndL rows 0 (ks.nx i)=bndL ks.R 0 (ks.nx i):=zux fun x hx=>by
  have:=v.nx i x hi.1 hi.2 hx
  rcases h x this.1 this.2 with q | q
  ·have:=(h1.2 x hx).1;omega
  ·exact q.2
 rw [e2] at e;refine ⟨h1.1,?_⟩
 rcases Int.lt_or_le (ks.R i) 0 with q | q
 ·rw [v.no i hi.1 hi.2 q] at e;cases e
 ·rw [v.yes i hi.1 hi.2 q] at e;exact (Option.some.inj e).symm
theorem RowsOk.set {ks:DG} (v:DOk ks) {rows:Int→Int} (h:RowsOk ks rows) {i m:Int} (hi:0≤i∧i < (ks.n:Int)) (e:bndL rows 0 (ks.nx i)=some m):RowsOk ks (fun x=>if x=i then m else rows x):=fun x h0 h1=>by
 by_cases hx:x=i
 ·subst hx
  simp only [if_true];exact .inr (bnd_rk v h hi e)
 ·simp only [if_neg hx]
  exact h x h0 h1
theorem rows_all {ks:DG} (v:DOk ks) {rows:Int→Int} (h:RowsOk ks rows) (hn:∀ i,0≤i→i < (ks.n:Int)→rows i < 0→bndL rows 0 (ks.nx i)=none):∀ i,0≤i→i < (ks.n:Int)→rows i=ks.R i:=by
 suffices H:∀ (k:Nat) (i:Int),0≤i→i < (ks.n:Int)→0≤ks.R i→(ks.R i).toNat=k→rows i=ks.R i by
  intro i h0 h1
  rcases Int.lt_or_le (ks.R i) 0 with q | q
  ·rcases h i h0 h1 with e | ⟨e1,e2⟩
   ·have:=(v.rb i h0 h1).1;omega
   ·omega
  ·exact H _ i h0 h1 q rfl
 intro k
 induction k using Nat.strongRecOn with
 | _ k ih =>
  intro i h0 h1 hp hk
  rcases h i h0 h1 with e | ⟨_,e2⟩
  ·exfalso
   have hnone:=hn i h0 h1 (by omega);obtain ⟨x,hx,hneg⟩:=bndL_none.1 hnone;have hy:=zwm (v.yes i h0 h1 hp);have hxb:=v.nx i x h0 h1 hx;have hxr:=hy.2 x hx;have:=ih (ks.R x).toNat (by omega) x hxb.1 hxb.2 hxr.1 rfl;omega
  ·exact e2
theorem rows_bd {ks:DG} (v:DOk ks) {rows:Int→Int} (h:RowsOk ks rows) {i:Int} (h0:0≤i) (h1:i < (ks.n:Int)) : -1≤rows i∧rows i < 1000:=by
 rcases h i h0 h1 with e | ⟨_,e2⟩
 ·omega
 ·rw [e2];exact v.rb i h0 h1
theorem bndL_drop {rows:Int→Int} {l:List Int} {k:Nat} (hk:k < l.length) (n:Int):bndL rows n (l.drop k)=if rows (gt l k) < 0 then none else bndL rows (max n (rows (gt l k)+1)) (l.drop (k+1)):=by
 rw [List.drop_eq_getElem_cons hk,bndL,gt_get hk]
theorem nodup_le:∀ (N:Nat) (l:List Nat),l.Nodup→(∀ x∈l,x < N)→l.length≤N
 | 0,l,_,h=>by
  cases l with
  | nil=>simp
  | cons a t=>exact absurd (h a (by simp)) (by omega)
 | N+1,l,hn,h=>by
  by_cases hm:N∈l
  ·have h1:=nodup_le N (l.erase N) (hn.erase N) fun x hx=>by
    have:=(hn.mem_erase_iff).1 hx;have:=h x this.2;omega
   rw [List.length_erase_of_mem hm] at h1;omega
  ·have:=nodup_le N l hn fun x hx=>by
    have:=h x hx
    by_cases e:x=N
    ·subst e;exact absurd hx hm
    ·omega
   omega
theorem nodup_map {α β:Type} (f:α→β):∀ {l:List α},l.Nodup→(∀ x∈l,∀ y∈l,f x=f y→x=y)→(l.map f).Nodup
 | [],_,_=>by simp
 | a :: l,h,hi=>by
  rw [List.nodup_cons] at h;rw [List.map_cons,List.nodup_cons];refine ⟨fun hm=>?_,nodup_map f h.2 fun x hx y hy=>hi x (by simp [hx]) y (by simp [hy])⟩;obtain ⟨x,hx,e⟩:=List.mem_map.1 hm;have:=hi x (by simp [hx]) a (by simp) e;subst this;exact h.1 hx
def lst5 (a b c d e:Int):Value:=.agg #[.int .i64 a,.int .i64 b,.int .i64 c,.int .i64 d,.int .i64 e]
theorem equal_arr (n:Nat) (a b c d e a' b' c' d' e':Int) (w:World):(Op.equalIn (n+2) 69 (lst5 a b c d e) (lst5 a' b' c' d' e')).run Tryz.prog w = .ok (a == a' && (b == b' && (c == c' && (d == d' && e == e')))) w:=by
 have hi:∀ x y:Int,∀ w,(Op.equalIn (n+1) 3 (.int .i64 x) (.int .i64 y)).run Tryz.prog w = .ok (x == y) w:=fun x y w=>run_equalIn_int w n 3 .i64 .i64 x y (by kernel_rfl)
 rw [Op.equalIn];simp only [lst5,Sem.run_bind,Tryz.runUnderlying69,Result.andThen_ok];have hr:List.range' 0 5=[0,1,2,3,4]:=rfl
 by_cases e1:a=a'
 ·by_cases e2:b=b'
  ·by_cases e3:c=c'
   ·by_cases e4:d=d'
    ·by_cases e5:e=e'<;>simp [go_sem,hi,e1,e2,e3,e4,e5,hr]
    ·simp [go_sem,hi,e1,e2,e3,e4,hr]
   ·simp [go_sem,hi,e1,e2,e3,hr]
  ·simp [go_sem,hi,e1,e2,hr]
 ·simp [go_sem,hi,e1,hr]
def plc (a b c d e n:Int):Value:=.agg #[.int .i64 a,.int .i64 b,.int .i64 c,.int .i64 d,.int .i64 e,.int .i64 n]
theorem equal_plc (a b c d e m a' b' c' d' e' m':Int) (w:World):(Op.equal 112 (plc a b c d e m) (plc a' b' c' d' e' m')).run Tryz.prog w = .ok ((a == a' && (b == b' && (c == c' && (d == d' && e == e')))) && m == m') w:=by
 simp only [Op.equal,Op.maxDepth,plc];rw [run_equalIn_struct w 9999 112 _ _ (by kernel_rfl) (by kernel_rfl)]
 have hf : (Tryz.prog.fieldsOf 112).toList = [⟨"at", 69, 0, false, "", "quinella/turn", 0⟩, ⟨"number", 3, 5, false, "", "quinella/turn", 40⟩] := by kernel_rfl
 rw [hf];have hq:=fun w=>equal_arr 9997 a b c d e a' b' c' d' e' w
 simp only [lst5] at hq;cases hb:(a == a' && (b == b' && (c == c' && (d == d' && e == e'))))
 ·rw [hb] at hq
  simp [go_sem,hq]
 ·rw [hb] at hq
  by_cases e1:m=m'<;>simp [go_sem,hq,e1]
theorem check_arr (b:Bool) (n:Nat) (a1 a2 a3 a4 a5:Int) (w:World):(Instr.checkKey b (n+2) 69 (lst5 a1 a2 a3 a4 a5)).run Tryz.prog w = .ok () w:=by
 have h3:∀ x w,(Instr.checkKey b (n+1) 3 (.int .i64 x)).run Tryz.prog w = .ok () w:=fun x w=>by
  rw [Instr.checkKey];simp [go_sem]
 have hr:List.range' 0 5=[0,1,2,3,4]:=rfl;rw [Instr.checkKey];simp only [lst5,Sem.run_bind,Tryz.runUnderlying69,Result.andThen_ok];simp [go_sem,h3,hr]
theorem check_plc (b:Bool) (n:Nat) (a1 a2 a3 a4 a5 m:Int) (w:World):(Instr.checkKey b (n+3) 112 (plc a1 a2 a3 a4 a5 m)).run Tryz.prog w = .ok () w:=by
 have h3:∀ x w,(Instr.checkKey b (n+2) 3 (.int .i64 x)).run Tryz.prog w = .ok () w:=fun x w=>by
  rw [Instr.checkKey];simp [go_sem]
 have h4:=fun w=>check_arr b n a1 a2 a3 a4 a5 w
 simp only [lst5] at h4;rw [Instr.checkKey];simp only [plc,Sem.run_bind,Tryz.runUnderlying112,Result.andThen_ok];simp [go_sem,h3,h4]
def pk (ks:DG) (n:Int):Value:=plc (gt (ks.st n) 0) (gt (ks.st n) 1) (gt (ks.st n) 2) (gt (ks.st n) 3) (gt (ks.st n) 4) n
def one (_:Unit):Value:=.int .i64 1
theorem equal_pk (ks:DG) (a b:Int) (w:World):(Op.equal 112 (pk ks a) (pk ks b)).run Tryz.prog w = .ok (decide (a=b)) w:=by
 unfold pk;rw [equal_plc]
 by_cases e:a=b
 ·subst e;simp
 ·simp [e]
theorem find_pk (ks:DG) (k:Int) (l:zae Int Unit) (w:World):(Instr.findKey 112 (pk ks k) (l.map (zar (pk ks) one))).run Tryz.prog w = .ok (zbd one k l 0) w:=by
 have h:∀ (l:zae Int Unit) (i:Nat),(Instr.findAsking 112 (pk ks k) (l.map (zar (pk ks) one)) i).run Tryz.prog w = .ok (zbd one k l i) w:=by
  intro l
  induction l with
  | nil=>intro i;rfl
  | cons e l ih =>
   intro i;simp only [List.map_cons,Instr.findAsking,zbd,zar,Sem.run_bind,equal_pk,Result.andThen_ok]
   by_cases hk:e.1=k
   ·subst hk;simp
   ·have:¬ k=e.1:=fun h=>hk h.symm
    simp only [hk,this,decide_false,Bool.false_eq_true,if_false];exact ih (i+1)
 cases l with
 | nil=>simp [Instr.findKey,go_sem,Instr.findNow,zbd]
 | cons e l =>
  have:=h (e :: l) 0;simp only [Instr.findKey,Sem.run_bind,Tryz.runUnderlying112,Result.andThen_ok,List.map_cons,Instr.findNow,zar,pk,plc,Instr.sameNow] at this ⊢;exact this
theorem place_keyed (ks:DG):Keyed Tryz.prog 76 112 3 (pk ks) one where
 und:=by kernel_rfl
 chk:=fun b k w=>check_plc b 9997 _ _ _ _ _ _ w
 find:=find_pk ks
 stay:=fun k=>by
  have:∀ n:Nat,Instr.sameBits (n+2) (pk ks k) (pk ks k)=true:=fun n=>by simp [Instr.sameBits,pk,plc]
  exact this 9998
def Ints (W:World) (v:Value) (l:List Int):Prop:=∃ sa cap,v = .slice sa l.length cap∧True∧True∧(l=[]∨∃ b off,sa=some ⟨b,off,none⟩∧∀ i (h:i < l.length),W.cell? ⟨b,off+i,none⟩=some (.int .i64 l[i]))
theorem Ints.spec {W:World} {v:Value} {l:List Int} (h:Ints W v l):∃ sa cap,v = .slice sa l.length cap∧True∧True∧(l=[]∨∃ b off,sa=some ⟨b,off,none⟩∧∀ i (h:i < l.length),W.cell? ⟨b,off+i,none⟩=some (.int .i64 l[i])):=h
theorem Ints.kept {S:Nat→Prop} {w w':World} (k:Kept S w w') {v:Value} {l:List Int} (hb:∀ g,v.ownBlock=some g→S g) (h:Ints w v l):Ints w' v l:=by
 obtain ⟨sa,cap,h1,_,_,h4⟩:=h;refine ⟨sa,cap,h1,trivial,trivial,?_⟩
 rcases h4 with h4 | ⟨b,off,e,h4⟩
 ·exact .inl h4
 ·exact .inr ⟨b,off,e,fun i hi=>k.cell (h4 i hi) (hb b (by rw [h1,e];rfl))⟩
def TNx (W:World) (p po:Nat) (ks:DG):Prop:=∃ b off cap,W.cell? ⟨p,po+2,none⟩=some (.slice (some ⟨b,off,none⟩) ks.n cap)∧ks.n≤cap ∧
 ∀ i,i < ks.n→∃ sa cp,W.cell? ⟨b,off+i,none⟩=some (.slice sa (ks.nx i).length cp)∧Ints W (.slice sa (ks.nx i).length cp) (ks.nx i)
def TRw (W:World) (p po:Nat) (ks:DG) (rows:Int→Int):Prop:=∃ b off cap,W.cell? ⟨p,po+3,none⟩=some (.slice (some ⟨b,off,none⟩) ks.n cap)∧ks.n≤cap ∧
 ∀ i,i < ks.n→W.cell? ⟨b,off+i,none⟩=some (.int .i64 (rows i))
def bndV (o:Option Int):Value:=match o with
 | none=>.tuple #[.int .i64 0,.bool false]
 | some m=>.tuple #[.int .i64 m,.bool true]
theorem bound_any (ks:DG) (rows:Int→Int) (p po i:Nat) (w:World) (v:DOk ks) (hi:i < ks.n) (hrb:∀ x:Int,0≤x→x < (ks.n:Int)→-1≤rows x∧rows x < 1000) (hn:TNx w p po ks) (hr:TRw w p po ks rows) :
  Calls Tryz.prog 121 #[.pointer (some ⟨p,po,none⟩),.int .i64 i] w fun e W=>e = .returned (bndV (bndL rows 0 (ks.nx i)))∧Ext w W:=by
 obtain ⟨b,off,cap,c2,h1,hb⟩:=hn;obtain ⟨rb,ro,rc,c3,h3,hrr⟩:=hr;obtain ⟨sa,cp,ci,hs⟩:=hb i hi;have hN:=v.n1;have hlen:=v.len i (by omega) (by omega);have hmem:=fun x hx=>v.nx i x (by omega) (by omega) hx
 obtain ⟨l,hl⟩:∃ l,l=ks.nx i:=⟨_,rfl⟩
 rw [← hl] at ci hs hlen hmem ⊢;obtain ⟨_,_,e,h5,h6,hcc⟩:=hs.spec;cases e;have HS:=hid hs;have HM:=hid hmem;have HRR:=hid hrr;have HRB:=hid hrb;have hii:(i:Int) < (ks.n:Int):=by omega
 clear hb hs hmem hrr hrb hl v hcc
 go_enter Tryz.func121,Tryz.ntmps121
 go_wp2_with fail
 go_loopw [6,17] (fun nv j W=>∃ (k:Nat) (m:Int),k≤l.length∧nv = .int .i64 m∧j = .int .i64 k∧0≤m∧m≤1000∧bndL rows 0 l=bndL rows m (l.drop k)∧W=w) (fun _ j _=>l.length - (intOf j).toNat)
 case atStart=>exact ⟨0,0,by omega,rfl,rfl,by omega,by omega,by simp,rfl⟩
 case round =>
  obtain ⟨k,m,hk,rfl,rfl,hm0,hm1,hm,rfl⟩:=hrel
  by_cases hlt:k < l.length
  ·rcases HS.out.spec with ⟨sa',cap',e,-,-,hcc⟩
   cases e
   rcases hcc with hcc | ⟨lb,lo,rfl,hcc⟩
   ·rw [hcc] at hlt;simp at hlt
   have d0:=hcc k hlt;have hxm:=HM.out l[k] (List.getElem_mem hlt);rw [gt_get hlt] at d0 hxm;have hst:=bndL_drop (rows:=rows) hlt m;have hki:(k:Int) < (l.length:Int):=by omega
   obtain ⟨X,hX⟩:∃ X:Nat,gt l k=(X:Int):=⟨(gt l k).toNat,by omega⟩
   rw [hX] at d0 hxm hst;have hXn:X < ks.n:=by omega
   have hXi:(X:Int) < (ks.n:Int):=by omega
   have e0:=HRR.out X hXn;have eb:=HRB.out X hxm.1 hxm.2;obtain ⟨r,hr⟩:∃ r,r=rows X:=⟨_,rfl⟩
   rw [← hr] at e0 eb hst
   by_cases hneg:r < 0
   ·rw [if_pos hneg] at hst
    have hd:decide (r < 0)=true:=decide_eq_true hneg;have HF:=hid (hm.trans hst);clear hcc hr hm hst hX;go_wp2_with fail;refine bodyPost_ret (v:=.tuple #[.int .i64 0,.bool false]) (by simp [results,Tryz.results121,go_sem]) rfl ⟨by rw [HF.out];rfl,Below.refl _ _⟩
   ·rw [if_neg hneg] at hst
    have hd:decide (r < 0)=false:=decide_eq_false hneg;have HF:=hid (hm.trans hst);clear hcc hr hm hst hX;have hmx:0≤max m (r+1)∧max m (r+1)≤1000:=by omega
    go_wp2_with fail;go_roundw
    case rel=>exact ⟨k+1,max m (r+1),by omega,by simp;split<;>omega,by go_num,hmx.1,hmx.2,HF.out,trivial⟩
    case measure=>simp [intOf];omega
  ·obtain rfl:k=l.length:=by omega
   rw [List.drop_length] at hm;have HF:=hid hm;clear hm;go_wp2_with fail;refine bodyPost_ret (v:=.tuple #[.int .i64 m,.bool true]) (by simp [results,Tryz.results121,go_sem]) rfl ⟨by rw [HF.out];rfl,Below.refl _ _⟩
end Dg
end Go.Proofs.YtnfdiohfojjnlaaGreat
namespace Go.Proofs.YtnfdiohfojjnlaaGreat
open Go.Lib (hid)
namespace Dg
open Go.RowKit Go.Shelf
attribute [local go_sem] Oper.semAt_some
theorem zabn {S T:Nat→Prop} {w a b:World} (h:Kept S w a) (k:Kept T a b) (hs:∀ j,j < w.heap.size→S j→T j):Kept S w b :=
 ⟨k.os.trans h.os,k.tape.trans h.tape,k.output.trans h.output,Nat.le_trans h.size k.size,fun j hj hsj=>(k.same j (Nat.lt_of_lt_of_le hj h.size) (hs j hj hsj)).trans (h.same j hj hsj)⟩
def TNxS (S:Nat→Prop) (W:World) (p po:Nat) (ks:DG):Prop:=∃ b off cap,W.cell? ⟨p,po+2,none⟩=some (.slice (some ⟨b,off,none⟩) ks.n cap)∧ks.n≤cap∧S b∧S p ∧
 ∀ i,i < ks.n→∃ sa cp,W.cell? ⟨b,off+i,none⟩=some (.slice sa (ks.nx i).length cp)∧Ints W (.slice sa (ks.nx i).length cp) (ks.nx i)∧∀ g,(Value.slice sa (ks.nx i).length cp).ownBlock=some g→S g
theorem TNxS.at {S:Nat→Prop} {W:World} {p po:Nat} {ks:DG} (h:TNxS S W p po ks):TNx W p po ks:=by
 obtain ⟨b,off,cap,h1,h2,_,_,h4⟩:=h;exact ⟨b,off,cap,h1,h2,fun i hi=>by obtain ⟨sa,cp,a,c,_⟩:=h4 i hi;exact ⟨sa,cp,a,c⟩⟩
theorem TNxS.kept {S:Nat→Prop} {W W':World} {p po:Nat} {ks:DG} (h:TNxS S W p po ks) (k:Kept S W W'):TNxS S W' p po ks:=by
 obtain ⟨b,off,cap,h1,h2,hb,hp,h4⟩:=h;refine ⟨b,off,cap,k.cell h1 hp,h2,hb,hp,fun i hi=>?_⟩;obtain ⟨sa,cp,a,c,d⟩:=h4 i hi;exact ⟨sa,cp,k.cell a hb,Ints.kept k d c,d⟩
def RowB (W:World) (rb ro sz:Nat) (ks:DG) (rows:Int→Int):Prop:=∃ (cur:Array Value) (e:Nat),W.heap[rb]? = some (.cells cur e (0,0))∧cur.size=sz∧∀ i:Nat,i < ks.n→cur[ro+i]? = some (.int .i64 (rows i))
theorem RowB.of_heap {W W':World} {rb ro sz:Nat} {ks:DG} {rows:Int→Int} (h:RowB W rb ro sz ks rows) (e:W'.heap[rb]? = W.heap[rb]?):RowB W' rb ro sz ks rows:=by
 obtain ⟨cur,t,h1,h2⟩:=h;exact ⟨cur,t,e.trans h1,h2⟩
theorem RowB.lt {W:World} {rb ro sz:Nat} {ks:DG} {rows:Int→Int} (h:RowB W rb ro sz ks rows):rb < W.heap.size:=by
 obtain ⟨cur,t,h1,h2⟩:=h;exact (Array.getElem?_eq_some_iff.1 h1).1
theorem RowB.rw {W:World} {rb ro sz p po rc:Nat} {ks:DG} {rows:Int→Int} (h:RowB W rb ro sz ks rows) (c3:W.cell? ⟨p,po+3,none⟩=some (.slice (some ⟨rb,ro,none⟩) ks.n rc)) (h1:ks.n≤rc):TRw W p po ks rows:=by
 obtain ⟨cur,t,h3,_,h4⟩:=h;exact ⟨rb,ro,rc,c3,h1,fun i hi=>by rw [cell_of_row _ _ _ _ _ _ h3];exact h4 i hi⟩
theorem RowB.set {W:World} {rb ro sz:Nat} {ks:DG} {rows:Int→Int} (h:RowB W rb ro sz ks rows) (i:Nat) (m:Int):RowB (W.setCell ⟨rb,ro+i,none⟩ (.int .i64 m)) rb ro sz ks (fun x=>if x=(i:Int) then m else rows x):=by
 obtain ⟨cur,t,h1,h0,h2⟩:=h;refine ⟨_,t,zp h1 (ro+i) _,by rw [Array.size_setIfInBounds,h0],fun j hj=>?_⟩
 by_cases e:j=i
 ·subst e
  simp only [if_true];rw [ztj _ (Array.getElem?_eq_some_iff.1 (h2 j hj)).1]
 ·have:((j:Int)=(i:Int))=False:=eq_false (by omega)
  simp only [this,if_false];rw [Array.getElem?_setIfInBounds,if_neg (fun h=>e (by omega)),h2 j hj]
def FofR (ks:DG) (rows:Int→Int):Int→Option Unit:=fun i=>if 0≤i∧i < (ks.n:Int)∧rows i < 0 then some () else none
theorem fofR_some {ks:DG} {rows:Int→Int} {i:Int} {u:Unit} (h:FofR ks rows i=some u):0≤i∧i < (ks.n:Int)∧rows i < 0:=by
 unfold FofR at h
 split at h
 ·assumption
 ·cases h
theorem fofR_of {ks:DG} {rows:Int→Int} {i:Int} (h:0≤i∧i < (ks.n:Int)∧rows i < 0):FofR ks rows i=some ():=by unfold FofR;rw [if_pos h]
def cntW (W:World) (rb ro:Nat) (ks:DG):Nat :=
 match W.heap[rb]? with
 | some (.cells cur _ _)=>((List.range ks.n).filter fun i=>match cur[ro+i]? with | some (Value.int _ n)=>decide (n < 0) | _=>false).length
 | _=>0
theorem cntW_eq {W:World} {rb ro sz:Nat} {ks:DG} {rows:Int→Int} (h:RowB W rb ro sz ks rows):cntW W rb ro ks=((List.range ks.n).filter fun (i:Nat)=>decide (rows i < 0)).length:=by
 obtain ⟨cur,t,h1,_,h2⟩:=h;unfold cntW;rw [h1];simp only
 congr 1
 refine List.filter_congr fun i hi=>?_
 rw [h2 i (List.mem_range.1 hi)]
theorem cnt_lt {ks:DG} {rows rows1:Int→Int} (hle:∀ i:Nat,rows1 i < 0→rows i < 0) {i:Nat} (hi:i < ks.n) (h0:rows i < 0) (h1:¬ rows1 i < 0) :
  ((List.range (ks.n)).filter fun (i:Nat)=>decide (rows1 i < 0)).length < ((List.range (ks.n)).filter fun (i:Nat)=>decide (rows i < 0)).length:=by
 have e:((List.range (ks.n)).filter fun (i:Nat)=>decide (rows1 i < 0))=((List.range (ks.n)).filter fun (i:Nat)=>decide (rows i < 0)).filter fun (i:Nat)=>decide (rows1 i < 0):=by
  rw [List.filter_filter];refine List.filter_congr fun a _=>?_
  rw [Bool.eq_iff_iff];simp;exact hle a
 rw [e];exact List.length_filter_lt_length_iff_exists.2 ⟨i,List.mem_filter.2 ⟨by simpa using hi,by simpa using h0⟩,by simpa using h1⟩
section
variable {K V:Type} [DecidableEq K]
theorem getE_mem {es:zae K V} (ho:zcg es) {e:K × V × Nat} (he:e∈es):zc3 es e.1=some e.2.1:=by
 unfold zc3;cases h:es.find? fun x=>decide (x.1=e.1) with
 | none=>rw [List.find?_eq_none] at h;have:=h e he;simp at this
 | some x =>
  have h1:=List.find?_some h;have h2:=List.mem_of_find?_eq_some h;have:x=e:=zb6 _ _ ho x h2 e he (by simpa using h1);rw [this];rfl
theorem mem_getE {es:zae K V} {k:K} {v:V} (h:zc3 es k=some v):∃ e∈es,e.1=k:=by
 unfold zc3 at h;obtain ⟨x,hx,_⟩:=Option.map_eq_some_iff.1 h;exact ⟨x,List.mem_of_find?_eq_some hx,by simpa using List.find?_some hx⟩
end
def RoundR (ks:DG) (rows0 rows:Int→Int) (l:List Int):Prop:=RowsOk ks rows∧(∀ i∈l,0≤i∧i < (ks.n:Int)∧rows0 i < 0∧0≤rows i)∧∀ i,i ∉ l→rows i=rows0 i
theorem RoundR.start {ks:DG} {rows:Int→Int} (h:RowsOk ks rows):RoundR ks rows rows []:=⟨h,fun i hi=>(by cases hi),fun _ _=>rfl⟩
theorem RoundR.more {ks:DG} (v:DOk ks) {rows0 rows:Int→Int} {l:List Int} (h:RoundR ks rows0 rows l) {i m:Int} (hi:0≤i∧i < (ks.n:Int)∧rows0 i < 0) (e:bndL rows 0 (ks.nx i)=some m) :
  RoundR ks rows0 (fun x=>if x=i then m else rows x) (l ++ [i]):=by
 obtain ⟨a,_⟩:=bnd_rk v h.1 ⟨hi.1,hi.2.1⟩ e;refine ⟨h.1.set v ⟨hi.1,hi.2.1⟩ e,fun x hx=>?_,fun x hx=>?_⟩
 ·by_cases hxi:x=i
  ·subst hxi;simp only [if_true];exact ⟨hi.1,hi.2.1,hi.2.2,a⟩
  ·simp only [if_neg hxi]
   exact h.2.1 x (by simpa [hxi] using hx)
 ·have hxi:x≠i:=fun e=>hx (by simp [e])
  simp only [if_neg hxi];exact h.2.2 x (fun hh=>hx (by simp [hh]))
theorem RoundR.fof {ks:DG} {rows0 rows:Int→Int} {l:List Int} (h:RoundR ks rows0 rows l) (k:Int):(if k∈l then none else FofR ks rows0 k)=FofR ks rows k:=by
 by_cases hk:k∈l
 ·rw [if_pos hk]
  unfold FofR;rw [if_neg (fun hh=>by have:=h.2.1 k hk;omega)]
 ·rw [if_neg hk]
  unfold FofR;rw [h.2.2 k hk]
def esX (es0:zae Int Unit) (rows:Int→Int):zae Int Unit:=es0.filter fun e=>decide (rows e.1 < 0)
structure EsOk (ks:DG) (es0:zae Int Unit) (c:Nat):Prop where
 once:zcg es0
 borns:zcd es0 c
 rng:∀ e∈es0,0≤e.1∧e.1 < (ks.n:Int)
 all:∀ i:Int,0≤i→i < (ks.n:Int)→∃ e∈es0,e.1=i
theorem zkz {es:zae Int Unit} (h:zcg es) (p:Int × Unit × Nat→Bool):zcg (es.filter p):=by
 unfold zcg at *;exact List.Nodup.sublist (List.Sublist.map _ List.filter_sublist) h
theorem zqt {es:zae Int Unit} {c:Nat} (h:zcd es c) (p:Int × Unit × Nat→Bool):zcd (es.filter p) c :=
 ⟨List.Nodup.sublist (List.Sublist.map _ List.filter_sublist) h.1,fun e he=>h.2 e (List.mem_filter.1 he).1⟩
theorem zadf {ks:DG} {es0:zae Int Unit} {c:Nat} (h:EsOk ks es0 c) (rows:Int→Int) (k:Int):zc3 (esX es0 rows) k=FofR ks rows k:=by
 unfold FofR
 split
 ·rename_i hk
  obtain ⟨e,he,h1⟩:=h.all k hk.1 hk.2.1;have:e∈esX es0 rows:=List.mem_filter.2 ⟨he,by rw [h1];simpa using hk.2.2⟩;have:=getE_mem (es:=esX es0 rows) (zkz h.once _) this;rw [h1] at this;rw [this]
 ·rename_i hk
  cases hg:zc3 (esX es0 rows) k with
  | none=>rfl
  | some v =>
   exfalso;obtain ⟨e,he,h1⟩:=mem_getE hg;obtain ⟨h2,h3⟩:=List.mem_filter.1 he;have h4:=h.rng e h2;rw [h1] at h4 h3;exact hk ⟨h4.1,h4.2,by simpa using h3⟩
theorem z8n {ks:DG} {es0:zae Int Unit} {c:Nat} (h:EsOk ks es0 c) {r r':Int→Int} (e:∀ i,0≤i→i < (ks.n:Int)→r i=r' i):esX es0 r=esX es0 r' :=
 List.filter_congr fun x hx=>by rw [e x.1 (h.rng x hx).1 (h.rng x hx).2]
theorem zadg {ks:DG} {es0:zae Int Unit} {rows0 rows:Int→Int} {l:List Int} (h:RoundR ks rows0 rows l):(esX es0 rows0).filter (fun e=>decide (e.1 ∉ l))=esX es0 rows:=by
 unfold esX;rw [List.filter_filter];refine List.filter_congr fun e _=>?_
 by_cases hl:e.1∈l
 ·have:=h.2.1 _ hl
  have h2:¬ rows e.1 < 0:=by omega
  simp [hl,h2]
 ·rw [h.2.2 _ hl];simp [hl]
theorem zaa6 {es:zae Int Unit} {l:List Int} {j:Nat} (hj:j < l.length):zd3 l[j] (es.filter fun e=>decide (e.1 ∉ l.take j))=es.filter fun e=>decide (e.1 ∉ l.take (j+1)):=by
 unfold zd3;rw [List.filter_filter];refine List.filter_congr fun e _=>?_
 rw [List.take_add_one,List.getElem?_eq_getElem hj];rw [Bool.eq_iff_iff];simp only [Bool.and_eq_true,decide_eq_true_eq,List.mem_append,Option.toList_some,List.mem_singleton,not_or]
 constructor<;>rintro ⟨a,b⟩<;>exact ⟨b,a⟩
def plRow (ks:DG) (i:Int):List Value:=[.int .i64 (gt (ks.st i) 0),.int .i64 (gt (ks.st i) 1),.int .i64 (gt (ks.st i) 2),.int .i64 (gt (ks.st i) 3),.int .i64 (gt (ks.st i) 4),.int .i64 i]
theorem elPl:El 195 112 6:=El.mk' (bytes:=48) (z:=plc 0 0 0 0 0 0) (by kernel_rfl) (by kernel_rfl) rfl (by omega) (by omega)
theorem doom_in (ks:DG) (p po M rb ro sz rc:Nat) (es0:zae Int Unit) (c:Nat) (w:World) (v:DOk ks) (hE0:EsOk ks es0 c) (hn:TNxS (fun k=>k≠rb∧k≠M) w p po ks) (c3:w.cell? ⟨p,po+3,none⟩=some (.slice (some ⟨rb,ro,none⟩) ks.n rc)) (hrc:ks.n≤rc)
  (c4:w.cell? ⟨p,po+4,none⟩=some (.map (some M))) (hr:RowB w rb ro sz ks (fun _=>-1)) (hm:IsMap (pk ks) one w M es0 c) :
  CallsIn Fence.wide 9 Tryz.prog 65 #[.pointer (some ⟨p,po,none⟩)] w fun e W=>e = .returned (.tuple #[])∧Kept (fun k=>k≠rb∧k≠M) w W∧RowB W rb ro sz ks ks.R∧IsMap (pk ks) one W M (esX es0 ks.R) c:=by
 have hpS:p≠rb∧p≠M:=by obtain ⟨_,_,_,_,_,_,h,_⟩:=hn;exact h
 have hz:p < w.heap.size:=World.block_lt_of_cell? _ _ c3;have hzr:=hr.lt;have hzm:=(Array.getElem?_eq_some_iff.1 hm).1;have hN:=v.n1;have hMr:M≠rb:=fun e=>by
  obtain ⟨cur,t,h1,_⟩:=hr;unfold IsMap at hm;rw [e,h1] at hm;cases hm
 have HN:=hid hn;have HR:=hid hr;have HM:=hid hm;have V:=hid v;have E0:=hid hE0;have hm0:IsMap (pk ks) one w M (esX es0 fun _=>-1) c:=by
  have:esX es0 (fun _=>-1)=es0:=List.filter_eq_self.2 fun e _=>by simp
  rw [this];exact hm
 have HM0:=hid hm0;clear hn hr hm v hE0 hm0;refine callsIn_of_wp_marks Tryz.func65 rfl trivial ?_ rfl;simp only [Tryz.ntmps65,List.size_toArray,List.length_cons,List.length_nil,Nat.reduceAdd,Nat.reduceSub,Array.replicate_succ,Array.replicate_zero,List.push_toArray,List.append_toArray,List.nil_append,List.cons_append]
 gi_wp2
 gi_loopw [2] (fun _ W=>∃ rows,RowsOk ks rows∧Kept (fun k=>k≠rb∧k≠M) w W∧RowB W rb ro sz ks rows∧IsMap (pk ks) one W M (esX es0 rows) c) (fun _ W=>cntW W rb ro ks)
 case atStart=>exact ⟨_,rowsOk_start ks,Kept.refl _ _,HR.out,HM0.out⟩
 case round =>
  obtain ⟨rows0,hok,hkp,hrow,hmap⟩:=hrel;obtain ⟨es,hes⟩:∃ es,es=esX es0 rows0:=⟨_,rfl⟩
  have hget:∀ k,zc3 es k=FofR ks rows0 k:=fun k=>by rw [hes];exact zadf E0.out rows0 k
  have ho:zcg es:=by rw [hes];exact zkz E0.out.once _
  have hbn:zcd es c:=by rw [hes];exact zqt E0.out.borns _
  rw [← hes] at hmap;have hm1:=hmap;have HES:=hid hes;clear hes hmap;have c4':=hkp.cell c4 hpS;have hrg:=zhx (place_keyed ks) hm1;have hsz:=hkp.size;have ROW0:=hid hrow;have HK0:=hid hkp;have HOK0:=hid hok;have HM1:=hid hm1;have HO:=hid ho;have HBN:=hid hbn;have HGET:=hid hget;clear hm1 ho hbn hget hrow hkp hok;gi_wp2_with fail;clear hrg;obtain ⟨w6,rfl⟩:∃ w6:World,w6=wr:=⟨_,rfl⟩
  have hzi:w6.heap.size < (w6.alloc (.mapIter (some M) c #[] c)).heap.size:=by simp
  gi_loopw [2] (fun fv W=>∃ (seen:Array Nat) (l:List Int) (rows:Int→Int),Owns W w.heap.size 112 6 fv (l.map (plRow ks))∧IsMap (pk ks) one W M es c∧W.heap[w6.heap.size]? = some (.mapIter (some M) c seen c) ∧
    Kept (fun k=>k≠rb∧k≠M) w W∧RowB W rb ro sz ks rows∧RoundR ks rows0 rows l∧l.Nodup∧(∀ i∈l,∃ e∈es,e.1=i∧e.2.2∈seen)∧(l=[]→∀ e∈es,e.2.2∈seen→bndL rows0 0 (ks.nx e.1)=none))
   (fun _ W=>zck es w6.heap.size W)
  case atStart =>
   refine ⟨#[],[],rows0,Owns.nil _ _ _ _,(Below.heap_alloc _ _ _ (Array.getElem?_eq_some_iff.1 HM1.out).1).trans HM1.out,World.alloc_heap_new _ _,HK0.out.alloc _,ROW0.out.of_heap (Below.heap_alloc _ _ _ ROW0.out.lt),RoundR.start HOK0.out,List.Pairwise.nil,fun i hi=>(by cases hi),fun _ e _ h=>(by simp at h)⟩
  case round =>
   obtain ⟨seen,l,rows,hown,hm1,hit,hkp,hrow,hrnd,hnd,hls,hnone⟩:=hrel;obtain ⟨fa,fn,fc,rfl⟩:=hown.isSlice;have c3':=hkp.cell c3 hpS;have c4':=hkp.cell c4 hpS;have hszr:=hkp.size;have hzir:=(Array.getElem?_eq_some_iff.1 hit).1
   rcases zjg (P:=Tryz.prog) hm1 hit (fun e he=>HBN.out.2 e he) with ⟨hall,hrun⟩ | ⟨e,he,hs,W2,hheap,hos,htape,hout,hrun⟩
   ·have hlen:=hown.form
    obtain ⟨_,_,e,hfc,hfc2,hcells⟩:=hlen;cases e;have HALL:=hid hall;have HOWN:=hid hown;have HM1r:=hid hm1;have HKP:=hid hkp;have HROW:=hid hrow;have HRND:=hid hrnd;have HNONE:=hid hnone;clear hall hown hm1 hit hkp hrow hrnd hnd hls hnone
    by_cases hl:l=[]
    ·have HL:=hid hl
     subst hl;gi_wp2_with fail;have hneg:∀ i,0≤i→i < (ks.n:Int)→rows0 i < 0→bndL rows0 0 (ks.nx i)=none:=fun i h0 h1 h2=>by
      obtain ⟨x,hx,rfl⟩:=mem_getE ((HGET.out i).trans (fofR_of ⟨h0,h1,h2⟩));exact HNONE.out trivial x hx (HALL.out x hx)
     have hfin:=rows_all V.out HOK0.out hneg;have hrr:rows=rows0:=funext fun y=>HRND.out.2.2 y (by simp)
     refine ⟨_,results_none rfl _ _ _,rfl,HKP.out,?_,?_⟩
     ·obtain ⟨cur,t,h1,h0,h2⟩:=HROW.out
      refine ⟨cur,t,h1,h0,fun i hi=>?_⟩;rw [h2 i hi,hrr,hfin i (by omega) (by omega)]
     ·have:esX es0 ks.R=es:=by rw [HES.out];exact z8n E0.out fun i h0 h1=>(hfin i h0 h1).symm
      rw [this];exact HM1r.out
    ·obtain ⟨L,hL⟩:∃ L,L=l.length:=⟨_,rfl⟩
     rw [List.length_map] at hfc;simp only [List.length_map] at HOWN ⊢;rw [← hL] at hfc HOWN ⊢;have hLp:0 < L:=by rw [hL];exact List.length_pos_iff.2 hl
     have hLI:((L:Int) == 0)=false:=by simp;omega
     have HLL:=hid hL;have HLN:=hid hl;clear hL hl hcells;gi_wp2_with fail
     gi_loopw [42] (fun jv W=>∃ j:Nat,j≤L∧jv = .int .i64 j∧Kept (fun k=>k≠rb∧k≠M) w W∧RowB W rb ro sz ks rows∧Owns W w.heap.size 112 6 (.slice fa L fc) (l.map (plRow ks))∧IsMap (pk ks) one W M (es.filter fun e=>decide (e.1 ∉ l.take j)) c) (fun jv _=>L - (intOf jv).toNat)
     case atStart=>exact ⟨0,by omega,rfl,HKP.out,HROW.out,HOWN.out,by
      have:(es.filter fun e=>decide (e.1 ∉ l.take 0))=es:=List.filter_eq_self.2 fun e _=>by simp
      rw [this];exact HM1r.out⟩
     case round =>
      obtain ⟨j,hj,rfl,hkp,hrow,hown,hmap⟩:=hrel
      by_cases hlt:j < L
      ·have hjl:j < l.length:=by have:=HLL.out;omega
       have hji:(j:Int) < (L:Int):=by omega
       obtain ⟨fa',fc',e,_,_,hcells⟩:=hown.form;simp only [Value.slice.injEq] at e;obtain ⟨rfl,-,rfl⟩:=e
       rcases hcells with ⟨h0,_⟩ | ⟨fb,rfl,hfb,hfb2,hcells,hfro⟩
       ·exact absurd (List.map_eq_nil_iff.1 h0) HLN.out
       have hrow6:∀ t (ht:t < 6),wr.cell? ⟨fb,j * 6+t,none⟩=some ((plRow ks l[j])[t]'(by simp [plRow];exact ht)):=fun t ht=>by
        have:=hcells j (by simpa using hjl) t (by simp [plRow];exact ht);rw [Nat.zero_add] at this;rw [this];simp
       obtain ⟨y,hy⟩:∃ y,y=l[j]:=⟨_,rfl⟩
       rw [← hy] at hrow6;have y0:=hrow6 0 (by omega);have y1:=hrow6 1 (by omega);have y2:=hrow6 2 (by omega);have y3:=hrow6 3 (by omega);have y4:=hrow6 4 (by omega);have y5:=hrow6 5 (by omega);simp only [plRow,List.getElem_cons_zero,List.getElem_cons_succ,Nat.add_zero] at y0 y1 y2 y3 y4 y5;have c4'':=hkp.cell c4 hpS;have hzpp:=World.block_lt_of_cell? _ _ c4'';simp only at hzpp;have HY:=hid hy;have HKPr:=hid hkp;have HROWr:=hid hrow;have HOWNr:=hid hown;have HMAPr:=hid hmap;have hzl:=(Array.getElem?_eq_some_iff.1 hmap).1;clear hrow6 hy hkp hrow hown hmap hcells hfro;gi_wp2_with fail;obtain ⟨W1,hW1⟩:∃ W1,wr.alloc (.cells #[.int .i64 (gt (ks.st y) 0),.int .i64 (gt (ks.st y) 1),.int .i64 (gt (ks.st y) 2),.int .i64 (gt (ks.st y) 3),.int .i64 (gt (ks.st y) 4),.int .i64 y] 112)=W1:=⟨_,rfl⟩
       have hE1:Ext wr W1:=by rw [← hW1];exact xx
       have z0:W1.cell? ⟨wr.heap.size,0,none⟩=some (.int .i64 (gt (ks.st y) 0)):=by rw [← hW1];simp [go_sem]
       have z1:W1.cell? ⟨wr.heap.size,1,none⟩=some (.int .i64 (gt (ks.st y) 1)):=by rw [← hW1];simp [go_sem]
       have z2:W1.cell? ⟨wr.heap.size,2,none⟩=some (.int .i64 (gt (ks.st y) 2)):=by rw [← hW1];simp [go_sem]
       have z3:W1.cell? ⟨wr.heap.size,3,none⟩=some (.int .i64 (gt (ks.st y) 3)):=by rw [← hW1];simp [go_sem]
       have z4:W1.cell? ⟨wr.heap.size,4,none⟩=some (.int .i64 (gt (ks.st y) 4)):=by rw [← hW1];simp [go_sem]
       have z5:W1.cell? ⟨wr.heap.size,5,none⟩=some (.int .i64 y):=by rw [← hW1];simp [go_sem]
       rw [hW1];replace c4'':=zj hE1 c4'';clear hW1 y0 y1 y2 y3 y4 y5;refine ztg rfl rfl (by kernel_rfl) (by kernel_rfl) (by kernel_rfl) ?_
       dsimp only [List.dropLast]
       repeat (first | go_big_quiet_step (fail) | quiet_step (fail))
       refine wpQuiet_nil ?_
       rintro _ ⟨nq,rfl⟩;obtain ⟨W2,hdel,hg2,_,hm2,_,_⟩:=MapIs.del (W:=W1.drewN nq) (place_keyed ks) (show IsMap (pk ks) one (W1.drewN nq) M _ c from (hE1.block _ hzl).trans HMAPr.out) (zkz HO.out _) (zqt HBN.out _) y 0;simp only [pk,plc] at hdel;have hk2:Kept (fun k=>k≠M) wr W2:=((Kept.of_below hE1).trans (Kept.of_below (Ext.drN (Below.refl _ W1) nq))).grown hg2 (fun k e _ hk=>by cases e;exact hk rfl);have HM2:=hid hm2;have HK2:=hid hk2;clear hm2 hg2 hk2;gi_wp2_with fail;go_roundw
       case rel =>
        refine ⟨j+1,by omega,by go_num,HKPr.out.trans (HK2.out.mono fun k _ h=>h.2),HROWr.out.of_heap (HK2.out.same _ (by have:=HROWr.out.lt;omega) hMr.symm),HOWNr.out.keptAt HK2.out (fun g cur hb _ _=>by omega),?_⟩;have h9:=HM2.out;rw [HY.out,zaa6 hjl] at h9;exact h9
       case measure=>simp [intOf];omega
      ·have hjL:j=L:=by omega
       subst hjL;have hmap':IsMap (pk ks) one wr M (esX es0 rows) c:=by
        rw [← zadg HRND.out,← HES.out];rw [List.take_of_length_le (by rw [HLL.out];omega)] at hmap;exact hmap
       have HROWr:=hid hrow;have HKPr:=hid hkp;have HMAPr:=hid hmap';clear hrow hkp hmap hmap' hown;gi_wp2_with fail;go_roundw
       case rel=>exact ⟨rows,HRND.out.1,HKPr.out,HROWr.out,HMAPr.out⟩
       case measure =>
        rw [cntW_eq HROWr.out,cntW_eq ROW0.out];obtain ⟨x,hx⟩:=List.exists_mem_of_ne_nil _ HLN.out;have h1:=HRND.out.2.1 x hx;have hxx:((x.toNat:Nat):Int)=x:=by omega
        refine cnt_lt (fun i hi=>?_) (i:=x.toNat) (by omega) (by rw [hxx];omega) (by rw [hxx];omega)
        by_cases hm:(i:Int)∈l
        ·have:=HRND.out.2.1 _ hm;omega
        ·rw [← HRND.out.2.2 _ hm];exact hi
   ·have hei:=fofR_some ((HGET.out e.1).symm.trans (getE_mem HO.out he))
    obtain ⟨i,hi⟩:∃ i:Nat,e.1=(i:Int):=⟨e.1.toNat,by omega⟩
    have hg2:wr.grownBy W2 (some w6.heap.size):=⟨hos,htape,hout,by rw [hheap];simp,fun k hk hne=>by rw [hheap];exact World.putObj_heap_other (fun e=>hne (by rw [e]))⟩
    have hk2:Kept (fun k=>k≠w6.heap.size) wr W2:=(Kept.refl _ wr).grown hg2 (fun k e _ hk=>by cases e;exact hk rfl);have hit2:W2.heap[w6.heap.size]? = some (.mapIter (some M) c (seen.push e.2.2) c):=by rw [hheap];exact World.putObj_heap_same hzir
    have hm2:IsMap (pk ks) one W2 M es c:=(hk2.same _ (Array.getElem?_eq_some_iff.1 hm1).1 (by omega)).trans hm1;have hen:=zhy (P:=Tryz.prog) hm2 hit2 he HBN.out.1;rw [hi] at hrun hen;simp only [pk,plc,one] at hrun hen;have hun:=zjh he hs;have hun2:∀ W',W'.heap[w6.heap.size]? = W2.heap[w6.heap.size]?→zck es w6.heap.size W' < zck es w6.heap.size wr:=fun W' hW'=>by
     unfold zck;rw [hW',hit2,hit];exact hun
    have hown2:Owns W2 w.heap.size 112 6 (.slice fa fn fc) (l.map (plRow ks)):=hown.keptAt hk2 fun g cur _ _ hg e=>by rw [e,hit] at hg;cases hg
    have hog:∀ g,(Value.slice fa fn fc).ownBlock=some g→w.heap.size≤g∧g < W2.heap.size∧g≠w6.heap.size:=fun g hg=>by
     have h1:=hown2.notOwn g hg;refine ⟨h1.1,h1.2,fun e=>?_⟩
     rcases hown2.1.2 with ⟨hv,_⟩ | ⟨g',cap,cur,hv,_,hg',_⟩
     ·rw [hv] at hg;cases hg
     ·rw [hv] at hg;cases hg
      simp only at e;rw [e,hit2] at hg';cases hg'
    have HOG:=hid hog;clear hog;obtain ⟨W3,hW3⟩:∃ W3,W2.alloc (.cells #[.int .i64 (gt (ks.st i) 0),.int .i64 (gt (ks.st i) 1),.int .i64 (gt (ks.st i) 2),.int .i64 (gt (ks.st i) 3),.int .i64 (gt (ks.st i) 4),.int .i64 i] 112)=W3:=⟨_,rfl⟩
    have hE3:Ext W2 W3:=by rw [← hW3];exact xx
    have hk3:Kept (fun k=>k≠w6.heap.size) wr W3:=hk2.trans (.of_below hE3);have hS3:Kept (fun k=>k≠rb∧k≠M) w W3:=zabn hkp hk3 fun j hj _=>by omega
    have hrow3:RowB W3 rb ro sz ks rows:=hrow.of_heap (hk3.same _ (by omega) (by omega));have hm3:IsMap (pk ks) one W3 M es c:=(hE3.block _ (Array.getElem?_eq_some_iff.1 hm2).1).trans hm2;have hit3:=(hE3.block _ (Array.getElem?_eq_some_iff.1 hit2).1).trans hit2;have hown3:=hown2.ext hE3;have q5:W3.cell? ⟨W2.heap.size,5,none⟩=some (.int .i64 i):=by rw [← hW3];simp [go_sem]
    have q0:W3.cell? ⟨W2.heap.size,0,none⟩=some (.int .i64 (gt (ks.st i) 0)):=by rw [← hW3];simp [go_sem]
    have q1:W3.cell? ⟨W2.heap.size,1,none⟩=some (.int .i64 (gt (ks.st i) 1)):=by rw [← hW3];simp [go_sem]
    have q2:W3.cell? ⟨W2.heap.size,2,none⟩=some (.int .i64 (gt (ks.st i) 2)):=by rw [← hW3];simp [go_sem]
    have q3:W3.cell? ⟨W2.heap.size,3,none⟩=some (.int .i64 (gt (ks.st i) 3)):=by rw [← hW3];simp [go_sem]
    have q4:W3.cell? ⟨W2.heap.size,4,none⟩=some (.int .i64 (gt (ks.st i) 4)):=by rw [← hW3];simp [go_sem]
    have hin:i < ks.n:=by omega
    have hbd:=bound_any ks rows p po i W3 V.out hin (fun x h0 h1=>rows_bd V.out hrnd.1 h0 h1) (HN.out.kept hS3).at (hrow3.rw (hS3.cell c3 hpS) hrc);have HW3:=hid hW3;have HE3:=hid hE3;have HS3:=hid hS3;have HROW3:=hid hrow3;have HM3:=hid hm3;have HIT3:=hid hit3;have HOWN3:=hid hown3;have HRND:=hid hrnd;have HND:=hid hnd;have HLS:=hid hls;have HNONE:=hid hnone;have HUN2:=hid hun2;have HSS:=hid hs;have HEE:=hid he;have HI:=hid hi;have HEI:=hid hei;have HIT2:=hid hit2;have c3'':=hS3.cell c3 hpS;have hz3:=hS3.size;clear hown hm1 hit hkp hrow hrnd hnd hls hnone hos htape hout hheap hg2 hk2 hun2 hun hown2 hE3 hk3 hS3 hrow3 hm3 hit3 hown3 hit2 hm2 hs he hi hei hW3;generalize hbb:bndL rows 0 (ks.nx (i:Int))=bb at hbd;have HBB:=hid hbb;clear hbb;have heq:∀ x∈es,x.2.2∈seen.push e.2.2→x.2.2∈seen∨x=e:=fun x hx hh=>by
     rw [Array.mem_push] at hh;exact hh.imp id fun hh=>zb6 _ _ HBN.out.1 x hx e HEE.out hh
    have HEQ:=hid heq;clear heq;cases bb with
    | none =>
     simp only [bndV] at hbd;have HBD:=hid hbd;clear hbd;gi_wp2_with fail;refine ⟨trivial,?_⟩;rw [HW3.out];refine (callsIn_wide.2 HBD.out).mono ?_
     rintro e4 W4 ⟨rfl,hE4⟩;have HE4:=hid hE4;clear hE4;gi_wp2_with fail;go_roundw
     case rel =>
      refine ⟨seen.push e.2.2,l,rows,HOWN3.out.ext HE4.out,(HE4.out.block _ (Array.getElem?_eq_some_iff.1 HM3.out).1).trans HM3.out,(HE4.out.block _ (Array.getElem?_eq_some_iff.1 HIT3.out).1).trans HIT3.out,HS3.out.trans (.of_below HE4.out),
       HROW3.out.of_heap (HE4.out.block _ HROW3.out.lt),HRND.out,HND.out,fun x hx=>?_,fun hl x hx hh=>?_⟩
      ·obtain ⟨y,h1,h2,h3⟩:=HLS.out x hx
       exact ⟨y,h1,h2,by simp [h3]⟩
      ·rcases HEQ.out x hx hh with hh | rfl
       ·exact HNONE.out hl x hx hh
       ·have:rows=rows0:=funext fun y=>HRND.out.2.2 y (by rw [hl];simp)
        rw [HI.out,← this];exact HBB.out
     case measure=>exact HUN2.out _ ((HE4.out.block _ (Array.getElem?_eq_some_iff.1 HIT3.out).1).trans (HIT3.out.trans HIT2.out.symm))
    | some m =>
     simp only [bndV] at hbd;have HBD:=hid hbd;clear hbd;have hnl:(i:Int) ∉ l:=fun hh=>by
      obtain ⟨y,h1,h2,h3⟩:=HLS.out _ hh;have:y=e:=zb6 _ _ HO.out y h1 e HEE.out (h2.trans HI.out.symm);subst this;exact HSS.out h3
     have hlen:(l.map (plRow ks)).length + [plRow ks (i:Int)].length≤1000000:=by
      have h1:(l.map Int.toNat).Nodup:=nodup_map _ HND.out fun x hx y hy e=>by
       have:=HRND.out.2.1 x hx;have:=HRND.out.2.1 y hy;omega
      have h2:=nodup_le (ks.n) _ h1 fun x hx=>by
       obtain ⟨y,hy,rfl⟩:=List.mem_map.1 hx;have:=HRND.out.2.1 y hy;omega
      rw [List.length_map] at h2 ⊢;show _+1≤_;omega
     have HLEN:=hid hlen;have HNL:=hid hnl;clear hlen hnl;gi_wp2_with fail;refine ⟨trivial,?_⟩;rw [HW3.out];refine (callsIn_wide.2 HBD.out).mono ?_
     rintro e4 W4 ⟨rfl,hE4⟩;have HE4:=hid hE4;replace q0:=zj hE4 q0;replace q1:=zj hE4 q1;replace q2:=zj hE4 q2;replace q3:=zj hE4 q3;replace q4:=zj hE4 q4;replace q5:=zj hE4 q5;have hz4:=hE4.size;have HOWN4:=hid (HOWN3.out.ext hE4);clear hE4 c3'' c3' c4';gi_wp2_with (refine zvm rfl (.tmp 25) (.tmp 27) elPl rfl w.heap.size rfl (HOWN4.out.ext (by exact xx)) W4.heap.size 0 1 [plRow ks (i:Int)] rfl (by simp [plRow]) (newRow _ (plRow ks (i:Int)) _) (by simp [plRow,Value.oneCell']) HLEN.out (by simp;omega) ?_);intro v' W5 hown5 hk5 hat5;obtain ⟨va,vn,vc,rfl⟩:=hown5.isSlice;have hkk:Kept (fun k=>some k≠(Value.slice fa fn fc).ownBlock) W4 W5:=((Kept.refl _ W4).alloc _).trans hk5;have hS5:Kept (fun k=>k≠rb∧k≠M) w W5:=zabn (HS3.out.trans (.of_below HE4.out)) hkk fun j hj _ e=>by have:=(HOG.out j e.symm).1;omega
     have hz5:=hkk.size;have hrow5:RowB W5 rb ro sz ks rows:=(HROW3.out.of_heap (HE4.out.block _ HROW3.out.lt)).of_heap (hkk.same _ (by omega) fun e=>by have:=(HOG.out _ e.symm).1;omega);have hm5:IsMap (pk ks) one W5 M es c:=(hkk.same _ (by omega) fun e=>by have:=(HOG.out _ e.symm).1;omega).trans ((HE4.out.block _ (Array.getElem?_eq_some_iff.1 HM3.out).1).trans HM3.out);have hit5:W5.heap[w6.heap.size]? = some (.mapIter (some M) c (seen.push e.2.2) c):=(hkk.same _ (by have:=(Array.getElem?_eq_some_iff.1 HIT3.out).1;omega) fun e=>(HOG.out _ e.symm).2.2 rfl).trans ((HE4.out.block _ (Array.getElem?_eq_some_iff.1 HIT3.out).1).trans HIT3.out);have s5:=hkk.cell q5 (fun e=>by have:=(HOG.out _ e.symm).2.1;simp only at this;omega);have c35:=hS5.cell c3 hpS;have hii:(i:Int) < (ks.n:Int):=by omega
     have hrcell:W5.cell? ⟨rb,ro+i,none⟩=some (.int .i64 (rows i)):=by
      obtain ⟨cur,t,h1,h0,h2⟩:=hrow5;rw [cell_of_row _ _ _ _ _ _ h1];exact h2 i hin
     have hrfro:W5.frozen? ⟨rb,ro+i,none⟩=false:=by
      obtain ⟨cur,t,h1,h0,h2⟩:=hrow5;simp [World.frozen?,h1]
     have hzb:=hrow5.lt;have HOWN5:=hid hown5;have HS5:=hid hS5;have HROW5:=hid hrow5;have HM5:=hid hm5;have HIT5:=hid hit5;clear hown5 hk5 hat5 hkk hS5 hrow5 hm5 hit5 q0 q1 q2 q3 q4 q5;gi_wp2_with fail;refine ztg rfl rfl (by kernel_rfl) (by kernel_rfl) (by kernel_rfl) ?_
     dsimp only [List.dropLast]
     repeat (first | go_big_quiet_step (fail) | quiet_step (fail))
     refine wpQuiet_nil ?_
     rintro _ ⟨nq,rfl⟩;gi_wp2_with fail;go_roundw
     case rel =>
      have hset:∀ k,k≠rb→((W5.drewN nq).setCell ⟨rb,ro+i,none⟩ (.int .i64 m)).heap[k]? = W5.heap[k]?:=fun k hk=>Below.heap_setCell _ _ _ _ hk
      obtain ⟨cur,t,hcur,_⟩:=HROW5.out;refine ⟨seen.push e.2.2,l ++ [(i:Int)],fun x=>if x=(i:Int) then m else rows x,?_,(hset M (by omega)).trans HM5.out,(hset _ (by omega)).trans HIT5.out,?_,(HROW5.out.of_heap (W':=W5.drewN nq) rfl).set i m,HRND.out.more V.out (by rw [← HI.out];exact HEI.out) HBB.out,?_,fun x hx=>?_,fun hl=>?_⟩
      ·rw [List.map_append]
       exact (HOWN5.out.ext (Ext.drN (Below.refl _ _) nq)).keptAt ((Kept.refl (fun k=>k≠rb) (W5.drewN nq)).setCell (fun _ h=>h rfl) _) fun g cur hb _ _=>by omega
      ·exact (HS5.out.trans (.of_below (Ext.drN (Below.refl _ _) nq))).setCell (fun _ h=>h.1 rfl) _
      ·rw [List.nodup_append]
       exact ⟨HND.out,by simp,fun x hx y hy e=>by simp at hy;subst hy;subst e;exact HNL.out hx⟩
      ·rcases List.mem_append.1 hx with hx | hx
       ·obtain ⟨y,h1,h2,h3⟩:=HLS.out x hx
        exact ⟨y,h1,h2,by simp [h3]⟩
       ·simp at hx
        exact ⟨e,HEE.out,HI.out.trans hx.symm,by simp⟩
      ·simp at hl
     case measure =>
      refine HUN2.out _ ?_
      have:((W5.drewN nq).setCell ⟨rb,ro+i,none⟩ (.int .i64 m)).heap[w6.heap.size]? = W5.heap[w6.heap.size]?:=Below.heap_setCell _ _ _ _ (by simp only;omega);exact this.trans (HIT5.out.trans HIT2.out.symm)
theorem doom_any (ks:DG) (p po M rb ro sz rc:Nat) (es0:zae Int Unit) (c:Nat) (w:World) (v:DOk ks) (hE0:EsOk ks es0 c) (hn:TNxS (fun k=>k≠rb∧k≠M) w p po ks) (c3:w.cell? ⟨p,po+3,none⟩=some (.slice (some ⟨rb,ro,none⟩) ks.n rc)) (hrc:ks.n≤rc)
  (c4:w.cell? ⟨p,po+4,none⟩=some (.map (some M))) (hr:RowB w rb ro sz ks (fun _=>-1)) (hm:IsMap (pk ks) one w M es0 c) :
  Calls Tryz.prog 65 #[.pointer (some ⟨p,po,none⟩)] w fun e W=>e = .returned (.tuple #[])∧Kept (fun k=>k≠rb∧k≠M) w W∧RowB W rb ro sz ks ks.R∧IsMap (pk ks) one W M (esX es0 ks.R) c :=
 callsIn_wide.1 (doom_in ks p po M rb ro sz rc es0 c w v hE0 hn c3 hrc c4 hr hm)
end Dg
end Go.Proofs.YtnfdiohfojjnlaaGreat
namespace Go.Proofs.YtnfdiohfojjnlaaGreat
open Go.Lib (hid)
open Go.RowKit
noncomputable def rowAt (v:AV):Option (Option (Nat × Nat) × Nat):=match v with
 | .nils=>some (none,0)
 | .sl n off len _=>some (some (n,off),len)
 | .slo n off len _=>some (some (n,off),len)
 | _=>none
noncomputable def zqu (S:St) (v:AV):Option (Option Nat × List Nat):=bnd (rowAt v) fun r=>match r.1 with
 | none=>some (none,[])
 | some no=>bnd (S.get no.1) fun o=>bnd (zda o) fun c=>bnd (seg c no.2 r.2) fun x=>bnd (zrq x) fun l=>some (some no.1,l)
noncomputable def zwn (S:St):List AV→Option (List (Option Nat × List Nat)):=@List.rec AV (fun _=>Option (List (Option Nat × List Nat))) (some []) (fun v _ ih=>bnd (zqu S v) fun a=>bnd ih fun l=>some (a :: l))
noncomputable def z56 (v:AV):Option (List Int × Nat):=match v with
 | .agg [.int .i64 a,.int .i64 b,.int .i64 c,.int .i64 d,.int .i64 e,.int .i64 (.ofNat i)]=>some ([a,b,c,d,e],i)
 | _=>none
noncomputable def z57 (v:AV):Bool:=match v with
 | .int .i64 (.ofNat 1)=>true
 | _=>false
noncomputable def z2a:List Ent→Nat→Option (List (List Int)):=@List.rec Ent (fun _=>Nat→Option (List (List Int))) (fun _=>some []) (fun e _ ih i=>bnd (z56 e.1) fun k=>zk (ze1 (Nat.beq k.2 i) (z57 e.2.1)) (bnd (ih (Nat.succ i)) fun l=>some (k.1 :: l)) none)
noncomputable def z4g (v:AV):Bool:=match v with
 | .int .i64 (.negSucc 0)=>true
 | _=>false
noncomputable def zqv (R:Tr Nat):List Nat→Nat→Option Nat:=@List.rec Nat (fun _=>Nat→Option Nat) (fun n=>some n) (fun x _ ih n=>@Nat.rec (fun _=>Option Nat) none (fun m _=>fcN (zk (Nat.ble n (Nat.succ m)) (Nat.succ m) n) fun n=>ih n) ((Tr.get R x).getD 0))
noncomputable def zaej {β:Type}:List (List Nat)→Nat→Nat→Tr Nat→(Nat→Tr Nat→β)→β:=@List.rec (List Nat) (fun _=>Nat→Nat→Tr Nat→(Nat→Tr Nat→β)→β) (fun _ c R k=>k c R)
 (fun l _ ih i c R k=>@Nat.rec (fun _=>β) (@Option.rec Nat (fun _=>β) (ih (Nat.succ i) c R k) (fun m=>fcN (Nat.succ m) fun m=>Tr.putK 0 i (some m) R fun R=>ih (Nat.succ i) (Nat.succ c) R k) (zqv R l 0)) (fun _ _=>ih (Nat.succ i) c R k) ((Tr.get R i).getD 0))
noncomputable def z8o (nx:List (List Nat)) (fuel:Nat):Tr Nat→Tr Nat:=@Nat.rec (fun _=>Tr Nat→Tr Nat) (fun R=>R) (fun _ ih R=>zaej nx 0 0 R fun c R=>@Nat.rec (fun _=>Tr Nat) R (fun _ _=>ih R) c) fuel
noncomputable def zabo (R:Tr Nat):List (List Nat)→Nat→List Nat:=@List.rec (List Nat) (fun _=>Nat→List Nat) (fun _=>[]) (fun _ _ ih i=>fcN ((Tr.get R i).getD 0) fun a=>a :: ih (Nat.succ i))
noncomputable def zhl (N:Nat) (R:Tr Nat) (l:List Nat) (r:Nat):Bool:=zeb (fun x=>Nat.blt x N) l && Nat.ble l.length 1000 && Nat.ble r 1000 && (match zqv R l 0 with
 | none=>Nat.beq r 0
 | some m=>Nat.beq r (Nat.succ m))
noncomputable def zuy (N:Nat) (R:Tr Nat):List (List Nat)→List Nat→Bool
 | l :: nx,r :: rs=>zhl N R l r && zuy N R nx rs
 | [],[]=>true
 | _,_=>false
noncomputable def zzl (R:Tr Nat):List Nat→Nat→Bool
 | r :: rs,i=>Nat.beq ((Tr.get R i).getD 0) r && zzl R rs (i+1)
 | [],_=>true
noncomputable def zhu:List Ent→List Nat→List Ent
 | e :: es,r :: rs=>if Nat.beq r 0 then e :: zhu es rs else zhu es rs
 | _,_=>[]
def z2b (r:Nat):AV:=.int .i64 ((r:Int) - 1)
def zgq (l:List (Option Nat × List Nat)):List Nat:=l.filterMap (·.1)
noncomputable def sumD:List AV→St→Option Res:=fun args S=>match args with
 | [.ptr t p0]=>bnd (zg1 S t (Nat.add p0 2)) fun v2=>bnd (zg1 S t (Nat.add p0 3)) fun v3=>bnd (zg1 S t (Nat.add p0 4)) fun v4=>(match v4 with
  | .map m=>bnd (rowAt v2) fun r2=>bnd (rowAt v3) fun r3=>(match r2.1,r3.1 with
   | some n2,some n3=>bnd (S.get n2.1) fun o2=>bnd (zda o2) fun c2=>bnd (S.get n3.1) fun o3=>bnd (zda o3) fun c3=>bnd (seg c2 n2.2 r2.2) fun x2=>bnd (zwn S x2) fun nx=>bnd (S.get m) fun om=>bnd (zid om) fun ec=>bnd (z2a ec.1 0) fun st =>
     (fun nl=>(fun R=>(fun rs =>
      zk (Nat.beq r2.2 r3.2 && Nat.beq n3.2 0 && Nat.beq c3.length r3.2 && zeb z4g c3 && Nat.blt 0 r3.2 && Nat.ble r3.2 1000 && Nat.beq ec.1.length r3.2 && ec.1.all (fun e=>Nat.blt e.2.2 ec.2) && zi6 (ec.1.map (·.2.2))
        && zzl R rs 0 && zuy r3.2 R nl rs && zel n3.1 (t :: n2.1 :: m :: zgq nx) && zel m (t :: n2.1 :: zgq nx))
       (some ⟨.normal,⟨.leaf,0⟩,[],.tup [],(((S.orM (Nat.lor (Nat.lor (zm t) (zm n2.1)) ((zgq nx).foldl (fun s n=>Nat.lor s (zm n)) 0))).setted n3.1 (some (.cells (rs.map z2b)))).setted m (some (.map (zhu ec.1 rs) ec.2)))⟩) none)
      (zabo R nl 0)) (z8o nl 1000 .leaf)) (nx.map (·.2))
   | _,_=>none)
  | _=>none)
 | _=>none
theorem zj8 {ρ:Rho} {v:AV} {n off len:Nat} {V:Value} (h:rowAt v=some (some (n,off),len)) (hV:RV ρ v V):∃ (L:Loc) (o' cap:Nat),ρ n=some L∧V = .slice (some ⟨L.b,o',none⟩) len cap∧len≤cap∧(len=0∨o'=L.s+off):=by
 unfold rowAt at h
 split at h
 ·cases h
 ·cases h
  obtain ⟨L,o',h1,h2,h3,h4⟩:=hV;exact ⟨L,o',_,h1,h2,h3,h4.imp (fun q=>by omega) id⟩
 ·cases h
  obtain ⟨L,o',cap,h1,h2,h3,_,h4⟩:=hV;exact ⟨L,o',cap,h1,h2,h3,h4.imp (fun q=>by omega) id⟩
 ·cases h
theorem z8p {ρ:Rho} {v:AV} {len:Nat} {V:Value} (h:rowAt v=some (none,len)) (hV:RV ρ v V):V = .slice none 0 0:=by
 unfold rowAt at h
 split at h
 ·exact hV
 ·cases h
 ·cases h
 ·cases h
theorem z8q {ρ:Rho} {S:St} {T:Nat→Prop} {w:World} (h:Fit ρ S T w) {v:AV} {q:Option Nat × List Nat} {V:Value} (hT:∀ x,q.1=some x→T x) (hc:zqu S v=some q) (hV:RV ρ v V) :
  ∃ sa cp,V = .slice sa (q.2.map Int.ofNat).length cp∧Dg.Ints w V (q.2.map Int.ofNat)∧∀ g,V.ownBlock=some g→∃ x L o,q.1=some x∧ρ x=some L∧L.b=g∧S.get x=some o:=by
 unfold zqu at hc;obtain ⟨r,hr,hc⟩:=zd hc;obtain ⟨no,len⟩:=r;cases no with
 | none =>
  have hc:some ((none,[]):Option Nat × List Nat)=some q:=hc;cases hc;have e:=z8p hr hV;subst e;exact ⟨none,0,rfl,⟨none,0,rfl,trivial,trivial,.inl rfl⟩,fun g hg=>by cases hg⟩
 | some no =>
  obtain ⟨n,off⟩:=no;obtain ⟨o,h1,hc⟩:=zd hc;obtain ⟨c,h2,hc⟩:=zd hc;obtain ⟨x,h3,hc⟩:=zd hc;obtain ⟨l,h4,hc⟩:=zd hc;cases hc;rw [zbn h2] at h1;obtain ⟨k1,k2,k3⟩:=zgd h3;have k4:=zj4 h4;obtain ⟨L,o',cap,hL,e,hle,hoff⟩:=zj8 hr hV;have hlen:l.length=len:=by have k2:x.length=len:=k2;rw [← k2,k4];simp
  have hl2:(l.map Int.ofNat).length=len:=by simpa using hlen
  obtain ⟨L',e1,cs,e',e2,e3,e4,e5⟩:=h.obj n _ (hT n rfl) h1;rw [hL] at e1;cases e1;show ∃ sa cp,V = .slice sa (l.map Int.ofNat).length cp∧Dg.Ints w V (l.map Int.ofNat)∧∀ g,V.ownBlock=some g→∃ x L o,some n=some x∧ρ x=some L∧L.b=g∧S.get x=some o;refine ⟨some ⟨L.b,o',none⟩,cap,by rw [e,hl2],⟨some ⟨L.b,o',none⟩,cap,by rw [e,hl2],trivial,trivial,?_⟩,fun g hg=>?_⟩
  ·by_cases h0:len=0
   ·exact .inl (List.length_eq_zero_iff.1 (by omega))
   ·refine .inr ⟨L.b,o',rfl,fun i hi=>?_⟩
    have hi2:i < len:=by omega
    have hil:i < l.length:=by omega
    have hx:x[i]? = some (.int .i64 (.ofNat l[i])):=by rw [k4,List.getElem?_map,List.getElem?_eq_getElem hil];rfl
    rw [k1,List.getElem?_take,if_pos hi2,List.getElem?_drop] at hx;obtain ⟨X,g1,g2⟩:=RC.cell e2 e5 hx;have ho:o'=L.s+off:=by rcases hoff with q | q;omega;exact q
    have g2:X = .int .i64 (.ofNat l[i]):=g2;rw [show o'+i=L.s+(off+i) by omega,g1,g2];simp
  ·rw [e] at hg
   cases hg;exact ⟨n,L,_,rfl,hL,rfl,h1⟩
theorem zuz {S:St}:∀ {x:List AV} {nx:List (Option Nat × List Nat)},zwn S x=some nx→nx.length=x.length∧∀ (i:Nat) (v:AV),x[i]? = some v→∃ q,nx[i]? = some q∧zqu S v=some q
 | [],nx,h=>by cases h;exact ⟨rfl,fun i v h=>by simp at h⟩
 | u :: x,nx,h=>by
  have h:bnd (zqu S u) (fun a=>bnd (zwn S x) fun l=>some (a :: l))=some nx:=h;obtain ⟨a,h1,h⟩:=zd h;obtain ⟨l,h2,h⟩:=zd h;cases h;obtain ⟨k1,k2⟩:=zuz h2;refine ⟨by simp [k1],fun i v hi=>?_⟩;cases i with
  | zero=>simp at hi;subst hi;exact ⟨a,rfl,h1⟩
  | succ i=>obtain ⟨q,g1,g2⟩:=k2 i v (by simpa using hi);exact ⟨q,by simpa using g1,g2⟩
theorem zx5:∀ {es:List Ent} {j:Nat} {st:List (List Int)},z2a es j=some st→st.length=es.length∧∀ (i:Nat) (e:Ent),es[i]? = some e→∃ a b c d f,e.1 = .agg [.int .i64 a,.int .i64 b,.int .i64 c,.int .i64 d,.int .i64 f,.int .i64 (.ofNat (j+i))]∧st[i]? = some [a,b,c,d,f]∧e.2.1 = .int .i64 1
 | [],j,st,h=>by cases h;exact ⟨rfl,fun i v h=>by simp at h⟩
 | u :: es,j,st,h=>by
  have h:bnd (z56 u.1) (fun k=>zk (ze1 (Nat.beq k.2 j) (z57 u.2.1)) (bnd (z2a es (Nat.succ j)) fun l=>some (k.1 :: l)) none)=some st:=h;obtain ⟨k,h1,h⟩:=zd h;obtain ⟨h2,h⟩:=zf h;obtain ⟨l,h3,h⟩:=zd h;cases h;rw [z1l,Bool.and_eq_true] at h2;obtain ⟨k1,k2⟩:=zx5 h3;refine ⟨by simp [k1],fun i e hi=>?_⟩;cases i with
  | zero =>
   simp at hi;subst hi;have e2:=Nat.eq_of_beq_eq_true h2.1;have e3:u.2.1 = .int .i64 1:=by
    have:=h2.2;unfold z57 at this
    split at this
    ·rename_i e;exact e
    ·cases this
   unfold z56 at h1
   split at h1
   ·rename_i a b c d f i' he
    cases h1;have e2:i'=j:=e2;subst e2;exact ⟨a,b,c,d,f,he,rfl,e3⟩
   ·cases h1
  | succ i =>
   obtain ⟨a,b,c,d,f,g1,g2,g3⟩:=k2 i e (by simpa using hi);exact ⟨a,b,c,d,f,by rw [g1,show Nat.succ j+i=j+(i+1) by omega],by simpa using g2,g3⟩
theorem z4h {R:Tr Nat} {F:Int→Int}:∀ {l:List Nat} {n:Nat},(∀ x∈l,F (x:Int)=((Tr.get R x).getD 0:Nat) - 1)→Dg.bndL F (n:Int) (l.map Int.ofNat)=(zqv R l n).map Int.ofNat
 | [],n,_=>rfl
 | x :: l,n,h=>by
  have hx:=h x (by simp);show (if F (Int.ofNat x) < 0 then none else Dg.bndL F (max (n:Int) (F (Int.ofNat x)+1)) (l.map Int.ofNat))=(@Nat.rec (fun _=>Option Nat) none (fun m _=>fcN (zk (Nat.ble n (Nat.succ m)) (Nat.succ m) n) fun n=>zqv R l n) ((Tr.get R x).getD 0)).map Int.ofNat;have hx:F (Int.ofNat x)=((Tr.get R x).getD 0:Nat) - 1:=hx;rw [hx];cases hv:(Tr.get R x).getD 0 with
  | zero=>rfl
  | succ m =>
   have h1:¬ (((m+1:Nat):Int) - 1 < 0):=by omega
   rw [if_neg h1];show _=(fcN (zk (Nat.ble n (Nat.succ m)) (Nat.succ m) n) fun n=>zqv R l n).map Int.ofNat;rw [zan,← z4h (F:=F) fun y hy=>h y (by simp [hy])]
   congr 1
   rw [zx]
   split
   ·rename_i hb;have:=Nat.le_of_ble_eq_true hb;omega
   ·rename_i hb
    have:¬ n≤m+1:=fun h2=>hb (Nat.ble_eq_true_of_le h2)
    omega
theorem zx6 {N:Nat} {R:Tr Nat}:∀ {nx:List (List Nat)} {rs:List Nat},zuy N R nx rs=true→nx.length=rs.length∧∀ (i:Nat) (l:List Nat) (r:Nat),nx[i]? = some l→rs[i]? = some r→zhl N R l r=true
 | [],[],_=>⟨rfl,fun i l r h=>by simp at h⟩
 | [],_ :: _,h=>by cases h
 | _ :: _,[],h=>by cases h
 | l :: nx,r :: rs,h=>by
  have h:(zhl N R l r && zuy N R nx rs)=true:=h;rw [Bool.and_eq_true] at h;obtain ⟨k1,k2⟩:=zx6 h.2;refine ⟨by simp [k1],fun i l' r' h1 h2=>?_⟩;cases i with
  | zero=>simp at h1 h2;subst h1 h2;exact h.1
  | succ i=>exact k2 i l' r' (by simpa using h1) (by simpa using h2)
theorem z2c {R:Tr Nat}:∀ {rs:List Nat} {j:Nat},zzl R rs j=true→∀ (i r:Nat),rs[i]? = some r→(Tr.get R (j+i)).getD 0=r
 | [],_,_,i,r,h=>by simp at h
 | a :: rs,j,h,i,r,hi=>by
  have h:(Nat.beq ((Tr.get R j).getD 0) a && zzl R rs (j+1))=true:=h;rw [Bool.and_eq_true] at h;cases i with
  | zero=>simp at hi;subst hi;exact Nat.eq_of_beq_eq_true h.1
  | succ i=>rw [show j+(i+1)=j+1+i by omega];exact z2c h.2 i r (by simpa using hi)
def zex:List Ent→Nat→zae Int Unit
 | [],_=>[]
 | e :: l,i=>((i:Int),(),e.2.2) :: zex l (i+1)
theorem zkn:∀ {l:List Ent} {i:Nat} {x:Int × Unit × Nat},x∈zex l i→∃ j e,l[j]? = some e∧x=(((i+j:Nat):Int),(),e.2.2)
 | [],_,_,h=>by cases h
 | e :: l,i,x,h=>by
  rcases List.mem_cons.1 h with rfl | h
  ·exact ⟨0,e,rfl,rfl⟩
  ·obtain ⟨j,e',h1,h2⟩:=zkn h
   exact ⟨j+1,e',by simpa using h1,by rw [h2,show i+1+j=i+(j+1) by omega]⟩
theorem zx7:∀ {l:List Ent} {i j:Nat} {e:Ent},l[j]? = some e→(((i+j:Nat):Int),(),e.2.2)∈zex l i
 | [],_,_,_,h=>by simp at h
 | u :: l,i,0,e,h=>by simp at h;subst h;exact List.mem_cons_self
 | u :: l,i,j+1,e,h=>by
  have:=zx7 (i:=i+1) (j:=j) (e:=e) (by simpa using h);rw [show i+1+j=i+(j+1) by omega] at this;exact List.mem_cons_of_mem _ this
theorem zu0:∀ (l:List Ent) (i:Nat),zcg (zex l i)
 | [],_=>List.Pairwise.nil
 | e :: l,i=>by
  refine List.nodup_cons.2 ⟨fun h=>?_,zu0 l (i+1)⟩;obtain ⟨x,hx,h1⟩:=List.mem_map.1 h;obtain ⟨j,e',_,h3⟩:=zkn hx;rw [h3] at h1;have h1:((i+1+j:Nat):Int)=(i:Int):=h1;omega
theorem zu1:∀ (l:List Ent) (i:Nat),(zex l i).map (·.2.2)=l.map (·.2.2)
 | [],_=>rfl
 | e :: l,i=>by
  show e.2.2 :: (zex l (i+1)).map (·.2.2)=e.2.2 :: l.map (·.2.2);rw [zu1 l (i+1)]
def zu2 (g:Dg.DG) (e:Ent) (i:Nat):Prop:=∃ a b c d f,e.1 = .agg [.int .i64 a,.int .i64 b,.int .i64 c,.int .i64 d,.int .i64 f,.int .i64 (.ofNat i)]∧g.st (i:Int)=[a,b,c,d,f]∧e.2.1 = .int .i64 1
theorem zaek {ρ:Rho} {g:Dg.DG} {e:Ent} {i:Nat} (h:zu2 g e i):RV ρ e.1 (Dg.pk g (i:Int))∧RV ρ e.2.1 (Dg.one ()):=by
 obtain ⟨a,b,c,d,f,h1,h2,h3⟩:=h;rw [h1,h3];refine ⟨⟨_,rfl,?_⟩,rfl⟩;rw [h2];exact ⟨_,_,rfl,rfl,_,_,rfl,rfl,_,_,rfl,rfl,_,_,rfl,rfl,_,_,rfl,rfl,_,_,rfl,rfl,rfl⟩
theorem zael {ρ:Rho} {g:Dg.DG} {e:Ent} {i:Nat} (h:zu2 g e i) {K V:Value} (hK:RV ρ e.1 K) (hV:RV ρ e.2.1 V):K=Dg.pk g (i:Int)∧V=Dg.one ():=by
 obtain ⟨a,b,c,d,f,h1,h2,h3⟩:=h;rw [h1] at hK;rw [h3] at hV;refine ⟨?_,hV⟩;obtain ⟨vs,e1,_,_,e2,k1,_,_,e3,k2,_,_,e4,k3,_,_,e5,k4,_,_,e6,k5,_,_,e7,k6,k7⟩:=hK;subst e3 e4 e5 e6 e7;have k7:_=[]:=k7;subst k7;have k1:_=_:=k1;have k2:_=_:=k2;have k3:_=_:=k3;have k4:_=_:=k4;have k5:_=_:=k5;have k6:_=_:=k6;subst k1 k2 k3 k4 k5 k6;rw [e1];have e8:vs = #[.int .i64 a,.int .i64 b,.int .i64 c,.int .i64 d,.int .i64 f,.int .i64 (.ofNat i)]:=Array.toList_inj.1 e2;rw [e8];unfold Dg.pk Dg.plc;rw [h2];rfl
theorem z4i {ρ:Rho} {g:Dg.DG}:∀ {l:List Ent} {i:Nat} {es:List MapEntry},REs ρ l es→(∀ (j:Nat) (e:Ent),l[j]? = some e→zu2 g e (i+j))→es=(zex l i).map (zar (Dg.pk g) Dg.one)
 | [],_,_,h,_=>h
 | u :: l,i,es,⟨e,r,he,h1,h2,h3,h4⟩,hk=>by
  obtain ⟨k1,k2⟩:=zael (hk 0 u rfl) h1 h2;have:=z4i (i:=i+1) h4 fun j e hj=>by have:=hk (j+1) e (by simpa using hj);rw [show i+1+j=i+(j+1) by omega];exact this
  rw [he,this];show _=zar (Dg.pk g) Dg.one ((i:Int),(),u.2.2) :: (zex l (i+1)).map (zar (Dg.pk g) Dg.one)
  congr 1
  cases e;simp only at k1 k2 h3;simp only [zar,k1,k2,h3,Nat.add_zero]
theorem z2d {ρ:Rho} {g:Dg.DG} {F:Int→Int}:∀ {l:List Ent} {rs:List Nat} {i:Nat},l.length=rs.length→(∀ (j:Nat) (e:Ent),l[j]? = some e→zu2 g e (i+j))→(∀ (j r:Nat),rs[j]? = some r→F ((i+j:Nat):Int)=(r:Int) - 1) →
  REs ρ (zhu l rs) (((zex l i).filter fun e=>decide (F e.1 < 0)).map (zar (Dg.pk g) Dg.one))
 | [],[],_,_,_,_=>rfl
 | [],_ :: _,_,h,_,_=>by simp at h
 | _ :: _,[],_,h,_,_=>by simp at h
 | u :: l,r :: rs,i,h,hk,hr=>by
  have ih:=z2d (ρ:=ρ) (g:=g) (F:=F) (l:=l) (rs:=rs) (i:=i+1) (by simpa using h) (fun j e hj=>by have:=hk (j+1) e (by simpa using hj);rw [show i+1+j=i+(j+1) by omega];exact this)
   (fun j r hj=>by have:=hr (j+1) r (by simpa using hj);rw [show i+1+j=i+(j+1) by omega];exact this)
  have h0:F (i:Int)=(r:Int) - 1:=hr 0 r rfl;show REs ρ (if Nat.beq r 0 then u :: zhu l rs else zhu l rs) ((List.filter (fun e=>decide (F e.1 < 0)) (((i:Int),(),u.2.2) :: zex l (i+1))).map (zar (Dg.pk g) Dg.one));rw [List.filter_cons]
  by_cases hz:r=0
  ·have e1:Nat.beq r 0=true:=by rw [hz];rfl
   have e2:decide (F (i:Int) < 0)=true:=decide_eq_true (by omega);simp only [e1,e2,if_true];obtain ⟨k1,k2⟩:=zaek (ρ:=ρ) (hk 0 u rfl);exact ⟨_,_,rfl,k1,k2,rfl,ih⟩
  ·have e1:Nat.beq r 0=false:=by
    cases hb:Nat.beq r 0 with
    | false=>rfl
    | true=>exact absurd (Nat.eq_of_beq_eq_true hb) hz
   have e2:decide (F (i:Int) < 0)=false:=decide_eq_false (by omega);simp only [e1,e2,Bool.false_eq_true,if_false];exact ih
theorem zaa8 {l:List Nat} {n:Nat} (h:n∈l):∀ (s:Nat),bit (l.foldl (fun s n=>Nat.lor s (zm n)) s) n:=by
 have mono:∀ (l:List Nat) (s:Nat),bit s n→bit (l.foldl (fun s n=>Nat.lor s (zm n)) s) n:=by
  intro l
  induction l with
  | nil=>intro s h;exact h
  | cons a l ih=>intro s h;exact ih _ (zg.2 (.inl h))
 induction l with
 | nil=>cases h
 | cons a l ih =>
  intro s
  rcases List.mem_cons.1 h with rfl | h
  ·exact mono l _ (zg.2 (.inr (zl.2 rfl)))
  ·exact ih h _
theorem zd1 {a:Nat} {l:List Nat} (h:zel a l=true) {b:Nat} (hb:b∈l):a≠b:=fun e=>by
 subst e;exact absurd hb (zqj h)
theorem zadh {E:Env} {args:List AV} {S:St} {r:Res} (h:sumD args S=some r):Lcl S r.st∧zc0 Tryz.prog E S r (.call 65 args):=by
 unfold sumD at h
 split at h
 ·rename_i t p0
  obtain ⟨v2,b2,h⟩:=zd h;obtain ⟨v3,b3,h⟩:=zd h;obtain ⟨v4,b4,h⟩:=zd h
  split at h
  ·rename_i m
   obtain ⟨r2,hr2,h⟩:=zd h;obtain ⟨r3,hr3,h⟩:=zd h;obtain ⟨rr2,N2⟩:=r2;obtain ⟨rr3,N⟩:=r3
   split at h
   ·rename_i n2 n3 e2 e3
    have e2:rr2=some n2:=e2;have e3:rr3=some n3:=e3;subst e2 e3;obtain ⟨n2,off2⟩:=n2;obtain ⟨n3,off3⟩:=n3;obtain ⟨o2,g2,h⟩:=zd h;obtain ⟨c2,k2,h⟩:=zd h;obtain ⟨o3,g3,h⟩:=zd h;obtain ⟨c3,k3,h⟩:=zd h;obtain ⟨x2,hx2,h⟩:=zd h;obtain ⟨nx,hnx,h⟩:=zd h;obtain ⟨om,gm,h⟩:=zd h;obtain ⟨ec,km,h⟩:=zd h;obtain ⟨st,hst,h⟩:=zd h;obtain ⟨es,ck⟩:=ec;rw [zbn k2] at g2;rw [zbn k3] at g3;rw [zci km] at gm
    dsimp only at h hr2 hr3 g2 g3 gm hx2 hst
    generalize z8o (nx.map (·.2)) 1000 .leaf=R at h;generalize zabo R (nx.map (·.2)) 0=rs at h;obtain ⟨hc,h⟩:=zf h;cases h;simp only [Bool.and_eq_true] at hc;obtain ⟨⟨⟨⟨⟨⟨⟨⟨⟨⟨⟨⟨q1,q2⟩,q3⟩,q4⟩,q5⟩,q6⟩,q7⟩,q8⟩,q9⟩,q10⟩,q11⟩,q12⟩,q13⟩:=hc;have q1:=Nat.eq_of_beq_eq_true q1;have q2:=Nat.eq_of_beq_eq_true q2;have q3:=Nat.eq_of_beq_eq_true q3;have q5:0 < N:=Nat.le_of_ble_eq_true q5;have q6:N≤1000:=Nat.le_of_ble_eq_true q6;have q7:=Nat.eq_of_beq_eq_true q7;subst q1 q2;have q9:=zit q9;obtain ⟨w1,w2⟩:=zx6 q11;have w3:=z2c q10;obtain ⟨l1,l2⟩:=zuz hnx;obtain ⟨s1,s2,s3⟩:=zgd hx2;obtain ⟨y1,y2⟩:=zx5 hst;have nlen:nx.length=N2:=by rw [l1,s2]
    have rlen:rs.length=N2:=by rw [← w1];simpa using nlen
    let g:Dg.DG:=⟨N2,fun i=>(st[i.toNat]?).getD [],fun i=>((((nx.map (·.2))[i.toNat]?).getD []).map Int.ofNat),fun i=>(((rs[i.toNat]?).getD 0:Nat):Int) - 1⟩
    have gR:∀ (i r:Nat),rs[i]? = some r→g.R (i:Int)=(r:Int) - 1:=fun i r hi=>by
     show (((rs[((i:Int)).toNat]?).getD 0:Nat):Int) - 1=_;rw [Int.toNat_natCast,hi];rfl
    have gN:∀ (i:Nat) (q:Option Nat × List Nat),nx[i]? = some q→g.nx (i:Int)=q.2.map Int.ofNat:=fun i q hi=>by
     show (((nx.map (·.2))[((i:Int)).toNat]?).getD []).map Int.ofNat=_;rw [Int.toNat_natCast,List.getElem?_map,hi];rfl
    have one:∀ i:Int,0≤i→i < (N2:Int)→∃ (j:Nat) (q:Option Nat × List Nat) (r:Nat),i=(j:Int)∧j < N2∧nx[j]? = some q∧rs[j]? = some r∧zhl N2 R q.2 r=true∧Dg.bndL g.R 0 (g.nx i)=(zqv R q.2 0).map Int.ofNat:=fun i h0 h1=>by
     obtain ⟨j,rfl⟩:∃ j:Nat,i=(j:Int):=⟨i.toNat,by omega⟩
     have hj:j < N2:=by omega
     have hq:nx[j]? = some (nx[j]'(by omega)):=List.getElem?_eq_getElem (by omega);have hr:rs[j]? = some (rs[j]'(by omega)):=List.getElem?_eq_getElem (by omega);have hro:=w2 j _ _ (by rw [List.getElem?_map,hq];rfl) hr;refine ⟨j,_,_,rfl,hj,hq,hr,hro,?_⟩;rw [gN j _ hq];refine z4h (F:=g.R) (n:=0) fun x hx=>?_
     unfold zhl at hro;simp only [Bool.and_eq_true] at hro;have hxN:x < N2:=Nat.le_of_ble_eq_true (zhi hro.1.1.1 x hx);have hrx:rs[x]? = some (rs[x]'(by omega)):=List.getElem?_eq_getElem (by omega);have:=w3 x _ hrx;rw [Nat.zero_add] at this;rw [gR x _ hrx,this]
    have v:Dg.DOk g:=by
     refine ⟨q6,fun i x h0 h1 hx=>?_,fun i h0 h1=>?_,fun i h0 h1=>?_,fun i h0 h1 hp=>?_,fun i h0 h1 hp=>?_⟩
     all_goals
      obtain ⟨j,q,r,rfl,hj,hq,hr,hro,hb⟩:=one i h0 h1;unfold zhl at hro;simp only [Bool.and_eq_true] at hro;obtain ⟨⟨⟨z1,z2⟩,z3⟩,z4⟩:=hro
     ·rw [gN j q hq] at hx
      obtain ⟨y,hy,rfl⟩:=List.mem_map.1 hx;have hyN:y < N2:=Nat.le_of_ble_eq_true (zhi z1 y hy);exact ⟨Int.natCast_nonneg y,Int.ofNat_lt.2 hyN⟩
     ·rw [gN j q hq,List.length_map];exact Nat.le_of_ble_eq_true z2
     ·rw [gR j r hr];have:=Nat.le_of_ble_eq_true z3;omega
     ·rw [hb,gR j r hr]
      rw [gR j r hr] at hp;cases hbn:zqv R q.2 0 with
      | none=>rw [hbn] at z4;have:=Nat.eq_of_beq_eq_true z4;omega
      | some m' =>
       rw [hbn] at z4;have z4:r=m'+1:=Nat.eq_of_beq_eq_true z4;show some (Int.ofNat m')=some _;rw [z4];congr 1;simp only [Int.ofNat_eq_natCast];omega
     ·rw [hb]
      rw [gR j r hr] at hp;cases hbn:zqv R q.2 0 with
      | none=>rfl
      | some m' =>
       rw [hbn] at z4;have z4:r=m'+1:=Nat.eq_of_beq_eq_true z4;omega
    have hkey:∀ (j:Nat) (e:Ent),es[j]? = some e→zu2 g e (0+j):=fun j e hj=>by
     obtain ⟨a,b,c,d,f,z1,z2,z3⟩:=y2 j e hj;refine ⟨a,b,c,d,f,z1,?_,z3⟩;show (st[((0+j:Nat):Int).toNat]?).getD []=_;rw [Int.toNat_natCast,Nat.zero_add,z2];rfl
    have hE0:Dg.EsOk g (zex es 0) ck:=⟨zu0 es 0,⟨by rw [zu1];exact q9,fun e he=>by
      obtain ⟨j,e',hj,rfl⟩:=zkn he;exact Nat.le_of_ble_eq_true (List.all_eq_true.1 q8 e' (List.mem_of_getElem? hj))⟩,fun e he=>by
      obtain ⟨j,e',hj,rfl⟩:=zkn he;have:=(List.getElem?_eq_some_iff.1 hj).1;show (0:Int)≤((0+j:Nat):Int)∧((0+j:Nat):Int) < (N2:Int);omega,fun i h0 h1=>by
      have h1:i < (N2:Int):=h1;have hj:i.toNat < es.length:=by omega
      refine ⟨_,zx7 (i:=0) (List.getElem?_eq_getElem hj),?_⟩;show ((0+i.toNat:Nat):Int)=i;omega⟩
    have hlcl:Lcl S (((S.orM (Nat.lor (Nat.lor (zm t) (zm n2)) ((zgq nx).foldl (fun s n=>Nat.lor s (zm n)) 0))).setted n3 (some (.cells (rs.map z2b)))).setted m (some (.map (zhu es rs) ck))):=by
     refine ((zl3 S _).trans (zab _ n3 _ ⟨_,by rw [zhk];exact g3⟩)).trans (zab _ m _ ?_)
     by_cases e:m=n3
     ·exact absurd e (zd1 q12 (by simp) |>.symm)
     ·refine ⟨AO.map es ck,?_⟩
      rw [St.get_eq];show Tr.get (Tr.put 24 n3 _ S.heap) m=_;rw [Tr.get_putE,if_neg e,← St.get_eq];exact gm
    refine ⟨hlcl,⟨_,_,Tryz.func65,rfl⟩,fun T ρ w vs hfit hT hfr hvs=>?_⟩;have tM:∀ x,bit (Nat.lor (Nat.lor (zm t) (zm n2)) ((zgq nx).foldl (fun s n=>Nat.lor s (zm n)) 0)) x→T x:=fun x hx=>hT x (zg.2 (.inl (zg.2 (.inl (zg.2 (.inr hx))))))
    have tt:T t:=tM t (zg.2 (.inl (zg.2 (.inl (zl.2 rfl)))));have t2:T n2:=tM n2 (zg.2 (.inl (zg.2 (.inr (zl.2 rfl)))));have t3:T n3:=hT n3 (zg.2 (.inl (zg.2 (.inr (zl.2 rfl)))));have tm:T m:=hT m (zg.2 (.inr (zl.2 rfl)));have tx:∀ q∈nx,∀ x,q.1=some x→T x∧n3≠x∧m≠x:=fun q hq x hx=>by
     have hm:x∈zgq nx:=List.mem_filterMap.2 ⟨q,hq,hx⟩;exact ⟨tM x (zg.2 (.inr (zaa8 hm 0))),zd1 q12 (by simp [hm]),zd1 q13 (by simp [hm])⟩
    obtain ⟨P0,_,ev,hP,hnil⟩:=hvs;have hnil:_=[]:=hnil;subst hnil;obtain ⟨L0,hL0,eP⟩:=hP;have at_:∀ (k:Nat) (a:AV),zg1 S t (Nat.add p0 k)=some a→∃ X,w.cell? ⟨L0.b,L0.s+p0+k,none⟩=some X∧RV ρ a X:=fun k a ha=>by
     obtain ⟨L,X,z1,z2,z3,z4⟩:=zj5 hfit tt ha (V:=.pointer (some ⟨L0.b,L0.s+(Nat.add p0 k),none⟩)) ⟨L0,hL0,rfl⟩;rw [hL0] at z1;cases z1;have e9:L0.s+p0+k=L0.s+Nat.add p0 k:=by show L0.s+p0+k=L0.s+(p0+k);omega
     exact ⟨X,by rw [e9];exact z3,z4⟩
    obtain ⟨X2,u2,u2'⟩:=at_ 2 v2 b2;obtain ⟨X3,u3,u3'⟩:=at_ 3 v3 b3;obtain ⟨X4,u4,u4'⟩:=at_ 4 _ b4;obtain ⟨L2,o2',cap2,f1,f2,f3,f4⟩:=zj8 hr2 u2';obtain ⟨L3,o3',cap3,f5,f6,f7,f8⟩:=zj8 hr3 u3';obtain ⟨LM,f9,f10⟩:=u4';have ho2:o2'=L2.s+off2:=by rcases f4 with q | q;omega;exact q
    have ho3:o3'=L3.s:=by rcases f8 with q | q;omega;exact q
    obtain ⟨_,z1,cs2,ee2,z2,z3,z4,z5⟩:=hfit.obj n2 _ t2 g2;rw [f1] at z1;cases z1;obtain ⟨_,z6,cs3,ee3,z7,z8,z9,z10⟩:=hfit.obj n3 _ t3 g3;rw [f5] at z6;cases z6;obtain ⟨_,z11,ents,z12,z13⟩:=hfit.obj m _ tm gm;rw [f9] at z11;cases z11;have et:∃ ot,S.get t=some ot:=by obtain ⟨ot,hot,_⟩:=zd b2;exact ⟨ot,hot⟩
    obtain ⟨ot,hot⟩:=et;have apart:∀ x L o,T x→S.get x=some o→ρ x=some L→n3≠x→m≠x→L.b≠L3.b∧L.b≠LM.b:=fun x L o hx ho hL h3 hm=>⟨fun e=>h3 (hfit.inj x n3 o _ L L3 hx t3 ho g3 hL f5 e).symm,fun e=>hm (hfit.inj x m o _ L LM hx tm ho gm hL f9 e).symm⟩
    have hp:=apart t L0 ot tt hot hL0 (zd1 q12 (by simp)) (zd1 q13 (by simp));have hb2:=apart n2 L2 _ t2 g2 f1 (zd1 q12 (by simp)) (zd1 q13 (by simp));have hn3m:n3≠m:=zd1 q12 (by simp);have hentsL:ents.toList=(zex es 0).map (zar (Dg.pk g) Dg.one):=z4i z13 hkey;have hm:IsMap (Dg.pk g) Dg.one w LM.b (zex es 0) ck:=by
     unfold IsMap;rw [z12,← hentsL]
    have hr:Dg.RowB w L3.b L3.s cs3.size g (fun _=>-1):=⟨cs3,ee3,z7,rfl,fun i hi=>by
     have hi:i < N2:=hi;have hc:c3[i]? = some (c3[i]'(by omega)):=List.getElem?_eq_getElem (by omega);obtain ⟨V,k1,k2⟩:=z10 i _ hc;have hmin:=zhi q4 _ (List.getElem_mem (show i < c3.length by omega));have e9:c3[i]'(by omega) = .int .i64 (.negSucc 0):=by
      unfold z4g at hmin
      split at hmin
      ·rename_i e;exact e
      ·cases hmin
     rw [e9] at k2;have k2:V = .int .i64 (.negSucc 0):=k2;rw [k1,k2];rfl⟩
    have hn:Dg.TNxS (fun k=>k≠L3.b∧k≠LM.b) w L0.b (L0.s+p0) g:=by
     refine ⟨L2.b,o2',cap2,by rw [u2,f2],f3,hb2,hp,fun i hi=>?_⟩;have hi:i < N2:=hi;obtain ⟨u,hxi⟩:∃ u,x2[i]? = some u:=⟨_,List.getElem?_eq_getElem (show i < x2.length by omega)⟩
     obtain ⟨q,hq,hql⟩:=l2 i _ hxi;have hcell:c2[off2+i]? = some u:=by
      have:=hxi;rw [s1,List.getElem?_take,if_pos hi,List.getElem?_drop] at this;exact this
     obtain ⟨X,k1,k2⟩:=RC.cell z2 z5 hcell;obtain ⟨sa,cp,k3,k4,k5⟩:=z8q hfit (fun x hx=>(tx q (List.mem_of_getElem? hq) x hx).1) hql k2;refine ⟨sa,cp,?_,?_,fun gg hg=>?_⟩
     ·rw [gN i q hq,ho2,show L2.s+off2+i=L2.s+(off2+i) by omega,k1,k3]
     ·rw [gN i q hq,← k3];exact k4
     ·rw [gN i q hq,← k3] at hg
      obtain ⟨x,L,o,m1,m2,m3,m4⟩:=k5 gg hg;have hx:=tx q (List.mem_of_getElem? hq) x m1;rw [← m3];exact apart x L o hx.1 m4 m2 hx.2.1 hx.2.2
    have key:=Dg.doom_any g L0.b (L0.s+p0) LM.b L3.b L3.s cs3.size cap3 (zex es 0) ck w v hE0 hn (by rw [u3,f6,ho3]) f7 (by rw [u4,f10]) hr hm;have ev2:vs = #[.pointer (some ⟨L0.b,L0.s+p0,none⟩)]:=by
     apply Array.toList_inj.1;rw [ev,eP]
    rw [ev2];refine key.mono ?_
    rintro e W ⟨rfl,hK,hRB,hMM⟩;refine ⟨_,ρ,rfl,?_,⟨#[],rfl,rfl⟩⟩;obtain ⟨cur,te,n1,n2',n3'⟩:=hRB;unfold IsMap at hMM;have get:∀ x,(((S.orM (Nat.lor (Nat.lor (zm t) (zm n2)) ((zgq nx).foldl (fun s n=>Nat.lor s (zm n)) 0))).setted n3 (some (.cells (rs.map z2b)))).setted m (some (.map (zhu es rs) ck))).get x=if x=m then some (.map (zhu es rs) ck) else if x=n3 then some (.cells (rs.map z2b)) else S.get x:=fun x=>by
     rw [St.get_eq];show Tr.get (Tr.put 24 m _ (Tr.put 24 n3 _ S.heap)) x=_;rw [Tr.get_putE,Tr.get_putE,← St.get_eq]
    have was:∀ x o,(((S.orM (Nat.lor (Nat.lor (zm t) (zm n2)) ((zgq nx).foldl (fun s n=>Nat.lor s (zm n)) 0))).setted n3 (some (.cells (rs.map z2b)))).setted m (some (.map (zhu es rs) ck))).get x=some o→∃ o',S.get x=some o':=fun x o ho=>by
     rw [get] at ho
     by_cases e1:x=m
     ·subst e1;exact ⟨_,gm⟩
     ·by_cases e2:x=n3
      ·subst e2;exact ⟨_,g3⟩
      ·rw [if_neg e1,if_neg e2] at ho;exact ⟨o,ho⟩
    refine ⟨fun _ _=>rfl,⟨fun x o hx ho=>?_,fun x y o o' L L' hx hy ho ho' hL hL' hb=>?_⟩,fun x _ _ h1 h2=>absurd h1 (Nat.not_le_of_lt (show x < S.next from h2)),
     fun b hb hno=>?_,hK.size,hlcl,⟨hK.os,hK.tape,hK.output⟩⟩
    ·rw [get] at ho
     by_cases e1:x=m
     ·rw [if_pos e1] at ho;cases ho
      subst e1;refine ⟨LM,f9,_,hMM,?_⟩;exact z2d (F:=g.R) (by rw [q7,rlen]) hkey fun j r hj=>by rw [Nat.zero_add];exact gR j r hj
     ·rw [if_neg e1] at ho
      by_cases e2:x=n3
      ·rw [if_pos e2] at ho;cases ho
       subst e2;refine ⟨L3,f5,cur,te,n1,by rw [n2',z8],by rw [List.length_map,rlen,← q3];exact z9,fun i a hi=>?_⟩;rw [List.getElem?_map] at hi;obtain ⟨r,hr',rfl⟩:=Option.map_eq_some_iff.1 hi;have hiN:i < N2:=by rw [← rlen];exact (List.getElem?_eq_some_iff.1 hr').1
       refine ⟨_,n3' i hiN,?_⟩;rw [gR i r hr'];exact rfl
      ·rw [if_neg e2] at ho
       obtain ⟨L,k1,k2⟩:=hfit.obj x o hx ho;have:=apart x L o hx ho k1 (Ne.symm e2) (Ne.symm e1);exact ⟨L,k1,by rw [hK.same _ k2.some this];exact k2⟩
    ·obtain ⟨o1,h1⟩:=was x o ho
     obtain ⟨o2,h2⟩:=was y o' ho';exact hfit.inj x y o1 o2 L L' hx hy h1 h2 hL hL' hb
    ·refine hK.same b hb ⟨fun e=>?_,fun e=>?_⟩
     ·exact hno n3 _ L3 t3 (zg.2 (.inl (zg.2 (.inr (zl.2 rfl))))) g3 f5 e.symm
     ·exact hno m _ LM tm (zg.2 (.inr (zl.2 rfl))) gm f9 e.symm
   ·cases h
  ·cases h
 ·cases h
end Go.Proofs.YtnfdiohfojjnlaaGreat
namespace Go.Proofs.YtnfdiohfojjnlaaGreat
open Go.Lib (hid)
open Go.RowKit
theorem z4j {α:Type}:∀ {l:List (Nat × α)} {t:Tr α} {k:Nat} {v:α},Tr.get (l.foldl (fun t p=>Tr.put 0 p.1 (some p.2) t) t) k=some v→(k,v)∈l∨Tr.get t k=some v
 | [],_,_,_,h=>.inr h
 | p :: l,t,k,v,h=>by
  rcases z4j (l:=l) h with h | h
  ·exact .inl (by simp [h])
  ·rcases Tr.get_put _ _ _ _ _ _ h with ⟨h1,h2⟩ | ⟨_,h⟩
   ·cases h2;subst h1;exact .inl (by simp)
   ·exact .inr h
theorem ztc {P:Program} {E:Env} {l:List (Nat × (List AV→St→Option Res))} (he:E.tab=zy l) (hl:∀ p∈l,∀ args S r,p.2 args S=some r→Lcl S r.st∧zc0 P E S r (.call p.1 args)):ziu P E:=fun f args S r h=>by
 unfold z5h at h;obtain ⟨s,h1,h2⟩:=zd h;rw [he] at h1
 rcases z4j h1 with h1 | h1
 ·exact hl _ h1 args S r h2
 ·cases h1
noncomputable def z2e:List (Nat × (List AV→St→Option Res)):=[(78,sumL),(65,sumD)]
noncomputable def EE:Env:={ zze Tryz.prog with tab:=zy z2e }
theorem zwo {E:Env}:∀ p∈z2e,∀ args S r,p.2 args S=some r→Lcl S r.st∧zc0 Tryz.prog E S r (.call p.1 args):=fun p hp args S r h=>by
 unfold z2e at hp
 rcases List.mem_cons.1 hp with rfl | hp
 ·exact zadc h
 ·rcases List.mem_cons.1 hp with rfl | hp
  ·exact zadh h
  ·cases hp
theorem zag:zaq EE Tryz.prog:=⟨(zre Tryz.prog).ty,(zre Tryz.prog).fn⟩
theorem zal:ziu Tryz.prog EE:=ztc rfl zwo
theorem zu:Tryz.prog.follows .mixedOrders=true:=by decide +kernel
theorem zw:zb7 Tryz.prog:=fun f fn h=>by
 have hk : ∀ fn ∈ Tryz.prog.funcs.toList, (fn.name == "runtime.NumGoroutine") = false := by decide +kernel
 exact hk fn (List.mem_of_getElem? (by rw [Array.getElem?_toList];exact h))
noncomputable def zaa (f:Nat):Code:=match Tr.get EE.fn f with
 | some fn=>(match fn.body with
  | some c=>c
  | none=>.skip)
 | none=>.skip
noncomputable def zbm (f:Nat):Nat:=match Tr.get EE.fn f with
 | some fn=>fn.ntmps
 | none=>0
theorem zc8 {f:Nat} {fn:Func} {c:Code} (hs:(Tr.get EE.fn f).isSome=true) (hfn:Tryz.prog.funcs[f]? = some fn) (hc:fn.body=some c):zaa f=c∧zbm f=fn.ntmps:=by
 obtain ⟨fn',h1⟩:=Option.isSome_iff_exists.1 hs;have h2:=zag.fn f fn' h1;rw [hfn] at h2;cases h2;unfold zaa zbm;rw [h1];exact ⟨by simp only [hc],rfl⟩
@[reducible] def iN (n:Nat):AV:=.int .i64 (.ofNat n)
theorem zcv:∀ (D k:Nat) (c:Code),za5 k (za5 D c)=za5 (D+k) c
 | 0,k,c=>by rw [Nat.zero_add];rfl
 | D+1,k,.seq a b=>by
  rw [Nat.add_right_comm];exact zcv D k b
 | D+1,k,c=>by
  cases c with
  | seq a b=>rw [Nat.add_right_comm];exact zcv D k b
  | _=>cases k<;>rfl
end Go.Proofs.YtnfdiohfojjnlaaGreat
