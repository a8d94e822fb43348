/-
  The evaluator is right, eleventh part: rows that are appended to.
-/
import Derived.Test.YtnoffnkmibjndaaGreatLb
import Derived.ArgAppend
import Derived.Room.Entries
set_option maxRecDepth 200000
set_option maxHeartbeats 0
namespace Go.Proofs.YtnoffnkmibjndaaGreat
open Go.RowKit
section
variable {E:Env} {P:Program} {T:Nat→Prop} {ρ:Rho} {S:St} {w:World} {tm:Tm} {a:Act}
theorem z44 {v:AV} {V:Value} {n:Nat} (hv:RV ρ v V) (h:z6t v=some n) (w':World):(Builtin.lenOf V).run P w' = .ok n w':=by
 cases v<;>first | (cases h;done) | skip
 ·cases h;have e:V=_:=hv;subst e;rfl
 ·cases h;have e:V=_:=hv;subst e;rfl
 ·cases h;obtain ⟨L,o',_,e,_⟩:=hv;subst e;rfl
 ·cases h;obtain ⟨L,o',c,_,e,_⟩:=hv;subst e;rfl
theorem zyy (h:Fit ρ S T w) {v:AV} {V:Value} (hv:RV ρ v V) {sz k:Nat} {β:Type} {f:List AV→St→Option β} {r:β} (hr:zvl S sz k v f=some r):∃ new S',f new S'=some r∧Lcl S S'∧S'.next=S.next∧new.length=k * sz ∧
  ((∀ n,bit S'.t n→T n)→Stp ρ S T w ρ S' w∧∃ vs:List Value,RVs ρ new vs∧∀ w',w'.heap=w.heap→(Builtin.firstCells sz k V).run P w' = .ok vs.toArray w'):=by
 have row:∀ n off len cap L o',RV ρ v V→ρ n=some L→V = .slice (some ⟨L.b,o',none⟩) len cap→len≤cap→(cap=0∨o'=L.s+off)→k≤len→rdN S n off (Nat.mul k sz) f=some r→∃ new S',f new S'=some r∧Lcl S S'∧S'.next=S.next∧new.length=k * sz ∧
   ((∀ n,bit S'.t n→T n)→Stp ρ S T w ρ S' w∧∃ vs:List Value,RVs ρ new vs∧∀ w',w'.heap=w.heap→(Builtin.firstCells sz k V).run P w' = .ok vs.toArray w'):=fun n off len cap L o' _ hL hX hc ho hk hr=>by
  obtain ⟨x,h1,h2,h3⟩:=zm7 h hr;refine ⟨x,_,h2,zaj S n,rfl,h1,fun hT=>⟨za7 h n,?_⟩⟩;obtain ⟨L',hL',vs,k1,k2,k3⟩:=h3 (hT n (zh.2 (.inr (zl.2 rfl))));rw [hL] at hL';cases hL';refine ⟨vs,k2,fun w' hw=>?_⟩;have k4:=k3 o' (by
   rcases ho with ho | ho
   ·left;have:k=0:=by omega
    subst this;exact Nat.zero_mul _
   ·exact .inr ho)
  have:=run_loadCells_list (P:=P) w' (⟨L.b,o',none⟩:Addr) vs (fun j u hj=>by rw [← k4 j u hj];simp [World.cell?,hw]);rw [k1] at this;rw [hX];exact this
 cases v<;>first | (cases hr;done) | skip
 case str s =>
  obtain ⟨h1,hr⟩:=zg hr;obtain ⟨h2,hr9⟩:=zg hr;have h1:=Nat.eq_of_beq_eq_true h1;have h2:k≤s.size:=Nat.le_of_ble_eq_true h2;subst h1;have e:V = .string s:=hv;subst e;refine ⟨_,S,hr9,.refl S,rfl,?_,fun _=>⟨.refl h,(s.extract 0 k).data.toList.map fun b=>.int .u8 b.toNat,RVs.of (by simp) fun i x hi=>?_,fun w' _=>?_⟩⟩
  ·simp only [List.length_map,Array.length_toList,Nat.mul_one]
   have:(s.extract 0 k).data.size=(s.extract 0 k).size:=rfl;rw [this];simp;omega
  ·rw [List.getElem?_map] at hi ⊢
   cases hb:(s.extract 0 k).data.toList[i]? with
   | none=>rw [hb] at hi;cases hi
   | some b=>rw [hb] at hi;simp at hi;subst hi;exact ⟨_,rfl,rfl⟩
  ·simp [Builtin.firstCells]
   apply Array.ext';simp
 case nils =>
  obtain ⟨h1,hr9⟩:=zg hr;have h1:=Nat.eq_of_beq_eq_true h1;subst h1;have e:V=_:=hv;subst e;exact ⟨[],S,hr9,.refl S,rfl,by simp,fun _=>⟨.refl h,[],rfl,fun w' _=>rfl⟩⟩
 case sl n off len cap =>
  obtain ⟨h1,hr⟩:=zg hr;obtain ⟨L,o',hL,hX,hc,ho⟩:=hv;exact row n off len cap L o' ⟨L,o',hL,hX,hc,ho⟩ hL hX hc ho (Nat.le_of_ble_eq_true h1) hr
 case slo n off len sz' =>
  obtain ⟨h1,hr⟩:=zg hr;obtain ⟨L,o',cap,hL,hX,hc,hk,ho⟩:=hv;exact row n off len cap L o' ⟨L,o',cap,hL,hX,hc,hk,ho⟩ hL hX hc ho (Nat.le_of_ble_eq_true h1) hr
def z62 (P:Program) (t1 e size:Nat) (X:Value) (k:Nat) (vs:List Value) (w:World):Prop :=
 ((∃ d,P.underlying t1=some d∧zvm d=false)∧(∀ w',(Builtin.lenOf X).run P w' = .ok k w')∧∀ w',w'.heap=w.heap→(Builtin.firstCells size k X).run P w' = .ok vs.toArray w') ∨
 ((∃ kk,P.underlying t1=some (.int kk))∧(∃ k2,X = .int k2 k)∧k≤65536∧(∃ i,P.info? e=some i∧i.bytes≤65536)∧∃ Z,(∀ w',(zeroValue e).run P w' = .ok Z w')∧vs=(Builtin.zeroCells Z.cells k).toList∧(k * size=0→vs=[]))
theorem zpt {t0 t1 ty e:Nat} {te:TI} (ht:P.underlying t0=some (.slice e)) (hte:zl8 P e te) {X:Value} {k:Nat} {vs:List Value} (hx:z62 P t1 e te.size X k vs w) {base:Option Addr} {len cap:Nat} (hroom:len+k≤cap) :
  (Builtin.append_ #[t0,t1] ty #[.slice base len cap,X]).run P w=((match base with | some a=>storeCells (a.add (len * te.size)) vs | none=>pure ()).run P w).andThen fun _ w'=>.ok (.slice base (len+k) cap) w':=by
 have hs:=zce (w:=w) hte;have hu:(underlying t0).run P w = .ok (.slice e) w:=by simp [underlying,program,Sem.run,ht]
 rcases hx with ⟨⟨d,hd,hi⟩,hl,hc⟩ | ⟨⟨kk,hd⟩,⟨k2,rfl⟩,hk,⟨i,hi,hb⟩,Z,hz,hvs,hv0⟩
 ·have hu1:(underlying t1).run P w = .ok d w:=by simp [underlying,program,Sem.run,hd]
  have hc':=hc w rfl;cases d<;>first | (cases hi;done) | (cases base<;>simp [Builtin.append_,hu,hu1,hs,hl,hroom,hc',Result.andThen])
 ·have hu1:(underlying t1).run P w = .ok (.int kk) w:=by simp [underlying,program,Sem.run,hd]
  have w1:IntKind.i64.wrap (k:Int)=k:=IntWalk.i64_in _ (by omega);have ti:(typeInfo e).run P w = .ok i w:=by simp [typeInfo,program,Sem.run,hi]
  have n1:¬ ((k:Int) < 0):=by omega
  have m1:k * i.bytes≤4294967296:=Nat.mul_le_mul hk hb;have p48:(2:Int) ^ 48=281474976710656:=rfl;have m2:¬ ((k:Int) * (i.bytes:Int) > 281474976710656):=by rw [← Int.natCast_mul];omega
  have m2':¬ (281474976710656 < (k:Int) * (i.bytes:Int)):=m2
  by_cases h0:k * te.size=0
  ·have:=hv0 h0
   subst this;cases base<;>simp [Builtin.append_,hu,hu1,hs,ti,asInt,asIntOf,w1,n1,m2',hroom,Result.andThen]<;>rw [if_pos h0]
  ·have hz':=hz w
   cases base<;>simp [Builtin.append_,hu,hu1,hs,ti,asInt,asIntOf,w1,n1,m2',hroom,hz',hvs,Result.andThen]<;>rw [if_neg h0]
end
section
variable {E:Env} {P:Program} {T:Nat→Prop} {ρ:Rho} {S:St} {w:World} {tm:Tm} {a:Act}
theorem zuc {t0 t1 ty e:Nat} {te:TI} (ht:P.underlying t0=some (.slice e)) (hte:zl8 P e te) (hby:te.bytes≤65536) {Z:Value} (hZ:∀ w',(zeroValue e).run P w' = .ok Z w') {X:Value} {k:Nat} {vs olds:List Value}
  (hx:z62 P t1 e te.size X k vs w) {base:Option Addr} {len cap:Nat} (hg:¬ len+k≤cap) (hn:len+k≤65536)
  (hold:∀ w',w'.heap=w.heap→(Builtin.firstCells te.size len (.slice base len cap)).run P w' = .ok olds.toArray w') :
  ∃ C,len+k≤C∧(Builtin.append_ #[t0,t1] ty #[.slice base len cap,X]).run P w = .ok (.slice (some ⟨w.heap.size,0,none⟩) (len+k) C)
   (w.drew.alloc (.cells (olds.toArray ++ vs.toArray ++ Builtin.zeroCells Z.cells (C - (len+k))) e)):=by
 have hs:=zce (w:=w) hte;have hu:(underlying t0).run P w = .ok (.slice e) w:=by simp [underlying,program,Sem.run,ht]
 obtain ⟨i,i1,i2,_⟩:=hte.info;have hb:=hte.bytes i i1;have tiD:∀ w',(typeInfo e).run P w' = .ok i w':=fun w'=>by simp [typeInfo,program,Sem.run,i1]
 have hcap:=Room.nextslicecap_le' (need:=len+k) (old:=cap) (by omega);have hfit:¬ (281474976710656 < Builtin.nextslicecap (len+k) cap * i.bytes):=by
  have:Builtin.nextslicecap (len+k) cap * i.bytes≤131072 * 65536:=Nat.mul_le_mul (by omega) (by omega);omega
 have h63:¬ (9223372036854775807 < ((len:Int)+(k:Int))):=by omega
 have hwD:w.drew.heap=w.heap:=rfl;refine ⟨grownCap w (len+k) cap e,grownCap_ge _ _ _ _,?_⟩;have hold':=hold _ hwD;have key:∀ q:Array Value,olds.toArray ++ (vs.toArray ++ q)=(olds ++ vs).toArray ++ q:=fun q=>by apply Array.ext';simp
 rcases hx with ⟨⟨d,hd,hi⟩,hl,hc⟩ | ⟨⟨kk,hd⟩,⟨k2,rfl⟩,hk,⟨i',hi',hb'⟩,Z',hz,hvs,hv0⟩
 ·have hu1:(underlying t1).run P w = .ok d w:=by simp [underlying,program,Sem.run,hd]
  have hc':=hc _ hwD;cases d<;>first
   | (cases hi;done)
   | (simp [Builtin.append_,hu,hu1,hs,hl,hg,h63,hfit,tiD,Question.forced,hold',hc',hZ,Result.andThen,askRoom,grownCap,newRow]
      rw [key];rfl)
 ·have hu1:(underlying t1).run P w = .ok (.int kk) w:=by simp [underlying,program,Sem.run,hd]
  have w1:IntKind.i64.wrap (k:Int)=k:=IntWalk.i64_in _ (by omega);have n1:¬ ((k:Int) < 0):=by omega
  have m1:k * i.bytes≤4294967296:=by rw [hb];exact Nat.mul_le_mul hk hby
  have m2':¬ (281474976710656 < (k:Int) * (i.bytes:Int)):=by rw [← Int.natCast_mul];omega
  have eZ:Z'=Z:=by
   have:=(hz w).symm.trans (hZ w);cases this;rfl
  subst eZ
  by_cases h0:k * te.size=0
  ·have:=hv0 h0
   subst this;simp [Builtin.append_,hu,hu1,hs,asInt,asIntOf,w1,n1,m2',hg,h63,hfit,tiD,Question.forced,hold',hZ,Result.andThen,askRoom,grownCap,newRow,if_pos h0];rfl
  ·simp [Builtin.append_,hu,hu1,hs,asInt,asIntOf,w1,n1,m2',hg,h63,hfit,tiD,Question.forced,hold',hZ,hvs,Result.andThen,askRoom,grownCap,newRow,if_neg h0]
   rfl
end
end Go.Proofs.YtnoffnkmibjndaaGreat
