/-
  An evaluator of closed calls: abstract values and an abstract memory of named blocks; what it reckons holds of the machine, whatever the order of drawn regions, the capacities that append draws and the blocks that lie there. This text: the definitions. (Recursors stand bare, their cases closed: so the kernel reckons fast.)
-/
import Derived.OwnWalkIn
import Derived.Laws.CopyRow
import Derived.Orders
import Derived.IntWalk
set_option maxRecDepth 200000
set_option maxHeartbeats 0
namespace Go.Proofs.YtnfdiohfojjnlaaGreat
open Go.RowKit
noncomputable def bnd {α β:Type} (x:Option α) (k:α→Option β):Option β:=@Option.rec α (fun _=>Option β) none k x
noncomputable def zk {β:Type} (c:Bool) (x y:β):β:=@Bool.rec (fun _=>β) y x c
noncomputable def fcN {β:Type} (n:Nat) (k:Nat→β):β:=@Nat.rec (fun _=>β) (k 0) (fun m _=>k (Nat.succ m)) n
noncomputable def fcI {β:Type} (n:Int) (k:Int→β):β:=@Int.rec (fun _=>β) (fun a=>fcN a fun a=>k (.ofNat a)) (fun a=>fcN a fun a=>k (.negSucc a)) n
inductive Tr (α:Type) where
 | leaf
 | node (l:Tr α) (v:Option α) (r:Tr α)
inductive Bin where
 | z
 | o (p:Bin)
 | i (p:Bin)
noncomputable def zic (f:Nat):Nat→Bin:=@Nat.rec (fun _=>Nat→Bin) (fun _=>.z) (fun _ ih n=>@Nat.rec (fun _=>Bin) .z (fun m _=>@Nat.rec (fun _=>Bin) (.o (ih (Nat.div m 2))) (fun _ _=>.i (ih (Nat.div m 2))) (Nat.mod m 2)) n) f
noncomputable def zea (n:Nat):Bin:=zic n n
noncomputable def Tr.getB {α:Type}:Tr α→Bin→Option α :=
 @Tr.rec α (fun _=>Bin→Option α) (fun _=>none) (fun _ v _ gl gr b=>@Bin.rec (fun _=>Option α) v (fun p _=>gl p) (fun p _=>gr p) b)
noncomputable def Tr.get {α:Type} (t:Tr α) (n:Nat):Option α:=Tr.getB t (zea n)
noncomputable def Tr.lf {α:Type} (t:Tr α):Tr α:=@Tr.casesOn α (fun _=>Tr α) t .leaf (fun l _ _=>l)
noncomputable def Tr.rt {α:Type} (t:Tr α):Tr α:=@Tr.casesOn α (fun _=>Tr α) t .leaf (fun _ _ r=>r)
noncomputable def Tr.vl {α:Type} (t:Tr α):Option α:=@Tr.casesOn α (fun _=>Option α) t none (fun _ v _=>v)
noncomputable def Tr.putB {α β:Type} (x:Option α):Bin→Tr α→(Tr α→β)→β :=
 @Bin.rec (fun _=>Tr α→(Tr α→β)→β)
  (fun t k=>@Tr.rec α (fun _=>β) (k (.node .leaf x .leaf)) (fun l _ r _ _=>k (.node l x r)) t)
  (fun _ ih t k=>@Tr.rec α (fun _=>β) (ih .leaf fun l=>k (.node l none .leaf)) (fun l v r _ _=>ih l fun l=>k (.node l v r)) t)
  (fun _ ih t k=>@Tr.rec α (fun _=>β) (ih .leaf fun r=>k (.node .leaf none r)) (fun l v r _ _=>ih r fun r=>k (.node l v r)) t)
noncomputable def Tr.putK {α β:Type} (_:Nat) (n:Nat) (x:Option α) (t:Tr α) (k:Tr α→β):β:=Tr.putB x (zea n) t k
noncomputable def Tr.put {α:Type} (_:Nat) (n:Nat) (x:Option α) (t:Tr α):Tr α:=Tr.putB x (zea n) t fun t=>t
noncomputable def Tr.ofList {α:Type} (l:List α):Nat→Tr α→Tr α:=@List.rec α (fun _=>Nat→Tr α→Tr α) (fun _ t=>t) (fun x _ ih i t=>ih (Nat.succ i) (Tr.put 24 i (some x) t)) l
inductive AV where
 | bool (b:Bool) | int (k:IntKind) (n:Int) | str (s:ByteArray)
 | nilp | ptr (n off:Nat)
 | nils | sl (n off len cap:Nat) | slo (n off len sz:Nat)
 | nilm | map (n:Nat)
 | fn (f:Nat) (fst cap:List AV) | yield (l:Nat) | nilf
 | agg (l:List AV) | tup (l:List AV)
inductive AO where
 | cells (l:List AV)
 | map (es:List (AV × AV × Nat)) (clock:Nat)
 | loop (st:LoopState) (pend:Option Code) (tm:Tr AV) (sz:Nat) (ps:List Nat) (assign body:Code) (dn:Nat)
 | dfr
 | striter (s:ByteArray) (pos:Nat)
 | it (m ck:Nat) (seen:List Nat)
 | itAt (m ck born:Nat)
 | mapk (es:List (AV × AV × Nat)) (ck i:Nat) (there:Bool)
 | row (l:List AV)
structure St where
 heap:Tr AO
 next:Nat
 t:Nat
 w:Nat
noncomputable def AV.undef:AV:=.tup []
noncomputable def AV.cells:AV→List AV:=@AV.rec (fun _=>List AV) (fun _=>PUnit) (fun b=>[.bool b]) (fun k n=>[.int k n]) (fun s=>[.str s]) [.nilp] (fun n o=>[.ptr n o]) [.nils] (fun a b c d=>[.sl a b c d]) (fun a b c d=>[.slo a b c d])
 [.nilm] (fun n=>[.map n]) (fun f a b _ _=>[.fn f a b]) (fun l=>[.yield l]) [.nilf] (fun l _=>l) (fun l _=>[.tup l]) PUnit.unit (fun _ _ _ _=>PUnit.unit)
noncomputable def zvy:AV→Option (IntKind × Int):=@AV.rec (fun _=>Option (IntKind × Int)) (fun _=>PUnit) (fun _=>none) (fun k n=>some (k,n)) (fun _=>none) none (fun _ _=>none) none (fun _ _ _ _=>none) (fun _ _ _ _=>none)
 none (fun _=>none) (fun _ _ _ _ _=>none) (fun _=>none) none (fun _ _=>none) (fun _ _=>none) PUnit.unit (fun _ _ _ _=>PUnit.unit)
noncomputable def zkq:AV→Option (Nat × Nat):=@AV.rec (fun _=>Option (Nat × Nat)) (fun _=>PUnit) (fun _=>none) (fun _ _=>none) (fun _=>none) none (fun n o=>some (n,o)) none (fun _ _ _ _=>none) (fun _ _ _ _=>none)
 none (fun _=>none) (fun _ _ _ _ _=>none) (fun _=>none) none (fun _ _=>none) (fun _ _=>none) PUnit.unit (fun _ _ _ _=>PUnit.unit)
noncomputable def zvz:AV→Option Bool:=@AV.rec (fun _=>Option Bool) (fun _=>PUnit) (fun b=>some b) (fun _ _=>none) (fun _=>none) none (fun _ _=>none) none (fun _ _ _ _=>none) (fun _ _ _ _=>none)
 none (fun _=>none) (fun _ _ _ _ _=>none) (fun _=>none) none (fun _ _=>none) (fun _ _=>none) PUnit.unit (fun _ _ _ _=>PUnit.unit)
noncomputable def zafb:AV→Bool:=@AV.rec (fun _=>Bool) (fun _=>PUnit) (fun _=>false) (fun _ _=>false) (fun _=>false) false (fun _ _=>true) false (fun _ _ _ _=>true) (fun _ _ _ _=>true)
 false (fun _=>true) (fun _ _ _ _ _=>true) (fun _=>true) false (fun _ _=>false) (fun _ _=>false) PUnit.unit (fun _ _ _ _=>PUnit.unit)
noncomputable def zda:AO→Option (List AV):=@AO.rec (fun _=>Option (List AV)) (fun l=>some l) (fun _ _=>none) (fun _ _ _ _ _ _ _ _=>none) none (fun _ _=>none) (fun _ _ _=>none) (fun _ _ _=>none) (fun _ _ _ _=>none) (fun _=>none)
noncomputable def z0q:AO→Option (List AV):=@AO.rec (fun _=>Option (List AV)) (fun l=>some l) (fun _ _=>none) (fun _ _ _ _ _ _ _ _=>none) none (fun _ _=>none) (fun _ _ _=>none) (fun _ _ _=>none) (fun _ _ _ _=>none) (fun l=>some l)
abbrev Ent:=AV × AV × Nat
noncomputable def zid:AO→Option (List Ent × Nat):=@AO.rec (fun _=>Option (List Ent × Nat)) (fun _=>none) (fun es c=>some (es,c)) (fun _ _ _ _ _ _ _ _=>none) none (fun _ _=>none) (fun _ _ _=>none) (fun _ _ _=>none) (fun _ _ _ _=>none) (fun _=>none)
structure Mk where
 es:List Ent
 ck:Nat
 i:Nat
 th:Bool
noncomputable def zzd (o:AO):Option Mk:=match o with
 | .mapk es ck i th=>some ⟨es,ck,i,th⟩
 | _=>none
noncomputable def itO (o:AO):Option (Nat × Nat × List Nat):=match o with
 | .it m ck seen=>some (m,ck,seen)
 | _=>none
noncomputable def zabh (o:AO):Option (Nat × Nat × Nat):=match o with
 | .itAt m ck b=>some (m,ck,b)
 | _=>none
def zm (n:Nat):Nat:=Nat.shiftLeft 1 n
noncomputable def St.touch {β:Type} (S:St) (n:Nat) (k:St→β):β:=@St.rec (fun _=>β) (fun h x t w=>fcN (Nat.lor t (zm n)) fun t=>k ⟨h,x,t,w⟩) S
noncomputable def St.alloc {β:Type} (S:St) (o:AO) (k:Nat→St→β):β :=
 @St.rec (fun _=>β) (fun h n t w=>fcN n fun n=>fcN (Nat.lor t (zm n)) fun t=>fcN (Nat.lor w (zm n)) fun w=>Tr.putK 24 n (some o) h fun h=>k n ⟨h,Nat.succ n,t,w⟩) S
noncomputable def St.get (S:St) (n:Nat):Option AO:=@St.rec (fun _=>Option AO) (fun h _ _ _=>Tr.get h n) S
noncomputable def St.set {β:Type} (S:St) (n:Nat) (o:Option AO) (k:St→β):β :=
 @St.rec (fun _=>β) (fun h x t w=>fcN (Nat.lor t (zm n)) fun t=>fcN (Nat.lor w (zm n)) fun w=>Tr.putK 24 n o h fun h=>k ⟨h,x,t,w⟩) S
noncomputable def zog (v:Value):Option AV:=match v with
 | .bool b=>some (.bool b) | .int k n=>some (.int k n) | .string s=>some (.str s) | .pointer none=>some .nilp
 | .slice none 0 0=>some .nils | .map none=>some .nilm | .nilFunc=>some .nilf | _=>none
noncomputable def zh2:List Value→Option (List AV)
 | []=>some []
 | v :: vs=>bnd (zog v) fun a=>bnd (zh2 vs) fun l=>some (a :: l)
noncomputable def zoh (v:Value):Option AV:=match v with
 | .agg cs=>bnd (zh2 cs.toList) fun l=>some (.agg l)
 | .tuple cs=>bnd (zh2 cs.toList) fun l=>some (.tup l)
 | v=>zog v
structure TI where
 und:TypeDesc
 size:Nat
 agg:Bool
 zero:Option (List AV)
 zv:Option AV
 bytes:Nat
def zh3 (d:TypeDesc):Bool:=match d with
 | .struct _=>true | .array _ _=>true | _=>false
noncomputable def z9y (P:Program) (t:Nat):Option TI:=match P.underlying t,P.info? t with
 | some d,some i =>
  let z:=match i.zero with | some v=>zoh v | none=>none
  some ⟨d,i.size,zh3 d,match z with | some z=>some z.cells | none=>none,z,i.bytes⟩
 | _,_=>none
structure Tm where
 m:Tr AV
 sz:Nat
inductive Ex where
 | normal | ret | exit (id:Nat) | goto (l:Nat)
structure Res where
 ex:Ex
 tm:Tm
 mks:List Nat
 v:AV
 st:St
structure Env where
 ty:Tr (Option TI)
 fn:Tr Func
 tab:Tr (List AV→St→Option Res)
noncomputable def zze (P:Program):Env:=⟨Tr.ofList ((List.range P.types.size).map (z9y P)) 0 .leaf,Tr.ofList P.funcs.toList 0 .leaf,.leaf⟩
noncomputable def Env.tyOf (E:Env) (t:Nat):Option TI:=bnd (Tr.get E.ty t) fun o=>o
noncomputable def Tm.putK {β:Type} (T:Tm) (d:Option Nat) (v:AV) (k:Tm→Option β):Option β :=
 @Option.rec Nat (fun _=>Option β) (k T) (fun d=>@Tm.rec (fun _=>Option β) (fun m sz=>zk (Nat.ble (Nat.succ d) sz) (Tr.putK 24 d (some v) m fun m=>k ⟨m,sz⟩) none) T) d
noncomputable def Tm.get (T:Tm) (t:Nat):Option AV:=@Tm.rec (fun _=>Option AV) (fun m _=>Tr.get m t) T
noncomputable def opd:Tm→Operand→Option AV:=fun T x=>@Operand.rec (fun _=>Tm→Option AV) (fun t T=>T.get t) (fun v _=>zoh v) (fun _ _=>none) (fun f _=>some (.fn f [] [])) x T
noncomputable def zoi (T:Tm):List Operand→Option (List AV) :=
 @List.rec Operand (fun _=>Option (List AV)) (some []) (fun x _ ih=>bnd (opd T x) fun a=>bnd ih fun l=>some (a :: l))
noncomputable def zv0 (T:Tm) (x:Option Operand):Option (Option AV):=match x with
 | none=>some none
 | some x=>bnd (opd T x) fun a=>some (some a)
noncomputable def nth {α:Type} (l:List α):Nat→Option α:=@List.rec α (fun _=>Nat→Option α) (fun _=>none) (fun x _ ih n=>@Nat.rec (fun _=>Option α) (some x) (fun m _=>ih m) n) l
noncomputable def z9z {α:Type} (l:List α):Nat→α→Option (List α) :=
 @List.rec α (fun _=>Nat→α→Option (List α)) (fun _ _=>none) (fun x t ih n v=>@Nat.rec (fun _=>Option (List α)) (some (v :: t)) (fun m _=>bnd (ih m v) fun t'=>some (x :: t')) n) l
noncomputable def seg {α:Type} (l:List α) (off len:Nat):Option (List α):=let x:=(l.drop off).take len;zk (Nat.beq x.length len) (some x) none
noncomputable def zt4 {α:Type} (l:List α) (off:Nat) (vs:List α):Option (List α):=zk (Nat.ble (Nat.add off vs.length) l.length) (some (l.take off ++ (vs ++ l.drop (Nat.add off vs.length)))) none
inductive OpR where
 | val (v:AV) (S:St)
 | call (f:Nat) (args:List AV) (S:St)
 | yield (l:Nat) (args:List AV) (S:St)
noncomputable def rd1 {β:Type} (S:St) (n off:Nat) (k:AV→St→Option β):Option β:=bnd (S.get n) fun o=>bnd (z0q o) fun l=>bnd (nth l off) fun v=>S.touch n (k v)
noncomputable def rdN {β:Type} (S:St) (n off len:Nat) (k:List AV→St→Option β):Option β:=bnd (S.get n) fun o=>bnd (z0q o) fun l=>bnd (seg l off len) fun x=>S.touch n (k x)
noncomputable def zkr:AV→Bool:=@AV.rec (fun _=>Bool) (fun _=>PUnit) (fun _=>true) (fun _ _=>true) (fun _=>true) true (fun _ _=>true) true (fun _ _ _ _=>true) (fun _ _ _ _=>true)
 true (fun _=>true) (fun _ _ _ _ _=>true) (fun _=>true) true (fun _ _=>false) (fun _ _=>false) PUnit.unit (fun _ _ _ _=>PUnit.unit)
noncomputable def ze1 (a b:Bool):Bool:=@Bool.rec (fun _=>Bool) false b a
noncomputable def zeb {α:Type} (p:α→Bool) (l:List α):Bool:=@List.rec α (fun _=>Bool) true (fun x _ ih=>ze1 (p x) ih) l
noncomputable def wr1 {β:Type} (S:St) (n off:Nat) (v:AV) (k:St→Option β):Option β:=bnd (S.get n) fun o=>bnd (zda o) fun l=>zk (zkr v) (bnd (z9z l off v) fun l=>S.set n (some (.cells l)) k) none
noncomputable def wrN {β:Type} (S:St) (n off:Nat) (vs:List AV) (k:St→Option β):Option β:=bnd (S.get n) fun o=>bnd (zda o) fun l=>zk (zeb zkr vs) (bnd (zt4 l off vs) fun l=>S.set n (some (.cells l)) k) none
noncomputable def isNil {α:Type} (l:List α):Bool:=@List.rec α (fun _=>Bool) true (fun _ _ _=>false) l
noncomputable def wrL {β:Type} (S:St) (n off:Nat) (vs:List AV) (k:St→Option β):Option β:=zk (isNil vs) (k S) (wrN S n off vs k)
noncomputable def prun {α:Type} (P:Program):Sem α→Option α
 | .pure a=>some a
 | .program k=>prun P (k P)
 | .mark _ k=>prun P k
 | _=>none
noncomputable def zq1 (a:AV):Option Value:=match a with
 | .bool b=>some (.bool b) | .int k n=>some (.int k n) | .str s=>some (.string s) | .nilp=>some (.pointer none)
 | .nils=>some (.slice none 0 0) | .nilm=>some (.map none) | .nilf=>some .nilFunc | _=>none
noncomputable def zoj:List AV→Option (List Value)
 | []=>some []
 | a :: l=>bnd (zq1 a) fun v=>bnd (zoj l) fun vs=>some (v :: vs)
noncomputable def zf9 (a:AV):Option Value:=match a with
 | .agg l=>bnd (zoj l) fun vs=>some (.agg vs.toArray)
 | .tup l=>bnd (zoj l) fun vs=>some (.tuple vs.toArray)
 | a=>zq1 a
noncomputable def zpz (T:Tm) (x:Operand):Option Value:=bnd (opd T x) zf9
noncomputable def zgi (T:Tm):List Operand→Bool
 | []=>true
 | x :: l=>match zpz T x with
  | some _=>zgi T l
  | none=>false
noncomputable def rho (T:Tm) (x:Operand):Value:=match zpz T x with
 | some v=>v
 | none=>undef
noncomputable def valueOf (x:Next):Option AV:=match x with
 | .value v=>zoh v
 | _=>none
noncomputable def z0r (o:Op):Bool:=match o with
 | .select ..=>false
 | _=>true
noncomputable def zp0 (P:Program) (T:Tm) (o:Oper):Option AV:=zk (z0r o.op) (zk (zgi T o.op.operands.toList) (bnd (prun P (execOp (rho T) o)) valueOf) none) none
noncomputable def inRv (k:IntKind) (n:Int):Bool:=@IntKind.rec (fun _=>Int→Bool) (fun _=>false) (fun _=>false) (fun _=>false)
 (@Int.rec (fun _=>Bool) (fun a=>Nat.ble a 9223372036854775807) (fun a=>Nat.ble a 9223372036854775807)) (@Int.rec (fun _=>Bool) (fun a=>Nat.ble a 255) (fun _=>false)) (fun _=>false) (fun _=>false)
 (@Int.rec (fun _=>Bool) (fun a=>Nat.ble a 18446744073709551615) (fun _=>false)) k n
noncomputable def wrI (k:IntKind) (n:Int):Int:=zk (inRv k n) n (k.wrap n)
noncomputable def zsy (k:IntKind) (n:Int):Option AV:=fcI (wrI k n) fun z=>some (.int k z)
noncomputable def ltI (x y:Int):Bool:=@Int.rec (fun _=>Bool) (fun a=>@Int.rec (fun _=>Bool) (fun b=>Nat.ble (Nat.succ a) b) (fun _=>false) y) (fun a=>@Int.rec (fun _=>Bool) (fun _=>true) (fun b=>Nat.ble (Nat.succ b) a) y) x
noncomputable def eqI (x y:Int):Bool:=@Int.rec (fun _=>Bool) (fun a=>@Int.rec (fun _=>Bool) (fun b=>Nat.beq a b) (fun _=>false) y) (fun a=>@Int.rec (fun _=>Bool) (fun _=>false) (fun b=>Nat.beq a b) y) x
noncomputable def isZ (x:Int):Bool:=eqI x 0
noncomputable def kIx:IntKind→Nat:=@IntKind.rec (fun _=>Nat) 0 1 2 3 4 5 6 7
noncomputable def kEq (k k':IntKind):Bool:=Nat.beq (kIx k) (kIx k')
noncomputable def zks (b:Bool):Option AV:=@Bool.rec (fun _=>Option AV) (some (.bool false)) (some (.bool true)) b
noncomputable def binI:BinOp→IntKind→Int→Int→Option AV:=@BinOp.rec (fun _=>IntKind→Int→Int→Option AV)
 (fun k x y=>zsy k (Int.add x y)) (fun k x y=>zsy k (Int.sub x y)) (fun k x y=>zsy k (Int.mul x y))
 (fun k x y=>zk (isZ y) none (zsy k (Int.tdiv x y))) (fun k x y=>zk (isZ y) none (fcI (Int.tmod x y) fun z=>some (.int k z)))
 (fun _ _ _=>none) (fun _ _ _=>none) (fun _ _ _=>none) (fun _ _ _=>none) (fun _ _ _=>none) (fun _ _ _=>none)
 (fun _ x y=>zks (eqI x y)) (fun _ x y=>zks (Bool.not (eqI x y))) (fun _ x y=>zks (ltI x y)) (fun _ x y=>zks (Bool.not (ltI y x))) (fun _ x y=>zks (ltI y x)) (fun _ x y=>zks (Bool.not (ltI x y)))
noncomputable def z5a (a b:AV):Option Bool:=match a,b with
 | .nilp,.nilp=>some true | .nilp,.ptr _ _=>some false | .ptr _ _,.nilp=>some false
 | .nils,.nils=>some true | .nils,.sl _ _ _ _=>some false | .sl _ _ _ _,.nils=>some false | .nils,.slo _ _ _ _=>some false | .slo _ _ _ _,.nils=>some false
 | .nilm,.nilm=>some true | .nilm,.map _=>some false | .map _,.nilm=>some false
 | .nilf,.nilf=>some true | .nilf,.fn _ _ _=>some false | .fn _ _ _,.nilf=>some false
 | _,_=>none
noncomputable def zzf (d:TypeDesc) (a:AV):Bool:=match d,a with
 | .pointer _,.nilp=>true | .pointer _,.ptr _ _=>true | .slice _,.nils=>true | .slice _,.sl _ _ _ _=>true | .slice _,.slo _ _ _ _=>true
 | .map _ _,.nilm=>true | .map _ _,.map _=>true | .func _ _ _,.nilf=>true | .func _ _ _,.fn _ _ _=>true | _,_=>false
noncomputable def zad1 (op:BinOp):Option Bool:=match op with
 | .eql=>some true | .neq=>some false | _=>none
noncomputable def z5b (E:Env) (op:BinOp) (t:Nat) (a b:AV):Option AV:=bnd (zad1 op) fun e=>bnd (E.tyOf t) fun ti=>zk (zzf ti.und a) (zk (zzf ti.und b) (bnd (z5a a b) fun r=>zks (zk e r (Bool.not r))) none) none
noncomputable def zabi (E:Env) (op:BinOp) (t:Nat) (a b:AV):Option AV:=@Option.rec (IntKind × Int) (fun _=>Option AV) (z5b E op t a b)
 (fun x=>@Option.rec (IntKind × Int) (fun _=>Option AV) none (fun y=>zk (kEq x.1 y.1) (binI op x.1 x.2 y.2) none) (zvy b)) (zvy a)
noncomputable def zgv (v:AV):Option Nat:=bnd (zvy v) fun p=>@Int.rec (fun _=>Option Nat) (fun a=>some a) (fun _=>none) p.2
noncomputable def zcq (x:Option AV) (d:Nat):Option Nat:=match x with
 | none=>some d
 | some v=>zgv v
noncomputable def isNone {α:Type} (x:Option α):Bool:=@Option.rec α (fun _=>Bool) true (fun _=>false) x
noncomputable def zb4 (d:TypeDesc):Option Nat:=match d with
 | .slice e=>some e
 | _=>none
noncomputable def zlc (d:TypeDesc):Option (Nat × Nat):=match d with
 | .array n e=>some (n,e)
 | _=>none
noncomputable def z7k (d:TypeDesc):Option Nat:=match d with
 | .pointer e=>some e
 | _=>none
noncomputable def zp1 (d:TypeDesc):Option (List Field):=match d with
 | .struct fs=>some fs.toList
 | _=>none
noncomputable def z5c (n off l h m sz:Nat):AV:=.sl n (zk (Nat.beq m l) off (Nat.add off (Nat.mul l sz))) (Nat.sub h l) (Nat.sub m l)
noncomputable def z90 (v:AV) (k:AV→Option OpR):Option OpR:=match v with
 | .sl n off len cap=>fcN off fun off=>fcN len fun len=>fcN cap fun cap=>k (.sl n off len cap)
 | .slo n off len sz=>fcN off fun off=>fcN len fun len=>k (.slo n off len sz)
 | v=>k v
noncomputable def zld (l:List AV) (off sz:Nat):Nat:=Nat.div (Nat.sub l.length off) sz
noncomputable def zjn (S:St) (v:AV):Option OpR:=z90 v fun v=>some (.val v S)
noncomputable def zsz {α:Type} (hi mx:Option α):Bool:=zk (isNone mx) true (Bool.not (isNone hi))
noncomputable def zec (S:St) (n off len cap sz:Nat) (lo hi mx:Option AV):Option OpR:=bnd (zcq mx cap) fun m=>bnd (zcq hi len) fun h=>bnd (zcq lo 0) fun l =>
  zk (zsz hi mx) (zk (Nat.ble m cap) (zk (Nat.ble h m) (zk (Nat.ble l h) (zjn S (z5c n off l h m sz)) none) none) none) none
noncomputable def zh4 (S:St) (n off len sz:Nat) (lo hi:Option AV):Option OpR:=bnd (zcq hi len) fun h=>bnd (zcq lo 0) fun l=>zk (Nat.ble l h)
  (zk (Nat.ble h len) (zjn S (.slo n (Nat.add off (Nat.mul l sz)) (Nat.sub h l) sz))
   (bnd (S.get n) fun o=>bnd (zda o) fun c=>zk (Nat.ble h (zld c off sz)) (S.touch n fun S=>zjn S (.slo n (Nat.add off (Nat.mul l sz)) (Nat.sub h l) sz)) none)) none
noncomputable def z7l (S:St) (sz:Nat) (x:AV) (lo hi mx:Option AV):Option OpR:=match x with
 | .nils=>bnd (zcq mx 0) fun m=>bnd (zcq hi 0) fun h=>bnd (zcq lo 0) fun l=>zk (zsz hi mx) (zk (Nat.beq m 0) (zk (Nat.beq h 0) (zk (Nat.beq l 0) (some (.val .nils S)) none) none) none) none
 | .sl n off len cap=>zec S n off len cap sz lo hi mx
 | .slo n off len sz'=>zk (Nat.beq sz sz') (zk (Nat.ble 1 sz) (zk (isNone mx) (zh4 S n off len sz lo hi) (zec S n off len len sz lo hi mx)) none) none
 | _=>none
noncomputable def zq2 (E:Env) (S:St) (t:Nat) (x:AV) (lo hi mx:Option AV):Option OpR:=bnd (E.tyOf t) fun ti=>match ti.und with
 | .slice e=>bnd (E.tyOf e) fun te=>z7l S te.size x lo hi mx
 | .array len e=>bnd (E.tyOf e) fun te=>bnd (zkq x) fun p=>zec S p.1 p.2 len len te.size lo hi mx
 | .pointer a=>bnd (E.tyOf a) fun ta=>bnd (zlc ta.und) fun ne=>bnd (E.tyOf ne.2) fun te=>bnd (zkq x) fun p=>zec S p.1 p.2 ne.1 ne.1 te.size lo hi mx
 | _=>none
noncomputable def z5d (v:AV):Option Nat:=match v with
 | .nils=>some 0 | .sl _ _ n _=>some n | .slo _ _ n _=>some n | .str s=>some s.size | _=>none
noncomputable def zt5 {β:Type} (S:St) (sz k:Nat) (v:AV) (f:List AV→St→Option β):Option β:=match v with
 | .nils=>zk (Nat.beq k 0) (f [] S) none
 | .sl n off len _=>zk (Nat.ble k len) (rdN S n off (Nat.mul k sz) f) none
 | .slo n off len _=>zk (Nat.ble k len) (rdN S n off (Nat.mul k sz) f) none
 | .str s=>zk (Nat.beq sz 1) (zk (Nat.ble k s.size) (f ((s.extract 0 k).data.toList.map fun b=>.int .u8 (.ofNat b.toNat)) S) none) none
 | _=>none
noncomputable def zdl {α:Type} (n:Nat) (z:List α):List α:=@Nat.rec (fun _=>List α) [] (fun _ ih=>z ++ ih) n
noncomputable def zp2 (n:Nat):Bool:=Nat.ble n 65536
noncomputable def zbe (S:St) (l:List AV) (len sz:Nat):Option OpR:=zk (zp2 len) (fcN len fun len=>S.alloc (.cells l) fun n S=>some (.val (.slo n 0 len sz) S)) none
noncomputable def zok (S:St) (sz:Nat) (s:AV) (k:Nat) (new:List AV):Option OpR:=match s with
 | .nils=>zk (Nat.beq k 0) (some (.val .nils S)) (zbe S new k sz)
 | .sl n off len cap=>zk (Nat.ble (Nat.add len k) cap)
   (wrL S n (Nat.add off (Nat.mul len sz)) new fun S=>zjn S (.sl n off (Nat.add len k) cap))
   (rdN S n off (Nat.mul len sz) fun old S=>zbe S (old ++ new) (Nat.add len k) sz)
 | .slo n off len sz'=>zk (Nat.beq sz sz') (zk (Nat.ble 1 sz) (bnd (S.get n) fun o=>bnd (zda o) fun c=>zk (Nat.ble (Nat.add len k) (zld c off sz))
   (wrL S n (Nat.add off (Nat.mul len sz)) new fun S=>S.touch n fun S=>zjn S (.slo n off (Nat.add len k) sz))
   (zk (zeb zkr new) (rdN S n off (Nat.mul len sz) fun old S=>S.set n none fun S=>zbe S (old ++ new) (Nat.add len k) sz) none)) none) none
 | _=>none
noncomputable def zt6 (d:TypeDesc):Bool:=match d with
 | .int _=>true
 | _=>false
noncomputable def zg9 (E:Env) (S:St) (ats:List Nat) (s x:AV):Option OpR:=match ats with
 | [t0,t1]=>bnd (E.tyOf t0) fun ti=>bnd (zb4 ti.und) fun e=>bnd (E.tyOf e) fun te=>bnd (E.tyOf t1) fun tx=>bnd te.zero fun z=>zk (ze1 (Nat.beq z.length te.size) (zp2 te.bytes)) (zk (zt6 tx.und)
   (bnd (zgv x) fun k=>zk (zp2 k) (zok S te.size s k (zdl k z)) none)
   (bnd (z5d x) fun k=>zt5 S te.size k x fun new S=>zok S te.size s k new)) none
 | _=>none
noncomputable def zle (E:Env) (S:St) (ats:List Nat) (d x:AV):Option OpR:=match ats with
 | t0 :: _=>bnd (E.tyOf t0) fun ti=>bnd (zb4 ti.und) fun e=>bnd (E.tyOf e) fun te=>bnd (z5d d) fun a=>bnd (z5d x) fun b=>fcN (Nat.min b a) fun k =>
   zt5 S te.size k x fun new S=>(match d with
    | .nils=>some (.val (.int .i64 (.ofNat k)) S)
    | .sl n off _ _=>wrL S n off new fun S=>some (.val (.int .i64 (.ofNat k)) S)
    | .slo n off _ _=>wrL S n off new fun S=>some (.val (.int .i64 (.ofNat k)) S)
    | _=>none)
 | _=>none
def zol (P:Program):Nat→Nat→Option (List (Nat × Bool))
 | 0,_=>none
 | n+1,t =>
  let go (u o:Nat):Option (List (Nat × Bool)):=match P.info? u,zol P n u with
   | some i,some l=>if l.all (fun x=>Nat.blt x.1 i.size) then some (l.map fun x=>(Nat.add o x.1,x.2)) else none
   | _,_=>none
  match P.underlying t with
  | some (.int _)=>some [(0,true)]
  | some .bool=>some [(0,false)]
  | some (.struct fs) => if P.stoodInHeld t then none else fs.toList.foldr (fun f r => if f.name == "_" then none else match go f.type f.offset, r with
   | some a,some b=>some (a ++ b)
   | _,_=>none) (some [])
  | some (.array len e)=>match P.info? e with
   | some i=>(List.range len).foldr (fun j r=>match go e (Nat.mul j i.size),r with
    | some a,some b=>some (a ++ b)
    | _,_=>none) (some [])
   | none=>none
  | _=>none
def z0s (P:Program) (t:Nat):Option (List (Nat × Bool)):=match P.underlying t with
 | some d=>if zh3 d then zol P 8 t else none
 | none=>none
noncomputable def z0t (isI:Bool) (a b:AV):Option Bool:=match a,b with
 | .int k x,.int k' y=>zk isI (zk (kEq k k') (some (eqI x y)) none) none
 | .bool x,.bool y=>zk isI none (some (@Bool.rec (fun _=>Bool) (Bool.not y) y x))
 | _,_=>none
noncomputable def z5e (ls:List (Nat × Bool)) (x y:List AV):Option Bool:=@List.rec (Nat × Bool) (fun _=>Option Bool) (some true) (fun p _ ih=>bnd (nth x p.1) fun a=>bnd (nth y p.1) fun b=>bnd (z0t p.2 a b) fun r=>zk r ih (some false)) ls
noncomputable def zv1 {α:Type} (x y:Option α):Option α:=@Option.rec α (fun _=>Option α) y (fun a=>some a) x
noncomputable def zf1 (P:Program) (ib:Bool) (t:Nat) (a b:AV):Option Bool:=match a,b with
 | .int k x,.int k' y=>zk ib (zk (kEq k k') (some (eqI x y)) none) none
 | .agg x,.agg y=>zv1 (bnd (z0s P t) fun ls=>z5e ls x y) (bnd (zf9 (.agg x)) fun x=>bnd (zf9 (.agg y)) fun y=>prun P (Op.equal t x y))
 | a,b=>bnd (zf9 a) fun x=>bnd (zf9 b) fun y=>prun P (Op.equal t x y)
noncomputable def zdb (P:Program) (ib:Bool) (t:Nat) (k:AV) (es:List Ent):Nat→Option (Option (Nat × AV)) :=
 @List.rec Ent (fun _=>Nat→Option (Option (Nat × AV))) (fun _=>some none) (fun e _ ih i=>bnd (zf1 P ib t k e.1) fun b=>zk b (some (some (i,e.2.1))) (ih (Nat.succ i))) es
noncomputable def zio (P:Program) (e:Bool) (t:Nat) (k:AV):Option Unit:=bnd (zf9 k) fun v=>prun P (Instr.checkKey e 10000 t v)
noncomputable def zha (a b:AV):Bool:=match zf9 a,zf9 b with
 | some x,some y=>Instr.sameBits 10000 x y
 | _,_=>false
noncomputable def zs0 {α:Type} (l:List α) (f:α→α):Nat→Option (List α) :=
 @List.rec α (fun _=>Nat→Option (List α)) (fun _=>none) (fun x t ih n=>@Nat.rec (fun _=>Option (List α)) (some (f x :: t)) (fun m _=>bnd (ih m) fun t'=>some (x :: t')) n) l
noncomputable def zlf (es:List Ent) (s:Nat):Nat→Option Nat :=
 @List.rec Ent (fun _=>Nat→Option Nat) (fun _=>none) (fun e _ ih i=>zk (Nat.beq e.2.2 s) (some i) (ih (Nat.succ i))) es
noncomputable def zf2 (E:Env) (t:Nat):Option (Nat × Nat):=bnd (E.tyOf t) fun ti=>match ti.und with
 | .map k e=>some (k,e)
 | _=>none
noncomputable def isInt (E:Env) (t:Nat):Option Bool:=bnd (E.tyOf t) fun ti=>some (zt6 ti.und)
noncomputable def zjo (E:Env) (P:Program) (S:St) (t:Nat) (x k:AV) (ok:Bool):Option OpR:=bnd (zf2 E t) fun ke=>bnd (isInt E ke.1) fun ib =>
 let go (es:List Ent) (S:St):Option OpR:=bnd (zio P (isNil es) ke.1 k) fun _=>bnd (zdb P ib ke.1 k es 0) fun r =>
  (match r with
  | some iv=>some (.val (zk ok (.tup [iv.2,.bool true]) iv.2) S)
  | none=>bnd (E.tyOf ke.2) fun te=>bnd te.zv fun z=>some (.val (zk ok (.tup [z,.bool false]) z) S))
 match x with
 | .nilm=>go [] S
 | .map m=>bnd (S.get m) fun o=>bnd (zid o) fun ec=>S.touch m (go ec.1)
 | _=>none
noncomputable def zjp (E:Env) (P:Program) (S:St) (t:Nat) (x k v:AV):Option OpR:=bnd (zf2 E t) fun ke=>bnd (isInt E ke.1) fun ib=>match x with
 | .map m=>bnd (S.get m) fun o=>bnd (zid o) fun ec=>bnd (zio P false ke.1 k) fun _=>bnd (zdb P ib ke.1 k ec.1 0) fun r =>
  (match r with
  | some iv=>bnd (nth ec.1 iv.1) fun e=>zk (zha e.1 k) (bnd (zs0 ec.1 (fun e=>(k,v,e.2.2)) iv.1) fun es=>S.set m (some (.map es ec.2)) fun S=>some (.val .undef S)) none
  | none=>fcN (Nat.succ ec.2) fun c=>S.set m (some (.map (ec.1 ++ [(k,v,ec.2)]) c)) fun S=>some (.val .undef S))
 | _=>none
noncomputable def zlg (E:Env) (P:Program) (S:St) (t:Nat) (x k:AV):Option OpR:=bnd (zf2 E t) fun ke=>bnd (isInt E ke.1) fun ib=>match x with
 | .map m=>bnd (S.get m) fun o=>bnd (zid o) fun ec=>bnd (zio P false ke.1 k) fun _=>bnd (zdb P ib ke.1 k ec.1 0) fun r =>
  (match r with
  | some iv=>bnd (nth ec.1 iv.1) fun e=>zk (zha e.1 k) (bnd (zs0 ec.1 (fun e=>(k,e.2)) iv.1) fun es=>S.set m (some (.map es ec.2)) fun S=>some (.val (.tup [iv.2,.int .i64 (.ofNat e.2.2)]) S)) none
  | none=>bnd (E.tyOf ke.2) fun te=>bnd te.zv fun z=>fcN (Nat.succ ec.2) fun c=>S.set m (some (.map (ec.1 ++ [(k,z,ec.2)]) c)) fun S=>some (.val (.tup [z,.int .i64 (.ofNat ec.2)]) S))
 | _=>none
noncomputable def ze2 (S:St) (x s v:AV):Option OpR:=match x with
 | .map m=>bnd (S.get m) fun o=>bnd (zid o) fun ec=>bnd (zgv s) fun b=>bnd (zlf ec.1 b 0) fun i=>bnd (zs0 ec.1 (fun e=>(e.1,v,e.2.2)) i) fun es=>S.set m (some (.map es ec.2)) fun S=>some (.val .undef S)
 | _=>none
noncomputable def z0u (P:Program) (S:St) (ib:Bool) (kt m:Nat) (k:AV):Option OpR:=bnd (S.get m) fun o=>bnd (zzd o) fun q=>zk q.th (bnd (zio P false kt k) fun _=>bnd (zdb P ib kt k q.es 0) fun r =>
  (match r with
  | some iv=>zk (Nat.beq iv.1 q.i) (S.set m (some (.mapk q.es q.ck q.i false)) fun S=>some (.val .undef S)) none
  | none=>none)) none
noncomputable def z0v (P:Program) (S:St) (ib:Bool) (kt m:Nat) (k:AV):Option OpR:=bnd (S.get m) fun o=>bnd (zid o) fun ec=>bnd (zio P (isNil ec.1) kt k) fun _=>bnd (zdb P ib kt k ec.1 0) fun r =>
  (match r with
  | some iv=>S.set m (some (.map (ec.1.eraseIdx iv.1) ec.2)) fun S=>some (.val .undef S)
  | none=>S.touch m fun S=>some (.val .undef S))
noncomputable def zjq (E:Env) (P:Program) (S:St) (t:Nat) (x k:AV):Option OpR:=bnd (zf2 E t) fun ke=>bnd (isInt E ke.1) fun ib=>match x with
 | .map m=>@Option.rec OpR (fun _=>Option OpR) (z0u P S ib ke.1 m k) (fun r=>some r) (z0v P S ib ke.1 m k)
 | _=>none
noncomputable def zt7 (E:Env) (S:St) (t:Nat) (x:AV):Option OpR:=match x with
 | .nils=>bnd (E.tyOf t) fun ti=>bnd (zb4 ti.und) fun _=>some (.val (.int .i64 0) S)
 | .sl _ _ n _=>bnd (E.tyOf t) fun ti=>bnd (zb4 ti.und) fun _=>some (.val (.int .i64 (.ofNat n)) S)
 | .slo _ _ n _=>bnd (E.tyOf t) fun ti=>bnd (zb4 ti.und) fun _=>some (.val (.int .i64 (.ofNat n)) S)
 | .map m=>bnd (zf2 E t) fun _=>bnd (S.get m) fun o=>bnd (zid o) fun ec=>S.touch m fun S=>fcN ec.1.length fun n=>some (.val (.int .i64 (.ofNat n)) S)
 | .ptr _ _=>bnd (E.tyOf t) fun ti=>bnd (z7k ti.und) fun a=>bnd (E.tyOf a) fun ta=>bnd (zlc ta.und) fun ne=>some (.val (.int .i64 (.ofNat ne.1)) S)
 | .agg _=>bnd (E.tyOf t) fun ti=>bnd (zlc ti.und) fun ne=>some (.val (.int .i64 (.ofNat ne.1)) S)
 | _=>none
noncomputable def zt8 (E:Env) (S:St) (t:Nat) (x:AV):Option OpR:=bnd (E.tyOf t) fun ti=>bnd (zb4 ti.und) fun _=>match x with
 | .nils=>some (.val (.int .i64 0) S)
 | .sl _ _ _ c=>some (.val (.int .i64 (.ofNat c)) S)
 | _=>none
noncomputable def zlh (E:Env) (S:St) (t:Nat) (x:AV):Option OpR:=match x with
 | .nilm=>bnd (E.tyOf t) fun _=>some (.val .undef S)
 | .nils=>bnd (E.tyOf t) fun _=>some (.val .undef S)
 | .map m=>bnd (E.tyOf t) fun _=>bnd (S.get m) fun o=>bnd (zid o) fun ec=>S.set m (some (.map [] ec.2)) fun S=>some (.val .undef S)
 | .sl n off len _=>bnd (E.tyOf t) fun ti=>bnd (zb4 ti.und) fun e=>bnd (E.tyOf e) fun te=>bnd te.zero fun z=>wrL S n off (zdl len z) fun S=>some (.val .undef S)
 | .slo n off len _=>bnd (E.tyOf t) fun ti=>bnd (zb4 ti.und) fun e=>bnd (E.tyOf e) fun te=>bnd te.zero fun z=>wrL S n off (zdl len z) fun S=>some (.val .undef S)
 | _=>none
noncomputable def zq3 (place:Nat→Option (Nat × Nat)):List (Nat × AV)→List AV→Option (List AV)
 | [],l=>some l
 | (i,v) :: r,l=>bnd (place i) fun os=>zk (Nat.beq v.cells.length os.2) (bnd (zt4 l os.1 v.cells) (zq3 place r)) none
noncomputable def zh5 (T:Tm):List (Nat × Operand)→Option (List (Nat × AV))
 | []=>some []
 | (i,x) :: r=>bnd (opd T x) fun v=>bnd (zh5 T r) fun l=>some ((i,v) :: l)
noncomputable def zq4 (E:Env):List Field→Option (List (Nat × Nat))
 | []=>some []
 | f :: fs=>bnd (E.tyOf f.type) fun ti=>bnd (zq4 E fs) fun l=>some ((f.offset,ti.size) :: l)
noncomputable def zli (E:Env) (T:Tm) (S:St) (t:Nat) (parts:List (Nat × Operand)):Option OpR:=bnd (E.tyOf t) fun ti=>bnd ti.zero fun z=>bnd (zh5 T parts) fun ps=>match ti.und with
 | .struct fs=>bnd (zq4 E fs.toList) fun pl=>bnd (zq3 (nth pl) ps z) fun l=>some (.val (.agg l) S)
 | .array _ e=>bnd (E.tyOf e) fun te=>bnd (zq3 (fun i=>some (Nat.mul i te.size,te.size)) ps z) fun l=>some (.val (.agg l) S)
 | _=>none
noncomputable def ze3 (E:Env) (T:Tm) (S:St) (t len:Nat) (parts:List (Nat × Operand)):Option OpR:=bnd (E.tyOf t) fun ti=>bnd (zb4 ti.und) fun e=>bnd (E.tyOf e) fun te=>bnd te.zero fun z =>
 zk (Nat.beq z.length te.size) (zk (Nat.ble (Nat.mul len te.size) 65536) (bnd (zh5 T parts) fun ps=>bnd (zq3 (fun i=>some (Nat.mul i te.size,te.size)) ps (zdl len z)) fun l =>
  S.alloc (.cells l) fun n S=>some (.val (.sl n 0 len len) S)) none) none
noncomputable def zzg (E:Env) (t:Nat) (l:List AV) (off:Nat):Option AV:=bnd (E.tyOf t) fun ti=>zk ti.agg (bnd (seg l off ti.size) fun x=>some (.agg x)) (nth l off)
noncomputable def z7m (E:Env) (S:St) (t:Nat) (a:AV):Option OpR:=bnd (zkq a) fun p=>bnd (E.tyOf t) fun ti=>zk ti.agg (rdN S p.1 p.2 ti.size fun l S=>some (.val (.agg l) S)) (rd1 S p.1 p.2 fun v S=>some (.val v S))
noncomputable def zv2:AV→Option (List AV):=@AV.rec (fun _=>Option (List AV)) (fun _=>PUnit) (fun _=>none) (fun _ _=>none) (fun _=>none) none (fun _ _=>none) none (fun _ _ _ _=>none) (fun _ _ _ _=>none)
 none (fun _=>none) (fun _ _ _ _ _=>none) (fun _=>none) none (fun l _=>some l) (fun _ _=>none) PUnit.unit (fun _ _ _ _=>PUnit.unit)
noncomputable def tupA:AV→Option (List AV):=@AV.rec (fun _=>Option (List AV)) (fun _=>PUnit) (fun _=>none) (fun _ _=>none) (fun _=>none) none (fun _ _=>none) none (fun _ _ _ _=>none) (fun _ _ _ _=>none)
 none (fun _=>none) (fun _ _ _ _ _=>none) (fun _=>none) none (fun _ _=>none) (fun l _=>some l) PUnit.unit (fun _ _ _ _=>PUnit.unit)
noncomputable def z3r (E:Env) (S:St) (t:Nat) (a v:AV):Option OpR:=bnd (zkq a) fun p=>bnd (E.tyOf t) fun ti=>zk (Nat.beq v.cells.length ti.size)
 (@Option.rec (List AV) (fun _=>Option OpR) (wr1 S p.1 p.2 v fun S=>some (.val .undef S)) (fun l=>wrL S p.1 p.2 l fun S=>some (.val .undef S)) (zv2 v)) none
noncomputable def zr3 (E:Env) (S:St) (t:Nat) (a:AV) (f:Nat):Option OpR:=bnd (zkq a) fun p=>bnd (E.tyOf t) fun ti=>bnd (zp1 ti.und) fun fs=>bnd (nth fs f) fun fd=>bnd (E.tyOf fd.type) fun tf=>zk (Nat.ble 1 tf.size) (fcN (Nat.add p.2 fd.offset) fun o=>some (.val (.ptr p.1 o) S)) none
noncomputable def z3s (E:Env) (S:St) (t:Nat) (a:AV) (f:Nat):Option OpR:=bnd (zv2 a) fun l=>bnd (E.tyOf t) fun ti=>bnd (zp1 ti.und) fun fs=>bnd (nth fs f) fun fd=>bnd (zzg E fd.type l fd.offset) fun v=>some (.val v S)
noncomputable def z0w (E:Env) (S:St) (n off len e i:Nat):Option OpR:=zk (Nat.ble (Nat.succ i) len) (bnd (E.tyOf e) fun te=>fcN (Nat.add off (Nat.mul i te.size)) fun o=>some (.val (.ptr n o) S)) none
noncomputable def zs1:AV→Option (Nat × Nat × Nat):=@AV.rec (fun _=>Option (Nat × Nat × Nat)) (fun _=>PUnit) (fun _=>none) (fun _ _=>none) (fun _=>none) none (fun _ _=>none) none (fun n o l _=>some (n,o,l)) (fun n o l _=>some (n,o,l))
 none (fun _=>none) (fun _ _ _ _ _=>none) (fun _=>none) none (fun _ _=>none) (fun _ _=>none) PUnit.unit (fun _ _ _ _=>PUnit.unit)
noncomputable def zr4 (E:Env) (S:St) (t:Nat) (a x:AV):Option OpR:=bnd (zgv x) fun i=>bnd (E.tyOf t) fun ti=>@Option.rec (Nat × Nat × Nat) (fun _=>Option OpR)
 (bnd (zkq a) fun p=>bnd (zlc ti.und) fun ne=>z0w E S p.1 p.2 ne.1 ne.2 i) (fun r=>bnd (zb4 ti.und) fun e=>z0w E S r.1 r.2.1 r.2.2 e i) (zs1 a)
noncomputable def z3t (E:Env) (S:St) (t:Nat) (a x:AV):Option OpR:=bnd (zv2 a) fun l=>bnd (zgv x) fun i=>bnd (E.tyOf t) fun ti=>bnd (zlc ti.und) fun ne=>zk (Nat.ble (Nat.succ i) ne.1) (bnd (E.tyOf ne.2) fun te=>bnd (zzg E ne.2 l (Nat.mul i te.size)) fun v=>some (.val v S)) none
noncomputable def zr5 (E:Env) (S:St) (t:Nat) (l c:AV):Option OpR:=bnd (zgv l) fun l=>bnd (zgv c) fun c=>bnd (E.tyOf t) fun ti=>bnd (zb4 ti.und) fun e=>bnd (E.tyOf e) fun te=>bnd te.zero fun z =>
 zk (Nat.ble l c) (zk (zp2 c) (zk (zp2 te.bytes) (zk (Nat.beq z.length te.size) (S.alloc (.cells (zdl c z)) fun n S=>fcN l fun l=>fcN c fun c=>some (.val (.sl n 0 l c) S)) none) none) none) none
noncomputable def fnOf (f:Fn):Option Nat:=match f with
 | .func f=>some f
 | _=>none
noncomputable def zxl (a:AV) (i:Nat):Option AV:=bnd (tupA a) fun l=>nth l i
noncomputable def zv3 (E:Env) (S:St) (t:Nat) (x:AV):Option OpR:=match x with
 | .str s=>bnd (E.tyOf t) fun ti=>(match ti.und with
  | .string=>S.alloc (.striter s 0) fun n S=>some (.val (.ptr n 0) S)
  | _=>none)
 | .map m=>bnd (zf2 E t) fun _=>bnd (S.get m) fun o=>bnd (zid o) fun ec=>S.touch m fun S=>S.alloc (.it m ec.2 []) fun n S=>some (.val (.ptr n 0) S)
 | _=>none
noncomputable def zp3 (S:St) (x:AV):Option OpR:=bnd (zkq x) fun p=>zk (Nat.beq p.2 0) (bnd (S.get p.1) fun o=>bnd (zabh o) fun q=>bnd (S.get q.1) fun o=>bnd (zzd o) fun z=>zk (ze1 z.th (Nat.beq z.ck q.2.1))
 (bnd (zlf z.es q.2.2 0) fun i=>zk (Nat.beq i z.i) (bnd (nth z.es i) fun e=>S.touch p.1 fun S=>S.touch q.1 fun S=>some (.val (.tup [e.1,e.2.1]) S)) none) none) none
noncomputable def z0x (S:St) (x:AV) (isS:Bool):Option OpR:=match x with
 | .ptr n off=>zk (Nat.beq off 0) (bnd (S.get n) fun o=>match o with
  | .striter s pos=>zk isS (zk (Nat.ble (Nat.succ pos) s.size)
    (fcN (Nat.add pos (Utf8.decode s pos).2) fun p=>S.set n (some (.striter s p)) fun S=>some (.val (.tup [.bool true,.int .i64 (.ofNat pos),.int .i32 (.ofNat (Utf8.decode s pos).1)]) S))
    (S.touch n fun S=>some (.val (.tup [.bool false]) S))) none
  | _=>none) none
 | _=>none
noncomputable def zaci:AV→List AV→St→Option OpR:=@AV.rec (fun _=>List AV→St→Option OpR) (fun _=>PUnit) (fun _ _ _=>none) (fun _ _ _ _=>none) (fun _ _ _=>none) (fun _ _=>none) (fun _ _ _ _=>none) (fun _ _=>none) (fun _ _ _ _ _ _=>none) (fun _ _ _ _ _ _=>none)
 (fun _ _=>none) (fun _ _ _=>none) (fun f fst cap _ _ args S=>some (.call f (fst ++ (args ++ cap)) S)) (fun l args S=>some (.yield l args S)) (fun _ _=>none) (fun _ _ _ _=>none) (fun _ _ _ _=>none) PUnit.unit (fun _ _ _ _=>PUnit.unit)
noncomputable def zew (P:Program) (T:Tm) (o:Oper) (S:St):Option OpR:=bnd (zp0 P T o) fun v=>some (.val v S)
noncomputable def zgj (E:Env) (P:Program) (T:Tm) (o:Oper) (S:St) (b:Builtin) (ats:Array Nat) (args:List Operand):Option OpR:=match b with
 | .len=>zk (zgi T args) (zew P T o S) (match args with
  | [x]=>bnd (opd T x) fun v=>bnd (nth ats.toList 0) fun t=>zt7 E S t v
  | _=>none)
 | .append=>(match args with
  | [s,x]=>bnd (opd T s) fun s=>bnd (opd T x) fun x=>zg9 E S ats.toList s x
  | _=>none)
 | .cap=>(match args with
  | [x]=>bnd (opd T x) fun v=>bnd (nth ats.toList 0) fun t=>zt8 E S t v
  | _=>none)
 | .copy=>(match args with
  | [d,x]=>bnd (opd T d) fun d=>bnd (opd T x) fun x=>zle E S ats.toList d x
  | _=>none)
 | .clear=>(match args with
  | [x]=>bnd (opd T x) fun v=>bnd (nth ats.toList 0) fun t=>zlh E S t v
  | _=>none)
 | .delete=>(match args with
  | [m,k]=>bnd (opd T m) fun m=>bnd (opd T k) fun k=>bnd (nth ats.toList 0) fun t=>zjq E P S t m k
  | _=>none)
 | _=>zew P T o S
noncomputable def zga (E:Env) (P:Program) (T:Tm) (o:Oper) (S:St) (c:Call):Option OpR:=@Callee.rec (fun _=>Option OpR) (fun f=>bnd (opd T f) fun f=>bnd (zoi T c.args.toList) fun args=>zaci f args S)
 (fun _ _=>none) (fun b=>zgj E P T o S b c.argTypes c.args.toList) c.callee
noncomputable def zi4 {α:Type} (x:Option α) (y:Option α):Option α:=@Option.rec α (fun _=>Option α) y (fun a=>some a) x
noncomputable def zie (S:St) (x:Option AV):Option OpR:=bnd x fun v=>some (.val v S)
noncomputable def zabj (op:UnOp) (v:AV):Option AV:=match op with
 | .not=>bnd (zvz v) fun b=>zks (Bool.not b)
 | _=>none
abbrev OpF:=Env→Program→Tm→Oper→St→Option OpR
noncomputable def zke (x:Operand):OpF:=fun _ _ T _ S=>zie S (opd T x)
noncomputable def zq5 (c a b:Operand):OpF:=fun _ _ T _ S=>bnd (opd T c) fun c=>bnd (zvz c) fun c=>zie S (zk c (opd T a) (opd T b))
noncomputable def zlj (e:Nat):OpF:=fun E _ _ _ S=>bnd (E.tyOf e) fun te=>bnd te.zero fun z=>S.alloc (.cells z) fun n S=>some (.val (.ptr n 0) S)
noncomputable def zv4 (_:Nat) (x:Operand):OpF:=fun _ _ T _ S=>bnd (opd T x) fun v=>S.alloc (.cells v.cells) fun n S=>some (.val (.ptr n 0) S)
noncomputable def z0y (t:Nat) (ps:Array (Nat × Operand)):OpF:=fun E _ T _ S=>zli E T S t ps.toList
noncomputable def zkt (t len:Nat) (ps:Array (Nat × Operand)):OpF:=fun E _ T _ S=>ze3 E T S t len ps.toList
noncomputable def zc5 (t:Nat) (m k x:Operand):OpF:=fun E P T _ S=>bnd (opd T m) fun m=>bnd (opd T k) fun k=>bnd (opd T x) fun x=>zjp E P S t m k x
noncomputable def zq6 (t:Nat) (a:Operand):OpF:=fun E _ T _ S=>bnd (opd T a) fun a=>z7m E S t a
noncomputable def zlk (t:Nat) (a x:Operand):OpF:=fun E _ T _ S=>bnd (opd T a) fun a=>bnd (opd T x) fun x=>z3r E S t a x
noncomputable def zv5 (x:Operand):OpF:=fun _ _ T _ S=>bnd (opd T x) fun v=>zk (zafb v) (some (.val v S)) none
noncomputable def zv6 (op:BinOp) (t:Nat) (x y:Operand) (_:Nat):OpF:=fun E P T o S=>bnd (opd T x) fun x=>bnd (opd T y) fun y=>zi4 (zie S (zabi E op t x y)) (zew P T o S)
noncomputable def oUn (op:UnOp) (_:Nat) (x:Operand):OpF:=fun _ P T o S=>bnd (opd T x) fun x=>zi4 (zie S (zabj op x)) (zew P T o S)
noncomputable def zgk (f:Fn) (fs cs:Array Operand):OpF:=fun _ _ T _ S=>bnd (fnOf f) fun f=>bnd (zoi T fs.toList) fun fs=>bnd (zoi T cs.toList) fun cs=>some (.val (.fn f fs cs) S)
noncomputable def zhb (t:Nat) (r:Option Operand):OpF:=fun E _ T _ S=>@Option.rec Operand (fun _=>Option OpR) (S.alloc (.map [] 0) fun n S=>some (.val (.map n) S))
 (fun x=>bnd (zf2 E t) fun _=>bnd (opd T x) fun v=>bnd (zgv v) fun _=>S.alloc (.map [] 0) fun n S=>some (.val (.map n) S)) r
noncomputable def zfl (t:Nat) (l c:Operand):OpF:=fun E _ T _ S=>bnd (opd T l) fun l=>bnd (opd T c) fun c=>zr5 E S t l c
noncomputable def zll (t:Nat) (x:Operand) (lo hi mx:Option Operand):OpF:=fun E P T o S=>bnd (opd T x) fun x=>bnd (zv0 T lo) fun lo=>bnd (zv0 T hi) fun hi=>bnd (zv0 T mx) fun mx=>zi4 (zq2 E S t x lo hi mx) (zew P T o S)
noncomputable def zfm (t:Nat) (x:Operand) (f:Nat):OpF:=fun E _ T _ S=>bnd (opd T x) fun x=>zr3 E S t x f
noncomputable def zlm (t:Nat) (x:Operand) (f:Nat):OpF:=fun E _ T _ S=>bnd (opd T x) fun x=>z3s E S t x f
noncomputable def zfn (t:Nat) (x i:Operand):OpF:=fun E _ T _ S=>bnd (opd T x) fun x=>bnd (opd T i) fun i=>zr4 E S t x i
noncomputable def zln (t:Nat) (x i:Operand):OpF:=fun E P T o S=>bnd (opd T x) fun x=>bnd (opd T i) fun i=>zi4 (z3t E S t x i) (zew P T o S)
noncomputable def zi5 (t:Nat) (x k:Operand) (ok:Bool):OpF:=fun E P T _ S=>bnd (opd T x) fun x=>bnd (opd T k) fun k=>zjo E P S t x k ok
noncomputable def zlo (t:Nat) (m k:Operand):OpF:=fun E P T _ S=>bnd (opd T m) fun m=>bnd (opd T k) fun k=>zlg E P S t m k
noncomputable def zen (_:Nat) (m s x:Operand):OpF:=fun _ _ T _ S=>bnd (opd T m) fun m=>bnd (opd T s) fun s=>bnd (opd T x) fun x=>ze2 S m s x
noncomputable def zlp (t:Nat) (x:Operand):OpF:=fun E _ T _ S=>bnd (opd T x) fun x=>zv3 E S t x
noncomputable def zq7 (it:Operand) (b:Bool):OpF:=fun _ _ T _ S=>bnd (opd T it) fun x=>z0x S x b
noncomputable def zzh (it:Operand):OpF:=fun _ _ T _ S=>bnd (opd T it) fun x=>zp3 S x
noncomputable def zhc (t:Operand) (i:Nat):OpF:=fun _ _ T _ S=>bnd (opd T t) fun v=>zie S (zxl v i)
noncomputable def z5f (c:Call):OpF:=fun E P T o S=>zga E P T o S c
def zft (l:List Nat):ByteArray:=⟨(l.map UInt8.ofNat).toArray⟩
def zv7 (s:ByteArray):List Nat:=s.data.toList.map UInt8.toNat
noncomputable def z0z (d:TypeDesc):Bool:=match d with
 | .int .u8=>true
 | _=>false
noncomputable def zt9 (d:TypeDesc):Bool:=match d with
 | .string=>true
 | _=>false
noncomputable def zlq (s:ByteArray):List AV:=(zv7 s).map fun n=>.int .u8 (.ofNat n)
noncomputable def zq8:List AV→Option (List Nat)
 | []=>some []
 | .int .u8 (.ofNat n) :: l=>fcN n fun n=>bnd (zq8 l) fun r=>some (n :: r)
 | _=>none
noncomputable def z00 (E:Env) (S:St) (src dst:Nat) (x:AV):Option OpR:=match x with
 | .str s=>bnd (E.tyOf src) fun _=>bnd (E.tyOf dst) fun td=>bnd (zb4 td.und) fun e=>bnd (E.tyOf e) fun te=>zk (z0z te.und) (S.alloc (.row (zlq s)) fun n S=>fcN s.size fun k=>some (.val (.slo n 0 k 1) S)) none
 | .nils=>none
 | x=>bnd (zs1 x) fun r=>bnd (E.tyOf src) fun ts=>bnd (zb4 ts.und) fun e=>bnd (E.tyOf e) fun te=>zk (z0z te.und) (bnd (E.tyOf dst) fun td=>zk (zt9 td.und) (rdN S r.1 r.2.1 r.2.2 fun l S=>bnd (zq8 l) fun bs=>some (.val (.str (zft bs)) S)) none) none
noncomputable def zhd (s d:Nat) (x:Operand):OpF:=fun E P T o S=>bnd (opd T x) fun v=>zi4 (z00 E S s d v) (zew P T o S)
noncomputable def zif:OpF:=fun _ _ _ _ _=>none
noncomputable def opF:Op→OpF:=@Op.rec (fun _=>OpF) zke zke zq5 zlj zv4 z0y zkt zc5 zq6 zlk (fun _=>zif) (fun _=>zif) zv5 zv6 oUn zhd (fun _ _=>zif) (fun _ _=>zif) zgk zhb (fun _ _=>zif) zfl
 zll zfm zlm zfn zln zi5 zc5 zlo zen zlp zq7 zzh (fun _ _ _ _=>zif) zhc z5f (fun _=>zif) (fun _=>zif) (fun _=>zif) (fun _ _=>zif) (fun _ _ _=>zif) (fun _ _=>zif)
noncomputable def zom (E:Env) (P:Program) (T:Tm) (o:Oper) (S:St):Option OpR:=opF o.op E P T o S
inductive Task where
 | call (f:Nat) (args:List AV)
 | code (ro:Option Nat) (c:Code) (T:Tm) (mk:List Nat)
 | yield (l:Nat) (args:List AV)
noncomputable def zf3 (E:Env) (P:Program) (ih:Task→St→Option Res) (T:Tm) (o:Oper) (S:St) (k:AV→St→Option (Tm × St)):Option (Tm × St):=bnd (zom E P T o S) fun r=>@OpR.rec (fun _=>Option (Tm × St)) (fun v S=>k v S)
 (fun f args S=>bnd (ih (.call f args) S) fun r=>k r.v r.st) (fun l args S=>bnd (ih (.yield l args) S) fun r=>k r.v r.st) r
noncomputable def bEq (a b:Bool):Bool:=@Bool.rec (fun _=>Bool) (Bool.not b) b a
noncomputable def zhp (ops:List Oper) (T:Tm) (o:Oper):Option Bool:=match o.guard with
 | none=>some true
 | some jw=>bnd (nth ops jw.1) fun q=>bnd q.dst fun d=>bnd (T.get d) fun v=>(match v with
  | .bool b=>some (bEq b jw.2)
  | .tup _=>some false
  | _=>none)
noncomputable def zq9 {β:Type} (ops:List Oper) (T:Tm) (o:Oper) (yes no:Option β):Option β:=@Option.rec (Nat × Bool) (fun _=>Option β) yes (fun _=>bnd (zhp ops T o) fun b=>zk b yes no) o.guard
noncomputable def zon (E:Env) (P:Program) (ih:Task→St→Option Res) (ops:List Oper) (l:List Oper):Tm→St→Option (Tm × St) :=
 @List.rec Oper (fun _=>Tm→St→Option (Tm × St)) (fun T S=>some (T,S))
  (fun o _ go T S=>zq9 ops T o (zf3 E P ih T o S fun v S=>T.putK o.dst v fun T=>go T S) (T.putK o.dst .undef fun T=>go T S)) l
def zeo (o:Oper):List Nat:=(o.after.toList.filter (Region.binds .any)).map (·.on)
def zua (ls:List Oper) (j:Nat):Option Nat:=(ls[j]?).bind (·.dst)
structure Fp where
 i:Nat
 a:Nat
 t:Nat
 w:Nat
 o:Oper
 tm:Tm
 s:St
 v:AV
 s':St
def tb (m i:Nat):Bool:=Nat.beq (Nat.land (Nat.shiftRight m i) 1) 1
def zp4 (a b:Nat):Bool:=Nat.beq (Nat.land a b) 0
noncomputable def orB (a b:Bool):Bool:=@Bool.rec (fun _=>Bool) b true a
noncomputable def zfo {α:Type} (p:α→Bool) (l:List α):List α:=@List.rec α (fun _=>List α) [] (fun x _ ih=>zk (p x) (x :: ih) ih) l
noncomputable def clash (y x:Fp):Bool:=ze1 (Bool.not (zp4 x.w y.t)) (Bool.not (orB (Nat.beq x.i y.i) (orB (tb x.a y.i) (tb y.a x.i))))
noncomputable def z01 (a b:AV):Bool:=match a,b with
 | .int k x,.int k' y=>ze1 (kEq k k') (eqI x y)
 | .bool x,.bool y=>bEq x y
 | _,_=>false
noncomputable def zoo (E:Env) (P:Program) (y x:Fp):Bool:=ze1 (ze1 (Nat.ble (Nat.succ y.i) x.i) (Nat.beq y.w 0)) (fcN (Nat.land x.w y.t) fun m=>fcN (Nat.log2 m) fun n=>ze1 (Nat.beq m (zm n))
 (match zom E P y.tm y.o ⟨Tr.put 24 n (x.s'.get n) y.s.heap,y.s.next,0,0⟩ with
  | some (.val v S)=>ze1 (Nat.beq S.w 0) (ze1 (Nat.beq (Nat.lor S.t y.t) y.t) (ze1 (Nat.beq S.next y.s.next) (z01 v y.v)))
  | _=>false))
noncomputable def z5g (E:Env) (P:Program) (ws:List Fp) (y:Fp):Bool:=match zfo (clash y) ws with
 | []=>true
 | [x]=>zoo E P y x
 | _=>false
noncomputable def zub (E:Env) (P:Program) (l:List Fp):Bool:=(fun ws=>zk (isNil ws) true (zeb (z5g E P ws) l)) (zfo (fun x=>Bool.not (Nat.beq x.w 0)) l)
noncomputable def zkf (acc:List Nat) (o:Oper):Nat:=(zeo o).foldl (fun s j=>Nat.lor (Nat.lor s (Nat.shiftLeft 1 j)) ((nth acc j).getD 0)) 0
noncomputable def zig (ls:List Oper):List Nat:=ls.foldl (fun acc o=>acc ++ [zkf acc o]) []
noncomputable def zjr (E:Env) (P:Program) (ih:Task→St→Option Res) (ops:List Oper) (l:List Oper):List Nat→Nat→List Fp→Nat→Nat→Tm→St→Option (Tm × St) :=
 @List.rec Oper (fun _=>List Nat→Nat→List Fp→Nat→Nat→Tm→St→Option (Tm × St))
  (fun _ _ fps t w T S=>zk (zub E P fps) (some (T,⟨S.heap,S.next,t,w⟩)) none)
  (fun o _ go an i fps t w T S=>match an with
   | []=>none
   | a :: an=>zq9 ops T o
    (zf3 E P ih T o ⟨S.heap,S.next,0,0⟩ fun v S'=>T.putK o.dst v fun T'=>fcN (Nat.lor t S'.t) fun t'=>fcN (Nat.lor w S'.w) fun w'=>go an (Nat.succ i) (⟨i,a,S'.t,S'.w,o,T,S,v,S'⟩ :: fps) t' w' T' S')
    (T.putK o.dst .undef fun T'=>go an (Nat.succ i) (⟨i,a,0,0,o,T,S,.undef,S⟩ :: fps) t w T' S)) l
noncomputable def zkg (ls:List Oper) (o:Oper):List Nat:=(o.op.operands.toList.filterMap fun x=>match x with
  | .tmp s=>some s
  | _=>none) ++ (match o.guard with
  | none=>[]
  | some jw=>(zua ls jw.1).toList)
noncomputable def zuc (ls:List Oper) (x y:Oper):Bool:=(match x.dst with
  | none=>false
  | some d=>(zkg ls y).contains d || y.dst == some d) || (match y.dst with
  | none=>false
  | some d=>(zkg ls x).contains d)
noncomputable def zop (ls:List Oper) (an:List Nat) (size i:Nat) (o:Oper):Bool :=
 z0r o.op && (match o.dst with | none=>true | some d=>decide (d < size)) && (zeo o).all (fun j=>decide (j < i)) &&
 (List.range i).all (fun k=>match ls[k]? with | none=>true | some x=>!zuc ls x o || tb (an.getD i 0) k) &&
 (match o.guard with | none=>true | some jw=>(zua ls jw.1).isSome)
noncomputable def z02 (ls:List Oper) (size:Nat):Bool:=(List.range ls.length).all fun i=>match ls[i]? with
 | none=>true
 | some o=>zop ls (zig ls) size i o
noncomputable def z91 (E:Env) (P:Program) (ih:Task→St→Option Res) (draw:Bool) (ops:List Oper) (T:Tm) (S:St):Option (Tm × St) :=
 zk draw (fcN T.sz fun sz=>zk (z02 ops sz) (zjr E P ih ops ops (zig ops) 0 [] S.t S.w T S) none) (zon E P ih ops ops T S)
noncomputable def zek (l:List AV):Nat→Tr AV→Tr AV:=@List.rec AV (fun _=>Nat→Tr AV→Tr AV) (fun _ m=>m) (fun v _ go i m=>go (Nat.succ i) (Tr.put 24 i (some v) m)) l
noncomputable def z03 (ps:List Nat) (sz:Nat):List AV→Tr AV→Option (Tr AV) :=
 @List.rec Nat (fun _=>List AV→Tr AV→Option (Tr AV)) (fun as m=>zk (isNil as) (some m) none) (fun p _ go as m=>match as with
  | []=>none
  | a :: as=>zk (Nat.ble (Nat.succ p) sz) (go as (Tr.put 24 p (some a) m)) none) ps
noncomputable def z04 (mk:List Nat) (k:St→Option Res):St→Option Res:=@List.rec Nat (fun _=>St→Option Res) k (fun d _ go S=>bnd (S.get d) fun o=>match o with
 | .dfr=>S.set d none go
 | _=>none) mk
noncomputable def zp5 (E:Env) (T:Tm) (S:St) (x:ResultVar) (k:AV→St→Option Res):Option Res:=match x with
 | .tmp t=>bnd (T.get t) fun v=>k v S
 | .cell a t=>bnd (T.get a) fun a=>(match a with
  | .ptr n off=>bnd (E.tyOf t) fun ti=>zk ti.agg (rdN S n off ti.size fun l S=>k (.agg l) S) (rd1 S n off k)
  | _=>none)
noncomputable def zfp (E:Env) (T:Tm) (l:List ResultVar):St→List AV→(List AV→St→Option Res)→Option Res :=
 @List.rec ResultVar (fun _=>St→List AV→(List AV→St→Option Res)→Option Res) (fun S acc k=>k acc S) (fun x _ go S acc k=>zp5 E T S x fun v S=>go S (acc ++ [v]) k) l
noncomputable def oneOf (l:List AV):AV:=match l with
 | [v]=>v
 | l=>.tup l
noncomputable def zgl (E:Env) (fn:Func) (r:Res):Option Res:=z04 r.mks (fun S=>zfp E r.tm fn.results.toList S [] fun l S=>some ⟨.normal,r.tm,[],oneOf l,S⟩) r.st
noncomputable def z05 (E:Env) (ih:Task→St→Option Res) (f:Nat) (args:List AV) (S:St):Option Res:=bnd (Tr.get E.fn f) fun fn=>bnd fn.body fun c =>
 zk (Nat.ble args.length fn.ntmps) (bnd (ih (.code none c ⟨zek args 0 .leaf,fn.ntmps⟩ []) S) fun r=>match r.ex with
  | .normal=>zgl E fn r
  | .ret=>zgl E fn r
  | _=>none) none
noncomputable def zlr (e:Ex):Option Code:=match e with
 | .normal=>none | .ret=>some .ret | .exit id=>some (.exit id) | .goto l=>some (.goto l)
noncomputable def zv8 (s:LoopState):Bool:=match s with
 | .ready=>true | _=>false
noncomputable def z7n (s:LoopState):Bool:=match s with
 | .busy=>true | _=>false
noncomputable def zak (e:Ex):Bool:=match e with
 | .normal=>true | _=>false
noncomputable def zud {β:Type} (S:St) (l:Nat) (k:LoopState→Option Code→Tr AV→Nat→List Nat→Code→Code→Nat→Option β):Option β:=bnd (S.get l) fun o=>match o with
 | .loop st pe tm sz ps as bd dn=>k st pe tm sz ps as bd dn
 | _=>none
noncomputable def zra {β:Type} (S:St) (l:Nat) (st:LoopState) (pe:Option Code) (k:St→Option β):Option β:=bnd (S.get l) fun o=>match o with
 | .loop _ _ tm sz ps as bd dn=>S.set l (some (.loop st pe tm sz ps as bd dn)) k
 | _=>none
noncomputable def z3u (ih:Task→St→Option Res) (l:Nat) (args:List AV) (S:St):Option Res:=zud S l fun st _ tm sz ps as bd _=>zk (zv8 st)
 (bnd (z03 ps sz args tm) fun m=>S.touch l fun S=>bnd (ih (.code (some l) as ⟨m,sz⟩ []) S) fun r=>zk (zak r.ex)
  (zud r.st l fun st pe _ _ _ _ _ _=>zk (zv8 st) (zra r.st l .busy pe fun S=>bnd (ih (.code (some l) bd r.tm r.mks) S) fun r =>
   zra r.st l (zk (zak r.ex) .ready .done) (zlr r.ex) fun S=>some ⟨.normal,r.tm,[],.bool (zak r.ex),S⟩) none) none) none
noncomputable def zjs (ih:Task→St→Option Res) (ro:Option Nat) (f:AV) (ps:List Nat) (as bd:Code) (T:Tm) (mk:List Nat) (dn:Nat) (S:St):Option Res:=S.alloc (.loop .ready none T.m T.sz ps as bd dn) fun l S=>match f with
 | .fn f fst cap=>bnd (ih (.call f (fst ++ (.yield l :: cap))) S) fun r=>zud r.st l fun st pe _ _ _ _ _ _=>zk (z7n st) none
   (zra r.st l .exhausted pe fun S=>match pe with
    | none=>some ⟨.normal,T,mk,.undef,S⟩
    | some c=>ih (.code ro c T mk) S)
 | _=>none
noncomputable def z92 (ih:Task→St→Option Res) (ro:Option Nat) (f:AV) (ps:List Nat) (as bd:Code) (T:Tm) (mk:List Nat) (S:St):Option Res:=match ro with
 | none=>S.alloc .dfr fun d S=>zjs ih ro f ps as bd T (d :: mk) d S
 | some l=>zud S l fun _ _ _ _ _ _ _ dn=>S.touch l fun S=>zjs ih ro f ps as bd T mk dn S
noncomputable def z06 (e:Ex) (id:Nat):Bool:=match e with
 | .exit i=>Nat.beq i id
 | _=>false
noncomputable def zacj (e:Ex):Bool:=match e with
 | .goto _=>false | _=>true
abbrev Ih:=Task→St→Option Res
noncomputable def z5h (tab:Tr (List AV→St→Option Res)) (f:Nat) (args:List AV) (S:St):Option Res:=bnd (Tr.get tab f) fun s=>s args S
abbrev CdF:=Env→Program→Ih→Option Nat→Tm→List Nat→St→Option Res
noncomputable def done (ex:Ex):CdF:=fun _ _ _ _ T mk S=>some ⟨ex,T,mk,.undef,S⟩
noncomputable def cSeq (a b:Code):CdF:=fun _ _ ih ro T mk S=>bnd (ih (.code ro a T mk) S) fun r=>zk (zak r.ex) (ih (.code ro b r.tm r.mks) r.st) (some r)
noncomputable def zabk (c:Operand) (x y:Code):CdF:=fun _ _ ih ro T mk S=>bnd (opd T c) fun v=>bnd (zvz v) fun b=>ih (.code ro (zk b x y) T mk) S
noncomputable def z7o (id:Nat) (b:Code):CdF:=fun _ _ ih ro T mk S=>bnd (ih (.code ro b T mk) S) fun r=>some (zk (z06 r.ex id) ⟨.normal,r.tm,r.mks,r.v,r.st⟩ r)
noncomputable def z07 (b:Code):CdF:=fun _ _ ih ro T mk S=>bnd (ih (.code ro b T mk) S) fun r=>zk (zak r.ex) (ih (.code ro (.loop b) r.tm r.mks) r.st) (some r)
mutual
noncomputable def zp6:AV→AV→Bool
 | .bool a,.bool b=>bEq a b
 | .int k x,.int k' y=>kEq k k' && decide (x=y)
 | .str s,.str s'=>s.data.toList == s'.data.toList
 | .nilp,.nilp=>true
 | .ptr a b,.ptr a' b'=>Nat.beq a a' && Nat.beq b b'
 | .nils,.nils=>true
 | .sl a b c d,.sl a' b' c' d'=>Nat.beq a a' && Nat.beq b b' && Nat.beq c c' && Nat.beq d d'
 | .slo a b c d,.slo a' b' c' d'=>Nat.beq a a' && Nat.beq b b' && Nat.beq c c' && Nat.beq d d'
 | .nilm,.nilm=>true
 | .map a,.map a'=>Nat.beq a a'
 | .fn f a b,.fn f' a' b'=>Nat.beq f f' && zfq a a' && zfq b b'
 | .yield a,.yield a'=>Nat.beq a a'
 | .nilf,.nilf=>true
 | .agg l,.agg l'=>zfq l l'
 | .tup l,.tup l'=>zfq l l'
 | _,_=>false
noncomputable def zfq:List AV→List AV→Bool
 | [],[]=>true
 | a :: l,a' :: l'=>zp6 a a' && zfq l l'
 | _,_=>false
end
noncomputable def zrb (x y:Option AV):Bool:=match x with
 | none=>true
 | some v=>match y with
  | some v'=>zp6 v v'
  | none=>false
noncomputable def zgw:Tr AV→Tr AV→Bool
 | .leaf,_=>true
 | .node l x r,B=>zrb x (Tr.get B 0) && zgw l B.lf && zgw r B.rt
noncomputable def zv9:List Ent→List Ent→Bool
 | [],[]=>true
 | e :: l,e' :: l'=>zp6 e.1 e'.1 && zp6 e.2.1 e'.2.1 && Nat.beq e.2.2 e'.2.2 && zv9 l l'
 | _,_=>false
def zgb:List Nat→List Nat→Bool
 | [],[]=>true
 | a :: l,a' :: l'=>Nat.beq a a' && zgb l l'
 | _,_=>false
def zel (a:Nat):List Nat→Bool
 | []=>true
 | b :: l=>!Nat.beq a b && zel a l
def zi6:List Nat→Bool
 | []=>true
 | a :: l=>zel a l && zi6 l
def ze4:Code→Nat
 | .region _ ops _=>ops.toList.foldl (fun s o=>match o.dst with
  | some d=>Nat.lor s (zm d)
  | none=>s) 0
 | .seq a b=>Nat.lor (ze4 a) (ze4 b)
 | .cond _ a b=>Nat.lor (ze4 a) (ze4 b)
 | .block _ b=>ze4 b
 | .loop b=>ze4 b
 | .rangeFunc _ ps a b=>Nat.lor (ps.toList.foldl (fun s d=>Nat.lor s (zm d)) 0) (Nat.lor (ze4 a) (ze4 b))
 | .scope b=>ze4 b
 | _=>0
def zjt {α:Type}:(Nat→Bool)→Tr α→Tr α
 | _,.leaf=>.leaf
 | p,.node l x r=>.node (zjt (fun m=>p (2 * m+1)) l) (if p 0 then x else none) (zjt (fun m=>p (2 * m+2)) r)
def Tm.less (T:Tm) (mask:Nat):Tm:=⟨zjt (fun t=>!tb mask t) T.m,T.sz⟩
structure Rd where
 th:Bool
 t:Nat
 w:Nat
 nx:Nat
noncomputable def zc6 (S:St) (n m:Nat) (es:List Ent) (ck i born:Nat):St:=⟨Tr.put 24 n (some (.itAt m ck born)) (Tr.put 24 m (some (.mapk es ck i true)) S.heap),S.next,0,0⟩
noncomputable def set2 (T0:Tm) (d1 d2:Nat) (v1 v2:AV):Option Tm:=T0.putK (some d1) v1 fun T=>T.putK (some d2) v2 fun T=>some T
noncomputable def z3v (T0:Tm) (mk:List Nat) (S:St) (m:Nat) (r:Res):Bool:=zak r.ex && zgb r.mks mk && zgw T0.m r.tm.m && Nat.beq r.tm.sz T0.sz && (fun w=>Nat.beq w 0 || Nat.beq w (zm m)) (Nat.land r.st.w (Nat.sub (zm S.next) 1)) && Nat.blt r.st.w (zm r.st.next)
noncomputable def zoq (ih:Ih) (ro:Option Nat) (rest:Code) (T0:Tm) (d1 d2:Nat) (mk:List Nat) (S:St) (n m:Nat) (es:List Ent) (ck i:Nat) (e:Ent):Option Rd :=
 bnd (set2 T0 d1 d2 (.tup [.bool true,e.1,e.2.1]) (.bool true)) fun T1=>bnd (ih (.code ro rest T1 mk) (zc6 S n m es ck i e.2.2)) fun r =>
 zk (z3v T0 mk S m r) (bnd (r.st.get m) fun o=>bnd (zzd o) fun z=>zk (Nat.beq z.i i && Nat.beq z.ck ck && zv9 z.es es) (some ⟨z.th,r.st.t,r.st.w,r.st.next⟩) none) none
noncomputable def zh6 (f:Nat→Ent→Option Rd):List Ent→Nat→Option (List Rd)
 | [],_=>some []
 | e :: l,i=>bnd (f i e) fun q=>bnd (zh6 f l (i+1)) fun r=>some (q :: r)
noncomputable def ze5:List Ent→List Rd→List Ent
 | e :: l,q :: r=>if q.th then e :: ze5 l r else ze5 l r
 | _,_=>[]
noncomputable def orT:List Rd→Nat
 | []=>0
 | q :: l=>Nat.lor q.t (orT l)
noncomputable def orW:List Rd→Nat
 | []=>0
 | q :: l=>Nat.lor q.w (orW l)
noncomputable def zdm (n:Nat):List Rd→Nat
 | []=>n
 | q :: l=>Nat.max q.nx (zdm n l)
noncomputable def z08 {β:Type} (S:St) (n m:Nat) (es:List Ent) (ck:Nat) (qs:List Rd) (k:St→β):β :=
 fcN (Nat.lor (Nat.lor S.t (orT qs)) (Nat.lor (zm n) (zm m))) fun t=>fcN (Nat.lor (Nat.lor S.w (orW qs)) (Nat.lor (zm n) (zm m))) fun w=>fcN (zdm S.next qs) fun nx =>
  k ⟨Tr.put 24 m (some (.map (ze5 es qs) ck)) (Tr.put 24 n none S.heap),nx,t,w⟩
noncomputable def z3w (ih:Ih) (ro:Option Nat) (rest:Code) (T0:Tm) (d1 d2:Nat) (mk:List Nat) (S:St) (n m:Nat) (es:List Ent) (ck:Nat):Option Res :=
 bnd (zh6 (zoq ih ro rest T0 d1 d2 mk S n m es ck) es 0) fun qs=>z08 S n m es ck qs fun S =>
  bnd (set2 T0 d1 d2 (.tup [.bool false]) (.bool false)) fun T1=>bnd (ih (.code ro rest T1 mk) S) fun r=>zk (zak r.ex) none (some r)
def zls (ops:List Oper):Option (Nat × Nat × Nat):=match ops with
 | [⟨some d1,.next (.tmp it) false,_,_,_,none⟩,⟨some d2,.extract (.tmp d) 0,_,_,_,none⟩]=>if Nat.beq d d1 && !Nat.beq d1 d2 then some (it,d1,d2) else none
 | _=>none
noncomputable def zabl (ih:Ih) (ro:Option Nat) (rest:Code) (T0:Tm) (mk:List Nat) (S:St) (it d1 d2:Nat):Option Res:=bnd (T0.get it) fun v=>bnd (zkq v) fun p=>zk (Nat.beq p.2 0) (bnd (S.get p.1) fun o=>bnd (itO o) fun q=>zk (isNil q.2.2)
   (bnd (S.get q.1) fun o=>bnd (zid o) fun ec=>zk (Nat.beq ec.2 q.2.1 && ec.1.all (fun e=>Nat.blt e.2.2 ec.2) && zi6 (ec.1.map (·.2.2))) (z3w ih ro rest T0 d1 d2 mk S p.1 q.1 ec.1 ec.2) none) none) none
noncomputable def zrc (b:Code):CdF:=fun _ _ ih ro T mk S=>match b with
 | .seq (.region _ ops false) rest=>bnd (zls ops.toList) fun h=>zabl ih ro rest (T.less (Nat.lor (ze4 rest) (Nat.lor (zm h.2.1) (zm h.2.2)))) mk S h.1 h.2.1 h.2.2
 | _=>none
noncomputable def z93 (a b:AO):Bool:=match a,b with
 | .cells l,.cells l'=>zfq l l'
 | .map es c,.map es' c'=>zv9 es es' && Nat.beq c c'
 | .row l,.row l'=>zfq l l'
 | _,_=>false
noncomputable def zrd (x y:Option AO):Bool:=match x with
 | none=>true
 | some v=>match y with
  | some v'=>z93 v v'
  | none=>false
noncomputable def zgx:Tr AO→Tr AO→Bool
 | .leaf,_=>true
 | .node l x r,B=>zrd x (Tr.get B 0) && zgx l B.lf && zgx r B.rt
noncomputable def z94 (a b:Ex):Bool:=match a,b with
 | .normal,.normal=>true
 | .ret,.ret=>true
 | .exit i,.exit j=>Nat.beq i j
 | .goto i,.goto j=>Nat.beq i j
 | _,_=>false
noncomputable def zzi (r r':Res):Bool:=z94 r.ex r'.ex && zgb r.mks r'.mks && zgw r.tm.m r'.tm.m && Nat.beq r.tm.sz r'.tm.sz && zgx r.st.heap r'.st.heap && Nat.beq r.st.next r'.st.next && Nat.beq r.st.t r'.st.t && Nat.beq r.st.w r'.st.w
noncomputable def zue (nx:Nat) (r:Res):Res:=⟨r.ex,r.tm,r.mks,.undef,⟨zjt (fun x=>Nat.blt x nx) r.st.heap,r.st.next,r.st.t,r.st.w⟩⟩
noncomputable def z95 (n m ck born:Nat) (S:St):Bool:=match S.get n with
 | some (.itAt m' ck' b')=>Nat.beq m' m && Nat.beq ck' ck && Nat.beq b' born
 | _=>false
noncomputable def isMap (m:Nat) (es:List Ent) (ck:Nat) (S:St):Bool:=match S.get m with
 | some (.map es' ck')=>zv9 es' es && Nat.beq ck' ck
 | _=>false
noncomputable def zh7 (S:St) (n m ck born:Nat):St:=⟨Tr.put 24 n (some (.itAt m ck born)) S.heap,S.next,0,0⟩
noncomputable def zdw (ih:Ih) (ro:Option Nat) (rest:Code) (T0:Tm) (d1 d2:Nat) (mk:List Nat) (n m:Nat) (es:List Ent) (ck:Nat) (S:St) (e:Ent):Option St :=
 bnd (set2 T0 d1 d2 (.tup [.bool true,e.1,e.2.1]) (.bool true)) fun T1=>bnd (ih (.code ro rest T1 mk) (zh7 S n m ck e.2.2)) fun r =>
 zk (zak r.ex && zgb r.mks mk && zgw T0.m r.tm.m && Nat.beq r.tm.sz T0.sz && !tb r.st.w n && z95 n m ck e.2.2 r.st && isMap m es ck r.st) (some ⟨r.st.heap,r.st.next,Nat.lor (Nat.lor S.t r.st.t) (zm n),Nat.lor (Nat.lor S.w r.st.w) (zm n)⟩) none
noncomputable def zgc (f:Nat→Ent→Option Res) (sn:List Nat):List Ent→Nat→Option (List Res)
 | [],_=>some []
 | e :: l,i=>if zel i sn then bnd (f i e) fun r=>bnd (zgc f sn l (i+1)) fun rs=>some (r :: rs) else zgc f sn l (i+1)
noncomputable def z09:List Res→Option Res
 | []=>none
 | r :: l=>if l.all (zzi r) then some r else none
noncomputable def zju (ih:Ih) (ro:Option Nat) (rest:Code) (T0:Tm) (d1 d2:Nat) (mk:List Nat) (n m:Nat) (es:List Ent) (ck nx:Nat):Nat→List Nat→St→Option Res
 | 0,_,S=>bnd (set2 T0 d1 d2 (.tup [.bool false]) (.bool false)) fun T1=>bnd (ih (.code ro rest T1 mk) S) fun r=>zk (zak r.ex) none (some (zue nx r))
 | k+1,sn,S=>bnd (zgc (fun i e=>bnd (zdw ih ro rest T0 d1 d2 mk n m es ck S e) fun S'=>zju ih ro rest T0 d1 d2 mk n m es ck nx k (i :: sn) S') sn es 0) z09
noncomputable def zxm (ih:Ih) (ro:Option Nat) (rest:Code) (T0:Tm) (mk:List Nat) (S:St) (it d1 d2:Nat):Option Res:=bnd (T0.get it) fun v=>bnd (zkq v) fun p=>zk (Nat.beq p.2 0) (bnd (S.get p.1) fun o=>bnd (itO o) fun q=>zk (isNil q.2.2)
   (bnd (S.get q.1) fun o=>bnd (zid o) fun ec=>zk (Nat.beq ec.2 q.2.1 && ec.1.all (fun e=>Nat.blt e.2.2 ec.2) && zi6 (ec.1.map (·.2.2)) && Nat.ble ec.1.length 3) (bnd (zju ih ro rest T0 d1 d2 mk p.1 q.1 ec.1 ec.2 S.next ec.1.length [] S) fun r=>zk (tb r.st.t p.1 && tb r.st.t q.1) (some r) none) none) none) none
noncomputable def zor (b:Code):CdF:=fun _ _ ih ro T mk S=>match b with
 | .seq (.region _ ops false) rest=>bnd (zls ops.toList) fun h=>zxm ih ro rest (T.less (Nat.lor (ze4 rest) (Nat.lor (zm h.2.1) (zm h.2.2)))) mk S h.1 h.2.1 h.2.2
 | _=>none
noncomputable def zafc (b:Code):CdF:=fun E P ih ro T mk S=>@Option.rec Res (fun _=>Option Res) (@Option.rec Res (fun _=>Option Res) (z07 b E P ih ro T mk S) (fun r=>some r) (zor b E P ih ro T mk S)) (fun r=>some r) (zrc b E P ih ro T mk S)
noncomputable def z7p (b:Code):CdF:=fun _ _ ih ro T mk S=>bnd (ih (.code ro b T mk) S) fun r=>zk (zacj r.ex) (some r) none
noncomputable def zwa (_:Nat) (ops:Array Oper) (draw:Bool):CdF:=fun E P ih _ T mk S=>bnd (z91 E P ih draw ops.toList T S) fun r=>some ⟨.normal,r.1,mk,.undef,r.2⟩
noncomputable def z3x (f:Operand) (ps:Array Nat) (as bd:Code):CdF:=fun _ _ ih ro T mk S=>bnd (opd T f) fun f=>z92 ih ro f ps.toList as bd T mk S
noncomputable def cNot:CdF:=fun _ _ _ _ _ _ _=>none
noncomputable def codeF:Code→CdF:=@Code.rec (fun _=>CdF) (done .normal) zwa (fun a b _ _=>cSeq a b) (fun c x y _ _=>zabk c x y) (fun id b _=>z7o id b) (fun b _=>zafc b) (fun f ps as bd _ _=>z3x f ps as bd) (fun id=>done (.exit id)) (fun b _=>z7p b)
 (fun _=>done .normal) (fun l=>done (.goto l)) (done .ret) (fun _=>cNot)
noncomputable def zafd (E:Env) (P:Program) (ih:Ih) (t:Task) (S:St):Option Res:=@Task.rec (fun _=>Option Res) (fun f args=>@Option.rec Res (fun _=>Option Res) (z05 E ih f args S) (fun r=>some r) (z5h E.tab f args S)) (fun ro c T mk=>codeF c E P ih ro T mk S) (fun l args=>z3u ih l args S) t
noncomputable def zjv (E:Env) (P:Program) (n:Nat):Task→St→Option Res:=@Nat.rec (fun _=>Task→St→Option Res) (fun _ _=>none) (fun _ ih=>zafd E P ih) n
noncomputable def st0:St:=⟨.leaf,0,0,0⟩
theorem zd {α β:Type} {x:Option α} {k:α→Option β} {r:β} (h:bnd x k=some r):∃ a,x=some a∧k a=some r:=by
 cases x with
 | none=>cases h
 | some a=>exact ⟨a,rfl,h⟩
theorem zf {β:Type} {c:Bool} {x:Option β} {r:β} (h:zk c x none=some r):c=true∧x=some r:=by
 cases c with
 | false=>cases h
 | true=>exact ⟨rfl,h⟩
theorem zx {β:Type} (c:Bool) (x y:β):zk c x y=if c=true then x else y:=by cases c<;>rfl
theorem zan {β:Type} (n:Nat) (k:Nat→β):fcN n k=k n:=by cases n<;>rfl
theorem z7q {β:Type} (n:Int) (k:Int→β):fcI n k=k n:=by
 cases n with
 | ofNat a=>exact zan a fun a=>k (.ofNat a)
 | negSucc a=>exact zan a fun a=>k (.negSucc a)
theorem Tr.putB_eq {α β:Type} (x:Option α):∀ (b:Bin) (t:Tr α) (k:Tr α→β),Tr.putB x b t k=k (Tr.putB x b t fun t=>t)
 | .z,t,k=>by cases t<;>rfl
 | .o p,t,k=>by
  cases t with
  | leaf=>exact (Tr.putB_eq x p .leaf _).trans (congrArg k (Tr.putB_eq x p Tr.leaf fun l=>Tr.node l none .leaf).symm)
  | node l v r=>exact (Tr.putB_eq x p l _).trans (congrArg k (Tr.putB_eq x p l fun l=>Tr.node l v r).symm)
 | .i p,t,k=>by
  cases t with
  | leaf=>exact (Tr.putB_eq x p .leaf _).trans (congrArg k (Tr.putB_eq x p Tr.leaf fun r=>Tr.node .leaf none r).symm)
  | node l v r=>exact (Tr.putB_eq x p r _).trans (congrArg k (Tr.putB_eq x p r fun r=>Tr.node l v r).symm)
theorem Tr.putK_eq {α β:Type} (f n:Nat) (x:Option α) (t:Tr α) (k:Tr α→β):Tr.putK f n x t k=k (Tr.put f n x t):=Tr.putB_eq x (zea n) t k
theorem zr6:∀ (n f:Nat),n≤f→zic f n=zic n n:=by
 intro n
 induction n using Nat.strongRecOn with
 | _ n ih =>
  intro f h;cases n with
  | zero=>cases f<;>rfl
  | succ m =>
   have e:∀ g,m / 2≤g→zic (g+1) (m+1) = @Nat.rec (fun _=>Bin) (.o (zic (m / 2) (m / 2))) (fun _ _=>.i (zic (m / 2) (m / 2))) (m % 2):=fun g hg=>by
    show @Nat.rec (fun _=>Bin) (.o (zic g (m / 2))) (fun _ _=>.i (zic g (m / 2))) (m % 2)=_;rw [ih (m / 2) (by omega) g hg]
   cases f with
   | zero=>omega
   | succ f=>rw [e f (by omega),e m (by omega)]
theorem z1a {m:Nat} (h:m % 2=0):zea (m+1) = .o (zea (m / 2)):=by
 show @Nat.rec (fun _=>Bin) (.o (zic m (m / 2))) (fun _ _=>.i (zic m (m / 2))) (m % 2)=_;rw [h,zr6 (m / 2) m (by omega)];rfl
theorem z3y {m:Nat} (h:m % 2=1):zea (m+1) = .i (zea (m / 2)):=by
 show @Nat.rec (fun _=>Bin) (.o (zic m (m / 2))) (fun _ _=>.i (zic m (m / 2))) (m % 2)=_;rw [h,zr6 (m / 2) m (by omega)];rfl
def zwb:Bin→Nat
 | .z=>0
 | .o p=>2 * zwb p+1
 | .i p=>2 * zwb p+2
theorem z3z (n:Nat):zwb (zea n)=n:=by
 induction n using Nat.strongRecOn with
 | _ n ih =>
  cases n with
  | zero=>rfl
  | succ m =>
   rcases Nat.mod_two_eq_zero_or_one m with h | h
   ·rw [z1a h];show 2 * zwb (zea (m / 2))+1=m+1;rw [ih (m / 2) (by omega)];omega
   ·rw [z3y h];show 2 * zwb (zea (m / 2))+2=m+1;rw [ih (m / 2) (by omega)];omega
theorem Tr.get_leaf {α:Type} (n:Nat):Tr.get (.leaf:Tr α) n=none:=rfl
theorem Tr.get_zero {α:Type} (t:Tr α):Tr.get t 0=t.vl:=by cases t<;>rfl
theorem Tr.get_even {α:Type} (t:Tr α) (m:Nat) (h:m % 2=0):Tr.get t (m+1)=Tr.get t.lf (m / 2):=by
 unfold Tr.get;rw [z1a h];cases t<;>rfl
theorem Tr.get_odd {α:Type} (t:Tr α) (m:Nat) (h:m % 2=1):Tr.get t (m+1)=Tr.get t.rt (m / 2):=by
 unfold Tr.get;rw [z3y h];cases t<;>rfl
theorem Tr.getB_same {α:Type} (x:Option α):∀ (b:Bin) (t:Tr α),Tr.getB (Tr.putB x b t fun t=>t) b=x
 | .z,t=>by cases t<;>rfl
 | .o p,t=>by
  cases t with
  | leaf=>rw [show (Tr.putB x (.o p) .leaf fun t=>t)=(Tr.putB x p .leaf fun l=>Tr.node l none .leaf) from rfl,Tr.putB_eq x p .leaf fun l=>Tr.node l none .leaf];exact Tr.getB_same x p .leaf
  | node l v r=>rw [show (Tr.putB x (.o p) (.node l v r) fun t=>t)=(Tr.putB x p l fun l=>Tr.node l v r) from rfl,Tr.putB_eq x p l fun l=>Tr.node l v r];exact Tr.getB_same x p l
 | .i p,t=>by
  cases t with
  | leaf=>rw [show (Tr.putB x (.i p) .leaf fun t=>t)=(Tr.putB x p .leaf fun l=>Tr.node .leaf none l) from rfl,Tr.putB_eq x p .leaf fun l=>Tr.node .leaf none l];exact Tr.getB_same x p .leaf
  | node l v r=>rw [show (Tr.putB x (.i p) (.node l v r) fun t=>t)=(Tr.putB x p r fun r=>Tr.node l v r) from rfl,Tr.putB_eq x p r fun r=>Tr.node l v r];exact Tr.getB_same x p r
theorem Tr.getB_other {α:Type} (x:Option α):∀ (b c:Bin) (t:Tr α),c≠b→Tr.getB (Tr.putB x b t fun t=>t) c=Tr.getB t c
 | .z,c,t,h=>by cases c<;>cases t<;>first | rfl | exact absurd rfl h
 | .o p,c,t,h=>by
  cases t with
  | leaf =>
   rw [show (Tr.putB x (.o p) .leaf fun t=>t)=(Tr.putB x p .leaf fun l=>Tr.node l none .leaf) from rfl,Tr.putB_eq x p .leaf fun l=>Tr.node l none .leaf];cases c with
   | o q=>exact Tr.getB_other x p q .leaf fun e=>h (by rw [e])
   | _=>rfl
  | node l v r =>
   rw [show (Tr.putB x (.o p) (.node l v r) fun t=>t)=(Tr.putB x p l fun l=>Tr.node l v r) from rfl,Tr.putB_eq x p l fun l=>Tr.node l v r];cases c with
   | o q=>exact Tr.getB_other x p q l fun e=>h (by rw [e])
   | _=>rfl
 | .i p,c,t,h=>by
  cases t with
  | leaf =>
   rw [show (Tr.putB x (.i p) .leaf fun t=>t)=(Tr.putB x p .leaf fun l=>Tr.node .leaf none l) from rfl,Tr.putB_eq x p .leaf fun l=>Tr.node .leaf none l];cases c with
   | i q=>exact Tr.getB_other x p q .leaf fun e=>h (by rw [e])
   | _=>rfl
  | node l v r =>
   rw [show (Tr.putB x (.i p) (.node l v r) fun t=>t)=(Tr.putB x p r fun r=>Tr.node l v r) from rfl,Tr.putB_eq x p r fun r=>Tr.node l v r];cases c with
   | i q=>exact Tr.getB_other x p q r fun e=>h (by rw [e])
   | _=>rfl
theorem zack {a b:Nat} (h:zea a=zea b):a=b:=by have:=congrArg zwb h;rwa [z3z,z3z] at this
theorem Tr.get_putE {α:Type} (f n:Nat) (x:Option α) (t:Tr α) (k:Nat):Tr.get (Tr.put f n x t) k=if k=n then x else Tr.get t k:=by
 show Tr.getB (Tr.putB x (zea n) t fun t=>t) (zea k)=_
 by_cases h:k=n
 ·rw [if_pos h,h];exact Tr.getB_same x _ t
 ·rw [if_neg h];exact Tr.getB_other x _ _ t fun e=>h (zack e)
theorem Tr.get_put {α:Type} (f n:Nat) (x:Option α) (t:Tr α) (k:Nat) (v:α) (h:Tr.get (Tr.put f n x t) k=some v):(k=n∧x=some v)∨(k≠n∧Tr.get t k=some v):=by
 rw [Tr.get_putE] at h
 split at h
 ·rename_i e;exact .inl ⟨e,h⟩
 ·rename_i e;exact .inr ⟨e,h⟩
theorem Tr.get_ofList {α:Type}:∀ (l:List α) (i:Nat) (t:Tr α) (k:Nat) (v:α),Tr.get (Tr.ofList l i t) k=some v→(i≤k∧l[k - i]? = some v)∨Tr.get t k=some v
 | [],_,_,_,_,h=>.inr h
 | x :: l,i,t,k,v,h=>by
  have h':Tr.get (Tr.ofList l (i+1) (Tr.put 24 i (some x) t)) k=some v:=h
  rcases Tr.get_ofList l (i+1) _ k v h' with ⟨h1,h2⟩ | h1
  ·refine .inl ⟨by omega,?_⟩
   have e:k - i=(k - (i+1))+1:=by omega
   rw [e];simpa using h2
  ·rcases Tr.get_put 24 i (some x) t k v h1 with ⟨rfl,h2⟩ | ⟨_,h2⟩
   ·exact .inl ⟨Nat.le_refl _,by simpa using h2⟩
   ·exact .inr h2
def bit (m n:Nat):Prop:=m.testBit n=true
theorem zl {n k:Nat}:bit (zm n) k↔k=n:=by
 unfold bit zm;rw [show Nat.shiftLeft 1 n=2 ^ n by show 1 <<< n=_;rw [Nat.one_shiftLeft],Nat.testBit_two_pow];simp [eq_comm]
theorem zg {a b k:Nat}:bit (Nat.lor a b) k↔bit a k∨bit b k:=by
 unfold bit;rw [show Nat.lor a b=a ||| b from rfl,Nat.testBit_or,Bool.or_eq_true]
noncomputable def St.touched (S:St) (n:Nat):St:=⟨S.heap,S.next,Nat.lor S.t (zm n),S.w⟩
noncomputable def St.alloced (S:St) (o:AO):St:=⟨Tr.put 24 S.next (some o) S.heap,S.next+1,Nat.lor S.t (zm S.next),Nat.lor S.w (zm S.next)⟩
noncomputable def St.setted (S:St) (n:Nat) (o:Option AO):St:=⟨Tr.put 24 n o S.heap,S.next,Nat.lor S.t (zm n),Nat.lor S.w (zm n)⟩
theorem St.touch_eq {β:Type} (S:St) (n:Nat) (k:St→β):S.touch n k=k (S.touched n):=by
 cases S;unfold St.touch St.touched;simp only [zan]
theorem St.alloc_eq {β:Type} (S:St) (o:AO) (k:Nat→St→β):S.alloc o k=k S.next (S.alloced o):=by
 cases S;unfold St.alloc St.alloced;simp only [zan,Tr.putK_eq]
theorem St.set_eq {β:Type} (S:St) (n:Nat) (o:Option AO) (k:St→β):S.set n o k=k (S.setted n o):=by
 cases S;unfold St.set St.setted;simp only [zan,Tr.putK_eq]
theorem St.get_eq (S:St) (n:Nat):S.get n=Tr.get S.heap n:=by cases S;rfl
theorem St.get_touched (S:St) (n m:Nat):(S.touched n).get m=S.get m:=by rw [St.get_eq,St.get_eq];rfl
theorem St.get_alloced {S:St} {o:AO} {m:Nat} {x:AO} (h:(S.alloced o).get m=some x):(m=S.next∧x=o)∨(m≠S.next∧S.get m=some x):=by
 rw [St.get_eq] at h ⊢;have h':Tr.get (Tr.put 24 S.next (some o) S.heap) m=some x:=h
 rcases Tr.get_put _ _ _ _ _ _ h' with ⟨h1,h2⟩ | h1
 ·exact .inl ⟨h1,(Option.some.inj h2).symm⟩
 ·exact .inr h1
theorem St.get_setted {S:St} {n:Nat} {o:Option AO} {m:Nat} {x:AO} (h:(S.setted n o).get m=some x):(m=n∧o=some x)∨(m≠n∧S.get m=some x):=by
 rw [St.get_eq] at h ⊢;have h':Tr.get (Tr.put 24 n o S.heap) m=some x:=h;exact Tr.get_put _ _ _ _ _ _ h'
structure Lcl (S S':St):Prop where
 next:S.next≤S'.next
 t:∀ n,bit S.t n→bit S'.t n
 w:∀ n,bit S.w n→bit S'.w n
 live:∀ n o,(n < S.next∨S'.next≤n)→S'.get n=some o→∃ o',S.get n=some o'
 new:∀ n,S.next≤n→n < S'.next→bit S'.w n∧bit S'.t n
 keep:∀ n o,¬ bit S'.w n→S'.get n=some o→S.get n=some o
 wt:(∀ n,bit S.w n→bit S.t n)→∀ n,bit S'.w n→bit S'.t n
theorem Lcl.refl (S:St):Lcl S S:=⟨Nat.le_refl _,fun _ h=>h,fun _ h=>h,fun _ o _ h=>⟨o,h⟩,fun _ h1 h2=>absurd h1 (by omega),fun _ _ _ h=>h,fun h=>h⟩
theorem Lcl.trans {A B C:St} (h:Lcl A B) (k:Lcl B C):Lcl A C where
 next:=Nat.le_trans h.next k.next
 t n hn:=k.t n (h.t n hn)
 w n hn:=k.w n (h.w n hn)
 live n o hn ho:=by
  have h1:=h.next;have h2:=k.next;obtain ⟨o',ho'⟩:=k.live n o (by omega) ho;exact h.live n o' (by omega) ho'
 new n h1 h2:=by
  rcases Nat.lt_or_ge n B.next with hb | hb
  ·have:=h.new n h1 hb;exact ⟨k.w n this.1,k.t n this.2⟩
  ·exact k.new n hb h2
 keep n o hn ho:=h.keep n o (fun hb=>hn (k.w n hb)) (k.keep n o hn ho)
 wt h0:=k.wt (h.wt h0)
theorem zaf (S:St) (n:Nat):Lcl S (S.touched n) where
 next:=Nat.le_refl _
 t k hk:=zg.2 (.inl hk)
 w _ hk:=hk
 live k o _ h:=⟨o,by rw [St.get_touched] at h;exact h⟩
 new k h1 h2:=absurd h1 (by have:(S.touched n).next=S.next:=rfl;omega)
 keep k o _ h:=by rw [St.get_touched] at h;exact h
 wt h0 k hk:=zg.2 (.inl (h0 k hk))
theorem za8 (S:St) (o:AO):Lcl S (S.alloced o) where
 next:=Nat.le_succ _
 t k hk:=zg.2 (.inl hk)
 w k hk:=zg.2 (.inl hk)
 live k x hk h:=by
  have e:(S.alloced o).next=S.next+1:=rfl
  rcases St.get_alloced h with ⟨rfl,_⟩ | ⟨_,h⟩
  ·omega
  ·exact ⟨x,h⟩
 new k h1 h2:=by
  have:(S.alloced o).next=S.next+1:=rfl;have e:k=S.next:=by omega
  exact ⟨zg.2 (.inr (zl.2 e)),zg.2 (.inr (zl.2 e))⟩
 keep k x hk h:=by
  rcases St.get_alloced h with ⟨rfl,_⟩ | ⟨_,h⟩
  ·exact absurd (zg.2 (.inr (zl.2 rfl))) hk
  ·exact h
 wt h0 k hk:=by
  rcases zg.1 hk with h | h
  ·exact zg.2 (.inl (h0 k h))
  ·exact zg.2 (.inr h)
theorem zab (S:St) (n:Nat) (o:Option AO) (hl:∃ o',S.get n=some o'):Lcl S (S.setted n o) where
 next:=Nat.le_refl _
 t k hk:=zg.2 (.inl hk)
 w k hk:=zg.2 (.inl hk)
 live k x hk h:=by
  rcases St.get_setted h with ⟨rfl,_⟩ | ⟨_,h⟩
  ·exact hl
  ·exact ⟨x,h⟩
 new k h1 h2:=absurd h1 (by have:(S.setted n o).next=S.next:=rfl;omega)
 keep k x hk h:=by
  rcases St.get_setted h with ⟨rfl,_⟩ | ⟨_,h⟩
  ·exact absurd (zg.2 (.inr (zl.2 rfl))) hk
  ·exact h
 wt h0 k hk:=by
  rcases zg.1 hk with h | h
  ·exact zg.2 (.inl (h0 k h))
  ·exact zg.2 (.inr h)
structure Loc where
 b:Nat
 s:Nat
 k:Nat
 g:Nat→Bool
abbrev Rho:=Nat→Option Loc
mutual
def RV (ρ:Rho):AV→Value→Prop
 | .bool b,V=>V = .bool b
 | .int k n,V=>V = .int k n
 | .str s,V=>V = .string s
 | .nilp,V=>V = .pointer none
 | .ptr n o,V=>∃ L,ρ n=some L∧V = .pointer (some ⟨L.b,L.s+o,none⟩)
 | .nils,V=>V = .slice none 0 0
 | .sl n o len cap,V=>∃ L o',ρ n=some L∧V = .slice (some ⟨L.b,o',none⟩) len cap∧len≤cap∧(cap=0∨o'=L.s+o)
 | .slo n o len sz,V=>∃ L o' cap,ρ n=some L∧V = .slice (some ⟨L.b,o',none⟩) len cap∧len≤cap∧o+cap * sz=L.k∧(cap=0∨o'=L.s+o)
 | .nilm,V=>V = .map none
 | .map n,V=>∃ L,ρ n=some L∧V = .map (some L.b)
 | .fn f a b,V=>∃ as bs:Array Value,V = .func (.func f) as bs∧RVs ρ a as.toList∧RVs ρ b bs.toList
 | .yield l,V=>∃ L,ρ l=some L∧V = .func (.yield L.b) #[] #[]
 | .nilf,V=>V = .nilFunc
 | .agg l,V=>∃ vs:Array Value,V = .agg vs∧RVs ρ l vs.toList
 | .tup l,V=>∃ vs:Array Value,V = .tuple vs∧RVs ρ l vs.toList
def RVs (ρ:Rho):List AV→List Value→Prop
 | [],vs=>vs=[]
 | a :: l,vs=>∃ V r,vs=V :: r∧RV ρ a V∧RVs ρ l r
end
def Sub (ρ ρ':Rho):Prop:=∀ m L,ρ m=some L→ρ' m=some L
theorem Sub.refl (ρ:Rho):Sub ρ ρ:=fun _ _ h=>h
theorem Sub.trans {a b c:Rho} (h:Sub a b) (k:Sub b c):Sub a c:=fun m L e=>k m L (h m L e)
mutual
theorem RV.mono {ρ ρ':Rho} (h:Sub ρ ρ'):∀ (a:AV) (V:Value),RV ρ a V→RV ρ' a V
 | .bool _,_,e=>e
 | .int _ _,_,e=>e
 | .str _,_,e=>e
 | .nilp,_,e=>e
 | .ptr _ _,_,⟨L,e,r⟩=>⟨L,h _ _ e,r⟩
 | .nils,_,e=>e
 | .sl _ _ _ _,_,⟨L,o,e,r⟩=>⟨L,o,h _ _ e,r⟩
 | .slo _ _ _ _,_,⟨L,o,c,e,r⟩=>⟨L,o,c,h _ _ e,r⟩
 | .nilm,_,e=>e
 | .map _,_,⟨L,e,r⟩=>⟨L,h _ _ e,r⟩
 | .fn _ a b,_,⟨as,bs,e,ha,hb⟩=>⟨as,bs,e,RVs.mono h a _ ha,RVs.mono h b _ hb⟩
 | .yield _,_,⟨L,e,r⟩=>⟨L,h _ _ e,r⟩
 | .nilf,_,e=>e
 | .agg l,_,⟨vs,e,hl⟩=>⟨vs,e,RVs.mono h l _ hl⟩
 | .tup l,_,⟨vs,e,hl⟩=>⟨vs,e,RVs.mono h l _ hl⟩
theorem RVs.mono {ρ ρ':Rho} (h:Sub ρ ρ'):∀ (l:List AV) (vs:List Value),RVs ρ l vs→RVs ρ' l vs
 | [],_,e=>e
 | a :: l,_,⟨V,r,e,ha,hl⟩=>⟨V,r,e,RV.mono h a V ha,RVs.mono h l r hl⟩
end
theorem RVs.length {ρ:Rho}:∀ {l:List AV} {vs:List Value},RVs ρ l vs→vs.length=l.length
 | [],_,h=>by rw [show _=[] from h];rfl
 | _ :: l,_,⟨V,r,e,_,hl⟩=>by rw [e];simp [RVs.length hl]
theorem RVs.at {ρ:Rho}:∀ {l:List AV} {vs:List Value},RVs ρ l vs→∀ {i:Nat} {a:AV},l[i]? = some a→∃ V,vs[i]? = some V∧RV ρ a V
 | [],_,_,_,_,h=>by simp at h
 | x :: l,_,⟨V,r,e,hx,hl⟩,0,a,h=>by
  simp at h;subst h;exact ⟨V,by rw [e];rfl,hx⟩
 | x :: l,_,⟨V,r,e,hx,hl⟩,i+1,a,h=>by
  obtain ⟨V',h1,h2⟩:=RVs.at hl (i:=i) (a:=a) (by simpa using h);exact ⟨V',by rw [e];simpa using h1,h2⟩
theorem RVs.of {ρ:Rho}:∀ {l:List AV} {vs:List Value},vs.length=l.length→(∀ (i:Nat) (a:AV),l[i]? = some a→∃ V,vs[i]? = some V∧RV ρ a V)→RVs ρ l vs
 | [],vs,h,_=>List.length_eq_zero_iff.1 (by simpa using h)
 | a :: l,[],h,_=>by simp at h
 | a :: l,V :: r,h,hh=>by
  refine ⟨V,r,rfl,?_,RVs.of (by simpa using h) fun i b hb=>?_⟩
  ·obtain ⟨V',h1,h2⟩:=hh 0 a rfl
   simp at h1;subst h1;exact h2
  ·have:=hh (i+1) b (by simpa using hb)
   simpa using this
theorem RVs.append {ρ:Rho}:∀ {a b:List AV} {u v:List Value},RVs ρ a u→RVs ρ b v→RVs ρ (a ++ b) (u ++ v)
 | [],_,_,_,h,k=>by rw [show _=[] from h];exact k
 | _ :: _,_,_,_,⟨V,r,e,h1,h2⟩,k=>by rw [e];exact ⟨V,_,rfl,h1,RVs.append h2 k⟩
theorem RVs.take {ρ:Rho} {l:List AV} {vs:List Value} (h:RVs ρ l vs) (n:Nat):RVs ρ (l.take n) (vs.take n) :=
 RVs.of (by simp [h.length]) fun i a hi=>by
  rw [List.getElem?_take] at hi ⊢
  split at hi
  ·rename_i hlt;rw [if_pos hlt];exact h.at hi
  ·cases hi
theorem RVs.drop {ρ:Rho} {l:List AV} {vs:List Value} (h:RVs ρ l vs) (n:Nat):RVs ρ (l.drop n) (vs.drop n) :=
 RVs.of (by simp [h.length]) fun i a hi=>by
  rw [List.getElem?_drop] at hi ⊢;exact h.at hi
def REs (ρ:Rho):List Ent→List MapEntry→Prop
 | [],es=>es=[]
 | a :: l,es=>∃ e r,es=e :: r∧RV ρ a.1 e.key∧RV ρ a.2.1 e.val∧e.born=a.2.2∧REs ρ l r
theorem REs.mono {ρ ρ':Rho} (h:Sub ρ ρ'):∀ (l:List Ent) (es:List MapEntry),REs ρ l es→REs ρ' l es
 | [],_,e=>e
 | _ :: l,_,⟨e,r,he,h1,h2,h3,h4⟩=>⟨e,r,he,RV.mono h _ _ h1,RV.mono h _ _ h2,h3,REs.mono h l r h4⟩
def RT (ρ:Rho) (m:Tr AV) (tmps:Array Value):Prop:=∀ t v,Tr.get m t=some v→∃ V,tmps[t]? = some V∧RV ρ v V
theorem RT.mono {ρ ρ':Rho} (h:Sub ρ ρ') {m:Tr AV} {tmps:Array Value} (k:RT ρ m tmps):RT ρ' m tmps:=fun t v e =>
 let ⟨V,h1,h2⟩:=k t v e;⟨V,h1,RV.mono h _ _ h2⟩
def RC (ρ:Rho) (l:List AV) (c:Array Value) (s:Nat):Prop:=∀ (i:Nat) (a:AV),l[i]? = some a→∃ V,c[s+i]? = some V∧RV ρ a V
def zah (g:Nat→Bool):Nat→List Ent→List Ent
 | _,[]=>[]
 | j,e :: l=>if g j then e :: zah g (j+1) l else zah g (j+1) l
def ziq (es:List Ent) (g:Nat→Bool) (i:Nat) (th:Bool):List Ent:=zah g 0 (es.take i) ++ ((if th then (es[i]?).toList else []) ++ zah g (i+1) (es.drop (i+1)))
def zcn (ρ:Rho) (L:Loc) (x:Option Obj):AO→Prop
 | .cells l=>∃ c e,x=some (.cells c e (0,0))∧c.size=L.s+L.k∧l.length≤L.k∧RC ρ l c L.s
 | .map es ck=>∃ ents,x=some (.map ents ck)∧REs ρ es ents.toList
 | .loop st pe tm sz ps as bd dn=>∃ (D:Loc) (fn:Nat) (tmps:Array Value),ρ dn=some D∧tmps.size=sz∧RT ρ tm tmps ∧
   x=some (.loop { state:=st,pending:=pe,fn,tmps,params:=ps.toArray,assign:=as,body:=bd,defers:=D.b })
 | .dfr=>x=some (.deferred (some []))
 | .striter s p=>L.s=0∧x=some (.stringIter s p)
 | .it m ck seen=>L.s=0∧∃ M:Loc,ρ m=some M∧x=some (.mapIter (some M.b) ck seen.toArray ck)
 | .itAt m ck born=>L.s=0∧∃ (M:Loc) (seen:Array Nat),ρ m=some M∧x=some (.mapIter (some M.b) ck (seen.push born) ck)
 | .mapk es ck i th=>∃ ents,x=some (.map ents ck)∧REs ρ (ziq es L.g i th) ents.toList
 | .row l=>∃ c e z,x=some (.cells c e z)∧c.size=L.s+L.k∧l.length≤L.k∧RC ρ l c L.s
theorem zcn.mono {ρ ρ':Rho} (h:Sub ρ ρ') {L:Loc} {x:Option Obj}:∀ {o:AO},zcn ρ L x o→zcn ρ' L x o
 | .cells _,⟨c,e,h1,h2,h3,h4⟩=>⟨c,e,h1,h2,h3,fun i a hi=>let ⟨V,k1,k2⟩:=h4 i a hi;⟨V,k1,RV.mono h _ _ k2⟩⟩
 | .map _ _,⟨es,h1,h2⟩=>⟨es,h1,REs.mono h _ _ h2⟩
 | .loop _ _ _ _ _ _ _ _,⟨D,fn,tmps,h1,h2,h3,h4⟩=>⟨D,fn,tmps,h _ _ h1,h2,h3.mono h,h4⟩
 | .dfr,e=>e
 | .striter _ _,e=>e
 | .it _ _ _,⟨h1,M,h2,h3⟩=>⟨h1,M,h _ _ h2,h3⟩
 | .itAt _ _ _,⟨h1,M,seen,h2,h3⟩=>⟨h1,M,seen,h _ _ h2,h3⟩
 | .mapk _ _ _ _,⟨es,h1,h2⟩=>⟨es,h1,REs.mono h _ _ h2⟩
 | .row _,⟨c,e,z,h1,h2,h3,h4⟩=>⟨c,e,z,h1,h2,h3,fun i a hi=>let ⟨V,k1,k2⟩:=h4 i a hi;⟨V,k1,RV.mono h _ _ k2⟩⟩
theorem zcn.some {ρ:Rho} {L:Loc} {w:World}:∀ {o:AO},zcn ρ L w.heap[L.b]? o→L.b < w.heap.size:=by
 have key:∀ {x:Obj},w.heap[L.b]? = Option.some x→L.b < w.heap.size:=fun h=>(Array.getElem?_eq_some_iff.1 h).1
 intro o h;cases o with
 | cells l=>obtain ⟨c,e,h1,_⟩:=h;exact key h1
 | map es ck=>obtain ⟨es,h1,_⟩:=h;exact key h1
 | loop=>obtain ⟨D,fn,tmps,_,_,_,h1⟩:=h;exact key h1
 | dfr=>exact key h
 | striter=>exact key h.2
 | it m ck seen=>obtain ⟨_,M,_,h1⟩:=h;exact key h1
 | itAt m ck b=>obtain ⟨_,M,seen,_,h1⟩:=h;exact key h1
 | mapk es ck i th=>obtain ⟨es,h1,_⟩:=h;exact key h1
 | row l=>obtain ⟨c,e,z,h1,_⟩:=h;exact key h1
structure Fit (ρ:Rho) (S:St) (T:Nat→Prop) (w:World):Prop where
 obj:∀ n o,T n→S.get n=some o→∃ L,ρ n=some L∧zcn ρ L w.heap[L.b]? o
 inj:∀ m n o o' L L',T m→T n→S.get m=some o→S.get n=some o'→ρ m=some L→ρ n=some L'→L.b=L'.b→m=n
structure zbg (w w':World):Prop where
 os:w'.os=w.os
 tape:w'.tape=w.tape
 output:w'.output=w.output
theorem zbg.refl (w:World):zbg w w:=⟨rfl,rfl,rfl⟩
theorem zbg.trans {a b c:World} (h:zbg a b) (k:zbg b c):zbg a c:=⟨k.os.trans h.os,k.tape.trans h.tape,k.output.trans h.output⟩
structure Stp (ρ:Rho) (S:St) (T:Nat→Prop) (w:World) (ρ':Rho) (S':St) (w':World):Prop where
 old:∀ m,(m < S.next∨S'.next≤m)→ρ' m=ρ m
 fit:Fit ρ' S' T w'
 fresh:∀ n o L,S.next≤n→n < S'.next→S'.get n=some o→ρ' n=some L→w.heap.size≤L.b∨∃ m o' L',T m∧bit S'.w m∧S.get m=some o'∧ρ m=some L'∧L'.b=L.b
 frame:∀ b,b < w.heap.size→(∀ m o L,T m→bit S'.w m→S.get m=some o→ρ m=some L→L.b≠b)→w'.heap[b]? = w.heap[b]?
 size:w.heap.size≤w'.heap.size
 lcl:Lcl S S'
 rest:zbg w w'
def zbl (ρ:Rho) (a b:Nat):Prop:=∀ m,a≤m→m < b→ρ m=none
theorem Stp.sub {ρ ρ':Rho} {S S':St} {T:Nat→Prop} {w w':World} (h:Stp ρ S T w ρ' S' w') (hf:zbl ρ S.next S'.next):Sub ρ ρ':=fun m L e=>by
 rcases Nat.lt_or_ge m S.next with h1 | h1
 ·rw [h.old m (.inl h1)];exact e
 ·rcases Nat.lt_or_ge m S'.next with h2 | h2
  ·rw [hf m h1 h2] at e;cases e
  ·rw [h.old m (.inr h2)];exact e
theorem Stp.free {ρ ρ':Rho} {S S' S'':St} {T:Nat→Prop} {w w':World} (h:Stp ρ S T w ρ' S' w') (hf:zbl ρ S.next S''.next):zbl ρ' S'.next S''.next:=fun m h1 h2=>by
 rw [h.old m (.inr h1)];exact hf m (Nat.le_trans h.lcl.next h1) h2
theorem Stp.refl {ρ:Rho} {S:St} {T:Nat→Prop} {w:World} (h:Fit ρ S T w):Stp ρ S T w ρ S w :=
 ⟨fun _ _=>rfl,h,fun _ _ _ h1 h2=>absurd h1 (by omega),fun _ _ _=>rfl,Nat.le_refl _,.refl S,.refl w⟩
theorem Fit.heap {ρ:Rho} {S:St} {T:Nat→Prop} {w w':World} (h:Fit ρ S T w) (e:w'.heap=w.heap):Fit ρ S T w' :=
 ⟨fun n o hn ho=>let ⟨L,h1,h2⟩:=h.obj n o hn ho;⟨L,h1,by rw [e];exact h2⟩,h.inj⟩
theorem Stp.heap {ρ ρ':Rho} {S S':St} {T:Nat→Prop} {w w' w'':World} (h:Stp ρ S T w ρ' S' w') (e:w''.heap=w'.heap) (hk:zbg w' w'':=by exact ⟨rfl,rfl,rfl⟩):Stp ρ S T w ρ' S' w'' :=
 ⟨h.old,h.fit.heap e,h.fresh,fun b hb hm=>by rw [e];exact h.frame b hb hm,by rw [e];exact h.size,h.lcl,h.rest.trans hk⟩
theorem Stp.place {ρ ρ':Rho} {S S':St} {T:Nat→Prop} {w w':World} (h:Stp ρ S T w ρ' S' w') {m:Nat} {o:AO} {L:Loc} (hT:T m) (ho:S'.get m=some o) (hL:ρ' m=some L) :
  w.heap.size≤L.b∨∃ m' o' L',T m'∧S.get m'=some o'∧ρ m'=some L'∧L'.b=L.b∧(m'=m∨bit S'.w m'):=by
 rcases Classical.em (S.next≤m∧m < S'.next) with ⟨h1,h2⟩ | hm
 ·rcases h.fresh m o L h1 h2 ho hL with hb | ⟨m',o',L',q1,q2,q3,q4,q5⟩
  ·exact .inl hb
  ·exact .inr ⟨m',o',L',q1,q3,q4,q5,.inr q2⟩
 ·have hm':m < S.next∨S'.next≤m:=by omega
  obtain ⟨o',ho'⟩:=h.lcl.live m o hm' ho;exact .inr ⟨m,o',L,hT,ho',by rw [← h.old m hm'];exact hL,rfl,.inl rfl⟩
theorem Stp.trans {ρ ρ₁ ρ₂:Rho} {S S₁ S₂:St} {T:Nat→Prop} {w w₁ w₂:World} (h:Stp ρ S T w ρ₁ S₁ w₁) (k:Stp ρ₁ S₁ T w₁ ρ₂ S₂ w₂):Stp ρ S T w ρ₂ S₂ w₂ where
 old m hm:=by
  have h1:=h.lcl.next;have h2:=k.lcl.next;rw [k.old m (by rcases hm with h | h;exact .inl (by omega);exact .inr h),h.old m (by rcases hm with h | h;exact .inl h;exact .inr (by omega))]
 fit:=k.fit
 fresh n o L h1 h2 ho hL:=by
  have hn1:=h.lcl.next;have hn2:=k.lcl.next
  rcases Nat.lt_or_ge n S₁.next with hlt | hge
  ·obtain ⟨o',ho'⟩:=k.lcl.live n o (.inl hlt) ho
   rcases h.fresh n o' L h1 hlt ho' (by rw [← k.old n (.inl hlt)];exact hL) with hb | ⟨m,o',L',q1,q2,q3⟩
   ·exact .inl hb
   ·exact .inr ⟨m,o',L',q1,k.lcl.w _ q2,q3⟩
  ·rcases k.fresh n o L hge h2 ho hL with hb | ⟨m,o',L',hT,hw,ho',hL',hb⟩
   ·exact .inl (Nat.le_trans h.size hb)
   ·rcases h.place hT ho' hL' with hc | ⟨m',o'',L'',q1,q2,q3,q4,q5⟩
    ·exact .inl (by omega)
    ·exact .inr ⟨m',o'',L'',q1,by rcases q5 with rfl | q5;exact hw;exact k.lcl.w _ q5,q2,q3,by omega⟩
 frame b hb hm:=by
  rw [k.frame b (Nat.lt_of_lt_of_le hb h.size) fun m o L hT hw ho hL=>?_,h.frame b hb fun m o L hT hw=>hm m o L hT (k.lcl.w _ hw)]
  rcases h.place hT ho hL with hc | ⟨m',o'',L'',q1,q2,q3,q4,q5⟩
  ·omega
  ·have:=hm m' o'' L'' q1 (by rcases q5 with rfl | q5;exact hw;exact k.lcl.w _ q5) q2 q3;omega
 size:=Nat.le_trans h.size k.size
 lcl:=h.lcl.trans k.lcl
 rest:=h.rest.trans k.rest
def zed (ρ:Rho) (n:Nat) (L:Loc):Rho:=fun m=>if m=n then some L else ρ m
theorem zac (ρ:Rho) (n:Nat) (L:Loc):zed ρ n L n=some L:=if_pos rfl
theorem zav {ρ:Rho} {n m:Nat} (L:Loc) (h:m≠n):zed ρ n L m=ρ m:=if_neg h
theorem zee {ρ:Rho} {n:Nat} (L:Loc) (h:ρ n=none):Sub ρ (zed ρ n L):=fun m L' e=>by
 by_cases hm:m=n
 ·subst hm;rw [h] at e;cases e
 ·rw [zav L hm];exact e
section
variable {ρ:Rho} {S:St} {T:Nat→Prop} {w w':World}
theorem za0 (h:Fit ρ S T w) (n:Nat):Stp ρ S T w ρ (S.touched n) w where
 old _ _:=rfl
 fit:=⟨fun m o hT ho=>h.obj m o hT (by rw [St.get_touched] at ho;exact ho),fun a b o o' L L' hA hB ho ho'=>h.inj a b o o' L L' hA hB (by rw [St.get_touched] at ho;exact ho) (by rw [St.get_touched] at ho';exact ho')⟩
 fresh n' _ _ h1 h2:=absurd h1 (by have:(S.touched n).next=S.next:=rfl;omega)
 frame _ _ _:=rfl
 size:=Nat.le_refl _
 lcl:=zaf S n
 rest:=.refl w
theorem zdx (h:Fit ρ S T w) {o:AO} {obj:Obj} {k:Nat} (hf:ρ S.next=none) (hw:w'.heap=w.heap.push obj)
  (ho:zcn (zed ρ S.next ⟨w.heap.size,0,k,fun _=>true⟩) ⟨w.heap.size,0,k,fun _=>true⟩ (some obj) o) (hk:zbg w w':=by exact ⟨rfl,rfl,rfl⟩):Stp ρ S T w (zed ρ S.next ⟨w.heap.size,0,k,fun _=>true⟩) (S.alloced o) w':=by
 have hsz:w'.heap.size=w.heap.size+1:=by rw [hw];simp
 have hnew:w'.heap[w.heap.size]? = some obj:=by rw [hw];simp
 have hold:∀ b,b < w.heap.size→w'.heap[b]? = w.heap[b]?:=fun b hb=>by rw [hw,Array.getElem?_push_lt hb,Array.getElem?_eq_getElem hb]
 have hn:(S.alloced o).next=S.next+1:=rfl;have hsub:=zee (ρ:=ρ) (n:=S.next) ⟨w.heap.size,0,k,fun _=>true⟩ hf;have place:∀ m x,T m→(S.alloced o).get m=some x→(m=S.next∧x=o)∨(m≠S.next∧S.get m=some x∧∃ L,ρ m=some L∧L.b < w.heap.size∧zcn ρ L w.heap[L.b]? x):=fun m x hTm hx=>by
  rcases St.get_alloced hx with h1 | ⟨h1,h2⟩
  ·exact .inl h1
  ·obtain ⟨L,e1,e2⟩:=h.obj m x hTm h2
   exact .inr ⟨h1,h2,L,e1,e2.some,e2⟩
 refine ⟨fun m hm=>zav _ (by omega),⟨fun m x hTm hx=>?_,fun a b x y L L' hTa hTb hx hy hL hL' hb=>?_⟩,fun n x L h1 h2 _ hL=>?_,fun b hb _=>hold b hb,by omega,za8 S o,hk⟩
 ·rcases place m x hTm hx with ⟨rfl,rfl⟩ | ⟨h1,_,L,e1,e2,e3⟩
  ·exact ⟨_,zac _ _ _,by show zcn _ _ w'.heap[w.heap.size]? _;rw [hnew];exact ho⟩
  ·exact ⟨L,by rw [zav _ h1];exact e1,by rw [hold _ e2];exact e3.mono hsub⟩
 ·rcases place a x hTa hx with ⟨ha,_⟩ | ⟨ha,ga,La,ea,la,_⟩<;>rcases place b y hTb hy with ⟨hb',_⟩ | ⟨hb',gb,Lb,eb,lb,_⟩
  ·rw [ha,hb']
  ·exfalso
   rw [ha,zac] at hL;rw [zav _ hb',eb] at hL';have e1:=Option.some.inj hL;have e2:=Option.some.inj hL';rw [← e1,← e2] at hb;have:w.heap.size=Lb.b:=hb;omega
  ·exfalso
   rw [hb',zac] at hL';rw [zav _ ha,ea] at hL;have e1:=Option.some.inj hL;have e2:=Option.some.inj hL';rw [← e1,← e2] at hb;have:La.b=w.heap.size:=hb;omega
  ·rw [zav _ ha] at hL
   rw [zav _ hb'] at hL';exact h.inj a b x y L L' hTa hTb ga gb hL hL' hb
 ·have e:n=S.next:=by omega
  rw [e,zac] at hL;have:=Option.some.inj hL;exact .inl (by rw [← this];exact Nat.le_refl _)
theorem zlt (h:Fit ρ S T w) {n:Nat} {o o':AO} {L:Loc} (hT:T n) (ho:S.get n=some o) (hL:ρ n=some L) (hs:w'.heap.size=w.heap.size) (hw:∀ b,b≠L.b→w'.heap[b]? = w.heap[b]?)
  (hx:zcn ρ L w'.heap[L.b]? o') (hk:zbg w w':=by exact ⟨rfl,rfl,rfl⟩):Stp ρ S T w ρ (S.setted n (some o')) w':=by
 have place:∀ m x,T m→(S.setted n (some o')).get m=some x→(m=n∧x=o')∨(m≠n∧S.get m=some x):=fun m x _ hm=>by
  rcases St.get_setted hm with ⟨h1,h2⟩ | h1
  ·exact .inl ⟨h1,(Option.some.inj h2).symm⟩
  ·exact .inr h1
 have was:∀ m x,T m→(S.setted n (some o')).get m=some x→∃ y,S.get m=some y:=fun m x hm hg=>by
  rcases place m x hm hg with ⟨rfl,_⟩ | ⟨_,h1⟩
  ·exact ⟨o,ho⟩
  ·exact ⟨x,h1⟩
 refine ⟨fun _ _=>rfl,⟨fun m x hTm hm=>?_,fun a b x y La Lb hTa hTb ha hb hLa hLb hbb=>?_⟩,fun m x _ h1 h2=>absurd h1 (by have:(S.setted n (some o')).next=S.next:=rfl;omega),fun b hb hm=>?_,by omega,zab S n _ ⟨o,ho⟩,hk⟩
 ·rcases place m x hTm hm with ⟨rfl,rfl⟩ | ⟨h1,h2⟩
  ·exact ⟨L,hL,hx⟩
  ·obtain ⟨L',e1,e2⟩:=h.obj m x hTm h2
   refine ⟨L',e1,?_⟩;rw [hw _ fun e=>h1 (h.inj m n x o L' L hTm hT h2 ho e1 hL e)];exact e2
 ·obtain ⟨x',hx'⟩:=was a x hTa ha
  obtain ⟨y',hy'⟩:=was b y hTb hb;exact h.inj a b x' y' La Lb hTa hTb hx' hy' hLa hLb hbb
 ·exact hw b fun e=>hm n o L hT (zg.2 (.inr (zl.2 rfl))) ho hL e.symm
theorem z96 (h:Fit ρ S T w) {n:Nat} {o:AO} (ho:S.get n=some o):Stp ρ S T w ρ (S.setted n none) w:=by
 have place:∀ m x,(S.setted n none).get m=some x→m≠n∧S.get m=some x:=fun m x hm=>by
  rcases St.get_setted hm with ⟨_,h2⟩ | h1
  ·cases h2
  ·exact h1
 exact ⟨fun _ _=>rfl,⟨fun m x hTm hm=>h.obj m x hTm (place m x hm).2,fun a b x y La Lb hTa hTb ha hb=>h.inj a b x y La Lb hTa hTb (place a x ha).2 (place b y hb).2⟩,
  fun m x _ h1 h2=>absurd h1 (by have:(S.setted n none).next=S.next:=rfl;omega),fun _ _ _=>rfl,Nat.le_refl _,zab S n _ ⟨o,ho⟩,.refl w⟩
theorem z97 (h:Fit ρ S T w) {n:Nat} {o o':AO} {L L':Loc} (hTn:T n) (ho:S.get n=some o) (hL:ρ n=some L) (hf:ρ S.next=none) (hb:L'.b=L.b) (hs:w'.heap.size=w.heap.size)
  (hw:∀ b,b≠L.b→w'.heap[b]? = w.heap[b]?) (hx:zcn (zed ρ S.next L') L' w'.heap[L.b]? o') (hk:zbg w w':=by exact ⟨rfl,rfl,rfl⟩):Stp ρ S T w (zed ρ S.next L') ((S.setted n none).alloced o') w':=by
 have en:(S.setted n none).next=S.next:=rfl;have hsub:=zee (ρ:=ρ) (n:=S.next) L' hf;have place:∀ m x,((S.setted n none).alloced o').get m=some x→(m=S.next∧x=o')∨(m≠S.next∧m≠n∧S.get m=some x):=fun m x hm=>by
  rcases St.get_alloced hm with h1 | ⟨h1,h2⟩
  ·exact .inl h1
  ·rcases St.get_setted h2 with ⟨_,h3⟩ | ⟨h3,h4⟩
   ·cases h3
   ·exact .inr ⟨h1,h3,h4⟩
 refine ⟨fun m hm=>zav _ (by have:((S.setted n none).alloced o').next=S.next+1:=rfl;omega),⟨fun m x hTm hm=>?_,fun a b x y La Lb hTa hTb ha hb' hLa hLb hbb=>?_⟩,fun m x Lm h1 h2 hm hLm=>?_,fun b hb' hm=>hw b fun e=>hm n o L hTn (zg.2 (.inl (zg.2 (.inr (zl.2 rfl))))) ho hL e.symm,by omega,
  (zab S n none ⟨o,ho⟩).trans (za8 _ o'),hk⟩
 ·rcases place m x hm with ⟨rfl,rfl⟩ | ⟨h1,h2,h3⟩
  ·exact ⟨L',zac _ _ _,by rw [hb];exact hx⟩
  ·obtain ⟨Lm,e1,e2⟩:=h.obj m x hTm h3
   refine ⟨Lm,by rw [zav _ h1];exact e1,?_⟩;rw [hw _ fun e=>h2 (h.inj m n x o Lm L hTm hTn h3 ho e1 hL e)];exact e2.mono hsub
 ·rcases place a x ha with ⟨h1,_⟩ | ⟨h1,h2,h3⟩<;>rcases place b y hb' with ⟨k1,_⟩ | ⟨k1,k2,k3⟩
  ·rw [h1,k1]
  ·exfalso
   rw [h1,zac] at hLa;rw [zav _ k1] at hLb;have e1:=Option.some.inj hLa;rw [← e1] at hbb;exact k2 (h.inj b n y o Lb L hTb hTn k3 ho hLb hL (by omega))
  ·exfalso
   rw [k1,zac] at hLb;rw [zav _ h1] at hLa;have e1:=Option.some.inj hLb;rw [← e1] at hbb;exact h2 (h.inj a n x o La L hTa hTn h3 ho hLa hL (by omega))
  ·rw [zav _ h1] at hLa
   rw [zav _ k1] at hLb;exact h.inj a b x y La Lb hTa hTb h3 k3 hLa hLb hbb
 ·have e:m=S.next:=by have:((S.setted n none).alloced o').next=S.next+1:=rfl;omega
  rw [e,zac] at hLm;have:=Option.some.inj hLm;exact .inr ⟨n,o,L,hTn,zg.2 (.inl (zg.2 (.inr (zl.2 rfl)))),ho,hL,by rw [← this];omega⟩
end
theorem zb1 {α:Type}:∀ (l:List α) (n:Nat),nth l n=l[n]?
 | [],_=>rfl
 | _ :: _,0=>rfl
 | _ :: l,n+1=>by rw [show nth (_ :: l) (n+1)=nth l n from rfl,zb1 l n];simp
theorem zxn {α:Type}:∀ {l:List α} {n:Nat} {v:α} {r:List α},z9z l n v=some r→n < l.length∧r=l.set n v
 | [],_,_,_,h=>by cases h
 | x :: l,0,v,r,h=>by cases h;exact ⟨by simp,rfl⟩
 | x :: l,n+1,v,r,h=>by
  have h':bnd (z9z l n v) (fun t'=>some (x :: t'))=some r:=h;obtain ⟨t',h1,h2⟩:=zd h';obtain ⟨h3,h4⟩:=zxn h1;cases h2;exact ⟨by simp;exact h3,by rw [h4];rfl⟩
theorem zgd {α:Type} {l:List α} {off len:Nat} {x:List α} (h:seg l off len=some x):x=(l.drop off).take len∧x.length=len∧(len=0∨off+len≤l.length):=by
 unfold seg at h;obtain ⟨h1,h2⟩:=zf h;have h1:=Nat.eq_of_beq_eq_true h1;cases h2;refine ⟨rfl,h1,?_⟩;simp only [List.length_take,List.length_drop] at h1;omega
theorem zr7 {α:Type} {l:List α} {off:Nat} {vs r:List α} (h:zt4 l off vs=some r):off+vs.length≤l.length∧r=l.take off ++ (vs ++ l.drop (off+vs.length)):=by
 unfold zt4 at h;obtain ⟨h1,h2⟩:=zf h;cases h2;exact ⟨Nat.le_of_ble_eq_true h1,rfl⟩
theorem zp7 {v:AV} {p:IntKind × Int} (h:zvy v=some p):v = .int p.1 p.2:=by
 cases v<;>cases h;rfl
theorem zdc {v:AV} {p:Nat × Nat} (h:zkq v=some p):v = .ptr p.1 p.2:=by
 cases v<;>cases h;rfl
theorem z1b {v:AV} {b:Bool} (h:zvz v=some b):v = .bool b:=by
 cases v<;>cases h;rfl
theorem zp8 {v:AV} {l:List AV} (h:zv2 v=some l):v = .agg l:=by
 cases v<;>cases h;rfl
theorem z7r {v:AV} {l:List AV} (h:tupA v=some l):v = .tup l:=by
 cases v<;>cases h;rfl
theorem zbn {o:AO} {l:List AV} (h:zda o=some l):o = .cells l:=by
 cases o<;>cases h;rfl
theorem zci {o:AO} {p:List Ent × Nat} (h:zid o=some p):o = .map p.1 p.2:=by
 cases o<;>cases h;rfl
theorem zdd {v:AV} {n:Nat} (h:zgv v=some n):∃ k,v = .int k n:=by
 unfold zgv at h;obtain ⟨p,h1,h2⟩:=zd h;obtain ⟨k,x⟩:=p;cases x with
 | ofNat a=>cases h2;exact ⟨k,zp7 h1⟩
 | negSucc a=>cases h2
theorem zbo {α:Type} {x y:Option α} {r:α} (h:zi4 x y=some r):x=some r∨y=some r:=by
 cases x with
 | none=>exact .inr h
 | some a=>exact .inl h
theorem z7s {α:Type} {x:Option α} (h:isNone x=true):x=none:=by
 cases x with
 | none=>rfl
 | some a=>cases h
theorem AV.cells_rv {ρ:Rho} {v:AV} {V:Value} (h:RV ρ v V):RVs ρ v.cells V.cells.toList:=by
 have one:∀ {v:AV} {V:Value},v.cells=[v]→V.cells = #[V]→RV ρ v V→RVs ρ v.cells V.cells.toList:=fun {v V} e e' k=>by
  rw [e,e'];exact ⟨V,[],rfl,k,rfl⟩
 cases v with
 | bool b=>have e:V=_:=h;subst e;exact one rfl rfl h
 | int k n=>have e:V=_:=h;subst e;exact one rfl rfl h
 | str s=>have e:V=_:=h;subst e;exact one rfl rfl h
 | nilp=>have e:V=_:=h;subst e;exact one rfl rfl h
 | ptr n o=>obtain ⟨L,h1,e⟩:=h;subst e;exact one rfl rfl ⟨L,h1,rfl⟩
 | nils=>have e:V=_:=h;subst e;exact one rfl rfl h
 | sl n o l c=>obtain ⟨L,o',h1,e,h2⟩:=h;subst e;exact one rfl rfl ⟨L,o',h1,rfl,h2⟩
 | slo n o l c=>obtain ⟨L,o',cap,h1,e,h2⟩:=h;subst e;exact one rfl rfl ⟨L,o',cap,h1,rfl,h2⟩
 | nilm=>have e:V=_:=h;subst e;exact one rfl rfl h
 | map n=>obtain ⟨L,h1,e⟩:=h;subst e;exact one rfl rfl ⟨L,h1,rfl⟩
 | fn f a b=>obtain ⟨as,bs,e,h1,h2⟩:=h;subst e;exact one rfl rfl ⟨as,bs,rfl,h1,h2⟩
 | yield l=>obtain ⟨L,h1,e⟩:=h;subst e;exact one rfl rfl ⟨L,h1,rfl⟩
 | nilf=>have e:V=_:=h;subst e;exact one rfl rfl h
 | agg l=>obtain ⟨vs,e,h1⟩:=h;subst e;exact h1
 | tup l=>obtain ⟨vs,e,h1⟩:=h;subst e;exact one rfl rfl ⟨vs,rfl,h1⟩
theorem zr8 {ρ:Rho} {V:Value} {v:AV} (h:zog V=some v):RV ρ v V:=by
 unfold zog at h
 split at h<;>first | (cases h;rfl) | cases h
theorem zjw {ρ:Rho}:∀ {vs:List Value} {l:List AV},zh2 vs=some l→RVs ρ l vs
 | [],l,h=>by cases h;rfl
 | V :: vs,l,h=>by
  unfold zh2 at h;obtain ⟨a,h1,h⟩:=zd h;obtain ⟨r,h2,h⟩:=zd h;cases h;exact ⟨V,vs,rfl,zr8 h1,zjw h2⟩
theorem ze6 {ρ:Rho} {V:Value} {v:AV} (h:zoh V=some v):RV ρ v V:=by
 unfold zoh at h
 split at h
 ·obtain ⟨l,h1,h⟩:=zd h;cases h;exact ⟨_,rfl,zjw h1⟩
 ·obtain ⟨l,h1,h⟩:=zd h;cases h;exact ⟨_,rfl,zjw h1⟩
 ·exact zr8 h
theorem z1c {ρ:Rho} {a:AV} {X V:Value} (h:zq1 a=some X) (r:RV ρ a V):V=X:=by
 unfold zq1 at h
 split at h<;>first | (cases h;exact r) | cases h
theorem zs2 {ρ:Rho}:∀ {l:List AV} {xs vs:List Value},zoj l=some xs→RVs ρ l vs→vs=xs
 | [],xs,vs,h,r=>by cases h;exact r
 | a :: l,xs,vs,h,⟨V,t,e,r1,r2⟩=>by
  unfold zoj at h;obtain ⟨x,h1,h⟩:=zd h;obtain ⟨y,h2,h⟩:=zd h;cases h;rw [e,z1c h1 r1,zs2 h2 r2]
theorem zfr {ρ:Rho} {a:AV} {X V:Value} (h:zf9 a=some X) (r:RV ρ a V):V=X:=by
 unfold zf9 at h
 split at h
 ·obtain ⟨l,h1,h⟩:=zd h
  obtain ⟨vs,e,h2⟩:=r;cases h;rw [e,← zs2 h1 h2]
 ·obtain ⟨l,h1,h⟩:=zd h
  obtain ⟨vs,e,h2⟩:=r;cases h;rw [e,← zs2 h1 h2]
 ·exact z1c h r
theorem zhe {α:Type} {P:Program}:∀ {s:Sem α} {a:α},prun P s=some a→∀ w,s.run P w = .ok a w
 | .pure _,_,h,_=>by cases h;rfl
 | .program k,a,h,w=>by
  have h':prun P (k P)=some a:=h;show (k P).run P w=_;exact zhe h' w
 | .mark _ k,a,h,w=>by
  have h':prun P k=some a:=h;show k.run P w=_;exact zhe h' w
 | .load _ _ _,_,h,_=>by cases h
 | .store _ _ _ _,_,h,_=>by cases h
 | .new _ _,_,h,_=>by cases h
 | .shape _ _,_,h,_=>by cases h
 | .freeze _ _ _,_,h,_=>by cases h
 | .frozen _ _,_,h,_=>by cases h
 | .getObj _ _,_,h,_=>by cases h
 | .setObj _ _ _,_,h,_=>by cases h
 | .choose _ _,_,h,_=>by cases h
 | .sys _ _,_,h,_=>by cases h
 | .halt _,_,h,_=>by cases h
structure zku (P:Program) (t:Nat) (ti:TI):Prop where
 und:P.underlying t=some ti.und
 info:∃ i,P.info? t=some i∧i.size=ti.size∧(∀ zv,ti.zv=some zv→∃ Z,i.zero=some Z∧zoh Z=some zv)
 agg:ti.agg=zh3 ti.und
 zero:∀ z,ti.zero=some z→∃ zv,ti.zv=some zv∧z=zv.cells
 bytes:∀ i,P.info? t=some i→i.bytes=ti.bytes
theorem zacl {P:Program} {t:Nat} {ti:TI} (h:z9y P t=some ti):zku P t ti:=by
 unfold z9y at h
 split at h
 ·rename_i d i hd hi
  simp only [Option.some.injEq] at h;subst h;refine ⟨hd,⟨i,hi,rfl,fun zv hz=>?_⟩,rfl,fun z hz=>?_,fun j hj=>?_⟩
  ·simp only at hz
   split at hz
   ·exact ⟨_,by assumption,hz⟩
   ·cases hz
  ·simp only at hz ⊢
   split at hz
   ·rename_i zv hzv
    cases hz;exact ⟨zv,hzv,rfl⟩
   ·cases hz
  ·rw [hi] at hj;cases hj;rfl
 ·cases h
structure zaq (E:Env) (P:Program):Prop where
 ty:∀ t ti,E.tyOf t=some ti→zku P t ti
 fn:∀ f fn,Tr.get E.fn f=some fn→P.funcs[f]? = some fn
theorem zre (P:Program):zaq (zze P) P where
 ty t ti h:=by
  unfold Env.tyOf at h;obtain ⟨o,h1,h2⟩:=zd h;subst h2
  rcases Tr.get_ofList _ _ _ _ _ h1 with ⟨_,h3⟩ | h3
  ·simp only [Nat.sub_zero,List.getElem?_map,Option.map_eq_some_iff] at h3
   obtain ⟨x,h4,h5⟩:=h3;rw [List.getElem?_range] at h4
   ·cases h4;exact zacl h5
   ·rcases Nat.lt_or_ge t P.types.size with hl | hl
    ·exact hl
    ·rw [List.getElem?_eq_none (by simpa using hl)] at h4;cases h4
  ·cases h3
 fn f fn h:=by
  rcases Tr.get_ofList _ _ _ _ _ h with ⟨_,h3⟩ | h3
  ·simpa using h3
  ·cases h3
section
variable {P:Program} {w:World} {t:Nat} {ti:TI}
theorem zbh (h:zku P t ti):(underlying t).run P w = .ok ti.und w:=by simp [underlying,program,Sem.run,h.und]
theorem zb5 (h:zku P t ti):(sizeOf t).run P w = .ok ti.size w:=by
 obtain ⟨i,h1,h2,_⟩:=h.info;simp [sizeOf,typeInfo,program,Sem.run,h1,h2]
theorem z1d (h:zku P t ti) {zv:AV} (hz:ti.zv=some zv):∃ Z,(zeroValue t).run P w = .ok Z w∧zoh Z=some zv:=by
 obtain ⟨i,h1,_,h3⟩:=h.info;obtain ⟨Z,h4,h5⟩:=h3 zv hz;exact ⟨Z,by simp [zeroValue,typeInfo,program,Sem.run,h1,h4],h5⟩
theorem zi7 (h:zku P t ti):(isAgg t).run P w = .ok ti.agg w:=by
 simp only [isAgg,Sem.run_bind,zbh h,Result.andThen_ok];rw [h.agg];unfold zh3;cases ti.und<;>rfl
end
def zzj (P:Program) (T:Nat→Prop) (ρ:Rho) (S:St) (w:World) (a:Act) (o:Oper) (v:AV) (S':St):Prop :=
 ∃ V w' ρ',((execOp a.eval o).run P w = .ok (.value V) w'∨((execOp a.eval o).run P w = .ok .skip w'∧V=undef))∧Stp ρ S T w ρ' S' w'∧RV ρ' v V
def zb2 (P:Program) (T:Nat→Prop) (ρ:Rho) (S:St) (w:World) (a:Act) (o:Oper):OpR→Prop
 | .val v S'=>(∀ n,bit S'.t n→T n)→zbl ρ S.next S'.next→zzj P T ρ S w a o v S'
 | .call f args S'=>S'=S∧((∃ fn c,P.funcs[f]? = some fn∧fn.body=some c)→∃ vs:Array Value,(execOp a.eval o).run P w = .ok (.enter f vs) w∧RVs ρ args vs.toList)
 | .yield l args S'=>S'=S∧∃ (L:Loc) (vs:Array Value),ρ l=some L∧(execOp a.eval o).run P w=(Instr.yield L.b vs).run P w∧RVs ρ args vs.toList
structure Pre (E:Env) (P:Program) (T:Nat→Prop) (ρ:Rho) (S:St) (w:World) (tm:Tm) (a:Act):Prop where
 env:zaq E P
 fit:Fit ρ S T w
 tmp:RT ρ tm.m a.tmps
 size:a.tmps.size=tm.sz
theorem zr9 {ρ:Rho} {L:Loc} {x:Option Obj} {o:AO} {l:List AV} (h:z0q o=some l) (k:zcn ρ L x o):∃ c e z,x=some (.cells c e z)∧c.size=L.s+L.k∧l.length≤L.k∧RC ρ l c L.s:=by
 cases o with
 | cells l'=>cases h;obtain ⟨c,e,h1,h2⟩:=k;exact ⟨c,e,(0,0),h1,h2⟩
 | row l'=>cases h;exact k
 | _=>cases h
theorem RC.cell {ρ:Rho} {w:World} {L:Loc} {l:List AV} {c:Array Value} {e:Nat} {z:Nat × Nat} (hh:w.heap[L.b]? = some (.cells c e z)) (hc:RC ρ l c L.s) {i:Nat} {a:AV} (hi:l[i]? = some a) :
  ∃ V,w.cell? ⟨L.b,L.s+i,none⟩=some V∧RV ρ a V:=by
 obtain ⟨V,h1,h2⟩:=hc i a hi;exact ⟨V,by simp [World.cell?,hh,h1],h2⟩
theorem RC.seg {ρ:Rho} {w:World} {L:Loc} {l:List AV} {c:Array Value} {e:Nat} {z:Nat × Nat} (hh:w.heap[L.b]? = some (.cells c e z)) (hc:RC ρ l c L.s) {off len:Nat} (hl:off+len≤l.length) :
  ∃ vs:List Value,vs.length=len∧RVs ρ ((l.drop off).take len) vs∧∀ j v,vs[j]? = some v→w.cell? ⟨L.b,L.s+off+j,none⟩=some v:=by
 have key:∀ i,i < len→∃ V,c[L.s+(off+i)]? = some V∧RV ρ (l[off+i]?.getD .nilp) V:=fun i hi=>by
  have h1:l[off+i]? = some (l[off+i]'(by omega)):=List.getElem?_eq_getElem (by omega);obtain ⟨V,h2,h3⟩:=hc (off+i) _ h1;exact ⟨V,h2,by rw [h1];exact h3⟩
 refine ⟨(List.range len).map fun i=>(c[L.s+(off+i)]?).getD undef,by simp,RVs.of (by simp;omega) fun i a hi=>?_,fun j v hj=>?_⟩
 ·rw [List.getElem?_take,List.getElem?_drop] at hi
  split at hi
  ·rename_i hlt
   obtain ⟨V,h1,h2⟩:=key i hlt;rw [hi] at h2;refine ⟨V,?_,h2⟩;rw [List.getElem?_map,List.getElem?_range hlt];simp [h1]
  ·cases hi
 ·rw [List.getElem?_map] at hj
  rcases Nat.lt_or_ge j len with hlt | hge
  ·rw [List.getElem?_range hlt] at hj
   obtain ⟨V,h1,_⟩:=key j hlt;simp [h1] at hj;subst hj;simp [World.cell?,hh,Nat.add_assoc,h1]
  ·rw [List.getElem?_eq_none (by simpa using hge)] at hj;cases hj
section
variable {E:Env} {P:Program} {T:Nat→Prop} {ρ:Rho} {S:St} {w:World} {tm:Tm} {a:Act}
theorem zr (h:Pre E P T ρ S w tm a) {x:Operand} {v:AV} (hx:opd tm x=some v):RV ρ v (a.eval x):=by
 cases x with
 | tmp t =>
  have hx':Tr.get tm.m t=some v:=by cases tm;exact hx
  obtain ⟨V,h1,h2⟩:=h.tmp t v hx';have:a.eval (.tmp t)=V:=by simp [Act.eval,Array.getD_eq_getD_getElem?,h1]
  rw [this];exact h2
 | const V=>exact ze6 hx
 | global g=>cases hx
 | func f=>cases hx;exact ⟨#[],#[],rfl,rfl,rfl⟩
theorem zrf (h:Pre E P T ρ S w tm a):∀ {xs:List Operand} {l:List AV},zoi tm xs=some l→RVs ρ l (xs.map a.eval)
 | [],l,hx=>by cases hx;rfl
 | x :: xs,l,hx=>by
  have hx':bnd (opd tm x) (fun a=>bnd (zoi tm xs) fun l=>some (a :: l))=some l:=hx;obtain ⟨v,h1,hx⟩:=zd hx';obtain ⟨r,h2,hx⟩:=zd hx;cases hx;exact ⟨a.eval x,_,rfl,zr h h1,zrf h h2⟩
theorem zao (h:Pre E P T ρ S w tm a) {o:Oper} {v:AV} {V:Value} (hr:(execOp a.eval o).run P w = .ok (.value V) w) (hv:RV ρ v V):zzj P T ρ S w a o v S :=
 ⟨V,w,ρ,.inl hr,.refl h.fit,hv⟩
theorem pure_ok (h:Pre E P T ρ S w tm a) {o:Oper} {r:OpR} (hr:zew P tm o S=some r):zb2 P T ρ S w a o r:=by
 unfold zew at hr;obtain ⟨v,h1,h2⟩:=zd hr;cases h2;unfold zp0 at h1;obtain ⟨hs,h1⟩:=zf h1;obtain ⟨hc,h1⟩:=zf h1;obtain ⟨x,h2,h3⟩:=zd h1;intro _ _;have hall:∀ (l:List Operand),zgi tm l=true→∀ x∈l,a.eval x=rho tm x:=by
  intro l
  induction l with
  | nil=>intro _ x hx;cases hx
  | cons y l ih =>
   intro hl x hx;unfold zgi at hl
   split at hl
   ·rename_i V hV
    rcases List.mem_cons.1 hx with rfl | hx
    ·unfold rho
     rw [hV];unfold zpz at hV;obtain ⟨v,e1,e2⟩:=zd hV;exact zfr e2 (zr h e1)
    ·exact ih hl x hx
   ·cases hl
 have hev:=hall _ hc;have e:execOp a.eval o=execOp (rho tm) o:=by
  refine execOp_congr o (fun cs b he=>?_) fun x hx=>hev x (by simpa using hx)
  rw [he] at hs;cases hs
 have hrun:=zhe h2 w;rw [← e] at hrun;unfold valueOf at h3
 split at h3
 ·exact zao h hrun (ze6 h3)
 ·cases h3
theorem zad5 (k:IntKind) (n:Int):wrI k n=k.wrap n:=by
 unfold wrI;rw [zx]
 split
 ·rename_i h
  cases k with
  | i64 =>
   refine (IntWalk.i64_in n ?_).symm;cases n with
   | ofNat a=>have:=Nat.le_of_ble_eq_true h;simp only [Int.ofNat_eq_natCast];omega
   | negSucc a=>have:=Nat.le_of_ble_eq_true h;omega
  | u8 =>
   refine (IntWalk.u8_in n ?_).symm;cases n with
   | ofNat a=>have:=Nat.le_of_ble_eq_true h;simp only [Int.ofNat_eq_natCast];omega
   | negSucc a=>cases h
  | u64 =>
   cases n with
   | ofNat a =>
    have:=Nat.le_of_ble_eq_true h;simp only [IntKind.wrap,IntKind.bits,IntKind.signed,Int.ofNat_eq_natCast];simp;omega
   | negSucc a=>cases h
  | _=>cases h
 ·rfl
theorem zkh {k:IntKind} {n:Int} {v:AV} (h:zsy k n=some v):v = .int k (k.wrap n):=by
 unfold zsy at h;rw [z7q,zad5] at h;cases h;rfl
theorem zuf (x y:Int):ltI x y=decide (x < y):=by
 have hb:∀ a b:Nat,Nat.ble (Nat.succ a) b=decide (a < b):=fun a b=>by
  rw [Bool.eq_iff_iff,Nat.ble_eq,decide_eq_true_eq];exact Iff.rfl
 cases x with
 | ofNat a=>cases y with
  | ofNat b=>rw [show ltI (.ofNat a) (.ofNat b)=Nat.ble (Nat.succ a) b from rfl,hb,Bool.eq_iff_iff];simp
  | negSucc b=>rw [show ltI (.ofNat a) (.negSucc b)=false from rfl,Bool.eq_iff_iff];simp;omega
 | negSucc a=>cases y with
  | ofNat b=>rw [show ltI (.negSucc a) (.ofNat b)=true from rfl,Bool.eq_iff_iff];simp;omega
  | negSucc b=>rw [show ltI (.negSucc a) (.negSucc b)=Nat.ble (Nat.succ b) a from rfl,hb,Bool.eq_iff_iff];simp;omega
theorem zp9 (x y:Int):eqI x y=(x == y):=by
 have hb:∀ a b:Nat,Nat.beq a b=decide (a=b):=fun a b=>by
  rw [Bool.eq_iff_iff,Nat.beq_eq,decide_eq_true_eq]
 cases x with
 | ofNat a=>cases y with
  | ofNat b=>rw [show eqI (.ofNat a) (.ofNat b)=Nat.beq a b from rfl,hb,Bool.eq_iff_iff];simp;omega
  | negSucc b=>rw [show eqI (.ofNat a) (.negSucc b)=false from rfl,Bool.eq_iff_iff];simp
 | negSucc a=>cases y with
  | ofNat b=>rw [show eqI (.negSucc a) (.ofNat b)=false from rfl,Bool.eq_iff_iff];simp
  | negSucc b=>rw [show eqI (.negSucc a) (.negSucc b)=Nat.beq a b from rfl,hb,Bool.eq_iff_iff];simp
theorem zqa {k k':IntKind} (h:kEq k k'=true):k=k':=by
 cases k<;>cases k'<;>first | rfl | cases h
theorem zqb {b:Bool} {v:AV} (h:zks b=some v):v = .bool b:=by
 cases b<;>cases h<;>rfl
theorem z7t (op:BinOp) (t:Nat) (x y:Operand) (k k':IntKind) (m n:Int):(eqGuard op t x y (.int k m) (.int k' n)).run P w = .ok () w:=by
 unfold eqGuard;cases op<;>simp
theorem zad6 {op:BinOp} {t:Nat} {k:IntKind} {m n:Int} {v:AV} (h:binI op k m n=some v):∃ V,(binOp op t (.int k m) (.int k n)).run P w = .ok V w∧RV ρ v V:=by
 have nz:isZ n=false→n≠0:=fun h0 e=>by subst e;cases h0
 have cmp:∀ (b b':Bool) (v:AV),b=b'→zks b=some v→RV ρ v (.bool b'):=fun b b' v e hb=>by rw [zqb hb,← e];rfl
 cases op with
 | add=>exact ⟨.int k (k.wrap (m+n)),by simp [binOp,Op.intArith],by rw [zkh h];rfl⟩
 | sub=>exact ⟨.int k (k.wrap (m - n)),by simp [binOp,Op.intArith],by rw [zkh h];rfl⟩
 | mul=>exact ⟨.int k (k.wrap (m * n)),by simp [binOp,Op.intArith],by rw [zkh h];rfl⟩
 | quo =>
  have h':zk (isZ n) none (zsy k (Int.tdiv m n))=some v:=h;rw [zx] at h'
  split at h'
  ·cases h'
  ·rename_i hz
   have:=nz (by simpa using hz);exact ⟨.int k (k.wrap (m.tdiv n)),by simp [binOp,Op.intDiv,this],by rw [zkh h'];rfl⟩
 | rem =>
  have h':zk (isZ n) none (fcI (Int.tmod m n) fun z=>some (.int k z))=some v:=h;rw [zx,z7q] at h'
  split at h'
  ·cases h'
  ·rename_i hz
   have:=nz (by simpa using hz);cases h';exact ⟨.int k (m.tmod n),by simp [binOp,Op.intDiv,this],rfl⟩
 | and=>cases h
 | or=>cases h
 | xor=>cases h
 | shl=>cases h
 | shr=>cases h
 | andNot=>cases h
 | eql=>exact ⟨.bool (m == n),by simp [binOp,Op.intCmp],cmp _ _ _ (zp9 m n) h⟩
 | neq=>exact ⟨.bool (m != n),by simp [binOp,Op.intCmp],cmp _ _ _ (by rw [zp9];rfl) h⟩
 | lss=>exact ⟨.bool (decide (m < n)),by simp [binOp,Op.intCmp],cmp _ _ _ (zuf m n) h⟩
 | leq=>exact ⟨.bool (decide (m≤n)),by simp [binOp,Op.intCmp],cmp _ _ _ (by rw [zuf,Bool.eq_iff_iff];simp) h⟩
 | gtr=>exact ⟨.bool (decide (m > n)),by simp [binOp,Op.intCmp],cmp _ _ _ (zuf n m) h⟩
 | geq=>exact ⟨.bool (decide (m ≥ n)),by simp [binOp,Op.intCmp],cmp _ _ _ (by rw [zuf,Bool.eq_iff_iff];simp) h⟩
end
end Go.Proofs.YtnfdiohfojjnlaaGreat
