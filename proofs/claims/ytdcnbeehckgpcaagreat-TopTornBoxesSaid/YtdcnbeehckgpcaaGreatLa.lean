/-
  An evaluator of closed calls: abstract values and an abstract memory of named blocks; what it reckons holds of the machine, whatever the order of drawn regions, the capacities that append draws and the blocks that lie there. This text: the definitions. (Recursors stand bare, their cases closed: so the kernel reckons fast.)
-/
import Derived.Test.YtdcnbeehckgpcaaGreatZa
set_option maxRecDepth 200000
set_option maxHeartbeats 0
noncomputable section
namespace Go.Proofs.YtdcnbeehckgpcaaGreat
open Go.RowKit
def bnd{α β:Type}(x:Option α)(k:α→Option β):Option β:=@Option.rec α (fun _=>Option β) none k x
def zu{β:Type}(c:Bool)(x y:β):β:=@Bool.rec (fun _=>β) y x c
def fcN{β:Type}(n:Nat)(k:Nat→β):β:=@Nat.rec (fun _=>β) (k 0) (fun m _=>k (Nat.succ m)) n
def fcI{β:Type}(n:Int)(k:Int→β):β:=@Int.rec (fun _=>β) (fun a=>fcN a fun a=>k (.ofNat a)) (fun a=>fcN a fun a=>k (.negSucc a)) n
inductive Tr(α:Type) where
 |leaf
 |node (l:Tr α) (v:Option α) (r:Tr α)
inductive Bin where
 |z
 |o (p:Bin)
 |i (p:Bin)
def zkp(f:Nat):Nat→Bin:=@Nat.rec (fun _=>Nat→Bin) (fun _=>.z) (fun _ ih n=>@Nat.rec (fun _=>Bin) .z (fun m _=>@Nat.rec (fun _=>Bin) (.o (ih (Nat.div m 2))) (fun _ _=>.i (ih (Nat.div m 2))) (Nat.mod m 2)) n) f
def zfs(n:Nat):Bin:=zkp n n
def Tr.getB{α:Type}:Tr α→Bin→Option α :=
 @Tr.rec α (fun _=>Bin→Option α) (fun _=>none) (fun _ v _ gl gr b=>@Bin.rec (fun _=>Option α) v (fun p _=>gl p) (fun p _=>gr p) b)
def Tr.get{α:Type}(t:Tr α)(n:Nat):Option α:=Tr.getB t (zfs n)
def Tr.lf{α:Type}(t:Tr α):Tr α:=@Tr.casesOn α (fun _=>Tr α) t .leaf (fun l _ _=>l)
def Tr.rt{α:Type}(t:Tr α):Tr α:=@Tr.casesOn α (fun _=>Tr α) t .leaf (fun _ _ r=>r)
def Tr.vl{α:Type}(t:Tr α):Option α:=@Tr.casesOn α (fun _=>Option α) t none (fun _ v _=>v)
def Tr.putB{α β:Type}(x:Option α):Bin→Tr α→(Tr α→β)→β :=
 @Bin.rec (fun _=>Tr α→(Tr α→β)→β)
  (fun t k=>@Tr.rec α (fun _=>β) (k (.node .leaf x .leaf)) (fun l _ r _ _=>k (.node l x r)) t)
  (fun _ ih t k=>@Tr.rec α (fun _=>β) (ih .leaf fun l=>k (.node l none .leaf)) (fun l v r _ _=>ih l fun l=>k (.node l v r)) t)
  (fun _ ih t k=>@Tr.rec α (fun _=>β) (ih .leaf fun r=>k (.node .leaf none r)) (fun l v r _ _=>ih r fun r=>k (.node l v r)) t)
def Tr.putK{α β:Type}(_:Nat)(n:Nat)(x:Option α)(t:Tr α)(k:Tr α→β):β:=Tr.putB x (zfs n) t k
def Tr.put{α:Type}(_:Nat)(n:Nat)(x:Option α)(t:Tr α):Tr α:=Tr.putB x (zfs n) t fun t=>t
def Tr.ofList{α:Type}(l:List α):Nat→Tr α→Tr α:=@List.rec α (fun _=>Nat→Tr α→Tr α) (fun _ t=>t) (fun x _ ih i t=>ih (Nat.succ i) (Tr.put 24 i (some x) t)) l
inductive AV where
 |bool (b:Bool)|int (k:IntKind) (n:Int)|str (s:ByteArray)
 |nilp|ptr (n off:Nat)
 |nils|sl (n off len cap:Nat)|slo (n off len sz:Nat)
 |nilm|map (n:Nat)
 |fn (f:Nat) (fst cap:List AV)|yield (l:Nat)|nilf
 |agg (l:List AV)|tup (l:List AV)
inductive AO where
 |cells (l:List AV)
 |map (es:List (AV×AV×Nat)) (clock:Nat)
 |loop (st:LoopState) (pend:Option Code) (tm:Tr AV) (sz:Nat) (ps:List Nat) (assign body:Code) (dn:Nat)
 |dfr
 |striter (s:ByteArray) (pos:Nat)
 |it (m ck:Nat) (seen:List Nat)
 |itAt (m ck born:Nat)
 |mapk (es:List (AV×AV×Nat)) (ck i:Nat) (there:Bool)
 |row (l:List AV)
structure St where
 heap:Tr AO
 next:Nat
 t:Nat
 w:Nat
def AV.undef:AV:=.tup []
def AV.cells:AV→List AV:=@AV.rec (fun _=>List AV) (fun _=>PUnit) (fun b=>[.bool b]) (fun k n=>[.int k n]) (fun s=>[.str s]) [.nilp] (fun n o=>[.ptr n o]) [.nils] (fun a b c d=>[.sl a b c d]) (fun a b c d=>[.slo a b c d])
 [.nilm] (fun n=>[.map n]) (fun f a b _ _=>[.fn f a b]) (fun l=>[.yield l]) [.nilf] (fun l _=>l) (fun l _=>[.tup l]) PUnit.unit (fun _ _ _ _=>PUnit.unit)
def zzv:AV→Option (IntKind×Int):=@AV.rec (fun _=>Option (IntKind×Int)) (fun _=>PUnit) (fun _=>none) (fun k n=>some (k,n)) (fun _=>none) none (fun _ _=>none) none (fun _ _ _ _=>none) (fun _ _ _ _=>none)
 none (fun _=>none) (fun _ _ _ _ _=>none) (fun _=>none) none (fun _ _=>none) (fun _ _=>none) PUnit.unit (fun _ _ _ _=>PUnit.unit)
def zm2:AV→Option (Nat×Nat):=@AV.rec (fun _=>Option (Nat×Nat)) (fun _=>PUnit) (fun _=>none) (fun _ _=>none) (fun _=>none) none (fun n o=>some (n,o)) none (fun _ _ _ _=>none) (fun _ _ _ _=>none)
 none (fun _=>none) (fun _ _ _ _ _=>none) (fun _=>none) none (fun _ _=>none) (fun _ _=>none) PUnit.unit (fun _ _ _ _=>PUnit.unit)
def zzw:AV→Option Bool:=@AV.rec (fun _=>Option Bool) (fun _=>PUnit) (fun b=>some b) (fun _ _=>none) (fun _=>none) none (fun _ _=>none) none (fun _ _ _ _=>none) (fun _ _ _ _=>none)
 none (fun _=>none) (fun _ _ _ _ _=>none) (fun _=>none) none (fun _ _=>none) (fun _ _=>none) PUnit.unit (fun _ _ _ _=>PUnit.unit)
def zalo:AV→Bool:=@AV.rec (fun _=>Bool) (fun _=>PUnit) (fun _=>false) (fun _ _=>false) (fun _=>false) false (fun _ _=>true) false (fun _ _ _ _=>true) (fun _ _ _ _=>true)
 false (fun _=>true) (fun _ _ _ _ _=>true) (fun _=>true) false (fun _ _=>false) (fun _ _=>false) PUnit.unit (fun _ _ _ _=>PUnit.unit)
def zf0:AO→Option (List AV):=@AO.rec (fun _=>Option (List AV)) (fun l=>some l) (fun _ _=>none) (fun _ _ _ _ _ _ _ _=>none) none (fun _ _=>none) (fun _ _ _=>none) (fun _ _ _=>none) (fun _ _ _ _=>none) (fun _=>none)
def z41:AO→Option (List AV):=@AO.rec (fun _=>Option (List AV)) (fun l=>some l) (fun _ _=>none) (fun _ _ _ _ _ _ _ _=>none) none (fun _ _=>none) (fun _ _ _=>none) (fun _ _ _=>none) (fun _ _ _ _=>none) (fun l=>some l)
abbrev Ent:=AV×AV×Nat
def zkq:AO→Option (List Ent×Nat):=@AO.rec (fun _=>Option (List Ent×Nat)) (fun _=>none) (fun es c=>some (es,c)) (fun _ _ _ _ _ _ _ _=>none) none (fun _ _=>none) (fun _ _ _=>none) (fun _ _ _=>none) (fun _ _ _ _=>none) (fun _=>none)
structure Mk where
 es:List Ent
 ck:Nat
 i:Nat
 th:Bool
def z3f(o:AO):Option Mk:=match o with
 |.mapk es ck i th=>some ⟨es,ck,i,th⟩
 |_=>none
def itO(o:AO):Option (Nat×Nat×List Nat):=match o with
 |.it m ck seen=>some (m,ck,seen)
 |_=>none
def zahn(o:AO):Option (Nat×Nat×Nat):=match o with
 |.itAt m ck b=>some (m,ck,b)
 |_=>none
def zaa(n:Nat):Nat:=Nat.shiftLeft 1 n
def St.touch{β:Type}(S:St)(n:Nat)(k:St→β):β:=@St.rec (fun _=>β) (fun h x t w=>fcN (Nat.lor t (zaa n)) fun t=>k ⟨h,x,t,w⟩) S
def St.alloc{β:Type}(S:St)(o:AO)(k:Nat→St→β):β :=
 @St.rec (fun _=>β) (fun h n t w=>fcN n fun n=>fcN (Nat.lor t (zaa n)) fun t=>fcN (Nat.lor w (zaa n)) fun w=>Tr.putK 24 n (some o) h fun h=>k n ⟨h,Nat.succ n,t,w⟩) S
def St.get(S:St)(n:Nat):Option AO:=@St.rec (fun _=>Option AO) (fun h _ _ _=>Tr.get h n) S
def St.set{β:Type}(S:St)(n:Nat)(o:Option AO)(k:St→β):β :=
 @St.rec (fun _=>β) (fun h x t w=>fcN (Nat.lor t (zaa n)) fun t=>fcN (Nat.lor w (zaa n)) fun w=>Tr.putK 24 n o h fun h=>k ⟨h,x,t,w⟩) S
def zqv(v:Value):Option AV:=match v with
 |.bool b=>some (.bool b)|.int k n=>some (.int k n)|.string s=>some (.str s)|.pointer none=>some .nilp
 |.slice none 0 0=>some .nils|.map none=>some .nilm|.nilFunc=>some .nilf|_=>none
def zkc:List Value→Option (List AV)
 |[]=>some []
 |v::vs=>bnd (zqv v) fun a=>bnd (zkc vs) fun l=>some (a::l)
def zqw(v:Value):Option AV:=match v with
 |.agg cs=>bnd (zkc cs.toList) fun l=>some (.agg l)
 |.tuple cs=>bnd (zkc cs.toList) fun l=>some (.tup l)
 |v=>zqv v
structure TI where
 und:TypeDesc
 size:Nat
 agg:Bool
 zero:Option (List AV)
 zv:Option AV
 bytes:Nat
def zkd(d:TypeDesc):Bool:=match d with
 |.struct _=>true|.array _ _=>true|_=>false
def mkTI(P:Program)(t:Nat):Option TI:=match P.underlying t,P.info? t with
 |some d,some i =>
  let z:=match i.zero with|some v=>zqw v|none=>none
  some ⟨d,i.size,zkd d,match z with|some z=>some z.cells|none=>none,z,i.bytes⟩
 |_,_=>none
structure Tm where
 m:Tr AV
 sz:Nat
inductive Ex where
 |normal|ret|exit (id:Nat)|goto (l:Nat)
structure Res where
 ex:Ex
 tm:Tm
 mks:List Nat
 v:AV
 st:St
structure Env where
 ty:Tr (Option TI)
 fn:Tr Func
 tab:Tr (List AV→St→Option Res)
def zaap(P:Program):Env:=⟨Tr.ofList ((List.range P.types.size).map (mkTI P)) 0 .leaf,Tr.ofList P.funcs.toList 0 .leaf,.leaf⟩
def Env.tyOf(E:Env)(t:Nat):Option TI:=bnd (Tr.get E.ty t) fun o=>o
def Tm.putK{β:Type}(T:Tm)(d:Option Nat)(v:AV)(k:Tm→Option β):Option β :=
 @Option.rec Nat (fun _=>Option β) (k T) (fun d=>@Tm.rec (fun _=>Option β) (fun m sz=>zu (Nat.ble (Nat.succ d) sz) (Tr.putK 24 d (some v) m fun m=>k ⟨m,sz⟩) none) T) d
def Tm.get(T:Tm)(t:Nat):Option AV:=@Tm.rec (fun _=>Option AV) (fun m _=>Tr.get m t) T
def opd:Tm→Operand→Option AV:=fun T x=>@Operand.rec (fun _=>Tm→Option AV) (fun t T=>T.get t) (fun v _=>zqw v) (fun _ _=>none) (fun f _=>some (.fn f [] [])) x T
def zqx (T:Tm):List Operand→Option (List AV) :=
 @List.rec Operand (fun _=>Option (List AV)) (some []) (fun x _ ih=>bnd (opd T x) fun a=>bnd ih fun l=>some (a::l))
def zzx (T:Tm)(x:Option Operand):Option (Option AV):=match x with
 |none=>some none
 |some x=>bnd (opd T x) fun a=>some (some a)
def nth{α:Type}(l:List α):Nat→Option α:=@List.rec α (fun _=>Nat→Option α) (fun _=>none) (fun x _ ih n=>@Nat.rec (fun _=>Option α) (some x) (fun m _=>ih m) n) l
def setN{α:Type}(l:List α):Nat→α→Option (List α) :=
 @List.rec α (fun _=>Nat→α→Option (List α)) (fun _ _=>none) (fun x t ih n v=>@Nat.rec (fun _=>Option (List α)) (some (v::t)) (fun m _=>bnd (ih m v) fun t'=>some (x::t')) n) l
def seg{α:Type}(l:List α)(off len:Nat):Option (List α):=let x:=(l.drop off).take len;zu (Nat.beq x.length len) (some x) none
def zxw{α:Type}(l:List α)(off:Nat)(vs:List α):Option (List α):=zu (Nat.ble (Nat.add off vs.length) l.length) (some (l.take off++(vs++l.drop (Nat.add off vs.length)))) none
inductive OpR where
 |val (v:AV) (S:St)
 |call (f:Nat) (args:List AV) (S:St)
 |yield (l:Nat) (args:List AV) (S:St)
def rd1{β:Type}(S:St)(n off:Nat)(k:AV→St→Option β):Option β:=bnd (S.get n) fun o=>bnd (z41 o) fun l=>bnd (nth l off) fun v=>S.touch n (k v)
def rdN{β:Type}(S:St)(n off len:Nat)(k:List AV→St→Option β):Option β:=bnd (S.get n) fun o=>bnd (z41 o) fun l=>bnd (seg l off len) fun x=>S.touch n (k x)
def zm3:AV→Bool:=@AV.rec (fun _=>Bool) (fun _=>PUnit) (fun _=>true) (fun _ _=>true) (fun _=>true) true (fun _ _=>true) true (fun _ _ _ _=>true) (fun _ _ _ _=>true)
 true (fun _=>true) (fun _ _ _ _ _=>true) (fun _=>true) true (fun _ _=>false) (fun _ _=>false) PUnit.unit (fun _ _ _ _=>PUnit.unit)
def zgr(a b:Bool):Bool:=@Bool.rec (fun _=>Bool) false b a
def zd6{α:Type}(p:α→Bool)(l:List α):Bool:=@List.rec α (fun _=>Bool) true (fun x _ ih=>zgr (p x) ih) l
def wr1{β:Type}(S:St)(n off:Nat)(v:AV)(k:St→Option β):Option β:=bnd (S.get n) fun o=>bnd (zf0 o) fun l=>zu (zm3 v) (bnd (setN l off v) fun l=>S.set n (some (.cells l)) k) none
def wrN{β:Type}(S:St)(n off:Nat)(vs:List AV)(k:St→Option β):Option β:=bnd (S.get n) fun o=>bnd (zf0 o) fun l=>zu (zd6 zm3 vs) (bnd (zxw l off vs) fun l=>S.set n (some (.cells l)) k) none
def isNil{α:Type}(l:List α):Bool:=@List.rec α (fun _=>Bool) true (fun _ _ _=>false) l
def wrL{β:Type}(S:St)(n off:Nat)(vs:List AV)(k:St→Option β):Option β:=zu (isNil vs) (k S) (wrN S n off vs k)
def prun{α:Type}(P:Program):Sem α→Option α
 |.pure a=>some a
 |.program k=>prun P (k P)
 |.mark _ k=>prun P k
 |_=>none
def zua(a:AV):Option Value:=match a with
 |.bool b=>some (.bool b)|.int k n=>some (.int k n)|.str s=>some (.string s)|.nilp=>some (.pointer none)
 |.nils=>some (.slice none 0 0)|.nilm=>some (.map none)|.nilf=>some .nilFunc|_=>none
def zqy:List AV→Option (List Value)
 |[]=>some []
 |a::l=>bnd (zua a) fun v=>bnd (zqy l) fun vs=>some (v::vs)
def zia(a:AV):Option Value:=match a with
 |.agg l=>bnd (zqy l) fun vs=>some (.agg vs.toArray)
 |.tup l=>bnd (zqy l) fun vs=>some (.tuple vs.toArray)
 |a=>zua a
def zst(T:Tm)(x:Operand):Option Value:=bnd (opd T x) zia
def zij(T:Tm):List Operand→Bool
 |[]=>true
 |x::l=>match zst T x with
  |some _=>zij T l
  |none=>false
def rho(T:Tm)(x:Operand):Value:=match zst T x with
 |some v=>v
 |none=>undef
def valueOf(x:Next):Option AV:=match x with
 |.value v=>zqw v
 |_=>none
def z42(o:Op):Bool:=match o with
 |.select ..=>false
 |_=>true
def zsu(P:Program)(T:Tm)(o:Oper):Option AV:=zu (z42 o.op) (zu (zij T o.op.operands.toList) (bnd (prun P (execOp (rho T) o)) valueOf) none) none
def inRv(k:IntKind)(n:Int):Bool:=@IntKind.rec (fun _=>Int→Bool) (fun _=>false) (fun _=>false) (fun _=>false)
 (@Int.rec (fun _=>Bool) (fun a=>Nat.ble a 9223372036854775807) (fun a=>Nat.ble a 9223372036854775807)) (@Int.rec (fun _=>Bool) (fun a=>Nat.ble a 255) (fun _=>false)) (fun _=>false) (fun _=>false)
 (@Int.rec (fun _=>Bool) (fun a=>Nat.ble a 18446744073709551615) (fun _=>false)) k n
def wrI(k:IntKind)(n:Int):Int:=zu (inRv k n) n (k.wrap n)
def zwh(k:IntKind)(n:Int):Option AV:=fcI (wrI k n) fun z=>some (.int k z)
def ltI(x y:Int):Bool:=@Int.rec (fun _=>Bool) (fun a=>@Int.rec (fun _=>Bool) (fun b=>Nat.ble (Nat.succ a) b) (fun _=>false) y) (fun a=>@Int.rec (fun _=>Bool) (fun _=>true) (fun b=>Nat.ble (Nat.succ b) a) y) x
def eqI(x y:Int):Bool:=@Int.rec (fun _=>Bool) (fun a=>@Int.rec (fun _=>Bool) (fun b=>Nat.beq a b) (fun _=>false) y) (fun a=>@Int.rec (fun _=>Bool) (fun _=>false) (fun b=>Nat.beq a b) y) x
def isZ(x:Int):Bool:=eqI x 0
def kIx:IntKind→Nat:=@IntKind.rec (fun _=>Nat) 0 1 2 3 4 5 6 7
def kEq(k k':IntKind):Bool:=Nat.beq (kIx k) (kIx k')
def zm4(b:Bool):Option AV:=@Bool.rec (fun _=>Option AV) (some (.bool false)) (some (.bool true)) b
def binI:BinOp→IntKind→Int→Int→Option AV:=@BinOp.rec (fun _=>IntKind→Int→Int→Option AV)
 (fun k x y=>zwh k (Int.add x y)) (fun k x y=>zwh k (Int.sub x y)) (fun k x y=>zwh k (Int.mul x y))
 (fun k x y=>zu (isZ y) none (zwh k (Int.tdiv x y))) (fun k x y=>zu (isZ y) none (fcI (Int.tmod x y) fun z=>some (.int k z)))
 (fun _ _ _=>none) (fun _ _ _=>none) (fun _ _ _=>none) (fun _ _ _=>none) (fun _ _ _=>none) (fun _ _ _=>none)
 (fun _ x y=>zm4 (eqI x y)) (fun _ x y=>zm4 (Bool.not (eqI x y))) (fun _ x y=>zm4 (ltI x y)) (fun _ x y=>zm4 (Bool.not (ltI y x))) (fun _ x y=>zm4 (ltI y x)) (fun _ x y=>zm4 (Bool.not (ltI x y)))
def zaaq(a b:AV):Option Bool:=match a,b with
 |.nilp,.nilp=>some true|.nilp,.ptr _ _=>some false|.ptr _ _,.nilp=>some false
 |.nils,.nils=>some true|.nils,.sl _ _ _ _=>some false|.sl _ _ _ _,.nils=>some false|.nils,.slo _ _ _ _=>some false|.slo _ _ _ _,.nils=>some false
 |.nilm,.nilm=>some true|.nilm,.map _=>some false|.map _,.nilm=>some false
 |.nilf,.nilf=>some true|.nilf,.fn _ _ _=>some false|.fn _ _ _,.nilf=>some false
 |_,_=>none
def z3g(d:TypeDesc)(a:AV):Bool:=match d,a with
 |.pointer _,.nilp=>true|.pointer _,.ptr _ _=>true|.slice _,.nils=>true|.slice _,.sl _ _ _ _=>true|.slice _,.slo _ _ _ _=>true
 |.map _ _,.nilm=>true|.map _ _,.map _=>true|.func _ _ _,.nilf=>true|.func _ _ _,.fn _ _ _=>true|_,_=>false
def zake(op:BinOp):Option Bool:=match op with
 |.eql=>some true|.neq=>some false|_=>none
def zaar(E:Env)(op:BinOp)(t:Nat)(a b:AV):Option AV:=bnd (zake op) fun e=>bnd (E.tyOf t) fun ti=>zu (z3g ti.und a) (zu (z3g ti.und b) (bnd (zaaq a b) fun r=>zm4 (zu e r (Bool.not r))) none) none
def zaho(E:Env)(op:BinOp)(t:Nat)(a b:AV):Option AV:=@Option.rec (IntKind×Int) (fun _=>Option AV) (zaar E op t a b)
 (fun x=>@Option.rec (IntKind×Int) (fun _=>Option AV) none (fun y=>zu (kEq x.1 y.1) (binI op x.1 x.2 y.2) none) (zzv b)) (zzv a)
def zi6(v:AV):Option Nat:=bnd (zzv v) fun p=>@Int.rec (fun _=>Option Nat) (fun a=>some a) (fun _=>none) p.2
def zdx (x:Option AV)(d:Nat):Option Nat:=match x with
 |none=>some d
 |some v=>zi6 v
def isNone{α:Type}(x:Option α):Bool:=@Option.rec α (fun _=>Bool) true (fun _=>false) x
def zc4(d:TypeDesc):Option Nat:=match d with
 |.slice e=>some e
 |_=>none
def znm(d:TypeDesc):Option (Nat×Nat):=match d with
 |.array n e=>some (n,e)
 |_=>none
def zac9(d:TypeDesc):Option Nat:=match d with
 |.pointer e=>some e
 |_=>none
def zsv(d:TypeDesc):Option (List Field):=match d with
 |.struct fs=>some fs.toList
 |_=>none
def slAt(n off l h m sz:Nat):AV:=.sl n (zu (Nat.beq m l) off (Nat.add off (Nat.mul l sz))) (Nat.sub h l) (Nat.sub m l)
def fcSl(v:AV)(k:AV→Option OpR):Option OpR:=match v with
 |.sl n off len cap=>fcN off fun off=>fcN len fun len=>fcN cap fun cap=>k (.sl n off len cap)
 |.slo n off len sz=>fcN off fun off=>fcN len fun len=>k (.slo n off len sz)
 |v=>k v
def znn(l:List AV)(off sz:Nat):Nat:=Nat.div (Nat.sub l.length off) sz
def zlt(S:St)(v:AV):Option OpR:=fcSl v fun v=>some (.val v S)
def zwi{α:Type}(hi mx:Option α):Bool:=zu (isNone mx) true (Bool.not (isNone hi))
def zft(S:St)(n off len cap sz:Nat)(lo hi mx:Option AV):Option OpR:=bnd (zdx mx cap) fun m=>bnd (zdx hi len) fun h=>bnd (zdx lo 0) fun l =>
  zu (zwi hi mx) (zu (Nat.ble m cap) (zu (Nat.ble h m) (zu (Nat.ble l h) (zlt S (slAt n off l h m sz)) none) none) none) none
def zke(S:St)(n off len sz:Nat)(lo hi:Option AV):Option OpR:=bnd (zdx hi len) fun h=>bnd (zdx lo 0) fun l=>zu (Nat.ble l h)
  (zu (Nat.ble h len) (zlt S (.slo n (Nat.add off (Nat.mul l sz)) (Nat.sub h l) sz))
   (bnd (S.get n) fun o=>bnd (zf0 o) fun c=>zu (Nat.ble h (znn c off sz)) (S.touch n fun S=>zlt S (.slo n (Nat.add off (Nat.mul l sz)) (Nat.sub h l) sz)) none)) none
def zada(S:St)(sz:Nat)(x:AV)(lo hi mx:Option AV):Option OpR:=match x with
 |.nils=>bnd (zdx mx 0) fun m=>bnd (zdx hi 0) fun h=>bnd (zdx lo 0) fun l=>zu (zwi hi mx) (zu (Nat.beq m 0) (zu (Nat.beq h 0) (zu (Nat.beq l 0) (some (.val .nils S)) none) none) none) none
 |.sl n off len cap=>zft S n off len cap sz lo hi mx
 |.slo n off len sz'=>zu (Nat.beq sz sz') (zu (Nat.ble 1 sz) (zu (isNone mx) (zke S n off len sz lo hi) (zft S n off len len sz lo hi mx)) none) none
 |_=>none
def zub(E:Env)(S:St)(t:Nat)(x:AV)(lo hi mx:Option AV):Option OpR:=bnd (E.tyOf t) fun ti=>match ti.und with
 |.slice e=>bnd (E.tyOf e) fun te=>zada S te.size x lo hi mx
 |.array len e=>bnd (E.tyOf e) fun te=>bnd (zm2 x) fun p=>zft S p.1 p.2 len len te.size lo hi mx
 |.pointer a=>bnd (E.tyOf a) fun ta=>bnd (znm ta.und) fun ne=>bnd (E.tyOf ne.2) fun te=>bnd (zm2 x) fun p=>zft S p.1 p.2 ne.1 ne.1 te.size lo hi mx
 |_=>none
def lenA(v:AV):Option Nat:=match v with
 |.nils=>some 0|.sl _ _ n _=>some n|.slo _ _ n _=>some n|.str s=>some s.size|_=>none
def zxx {β:Type}(S:St)(sz k:Nat)(v:AV)(f:List AV→St→Option β):Option β:=match v with
 |.nils=>zu (Nat.beq k 0) (f [] S) none
 |.sl n off len _=>zu (Nat.ble k len) (rdN S n off (Nat.mul k sz) f) none
 |.slo n off len _=>zu (Nat.ble k len) (rdN S n off (Nat.mul k sz) f) none
 |.str s=>zu (Nat.beq sz 1) (zu (Nat.ble k s.size) (f ((s.extract 0 k).data.toList.map fun b=>.int .u8 (.ofNat b.toNat)) S) none) none
 |_=>none
def zev{α:Type}(n:Nat)(z:List α):List α:=@Nat.rec (fun _=>List α) [] (fun _ ih=>z++ih) n
def zsw(n:Nat):Bool:=Nat.ble n 65536
def zbz(S:St)(l:List AV)(len sz:Nat):Option OpR:=zu (zsw len) (fcN len fun len=>S.alloc (.cells l) fun n S=>some (.val (.slo n 0 len sz) S)) none
def zqz(S:St)(sz:Nat)(s:AV)(k:Nat)(new:List AV):Option OpR:=match s with
 |.nils=>zu (Nat.beq k 0) (some (.val .nils S)) (zbz S new k sz)
 |.sl n off len cap=>zu (Nat.ble (Nat.add len k) cap)
   (wrL S n (Nat.add off (Nat.mul len sz)) new fun S=>zlt S (.sl n off (Nat.add len k) cap))
   (rdN S n off (Nat.mul len sz) fun old S=>zbz S (old++new) (Nat.add len k) sz)
 | .slo n off len sz'=>zu (Nat.beq sz sz') (zu (Nat.ble 1 sz) (bnd (S.get n) fun o=>bnd (zf0 o) fun c=>zu (Nat.ble (Nat.add len k) (znn c off sz))
   (wrL S n (Nat.add off (Nat.mul len sz)) new fun S=>S.touch n fun S=>zlt S (.slo n off (Nat.add len k) sz))
   (zu (zd6 zm3 new) (rdN S n off (Nat.mul len sz) fun old S=>S.set n none fun S=>zbz S (old++new) (Nat.add len k) sz) none)) none) none
 |_=>none
def zxy(d:TypeDesc):Bool:=match d with
 |.int _=>true
 |_=>false
def zjm(E:Env)(S:St)(ats:List Nat)(s x:AV):Option OpR:=match ats with
 | [t0,t1]=>bnd (E.tyOf t0) fun ti=>bnd (zc4 ti.und) fun e=>bnd (E.tyOf e) fun te=>bnd (E.tyOf t1) fun tx=>bnd te.zero fun z=>zu (zgr (Nat.beq z.length te.size) (zsw te.bytes)) (zu (zxy tx.und)
   (bnd (zi6 x) fun k=>zu (zsw k) (zqz S te.size s k (zev k z)) none)
   (bnd (lenA x) fun k=>zxx S te.size k x fun new S=>zqz S te.size s k new)) none
 |_=>none
def zno(E:Env)(S:St)(ats:List Nat)(d x:AV):Option OpR:=match ats with
 |t0::_=>bnd (E.tyOf t0) fun ti=>bnd (zc4 ti.und) fun e=>bnd (E.tyOf e) fun te=>bnd (lenA d) fun a=>bnd (lenA x) fun b=>fcN (Nat.min b a) fun k =>
   zxx S te.size k x fun new S=>(match d with
    |.nils=>some (.val (.int .i64 (.ofNat k)) S)
    |.sl n off _ _=>wrL S n off new fun S=>some (.val (.int .i64 (.ofNat k)) S)
    |.slo n off _ _=>wrL S n off new fun S=>some (.val (.int .i64 (.ofNat k)) S)
    |_=>none)
 |_=>none
def zq3(P:Program):Nat→Nat→Option (List (Nat×Bool))
 |0,_=>none
 |n+1,t =>
  let go (u o:Nat):Option (List (Nat×Bool)):=match P.info? u,zq3 P n u with
   |some i,some l=>if l.all (fun x=>Nat.blt x.1 i.size)then some (l.map fun x=>(Nat.add o x.1,x.2))else none
   |_,_=>none
  match P.underlying t with
  |some (.int _)=>some [(0,true)]
  |some .bool=>some [(0,false)]
  | some (.struct fs) => if P.stoodInHeld t then none else fs.toList.foldr (fun f r => if f.name == "_" then none else match go f.type f.offset, r with
   |some a,some b=>some (a++b)
   |_,_=>none) (some [])
  |some (.array len e)=>match P.info? e with
   | some i=>(List.range len).foldr (fun j r=>match go e (Nat.mul j i.size),r with
    |some a,some b=>some (a++b)
    |_,_=>none) (some [])
   |none=>none
  |_=>none
def z43(P:Program)(t:Nat):Option (List (Nat×Bool)):=match P.underlying t with
 |some d=>if zkd d then zq3 P 8 t else none
 |none=>none
def z44(isI:Bool)(a b:AV):Option Bool:=match a,b with
 |.int k x,.int k' y=>zu isI (zu (kEq k k') (some (eqI x y)) none) none
 |.bool x,.bool y=>zu isI none (some (@Bool.rec (fun _=>Bool) (Bool.not y) y x))
 |_,_=>none
def eqLf(ls:List (Nat×Bool))(x y:List AV):Option Bool:=@List.rec (Nat×Bool) (fun _=>Option Bool) (some true) (fun p _ ih=>bnd (nth x p.1) fun a=>bnd (nth y p.1) fun b=>bnd (z44 p.2 a b) fun r=>zu r ih (some false)) ls
def zzy{α:Type}(x y:Option α):Option α:=@Option.rec α (fun _=>Option α) y (fun a=>some a) x
def zh3(P:Program)(ib:Bool)(t:Nat)(a b:AV):Option Bool:=match a,b with
 |.int k x,.int k' y=>zu ib (zu (kEq k k') (some (eqI x y)) none) none
 |.agg x,.agg y=>zzy (bnd (z43 P t) fun ls=>eqLf ls x y) (bnd (zia (.agg x)) fun x=>bnd (zia (.agg y)) fun y=>prun P (Op.equal t x y))
 |a,b=>bnd (zia a) fun x=>bnd (zia b) fun y=>prun P (Op.equal t x y)
def zei(P:Program)(ib:Bool)(t:Nat)(k:AV)(es:List Ent):Nat→Option (Option (Nat×AV)) :=
 @List.rec Ent (fun _=>Nat→Option (Option (Nat×AV))) (fun _=>some none) (fun e _ ih i=>bnd (zh3 P ib t k e.1) fun b=>zu b (some (some (i,e.2.1))) (ih (Nat.succ i))) es
def zk1(P:Program)(e:Bool)(t:Nat)(k:AV):Option Unit:=bnd (zia k) fun v=>prun P (Instr.checkKey e 10000 t v)
def zjn(a b:AV):Bool:=match zia a,zia b with
 |some x,some y=>Instr.sameBits 10000 x y
 |_,_=>false
def zwj{α:Type}(l:List α)(f:α→α):Nat→Option (List α) :=
 @List.rec α (fun _=>Nat→Option (List α)) (fun _=>none) (fun x t ih n=>@Nat.rec (fun _=>Option (List α)) (some (f x::t)) (fun m _=>bnd (ih m) fun t'=>some (x::t')) n) l
def znp(es:List Ent)(s:Nat):Nat→Option Nat :=
 @List.rec Ent (fun _=>Nat→Option Nat) (fun _=>none) (fun e _ ih i=>zu (Nat.beq e.2.2 s) (some i) (ih (Nat.succ i))) es
def zh4(E:Env)(t:Nat):Option (Nat×Nat):=bnd (E.tyOf t) fun ti=>match ti.und with
 |.map k e=>some (k,e)
 |_=>none
def isInt(E:Env)(t:Nat):Option Bool:=bnd (E.tyOf t) fun ti=>some (zxy ti.und)
def zlu(E:Env)(P:Program)(S:St)(t:Nat)(x k:AV)(ok:Bool):Option OpR:=bnd (zh4 E t) fun ke=>bnd (isInt E ke.1) fun ib =>
 let go (es:List Ent) (S:St):Option OpR:=bnd (zk1 P (isNil es) ke.1 k) fun _=>bnd (zei P ib ke.1 k es 0) fun r =>
  (match r with
  |some iv=>some (.val (zu ok (.tup [iv.2,.bool true]) iv.2) S)
  |none=>bnd (E.tyOf ke.2) fun te=>bnd te.zv fun z=>some (.val (zu ok (.tup [z,.bool false]) z) S))
 match x with
 |.nilm=>go [] S
 |.map m=>bnd (S.get m) fun o=>bnd (zkq o) fun ec=>S.touch m (go ec.1)
 |_=>none
def zlv(E:Env)(P:Program)(S:St)(t:Nat)(x k v:AV):Option OpR:=bnd (zh4 E t) fun ke=>bnd (isInt E ke.1) fun ib=>match x with
 |.map m=>bnd (S.get m) fun o=>bnd (zkq o) fun ec=>bnd (zk1 P false ke.1 k) fun _=>bnd (zei P ib ke.1 k ec.1 0) fun r =>
  (match r with
  |some iv=>bnd (nth ec.1 iv.1) fun e=>zu (zjn e.1 k) (bnd (zwj ec.1 (fun e=>(k,v,e.2.2)) iv.1) fun es=>S.set m (some (.map es ec.2)) fun S=>some (.val .undef S)) none
  |none=>fcN (Nat.succ ec.2) fun c=>S.set m (some (.map (ec.1++[(k,v,ec.2)]) c)) fun S=>some (.val .undef S))
 |_=>none
def znq(E:Env)(P:Program)(S:St)(t:Nat)(x k:AV):Option OpR:=bnd (zh4 E t) fun ke=>bnd (isInt E ke.1) fun ib=>match x with
 |.map m=>bnd (S.get m) fun o=>bnd (zkq o) fun ec=>bnd (zk1 P false ke.1 k) fun _=>bnd (zei P ib ke.1 k ec.1 0) fun r =>
  (match r with
  |some iv=>bnd (nth ec.1 iv.1) fun e=>zu (zjn e.1 k) (bnd (zwj ec.1 (fun e=>(k,e.2)) iv.1) fun es=>S.set m (some (.map es ec.2)) fun S=>some (.val (.tup [iv.2,.int .i64 (.ofNat e.2.2)]) S)) none
  |none=>bnd (E.tyOf ke.2) fun te=>bnd te.zv fun z=>fcN (Nat.succ ec.2) fun c=>S.set m (some (.map (ec.1++[(k,z,ec.2)]) c)) fun S=>some (.val (.tup [z,.int .i64 (.ofNat ec.2)]) S))
 |_=>none
def zgs(S:St)(x s v:AV):Option OpR:=match x with
 |.map m=>bnd (S.get m) fun o=>bnd (zkq o) fun ec=>bnd (zi6 s) fun b=>bnd (znp ec.1 b 0) fun i=>bnd (zwj ec.1 (fun e=>(e.1,v,e.2.2)) i) fun es=>S.set m (some (.map es ec.2)) fun S=>some (.val .undef S)
 |_=>none
def z45 (P:Program) (S:St) (ib:Bool) (kt m:Nat) (k:AV):Option OpR:=bnd (S.get m) fun o=>bnd (z3f o) fun q=>zu q.th (bnd (zk1 P false kt k) fun _=>bnd (zei P ib kt k q.es 0) fun r =>
  (match r with
  |some iv=>zu (Nat.beq iv.1 q.i) (S.set m (some (.mapk q.es q.ck q.i false)) fun S=>some (.val .undef S)) none
  |none=>none)) none
def z47(P:Program)(S:St)(ib:Bool)(kt m:Nat)(k:AV):Option OpR:=bnd (S.get m) fun o=>bnd (zkq o) fun ec=>bnd (zk1 P (isNil ec.1) kt k) fun _=>bnd (zei P ib kt k ec.1 0) fun r =>
  (match r with
  |some iv=>S.set m (some (.map (ec.1.eraseIdx iv.1) ec.2)) fun S=>some (.val .undef S)
  |none=>S.touch m fun S=>some (.val .undef S))
def zlw(E:Env)(P:Program)(S:St)(t:Nat)(x k:AV):Option OpR:=bnd (zh4 E t) fun ke=>bnd (isInt E ke.1) fun ib=>match x with
 |.map m=>@Option.rec OpR (fun _=>Option OpR) (z45 P S ib ke.1 m k) (fun r=>some r) (z47 P S ib ke.1 m k)
 |_=>none
def zxz(E:Env)(S:St)(t:Nat)(x:AV):Option OpR:=match x with
 |.nils=>bnd (E.tyOf t) fun ti=>bnd (zc4 ti.und) fun _=>some (.val (.int .i64 0) S)
 |.sl _ _ n _=>bnd (E.tyOf t) fun ti=>bnd (zc4 ti.und) fun _=>some (.val (.int .i64 (.ofNat n)) S)
 |.slo _ _ n _=>bnd (E.tyOf t) fun ti=>bnd (zc4 ti.und) fun _=>some (.val (.int .i64 (.ofNat n)) S)
 |.map m=>bnd (zh4 E t) fun _=>bnd (S.get m) fun o=>bnd (zkq o) fun ec=>S.touch m fun S=>fcN ec.1.length fun n=>some (.val (.int .i64 (.ofNat n)) S)
 |.ptr _ _=>bnd (E.tyOf t) fun ti=>bnd (zac9 ti.und) fun a=>bnd (E.tyOf a) fun ta=>bnd (znm ta.und) fun ne=>some (.val (.int .i64 (.ofNat ne.1)) S)
 |.agg _=>bnd (E.tyOf t) fun ti=>bnd (znm ti.und) fun ne=>some (.val (.int .i64 (.ofNat ne.1)) S)
 |_=>none
def zx0(E:Env)(S:St)(t:Nat)(x:AV):Option OpR:=bnd (E.tyOf t) fun ti=>bnd (zc4 ti.und) fun _=>match x with
 |.nils=>some (.val (.int .i64 0) S)
 |.sl _ _ _ c=>some (.val (.int .i64 (.ofNat c)) S)
 |_=>none
def znr(E:Env)(S:St)(t:Nat)(x:AV):Option OpR:=match x with
 |.nilm=>bnd (E.tyOf t) fun _=>some (.val .undef S)
 |.nils=>bnd (E.tyOf t) fun _=>some (.val .undef S)
 |.map m=>bnd (E.tyOf t) fun _=>bnd (S.get m) fun o=>bnd (zkq o) fun ec=>S.set m (some (.map [] ec.2)) fun S=>some (.val .undef S)
 |.sl n off len _=>bnd (E.tyOf t) fun ti=>bnd (zc4 ti.und) fun e=>bnd (E.tyOf e) fun te=>bnd te.zero fun z=>wrL S n off (zev len z) fun S=>some (.val .undef S)
 |.slo n off len _=>bnd (E.tyOf t) fun ti=>bnd (zc4 ti.und) fun e=>bnd (E.tyOf e) fun te=>bnd te.zero fun z=>wrL S n off (zev len z) fun S=>some (.val .undef S)
 |_=>none
def zuc(place:Nat→Option (Nat×Nat)):List (Nat×AV)→List AV→Option (List AV)
 |[],l=>some l
 |(i,v)::r,l=>bnd (place i) fun os=>zu (Nat.beq v.cells.length os.2) (bnd (zxw l os.1 v.cells) (zuc place r)) none
def zkf(T:Tm):List (Nat×Operand)→Option (List (Nat×AV))
 |[]=>some []
 |(i,x)::r=>bnd (opd T x) fun v=>bnd (zkf T r) fun l=>some ((i,v)::l)
def zud(E:Env):List Field→Option (List (Nat×Nat))
 |[]=>some []
 |f::fs=>bnd (E.tyOf f.type) fun ti=>bnd (zud E fs) fun l=>some ((f.offset,ti.size)::l)
def zns(E:Env)(T:Tm)(S:St)(t:Nat)(parts:List (Nat×Operand)):Option OpR:=bnd (E.tyOf t) fun ti=>bnd ti.zero fun z=>bnd (zkf T parts) fun ps=>match ti.und with
 |.struct fs=>bnd (zud E fs.toList) fun pl=>bnd (zuc (nth pl) ps z) fun l=>some (.val (.agg l) S)
 |.array _ e=>bnd (E.tyOf e) fun te=>bnd (zuc (fun i=>some (Nat.mul i te.size,te.size)) ps z) fun l=>some (.val (.agg l) S)
 |_=>none
def zgt(E:Env)(T:Tm)(S:St)(t len:Nat)(parts:List (Nat×Operand)):Option OpR:=bnd (E.tyOf t) fun ti=>bnd (zc4 ti.und) fun e=>bnd (E.tyOf e) fun te=>bnd te.zero fun z =>
 zu (Nat.beq z.length te.size) (zu (Nat.ble (Nat.mul len te.size) 65536) (bnd (zkf T parts) fun ps=>bnd (zuc (fun i=>some (Nat.mul i te.size,te.size)) ps (zev len z)) fun l =>
  S.alloc (.cells l) fun n S=>some (.val (.sl n 0 len len) S)) none) none
def z3h(E:Env)(t:Nat)(l:List AV)(off:Nat):Option AV:=bnd (E.tyOf t) fun ti=>zu ti.agg (bnd (seg l off ti.size) fun x=>some (.agg x)) (nth l off)
def zadb(E:Env)(S:St)(t:Nat)(a:AV):Option OpR:=bnd (zm2 a) fun p=>bnd (E.tyOf t) fun ti=>zu ti.agg (rdN S p.1 p.2 ti.size fun l S=>some (.val (.agg l) S)) (rd1 S p.1 p.2 fun v S=>some (.val v S))
def zzz:AV→Option (List AV):=@AV.rec (fun _=>Option (List AV)) (fun _=>PUnit) (fun _=>none) (fun _ _=>none) (fun _=>none) none (fun _ _=>none) none (fun _ _ _ _=>none) (fun _ _ _ _=>none)
 none (fun _=>none) (fun _ _ _ _ _=>none) (fun _=>none) none (fun l _=>some l) (fun _ _=>none) PUnit.unit (fun _ _ _ _=>PUnit.unit)
def tupA:AV→Option (List AV):=@AV.rec (fun _=>Option (List AV)) (fun _=>PUnit) (fun _=>none) (fun _ _=>none) (fun _=>none) none (fun _ _=>none) none (fun _ _ _ _=>none) (fun _ _ _ _=>none)
 none (fun _=>none) (fun _ _ _ _ _=>none) (fun _=>none) none (fun _ _=>none) (fun l _=>some l) PUnit.unit (fun _ _ _ _=>PUnit.unit)
def z8m(E:Env)(S:St)(t:Nat)(a v:AV):Option OpR:=bnd (zm2 a) fun p=>bnd (E.tyOf t) fun ti=>zu (Nat.beq v.cells.length ti.size)
 (@Option.rec (List AV) (fun _=>Option OpR) (wr1 S p.1 p.2 v fun S=>some (.val .undef S)) (fun l=>wrL S p.1 p.2 l fun S=>some (.val .undef S)) (zzz v)) none
def zve(E:Env)(S:St)(t:Nat)(a:AV)(f:Nat):Option OpR:=bnd (zm2 a) fun p=>bnd (E.tyOf t) fun ti=>bnd (zsv ti.und) fun fs=>bnd (nth fs f) fun fd=>bnd (E.tyOf fd.type) fun tf=>zu (Nat.ble 1 tf.size) (fcN (Nat.add p.2 fd.offset) fun o=>some (.val (.ptr p.1 o) S)) none
def z8n(E:Env)(S:St)(t:Nat)(a:AV)(f:Nat):Option OpR:=bnd (zzz a) fun l=>bnd (E.tyOf t) fun ti=>bnd (zsv ti.und) fun fs=>bnd (nth fs f) fun fd=>bnd (z3h E fd.type l fd.offset) fun v=>some (.val v S)
def z48(E:Env)(S:St)(n off len e i:Nat):Option OpR:=zu (Nat.ble (Nat.succ i) len) (bnd (E.tyOf e) fun te=>fcN (Nat.add off (Nat.mul i te.size)) fun o=>some (.val (.ptr n o) S)) none
def zwk:AV→Option (Nat×Nat×Nat):=@AV.rec (fun _=>Option (Nat×Nat×Nat)) (fun _=>PUnit) (fun _=>none) (fun _ _=>none) (fun _=>none) none (fun _ _=>none) none (fun n o l _=>some (n,o,l)) (fun n o l _=>some (n,o,l))
 none (fun _=>none) (fun _ _ _ _ _=>none) (fun _=>none) none (fun _ _=>none) (fun _ _=>none) PUnit.unit (fun _ _ _ _=>PUnit.unit)
def zvf(E:Env)(S:St)(t:Nat)(a x:AV):Option OpR:=bnd (zi6 x) fun i=>bnd (E.tyOf t) fun ti=>@Option.rec (Nat×Nat×Nat) (fun _=>Option OpR)
 (bnd (zm2 a) fun p=>bnd (znm ti.und) fun ne=>z48 E S p.1 p.2 ne.1 ne.2 i) (fun r=>bnd (zc4 ti.und) fun e=>z48 E S r.1 r.2.1 r.2.2 e i) (zwk a)
def z8o(E:Env)(S:St)(t:Nat)(a x:AV):Option OpR:=bnd (zzz a) fun l=>bnd (zi6 x) fun i=>bnd (E.tyOf t) fun ti=>bnd (znm ti.und) fun ne=>zu (Nat.ble (Nat.succ i) ne.1) (bnd (E.tyOf ne.2) fun te=>bnd (z3h E ne.2 l (Nat.mul i te.size)) fun v=>some (.val v S)) none
def zvg(E:Env)(S:St)(t:Nat)(l c:AV):Option OpR:=bnd (zi6 l) fun l=>bnd (zi6 c) fun c=>bnd (E.tyOf t) fun ti=>bnd (zc4 ti.und) fun e=>bnd (E.tyOf e) fun te=>bnd te.zero fun z =>
 zu (Nat.ble l c) (zu (zsw c) (zu (zsw te.bytes) (zu (Nat.beq z.length te.size) (S.alloc (.cells (zev c z)) fun n S=>fcN l fun l=>fcN c fun c=>some (.val (.sl n 0 l c) S)) none) none) none) none
def fnOf(f:Fn):Option Nat:=match f with
 |.func f=>some f
 |_=>none
def z1e(a:AV)(i:Nat):Option AV:=bnd (tupA a) fun l=>nth l i
def zz0(E:Env)(S:St)(t:Nat)(x:AV):Option OpR:=match x with
 | .str s=>bnd (E.tyOf t) fun ti=>(match ti.und with
  |.string=>S.alloc (.striter s 0) fun n S=>some (.val (.ptr n 0) S)
  |_=>none)
 |.map m=>bnd (zh4 E t) fun _=>bnd (S.get m) fun o=>bnd (zkq o) fun ec=>S.touch m fun S=>S.alloc (.it m ec.2 []) fun n S=>some (.val (.ptr n 0) S)
 |_=>none
def zsx (S:St) (x:AV):Option OpR:=bnd (zm2 x) fun p=>zu (Nat.beq p.2 0) (bnd (S.get p.1) fun o=>bnd (zahn o) fun q=>bnd (S.get q.1) fun o=>bnd (z3f o) fun z=>zu (zgr z.th (Nat.beq z.ck q.2.1))
 (bnd (znp z.es q.2.2 0) fun i=>zu (Nat.beq i z.i) (bnd (nth z.es i) fun e=>S.touch p.1 fun S=>S.touch q.1 fun S=>some (.val (.tup [e.1,e.2.1]) S)) none) none) none
def z49(S:St)(x:AV)(isS:Bool):Option OpR:=match x with
 | .ptr n off=>zu (Nat.beq off 0) (bnd (S.get n) fun o=>match o with
  | .striter s pos=>zu isS (zu (Nat.ble (Nat.succ pos) s.size)
    (fcN (Nat.add pos (Utf8.decode s pos).2) fun p=>S.set n (some (.striter s p)) fun S=>some (.val (.tup [.bool true,.int .i64 (.ofNat pos),.int .i32 (.ofNat (Utf8.decode s pos).1)]) S))
    (S.touch n fun S=>some (.val (.tup [.bool false]) S))) none
  |_=>none) none
 |_=>none
def zaiq:AV→List AV→St→Option OpR:=@AV.rec (fun _=>List AV→St→Option OpR) (fun _=>PUnit) (fun _ _ _=>none) (fun _ _ _ _=>none) (fun _ _ _=>none) (fun _ _=>none) (fun _ _ _ _=>none) (fun _ _=>none) (fun _ _ _ _ _ _=>none) (fun _ _ _ _ _ _=>none)
 (fun _ _=>none) (fun _ _ _=>none) (fun f fst cap _ _ args S=>some (.call f (fst++(args++cap)) S)) (fun l args S=>some (.yield l args S)) (fun _ _=>none) (fun _ _ _ _=>none) (fun _ _ _ _=>none) PUnit.unit (fun _ _ _ _=>PUnit.unit)
def zgf(P:Program)(T:Tm)(o:Oper)(S:St):Option OpR:=bnd (zsu P T o) fun v=>some (.val v S)
def zik(E:Env)(P:Program)(T:Tm)(o:Oper)(S:St)(b:Builtin)(ats:Array Nat)(args:List Operand):Option OpR:=match b with
 | .len=>zu (zij T args) (zgf P T o S) (match args with
  |[x]=>bnd (opd T x) fun v=>bnd (nth ats.toList 0) fun t=>zxz E S t v
  |_=>none)
 | .append=>(match args with
  |[s,x]=>bnd (opd T s) fun s=>bnd (opd T x) fun x=>zjm E S ats.toList s x
  |_=>none)
 | .cap=>(match args with
  |[x]=>bnd (opd T x) fun v=>bnd (nth ats.toList 0) fun t=>zx0 E S t v
  |_=>none)
 | .copy=>(match args with
  |[d,x]=>bnd (opd T d) fun d=>bnd (opd T x) fun x=>zno E S ats.toList d x
  |_=>none)
 | .clear=>(match args with
  |[x]=>bnd (opd T x) fun v=>bnd (nth ats.toList 0) fun t=>znr E S t v
  |_=>none)
 | .delete=>(match args with
  |[m,k]=>bnd (opd T m) fun m=>bnd (opd T k) fun k=>bnd (nth ats.toList 0) fun t=>zlw E P S t m k
  |_=>none)
 |_=>zgf P T o S
def zib(E:Env)(P:Program)(T:Tm)(o:Oper)(S:St)(c:Call):Option OpR:=@Callee.rec (fun _=>Option OpR) (fun f=>bnd (opd T f) fun f=>bnd (zqx T c.args.toList) fun args=>zaiq f args S)
 (fun _ _=>none) (fun b=>zik E P T o S b c.argTypes c.args.toList) c.callee
def zlb{α:Type}(x:Option α)(y:Option α):Option α:=@Option.rec α (fun _=>Option α) y (fun a=>some a) x
def zkr(S:St)(x:Option AV):Option OpR:=bnd x fun v=>some (.val v S)
def zahp(op:UnOp)(v:AV):Option AV:=match op with
 |.not=>bnd (zzw v) fun b=>zm4 (Bool.not b)
 |_=>none
abbrev OpF:=Env→Program→Tm→Oper→St→Option OpR
def zml(x:Operand):OpF:=fun _ _ T _ S=>zkr S (opd T x)
def zue(c a b:Operand):OpF:=fun _ _ T _ S=>bnd (opd T c) fun c=>bnd (zzw c) fun c=>zkr S (zu c (opd T a) (opd T b))
def znt(e:Nat):OpF:=fun E _ _ _ S=>bnd (E.tyOf e) fun te=>bnd te.zero fun z=>S.alloc (.cells z) fun n S=>some (.val (.ptr n 0) S)
def zz1(_:Nat)(x:Operand):OpF:=fun _ _ T _ S=>bnd (opd T x) fun v=>S.alloc (.cells v.cells) fun n S=>some (.val (.ptr n 0) S)
def z5a(t:Nat)(ps:Array (Nat×Operand)):OpF:=fun E _ T _ S=>zns E T S t ps.toList
def zm5(t len:Nat)(ps:Array (Nat×Operand)):OpF:=fun E _ T _ S=>zgt E T S t len ps.toList
def zeb(t:Nat)(m k x:Operand):OpF:=fun E P T _ S=>bnd (opd T m) fun m=>bnd (opd T k) fun k=>bnd (opd T x) fun x=>zlv E P S t m k x
def zuf(t:Nat)(a:Operand):OpF:=fun E _ T _ S=>bnd (opd T a) fun a=>zadb E S t a
def znu(t:Nat)(a x:Operand):OpF:=fun E _ T _ S=>bnd (opd T a) fun a=>bnd (opd T x) fun x=>z8m E S t a x
def zz2(x:Operand):OpF:=fun _ _ T _ S=>bnd (opd T x) fun v=>zu (zalo v) (some (.val v S)) none
def zz3(op:BinOp)(t:Nat)(x y:Operand)(_:Nat):OpF:=fun E P T o S=>bnd (opd T x) fun x=>bnd (opd T y) fun y=>zlb (zkr S (zaho E op t x y)) (zgf P T o S)
def oUn(op:UnOp)(_:Nat)(x:Operand):OpF:=fun _ P T o S=>bnd (opd T x) fun x=>zlb (zkr S (zahp op x)) (zgf P T o S)
def zil(f:Fn)(fs cs:Array Operand):OpF:=fun _ _ T _ S=>bnd (fnOf f) fun f=>bnd (zqx T fs.toList) fun fs=>bnd (zqx T cs.toList) fun cs=>some (.val (.fn f fs cs) S)
def zjo(t:Nat)(r:Option Operand):OpF:=fun E _ T _ S=>@Option.rec Operand (fun _=>Option OpR) (S.alloc (.map [] 0) fun n S=>some (.val (.map n) S))
 (fun x=>bnd (zh4 E t) fun _=>bnd (opd T x) fun v=>bnd (zi6 v) fun _=>S.alloc (.map [] 0) fun n S=>some (.val (.map n) S)) r
def zhe(t:Nat)(l c:Operand):OpF:=fun E _ T _ S=>bnd (opd T l) fun l=>bnd (opd T c) fun c=>zvg E S t l c
def znv(t:Nat)(x:Operand)(lo hi mx:Option Operand):OpF:=fun E P T o S=>bnd (opd T x) fun x=>bnd (zzx T lo) fun lo=>bnd (zzx T hi) fun hi=>bnd (zzx T mx) fun mx=>zlb (zub E S t x lo hi mx) (zgf P T o S)
def zhf(t:Nat)(x:Operand)(f:Nat):OpF:=fun E _ T _ S=>bnd (opd T x) fun x=>zve E S t x f
def znw(t:Nat)(x:Operand)(f:Nat):OpF:=fun E _ T _ S=>bnd (opd T x) fun x=>z8n E S t x f
def zhg(t:Nat)(x i:Operand):OpF:=fun E _ T _ S=>bnd (opd T x) fun x=>bnd (opd T i) fun i=>zvf E S t x i
def znx (t:Nat)(x i:Operand):OpF:=fun E P T o S=>bnd (opd T x) fun x=>bnd (opd T i) fun i=>zlb (z8o E S t x i) (zgf P T o S)
def zlc(t:Nat)(x k:Operand)(ok:Bool):OpF:=fun E P T _ S=>bnd (opd T x) fun x=>bnd (opd T k) fun k=>zlu E P S t x k ok
def zny(t:Nat)(m k:Operand):OpF:=fun E P T _ S=>bnd (opd T m) fun m=>bnd (opd T k) fun k=>znq E P S t m k
def zf4(_:Nat)(m s x:Operand):OpF:=fun _ _ T _ S=>bnd (opd T m) fun m=>bnd (opd T s) fun s=>bnd (opd T x) fun x=>zgs S m s x
def znz(t:Nat)(x:Operand):OpF:=fun E _ T _ S=>bnd (opd T x) fun x=>zz0 E S t x
def zug(it:Operand)(b:Bool):OpF:=fun _ _ T _ S=>bnd (opd T it) fun x=>z49 S x b
def z3i(it:Operand):OpF:=fun _ _ T _ S=>bnd (opd T it) fun x=>zsx S x
def zjp(t:Operand)(i:Nat):OpF:=fun _ _ T _ S=>bnd (opd T t) fun v=>zkr S (z1e v i)
def zaav(c:Call):OpF:=fun E P T o S=>zib E P T o S c
def zhq(l:List Nat):ByteArray:=⟨(l.map UInt8.ofNat).toArray⟩
def zz4(s:ByteArray):List Nat:=s.data.toList.map UInt8.toNat
def z5b(d:TypeDesc):Bool:=match d with
 |.int .u8=>true
 |_=>false
def zx1(d:TypeDesc):Bool:=match d with
 |.string=>true
 |_=>false
def zn0(s:ByteArray):List AV:=(zz4 s).map fun n=>.int .u8 (.ofNat n)
def zuh:List AV→Option (List Nat)
 |[]=>some []
 |.int .u8 (.ofNat n)::l=>fcN n fun n=>bnd (zuh l) fun r=>some (n::r)
 |_=>none
def z5c(E:Env)(S:St)(src dst:Nat)(x:AV):Option OpR:=match x with
 |.str s=>bnd (E.tyOf src) fun _=>bnd (E.tyOf dst) fun td=>bnd (zc4 td.und) fun e=>bnd (E.tyOf e) fun te=>zu (z5b te.und) (S.alloc (.row (zn0 s)) fun n S=>fcN s.size fun k=>some (.val (.slo n 0 k 1) S)) none
 |.nils=>none
 |x=>bnd (zwk x) fun r=>bnd (E.tyOf src) fun ts=>bnd (zc4 ts.und) fun e=>bnd (E.tyOf e) fun te=>zu (z5b te.und) (bnd (E.tyOf dst) fun td=>zu (zx1 td.und) (rdN S r.1 r.2.1 r.2.2 fun l S=>bnd (zuh l) fun bs=>some (.val (.str (zhq bs)) S)) none) none
def zjq(s d:Nat)(x:Operand):OpF:=fun E P T o S=>bnd (opd T x) fun v=>zlb (z5c E S s d v) (zgf P T o S)
def zks:OpF:=fun _ _ _ _ _=>none
def opF:Op→OpF:=@Op.rec (fun _=>OpF) zml zml zue znt zz1 z5a zm5 zeb zuf znu (fun _=>zks) (fun _=>zks) zz2 zz3 oUn zjq (fun _ _=>zks) (fun _ _=>zks) zil zjo (fun _ _=>zks) zhe
 znv zhf znw zhg znx zlc zeb zny zf4 znz zug z3i (fun _ _ _ _=>zks) zjp zaav (fun _=>zks) (fun _=>zks) (fun _=>zks) (fun _ _=>zks) (fun _ _ _=>zks) (fun _ _=>zks)
def zq4(E:Env)(P:Program)(T:Tm)(o:Oper)(S:St):Option OpR:=opF o.op E P T o S
inductive Task where
 |call (f:Nat) (args:List AV)
 |code (ro:Option Nat) (c:Code) (T:Tm) (mk:List Nat)
 |yield (l:Nat) (args:List AV)
def zh5(E:Env)(P:Program)(ih:Task→St→Option Res)(T:Tm)(o:Oper)(S:St)(k:AV→St→Option (Tm×St)):Option (Tm×St):=bnd (zq4 E P T o S) fun r=>@OpR.rec (fun _=>Option (Tm×St)) (fun v S=>k v S)
 (fun f args S=>bnd (ih (.call f args) S) fun r=>k r.v r.st) (fun l args S=>bnd (ih (.yield l args) S) fun r=>k r.v r.st) r
def bEq(a b:Bool):Bool:=@Bool.rec (fun _=>Bool) (Bool.not b) b a
def zj1(ops:List Oper)(T:Tm)(o:Oper):Option Bool:=match o.guard with
 |none=>some true
 | some jw=>bnd (nth ops jw.1) fun q=>bnd q.dst fun d=>bnd (T.get d) fun v=>(match v with
  |.bool b=>some (bEq b jw.2)
  |.tup _=>some false
  |_=>none)
def zui{β:Type}(ops:List Oper)(T:Tm)(o:Oper)(yes no:Option β):Option β:=@Option.rec (Nat×Bool) (fun _=>Option β) yes (fun _=>bnd (zj1 ops T o) fun b=>zu b yes no) o.guard
def zq5(E:Env)(P:Program)(ih:Task→St→Option Res)(ops:List Oper)(l:List Oper):Tm→St→Option (Tm×St) :=
 @List.rec Oper (fun _=>Tm→St→Option (Tm×St)) (fun T S=>some (T,S))
  (fun o _ go T S=>zui ops T o (zh5 E P ih T o S fun v S=>T.putK o.dst v fun T=>go T S) (T.putK o.dst .undef fun T=>go T S)) l
def zf5(o:Oper):List Nat:=(o.after.toList.filter (Region.binds .any)).map (·.on)
def zx2(ls:List Oper)(j:Nat):Option Nat:=(ls[j]?).bind (·.dst)
structure Fp where
 i:Nat
 a:Nat
 t:Nat
 w:Nat
 o:Oper
 tm:Tm
 s:St
 v:AV
 s':St
def tb(m i:Nat):Bool:=Nat.beq (Nat.land (Nat.shiftRight m i) 1) 1
def zsy(a b:Nat):Bool:=Nat.beq (Nat.land a b) 0
def orB(a b:Bool):Bool:=@Bool.rec (fun _=>Bool) b true a
def zhh{α:Type}(p:α→Bool)(l:List α):List α:=@List.rec α (fun _=>List α) [] (fun x _ ih=>zu (p x) (x::ih) ih) l
def clash(y x:Fp):Bool:=zgr (Bool.not (zsy x.w y.t)) (Bool.not (orB (Nat.beq x.i y.i) (orB (tb x.a y.i) (tb y.a x.i))))
def z5d(a b:AV):Bool:=match a,b with
 |.int k x,.int k' y=>zgr (kEq k k') (eqI x y)
 |.bool x,.bool y=>bEq x y
 |_,_=>false
def zq6 (E:Env) (P:Program) (y x:Fp):Bool:=zgr (zgr (Nat.ble (Nat.succ y.i) x.i) (Nat.beq y.w 0)) (fcN (Nat.land x.w y.t) fun m=>fcN (Nat.log2 m) fun n=>zgr (Nat.beq m (zaa n))
 (match zq4 E P y.tm y.o ⟨Tr.put 24 n (x.s'.get n) y.s.heap,y.s.next,0,0⟩with
  |some (.val v S)=>zgr (Nat.beq S.w 0) (zgr (Nat.beq (Nat.lor S.t y.t) y.t) (zgr (Nat.beq S.next y.s.next) (z5d v y.v)))
  |_=>false))
def zaaw(E:Env)(P:Program)(ws:List Fp)(y:Fp):Bool:=match zhh (clash y) ws with
 |[]=>true
 |[x]=>zq6 E P y x
 |_=>false
def zx3(E:Env)(P:Program)(l:List Fp):Bool:=(fun ws=>zu (isNil ws) true (zd6 (zaaw E P ws) l)) (zhh (fun x=>Bool.not (Nat.beq x.w 0)) l)
def zmm(acc:List Nat)(o:Oper):Nat:=(zf5 o).foldl (fun s j=>Nat.lor (Nat.lor s (Nat.shiftLeft 1 j)) ((nth acc j).getD 0)) 0
def zkt(ls:List Oper):List Nat:=ls.foldl (fun acc o=>acc++[zmm acc o]) []
def zlx (E:Env)(P:Program)(ih:Task→St→Option Res)(ops:List Oper)(l:List Oper):List Nat→Nat→List Fp→Nat→Nat→Tm→St→Option (Tm×St) :=
 @List.rec Oper (fun _=>List Nat→Nat→List Fp→Nat→Nat→Tm→St→Option (Tm×St))
  (fun _ _ fps t w T S=>zu (zx3 E P fps) (some (T,⟨S.heap,S.next,t,w⟩)) none)
  (fun o _ go an i fps t w T S=>match an with
   |[]=>none
   |a::an=>zui ops T o
    (zh5 E P ih T o ⟨S.heap,S.next,0,0⟩ fun v S'=>T.putK o.dst v fun T'=>fcN (Nat.lor t S'.t) fun t'=>fcN (Nat.lor w S'.w) fun w'=>go an (Nat.succ i) (⟨i,a,S'.t,S'.w,o,T,S,v,S'⟩::fps) t' w' T' S')
    (T.putK o.dst .undef fun T'=>go an (Nat.succ i) (⟨i,a,0,0,o,T,S,.undef,S⟩::fps) t w T' S)) l
def zmn (ls:List Oper) (o:Oper):List Nat:=(o.op.operands.toList.filterMap fun x=>match x with
  |.tmp s=>some s
  | _=>none) ++ (match o.guard with
  |none=>[]
  |some jw=>(zx2 ls jw.1).toList)
def zx4 (ls:List Oper) (x y:Oper):Bool:=(match x.dst with
  |none=>false
  | some d=>(zmn ls y).contains d || y.dst == some d) || (match y.dst with
  |none=>false
  |some d=>(zmn ls x).contains d)
def zq7(ls:List Oper)(an:List Nat)(size i:Nat)(o:Oper):Bool :=
 z42 o.op&&(match o.dst with|none=>true|some d=>decide (d<size))&&(zf5 o).all (fun j=>decide (j<i)) &&
 (List.range i).all (fun k=>match ls[k]? with|none=>true|some x=>!zx4 ls x o||tb (an.getD i 0) k) &&
 (match o.guard with|none=>true|some jw=>(zx2 ls jw.1).isSome)
def z5e(ls:List Oper)(size:Nat):Bool:=(List.range ls.length).all fun i=>match ls[i]? with
 |none=>true
 |some o=>zq7 ls (zkt ls) size i o
def zaf1(E:Env)(P:Program)(ih:Task→St→Option Res)(draw:Bool)(ops:List Oper)(T:Tm)(S:St):Option (Tm×St) :=
 zu draw (fcN T.sz fun sz=>zu (z5e ops sz) (zlx E P ih ops ops (zkt ops) 0 [] S.t S.w T S) none) (zq5 E P ih ops ops T S)
def zf1(l:List AV):Nat→Tr AV→Tr AV:=@List.rec AV (fun _=>Nat→Tr AV→Tr AV) (fun _ m=>m) (fun v _ go i m=>go (Nat.succ i) (Tr.put 24 i (some v) m)) l
def z5f(ps:List Nat)(sz:Nat):List AV→Tr AV→Option (Tr AV) :=
 @List.rec Nat (fun _=>List AV→Tr AV→Option (Tr AV)) (fun as m=>zu (isNil as) (some m) none) (fun p _ go as m=>match as with
  |[]=>none
  |a::as=>zu (Nat.ble (Nat.succ p) sz) (go as (Tr.put 24 p (some a) m)) none) ps
def z5g (mk:List Nat) (k:St→Option Res):St→Option Res:=@List.rec Nat (fun _=>St→Option Res) k (fun d _ go S=>bnd (S.get d) fun o=>match o with
 |.dfr=>S.set d none go
 |_=>none) mk
def zsz(E:Env)(T:Tm)(S:St)(x:ResultVar)(k:AV→St→Option Res):Option Res:=match x with
 |.tmp t=>bnd (T.get t) fun v=>k v S
 | .cell a t=>bnd (T.get a) fun a=>(match a with
  |.ptr n off=>bnd (E.tyOf t) fun ti=>zu ti.agg (rdN S n off ti.size fun l S=>k (.agg l) S) (rd1 S n off k)
  |_=>none)
def zhi(E:Env)(T:Tm)(l:List ResultVar):St→List AV→(List AV→St→Option Res)→Option Res :=
 @List.rec ResultVar (fun _=>St→List AV→(List AV→St→Option Res)→Option Res) (fun S acc k=>k acc S) (fun x _ go S acc k=>zsz E T S x fun v S=>go S (acc++[v]) k) l
def oneOf(l:List AV):AV:=match l with
 |[v]=>v
 |l=>.tup l
def zim(E:Env)(fn:Func)(r:Res):Option Res:=z5g r.mks (fun S=>zhi E r.tm fn.results.toList S [] fun l S=>some ⟨.normal,r.tm,[],oneOf l,S⟩) r.st
def z5h(E:Env)(ih:Task→St→Option Res)(f:Nat)(args:List AV)(S:St):Option Res:=bnd (Tr.get E.fn f) fun fn=>bnd fn.body fun c =>
 zu (Nat.ble args.length fn.ntmps) (bnd (ih (.code none c ⟨zf1 args 0 .leaf,fn.ntmps⟩ []) S) fun r=>match r.ex with
  |.normal=>zim E fn r
  |.ret=>zim E fn r
  |_=>none) none
def zn1(e:Ex):Option Code:=match e with
 |.normal=>none|.ret=>some .ret|.exit id=>some (.exit id)|.goto l=>some (.goto l)
def zz5(s:LoopState):Bool:=match s with
 |.ready=>true|_=>false
def zadc(s:LoopState):Bool:=match s with
 |.busy=>true|_=>false
def za5(e:Ex):Bool:=match e with
 |.normal=>true|_=>false
def zx5{β:Type}(S:St)(l:Nat)(k:LoopState→Option Code→Tr AV→Nat→List Nat→Code→Code→Nat→Option β):Option β:=bnd (S.get l) fun o=>match o with
 |.loop st pe tm sz ps as bd dn=>k st pe tm sz ps as bd dn
 |_=>none
def zuj{β:Type}(S:St)(l:Nat)(st:LoopState)(pe:Option Code)(k:St→Option β):Option β:=bnd (S.get l) fun o=>match o with
 |.loop _ _ tm sz ps as bd dn=>S.set l (some (.loop st pe tm sz ps as bd dn)) k
 |_=>none
def z8p(ih:Task→St→Option Res)(l:Nat)(args:List AV)(S:St):Option Res:=zx5 S l fun st _ tm sz ps as bd _=>zu (zz5 st)
 (bnd (z5f ps sz args tm) fun m=>S.touch l fun S=>bnd (ih (.code (some l) as ⟨m,sz⟩ []) S) fun r=>zu (za5 r.ex)
  (zx5 r.st l fun st pe _ _ _ _ _ _=>zu (zz5 st) (zuj r.st l .busy pe fun S=>bnd (ih (.code (some l) bd r.tm r.mks) S) fun r =>
   zuj r.st l (zu (za5 r.ex) .ready .done) (zn1 r.ex) fun S=>some ⟨.normal,r.tm,[],.bool (za5 r.ex),S⟩) none) none) none
def zly(ih:Task→St→Option Res)(ro:Option Nat)(f:AV)(ps:List Nat)(as bd:Code)(T:Tm)(mk:List Nat)(dn:Nat)(S:St):Option Res:=S.alloc (.loop .ready none T.m T.sz ps as bd dn) fun l S=>match f with
 |.fn f fst cap=>bnd (ih (.call f (fst++(.yield l::cap))) S) fun r=>zx5 r.st l fun st pe _ _ _ _ _ _=>zu (zadc st) none
   (zuj r.st l .exhausted pe fun S=>match pe with
    |none=>some ⟨.normal,T,mk,.undef,S⟩
    |some c=>ih (.code ro c T mk) S)
 |_=>none
def zaf2(ih:Task→St→Option Res)(ro:Option Nat)(f:AV)(ps:List Nat)(as bd:Code)(T:Tm)(mk:List Nat)(S:St):Option Res:=match ro with
 |none=>S.alloc .dfr fun d S=>zly ih ro f ps as bd T (d::mk) d S
 |some l=>zx5 S l fun _ _ _ _ _ _ _ dn=>S.touch l fun S=>zly ih ro f ps as bd T mk dn S
def z5i(e:Ex)(id:Nat):Bool:=match e with
 |.exit i=>Nat.beq i id
 |_=>false
def zair(e:Ex):Bool:=match e with
 |.goto _=>false|_=>true
abbrev Ih:=Task→St→Option Res
def tabE(tab:Tr (List AV→St→Option Res))(f:Nat)(args:List AV)(S:St):Option Res:=bnd (Tr.get tab f) fun s=>s args S
abbrev CdF:=Env→Program→Ih→Option Nat→Tm→List Nat→St→Option Res
def done(ex:Ex):CdF:=fun _ _ _ _ T mk S=>some ⟨ex,T,mk,.undef,S⟩
def cSeq(a b:Code):CdF:=fun _ _ ih ro T mk S=>bnd (ih (.code ro a T mk) S) fun r=>zu (za5 r.ex) (ih (.code ro b r.tm r.mks) r.st) (some r)
def zahq(c:Operand)(x y:Code):CdF:=fun _ _ ih ro T mk S=>bnd (opd T c) fun v=>bnd (zzw v) fun b=>ih (.code ro (zu b x y) T mk) S
def zadd(id:Nat)(b:Code):CdF:=fun _ _ ih ro T mk S=>bnd (ih (.code ro b T mk) S) fun r=>some (zu (z5i r.ex id) ⟨.normal,r.tm,r.mks,r.v,r.st⟩ r)
def z5j(b:Code):CdF:=fun _ _ ih ro T mk S=>bnd (ih (.code ro b T mk) S) fun r=>zu (za5 r.ex) (ih (.code ro (.loop b) r.tm r.mks) r.st) (some r)
mutual
def zs0:AV→AV→Bool
 |.bool a,.bool b=>bEq a b
 |.int k x,.int k' y=>kEq k k'&&decide (x=y)
 |.str s,.str s'=>s.data.toList == s'.data.toList
 |.nilp,.nilp=>true
 |.ptr a b,.ptr a' b'=>Nat.beq a a'&&Nat.beq b b'
 |.nils,.nils=>true
 |.sl a b c d,.sl a' b' c' d'=>Nat.beq a a'&&Nat.beq b b'&&Nat.beq c c'&&Nat.beq d d'
 |.slo a b c d,.slo a' b' c' d'=>Nat.beq a a'&&Nat.beq b b'&&Nat.beq c c'&&Nat.beq d d'
 |.nilm,.nilm=>true
 |.map a,.map a'=>Nat.beq a a'
 |.fn f a b,.fn f' a' b'=>Nat.beq f f'&&zhj a a'&&zhj b b'
 |.yield a,.yield a'=>Nat.beq a a'
 |.nilf,.nilf=>true
 |.agg l,.agg l'=>zhj l l'
 |.tup l,.tup l'=>zhj l l'
 |_,_=>false
def zhj:List AV→List AV→Bool
 |[],[]=>true
 |a::l,a'::l'=>zs0 a a'&&zhj l l'
 |_,_=>false
end
def zuk(x y:Option AV):Bool:=match x with
 |none=>true
 |some v=>match y with
  |some v'=>zs0 v v'
  |none=>false
def zi7:Tr AV→Tr AV→Bool
 |.leaf,_=>true
 |.node l x r,B=>zuk x (Tr.get B 0)&&zi7 l B.lf&&zi7 r B.rt
def zz6:List Ent→List Ent→Bool
 |[],[]=>true
 |e::l,e'::l'=>zs0 e.1 e'.1&&zs0 e.2.1 e'.2.1&&Nat.beq e.2.2 e'.2.2&&zz6 l l'
 |_,_=>false
def zic:List Nat→List Nat→Bool
 |[],[]=>true
 |a::l,a'::l'=>Nat.beq a a'&&zic l l'
 |_,_=>false
def zf2(a:Nat):List Nat→Bool
 |[]=>true
 |b::l=>!Nat.beq a b&&zf2 a l
def zld:List Nat→Bool
 |[]=>true
 |a::l=>zf2 a l&&zld l
def zgu:Code→Nat
 | .region _ ops _=>ops.toList.foldl (fun s o=>match o.dst with
  |some d=>Nat.lor s (zaa d)
  |none=>s) 0
 |.seq a b=>Nat.lor (zgu a) (zgu b)
 |.cond _ a b=>Nat.lor (zgu a) (zgu b)
 |.block _ b=>zgu b
 |.loop b=>zgu b
 |.rangeFunc _ ps a b=>Nat.lor (ps.toList.foldl (fun s d=>Nat.lor s (zaa d)) 0) (Nat.lor (zgu a) (zgu b))
 |.scope b=>zgu b
 |_=>0
def zlz{α:Type}:(Nat→Bool)→Tr α→Tr α
 |_,.leaf=>.leaf
 |p,.node l x r=>.node (zlz (fun m=>p (2*m+1)) l) (if p 0 then x else none) (zlz (fun m=>p (2*m+2)) r)
def Tm.less(T:Tm)(mask:Nat):Tm:=⟨zlz (fun t=>!tb mask t) T.m,T.sz⟩
structure Rd where
 th:Bool
 t:Nat
 w:Nat
 nx:Nat
def zec(S:St)(n m:Nat)(es:List Ent)(ck i born:Nat):St:=⟨Tr.put 24 n (some (.itAt m ck born)) (Tr.put 24 m (some (.mapk es ck i true)) S.heap),S.next,0,0⟩
def set2(T0:Tm)(d1 d2:Nat)(v1 v2:AV):Option Tm:=T0.putK (some d1) v1 fun T=>T.putK (some d2) v2 fun T=>some T
def z8q(T0:Tm)(mk:List Nat)(S:St)(m:Nat)(r:Res):Bool:=za5 r.ex&&zic r.mks mk&&zi7 T0.m r.tm.m&&Nat.beq r.tm.sz T0.sz&&(fun w=>Nat.beq w 0||Nat.beq w (zaa m)) (Nat.land r.st.w (Nat.sub (zaa S.next) 1))&&Nat.blt r.st.w (zaa r.st.next)
def zq8(ih:Ih)(ro:Option Nat)(rest:Code)(T0:Tm)(d1 d2:Nat)(mk:List Nat)(S:St)(n m:Nat)(es:List Ent)(ck i:Nat)(e:Ent):Option Rd :=
 bnd (set2 T0 d1 d2 (.tup [.bool true,e.1,e.2.1]) (.bool true)) fun T1=>bnd (ih (.code ro rest T1 mk) (zec S n m es ck i e.2.2)) fun r =>
 zu (z8q T0 mk S m r) (bnd (r.st.get m) fun o=>bnd (z3f o) fun z=>zu (Nat.beq z.i i&&Nat.beq z.ck ck&&zz6 z.es es) (some ⟨z.th,r.st.t,r.st.w,r.st.next⟩) none) none
def zkg(f:Nat→Ent→Option Rd):List Ent→Nat→Option (List Rd)
 |[],_=>some []
 |e::l,i=>bnd (f i e) fun q=>bnd (zkg f l (i+1)) fun r=>some (q::r)
def zgv:List Ent→List Rd→List Ent
 |e::l,q::r=>if q.th then e::zgv l r else zgv l r
 |_,_=>[]
def orT:List Rd→Nat
 |[]=>0
 |q::l=>Nat.lor q.t (orT l)
def orW:List Rd→Nat
 |[]=>0
 |q::l=>Nat.lor q.w (orW l)
def zew(n:Nat):List Rd→Nat
 |[]=>n
 |q::l=>Nat.max q.nx (zew n l)
def z5k{β:Type}(S:St)(n m:Nat)(es:List Ent)(ck:Nat)(qs:List Rd)(k:St→β):β :=
 fcN (Nat.lor (Nat.lor S.t (orT qs)) (Nat.lor (zaa n) (zaa m))) fun t=>fcN (Nat.lor (Nat.lor S.w (orW qs)) (Nat.lor (zaa n) (zaa m))) fun w=>fcN (zew S.next qs) fun nx =>
  k ⟨Tr.put 24 m (some (.map (zgv es qs) ck)) (Tr.put 24 n none S.heap),nx,t,w⟩
def z8r(ih:Ih)(ro:Option Nat)(rest:Code)(T0:Tm)(d1 d2:Nat)(mk:List Nat)(S:St)(n m:Nat)(es:List Ent)(ck:Nat):Option Res :=
 bnd (zkg (zq8 ih ro rest T0 d1 d2 mk S n m es ck) es 0) fun qs=>z5k S n m es ck qs fun S =>
  bnd (set2 T0 d1 d2 (.tup [.bool false]) (.bool false)) fun T1=>bnd (ih (.code ro rest T1 mk) S) fun r=>zu (za5 r.ex) none (some r)
def zn2(ops:List Oper):Option (Nat×Nat×Nat):=match ops with
 |[⟨some d1,.next (.tmp it) false,_,_,_,none⟩,⟨some d2,.extract (.tmp d) 0,_,_,_,none⟩]=>if Nat.beq d d1 && !Nat.beq d1 d2 then some (it,d1,d2)else none
 |_=>none
def zahr (ih:Ih) (ro:Option Nat) (rest:Code) (T0:Tm) (mk:List Nat) (S:St) (it d1 d2:Nat):Option Res:=bnd (T0.get it) fun v=>bnd (zm2 v) fun p=>zu (Nat.beq p.2 0) (bnd (S.get p.1) fun o=>bnd (itO o) fun q=>zu (isNil q.2.2)
   (bnd (S.get q.1) fun o=>bnd (zkq o) fun ec=>zu (Nat.beq ec.2 q.2.1&&ec.1.all (fun e=>Nat.blt e.2.2 ec.2)&&zld (ec.1.map (·.2.2))) (z8r ih ro rest T0 d1 d2 mk S p.1 q.1 ec.1 ec.2) none) none) none
def zul(b:Code):CdF:=fun _ _ ih ro T mk S=>match b with
 |.seq (.region _ ops false) rest=>bnd (zn2 ops.toList) fun h=>zahr ih ro rest (T.less (Nat.lor (zgu rest) (Nat.lor (zaa h.2.1) (zaa h.2.2)))) mk S h.1 h.2.1 h.2.2
 |_=>none
def eqAO(a b:AO):Bool:=match a,b with
 |.cells l,.cells l'=>zhj l l'
 |.map es c,.map es' c'=>zz6 es es'&&Nat.beq c c'
 |.row l,.row l'=>zhj l l'
 |_,_=>false
def zum(x y:Option AO):Bool:=match x with
 |none=>true
 |some v=>match y with
  |some v'=>eqAO v v'
  |none=>false
def zi8:Tr AO→Tr AO→Bool
 |.leaf,_=>true
 |.node l x r,B=>zum x (Tr.get B 0)&&zi8 l B.lf&&zi8 r B.rt
def eqEx (a b:Ex):Bool:=match a,b with
 |.normal,.normal=>true
 |.ret,.ret=>true
 |.exit i,.exit j=>Nat.beq i j
 |.goto i,.goto j=>Nat.beq i j
 |_,_=>false
def z3j(r r':Res):Bool:=eqEx r.ex r'.ex&&zic r.mks r'.mks&&zi7 r.tm.m r'.tm.m&&Nat.beq r.tm.sz r'.tm.sz&&zi8 r.st.heap r'.st.heap&&Nat.beq r.st.next r'.st.next&&Nat.beq r.st.t r'.st.t&&Nat.beq r.st.w r'.st.w
def zx6(nx:Nat)(r:Res):Res:=⟨r.ex,r.tm,r.mks,.undef,⟨zlz (fun x=>Nat.blt x nx) r.st.heap,r.st.next,r.st.t,r.st.w⟩⟩
def isAt(n m ck born:Nat)(S:St):Bool:=match S.get n with
 |some (.itAt m' ck' b')=>Nat.beq m' m&&Nat.beq ck' ck&&Nat.beq b' born
 |_=>false
def isMap(m:Nat)(es:List Ent)(ck:Nat)(S:St):Bool:=match S.get m with
 |some (.map es' ck')=>zz6 es' es&&Nat.beq ck' ck
 |_=>false
def zkh(S:St)(n m ck born:Nat):St:=⟨Tr.put 24 n (some (.itAt m ck born)) S.heap,S.next,0,0⟩
def zfd(ih:Ih)(ro:Option Nat)(rest:Code)(T0:Tm)(d1 d2:Nat)(mk:List Nat)(n m:Nat)(es:List Ent)(ck:Nat)(S:St)(e:Ent):Option St :=
 bnd (set2 T0 d1 d2 (.tup [.bool true,e.1,e.2.1]) (.bool true)) fun T1=>bnd (ih (.code ro rest T1 mk) (zkh S n m ck e.2.2)) fun r =>
 zu (za5 r.ex&&zic r.mks mk&&zi7 T0.m r.tm.m&&Nat.beq r.tm.sz T0.sz && !tb r.st.w n&&isAt n m ck e.2.2 r.st&&isMap m es ck r.st) (some ⟨r.st.heap,r.st.next,Nat.lor (Nat.lor S.t r.st.t) (zaa n),Nat.lor (Nat.lor S.w r.st.w) (zaa n)⟩) none
def zid(f:Nat→Ent→Option Res)(sn:List Nat):List Ent→Nat→Option (List Res)
 |[],_=>some []
 |e::l,i=>if zf2 i sn then bnd (f i e) fun r=>bnd (zid f sn l (i+1)) fun rs=>some (r::rs)else zid f sn l (i+1)
def z5l:List Res→Option Res
 |[]=>none
 |r::l=>if l.all (z3j r)then some r else none
def zl0(ih:Ih)(ro:Option Nat)(rest:Code)(T0:Tm)(d1 d2:Nat)(mk:List Nat)(n m:Nat)(es:List Ent)(ck nx:Nat):Nat→List Nat→St→Option Res
 |0,_,S=>bnd (set2 T0 d1 d2 (.tup [.bool false]) (.bool false)) fun T1=>bnd (ih (.code ro rest T1 mk) S) fun r=>zu (za5 r.ex) none (some (zx6 nx r))
 |k+1,sn,S=>bnd (zid (fun i e=>bnd (zfd ih ro rest T0 d1 d2 mk n m es ck S e) fun S'=>zl0 ih ro rest T0 d1 d2 mk n m es ck nx k (i::sn) S') sn es 0) z5l
def z1f (ih:Ih) (ro:Option Nat) (rest:Code) (T0:Tm) (mk:List Nat) (S:St) (it d1 d2:Nat):Option Res:=bnd (T0.get it) fun v=>bnd (zm2 v) fun p=>zu (Nat.beq p.2 0) (bnd (S.get p.1) fun o=>bnd (itO o) fun q=>zu (isNil q.2.2)
   (bnd (S.get q.1) fun o=>bnd (zkq o) fun ec=>zu (Nat.beq ec.2 q.2.1&&ec.1.all (fun e=>Nat.blt e.2.2 ec.2)&&zld (ec.1.map (·.2.2))&&Nat.ble ec.1.length 3) (bnd (zl0 ih ro rest T0 d1 d2 mk p.1 q.1 ec.1 ec.2 S.next ec.1.length [] S) fun r=>zu (tb r.st.t p.1&&tb r.st.t q.1) (some r) none) none) none) none
def zq9(b:Code):CdF:=fun _ _ ih ro T mk S=>match b with
 |.seq (.region _ ops false) rest=>bnd (zn2 ops.toList) fun h=>z1f ih ro rest (T.less (Nat.lor (zgu rest) (Nat.lor (zaa h.2.1) (zaa h.2.2)))) mk S h.1 h.2.1 h.2.2
 |_=>none
def zalp(b:Code):CdF:=fun E P ih ro T mk S=>@Option.rec Res (fun _=>Option Res) (@Option.rec Res (fun _=>Option Res) (z5j b E P ih ro T mk S) (fun r=>some r) (zq9 b E P ih ro T mk S)) (fun r=>some r) (zul b E P ih ro T mk S)
def zade(b:Code):CdF:=fun _ _ ih ro T mk S=>bnd (ih (.code ro b T mk) S) fun r=>zu (zair r.ex) (some r) none
def zz7(_:Nat)(ops:Array Oper)(draw:Bool):CdF:=fun E P ih _ T mk S=>bnd (zaf1 E P ih draw ops.toList T S) fun r=>some ⟨.normal,r.1,mk,.undef,r.2⟩
def z8s(f:Operand)(ps:Array Nat)(as bd:Code):CdF:=fun _ _ ih ro T mk S=>bnd (opd T f) fun f=>zaf2 ih ro f ps.toList as bd T mk S
def cNot:CdF:=fun _ _ _ _ _ _ _=>none
def codeF:Code→CdF:=@Code.rec (fun _=>CdF) (done .normal) zz7 (fun a b _ _=>cSeq a b) (fun c x y _ _=>zahq c x y) (fun id b _=>zadd id b) (fun b _=>zalp b) (fun f ps as bd _ _=>z8s f ps as bd) (fun id=>done (.exit id)) (fun b _=>zade b)
 (fun _=>done .normal) (fun l=>done (.goto l)) (done .ret) (fun _=>cNot)
def zalq(E:Env)(P:Program)(ih:Ih)(t:Task)(S:St):Option Res:=@Task.rec (fun _=>Option Res) (fun f args=>@Option.rec Res (fun _=>Option Res) (z5h E ih f args S) (fun r=>some r) (tabE E.tab f args S)) (fun ro c T mk=>codeF c E P ih ro T mk S) (fun l args=>z8p ih l args S) t
def zl1(E:Env)(P:Program)(n:Nat):Task→St→Option Res:=@Nat.rec (fun _=>Task→St→Option Res) (fun _ _=>none) (fun _ ih=>zalq E P ih) n
def st0:St:=⟨.leaf,0,0,0⟩
theorem zb{α β:Type}{x:Option α}{k:α→Option β}{r:β}(h:bnd x k=some r):∃a,x=some a∧k a=some r:=by
 cases x with
 |none=>cases h
 |some a=>exact⟨a,rfl,h⟩
theorem zi{β:Type}{c:Bool}{x:Option β}{r:β}(h:zu c x none=some r):c=true∧x=some r:=by
 cases c with
 |false=>cases h
 |true=>exact⟨rfl,h⟩
theorem zar{β:Type}(c:Bool)(x y:β):zu c x y=if c=true then x else y:=by cases c<;>rfl
theorem zba{β:Type}(n:Nat)(k:Nat→β):fcN n k=k n:=by cases n<;>rfl
theorem zadf{β:Type}(n:Int)(k:Int→β):fcI n k=k n:=by
 cases n with
 |ofNat a=>exact zba a fun a=>k (.ofNat a)
 |negSucc a=>exact zba a fun a=>k (.negSucc a)
theorem Tr.putB_eq{α β:Type}(x:Option α):∀(b:Bin) (t:Tr α) (k:Tr α→β),Tr.putB x b t k=k (Tr.putB x b t fun t=>t)
 |.z,t,k=>by cases t<;>rfl
 |.o p,t,k=>by
  cases t with
  |leaf=>exact(Tr.putB_eq x p .leaf _).trans (congrArg k (Tr.putB_eq x p Tr.leaf fun l=>Tr.node l none .leaf).symm)
  |node l v r=>exact(Tr.putB_eq x p l _).trans (congrArg k (Tr.putB_eq x p l fun l=>Tr.node l v r).symm)
 |.i p,t,k=>by
  cases t with
  |leaf=>exact(Tr.putB_eq x p .leaf _).trans (congrArg k (Tr.putB_eq x p Tr.leaf fun r=>Tr.node .leaf none r).symm)
  |node l v r=>exact(Tr.putB_eq x p r _).trans (congrArg k (Tr.putB_eq x p r fun r=>Tr.node l v r).symm)
theorem Tr.putK_eq{α β:Type}(f n:Nat)(x:Option α)(t:Tr α)(k:Tr α→β):Tr.putK f n x t k=k (Tr.put f n x t):=Tr.putB_eq x (zfs n) t k
theorem zvh:∀(n f:Nat),n≤f→zkp f n=zkp n n:=by
 intro n
 induction n using Nat.strongRecOn with
 |_ n ih =>
  intro f h;cases n with
  |zero=>cases f<;>rfl
  |succ m =>
   have e:∀g,m / 2≤g→zkp (g+1) (m+1)=@Nat.rec (fun _=>Bin) (.o (zkp (m / 2) (m / 2))) (fun _ _=>.i (zkp (m / 2) (m / 2))) (m%2):=fun g hg=>by
    show @Nat.rec (fun _=>Bin) (.o (zkp g (m / 2))) (fun _ _=>.i (zkp g (m / 2))) (m%2)=_;rw[ih (m / 2) (by omega) g hg]
   cases f with
   |zero=>omega
   |succ f=>rw[e f (by omega),e m (by omega)]
theorem z5m{m:Nat}(h:m%2=0):zfs (m+1)=.o (zfs (m / 2)):=by
 show @Nat.rec (fun _=>Bin) (.o (zkp m (m / 2))) (fun _ _=>.i (zkp m (m / 2))) (m%2)=_;rw[h,zvh (m / 2) m (by omega)];rfl
theorem z8t{m:Nat}(h:m%2=1):zfs (m+1)=.i (zfs (m / 2)):=by
 show @Nat.rec (fun _=>Bin) (.o (zkp m (m / 2))) (fun _ _=>.i (zkp m (m / 2))) (m%2)=_;rw[h,zvh (m / 2) m (by omega)];rfl
def zz8:Bin→Nat
 |.z=>0
 |.o p=>2*zz8 p+1
 |.i p=>2*zz8 p+2
theorem z8u(n:Nat):zz8 (zfs n)=n:=by
 induction n using Nat.strongRecOn with
 |_ n ih =>
  cases n with
  |zero=>rfl
  |succ m =>
   rcases wey m with h|h
   ·rw[z5m h];show 2*zz8 (zfs (m / 2))+1=m+1;rw[ih (m / 2) (by omega)];omega
   ·rw[z8t h];show 2*zz8 (zfs (m / 2))+2=m+1;rw[ih (m / 2) (by omega)];omega
theorem Tr.get_leaf{α:Type}(n:Nat):Tr.get (.leaf:Tr α) n=none:=rfl
theorem Tr.get_zero{α:Type}(t:Tr α):Tr.get t 0=t.vl:=by cases t<;>rfl
theorem Tr.get_even{α:Type}(t:Tr α)(m:Nat)(h:m%2=0):Tr.get t (m+1)=Tr.get t.lf (m / 2):=by
 unfold Tr.get;rw[z5m h];cases t<;>rfl
theorem Tr.get_odd{α:Type}(t:Tr α)(m:Nat)(h:m%2=1):Tr.get t (m+1)=Tr.get t.rt (m / 2):=by
 unfold Tr.get;rw[z8t h];cases t<;>rfl
theorem Tr.getB_same{α:Type}(x:Option α):∀(b:Bin) (t:Tr α),Tr.getB (Tr.putB x b t fun t=>t) b=x
 |.z,t=>by cases t<;>rfl
 |.o p,t=>by
  cases t with
  |leaf=>rw[show(Tr.putB x (.o p) .leaf fun t=>t)=(Tr.putB x p .leaf fun l=>Tr.node l none .leaf)from rfl,Tr.putB_eq x p .leaf fun l=>Tr.node l none .leaf];exact Tr.getB_same x p .leaf
  |node l v r=>rw[show(Tr.putB x (.o p) (.node l v r) fun t=>t)=(Tr.putB x p l fun l=>Tr.node l v r)from rfl,Tr.putB_eq x p l fun l=>Tr.node l v r];exact Tr.getB_same x p l
 |.i p,t=>by
  cases t with
  |leaf=>rw[show(Tr.putB x (.i p) .leaf fun t=>t)=(Tr.putB x p .leaf fun l=>Tr.node .leaf none l)from rfl,Tr.putB_eq x p .leaf fun l=>Tr.node .leaf none l];exact Tr.getB_same x p .leaf
  |node l v r=>rw[show(Tr.putB x (.i p) (.node l v r) fun t=>t)=(Tr.putB x p r fun r=>Tr.node l v r)from rfl,Tr.putB_eq x p r fun r=>Tr.node l v r];exact Tr.getB_same x p r
theorem Tr.getB_other{α:Type}(x:Option α):∀(b c:Bin) (t:Tr α),c≠b→Tr.getB (Tr.putB x b t fun t=>t) c=Tr.getB t c
 |.z,c,t,h=>by cases c<;>cases t<;>first|rfl|exact absurd rfl h
 |.o p,c,t,h=>by
  cases t with
  |leaf =>
   rw[show(Tr.putB x (.o p) .leaf fun t=>t)=(Tr.putB x p .leaf fun l=>Tr.node l none .leaf)from rfl,Tr.putB_eq x p .leaf fun l=>Tr.node l none .leaf];cases c with
   |o q=>exact Tr.getB_other x p q .leaf fun e=>h (by rw[e])
   |_=>rfl
  |node l v r =>
   rw[show(Tr.putB x (.o p) (.node l v r) fun t=>t)=(Tr.putB x p l fun l=>Tr.node l v r)from rfl,Tr.putB_eq x p l fun l=>Tr.node l v r];cases c with
   |o q=>exact Tr.getB_other x p q l fun e=>h (by rw[e])
   |_=>rfl
 |.i p,c,t,h=>by
  cases t with
  |leaf =>
   rw[show(Tr.putB x (.i p) .leaf fun t=>t)=(Tr.putB x p .leaf fun l=>Tr.node .leaf none l)from rfl,Tr.putB_eq x p .leaf fun l=>Tr.node .leaf none l];cases c with
   |i q=>exact Tr.getB_other x p q .leaf fun e=>h (by rw[e])
   |_=>rfl
  |node l v r =>
   rw[show(Tr.putB x (.i p) (.node l v r) fun t=>t)=(Tr.putB x p r fun r=>Tr.node l v r)from rfl,Tr.putB_eq x p r fun r=>Tr.node l v r];cases c with
   |i q=>exact Tr.getB_other x p q r fun e=>h (by rw[e])
   |_=>rfl
theorem zais{a b:Nat}(h:zfs a=zfs b):a=b:=by have:=congrArg zz8 h;rwa [z8u,z8u]at this
theorem Tr.get_putE{α:Type}(f n:Nat)(x:Option α)(t:Tr α)(k:Nat):Tr.get (Tr.put f n x t) k=if k=n then x else Tr.get t k:=by
 show Tr.getB (Tr.putB x (zfs n) t fun t=>t) (zfs k)=_
 by_cases h:k=n
 ·rw[if_pos h,h];exact Tr.getB_same x _ t
 ·rw[if_neg h];exact Tr.getB_other x _ _ t fun e=>h (zais e)
theorem Tr.get_put{α:Type}(f n:Nat)(x:Option α)(t:Tr α)(k:Nat)(v:α)(h:Tr.get (Tr.put f n x t) k=some v):(k=n∧x=some v)∨(k≠n∧Tr.get t k=some v):=by
 rw[Tr.get_putE]at h
 split at h
 ·rename_i e;exact .inl ⟨e,h⟩
 ·rename_i e;exact .inr ⟨e,h⟩
theorem Tr.get_ofList{α:Type}:∀(l:List α) (i:Nat) (t:Tr α) (k:Nat) (v:α),Tr.get (Tr.ofList l i t) k=some v→(i≤k∧l[k-i]?=some v)∨Tr.get t k=some v
 |[],_,_,_,_,h=>.inr h
 |x::l,i,t,k,v,h=>by
  have h':Tr.get (Tr.ofList l (i+1) (Tr.put 24 i (some x) t)) k=some v:=h
  rcases Tr.get_ofList l (i+1) _ k v h' with⟨h1,h2⟩|h1
  ·refine .inl ⟨by omega,?_⟩
   have e:k-i=(k-(i+1))+1:=by omega
   rw[e];simpa using h2
  ·rcases Tr.get_put 24 i (some x) t k v h1 with⟨rfl,h2⟩|⟨_,h2⟩
   ·exact .inl ⟨weq _,by simpa using h2⟩
   ·exact .inr h2
def bit(m n:Nat):Prop:=m.testBit n=true
theorem zz{n k:Nat}:bit (zaa n) k↔k=n:=by
 unfold bit zaa;rw[show Nat.shiftLeft 1 n=2^n by show 1<<<n=_;rw[we2],wfa];simp[eq_comm]
theorem zj{a b k:Nat}:bit (Nat.lor a b) k↔bit a k∨bit b k:=by
 unfold bit;rw[show Nat.lor a b=a ||| b from rfl,Nat.testBit_or,wa6]
def St.touched(S:St)(n:Nat):St:=⟨S.heap,S.next,Nat.lor S.t (zaa n),S.w⟩
def St.alloced(S:St)(o:AO):St:=⟨Tr.put 24 S.next (some o) S.heap,S.next+1,Nat.lor S.t (zaa S.next),Nat.lor S.w (zaa S.next)⟩
def St.setted(S:St)(n:Nat)(o:Option AO):St:=⟨Tr.put 24 n o S.heap,S.next,Nat.lor S.t (zaa n),Nat.lor S.w (zaa n)⟩
theorem St.touch_eq{β:Type}(S:St)(n:Nat)(k:St→β):S.touch n k=k (S.touched n):=by
 cases S;unfold St.touch St.touched;simp only[zba]
theorem St.alloc_eq{β:Type}(S:St)(o:AO)(k:Nat→St→β):S.alloc o k=k S.next (S.alloced o):=by
 cases S;unfold St.alloc St.alloced;simp only[zba,Tr.putK_eq]
theorem St.set_eq{β:Type}(S:St)(n:Nat)(o:Option AO)(k:St→β):S.set n o k=k (S.setted n o):=by
 cases S;unfold St.set St.setted;simp only[zba,Tr.putK_eq]
theorem St.get_eq(S:St)(n:Nat):S.get n=Tr.get S.heap n:=by cases S;rfl
theorem St.get_touched(S:St)(n m:Nat):(S.touched n).get m=S.get m:=by rw[St.get_eq,St.get_eq];rfl
theorem St.get_alloced{S:St}{o:AO}{m:Nat}{x:AO}(h:(S.alloced o).get m=some x):(m=S.next∧x=o)∨(m≠S.next∧S.get m=some x):=by
 rw[St.get_eq]at h ⊢;have h':Tr.get (Tr.put 24 S.next (some o) S.heap) m=some x:=h
 rcases Tr.get_put _ _ _ _ _ _ h' with⟨h1,h2⟩|h1
 ·exact .inl ⟨h1,(wfo h2).symm⟩
 ·exact .inr h1
theorem St.get_setted{S:St}{n:Nat}{o:Option AO}{m:Nat}{x:AO}(h:(S.setted n o).get m=some x):(m=n∧o=some x)∨(m≠n∧S.get m=some x):=by
 rw[St.get_eq]at h ⊢;have h':Tr.get (Tr.put 24 n o S.heap) m=some x:=h;exact Tr.get_put _ _ _ _ _ _ h'
structure Lcl(S S':St):Prop where
 next:S.next≤S'.next
 t:∀n,bit S.t n→bit S'.t n
 w:∀n,bit S.w n→bit S'.w n
 live:∀n o,(n<S.next∨S'.next≤n)→S'.get n=some o→∃o',S.get n=some o'
 new:∀n,S.next≤n→n<S'.next→bit S'.w n∧bit S'.t n
 keep:∀n o,¬bit S'.w n→S'.get n=some o→S.get n=some o
 wt:(∀n,bit S.w n→bit S.t n)→∀n,bit S'.w n→bit S'.t n
theorem Lcl.refl(S:St):Lcl S S:=⟨weq _,fun _ h=>h,fun _ h=>h,fun _ o _ h=>⟨o,h⟩,fun _ h1 h2=>absurd h1 (by omega),fun _ _ _ h=>h,fun h=>h⟩
theorem Lcl.trans{A B C:St}(h:Lcl A B)(k:Lcl B C):Lcl A C where
 next:=wer h.next k.next
 t n hn:=k.t n (h.t n hn)
 w n hn:=k.w n (h.w n hn)
 live n o hn ho:=by
  have h1:=h.next;have h2:=k.next;obtain⟨o',ho'⟩:=k.live n o (by omega) ho;exact h.live n o' (by omega) ho'
 new n h1 h2:=by
  rcases weu n B.next with hb|hb
  ·have:=h.new n h1 hb;exact⟨k.w n this.1,k.t n this.2⟩
  ·exact k.new n hb h2
 keep n o hn ho:=h.keep n o (fun hb=>hn (k.w n hb)) (k.keep n o hn ho)
 wt h0:=k.wt (h.wt h0)
theorem zay(S:St)(n:Nat):Lcl S (S.touched n) where
 next:=weq _
 t k hk:=zj.2 (.inl hk)
 w _ hk:=hk
 live k o _ h:=⟨o,by rw[St.get_touched]at h;exact h⟩
 new k h1 h2:=absurd h1 (by have:(S.touched n).next=S.next:=rfl;omega)
 keep k o _ h:=by rw[St.get_touched]at h;exact h
 wt h0 k hk:=zj.2 (.inl (h0 k hk))
theorem zb6(S:St)(o:AO):Lcl S (S.alloced o) where
 next:=Nat.le_succ _
 t k hk:=zj.2 (.inl hk)
 w k hk:=zj.2 (.inl hk)
 live k x hk h:=by
  have e:(S.alloced o).next=S.next+1:=rfl
  rcases St.get_alloced h with⟨rfl,_⟩|⟨_,h⟩
  ·omega
  ·exact⟨x,h⟩
 new k h1 h2:=by
  have:(S.alloced o).next=S.next+1:=rfl;have e:k=S.next:=by omega
  exact⟨zj.2 (.inr (zz.2 e)),zj.2 (.inr (zz.2 e))⟩
 keep k x hk h:=by
  rcases St.get_alloced h with⟨rfl,_⟩|⟨_,h⟩
  ·exact absurd (zj.2 (.inr (zz.2 rfl))) hk
  ·exact h
 wt h0 k hk:=by
  rcases zj.1 hk with h|h
  ·exact zj.2 (.inl (h0 k h))
  ·exact zj.2 (.inr h)
theorem zav(S:St)(n:Nat)(o:Option AO)(hl:∃o',S.get n=some o'):Lcl S (S.setted n o) where
 next:=weq _
 t k hk:=zj.2 (.inl hk)
 w k hk:=zj.2 (.inl hk)
 live k x hk h:=by
  rcases St.get_setted h with⟨rfl,_⟩|⟨_,h⟩
  ·exact hl
  ·exact⟨x,h⟩
 new k h1 h2:=absurd h1 (by have:(S.setted n o).next=S.next:=rfl;omega)
 keep k x hk h:=by
  rcases St.get_setted h with⟨rfl,_⟩|⟨_,h⟩
  ·exact absurd (zj.2 (.inr (zz.2 rfl))) hk
  ·exact h
 wt h0 k hk:=by
  rcases zj.1 hk with h|h
  ·exact zj.2 (.inl (h0 k h))
  ·exact zj.2 (.inr h)
structure Loc where
 b:Nat
 s:Nat
 k:Nat
 g:Nat→Bool
abbrev Rho:=Nat→Option Loc
mutual
def RV(ρ:Rho):AV→Value→Prop
 |.bool b,V=>V=.bool b
 |.int k n,V=>V=.int k n
 |.str s,V=>V=.string s
 |.nilp,V=>V=.pointer none
 |.ptr n o,V=>∃L,ρ n=some L∧V=.pointer (some ⟨L.b,L.s+o,none⟩)
 |.nils,V=>V=.slice none 0 0
 |.sl n o len cap,V=>∃L o',ρ n=some L∧V=.slice (some ⟨L.b,o',none⟩) len cap∧len≤cap∧(cap=0∨o'=L.s+o)
 |.slo n o len sz,V=>∃L o' cap,ρ n=some L∧V=.slice (some ⟨L.b,o',none⟩) len cap∧len≤cap∧o+cap*sz=L.k∧(cap=0∨o'=L.s+o)
 |.nilm,V=>V=.map none
 |.map n,V=>∃L,ρ n=some L∧V=.map (some L.b)
 |.fn f a b,V=>∃as bs:Array Value,V=.func (.func f) as bs∧RVs ρ a as.toList∧RVs ρ b bs.toList
 |.yield l,V=>∃L,ρ l=some L∧V=.func (.yield L.b) #[] #[]
 |.nilf,V=>V=.nilFunc
 |.agg l,V=>∃vs:Array Value,V=.agg vs∧RVs ρ l vs.toList
 |.tup l,V=>∃vs:Array Value,V=.tuple vs∧RVs ρ l vs.toList
def RVs(ρ:Rho):List AV→List Value→Prop
 |[],vs=>vs=[]
 |a::l,vs=>∃V r,vs=V::r∧RV ρ a V∧RVs ρ l r
end
def Sub(ρ ρ':Rho):Prop:=∀m L,ρ m=some L→ρ' m=some L
theorem Sub.refl(ρ:Rho):Sub ρ ρ:=fun _ _ h=>h
theorem Sub.trans{a b c:Rho}(h:Sub a b)(k:Sub b c):Sub a c:=fun m L e=>k m L (h m L e)
mutual
theorem RV.mono{ρ ρ':Rho}(h:Sub ρ ρ'):∀(a:AV) (V:Value),RV ρ a V→RV ρ' a V
 |.bool _,_,e=>e
 |.int _ _,_,e=>e
 |.str _,_,e=>e
 |.nilp,_,e=>e
 |.ptr _ _,_,⟨L,e,r⟩=>⟨L,h _ _ e,r⟩
 |.nils,_,e=>e
 |.sl _ _ _ _,_,⟨L,o,e,r⟩=>⟨L,o,h _ _ e,r⟩
 |.slo _ _ _ _,_,⟨L,o,c,e,r⟩=>⟨L,o,c,h _ _ e,r⟩
 |.nilm,_,e=>e
 |.map _,_,⟨L,e,r⟩=>⟨L,h _ _ e,r⟩
 |.fn _ a b,_,⟨as,bs,e,ha,hb⟩=>⟨as,bs,e,RVs.mono h a _ ha,RVs.mono h b _ hb⟩
 |.yield _,_,⟨L,e,r⟩=>⟨L,h _ _ e,r⟩
 |.nilf,_,e=>e
 |.agg l,_,⟨vs,e,hl⟩=>⟨vs,e,RVs.mono h l _ hl⟩
 |.tup l,_,⟨vs,e,hl⟩=>⟨vs,e,RVs.mono h l _ hl⟩
theorem RVs.mono{ρ ρ':Rho}(h:Sub ρ ρ'):∀(l:List AV) (vs:List Value),RVs ρ l vs→RVs ρ' l vs
 |[],_,e=>e
 |a::l,_,⟨V,r,e,ha,hl⟩=>⟨V,r,e,RV.mono h a V ha,RVs.mono h l r hl⟩
end
theorem RVs.length{ρ:Rho}:∀{l:List AV} {vs:List Value},RVs ρ l vs→vs.length=l.length
 |[],_,h=>by rw[show _=[]from h];rfl
 |_::l,_,⟨V,r,e,_,hl⟩=>by rw[e];simp[RVs.length hl]
theorem RVs.at{ρ:Rho}:∀{l:List AV} {vs:List Value},RVs ρ l vs→∀{i:Nat} {a:AV},l[i]?=some a→∃V,vs[i]?=some V∧RV ρ a V
 |[],_,_,_,_,h=>by simp at h
 |x::l,_,⟨V,r,e,hx,hl⟩,0,a,h=>by
  simp at h;subst h;exact⟨V,by rw[e];rfl,hx⟩
 |x::l,_,⟨V,r,e,hx,hl⟩,i+1,a,h=>by
  obtain⟨V',h1,h2⟩:=RVs.at hl (i:=i) (a:=a) (by simpa using h);exact⟨V',by rw[e];simpa using h1,h2⟩
theorem RVs.of{ρ:Rho}:∀{l:List AV} {vs:List Value},vs.length=l.length→(∀(i:Nat) (a:AV),l[i]?=some a→∃V,vs[i]?=some V∧RV ρ a V)→RVs ρ l vs
 |[],vs,h,_=>wc6.1 (by simpa using h)
 |a::l,[],h,_=>by simp at h
 |a::l,V::r,h,hh=>by
  refine⟨V,r,rfl,?_,RVs.of (by simpa using h) fun i b hb=>?_⟩
  ·obtain⟨V',h1,h2⟩:=hh 0 a rfl
   simp at h1;subst h1;exact h2
  ·have:=hh (i+1) b (by simpa using hb)
   simpa using this
theorem RVs.append{ρ:Rho}:∀{a b:List AV} {u v:List Value},RVs ρ a u→RVs ρ b v→RVs ρ (a++b) (u++v)
 |[],_,_,_,h,k=>by rw[show _=[]from h];exact k
 |_::_,_,_,_,⟨V,r,e,h1,h2⟩,k=>by rw[e];exact⟨V,_,rfl,h1,RVs.append h2 k⟩
theorem RVs.take{ρ:Rho}{l:List AV}{vs:List Value}(h:RVs ρ l vs)(n:Nat):RVs ρ (l.take n) (vs.take n) :=
 RVs.of (by simp[h.length]) fun i a hi=>by
  rw[wct]at hi ⊢
  split at hi
  ·rename_i hlt;rw[if_pos hlt];exact h.at hi
  ·cases hi
theorem RVs.drop{ρ:Rho}{l:List AV}{vs:List Value}(h:RVs ρ l vs)(n:Nat):RVs ρ (l.drop n) (vs.drop n) :=
 RVs.of (by simp[h.length]) fun i a hi=>by
  rw[wcm]at hi ⊢;exact h.at hi
def REs(ρ:Rho):List Ent→List MapEntry→Prop
 |[],es=>es=[]
 |a::l,es=>∃e r,es=e::r∧RV ρ a.1 e.key∧RV ρ a.2.1 e.val∧e.born=a.2.2∧REs ρ l r
theorem REs.mono{ρ ρ':Rho}(h:Sub ρ ρ'):∀(l:List Ent) (es:List MapEntry),REs ρ l es→REs ρ' l es
 |[],_,e=>e
 |_::l,_,⟨e,r,he,h1,h2,h3,h4⟩=>⟨e,r,he,RV.mono h _ _ h1,RV.mono h _ _ h2,h3,REs.mono h l r h4⟩
def RT(ρ:Rho)(m:Tr AV)(tmps:Array Value):Prop:=∀t v,Tr.get m t=some v→∃V,tmps[t]?=some V∧RV ρ v V
theorem RT.mono{ρ ρ':Rho}(h:Sub ρ ρ'){m:Tr AV}{tmps:Array Value}(k:RT ρ m tmps):RT ρ' m tmps:=fun t v e =>
 let ⟨V,h1,h2⟩:=k t v e;⟨V,h1,RV.mono h _ _ h2⟩
def RC(ρ:Rho)(l:List AV)(c:Array Value)(s:Nat):Prop:=∀(i:Nat) (a:AV),l[i]?=some a→∃V,c[s+i]?=some V∧RV ρ a V
def za0(g:Nat→Bool):Nat→List Ent→List Ent
 |_,[]=>[]
 |j,e::l=>if g j then e::za0 g (j+1) l else za0 g (j+1) l
def zk2(es:List Ent)(g:Nat→Bool)(i:Nat)(th:Bool):List Ent:=za0 g 0 (es.take i)++((if th then (es[i]?).toList else [])++za0 g (i+1) (es.drop (i+1)))
def zej(ρ:Rho)(L:Loc)(x:Option Obj):AO→Prop
 |.cells l=>∃c e,x=some (.cells c e (0,0))∧c.size=L.s+L.k∧l.length≤L.k∧RC ρ l c L.s
 |.map es ck=>∃ents,x=some (.map ents ck)∧REs ρ es ents.toList
 |.loop st pe tm sz ps as bd dn=>∃(D:Loc) (fn:Nat) (tmps:Array Value),ρ dn=some D∧tmps.size=sz∧RT ρ tm tmps ∧
   x=some (.loop { state:=st,pending:=pe,fn,tmps,params:=ps.toArray,assign:=as,body:=bd,defers:=D.b })
 |.dfr=>x=some (.deferred (some []))
 |.striter s p=>L.s=0∧x=some (.stringIter s p)
 |.it m ck seen=>L.s=0∧∃M:Loc,ρ m=some M∧x=some (.mapIter (some M.b) ck seen.toArray ck)
 |.itAt m ck born=>L.s=0∧∃(M:Loc) (seen:Array Nat),ρ m=some M∧x=some (.mapIter (some M.b) ck (seen.push born) ck)
 |.mapk es ck i th=>∃ents,x=some (.map ents ck)∧REs ρ (zk2 es L.g i th) ents.toList
 |.row l=>∃c e z,x=some (.cells c e z)∧c.size=L.s+L.k∧l.length≤L.k∧RC ρ l c L.s
theorem zej.mono{ρ ρ':Rho}(h:Sub ρ ρ'){L:Loc}{x:Option Obj}:∀{o:AO},zej ρ L x o→zej ρ' L x o
 |.cells _,⟨c,e,h1,h2,h3,h4⟩=>⟨c,e,h1,h2,h3,fun i a hi=>let ⟨V,k1,k2⟩:=h4 i a hi;⟨V,k1,RV.mono h _ _ k2⟩⟩
 |.map _ _,⟨es,h1,h2⟩=>⟨es,h1,REs.mono h _ _ h2⟩
 |.loop _ _ _ _ _ _ _ _,⟨D,fn,tmps,h1,h2,h3,h4⟩=>⟨D,fn,tmps,h _ _ h1,h2,h3.mono h,h4⟩
 |.dfr,e=>e
 |.striter _ _,e=>e
 |.it _ _ _,⟨h1,M,h2,h3⟩=>⟨h1,M,h _ _ h2,h3⟩
 |.itAt _ _ _,⟨h1,M,seen,h2,h3⟩=>⟨h1,M,seen,h _ _ h2,h3⟩
 |.mapk _ _ _ _,⟨es,h1,h2⟩=>⟨es,h1,REs.mono h _ _ h2⟩
 |.row _,⟨c,e,z,h1,h2,h3,h4⟩=>⟨c,e,z,h1,h2,h3,fun i a hi=>let ⟨V,k1,k2⟩:=h4 i a hi;⟨V,k1,RV.mono h _ _ k2⟩⟩
theorem zej.some{ρ:Rho}{L:Loc}{w:World}:∀{o:AO},zej ρ L w.heap[L.b]? o→L.b<w.heap.size:=by
 have key:∀{x:Obj},w.heap[L.b]?=Option.some x→L.b<w.heap.size:=fun h=>(wad.1 h).1
 intro o h;cases o with
 |cells l=>obtain⟨c,e,h1,_⟩:=h;exact key h1
 |map es ck=>obtain⟨es,h1,_⟩:=h;exact key h1
 |loop=>obtain⟨D,fn,tmps,_,_,_,h1⟩:=h;exact key h1
 |dfr=>exact key h
 |striter=>exact key h.2
 |it m ck seen=>obtain⟨_,M,_,h1⟩:=h;exact key h1
 |itAt m ck b=>obtain⟨_,M,seen,_,h1⟩:=h;exact key h1
 |mapk es ck i th=>obtain⟨es,h1,_⟩:=h;exact key h1
 |row l=>obtain⟨c,e,z,h1,_⟩:=h;exact key h1
structure Fit(ρ:Rho)(S:St)(T:Nat→Prop)(w:World):Prop where
 obj:∀n o,T n→S.get n=some o→∃L,ρ n=some L∧zej ρ L w.heap[L.b]? o
 inj:∀m n o o' L L',T m→T n→S.get m=some o→S.get n=some o'→ρ m=some L→ρ n=some L'→L.b=L'.b→m=n
structure zcc(w w':World):Prop where
 os:w'.os=w.os
 tape:w'.tape=w.tape
 output:w'.output=w.output
theorem zcc.refl(w:World):zcc w w:=⟨rfl,rfl,rfl⟩
theorem zcc.trans{a b c:World}(h:zcc a b)(k:zcc b c):zcc a c:=⟨k.os.trans h.os,k.tape.trans h.tape,k.output.trans h.output⟩
structure Stp(ρ:Rho)(S:St)(T:Nat→Prop)(w:World)(ρ':Rho)(S':St)(w':World):Prop where
 old:∀m,(m<S.next∨S'.next≤m)→ρ' m=ρ m
 fit:Fit ρ' S' T w'
 fresh:∀n o L,S.next≤n→n<S'.next→S'.get n=some o→ρ' n=some L→w.heap.size≤L.b∨∃m o' L',T m∧bit S'.w m∧S.get m=some o'∧ρ m=some L'∧L'.b=L.b
 frame:∀b,b<w.heap.size→(∀m o L,T m→bit S'.w m→S.get m=some o→ρ m=some L→L.b≠b)→w'.heap[b]?=w.heap[b]?
 size:w.heap.size≤w'.heap.size
 lcl:Lcl S S'
 rest:zcc w w'
def zch(ρ:Rho)(a b:Nat):Prop:=∀m,a≤m→m<b→ρ m=none
theorem Stp.sub{ρ ρ':Rho}{S S':St}{T:Nat→Prop}{w w':World}(h:Stp ρ S T w ρ' S' w')(hf:zch ρ S.next S'.next):Sub ρ ρ':=fun m L e=>by
 rcases weu m S.next with h1|h1
 ·rw[h.old m (.inl h1)];exact e
 ·rcases weu m S'.next with h2|h2
  ·rw[hf m h1 h2]at e;cases e
  ·rw[h.old m (.inr h2)];exact e
theorem Stp.free{ρ ρ':Rho}{S S' S'':St}{T:Nat→Prop}{w w':World}(h:Stp ρ S T w ρ' S' w')(hf:zch ρ S.next S''.next):zch ρ' S'.next S''.next:=fun m h1 h2=>by
 rw[h.old m (.inr h1)];exact hf m (wer h.lcl.next h1) h2
theorem Stp.refl{ρ:Rho}{S:St}{T:Nat→Prop}{w:World}(h:Fit ρ S T w):Stp ρ S T w ρ S w :=
 ⟨fun _ _=>rfl,h,fun _ _ _ h1 h2=>absurd h1 (by omega),fun _ _ _=>rfl,weq _,.refl S,.refl w⟩
theorem Fit.heap{ρ:Rho}{S:St}{T:Nat→Prop}{w w':World}(h:Fit ρ S T w)(e:w'.heap=w.heap):Fit ρ S T w' :=
 ⟨fun n o hn ho=>let ⟨L,h1,h2⟩:=h.obj n o hn ho;⟨L,h1,by rw[e];exact h2⟩,h.inj⟩
theorem Stp.heap{ρ ρ':Rho}{S S':St}{T:Nat→Prop}{w w' w'':World}(h:Stp ρ S T w ρ' S' w')(e:w''.heap=w'.heap)(hk:zcc w' w'':=by exact⟨rfl,rfl,rfl⟩):Stp ρ S T w ρ' S' w'' :=
 ⟨h.old,h.fit.heap e,h.fresh,fun b hb hm=>by rw[e];exact h.frame b hb hm,by rw[e];exact h.size,h.lcl,h.rest.trans hk⟩
theorem Stp.place{ρ ρ':Rho}{S S':St}{T:Nat→Prop}{w w':World}(h:Stp ρ S T w ρ' S' w'){m:Nat}{o:AO}{L:Loc}(hT:T m)(ho:S'.get m=some o)(hL:ρ' m=some L) :
  w.heap.size≤L.b∨∃m' o' L',T m'∧S.get m'=some o'∧ρ m'=some L'∧L'.b=L.b∧(m'=m∨bit S'.w m'):=by
 rcases Classical.em (S.next≤m∧m<S'.next)with⟨h1,h2⟩|hm
 ·rcases h.fresh m o L h1 h2 ho hL with hb|⟨m',o',L',q1,q2,q3,q4,q5⟩
  ·exact .inl hb
  ·exact .inr ⟨m',o',L',q1,q3,q4,q5,.inr q2⟩
 ·have hm':m<S.next∨S'.next≤m:=by omega
  obtain⟨o',ho'⟩:=h.lcl.live m o hm' ho;exact .inr ⟨m,o',L,hT,ho',by rw[←h.old m hm'];exact hL,rfl,.inl rfl⟩
theorem Stp.trans{ρ ρ₁ ρ₂:Rho}{S S₁ S₂:St}{T:Nat→Prop}{w w₁ w₂:World}(h:Stp ρ S T w ρ₁ S₁ w₁)(k:Stp ρ₁ S₁ T w₁ ρ₂ S₂ w₂):Stp ρ S T w ρ₂ S₂ w₂ where
 old m hm:=by
  have h1:=h.lcl.next;have h2:=k.lcl.next;rw[k.old m (by rcases hm with h|h;exact .inl (by omega);exact .inr h),h.old m (by rcases hm with h|h;exact .inl h;exact .inr (by omega))]
 fit:=k.fit
 fresh n o L h1 h2 ho hL:=by
  have hn1:=h.lcl.next;have hn2:=k.lcl.next
  rcases weu n S₁.next with hlt|hge
  ·obtain⟨o',ho'⟩:=k.lcl.live n o (.inl hlt) ho
   rcases h.fresh n o' L h1 hlt ho' (by rw[←k.old n (.inl hlt)];exact hL)with hb|⟨m,o',L',q1,q2,q3⟩
   ·exact .inl hb
   ·exact .inr ⟨m,o',L',q1,k.lcl.w _ q2,q3⟩
  ·rcases k.fresh n o L hge h2 ho hL with hb|⟨m,o',L',hT,hw,ho',hL',hb⟩
   ·exact .inl (wer h.size hb)
   ·rcases h.place hT ho' hL' with hc|⟨m',o'',L'',q1,q2,q3,q4,q5⟩
    ·exact .inl (by omega)
    ·exact .inr ⟨m',o'',L'',q1,by rcases q5 with rfl|q5;exact hw;exact k.lcl.w _ q5,q2,q3,by omega⟩
 frame b hb hm:=by
  rw[k.frame b (wet hb h.size) fun m o L hT hw ho hL=>?_,h.frame b hb fun m o L hT hw=>hm m o L hT (k.lcl.w _ hw)]
  rcases h.place hT ho hL with hc|⟨m',o'',L'',q1,q2,q3,q4,q5⟩
  ·omega
  ·have:=hm m' o'' L'' q1 (by rcases q5 with rfl|q5;exact hw;exact k.lcl.w _ q5) q2 q3;omega
 size:=wer h.size k.size
 lcl:=h.lcl.trans k.lcl
 rest:=h.rest.trans k.rest
def zhr(ρ:Rho)(n:Nat)(L:Loc):Rho:=fun m=>if m=n then some L else ρ m
theorem zbb(ρ:Rho)(n:Nat)(L:Loc):zhr ρ n L n=some L:=if_pos rfl
theorem zcd{ρ:Rho}{n m:Nat}(L:Loc)(h:m≠n):zhr ρ n L m=ρ m:=if_neg h
theorem zgw{ρ:Rho}{n:Nat}(L:Loc)(h:ρ n=none):Sub ρ (zhr ρ n L):=fun m L' e=>by
 by_cases hm:m=n
 ·subst hm;rw[h]at e;cases e
 ·rw[zcd L hm];exact e
section
variable{ρ:Rho}{S:St}{T:Nat→Prop}{w w':World}
theorem zbk(h:Fit ρ S T w)(n:Nat):Stp ρ S T w ρ (S.touched n) w where
 old _ _:=rfl
 fit:=⟨fun m o hT ho=>h.obj m o hT (by rw[St.get_touched]at ho;exact ho),fun a b o o' L L' hA hB ho ho'=>h.inj a b o o' L L' hA hB (by rw[St.get_touched]at ho;exact ho) (by rw[St.get_touched]at ho';exact ho')⟩
 fresh n' _ _ h1 h2:=absurd h1 (by have:(S.touched n).next=S.next:=rfl;omega)
 frame _ _ _:=rfl
 size:=weq _
 lcl:=zay S n
 rest:=.refl w
theorem zfe(h:Fit ρ S T w){o:AO}{obj:Obj}{k:Nat}(hf:ρ S.next=none)(hw:w'.heap=w.heap.push obj)
  (ho:zej (zhr ρ S.next ⟨w.heap.size,0,k,fun _=>true⟩) ⟨w.heap.size,0,k,fun _=>true⟩ (some obj) o) (hk:zcc w w':=by exact⟨rfl,rfl,rfl⟩):Stp ρ S T w (zhr ρ S.next ⟨w.heap.size,0,k,fun _=>true⟩) (S.alloced o) w':=by
 have hsz:w'.heap.size=w.heap.size+1:=by rw[hw];simp
 have hnew:w'.heap[w.heap.size]?=some obj:=by rw[hw];simp
 have hold:∀b,b<w.heap.size→w'.heap[b]?=w.heap[b]?:=fun b hb=>by rw[hw,Array.getElem?_push_lt hb,Array.getElem?_eq_getElem hb]
 have hn:(S.alloced o).next=S.next+1:=rfl;have hsub:=zgw (ρ:=ρ) (n:=S.next) ⟨w.heap.size,0,k,fun _=>true⟩ hf;have place:∀m x,T m→(S.alloced o).get m=some x→(m=S.next∧x=o)∨(m≠S.next∧S.get m=some x∧∃L,ρ m=some L∧L.b<w.heap.size∧zej ρ L w.heap[L.b]? x):=fun m x hTm hx=>by
  rcases St.get_alloced hx with h1|⟨h1,h2⟩
  ·exact .inl h1
  ·obtain⟨L,e1,e2⟩:=h.obj m x hTm h2
   exact .inr ⟨h1,h2,L,e1,e2.some,e2⟩
 refine⟨fun m hm=>zcd _ (by omega),⟨fun m x hTm hx=>?_,fun a b x y L L' hTa hTb hx hy hL hL' hb=>?_⟩,fun n x L h1 h2 _ hL=>?_,fun b hb _=>hold b hb,by omega,zb6 S o,hk⟩
 ·rcases place m x hTm hx with⟨rfl,rfl⟩|⟨h1,_,L,e1,e2,e3⟩
  ·exact⟨_,zbb _ _ _,by show zej _ _ w'.heap[w.heap.size]? _;rw[hnew];exact ho⟩
  ·exact⟨L,by rw[zcd _ h1];exact e1,by rw[hold _ e2];exact e3.mono hsub⟩
 ·rcases place a x hTa hx with⟨ha,_⟩|⟨ha,ga,La,ea,la,_⟩<;>rcases place b y hTb hy with⟨hb',_⟩|⟨hb',gb,Lb,eb,lb,_⟩
  ·rw[ha,hb']
  ·exfalso
   rw[ha,zbb]at hL;rw[zcd _ hb',eb]at hL';have e1:=wfo hL;have e2:=wfo hL';rw[←e1,←e2]at hb;have:w.heap.size=Lb.b:=hb;omega
  ·exfalso
   rw[hb',zbb]at hL';rw[zcd _ ha,ea]at hL;have e1:=wfo hL;have e2:=wfo hL';rw[←e1,←e2]at hb;have:La.b=w.heap.size:=hb;omega
  ·rw[zcd _ ha]at hL
   rw[zcd _ hb']at hL';exact h.inj a b x y L L' hTa hTb ga gb hL hL' hb
 ·have e:n=S.next:=by omega
  rw[e,zbb]at hL;have:=wfo hL;exact .inl (by rw[←this];exact weq _)
theorem zn3(h:Fit ρ S T w){n:Nat}{o o':AO}{L:Loc}(hT:T n)(ho:S.get n=some o)(hL:ρ n=some L)(hs:w'.heap.size=w.heap.size)(hw:∀b,b≠L.b→w'.heap[b]?=w.heap[b]?)
  (hx:zej ρ L w'.heap[L.b]? o') (hk:zcc w w':=by exact⟨rfl,rfl,rfl⟩):Stp ρ S T w ρ (S.setted n (some o')) w':=by
 have place:∀m x,T m→(S.setted n (some o')).get m=some x→(m=n∧x=o')∨(m≠n∧S.get m=some x):=fun m x _ hm=>by
  rcases St.get_setted hm with⟨h1,h2⟩|h1
  ·exact .inl ⟨h1,(wfo h2).symm⟩
  ·exact .inr h1
 have was:∀m x,T m→(S.setted n (some o')).get m=some x→∃y,S.get m=some y:=fun m x hm hg=>by
  rcases place m x hm hg with⟨rfl,_⟩|⟨_,h1⟩
  ·exact⟨o,ho⟩
  ·exact⟨x,h1⟩
 refine⟨fun _ _=>rfl,⟨fun m x hTm hm=>?_,fun a b x y La Lb hTa hTb ha hb hLa hLb hbb=>?_⟩,fun m x _ h1 h2=>absurd h1 (by have:(S.setted n (some o')).next=S.next:=rfl;omega),fun b hb hm=>?_,by omega,zav S n _ ⟨o,ho⟩,hk⟩
 ·rcases place m x hTm hm with⟨rfl,rfl⟩|⟨h1,h2⟩
  ·exact⟨L,hL,hx⟩
  ·obtain⟨L',e1,e2⟩:=h.obj m x hTm h2
   refine⟨L',e1,?_⟩;rw[hw _ fun e=>h1 (h.inj m n x o L' L hTm hT h2 ho e1 hL e)];exact e2
 ·obtain⟨x',hx'⟩:=was a x hTa ha
  obtain⟨y',hy'⟩:=was b y hTb hb;exact h.inj a b x' y' La Lb hTa hTb hx' hy' hLa hLb hbb
 ·exact hw b fun e=>hm n o L hT (zj.2 (.inr (zz.2 rfl))) ho hL e.symm
theorem zaf6(h:Fit ρ S T w){n:Nat}{o:AO}(ho:S.get n=some o):Stp ρ S T w ρ (S.setted n none) w:=by
 have place:∀m x,(S.setted n none).get m=some x→m≠n∧S.get m=some x:=fun m x hm=>by
  rcases St.get_setted hm with⟨_,h2⟩|h1
  ·cases h2
  ·exact h1
 exact ⟨fun _ _=>rfl,⟨fun m x hTm hm=>h.obj m x hTm (place m x hm).2,fun a b x y La Lb hTa hTb ha hb=>h.inj a b x y La Lb hTa hTb (place a x ha).2 (place b y hb).2⟩,
  fun m x _ h1 h2=>absurd h1 (by have:(S.setted n none).next=S.next:=rfl;omega),fun _ _ _=>rfl,weq _,zav S n _ ⟨o,ho⟩,.refl w⟩
theorem zaf7(h:Fit ρ S T w){n:Nat}{o o':AO}{L L':Loc}(hTn:T n)(ho:S.get n=some o)(hL:ρ n=some L)(hf:ρ S.next=none)(hb:L'.b=L.b)(hs:w'.heap.size=w.heap.size)
  (hw:∀b,b≠L.b→w'.heap[b]?=w.heap[b]?) (hx:zej (zhr ρ S.next L') L' w'.heap[L.b]? o') (hk:zcc w w':=by exact⟨rfl,rfl,rfl⟩):Stp ρ S T w (zhr ρ S.next L') ((S.setted n none).alloced o') w':=by
 have en:(S.setted n none).next=S.next:=rfl;have hsub:=zgw (ρ:=ρ) (n:=S.next) L' hf;have place:∀m x,((S.setted n none).alloced o').get m=some x→(m=S.next∧x=o')∨(m≠S.next∧m≠n∧S.get m=some x):=fun m x hm=>by
  rcases St.get_alloced hm with h1|⟨h1,h2⟩
  ·exact .inl h1
  ·rcases St.get_setted h2 with⟨_,h3⟩|⟨h3,h4⟩
   ·cases h3
   ·exact .inr ⟨h1,h3,h4⟩
 refine ⟨fun m hm=>zcd _ (by have:((S.setted n none).alloced o').next=S.next+1:=rfl;omega),⟨fun m x hTm hm=>?_,fun a b x y La Lb hTa hTb ha hb' hLa hLb hbb=>?_⟩,fun m x Lm h1 h2 hm hLm=>?_,fun b hb' hm=>hw b fun e=>hm n o L hTn (zj.2 (.inl (zj.2 (.inr (zz.2 rfl))))) ho hL e.symm,by omega,
  (zav S n none ⟨o,ho⟩).trans (zb6 _ o'),hk⟩
 ·rcases place m x hm with⟨rfl,rfl⟩|⟨h1,h2,h3⟩
  ·exact⟨L',zbb _ _ _,by rw[hb];exact hx⟩
  ·obtain⟨Lm,e1,e2⟩:=h.obj m x hTm h3
   refine⟨Lm,by rw[zcd _ h1];exact e1,?_⟩;rw[hw _ fun e=>h2 (h.inj m n x o Lm L hTm hTn h3 ho e1 hL e)];exact e2.mono hsub
 ·rcases place a x ha with⟨h1,_⟩|⟨h1,h2,h3⟩<;>rcases place b y hb' with⟨k1,_⟩|⟨k1,k2,k3⟩
  ·rw[h1,k1]
  ·exfalso
   rw[h1,zbb]at hLa;rw[zcd _ k1]at hLb;have e1:=wfo hLa;rw[←e1]at hbb;exact k2 (h.inj b n y o Lb L hTb hTn k3 ho hLb hL (by omega))
  ·exfalso
   rw[k1,zbb]at hLb;rw[zcd _ h1]at hLa;have e1:=wfo hLb;rw[←e1]at hbb;exact h2 (h.inj a n x o La L hTa hTn h3 ho hLa hL (by omega))
  ·rw[zcd _ h1]at hLa
   rw[zcd _ k1]at hLb;exact h.inj a b x y La Lb hTa hTb h3 k3 hLa hLb hbb
 ·have e:m=S.next:=by have:((S.setted n none).alloced o').next=S.next+1:=rfl;omega
  rw[e,zbb]at hLm;have:=wfo hLm;exact .inr ⟨n,o,L,hTn,zj.2 (.inl (zj.2 (.inr (zz.2 rfl)))),ho,hL,by rw[←this];omega⟩
end
theorem zcy{α:Type}:∀(l:List α) (n:Nat),nth l n=l[n]?
 |[],_=>rfl
 |_::_,0=>rfl
 |_::l,n+1=>by rw[show nth (_::l) (n+1)=nth l n from rfl,zcy l n];simp
theorem z1g{α:Type}:∀{l:List α} {n:Nat} {v:α} {r:List α},setN l n v=some r→n<l.length∧r=l.set n v
 |[],_,_,_,h=>by cases h
 |x::l,0,v,r,h=>by cases h;exact⟨by simp,rfl⟩
 |x::l,n+1,v,r,h=>by
  have h':bnd (setN l n v) (fun t'=>some (x::t'))=some r:=h;obtain⟨t',h1,h2⟩:=zb h';obtain⟨h3,h4⟩:=z1g h1;cases h2;exact⟨by simp;exact h3,by rw[h4];rfl⟩
theorem zl2{α:Type}{l:List α}{off len:Nat}{x:List α}(h:seg l off len=some x):x=(l.drop off).take len∧x.length=len∧(len=0∨off+len≤l.length):=by
 unfold seg at h;obtain⟨h1,h2⟩:=zi h;have h1:=wem h1;cases h2;refine⟨rfl,h1,?_⟩;simp only[wdd,wc5]at h1;omega
theorem zvi{α:Type}{l:List α}{off:Nat}{vs r:List α}(h:zxw l off vs=some r):off+vs.length≤l.length∧r=l.take off++(vs++l.drop (off+vs.length)):=by
 unfold zxw at h;obtain⟨h1,h2⟩:=zi h;cases h2;exact⟨wep h1,rfl⟩
theorem zs1{v:AV}{p:IntKind×Int}(h:zzv v=some p):v=.int p.1 p.2:=by
 cases v<;>cases h;rfl
theorem zek{v:AV}{p:Nat×Nat}(h:zm2 v=some p):v=.ptr p.1 p.2:=by
 cases v<;>cases h;rfl
theorem z5n{v:AV}{b:Bool}(h:zzw v=some b):v=.bool b:=by
 cases v<;>cases h;rfl
theorem zs2{v:AV}{l:List AV}(h:zzz v=some l):v=.agg l:=by
 cases v<;>cases h;rfl
theorem zadg{v:AV}{l:List AV}(h:tupA v=some l):v=.tup l:=by
 cases v<;>cases h;rfl
theorem zdg{o:AO}{l:List AV}(h:zf0 o=some l):o=.cells l:=by
 cases o<;>cases h;rfl
theorem zdl{o:AO}{p:List Ent×Nat}(h:zkq o=some p):o=.map p.1 p.2:=by
 cases o<;>cases h;rfl
theorem zel{v:AV}{n:Nat}(h:zi6 v=some n):∃k,v=.int k n:=by
 unfold zi6 at h;obtain⟨p,h1,h2⟩:=zb h;obtain⟨k,x⟩:=p;cases x with
 |ofNat a=>cases h2;exact⟨k,zs1 h1⟩
 |negSucc a=>cases h2
theorem zcm{α:Type}{x y:Option α}{r:α}(h:zlb x y=some r):x=some r∨y=some r:=by
 cases x with
 |none=>exact .inr h
 |some a=>exact .inl h
theorem zadh{α:Type}{x:Option α}(h:isNone x=true):x=none:=by
 cases x with
 |none=>rfl
 |some a=>cases h
theorem AV.cells_rv{ρ:Rho}{v:AV}{V:Value}(h:RV ρ v V):RVs ρ v.cells V.cells.toList:=by
 have one:∀{v:AV} {V:Value},v.cells=[v]→V.cells=#[V]→RV ρ v V→RVs ρ v.cells V.cells.toList:=fun {v V} e e' k=>by
  rw[e,e'];exact⟨V,[],rfl,k,rfl⟩
 cases v with
 |bool b=>have e:V=_:=h;subst e;exact one rfl rfl h
 |int k n=>have e:V=_:=h;subst e;exact one rfl rfl h
 |str s=>have e:V=_:=h;subst e;exact one rfl rfl h
 |nilp=>have e:V=_:=h;subst e;exact one rfl rfl h
 |ptr n o=>obtain⟨L,h1,e⟩:=h;subst e;exact one rfl rfl ⟨L,h1,rfl⟩
 |nils=>have e:V=_:=h;subst e;exact one rfl rfl h
 |sl n o l c=>obtain⟨L,o',h1,e,h2⟩:=h;subst e;exact one rfl rfl ⟨L,o',h1,rfl,h2⟩
 |slo n o l c=>obtain⟨L,o',cap,h1,e,h2⟩:=h;subst e;exact one rfl rfl ⟨L,o',cap,h1,rfl,h2⟩
 |nilm=>have e:V=_:=h;subst e;exact one rfl rfl h
 |map n=>obtain⟨L,h1,e⟩:=h;subst e;exact one rfl rfl ⟨L,h1,rfl⟩
 |fn f a b=>obtain⟨as,bs,e,h1,h2⟩:=h;subst e;exact one rfl rfl ⟨as,bs,rfl,h1,h2⟩
 |yield l=>obtain⟨L,h1,e⟩:=h;subst e;exact one rfl rfl ⟨L,h1,rfl⟩
 |nilf=>have e:V=_:=h;subst e;exact one rfl rfl h
 |agg l=>obtain⟨vs,e,h1⟩:=h;subst e;exact h1
 |tup l=>obtain⟨vs,e,h1⟩:=h;subst e;exact one rfl rfl ⟨vs,rfl,h1⟩
theorem zvj{ρ:Rho}{V:Value}{v:AV}(h:zqv V=some v):RV ρ v V:=by
 unfold zqv at h
 split at h<;>first|(cases h;rfl)|cases h
theorem zl3{ρ:Rho}:∀{vs:List Value} {l:List AV},zkc vs=some l→RVs ρ l vs
 |[],l,h=>by cases h;rfl
 |V::vs,l,h=>by
  unfold zkc at h;obtain⟨a,h1,h⟩:=zb h;obtain⟨r,h2,h⟩:=zb h;cases h;exact⟨V,vs,rfl,zvj h1,zl3 h2⟩
theorem zgx {ρ:Rho}{V:Value}{v:AV}(h:zqw V=some v):RV ρ v V:=by
 unfold zqw at h
 split at h
 ·obtain⟨l,h1,h⟩:=zb h;cases h;exact⟨_,rfl,zl3 h1⟩
 ·obtain⟨l,h1,h⟩:=zb h;cases h;exact⟨_,rfl,zl3 h1⟩
 ·exact zvj h
theorem z5o{ρ:Rho}{a:AV}{X V:Value}(h:zua a=some X)(r:RV ρ a V):V=X:=by
 unfold zua at h
 split at h<;>first|(cases h;exact r)|cases h
theorem zwl{ρ:Rho}:∀{l:List AV} {xs vs:List Value},zqy l=some xs→RVs ρ l vs→vs=xs
 |[],xs,vs,h,r=>by cases h;exact r
 |a::l,xs,vs,h,⟨V,t,e,r1,r2⟩=>by
  unfold zqy at h;obtain⟨x,h1,h⟩:=zb h;obtain⟨y,h2,h⟩:=zb h;cases h;rw[e,z5o h1 r1,zwl h2 r2]
theorem zhk{ρ:Rho}{a:AV}{X V:Value}(h:zia a=some X)(r:RV ρ a V):V=X:=by
 unfold zia at h
 split at h
 ·obtain⟨l,h1,h⟩:=zb h
  obtain⟨vs,e,h2⟩:=r;cases h;rw[e,←zwl h1 h2]
 ·obtain⟨l,h1,h⟩:=zb h
  obtain⟨vs,e,h2⟩:=r;cases h;rw[e,←zwl h1 h2]
 ·exact z5o h r
theorem zjr{α:Type}{P:Program}:∀{s:Sem α} {a:α},prun P s=some a→∀w,s.run P w=.ok a w
 |.pure _,_,h,_=>by cases h;rfl
 |.program k,a,h,w=>by
  have h':prun P (k P)=some a:=h;show(k P).run P w=_;exact zjr h' w
 |.mark _ k,a,h,w=>by
  have h':prun P k=some a:=h;show k.run P w=_;exact zjr h' w
 |.load _ _ _,_,h,_=>by cases h
 |.store _ _ _ _,_,h,_=>by cases h
 |.new _ _,_,h,_=>by cases h
 |.shape _ _,_,h,_=>by cases h
 |.freeze _ _ _,_,h,_=>by cases h
 |.frozen _ _,_,h,_=>by cases h
 |.getObj _ _,_,h,_=>by cases h
 |.setObj _ _ _,_,h,_=>by cases h
 |.choose _ _,_,h,_=>by cases h
 |.sys _ _,_,h,_=>by cases h
 |.halt _,_,h,_=>by cases h
structure zm6(P:Program)(t:Nat)(ti:TI):Prop where
 und:P.underlying t=some ti.und
 info:∃i,P.info? t=some i∧i.size=ti.size∧(∀zv,ti.zv=some zv→∃Z,i.zero=some Z∧zqw Z=some zv)
 agg:ti.agg=zkd ti.und
 zero:∀z,ti.zero=some z→∃zv,ti.zv=some zv∧z=zv.cells
 bytes:∀i,P.info? t=some i→i.bytes=ti.bytes
theorem zait{P:Program}{t:Nat}{ti:TI}(h:mkTI P t=some ti):zm6 P t ti:=by
 unfold mkTI at h
 split at h
 ·rename_i d i hd hi
  simp only[wfp]at h;subst h;refine⟨hd,⟨i,hi,rfl,fun zv hz=>?_⟩,rfl,fun z hz=>?_,fun j hj=>?_⟩
  ·simp only at hz
   split at hz
   ·exact⟨_,by assumption,hz⟩
   ·cases hz
  ·simp only at hz ⊢
   split at hz
   ·rename_i zv hzv
    cases hz;exact⟨zv,hzv,rfl⟩
   ·cases hz
  ·rw[hi]at hj;cases hj;rfl
 ·cases h
structure zbh(E:Env)(P:Program):Prop where
 ty:∀t ti,E.tyOf t=some ti→zm6 P t ti
 fn:∀f fn,Tr.get E.fn f=some fn→P.funcs[f]?=some fn
theorem z3k(P:Program):zbh (zaap P) P where
 ty t ti h:=by
  unfold Env.tyOf at h;obtain⟨o,h1,h2⟩:=zb h;subst h2
  rcases Tr.get_ofList _ _ _ _ _ h1 with⟨_,h3⟩|h3
  ·simp only[Nat.sub_zero,wcq,wfm]at h3
   obtain⟨x,h4,h5⟩:=h3;rw[wcr]at h4
   ·cases h4;exact zait h5
   ·rcases weu t P.types.size with hl|hl
    ·exact hl
    ·rw[wco (by simpa using hl)]at h4;cases h4
  ·cases h3
 fn f fn h:=by
  rcases Tr.get_ofList _ _ _ _ _ h with⟨_,h3⟩|h3
  ·simpa using h3
  ·cases h3
section
variable{P:Program}{w:World}{t:Nat}{ti:TI}
theorem zce(h:zm6 P t ti):(underlying t).run P w=.ok ti.und w:=by simp[underlying,program,Sem.run,h.und]
theorem zc5(h:zm6 P t ti):(sizeOf t).run P w=.ok ti.size w:=by
 obtain⟨i,h1,h2,_⟩:=h.info;simp[sizeOf,typeInfo,program,Sem.run,h1,h2]
theorem z5p(h:zm6 P t ti){zv:AV}(hz:ti.zv=some zv):∃Z,(zeroValue t).run P w=.ok Z w∧zqw Z=some zv:=by
 obtain⟨i,h1,_,h3⟩:=h.info;obtain⟨Z,h4,h5⟩:=h3 zv hz;exact⟨Z,by simp[zeroValue,typeInfo,program,Sem.run,h1,h4],h5⟩
theorem zle(h:zm6 P t ti):(isAgg t).run P w=.ok ti.agg w:=by
 simp only[isAgg,wfr,zce h,wfq];rw[h.agg];unfold zkd;cases ti.und<;>rfl
end
def z3l(P:Program)(T:Nat→Prop)(ρ:Rho)(S:St)(w:World)(a:Act)(o:Oper)(v:AV)(S':St):Prop :=
 ∃V w' ρ',((execOp a.eval o).run P w=.ok (.value V) w'∨((execOp a.eval o).run P w=.ok .skip w'∧V=undef))∧Stp ρ S T w ρ' S' w'∧RV ρ' v V
def zcz(P:Program)(T:Nat→Prop)(ρ:Rho)(S:St)(w:World)(a:Act)(o:Oper):OpR→Prop
 |.val v S'=>(∀n,bit S'.t n→T n)→zch ρ S.next S'.next→z3l P T ρ S w a o v S'
 |.call f args S'=>S'=S∧((∃fn c,P.funcs[f]?=some fn∧fn.body=some c)→∃vs:Array Value,(execOp a.eval o).run P w=.ok (.enter f vs) w∧RVs ρ args vs.toList)
 |.yield l args S'=>S'=S∧∃(L:Loc) (vs:Array Value),ρ l=some L∧(execOp a.eval o).run P w=(Instr.yield L.b vs).run P w∧RVs ρ args vs.toList
structure Pre(E:Env)(P:Program)(T:Nat→Prop)(ρ:Rho)(S:St)(w:World)(tm:Tm)(a:Act):Prop where
 env:zbh E P
 fit:Fit ρ S T w
 tmp:RT ρ tm.m a.tmps
 size:a.tmps.size=tm.sz
theorem zvk{ρ:Rho}{L:Loc}{x:Option Obj}{o:AO}{l:List AV}(h:z41 o=some l)(k:zej ρ L x o):∃c e z,x=some (.cells c e z)∧c.size=L.s+L.k∧l.length≤L.k∧RC ρ l c L.s:=by
 cases o with
 |cells l'=>cases h;obtain⟨c,e,h1,h2⟩:=k;exact⟨c,e,(0,0),h1,h2⟩
 |row l'=>cases h;exact k
 |_=>cases h
theorem RC.cell{ρ:Rho}{w:World}{L:Loc}{l:List AV}{c:Array Value}{e:Nat}{z:Nat×Nat}(hh:w.heap[L.b]?=some (.cells c e z))(hc:RC ρ l c L.s){i:Nat}{a:AV}(hi:l[i]?=some a) :
  ∃V,w.cell? ⟨L.b,L.s+i,none⟩=some V∧RV ρ a V:=by
 obtain⟨V,h1,h2⟩:=hc i a hi;exact⟨V,by simp[World.cell?,hh,h1],h2⟩
theorem RC.seg{ρ:Rho}{w:World}{L:Loc}{l:List AV}{c:Array Value}{e:Nat}{z:Nat×Nat}(hh:w.heap[L.b]?=some (.cells c e z))(hc:RC ρ l c L.s){off len:Nat}(hl:off+len≤l.length) :
  ∃vs:List Value,vs.length=len∧RVs ρ ((l.drop off).take len) vs∧∀j v,vs[j]?=some v→w.cell? ⟨L.b,L.s+off+j,none⟩=some v:=by
 have key:∀i,i<len→∃V,c[L.s+(off+i)]?=some V∧RV ρ (l[off+i]?.getD .nilp) V:=fun i hi=>by
  have h1:l[off+i]?=some (l[off+i]'(by omega)):=wcn (by omega);obtain⟨V,h2,h3⟩:=hc (off+i) _ h1;exact⟨V,h2,by rw[h1];exact h3⟩
 refine⟨(List.range len).map fun i=>(c[L.s+(off+i)]?).getD undef,by simp,RVs.of (by simp;omega) fun i a hi=>?_,fun j v hj=>?_⟩
 ·rw[wct,wcm]at hi
  split at hi
  ·rename_i hlt
   obtain⟨V,h1,h2⟩:=key i hlt;rw[hi]at h2;refine⟨V,?_,h2⟩;rw[wcq,wcr hlt];simp[h1]
  ·cases hi
 ·rw[wcq]at hj
  rcases weu j len with hlt|hge
  ·rw[wcr hlt]at hj
   obtain⟨V,h1,_⟩:=key j hlt;simp[h1]at hj;subst hj;simp[World.cell?,hh,wed,h1]
  ·rw[wco (by simpa using hge)]at hj;cases hj
section
variable{E:Env}{P:Program}{T:Nat→Prop}{ρ:Rho}{S:St}{w:World}{tm:Tm}{a:Act}
theorem zah(h:Pre E P T ρ S w tm a){x:Operand}{v:AV}(hx:opd tm x=some v):RV ρ v (a.eval x):=by
 cases x with
 |tmp t =>
  have hx':Tr.get tm.m t=some v:=by cases tm;exact hx
  obtain⟨V,h1,h2⟩:=h.tmp t v hx';have:a.eval (.tmp t)=V:=by simp[Act.eval,h1]
  rw[this];exact h2
 |const V=>exact zgx hx
 |global g=>cases hx
 |func f=>cases hx;exact⟨#[],#[],rfl,rfl,rfl⟩
theorem zun(h:Pre E P T ρ S w tm a):∀{xs:List Operand} {l:List AV},zqx tm xs=some l→RVs ρ l (xs.map a.eval)
 |[],l,hx=>by cases hx;rfl
 |x::xs,l,hx=>by
  have hx':bnd (opd tm x) (fun a=>bnd (zqx tm xs) fun l=>some (a::l))=some l:=hx;obtain⟨v,h1,hx⟩:=zb hx';obtain⟨r,h2,hx⟩:=zb hx;cases hx;exact⟨a.eval x,_,rfl,zah h h1,zun h h2⟩
theorem zbc(h:Pre E P T ρ S w tm a){o:Oper}{v:AV}{V:Value}(hr:(execOp a.eval o).run P w=.ok (.value V) w)(hv:RV ρ v V):z3l P T ρ S w a o v S :=
 ⟨V,w,ρ,.inl hr,.refl h.fit,hv⟩
theorem pure_ok(h:Pre E P T ρ S w tm a){o:Oper}{r:OpR}(hr:zgf P tm o S=some r):zcz P T ρ S w a o r:=by
 unfold zgf at hr;obtain⟨v,h1,h2⟩:=zb hr;cases h2;unfold zsu at h1;obtain⟨hs,h1⟩:=zi h1;obtain⟨hc,h1⟩:=zi h1;obtain⟨x,h2,h3⟩:=zb h1;intro _ _;have hall:∀(l:List Operand),zij tm l=true→∀x∈l,a.eval x=rho tm x:=by
  intro l
  induction l with
  |nil=>intro _ x hx;cases hx
  |cons y l ih =>
   intro hl x hx;unfold zij at hl
   split at hl
   ·rename_i V hV
    rcases wdp.1 hx with rfl|hx
    ·unfold rho
     rw[hV];unfold zst at hV;obtain⟨v,e1,e2⟩:=zb hV;exact zhk e2 (zah h e1)
    ·exact ih hl x hx
   ·cases hl
 have hev:=hall _ hc;have e:execOp a.eval o=execOp (rho tm) o:=by
  refine execOp_congr o (fun cs b he=>?_) fun x hx=>hev x (by simpa using hx)
  rw[he]at hs;cases hs
 have hrun:=zjr h2 w;rw[←e]at hrun;unfold valueOf at h3
 split at h3
 ·exact zbc h hrun (zgx h3)
 ·cases h3
theorem zaki(k:IntKind)(n:Int):wrI k n=k.wrap n:=by
 unfold wrI;rw[zar]
 split
 ·rename_i h
  cases k with
  |i64 =>
   refine(wbh n ?_).symm;cases n with
   |ofNat a=>have:=wep h;simp only[wbe];omega
   |negSucc a=>have:=wep h;omega
  |u8 =>
   refine(IntWalk.u8_in n ?_).symm;cases n with
   |ofNat a=>have:=wep h;simp only[wbe];omega
   |negSucc a=>cases h
  |u64 =>
   cases n with
   |ofNat a =>
    have:=wep h;simp only[IntKind.wrap,IntKind.bits,IntKind.signed,wbe];simp;omega
   |negSucc a=>cases h
  |_=>cases h
 ·rfl
theorem zmo{k:IntKind}{n:Int}{v:AV}(h:zwh k n=some v):v=.int k (k.wrap n):=by
 unfold zwh at h;rw[zadf,zaki]at h;cases h;rfl
theorem zx7(x y:Int):ltI x y=decide (x<y):=by
 have hb:∀a b:Nat,Nat.ble (Nat.succ a) b=decide (a<b):=fun a b=>by
  rw[way,Nat.ble_eq,decide_eq_true_eq];exact Iff.rfl
 cases x with
 |ofNat a=>cases y with
  |ofNat b=>rw[show ltI (.ofNat a) (.ofNat b)=Nat.ble (Nat.succ a) b from rfl,hb,way];simp
  |negSucc b=>rw[show ltI (.ofNat a) (.negSucc b)=false from rfl,way];simp;omega
 |negSucc a=>cases y with
  |ofNat b=>rw[show ltI (.negSucc a) (.ofNat b)=true from rfl,way];simp;omega
  |negSucc b=>rw[show ltI (.negSucc a) (.negSucc b)=Nat.ble (Nat.succ b) a from rfl,hb,way];simp;omega
theorem zs3(x y:Int):eqI x y=(x == y):=by
 have hb:∀a b:Nat,Nat.beq a b=decide (a=b):=fun a b=>by
  rw[way,Nat.beq_eq,decide_eq_true_eq]
 cases x with
 |ofNat a=>cases y with
  |ofNat b=>rw[show eqI (.ofNat a) (.ofNat b)=Nat.beq a b from rfl,hb,way];simp;omega
  |negSucc b=>rw[show eqI (.ofNat a) (.negSucc b)=false from rfl,way];simp
 |negSucc a=>cases y with
  |ofNat b=>rw[show eqI (.negSucc a) (.ofNat b)=false from rfl,way];simp
  |negSucc b=>rw[show eqI (.negSucc a) (.negSucc b)=Nat.beq a b from rfl,hb,way];simp
theorem zs4{k k':IntKind}(h:kEq k k'=true):k=k':=by
 cases k<;>cases k'<;>first|rfl|cases h
theorem zs5{b:Bool}{v:AV}(h:zm4 b=some v):v=.bool b:=by
 cases b<;>cases h<;>rfl
theorem zadi(op:BinOp)(t:Nat)(x y:Operand)(k k':IntKind)(m n:Int):(eqGuard op t x y (.int k m) (.int k' n)).run P w=.ok () w:=by
 unfold eqGuard;cases op<;>simp
theorem zakj{op:BinOp}{t:Nat}{k:IntKind}{m n:Int}{v:AV}(h:binI op k m n=some v):∃V,(binOp op t (.int k m) (.int k n)).run P w=.ok V w∧RV ρ v V:=by
 have nz:isZ n=false→n≠0:=fun h0 e=>by subst e;cases h0
 have cmp:∀(b b':Bool) (v:AV),b=b'→zm4 b=some v→RV ρ v (.bool b'):=fun b b' v e hb=>by rw[zs5 hb,←e];rfl
 cases op with
 |add=>exact⟨.int k (k.wrap (m+n)),by simp[binOp,Op.intArith],by rw[zmo h];rfl⟩
 |sub=>exact⟨.int k (k.wrap (m-n)),by simp[binOp,Op.intArith],by rw[zmo h];rfl⟩
 |mul=>exact⟨.int k (k.wrap (m*n)),by simp[binOp,Op.intArith],by rw[zmo h];rfl⟩
 |quo =>
  have h':zu (isZ n) none (zwh k (Int.tdiv m n))=some v:=h;rw[zar]at h'
  split at h'
  ·cases h'
  ·rename_i hz
   have:=nz (by simpa using hz);exact⟨.int k (k.wrap (m.tdiv n)),by simp[binOp,Op.intDiv,this],by rw[zmo h'];rfl⟩
 |rem =>
  have h':zu (isZ n) none (fcI (Int.tmod m n) fun z=>some (.int k z))=some v:=h;rw[zar,zadf]at h'
  split at h'
  ·cases h'
  ·rename_i hz
   have:=nz (by simpa using hz);cases h';exact⟨.int k (m.tmod n),by simp[binOp,Op.intDiv,this],rfl⟩
 |and=>cases h
 |or=>cases h
 |xor=>cases h
 |shl=>cases h
 |shr=>cases h
 |andNot=>cases h
 |eql=>exact⟨.bool (m == n),by simp[binOp,Op.intCmp],cmp _ _ _ (zs3 m n) h⟩
 |neq=>exact⟨.bool (m != n),by simp[binOp,Op.intCmp],cmp _ _ _ (by rw[zs3];rfl) h⟩
 |lss=>exact⟨.bool (decide (m<n)),by simp[binOp,Op.intCmp],cmp _ _ _ (zx7 m n) h⟩
 |leq=>exact⟨.bool (decide (m≤n)),by simp[binOp,Op.intCmp],cmp _ _ _ (by rw[zx7,way];simp) h⟩
 |gtr=>exact⟨.bool (decide (m>n)),by simp[binOp,Op.intCmp],cmp _ _ _ (zx7 n m) h⟩
 |geq=>exact⟨.bool (decide (m≥n)),by simp[binOp,Op.intCmp],cmp _ _ _ (by rw[zx7,way];simp) h⟩
end
end Go.Proofs.YtdcnbeehckgpcaaGreat
end
