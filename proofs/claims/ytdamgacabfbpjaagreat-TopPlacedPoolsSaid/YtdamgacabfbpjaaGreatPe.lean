/-
  The walk of dividends: two ranges over the winners, with a map of those that are backed.
-/
import Derived.Test.YtdamgacabfbpjaaGreatPd
import Derived.Test.YtdamgacabfbpjaaGreatBb
import Derived.Test.YtdamgacabfbpjaaGreatBa
namespace Go.Proofs.YtdamgacabfbpjaaGreat
open Go.RowKit Go.Shelf
attribute [local go_sem] Oper.semAt_some
theorem MapIs.len {P:Program} {tm tk tv:TypeId} {ke:Spt→Value} {ve:Int→Value} (hk:Keyed P tm tk tv ke ve) {W:World} {r:Nat} {F:Spt→Option Int} (h:MapIs ke ve W r F) {l:List Spt} (hl:l.Nodup) (hm:∀ k,F k≠none↔k∈l) (ty:TypeId) :
  (Builtin.len_ #[tm] ty #[.map (some r)]).run P W = .ok (.int .i64 (l.length:Int)) W:=by
 obtain ⟨es,c,h1,h2,h3,h4⟩:=h
 have e:=z47 h2 hl fun k=>by rw [h4];exact hm k
 have h1':W.heap[r]? = some (.map (es.map (encE ke ve)).toArray c):=h1
 have hs:(es.map (encE ke ve)).toArray.size=l.length:=by simpa using e
 simp [Builtin.len_,run_underlying hk.und,run_getObj_map W r _ c h1',hs,goInt]
end Go.Proofs.YtdamgacabfbpjaaGreat
namespace Go.Proofs.YtdamgacabfbpjaaGreat
open Go.RowKit Go.Shelf
structure Acc where
 i:Int
 k:Int
 d:Int
 p:Int
 q:Int
 o:Int
deriving DecidableEq
def accC (a:Acc):Array Value:=#[.int .i64 a.i,.int .i64 a.k,.int .i64 a.d,.int .i64 a.p,.int .i64 a.q,.int .i64 a.o]
def AccAt (W:World) (g:Nat) (a:Acc):Prop:=W.heap[g]? = some (.cells (accC a) 62 (0,0))
section
variable {W:World} {g:Nat} {a:Acc} (h:AccAt W g a)
include h
theorem AccAt.c0:W.cell? ⟨g,0,none⟩=some (.int .i64 a.i):=by rw [cell_of_row _ _ _ _ _ _ h];rfl
theorem AccAt.c1:W.cell? ⟨g,1,none⟩=some (.int .i64 a.k):=by rw [cell_of_row _ _ _ _ _ _ h];rfl
theorem AccAt.c2:W.cell? ⟨g,2,none⟩=some (.int .i64 a.d):=by rw [cell_of_row _ _ _ _ _ _ h];rfl
theorem AccAt.c3:W.cell? ⟨g,3,none⟩=some (.int .i64 a.p):=by rw [cell_of_row _ _ _ _ _ _ h];rfl
theorem AccAt.c4:W.cell? ⟨g,4,none⟩=some (.int .i64 a.q):=by rw [cell_of_row _ _ _ _ _ _ h];rfl
theorem AccAt.c5:W.cell? ⟨g,5,none⟩=some (.int .i64 a.o):=by rw [cell_of_row _ _ _ _ _ _ h];rfl
theorem AccAt.fr (o:Nat):W.frozen? ⟨g,o,none⟩=false:=by
 have h':W.heap[g]? = _:=h
 simp [World.frozen?,h']
theorem AccAt.lt:g < W.heap.size:=World.block_lt_of_cell? _ _ h.c0
theorem AccAt.ext {W':World} (e:Ext W W'):AccAt W' g a:=(e.block _ h.lt).trans h
theorem AccAt.setO (x:Int):AccAt (W.setCell ⟨g,5,none⟩ (.int .i64 x)) g { a with o:=x }:=zk h 5 (.int .i64 x)
end
end Go.Proofs.YtdamgacabfbpjaaGreat
namespace Go.Proofs.YtdamgacabfbpjaaGreat
open Go.RowKit Go.Shelf
end Go.Proofs.YtdamgacabfbpjaaGreat
namespace Go.Proofs.YtdamgacabfbpjaaGreat
open Go.RowKit Go.Shelf
set_option maxHeartbeats 2000000 in
theorem z24 (a b a' b':Int) (w:World):(Op.equal 45 (.agg #[.int .i64 a,.int .i64 b]) (.agg #[.int .i64 a',.int .i64 b'])).run Tryz.prog w = .ok (a == a' && b == b') w:=by
 have hi:∀ x y:Int,∀ w,(Op.equalIn 9999 3 (.int .i64 x) (.int .i64 y)).run Tryz.prog w = .ok (x == y) w:=fun x y w=>run_equalIn_int w 9998 3 .i64 .i64 x y (by kernel_rfl)
 simp only [Op.equal,Op.maxDepth]
 rw [Op.equalIn]
 simp only [Sem.run_bind,Tryz.runUnderlying45,Result.andThen_ok]
 have hr:List.range' 0 2=[0,1]:=rfl
 by_cases e1:a=a'
 ·by_cases e2:b=b'<;>simp [go_sem,hi,e1,e2,hr]
 ·simp [go_sem,hi,e1,hr]
theorem z7g (w:World) (a b a' b':Int):(binOp .eql 45 (.agg #[.int .i64 a,.int .i64 b]) (.agg #[.int .i64 a',.int .i64 b'])).run Tryz.prog w = .ok (.bool (a == a' && b == b')) w:=by
 have:=z24 a b a' b' w
 skip
 simp [binOp,go_sem,this]
end Go.Proofs.YtdamgacabfbpjaaGreat
