/-
  Contracts of Go's library off the kit's shelf, at this program (written by the shelf's own tools).
-/
import Derived.Shelf.Small.Bits
import Derived.Shelf.Small.Wraps
import Derived.Shelf.Strconv.Itoa0
import Derived.Shelf.Sort.Plain
import Derived.Shelf.Bits.Mul64
import Derived.Shelf.Slices.Turned
import Derived.Shelf.Slices.Reverse
import Derived.Ground.Names2Prog
import Derived.Shelf.Slices.Clone
import Derived.Shelf.Slices.SearchI
import Derived.Shelf.Slices.Delete
import Derived.Shelf.Slices.Cells
import Derived.Shelf.Slices.In.SortNone
import Derived.Shelf.Slices.Empties
import Derived.Ground.SlgnProg
import Derived.Shelf.SlicesG.Turned
import Derived.Shelf.SlicesG.SearchI
import Derived.Shelf.SlicesE.Reverse
import Derived.Shelf.SlicesE.Delete
import Derived.Shelf.SlicesE.Clone
import Derived.Test.YtnoffnkmibjndaaGreatProg
import Derived.Test.YtnoffnkmibjndaaGreatBb
import Derived.Test.YtnoffnkmibjndaaGreatPa
set_option maxRecDepth 200000
set_option maxHeartbeats 0
set_option linter.unusedSimpArgs false
set_option linter.unusedVariables false
namespace Go.Proofs
open Go.Shelf
def Tryz.lays212_ren:Go.Shelf.Ren:=⟨fun | 212=>147 | 263=>227 | 264=>228 | n=>n,fun | 46=>222 | 51=>324 | 146=>325 | 53=>327 | 148=>328 | n=>n,fun | n=>n⟩
theorem Tryz.lays212:Go.Proofs.Lays.n212 Tryz.prog Tryz.lays212_ren:={
 mixed:=by kernel_rfl
 f212:=Tryz.func147.trans (congrArg some (by kernel_rfl))
 f263:=Tryz.func227.trans (congrArg some (by kernel_rfl))
 f264:=Tryz.func228.trans (congrArg some (by kernel_rfl))
 t46:=Tryz.underlying222
 a46:=Tryz.isAgg222
 z46:=Tryz.sizeOf222
 v46:=Tryz.zeroValue222
 t51:=Tryz.underlying324
 a51:=Tryz.isAgg324
 z51:=Tryz.sizeOf324
 v51:=Tryz.zeroValue324
 t53:=Tryz.underlying327
 a53:=Tryz.isAgg327
 z53:=Tryz.sizeOf327
 v53:=Tryz.zeroValue327
 t146:=Tryz.underlying325
 a146:=Tryz.isAgg325
 z146:=Tryz.sizeOf325
 v146:=Tryz.zeroValue325
 t148:=Tryz.underlying328
 a148:=Tryz.isAgg328
 z148:=Tryz.sizeOf328
 v148:=Tryz.zeroValue328 }
open Go.RowKit Go.Lib in
theorem Tryz.bits_Mul (x y:Nat) (hx:x < 18446744073709551616) (hy:y < 18446744073709551616) (w:World) :
  Calls Tryz.prog 147 #[.int .u64 x,.int .u64 y] w fun e w'=>e = .returned (.tuple #[.int .u64 ((x * y / 18446744073709551616:Nat):Int),.int .u64 ((x * y % 18446744073709551616:Nat):Int)])∧w'=w:=Any.bits_Mul Tryz.lays212 x y hx hy w
end Go.Proofs
namespace Go.Proofs.YtnoffnkmibjndaaGreat
open Go.RowKit Go.Shelf
def zcn (W:World) (g n:Nat) (f:Nat→Int):Prop:=∃ cur:Array Value,W.heap[g]? = some (.cells cur 3 (0,0))∧n≤cur.size∧∀ j,j < n→cur[j]? = some (.int .i64 (f j))
theorem zcn.cell {W:World} {g n:Nat} {f:Nat→Int} (h:zcn W g n f) (j:Nat) (hj:j < n):W.cell? ⟨g,j,none⟩=some (.int .i64 (f j)):=by
 obtain ⟨cur,h1,_,h2⟩:=h;rw [cell_of_row _ _ _ _ _ _ h1];exact h2 j hj
theorem zcn.free {W:World} {g n:Nat} {f:Nat→Int} (h:zcn W g n f) (o:Nat):W.frozen? ⟨g,o,none⟩=false:=by
 obtain ⟨cur,h1,_,h2⟩:=h;simp [World.frozen?,h1]
theorem zcn.lt {W:World} {g n:Nat} {f:Nat→Int} (h:zcn W g n f):g < W.heap.size:=by
 obtain ⟨cur,h1,_,h2⟩:=h;exact (Array.getElem?_eq_some_iff.1 h1).1
theorem zcn.set {W:World} {g n:Nat} {f:Nat→Int} (h:zcn W g n f) (i:Nat) (x:Int):zcn (W.setCell ⟨g,i,none⟩ (.int .i64 x)) g n (fun j=>if j=i then x else f j):=by
 obtain ⟨cur,h1,hn,h2⟩:=h;refine ⟨_,zx h1 i _,by simpa using hn,fun j hj=>?_⟩
 by_cases e:j=i
 ·subst e
  simp only [if_true];rw [zha _ (by omega)]
 ·simp only [if_neg e]
  rw [Array.getElem?_setIfInBounds,if_neg (fun h=>e h.symm),h2 j hj]
theorem zcn.of_heap {W W':World} {g n:Nat} {f:Nat→Int} (h:zcn W g n f) (e:W'.heap[g]? = W.heap[g]?):zcn W' g n f:=by
 obtain ⟨cur,h1,h2⟩:=h;exact ⟨cur,e.trans h1,h2⟩
theorem zcn.less {W:World} {g n m:Nat} {f:Nat→Int} (h:zcn W g n f) (hm:m≤n):zcn W g m f:=by
 obtain ⟨cur,h1,h2,h3⟩:=h;exact ⟨cur,h1,by omega,fun j hj=>h3 j (by omega)⟩
end Go.Proofs.YtnoffnkmibjndaaGreat
