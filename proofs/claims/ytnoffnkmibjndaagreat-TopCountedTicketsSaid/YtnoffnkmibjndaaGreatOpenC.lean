/-
  What the statements' arguments hold: halls with counters, days with tickets.
-/
import Derived.Test.YtnoffnkmibjndaaGreatHd
import Derived.Test.YtnoffnkmibjndaaGreatCb
import Derived.Deep.Strs
set_option maxRecDepth 200000
set_option maxHeartbeats 0
namespace Go.Proofs.YtnoffnkmibjndaaGreat
open Go.ChangeShapes Go.WideShapes Go.ChangeAt Go.RowKit
section
variable {H:Type} {enc:TypeId × Value→H} {W:World} {sp:Nat→Bool} {held:Bool} {base b0:Nat} {r:Reach}
theorem zac4 {n:Nat} {row:List Value} {y:DataW H × List MemPlace} (hl:row.length=4) (h:DataW.trod enc Tryz.prog W base sp held n 52 row=some y):∃ c:Cu.Cnt,row=c.cells:=by
 have ci:Tryz.prog.cellsOf 3=1:=by kernel_rfl
 have cr:Tryz.prog.cellsOf 42=2:=by kernel_rfl
 have c6:Tryz.prog.cellsOf 2=1:=by kernel_rfl
 match row,hl with
 | [v0,v1,v2,v3],_ =>
  obtain ⟨xs,k,_,_,_,hxl,hf⟩:=DataW.trod_struct Tryz.underlying52 h;have g0:=hf 0 _ rfl;have g1:=hf 1 _ rfl;have g2:=hf 2 _ rfl;simp [ci,cr] at g0 g1 g2;obtain ⟨x0,e0⟩:∃ x,xs[0]? = some x:=⟨xs[0]'(by rw [hxl];decide),List.getElem?_eq_getElem _⟩
  obtain ⟨x1,e1⟩:∃ x,xs[1]? = some x:=⟨xs[1]'(by rw [hxl];decide),List.getElem?_eq_getElem _⟩
  obtain ⟨x2,e2⟩:∃ x,xs[2]? = some x:=⟨xs[2]'(by rw [hxl];decide),List.getElem?_eq_getElem _⟩
  rw [e0] at g0;rw [e1] at g1;rw [e2] at g2;obtain ⟨a,ha,_⟩:=DataW.trod_int Tryz.underlying3 g0;obtain ⟨b,hb,_⟩:=DataW.trod_int Tryz.underlying3 g1;obtain ⟨xs2,k2,_,_,_,hxl2,hf2⟩:=DataW.trod_struct Tryz.underlying42 g2;have g3:=hf2 0 _ rfl;have g4:=hf2 1 _ rfl;simp [c6] at g3 g4;obtain ⟨x3,e3⟩:∃ x,xs2[0]? = some x:=⟨xs2[0]'(by rw [hxl2];decide),List.getElem?_eq_getElem _⟩
  obtain ⟨x4,e4⟩:∃ x,xs2[1]? = some x:=⟨xs2[1]'(by rw [hxl2];decide),List.getElem?_eq_getElem _⟩
  rw [e3] at g3;rw [e4] at g4;obtain ⟨c,hc,_⟩:=DataW.trod_int Tryz.underlying2 g3;obtain ⟨d,hd,_⟩:=DataW.trod_int Tryz.underlying2 g4;cases ha;cases hb;cases hc;cases hd;exact ⟨⟨a,b,c,d⟩,rfl⟩
theorem zaap {v:Value} {d:DataW H} {p:List MemPlace} (hv:Value.okWide Tryz.prog W r b0 24 v) (h:DataW.Trod enc Tryz.prog W base sp held 24 v d p) :
  ∃ (hh:Cu.Hall) (sv:Value),v = .agg #[.int .i64 hh.n,.int .i64 hh.most,sv]∧Cu.IsCnts W sv hh.cs:=by
 obtain ⟨v0,v1,v2,y0,y1,y2,n,rfl,-,-,h0,h1,h2⟩:=Go.Joins.open_agg3 Tryz.underlying24 (by kernel_rfl) (by kernel_rfl) hv h;obtain ⟨a,ha,_⟩:=DataW.trod_int Tryz.underlying3 h0;obtain ⟨b,hb,_⟩:=DataW.trod_int Tryz.underlying2 h1;cases ha;cases hb;obtain ⟨rows,hr,hx⟩:=zuq Tryz.underlying22 (sz:=4) (by kernel_rfl) (by omega) h2;obtain ⟨cs,rfl⟩:=zur Cu.Cnt.cells rows fun row hrow=>by
  obtain ⟨hl,m,y',ht⟩:=hx row hrow;exact zac4 hl ht
 exact ⟨⟨a,b,cs⟩,v2,rfl,hr⟩
theorem zae9 {v:Value} {d:DataW H} {p:List MemPlace} (hv:Value.okWide Tryz.prog W r b0 27 v) (h:DataW.Trod enc Tryz.prog W base sp held 27 v d p) :
  ∃ (L n rest:Int) (ks:List Int) (kv:Value),v = .agg #[.int .i64 L,.int .i64 n,kv,.int .i64 rest]∧zn W .i64 kv ks:=by
 have hs:=Tryz.underlying27;have hC:Tryz.prog.cellsOf 27=4:=by kernel_rfl
 have c1:Tryz.prog.cellsOf 3=1:=by kernel_rfl
 have c4:Tryz.prog.cellsOf 25=1:=by kernel_rfl
 obtain ⟨cs,rfl,hsz⟩:=okWide_struct hs hv;obtain ⟨v0,v1,v2,v3,rfl⟩:=Go.Joins.array4 (hsz.trans hC);obtain ⟨fuel,hf⟩:=h;obtain ⟨y0,y1,y2,y3,n,-,-,h0,h1,h2,h3⟩:=Go.Joins.trod_struct4 hs hf;have g0:DataW.trod enc Tryz.prog W base sp held n 3 [v0]=some y0:=by simpa [Value.cells,c1] using h0
 have g1:DataW.trod enc Tryz.prog W base sp held n 3 [v1]=some y1:=by simpa [Value.cells,c1] using h1
 have g2:DataW.trod enc Tryz.prog W base sp held n 25 [v2]=some y2:=by simpa [Value.cells,c4] using h2
 have g3:DataW.trod enc Tryz.prog W base sp held n 3 [v3]=some y3:=by simpa [Value.cells,c1] using h3
 obtain ⟨a,ha,_⟩:=DataW.trod_int Tryz.underlying3 g0;obtain ⟨b,hb,_⟩:=DataW.trod_int Tryz.underlying3 g1;obtain ⟨c,hc,_⟩:=DataW.trod_int Tryz.underlying3 g3;cases ha;cases hb;cases hc;obtain ⟨rows,hr,hx⟩:=zuq Tryz.underlying25 (sz:=1) (by kernel_rfl) (by omega) g2;obtain ⟨l,rfl⟩:=zur (fun n=>[Value.int .i64 n]) rows fun row hrow=>by
  obtain ⟨hl,m,y',ht⟩:=hx row hrow;obtain ⟨x,rfl,_,_⟩:=DataW.trod_int Tryz.underlying3 ht;exact ⟨x,rfl⟩
 exact ⟨a,b,c,l,v2,rfl,hr⟩
end
end Go.Proofs.YtnoffnkmibjndaaGreat
