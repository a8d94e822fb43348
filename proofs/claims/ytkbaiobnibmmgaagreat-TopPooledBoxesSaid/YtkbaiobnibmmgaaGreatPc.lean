/-
  The walks of open and Favourite.
-/
import Derived.Test.YtkbaiobnibmmgaaGreatNewT
import Derived.Shelf.Small.Bits
import Derived.Shelf.Small.Wraps
import Derived.Shelf.Strconv.Itoa0
import Derived.Shelf.Sort.Plain
import Derived.Shelf.Bits.Mul64
import Derived.Shelf.Slices.Turned
import Derived.Shelf.Slices.Reverse
import Derived.Ground.Names2Prog
import Derived.Shelf.Slices.Clone
import Derived.Shelf.Slices.SearchI
import Derived.Shelf.Slices.Delete
import Derived.Shelf.Slices.Cells
import Derived.Shelf.Slices.In.SortNone
import Derived.Shelf.Slices.Empties
import Derived.Ground.SlgnProg
import Derived.Shelf.SlicesE.Clone
import Derived.Test.YtkbaiobnibmmgaaGreatProg
import Derived.Test.YtkbaiobnibmmgaaGreatBb
import Derived.Test.YtkbaiobnibmmgaaGreatPa
import Derived.Sort.OwnSortedInts
namespace Go.Proofs.YtkbaiobnibmmgaaGreat
open Go.RowKit Go.Shelf
def RetOpen (w:World) (b:Bk) (ba:Option Addr) (bcap:Nat) (sa:Option Addr) (scap:Nat) (e:Ending) (w':World):Prop :=
 Ext w w'∧((zai b≠0∧e = .returned (.tuple #[.pointer none,.int .i64 (zai b)])) ∨
  (zai b=0∧∃ p m,e = .returned (.tuple #[.pointer (some ⟨p,0,none⟩),.int .i64 0])∧w.heap.size≤p∧IsTill w' p m b ba bcap sa scap))
set_option maxRecDepth 100000 in
set_option maxHeartbeats 1000000 in
theorem zxq (b:Bk) (ba sa:Option Addr) (bcap scap:Nat) (w:World) (hv:IsBook w b ba bcap sa scap) :
  Calls Tryz.prog 33 #[.agg #[.int .i64 b.kd,.int .i64 b.n,.slice ba b.bets.length bcap,.slice sa b.scr.length scap,.bool b.fav,.int .i64 b.car,.int .i64 b.duty,.int .i64 b.step]] w (RetOpen w b ba bcap sa scap):=by
 have HV:=Lib.hid hv
 clear hv
 go_enter Tryz.func33,Tryz.ntmps33
 go_upto_region 1 with (fail)
 obtain ⟨W0,hW0⟩:∃ W0,W0=w.alloc (.cells #[.int .i64 b.kd,.int .i64 b.n,.slice ba b.bets.length bcap,.slice sa b.scr.length scap,.bool b.fav,.int .i64 b.car,.int .i64 b.duty,.int .i64 b.step] 25):=⟨_,rfl⟩
 have hE:Ext w W0:=by rw [hW0];exact xx
 have k0:W0.cell? ⟨w.heap.size,0,none⟩=some (.int .i64 b.kd):=by rw [hW0];simp [go_sem]
 have k1:W0.cell? ⟨w.heap.size,1,none⟩=some (.int .i64 b.n):=by rw [hW0];simp [go_sem]
 have k2:W0.cell? ⟨w.heap.size,2,none⟩=some (.slice ba b.bets.length bcap):=by rw [hW0];simp [go_sem]
 have k3:W0.cell? ⟨w.heap.size,3,none⟩=some (.slice sa b.scr.length scap):=by rw [hW0];simp [go_sem]
 have k4:W0.cell? ⟨w.heap.size,4,none⟩=some (.bool b.fav):=by rw [hW0];simp [go_sem]
 have k5:W0.cell? ⟨w.heap.size,5,none⟩=some (.int .i64 b.car):=by rw [hW0];simp [go_sem]
 have k6:W0.cell? ⟨w.heap.size,6,none⟩=some (.int .i64 b.duty):=by rw [hW0];simp [go_sem]
 have k7:W0.cell? ⟨w.heap.size,7,none⟩=some (.int .i64 b.step):=by rw [hW0];simp [go_sem]
 have hz:w.heap.size < W0.heap.size:=World.block_lt_of_cell? _ _ k0
 have HS:=Lib.hid (HV.out.ext hE)
 have HW:=Lib.hid hE
 rw [← hW0]
 clear hW0 HV
 clear hE
 go_wp2_with fail
 refine zat (W0:=W0) (g:=⟨W0,Below.refl _ _⟩) xx (zvg b ba sa bcap scap _ (HS.out.ext xx)) fun g1 hgr=>?_
 clear hgr
 obtain ⟨er,her⟩:∃ er,er=zai b:=⟨_,rfl⟩
 rw [← her]
 by_cases h0:er=0
 ·subst h0
  have V:=Lib.hid (zo6 her.symm)
  have HER:=Lib.hid her
  clear her
  go_wp2_with fail
  refine (zyk b ba sa bcap scap _ (HS.out.ext (by exact xx)) V.out).mono ?_
  rintro e W1 ⟨p,m,rfl,hE1,hp,hT⟩
  have HT:=Lib.hid hT
  have HE1:=Lib.hid hE1
  have hsz:=HW.out.size
  clear hT hE1 k0 k1 k2 k3 k4 k5 k6 k7
  go_wp2_with fail
  refine bodyPost_ret (v:=.tuple #[.pointer (some ⟨p,0,none⟩),.int .i64 0]) (by simp [results,Tryz.results33,go_sem]) rfl ?_
  exact ⟨(HW.out.trans' (zi W0 _)).trans' HE1.out,.inr ⟨HER.out.symm,p,m,rfl,by have:=(zi W0 g1).size;omega,HT.out⟩⟩
 ·have f1:(er != 0)=true:=by simpa using h0
  have HER:=Lib.hid her
  have H0:=Lib.hid h0
  clear her h0
  go_wp2_with fail
  refine bodyPost_ret (v:=.tuple #[.pointer none,.int .i64 er]) (by simp [results,Tryz.results33,go_sem]) rfl ?_
  exact ⟨HW.out.trans' (zi W0 _),.inl ⟨by rw [← HER.out];exact H0.out,by rw [← HER.out]⟩⟩
def favA (b:Bk):Int:=if zai b=0 then favP b else 0
set_option maxRecDepth 100000 in
set_option maxHeartbeats 1000000 in
theorem zvh (b:Bk) (ba sa:Option Addr) (bcap scap:Nat) (w:World) (hv:IsBook w b ba bcap sa scap) :
  Calls Tryz.prog 10 #[.agg #[.int .i64 b.kd,.int .i64 b.n,.slice ba b.bets.length bcap,.slice sa b.scr.length scap,.bool b.fav,.int .i64 b.car,.int .i64 b.duty,.int .i64 b.step]] w fun e w'=>e = .returned (.tuple #[.int .i64 (favA b),.int .i64 (zai b)])∧Ext w w':=by
 have HV:=Lib.hid hv
 clear hv
 go_enter Tryz.func10,Tryz.ntmps10
 go_upto_region 1 with (fail)
 obtain ⟨W0,hW0⟩:∃ W0,W0=w.alloc (.cells #[.int .i64 b.kd,.int .i64 b.n,.slice ba b.bets.length bcap,.slice sa b.scr.length scap,.bool b.fav,.int .i64 b.car,.int .i64 b.duty,.int .i64 b.step] 25):=⟨_,rfl⟩
 have hE:Ext w W0:=by rw [hW0];exact xx
 have k0:W0.cell? ⟨w.heap.size,0,none⟩=some (.int .i64 b.kd):=by rw [hW0];simp [go_sem]
 have k1:W0.cell? ⟨w.heap.size,1,none⟩=some (.int .i64 b.n):=by rw [hW0];simp [go_sem]
 have k2:W0.cell? ⟨w.heap.size,2,none⟩=some (.slice ba b.bets.length bcap):=by rw [hW0];simp [go_sem]
 have k3:W0.cell? ⟨w.heap.size,3,none⟩=some (.slice sa b.scr.length scap):=by rw [hW0];simp [go_sem]
 have k4:W0.cell? ⟨w.heap.size,4,none⟩=some (.bool b.fav):=by rw [hW0];simp [go_sem]
 have k5:W0.cell? ⟨w.heap.size,5,none⟩=some (.int .i64 b.car):=by rw [hW0];simp [go_sem]
 have k6:W0.cell? ⟨w.heap.size,6,none⟩=some (.int .i64 b.duty):=by rw [hW0];simp [go_sem]
 have k7:W0.cell? ⟨w.heap.size,7,none⟩=some (.int .i64 b.step):=by rw [hW0];simp [go_sem]
 have hz:w.heap.size < W0.heap.size:=World.block_lt_of_cell? _ _ k0
 have HS:=Lib.hid (HV.out.ext hE)
 have HW:=Lib.hid hE
 rw [← hW0]
 clear hW0 HV
 clear hE
 go_wp2_with fail
 refine (zxq b ba sa bcap scap _ HS.out).mono ?_
 rintro e W1 ⟨hE1,⟨hne,rfl⟩ | ⟨h0,p,m,rfl,hp,hT⟩⟩
 ·obtain ⟨er,her⟩:∃ er,er=zai b:=⟨_,rfl⟩
  rw [← her] at hne ⊢
  have f1:(er != 0)=true:=by simpa using hne
  have HNE:=Lib.hid hne
  have HE1:=Lib.hid (HW.out.trans' hE1)
  have HER:=Lib.hid her.symm
  clear her hE1 hne k0 k1 k2 k3 k4 k5 k6 k7
  go_wp2_with fail
  refine bodyPost_ret (v:=.tuple #[.int .i64 0,.int .i64 er]) (by simp [results,Tryz.results10,go_sem]) rfl ?_
  exact ⟨by unfold favA;rw [HER.out,if_neg HNE.out],HE1.out⟩
 ·have t8:=hT.till.c8
  have hzp:=hT.till.lt
  have HE1:=Lib.hid (HW.out.trans' hE1)
  have H0:=Lib.hid h0
  clear hT hE1 hp h0 k0 k1 k2 k3 k4 k5 k6 k7
  go_wp2_with fail
  refine bodyPost_ret (v:=.tuple #[.int .i64 (favP b),.int .i64 0]) (by simp [results,Tryz.results10,go_sem]) rfl ?_
  exact ⟨by unfold favA;rw [H0.out,if_pos rfl],HE1.out⟩
end Go.Proofs.YtkbaiobnibmmgaaGreat
namespace Go.Proofs
open Go.Shelf
def Tryz.lays189_ren:Go.Shelf.Ren:=⟨fun | 189=>200 | 125=>246 | 257=>245 | 128=>313 | 129=>314 | 294=>304 | 295=>305 | 296=>306 | 297=>307 | 298=>308 | 299=>309 | 216=>310 | 300=>311 | 301=>312 | 328=>393 | 329=>394 | 330=>395 | 331=>396 | 332=>397 | 215=>398 | 343=>465 | n=>n,fun | 28=>23 | 3=>3 | 46=>168 | 0=>0 | 51=>221 | 53=>223 | 4=>4 | 183=>386 | 182=>385 | 131=>309 | 5=>5 | 9=>9 | 218=>481 | 222=>485 | 228=>559 | 229=>560 | n=>n,fun | n=>n⟩
theorem Tryz.lays189:Go.Proofs.Lays.n189 Tryz.prog Tryz.lays189_ren:={
 mixed:=by kernel_rfl
 f125:=Tryz.func246.trans (congrArg some (by kernel_rfl))
 f128:=Tryz.func313.trans (congrArg some (by kernel_rfl))
 f129:=Tryz.func314.trans (congrArg some (by kernel_rfl))
 f189:=Tryz.func200.trans (congrArg some (by kernel_rfl))
 f215:=Tryz.func398.trans (congrArg some (by kernel_rfl))
 f216:=Tryz.func310.trans (congrArg some (by kernel_rfl))
 f257:=Tryz.func245.trans (congrArg some (by kernel_rfl))
 f294:=Tryz.func304.trans (congrArg some (by kernel_rfl))
 f295:=Tryz.func305.trans (congrArg some (by kernel_rfl))
 f296:=Tryz.func306.trans (congrArg some (by kernel_rfl))
 f297:=Tryz.func307.trans (congrArg some (by kernel_rfl))
 f298:=Tryz.func308.trans (congrArg some (by kernel_rfl))
 f299:=Tryz.func309.trans (congrArg some (by kernel_rfl))
 f300:=Tryz.func311.trans (congrArg some (by kernel_rfl))
 f301:=Tryz.func312.trans (congrArg some (by kernel_rfl))
 f328:=Tryz.func393.trans (congrArg some (by kernel_rfl))
 f329:=Tryz.func394.trans (congrArg some (by kernel_rfl))
 f330:=Tryz.func395.trans (congrArg some (by kernel_rfl))
 f331:=Tryz.func396.trans (congrArg some (by kernel_rfl))
 f332:=Tryz.func397.trans (congrArg some (by kernel_rfl))
 f343:=Tryz.func465.trans (congrArg some (by kernel_rfl))
 t0:=Tryz.underlying0
 a0:=Tryz.isAgg0
 z0:=Tryz.sizeOf0
 v0:=Tryz.zeroValue0
 t3:=Tryz.underlying3
 a3:=Tryz.isAgg3
 z3:=Tryz.sizeOf3
 v3:=Tryz.zeroValue3
 t4:=Tryz.underlying4
 a4:=Tryz.isAgg4
 z4:=Tryz.sizeOf4
 v4:=Tryz.zeroValue4
 t5:=Tryz.underlying5
 a5:=Tryz.isAgg5
 z5:=Tryz.sizeOf5
 v5:=Tryz.zeroValue5
 t9:=Tryz.underlying9
 a9:=Tryz.isAgg9
 z9:=Tryz.sizeOf9
 v9:=Tryz.zeroValue9
 t28:=Tryz.underlying23
 a28:=Tryz.isAgg23
 z28:=Tryz.sizeOf23
 v28:=Tryz.zeroValue23
 t46:=Tryz.underlying168
 a46:=Tryz.isAgg168
 z46:=Tryz.sizeOf168
 v46:=Tryz.zeroValue168
 t51:=Tryz.underlying221
 a51:=Tryz.isAgg221
 z51:=Tryz.sizeOf221
 v51:=Tryz.zeroValue221
 t53:=Tryz.underlying223
 a53:=Tryz.isAgg223
 z53:=Tryz.sizeOf223
 v53:=Tryz.zeroValue223
 t131:=Tryz.underlying309
 a131:=Tryz.isAgg309
 z131:=Tryz.sizeOf309
 v131:=Tryz.zeroValue309
 t182:=Tryz.underlying385
 a182:=Tryz.isAgg385
 z182:=Tryz.sizeOf385
 v182:=Tryz.zeroValue385
 t183:=Tryz.underlying386
 a183:=Tryz.isAgg386
 z183:=Tryz.sizeOf386
 v183:=Tryz.zeroValue386
 t218:=Tryz.underlying481
 a218:=Tryz.isAgg481
 z218:=Tryz.sizeOf481
 v218:=Tryz.zeroValue481
 t222:=Tryz.underlying485
 a222:=Tryz.isAgg485
 z222:=Tryz.sizeOf485
 v222:=Tryz.zeroValue485
 t228:=Tryz.underlying559
 a228:=Tryz.isAgg559
 z228:=Tryz.sizeOf559
 v228:=Tryz.zeroValue559
 t229:=Tryz.underlying560
 a229:=Tryz.isAgg560
 z229:=Tryz.sizeOf560
 v229:=Tryz.zeroValue560 }
open Go.Sort Go.RowKit in
theorem Tryz.slices_Sort_int (blk off cap:Nat) (zs:List Int) (w:World) (hH:Holds (Value.int .i64) w blk off zs.toArray) (hblk:blk < w.heap.size) (hsz:zs.length < 4611686018427387904) :
  Calls Tryz.prog 200 #[.slice (some ⟨blk,off,none⟩) zs.length cap] w fun e w' =>
   e = .returned (.tuple #[])∧∃ n os,w'=grow (putRow (Value.int .i64) (Sort.ahead w n) blk off (zs.mergeSort fun x y=>decide (x≤y)).toArray) os:=Any.slices_Sort_int Tryz.lays189 blk off cap zs w hH hblk hsz
def Tryz.laysNm223_ren:Go.Shelf.Ren:=⟨fun | 23=>72 | n=>n,fun | 22=>23 | 3=>3 | 4=>4 | 0=>0 | n=>n,fun | n=>n⟩
theorem Tryz.laysNm223:Go.Proofs.Lays2.n23 Tryz.prog Tryz.laysNm223_ren:={
 mixed:=by kernel_rfl
 f23:=Tryz.func72.trans (congrArg some (by kernel_rfl))
 t0:=Tryz.underlying0
 a0:=Tryz.isAgg0
 z0:=Tryz.sizeOf0
 v0:=Tryz.zeroValue0
 t3:=Tryz.underlying3
 a3:=Tryz.isAgg3
 z3:=Tryz.sizeOf3
 v3:=Tryz.zeroValue3
 t4:=Tryz.underlying4
 a4:=Tryz.isAgg4
 z4:=Tryz.sizeOf4
 v4:=Tryz.zeroValue4
 t22:=Tryz.underlying23
 a22:=Tryz.isAgg23
 z22:=Tryz.sizeOf23
 v22:=Tryz.zeroValue23
 i3:=by kernel_rfl }
open Go.RowKit Go.Lib Go.Sort in
theorem Tryz.slices_Delete_int_cells (b off n c i j:Nat) (zs:List Int) (w:World) (hz:n≤zs.length) (hcap:n≤c) (hm:c≤9223372036854775807) (hij:i≤j) (hj:j≤n) (hc:∀ j,j < zs.length→w.cell? ⟨b,off+j,none⟩=some (.int .i64 (zs.getD j 0))) (hf:∀ j,j < n→w.frozen? ⟨b,off+j,none⟩=false) :
  Calls Tryz.prog 72 #[.slice (some ⟨b,off,none⟩) n c,.int .i64 i,.int .i64 j] w fun e w'=>e = .returned (.slice (some ⟨b,off,none⟩) (n - (j - i)) c)∧∃ q,w'=(w.drewN q).setCells b off (((zs.take n).take i ++ (zs.take n).drop j ++ List.replicate (j - i) 0).map (Value.int .i64)):=Any.slices_Delete_int_cells Tryz.laysNm223 b off n c i j zs w hz hcap hm hij hj hc hf
end Go.Proofs
namespace Go.Proofs.YtkbaiobnibmmgaaGreat
open Go.RowKit Go.Shelf
def NumB (W:World) (g n:Nat) (f:Nat→Int):Prop:=∃ cur:Array Value,W.heap[g]? = some (.cells cur 3 (0,0))∧n≤cur.size∧∀ j,j < n→cur[j]? = some (.int .i64 (f j))
theorem NumB.cell {W:World} {g n:Nat} {f:Nat→Int} (h:NumB W g n f) (j:Nat) (hj:j < n):W.cell? ⟨g,j,none⟩=some (.int .i64 (f j)):=by
 obtain ⟨cur,h1,_,h2⟩:=h
 rw [cell_of_row _ _ _ _ _ _ h1];exact h2 j hj
theorem NumB.free {W:World} {g n:Nat} {f:Nat→Int} (h:NumB W g n f) (o:Nat):W.frozen? ⟨g,o,none⟩=false:=by
 obtain ⟨cur,h1,_,h2⟩:=h
 simp [World.frozen?,h1]
theorem NumB.lt {W:World} {g n:Nat} {f:Nat→Int} (h:NumB W g n f):g < W.heap.size:=by
 obtain ⟨cur,h1,_,h2⟩:=h
 exact (Array.getElem?_eq_some_iff.1 h1).1
theorem NumB.set {W:World} {g n:Nat} {f:Nat→Int} (h:NumB W g n f) (i:Nat) (x:Int):NumB (W.setCell ⟨g,i,none⟩ (.int .i64 x)) g n (fun j=>if j=i then x else f j):=by
 obtain ⟨cur,h1,hn,h2⟩:=h
 refine ⟨_,zj h1 i _,by simpa using hn,fun j hj=>?_⟩
 by_cases e:j=i
 ·subst e
  simp only [if_true]
  rw [zrd _ (by omega)]
 ·simp only [if_neg e]
  rw [Array.getElem?_setIfInBounds,if_neg (fun h=>e h.symm),h2 j hj]
theorem NumB.of_heap {W W':World} {g n:Nat} {f:Nat→Int} (h:NumB W g n f) (e:W'.heap[g]? = W.heap[g]?):NumB W' g n f:=by
 obtain ⟨cur,h1,h2⟩:=h
 exact ⟨cur,e.trans h1,h2⟩
theorem NumB.congr {W:World} {g n:Nat} {f f':Nat→Int} (h:NumB W g n f) (e:∀ j,j < n→f j=f' j):NumB W g n f':=by
 obtain ⟨cur,h1,h2,h3⟩:=h
 exact ⟨cur,h1,h2,fun j hj=>by rw [h3 j hj,e j hj]⟩
theorem Owns.numB {W:World} {B g n cap:Nat} {l:List Int} (h:Owns W B 3 1 (.slice (some ⟨g,0,none⟩) n cap) (l.map iRow)):n=l.length∧n≤cap∧cap≤9223372036854775807∧B≤g∧NumB W g n (gt l):=by
 rcases h.1.2 with ⟨hv,_⟩ | ⟨g',cap',cur,hv,hb,hg,hn,hm,hsz,ht⟩
 ·cases hv
 ·simp only [Value.slice.injEq,Option.some.injEq,Addr.mk.injEq] at hv
  obtain ⟨⟨rfl,-,-⟩,rfl,rfl⟩:=hv
  rw [List.length_map] at *
  refine ⟨rfl,hn,by simpa [maxLen] using hm,hb,cur,hg,by rw [hsz];omega,fun j hj=>?_⟩
  obtain ⟨_,_,e,_,_,hf⟩:=h.form
  rcases hf with ⟨h0,_⟩ | ⟨g'',h0,_,_,hr,_⟩
  ·have:=List.map_eq_nil_iff.1 h0;subst this;simp at hj
  ·simp only [Value.slice.injEq] at e
   rw [← e.1] at h0
   cases h0
   have:=hr j (by simpa using hj) 0 (by simp [iRow])
   rw [cell_of_row _ _ _ _ _ _ hg] at this
   simp only [List.getElem_map,iRow,List.getElem_cons_zero,Nat.zero_add,Nat.mul_one,Nat.add_zero] at this
   rw [this,gt_get hj]
theorem Owns.cellsN {W:World} {B:Nat} {v:Value} {l:List Int} (h:Owns W B 3 1 v (l.map iRow)) (hne:0 < l.length):∃ g cap,v = .slice (some ⟨g,0,none⟩) l.length cap∧l.length≤cap∧cap≤9223372036854775807∧B≤g∧NumB W g l.length (gt l):=by
 obtain ⟨sa,cap,rfl,h1,h2,hf⟩:=h.form
 rcases hf with ⟨h0,_⟩ | ⟨g,rfl,_⟩
 ·have:=List.map_eq_nil_iff.1 h0;rw [this] at hne;simp at hne
 ·obtain ⟨hn,hc,hm,hB,hN⟩:=h.numB
  rw [hn] at hN
  exact ⟨g,cap,by rw [hn],by rw [hn] at hc;exact hc,hm,hB,hN⟩
theorem NumB.intsC {W:World} {g n cap:Nat} {c:List Int} (h:NumB W g n (gt c)) (hn:n=c.length) (h1:n≤cap) (h2:cap≤9223372036854775807):IsInts W .i64 (.slice (some ⟨g,0,none⟩) n cap) c:=by
 have:=IsInts.mk (w:=W) (k:=.i64) (l:=c) (b:=g) (off:=0) (cap:=cap) (by omega) h2 fun i hi=>by
  rw [Nat.zero_add,h.cell i (by omega),gt_get hi]
 rwa [← hn] at this
theorem zn7 {g:Nat} {t:TypeId}:∀ (l:List Value) (o:Nat) (W:World) (cur:Array Value),W.heap[g]? = some (.cells cur t (0,0))→∃ cur',(W.setCells g o l).heap[g]? = some (.cells cur' t (0,0))∧cur'.size=cur.size ∧
  ∀ q,q < cur.size→cur'[q]? = if h:o≤q∧q < o+l.length then some (l[q - o]'(by omega)) else cur[q]?
 | [],o,W,cur,h=>⟨cur,h,rfl,fun q _=>by rw [dif_neg (by rw [List.length_nil];omega)]⟩
 | v :: l,o,W,cur,h=>by
  rw [World.setCells]
  obtain ⟨cur',h1,h2,h3⟩:=zn7 l (o+1) _ _ (zj h o v)
  refine ⟨cur',h1,by simpa using h2,fun q hq=>?_⟩
  rw [h3 q (by simpa using hq)]
  by_cases e:o=q
  ·subst e
   rw [dif_neg (by omega),dif_pos ⟨Nat.le_refl _,by simp⟩,zrd _ hq]
   simp
  ·by_cases e2:o+1≤q∧q < o+1+l.length
   ·rw [dif_pos e2,dif_pos ⟨by omega,by rw [List.length_cons];omega⟩]
    congr 1
    rw [List.getElem_cons,dif_neg (by omega)]
    congr 1
   ·rw [dif_neg e2,dif_neg (by rw [List.length_cons];omega),zzg _ e]
theorem zmt {g:Nat} {w:World}:∀ (l:List Value) (o:Nat) {W:World},Kept (fun k=>k≠g) w W→Kept (fun k=>k≠g) w (W.setCells g o l)
 | [],_,_,h=>h
 | v :: l,o,_,h=>zmt l (o+1) (h.setCell (p:=⟨g,o,none⟩) (fun _ hh=>hh rfl) v)
theorem NumB.sets {W:World} {g n:Nat} {f:Nat→Int} (h:NumB W g n f) (l:List Int) (hl:l.length≤n):NumB (W.setCells g 0 (l.map (Value.int .i64))) g l.length (gt l):=by
 obtain ⟨cur,h1,hn,h2⟩:=h
 obtain ⟨cur',g1,g2,g3⟩:=zn7 (l.map (Value.int .i64)) 0 W cur h1
 refine ⟨cur',g1,by omega,fun j hj=>?_⟩
 rw [g3 j (by omega),dif_pos (by rw [List.length_map];omega)]
 simp [gt_get hj]
theorem NumB.less {W:World} {g n m:Nat} {f:Nat→Int} (h:NumB W g n f) (hm:m≤n):NumB W g m f:=by
 obtain ⟨cur,h1,h2,h3⟩:=h
 exact ⟨cur,h1,by omega,fun j hj=>h3 j (by omega)⟩
end Go.Proofs.YtkbaiobnibmmgaaGreat
namespace Go.Proofs.YtkbaiobnibmmgaaGreat
open Go.RowKit Go.Shelf
def zmk (l:List Int):List Int:=l.mergeSort fun x y=>decide (x≤y)
theorem zif (l:List Int):(zmk l).length=l.length:=List.length_mergeSort l
theorem NumB.take {W:World} {g:Nat} {l:List Int} (h:NumB W g l.length (gt l)):∃ cur:Array Value,W.heap[g]? = some (.cells cur 3 (0,0))∧l.length≤cur.size∧cur.toList.take l.length=l.map (Value.int .i64):=by
 obtain ⟨cur,h1,h2,h3⟩:=h
 refine ⟨cur,h1,h2,?_⟩
 apply List.ext_getElem?
 intro j
 by_cases hj:j < l.length
 ·rw [List.getElem?_take_of_lt hj,Array.getElem?_toList,h3 j hj,List.getElem?_map,List.getElem?_eq_getElem hj,gt_get hj];rfl
 ·rw [List.getElem?_take_eq_none (by omega),List.getElem?_eq_none (by simp;omega)]
theorem z30 (g cap:Nat) (l:List Int) (w:World) (h:NumB w g l.length (gt l)) (hl:l.length≤1000000) :
  Calls Tryz.prog 200 #[.slice (some ⟨g,0,none⟩) l.length cap] w fun e w'=>e = .returned (.tuple #[])∧Kept (fun k=>k≠g) w w'∧NumB w' g l.length (gt (zmk l)):=by
 obtain ⟨cur,h1,h2,h3⟩:=h.take
 refine (Tryz.slices_Sort_int g 0 cap l w (Go.holds_of_blockI h1 h3) h.lt (by omega)).mono ?_
 rintro e w' ⟨rfl,n,os,rfl⟩
 refine ⟨rfl,(Kept.refl _ w).grown (Go.grownBy_sortedI _) (fun k hk _ hn=>by cases hk;exact hn rfl),_,Go.heap_sortedI _ h1,by simp [Sort.putCells];omega,fun j hj=>?_⟩
 have ht:=Go.take_putCellsI cur (zmk l) (by rw [zif];exact h2)
 have hj':j < (zmk l).length:=by rw [zif];exact hj
 have h4:=congrArg (fun m=>m[j]?) ht
 rw [List.getElem?_take_of_lt hj',Array.getElem?_toList,List.getElem?_map,List.getElem?_eq_getElem hj',gt_get hj'] at h4
 exact h4
theorem zyl (g cap i:Nat) (l:List Int) (w:World) (h:NumB w g l.length (gt l)) (hc:l.length≤cap) (hm:cap≤9223372036854775807) (hi:i < l.length) :
  Calls Tryz.prog 72 #[.slice (some ⟨g,0,none⟩) l.length cap,.int .i64 i,.int .i64 ((i:Int)+1)] w fun e w'=>e = .returned (.slice (some ⟨g,0,none⟩) (l.length - 1) cap)∧Kept (fun k=>k≠g) w w'∧NumB w' g (l.length - 1) (gt (l.take i ++ l.drop (i+1))):=by
 have hd:=Tryz.slices_Delete_int_cells g 0 l.length cap i (i+1) l w (Nat.le_refl _) hc hm (by omega) (by omega) (fun j hj=>by rw [Nat.zero_add];exact h.cell j hj) (fun j hj=>h.free _)
 rw [Int.natCast_add,Int.natCast_one] at hd
 refine hd.mono ?_
 rintro e w' ⟨rfl,q,rfl⟩
 have e1:i+1 - i=1:=by omega
 rw [e1]
 rw [List.take_length]
 have hn:=(h.of_heap (W':=w.drewN q) rfl).sets (l.take i ++ l.drop (i+1) ++ List.replicate 1 0) (by simp;omega)
 have hlen:(l.take i ++ l.drop (i+1)).length=l.length - 1:=by simp;omega
 refine ⟨rfl,zmt _ _ ⟨rfl,rfl,rfl,Nat.le_refl _,fun _ _ _=>rfl⟩,(hn.less (m:=l.length - 1) (by simp;omega)).congr fun j hj=>?_⟩
 unfold gt
 rw [List.getD_eq_getElem?_getD,List.getD_eq_getElem?_getD,List.getElem?_append_left (by omega)]
end Go.Proofs.YtkbaiobnibmmgaaGreat
namespace Go.Proofs.YtkbaiobnibmmgaaGreat
def chkG:List Int→List Int→Option (List Int)
 | left,[]=>some left
 | left,r :: g=>if r∈left then chkG (left.erase r) g else none
def chkF:List Int→List (List Int)→Option (List Int)
 | left,[]=>some left
 | left,g :: fs=>if g=[]∨rising g=false then none else (chkG left g).bind fun l=>chkF l fs
def za2 (b:Bk) (fs:List (List Int)):Int:=if zai b≠0 then zai b else if chkF (runL b) fs=some [] then 0 else 22
theorem zqf:∀ (g h left:List Int),chkG left (g ++ h)=(chkG left g).bind fun l=>chkG l h
 | [],h,left=>rfl
 | r :: g,h,left=>by
  simp only [List.cons_append,chkG]
  split
  ·exact zqf g h _
  ·rfl
theorem zqg:∀ (fs hs:List (List Int)) (left:List Int),chkF left (fs ++ hs)=(chkF left fs).bind fun l=>chkF l hs
 | [],hs,left=>rfl
 | g :: fs,hs,left=>by
  simp only [List.cons_append,chkF]
  split
  ·rfl
  ·cases chkG left g with
   | none=>rfl
   | some l=>exact zqg fs hs l
theorem z31 {g:List Int} {k:Nat} (h:k < g.length) (left:List Int):chkG left (g.take (k+1))=(chkG left (g.take k)).bind fun l=>if gt g k∈l then some (l.erase (gt g k)) else none:=by
 rw [List.take_add_one,List.getElem?_eq_getElem h,zqf,← gt_get h]
 congr 1
theorem z32 {fs:List (List Int)} {k:Nat} (h:k < fs.length) (left:List Int):chkF left (fs.take (k+1))=(chkF left (fs.take k)).bind fun l=>if fs[k]=[]∨rising fs[k]=false then none else chkG l fs[k]:=by
 rw [List.take_add_one,List.getElem?_eq_getElem h,zqg]
 congr 1
 funext l
 show chkF l [fs[k]]=_
 unfold chkF
 split
 ·rfl
 ·cases chkG l fs[k]<;>rfl
theorem z57 {fs:List (List Int)} {left l:List Int} (h:chkF left fs=some l) (k:Nat):∃ l',chkF left (fs.take k)=some l':=by
 rw [← List.take_append_drop k fs,zqg] at h
 cases e:chkF left (fs.take k) with
 | none=>rw [e] at h;cases h
 | some l'=>exact ⟨l',rfl⟩
theorem z58 {g:List Int} {left l:List Int} (h:chkG left g=some l) (k:Nat):∃ l',chkG left (g.take k)=some l':=by
 rw [← List.take_append_drop k g,zqf] at h
 cases e:chkG left (g.take k) with
 | none=>rw [e] at h;cases h
 | some l'=>exact ⟨l',rfl⟩
theorem zxr {x:Int}:∀ {l:List Int},x∈l→∃ i:Nat,∃ h:i < l.length,l[i]=x∧(∀ z∈l.take i,z≠x)∧l.take i ++ l.drop (i+1)=l.erase x
 | [],h=>by simp at h
 | y :: l,h=>by
  by_cases e:y=x
  ·subst e
   exact ⟨0,by simp,rfl,by simp,by simp⟩
  ·have hx:x∈l:=(List.mem_cons.1 h).resolve_left (fun h=>e h.symm)
   obtain ⟨i,hi,h1,h2,h3⟩:=zxr hx
   refine ⟨i+1,by simpa using hi,by simpa using h1,fun z hz=>?_,?_⟩
   ·rw [List.take_succ_cons] at hz
    rcases List.mem_cons.1 hz with rfl | hz
    ·exact e
    ·exact h2 z hz
   ·rw [List.take_succ_cons,List.drop_succ_cons,List.cons_append,h3,List.erase_cons_tail (by simpa using e)]
theorem z1j {x:Int} {l:List Int} (h:x∈l):∃ i:Nat,i < l.length∧fidx (fun y=>x == y) l=(i:Int)∧l.take i ++ l.drop (i+1)=l.erase x:=by
 obtain ⟨i,hi,h1,h2,h3⟩:=zxr h
 exact ⟨i,hi,zg4 hi (fun z hz=>by have:=h2 z hz;simp;exact fun e=>this e.symm) (by rw [h1];simp),h3⟩
theorem z59 {x:Int} {l:List Int} (h:x ∉ l):fidx (fun y=>x == y) l = -1:=ze4 fun z hz=>by
 simp
 rintro rfl
 exact h hz
end Go.Proofs.YtkbaiobnibmmgaaGreat
namespace Go.Proofs.YtkbaiobnibmmgaaGreat
open Go.RowKit Go.Shelf
structure IsFin (W:World) (v:Value) (ps:List (Value × List Int)):Prop where
 rows:IsRows W 1 v (ps.map fun x=>[x.1])
 ints:∀ x∈ps,IsInts W .i64 x.1 x.2
theorem IsFin.ext {W W':World} (e:Ext W W') {v:Value} {ps:List (Value × List Int)} (h:IsFin W v ps):IsFin W' v ps:=⟨IsRows.ext e h.rows,fun x hx=>(h.ints x hx).ext e⟩
theorem IsFin.spec {w:World} {v:Value} {ps:List (Value × List Int)} (h:IsFin w v ps) :
  ∃ sa cap,v = .slice sa ps.length cap∧ps.length≤cap∧cap≤9223372036854775807∧(ps=[]∨∃ b off,sa=some ⟨b,off,none⟩∧∀ i,(h:i < ps.length)→w.cell? ⟨b,off+i,none⟩=some ps[i].1):=by
 obtain ⟨sa,cap,h1,h2,h3,h4⟩:=h.rows
 refine ⟨sa,cap,by simpa using h1,by simpa using h2,h3,?_⟩
 rcases h4 with h4 | ⟨b,off,e,h4⟩
 ·exact .inl (by simpa using h4)
 ·refine .inr ⟨b,off,e,fun i hi=>?_⟩
  have:=h4 i (by simpa using hi) 0 (by simp)
  simpa using this
def zf (ps:List (Value × List Int)):List (List Int):=ps.map (·.2)
def RetFin (w:World) (b:Bk) (ba:Option Addr) (bcap:Nat) (sa:Option Addr) (scap:Nat) (fs:List (List Int)) (e:Ending) (w':World):Prop :=
 Ext w w'∧((za2 b fs≠0∧e = .returned (.tuple #[.pointer none,.int .i64 (za2 b fs)])) ∨
  (za2 b fs=0∧∃ p m,e = .returned (.tuple #[.pointer (some ⟨p,0,none⟩),.int .i64 0])∧w.heap.size≤p∧IsTill w' p m b ba bcap sa scap))
theorem IsTill.kept {W W':World} {p m g:Nat} {b:Bk} {ba sa:Option Addr} {bcap scap:Nat} (h:IsTill W p m b ba bcap sa scap) (k:Kept (fun j=>j≠g) W W') (hp:p≠g) (hm:m≠g):IsTill W' p m b ba bcap sa scap :=
 ⟨h.till.of_heap (k.same _ h.till.lt hp),h.map.of_heap (k.same _ h.map.lt hm)⟩
theorem zqh {a b c:World} {q:Nat} (h:Ext a b) (k:Kept (fun k=>k≠q) b c) (hq:a.heap.size≤q):Ext a c :=
 Below.trans h ((k.mono (T:=fun k=>k < a.heap.size) (fun i _ hi=>by omega)).below h.size)
theorem z6x {b:Bk} {fs:List (List Int)} (h0:zai b=0) (h:chkF (runL b) fs≠some []):za2 b fs=22:=by
 unfold za2
 rw [if_neg (fun e=>e h0),if_neg h]
theorem zqi {b:Bk} {fs:List (List Int)} (h0:zai b=0) (k:Nat) (h:chkF (runL b) (fs.take k)=none):za2 b fs=22:=z6x h0 fun e=>by
 obtain ⟨l,hl⟩:=z57 e k
 rw [h] at hl;cases hl
set_option maxRecDepth 100000 in
set_option maxHeartbeats 4000000 in
theorem zn8 (ps:List (Value × List Int)) (fv:Value) (b:Bk) (ba sa:Option Addr) (bcap scap:Nat) (w:World) (hv:IsBook w b ba bcap sa scap) (hf:IsFin w fv ps) :
  Calls Tryz.prog 31 #[.agg #[.int .i64 b.kd,.int .i64 b.n,.slice ba b.bets.length bcap,.slice sa b.scr.length scap,.bool b.fav,.int .i64 b.car,.int .i64 b.duty,.int .i64 b.step],fv] w (RetFin w b ba bcap sa scap (zf ps)):=by
 obtain ⟨fa,fcap,rfl,hf1,hf2,-⟩:=hf.spec
 have HF0:=Lib.hid hf
 clear hf
 have HV:=Lib.hid hv
 clear hv
 go_enter Tryz.func31,Tryz.ntmps31
 go_upto_region 1 with (fail)
 obtain ⟨W0,hW0⟩:∃ W0,W0=w.alloc (.cells #[.int .i64 b.kd,.int .i64 b.n,.slice ba b.bets.length bcap,.slice sa b.scr.length scap,.bool b.fav,.int .i64 b.car,.int .i64 b.duty,.int .i64 b.step] 25):=⟨_,rfl⟩
 have hE:Ext w W0:=by rw [hW0];exact xx
 have k0:W0.cell? ⟨w.heap.size,0,none⟩=some (.int .i64 b.kd):=by rw [hW0];simp [go_sem]
 have k1:W0.cell? ⟨w.heap.size,1,none⟩=some (.int .i64 b.n):=by rw [hW0];simp [go_sem]
 have k2:W0.cell? ⟨w.heap.size,2,none⟩=some (.slice ba b.bets.length bcap):=by rw [hW0];simp [go_sem]
 have k3:W0.cell? ⟨w.heap.size,3,none⟩=some (.slice sa b.scr.length scap):=by rw [hW0];simp [go_sem]
 have k4:W0.cell? ⟨w.heap.size,4,none⟩=some (.bool b.fav):=by rw [hW0];simp [go_sem]
 have k5:W0.cell? ⟨w.heap.size,5,none⟩=some (.int .i64 b.car):=by rw [hW0];simp [go_sem]
 have k6:W0.cell? ⟨w.heap.size,6,none⟩=some (.int .i64 b.duty):=by rw [hW0];simp [go_sem]
 have k7:W0.cell? ⟨w.heap.size,7,none⟩=some (.int .i64 b.step):=by rw [hW0];simp [go_sem]
 have hz:w.heap.size < W0.heap.size:=World.block_lt_of_cell? _ _ k0
 have HS:=Lib.hid (HV.out.ext hE)
 have HW:=Lib.hid hE
 rw [← hW0]
 clear hW0 HV
 clear hE
 go_wp2_with fail
 refine (zxq b ba sa bcap scap _ HS.out).mono ?_
 rintro e W1 ⟨hE1,⟨hne,rfl⟩ | ⟨h0,p,m,rfl,hp,hT⟩⟩
 ·obtain ⟨er,her⟩:∃ er,er=zai b:=⟨_,rfl⟩
  rw [← her] at hne ⊢
  have f1:(er != 0)=true:=by simpa using hne
  have HNE:=Lib.hid hne
  have HER:=Lib.hid her.symm
  have HE1:=Lib.hid (HW.out.trans' hE1)
  clear her hE1 hne k0 k1 k2 k3 k4 k5 k6 k7
  go_wp2_with fail
  refine bodyPost_ret (v:=.tuple #[.pointer none,.int .i64 er]) (by simp [results,Tryz.results31,go_sem]) rfl ?_
  have hfe:za2 b (zf ps)=er:=by unfold za2;rw [HER.out,if_pos HNE.out]
  exact ⟨HE1.out,.inl ⟨by rw [hfe];exact HNE.out,by rw [hfe]⟩⟩
 have V:=Lib.hid (zo6 h0)
 have H0:=Lib.hid h0
 have HT:=Lib.hid hT
 have HE1:=Lib.hid (HW.out.trans' hE1)
 have HS1:=Lib.hid (HS.out.ext hE1)
 have hp1:=HW.out.size
 have t1:=hT.till.c1
 have t3:=hT.till.c3
 have hzp:=hT.till.lt
 have hzm:=hT.map.lt
 clear hT hE1 h0 k0 k1 k2 k3 k4 k5 k6 k7 HS
 go_wp2_with fail
 refine (zpt b sa scap p _ V.out.n t1 t3 HS1.out.scr).mono ?_
 rintro e W2 ⟨lv,rfl,hE2,hown⟩
 have hl2:=zf0 V.out
 obtain ⟨g,lc,rfl,hg1,hg2,hgB,hN⟩:=hown.cellsN (by omega)
 have HE2:=Lib.hid (HE1.out.trans' hE2)
 have HT2:=Lib.hid (HT.out.ext hE2)
 have HN2:=Lib.hid hN
 have hgp:p≠g:=by omega
 have hgm:m≠g:=by omega
 have hgw:w.heap.size≤g:=by omega
 clear hown hN hE2 t1 t3 hzp hzm HT HE1 HS1
 obtain ⟨ln,hln⟩:∃ ln,ln=(runL b).length:=⟨_,rfl⟩
 rw [← hln] at hg1 HN2 ⊢
 have HLN:=Lib.hid hln
 have hl8:=zo7 V.out
 clear hln hl2 hl8
 go_wp2_with fail
 go_loopw [8,26] (fun lv iv W=>∃ (k:Nat) (left:List Int),k≤ps.length∧iv = .int .i64 k∧lv = .slice (some ⟨g,0,none⟩) left.length lc∧left.length≤lc∧chkF (runL b) ((zf ps).take k)=some left∧NumB W g left.length (gt left)∧Kept (fun j=>j≠g) W2 W) (fun _ iv _=>ps.length - (intOf iv).toNat)
 case atStart=>exact ⟨0,runL b,by omega,rfl,by rw [HLN.out],by rw [← HLN.out];exact hg1,rfl,by rw [← HLN.out];exact HN2.out,Kept.refl _ _⟩
 case round =>
  obtain ⟨k,left,hk,rfl,rfl,hll,hch,hnum,hkp⟩:=hrel
  have hEw:=zqh HE2.out hkp hgw
  have HNUM:=Lib.hid hnum
  have HKP:=Lib.hid hkp
  have HCH:=Lib.hid hch
  by_cases hlt:k < ps.length
  ·have hki:(k:Int) < (ps.length:Int):=by omega
   obtain ⟨_,_,e,-,-,hcc⟩:=HF0.out.spec
   cases e
   rcases hcc with hcc | ⟨fb,fo,rfl,hcc⟩
   ·rw [hcc] at hlt;simp at hlt
   have cf:=zb hEw (hcc k hlt)
   have hI:=HF0.out.ints ps[k] (List.getElem_mem hlt)
   have hfk:(zf ps)[k]'(by simpa [zf] using hlt)=ps[k].2:=by simp [zf]
   have hct:=z32 (fs:=zf ps) (k:=k) (by simpa [zf] using hlt) (runL b)
   rw [hch,hfk] at hct
   obtain ⟨gv,hgv⟩:∃ gv,gv=ps[k].1:=⟨_,rfl⟩
   obtain ⟨gl,hgl⟩:∃ gl,gl=ps[k].2:=⟨_,rfl⟩
   rw [← hgv] at cf hI
   rw [← hgl] at hI hct
   obtain ⟨ga,gc,rfl,hgl1,hgl2,-⟩:=hI.spec
   have HI:=Lib.hid hI
   have HCT:=Lib.hid hct
   have HEW:=Lib.hid hEw
   have hzf:=World.block_lt_of_cell? _ _ cf
   simp only at hzf
   clear hfk hgv hgl hI hct hch hcc hnum hkp hEw
   by_cases hg0:gl=[]
   ·have HFE:=Lib.hid (zqi H0.out (k+1) (by rw [HCT.out];show (if gl=[]∨_ then none else _)=none;rw [if_pos (.inl hg0)]):za2 b (zf ps)=22)
    have f1:((gl.length:Int) == 0)=true:=by rw [hg0];rfl
    have f2:decide (gl.length=0)=true:=by rw [hg0];rfl
    go_wp2_with fail
    refine bodyPost_ret (v:=.tuple #[.pointer none,.int .i64 22]) (by simp [results,Tryz.results31,go_sem]) rfl ?_
    exact ⟨HEW.out.trans' (by exact xx),.inl ⟨by rw [HFE.out];decide,by rw [HFE.out]⟩⟩
   have hgn:gl.length≠0:=fun h=>hg0 (List.eq_nil_of_length_eq_zero h)
   have f1:((gl.length:Int) == 0)=false:=by rw [beq_eq_false_iff_ne];omega
   have f2:¬ ((gl.length:Int)=0):=by omega
   have HG0:=Lib.hid hg0
   go_wp2_with fail
   refine (zr9 gl _ _ (HI.out.ext (HEW.out.trans' (by exact xx)))).mono ?_
   rintro e W3 ⟨rfl,hE3⟩
   have hk3:Kept (fun j=>j≠g) W2 W3:=HKP.out.trans (Kept.of_below (Ext.trans' (by exact xx) hE3))
   have hn3:=HNUM.out.of_heap (W':=W3) ((Ext.trans' (by exact xx) hE3:Ext wr W3).block _ HNUM.out.lt)
   have HE3:=Lib.hid (HEW.out.trans' (Ext.trans' (by exact xx) hE3))
   have HK3:=Lib.hid hk3
   have HN3:=Lib.hid hn3
   clear hE3 hk3 hn3 cf hzf
   cases hr:rising gl
   ·have HFE:=Lib.hid (zqi H0.out (k+1) (by rw [HCT.out];show (if gl=[]∨_ then none else _)=none;rw [if_pos (.inr hr)]):za2 b (zf ps)=22)
    clear hr
    go_wp2_with fail
    refine bodyPost_ret (v:=.tuple #[.pointer none,.int .i64 22]) (by simp [results,Tryz.results31,go_sem]) rfl ?_
    exact ⟨HE3.out.trans' (by exact xx),.inl ⟨by rw [HFE.out];decide,by rw [HFE.out]⟩⟩
   have HGT:Hid (chkF (runL b) ((zf ps).take (k+1))=chkG left gl):=Lib.hid (by rw [HCT.out];show (if gl=[]∨_ then none else _)=_;rw [if_neg (by rw [hr];simp [HG0.out])])
   clear hr HCT
   go_wp2_with fail
   go_loopw [8,40] (fun lv iv W=>∃ (i:Nat) (lf:List Int),i≤gl.length∧iv = .int .i64 i∧lv = .slice (some ⟨g,0,none⟩) lf.length lc∧lf.length≤lc∧chkG left (gl.take i)=some lf∧NumB W g lf.length (gt lf)∧Kept (fun j=>j≠g) W2 W) (fun _ iv _=>gl.length - (intOf iv).toNat)
   case atStart=>exact ⟨0,left,by omega,rfl,rfl,hll,rfl,HN3.out.of_heap rfl,HK3.out.trans (Kept.of_below (by exact xx))⟩
   case round =>
    obtain ⟨i,lf,hi,rfl,rfl,hlf,hcg,hnum,hkp⟩:=hrel
    have hEi:=zqh HE2.out hkp hgw
    have HEI:=Lib.hid hEi
    have HNI:=Lib.hid hnum
    have HKI:=Lib.hid hkp
    by_cases hil:i < gl.length
    ·have hii:(i:Int) < (gl.length:Int):=by omega
     have hgt:=z31 hil left
     rw [hcg] at hgt
     obtain ⟨_,_,e,-,-,hcc⟩:=HI.out.spec
     cases e
     rcases hcc with hcc | ⟨gb,go,rfl,hcc⟩
     ·exact absurd hcc HG0.out
     have cr:=zb hEi (hcc i hil)
     rw [gt_get] at cr
     obtain ⟨r,hr⟩:∃ r,r=gt gl i:=⟨_,rfl⟩
     rw [← hr] at cr hgt
     have hzr:=World.block_lt_of_cell? _ _ cr
     simp only at hzr
     have HGG:=Lib.hid hgt
     clear hgt hcg hcc hnum hkp hEi hr
     go_wp2_with fail
     refine (ztu lf r (.slice (some ⟨g,0,none⟩) lf.length lc) _ ((HNI.out.of_heap rfl).intsC rfl hlf hg2)).mono ?_
     rintro e W4 ⟨rfl,hE4⟩
     have hEE:Ext wr W4:=Ext.trans' (by exact xx) hE4
     have HK4:=Lib.hid (HKI.out.trans (Kept.of_below hEE))
     have HN4:=Lib.hid (HNI.out.of_heap (hEE.block _ HNI.out.lt))
     have HE4:=Lib.hid (HEI.out.trans' hEE)
     clear hE4 hEE cr hzr
     by_cases hm:r∈lf
     ·obtain ⟨i0,hi0,hfx,her⟩:=z1j hm
      have hgt:=HGG.out
      have hgt2:chkG left (gl.take (i+1))=some (lf.erase r):=by rw [hgt];show (if r∈lf then some (lf.erase r) else none)=_;rw [if_pos hm]
      have hle:(lf.erase r).length=lf.length - 1:=List.length_erase_of_mem hm
      rw [hfx]
      have d1:decide ((i0:Int) < 0)=false:=decide_eq_false (by omega)
      have d2:¬ ((i0:Int) < 0):=by omega
      have hw1:IntKind.i64.wrap ((i0:Int)+1)=(i0:Int)+1:=IntWalk.i64_in _ (by omega)
      have HHE:=Lib.hid her
      have HG2:=Lib.hid hgt2
      have HLE:=Lib.hid hle
      clear hfx her hgt hgt2 hle hm
      go_wp2_with fail
      refine (zyl g lc i0 lf _ (HN4.out.of_heap rfl) hlf hg2 hi0).mono ?_
      rintro e W5 ⟨rfl,hk5,hn5⟩
      rw [HHE.out] at hn5
      have HK5:=Lib.hid ((HK4.out.trans (Kept.of_below (by exact xx))).trans hk5)
      have HN5:=Lib.hid hn5
      clear hk5 hn5
      go_wp2_with fail
      go_roundw
      case rel=>exact ⟨i+1,lf.erase r,by omega,by go_num,by rw [HLE.out],by rw [HLE.out];omega,HG2.out,by rw [HLE.out];exact HN5.out.of_heap rfl,HK5.out.trans (Kept.of_below (by exact xx))⟩
      case measure=>simp [intOf];omega
     ·have hno:chkG left gl=none:=by
       cases hx:chkG left gl with
       | none=>rfl
       | some l' =>
        obtain ⟨l2,h2⟩:=z58 hx (i+1)
        rw [HGG.out] at h2
        have h3:(if r∈lf then some (lf.erase r) else none)=some l2:=h2
        rw [if_neg hm] at h3;cases h3
      have HFE:=Lib.hid (zqi H0.out (k+1) (by rw [HGT.out];exact hno):za2 b (zf ps)=22)
      rw [z59 hm]
      clear hno hm
      go_wp2_with fail
      refine bodyPost_ret (v:=.tuple #[.pointer none,.int .i64 22]) (by simp [results,Tryz.results31,go_sem]) rfl ?_
      exact ⟨HE4.out.trans' (by exact xx),.inl ⟨by rw [HFE.out];decide,by rw [HFE.out]⟩⟩
    ·have hii:¬ ((i:Int) < (gl.length:Int)):=by omega
     have hie:i=gl.length:=by omega
     rw [hie,List.take_length] at hcg
     have HCG:=Lib.hid hcg
     clear hie hcg hnum hkp hEi
     go_wp2_with fail
     go_roundw
     case rel=>exact ⟨k+1,lf,by omega,by go_num,rfl,hlf,HGT.out.trans HCG.out,HNI.out.of_heap rfl,HKI.out.trans (Kept.of_below (by exact xx))⟩
     case measure=>simp [intOf];omega
  ·have hki:¬ ((k:Int) < (ps.length:Int)):=by omega
   have hke:(zf ps).take k=zf ps:=List.take_of_length_le (by simp [zf];omega)
   rw [hke] at hch
   have HCH2:=Lib.hid hch
   have HEW:=Lib.hid hEw
   clear hke hch hnum hkp hEw HCH
   by_cases hl0:left=[]
   ·subst hl0
    have HFE:Hid (za2 b (zf ps)=0):=Lib.hid (by unfold za2;rw [if_neg (fun e=>e H0.out),if_pos HCH2.out])
    have f1:decide ((0:Int) < (([]:List Int).length:Int))=false:=rfl
    go_wp2_with fail
    refine bodyPost_ret (v:=.tuple #[.pointer (some ⟨p,0,none⟩),.int .i64 0]) (by simp [results,Tryz.results31,go_sem]) rfl ?_
    exact ⟨HEW.out.trans' (by exact xx),.inr ⟨HFE.out,p,m,rfl,by omega,(HT2.out.kept HKP.out hgp hgm).ext (by exact xx)⟩⟩
   ·have HFE:=Lib.hid (z6x H0.out (fun e=>by rw [HCH2.out] at e;exact hl0 (Option.some.inj e)):za2 b (zf ps)=22)
    have hpos:0 < left.length:=List.length_pos_iff.2 hl0
    have f1:decide ((0:Int) < (left.length:Int))=true:=decide_eq_true (by omega)
    have f2:(0:Int) < (left.length:Int):=by omega
    clear hl0
    go_wp2_with fail
    refine bodyPost_ret (v:=.tuple #[.pointer none,.int .i64 22]) (by simp [results,Tryz.results31,go_sem]) rfl ?_
    exact ⟨HEW.out.trans' (by exact xx),.inl ⟨by rw [HFE.out];decide,by rw [HFE.out]⟩⟩
end Go.Proofs.YtkbaiobnibmmgaaGreat
