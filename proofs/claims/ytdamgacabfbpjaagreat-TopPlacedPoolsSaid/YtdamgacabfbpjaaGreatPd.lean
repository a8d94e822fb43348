/-
  The walks of slices.Grow at the nil slice, of slices.Concat, and of firsts: the runners of the first groups, increasing.
-/
import Derived.Test.YtdamgacabfbpjaaGreatPc
import Derived.Lib.AppendZeros
import Derived.Test.YtdamgacabfbpjaaGreatBa
import Derived.Test.YtdamgacabfbpjaaGreatBb
namespace Go.Proofs.YtdamgacabfbpjaaGreat
open Go.RowKit Go.Shelf
def OwnI (W:World) (B:Nat) (v:Value) (l:List Int):Prop:=Owns W B 3 1 v (l.map iRow)
theorem OwnI.ext {W W':World} {B:Nat} {v:Value} {l:List Int} (h:OwnI W B v l) (e:Ext W W'):OwnI W' B v l:=Owns.ext e h
theorem z88:∃ i,Tryz.prog.info? 3=some i∧i.zero=some (.int .i64 0)∧i.size=1∧i.bytes=8:=info_parts (by kernel_rfl)
set_option maxRecDepth 100000 in
set_option maxHeartbeats 1000000 in
theorem zxo (n:Nat) (w:World) (hn:n≤1000) :
  Calls Tryz.prog 178 #[.slice none 0 0,.int .i64 n] w fun e w'=>∃ v,e = .returned v∧Ext w w'∧Owns w' w.heap.size 3 1 v ([].map iRow):=by
 have hw1:IntKind.i64.wrap (n:Int)=(n:Int):=IntWalk.i64_in _ (by omega)
 have d1:¬ ((n:Int) < 0):=by omega
 by_cases h0:n=0
 ·subst h0
  go_enter Tryz.func178,Tryz.ntmps178
  go_wp2_with fail
  go_ret
  exact ⟨_,rfl,by exact xx,Owns.nil _ _ _ _⟩
 ·have d2:decide ((0:Int) < (n:Int))=true:=decide_eq_true (by omega)
  have d3:(0:Int) < (n:Int):=by omega
  obtain ⟨i,hi,hz,hs,hby⟩:=z88
  have hrun:=fun (ty:TypeId) (W:World)=>Lib.run_append_nil_zeros (P:=Tryz.prog) W 28 3 ty 3 i (.int .i64 0) .i64 .i64 (by kernel_rfl) (by kernel_rfl) hi hz n (by omega) (by omega) (by omega) (by rw [hby];omega)
  have HR:=Lib.hid hrun
  clear hrun hi hz hs hby
  go_enter Tryz.func178,Tryz.ntmps178
  go_wp2_with (at_builtin;refine Lib.wpList_append_run _ rfl (.tmp 20) (.tmp 21) 28 3 rfl (.slice none 0 0) (.int .i64 n) rfl rfl _ _ (HR.out _ _) ?_)
  obtain ⟨cp,hcp⟩:∃ cp,cp=grownCap w n 0 3:=⟨_,rfl⟩
  have hge:n≤cp:=by rw [hcp];exact grownCap_ge _ _ _ _
  have hle:cp≤maxLen:=by rw [hcp];exact grownCap_le_maxLen _ _ _ _ (by simp [maxLen];omega)
  rw [← hcp]
  obtain ⟨W1,hW1⟩:∃ W1,W1=(w.alloc (.cells (Builtin.zeroCells #[.int .i64 0] n ++ Builtin.zeroCells #[.int .i64 0] (cp - n)) 3)).drew:=⟨_,rfl⟩
  have hrow:W1.heap[w.heap.size]? = some (.cells (Builtin.zeroCells #[.int .i64 0] n ++ Builtin.zeroCells #[.int .i64 0] (cp - n)) 3 (0,0)):=by
   rw [hW1];exact World.alloc_heap_new w _
  have hE:Ext w W1:=by rw [hW1];exact xx
  have hown:Owns W1 w.heap.size 3 1 (.slice (some ⟨w.heap.size,0,none⟩) 0 cp) ([].map iRow) :=
   ⟨⟨by simp,.inr ⟨w.heap.size,cp,_,by simp,Nat.le_refl _,hrow,by simp,hle,by simp [size_zeroCells];omega,by simp⟩⟩,by simp⟩
  rw [← hW1]
  clear hW1 hrow hcp hle
  go_ret
  exact ⟨_,rfl,hE,hown⟩
theorem ztf {fs:List (List Int)} {k:Nat} (h:k < fs.length):(fs.take (k+1)).flatten=(fs.take k).flatten ++ fs[k]:=by
 rw [List.take_add_one,List.getElem?_eq_getElem h,List.flatten_append]
 simp only [Option.toList_some,List.flatten_cons,List.flatten_nil,List.append_nil]
theorem zkv (fs:List (List Int)) (k:Nat):(fs.take k).flatten.length≤fs.flatten.length:=by
 conv=>rhs;rw [← List.take_append_drop k fs]
 rw [List.flatten_append,List.length_append];omega
set_option maxRecDepth 100000 in
set_option maxHeartbeats 1000000 in
theorem z0h (ps:List (Value × List Int)) (fv:Value) (w:World) (hf:IsFin w fv ps) (hl:(zg ps).flatten.length≤1000) (hne:∀ x∈ps,x.2≠[]) :
  Calls Tryz.prog 111 #[fv] w fun e w'=>∃ v,e = .returned v∧Ext w w'∧OwnI w' w.heap.size v (zg ps).flatten:=by
 obtain ⟨fa,fcap,rfl,hf1,hf2,-⟩:=hf.spec
 have HF:=Lib.hid hf
 have HL:=Lib.hid hl
 have HNE:=Lib.hid hne
 have hfl:(zg ps).length=ps.length:=by simp [zg]
 have HFL:=Lib.hid hfl
 clear hf hl hfl hne
 go_enter Tryz.func111,Tryz.ntmps111
 go_wp2_with fail
 go_loopw [3,11] (fun sv iv W=>∃ k:Nat,k≤ps.length∧iv = .int .i64 k∧sv = .int .i64 (((zg ps).take k).flatten.length:Nat)∧Ext w W) (fun _ iv _=>ps.length - (intOf iv).toNat)
 case atStart=>exact ⟨0,by omega,rfl,by simp,Below.refl _ _⟩
 case round =>
  obtain ⟨k,hk,rfl,rfl,hE⟩:=hrel
  have HE:=Lib.hid hE
  have hb1:=Nat.le_trans (zkv (zg ps) k) HL.out
  by_cases hlt:k < ps.length
  ·have hki:(k:Int) < (ps.length:Int):=by omega
   obtain ⟨_,_,e,-,-,hcc⟩:=HF.out.spec
   cases e
   rcases hcc with hcc | ⟨fb,fo,rfl,hcc⟩
   ·rw [hcc] at hlt;simp at hlt
   have cf:=zb hE (hcc k hlt)
   have hI:=HF.out.ints ps[k] (List.getElem_mem hlt)
   have hft:=ztf (fs:=zg ps) (k:=k) (by rw [HFL.out];exact hlt)
   have hb2:=Nat.le_trans (zkv (zg ps) (k+1)) HL.out
   have hfk:(zg ps)[k]'(by rw [HFL.out];exact hlt)=ps[k].2:=by simp [zg]
   rw [hfk] at hft
   obtain ⟨gv,hgv⟩:∃ gv,gv=ps[k].1:=⟨_,rfl⟩
   obtain ⟨gl,hgl⟩:∃ gl,gl=ps[k].2:=⟨_,rfl⟩
   rw [← hgv] at cf hI
   rw [← hgl] at hI hft
   obtain ⟨ga,gc,rfl,hgl1,hgl2,-⟩:=hI.spec
   have hlen:=congrArg List.length hft
   rw [List.length_append] at hlen
   obtain ⟨n1,hn1⟩:∃ n1,n1=((zg ps).take k).flatten.length:=⟨_,rfl⟩
   obtain ⟨n2,hn2⟩:∃ n2,n2=((zg ps).take (k+1)).flatten.length:=⟨_,rfl⟩
   rw [← hn1] at hlen hb1 ⊢
   rw [← hn2] at hlen hb2
   have hw1:IntKind.i64.wrap ((n1:Int)+(gl.length:Int))=(n1:Int)+(gl.length:Int):=IntWalk.i64_in _ (by omega)
   have d1:decide ((n1:Int)+(gl.length:Int) < 0)=false:=decide_eq_false (by omega)
   have d2:¬ ((n1:Int)+(gl.length:Int) < 0):=by omega
   have HLEN:=Lib.hid (show ((n2:Nat):Int)=(n1:Int)+(gl.length:Int) by omega)
   have HN2:=Lib.hid hn2
   have hzf:=World.block_lt_of_cell? _ _ cf
   simp only at hzf
   clear hcc hI hft hfk hgv hgl hlen hn1 hn2 hE
   go_wp2_with fail
   go_roundw
   case rel=>exact ⟨k+1,by omega,by go_num,by rw [← HN2.out,HLEN.out],HE.out.trans' (by exact xx)⟩
   case measure=>simp [intOf];omega
  ·have hki:¬ ((k:Int) < (ps.length:Int)):=by omega
   have hke:(zg ps).take k=zg ps:=List.take_of_length_le (by rw [HFL.out];omega)
   obtain ⟨n1,hn1⟩:∃ n1,n1=((zg ps).take k).flatten.length:=⟨_,rfl⟩
   rw [← hn1] at hb1 ⊢
   clear hn1 hke hE
   go_wp2_with fail
   refine (zxo n1 _ hb1).mono ?_
   rintro e W1 ⟨v,rfl,hE1,hown⟩
   have hE2:=HE.out.trans' (Ext.trans' (by exact xx) hE1)
   have HE2:=Lib.hid hE2
   have HO:=Lib.hid (hown.base (B':=w.heap.size) (by first | exact HE.out.size | (have:=HE.out.size;simp only [World.size_alloc];omega)))
   obtain ⟨va,vn,vc,rfl⟩:=hown.isSlice
   clear hE1 hown hE2 hb1
   go_wp2_with fail
   go_loopw [6,27] (fun ov iv W=>∃ k:Nat,k≤ps.length∧iv = .int .i64 k∧OwnI W w.heap.size ov ((zg ps).take k).flatten∧Ext w W) (fun _ iv _=>ps.length - (intOf iv).toNat)
   case atStart=>exact ⟨0,by omega,rfl,(by have:=HO.out.ext (by exact xx:Ext W1 _);exact this),HE2.out.trans' (by exact xx)⟩
   case round =>
    obtain ⟨k2,hk2,rfl,hown,hE⟩:=hrel
    obtain ⟨oa,on,oc,rfl⟩:=Owns.isSlice hown
    have HEr:=Lib.hid hE
    have HOr:=Lib.hid hown
    by_cases hlt2:k2 < ps.length
    ·have hki2:(k2:Int) < (ps.length:Int):=by omega
     obtain ⟨_,_,e,-,-,hcc⟩:=HF.out.spec
     cases e
     rcases hcc with hcc | ⟨fb,fo,rfl,hcc⟩
     ·rw [hcc] at hlt2;simp at hlt2
     have cf:=zb hE (hcc k2 hlt2)
     have hI:=HF.out.ints ps[k2] (List.getElem_mem hlt2)
     have hft:=ztf (fs:=zg ps) (k:=k2) (by rw [HFL.out];exact hlt2)
     have hb2:=Nat.le_trans (zkv (zg ps) (k2+1)) HL.out
     have hfk:(zg ps)[k2]'(by rw [HFL.out];exact hlt2)=ps[k2].2:=by simp [zg]
     rw [hfk] at hft
     obtain ⟨gv,hgv⟩:∃ gv,gv=ps[k2].1:=⟨_,rfl⟩
     obtain ⟨gl,hgl⟩:∃ gl,gl=ps[k2].2:=⟨_,rfl⟩
     rw [← hgv] at cf hI
     rw [← hgl] at hI hft
     rw [hft,List.length_append] at hb2
     obtain ⟨ga,gc,rfl,hgl1,hgl2,-⟩:=hI.spec
     have hgne:gl≠[]:=by rw [hgl];exact HNE.out _ (List.getElem_mem hlt2)
     have hsrc:Src wr 1 ga (gl.map iRow):=by
      obtain ⟨_,_,e,-,-,h3⟩:=hI.ext hE
      simp only [Value.slice.injEq] at e
      obtain ⟨rfl,-,rfl⟩:=e
      rcases h3 with h3 | ⟨b',o',e,h3⟩
      ·exact absurd (List.map_eq_nil_iff.1 h3) hgne
      ·exact .inr ⟨b',o',e,h3⟩
     have HSR:=Lib.hid hsrc
     have HFT:=Lib.hid hft
     have HI:=Lib.hid hI
     have hzf:=World.block_lt_of_cell? _ _ cf
     simp only at hzf
     have hsz:=hE.size
     have hbb:=hb2
     clear hcc hfk hgv hgl hft hI hsrc hE hown hgne
     go_wp2_with (at_builtin;refine z5r rfl (.tmp 31) (.tmp 32) elInt rfl w.heap.size rfl (Owns.ext (by exact xx) HOr.out) ga gc (gl.map iRow) (by rw [List.length_map];rfl) (by intro r hr;obtain ⟨x,_,rfl⟩:=List.mem_map.1 hr;rfl) (HSR.out.ext (by exact xx)) (by intro r hr;obtain ⟨x,_,rfl⟩:=List.mem_map.1 hr;simp [iRow,Value.oneCell']) (by rw [List.length_map,List.length_map];omega) (by omega) ?_)
     intro v' W2 hown2 hk2
     obtain ⟨va,vn,vc,rfl⟩:=hown2.isSlice
     have HO2:Hid (OwnI W2 w.heap.size (.slice va vn vc) ((zg ps).take (k2+1)).flatten):=Lib.hid (by unfold OwnI;rw [HFT.out];simpa using hown2)
     have HE3:Hid (Ext w W2):=Lib.hid (Below.trans HEr.out (Owns.keptBelow HOr.out hsz hk2))
     clear hown2 hk2
     go_wp2_with fail
     go_roundw
     case rel=>exact ⟨k2+1,by omega,by go_num,HO2.out.ext (by exact xx),HE3.out.trans' (by exact xx)⟩
     case measure=>simp [intOf];omega
    ·have hki2:¬ ((k2:Int) < (ps.length:Int)):=by omega
     have hke2:(zg ps).take k2=zg ps:=List.take_of_length_le (by rw [HFL.out];omega)
     rw [hke2] at hown
     have HO3:=Lib.hid hown
     clear hown hke2 hE HOr
     go_wp2_with fail
     go_ret
     exact ⟨_,rfl,HEr.out,HO3.out⟩
end Go.Proofs.YtdamgacabfbpjaaGreat
namespace Go.Proofs.YtdamgacabfbpjaaGreat
open Go.RowKit Go.Shelf
theorem IsFin.take {W:World} {fa:Option Addr} {n c:Nat} {ps:List (Value × List Int)} (h:IsFin W (.slice fa n c) ps) (k:Nat) (hk:k≤ps.length):IsFin W (.slice fa k c) (ps.take k):=by
 obtain ⟨sa,cap,e,h2,h3,h4⟩:=h.rows
 simp only [Value.slice.injEq] at e
 obtain ⟨rfl,-,rfl⟩:=e
 rw [List.length_map] at h2
 refine ⟨⟨fa,c,by rw [List.length_map,List.length_take,Nat.min_eq_left hk],by rw [List.length_map,List.length_take,Nat.min_eq_left hk];omega,h3,?_⟩,fun x hx=>h.ints x (List.mem_of_mem_take hx)⟩
 rcases h4 with h4 | ⟨b,off,rfl,h4⟩
 ·exact .inl (by rw [List.map_take,h4];simp)
 ·exact .inr ⟨b,off,rfl,by rw [List.map_take];exact h4.take k⟩
theorem zid (ps:List (Value × List Int)) (k:Nat):zg (ps.take k)=(zg ps).take k:=by unfold zg;rw [List.map_take]
def zaz (fs:List (List Int)) (n:Nat):List Int:=zlu (fs.take n).flatten
set_option maxRecDepth 100000 in
set_option maxHeartbeats 1000000 in
theorem zlv (ps:List (Value × List Int)) (fa:Option Addr) (fcap n:Nat) (w:World) (hf:IsFin w (.slice fa ps.length fcap) ps) (hn:n≤ps.length) (hl:(zg ps).flatten.length≤1000) (hne:∀ x∈ps,x.2≠[]) (h0:0 < ((zg ps).take n).flatten.length) :
  Calls Tryz.prog 69 #[.slice fa ps.length fcap,.int .i64 n] w fun e w'=>∃ g cp,e = .returned (.slice (some ⟨g,0,none⟩) (zaz (zg ps) n).length cp)∧Ext w w'∧w.heap.size≤g∧(zaz (zg ps) n).length≤cp∧cp≤9223372036854775807∧NumB w' g (zaz (zg ps) n).length (gt (zaz (zg ps) n)):=by
 obtain ⟨_,_,e,hf1,hf2,-⟩:=hf.spec
 cases e
 have HF:=Lib.hid (hf.take n hn)
 have HNE:=Lib.hid (fun x hx=>hne x (List.mem_of_mem_take hx):∀ x∈ps.take n,x.2≠[])
 have hni:(n:Int)≤(ps.length:Int):=by omega
 have hlt:(zg (ps.take n)).flatten.length≤1000:=by rw [zid];exact Nat.le_trans (zkv _ _) hl
 have hnc:n≤fcap:=by omega
 obtain ⟨L,hL⟩:∃ L,L=(zg (ps.take n)).flatten:=⟨_,rfl⟩
 have HL:Hid (zaz (zg ps) n=zlu L):=Lib.hid (by unfold zaz;rw [hL,zid])
 rw [← zid,← hL] at h0
 have HLL:=Lib.hid hL
 have HLT:=Lib.hid hlt
 obtain ⟨X,hX⟩:∃ X,X=zaz (zg ps) n:=⟨_,rfl⟩
 rw [← hX]
 have HX:=Lib.hid (hX.trans HL.out)
 have HL3:L.length≤1000:=by rw [hL];exact hlt
 clear hf hne hL hl hlt hX HL
 go_enter Tryz.func69,Tryz.ntmps69
 go_wp2_with fail
 refine (z0h (ps.take n) (.slice fa n fcap) _ (HF.out.ext (by exact xx)) HLT.out HNE.out).mono ?_
 rintro e W1 ⟨v,rfl,hE1,hown⟩
 rw [← HLL.out] at hown
 obtain ⟨g,lc,rfl,hg1,hg2,hgB,hN⟩:=Owns.cellsN hown h0
 have HE1:=Lib.hid hE1
 have HN:=Lib.hid hN
 clear hown hE1 hN
 go_wp2_with fail
 refine (z20 g lc L _ (HN.out.of_heap rfl) (by omega)).mono ?_
 rintro e W2 ⟨rfl,hk2,hn2⟩
 have HE2:=Lib.hid (zph (HE1.out.trans' (by exact xx)) hk2 (by exact hgB))
 have HN2:=Lib.hid hn2
 clear hk2 hn2
 go_wp2_with fail
 go_ret
 have hXl:X.length=L.length:=by rw [HX.out,zh4]
 exact ⟨g,lc,by rw [hXl];rfl,HE2.out,hgB,by rw [hXl];exact hg1,hg2,by rw [hXl,HX.out];exact HN2.out⟩
def za0 (b:Bk) (fs:List (List Int)) (a c:Int):Bool :=
 if a=c∨(b.kd=3∧c < a) then false
 else if 1 < (fs.headD []).length then true
 else if b.kd=2 then (fs.headD []).contains a
 else (fs.headD []).contains a || (fs.headD []).contains c
set_option maxRecDepth 100000 in
set_option maxHeartbeats 2000000 in
theorem zpj (b:Bk) (ps:List (Value × List Int)) (fv:Value) (a c:Int) (p:Nat) (w:World) (hk:w.cell? ⟨p,0,none⟩=some (.int .i64 b.kd)) (hf:IsFin w fv ps) (h0:0 < ps.length) :
  Calls Tryz.prog 71 #[.pointer (some ⟨p,0,none⟩),fv,.int .i64 a,.int .i64 c] w fun e w'=>e = .returned (.bool (za0 b (zg ps) a c))∧Ext w w':=by
 obtain ⟨fa,fcap,rfl,hf1,hf2,hcc⟩:=hf.spec
 rcases hcc with hcc | ⟨fb,fo,rfl,hcc⟩
 ·rw [hcc] at h0;simp at h0
 have cf:=hcc 0 h0
 rw [Nat.add_zero] at cf
 have hI:=hf.ints ps[0] (List.getElem_mem h0)
 obtain ⟨gv,hgv⟩:∃ gv,gv=ps[0].1:=⟨_,rfl⟩
 obtain ⟨gl,hgl⟩:∃ gl,gl=ps[0].2:=⟨_,rfl⟩
 rw [← hgv] at cf hI
 rw [← hgl] at hI
 obtain ⟨ga,gc,rfl,hgl1,hgl2,-⟩:=hI.spec
 have hhd:(zg ps).headD []=gl:=by
  rw [hgl]
  cases ps with
  | nil=>simp at h0
  | cons x l=>rfl
 obtain ⟨A,hA⟩:∃ A,A=gl.contains a:=⟨_,rfl⟩
 obtain ⟨C,hC⟩:∃ C,C=gl.contains c:=⟨_,rfl⟩
 have ca:=fun W h=>zhe gl a (.slice ga gl.length gc) W h
 have cc:=fun W h=>zhe gl c (.slice ga gl.length gc) W h
 rw [← hA] at ca
 rw [← hC] at cc
 have CA:=Lib.hid ca
 have CC:=Lib.hid cc
 have HI:=Lib.hid hI
 have HP:Hid (za0 b (zg ps) a c=if a=c∨(b.kd=3∧c < a) then false else if 1 < gl.length then true else if b.kd=2 then A else A || C):=Lib.hid (by unfold za0;rw [hhd,← hA,← hC])
 obtain ⟨R,hR⟩:∃ R,R=za0 b (zg ps) a c:=⟨_,rfl⟩
 rw [← hR]
 have HR:=Lib.hid (hR.trans HP.out)
 have hz:=World.block_lt_of_cell? _ _ hk
 have hzf:=World.block_lt_of_cell? _ _ cf
 simp only at hz hzf
 have h0i:(0:Int) < (ps.length:Int):=by omega
 have hn0:¬ ps=[]:=fun h=>by rw [h] at h0;simp at h0
 clear hf hcc hgv hgl hI hhd hA hC ca cc HP hR
 go_enter Tryz.func71,Tryz.ntmps71
 go_upto_region 1 with (fail)
 refine zbl (w.heap.size) (Nat.le_refl _)
  [sqV (.slice (some ⟨fb,fo,none⟩) ps.length fcap),sqV (.pointer (some ⟨fb,fo,none⟩)),sqV (.slice ga gl.length gc),sqV (.int .i64 a),sqV (.bool A),sqV (.slice (some ⟨fb,fo,none⟩) ps.length fcap),sqV (.pointer (some ⟨fb,fo,none⟩)),sqV (.slice ga gl.length gc),sqV (.int .i64 c),sqV (.bool C),sqV (.bool A),sqV (.bool C)]
  [true,true,true,true,true,true,true,true,true,true,true,true] [false,false,false,false,false,false,false,false,false,false,false,false] [true,true,true,true,true,true,true,true,true,true,true,true] [true,true,true,true,true,true,true,true,true,true,true,true]
  (by kernel_rfl) (by kernel_rfl) (by decide +kernel) (by decide +kernel) (by decide +kernel) rfl ⟨rfl,rfl⟩ ⟨?s0,?s1,?s2,?s3,?s4,?s5,?s6,?s7,?s8,?s9,?s10,?s11,trivial⟩ [some 11,some 12,some 13,some 14,some 15,some 16,some 17,some 18,some 19,some 20,some 9,some 10] rfl rfl ?send
 case s0 =>
  intro val ρ W hE hz hd hA hx
  have o0:ρ (.tmp 1) = .slice (some ⟨fb,fo,none⟩) ps.length fcap:=hA.old 1 (by decide)
  clear hd
  exact zd (W':=W) (by simp [execOp,o0,go_sem]) (Below.refl _ _) rfl
 case s1 =>
  intro val ρ W hE hz hd hA hx
  have d0:ρ (.tmp 11) = .slice (some ⟨fb,fo,none⟩) ps.length fcap:=(hA.dep 0 (by decide) 11 rfl).trans (hd 0 (by decide))
  clear hd
  exact zd (W':=W) (by simp [execOp,hA.const,d0,hn0,go_sem]) (Below.refl _ _) rfl
 case s2 =>
  intro val ρ W hE hz hd hA hx
  have d1:ρ (.tmp 12) = .pointer (some ⟨fb,fo,none⟩):=(hA.dep 1 (by decide) 12 rfl).trans (hd 1 (by decide))
  have f_cf:=cell_below hE (by simp only;omega) cf
  clear hd
  exact zd (W':=W) (by simp [execOp,d1,f_cf,go_sem]) (Below.refl _ _) rfl
 case s3 =>
  intro val ρ W hE hz hd hA hx
  have o0:ρ (.tmp 2) = .int .i64 a:=hA.old 2 (by decide)
  clear hd
  exact zd (W':=W) (by simp [execOp,o0,go_sem]) (Below.refl _ _) rfl
 case s4 =>
  intro val ρ W hE hz hd hA hx
  have d2:ρ (.tmp 13) = .slice ga gl.length gc:=(hA.dep 2 (by decide) 13 rfl).trans (hd 2 (by decide))
  have d3:ρ (.tmp 14) = .int .i64 a:=(hA.dep 3 (by decide) 14 rfl).trans (hd 3 (by decide))
  clear hd
  refine zbh 79 _ _ rfl #[.slice ga gl.length gc,.int .i64 a] (hA.func _) (by simp [d2,d3]) (fun args W=>Tryz.call79 args W) ((CA.out W (HI.out.ext hE)).mono ?_)
  rintro e w' ⟨rfl,hb⟩
  exact ⟨_,rfl,hb,rfl⟩
 case s5 =>
  intro val ρ W hE hz hd hA hx
  have o0:ρ (.tmp 1) = .slice (some ⟨fb,fo,none⟩) ps.length fcap:=hA.old 1 (by decide)
  clear hd
  exact zd (W':=W) (by simp [execOp,o0,go_sem]) (Below.refl _ _) rfl
 case s6 =>
  intro val ρ W hE hz hd hA hx
  have d5:ρ (.tmp 16) = .slice (some ⟨fb,fo,none⟩) ps.length fcap:=(hA.dep 5 (by decide) 16 rfl).trans (hd 5 (by decide))
  clear hd
  exact zd (W':=W) (by simp [execOp,hA.const,d5,hn0,go_sem]) (Below.refl _ _) rfl
 case s7 =>
  intro val ρ W hE hz hd hA hx
  have d6:ρ (.tmp 17) = .pointer (some ⟨fb,fo,none⟩):=(hA.dep 6 (by decide) 17 rfl).trans (hd 6 (by decide))
  have f_cf:=cell_below hE (by simp only;omega) cf
  clear hd
  exact zd (W':=W) (by simp [execOp,d6,f_cf,go_sem]) (Below.refl _ _) rfl
 case s8 =>
  intro val ρ W hE hz hd hA hx
  have o0:ρ (.tmp 3) = .int .i64 c:=hA.old 3 (by decide)
  clear hd
  exact zd (W':=W) (by simp [execOp,o0,go_sem]) (Below.refl _ _) rfl
 case s9 =>
  intro val ρ W hE hz hd hA hx
  have d7:ρ (.tmp 18) = .slice ga gl.length gc:=(hA.dep 7 (by decide) 18 rfl).trans (hd 7 (by decide))
  have d8:ρ (.tmp 19) = .int .i64 c:=(hA.dep 8 (by decide) 19 rfl).trans (hd 8 (by decide))
  clear hd
  refine zbh 79 _ _ rfl #[.slice ga gl.length gc,.int .i64 c] (hA.func _) (by simp [d7,d8]) (fun args W=>Tryz.call79 args W) ((CC.out W (HI.out.ext hE)).mono ?_)
  rintro e w' ⟨rfl,hb⟩
  exact ⟨_,rfl,hb,rfl⟩
 case s10 =>
  intro val ρ W hE hz hd hA hx
  have d4:ρ (.tmp 15) = .bool A:=(hA.dep 4 (by decide) 15 rfl).trans (hd 4 (by decide))
  clear hd
  exact zd (W':=W) (by simp [execOp,d4,go_sem]) (Below.refl _ _) rfl
 case s11 =>
  intro val ρ W hE hz hd hA hx
  have d9:ρ (.tmp 20) = .bool C:=(hA.dep 9 (by decide) 20 rfl).trans (hd 9 (by decide))
  clear hd
  exact zd (W':=W) (by simp [execOp,d9,go_sem]) (Below.refl _ _) rfl
 case send =>
  intro val WW hE hzz hv
  obtain ⟨-,-,-,-,-,-,-,-,-,-,q10,q11,-⟩:=hv
  have q10':val 10 = .bool A:=q10
  have q11':val 11 = .bool C:=q11
  simp only [putD,q10',q11']
  go_frame
  have hEW:Ext w WW:=hE
  have k1:=zb hEW hk
  have c1:=zb hEW cf
  have hz1:=World.block_lt_of_cell? _ _ k1
  have hzf1:=World.block_lt_of_cell? _ _ c1
  simp only at hz1 hzf1
  have HE:=Lib.hid hEW
  clear q10 q10' q11 q11' hE hzz hEW hk cf hz hzf
  by_cases h1:a=c
  ·have e1:(a == c)=true:=by simpa using h1
   have HH:=Lib.hid (show R=false by rw [HR.out,if_pos (.inl h1)])
   clear h1
   go_wp2_with fail
   go_ret
   exact ⟨zl HH.out.symm,HE.out⟩
  have e1:(a == c)=false:=by simpa using h1
  by_cases h2:b.kd=3
  ·rw [h2] at k1
   by_cases h3:c < a
   ·have HH:=Lib.hid (show R=false by rw [HR.out,if_pos (.inr ⟨h2,h3⟩)])
    have d3:decide (c < a)=true:=decide_eq_true h3
    clear h1 h2
    go_wp2_with fail
    go_ret
    exact ⟨zl HH.out.symm,HE.out⟩
   ·have hn:¬ (a=c∨(b.kd=3∧c < a)):=fun h=>h.elim h1 fun h=>h3 h.2
    have HH:=Lib.hid (show R=if 1 < gl.length then true else A || C by rw [HR.out,if_neg hn,if_neg (show ¬ b.kd=2 by omega)])
    have d3:decide (c < a)=false:=decide_eq_false h3
    clear h1 h2 hn
    by_cases h4:1 < gl.length
    ·have d4:decide ((1:Int) < (gl.length:Int))=true:=decide_eq_true (by omega)
     have d5:(1:Int) < (gl.length:Int):=by omega
     have HH2:=Lib.hid (HH.out.trans (if_pos h4))
     clear h4
     go_wp2_with fail
     go_ret
     exact ⟨zl HH2.out.symm,HE.out⟩
    ·have d4:decide ((1:Int) < (gl.length:Int))=false:=decide_eq_false (by omega)
     have d5:¬ ((1:Int) < (gl.length:Int)):=by omega
     have HH2:=Lib.hid (HH.out.trans (if_neg h4))
     clear h4
     cases A <;>
     ·go_wp2_with fail
      go_ret
      exact ⟨zl (by rw [HH2.out];rfl),HE.out⟩
  ·have e2:(b.kd == 3)=false:=by simpa using h2
   have hn:¬ (a=c∨(b.kd=3∧c < a)):=fun h=>h.elim h1 fun h=>h2 h.1
   have HH:=Lib.hid (show R=if 1 < gl.length then true else if b.kd=2 then A else A || C by rw [HR.out,if_neg hn])
   clear h1 hn
   by_cases h4:1 < gl.length
   ·have d4:decide ((1:Int) < (gl.length:Int))=true:=decide_eq_true (by omega)
    have d5:(1:Int) < (gl.length:Int):=by omega
    have HH2:=Lib.hid (HH.out.trans (if_pos h4))
    clear h4
    go_wp2_with fail
    go_ret
    exact ⟨zl HH2.out.symm,HE.out⟩
   ·have d4:decide ((1:Int) < (gl.length:Int))=false:=decide_eq_false (by omega)
    have d5:¬ ((1:Int) < (gl.length:Int)):=by omega
    have HH2:=Lib.hid (HH.out.trans (if_neg h4))
    clear h4
    by_cases h5:b.kd=2
    ·have e5:(b.kd == 2)=true:=by simpa using h5
     have HH3:=Lib.hid (HH2.out.trans (if_pos h5))
     clear h5
     go_wp2_with fail
     go_ret
     exact ⟨zl HH3.out.symm,HE.out⟩
    ·have e5:(b.kd == 2)=false:=by simpa using h5
     have HH3:=Lib.hid (HH2.out.trans (if_neg h5))
     clear h5
     cases A <;>
     ·go_wp2_with fail
      go_ret
      exact ⟨zl (by rw [HH3.out];rfl),HE.out⟩
end Go.Proofs.YtdamgacabfbpjaaGreat
namespace Go.Proofs.YtdamgacabfbpjaaGreat
open Go.RowKit Go.Shelf
attribute [local go_sem] Oper.semAt_some
def grp (b:Bk) (fs:List (List Int)):Nat:=if b.kd≠0∧(fs.headD []).length=1 then 2 else 1
def zr (b:Bk) (fs:List (List Int)) (l:List Int) (a:Int):List Spt:=if single b=true then [(a,-1)] else (l.filter (za0 b fs a)).map fun c=>(a,c)
def za1 (b:Bk) (fs:List (List Int)):List Spt:=(zaz fs (grp b fs)).flatMap (zr b fs (zaz fs (grp b fs)))
set_option maxRecDepth 100000 in
set_option maxHeartbeats 1000000 in
theorem zxp (p:Nat) (fa:Option Addr) (n c:Nat) (w:World) :
  Calls Tryz.prog 33 #[.pointer (some ⟨p,0,none⟩),.slice fa n c] w fun e w'=>e = .returned (.func (.func 68) #[] #[.pointer (some ⟨w.heap.size,0,none⟩),.pointer (some ⟨w.heap.size+1,0,none⟩)]) ∧
   Ext w w'∧w'.cell? ⟨w.heap.size,0,none⟩=some (.pointer (some ⟨p,0,none⟩))∧w'.cell? ⟨w.heap.size+1,0,none⟩=some (.slice fa n c)∧w'.heap.size=w.heap.size+2:=by
 go_enter Tryz.func33,Tryz.ntmps33
 go_wp2
 go_ret
 exact ⟨rfl,by exact xx,by simp [go_sem],by simp [go_sem],by simp⟩
theorem ze6 {α β:Type} (f:α→List β) {l:List α} {k:Nat} (h:k < l.length):(l.take (k+1)).flatMap f=(l.take k).flatMap f ++ f l[k]:=by
 rw [List.take_add_one,List.getElem?_eq_getElem h,List.flatMap_append]
 simp
theorem zf5 {α β:Type} (f:α→List β) {l:List α} {k:Nat} (h:k < l.length):l.flatMap f=(l.take k).flatMap f ++ (f l[k] ++ (l.drop (k+1)).flatMap f):=by
 rw [← List.append_assoc,← ze6 f h,← List.flatMap_append,List.take_append_drop]
theorem zgj {q:Int→Bool} {a:Int} {l:List Int} {j:Nat} (h:j < l.length):(((l.take (j+1)).filter q).map fun c=>(a,c))=(((l.take j).filter q).map fun c=>(a,c)) ++ if q (gt l j) then [(a,gt l j)] else []:=by
 rw [List.take_add_one,List.getElem?_eq_getElem h,List.filter_append,List.map_append,← gt_get h]
 congr 1
 cases hq:q l[j]<;>simp [hq]
theorem zie {q:Int→Bool} {a:Int} {l:List Int} {j:Nat} (h:j < l.length) (hq:q (gt l j)=true):((l.filter q).map fun c=>(a,c))=(((l.take j).filter q).map fun c=>(a,c)) ++ (a,gt l j) :: (((l.drop (j+1)).filter q).map fun c=>(a,c)):=by
 have e:l=l.take (j+1) ++ l.drop (j+1):=(List.take_append_drop _ _).symm
 conv=>lhs;rw [e]
 rw [List.filter_append,List.map_append,zgj h,if_pos hq,List.append_assoc];rfl
structure WinM (W:World) (bt bf p:Nat) (b:Bk) (ba:Option Addr) (bcap:Nat) (sa:Option Addr) (scap:Nat) (fa:Option Addr) (fcap:Nat) (ps:List (Value × List Int)):Prop where
 ct:W.cell? ⟨bt,0,none⟩=some (.pointer (some ⟨p,0,none⟩))
 cf:W.cell? ⟨bf,0,none⟩=some (.slice fa ps.length fcap)
 bk:BookAt W p b ba bcap sa scap
 fin:IsFin W (.slice fa ps.length fcap) ps
structure FinOk (b:Bk) (ps:List (Value × List Int)):Prop where
 ne:∀ x∈ps,x.2≠[]
 le:(zg ps).flatten.length≤1000
 one:0 < ps.length
 two:grp b (zg ps)≤ps.length
theorem FinOk.pos {b:Bk} {ps:List (Value × List Int)} (h:FinOk b ps) {n:Nat} (hn:0 < n):0 < ((zg ps).take n).flatten.length:=by
 have h1:=h.one
 match ps,h with
 | [],_=>simp at h1
 | x :: l,h =>
  obtain ⟨m,rfl⟩:∃ m,n=m+1:=⟨n - 1,by omega⟩
  have:=List.length_pos_iff.2 (h.ne x (by simp))
  simp [zg];omega
set_option maxRecDepth 100000 in
set_option maxHeartbeats 4000000 in
theorem zwn (b:Bk) (ba sa fa:Option Addr) (bcap scap fcap bt bf p:Nat) (ps:List (Value × List Int)) (R:Nat→Prop) (w0:World) (_:∀ k,R k→k < w0.heap.size)
  (hM:∀ W,Kept R w0 W→WinM W bt bf p b ba bcap sa scap fa fcap ps) (hok:FinOk b ps) :
  Iter Tryz.prog 68 #[.pointer (some ⟨bt,0,none⟩),.pointer (some ⟨bf,0,none⟩)] (fun x:Spt=>#[skey x]) R (fun xs=>xs=za1 b (zg ps)) (fun _=>True) (fun pre x=>∃ rest,za1 b (zg ps)=pre ++ x :: rest) w0:=by
 intro n l J Jx W hW hJ hJx hY h0
 have hk0:Kept R w0 W:=(Kept.of_below hW).mono fun k hk _=>trivial
 have HM:=Lib.hid hM
 have HOK:=Lib.hid hok
 have HJ:=Lib.hid hJ
 have HY:=Lib.hid hY
 have HK0:=Lib.hid hk0
 have HH0:=Lib.hid h0
 have hs0:=hW.size
 have hm:=hM W hk0
 have k0:=hm.bk.c0
 have hct:=hm.ct
 have hcf:=hm.cf
 obtain ⟨fb,fo,rfl,cg⟩:∃ fb fo,fa=some ⟨fb,fo,none⟩∧∃ ga gl gc,W.cell? ⟨fb,fo,none⟩=some (.slice ga gl gc)∧gl=((zg ps).headD []).length:=by
  obtain ⟨_,_,e,-,-,hcc⟩:=hm.fin.spec
  cases e
  have h1:=hok.one
  rcases hcc with hcc | ⟨fb,fo,rfl,hcc⟩
  ·rw [hcc] at h1;simp at h1
  have c0:=hcc 0 h1
  rw [Nat.add_zero] at c0
  obtain ⟨ga,gc,e,-,-,-⟩:=(hm.fin.ints _ (List.getElem_mem h1)).spec
  refine ⟨fb,fo,rfl,ga,_,gc,by rw [c0,e],?_⟩
  match ps,h1 with
  | x :: l,_=>rfl
 obtain ⟨ga,gl,gc,cg,hgl⟩:=cg
 have hone:=hok.one
 have h0i:(0:Int) < (ps.length:Int):=by omega
 have hn0:¬ ps=[]:=fun h=>by rw [h] at hone;simp at hone
 obtain ⟨G,hG⟩:∃ G,G=grp b (zg ps):=⟨_,rfl⟩
 have hg:G=if b.kd≠0∧gl=1 then 2 else 1:=by rw [hG,hgl];rfl
 have HGL:=Lib.hid hg
 have HGG:=Lib.hid hG
 have hzt:=World.block_lt_of_cell? _ _ hct
 have hzf:=World.block_lt_of_cell? _ _ hcf
 have hzp:=World.block_lt_of_cell? _ _ k0
 have hzg:=World.block_lt_of_cell? _ _ cg
 simp only at hzt hzf hzp hzg
 refine callsIn_of_wp Tryz.func68 rfl trivial ?_ rfl
 simp only [Tryz.ntmps68,List.size_toArray,List.length_cons,List.length_nil,Nat.reduceAdd,Nat.reduceSub,Array.replicate_succ,Array.replicate_zero,List.push_toArray,List.append_toArray,List.nil_append,List.cons_append]
 clear hM hok hJ hJx hY hk0 h0 hW hm hg hG hgl
 refine zzu ?_
 by_cases hk:b.kd=0
 ·rw [hk] at k0
  have HGE:=Lib.hid (show G=1 by rw [HGL.out,if_neg (fun h=>h.1 hk)])
  clear hk
  gi_wp2_with fail
  refine ⟨trivial,fun h=>(by simp [Fence.wide] at h),(callsIn_wide.2 (zlv ps _ fcap 1 W (HM.out W HK0.out).fin (by have:=HOK.out.two;rw [← HGG.out,HGE.out] at this;exact this) HOK.out.le HOK.out.ne (HOK.out.pos (by omega)))).mono ?_⟩
  rintro e W1 ⟨g,lc,rfl,hE1,hgB,hlc1,hlc2,hN⟩
  obtain ⟨L,hL⟩:∃ L,L=zaz (zg ps) 1:=⟨_,rfl⟩
  have HWP:Hid (za1 b (zg ps)=L.flatMap (zr b (zg ps) L)):=Lib.hid (by unfold za1;rw [← HGG.out,HGE.out,← hL])
  rw [← hL] at hlc1 hN ⊢
  have HN1:=Lib.hid hN
  have HK1:=Lib.hid ((Kept.of_below hE1).mono (T:=R) fun k _ _=>trivial:Kept R W W1)
  have HJ1:=Lib.hid (HJ.out [] (fun _=>False) (fun k=>k=g) W W1 HH0.out ((Kept.of_below hE1).mono fun k _ _=>trivial) (fun _ h=>h.elim) (fun k hk=>.inr ⟨by rw [hk];exact hgB,by rw [hk];exact hN.lt⟩))
  have hgw:w0.heap.size≤g:=by omega
  clear hE1 hN hL k0 hct hcf cg hzt hzf hzp hzg
  gi_wp2_with fail
  refine wpIn_label ?_
  gi_wp2_with fail
  gi_loopw [28] (fun iv wr=>∃ k:Nat,k≤L.length∧iv = .int .i64 k∧J (fun k=>k=g) ((L.take k).flatMap (zr b (zg ps) L)) wr∧NumB wr g L.length (gt L)∧Kept R W wr) (fun iv _=>L.length - (intOf iv).toNat)
  case atStart=>exact ⟨0,by omega,rfl,by simpa using HJ1.out,HN1.out,HK1.out⟩
  case round =>
   obtain ⟨k,hk,rfl,hj,hnum,hkp⟩:=hrel
   have HJr:=Lib.hid hj
   have HNr:=Lib.hid hnum
   have HKr:=Lib.hid hkp
   by_cases hlt:k < L.length
   ·have hki:(k:Int) < (L.length:Int):=by omega
    have c0:=hnum.cell k hlt
    have hzg:=hnum.lt
    have hm:=HM.out wr (HK0.out.trans hkp)
    have hct:=hm.ct
    have hzt:=World.block_lt_of_cell? _ _ hct
    simp only at hzt
    have hbk:=hm.bk
    have k0:=(hbk).c0
    have k1:=(hbk).c1
    have k2:=(hbk).c2
    have k3:=(hbk).c3
    have k4:=(hbk).c4
    have k5:=(hbk).c5
    have k6:=(hbk).c6
    have k7:=(hbk).c7
    have hz:=(hbk).lt
    obtain ⟨a,ha⟩:∃ a,a=gt L k:=⟨_,rfl⟩
    rw [← ha] at c0
    have HA:=Lib.hid ha
    have hsp:=zf5 (zr b (zg ps) L) hlt
    have htk:=ze6 (zr b (zg ps) L) hlt
    rw [gt_get hlt,← ha] at hsp htk
    have HSP:=Lib.hid hsp
    have HTK:=Lib.hid htk
    have hcf:=hm.cf
    have hzf:=World.block_lt_of_cell? _ _ hcf
    simp only at hzf
    clear hj hnum hkp hbk ha hsp htk hm
    gi_wp2_with fail
    refine ⟨trivial,fun h=>(by simp [Fence.wide] at h),(callsIn_wide.2 (zd6 b ba sa bcap scap _)).mono ?_⟩
    rintro e W3 ⟨rfl,hE3⟩
    have HJ3:=Lib.hid ((HJ.out _).ext HJr.out hE3)
    have HN3:=Lib.hid (HNr.out.of_heap (hE3.block _ HNr.out.lt))
    have HK3:=Lib.hid (HKr.out.trans ((Kept.of_below hE3).mono (T:=R) fun k _ _=>trivial))
    clear hE3 k0 k1 k2 k3 k4 k5 k6 k7 hz c0 hct hcf hzt hzf hzg
    cases hsi:single b
    ·have hwa:zr b (zg ps) L a=(L.filter (za0 b (zg ps) a)).map fun c=>(a,c):=by unfold zr;rw [if_neg (by rw [hsi];simp)]
     have HWA:=Lib.hid hwa
     clear hsi hwa
     gi_wp2_with fail
     gi_loopw [44] (fun iv wr=>∃ j:Nat,j≤L.length∧iv = .int .i64 j∧J (fun k=>k=g) ((L.take k).flatMap (zr b (zg ps) L) ++ (((L.take j).filter (za0 b (zg ps) a)).map fun c=>(a,c))) wr∧NumB wr g L.length (gt L)∧Kept R W wr) (fun iv _=>L.length - (intOf iv).toNat)
     case atStart=>exact ⟨0,by omega,rfl,by simpa using HJ3.out,HN3.out,HK3.out⟩
     case round =>
      obtain ⟨j,hjl,rfl,hj,hnum,hkp⟩:=hrel
      have HJi:=Lib.hid hj
      have HNi:=Lib.hid hnum
      have HKi:=Lib.hid hkp
      by_cases hjt:j < L.length
      ·have hji:(j:Int) < (L.length:Int):=by omega
       have c0:=hnum.cell j hjt
       have hzg:=hnum.lt
       have hm:=HM.out wr (HK0.out.trans hkp)
       have hct:=hm.ct
       have hcf:=hm.cf
       have k0:=hm.bk.c0
       have hzt:=World.block_lt_of_cell? _ _ hct
       have hzf:=World.block_lt_of_cell? _ _ hcf
       have hzp:=World.block_lt_of_cell? _ _ k0
       simp only at hzt hzf hzp
       have HFi:=Lib.hid hm.fin
       obtain ⟨c,hc⟩:∃ c,c=gt L j:=⟨_,rfl⟩
       have hpt:=zgj (q:=za0 b (zg ps) a) (a:=a) hjt
       have hps:=zie (q:=za0 b (zg ps) a) (a:=a) hjt
       rw [← hc] at c0 hpt hps
       have HPT:=Lib.hid hpt
       have HPS:=Lib.hid hps
       clear hj hnum hkp hm hc hpt hps
       gi_wp2_with fail
       refine ⟨trivial,fun h=>(by simp [Fence.wide] at h),(callsIn_wide.2 (zpj b ps _ a c p wr k0 HFi.out hone)).mono ?_⟩
       rintro e W4 ⟨rfl,hE4⟩
       have HJ4:=Lib.hid ((HJ.out _).ext HJi.out hE4)
       have HN4:=Lib.hid (HNi.out.of_heap (hE4.block _ HNi.out.lt))
       have HK4:=Lib.hid (HKi.out.trans ((Kept.of_below hE4).mono (T:=R) fun k _ _=>trivial))
       clear hE4 c0 hct hcf k0 hzt hzf hzp hzg HFi
       cases hpr:za0 b (zg ps) a c
       ·have hpt:=HPT.out
        rw [if_neg (by rw [hpr];simp),List.append_nil] at hpt
        have HPT2:=Lib.hid hpt
        clear hpr hpt
        gi_wp2_with fail
        go_roundw
        case rel=>exact ⟨j+1,by omega,by go_num,by rw [HPT2.out];exact HJ4.out,HN4.out,HK4.out⟩
        case measure=>simp [intOf];omega
       ·have hpt:=HPT.out
        rw [if_pos hpr] at hpt
        have HPT2:=Lib.hid hpt
        have hnx:∃ rest,za1 b (zg ps)=((L.take k).flatMap (zr b (zg ps) L) ++ (((L.take j).filter (za0 b (zg ps) a)).map fun c=>(a,c))) ++ (a,c) :: rest :=
         ⟨_,by rw [HWP.out,HSP.out,HWA.out,HPS.out hpr,List.append_assoc,List.append_assoc];rfl⟩
        obtain ⟨fn,tmps,assign,body,hy,hRr⟩:=HY.out (fun k=>k=g) _ (a,c) W4 HJ4.out hnx
        simp only [skey] at hy
        clear hpr hpt hnx
        gi_wp2_with fail
        refine ⟨fun h=>(by simp [Fence.wide] at h),hRr.mono ?_⟩
        clear hy hRr
        rintro e W5 (⟨rfl,hj5,hk5⟩ | ⟨rfl,hj5⟩)
        ·have HJ5:=Lib.hid hj5
         have HN5:=Lib.hid (HN4.out.of_heap (hk5.same _ HN4.out.lt (.inr rfl)))
         have HK5:=Lib.hid (HK4.out.trans (hk5.mono (T:=R) fun _ _ h=>.inl h))
         clear hj5 hk5
         gi_wp2_with fail
         go_roundw
         case rel=>exact ⟨j+1,by omega,by go_num,by rw [HPT2.out,← List.append_assoc];exact HJ5.out,HN5.out,HK5.out⟩
         case measure=>simp [intOf];omega
        ·have HJ5:=Lib.hid hj5
         clear hj5
         gi_wp2_with fail
         rw [Exit.noGoto_ret];refine bodyPost_ret (results_none rfl _ _ _) rfl ?_
         exact ⟨⟨_,rfl⟩,.inr ⟨_,_,trivial,HJ5.out⟩⟩
      ·have hji:¬ ((j:Int) < (L.length:Int)):=by omega
       have hje:j=L.length:=by omega
       rw [hje,List.take_length,← HWA.out,← HTK.out] at hj
       have HJe:=Lib.hid hj
       clear hje hj hnum hkp
       gi_wp2_with fail
       go_roundw
       case rel=>exact ⟨k+1,by omega,by go_num,HJe.out,HNi.out,HKi.out⟩
       case measure=>simp [intOf];omega
    ·have hwa:zr b (zg ps) L a=[(a,-1)]:=by unfold zr;rw [if_pos hsi]
     have HTK2:=Lib.hid (HTK.out.trans (by rw [hwa]):(L.take (k+1)).flatMap (zr b (zg ps) L)=(L.take k).flatMap (zr b (zg ps) L) ++ [(a,-1)])
     have hnx:∃ rest,za1 b (zg ps)=(L.take k).flatMap (zr b (zg ps) L) ++ (a,-1) :: rest:=⟨_,by rw [HWP.out,HSP.out,hwa];rfl⟩
     obtain ⟨fn,tmps,assign,body,hy,hRr⟩:=HY.out (fun k=>k=g) _ (a,-1) W3 HJ3.out hnx
     simp only [skey] at hy
     clear hsi hwa hnx
     gi_wp2_with fail
     refine ⟨fun h=>(by simp [Fence.wide] at h),hRr.mono ?_⟩
     clear hy hRr
     rintro e W5 (⟨rfl,hj5,hk5⟩ | ⟨rfl,hj5⟩)
     ·have HJ5:=Lib.hid hj5
      have HN5:=Lib.hid (HN3.out.of_heap (hk5.same _ HN3.out.lt (.inr rfl)))
      have HK5:=Lib.hid (HK3.out.trans (hk5.mono (T:=R) fun _ _ h=>.inl h))
      clear hj5 hk5
      gi_wp2_with fail
      go_roundw
      case rel=>exact ⟨k+1,by omega,by go_num,by rw [HTK2.out];exact HJ5.out,HN5.out,HK5.out⟩
      case measure=>simp [intOf];omega
     ·have HJ5:=Lib.hid hj5
      clear hj5
      gi_wp2_with fail
      rw [Exit.noGoto_ret];refine bodyPost_ret (results_none rfl _ _ _) rfl ?_
      exact ⟨⟨_,rfl⟩,.inr ⟨_,_,trivial,HJ5.out⟩⟩
   ·have hki:¬ ((k:Int) < (L.length:Int)):=by omega
    have hke:k=L.length:=by omega
    rw [hke,List.take_length,← HWP.out] at hj
    have HJe:=Lib.hid hj
    clear hke hj hnum hkp
    gi_wp2_with fail
    go_end0
    exact ⟨⟨_,rfl⟩,.inl ⟨_,HJe.out⟩⟩
 ·have e1:(b.kd != 0)=true:=by simpa using hk
  by_cases hg1:gl=1
  ·have HGE:=Lib.hid (show G=2 by rw [HGL.out,if_pos ⟨hk,hg1⟩])
   have e2:((gl:Int) == 1)=true:=by rw [hg1];rfl
   have e3:decide (gl=1)=true:=decide_eq_true hg1
   clear hk
   gi_wp2_with fail
   refine ⟨trivial,fun h=>(by simp [Fence.wide] at h),(callsIn_wide.2 (zlv ps _ fcap 2 W (HM.out W HK0.out).fin (by have:=HOK.out.two;rw [← HGG.out,HGE.out] at this;exact this) HOK.out.le HOK.out.ne (HOK.out.pos (by omega)))).mono ?_⟩
   rintro e W1 ⟨g,lc,rfl,hE1,hgB,hlc1,hlc2,hN⟩
   obtain ⟨L,hL⟩:∃ L,L=zaz (zg ps) 2:=⟨_,rfl⟩
   have HWP:Hid (za1 b (zg ps)=L.flatMap (zr b (zg ps) L)):=Lib.hid (by unfold za1;rw [← HGG.out,HGE.out,← hL])
   rw [← hL] at hlc1 hN ⊢
   have HN1:=Lib.hid hN
   have HK1:=Lib.hid ((Kept.of_below hE1).mono (T:=R) fun k _ _=>trivial:Kept R W W1)
   have HJ1:=Lib.hid (HJ.out [] (fun _=>False) (fun k=>k=g) W W1 HH0.out ((Kept.of_below hE1).mono fun k _ _=>trivial) (fun _ h=>h.elim) (fun k hk=>.inr ⟨by rw [hk];exact hgB,by rw [hk];exact hN.lt⟩))
   have hgw:w0.heap.size≤g:=by omega
   clear hE1 hN hL k0 hct hcf cg hzt hzf hzp hzg
   gi_wp2_with fail
   refine wpIn_label ?_
   gi_wp2_with fail
   gi_loopw [28] (fun iv wr=>∃ k:Nat,k≤L.length∧iv = .int .i64 k∧J (fun k=>k=g) ((L.take k).flatMap (zr b (zg ps) L)) wr∧NumB wr g L.length (gt L)∧Kept R W wr) (fun iv _=>L.length - (intOf iv).toNat)
   case atStart=>exact ⟨0,by omega,rfl,by simpa using HJ1.out,HN1.out,HK1.out⟩
   case round =>
    obtain ⟨k,hk,rfl,hj,hnum,hkp⟩:=hrel
    have HJr:=Lib.hid hj
    have HNr:=Lib.hid hnum
    have HKr:=Lib.hid hkp
    by_cases hlt:k < L.length
    ·have hki:(k:Int) < (L.length:Int):=by omega
     have c0:=hnum.cell k hlt
     have hzg:=hnum.lt
     have hm:=HM.out wr (HK0.out.trans hkp)
     have hct:=hm.ct
     have hzt:=World.block_lt_of_cell? _ _ hct
     simp only at hzt
     have hbk:=hm.bk
     have k0:=(hbk).c0
     have k1:=(hbk).c1
     have k2:=(hbk).c2
     have k3:=(hbk).c3
     have k4:=(hbk).c4
     have k5:=(hbk).c5
     have k6:=(hbk).c6
     have k7:=(hbk).c7
     have hz:=(hbk).lt
     obtain ⟨a,ha⟩:∃ a,a=gt L k:=⟨_,rfl⟩
     rw [← ha] at c0
     have HA:=Lib.hid ha
     have hsp:=zf5 (zr b (zg ps) L) hlt
     have htk:=ze6 (zr b (zg ps) L) hlt
     rw [gt_get hlt,← ha] at hsp htk
     have HSP:=Lib.hid hsp
     have HTK:=Lib.hid htk
     have hcf:=hm.cf
     have hzf:=World.block_lt_of_cell? _ _ hcf
     simp only at hzf
     clear hj hnum hkp hbk ha hsp htk hm
     gi_wp2_with fail
     refine ⟨trivial,fun h=>(by simp [Fence.wide] at h),(callsIn_wide.2 (zd6 b ba sa bcap scap _)).mono ?_⟩
     rintro e W3 ⟨rfl,hE3⟩
     have HJ3:=Lib.hid ((HJ.out _).ext HJr.out hE3)
     have HN3:=Lib.hid (HNr.out.of_heap (hE3.block _ HNr.out.lt))
     have HK3:=Lib.hid (HKr.out.trans ((Kept.of_below hE3).mono (T:=R) fun k _ _=>trivial))
     clear hE3 k0 k1 k2 k3 k4 k5 k6 k7 hz c0 hct hcf hzt hzf hzg
     cases hsi:single b
     ·have hwa:zr b (zg ps) L a=(L.filter (za0 b (zg ps) a)).map fun c=>(a,c):=by unfold zr;rw [if_neg (by rw [hsi];simp)]
      have HWA:=Lib.hid hwa
      clear hsi hwa
      gi_wp2_with fail
      gi_loopw [44] (fun iv wr=>∃ j:Nat,j≤L.length∧iv = .int .i64 j∧J (fun k=>k=g) ((L.take k).flatMap (zr b (zg ps) L) ++ (((L.take j).filter (za0 b (zg ps) a)).map fun c=>(a,c))) wr∧NumB wr g L.length (gt L)∧Kept R W wr) (fun iv _=>L.length - (intOf iv).toNat)
      case atStart=>exact ⟨0,by omega,rfl,by simpa using HJ3.out,HN3.out,HK3.out⟩
      case round =>
       obtain ⟨j,hjl,rfl,hj,hnum,hkp⟩:=hrel
       have HJi:=Lib.hid hj
       have HNi:=Lib.hid hnum
       have HKi:=Lib.hid hkp
       by_cases hjt:j < L.length
       ·have hji:(j:Int) < (L.length:Int):=by omega
        have c0:=hnum.cell j hjt
        have hzg:=hnum.lt
        have hm:=HM.out wr (HK0.out.trans hkp)
        have hct:=hm.ct
        have hcf:=hm.cf
        have k0:=hm.bk.c0
        have hzt:=World.block_lt_of_cell? _ _ hct
        have hzf:=World.block_lt_of_cell? _ _ hcf
        have hzp:=World.block_lt_of_cell? _ _ k0
        simp only at hzt hzf hzp
        have HFi:=Lib.hid hm.fin
        obtain ⟨c,hc⟩:∃ c,c=gt L j:=⟨_,rfl⟩
        have hpt:=zgj (q:=za0 b (zg ps) a) (a:=a) hjt
        have hps:=zie (q:=za0 b (zg ps) a) (a:=a) hjt
        rw [← hc] at c0 hpt hps
        have HPT:=Lib.hid hpt
        have HPS:=Lib.hid hps
        clear hj hnum hkp hm hc hpt hps
        gi_wp2_with fail
        refine ⟨trivial,fun h=>(by simp [Fence.wide] at h),(callsIn_wide.2 (zpj b ps _ a c p wr k0 HFi.out hone)).mono ?_⟩
        rintro e W4 ⟨rfl,hE4⟩
        have HJ4:=Lib.hid ((HJ.out _).ext HJi.out hE4)
        have HN4:=Lib.hid (HNi.out.of_heap (hE4.block _ HNi.out.lt))
        have HK4:=Lib.hid (HKi.out.trans ((Kept.of_below hE4).mono (T:=R) fun k _ _=>trivial))
        clear hE4 c0 hct hcf k0 hzt hzf hzp hzg HFi
        cases hpr:za0 b (zg ps) a c
        ·have hpt:=HPT.out
         rw [if_neg (by rw [hpr];simp),List.append_nil] at hpt
         have HPT2:=Lib.hid hpt
         clear hpr hpt
         gi_wp2_with fail
         go_roundw
         case rel=>exact ⟨j+1,by omega,by go_num,by rw [HPT2.out];exact HJ4.out,HN4.out,HK4.out⟩
         case measure=>simp [intOf];omega
        ·have hpt:=HPT.out
         rw [if_pos hpr] at hpt
         have HPT2:=Lib.hid hpt
         have hnx:∃ rest,za1 b (zg ps)=((L.take k).flatMap (zr b (zg ps) L) ++ (((L.take j).filter (za0 b (zg ps) a)).map fun c=>(a,c))) ++ (a,c) :: rest :=
          ⟨_,by rw [HWP.out,HSP.out,HWA.out,HPS.out hpr,List.append_assoc,List.append_assoc];rfl⟩
         obtain ⟨fn,tmps,assign,body,hy,hRr⟩:=HY.out (fun k=>k=g) _ (a,c) W4 HJ4.out hnx
         simp only [skey] at hy
         clear hpr hpt hnx
         gi_wp2_with fail
         refine ⟨fun h=>(by simp [Fence.wide] at h),hRr.mono ?_⟩
         clear hy hRr
         rintro e W5 (⟨rfl,hj5,hk5⟩ | ⟨rfl,hj5⟩)
         ·have HJ5:=Lib.hid hj5
          have HN5:=Lib.hid (HN4.out.of_heap (hk5.same _ HN4.out.lt (.inr rfl)))
          have HK5:=Lib.hid (HK4.out.trans (hk5.mono (T:=R) fun _ _ h=>.inl h))
          clear hj5 hk5
          gi_wp2_with fail
          go_roundw
          case rel=>exact ⟨j+1,by omega,by go_num,by rw [HPT2.out,← List.append_assoc];exact HJ5.out,HN5.out,HK5.out⟩
          case measure=>simp [intOf];omega
         ·have HJ5:=Lib.hid hj5
          clear hj5
          gi_wp2_with fail
          rw [Exit.noGoto_ret];refine bodyPost_ret (results_none rfl _ _ _) rfl ?_
          exact ⟨⟨_,rfl⟩,.inr ⟨_,_,trivial,HJ5.out⟩⟩
       ·have hji:¬ ((j:Int) < (L.length:Int)):=by omega
        have hje:j=L.length:=by omega
        rw [hje,List.take_length,← HWA.out,← HTK.out] at hj
        have HJe:=Lib.hid hj
        clear hje hj hnum hkp
        gi_wp2_with fail
        go_roundw
        case rel=>exact ⟨k+1,by omega,by go_num,HJe.out,HNi.out,HKi.out⟩
        case measure=>simp [intOf];omega
     ·have hwa:zr b (zg ps) L a=[(a,-1)]:=by unfold zr;rw [if_pos hsi]
      have HTK2:=Lib.hid (HTK.out.trans (by rw [hwa]):(L.take (k+1)).flatMap (zr b (zg ps) L)=(L.take k).flatMap (zr b (zg ps) L) ++ [(a,-1)])
      have hnx:∃ rest,za1 b (zg ps)=(L.take k).flatMap (zr b (zg ps) L) ++ (a,-1) :: rest:=⟨_,by rw [HWP.out,HSP.out,hwa];rfl⟩
      obtain ⟨fn,tmps,assign,body,hy,hRr⟩:=HY.out (fun k=>k=g) _ (a,-1) W3 HJ3.out hnx
      simp only [skey] at hy
      clear hsi hwa hnx
      gi_wp2_with fail
      refine ⟨fun h=>(by simp [Fence.wide] at h),hRr.mono ?_⟩
      clear hy hRr
      rintro e W5 (⟨rfl,hj5,hk5⟩ | ⟨rfl,hj5⟩)
      ·have HJ5:=Lib.hid hj5
       have HN5:=Lib.hid (HN3.out.of_heap (hk5.same _ HN3.out.lt (.inr rfl)))
       have HK5:=Lib.hid (HK3.out.trans (hk5.mono (T:=R) fun _ _ h=>.inl h))
       clear hj5 hk5
       gi_wp2_with fail
       go_roundw
       case rel=>exact ⟨k+1,by omega,by go_num,by rw [HTK2.out];exact HJ5.out,HN5.out,HK5.out⟩
       case measure=>simp [intOf];omega
      ·have HJ5:=Lib.hid hj5
       clear hj5
       gi_wp2_with fail
       rw [Exit.noGoto_ret];refine bodyPost_ret (results_none rfl _ _ _) rfl ?_
       exact ⟨⟨_,rfl⟩,.inr ⟨_,_,trivial,HJ5.out⟩⟩
    ·have hki:¬ ((k:Int) < (L.length:Int)):=by omega
     have hke:k=L.length:=by omega
     rw [hke,List.take_length,← HWP.out] at hj
     have HJe:=Lib.hid hj
     clear hke hj hnum hkp
     gi_wp2_with fail
     go_end0
     exact ⟨⟨_,rfl⟩,.inl ⟨_,HJe.out⟩⟩
  ·have HGE:=Lib.hid (show G=1 by rw [HGL.out,if_neg (fun h=>hg1 h.2)])
   have e2:((gl:Int) == 1)=false:=by rw [beq_eq_false_iff_ne];omega
   have e3:¬ ((gl:Int)=1):=by omega
   clear hk
   gi_wp2_with fail
   refine ⟨trivial,fun h=>(by simp [Fence.wide] at h),(callsIn_wide.2 (zlv ps _ fcap 1 W (HM.out W HK0.out).fin (by have:=HOK.out.two;rw [← HGG.out,HGE.out] at this;exact this) HOK.out.le HOK.out.ne (HOK.out.pos (by omega)))).mono ?_⟩
   rintro e W1 ⟨g,lc,rfl,hE1,hgB,hlc1,hlc2,hN⟩
   obtain ⟨L,hL⟩:∃ L,L=zaz (zg ps) 1:=⟨_,rfl⟩
   have HWP:Hid (za1 b (zg ps)=L.flatMap (zr b (zg ps) L)):=Lib.hid (by unfold za1;rw [← HGG.out,HGE.out,← hL])
   rw [← hL] at hlc1 hN ⊢
   have HN1:=Lib.hid hN
   have HK1:=Lib.hid ((Kept.of_below hE1).mono (T:=R) fun k _ _=>trivial:Kept R W W1)
   have HJ1:=Lib.hid (HJ.out [] (fun _=>False) (fun k=>k=g) W W1 HH0.out ((Kept.of_below hE1).mono fun k _ _=>trivial) (fun _ h=>h.elim) (fun k hk=>.inr ⟨by rw [hk];exact hgB,by rw [hk];exact hN.lt⟩))
   have hgw:w0.heap.size≤g:=by omega
   clear hE1 hN hL k0 hct hcf cg hzt hzf hzp hzg
   gi_wp2_with fail
   refine wpIn_label ?_
   gi_wp2_with fail
   gi_loopw [28] (fun iv wr=>∃ k:Nat,k≤L.length∧iv = .int .i64 k∧J (fun k=>k=g) ((L.take k).flatMap (zr b (zg ps) L)) wr∧NumB wr g L.length (gt L)∧Kept R W wr) (fun iv _=>L.length - (intOf iv).toNat)
   case atStart=>exact ⟨0,by omega,rfl,by simpa using HJ1.out,HN1.out,HK1.out⟩
   case round =>
    obtain ⟨k,hk,rfl,hj,hnum,hkp⟩:=hrel
    have HJr:=Lib.hid hj
    have HNr:=Lib.hid hnum
    have HKr:=Lib.hid hkp
    by_cases hlt:k < L.length
    ·have hki:(k:Int) < (L.length:Int):=by omega
     have c0:=hnum.cell k hlt
     have hzg:=hnum.lt
     have hm:=HM.out wr (HK0.out.trans hkp)
     have hct:=hm.ct
     have hzt:=World.block_lt_of_cell? _ _ hct
     simp only at hzt
     have hbk:=hm.bk
     have k0:=(hbk).c0
     have k1:=(hbk).c1
     have k2:=(hbk).c2
     have k3:=(hbk).c3
     have k4:=(hbk).c4
     have k5:=(hbk).c5
     have k6:=(hbk).c6
     have k7:=(hbk).c7
     have hz:=(hbk).lt
     obtain ⟨a,ha⟩:∃ a,a=gt L k:=⟨_,rfl⟩
     rw [← ha] at c0
     have HA:=Lib.hid ha
     have hsp:=zf5 (zr b (zg ps) L) hlt
     have htk:=ze6 (zr b (zg ps) L) hlt
     rw [gt_get hlt,← ha] at hsp htk
     have HSP:=Lib.hid hsp
     have HTK:=Lib.hid htk
     have hcf:=hm.cf
     have hzf:=World.block_lt_of_cell? _ _ hcf
     simp only at hzf
     clear hj hnum hkp hbk ha hsp htk hm
     gi_wp2_with fail
     refine ⟨trivial,fun h=>(by simp [Fence.wide] at h),(callsIn_wide.2 (zd6 b ba sa bcap scap _)).mono ?_⟩
     rintro e W3 ⟨rfl,hE3⟩
     have HJ3:=Lib.hid ((HJ.out _).ext HJr.out hE3)
     have HN3:=Lib.hid (HNr.out.of_heap (hE3.block _ HNr.out.lt))
     have HK3:=Lib.hid (HKr.out.trans ((Kept.of_below hE3).mono (T:=R) fun k _ _=>trivial))
     clear hE3 k0 k1 k2 k3 k4 k5 k6 k7 hz c0 hct hcf hzt hzf hzg
     cases hsi:single b
     ·have hwa:zr b (zg ps) L a=(L.filter (za0 b (zg ps) a)).map fun c=>(a,c):=by unfold zr;rw [if_neg (by rw [hsi];simp)]
      have HWA:=Lib.hid hwa
      clear hsi hwa
      gi_wp2_with fail
      gi_loopw [44] (fun iv wr=>∃ j:Nat,j≤L.length∧iv = .int .i64 j∧J (fun k=>k=g) ((L.take k).flatMap (zr b (zg ps) L) ++ (((L.take j).filter (za0 b (zg ps) a)).map fun c=>(a,c))) wr∧NumB wr g L.length (gt L)∧Kept R W wr) (fun iv _=>L.length - (intOf iv).toNat)
      case atStart=>exact ⟨0,by omega,rfl,by simpa using HJ3.out,HN3.out,HK3.out⟩
      case round =>
       obtain ⟨j,hjl,rfl,hj,hnum,hkp⟩:=hrel
       have HJi:=Lib.hid hj
       have HNi:=Lib.hid hnum
       have HKi:=Lib.hid hkp
       by_cases hjt:j < L.length
       ·have hji:(j:Int) < (L.length:Int):=by omega
        have c0:=hnum.cell j hjt
        have hzg:=hnum.lt
        have hm:=HM.out wr (HK0.out.trans hkp)
        have hct:=hm.ct
        have hcf:=hm.cf
        have k0:=hm.bk.c0
        have hzt:=World.block_lt_of_cell? _ _ hct
        have hzf:=World.block_lt_of_cell? _ _ hcf
        have hzp:=World.block_lt_of_cell? _ _ k0
        simp only at hzt hzf hzp
        have HFi:=Lib.hid hm.fin
        obtain ⟨c,hc⟩:∃ c,c=gt L j:=⟨_,rfl⟩
        have hpt:=zgj (q:=za0 b (zg ps) a) (a:=a) hjt
        have hps:=zie (q:=za0 b (zg ps) a) (a:=a) hjt
        rw [← hc] at c0 hpt hps
        have HPT:=Lib.hid hpt
        have HPS:=Lib.hid hps
        clear hj hnum hkp hm hc hpt hps
        gi_wp2_with fail
        refine ⟨trivial,fun h=>(by simp [Fence.wide] at h),(callsIn_wide.2 (zpj b ps _ a c p wr k0 HFi.out hone)).mono ?_⟩
        rintro e W4 ⟨rfl,hE4⟩
        have HJ4:=Lib.hid ((HJ.out _).ext HJi.out hE4)
        have HN4:=Lib.hid (HNi.out.of_heap (hE4.block _ HNi.out.lt))
        have HK4:=Lib.hid (HKi.out.trans ((Kept.of_below hE4).mono (T:=R) fun k _ _=>trivial))
        clear hE4 c0 hct hcf k0 hzt hzf hzp hzg HFi
        cases hpr:za0 b (zg ps) a c
        ·have hpt:=HPT.out
         rw [if_neg (by rw [hpr];simp),List.append_nil] at hpt
         have HPT2:=Lib.hid hpt
         clear hpr hpt
         gi_wp2_with fail
         go_roundw
         case rel=>exact ⟨j+1,by omega,by go_num,by rw [HPT2.out];exact HJ4.out,HN4.out,HK4.out⟩
         case measure=>simp [intOf];omega
        ·have hpt:=HPT.out
         rw [if_pos hpr] at hpt
         have HPT2:=Lib.hid hpt
         have hnx:∃ rest,za1 b (zg ps)=((L.take k).flatMap (zr b (zg ps) L) ++ (((L.take j).filter (za0 b (zg ps) a)).map fun c=>(a,c))) ++ (a,c) :: rest :=
          ⟨_,by rw [HWP.out,HSP.out,HWA.out,HPS.out hpr,List.append_assoc,List.append_assoc];rfl⟩
         obtain ⟨fn,tmps,assign,body,hy,hRr⟩:=HY.out (fun k=>k=g) _ (a,c) W4 HJ4.out hnx
         simp only [skey] at hy
         clear hpr hpt hnx
         gi_wp2_with fail
         refine ⟨fun h=>(by simp [Fence.wide] at h),hRr.mono ?_⟩
         clear hy hRr
         rintro e W5 (⟨rfl,hj5,hk5⟩ | ⟨rfl,hj5⟩)
         ·have HJ5:=Lib.hid hj5
          have HN5:=Lib.hid (HN4.out.of_heap (hk5.same _ HN4.out.lt (.inr rfl)))
          have HK5:=Lib.hid (HK4.out.trans (hk5.mono (T:=R) fun _ _ h=>.inl h))
          clear hj5 hk5
          gi_wp2_with fail
          go_roundw
          case rel=>exact ⟨j+1,by omega,by go_num,by rw [HPT2.out,← List.append_assoc];exact HJ5.out,HN5.out,HK5.out⟩
          case measure=>simp [intOf];omega
         ·have HJ5:=Lib.hid hj5
          clear hj5
          gi_wp2_with fail
          rw [Exit.noGoto_ret];refine bodyPost_ret (results_none rfl _ _ _) rfl ?_
          exact ⟨⟨_,rfl⟩,.inr ⟨_,_,trivial,HJ5.out⟩⟩
       ·have hji:¬ ((j:Int) < (L.length:Int)):=by omega
        have hje:j=L.length:=by omega
        rw [hje,List.take_length,← HWA.out,← HTK.out] at hj
        have HJe:=Lib.hid hj
        clear hje hj hnum hkp
        gi_wp2_with fail
        go_roundw
        case rel=>exact ⟨k+1,by omega,by go_num,HJe.out,HNi.out,HKi.out⟩
        case measure=>simp [intOf];omega
     ·have hwa:zr b (zg ps) L a=[(a,-1)]:=by unfold zr;rw [if_pos hsi]
      have HTK2:=Lib.hid (HTK.out.trans (by rw [hwa]):(L.take (k+1)).flatMap (zr b (zg ps) L)=(L.take k).flatMap (zr b (zg ps) L) ++ [(a,-1)])
      have hnx:∃ rest,za1 b (zg ps)=(L.take k).flatMap (zr b (zg ps) L) ++ (a,-1) :: rest:=⟨_,by rw [HWP.out,HSP.out,hwa];rfl⟩
      obtain ⟨fn,tmps,assign,body,hy,hRr⟩:=HY.out (fun k=>k=g) _ (a,-1) W3 HJ3.out hnx
      simp only [skey] at hy
      clear hsi hwa hnx
      gi_wp2_with fail
      refine ⟨fun h=>(by simp [Fence.wide] at h),hRr.mono ?_⟩
      clear hy hRr
      rintro e W5 (⟨rfl,hj5,hk5⟩ | ⟨rfl,hj5⟩)
      ·have HJ5:=Lib.hid hj5
       have HN5:=Lib.hid (HN3.out.of_heap (hk5.same _ HN3.out.lt (.inr rfl)))
       have HK5:=Lib.hid (HK3.out.trans (hk5.mono (T:=R) fun _ _ h=>.inl h))
       clear hj5 hk5
       gi_wp2_with fail
       go_roundw
       case rel=>exact ⟨k+1,by omega,by go_num,by rw [HTK2.out];exact HJ5.out,HN5.out,HK5.out⟩
       case measure=>simp [intOf];omega
      ·have HJ5:=Lib.hid hj5
       clear hj5
       gi_wp2_with fail
       rw [Exit.noGoto_ret];refine bodyPost_ret (results_none rfl _ _ _) rfl ?_
       exact ⟨⟨_,rfl⟩,.inr ⟨_,_,trivial,HJ5.out⟩⟩
    ·have hki:¬ ((k:Int) < (L.length:Int)):=by omega
     have hke:k=L.length:=by omega
     rw [hke,List.take_length,← HWP.out] at hj
     have HJe:=Lib.hid hj
     clear hke hj hnum hkp
     gi_wp2_with fail
     go_end0
     exact ⟨⟨_,rfl⟩,.inl ⟨_,HJe.out⟩⟩
end Go.Proofs.YtdamgacabfbpjaaGreat
namespace Go.Proofs.YtdamgacabfbpjaaGreat
theorem ztg:∀ {g left l:List Int},chkG left g=some l→left.Perm (g ++ l)
 | [],left,l,h=>by cases h;exact List.Perm.refl _
 | r :: g,left,l,h=>by
  unfold chkG at h
  split at h
  ·rename_i hr
   exact (List.perm_cons_erase hr).trans ((ztg h).cons r)
  ·cases h
theorem zth:∀ {fs:List (List Int)} {left l:List Int},chkF left fs=some l→left.Perm (fs.flatten ++ l)∧∀ g∈fs,g≠[]∧rising g=true
 | [],left,l,h=>by cases h;exact ⟨List.Perm.refl _,fun g hg=>by cases hg⟩
 | g :: fs,left,l,h=>by
  unfold chkF at h
  split at h
  ·cases h
  rename_i hn
  rw [not_or] at hn
  cases hg:chkG left g with
  | none=>rw [hg] at h;cases h
  | some m =>
   rw [hg] at h
   obtain ⟨h1,h2⟩:=zth (fs:=fs) (left:=m) (l:=l) h
   refine ⟨?_,?_⟩
   ·rw [List.flatten_cons,List.append_assoc]
    exact (ztg hg).trans (h1.append_left g)
   ·intro x hx
    rcases List.mem_cons.1 hx with rfl | hx
    ·exact ⟨hn.1,by simpa using hn.2⟩
    ·exact h2 x hx
structure FinV (b:Bk) (fs:List (List Int)):Prop where
 book:BVal b
 perm:(runL b).Perm fs.flatten
 ne:∀ g∈fs,g≠[]
 up:∀ g∈fs,rising g=true
theorem zy3 {b:Bk} {fs:List (List Int)} (h:zat b fs=0):FinV b fs:=by
 unfold zat at h
 split at h
 ·rename_i hb;exact absurd h hb
 rename_i hb
 split at h
 ·rename_i hc
  obtain ⟨h1,h2⟩:=zth hc
  rw [List.append_nil] at h1
  exact ⟨zn6 (by omega),h1,fun g hg=>(h2 g hg).1,fun g hg=>(h2 g hg).2⟩
 ·cases h
theorem FinV.len {b:Bk} {fs:List (List Int)} (h:FinV b fs):fs.flatten.length=(runL b).length:=h.perm.length_eq.symm
theorem FinV.pos {b:Bk} {fs:List (List Int)} (h:FinV b fs):0 < fs.length:=by
 have h1:=h.len
 have h2:=zhl h.book
 match fs,h1 with
 | [],h1=>simp at h1;omega
 | g :: l,_=>simp
theorem FinV.two {b:Bk} {fs:List (List Int)} (h:FinV b fs):grp b fs≤fs.length:=by
 have h1:=h.len
 have h2:=zhl h.book
 have h3:=h.pos
 unfold grp
 split
 ·rename_i hg
  match fs,h1,hg.2 with
  | [],h1,_=>simp at h1;omega
  | [g],h1,hg=>simp at h1 hg;omega
  | _ :: _ :: _,_,_=>simp
 ·omega
theorem FinV.ok {b:Bk} {ps:List (Value × List Int)} (h:FinV b (zg ps)):FinOk b ps:=by
 have h2:=zn8 h.book
 refine ⟨fun x hx=>h.ne x.2 (by unfold zg;exact List.mem_map_of_mem hx),by rw [h.len];omega,?_,?_⟩
 ·have:=h.pos;simpa [zg] using this
 ·have:=h.two;simpa [zg] using this
end Go.Proofs.YtdamgacabfbpjaaGreat
namespace Go.Proofs.YtdamgacabfbpjaaGreat
open Go.RowKit Go.Shelf
theorem z47 {es:Ents Spt Int} (h:Once es) {l:List Spt} (hl:l.Nodup) (hm:∀ k,getE es k≠none↔k∈l):es.length=l.length:=by
 have hk:∀ k,k∈es.map (·.1)↔k∈l:=fun k=>by
  rw [← hm k]
  unfold getE
  constructor
  ·intro h
   obtain ⟨e,he,rfl⟩:=List.mem_map.1 h
   intro hn
   rw [Option.map_eq_none_iff,List.find?_eq_none] at hn
   have:=hn e he
   simp at this
  ·intro h
   cases hf:es.find? fun e=>decide (e.1=k) with
   | none=>rw [hf] at h;exact absurd rfl h
   | some e =>
    have h1:=List.mem_of_find?_eq_some hf
    have h2:=List.find?_some hf
    simp at h2
    exact List.mem_map.2 ⟨e,h1,h2⟩
 have hp:(es.map (·.1)).Perm l:=(List.perm_ext_iff_of_nodup h hl).2 hk
 have:=hp.length_eq
 simpa using this
end Go.Proofs.YtdamgacabfbpjaaGreat
namespace Go.Proofs.YtdamgacabfbpjaaGreat
open Go.RowKit Go.Shelf
attribute [local go_sem] Oper.semAt_some
theorem z89:El 36 45 2:=El.mk' (bytes:=16) (z:=.agg #[.int .i64 0,.int .i64 0]) (by kernel_rfl) (by kernel_rfl) rfl (by omega) (by omega)
def zbk (x:Spt):List Value:=[.int .i64 x.1,.int .i64 x.2]
def winL (b:Bk) (fs:List (List Int)):List Spt:=if zat b fs=0 then za1 b fs else []
theorem zou {α β:Type} {f:α→List β} {c:Nat}:∀ {l:List α},(∀ x∈l,(f x).length≤c)→(l.flatMap f).length≤l.length * c
 | [],_=>by simp
 | a :: l,h=>by
  have h1:=h a (by simp)
  have h2:=zou (l:=l) fun x hx=>h x (by simp [hx])
  rw [List.flatMap_cons,List.length_append,List.length_cons,Nat.add_mul];omega
theorem z0i {b:Bk} {fs:List (List Int)} (h:FinV b fs) (k:Nat):(zaz fs k).length≤8:=by
 have h1:=zn8 h.book
 have h2:=zkv fs k
 unfold zaz
 rw [zh4]
 have:=h.len
 omega
theorem zwo {b:Bk} {fs:List (List Int)} (h:FinV b fs):(za1 b fs).length≤64:=by
 obtain ⟨L,hL⟩:∃ L,L=zaz fs (grp b fs):=⟨_,rfl⟩
 have h8:L.length≤8:=by rw [hL];exact z0i h _
 unfold za1
 rw [← hL]
 have h1:=zou (f:=zr b fs L) (c:=8) (l:=L) fun x hx=>by
  unfold zr
  split
  ·simp
  ·rw [List.length_map];exact Nat.le_trans (List.length_filter_le _ _) h8
 have:=Nat.mul_le_mul_right 8 h8
 omega
theorem z7f {W0 W1 W:World} {p m:Nat} {b:Bk} {ba sa fa:Option Addr} {bcap scap fcap bt bf:Nat} {ps:List (Value × List Int)} (ht:IsTill W0 p m b ba bcap sa scap) (hf:IsFin W0 (.slice fa ps.length fcap) ps) (e:Ext W0 W)
  (c1:W1.cell? ⟨bt,0,none⟩=some (.pointer (some ⟨p,0,none⟩))) (c2:W1.cell? ⟨bf,0,none⟩=some (.slice fa ps.length fcap)) {R:Nat→Prop} (k:Kept R W1 W) (h1:R bt) (h2:R bf):WinM W bt bf p b ba bcap sa scap fa fcap ps :=
 ⟨k.cell c1 h1,k.cell c2 h2,(ht.ext e).till.book,hf.ext e⟩
def RetWin (w:World) (b:Bk) (fs:List (List Int)) (e:Ending) (w':World):Prop :=
 Ext w w'∧∃ v,e = .returned (.tuple #[v,.int .i64 (zat b fs)])∧IsRows w' 2 v ((winL b fs).map zbk)
set_option maxRecDepth 100000 in
set_option maxHeartbeats 4000000 in
theorem z0j (ps:List (Value × List Int)) (fv:Value) (b:Bk) (ba sa:Option Addr) (bcap scap:Nat) (w:World) (hv:IsBook w b ba bcap sa scap) (hf:IsFin w fv ps) :
  CallsIn Fence.wide 9 Tryz.prog 12 #[.agg #[.int .i64 b.kd,.int .i64 b.n,.slice ba b.bets.length bcap,.slice sa b.scr.length scap,.bool b.fav,.int .i64 b.car,.int .i64 b.duty,.int .i64 b.step],fv] w (RetWin w b (zg ps)):=by
 obtain ⟨fa,fcap,rfl,hf1,hf2,-⟩:=hf.spec
 have HF0:=Lib.hid hf
 have HV:=Lib.hid hv
 clear hf hv
 refine callsIn_of_wp_marks Tryz.func12 rfl trivial ?_ rfl
 simp only [Tryz.ntmps12,List.size_toArray,List.length_cons,List.length_nil,Nat.reduceAdd,Nat.reduceSub,Array.replicate_succ,Array.replicate_zero,List.push_toArray,List.append_toArray,List.nil_append,List.cons_append]
 gi_wp2_with fail
 refine ⟨trivial,(callsIn_wide.2 (zwm ps _ b ba sa bcap scap _ (HV.out.ext (by exact xx)) (HF0.out.ext (by exact xx)))).mono ?_⟩
 rintro e W1 ⟨hE1,⟨hne,rfl⟩ | ⟨h0,p,m,rfl,hp,hT⟩⟩
 ·obtain ⟨er,her⟩:∃ er,er=zat b (zg ps):=⟨_,rfl⟩
  rw [← her] at hne ⊢
  have f1:(er != 0)=true:=by simpa using hne
  have HE1:=Lib.hid (Ext.trans' (by exact xx) hE1:Ext w W1)
  have HER:=Lib.hid her
  have HNE:=Lib.hid hne
  clear her hne hE1
  gi_wp2_with fail
  refine ⟨.tuple #[.slice none 0 0,.int .i64 er],by simp [results,Tryz.results12,go_sem],HE1.out,_,by rw [HER.out],?_⟩
  have e0:winL b (zg ps)=[]:=by unfold winL;rw [if_neg (by rw [← HER.out];exact HNE.out)]
  rw [e0]
  exact ⟨none,0,rfl,by simp,by simp,.inl rfl⟩
 have HE1:=Lib.hid (Ext.trans' (by exact xx) hE1:Ext w W1)
 have HT1:=Lib.hid hT
 have HF1:=Lib.hid (HF0.out.ext HE1.out)
 have FV:=Lib.hid (zy3 h0)
 have H0:=Lib.hid h0
 have hzp:=hT.till.lt
 clear hE1 hT h0 HF0 HV
 gi_wp2_with fail
 refine ⟨trivial,(callsIn_wide.2 (zxp p fa ps.length fcap _)).mono ?_⟩
 rintro e W5 ⟨rfl,hE5,c5t,c5f,hz5⟩
 simp only [World.size_alloc] at c5t c5f hz5
 have hE15:Ext W1 W5:=Ext.trans' (by exact xx) hE5
 have hO5:W5.heap[W1.heap.size]? = some (.cells #[.slice none 0 0] 36 (0,0)) :=
  (hE5.block _ (by simp)).trans (World.alloc_heap_new W1 _)
 have HO5:=Lib.hid hO5
 have HE15:=Lib.hid hE15
 clear hE5 hO5 hE15
 gi_wp2_with fail
 refine zmz (n:=9) (R:=fun k=>k < W5.heap.size∧k≠W1.heap.size) rfl (enters_of Tryz.func68 (by kernel_rfl) rfl)
  (zwn b ba sa fa bcap scap fcap (W1.heap.size+1) (W1.heap.size+1+1) p ps (fun k=>k < W5.heap.size∧k≠W1.heap.size) W5 (fun k hk=>hk.1)
   (fun W hk=>z7f HT1.out HF1.out (HE15.out.trans (Kept.below (hk.mono (T:=fun k=>k < W1.heap.size) fun k hk1 hk2=>⟨hk1,by omega⟩) HE15.out.size)) c5t c5f hk ⟨by omega,by simp⟩ ⟨by omega,by simp;omega⟩) FV.out.ok)
  (Below.refl _ _) (fun k hk=>hk.1) (fun _=>rfl)
  (fun O pre W=>(∀ k,O k→W5.heap.size≤k)∧W5.heap.size≤W.heap.size∧Ext W1 W∧Gath 36 45 2 W1.heap.size (W5.heap.size+2) (pre.map zbk) O W)
  (fun _ _ _ _=>False) ?bears (fun _ _ _ _ _ _ h _ _ _=>h) ⟨fun _ h=>h.elim,Nat.le_refl _,HE15.out,⟨_,HO5.out,Owns.nil _ _ _ _,fun g hg=>(by cases hg)⟩⟩ ?round ?done (fun _ _ _ _ _ _ _ h _=>h.elim)
 case bears =>
  rintro pre O O' A B ⟨g1,g2,g3,g4⟩ hk hO1 hO2
  have hlow:Kept (fun k=>k < W5.heap.size) A B:=hk.mono fun k _ hk=>⟨fun ho=>by have:=g1 k ho;omega,by omega⟩
  refine ⟨fun k hk=>?_,by have:=hk.size;omega,g3.trans (Kept.below (hlow.mono fun k _ h=>by omega) g3.size),g4.kept hk ⟨fun ho=>by have:=g1 _ ho;omega,by omega⟩ (fun g h1 h2=>⟨h2,by omega⟩) (fun g h=>(hO2 g h).imp id fun h=>h.1)⟩
  rcases hO2 k hk with h | h
  ·exact g1 k h
  ·omega
 case round =>
  rintro l O pre y W ⟨g1,g2,g3,g4⟩ hy hO2 hW2
  simp only [skey]
  gi_wp2
  refine ⟨xx,fun W2 hk2=>?_⟩
  have hE2:Ext W (W.alloc (.cells #[.int .i64 y.1,.int .i64 y.2] 87)):=xx
  have y0:=hk2.cell (p:=⟨W.heap.size,0,none⟩) (v:=.int .i64 y.1) (by simp [go_sem]) (by simp;omega)
  have y1:=hk2.cell (p:=⟨W.heap.size,1,none⟩) (v:=.int .i64 y.2) (by simp [go_sem]) (by simp;omega)
  have g32:Ext W1 W2:=(g3.trans' hE2).trans (Kept.below (hk2.mono fun k _ h=>by have:=HE15.out.size;omega) (by have:=g3.size;simp;omega))
  have g42:Gath 36 45 2 W1.heap.size (W5.heap.size+2) (pre.map zbk) O W2 :=
   (g4.kept (O':=O) (.of_below hE2) (S:=fun _=>True) trivial (fun _ _ _=>trivial) (fun _ h=>.inl h)).kept hk2 (by omega) (fun g h1 _=>by omega) (fun _ h=>.inl h)
  have hz2:=hk2.size
  simp only [World.size_alloc] at hz2
  have hzy:W.heap.size < W2.heap.size:=by omega
  obtain ⟨ov,hov,hown,hno⟩:=g42
  obtain ⟨oa,on,oc,rfl⟩:=hown.isSlice
  have ho0:W2.cell? ⟨W1.heap.size,0,none⟩=some (.slice oa on oc):=by rw [cell_of_row _ _ _ _ _ _ hov];rfl
  have hof:W2.frozen? ⟨W1.heap.size,0,none⟩=false:=by simp [World.frozen?,hov]
  have hzo:=(Array.getElem?_eq_some_iff.1 hov).1
  have HLL:Hid ((pre.map zbk).length + [zbk y].length≤1000000):=by
   refine Lib.hid ?_
   obtain ⟨rest,hr⟩:=hy
   have h1:=zwo FV.out
   rw [hr] at h1
   simp at h1 ⊢;omega
  have HOV:=Lib.hid hov
  have HOWN:=Lib.hid hown
  have HNO:=Lib.hid hno
  have G3:=Lib.hid g32
  have HO2:=Lib.hid hO2
  have HK2:=Lib.hid hk2
  clear hov hown hno g3 g4 g32 hO2 hk2 hE2 hy
  gi_wp2_with (refine zrx rfl (.tmp 23) (.tmp 29) z89 rfl (W5.heap.size+2) rfl (HOWN.out.ext (by exact xx)) W2.heap.size 0 1 [zbk y] rfl (by simp [zbk]) (newRow _ (zbk y) _) (by simp [zbk,Value.oneCell']) HLL.out (by simp;omega) ?_)
  intro v' W4 hown4 hk4 hat4
  have hob4:=hown4.notOwn
  have hov4:=(hk4.same W1.heap.size (by simp;omega) (fun h=>by
   have:=HOWN.out.notOwn _ h.symm;omega)).trans ((Below.heap_alloc W2 _ _ hzo).trans HOV.out)
  have ho4:W4.cell? ⟨W1.heap.size,0,none⟩=some (.slice oa on oc):=by rw [cell_of_row _ _ _ _ _ _ hov4];rfl
  have hof4:W4.frozen? ⟨W1.heap.size,0,none⟩=false:=by simp [World.frozen?,hov4]
  obtain ⟨va,vn,vc,rfl⟩:=hown4.isSlice
  have HK4:=Lib.hid hk4
  have HAT4:=Lib.hid hat4
  have HOWN4:=Lib.hid hown4
  have HOV4:=Lib.hid hov4
  clear hk4 hat4 hown4 hov4 hob4
  gi_wp2_with fail
  have hkS:∀ (S:Nat→Prop),(∀ g,(Value.slice oa on oc).ownBlock=some g→¬ S g)→¬ S W1.heap.size→Kept S W2 (W4.setCell ⟨W1.heap.size,0,none⟩ (.slice va vn vc)):=fun S h1 h2 =>
   (((Kept.refl S W2).alloc _).trans (HK4.out.mono fun k _ hk e=>h1 k e.symm hk)).setCell (fun _=>h2) _
  have hz4:=HK4.out.size
  simp only [World.size_alloc] at hz4
  have ho5:∀ g,(Value.slice oa on oc).ownBlock=some g→W5.heap.size+2≤g∧¬ O g:=fun g hg=>⟨(HOWN.out.notOwn g hg).1,HNO.out g hg⟩
  refine ⟨hkS _ (fun g hg h=>?_) (fun h=>?_),g1,by simp [World.setCell];omega,?_,_,?_,(by rw [List.map_append];exact (HOWN4.out.setOther HOV4.out (by decide) 0 _).base (by omega)),fun g hg ho=>?_⟩
  ·have:=ho5 g hg
   rcases h with h | h | h | h
   ·omega
   ·exact this.2 h
   ·omega
   ·omega
  ·rcases h with h | h | h | h
   ·exact h.2 rfl
   ·have:=g1 _ h;omega
   ·omega
   ·omega
  ·exact G3.out.trans (Kept.below (hkS _ (fun g hg h=>by have:=ho5 g hg;omega) (by omega)) G3.out.size)
  ·exact zk HOV4.out 0 _
  ·rcases HAT4.out g hg with h | h
   ·exact HNO.out g h ho
   ·have:=(HO2.out g ho).2;have:W2.heap.size+1≤g:=by simpa using h
    omega
 case done =>
  rintro D O xs W hD rfl ⟨g1,g2,g3,g4⟩ hDk
  obtain ⟨ov,hov,hown,hno⟩:=g4
  obtain ⟨oa,on,oc,rfl⟩:=hown.isSlice
  have ho0:W.cell? ⟨W1.heap.size,0,none⟩=some (.slice oa on oc):=by rw [cell_of_row _ _ _ _ _ _ hov];rfl
  have HOWN:=Lib.hid hown
  have HDK:=Lib.hid hDk
  have hDlt:=(Array.getElem?_eq_some_iff.1 hDk).1
  clear hov hown hno hDk
  gi_wp2_with fail
  refine ⟨by simp,.inl ⟨_,_,rfl,run_takeDeferred HDK.out,?_⟩⟩
  refine ⟨.tuple #[.slice oa on oc,.int .i64 0],by simp [results,Tryz.results12,go_sem],?_,_,by rw [H0.out],?_⟩
  ·have h1:=HE1.out.trans' g3
   have hk:=(((Kept.of_below h1:Kept (fun k=>k < w.heap.size) w W)).putObj (r:=D) (.deferred none) (fun h2 h3=>by have:=h1.size;have:=g3.size;have:=HE1.out.size;omega))
   exact hk.below (Nat.le_refl _)
  ·have e:winL b (zg ps)=za1 b (zg ps):=by unfold winL;rw [if_pos H0.out]
   rw [e]
   exact (HOWN.out.putOther HDK.out _).isRows
theorem zwp (ps:List (Value × List Int)) (fv:Value) (b:Bk) (ba sa:Option Addr) (bcap scap:Nat) (w:World) (hv:IsBook w b ba bcap sa scap) (hf:IsFin w fv ps) :
  Calls Tryz.prog 12 #[.agg #[.int .i64 b.kd,.int .i64 b.n,.slice ba b.bets.length bcap,.slice sa b.scr.length scap,.bool b.fav,.int .i64 b.car,.int .i64 b.duty,.int .i64 b.step],fv] w (RetWin w b (zg ps)) :=
 callsIn_wide.1 (z0j ps fv b ba sa bcap scap w hv hf)
end Go.Proofs.YtdamgacabfbpjaaGreat
