/-
  The walks of slices.Grow at the nil slice, of slices.Concat, and of firsts: the runners of the first groups, increasing.
-/
import Derived.Test.YtkbaiobnibmmgaaGreatPc
import Derived.Lib.AppendZeros
import Derived.Test.YtkbaiobnibmmgaaGreatBa
import Derived.Test.YtkbaiobnibmmgaaGreatBb
namespace Go.Proofs.YtkbaiobnibmmgaaGreat
open Go.RowKit Go.Shelf
def OwnI (W:World) (B:Nat) (v:Value) (l:List Int):Prop:=Owns W B 3 1 v (l.map iRow)
theorem OwnI.ext {W W':World} {B:Nat} {v:Value} {l:List Int} (h:OwnI W B v l) (e:Ext W W'):OwnI W' B v l:=Owns.ext e h
theorem z95:∃ i,Tryz.prog.info? 3=some i∧i.zero=some (.int .i64 0)∧i.size=1∧i.bytes=8:=info_parts (by kernel_rfl)
set_option maxRecDepth 100000 in
set_option maxHeartbeats 1000000 in
theorem zym (n:Nat) (w:World) (hn:n≤1000) :
  Calls Tryz.prog 244 #[.slice none 0 0,.int .i64 n] w fun e w'=>∃ v,e = .returned v∧Ext w w'∧Owns w' w.heap.size 3 1 v ([].map iRow):=by
 have hw1:IntKind.i64.wrap (n:Int)=(n:Int):=IntWalk.i64_in _ (by omega)
 have d1:¬ ((n:Int) < 0):=by omega
 by_cases h0:n=0
 ·subst h0
  go_enter Tryz.func244,Tryz.ntmps244
  go_wp2_with fail
  go_ret
  exact ⟨_,rfl,by exact xx,Owns.nil _ _ _ _⟩
 ·have d2:decide ((0:Int) < (n:Int))=true:=decide_eq_true (by omega)
  have d3:(0:Int) < (n:Int):=by omega
  obtain ⟨i,hi,hz,hs,hby⟩:=z95
  have hrun:=fun (ty:TypeId) (W:World)=>Lib.run_append_nil_zeros (P:=Tryz.prog) W 23 3 ty 3 i (.int .i64 0) .i64 .i64 (by kernel_rfl) (by kernel_rfl) hi hz n (by omega) (by omega) (by omega) (by rw [hby];omega)
  have HR:=Lib.hid hrun
  clear hrun hi hz hs hby
  go_enter Tryz.func244,Tryz.ntmps244
  go_wp2_with (at_builtin;refine Lib.wpList_append_run _ rfl (.tmp 20) (.tmp 21) 23 3 rfl (.slice none 0 0) (.int .i64 n) rfl rfl _ _ (HR.out _ _) ?_)
  obtain ⟨cp,hcp⟩:∃ cp,cp=grownCap w n 0 3:=⟨_,rfl⟩
  have hge:n≤cp:=by rw [hcp];exact grownCap_ge _ _ _ _
  have hle:cp≤maxLen:=by rw [hcp];exact grownCap_le_maxLen _ _ _ _ (by simp [maxLen];omega)
  rw [← hcp]
  obtain ⟨W1,hW1⟩:∃ W1,W1=(w.alloc (.cells (Builtin.zeroCells #[.int .i64 0] n ++ Builtin.zeroCells #[.int .i64 0] (cp - n)) 3)).drew:=⟨_,rfl⟩
  have hrow:W1.heap[w.heap.size]? = some (.cells (Builtin.zeroCells #[.int .i64 0] n ++ Builtin.zeroCells #[.int .i64 0] (cp - n)) 3 (0,0)):=by
   rw [hW1];exact World.alloc_heap_new w _
  have hE:Ext w W1:=by rw [hW1];exact xx
  have hown:Owns W1 w.heap.size 3 1 (.slice (some ⟨w.heap.size,0,none⟩) 0 cp) ([].map iRow) :=
   ⟨⟨by simp,.inr ⟨w.heap.size,cp,_,by simp,Nat.le_refl _,hrow,by simp,hle,by simp [size_zeroCells];omega,by simp⟩⟩,by simp⟩
  rw [← hW1]
  clear hW1 hrow hcp hle
  go_ret
  exact ⟨_,rfl,hE,hown⟩
theorem zud {fs:List (List Int)} {k:Nat} (h:k < fs.length):(fs.take (k+1)).flatten=(fs.take k).flatten ++ fs[k]:=by
 rw [List.take_add_one,List.getElem?_eq_getElem h,List.flatten_append]
 simp only [Option.toList_some,List.flatten_cons,List.flatten_nil,List.append_nil]
theorem zld (fs:List (List Int)) (k:Nat):(fs.take k).flatten.length≤fs.flatten.length:=by
 conv=>rhs;rw [← List.take_append_drop k fs]
 rw [List.flatten_append,List.length_append];omega
set_option maxRecDepth 100000 in
set_option maxHeartbeats 1000000 in
theorem z1k (ps:List (Value × List Int)) (fv:Value) (w:World) (hf:IsFin w fv ps) (hl:(zf ps).flatten.length≤1000) (hne:∀ x∈ps,x.2≠[]) :
  Calls Tryz.prog 199 #[fv] w fun e w'=>∃ v,e = .returned v∧Ext w w'∧OwnI w' w.heap.size v (zf ps).flatten:=by
 obtain ⟨fa,fcap,rfl,hf1,hf2,-⟩:=hf.spec
 have HF:=Lib.hid hf
 have HL:=Lib.hid hl
 have HNE:=Lib.hid hne
 have hfl:(zf ps).length=ps.length:=by simp [zf]
 have HFL:=Lib.hid hfl
 clear hf hl hfl hne
 go_enter Tryz.func199,Tryz.ntmps199
 go_wp2_with fail
 go_loopw [3,11] (fun sv iv W=>∃ k:Nat,k≤ps.length∧iv = .int .i64 k∧sv = .int .i64 (((zf ps).take k).flatten.length:Nat)∧Ext w W) (fun _ iv _=>ps.length - (intOf iv).toNat)
 case atStart=>exact ⟨0,by omega,rfl,by simp,Below.refl _ _⟩
 case round =>
  obtain ⟨k,hk,rfl,rfl,hE⟩:=hrel
  have HE:=Lib.hid hE
  have hb1:=Nat.le_trans (zld (zf ps) k) HL.out
  by_cases hlt:k < ps.length
  ·have hki:(k:Int) < (ps.length:Int):=by omega
   obtain ⟨_,_,e,-,-,hcc⟩:=HF.out.spec
   cases e
   rcases hcc with hcc | ⟨fb,fo,rfl,hcc⟩
   ·rw [hcc] at hlt;simp at hlt
   have cf:=zb hE (hcc k hlt)
   have hI:=HF.out.ints ps[k] (List.getElem_mem hlt)
   have hft:=zud (fs:=zf ps) (k:=k) (by rw [HFL.out];exact hlt)
   have hb2:=Nat.le_trans (zld (zf ps) (k+1)) HL.out
   have hfk:(zf ps)[k]'(by rw [HFL.out];exact hlt)=ps[k].2:=by simp [zf]
   rw [hfk] at hft
   obtain ⟨gv,hgv⟩:∃ gv,gv=ps[k].1:=⟨_,rfl⟩
   obtain ⟨gl,hgl⟩:∃ gl,gl=ps[k].2:=⟨_,rfl⟩
   rw [← hgv] at cf hI
   rw [← hgl] at hI hft
   obtain ⟨ga,gc,rfl,hgl1,hgl2,-⟩:=hI.spec
   have hlen:=congrArg List.length hft
   rw [List.length_append] at hlen
   obtain ⟨n1,hn1⟩:∃ n1,n1=((zf ps).take k).flatten.length:=⟨_,rfl⟩
   obtain ⟨n2,hn2⟩:∃ n2,n2=((zf ps).take (k+1)).flatten.length:=⟨_,rfl⟩
   rw [← hn1] at hlen hb1 ⊢
   rw [← hn2] at hlen hb2
   have hw1:IntKind.i64.wrap ((n1:Int)+(gl.length:Int))=(n1:Int)+(gl.length:Int):=IntWalk.i64_in _ (by omega)
   have d1:decide ((n1:Int)+(gl.length:Int) < 0)=false:=decide_eq_false (by omega)
   have d2:¬ ((n1:Int)+(gl.length:Int) < 0):=by omega
   have HLEN:=Lib.hid (show ((n2:Nat):Int)=(n1:Int)+(gl.length:Int) by omega)
   have HN2:=Lib.hid hn2
   have hzf:=World.block_lt_of_cell? _ _ cf
   simp only at hzf
   clear hcc hI hft hfk hgv hgl hlen hn1 hn2 hE
   go_wp2_with fail
   go_roundw
   case rel=>exact ⟨k+1,by omega,by go_num,by rw [← HN2.out,HLEN.out],HE.out.trans' (by exact xx)⟩
   case measure=>simp [intOf];omega
  ·have hki:¬ ((k:Int) < (ps.length:Int)):=by omega
   have hke:(zf ps).take k=zf ps:=List.take_of_length_le (by rw [HFL.out];omega)
   obtain ⟨n1,hn1⟩:∃ n1,n1=((zf ps).take k).flatten.length:=⟨_,rfl⟩
   rw [← hn1] at hb1 ⊢
   clear hn1 hke hE
   go_wp2_with fail
   refine (zym n1 _ hb1).mono ?_
   rintro e W1 ⟨v,rfl,hE1,hown⟩
   have hE2:=HE.out.trans' (Ext.trans' (by exact xx) hE1)
   have HE2:=Lib.hid hE2
   have HO:=Lib.hid (hown.base (B':=w.heap.size) (by first | exact HE.out.size | (have:=HE.out.size;simp only [World.size_alloc];omega)))
   obtain ⟨va,vn,vc,rfl⟩:=hown.isSlice
   clear hE1 hown hE2 hb1
   go_wp2_with fail
   go_loopw [6,27] (fun ov iv W=>∃ k:Nat,k≤ps.length∧iv = .int .i64 k∧OwnI W w.heap.size ov ((zf ps).take k).flatten∧Ext w W) (fun _ iv _=>ps.length - (intOf iv).toNat)
   case atStart=>exact ⟨0,by omega,rfl,(by have:=HO.out.ext (by exact xx:Ext W1 _);exact this),HE2.out.trans' (by exact xx)⟩
   case round =>
    obtain ⟨k2,hk2,rfl,hown,hE⟩:=hrel
    obtain ⟨oa,on,oc,rfl⟩:=Owns.isSlice hown
    have HEr:=Lib.hid hE
    have HOr:=Lib.hid hown
    by_cases hlt2:k2 < ps.length
    ·have hki2:(k2:Int) < (ps.length:Int):=by omega
     obtain ⟨_,_,e,-,-,hcc⟩:=HF.out.spec
     cases e
     rcases hcc with hcc | ⟨fb,fo,rfl,hcc⟩
     ·rw [hcc] at hlt2;simp at hlt2
     have cf:=zb hE (hcc k2 hlt2)
     have hI:=HF.out.ints ps[k2] (List.getElem_mem hlt2)
     have hft:=zud (fs:=zf ps) (k:=k2) (by rw [HFL.out];exact hlt2)
     have hb2:=Nat.le_trans (zld (zf ps) (k2+1)) HL.out
     have hfk:(zf ps)[k2]'(by rw [HFL.out];exact hlt2)=ps[k2].2:=by simp [zf]
     rw [hfk] at hft
     obtain ⟨gv,hgv⟩:∃ gv,gv=ps[k2].1:=⟨_,rfl⟩
     obtain ⟨gl,hgl⟩:∃ gl,gl=ps[k2].2:=⟨_,rfl⟩
     rw [← hgv] at cf hI
     rw [← hgl] at hI hft
     rw [hft,List.length_append] at hb2
     obtain ⟨ga,gc,rfl,hgl1,hgl2,-⟩:=hI.spec
     have hgne:gl≠[]:=by rw [hgl];exact HNE.out _ (List.getElem_mem hlt2)
     have hsrc:Src wr 1 ga (gl.map iRow):=by
      obtain ⟨_,_,e,-,-,h3⟩:=hI.ext hE
      simp only [Value.slice.injEq] at e
      obtain ⟨rfl,-,rfl⟩:=e
      rcases h3 with h3 | ⟨b',o',e,h3⟩
      ·exact absurd (List.map_eq_nil_iff.1 h3) hgne
      ·exact .inr ⟨b',o',e,h3⟩
     have HSR:=Lib.hid hsrc
     have HFT:=Lib.hid hft
     have HI:=Lib.hid hI
     have hzf:=World.block_lt_of_cell? _ _ cf
     simp only at hzf
     have hsz:=hE.size
     have hbb:=hb2
     clear hcc hfk hgv hgl hft hI hsrc hE hown hgne
     go_wp2_with (at_builtin;refine z91 rfl (.tmp 31) (.tmp 32) zre rfl w.heap.size rfl (Owns.ext (by exact xx) HOr.out) ga gc (gl.map iRow) (by rw [List.length_map];rfl) (by intro r hr;obtain ⟨x,_,rfl⟩:=List.mem_map.1 hr;rfl) (HSR.out.ext (by exact xx)) (by intro r hr;obtain ⟨x,_,rfl⟩:=List.mem_map.1 hr;simp [iRow,Value.oneCell']) (by rw [List.length_map,List.length_map];omega) (by omega) ?_)
     intro v' W2 hown2 hk2
     obtain ⟨va,vn,vc,rfl⟩:=hown2.isSlice
     have HO2:Hid (OwnI W2 w.heap.size (.slice va vn vc) ((zf ps).take (k2+1)).flatten):=Lib.hid (by unfold OwnI;rw [HFT.out];simpa using hown2)
     have HE3:Hid (Ext w W2):=Lib.hid (Below.trans HEr.out (Owns.keptBelow HOr.out hsz hk2))
     clear hown2 hk2
     go_wp2_with fail
     go_roundw
     case rel=>exact ⟨k2+1,by omega,by go_num,HO2.out.ext (by exact xx),HE3.out.trans' (by exact xx)⟩
     case measure=>simp [intOf];omega
    ·have hki2:¬ ((k2:Int) < (ps.length:Int)):=by omega
     have hke2:(zf ps).take k2=zf ps:=List.take_of_length_le (by rw [HFL.out];omega)
     rw [hke2] at hown
     have HO3:=Lib.hid hown
     clear hown hke2 hE HOr
     go_wp2_with fail
     go_ret
     exact ⟨_,rfl,HEr.out,HO3.out⟩
end Go.Proofs.YtkbaiobnibmmgaaGreat
namespace Go.Proofs.YtkbaiobnibmmgaaGreat
open Go.RowKit Go.Shelf
theorem IsFin.take {W:World} {fa:Option Addr} {n c:Nat} {ps:List (Value × List Int)} (h:IsFin W (.slice fa n c) ps) (k:Nat) (hk:k≤ps.length):IsFin W (.slice fa k c) (ps.take k):=by
 obtain ⟨sa,cap,e,h2,h3,h4⟩:=h.rows
 simp only [Value.slice.injEq] at e
 obtain ⟨rfl,-,rfl⟩:=e
 rw [List.length_map] at h2
 refine ⟨⟨fa,c,by rw [List.length_map,List.length_take,Nat.min_eq_left hk],by rw [List.length_map,List.length_take,Nat.min_eq_left hk];omega,h3,?_⟩,fun x hx=>h.ints x (List.mem_of_mem_take hx)⟩
 rcases h4 with h4 | ⟨b,off,rfl,h4⟩
 ·exact .inl (by rw [List.map_take,h4];simp)
 ·exact .inr ⟨b,off,rfl,by rw [List.map_take];exact h4.take k⟩
theorem zin (ps:List (Value × List Int)) (k:Nat):zf (ps.take k)=(zf ps).take k:=by unfold zf;rw [List.map_take]
def za6 (fs:List (List Int)) (n:Nat):List Int:=zmk (fs.take n).flatten
set_option maxRecDepth 100000 in
set_option maxHeartbeats 1000000 in
theorem zml (ps:List (Value × List Int)) (fa:Option Addr) (fcap n:Nat) (w:World) (hf:IsFin w (.slice fa ps.length fcap) ps) (hn:n≤ps.length) (hl:(zf ps).flatten.length≤1000) (hne:∀ x∈ps,x.2≠[]) (h0:0 < ((zf ps).take n).flatten.length) :
  Calls Tryz.prog 146 #[.slice fa ps.length fcap,.int .i64 n] w fun e w'=>∃ g cp,e = .returned (.slice (some ⟨g,0,none⟩) (za6 (zf ps) n).length cp)∧Ext w w'∧w.heap.size≤g∧(za6 (zf ps) n).length≤cp∧cp≤9223372036854775807∧NumB w' g (za6 (zf ps) n).length (gt (za6 (zf ps) n)):=by
 obtain ⟨_,_,e,hf1,hf2,-⟩:=hf.spec
 cases e
 have HF:=Lib.hid (hf.take n hn)
 have HNE:=Lib.hid (fun x hx=>hne x (List.mem_of_mem_take hx):∀ x∈ps.take n,x.2≠[])
 have hni:(n:Int)≤(ps.length:Int):=by omega
 have hlt:(zf (ps.take n)).flatten.length≤1000:=by rw [zin];exact Nat.le_trans (zld _ _) hl
 have hnc:n≤fcap:=by omega
 obtain ⟨L,hL⟩:∃ L,L=(zf (ps.take n)).flatten:=⟨_,rfl⟩
 have HL:Hid (za6 (zf ps) n=zmk L):=Lib.hid (by unfold za6;rw [hL,zin])
 rw [← zin,← hL] at h0
 have HLL:=Lib.hid hL
 have HLT:=Lib.hid hlt
 obtain ⟨X,hX⟩:∃ X,X=za6 (zf ps) n:=⟨_,rfl⟩
 rw [← hX]
 have HX:=Lib.hid (hX.trans HL.out)
 have HL3:L.length≤1000:=by rw [hL];exact hlt
 clear hf hne hL hl hlt hX HL
 go_enter Tryz.func146,Tryz.ntmps146
 go_wp2_with fail
 refine (z1k (ps.take n) (.slice fa n fcap) _ (HF.out.ext (by exact xx)) HLT.out HNE.out).mono ?_
 rintro e W1 ⟨v,rfl,hE1,hown⟩
 rw [← HLL.out] at hown
 obtain ⟨g,lc,rfl,hg1,hg2,hgB,hN⟩:=Owns.cellsN hown h0
 have HE1:=Lib.hid hE1
 have HN:=Lib.hid hN
 clear hown hE1 hN
 go_wp2_with fail
 refine (z30 g lc L _ (HN.out.of_heap rfl) (by omega)).mono ?_
 rintro e W2 ⟨rfl,hk2,hn2⟩
 have HE2:=Lib.hid (zqh (HE1.out.trans' (by exact xx)) hk2 (by exact hgB))
 have HN2:=Lib.hid hn2
 clear hk2 hn2
 go_wp2_with fail
 go_ret
 have hXl:X.length=L.length:=by rw [HX.out,zif]
 exact ⟨g,lc,by rw [hXl];rfl,HE2.out,hgB,by rw [hXl];exact hg1,hg2,by rw [hXl,HX.out];exact HN2.out⟩
def zbq (b:Bk) (fs:List (List Int)) (a c:Int):Bool :=
 if a=c∨(b.kd=3∧c < a) then false
 else if 1 < (fs.headD []).length then true
 else if b.kd=2 then (fs.headD []).contains a
 else (fs.headD []).contains a || (fs.headD []).contains c
set_option maxRecDepth 100000 in
set_option maxHeartbeats 2000000 in
theorem zqj (b:Bk) (ps:List (Value × List Int)) (fv:Value) (a c:Int) (p:Nat) (w:World) (hk:w.cell? ⟨p,0,none⟩=some (.int .i64 b.kd)) (hf:IsFin w fv ps) (h0:0 < ps.length) :
  Calls Tryz.prog 148 #[.pointer (some ⟨p,0,none⟩),fv,.int .i64 a,.int .i64 c] w fun e w'=>e = .returned (.bool (zbq b (zf ps) a c))∧Ext w w':=by
 obtain ⟨fa,fcap,rfl,hf1,hf2,hcc⟩:=hf.spec
 rcases hcc with hcc | ⟨fb,fo,rfl,hcc⟩
 ·rw [hcc] at h0;simp at h0
 have cf:=hcc 0 h0
 rw [Nat.add_zero] at cf
 have hI:=hf.ints ps[0] (List.getElem_mem h0)
 obtain ⟨gv,hgv⟩:∃ gv,gv=ps[0].1:=⟨_,rfl⟩
 obtain ⟨gl,hgl⟩:∃ gl,gl=ps[0].2:=⟨_,rfl⟩
 rw [← hgv] at cf hI
 rw [← hgl] at hI
 obtain ⟨ga,gc,rfl,hgl1,hgl2,-⟩:=hI.spec
 have hhd:(zf ps).headD []=gl:=by
  rw [hgl]
  cases ps with
  | nil=>simp at h0
  | cons x l=>rfl
 obtain ⟨A,hA⟩:∃ A,A=gl.contains a:=⟨_,rfl⟩
 obtain ⟨C,hC⟩:∃ C,C=gl.contains c:=⟨_,rfl⟩
 have ca:=fun W h=>zhr gl a (.slice ga gl.length gc) W h
 have cc:=fun W h=>zhr gl c (.slice ga gl.length gc) W h
 rw [← hA] at ca
 rw [← hC] at cc
 have CA:=Lib.hid ca
 have CC:=Lib.hid cc
 have HI:=Lib.hid hI
 have HP:Hid (zbq b (zf ps) a c=if a=c∨(b.kd=3∧c < a) then false else if 1 < gl.length then true else if b.kd=2 then A else A || C):=Lib.hid (by unfold zbq;rw [hhd,← hA,← hC])
 obtain ⟨R,hR⟩:∃ R,R=zbq b (zf ps) a c:=⟨_,rfl⟩
 rw [← hR]
 have HR:=Lib.hid (hR.trans HP.out)
 have hz:=World.block_lt_of_cell? _ _ hk
 have hzf:=World.block_lt_of_cell? _ _ cf
 simp only at hz hzf
 have h0i:(0:Int) < (ps.length:Int):=by omega
 have hn0:¬ ps=[]:=fun h=>by rw [h] at h0;simp at h0
 clear hf hcc hgv hgl hI hhd hA hC ca cc HP hR
 go_enter Tryz.func148,Tryz.ntmps148
 go_upto_region 1 with (fail)
 refine za0 (w.heap.size) (Nat.le_refl _)
  [sqV (.slice (some ⟨fb,fo,none⟩) ps.length fcap),sqV (.pointer (some ⟨fb,fo,none⟩)),sqV (.slice ga gl.length gc),sqV (.int .i64 a),sqV (.bool A),sqV (.slice (some ⟨fb,fo,none⟩) ps.length fcap),sqV (.pointer (some ⟨fb,fo,none⟩)),sqV (.slice ga gl.length gc),sqV (.int .i64 c),sqV (.bool C),sqV (.bool A),sqV (.bool C)]
  [true,true,true,true,true,true,true,true,true,true,true,true] [false,false,false,false,false,false,false,false,false,false,false,false] [true,true,true,true,true,true,true,true,true,true,true,true] [true,true,true,true,true,true,true,true,true,true,true,true]
  (by kernel_rfl) (by kernel_rfl) (by decide +kernel) (by decide +kernel) (by decide +kernel) rfl ⟨rfl,rfl⟩ ⟨?s0,?s1,?s2,?s3,?s4,?s5,?s6,?s7,?s8,?s9,?s10,?s11,trivial⟩ [some 11,some 12,some 13,some 14,some 15,some 16,some 17,some 18,some 19,some 20,some 9,some 10] rfl rfl ?send
 case s0 =>
  intro val ρ W hE hz hd hA hx
  have o0:ρ (.tmp 1) = .slice (some ⟨fb,fo,none⟩) ps.length fcap:=hA.old 1 (by decide)
  clear hd
  exact zd (W':=W) (by simp [execOp,o0,go_sem]) (Below.refl _ _) rfl
 case s1 =>
  intro val ρ W hE hz hd hA hx
  have d0:ρ (.tmp 11) = .slice (some ⟨fb,fo,none⟩) ps.length fcap:=(hA.dep 0 (by decide) 11 rfl).trans (hd 0 (by decide))
  clear hd
  exact zd (W':=W) (by simp [execOp,hA.const,d0,hn0,go_sem]) (Below.refl _ _) rfl
 case s2 =>
  intro val ρ W hE hz hd hA hx
  have d1:ρ (.tmp 12) = .pointer (some ⟨fb,fo,none⟩):=(hA.dep 1 (by decide) 12 rfl).trans (hd 1 (by decide))
  have f_cf:=cell_below hE (by simp only;omega) cf
  clear hd
  exact zd (W':=W) (by simp [execOp,d1,f_cf,go_sem]) (Below.refl _ _) rfl
 case s3 =>
  intro val ρ W hE hz hd hA hx
  have o0:ρ (.tmp 2) = .int .i64 a:=hA.old 2 (by decide)
  clear hd
  exact zd (W':=W) (by simp [execOp,o0,go_sem]) (Below.refl _ _) rfl
 case s4 =>
  intro val ρ W hE hz hd hA hx
  have d2:ρ (.tmp 13) = .slice ga gl.length gc:=(hA.dep 2 (by decide) 13 rfl).trans (hd 2 (by decide))
  have d3:ρ (.tmp 14) = .int .i64 a:=(hA.dep 3 (by decide) 14 rfl).trans (hd 3 (by decide))
  clear hd
  refine zby 179 _ _ rfl #[.slice ga gl.length gc,.int .i64 a] (hA.func _) (by simp [d2,d3]) (fun args W=>Tryz.call179 args W) ((CA.out W (HI.out.ext hE)).mono ?_)
  rintro e w' ⟨rfl,hb⟩
  exact ⟨_,rfl,hb,rfl⟩
 case s5 =>
  intro val ρ W hE hz hd hA hx
  have o0:ρ (.tmp 1) = .slice (some ⟨fb,fo,none⟩) ps.length fcap:=hA.old 1 (by decide)
  clear hd
  exact zd (W':=W) (by simp [execOp,o0,go_sem]) (Below.refl _ _) rfl
 case s6 =>
  intro val ρ W hE hz hd hA hx
  have d5:ρ (.tmp 16) = .slice (some ⟨fb,fo,none⟩) ps.length fcap:=(hA.dep 5 (by decide) 16 rfl).trans (hd 5 (by decide))
  clear hd
  exact zd (W':=W) (by simp [execOp,hA.const,d5,hn0,go_sem]) (Below.refl _ _) rfl
 case s7 =>
  intro val ρ W hE hz hd hA hx
  have d6:ρ (.tmp 17) = .pointer (some ⟨fb,fo,none⟩):=(hA.dep 6 (by decide) 17 rfl).trans (hd 6 (by decide))
  have f_cf:=cell_below hE (by simp only;omega) cf
  clear hd
  exact zd (W':=W) (by simp [execOp,d6,f_cf,go_sem]) (Below.refl _ _) rfl
 case s8 =>
  intro val ρ W hE hz hd hA hx
  have o0:ρ (.tmp 3) = .int .i64 c:=hA.old 3 (by decide)
  clear hd
  exact zd (W':=W) (by simp [execOp,o0,go_sem]) (Below.refl _ _) rfl
 case s9 =>
  intro val ρ W hE hz hd hA hx
  have d7:ρ (.tmp 18) = .slice ga gl.length gc:=(hA.dep 7 (by decide) 18 rfl).trans (hd 7 (by decide))
  have d8:ρ (.tmp 19) = .int .i64 c:=(hA.dep 8 (by decide) 19 rfl).trans (hd 8 (by decide))
  clear hd
  refine zby 179 _ _ rfl #[.slice ga gl.length gc,.int .i64 c] (hA.func _) (by simp [d7,d8]) (fun args W=>Tryz.call179 args W) ((CC.out W (HI.out.ext hE)).mono ?_)
  rintro e w' ⟨rfl,hb⟩
  exact ⟨_,rfl,hb,rfl⟩
 case s10 =>
  intro val ρ W hE hz hd hA hx
  have d4:ρ (.tmp 15) = .bool A:=(hA.dep 4 (by decide) 15 rfl).trans (hd 4 (by decide))
  clear hd
  exact zd (W':=W) (by simp [execOp,d4,go_sem]) (Below.refl _ _) rfl
 case s11 =>
  intro val ρ W hE hz hd hA hx
  have d9:ρ (.tmp 20) = .bool C:=(hA.dep 9 (by decide) 20 rfl).trans (hd 9 (by decide))
  clear hd
  exact zd (W':=W) (by simp [execOp,d9,go_sem]) (Below.refl _ _) rfl
 case send =>
  intro val WW hE hzz hv
  obtain ⟨-,-,-,-,-,-,-,-,-,-,q10,q11,-⟩:=hv
  have q10':val 10 = .bool A:=q10
  have q11':val 11 = .bool C:=q11
  simp only [putD,q10',q11']
  go_frame
  have hEW:Ext w WW:=hE
  have k1:=zb hEW hk
  have c1:=zb hEW cf
  have hz1:=World.block_lt_of_cell? _ _ k1
  have hzf1:=World.block_lt_of_cell? _ _ c1
  simp only at hz1 hzf1
  have HE:=Lib.hid hEW
  clear q10 q10' q11 q11' hE hzz hEW hk cf hz hzf
  by_cases h1:a=c
  ·have e1:(a == c)=true:=by simpa using h1
   have HH:=Lib.hid (show R=false by rw [HR.out,if_pos (.inl h1)])
   clear h1
   go_wp2_with fail
   go_ret
   exact ⟨zac HH.out.symm,HE.out⟩
  have e1:(a == c)=false:=by simpa using h1
  by_cases h2:b.kd=3
  ·rw [h2] at k1
   by_cases h3:c < a
   ·have HH:=Lib.hid (show R=false by rw [HR.out,if_pos (.inr ⟨h2,h3⟩)])
    have d3:decide (c < a)=true:=decide_eq_true h3
    clear h1 h2
    go_wp2_with fail
    go_ret
    exact ⟨zac HH.out.symm,HE.out⟩
   ·have hn:¬ (a=c∨(b.kd=3∧c < a)):=fun h=>h.elim h1 fun h=>h3 h.2
    have HH:=Lib.hid (show R=if 1 < gl.length then true else A || C by rw [HR.out,if_neg hn,if_neg (show ¬ b.kd=2 by omega)])
    have d3:decide (c < a)=false:=decide_eq_false h3
    clear h1 h2 hn
    by_cases h4:1 < gl.length
    ·have d4:decide ((1:Int) < (gl.length:Int))=true:=decide_eq_true (by omega)
     have d5:(1:Int) < (gl.length:Int):=by omega
     have HH2:=Lib.hid (HH.out.trans (if_pos h4))
     clear h4
     go_wp2_with fail
     go_ret
     exact ⟨zac HH2.out.symm,HE.out⟩
    ·have d4:decide ((1:Int) < (gl.length:Int))=false:=decide_eq_false (by omega)
     have d5:¬ ((1:Int) < (gl.length:Int)):=by omega
     have HH2:=Lib.hid (HH.out.trans (if_neg h4))
     clear h4
     cases A <;>
     ·go_wp2_with fail
      go_ret
      exact ⟨zac (by rw [HH2.out];rfl),HE.out⟩
  ·have e2:(b.kd == 3)=false:=by simpa using h2
   have hn:¬ (a=c∨(b.kd=3∧c < a)):=fun h=>h.elim h1 fun h=>h2 h.1
   have HH:=Lib.hid (show R=if 1 < gl.length then true else if b.kd=2 then A else A || C by rw [HR.out,if_neg hn])
   clear h1 hn
   by_cases h4:1 < gl.length
   ·have d4:decide ((1:Int) < (gl.length:Int))=true:=decide_eq_true (by omega)
    have d5:(1:Int) < (gl.length:Int):=by omega
    have HH2:=Lib.hid (HH.out.trans (if_pos h4))
    clear h4
    go_wp2_with fail
    go_ret
    exact ⟨zac HH2.out.symm,HE.out⟩
   ·have d4:decide ((1:Int) < (gl.length:Int))=false:=decide_eq_false (by omega)
    have d5:¬ ((1:Int) < (gl.length:Int)):=by omega
    have HH2:=Lib.hid (HH.out.trans (if_neg h4))
    clear h4
    by_cases h5:b.kd=2
    ·have e5:(b.kd == 2)=true:=by simpa using h5
     have HH3:=Lib.hid (HH2.out.trans (if_pos h5))
     clear h5
     go_wp2_with fail
     go_ret
     exact ⟨zac HH3.out.symm,HE.out⟩
    ·have e5:(b.kd == 2)=false:=by simpa using h5
     have HH3:=Lib.hid (HH2.out.trans (if_neg h5))
     clear h5
     cases A <;>
     ·go_wp2_with fail
      go_ret
      exact ⟨zac (by rw [HH3.out];rfl),HE.out⟩
end Go.Proofs.YtkbaiobnibmmgaaGreat
namespace Go.Proofs.YtkbaiobnibmmgaaGreat
open Go.RowKit Go.Shelf
attribute [local go_sem] Oper.semAt_some
def grp (b:Bk) (fs:List (List Int)):Nat:=if b.kd≠0∧(fs.headD []).length=1 then 2 else 1
def zaa (b:Bk) (fs:List (List Int)) (l:List Int) (a:Int):List Spt:=if single b=true then [(a,-1)] else (l.filter (zbq b fs a)).map fun c=>(a,c)
def zbj (b:Bk) (fs:List (List Int)):List Spt:=(za6 fs (grp b fs)).flatMap (zaa b fs (za6 fs (grp b fs)))
set_option maxRecDepth 100000 in
set_option maxHeartbeats 1000000 in
theorem zpu (p:Nat) (fa:Option Addr) (n c:Nat) (w:World) :
  Calls Tryz.prog 89 #[.pointer (some ⟨p,0,none⟩),.slice fa n c] w fun e w'=>e = .returned (.func (.func 145) #[] #[.pointer (some ⟨w.heap.size,0,none⟩),.pointer (some ⟨w.heap.size+1,0,none⟩)]) ∧
   Ext w w'∧w'.cell? ⟨w.heap.size,0,none⟩=some (.pointer (some ⟨p,0,none⟩))∧w'.cell? ⟨w.heap.size+1,0,none⟩=some (.slice fa n c)∧w'.heap.size=w.heap.size+2:=by
 go_enter Tryz.func89,Tryz.ntmps89
 go_wp2
 go_ret
 exact ⟨rfl,by exact xx,by simp [go_sem],by simp [go_sem],by simp⟩
theorem zfk {α β:Type} (f:α→List β) {l:List α} {k:Nat} (h:k < l.length):(l.take (k+1)).flatMap f=(l.take k).flatMap f ++ f l[k]:=by
 rw [List.take_add_one,List.getElem?_eq_getElem h,List.flatMap_append]
 simp
theorem zgi {α β:Type} (f:α→List β) {l:List α} {k:Nat} (h:k < l.length):l.flatMap f=(l.take k).flatMap f ++ (f l[k] ++ (l.drop (k+1)).flatMap f):=by
 rw [← List.append_assoc,← zfk f h,← List.flatMap_append,List.take_append_drop]
theorem zgt {q:Int→Bool} {a:Int} {l:List Int} {j:Nat} (h:j < l.length):(((l.take (j+1)).filter q).map fun c=>(a,c))=(((l.take j).filter q).map fun c=>(a,c)) ++ if q (gt l j) then [(a,gt l j)] else []:=by
 rw [List.take_add_one,List.getElem?_eq_getElem h,List.filter_append,List.map_append,← gt_get h]
 congr 1
 cases hq:q l[j]<;>simp [hq]
theorem zio {q:Int→Bool} {a:Int} {l:List Int} {j:Nat} (h:j < l.length) (hq:q (gt l j)=true):((l.filter q).map fun c=>(a,c))=(((l.take j).filter q).map fun c=>(a,c)) ++ (a,gt l j) :: (((l.drop (j+1)).filter q).map fun c=>(a,c)):=by
 have e:l=l.take (j+1) ++ l.drop (j+1):=(List.take_append_drop _ _).symm
 conv=>lhs;rw [e]
 rw [List.filter_append,List.map_append,zgt h,if_pos hq,List.append_assoc];rfl
structure WinM (W:World) (bt bf p:Nat) (b:Bk) (ba:Option Addr) (bcap:Nat) (sa:Option Addr) (scap:Nat) (fa:Option Addr) (fcap:Nat) (ps:List (Value × List Int)):Prop where
 ct:W.cell? ⟨bt,0,none⟩=some (.pointer (some ⟨p,0,none⟩))
 cf:W.cell? ⟨bf,0,none⟩=some (.slice fa ps.length fcap)
 bk:BookAt W p b ba bcap sa scap
 fin:IsFin W (.slice fa ps.length fcap) ps
structure FinOk (b:Bk) (ps:List (Value × List Int)):Prop where
 ne:∀ x∈ps,x.2≠[]
 le:(zf ps).flatten.length≤1000
 one:0 < ps.length
 two:grp b (zf ps)≤ps.length
theorem FinOk.pos {b:Bk} {ps:List (Value × List Int)} (h:FinOk b ps) {n:Nat} (hn:0 < n):0 < ((zf ps).take n).flatten.length:=by
 have h1:=h.one
 match ps,h with
 | [],_=>simp at h1
 | x :: l,h =>
  obtain ⟨m,rfl⟩:∃ m,n=m+1:=⟨n - 1,by omega⟩
  have:=List.length_pos_iff.2 (h.ne x (by simp))
  simp [zf];omega
set_option maxRecDepth 100000 in
set_option maxHeartbeats 4000000 in
theorem zn9 (b:Bk) (ba sa fa:Option Addr) (bcap scap fcap bt bf p:Nat) (ps:List (Value × List Int)) (R:Nat→Prop) (w0:World) (_:∀ k,R k→k < w0.heap.size)
  (hM:∀ W,Kept R w0 W→WinM W bt bf p b ba bcap sa scap fa fcap ps) (hok:FinOk b ps) :
  Iter Tryz.prog 145 #[.pointer (some ⟨bt,0,none⟩),.pointer (some ⟨bf,0,none⟩)] (fun x:Spt=>#[skey x]) R (fun xs=>xs=zbj b (zf ps)) (fun _=>True) (fun pre x=>∃ rest,zbj b (zf ps)=pre ++ x :: rest) w0:=by
 intro n l J Jx W hW hJ hJx hY h0
 have hk0:Kept R w0 W:=(Kept.of_below hW).mono fun k hk _=>trivial
 have HM:=Lib.hid hM
 have HOK:=Lib.hid hok
 have HJ:=Lib.hid hJ
 have HY:=Lib.hid hY
 have HK0:=Lib.hid hk0
 have HH0:=Lib.hid h0
 have hs0:=hW.size
 have hm:=hM W hk0
 have k0:=hm.bk.c0
 have hct:=hm.ct
 have hcf:=hm.cf
 obtain ⟨fb,fo,rfl,cg⟩:∃ fb fo,fa=some ⟨fb,fo,none⟩∧∃ ga gl gc,W.cell? ⟨fb,fo,none⟩=some (.slice ga gl gc)∧gl=((zf ps).headD []).length:=by
  obtain ⟨_,_,e,-,-,hcc⟩:=hm.fin.spec
  cases e
  have h1:=hok.one
  rcases hcc with hcc | ⟨fb,fo,rfl,hcc⟩
  ·rw [hcc] at h1;simp at h1
  have c0:=hcc 0 h1
  rw [Nat.add_zero] at c0
  obtain ⟨ga,gc,e,-,-,-⟩:=(hm.fin.ints _ (List.getElem_mem h1)).spec
  refine ⟨fb,fo,rfl,ga,_,gc,by rw [c0,e],?_⟩
  match ps,h1 with
  | x :: l,_=>rfl
 obtain ⟨ga,gl,gc,cg,hgl⟩:=cg
 have hone:=hok.one
 have h0i:(0:Int) < (ps.length:Int):=by omega
 have hn0:¬ ps=[]:=fun h=>by rw [h] at hone;simp at hone
 obtain ⟨G,hG⟩:∃ G,G=grp b (zf ps):=⟨_,rfl⟩
 have hg:G=if b.kd≠0∧gl=1 then 2 else 1:=by rw [hG,hgl];rfl
 have HGL:=Lib.hid hg
 have HGG:=Lib.hid hG
 have hzt:=World.block_lt_of_cell? _ _ hct
 have hzf:=World.block_lt_of_cell? _ _ hcf
 have hzp:=World.block_lt_of_cell? _ _ k0
 have hzg:=World.block_lt_of_cell? _ _ cg
 simp only at hzt hzf hzp hzg
 refine callsIn_of_wp Tryz.func145 rfl trivial ?_ rfl
 simp only [Tryz.ntmps145,List.size_toArray,List.length_cons,List.length_nil,Nat.reduceAdd,Nat.reduceSub,Array.replicate_succ,Array.replicate_zero,List.push_toArray,List.append_toArray,List.nil_append,List.cons_append]
 clear hM hok hJ hJx hY hk0 h0 hW hm hg hG hgl
 refine z0q ?_
 by_cases hk:b.kd=0
 ·rw [hk] at k0
  have HGE:=Lib.hid (show G=1 by rw [HGL.out,if_neg (fun h=>h.1 hk)])
  clear hk
  gi_wp2_with fail
  refine ⟨trivial,fun h=>(by simp [Fence.wide] at h),(callsIn_wide.2 (zml ps _ fcap 1 W (HM.out W HK0.out).fin (by have:=HOK.out.two;rw [← HGG.out,HGE.out] at this;exact this) HOK.out.le HOK.out.ne (HOK.out.pos (by omega)))).mono ?_⟩
  rintro e W1 ⟨g,lc,rfl,hE1,hgB,hlc1,hlc2,hN⟩
  obtain ⟨L,hL⟩:∃ L,L=za6 (zf ps) 1:=⟨_,rfl⟩
  have HWP:Hid (zbj b (zf ps)=L.flatMap (zaa b (zf ps) L)):=Lib.hid (by unfold zbj;rw [← HGG.out,HGE.out,← hL])
  rw [← hL] at hlc1 hN ⊢
  have HN1:=Lib.hid hN
  have HK1:=Lib.hid ((Kept.of_below hE1).mono (T:=R) fun k _ _=>trivial:Kept R W W1)
  have HJ1:=Lib.hid (HJ.out [] (fun _=>False) (fun k=>k=g) W W1 HH0.out ((Kept.of_below hE1).mono fun k _ _=>trivial) (fun _ h=>h.elim) (fun k hk=>.inr ⟨by rw [hk];exact hgB,by rw [hk];exact hN.lt⟩))
  have hgw:w0.heap.size≤g:=by omega
  clear hE1 hN hL k0 hct hcf cg hzt hzf hzp hzg
  gi_wp2_with fail
  refine wpIn_label ?_
  gi_wp2_with fail
  gi_loopw [28] (fun iv wr=>∃ k:Nat,k≤L.length∧iv = .int .i64 k∧J (fun k=>k=g) ((L.take k).flatMap (zaa b (zf ps) L)) wr∧NumB wr g L.length (gt L)∧Kept R W wr) (fun iv _=>L.length - (intOf iv).toNat)
  case atStart=>exact ⟨0,by omega,rfl,by simpa using HJ1.out,HN1.out,HK1.out⟩
  case round =>
   obtain ⟨k,hk,rfl,hj,hnum,hkp⟩:=hrel
   have HJr:=Lib.hid hj
   have HNr:=Lib.hid hnum
   have HKr:=Lib.hid hkp
   by_cases hlt:k < L.length
   ·have hki:(k:Int) < (L.length:Int):=by omega
    have c0:=hnum.cell k hlt
    have hzg:=hnum.lt
    have hm:=HM.out wr (HK0.out.trans hkp)
    have hct:=hm.ct
    have hzt:=World.block_lt_of_cell? _ _ hct
    simp only at hzt
    have hbk:=hm.bk
    have k0:=(hbk).c0
    have k1:=(hbk).c1
    have k2:=(hbk).c2
    have k3:=(hbk).c3
    have k4:=(hbk).c4
    have k5:=(hbk).c5
    have k6:=(hbk).c6
    have k7:=(hbk).c7
    have hz:=(hbk).lt
    obtain ⟨a,ha⟩:∃ a,a=gt L k:=⟨_,rfl⟩
    rw [← ha] at c0
    have HA:=Lib.hid ha
    have hsp:=zgi (zaa b (zf ps) L) hlt
    have htk:=zfk (zaa b (zf ps) L) hlt
    rw [gt_get hlt,← ha] at hsp htk
    have HSP:=Lib.hid hsp
    have HTK:=Lib.hid htk
    have hcf:=hm.cf
    have hzf:=World.block_lt_of_cell? _ _ hcf
    simp only at hzf
    clear hj hnum hkp hbk ha hsp htk hm
    gi_wp2_with fail
    refine ⟨trivial,fun h=>(by simp [Fence.wide] at h),(callsIn_wide.2 (zeg b ba sa bcap scap _)).mono ?_⟩
    rintro e W3 ⟨rfl,hE3⟩
    have HJ3:=Lib.hid ((HJ.out _).ext HJr.out hE3)
    have HN3:=Lib.hid (HNr.out.of_heap (hE3.block _ HNr.out.lt))
    have HK3:=Lib.hid (HKr.out.trans ((Kept.of_below hE3).mono (T:=R) fun k _ _=>trivial))
    clear hE3 k0 k1 k2 k3 k4 k5 k6 k7 hz c0 hct hcf hzt hzf hzg
    cases hsi:single b
    ·have hwa:zaa b (zf ps) L a=(L.filter (zbq b (zf ps) a)).map fun c=>(a,c):=by unfold zaa;rw [if_neg (by rw [hsi];simp)]
     have HWA:=Lib.hid hwa
     clear hsi hwa
     gi_wp2_with fail
     gi_loopw [44] (fun iv wr=>∃ j:Nat,j≤L.length∧iv = .int .i64 j∧J (fun k=>k=g) ((L.take k).flatMap (zaa b (zf ps) L) ++ (((L.take j).filter (zbq b (zf ps) a)).map fun c=>(a,c))) wr∧NumB wr g L.length (gt L)∧Kept R W wr) (fun iv _=>L.length - (intOf iv).toNat)
     case atStart=>exact ⟨0,by omega,rfl,by simpa using HJ3.out,HN3.out,HK3.out⟩
     case round =>
      obtain ⟨j,hjl,rfl,hj,hnum,hkp⟩:=hrel
      have HJi:=Lib.hid hj
      have HNi:=Lib.hid hnum
      have HKi:=Lib.hid hkp
      by_cases hjt:j < L.length
      ·have hji:(j:Int) < (L.length:Int):=by omega
       have c0:=hnum.cell j hjt
       have hzg:=hnum.lt
       have hm:=HM.out wr (HK0.out.trans hkp)
       have hct:=hm.ct
       have hcf:=hm.cf
       have k0:=hm.bk.c0
       have hzt:=World.block_lt_of_cell? _ _ hct
       have hzf:=World.block_lt_of_cell? _ _ hcf
       have hzp:=World.block_lt_of_cell? _ _ k0
       simp only at hzt hzf hzp
       have HFi:=Lib.hid hm.fin
       obtain ⟨c,hc⟩:∃ c,c=gt L j:=⟨_,rfl⟩
       have hpt:=zgt (q:=zbq b (zf ps) a) (a:=a) hjt
       have hps:=zio (q:=zbq b (zf ps) a) (a:=a) hjt
       rw [← hc] at c0 hpt hps
       have HPT:=Lib.hid hpt
       have HPS:=Lib.hid hps
       clear hj hnum hkp hm hc hpt hps
       gi_wp2_with fail
       refine ⟨trivial,fun h=>(by simp [Fence.wide] at h),(callsIn_wide.2 (zqj b ps _ a c p wr k0 HFi.out hone)).mono ?_⟩
       rintro e W4 ⟨rfl,hE4⟩
       have HJ4:=Lib.hid ((HJ.out _).ext HJi.out hE4)
       have HN4:=Lib.hid (HNi.out.of_heap (hE4.block _ HNi.out.lt))
       have HK4:=Lib.hid (HKi.out.trans ((Kept.of_below hE4).mono (T:=R) fun k _ _=>trivial))
       clear hE4 c0 hct hcf k0 hzt hzf hzp hzg HFi
       cases hpr:zbq b (zf ps) a c
       ·have hpt:=HPT.out
        rw [if_neg (by rw [hpr];simp),List.append_nil] at hpt
        have HPT2:=Lib.hid hpt
        clear hpr hpt
        gi_wp2_with fail
        go_roundw
        case rel=>exact ⟨j+1,by omega,by go_num,by rw [HPT2.out];exact HJ4.out,HN4.out,HK4.out⟩
        case measure=>simp [intOf];omega
       ·have hpt:=HPT.out
        rw [if_pos hpr] at hpt
        have HPT2:=Lib.hid hpt
        have hnx:∃ rest,zbj b (zf ps)=((L.take k).flatMap (zaa b (zf ps) L) ++ (((L.take j).filter (zbq b (zf ps) a)).map fun c=>(a,c))) ++ (a,c) :: rest :=
         ⟨_,by rw [HWP.out,HSP.out,HWA.out,HPS.out hpr,List.append_assoc,List.append_assoc];rfl⟩
        obtain ⟨fn,tmps,assign,body,hy,hRr⟩:=HY.out (fun k=>k=g) _ (a,c) W4 HJ4.out hnx
        simp only [skey] at hy
        clear hpr hpt hnx
        gi_wp2_with fail
        refine ⟨fun h=>(by simp [Fence.wide] at h),hRr.mono ?_⟩
        clear hy hRr
        rintro e W5 (⟨rfl,hj5,hk5⟩ | ⟨rfl,hj5⟩)
        ·have HJ5:=Lib.hid hj5
         have HN5:=Lib.hid (HN4.out.of_heap (hk5.same _ HN4.out.lt (.inr rfl)))
         have HK5:=Lib.hid (HK4.out.trans (hk5.mono (T:=R) fun _ _ h=>.inl h))
         clear hj5 hk5
         gi_wp2_with fail
         go_roundw
         case rel=>exact ⟨j+1,by omega,by go_num,by rw [HPT2.out,← List.append_assoc];exact HJ5.out,HN5.out,HK5.out⟩
         case measure=>simp [intOf];omega
        ·have HJ5:=Lib.hid hj5
         clear hj5
         gi_wp2_with fail
         rw [Exit.noGoto_ret];refine bodyPost_ret (results_none rfl _ _ _) rfl ?_
         exact ⟨⟨_,rfl⟩,.inr ⟨_,_,trivial,HJ5.out⟩⟩
      ·have hji:¬ ((j:Int) < (L.length:Int)):=by omega
       have hje:j=L.length:=by omega
       rw [hje,List.take_length,← HWA.out,← HTK.out] at hj
       have HJe:=Lib.hid hj
       clear hje hj hnum hkp
       gi_wp2_with fail
       go_roundw
       case rel=>exact ⟨k+1,by omega,by go_num,HJe.out,HNi.out,HKi.out⟩
       case measure=>simp [intOf];omega
    ·have hwa:zaa b (zf ps) L a=[(a,-1)]:=by unfold zaa;rw [if_pos hsi]
     have HTK2:=Lib.hid (HTK.out.trans (by rw [hwa]):(L.take (k+1)).flatMap (zaa b (zf ps) L)=(L.take k).flatMap (zaa b (zf ps) L) ++ [(a,-1)])
     have hnx:∃ rest,zbj b (zf ps)=(L.take k).flatMap (zaa b (zf ps) L) ++ (a,-1) :: rest:=⟨_,by rw [HWP.out,HSP.out,hwa];rfl⟩
     obtain ⟨fn,tmps,assign,body,hy,hRr⟩:=HY.out (fun k=>k=g) _ (a,-1) W3 HJ3.out hnx
     simp only [skey] at hy
     clear hsi hwa hnx
     gi_wp2_with fail
     refine ⟨fun h=>(by simp [Fence.wide] at h),hRr.mono ?_⟩
     clear hy hRr
     rintro e W5 (⟨rfl,hj5,hk5⟩ | ⟨rfl,hj5⟩)
     ·have HJ5:=Lib.hid hj5
      have HN5:=Lib.hid (HN3.out.of_heap (hk5.same _ HN3.out.lt (.inr rfl)))
      have HK5:=Lib.hid (HK3.out.trans (hk5.mono (T:=R) fun _ _ h=>.inl h))
      clear hj5 hk5
      gi_wp2_with fail
      go_roundw
      case rel=>exact ⟨k+1,by omega,by go_num,by rw [HTK2.out];exact HJ5.out,HN5.out,HK5.out⟩
      case measure=>simp [intOf];omega
     ·have HJ5:=Lib.hid hj5
      clear hj5
      gi_wp2_with fail
      rw [Exit.noGoto_ret];refine bodyPost_ret (results_none rfl _ _ _) rfl ?_
      exact ⟨⟨_,rfl⟩,.inr ⟨_,_,trivial,HJ5.out⟩⟩
   ·have hki:¬ ((k:Int) < (L.length:Int)):=by omega
    have hke:k=L.length:=by omega
    rw [hke,List.take_length,← HWP.out] at hj
    have HJe:=Lib.hid hj
    clear hke hj hnum hkp
    gi_wp2_with fail
    go_end0
    exact ⟨⟨_,rfl⟩,.inl ⟨_,HJe.out⟩⟩
 ·have e1:(b.kd != 0)=true:=by simpa using hk
  by_cases hg1:gl=1
  ·have HGE:=Lib.hid (show G=2 by rw [HGL.out,if_pos ⟨hk,hg1⟩])
   have e2:((gl:Int) == 1)=true:=by rw [hg1];rfl
   have e3:decide (gl=1)=true:=decide_eq_true hg1
   clear hk
   gi_wp2_with fail
   refine ⟨trivial,fun h=>(by simp [Fence.wide] at h),(callsIn_wide.2 (zml ps _ fcap 2 W (HM.out W HK0.out).fin (by have:=HOK.out.two;rw [← HGG.out,HGE.out] at this;exact this) HOK.out.le HOK.out.ne (HOK.out.pos (by omega)))).mono ?_⟩
   rintro e W1 ⟨g,lc,rfl,hE1,hgB,hlc1,hlc2,hN⟩
   obtain ⟨L,hL⟩:∃ L,L=za6 (zf ps) 2:=⟨_,rfl⟩
   have HWP:Hid (zbj b (zf ps)=L.flatMap (zaa b (zf ps) L)):=Lib.hid (by unfold zbj;rw [← HGG.out,HGE.out,← hL])
   rw [← hL] at hlc1 hN ⊢
   have HN1:=Lib.hid hN
   have HK1:=Lib.hid ((Kept.of_below hE1).mono (T:=R) fun k _ _=>trivial:Kept R W W1)
   have HJ1:=Lib.hid (HJ.out [] (fun _=>False) (fun k=>k=g) W W1 HH0.out ((Kept.of_below hE1).mono fun k _ _=>trivial) (fun _ h=>h.elim) (fun k hk=>.inr ⟨by rw [hk];exact hgB,by rw [hk];exact hN.lt⟩))
   have hgw:w0.heap.size≤g:=by omega
   clear hE1 hN hL k0 hct hcf cg hzt hzf hzp hzg
   gi_wp2_with fail
   refine wpIn_label ?_
   gi_wp2_with fail
   gi_loopw [28] (fun iv wr=>∃ k:Nat,k≤L.length∧iv = .int .i64 k∧J (fun k=>k=g) ((L.take k).flatMap (zaa b (zf ps) L)) wr∧NumB wr g L.length (gt L)∧Kept R W wr) (fun iv _=>L.length - (intOf iv).toNat)
   case atStart=>exact ⟨0,by omega,rfl,by simpa using HJ1.out,HN1.out,HK1.out⟩
   case round =>
    obtain ⟨k,hk,rfl,hj,hnum,hkp⟩:=hrel
    have HJr:=Lib.hid hj
    have HNr:=Lib.hid hnum
    have HKr:=Lib.hid hkp
    by_cases hlt:k < L.length
    ·have hki:(k:Int) < (L.length:Int):=by omega
     have c0:=hnum.cell k hlt
     have hzg:=hnum.lt
     have hm:=HM.out wr (HK0.out.trans hkp)
     have hct:=hm.ct
     have hzt:=World.block_lt_of_cell? _ _ hct
     simp only at hzt
     have hbk:=hm.bk
     have k0:=(hbk).c0
     have k1:=(hbk).c1
     have k2:=(hbk).c2
     have k3:=(hbk).c3
     have k4:=(hbk).c4
     have k5:=(hbk).c5
     have k6:=(hbk).c6
     have k7:=(hbk).c7
     have hz:=(hbk).lt
     obtain ⟨a,ha⟩:∃ a,a=gt L k:=⟨_,rfl⟩
     rw [← ha] at c0
     have HA:=Lib.hid ha
     have hsp:=zgi (zaa b (zf ps) L) hlt
     have htk:=zfk (zaa b (zf ps) L) hlt
     rw [gt_get hlt,← ha] at hsp htk
     have HSP:=Lib.hid hsp
     have HTK:=Lib.hid htk
     have hcf:=hm.cf
     have hzf:=World.block_lt_of_cell? _ _ hcf
     simp only at hzf
     clear hj hnum hkp hbk ha hsp htk hm
     gi_wp2_with fail
     refine ⟨trivial,fun h=>(by simp [Fence.wide] at h),(callsIn_wide.2 (zeg b ba sa bcap scap _)).mono ?_⟩
     rintro e W3 ⟨rfl,hE3⟩
     have HJ3:=Lib.hid ((HJ.out _).ext HJr.out hE3)
     have HN3:=Lib.hid (HNr.out.of_heap (hE3.block _ HNr.out.lt))
     have HK3:=Lib.hid (HKr.out.trans ((Kept.of_below hE3).mono (T:=R) fun k _ _=>trivial))
     clear hE3 k0 k1 k2 k3 k4 k5 k6 k7 hz c0 hct hcf hzt hzf hzg
     cases hsi:single b
     ·have hwa:zaa b (zf ps) L a=(L.filter (zbq b (zf ps) a)).map fun c=>(a,c):=by unfold zaa;rw [if_neg (by rw [hsi];simp)]
      have HWA:=Lib.hid hwa
      clear hsi hwa
      gi_wp2_with fail
      gi_loopw [44] (fun iv wr=>∃ j:Nat,j≤L.length∧iv = .int .i64 j∧J (fun k=>k=g) ((L.take k).flatMap (zaa b (zf ps) L) ++ (((L.take j).filter (zbq b (zf ps) a)).map fun c=>(a,c))) wr∧NumB wr g L.length (gt L)∧Kept R W wr) (fun iv _=>L.length - (intOf iv).toNat)
      case atStart=>exact ⟨0,by omega,rfl,by simpa using HJ3.out,HN3.out,HK3.out⟩
      case round =>
       obtain ⟨j,hjl,rfl,hj,hnum,hkp⟩:=hrel
       have HJi:=Lib.hid hj
       have HNi:=Lib.hid hnum
       have HKi:=Lib.hid hkp
       by_cases hjt:j < L.length
       ·have hji:(j:Int) < (L.length:Int):=by omega
        have c0:=hnum.cell j hjt
        have hzg:=hnum.lt
        have hm:=HM.out wr (HK0.out.trans hkp)
        have hct:=hm.ct
        have hcf:=hm.cf
        have k0:=hm.bk.c0
        have hzt:=World.block_lt_of_cell? _ _ hct
        have hzf:=World.block_lt_of_cell? _ _ hcf
        have hzp:=World.block_lt_of_cell? _ _ k0
        simp only at hzt hzf hzp
        have HFi:=Lib.hid hm.fin
        obtain ⟨c,hc⟩:∃ c,c=gt L j:=⟨_,rfl⟩
        have hpt:=zgt (q:=zbq b (zf ps) a) (a:=a) hjt
        have hps:=zio (q:=zbq b (zf ps) a) (a:=a) hjt
        rw [← hc] at c0 hpt hps
        have HPT:=Lib.hid hpt
        have HPS:=Lib.hid hps
        clear hj hnum hkp hm hc hpt hps
        gi_wp2_with fail
        refine ⟨trivial,fun h=>(by simp [Fence.wide] at h),(callsIn_wide.2 (zqj b ps _ a c p wr k0 HFi.out hone)).mono ?_⟩
        rintro e W4 ⟨rfl,hE4⟩
        have HJ4:=Lib.hid ((HJ.out _).ext HJi.out hE4)
        have HN4:=Lib.hid (HNi.out.of_heap (hE4.block _ HNi.out.lt))
        have HK4:=Lib.hid (HKi.out.trans ((Kept.of_below hE4).mono (T:=R) fun k _ _=>trivial))
        clear hE4 c0 hct hcf k0 hzt hzf hzp hzg HFi
        cases hpr:zbq b (zf ps) a c
        ·have hpt:=HPT.out
         rw [if_neg (by rw [hpr];simp),List.append_nil] at hpt
         have HPT2:=Lib.hid hpt
         clear hpr hpt
         gi_wp2_with fail
         go_roundw
         case rel=>exact ⟨j+1,by omega,by go_num,by rw [HPT2.out];exact HJ4.out,HN4.out,HK4.out⟩
         case measure=>simp [intOf];omega
        ·have hpt:=HPT.out
         rw [if_pos hpr] at hpt
         have HPT2:=Lib.hid hpt
         have hnx:∃ rest,zbj b (zf ps)=((L.take k).flatMap (zaa b (zf ps) L) ++ (((L.take j).filter (zbq b (zf ps) a)).map fun c=>(a,c))) ++ (a,c) :: rest :=
          ⟨_,by rw [HWP.out,HSP.out,HWA.out,HPS.out hpr,List.append_assoc,List.append_assoc];rfl⟩
         obtain ⟨fn,tmps,assign,body,hy,hRr⟩:=HY.out (fun k=>k=g) _ (a,c) W4 HJ4.out hnx
         simp only [skey] at hy
         clear hpr hpt hnx
         gi_wp2_with fail
         refine ⟨fun h=>(by simp [Fence.wide] at h),hRr.mono ?_⟩
         clear hy hRr
         rintro e W5 (⟨rfl,hj5,hk5⟩ | ⟨rfl,hj5⟩)
         ·have HJ5:=Lib.hid hj5
          have HN5:=Lib.hid (HN4.out.of_heap (hk5.same _ HN4.out.lt (.inr rfl)))
          have HK5:=Lib.hid (HK4.out.trans (hk5.mono (T:=R) fun _ _ h=>.inl h))
          clear hj5 hk5
          gi_wp2_with fail
          go_roundw
          case rel=>exact ⟨j+1,by omega,by go_num,by rw [HPT2.out,← List.append_assoc];exact HJ5.out,HN5.out,HK5.out⟩
          case measure=>simp [intOf];omega
         ·have HJ5:=Lib.hid hj5
          clear hj5
          gi_wp2_with fail
          rw [Exit.noGoto_ret];refine bodyPost_ret (results_none rfl _ _ _) rfl ?_
          exact ⟨⟨_,rfl⟩,.inr ⟨_,_,trivial,HJ5.out⟩⟩
       ·have hji:¬ ((j:Int) < (L.length:Int)):=by omega
        have hje:j=L.length:=by omega
        rw [hje,List.take_length,← HWA.out,← HTK.out] at hj
        have HJe:=Lib.hid hj
        clear hje hj hnum hkp
        gi_wp2_with fail
        go_roundw
        case rel=>exact ⟨k+1,by omega,by go_num,HJe.out,HNi.out,HKi.out⟩
        case measure=>simp [intOf];omega
     ·have hwa:zaa b (zf ps) L a=[(a,-1)]:=by unfold zaa;rw [if_pos hsi]
      have HTK2:=Lib.hid (HTK.out.trans (by rw [hwa]):(L.take (k+1)).flatMap (zaa b (zf ps) L)=(L.take k).flatMap (zaa b (zf ps) L) ++ [(a,-1)])
      have hnx:∃ rest,zbj b (zf ps)=(L.take k).flatMap (zaa b (zf ps) L) ++ (a,-1) :: rest:=⟨_,by rw [HWP.out,HSP.out,hwa];rfl⟩
      obtain ⟨fn,tmps,assign,body,hy,hRr⟩:=HY.out (fun k=>k=g) _ (a,-1) W3 HJ3.out hnx
      simp only [skey] at hy
      clear hsi hwa hnx
      gi_wp2_with fail
      refine ⟨fun h=>(by simp [Fence.wide] at h),hRr.mono ?_⟩
      clear hy hRr
      rintro e W5 (⟨rfl,hj5,hk5⟩ | ⟨rfl,hj5⟩)
      ·have HJ5:=Lib.hid hj5
       have HN5:=Lib.hid (HN3.out.of_heap (hk5.same _ HN3.out.lt (.inr rfl)))
       have HK5:=Lib.hid (HK3.out.trans (hk5.mono (T:=R) fun _ _ h=>.inl h))
       clear hj5 hk5
       gi_wp2_with fail
       go_roundw
       case rel=>exact ⟨k+1,by omega,by go_num,by rw [HTK2.out];exact HJ5.out,HN5.out,HK5.out⟩
       case measure=>simp [intOf];omega
      ·have HJ5:=Lib.hid hj5
       clear hj5
       gi_wp2_with fail
       rw [Exit.noGoto_ret];refine bodyPost_ret (results_none rfl _ _ _) rfl ?_
       exact ⟨⟨_,rfl⟩,.inr ⟨_,_,trivial,HJ5.out⟩⟩
    ·have hki:¬ ((k:Int) < (L.length:Int)):=by omega
     have hke:k=L.length:=by omega
     rw [hke,List.take_length,← HWP.out] at hj
     have HJe:=Lib.hid hj
     clear hke hj hnum hkp
     gi_wp2_with fail
     go_end0
     exact ⟨⟨_,rfl⟩,.inl ⟨_,HJe.out⟩⟩
  ·have HGE:=Lib.hid (show G=1 by rw [HGL.out,if_neg (fun h=>hg1 h.2)])
   have e2:((gl:Int) == 1)=false:=by rw [beq_eq_false_iff_ne];omega
   have e3:¬ ((gl:Int)=1):=by omega
   clear hk
   gi_wp2_with fail
   refine ⟨trivial,fun h=>(by simp [Fence.wide] at h),(callsIn_wide.2 (zml ps _ fcap 1 W (HM.out W HK0.out).fin (by have:=HOK.out.two;rw [← HGG.out,HGE.out] at this;exact this) HOK.out.le HOK.out.ne (HOK.out.pos (by omega)))).mono ?_⟩
   rintro e W1 ⟨g,lc,rfl,hE1,hgB,hlc1,hlc2,hN⟩
   obtain ⟨L,hL⟩:∃ L,L=za6 (zf ps) 1:=⟨_,rfl⟩
   have HWP:Hid (zbj b (zf ps)=L.flatMap (zaa b (zf ps) L)):=Lib.hid (by unfold zbj;rw [← HGG.out,HGE.out,← hL])
   rw [← hL] at hlc1 hN ⊢
   have HN1:=Lib.hid hN
   have HK1:=Lib.hid ((Kept.of_below hE1).mono (T:=R) fun k _ _=>trivial:Kept R W W1)
   have HJ1:=Lib.hid (HJ.out [] (fun _=>False) (fun k=>k=g) W W1 HH0.out ((Kept.of_below hE1).mono fun k _ _=>trivial) (fun _ h=>h.elim) (fun k hk=>.inr ⟨by rw [hk];exact hgB,by rw [hk];exact hN.lt⟩))
   have hgw:w0.heap.size≤g:=by omega
   clear hE1 hN hL k0 hct hcf cg hzt hzf hzp hzg
   gi_wp2_with fail
   refine wpIn_label ?_
   gi_wp2_with fail
   gi_loopw [28] (fun iv wr=>∃ k:Nat,k≤L.length∧iv = .int .i64 k∧J (fun k=>k=g) ((L.take k).flatMap (zaa b (zf ps) L)) wr∧NumB wr g L.length (gt L)∧Kept R W wr) (fun iv _=>L.length - (intOf iv).toNat)
   case atStart=>exact ⟨0,by omega,rfl,by simpa using HJ1.out,HN1.out,HK1.out⟩
   case round =>
    obtain ⟨k,hk,rfl,hj,hnum,hkp⟩:=hrel
    have HJr:=Lib.hid hj
    have HNr:=Lib.hid hnum
    have HKr:=Lib.hid hkp
    by_cases hlt:k < L.length
    ·have hki:(k:Int) < (L.length:Int):=by omega
     have c0:=hnum.cell k hlt
     have hzg:=hnum.lt
     have hm:=HM.out wr (HK0.out.trans hkp)
     have hct:=hm.ct
     have hzt:=World.block_lt_of_cell? _ _ hct
     simp only at hzt
     have hbk:=hm.bk
     have k0:=(hbk).c0
     have k1:=(hbk).c1
     have k2:=(hbk).c2
     have k3:=(hbk).c3
     have k4:=(hbk).c4
     have k5:=(hbk).c5
     have k6:=(hbk).c6
     have k7:=(hbk).c7
     have hz:=(hbk).lt
     obtain ⟨a,ha⟩:∃ a,a=gt L k:=⟨_,rfl⟩
     rw [← ha] at c0
     have HA:=Lib.hid ha
     have hsp:=zgi (zaa b (zf ps) L) hlt
     have htk:=zfk (zaa b (zf ps) L) hlt
     rw [gt_get hlt,← ha] at hsp htk
     have HSP:=Lib.hid hsp
     have HTK:=Lib.hid htk
     have hcf:=hm.cf
     have hzf:=World.block_lt_of_cell? _ _ hcf
     simp only at hzf
     clear hj hnum hkp hbk ha hsp htk hm
     gi_wp2_with fail
     refine ⟨trivial,fun h=>(by simp [Fence.wide] at h),(callsIn_wide.2 (zeg b ba sa bcap scap _)).mono ?_⟩
     rintro e W3 ⟨rfl,hE3⟩
     have HJ3:=Lib.hid ((HJ.out _).ext HJr.out hE3)
     have HN3:=Lib.hid (HNr.out.of_heap (hE3.block _ HNr.out.lt))
     have HK3:=Lib.hid (HKr.out.trans ((Kept.of_below hE3).mono (T:=R) fun k _ _=>trivial))
     clear hE3 k0 k1 k2 k3 k4 k5 k6 k7 hz c0 hct hcf hzt hzf hzg
     cases hsi:single b
     ·have hwa:zaa b (zf ps) L a=(L.filter (zbq b (zf ps) a)).map fun c=>(a,c):=by unfold zaa;rw [if_neg (by rw [hsi];simp)]
      have HWA:=Lib.hid hwa
      clear hsi hwa
      gi_wp2_with fail
      gi_loopw [44] (fun iv wr=>∃ j:Nat,j≤L.length∧iv = .int .i64 j∧J (fun k=>k=g) ((L.take k).flatMap (zaa b (zf ps) L) ++ (((L.take j).filter (zbq b (zf ps) a)).map fun c=>(a,c))) wr∧NumB wr g L.length (gt L)∧Kept R W wr) (fun iv _=>L.length - (intOf iv).toNat)
      case atStart=>exact ⟨0,by omega,rfl,by simpa using HJ3.out,HN3.out,HK3.out⟩
      case round =>
       obtain ⟨j,hjl,rfl,hj,hnum,hkp⟩:=hrel
       have HJi:=Lib.hid hj
       have HNi:=Lib.hid hnum
       have HKi:=Lib.hid hkp
       by_cases hjt:j < L.length
       ·have hji:(j:Int) < (L.length:Int):=by omega
        have c0:=hnum.cell j hjt
        have hzg:=hnum.lt
        have hm:=HM.out wr (HK0.out.trans hkp)
        have hct:=hm.ct
        have hcf:=hm.cf
        have k0:=hm.bk.c0
        have hzt:=World.block_lt_of_cell? _ _ hct
        have hzf:=World.block_lt_of_cell? _ _ hcf
        have hzp:=World.block_lt_of_cell? _ _ k0
        simp only at hzt hzf hzp
        have HFi:=Lib.hid hm.fin
        obtain ⟨c,hc⟩:∃ c,c=gt L j:=⟨_,rfl⟩
        have hpt:=zgt (q:=zbq b (zf ps) a) (a:=a) hjt
        have hps:=zio (q:=zbq b (zf ps) a) (a:=a) hjt
        rw [← hc] at c0 hpt hps
        have HPT:=Lib.hid hpt
        have HPS:=Lib.hid hps
        clear hj hnum hkp hm hc hpt hps
        gi_wp2_with fail
        refine ⟨trivial,fun h=>(by simp [Fence.wide] at h),(callsIn_wide.2 (zqj b ps _ a c p wr k0 HFi.out hone)).mono ?_⟩
        rintro e W4 ⟨rfl,hE4⟩
        have HJ4:=Lib.hid ((HJ.out _).ext HJi.out hE4)
        have HN4:=Lib.hid (HNi.out.of_heap (hE4.block _ HNi.out.lt))
        have HK4:=Lib.hid (HKi.out.trans ((Kept.of_below hE4).mono (T:=R) fun k _ _=>trivial))
        clear hE4 c0 hct hcf k0 hzt hzf hzp hzg HFi
        cases hpr:zbq b (zf ps) a c
        ·have hpt:=HPT.out
         rw [if_neg (by rw [hpr];simp),List.append_nil] at hpt
         have HPT2:=Lib.hid hpt
         clear hpr hpt
         gi_wp2_with fail
         go_roundw
         case rel=>exact ⟨j+1,by omega,by go_num,by rw [HPT2.out];exact HJ4.out,HN4.out,HK4.out⟩
         case measure=>simp [intOf];omega
        ·have hpt:=HPT.out
         rw [if_pos hpr] at hpt
         have HPT2:=Lib.hid hpt
         have hnx:∃ rest,zbj b (zf ps)=((L.take k).flatMap (zaa b (zf ps) L) ++ (((L.take j).filter (zbq b (zf ps) a)).map fun c=>(a,c))) ++ (a,c) :: rest :=
          ⟨_,by rw [HWP.out,HSP.out,HWA.out,HPS.out hpr,List.append_assoc,List.append_assoc];rfl⟩
         obtain ⟨fn,tmps,assign,body,hy,hRr⟩:=HY.out (fun k=>k=g) _ (a,c) W4 HJ4.out hnx
         simp only [skey] at hy
         clear hpr hpt hnx
         gi_wp2_with fail
         refine ⟨fun h=>(by simp [Fence.wide] at h),hRr.mono ?_⟩
         clear hy hRr
         rintro e W5 (⟨rfl,hj5,hk5⟩ | ⟨rfl,hj5⟩)
         ·have HJ5:=Lib.hid hj5
          have HN5:=Lib.hid (HN4.out.of_heap (hk5.same _ HN4.out.lt (.inr rfl)))
          have HK5:=Lib.hid (HK4.out.trans (hk5.mono (T:=R) fun _ _ h=>.inl h))
          clear hj5 hk5
          gi_wp2_with fail
          go_roundw
          case rel=>exact ⟨j+1,by omega,by go_num,by rw [HPT2.out,← List.append_assoc];exact HJ5.out,HN5.out,HK5.out⟩
          case measure=>simp [intOf];omega
         ·have HJ5:=Lib.hid hj5
          clear hj5
          gi_wp2_with fail
          rw [Exit.noGoto_ret];refine bodyPost_ret (results_none rfl _ _ _) rfl ?_
          exact ⟨⟨_,rfl⟩,.inr ⟨_,_,trivial,HJ5.out⟩⟩
       ·have hji:¬ ((j:Int) < (L.length:Int)):=by omega
        have hje:j=L.length:=by omega
        rw [hje,List.take_length,← HWA.out,← HTK.out] at hj
        have HJe:=Lib.hid hj
        clear hje hj hnum hkp
        gi_wp2_with fail
        go_roundw
        case rel=>exact ⟨k+1,by omega,by go_num,HJe.out,HNi.out,HKi.out⟩
        case measure=>simp [intOf];omega
     ·have hwa:zaa b (zf ps) L a=[(a,-1)]:=by unfold zaa;rw [if_pos hsi]
      have HTK2:=Lib.hid (HTK.out.trans (by rw [hwa]):(L.take (k+1)).flatMap (zaa b (zf ps) L)=(L.take k).flatMap (zaa b (zf ps) L) ++ [(a,-1)])
      have hnx:∃ rest,zbj b (zf ps)=(L.take k).flatMap (zaa b (zf ps) L) ++ (a,-1) :: rest:=⟨_,by rw [HWP.out,HSP.out,hwa];rfl⟩
      obtain ⟨fn,tmps,assign,body,hy,hRr⟩:=HY.out (fun k=>k=g) _ (a,-1) W3 HJ3.out hnx
      simp only [skey] at hy
      clear hsi hwa hnx
      gi_wp2_with fail
      refine ⟨fun h=>(by simp [Fence.wide] at h),hRr.mono ?_⟩
      clear hy hRr
      rintro e W5 (⟨rfl,hj5,hk5⟩ | ⟨rfl,hj5⟩)
      ·have HJ5:=Lib.hid hj5
       have HN5:=Lib.hid (HN3.out.of_heap (hk5.same _ HN3.out.lt (.inr rfl)))
       have HK5:=Lib.hid (HK3.out.trans (hk5.mono (T:=R) fun _ _ h=>.inl h))
       clear hj5 hk5
       gi_wp2_with fail
       go_roundw
       case rel=>exact ⟨k+1,by omega,by go_num,by rw [HTK2.out];exact HJ5.out,HN5.out,HK5.out⟩
       case measure=>simp [intOf];omega
      ·have HJ5:=Lib.hid hj5
       clear hj5
       gi_wp2_with fail
       rw [Exit.noGoto_ret];refine bodyPost_ret (results_none rfl _ _ _) rfl ?_
       exact ⟨⟨_,rfl⟩,.inr ⟨_,_,trivial,HJ5.out⟩⟩
    ·have hki:¬ ((k:Int) < (L.length:Int)):=by omega
     have hke:k=L.length:=by omega
     rw [hke,List.take_length,← HWP.out] at hj
     have HJe:=Lib.hid hj
     clear hke hj hnum hkp
     gi_wp2_with fail
     go_end0
     exact ⟨⟨_,rfl⟩,.inl ⟨_,HJe.out⟩⟩
end Go.Proofs.YtkbaiobnibmmgaaGreat
namespace Go.Proofs.YtkbaiobnibmmgaaGreat
theorem zue:∀ {g left l:List Int},chkG left g=some l→left.Perm (g ++ l)
 | [],left,l,h=>by cases h;exact List.Perm.refl _
 | r :: g,left,l,h=>by
  unfold chkG at h
  split at h
  ·rename_i hr
   exact (List.perm_cons_erase hr).trans ((zue h).cons r)
  ·cases h
theorem zuf:∀ {fs:List (List Int)} {left l:List Int},chkF left fs=some l→left.Perm (fs.flatten ++ l)∧∀ g∈fs,g≠[]∧rising g=true
 | [],left,l,h=>by cases h;exact ⟨List.Perm.refl _,fun g hg=>by cases hg⟩
 | g :: fs,left,l,h=>by
  unfold chkF at h
  split at h
  ·cases h
  rename_i hn
  rw [not_or] at hn
  cases hg:chkG left g with
  | none=>rw [hg] at h;cases h
  | some m =>
   rw [hg] at h
   obtain ⟨h1,h2⟩:=zuf (fs:=fs) (left:=m) (l:=l) h
   refine ⟨?_,?_⟩
   ·rw [List.flatten_cons,List.append_assoc]
    exact (zue hg).trans (h1.append_left g)
   ·intro x hx
    rcases List.mem_cons.1 hx with rfl | hx
    ·exact ⟨hn.1,by simpa using hn.2⟩
    ·exact h2 x hx
structure FinV (b:Bk) (fs:List (List Int)):Prop where
 book:BVal b
 perm:(runL b).Perm fs.flatten
 ne:∀ g∈fs,g≠[]
 up:∀ g∈fs,rising g=true
theorem zzu {b:Bk} {fs:List (List Int)} (h:za2 b fs=0):FinV b fs:=by
 unfold za2 at h
 split at h
 ·rename_i hb;exact absurd h hb
 rename_i hb
 split at h
 ·rename_i hc
  obtain ⟨h1,h2⟩:=zuf hc
  rw [List.append_nil] at h1
  exact ⟨zo6 (by omega),h1,fun g hg=>(h2 g hg).1,fun g hg=>(h2 g hg).2⟩
 ·cases h
theorem FinV.len {b:Bk} {fs:List (List Int)} (h:FinV b fs):fs.flatten.length=(runL b).length:=h.perm.length_eq.symm
theorem FinV.pos {b:Bk} {fs:List (List Int)} (h:FinV b fs):0 < fs.length:=by
 have h1:=h.len
 have h2:=zf0 h.book
 match fs,h1 with
 | [],h1=>simp at h1;omega
 | g :: l,_=>simp
theorem FinV.two {b:Bk} {fs:List (List Int)} (h:FinV b fs):grp b fs≤fs.length:=by
 have h1:=h.len
 have h2:=zf0 h.book
 have h3:=h.pos
 unfold grp
 split
 ·rename_i hg
  match fs,h1,hg.2 with
  | [],h1,_=>simp at h1;omega
  | [g],h1,hg=>simp at h1 hg;omega
  | _ :: _ :: _,_,_=>simp
 ·omega
theorem FinV.ok {b:Bk} {ps:List (Value × List Int)} (h:FinV b (zf ps)):FinOk b ps:=by
 have h2:=zo7 h.book
 refine ⟨fun x hx=>h.ne x.2 (by unfold zf;exact List.mem_map_of_mem hx),by rw [h.len];omega,?_,?_⟩
 ·have:=h.pos;simpa [zf] using this
 ·have:=h.two;simpa [zf] using this
end Go.Proofs.YtkbaiobnibmmgaaGreat
namespace Go.Proofs.YtkbaiobnibmmgaaGreat
open Go.RowKit Go.Shelf
def zde (b:Bk) (pre:List Spt):Spt→Option Int:=fun s=>if s∈pre∧zz b s≠0 then some (zz b s) else none
def zca (b:Bk) (fs:List (List Int)):List Spt:=(zbj b fs).filter fun s=>decide (zz b s≠0)
def zfl (b:Bk) (fs:List (List Int)):Int:=netP b / ((zca b fs).length:Int)
abbrev Dvd:=Spt × Int
def zd3 (b:Bk) (fs:List (List Int)) (s:Spt):Int:=zfl b fs / (zz b s * b.step) * b.step
def divP (b:Bk) (fs:List (List Int)):List Dvd:=(zca b fs).map fun s=>(s,zd3 b fs s)
def zdi (d:Dvd):List Value:=[.int .i64 d.1.1,.int .i64 d.1.2,.int .i64 d.2]
def zo8 (b:Bk) (fs:List (List Int)):Int:=((divP b fs).map fun d=>d.2 * zz b d.1).sum
theorem zug {b:Bk} (v:BVal b) (s:Spt):0≤zz b s∧zz b s≤100000:=by
 have:=zmh v s b.bets.length
 rwa [List.take_length] at this
theorem z33 (b:Bk):zde b []=fun _=>none:=funext fun s=>by simp [zde]
theorem z6a {b:Bk} {pre:List Spt} {s:Spt} (h:zz b s≠0):(fun k=>if k=s then some (zz b s) else zde b pre k)=zde b (pre ++ [s]):=funext fun k=>by
 unfold zde
 by_cases e:k=s
 ·subst e;simp [h]
 ·simp [e]
theorem z34 {b:Bk} {pre:List Spt} {s:Spt} (h:zz b s=0):(fun k=>if k=s then none else if k=s then some (zz b s) else zde b pre k)=zde b (pre ++ [s]):=funext fun k=>by
 unfold zde
 by_cases e:k=s
 ·subst e;simp [h]
 ·simp [e]
theorem zxs {b:Bk} {fs:List (List Int)} (h:FinV b fs) (k:Nat):(za6 fs k).Nodup:=by
 have h1:fs.flatten.Nodup:=h.perm.nodup_iff.1 (zsa b)
 have h2:(fs.take k).flatten.Nodup:=by
  have e:fs.flatten=(fs.take k).flatten ++ (fs.drop k).flatten:=by rw [← List.flatten_append,List.take_append_drop]
  rw [e,List.nodup_append] at h1
  exact h1.1
 unfold za6
 exact (List.mergeSort_perm _ _).nodup_iff.2 h2
theorem zse {α β:Type} {f:α→List β}:∀ {l:List α},l.Nodup→(∀ x∈l,(f x).Nodup)→(∀ x∈l,∀ y∈l,∀ z,z∈f x→z∈f y→x=y)→(l.flatMap f).Nodup
 | [],_,_,_=>by simp
 | a :: l,h,h1,h2=>by
  rw [List.nodup_cons] at h
  rw [List.flatMap_cons,List.nodup_append]
  refine ⟨h1 a (by simp),zse h.2 (fun x hx=>h1 x (by simp [hx])) (fun x hx y hy=>h2 x (by simp [hx]) y (by simp [hy])),?_⟩
  intro z hz y hy e
  subst e
  obtain ⟨x,hx,hzx⟩:=List.mem_flatMap.1 hy
  have:=h2 a (by simp) x (by simp [hx]) z hz hzx
  subst this
  exact h.1 hx
theorem z1l {α β:Type} {f:α→β} {l:List α} (h:l.Nodup) (hf:∀ x y,f x=f y→x=y):(l.map f).Nodup:=by
 unfold List.Nodup at h ⊢
 rw [List.pairwise_map]
 exact h.imp fun hne e=>hne (hf _ _ e)
theorem z1m {b:Bk} {fs:List (List Int)} (h:FinV b fs):(zbj b fs).Nodup:=by
 have hn:=zxs h (grp b fs)
 unfold zbj
 generalize za6 fs (grp b fs)=L at hn ⊢
 refine zse hn (fun a _=>?_) (fun x _ y _ z hz hy=>?_)
 ·unfold zaa
  split
  ·simp
  ·exact z1l (hn.filter _) fun x y e=>(Prod.mk.inj e).2
 ·have hf:∀ a z,z∈zaa b fs L a→z.1=a:=fun a z hz=>by
   unfold zaa at hz
   split at hz
   ·simp at hz;rw [hz]
   ·obtain ⟨c,_,rfl⟩:=List.mem_map.1 hz;rfl
  rw [← hf x z hz,← hf y z hy]
theorem z6b {es:Ents Spt Int} (h:Once es) {l:List Spt} (hl:l.Nodup) (hm:∀ k,getE es k≠none↔k∈l):es.length=l.length:=by
 have hk:∀ k,k∈es.map (·.1)↔k∈l:=fun k=>by
  rw [← hm k]
  unfold getE
  constructor
  ·intro h
   obtain ⟨e,he,rfl⟩:=List.mem_map.1 h
   intro hn
   rw [Option.map_eq_none_iff,List.find?_eq_none] at hn
   have:=hn e he
   simp at this
  ·intro h
   cases hf:es.find? fun e=>decide (e.1=k) with
   | none=>rw [hf] at h;exact absurd rfl h
   | some e =>
    have h1:=List.mem_of_find?_eq_some hf
    have h2:=List.find?_some hf
    simp at h2
    exact List.mem_map.2 ⟨e,h1,h2⟩
 have hp:(es.map (·.1)).Perm l:=(List.perm_ext_iff_of_nodup h hl).2 hk
 have:=hp.length_eq
 simpa using this
end Go.Proofs.YtkbaiobnibmmgaaGreat
namespace Go.Proofs.YtkbaiobnibmmgaaGreat
open Go.RowKit Go.Shelf
attribute [local go_sem] Oper.semAt_some
theorem zpv {α β:Type} {f:α→List β} {c:Nat}:∀ {l:List α},(∀ x∈l,(f x).length≤c)→(l.flatMap f).length≤l.length * c
 | [],_=>by simp
 | a :: l,h=>by
  have h1:=h a (by simp)
  have h2:=zpv (l:=l) fun x hx=>h x (by simp [hx])
  rw [List.flatMap_cons,List.length_append,List.length_cons,Nat.add_mul];omega
theorem z1n {b:Bk} {fs:List (List Int)} (h:FinV b fs) (k:Nat):(za6 fs k).length≤8:=by
 have h1:=zo7 h.book
 have h2:=zld fs k
 unfold za6
 rw [zif]
 have:=h.len
 omega
theorem zxt {b:Bk} {fs:List (List Int)} (h:FinV b fs):(zbj b fs).length≤64:=by
 obtain ⟨L,hL⟩:∃ L,L=za6 fs (grp b fs):=⟨_,rfl⟩
 have h8:L.length≤8:=by rw [hL];exact z1n h _
 unfold zbj
 rw [← hL]
 have h1:=zpv (f:=zaa b fs L) (c:=8) (l:=L) fun x hx=>by
  unfold zaa
  split
  ·simp
  ·rw [List.length_map];exact Nat.le_trans (List.length_filter_le _ _) h8
 have:=Nat.mul_le_mul_right 8 h8
 omega
theorem zzv {W0 W1 W:World} {p m:Nat} {b:Bk} {ba sa fa:Option Addr} {bcap scap fcap bt bf:Nat} {ps:List (Value × List Int)} (ht:IsTill W0 p m b ba bcap sa scap) (hf:IsFin W0 (.slice fa ps.length fcap) ps) (e:Ext W0 W)
  (c1:W1.cell? ⟨bt,0,none⟩=some (.pointer (some ⟨p,0,none⟩))) (c2:W1.cell? ⟨bf,0,none⟩=some (.slice fa ps.length fcap)) {R:Nat→Prop} (k:Kept R W1 W) (h1:R bt) (h2:R bf):WinM W bt bf p b ba bcap sa scap fa fcap ps :=
 ⟨k.cell c1 h1,k.cell c2 h2,(ht.ext e).till.book,hf.ext e⟩
end Go.Proofs.YtkbaiobnibmmgaaGreat
