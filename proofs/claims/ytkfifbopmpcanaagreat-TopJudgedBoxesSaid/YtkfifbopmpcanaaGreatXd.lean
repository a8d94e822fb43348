/-
  The walks of parts and of its iterator: it yields the boxes of the cut.
-/
import Derived.Test.YtkfifbopmpcanaaGreatXc
import Derived.Test.YtkfifbopmpcanaaGreatBc
import Derived.Test.YtkfifbopmpcanaaGreatXa
import Derived.Test.YtkfifbopmpcanaaGreatBb
import Derived.Test.YtkfifbopmpcanaaGreatXb
import Derived.Test.YtkfifbopmpcanaaGreatHd
import Derived.Test.YtkfifbopmpcanaaGreatHa
import Derived.Deep.Strs
namespace Go.Proofs.YtkfifbopmpcanaaGreat
open Go.RowKit Go.Shelf
attribute [local go_sem] Oper.semAt_some
set_option maxRecDepth 100000 in
set_option maxHeartbeats 1000000 in
theorem z02 (p:Nat) (w:World) :
  Calls Tryz.prog 59 #[.pointer (some ⟨p,0,none⟩)] w fun e w'=>e = .returned (.func (.func 116) #[] #[.pointer (some ⟨w.heap.size,0,none⟩)]) ∧
   Ext w w'∧w'.cell? ⟨w.heap.size,0,none⟩=some (.pointer (some ⟨p,0,none⟩))∧w'.heap.size=w.heap.size+1:=by
 go_enter Tryz.func59,Tryz.ntmps59
 go_wp2
 go_ret
 exact ⟨rfl,by exact xx,by simp [go_sem],by simp⟩
theorem z7n {rs:List Nat} (V:CardV rs):∀ r,r < rs.length→(allB rs).getD r 0 < 64:=fun r hr=>by
 have h1:=zw8 (V.each r hr).2
 have h2:(allB rs).getD r 0=2 ^ rs.getD r 0 - 1:=by
  unfold allB
  rw [List.getD_eq_getElem?_getD,List.getElem?_map,List.getD_eq_getElem?_getD,List.getElem?_eq_getElem hr]
  rfl
 have h3:0 < 2 ^ rs.getD r 0:=Nat.pow_pos (by omega)
 omega
theorem zxd (rs:List Nat):(allB rs).length=rs.length:=by simp [allB]
theorem z8o (l:List Nat) (r:Nat):gt (natL l) r=(l.getD r 0:Int):=by
 unfold gt natL
 rw [List.getD_eq_getElem?_getD,List.getD_eq_getElem?_getD,List.getElem?_map]
 cases l[r]?<;>rfl
set_option maxRecDepth 100000 in
set_option maxHeartbeats 8000000 in
theorem z03 {R:Nat→Prop} {w0:World} {p:Nat} {rs:List Nat} {ps:List (Value × Tk)} {rb ro rcap:Nat} {ta:Option Addr} {tc:Nat} (E:CutE R w0 p rs ps rb ro rcap ta tc) (bt:Nat) (hM:∀ W,Kept R w0 W→W.cell? ⟨bt,0,none⟩=some (.pointer (some ⟨p,0,none⟩))) :
  IterW Tryz.prog 116 #[.pointer (some ⟨bt,0,none⟩)] (encB ps) R (fun xs=>xs.map (·.2)=zbd rs (zal (zj ps))) (fun _=>True) (fun _ O _ x W=>NxB (fun y=>y∈zbd rs (zal (zj ps))) rs.length O W x) w0:=by
 intro n l J Jx W hW hJ hJx hY h0
 have hk0:Kept R w0 W:=(Kept.of_below hW).mono fun k hk _=>trivial
 have HK0:=Lib.hid hk0
 have ct:=hM W hk0
 have hzt:=World.block_lt_of_cell? _ _ ct
 simp only at hzt
 have HY:=Lib.hid hY
 have HH0:=Lib.hid h0
 have hr1:=E.V.lo
 have hl10:=E.len
 clear hJx hY h0 hM
 refine callsIn_of_wp Tryz.func116 rfl trivial ?_ rfl
 simp only [Tryz.ntmps116,List.size_toArray,List.length_cons,List.length_nil,Nat.reduceAdd,Nat.reduceSub,Array.replicate_succ,Array.replicate_zero,List.push_toArray,List.append_toArray,List.nil_append,List.cons_append]
 obtain ⟨M,hM⟩:∃ M,M=mkI (List.replicate ps.length true):=⟨_,rfl⟩
 have hst:∀ W',Ext W W'→Calls Tryz.prog 99 #[.pointer (some ⟨p,0,none⟩)] W' fun e w'=>e = .returned (.agg #[.int .i64 0,.int .i64 (M 0),.int .i64 (M 1),.int .i64 (M 2),.int .i64 (M 3),.int .i64 (M 4),.int .i64 (M 5),.int .i64 (M 6),.int .i64 (M 7),.int .i64 (M 8),.int .i64 (M 9)])∧Ext W' w':=fun W' hW'=>by
  have h:=z3f ps.length p _ ta tc W' ((E.sheet W hk0).ext hW') hl10
  rw [← hM] at h
  exact h
 obtain ⟨w5,hw5⟩:∃ w5,w5=W.heap.size:=⟨_,rfl⟩
 have hal:∀ W',Ext W W'→Calls Tryz.prog 118 #[.pointer (some ⟨p,0,none⟩)] W' fun e w'=>∃ v,e = .returned v∧Ext W' w'∧∃ sb sc,v = .slice (some ⟨sb,0,none⟩) rs.length sc∧SetsAt w' (fun k=>w5≤k) sb 0 sc (allB rs) rs.length:=fun W' hW'=>by
  refine (z5b rs (some ⟨rb,ro,none⟩) rcap p _ W' ((E.sheet W hk0).ext hW') ((E.ints hk0).ext hW') E.V).mono ?_
  rintro e w' ⟨v,rfl,hE,hown⟩
  refine ⟨v,rfl,hE,?_⟩
  have hlen:(natL (allB rs)).length=rs.length:=by rw [zaq,zxd]
  obtain ⟨g,cap,rfl,hc1,hc2,hg,hN⟩:=hown.cellsN (by rw [hlen];omega)
  rw [hlen] at hc1 hN ⊢
  refine ⟨g,cap,rfl,hc1,hc2,by have:=hW'.size;omega,fun r hr=>?_⟩
  have h:=hN.cell r hr
  rw [z8o] at h
  rw [Nat.zero_add]
  exact h
 have HW5:=Lib.hid hw5
 clear hw5
 have HST:=Lib.hid hst
 have HALL:=Lib.hid hal
 have HMM:=Lib.hid hM
 clear hst hal hM
 gi_wp2_with fail
 refine zb3 6 rfl (by kernel_rfl) (W.heap.size) (Nat.le_refl _)
  [sqV (.pointer (some ⟨p,0,none⟩)),sqV (.pointer (some ⟨p,0,none⟩)),sqW (fun v W=>∃ sb sc,v = .slice (some ⟨sb,0,none⟩) rs.length sc∧SetsAt W (fun k=>w5≤k) sb 0 sc (allB rs) rs.length) (fun _ _ _ ⟨sb,sc,h1,h2⟩ e=>⟨sb,sc,h1,h2.ext e⟩),sqV (.pointer (some ⟨p,0,none⟩)),sqV (.agg #[.int .i64 0,.int .i64 (M 0),.int .i64 (M 1),.int .i64 (M 2),.int .i64 (M 3),.int .i64 (M 4),.int .i64 (M 5),.int .i64 (M 6),.int .i64 (M 7),.int .i64 (M 8),.int .i64 (M 9)]),sqV (.func (.yield l) #[] #[])]
  [true,true,false,true,true,true] [false,false,false,false,false,false] [true,true,true,true,true,true] [true,true,true,true,true,true] [true,true,true,true,true,true] []
  (by kernel_rfl) (by kernel_rfl) (by decide +kernel) trivial (by decide +kernel) (by decide +kernel) (by decide +kernel) rfl ⟨rfl,rfl,rfl⟩ ⟨?s0,?s1,?s2,?s3,?s4,?s5,trivial⟩ [some 3,some 4,some 5,some 6,some 7,some 8] rfl rfl ?send
 case s0 =>
  intro val ρ W hE hz hd hu hA hx
  have o0:ρ (.tmp 1) = .pointer (some ⟨bt,0,none⟩):=hA.old 1 (by decide)
  have f_ct:=cell_below hE (by simp only;omega) ct
  clear hd hu
  exact ze (W':=W) (by simp [execOp,o0,f_ct,go_sem]) (Below.refl _ _) rfl
 case s1 =>
  intro val ρ W hE hz hd hu hA hx
  have o0:ρ (.tmp 1) = .pointer (some ⟨bt,0,none⟩):=hA.old 1 (by decide)
  have f_ct:=cell_below hE (by simp only;omega) ct
  clear hd hu
  exact ze (W':=W) (by simp [execOp,o0,f_ct,go_sem]) (Below.refl _ _) rfl
 case s3 =>
  intro val ρ W hE hz hd hu hA hx
  have o0:ρ (.tmp 1) = .pointer (some ⟨bt,0,none⟩):=hA.old 1 (by decide)
  have f_ct:=cell_below hE (by simp only;omega) ct
  clear hd hu
  exact ze (W':=W) (by simp [execOp,o0,f_ct,go_sem]) (Below.refl _ _) rfl
 case s4 =>
  intro val ρ W hE hz hd hu hA hx
  have d3:ρ (.tmp 6) = .pointer (some ⟨p,0,none⟩):=(hA.dep 3 (by decide) 6 rfl).trans (hd 3 (by decide))
  clear hd hu
  refine zbo 99 _ _ rfl #[.pointer (some ⟨p,0,none⟩)] (hA.func _) (by simp [d3]) (fun args W=>Tryz.call99 args W) ((HST.out W hE).mono ?_)
  rintro e w' ⟨rfl,hb⟩
  exact ⟨_,rfl,hb,rfl⟩
 case s5 =>
  intro val ρ W hE hz hd hu hA hx
  have o0:ρ (.tmp 0) = .func (.yield l) #[] #[]:=hA.old 0 (by decide)
  clear hd hu
  exact ze (W':=W) (by simp [execOp,o0,go_sem]) (Below.refl _ _) rfl
 case s2 =>
  intro val ρ W2 hE hz hd hu hA hx
  have d1:ρ (.tmp 4) = .pointer (some ⟨p,0,none⟩):=(hA.dep 1 (by decide) 4 rfl).trans (hd 1 (by decide))
  refine zbo 118 _ _ rfl #[.pointer (some ⟨p,0,none⟩)] (hA.func _) (by simp [d1]) (fun args W=>Tryz.call118 args W) ((HALL.out W2 hE).mono ?_)
  rintro e w' ⟨v,rfl,hb,hv⟩
  exact ⟨_,rfl,hb,hv⟩
 case send =>
  intro val WW hE hzz
  generalize hG:wpListIn _ _ _ _ _ _ _ _=G
  intro hv
  obtain ⟨r0,-,⟨sb,sc,e2,hS⟩,-,r4,r5,-⟩:=hv
  have r0':val 0 = .pointer (some ⟨p,0,none⟩):=r0
  have r4':val 4 = .agg #[.int .i64 0,.int .i64 (M 0),.int .i64 (M 1),.int .i64 (M 2),.int .i64 (M 3),.int .i64 (M 4),.int .i64 (M 5),.int .i64 (M 6),.int .i64 (M 7),.int .i64 (M 8),.int .i64 (M 9)]:=r4
  have r5':val 5 = .func (.yield l) #[] #[]:=r5
  subst hG
  simp only [putD,r0',e2,r4',r5']
  go_frame
  obtain ⟨O,hO⟩:∃ O:Nat→Prop,O=fun k=>W.heap.size≤k∧k < WW.heap.size:=⟨_,rfl⟩
  have hsb:sb < WW.heap.size:=by
   have:=World.block_lt_of_cell? _ _ (hS.2.2.2 0 (by omega))
   simpa using this
  have hSO:SetsAt WW O sb 0 sc (allB rs) rs.length:=⟨hS.1,hS.2.1,by rw [hO];exact ⟨by have:=hS.2.2.1;rw [← HW5.out];exact this,hsb⟩,hS.2.2.2⟩
  have hjO:J O [] WW:=hJ [] _ O W WW HH0.out (Kept.of_below hE) (fun _ h=>h.elim) (fun k hk=>.inr (by rw [hO] at hk;exact hk))
  have hcut:=z8n E l J Jx (fun y=>y∈zbd rs (zal (zj ps))) hJ (fun O pre x W1 h1 h2=>zly (F:=Fence.wide) rfl _ (HY.out O pre x W1 h1 h2)) rs.length 0 (by omega) (n - 1) (allB rs) (List.replicate ps.length true) O [] sb 0 sc WW (zxd rs) (by simp) (z7n E.V)
   (fun y hy=>by unfold zbd;rw [zdy];exact hy) (HK0.out.trans (Kept.of_below hE)) hjO hSO
  have hcut2:CallsIn Fence.wide (n - 1) Tryz.prog 117 #[.pointer (some ⟨p,0,none⟩),.slice (some ⟨sb,0,none⟩) rs.length sc,.agg #[.int .i64 0,.int .i64 (M 0),.int .i64 (M 1),.int .i64 (M 2),.int .i64 (M 3),.int .i64 (M 4),.int .i64 (M 5),.int .i64 (M 6),.int .i64 (M 7),.int .i64 (M 8),.int .i64 (M 9)],.func (.yield l) #[] #[]] WW (CutQ R O J Jx [] (cutB rs (zal (zj ps)) rs.length (allB rs) (List.replicate ps.length true)) WW):=by
   have e0:((0:Nat):Int)=0:=rfl
   rw [e0,← HMM.out] at hcut
   unfold zbp at hcut
   exact hcut
  clear r0 r0' r4 r5 r4' r5' hzz hS hSO hjO hcut hsb hO e2
  have HC:=Lib.hid hcut2
  clear hcut2 hE
  simp only [List.drop]
  gi_wp2_with fail
  refine ⟨trivial,fun h=>(by simp [Fence.wide] at h),HC.out.mono ?_⟩
  rintro e W5 (⟨rfl,O',xs,hOO,hxs,hj,hk⟩ | ⟨rfl,O',pre,hx⟩)
  ·have HX:Hid (xs.map (·.2)=zbd rs (zal (zj ps))):=Lib.hid (by rw [hxs];unfold zbd;rw [zdy])
   have HJ5:Hid (J O' xs W5):=Lib.hid (by simpa using hj)
   clear hxs hj hk hOO
   gi_wp2_with fail
   go_end0
   exact ⟨⟨_,rfl⟩,.inl ⟨_,_,HX.out,HJ5.out⟩⟩
  ·have HJ5:=Lib.hid hx
   clear hx
   gi_wp2_with fail
   go_end0
   exact ⟨⟨_,rfl⟩,.inr ⟨_,_,trivial,HJ5.out⟩⟩
end Go.Proofs.YtkfifbopmpcanaaGreat
namespace Go.Proofs.YtkfifbopmpcanaaGreat
open Go.RowKit Go.Shelf
attribute [local go_sem] Oper.semAt_some
theorem znm {α:Type} (l:List α):l.any (fun _=>false)=false:=by
 induction l with
 | nil=>rfl
 | cons a l ih=>simp
set_option maxRecDepth 100000 in
set_option maxHeartbeats 1000000 in
theorem z04 (t:Tk) (x:Value) (rs:List Nat) (ra:Option Addr) (rcap p:Nat) (w:World) (hx:IsInts w .i64 x (natL t.s)) (hc:w.cell? ⟨p,0,none⟩=some (.slice ra rs.length rcap)) (hl:t.s.length=rs.length) :
  Calls Tryz.prog 207 #[.agg #[x,.int .i64 t.u],.pointer (some ⟨p,0,none⟩)] w fun e w'=>e = .returned (.bool false)∧Ext w w':=by
 obtain ⟨sa,cap,rfl,-,-,-⟩:=hx.spec
 rw [zaq,hl]
 have hz:=World.block_lt_of_cell? _ _ hc
 simp only at hz
 clear hx hl
 go_enter Tryz.func207,Tryz.ntmps207
 go_wp2_with fail
 go_ret
 exact ⟨zan (by simp),by exact xx⟩
set_option maxRecDepth 100000 in
set_option maxHeartbeats 4000000 in
theorem z5g (t:Tk) (x:Value) (rs:List Nat) (ra:Option Addr) (rcap p:Nat) (w:World) (hx:IsInts w .i64 x (natL t.s)) (hc:w.cell? ⟨p,0,none⟩=some (.slice ra rs.length rcap)) (hr:IsInts w .i64 (.slice ra rs.length rcap) (natL rs)) (V:CardV rs) (hl:t.s.length=rs.length)
  (hs:∀ r,r < rs.length→1≤t.s.getD r 0∧t.s.getD r 0≤2 ^ rs.getD r 0 - 1) :
  Calls Tryz.prog 208 #[.agg #[x,.int .i64 t.u],.pointer (some ⟨p,0,none⟩)] w fun e w'=>e = .returned (.bool false)∧Ext w w':=by
 have HX0:=Lib.hid hx
 obtain ⟨sa,sc,rfl,-,-,-⟩:=hx.spec
 have hl2:=hl
 rw [zaq,hl]
 have HX:Hid (IsInts w .i64 (.slice sa rs.length sc) (natL t.s)):=Lib.hid (by have:=HX0.out;rw [zaq,hl] at this;exact this)
 have HL:=Lib.hid hl
 have HS:=Lib.hid hs
 have HR:=Lib.hid hr
 have HV:=Lib.hid V
 have hn5:=V.hi
 have hz:=World.block_lt_of_cell? _ _ hc
 simp only at hz
 clear hx hl hl2 HX0 hs hr V
 go_enter Tryz.func208,Tryz.ntmps208
 go_upto_region 1 with (fail)
 obtain ⟨W0,hW0⟩:∃ W0,W0=w.alloc (.cells #[.slice sa rs.length sc,.int .i64 t.u] 33):=⟨_,rfl⟩
 have hE:Ext w W0:=by rw [hW0];exact xx
 have k0:W0.cell? ⟨w.heap.size,0,none⟩=some (.slice sa rs.length sc):=by rw [hW0];simp [go_sem]
 have hz0:w.heap.size < W0.heap.size:=World.block_lt_of_cell? _ _ k0
 have kc:=zh hE hc
 have hzc:p < W0.heap.size:=by omega
 have HE:=Lib.hid hE
 rw [← hW0]
 clear hW0 hE hc hz
 go_wp2_with fail
 go_loopw [9] (fun iv W=>∃ i:Nat,i≤rs.length∧iv = .int .i64 i∧Ext W0 W) (fun iv _=>rs.length - (intOf iv).toNat)
 case atStart=>exact ⟨0,by omega,rfl,Below.refl _ _⟩
 case round =>
  obtain ⟨i,hi,rfl,hEX⟩:=hrel
  obtain ⟨X,rfl⟩:∃ X,X=wr:=⟨_,rfl⟩
  have HEX:=Lib.hid hEX
  by_cases hlt:i < rs.length
  ·have hii:(i:Int) < (rs.length:Int):=by omega
   obtain ⟨rb,ro,rfl,hcr⟩:=zcn HR.out hlt
   obtain ⟨sb,so,rfl,hcs⟩:=zcn HX.out (show i < t.s.length by rw [HL.out];exact hlt)
   have cr:=hcr i hlt X (HE.out.trans' hEX)
   have cs:=hcs i (by rw [HL.out];exact hlt) X (HE.out.trans' hEX)
   have ck:=zh hEX k0
   have zr:=World.block_lt_of_cell? _ _ cr
   have zs:=World.block_lt_of_cell? _ _ cs
   have zk:=World.block_lt_of_cell? _ _ ck
   simp only at zr zs zk
   have hb:=HV.out.each i hlt
   have hsi:=HS.out i hlt
   obtain ⟨n,hn⟩:∃ n:Nat,n=rs.getD i 0:=⟨_,rfl⟩
   obtain ⟨s,hs⟩:∃ s:Nat,s=t.s.getD i 0:=⟨_,rfl⟩
   rw [← hn] at cr hb hsi
   rw [← hs] at cs hsi
   obtain ⟨h1,h2,h3⟩:=bshl hb.2
   obtain ⟨N,hN⟩:∃ N:Nat,N=2 ^ n:=⟨_,rfl⟩
   rw [← hN] at h1 h2 h3 hsi
   obtain ⟨M,hM⟩:∃ M:Nat,N=M+1:=⟨N - 1,by omega⟩
   have hsub:IntKind.i64.wrap ((N:Int) - 1)=(M:Int):=by rw [show (N:Int) - 1=(M:Int) by omega];exact IntWalk.i64_in _ (by omega)
   have HIN:Hid (inR 1 (M:Int) (s:Int)=true):=Lib.hid (zrn (by omega))
   have hnn:decide ((n:Int) < 0)=false:=by rw [decide_eq_false_iff_not];omega
   have hmin:min n 64=n:=by omega
   clear hcr hcs hEX hn hs hN hM hsi hb
   go_upto_region 4 with (fail)
   refine zbb (X.heap.size) (Nat.le_refl _)
    [sqV (.int .i64 n),sqV (.int .i64 N),sqV (.int .i64 M),sqV (.pointer (some ⟨w.heap.size,0,none⟩)),sqV (.slice (some ⟨sb,so,none⟩) rs.length sc),sqV (.int .i64 i),sqV (.pointer (some ⟨sb,so+i,none⟩)),sqV (.int .i64 s),sqW (fun v W=>∃ b,v = .slice (some ⟨b,0,none⟩) 1 1∧RowsAt W 1 b 0 ([[Value.int .i64 s]])) (fun _ _ _ ⟨b,h1,h2⟩ e=>⟨b,h1,h2.ext e⟩),sqV (.bool true),sqV (.bool false)]
    [true,true,true,true,true,true,true,true,false,true,true] [false,false,false,false,false,false,false,false,false,false,false] [true,true,true,true,true,true,true,true,true,true,true] [true,true,true,true,true,true,true,true,true,true,true]
    (by kernel_rfl) (by kernel_rfl) (by decide +kernel) (by decide +kernel) (by decide +kernel) rfl ⟨rfl,rfl⟩ ⟨?s0,?s1,?s2,?s3,?s4,?s5,?s6,?s7,?s8,?s9,?s10,trivial⟩ [some 14,some 15,some 16,some 17,some 18,some 19,some 20,some 21,some 22,some 23,some 24] rfl rfl ?send
   case s0 =>
    intro val ρ W hE hz hd hA hx
    have o0:ρ (.tmp 5) = .int .i64 n:=hA.old 5 (by decide)
    clear hd
    exact ze (W':=W) (by simp [execOp,o0,go_sem]) (Below.refl _ _) rfl
   case s1 =>
    intro val ρ W hE hz hd hA hx
    have d0:ρ (.tmp 14) = .int .i64 n:=(hA.dep 0 (by decide) 14 rfl).trans (hd 0 (by decide))
    clear hd
    exact ze (W':=W) (by simp [execOp,hA.const,d0,h1,go_sem]) (Below.refl _ _) rfl
   case s2 =>
    intro val ρ W hE hz hd hA hx
    have d1:ρ (.tmp 15) = .int .i64 N:=(hA.dep 1 (by decide) 15 rfl).trans (hd 1 (by decide))
    clear hd
    exact ze (W':=W) (by simp [execOp,hA.const,d1,hsub,go_sem]) (Below.refl _ _) rfl
   case s3 =>
    intro val ρ W hE hz hd hA hx
    have o0:ρ (.tmp 2) = .pointer (some ⟨w.heap.size,0,none⟩):=hA.old 2 (by decide)
    clear hd
    exact ze (W':=W) (by simp [execOp,o0,go_sem]) (Below.refl _ _) rfl
   case s4 =>
    intro val ρ W hE hz hd hA hx
    have d3:ρ (.tmp 17) = .pointer (some ⟨w.heap.size,0,none⟩):=(hA.dep 3 (by decide) 17 rfl).trans (hd 3 (by decide))
    have f_ck:=cell_below hE (by simp only;omega) ck
    clear hd
    exact ze (W':=W) (by simp [execOp,d3,f_ck,go_sem]) (Below.refl _ _) rfl
   case s5 =>
    intro val ρ W hE hz hd hA hx
    have o0:ρ (.tmp 4) = .int .i64 i:=hA.old 4 (by decide)
    clear hd
    exact ze (W':=W) (by simp [execOp,o0,go_sem]) (Below.refl _ _) rfl
   case s6 =>
    intro val ρ W hE hz hd hA hx
    have d4:ρ (.tmp 18) = .slice (some ⟨sb,so,none⟩) rs.length sc:=(hA.dep 4 (by decide) 18 rfl).trans (hd 4 (by decide))
    have d5:ρ (.tmp 19) = .int .i64 i:=(hA.dep 5 (by decide) 19 rfl).trans (hd 5 (by decide))
    clear hd
    exact ze (W':=W) (by simp [execOp,d4,d5,hii,go_sem]) (Below.refl _ _) rfl
   case s7 =>
    intro val ρ W hE hz hd hA hx
    have d6:ρ (.tmp 20) = .pointer (some ⟨sb,so+i,none⟩):=(hA.dep 6 (by decide) 20 rfl).trans (hd 6 (by decide))
    have f_cs:=cell_below hE (by simp only;omega) cs
    clear hd
    exact ze (W':=W) (by simp [execOp,d6,f_cs,go_sem]) (Below.refl _ _) rfl
   case s8 =>
    intro val ρ W hE hz hd hA hx
    have d7:ρ (.tmp 21) = .int .i64 s:=(hA.dep 7 (by decide) 21 rfl).trans (hd 7 (by decide))
    clear hd hA
    refine ze (by simp [execOp,d7,go_sem];exact ⟨rfl,rfl⟩) (by exact xx) ⟨_,rfl,z60 _ ([[Value.int .i64 s]]) _ _ _ 1 rfl (by simp) (by simp)⟩
   case s10 =>
    intro val ρ W hE hz hd hA hx
    have d9:ρ (.tmp 23) = .bool true:=(hA.dep 9 (by decide) 23 rfl).trans (hd 9 (by decide))
    have d9:ρ (.tmp 23) = .bool true:=(hA.dep 9 (by decide) 23 rfl).trans (hd 9 (by decide))
    clear hd
    exact ze (W':=W) (by simp [execOp,d9,go_sem]) (Below.refl _ _) rfl
   case s9 =>
    intro val ρ W hE hz hd hA hx
    have d2:ρ (.tmp 16) = .int .i64 M:=(hA.dep 2 (by decide) 16 rfl).trans (hd 2 (by decide))
    obtain ⟨b',e8,h8⟩:∃ b',val 8 = .slice (some ⟨b',0,none⟩) 1 1∧RowsAt W 1 b' 0 [[Value.int .i64 s]]:=hd 8 (by decide)
    have d8:ρ (.tmp 22) = .slice (some ⟨b',0,none⟩) 1 1:=(hA.dep 8 (by decide) 22 rfl).trans e8
    have hone:IsInts W .i64 (.slice (some ⟨b',0,none⟩) 1 1) [(s:Int)]:=zcf (by omega) (by omega) (by have:=h8 0 (by simp) 0 (by simp);simpa using this)
    refine zbo 46 _ _ rfl #[.int .i64 1,.int .i64 M,.slice (some ⟨b',0,none⟩) 1 1] (hA.func _) (by simp [d2,d8,hA.const]) (fun args W=>Tryz.call46 args W) ((zf1 1 M _ [(s:Int)] W hone).mono ?_)
    rintro e w' ⟨rfl,hb⟩
    refine ⟨_,rfl,hb,?_⟩
    show Value.bool _=Value.bool true
    rw [zol,HIN.out]
   case send =>
    intro val WW hE hzz hv
    obtain ⟨-,-,-,-,-,-,-,-,-,-,r10,-⟩:=hv
    have q10:val 10 = .bool false:=r10
    simp only [putD,q10]
    go_frame
    have HE2:=Lib.hid (HEX.out.trans' hE)
    clear hE hzz q10 r10 cr cs ck zr zs zk h1 hsub
    go_wp2_with fail
    go_roundw
    case rel=>exact ⟨i+1,by omega,by go_num,HE2.out⟩
    case measure=>simp [intOf];omega
  ·have hii:¬ ((i:Int) < (rs.length:Int)):=by omega
   clear hEX
   go_wp2_with fail
   go_ret
   exact ⟨zan rfl,HE.out.trans' HEX.out⟩
set_option maxRecDepth 100000 in
set_option maxHeartbeats 2000000 in
theorem z5h (rs:List Nat) (ps:List (Value × Tk)) (ra ta:Option Addr) (rcap tc:Nat) (w:World) (hr:IsInts w .i64 (.slice ra rs.length rcap) (natL rs)) (ht:IsTks w (.slice ta ps.length tc) ps) (V:CardV rs) (VT:TksV rs (zj ps)) :
  Calls Tryz.prog 145 #[.agg #[.slice ra rs.length rcap],.slice ta ps.length tc] w fun e w'=>e = .returned (.int .i64 0)∧Ext w w':=by
 have HT0:=Lib.hid ht
 have HV:=Lib.hid V
 have HVT:=Lib.hid VT
 have h10:ps.length≤10:=by have:=VT.hi;simpa [zj] using this
 have HLEN:Hid (∀ x∈ps,x.2.s.length=rs.length):=Lib.hid fun x hx=>VT.len x.2 (List.mem_map.2 ⟨x,hx,rfl⟩)
 have HEA:Hid (∀ x∈ps,∀ r,r < rs.length→1≤x.2.s.getD r 0∧x.2.s.getD r 0≤2 ^ rs.getD r 0 - 1):=Lib.hid fun x hx=>VT.each x.2 (List.mem_map.2 ⟨x,hx,rfl⟩)
 clear ht V VT
 go_enter Tryz.func145,Tryz.ntmps145
 go_upto_region 1 with (fail)
 obtain ⟨W0,hW0⟩:∃ W0,W0=w.alloc (.cells #[.slice ra rs.length rcap] 30):=⟨_,rfl⟩
 have hE:Ext w W0:=by rw [hW0];exact xx
 have k0:W0.cell? ⟨w.heap.size,0,none⟩=some (.slice ra rs.length rcap):=by rw [hW0];simp [go_sem]
 have hz:w.heap.size < W0.heap.size:=World.block_lt_of_cell? _ _ k0
 have HW:=Lib.hid hE
 have HR:=Lib.hid (IsInts.ext hE hr)
 rw [← hW0]
 clear hW0 hr
 have HT:=Lib.hid (HT0.out.ext HW.out)
 clear HT0 hE
 obtain ⟨_,_,e9,-,-,hcc⟩:=HT.out.spec
 cases e9
 have HCC:=Lib.hid hcc
 clear hcc
 go_wp2_with fail
 refine za0 (W0:=W0) (g:=⟨W0,Below.refl _ _⟩) xx (zft ps ta tc 207 #[.pointer (some ⟨w.heap.size,0,none⟩)] (fun _=>false) _ (by omega) (HCC.out.imp id fun ⟨b',off,e,hc⟩=>⟨b',off,e,fun i hi=>⟨zh xx (hc i hi).1,zh xx (hc i hi).2⟩⟩) (fun args W=>Tryz.call207 args W) (fun x hx W hW=>z04 x.2 x.1 rs ra rcap _ W ((HT.out.sets x hx).ext (Ext.trans' xx hW)) (zh (Ext.trans' xx hW) k0) (HLEN.out x hx))) fun g1 hgr=>?_
 clear hgr
 rw [znm]
 go_wp2_with fail
 refine za0 (W0:=W0) (g:=g1) xx (zft ps ta tc 208 #[.pointer (some ⟨w.heap.size,0,none⟩)] (fun _=>false) _ (by omega) (HCC.out.imp id fun ⟨b',off,e,hc⟩=>⟨b',off,e,fun i hi=>⟨zh xx (hc i hi).1,zh xx (hc i hi).2⟩⟩) (fun args W=>Tryz.call208 args W) (fun x hx W hW=>z5g x.2 x.1 rs ra rcap _ W ((HT.out.sets x hx).ext (Ext.trans' xx hW)) (zh (Ext.trans' xx hW) k0) (HR.out.ext (Ext.trans' xx hW)) HV.out (HLEN.out x hx) (HEA.out x hx))) fun g2 hgr=>?_
 clear hgr
 rw [znm]
 go_wp2_with fail
 go_ret
 exact ⟨rfl,HW.out.trans' (zu W0 _)⟩
set_option maxHeartbeats 1000000 in
theorem z5i (t:Tk) (x:Value) (w:World) (hx:IsInts w .i64 x (natL t.s)) (hu:1≤t.u∧t.u≤1000) :
  Calls Tryz.prog 167 #[.agg #[x,.int .i64 t.u]] w fun e w'=>e = .returned (.bool false)∧Ext w w':=by
 obtain ⟨sa,cap,rfl,-,-,-⟩:=hx.spec
 clear hx
 obtain ⟨u,hu'⟩:∃ u,u=t.u:=⟨_,rfl⟩
 rw [← hu'] at hu ⊢
 clear hu'
 go_enter Tryz.func167,Tryz.ntmps167
 go_wp2_with fail
 refine za0 (W0:=w) (g:=⟨w,Below.refl _ _⟩) xx (zf1 1 1000 _ [u] _ (zcf (by omega) (by omega) (by simp [go_sem]))) fun g1 hgr=>?_
 clear hgr
 rw [zol,zrn hu]
 go_wp2_with fail
 go_ret
 exact ⟨zan rfl,zu w _⟩
set_option maxRecDepth 100000 in
set_option maxHeartbeats 2000000 in
theorem zxe (rs:List Nat) (ps:List (Value × Tk)) (ra ta:Option Addr) (rcap tc:Nat) (w:World) (hr:IsInts w .i64 (.slice ra rs.length rcap) (natL rs)) (ht:IsTks w (.slice ta ps.length tc) ps) (V:CardV rs) (VT:TksV rs (zj ps)) :
  Calls Tryz.prog 92 #[.agg #[.slice ra rs.length rcap],.slice ta ps.length tc] w fun e w'=>e = .returned (.int .i64 0)∧Ext w w':=by
 have HT0:=Lib.hid ht
 have HV:=Lib.hid V
 have HVT:=Lib.hid VT
 have h10:ps.length≤10:=by have:=VT.hi;simpa [zj] using this
 have HU:Hid (∀ x∈ps,1≤x.2.u∧x.2.u≤1000):=Lib.hid fun x hx=>VT.u x.2 (List.mem_map.2 ⟨x,hx,rfl⟩)
 clear ht V VT
 go_enter Tryz.func92,Tryz.ntmps92
 go_upto_region 1 with (fail)
 obtain ⟨W0,hW0⟩:∃ W0,W0=w.alloc (.cells #[.slice ra rs.length rcap] 30):=⟨_,rfl⟩
 have hE:Ext w W0:=by rw [hW0];exact xx
 have k0:W0.cell? ⟨w.heap.size,0,none⟩=some (.slice ra rs.length rcap):=by rw [hW0];simp [go_sem]
 have hz:w.heap.size < W0.heap.size:=World.block_lt_of_cell? _ _ k0
 have HW:=Lib.hid hE
 have HR:=Lib.hid (IsInts.ext hE hr)
 rw [← hW0]
 clear hW0 hr
 have HT:=Lib.hid (HT0.out.ext HW.out)
 clear HT0 hE
 obtain ⟨_,_,e9,-,-,hcc⟩:=HT.out.spec
 cases e9
 have HCC:=Lib.hid hcc
 clear hcc
 have hli:decide ((10:Int) < (ps.length:Int))=false:=by rw [decide_eq_false_iff_not];omega
 go_wp2_with fail
 refine za0 (W0:=W0) (g:=⟨W0,Below.refl _ _⟩) xx (z3e rs ra rcap _ (HR.out.ext xx) HV.out) fun g1 hgr=>?_
 clear hgr
 go_wp2_with fail
 refine za0 (W0:=W0) (g:=g1) xx (z5h rs ps ra ta rcap tc _ (HR.out.ext xx) (HT.out.ext xx) HV.out HVT.out) fun g2 hgr=>?_
 clear hgr
 go_wp2_with fail
 refine za0 (W0:=W0) (g:=g2) xx (zft ps ta tc 167 #[] (fun _=>false) _ (by omega) (HCC.out.imp id fun ⟨b',off,e,hc⟩=>⟨b',off,e,fun i hi=>⟨zh xx (hc i hi).1,zh xx (hc i hi).2⟩⟩) (fun args W=>Tryz.call167 args W) (fun x hx W hW=>z5i x.2 x.1 W ((HT.out.sets x hx).ext (Ext.trans' xx hW)) (HU.out x hx))) fun g3 hgr=>?_
 clear hgr
 rw [znm]
 go_wp2_with fail
 go_ret
 exact ⟨rfl,HW.out.trans' (zu W0 _)⟩
set_option maxRecDepth 100000 in
set_option maxHeartbeats 2000000 in
theorem zts (rs:List Nat) (ps:List (Value × Tk)) (ra ta:Option Addr) (rcap tc:Nat) (w:World) (hr:IsInts w .i64 (.slice ra rs.length rcap) (natL rs)) (ht:IsTks w (.slice ta ps.length tc) ps) (V:CardV rs) (VT:TksV rs (zj ps)) :
  Calls Tryz.prog 41 #[.agg #[.slice ra rs.length rcap],.slice ta ps.length tc] w fun e w'=>∃ p,e = .returned (.tuple #[.pointer (some ⟨p,0,none⟩),.int .i64 0])∧Ext w w'∧w.heap.size≤p∧SheetAt w' p (.slice ra rs.length rcap) (.slice ta ps.length tc):=by
 have HT0:=Lib.hid ht
 have HV:=Lib.hid V
 have HVT:=Lib.hid VT
 clear ht V VT
 go_enter Tryz.func41,Tryz.ntmps41
 go_upto_region 1 with (fail)
 obtain ⟨W0,hW0⟩:∃ W0,W0=w.alloc (.cells #[.slice ra rs.length rcap] 30):=⟨_,rfl⟩
 have hE:Ext w W0:=by rw [hW0];exact xx
 have k0:W0.cell? ⟨w.heap.size,0,none⟩=some (.slice ra rs.length rcap):=by rw [hW0];simp [go_sem]
 have hz:w.heap.size < W0.heap.size:=World.block_lt_of_cell? _ _ k0
 have HW:=Lib.hid hE
 have HR:=Lib.hid (IsInts.ext hE hr)
 rw [← hW0]
 clear hW0 hr
 have HT:=Lib.hid (HT0.out.ext HW.out)
 clear HT0 hE
 go_wp2_with fail
 refine za0 (W0:=W0) (g:=⟨W0,Below.refl _ _⟩) xx (zxe rs ps ra ta rcap tc _ (HR.out.ext xx) (HT.out.ext xx) HV.out HVT.out) fun g1 hgr=>?_
 clear hgr
 go_wp2_with fail
 refine zwd (W0:=W0) (g:=g1) xx (zw6 rs ra rcap _ (HR.out.ext xx) (.slice ta ps.length tc) ta ps.length tc rfl) (fun _ _ h=>by obtain ⟨_,_,h,_⟩:=h;exact h) fun _ g2 hgr hr=>?_
 obtain ⟨p,rfl,hE2,hp,hS⟩:=hr
 clear hgr
 have HSS:=Lib.hid hS
 have HE2:=Lib.hid hE2
 have hsz:=hE2.size
 have hgs:=(zu W0 g1).size
 have hws:=HW.out.size
 have HP:Hid (w.heap.size≤p):=Lib.hid (by omega)
 clear hS hE2
 go_wp2_with fail
 refine bodyPost_ret (v:=.tuple #[.pointer (some ⟨p,0,none⟩),.int .i64 0]) (by simp [results,Tryz.results41,go_sem]) rfl ?_
 exact ⟨p,rfl,HW.out.trans' (zu W0 _),HP.out,HSS.out⟩
end Go.Proofs.YtkfifbopmpcanaaGreat
namespace Go.Proofs.YtkfifbopmpcanaaGreat
open Go.RowKit Go.Shelf
attribute [local go_sem] Oper.semAt_some
theorem zlz (ts:List (List Nat)) (us:List Int) (pre:List Lf) (x:Lf) (i:Nat):zch ts us (pre ++ [x]) i=(zch ts us pre i || decide (fstB x.2 ts.length=some i∧us.getD i 0=valB us x.2 ts.length)):=by
 simp [zch,List.any_append]
def alB (ts:List (List Nat)) (us:List Int) (l:List Lf) (j:Nat):Int:=if zch ts us l j=true then 1 else 0
theorem zpp {al:List Bool}:∀ {n:Nat},(∀ j,j < n→al.getD j false=false)→fstB al n=none
 | 0,_=>rfl
 | n+1,h=>by
  unfold fstB
  rw [zpp fun j hj=>h j (by omega),h n (by omega)]
  rfl
theorem zxf {al:List Bool} {i:Nat} (hi:al.getD i false=true) (h:∀ j,j < i→al.getD j false=false):∀ {n:Nat},i < n→fstB al n=some i
 | 0,h0=>by omega
 | n+1,h0=>by
  unfold fstB
  by_cases e:i=n
  ·subst e
   rw [zpp h,if_pos hi]
  ·rw [zxf hi h (n:=n) (by omega)]
theorem z5j {rs:List Nat} {ts:List (List Nat)} {x:Lf} (h:Leaf rs ts x) {j:Nat} (hj:j < ts.length):zdl (ts.getD j []) x.1 rs.length=x.2.getD j false:=by
 rw [Bool.eq_iff_iff,hasTo_iff,h.iff_ j hj]
def zdz (ts:List (List Nat)) (us:List Int) (P:List Lf) (k:Nat):List Nat:=(List.range k).filter fun i=>!zch ts us P i
theorem zx4 (ts:List (List Nat)) (us:List Int) (P:List Lf) (k:Nat):zdz ts us P (k+1)=zdz ts us P k ++ if zch ts us P k=true then [] else [k]:=by
 unfold zdz
 rw [List.range_succ,List.filter_append]
 cases h:zch ts us P k<;>simp [h]
theorem z05 (ts:List (List Nat)) (us:List Int) (P:List Lf) (k:Nat):(zdz ts us P k).length≤k:=by
 unfold zdz
 have:=List.length_filter_le (fun i=>!zch ts us P i) (List.range k)
 simpa using this
set_option maxRecDepth 100000 in
set_option maxHeartbeats 16000000 in
theorem z7o (rs:List Nat) (ps:List (Value × Tk)) (ra ta:Option Addr) (rcap tc:Nat) (w:World) (hr:IsInts w .i64 (.slice ra rs.length rcap) (natL rs)) (ht:IsTks w (.slice ta ps.length tc) ps) (V:CardV rs) (VT:TksV rs (zj ps)) :
  CallsIn Fence.wide 9 Tryz.prog 22 #[.agg #[.slice ra rs.length rcap],.slice ta ps.length tc] w fun e w'=>∃ v,e = .returned (.tuple #[v,.int .i64 0])∧Ext w w'∧IsInts w' .i64 v (natL (idleB (zal (zj ps)) (zar (zj ps)) (zbd rs (zal (zj ps))))):=by
 have HT0:=Lib.hid ht
 have HR0:=Lib.hid hr
 have HV:=Lib.hid V
 have HVT:=Lib.hid VT
 have hl10:ps.length≤10:=by have:=VT.hi;simpa [zj] using this
 have hr1:=V.lo
 clear ht V VT hr
 refine callsIn_of_wp_marks Tryz.func22 rfl trivial ?_ rfl
 simp only [Tryz.ntmps22,List.size_toArray,List.length_cons,List.length_nil,Nat.reduceAdd,Nat.reduceSub,Array.replicate_succ,Array.replicate_zero,List.push_toArray,List.append_toArray,List.nil_append,List.cons_append]
 obtain ⟨rb,ro,hra,-⟩:=zcn HR0.out (show 0 < rs.length by omega)
 subst hra
 obtain ⟨W0,hW0⟩:∃ W0,W0=(w.alloc (.cells #[.slice (some ⟨rb,ro,none⟩) rs.length rcap] 30)).alloc (.cells #[.slice ta ps.length tc] 31):=⟨_,rfl⟩
 have hE0:Ext w W0:=by rw [hW0];exact xx
 have k0:W0.cell? ⟨w.heap.size,0,none⟩=some (.slice (some ⟨rb,ro,none⟩) rs.length rcap):=by rw [hW0];simp [go_sem]
 have k1:W0.cell? ⟨w.heap.size+1,0,none⟩=some (.slice ta ps.length tc):=by rw [hW0];simp [go_sem]
 have hz0:W0.heap.size=w.heap.size+2:=by rw [hW0];simp
 have hza:w.heap.size+1 < W0.heap.size:=by omega
 have hzb:w.heap.size < W0.heap.size:=by omega
 gi_wp2_with fail
 refine zzx ?_
 gi_wp2_with fail
 rw [← hW0]
 refine ⟨trivial,(callsIn_wide.2 (zts rs ps (some ⟨rb,ro,none⟩) ta rcap tc W0 (HR0.out.ext hE0) (HT0.out.ext hE0) HV.out HVT.out)).mono ?_⟩
 rintro e W1 ⟨p,rfl,hE1,hp,hS⟩
 replace k0:=zh hE1 k0
 replace k1:=zh hE1 k1
 have hz1:=hE1.size
 have hpz:=hS.lt
 have HS1:=Lib.hid hS
 have HE1:=Lib.hid (hE0.trans' hE1)
 obtain ⟨Wm,hmk,hnum,hEm⟩:=zrp W1 ps.length (by omega)
 have k1m:=zh hEm k1
 have hzm:=hEm.size
 obtain ⟨ab,hab⟩:∃ ab,ab=W1.heap.size:=⟨_,rfl⟩
 rw [← hab] at hmk hnum
 have HNUM:=Lib.hid hnum
 have HEM:=Lib.hid hEm
 have HAB:=Lib.hid hab
 have hzk:w.heap.size+1 < W1.heap.size:=by omega
 have hzkm:w.heap.size+1 < Wm.heap.size:=by omega
 clear hW0 hE0 hE1 hp hS hnum hEm hab hza hzb k0
 gi_wp2_with fail
 refine wpIn_label ?_
 obtain ⟨W2,hW2⟩:∃ W2,W2=Wm.alloc (.cells #[.slice (some ⟨ab,0,none⟩) ps.length ps.length] 23):=⟨_,rfl⟩
 have hE2:Ext Wm W2:=by rw [hW2];exact xx
 have k8:W2.cell? ⟨Wm.heap.size,0,none⟩=some (.slice (some ⟨ab,0,none⟩) ps.length ps.length):=by rw [hW2];simp [go_sem]
 have hz2:W2.heap.size=Wm.heap.size+1:=by rw [hW2];simp []
 gi_wp2_with fail
 rw [← hW2]
 refine ⟨trivial,(callsIn_wide.2 (z02 p W2)).mono ?_⟩
 rintro e W5 ⟨rfl,hE5,hb5,hz5⟩
 rw [hz2] at hb5 hz5 ⊢
 obtain ⟨a8,ha8⟩:∃ a8,a8=Wm.heap.size:=⟨_,rfl⟩
 rw [← ha8] at k8 hb5 hz5 hz2 ⊢
 have hE15:Ext W1 W5:=HEM.out.trans' (hE2.trans' hE5)
 have k85:=zh hE5 k8
 have HN5:=Lib.hid (HNUM.out.extb (hE2.trans' hE5))
 have HE15:=Lib.hid hE15
 have haz:ab < a8:=by have:=HNUM.out.lt;omega
 have hz51:a8+2=W5.heap.size:=by omega
 have HB5:=Lib.hid hb5
 have hsub:∀ W,Kept (fun k=>k < W5.heap.size∧k≠ab) W5 W→Ext W1 W:=fun W hk=>HE15.out.trans (Kept.below (hk.mono (T:=fun k=>k < W1.heap.size) fun k hk1 hk2=>⟨hk1,by have:=HAB.out;omega⟩) HE15.out.size)
 have HSUB:=Lib.hid hsub
 have HK1:=Lib.hid k1
 have HK8:=Lib.hid k85
 clear hW2 hE2 hE5 k8 hb5 hz5 hz2 ha8 hE15 k85 hsub k1m hzm hmk k1 HNUM HEM hzkm
 have E5:CutE (fun k=>k < W5.heap.size∧k≠ab) W5 p rs ps rb ro rcap ta tc:=by
  obtain ⟨_,_,e9,q1,q2,-⟩:=HR0.out.spec
  rw [zaq] at e9 q1
  cases e9
  refine ⟨fun W hk=>HS1.out.ext (HSUB.out W hk),fun W hk r hr=>?_,fun W hk=>HT0.out.ext (HE1.out.trans' (HSUB.out W hk)),⟨q1,q2⟩,HV.out,HVT.out⟩
  obtain ⟨_,_,e8,hc⟩:=zcn HR0.out hr
  cases e8
  exact hc r hr W (HE1.out.trans' (HSUB.out W hk))
 have HE5:=Lib.hid E5
 clear E5
 obtain ⟨ts,hts⟩:∃ ts,ts=zal (zj ps):=⟨_,rfl⟩
 obtain ⟨us,hus⟩:∃ us,us=zar (zj ps):=⟨_,rfl⟩
 have htl:ts.length=ps.length:=by rw [hts,zdy]
 have HTS:=Lib.hid hts
 have HUS:=Lib.hid hus
 have HTL:=Lib.hid htl
 clear hts hus htl
 gi_wp2_with fail
 refine z00 (n:=9) (R:=fun k=>k < W5.heap.size∧k≠ab) rfl (enters_of Tryz.func116 (by kernel_rfl) rfl)
  (z03 HE5.out (a8+1) (fun W hk=>hk.cell HB5.out ⟨by simp only;omega,by simp only;omega⟩))
  (Below.refl _ _) (fun k hk=>hk.1) (fun _=>rfl)
  (fun O pre W=>(∀ k,O k→W5.heap.size≤k)∧W5.heap.size≤W.heap.size∧Kept (fun k=>k < W5.heap.size∧k≠ab) W5 W∧NumB W ab ps.length (alB ts us (pre.map (·.2))))
  (fun _ _ _ _=>False) ?bears (fun _ _ _ _ _ _ h _ _ _=>h) ⟨fun _ h=>h.elim,Nat.le_refl _,Kept.refl _ _,HN5.out.congr fun j _=>by simp [alB,zch]⟩ ?round ?done (fun _ _ _ _ _ _ _ h _=>h.elim)
 case bears =>
  rintro pre O O' A B ⟨g1,g2,g3,g4⟩ hk hO1 hO2
  refine ⟨fun k hk=>?_,by have:=hk.size;omega,g3.trans (hk.mono fun k _ h=>⟨fun ho=>by have:=g1 k ho;omega,by omega⟩),g4.of_heap (hk.same ab g4.lt ⟨fun ho=>by have:=g1 _ ho;omega,by omega⟩)⟩
  rcases hO2 k hk with h | h
  ·exact g1 k h
  ·omega
 case round =>
  rintro l O pre ⟨xv,sets,al⟩ W ⟨g1,g2,g3,g4⟩ ⟨sb,so,sc,hxv,hS,hsl,hlt64,hgood⟩ hO2 hW2
  simp only at hxv hS hsl hlt64 hgood
  subst hxv
  simp only [encB]
  gi_wp2_with fail
  refine ⟨Below.refl _ _,fun W2 hk2=>?_⟩
  have hlw:=hk2.size
  have g32:Kept (fun k=>k < W5.heap.size∧k≠ab) W5 W2:=g3.trans (hk2.mono fun k _ h=>by omega)
  have g42:NumB W2 ab ps.length (alB ts us (pre.map (·.2))):=g4.of_heap (hk2.same ab g4.lt (by omega))
  have hS2:SetsAt W2 O sb so sc sets rs.length:=⟨hS.1,hS.2.1,hS.2.2.1,fun r hr=>hk2.cell (hS.2.2.2 r hr) (by have:=hO2 sb hS.2.2.1;simp only;omega)⟩
  have hE2:=HSUB.out W2 g32
  rw [← HTS.out] at hgood
  have hleaf:=zrl _ hgood
  have k1:=zh hE2 HK1.out
  have k8:=g32.cell HK8.out ⟨by simp only;omega,by simp only;omega⟩
  have hz3:w.heap.size+1 < W2.heap.size:=by have:=hE2.size;omega
  have hz8:a8 < W2.heap.size:=by omega
  have HG3:=Lib.hid g32
  have HG4:=Lib.hid g42
  have HS2:=Lib.hid hS2
  have HE2:=Lib.hid hE2
  have HLF:=Lib.hid hleaf
  have HSL:=Lib.hid hsl
  have H64:=Lib.hid hlt64
  have HT2:=Lib.hid (HT0.out.ext (HE1.out.trans' hE2))
  have hw2z:W5.heap.size≤W2.heap.size:=by omega
  clear g3 g4 g32 g42 hS hS2 hE2 hgood hleaf hsl hlt64 hk2
  gi_wp2_with fail
  gi_loopw [34] (fun iv wr=>∃ i:Nat,i≤ps.length∧iv = .int .i64 i∧(∀ j,j < i→al.getD j false=false)∧Ext W2 wr) (fun iv _=>ps.length - (intOf iv).toNat)
  case atStart=>exact ⟨0,by omega,rfl,fun j h=>by omega,Below.refl _ _⟩
  case round =>
   obtain ⟨i,hi,rfl,hno,hEX⟩:=hrel
   obtain ⟨X,rfl⟩:∃ X,X=wr:=⟨_,rfl⟩
   have HNO:=Lib.hid hno
   have HEX:=Lib.hid hEX
   by_cases hlt:i < ps.length
   ·have hii:(i:Int) < (ps.length:Int):=by omega
    have hT:=HT2.out.ext hEX
    obtain ⟨_,_,e9,-,-,hcc⟩:=hT.spec
    cases e9
    rcases hcc with hc0 | ⟨tb,to,rfl,hcc⟩
    ·rw [hc0] at hlt;simp at hlt
    obtain ⟨t0,t1⟩:=hcc i hlt
    have zt:=World.block_lt_of_cell? _ _ t0
    simp only at zt
    have hln:=z3g HVT.out _ (List.getElem_mem hlt)
    have hle:=z53 HV.out HVT.out _ (List.getElem_mem hlt)
    have hsv0:=hT.sets _ (List.getElem_mem hlt)
    obtain ⟨sa,sc2,hsv,-,-,-⟩:=hsv0.spec
    rw [zaq,hln] at hsv
    rw [hsv] at hsv0 t0
    obtain ⟨u,hu⟩:∃ u,u=ps[i].2.u:=⟨_,rfl⟩
    rw [← hu] at t1
    have huu:us.getD i 0=u:=by
     rw [hu,HUS.out,List.getD_eq_getElem?_getD]
     simp [zar,zj,List.getElem?_eq_getElem hlt]
    have hsa:ts.getD i []=ps[i].2.s:=by rw [HTS.out,zsm hlt]
    obtain ⟨S,hS⟩:∃ S,S=ps[i].2.s:=⟨_,rfl⟩
    rw [← hS] at hsv0 hln hle hsa
    have hmark:zdl S sets rs.length=al.getD i false:=by
     have h:=z5j HLF.out (j:=i) (by rw [HTL.out];exact hlt)
     rw [hsa] at h
     exact h
    have hlS:sets.length=S.length:=by rw [HSL.out,hln]
    have HT9:=Lib.hid hsv0
    have HHAS:∀ W,Ext X W→Calls Tryz.prog 60 #[.slice sa rs.length sc2,.slice (some ⟨sb,so,none⟩) rs.length sc] W fun e w'=>e = .returned (.bool (al.getD i false))∧Ext W w':=fun W hW=>by
     have h:=z49 S sets (.slice sa rs.length sc2) (.slice (some ⟨sb,so,none⟩) rs.length sc) W (HT9.out.ext hW) ((HS2.out.ext (HEX.out.trans' hW)).ints HSL.out) hlS (fun r hr=>by have:=hle r (by rw [hln] at hr;exact hr);omega) (fun r hr=>by
      have h9:=H64.out r (by rw [hln] at hr;exact hr)
      omega) (by have:=HV.out.hi;omega)
     rw [hln,hmark] at h
     exact h
    have HHAS:=Lib.hid HHAS
    have HU:=Lib.hid huu
    obtain ⟨vu,hvu⟩:∃ vu,vu=valB (zar (zj ps)) al ps.length:=⟨_,rfl⟩
    rw [← hvu]
    have HVU:Hid (vu=valB us al ps.length):=Lib.hid (by rw [hvu,HUS.out])
    obtain ⟨m,hm⟩:∃ m,m=al.getD i false:=⟨_,rfl⟩
    rw [← hm] at HHAS
    have HM:=Lib.hid hm
    clear hT hcc hln hle hsv0 hsv hu huu hsa hS hmark hlS hvu hm hno hEX
    gi_wp2_with fail
    obtain ⟨X3,hX3⟩:∃ X3,X3=X.alloc (.cells #[.slice sa rs.length sc2,.int .i64 u] 33):=⟨_,rfl⟩
    have hE3:Ext X X3:=by rw [hX3];exact xx
    have x1:X3.cell? ⟨X.heap.size,1,none⟩=some (.int .i64 u):=by rw [hX3];simp [go_sem]
    rw [← hX3]
    clear hX3
    refine ⟨trivial,(CallsIn.inRound l (callsIn_wide.2 (HHAS.out X3 hE3))).mono ?_⟩
    rintro e W9 ⟨rfl,hE9⟩
    replace x1:=zh hE9 x1
    have zx:=World.block_lt_of_cell? _ _ x1
    simp only at zx
    have hE9':=HEX.out.trans' (hE3.trans' hE9)
    have HE9:=Lib.hid hE9'
    have k89:=zh hE9' k8
    have zk8:=World.block_lt_of_cell? _ _ k89
    simp only at zk8
    have hN9:=HG4.out.extb hE9'
    have hfr:=hN9.free
    have hnl:=hN9.lt
    have hcab:=hN9.cell i hlt
    have HN9:=Lib.hid hN9
    clear hE3 hE9 hE9' hN9 HHAS t0 t1 zt k8 k1
    cases m
    ·have HNO2:Hid (∀ j,j < i+1→al.getD j false=false):=Lib.hid fun j hj=>by
      by_cases e:j=i
      ·rw [e];exact HM.out.symm
      ·exact HNO.out j (by omega)
     gi_wp2_with fail
     go_roundw
     case rel=>exact ⟨i+1,by omega,by go_num,HNO2.out,HE9.out⟩
     case measure=>simp [intOf];omega
    ·have HFS:Hid (fstB al ts.length=some i):=Lib.hid (zxf HM.out.symm HNO.out (by rw [HTL.out];exact hlt))
     by_cases hv:u=vu
     ·have hvb:(u == vu)=true:=by rw [beq_iff_eq];exact hv
      have HVV:=Lib.hid hv
      clear hv
      gi_wp2_with fail
      refine ⟨((Kept.of_below HE9.out)).setCell (fun h1 h2=>?_) _,g1,by have:=HE9.out.size;simp [World.setCell];omega,(HG3.out.trans (Kept.of_below HE9.out)).setCell (fun _ h=>h.2 rfl) _,(HN9.out.set i 1).congr fun j hj=>?_⟩
      ·simp only at h1 h2
       rcases h2 with h | h | h | h
       ·exact h.2 rfl
       ·have:=g1 _ h;omega
       ·omega
       ·omega
      ·unfold alB
       rw [List.map_append,List.map_cons,List.map_nil,zlz,HFS.out,HTL.out,← HVU.out]
       by_cases e:j=i
       ·subst e
        rw [if_pos rfl,HU.out,HVV.out]
        simp
       ·rw [if_neg e]
        have:decide (some i=some j∧us.getD j 0=vu)=false:=by
         rw [decide_eq_false_iff_not]
         rintro ⟨h,-⟩
         exact e (Option.some.inj h).symm
        rw [this,Bool.or_false]
     ·have hvb:(u == vu)=false:=by rw [beq_eq_false_iff_ne];exact hv
      have HVV:=Lib.hid hv
      clear hv
      gi_wp2_with fail
      refine ⟨(Kept.of_below HE9.out),g1,by have:=HE9.out.size;omega,HG3.out.trans (Kept.of_below HE9.out),HN9.out.congr fun j hj=>?_⟩
      unfold alB
      rw [List.map_append,List.map_cons,List.map_nil,zlz,HFS.out,HTL.out,← HVU.out]
      have:decide (some i=some j∧us.getD j 0=vu)=false:=by
       rw [decide_eq_false_iff_not]
       rintro ⟨h,h2⟩
       have:j=i:=(Option.some.inj h).symm
       subst this
       rw [HU.out] at h2
       exact HVV.out h2
      rw [this,Bool.or_false]
   ·have hii:¬ ((i:Int) < (ps.length:Int)):=by omega
    have HFN:Hid (fstB al ts.length=none):=Lib.hid (zpp fun j hj=>HNO.out j (by rw [HTL.out] at hj;omega))
    clear hno hEX
    gi_wp2_with fail
    refine ⟨(Kept.of_below HEX.out),g1,by have:=HEX.out.size;omega,HG3.out.trans (Kept.of_below HEX.out),(HG4.out.extb HEX.out).congr fun j hj=>?_⟩
    unfold alB
    rw [List.map_append,List.map_cons,List.map_nil,zlz,HFN.out]
    simp
 case done =>
  rintro D O xs W hD hxs ⟨g1,g2,g3,g4⟩ hDk
  rw [← HTS.out] at hxs
  rw [hxs] at g4
  obtain ⟨P,hP⟩:∃ P,P=zbd rs ts:=⟨_,rfl⟩
  rw [← hP] at g4
  have HP:Hid (P=zbd rs (zal (zj ps))):=Lib.hid (by rw [hP,HTS.out])
  have k8:=g3.cell HK8.out ⟨by simp only;omega,by simp only;omega⟩
  have zk8:=World.block_lt_of_cell? _ _ k8
  simp only at zk8
  have HN:=Lib.hid g4
  have HDK:=Lib.hid hDk
  have HEW:=Lib.hid (HE1.out.trans' (HSUB.out W g3))
  have hDl:=(Array.getElem?_eq_some_iff.1 hDk).1
  clear g1 g2 g3 g4 hxs hP hDk
  gi_wp2_with fail
  gi_loopw [13,53] (fun ov iv wr=>∃ k:Nat,k≤ps.length∧iv = .int .i64 k∧Owns wr W.heap.size 3 1 ov ((natL (zdz ts us P k)).map iRow)∧Ext W wr) (fun _ iv _=>ps.length - (intOf iv).toNat)
  case atStart=>exact ⟨0,by omega,rfl,Owns.nil _ _ _ _,Below.refl _ _⟩
  case round =>
   obtain ⟨k,hk,rfl,ho,hE⟩:=hrel
   obtain ⟨X,rfl⟩:∃ X,X=wr:=⟨_,rfl⟩
   have HO:=Lib.hid ho
   have HE:=Lib.hid hE
   obtain ⟨oa,on,oc,rfl⟩:=ho.isSlice
   by_cases hlt:k < ps.length
   ·have hki:(k:Int) < (ps.length:Int):=by omega
    have ck:=(HN.out.extb hE).cell k hlt
    have zk:=(HN.out.extb hE).lt
    have hst:=zx4 ts us P k
    clear ho hE
    cases ha:zch ts us P k
    ·have hal:alB ts us P k=0:=by unfold alB;rw [ha];rfl
     rw [hal] at ck
     rw [ha] at hst
     have HAT:Hid ((natL (zdz ts us P (k+1))).map iRow=(natL (zdz ts us P k)).map iRow ++ [[.int .i64 (k:Int)]]):=Lib.hid (by
      rw [hst]
      simp [natL,iRow])
     have HLEN:Hid (((natL (zdz ts us P k)).map iRow).length + [[Value.int .i64 (k:Int)]].length≤1000000):=Lib.hid (by
      have:=z05 ts us P k
      simp [natL];omega)
     clear hst hal ha
     gi_wp2_with (refine zr6 rfl (.tmp 60) (.tmp 62) elInt rfl W.heap.size rfl (HO.out.ext (by exact xx)) X.heap.size 0 1 [[.int .i64 (k:Int)]] rfl (by simp) (zep _ [.int .i64 (k:Int)] _ _ _ rfl rfl) (by simp [Value.oneCell']) HLEN.out (by have:=HE.out.size;simp;omega) ?_)
     intro v' W4 hown4 hk4 hat4
     obtain ⟨va2,vn,vc2,rfl⟩:=hown4.isSlice
     have hob:=HO.out.notOwn
     have hE4:Ext W W4:=(HE.out.trans' (by exact xx:Ext X (X.alloc (.cells #[.int .i64 (k:Int)] 3)))).trans (Kept.below (hk4.mono (T:=fun k=>k < W.heap.size) fun k _ hk e=>by have:=hob k e.symm;omega) (by have:=HE.out.size;simp;omega))
     have HO4:=Lib.hid hown4
     have HE4:=Lib.hid hE4
     clear hown4 hk4 hat4 hE4 hob ck zk
     gi_wp2_with fail
     go_roundw
     case rel=>exact ⟨k+1,by omega,by go_num,by rw [HAT.out];exact HO4.out,HE4.out⟩
     case measure=>simp [intOf];omega
    ·have hal:alB ts us P k=1:=by unfold alB;rw [ha];rfl
     rw [hal] at ck
     rw [ha] at hst
     have HAT:Hid (zdz ts us P (k+1)=zdz ts us P k):=Lib.hid (by rw [hst];simp)
     clear hst hal ha
     gi_wp2_with fail
     go_roundw
     case rel=>exact ⟨k+1,by omega,by go_num,by rw [HAT.out];exact HO.out,HE.out⟩
     case measure=>simp [intOf];omega
   ·have hki:¬ ((k:Int) < (ps.length:Int)):=by omega
    have hke:k=ps.length:=by omega
    have HO3:Hid (Owns X W.heap.size 3 1 (.slice oa on oc) ((natL (idleB ts us P)).map iRow)):=Lib.hid (by
     rw [hke,← HTL.out] at ho
     exact ho)
    have HD3:Hid (X.heap[D]? = some (.deferred (some []))):=Lib.hid ((hE.block D hDl).trans HDK.out)
    clear ho hE hke
    gi_wp2_with fail
    refine ⟨by simp,.inl ⟨_,_,rfl,run_takeDeferred HD3.out,?_⟩⟩
    have hkd:Kept (fun k=>k≠D) X (X.putObj D (.deferred none)):=(Kept.refl _ X).putObj _ (fun _ h=>h rfl)
    have hEX2:=HEW.out.trans' HE.out
    refine ⟨.tuple #[.slice oa on oc,.int .i64 0],by simp [results,Tryz.results22,go_sem],.slice oa on oc,rfl,?_,?_⟩
    ·exact hEX2.trans (Kept.below (hkd.mono fun k _ h=>by have:=HE15.out.size;have:=HE1.out.size;omega) hEX2.size)
    ·have h9:=(HO3.out.putOther HD3.out (.deferred none)).oneInts
     rw [HP.out,HTS.out,HUS.out] at h9
     exact h9
theorem z5k (rs:List Nat) (ps:List (Value × Tk)) (ra ta:Option Addr) (rcap tc:Nat) (w:World) (hr:IsInts w .i64 (.slice ra rs.length rcap) (natL rs)) (ht:IsTks w (.slice ta ps.length tc) ps) (V:CardV rs) (VT:TksV rs (zj ps)) :
  Calls Tryz.prog 22 #[.agg #[.slice ra rs.length rcap],.slice ta ps.length tc] w fun e w'=>∃ v,e = .returned (.tuple #[v,.int .i64 0])∧Ext w w'∧IsInts w' .i64 v (natL (idleB (zal (zj ps)) (zar (zj ps)) (zbd rs (zal (zj ps))))):=callsIn_wide.1 (z7o rs ps ra ta rcap tc w hr ht V VT)
end Go.Proofs.YtkfifbopmpcanaaGreat
namespace Go.Proofs.YtkfifbopmpcanaaGreat
open Go.RowKit Go.Shelf
attribute [local go_sem] Oper.semAt_some
set_option maxRecDepth 100000 in
set_option maxHeartbeats 16000000 in
theorem z06 (s:Nat) (hs:s < 64) (w:World):Calls Tryz.prog 180 #[.int .u64 (s:Int)] w fun e w'=>e = .returned (.int .i64 (zfd s 6:Nat))∧Ext w w':=by
 have h:s=0∨s=1∨s=2∨s=3∨s=4∨s=5∨s=6∨s=7∨s=8∨s=9∨s=10∨s=11∨s=12∨s=13∨s=14∨s=15∨s=16∨s=17∨s=18∨s=19∨s=20∨s=21∨s=22∨s=23∨s=24∨s=25∨s=26∨s=27∨s=28∨s=29∨s=30∨s=31∨s=32∨s=33∨s=34∨s=35∨s=36∨s=37∨s=38∨s=39∨s=40∨s=41∨s=42∨s=43∨s=44∨s=45∨s=46∨s=47∨s=48∨s=49∨s=50∨s=51∨s=52∨s=53∨s=54∨s=55∨s=56∨s=57∨s=58∨s=59∨s=60∨s=61∨s=62∨s=63:=by omega
 rcases h with rfl | rfl | rfl | rfl | rfl | rfl | rfl | rfl | rfl | rfl | rfl | rfl | rfl | rfl | rfl | rfl | rfl | rfl | rfl | rfl | rfl | rfl | rfl | rfl | rfl | rfl | rfl | rfl | rfl | rfl | rfl | rfl | rfl | rfl | rfl | rfl | rfl | rfl | rfl | rfl | rfl | rfl | rfl | rfl | rfl | rfl | rfl | rfl | rfl | rfl | rfl | rfl | rfl | rfl | rfl | rfl | rfl | rfl | rfl | rfl | rfl | rfl | rfl | rfl
 all_goals
  go_enter Tryz.func180,Tryz.ntmps180
  go_wp2
  go_ret
  exact ⟨zau (by decide +kernel),Below.refl _ _⟩
set_option maxRecDepth 100000 in
set_option maxHeartbeats 1000000 in
theorem z5m (s:Nat) (hs:s < 64) (w:World):Calls Tryz.prog 119 #[.int .u64 (s:Int)] w fun e w'=>e = .returned (.int .i64 (zfd s 6:Nat))∧Ext w w':=by
 go_enter Tryz.func119,Tryz.ntmps119
 go_wp2_with fail
 refine (z06 s hs w).mono ?_
 rintro e W ⟨rfl,hE⟩
 go_wp2_with fail
 go_ret
 exact ⟨rfl,hE⟩
theorem zsn (s:Nat):∀ k,zfd s k≤k
 | 0=>Nat.le_refl _
 | k+1=>by
  have:=zsn s k
  unfold zfd
  split<;>omega
def zbj (l:List Nat):Nat→Nat
 | 0=>1
 | k+1=>zbj l k * zfd (l.getD k 0) 6
theorem ztt (l:List Nat):∀ k,zbj l k≤6 ^ k
 | 0=>Nat.le_refl _
 | k+1=>by
  unfold zbj
  rw [Nat.pow_succ]
  exact Nat.mul_le_mul (ztt l k) (zsn _ 6)
theorem zrr {l:List Nat}:∀ {k:Nat},(∀ r,r < k→0 < zfd (l.getD r 0) 6)→0 < zbj l k
 | 0,_=>by simp [zbj]
 | k+1,h=>by
  unfold zbj
  exact Nat.mul_pos (zrr fun r hr=>h r (by omega)) (h k (by omega))
set_option maxRecDepth 100000 in
set_option maxHeartbeats 2000000 in
theorem z5n (l:List Nat) (v:Value) (w:World) (hv:IsInts w .i64 v (natL l)) (hl:l.length≤5) (hs:∀ r,r < l.length→l.getD r 0 < 64) :
  Calls Tryz.prog 61 #[v] w fun e w'=>e = .returned (.int .i64 (zbj l l.length:Nat))∧Ext w w':=by
 have HV:=Lib.hid hv
 have HS:=Lib.hid hs
 obtain ⟨sa,sc,rfl,-,-,-⟩:=hv.spec
 have hv2:=HV.out
 rw [zaq] at hv2 ⊢
 have HV2:=Lib.hid hv2
 clear hv hs hv2 HV
 go_enter Tryz.func61,Tryz.ntmps61
 go_wp2_with fail
 go_loopw [3,8] (fun nv iv W=>∃ k:Nat,k≤l.length∧iv = .int .i64 k∧nv = .int .i64 (zbj l k:Nat)∧Ext w W) (fun _ iv _=>l.length - (intOf iv).toNat)
 case atStart=>exact ⟨0,by omega,rfl,rfl,Below.refl _ _⟩
 case round =>
  obtain ⟨k,hk,rfl,rfl,hE⟩:=hrel
  obtain ⟨X,rfl⟩:∃ X,X=wr:=⟨_,rfl⟩
  have HE:=Lib.hid hE
  by_cases hlt:k < l.length
  ·have hki:(k:Int) < (l.length:Int):=by omega
   obtain ⟨sb,so,rfl,hc⟩:=zcn HV2.out hlt
   have c0:=hc k hlt X hE
   have z0:=World.block_lt_of_cell? _ _ c0
   simp only at z0
   have h64:=HS.out k hlt
   obtain ⟨s,hs⟩:∃ s:Nat,s=l.getD k 0:=⟨_,rfl⟩
   have hst:zbj l (k+1)=zbj l k * zfd (l.getD k 0) 6:=rfl
   rw [← hs] at c0 h64 hst
   have hp:zbj l k≤6 ^ 4:=Nat.le_trans (ztt l k) (Nat.pow_le_pow_right (by omega) (by omega))
   have hm:=zsn s 6
   have HONES:=fun W=>z5m s h64 W
   obtain ⟨m,hm2⟩:∃ m,m=zfd s 6:=⟨_,rfl⟩
   obtain ⟨n,hn2⟩:∃ n,n=zbj l k:=⟨_,rfl⟩
   rw [← hm2] at hst hm HONES
   rw [← hn2] at hst hp ⊢
   have hb:n * m≤6 ^ 4 * 6:=Nat.mul_le_mul hp hm
   have hwm:IntKind.i64.wrap ((n:Int) * (m:Int))=((n * m:Nat):Int):=by
    rw [show (n:Int) * (m:Int)=((n * m:Nat):Int) by simp]
    exact IntWalk.i64_in _ (by omega)
   have hwu:IntKind.u64.wrap (s:Int)=(s:Int):=by
    unfold IntKind.wrap
    simp [IntKind.bits,IntKind.signed]
    omega
   have HST:=Lib.hid hst
   have HON:=Lib.hid HONES
   clear hc hE hs hst hp hm hm2 hn2 hb HONES
   go_wp2_with fail
   refine (HON.out X).mono ?_
   rintro e W9 ⟨rfl,hE9⟩
   have HE9:=Lib.hid (HE.out.trans' hE9)
   clear hE9
   go_wp2_with fail
   go_roundw
   case rel=>exact ⟨k+1,by omega,by go_num,by rw [HST.out];simp,HE9.out⟩
   case measure=>simp [intOf];omega
  ·have hki:¬ ((k:Int) < (l.length:Int)):=by omega
   have hke:k=l.length:=by omega
   obtain ⟨n,hn2⟩:∃ n,n=zbj l k:=⟨_,rfl⟩
   rw [← hn2]
   have HN:Hid (n=zbj l l.length):=Lib.hid (by rw [hn2,hke])
   clear hE hke hn2
   go_wp2_with fail
   go_ret
   exact ⟨zau (by rw [HN.out]),HE.out⟩
end Go.Proofs.YtkfifbopmpcanaaGreat
namespace Go.Proofs.YtkfifbopmpcanaaGreat
open Go.RowKit Go.Shelf
attribute [local go_sem] Oper.semAt_some
theorem z7p {w:World} {b:Nat} {x:Value} {t:Tk} (hs:IsInts w .i64 x (natL t.s)) (c0:w.cell? ⟨b,0,none⟩=some x) (c1:w.cell? ⟨b,1,none⟩=some (.int .i64 t.u)):IsTks w (.slice (some ⟨b,0,none⟩) 1 1) [(x,t)]:=by
 refine ⟨⟨some ⟨b,0,none⟩,1,rfl,by simp,by simp,.inr ⟨b,0,rfl,fun i hi k hk=>?_⟩⟩,fun y hy=>?_⟩
 ·simp only [List.map_cons,List.map_nil,List.length_cons,List.length_nil] at hi
  have:i=0:=by omega
  subst this
  simp only [List.map_cons,List.map_nil,List.getElem_cons_zero,zlv,List.length_cons,List.length_nil] at hk ⊢
  match k,hk with
  | 0,_=>simpa using c0
  | 1,_=>simpa using c1
 ·simp only [List.mem_singleton] at hy
  subst hy
  exact hs
theorem z7q {w:World} {b:Nat} {x y:Value} {t u:Tk} (hs:IsInts w .i64 x (natL t.s)) (hu:IsInts w .i64 y (natL u.s)) (c0:w.cell? ⟨b,0,none⟩=some x) (c1:w.cell? ⟨b,1,none⟩=some (.int .i64 t.u)) (c2:w.cell? ⟨b,2,none⟩=some y) (c3:w.cell? ⟨b,3,none⟩=some (.int .i64 u.u)) :
  IsTks w (.slice (some ⟨b,0,none⟩) 2 2) [(x,t),(y,u)]:=by
 refine ⟨⟨some ⟨b,0,none⟩,2,rfl,by simp,by simp,.inr ⟨b,0,rfl,fun i hi k hk=>?_⟩⟩,fun z hz=>?_⟩
 ·simp only [List.map_cons,List.map_nil,List.length_cons,List.length_nil] at hi
  match i,hi with
  | 0,_ =>
   simp only [List.map_cons,List.map_nil,List.getElem_cons_zero,zlv,List.length_cons,List.length_nil] at hk ⊢
   match k,hk with
   | 0,_=>simpa using c0
   | 1,_=>simpa using c1
  | 1,_ =>
   simp only [List.map_cons,List.map_nil,List.getElem_cons_zero,List.getElem_cons_succ,zlv,List.length_cons,List.length_nil] at hk ⊢
   match k,hk with
   | 0,_=>simpa using c2
   | 1,_=>simpa using c3
 ·simp only [List.mem_cons,List.not_mem_nil,or_false] at hz
  rcases hz with rfl | rfl
  ·exact hs
  ·exact hu
set_option maxRecDepth 100000 in
set_option maxHeartbeats 2000000 in
theorem z3i (rs:List Nat) (t:Tk) (x:Value) (ra:Option Addr) (rcap:Nat) (w:World) (hr:IsInts w .i64 (.slice ra rs.length rcap) (natL rs)) (hx:IsInts w .i64 x (natL t.s)) (V:CardV rs) (VT:TksV rs [t]) :
  Calls Tryz.prog 23 #[.agg #[.slice ra rs.length rcap],.agg #[x,.int .i64 t.u]] w fun e w'=>e = .returned (.tuple #[.int .i64 (zbj t.s t.s.length:Nat),.int .i64 0])∧Ext w w':=by
 have HX:=Lib.hid hx
 have HR:=Lib.hid hr
 have HV:=Lib.hid V
 have HVT:=Lib.hid VT
 have hlen:=VT.len t (by simp)
 have hl5:t.s.length≤5:=by rw [hlen];exact V.hi
 have h64:∀ r,r < t.s.length→t.s.getD r 0 < 64:=fun r hr=>by
  have h1:=VT.each t (by simp) r (by rw [← hlen];exact hr)
  have h2:=zw8 (V.each r (by rw [← hlen];exact hr)).2
  omega
 have H64:=Lib.hid h64
 have HL5:=Lib.hid hl5
 obtain ⟨sa,sc,rfl,-,-,-⟩:=hx.spec
 obtain ⟨sn,hsn⟩:∃ sn,sn=(natL t.s).length:=⟨_,rfl⟩
 rw [← hsn] at HX ⊢
 obtain ⟨u,hu⟩:∃ u,u=t.u:=⟨_,rfl⟩
 rw [← hu]
 have HU:=Lib.hid hu
 clear hr hx V VT hlen hl5 h64 hsn hu
 go_enter Tryz.func23,Tryz.ntmps23
 go_upto_region 1 with (fail)
 obtain ⟨W0,hW0⟩:∃ W0,W0=(w.alloc (.cells #[.slice ra rs.length rcap] 30)).alloc (.cells #[.slice sa sn sc,.int .i64 u] 33):=⟨_,rfl⟩
 have hE:Ext w W0:=by rw [hW0];exact xx
 have k0:W0.cell? ⟨w.heap.size,0,none⟩=some (.slice ra rs.length rcap):=by rw [hW0];simp [go_sem]
 have k1:W0.cell? ⟨w.heap.size+1,0,none⟩=some (.slice sa sn sc):=by rw [hW0];simp [go_sem]
 have k2:W0.cell? ⟨w.heap.size+1,1,none⟩=some (.int .i64 u):=by rw [hW0];simp [go_sem]
 have hz1:w.heap.size+1 < W0.heap.size:=World.block_lt_of_cell? _ _ k1
 have hz0:w.heap.size < W0.heap.size:=by omega
 have HW:=Lib.hid hE
 replace HR:=Lib.hid (HR.out.ext hE)
 replace HX:=Lib.hid (HX.out.ext hE)
 rw [← hW0]
 clear hW0 hE
 go_wp2_with fail
 refine zwd (W0:=W0) (g:=⟨W0,Below.refl _ _⟩) xx (zts rs [(.slice sa sn sc,t)] ra (some ⟨W0.heap.size,0,none⟩) rcap 1 _ (HR.out.ext xx) (z7p (HX.out.ext xx) (by simp [go_sem]) (by rw [← HU.out];simp [go_sem])) HV.out HVT.out) (fun _ _ h=>by obtain ⟨_,_,h,_⟩:=h;exact h) fun _ g1 hgr hr=>?_
 obtain ⟨p,rfl,hE2,hp,hS⟩:=hr
 clear hgr
 clear hE2 hp hS
 go_wp2_with fail
 refine za0 (W0:=W0) (g:=g1) xx (z5n t.s _ _ (HX.out.ext xx) HL5.out H64.out) fun g2 hgr=>?_
 clear hgr
 go_wp2_with fail
 refine bodyPost_ret (v:=.tuple #[.int .i64 (zbj t.s t.s.length:Nat),.int .i64 0]) (by simp [results,Tryz.results23,go_sem]) rfl ?_
 exact ⟨rfl,HW.out.trans' (zu W0 _)⟩
set_option maxRecDepth 100000 in
set_option maxHeartbeats 1000000 in
theorem z5o (l:List Int) (v:Value) (x:Int) (w:World) (hv:IsInts w .i64 v l) :
  Calls Tryz.prog 24 #[v,.int .i64 x] w fun e w'=>e = .returned (.bool (decide (x∈l)))∧Ext w w':=by
 obtain ⟨sa,sc,rfl,hc1,hc2,hc⟩:=hv.spec
 have hlm:l.length≤9223372036854775807:=by omega
 have HC:=Lib.hid hc
 clear hc hv hc1 hc2
 go_enter Tryz.func24,Tryz.ntmps24
 go_wp2_with fail
 go_loopw [5] (fun iv W=>∃ k:Nat,k≤l.length∧iv = .int .i64 k∧(∀ y∈l.take k,y≠x)∧W=w) (fun iv _=>l.length - (intOf iv).toNat)
 case atStart=>exact ⟨0,by omega,rfl,by simp,rfl⟩
 case round =>
  obtain ⟨k,hk,rfl,hno,rfl⟩:=hrel
  have HN:=Lib.hid hno
  clear hno
  by_cases hlt:k < l.length
  ·have hki:(k:Int) < (l.length:Int):=by omega
   rcases HC.out with h0 | ⟨sb,so,rfl,hcc⟩
   ·rw [h0] at hlt;simp at hlt
   have c0:=hcc k hlt
   have hmem:l[k]∈l:=List.getElem_mem hlt
   have htk:l.take (k+1)=l.take k ++ [l[k]]:=by rw [List.take_add_one,List.getElem?_eq_getElem hlt];rfl
   obtain ⟨y,hy⟩:∃ y,y=l[k]:=⟨_,rfl⟩
   rw [← hy] at c0 hmem htk
   by_cases he:y=x
   ·have heb:(y == x)=true:=by rw [beq_iff_eq];exact he
    have HM:Hid (x∈l):=Lib.hid (by rw [← he];exact hmem)
    clear hcc hy he hmem htk
    go_wp2_with fail
    go_ret
    exact ⟨zan (by rw [decide_eq_true HM.out]),Below.refl _ _⟩
   ·have heb:(y == x)=false:=by rw [beq_eq_false_iff_ne];exact he
    have HN2:Hid (∀ z∈l.take (k+1),z≠x):=Lib.hid fun z hz=>by
     rw [htk] at hz
     rcases List.mem_append.1 hz with hz | hz
     ·exact HN.out z hz
     ·simp only [List.mem_singleton] at hz
      rw [hz];exact he
    clear hcc hy he hmem htk
    go_wp2_with fail
    go_roundw
    case rel=>exact ⟨k+1,by omega,by go_num,HN2.out,trivial⟩
    case measure=>simp [intOf];omega
  ·have hki:¬ ((k:Int) < (l.length:Int)):=by omega
   have HF:Hid (¬ x∈l):=Lib.hid fun hx=>by
    have h:=HN.out x (by rw [List.take_of_length_le (by omega)];exact hx)
    exact h rfl
   go_wp2_with fail
   go_ret
   exact ⟨zan (by rw [decide_eq_false HF.out]),Below.refl _ _⟩
end Go.Proofs.YtkfifbopmpcanaaGreat
namespace Go.Proofs.YtkfifbopmpcanaaGreat
open Go.ChangeShapes Go.WideShapes Go.ChangeAt Go.RowKit
def zom (x:Value × Rc):List Value:=[.int .i64 x.2.n,x.1]
structure IsRcs (w:World) (v:Value) (l:List (Value × Rc)):Prop where
 rows:IsRows w 2 v (l.map zom)
 ws:∀ x∈l,IsWds w x.1 x.2.ws
theorem IsRcs.ext {w w':World} (e:Ext w w') {v:Value} {l:List (Value × Rc)} (h:IsRcs w v l):IsRcs w' v l:=⟨IsRows.ext e h.rows,fun x hx=>(h.ws x hx).ext e⟩
theorem IsRcs.spec {w:World} {v:Value} {l:List (Value × Rc)} (h:IsRcs w v l) :
  ∃ sa cap,v = .slice sa l.length cap∧l.length≤cap∧cap≤9223372036854775807∧(l=[]∨∃ b off,sa=some ⟨b,off,none⟩∧∀ i,(h:i < l.length) →
   w.cell? ⟨b,off+i * 2,none⟩=some (.int .i64 l[i].2.n)∧w.cell? ⟨b,off+i * 2+1,none⟩=some l[i].1):=by
 obtain ⟨sa,cap,h1,h2,h3,h4⟩:=h.rows
 refine ⟨sa,cap,by simpa using h1,by simpa using h2,h3,?_⟩
 rcases h4 with h4 | ⟨b,off,e,h4⟩
 ·exact .inl (by simpa using h4)
 ·refine .inr ⟨b,off,e,fun i hi=>?_⟩
  have c0:=h4 i (by simpa using hi) 0 (by simp [zom])
  have c1:=h4 i (by simpa using hi) 1 (by simp [zom])
  simp [zom] at c0 c1
  exact ⟨c0,c1⟩
section
variable {H:Type} {enc:TypeId × Value→H} {W:World} {sp:Nat→Bool} {held:Bool} {base b0:Nat} {r:Reach}
theorem array3 {α:Type} {cs:Array α} (h:cs.size=3):∃ c0 c1 c2,cs = #[c0,c1,c2]:=by
 obtain ⟨l⟩:=cs
 match l,h with
 | [c0,c1,c2],_=>exact ⟨c0,c1,c2,rfl⟩
set_option maxRecDepth 100000 in
theorem z5p {n:Nat} {v:Value} {y:DataW H × List MemPlace} (h:DataW.trod enc Tryz.prog W base sp held n 63 [v]=some y):∃ l:List Wd,IsWds W v l:=by
 have c1:Tryz.prog.cellsOf 3=1:=by kernel_rfl
 obtain ⟨rows,hr,hx⟩:=zpq Tryz.underlying63 (sz:=3) (by kernel_rfl) (by omega) h
 obtain ⟨l,rfl⟩:=zpr zoh rows fun row hrow=>by
  obtain ⟨hl,m,y',ht⟩:=hx row hrow
  match row,hl with
  | [v0,v1,v2],_ =>
   obtain ⟨y0,y1,y2,n,_,_,h0,h1,h2⟩:=Go.Deep.trod_struct3 Tryz.underlying117 ht
   have g0:DataW.trod enc Tryz.prog W base sp held n 3 [v0]=some y0:=by simpa [c1] using h0
   have g1:DataW.trod enc Tryz.prog W base sp held n 3 [v1]=some y1:=by simpa [c1] using h1
   have g2:DataW.trod enc Tryz.prog W base sp held n 3 [v2]=some y2:=by simpa [c1] using h2
   obtain ⟨f,hf,_⟩:=DataW.trod_int Tryz.underlying3 g0
   obtain ⟨s,hs,_⟩:=DataW.trod_int Tryz.underlying3 g1
   obtain ⟨u,hu,_⟩:=DataW.trod_int Tryz.underlying3 g2
   cases hf;cases hs;cases hu
   exact ⟨(f,s,u),rfl⟩
 exact ⟨l,hr⟩
set_option maxRecDepth 100000 in
theorem znn {n:Nat} {v:Value} {y:DataW H × List MemPlace} (h:DataW.trod enc Tryz.prog W base sp held n 61 [v]=some y):∃ l:List Int,IsInts W .u8 v l:=by
 obtain ⟨rows,hr,hx⟩:=zpq Tryz.underlying61 (sz:=1) (by kernel_rfl) (by omega) h
 obtain ⟨l,rfl⟩:=zpr (fun n=>[Value.int .u8 n]) rows fun row hrow=>by
  obtain ⟨hl,m,y',ht⟩:=hx row hrow
  obtain ⟨x,rfl,_,_⟩:=DataW.trod_int Tryz.underlying5 ht
  exact ⟨x,rfl⟩
 exact ⟨l,hr⟩
set_option maxRecDepth 100000 in
theorem z5q {n:Nat} {row:List Value} {y:DataW H × List MemPlace} (hl:row.length=2) (h:DataW.trod enc Tryz.prog W base sp held n 65 row=some y):∃ x:Value × Rc,row=zom x∧IsWds W x.1 x.2.ws:=by
 have c1:Tryz.prog.cellsOf 3=1:=by kernel_rfl
 have c2:Tryz.prog.cellsOf 63=1:=by kernel_rfl
 match row,hl with
 | [v0,v1],_ =>
  obtain ⟨y0,y1,n,_,_,h0,h1⟩:=trod_struct2 Tryz.underlying65 h
  have g0:DataW.trod enc Tryz.prog W base sp held n 3 [v0]=some y0:=by simpa [c1] using h0
  have g1:DataW.trod enc Tryz.prog W base sp held n 63 [v1]=some y1:=by simpa [c2] using h1
  obtain ⟨nn,e0,_⟩:=DataW.trod_int Tryz.underlying3 g0
  obtain ⟨ws,hw⟩:=z5p g1
  cases e0
  exact ⟨(v1,⟨nn,ws⟩),rfl,hw⟩
set_option maxRecDepth 100000 in
theorem z3j {v:Value} {d:DataW H} {p:List MemPlace} (hv:Value.okWide Tryz.prog W r b0 59 v) (h:DataW.Trod enc Tryz.prog W base sp held 59 v d p):∃ l:List (Value × Rc),IsRcs W v l:=by
 obtain ⟨a0,len,cap,rfl⟩:=okWide_slice Tryz.underlying59 hv
 obtain ⟨n,hn⟩:=h
 obtain ⟨rows,hr,hx⟩:=zpq (n:=n) (y:=(d,p)) Tryz.underlying59 (sz:=2) (by kernel_rfl) (by omega) (by simpa [Value.cells] using hn)
 have key:∀ rs:List (List Value),(∀ row∈rs,row.length=2∧∃ m y',DataW.trod enc Tryz.prog W base sp held m 65 row=some y')→∃ l:List (Value × Rc),rs=l.map zom∧∀ x∈l,IsWds W x.1 x.2.ws:=by
  intro rs
  induction rs with
  | nil=>exact fun _=>⟨[],rfl,by simp⟩
  | cons row rs ih =>
   intro hh
   obtain ⟨l,rfl,hl⟩:=ih fun r hr=>hh r (by simp [hr])
   obtain ⟨hlen,m,y',ht⟩:=hh row (by simp)
   obtain ⟨x,rfl,hx⟩:=z5q hlen ht
   exact ⟨x :: l,rfl,fun y hy=>by rcases List.mem_cons.1 hy with rfl | hy;exact hx;exact hl y hy⟩
 obtain ⟨l,rfl,hl⟩:=key rows hx
 exact ⟨l,hr,hl⟩
set_option maxRecDepth 100000 in
theorem z07 {v:Value} {d:DataW H} {p:List MemPlace} (hv:Value.okWide Tryz.prog W r b0 60 v) (h:DataW.Trod enc Tryz.prog W base sp held 60 v d p) :
  ∃ a b c:Int,v = .agg #[.int .u8 a,.int .u8 b,.int .u8 c]∧(Lit.int .u8 a).wf=true∧(Lit.int .u8 b).wf=true∧(Lit.int .u8 c).wf=true:=by
 have hu:=Tryz.underlying60
 have hc:Tryz.prog.cellsOf 5=1:=by kernel_rfl
 have hc2:Tryz.prog.cellsOf 60=3:=by kernel_rfl
 obtain ⟨cs,rfl,hsz⟩:∃ cs,v = .agg cs∧cs.size=Tryz.prog.cellsOf 60:=by
  simp only [Value.okWide,hu] at hv
  obtain ⟨cs,h1,h2,_⟩:=hv
  exact ⟨cs,h1,h2⟩
 obtain ⟨c0,c1,c2,rfl⟩:=array3 (hsz.trans hc2)
 obtain ⟨fuel,hf⟩:=h
 obtain ⟨xs,m,_,_,_,hl,hel⟩:=DataW.trod_array hu hf
 have h0:=hel 0 (by omega)
 have h1:=hel 1 (by omega)
 have h2:=hel 2 (by omega)
 simp [hc,Value.cells] at h0 h1 h2
 obtain ⟨x0,e0⟩:∃ x,xs[0]? = some x:=⟨xs[0]'(by omega),List.getElem?_eq_getElem _⟩
 obtain ⟨x1,e1⟩:∃ x,xs[1]? = some x:=⟨xs[1]'(by omega),List.getElem?_eq_getElem _⟩
 obtain ⟨x2,e2⟩:∃ x,xs[2]? = some x:=⟨xs[2]'(by omega),List.getElem?_eq_getElem _⟩
 rw [e0] at h0
 rw [e1] at h1
 rw [e2] at h2
 obtain ⟨a,ea,_,wa⟩:=DataW.trod_int Tryz.underlying5 h0
 obtain ⟨b,eb,_,wb⟩:=DataW.trod_int Tryz.underlying5 h1
 obtain ⟨c,ec,_,wc⟩:=DataW.trod_int Tryz.underlying5 h2
 cases ea;cases eb;cases ec
 exact ⟨a,b,c,rfl,wa,wb,wc⟩
set_option maxRecDepth 100000 in
theorem z08 {v:Value} {d:DataW H} {p:List MemPlace} (hv:Value.okWide Tryz.prog W r b0 62 v) (h:DataW.Trod enc Tryz.prog W base sp held 62 v d p) :
  ∃ (va vb vc:Value) (a b c:List Int),v = .agg #[va,vb,vc]∧IsInts W .u8 va a∧IsInts W .u8 vb b∧IsInts W .u8 vc c:=by
 have hu:=Tryz.underlying62
 have hc:Tryz.prog.cellsOf 61=1:=by kernel_rfl
 have hc2:Tryz.prog.cellsOf 62=3:=by kernel_rfl
 obtain ⟨cs,rfl,hsz⟩:∃ cs,v = .agg cs∧cs.size=Tryz.prog.cellsOf 62:=by
  simp only [Value.okWide,hu] at hv
  obtain ⟨cs,h1,h2,_⟩:=hv
  exact ⟨cs,h1,h2⟩
 obtain ⟨c0,c1,c2,rfl⟩:=array3 (hsz.trans hc2)
 obtain ⟨fuel,hf⟩:=h
 obtain ⟨xs,m,_,_,_,hl,hel⟩:=DataW.trod_array hu hf
 have h0:=hel 0 (by omega)
 have h1:=hel 1 (by omega)
 have h2:=hel 2 (by omega)
 simp [hc,Value.cells] at h0 h1 h2
 obtain ⟨x0,e0⟩:∃ x,xs[0]? = some x:=⟨xs[0]'(by omega),List.getElem?_eq_getElem _⟩
 obtain ⟨x1,e1⟩:∃ x,xs[1]? = some x:=⟨xs[1]'(by omega),List.getElem?_eq_getElem _⟩
 obtain ⟨x2,e2⟩:∃ x,xs[2]? = some x:=⟨xs[2]'(by omega),List.getElem?_eq_getElem _⟩
 rw [e0] at h0
 rw [e1] at h1
 rw [e2] at h2
 obtain ⟨a,ea⟩:=znn h0
 obtain ⟨b,eb⟩:=znn h1
 obtain ⟨c,ec⟩:=znn h2
 exact ⟨c0,c1,c2,a,b,c,rfl,ea,eb,ec⟩
end
end Go.Proofs.YtkfifbopmpcanaaGreat
namespace Go.Proofs.YtkfifbopmpcanaaGreat
open Go.RowKit Go.Shelf
structure TriJ (W0:World) (Q:Nat) (W:World) (c t f:Value) (ns os fs:List Nat):Prop where
 lo:W0.heap.size=Q+5
 hc:W.heap[Q+2]? = some (.cells #[c] 30 (0,0))
 ht:W.heap[Q+3]? = some (.cells #[t,.int .i64 1] 33 (0,0))
 hf:W.heap[Q+4]? = some (.cells #[f,.int .i64 1] 33 (0,0))
 oc:Owns W (Q+5) 3 1 c ((natL ns).map iRow)
 ot:Owns W (Q+5) 3 1 t ((natL os).map iRow)
 of:Owns W (Q+5) 3 1 f ((natL fs).map iRow)
 d1:∀ g,c.ownBlock=some g→t.ownBlock≠some g∧f.ownBlock≠some g
 d2:∀ g,t.ownBlock=some g→f.ownBlock≠some g
 k:Kept (fun k=>k < Q+5∧k≠Q+2∧k≠Q+3∧k≠Q+4) W0 W
section
variable {W0:World} {Q:Nat} {W:World} {c t f:Value} {ns os fs:List Nat} (h:TriJ W0 Q W c t f ns os fs)
include h
theorem TriJ.lt:Q+4 < W.heap.size:=(Array.getElem?_eq_some_iff.1 h.hf).1
theorem TriJ.size:Q+5≤W.heap.size:=by have:=h.lt;omega
theorem TriJ.ext {W':World} (e:Ext W W'):TriJ W0 Q W' c t f ns os fs :=
 ⟨h.lo,(e.block _ (by have:=h.lt;omega)).trans h.hc,(e.block _ (by have:=h.lt;omega)).trans h.ht,(e.block _ h.lt).trans h.hf,h.oc.ext e,h.ot.ext e,h.of.ext e,h.d1,h.d2,h.k.trans (Kept.of_below e)⟩
theorem TriJ.kept {W':World} {S:Nat→Prop} (k:Kept S W W') (h2:S (Q+2)) (h3:S (Q+3)) (h4:S (Q+4)) (hl:∀ j,j < Q+5→S j) (c1:∀ g,c.ownBlock=some g→S g) (c2:∀ g,t.ownBlock=some g→S g) (c3:∀ g,f.ownBlock=some g→S g):TriJ W0 Q W' c t f ns os fs :=
 ⟨h.lo,(k.same _ (by have:=h.lt;omega) h2).trans h.hc,(k.same _ (by have:=h.lt;omega) h3).trans h.ht,(k.same _ h.lt h4).trans h.hf,h.oc.keptAt k (fun g _ _ e _=>c1 g e),h.ot.keptAt k (fun g _ _ e _=>c2 g e),h.of.keptAt k (fun g _ _ e _=>c3 g e),h.d1,h.d2,h.k.trans (k.mono fun j _ hj=>hl j hj.1)⟩
theorem TriJ.cc:W.cell? ⟨Q+2,0,none⟩=some c:=by rw [cell_of_row _ _ _ _ _ _ h.hc];rfl
theorem TriJ.ct:W.cell? ⟨Q+3,0,none⟩=some t:=by rw [cell_of_row _ _ _ _ _ _ h.ht];rfl
theorem TriJ.cu:W.cell? ⟨Q+3,1,none⟩=some (.int .i64 1):=by rw [cell_of_row _ _ _ _ _ _ h.ht];rfl
theorem TriJ.cf:W.cell? ⟨Q+4,0,none⟩=some f:=by rw [cell_of_row _ _ _ _ _ _ h.hf];rfl
theorem TriJ.cv:W.cell? ⟨Q+4,1,none⟩=some (.int .i64 1):=by rw [cell_of_row _ _ _ _ _ _ h.hf];rfl
theorem TriJ.fc (o:Nat):W.frozen? ⟨Q+2,o,none⟩=false:=by simp [World.frozen?,h.hc]
theorem TriJ.ft (o:Nat):W.frozen? ⟨Q+3,o,none⟩=false:=by simp [World.frozen?,h.ht]
theorem TriJ.ff (o:Nat):W.frozen? ⟨Q+4,o,none⟩=false:=by simp [World.frozen?,h.hf]
theorem TriJ.low {b:Nat} (hb:b < Q+2) {o:Nat} {v:Value} (hc:W0.cell? ⟨b,o,none⟩=some v):W.cell? ⟨b,o,none⟩=some v:=h.k.cell hc ⟨by simp only;omega,by simp only;omega,by simp only;omega,by simp only;omega⟩
theorem TriJ.ints {K:IntKind} {v:Value} {l:List Int} {w:World} (hw:w.heap.size=Q) (e:Ext w W0) (hv:IsInts w K v l):IsInts W K v l:=by
 have e2:Ext w W:=e.trans (Kept.below (h.k.mono (T:=fun k=>k < w.heap.size) fun k _ hk=>by omega) e.size)
 exact hv.ext e2
theorem TriJ.up {w:World} (hw:w.heap.size=Q) (e:Ext w W0):Ext w W :=
 e.trans (Kept.below (h.k.mono (T:=fun k=>k < w.heap.size) fun k _ hk=>by omega) e.size)
theorem TriJ.putC {W':World} {c':Value} {n:Nat} (ho:Owns W' (Q+5) 3 1 c' ((natL ns).map iRow ++ [[.int .i64 (n:Int)]])) (k:Kept (fun k=>some k≠c.ownBlock) W W') (hg:∀ g,c'.ownBlock=some g→c.ownBlock=some g∨W.heap.size≤g) :
  TriJ W0 Q (W'.setCell ⟨Q+2,0,none⟩ c') c' t f (ns ++ [n]) os fs:=by
 have hlow:∀ j,j < Q+5→some j≠c.ownBlock:=fun j hj e=>by have:=(h.oc.notOwn j e.symm).1;omega
 have hlt:=h.lt
 have htc:∀ g,t.ownBlock=some g→some g≠c.ownBlock:=fun g hg e=>(h.d1 g e.symm).1 hg
 have hfc:∀ g,f.ownBlock=some g→some g≠c.ownBlock:=fun g hg e=>(h.d1 g e.symm).2 hg
 have h1:∀ {b:Nat} {o:Obj},b < Q+5→b≠Q+2→W.heap[b]? = some o→(W'.setCell ⟨Q+2,0,none⟩ c').heap[b]? = some o:=fun hb hne ho=>by
  rw [Below.heap_setCell _ _ _ _ hne]
  exact (k.same _ (Array.getElem?_eq_some_iff.1 ho).1 (hlow _ hb)).trans ho
 have hk2:Kept (fun k=>k≠Q+2) W' (W'.setCell ⟨Q+2,0,none⟩ c'):=(Kept.refl _ W').setCell (fun _ h=>h rfl) _
 have hrow:=zab ((k.same _ (by omega) (hlow _ (by omega))).trans h.hc) 0 c'
 refine ⟨h.lo,by simpa using hrow,h1 (by omega) (by omega) h.ht,h1 (by omega) (by omega) h.hf,?_,?_,?_,fun g hg1=>⟨fun h2=>?_,fun h2=>?_⟩,h.d2,?_⟩
 ·have e:(natL (ns ++ [n])).map iRow=(natL ns).map iRow ++ [[.int .i64 (n:Int)]]:=by simp [natL,iRow]
  rw [e]
  exact ho.keptAt hk2 (fun g _ h1 _ _=>by omega)
 ·exact (h.ot.keptAt k (fun g _ _ e _=>htc g e)).keptAt hk2 (fun g _ h1 _ _=>by omega)
 ·exact (h.of.keptAt k (fun g _ _ e _=>hfc g e)).keptAt hk2 (fun g _ h1 _ _=>by omega)
 ·rcases hg g hg1 with h3 | h3
  ·exact (h.d1 g h3).1 h2
  ·have:=(h.ot.notOwn g h2).2;omega
 ·rcases hg g hg1 with h3 | h3
  ·exact (h.d1 g h3).2 h2
  ·have:=(h.of.notOwn g h2).2;omega
 ·exact (h.k.trans (k.mono fun j _ hj=>hlow j hj.1)).trans (hk2.mono fun j _ hj=>hj.2.1)
theorem TriJ.putTF {W':World} {t' f':Value} {a b:Nat} (ht:Owns W' (Q+5) 3 1 t' ((natL os).map iRow ++ [[.int .i64 (a:Int)]])) (hf:Owns W' (Q+5) 3 1 f' ((natL fs).map iRow ++ [[.int .i64 (b:Int)]]))
  (k:Kept (fun k=>some k≠t.ownBlock∧some k≠f.ownBlock) W W') (gt:∀ g,t'.ownBlock=some g→t.ownBlock=some g∨W.heap.size≤g) (gf:∀ g,f'.ownBlock=some g→f.ownBlock=some g∨W.heap.size≤g) (hd:∀ g,t'.ownBlock=some g→f'.ownBlock≠some g) :
  TriJ W0 Q ((W'.setCell ⟨Q+3,0,none⟩ t').setCell ⟨Q+4,0,none⟩ f') c t' f' ns (os ++ [a]) (fs ++ [b]):=by
 have hlow:∀ j,j < Q+5→some j≠t.ownBlock∧some j≠f.ownBlock:=fun j hj=>⟨fun e=>by have:=(h.ot.notOwn j e.symm).1;omega,fun e=>by have:=(h.of.notOwn j e.symm).1;omega⟩
 have hlt:=h.lt
 have hcc:∀ g,c.ownBlock=some g→some g≠t.ownBlock∧some g≠f.ownBlock:=fun g hg=>⟨fun e=>(h.d1 g hg).1 e.symm,fun e=>(h.d1 g hg).2 e.symm⟩
 have hk2:Kept (fun k=>k≠Q+3∧k≠Q+4) W' ((W'.setCell ⟨Q+3,0,none⟩ t').setCell ⟨Q+4,0,none⟩ f'):=((Kept.refl _ W').setCell (fun _ h=>h.1 rfl) _).setCell (fun _ h=>h.2 rfl) _
 have r3:=zab ((k.same _ (by omega) (hlow _ (by omega))).trans h.ht) 0 t'
 have r4:=zab ((k.same _ hlt (hlow _ (by omega))).trans h.hf) 0 f'
 have r4':(W'.setCell ⟨Q+3,0,none⟩ t').heap[Q+4]? = W'.heap[Q+4]?:=Below.heap_setCell _ _ _ _ (by simp only;omega)
 have q4:=zab (W:=W'.setCell ⟨Q+3,0,none⟩ t') (r4'.trans ((k.same _ hlt (hlow _ (by omega))).trans h.hf)) 0 f'
 have q3:((W'.setCell ⟨Q+3,0,none⟩ t').setCell ⟨Q+4,0,none⟩ f').heap[Q+3]? = (W'.setCell ⟨Q+3,0,none⟩ t').heap[Q+3]?:=Below.heap_setCell _ _ _ _ (by simp only;omega)
 have et:(natL (os ++ [a])).map iRow=(natL os).map iRow ++ [[.int .i64 (a:Int)]]:=by simp [natL,iRow]
 have ef:(natL (fs ++ [b])).map iRow=(natL fs).map iRow ++ [[.int .i64 (b:Int)]]:=by simp [natL,iRow]
 refine ⟨h.lo,?_,by simpa using q3.trans r3,by simpa using q4,?_,?_,?_,fun g hg=>⟨fun h2=>?_,fun h2=>?_⟩,hd,?_⟩
 ·exact (hk2.same _ (by have:=k.size;omega) ⟨by omega,by omega⟩).trans ((k.same _ (by omega) (hlow _ (by omega))).trans h.hc)
 ·exact (h.oc.keptAt k (fun g _ _ e _=>hcc g e)).keptAt hk2 (fun g _ h1 _ _=>⟨by omega,by omega⟩)
 ·rw [et]
  exact ht.keptAt hk2 (fun g _ h1 _ _=>⟨by omega,by omega⟩)
 ·rw [ef]
  exact hf.keptAt hk2 (fun g _ h1 _ _=>⟨by omega,by omega⟩)
 ·rcases gt g h2 with h3 | h3
  ·exact (h.d1 g hg).1 h3
  ·have:=(h.oc.notOwn g hg).2;omega
 ·rcases gf g h2 with h3 | h3
  ·exact (h.d1 g hg).2 h3
  ·have:=(h.oc.notOwn g hg).2;omega
 ·exact (h.k.trans (k.mono fun j _ hj=>hlow j hj.1)).trans (hk2.mono fun j _ hj=>⟨hj.2.2.1,hj.2.2.2⟩)
end
def rcJ (l:List (Value × Rc)) (j:Nat):Rc:=(l.map (·.2)).getD j ⟨0,[]⟩
def nJ (l:List (Value × Rc)) (j:Nat):Nat:=(rcJ l j).n.toNat
def fJ (l:List (Value × Rc)) (j:Nat):Nat:=zeh (rcJ l j) (nJ l j)
def oJ (l:List (Value × Rc)) (S:Nat→Int) (j:Nat):Nat:=ownJ (S j) (nJ l j)
theorem z8q {l:List (Value × Rc)} {j:Nat} (h:j < l.length):rcJ l j=l[j].2:=by
 unfold rcJ
 rw [List.getD_eq_getElem?_getD,List.getElem?_map,List.getElem?_eq_getElem h]
 rfl
structure OkJ (l:List (Value × Rc)) (j:Nat):Prop where
 n:(rcJ l j).n=(nJ l j:Int)
 lo:2≤nJ l j
 hi:nJ l j≤5
 agr:zbc (rcJ l j)=0
def hasJ (l:List (Value × Rc)) (S:Nat→Int) (k:Nat):Bool:=(List.range k).all fun j=>(oJ l S j &&& fJ l j) == fJ l j
theorem ztu (l:List (Value × Rc)) (S:Nat→Int) (k:Nat):hasJ l S (k+1)=(hasJ l S k && ((oJ l S k &&& fJ l k) == fJ l k)):=by
 unfold hasJ
 rw [List.range_succ,List.all_append]
 simp
theorem za9 (g:Nat→Nat) (k:Nat):(List.range (k+1)).map g=(List.range k).map g ++ [g k]:=by
 rw [List.range_succ,List.map_append];rfl
theorem zdd (g:Nat→Nat) {k j:Nat} (h:j < k):((List.range k).map g).getD j 0=g j:=by
 rw [List.getD_eq_getElem?_getD,List.getElem?_map,List.getElem?_range h];rfl
section
variable {l:List (Value × Rc)} {S:Nat→Int} {k:Nat} (ok:∀ j,j < k→OkJ l j)
include ok
theorem z86 (hk:1≤k∧k≤3):CardV ((List.range k).map (nJ l)) :=
 ⟨by simpa using hk.1,by simp;omega,fun r hr=>by
  have hr':r < k:=by simpa using hr
  rw [zdd _ hr']
  have h1:=(ok r hr').lo
  have h2:=(ok r hr').hi
  omega⟩
theorem tksJ:TksV ((List.range k).map (nJ l)) [⟨(List.range k).map (oJ l S),1⟩,⟨(List.range k).map (fJ l),1⟩]:=by
 have hf:∀ r,r < k→1≤fJ l r∧fJ l r≤2 ^ nJ l r - 1:=fun r hr=>by
  obtain ⟨b,h1,h2⟩:=znk (ok r hr).n (by have:=(ok r hr).lo;omega) (ok r hr).agr
  have h3:=z46 (rcJ l r) (nJ l r)
  have h4:0 < fJ l r:=z42 (by exact h1) (by
   have h5:=h2
   unfold zeh at h5
   rw [zfs,Bool.and_eq_true] at h5
   exact h5.2)
  exact ⟨h4,by unfold fJ;omega⟩
 refine ⟨by simp,fun t ht=>?_,fun t ht r hr=>?_,fun t ht=>?_⟩
 ·simp only [List.mem_cons,List.not_mem_nil,or_false] at ht
  rcases ht with rfl | rfl<;>simp
 ·have hr':r < k:=by simpa using hr
  rw [zdd _ hr']
  simp only [List.mem_cons,List.not_mem_nil,or_false] at ht
  rcases ht with rfl | rfl
  ·simp only
   rw [zdd _ hr']
   exact zw3 _ (by have:=(ok r hr').lo;omega)
  ·simp only
   rw [zdd _ hr']
   exact hf r hr'
 ·simp only [List.mem_cons,List.not_mem_nil,or_false] at ht
  rcases ht with rfl | rfl<;>simp
theorem z8r:decide ((1:Int)∈natL (idleB [(List.range k).map (oJ l S),(List.range k).map (fJ l)] [1,1] (zbd ((List.range k).map (nJ l)) [(List.range k).map (oJ l S),(List.range k).map (fJ l)])))=hasJ l S k:=by
 have hb:∀ r,r < ((List.range k).map (nJ l)).length→∃ b,b < ((List.range k).map (nJ l)).getD r 0∧(((List.range k).map (fJ l)).getD r 0).testBit b=true:=fun r hr=>by
  have hr':r < k:=by simpa using hr
  rw [zdd _ hr',zdd _ hr']
  exact znk (ok r hr').n (by have:=(ok r hr').lo;omega) (ok r hr').agr
 have hbn:∀ r,r < ((List.range k).map (nJ l)).length→∀ b,(((List.range k).map (fJ l)).getD r 0).testBit b=true→b < ((List.range k).map (nJ l)).getD r 0:=fun r hr b h=>by
  have hr':r < k:=by simpa using hr
  rw [zdd _ hr'] at h ⊢
  exact z3a h
 have h:=z8k (a:=(List.range k).map (oJ l S)) hb hbn
 rw [Bool.eq_iff_iff,decide_eq_true_eq]
 have e:(1:Int)∈natL (idleB [(List.range k).map (oJ l S),(List.range k).map (fJ l)] [1,1] (zbd ((List.range k).map (nJ l)) [(List.range k).map (oJ l S),(List.range k).map (fJ l)]))↔1∈idleB [(List.range k).map (oJ l S),(List.range k).map (fJ l)] [1,1] (zbd ((List.range k).map (nJ l)) [(List.range k).map (oJ l S),(List.range k).map (fJ l)]):=by
  unfold natL
  rw [List.mem_map]
  constructor
  ·rintro ⟨x,hx,e⟩
   have:x=1:=by omega
   rw [this] at hx
   exact hx
  ·intro hx
   exact ⟨1,hx,rfl⟩
 rw [e,h]
 unfold hasJ
 rw [List.all_eq_true]
 constructor
 ·intro hall j hj
  have hj':=List.mem_range.1 hj
  have h1:=hall j (by simpa using hj')
  rw [zdd _ hj',zdd _ hj'] at h1
  rw [beq_iff_eq]
  exact sub_land.2 h1
 ·intro hall r hr
  have hr':r < k:=by simpa using hr
  have h1:=hall r (List.mem_range.2 hr')
  rw [beq_iff_eq] at h1
  rw [zdd _ hr',zdd _ hr']
  exact sub_land.1 h1
theorem z87:1≤zbj ((List.range k).map (fJ l)) k:=by
 refine zrr fun r hr=>?_
 rw [zdd _ hr]
 obtain ⟨b,h1,h2⟩:=znk (ok r hr).n (by have:=(ok r hr).lo;omega) (ok r hr).agr
 exact z43 (r:=b) (by have:=(ok r hr).hi;omega) h2
end
end Go.Proofs.YtkfifbopmpcanaaGreat
