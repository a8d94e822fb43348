/-
  The walks of areBoxes, CheckTickets and open of the boxes, where all is valid.
-/
import Derived.Test.YtkbaiobnibmmgaaGreatXa
import Derived.Test.YtkbaiobnibmmgaaGreatBb
namespace Go.Proofs.YtkbaiobnibmmgaaGreat
open Go.RowKit Go.Shelf
attribute [local go_sem] Oper.semAt_some
theorem zn4 {α:Type} (l:List α):l.any (fun _=>false)=false:=by
 induction l with
 | nil=>rfl
 | cons a l ih=>simp
set_option maxRecDepth 100000 in
set_option maxHeartbeats 1000000 in
theorem z1e (t:Tk) (x:Value) (rs:List Nat) (ra:Option Addr) (rcap p:Nat) (w:World) (hx:IsInts w .i64 x (natL t.s)) (hc:w.cell? ⟨p,0,none⟩=some (.slice ra rs.length rcap)) (hl:t.s.length=rs.length) :
  Calls Tryz.prog 192 #[.agg #[x,.int .i64 t.u],.pointer (some ⟨p,0,none⟩)] w fun e w'=>e = .returned (.bool false)∧Ext w w':=by
 obtain ⟨sa,cap,rfl,-,-,-⟩:=hx.spec
 rw [zb2,hl]
 have hz:=World.block_lt_of_cell? _ _ hc
 simp only at hz
 clear hx hl
 go_enter Tryz.func192,Tryz.ntmps192
 go_wp2_with fail
 go_ret
 exact ⟨zac (by simp),by exact xx⟩
set_option maxRecDepth 100000 in
set_option maxHeartbeats 4000000 in
theorem z5x (t:Tk) (x:Value) (rs:List Nat) (ra:Option Addr) (rcap p:Nat) (w:World) (hx:IsInts w .i64 x (natL t.s)) (hc:w.cell? ⟨p,0,none⟩=some (.slice ra rs.length rcap)) (hr:IsInts w .i64 (.slice ra rs.length rcap) (natL rs)) (V:CardV rs) (hl:t.s.length=rs.length)
  (hs:∀ r,r < rs.length→1≤t.s.getD r 0∧t.s.getD r 0≤2 ^ rs.getD r 0 - 1) :
  Calls Tryz.prog 193 #[.agg #[x,.int .i64 t.u],.pointer (some ⟨p,0,none⟩)] w fun e w'=>e = .returned (.bool false)∧Ext w w':=by
 have HX0:=Lib.hid hx
 obtain ⟨sa,sc,rfl,-,-,-⟩:=hx.spec
 have hl2:=hl
 rw [zb2,hl]
 have HX:Hid (IsInts w .i64 (.slice sa rs.length sc) (natL t.s)):=Lib.hid (by have:=HX0.out;rw [zb2,hl] at this;exact this)
 have HL:=Lib.hid hl
 have HS:=Lib.hid hs
 have HR:=Lib.hid hr
 have HV:=Lib.hid V
 have hn5:=V.hi
 have hz:=World.block_lt_of_cell? _ _ hc
 simp only at hz
 clear hx hl hl2 HX0 hs hr V
 go_enter Tryz.func193,Tryz.ntmps193
 go_upto_region 1 with (fail)
 obtain ⟨W0,hW0⟩:∃ W0,W0=w.alloc (.cells #[.slice sa rs.length sc,.int .i64 t.u] 33):=⟨_,rfl⟩
 have hE:Ext w W0:=by rw [hW0];exact xx
 have k0:W0.cell? ⟨w.heap.size,0,none⟩=some (.slice sa rs.length sc):=by rw [hW0];simp [go_sem]
 have hz0:w.heap.size < W0.heap.size:=World.block_lt_of_cell? _ _ k0
 have kc:=zb hE hc
 have hzc:p < W0.heap.size:=by omega
 have HE:=Lib.hid hE
 rw [← hW0]
 clear hW0 hE hc hz
 go_wp2_with fail
 go_loopw [9] (fun iv W=>∃ i:Nat,i≤rs.length∧iv = .int .i64 i∧Ext W0 W) (fun iv _=>rs.length - (intOf iv).toNat)
 case atStart=>exact ⟨0,by omega,rfl,Below.refl _ _⟩
 case round =>
  obtain ⟨i,hi,rfl,hEX⟩:=hrel
  obtain ⟨X,rfl⟩:∃ X,X=wr:=⟨_,rfl⟩
  have HEX:=Lib.hid hEX
  by_cases hlt:i < rs.length
  ·have hii:(i:Int) < (rs.length:Int):=by omega
   obtain ⟨rb,ro,rfl,hcr⟩:=zcu HR.out hlt
   obtain ⟨sb,so,rfl,hcs⟩:=zcu HX.out (show i < t.s.length by rw [HL.out];exact hlt)
   have cr:=hcr i hlt X (HE.out.trans' hEX)
   have cs:=hcs i (by rw [HL.out];exact hlt) X (HE.out.trans' hEX)
   have ck:=zb hEX k0
   have zr:=World.block_lt_of_cell? _ _ cr
   have zs:=World.block_lt_of_cell? _ _ cs
   have zk:=World.block_lt_of_cell? _ _ ck
   simp only at zr zs zk
   have hb:=HV.out.each i hlt
   have hsi:=HS.out i hlt
   obtain ⟨n,hn⟩:∃ n:Nat,n=rs.getD i 0:=⟨_,rfl⟩
   obtain ⟨s,hs⟩:∃ s:Nat,s=t.s.getD i 0:=⟨_,rfl⟩
   rw [← hn] at cr hb hsi
   rw [← hs] at cs hsi
   obtain ⟨h1,h2,h3⟩:=bshl hb.2
   obtain ⟨N,hN⟩:∃ N:Nat,N=2 ^ n:=⟨_,rfl⟩
   rw [← hN] at h1 h2 h3 hsi
   obtain ⟨M,hM⟩:∃ M:Nat,N=M+1:=⟨N - 1,by omega⟩
   have hsub:IntKind.i64.wrap ((N:Int) - 1)=(M:Int):=by rw [show (N:Int) - 1=(M:Int) by omega];exact IntWalk.i64_in _ (by omega)
   have HIN:Hid (inR 1 (M:Int) (s:Int)=true):=Lib.hid (zn3 (by omega))
   have hnn:decide ((n:Int) < 0)=false:=by rw [decide_eq_false_iff_not];omega
   have hmin:min n 64=n:=by omega
   clear hcr hcs hEX hn hs hN hM hsi hb
   go_upto_region 4 with (fail)
   refine za0 (X.heap.size) (Nat.le_refl _)
    [sqV (.int .i64 n),sqV (.int .i64 N),sqV (.int .i64 M),sqV (.pointer (some ⟨w.heap.size,0,none⟩)),sqV (.slice (some ⟨sb,so,none⟩) rs.length sc),sqV (.int .i64 i),sqV (.pointer (some ⟨sb,so+i,none⟩)),sqV (.int .i64 s),sqW (fun v W=>∃ b,v = .slice (some ⟨b,0,none⟩) 1 1∧RowsAt W 1 b 0 ([[Value.int .i64 s]])) (fun _ _ _ ⟨b,h1,h2⟩ e=>⟨b,h1,h2.ext e⟩),sqV (.bool true),sqV (.bool false)]
    [true,true,true,true,true,true,true,true,false,true,true] [false,false,false,false,false,false,false,false,false,false,false] [true,true,true,true,true,true,true,true,true,true,true] [true,true,true,true,true,true,true,true,true,true,true]
    (by kernel_rfl) (by kernel_rfl) (by decide +kernel) (by decide +kernel) (by decide +kernel) rfl ⟨rfl,rfl⟩ ⟨?s0,?s1,?s2,?s3,?s4,?s5,?s6,?s7,?s8,?s9,?s10,trivial⟩ [some 14,some 15,some 16,some 17,some 18,some 19,some 20,some 21,some 22,some 23,some 24] rfl rfl ?send
   case s0 =>
    intro val ρ W hE hz hd hA hx
    have o0:ρ (.tmp 5) = .int .i64 n:=hA.old 5 (by decide)
    clear hd
    exact zd (W':=W) (by simp [execOp,o0,go_sem]) (Below.refl _ _) rfl
   case s1 =>
    intro val ρ W hE hz hd hA hx
    have d0:ρ (.tmp 14) = .int .i64 n:=(hA.dep 0 (by decide) 14 rfl).trans (hd 0 (by decide))
    clear hd
    exact zd (W':=W) (by simp [execOp,hA.const,d0,h1,go_sem]) (Below.refl _ _) rfl
   case s2 =>
    intro val ρ W hE hz hd hA hx
    have d1:ρ (.tmp 15) = .int .i64 N:=(hA.dep 1 (by decide) 15 rfl).trans (hd 1 (by decide))
    clear hd
    exact zd (W':=W) (by simp [execOp,hA.const,d1,hsub,go_sem]) (Below.refl _ _) rfl
   case s3 =>
    intro val ρ W hE hz hd hA hx
    have o0:ρ (.tmp 2) = .pointer (some ⟨w.heap.size,0,none⟩):=hA.old 2 (by decide)
    clear hd
    exact zd (W':=W) (by simp [execOp,o0,go_sem]) (Below.refl _ _) rfl
   case s4 =>
    intro val ρ W hE hz hd hA hx
    have d3:ρ (.tmp 17) = .pointer (some ⟨w.heap.size,0,none⟩):=(hA.dep 3 (by decide) 17 rfl).trans (hd 3 (by decide))
    have f_ck:=cell_below hE (by simp only;omega) ck
    clear hd
    exact zd (W':=W) (by simp [execOp,d3,f_ck,go_sem]) (Below.refl _ _) rfl
   case s5 =>
    intro val ρ W hE hz hd hA hx
    have o0:ρ (.tmp 4) = .int .i64 i:=hA.old 4 (by decide)
    clear hd
    exact zd (W':=W) (by simp [execOp,o0,go_sem]) (Below.refl _ _) rfl
   case s6 =>
    intro val ρ W hE hz hd hA hx
    have d4:ρ (.tmp 18) = .slice (some ⟨sb,so,none⟩) rs.length sc:=(hA.dep 4 (by decide) 18 rfl).trans (hd 4 (by decide))
    have d5:ρ (.tmp 19) = .int .i64 i:=(hA.dep 5 (by decide) 19 rfl).trans (hd 5 (by decide))
    clear hd
    exact zd (W':=W) (by simp [execOp,d4,d5,hii,go_sem]) (Below.refl _ _) rfl
   case s7 =>
    intro val ρ W hE hz hd hA hx
    have d6:ρ (.tmp 20) = .pointer (some ⟨sb,so+i,none⟩):=(hA.dep 6 (by decide) 20 rfl).trans (hd 6 (by decide))
    have f_cs:=cell_below hE (by simp only;omega) cs
    clear hd
    exact zd (W':=W) (by simp [execOp,d6,f_cs,go_sem]) (Below.refl _ _) rfl
   case s8 =>
    intro val ρ W hE hz hd hA hx
    have d7:ρ (.tmp 21) = .int .i64 s:=(hA.dep 7 (by decide) 21 rfl).trans (hd 7 (by decide))
    clear hd hA
    refine zd (by simp [execOp,d7,go_sem];exact ⟨rfl,rfl⟩) (by exact xx) ⟨_,rfl,zsu _ ([[Value.int .i64 s]]) _ _ _ 1 rfl (by simp) (by simp)⟩
   case s10 =>
    intro val ρ W hE hz hd hA hx
    have d9:ρ (.tmp 23) = .bool true:=(hA.dep 9 (by decide) 23 rfl).trans (hd 9 (by decide))
    have d9:ρ (.tmp 23) = .bool true:=(hA.dep 9 (by decide) 23 rfl).trans (hd 9 (by decide))
    clear hd
    exact zd (W':=W) (by simp [execOp,d9,go_sem]) (Below.refl _ _) rfl
   case s9 =>
    intro val ρ W hE hz hd hA hx
    have d2:ρ (.tmp 16) = .int .i64 M:=(hA.dep 2 (by decide) 16 rfl).trans (hd 2 (by decide))
    obtain ⟨b',e8,h8⟩:∃ b',val 8 = .slice (some ⟨b',0,none⟩) 1 1∧RowsAt W 1 b' 0 [[Value.int .i64 s]]:=hd 8 (by decide)
    have d8:ρ (.tmp 22) = .slice (some ⟨b',0,none⟩) 1 1:=(hA.dep 8 (by decide) 22 rfl).trans e8
    have hone:IsInts W .i64 (.slice (some ⟨b',0,none⟩) 1 1) [(s:Int)]:=zaq (by omega) (by omega) (by have:=h8 0 (by simp) 0 (by simp);simpa using this)
    refine zby 39 _ _ rfl #[.int .i64 1,.int .i64 M,.slice (some ⟨b',0,none⟩) 1 1] (hA.func _) (by simp [d2,d8,hA.const]) (fun args W=>Tryz.call39 args W) ((zem 1 M _ [(s:Int)] W hone).mono ?_)
    rintro e w' ⟨rfl,hb⟩
    refine ⟨_,rfl,hb,?_⟩
    show Value.bool _=Value.bool true
    rw [zlc,HIN.out]
   case send =>
    intro val WW hE hzz hv
    obtain ⟨-,-,-,-,-,-,-,-,-,-,r10,-⟩:=hv
    have q10:val 10 = .bool false:=r10
    simp only [putD,q10]
    go_frame
    have HE2:=Lib.hid (HEX.out.trans' hE)
    clear hE hzz q10 r10 cr cs ck zr zs zk h1 hsub
    go_wp2_with fail
    go_roundw
    case rel=>exact ⟨i+1,by omega,by go_num,HE2.out⟩
    case measure=>simp [intOf];omega
  ·have hii:¬ ((i:Int) < (rs.length:Int)):=by omega
   clear hEX
   go_wp2_with fail
   go_ret
   exact ⟨zac rfl,HE.out.trans' HEX.out⟩
set_option maxRecDepth 100000 in
set_option maxHeartbeats 2000000 in
theorem z5y (rs:List Nat) (ps:List (Value × Tk)) (ra ta:Option Addr) (rcap tc:Nat) (w:World) (hr:IsInts w .i64 (.slice ra rs.length rcap) (natL rs)) (ht:IsTks w (.slice ta ps.length tc) ps) (V:CardV rs) (VT:TksV rs (zn ps)) :
  Calls Tryz.prog 120 #[.agg #[.slice ra rs.length rcap],.slice ta ps.length tc] w fun e w'=>e = .returned (.int .i64 0)∧Ext w w':=by
 have HT0:=Lib.hid ht
 have HV:=Lib.hid V
 have HVT:=Lib.hid VT
 have h10:ps.length≤10:=by have:=VT.hi;simpa [zn] using this
 have HLEN:Hid (∀ x∈ps,x.2.s.length=rs.length):=Lib.hid fun x hx=>VT.len x.2 (List.mem_map.2 ⟨x,hx,rfl⟩)
 have HEA:Hid (∀ x∈ps,∀ r,r < rs.length→1≤x.2.s.getD r 0∧x.2.s.getD r 0≤2 ^ rs.getD r 0 - 1):=Lib.hid fun x hx=>VT.each x.2 (List.mem_map.2 ⟨x,hx,rfl⟩)
 clear ht V VT
 go_enter Tryz.func120,Tryz.ntmps120
 go_upto_region 1 with (fail)
 obtain ⟨W0,hW0⟩:∃ W0,W0=w.alloc (.cells #[.slice ra rs.length rcap] 30):=⟨_,rfl⟩
 have hE:Ext w W0:=by rw [hW0];exact xx
 have k0:W0.cell? ⟨w.heap.size,0,none⟩=some (.slice ra rs.length rcap):=by rw [hW0];simp [go_sem]
 have hz:w.heap.size < W0.heap.size:=World.block_lt_of_cell? _ _ k0
 have HW:=Lib.hid hE
 have HR:=Lib.hid (IsInts.ext hE hr)
 rw [← hW0]
 clear hW0 hr
 have HT:=Lib.hid (HT0.out.ext HW.out)
 clear HT0 hE
 obtain ⟨_,_,e9,-,-,hcc⟩:=HT.out.spec
 cases e9
 have HCC:=Lib.hid hcc
 clear hcc
 go_wp2_with fail
 refine zat (W0:=W0) (g:=⟨W0,Below.refl _ _⟩) xx (zf1 ps ta tc 192 #[.pointer (some ⟨w.heap.size,0,none⟩)] (fun _=>false) _ (by omega) (HCC.out.imp id fun ⟨b',off,e,hc⟩=>⟨b',off,e,fun i hi=>⟨zb xx (hc i hi).1,zb xx (hc i hi).2⟩⟩) (fun args W=>Tryz.call192 args W) (fun x hx W hW=>z1e x.2 x.1 rs ra rcap _ W ((HT.out.sets x hx).ext (Ext.trans' xx hW)) (zb (Ext.trans' xx hW) k0) (HLEN.out x hx))) fun g1 hgr=>?_
 clear hgr
 rw [zn4]
 go_wp2_with fail
 refine zat (W0:=W0) (g:=g1) xx (zf1 ps ta tc 193 #[.pointer (some ⟨w.heap.size,0,none⟩)] (fun _=>false) _ (by omega) (HCC.out.imp id fun ⟨b',off,e,hc⟩=>⟨b',off,e,fun i hi=>⟨zb xx (hc i hi).1,zb xx (hc i hi).2⟩⟩) (fun args W=>Tryz.call193 args W) (fun x hx W hW=>z5x x.2 x.1 rs ra rcap _ W ((HT.out.sets x hx).ext (Ext.trans' xx hW)) (zb (Ext.trans' xx hW) k0) (HR.out.ext (Ext.trans' xx hW)) HV.out (HLEN.out x hx) (HEA.out x hx))) fun g2 hgr=>?_
 clear hgr
 rw [zn4]
 go_wp2_with fail
 go_ret
 exact ⟨rfl,HW.out.trans' (zi W0 _)⟩
set_option maxHeartbeats 1000000 in
theorem z5z (t:Tk) (x:Value) (w:World) (hx:IsInts w .i64 x (natL t.s)) (hu:1≤t.u∧t.u≤1000) :
  Calls Tryz.prog 143 #[.agg #[x,.int .i64 t.u]] w fun e w'=>e = .returned (.bool false)∧Ext w w':=by
 obtain ⟨sa,cap,rfl,-,-,-⟩:=hx.spec
 clear hx
 obtain ⟨u,hu'⟩:∃ u,u=t.u:=⟨_,rfl⟩
 rw [← hu'] at hu ⊢
 clear hu'
 go_enter Tryz.func143,Tryz.ntmps143
 go_wp2_with fail
 refine zat (W0:=w) (g:=⟨w,Below.refl _ _⟩) xx (zem 1 1000 _ [u] _ (zaq (by omega) (by omega) (by simp [go_sem]))) fun g1 hgr=>?_
 clear hgr
 rw [zlc,zn3 hu]
 go_wp2_with fail
 go_ret
 exact ⟨zac rfl,zi w _⟩
set_option maxRecDepth 100000 in
set_option maxHeartbeats 2000000 in
theorem zxo (rs:List Nat) (ps:List (Value × Tk)) (ra ta:Option Addr) (rcap tc:Nat) (w:World) (hr:IsInts w .i64 (.slice ra rs.length rcap) (natL rs)) (ht:IsTks w (.slice ta ps.length tc) ps) (V:CardV rs) (VT:TksV rs (zn ps)) :
  Calls Tryz.prog 75 #[.agg #[.slice ra rs.length rcap],.slice ta ps.length tc] w fun e w'=>e = .returned (.int .i64 0)∧Ext w w':=by
 have HT0:=Lib.hid ht
 have HV:=Lib.hid V
 have HVT:=Lib.hid VT
 have h10:ps.length≤10:=by have:=VT.hi;simpa [zn] using this
 have HU:Hid (∀ x∈ps,1≤x.2.u∧x.2.u≤1000):=Lib.hid fun x hx=>VT.u x.2 (List.mem_map.2 ⟨x,hx,rfl⟩)
 clear ht V VT
 go_enter Tryz.func75,Tryz.ntmps75
 go_upto_region 1 with (fail)
 obtain ⟨W0,hW0⟩:∃ W0,W0=w.alloc (.cells #[.slice ra rs.length rcap] 30):=⟨_,rfl⟩
 have hE:Ext w W0:=by rw [hW0];exact xx
 have k0:W0.cell? ⟨w.heap.size,0,none⟩=some (.slice ra rs.length rcap):=by rw [hW0];simp [go_sem]
 have hz:w.heap.size < W0.heap.size:=World.block_lt_of_cell? _ _ k0
 have HW:=Lib.hid hE
 have HR:=Lib.hid (IsInts.ext hE hr)
 rw [← hW0]
 clear hW0 hr
 have HT:=Lib.hid (HT0.out.ext HW.out)
 clear HT0 hE
 obtain ⟨_,_,e9,-,-,hcc⟩:=HT.out.spec
 cases e9
 have HCC:=Lib.hid hcc
 clear hcc
 have hli:decide ((10:Int) < (ps.length:Int))=false:=by rw [decide_eq_false_iff_not];omega
 go_wp2_with fail
 refine zat (W0:=W0) (g:=⟨W0,Below.refl _ _⟩) xx (z3u rs ra rcap _ (HR.out.ext xx) HV.out) fun g1 hgr=>?_
 clear hgr
 go_wp2_with fail
 refine zat (W0:=W0) (g:=g1) xx (z5y rs ps ra ta rcap tc _ (HR.out.ext xx) (HT.out.ext xx) HV.out HVT.out) fun g2 hgr=>?_
 clear hgr
 go_wp2_with fail
 refine zat (W0:=W0) (g:=g2) xx (zf1 ps ta tc 143 #[] (fun _=>false) _ (by omega) (HCC.out.imp id fun ⟨b',off,e,hc⟩=>⟨b',off,e,fun i hi=>⟨zb xx (hc i hi).1,zb xx (hc i hi).2⟩⟩) (fun args W=>Tryz.call143 args W) (fun x hx W hW=>z5z x.2 x.1 W ((HT.out.sets x hx).ext (Ext.trans' xx hW)) (HU.out x hx))) fun g3 hgr=>?_
 clear hgr
 rw [zn4]
 go_wp2_with fail
 go_ret
 exact ⟨rfl,HW.out.trans' (zi W0 _)⟩
set_option maxRecDepth 100000 in
set_option maxHeartbeats 2000000 in
theorem zt9 (rs:List Nat) (ps:List (Value × Tk)) (ra ta:Option Addr) (rcap tc:Nat) (w:World) (hr:IsInts w .i64 (.slice ra rs.length rcap) (natL rs)) (ht:IsTks w (.slice ta ps.length tc) ps) (V:CardV rs) (VT:TksV rs (zn ps)) :
  Calls Tryz.prog 34 #[.agg #[.slice ra rs.length rcap],.slice ta ps.length tc] w fun e w'=>∃ p,e = .returned (.tuple #[.pointer (some ⟨p,0,none⟩),.int .i64 0])∧Ext w w'∧w.heap.size≤p∧SheetAt w' p (.slice ra rs.length rcap) (.slice ta ps.length tc):=by
 have HT0:=Lib.hid ht
 have HV:=Lib.hid V
 have HVT:=Lib.hid VT
 clear ht V VT
 go_enter Tryz.func34,Tryz.ntmps34
 go_upto_region 1 with (fail)
 obtain ⟨W0,hW0⟩:∃ W0,W0=w.alloc (.cells #[.slice ra rs.length rcap] 30):=⟨_,rfl⟩
 have hE:Ext w W0:=by rw [hW0];exact xx
 have k0:W0.cell? ⟨w.heap.size,0,none⟩=some (.slice ra rs.length rcap):=by rw [hW0];simp [go_sem]
 have hz:w.heap.size < W0.heap.size:=World.block_lt_of_cell? _ _ k0
 have HW:=Lib.hid hE
 have HR:=Lib.hid (IsInts.ext hE hr)
 rw [← hW0]
 clear hW0 hr
 have HT:=Lib.hid (HT0.out.ext HW.out)
 clear HT0 hE
 go_wp2_with fail
 refine zat (W0:=W0) (g:=⟨W0,Below.refl _ _⟩) xx (zxo rs ps ra ta rcap tc _ (HR.out.ext xx) (HT.out.ext xx) HV.out HVT.out) fun g1 hgr=>?_
 clear hgr
 go_wp2_with fail
 refine zw5 (W0:=W0) (g:=g1) xx (zxl rs ra rcap _ (HR.out.ext xx) (.slice ta ps.length tc) ta ps.length tc rfl) (fun _ _ h=>by obtain ⟨_,_,h,_⟩:=h;exact h) fun _ g2 hgr hr=>?_
 obtain ⟨p,rfl,hE2,hp,hS⟩:=hr
 clear hgr
 have HSS:=Lib.hid hS
 have HE2:=Lib.hid hE2
 have hsz:=hE2.size
 have hgs:=(zi W0 g1).size
 have hws:=HW.out.size
 have HP:Hid (w.heap.size≤p):=Lib.hid (by omega)
 clear hS hE2
 go_wp2_with fail
 refine bodyPost_ret (v:=.tuple #[.pointer (some ⟨p,0,none⟩),.int .i64 0]) (by simp [results,Tryz.results34,go_sem]) rfl ?_
 exact ⟨p,rfl,HW.out.trans' (zi W0 _),HP.out,HSS.out⟩
end Go.Proofs.YtkbaiobnibmmgaaGreat
