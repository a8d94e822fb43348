/-
  The walks of parts and of its iterator: it yields the boxes of the cut.
-/
import Derived.Test.YtdcnbeehckgpcaaGreatXb
set_option maxRecDepth 200000
set_option maxHeartbeats 0
namespace Go.Proofs.YtdcnbeehckgpcaaGreat
open Go.Lib (hid)
open Go.RowKit Go.Shelf
attribute [local go_sem] Oper.semAt_some
theorem zaah(p:Nat)(w:World) :
  Calls Tryz.prog 62 #[.pointer (some ⟨p,0,none⟩)] w fun e w'=>e=.returned (.func (.func 108) #[] #[.pointer (some ⟨w.heap.size,0,none⟩)]) ∧
   Ext w w'∧w'.cell? ⟨w.heap.size,0,none⟩=some (.pointer (some ⟨p,0,none⟩))∧w'.heap.size=w.heap.size+1:=by
 go_enter Tryz.func62,Tryz.ntmps62
 go_wp2
 go_ret;exact⟨rfl,by exact xx,by simp[go_sem],by simp⟩
theorem zaik{rs:List Nat}(V:zfr rs):∀r,r<rs.length→(zdc rs).getD r 0<64:=fun r hr=>by
 have h1:=z4k (V.each r hr).2;have h2:(zdc rs).getD r 0=2^rs.getD r 0-1:=by
  unfold zdc;rw[wch,wcq,wch,wcn hr];rfl
 have h3:0<2^rs.getD r 0:=Nat.pow_pos (by omega);omega
theorem z4o(rs:List Nat):(zdc rs).length=rs.length:=by simp[zdc]
theorem zaj9(l:List Nat)(r:Nat):gt (zy l) r=(l.getD r 0:Int):=by
 unfold gt zy;rw[wch,wch,wcq];cases l[r]?<;>rfl
theorem zaai{R:Nat→Prop}{w0:World}{p:Nat}{rs:List Nat}{ps:List (Value×Tk)}{rb ro rcap:Nat}{ta:Option Addr}{tc:Nat}(E:zsn R w0 p rs ps rb ro rcap ta tc)(bt:Nat)(hM:∀W,Kept R w0 W→W.cell? ⟨bt,0,none⟩=some (.pointer (some ⟨p,0,none⟩))) :
  zahl Tryz.prog 108 #[.pointer (some ⟨bt,0,none⟩)] (encB ps) R (fun xs=>xs.map (·.2)=zck rs (zap (zac ps))) (fun _=>True) (fun _ O _ x W=>NxB (fun y=>y∈zck rs (zap (zac ps))) rs.length O W x) w0:=by
 intro n l J Jx W hW hJ hJx hY h0;have hk0:Kept R w0 W:=(Kept.of_below hW).mono fun k hk _=>trivial
 have HK0:=hid hk0;have ct:=hM W hk0;have hzt:=wfu _ _ ct;simp only at hzt;have HY:=hid hY;have HH0:=hid h0;have hr1:=E.V.lo;have hl10:=E.len;clear hJx hY h0 hM;refine callsIn_of_wp Tryz.func108 rfl trivial ?_ rfl;simp only[Tryz.ntmps108,wd7,wc4,wc9,Nat.reduceAdd,Nat.reduceSub,wai,waj,wd4,wbo,wd1,wbp];obtain⟨M,hM⟩:∃M,M=mkI (List.replicate ps.length true):=⟨_,rfl⟩
 have hst:∀W',Ext W W'→Calls Tryz.prog 110 #[.pointer (some ⟨p,0,none⟩)] W' fun e w'=>e=.returned (.agg #[.int .i64 0,.int .i64 (M 0),.int .i64 (M 1),.int .i64 (M 2),.int .i64 (M 3),.int .i64 (M 4),.int .i64 (M 5),.int .i64 (M 6),.int .i64 (M 7),.int .i64 (M 8),.int .i64 (M 9)])∧Ext W' w':=fun W' hW'=>by
  have h:=zacx ps.length p _ ta tc W' ((E.sheet W hk0).ext hW') hl10;rw[←hM]at h;exact h
 obtain⟨w5,hw5⟩:∃w5,w5=W.heap.size:=⟨_,rfl⟩
 have hal:∀W',Ext W W'→Calls Tryz.prog 91 #[.pointer (some ⟨p,0,none⟩)] W' fun e w'=>∃v,e=.returned v∧Ext W' w'∧∃sb sc,v=.slice (some ⟨sb,0,none⟩) rs.length sc∧zb0 w' (fun k=>w5≤k) sb 0 sc (zdc rs) rs.length:=fun W' hW'=>by
  refine(zafh rs (some ⟨rb,ro,none⟩) rcap p _ W' ((E.sheet W hk0).ext hW') ((E.ints hk0).ext hW') E.V).mono ?_
  rintro e w' ⟨v,rfl,hE,hown⟩;refine⟨v,rfl,hE,?_⟩;have hlen:(zy (zdc rs)).length=rs.length:=by rw[zad,z4o]
  obtain⟨g,cap,rfl,hc1,hc2,hg,hN⟩:=hown.cellsN (by rw[hlen];omega);rw[hlen]at hc1 hN ⊢;refine⟨g,cap,rfl,hc1,hc2,by have:=hW'.size;omega,fun r hr=>?_⟩;have h:=hN.cell r hr;rw[zaj9]at h;rw[wfc];exact h
 have HW5:=hid hw5;clear hw5;have HST:=hid hst;have HALL:=hid hal;have HMM:=hid hM;clear hst hal hM;gi_wp2_with fail;refine zme 6 rfl (by kernel_rfl) (W.heap.size) (weq _)
  [sqV (.pointer (some ⟨p,0,none⟩)),sqV (.pointer (some ⟨p,0,none⟩)),sqW (fun v W=>∃sb sc,v=.slice (some ⟨sb,0,none⟩) rs.length sc∧zb0 W (fun k=>w5≤k) sb 0 sc (zdc rs) rs.length) (fun _ _ _ ⟨sb,sc,h1,h2⟩ e=>⟨sb,sc,h1,h2.ext e⟩),sqV (.pointer (some ⟨p,0,none⟩)),sqV (.agg #[.int .i64 0,.int .i64 (M 0),.int .i64 (M 1),.int .i64 (M 2),.int .i64 (M 3),.int .i64 (M 4),.int .i64 (M 5),.int .i64 (M 6),.int .i64 (M 7),.int .i64 (M 8),.int .i64 (M 9)]),sqV (.func (.yield l) #[] #[])]
  [true,true,false,true,true,true] [false,false,false,false,false,false] [true,true,true,true,true,true] [true,true,true,true,true,true] [true,true,true,true,true,true] []
  (by kernel_rfl) (by kernel_rfl) (by decide +kernel) trivial (by decide +kernel) (by decide +kernel) (by decide +kernel) rfl ⟨rfl,rfl,rfl⟩ ⟨?s0,?s1,?s2,?s3,?s4,?s5,trivial⟩ [some 3,some 4,some 5,some 6,some 7,some 8] rfl rfl ?send
 case s0 =>
  intro f g W b e d h a c;have o0:g (.tmp 1)=.pointer (some ⟨bt,0,none⟩):=a.old 1 (by decide);have f_ct:=cell_below b (by simp only;omega) ct;exact ze (by simp[execOp,o0,f_ct,go_sem]) rfl
 case s1 =>
  intro f g W b e d h a c;have o0:g (.tmp 1)=.pointer (some ⟨bt,0,none⟩):=a.old 1 (by decide);have f_ct:=cell_below b (by simp only;omega) ct;exact ze (by simp[execOp,o0,f_ct,go_sem]) rfl
 case s3 =>
  intro f g W b e d h a c;have o0:g (.tmp 1)=.pointer (some ⟨bt,0,none⟩):=a.old 1 (by decide);have f_ct:=cell_below b (by simp only;omega) ct;exact ze (by simp[execOp,o0,f_ct,go_sem]) rfl
 case s4 =>
  intro g h W b f d i a c;have d3:h (.tmp 6)=.pointer (some ⟨p,0,none⟩):=dpv a d 3 6;clear d i;refine zbx 110 _ _ rfl #[.pointer (some ⟨p,0,none⟩)] (a.func _) (by simp[d3]) (fun args W=>Tryz.call110 args W) ((HST.out W b).mono ?_);rintro e w' ⟨rfl,hb⟩;exact⟨_,rfl,hb,rfl⟩
 case s5 =>
  intro f g W b e d h a c;have o0:g (.tmp 0)=.func (.yield l) #[] #[]:=a.old 0 (by decide);exact ze (by simp[execOp,o0,go_sem]) rfl
 case s2 =>
  intro val ρ W2 hE hz hd hu hA hx;have d1:ρ (.tmp 4)=.pointer (some ⟨p,0,none⟩):=dpv hA hd 1 4;refine zbx 91 _ _ rfl #[.pointer (some ⟨p,0,none⟩)] (hA.func _) (by simp[d1]) (fun args W=>Tryz.call91 args W) ((HALL.out W2 hE).mono ?_);rintro e w' ⟨v,rfl,hb,hv⟩;exact⟨_,rfl,hb,hv⟩
 case send =>
  intro val WW hE hzz;generalize hG:wpListIn _ _ _ _ _ _ _ _=G;intro hv;obtain⟨r0,-,⟨sb,sc,e2,hS⟩,-,r4,r5,-⟩:=hv;have r0':val 0=.pointer (some ⟨p,0,none⟩):=r0;have r4':val 4=.agg #[.int .i64 0,.int .i64 (M 0),.int .i64 (M 1),.int .i64 (M 2),.int .i64 (M 3),.int .i64 (M 4),.int .i64 (M 5),.int .i64 (M 6),.int .i64 (M 7),.int .i64 (M 8),.int .i64 (M 9)]:=r4;have r5':val 5=.func (.yield l) #[] #[]:=r5;subst hG;simp only[za9,r0',e2,r4',r5'];go_frame;obtain⟨O,hO⟩:∃O:Nat→Prop,O=fun k=>W.heap.size≤k∧k<WW.heap.size:=⟨_,rfl⟩
  have hsb:sb<WW.heap.size:=by
   have:=wfu _ _ (hS.2.2.2 0 (by omega));simpa using this
  have hSO:zb0 WW O sb 0 sc (zdc rs) rs.length:=⟨hS.1,hS.2.1,by rw[hO];exact⟨by have:=hS.2.2.1;rw[←HW5.out];exact this,hsb⟩,hS.2.2.2⟩
  have hjO:J O [] WW:=hJ [] _ O W WW HH0.out (Kept.of_below hE) (fun _ h=>h.elim) (fun k hk=>.inr (by rw[hO]at hk;exact hk));have hcut:=zaj8 E l J Jx (fun y=>y∈zck rs (zap (zac ps))) hJ (fun O pre x W1 h1 h2=>zqt (F:=Fence.wide) rfl _ (HY.out O pre x W1 h1 h2)) rs.length 0 (by omega) (n-1) (zdc rs) (List.replicate ps.length true) O [] sb 0 sc WW (z4o rs) (by simp) (zaik E.V)
   (fun y hy=>by unfold zck;rw[zh9];exact hy) (HK0.out.trans (Kept.of_below hE)) hjO hSO
  have hcut2:CallsIn Fence.wide (n-1) Tryz.prog 109 #[.pointer (some ⟨p,0,none⟩),.slice (some ⟨sb,0,none⟩) rs.length sc,.agg #[.int .i64 0,.int .i64 (M 0),.int .i64 (M 1),.int .i64 (M 2),.int .i64 (M 3),.int .i64 (M 4),.int .i64 (M 5),.int .i64 (M 6),.int .i64 (M 7),.int .i64 (M 8),.int .i64 (M 9)],.func (.yield l) #[] #[]] WW (CutQ R O J Jx [] (zdt rs (zap (zac ps)) rs.length (zdc rs) (List.replicate ps.length true)) WW):=by
   have e0:((0:Nat):Int)=0:=rfl;rw[e0,←HMM.out]at hcut;unfold zdk at hcut;exact hcut
  clear r0 r0' r4 r5 r4' r5' hzz hS hSO hjO hcut hsb hO e2;have HC:=hid hcut2;clear hcut2 hE;simp only[List.drop];gi_wp2_with fail;refine⟨trivial,fun h=>(by simp[Fence.wide]at h),HC.out.mono ?_⟩;rintro e W5 (⟨rfl,O',xs,hOO,hxs,hj,hk⟩|⟨rfl,O',pre,hx⟩)
  ·have HX:Hid (xs.map (·.2)=zck rs (zap (zac ps))):=hid (by rw[hxs];unfold zck;rw[zh9])
   have HJ5:Hid (J O' xs W5):=hid (by simpa using hj);clear hxs hj hk hOO;gi_wp2_with fail
   go_end0
   exact⟨⟨_,rfl⟩,.inl ⟨_,_,HX.out,HJ5.out⟩⟩
  ·have HJ5:=hid hx
   clear hx;gi_wp2_with fail
   go_end0
   exact⟨⟨_,rfl⟩,.inr ⟨_,_,trivial,HJ5.out⟩⟩
theorem zso{α:Type}(l:List α):l.any (fun _=>false)=false:=by
 induction l with
 |nil=>rfl
 |cons a l ih=>simp
theorem zaaj(t:Tk)(x:Value)(rs:List Nat)(ra:Option Addr)(rcap p:Nat)(w:World)(hx:zo w .i64 x (zy t.s))(hc:w.cell? ⟨p,0,none⟩=some (.slice ra rs.length rcap))(hl:t.s.length=rs.length) :
  Calls Tryz.prog 149 #[.agg #[x,.int .i64 t.u],.pointer (some ⟨p,0,none⟩)] w fun e w'=>e=.returned (.bool false)∧Ext w w':=by
 obtain⟨sa,cap,rfl,-,-,-⟩:=hx.spec;rw[zad,hl];have hz:=wfu _ _ hc;simp only at hz;clear hx hl
 go_enter Tryz.func149,Tryz.ntmps149
 go_wp2_with fail;go_ret;exact⟨zcp (by simp),by exact xx⟩
theorem zafn(t:Tk)(x:Value)(rs:List Nat)(ra:Option Addr)(rcap p:Nat)(w:World)(hx:zo w .i64 x (zy t.s))(hc:w.cell? ⟨p,0,none⟩=some (.slice ra rs.length rcap))(hr:zo w .i64 (.slice ra rs.length rcap) (zy rs))(V:zfr rs)(hl:t.s.length=rs.length)
  (hs:∀r,r<rs.length→1≤t.s.getD r 0∧t.s.getD r 0≤2^rs.getD r 0-1) :
  Calls Tryz.prog 150 #[.agg #[x,.int .i64 t.u],.pointer (some ⟨p,0,none⟩)] w fun e w'=>e=.returned (.bool false)∧Ext w w':=by
 have HX0:=hid hx;obtain⟨sa,sc,rfl,-,-,-⟩:=hx.spec;have hl2:=hl;rw[zad,hl];have HX:Hid (zo w .i64 (.slice sa rs.length sc) (zy t.s)):=hid (by have:=HX0.out;rw[zad,hl]at this;exact this);have HL:=hid hl;have HS:=hid hs;have HR:=hid hr;have HV:=hid V;have hn5:=V.hi;have hz:=wfu _ _ hc;simp only at hz;clear hx hl hl2 HX0 hs hr V
 go_enter Tryz.func150,Tryz.ntmps150
 go_upto_region 1 with(fail);obtain⟨W0,hW0⟩:∃W0,W0=w.alloc (.cells #[.slice sa rs.length sc,.int .i64 t.u] 35):=⟨_,rfl⟩
 have hE:Ext w W0:=by rw[hW0];exact xx
 have k0:W0.cell? ⟨w.heap.size,0,none⟩=some (.slice sa rs.length sc):=by rw[hW0];simp[go_sem]
 have hz0:w.heap.size<W0.heap.size:=wfu _ _ k0;have kc:=zh hE hc;have hzc:p<W0.heap.size:=by omega
 have HE:=hid hE;rw[←hW0];clear hW0 hE hc hz;go_wp2_with fail
 go_loopw [9] (fun iv W=>∃i:Nat,i≤rs.length∧iv=.int .i64 i∧Ext W0 W) (fun iv _=>rs.length-(intOf iv).toNat)
 case atStart=>exact⟨0,by omega,rfl,Below.refl _ _⟩
 case round =>
  obtain⟨i,hi,rfl,hEX⟩:=hrel;obtain⟨X,rfl⟩:∃X,X=wr:=⟨_,rfl⟩
  have HEX:=hid hEX
  by_cases hlt:i<rs.length
  ·have hii:(i:Int)<(rs.length:Int):=by omega
   obtain⟨rb,ro,rfl,hcr⟩:=za7 HR.out hlt;obtain⟨sb,so,rfl,hcs⟩:=za7 HX.out (show i<t.s.length by rw[HL.out];exact hlt);have cr:=hcr i hlt X (HE.out.trans' hEX);have cs:=hcs i (by rw[HL.out];exact hlt) X (HE.out.trans' hEX);have ck:=zh hEX k0;have zr:=wfu _ _ cr;have zs:=wfu _ _ cs;have zk:=wfu _ _ ck;simp only at zr zs zk;have hb:=HV.out.each i hlt;have hsi:=HS.out i hlt;obtain⟨n,hn⟩:∃n:Nat,n=rs.getD i 0:=⟨_,rfl⟩
   obtain⟨s,hs⟩:∃s:Nat,s=t.s.getD i 0:=⟨_,rfl⟩
   rw[←hn]at cr hb hsi;rw[←hs]at cs hsi;obtain⟨h1,h2,h3⟩:=zjf hb.2;obtain⟨N,hN⟩:∃N:Nat,N=2^n:=⟨_,rfl⟩
   rw[←hN]at h1 h2 h3 hsi;obtain⟨M,hM⟩:∃M:Nat,N=M+1:=⟨N-1,by omega⟩
   have hsub:IntKind.i64.wrap ((N:Int)-1)=(M:Int):=by rw[show(N:Int)-1=(M:Int) by omega];exact wbh _ (by omega)
   have HIN:Hid (inR 1 (M:Int) (s:Int)=true):=hid (zxq (by omega));have hnn:decide ((n:Int)<0)=false:=by rw[decide_eq_false_iff_not];omega
   have hmin:min n 64=n:=by omega
   clear hcr hcs hEX hn hs hN hM hsi hb;go_upto_region 4 with(fail);refine zb8 (X.heap.size) (weq _)
    [sqV (.int .i64 n),sqV (.int .i64 N),sqV (.int .i64 M),sqV (.pointer (some ⟨w.heap.size,0,none⟩)),sqV (.slice (some ⟨sb,so,none⟩) rs.length sc),sqV (.int .i64 i),sqV (.pointer (some ⟨sb,so+i,none⟩)),sqV (.int .i64 s),sqW (fun v W=>∃b,v=.slice (some ⟨b,0,none⟩) 1 1∧zbd W 1 b 0 ([[Value.int .i64 s]])) (fun _ _ _ ⟨b,h1,h2⟩ e=>⟨b,h1,h2.ext e⟩),sqV (.bool true),sqV (.bool false)]
    [true,true,true,true,true,true,true,true,false,true,true] [false,false,false,false,false,false,false,false,false,false,false] [true,true,true,true,true,true,true,true,true,true,true] [true,true,true,true,true,true,true,true,true,true,true]
    (by kernel_rfl) (by kernel_rfl) (by decide +kernel) (by decide +kernel) (by decide +kernel) rfl ⟨rfl,rfl⟩ ⟨?s0,?s1,?s2,?s3,?s4,?s5,?s6,?s7,?s8,?s9,?s10,trivial⟩ [some 14,some 15,some 16,some 17,some 18,some 19,some 20,some 21,some 22,some 23,some 24] rfl rfl ?send
   case s0 =>
    intro f g W b e d a c;have o0:g (.tmp 5)=.int .i64 n:=a.old 5 (by decide);exact ze (by simp[execOp,o0,go_sem]) rfl
   case s1 =>
    intro f g W b e d a c;have d0:g (.tmp 14)=.int .i64 n:=dpv a d 0 14;exact ze (by simp[execOp,a.const,d0,h1,go_sem]) rfl
   case s2 =>
    intro f g W b e d a c;have d1:g (.tmp 15)=.int .i64 N:=dpv a d 1 15;exact ze (by simp[execOp,a.const,d1,hsub,go_sem]) rfl
   case s3 =>
    intro f g W b e d a c;have o0:g (.tmp 2)=.pointer (some ⟨w.heap.size,0,none⟩):=a.old 2 (by decide);exact ze (by simp[execOp,o0,go_sem]) rfl
   case s4 =>
    intro f g W b e d a c;have d3:g (.tmp 17)=.pointer (some ⟨w.heap.size,0,none⟩):=dpv a d 3 17;have f_ck:=cell_below b (by simp only;omega) ck;exact ze (by simp[execOp,d3,f_ck,go_sem]) rfl
   case s5 =>
    intro f g W b e d a c;have o0:g (.tmp 4)=.int .i64 i:=a.old 4 (by decide);exact ze (by simp[execOp,o0,go_sem]) rfl
   case s6 =>
    intro f g W b e d a c;have d4:g (.tmp 18)=.slice (some ⟨sb,so,none⟩) rs.length sc:=dpv a d 4 18;have d5:g (.tmp 19)=.int .i64 i:=dpv a d 5 19;exact ze (by simp[execOp,d4,d5,hii,go_sem]) rfl
   case s7 =>
    intro f g W b e d a c;have d6:g (.tmp 20)=.pointer (some ⟨sb,so+i,none⟩):=dpv a d 6 20;have f_cs:=cell_below b (by simp only;omega) cs;exact ze (by simp[execOp,d6,f_cs,go_sem]) rfl
   case s8 =>
    intro f g W b e d a c;have d7:g (.tmp 21)=.int .i64 s:=dpv a d 7 21;clear d a;refine zgi (by simp[execOp,d7,go_sem];exact⟨rfl,rfl⟩) (by exact xx) ⟨_,rfl,zah1 _ ([[Value.int .i64 s]]) _ _ _ 1 rfl (by simp) (by simp)⟩
   case s10 =>
    intro f g W b e d a c;have d9:g (.tmp 23)=.bool true:=dpv a d 9 23;have d9:g (.tmp 23)=.bool true:=dpv a d 9 23;exact ze (by simp[execOp,d9,go_sem]) rfl
   case s9 =>
    intro g h W b f d a c;have d2:h (.tmp 16)=.int .i64 M:=dpv a d 2 16;obtain⟨b',e8,h8⟩:∃b',g 8=.slice (some ⟨b',0,none⟩) 1 1∧zbd W 1 b' 0 [[Value.int .i64 s]]:=d 8 (by decide);have d8:h (.tmp 22)=.slice (some ⟨b',0,none⟩) 1 1:=(a.dep 8 (by decide) 22 rfl).trans e8;have hone:zo W .i64 (.slice (some ⟨b',0,none⟩) 1 1) [(s:Int)]:=zee (by omega) (by omega) (by have:=h8 0 (by simp) 0 (by simp);simpa using this);refine zbx 83 _ _ rfl #[.int .i64 1,.int .i64 M,.slice (some ⟨b',0,none⟩) 1 1] (a.func _) (by simp[d2,d8,a.const]) (fun args W=>Tryz.call83 args W) ((zj0 1 M _ [(s:Int)] W hone).mono ?_);rintro e w' ⟨rfl,hb⟩;refine⟨_,rfl,hb,?_⟩;show Value.bool _=Value.bool true;rw[zt8,HIN.out]
   case send =>
    intro val WW hE hzz hv;obtain⟨-,-,-,-,-,-,-,-,-,-,r10,-⟩:=hv;have q10:val 10=.bool false:=r10;simp only[za9,q10];go_frame;have HE2:=hid (HEX.out.trans' hE);clear hE hzz q10 r10 cr cs ck zr zs zk h1 hsub;go_wp2_with fail;go_roundw
    case rel=>exact⟨i+1,by omega,by go_num,HE2.out⟩
    case measure=>simp[intOf];omega
  ·have hii:¬((i:Int)<(rs.length:Int)):=by omega
   clear hEX;go_wp2_with fail;go_ret;exact⟨zcp rfl,HE.out.trans' HEX.out⟩
theorem zafo(rs:List Nat)(ps:List (Value×Tk))(ra ta:Option Addr)(rcap tc:Nat)(w:World)(hr:zo w .i64 (.slice ra rs.length rcap) (zy rs))(ht:ze4 w (.slice ta ps.length tc) ps)(V:zfr rs)(VT:zjj rs (zac ps)) :
  Calls Tryz.prog 84 #[.agg #[.slice ra rs.length rcap],.slice ta ps.length tc] w fun e w'=>e=.returned (.int .i64 0)∧Ext w w':=by
 have HT0:=hid ht;have HV:=hid V;have HVT:=hid VT;have h10:ps.length≤10:=by have:=VT.hi;simpa[zac]using this
 have HLEN:Hid (∀x∈ps,x.2.s.length=rs.length):=hid fun x hx=>VT.len x.2 (wdv.2 ⟨x,hx,rfl⟩)
 have HEA:Hid (∀x∈ps,∀r,r<rs.length→1≤x.2.s.getD r 0∧x.2.s.getD r 0≤2^rs.getD r 0-1):=hid fun x hx=>VT.each x.2 (wdv.2 ⟨x,hx,rfl⟩)
 clear ht V VT
 go_enter Tryz.func84,Tryz.ntmps84
 go_upto_region 1 with(fail);obtain⟨W0,hW0⟩:∃W0,W0=w.alloc (.cells #[.slice ra rs.length rcap] 29):=⟨_,rfl⟩
 have hE:Ext w W0:=by rw[hW0];exact xx
 have k0:W0.cell? ⟨w.heap.size,0,none⟩=some (.slice ra rs.length rcap):=by rw[hW0];simp[go_sem]
 have hz:w.heap.size<W0.heap.size:=wfu _ _ k0;have HW:=hid hE;have HR:=hid (zo.ext hE hr);rw[←hW0];clear hW0 hr;have HT:=hid (HT0.out.ext HW.out);clear HT0 hE;obtain⟨_,_,e9,-,-,hcc⟩:=HT.out.spec;cases e9;have HCC:=hid hcc;clear hcc;go_wp2_with fail;refine ze1 (W0:=W0) (g:=⟨W0,Below.refl _ _⟩) xx (zjk ps ta tc 149 #[.pointer (some ⟨w.heap.size,0,none⟩)] (fun _=>false) _ (by omega) (HCC.out.imp id fun⟨b',off,e,hc⟩=>⟨b',off,e,fun i hi=>⟨zh xx (hc i hi).1,zh xx (hc i hi).2⟩⟩) (fun args W=>Tryz.call149 args W) (fun x hx W hW=>zaaj x.2 x.1 rs ra rcap _ W ((HT.out.sets x hx).ext (Ext.trans' xx hW)) (zh (Ext.trans' xx hW) k0) (HLEN.out x hx))) fun g1 hgr=>?_
 clear hgr;rw[zso];go_wp2_with fail;refine ze1 (W0:=W0) (g:=g1) xx (zjk ps ta tc 150 #[.pointer (some ⟨w.heap.size,0,none⟩)] (fun _=>false) _ (by omega) (HCC.out.imp id fun⟨b',off,e,hc⟩=>⟨b',off,e,fun i hi=>⟨zh xx (hc i hi).1,zh xx (hc i hi).2⟩⟩) (fun args W=>Tryz.call150 args W) (fun x hx W hW=>zafn x.2 x.1 rs ra rcap _ W ((HT.out.sets x hx).ext (Ext.trans' xx hW)) (zh (Ext.trans' xx hW) k0) (HR.out.ext (Ext.trans' xx hW)) HV.out (HLEN.out x hx) (HEA.out x hx))) fun g2 hgr=>?_
 clear hgr;rw[zso];go_wp2_with fail;go_ret;exact⟨rfl,HW.out.trans' (zb7 W0 _)⟩
theorem zafp(t:Tk)(x:Value)(w:World)(hx:zo w .i64 x (zy t.s))(hu:1≤t.u∧t.u≤1000) :
  Calls Tryz.prog 103 #[.agg #[x,.int .i64 t.u]] w fun e w'=>e=.returned (.bool false)∧Ext w w':=by
 obtain⟨sa,cap,rfl,-,-,-⟩:=hx.spec;clear hx;obtain⟨u,hu'⟩:∃u,u=t.u:=⟨_,rfl⟩
 rw[←hu']at hu ⊢;clear hu'
 go_enter Tryz.func103,Tryz.ntmps103
 go_wp2_with fail;refine ze1 (W0:=w) (g:=⟨w,Below.refl _ _⟩) xx (zj0 1 1000 _ [u] _ (zee (by omega) (by omega) (by simp[go_sem]))) fun g1 hgr=>?_
 clear hgr;rw[zt8,zxq hu];go_wp2_with fail;go_ret;exact⟨zcp rfl,zb7 w _⟩
theorem z4p(rs:List Nat)(ps:List (Value×Tk))(ra ta:Option Addr)(rcap tc:Nat)(w:World)(hr:zo w .i64 (.slice ra rs.length rcap) (zy rs))(ht:ze4 w (.slice ta ps.length tc) ps)(V:zfr rs)(VT:zjj rs (zac ps)) :
  Calls Tryz.prog 55 #[.agg #[.slice ra rs.length rcap],.slice ta ps.length tc] w fun e w'=>e=.returned (.int .i64 0)∧Ext w w':=by
 have HT0:=hid ht;have HV:=hid V;have HVT:=hid VT;have h10:ps.length≤10:=by have:=VT.hi;simpa[zac]using this
 have HU:Hid (∀x∈ps,1≤x.2.u∧x.2.u≤1000):=hid fun x hx=>VT.u x.2 (wdv.2 ⟨x,hx,rfl⟩)
 clear ht V VT
 go_enter Tryz.func55,Tryz.ntmps55
 go_upto_region 1 with(fail);obtain⟨W0,hW0⟩:∃W0,W0=w.alloc (.cells #[.slice ra rs.length rcap] 29):=⟨_,rfl⟩
 have hE:Ext w W0:=by rw[hW0];exact xx
 have k0:W0.cell? ⟨w.heap.size,0,none⟩=some (.slice ra rs.length rcap):=by rw[hW0];simp[go_sem]
 have hz:w.heap.size<W0.heap.size:=wfu _ _ k0;have HW:=hid hE;have HR:=hid (zo.ext hE hr);rw[←hW0];clear hW0 hr;have HT:=hid (HT0.out.ext HW.out);clear HT0 hE;obtain⟨_,_,e9,-,-,hcc⟩:=HT.out.spec;cases e9;have HCC:=hid hcc;clear hcc;have hli:decide ((10:Int)<(ps.length:Int))=false:=by rw[decide_eq_false_iff_not];omega
 go_wp2_with fail;refine ze1 (W0:=W0) (g:=⟨W0,Below.refl _ _⟩) xx (zacw rs ra rcap _ (HR.out.ext xx) HV.out) fun g1 hgr=>?_
 clear hgr;go_wp2_with fail;refine ze1 (W0:=W0) (g:=g1) xx (zafo rs ps ra ta rcap tc _ (HR.out.ext xx) (HT.out.ext xx) HV.out HVT.out) fun g2 hgr=>?_
 clear hgr;go_wp2_with fail;refine ze1 (W0:=W0) (g:=g2) xx (zjk ps ta tc 103 #[] (fun _=>false) _ (by omega) (HCC.out.imp id fun⟨b',off,e,hc⟩=>⟨b',off,e,fun i hi=>⟨zh xx (hc i hi).1,zh xx (hc i hi).2⟩⟩) (fun args W=>Tryz.call103 args W) (fun x hx W hW=>zafp x.2 x.1 W ((HT.out.sets x hx).ext (Ext.trans' xx hW)) (HU.out x hx))) fun g3 hgr=>?_
 clear hgr;rw[zso];go_wp2_with fail;go_ret;exact⟨rfl,HW.out.trans' (zb7 W0 _)⟩
theorem zsp(rs:List Nat)(ps:List (Value×Tk))(ra ta:Option Addr)(rcap tc:Nat)(w:World)(hr:zo w .i64 (.slice ra rs.length rcap) (zy rs))(ht:ze4 w (.slice ta ps.length tc) ps)(V:zfr rs)(VT:zjj rs (zac ps)) :
  Calls Tryz.prog 25 #[.agg #[.slice ra rs.length rcap],.slice ta ps.length tc] w fun e w'=>∃p,e=.returned (.tuple #[.pointer (some ⟨p,0,none⟩),.int .i64 0])∧Ext w w'∧w.heap.size≤p∧zc2 w' p (.slice ra rs.length rcap) (.slice ta ps.length tc):=by
 have HT0:=hid ht;have HV:=hid V;have HVT:=hid VT;clear ht V VT
 go_enter Tryz.func25,Tryz.ntmps25
 go_upto_region 1 with(fail);obtain⟨W0,hW0⟩:∃W0,W0=w.alloc (.cells #[.slice ra rs.length rcap] 29):=⟨_,rfl⟩
 have hE:Ext w W0:=by rw[hW0];exact xx
 have k0:W0.cell? ⟨w.heap.size,0,none⟩=some (.slice ra rs.length rcap):=by rw[hW0];simp[go_sem]
 have hz:w.heap.size<W0.heap.size:=wfu _ _ k0;have HW:=hid hE;have HR:=hid (zo.ext hE hr);rw[←hW0];clear hW0 hr;have HT:=hid (HT0.out.ext HW.out);clear HT0 hE;go_wp2_with fail;refine ze1 (W0:=W0) (g:=⟨W0,Below.refl _ _⟩) xx (z4p rs ps ra ta rcap tc _ (HR.out.ext xx) (HT.out.ext xx) HV.out HVT.out) fun g1 hgr=>?_
 clear hgr;go_wp2_with fail;refine zab2 (W0:=W0) (g:=g1) xx (z4i rs ra rcap _ (HR.out.ext xx) (.slice ta ps.length tc) ta ps.length tc rfl) (fun _ _ h=>by obtain⟨_,_,h,_⟩:=h;exact h) fun _ g2 hgr hr=>?_
 obtain⟨p,rfl,hE2,hp,hS⟩:=hr;clear hgr;have HSS:=hid hS;have HE2:=hid hE2;have hsz:=hE2.size;have hgs:=(zb7 W0 g1).size;have hws:=HW.out.size;have HP:Hid (w.heap.size≤p):=hid (by omega);clear hS hE2;go_wp2_with fail;refine bodyPost_ret (v:=.tuple #[.pointer (some ⟨p,0,none⟩),.int .i64 0]) (by simp[results,Tryz.results25,go_sem]) rfl ?_
 exact⟨p,rfl,HW.out.trans' (zb7 W0 _),HP.out,HSS.out⟩
theorem zaak(s:Nat)(hs:s<64)(w:World):Calls Tryz.prog 105 #[.int .u64 (s:Int)] w fun e w'=>e=.returned (.int .i64 (ze3 s 6:Nat))∧Ext w w':=by
 have h:s=0∨s=1∨s=2∨s=3∨s=4∨s=5∨s=6∨s=7∨s=8∨s=9∨s=10∨s=11∨s=12∨s=13∨s=14∨s=15∨s=16∨s=17∨s=18∨s=19∨s=20∨s=21∨s=22∨s=23∨s=24∨s=25∨s=26∨s=27∨s=28∨s=29∨s=30∨s=31∨s=32∨s=33∨s=34∨s=35∨s=36∨s=37∨s=38∨s=39∨s=40∨s=41∨s=42∨s=43∨s=44∨s=45∨s=46∨s=47∨s=48∨s=49∨s=50∨s=51∨s=52∨s=53∨s=54∨s=55∨s=56∨s=57∨s=58∨s=59∨s=60∨s=61∨s=62∨s=63:=by omega
 rcases h with rfl|rfl|rfl|rfl|rfl|rfl|rfl|rfl|rfl|rfl|rfl|rfl|rfl|rfl|rfl|rfl|rfl|rfl|rfl|rfl|rfl|rfl|rfl|rfl|rfl|rfl|rfl|rfl|rfl|rfl|rfl|rfl|rfl|rfl|rfl|rfl|rfl|rfl|rfl|rfl|rfl|rfl|rfl|rfl|rfl|rfl|rfl|rfl|rfl|rfl|rfl|rfl|rfl|rfl|rfl|rfl|rfl|rfl|rfl|rfl|rfl|rfl|rfl|rfl
 all_goals
  go_enter Tryz.func105,Tryz.ntmps105
  go_wp2
  go_ret;exact⟨zg8 (by decide +kernel),Below.refl _ _⟩
theorem zafq(s:Nat)(hs:s<64)(w:World):Calls Tryz.prog 57 #[.int .u64 (s:Int)] w fun e w'=>e=.returned (.int .i64 (ze3 s 6:Nat))∧Ext w w':=by
 go_enter Tryz.func57,Tryz.ntmps57
 go_wp2_with fail;refine(zaak s hs w).mono ?_
 rintro e W ⟨rfl,hE⟩;go_wp2_with fail;go_ret;exact⟨rfl,hE⟩
theorem zzs(s:Nat):∀k,ze3 s k≤k
 |0=>weq _
 |k+1=>by
  have:=zzs s k;unfold ze3
  split<;>omega
def zb1(l:List Nat):Nat→Nat
 |0=>1
 |k+1=>zb1 l k*ze3 (l.getD k 0) 6
theorem zsq(l:List Nat):∀k,zb1 l k≤6^k
 |0=>weq _
 |k+1=>by
  unfold zb1;rw[we4];exact wez (zsq l k) (zzs _ 6)
theorem z4q(l:List Nat)(v:Value)(w:World)(hv:zo w .i64 v (zy l))(hl:l.length≤5)(hs:∀r,r<l.length→l.getD r 0<64) :
  Calls Tryz.prog 26 #[v] w fun e w'=>e=.returned (.int .i64 (zb1 l l.length:Nat))∧Ext w w':=by
 have HV:=hid hv;have HS:=hid hs;obtain⟨sa,sc,rfl,-,-,-⟩:=hv.spec;have hv2:=HV.out;rw[zad]at hv2 ⊢;have HV2:=hid hv2;clear hv hs hv2 HV
 go_enter Tryz.func26,Tryz.ntmps26
 go_wp2_with fail
 go_loopw [3,8] (fun nv iv W=>∃k:Nat,k≤l.length∧iv=.int .i64 k∧nv=.int .i64 (zb1 l k:Nat)∧Ext w W) (fun _ iv _=>l.length-(intOf iv).toNat)
 case atStart=>exact⟨0,by omega,rfl,rfl,Below.refl _ _⟩
 case round =>
  obtain⟨k,hk,rfl,rfl,hE⟩:=hrel;obtain⟨X,rfl⟩:∃X,X=wr:=⟨_,rfl⟩
  have HE:=hid hE
  by_cases hlt:k<l.length
  ·have hki:(k:Int)<(l.length:Int):=by omega
   obtain⟨sb,so,rfl,hc⟩:=za7 HV2.out hlt;have c0:=hc k hlt X hE;have z0:=wfu _ _ c0;simp only at z0;have h64:=HS.out k hlt;obtain⟨s,hs⟩:∃s:Nat,s=l.getD k 0:=⟨_,rfl⟩
   have hst:zb1 l (k+1)=zb1 l k*ze3 (l.getD k 0) 6:=rfl;rw[←hs]at c0 h64 hst;have hp:zb1 l k≤6^4:=wer (zsq l k) (we3 (by omega) (by omega));have hm:=zzs s 6;have HONES:=fun W=>zafq s h64 W
   obtain⟨m,hm2⟩:∃m,m=ze3 s 6:=⟨_,rfl⟩
   obtain⟨n,hn2⟩:∃n,n=zb1 l k:=⟨_,rfl⟩
   rw[←hm2]at hst hm HONES;rw[←hn2]at hst hp ⊢;have hb:n*m≤6^4*6:=wez hp hm;have hwm:IntKind.i64.wrap ((n:Int)*(m:Int))=((n*m:Nat):Int):=by
    rw[show(n:Int)*(m:Int)=((n*m:Nat):Int) by simp];exact wbh _ (by omega)
   have hwu:IntKind.u64.wrap (s:Int)=(s:Int):=by
    unfold IntKind.wrap;simp[IntKind.bits,IntKind.signed];omega
   have HST:=hid hst;have HON:=hid HONES;clear hc hE hs hst hp hm hm2 hn2 hb HONES;go_wp2_with fail;refine(HON.out X).mono ?_
   rintro e W9 ⟨rfl,hE9⟩;have HE9:=hid (HE.out.trans' hE9);clear hE9;go_wp2_with fail;go_roundw
   case rel=>exact⟨k+1,by omega,by go_num,by rw[HST.out];simp,HE9.out⟩
   case measure=>simp[intOf];omega
  ·have hki:¬((k:Int)<(l.length:Int)):=by omega
   have hke:k=l.length:=by omega
   obtain⟨n,hn2⟩:∃n,n=zb1 l k:=⟨_,rfl⟩
   rw[←hn2];have HN:Hid (n=zb1 l l.length):=hid (by rw[hn2,hke]);clear hE hke hn2;go_wp2_with fail;go_ret;exact⟨zg8 (by rw[HN.out]),HE.out⟩
theorem zail{w:World}{b:Nat}{x:Value}{t:Tk}(hs:zo w .i64 x (zy t.s))(c0:w.cell? ⟨b,0,none⟩=some x)(c1:w.cell? ⟨b,1,none⟩=some (.int .i64 t.u)):ze4 w (.slice (some ⟨b,0,none⟩) 1 1) [(x,t)]:=by
 refine⟨⟨some ⟨b,0,none⟩,1,rfl,by simp,by simp,.inr ⟨b,0,rfl,fun i hi k hk=>?_⟩⟩,fun y hy=>?_⟩
 ·simp only[wdg,wdj,wc4,wc9]at hi
  have:i=0:=by omega
  subst this;simp only[wdg,wdj,wcw,zt7,wc4,wc9]at hk ⊢
  match k,hk with
  |0,_=>simpa using c0
  |1,_=>simpa using c1
 ·simp only[wd0]at hy
  subst hy;exact hs
theorem zac0(rs:List Nat)(t:Tk)(x:Value)(ra:Option Addr)(rcap:Nat)(w:World)(hr:zo w .i64 (.slice ra rs.length rcap) (zy rs))(hx:zo w .i64 x (zy t.s))(V:zfr rs)(VT:zjj rs [t]) :
  Calls Tryz.prog 9 #[.agg #[.slice ra rs.length rcap],.agg #[x,.int .i64 t.u]] w fun e w'=>e=.returned (.tuple #[.int .i64 (zb1 t.s t.s.length:Nat),.int .i64 0])∧Ext w w':=by
 have HX:=hid hx;have HR:=hid hr;have HV:=hid V;have HVT:=hid VT;have hlen:=VT.len t (by simp);have hl5:t.s.length≤5:=by rw[hlen];exact V.hi
 have h64:∀r,r<t.s.length→t.s.getD r 0<64:=fun r hr=>by
  have h1:=VT.each t (by simp) r (by rw[←hlen];exact hr);have h2:=z4k (V.each r (by rw[←hlen];exact hr)).2;omega
 have H64:=hid h64;have HL5:=hid hl5;obtain⟨sa,sc,rfl,-,-,-⟩:=hx.spec;obtain⟨sn,hsn⟩:∃sn,sn=(zy t.s).length:=⟨_,rfl⟩
 rw[←hsn]at HX ⊢;obtain⟨u,hu⟩:∃u,u=t.u:=⟨_,rfl⟩
 rw[←hu];have HU:=hid hu;clear hr hx V VT hlen hl5 h64 hsn hu
 go_enter Tryz.func9,Tryz.ntmps9
 go_upto_region 1 with(fail);obtain⟨W0,hW0⟩:∃W0,W0=(w.alloc (.cells #[.slice ra rs.length rcap] 29)).alloc (.cells #[.slice sa sn sc,.int .i64 u] 35):=⟨_,rfl⟩
 have hE:Ext w W0:=by rw[hW0];exact xx
 have k0:W0.cell? ⟨w.heap.size,0,none⟩=some (.slice ra rs.length rcap):=by rw[hW0];simp[go_sem]
 have k1:W0.cell? ⟨w.heap.size+1,0,none⟩=some (.slice sa sn sc):=by rw[hW0];simp[go_sem]
 have k2:W0.cell? ⟨w.heap.size+1,1,none⟩=some (.int .i64 u):=by rw[hW0];simp[go_sem]
 have hz1:w.heap.size+1<W0.heap.size:=wfu _ _ k1;have hz0:w.heap.size<W0.heap.size:=by omega
 have HW:=hid hE;replace HR:=hid (HR.out.ext hE);replace HX:=hid (HX.out.ext hE);rw[←hW0];clear hW0 hE;go_wp2_with fail;refine zab2 (W0:=W0) (g:=⟨W0,Below.refl _ _⟩) xx (zsp rs [(.slice sa sn sc,t)] ra (some ⟨W0.heap.size,0,none⟩) rcap 1 _ (HR.out.ext xx) (zail (HX.out.ext xx) (by simp[go_sem]) (by rw[←HU.out];simp[go_sem])) HV.out HVT.out) (fun _ _ h=>by obtain⟨_,_,h,_⟩:=h;exact h) fun _ g1 hgr hr=>?_
 obtain⟨p,rfl,hE2,hp,hS⟩:=hr;clear hgr;clear hE2 hp hS;go_wp2_with fail;refine ze1 (W0:=W0) (g:=g1) xx (z4q t.s _ _ (HX.out.ext xx) HL5.out H64.out) fun g2 hgr=>?_
 clear hgr;go_wp2_with fail;refine bodyPost_ret (v:=.tuple #[.int .i64 (zb1 t.s t.s.length:Nat),.int .i64 0]) (by simp[results,Tryz.results9,go_sem]) rfl ?_
 exact⟨rfl,HW.out.trans' (zb7 W0 _)⟩
theorem zafr(l:List Int)(v:Value)(x:Int)(w:World)(hv:zo w .i64 v l) :
  Calls Tryz.prog 17 #[v,.int .i64 x] w fun e w'=>e=.returned (.bool (decide (x∈l)))∧Ext w w':=by
 obtain⟨sa,sc,rfl,hc1,hc2,hc⟩:=hv.spec;have hlm:l.length≤9223372036854775807:=by omega
 have HC:=hid hc;clear hc hv hc1 hc2
 go_enter Tryz.func17,Tryz.ntmps17
 go_wp2_with fail
 go_loopw [5] (fun iv W=>∃k:Nat,k≤l.length∧iv=.int .i64 k∧(∀y∈l.take k,y≠x)∧W=w) (fun iv _=>l.length-(intOf iv).toNat)
 case atStart=>exact⟨0,by omega,rfl,by simp,rfl⟩
 case round =>
  obtain⟨k,hk,rfl,hno,rfl⟩:=hrel;have HN:=hid hno;clear hno
  by_cases hlt:k<l.length
  ·have hki:(k:Int)<(l.length:Int):=by omega
   rcases HC.out with h0|⟨sb,so,rfl,hcc⟩
   ·rw[h0]at hlt;simp at hlt
   have c0:=hcc k hlt;have hmem:l[k]∈l:=wcy hlt;have htk:l.take (k+1)=l.take k++[l[k]]:=by rw[wea,wcn hlt];rfl
   obtain⟨y,hy⟩:∃y,y=l[k]:=⟨_,rfl⟩
   rw[←hy]at c0 hmem htk
   by_cases he:y=x
   ·have heb:(y == x)=true:=by rw[beq_iff_eq];exact he
    have HM:Hid (x∈l):=hid (by rw[←he];exact hmem);clear hcc hy he hmem htk;go_wp2_with fail;go_ret;exact⟨zcp (by rw[decide_eq_true HM.out]),Below.refl _ _⟩
   ·have heb:(y == x)=false:=by rw[beq_eq_false_iff_ne];exact he
    have HN2:Hid (∀z∈l.take (k+1),z≠x):=hid fun z hz=>by
     rw[htk]at hz
     rcases wdm.1 hz with hz|hz
     ·exact HN.out z hz
     ·simp only[wd0]at hz
      rw[hz];exact he
    clear hcc hy he hmem htk;go_wp2_with fail;go_roundw
    case rel=>exact⟨k+1,by omega,by go_num,HN2.out,trivial⟩
    case measure=>simp[intOf];omega
  ·have hki:¬((k:Int)<(l.length:Int)):=by omega
   have HF:Hid (¬x∈l):=hid fun hx=>by
    have h:=HN.out x (by rw[wec (by omega)];exact hx);exact h rfl
   go_wp2_with fail;go_ret;exact⟨zcp (by rw[decide_eq_false HF.out]),Below.refl _ _⟩
def zet(l:List Nat):List Nat:=l.map fun i=>2^i
theorem zafs(l:List Nat)(k:Nat)(h:k<l.length):zet (l.take (k+1))=zet (l.take k)++[2^l.getD k 0]:=by
 unfold zet;rw[wea,wcn h,wde,wch,wcn h];rfl
theorem z66(l:List Nat)(lv:Value)(w:World)(hl:zo w .i64 lv (zy l))(h6:∀k,k<l.length→l.getD k 0<6)(h9:l.length≤1000) :
  Calls Tryz.prog 36 #[lv] w fun e w'=>∃v,e=.returned v∧Ext w w'∧zab w' w.heap.size 3 1 v ((zy (zet l)).map zas):=by
 obtain⟨la,lc,rfl,-,-,-⟩:=hl.spec;rw[zad]at hl ⊢;have HR:=hid hl;have H6:=hid h6;clear hl h6
 go_enter Tryz.func36,Tryz.ntmps36
 go_wp2_with fail
 go_loopw [3,8] (fun ov iv W=>∃k:Nat,k≤l.length∧iv=.int .i64 k∧zab W w.heap.size 3 1 ov ((zy (zet (l.take k))).map zas)∧Ext w W) (fun _ iv _=>l.length-(intOf iv).toNat)
 case atStart=>exact⟨0,by omega,rfl,zab.nil _ _ _ _,Below.refl _ _⟩
 case round =>
  obtain⟨k,hk,rfl,ho,hE⟩:=hrel;obtain⟨X,rfl⟩:∃X,X=wr:=⟨_,rfl⟩
  have HO:=hid ho;have HE:=hid hE;obtain⟨oa,on,oc,rfl⟩:=ho.isSlice
  by_cases hlt:k<l.length
  ·have hki:(k:Int)<(l.length:Int):=by omega
   obtain⟨rb,ro,rfl,hc⟩:=za7 HR.out hlt;have cr:=hc k hlt X hE;have zr:=wfu _ _ cr;simp only at zr;have hb:=H6.out k hlt;have hat:=zafs l k hlt;obtain⟨n,hn⟩:∃n:Nat,n=l.getD k 0:=⟨_,rfl⟩
   rw[←hn]at cr hb hat;obtain⟨h1,h2,h3⟩:=zjf (show n≤6 by omega);obtain⟨N,hN⟩:∃N:Nat,N=2^n:=⟨_,rfl⟩
   rw[←hN]at h1 h2 h3 hat;have hmin:min n 64=n:=by omega
   have HAT:Hid ((zy (zet (l.take (k+1)))).map zas=(zy (zet (l.take k))).map zas ++ [[.int .i64 (N:Int)]]):=hid (by
    rw[hat];simp[zy,zas])
   have HLEN:Hid (((zy (zet (l.take k))).map zas).length + [[Value.int .i64 (N:Int)]].length≤1000000):=hid (by simp[zy,zet];omega);clear hc hn hN hat ho hE hb h2 h3;go_wp2_with (at_builtin;go_loud (refine zahi rfl (.tmp 12) (.tmp 15) zgc rfl w.heap.size rfl (HO.out.ext (by exact xx)) X.heap.size 0 1 [[.int .i64 (N:Int)]] rfl (by simp) (z3q _ [.int .i64 (N:Int)] _ _ _ rfl rfl) (by simp[Value.oneCell']) HLEN.out (by have:=HE.out.size;simp;omega) ?_));intro v' W4 hown4 hb4;obtain⟨va2,vn,vc2,rfl⟩:=hown4.isSlice;have hE4:Ext w W4:=Below.trans (HE.out.trans' (by exact xx:Ext X (X.alloc (.cells #[.int .i64 (N:Int)] 3)))) hb4;have HO4:=hid hown4;have HE4:=hid hE4;clear hown4 hb4 hE4;go_wp2_with fail;go_roundw
   case rel=>exact⟨k+1,by omega,by go_num,by rw[HAT.out];exact HO4.out,HE4.out⟩
   case measure=>simp[intOf];omega
  ·have hki:¬((k:Int)<(l.length:Int)):=by omega
   have HO3:Hid (zab X w.heap.size 3 1 (.slice oa on oc) ((zy (zet l)).map zas)):=hid (by
    have hke:k=l.length:=by omega
    rw[hke,List.take_length]at ho;exact ho)
   clear ho hE;go_wp2_with fail;refine bodyPost_ret (v:=.slice oa on oc) (by simp[results,Tryz.results36,go_sem]) rfl ?_
   exact⟨_,rfl,HE.out,HO3.out⟩
theorem z67(u:Int)(sa:Option Addr)(n c:Nat)(w:World) :
  Calls Tryz.prog 7 #[.int .i64 u,.slice sa n c] w fun e w'=>e=.returned (.agg #[.slice sa n c,.int .i64 u])∧Ext w w':=by
 go_enter Tryz.func7,Tryz.ntmps7
 go_wp2_with fail;refine bodyPost_ret (v:=.agg #[.slice sa n c,.int .i64 u]) (by simp[results,Tryz.results7,go_sem]) rfl ?_
 exact⟨rfl,xx⟩
end Go.Proofs.YtdcnbeehckgpcaaGreat
