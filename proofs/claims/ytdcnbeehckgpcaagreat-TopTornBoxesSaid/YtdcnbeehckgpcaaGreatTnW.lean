/-
  The walk of the statement on torn tickets and boxes.
-/
import Derived.Test.YtdcnbeehckgpcaaGreatYd
import Derived.Test.YtdcnbeehckgpcaaGreatLy
set_option maxRecDepth 200000
set_option maxHeartbeats 0
set_option linter.unusedSimpArgs false
set_option linter.unusedVariables false
namespace Go.Proofs.YtdcnbeehckgpcaaGreat
open Go.Lib (hid)
open Go.RowKit Go.Shelf
attribute [local go_sem] Oper.semAt_some
structure zrq(W:World)(ra:Option Addr)(rc:Nat)(rs:List (Value×List Nat)):Prop where
 rows:zao W 1 (.slice ra rs.length rc) (rs.map fun x=>[x.1])
 each:∀x∈rs,zo W .u8 x.1 (zy x.2)∧∀y∈x.2,y≤255
theorem zrq.ext{W W':World}(e:Ext W W'){ra:Option Addr}{rc:Nat}{rs:List (Value×List Nat)}(h:zrq W ra rc rs):zrq W' ra rc rs:=⟨zao.ext e h.rows,fun x hx=>⟨(h.each x hx).1.ext e,(h.each x hx).2⟩⟩
theorem zrq.cell{w:World}{ca:Option Addr}{cc:Nat}{cs:List (Value×List Nat)}(h:zrq w ca cc cs){k:Nat}(hk:k<cs.length):∃b off,ca=some ⟨b,off,none⟩∧∀k,(hk:k<cs.length)→w.cell? ⟨b,off+k,none⟩=some cs[k].1:=by
 obtain⟨_,_,e0,-,-,hc⟩:=h.rows;simp only[wc8,wft]at e0;obtain⟨rfl,-,rfl⟩:=e0
 rcases hc with h0|⟨b,off,rfl,hc⟩
 ·have:cs.length=0:=by simpa using congrArg List.length h0
  omega
 ·refine⟨b,off,rfl,fun k hk=>?_⟩
  have:=hc k (by simpa using hk) 0 (by simp);simpa using this
def zdm(W:World)(b:Nat)(v:Value):Prop:=W.heap[b]?=some (.cells #[v] 29 (0,0))
theorem zdm.cell{W:World}{b:Nat}{v:Value}(h:zdm W b v):W.cell? ⟨b,0,none⟩=some v:=by rw[cell_of_row _ _ _ _ _ _ h];rfl
theorem zdm.fr{W:World}{b:Nat}{v:Value}(h:zdm W b v)(o:Nat):W.frozen? ⟨b,o,none⟩=false:=by
 have h':W.heap[b]?=_:=h;simp[World.frozen?,h']
theorem zdm.lt{W:World}{b:Nat}{v:Value}(h:zdm W b v):b<W.heap.size:=wfu _ _ h.cell
theorem zdm.set{W:World}{b:Nat}{v:Value}(h:zdm W b v)(u:Value):zdm (W.setCell ⟨b,0,none⟩ u) b u:=zal h 0 _
theorem zdm.ext{W W':World}{b:Nat}{v:Value}(h:zdm W b v)(e:Ext W W'):zdm W' b v:=(e.block b h.lt).trans h
theorem zdm.kept{S:Nat→Prop}{W W':World}{b:Nat}{v:Value}(h:zdm W b v)(k:Kept S W W')(hs:S b):zdm W' b v:=(k.same b h.lt hs).trans h
theorem z2c{M:zl}(V:zag M){cd:List Nat}(h:cd.length=M.n)(e:cd=List.replicate M.n M.L)(h5:M.n≤5):zfr cd:=by
 refine⟨by rw[h];have:=V.n;omega,by omega,fun r hr=>?_⟩;rw[e,wch,wcs,if_pos (by omega)];have:=V.L;simp only[wfk];omega
theorem z9j{M:zl}{cd:List Nat}(e:cd=List.replicate M.n M.L){r:Nat}(h:r<M.n):cd.getD r 0=M.L:=by
 rw[e,wch,wcs,if_pos h];rfl
theorem z6u{M:zl}{cd:List Nat}(h:cd.length=M.n)(e:cd=List.replicate M.n M.L){cs:List (List Nat)}(hl:cs.length≤10)(hs:∀ss∈cs,zag (zbf M ss)∧∀i,i<M.n→1≤ss.getD i 0):zjj cd (cs.map fun ss=>⟨ss,1⟩):=by
 refine⟨by rw[wc8];exact hl,fun t ht=>?_,fun t ht r hr=>?_,fun t ht=>?_⟩
 ·obtain⟨ss,hss,rfl⟩:=wdv.1 ht
  rw[h];exact(hs ss hss).1.sl
 ·obtain⟨ss,hss,rfl⟩:=wdv.1 ht
  rw[h]at hr;have h1:=(hs ss hss).2 r hr;have h2:=(hs ss hss).1.ss r hr;rw[z9j e hr];have h2:ss.getD r 0<2^M.L:=h2;exact⟨h1,by show ss.getD r 0≤_;omega⟩
 ·obtain⟨ss,hss,rfl⟩:=wdv.1 ht
  exact⟨by show(1:Int)≤1;decide,by show(1:Int)≤1000;decide⟩
def TnS(cv lv sv:Value)(b:Nat):Prop:=some b≠cv.ownBlock∧some b≠lv.ownBlock∧some b≠sv.ownBlock
structure zahw(cv lv:Value)(S:Nat):Prop where
 c:∀g,cv.ownBlock=some g→g<S
 l:∀g,lv.ownBlock=some g→g<S
theorem zeh.hard{cv lv sv:Value}{S:Nat}(hl:zahw cv lv S){row:List Value}{i:Nat}(hi:i∈[3,7]){v:Value}{W W':World}(h:zeh S row v W)(e:HTn cv lv sv i W W'):zeh S row v W':=by
 rcases e with⟨-,e⟩|⟨-,e⟩|⟨rfl,-⟩
 ·exact h.kept e fun b hb hc=>by have:=hl.c b hc.symm;omega
 ·exact h.kept e fun b hb hc=>by have:=hl.l b hc.symm;omega
 ·simp at hi
structure zahx (cv lv sv:Value)(S:Nat):Prop where
 a:∀g,cv.ownBlock=some g→lv.ownBlock≠some g
 b:∀g,cv.ownBlock=some g→sv.ownBlock≠some g
 l:∀g,lv.ownBlock=some g→g<S
 s:∀g,sv.ownBlock=some g→g<S
theorem PTn.hard{B:Nat}{e:TypeId}{sz:Nat}{cv lv sv:Value}{rows:List (List Value)}{Y:World}(hf:zahx cv lv sv Y.heap.size){i:Nat}(hi:i∈[7,11]){v:Value}{W W':World}(h:PTn B e sz cv rows (TnS cv lv sv) Y v W)(x:HTn cv lv sv i W W'):PTn B e sz cv rows (TnS cv lv sv) Y v W':=by
 rcases x with⟨rfl,-⟩|⟨-,x⟩|⟨-,x⟩
 ·simp at hi
 ·refine h.other x (fun b _ hb=>hb.2.1) fun g hg hc=>?_
  rcases h.2.1 g hg with h1|h1
  ·exact hf.a g h1 hc.symm
  ·have:=hf.l g hc.symm;omega
 ·refine h.other x (fun b _ hb=>hb.2.2) fun g hg hc=>?_
  rcases h.2.1 g hg with h1|h1
  ·exact hf.b g h1 hc.symm
  ·have:=hf.s g hc.symm;omega
noncomputable def z6v(T:zl):Int:=if cnt T ts0=0 then 0 else (zci (opM T) (zfo T 0) ts0:Int)
def z6w(T:zl):Int:=if cnt T ts0=0 then 3 else 0
theorem zajv{T:zl}{w w':World}{e:Ending}(h:zahm T w e w'):e=.returned (.tuple #[.int .i64 (z6v T),.int .i64 (z6w T)])∧Ext w w':=by
 unfold z6v z6w;obtain⟨h0,⟨h1,h2⟩|⟨h1,h2⟩⟩:=h
 ·rw[if_pos h1,if_pos h1]
  exact⟨h2,h0⟩
 ·rw[if_neg (by omega),if_neg (by omega)]
  exact⟨h2,h0⟩
theorem zahf{u:List Nat}{k:Nat}(h:k<u.length):(zy (u.take (k+1))).map zas=(zy (u.take k)).map zas++[[.int .i64 ((u.getD k 0:Nat):Int)]]:=by
 have e:zy (u.take (k+1))=zy (u.take k)++[((u.getD k 0:Nat):Int)]:=by
  unfold zy;rw[wea,wcn h,wde,wch,wcn h];rfl
 rw[e,wde];rfl
theorem z26(M:zl)(V:zag M)(ka:Option Addr)(kc:Nat)(ra:Option Addr)(rc:Nat)(rs:List (Value×List Nat))(w:World)(hk:zo w .i64 (.slice ka M.n kc) (zy M.ks))(hr:zrq w ra rc rs) :
  Calls Tryz.prog 3 #[.agg #[.int .i64 M.L,.int .i64 M.n,.slice ka M.n kc,.int .i64 M.rest],.slice ra rs.length rc] w fun e w'=>e=.returned (.bool true)∧Ext w w':=by
 have HR:=hid hr;clear hr
 go_enter Tryz.func3,Tryz.ntmps3
 go_upto_region 1 with(fail);obtain⟨W0,hW0⟩:∃W0,W0=w.alloc (.cells #[.int .i64 M.L,.int .i64 M.n,.slice ka M.n kc,.int .i64 M.rest] 24):=⟨_,rfl⟩
 have hE:Ext w W0:=by rw[hW0];exact xx
 have k0:W0.cell? ⟨w.heap.size,0,none⟩=some (.int .i64 M.L):=by rw[hW0];simp[go_sem]
 have k1:W0.cell? ⟨w.heap.size,1,none⟩=some (.int .i64 M.n):=by rw[hW0];simp[go_sem]
 have k2:W0.cell? ⟨w.heap.size,2,none⟩=some (.slice ka M.n kc):=by rw[hW0];simp[go_sem]
 have k3:W0.cell? ⟨w.heap.size,3,none⟩=some (.int .i64 M.rest):=by rw[hW0];simp[go_sem]
 have hz:w.heap.size<W0.heap.size:=wfu _ _ k0;have HW:=hid hE;have HK:=hid (zo.ext hE hk);rw[←hW0];clear hW0 hk hE;have hd6:=zac7 M.L M.n M.rest (zy M.ks) ka kc W0 (by rw[zad,V.kl];exact HK.out);rw[zad,V.kl]at hd6;go_wp2_with fail;refine hd6.mono ?_
 rintro e W1 ⟨b,rfl,hE1,hb⟩;have HE1:=hid hE1;have HD:Hid (∀W,Ext W1 W→W.cell? ⟨w.heap.size,0,none⟩=some (.int .i64 M.L)∧W.cell? ⟨w.heap.size,1,none⟩=some (.int .i64 M.n)∧W.cell? ⟨w.heap.size,2,none⟩=some (.slice ka M.n kc)∧W.cell? ⟨w.heap.size,3,none⟩=some (.int .i64 M.rest)∧w.heap.size<W.heap.size) :=
  hid fun W e=>⟨zh (hE1.trans' e) k0,zh (hE1.trans' e) k1,zh (hE1.trans' e) k2,zh (hE1.trans' e) k3,wet hz (hE1.trans' e).size⟩
 obtain⟨k0,k1,k2,k3,hz⟩:=HD.out W1 (Below.refl _ _);have HB:=hid hb;have HW1:=hid (HW.out.trans' hE1);clear hE1 hd6 hb;cases b
 ·go_wp2_with fail
  refine(zer _).mono ?_
  rintro e W9 ⟨rfl,hE9⟩;go_wp2_with fail;go_ret;exact⟨rfl,HW1.out.trans' hE9⟩
 obtain⟨-,hfew⟩:=HB.out rfl;have HFEW:=hid hfew;clear hfew
 by_cases hn5:5<M.n
 ·have hn5i:(5:Int)<(M.n:Int):=by omega
  go_wp2_with fail;refine(zer _).mono ?_
  rintro e W9 ⟨rfl,hE9⟩;go_wp2_with fail;go_ret;exact⟨rfl,HW1.out.trans' hE9⟩
 have hn5i:¬((5:Int)<(M.n:Int)):=by omega
 by_cases hr1:rs.length<1
 ·have hr1i:(rs.length:Int)<1:=by omega
  go_wp2_with fail;refine(zer _).mono ?_
  rintro e W9 ⟨rfl,hE9⟩;go_wp2_with fail;go_ret;exact⟨rfl,HW1.out.trans' hE9⟩
 have hr1i:¬((rs.length:Int)<1):=by omega
 by_cases hr6:6<rs.length
 ·have hr6i:(6:Int)<(rs.length:Int):=by omega
  go_wp2_with fail;refine(zer _).mono ?_
  rintro e W9 ⟨rfl,hE9⟩;go_wp2_with fail;go_ret;exact⟨rfl,HW1.out.trans' hE9⟩
 have hr6i:¬((6:Int)<(rs.length:Int)):=by omega
 go_upto_region 4 with(fail);obtain⟨W2,hW2⟩:∃W2,W2=W1.alloc (.cells #[.slice none 0 0] 29):=⟨_,rfl⟩
 rw[←hW2];have g0:zdm W2 W1.heap.size (.slice none 0 0):=by
  rw[hW2];show(W1.heap.push _)[W1.heap.size]?=_;rw[wae,if_pos rfl]
 have hE2:Ext W1 W2:=by rw[hW2];exact xx
 obtain⟨C,hC⟩:∃C,C=W1.heap.size:=⟨_,rfl⟩
 have hs2:W2.heap.size=C+1:=by rw[hW2,hC];simp[go_sem]
 rw[←hC]at g0 ⊢;have HC:=hid hC;have HS2:=hid hs2;have HE2:=hid hE2;clear hC hs2 hW2 hE2 k0 k1 k2 k3 hz;go_wp2_with fail
 go_loopw [6] (fun iv W=>∃(k:Nat) (lv:Value),k≤M.n∧iv=.int .i64 k∧Ext W1 W∧zdm W C lv∧zab W (C+1) 3 1 lv ((zy (List.replicate k M.L)).map zas)) (fun iv _=>M.n-(intOf iv).toNat)
 case atStart=>exact⟨0,_,by omega,rfl,HE2.out,g0,zab.nil _ _ _ _⟩
 case round =>
  obtain⟨k,lv,hk1,rfl,hE,g0,ho⟩:=hrel;obtain⟨Y,rfl⟩:∃Y,Y=wr:=⟨_,rfl⟩
  obtain⟨k0,k1,k2,k3,hz⟩:=HD.out Y hE;have hzC:=g0.lt;have gc0:=g0.cell;have HO:=hid ho;have HE:=hid hE;clear ho hE
  by_cases hlt:k<M.n
  ·have hki:(k:Int)<(M.n:Int):=by omega
   have hoA:=HO.out.ext (show Ext Y (Y.alloc (.cells #[.int .i64 (M.L:Int)] 3))from xx);obtain⟨v',Y2,hrun,q2,q3,q4⟩:=zfy zgc 22 (C+1) hoA Y.heap.size 0 1 [[.int .i64 (M.L:Int)]] (by simp) (newRow _ [.int .i64 (M.L:Int)] _) (by simp[Value.oneCell']) (by rw[wc8,zad,wdb];have:=V.n;simp;omega) (by rw[wfx];omega);have gA:=g0.ext (show Ext Y (Y.alloc (.cells #[.int .i64 (M.L:Int)] 3))from xx);have hfar:∀g,lv.ownBlock=some g→C+1≤g:=fun g hg=>(HO.out.notOwn g hg).1
   have g2:=gA.kept q3 (fun e=>by have:=hfar C e.symm;omega);have g3:=g2.set v';have hE3:Ext W1 (Y2.setCell ⟨C,0,none⟩ v'):=by
    have e1:Ext W1 (Y.alloc (.cells #[.int .i64 (M.L:Int)] 3)):=HE.out.trans' xx;have e2:Ext W1 Y2:=e1.trans (Kept.below (q3.mono (T:=fun b=>b<W1.heap.size) fun b _ hb e=>by have:=hfar b e.symm;rw[HC.out]at this;omega) e1.size);exact e2.setCell (by rw[HC.out];exact weq _) _
   have ho3:zab (Y2.setCell ⟨C,0,none⟩ v') (C+1) 3 1 v' ((zy (List.replicate (k+1) M.L)).map zas):=by
    have:=q2.keptAt (zdi Y2 C 0 v') fun g _ hg _ _=>by omega
    rw[List.replicate_succ'];simpa[zy,zas]using this
   obtain⟨va,vn,vc,rfl⟩:=q2.isSlice;have gc2:=g2.cell;have gf2:=g2.fr 0;have hz2:=g2.lt;have HG3:=hid g3;have HE3:=hid hE3;have HO3:=hid ho3;clear hoA q2 q3 q4 gA hfar g2 g3 hE3 ho3 g0;go_wp2_with (at_builtin;refine zhb rfl (.tmp 57) (.tmp 60) rfl rfl rfl hrun ?_);exact⟨⟨k+1,_,by omega,by go_num,HE3.out,HG3.out,HO3.out⟩,by simp[intOf];omega⟩
  ·have hki:¬((k:Int)<(M.n:Int)):=by omega
   have hkn:k=M.n:=by omega
   subst hkn;obtain⟨cd,hcd⟩:∃cd,cd=List.replicate M.n M.L:=⟨_,rfl⟩
   rw[←hcd]at HO;have hcn:cd.length=M.n:=by rw[hcd,wdb]
   have hci:=HO.out.oneInts;obtain⟨va,vc,rfl,-⟩:=hci.spec;rw[zad]at hci HO g0 gc0;have HCN:=hid hcn;have HCD:=hid hcd;have HCI:=hid hci;have HG:=hid g0;obtain⟨rb,ro,rfl,hcl⟩:=HR.out.cell (k:=0) (by omega);have HWY:=hid (HW1.out.trans' HE.out);have HCL:Hid (∀W,Ext Y W→∀k,(hk:k<rs.length)→W.cell? ⟨rb,ro+k,none⟩=some rs[k].1):=hid fun W e k hk=>zh (HWY.out.trans' e) (hcl k hk)
   have HDY:Hid (∀W,Ext Y W→W.cell? ⟨w.heap.size,0,none⟩=some (.int .i64 M.L)∧W.cell? ⟨w.heap.size,1,none⟩=some (.int .i64 M.n)∧W.cell? ⟨w.heap.size,2,none⟩=some (.slice ka M.n kc)∧W.cell? ⟨w.heap.size,3,none⟩=some (.int .i64 M.rest)∧w.heap.size<W.heap.size):=hid fun W e=>HD.out W (HE.out.trans' e)
   have HKY:Hid (∀W,Ext Y W→zo W .i64 (.slice ka M.n kc) (zy M.ks)):=hid fun W e=>HK.out.ext (HE1.out.trans' (HE.out.trans' e))
   clear hcn hcd hci hcl;go_wp2_with fail;clear k0 k1 k2 k3 hz g0 gc0
   go_loopw [7,8,9,10] (fun cv lv sv iv W=>∃(k:Nat) (cs:List (Value×List Nat)),k≤rs.length∧iv=.int .i64 k∧zeu Y M k cv lv sv cs W) (fun _ _ _ iv _=>rs.length-(intOf iv).toNat)
   case atStart=>exact⟨0,[],by omega,rfl,zeu.nil Y M⟩
   case round =>
    obtain⟨k,cs,hk1,rfl,hT⟩:=hrel;obtain⟨X,rfl⟩:∃X,X=wr:=⟨_,rfl⟩
    obtain⟨pa,pn,pc,rfl⟩:=hT.c.isSlice;obtain⟨qa,qn,qc,rfl⟩:=hT.l.isSlice;obtain⟨za,zn,zc,rfl⟩:=hT.s.isSlice;obtain⟨k0,k1,k2,k3,hz⟩:=HDY.out X hT.e;have HT:=hid hT;clear hT
    by_cases hlt:k<rs.length
    ·have hki:(k:Int)<(rs.length:Int):=by omega
     have hcb:=HCL.out X HT.out.e k hlt;obtain⟨hbi,hb8⟩:=HR.out.each _ (wcy hlt);obtain⟨bv,hbv⟩:∃bv,bv=rs[k].1:=⟨_,rfl⟩
     obtain⟨bl,hbl⟩:∃bl,bl=rs[k].2:=⟨_,rfl⟩
     rw[←hbv]at hcb hbi;rw[←hbl]at hbi hb8;have hbx:=hbi.ext (HWY.out.trans' HT.out.e);obtain⟨ba,bc,rfl,-⟩:=hbx.spec;rw[zad]at hbx hcb;have zcb:=wfu _ _ hcb;simp only at zcb;have HB8:=hid hb8;have HBX:=hid hbx;clear hbi hb8 hbv hbl hbx
     by_cases h20:20<bl.length
     ·have h20i:(20:Int)<(bl.length:Int):=by omega
      go_wp2_with fail;refine(zer _).mono ?_
      rintro e W9 ⟨rfl,hE9⟩;go_wp2_with fail;go_ret;exact⟨rfl,(HWY.out.trans' HT.out.e).trans' hE9⟩
     have h20i:¬((20:Int)<(bl.length:Int)):=by omega
     go_upto_region 16 with(fail);refine zb8 (X.heap.size) (weq _)
      [sqV (.agg #[.int .i64 M.L,.int .i64 M.n,.slice ka M.n kc,.int .i64 M.rest]),sqV (.slice (some ⟨rb,ro,none⟩) rs.length rc),sqV (.int .i64 k),sqV (.pointer (some ⟨rb,ro+k,none⟩)),sqV (.slice ba bl.length bc),sqW (fun v W=>∃sa sc,v=.slice sa M.n sc∧zab W X.heap.size 3 1 v ((zy (zdf M bl M.n)).map zas)) (fun _ _ _ ⟨sa,sc,h1,h2⟩ e=>⟨sa,sc,h1,h2.ext e⟩),sqD [5] (fun l v W=>v=l.headD undef) (fun _ _ _ _ h _=>h)]
      [true,true,true,true,true,false,false] [false,false,false,false,false,false,false] [true,true,true,true,true,true,true] [true,true,true,true,true,true,true]
      (by kernel_rfl) (by kernel_rfl) (by decide +kernel) (by decide +kernel) (by decide +kernel) rfl ⟨rfl,rfl⟩ ⟨?s0,?s1,?s2,?s3,?s4,?s5,?s6,trivial⟩ [some 76,some 77,some 78,some 79,some 80,some 81,some 11] rfl rfl ?send
     case s0 =>
      intro f g W b e d a c;have o0:g (.tmp 2)=.pointer (some ⟨w.heap.size,0,none⟩):=a.old 2 (by decide);have f_k0:=cell_below b (by simp only;omega) k0;have f_k1:=cell_below b (by simp only;omega) k1;have f_k2:=cell_below b (by simp only;omega) k2;have f_k3:=cell_below b (by simp only;omega) k3;exact ze (by simp[execOp,o0,f_k0,f_k1,f_k2,f_k3,go_sem]) rfl
     case s1 =>
      intro f g W b e d a c;have o0:g (.tmp 1)=.slice (some ⟨rb,ro,none⟩) rs.length rc:=a.old 1 (by decide);exact ze (by simp[execOp,o0,go_sem]) rfl
     case s2 =>
      intro f g W b e d a c;have o0:g (.tmp 10)=.int .i64 k:=a.old 10 (by decide);exact ze (by simp[execOp,o0,go_sem]) rfl
     case s3 =>
      intro f g W b e d a c;have d1:g (.tmp 77)=.slice (some ⟨rb,ro,none⟩) rs.length rc:=dpv a d 1 77;have d2:g (.tmp 78)=.int .i64 k:=dpv a d 2 78;exact ze (by simp[execOp,d1,d2,hki,go_sem]) rfl
     case s4 =>
      intro f g W b e d a c;have d3:g (.tmp 79)=.pointer (some ⟨rb,ro+k,none⟩):=dpv a d 3 79;have f_hcb:=cell_below b (by simp only;omega) hcb;exact ze (by simp[execOp,d3,f_hcb,go_sem]) rfl
     case s5 =>
      intro g h W b f d a c;have e1:h (.tmp 76)=.agg #[.int .i64 M.L,.int .i64 M.n,.slice ka M.n kc,.int .i64 M.rest]:=dpv a d 0 76;have e2:h (.tmp 80)=.slice ba bl.length bc:=dpv a d 4 80;refine zbx 6 _ _ rfl #[.agg #[.int .i64 M.L,.int .i64 M.n,.slice ka M.n kc,.int .i64 M.rest],.slice ba bl.length bc] (a.func _) (by simp[e1,e2]) (fun args W=>Tryz.call6 args W) ((z64 M V ka kc bl HB8.out _ W (HKY.out W (HT.out.e.trans' b)) (HBX.out.ext b)).mono ?_);rintro e w' ⟨sa,sc,rfl,hb,ho⟩;exact⟨_,rfl,hb,sa,sc,rfl,zab.base f ho⟩
     case s6 =>
      intro f g W b e d a c;have e5:g (.tmp 81)=f 5:=a.dep 5 (by decide) 81 rfl;exact zgi (v:=f 5) (W':=W) (by simp[execOp,e5,go_sem]) (Below.refl _ _) rfl
     case send =>
      intro val X1 hE1 hzz hv;obtain⟨-,-,-,-,-,r5,r6,-⟩:=hv;obtain⟨sa,sc,e5,ho⟩:=r5;have q6:val 6=.slice sa M.n sc:=Eq.trans r6 e5;rw[e5]at ho;simp only[za9,q6];go_frame;have hTX:=HT.out.e.trans' hE1;obtain⟨k0,k1,k2,k3,hz⟩:=HDY.out X1 hTX;have hok:zag (zbf M (zdf M bl M.n))∧∀i,i<M.n→1≤(zdf M bl M.n).getD i 0:=⟨zaig V bl,zact V bl⟩
      have hsl:(zdf M bl M.n).length=M.n:=zkb _ _ _;obtain⟨ss,hss⟩:∃ss,ss=zdf M bl M.n:=⟨_,rfl⟩
      rw[←hss]at ho hok hsl;have HOK:=hid hok;have HSL:=hid hsl;have HOT:=hid ho;have HTX:=hid hTX;have HE1:Hid (Ext X X1):=hid hE1;clear hE1 hzz r6 q6 e5 ho hTX hok hsl hss hcb zcb h20i h20;go_wp2_with fail;refine(z67 1 sa M.n sc X1).mono ?_
      rintro e X2 ⟨rfl,hE2⟩;have hT2:=HTX.out.trans' hE2;obtain⟨k0,k1,k2,k3,hz⟩:=HDY.out X2 hT2;have HE2:=hid hE2;clear hE2 hT2;go_upto_region 18 with(fail);obtain⟨X3,hX3⟩:∃X3,X3=X2.alloc (.cells #[.slice sa M.n sc,.int .i64 1] 35):=⟨_,rfl⟩
      rw[←hX3];have hE3:Ext X2 X3:=by rw[hX3];exact xx
      obtain⟨R,hR⟩:∃R,R=X2.heap.size:=⟨_,rfl⟩
      have x0:X3.cell? ⟨R,0,none⟩=some (.slice sa M.n sc):=by rw[hX3,hR];simp[go_sem]
      have x1:X3.cell? ⟨R,1,none⟩=some (.int .i64 1):=by rw[hX3,hR];simp[go_sem]
      have HRX:Hid (X.heap.size≤R):=hid (by rw[hR];exact wer HE1.out.size HE2.out.size);rw[←hR];have HX1:Hid (Ext X X3):=hid ((((show Ext X X1 from HE1.out)).trans' HE2.out).trans' hE3);have HX3:Hid (Ext Y X3):=hid (HT.out.e.trans' HX1.out);have HE3:Hid (Ext X1 X3):=hid (HE2.out.trans' hE3);have HO3:=hid (HOT.out.ext HE3.out);have HXX:=hid (show ∀W,Ext X3 W→W.cell? ⟨R,0,none⟩=some (.slice sa M.n sc)∧W.cell? ⟨R,1,none⟩=some (.int .i64 1)∧R<W.heap.size from fun W e=>⟨zh e x0,zh e x1,wfu _ _ (zh e x0)⟩);obtain⟨k0,k1,k2,k3,hz⟩:=HDY.out X3 HX3.out;have hfi:=zacg (zbf M ss) HOK.out.1 HOK.out.2 ka sa kc sc [] ⟨by simp,fun k hk=>by simp at hk⟩ (.slice none 0 0) X3 (HKY.out X3 HX3.out) (HO3.out.oneInts) (zab.nil X3 0 45 2).isRows;obtain⟨nf,hnf⟩:∃nf,nf=cnt (zbf M ss) ts0:=⟨_,rfl⟩
      obtain⟨ng,hng⟩:∃ng,ng=z91 (zbf M ss) []:=⟨_,rfl⟩
      rw[←hnf,←hng]at hfi;have HNF:=hid hnf;clear hX3 hR hE3 hng hnf x0 x1;go_wp2_with fail;refine hfi.mono ?_
      rintro e X4 ⟨rfl,hE4⟩;clear hfi k0 k1 k2 k3 hz;have hgc:=HG.out.ext (HX3.out.trans' hE4);have gc0:=hgc.cell;have gcz:=hgc.lt;obtain⟨x0,x1,zR⟩:=HXX.out X4 hE4;have hsz:=zac0 cd ⟨ss,1⟩ (.slice sa M.n sc) va vc X4 (HCI.out.ext (HX3.out.trans' hE4)) ((HO3.out.ext hE4).oneInts) (z2c V HCN.out HCD.out (by omega)) (z6u (cs:=[ss]) HCN.out HCD.out (by simp) fun x hx=>by rw[wd0]at hx;rw[hx];exact HOK.out);have hle:=zakc (M:=opM M) (T:=zbf M ss) ⟨rfl,rfl,rfl,rfl⟩ (zqh M) V.L.2;obtain⟨zs,hzs⟩:∃zs,zs=zb1 ss ss.length:=⟨_,rfl⟩
      have hle2:nf≤zs:=by rw[hzs,HNF.out,HSL.out];exact hle
      rw[←hzs]at hsz;have HE4:=hid hE4;clear hE4 hle hzs;go_wp2_with fail;refine hsz.mono ?_
      rintro e X5 ⟨rfl,hE5⟩;have hnz:¬((zs:Int)<(nf:Int)):=by omega
      obtain⟨x0,x1,zR⟩:=HXX.out X5 (HE4.out.trans' hE5);have HE5:=hid (HE4.out.trans' hE5);clear hE5 hsz gc0 gcz hgc;go_upto_region 22 with(fail);have HT5:=hid (HT.out.ext (HX1.out.trans' HE5.out));have HTV5:=hid ((HO3.out.ext HE5.out));have HKN:Hid (k≤1000):=hid (by omega);have hB5:Y.heap.size≤X5.heap.size:=HT5.out.e.size;have hpR:∀g,(Value.slice pa pn pc).ownBlock=some g→g≠R:=fun g hg e=>by
       have h1:=(HT.out.c.notOwn g hg).2;have h2:X.heap.size≤R:=HRX.out;omega
      have HB5:=hid hB5;have HFR:Hid (zahx (.slice pa pn pc) (.slice qa qn qc) (.slice za zn zc) X5.heap.size):=hid ⟨zgp HT5.out.c HT5.out.l (by decide),zgp HT5.out.c HT5.out.s (by decide),fun g hg=>(HT5.out.l.notOwn g hg).2,fun g hg=>(HT5.out.s.notOwn g hg).2⟩;have HLW:Hid (zahw (.slice pa pn pc) (.slice qa qn qc) X5.heap.size):=hid ⟨fun g hg=>(HT5.out.c.notOwn g hg).2,fun g hg=>(HT5.out.l.notOwn g hg).2⟩;have HPR:=hid hpR;have HXR:=hid (show X5.cell? ⟨R,0,none⟩=some (.slice sa M.n sc)∧X5.cell? ⟨R,1,none⟩=some (.int .i64 1)from⟨x0,x1⟩);clear hB5 hpR x0 x1 zR hle2 hnz;refine zii (zaka (cv:=.slice pa pn pc) (lv:=.slice qa qn qc) (sv:=.slice za zn zc) (Y:=X5)) 12 rfl (by kernel_rfl) Y.heap.size (zaln (fun g hg=>(HT.out.c.notOwn g hg).1) (fun g hg=>(HT.out.l.notOwn g hg).1) (fun g hg=>(HT.out.s.notOwn g hg).1)) HB5.out (Kept.refl _ _)
       [zfq [3,7,11] (.slice pa pn pc),zfq [3,7,11] (.slice sa M.n sc),zlm [] [] (fun _=>zeh X5.heap.size [.slice sa M.n sc]) (fun _ _ _ _ h e=>h.ext e) (fun _ h=>by cases h),
       zlm [] [7,11] (fun _=>PTn Y.heap.size 22 1 (.slice pa pn pc) (cs.map (fun x=>[x.1])++[[.slice sa M.n sc]]) (TnS (.slice pa pn pc) (.slice qa qn qc) (.slice za zn zc)) X5) (fun _ _ _ _ h e=>h.ext e) (fun i hi _ _ _ _ h e=>PTn.hard HFR.out hi h e),
       zfq [3,7,11] (.slice qa qn qc),zfq [3,7,11] (.agg #[.slice sa M.n sc,.int .i64 1]),zlm [] [3] (fun _=>zeh X5.heap.size [.slice sa M.n sc,.int .i64 1]) (fun _ _ _ _ h e=>h.ext e) (fun i hi _ _ _ _ h e=>zeh.hard HLW.out (by rw[wd0]at hi;subst hi;decide) h e),
       zlm [] [] (fun _=>PTn Y.heap.size 35 2 (.slice qa qn qc) (cs.map (fun x=>[x.1,.int .i64 1])++[[.slice sa M.n sc,.int .i64 1]]) (fun b=>some b≠(Value.slice pa pn pc).ownBlock∧some b≠(Value.slice qa qn qc).ownBlock) X5) (fun _ _ _ _ h e=>h.ext e) (fun _ h=>by cases h),
       zfq [3,7,11] (.slice za zn zc),zfq [3,7,11] (.int .i64 k),zlm [] [3,7] (fun _=>zeh X5.heap.size [.int .i64 (k:Int)]) (fun _ _ _ _ h e=>h.ext e) (fun i hi _ _ _ _ h e=>zeh.hard HLW.out hi h e),
       zlm [7] [] (fun l v W=>PTn Y.heap.size 35 2 (.slice qa qn qc) (cs.map (fun x=>[x.1,.int .i64 1])++[[.slice sa M.n sc,.int .i64 1]]) (TnS (.slice pa pn pc) (.slice qa qn qc) (.slice za zn zc)) X5 (l.headD undef) W∧PTn Y.heap.size 3 1 (.slice za zn zc) ((zy (List.range k)).map zas++[[.int .i64 (k:Int)]]) (TnS (.slice pa pn pc) (.slice qa qn qc) (.slice za zn zc)) X5 v W) (fun _ _ _ _ h e=>⟨h.1.ext e,h.2.ext e⟩) (fun _ h=>by cases h)]
       [[3,7,11],[3,7,11],[],[7,11],[3,7,11],[3,7,11],[3],[],[3,7,11],[3,7,11],[3,7],[]] [false,false,false,true,false,false,false,true,false,false,false,true] [true,true,false,true,true,true,false,false,true,true,false,true] [true,true,true,true,false,false,false,false,false,false,false,false] [true,true,true,true,true,true,true,true,false,false,false,false]
       (by kernel_rfl) (by kernel_rfl) [[],[],[],[],[],[],[],[],[],[],[],[7]] rfl (by decide +kernel) (by decide +kernel) (by decide +kernel) (by decide +kernel) rfl ⟨rfl,rfl⟩ ⟨?s0,?s1,?s2,?s3,?s4,?s5,?s6,?s7,?s8,?s9,?s10,?s11,trivial⟩ [some 108,some 109,some 110,some 111,some 112,some 113,some 114,some 115,some 116,some 117,some 118,some 119] rfl rfl ?send
      case s0 =>
       intro val ρ W hE hz hd hA hx hj;have o0:ρ (.tmp 7)=.slice pa pn pc:=hA.old 7 (by decide);exact zbe (W':=W) (by simp[execOp,o0,go_sem]) (Below.refl _ _) rfl
      case s1 =>
       intro val ρ W hE hz hd hA hx hj;have o0:ρ (.tmp 11)=.slice sa M.n sc:=hA.old 11 (by decide);exact zbe (W':=W) (by simp[execOp,o0,go_sem]) (Below.refl _ _) rfl
      case s4 =>
       intro val ρ W hE hz hd hA hx hj;have o0:ρ (.tmp 8)=.slice qa qn qc:=hA.old 8 (by decide);exact zbe (W':=W) (by simp[execOp,o0,go_sem]) (Below.refl _ _) rfl
      case s5 =>
       intro val ρ W hE hz hd hA hx hj;have o0:ρ (.tmp 12)=.pointer (some ⟨R,0,none⟩):=hA.old 12 (by decide);have hJ:=hj (by decide);have c0:=Kept.cell hJ HXR.out.1 (fun e=>HPR.out R e.symm rfl);have c1:=Kept.cell hJ HXR.out.2 (fun e=>HPR.out R e.symm rfl);exact zbe (W':=W) (by simp[execOp,o0,c0,c1,go_sem]) (Below.refl _ _) rfl
      case s8 =>
       intro val ρ W hE hz hd hA hx hj;have o0:ρ (.tmp 9)=.slice za zn zc:=hA.old 9 (by decide);exact zbe (W':=W) (by simp[execOp,o0,go_sem]) (Below.refl _ _) rfl
      case s9 =>
       intro val ρ W hE hz hd hA hx hj;have o0:ρ (.tmp 10)=.int .i64 k:=hA.old 10 (by decide);exact zbe (W':=W) (by simp[execOp,o0,go_sem]) (Below.refl _ _) rfl
      case s2 =>
       intro val ρ W hE hz hd hA hx hj;have d1:ρ (.tmp 109)=.slice sa M.n sc:=(hA.dep 1 (by decide) 109 rfl).trans (hd 1 (wdn _ (by decide)));exact zbe (v:=.slice (some ⟨W.heap.size,0,none⟩) 1 1) (W':=W.alloc (.cells #[.slice sa M.n sc] 22)) (by simp[execOp,d1,go_sem]) xx ⟨W.heap.size,rfl,hz,newRow W [.slice sa M.n sc] _⟩
      case s6 =>
       intro val ρ W hE hz hd hA hx hj;have d5:ρ (.tmp 113)=.agg #[.slice sa M.n sc,.int .i64 1]:=(hA.dep 5 (by decide) 113 rfl).trans (hd 5 (wdn _ (by decide)));exact zbe (v:=.slice (some ⟨W.heap.size,0,none⟩) 1 1) (W':=W.alloc (.cells #[.slice sa M.n sc,.int .i64 1] 35)) (by simp[execOp,d5,go_sem]) xx ⟨W.heap.size,rfl,hz,newRow W [.slice sa M.n sc,.int .i64 1] _⟩
      case s10 =>
       intro val ρ W hE hz hd hA hx hj;have d9:ρ (.tmp 117)=.int .i64 k:=(hA.dep 9 (by decide) 117 rfl).trans (hd 9 (wdn _ (by decide)));exact zbe (v:=.slice (some ⟨W.heap.size,0,none⟩) 1 1) (W':=W.alloc (.cells #[.int .i64 (k:Int)] 3)) (by simp[execOp,d9,go_sem]) xx ⟨W.heap.size,rfl,hz,newRow W [.int .i64 (k:Int)] _⟩
      case s3 =>
       intro val ρ W hE hz hd hA hx hj;have d0:ρ (.tmp 108)=.slice pa pn pc:=(hA.dep 0 (by decide) 108 rfl).trans (hd 0 (wdn _ (by decide)));have r2:zeh X5.heap.size [.slice sa M.n sc] (val 2) W:=hd 2 (wdn _ (by decide));obtain⟨b',e2,-,hl⟩:=r2;have d2:ρ (.tmp 110)=.slice (some ⟨b',0,none⟩) 1 1:=(hA.dep 2 (by decide) 110 rfl).trans e2;have hW:=hx (by decide);obtain⟨v',w',hrun,q2,q3,q4⟩:=zfy zall 30 Y.heap.size (HT5.out.c.ext hW) b' 0 1 [[.slice sa M.n sc]] (by simp) hl (by simp[Value.oneCell']) (by have:=HKN.out;have:=HT5.out.len;simp;omega) (wer HB5.out hz);exact zhv (.tmp 108) (.tmp 110) rfl rfl _ _ d0 d2 hrun (.inl ⟨rfl,q3⟩) ⟨q2,fun g hg=>(q4 g hg).imp id fun h=>wer hz h,(Kept.of_below hW).trans (q3.mono fun _ _ h=>h.1)⟩
      case s7 =>
       intro val ρ W hE hz hd hA hx hj;have d4:ρ (.tmp 112)=.slice qa qn qc:=(hA.dep 4 (by decide) 112 rfl).trans (hd 4 (wdn _ (by decide)));have r6:zeh X5.heap.size [.slice sa M.n sc,.int .i64 1] (val 6) W:=hd 6 (wdn _ (by decide));obtain⟨b',e6,-,hl⟩:=r6;have d6:ρ (.tmp 114)=.slice (some ⟨b',0,none⟩) 1 1:=(hA.dep 6 (by decide) 114 rfl).trans e6;have hJ:=hj (by decide);have hol:=HT5.out.l.keptAt hJ fun g _ _ hg _ e=>zgp HT5.out.l HT5.out.c (by decide) g hg e.symm
       obtain⟨v',w',hrun,q2,q3,q4⟩:=zfy zalm 31 Y.heap.size hol b' 0 1 [[.slice sa M.n sc,.int .i64 1]] (by simp) hl (by simp[Value.oneCell']) (by have:=HKN.out;have:=HT5.out.len;simp;omega) (wer HB5.out hz);exact zhv (.tmp 112) (.tmp 114) rfl rfl _ _ d4 d6 hrun (.inr (.inl ⟨rfl,q3⟩)) ⟨q2,fun g hg=>(q4 g hg).imp id fun h=>wer hz h,(hJ.mono fun _ _ h=>h.1).trans (q3.mono fun _ _ h=>h.2)⟩
      case s11 =>
       intro val ρ W hE hz hd hA hx hj;have d8:ρ (.tmp 116)=.slice za zn zc:=(hA.dep 8 (by decide) 116 rfl).trans (hd 8 (wdn _ (by decide)));have r10:zeh X5.heap.size [.int .i64 (k:Int)] (val 10) W:=hd 10 (wdn _ (by decide));obtain⟨b',e10,-,hl⟩:=r10;have d10:ρ (.tmp 118)=.slice (some ⟨b',0,none⟩) 1 1:=(hA.dep 10 (by decide) 118 rfl).trans e10;have r7:PTn Y.heap.size 35 2 (.slice qa qn qc) (cs.map (fun x=>[x.1,.int .i64 1])++[[.slice sa M.n sc,.int .i64 1]]) (fun b=>some b≠(Value.slice pa pn pc).ownBlock∧some b≠(Value.slice qa qn qc).ownBlock) X5 (val 7) W:=hd 7 (wdo _ (List.Mem.head _));have hos:=HT5.out.s.keptAt r7.2.2 fun g _ _ hg _=>⟨fun e=>zgp HT5.out.s HT5.out.c (by decide) g hg e.symm,fun e=>zgp HT5.out.s HT5.out.l (by decide) g hg e.symm⟩
       obtain⟨v',w',hrun,q2,q3,q4⟩:=zfy zgc 22 Y.heap.size hos b' 0 1 [[.int .i64 (k:Int)]] (by simp) hl (by simp[Value.oneCell']) (by have:=HKN.out;simp[zy];omega) (wer HB5.out hz);have hk9:Kept (TnS (.slice pa pn pc) (.slice qa qn qc) (.slice za zn zc)) X5 w':=(r7.2.2.mono fun _ _ h=>⟨h.1,h.2.1⟩).trans (q3.mono fun _ _ h=>h.2.2);refine zhv (.tmp 116) (.tmp 118) rfl rfl _ _ d8 d10 hrun (.inr (.inr ⟨rfl,q3⟩)) ⟨⟨r7.1.keptAt q3 fun g _ _ hg _ e=>?_,r7.2.1,hk9⟩,q2,fun g hg=>(q4 g hg).imp id fun h=>wer hz h,hk9⟩
       rcases r7.2.1 g hg with h|h
       ·exact zgp HT5.out.l HT5.out.s (by decide) g h e.symm
       ·have:=(HT5.out.s.notOwn g e.symm).2;omega
      case send =>
       intro val WW hE hzz hv;obtain⟨-,-,-,r3,-,-,-,-,-,-,-,r11,-⟩:=hv;have r3:PTn Y.heap.size 22 1 (.slice pa pn pc) (cs.map (fun x=>[x.1])++[[.slice sa M.n sc]]) (TnS (.slice pa pn pc) (.slice qa qn qc) (.slice za zn zc)) X5 (val 3) WW:=r3;have r11:PTn Y.heap.size 35 2 (.slice qa qn qc) (cs.map (fun x=>[x.1,.int .i64 1])++[[.slice sa M.n sc,.int .i64 1]]) (TnS (.slice pa pn pc) (.slice qa qn qc) (.slice za zn zc)) X5 (val 7) WW∧PTn Y.heap.size 3 1 (.slice za zn zc) ((zy (List.range k)).map zas++[[.int .i64 (k:Int)]]) (TnS (.slice pa pn pc) (.slice qa qn qc) (.slice za zn zc)) X5 (val 11) WW:=r11;obtain⟨r7,r11⟩:=r11;have hgr:=zeu.grow HT5.out HTV5.out HT.out.e.size (fun g hg=>(HT.out.s.notOwn g hg).2) HOK.out r3 r7 r11;obtain⟨va3,vn3,vc3,e3⟩:=r3.1.isSlice;obtain⟨va7,vn7,vc7,e7⟩:=r7.1.isSlice;obtain⟨va11,vn11,vc11,e11⟩:=r11.1.isSlice;rw[e3,e7,e11]at hgr;have HGR:=hid hgr;simp only[za9,e3,e7,e11];go_frame;clear hE hzz r3 r7 r11 hgr e3 e7 e11;go_wp2_with fail;exact⟨⟨k+1,_,by omega,by go_num,HGR.out⟩,by simp[intOf];omega⟩
    ·have hki:¬((k:Int)<(rs.length:Int)):=by omega
     have hkn:k=rs.length:=by omega
     subst hkn;have hT:=HT.out;obtain ⟨e1,e2,e3⟩:=hT.ns;rw [← zzu cs] at e2;subst e1 e2 e3;have hlen:=hT.len;have hcm:=hT.clm;have htk:=hT.tks;have hidd:=hT.ids;have hin:=hT.ints;have hok:=hT.ok;have HTE:=hid hT.e;have HLEN:=hid hlen;have HCM:=hid hcm;have HTK:=hid htk;have HID:=hid hidd;have HIN:=hid hin;have HOK:=hid hok;have HC6:Hid (1≤cs.length∧cs.length≤6):=hid (by omega);have HCV:=hid (z2c V HCN.out HCD.out (by omega));have HTV:Hid (zjj cd (zac (psT cs))):=hid (by
      rw[zt9];exact z6u HCN.out HCD.out (by rw[wc8];have:=HC6.out;omega) fun ss hss=>by
       obtain⟨x,hx,rfl⟩:=wdv.1 hss;exact HOK.out x hx)
     obtain⟨A,hA⟩:∃A,A=cnt (opM M) ts0:=⟨_,rfl⟩
     have hA8:A≤800:=by rw[hA];exact zaip V HFEW.out
     have hco:=zaam M V ka kc X (HKY.out X HTE.out);rw[←hA]at hco;have HA:=hid hA;clear hT hcm htk hidd hin hok hA HT hlen;go_wp2_with fail;refine hco.mono ?_
     rintro e X1 ⟨rfl,hE1⟩;have hA0:¬((A:Int)<0):=by omega
     have hA8i:¬((800:Int)<(A:Int)):=by omega
     have HE1:=hid hE1;clear hE1 hco k0 k1 k2 k3 hz
     go_upto_if 136 with(fail)
     go_cut [20]from 31 (fun v W=>∃sl scap,v=.slice sl (ze5 A).length scap∧zao W 2 (.slice sl (ze5 A).length scap) ((ze5 A).map zcw)∧Ext X1 W)
     case first =>
      by_cases hp:0<A
      ·have hpi:(0:Int)<(A:Int):=by omega
       have hw:IntKind.i64.wrap ((A:Int)-1)=(A:Int)-1:=wbh _ (by omega);have hoA:=(zab.nil X1 X1.heap.size 45 2).ext (show Ext X1 (X1.alloc (.cells #[.int .i64 0,.int .i64 ((A:Int)-1)] 45))from xx);obtain⟨v',X2,hrun,q2,q3,q4⟩:=zfy elRg 43 X1.heap.size hoA X1.heap.size 0 1 [[.int .i64 0,.int .i64 ((A:Int)-1)]] (by simp) (newRow _ [.int .i64 0,.int .i64 ((A:Int)-1)] _) (by simp[Value.oneCell']) (by simp) (by simp);have hsr:zao X2 2 v' ((ze5 A).map zcw):=by
        have e:(ze5 A).map zcw=[]++[[.int .i64 0,.int .i64 ((A:Int)-1)]]:=by
         unfold ze5;rw[if_pos hp];have:((A-1:Nat):Int)=(A:Int)-1:=by omega
         simp[zcw,this]
        rw[e];exact q2.isRows
       have hE2:Ext X1 X2:=(show Ext X1 (X1.alloc (.cells #[.int .i64 0,.int .i64 ((A:Int)-1)] 45))from xx).trans (Kept.below (q3.mono (T:=fun b=>b<X1.heap.size) fun b _ _ e=>by simp[Value.ownBlock]at e) (by simp));have HSR:=hid hsr;have HE2:=hid hE2;clear hoA q2 q3 q4 hsr hE2;go_wp2_with (at_builtin;refine zhb rfl (.tmp 137) (.tmp 141) rfl rfl rfl hrun ?_)
       go_meet
       obtain⟨sl,scap,e,-⟩:=HSR.out;rw[wc8]at e;exact⟨sl,scap,e,e▸HSR.out,HE2.out⟩
      ·have hpi:¬((0:Int)<(A:Int)):=by omega
       have h0:ze5 A=[]:=by unfold ze5;rw[if_neg hp]
       go_wp2_with fail
       go_meet
       rw[h0];exact⟨none,0,rfl,(zab.nil X1 0 45 2).isRows,Below.refl _ _⟩
     case rest =>
      obtain⟨sl,scap,rfl,hsr,hE2⟩:=hcut;obtain⟨X2,rfl⟩:∃X2,X2=wc:=⟨_,rfl⟩
      have HX2:=hid (HE1.out.trans' hE2);have HSR:=hid hsr;have hY2:=HTE.out.trans' HX2.out;obtain⟨k0,k1,k2,k3,hz⟩:=HDY.out X2 hY2;have hsh:=zacq M V ka kc pa pc cs HC6.out.1 HC6.out.2 (fun x hx=>(HOK.out x hx).1) (fun x hx=>(HOK.out x hx).2) (ze5 A) (by rw[HA.out];exact zain _) sl scap za zc X2 (HKY.out X2 hY2) (HCM.out.ext HX2.out) HSR.out (HID.out.ext HX2.out);have hso:=zac8 V HCN.out HCD.out cs;rw[←HA.out]at hso;obtain⟨sm,hsm⟩:∃sm,sm=zge (opM M) cs (ze5 A) (2^cs.length-1):=⟨_,rfl⟩
      rw[←hsm]at hsh hso;have HSO:=hid hso;clear hsr hE2 hY2 hso hsm;go_wp2_with fail;refine hsh.mono ?_
      rintro e X3 ⟨rfl,hE3⟩;have HX3:=hid (HX2.out.trans' hE3);have hY3:=HTE.out.trans' HX3.out;have hgc:=HG.out.ext hY3;have gc0:=hgc.cell;have gcz:=hgc.lt;have hcv:=z4r cd (psT cs) va qa vc qc X3 (HCI.out.ext hY3) (HTK.out.ext HX3.out) HCV.out HTV.out;obtain⟨cvd,hcvd⟩:∃cvd,cvd=zcl (za2 (zac (psT cs))) (psT cs).length cd.length [] (zck cd (zap (zac (psT cs)))):=⟨_,rfl⟩
      rw[←hcvd]at hcv;have hsc:¬(cvd<sm):=by have:=HSO.out;omega
      clear hE3 hY3 hgc hsh hcvd k0 k1 k2 k3 hz;go_wp2_with fail;refine hcv.mono ?_
      rintro e X4 ⟨rfl,hE4⟩;have HX4:=hid (HX3.out.trans' hE4);clear hE4 hcv gc0 gcz;go_upto_region 33 with(fail);obtain⟨cb,co,rfl,hcc⟩:=HCM.out.cell (k:=0) (by have:=HC6.out;omega);have hc0:=zh HX4.out (hcc 0 (by have:=HC6.out;omega));obtain⟨xa,xc,ex,hxi⟩:=HIN.out _ (wcy (show 0<cs.length by have:=HC6.out;omega));obtain⟨hx1,hx2⟩:=HOK.out _ (wcy (show 0<cs.length by have:=HC6.out;omega));have hcl0:=zacm (cs:=cs) (i:=0) (by have:=HC6.out;omega);rw[ex,wei]at hc0;rw[←hcl0]at hc0 hxi hx1 hx2;have hsl:(clF cs 0).length=M.n:=hx1.sl;rw[hsl]at hc0 hxi;have zc0:=wfu _ _ hc0;simp only at zc0;have hc0i:(0:Int)<(cs.length:Int):=by have:=HC6.out;omega
      have hcne:¬cs=[]:=fun e=>by have:=HC6.out;rw[e]at this;simp at this
      have hY4:=HTE.out.trans' HX4.out;obtain⟨k0,k1,k2,k3,hz⟩:=HDY.out X4 hY4;obtain⟨T,hT⟩:∃T,T=zbf M (clF cs 0):=⟨_,rfl⟩
      have hfd:∀W,Ext X4 W→Calls Tryz.prog 13 #[.agg #[.int .i64 M.L,.int .i64 M.n,.slice ka M.n kc,.int .i64 M.rest],.slice xa M.n xc,.int .i64 0] W fun e w'=>e=.returned (.tuple #[.int .i64 (z6v (zbf M (clF cs 0))),.int .i64 (z6w (zbf M (clF cs 0)))])∧Ext W w':=fun W e=>(zac6 (zbf M (clF cs 0)) hx1 hx2 ka xa kc xc W (HKY.out W (hY4.trans' e)) (hxi.ext (HX4.out.trans' e))).mono fun _ _ h=>zajv h
      rw[←hT]at hfd;obtain⟨fx,hfx⟩:∃fx,fx=z6v T:=⟨_,rfl⟩
      obtain⟨fe,hfe⟩:∃fe,fe=z6w T:=⟨_,rfl⟩
      rw[←hfx,←hfe]at hfd;have HFX:=hid hfx;have HFE:=hid hfe;clear hfx hfe;have HFD:=hid hfd;have HTT:=hid hT;have HX1:=hid hx1;clear hcc ex hxi hx2 hcl0 hsl hY4 hfd hT hx1;refine zb8 (X4.heap.size) (weq _)
       [sqV (.agg #[.int .i64 M.L,.int .i64 M.n,.slice ka M.n kc,.int .i64 M.rest]),sqV (.slice (some ⟨cb,co,none⟩) cs.length pc),sqV (.pointer (some ⟨cb,co,none⟩)),sqV (.slice xa M.n xc),sqV (.tuple #[.int .i64 fx,.int .i64 fe]),sqV (.tuple #[.int .i64 fx,.int .i64 fe]),sqV (.int .i64 fx),sqV (.int .i64 fe),sqV (.int .i64 fx),sqV (.int .i64 fe)]
       [true,true,true,true,true,true,true,true,true,true] [false,false,false,false,false,false,false,false,false,false] [true,true,true,true,true,true,true,true,true,true] [true,true,true,true,true,true,true,true,true,true]
       (by kernel_rfl) (by kernel_rfl) (by decide +kernel) (by decide +kernel) (by decide +kernel) rfl ⟨rfl,rfl⟩ ⟨?s0,?s1,?s2,?s3,?s4,?s5,?s6,?s7,?s8,?s9,trivial⟩ [some 169,some 170,some 171,some 172,some 173,some 168,some 174,some 175,some 25,some 19] rfl rfl ?send
      case s0 =>
       intro f g W b e d a c;have o0:g (.tmp 2)=.pointer (some ⟨w.heap.size,0,none⟩):=a.old 2 (by decide);have f_k0:=cell_below b (by simp only;omega) k0;have f_k1:=cell_below b (by simp only;omega) k1;have f_k2:=cell_below b (by simp only;omega) k2;have f_k3:=cell_below b (by simp only;omega) k3;exact ze (by simp[execOp,o0,f_k0,f_k1,f_k2,f_k3,go_sem]) rfl
      case s1 =>
       intro f g W b e d a c;have o0:g (.tmp 7)=.slice (some ⟨cb,co,none⟩) cs.length pc:=a.old 7 (by decide);exact ze (by simp[execOp,o0,go_sem]) rfl
      case s2 =>
       intro f g W b e d a c;have d1:g (.tmp 170)=.slice (some ⟨cb,co,none⟩) cs.length pc:=dpv a d 1 170;exact ze (by simp[execOp,a.const,d1,hc0i,hcne,go_sem]) rfl
      case s3 =>
       intro f g W b e d a c;have d2:g (.tmp 171)=.pointer (some ⟨cb,co,none⟩):=dpv a d 2 171;have f_hc0:=cell_below b (by simp only;omega) hc0;exact ze (by simp[execOp,d2,f_hc0,go_sem]) rfl
      case s4 =>
       intro g h W b f d a c;have d0:h (.tmp 169)=.agg #[.int .i64 M.L,.int .i64 M.n,.slice ka M.n kc,.int .i64 M.rest]:=dpv a d 0 169;have d3:h (.tmp 172)=.slice xa M.n xc:=dpv a d 3 172;clear d;refine zbx 13 _ _ rfl #[.agg #[.int .i64 M.L,.int .i64 M.n,.slice ka M.n kc,.int .i64 M.rest],.slice xa M.n xc,.int .i64 0] (a.func _) (by simp[d0,d3,a.const]) (fun args W=>Tryz.call13 args W) ((HFD.out W b).mono ?_);rintro e w' ⟨rfl,hb⟩;exact⟨_,rfl,hb,rfl⟩
      case s5 =>
       intro f g W b e d a c;have d4:g (.tmp 173)=.tuple #[.int .i64 fx,.int .i64 fe]:=dpv a d 4 173;exact ze (by simp[execOp,d4,go_sem]) rfl
      case s6 =>
       intro f g W b e d a c;have d5:g (.tmp 168)=.tuple #[.int .i64 fx,.int .i64 fe]:=dpv a d 5 168;exact ze (by simp[execOp,d5,go_sem]) rfl
      case s7 =>
       intro f g W b e d a c;have d5:g (.tmp 168)=.tuple #[.int .i64 fx,.int .i64 fe]:=dpv a d 5 168;exact ze (by simp[execOp,d5,go_sem]) rfl
      case s8 =>
       intro f g W b e d a c;have d6:g (.tmp 174)=.int .i64 fx:=dpv a d 6 174;exact ze (by simp[execOp,d6,go_sem]) rfl
      case s9 =>
       intro f g W b e d a c;have d7:g (.tmp 175)=.int .i64 fe:=dpv a d 7 175;exact ze (by simp[execOp,d7,go_sem]) rfl
      case send =>
       intro val X5 hE5 hzz hv;obtain⟨-,-,-,-,-,-,-,-,r8,r9,-⟩:=hv;have q8:val 8=.int .i64 fx:=r8;have q9:val 9=.int .i64 fe:=r9;have HX5:=hid (HX4.out.trans' hE5);have HY5:=hid (HTE.out.trans' HX5.out);simp only[za9,q8,q9];go_frame;clear r8 r9 q8 q9;have e8:=HFX.out;have e9:=HFE.out;unfold z6v at e8;unfold z6w at e9
       by_cases h0:cnt T ts0=0
       ·rw[if_pos h0]at e8 e9
        subst e8 e9;clear hE5 hzz hc0 zc0 k0 k1 k2 k3 hz h0 hc0i hcne;go_wp2_with fail;refine(zer _).mono ?_
        rintro e W9 ⟨rfl,hE9⟩;go_wp2_with fail;go_ret;exact⟨rfl,(HWY.out.trans' HY5.out).trans' hE9⟩
       rw[if_neg h0]at e8 e9;replace h0:0<cnt T ts0:=by omega
       have hot:opM T=opM M:=by rw[HTT.out];rfl
       rw[hot]at e8;have hVT:zag T:=by rw[HTT.out];exact HX1.out
       have hcu:=zgn hVT h0;obtain⟨u,hu⟩:∃u,u=zfo T 0:=⟨_,rfl⟩
       rw[←hu]at hcu e8;have hco:=z4u (M:=opM M) (T:=T) (by rw[HTT.out];exact⟨rfl,rfl,rfl,rfl⟩) (zqh M) hcu;obtain⟨x,hx⟩:∃x,x=zci (opM M) u ts0:=⟨_,rfl⟩
       rw[←hx]at hco e8;subst e8 e9;have hcw:=zzh hco.1;have hun:u.length=M.n:=by
        have:=hcu.len;rw[HTT.out]at this;simpa[ts0,zbf]using this
       have hul:∀c∈u,c<M.L:=by
        have:=hcu.letters;rw[HTT.out]at this;exact this
       obtain⟨k0,k1,k2,k3,hz⟩:=HDY.out X5 HY5.out;have htc:=zac5 M V ka kc x hco.2 X5 (HKY.out X5 HY5.out);rw[hcw]at htc;have hws:(zcn u).size=M.n:=by rw[zkz,hun]
       have hcu2:zbu (zbf M (clF cs 0)) u ts0 0:=by rw[←HTT.out];exact hcu
       have HCU:=hid hcu2;have HUN:=hid hun;have HUL:=hid hul;clear hE5 hzz hc0 zc0 h0 hot hVT hcu hu hco hx hcw hun hul hcu2 hc0i hcne;go_wp2_with fail;refine htc.mono ?_
       rintro e X6 ⟨rfl,hE6⟩;have HX6:=hid (HX5.out.trans' hE6);have HY6:=hid (HTE.out.trans' HX6.out);obtain⟨k0,k1,k2,k3,hz⟩:=HDY.out X6 HY6.out;clear hE6 htc;go_wp2_with fail
       go_loopw [27,28] (fun ov iv W=>∃k:Nat,k≤M.n∧iv=.int .i64 k∧zab W X6.heap.size 3 1 ov ((zy (u.take k)).map zas)∧Ext X6 W) (fun _ iv _=>M.n-(intOf iv).toNat)
       case atStart=>exact⟨0,by omega,rfl,zab.nil _ _ _ _,Below.refl _ _⟩
       case round =>
        obtain⟨k,hkn,rfl,ho,hE⟩:=hrel;obtain⟨Z,rfl⟩:∃Z,Z=wr:=⟨_,rfl⟩
        obtain⟨oa,on,oc,rfl⟩:=ho.isSlice;have HE:=hid hE;have HO:=hid ho;clear ho hE k0 k1 k2 k3 hz
        by_cases hlt:k<M.n
        ·have hki:(k:Int)<(M.n:Int):=by omega
         have hat:=zv8 (l:=u) (fun c hc=>by have:=HUL.out c hc;have:=V.L;omega) (show k<u.length by rw[HUN.out];exact hlt);have hsz:k<(zcn u).size:=by rw[hws];exact hlt
         have hcb:u.getD k 0<M.L:=by
          rw[wch,wcn (by rw[HUN.out];exact hlt)];exact HUL.out _ (wcy _)
         have htk:=zahf (u:=u) (k:=k) (by rw[HUN.out];exact hlt);obtain⟨c,hc⟩:∃c,c=u.getD k 0:=⟨_,rfl⟩
         rw[←hc]at hat hcb htk;have hL6:=V.L.2;obtain⟨b8,hb8⟩:∃b8:Int,b8=(((zcn u)[k]'hsz).toNat:Int):=⟨_,rfl⟩
         have hbc:b8=((97+c:Nat):Int):=by
          rw[hb8,←hat,wch,wcn (by rw[wah];exact hsz),wfk];rfl
         have hw1:IntKind.i64.wrap b8=b8:=wbh _ (by omega);have hw2:IntKind.i64.wrap (b8-97)=(c:Int):=by rw[show b8-97=(c:Int) by omega];exact wbh _ (by omega)
         have hb9:(((zcn u)[k]'hsz).toNat:Int)=b8:=hb8.symm;have hoA:=HO.out.ext (show Ext Z (Z.alloc (.cells #[.int .i64 (c:Int)] 3))from xx);obtain⟨v',Z2,hrun,q2,q3,q4⟩:=zfy zgc 22 X6.heap.size hoA Z.heap.size 0 1 [[.int .i64 (c:Int)]] (by simp) (newRow _ [.int .i64 (c:Int)] _) (by simp[Value.oneCell']) (by rw[wc8,zad,wdd];have:=V.n;simp;omega) (by rw[wfx];exact Nat.le_succ_of_le HE.out.size);rw[←htk]at q2;have hE3:Ext X6 Z2:=by
          have e1:Ext X6 (Z.alloc (.cells #[.int .i64 (c:Int)] 3)):=HE.out.trans' xx;exact e1.trans (Kept.below (q3.mono (T:=fun b=>b<X6.heap.size) fun b _ hb e=>by have:=(HO.out.notOwn b e.symm).1;omega) e1.size)
         obtain⟨va,vn,vc,rfl⟩:=q2.isSlice;have HO3:=hid q2;have HE3:=hid hE3;clear hoA q2 q3 q4 hE3 htk hc hb8 hbc hat hcb hL6;go_wp2_with (at_builtin;refine zhb rfl (.tmp 204) (.tmp 210) rfl rfl rfl hrun ?_);exact⟨⟨k+1,by omega,by go_num,HO3.out,HE3.out⟩,by simp[intOf];omega⟩
        ·have hki:¬((k:Int)<(M.n:Int)):=by omega
         have hkk:k=M.n:=by omega
         subst hkk;have ho:=HO.out;rw[wec (by rw[HUN.out];exact weq _)]at ho;have hoi:=ho.oneInts;obtain⟨_,_,e9,-⟩:=hoi.spec;cases e9;rw[zad]at hoi ⊢;have HOI:=hid hoi;have HYZ:=hid (HY6.out.trans' HE.out);have HXZ:=hid (HX6.out.trans' HE.out);have hgc:=HG.out.ext HYZ.out;have gc0:=hgc.cell;have gcz:=hgc.lt;clear ho hoi HO hgc;have huc:u.length=cd.length:=by rw[HUN.out,HCN.out]
         have huo:∀r,r<u.length→u.getD r 0<cd.getD r 0:=fun r hr=>by
          rw[z9j HCD.out (by rw[←HUN.out];exact hr),wch,wcn hr];exact HUL.out _ (wcy _)
         have haf:=zaal cd (psT cs) u va qa oa vc qc oc Z (HCI.out.ext HYZ.out) (HTK.out.ext HXZ.out) HCV.out HTV.out HOI.out huc huo;have hal:=z69 HC6.out.1 HCU.out huc;obtain⟨al,hale⟩:∃al,al=zc3 (zap (zac (psT cs))) u cd.length (psT cs).length:=⟨_,rfl⟩
         rw[←hale]at haf hal;have HUC:=hid huc;have HUO:=hid huo;have HAL:=hid hal;clear huc huo hal hale;go_wp2_with fail;refine haf.mono ?_
         rintro e Z2 ⟨yx,yv,rfl,hE2,hyv⟩;have HYV:=hid hyv;obtain⟨ya,yc,rfl,-⟩:=hyv.spec;have HYZ2:=hid (HYZ.out.trans' hE2);have hgc:=HG.out.ext HYZ2.out;have gc0:=hgc.cell;have gcz:=hgc.lt;have hio:=z2e cd u va oa vc oc Z2 (HCI.out.ext HYZ2.out) (HOI.out.ext hE2) HUC.out (by rw[HCN.out];have:=V.n;omega) HUO.out;clear haf hE2 hyv hgc;go_wp2_with fail;refine hio.mono ?_
         rintro e Z3 ⟨rfl,hE3⟩;have hin8:=zafr (zy al) _ 0 Z3 (HYV.out.ext hE3);rw[decide_eq_true HAL.out]at hin8;have HYZ3:=hid (HYZ2.out.trans' hE3);clear hio hE3 gc0 gcz;go_wp2_with fail;refine hin8.mono ?_
         rintro e Z4 ⟨rfl,hE4⟩;have HYZ4:=hid (HYZ3.out.trans' hE4);clear hin8 hE4;go_wp2_with fail;refine(zer _).mono ?_
         rintro e W9 ⟨rfl,hE9⟩;go_wp2_with fail;go_ret;exact⟨rfl,(HWY.out.trans' HYZ4.out).trans' hE9⟩
end Go.Proofs.YtdcnbeehckgpcaaGreat
