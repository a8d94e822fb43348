/-
  The walk of newCounter.
-/
import Derived.Test.YtdcnbeehckgpcaaGreatYa
set_option maxRecDepth 200000
set_option maxHeartbeats 0
namespace Go.Proofs.YtdcnbeehckgpcaaGreat
open Go.Lib (hid)
open Go.RowKit Go.Shelf
attribute [local go_sem] Oper.semAt_some
theorem z62(M:zl)(V:zag M)(p mb:Nat)(ka sa:Option Addr)(kc sc:Nat)(ca:Option Addr)(cc:Nat)(cs:List (Value×List Nat))(hcl:cs.length≤6)(hT:∀x∈cs,zag (zbf M x.2))(l:List (Nat×Nat))(hl:zfp (cnt M ts0) l)(sl:Option Addr)(scap:Nat)(w:World)(hM:zc6 w p M ka sa kc sc mb)(hc:zgd w ca cc cs)(hr:zao w 2 (.slice sl l.length scap) (l.map zcw)) :
  Calls Tryz.prog 59 #[.pointer (some ⟨p,0,none⟩),.slice ca cs.length cc,.slice sl l.length scap] w fun e W=>∃cb nv dv,e=.returned (.pointer (some ⟨cb,0,none⟩))∧MK w W mb∧zan W mb M∧w.heap.size≤cb∧zbw W cb p (.slice ca cs.length cc) (.slice sl l.length scap) nv dv:=by
 have HM:=hid hM;have HC:=hid hc;have HR:=hid hr;have HT:=hid hT;have HL:=hid hl;clear hM hc hr hT hl
 go_enter Tryz.func59,Tryz.ntmps59
 go_upto_region 3 with(fail);obtain⟨W0,hW0⟩:∃W0,W0=w.alloc (.cells #[.pointer (some ⟨p,0,none⟩),.slice ca cs.length cc,.slice sl l.length scap,.slice none 0 0,.slice none 0 0] 109):=⟨_,rfl⟩
 rw[←hW0];have hE0:Ext w W0:=by rw[hW0];exact xx
 have hO0:zlo w mb w.heap.size p M (.slice ca cs.length cc) (.slice sl l.length scap) 0 (.slice none 0 0) (.slice none 0 0) [] [] W0:=by
  refine⟨(MK.refl w mb).ext hE0,HM.out.map.of_heap (hE0.block _ HM.out.map.lt),?_,weq _,rfl,rfl,zab.nil _ _ _ _,fun x h=>(by cases h),zab.nil _ _ _ _,fun x h=>(by cases h)⟩;have:=World.alloc_heap_new w (.cells #[.pointer (some ⟨p,0,none⟩),.slice ca cs.length cc,.slice sl l.length scap,.slice none 0 0,.slice none 0 0] 109);rw[hW0];exact this
 obtain⟨cb,hcb⟩:∃cb,cb=w.heap.size:=⟨_,rfl⟩
 rw[←hcb]at hO0 ⊢;have HO0:=hid hO0;have HCB:=hid hcb;clear hO0 hcb hE0 hW0;go_wp2_with fail
 go_loopw [23] (fun iv W=>∃(k:Nat) (nv dv:Value) (vs:List (Value×List Int)) (ds:List Int),k≤cs.length∧iv=.int .i64 k∧zlo w mb cb p M (.slice ca cs.length cc) (.slice sl l.length scap) k nv dv vs ds W) (fun iv _=>cs.length-(intOf iv).toNat)
 case atStart=>exact⟨0,_,_,_,_,by omega,rfl,HO0.out⟩
 case round =>
  obtain⟨k,nv,dv,vs,ds,hk,rfl,hO⟩:=hrel;obtain⟨X,rfl⟩:∃X,X=wr:=⟨_,rfl⟩
  have HO:=hid hO;clear hO
  by_cases hlt:k<cs.length
  ·have hki:(k:Int)<(cs.length:Int):=by omega
   have hMX:=HM.out.mk' HO.out.kp HO.out.m1;have hCX:=HC.out.mk' HM.out.map HO.out.kp;obtain⟨qb,qo,rfl,hcell⟩:=hCX.cell hlt;have cq:=hcell k hlt;obtain⟨xa,xc,hx1,hx2⟩:=hCX.each cs[k] (wcy hlt);have hTV:=HT.out cs[k] (wcy hlt);obtain⟨ss,hss⟩:∃ss,ss=cs[k].2:=⟨_,rfl⟩
   rw[←hss]at hx1 hx2 hTV;rw[hx1]at cq;have hsl:ss.length=M.n:=hTV.sl;rw[hsl]at hx2 cq;have HMX:=hid hMX;have HX2:=hid hx2;have HTV:=hid hTV;have c0:=hMX.m.c0;have c1:=hMX.m.c1;have c2:=hMX.m.c2;have c3:=hMX.m.c3;have zq:=wfu _ _ cq;have zp:=wfu _ _ c0;simp only at zq zp;clear hMX hCX hcell hx1 hx2 hTV hss;have hnm:=zi1 (zbf M ss) HTV.out ka xa kc xc X HMX.out.m.ks HX2.out
   dsimp only[zbf]at hnm
   go_wp2_with fail;refine hnm.mono ?_
   rintro e X1 ⟨p2,mb2,sa2,sc2,rfl,hE1,hp2,hm2,a1,a2,a3⟩;have hIX:zc6 X1 p M ka sa kc sc mb:=HMX.out.ext hE1;have hIT:zc6 X1 p2 (zbf M ss) ka sa2 kc sc2 mb2:=⟨a1,a2,a3⟩
   have hmbX:=HMX.out.map.lt;have hTwo:zdw X1 p p2 mb mb2 M (zbf M ss) ka sa sa2 kc sc sc2:=⟨hIX,hIT,zk9 HTV.out hIX.map hIT.m,zk9 V hIT.map hIX.m,by omega⟩
   have HTwo:=hid hTwo;have HE1:=hid hE1;have HM2:=hid hm2;have hsR:=zao.ext hE1 (znk HM.out.map HO.out.kp HR.out);have HSR:=hid hsR;clear hnm hE1 hp2 hm2 a1 a2 a3 hIX hIT hTwo hsR c0 c1 c2 c3 cq zq zp hmbX;go_wp2_with fail;refine(zqi M (zbf M ss) (zgo M ss) V HTV.out p p2 mb mb2 ka sa sa2 kc sc sc2 l HL.out _ X1 HTwo.out HSR.out).mono ?_
   rintro e X2 ⟨rv,rfl,hT2,hR2⟩;obtain⟨il,hil⟩:∃il,il=zcj M (zbf M ss) l:=⟨_,rfl⟩
   have hie:=zqj (zgo M ss) V HL.out;rw[←hil]at hR2 hie;obtain⟨ra,rc,rfl,hrc1,hrc2,-⟩:=zgm hR2;have hk12:MK X X2 mb:=Kept.trans ((MK.refl X mb).ext HE1.out) (hT2.k.mono fun b _ hb=>⟨hb.2,fun e=>by have:=HM2.out;have:=hb.1;omega⟩);have HK12:=hid hk12;have HR2:=hid hR2;have HT2m:=hid (And.intro hT2.m1 hT2.m2);have HTW2:=hid (HTwo.out.kept2 hT2.k hT2.m1 hT2.m2);have hI0:InC X2 mb mb2 M (zbf M ss) cs.length (.slice none 0 0) [] X2:=⟨Kept.refl _ _,hT2.m1,hT2.m2,zab.nil _ _ _ _,wfd _⟩
   have HI0:=hid hI0;have HIE:=hid hie;have HMB2:=hid (wer HE1.out.size hT2.k.size);clear hk12 hR2 hT2 hI0 hie hil;go_wp2_with fail
   go_loopw [11,38] (fun lv iv W=>∃(a:Nat) (ll:List Int),a≤il.length∧iv=.int .i64 a∧InC X2 mb mb2 M (zbf M ss) cs.length lv ll W) (fun _ iv _=>il.length-(intOf iv).toNat)
   case atStart=>exact⟨0,[],by omega,rfl,HI0.out⟩
   case round =>
    obtain⟨a,ll,ha,rfl,hI⟩:=hrel;obtain⟨Y,rfl⟩:∃Y,Y=wr:=⟨_,rfl⟩
    obtain⟨la,ln,lc,rfl⟩:=hI.o.isSlice;have HI:=hid hI
    by_cases hlt2:a<il.length
    ·have hai:(a:Int)<(il.length:Int):=by omega
     have hRY:=zae9 HT2m.out.1 HT2m.out.2 hI.k HR2.out;obtain⟨_,_,e9,-,-,hcc9⟩:=zgm hRY;cases e9;obtain⟨rb,ro,rfl,hcc⟩:=hcc9 a hlt2;obtain⟨d0,d1⟩:=hcc a hlt2 Y (Below.refl _ _);have hmem:il.getD a (0,0)∈il:=by rw[wch,wcn hlt2];exact wcy hlt2
     obtain⟨h1,h2⟩:=HIE.out _ hmem;obtain⟨lo,hlo⟩:∃lo,lo=(il.getD a (0,0)).1:=⟨_,rfl⟩
     obtain⟨hi,hhi⟩:∃hi,hi=(il.getD a (0,0)).2:=⟨_,rfl⟩
     rw[←hlo]at d0 h1;rw[←hhi]at d1 h1 h2;have zd:=wfu _ _ d0;simp only at zd;have HH2:=hid h2;clear hI hRY hcc hcc9 hmem hlo hhi h2;go_upto_region 10 with(fail);obtain⟨Y1,hY1⟩:∃Y1,Y1=Y.alloc (.cells #[.int .i64 lo,.int .i64 hi] 45):=⟨_,rfl⟩
     rw[←hY1];have hEY:Ext Y Y1:=by rw[hY1];exact xx
     obtain⟨R,hR⟩:∃R,R=Y.heap.size:=⟨_,rfl⟩
     have r0:Y1.cell? ⟨R,0,none⟩=some (.int .i64 lo):=by rw[hY1,hR];simp[go_sem]
     have r1:Y1.cell? ⟨R,1,none⟩=some (.int .i64 hi):=by rw[hY1,hR];simp[go_sem]
     rw[←hR];have HIY:=hid (HI.out.ext hEY);have hfar:∀g,(Value.slice la ln lc).ownBlock=some g→g≠R:=fun g hg e=>by have:=(HI.out.o.notOwn g hg).2;omega
     have hRm:R≠mb∧R≠mb2:=⟨by have:=HI.out.m1.lt;omega,by have:=HI.out.m2.lt;omega⟩
     have zR:=wfu _ _ r0;simp only at zR;have HR1:=hid r1;have HFAR:=hid hfar;have HRM:=hid hRm;clear hY1 hEY hR hfar hRm d0 d1 zd;go_wp2_with fail
     go_loopw [11,14] (fun lv iv W=>∃(i:Nat) (ll:List Int),i≤hi+1∧iv=.int .i64 i∧InC X2 mb mb2 M (zbf M ss) cs.length lv ll W∧W.cell? ⟨R,1,none⟩=some (.int .i64 hi)∧∀g,lv.ownBlock=some g→g≠R) (fun _ iv _=>hi+1-(intOf iv).toNat)
     case atStart=>exact⟨lo,ll,by omega,rfl,HIY.out,HR1.out,HFAR.out⟩
     case round =>
      obtain⟨i,ll,hi1,rfl,hI,r1,hfar⟩:=hrel;obtain⟨Z,rfl⟩:∃Z,Z=wr:=⟨_,rfl⟩
      obtain⟨la,ln,lc,rfl⟩:=hI.o.isSlice;have zR:=wfu _ _ r1;simp only at zR;have hln:ln=ll.length:=by
       obtain⟨_,_,e,-⟩:=hI.o.form;cases e;simp
      have hcnt:=zfz HTV.out ts0;have HI:=hid hI;have HFAR:=hid hfar;subst hln;have hleave:Hid (InC X2 mb mb2 M (zbf M ss) cs.length (.slice la ll.length lc) ll Z):=HI;clear hI hfar
      by_cases hih:i≤hi
      ·have hihi:(i:Int)≤(hi:Int):=by omega
       have hihb:decide ((i:Int)≤(hi:Int))=true:=decide_eq_true hihi
       by_cases hfull:ll.length<cs.length
       ·have hfi:(ll.length:Int)<(cs.length:Int):=by omega
        have HTZ:=hid (HTW2.out.mk2 V HTV.out HI.out.k HI.out.m1 HI.out.m2);have hxT:i<cnt (zbf M ss) ts0:=by have:=HH2.out;omega
        have HXT:=hid hxT;have hi6:i≤1679616:=by omega
        clear hcnt hxT;go_wp2_with fail;refine(znj (zbf M ss) HTV.out p2 mb2 ka sa2 kc sc2 i HXT.out Z HTZ.out.b).mono ?_
        rintro e Z1 ⟨rfl,hk1,hm1⟩;have HI1:=hid (HI.out.snd HTW2.out.ne hk1 hm1);replace r1:=hk1.cell r1 HRM.out.2;replace zR:=wfu _ _ r1;have HTZ1:=hid (HTW2.out.mk2 V HTV.out HI1.out.k HI1.out.m1 HI1.out.m2);have hcw:=zgn HTV.out HXT.out;obtain⟨u,hu⟩:∃u,u=zfo (zbf M ss) i:=⟨_,rfl⟩
        rw[←hu]at hcw ⊢;have hu1:u.length=M.n:=by have:=hcw.len;simpa[ts0,zbf]using this
        have hu2:∀c∈u,c<M.L:=hcw.letters;have HU1:=hid hu1;have HU2:=hid hu2;clear hk1 hm1 hu hcw hu1 hu2 HTZ;go_wp2_with fail;refine(zmj M V p mb ka sa kc sc u HU1.out HU2.out Z1 HTZ1.out.a).mono ?_
        rintro e Z2 ⟨rfl,hk2,hm2⟩;have HI2:=hid (HI1.out.fst HTW2.out.ne hk2 hm2);replace r1:=hk2.cell r1 HRM.out.1;replace zR:=wfu _ _ r1;obtain⟨x,hx⟩:∃x:Int,x=(zci M u ts0:Int):=⟨_,rfl⟩
        rw[←hx];have hI2A:=HI2.out.ext (show Ext Z2 (Z2.alloc (.cells #[.int .i64 x] 2))from xx);have HI2A:=hid hI2A;have hyz:=HI2A.out.k.size;obtain⟨v',Z3,hrun,q2,q3,q4⟩:=zfy zahj 107 X2.heap.size hI2A.o Z2.heap.size 0 1 [[.int .i64 x]] (by simp) (newRow _ [.int .i64 x] _) (by simp[Value.oneCell']) (by simp;omega) hyz;have HI3:=hid (hI2A.app q3 q2 hfull);have hE2A:Ext Z2 (Z2.alloc (.cells #[.int .i64 x] 2)):=xx;have r1a:=zh hE2A r1;have r13:=q3.cell r1a (fun e=>HFAR.out R e.symm rfl);have hfar3:∀g,v'.ownBlock=some g→g≠R:=fun g hg e=>by
         rcases q4 g hg with h|h
         ·exact HFAR.out g h e
         ·have:=wfu _ _ r1a
          simp only at this;omega
        have HR13:=hid r13;have HFAR3:=hid hfar3;clear hk2 hm2 hx hI2A hyz q2 q3 q4 hE2A r1a r13 hfar3 HTZ1 r1 zR;go_wp2_with (at_builtin;refine zhb rfl (.tmp 57) (.tmp 63) rfl rfl rfl hrun ?_);exact⟨⟨i+1,_,by omega,by go_num,HI3.out,HR13.out,HFAR3.out⟩,by simp[intOf];omega⟩
       ·have hfi:¬((ll.length:Int)<(cs.length:Int)):=by omega
        go_wp2_with fail;exact⟨⟨a+1,_,by omega,by go_num,HI.out⟩,by simp[intOf];omega⟩
      ·have hihi:¬((i:Int)≤(hi:Int)):=by omega
       have hihb:decide ((i:Int)≤(hi:Int))=false:=decide_eq_false hihi;go_wp2_with fail;exact⟨⟨a+1,_,by omega,by go_num,HI.out⟩,by simp[intOf];omega⟩
    ·have hai:¬((a:Int)<(il.length:Int)):=by omega
     have hoy:=HO.out.next (MK2.one HK12.out HI.out.k HM2.out) HI.out.m1;have hdX:∀g,dv.ownBlock=some g→g<X2.heap.size:=fun g hg=>wet (HO.out.d.notOwn g hg).2 HK12.out.size
     have hwX:w.heap.size≤X2.heap.size:=wer HO.out.kp.size HK12.out.size;have hloY:=hI.o.notOwn;have hlen9:=hI.len;obtain⟨na,nn,nc,rfl⟩:=hoy.n.isSlice;obtain⟨da,dn,dc,rfl⟩:=hoy.d.isSlice;obtain⟨ln0,hln0⟩:∃ln0,ln0=l.length:=⟨_,rfl⟩
     rw[←hln0]at hoy;have ha1:some cb≠(Value.slice na nn nc).ownBlock:=fun e=>zh8 hoy.n hoy.c (by decide) e.symm
     have ha2:∀g,(Value.slice da dn dc).ownBlock=some g→(Value.slice na nn nc).ownBlock≠some g:=zgp hoy.d hoy.n (by decide);have ha3:cb<Y.heap.size:=hoy.c.lt;have ha4:∀g,(Value.slice da dn dc).ownBlock=some g→g<Y.heap.size:=fun g hg=>(hoy.d.notOwn g hg).2
     have ha5:∀g,(Value.slice na nn nc).ownBlock=some g→g<Y.heap.size:=fun g hg=>(hoy.n.notOwn g hg).2
     have ha6:∀g,(Value.slice da dn dc).ownBlock=some g→g≠cb:=fun g hg e=>by subst e;exact zh8 hoy.d hoy.c (by decide) hg
     have hwY:w.heap.size≤Y.heap.size:=hoy.kp.size;have hnl:=hoy.nl;have hdl:=hoy.dl;have HA1:=hid ha1;have HA2:=hid ha2;have HA3:=hid ha3;have HA4:=hid ha4;have HA5:=hid ha5;have HA6:=hid ha6;have HOY:=hid hoy;have HDX:=hid hdX;have HWX:=hid hwX;have HWY:=hid hwY;have HLN0:=hid hln0;clear hoy hdX hwX ha1 ha2 ha4 ha5 ha6 hI hloY hln0;go_upto_region 15 with(fail);rw[←HLN0.out];refine zii (zaj4 (B:=w.heap.size) (p:=p) (cv:=.slice (some ⟨qb,qo,none⟩) cs.length cc) (sv:=.slice sl ln0 scap) (ds:=ds) (Y:=Y) HA1.out HA2.out) 18 rfl (by kernel_rfl) w.heap.size (zalj (fun g hg=>(HOY.out.n.notOwn g hg).1) (fun g hg=>(HOY.out.d.notOwn g hg).1) HOY.out.lo) HWY.out ⟨HOY.out.c,HOY.out.d,Kept.refl _ _⟩
      [zfq [8,14,17] (.pointer (some ⟨cb,0,none⟩)),zfq [8,14,17] (.pointer (some ⟨cb,0,none⟩)),zfq [8,14,17] (.pointer (some ⟨cb,0,none⟩)),zfq [8,14,17] (.pointer (some ⟨cb,0,none⟩)),zfq [8,14,17] (.pointer (some ⟨cb,3,none⟩)),zfq [8,14,17] (.slice na nn nc),zfq [8,14,17] (.slice la ln lc),zlm [] [] (fun _=>zhc Y.heap.size (.slice la ln lc)) (fun _ _ _ _ h e=>h.ext e) (fun _ h=>by cases h),zlm [] [14,17] (fun _=>P8 w.heap.size (.slice na nn nc) (vs.map fun x=>[x.1]) (.slice la ln lc) Y) (fun _ _ _ _ h e=>h.ext e) (fun k hk _ _ _ _ h e=>P8.hard HA1.out HA2.out HA3.out HA4.out hk h e),zfq [8,14,17] (.pointer (some ⟨cb,0,none⟩)),zfq [8,14,17] (.pointer (some ⟨cb,0,none⟩)),zfq [8,14,17] (.pointer (some ⟨cb,4,none⟩)),zfq [8,14,17] (.slice da dn dc),zlm [] [8] (fun _=>zhc Y.heap.size (.int .i64 (-1))) (fun _ _ _ _ h e=>h.ext e) (fun k hk _ _ _ _ h e=>zhc.hard HA5.out hk h e),zlm [] [17] (fun _=>P14 w.heap.size cb p (.slice (some ⟨qb,qo,none⟩) cs.length cc) (.slice sl ln0 scap) (.slice na nn nc) (.slice da dn dc) ds Y) (fun _ _ _ _ h e=>h.ext e) (fun k hk _ _ _ _ h e=>P14.hard HA6.out HA3.out hk h e),zfq [8,14,17] (.pointer (some ⟨cb,0,none⟩)),zfq [8,14,17] (.pointer (some ⟨cb,3,none⟩)),zlm [8,14] [] (fun l _ W=>zbw W cb p (.slice (some ⟨qb,qo,none⟩) cs.length cc) (.slice sl ln0 scap) (l.headD undef) (.slice da dn dc)) (fun _ _ _ _ h e=>h.ext e) (fun _ h=>by cases h)]
      [[8,14,17],[8,14,17],[8,14,17],[8,14,17],[8,14,17],[8,14,17],[8,14,17],[],[14,17],[8,14,17],[8,14,17],[8,14,17],[8,14,17],[8],[17],[8,14,17],[8,14,17],[]] [false,false,false,false,false,false,false,false,true,false,false,false,false,false,true,false,false,true] [true,true,true,true,true,true,true,false,true,true,true,true,true,false,true,true,true,true] [false,false,true,true,true,true,true,true,true,false,false,false,false,false,false,false,false,false] [false,false,true,true,true,true,true,true,true,true,true,true,true,true,true,false,false,false]
      (by kernel_rfl) (by kernel_rfl) [[],[],[],[],[],[],[],[],[],[],[],[],[],[],[],[],[],[8,14]] rfl (by decide +kernel) (by decide +kernel) (by decide +kernel) (by decide +kernel) rfl ⟨rfl,rfl⟩ ⟨?s0,?s1,?s2,?s3,?s4,?s5,?s6,?s7,?s8,?s9,?s10,?s11,?s12,?s13,?s14,?s15,?s16,?s17,trivial⟩ [some 66,some 67,some 68,some 69,some 70,some 71,some 72,some 73,some 74,some 75,some 76,some 77,some 78,some 79,some 80,some 81,some 82,none] rfl rfl ?send
     case s0 =>
      intro val ρ W hE hz hd hA hx hj;have o0:ρ (.tmp 7)=.pointer (some ⟨cb,0,none⟩):=hA.old 7 (by decide);exact zbe (W':=W) (by simp[execOp,o0,go_sem]) (Below.refl _ _) rfl
     case s1 =>
      intro val ρ W hE hz hd hA hx hj;have o0:ρ (.tmp 7)=.pointer (some ⟨cb,0,none⟩):=hA.old 7 (by decide);exact zbe (W':=W) (by simp[execOp,o0,go_sem]) (Below.refl _ _) rfl
     case s2 =>
      intro val ρ W hE hz hd hA hx hj;have o0:ρ (.tmp 7)=.pointer (some ⟨cb,0,none⟩):=hA.old 7 (by decide);exact zbe (W':=W) (by simp[execOp,o0,go_sem]) (Below.refl _ _) rfl
     case s9 =>
      intro val ρ W hE hz hd hA hx hj;have o0:ρ (.tmp 7)=.pointer (some ⟨cb,0,none⟩):=hA.old 7 (by decide);exact zbe (W':=W) (by simp[execOp,o0,go_sem]) (Below.refl _ _) rfl
     case s3 =>
      intro val ρ W hE hz hd hA hx hj;have d2:ρ (.tmp 68)=.pointer (some ⟨cb,0,none⟩):=(hA.dep 2 (by decide) 68 rfl).trans (hd 2 (wdn _ (by decide)));exact zbe (W':=W) (by simp[execOp,d2,go_sem]) (Below.refl _ _) rfl
     case s4 =>
      intro val ρ W hE hz hd hA hx hj;have d3:ρ (.tmp 69)=.pointer (some ⟨cb,0,none⟩):=(hA.dep 3 (by decide) 69 rfl).trans (hd 3 (wdn _ (by decide)));exact zbe (W':=W) (by simp[execOp,d3,go_sem]) (Below.refl _ _) rfl
     case s5 =>
      intro val ρ W hE hz hd hA hx hj;have d4:ρ (.tmp 70)=.pointer (some ⟨cb,3,none⟩):=(hA.dep 4 (by decide) 70 rfl).trans (hd 4 (wdn _ (by decide)));obtain⟨-,-,-,k3,-⟩:=(hj (by decide)).1.cells;exact zbe (W':=W) (by simp[execOp,d4,k3,go_sem]) (Below.refl _ _) rfl
     case s6 =>
      intro val ρ W hE hz hd hA hx hj;have o0:ρ (.tmp 11)=.slice la ln lc:=hA.old 11 (by decide);exact zbe (W':=W) (by simp[execOp,o0,go_sem]) (Below.refl _ _) rfl
     case s7 =>
      intro val ρ W hE hz hd hA hx hj;have d6:ρ (.tmp 72)=.slice la ln lc:=(hA.dep 6 (by decide) 72 rfl).trans (hd 6 (wdn _ (by decide)));exact zbe (v:=.slice (some ⟨W.heap.size,0,none⟩) 1 1) (W':=W.alloc (.cells #[.slice la ln lc] 107)) (by simp[execOp,d6,go_sem]) xx ⟨W.heap.size,rfl,hz,by simp[go_sem]⟩
     case s8 =>
      intro val ρ W hE hz hd hA hx hj;have d5:ρ (.tmp 71)=.slice na nn nc:=(hA.dep 5 (by decide) 71 rfl).trans (hd 5 (wdn _ (by decide)));obtain⟨b',e7,hl7⟩:=zhc.rows (hd 7 (wdn _ (by decide)));have d7:ρ (.tmp 73)=.slice (some ⟨b',0,none⟩) 1 1:=(hA.dep 7 (by decide) 73 rfl).trans e7;have hW:=hx (by decide);obtain⟨v',w',hrun,q2,q3,q4⟩:=zfy zali 106 w.heap.size (HOY.out.n.ext hW) b' 0 1 [[.slice la ln lc]] (by simp) hl7 (by simp[Value.oneCell']) (by simp;omega) (wer HWY.out hz);exact zhv (.tmp 71) (.tmp 73) rfl rfl _ _ d5 d7 hrun (.inl ⟨rfl,q3⟩) ⟨q2,fun g hg=>(q4 g hg).imp id fun h=>wer hz h⟩
     case s10 =>
      intro val ρ W hE hz hd hA hx hj;have d9:ρ (.tmp 75)=.pointer (some ⟨cb,0,none⟩):=(hA.dep 9 (by decide) 75 rfl).trans (hd 9 (wdn _ (by decide)));exact zbe (W':=W) (by simp[execOp,d9,go_sem]) (Below.refl _ _) rfl
     case s11 =>
      intro val ρ W hE hz hd hA hx hj;have d10:ρ (.tmp 76)=.pointer (some ⟨cb,0,none⟩):=(hA.dep 10 (by decide) 76 rfl).trans (hd 10 (wdn _ (by decide)));exact zbe (W':=W) (by simp[execOp,d10,go_sem]) (Below.refl _ _) rfl
     case s12 =>
      intro val ρ W hE hz hd hA hx hj;have d11:ρ (.tmp 77)=.pointer (some ⟨cb,4,none⟩):=(hA.dep 11 (by decide) 77 rfl).trans (hd 11 (wdn _ (by decide)));obtain⟨-,-,-,-,k4⟩:=(hj (by decide)).1.cells;exact zbe (W':=W) (by simp[execOp,d11,k4,go_sem]) (Below.refl _ _) rfl
     case s13 =>
      intro val ρ W hE hz hd hA hx hj;exact zbe (v:=.slice (some ⟨W.heap.size,0,none⟩) 1 1) (W':=W.alloc (.cells #[.int .i64 (-1)] 2)) (by simp[execOp,hA.const,go_sem]) xx ⟨W.heap.size,rfl,hz,by simp[go_sem]⟩
     case s14 =>
      intro val ρ W hE hz hd hA hx hj;have d12:ρ (.tmp 78)=.slice da dn dc:=(hA.dep 12 (by decide) 78 rfl).trans (hd 12 (wdn _ (by decide)));obtain⟨b',e13,hl13⟩:=zhc.rows (hd 13 (wdn _ (by decide)));have d13:ρ (.tmp 79)=.slice (some ⟨b',0,none⟩) 1 1:=(hA.dep 13 (by decide) 79 rfl).trans e13;obtain⟨j1,j2,j3⟩:=hj (by decide);obtain⟨v',w',hrun,q2,q3,q4⟩:=zfy zahj 107 w.heap.size j2 b' 0 1 [[.int .i64 (-1)]] (by simp) hl13 (by simp[Value.oneCell']) (by simp;omega) (wer HWY.out hz);exact zhv (.tmp 78) (.tmp 79) rfl rfl _ _ d12 d13 hrun (.inr (.inl ⟨rfl,q3⟩)) ⟨q2,fun g hg=>(q4 g hg).imp id fun h=>wer hz h,⟨_,(q3.same cb j1.lt fun e=>HA6.out cb e.symm rfl).trans j1⟩,(j3.mono fun _ _ hk=>hk.1).trans (q3.mono fun _ _ hk=>hk.2.1)⟩
     case s15 =>
      intro val ρ W hE hz hd hA hx hj;have d0:ρ (.tmp 66)=.pointer (some ⟨cb,0,none⟩):=(hA.dep 0 (by decide) 66 rfl).trans (hd 0 (wdn _ (by decide)));exact zbe (W':=W) (by simp[execOp,d0,go_sem]) (Below.refl _ _) rfl
     case s16 =>
      intro val ρ W hE hz hd hA hx hj;have d15:ρ (.tmp 81)=.pointer (some ⟨cb,0,none⟩):=(hA.dep 15 (by decide) 81 rfl).trans (hd 15 (wdn _ (by decide)));exact zbe (W':=W) (by simp[execOp,d15,go_sem]) (Below.refl _ _) rfl
     case s17 =>
      intro val ρ W hE hz hd hA hx hj;have d16:ρ (.tmp 82)=.pointer (some ⟨cb,3,none⟩):=(hA.dep 16 (by decide) 82 rfl).trans (hd 16 (wdn _ (by decide)));have r8:P8 w.heap.size (.slice na nn nc) (vs.map fun x=>[x.1]) (.slice la ln lc) Y (val 8) W:=hd 8 (wdn _ (by decide));have d8:ρ (.tmp 74)=val 8:=hA.dep 8 (by decide) 74 rfl;have r14:P14 w.heap.size cb p (.slice (some ⟨qb,qo,none⟩) cs.length cc) (.slice sl ln0 scap) (.slice na nn nc) (.slice da dn dc) ds Y (val 14) W:=hd 14 (wdo _ (List.Mem.tail _ (List.Mem.head _)));obtain⟨-,-,⟨y,hy⟩,-⟩:=r14;obtain⟨ea,en,ec,e8⟩:=r8.1.isSlice;obtain⟨-,-,-,k3,-⟩:=hy.cells;have fz:W.frozen? ⟨cb,3,none⟩=false:=by unfold zbw at hy;simp[World.frozen?,hy]
      exact zaci (W':=W.setCell ⟨cb,3,none⟩ (val 8)) (by rw[e8]at d8 ⊢;simp[execOp,d16,d8,k3,fz,go_sem]) (.inr (.inr ⟨rfl,_,rfl⟩)) (z75 hy (val 8))
     case send =>
      intro val WW hE hzz hv;obtain⟨-,r1,-,-,-,-,-,-,r8,-,-,-,-,-,r14,-,-,r17,-⟩:=hv;have q1:val 1=.pointer (some ⟨cb,0,none⟩):=r1;have r8:P8 w.heap.size (.slice na nn nc) (vs.map fun x=>[x.1]) (.slice la ln lc) Y (val 8) WW:=r8;have r14:P14 w.heap.size cb p (.slice (some ⟨qb,qo,none⟩) cs.length cc) (.slice sl ln0 scap) (.slice na nn nc) (.slice da dn dc) ds Y (val 14) WW:=r14;have r17:zbw WW cb p (.slice (some ⟨qb,qo,none⟩) cs.length cc) (.slice sl ln0 scap) (val 8) (.slice da dn dc):=r17;have hgr:=HOY.out.grow HI.out.o HWX.out HDX.out (by omega) r8 r14 r17;obtain⟨ea,en,ec,e14⟩:=r14.1.isSlice;obtain⟨-,-,-,-,k4⟩:=r17.cells;have fz:WW.frozen? ⟨cb,4,none⟩=false:=by unfold zbw at r17;simp[World.frozen?,r17]
      have zc:=r17.lt;rw[e14]at hgr;have HGR:=hid hgr;simp only[za9,q1,e14];go_frame;clear hE hzz r1 q1 r8 r14 r17 hgr e14;obtain rfl:ln0=l.length:=HLN0.out;go_wp2_with fail;exact⟨⟨k+1,_,_,_,_,by omega,by go_num,HGR.out⟩,by simp[intOf];omega⟩
  ·have hki:¬((k:Int)<(cs.length:Int)):=by omega
   have hkn:k=cs.length:=by omega
   subst hkn;have hmm:=@run_makeMap Tryz.prog;have hpd:∀db,dv.ownBlock=some db→zcx X db cs.length:=fun db h=>by
    by_cases h0:0<ds.length
    ·obtain⟨g,dc,e,q⟩:=z76 HO.out.d h0
     rw[e]at h;cases h;rw[HO.out.dl]at q;exact q
    ·have hd:=HO.out.d
     have hz:=HO.out.dl
     rcases hd.1.2 with⟨a,-⟩|⟨g,cap,cur,e,hb,hg,hr⟩
     ·rw[a]at h;cases h
     ·rw[e]at h
      cases h;exact⟨cur,hg,by omega,fun j hj=>by omega⟩
   have HPD:=hid hpd;clear hpd;go_wp2_with fail
   go_loopw [88] (fun iv W=>∃n:Nat,n≤cs.length∧iv=.int .i64 n∧zsk X dv cs.length W) (fun iv _=>cs.length-(intOf iv).toNat)
   case atStart=>exact⟨0,by omega,rfl,Kept.refl _ _,fun db h=>HPD.out db h⟩
   case round =>
    obtain⟨n,hn,rfl,hp⟩:=hrel;obtain⟨Y,rfl⟩:∃Y,Y=wr:=⟨_,rfl⟩
    have HP:=hid hp;clear hp
    by_cases hln:n<cs.length
    ·have hni:(n:Int)<(cs.length:Int):=by omega
     have hds:0<ds.length:=by have:=HO.out.dl;omega
     obtain⟨db,dc,hdv,-⟩:=z76 HO.out.d hds;have hdl:=HO.out.dl;rw[hdl]at hdv;obtain⟨na,nn,nc,hnv⟩:=HO.out.n.isSlice;subst hdv hnv;obtain⟨Y1,hY1⟩:∃Y1,Y1=Y.alloc (.map #[] 0):=⟨_,rfl⟩
     have hEY:Ext Y Y1:=by rw[hY1];exact xx
     have hmi:zbo zga zga Y1 Y.heap.size (fun _:Int=>(none:Option Int)):=by rw[hY1];exact zr9 Y
     have hPY:zsk X (.slice (some ⟨db,0,none⟩) cs.length dc) cs.length Y1:=⟨HP.out.k.trans (Kept.of_below hEY),fun g h=>(HP.out.p g h).same (hEY.block _ (HP.out.p g h).lt)⟩
     have hXY:X.heap.size≤Y.heap.size:=HP.out.k.size;obtain⟨hnn,hcan⟩:=zaj5 HO.out hPY rfl hXY;subst hnn;obtain⟨-,-,hcnt⟩:=HO.out.done hPY;have n1:cb≠db:=fun e=>by subst e;exact zh8 HO.out.d HO.out.c (by decide) rfl
     have n2:cb≠Y.heap.size:=by have:=HO.out.c.lt;omega
     have n3:db≠Y.heap.size:=by have:=(HO.out.d.notOwn db rfl).2;omega
     have hpay:=zaie cb p db cs.length dc Y.heap.size _ _ na nc vs HO.out.nl (by omega) (fun x hx=>(HO.out.e x hx).2) n1 n2 n3 (zhw (vs.flatMap (·.2)) (fun _=>none)+1) n (fun _=>none) Y1 hln (Nat.lt_succ_self _) hcnt hcan (hPY.p db rfl) hmi (fun _ _ h=>by cases h);rw[hY1]at hpay;have hfin:∀W2,zqn Y1 db cs.length Y.heap.size (fun _=>none) W2→zsk X (.slice (some ⟨db,0,none⟩) cs.length dc) cs.length W2:=fun W2 q=>hPY.step rfl (Below.refl _ _) hXY q
     rw[hY1]at hfin;have HPAY:=hid hpay;have HFIN:=hid hfin;clear hds hdl hEY hmi hPY hXY hcan hcnt n1 n2 n3 hpay hfin hY1;go_wp2_with fail;refine HPAY.out.mono ?_
     rintro e Y2 ⟨b,rfl,hq⟩;have HQ:=hid (HFIN.out Y2 hq);clear hq;go_wp2_with fail;exact⟨⟨n+1,by omega,by go_num,HQ.out⟩,by simp[intOf];omega⟩
    ·have hni:¬((n:Int)<(cs.length:Int)):=by omega
     go_wp2_with fail;go_ret;obtain⟨f1,f2,f3⟩:=HO.out.done HP.out;exact⟨cb,rfl,f1,f2,HO.out.lo,nv,dv,f3⟩
end Go.Proofs.YtdcnbeehckgpcaaGreat
