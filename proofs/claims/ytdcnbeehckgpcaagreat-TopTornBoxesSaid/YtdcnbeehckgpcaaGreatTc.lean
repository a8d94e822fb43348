/-
  A drawn region in the round of a range over a function, with a property of worlds that its operations keep; the last operation writes.
-/
import Derived.Test.YtdcnbeehckgpcaaGreatTb
import Derived.Lib.ConvBytes
set_option maxRecDepth 200000
set_option maxHeartbeats 0
set_option linter.unusedSimpArgs false
set_option linter.unusedVariables false
namespace Go.Proofs.YtdcnbeehckgpcaaGreat
open Go.Lib (hid)
open Go.RowKit Go.Shelf
theorem zmz{J:World→Prop}(hJm:∀W W',J W→Ext W W'→J W'){P:Program}{n l:Nat}{id:Nat}{Q:Exit→Act→World→Prop}{a:Act}{w:World}{hd0:List Oper}{o:Oper}{ls:List Oper}(hls:ls=hd0++[o])(hg:o.guard=none)(hL:lastB .any hd0.toArray o=true)
  (hJw:J w) (B:Nat) (hBw:B≤w.heap.size) (S:List Sq) (hd st keep ea:List Bool) (hm:P.follows .mixedOrders=true) (hB:zf7 hd0 a.tmps.size=true)
  (hO:zct hd0 (za4 hd0) hd st=true) (hK:ze0 hd0.length (za4 hd0) hd st=keep) (hEa:zbg hd0.length (za4 hd0) st=ea) (hsl:st.length=hd0.length) (hhd:S.map (·.hard)=hd∧usB hd0 S=true)
  (hstep:zll J P w B hd0 (fun i=>S.getD i sqT) a (st.zip ea) hd0 S)
  (D:List (Option Tmp)) (hDs:hd0.map (·.dst)=D) (hlen:S.length=hd0.length)
  (hend:∀(val:Nat→Value) (W:World),Below B w W→J W→w.heap.size≤W.heap.size→zf8 keep S 0 val W→wpListIn (Fence.wide.inRound l) n P ls.toArray Q [o] (za9 D 0 val a) W) :
  (Code.region id ls.toArray true).wpIn (Fence.wide.inRound l) n P Q a w:=by
 subst hls;have e:(hd0++[o]).toArray=hd0.toArray.push o:=by simp
 rw[e]at hend ⊢;refine wpIn_region_any (F:=FW (some l)) hm ?_
 have e2:Array.replicate (hd0.toArray.push o).size false=(Array.replicate hd0.toArray.size false).push false:=by
  rw[wak,wai]
 rw[e2,wak];refine zit hL _ _ _ _ (by simp) (fun j oj _ hl=>by rw[zaw]at hl;cases hl) ?_
 have hend':∀(val:Nat→Value) (W:World),Below B w W→J W→w.heap.size≤W.heap.size→zf8 keep S 0 val W→Exit.then (fun a w=>wpOpIn (FW (some l)) n P (hd0.toArray.push o) Q hd0.toArray.size (Q .normal) a w) Q .normal (za9 D 0 val a) W:=by
  intro val W h1 hj h2 h3;have h:=hend val W h1 hj h2 h3;unfold wpListIn at h;simp only[Exit.then];unfold wpOpIn;have hi:(hd0.toArray.push o)[hd0.toArray.size]?=some o:=by simp
  rw[hi];have hw:∀y,Region.wanted o y=true:=fun y=>by simp[Region.wanted,hg]
  simp only[hw,if_true]at h ⊢;exact h
 exact ze7 _ _ _ _ (zab4 hJm hJw B hBw S hd st keep ea hB hO hK hEa hsl hhd hstep D hDs hlen hend')
theorem zm0{J:World→Prop}(hJm:∀W W',J W→Ext W W'→J W'){P:Program}{n l:Nat}{id:Nat}{Q:Exit→Act→World→Prop}{a:Act}{w:World}{o:Oper}{ls:List Oper}(ho:ls.getLast?=some o)(hg:o.guard=none)(hL:lastB .any ls.dropLast.toArray o=true)
  (hJw:J w) (B:Nat) (hBw:B≤w.heap.size) (S:List Sq) (hd st keep ea:List Bool) (hm:P.follows .mixedOrders=true) (hB:zf7 ls.dropLast a.tmps.size=true)
  (hO:zct ls.dropLast (za4 ls.dropLast) hd st=true) (hK:ze0 ls.dropLast.length (za4 ls.dropLast) hd st=keep) (hEa:zbg ls.dropLast.length (za4 ls.dropLast) st=ea) (hsl:st.length=ls.dropLast.length) (hhd:S.map (·.hard)=hd∧usB ls.dropLast S=true)
  (hstep:zll J P w B ls.dropLast (fun i=>S.getD i sqT) a (st.zip ea) ls.dropLast S)
  (D:List (Option Tmp)) (hDs:ls.dropLast.map (·.dst)=D) (hlen:S.length=ls.dropLast.length)
  (hend:∀(val:Nat→Value) (W:World),Below B w W→J W→w.heap.size≤W.heap.size→zf8 keep S 0 val W→wpListIn (Fence.wide.inRound l) n P ls.toArray Q [o] (za9 D 0 val a) W) :
  (Code.region id ls.toArray true).wpIn (Fence.wide.inRound l) n P Q a w:=by
 refine zmz hJm ?_ hg hL hJw B hBw S hd st keep ea hm hB hO hK hEa hsl hhd hstep D hDs hlen hend;have hne:ls≠[]:=by intro e;rw[e]at ho;cases ho
 rw[wc2 hne]at ho;have:=wby hne;rw[←this];cases ho;simp
theorem zab8{J:World→Prop}{strong:Bool}{P:Program}{B:Nat}{o:Oper}{ρ:Operand→Value}{W:World}{val:Nat→Value}{s:Sq}(f:FuncId)(xs:Array Operand)(ats:Array TypeId)(h:o.op=.call { callee:=.value (.func f),args:=xs,argTypes:=ats })(args:Array Value)(hf:ρ (.func f)=.func (.func f) #[] #[])(ha:xs.map ρ=args)(hc:∀args W,(callFunc f args).run P W=.ok (.enter f args) W)
  (hs:Calls P f args W fun e W''=>∃v,e=.returned v∧zje J B strong W W''∧s.p (s.us.map val) (match o.dst with|some _=>v|none=>undef) W''):zzd J P B strong o ρ W val s:=by
 obtain⟨dst,op,type,pos,after,guard⟩:=o;simp only at h;subst h;have e:execOp ρ { dst,op:=.call { callee:=.value (.func f),args:=xs,argTypes:=ats },type,pos,after,guard }=callFunc f (#[]++xs.map ρ ++ #[]):=by
  simp only[execOp,resolve,hf];rfl
 unfold zzd;rw[e];have e2:#[]++xs.map ρ ++ #[]=args:=by rw[ha];simp
 rw[e2,hc];exact hs
end Go.Proofs.YtdcnbeehckgpcaaGreat
namespace Go.Proofs.YtdcnbeehckgpcaaGreat
open Go.Lib (hid)
open Go.RowKit Go.Shelf
attribute [local go_sem] Oper.semAt_some
theorem zsi(W:World)(e:TypeId)(s:ByteArray):Ext W (Lib.bytesWorld W e s) :=
 ⟨rfl,rfl,rfl,by rw[Lib.bytesWorld_size];omega,fun k hk=>Lib.bytesWorld_at_old W e s k hk⟩
def zb9(W:World)(b:Nat)(x:Int):Prop:=W.heap[b]?=some (.cells #[.int .i64 x] 2 (0,0))
theorem zb9.c0{W:World}{b:Nat}{x:Int}(h:zb9 W b x):W.cell? ⟨b,0,none⟩=some (.int .i64 x):=by rw[cell_of_row _ _ _ _ _ _ h];rfl
theorem zb9.fr{W:World}{b:Nat}{x:Int}(h:zb9 W b x)(o:Nat):W.frozen? ⟨b,o,none⟩=false:=by
 have h':W.heap[b]?=_:=h;simp[World.frozen?,h']
theorem zb9.lt{W:World}{b:Nat}{x:Int}(h:zb9 W b x):b<W.heap.size:=(wad.1 h).1
theorem zb9.kept{S:Nat→Prop}{W W':World}{b:Nat}{x:Int}(h:zb9 W b x)(k:Kept S W W')(hs:S b):zb9 W' b x:=(k.same b h.lt hs).trans h
theorem zb9.set{W:World}{b:Nat}{x:Int}(h:zb9 W b x)(y:Int):zb9 (W.setCell ⟨b,0,none⟩ (.int .i64 y)) b y:=zal h 0 _
def McJ(X:World)(mb:Nat)(M:zl)(W:World):Prop:=Kept (fun k=>k≠mb) X W∧zan W mb M
theorem McJ.ext{X:World}{mb:Nat}{M:zl}{W W':World}(h:McJ X mb M W)(e:Ext W W'):McJ X mb M W':=⟨h.1.trans (Kept.of_below e),h.2.of_heap (e.block _ h.2.lt)⟩
theorem zae3(M:zl)(ls:List Nat)(s:TSt){i:Nat}(hi:i<ls.length):zci M (ls.drop i) s=zd4 M s (ls.getD i 0) (stL M s M.L)+if okS M s (ls.getD i 0)=true then zci M (ls.drop (i+1)) (toS M s (ls.getD i 0))else 0:=by
 rw[List.drop_eq_getElem_cons hi,zci,zqd];have e:ls[i]=ls.getD i 0:=by rw[wch,wcn hi];rfl
 rw[e]
theorem zab9(M:zl)(V:zag M)(p mb:Nat)(ka sa:Option Addr)(kc sc:Nat)(ls:List Nat)(hl:ls.length=M.n)(hc:∀c∈ls,c<M.L)(w:World)(h:zc6 w p M ka sa kc sc mb) :
  CallsIn Fence.wide 9 Tryz.prog 32 #[.pointer (some ⟨p,0,none⟩),.string (zcn ls)] w (McQ mb M (.int .i64 (zci M ls ts0:Int)) w):=by
 have hcv:=fun w=>Lib.run_convert_string_bytes (P:=Tryz.prog) w 9 32 5 (zcn ls) Tryz.underlying9 Tryz.underlying32 (by kernel_rfl)
 rw[zkz]at hcv;have H:=hid h;have HC:=hid hc;have HL:=hid hl;have hpz:=h.m.lt;have hmz:=h.map.lt;clear h hc hl;refine callsIn_of_wp_marks Tryz.func32 rfl trivial ?_ rfl;simp only[Tryz.ntmps32,wd7,wc4,wc9,Nat.reduceAdd,Nat.reduceSub,wai,waj,wd4,wbo,wd1,wbp];gi_wp2_with fail;refine⟨trivial,(callsIn_wide.2 (zfl _)).mono ?_⟩;rintro e W1 ⟨rfl,hE1⟩;unfold zai stC;obtain⟨W2,hW2⟩:∃W2,W2=Lib.bytesWorld ((W1.alloc (.cells #[.int .i64 0] 2)).alloc (.cells #[.int .i64 ts0.at_,.int .i64 ts0.last,.int .i64 ts0.sum] 97)) 5 (zcn ls):=⟨_,rfl⟩
 obtain⟨cap,hcap⟩:∃cap,cap=grownCap ((W1.alloc (.cells #[.int .i64 0] 2)).alloc (.cells #[.int .i64 ts0.at_,.int .i64 ts0.last,.int .i64 ts0.sum] 97)) ls.length 0 5:=⟨_,rfl⟩
 have hE12:Ext W1 W2:=by rw[hW2];exact Ext.trans' (by exact xx) (zsi _ _ _)
 have hna:zb9 W2 W1.heap.size 0:=by
  rw[hW2];exact((zsi _ _ _).block _ (by simp;omega)).trans ((Below.heap_alloc _ _ _ (by simp)).trans (World.alloc_heap_new W1 _))
 have hsa:zbl W2 (W1.heap.size+1) ts0:=by
  rw[hW2];have h1:=World.alloc_heap_new (W1.alloc (.cells #[.int .i64 0] 2)) (.cells (stC ts0) 97);rw[wfx]at h1;exact((zsi _ _ _).block _ (by simp)).trans h1
 have hby:∀i,i<ls.length→W2.cell? ⟨W1.heap.size+2,i,none⟩=some (.int .u8 ((97+ls.getD i 0:Nat):Int)):=fun i hi=>by
  have h1:=Lib.bytesWorld_cell ((W1.alloc (.cells #[.int .i64 0] 2)).alloc (.cells #[.int .i64 ts0.at_,.int .i64 ts0.last,.int .i64 ts0.sum] 97)) 5 (zcn ls) i (by rw[zkz];exact hi);rw[zv8 (fun c h=>by have:=HC.out c h;have:=V.L;omega) hi,wfx,wfx]at h1;rw[hW2];exact h1
 have hz2:W2.heap.size=W1.heap.size+3:=by rw[hW2,Lib.bytesWorld_size];simp
 have hE01:Ext w W1:=Ext.trans' (by exact xx) hE1;have bm:W2.cell? ⟨w.heap.size,0,none⟩=some (.pointer (some ⟨p,0,none⟩)):=zh hE12 (zh hE1 (by simp[go_sem]));have hz1:w.heap.size+1≤W1.heap.size:=by have:=hE1.size;simpa using this
 gi_wp2_with fail;rw[←hW2,←hcap];have HE2:=hid (hE01.trans' hE12);have HNA:=hid hna;have HSA:=hid hsa;have HBY:=hid hby;have hzz2:W1.heap.size+3≤W2.heap.size:=by omega
 clear hW2 hcap hE12 hE1 hE01 hna hsa hby hz2 hcv;refine wpIn_loop (fun a' W=>∃(u9 u10 u17 u18 u19 u20 u21 u22 u23 u24 u25 u26 u37 u38 u39 u40 u41 u42 u43 u44 u45 u46:Value) (ds:List Deferred),(∃(i:Nat) (s:TSt) (A:Nat),i≤ls.length∧u17=.int .i64 i∧s.at_=i∧StV M s∧A+zci M (ls.drop i) s=zci M ls ts0∧A≤i*10077696∧Kept (fun k=>k≠mb∧k≠W1.heap.size∧k≠W1.heap.size+1) W2 W∧zb9 W W1.heap.size A∧zbl W (W1.heap.size+1) s∧zan W mb M∧Marks W2.heap.size ds W)∧a'={ tmps:=#[.pointer (some ⟨p,0,none⟩),.string (zcn ls),.pointer (some ⟨w.heap.size,0,none⟩),undef,.int .i64 0,.pointer (some ⟨W1.heap.size,0,none⟩),.pointer (some ⟨W1.heap.size+1,0,none⟩),.bool true,undef,u9,u10,undef,undef,.agg #[.int .i64 ts0.at_,.int .i64 ts0.last,.int .i64 ts0.sum],.string (zcn ls),.slice (some ⟨W1.heap.size+1+1,0,none⟩) ls.length cap,.int .i64 ls.length,u17,u18,u19,u20,u21,u22,u23,u24,u25,u26,undef,undef,undef,undef,undef,undef,undef,undef,undef,undef,u37,u38,u39,u40,u41,u42,u43,u44,u45,u46,undef],defers:=ds }) (fun a' W=>ls.length-(intOf (a'.tmps.getD 17 undef)).toNat) ?atStart ?round
 case atStart =>
  (repeat apply Exists.intro)
  refine⟨?_,rfl⟩;exact⟨0,ts0,0,by omega,rfl,rfl,z9u V,by simp,by omega,Kept.refl _ _,HNA.out,HSA.out,H.out.map.of_heap (HE2.out.block _ hmz),trivial⟩
 case round =>
  rintro _ wr hinv;obtain⟨u9,hinv⟩:=hinv;obtain⟨u10,hinv⟩:=hinv;obtain⟨u17,hinv⟩:=hinv;obtain⟨u18,hinv⟩:=hinv;obtain⟨u19,hinv⟩:=hinv;obtain⟨u20,hinv⟩:=hinv;obtain⟨u21,hinv⟩:=hinv;obtain⟨u22,hinv⟩:=hinv;obtain⟨u23,hinv⟩:=hinv;obtain⟨u24,hinv⟩:=hinv;obtain⟨u25,hinv⟩:=hinv;obtain⟨u26,hinv⟩:=hinv;obtain⟨u37,hinv⟩:=hinv;obtain⟨u38,hinv⟩:=hinv;obtain⟨u39,hinv⟩:=hinv;obtain⟨u40,hinv⟩:=hinv;obtain⟨u41,hinv⟩:=hinv;obtain⟨u42,hinv⟩:=hinv;obtain⟨u43,hinv⟩:=hinv;obtain⟨u44,hinv⟩:=hinv;obtain⟨u45,hinv⟩:=hinv;obtain⟨u46,hinv⟩:=hinv;obtain⟨ds,hinv⟩:=hinv;obtain⟨hrel,ha⟩:=hinv;subst ha
  try dsimp only
  obtain⟨i,s,A,hi,rfl,hsi,hsv,hA,hAb,hkp,hna,hsa,hmm,hmk⟩:=hrel
  by_cases hlt:i<ls.length
  ·obtain⟨a,ha⟩:∃a,a=ls.getD i 0:=⟨_,rfl⟩
   have hal:a<M.L:=by
    rw[ha,wch,wcn hlt];exact HC.out _ (wcy hlt)
   have hbi:=hkp.cell (HBY.out i hlt) ⟨by simp only;omega,by simp only;omega,by simp only;omega⟩;rw[←ha]at hbi;have bmr:=hkp.cell bm ⟨by simp only;omega,by simp only;omega,by simp only;omega⟩;have hii:(i:Int)<(ls.length:Int):=by omega
   have hL6:=V.L.2;obtain⟨b8,hb8⟩:∃b8:Int,b8=((97+a:Nat):Int):=⟨_,rfl⟩
   rw[←hb8]at hbi;have hw1:IntKind.u8.wrap (b8-97)=(a:Int):=by
    rw[show b8-97=(a:Int) by omega];exact IntWalk.u8_in _ (by omega)
   clear hb8;have hw2:IntKind.i64.wrap (a:Int)=(a:Int):=wbh _ (by omega);have s0:=hsa.c0;have s1:=hsa.c1;have s2:=hsa.c2;have hkw:Kept (fun k=>k<w.heap.size∧k≠mb) w wr:=((Kept.of_below HE2.out).mono fun k _ _=>trivial:Kept (fun k=>k<w.heap.size∧k≠mb) w W2).trans (hkp.mono fun k _ h=>⟨h.2,by omega,by omega⟩);have HMR:Hid (zbm wr p M ka sa kc sc mb):=hid (H.out.m.kept H.out.o hkw fun b h1 h2=>⟨h1,h2⟩);have HA:=hid ha;have HNAr:=hid hna;have HSAr:=hid hsa;have HMMr:=hid hmm;have HMK:=hid hmk;have HKP:=hid hkp;have HSV:=hid hsv;have HSI:=hid hsi;have HTOT:=hid hA;have HAB:=hid hAb;have HLT:=hid hlt;have hzr:=hkp.size;have hzb:=wfu _ _ hbi;have hzm:=wfu _ _ bmr;have hzs:=hsa.lt;have hzn:=hna.lt;have hmbr:=hmm.lt;simp only at hzb hzm;clear ha hna hsa hmm hmk hkp hsv hsi hA hAb hkw hlt bm;gi_wp2_with fail;refine⟨trivial,(callsIn_wide.2 (zv7 p s _)).mono ?_⟩;rintro e W5 ⟨rfl,hE5,c5m,c5s,hz5⟩;simp only[wfx]at c5m c5s hz5;have hEr5:Ext wr W5:=Ext.trans' (by exact xx) hE5;have a10:W5.cell? ⟨wr.heap.size,0,none⟩=some (.int .i64 a):=zh hE5 (by simp[go_sem]);have HMP5:Hid (zan W5 mb M):=hid (HMMr.out.of_heap (hEr5.block _ hmbr));have HNA5:Hid (zb9 W5 W1.heap.size A):=hid ((hEr5.block _ hzn).trans HNAr.out);have HSA5:Hid (zbl W5 (W1.heap.size+1) s):=hid (HSAr.out.ext hEr5);have HM5:Hid (zbm W5 p M ka sa kc sc mb):=hid (HMR.out.ext hEr5);have HE5:=hid hEr5;have C5M:=hid c5m;have C5S:=hid c5s;have hz25:=hEr5.size;have bm5:=zh hEr5 bmr;have hpr:p<W5.heap.size:=HM5.out.lt;have hpm:=H.out.o.p;have hz53:wr.heap.size+3≤W5.heap.size:=by omega
   clear hE5 hEr5 c5m c5s bmr hbi s0 s1 s2 hw1 hw2 hz5;gi_wp2_with fail;have hMS:∀X,Kept (fun k=>k<W5.heap.size∧k≠mb∧k≠W1.heap.size) W5 X→zbm X p M ka sa kc sc mb:=fun X hk=>by
    have hkx:Kept (fun k=>k<w.heap.size∧k≠mb) w X:=(((((Kept.of_below HE2.out).mono fun k _ _=>trivial:Kept (fun k=>k<w.heap.size∧k≠mb) w W2).trans (HKP.out.mono fun k _ h=>⟨h.2,by omega,by omega⟩)).trans ((Kept.of_below HE5.out).mono fun k _ _=>trivial)).trans (hk.mono fun k _ h=>⟨by omega,h.2,by omega⟩))
    exact H.out.m.kept H.out.o hkx fun b h1 h2=>⟨h1,h2⟩
   have HMS:=hid hMS;clear hMS;refine zrz (n:=9) (R:=fun k=>k<W5.heap.size∧k≠mb∧k≠W1.heap.size) rfl (enters_of Tryz.func111 (by kernel_rfl) rfl)
    (zqb M s p (wr.heap.size+1) (wr.heap.size+1+1) ka sa kc sc mb _ W5 (fun X hk=>⟨hk.cell C5M.out ⟨by simp only;omega,by simp only;omega,by simp only;omega⟩,C5S.out.kept hk ⟨by omega,by omega,by omega⟩,HMS.out X hk⟩) V HSV.out (by have:=HSI.out;have:=HLT.out;have:=HL.out;omega)) (Below.refl _ _) (fun k hk=>hk.1) (fun _=>rfl)
    (fun O pre X=>(∀k,O k→W5.heap.size≤k)∧W5.heap.size≤X.heap.size∧Kept (fun k=>k<W5.heap.size∧k≠mb∧k≠W1.heap.size) W5 X∧zb9 X W1.heap.size ((A+zd4 M s a pre:Nat):Int)∧zan X mb M)
    (fun _ _ _ _=>False) ?bears (fun _ _ _ _ _ _ h _ _ _=>h) ⟨fun _ h=>h.elim,weq _,Kept.refl _ _,HNA5.out,HMP5.out⟩ ?round2 ?done (fun _ _ _ _ _ _ _ h _=>h.elim)
   case bears =>
    rintro pre O O' A' B' ⟨g1,g2,g3,g4,g5⟩ hk hO1 hO2;have hlow:Kept (fun k=>k<W5.heap.size) A' B':=hk.mono fun k _ hk=>⟨fun ho=>by have:=g1 k ho;omega,by omega⟩
    refine⟨fun k hk=>?_,by have:=hk.size;omega,g3.trans (hlow.mono fun k _ h=>h.1),g4.kept hlow (by omega),g5.of_heap (hlow.same _ g5.lt (by omega))⟩
    rcases hO2 k hk with h|h
    ·exact g1 k h
    ·omega
   case round2 =>
    rintro l O pre c Wr ⟨g1,g2,g3,g4,g5⟩ ⟨hc,hok,hpre⟩ hO2 hW2;simp only[zai,stC];gi_wp2_with fail;refine⟨xx,fun X hk2=>?_⟩;have hE2:Ext Wr (Wr.alloc (.cells #[.int .i64 (toS M s c).at_,.int .i64 (toS M s c).last,.int .i64 (toS M s c).sum] 97)):=xx;have hst:zbl X Wr.heap.size (toS M s c):=(hk2.same _ (by simp) (by omega)).trans (World.alloc_heap_new Wr _);have hz2:=hk2.size;simp only[wfx]at hz2;have g32:Kept (fun k=>k<W5.heap.size∧k≠mb∧k≠W1.heap.size) W5 X:=(g3.trans (Kept.of_below hE2)).trans (hk2.mono fun k _ h=>by omega);have g42:zb9 X W1.heap.size ((A+zd4 M s a pre:Nat):Int):=(hk2.same _ (by simp;have:=g4.lt;omega) (by omega)).trans ((hE2.block _ g4.lt).trans g4);have g52:zan X mb M:=(g5.of_heap (hE2.block _ g5.lt)).of_heap (hk2.same _ (by simp;have:=g5.lt;omega) (by omega));have a10x:=g32.cell a10 ⟨by simp only;omega,by simp only;omega,by simp only;omega⟩;have hza:=wfu _ _ a10x;simp only at hza;have hlen:pre.length≤6:=by
     rw[hpre];have:=z7z M s c;omega
    have HK5:=hid g32;have HN4:=hid g42;have HM4:=hid g52;have HST:=hid hst;have HPRE:=hid hpre;clear hk2 hE2 g3 g4 g5 hst g32 g42 g52 hpre
    by_cases hca:c<a
    ·have hci:(c:Int)<(a:Int):=by omega
     have HLA:Hid (zd4 M s a (pre++[c])=zd4 M s a pre+cnt M (toS M s c)):=hid (by rw[zqc,if_pos hca]);have HCA:=hid hca;clear hca;obtain⟨N,hN⟩:∃N:Nat,N=cnt M (toS M s c):=⟨_,rfl⟩
     have hNb:N≤1679616:=by rw[hN];exact zfz V _
     obtain⟨B,hB⟩:∃B:Nat,B=A+zd4 M s a pre:=⟨_,rfl⟩
     have hBb:B≤200000000:=by
      have h1:=zzg V s a pre;have h2:=HAB.out;have h3:=HLT.out;have h4:=HL.out;have h5:=V.n.2;have h6:i*10077696≤8*10077696:=we0 _ (by omega);have h7:pre.length*1679616≤6*1679616:=we0 _ hlen;omega
     obtain⟨S9,hS9⟩:∃S9:Int,S9=((B+N:Nat):Int):=⟨_,rfl⟩
     have hwB:IntKind.i64.wrap ((B:Int)+(N:Int))=S9:=by rw[wbh _ (by omega)];omega
     have HS9:=hid hS9;clear hS9;obtain⟨J9,hJ9⟩:∃J:World→Prop,J=McJ X mb M:=⟨_,rfl⟩
     have hJm:∀W W',J9 W→Ext W W'→J9 W':=fun W W' h e=>by rw[hJ9]at h ⊢;exact h.ext e
     have hJw:J9 X:=by rw[hJ9];exact⟨Kept.refl _ _,HM4.out⟩
     have HJ:Hid (∀W,J9 W↔McJ X mb M W):=hid fun W=>by rw[hJ9]
     rw[←hB]at HN4;have HN9:=hid hN;have HB9:=hid hB;have bmx:=HK5.out.cell bm5 ⟨by simp only;omega,by simp only;omega,by simp only;omega⟩;have hzw1:=HN4.out.lt;have hmbX:=HM4.out.lt;have hsx:=HST.out.lt;clear hN hB hJ9;gi_wp2_with fail;refine zm0 (J:=J9) hJm rfl rfl (by kernel_rfl) hJw (0) (wfd _)
      [sqV (.int .i64 B),sqV (.pointer (some ⟨p,0,none⟩)),sqV (.agg #[.int .i64 (toS M s c).at_,.int .i64 (toS M s c).last,.int .i64 (toS M s c).sum]),sqW (fun v W=>v=.int .i64 (N:Int)) (fun _ _ _ h _=>h),sqV (.int .i64 S9)]
      [true,true,true,false,true] [false,false,false,true,false] [true,true,true,true,true] [false,true,true,true,false]
      (by kernel_rfl) (by kernel_rfl) (by decide +kernel) (by decide +kernel) (by decide +kernel) rfl ⟨rfl,rfl⟩ ⟨?s0,?s1,?s2,?s3,?s4,trivial⟩ [some 32,some 33,some 34,some 35,some 36] rfl rfl ?send
     case s0 =>
      intro val ρ W hE hJ hz hd hA hx;have o5:ρ (.tmp 5)=.pointer (some ⟨W1.heap.size,0,none⟩):=hA.old 5 (by decide);have hn:=HN4.out.kept (((HJ.out W).1 hJ).1) (by omega);have n0:=hn.c0;clear hd;exact zp9 (W':=W) (v:=.int .i64 B) (by simp[execOp,o5,n0,go_sem]) (Below.refl _ _) rfl
     case s1 =>
      intro val ρ W hE hJ hz hd hA hx;have o2:ρ (.tmp 2)=.pointer (some ⟨w.heap.size,0,none⟩):=hA.old 2 (by decide);have hb:=(((HJ.out W).1 hJ).1).cell bmx (by simp only;omega);clear hd;exact zp9 (W':=W) (v:=.pointer (some ⟨p,0,none⟩)) (by simp[execOp,o2,hb,go_sem]) (Below.refl _ _) rfl
     case s2 =>
      intro val ρ W hE hJ hz hd hA hx;have o12:ρ (.tmp 12)=.pointer (some ⟨Wr.heap.size,0,none⟩):=hA.old 12 (by decide);have hs:=HST.out.kept (((HJ.out W).1 hJ).1) (by omega);have y0:=hs.c0;have y1:=hs.c1;have y2:=hs.c2;clear hd;exact zp9 (W':=W) (v:=.agg #[.int .i64 (toS M s c).at_,.int .i64 (toS M s c).last,.int .i64 (toS M s c).sum]) (by simp[execOp,o12,y0,y1,y2,go_sem]) (Below.refl _ _) rfl
     case s3 =>
      intro val ρ W hE hJ hz hd hA hx;have d1:ρ (.tmp 33)=.pointer (some ⟨p,0,none⟩):=dpv hA hd 1 33;have d2:ρ (.tmp 34)=.agg #[.int .i64 (toS M s c).at_,.int .i64 (toS M s c).last,.int .i64 (toS M s c).sum]:=dpv hA hd 2 34;clear hd;have hj:=(HJ.out W).1 hJ;have hmW:zbm W p M ka sa kc sc mb:=(HMS.out X HK5.out).kept H.out.o hj.1 fun b _ h2=>h2
      have hfr:=z7y M V p mb ka sa kc sc (toS M s c) W ⟨hmW,H.out.o,hj.2⟩ (zsd V (by have:=HSI.out;have:=HLT.out;have:=HL.out;omega) hc);rw[←HN9.out]at hfr;refine zab8 64 _ _ rfl #[.pointer (some ⟨p,0,none⟩),.agg #[.int .i64 (toS M s c).at_,.int .i64 (toS M s c).last,.int .i64 (toS M s c).sum]] (hA.func _) (by simp[d1,d2]) (fun args W=>Tryz.call64 args W) (hfr.mono ?_);rintro e W' ⟨rfl,hk,hm⟩;exact⟨_,rfl,⟨Kept.below (hk.mono fun k _ h=>by omega) (wfd _),(HJ.out W').2 ⟨hj.1.trans hk,hm⟩⟩,rfl⟩
     case s4 =>
      intro val ρ W hE hJ hz hd hA hx;have d0:ρ (.tmp 32)=.int .i64 B:=dpv hA hd 0 32;have h3:val 3=.int .i64 (N:Int):=hd 3 (by decide);have d3:ρ (.tmp 35)=.int .i64 (N:Int):=(hA.dep 3 (by decide) 35 rfl).trans h3;clear hd;exact zp9 (W':=W) (v:=.int .i64 S9) (by simp[execOp,d0,d3,hwB,go_sem]) (Below.refl _ _) rfl
     case send =>
      intro val Z hE hJ hzz hv;obtain⟨-,-,-,-,r4,-⟩:=hv;have q4:val 4=.int .i64 S9:=r4;have hj:=(HJ.out Z).1 hJ;have hnz:=HN4.out.kept hj.1 (by omega);have n0:=hnz.c0;have nf:=fun o=>hnz.fr o
      have hzn2:=hnz.lt;have HNZ:=hid hnz;have HJZ:=hid hj;simp only[za9,q4];go_frame;clear hE hJ hzz r4 q4 hj hnz hwB;gi_wp2_with fail;have hkx:Kept (fun k=>(k<W5.heap.size∧k≠mb∧k≠W1.heap.size)∨O k∨k=W5.heap.size+1∨k+1=W5.heap.size+1) X (Z.setCell ⟨W1.heap.size,0,none⟩ (.int .i64 S9)):=by
       refine(HJZ.out.1.mono fun k _ h=>?_).setCell (fun _ h=>?_) _
       ·rcases h with h|h|h|h
        ·exact h.2.1
        ·have:=g1 k h;omega
        ·omega
        ·omega
       ·simp only at h
        rcases h with h|h|h|h
        ·exact h.2.2 rfl
        ·have:=g1 _ h;omega
        ·omega
        ·omega
      have hnr:=HNZ.out.set S9;have hsum:A+zd4 M s a (pre++[c])=B+N:=by have h1:=HLA.out;have h2:=HB9.out;have h3:=HN9.out;omega
      refine⟨hkx,g1,by have:=hkx.size;omega,HK5.out.trans (hkx.mono fun k _ h=>.inl h),by rw[hsum,←HS9.out];exact hnr,HJZ.out.2.of_heap (Below.heap_setCell _ _ _ _ (by simp only;omega))⟩
    ·have hci:¬((c:Int)<(a:Int)):=by omega
     have HLA:Hid (zd4 M s a (pre++[c])=zd4 M s a pre):=hid (by rw[zqc,if_neg hca];rfl);gi_wp2_with fail;refine⟨Kept.refl _ _,g1,by omega,HK5.out,by rw[HLA.out];exact HN4.out,HM4.out⟩
   case done =>
    rintro D O xs V0 hD rfl ⟨g1,g2,g3,g4,g5⟩ hDk;have hsn:s.at_<M.n:=by have:=HSI.out;have:=HLT.out;have:=HL.out;omega
    have hnx:=z7r M s a p ka sa kc sc mb V0 (HMS.out V0 g3) V HSV.out hsn hal;have hstv:=zsd V hsn hal;have hbd:=zae3 M ls s HLT.out;rw[←HA.out]at hbd;obtain⟨q,hq⟩:∃q,q=okS M s a:=⟨_,rfl⟩
    obtain⟨T,hT⟩:∃T,T=toS M s a:=⟨_,rfl⟩
    have hTa:T.at_=i+1:=by rw[hT];unfold toS;simp only;have:=HSI.out;omega
    rw[←hq]at hbd;rw[←hT]at hbd hstv;rw[←hq,←hT]at hnx;unfold zai stC at hnx;have hsb:=HSA5.out.kept g3 ⟨by omega,by omega,by omega⟩;have s0:=hsb.c0;have s1:=hsb.c1;have s2:=hsb.c2;have hzs5:=hsb.lt;have a10v:=g3.cell a10 ⟨by simp only;omega,by simp only;omega,by simp only;omega⟩;have hza:=wfu _ _ a10v;have bmv:=g3.cell bm5 ⟨by simp only;omega,by simp only;omega,by simp only;omega⟩;have hzm5:=wfu _ _ bmv;simp only at hza hzm5;have HNX:=hid hnx;have HBD:=hid hbd;have HSTV:=hid hstv;have HTA2:=hid hTa;have HSB:=hid hsb;have HK3:=hid g3;have HN4:=hid g4;have HM4:=hid g5;have HDK:=hid hDk;clear hsn hnx hbd hq hT hstv hTa hsb g1 g3 g4 g5 hDk;gi_wp2_with fail;refine⟨trivial,(callsIn_wide.2 HNX.out).mono ?_⟩;rintro e V1 ⟨rfl,hE1⟩;have hsv1:=HSB.out.ext hE1;have t0:=hsv1.c0;have t1:=hsv1.c1;have t2:=hsv1.c2;have tf:=fun o=>hsv1.fr o
    have htz:=hsv1.lt;have HS1:=hid hsv1;have HE1:=hid hE1;clear hsv1 hE1 s0 s1 s2 a10v bmv;obtain⟨C,hC⟩:∃C:Nat,C=A+zd4 M s a (stL M s M.L):=⟨_,rfl⟩
    have hn1:zb9 V1 W1.heap.size (C:Int):=by rw[hC];exact(HE1.out.block _ HN4.out.lt).trans HN4.out
    have n0:=hn1.c0;have hzn1:=hn1.lt;have HN1:=hid hn1;have HCC:=hid hC;obtain⟨Y,hY⟩:∃Y,Y=((V1.setCell ⟨W1.heap.size+1,0,none⟩ (.int .i64 T.at_)).setCell ⟨W1.heap.size+1,1,none⟩ (.int .i64 T.last)).setCell ⟨W1.heap.size+1,2,none⟩ (.int .i64 T.sum):=⟨_,rfl⟩
    have hsY:zbl Y (W1.heap.size+1) T:=by rw[hY];exact zne HS1.out T
    have hk1Y:Kept (fun k=>k≠W1.heap.size+1) V1 Y:=by
     rw[hY];exact(((Kept.refl _ V1).setCell (fun _ h=>h rfl) _).setCell (fun _ h=>h rfl) _).setCell (fun _ h=>h rfl) _
    have hkY:Kept (fun k=>k<wr.heap.size∧k≠mb∧k≠W1.heap.size∧k≠W1.heap.size+1) wr Y :=
     ((((Kept.of_below HE5.out).mono fun k _ _=>trivial:Kept (fun k=>k<wr.heap.size∧k≠mb∧k≠W1.heap.size∧k≠W1.heap.size+1) wr W5).trans (HK3.out.mono fun k _ h=>⟨by omega,h.2.1,h.2.2.1⟩)).trans ((Kept.of_below HE1.out).mono fun k _ _=>trivial)).trans (hk1Y.mono fun k _ h=>h.2.2.2)
    have hmY:zan Y mb M:=(HM4.out.of_heap (HE1.out.block _ HM4.out.lt)).of_heap (hk1Y.same _ (by have:=HM4.out.lt;have:=HE1.out.size;omega) (by omega));have hDY:Y.heap[D]?=some (.deferred (some [])):=(hk1Y.same _ (by have:=(wad.1 HDK.out).1;have:=HE1.out.size;omega) (by omega)).trans ((HE1.out.block _ (wad.1 HDK.out).1).trans HDK.out);have hmkY:Marks W2.heap.size ({ target:=.collected D,args:=#[] }::ds) Y:=by
     refine(HMK.out.kept hkY fun D' hB hd=>⟨(wad.1 hd).1,by omega,by omega,by omega⟩).add (by omega) hDY fun d hd e=>?_
     have h1:=(wad.1 (HMK.out.lt d hd D e).2).1;omega
    have hkpY:Kept (fun k=>k≠mb∧k≠W1.heap.size∧k≠W1.heap.size+1) W2 Y:=(HKP.out.trans (hkY.mono fun k hk h=>⟨hk,h⟩))
    have hnY:zb9 Y W1.heap.size (C:Int):=(hk1Y.same _ hzn1 (by omega)).trans HN1.out;have HSY:=hid hsY;have HMY:=hid hmY;have HMKY:=hid hmkY;have HKPY:=hid hkpY;have HNY:=hid hnY;have HYY:=hid hY;clear hn1 hC hY hsY hk1Y hkY hmY hDY hmkY hkpY hnY;cases q
    ·have HTA:Hid (zci M ls ts0=C):=hid (by
      have h1:=HTOT.out;rw[HBD.out]at h1;rw[HCC.out];simp at h1;omega)
     gi_wp2_with fail;rw[←HYY.out];refine ze8 (B:=W2.heap.size) _ _ HMKY.out fun w' hk=>?_
     have hlow:∀j,j<W2.heap.size→∀d∈({ target:=.collected D,args:=#[] }::ds),d.target≠.collected j:=fun j hj d hd e=>by have:=(HMKY.out.lt d hd j e).1;omega
     refine⟨.int .i64 (C:Int),by simp[results,Tryz.results32,go_sem],by rw[HTA.out],?_,?_⟩
     ·exact((((Kept.of_below HE2.out).mono fun k _ _=>trivial:Kept (fun k=>k<w.heap.size∧k≠mb) w W2).trans (HKPY.out.mono fun k _ h=>⟨h.2,by omega,by omega⟩)).trans (hk.mono fun k _ h=>hlow k (by omega))).mono fun k h1 h2=>⟨h1,h2⟩
     ·exact HMY.out.of_heap (hk.same _ HMY.out.lt (hlow mb (by omega)))
    ·have HTA:Hid (C+zci M (ls.drop (i+1)) T=zci M ls ts0):=hid (by
      have h1:=HTOT.out;rw[HBD.out]at h1;rw[HCC.out,←h1];simp;omega)
     have HCB:Hid (C≤(i+1) * 10077696):=hid (by
      have h1:=zzg V s a (stL M s M.L);have h2:=z7z M s M.L;have h3:(stL M s M.L).length*1679616≤6*1679616:=we0 _ (by omega);have h4:=HAB.out;have h5:=HCC.out;omega)
     have hi8:i≤7:=by have h1:=HLT.out;have h2:=HL.out;have h3:=V.n.2;omega
     gi_wp2_with fail;rw[←HYY.out];refine⟨?_,?_⟩
     ·(repeat apply Exists.intro)
      refine⟨?_,rfl⟩;exact⟨i+1,T,C,by have:=HLT.out;omega,by go_num,HTA2.out,HSTV.out,HTA.out,HCB.out,HKPY.out,HNY.out,HSY.out,HMY.out,HMKY.out⟩
     ·have:=HLT.out
      simp[intOf];omega
  ·have hii:¬((i:Int)<(ls.length:Int)):=by omega
   have HTOT:Hid (zci M ls ts0=A):=hid (by
    rw[List.drop_eq_nil_of_le (by omega)]at hA;simp only[zci]at hA;omega)
   have n0:=hna.c0;have hzn:=hna.lt;clear hA hAb hsv hsi;gi_wp2_with fail;refine ze8 (B:=W2.heap.size) _ _ hmk fun w' hk=>?_
   have hlow:∀j,j<W2.heap.size→∀d∈ds,d.target≠.collected j:=fun j hj d hd e=>by have:=(hmk.lt d hd j e).1;omega
   refine⟨.int .i64 (A:Int),by simp[results,Tryz.results32,go_sem],by rw[HTOT.out],?_,?_⟩
   ·exact((((Kept.of_below HE2.out).mono fun k _ _=>trivial:Kept (fun k=>k<w.heap.size∧k≠mb) w W2).trans (hkp.mono fun k _ h=>⟨h.2,by omega,by omega⟩)).trans (hk.mono fun k _ h=>hlow k (by omega))).mono fun k h1 h2=>⟨h1,h2⟩
   ·exact hmm.of_heap (hk.same _ hmm.lt (hlow mb (by omega)))
end Go.Proofs.YtdcnbeehckgpcaaGreat
namespace Go.Proofs.YtdcnbeehckgpcaaGreat
open Go.Lib (hid)
def zbu(M:zl):List Nat→TSt→Nat→Prop
 |[],s,i=>s.at_=M.n∧s.sum=M.rest∧i=0
 |c::l,s,i=>s.at_<M.n∧c<M.L∧okS M s c=true∧∃j,i=zaq (za8 M s) c+j∧j<za8 M s c∧zbu M l (toS M s c) j
theorem zsj{f g:Nat→Nat}:∀{k:Nat},(∀c,c<k→f c≤g c)→zaq f k≤zaq g k
 |0,_=>weq _
 |k+1,h=>by
  have h1:=zsj (f:=f) (g:=g) (k:=k) fun c hc=>h c (by omega)
  have h2:=h k (by omega);rw[zaq,zaq];omega
theorem zjh(f:Nat→Nat){a:Nat}:∀{b:Nat},a≤b→zaq f a≤zaq f b
 |0,h=>by rw[show a=0 by omega];exact weq _
 |b+1,h=>by
  by_cases e:a=b+1
  ·rw[e];exact weq _
  ·have:=zjh f (a:=a) (b:=b) (by omega)
   rw[zaq];omega
theorem zv9(f:Nat→Nat)(a:Nat):∀{k:Nat},a≤k→zaq (fun c=>if c<a then f c else 0) k=zaq f a
 |0,h=>by rw[show a=0 by omega];rfl
 |k+1,h=>by
  by_cases e:a=k+1
  ·rw[e]
   exact zg9 fun c hc=>by rw[if_pos hc]
  ·rw[zaq,zv9 f a (k:=k) (by omega),if_neg (by omega)]
   omega
theorem zbu.len{M:zl}:∀{l:List Nat} {s:TSt} {i:Nat},zbu M l s i→s.at_+l.length=M.n
 |[],s,i,h=>by simpa using h.1
 |c::l,s,i,h=>by
  obtain⟨h1,h2,h3,j,h4,h5,h6⟩:=h;have h7:=zbu.len h6;unfold toS at h7;simp only[wc4]at h7 ⊢;omega
theorem zbu.letters{M:zl}:∀{l:List Nat} {s:TSt} {i:Nat},zbu M l s i→∀c∈l,c<M.L
 |[],s,i,h=>by simp
 |c::l,s,i,h=>by
  obtain⟨h1,h2,h3,j,h4,h5,h6⟩:=h;intro d hd
  rcases wdp.1 hd with rfl|hd
  ·exact h2
  ·exact zbu.letters h6 d hd
theorem zbu.uniq{M:zl}:∀{u v:List Nat} {s:TSt} {i:Nat},zbu M u s i→zbu M v s i→u=v
 |[],[],_,_,_,_=>rfl
 |[],c::v,s,i,h,g=>absurd h.1 (Nat.ne_of_lt g.1)
 |c::u,[],s,i,h,g=>absurd g.1 (Nat.ne_of_lt h.1)
 |a::u,b::v,s,i,h,g=>by
  obtain⟨h1,h2,h3,j,h4,h5,h6⟩:=h;obtain⟨g1,g2,g3,k,g4,g5,g6⟩:=g;have hab:a=b:=by
   rcases wev a b with e|e|e
   ·have:=zjh (za8 M s) (a:=a+1) (b:=b) (by omega)
    rw[zaq]at this;omega
   ·exact e
   ·have:=zjh (za8 M s) (a:=b+1) (b:=a) (by omega)
    rw[zaq]at this;omega
  subst hab;rw[show k=j by omega]at g6;rw[zbu.uniq h6 g6]
noncomputable def zfo(M:zl)(i:Nat):List Nat:=open Classical in if h:∃u,zbu M u ts0 i then h.choose else []
theorem zzh{M:zl}{u:List Nat}{i:Nat}(h:zbu M u ts0 i):zfo M i=u:=by
 have hx:∃u,zbu M u ts0 i:=⟨u,h⟩
 unfold zfo;rw[dif_pos hx];exact zbu.uniq hx.choose_spec h
def zkn(T:zl):List Nat→Nat→Bool
 |[],_=>true
 |c::l,p=>(T.ss.getD p 0).testBit c&&zkn T l (p+1)
theorem z3x (T:zl):∀(l:List Nat) (p:Nat),zkn T l p=(List.range l.length).all fun i=>(T.ss.getD (p+i) 0).testBit (l.getD i 0)
 |[],p=>by simp[zkn]
 |c::l,p=>by
  rw[zkn,z3x T l (p+1),wc4,List.range_succ_eq_map,List.all_cons,List.all_map]
  congr 1
  congr 1
  funext i
  simp only[Function.comp];rw[show p+1+i=p+(i+1) by omega];rfl
theorem z0y(T:zl)(l:List Nat):zkm T l l.length=zkn T l 0:=by
 rw[z3x];unfold zkm;simp only[wfc]
structure zda(M T:zl):Prop where
 L:T.L=M.L
 n:T.n=M.n
 ks:T.ks=M.ks
 rest:T.rest=M.rest
theorem zda.to{M T:zl}(h:zda M T)(s:TSt)(c:Nat):toS T s c=toS M s c:=by
 unfold toS;rw[h.ks,h.L]
theorem z29{M:zl}{s:TSt}{c:Nat}(h:okS M s c=true):(c:Int)≠s.last:=by
 unfold okS at h;rw[waw]at h;exact of_decide_eq_true h.1
theorem zxe{T:zl}{s:TSt}{c:Nat}(h:(c:Int)≠s.last):okS T s c=(T.ss.getD s.at_ 0).testBit c:=by
 unfold okS;rw[decide_eq_true h,wa7]
def zh2(b:Bool):Nat:=if b=true then 1 else 0
theorem zqe(T:zl)(c:Nat)(l:List Nat)(s:TSt)(hc:c≤T.L):zci T (c::l) s=zaq (za8 T s) c+if okS T s c=true then zci T l (toS T s c)else 0:=by
 rw[zci,zv9 _ _ hc]
theorem z70{M T:zl}(D:zda M T):∀{u:List Nat} {s:TSt} {i:Nat},zbu M u s i→zci T u s+zh2 (zkn T u s.at_)≤cnt T s
 |[],s,i,h=>by
  rw[zih (by rw[D.n];exact h.1),D.rest,if_pos h.2.1];simp[zci,zkn,zh2]
 |c::l,s,i,h=>by
  obtain⟨h1,h2,h3,j,h4,h5,h6⟩:=h;have ih:=z70 D h6;have hL:c<T.L:=by rw[D.L];exact h2
  rw[zqe T c l s (by omega),zgk (by rw[D.n];exact h1)];have hup:=zjh (za8 T s) (a:=c+1) (b:=T.L) (by omega);rw[zaq]at hup;have hb:=zxe (T:=T) (z29 h3);rw[zkn,←hb]
  by_cases e:okS T s c=true
  ·rw[if_pos e,D.to,e,wa7]
   rw[show(toS M s c).at_=s.at_+1 from rfl]at ih;unfold za8 at hup ⊢;rw[if_pos e,D.to]at hup;omega
  ·rw[if_neg e,show okS T s c=false by simpa using e,Bool.false_and]
   simp only[zh2];simp;omega
end Go.Proofs.YtdcnbeehckgpcaaGreat
namespace Go.Proofs.YtdcnbeehckgpcaaGreat
open Go.Lib (hid)
open Go.RowKit Go.Shelf
attribute [local go_sem] Oper.semAt_some
theorem elU8:El 32 5 1:=El.mk' (bytes:=1) (z:=.int .u8 0) (by kernel_rfl) (by kernel_rfl) rfl (by omega) (by omega)
def zc7(W:World)(b:Nat)(v:Value):Prop:=W.heap[b]?=some (.cells #[v] 32 (0,0))
theorem zc7.c0{W:World}{b:Nat}{v:Value}(h:zc7 W b v):W.cell? ⟨b,0,none⟩=some v:=by rw[cell_of_row _ _ _ _ _ _ h];rfl
theorem zc7.fr{W:World}{b:Nat}{v:Value}(h:zc7 W b v)(o:Nat):W.frozen? ⟨b,o,none⟩=false:=by
 have h':W.heap[b]?=_:=h;simp[World.frozen?,h']
theorem zc7.lt{W:World}{b:Nat}{v:Value}(h:zc7 W b v):b<W.heap.size:=(wad.1 h).1
theorem zc7.kept{S:Nat→Prop}{W W':World}{b:Nat}{v:Value}(h:zc7 W b v)(k:Kept S W W')(hs:S b):zc7 W' b v:=(k.same b h.lt hs).trans h
theorem zc7.ext{W W':World}{b:Nat}{v:Value}(h:zc7 W b v)(e:Ext W W'):zc7 W' b v:=(e.block _ h.lt).trans h
theorem zc7.set{W:World}{b:Nat}{v:Value}(h:zc7 W b v)(u:Value):zc7 (W.setCell ⟨b,0,none⟩ u) b u:=zal h 0 _
def byR(c:Nat):List Value:=[.int .u8 ((97+c:Nat):Int)]
def zcv(l:List Nat):List (List Value):=l.map byR
theorem zha(l:List Nat):(zcv l).length=l.length:=by simp[zcv]
theorem z61(l:List Nat):∀r∈zcv l,r.length=1:=fun r hr=>by
 obtain⟨c,_,rfl⟩:=wdv.1 hr;rfl
def z3a(M:zl)(s:TSt)(j:Nat)(ws:List Nat)(nb bb q:Nat)(O:Nat→Prop)(z:Nat)(X:World):Prop :=
 ∃(d j':Nat) (v:Value),d<M.L∧okS M s d=true∧j=zaq (za8 M s) d+j'∧j'<za8 M s d∧zb9 X nb (j':Int)∧zc7 X bb v∧zab X (q+1) 5 1 v (zcv (ws++[d]))∧(∀g,v.ownBlock=some g→¬O g∧g≠z∧g≠z+1)∧zbl X q (toS M s d)
theorem z3a.bear{M:zl}{s:TSt}{j:Nat}{ws:List Nat}{nb bb q:Nat}{O O':Nat→Prop}{z:Nat}{A B:World}(h:z3a M s j ws nb bb q O z A)(hk:Kept (fun k=>¬O k∧¬(k=z∨k=z+1)) A B)(hO:∀k,O' k→O k∨A.heap.size≤k∧k<B.heap.size)
  (_h0:∀k,k<z→k≠z∧k≠z+1) (hz:nb<z∧bb<z∧q<z) (g1:∀k,O k→z≤k):z3a M s j ws nb bb q O' z B:=by
 obtain⟨d,j',v,h1,h2,h3,h4,h5,h6,h7,h8,h9⟩:=h;have hl:Kept (fun k=>k<z) A B:=hk.mono fun k _ hk=>⟨fun ho=>by have:=g1 k ho;omega,by omega⟩
 refine⟨d,j',v,h1,h2,h3,h4,h5.kept hl hz.1,h6.kept hl hz.2.1,h7.keptAt hk fun g cur _ hg _=>⟨(h8 g hg).1,fun h=>h.elim (h8 g hg).2.1 (h8 g hg).2.2⟩,fun g hg=>⟨fun ho=>?_,(h8 g hg).2⟩,h9.kept hl hz.2.2⟩
 rcases hO g ho with h|h
 ·exact(h8 g hg).1 h
 ·have:=(h7.notOwn g hg).2
  omega
theorem z3y{F:Fence}{n:Nat}{w:World}{ops:Array Oper}{rest:List Oper}{o:Oper}{a:Act}{Q:Exit→Act→World→Prop}(hgd:o.guard=none)(s x:Operand){t e:TypeId}{sz:Nat}(el:El t e sz)
  (ho:o.op=.call { callee:=.builtin .append,args:=#[s,x],argTypes:=#[t,t] }) (ao:Option Addr) (m cap:Nat) {rows:List (List Value)} (hl:m=rows.length) (hrows:∀r∈rows,r.length=sz) (hold:(ao=none∧rows=[]∧cap=0)∨∃b off,ao=some ⟨b,off,none⟩∧zbd w sz b off rows) (hs:a.eval s=.slice ao m cap)
  (b off c:Nat) (news:List (List Value)) (hx:a.eval x=.slice (some ⟨b,off,none⟩) news.length c) (hr:∀r∈news,r.length=sz) (hc:zbd w sz b off news) (h1:∀r∈news,∀u∈r,u.oneCell'=true)
  (hfull:cap<m+news.length) (hn:rows.length+news.length≤1000000)
  (h:∀v' w',zab w' w.heap.size e sz v' (rows++news)→Ext w w'→wpListIn F n Tryz.prog ops Q rest (a.put o.dst v') w'):wpListIn F n Tryz.prog ops Q (o::rest) a w:=by
 obtain⟨v',w',hrun,h2,h3⟩:=zaew el o.type ao m cap hl hrows hold b off c news hr hc h1 hfull hn;exact zu8 hgd s x ho rfl hs hx hrun (h v' w' h2 h3)
theorem zah6(M:zl)(V:zag M)(p mb:Nat)(ka sa:Option Addr)(kc sc:Nat)(x:Nat)(hx:x<cnt M ts0)(w:World)(h:zc6 w p M ka sa kc sc mb) :
  CallsIn Fence.wide 9 Tryz.prog 33 #[.pointer (some ⟨p,0,none⟩),.int .i64 x] w (fun e W'=>∃ls,zbu M ls ts0 x∧McQ mb M (.string (zcn ls)) w e W'):=by
 have H:=hid h;have HX:=hid hx;have hpz:=h.m.lt;have hmz:=h.map.lt;clear h hx;refine callsIn_of_wp_marks Tryz.func33 rfl trivial ?_ rfl;simp only[Tryz.ntmps33,wd7,wc4,wc9,Nat.reduceAdd,Nat.reduceSub,wai,waj,wd4,wbo,wd1,wbp];gi_wp2_with fail;refine⟨trivial,(callsIn_wide.2 (zfl _)).mono ?_⟩;rintro e W1 ⟨rfl,hE1⟩;unfold zai stC;obtain⟨W2,hW2⟩:∃W2,W2=W1.alloc (.cells #[.int .i64 ts0.at_,.int .i64 ts0.last,.int .i64 ts0.sum] 97):=⟨_,rfl⟩
 have hz1:w.heap.size+3≤W1.heap.size:=by have:=hE1.size;simpa using this
 have hE12:Ext W1 W2:=by rw[hW2];exact xx
 have hE01:Ext w W1:=Ext.trans' (by exact xx) hE1;have hz2:W2.heap.size=W1.heap.size+1:=by rw[hW2];simp
 have hsa:zbl W2 W1.heap.size ts0:=by rw[hW2];exact World.alloc_heap_new W1 _
 have bm:W2.cell? ⟨w.heap.size,0,none⟩=some (.pointer (some ⟨p,0,none⟩)):=zh hE12 (zh hE1 (by simp[go_sem]));have hna:zb9 W2 (w.heap.size+1) x:=by
  refine(hE12.block _ (by omega)).trans ((hE1.block _ (by simp)).trans ?_);refine(Below.heap_alloc _ _ _ (by simp)).trans ?_
  have h1:=World.alloc_heap_new (w.alloc (.cells #[.pointer (some ⟨p,0,none⟩)] 57)) (.cells #[.int .i64 (x:Int)] 2);rw[wfx]at h1;exact h1
 have hba:zc7 W2 (w.heap.size+2) (.slice none 0 0):=by
  refine(hE12.block _ (by omega)).trans ((hE1.block _ (by simp)).trans ?_);have h1:=World.alloc_heap_new ((w.alloc (.cells #[.pointer (some ⟨p,0,none⟩)] 57)).alloc (.cells #[.int .i64 (x:Int)] 2)) (.cells #[.slice none 0 0] 32);rw[wfx,wfx]at h1;exact h1
 have c1:=zh hE01 H.out.m.c1;have bm1:W1.cell? ⟨w.heap.size,0,none⟩=some (.pointer (some ⟨p,0,none⟩)):=zh hE1 (by simp[go_sem]);have hp1:p<W1.heap.size:=by omega
 have hw1:w.heap.size<W1.heap.size:=by omega
 gi_wp2_with fail;rw[←hW2];have HE2:=hid (hE01.trans' hE12);have HNA:=hid hna;have HSA:=hid hsa;have HBA:=hid hba;have hzz2:W1.heap.size+1≤W2.heap.size:=by omega
 have hzw2:W2.heap.size≤W1.heap.size+1:=by omega
 clear hW2 hE12 hE1 hE01 hna hsa hba hz2;refine wpIn_loop (fun a' W=>∃(u16 u17 u18 u19 u20 u44:Value) (ds:List Deferred),(∃(i:Nat) (s:TSt) (j:Nat) (ws:List Nat) (v:Value),i≤M.n∧u16=.int .i64 i∧s.at_=i∧StV M s∧ws.length=i∧(∀c∈ws,c<M.L)∧j<cnt M s∧(∀l,zbu M l s j→zbu M (ws++l) ts0 x)∧Kept (fun k=>k≠mb∧k≠w.heap.size+1∧k≠w.heap.size+2∧k≠W1.heap.size) W2 W∧zb9 W (w.heap.size+1) j∧zc7 W (w.heap.size+2) v∧zab W (W1.heap.size+1) 5 1 v (zcv ws)∧zbl W W1.heap.size s∧zan W mb M∧Marks W2.heap.size ds W)∧a'={ tmps:=#[.pointer (some ⟨p,0,none⟩),.int .i64 x,.pointer (some ⟨w.heap.size,0,none⟩),.pointer (some ⟨w.heap.size+1,0,none⟩),.string ⟨#[]⟩,.pointer (some ⟨w.heap.size+1+1,0,none⟩),.pointer (some ⟨W1.heap.size,0,none⟩),undef,undef,undef,.agg #[.int .i64 ts0.at_,.int .i64 ts0.last,.int .i64 ts0.sum],.pointer (some ⟨p,0,none⟩),.pointer (some ⟨p,0,none⟩),.pointer (some ⟨p,0,none⟩),.pointer (some ⟨p,1,none⟩),.int .i64 M.n,u16,u17,u18,u19,u20,undef,undef,undef,undef,undef,undef,undef,undef,undef,undef,undef,undef,undef,undef,undef,undef,undef,undef,undef,undef,undef,undef,undef,u44,undef,undef],defers:=ds }) (fun a' W=>M.n-(intOf (a'.tmps.getD 16 undef)).toNat) ?atStart ?round
 case atStart =>
  (repeat apply Exists.intro)
  refine⟨?_,rfl⟩;exact⟨0,ts0,x,[],_,by omega,rfl,rfl,z9u V,rfl,by simp,HX.out,fun l h=>h,Kept.refl _ _,HNA.out,HBA.out,zab.nil _ _ _ _,HSA.out,H.out.map.of_heap (HE2.out.block _ hmz),trivial⟩
 case round =>
  rintro _ wr hinv;obtain⟨u16,hinv⟩:=hinv;obtain⟨u17,hinv⟩:=hinv;obtain⟨u18,hinv⟩:=hinv;obtain⟨u19,hinv⟩:=hinv;obtain⟨u20,hinv⟩:=hinv;obtain⟨u44,hinv⟩:=hinv;obtain⟨ds,hinv⟩:=hinv;obtain⟨hrel,ha⟩:=hinv;subst ha
  try dsimp only
  obtain⟨i,s,j,ws,v,hi,rfl,hsi,hsv,hwl,hwc,hj,hcod,hkp,hna,hba,hown,hsa,hmm,hmk⟩:=hrel
  by_cases hlt:i<M.n
  ·have hii:(i:Int)<(M.n:Int):=by omega
   have hL6:=V.L.2;have bmr:=hkp.cell bm ⟨by simp only;omega,by simp only;omega,by simp only;omega,by simp only;omega⟩;have s0:=hsa.c0;have s1:=hsa.c1;have s2:=hsa.c2;have hkw:Kept (fun k=>k<w.heap.size∧k≠mb) w wr:=((Kept.of_below HE2.out).mono fun k _ _=>trivial:Kept (fun k=>k<w.heap.size∧k≠mb) w W2).trans (hkp.mono fun k _ h=>⟨h.2,by omega,by omega,by omega⟩);have HMR:Hid (zbm wr p M ka sa kc sc mb):=hid (H.out.m.kept H.out.o hkw fun b h1 h2=>⟨h1,h2⟩);have HNAr:=hid hna;have HSAr:=hid hsa;have HMMr:=hid hmm;have HMK:=hid hmk;have HKP:=hid hkp;have HSV:=hid hsv;have HSI:=hid hsi;have HLT:=hid hlt;have HBAr:=hid hba;have HOWN:=hid hown;have HJ:=hid hj;have HCOD:=hid hcod;have HWL:=hid hwl;have HWC:=hid hwc;have hzr:=hkp.size;have hzm:=wfu _ _ bmr;have hzs:=hsa.lt;have hzn:=hna.lt;have hzb:=hba.lt;have hmbr:=hmm.lt;simp only at hzm;clear hna hsa hmm hmk hkp hsv hsi hkw hlt hba hown hj hcod hwl hwc bm;gi_wp2_with fail;refine⟨trivial,(callsIn_wide.2 (zv7 p s _)).mono ?_⟩;rintro e W5 ⟨rfl,hE5,c5m,c5s,hz5⟩;have HMP5:Hid (zan W5 mb M):=hid (HMMr.out.of_heap (hE5.block _ hmbr));have HNA5:Hid (zb9 W5 (w.heap.size+1) j):=hid ((hE5.block _ hzn).trans HNAr.out);have HSA5:Hid (zbl W5 W1.heap.size s):=hid (HSAr.out.ext hE5);have HBA5:Hid (zc7 W5 (w.heap.size+2) v):=hid (HBAr.out.ext hE5);have HOWN5:Hid (zab W5 (W1.heap.size+1) 5 1 v (zcv ws)):=hid (HOWN.out.ext hE5);have HM5:Hid (zbm W5 p M ka sa kc sc mb):=hid (HMR.out.ext hE5);have HE5:=hid hE5;have C5M:=hid c5m;have C5S:=hid c5s;have hz25:=hE5.size;have bm5:=zh hE5 bmr;have hpr:p<W5.heap.size:=HM5.out.lt;have hpm:=H.out.o.p;have hz53:wr.heap.size+2≤W5.heap.size:=by omega
   clear hE5 c5m c5s bmr s0 s1 s2 hz5;gi_wp2_with fail;have hMS:∀X,Kept (fun k=>k<W5.heap.size∧k≠mb∧k≠w.heap.size+1) W5 X→zbm X p M ka sa kc sc mb:=fun X hk=>by
    have hkx:Kept (fun k=>k<w.heap.size∧k≠mb) w X:=(((((Kept.of_below HE2.out).mono fun k _ _=>trivial:Kept (fun k=>k<w.heap.size∧k≠mb) w W2).trans (HKP.out.mono fun k _ h=>⟨h.2,by omega,by omega,by omega⟩)).trans ((Kept.of_below HE5.out).mono fun k _ _=>trivial)).trans (hk.mono fun k _ h=>⟨by omega,h.2,by omega⟩))
    exact H.out.m.kept H.out.o hkx fun b h1 h2=>⟨h1,h2⟩
   have HMS:=hid hMS;clear hMS;refine zrz (n:=9) (R:=fun k=>k<W5.heap.size∧k≠mb∧k≠w.heap.size+1) rfl (enters_of Tryz.func111 (by kernel_rfl) rfl)
    (zqb M s p wr.heap.size (wr.heap.size+1) ka sa kc sc mb _ W5 (fun X hk=>⟨hk.cell C5M.out ⟨by simp only;omega,by simp only;omega,by simp only;omega⟩,C5S.out.kept hk ⟨by omega,by omega,by omega⟩,HMS.out X hk⟩) V HSV.out (by have:=HSI.out;have:=HLT.out;omega)) (Below.refl _ _) (fun k hk=>hk.1) (fun _=>rfl)
    (fun O pre X=>(∀k,O k→W5.heap.size≤k)∧W5.heap.size≤X.heap.size∧Kept (fun k=>k<W5.heap.size∧k≠mb∧k≠w.heap.size+1) W5 X∧(∃j':Nat,j=zd4 M s M.L pre+j'∧zb9 X (w.heap.size+1) (j':Int))∧zan X mb M)
    (fun c O pre X=>c=.exit 2∧(∀k,O k→W5.heap.size≤k)∧W5.heap.size≤X.heap.size∧Kept (fun k=>k<W5.heap.size∧k≠mb∧k≠w.heap.size+1∧k≠w.heap.size+2∧k≠W1.heap.size) W5 X∧zan X mb M∧z3a M s j ws (w.heap.size+1) (w.heap.size+2) W1.heap.size O (W5.heap.size) X) ?bears ?bearsx ⟨fun _ h=>h.elim,weq _,Kept.refl _ _,⟨j,by simp[zd4],HNA5.out⟩,HMP5.out⟩ ?round2 ?done ?stop
   case bears =>
    rintro pre O O' A' B' ⟨g1,g2,g3,⟨j',g4,g4'⟩,g5⟩ hk hO1 hO2;have hlow:Kept (fun k=>k<W5.heap.size) A' B':=hk.mono fun k _ hk=>⟨fun ho=>by have:=g1 k ho;omega,by omega⟩
    refine⟨fun k hk=>?_,by have:=hk.size;omega,g3.trans (hlow.mono fun k _ h=>h.1),⟨j',g4,g4'.kept hlow (by omega)⟩,g5.of_heap (hlow.same _ g5.lt (by omega))⟩
    rcases hO2 k hk with h|h
    ·exact g1 k h
    ·omega
   case bearsx =>
    rintro c pre O O' A' B' ⟨g0,g1,g2,g3,g5,g6⟩ hk hO1 hO2;have hlow:Kept (fun k=>k<W5.heap.size) A' B':=hk.mono fun k _ hk=>⟨fun ho=>by have:=g1 k ho;omega,by omega⟩
    refine⟨g0,fun k hk=>?_,by have:=hk.size;omega,g3.trans (hlow.mono fun k _ h=>h.1),g5.of_heap (hlow.same _ g5.lt (by omega)),g6.bear hk hO2 (fun k h=>by omega) ⟨by omega,by omega,by omega⟩ g1⟩
    rcases hO2 k hk with h|h
    ·exact g1 k h
    ·omega
   case round2 =>
    rintro l O pre c Wr ⟨g1,g2,g3,⟨j',g4,g4'⟩,g5⟩ ⟨hc,hok,hpre⟩ hO2 hW2;simp only[zai,stC];gi_wp2_with fail;refine⟨xx,fun X hk2=>?_⟩;have hE2:Ext Wr (Wr.alloc (.cells #[.int .i64 (toS M s c).at_,.int .i64 (toS M s c).last,.int .i64 (toS M s c).sum] 97)):=xx;have hst:zbl X Wr.heap.size (toS M s c):=(hk2.same _ (by simp) (by omega)).trans (World.alloc_heap_new Wr _);have hz2:=hk2.size;simp only[wfx]at hz2;have g32:Kept (fun k=>k<W5.heap.size∧k≠mb∧k≠w.heap.size+1) W5 X:=(g3.trans (Kept.of_below hE2)).trans (hk2.mono fun k _ h=>by omega);have g42:zb9 X (w.heap.size+1) (j':Int):=(hk2.same _ (by simp;have:=g4'.lt;omega) (by omega)).trans ((hE2.block _ g4'.lt).trans g4');have g52:zan X mb M:=(g5.of_heap (hE2.block _ g5.lt)).of_heap (hk2.same _ (by simp;have:=g5.lt;omega) (by omega));have bmx:=g32.cell bm5 ⟨by simp only;omega,by simp only;omega,by simp only;omega⟩;have hlow:zd4 M s M.L pre=zaq (za8 M s) c:=by rw[hpre,zqd,zg9 fun d hd=>if_pos (by omega)]
    have hway:za8 M s c=cnt M (toS M s c):=by unfold za8;rw[if_pos hok]
    obtain⟨N,hN⟩:∃N:Nat,N=cnt M (toS M s c):=⟨_,rfl⟩
    have hNb:N≤1679616:=by rw[hN];exact zfz V _
    have hjb:j'≤1679616:=by
     have h1:=HJ.out;have h2:=zfz V s;omega
    have hlo2:zd4 M s M.L (pre++[c])=zd4 M s M.L pre+N:=by rw[zqc,if_pos hc,←hN]
    have hmW:zbm X p M ka sa kc sc mb:=HMS.out X g32;have hfr:=z7y M V p mb ka sa kc sc (toS M s c) X ⟨hmW,H.out.o,g52⟩ (zsd V (by have:=HSI.out;have:=HLT.out;omega) hc);rw[←hN]at hfr hway;unfold zai stC at hfr;have y0:=hst.c0;have y1:=hst.c1;have y2:=hst.c2;have HFR:=hid hfr;have HK5:=hid g32;have HNUM:=hid g42;have HST:=hid hst;have HLOW:=hid hlow;have HLO2:=hid hlo2;have HWAY:=hid hway;have HJJ:=hid g4;have HOK:=hid hok;have HCL:=hid hc;have hbX:=HBA5.out.lt;have hqX:=HSA5.out.lt;have hnX:=HNA5.out.lt;have hzx:=hst.lt;clear hk2 hE2 g3 g4 g4' g5 hst g32 g42 g52 hlow hlo2 hway hN hmW hfr hok hpre;gi_wp2_with fail;refine⟨trivial,CallsIn.inRound l (callsIn_wide.2 (HFR.out.mono ?_))⟩;rintro e X3 ⟨rfl,hk3,hm3⟩;have hn3:=HNUM.out.kept hk3 (by omega);have hs3:=HST.out.kept hk3 (by omega);have n0:=hn3.c0;have nf:=fun o=>hn3.fr o
    have z0:=hs3.c0;have z1:=hs3.c1;have z2:=hs3.c2;have hb3:zc7 X3 (w.heap.size+2) v:=(HBA5.out.kept HK5.out ⟨by omega,by omega,by omega⟩).kept hk3 (by omega);have hz3:=hk3.size;have hznn:=hn3.lt;have hzbb:=hb3.lt;have hzzq:=hs3.lt;have hs5:zbl X3 W1.heap.size s:=(HSA5.out.kept HK5.out ⟨by omega,by omega,by omega⟩).kept hk3 (by omega);have qf:=fun o=>hs5.fr o
    have b0:=hb3.c0;have bf:=fun o=>hb3.fr o
    have HN3:=hid hn3;have HB3:=hid hb3;have HK3:=hid hk3;have HM3:=hid hm3;have HS5:=hid hs5;clear hn3 hb3 hk3 hm3 hs5
    by_cases hjn:j'<N
    ·have hjn1:(j':Int)<(N:Int):=by omega
     have hoX:zab X3 (W1.heap.size+1) 5 1 v (zcv ws):=(HOWN5.out.keptAt HK5.out fun g cur hB hg _=>⟨(HOWN5.out.notOwn g hg).2,by omega,by omega⟩).keptAt HK3.out fun g cur hB hg _=>by omega
     obtain⟨sa',cap,hv,h1,h2,h3⟩:=hoX.form;rw[zha]at hv h1;subst hv;obtain⟨b8,hb8⟩:∃b8:Int,b8=((97+c:Nat):Int):=⟨_,rfl⟩
     have hw1:IntKind.i64.wrap (97+(c:Int))=b8:=by rw[show 97+(c:Int)=b8 by omega];exact wbh _ (by omega)
     have hw2:IntKind.u8.wrap b8=b8:=IntWalk.u8_in _ (by omega);have hwl8:ws.length≤8:=by have:=HWL.out;have:=V.n;omega
     have HB8:Hid ([Value.int .u8 b8]=byR c):=hid (by rw[hb8];rfl);have HOX:=hid hoX;clear hb8 hoX
     rcases h3 with⟨h3,rfl,rfl⟩|⟨g,rfl,hg1,hg2,h3,-⟩
     ·have hws:ws=[]:=wdh.1 h3
      subst hws;clear h1 h2 h3;simp only[wc9]at b0;gi_wp2_with (refine z3y rfl (.tmp 34) (.tmp 38) elU8 rfl none 0 0 (rows:=[]) rfl (by simp) (.inl ⟨rfl,rfl,rfl⟩) rfl X3.heap.size 0 1 [[.int .u8 b8]] rfl (by simp) (newRow _ [.int .u8 b8] _) (by simp[Value.oneCell']) (by simp) (by simp) ?_);intro v' X4 ho4 hE4;obtain⟨va,vn,vc,rfl⟩:=ho4.isSlice;have hE34:Ext X3 X4:=Ext.trans' (by exact xx) hE4;have hzz4:=hE4.size;simp only[wfx]at hzz4;have hs4:zbl X4 Wr.heap.size (toS M s c):=(HST.out.kept HK3.out (by omega)).ext hE34;have hn4:zb9 X4 (w.heap.size+1) (j':Int):=(hE34.block _ hznn).trans HN3.out;have hb4:=HB3.out.ext hE34;have hq4:=HS5.out.ext hE34;have hm4:zan X4 mb M:=HM3.out.of_heap (hE34.block _ HM3.out.lt);replace z0:=hs4.c0;replace z1:=hs4.c1;replace z2:=hs4.c2;replace bf:=fun o=>hb4.fr o
      replace qf:=fun o=>hq4.fr o
      replace b0:=hb4.c0;have zq0:=hq4.c0;have zq1:=hq4.c1;have zq2:=hq4.c2;have hbl4:=hb4.lt;have hql4:=hq4.lt;have hsl4:=hs4.lt;have HO4:Hid (zab X4 (X3.heap.size+1) 5 1 (.slice va vn vc) (zcv ([] ++ [c]))):=hid (by
       try simp only[wfx]at ho4
       rw[HB8.out]at ho4;have e9:zcv ([]++[c])=zcv []++[byR c]:=by simp[zcv]
       rw[e9];exact ho4)
      have HE34:=hid hE34;have HN4:=hid hn4;have HB4:=hid hb4;have HQ4:=hid hq4;have HM4:=hid hm4;clear hE34 hn4 hb4 hq4 hm4 hE4 ho4 hs4 n0 nf;gi_wp2_with fail;obtain⟨X5,hX5⟩:∃X5,X5=X4.setCell ⟨w.heap.size+2,0,none⟩ (.slice va vn vc):=⟨_,rfl⟩
      have hb5:zc7 X5 (w.heap.size+2) (.slice va vn vc):=by rw[hX5];exact HB4.out.set _
      have hk45:Kept (fun k=>k≠w.heap.size+2) X4 X5:=by rw[hX5];exact(Kept.refl _ X4).setCell (fun _ h=>h rfl) _
      have hq5:=HQ4.out.kept hk45 (by omega);rw[show w.heap.size+1+1=w.heap.size+2 from rfl,←hX5];clear hX5;have hq6:=zne hq5 (toS M s c);obtain⟨X6,hX6⟩:∃X6,X6=((X5.setCell ⟨W1.heap.size,0,none⟩ (.int .i64 (toS M s c).at_)).setCell ⟨W1.heap.size,1,none⟩ (.int .i64 (toS M s c).last)).setCell ⟨W1.heap.size,2,none⟩ (.int .i64 (toS M s c).sum):=⟨_,rfl⟩
      have hk56:Kept (fun k=>k≠W1.heap.size) X5 X6:=by
       rw[hX6];exact(((Kept.refl _ X5).setCell (fun _ h=>h rfl) _).setCell (fun _ h=>h rfl) _).setCell (fun _ h=>h rfl) _
      rw[←hX6]at hq6 ⊢;clear hX6;have hk46:Kept (fun k=>k≠w.heap.size+2∧k≠W1.heap.size) X4 X6:=(hk45.mono fun k _ h=>h.1).trans (hk56.mono fun k _ h=>h.2);have hkX6:Kept (fun k=>k≠mb∧k≠w.heap.size+2∧k≠W1.heap.size) X X6:=((HK3.out.mono fun k _ h=>h.1).trans ((Kept.of_below HE34.out).mono fun k _ _=>trivial)).trans (hk46.mono fun k _ h=>h.2);refine⟨hkX6.mono fun k _ h=>by omega,rfl,g1,by have:=hkX6.size;omega,(HK5.out.mono fun k _ h=>⟨h.1,h.2.1,h.2.2.1⟩).trans (hkX6.mono fun k _ h=>⟨h.2.1,h.2.2.2⟩),HM4.out.of_heap (hk46.same _ HM4.out.lt (by omega)),c,j',_,HCL.out,HOK.out,?_,?_,?_,hb5.kept hk56 (by omega),(HO4.out.base (by omega)).keptAt hk46 fun g cur hB hg _=>?_,?_,hq6⟩
      ·have:=HJJ.out
       rw[HLOW.out]at this;exact this
      ·rw[HWAY.out]
       exact hjn
      ·exact(hk46.same _ HN4.out.lt (by omega)).trans HN4.out
      ·have:=(HO4.out.notOwn g hg).1
       omega
      ·intro g hg
       have h9:=(HO4.out.notOwn g hg).1;refine⟨fun ho=>?_,by omega,by omega⟩;have:=(hO2 g ho).2;omega
     ·have h3h:Hid (zbd X3 1 g 0 (zcv ws)):=hid h3
      clear h3;gi_wp2_with (refine z3y rfl (.tmp 34) (.tmp 38) elU8 rfl (some ⟨g,0,none⟩) ws.length ws.length (rows:=zcv ws) (zha ws).symm (z61 ws) (.inr ⟨g,0,rfl,h3h.out.ext (by exact xx)⟩) rfl X3.heap.size 0 1 [[.int .u8 b8]] rfl (by simp) (newRow _ [.int .u8 b8] _) (by simp[Value.oneCell']) (by simp) (by rw[zha];simp;omega) ?_);intro v' X4 ho4 hE4;obtain⟨va,vn,vc,rfl⟩:=ho4.isSlice;have hE34:Ext X3 X4:=Ext.trans' (by exact xx) hE4;have hzz4:=hE4.size;simp only[wfx]at hzz4;have hs4:zbl X4 Wr.heap.size (toS M s c):=(HST.out.kept HK3.out (by omega)).ext hE34;have hn4:zb9 X4 (w.heap.size+1) (j':Int):=(hE34.block _ hznn).trans HN3.out;have hb4:=HB3.out.ext hE34;have hq4:=HS5.out.ext hE34;have hm4:zan X4 mb M:=HM3.out.of_heap (hE34.block _ HM3.out.lt);replace z0:=hs4.c0;replace z1:=hs4.c1;replace z2:=hs4.c2;replace bf:=fun o=>hb4.fr o
      replace qf:=fun o=>hq4.fr o
      replace b0:=hb4.c0;have zq0:=hq4.c0;have zq1:=hq4.c1;have zq2:=hq4.c2;have hbl4:=hb4.lt;have hql4:=hq4.lt;have hsl4:=hs4.lt;have HO4:Hid (zab X4 (X3.heap.size+1) 5 1 (.slice va vn vc) (zcv (ws ++ [c]))):=hid (by
       try simp only[wfx]at ho4
       rw[HB8.out]at ho4;have e9:zcv (ws++[c])=zcv ws++[byR c]:=by simp[zcv]
       rw[e9];exact ho4)
      have HE34:=hid hE34;have HN4:=hid hn4;have HB4:=hid hb4;have HQ4:=hid hq4;have HM4:=hid hm4;clear hE34 hn4 hb4 hq4 hm4 hE4 ho4 hs4 n0 nf;gi_wp2_with fail;obtain⟨X5,hX5⟩:∃X5,X5=X4.setCell ⟨w.heap.size+2,0,none⟩ (.slice va vn vc):=⟨_,rfl⟩
      have hb5:zc7 X5 (w.heap.size+2) (.slice va vn vc):=by rw[hX5];exact HB4.out.set _
      have hk45:Kept (fun k=>k≠w.heap.size+2) X4 X5:=by rw[hX5];exact(Kept.refl _ X4).setCell (fun _ h=>h rfl) _
      have hq5:=HQ4.out.kept hk45 (by omega);rw[show w.heap.size+1+1=w.heap.size+2 from rfl,←hX5];clear hX5;have hq6:=zne hq5 (toS M s c);obtain⟨X6,hX6⟩:∃X6,X6=((X5.setCell ⟨W1.heap.size,0,none⟩ (.int .i64 (toS M s c).at_)).setCell ⟨W1.heap.size,1,none⟩ (.int .i64 (toS M s c).last)).setCell ⟨W1.heap.size,2,none⟩ (.int .i64 (toS M s c).sum):=⟨_,rfl⟩
      have hk56:Kept (fun k=>k≠W1.heap.size) X5 X6:=by
       rw[hX6];exact(((Kept.refl _ X5).setCell (fun _ h=>h rfl) _).setCell (fun _ h=>h rfl) _).setCell (fun _ h=>h rfl) _
      rw[←hX6]at hq6 ⊢;clear hX6;have hk46:Kept (fun k=>k≠w.heap.size+2∧k≠W1.heap.size) X4 X6:=(hk45.mono fun k _ h=>h.1).trans (hk56.mono fun k _ h=>h.2);have hkX6:Kept (fun k=>k≠mb∧k≠w.heap.size+2∧k≠W1.heap.size) X X6:=((HK3.out.mono fun k _ h=>h.1).trans ((Kept.of_below HE34.out).mono fun k _ _=>trivial)).trans (hk46.mono fun k _ h=>h.2);refine⟨hkX6.mono fun k _ h=>by omega,rfl,g1,by have:=hkX6.size;omega,(HK5.out.mono fun k _ h=>⟨h.1,h.2.1,h.2.2.1⟩).trans (hkX6.mono fun k _ h=>⟨h.2.1,h.2.2.2⟩),HM4.out.of_heap (hk46.same _ HM4.out.lt (by omega)),c,j',_,HCL.out,HOK.out,?_,?_,?_,hb5.kept hk56 (by omega),(HO4.out.base (by omega)).keptAt hk46 fun g cur hB hg _=>?_,?_,hq6⟩
      ·have:=HJJ.out
       rw[HLOW.out]at this;exact this
      ·rw[HWAY.out]
       exact hjn
      ·exact(hk46.same _ HN4.out.lt (by omega)).trans HN4.out
      ·have:=(HO4.out.notOwn g hg).1
       omega
      ·intro g hg
       have h9:=(HO4.out.notOwn g hg).1;refine⟨fun ho=>?_,by omega,by omega⟩;have:=(hO2 g ho).2;omega
    ·have hjn1:¬((j':Int)<(N:Int)):=by omega
     have hsub:IntKind.i64.wrap ((j':Int)-(N:Int))=((j'-N:Nat):Int):=by rw[wbh _ (by omega)];omega
     gi_wp2_with fail;have hnr:=HN3.out.set ((j'-N:Nat):Int);refine⟨((HK3.out.mono fun k _ h=>?_)).setCell (fun _ h=>?_) _,g1,by have:=HK3.out.size;simp;omega,(HK5.out.trans (HK3.out.mono fun k _ h=>h.2.1)).setCell (fun _ h=>h.2.2 rfl) _,⟨j'-N,by have:=HLO2.out;have:=HJJ.out;omega,hnr⟩,HM3.out.of_heap (Below.heap_setCell _ _ _ _ (by simp only;omega))⟩
     ·rcases h with h|h|h|h
      ·exact h.2.1
      ·have:=g1 k h;omega
      ·omega
      ·omega
     ·simp only at h
      rcases h with h|h|h|h
      ·exact h.2.2 rfl
      ·have:=g1 _ h;omega
      ·omega
      ·omega
   case done =>
    rintro D O xs V0 hD rfl ⟨g1,g2,g3,⟨j',g4,g4'⟩,g5⟩ hDk;have h1:=zqd M s M.L M.L;rw[zv9 _ _ (weq _),←zgk (by have:=HSI.out;have:=HLT.out;omega)]at h1;have:=HJ.out;omega
   case stop =>
    rintro D O c pre V0 hD - ⟨rfl,g1,g2,g3,g5,d,j',v',hd,hok,hjd,hjw,hn0,hb0,ho0,-,hq0⟩ hDk;have hsn:s.at_<M.n:=by have:=HSI.out;have:=HLT.out;omega
    have hstv:=zsd V hsn hd;have hway:za8 M s d=cnt M (toS M s d):=by unfold za8;rw[if_pos hok]
    have hcod2:∀l,zbu M l (toS M s d) j'→zbu M ((ws++[d])++l) ts0 x:=fun l hl=>by
     rw[wbm];exact HCOD.out _ ⟨hsn,hd,hok,j',hjd,hjw,hl⟩
    obtain⟨T,hT⟩:∃T,T=toS M s d:=⟨_,rfl⟩
    have hTa:T.at_=i+1:=by rw[hT];unfold toS;simp only;have:=HSI.out;omega
    rw[←hT]at hstv hway hq0 hcod2;have hkY:Kept (fun k=>k<wr.heap.size∧k≠mb∧k≠w.heap.size+1∧k≠w.heap.size+2∧k≠W1.heap.size) wr V0 :=
     ((Kept.of_below HE5.out).mono fun k _ _=>trivial:Kept (fun k=>k<wr.heap.size∧k≠mb∧k≠w.heap.size+1∧k≠w.heap.size+2∧k≠W1.heap.size) wr W5).trans (g3.mono fun k _ h=>⟨by omega,h.2⟩)
    have hmkY:Marks W2.heap.size ({ target:=.collected D,args:=#[] }::ds) V0:=by
     refine(HMK.out.kept hkY fun D' hB hd=>⟨(wad.1 hd).1,by omega,by omega,by omega,by omega⟩).add (by omega) hDk fun d hd e=>?_
     have h1:=(wad.1 (HMK.out.lt d hd D e).2).1;omega
    have hkpY:Kept (fun k=>k≠mb∧k≠w.heap.size+1∧k≠w.heap.size+2∧k≠W1.heap.size) W2 V0:=(HKP.out.trans (hkY.mono fun k hk h=>⟨hk,h⟩))
    have HSTV:=hid hstv;have HTA:=hid hTa;have HCD2:=hid hcod2;have HKPY:=hid hkpY;have HMKY:=hid hmkY;have HJW:Hid (j'<cnt M T):=hid (by rw[←hway];exact hjw);have HN0:=hid hn0;have HB0:=hid hb0;have HO0:=hid ho0;have HQ0:=hid hq0;have HM0:=hid g5;have HD:=hid hd;clear hsn hstv hway hcod2 hT hTa hkY hmkY hkpY hn0 hb0 ho0 hq0 g5 g3 g1 hjd hjw hok hd;have hi8:i≤7:=by have h1:=HLT.out;have h3:=V.n.2;omega
    gi_wp2_with fail;refine⟨?_,?_⟩
    ·(repeat apply Exists.intro)
     refine⟨?_,rfl⟩;exact⟨i+1,T,j',ws++[d],v',by have:=HLT.out;omega,by go_num,HTA.out,HSTV.out,by simp[HWL.out],fun c hc=>(wdm.1 hc).elim (HWC.out c) fun h=>by rw[wd0.1 h];exact HD.out,HJW.out,HCD2.out,HKPY.out,HN0.out,HB0.out,HO0.out,HQ0.out,HM0.out,HMKY.out⟩
    ·have:=HLT.out
     simp[intOf];omega
  ·have hii:¬((i:Int)<(M.n:Int)):=by omega
   have hin:i=M.n:=by omega
   have hc0:=zih (M:=M) (s:=s) (by omega);have hjz:s.sum=M.rest∧j=0:=by
    rw[hc0]at hj
    split at hj
    ·exact⟨by assumption,by omega⟩
    ·omega
   have HCF:Hid (zbu M ws ts0 x):=hid (by
    have h1:=hcod [] ⟨by omega,hjz.1,hjz.2⟩
    rwa [wbn]at h1)
   obtain⟨sa',cap,hv,h1,h2,h3⟩:=hown.form;rw[zha]at hv h1;subst hv
   rcases h3 with⟨h3,-⟩|⟨g,rfl,hg1,hg2,h3,-⟩
   ·have h4:=congrArg List.length h3
    rw[zha,hwl]at h4;have:=V.n;simp at h4;omega
   have hcv:=Go.run_convert_bytes_back (P:=Tryz.prog) wr 32 9 5 ⟨g,0,none⟩ cap (ws.map fun c=>UInt8.ofNat (97+c)) Tryz.underlying32 (by kernel_rfl) Tryz.underlying9 (fun q hq=>by
    have hq':q<ws.length:=by simpa using hq
    have h5:=h3 q (by rw[zha];exact hq') 0 (by simp[zcv,byR]);simp only[zcv,byR,wcx,wcw,Nat.mul_one,wfc,wei]at h5;rw[addr_add,wfc,h5,wcx];have h6:=hwc _ (wcy hq');have h7:=V.L;rw[UInt8.toNat_ofNat',wew (by omega)])
   rw[wc8]at hcv;have hwd:(⟨(ws.map fun c=>UInt8.ofNat (97+c)).toArray⟩:ByteArray)=zcn ws:=rfl;rw[hwd,show ws.length=M.n by omega]at hcv;have b0:=hba.c0;have hzb:=hba.lt;clear hj hcod hc0 hjz h1 h2 h3 hsv hwc;gi_wp2_with fail;refine ze8 (B:=W2.heap.size) _ _ hmk fun w' hk=>?_
   have hlow:∀j,j<W2.heap.size→∀d∈ds,d.target≠.collected j:=fun j hj d hd e=>by have:=(hmk.lt d hd j e).1;omega
   refine⟨.string (zcn ws),by simp[results,Tryz.results33,go_sem],ws,HCF.out,rfl,?_,?_⟩
   ·exact((((Kept.of_below HE2.out).mono fun k _ _=>trivial:Kept (fun k=>k<w.heap.size∧k≠mb) w W2).trans (hkp.mono fun k _ h=>⟨h.2,by omega,by omega,by omega⟩)).trans (hk.mono fun k _ h=>hlow k (by omega))).mono fun k h1 h2=>⟨h1,h2⟩
   ·exact hmm.of_heap (hk.same _ hmm.lt (hlow mb (by omega)))
end Go.Proofs.YtdcnbeehckgpcaaGreat
namespace Go.Proofs.YtdcnbeehckgpcaaGreat
open Go.Lib (hid)
theorem zah7{l:List Nat}{c p:Nat}(h:p<l.length):(l++[c]).getD p 0=l.getD p 0:=by
 rw[wch,wch,wcj h]
theorem z71(l:List Nat)(c:Nat):(l++[c]).getD l.length 0=c:=by simp[wch]
def zqf(w:List Nat)(i k:Nat):List Nat:=(List.range k).filter fun c=>i == 0||w.getD (i-1) 0 != c
theorem z9x (w:List Nat)(i k:Nat):zqf w i (k+1)=zqf w i k++if (i == 0||w.getD (i-1) 0 != k)=true then [k]else []:=by
 unfold zqf;rw[wd6,wb1]
 congr 1
 rw[wb3,wb6]
def upW(i:Nat)(w:List Nat)(k:Nat):List (List Nat):=(zqf w i k).map fun c=>w++[c]
theorem zae4(i:Nat)(w:List Nat)(k:Nat):upW i w (k+1)=upW i w k++if (i == 0||w.getD (i-1) 0 != k)=true then [w++[k]]else []:=by
 unfold upW;rw[z9x,wde]
 congr 1
 split<;>rfl
def zca(L:Nat):Nat→List (List Nat)
 |0=>[[]]
 |i+1=>(zca L i).flatMap fun w=>upW i w L
def zmh(L i:Nat)(ws:List (List Nat)):List (List Nat):=ws.flatMap fun w=>upW i w L
theorem zah8(i:Nat)(w:List Nat)(k:Nat):(upW i w k).length≤k:=by
 unfold upW zqf;rw[wc8];exact wer (wc7 _ _) (by simp)
theorem z0z(L i:Nat):∀ws:List (List Nat),(zmh L i ws).length≤ws.length*L
 |[]=>by simp[zmh]
 |w::ws=>by
  have h1:=z0z L i ws;have h2:=zah8 i w L;unfold zmh at h1 ⊢;rw[wce,wc3,wc4,we7];omega
theorem z00(L:Nat):∀i,(zca L i).length≤L^i
 |0=>by simp[zca]
 |i+1=>by
  have h1:=z00 L i;have h2:=z0z L i (zca L i);rw[show zca L (i+1)=zmh L i (zca L i)from rfl,we4];exact wer h2 (we0 _ h1)
theorem z72(a:Nat):∀k,((List.range k).filter fun c=>a != c).length+(if a<k then 1 else 0)=k
 |0=>rfl
 |k+1=>by
  have h:=z72 a k;rw[wd6,wb1,wc3,wb3,wb6]
  by_cases e:a=k
  ·subst e
   rw[if_neg (by omega)]at h;rw[if_neg (by simp),if_pos (by omega)];simp only[wc9];omega
  ·rw[if_pos (by simpa using e)]
   simp only[wdc]
   by_cases h2:a<k
   ·rw[if_pos h2]at h
    rw[if_pos (by omega)];omega
   ·rw[if_neg h2]at h
    rw[if_neg (by omega)];omega
structure z9y(L i:Nat)(w:List Nat):Prop where
 len:w.length=i
 low:∀c∈w,c<L
theorem zt0(L:Nat):∀i,∀w∈zca L i,z9y L i w
 |0,w,h=>by
  rw[zca,wd0]at h;subst h;exact⟨rfl,by simp⟩
 |i+1,w,h=>by
  rw[zca,wdt]at h;obtain⟨u,hu,hw⟩:=h;obtain⟨h1,h2⟩:=zt0 L i u hu;unfold upW zqf at hw;rw[wdv]at hw;obtain⟨c,hc,rfl⟩:=hw;have hc:=wdz.1 (wds.1 hc).1;refine⟨by simp[h1],fun d hd=>?_⟩
  rcases wdm.1 hd with hd|hd
  ·exact h2 d hd
  ·rw[wd0.1 hd];exact hc
theorem zah9{L i:Nat}(hi:0<i){w:List Nat}(hw:z9y L i w):(upW i w L).length+1=L:=by
 have h:=z72 (w.getD (i-1) 0) L;have hl:w.getD (i-1) 0<L:=by
  have:=hw.len;rw[wch,wcn (by omega)];exact hw.low _ (wcy _)
 rw[if_pos hl]at h;unfold upW zqf;rw[wc8];have e:(i == 0)=false:=by
  have:i≠0:=by omega
  simpa using this
 simp only[e,wa1];exact h
theorem z01{L i:Nat}(hi:0<i):∀{ws:List (List Nat)},(∀w∈ws,z9y L i w)→(zmh L i ws).length=ws.length*(L-1)
 |[],_=>by simp[zmh]
 |w::ws,h=>by
  have h1:=z01 hi (ws:=ws) fun u hu=>h u (wdq _ hu)
  have h2:=zah9 hi (h w wdr);unfold zmh at h1 ⊢;rw[wce,wc3,wc4,we7];omega
theorem zxf(L:Nat):∀i,(zca L (i+1)).length≤L*(L-1)^i
 |0=>by
  have:=z00 L 1;simpa using this
 |i+1=>by
  have h1:=zxf L i;have h2:=z01 (L:=L) (i:=i+1) (by omega) (zt0 L (i+1));rw[show zca L (i+1+1)=zmh L (i+1) (zca L (i+1))from rfl,h2,we4,←Nat.mul_assoc];exact we0 _ h1
def stW(M:zl)(w:List Nat):TSt:=w.foldl (toS M) ts0
theorem z73(M:zl)(w:List Nat)(c:Nat):stW M (w++[c])=toS M (stW M w) c:=by
 unfold stW;rw[List.foldl_append];rfl
def zqg(M:zl)(w:List Nat)(k:Nat):Nat:=zaq (fun p=>M.ks.getD p 0*w.getD p 0) k
theorem zaca(M:zl)(w:List Nat)(k:Nat):zqg M w (k+1)=zqg M w k+M.ks.getD k 0*w.getD k 0:=rfl
theorem z9z{M:zl}(w:List Nat):(stW M w).at_=w.length∧(0<M.L→(stW M w).sum=zqg M w w.length%M.L)∧(stW M w).last=if w.length=0 then -1 else (w.getD (w.length-1) 0:Int):=by
 induction hk:w.length generalizing w with
 |zero =>
  rw[wc6.1 hk];refine⟨rfl,fun h=>?_,rfl⟩;show 0=zqg M [] 0%M.L;simp[zqg,zaq]
 |succ k ih =>
  obtain⟨u,c,rfl⟩:∃u c,w=u++[c]:=by
   have hne:w≠[]:=fun h=>by rw[h]at hk;simp at hk
   exact⟨w.dropLast,w.getLast hne,(wby hne).symm⟩
  have hu:u.length=k:=by simpa using hk
  obtain⟨h1,h2,h3⟩:=ih u hu;rw[z73];unfold toS;refine⟨by simp only;rw[h1],fun hL=>?_,?_⟩
  ·simp only
   rw[h2 hL,h1,zaca];have e1:zqg M (u++[c]) k=zqg M u k:=zg9 fun p hp=>by
    rw[zah7 (by omega)]
   have e2:(u++[c]).getD k 0=c:=by rw[←hu];exact z71 u c
   rw[e1,e2,Nat.add_mod,Nat.mod_mod,←Nat.add_mod]
  ·simp only
   rw[if_neg (by omega),weh,←hu,z71]
def zef(M:zl):Prop:=∀i,i<M.n→M.ss.getD i 0=2^M.L-1
theorem zaia{M:zl}(O:zef M){w:List Nat}(hw:w.length<M.n){c:Nat}(hc:c<M.L):okS M (stW M w) c=(w.length == 0||w.getD (w.length-1) 0 != c):=by
 obtain⟨h1,-,h3⟩:=z9z (M:=M) w;unfold okS;rw[h1,O _ hw,wfb,decide_eq_true hc,wax,h3]
 by_cases e:w.length=0
 ·rw[if_pos e,e]
  simp
 ·rw[if_neg e]
  have:(w.length == 0)=false:=by simpa using e
  rw[this,wa1]
  by_cases e2:c=w.getD (w.length-1) 0
  ·rw[←e2];simp
  ·have e3:(w.getD (w.length-1) 0 != c)=true:=by simpa using fun h=>e2 h.symm
   rw[e3];apply decide_eq_true;omega
def zi2(M:zl)(ws:List (List Nat)):Nat:=(ws.map fun w=>cnt M (stW M w)).sum
theorem zk0(M:zl)(a b:List (List Nat)):zi2 M (a++b)=zi2 M a+zi2 M b:=by
 unfold zi2;rw[wde,wd8]
theorem zacb{M:zl}(O:zef M){w:List Nat}(hw:w.length<M.n):∀k,k≤M.L→zi2 M (upW w.length w k)=zaq (za8 M (stW M w)) k
 |0,_=>rfl
 |k+1,h=>by
  rw[zae4,zk0,zacb O hw k (by omega),zaq]
  congr 1
  unfold za8;rw[zaia O hw (by omega)]
  split
  ·unfold zi2
   rw[wdk,wd9,z73]
  ·rfl
theorem z02{M:zl}(O:zef M):∀i,i≤M.n→zi2 M (zca M.L i)=cnt M ts0
 |0,_=>by
  rw[zca];unfold zi2;rw[wdk,wd9];rfl
 |i+1,h=>by
  rw[←z02 O i (by omega),zca];have hv:=zt0 M.L i;generalize zca M.L i=ws at hv
  induction ws with
  |nil=>rfl
  |cons w ws ih =>
   rw[wce,zk0,ih fun u hu=>hv u (wdq _ hu)];have hl:=(hv w wdr).len;have h1:=zacb O (w:=w) (by omega) M.L (weq _);rw[hl]at h1;rw[h1,←zgk (by rw[(z9z (M:=M) w).1];omega)];rw[show w::ws=[w]++ws from rfl,zk0]
   congr 1
def chkW(M:zl)(w:List Nat):Bool:=decide (zqg M w M.n%M.L=M.rest)
def z3z(M:zl):List (List Nat):=(zca M.L M.n).filter (chkW M)
theorem zacc{M:zl}(O:zef M)(hL:0<M.L):(z3z M).length=cnt M ts0:=by
 rw[←z02 O M.n (weq _)];unfold z3z;have hv:=zt0 M.L M.n;generalize zca M.L M.n=ws at hv
 induction ws with
 |nil=>rfl
 |cons w ws ih =>
  have hl:=(hv w wdr).len;obtain⟨h1,h2,-⟩:=z9z (M:=M) w;rw[show w::ws=[w]++ws from rfl,zk0,wb1,wc3,ih fun u hu=>hv u (wdq _ hu)]
  congr 1
  unfold zi2;rw[wdk,wd9,zih (by rw[h1,hl]),h2 hL,hl,wb3,wb6];unfold chkW
  by_cases e:zqg M w M.n%M.L=M.rest
  ·rw[decide_eq_true e,if_pos rfl,if_pos e]
   rfl
  ·rw[decide_eq_false e,if_neg (by simp),if_neg e]
   rfl
open Go.RowKit Go.Shelf
theorem zaib(M:zl)(V:zag M)(p mb:Nat)(ka sa:Option Addr)(kc sc:Nat)(ls:List Nat)(hl:ls.length=M.n)(hc:∀c∈ls,c<M.L)(w:World)(h:zbm w p M ka sa kc sc mb) :
  Calls Tryz.prog 53 #[.pointer (some ⟨p,0,none⟩),.string (zcn ls)] w fun e w'=>e=.returned (.bool (zkm M ls M.n))∧Ext w w':=by
 have c4:=h.c4;have hn:=V.n;obtain⟨sb,so,rfl,hss⟩:=za7 h.ss (i:=0) (by rw[V.sl];omega);have HSS:=hid hss;have HL:=hid hl;have HC:=hid hc;have hsl:M.ss.length=M.n:=V.sl;have HSL:=hid hsl;clear h hss hl hc hsl
 go_enter Tryz.func53,Tryz.ntmps53
 go_wp2_with fail
 go_loopw [12] (fun iv W=>∃k:Nat,k≤M.n∧iv=.int .i64 k∧zkm M ls k=true∧Ext w W) (fun iv _=>M.n-(intOf iv).toNat)
 case atStart=>exact⟨0,wfd _,rfl,rfl,Below.refl _ _⟩
 case round =>
  obtain⟨k,hk,rfl,hf,hE⟩:=hrel;have HF:=hid hf;have HE:=hid hE;clear hf hE
  by_cases hlt:k<M.n
  ·have hki:(k:Int)<(M.n:Int):=by omega
   have e0:=HSS.out k (by rw[HSL.out];exact hlt) _ HE.out;have hsz:k<(zcn ls).size:=by rw[zkz,HL.out];exact hlt
   have hw:=zv8 (fun c h=>by have:=HC.out c h;have:=V.L;omega) (show k<ls.length by rw[HL.out];exact hlt);have hcb:ls.getD k 0<M.L:=by
    rw[wch,wcn (by rw[HL.out];exact hlt)];exact HC.out _ (wcy _)
   have hzb:=V.ss k hlt;have hfs:=z0x M ls k;rw[HF.out,wa7]at hfs;obtain⟨c,hc0⟩:∃c,c=ls.getD k 0:=⟨_,rfl⟩
   obtain⟨z,hz0⟩:∃z,z=M.ss.getD k 0:=⟨_,rfl⟩
   rw[←hc0]at hw hcb hfs;rw[←hz0]at e0 hzb hfs;have h26:2^M.L≤2^6:=we3 (by omega) V.L.2;have hb8:((((zcn ls)[k]'hsz).toNat:Int)-97)%256=(c:Int):=by
    have e:((zcn ls)[k]'hsz).toNat=97+c:=by
     rw[←hw,wch,wcn (by rw[wah];exact hsz),wfk];rfl
    rw[e];have:=V.L;omega
   have hbit:=zsc z c (by omega);have hmin:min c 64=c:=by have:=V.L;omega
   have HFS:=hid hfs;clear hw hc0 hz0 hfs h26;cases hb:z.testBit c
   ·rw[hb]at hbit
    simp only[waz,if_false]at hbit;go_wp2_with fail;go_ret;refine⟨zcp (Eq.symm ?_),HE.out⟩;show zkm M ls M.n=false;have e:zkm M ls M.n=false:=by
     unfold zkm;rw[List.all_eq_false];refine⟨k,by simp;exact hlt,?_⟩;have h1:=HFS.out;rw[hb]at h1;rw[z0x]at h1;have h2:=HF.out;rw[h2,wa7]at h1;rw[h1];simp
    rw[e]
   ·rw[hb]at hbit
    simp only[if_true]at hbit;go_wp2_with fail;exact⟨⟨k+1,by omega,by go_num,by rw[HFS.out,hb],HE.out⟩,by simp[intOf];omega⟩
  ·have hki:¬((k:Int)<(M.n:Int)):=by omega
   go_wp2_with fail;go_ret;exact⟨by rw[show M.n=k by omega,HF.out];rfl,HE.out⟩
end Go.Proofs.YtdcnbeehckgpcaaGreat
