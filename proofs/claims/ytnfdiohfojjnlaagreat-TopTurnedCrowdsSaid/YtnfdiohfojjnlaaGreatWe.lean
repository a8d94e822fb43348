/-
  The walks of window and lasts, of people who come in one minute each.
-/
import Derived.Test.YtnfdiohfojjnlaaGreatWd
import Derived.ChangeKeysEq
set_option maxRecDepth 200000
set_option maxHeartbeats 0
namespace Go.Proofs.YtnfdiohfojjnlaaGreat
open Go.Lib (hid)
open Go.RowKit Go.Shelf
attribute [local go_sem] Oper.semAt_some
def Pnt (ps:List Psn):Prop:=∀ p∈ps,p.hi=p.lo∧p.lo≤p.u∧p.u≤60∧1≤p.lo
theorem zts (q M:Nat) (ps:List Psn) (pv:Value) (i:Nat) (w:World) (hf:zgg w q M pv) (hp:zf6 w pv ps) (hi:i < ps.length) (hP:Pnt ps) :
  Calls Tryz.prog 35 #[.pointer (some ⟨q,0,none⟩),.int .i64 (i:Int)] w fun e w'=>e = .returned (.tuple #[.int .i64 (ps[i].lo:Nat),.int .i64 (ps[i].u:Nat)])∧Ext w w':=by
 obtain ⟨pa,pc,rfl,p1,p2,hpc⟩:=hp.spec;obtain ⟨f0,f1⟩:=hf;have hq:=World.block_lt_of_cell? _ _ f0;simp only at hq
 rcases hpc with e | ⟨b,off,rfl,hpc⟩
 ·rw [e] at hi;cases hi
 obtain ⟨c0,c1,c2⟩:=hpc i hi;obtain ⟨h1,h2,h3,-⟩:=hP _ (List.getElem_mem hi);obtain ⟨p,hpp⟩:∃ p,p=ps[i]:=⟨_,rfl⟩
 rw [← hpp] at c0 c1 c2 h1 h2 h3 ⊢;have hz:=World.block_lt_of_cell? _ _ c0;simp only at hz;have hii:(i:Int) < (ps.length:Int):=by omega
 have hlu:¬ (p.u:Int) < (p.lo:Int):=by omega
 have hmn:min ((p.lo:Nat):Int) ((p.u:Nat):Int)=((p.lo:Nat):Int):=by omega
 rw [h1] at c1;clear hp hpc hpp hP h1
 go_enter Tryz.func35,Tryz.ntmps35
 go_upto_region 4 with (fail);obtain ⟨Y,hY⟩:∃ Y,Y=w.alloc (.cells #[.int .i64 (p.lo:Int),.int .i64 (p.lo:Int),.int .i64 (p.u:Int)] 33):=⟨_,rfl⟩
 have hE:Ext w Y:=by rw [hY];exact xx
 have y0:Y.cell? ⟨w.heap.size,0,none⟩=some (.int .i64 (p.lo:Int)):=by rw [hY];simp [go_sem]
 have y1:Y.cell? ⟨w.heap.size,1,none⟩=some (.int .i64 (p.lo:Int)):=by rw [hY];simp [go_sem]
 have y2:Y.cell? ⟨w.heap.size,2,none⟩=some (.int .i64 (p.u:Int)):=by rw [hY];simp [go_sem]
 have yz:=World.block_lt_of_cell? _ _ y0;simp only at yz;rw [← hY];have HE:=hid hE;clear hY hE;refine zb9 (Y.heap.size) (Nat.le_refl _)
  [sqV (.pointer (some ⟨w.heap.size,0,none⟩)),sqV (.pointer (some ⟨w.heap.size,1,none⟩)),sqV (.int .i64 (p.lo:Int)),sqV (.pointer (some ⟨w.heap.size,2,none⟩)),sqV (.int .i64 (p.u:Int)),sqW (fun v W=>v=Value.int .i64 (p.lo:Int)) (fun _ _ _ h _=>h),sqV (.pointer (some ⟨w.heap.size,2,none⟩)),sqV (.int .i64 (p.u:Int)),sqW (fun v W=>v=Value.int .i64 (p.lo:Int)) (fun _ _ _ h _=>h),sqW (fun v W=>v=Value.int .i64 (p.u:Int)) (fun _ _ _ h _=>h)]
  [true,true,true,true,true,false,true,true,false,false] [false,false,false,false,false,false,false,false,false,false] [true,true,true,true,true,true,true,true,true,true] [true,true,true,true,true,true,true,true,true,true]
  (by kernel_rfl) (by kernel_rfl) (by decide +kernel) (by decide +kernel) (by decide +kernel) rfl ⟨rfl,rfl⟩ ⟨?s0,?s1,?s2,?s3,?s4,?s5,?s6,?s7,?s8,?s9,trivial⟩ [some 21,some 22,some 23,some 24,some 25,some 26,some 27,some 28,some 4,some 5] rfl rfl ?send
 case s0 =>
  intro val ρ W hE hz hd hA hx;have o0:ρ (.tmp 6) = .pointer (some ⟨w.heap.size,0,none⟩):=hA.old 6 (by decide);clear hd;exact zh (W':=W) (by simp [execOp,o0,go_sem]) (Below.refl _ _) rfl
 case s1 =>
  intro val ρ W hE hz hd hA hx;have d0:ρ (.tmp 21) = .pointer (some ⟨w.heap.size,0,none⟩):=(hA.dep 0 (by decide) 21 rfl).trans (hd 0 (by decide));clear hd;exact zh (W':=W) (by simp [execOp,d0,go_sem]) (Below.refl _ _) rfl
 case s2 =>
  intro val ρ W hE hz hd hA hx;have d1:ρ (.tmp 22) = .pointer (some ⟨w.heap.size,1,none⟩):=(hA.dep 1 (by decide) 22 rfl).trans (hd 1 (by decide));have f_y1:=cell_below hE (by simp only;omega) y1;clear hd;exact zh (W':=W) (by simp [execOp,d1,f_y1,go_sem]) (Below.refl _ _) rfl
 case s3 =>
  intro val ρ W hE hz hd hA hx;have o0:ρ (.tmp 6) = .pointer (some ⟨w.heap.size,0,none⟩):=hA.old 6 (by decide);clear hd;exact zh (W':=W) (by simp [execOp,o0,go_sem]) (Below.refl _ _) rfl
 case s4 =>
  intro val ρ W hE hz hd hA hx;have d3:ρ (.tmp 24) = .pointer (some ⟨w.heap.size,2,none⟩):=(hA.dep 3 (by decide) 24 rfl).trans (hd 3 (by decide));have f_y2:=cell_below hE (by simp only;omega) y2;clear hd;exact zh (W':=W) (by simp [execOp,d3,f_y2,go_sem]) (Below.refl _ _) rfl
 case s6 =>
  intro val ρ W hE hz hd hA hx;have o0:ρ (.tmp 6) = .pointer (some ⟨w.heap.size,0,none⟩):=hA.old 6 (by decide);clear hd;exact zh (W':=W) (by simp [execOp,o0,go_sem]) (Below.refl _ _) rfl
 case s7 =>
  intro val ρ W hE hz hd hA hx;have d6:ρ (.tmp 27) = .pointer (some ⟨w.heap.size,2,none⟩):=(hA.dep 6 (by decide) 27 rfl).trans (hd 6 (by decide));have f_y2:=cell_below hE (by simp only;omega) y2;clear hd;exact zh (W':=W) (by simp [execOp,d6,f_y2,go_sem]) (Below.refl _ _) rfl
 case s5 =>
  intro val ρ W hE hz hd hA hx;have d2:ρ (.tmp 23) = .int .i64 (p.lo:Int):=(hA.dep 2 (by decide) 23 rfl).trans (hd 2 (by decide));have d4:ρ (.tmp 25) = .int .i64 (p.u:Int):=(hA.dep 4 (by decide) 25 rfl).trans (hd 4 (by decide));refine zh (v:=.int .i64 (p.lo:Int)) (W':=W) ?_ (Below.refl _ _) rfl;simp [d2,d4,go_sem];intro h;omega
 case s8 =>
  intro val ρ W hE hz hd hA hx;have d5:ρ (.tmp 26) = .int .i64 (p.lo:Int):=(hA.dep 5 (by decide) 26 rfl).trans (hd 5 (by decide));exact zh (W':=W) (by simp [execOp,d5,go_sem]) (Below.refl _ _) rfl
 case s9 =>
  intro val ρ W hE hz hd hA hx;have d7:ρ (.tmp 28) = .int .i64 (p.u:Int):=(hA.dep 7 (by decide) 28 rfl).trans (hd 7 (by decide));exact zh (W':=W) (by simp [execOp,d7,go_sem]) (Below.refl _ _) rfl
 case send =>
  intro val W1 hE1 hzz hv;obtain ⟨-,-,-,-,-,-,-,-,r8,r9,-⟩:=hv;have q8:val 8 = .int .i64 (p.lo:Int):=r8;have q9:val 9 = .int .i64 (p.u:Int):=r9;simp only [zbx,q8,q9];go_frame;go_wp2_with fail;refine bodyPost_ret (v:=.tuple #[.int .i64 (p.lo:Int),.int .i64 (p.u:Int)]) (by simp [results,Tryz.results35,go_sem]) rfl ?_
  exact ⟨rfl,HE.out.trans' hE1⟩
theorem z6z (w:World) (sa:Option Addr) (scap:Nat) (l:List Int) (ty:TypeId) (hl:IsInts w .i64 (.slice sa l.length scap) l) (h9:l.length≤1000) (b:Nat) (x:Int) (hc:RowsAt w 1 b 0 [zam x]) :
  ∃ v' w',(Builtin.append_ #[41,41] ty #[.slice sa l.length l.length,.slice (some ⟨b,0,none⟩) 1 1]).run Tryz.prog w = .ok v' w'∧Owns w' w.heap.size 2 1 v' ((l ++ [x]).map zam)∧Ext w w':=by
 obtain ⟨_,_,e,h1,h2,h3⟩:=hl.spec;simp only [Value.slice.injEq] at e;obtain ⟨rfl,-,rfl⟩:=e;have hI:∀ r∈l.map zam,r.length=1:=fun r hr=>by obtain ⟨y,_,rfl⟩:=List.mem_map.1 hr;rfl
 rw [List.map_append];obtain ⟨i,z,hi,hz,hsi,hby,hzs⟩:=zin.info;have hr1:∀ r∈[zam x],r.length=1:=fun r hr=>by rw [List.mem_singleton.1 hr];rfl
 have hfl:∀ j u,[zam x].flatten[j]? = some u→w.cell? ((⟨b,0,none⟩:Addr).add j)=some u:=fun j u hj=>by rw [addr_add];exact zez hr1 hc j u hj
 rcases h3 with h3 | ⟨bb,off,rfl,h3⟩
 ·subst h3
  cases sa with
  | none=>exact zn6 zin ty none 0 0 rfl (by simp) (.inl ⟨rfl,rfl,rfl⟩) b 0 1 [zam x] hr1 hc (by simp [zam,Value.oneCell']) (by simp) (by simp)
  | some a =>
   obtain ⟨v',w',hrun,ho,hg2⟩:=run_append_arg_grows (P:=Tryz.prog) w 41 ty 2 i z 1 i.bytes zin.und hi hz hsi rfl hzs zin.pos a 0 0 [] rfl
    (fun j u hj=>by simp at hj) ⟨b,0,none⟩ 1 1 [zam x].flatten rfl hfl (by omega) (by simp [maxLen]) (by omega)
   exact ⟨v',w',hrun,⟨by simpa using ho,by simpa using hr1⟩,(Below.refl _ w).grown hg2 (Nat.le_refl _) fun k hk=>by cases hk⟩
 ·refine zn6 zin ty (some ⟨bb,off,none⟩) l.length l.length (by simp) hI (.inr ⟨bb,off,rfl,?_⟩) b 0 1 [zam x] hr1 hc (by simp [zam,Value.oneCell']) (by simp) (by simp;omega)
  obtain ⟨_,_,e,_,_,h4⟩:=hl;simp only [Value.slice.injEq] at e;obtain ⟨e,-,-⟩:=e
  rcases h4 with h4 | ⟨b2,o2,e2,h4⟩
  ·have h0:l=[]:=by simpa using h4
   subst h0;exact fun i hi=>by simp at hi
  ·rw [← e] at e2
   cases e2;exact h4
theorem z3c {w:World} {ops:Array Oper} {rest:List Oper} {o:Oper} {a:Act} {Q:Exit→Act→World→Prop} (hgd:o.guard=none) (s x:Operand) {t:TypeId}
  (ho:o.op = .call { callee:=.builtin .append,args:=#[s,x],argTypes:=#[t,t] }) {vs vx v':Value} {w':World} (hs:a.eval s=vs) (hx:a.eval x=vx) (hrun:(Builtin.append_ #[t,t] o.type #[vs,vx]).run Tryz.prog w = .ok v' w')
  (h:wpList Tryz.prog ops Q rest (a.put o.dst v') w'):wpList Tryz.prog ops Q (o :: rest) a w :=
 wpList_plain hgd fun K hK=>by
  unfold Oper.wp execOp;simp only [ho,resolve,invoke,builtin,Sem.run_bind,Sem.run_pure,Result.andThen_ok,List.map_toArray,List.map_cons,List.map_nil,hs,hx,hrun];exact hK _ _ h
def zca (ps:List Psn):List Nat:=ps.map (·.lo)
theorem zjl (ps:List Psn):(zca ps).length=ps.length:=by simp [zca]
theorem zw8 {ps:List Psn} {i:Nat} (h:i < ps.length):zbq ((zca ps).take (i+1))=zbq ((zca ps).take i) ++ [((ps[i].lo:Nat):Int)]:=by
 unfold zbq zca;rw [List.take_add_one,List.getElem?_map,List.getElem?_eq_getElem h,List.map_append];rfl
theorem z60 (q M:Nat) (ps:List Psn) (pv:Value) (w:World) (hf:zgg w q M pv) (hp:zf6 w pv ps) (hP:Pnt ps) (hn:ps.length≤30) :
  Calls Tryz.prog 24 #[.pointer (some ⟨q,0,none⟩)] w fun e w'=>∃ v,e = .returned v∧Ext w w'∧IsInts w' .i64 v (zbq (zca ps)):=by
 obtain ⟨pa,pc,rfl,p1,p2,hpc⟩:=hp.spec;have f0:=hf.1;have f1:=hf.2;have hq:=World.block_lt_of_cell? _ _ f0;simp only at hq;have HF:=hid hf;have HP:=hid hp;have HPN:=hid hP;have HPC:=hid hpc;clear hf hp hP hpc
 go_enter Tryz.func24,Tryz.ntmps24
 go_wp2_with fail
 go_loopw [3,14] (fun v iv W=>∃ i:Nat,i≤ps.length∧iv = .int .i64 i∧Ext w W∧IsInts W .i64 v (zbq ((zca ps).take i))) (fun _ iv _=>ps.length - (intOf iv).toNat)
 case atStart=>exact ⟨0,by omega,rfl,Below.refl _ _,⟨none,0,rfl,by simp [zbq],by omega,.inl rfl⟩⟩
 case round =>
  obtain ⟨i,hi,rfl,hE,hI⟩:=hrel;obtain ⟨Y,rfl⟩:∃ Y,Y=wr:=⟨_,rfl⟩
  have g0:=zj hE f0;have g1:=zj hE f1;have gz:=World.block_lt_of_cell? _ _ g0;simp only at gz;obtain ⟨va,vc,rfl,v1,v2,-⟩:=hI.spec;have HE:=hid hE;have HI:=hid hI;clear hI
  by_cases hlt:i < ps.length
  ·have hii:(i:Int) < (ps.length:Int):=by omega
   obtain ⟨b,off,rfl,hc⟩:∃ b off,pa=some ⟨b,off,none⟩∧∀ i,(h:i < ps.length)→w.cell? ⟨b,off+i * 3,none⟩=some (.int .i64 ps[i].lo)∧w.cell? ⟨b,off+i * 3+1,none⟩=some (.int .i64 ps[i].hi)∧w.cell? ⟨b,off+i * 3+2,none⟩=some (.int .i64 ps[i].u):=by
    rcases HPC.out with e | h
    ·rw [e] at hlt;cases hlt
    ·exact h
   obtain ⟨c0,c1,c2⟩:=hc i hlt;replace c0:=zj hE c0;replace c1:=zj hE c1;replace c2:=zj hE c2;have cz:=World.block_lt_of_cell? _ _ c0;simp only at cz;have hln:((zbq ((zca ps).take i)).length)=i:=by rw [zd6,List.length_take,zjl];omega
   have HLN:=hid hln;rw [hln] at v1 HI ⊢;obtain ⟨pp,hpp⟩:∃ pp,pp=ps[i]:=⟨_,rfl⟩
   rw [← hpp] at c0 c1 c2;have hwin:=zts q M ps _ i (Y.alloc (.cells #[.int .i64 (pp.lo:Int),.int .i64 (pp.hi:Int),.int .i64 (pp.u:Int)] 33)) (HF.out.ext (hE.trans' (by exact xx))) (HP.out.ext (hE.trans' (by exact xx))) hlt HPN.out;rw [← hpp] at hwin;obtain ⟨hp1,hp2,hp3,hp4⟩:=HPN.out _ (List.getElem_mem hlt);rw [← hpp] at hp2 hp3 hp4;have hub:(((pp.u:Nat):Int) == 0)=false:=beq_false_of_ne (by omega);have HPP:=hid hpp;have HWIN:=hid hwin;clear hc hE hln hpp hwin hp1;go_wp2_with fail;refine HWIN.out.mono ?_
   rintro e Y2 ⟨rfl,hE2⟩;have hE02:Ext Y Y2:=Ext.trans' (by exact xx) hE2;obtain ⟨l,hl⟩:∃ l,l=zbq ((zca ps).take i):=⟨_,rfl⟩
   rw [← hl] at HI HLN;have hlr:=(HI.out.ext hE02).ext (by exact (Ext.al (Below.refl _ Y2) (.cells #[.int .i64 (pp.lo:Int)] 2)):Ext Y2 (Y2.alloc (.cells #[.int .i64 (pp.lo:Int)] 2)));rw [← HLN.out] at hlr;obtain ⟨v',w',hap,hown,hEa⟩:=z6z _ va vc l 41 hlr (by rw [HLN.out];omega) Y2.heap.size (pp.lo:Int) (newRow Y2 [.int .i64 (pp.lo:Int)] _);rw [HLN.out] at hap;have HAP:=hid hap;have HOWN:=hid hown;have HEa:=hid hEa;have HL:=hid hl;have HE02:=hid hE02;clear hE2 hE02 hl hlr hap hown hEa;go_wp2_with (at_builtin;refine z3c rfl (.tmp 35) (.tmp 37) rfl rfl rfl HAP.out ?_);go_roundw
   case rel =>
    refine ⟨i+1,by omega,by go_num,(HE.out.trans' HE02.out).trans' (Ext.trans' (by exact (Ext.al (Below.refl _ Y2) (.cells #[.int .i64 (pp.lo:Int)] 2))) HEa.out),?_⟩;rw [zw8 hlt,← HL.out,← HPP.out];exact Owns.isRows HOWN.out
   case measure=>simp [intOf];omega
  ·have hii:¬ (i:Int) < (ps.length:Int):=by omega
   have hin:(zca ps).take i=zca ps:=List.take_of_length_le (by rw [zjl];omega);rw [hin] at HI ⊢;go_wp2_with fail;go_ret;exact ⟨_,rfl,HE.out,HI.out⟩
end Go.Proofs.YtnfdiohfojjnlaaGreat
namespace Go.Proofs.YtnfdiohfojjnlaaGreat
open Go.Lib (hid)
open Go.RowKit Go.Shelf
attribute [local go_sem] Oper.semAt_some
def zgs (cf u:Nat→Nat) (n M:Nat):Nat:=(List.range 30).findIdx fun k=>(toW cf u n k M).shut == 0
theorem zadp {cf u:Nat→Nat} {n M k:Nat} (hk:k < 30) (h0:(toW cf u n k M).shut=0) (h:∀ j,j < k→(toW cf u n j M).shut≠0):zgs cf u n M=k:=by
 unfold zgs;rw [List.findIdx_eq (by simpa using hk)];refine ⟨by simp [h0],fun j hj=>?_⟩;simp only [List.getElem_range];exact beq_false_of_ne (h j hj)
theorem zab0 {cf u:Nat→Nat} {n M:Nat} (h:∀ j,j < 30→(toW cf u n j M).shut≠0):zgs cf u n M=30:=by
 unfold zgs;have:=List.findIdx_eq_length (p:=fun k=>(toW cf u n k M).shut == 0) (xs:=List.range 30);rw [List.length_range] at this;refine this.2 fun x hx=>?_
 exact beq_false_of_ne (h x (List.mem_range.1 hx))
theorem zadq {cf u:Nat→Nat} {n M k:Nat} (_:k < 30) (h0:(toW cf u n k M).shut=0):zgs cf u n M≤k:=by
 unfold zgs
 rcases Nat.lt_or_ge k ((List.range 30).findIdx fun k=>(toW cf u n k M).shut == 0) with h | h
 ·have:=List.not_of_lt_findIdx h
  simp [h0] at this
 ·exact h
theorem ztt (q M:Nat) (ps:List Psn) (pv cv:Value) (cm:List Nat) (w:World) (hf:zgg w q M pv) (hp:zf6 w pv ps) (hc:IsInts w .i64 cv (zbq cm)) (hl:cm.length=ps.length) (hn:ps.length≤30) (hM:M≤60) :
  Calls Tryz.prog 23 #[.pointer (some ⟨q,0,none⟩),cv] w fun e w'=>e = .returned (.int .i64 (zgs (cmN cm) (unP ps) ps.length M:Nat))∧Ext w w':=by
 have hs:∀ (k:Nat) (W:World),k≤1000→Ext w W→Calls Tryz.prog 47 #[.pointer (some ⟨q,0,none⟩),.int .i64 (k:Int),cv] W (zsp (cmN cm) (unP ps) ps.length k M W):=fun k W hk hE =>
  z6y q 0 M k pv cv ps cm W (zj hE hf.1) (zj hE hf.2) (hp.ext hE) (hc.ext hE) hl (by omega) (by omega) hk
 obtain ⟨cf,hcf⟩:∃ cf,cf=cmN cm:=⟨_,rfl⟩
 obtain ⟨u,hu⟩:∃ u,u=unP ps:=⟨_,rfl⟩
 obtain ⟨n,hnn⟩:∃ n,n=ps.length:=⟨_,rfl⟩
 rw [← hcf,← hu,← hnn] at hs ⊢;have HS:=hid hs;obtain ⟨ca,cc,rfl,-⟩:=hc.spec;clear hf hp hc hl hn hM hcf hu hnn hs
 go_enter Tryz.func23,Tryz.ntmps23
 go_wp2_with fail
 go_loopw [11] (fun iv W=>∃ k:Nat,k≤30∧iv = .int .i64 k∧Ext w W∧∀ j,j < k→(toW cf u n j M).shut≠0) (fun iv _=>30 - (intOf iv).toNat)
 case atStart=>exact ⟨0,by omega,rfl,Below.refl _ _,fun j hj=>absurd hj (by omega)⟩
 case round =>
  obtain ⟨k,hk,rfl,hE,hj⟩:=hrel;obtain ⟨Y,rfl⟩:∃ Y,Y=wr:=⟨_,rfl⟩
  have HE:=hid hE;have HJ:=hid hj;clear hE hj
  by_cases hlt:k < 30
  ·have hki:(k:Int) < 30:=by omega
   go_wp2_with fail;refine (HS.out k Y (by omega) HE.out).mono ?_
   rintro e Y2 ⟨b,-,rfl,hE2,-⟩;have HE2:=hid (HE.out.trans' hE2);clear hE2
   by_cases h0:(toW cf u n k M).shut=0
   ·have h0b:(((toW cf u n k M).shut:Nat):Int)=0:=by omega
    have HF:=hid (zadp hlt h0 HJ.out);clear h0;go_wp2_with fail;go_ret;exact ⟨by rw [HF.out];rfl,HE2.out⟩
   ·have h0b:((((toW cf u n k M).shut:Nat):Int) == 0)=false:=beq_false_of_ne (by omega)
    have HN:=hid h0;clear h0;go_wp2_with fail;go_roundw
    case rel =>
     refine ⟨k+1,by omega,by go_num,HE2.out,fun j hj=>?_⟩
     by_cases e:j=k
     ·rw [e];exact HN.out
     ·exact HJ.out j (by omega)
    case measure=>simp [intOf];omega
  ·have hki:¬ (k:Int) < 30:=by omega
   have hk30:k=30:=by omega
   have HF:=hid (zab0 (M:=M) (n:=n) (u:=u) (cf:=cf) fun j hj=>HJ.out j (by omega));clear hk30;go_wp2_with fail;go_ret;exact ⟨by rw [HF.out];rfl,HE.out⟩
theorem zz0 (M:Nat) (ps:List Psn) (pv:Value) (w:World) (h:zjk M ps) (hp:zf6 w pv ps) (hP:Pnt ps) :
  Calls Tryz.prog 8 #[.agg #[.int .i64 (M:Int),pv]] w fun e w'=>e = .returned (.tuple #[.agg #[.int .i64 (zgs (cmN (zca ps)) (unP ps) ps.length M:Nat),.int .i64 (zgs (cmN (zca ps)) (unP ps) ps.length M:Nat)],.int .i64 0])∧Ext w w':=by
 obtain ⟨pa,pc,rfl,p1,p2,hpc⟩:=hp.spec;have HP:=hid hp;have HV:=hid h;have HPN:=hid hP;have HPC:=hid hpc;have hn30:=h.n;clear hp h hP hpc
 go_enter Tryz.func8,Tryz.ntmps8
 go_wp2_with fail;obtain ⟨W0,hW0⟩:∃ W0,W0=(w.alloc (.cells #[.int .i64 (M:Int),.slice pa ps.length pc] 29)).alloc (.cells #[.int .i64 0,.int .i64 0] 31):=⟨_,rfl⟩
 have hE0:Ext w W0:=by rw [hW0];exact xx
 have b1:W0.cell? ⟨w.heap.size,1,none⟩=some (.slice pa ps.length pc):=by rw [hW0];simp [go_sem]
 have hR:W0.heap[w.heap.size+1]? = some (.cells #[.int .i64 0,.int .i64 0] 31 (0,0)):=by
  rw [hW0];have:=World.alloc_heap_new (w.alloc (.cells #[.int .i64 (M:Int),.slice pa ps.length pc] 29)) (.cells #[.int .i64 0,.int .i64 0] 31)
  rwa [World.size_alloc] at this
 rw [← hW0];have HE0:=hid hE0;have HR:=hid hR;clear hW0 hE0 hR;refine (zw7 M ps _ W0 HV.out (HP.out.ext HE0.out)).mono ?_
 rintro e W1 ⟨q,rfl,hE1,hF⟩;replace b1:=zj hE1 b1;have bz:=World.block_lt_of_cell? _ _ b1;simp only at bz;have HE1:=hid (HE0.out.trans' hE1);have HR1:=hid ((hE1.block _ (Array.getElem?_eq_some_iff.1 HR.out).1).trans HR.out);have HF:=hid hF;clear hE1 hF HR HE0;go_wp2_with fail
 go_loopw [6,21] (fun v iv W=>∃ i:Nat,i≤ps.length∧iv = .int .i64 i∧Ext W1 W∧Owns W W1.heap.size 2 1 v ((zbq ((zca ps).take i)).map zam)) (fun _ iv _=>ps.length - (intOf iv).toNat)
 case atStart=>exact ⟨0,by omega,rfl,Below.refl _ _,Owns.nil _ _ _ _⟩
 case round =>
  obtain ⟨i,hi,rfl,hE,ho⟩:=hrel;obtain ⟨Y,rfl⟩:∃ Y,Y=wr:=⟨_,rfl⟩
  obtain ⟨va,vn,vc,rfl⟩:=ho.isSlice;have hzY:=hE.size;have HE:=hid hE;have HO:=hid ho
  by_cases hlt:i < ps.length
  ·have hii:(i:Int) < (ps.length:Int):=by omega
   obtain ⟨b,off,rfl,hc⟩:∃ b off,pa=some ⟨b,off,none⟩∧∀ i,(h:i < ps.length)→w.cell? ⟨b,off+i * 3,none⟩=some (.int .i64 ps[i].lo)∧w.cell? ⟨b,off+i * 3+1,none⟩=some (.int .i64 ps[i].hi)∧w.cell? ⟨b,off+i * 3+2,none⟩=some (.int .i64 ps[i].u):=by
    rcases HPC.out with e | h
    ·rw [e] at hlt;cases hlt
    ·exact h
   obtain ⟨c0,c1,c2⟩:=hc i hlt;replace c0:=zj (HE1.out.trans' hE) c0;replace c1:=zj (HE1.out.trans' hE) c1;replace c2:=zj (HE1.out.trans' hE) c2;have cz:=World.block_lt_of_cell? _ _ c0;simp only at cz;obtain ⟨pp,hpp⟩:∃ pp,pp=ps[i]:=⟨_,rfl⟩
   rw [← hpp] at c0 c1 c2;have HPP:=hid hpp;have HLEN:Hid (((zbq ((zca ps).take i)).map zam).length + [[Value.int .i64 (pp.lo:Int)]].length≤1000000):=hid (by
    rw [List.length_map,zd6,List.length_take];simp;omega)
   clear hc hE ho hpp;go_wp2_with (at_builtin;refine zae4 rfl (.tmp 25) (.tmp 29) zin rfl W1.heap.size rfl (HO.out.ext (by exact xx)) (some ⟨Y.heap.size+1,0,none⟩) 1 [[.int .i64 (pp.lo:Int)]] rfl (by simp) (.inr ⟨_,0,rfl,z8x _ [.int .i64 (pp.lo:Int)] _ _ _ (by simp) rfl⟩) (by simp [Value.oneCell']) HLEN.out (by simp;omega) ?_);intro v' W4 hown4 hk4;have hEa:Ext Y ((Y.alloc (.cells #[.int .i64 (pp.lo:Int),.int .i64 (pp.hi:Int),.int .i64 (pp.u:Int)] 33)).alloc (.cells #[.int .i64 (pp.lo:Int)] 2)):=by exact xx
   have hoa:=HO.out.ext hEa;have hE4:Ext W1 W4:=Below.trans (HE.out.trans' hEa) (hoa.keptBelow (by simp;omega) hk4);obtain ⟨va2,vn2,vc2,rfl⟩:=hown4.isSlice;have HO4:=hid hown4;have HE4:=hid hE4;clear hown4 hk4 hEa hoa hE4;go_wp2_with fail;go_roundw
   case rel=>exact ⟨i+1,by omega,by go_num,HE4.out,by rw [zw8 hlt,List.map_append,← HPP.out];exact HO4.out⟩
   case measure=>simp [intOf];omega
  ·have hii:¬ (i:Int) < (ps.length:Int):=by omega
   have hin:(zca ps).take i=zca ps:=List.take_of_length_le (by rw [zjl];omega);rw [hin] at HO;have hso:IsInts Y .i64 (.slice va vn vc) (zbq (zca ps)):=HO.out.isRows;have HSO:=hid hso;clear hE ho hso hin;go_wp2_with fail;refine (ztt q M ps _ _ (zca ps) Y (HF.out.ext HE.out) (HP.out.ext (HE1.out.trans' HE.out)) HSO.out (zjl ps) hn30 HV.out.m.2).mono ?_
   rintro e Y2 ⟨rfl,hE2⟩;have HE2:=hid (HE.out.trans' hE2);clear hE2;go_wp2_with fail;refine (z60 q M ps _ Y2 (HF.out.ext HE2.out) (HP.out.ext (HE1.out.trans' HE2.out)) HPN.out hn30).mono ?_
   rintro e Y3 ⟨lv,rfl,hE3,hl3⟩;have HE3:=hid (HE2.out.trans' hE3);have HL3:=hid hl3;clear hE3 hl3;go_wp2_with fail;refine (ztt q M ps _ _ (zca ps) Y3 (HF.out.ext HE3.out) (HP.out.ext (HE1.out.trans' HE3.out)) HL3.out (zjl ps) hn30 HV.out.m.2).mono ?_
   rintro e Y4 ⟨rfl,hE4⟩;have hr:=(HE3.out.trans' hE4).block _ (Array.getElem?_eq_some_iff.1 HR1.out).1 |>.trans HR1.out
   have r0:Y4.cell? ⟨w.heap.size+1,0,none⟩=some (.int .i64 0):=by rw [cell_of_row _ _ _ _ _ _ hr];rfl
   have r1:Y4.cell? ⟨w.heap.size+1,1,none⟩=some (.int .i64 0):=by rw [cell_of_row _ _ _ _ _ _ hr];rfl
   have rz:=World.block_lt_of_cell? _ _ r0;simp only at rz;have rf:∀ o,Y4.frozen? ⟨w.heap.size+1,o,none⟩=false:=fun o=>by simp [World.frozen?,hr]
   have HE4:=hid (HE1.out.trans' (HE3.out.trans' hE4));clear hE4 hr;go_wp2_with fail;refine bodyPost_ret (v:=.tuple #[.agg #[.int .i64 (zgs (cmN (zca ps)) (unP ps) ps.length M:Nat),.int .i64 (zgs (cmN (zca ps)) (unP ps) ps.length M:Nat)],.int .i64 0]) (by simp [results,Tryz.results8,go_sem,r0,r1]) rfl ?_
   exact ⟨rfl,(HE4.out.setCell (by simp only;omega) _).setCell (by simp only;omega) _⟩
end Go.Proofs.YtnfdiohfojjnlaaGreat
namespace Go.Proofs.YtnfdiohfojjnlaaGreat
open Go.Lib (hid)
open Go.RowKit Go.Shelf
attribute [local go_sem] Oper.semAt_some
theorem z2l (M m:Nat) (ps:List Psn) (pv:Value) (w:World) (h:zjk M ps) (hp:zf6 w pv ps) (hm:m≤30) :
  Calls Tryz.prog 34 #[.agg #[.int .i64 (M:Int),pv],.int .i64 (m:Int)] w fun e w'=>∃ q,e = .returned (.tuple #[.pointer (some ⟨q,0,none⟩),.int .i64 0])∧Ext w w'∧zgg w' q M pv:=by
 obtain ⟨pa,pc,rfl,p1,p2,-⟩:=hp.spec;have HP:=hid hp;have HV:=hid h;clear hp h
 go_enter Tryz.func34,Tryz.ntmps34
 go_wp2_with fail;obtain ⟨W0,hW0⟩:∃ W0,W0=w.alloc (.cells #[.int .i64 (M:Int),.slice pa ps.length pc] 29):=⟨_,rfl⟩
 have hE0:Ext w W0:=by rw [hW0];exact xx
 rw [← hW0];have HE0:=hid hE0;clear hW0 hE0;refine (zw7 M ps _ W0 HV.out (HP.out.ext HE0.out)).mono ?_
 rintro e W1 ⟨q,rfl,hE1,hF⟩;have HE1:=hid (HE0.out.trans' hE1);have HF:=hid hF;clear hE1 hF;go_wp2_with fail;refine (zho 0 30 _ [(m:Int)] _ (zpt (by simp [go_sem]))).mono ?_
 rintro e W2 ⟨rfl,hE2⟩;have hall:([(m:Int)].all (wiR 0 30))=true:=by
  simp [wiR];omega
 rw [hall];have hE12:Ext W1 W2:=Ext.trans' (by exact xx) hE2;have HE2:=hid hE12;clear hE2 hE12 hall;go_wp2_with fail;refine bodyPost_ret (v:=.tuple #[.pointer (some ⟨q,0,none⟩),.int .i64 0]) (by simp [results,Tryz.results34,go_sem]) rfl ?_
 exact ⟨q,rfl,HE1.out.trans' HE2.out,HF.out.ext HE2.out⟩
def gtW (s:List Int) (i:Nat):Int:=s.getD i 0
theorem zqy {l:List Int} {k:Nat} (h:k < l.length):l[k]=gtW l k:=by unfold gtW;rw [List.getD_eq_getElem?_getD,List.getElem?_eq_getElem h];rfl
theorem ztu {f:Int→Int→Int} {l:List Int} {k:Nat} (h:k < l.length) (a:Int):(l.take (k+1)).foldl f a=f ((l.take k).foldl f a) (gtW l k):=by
 rw [List.take_add_one,List.getElem?_eq_getElem h,List.foldl_append,← zqy h];rfl
theorem z61 {f:Int→Int→Int} (hf:∀ a,f a a=a) {l:List Int} (h:0 < l.length):(l.take 1).foldl f (gtW l 0)=gtW l 0:=by
 rw [ztu h];simp [hf]
theorem zab1 (a y:Int):(if a < y then y else a)=max a y:=by split<;>omega
def zy8 (l:List Int):Int:=l.foldl max (gtW l 0)
theorem z88 (l:List Int) (v:Value) (w:World) (hv:IsInts w .i64 v l) (h0:0 < l.length) :
  Calls Tryz.prog 37 #[v] w fun e w'=>e = .returned (.int .i64 (zy8 l))∧Ext w w':=by
 obtain ⟨va,cap,rfl,h1,h2,hc⟩:=hv.spec
 rcases hc with hc | ⟨b,off,rfl,hc⟩
 ·rw [hc] at h0;simp at h0
 have c0:=hc 0 h0;rw [Nat.add_zero,zqy h0] at c0;have HC:=hid hc;have hz0:=World.block_lt_of_cell? _ _ c0;simp only at hz0;have hl0:(0:Int) < (l.length:Int):=by omega
 have hl1:¬ ((l.length:Int) < 1):=by omega
 have hl2:decide ((l.length:Int) < 1)=false:=decide_eq_false hl1;clear hc hv
 go_enter Tryz.func37,Tryz.ntmps37
 go_wp2_with fail
 go_loopw [3,4] (fun mv iv W=>∃ k:Nat,1≤k∧k≤l.length∧iv = .int .i64 k∧mv = .int .i64 ((l.take k).foldl max (gtW l 0))∧Ext w W) (fun _ iv _=>l.length - (intOf iv).toNat)
 case atStart=>exact ⟨1,Nat.le_refl _,by omega,rfl,by rw [z61 (f:=max) (fun a=>by simp) h0],by exact xx⟩
 case round =>
  obtain ⟨k,hk1,hk,rfl,rfl,hE⟩:=hrel;have HE:=hid hE
  by_cases hlt:k < l.length
  ·have hki:(k:Int) < (l.length:Int):=by omega
   have ck:=zj hE (HC.out k hlt);rw [zqy] at ck;have hzk:=World.block_lt_of_cell? _ _ ck;simp only at hzk;have hft:=ztu (f:=max) hlt (gtW l 0);obtain ⟨A,hA⟩:∃ A,A=(l.take k).foldl max (gtW l 0):=⟨_,rfl⟩
   obtain ⟨y,hy⟩:∃ y,y=gtW l k:=⟨_,rfl⟩
   rw [← hA,← hy] at hft;rw [← hA];rw [← hy] at ck;have HFT:=hid hft;clear hA hy hft hE;go_wp2_with fail;go_roundw
   case rel=>exact ⟨k+1,by omega,by omega,by go_num,by rw [HFT.out,← zab1 A y],HE.out.trans' (by exact xx)⟩
   case measure=>simp [intOf];omega
  ·have hki:¬ ((k:Int) < (l.length:Int)):=by omega
   have hke:k=l.length:=by omega
   have hA:(l.take k).foldl max (gtW l 0)=zy8 l:=by rw [hke,List.take_length];rfl
   rw [hA];clear hA hke hE;go_wp2_with fail;go_ret;exact ⟨rfl,HE.out⟩
theorem zab2 {l:List Int} {k:Int} (h0:0 < l.length) (h:∀ x∈l,x≤k):zy8 l≤k:=by
 have key:∀ (l:List Int) (a:Int),a≤k→(∀ x∈l,x≤k)→l.foldl max a≤k:=by
  intro l
  induction l with
  | nil=>exact fun a h _=>h
  | cons x l ih=>exact fun a ha hl=>ih (max a x) (by have:=hl x (by simp);omega) fun y hy=>hl y (by simp [hy])
 exact key l _ (by rw [← zqy h0];exact h _ (List.getElem_mem h0)) h
def cntN (l:List Nat) (t:Nat):Nat:=l.countP fun x=>x == t
def zcx (W:World) (b:Nat) (f:Nat→Nat):Prop:=∃ cur:Array Value,W.heap[b]? = some (.cells cur 84 (0,0))∧cur.size=61∧∀ j,j < 61→cur[j]? = some (.int .i64 (f j:Nat))
section
variable {W W':World} {b:Nat} {f:Nat→Nat}
theorem zcx.cell (h:zcx W b f) {j:Nat} (hj:j < 61):W.cell? ⟨b,j,none⟩=some (.int .i64 (f j:Nat)):=by
 obtain ⟨cur,h1,h2,h3⟩:=h;rw [cell_of_row _ _ _ _ _ _ h1];exact h3 j hj
theorem zcx.lt (h:zcx W b f):b < W.heap.size:=by
 obtain ⟨cur,h1,-⟩:=h;exact (Array.getElem?_eq_some_iff.1 h1).1
theorem zcx.fr (h:zcx W b f) (o:Nat):W.frozen? ⟨b,o,none⟩=false:=by
 obtain ⟨cur,h1,-⟩:=h;simp [World.frozen?,h1]
theorem zcx.ext (h:zcx W b f) (e:Ext W W'):zcx W' b f:=by
 have hl:=h.lt;obtain ⟨cur,h1,h2⟩:=h;exact ⟨cur,(e.block b hl).trans h1,h2⟩
theorem zcx.set (h:zcx W b f) {j:Nat} (hj:j < 61) (v:Nat):zcx (W.setCell ⟨b,j,none⟩ (.int .i64 (v:Int))) b (fun i=>if i=j then v else f i):=by
 obtain ⟨cur,h1,h2,h3⟩:=h;refine ⟨_,zp h1 _ _,by simpa using h2,fun i hi=>?_⟩;show (cur.setIfInBounds j (.int .i64 (v:Int)))[i]? = some (.int .i64 ((if i=j then v else f i:Nat):Int))
 by_cases e:i=j
 ·subst e
  rw [if_pos rfl];simp [h2,hj]
 ·rw [if_neg e,Array.getElem?_setIfInBounds,if_neg (fun h=>e h.symm)]
  exact h3 i hi
end
theorem zw9 (xs ys:Array Value) (N:Nat) (hx:∀ j,j < N→∃ x:Int,xs[j]? = some (.int .i64 x)) (hy:∀ j,j < N→∃ x:Int,ys[j]? = some (.int .i64 x)):∀ (l:List Nat),(∀ j∈l,j < N) →
  ∃ b,∀ w,(Op.eqItems 9999 3 1 xs ys l).run Tryz.prog w = .ok b w
 | [],_=>⟨true,fun w=>by simp [Op.eqItems]⟩
 | j :: l,h=>by
  obtain ⟨x,ex⟩:=hx j (h j (by simp));obtain ⟨y,ey⟩:=hy j (h j (by simp));obtain ⟨b,hb⟩:=zw9 xs ys N hx hy l fun i hi=>h i (by simp [hi])
  have hi:∀ w,(Op.equalIn 9999 3 (.int .i64 x) (.int .i64 y)).run Tryz.prog w = .ok (x == y) w:=fun w=>run_equalIn_int w 9998 3 .i64 .i64 x y (by kernel_rfl)
  simp only [Op.eqItems,Sem.run_bind,Nat.mul_one]
  by_cases e:x=y
  ·exact ⟨b,fun w=>by simp [part,go_sem,ex,ey,e,hb]⟩
  ·exact ⟨false,fun w=>by simp [part,go_sem,ex,ey,hi,e]⟩
theorem zab3 (cur:Array Value) (hx:∀ j,j < 61→∃ x:Int,cur[j]? = some (.int .i64 x)):∃ b,∀ w,(Op.equalIn 10000 84 (.agg cur) (.agg #[.int .i64 0,.int .i64 0,.int .i64 0,.int .i64 0,.int .i64 0,.int .i64 0,.int .i64 0,.int .i64 0,.int .i64 0,.int .i64 0,.int .i64 0,.int .i64 0,.int .i64 0,.int .i64 0,.int .i64 0,.int .i64 0,.int .i64 0,.int .i64 0,.int .i64 0,.int .i64 0,.int .i64 0,.int .i64 0,.int .i64 0,.int .i64 0,.int .i64 0,.int .i64 0,.int .i64 0,.int .i64 0,.int .i64 0,.int .i64 0,.int .i64 0,.int .i64 0,.int .i64 0,.int .i64 0,.int .i64 0,.int .i64 0,.int .i64 0,.int .i64 0,.int .i64 0,.int .i64 0,.int .i64 0,.int .i64 0,.int .i64 0,.int .i64 0,.int .i64 0,.int .i64 0,.int .i64 0,.int .i64 0,.int .i64 0,.int .i64 0,.int .i64 0,.int .i64 0,.int .i64 0,.int .i64 0,.int .i64 0,.int .i64 0,.int .i64 0,.int .i64 0,.int .i64 0,.int .i64 0,.int .i64 0])).run Tryz.prog w = .ok b w:=by
 obtain ⟨i,hi,-⟩:=(info_parts (by kernel_rfl):∃ i,Tryz.prog.info? 3=some i∧i.zero=some (.int .i64 0)∧i.size=1∧i.bytes=8)
 have hy:∀ j,j < 61→∃ x:Int,(#[.int .i64 0,.int .i64 0,.int .i64 0,.int .i64 0,.int .i64 0,.int .i64 0,.int .i64 0,.int .i64 0,.int .i64 0,.int .i64 0,.int .i64 0,.int .i64 0,.int .i64 0,.int .i64 0,.int .i64 0,.int .i64 0,.int .i64 0,.int .i64 0,.int .i64 0,.int .i64 0,.int .i64 0,.int .i64 0,.int .i64 0,.int .i64 0,.int .i64 0,.int .i64 0,.int .i64 0,.int .i64 0,.int .i64 0,.int .i64 0,.int .i64 0,.int .i64 0,.int .i64 0,.int .i64 0,.int .i64 0,.int .i64 0,.int .i64 0,.int .i64 0,.int .i64 0,.int .i64 0,.int .i64 0,.int .i64 0,.int .i64 0,.int .i64 0,.int .i64 0,.int .i64 0,.int .i64 0,.int .i64 0,.int .i64 0,.int .i64 0,.int .i64 0,.int .i64 0,.int .i64 0,.int .i64 0,.int .i64 0,.int .i64 0,.int .i64 0,.int .i64 0,.int .i64 0,.int .i64 0,.int .i64 0]:Array Value)[j]? = some (.int .i64 x):=fun j hj=>by
  have e:(#[.int .i64 0,.int .i64 0,.int .i64 0,.int .i64 0,.int .i64 0,.int .i64 0,.int .i64 0,.int .i64 0,.int .i64 0,.int .i64 0,.int .i64 0,.int .i64 0,.int .i64 0,.int .i64 0,.int .i64 0,.int .i64 0,.int .i64 0,.int .i64 0,.int .i64 0,.int .i64 0,.int .i64 0,.int .i64 0,.int .i64 0,.int .i64 0,.int .i64 0,.int .i64 0,.int .i64 0,.int .i64 0,.int .i64 0,.int .i64 0,.int .i64 0,.int .i64 0,.int .i64 0,.int .i64 0,.int .i64 0,.int .i64 0,.int .i64 0,.int .i64 0,.int .i64 0,.int .i64 0,.int .i64 0,.int .i64 0,.int .i64 0,.int .i64 0,.int .i64 0,.int .i64 0,.int .i64 0,.int .i64 0,.int .i64 0,.int .i64 0,.int .i64 0,.int .i64 0,.int .i64 0,.int .i64 0,.int .i64 0,.int .i64 0,.int .i64 0,.int .i64 0,.int .i64 0,.int .i64 0,.int .i64 0]:Array Value)=Array.replicate 61 (.int .i64 0):=rfl;rw [e];exact ⟨0,by simp [hj]⟩
 have hc:Tryz.prog.cellsOf 3=1:=by kernel_rfl
 obtain ⟨b,hb⟩:=zw9 _ _ 61 hx hy (List.range 61) (fun j hj=>List.mem_range.1 hj);refine ⟨b,fun w=>?_⟩;rw [run_equalIn_array w 9999 _ _ Tryz.underlying84 hi,hc];exact hb w
theorem zyf (M m:Nat) (ps:List Psn) (pv lv:Value) (l:List Nat) (w:World) (h:zjk M ps) (hp:zf6 w pv ps) (hP:Pnt ps) (hm:m≤30) (hl:IsInts w .i64 lv (zbq l)) (hn:l.length=ps.length)
  (hw:∀ i,(hi:i < ps.length)→ps[i].lo≤l.getD i 0∧l.getD i 0≤ps[i].u) (hc:∀ t,1≤t→cntN l t≤m) :
  Calls Tryz.prog 13 #[.agg #[.int .i64 (M:Int),pv],.int .i64 (m:Int),lv] w fun e w'=>e = .returned (.int .i64 0)∧Ext w w':=by
 obtain ⟨pa,pc,rfl,p1,p2,-⟩:=hp.spec;obtain ⟨la,lc,rfl,l1,l2,-⟩:=hl.spec;rw [zd6,hn] at l1 hl ⊢;have HP:=hid hp;have HV:=hid h;have HPN:=hid hP;have HL:=hid hl;have HN:=hid hn;have HW:=hid hw;have HC:=hid hc;have hn30:=h.n;clear hp h hP hl hn hw hc
 go_enter Tryz.func13,Tryz.ntmps13
 go_wp2_with fail;obtain ⟨W0,hW0⟩:∃ W0,W0=w.alloc (.cells #[.int .i64 (M:Int),.slice pa ps.length pc] 29):=⟨_,rfl⟩
 have hE0:Ext w W0:=by rw [hW0];exact xx
 have b1:W0.cell? ⟨w.heap.size,1,none⟩=some (.slice pa ps.length pc):=by rw [hW0];simp [go_sem]
 rw [← hW0];have HE0:=hid hE0;clear hW0 hE0;refine (z2l M m ps _ W0 HV.out (HP.out.ext HE0.out) hm).mono ?_
 rintro e W1 ⟨q,rfl,hE1,hF⟩;replace b1:=zj hE1 b1;have bz:=World.block_lt_of_cell? _ _ b1;simp only at bz;have HE1:=hid (HE0.out.trans' hE1);have HF:=hid hF;clear hE1 hF HE0;go_wp2_with fail;obtain ⟨Wc,hWc⟩:∃ Wc,Wc=W1.alloc (.cells #[.int .i64 0,.int .i64 0,.int .i64 0,.int .i64 0,.int .i64 0,.int .i64 0,.int .i64 0,.int .i64 0,.int .i64 0,.int .i64 0,.int .i64 0,.int .i64 0,.int .i64 0,.int .i64 0,.int .i64 0,.int .i64 0,.int .i64 0,.int .i64 0,.int .i64 0,.int .i64 0,.int .i64 0,.int .i64 0,.int .i64 0,.int .i64 0,.int .i64 0,.int .i64 0,.int .i64 0,.int .i64 0,.int .i64 0,.int .i64 0,.int .i64 0,.int .i64 0,.int .i64 0,.int .i64 0,.int .i64 0,.int .i64 0,.int .i64 0,.int .i64 0,.int .i64 0,.int .i64 0,.int .i64 0,.int .i64 0,.int .i64 0,.int .i64 0,.int .i64 0,.int .i64 0,.int .i64 0,.int .i64 0,.int .i64 0,.int .i64 0,.int .i64 0,.int .i64 0,.int .i64 0,.int .i64 0,.int .i64 0,.int .i64 0,.int .i64 0,.int .i64 0,.int .i64 0,.int .i64 0,.int .i64 0] 84):=⟨_,rfl⟩
 have hEc:Ext W1 Wc:=by rw [hWc];exact xx
 have hct:zcx Wc W1.heap.size (fun t=>cntN (l.take 0) t):=by
  rw [hWc];refine ⟨_,World.alloc_heap_new _ _,rfl,fun j hj=>?_⟩;have e:(#[.int .i64 0,.int .i64 0,.int .i64 0,.int .i64 0,.int .i64 0,.int .i64 0,.int .i64 0,.int .i64 0,.int .i64 0,.int .i64 0,.int .i64 0,.int .i64 0,.int .i64 0,.int .i64 0,.int .i64 0,.int .i64 0,.int .i64 0,.int .i64 0,.int .i64 0,.int .i64 0,.int .i64 0,.int .i64 0,.int .i64 0,.int .i64 0,.int .i64 0,.int .i64 0,.int .i64 0,.int .i64 0,.int .i64 0,.int .i64 0,.int .i64 0,.int .i64 0,.int .i64 0,.int .i64 0,.int .i64 0,.int .i64 0,.int .i64 0,.int .i64 0,.int .i64 0,.int .i64 0,.int .i64 0,.int .i64 0,.int .i64 0,.int .i64 0,.int .i64 0,.int .i64 0,.int .i64 0,.int .i64 0,.int .i64 0,.int .i64 0,.int .i64 0,.int .i64 0,.int .i64 0,.int .i64 0,.int .i64 0,.int .i64 0,.int .i64 0,.int .i64 0,.int .i64 0,.int .i64 0,.int .i64 0]:Array Value)=Array.replicate 61 (.int .i64 0):=rfl;rw [e];simp [cntN,hj]
 have hbW:W1.heap.size < Wc.heap.size:=hct.lt;rw [← hWc];obtain ⟨N,hNN⟩:∃ N,N=W1.heap.size:=⟨_,rfl⟩
 rw [← hNN] at hct hbW ⊢;have HEC:=hid hEc;have HCT:=hid hct;have HNN:=hid hNN;clear hWc hEc hct hNN
 go_loopw [33] (fun iv W=>∃ i:Nat,i≤ps.length∧iv = .int .i64 i∧Kept (fun b=>b≠N) Wc W∧zcx W N (fun t=>cntN (l.take i) t)) (fun iv _=>ps.length - (intOf iv).toNat)
 case atStart=>exact ⟨0,by omega,rfl,Kept.refl _ _,HCT.out⟩
 case round =>
  obtain ⟨i,hi,rfl,hK,hct⟩:=hrel;obtain ⟨Y,rfl⟩:∃ Y,Y=wr:=⟨_,rfl⟩
  have hKz:=hK.size;have hEY:Ext W1 Y:=Below.trans HEC.out (Kept.below (hK.mono fun b _ h=>by have:=HNN.out;have h:b < W1.heap.size:=h;omega) (by have:=HEC.out.size;omega));have HEY:=hid hEY;have HK:=hid hK;have HCT:=hid hct;have ctz:=hct.lt;have ctf:=hct.fr
  by_cases hlt:i < ps.length
  ·have hii:(i:Int) < (ps.length:Int):=by omega
   obtain ⟨sb,soff,rfl,hcell⟩:=zzy HL.out (i:=i) (by rw [HN.out];exact hlt);have g0:=hcell i (by rw [HN.out];exact hlt) w (Below.refl _ _);replace g0:=zj (HE1.out.trans' hEY) g0;have gz:=World.block_lt_of_cell? _ _ g0;simp only at gz;obtain ⟨x,hx⟩:∃ x,x=l.getD i 0:=⟨_,rfl⟩
   rw [← hx] at g0;obtain ⟨w1,w2⟩:=HW.out i hlt;rw [← hx] at w1 w2;obtain ⟨-,-,hu60,-⟩:=HPN.out _ (List.getElem_mem hlt);have hx61:x < 61:=by omega
   have hxi:(x:Int) < 61:=by omega
   have HX:=hid hx;clear hcell hK hct hEY hx;go_wp2_with fail;refine (zts q M ps _ i Y (HF.out.ext HEY.out) (HP.out.ext (HE1.out.trans' HEY.out)) hlt HPN.out).mono ?_
   rintro e Y2 ⟨rfl,hE2⟩;have HE2:=hid hE2;clear hE2;go_wp2_with fail;refine (zho (ps[i].lo:Nat) (ps[i].u:Nat) _ [(x:Int)] _ (zpt (by simp [go_sem]))).mono ?_
   rintro e Y3 ⟨rfl,hE3⟩;have hall:([(x:Int)].all (wiR (ps[i].lo:Nat) (ps[i].u:Nat)))=true:=by
    simp [wiR];omega
   rw [hall];have hEY3:Ext Y Y3:=HE2.out.trans' (Ext.trans' (by exact xx) hE3);have hc3:=HCT.out.ext hEY3;have k0:=hc3.cell hx61;have kz:=hc3.lt;have kf:=hc3.fr;obtain ⟨c,hcc⟩:∃ c,c=cntN (l.take i) x:=⟨_,rfl⟩
   rw [← hcc] at k0;have hcb:c≤30:=by
    rw [hcc];refine Nat.le_trans List.countP_le_length ?_
    rw [List.length_take];omega
   have HC3:=hid hc3;have HCC:=hid hcc;have HK3:Hid (Kept (fun b=>b≠N) Wc Y3):=hid (HK.out.trans ((Kept.of_below hEY3).mono fun _ _ _=>trivial));clear hall hE3 hEY3 hc3 hcc ctz ctf;go_wp2_with fail;go_roundw
   case rel =>
    refine ⟨i+1,by omega,by go_num,HK3.out.setCell (fun _ h=>h rfl) _,?_⟩;have hs:=HC3.out.set hx61 (c+1);have e:(fun j=>if j=x then c+1 else cntN (l.take i) j)=fun t=>cntN (l.take (i+1)) t:=funext fun t=>by
     have hil:i < l.length:=by rw [HN.out];exact hlt
     have hxl:l[i]=x:=by rw [HX.out,List.getD_eq_getElem?_getD,List.getElem?_eq_getElem hil];rfl
     unfold cntN;rw [List.take_add_one,List.getElem?_eq_getElem hil,List.countP_append,hxl]
     by_cases ht:t=x
     ·subst ht
      rw [if_pos rfl,HCC.out];simp [cntN]
     ·rw [if_neg ht]
      have:(x == t)=false:=beq_false_of_ne fun h=>ht h.symm
      simp [this]
    rw [e] at hs;exact hs
   case measure=>simp [intOf];omega
  ·have hii:¬ (i:Int) < (ps.length:Int):=by omega
   have hin:l.take i=l:=List.take_of_length_le (by have:=HN.out;omega);rw [hin] at HCT hct;have hclr:∀ ty,(Builtin.clear_ #[22] ty #[.slice (some ⟨N,0,none⟩) 1 61]).run Tryz.prog Y = .ok (.tuple #[]) (Y.setCells N 0 (List.replicate 1 (.int .i64 0))):=fun ty =>
    Lib.run_clear_slice _ 22 3 ty (.int .i64 0) (by kernel_rfl) (fun w=>by kernel_rfl) rfl rfl N 0 1 61 (by omega) (fun j hj=>by rw [Nat.zero_add,hct.cell (by omega)];rfl) (fun j hj=>ctf _)
   have h0c:Y.setCells N 0 (List.replicate 1 (.int .i64 0))=Y.setCell ⟨N,0,none⟩ (.int .i64 0):=rfl;rw [h0c] at hclr;obtain ⟨Z,hZ⟩:∃ Z,Z=Y.setCell ⟨N,0,none⟩ (.int .i64 0):=⟨_,rfl⟩
   obtain ⟨F,hF⟩:∃ F:Nat→Nat,F=fun t=>if t=0 then 0 else cntN l t:=⟨_,rfl⟩
   have hcz:zcx Z N F:=by rw [hZ,hF];exact hct.set (by omega) 0
   have hFm:∀ t,F t≤m:=fun t=>by
    rw [hF];show (if t=0 then 0 else cntN l t)≤m
    split
    ·exact Nat.zero_le _
    ·exact HC.out t (by omega)
   rw [← hZ] at hclr;have HKZ:Hid (Kept (fun b=>b≠N) Wc Z):=hid (by rw [hZ];exact HK.out.setCell (fun _ h=>h rfl) _);have HCZ:=hid hcz;have HFM:=hid hFm;have zz:=hcz.lt;clear hin hK hEY hct HCT hZ h0c hcz hF hFm;obtain ⟨cur,hcur,hcs,hcv⟩:=HCZ.out;obtain ⟨bb,hbb⟩:=zab3 cur fun j hj=>⟨_,hcv j hj⟩
   have hsz:(Tryz.prog.info? 84).map (·.size)=some cur.size:=by rw [hcs];kernel_rfl
   have HCUR:=hid hcur;have HSZ:=hid hsz;have HI:Hid (IsInts Z .i64 (.slice (some ⟨N,0,none⟩) 61 61) ((List.range 61).map fun j=>((F j:Nat):Int))):=hid (IsInts.mk (l:=(List.range 61).map fun j=>((F j:Nat):Int)) (off:=0) (by simp) (by omega) fun i hi=>by
    rw [List.length_map,List.length_range] at hi;rw [Nat.zero_add,HCZ.out.cell hi];simp)
   clear hcur hcs hcv hsz;have hEZ:Ext W1 Z:=Below.trans HEC.out (Kept.below (HKZ.out.mono fun b _ h=>by have:=HNN.out;have h:b < W1.heap.size:=h;omega) (by have:=HEC.out.size;omega));have HEZ:=hid (HE1.out.trans' hEZ);clear hEZ;cases bb
   ·go_wp2_with (refine wpList_load_row rfl 84 (.tmp 9) rfl N rfl 84 cur (0,0) _ HCUR.out Tryz.underlying84 rfl HSZ.out ?_)
    have hmx:=z88 _ _ Z HI.out (by simp);obtain ⟨R,hR⟩:∃ R,R=zy8 ((List.range 61).map fun j=>((F j:Nat):Int)):=⟨_,rfl⟩
    rw [← hR] at hmx;have hle:R≤(m:Int):=by
     rw [hR];refine zab2 (by simp) fun x hx=>?_
     obtain ⟨j,-,rfl⟩:=List.mem_map.1 hx;have:=HFM.out j;omega
    clear hR;refine hmx.mono ?_
    rintro e Z2 ⟨rfl,hE2⟩;have HE2:=hid (HEZ.out.trans' hE2);clear hE2;go_wp2_with fail;go_ret;exact ⟨rfl,HE2.out⟩
   ·go_wp2_with (refine wpList_load_row rfl 84 (.tmp 9) rfl N rfl 84 cur (0,0) _ HCUR.out Tryz.underlying84 rfl HSZ.out ?_)
    go_ret;exact ⟨rfl,HEZ.out⟩
end Go.Proofs.YtnfdiohfojjnlaaGreat
