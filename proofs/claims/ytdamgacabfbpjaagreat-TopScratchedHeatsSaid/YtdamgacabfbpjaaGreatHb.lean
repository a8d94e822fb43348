/-
  The walks of finishes and of its iterator: it yields all finishes.
-/
import Derived.Test.YtdamgacabfbpjaaGreatHa
import Derived.Test.YtdamgacabfbpjaaGreatBb
import Derived.Test.YtdamgacabfbpjaaGreatBa
import Derived.Test.YtdamgacabfbpjaaGreatBc
import Derived.Lib.SliceRun
import Derived.Laws.CopyRow
import Derived.Laws.EntriesVeiled
set_option maxRecDepth 200000
set_option maxHeartbeats 0
set_option linter.unusedSimpArgs false
set_option linter.unusedVariables false
namespace Go.Proofs.YtdamgacabfbpjaaGreat
open Go.Lib (hid)
open Go.RowKit Go.Shelf
attribute [local go_sem] Oper.semAt_some
theorem z37 (n:Nat) (a b c d e a' b' c' d' e':Int) (w:World):(Op.equalIn (n+2) 71 (.agg #[.int .i64 a,.int .i64 b,.int .i64 c,.int .i64 d,.int .i64 e]) (.agg #[.int .i64 a',.int .i64 b',.int .i64 c',.int .i64 d',.int .i64 e'])).run Tryz.prog w = .ok (a == a' && (b == b' && (c == c' && (d == d' && e == e')))) w:=by
 have hi:∀ x y:Int,∀ w,(Op.equalIn (n+1) 3 (.int .i64 x) (.int .i64 y)).run Tryz.prog w = .ok (x == y) w:=fun x y w=>run_equalIn_int w n 3 .i64 .i64 x y (by kernel_rfl)
 rw [Op.equalIn];simp only [Sem.run_bind,Tryz.runUnderlying71,Result.andThen_ok];have hr:List.range' 0 5=[0,1,2,3,4]:=rfl
 by_cases e1:a=a'
 ·by_cases e2:b=b'
  ·by_cases e3:c=c'
   ·by_cases e4:d=d'
    ·by_cases e5:e=e'<;>simp [go_sem,hi,e1,e2,e3,e4,e5,hr]
    ·simp [go_sem,hi,e1,e2,e3,e4,hr]
   ·simp [go_sem,hi,e1,e2,e3,hr]
  ·simp [go_sem,hi,e1,e2,hr]
 ·simp [go_sem,hi,e1,hr]
theorem zaga {f g:List Int} {n:Nat} (hn:n≤5) (hf:f.length=n) (hg:g.length=n):(pl f 0 == pl g 0 && (pl f 1 == pl g 1 && (pl f 2 == pl g 2 && (pl f 3 == pl g 3 && pl f 4 == pl g 4))))=decide (f=g):=by
 have key:(pl f 0=pl g 0∧pl f 1=pl g 1∧pl f 2=pl g 2∧pl f 3=pl g 3∧pl f 4=pl g 4)↔f=g:=by
  constructor
  ·rintro ⟨h0,h1,h2,h3,h4⟩
   refine z3z hf hg fun i hi=>?_
   have hi5:i < 5:=by omega
   match i,hi5 with
   | 0,_=>exact h0
   | 1,_=>exact h1
   | 2,_=>exact h2
   | 3,_=>exact h3
   | 4,_=>exact h4
  ·rintro rfl;exact ⟨rfl,rfl,rfl,rfl,rfl⟩
 rw [Bool.eq_iff_iff];simp only [Bool.and_eq_true,beq_iff_eq,decide_eq_true_eq];exact key
theorem zzz {f g:List Int} {n:Nat} (hn:n≤5) (hf:f.length=n) (hg:g.length=n) (w:World):(Op.equalIn 10000 71 (zfd f) (zfd g)).run Tryz.prog w = .ok (decide (f=g)) w:=by
 have h:=z37 9998 (pl f 0) (pl f 1) (pl f 2) (pl f 3) (pl f 4) (pl g 0) (pl g 1) (pl g 2) (pl g 3) (pl g 4) w;rw [zaga hn hf hg] at h;exact h
theorem zq2 (p:Nat) (w:World) :
  Calls Tryz.prog 28 #[.pointer (some ⟨p,0,none⟩)] w fun e w'=>e = .returned (.func (.func 62) #[] #[.pointer (some ⟨w.heap.size,0,none⟩)]) ∧
   Ext w w'∧w'.cell? ⟨w.heap.size,0,none⟩=some (.pointer (some ⟨p,0,none⟩))∧w'.heap.size=w.heap.size+1:=by
 go_enter Tryz.func28,Tryz.ntmps28
 go_wp2
 go_ret;exact ⟨rfl,by exact xx,by simp [go_sem],by simp⟩
def z1j (w:World) (g n:Nat):List Int:=(List.range n).map fun j=>intOf ((w.cell? ⟨g,j,none⟩).getD undef)
theorem zqt {w:World} {g n:Nat} {f:List Int} (h:A5 w g (pl f)) (hn:n≤5) (hf:f.length=n):z1j w g n=f:=by
 refine z3z (by simp [z1j]) hf fun i hi=>?_
 unfold z1j;have e:pl ((List.range n).map fun j=>intOf ((w.cell? ⟨g,j,none⟩).getD undef)) i=intOf ((w.cell? ⟨g,i,none⟩).getD undef):=by
  unfold pl;rw [List.getD_eq_getElem?_getD,List.getElem?_map,List.getElem?_range hi];rfl
 rw [e,h.cell i (by omega)];rfl
theorem zpe {f:List Int} {i j:Nat} {x:Int} (hi:i < f.length):pl (f.set i x) j=if j=i then x else pl f j:=by
 unfold pl;rw [List.getD_eq_getElem?_getD,List.getD_eq_getElem?_getD,List.getElem?_set]
 by_cases e:i=j
 ·subst e;rw [if_pos rfl,if_pos hi,if_pos rfl];rfl
 ·rw [if_neg e,if_neg (fun h=>e h.symm)]
theorem zxa (n p bt:Nat) (R:Nat→Prop) (w0:World) (hn1:2≤n) (hn5:n≤5) (hR:∀ k,R k→k < w0.heap.size)
  (hM:∀ W,Kept R w0 W→W.cell? ⟨bt,0,none⟩=some (.pointer (some ⟨p,0,none⟩))∧W.cell? ⟨p,0,none⟩=some (.int .i64 n)) :
  Iter Tryz.prog 62 #[.pointer (some ⟨bt,0,none⟩)] (fun x:List Int=>#[zfd x]) R (fun xs=>xs=zgt n) (fun _=>True) (fun pre x=>∃ rest,zgt n=pre ++ x :: rest) w0:=by
 intro n0 l J Jx W hW hJ hJx hY h0;have hk0:Kept R w0 W:=(Kept.of_below hW).mono fun k hk _=>trivial
 have HMM:=hid hM;have HK0:=hid hk0;have HR0:=hid hR;obtain ⟨ct,cp⟩:=hM W hk0;have hzt:=World.block_lt_of_cell? _ _ ct;have hzp:=World.block_lt_of_cell? _ _ cp;simp only at hzt hzp;have HJ:=hid hJ;have HY:=hid hY;have HH0:=hid h0;have hs0:=hW.size;refine callsIn_of_wp Tryz.func62 rfl trivial ?_ rfl;simp only [Tryz.ntmps62,List.size_toArray,List.length_cons,List.length_nil,Nat.reduceAdd,Nat.reduceSub,Array.replicate_succ,Array.replicate_zero,List.push_toArray,List.append_toArray,List.nil_append,List.cons_append];clear hJ hJx hY h0 hW hM hk0 hR;gi_wp2_with fail;obtain ⟨W1,hW1⟩:∃ W1,W1=W.alloc (.cells #[.int .i64 0,.int .i64 0,.int .i64 0,.int .i64 0,.int .i64 0] 71):=⟨_,rfl⟩
 have hE1:Ext W W1:=by rw [hW1];exact xx
 obtain ⟨g,hg⟩:∃ g,g=W.heap.size:=⟨_,rfl⟩
 have hA1:A5 W1 g (fun j=>if j < 0 then 1 else 0):=by
  have h1:=A5.new W 0 0 0 0 0;rw [← hW1,← hg] at h1;refine h1.congr fun j hj=>?_
  rw [if_neg (by omega)]
  match j,hj with
  | 0,_=>rfl
  | 1,_=>rfl
  | 2,_=>rfl
  | 3,_=>rfl
  | 4,_=>rfl
 rw [← hg,← hW1];have ct1:=zd hE1 ct;have cp1:=zd hE1 cp;have hgw:w0.heap.size≤g:=by omega
 have HA1:=hid hA1;have HK1:=hid ((Kept.of_below hE1).mono (T:=R) fun k _ _=>trivial:Kept R W W1);have HJ1:=hid (HJ.out [] (fun _=>False) (fun k=>k=g) W W1 HH0.out ((Kept.of_below hE1).mono fun k _ _=>trivial) (fun _ h=>h.elim) (fun k hk=>.inr ⟨by rw [hk,hg];exact Nat.le_refl _,by rw [hk];exact hA1.lt⟩));have hpg:p≠g:=by omega
 have HW0:=hid hgw;have hgR:∀ k,R k→k≠g:=fun k hk=>by have:=HR0.out k hk;omega
 have HGR:=hid hgR;clear hW1 hE1 hA1 hg ct cp hzt hzp HH0 hgw hgR hs0;gi_wp2_with fail
 gi_loopw [11] (fun iv wr=>∃ i:Nat,i≤n∧iv = .int .i64 i∧A5 wr g (fun j=>if j < i then 1 else 0)∧J (fun k=>k=g) [] wr∧Kept R W wr) (fun iv _=>n - (intOf iv).toNat)
 case atStart=>exact ⟨0,by omega,rfl,HA1.out,HJ1.out,HK1.out⟩
 case round =>
  obtain ⟨i,hi,rfl,hA,hj,hK⟩:=hrel;have HA2:=hid hA;have HJ2:=hid hj;have HK2:=hid hK
  by_cases hlt:i < n
  ·have hii:(i:Int) < (n:Int):=by omega
   have ci:=hA.cell i (by omega);have hfr:=hA.free i;have hgl:=hA.lt;have hi5:i < 5:=by omega
   clear hA hj hK;gi_wp2_with fail;go_roundw
   case rel =>
    refine ⟨i+1,by omega,by go_num,(HA2.out.set i 1).congr fun j hj5=>?_,(HJ.out []).setCell HJ2.out (p:=⟨g,i,none⟩) rfl _,HK2.out.setCell (fun _ h=>HGR.out _ h rfl) _⟩;show (if j=i then (1:Int) else if j < i then 1 else 0)=if j < i+1 then 1 else 0
    by_cases e:j=i
    ·rw [if_pos e,if_pos (by omega)]
    ·rw [if_neg e]
     by_cases e2:j < i
     ·rw [if_pos e2,if_pos (by omega)]
     ·rw [if_neg e2,if_neg (by omega)]
   case measure=>simp [intOf];omega
  ·have hii:¬ ((i:Int) < (n:Int)):=by omega
   obtain rfl:n=i:=by omega
   have hA0:A5 wr g (pl (zb9 n n 0)):=hA.congr fun j hj5=>by
    rw [zw7 (by omega)];unfold pl;rw [List.getD_eq_getElem?_getD]
    by_cases e:j < n
    ·rw [if_pos e,List.getElem?_replicate,if_pos e];rfl
    ·rw [if_neg e,List.getElem?_replicate,if_neg e];rfl
   have HA0:=hid hA0;clear hA hj hK hA0 HA2 HA1 HJ1 HK1 hi;gi_wp2_with fail
   gi_loopw [] (fun wr=>∃ m:Nat,m < n ^ n∧A5 wr g (pl (zb9 n n m))∧J (fun k=>k=g) (zb5 n m) wr∧Kept R W wr) (fun wr=>n ^ n - z8q n (z1j wr g n))
   case atStart=>exact ⟨0,Nat.pow_pos (by omega),HA0.out,HJ2.out,HK2.out⟩
   case round =>
    obtain ⟨m,hm,hA,hj,hK⟩:=hrel;obtain ⟨Wm,rfl⟩:∃ Wm,Wm=wr:=⟨_,rfl⟩
    clear HA0 HJ2 HK2;have hA':=hA;obtain ⟨D,hD⟩:∃ D,D=zb9 n n m:=⟨_,rfl⟩
    have hDl:D.length=n:=by rw [hD,zca]
    rw [← hD] at hA;obtain ⟨c0,c1,c2,c3,c4⟩:=hA.five;obtain ⟨kt,kp⟩:=HMM.out Wm (HK0.out.trans hK);have hgl:=hA.lt;have hfr:=hA.free;have hzt:=World.block_lt_of_cell? _ _ kt;have hzp:=World.block_lt_of_cell? _ _ kp;simp only at hzt hzp;have HAr:=hid hA';have HJr:=hid hj;have HKr:=hid hK;have HD:=hid hD;have HM:=hid hm;obtain ⟨E,hE0⟩:∃ E,E=zfc n D:=⟨_,rfl⟩
    have hEq:∀ W,(Op.equalIn 10000 71 (.agg #[.int .i64 (pl D 0),.int .i64 (pl D 1),.int .i64 (pl D 2),.int .i64 (pl D 3),.int .i64 (pl D 4)]) (.agg #[.int .i64 (pl E 0),.int .i64 (pl E 1),.int .i64 (pl E 2),.int .i64 (pl E 3),.int .i64 (pl E 4)])).run Tryz.prog W = .ok (zba n D) W:=fun W=>by rw [hE0];exact zzz hn5 hDl (zjh n D) W
    have hRK:∀ W,Ext Wm W→Calls Tryz.prog 26 #[.pointer (some ⟨p,0,none⟩),.agg #[.int .i64 (pl D 0),.int .i64 (pl D 1),.int .i64 (pl D 2),.int .i64 (pl D 3),.int .i64 (pl D 4)]] W fun e w'=>e = .returned (.agg #[.int .i64 (pl E 0),.int .i64 (pl E 1),.int .i64 (pl E 2),.int .i64 (pl E 3),.int .i64 (pl E 4)])∧Ext W w':=fun W hW=>by rw [hE0];exact zw9 p n D W (zd hW kp) hn5
    have HRK:=hid hRK;clear hRK hE0;clear hA hA' hj hK hD hm;cases hfin:zba n D
    ·rw [hfin] at hEq
     have HFN:=hid hfin;clear hfin;gi_wp2_with fail;refine zgu 11 rfl (by kernel_rfl) (Wm.heap.size) (Nat.le_refl _)
      [sqV (.agg #[.int .i64 (pl D 0),.int .i64 (pl D 1),.int .i64 (pl D 2),.int .i64 (pl D 3),.int .i64 (pl D 4)]),sqV (.pointer (some ⟨p,0,none⟩)),sqV (.agg #[.int .i64 (pl D 0),.int .i64 (pl D 1),.int .i64 (pl D 2),.int .i64 (pl D 3),.int .i64 (pl D 4)]),sqV (.agg #[.int .i64 (pl E 0),.int .i64 (pl E 1),.int .i64 (pl E 2),.int .i64 (pl E 3),.int .i64 (pl E 4)]),sqV (.bool false),sqV (.bool false),sqV undef,sqV undef,sqV undef,sqV undef,sqV (.bool false)]
      [true,true,true,true,true,true,true,true,true,true,true] [false,false,false,false,false,false,false,false,false,false,false] [true,true,true,true,true,true,true,true,true,true,true] [true,true,true,true,true,true,true,true,true,true,true] [true,true,true,true,true,true,false,false,false,false,true] [none,none,none,none,some false,some false,none,none,none,none,some false]
      (by kernel_rfl) (by kernel_rfl) (by decide +kernel) ⟨fun _ _ _ h=>h,⟨fun _ _ _ h=>h,⟨fun _ _ _ h=>h,trivial⟩⟩⟩ (by decide +kernel) (by decide +kernel) (by decide +kernel) rfl ⟨rfl,rfl,rfl⟩ ⟨?s0,?s1,?s2,?s3,?s4,?s5,?s6,?s7,?s8,?s9,?s10,trivial⟩ [some 17,some 18,some 19,some 20,some 21,some 22,some 23,some 24,some 25,some 26,some 27] rfl rfl ?send
     case s0 =>
      intro val ρ W hE hz hd hu hA hx;have o0:ρ (.tmp 3) = .pointer (some ⟨g,0,none⟩):=hA.old 3 (by decide);have f_c0:=cell_below hE (by simp only;omega) c0;have f_c1:=cell_below hE (by simp only;omega) c1;have f_c2:=cell_below hE (by simp only;omega) c2;have f_c3:=cell_below hE (by simp only;omega) c3;have f_c4:=cell_below hE (by simp only;omega) c4;clear hd hu;exact ze (W':=W) (by simp [execOp,o0,f_c0,f_c1,f_c2,f_c3,f_c4,go_sem]) (Below.refl _ _) rfl
     case s1 =>
      intro val ρ W hE hz hd hu hA hx;have o0:ρ (.tmp 1) = .pointer (some ⟨bt,0,none⟩):=hA.old 1 (by decide);have f_kt:=cell_below hE (by simp only;omega) kt;clear hd hu;exact ze (W':=W) (by simp [execOp,o0,f_kt,go_sem]) (Below.refl _ _) rfl
     case s2 =>
      intro val ρ W hE hz hd hu hA hx;have o0:ρ (.tmp 3) = .pointer (some ⟨g,0,none⟩):=hA.old 3 (by decide);have f_c0:=cell_below hE (by simp only;omega) c0;have f_c1:=cell_below hE (by simp only;omega) c1;have f_c2:=cell_below hE (by simp only;omega) c2;have f_c3:=cell_below hE (by simp only;omega) c3;have f_c4:=cell_below hE (by simp only;omega) c4;clear hd hu;exact ze (W':=W) (by simp [execOp,o0,f_c0,f_c1,f_c2,f_c3,f_c4,go_sem]) (Below.refl _ _) rfl
     case s3 =>
      intro val ρ W hE hz hd hu hA hx;have d1:ρ (.tmp 18) = .pointer (some ⟨p,0,none⟩):=(hA.dep 1 (by decide) 18 rfl).trans (hd 1 (by decide));have d2:ρ (.tmp 19) = .agg #[.int .i64 (pl D 0),.int .i64 (pl D 1),.int .i64 (pl D 2),.int .i64 (pl D 3),.int .i64 (pl D 4)]:=(hA.dep 2 (by decide) 19 rfl).trans (hd 2 (by decide));clear hd hu;refine zdm 26 _ _ rfl #[.pointer (some ⟨p,0,none⟩),.agg #[.int .i64 (pl D 0),.int .i64 (pl D 1),.int .i64 (pl D 2),.int .i64 (pl D 3),.int .i64 (pl D 4)]] (hA.func _) (by simp [d1,d2]) (fun args W=>Tryz.call26 args W) ((HRK.out W hE).mono ?_);rintro e w' ⟨rfl,hb⟩;exact ⟨_,rfl,hb,rfl⟩
     case s4 =>
      intro val ρ W hE hz hd hu hA hx;have d0:ρ (.tmp 17) = .agg #[.int .i64 (pl D 0),.int .i64 (pl D 1),.int .i64 (pl D 2),.int .i64 (pl D 3),.int .i64 (pl D 4)]:=(hA.dep 0 (by decide) 17 rfl).trans (hd 0 (by decide));have d3:ρ (.tmp 20) = .agg #[.int .i64 (pl E 0),.int .i64 (pl E 1),.int .i64 (pl E 2),.int .i64 (pl E 3),.int .i64 (pl E 4)]:=(hA.dep 3 (by decide) 20 rfl).trans (hd 3 (by decide));clear hd hu;exact ze (W':=W) (by simp [execOp,d0,d3,hEq,go_sem]) (Below.refl _ _) rfl
     case s5 =>
      intro val ρ W hE hz hd hu hA hx;have d4:ρ (.tmp 21) = .bool false:=(hA.dep 4 (by decide) 21 rfl).trans (hd 4 (by decide));clear hd hu;exact ze (W':=W) (by simp [execOp,d4,go_sem]) (Below.refl _ _) rfl
     case s6=>exact ⟨fun _ _=>rfl,fun _ _ _ h=>h⟩
     case s7=>exact ⟨fun _ _=>rfl,fun _ _ _ h=>h⟩
     case s8=>exact ⟨fun _ _=>rfl,fun _ _ _ h=>h⟩
     case s9=>exact ⟨fun _ _=>rfl,fun _ _ _ h=>h⟩
     case s10 =>
      intro val ρ W hE hz hd hu hA hx;have d5:ρ (.tmp 22) = .bool false:=(hA.dep 5 (by decide) 22 rfl).trans (hd 5 (by decide));clear hd hu;exact ze (W':=W) (by simp [execOp,hA.const,d5,go_sem]) (Below.refl _ _) rfl
     case send =>
      intro val WW hE hzz hv;obtain ⟨-,-,-,-,-,-,-,-,-,-,r10,-⟩:=hv;have r10':val 10 = .bool false:=r10;simp only [zbq,r10'];go_frame;have HAn:Hid (A5 WW g (pl (zb9 n n m))):=hid (HAr.out.of_heap (hE.block _ hgl));have HJn:Hid (J (fun k=>k=g) (zb5 n (m+1)) WW):=hid (by
       rw [zlf,← HD.out,if_neg (by rw [HFN.out];simp),List.append_nil];exact (HJ.out _).ext HJr.out hE)
      have HKn:Hid (Kept R W WW):=hid (HKr.out.trans ((Kept.of_below hE).mono fun _ _ _=>trivial));clear r10 r10' hE hzz hEq c0 c1 c2 c3 c4 kt kp hgl hfr hzt hzp HJr HKr HRK HFN;obtain ⟨kt,kp⟩:=HMM.out WW (HK0.out.trans HKn.out);have hzt:=World.block_lt_of_cell? _ _ kt;have hzp:=World.block_lt_of_cell? _ _ kp;simp only at hzt hzp;have hws:IntKind.i64.wrap ((n:Int) - 1)=(n:Int) - 1:=IntWalk.i64_in _ (by omega)
      try simp only [List.drop,wpListIn,Exit.then]
      gi_wp2_with fail
      gi_loopw [5] (fun iv wr=>∃ t:Nat,t≤n∧iv = .int .i64 ((n:Int) - 1 - t)∧A5 wr g (pl (zc1 n m t))∧m % n ^ t=n ^ t - 1∧J (fun k=>k=g) (zb5 n (m+1)) wr∧Kept R W wr) (fun iv _=>(intOf iv+1).toNat)
      case atStart=>exact ⟨0,by omega,by simp,by rw [zw6];exact HAn.out,by simp [Nat.mod_one],HJn.out,HKn.out⟩
      case round =>
       obtain ⟨t,ht,rfl,hA,hfull,hj,hK⟩:=hrel;obtain ⟨kt,kp⟩:=HMM.out wr (HK0.out.trans hK);have hzt:=World.block_lt_of_cell? _ _ kt;have hzp:=World.block_lt_of_cell? _ _ kp;simp only at hzt hzp;have HAt:=hid hA;have HFt:=hid hfull;have HJt:=hid hj;have HKt:=hid hK
       by_cases hlt:t < n
       ·obtain ⟨q,hq⟩:∃ q,q=n - 1 - t:=⟨_,rfl⟩
        have hqi:(n:Int) - 1 - t=(q:Int):=by omega
        rw [hqi];have cq:=hA.cell q (by omega);rw [hq,z32 hlt,← hq] at cq;have hfr:=hA.free q;have hgl:=hA.lt;have hq5:q < 5:=by omega
        have hq0:decide ((0:Int)≤(q:Int))=true:=by rw [decide_eq_true_eq];omega
        obtain ⟨d,hd⟩:∃ d,d=dig n m t:=⟨_,rfl⟩
        rw [← hd] at cq;have hdn:d < n:=by rw [hd];exact Nat.mod_lt _ (by omega)
        have HQ:=hid hq;have HDg:=hid hd;have HQI:=hid hqi;have HLT:=hid hlt;clear hA hfull hj hK hq hd hqi
        by_cases hdd:d=n - 1
        ·have hde:(1+(d:Int) == (n:Int))=true:=by rw [beq_iff_eq];omega
         have HDD:=hid hdd;clear hdd;gi_wp2_with fail;refine wpIn_wide.2 ?_
         go_quiet (fail)
         gi_wp2_with fail;go_roundw
         case rel =>
          have hql:q < (zc1 n m t).length:=by rw [zhu (by have:=HLT.out;omega)];have h7:=HQ.out;have h8:=HLT.out;omega
          have hA2:=((HAt.out.of_heap (W':=wr.drewN nq) rfl).set q 1).congr (f':=pl (zc1 n m (t+1))) fun j _=>by
           rw [← zzy HLT.out,← HQ.out,zpe hql]
          refine ⟨t+1,by have:=HLT.out;omega,by have h9:=HQI.out;rw [show (q:Int) - 1=(n:Int) - 1 - ((t+1:Nat):Int) by omega],hA2,zzx (by omega) HFt.out (by rw [← HDg.out];exact HDD.out),(HJ.out _).setCell (p:=⟨g,q,none⟩) ((HJ.out _).ext HJt.out (Ext.drN (Below.refl _ wr) nq)) rfl _,(HKt.out.drN _).setCell (fun _ h=>HGR.out _ h rfl) _⟩
         case measure=>first | (simp [intOf];done) | (simp [intOf];omega)
        ·have hde:(1+(d:Int) == (n:Int))=false:=by rw [beq_eq_false_iff_ne];omega
         have HDD:=hid hdd;have hq0':decide ((q:Int) < 0)=false:=by rw [decide_eq_false_iff_not];omega
         have hws2:IntKind.i64.wrap (1+(d:Int)+1)=1+(d:Int)+1:=IntWalk.i64_in _ (by omega);clear hdd;gi_wp2_with fail;refine wpIn_wide.2 ?_
         go_quiet (fail)
         gi_wp2_with fail;go_roundw
         case rel =>
          have hql:q < (zc1 n m t).length:=by rw [zhu (by have:=HLT.out;omega)];have h7:=HQ.out;have h8:=HLT.out;omega
          have hA2:=((HAt.out.of_heap (W':=wr.drewN nq) rfl).set q (1+(d:Int)+1)).congr (f':=pl (zb9 n n (m+1))) fun j _=>by
           rw [← zl8 (by omega) HLT.out HFt.out (by rw [← HDg.out];exact HDD.out),← HQ.out,zpe hql,← HDg.out,show (2+(d:Int))=1+(d:Int)+1 by omega]
          have hm1:=zqo (by omega) HLT.out HM.out (by rw [← HDg.out];exact HDD.out);exact ⟨m+1,hm1,hA2,(HJ.out _).setCell (p:=⟨g,q,none⟩) ((HJ.out _).ext HJt.out (Ext.drN (Below.refl _ wr) nq)) rfl _,(HKt.out.drN _).setCell (fun _ h=>HGR.out _ h rfl) _⟩
         case measure =>
          have hql:q < (zc1 n m t).length:=by rw [zhu (by have:=HLT.out;omega)];have h7:=HQ.out;have h8:=HLT.out;omega
          have hA2:=((HAt.out.of_heap (W':=wr.drewN nq) rfl).set q (1+(d:Int)+1)).congr (f':=pl (zb9 n n (m+1))) fun j _=>by
           rw [← zl8 (by omega) HLT.out HFt.out (by rw [← HDg.out];exact HDD.out),← HQ.out,zpe hql,← HDg.out,show (2+(d:Int))=1+(d:Int)+1 by omega]
          have hm1:=zqo (by omega) HLT.out HM.out (by rw [← HDg.out];exact HDD.out);rw [zqt hA2 hn5 (zca n n _),zqt HAr.out hn5 (zca n n _),zib (by omega) hm1,zib (by omega) HM.out];have:=HM.out;omega
       ·have hte:t=n:=by omega
        have hqi:(n:Int) - 1 - t = -1:=by omega
        rw [hqi];have hq0:decide ((0:Int)≤-1)=false:=by decide
        have HTE:=hid hte;clear hte;gi_wp2_with fail;refine wpIn_wide.2 ?_
        go_quiet (fail)
        gi_wp2_with fail;refine bodyPost_ret (results_none rfl _ _ _) rfl ?_
        have hlast:=z33 HM.out (by have h9:=HFt.out;rw [HTE.out] at h9;exact h9);exact ⟨⟨_,rfl⟩,.inl ⟨_,zb5 n (m+1),by rw [hlast];rfl,(HJ.out _).ext HJt.out (Ext.drN (Below.refl _ wr) nq)⟩⟩
    ·rw [hfin] at hEq
     have HFN:=hid hfin;clear hfin;gi_wp2_with fail;refine zgu 8 rfl (by kernel_rfl) (Wm.heap.size) (Nat.le_refl _)
      [sqV (.agg #[.int .i64 (pl D 0),.int .i64 (pl D 1),.int .i64 (pl D 2),.int .i64 (pl D 3),.int .i64 (pl D 4)]),sqV (.pointer (some ⟨p,0,none⟩)),sqV (.agg #[.int .i64 (pl D 0),.int .i64 (pl D 1),.int .i64 (pl D 2),.int .i64 (pl D 3),.int .i64 (pl D 4)]),sqV (.agg #[.int .i64 (pl E 0),.int .i64 (pl E 1),.int .i64 (pl E 2),.int .i64 (pl E 3),.int .i64 (pl E 4)]),sqV (.bool true),sqV (.bool true),sqV (.func (.yield l) #[] #[]),sqV (.agg #[.int .i64 (pl D 0),.int .i64 (pl D 1),.int .i64 (pl D 2),.int .i64 (pl D 3),.int .i64 (pl D 4)])]
      [true,true,true,true,true,true,true,true] [false,false,false,false,false,false,false,false] [true,true,true,true,true,true,true,true] [true,true,true,true,true,true,true,true] [true,true,true,true,true,true,true,true] [none,none,none,none,some true,some true]
      (by kernel_rfl) (by kernel_rfl) (by decide +kernel) ⟨fun _ _ _ h=>h,⟨fun _ _ _ h=>h,trivial⟩⟩ (by decide +kernel) (by decide +kernel) (by decide +kernel) rfl ⟨rfl,rfl,rfl⟩ ⟨?s0,?s1,?s2,?s3,?s4,?s5,?s6,?s7,trivial⟩ [some 17,some 18,some 19,some 20,some 21,some 22,some 23,some 24] rfl rfl ?send
     case s0 =>
      intro val ρ W hE hz hd hu hA hx;have o0:ρ (.tmp 3) = .pointer (some ⟨g,0,none⟩):=hA.old 3 (by decide);have f_c0:=cell_below hE (by simp only;omega) c0;have f_c1:=cell_below hE (by simp only;omega) c1;have f_c2:=cell_below hE (by simp only;omega) c2;have f_c3:=cell_below hE (by simp only;omega) c3;have f_c4:=cell_below hE (by simp only;omega) c4;clear hd hu;exact ze (W':=W) (by simp [execOp,o0,f_c0,f_c1,f_c2,f_c3,f_c4,go_sem]) (Below.refl _ _) rfl
     case s1 =>
      intro val ρ W hE hz hd hu hA hx;have o0:ρ (.tmp 1) = .pointer (some ⟨bt,0,none⟩):=hA.old 1 (by decide);have f_kt:=cell_below hE (by simp only;omega) kt;clear hd hu;exact ze (W':=W) (by simp [execOp,o0,f_kt,go_sem]) (Below.refl _ _) rfl
     case s2 =>
      intro val ρ W hE hz hd hu hA hx;have o0:ρ (.tmp 3) = .pointer (some ⟨g,0,none⟩):=hA.old 3 (by decide);have f_c0:=cell_below hE (by simp only;omega) c0;have f_c1:=cell_below hE (by simp only;omega) c1;have f_c2:=cell_below hE (by simp only;omega) c2;have f_c3:=cell_below hE (by simp only;omega) c3;have f_c4:=cell_below hE (by simp only;omega) c4;clear hd hu;exact ze (W':=W) (by simp [execOp,o0,f_c0,f_c1,f_c2,f_c3,f_c4,go_sem]) (Below.refl _ _) rfl
     case s3 =>
      intro val ρ W hE hz hd hu hA hx;have d1:ρ (.tmp 18) = .pointer (some ⟨p,0,none⟩):=(hA.dep 1 (by decide) 18 rfl).trans (hd 1 (by decide));have d2:ρ (.tmp 19) = .agg #[.int .i64 (pl D 0),.int .i64 (pl D 1),.int .i64 (pl D 2),.int .i64 (pl D 3),.int .i64 (pl D 4)]:=(hA.dep 2 (by decide) 19 rfl).trans (hd 2 (by decide));clear hd hu;refine zdm 26 _ _ rfl #[.pointer (some ⟨p,0,none⟩),.agg #[.int .i64 (pl D 0),.int .i64 (pl D 1),.int .i64 (pl D 2),.int .i64 (pl D 3),.int .i64 (pl D 4)]] (hA.func _) (by simp [d1,d2]) (fun args W=>Tryz.call26 args W) ((HRK.out W hE).mono ?_);rintro e w' ⟨rfl,hb⟩;exact ⟨_,rfl,hb,rfl⟩
     case s4 =>
      intro val ρ W hE hz hd hu hA hx;have d0:ρ (.tmp 17) = .agg #[.int .i64 (pl D 0),.int .i64 (pl D 1),.int .i64 (pl D 2),.int .i64 (pl D 3),.int .i64 (pl D 4)]:=(hA.dep 0 (by decide) 17 rfl).trans (hd 0 (by decide));have d3:ρ (.tmp 20) = .agg #[.int .i64 (pl E 0),.int .i64 (pl E 1),.int .i64 (pl E 2),.int .i64 (pl E 3),.int .i64 (pl E 4)]:=(hA.dep 3 (by decide) 20 rfl).trans (hd 3 (by decide));clear hd hu;exact ze (W':=W) (by simp [execOp,d0,d3,hEq,go_sem]) (Below.refl _ _) rfl
     case s5 =>
      intro val ρ W hE hz hd hu hA hx;have d4:ρ (.tmp 21) = .bool true:=(hA.dep 4 (by decide) 21 rfl).trans (hd 4 (by decide));clear hd hu;exact ze (W':=W) (by simp [execOp,d4,go_sem]) (Below.refl _ _) rfl
     case s6 =>
      intro val ρ W hE hz hd hu hA hx;have o0:ρ (.tmp 0) = .func (.yield l) #[] #[]:=hA.old 0 (by decide);clear hd hu;exact ze (W':=W) (by simp [execOp,o0,go_sem]) (Below.refl _ _) rfl
     case s7 =>
      intro val ρ W hE hz hd hu hA hx;have o0:ρ (.tmp 3) = .pointer (some ⟨g,0,none⟩):=hA.old 3 (by decide);have f_c0:=cell_below hE (by simp only;omega) c0;have f_c1:=cell_below hE (by simp only;omega) c1;have f_c2:=cell_below hE (by simp only;omega) c2;have f_c3:=cell_below hE (by simp only;omega) c3;have f_c4:=cell_below hE (by simp only;omega) c4;clear hd hu;exact ze (W':=W) (by simp [execOp,o0,f_c0,f_c1,f_c2,f_c3,f_c4,go_sem]) (Below.refl _ _) rfl
     case send =>
      intro val WW hE hzz;generalize hG:wpListIn _ _ _ _ _ _ _ _=G;intro hv;obtain ⟨-,-,-,-,-,r5,r6,r7,-⟩:=hv;have r5':val 5 = .bool true:=r5;have r6':val 6 = .func (.yield l) #[] #[]:=r6;have r7':val 7 = .agg #[.int .i64 (pl D 0),.int .i64 (pl D 1),.int .i64 (pl D 2),.int .i64 (pl D 3),.int .i64 (pl D 4)]:=r7;subst hG;simp only [zbq,r5',r6',r7'];go_frame;have hpre:∃ rest,zgt n=zb5 n m ++ D :: rest:=by
       obtain ⟨rest,hr⟩:=z4y n (k:=m+1) (m:=n ^ n) (Nat.succ_le_of_lt HM.out);exact ⟨rest,by unfold zgt;rw [hr,zlf,← HD.out,if_pos HFN.out,List.append_assoc];rfl⟩
      have hy:=HY.out (fun k=>k=g) (zb5 n m) D WW ((HJ.out _).ext HJr.out hE) hpre;have HAw:Hid (A5 WW g (pl (zb9 n n m))):=hid (HAr.out.of_heap (hE.block _ hgl));have HKw:Hid (Kept R W WW):=hid (HKr.out.trans ((Kept.of_below hE).mono fun _ _ _=>trivial));have HPP:Hid (zb5 n (m+1)=zb5 n m ++ [D]):=hid (by rw [zlf,← HD.out,if_pos HFN.out]);clear r5 r5' r6 r6' r7 r7' hE hzz hEq c0 c1 c2 c3 c4 kt kp hgl hfr hzt hzp HJr HKr HRK HFN hpre;obtain ⟨fn,tmps,assign,body,hy,hR2⟩:=hy;have hy:(Instr.yield l #[.agg #[.int .i64 (pl D 0),.int .i64 (pl D 1),.int .i64 (pl D 2),.int .i64 (pl D 3),.int .i64 (pl D 4)]]).run Tryz.prog WW = .ok (.round l fn tmps assign body) WW:=hy;simp only [List.drop];gi_wp2_with fail;refine ⟨fun h=>(by simp [Fence.wide] at h),hR2.mono ?_⟩;clear hy hR2;rintro e WX (⟨rfl,hj6,hk6⟩ | ⟨rfl,hj6⟩)
      ·obtain ⟨WW,rfl⟩:∃ WW,WW=WX:=⟨_,rfl⟩
       have HAn:Hid (A5 WW g (pl (zb9 n n m))):=hid (HAw.out.of_heap (hk6.same _ HAw.out.lt (.inr rfl)));have HJn:Hid (J (fun k=>k=g) (zb5 n (m+1)) WW):=hid (by rw [HPP.out];exact hj6);have HKn:Hid (Kept R W WW):=hid (HKw.out.trans (hk6.mono fun _ _ h=>.inl h));clear hj6 hk6 HAw HKw HPP;obtain ⟨kt,kp⟩:=HMM.out WW (HK0.out.trans HKn.out);have hzt:=World.block_lt_of_cell? _ _ kt;have hzp:=World.block_lt_of_cell? _ _ kp;simp only at hzt hzp;have hws:IntKind.i64.wrap ((n:Int) - 1)=(n:Int) - 1:=IntWalk.i64_in _ (by omega)
       try simp only [List.drop,wpListIn,Exit.then]
       gi_wp2_with fail
       gi_loopw [5] (fun iv wr=>∃ t:Nat,t≤n∧iv = .int .i64 ((n:Int) - 1 - t)∧A5 wr g (pl (zc1 n m t))∧m % n ^ t=n ^ t - 1∧J (fun k=>k=g) (zb5 n (m+1)) wr∧Kept R W wr) (fun iv _=>(intOf iv+1).toNat)
       case atStart=>exact ⟨0,by omega,by simp,by rw [zw6];exact HAn.out,by simp [Nat.mod_one],HJn.out,HKn.out⟩
       case round =>
        obtain ⟨t,ht,rfl,hA,hfull,hj,hK⟩:=hrel;obtain ⟨kt,kp⟩:=HMM.out wr (HK0.out.trans hK);have hzt:=World.block_lt_of_cell? _ _ kt;have hzp:=World.block_lt_of_cell? _ _ kp;simp only at hzt hzp;have HAt:=hid hA;have HFt:=hid hfull;have HJt:=hid hj;have HKt:=hid hK
        by_cases hlt:t < n
        ·obtain ⟨q,hq⟩:∃ q,q=n - 1 - t:=⟨_,rfl⟩
         have hqi:(n:Int) - 1 - t=(q:Int):=by omega
         rw [hqi];have cq:=hA.cell q (by omega);rw [hq,z32 hlt,← hq] at cq;have hfr:=hA.free q;have hgl:=hA.lt;have hq5:q < 5:=by omega
         have hq0:decide ((0:Int)≤(q:Int))=true:=by rw [decide_eq_true_eq];omega
         obtain ⟨d,hd⟩:∃ d,d=dig n m t:=⟨_,rfl⟩
         rw [← hd] at cq;have hdn:d < n:=by rw [hd];exact Nat.mod_lt _ (by omega)
         have HQ:=hid hq;have HDg:=hid hd;have HQI:=hid hqi;have HLT:=hid hlt;clear hA hfull hj hK hq hd hqi
         by_cases hdd:d=n - 1
         ·have hde:(1+(d:Int) == (n:Int))=true:=by rw [beq_iff_eq];omega
          have HDD:=hid hdd;clear hdd;gi_wp2_with fail;refine wpIn_wide.2 ?_
          go_quiet (fail)
          gi_wp2_with fail;go_roundw
          case rel =>
           have hql:q < (zc1 n m t).length:=by rw [zhu (by have:=HLT.out;omega)];have h7:=HQ.out;have h8:=HLT.out;omega
           have hA2:=((HAt.out.of_heap (W':=wr.drewN nq) rfl).set q 1).congr (f':=pl (zc1 n m (t+1))) fun j _=>by
            rw [← zzy HLT.out,← HQ.out,zpe hql]
           refine ⟨t+1,by have:=HLT.out;omega,by have h9:=HQI.out;rw [show (q:Int) - 1=(n:Int) - 1 - ((t+1:Nat):Int) by omega],hA2,zzx (by omega) HFt.out (by rw [← HDg.out];exact HDD.out),(HJ.out _).setCell (p:=⟨g,q,none⟩) ((HJ.out _).ext HJt.out (Ext.drN (Below.refl _ wr) nq)) rfl _,(HKt.out.drN _).setCell (fun _ h=>HGR.out _ h rfl) _⟩
          case measure=>first | (simp [intOf];done) | (simp [intOf];omega)
         ·have hde:(1+(d:Int) == (n:Int))=false:=by rw [beq_eq_false_iff_ne];omega
          have HDD:=hid hdd;have hq0':decide ((q:Int) < 0)=false:=by rw [decide_eq_false_iff_not];omega
          have hws2:IntKind.i64.wrap (1+(d:Int)+1)=1+(d:Int)+1:=IntWalk.i64_in _ (by omega);clear hdd;gi_wp2_with fail;refine wpIn_wide.2 ?_
          go_quiet (fail)
          gi_wp2_with fail;go_roundw
          case rel =>
           have hql:q < (zc1 n m t).length:=by rw [zhu (by have:=HLT.out;omega)];have h7:=HQ.out;have h8:=HLT.out;omega
           have hA2:=((HAt.out.of_heap (W':=wr.drewN nq) rfl).set q (1+(d:Int)+1)).congr (f':=pl (zb9 n n (m+1))) fun j _=>by
            rw [← zl8 (by omega) HLT.out HFt.out (by rw [← HDg.out];exact HDD.out),← HQ.out,zpe hql,← HDg.out,show (2+(d:Int))=1+(d:Int)+1 by omega]
           have hm1:=zqo (by omega) HLT.out HM.out (by rw [← HDg.out];exact HDD.out);exact ⟨m+1,hm1,hA2,(HJ.out _).setCell (p:=⟨g,q,none⟩) ((HJ.out _).ext HJt.out (Ext.drN (Below.refl _ wr) nq)) rfl _,(HKt.out.drN _).setCell (fun _ h=>HGR.out _ h rfl) _⟩
          case measure =>
           have hql:q < (zc1 n m t).length:=by rw [zhu (by have:=HLT.out;omega)];have h7:=HQ.out;have h8:=HLT.out;omega
           have hA2:=((HAt.out.of_heap (W':=wr.drewN nq) rfl).set q (1+(d:Int)+1)).congr (f':=pl (zb9 n n (m+1))) fun j _=>by
            rw [← zl8 (by omega) HLT.out HFt.out (by rw [← HDg.out];exact HDD.out),← HQ.out,zpe hql,← HDg.out,show (2+(d:Int))=1+(d:Int)+1 by omega]
           have hm1:=zqo (by omega) HLT.out HM.out (by rw [← HDg.out];exact HDD.out);rw [zqt hA2 hn5 (zca n n _),zqt HAr.out hn5 (zca n n _),zib (by omega) hm1,zib (by omega) HM.out];have:=HM.out;omega
        ·have hte:t=n:=by omega
         have hqi:(n:Int) - 1 - t = -1:=by omega
         rw [hqi];have hq0:decide ((0:Int)≤-1)=false:=by decide
         have HTE:=hid hte;clear hte;gi_wp2_with fail;refine wpIn_wide.2 ?_
         go_quiet (fail)
         gi_wp2_with fail;refine bodyPost_ret (results_none rfl _ _ _) rfl ?_
         have hlast:=z33 HM.out (by have h9:=HFt.out;rw [HTE.out] at h9;exact h9);exact ⟨⟨_,rfl⟩,.inl ⟨_,zb5 n (m+1),by rw [hlast];rfl,(HJ.out _).ext HJt.out (Ext.drN (Below.refl _ wr) nq)⟩⟩
      ·have HJ6:=hid hj6
       clear hj6;gi_wp2_with fail;refine bodyPost_ret (results_none rfl _ _ _) rfl ?_
       exact ⟨⟨_,rfl⟩,.inr ⟨_,_,trivial,HJ6.out⟩⟩
end Go.Proofs.YtdamgacabfbpjaaGreat
namespace Go.Proofs.YtdamgacabfbpjaaGreat
open Go.Lib (hid)
open Go.RowKit Go.Shelf
attribute [local go_sem] Oper.semAt_some
theorem elPl:El 89 71 5:=El.mk' (bytes:=40) (z:=.agg #[.int .i64 0,.int .i64 0,.int .i64 0,.int .i64 0,.int .i64 0]) (by kernel_rfl) (by kernel_rfl) rfl (by omega) (by omega)
def zdj (f:List Int):List Value:=[.int .i64 (pl f 0),.int .i64 (pl f 1),.int .i64 (pl f 2),.int .i64 (pl f 3),.int .i64 (pl f 4)]
def zml (w:World) (v:Value) (l:List (List Int)):Prop:=zbd w 5 v (l.map zdj)
theorem zml.ext {w w':World} (h:Ext w w') {v:Value} {l:List (List Int)} (hr:zml w v l):zml w' v l:=zbd.ext h hr
theorem zml.spec {w:World} {v:Value} {l:List (List Int)} (h:zml w v l) :
  ∃ sa cap,v = .slice sa l.length cap∧l.length≤cap∧cap≤9223372036854775807∧(l=[]∨∃ b off,sa=some ⟨b,off,none⟩∧∀ i,(h:i < l.length)→∀ j,j < 5 →
   w.cell? ⟨b,off+i * 5+j,none⟩=some (.int .i64 (pl l[i] j))):=by
 obtain ⟨sa,cap,h1,h2,h3,h4⟩:=h;refine ⟨sa,cap,by simpa using h1,by simpa using h2,h3,?_⟩
 rcases h4 with h4 | ⟨b,off,e,h4⟩
 ·exact .inl (by simpa using h4)
 ·refine .inr ⟨b,off,e,fun i hi j hj=>?_⟩
  have c0:=h4 i (by simpa using hi) j (by simp [zdj];exact hj)
  match j,hj with
  | 0,_=>simpa [zdj] using c0
  | 1,_=>simpa [zdj] using c0
  | 2,_=>simpa [zdj] using c0
  | 3,_=>simpa [zdj] using c0
  | 4,_=>simpa [zdj] using c0
theorem z44 {α:Type} (q:α→Bool) {l:List α} {k:Nat} (h:k < l.length):(l.take (k+1)).filter q=(l.take k).filter q ++ if q l[k]=true then [l[k]] else []:=by
 rw [List.take_add_one,List.getElem?_eq_getElem h,List.filter_append]
 congr 1
 cases hq:q l[k]<;>simp [hq]
theorem zads (L:List (List Int)) (sa:Option Addr) (cap f:Nat) (fs cs:Array Value) (q:List Int→Bool) (w:World) (hv:zml w (.slice sa L.length cap) L) (hL:L.length≤100000)
  (hcall:∀ args W,(callFunc f args).run Tryz.prog W = .ok (.enter f args) W)
  (hf:∀ x,x∈L→∀ W,Ext w W→Calls Tryz.prog f (fs ++ #[.agg #[.int .i64 (pl x 0),.int .i64 (pl x 1),.int .i64 (pl x 2),.int .i64 (pl x 3),.int .i64 (pl x 4)]] ++ cs) W fun e W'=>e = .returned (.bool (q x))∧Ext W W') :
  Calls Tryz.prog 75 #[.slice sa L.length cap,.func (.func f) fs cs] w fun e w'=>∃ v,e = .returned v∧Ext w w'∧zp w' w.heap.size 71 5 v ((L.filter q).map zdj):=by
 obtain ⟨_,_,e,h1,h2,h3⟩:=hv.spec;cases e;have H3:=hid h3;have HF:=hid hf;clear h3 hv hf
 go_enter Tryz.func75,Tryz.ntmps75
 go_wp2_with fail
 go_loopw [5,10] (fun ov iv wr=>∃ k:Nat,k≤L.length∧iv = .int .i64 k∧zp wr w.heap.size 71 5 ov (((L.take k).filter q).map zdj)∧Ext w wr) (fun _ iv _=>L.length - (intOf iv).toNat)
 case atStart=>exact ⟨0,by omega,rfl,by simpa using zp.nil _ _ _ _,Below.refl _ _⟩
 case round =>
  obtain ⟨k,hk,rfl,hown,hE⟩:=hrel;have HO:=hid hown;have HE:=hid hE;obtain ⟨oa,on,oc,rfl⟩:=hown.isSlice
  by_cases hlt:k < L.length
  ·have hs':∃ b off,sa=some ⟨b,off,none⟩∧∀ i,(h:i < L.length)→∀ j,j < 5→w.cell? ⟨b,off+i * 5+j,none⟩=some (.int .i64 (pl L[i] j)):=by
    rcases H3.out with h | h
    ·rw [h] at hlt;simp at hlt
    ·exact h
   obtain ⟨b,off,rfl,hc⟩:=hs';have hki:(k:Int) < (L.length:Int):=by omega
   obtain ⟨x,hx⟩:∃ x,x=L[k]:=⟨_,rfl⟩
   have a0:=zd hE (hc k hlt 0 (by omega));have a1:=zd hE (hc k hlt 1 (by omega));have a2:=zd hE (hc k hlt 2 (by omega));have a3:=zd hE (hc k hlt 3 (by omega));have a4:=zd hE (hc k hlt 4 (by omega));rw [← hx] at a0 a1 a2 a3 a4;rw [Nat.add_zero] at a0;have hbz:=World.block_lt_of_cell? _ _ a0;simp only at hbz;have HFX:Hid (∀ W,Ext w W→Calls Tryz.prog f (fs ++ #[.agg #[.int .i64 (pl x 0),.int .i64 (pl x 1),.int .i64 (pl x 2),.int .i64 (pl x 3),.int .i64 (pl x 4)]] ++ cs) W fun e W'=>e = .returned (.bool (q x))∧Ext W W'):=hid (by rw [hx];exact HF.out _ (List.getElem_mem hlt));have HSU:Hid ((L.take (k+1)).filter q=(L.take k).filter q ++ if q x=true then [x] else []):=hid (by rw [hx];exact z44 q hlt);have HLEN:Hid ((((L.take k).filter q).map zdj).length + [zdj x].length≤1000000):=hid (by
    rw [List.length_map];have h5:=List.length_filter_le q (L.take k);have h6:=List.length_take_le k L;simp only [List.length_cons,List.length_nil];omega)
   clear hc hx hown hE;go_wp2_with fail;refine (HFX.out _ (HE.out.trans' (by exact xx))).mono ?_
   rintro e Y ⟨rfl,hEY⟩;have hEW:Ext wr Y:=Ext.trans' (by exact xx) hEY;have y0:Y.cell? ⟨wr.heap.size,0,none⟩=some (.int .i64 (pl x 0)):=zd hEY (by simp [go_sem]);have y1:Y.cell? ⟨wr.heap.size,1,none⟩=some (.int .i64 (pl x 1)):=zd hEY (by simp [go_sem]);have y2:Y.cell? ⟨wr.heap.size,2,none⟩=some (.int .i64 (pl x 2)):=zd hEY (by simp [go_sem]);have y3:Y.cell? ⟨wr.heap.size,3,none⟩=some (.int .i64 (pl x 3)):=zd hEY (by simp [go_sem]);have y4:Y.cell? ⟨wr.heap.size,4,none⟩=some (.int .i64 (pl x 4)):=zd hEY (by simp [go_sem]);have hyz:=World.block_lt_of_cell? _ _ y0;simp only at hyz;have HEY:=hid (HE.out.trans' hEW);have hwy:=(HE.out.trans' hEW).size;replace HO:=hid (HO.out.ext hEW);clear hEY hEW a0 a1 a2 a3 a4 hbz;cases hq:q x
   ·have HQ:=hid hq
    clear hq;go_wp2_with fail;go_roundw
    case rel=>exact ⟨k+1,by omega,by go_num,by rw [HSU.out,if_neg (by rw [HQ.out];simp),List.append_nil];exact HO.out,HEY.out⟩
    case measure=>simp [intOf];omega
   ·have HQ:=hid hq
    clear hq;go_wp2_with (at_builtin;refine zaeg rfl (.tmp 17) (.tmp 19) elPl rfl w.heap.size rfl (HO.out.ext (by exact xx)) Y.heap.size 0 1 [zdj x] rfl (by simp [zdj]) (zuq _ (zdj x) _ _ _ rfl rfl) (by simp [zdj,Value.oneCell']) HLEN.out (by simp;omega) ?_);intro v' W4 hown4 hb4;obtain ⟨va,vn,vc,rfl⟩:=hown4.isSlice;have hE4:Ext w W4:=Below.trans (HEY.out.trans' (by exact xx:Ext Y (Y.alloc (.cells #[.int .i64 (pl x 0),.int .i64 (pl x 1),.int .i64 (pl x 2),.int .i64 (pl x 3),.int .i64 (pl x 4)] 71)))) hb4;have HO4:=hid hown4;have HE4:=hid hE4;clear hown4 hb4 hE4;go_wp2_with fail;go_roundw
    case rel=>exact ⟨k+1,by omega,by go_num,by rw [HSU.out,if_pos HQ.out,List.map_append];exact HO4.out,HE4.out⟩
    case measure=>simp [intOf];omega
  ·have hki:¬ ((k:Int) < (L.length:Int)):=by omega
   have hke:k=L.length:=by omega
   have HO3:Hid (zp wr w.heap.size 71 5 (.slice oa on oc) ((L.filter q).map zdj)):=hid (by rw [hke,List.take_length] at hown;exact hown);clear hown hE hke;go_wp2_with fail;go_ret;exact ⟨_,rfl,HE.out,HO3.out⟩
end Go.Proofs.YtdamgacabfbpjaaGreat
namespace Go.Proofs.YtdamgacabfbpjaaGreat
open Go.Lib (hid)
open Go.RowKit Go.Shelf
attribute [local go_sem] Oper.semAt_some
theorem zse {n:Nat} (h:n≤5):(zgt n).length≤3125:=by
 have h1:=z8p n (n ^ n);have h2:n ^ n≤5 ^ 5:=Nat.le_trans (Nat.pow_le_pow_left h n) (Nat.pow_le_pow_right (by omega) h);have h3:(5:Nat) ^ 5=3125:=by simp
 rw [h3] at h2;exact Nat.le_trans h1 h2
theorem appendSeq_in (n p bt:Nat) (w:World) (hn1:2≤n) (hn5:n≤5) (kt:w.cell? ⟨bt,0,none⟩=some (.pointer (some ⟨p,0,none⟩))) (kp:w.cell? ⟨p,0,none⟩=some (.int .i64 n)) :
  CallsIn Fence.wide 9 Tryz.prog 179 #[.slice none 0 0,.func (.func 62) #[] #[.pointer (some ⟨bt,0,none⟩)]] w fun e w'=>∃ v,e = .returned v∧Ext w w'∧zml w' v (zgt n):=by
 refine callsIn_of_wp_marks Tryz.func179 rfl trivial ?_ rfl;simp only [Tryz.ntmps179,List.size_toArray,List.length_cons,List.length_nil,Nat.reduceAdd,Nat.reduceSub,Array.replicate_succ,Array.replicate_zero,List.push_toArray,List.append_toArray,List.nil_append,List.cons_append];have hzt:=World.block_lt_of_cell? _ _ kt;have hzp:=World.block_lt_of_cell? _ _ kp;simp only at hzt hzp;gi_wp2_with fail;obtain ⟨W5,hW5⟩:∃ W5,W5=w.alloc (.cells #[.slice none 0 0] 89):=⟨_,rfl⟩
 have hE5:Ext w W5:=by rw [hW5];exact xx
 have hz5:W5.heap.size=w.heap.size+1:=by rw [hW5];simp
 have hO5:W5.heap[w.heap.size]? = some (.cells #[.slice none 0 0] 89 (0,0)):=by rw [hW5];exact World.alloc_heap_new w _
 rw [← hW5];have HO5:=hid hO5;have HE15:=hid hE5;have kt5:=zd hE5 kt;have kp5:=zd hE5 kp;clear hW5 hE5 hO5 kt kp;refine zly (n:=9) (R:=fun k=>k < W5.heap.size∧k≠w.heap.size) rfl (enters_of Tryz.func62 (by kernel_rfl) rfl)
  (zxa n p bt (fun k=>k < W5.heap.size∧k≠w.heap.size) W5 hn1 hn5 (fun k hk=>hk.1)
   (fun W hk=>⟨hk.cell kt5 ⟨by simp only;omega,by simp only;omega⟩,hk.cell kp5 ⟨by simp only;omega,by simp only;omega⟩⟩))
  (Below.refl _ _) (fun k hk=>hk.1) (fun _=>rfl)
  (fun O pre W=>(∀ k,O k→W5.heap.size≤k)∧W5.heap.size≤W.heap.size∧Ext w W∧zur 89 71 5 w.heap.size (W5.heap.size+2) (pre.map zdj) O W)
  (fun _ _ _ _=>False) ?bears (fun _ _ _ _ _ _ h _ _ _=>h) ⟨fun _ h=>h.elim,Nat.le_refl _,HE15.out,⟨_,HO5.out,zp.nil _ _ _ _,fun g hg=>(by cases hg)⟩⟩ ?round ?done (fun _ _ _ _ _ _ _ h _=>h.elim)
 case bears =>
  rintro pre O O' A B ⟨g1,g2,g3,g4⟩ hk hO1 hO2;have hlow:Kept (fun k=>k < W5.heap.size) A B:=hk.mono fun k _ hk=>⟨fun ho=>by have:=g1 k ho;omega,by omega⟩
  refine ⟨fun k hk=>?_,by have:=hk.size;omega,g3.trans (Kept.below (hlow.mono fun k _ h=>by omega) g3.size),g4.kept hk ⟨fun ho=>by have:=g1 _ ho;omega,by omega⟩ (fun g h1 h2=>⟨h2,by omega⟩) (fun g h=>(hO2 g h).imp id fun h=>h.1)⟩
  rcases hO2 k hk with h | h
  ·exact g1 k h
  ·omega
 case round =>
  rintro l O pre y W ⟨g1,g2,g3,g4⟩ hy hO2 hW2;simp only [zfd]
  gi_wp2
  refine ⟨xx,fun W2 hk2=>?_⟩;have hE2:Ext W (W.alloc (.cells #[.int .i64 (pl y 0),.int .i64 (pl y 1),.int .i64 (pl y 2),.int .i64 (pl y 3),.int .i64 (pl y 4)] 71)):=xx;have y0:=hk2.cell (p:=⟨W.heap.size,0,none⟩) (v:=.int .i64 (pl y 0)) (by simp [go_sem]) (by simp;omega);have y1:=hk2.cell (p:=⟨W.heap.size,1,none⟩) (v:=.int .i64 (pl y 1)) (by simp [go_sem]) (by simp;omega);have y2:=hk2.cell (p:=⟨W.heap.size,2,none⟩) (v:=.int .i64 (pl y 2)) (by simp [go_sem]) (by simp;omega);have y3:=hk2.cell (p:=⟨W.heap.size,3,none⟩) (v:=.int .i64 (pl y 3)) (by simp [go_sem]) (by simp;omega);have y4:=hk2.cell (p:=⟨W.heap.size,4,none⟩) (v:=.int .i64 (pl y 4)) (by simp [go_sem]) (by simp;omega);have g32:Ext w W2:=(g3.trans' hE2).trans (Kept.below (hk2.mono fun k _ h=>by have:=HE15.out.size;omega) (by have:=g3.size;simp;omega));have g42:zur 89 71 5 w.heap.size (W5.heap.size+2) (pre.map zdj) O W2 :=
   (g4.kept (O':=O) (.of_below hE2) (S:=fun _=>True) trivial (fun _ _ _=>trivial) (fun _ h=>.inl h)).kept hk2 (by omega) (fun g h1 _=>by omega) (fun _ h=>.inl h)
  have hz2:=hk2.size;simp only [World.size_alloc] at hz2;have hzy:W.heap.size < W2.heap.size:=by omega
  obtain ⟨ov,hov,hown,hno⟩:=g42;obtain ⟨oa,on,oc,rfl⟩:=hown.isSlice;have ho0:W2.cell? ⟨w.heap.size,0,none⟩=some (.slice oa on oc):=by rw [cell_of_row _ _ _ _ _ _ hov];rfl
  have hof:W2.frozen? ⟨w.heap.size,0,none⟩=false:=by simp [World.frozen?,hov]
  have hzo:=(Array.getElem?_eq_some_iff.1 hov).1;have HLL:Hid ((pre.map zdj).length + [zdj y].length≤1000000):=by
   refine hid ?_
   obtain ⟨rest,hr⟩:=hy;have h1:=zse hn5;rw [hr] at h1;simp at h1 ⊢;omega
  have HOV:=hid hov;have HOWN:=hid hown;have HNO:=hid hno;have G3:=hid g32;have HO2:=hid hO2;have HK2:=hid hk2;clear hov hown hno g3 g4 g32 hO2 hk2 hE2 hy;gi_wp2_with (refine z55 rfl (.tmp 8) (.tmp 10) elPl rfl (W5.heap.size+2) rfl (HOWN.out.ext (by exact xx)) W2.heap.size 0 1 [zdj y] rfl (by simp [zdj]) (newRow _ (zdj y) _) (by simp [zdj,Value.oneCell']) HLL.out (by simp;omega) ?_);intro v' W4 hown4 hk4 hat4;have hob4:=hown4.notOwn;have hov4:=(hk4.same w.heap.size (by simp;omega) (fun h=>by
   have:=HOWN.out.notOwn _ h.symm;omega)).trans ((Below.heap_alloc W2 _ _ hzo).trans HOV.out)
  have ho4:W4.cell? ⟨w.heap.size,0,none⟩=some (.slice oa on oc):=by rw [cell_of_row _ _ _ _ _ _ hov4];rfl
  have hof4:W4.frozen? ⟨w.heap.size,0,none⟩=false:=by simp [World.frozen?,hov4]
  obtain ⟨va,vn,vc,rfl⟩:=hown4.isSlice;have HK4:=hid hk4;have HAT4:=hid hat4;have HOWN4:=hid hown4;have HOV4:=hid hov4;clear hk4 hat4 hown4 hov4 hob4;gi_wp2_with fail;have hkS:∀ (S:Nat→Prop),(∀ g,(Value.slice oa on oc).ownBlock=some g→¬ S g)→¬ S w.heap.size→Kept S W2 (W4.setCell ⟨w.heap.size,0,none⟩ (.slice va vn vc)):=fun S h1 h2 =>
   (((Kept.refl S W2).alloc _).trans (HK4.out.mono fun k _ hk e=>h1 k e.symm hk)).setCell (fun _=>h2) _
  have hz4:=HK4.out.size;simp only [World.size_alloc] at hz4;have ho5:∀ g,(Value.slice oa on oc).ownBlock=some g→W5.heap.size+2≤g∧¬ O g:=fun g hg=>⟨(HOWN.out.notOwn g hg).1,HNO.out g hg⟩
  refine ⟨hkS _ (fun g hg h=>?_) (fun h=>?_),g1,by simp [World.setCell];omega,?_,_,?_,(by rw [List.map_append];exact (HOWN4.out.setOther HOV4.out (by decide) 0 _).base (by omega)),fun g hg ho=>?_⟩
  ·have:=ho5 g hg
   rcases h with h | h | h | h
   ·omega
   ·exact this.2 h
   ·omega
   ·omega
  ·rcases h with h | h | h | h
   ·exact h.2 rfl
   ·have:=g1 _ h;omega
   ·omega
   ·omega
  ·exact G3.out.trans (Kept.below (hkS _ (fun g hg h=>by have:=ho5 g hg;omega) (by omega)) G3.out.size)
  ·exact zl HOV4.out 0 _
  ·rcases HAT4.out g hg with h | h
   ·exact HNO.out g h ho
   ·have:=(HO2.out g ho).2;have:W2.heap.size+1≤g:=by simpa using h
    omega
 case done =>
  rintro D O xs W hD rfl ⟨g1,g2,g3,g4⟩ hDk;obtain ⟨ov,hov,hown,hno⟩:=g4;obtain ⟨oa,on,oc,rfl⟩:=hown.isSlice;have ho0:W.cell? ⟨w.heap.size,0,none⟩=some (.slice oa on oc):=by rw [cell_of_row _ _ _ _ _ _ hov];rfl
  have HOWN:=hid hown;have HDK:=hid hDk;have hDlt:=(Array.getElem?_eq_some_iff.1 hDk).1;clear hov hown hno hDk;gi_wp2_with fail;refine ⟨by simp,.inl ⟨_,_,rfl,run_takeDeferred HDK.out,?_⟩⟩;refine ⟨.slice oa on oc,by simp [results,Tryz.results179,go_sem],_,rfl,?_,?_⟩
  ·have hk:=(((Kept.of_below g3:Kept (fun k=>k < w.heap.size) w W)).putObj (r:=D) (.deferred none) (fun h2 h3=>by have:=g3.size;omega))
   exact hk.below (Nat.le_refl _)
  ·exact (HOWN.out.putOther HDK.out _).isRows
end Go.Proofs.YtdamgacabfbpjaaGreat
namespace Go.Proofs.YtdamgacabfbpjaaGreat
open Go.Lib (hid)
open Go.RowKit Go.Shelf
theorem z45 (n p bt:Nat) (w:World) (hn1:2≤n) (hn5:n≤5) (kt:w.cell? ⟨bt,0,none⟩=some (.pointer (some ⟨p,0,none⟩))) (kp:w.cell? ⟨p,0,none⟩=some (.int .i64 n)) :
  Calls Tryz.prog 113 #[.func (.func 62) #[] #[.pointer (some ⟨bt,0,none⟩)]] w fun e w'=>∃ v,e = .returned v∧Ext w w'∧zml w' v (zgt n):=by
 have H:=hid (callsIn_wide.1 (appendSeq_in n p bt w hn1 hn5 kt kp));clear kt kp
 go_enter Tryz.func113,Tryz.ntmps113
 go_wp2_with fail;refine H.out.mono ?_
 rintro e W1 ⟨v,rfl,hE,hF⟩;obtain ⟨sa,cap,rfl,-,-,-⟩:=hF.spec;have HE:=hid hE;have HF:=hid hF;clear hE hF;go_wp2_with fail;go_ret;exact ⟨_,rfl,HE.out,HF.out⟩
structure z1k (h:Rc):Prop where
 n1:2≤h.n
 n5:h.n≤5
 ok:∀ x∈h.ws,OkW 5 x
 okn:∀ x∈h.ws,OkW h.n.toNat x
 len:h.ws.length≤12
theorem OkW.le {n m:Nat} {x:Wd} (h:OkW n x) (hm:n≤m):OkW m x:=⟨h.a0,by have:=h.a1;omega,h.b0,by have:=h.b1;omega,h.ne,h.k0,h.k1⟩
theorem zlg {h:Rc} (e:zap h=0):z1k h:=by
 unfold zap at e
 split at e
 ·cases e
 rename_i h1
 split at e
 ·cases e
 rename_i h2
 split at e
 ·cases e
 rename_i h3;have h3:h.ws.any (fun w=>!zem h.n w)=false:=by simpa using h3
 have hok:∀ x∈h.ws,OkW h.n.toNat x:=fun x hx=>zaf8 (by omega) (by
  rw [List.any_eq_false] at h3;have:=h3 x hx;simpa using this)
 exact ⟨by omega,by omega,fun x hx=>(hok x hx).le (by omega),hok,by omega⟩
theorem zagb (h:Rc) (sa:Option Addr) (cap p:Nat) (w:World) (hv:zcc w (.slice sa h.ws.length cap) h.ws) (hr:RaceAt w p h sa cap) (V:z1k h) :
  Calls Tryz.prog 74 #[.pointer (some ⟨p,0,none⟩)] w fun e w'=>∃ v,e = .returned v∧Ext w w'∧zml w' v (zcb h):=by
 have HV:=hid hv;have HR:=hid hr;have hz:=hr.lt;obtain ⟨n,hn⟩:∃ n:Nat,h.n=n:=⟨h.n.toNat,by have:=V.n1;omega⟩
 have hn1:2≤n:=by have:=V.n1;omega
 have hn5:n≤5:=by have:=V.n5;omega
 have k0:=hr.c0;rw [hn] at k0;have HN:Hid (zcb h=(zgt n).filter (zck h.ws)):=hid (by unfold zcb;rw [hn];rfl);have VV:=hid V;clear hv hr V hn
 go_enter Tryz.func74,Tryz.ntmps74
 go_wp2_with fail;refine (zq2 p w).mono ?_
 rintro e W1 ⟨rfl,hE1,kt,-⟩;have k1:=zd hE1 k0;have HE1:=hid hE1;clear hE1;go_wp2_with fail;refine (z45 n p w.heap.size W1 hn1 hn5 kt k1).mono ?_
 rintro e W2 ⟨v,rfl,hE2,hF⟩;obtain ⟨fa,fc,rfl,-,-,-⟩:=hF.spec;have HE2:=hid (HE1.out.trans' hE2);have HF:=hid hF;clear hE2 hF kt k1 k0;go_wp2_with fail;refine (zads (zgt n) fa fc 27 #[.pointer (some ⟨p,0,none⟩)] #[] (zck h.ws) W2 HF.out (by have:=zse hn5;omega) (fun args W=>Tryz.call27 args W)
  (fun x _ W hW=>zqs h sa cap p x W (HV.out.ext (HE2.out.trans' hW)) (HR.out.ext (HE2.out.trans' hW)) VV.out.ok)).mono ?_
 rintro e W3 ⟨v,rfl,hE3,hO⟩;obtain ⟨ga,gn,gc,rfl⟩:=hO.isSlice;have HE3:=hid (HE2.out.trans' hE3);have HO:=hid hO;clear hE3 hO;go_wp2_with fail;go_ret;exact ⟨_,rfl,HE3.out,by rw [HN.out];exact HO.out.isRows⟩
def zcs (h:Rc):Int:=if (zcb h).length=0 then 22 else 0
theorem z8u (h:Rc) (sa:Option Addr) (cap p:Nat) (w:World) (hv:zcc w (.slice sa h.ws.length cap) h.ws) (hr:RaceAt w p h sa cap) (V:z1k h) :
  Calls Tryz.prog 35 #[.pointer (some ⟨p,0,none⟩)] w fun e w'=>∃ v,e = .returned (.tuple #[v,.int .i64 (zcs h)])∧Ext w w'∧zml w' v (zcb h):=by
 have H:=hid (zagb h sa cap p w hv hr V);clear hv hr V
 go_enter Tryz.func35,Tryz.ntmps35
 go_wp2_with fail;refine H.out.mono ?_
 rintro e W1 ⟨v,rfl,hE,hF⟩;obtain ⟨fa,fc,rfl,-,-,-⟩:=hF.spec;have HE:=hid hE;have HF:=hid hF;clear hE hF
 by_cases h0:(zcb h).length=0
 ·have h0i:(((zcb h).length:Int) == 0)=true:=by rw [beq_iff_eq];omega
  have H0:=hid h0;clear h0;go_wp2_with fail;refine bodyPost_ret (v:=.tuple #[.slice none 0 0,.int .i64 22]) (by simp [results,Tryz.results35,go_sem]) rfl ?_
  exact ⟨_,by unfold zcs;rw [if_pos H0.out],HE.out,by rw [List.length_eq_zero_iff.1 H0.out];exact ⟨none,0,rfl,by simp,by simp,.inl rfl⟩⟩
 ·have h0i:(((zcb h).length:Int) == 0)=false:=by rw [beq_eq_false_iff_ne];omega
  have H0:=hid h0;clear h0;go_wp2_with fail;refine bodyPost_ret (v:=.tuple #[.slice fa (zcb h).length fc,.int .i64 0]) (by simp [results,Tryz.results35,go_sem]) rfl ?_
  exact ⟨_,by unfold zcs;rw [if_neg H0.out],HE.out,HF.out⟩
end Go.Proofs.YtdamgacabfbpjaaGreat
namespace Go.Proofs.YtdamgacabfbpjaaGreat
open Go.Lib (hid)
open Go.RowKit Go.Shelf
theorem zadt (h:Rc) (V:z1k h):(zcb h).length≤100000:=by
 have h1:=zse (n:=h.n.toNat) (by have:=V.n5;omega);have h2:(zcb h).length≤(zgt h.n.toNat).length:=List.length_filter_le _ _;omega
end Go.Proofs.YtdamgacabfbpjaaGreat
namespace Go.Proofs.YtdamgacabfbpjaaGreat
open Go.Lib (hid)
open Go.RowKit Go.Shelf
attribute [local go_sem] Oper.semAt_some
def zct (h:Rc) (l:List Int):Int:=if zap h≠0 then zap h else if (l.length:Int)≠h.n then 15 else if zba h.n.toNat l=true then (if zck h.ws l=true then 0 else 22) else 16
def a5 (f:List Int):Array Value:=#[.int .i64 (pl f 0),.int .i64 (pl f 1),.int .i64 (pl f 2),.int .i64 (pl f 3),.int .i64 (pl f 4)]
theorem zahr {l:List Int} (h5:l.length≤5):((#[Value.int .i64 0,.int .i64 0,.int .i64 0,.int .i64 0,.int .i64 0]:Array Value).toList.take 0 ++ l.map (Value.int .i64) ++ (#[Value.int .i64 0,.int .i64 0,.int .i64 0,.int .i64 0,.int .i64 0]:Array Value).toList.drop (0+(l.map (Value.int .i64)).length)).toArray=a5 l:=by
 match l,h5 with
 | [],_=>rfl
 | [a],_=>rfl
 | [a,b],_=>rfl
 | [a,b,c],_=>rfl
 | [a,b,c,d],_=>rfl
 | [a,b,c,d,e],_=>rfl
theorem zaif {W:World} {g:Nat} {f:List Int} (h:W.heap[g]? = some (.cells (a5 f) 71 (0,0))):A5 W g (pl f):=by
 refine ⟨_,h,rfl,fun j hj=>?_⟩
 match j,hj with
 | 0,_=>rfl
 | 1,_=>rfl
 | 2,_=>rfl
 | 3,_=>rfl
 | 4,_=>rfl
theorem z38 (h:Rc) (sa:Option Addr) (cap:Nat) (l:List Int) (lv:Value) (w:World) (hv:zcc w (.slice sa h.ws.length cap) h.ws) (hl:zt w .i64 lv l) :
  Calls Tryz.prog 8 #[.agg #[.int .i64 h.n,.slice sa h.ws.length cap],lv] w fun e w'=>e = .returned (.int .i64 (zct h l))∧Ext w w':=by
 obtain ⟨la,lc,rfl,l1,l2,hc⟩:=hl.spec;have HC:=hid hc;have HV:=hid hv;clear hv hl hc
 go_enter Tryz.func8,Tryz.ntmps8
 go_upto_region 1 with (fail);obtain ⟨W0,hW0⟩:∃ W0,W0=w.alloc (.cells #[.int .i64 h.n,.slice sa h.ws.length cap] 24):=⟨_,rfl⟩
 have hE:Ext w W0:=by rw [hW0];exact xx
 have k0:W0.cell? ⟨w.heap.size,0,none⟩=some (.int .i64 h.n):=by rw [hW0];simp [go_sem]
 have k1:W0.cell? ⟨w.heap.size,1,none⟩=some (.slice sa h.ws.length cap):=by rw [hW0];simp [go_sem]
 have hz:w.heap.size < W0.heap.size:=World.block_lt_of_cell? _ _ k0;have HW:=hid hE;replace HV:=hid (HV.out.ext hE);rw [← hW0];clear hW0 hE;go_wp2_with fail;refine (zsc h sa cap W0 HV.out).mono ?_
 rintro e W1 ⟨hE1,⟨hne,rfl⟩ | ⟨he0,p,rfl,hp,hR⟩⟩
 ·have hne2:(zap h != 0)=true:=by simpa using hne
  have HN:=hid hne;have HE1:=hid hE1;clear hne hE1;go_wp2_with fail;go_ret;exact ⟨zq (k:=.i64) (a:=zap h) (by unfold zct;rw [if_pos HN.out]),HW.out.trans' HE1.out⟩
 have V:=hid (zlg he0);have hn1:=V.out.n1;have hn5:=V.out.n5;have H0:=hid he0;replace k0:=zd hE1 k0;replace k1:=zd hE1 k1;have hzw:=hE1.size;replace hz:w.heap.size < W1.heap.size:=by omega
 have HW1:=hid (HW.out.trans' hE1);have HV1:=hid (HV.out.ext hE1);have HR1:=hid hR;clear hE1 hR hp hzw HW HV he0
 by_cases hlen:(l.length:Int)=h.n
 case neg =>
  have hli:((l.length:Int) != h.n)=true:=by simpa using hlen
  have HL:=hid hlen;clear hlen;go_wp2_with fail;go_ret;exact ⟨zq (k:=.i64) (a:=15) (by unfold zct;rw [if_neg (by rw [H0.out];simp),if_pos HL.out]),HW1.out⟩
 have hli:((l.length:Int) != h.n)=false:=by simpa using hlen
 have h5:l.length≤5:=by omega
 have HL:=hid hlen;clear hlen;go_upto_region 7 with (fail);obtain ⟨g,hg⟩:∃ g,g=W1.heap.size:=⟨_,rfl⟩
 obtain ⟨W2,hW2⟩:∃ W2,W2=W1.alloc (.cells #[.int .i64 0,.int .i64 0,.int .i64 0,.int .i64 0,.int .i64 0] 71):=⟨_,rfl⟩
 have hE2:Ext W1 W2:=by rw [hW2];exact xx
 have hg1:W2.heap[g]? = some (.cells #[.int .i64 0,.int .i64 0,.int .i64 0,.int .i64 0,.int .i64 0] 71 (0,0)):=by rw [hW2,hg];exact World.alloc_heap_new W1 _
 rw [← hW2,← hg];have hclr:∀ ty,(Builtin.clear_ #[28] ty #[.slice (some ⟨g,0,none⟩) 5 5]).run Tryz.prog W2 = .ok (.tuple #[]) (W2.setCells g 0 (List.replicate 5 (.int .i64 0))):=fun ty =>
  Lib.run_clear_slice _ 28 3 ty (.int .i64 0) (by kernel_rfl) (fun w=>by kernel_rfl) rfl rfl g 0 5 5 (by omega) (fun j hj=>by rw [cell_of_row _ _ _ _ _ _ hg1];match j,hj with | 0,_=>rfl | 1,_=>rfl | 2,_=>rfl | 3,_=>rfl | 4,_=>rfl) (fun j hj=>by simp [World.frozen?,hg1])
 have HE:=hid hE2;have HG1:=hid hg1;have HGE:=hid hg;have hgl:g < W2.heap.size:=(Array.getElem?_eq_some_iff.1 hg1).1;clear hE2 hW2 hg1 hg;go_upto_region 8 with (simp only [hclr]);have hg2:(W2.setCells g 0 [.int .i64 0,.int .i64 0,.int .i64 0,.int .i64 0,.int .i64 0]).heap[g]? = some (.cells #[.int .i64 0,.int .i64 0,.int .i64 0,.int .i64 0,.int .i64 0] 71 (0,0)) :=
  zl (zl (zl (zl (zl HG1.out 0 _) 1 _) 2 _) 3 _) 4 _
 have hk2:Below g W2 (W2.setCells g 0 [.int .i64 0,.int .i64 0,.int .i64 0,.int .i64 0,.int .i64 0]) :=
  (((((Below.refl _ W2).setCell (by simp) _).setCell (by simp) _).setCell (by simp) _).setCell (by simp) _).setCell (by simp) _
 obtain ⟨W3,hW3⟩:∃ W3,W3=W2.setCells g 0 [.int .i64 0,.int .i64 0,.int .i64 0,.int .i64 0,.int .i64 0]:=⟨_,rfl⟩
 have hz3:W3.heap.size=W2.heap.size:=by rw [hW3];simp [World.setCells]
 rw [← hW3] at hg2 hk2 ⊢;have hE3:Ext W1 W3:=HE.out.trans (hk2.mono (by have:=HGE.out;omega))
 rcases HC.out with hl0 | ⟨b,off,rfl,hc⟩
 ·rw [hl0] at HL;have:=HL.out;simp at this;omega
 have hsrc:∀ j v,(l.map (Value.int .i64))[j]? = some v→W3.cell? ((⟨b,off,none⟩:Addr).add j)=some v:=fun j v hj=>by
  rw [addr_add];rw [List.getElem?_map] at hj;obtain ⟨x,hx,rfl⟩:=Option.map_eq_some_iff.1 hj;obtain ⟨hjl,rfl⟩:=List.getElem?_eq_some_iff.1 hx;exact zd hE3 (zd HW1.out (hc j hjl))
 have hone:∀ v∈l.map (Value.int .i64),v.oneCell'=true:=by
  intro v hv;obtain ⟨x,_,rfl⟩:=List.mem_map.1 hv;rfl
 have hcopy:∀ ty,(Builtin.copy_ #[28,28] ty #[.slice (some ⟨g,0,none⟩) 5 5,.slice (some ⟨b,off,none⟩) l.length lc]).run Tryz.prog W3 = .ok (goInt (l.map (Value.int .i64)).length) (W3.setRow g (a5 l)):=fun ty=>by
  have:=run_copy_row (P:=Tryz.prog) W3 28 28 ty 3 g 0 5 5 ⟨b,off,none⟩ l.length lc #[.int .i64 0,.int .i64 0,.int .i64 0,.int .i64 0,.int .i64 0] 71 (l.map (Value.int .i64)) (by kernel_rfl) (by kernel_rfl) hg2 (by rw [List.length_map];exact (Nat.min_eq_left h5).symm) hsrc (by simp;omega) hone;rw [this]
  congr 2
  exact zahr h5
 have HE3:=hid hE3;have hb3:Below g W3 (W3.setRow g (a5 l)):=below_setRow (Below.refl _ _) (Nat.le_refl _) _;have hg3:=setRow_heap W3 g _ (a5 l) 71 (0,0) hg2;replace hgl:g < W3.heap.size:=by omega
 clear hW3 hclr hg2 hk2 hsrc hone hE3 hc;go_upto_region 9 with (simp only [hcopy]);obtain ⟨W4,hW4⟩:∃ W4,W4=W3.setRow g (a5 l):=⟨_,rfl⟩
 rw [← hW4] at hb3 hg3 ⊢;clear hcopy hW4;have hA:=zaif hg3;have hE4:Ext W1 W4:=HE3.out.trans (hb3.mono (by have:=HGE.out;omega));obtain ⟨c0,c1,c2,c3,c4⟩:=hA.five;have hfr:=hA.free;have hg4:g < W4.heap.size:=hA.lt;have kp:=zd hE4 HR1.out.c0;have hpz:=World.block_lt_of_cell? _ _ kp;simp only at hpz;have HA:=hid hA;have HW4:=hid (HW1.out.trans' hE4);have HV4:=hid (HV1.out.ext hE4);have HR4:=hid (HR1.out.ext hE4);obtain ⟨n,hn⟩:∃ n:Nat,h.n=n:=⟨h.n.toNat,by omega⟩
 have hnn:h.n.toNat=n:=by omega
 have hnl:l.length=n:=by have:=HL.out;omega
 have HNL:=hid hnl;have HNN:=hid hnn;have kp2:=kp;rw [hn] at kp2;have HKP:=hid kp2;have hEq:∀ W,(Op.equalIn 10000 71 (.agg #[.int .i64 (pl l 0),.int .i64 (pl l 1),.int .i64 (pl l 2),.int .i64 (pl l 3),.int .i64 (pl l 4)]) (zfd (zfc n l))).run Tryz.prog W = .ok (zba n l) W:=fun W=>zzz (n:=n) (f:=l) (g:=zfc n l) (by omega) hnl (zjh n l) W
 obtain ⟨E,hE0⟩:∃ E,E=zfc n l:=⟨_,rfl⟩
 rw [← hE0] at hEq;have hEq':∀ W,(Op.equalIn 10000 71 (.agg #[.int .i64 (pl l 0),.int .i64 (pl l 1),.int .i64 (pl l 2),.int .i64 (pl l 3),.int .i64 (pl l 4)]) (.agg #[.int .i64 (pl E 0),.int .i64 (pl E 1),.int .i64 (pl E 2),.int .i64 (pl E 3),.int .i64 (pl E 4)])).run Tryz.prog W = .ok (zba n l) W:=hEq;have hRK:∀ W,Ext W4 W→Calls Tryz.prog 26 #[.pointer (some ⟨p,0,none⟩),.agg #[.int .i64 (pl l 0),.int .i64 (pl l 1),.int .i64 (pl l 2),.int .i64 (pl l 3),.int .i64 (pl l 4)]] W fun e w'=>e = .returned (.agg #[.int .i64 (pl E 0),.int .i64 (pl E 1),.int .i64 (pl E 2),.int .i64 (pl E 3),.int .i64 (pl E 4)])∧Ext W w':=fun W hW=>by rw [hE0];exact zw9 p n l W (zd hW HKP.out) (by omega)
 have HRK:=hid hRK;have HFN:=hid hn;clear hg3 hA hE4 hb3 kp2 hli HG1 HE HE3 HV1 HR1 HW1 hnn hnl hRK hE0 hEq;cases hf:zba n l
 ·rw [hf] at hEq'
  refine zdp (W4.heap.size) (Nat.le_refl _)
   [sqV (.agg #[.int .i64 (pl l 0),.int .i64 (pl l 1),.int .i64 (pl l 2),.int .i64 (pl l 3),.int .i64 (pl l 4)]),sqV (.pointer (some ⟨p,0,none⟩)),sqV (.agg #[.int .i64 (pl l 0),.int .i64 (pl l 1),.int .i64 (pl l 2),.int .i64 (pl l 3),.int .i64 (pl l 4)]),sqV (.agg #[.int .i64 (pl E 0),.int .i64 (pl E 1),.int .i64 (pl E 2),.int .i64 (pl E 3),.int .i64 (pl E 4)]),sqV (.bool true),sqV (.bool true)]
   [true,true,true,true,true,true] [false,false,false,false,false,false] [true,true,true,true,true,true] [true,true,true,true,true,true]
   (by kernel_rfl) (by kernel_rfl) (by decide +kernel) (by decide +kernel) (by decide +kernel) rfl ⟨rfl,rfl⟩ ⟨?s0,?s1,?s2,?s3,?s4,?s5,trivial⟩ [some 28,some 29,some 30,some 31,some 32,some 27] rfl rfl ?send
  case s0 =>
   intro val ρ W hE hz hd hA hx;have o0:ρ (.tmp 7) = .pointer (some ⟨g,0,none⟩):=hA.old 7 (by decide);have f_c0:=cell_below hE (by simp only;omega) c0;have f_c1:=cell_below hE (by simp only;omega) c1;have f_c2:=cell_below hE (by simp only;omega) c2;have f_c3:=cell_below hE (by simp only;omega) c3;have f_c4:=cell_below hE (by simp only;omega) c4;clear hd;exact ze (W':=W) (by simp [execOp,o0,f_c0,f_c1,f_c2,f_c3,f_c4,go_sem]) (Below.refl _ _) rfl
  case s1 =>
   intro val ρ W hE hz hd hA hx;have o0:ρ (.tmp 5) = .pointer (some ⟨p,0,none⟩):=hA.old 5 (by decide);clear hd;exact ze (W':=W) (by simp [execOp,o0,go_sem]) (Below.refl _ _) rfl
  case s2 =>
   intro val ρ W hE hz hd hA hx;have o0:ρ (.tmp 7) = .pointer (some ⟨g,0,none⟩):=hA.old 7 (by decide);have f_c0:=cell_below hE (by simp only;omega) c0;have f_c1:=cell_below hE (by simp only;omega) c1;have f_c2:=cell_below hE (by simp only;omega) c2;have f_c3:=cell_below hE (by simp only;omega) c3;have f_c4:=cell_below hE (by simp only;omega) c4;clear hd;exact ze (W':=W) (by simp [execOp,o0,f_c0,f_c1,f_c2,f_c3,f_c4,go_sem]) (Below.refl _ _) rfl
  case s3 =>
   intro val ρ W hE hz hd hA hx;have d1:ρ (.tmp 29) = .pointer (some ⟨p,0,none⟩):=(hA.dep 1 (by decide) 29 rfl).trans (hd 1 (by decide));have d2:ρ (.tmp 30) = .agg #[.int .i64 (pl l 0),.int .i64 (pl l 1),.int .i64 (pl l 2),.int .i64 (pl l 3),.int .i64 (pl l 4)]:=(hA.dep 2 (by decide) 30 rfl).trans (hd 2 (by decide));clear hd;refine zdm 26 _ _ rfl #[.pointer (some ⟨p,0,none⟩),.agg #[.int .i64 (pl l 0),.int .i64 (pl l 1),.int .i64 (pl l 2),.int .i64 (pl l 3),.int .i64 (pl l 4)]] (hA.func _) (by simp [d1,d2]) (fun args W=>Tryz.call26 args W) ((HRK.out W hE).mono ?_);rintro e w' ⟨rfl,hb⟩;exact ⟨_,rfl,hb,rfl⟩
  case s4 =>
   intro val ρ W hE hz hd hA hx;have d0:ρ (.tmp 28) = .agg #[.int .i64 (pl l 0),.int .i64 (pl l 1),.int .i64 (pl l 2),.int .i64 (pl l 3),.int .i64 (pl l 4)]:=(hA.dep 0 (by decide) 28 rfl).trans (hd 0 (by decide));have d3:ρ (.tmp 31) = .agg #[.int .i64 (pl E 0),.int .i64 (pl E 1),.int .i64 (pl E 2),.int .i64 (pl E 3),.int .i64 (pl E 4)]:=(hA.dep 3 (by decide) 31 rfl).trans (hd 3 (by decide));clear hd;exact ze (W':=W) (by simp [execOp,d0,d3,hEq',go_sem]) (Below.refl _ _) rfl
  case s5 =>
   intro val ρ W hE hz hd hA hx;have d4:ρ (.tmp 32) = .bool true:=(hA.dep 4 (by decide) 32 rfl).trans (hd 4 (by decide));clear hd;exact ze (W':=W) (by simp [execOp,d4,go_sem]) (Below.refl _ _) rfl
  case send =>
   intro val WW hE hzz hv;obtain ⟨-,-,-,-,-,r5,-⟩:=hv;have q5:val 5 = .bool true:=r5;simp only [zbq,q5];go_frame;clear r5 q5 hzz;go_wp2_with fail;go_ret;exact ⟨zq (k:=.i64) (a:=16) (by unfold zct;rw [if_neg (by rw [H0.out];simp),if_neg (by rw [HL.out];simp),if_neg (by rw [HNN.out,hf];simp)]),HW4.out.trans' hE⟩
 ·rw [hf] at hEq'
  refine zdp (W4.heap.size) (Nat.le_refl _)
   [sqV (.agg #[.int .i64 (pl l 0),.int .i64 (pl l 1),.int .i64 (pl l 2),.int .i64 (pl l 3),.int .i64 (pl l 4)]),sqV (.pointer (some ⟨p,0,none⟩)),sqV (.agg #[.int .i64 (pl l 0),.int .i64 (pl l 1),.int .i64 (pl l 2),.int .i64 (pl l 3),.int .i64 (pl l 4)]),sqV (.agg #[.int .i64 (pl E 0),.int .i64 (pl E 1),.int .i64 (pl E 2),.int .i64 (pl E 3),.int .i64 (pl E 4)]),sqV (.bool false),sqV (.bool false)]
   [true,true,true,true,true,true] [false,false,false,false,false,false] [true,true,true,true,true,true] [true,true,true,true,true,true]
   (by kernel_rfl) (by kernel_rfl) (by decide +kernel) (by decide +kernel) (by decide +kernel) rfl ⟨rfl,rfl⟩ ⟨?s0,?s1,?s2,?s3,?s4,?s5,trivial⟩ [some 28,some 29,some 30,some 31,some 32,some 27] rfl rfl ?send
  case s0 =>
   intro val ρ W hE hz hd hA hx;have o0:ρ (.tmp 7) = .pointer (some ⟨g,0,none⟩):=hA.old 7 (by decide);have f_c0:=cell_below hE (by simp only;omega) c0;have f_c1:=cell_below hE (by simp only;omega) c1;have f_c2:=cell_below hE (by simp only;omega) c2;have f_c3:=cell_below hE (by simp only;omega) c3;have f_c4:=cell_below hE (by simp only;omega) c4;clear hd;exact ze (W':=W) (by simp [execOp,o0,f_c0,f_c1,f_c2,f_c3,f_c4,go_sem]) (Below.refl _ _) rfl
  case s1 =>
   intro val ρ W hE hz hd hA hx;have o0:ρ (.tmp 5) = .pointer (some ⟨p,0,none⟩):=hA.old 5 (by decide);clear hd;exact ze (W':=W) (by simp [execOp,o0,go_sem]) (Below.refl _ _) rfl
  case s2 =>
   intro val ρ W hE hz hd hA hx;have o0:ρ (.tmp 7) = .pointer (some ⟨g,0,none⟩):=hA.old 7 (by decide);have f_c0:=cell_below hE (by simp only;omega) c0;have f_c1:=cell_below hE (by simp only;omega) c1;have f_c2:=cell_below hE (by simp only;omega) c2;have f_c3:=cell_below hE (by simp only;omega) c3;have f_c4:=cell_below hE (by simp only;omega) c4;clear hd;exact ze (W':=W) (by simp [execOp,o0,f_c0,f_c1,f_c2,f_c3,f_c4,go_sem]) (Below.refl _ _) rfl
  case s3 =>
   intro val ρ W hE hz hd hA hx;have d1:ρ (.tmp 29) = .pointer (some ⟨p,0,none⟩):=(hA.dep 1 (by decide) 29 rfl).trans (hd 1 (by decide));have d2:ρ (.tmp 30) = .agg #[.int .i64 (pl l 0),.int .i64 (pl l 1),.int .i64 (pl l 2),.int .i64 (pl l 3),.int .i64 (pl l 4)]:=(hA.dep 2 (by decide) 30 rfl).trans (hd 2 (by decide));clear hd;refine zdm 26 _ _ rfl #[.pointer (some ⟨p,0,none⟩),.agg #[.int .i64 (pl l 0),.int .i64 (pl l 1),.int .i64 (pl l 2),.int .i64 (pl l 3),.int .i64 (pl l 4)]] (hA.func _) (by simp [d1,d2]) (fun args W=>Tryz.call26 args W) ((HRK.out W hE).mono ?_);rintro e w' ⟨rfl,hb⟩;exact ⟨_,rfl,hb,rfl⟩
  case s4 =>
   intro val ρ W hE hz hd hA hx;have d0:ρ (.tmp 28) = .agg #[.int .i64 (pl l 0),.int .i64 (pl l 1),.int .i64 (pl l 2),.int .i64 (pl l 3),.int .i64 (pl l 4)]:=(hA.dep 0 (by decide) 28 rfl).trans (hd 0 (by decide));have d3:ρ (.tmp 31) = .agg #[.int .i64 (pl E 0),.int .i64 (pl E 1),.int .i64 (pl E 2),.int .i64 (pl E 3),.int .i64 (pl E 4)]:=(hA.dep 3 (by decide) 31 rfl).trans (hd 3 (by decide));clear hd;exact ze (W':=W) (by simp [execOp,d0,d3,hEq',go_sem]) (Below.refl _ _) rfl
  case s5 =>
   intro val ρ W hE hz hd hA hx;have d4:ρ (.tmp 32) = .bool false:=(hA.dep 4 (by decide) 32 rfl).trans (hd 4 (by decide));clear hd;exact ze (W':=W) (by simp [execOp,d4,go_sem]) (Below.refl _ _) rfl
  case send =>
   intro val WW hE hzz hv;obtain ⟨-,-,-,-,-,r5,-⟩:=hv;have q5:val 5 = .bool false:=r5;simp only [zbq,q5];go_frame;replace c0:=zd hE c0;replace c1:=zd hE c1;replace c2:=zd hE c2;replace c3:=zd hE c3;replace c4:=zd hE c4;have HEW:=hid hE;replace hg4:=World.block_lt_of_cell? _ _ c0;clear r5 q5 hzz hfr kp hpz hE hgl hz;go_wp2_with fail;refine (zqs h sa cap p l WW (HV4.out.ext HEW.out) (HR4.out.ext HEW.out) (fun x hx=>V.out.ok x hx)).mono ?_
   rintro e W5 ⟨rfl,hE5⟩;have HE5:=hid ((HW4.out.trans' HEW.out).trans' hE5);clear hE5;cases ha:zck h.ws l
   ·go_wp2_with fail
    go_ret;exact ⟨zq (k:=.i64) (a:=22) (by unfold zct;rw [if_neg (by rw [H0.out];simp),if_neg (by rw [HL.out];simp),if_pos (by rw [HNN.out,hf]),if_neg (by rw [ha];simp)]),HE5.out⟩
   ·go_wp2_with fail
    go_ret;exact ⟨zq (k:=.i64) (a:=0) (by unfold zct;rw [if_neg (by rw [H0.out];simp),if_neg (by rw [HL.out];simp),if_pos (by rw [HNN.out,hf]),if_pos ha]),HE5.out⟩
end Go.Proofs.YtdamgacabfbpjaaGreat
