/-
  The walks of finishes and of its iterator: it yields all finishes.
-/
import Derived.Test.YtkfifbopmpcanaaGreatHa
import Derived.Test.YtkfifbopmpcanaaGreatBb
import Derived.Test.YtkfifbopmpcanaaGreatBa
import Derived.Test.YtkfifbopmpcanaaGreatBc
import Derived.Lib.SliceRun
import Derived.Laws.CopyRow
import Derived.Laws.EntriesVeiled
namespace Go.Proofs.YtkfifbopmpcanaaGreat
open Go.RowKit Go.Shelf
attribute [local go_sem] Oper.semAt_some
set_option maxHeartbeats 2000000 in
theorem zwu (n:Nat) (a b c d e a' b' c' d' e':Int) (w:World):(Op.equalIn (n+2) 127 (.agg #[.int .i64 a,.int .i64 b,.int .i64 c,.int .i64 d,.int .i64 e]) (.agg #[.int .i64 a',.int .i64 b',.int .i64 c',.int .i64 d',.int .i64 e'])).run Tryz.prog w = .ok (a == a' && (b == b' && (c == c' && (d == d' && e == e')))) w:=by
 have hi:∀ x y:Int,∀ w,(Op.equalIn (n+1) 3 (.int .i64 x) (.int .i64 y)).run Tryz.prog w = .ok (x == y) w:=fun x y w=>run_equalIn_int w n 3 .i64 .i64 x y (by kernel_rfl)
 rw [Op.equalIn]
 simp only [Sem.run_bind,Tryz.runUnderlying127,Result.andThen_ok]
 have hr:List.range' 0 5=[0,1,2,3,4]:=rfl
 by_cases e1:a=a'
 ·by_cases e2:b=b'
  ·by_cases e3:c=c'
   ·by_cases e4:d=d'
    ·by_cases e5:e=e'<;>simp [go_sem,hi,e1,e2,e3,e4,e5,hr]
    ·simp [go_sem,hi,e1,e2,e3,e4,hr]
   ·simp [go_sem,hi,e1,e2,e3,hr]
  ·simp [go_sem,hi,e1,e2,hr]
 ·simp [go_sem,hi,e1,hr]
theorem z7h {f g:List Int} {n:Nat} (hn:n≤5) (hf:f.length=n) (hg:g.length=n):(pl f 0 == pl g 0 && (pl f 1 == pl g 1 && (pl f 2 == pl g 2 && (pl f 3 == pl g 3 && pl f 4 == pl g 4))))=decide (f=g):=by
 have key:(pl f 0=pl g 0∧pl f 1=pl g 1∧pl f 2=pl g 2∧pl f 3=pl g 3∧pl f 4=pl g 4)↔f=g:=by
  constructor
  ·rintro ⟨h0,h1,h2,h3,h4⟩
   refine zwn hf hg fun i hi=>?_
   have hi5:i < 5:=by omega
   match i,hi5 with
   | 0,_=>exact h0
   | 1,_=>exact h1
   | 2,_=>exact h2
   | 3,_=>exact h3
   | 4,_=>exact h4
  ·rintro rfl;exact ⟨rfl,rfl,rfl,rfl,rfl⟩
 rw [Bool.eq_iff_iff]
 simp only [Bool.and_eq_true,beq_iff_eq,decide_eq_true_eq]
 exact key
theorem ztm {f g:List Int} {n:Nat} (hn:n≤5) (hf:f.length=n) (hg:g.length=n) (w:World):(Op.equalIn 10000 127 (arr5 f) (arr5 g)).run Tryz.prog w = .ok (decide (f=g)) w:=by
 have h:=zwu 9998 (pl f 0) (pl f 1) (pl f 2) (pl f 3) (pl f 4) (pl g 0) (pl g 1) (pl g 2) (pl g 3) (pl g 4) w
 rw [z7h hn hf hg] at h
 exact h
set_option maxRecDepth 100000 in
set_option maxHeartbeats 1000000 in
theorem zuo (p:Nat) (w:World) :
  Calls Tryz.prog 177 #[.pointer (some ⟨p,0,none⟩)] w fun e w'=>e = .returned (.func (.func 217) #[] #[.pointer (some ⟨w.heap.size,0,none⟩)]) ∧
   Ext w w'∧w'.cell? ⟨w.heap.size,0,none⟩=some (.pointer (some ⟨p,0,none⟩))∧w'.heap.size=w.heap.size+1:=by
 go_enter Tryz.func177,Tryz.ntmps177
 go_wp2
 go_ret
 exact ⟨rfl,by exact xx,by simp [go_sem],by simp⟩
def zuz (w:World) (g n:Nat):List Int:=(List.range n).map fun j=>intOf ((w.cell? ⟨g,j,none⟩).getD undef)
theorem zls {w:World} {g n:Nat} {f:List Int} (h:A5 w g (pl f)) (hn:n≤5) (hf:f.length=n):zuz w g n=f:=by
 refine zwn (by simp [zuz]) hf fun i hi=>?_
 unfold zuz
 have e:pl ((List.range n).map fun j=>intOf ((w.cell? ⟨g,j,none⟩).getD undef)) i=intOf ((w.cell? ⟨g,i,none⟩).getD undef):=by
  unfold pl
  rw [List.getD_eq_getElem?_getD,List.getElem?_map,List.getElem?_range hi];rfl
 rw [e,h.cell i (by omega)]
 rfl
theorem zks {f:List Int} {i j:Nat} {x:Int} (hi:i < f.length):pl (f.set i x) j=if j=i then x else pl f j:=by
 unfold pl
 rw [List.getD_eq_getElem?_getD,List.getD_eq_getElem?_getD,List.getElem?_set]
 by_cases e:i=j
 ·subst e;rw [if_pos rfl,if_pos hi,if_pos rfl];rfl
 ·rw [if_neg e,if_neg (fun h=>e h.symm)]
set_option maxRecDepth 100000 in
set_option maxHeartbeats 8000000 in
theorem z0k (n p bt:Nat) (R:Nat→Prop) (w0:World) (hn1:2≤n) (hn5:n≤5) (hR:∀ k,R k→k < w0.heap.size)
  (hM:∀ W,Kept R w0 W→W.cell? ⟨bt,0,none⟩=some (.pointer (some ⟨p,0,none⟩))∧W.cell? ⟨p,0,none⟩=some (.int .i64 n)) :
  Iter Tryz.prog 217 #[.pointer (some ⟨bt,0,none⟩)] (fun x:List Int=>#[arr5 x]) R (fun xs=>xs=zel n) (fun _=>True) (fun pre x=>∃ rest,zel n=pre ++ x :: rest) w0:=by
 intro n0 l J Jx W hW hJ hJx hY h0
 have hk0:Kept R w0 W:=(Kept.of_below hW).mono fun k hk _=>trivial
 have HMM:=Lib.hid hM
 have HK0:=Lib.hid hk0
 have HR0:=Lib.hid hR
 obtain ⟨ct,cp⟩:=hM W hk0
 have hzt:=World.block_lt_of_cell? _ _ ct
 have hzp:=World.block_lt_of_cell? _ _ cp
 simp only at hzt hzp
 have HJ:=Lib.hid hJ
 have HY:=Lib.hid hY
 have HH0:=Lib.hid h0
 have hs0:=hW.size
 refine callsIn_of_wp Tryz.func217 rfl trivial ?_ rfl
 simp only [Tryz.ntmps217,List.size_toArray,List.length_cons,List.length_nil,Nat.reduceAdd,Nat.reduceSub,Array.replicate_succ,Array.replicate_zero,List.push_toArray,List.append_toArray,List.nil_append,List.cons_append]
 clear hJ hJx hY h0 hW hM hk0 hR
 gi_wp2_with fail
 obtain ⟨W1,hW1⟩:∃ W1,W1=W.alloc (.cells #[.int .i64 0,.int .i64 0,.int .i64 0,.int .i64 0,.int .i64 0] 127):=⟨_,rfl⟩
 have hE1:Ext W W1:=by rw [hW1];exact xx
 obtain ⟨g,hg⟩:∃ g,g=W.heap.size:=⟨_,rfl⟩
 have hA1:A5 W1 g (fun j=>if j < 0 then 1 else 0):=by
  have h1:=A5.new W 0 0 0 0 0
  rw [← hW1,← hg] at h1
  refine h1.congr fun j hj=>?_
  rw [if_neg (by omega)]
  match j,hj with
  | 0,_=>rfl
  | 1,_=>rfl
  | 2,_=>rfl
  | 3,_=>rfl
  | 4,_=>rfl
 rw [← hg,← hW1]
 have ct1:=zh hE1 ct
 have cp1:=zh hE1 cp
 have hgw:w0.heap.size≤g:=by omega
 have HA1:=Lib.hid hA1
 have HK1:=Lib.hid ((Kept.of_below hE1).mono (T:=R) fun k _ _=>trivial:Kept R W W1)
 have HJ1:=Lib.hid (HJ.out [] (fun _=>False) (fun k=>k=g) W W1 HH0.out ((Kept.of_below hE1).mono fun k _ _=>trivial) (fun _ h=>h.elim) (fun k hk=>.inr ⟨by rw [hk,hg];exact Nat.le_refl _,by rw [hk];exact hA1.lt⟩))
 have hpg:p≠g:=by omega
 have HW0:=Lib.hid hgw
 have hgR:∀ k,R k→k≠g:=fun k hk=>by have:=HR0.out k hk;omega
 have HGR:=Lib.hid hgR
 clear hW1 hE1 hA1 hg ct cp hzt hzp HH0 hgw hgR hs0
 gi_wp2_with fail
 gi_loopw [11] (fun iv wr=>∃ i:Nat,i≤n∧iv = .int .i64 i∧A5 wr g (fun j=>if j < i then 1 else 0)∧J (fun k=>k=g) [] wr∧Kept R W wr) (fun iv _=>n - (intOf iv).toNat)
 case atStart=>exact ⟨0,by omega,rfl,HA1.out,HJ1.out,HK1.out⟩
 case round =>
  obtain ⟨i,hi,rfl,hA,hj,hK⟩:=hrel
  have HA2:=Lib.hid hA
  have HJ2:=Lib.hid hj
  have HK2:=Lib.hid hK
  by_cases hlt:i < n
  ·have hii:(i:Int) < (n:Int):=by omega
   have ci:=hA.cell i (by omega)
   have hfr:=hA.free i
   have hgl:=hA.lt
   have hi5:i < 5:=by omega
   clear hA hj hK
   gi_wp2_with fail
   go_roundw
   case rel =>
    refine ⟨i+1,by omega,by go_num,(HA2.out.set i 1).congr fun j hj5=>?_,(HJ.out []).setCell HJ2.out (p:=⟨g,i,none⟩) rfl _,HK2.out.setCell (fun _ h=>HGR.out _ h rfl) _⟩
    show (if j=i then (1:Int) else if j < i then 1 else 0)=if j < i+1 then 1 else 0
    by_cases e:j=i
    ·rw [if_pos e,if_pos (by omega)]
    ·rw [if_neg e]
     by_cases e2:j < i
     ·rw [if_pos e2,if_pos (by omega)]
     ·rw [if_neg e2,if_neg (by omega)]
   case measure=>simp [intOf];omega
  ·have hii:¬ ((i:Int) < (n:Int)):=by omega
   obtain rfl:n=i:=by omega
   have hA0:A5 wr g (pl (digs n n 0)):=hA.congr fun j hj5=>by
    rw [zrf (by omega)]
    unfold pl
    rw [List.getD_eq_getElem?_getD]
    by_cases e:j < n
    ·rw [if_pos e,List.getElem?_replicate,if_pos e];rfl
    ·rw [if_neg e,List.getElem?_replicate,if_neg e];rfl
   have HA0:=Lib.hid hA0
   clear hA hj hK hA0 HA2 HA1 HJ1 HK1 hi
   gi_wp2_with fail
   gi_loopw [] (fun wr=>∃ m:Nat,m < n ^ n∧A5 wr g (pl (digs n n m))∧J (fun k=>k=g) (za5 n m) wr∧Kept R W wr) (fun wr=>n ^ n - z0f n (zuz wr g n))
   case atStart=>exact ⟨0,Nat.pow_pos (by omega),HA0.out,HJ2.out,HK2.out⟩
   case round =>
    obtain ⟨m,hm,hA,hj,hK⟩:=hrel
    obtain ⟨Wm,rfl⟩:∃ Wm,Wm=wr:=⟨_,rfl⟩
    clear HA0 HJ2 HK2
    have hA':=hA
    obtain ⟨D,hD⟩:∃ D,D=digs n n m:=⟨_,rfl⟩
    have hDl:D.length=n:=by rw [hD,za7]
    rw [← hD] at hA
    obtain ⟨c0,c1,c2,c3,c4⟩:=hA.five
    obtain ⟨kt,kp⟩:=HMM.out Wm (HK0.out.trans hK)
    have hgl:=hA.lt
    have hfr:=hA.free
    have hzt:=World.block_lt_of_cell? _ _ kt
    have hzp:=World.block_lt_of_cell? _ _ kp
    simp only at hzt hzp
    have HAr:=Lib.hid hA'
    have HJr:=Lib.hid hj
    have HKr:=Lib.hid hK
    have HD:=Lib.hid hD
    have HM:=Lib.hid hm
    obtain ⟨E,hE0⟩:∃ E,E=zc7 n D:=⟨_,rfl⟩
    have hEq:∀ W,(Op.equalIn 10000 127 (.agg #[.int .i64 (pl D 0),.int .i64 (pl D 1),.int .i64 (pl D 2),.int .i64 (pl D 3),.int .i64 (pl D 4)]) (.agg #[.int .i64 (pl E 0),.int .i64 (pl E 1),.int .i64 (pl E 2),.int .i64 (pl E 3),.int .i64 (pl E 4)])).run Tryz.prog W = .ok (zay n D) W:=fun W=>by rw [hE0];exact ztm hn5 hDl (zgb n D) W
    have hRK:∀ W,Ext Wm W→Calls Tryz.prog 57 #[.pointer (some ⟨p,0,none⟩),.agg #[.int .i64 (pl D 0),.int .i64 (pl D 1),.int .i64 (pl D 2),.int .i64 (pl D 3),.int .i64 (pl D 4)]] W fun e w'=>e = .returned (.agg #[.int .i64 (pl E 0),.int .i64 (pl E 1),.int .i64 (pl E 2),.int .i64 (pl E 3),.int .i64 (pl E 4)])∧Ext W w':=fun W hW=>by rw [hE0];exact zrj p n D W (zh hW kp) hn5
    have HRK:=Lib.hid hRK
    clear hRK hE0
    clear hA hA' hj hK hD hm
    cases hfin:zay n D
    ·rw [hfin] at hEq
     have HFN:=Lib.hid hfin
     clear hfin
     gi_wp2_with fail
     refine zb3 11 rfl (by kernel_rfl) (Wm.heap.size) (Nat.le_refl _)
      [sqV (.agg #[.int .i64 (pl D 0),.int .i64 (pl D 1),.int .i64 (pl D 2),.int .i64 (pl D 3),.int .i64 (pl D 4)]),sqV (.pointer (some ⟨p,0,none⟩)),sqV (.agg #[.int .i64 (pl D 0),.int .i64 (pl D 1),.int .i64 (pl D 2),.int .i64 (pl D 3),.int .i64 (pl D 4)]),sqV (.agg #[.int .i64 (pl E 0),.int .i64 (pl E 1),.int .i64 (pl E 2),.int .i64 (pl E 3),.int .i64 (pl E 4)]),sqV (.bool false),sqV (.bool false),sqV undef,sqV undef,sqV undef,sqV undef,sqV (.bool false)]
      [true,true,true,true,true,true,true,true,true,true,true] [false,false,false,false,false,false,false,false,false,false,false] [true,true,true,true,true,true,true,true,true,true,true] [true,true,true,true,true,true,true,true,true,true,true] [true,true,true,true,true,true,false,false,false,false,true] [none,none,none,none,some false,some false,none,none,none,none,some false]
      (by kernel_rfl) (by kernel_rfl) (by decide +kernel) ⟨fun _ _ _ h=>h,⟨fun _ _ _ h=>h,⟨fun _ _ _ h=>h,trivial⟩⟩⟩ (by decide +kernel) (by decide +kernel) (by decide +kernel) rfl ⟨rfl,rfl,rfl⟩ ⟨?s0,?s1,?s2,?s3,?s4,?s5,?s6,?s7,?s8,?s9,?s10,trivial⟩ [some 17,some 18,some 19,some 20,some 21,some 22,some 23,some 24,some 25,some 26,some 27] rfl rfl ?send
     case s0 =>
      intro val ρ W hE hz hd hu hA hx
      have o0:ρ (.tmp 3) = .pointer (some ⟨g,0,none⟩):=hA.old 3 (by decide)
      have f_c0:=cell_below hE (by simp only;omega) c0
      have f_c1:=cell_below hE (by simp only;omega) c1
      have f_c2:=cell_below hE (by simp only;omega) c2
      have f_c3:=cell_below hE (by simp only;omega) c3
      have f_c4:=cell_below hE (by simp only;omega) c4
      clear hd hu
      exact ze (W':=W) (by simp [execOp,o0,f_c0,f_c1,f_c2,f_c3,f_c4,go_sem]) (Below.refl _ _) rfl
     case s1 =>
      intro val ρ W hE hz hd hu hA hx
      have o0:ρ (.tmp 1) = .pointer (some ⟨bt,0,none⟩):=hA.old 1 (by decide)
      have f_kt:=cell_below hE (by simp only;omega) kt
      clear hd hu
      exact ze (W':=W) (by simp [execOp,o0,f_kt,go_sem]) (Below.refl _ _) rfl
     case s2 =>
      intro val ρ W hE hz hd hu hA hx
      have o0:ρ (.tmp 3) = .pointer (some ⟨g,0,none⟩):=hA.old 3 (by decide)
      have f_c0:=cell_below hE (by simp only;omega) c0
      have f_c1:=cell_below hE (by simp only;omega) c1
      have f_c2:=cell_below hE (by simp only;omega) c2
      have f_c3:=cell_below hE (by simp only;omega) c3
      have f_c4:=cell_below hE (by simp only;omega) c4
      clear hd hu
      exact ze (W':=W) (by simp [execOp,o0,f_c0,f_c1,f_c2,f_c3,f_c4,go_sem]) (Below.refl _ _) rfl
     case s3 =>
      intro val ρ W hE hz hd hu hA hx
      have d1:ρ (.tmp 18) = .pointer (some ⟨p,0,none⟩):=(hA.dep 1 (by decide) 18 rfl).trans (hd 1 (by decide))
      have d2:ρ (.tmp 19) = .agg #[.int .i64 (pl D 0),.int .i64 (pl D 1),.int .i64 (pl D 2),.int .i64 (pl D 3),.int .i64 (pl D 4)]:=(hA.dep 2 (by decide) 19 rfl).trans (hd 2 (by decide))
      clear hd hu
      refine zbo 57 _ _ rfl #[.pointer (some ⟨p,0,none⟩),.agg #[.int .i64 (pl D 0),.int .i64 (pl D 1),.int .i64 (pl D 2),.int .i64 (pl D 3),.int .i64 (pl D 4)]] (hA.func _) (by simp [d1,d2]) (fun args W=>Tryz.call57 args W) ((HRK.out W hE).mono ?_)
      rintro e w' ⟨rfl,hb⟩
      exact ⟨_,rfl,hb,rfl⟩
     case s4 =>
      intro val ρ W hE hz hd hu hA hx
      have d0:ρ (.tmp 17) = .agg #[.int .i64 (pl D 0),.int .i64 (pl D 1),.int .i64 (pl D 2),.int .i64 (pl D 3),.int .i64 (pl D 4)]:=(hA.dep 0 (by decide) 17 rfl).trans (hd 0 (by decide))
      have d3:ρ (.tmp 20) = .agg #[.int .i64 (pl E 0),.int .i64 (pl E 1),.int .i64 (pl E 2),.int .i64 (pl E 3),.int .i64 (pl E 4)]:=(hA.dep 3 (by decide) 20 rfl).trans (hd 3 (by decide))
      clear hd hu
      exact ze (W':=W) (by simp [execOp,d0,d3,hEq,go_sem]) (Below.refl _ _) rfl
     case s5 =>
      intro val ρ W hE hz hd hu hA hx
      have d4:ρ (.tmp 21) = .bool false:=(hA.dep 4 (by decide) 21 rfl).trans (hd 4 (by decide))
      clear hd hu
      exact ze (W':=W) (by simp [execOp,d4,go_sem]) (Below.refl _ _) rfl
     case s6=>exact ⟨fun _ _=>rfl,fun _ _ _ h=>h⟩
     case s7=>exact ⟨fun _ _=>rfl,fun _ _ _ h=>h⟩
     case s8=>exact ⟨fun _ _=>rfl,fun _ _ _ h=>h⟩
     case s9=>exact ⟨fun _ _=>rfl,fun _ _ _ h=>h⟩
     case s10 =>
      intro val ρ W hE hz hd hu hA hx
      have d5:ρ (.tmp 22) = .bool false:=(hA.dep 5 (by decide) 22 rfl).trans (hd 5 (by decide))
      clear hd hu
      exact ze (W':=W) (by simp [execOp,hA.const,d5,go_sem]) (Below.refl _ _) rfl
     case send =>
      intro val WW hE hzz hv
      obtain ⟨-,-,-,-,-,-,-,-,-,-,r10,-⟩:=hv
      have r10':val 10 = .bool false:=r10
      simp only [putD,r10']
      go_frame
      have HAn:Hid (A5 WW g (pl (digs n n m))):=Lib.hid (HAr.out.of_heap (hE.block _ hgl))
      have HJn:Hid (J (fun k=>k=g) (za5 n (m+1)) WW):=Lib.hid (by
       rw [zhn,← HD.out,if_neg (by rw [HFN.out];simp),List.append_nil]
       exact (HJ.out _).ext HJr.out hE)
      have HKn:Hid (Kept R W WW):=Lib.hid (HKr.out.trans ((Kept.of_below hE).mono fun _ _ _=>trivial))
      clear r10 r10' hE hzz hEq c0 c1 c2 c3 c4 kt kp hgl hfr hzt hzp HJr HKr HRK HFN
      obtain ⟨kt,kp⟩:=HMM.out WW (HK0.out.trans HKn.out)
      have hzt:=World.block_lt_of_cell? _ _ kt
      have hzp:=World.block_lt_of_cell? _ _ kp
      simp only at hzt hzp
      have hws:IntKind.i64.wrap ((n:Int) - 1)=(n:Int) - 1:=IntWalk.i64_in _ (by omega)
      try simp only [List.drop,wpListIn,Exit.then]
      gi_wp2_with fail
      gi_loopw [5] (fun iv wr=>∃ t:Nat,t≤n∧iv = .int .i64 ((n:Int) - 1 - t)∧A5 wr g (pl (zbm n m t))∧m % n ^ t=n ^ t - 1∧J (fun k=>k=g) (za5 n (m+1)) wr∧Kept R W wr) (fun iv _=>(intOf iv+1).toNat)
      case atStart=>exact ⟨0,by omega,by simp,by rw [zre];exact HAn.out,by simp [Nat.mod_one],HJn.out,HKn.out⟩
      case round =>
       obtain ⟨t,ht,rfl,hA,hfull,hj,hK⟩:=hrel
       obtain ⟨kt,kp⟩:=HMM.out wr (HK0.out.trans hK)
       have hzt:=World.block_lt_of_cell? _ _ kt
       have hzp:=World.block_lt_of_cell? _ _ kp
       simp only at hzt hzp
       have HAt:=Lib.hid hA
       have HFt:=Lib.hid hfull
       have HJt:=Lib.hid hj
       have HKt:=Lib.hid hK
       by_cases hlt:t < n
       ·obtain ⟨q,hq⟩:∃ q,q=n - 1 - t:=⟨_,rfl⟩
        have hqi:(n:Int) - 1 - t=(q:Int):=by omega
        rw [hqi]
        have cq:=hA.cell q (by omega)
        rw [hq,zwo hlt,← hq] at cq
        have hfr:=hA.free q
        have hgl:=hA.lt
        have hq5:q < 5:=by omega
        have hq0:decide ((0:Int)≤(q:Int))=true:=by rw [decide_eq_true_eq];omega
        obtain ⟨d,hd⟩:∃ d,d=dig n m t:=⟨_,rfl⟩
        rw [← hd] at cq
        have hdn:d < n:=by rw [hd];exact Nat.mod_lt _ (by omega)
        have HQ:=Lib.hid hq
        have HDg:=Lib.hid hd
        have HQI:=Lib.hid hqi
        have HLT:=Lib.hid hlt
        clear hA hfull hj hK hq hd hqi
        by_cases hdd:d=n - 1
        ·have hde:(1+(d:Int) == (n:Int))=true:=by rw [beq_iff_eq];omega
         have HDD:=Lib.hid hdd
         clear hdd
         gi_wp2_with fail
         refine wpIn_wide.2 ?_
         go_quiet (fail)
         gi_wp2_with fail
         go_roundw
         case rel =>
          have hql:q < (zbm n m t).length:=by rw [ze1 (by have:=HLT.out;omega)];have h7:=HQ.out;have h8:=HLT.out;omega
          have hA2:=((HAt.out.of_heap (W':=wr.drewN nq) rfl).set q 1).congr (f':=pl (zbm n m (t+1))) fun j _=>by
           rw [← ztj HLT.out,← HQ.out,zks hql]
          refine ⟨t+1,by have:=HLT.out;omega,by have h9:=HQI.out;rw [show (q:Int) - 1=(n:Int) - 1 - ((t+1:Nat):Int) by omega],hA2,zti (by omega) HFt.out (by rw [← HDg.out];exact HDD.out),(HJ.out _).setCell (p:=⟨g,q,none⟩) ((HJ.out _).ext HJt.out (Ext.drN (Below.refl _ wr) nq)) rfl _,(HKt.out.drN _).setCell (fun _ h=>HGR.out _ h rfl) _⟩
         case measure=>first | (simp [intOf];done) | (simp [intOf];omega)
        ·have hde:(1+(d:Int) == (n:Int))=false:=by rw [beq_eq_false_iff_ne];omega
         have HDD:=Lib.hid hdd
         have hq0':decide ((q:Int) < 0)=false:=by rw [decide_eq_false_iff_not];omega
         have hws2:IntKind.i64.wrap (1+(d:Int)+1)=1+(d:Int)+1:=IntWalk.i64_in _ (by omega)
         clear hdd
         gi_wp2_with fail
         refine wpIn_wide.2 ?_
         go_quiet (fail)
         gi_wp2_with fail
         go_roundw
         case rel =>
          have hql:q < (zbm n m t).length:=by rw [ze1 (by have:=HLT.out;omega)];have h7:=HQ.out;have h8:=HLT.out;omega
          have hA2:=((HAt.out.of_heap (W':=wr.drewN nq) rfl).set q (1+(d:Int)+1)).congr (f':=pl (digs n n (m+1))) fun j _=>by
           rw [← zh3 (by omega) HLT.out HFt.out (by rw [← HDg.out];exact HDD.out),← HQ.out,zks hql,← HDg.out,show (2+(d:Int))=1+(d:Int)+1 by omega]
          have hm1:=zlr (by omega) HLT.out HM.out (by rw [← HDg.out];exact HDD.out)
          exact ⟨m+1,hm1,hA2,(HJ.out _).setCell (p:=⟨g,q,none⟩) ((HJ.out _).ext HJt.out (Ext.drN (Below.refl _ wr) nq)) rfl _,(HKt.out.drN _).setCell (fun _ h=>HGR.out _ h rfl) _⟩
         case measure =>
          have hql:q < (zbm n m t).length:=by rw [ze1 (by have:=HLT.out;omega)];have h7:=HQ.out;have h8:=HLT.out;omega
          have hA2:=((HAt.out.of_heap (W':=wr.drewN nq) rfl).set q (1+(d:Int)+1)).congr (f':=pl (digs n n (m+1))) fun j _=>by
           rw [← zh3 (by omega) HLT.out HFt.out (by rw [← HDg.out];exact HDD.out),← HQ.out,zks hql,← HDg.out,show (2+(d:Int))=1+(d:Int)+1 by omega]
          have hm1:=zlr (by omega) HLT.out HM.out (by rw [← HDg.out];exact HDD.out)
          rw [zls hA2 hn5 (za7 n n _),zls HAr.out hn5 (za7 n n _),zfa (by omega) hm1,zfa (by omega) HM.out]
          have:=HM.out
          omega
       ·have hte:t=n:=by omega
        have hqi:(n:Int) - 1 - t = -1:=by omega
        rw [hqi]
        have hq0:decide ((0:Int)≤-1)=false:=by decide
        have HTE:=Lib.hid hte
        clear hte
        gi_wp2_with fail
        refine wpIn_wide.2 ?_
        go_quiet (fail)
        gi_wp2_with fail
        refine bodyPost_ret (results_none rfl _ _ _) rfl ?_
        have hlast:=zwp HM.out (by have h9:=HFt.out;rw [HTE.out] at h9;exact h9)
        exact ⟨⟨_,rfl⟩,.inl ⟨_,za5 n (m+1),by rw [hlast];rfl,(HJ.out _).ext HJt.out (Ext.drN (Below.refl _ wr) nq)⟩⟩
    ·rw [hfin] at hEq
     have HFN:=Lib.hid hfin
     clear hfin
     gi_wp2_with fail
     refine zb3 8 rfl (by kernel_rfl) (Wm.heap.size) (Nat.le_refl _)
      [sqV (.agg #[.int .i64 (pl D 0),.int .i64 (pl D 1),.int .i64 (pl D 2),.int .i64 (pl D 3),.int .i64 (pl D 4)]),sqV (.pointer (some ⟨p,0,none⟩)),sqV (.agg #[.int .i64 (pl D 0),.int .i64 (pl D 1),.int .i64 (pl D 2),.int .i64 (pl D 3),.int .i64 (pl D 4)]),sqV (.agg #[.int .i64 (pl E 0),.int .i64 (pl E 1),.int .i64 (pl E 2),.int .i64 (pl E 3),.int .i64 (pl E 4)]),sqV (.bool true),sqV (.bool true),sqV (.func (.yield l) #[] #[]),sqV (.agg #[.int .i64 (pl D 0),.int .i64 (pl D 1),.int .i64 (pl D 2),.int .i64 (pl D 3),.int .i64 (pl D 4)])]
      [true,true,true,true,true,true,true,true] [false,false,false,false,false,false,false,false] [true,true,true,true,true,true,true,true] [true,true,true,true,true,true,true,true] [true,true,true,true,true,true,true,true] [none,none,none,none,some true,some true]
      (by kernel_rfl) (by kernel_rfl) (by decide +kernel) ⟨fun _ _ _ h=>h,⟨fun _ _ _ h=>h,trivial⟩⟩ (by decide +kernel) (by decide +kernel) (by decide +kernel) rfl ⟨rfl,rfl,rfl⟩ ⟨?s0,?s1,?s2,?s3,?s4,?s5,?s6,?s7,trivial⟩ [some 17,some 18,some 19,some 20,some 21,some 22,some 23,some 24] rfl rfl ?send
     case s0 =>
      intro val ρ W hE hz hd hu hA hx
      have o0:ρ (.tmp 3) = .pointer (some ⟨g,0,none⟩):=hA.old 3 (by decide)
      have f_c0:=cell_below hE (by simp only;omega) c0
      have f_c1:=cell_below hE (by simp only;omega) c1
      have f_c2:=cell_below hE (by simp only;omega) c2
      have f_c3:=cell_below hE (by simp only;omega) c3
      have f_c4:=cell_below hE (by simp only;omega) c4
      clear hd hu
      exact ze (W':=W) (by simp [execOp,o0,f_c0,f_c1,f_c2,f_c3,f_c4,go_sem]) (Below.refl _ _) rfl
     case s1 =>
      intro val ρ W hE hz hd hu hA hx
      have o0:ρ (.tmp 1) = .pointer (some ⟨bt,0,none⟩):=hA.old 1 (by decide)
      have f_kt:=cell_below hE (by simp only;omega) kt
      clear hd hu
      exact ze (W':=W) (by simp [execOp,o0,f_kt,go_sem]) (Below.refl _ _) rfl
     case s2 =>
      intro val ρ W hE hz hd hu hA hx
      have o0:ρ (.tmp 3) = .pointer (some ⟨g,0,none⟩):=hA.old 3 (by decide)
      have f_c0:=cell_below hE (by simp only;omega) c0
      have f_c1:=cell_below hE (by simp only;omega) c1
      have f_c2:=cell_below hE (by simp only;omega) c2
      have f_c3:=cell_below hE (by simp only;omega) c3
      have f_c4:=cell_below hE (by simp only;omega) c4
      clear hd hu
      exact ze (W':=W) (by simp [execOp,o0,f_c0,f_c1,f_c2,f_c3,f_c4,go_sem]) (Below.refl _ _) rfl
     case s3 =>
      intro val ρ W hE hz hd hu hA hx
      have d1:ρ (.tmp 18) = .pointer (some ⟨p,0,none⟩):=(hA.dep 1 (by decide) 18 rfl).trans (hd 1 (by decide))
      have d2:ρ (.tmp 19) = .agg #[.int .i64 (pl D 0),.int .i64 (pl D 1),.int .i64 (pl D 2),.int .i64 (pl D 3),.int .i64 (pl D 4)]:=(hA.dep 2 (by decide) 19 rfl).trans (hd 2 (by decide))
      clear hd hu
      refine zbo 57 _ _ rfl #[.pointer (some ⟨p,0,none⟩),.agg #[.int .i64 (pl D 0),.int .i64 (pl D 1),.int .i64 (pl D 2),.int .i64 (pl D 3),.int .i64 (pl D 4)]] (hA.func _) (by simp [d1,d2]) (fun args W=>Tryz.call57 args W) ((HRK.out W hE).mono ?_)
      rintro e w' ⟨rfl,hb⟩
      exact ⟨_,rfl,hb,rfl⟩
     case s4 =>
      intro val ρ W hE hz hd hu hA hx
      have d0:ρ (.tmp 17) = .agg #[.int .i64 (pl D 0),.int .i64 (pl D 1),.int .i64 (pl D 2),.int .i64 (pl D 3),.int .i64 (pl D 4)]:=(hA.dep 0 (by decide) 17 rfl).trans (hd 0 (by decide))
      have d3:ρ (.tmp 20) = .agg #[.int .i64 (pl E 0),.int .i64 (pl E 1),.int .i64 (pl E 2),.int .i64 (pl E 3),.int .i64 (pl E 4)]:=(hA.dep 3 (by decide) 20 rfl).trans (hd 3 (by decide))
      clear hd hu
      exact ze (W':=W) (by simp [execOp,d0,d3,hEq,go_sem]) (Below.refl _ _) rfl
     case s5 =>
      intro val ρ W hE hz hd hu hA hx
      have d4:ρ (.tmp 21) = .bool true:=(hA.dep 4 (by decide) 21 rfl).trans (hd 4 (by decide))
      clear hd hu
      exact ze (W':=W) (by simp [execOp,d4,go_sem]) (Below.refl _ _) rfl
     case s6 =>
      intro val ρ W hE hz hd hu hA hx
      have o0:ρ (.tmp 0) = .func (.yield l) #[] #[]:=hA.old 0 (by decide)
      clear hd hu
      exact ze (W':=W) (by simp [execOp,o0,go_sem]) (Below.refl _ _) rfl
     case s7 =>
      intro val ρ W hE hz hd hu hA hx
      have o0:ρ (.tmp 3) = .pointer (some ⟨g,0,none⟩):=hA.old 3 (by decide)
      have f_c0:=cell_below hE (by simp only;omega) c0
      have f_c1:=cell_below hE (by simp only;omega) c1
      have f_c2:=cell_below hE (by simp only;omega) c2
      have f_c3:=cell_below hE (by simp only;omega) c3
      have f_c4:=cell_below hE (by simp only;omega) c4
      clear hd hu
      exact ze (W':=W) (by simp [execOp,o0,f_c0,f_c1,f_c2,f_c3,f_c4,go_sem]) (Below.refl _ _) rfl
     case send =>
      intro val WW hE hzz
      generalize hG:wpListIn _ _ _ _ _ _ _ _=G
      intro hv
      obtain ⟨-,-,-,-,-,r5,r6,r7,-⟩:=hv
      have r5':val 5 = .bool true:=r5
      have r6':val 6 = .func (.yield l) #[] #[]:=r6
      have r7':val 7 = .agg #[.int .i64 (pl D 0),.int .i64 (pl D 1),.int .i64 (pl D 2),.int .i64 (pl D 3),.int .i64 (pl D 4)]:=r7
      subst hG
      simp only [putD,r5',r6',r7']
      go_frame
      have hpre:∃ rest,zel n=za5 n m ++ D :: rest:=by
       obtain ⟨rest,hr⟩:=zxr n (k:=m+1) (m:=n ^ n) (Nat.succ_le_of_lt HM.out)
       exact ⟨rest,by unfold zel;rw [hr,zhn,← HD.out,if_pos HFN.out,List.append_assoc];rfl⟩
      have hy:=HY.out (fun k=>k=g) (za5 n m) D WW ((HJ.out _).ext HJr.out hE) hpre
      have HAw:Hid (A5 WW g (pl (digs n n m))):=Lib.hid (HAr.out.of_heap (hE.block _ hgl))
      have HKw:Hid (Kept R W WW):=Lib.hid (HKr.out.trans ((Kept.of_below hE).mono fun _ _ _=>trivial))
      have HPP:Hid (za5 n (m+1)=za5 n m ++ [D]):=Lib.hid (by rw [zhn,← HD.out,if_pos HFN.out])
      clear r5 r5' r6 r6' r7 r7' hE hzz hEq c0 c1 c2 c3 c4 kt kp hgl hfr hzt hzp HJr HKr HRK HFN hpre
      obtain ⟨fn,tmps,assign,body,hy,hR2⟩:=hy
      have hy:(Instr.yield l #[.agg #[.int .i64 (pl D 0),.int .i64 (pl D 1),.int .i64 (pl D 2),.int .i64 (pl D 3),.int .i64 (pl D 4)]]).run Tryz.prog WW = .ok (.round l fn tmps assign body) WW:=hy
      simp only [List.drop]
      gi_wp2_with fail
      refine ⟨fun h=>(by simp [Fence.wide] at h),hR2.mono ?_⟩
      clear hy hR2
      rintro e WX (⟨rfl,hj6,hk6⟩ | ⟨rfl,hj6⟩)
      ·obtain ⟨WW,rfl⟩:∃ WW,WW=WX:=⟨_,rfl⟩
       have HAn:Hid (A5 WW g (pl (digs n n m))):=Lib.hid (HAw.out.of_heap (hk6.same _ HAw.out.lt (.inr rfl)))
       have HJn:Hid (J (fun k=>k=g) (za5 n (m+1)) WW):=Lib.hid (by rw [HPP.out];exact hj6)
       have HKn:Hid (Kept R W WW):=Lib.hid (HKw.out.trans (hk6.mono fun _ _ h=>.inl h))
       clear hj6 hk6 HAw HKw HPP
       obtain ⟨kt,kp⟩:=HMM.out WW (HK0.out.trans HKn.out)
       have hzt:=World.block_lt_of_cell? _ _ kt
       have hzp:=World.block_lt_of_cell? _ _ kp
       simp only at hzt hzp
       have hws:IntKind.i64.wrap ((n:Int) - 1)=(n:Int) - 1:=IntWalk.i64_in _ (by omega)
       try simp only []
       gi_wp2_with fail
       gi_loopw [5] (fun iv wr=>∃ t:Nat,t≤n∧iv = .int .i64 ((n:Int) - 1 - t)∧A5 wr g (pl (zbm n m t))∧m % n ^ t=n ^ t - 1∧J (fun k=>k=g) (za5 n (m+1)) wr∧Kept R W wr) (fun iv _=>(intOf iv+1).toNat)
       case atStart=>exact ⟨0,by omega,by simp,by rw [zre];exact HAn.out,by simp [Nat.mod_one],HJn.out,HKn.out⟩
       case round =>
        obtain ⟨t,ht,rfl,hA,hfull,hj,hK⟩:=hrel
        obtain ⟨kt,kp⟩:=HMM.out wr (HK0.out.trans hK)
        have hzt:=World.block_lt_of_cell? _ _ kt
        have hzp:=World.block_lt_of_cell? _ _ kp
        simp only at hzt hzp
        have HAt:=Lib.hid hA
        have HFt:=Lib.hid hfull
        have HJt:=Lib.hid hj
        have HKt:=Lib.hid hK
        by_cases hlt:t < n
        ·obtain ⟨q,hq⟩:∃ q,q=n - 1 - t:=⟨_,rfl⟩
         have hqi:(n:Int) - 1 - t=(q:Int):=by omega
         rw [hqi]
         have cq:=hA.cell q (by omega)
         rw [hq,zwo hlt,← hq] at cq
         have hfr:=hA.free q
         have hgl:=hA.lt
         have hq5:q < 5:=by omega
         have hq0:decide ((0:Int)≤(q:Int))=true:=by rw [decide_eq_true_eq];omega
         obtain ⟨d,hd⟩:∃ d,d=dig n m t:=⟨_,rfl⟩
         rw [← hd] at cq
         have hdn:d < n:=by rw [hd];exact Nat.mod_lt _ (by omega)
         have HQ:=Lib.hid hq
         have HDg:=Lib.hid hd
         have HQI:=Lib.hid hqi
         have HLT:=Lib.hid hlt
         clear hA hfull hj hK hq hd hqi
         by_cases hdd:d=n - 1
         ·have hde:(1+(d:Int) == (n:Int))=true:=by rw [beq_iff_eq];omega
          have HDD:=Lib.hid hdd
          clear hdd
          gi_wp2_with fail
          refine wpIn_wide.2 ?_
          go_quiet (fail)
          gi_wp2_with fail
          go_roundw
          case rel =>
           have hql:q < (zbm n m t).length:=by rw [ze1 (by have:=HLT.out;omega)];have h7:=HQ.out;have h8:=HLT.out;omega
           have hA2:=((HAt.out.of_heap (W':=wr.drewN nq) rfl).set q 1).congr (f':=pl (zbm n m (t+1))) fun j _=>by
            rw [← ztj HLT.out,← HQ.out,zks hql]
           refine ⟨t+1,by have:=HLT.out;omega,by have h9:=HQI.out;rw [show (q:Int) - 1=(n:Int) - 1 - ((t+1:Nat):Int) by omega],hA2,zti (by omega) HFt.out (by rw [← HDg.out];exact HDD.out),(HJ.out _).setCell (p:=⟨g,q,none⟩) ((HJ.out _).ext HJt.out (Ext.drN (Below.refl _ wr) nq)) rfl _,(HKt.out.drN _).setCell (fun _ h=>HGR.out _ h rfl) _⟩
          case measure=>first | (simp [intOf];done) | (simp [intOf];omega)
         ·have hde:(1+(d:Int) == (n:Int))=false:=by rw [beq_eq_false_iff_ne];omega
          have HDD:=Lib.hid hdd
          have hq0':decide ((q:Int) < 0)=false:=by rw [decide_eq_false_iff_not];omega
          have hws2:IntKind.i64.wrap (1+(d:Int)+1)=1+(d:Int)+1:=IntWalk.i64_in _ (by omega)
          clear hdd
          gi_wp2_with fail
          refine wpIn_wide.2 ?_
          go_quiet (fail)
          gi_wp2_with fail
          go_roundw
          case rel =>
           have hql:q < (zbm n m t).length:=by rw [ze1 (by have:=HLT.out;omega)];have h7:=HQ.out;have h8:=HLT.out;omega
           have hA2:=((HAt.out.of_heap (W':=wr.drewN nq) rfl).set q (1+(d:Int)+1)).congr (f':=pl (digs n n (m+1))) fun j _=>by
            rw [← zh3 (by omega) HLT.out HFt.out (by rw [← HDg.out];exact HDD.out),← HQ.out,zks hql,← HDg.out,show (2+(d:Int))=1+(d:Int)+1 by omega]
           have hm1:=zlr (by omega) HLT.out HM.out (by rw [← HDg.out];exact HDD.out)
           exact ⟨m+1,hm1,hA2,(HJ.out _).setCell (p:=⟨g,q,none⟩) ((HJ.out _).ext HJt.out (Ext.drN (Below.refl _ wr) nq)) rfl _,(HKt.out.drN _).setCell (fun _ h=>HGR.out _ h rfl) _⟩
          case measure =>
           have hql:q < (zbm n m t).length:=by rw [ze1 (by have:=HLT.out;omega)];have h7:=HQ.out;have h8:=HLT.out;omega
           have hA2:=((HAt.out.of_heap (W':=wr.drewN nq) rfl).set q (1+(d:Int)+1)).congr (f':=pl (digs n n (m+1))) fun j _=>by
            rw [← zh3 (by omega) HLT.out HFt.out (by rw [← HDg.out];exact HDD.out),← HQ.out,zks hql,← HDg.out,show (2+(d:Int))=1+(d:Int)+1 by omega]
           have hm1:=zlr (by omega) HLT.out HM.out (by rw [← HDg.out];exact HDD.out)
           rw [zls hA2 hn5 (za7 n n _),zls HAr.out hn5 (za7 n n _),zfa (by omega) hm1,zfa (by omega) HM.out]
           have:=HM.out
           omega
        ·have hte:t=n:=by omega
         have hqi:(n:Int) - 1 - t = -1:=by omega
         rw [hqi]
         have hq0:decide ((0:Int)≤-1)=false:=by decide
         have HTE:=Lib.hid hte
         clear hte
         gi_wp2_with fail
         refine wpIn_wide.2 ?_
         go_quiet (fail)
         gi_wp2_with fail
         refine bodyPost_ret (results_none rfl _ _ _) rfl ?_
         have hlast:=zwp HM.out (by have h9:=HFt.out;rw [HTE.out] at h9;exact h9)
         exact ⟨⟨_,rfl⟩,.inl ⟨_,za5 n (m+1),by rw [hlast];rfl,(HJ.out _).ext HJt.out (Ext.drN (Below.refl _ wr) nq)⟩⟩
      ·have HJ6:=Lib.hid hj6
       clear hj6
       gi_wp2_with fail
       refine bodyPost_ret (results_none rfl _ _ _) rfl ?_
       exact ⟨⟨_,rfl⟩,.inr ⟨_,_,trivial,HJ6.out⟩⟩
end Go.Proofs.YtkfifbopmpcanaaGreat
namespace Go.Proofs.YtkfifbopmpcanaaGreat
open Go.RowKit Go.Shelf
attribute [local go_sem] Oper.semAt_some
theorem elPl:El 122 127 5:=El.mk' (bytes:=40) (z:=.agg #[.int .i64 0,.int .i64 0,.int .i64 0,.int .i64 0,.int .i64 0]) (by kernel_rfl) (by kernel_rfl) rfl (by omega) (by omega)
def fRow (f:List Int):List Value:=[.int .i64 (pl f 0),.int .i64 (pl f 1),.int .i64 (pl f 2),.int .i64 (pl f 3),.int .i64 (pl f 4)]
def IsFs (w:World) (v:Value) (l:List (List Int)):Prop:=IsRows w 5 v (l.map fRow)
theorem IsFs.ext {w w':World} (h:Ext w w') {v:Value} {l:List (List Int)} (hr:IsFs w v l):IsFs w' v l:=IsRows.ext h hr
theorem IsFs.spec {w:World} {v:Value} {l:List (List Int)} (h:IsFs w v l) :
  ∃ sa cap,v = .slice sa l.length cap∧l.length≤cap∧cap≤9223372036854775807∧(l=[]∨∃ b off,sa=some ⟨b,off,none⟩∧∀ i,(h:i < l.length)→∀ j,j < 5 →
   w.cell? ⟨b,off+i * 5+j,none⟩=some (.int .i64 (pl l[i] j))):=by
 obtain ⟨sa,cap,h1,h2,h3,h4⟩:=h
 refine ⟨sa,cap,by simpa using h1,by simpa using h2,h3,?_⟩
 rcases h4 with h4 | ⟨b,off,e,h4⟩
 ·exact .inl (by simpa using h4)
 ·refine .inr ⟨b,off,e,fun i hi j hj=>?_⟩
  have c0:=h4 i (by simpa using hi) j (by simp [fRow];exact hj)
  match j,hj with
  | 0,_=>simpa [fRow] using c0
  | 1,_=>simpa [fRow] using c0
  | 2,_=>simpa [fRow] using c0
  | 3,_=>simpa [fRow] using c0
  | 4,_=>simpa [fRow] using c0
theorem zxx {α:Type} (q:α→Bool) {l:List α} {k:Nat} (h:k < l.length):(l.take (k+1)).filter q=(l.take k).filter q ++ if q l[k]=true then [l[k]] else []:=by
 rw [List.take_add_one,List.getElem?_eq_getElem h,List.filter_append]
 congr 1
 cases hq:q l[k]<;>simp [hq]
set_option maxRecDepth 100000 in
set_option maxHeartbeats 4000000 in
theorem zwv (L:List (List Int)) (sa:Option Addr) (cap f:Nat) (fs cs:Array Value) (q:List Int→Bool) (w:World) (hv:IsFs w (.slice sa L.length cap) L) (hL:L.length≤100000)
  (hcall:∀ args W,(callFunc f args).run Tryz.prog W = .ok (.enter f args) W)
  (hf:∀ x,x∈L→∀ W,Ext w W→Calls Tryz.prog f (fs ++ #[.agg #[.int .i64 (pl x 0),.int .i64 (pl x 1),.int .i64 (pl x 2),.int .i64 (pl x 3),.int .i64 (pl x 4)]] ++ cs) W fun e W'=>e = .returned (.bool (q x))∧Ext W W') :
  Calls Tryz.prog 111 #[.slice sa L.length cap,.func (.func f) fs cs] w fun e w'=>∃ v,e = .returned v∧Ext w w'∧Owns w' w.heap.size 127 5 v ((L.filter q).map fRow):=by
 obtain ⟨_,_,e,h1,h2,h3⟩:=hv.spec
 cases e
 have H3:=Lib.hid h3
 have HF:=Lib.hid hf
 clear h3 hv hf
 go_enter Tryz.func111,Tryz.ntmps111
 go_wp2_with fail
 go_loopw [5,10] (fun ov iv wr=>∃ k:Nat,k≤L.length∧iv = .int .i64 k∧Owns wr w.heap.size 127 5 ov (((L.take k).filter q).map fRow)∧Ext w wr) (fun _ iv _=>L.length - (intOf iv).toNat)
 case atStart=>exact ⟨0,by omega,rfl,by simpa using Owns.nil _ _ _ _,Below.refl _ _⟩
 case round =>
  obtain ⟨k,hk,rfl,hown,hE⟩:=hrel
  have HO:=Lib.hid hown
  have HE:=Lib.hid hE
  obtain ⟨oa,on,oc,rfl⟩:=hown.isSlice
  by_cases hlt:k < L.length
  ·have hs':∃ b off,sa=some ⟨b,off,none⟩∧∀ i,(h:i < L.length)→∀ j,j < 5→w.cell? ⟨b,off+i * 5+j,none⟩=some (.int .i64 (pl L[i] j)):=by
    rcases H3.out with h | h
    ·rw [h] at hlt;simp at hlt
    ·exact h
   obtain ⟨b,off,rfl,hc⟩:=hs'
   have hki:(k:Int) < (L.length:Int):=by omega
   obtain ⟨x,hx⟩:∃ x,x=L[k]:=⟨_,rfl⟩
   have a0:=zh hE (hc k hlt 0 (by omega))
   have a1:=zh hE (hc k hlt 1 (by omega))
   have a2:=zh hE (hc k hlt 2 (by omega))
   have a3:=zh hE (hc k hlt 3 (by omega))
   have a4:=zh hE (hc k hlt 4 (by omega))
   rw [← hx] at a0 a1 a2 a3 a4
   rw [Nat.add_zero] at a0
   have hbz:=World.block_lt_of_cell? _ _ a0
   simp only at hbz
   have HFX:Hid (∀ W,Ext w W→Calls Tryz.prog f (fs ++ #[.agg #[.int .i64 (pl x 0),.int .i64 (pl x 1),.int .i64 (pl x 2),.int .i64 (pl x 3),.int .i64 (pl x 4)]] ++ cs) W fun e W'=>e = .returned (.bool (q x))∧Ext W W'):=Lib.hid (by rw [hx];exact HF.out _ (List.getElem_mem hlt))
   have HSU:Hid ((L.take (k+1)).filter q=(L.take k).filter q ++ if q x=true then [x] else []):=Lib.hid (by rw [hx];exact zxx q hlt)
   have HLEN:Hid ((((L.take k).filter q).map fRow).length + [fRow x].length≤1000000):=Lib.hid (by
    rw [List.length_map]
    have h5:=List.length_filter_le q (L.take k)
    have h6:=List.length_take_le k L
    simp only [List.length_cons,List.length_nil];omega)
   clear hc hx hown hE
   go_wp2_with fail
   refine (HFX.out _ (HE.out.trans' (by exact xx))).mono ?_
   rintro e Y ⟨rfl,hEY⟩
   have hEW:Ext wr Y:=Ext.trans' (by exact xx) hEY
   have y0:Y.cell? ⟨wr.heap.size,0,none⟩=some (.int .i64 (pl x 0)):=zh hEY (by simp [go_sem])
   have y1:Y.cell? ⟨wr.heap.size,1,none⟩=some (.int .i64 (pl x 1)):=zh hEY (by simp [go_sem])
   have y2:Y.cell? ⟨wr.heap.size,2,none⟩=some (.int .i64 (pl x 2)):=zh hEY (by simp [go_sem])
   have y3:Y.cell? ⟨wr.heap.size,3,none⟩=some (.int .i64 (pl x 3)):=zh hEY (by simp [go_sem])
   have y4:Y.cell? ⟨wr.heap.size,4,none⟩=some (.int .i64 (pl x 4)):=zh hEY (by simp [go_sem])
   have hyz:=World.block_lt_of_cell? _ _ y0
   simp only at hyz
   have HEY:=Lib.hid (HE.out.trans' hEW)
   have hwy:=(HE.out.trans' hEW).size
   replace HO:=Lib.hid (HO.out.ext hEW)
   clear hEY hEW a0 a1 a2 a3 a4 hbz
   cases hq:q x
   ·have HQ:=Lib.hid hq
    clear hq
    go_wp2_with fail
    go_roundw
    case rel=>exact ⟨k+1,by omega,by go_num,by rw [HSU.out,if_neg (by rw [HQ.out];simp),List.append_nil];exact HO.out,HEY.out⟩
    case measure=>simp [intOf];omega
   ·have HQ:=Lib.hid hq
    clear hq
    go_wp2_with (at_builtin;refine z5x rfl (.tmp 17) (.tmp 19) elPl rfl w.heap.size rfl (HO.out.ext (by exact xx)) Y.heap.size 0 1 [fRow x] rfl (by simp [fRow]) (zep _ (fRow x) _ _ _ rfl rfl) (by simp [fRow,Value.oneCell']) HLEN.out (by simp;omega) ?_)
    intro v' W4 hown4 hb4
    obtain ⟨va,vn,vc,rfl⟩:=hown4.isSlice
    have hE4:Ext w W4:=Below.trans (HEY.out.trans' (by exact xx:Ext Y (Y.alloc (.cells #[.int .i64 (pl x 0),.int .i64 (pl x 1),.int .i64 (pl x 2),.int .i64 (pl x 3),.int .i64 (pl x 4)] 127)))) hb4
    have HO4:=Lib.hid hown4
    have HE4:=Lib.hid hE4
    clear hown4 hb4 hE4
    go_wp2_with fail
    go_roundw
    case rel=>exact ⟨k+1,by omega,by go_num,by rw [HSU.out,if_pos HQ.out,List.map_append];exact HO4.out,HE4.out⟩
    case measure=>simp [intOf];omega
  ·have hki:¬ ((k:Int) < (L.length:Int)):=by omega
   have hke:k=L.length:=by omega
   have HO3:Hid (Owns wr w.heap.size 127 5 (.slice oa on oc) ((L.filter q).map fRow)):=Lib.hid (by rw [hke,List.take_length] at hown;exact hown)
   clear hown hE hke
   go_wp2_with fail
   go_ret
   exact ⟨_,rfl,HE.out,HO3.out⟩
end Go.Proofs.YtkfifbopmpcanaaGreat
namespace Go.Proofs.YtkfifbopmpcanaaGreat
open Go.RowKit Go.Shelf
attribute [local go_sem] Oper.semAt_some
theorem zng {n:Nat} (h:n≤5):(zel n).length≤3125:=by
 have h1:=z0e n (n ^ n)
 have h2:n ^ n≤5 ^ 5:=Nat.le_trans (Nat.pow_le_pow_left h n) (Nat.pow_le_pow_right (by omega) h)
 have h3:(5:Nat) ^ 5=3125:=by simp
 rw [h3] at h2
 exact Nat.le_trans h1 h2
set_option maxRecDepth 100000 in
set_option maxHeartbeats 4000000 in
theorem appendSeq_in (n p bt:Nat) (w:World) (hn1:2≤n) (hn5:n≤5) (kt:w.cell? ⟨bt,0,none⟩=some (.pointer (some ⟨p,0,none⟩))) (kp:w.cell? ⟨p,0,none⟩=some (.int .i64 n)) :
  CallsIn Fence.wide 9 Tryz.prog 216 #[.slice none 0 0,.func (.func 217) #[] #[.pointer (some ⟨bt,0,none⟩)]] w fun e w'=>∃ v,e = .returned v∧Ext w w'∧IsFs w' v (zel n):=by
 refine callsIn_of_wp_marks Tryz.func216 rfl trivial ?_ rfl
 simp only [Tryz.ntmps216,List.size_toArray,List.length_cons,List.length_nil,Nat.reduceAdd,Nat.reduceSub,Array.replicate_succ,Array.replicate_zero,List.push_toArray,List.append_toArray,List.nil_append,List.cons_append]
 have hzt:=World.block_lt_of_cell? _ _ kt
 have hzp:=World.block_lt_of_cell? _ _ kp
 simp only at hzt hzp
 gi_wp2_with fail
 obtain ⟨W5,hW5⟩:∃ W5,W5=w.alloc (.cells #[.slice none 0 0] 122):=⟨_,rfl⟩
 have hE5:Ext w W5:=by rw [hW5];exact xx
 have hz5:W5.heap.size=w.heap.size+1:=by rw [hW5];simp
 have hO5:W5.heap[w.heap.size]? = some (.cells #[.slice none 0 0] 122 (0,0)):=by rw [hW5];exact World.alloc_heap_new w _
 rw [← hW5]
 have HO5:=Lib.hid hO5
 have HE15:=Lib.hid hE5
 have kt5:=zh hE5 kt
 have kp5:=zh hE5 kp
 clear hW5 hE5 hO5 kt kp
 refine z2e (n:=9) (R:=fun k=>k < W5.heap.size∧k≠w.heap.size) rfl (enters_of Tryz.func217 (by kernel_rfl) rfl)
  (z0k n p bt (fun k=>k < W5.heap.size∧k≠w.heap.size) W5 hn1 hn5 (fun k hk=>hk.1)
   (fun W hk=>⟨hk.cell kt5 ⟨by simp only;omega,by simp only;omega⟩,hk.cell kp5 ⟨by simp only;omega,by simp only;omega⟩⟩))
  (Below.refl _ _) (fun k hk=>hk.1) (fun _=>rfl)
  (fun O pre W=>(∀ k,O k→W5.heap.size≤k)∧W5.heap.size≤W.heap.size∧Ext w W∧Gath 122 127 5 w.heap.size (W5.heap.size+2) (pre.map fRow) O W)
  (fun _ _ _ _=>False) ?bears (fun _ _ _ _ _ _ h _ _ _=>h) ⟨fun _ h=>h.elim,Nat.le_refl _,HE15.out,⟨_,HO5.out,Owns.nil _ _ _ _,fun g hg=>(by cases hg)⟩⟩ ?round ?done (fun _ _ _ _ _ _ _ h _=>h.elim)
 case bears =>
  rintro pre O O' A B ⟨g1,g2,g3,g4⟩ hk hO1 hO2
  have hlow:Kept (fun k=>k < W5.heap.size) A B:=hk.mono fun k _ hk=>⟨fun ho=>by have:=g1 k ho;omega,by omega⟩
  refine ⟨fun k hk=>?_,by have:=hk.size;omega,g3.trans (Kept.below (hlow.mono fun k _ h=>by omega) g3.size),g4.kept hk ⟨fun ho=>by have:=g1 _ ho;omega,by omega⟩ (fun g h1 h2=>⟨h2,by omega⟩) (fun g h=>(hO2 g h).imp id fun h=>h.1)⟩
  rcases hO2 k hk with h | h
  ·exact g1 k h
  ·omega
 case round =>
  rintro l O pre y W ⟨g1,g2,g3,g4⟩ hy hO2 hW2
  simp only [arr5]
  gi_wp2
  refine ⟨xx,fun W2 hk2=>?_⟩
  have hE2:Ext W (W.alloc (.cells #[.int .i64 (pl y 0),.int .i64 (pl y 1),.int .i64 (pl y 2),.int .i64 (pl y 3),.int .i64 (pl y 4)] 127)):=xx
  have y0:=hk2.cell (p:=⟨W.heap.size,0,none⟩) (v:=.int .i64 (pl y 0)) (by simp [go_sem]) (by simp;omega)
  have y1:=hk2.cell (p:=⟨W.heap.size,1,none⟩) (v:=.int .i64 (pl y 1)) (by simp [go_sem]) (by simp;omega)
  have y2:=hk2.cell (p:=⟨W.heap.size,2,none⟩) (v:=.int .i64 (pl y 2)) (by simp [go_sem]) (by simp;omega)
  have y3:=hk2.cell (p:=⟨W.heap.size,3,none⟩) (v:=.int .i64 (pl y 3)) (by simp [go_sem]) (by simp;omega)
  have y4:=hk2.cell (p:=⟨W.heap.size,4,none⟩) (v:=.int .i64 (pl y 4)) (by simp [go_sem]) (by simp;omega)
  have g32:Ext w W2:=(g3.trans' hE2).trans (Kept.below (hk2.mono fun k _ h=>by have:=HE15.out.size;omega) (by have:=g3.size;simp;omega))
  have g42:Gath 122 127 5 w.heap.size (W5.heap.size+2) (pre.map fRow) O W2 :=
   (g4.kept (O':=O) (.of_below hE2) (S:=fun _=>True) trivial (fun _ _ _=>trivial) (fun _ h=>.inl h)).kept hk2 (by omega) (fun g h1 _=>by omega) (fun _ h=>.inl h)
  have hz2:=hk2.size
  simp only [World.size_alloc] at hz2
  have hzy:W.heap.size < W2.heap.size:=by omega
  obtain ⟨ov,hov,hown,hno⟩:=g42
  obtain ⟨oa,on,oc,rfl⟩:=hown.isSlice
  have ho0:W2.cell? ⟨w.heap.size,0,none⟩=some (.slice oa on oc):=by rw [cell_of_row _ _ _ _ _ _ hov];rfl
  have hof:W2.frozen? ⟨w.heap.size,0,none⟩=false:=by simp [World.frozen?,hov]
  have hzo:=(Array.getElem?_eq_some_iff.1 hov).1
  have HLL:Hid ((pre.map fRow).length + [fRow y].length≤1000000):=by
   refine Lib.hid ?_
   obtain ⟨rest,hr⟩:=hy
   have h1:=zng hn5
   rw [hr] at h1
   simp at h1 ⊢;omega
  have HOV:=Lib.hid hov
  have HOWN:=Lib.hid hown
  have HNO:=Lib.hid hno
  have G3:=Lib.hid g32
  have HO2:=Lib.hid hO2
  have HK2:=Lib.hid hk2
  clear hov hown hno g3 g4 g32 hO2 hk2 hE2 hy
  gi_wp2_with (refine zr6 rfl (.tmp 8) (.tmp 10) elPl rfl (W5.heap.size+2) rfl (HOWN.out.ext (by exact xx)) W2.heap.size 0 1 [fRow y] rfl (by simp [fRow]) (newRow _ (fRow y) _) (by simp [fRow,Value.oneCell']) HLL.out (by simp;omega) ?_)
  intro v' W4 hown4 hk4 hat4
  have hob4:=hown4.notOwn
  have hov4:=(hk4.same w.heap.size (by simp;omega) (fun h=>by
   have:=HOWN.out.notOwn _ h.symm;omega)).trans ((Below.heap_alloc W2 _ _ hzo).trans HOV.out)
  have ho4:W4.cell? ⟨w.heap.size,0,none⟩=some (.slice oa on oc):=by rw [cell_of_row _ _ _ _ _ _ hov4];rfl
  have hof4:W4.frozen? ⟨w.heap.size,0,none⟩=false:=by simp [World.frozen?,hov4]
  obtain ⟨va,vn,vc,rfl⟩:=hown4.isSlice
  have HK4:=Lib.hid hk4
  have HAT4:=Lib.hid hat4
  have HOWN4:=Lib.hid hown4
  have HOV4:=Lib.hid hov4
  clear hk4 hat4 hown4 hov4 hob4
  gi_wp2_with fail
  have hkS:∀ (S:Nat→Prop),(∀ g,(Value.slice oa on oc).ownBlock=some g→¬ S g)→¬ S w.heap.size→Kept S W2 (W4.setCell ⟨w.heap.size,0,none⟩ (.slice va vn vc)):=fun S h1 h2 =>
   (((Kept.refl S W2).alloc _).trans (HK4.out.mono fun k _ hk e=>h1 k e.symm hk)).setCell (fun _=>h2) _
  have hz4:=HK4.out.size
  simp only [World.size_alloc] at hz4
  have ho5:∀ g,(Value.slice oa on oc).ownBlock=some g→W5.heap.size+2≤g∧¬ O g:=fun g hg=>⟨(HOWN.out.notOwn g hg).1,HNO.out g hg⟩
  refine ⟨hkS _ (fun g hg h=>?_) (fun h=>?_),g1,by simp [World.setCell];omega,?_,_,?_,(by rw [List.map_append];exact (HOWN4.out.setOther HOV4.out (by decide) 0 _).base (by omega)),fun g hg ho=>?_⟩
  ·have:=ho5 g hg
   rcases h with h | h | h | h
   ·omega
   ·exact this.2 h
   ·omega
   ·omega
  ·rcases h with h | h | h | h
   ·exact h.2 rfl
   ·have:=g1 _ h;omega
   ·omega
   ·omega
  ·exact G3.out.trans (Kept.below (hkS _ (fun g hg h=>by have:=ho5 g hg;omega) (by omega)) G3.out.size)
  ·exact zab HOV4.out 0 _
  ·rcases HAT4.out g hg with h | h
   ·exact HNO.out g h ho
   ·have:=(HO2.out g ho).2;have:W2.heap.size+1≤g:=by simpa using h
    omega
 case done =>
  rintro D O xs W hD rfl ⟨g1,g2,g3,g4⟩ hDk
  obtain ⟨ov,hov,hown,hno⟩:=g4
  obtain ⟨oa,on,oc,rfl⟩:=hown.isSlice
  have ho0:W.cell? ⟨w.heap.size,0,none⟩=some (.slice oa on oc):=by rw [cell_of_row _ _ _ _ _ _ hov];rfl
  have HOWN:=Lib.hid hown
  have HDK:=Lib.hid hDk
  have hDlt:=(Array.getElem?_eq_some_iff.1 hDk).1
  clear hov hown hno hDk
  gi_wp2_with fail
  refine ⟨by simp,.inl ⟨_,_,rfl,run_takeDeferred HDK.out,?_⟩⟩
  refine ⟨.slice oa on oc,by simp [results,Tryz.results216,go_sem],_,rfl,?_,?_⟩
  ·have hk:=(((Kept.of_below g3:Kept (fun k=>k < w.heap.size) w W)).putObj (r:=D) (.deferred none) (fun h2 h3=>by have:=g3.size;omega))
   exact hk.below (Nat.le_refl _)
  ·exact (HOWN.out.putOther HDK.out _).isRows
end Go.Proofs.YtkfifbopmpcanaaGreat
namespace Go.Proofs.YtkfifbopmpcanaaGreat
open Go.RowKit Go.Shelf
set_option maxRecDepth 100000 in
set_option maxHeartbeats 1000000 in
theorem zxy (n p bt:Nat) (w:World) (hn1:2≤n) (hn5:n≤5) (kt:w.cell? ⟨bt,0,none⟩=some (.pointer (some ⟨p,0,none⟩))) (kp:w.cell? ⟨p,0,none⟩=some (.int .i64 n)) :
  Calls Tryz.prog 176 #[.func (.func 217) #[] #[.pointer (some ⟨bt,0,none⟩)]] w fun e w'=>∃ v,e = .returned v∧Ext w w'∧IsFs w' v (zel n):=by
 have H:=Lib.hid (callsIn_wide.1 (appendSeq_in n p bt w hn1 hn5 kt kp))
 clear kt kp
 go_enter Tryz.func176,Tryz.ntmps176
 go_wp2_with fail
 refine H.out.mono ?_
 rintro e W1 ⟨v,rfl,hE,hF⟩
 obtain ⟨sa,cap,rfl,-,-,-⟩:=hF.spec
 have HE:=Lib.hid hE
 have HF:=Lib.hid hF
 clear hE hF
 go_wp2_with fail
 go_ret
 exact ⟨_,rfl,HE.out,HF.out⟩
structure RcVal (h:Rc):Prop where
 n1:2≤h.n
 n5:h.n≤5
 ok:∀ x∈h.ws,OkW 5 x
 okn:∀ x∈h.ws,OkW h.n.toNat x
 len:h.ws.length≤12
theorem OkW.le {n m:Nat} {x:Wd} (h:OkW n x) (hm:n≤m):OkW m x:=⟨h.a0,by have:=h.a1;omega,h.b0,by have:=h.b1;omega,h.ne,h.k0,h.k1⟩
theorem zlt {h:Rc} (e:zaw h=0):RcVal h:=by
 unfold zaw at e
 split at e
 ·cases e
 rename_i h1
 split at e
 ·cases e
 rename_i h2
 split at e
 ·cases e
 rename_i h3
 have h3:h.ws.any (fun w=>!okWd h.n w)=false:=by simpa using h3
 have hok:∀ x∈h.ws,OkW h.n.toNat x:=fun x hx=>z7f (by omega) (by
  rw [List.any_eq_false] at h3
  have:=h3 x hx
  simpa using this)
 exact ⟨by omega,by omega,fun x hx=>(hok x hx).le (by omega),hok,by omega⟩
set_option maxRecDepth 100000 in
set_option maxHeartbeats 1000000 in
theorem z7i (h:Rc) (sa:Option Addr) (cap p:Nat) (w:World) (hv:IsWds w (.slice sa h.ws.length cap) h.ws) (hr:RaceAt w p h sa cap) (V:RcVal h) :
  Calls Tryz.prog 110 #[.pointer (some ⟨p,0,none⟩)] w fun e w'=>∃ v,e = .returned v∧Ext w w'∧IsFs w' v (agrL h):=by
 have HV:=Lib.hid hv
 have HR:=Lib.hid hr
 have hz:=hr.lt
 obtain ⟨n,hn⟩:∃ n:Nat,h.n=n:=⟨h.n.toNat,by have:=V.n1;omega⟩
 have hn1:2≤n:=by have:=V.n1;omega
 have hn5:n≤5:=by have:=V.n5;omega
 have k0:=hr.c0
 rw [hn] at k0
 have HN:Hid (agrL h=(zel n).filter (agrP h.ws)):=Lib.hid (by unfold agrL;rw [hn];rfl)
 have VV:=Lib.hid V
 clear hv hr V hn
 go_enter Tryz.func110,Tryz.ntmps110
 go_wp2_with fail
 refine (zuo p w).mono ?_
 rintro e W1 ⟨rfl,hE1,kt,-⟩
 have k1:=zh hE1 k0
 have HE1:=Lib.hid hE1
 clear hE1
 go_wp2_with fail
 refine (zxy n p w.heap.size W1 hn1 hn5 kt k1).mono ?_
 rintro e W2 ⟨v,rfl,hE2,hF⟩
 obtain ⟨fa,fc,rfl,-,-,-⟩:=hF.spec
 have HE2:=Lib.hid (HE1.out.trans' hE2)
 have HF:=Lib.hid hF
 clear hE2 hF kt k1 k0
 go_wp2_with fail
 refine (zwv (zel n) fa fc 58 #[.pointer (some ⟨p,0,none⟩)] #[] (agrP h.ws) W2 HF.out (by have:=zng hn5;omega) (fun args W=>Tryz.call58 args W)
  (fun x _ W hW=>zri h sa cap p x W (HV.out.ext (HE2.out.trans' hW)) (HR.out.ext (HE2.out.trans' hW)) VV.out.ok)).mono ?_
 rintro e W3 ⟨v,rfl,hE3,hO⟩
 obtain ⟨ga,gn,gc,rfl⟩:=hO.isSlice
 have HE3:=Lib.hid (HE2.out.trans' hE3)
 have HO:=Lib.hid hO
 clear hE3 hO
 go_wp2_with fail
 go_ret
 exact ⟨_,rfl,HE3.out,by rw [HN.out];exact HO.out.isRows⟩
def zbc (h:Rc):Int:=if (agrL h).length=0 then 22 else 0
set_option maxRecDepth 100000 in
set_option maxHeartbeats 1000000 in
theorem z0l (h:Rc) (sa:Option Addr) (cap p:Nat) (w:World) (hv:IsWds w (.slice sa h.ws.length cap) h.ws) (hr:RaceAt w p h sa cap) (V:RcVal h) :
  Calls Tryz.prog 52 #[.pointer (some ⟨p,0,none⟩)] w fun e w'=>∃ v,e = .returned (.tuple #[v,.int .i64 (zbc h)])∧Ext w w'∧IsFs w' v (agrL h):=by
 have H:=Lib.hid (z7i h sa cap p w hv hr V)
 clear hv hr V
 go_enter Tryz.func52,Tryz.ntmps52
 go_wp2_with fail
 refine H.out.mono ?_
 rintro e W1 ⟨v,rfl,hE,hF⟩
 obtain ⟨fa,fc,rfl,-,-,-⟩:=hF.spec
 have HE:=Lib.hid hE
 have HF:=Lib.hid hF
 clear hE hF
 by_cases h0:(agrL h).length=0
 ·have h0i:(((agrL h).length:Int) == 0)=true:=by rw [beq_iff_eq];omega
  have H0:=Lib.hid h0
  clear h0
  go_wp2_with fail
  refine bodyPost_ret (v:=.tuple #[.slice none 0 0,.int .i64 22]) (by simp [results,Tryz.results52,go_sem]) rfl ?_
  exact ⟨_,by unfold zbc;rw [if_pos H0.out],HE.out,by rw [List.length_eq_zero_iff.1 H0.out];exact ⟨none,0,rfl,by simp,by simp,.inl rfl⟩⟩
 ·have h0i:(((agrL h).length:Int) == 0)=false:=by rw [beq_eq_false_iff_ne];omega
  have H0:=Lib.hid h0
  clear h0
  go_wp2_with fail
  refine bodyPost_ret (v:=.tuple #[.slice fa (agrL h).length fc,.int .i64 0]) (by simp [results,Tryz.results52,go_sem]) rfl ?_
  exact ⟨_,by unfold zbc;rw [if_neg H0.out],HE.out,HF.out⟩
set_option maxRecDepth 100000 in
set_option maxHeartbeats 1000000 in
theorem z4w (L:List (List Int)) (v:Value) (f:Nat) (fs cs:Array Value) (q:List Int→Bool) (w:World) (hv:IsFs w v L) (hL:L.length≤100000)
  (hcall:∀ args W,(callFunc f args).run Tryz.prog W = .ok (.enter f args) W)
  (hf:∀ x,x∈L→∀ W,Ext w W→Calls Tryz.prog f (fs ++ #[.agg #[.int .i64 (pl x 0),.int .i64 (pl x 1),.int .i64 (pl x 2),.int .i64 (pl x 3),.int .i64 (pl x 4)]] ++ cs) W fun e W'=>e = .returned (.bool (q x))∧Ext W W') :
  Calls Tryz.prog 53 #[v,.func (.func f) fs cs] w fun e w'=>e = .returned (.int .i64 (zlq L q))∧Ext w w':=by
 obtain ⟨sa,cap,rfl,-,-,-⟩:=hv.spec
 have H:=Lib.hid (zwv L sa cap f fs cs q w hv hL hcall hf)
 clear hv hL hcall hf
 go_enter Tryz.func53,Tryz.ntmps53
 go_wp2_with fail
 refine H.out.mono ?_
 rintro e W1 ⟨v,rfl,hE,hO⟩
 have hFs:IsFs W1 v (L.filter q):=hO.isRows
 obtain ⟨ga,gc,rfl,-,-,-⟩:=hFs.spec
 have HE:=Lib.hid hE
 clear hE hO hFs
 obtain ⟨N,hN⟩:∃ N,N=(L.filter q).length:=⟨_,rfl⟩
 have HK:Hid (zlq L q=if N=0 then 0 else if N=L.length then 2 else 1):=Lib.hid (by rw [hN];rfl)
 rw [← hN]
 clear hN
 by_cases h0:N=0
 ·have h0i:((N:Int) == 0)=true:=by rw [beq_iff_eq];omega
  have H0:=Lib.hid h0
  clear h0
  go_wp2_with fail
  go_ret
  exact ⟨zau (by rw [HK.out,if_pos H0.out]),HE.out⟩
 have h0i:((N:Int) == 0)=false:=by rw [beq_eq_false_iff_ne];omega
 have H0:=Lib.hid h0
 clear h0
 by_cases h1:N=L.length
 ·have h1i:((N:Int) == (L.length:Int))=true:=by rw [beq_iff_eq];omega
  have H1:=Lib.hid h1
  clear h1
  go_wp2_with fail
  go_ret
  exact ⟨zau (by rw [HK.out,if_neg H0.out,if_pos H1.out]),HE.out⟩
 ·have h1i:((N:Int) == (L.length:Int))=false:=by rw [beq_eq_false_iff_ne];omega
  have H1:=Lib.hid h1
  clear h1
  go_wp2_with fail
  go_ret
  exact ⟨zau (by rw [HK.out,if_neg H0.out,if_neg H1.out]),HE.out⟩
end Go.Proofs.YtkfifbopmpcanaaGreat
namespace Go.Proofs.YtkfifbopmpcanaaGreat
open Go.RowKit Go.Shelf
set_option maxRecDepth 100000 in
set_option maxHeartbeats 1000000 in
theorem zxz (f:List Int) (r z:Int) (a b:Nat) (w:World) (h0:0≤r) (h5:r < 5) (ha:w.cell? ⟨a,0,none⟩=some (.int .i64 r)) (hb:w.cell? ⟨b,0,none⟩=some (.int .i64 z)) :
  Calls Tryz.prog 54 #[.agg #[.int .i64 (pl f 0),.int .i64 (pl f 1),.int .i64 (pl f 2),.int .i64 (pl f 3),.int .i64 (pl f 4)],.pointer (some ⟨a,0,none⟩),.pointer (some ⟨b,0,none⟩)] w fun e w'=>e = .returned (.bool (decide (pl f r.toNat≤z)))∧Ext w w':=by
 go_enter Tryz.func54,Tryz.ntmps54
 go_upto_region 1 with (fail)
 obtain ⟨W0,hW0⟩:∃ W0,W0=w.alloc (.cells #[.int .i64 (pl f 0),.int .i64 (pl f 1),.int .i64 (pl f 2),.int .i64 (pl f 3),.int .i64 (pl f 4)] 127):=⟨_,rfl⟩
 have hE:Ext w W0:=by rw [hW0];exact xx
 have hA:A5 W0 w.heap.size (pl f):=by rw [hW0];exact (A5.new w (pl f 0) (pl f 1) (pl f 2) (pl f 3) (pl f 4)).congr (zy8 f)
 have ka:=zh hE ha
 have kb:=zh hE hb
 have cr:=hA.cell r.toNat (by omega)
 have hz1:=World.block_lt_of_cell? _ _ ka
 have hz2:=World.block_lt_of_cell? _ _ kb
 have hz:=hA.lt
 simp only at hz1 hz2
 obtain ⟨p,hp⟩:∃ p,p=pl f r.toNat:=⟨_,rfl⟩
 rw [← hp] at cr
 have HP:=Lib.hid hp
 rw [← hW0]
 have HE:=Lib.hid hE
 clear hW0 hE hA ha hb hp
 go_quiet (fail)
 go_wp2_with fail
 all_goals
  go_ret
  exact ⟨zan (by first | (rw [← HP.out];done) | (rw [← HP.out];simp [*])),HE.out.drN _⟩
def zf0 (h:Rc) (q:List Int→Bool):Int:=if zbc h=0 then zlq (agrL h) q else 0
theorem z4x (h:Rc) (V:RcVal h):(agrL h).length≤100000:=by
 have h1:=zng (n:=h.n.toNat) (by have:=V.n5;omega)
 have h2:(agrL h).length≤(zel h.n.toNat).length:=List.length_filter_le _ _
 omega
set_option maxRecDepth 100000 in
set_option maxHeartbeats 2000000 in
theorem z0m (h:Rc) (sa:Option Addr) (cap:Nat) (r z:Int) (w:World) (hv:IsWds w (.slice sa h.ws.length cap) h.ws) (h0:zaw h=0) (hr0:0≤r) (hr1:r < h.n) (hz0:1≤z) (hz1:z≤h.n) :
  Calls Tryz.prog 18 #[.agg #[.int .i64 h.n,.slice sa h.ws.length cap],.int .i64 r,.int .i64 z] w fun e w'=>e = .returned (.tuple #[.int .i64 (zf0 h fun f=>decide (pl f r.toNat≤z)),.int .i64 (zbc h)])∧Ext w w':=by
 have V:=Lib.hid (zlt h0)
 have hn1:=V.out.n1
 have hn5:=V.out.n5
 have HV:=Lib.hid hv
 have H0:=Lib.hid h0
 clear hv h0
 go_enter Tryz.func18,Tryz.ntmps18
 go_upto_region 1 with (fail)
 obtain ⟨W0,hW0⟩:∃ W0,W0=((w.alloc (.cells #[.int .i64 h.n,.slice sa h.ws.length cap] 65)).alloc (.cells #[.int .i64 r] 3)).alloc (.cells #[.int .i64 z] 3):=⟨_,rfl⟩
 have hE:Ext w W0:=by rw [hW0];exact xx
 have k0:W0.cell? ⟨w.heap.size,0,none⟩=some (.int .i64 h.n):=by rw [hW0];simp [go_sem]
 have k1:W0.cell? ⟨w.heap.size,1,none⟩=some (.slice sa h.ws.length cap):=by rw [hW0];simp [go_sem]
 have kr:W0.cell? ⟨w.heap.size+1,0,none⟩=some (.int .i64 r):=by rw [hW0];simp [go_sem]
 have kz:W0.cell? ⟨w.heap.size+2,0,none⟩=some (.int .i64 z):=by rw [hW0];simp [go_sem]
 have hz:w.heap.size+2 < W0.heap.size:=World.block_lt_of_cell? _ _ kz
 have hza:w.heap.size+1 < W0.heap.size:=by omega
 have hzb:w.heap.size < W0.heap.size:=by omega
 have HW:=Lib.hid hE
 replace HV:=Lib.hid (HV.out.ext hE)
 rw [← hW0]
 clear hW0 hE
 go_wp2_with fail
 refine (ztk h sa cap W0 HV.out).mono ?_
 rintro e W1 ⟨hE1,⟨hne,-⟩ | ⟨-,p,rfl,hp,hR⟩⟩
 ·exact absurd H0.out hne
 replace k0:=zh hE1 k0
 replace kr:=zh hE1 kr
 replace kz:=zh hE1 kz
 have hzw:=hE1.size
 replace hz:w.heap.size+2 < W1.heap.size:=by omega
 replace hza:w.heap.size+1 < W1.heap.size:=by omega
 replace hzb:w.heap.size < W1.heap.size:=by omega
 have HW1:=Lib.hid (HW.out.trans' hE1)
 have HV1:=Lib.hid (HV.out.ext hE1)
 have HR1:=Lib.hid hR
 clear hE1 hR k1 hp hzw HW HV
 go_wp2_with fail
 refine za0 (W0:=W1) (g:=⟨W1,Below.refl _ _⟩) xx (zeg 0 (h.n - 1) _ [r] _ (zcf (by omega) (by omega) (by simp [go_sem]))) fun g1 hgr=>?_
 clear hgr
 rw [zog,zy7,decide_eq_true (show 0≤r∧r < h.n by omega)]
 go_wp2_with fail
 refine za0 (W0:=W1) (g:=g1) xx (zeg 1 h.n _ [z] _ (zcf (by omega) (by omega) (by simp [go_sem]))) fun g2 hgr=>?_
 clear hgr
 rw [zog,show inR 1 h.n z=true by rw [inR_iff];omega]
 go_wp2_with fail
 refine zwd (W0:=W1) (g:=g2) xx (z0l h sa cap p _ (HV1.out.ext xx) (HR1.out.ext xx) V.out) (fun _ _ ⟨_,_,h,_⟩=>h) fun _ g3 hgr hr=>?_
 obtain ⟨v,rfl,-,hF⟩:=hr
 clear hgr
 obtain ⟨fa,fc,rfl,-,-,-⟩:=hF.spec
 have HF:=Lib.hid hF
 clear hF
 by_cases hA:zbc h=0
 ·have hAi:(zbc h != 0)=false:=by simpa using hA
  have HAG:=Lib.hid hA
  clear hA
  go_wp2_with fail
  refine za0 (W0:=W1) (g:=g3) xx (z4w (agrL h) _ 54 #[] #[.pointer (some ⟨w.heap.size+1,0,none⟩),.pointer (some ⟨w.heap.size+2,0,none⟩)] (fun f=>decide (pl f r.toNat≤z)) _ HF.out (z4x h V.out) (fun args W=>Tryz.call54 args W) (fun x _ W hW=>zxz x r z _ _ W hr0 (by omega) (zh hW (zh (zu W1 g3) kr)) (zh hW (zh (zu W1 g3) kz)))) fun g4 hgr=>?_
  clear hgr
  have HKD:Hid (zf0 h (fun f=>decide (pl f r.toNat≤z))=zlq (agrL h) (fun f=>decide (pl f r.toNat≤z))):=Lib.hid (by unfold zf0;rw [if_pos HAG.out])
  go_wp2_with fail
  refine bodyPost_ret (v:=.tuple #[.int .i64 (zlq (agrL h) (fun f=>decide (pl f r.toNat≤z))),.int .i64 0]) (by simp [results,Tryz.results18,go_sem]) rfl ?_
  exact ⟨by rw [HKD.out,HAG.out],HW1.out.trans' (zu W1 _)⟩
 ·have hAi:(zbc h != 0)=true:=by simpa using hA
  have HAG:=Lib.hid hA
  clear hA
  go_wp2_with fail
  refine bodyPost_ret (v:=.tuple #[.int .i64 0,.int .i64 (zbc h)]) (by simp [results,Tryz.results18,go_sem]) rfl ?_
  exact ⟨by unfold zf0;rw [if_neg HAG.out],HW1.out.trans' (zu W1 _)⟩
end Go.Proofs.YtkfifbopmpcanaaGreat
namespace Go.Proofs.YtkfifbopmpcanaaGreat
open Go.RowKit Go.Shelf
attribute [local go_sem] Oper.semAt_some
def zfc (h:Rc) (l:List Int):Int:=if zaw h≠0 then zaw h else if (l.length:Int)≠h.n then 15 else if zay h.n.toNat l=true then (if agrP h.ws l=true then 0 else 22) else 16
def a5 (f:List Int):Array Value:=#[.int .i64 (pl f 0),.int .i64 (pl f 1),.int .i64 (pl f 2),.int .i64 (pl f 3),.int .i64 (pl f 4)]
theorem z8j {l:List Int} (h5:l.length≤5):((#[Value.int .i64 0,.int .i64 0,.int .i64 0,.int .i64 0,.int .i64 0]:Array Value).toList.take 0 ++ l.map (Value.int .i64) ++ (#[Value.int .i64 0,.int .i64 0,.int .i64 0,.int .i64 0,.int .i64 0]:Array Value).toList.drop (0+(l.map (Value.int .i64)).length)).toArray=a5 l:=by
 match l,h5 with
 | [],_=>rfl
 | [a],_=>rfl
 | [a,b],_=>rfl
 | [a,b,c],_=>rfl
 | [a,b,c,d],_=>rfl
 | [a,b,c,d,e],_=>rfl
theorem z84 {W:World} {g:Nat} {f:List Int} (h:W.heap[g]? = some (.cells (a5 f) 127 (0,0))):A5 W g (pl f):=by
 refine ⟨_,h,rfl,fun j hj=>?_⟩
 match j,hj with
 | 0,_=>rfl
 | 1,_=>rfl
 | 2,_=>rfl
 | 3,_=>rfl
 | 4,_=>rfl
set_option maxRecDepth 100000 in
set_option maxHeartbeats 2000000 in
theorem zww (h:Rc) (sa:Option Addr) (cap:Nat) (l:List Int) (lv:Value) (w:World) (hv:IsWds w (.slice sa h.ws.length cap) h.ws) (hl:IsInts w .i64 lv l) :
  Calls Tryz.prog 21 #[.agg #[.int .i64 h.n,.slice sa h.ws.length cap],lv] w fun e w'=>e = .returned (.int .i64 (zfc h l))∧Ext w w':=by
 obtain ⟨la,lc,rfl,l1,l2,hc⟩:=hl.spec
 have HC:=Lib.hid hc
 have HV:=Lib.hid hv
 clear hv hl hc
 go_enter Tryz.func21,Tryz.ntmps21
 go_upto_region 1 with (fail)
 obtain ⟨W0,hW0⟩:∃ W0,W0=w.alloc (.cells #[.int .i64 h.n,.slice sa h.ws.length cap] 65):=⟨_,rfl⟩
 have hE:Ext w W0:=by rw [hW0];exact xx
 have k0:W0.cell? ⟨w.heap.size,0,none⟩=some (.int .i64 h.n):=by rw [hW0];simp [go_sem]
 have k1:W0.cell? ⟨w.heap.size,1,none⟩=some (.slice sa h.ws.length cap):=by rw [hW0];simp [go_sem]
 have hz:w.heap.size < W0.heap.size:=World.block_lt_of_cell? _ _ k0
 have HW:=Lib.hid hE
 replace HV:=Lib.hid (HV.out.ext hE)
 rw [← hW0]
 clear hW0 hE
 go_wp2_with fail
 refine (ztk h sa cap W0 HV.out).mono ?_
 rintro e W1 ⟨hE1,⟨hne,rfl⟩ | ⟨he0,p,rfl,hp,hR⟩⟩
 ·have hne2:(zaw h != 0)=true:=by simpa using hne
  have HN:=Lib.hid hne
  have HE1:=Lib.hid hE1
  clear hne hE1
  go_wp2_with fail
  go_ret
  exact ⟨zau (k:=.i64) (a:=zaw h) (by unfold zfc;rw [if_pos HN.out]),HW.out.trans' HE1.out⟩
 have V:=Lib.hid (zlt he0)
 have hn1:=V.out.n1
 have hn5:=V.out.n5
 have H0:=Lib.hid he0
 replace k0:=zh hE1 k0
 replace k1:=zh hE1 k1
 have hzw:=hE1.size
 replace hz:w.heap.size < W1.heap.size:=by omega
 have HW1:=Lib.hid (HW.out.trans' hE1)
 have HV1:=Lib.hid (HV.out.ext hE1)
 have HR1:=Lib.hid hR
 clear hE1 hR hp hzw HW HV he0
 by_cases hlen:(l.length:Int)=h.n
 case neg =>
  have hli:((l.length:Int) != h.n)=true:=by simpa using hlen
  have HL:=Lib.hid hlen
  clear hlen
  go_wp2_with fail
  go_ret
  exact ⟨zau (k:=.i64) (a:=15) (by unfold zfc;rw [if_neg (by rw [H0.out];simp),if_pos HL.out]),HW1.out⟩
 have hli:((l.length:Int) != h.n)=false:=by simpa using hlen
 have h5:l.length≤5:=by omega
 have HL:=Lib.hid hlen
 clear hlen
 go_upto_region 7 with (fail)
 obtain ⟨g,hg⟩:∃ g,g=W1.heap.size:=⟨_,rfl⟩
 obtain ⟨W2,hW2⟩:∃ W2,W2=W1.alloc (.cells #[.int .i64 0,.int .i64 0,.int .i64 0,.int .i64 0,.int .i64 0] 127):=⟨_,rfl⟩
 have hE2:Ext W1 W2:=by rw [hW2];exact xx
 have hg1:W2.heap[g]? = some (.cells #[.int .i64 0,.int .i64 0,.int .i64 0,.int .i64 0,.int .i64 0] 127 (0,0)):=by rw [hW2,hg];exact World.alloc_heap_new W1 _
 rw [← hW2,← hg]
 have hclr:∀ ty,(Builtin.clear_ #[23] ty #[.slice (some ⟨g,0,none⟩) 5 5]).run Tryz.prog W2 = .ok (.tuple #[]) (W2.setCells g 0 (List.replicate 5 (.int .i64 0))):=fun ty =>
  Lib.run_clear_slice _ 23 3 ty (.int .i64 0) (by kernel_rfl) (fun w=>by kernel_rfl) rfl rfl g 0 5 5 (by omega) (fun j hj=>by rw [cell_of_row _ _ _ _ _ _ hg1];match j,hj with | 0,_=>rfl | 1,_=>rfl | 2,_=>rfl | 3,_=>rfl | 4,_=>rfl) (fun j hj=>by simp [World.frozen?,hg1])
 have HE:=Lib.hid hE2
 have HG1:=Lib.hid hg1
 have HGE:=Lib.hid hg
 have hgl:g < W2.heap.size:=(Array.getElem?_eq_some_iff.1 hg1).1
 clear hE2 hW2 hg1 hg
 go_upto_region 8 with (simp only [hclr])
 have hg2:(W2.setCells g 0 [.int .i64 0,.int .i64 0,.int .i64 0,.int .i64 0,.int .i64 0]).heap[g]? = some (.cells #[.int .i64 0,.int .i64 0,.int .i64 0,.int .i64 0,.int .i64 0] 127 (0,0)) :=
  zab (zab (zab (zab (zab HG1.out 0 _) 1 _) 2 _) 3 _) 4 _
 have hk2:Below g W2 (W2.setCells g 0 [.int .i64 0,.int .i64 0,.int .i64 0,.int .i64 0,.int .i64 0]) :=
  (((((Below.refl _ W2).setCell (by simp) _).setCell (by simp) _).setCell (by simp) _).setCell (by simp) _).setCell (by simp) _
 obtain ⟨W3,hW3⟩:∃ W3,W3=W2.setCells g 0 [.int .i64 0,.int .i64 0,.int .i64 0,.int .i64 0,.int .i64 0]:=⟨_,rfl⟩
 have hz3:W3.heap.size=W2.heap.size:=by rw [hW3];simp [World.setCells]
 rw [← hW3] at hg2 hk2 ⊢
 have hE3:Ext W1 W3:=HE.out.trans (hk2.mono (by have:=HGE.out;omega))
 rcases HC.out with hl0 | ⟨b,off,rfl,hc⟩
 ·rw [hl0] at HL;have:=HL.out;simp at this;omega
 have hsrc:∀ j v,(l.map (Value.int .i64))[j]? = some v→W3.cell? ((⟨b,off,none⟩:Addr).add j)=some v:=fun j v hj=>by
  rw [addr_add]
  rw [List.getElem?_map] at hj
  obtain ⟨x,hx,rfl⟩:=Option.map_eq_some_iff.1 hj
  obtain ⟨hjl,rfl⟩:=List.getElem?_eq_some_iff.1 hx
  exact zh hE3 (zh HW1.out (hc j hjl))
 have hone:∀ v∈l.map (Value.int .i64),v.oneCell'=true:=by
  intro v hv;obtain ⟨x,_,rfl⟩:=List.mem_map.1 hv;rfl
 have hcopy:∀ ty,(Builtin.copy_ #[23,23] ty #[.slice (some ⟨g,0,none⟩) 5 5,.slice (some ⟨b,off,none⟩) l.length lc]).run Tryz.prog W3 = .ok (goInt (l.map (Value.int .i64)).length) (W3.setRow g (a5 l)):=fun ty=>by
  have:=run_copy_row (P:=Tryz.prog) W3 23 23 ty 3 g 0 5 5 ⟨b,off,none⟩ l.length lc #[.int .i64 0,.int .i64 0,.int .i64 0,.int .i64 0,.int .i64 0] 127 (l.map (Value.int .i64)) (by kernel_rfl) (by kernel_rfl) hg2 (by rw [List.length_map];exact (Nat.min_eq_left h5).symm) hsrc (by simp;omega) hone
  rw [this]
  congr 2
  exact z8j h5
 have HE3:=Lib.hid hE3
 have hb3:Below g W3 (W3.setRow g (a5 l)):=below_setRow (Below.refl _ _) (Nat.le_refl _) _
 have hg3:=setRow_heap W3 g _ (a5 l) 127 (0,0) hg2
 replace hgl:g < W3.heap.size:=by omega
 clear hW3 hclr hg2 hk2 hsrc hone hE3 hc
 go_upto_region 9 with (simp only [hcopy])
 obtain ⟨W4,hW4⟩:∃ W4,W4=W3.setRow g (a5 l):=⟨_,rfl⟩
 rw [← hW4] at hb3 hg3 ⊢
 clear hcopy hW4
 have hA:=z84 hg3
 have hE4:Ext W1 W4:=HE3.out.trans (hb3.mono (by have:=HGE.out;omega))
 obtain ⟨c0,c1,c2,c3,c4⟩:=hA.five
 have hfr:=hA.free
 have hg4:g < W4.heap.size:=hA.lt
 have kp:=zh hE4 HR1.out.c0
 have hpz:=World.block_lt_of_cell? _ _ kp
 simp only at hpz
 have HA:=Lib.hid hA
 have HW4:=Lib.hid (HW1.out.trans' hE4)
 have HV4:=Lib.hid (HV1.out.ext hE4)
 have HR4:=Lib.hid (HR1.out.ext hE4)
 obtain ⟨n,hn⟩:∃ n:Nat,h.n=n:=⟨h.n.toNat,by omega⟩
 have hnn:h.n.toNat=n:=by omega
 have hnl:l.length=n:=by have:=HL.out;omega
 have HNL:=Lib.hid hnl
 have HNN:=Lib.hid hnn
 have kp2:=kp
 rw [hn] at kp2
 have HKP:=Lib.hid kp2
 have hEq:∀ W,(Op.equalIn 10000 127 (.agg #[.int .i64 (pl l 0),.int .i64 (pl l 1),.int .i64 (pl l 2),.int .i64 (pl l 3),.int .i64 (pl l 4)]) (arr5 (zc7 n l))).run Tryz.prog W = .ok (zay n l) W:=fun W=>ztm (n:=n) (f:=l) (g:=zc7 n l) (by omega) hnl (zgb n l) W
 obtain ⟨E,hE0⟩:∃ E,E=zc7 n l:=⟨_,rfl⟩
 rw [← hE0] at hEq
 have hEq':∀ W,(Op.equalIn 10000 127 (.agg #[.int .i64 (pl l 0),.int .i64 (pl l 1),.int .i64 (pl l 2),.int .i64 (pl l 3),.int .i64 (pl l 4)]) (.agg #[.int .i64 (pl E 0),.int .i64 (pl E 1),.int .i64 (pl E 2),.int .i64 (pl E 3),.int .i64 (pl E 4)])).run Tryz.prog W = .ok (zay n l) W:=hEq
 have hRK:∀ W,Ext W4 W→Calls Tryz.prog 57 #[.pointer (some ⟨p,0,none⟩),.agg #[.int .i64 (pl l 0),.int .i64 (pl l 1),.int .i64 (pl l 2),.int .i64 (pl l 3),.int .i64 (pl l 4)]] W fun e w'=>e = .returned (.agg #[.int .i64 (pl E 0),.int .i64 (pl E 1),.int .i64 (pl E 2),.int .i64 (pl E 3),.int .i64 (pl E 4)])∧Ext W w':=fun W hW=>by rw [hE0];exact zrj p n l W (zh hW HKP.out) (by omega)
 have HRK:=Lib.hid hRK
 have HFN:=Lib.hid hn
 clear hg3 hA hE4 hb3 kp2 hli HG1 HE HE3 HV1 HR1 HW1 hnn hnl hRK hE0 hEq
 cases hf:zay n l
 ·rw [hf] at hEq'
  refine zbb (W4.heap.size) (Nat.le_refl _)
   [sqV (.agg #[.int .i64 (pl l 0),.int .i64 (pl l 1),.int .i64 (pl l 2),.int .i64 (pl l 3),.int .i64 (pl l 4)]),sqV (.pointer (some ⟨p,0,none⟩)),sqV (.agg #[.int .i64 (pl l 0),.int .i64 (pl l 1),.int .i64 (pl l 2),.int .i64 (pl l 3),.int .i64 (pl l 4)]),sqV (.agg #[.int .i64 (pl E 0),.int .i64 (pl E 1),.int .i64 (pl E 2),.int .i64 (pl E 3),.int .i64 (pl E 4)]),sqV (.bool true),sqV (.bool true)]
   [true,true,true,true,true,true] [false,false,false,false,false,false] [true,true,true,true,true,true] [true,true,true,true,true,true]
   (by kernel_rfl) (by kernel_rfl) (by decide +kernel) (by decide +kernel) (by decide +kernel) rfl ⟨rfl,rfl⟩ ⟨?s0,?s1,?s2,?s3,?s4,?s5,trivial⟩ [some 28,some 29,some 30,some 31,some 32,some 27] rfl rfl ?send
  case s0 =>
   intro val ρ W hE hz hd hA hx
   have o0:ρ (.tmp 7) = .pointer (some ⟨g,0,none⟩):=hA.old 7 (by decide)
   have f_c0:=cell_below hE (by simp only;omega) c0
   have f_c1:=cell_below hE (by simp only;omega) c1
   have f_c2:=cell_below hE (by simp only;omega) c2
   have f_c3:=cell_below hE (by simp only;omega) c3
   have f_c4:=cell_below hE (by simp only;omega) c4
   clear hd
   exact ze (W':=W) (by simp [execOp,o0,f_c0,f_c1,f_c2,f_c3,f_c4,go_sem]) (Below.refl _ _) rfl
  case s1 =>
   intro val ρ W hE hz hd hA hx
   have o0:ρ (.tmp 5) = .pointer (some ⟨p,0,none⟩):=hA.old 5 (by decide)
   clear hd
   exact ze (W':=W) (by simp [execOp,o0,go_sem]) (Below.refl _ _) rfl
  case s2 =>
   intro val ρ W hE hz hd hA hx
   have o0:ρ (.tmp 7) = .pointer (some ⟨g,0,none⟩):=hA.old 7 (by decide)
   have f_c0:=cell_below hE (by simp only;omega) c0
   have f_c1:=cell_below hE (by simp only;omega) c1
   have f_c2:=cell_below hE (by simp only;omega) c2
   have f_c3:=cell_below hE (by simp only;omega) c3
   have f_c4:=cell_below hE (by simp only;omega) c4
   clear hd
   exact ze (W':=W) (by simp [execOp,o0,f_c0,f_c1,f_c2,f_c3,f_c4,go_sem]) (Below.refl _ _) rfl
  case s3 =>
   intro val ρ W hE hz hd hA hx
   have d1:ρ (.tmp 29) = .pointer (some ⟨p,0,none⟩):=(hA.dep 1 (by decide) 29 rfl).trans (hd 1 (by decide))
   have d2:ρ (.tmp 30) = .agg #[.int .i64 (pl l 0),.int .i64 (pl l 1),.int .i64 (pl l 2),.int .i64 (pl l 3),.int .i64 (pl l 4)]:=(hA.dep 2 (by decide) 30 rfl).trans (hd 2 (by decide))
   clear hd
   refine zbo 57 _ _ rfl #[.pointer (some ⟨p,0,none⟩),.agg #[.int .i64 (pl l 0),.int .i64 (pl l 1),.int .i64 (pl l 2),.int .i64 (pl l 3),.int .i64 (pl l 4)]] (hA.func _) (by simp [d1,d2]) (fun args W=>Tryz.call57 args W) ((HRK.out W hE).mono ?_)
   rintro e w' ⟨rfl,hb⟩
   exact ⟨_,rfl,hb,rfl⟩
  case s4 =>
   intro val ρ W hE hz hd hA hx
   have d0:ρ (.tmp 28) = .agg #[.int .i64 (pl l 0),.int .i64 (pl l 1),.int .i64 (pl l 2),.int .i64 (pl l 3),.int .i64 (pl l 4)]:=(hA.dep 0 (by decide) 28 rfl).trans (hd 0 (by decide))
   have d3:ρ (.tmp 31) = .agg #[.int .i64 (pl E 0),.int .i64 (pl E 1),.int .i64 (pl E 2),.int .i64 (pl E 3),.int .i64 (pl E 4)]:=(hA.dep 3 (by decide) 31 rfl).trans (hd 3 (by decide))
   clear hd
   exact ze (W':=W) (by simp [execOp,d0,d3,hEq',go_sem]) (Below.refl _ _) rfl
  case s5 =>
   intro val ρ W hE hz hd hA hx
   have d4:ρ (.tmp 32) = .bool true:=(hA.dep 4 (by decide) 32 rfl).trans (hd 4 (by decide))
   clear hd
   exact ze (W':=W) (by simp [execOp,d4,go_sem]) (Below.refl _ _) rfl
  case send =>
   intro val WW hE hzz hv
   obtain ⟨-,-,-,-,-,r5,-⟩:=hv
   have q5:val 5 = .bool true:=r5
   simp only [putD,q5]
   go_frame
   clear r5 q5 hzz
   go_wp2_with fail
   go_ret
   exact ⟨zau (k:=.i64) (a:=16) (by unfold zfc;rw [if_neg (by rw [H0.out];simp),if_neg (by rw [HL.out];simp),if_neg (by rw [HNN.out,hf];simp)]),HW4.out.trans' hE⟩
 ·rw [hf] at hEq'
  refine zbb (W4.heap.size) (Nat.le_refl _)
   [sqV (.agg #[.int .i64 (pl l 0),.int .i64 (pl l 1),.int .i64 (pl l 2),.int .i64 (pl l 3),.int .i64 (pl l 4)]),sqV (.pointer (some ⟨p,0,none⟩)),sqV (.agg #[.int .i64 (pl l 0),.int .i64 (pl l 1),.int .i64 (pl l 2),.int .i64 (pl l 3),.int .i64 (pl l 4)]),sqV (.agg #[.int .i64 (pl E 0),.int .i64 (pl E 1),.int .i64 (pl E 2),.int .i64 (pl E 3),.int .i64 (pl E 4)]),sqV (.bool false),sqV (.bool false)]
   [true,true,true,true,true,true] [false,false,false,false,false,false] [true,true,true,true,true,true] [true,true,true,true,true,true]
   (by kernel_rfl) (by kernel_rfl) (by decide +kernel) (by decide +kernel) (by decide +kernel) rfl ⟨rfl,rfl⟩ ⟨?s0,?s1,?s2,?s3,?s4,?s5,trivial⟩ [some 28,some 29,some 30,some 31,some 32,some 27] rfl rfl ?send
  case s0 =>
   intro val ρ W hE hz hd hA hx
   have o0:ρ (.tmp 7) = .pointer (some ⟨g,0,none⟩):=hA.old 7 (by decide)
   have f_c0:=cell_below hE (by simp only;omega) c0
   have f_c1:=cell_below hE (by simp only;omega) c1
   have f_c2:=cell_below hE (by simp only;omega) c2
   have f_c3:=cell_below hE (by simp only;omega) c3
   have f_c4:=cell_below hE (by simp only;omega) c4
   clear hd
   exact ze (W':=W) (by simp [execOp,o0,f_c0,f_c1,f_c2,f_c3,f_c4,go_sem]) (Below.refl _ _) rfl
  case s1 =>
   intro val ρ W hE hz hd hA hx
   have o0:ρ (.tmp 5) = .pointer (some ⟨p,0,none⟩):=hA.old 5 (by decide)
   clear hd
   exact ze (W':=W) (by simp [execOp,o0,go_sem]) (Below.refl _ _) rfl
  case s2 =>
   intro val ρ W hE hz hd hA hx
   have o0:ρ (.tmp 7) = .pointer (some ⟨g,0,none⟩):=hA.old 7 (by decide)
   have f_c0:=cell_below hE (by simp only;omega) c0
   have f_c1:=cell_below hE (by simp only;omega) c1
   have f_c2:=cell_below hE (by simp only;omega) c2
   have f_c3:=cell_below hE (by simp only;omega) c3
   have f_c4:=cell_below hE (by simp only;omega) c4
   clear hd
   exact ze (W':=W) (by simp [execOp,o0,f_c0,f_c1,f_c2,f_c3,f_c4,go_sem]) (Below.refl _ _) rfl
  case s3 =>
   intro val ρ W hE hz hd hA hx
   have d1:ρ (.tmp 29) = .pointer (some ⟨p,0,none⟩):=(hA.dep 1 (by decide) 29 rfl).trans (hd 1 (by decide))
   have d2:ρ (.tmp 30) = .agg #[.int .i64 (pl l 0),.int .i64 (pl l 1),.int .i64 (pl l 2),.int .i64 (pl l 3),.int .i64 (pl l 4)]:=(hA.dep 2 (by decide) 30 rfl).trans (hd 2 (by decide))
   clear hd
   refine zbo 57 _ _ rfl #[.pointer (some ⟨p,0,none⟩),.agg #[.int .i64 (pl l 0),.int .i64 (pl l 1),.int .i64 (pl l 2),.int .i64 (pl l 3),.int .i64 (pl l 4)]] (hA.func _) (by simp [d1,d2]) (fun args W=>Tryz.call57 args W) ((HRK.out W hE).mono ?_)
   rintro e w' ⟨rfl,hb⟩
   exact ⟨_,rfl,hb,rfl⟩
  case s4 =>
   intro val ρ W hE hz hd hA hx
   have d0:ρ (.tmp 28) = .agg #[.int .i64 (pl l 0),.int .i64 (pl l 1),.int .i64 (pl l 2),.int .i64 (pl l 3),.int .i64 (pl l 4)]:=(hA.dep 0 (by decide) 28 rfl).trans (hd 0 (by decide))
   have d3:ρ (.tmp 31) = .agg #[.int .i64 (pl E 0),.int .i64 (pl E 1),.int .i64 (pl E 2),.int .i64 (pl E 3),.int .i64 (pl E 4)]:=(hA.dep 3 (by decide) 31 rfl).trans (hd 3 (by decide))
   clear hd
   exact ze (W':=W) (by simp [execOp,d0,d3,hEq',go_sem]) (Below.refl _ _) rfl
  case s5 =>
   intro val ρ W hE hz hd hA hx
   have d4:ρ (.tmp 32) = .bool false:=(hA.dep 4 (by decide) 32 rfl).trans (hd 4 (by decide))
   clear hd
   exact ze (W':=W) (by simp [execOp,d4,go_sem]) (Below.refl _ _) rfl
  case send =>
   intro val WW hE hzz hv
   obtain ⟨-,-,-,-,-,r5,-⟩:=hv
   have q5:val 5 = .bool false:=r5
   simp only [putD,q5]
   go_frame
   replace c0:=zh hE c0
   replace c1:=zh hE c1
   replace c2:=zh hE c2
   replace c3:=zh hE c3
   replace c4:=zh hE c4
   have HEW:=Lib.hid hE
   replace hg4:=World.block_lt_of_cell? _ _ c0
   clear r5 q5 hzz hfr kp hpz hE hgl hz
   go_wp2_with fail
   refine (zri h sa cap p l WW (HV4.out.ext HEW.out) (HR4.out.ext HEW.out) (fun x hx=>V.out.ok x hx)).mono ?_
   rintro e W5 ⟨rfl,hE5⟩
   have HE5:=Lib.hid ((HW4.out.trans' HEW.out).trans' hE5)
   clear hE5
   cases ha:agrP h.ws l
   ·go_wp2_with fail
    go_ret
    exact ⟨zau (k:=.i64) (a:=22) (by unfold zfc;rw [if_neg (by rw [H0.out];simp),if_neg (by rw [HL.out];simp),if_pos (by rw [HNN.out,hf]),if_neg (by rw [ha];simp)]),HE5.out⟩
   ·go_wp2_with fail
    go_ret
    exact ⟨zau (k:=.i64) (a:=0) (by unfold zfc;rw [if_neg (by rw [H0.out];simp),if_neg (by rw [HL.out];simp),if_pos (by rw [HNN.out,hf]),if_pos ha]),HE5.out⟩
end Go.Proofs.YtkfifbopmpcanaaGreat
