/-
  The walk of cut of the boxes, by induction on the races that are left.
-/
import Derived.Test.YtkfifbopmpcanaaGreatXb
namespace Go.Proofs.YtkfifbopmpcanaaGreat
open Go.RowKit Go.Shelf
attribute [local go_sem] Oper.semAt_some
theorem z3h (g:List Nat→List Bool→List Lf) (cls:Nat→List Bool) (sets:List Nat) (race n left:Nat):zbx g cls sets race n 0 left=[]:=rfl
theorem z5f {g:List Nat→List Bool→List Lf} {cls:Nat→List Bool} {sets:List Nat} {race n i left:Nat} (hi:i < n) (hb:left.testBit i=true) :
  zbx g cls sets race n (n - i) left=g (sets.set race (ownB left n i cls n)) (cls i) ++ zbx g cls sets race n (n - (i+1)) (zc8 left (ownB left n i cls n)):=by
 obtain ⟨m,hm⟩:∃ m,n - i=m+1:=⟨n - i - 1,by omega⟩
 have h2:n - (i+1)=m:=by omega
 have h3:n - (m+1)=i:=by omega
 rw [hm,h2]
 simp only [zbx,h3,hb,if_true]
theorem z7m {g:List Nat→List Bool→List Lf} {cls:Nat→List Bool} {sets:List Nat} {race n i left:Nat} (hi:i < n) (hb:left.testBit i=false) :
  zbx g cls sets race n (n - i) left=zbx g cls sets race n (n - (i+1)) left:=by
 obtain ⟨m,hm⟩:∃ m,n - i=m+1:=⟨n - i - 1,by omega⟩
 have h2:n - (i+1)=m:=by omega
 have h3:n - (m+1)=i:=by omega
 rw [hm,h2]
 simp only [zbx,h3,hb,if_false,Bool.false_eq_true]
theorem zxb (n k:Nat) (h:n≤4294967295):bits .and .i64 ((n:Int) / 2 ^ k) 1=if n.testBit k=true then 1 else 0:=by
 rw [zpo,z0s _ (by rw [Nat.shiftRight_eq_div_pow];exact Nat.le_trans (Nat.div_le_self _ _) h)]
 have hb:=zto n k
 cases hx:n.testBit k
 ·rw [hx] at hb
  simp at hb
  rw [if_neg (by simp),hb]
  rfl
 ·rw [hx] at hb
  simp at hb
  rw [if_pos rfl,hb]
  rfl
theorem zxc (l:List Nat) (r v:Nat) (h:r < l.length) (j:Nat):((l.set r v).getD j 0:Int)=if j=r then (v:Int) else (l.getD j 0:Int):=by
 rw [zeq _ _ _ _ h]
 split<;>rfl
set_option maxRecDepth 100000 in
set_option maxHeartbeats 32000000 in
theorem z8n {R:Nat→Prop} {w0:World} {p:Nat} {rs:List Nat} {ps:List (Value × Tk)} {rb ro rcap:Nat} {ta:Option Addr} {tc:Nat} (E:CutE R w0 p rs ps rb ro rcap ta tc) (l:Nat) (J Jx:(Nat→Prop)→List (Value × Lf)→World→Prop) (Good:Lf→Prop)
  (hJ:∀ pre,Bears (fun _=>False) (J · pre ·))
  (hY:∀ O pre x W1,J O pre W1→NxB Good rs.length O W1 x→YieldAt Fence.wide 0 Tryz.prog l (encB ps x) W1 fun e W'=>(e = .returned (.bool true)∧J O (pre ++ [x]) W'∧Kept (fun k=>R k∨O k) W1 W')∨(e = .returned (.bool false)∧Jx O (pre ++ [x]) W')) :
  ∀ (f race:Nat),race+f=rs.length→∀ (n:Nat) (sets:List Nat) (al:List Bool) (O:Nat→Prop) (pre:List (Value × Lf)) (sb so sc:Nat) (W:World),sets.length=rs.length→al.length=ps.length→(∀ r,r < rs.length→sets.getD r 0 < 64)→(∀ x∈cutB rs (zal (zj ps)) f sets al,Good x)→Kept R w0 W→J O pre W→SetsAt W O sb so sc sets rs.length →
   CallsIn Fence.wide n Tryz.prog 117 #[.pointer (some ⟨p,0,none⟩),.slice (some ⟨sb,so,none⟩) rs.length sc,.agg (zbp (race:Int) (mkI al)),.func (.yield l) #[] #[]] W (CutQ R O J Jx pre (cutB rs (zal (zj ps)) f sets al) W):=by
 intro f
 induction f with
 | zero =>
  intro race hf n sets al O pre sb so sc W hsl hal hsb hG hK hj hS
  exact zrq E l J Jx Good hJ hY race n sets al O pre sb so sc W hsl hal hsb (.inl (by omega)) (hG _ (by simp [cutB])) hK hj hS
 | succ f ih =>
  intro race hf n sets al O pre sb so sc W hsl hal hsb hG hK hj hS
  by_cases hd:al.all (fun b=>!b)=true
  ·have hc:cutB rs (zal (zj ps)) (f+1) sets al=[(sets,al)]:=by simp only [cutB];rw [if_pos hd]
   rw [hc] at hG ⊢
   exact zrq E l J Jx Good hJ hY race n sets al O pre sb so sc W hsl hal hsb (.inr ⟨by omega,hd⟩) (hG _ (by simp)) hK hj hS
  have hcut:cutB rs (zal (zj ps)) (f+1) sets al=zbx (cutB rs (zal (zj ps)) f) (zbi (zal (zj ps)) race al) sets race (rs.getD race 0) (rs.getD race 0) (sets.getD race 0):=by
   simp only [cutB]
   rw [if_neg hd,show rs.length - (f+1)=race by omega]
  obtain ⟨total,htot⟩:∃ total,total=cutB rs (zal (zj ps)) (f+1) sets al:=⟨_,rfl⟩
  rw [← htot] at hG hcut ⊢
  clear htot
  obtain ⟨cls,hcls⟩:∃ cls,cls=zbi (zal (zj ps)) race al:=⟨_,rfl⟩
  rw [← hcls] at hcut
  have HCLS:=Lib.hid hcls
  have HIH:=Lib.hid ih
  have HGOOD:=Lib.hid hG
  have HSB:=Lib.hid hsb
  have HSL:=Lib.hid hsl
  have HAL:=Lib.hid hal
  have HF1:=Lib.hid hf
  have hrace:race < rs.length:=by omega
  have hr5:=E.V.hi
  have hNb:=E.V.each race hrace
  obtain ⟨N,hN⟩:∃ N,N=rs.getD race 0:=⟨_,rfl⟩
  rw [← hN] at hcut hNb
  have HN:=Lib.hid hN
  have hl10:=E.len
  have HTOT0:=Lib.hid hcut
  have HLEN:=Lib.hid (z3g E.VT)
  have HLE:=Lib.hid (z53 E.V E.VT)
  have hs64:=hsb race hrace
  have hdf:al.all (fun b=>!b)=false:=by cases h:al.all (fun b=>!b) with
   | true=>exact absurd h hd
   | false=>rfl
  have HDF:=Lib.hid hdf
  clear hcls ih hG hsb hsl hal hf hN hcut hd hdf
  unfold zbp
  obtain ⟨F,hF⟩:∃ F,F=mkI al:=⟨_,rfl⟩
  rw [← hF]
  have HF:=Lib.hid hF
  clear hF
  refine callsIn_of_wp Tryz.func117 rfl trivial ?_ rfl
  simp only [Tryz.ntmps117,List.size_toArray,List.length_cons,List.length_nil,Nat.reduceAdd,Nat.reduceSub,Array.replicate_succ,Array.replicate_zero,List.push_toArray,List.append_toArray,List.nil_append,List.cons_append]
  obtain ⟨W1,hW1⟩:∃ W1,W1=W.alloc (.cells #[.int .i64 race,.int .i64 (F 0),.int .i64 (F 1),.int .i64 (F 2),.int .i64 (F 3),.int .i64 (F 4),.int .i64 (F 5),.int .i64 (F 6),.int .i64 (F 7),.int .i64 (F 8),.int .i64 (F 9)] 172):=⟨_,rfl⟩
  have hE1:Ext W W1:=by rw [hW1];exact xx
  have hP1:PlAt 172 W1 W.heap.size race F:=by rw [hW1];exact zdx _ W race F
  have hj1:J (fun k=>O k∨k=W.heap.size) pre W1:=by rw [hW1];exact (hJ pre).alloc hj _
  have hS1:SetsAt W1 O sb so sc sets rs.length:=hS.ext hE1
  have hK1:Kept R w0 W1:=hK.trans (Kept.of_below hE1)
  gi_wp2_with fail
  rw [← hW1]
  obtain ⟨q,hq⟩:∃ q,q=W.heap.size:=⟨_,rfl⟩
  rw [← hq] at hP1 hj1 ⊢
  have c0:=(E.sheet W1 hK1).c0
  have hzp:=(E.sheet W1 hK1).lt
  have hqz:=hP1.lt
  obtain ⟨a0,a1,a2,a3,a4,a5,a6,a7,a8,a9,a10⟩:=hP1.cells
  have HE1:=Lib.hid hE1
  have HP1:=Lib.hid hP1
  have HJ1:=Lib.hid hj1
  have HS1:=Lib.hid hS1
  have HK1:=Lib.hid hK1
  have HQ:=Lib.hid hq
  clear hW1 hE1 hP1 hj1 hS1 hK1 hq hj hS hK
  refine wpIn_wide.2 ?_
  have hrl:((race:Int) == (rs.length:Int))=false:=by rw [beq_eq_false_iff_ne];omega
  have heq:∀ W,(Op.equalIn 10000 170 (.agg #[.int .i64 (F 0),.int .i64 (F 1),.int .i64 (F 2),.int .i64 (F 3),.int .i64 (F 4),.int .i64 (F 5),.int .i64 (F 6),.int .i64 (F 7),.int .i64 (F 8),.int .i64 (F 9)]) (.agg #[.int .i64 0,.int .i64 0,.int .i64 0,.int .i64 0,.int .i64 0,.int .i64 0,.int .i64 0,.int .i64 0,.int .i64 0,.int .i64 0])).run Tryz.prog W = .ok false W:=fun W=>by
   have h:=znl 170 Tryz.runUnderlying170 F (fun _=>0) 9998 W
   have h2:=zrm (n:=ps.length) HAL.out E.len
   rw [HDF.out] at h2
   rw [← HF.out] at h2
   unfold zlw at h2
   rw [h2] at h
   exact h
  refine zcg (W1.heap.size) (Nat.le_refl _)
   [sqV (.pointer (some ⟨q,0,none⟩)),sqV (.int .i64 race),sqV (.pointer (some ⟨p,0,none⟩)),sqV (.pointer (some ⟨p,0,none⟩)),sqV (.pointer (some ⟨p,0,none⟩)),sqV (.pointer (some ⟨p,0,none⟩)),sqV (.slice (some ⟨rb,ro,none⟩) rs.length rcap),sqV (.int .i64 rs.length),sqV (.bool false),sqV (.bool false),sqV (.pointer (some ⟨q,1,none⟩)),sqV (.agg #[.int .i64 (F 0),.int .i64 (F 1),.int .i64 (F 2),.int .i64 (F 3),.int .i64 (F 4),.int .i64 (F 5),.int .i64 (F 6),.int .i64 (F 7),.int .i64 (F 8),.int .i64 (F 9)]),sqV (.agg #[.int .i64 0,.int .i64 0,.int .i64 0,.int .i64 0,.int .i64 0,.int .i64 0,.int .i64 0,.int .i64 0,.int .i64 0,.int .i64 0]),sqV (.bool false),sqV (.bool false)]
   [true,true,true,true,true,true,true,true,true,true,true,true,true,true,true] [false,false,false,false,false,false,false,false,false,false,false,false,false,false,false] [true,true,true,true,true,true,true,true,true,true,true,true,true,true,true] [true,true,true,true,true,true,true,true,true,true,true,true,true,true,true] [true,true,true,true,true,true,true,true,true,true,true,true,true,true,true] [none,none,none,none,none,none,none,none,some false,some false,none,none,none,some false,some false]
   (by kernel_rfl) (by kernel_rfl) (by decide +kernel) ⟨fun _ _ _ h=>h,⟨fun _ _ _ h=>h,⟨fun _ _ _ h=>h,⟨fun _ _ _ h=>h,trivial⟩⟩⟩⟩ (by decide +kernel) (by decide +kernel) (by decide +kernel) rfl ⟨rfl,rfl,rfl⟩ ⟨?s0,?s1,?s2,?s3,?s4,?s5,?s6,?s7,?s8,?s9,?s10,?s11,?s12,?s13,?s14,trivial⟩ [some 15,some 16,some 17,some 18,some 19,some 20,some 21,some 22,some 23,some 24,some 25,some 26,some 27,some 28,some 29] rfl rfl ?send
  case s0 =>
   intro val ρ W hE hz hd hu hA hx
   have o0:ρ (.tmp 6) = .pointer (some ⟨q,0,none⟩):=hA.old 6 (by decide)
   clear hd hu
   exact ze (W':=W) (by simp [execOp,o0,go_sem]) (Below.refl _ _) rfl
  case s1 =>
   intro val ρ W hE hz hd hu hA hx
   have d0:ρ (.tmp 15) = .pointer (some ⟨q,0,none⟩):=(hA.dep 0 (by decide) 15 rfl).trans (hd 0 (by decide))
   have f_a0:=cell_below hE (by simp only;omega) a0
   clear hd hu
   exact ze (W':=W) (by simp [execOp,d0,f_a0,go_sem]) (Below.refl _ _) rfl
  case s2 =>
   intro val ρ W hE hz hd hu hA hx
   have o0:ρ (.tmp 0) = .pointer (some ⟨p,0,none⟩):=hA.old 0 (by decide)
   clear hd hu
   exact ze (W':=W) (by simp [execOp,o0,go_sem]) (Below.refl _ _) rfl
  case s3 =>
   intro val ρ W hE hz hd hu hA hx
   have d2:ρ (.tmp 17) = .pointer (some ⟨p,0,none⟩):=(hA.dep 2 (by decide) 17 rfl).trans (hd 2 (by decide))
   clear hd hu
   exact ze (W':=W) (by simp [execOp,d2,go_sem]) (Below.refl _ _) rfl
  case s4 =>
   intro val ρ W hE hz hd hu hA hx
   have d3:ρ (.tmp 18) = .pointer (some ⟨p,0,none⟩):=(hA.dep 3 (by decide) 18 rfl).trans (hd 3 (by decide))
   clear hd hu
   exact ze (W':=W) (by simp [execOp,d3,go_sem]) (Below.refl _ _) rfl
  case s5 =>
   intro val ρ W hE hz hd hu hA hx
   have d4:ρ (.tmp 19) = .pointer (some ⟨p,0,none⟩):=(hA.dep 4 (by decide) 19 rfl).trans (hd 4 (by decide))
   clear hd hu
   exact ze (W':=W) (by simp [execOp,d4,go_sem]) (Below.refl _ _) rfl
  case s6 =>
   intro val ρ W hE hz hd hu hA hx
   have d5:ρ (.tmp 20) = .pointer (some ⟨p,0,none⟩):=(hA.dep 5 (by decide) 20 rfl).trans (hd 5 (by decide))
   have f_c0:=cell_below hE (by simp only;omega) c0
   clear hd hu
   exact ze (W':=W) (by simp [execOp,d5,f_c0,go_sem]) (Below.refl _ _) rfl
  case s7 =>
   intro val ρ W hE hz hd hu hA hx
   have d6:ρ (.tmp 21) = .slice (some ⟨rb,ro,none⟩) rs.length rcap:=(hA.dep 6 (by decide) 21 rfl).trans (hd 6 (by decide))
   clear hd hu
   exact ze (W':=W) (by simp [d6,go_sem]) (Below.refl _ _) rfl
  case s8 =>
   intro val ρ W hE hz hd hu hA hx
   have d1:ρ (.tmp 16) = .int .i64 race:=(hA.dep 1 (by decide) 16 rfl).trans (hd 1 (by decide))
   have d7:ρ (.tmp 22) = .int .i64 rs.length:=(hA.dep 7 (by decide) 22 rfl).trans (hd 7 (by decide))
   clear hd hu
   exact ze (W':=W) (by simp [execOp,d1,d7,hrl,go_sem]) (Below.refl _ _) rfl
  case s9 =>
   intro val ρ W hE hz hd hu hA hx
   have d8:ρ (.tmp 23) = .bool false:=(hA.dep 8 (by decide) 23 rfl).trans (hd 8 (by decide))
   clear hd hu
   exact ze (W':=W) (by simp [execOp,d8,go_sem]) (Below.refl _ _) rfl
  case s10 =>
   intro val ρ W hE hz hd hu hA hx
   have o0:ρ (.tmp 6) = .pointer (some ⟨q,0,none⟩):=hA.old 6 (by decide)
   clear hd hu
   exact ze (W':=W) (by simp [execOp,o0,go_sem]) (Below.refl _ _) rfl
  case s11 =>
   intro val ρ W hE hz hd hu hA hx
   have d10:ρ (.tmp 25) = .pointer (some ⟨q,1,none⟩):=(hA.dep 10 (by decide) 25 rfl).trans (hd 10 (by decide))
   have f_a1:=cell_below hE (by simp only;omega) a1
   have f_a2:=cell_below hE (by simp only;omega) a2
   have f_a3:=cell_below hE (by simp only;omega) a3
   have f_a4:=cell_below hE (by simp only;omega) a4
   have f_a5:=cell_below hE (by simp only;omega) a5
   have f_a6:=cell_below hE (by simp only;omega) a6
   have f_a7:=cell_below hE (by simp only;omega) a7
   have f_a8:=cell_below hE (by simp only;omega) a8
   have f_a9:=cell_below hE (by simp only;omega) a9
   have f_a10:=cell_below hE (by simp only;omega) a10
   clear hd hu
   exact ze (W':=W) (by simp [execOp,d10,f_a1,f_a2,f_a3,f_a4,f_a5,f_a6,f_a7,f_a8,f_a9,f_a10,go_sem]) (Below.refl _ _) rfl
  case s12 =>
   intro val ρ W hE hz hd hu hA hx
   clear hd hu
   exact ze (W':=W) (by simp [execOp,go_sem]) (Below.refl _ _) rfl
  case s13 =>
   intro val ρ W hE hz hd hu hA hx
   have d11:ρ (.tmp 26) = .agg #[.int .i64 (F 0),.int .i64 (F 1),.int .i64 (F 2),.int .i64 (F 3),.int .i64 (F 4),.int .i64 (F 5),.int .i64 (F 6),.int .i64 (F 7),.int .i64 (F 8),.int .i64 (F 9)]:=(hA.dep 11 (by decide) 26 rfl).trans (hd 11 (by decide))
   have d12:ρ (.tmp 27) = .agg #[.int .i64 0,.int .i64 0,.int .i64 0,.int .i64 0,.int .i64 0,.int .i64 0,.int .i64 0,.int .i64 0,.int .i64 0,.int .i64 0]:=(hA.dep 12 (by decide) 27 rfl).trans (hd 12 (by decide))
   clear hd hu
   exact ze (W':=W) (by simp [execOp,d11,d12,heq,go_sem]) (Below.refl _ _) rfl
  case s14 =>
   intro val ρ W hE hz hd hu hA hx
   have d9:ρ (.tmp 24) = .bool false:=(hA.dep 9 (by decide) 24 rfl).trans (hd 9 (by decide))
   have d13:ρ (.tmp 28) = .bool false:=(hA.dep 13 (by decide) 28 rfl).trans (hd 13 (by decide))
   clear hd hu
   exact ze (W':=W) (by simp [execOp,hA.const,d9,d13,go_sem]) (Below.refl _ _) rfl
  case send =>
  intro val WW hE hzz hv
  obtain ⟨-,-,-,-,-,-,-,-,-,-,-,-,-,-,r14,-⟩:=hv
  have q14:val 14 = .bool false:=r14
  simp only [putD,q14]
  go_frame
  have HPW:=Lib.hid (HP1.out.ext hE)
  have HKW:=Lib.hid (HK1.out.trans (Kept.of_below hE))
  have HEW:=Lib.hid (HE1.out.trans' hE)
  have HJW:=Lib.hid ((hJ pre).ext HJ1.out hE)
  have HSW:=Lib.hid (HS1.out.kept (R:=R) (Kept.of_below hE))
  have b0:=HPW.out.c0
  have hqw:=HPW.out.lt
  have c0:=(E.sheet WW HKW.out).c0
  have hzp:=(E.sheet WW HKW.out).lt
  have cr:=E.cells WW HKW.out race hrace
  have zr:=World.block_lt_of_cell? _ _ cr
  simp only at zr
  have cs:=HSW.out.2.2.2 race hrace
  have zs:=World.block_lt_of_cell? _ _ cs
  simp only at zs
  rw [← HN.out] at cr
  obtain ⟨s0,hs0⟩:∃ s0:Nat,s0=sets.getD race 0:=⟨_,rfl⟩
  rw [← hs0] at cs hs64
  have HS0:=Lib.hid hs0
  have hri:(race:Int) < (rs.length:Int):=by omega
  clear hE hzz r14 q14 a0 a1 a2 a3 a4 a5 a6 a7 a8 a9 a10 hqz hrl heq hs0 HE1 HP1 HJ1 HS1 HK1
  gi_wp2_with fail
  refine wpIn_wide.2 ?_
  go_quiet (fail)
  gi_wp2_with fail
  obtain ⟨O1,hO1⟩:∃ O1:Nat→Prop,O1=fun k=>O k∨k=q:=⟨_,rfl⟩
  have HO1:=Lib.hid hO1
  have HJ2:Hid (J O1 pre (WW.drewN nq)):=Lib.hid (by rw [hO1];exact (hJ pre).ext HJW.out (Ext.drN (Below.refl _ WW) nq))
  have HPQ:=Lib.hid HPW.out
  have HSQ:Hid (SetsAt WW O1 sb so sc sets rs.length):=Lib.hid (HSW.out.mono fun k h=>by rw [hO1];exact .inl h)
  clear hO1 b0 hqw c0 hzp cr zr cs zs HJW HSW HPW
  gi_loopw [9,51] (fun lv iv wr=>∃ (i left:Nat) (O':Nat→Prop) (xs:List (Value × Lf)),i≤N∧iv = .int .i64 i∧lv = .int .i64 left∧left < 64∧(∀ k,O1 k→O' k)∧J O' (pre ++ xs) wr∧Kept (fun k=>R k∨O1 k) WW wr∧xs.map (·.2) ++ zbx (cutB rs (zal (zj ps)) f) cls sets race N (N - i) left=total) (fun _ iv _=>N - (intOf iv).toNat)
  case atStart=>exact ⟨0,s0,O1,[],by omega,rfl,rfl,hs64,fun k h=>h,by simpa using HJ2.out,(Kept.refl _ WW).drNb nq,by rw [HTOT0.out,HS0.out];rfl⟩
  case round =>
   obtain ⟨i,left,O',xs,hi,rfl,rfl,hl64,hOO,hj,hK,htl⟩:=hrel
   obtain ⟨wr,rfl⟩:∃ W,W=wr:=⟨_,rfl⟩
   have HOO:=Lib.hid hOO
   have HJ:=Lib.hid hj
   have HK:=Lib.hid hK
   have HKR:Hid (Kept R w0 wr):=Lib.hid (HKW.out.trans (hK.mono fun k _ h=>.inl h))
   have hbit:=zxb left i (by omega)
   by_cases hlt:i < N
   ·have hii:(i:Int) < (N:Int):=by omega
    cases hb:left.testBit i
    ·rw [hb] at hbit
     simp only [Bool.false_eq_true,if_false] at hbit
     have HTL:Hid (xs.map (·.2) ++ zbx (cutB rs (zal (zj ps)) f) cls sets race N (N - (i+1)) left=total):=Lib.hid (by rw [← z7m hlt hb];exact htl)
     clear htl hb hOO hj hK
     gi_wp2_with fail
     go_roundw
     case rel=>exact ⟨i+1,left,O',xs,by omega,by go_num,rfl,hl64,HOO.out,HJ.out,HK.out,HTL.out⟩
     case measure=>simp [intOf];omega
    ·rw [hb] at hbit
     simp only [if_true] at hbit
     have HTL:Hid (xs.map (·.2) ++ (cutB rs (zal (zj ps)) f (sets.set race (ownB left N i cls N)) (cls i) ++ zbx (cutB rs (zal (zj ps)) f) cls sets race N (N - (i+1)) (zc8 left (ownB left N i cls N)))=total):=Lib.hid (by rw [← z5f hlt hb];exact htl)
     have HB:=Lib.hid hb
     have HPR:Hid (PlAt 172 wr q race F):=Lib.hid (HPQ.out.of_heap (hK.same q HPQ.out.lt (.inr (by rw [HO1.out];exact .inr rfl))))
     have hnx:=zw7 ps al race i rs.length p (.slice (some ⟨rb,ro,none⟩) rs.length rcap) ta tc wr (E.sheet wr HKR.out) (E.tks wr HKR.out) hl10 hrace hr5 HLEN.out HLE.out (by omega)
     rw [← HF.out,← HCLS.out] at hnx
     unfold zbp at hnx
     obtain ⟨G,hG⟩:∃ G,G=mkI (cls i):=⟨_,rfl⟩
     rw [← hG] at hnx
     have HG:=Lib.hid hG
     have HNX:=Lib.hid hnx
     obtain ⟨a0,a1,a2,a3,a4,a5,a6,a7,a8,a9,a10⟩:=HPR.out.cells
     have hqz:=HPR.out.lt
     clear htl hb hOO hj hK hnx hG
     gi_wp2_with fail
     refine ⟨trivial,fun h=>(by simp [Fence.wide] at h),(callsIn_wide.2 HNX.out).mono ?_⟩
     rintro e W3 ⟨rfl,hE3⟩
     obtain ⟨R1,hR1⟩:∃ R1,R1=(race:Int)+1:=⟨_,rfl⟩
     rw [← hR1]
     obtain ⟨X,hX⟩:∃ X,X=W3.alloc (.cells #[.int .i64 R1,.int .i64 (G 0),.int .i64 (G 1),.int .i64 (G 2),.int .i64 (G 3),.int .i64 (G 4),.int .i64 (G 5),.int .i64 (G 6),.int .i64 (G 7),.int .i64 (G 8),.int .i64 (G 9)] 172):=⟨_,rfl⟩
     have hgX:PlAt 172 X W3.heap.size R1 G:=by rw [hX];exact zdx _ W3 R1 G
     have hEX:Ext wr X:=by rw [hX];exact hE3.trans' xx
     have HR1:=Lib.hid hR1
     clear hR1
     clear a0 a1 a2 a3 a4 a5 a6 a7 a8 a9 a10 hqz HNX
     gi_wp2_with fail
     rw [← hX]
     obtain ⟨g,hg⟩:∃ g,g=W3.heap.size:=⟨_,rfl⟩
     rw [← hg] at hgX ⊢
     have HGX:=Lib.hid hgX
     have HEX:=Lib.hid hEX
     have HGW:Hid (wr.heap.size≤g):=Lib.hid (by have:=hE3.size;omega)
     clear hX hgX hEX hg hE3 hbit
     gi_loopw [12,13] (fun ov kv W9=>∃ (k own:Nat),i≤k∧k≤N∧kv = .int .i64 k∧ov = .int .i64 own∧own < 64∧(∀ j,own.testBit j=decide (i≤j∧j < k∧left.testBit j=true∧cls j=cls i))∧Ext X W9) (fun _ kv _=>N - (intOf kv).toNat)
     case atStart=>exact ⟨i,0,Nat.le_refl _,by omega,rfl,rfl,by omega,fun j=>by simp;omega,Below.refl _ _⟩
     case round =>
      obtain ⟨k,own,hik,hk,rfl,rfl,ho64,hown,hEk⟩:=hrel
      obtain ⟨Wk,rfl⟩:∃ W,W=wr:=⟨_,rfl⟩
      have HK9:Hid (Ext wr Wk):=Lib.hid (HEX.out.trans' hEk)
      have HEk:=Lib.hid hEk
      have HOWN:=Lib.hid hown
      have HKk:Hid (Kept R w0 Wk):=Lib.hid (HKR.out.trans (Kept.of_below HK9.out))
      have c0:=(E.sheet Wk HKk.out).c0
      have hzp:=(E.sheet Wk HKk.out).lt
      have cr:=E.cells Wk HKk.out race hrace
      have zr:=World.block_lt_of_cell? _ _ cr
      simp only at zr
      rw [← HN.out] at cr
      have HPk:Hid (PlAt 172 Wk q race F):=Lib.hid (HPR.out.ext HK9.out)
      have b0:=HPk.out.c0
      have hqz:=HPk.out.lt
      clear hown hEk
      by_cases hltk:k < N
      ·have hki:(k:Int) < (N:Int):=by omega
       gi_wp2_with fail
       refine wpIn_wide.2 ?_
       go_quiet (fail)
       gi_wp2_with fail
       refine wpIn_wide.2 ?_
       obtain ⟨Y,hY⟩:∃ Y,Y=Wk.drewN nq:=⟨_,rfl⟩
       have hEY:Ext Wk Y:=by rw [hY];exact Ext.drN (Below.refl _ Wk) nq
       rw [← hY]
       have HEY:=Lib.hid hEY
       have HKY:Hid (Kept R w0 Y):=Lib.hid (HKk.out.trans (Kept.of_below hEY))
       obtain ⟨S,hS⟩:∃ S:Nat,S=left >>> k:=⟨_,rfl⟩
       have hS1:(left:Int) / 2 ^ k=(S:Int):=by rw [zpo,hS]
       have hbk:=zxb left k (by omega)
       rw [hS1] at hbk
       clear hY hEY hS c0 hzp cr zr b0 hqz
       cases hb:left.testBit k
       ·rw [hb] at hbk
        simp only [Bool.false_eq_true,if_false] at hbk
        have HB2:=Lib.hid hb
        clear hb
        refine zcg (Y.heap.size) (Nat.le_refl _)
         [sqV (.int .i64 left),sqV (.int .i64 k),sqV (.int .i64 S),sqV (.int .i64 0),sqV (.bool false),sqV (.bool false),sqV undef,sqV undef,sqV undef,sqV undef,sqV undef,sqV undef,sqV undef,sqV undef,sqV (.bool false)]
         [true,true,true,true,true,true,true,true,true,true,true,true,true,true,true] [false,false,false,false,false,false,false,false,false,false,false,false,false,false,false] [true,true,true,true,true,true,true,true,true,true,true,true,true,true,true] [true,true,true,true,true,true,true,true,true,true,true,true,true,true,true] [true,true,true,true,true,true,false,false,false,false,false,false,false,false,true] [none,none,none,none,some false,some false,none,none,none,none,none,none,none,none,some false]
         (by kernel_rfl) (by kernel_rfl) (by decide +kernel) ⟨fun _ _ _ h=>h,⟨fun _ _ _ h=>h,⟨fun _ _ _ h=>h,trivial⟩⟩⟩ (by decide +kernel) (by decide +kernel) (by decide +kernel) rfl ⟨rfl,rfl,rfl⟩ ⟨?s0,?s1,?s2,?s3,?s4,?s5,?s6,?s7,?s8,?s9,?s10,?s11,?s12,?s13,?s14,trivial⟩ [some 77,some 78,some 79,some 80,some 81,some 82,some 83,some 84,some 85,some 86,some 87,some 88,some 89,some 90,some 91] rfl rfl ?send
        case s0 =>
         intro val ρ W hE hz hd hu hA hx
         have o0:ρ (.tmp 9) = .int .i64 left:=hA.old 9 (by decide)
         clear hd hu
         exact ze (W':=W) (by simp [execOp,o0,go_sem]) (Below.refl _ _) rfl
        case s1 =>
         intro val ρ W hE hz hd hu hA hx
         have o0:ρ (.tmp 13) = .int .i64 k:=hA.old 13 (by decide)
         clear hd hu
         exact ze (W':=W) (by simp [execOp,o0,go_sem]) (Below.refl _ _) rfl
        case s2 =>
         intro val ρ W hE hz hd hu hA hx
         have d0:ρ (.tmp 77) = .int .i64 left:=(hA.dep 0 (by decide) 77 rfl).trans (hd 0 (by decide))
         have d1:ρ (.tmp 78) = .int .i64 k:=(hA.dep 1 (by decide) 78 rfl).trans (hd 1 (by decide))
         clear hd hu
         exact ze (W':=W) (by simp [execOp,d0,d1,hS1,go_sem]) (Below.refl _ _) rfl
        case s3 =>
         intro val ρ W hE hz hd hu hA hx
         have d2:ρ (.tmp 79) = .int .i64 S:=(hA.dep 2 (by decide) 79 rfl).trans (hd 2 (by decide))
         clear hd hu
         exact ze (W':=W) (by simp [execOp,hA.const,d2,hbk,go_sem]) (Below.refl _ _) rfl
        case s4 =>
         intro val ρ W hE hz hd hu hA hx
         have d3:ρ (.tmp 80) = .int .i64 0:=(hA.dep 3 (by decide) 80 rfl).trans (hd 3 (by decide))
         clear hd hu
         exact ze (W':=W) (by simp [execOp,hA.const,d3,go_sem]) (Below.refl _ _) rfl
        case s5 =>
         intro val ρ W hE hz hd hu hA hx
         have d4:ρ (.tmp 81) = .bool false:=(hA.dep 4 (by decide) 81 rfl).trans (hd 4 (by decide))
         clear hd hu
         exact ze (W':=W) (by simp [execOp,d4,go_sem]) (Below.refl _ _) rfl
        case s6=>exact ⟨fun _ _=>rfl,fun _ _ _ h=>h⟩
        case s7=>exact ⟨fun _ _=>rfl,fun _ _ _ h=>h⟩
        case s8=>exact ⟨fun _ _=>rfl,fun _ _ _ h=>h⟩
        case s9=>exact ⟨fun _ _=>rfl,fun _ _ _ h=>h⟩
        case s10=>exact ⟨fun _ _=>rfl,fun _ _ _ h=>h⟩
        case s11=>exact ⟨fun _ _=>rfl,fun _ _ _ h=>h⟩
        case s12=>exact ⟨fun _ _=>rfl,fun _ _ _ h=>h⟩
        case s13=>exact ⟨fun _ _=>rfl,fun _ _ _ h=>h⟩
        case s14 =>
         intro val ρ W hE hz hd hu hA hx
         have d5:ρ (.tmp 82) = .bool false:=(hA.dep 5 (by decide) 82 rfl).trans (hd 5 (by decide))
         clear hd hu
         exact ze (W':=W) (by simp [execOp,hA.const,d5,go_sem]) (Below.refl _ _) rfl
        case send =>
         intro val WZ hE hzz hv
         obtain ⟨-,-,-,-,-,-,-,-,-,-,-,-,-,-,r14,-⟩:=hv
         have q14:val 14 = .bool false:=r14
         simp only [putD,q14]
         go_frame
         have HEZ:=Lib.hid ((HEk.out.trans' HEY.out).trans' hE)
         clear hE hzz r14 q14 hbk hS1
         gi_wp2_with fail
         go_roundw
         case rel=>exact ⟨k+1,own,by omega,by omega,by go_num,rfl,ho64,zw9 HOWN.out (fun h=>by rw [HB2.out] at h;exact Bool.noConfusion h.1),HEZ.out⟩
         case measure=>simp [intOf];omega
       ·rw [hb] at hbk
        simp only [if_true] at hbk
        have HB2:=Lib.hid hb
        obtain ⟨H,hH⟩:∃ H,H=mkI (cls k):=⟨_,rfl⟩
        have hnk:∀ W,Ext Y W→Calls Tryz.prog 94 #[.pointer (some ⟨p,0,none⟩),.agg #[.int .i64 race,.int .i64 (F 0),.int .i64 (F 1),.int .i64 (F 2),.int .i64 (F 3),.int .i64 (F 4),.int .i64 (F 5),.int .i64 (F 6),.int .i64 (F 7),.int .i64 (F 8),.int .i64 (F 9)],.int .i64 k] W fun e w'=>e = .returned (.agg #[.int .i64 R1,.int .i64 (H 0),.int .i64 (H 1),.int .i64 (H 2),.int .i64 (H 3),.int .i64 (H 4),.int .i64 (H 5),.int .i64 (H 6),.int .i64 (H 7),.int .i64 (H 8),.int .i64 (H 9)])∧Ext W w':=fun W hW=>by
         have h:=zw7 ps al race k rs.length p (.slice (some ⟨rb,ro,none⟩) rs.length rcap) ta tc W ((E.sheet Y HKY.out).ext hW) ((E.tks Y HKY.out).ext hW) hl10 hrace hr5 HLEN.out HLE.out (by omega)
         rw [← HF.out,← HCLS.out,← hH,← HR1.out] at h
         exact h
        have HNK:=Lib.hid hnk
        have hfld:∀ W,(Instr.field 172 (.agg #[.int .i64 R1,.int .i64 (H 0),.int .i64 (H 1),.int .i64 (H 2),.int .i64 (H 3),.int .i64 (H 4),.int .i64 (H 5),.int .i64 (H 6),.int .i64 (H 7),.int .i64 (H 8),.int .i64 (H 9)]) 1).run Tryz.prog W = .ok (.agg #[.int .i64 (H 0),.int .i64 (H 1),.int .i64 (H 2),.int .i64 (H 3),.int .i64 (H 4),.int .i64 (H 5),.int .i64 (H 6),.int .i64 (H 7),.int .i64 (H 8),.int .i64 (H 9)]) W:=fun _=>by kernel_rfl
        obtain ⟨c,hc⟩:∃ c,c=decide (cls k=cls i):=⟨_,rfl⟩
        have heq2:∀ W,(Op.equalIn 10000 170 (.agg #[.int .i64 (H 0),.int .i64 (H 1),.int .i64 (H 2),.int .i64 (H 3),.int .i64 (H 4),.int .i64 (H 5),.int .i64 (H 6),.int .i64 (H 7),.int .i64 (H 8),.int .i64 (H 9)]) (.agg #[.int .i64 (G 0),.int .i64 (G 1),.int .i64 (G 2),.int .i64 (G 3),.int .i64 (G 4),.int .i64 (G 5),.int .i64 (G 6),.int .i64 (G 7),.int .i64 (G 8),.int .i64 (G 9)])).run Tryz.prog W = .ok c W:=fun W=>by
         have h:=znl 170 Tryz.runUnderlying170 H G 9998 W
         have h2:=z0w (al:=cls k) (bl:=cls i) (n:=ps.length) (by rw [HCLS.out,zfr,zdy]) (by rw [HCLS.out,zfr,zdy]) E.len
         rw [← hH,← HG.out,← hc] at h2
         unfold zlw at h2
         rw [h2] at h
         exact h
        have HC:=Lib.hid hc
        obtain ⟨a0,a1,a2,a3,a4,a5,a6,a7,a8,a9,a10⟩:=(HPk.out.ext HEY.out).cells
        obtain ⟨g0,g1,g2,g3,g4,g5,g6,g7,g8,g9,g10⟩:=((HGX.out.ext HEk.out).ext HEY.out).cells
        have hqz:=(HPk.out.ext HEY.out).lt
        have hgz:=((HGX.out.ext HEk.out).ext HEY.out).lt
        clear hb hnk hc hH
        refine zcg (Y.heap.size) (Nat.le_refl _)
         [sqV (.int .i64 left),sqV (.int .i64 k),sqV (.int .i64 S),sqV (.int .i64 1),sqV (.bool true),sqV (.bool true),sqV (.pointer (some ⟨p,0,none⟩)),sqV (.agg #[.int .i64 race,.int .i64 (F 0),.int .i64 (F 1),.int .i64 (F 2),.int .i64 (F 3),.int .i64 (F 4),.int .i64 (F 5),.int .i64 (F 6),.int .i64 (F 7),.int .i64 (F 8),.int .i64 (F 9)]),sqV (.int .i64 k),sqV (.agg #[.int .i64 R1,.int .i64 (H 0),.int .i64 (H 1),.int .i64 (H 2),.int .i64 (H 3),.int .i64 (H 4),.int .i64 (H 5),.int .i64 (H 6),.int .i64 (H 7),.int .i64 (H 8),.int .i64 (H 9)]),sqV (.agg #[.int .i64 (H 0),.int .i64 (H 1),.int .i64 (H 2),.int .i64 (H 3),.int .i64 (H 4),.int .i64 (H 5),.int .i64 (H 6),.int .i64 (H 7),.int .i64 (H 8),.int .i64 (H 9)]),sqV (.pointer (some ⟨g,1,none⟩)),sqV (.agg #[.int .i64 (G 0),.int .i64 (G 1),.int .i64 (G 2),.int .i64 (G 3),.int .i64 (G 4),.int .i64 (G 5),.int .i64 (G 6),.int .i64 (G 7),.int .i64 (G 8),.int .i64 (G 9)]),sqV (.bool c),sqV (.bool c)]
         [true,true,true,true,true,true,true,true,true,true,true,true,true,true,true] [false,false,false,false,false,false,false,false,false,false,false,false,false,false,false] [true,true,true,true,true,true,true,true,true,true,true,true,true,true,true] [true,true,true,true,true,true,true,true,true,true,true,true,true,true,true] [true,true,true,true,true,true,true,true,true,true,true,true,true,true,true] [none,none,none,none,some true,some true]
         (by kernel_rfl) (by kernel_rfl) (by decide +kernel) ⟨fun _ _ _ h=>h,⟨fun _ _ _ h=>h,trivial⟩⟩ (by decide +kernel) (by decide +kernel) (by decide +kernel) rfl ⟨rfl,rfl,rfl⟩ ⟨?s0,?s1,?s2,?s3,?s4,?s5,?s6,?s7,?s8,?s9,?s10,?s11,?s12,?s13,?s14,trivial⟩ [some 77,some 78,some 79,some 80,some 81,some 82,some 83,some 84,some 85,some 86,some 87,some 88,some 89,some 90,some 91] rfl rfl ?send
        case s0 =>
         intro val ρ W hE hz hd hu hA hx
         have o0:ρ (.tmp 9) = .int .i64 left:=hA.old 9 (by decide)
         clear hd hu
         exact ze (W':=W) (by simp [execOp,o0,go_sem]) (Below.refl _ _) rfl
        case s1 =>
         intro val ρ W hE hz hd hu hA hx
         have o0:ρ (.tmp 13) = .int .i64 k:=hA.old 13 (by decide)
         clear hd hu
         exact ze (W':=W) (by simp [execOp,o0,go_sem]) (Below.refl _ _) rfl
        case s2 =>
         intro val ρ W hE hz hd hu hA hx
         have d0:ρ (.tmp 77) = .int .i64 left:=(hA.dep 0 (by decide) 77 rfl).trans (hd 0 (by decide))
         have d1:ρ (.tmp 78) = .int .i64 k:=(hA.dep 1 (by decide) 78 rfl).trans (hd 1 (by decide))
         clear hd hu
         exact ze (W':=W) (by simp [execOp,d0,d1,hS1,go_sem]) (Below.refl _ _) rfl
        case s3 =>
         intro val ρ W hE hz hd hu hA hx
         have d2:ρ (.tmp 79) = .int .i64 S:=(hA.dep 2 (by decide) 79 rfl).trans (hd 2 (by decide))
         clear hd hu
         exact ze (W':=W) (by simp [execOp,hA.const,d2,hbk,go_sem]) (Below.refl _ _) rfl
        case s4 =>
         intro val ρ W hE hz hd hu hA hx
         have d3:ρ (.tmp 80) = .int .i64 1:=(hA.dep 3 (by decide) 80 rfl).trans (hd 3 (by decide))
         clear hd hu
         exact ze (W':=W) (by simp [execOp,hA.const,d3,go_sem]) (Below.refl _ _) rfl
        case s5 =>
         intro val ρ W hE hz hd hu hA hx
         have d4:ρ (.tmp 81) = .bool true:=(hA.dep 4 (by decide) 81 rfl).trans (hd 4 (by decide))
         clear hd hu
         exact ze (W':=W) (by simp [execOp,d4,go_sem]) (Below.refl _ _) rfl
        case s6 =>
         intro val ρ W hE hz hd hu hA hx
         have o0:ρ (.tmp 0) = .pointer (some ⟨p,0,none⟩):=hA.old 0 (by decide)
         clear hd hu
         exact ze (W':=W) (by simp [execOp,o0,go_sem]) (Below.refl _ _) rfl
        case s7 =>
         intro val ρ W hE hz hd hu hA hx
         have o0:ρ (.tmp 6) = .pointer (some ⟨q,0,none⟩):=hA.old 6 (by decide)
         have f_a0:=cell_below hE (by simp only;omega) a0
         have f_a1:=cell_below hE (by simp only;omega) a1
         have f_a2:=cell_below hE (by simp only;omega) a2
         have f_a3:=cell_below hE (by simp only;omega) a3
         have f_a4:=cell_below hE (by simp only;omega) a4
         have f_a5:=cell_below hE (by simp only;omega) a5
         have f_a6:=cell_below hE (by simp only;omega) a6
         have f_a7:=cell_below hE (by simp only;omega) a7
         have f_a8:=cell_below hE (by simp only;omega) a8
         have f_a9:=cell_below hE (by simp only;omega) a9
         have f_a10:=cell_below hE (by simp only;omega) a10
         clear hd hu
         exact ze (W':=W) (by simp [execOp,o0,f_a0,f_a1,f_a2,f_a3,f_a4,f_a5,f_a6,f_a7,f_a8,f_a9,f_a10,go_sem]) (Below.refl _ _) rfl
        case s8 =>
         intro val ρ W hE hz hd hu hA hx
         have o0:ρ (.tmp 13) = .int .i64 k:=hA.old 13 (by decide)
         clear hd hu
         exact ze (W':=W) (by simp [execOp,o0,go_sem]) (Below.refl _ _) rfl
        case s9 =>
         intro val ρ W hE hz hd hu hA hx
         have d6:ρ (.tmp 83) = .pointer (some ⟨p,0,none⟩):=(hA.dep 6 (by decide) 83 rfl).trans (hd 6 (by decide))
         have d7:ρ (.tmp 84) = .agg #[.int .i64 race,.int .i64 (F 0),.int .i64 (F 1),.int .i64 (F 2),.int .i64 (F 3),.int .i64 (F 4),.int .i64 (F 5),.int .i64 (F 6),.int .i64 (F 7),.int .i64 (F 8),.int .i64 (F 9)]:=(hA.dep 7 (by decide) 84 rfl).trans (hd 7 (by decide))
         have d8:ρ (.tmp 85) = .int .i64 k:=(hA.dep 8 (by decide) 85 rfl).trans (hd 8 (by decide))
         clear hd hu
         refine zbo 94 _ _ rfl #[.pointer (some ⟨p,0,none⟩),.agg #[.int .i64 race,.int .i64 (F 0),.int .i64 (F 1),.int .i64 (F 2),.int .i64 (F 3),.int .i64 (F 4),.int .i64 (F 5),.int .i64 (F 6),.int .i64 (F 7),.int .i64 (F 8),.int .i64 (F 9)],.int .i64 k] (hA.func _) (by simp [d6,d7,d8]) (fun args W=>Tryz.call94 args W) ((HNK.out W hE).mono ?_)
         rintro e w' ⟨rfl,hb⟩
         exact ⟨_,rfl,hb,rfl⟩
        case s10 =>
         intro val ρ W hE hz hd hu hA hx
         have d9:ρ (.tmp 86) = .agg #[.int .i64 R1,.int .i64 (H 0),.int .i64 (H 1),.int .i64 (H 2),.int .i64 (H 3),.int .i64 (H 4),.int .i64 (H 5),.int .i64 (H 6),.int .i64 (H 7),.int .i64 (H 8),.int .i64 (H 9)]:=(hA.dep 9 (by decide) 86 rfl).trans (hd 9 (by decide))
         clear hd hu
         exact ze (W':=W) (by simp [execOp,d9,hfld,go_sem]) (Below.refl _ _) rfl
        case s11 =>
         intro val ρ W hE hz hd hu hA hx
         have o0:ρ (.tmp 11) = .pointer (some ⟨g,0,none⟩):=hA.old 11 (by decide)
         clear hd hu
         exact ze (W':=W) (by simp [execOp,o0,go_sem]) (Below.refl _ _) rfl
        case s12 =>
         intro val ρ W hE hz hd hu hA hx
         have d11:ρ (.tmp 88) = .pointer (some ⟨g,1,none⟩):=(hA.dep 11 (by decide) 88 rfl).trans (hd 11 (by decide))
         have f_g1:=cell_below hE (by simp only;omega) g1
         have f_g2:=cell_below hE (by simp only;omega) g2
         have f_g3:=cell_below hE (by simp only;omega) g3
         have f_g4:=cell_below hE (by simp only;omega) g4
         have f_g5:=cell_below hE (by simp only;omega) g5
         have f_g6:=cell_below hE (by simp only;omega) g6
         have f_g7:=cell_below hE (by simp only;omega) g7
         have f_g8:=cell_below hE (by simp only;omega) g8
         have f_g9:=cell_below hE (by simp only;omega) g9
         have f_g10:=cell_below hE (by simp only;omega) g10
         clear hd hu
         exact ze (W':=W) (by simp [execOp,d11,f_g1,f_g2,f_g3,f_g4,f_g5,f_g6,f_g7,f_g8,f_g9,f_g10,go_sem]) (Below.refl _ _) rfl
        case s13 =>
         intro val ρ W hE hz hd hu hA hx
         have d10:ρ (.tmp 87) = .agg #[.int .i64 (H 0),.int .i64 (H 1),.int .i64 (H 2),.int .i64 (H 3),.int .i64 (H 4),.int .i64 (H 5),.int .i64 (H 6),.int .i64 (H 7),.int .i64 (H 8),.int .i64 (H 9)]:=(hA.dep 10 (by decide) 87 rfl).trans (hd 10 (by decide))
         have d12:ρ (.tmp 89) = .agg #[.int .i64 (G 0),.int .i64 (G 1),.int .i64 (G 2),.int .i64 (G 3),.int .i64 (G 4),.int .i64 (G 5),.int .i64 (G 6),.int .i64 (G 7),.int .i64 (G 8),.int .i64 (G 9)]:=(hA.dep 12 (by decide) 89 rfl).trans (hd 12 (by decide))
         clear hd hu
         exact ze (W':=W) (by simp [execOp,d10,d12,heq2,go_sem]) (Below.refl _ _) rfl
        case s14 =>
         intro val ρ W hE hz hd hu hA hx
         have d5:ρ (.tmp 82) = .bool true:=(hA.dep 5 (by decide) 82 rfl).trans (hd 5 (by decide))
         have d13:ρ (.tmp 90) = .bool c:=(hA.dep 13 (by decide) 90 rfl).trans (hd 13 (by decide))
         clear hd hu
         exact ze (W':=W) (by simp [execOp,hA.const,d5,d13,go_sem]) (Below.refl _ _) rfl
        case send =>
         intro val WZ hE hzz hv
         obtain ⟨-,-,-,-,-,-,-,-,-,-,-,-,-,-,r14,-⟩:=hv
         have q14:val 14 = .bool c:=r14
         simp only [putD,q14]
         go_frame
         have HEZ:=Lib.hid ((HEk.out.trans' HEY.out).trans' hE)
         clear hE hzz r14 q14 hbk hS1 hfld heq2 a0 a1 a2 a3 a4 a5 a6 a7 a8 a9 a10 g0 g1 g2 g3 g4 g5 g6 g7 g8 g9 g10 hqz hgz HNK
         cases c
         ·gi_wp2_with fail
          go_roundw
          case rel=>exact ⟨k+1,own,by omega,by omega,by go_num,rfl,ho64,zw9 HOWN.out (fun h=>by have h9:=HC.out;rw [decide_eq_true h.2] at h9;cases h9),HEZ.out⟩
          case measure=>simp [intOf];omega
         ·obtain ⟨hK1,hK2,hK3⟩:=bshl (n:=k) (by omega)
          obtain ⟨K,hKK⟩:∃ K:Nat,K=2 ^ k:=⟨_,rfl⟩
          have hkk:k≤5:=by omega
          have hK4:K < 64:=by
           rw [hKK]
           exact (Nat.pow_lt_pow_right (by omega) (by omega):2 ^ k < 2 ^ 6)
          rw [← hKK] at hK1 hK2 hK3
          have hor:=z47 own K (by omega) (by omega)
          have HKK:=Lib.hid hKK
          clear hKK
          gi_wp2_with fail
          go_roundw
          case rel=>exact ⟨k+1,own ||| K,by omega,by omega,by go_num,rfl,z85 ho64 hK4,by rw [HKK.out];exact z5e hik HOWN.out HB2.out (of_decide_eq_true HC.out.symm),HEZ.out⟩
          case measure=>simp [intOf];omega
      ·have hki:¬ ((k:Int) < (N:Int)):=by omega
       have hke:k=N:=by omega
       gi_wp2_with fail
       refine wpIn_wide.2 ?_
       go_quiet (fail)
       obtain ⟨Y,hY⟩:∃ Y,Y=Wk.drewN nq:=⟨_,rfl⟩
       have hEY:Ext Wk Y:=by rw [hY];exact Ext.drN (Below.refl _ Wk) nq
       rw [← hY]
       have HOB:Hid (own=ownB left N i cls N):=Lib.hid (z8m (by have h:=HOWN.out;rw [hke] at h;exact h))
       have hEwY:Ext wr Y:=HK9.out.trans' hEY
       have hSY:SetsAt Y O1 sb so sc sets rs.length:=(HSQ.out.kept HK.out).kept (R:=R) (Kept.of_below hEwY)
       obtain ⟨Wm,hmk,hnum,hEm⟩:=zrp Y rs.length (by omega)
       have hSm:=hSY.kept (R:=R) (Kept.of_below hEm)
       obtain ⟨Wc,hcp,hkc,hnc⟩:=z0z Wm Y.heap.size rs.length (fun _=>0) sets sb so sc 3 hnum HSL.out hSm.2.2.2
       have hEc:Ext Y Wc:=zsl hEm hkc (Nat.le_refl _)
       obtain ⟨y,hy9⟩:∃ y,y=Y.heap.size:=⟨_,rfl⟩
       rw [← hy9] at hmk hcp hnc
       have hEkc:=HEk.out.trans' (hEY.trans' hEc)
       have hPc:=HPk.out.ext (hEY.trans' hEc)
       have hGc:=HGX.out.ext hEkc
       have hyW:wr.heap.size≤y:=by have:=hEwY.size;omega
       have hgy:g≠y:=by have:=(HGX.out.ext (HEk.out.trans' hEY)).lt;omega
       have hqy:q≠y:=by have:=(HPk.out.ext hEY).lt;omega
       obtain ⟨X2,hX2⟩:∃ X2,X2=Wc.setCell ⟨y,race,none⟩ (.int .i64 own):=⟨_,rfl⟩
       have hP2:PlAt 172 X2 q race F:=by rw [hX2];exact hPc.of_heap (Below.heap_setCell _ _ _ _ hqy)
       have hG2:PlAt 172 X2 g R1 G:=by rw [hX2];exact hGc.of_heap (Below.heap_setCell _ _ _ _ hgy)
       have hN2:NumB X2 y rs.length (fun j=>((sets.set race own).getD j 0:Int)):=by
        rw [hX2]
        exact (hnc.set race own).congr fun j _=>(zxc _ _ _ (by rw [HSL.out];exact hrace) j).symm
       have hEX2:Ext wr X2:=by rw [hX2];exact (hEwY.trans' hEc).setCell hyW _
       have hfr2:=hnc.free
       have hyl:=hnc.lt
       have hycell:=hnc.cell race hrace
       have b0:=hPc.c0
       have hqz:=hPc.lt
       have hless:=z0u left own (Nat.le_of_lt (Nat.lt_of_lt_of_le hl64 (by decide))) (Nat.le_of_lt (Nat.lt_of_lt_of_le ho64 (by decide)))
       obtain ⟨a0,a1,a2,a3,a4,a5,a6,a7,a8,a9,a10⟩:=hG2.cells
       have hgz:=hG2.lt
       rw [hX2] at a0 a1 a2 a3 a4 a5 a6 a7 a8 a9 a10 hgz
       have HX2:=Lib.hid hX2
       have HP2:=Lib.hid hP2
       have HN2:=Lib.hid hN2
       have HEX2:=Lib.hid hEX2
       have HYW:=Lib.hid hyW
       have HGY:=Lib.hid hgy
       have HQY:=Lib.hid hqy
       clear hY hEY hEwY hSY hnum hEm hSm hkc hEc hnc hy9 hEkc hPc hGc hyW hX2 hP2 hG2 hN2 hEX2 hke c0 hzp cr zr
       gi_wp2_with fail
       obtain ⟨O2,hO2⟩:∃ O2:Nat→Prop,O2=fun k=>O' k∨(wr.heap.size≤k∧k < X2.heap.size):=⟨_,rfl⟩
       have hj2:J O2 (pre ++ xs) X2:=hJ (pre ++ xs) O' O2 wr X2 HJ.out (Kept.of_below HEX2.out) (fun k h=>by rw [hO2];exact .inl h) (fun k h=>by rw [hO2] at h;exact h)
       have hS2:SetsAt X2 O2 y 0 rs.length (sets.set race own) rs.length:=⟨Nat.le_refl _,by omega,by rw [hO2];exact .inr ⟨HYW.out,HN2.out.lt⟩,fun r hr=>by
        rw [Nat.zero_add]
        exact HN2.out.cell r hr⟩
       have hcall:=HIH.out (race+1) (by have:=HF1.out;omega) (n - 1) (sets.set race own) (cls i) O2 (pre ++ xs) y 0 rs.length X2 (by rw [List.length_set];exact HSL.out) (by rw [HCLS.out,zfr,zdy]) (fun r hr=>by
         rw [zeq _ _ _ _ (by rw [HSL.out];exact hrace)]
         split
         ·exact ho64
         ·exact HSB.out r hr) (fun x hx=>HGOOD.out x (by
         rw [← HTL.out,← HOB.out]
         exact List.mem_append.2 (.inr (List.mem_append.2 (.inl hx))))) (HKR.out.trans (Kept.of_below HEX2.out)) hj2 hS2
       have e1:((race+1:Nat):Int)=R1:=by rw [HR1.out];rfl
       rw [e1,← HG.out] at hcall
       unfold zbp at hcall
       have HCALL:=Lib.hid hcall
       have HO2:=Lib.hid hO2
       rw [← HX2.out]
       clear hj2 hS2 hcall e1 hO2
       refine ⟨trivial,fun h=>(by simp [Fence.wide] at h),HCALL.out.mono ?_⟩
       rintro e W5 (⟨rfl,O3,xs3,hO3,hx3,hj5,hk5⟩ | ⟨rfl,O3,pre3,hx⟩)
       ·have HTL5:Hid ((xs ++ xs3).map (·.2) ++ zbx (cutB rs (zal (zj ps)) f) cls sets race N (N - (i+1)) (zc8 left own)=total):=Lib.hid (by
         have h:=HTL.out
         rw [← HOB.out] at h
         rw [List.map_append,hx3,List.append_assoc]
         exact h)
        have HOO3:Hid (∀ k,O1 k→O3 k):=Lib.hid fun k h=>hO3 k (by rw [HO2.out];exact .inl (HOO.out k h))
        have HJ5:Hid (J O3 (pre ++ (xs ++ xs3)) W5):=Lib.hid (by rw [← List.append_assoc];exact hj5)
        have HK5:Hid (Kept (fun k=>R k∨O1 k) WW W5):=Lib.hid ((HK.out.trans (Kept.of_below HEX2.out)).trans (hk5.mono fun k _ h=>by
         rcases h with h | h
         ·exact .inl h
         ·exact .inr (by rw [HO2.out];exact .inl (HOO.out k h))))
        clear hO3 hx3 hj5 hk5 hcp hmk hgy hqy hfr2 hyl hycell b0 hqz hless a0 a1 a2 a3 a4 a5 a6 a7 a8 a9 a10 hgz
        gi_wp2_with fail
        go_roundw
        case rel =>
         repeat apply Exists.intro
         refine ⟨?_,rfl⟩
         exact ⟨i+1,zc8 left own,O3,xs ++ xs3,by omega,by go_num,rfl,z7l _ _ hl64,HOO3.out,HJ5.out,HK5.out,HTL5.out⟩
        case measure=>simp [intOf];omega
       ·have HX5:=Lib.hid hx
        clear hx hcp hmk hgy hqy hfr2 hyl hycell b0 hqz hless a0 a1 a2 a3 a4 a5 a6 a7 a8 a9 a10 hgz
        gi_wp2_with fail
        go_ret
        exact .inr ⟨rfl,O3,pre3,HX5.out⟩
   ·have hii:¬ ((i:Int) < (N:Int)):=by omega
    have hie:i=N:=by omega
    have HTL:Hid (xs.map (·.2)=total):=Lib.hid (by
     rw [hie,Nat.sub_self,z3h,List.append_nil] at htl
     exact htl)
    clear htl hOO hj hK hie
    gi_wp2_with fail
    go_ret
    exact .inl ⟨rfl,O',xs,fun k h=>HOO.out k (by rw [HO1.out];exact .inl h),HTL.out,HJ.out,(Kept.of_below HEW.out).trans (HK.out.mono fun k _ h=>by
     rcases h with h | h
     ·exact .inl h
     ·exact .inr (by rw [HO1.out];exact .inl h))⟩
end Go.Proofs.YtkfifbopmpcanaaGreat
