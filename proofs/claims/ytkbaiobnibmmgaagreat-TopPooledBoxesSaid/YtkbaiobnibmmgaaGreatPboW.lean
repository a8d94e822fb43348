/-
  The statement TopPooledBoxes: the walk. A card of one race, on whose runners the bets of a book are tickets: what the pool of all of them pays for a unit, and carries over, is the dividend of the runner, and what is kept, without duty; the deepest outcome is the favourite. For every book and winner. No condition.
-/
import Derived.Test.YtkbaiobnibmmgaaGreatLy
import Derived.Test.YtkbaiobnibmmgaaGreatRb
import Derived.Test.YtkbaiobnibmmgaaGreatBc
import Derived.OpenShut
namespace Go.Proofs.YtkbaiobnibmmgaaGreat
open Go.RowKit Go.Shelf
attribute [local go_sem] Oper.semAt_some
theorem elTk:El 31 33 2:=El.mk' (bytes:=32) (z:=.agg #[.slice none 0 0,.int .i64 0]) (by kernel_rfl) (by kernel_rfl) rfl (by omega) (by omega)
def LitN (B:Nat) (x:Int) (v:Value) (W:World):Prop:=∃ b,v = .slice (some ⟨b,0,none⟩) 1 1∧B≤b∧W.cell? ⟨b,0,none⟩=some (.int .i64 x)
theorem LitN.ext {B:Nat} {x:Int} {v:Value} {W W':World} (h:LitN B x v W) (e:Ext W W'):LitN B x v W':=by
 obtain ⟨b,h1,h2,h3⟩:=h
 exact ⟨b,h1,h2,zb e h3⟩
structure TkG (W:World) (B:Nat) (v:Value) (ps:List (Value × Tk)):Prop where
 own:Owns W B 33 2 v (ps.map zgr)
 sets:∀ x∈ps,∃ q N:Nat,x.1 = .slice (some ⟨q,0,none⟩) 1 1∧x.2.s=[N]∧W.cell? ⟨q,0,none⟩=some (.int .i64 N)∧some q≠v.ownBlock
theorem TkG.ext {W W':World} {B:Nat} {v:Value} {ps:List (Value × Tk)} (h:TkG W B v ps) (e:Ext W W'):TkG W' B v ps :=
 ⟨h.own.ext e,fun x hx=>by obtain ⟨q,N,h1,h2,h3,h4⟩:=h.sets x hx;exact ⟨q,N,h1,h2,zb e h3,h4⟩⟩
theorem TkG.isTks {W:World} {B:Nat} {v:Value} {ps:List (Value × Tk)} (h:TkG W B v ps):IsTks W v ps :=
 ⟨h.own.isRows,fun x hx=>by
  obtain ⟨q,N,h1,h2,h3,-⟩:=h.sets x hx
  rw [h1,h2]
  exact zaq (by omega) (by omega) h3⟩
def AddK (X:World) (B:Nat) (o:Value) (rows:List (List Value)) (N:Nat) (u:Int) (v:Value) (W:World):Prop :=
 ∃ q,X.heap.size≤q∧W.cell? ⟨q,0,none⟩=some (.int .i64 N)∧Owns W B 33 2 v (rows ++ [[.slice (some ⟨q,0,none⟩) 1 1,.int .i64 u]])∧Kept (fun k=>some k≠o.ownBlock) X W ∧
  (∀ g,v.ownBlock=some g→o.ownBlock=some g∨X.heap.size≤g)∧some q≠v.ownBlock
theorem AddK.ext {X:World} {B:Nat} {o:Value} {rows:List (List Value)} {N:Nat} {u:Int} {v:Value} {W W':World} (h:AddK X B o rows N u v W) (e:Ext W W'):AddK X B o rows N u v W':=by
 obtain ⟨q,h2,h3,h4,h5,h6,h7⟩:=h
 exact ⟨q,h2,zb e h3,h4.ext e,h5.trans (Kept.of_below e),h6,h7⟩
def TicN (B N:Nat) (u:Int) (v:Value) (W:World):Prop:=∃ z,v = .agg #[.slice (some ⟨z,0,none⟩) 1 1,.int .i64 u]∧B≤z∧W.cell? ⟨z,0,none⟩=some (.int .i64 N)
theorem TicN.ext {B N:Nat} {u:Int} {v:Value} {W W':World} (h:TicN B N u v W) (e:Ext W W'):TicN B N u v W':=by
 obtain ⟨b,h1,h2,h3⟩:=h
 exact ⟨b,h1,h2,zb e h3⟩
def OneN (B N:Nat) (u:Int) (v:Value) (W:World):Prop:=∃ y z,v = .slice (some ⟨y,0,none⟩) 1 1∧RowsAt W 2 y 0 [[.slice (some ⟨z,0,none⟩) 1 1,.int .i64 u]]∧B≤z∧W.cell? ⟨z,0,none⟩=some (.int .i64 N)
theorem OneN.ext {B N:Nat} {u:Int} {v:Value} {W W':World} (h:OneN B N u v W) (e:Ext W W'):OneN B N u v W':=by
 obtain ⟨y,z,h1,h2,h3,h4⟩:=h
 exact ⟨y,z,h1,h2.ext e,h3,zb e h4⟩
theorem TkG.add {X W:World} {B q N:Nat} {o v:Value} {ps:List (Value × Tk)} {u:Int} (h:TkG X B o ps) (hc:W.cell? ⟨q,0,none⟩=some (.int .i64 N)) (ho:Owns W B 33 2 v (ps.map zgr ++ [[.slice (some ⟨q,0,none⟩) 1 1,.int .i64 u]])) (hk:Kept (fun k=>some k≠o.ownBlock) X W)
  (hg:∀ g,v.ownBlock=some g→o.ownBlock=some g∨X.heap.size≤g) (hq:some q≠v.ownBlock):TkG W B v (ps ++ [(.slice (some ⟨q,0,none⟩) 1 1,⟨[N],u⟩)]):=by
 refine ⟨by rw [List.map_append];exact ho,fun x hx=>?_⟩
 rcases List.mem_append.1 hx with hx | hx
 ·obtain ⟨p,M,h1,h2,h3,h4⟩:=h.sets x hx
  refine ⟨p,M,h1,h2,hk.cell h3 h4,fun e=>?_⟩
  rcases hg p e.symm with h5 | h5
  ·exact h4 h5.symm
  ·have:=World.block_lt_of_cell? _ _ h3
   simp only at this
   omega
 ·simp only [List.mem_singleton] at hx
  subst hx
  exact ⟨q,N,rfl,rfl,hc,hq⟩
theorem z6g {W:World} {g:Nat} {T:TypeId} {a0 a1 a2 a3 a4 a5 a6 a7:Value} (h:W.heap[g]? = some (.cells #[a0,a1,a2,a3,a4,a5,a6,a7] T (0,0))) (x0 x1 x2 x3 x4 x5 x6 x7 y:Value) :
  (((((((((W.setCell ⟨g,0,none⟩ x0).setCell ⟨g,1,none⟩ x1).setCell ⟨g,2,none⟩ x2).setCell ⟨g,3,none⟩ x3).setCell ⟨g,4,none⟩ x4).setCell ⟨g,5,none⟩ x5).setCell ⟨g,6,none⟩ x6).setCell ⟨g,7,none⟩ x7).setCell ⟨g,6,none⟩ y).heap[g]? = some (.cells #[x0,x1,x2,x3,x4,x5,y,x7] T (0,0)):=by
 have h0:(W.setCell ⟨g,0,none⟩ x0).heap[g]? = some (.cells #[x0,a1,a2,a3,a4,a5,a6,a7] T (0,0)):=zj h 0 x0
 generalize W.setCell ⟨g,0,none⟩ x0=W0 at h0 ⊢
 have h1:(W0.setCell ⟨g,1,none⟩ x1).heap[g]? = some (.cells #[x0,x1,a2,a3,a4,a5,a6,a7] T (0,0)):=zj h0 1 x1
 generalize W0.setCell ⟨g,1,none⟩ x1=W1 at h1 ⊢
 have h2:(W1.setCell ⟨g,2,none⟩ x2).heap[g]? = some (.cells #[x0,x1,x2,a3,a4,a5,a6,a7] T (0,0)):=zj h1 2 x2
 generalize W1.setCell ⟨g,2,none⟩ x2=W2 at h2 ⊢
 have h3:(W2.setCell ⟨g,3,none⟩ x3).heap[g]? = some (.cells #[x0,x1,x2,x3,a4,a5,a6,a7] T (0,0)):=zj h2 3 x3
 generalize W2.setCell ⟨g,3,none⟩ x3=W3 at h3 ⊢
 have h4:(W3.setCell ⟨g,4,none⟩ x4).heap[g]? = some (.cells #[x0,x1,x2,x3,x4,a5,a6,a7] T (0,0)):=zj h3 4 x4
 generalize W3.setCell ⟨g,4,none⟩ x4=W4 at h4 ⊢
 have h5:(W4.setCell ⟨g,5,none⟩ x5).heap[g]? = some (.cells #[x0,x1,x2,x3,x4,x5,a6,a7] T (0,0)):=zj h4 5 x5
 generalize W4.setCell ⟨g,5,none⟩ x5=W5 at h5 ⊢
 have h6:(W5.setCell ⟨g,6,none⟩ x6).heap[g]? = some (.cells #[x0,x1,x2,x3,x4,x5,x6,a7] T (0,0)):=zj h5 6 x6
 generalize W5.setCell ⟨g,6,none⟩ x6=W6 at h6 ⊢
 have h7:(W6.setCell ⟨g,7,none⟩ x7).heap[g]? = some (.cells #[x0,x1,x2,x3,x4,x5,x6,x7] T (0,0)):=zj h6 7 x7
 generalize W6.setCell ⟨g,7,none⟩ x7=W7 at h7 ⊢
 exact zj h7 6 y
theorem z6h {W:World} {q:Nat} {A:Acc} (h:AccAt W q A) (a b c d e f:Int):AccAt ((((((W.setCell ⟨q,0,none⟩ (.int .i64 a)).setCell ⟨q,1,none⟩ (.int .i64 b)).setCell ⟨q,2,none⟩ (.int .i64 c)).setCell ⟨q,3,none⟩ (.int .i64 d)).setCell ⟨q,4,none⟩ (.int .i64 e)).setCell ⟨q,5,none⟩ (.int .i64 f)) q ⟨a,b,c,d,e,f⟩ :=
 zj (zj (zj (zj (zj (zj h 0 (.int .i64 a)) 1 (.int .i64 b)) 2 (.int .i64 c)) 3 (.int .i64 d)) 4 (.int .i64 e)) 5 (.int .i64 f)
set_option maxRecDepth 100000 in
set_option maxHeartbeats 16000000 in
theorem zof (b:Bk) (ba sa:Option Addr) (bcap scap:Nat) (ru:Int) (w:World) (hv:IsBook w b ba bcap sa scap) (hru:(Lit.int .u8 ru).wf=true) :
  Calls Tryz.prog 3 #[.agg #[.int .i64 b.kd,.int .i64 b.n,.slice ba b.bets.length bcap,.slice sa b.scr.length scap,.bool b.fav,.int .i64 b.car,.int .i64 b.duty,.int .i64 b.step],.int .u8 ru] w fun e w'=>e = .returned (.bool true)∧Ext w w':=by
 have HV:=Lib.hid hv
 have HRU:Hid (0≤ru∧ru≤255):=Lib.hid (bounds_u8 hru)
 clear hv hru
 go_enter Tryz.func3,Tryz.ntmps3
 go_upto_region 1 with (fail)
 obtain ⟨W0,hW0⟩:∃ W0,W0=w.alloc (.cells #[.int .i64 b.kd,.int .i64 b.n,.slice ba b.bets.length bcap,.slice sa b.scr.length scap,.bool b.fav,.int .i64 b.car,.int .i64 b.duty,.int .i64 b.step] 25):=⟨_,rfl⟩
 have hE:Ext w W0:=by rw [hW0];exact xx
 have k0:W0.cell? ⟨w.heap.size,0,none⟩=some (.int .i64 b.kd):=by rw [hW0];simp [go_sem]
 have k1:W0.cell? ⟨w.heap.size,1,none⟩=some (.int .i64 b.n):=by rw [hW0];simp [go_sem]
 have k2:W0.cell? ⟨w.heap.size,2,none⟩=some (.slice ba b.bets.length bcap):=by rw [hW0];simp [go_sem]
 have k3:W0.cell? ⟨w.heap.size,3,none⟩=some (.slice sa b.scr.length scap):=by rw [hW0];simp [go_sem]
 have k4:W0.cell? ⟨w.heap.size,4,none⟩=some (.bool b.fav):=by rw [hW0];simp [go_sem]
 have k5:W0.cell? ⟨w.heap.size,5,none⟩=some (.int .i64 b.car):=by rw [hW0];simp [go_sem]
 have k6:W0.cell? ⟨w.heap.size,6,none⟩=some (.int .i64 b.duty):=by rw [hW0];simp [go_sem]
 have k7:W0.cell? ⟨w.heap.size,7,none⟩=some (.int .i64 b.step):=by rw [hW0];simp [go_sem]
 have hr0:W0.heap[w.heap.size]? = some (.cells #[.int .i64 b.kd,.int .i64 b.n,.slice ba b.bets.length bcap,.slice sa b.scr.length scap,.bool b.fav,.int .i64 b.car,.int .i64 b.duty,.int .i64 b.step] 25 (0,0)):=by rw [hW0];exact World.alloc_heap_new w _
 have hz:w.heap.size < W0.heap.size:=World.block_lt_of_cell? _ _ k0
 have HW:=Lib.hid hE
 have HR0:=Lib.hid hr0
 rw [← hW0]
 clear hW0 hE hr0
 go_wp2_with fail
 refine (zyo b ba sa bcap scap W0 (HV.out.ext HW.out)).mono ?_
 rintro e W1 ⟨kd,sa2,ns,cs,car,du,st,ok,rfl,hE,hok⟩
 have HOK:=Lib.hid hok
 have hr1:=(hE.block _ hz).trans HR0.out
 have hrf:∀ o,W1.frozen? ⟨w.heap.size,o,none⟩=false:=fun o=>by simp [World.frozen?,hr1]
 have HR1:=Lib.hid hr1
 have HW1:=Lib.hid (HW.out.trans' hE)
 replace k0:=zb hE k0
 replace k1:=zb hE k1
 replace k2:=zb hE k2
 replace k3:=zb hE k3
 replace k4:=zb hE k4
 replace k5:=zb hE k5
 replace k6:=zb hE k6
 replace k7:=zb hE k7
 replace hz:=World.block_lt_of_cell? _ _ k0
 simp only at hz
 clear hE hr1 hok
 go_upto_region 3 with (fail)
 obtain ⟨W2,hW2⟩:∃ W2,W2=(((((((((W1.setCell ⟨w.heap.size,0,none⟩ (.int .i64 kd)).setCell ⟨w.heap.size,1,none⟩ (.int .i64 b.n)).setCell ⟨w.heap.size,2,none⟩ (.slice ba b.bets.length bcap)).setCell ⟨w.heap.size,3,none⟩ (.slice sa2 ns cs)).setCell ⟨w.heap.size,4,none⟩ (.bool b.fav)).setCell ⟨w.heap.size,5,none⟩ (.int .i64 car)).setCell ⟨w.heap.size,6,none⟩ (.int .i64 du)).setCell ⟨w.heap.size,7,none⟩ (.int .i64 st)).setCell ⟨w.heap.size,6,none⟩ (.int .i64 0)):=⟨_,rfl⟩
 rw [← hW2]
 have hr2:W2.heap[w.heap.size]? = some (.cells #[.int .i64 kd,.int .i64 b.n,.slice ba b.bets.length bcap,.slice sa2 ns cs,.bool b.fav,.int .i64 car,.int .i64 0,.int .i64 st] 25 (0,0)):=by
  rw [hW2]
  exact z6g HR1.out _ _ _ _ _ _ _ _ _
 have HW2:Hid (Ext w W2):=Lib.hid (by
  rw [hW2]
  exact (((((((((HW1.out.setCell (Nat.le_refl _) _).setCell (Nat.le_refl _) _).setCell (Nat.le_refl _) _).setCell (Nat.le_refl _) _).setCell (Nat.le_refl _) _).setCell (Nat.le_refl _) _).setCell (Nat.le_refl _) _).setCell (Nat.le_refl _) _).setCell (Nat.le_refl _) _))
 clear hW2 hrf k0 k1 k2 k3 k4 k5 k6 k7 hz
 have k0:W2.cell? ⟨w.heap.size,0,none⟩=some (.int .i64 kd):=by rw [cell_of_row _ _ _ _ _ _ hr2];rfl
 have k1:W2.cell? ⟨w.heap.size,1,none⟩=some (.int .i64 b.n):=by rw [cell_of_row _ _ _ _ _ _ hr2];rfl
 have k2:W2.cell? ⟨w.heap.size,2,none⟩=some (.slice ba b.bets.length bcap):=by rw [cell_of_row _ _ _ _ _ _ hr2];rfl
 have k3:W2.cell? ⟨w.heap.size,3,none⟩=some (.slice sa2 ns cs):=by rw [cell_of_row _ _ _ _ _ _ hr2];rfl
 have k4:W2.cell? ⟨w.heap.size,4,none⟩=some (.bool b.fav):=by rw [cell_of_row _ _ _ _ _ _ hr2];rfl
 have k5:W2.cell? ⟨w.heap.size,5,none⟩=some (.int .i64 car):=by rw [cell_of_row _ _ _ _ _ _ hr2];rfl
 have k6:W2.cell? ⟨w.heap.size,6,none⟩=some (.int .i64 0):=by rw [cell_of_row _ _ _ _ _ _ hr2];rfl
 have k7:W2.cell? ⟨w.heap.size,7,none⟩=some (.int .i64 st):=by rw [cell_of_row _ _ _ _ _ _ hr2];rfl
 have hz:w.heap.size < W2.heap.size:=World.block_lt_of_cell? _ _ k0
 clear hr2
 cases ok
 ·clear HOK
  go_wp2_with fail
  refine (zfi _).mono ?_
  rintro e W9 ⟨rfl,hE9⟩
  go_wp2_with fail
  go_ret
  exact ⟨rfl,HW2.out.trans' hE9⟩
 obtain ⟨hbv,rfl,rfl,rfl,rfl,rfl,rfl⟩:=HOK.out rfl
 have hb2:2≤b.n∧b.n≤8:=hbv.n
 obtain ⟨n,HN⟩:∃ n:Nat,Hid (b.n=n):=⟨b.n.toNat,Lib.hid (by omega)⟩
 by_cases h6:(6:Int) < b.n
 ·clear hbv
  go_wp2_with fail
  refine (zfi _).mono ?_
  rintro e W9 ⟨rfl,hE9⟩
  go_wp2_with fail
  go_ret
  exact ⟨rfl,HW2.out.trans' hE9⟩
 by_cases h10:(10:Int) < (b.bets.length:Int)
 ·clear hbv
  go_wp2_with fail
  refine (zfi _).mono ?_
  rintro e W9 ⟨rfl,hE9⟩
  go_wp2_with fail
  go_ret
  exact ⟨rfl,HW2.out.trans' hE9⟩
 obtain ⟨P,hP⟩:∃ P:Bk,P=⟨0,b.n,b.bets,[],b.fav,0,0,1⟩:=⟨_,rfl⟩
 have HPL:Hid (PlainB P n):=Lib.hid (by rw [hP];exact ⟨⟨by simp,hbv.n,by simp,by simp,by simp,hbv.many,hbv.odd,hbv.left,hbv.scr,hbv.inc⟩,rfl,rfl,rfl,rfl,rfl,HN.out⟩)
 have HIB:Hid (∀ W,Ext w W→IsBook W P ba bcap none 0):=Lib.hid fun W h=>by rw [hP];exact ⟨IsBets.ext h HV.out.bets,(Owns.nil W 0 3 1).oneInts (l:=[])⟩
 have HP:=Lib.hid hP
 have H10:Hid (b.bets.length≤10):=Lib.hid (by omega)
 have H26:Hid (2≤b.n∧b.n≤6):=Lib.hid (by omega)
 clear hbv hP HOK HR1 HR0 hb2
 go_upto_region 6 with (fail)
 obtain ⟨W3,hW3⟩:∃ W3,W3=(W2.alloc (.cells #[.int .i64 b.n] 3)).alloc (.cells #[.slice (some ⟨W2.heap.size,0,none⟩) 1 1] 30):=⟨_,rfl⟩
 have hE:Ext W2 W3:=by rw [hW3];exact xx
 have kn:W3.cell? ⟨W2.heap.size,0,none⟩=some (.int .i64 b.n):=by rw [hW3];simp [go_sem]
 have kc:W3.cell? ⟨W2.heap.size+1,0,none⟩=some (.slice (some ⟨W2.heap.size,0,none⟩) 1 1):=by rw [hW3];simp [go_sem]
 replace k0:=zb hE k0
 replace k1:=zb hE k1
 replace k2:=zb hE k2
 replace k3:=zb hE k3
 replace k4:=zb hE k4
 replace k5:=zb hE k5
 replace k6:=zb hE k6
 replace k7:=zb hE k7
 replace hz:=World.block_lt_of_cell? _ _ k0
 simp only at hz
 have hzn:W2.heap.size < W3.heap.size:=World.block_lt_of_cell? _ _ kn
 have hzc:W2.heap.size+1 < W3.heap.size:=World.block_lt_of_cell? _ _ kc
 have HW3:=Lib.hid (HW2.out.trans' hE)
 rw [← hW3]
 obtain ⟨cn,hcn⟩:∃ cn,cn=W2.heap.size:=⟨_,rfl⟩
 rw [← hcn] at kn kc hzn hzc ⊢
 clear hW3 hE hcn h6 h10
 go_wp2_with fail
 go_loopw [7,8] (fun ov iv W=>∃ (k:Nat) (ps:List (Value × Tk)),k≤b.bets.length∧iv = .int .i64 k∧TkG W W3.heap.size ov ps∧zn ps=(tkP P).take k∧Ext W3 W) (fun _ iv _=>b.bets.length - (intOf iv).toNat)
 case atStart=>exact ⟨0,[],by omega,rfl,⟨Owns.nil _ _ _ _,by simp⟩,rfl,Below.refl _ _⟩
 case round =>
  obtain ⟨k,ps,hk,rfl,ho,hps,hE⟩:=hrel
  obtain ⟨X,rfl⟩:∃ X,X=wr:=⟨_,rfl⟩
  obtain ⟨oa,on,oc,rfl⟩:=ho.own.isSlice
  have HO:=Lib.hid ho
  have HPS:=Lib.hid hps
  have HE:=Lib.hid hE
  have HWX:=Lib.hid (HW3.out.trans' hE)
  have hXz:=hE.size
  have hz3:=hz
  have hE0:=hE
  replace k0:=zb hE k0
  replace k1:=zb hE k1
  replace k2:=zb hE k2
  replace k3:=zb hE k3
  replace k4:=zb hE k4
  replace k5:=zb hE k5
  replace k6:=zb hE k6
  replace k7:=zb hE k7
  replace hz:=World.block_lt_of_cell? _ _ k0
  simp only at hz
  replace kn:=zb hE kn
  replace kc:=zb hE kc
  replace hzn:=World.block_lt_of_cell? _ _ kn
  replace hzc:=World.block_lt_of_cell? _ _ kc
  simp only at hzn hzc
  clear ho hps hE hE0
  by_cases hlt:k < b.bets.length
  ·have hki:(k:Int) < (b.bets.length:Int):=by omega
   obtain ⟨_,_,e,-,-,hc⟩:=(IsBets.ext HW3.out HV.out.bets).spec
   cases e
   rcases hc with h0 | ⟨bb,bo,rfl,hc⟩
   ·rw [h0] at hlt;simp at hlt
   obtain ⟨cf,-,cu⟩:=hc k hlt
   obtain ⟨f,hf,hfn⟩:=HPL.out.fst (x:=b.bets[k]) (by rw [HP.out];exact List.getElem_mem hlt)
   rw [hf] at cf
   obtain ⟨u,hu⟩:∃ u,u=b.bets[k].u:=⟨_,rfl⟩
   rw [← hu] at cu
   have hzb:=World.block_lt_of_cell? _ _ cf
   simp only at hzb
   replace cf:=zb HE.out cf
   replace cu:=zb HE.out cu
   have hf6:f≤6:=by have:=HN.out;have:=H26.out;omega
   obtain ⟨q1,-,-⟩:=bshl (n:=f) hf6
   obtain ⟨N,hN⟩:∃ N:Nat,N=2 ^ f:=⟨_,rfl⟩
   rw [← hN] at q1
   rw [show (2:Int) ^ f=2 ^ min f 64 by rw [Nat.min_eq_left (by omega)]] at q1
   have hk10:k≤9:=by have:=H10.out;omega
   have HSC:Hid (∀ v,zn (ps ++ [(v,⟨[N],u⟩)])=(tkP P).take (k+1)):=Lib.hid fun v=>by
    have h1:(tkP P)[k]? = some ⟨[N],u⟩:=by
     unfold tkP
     rw [HP.out,List.getElem?_map,List.getElem?_eq_getElem hlt]
     simp only [Option.map_some,hf,hN,hu,Int.toNat_natCast]
    have h2:=HPS.out
    unfold zn at h2 ⊢
    rw [List.map_append,List.take_add_one,h1,h2]
    rfl
   have HLL:Hid ((ps.map zgr).length≤10):=Lib.hid (by
    have h2:=congrArg List.length HPS.out
    unfold zn at h2
    rw [List.length_map,List.length_take] at h2
    rw [List.length_map]
    have:=H10.out
    omega)
   have HKL:=Lib.hid hlt
   clear hc hf hfn hu hN hf6 hlt
   go_upto_region 10 with (fail)
   refine zas rfl rfl (by kernel_rfl) (W3.heap.size) (hXz)
    [sqV (.slice oa on oc),sqV (.pointer (some ⟨w.heap.size,2,none⟩)),sqV (.slice (some ⟨bb,bo,none⟩) b.bets.length bcap),sqV (.int .i64 k),sqV (.pointer (some ⟨bb,bo+k * 3,none⟩)),sqV (.pointer (some ⟨bb,bo+k * 3+2,none⟩)),sqV (.int .i64 u),sqV (.pointer (some ⟨w.heap.size,2,none⟩)),sqV (.slice (some ⟨bb,bo,none⟩) b.bets.length bcap),sqV (.int .i64 k),sqV (.pointer (some ⟨bb,bo+k * 3,none⟩)),sqV (.pointer (some ⟨bb,bo+k * 3,none⟩)),sqV (.int .i64 f),sqV (.int .i64 N),sqW (fun v W=>LitN X.heap.size N v W) (fun _ _ _ h e=>h.ext e),sqW (fun v W=>TicN X.heap.size N u v W) (fun _ _ _ h e=>h.ext e),sqW (fun v W=>OneN X.heap.size N u v W) (fun _ _ _ h e=>h.ext e),sqW (fun v W=>AddK X W3.heap.size (.slice oa on oc) (ps.map zgr) N u v W) (fun _ _ _ h e=>h.ext e)]
    [true,true,true,true,true,true,true,true,true,true,true,true,true,true,false,false,false,false] [false,false,false,false,false,false,false,false,false,false,false,false,false,false,false,false,false,true] [true,true,true,true,true,true,true,true,true,true,true,true,true,true,false,false,false,true] [true,true,true,true,true,true,true,true,true,true,true,true,true,true,true,true,true,true]
    (by kernel_rfl) (by kernel_rfl) (by decide +kernel) (by decide +kernel) (by decide +kernel) rfl ⟨rfl,rfl⟩ ⟨?s0,?s1,?s2,?s3,?s4,?s5,?s6,?s7,?s8,?s9,?s10,?s11,?s12,?s13,?s14,?s15,?s16,?s17,trivial⟩ [some 52,some 53,some 54,some 55,some 56,some 57,some 58,some 59,some 60,some 61,some 62,some 63,some 64,some 65,some 66,some 67,some 68,some 69] rfl rfl ?send
   case s0 =>
    intro val ρ W hE hz hd hA hx
    have o0:ρ (.tmp 7) = .slice oa on oc:=hA.old 7 (by decide)
    clear hd
    exact zd (W':=W) (by simp [execOp,o0,go_sem]) (Below.refl _ _) rfl
   case s1 =>
    intro val ρ W hE hz hd hA hx
    have o0:ρ (.tmp 2) = .pointer (some ⟨w.heap.size,0,none⟩):=hA.old 2 (by decide)
    clear hd
    exact zd (W':=W) (by simp [execOp,o0,go_sem]) (Below.refl _ _) rfl
   case s2 =>
    intro val ρ W hE hz hd hA hx
    have d1:ρ (.tmp 53) = .pointer (some ⟨w.heap.size,2,none⟩):=(hA.dep 1 (by decide) 53 rfl).trans (hd 1 (by decide))
    have f_k2:=cell_below hE (by simp only;omega) k2
    clear hd
    exact zd (W':=W) (by simp [execOp,d1,f_k2,go_sem]) (Below.refl _ _) rfl
   case s3 =>
    intro val ρ W hE hz hd hA hx
    have o0:ρ (.tmp 8) = .int .i64 k:=hA.old 8 (by decide)
    clear hd
    exact zd (W':=W) (by simp [execOp,o0,go_sem]) (Below.refl _ _) rfl
   case s4 =>
    intro val ρ W hE hz hd hA hx
    have d2:ρ (.tmp 54) = .slice (some ⟨bb,bo,none⟩) b.bets.length bcap:=(hA.dep 2 (by decide) 54 rfl).trans (hd 2 (by decide))
    have d3:ρ (.tmp 55) = .int .i64 k:=(hA.dep 3 (by decide) 55 rfl).trans (hd 3 (by decide))
    clear hd
    exact zd (W':=W) (by simp [execOp,d2,d3,hki,go_sem]) (Below.refl _ _) rfl
   case s5 =>
    intro val ρ W hE hz hd hA hx
    have d4:ρ (.tmp 56) = .pointer (some ⟨bb,bo+k * 3,none⟩):=(hA.dep 4 (by decide) 56 rfl).trans (hd 4 (by decide))
    clear hd
    exact zd (W':=W) (by simp [execOp,d4,go_sem]) (Below.refl _ _) rfl
   case s6 =>
    intro val ρ W hE hz hd hA hx
    have d5:ρ (.tmp 57) = .pointer (some ⟨bb,bo+k * 3+2,none⟩):=(hA.dep 5 (by decide) 57 rfl).trans (hd 5 (by decide))
    have f_cu:=cell_below hE (by simp only;omega) cu
    clear hd
    exact zd (W':=W) (by simp [execOp,d5,f_cu,go_sem]) (Below.refl _ _) rfl
   case s7 =>
    intro val ρ W hE hz hd hA hx
    have o0:ρ (.tmp 2) = .pointer (some ⟨w.heap.size,0,none⟩):=hA.old 2 (by decide)
    clear hd
    exact zd (W':=W) (by simp [execOp,o0,go_sem]) (Below.refl _ _) rfl
   case s8 =>
    intro val ρ W hE hz hd hA hx
    have d7:ρ (.tmp 59) = .pointer (some ⟨w.heap.size,2,none⟩):=(hA.dep 7 (by decide) 59 rfl).trans (hd 7 (by decide))
    have f_k2:=cell_below hE (by simp only;omega) k2
    clear hd
    exact zd (W':=W) (by simp [execOp,d7,f_k2,go_sem]) (Below.refl _ _) rfl
   case s9 =>
    intro val ρ W hE hz hd hA hx
    have o0:ρ (.tmp 8) = .int .i64 k:=hA.old 8 (by decide)
    clear hd
    exact zd (W':=W) (by simp [execOp,o0,go_sem]) (Below.refl _ _) rfl
   case s10 =>
    intro val ρ W hE hz hd hA hx
    have d8:ρ (.tmp 60) = .slice (some ⟨bb,bo,none⟩) b.bets.length bcap:=(hA.dep 8 (by decide) 60 rfl).trans (hd 8 (by decide))
    have d9:ρ (.tmp 61) = .int .i64 k:=(hA.dep 9 (by decide) 61 rfl).trans (hd 9 (by decide))
    clear hd
    exact zd (W':=W) (by simp [execOp,d8,d9,hki,go_sem]) (Below.refl _ _) rfl
   case s11 =>
    intro val ρ W hE hz hd hA hx
    have d10:ρ (.tmp 62) = .pointer (some ⟨bb,bo+k * 3,none⟩):=(hA.dep 10 (by decide) 62 rfl).trans (hd 10 (by decide))
    clear hd
    exact zd (W':=W) (by simp [execOp,d10,go_sem]) (Below.refl _ _) rfl
   case s12 =>
    intro val ρ W hE hz hd hA hx
    have d11:ρ (.tmp 63) = .pointer (some ⟨bb,bo+k * 3,none⟩):=(hA.dep 11 (by decide) 63 rfl).trans (hd 11 (by decide))
    have f_cf:=cell_below hE (by simp only;omega) cf
    clear hd
    exact zd (W':=W) (by simp [execOp,d11,f_cf,go_sem]) (Below.refl _ _) rfl
   case s13 =>
    intro val ρ W hE hz hd hA hx
    have d12:ρ (.tmp 64) = .int .i64 f:=(hA.dep 12 (by decide) 64 rfl).trans (hd 12 (by decide))
    clear hd
    exact zd (W':=W) (by simp [execOp,hA.const,d12,q1,go_sem]) (Below.refl _ _) rfl
   case s14 =>
    intro val ρ W hE hz hd hA hx
    have d13:ρ (.tmp 65) = .int .i64 N:=(hA.dep 13 (by decide) 65 rfl).trans (hd 13 (by decide))
    clear hd
    exact zd (W':=W.alloc (.cells #[.int .i64 N] 3)) (v:=.slice (some ⟨W.heap.size,0,none⟩) 1 1) (by simp [execOp,d13,go_sem]) xx ⟨_,rfl,by have:=(hx (by decide)).size;omega,by simp [go_sem]⟩
   case s15 =>
    intro val ρ W hE hz hd hA hx
    have d6:ρ (.tmp 58) = .int .i64 u:=(hA.dep 6 (by decide) 58 rfl).trans (hd 6 (by decide))
    obtain ⟨z,e14,hz1,hz2⟩:LitN X.heap.size N (val 14) W:=hd 14 (by decide)
    have d14:ρ (.tmp 66) = .slice (some ⟨z,0,none⟩) 1 1:=(hA.dep 14 (by decide) 66 rfl).trans e14
    clear hd
    refine zby 7 _ _ rfl #[.int .i64 u,.slice (some ⟨z,0,none⟩) 1 1] (hA.func _) (by simp [d6,d14]) (fun args W=>Tryz.call7 args W) ((zyg u (some ⟨z,0,none⟩) 1 1 W).mono ?_)
    rintro e w' ⟨rfl,hb⟩
    exact ⟨_,rfl,hb,z,rfl,hz1,zb hb hz2⟩
   case s16 =>
    intro val ρ W hE hz hd hA hx
    obtain ⟨z,e15,hz1,hz2⟩:TicN X.heap.size N u (val 15) W:=hd 15 (by decide)
    have d15:ρ (.tmp 67) = .agg #[.slice (some ⟨z,0,none⟩) 1 1,.int .i64 u]:=(hA.dep 15 (by decide) 67 rfl).trans e15
    clear hd
    exact zd (W':=W.alloc (.cells #[.slice (some ⟨z,0,none⟩) 1 1,.int .i64 u] 33)) (v:=.slice (some ⟨W.heap.size,0,none⟩) 1 1) (by simp [execOp,d15,go_sem]) xx ⟨_,z,rfl,zmb W [.slice (some ⟨z,0,none⟩) 1 1,.int .i64 u] _ _ _ rfl rfl,hz1,zb (by exact xx) hz2⟩
   case s17 =>
    intro val ρ W hE hz hd hA hx
    have hW:=hx (by decide)
    have d0:ρ (.tmp 52) = .slice oa on oc:=(hA.dep 0 (by decide) 52 rfl).trans (hd 0 (by decide))
    obtain ⟨b',z,e16,h16,hz1,hz2⟩:OneN X.heap.size N u (val 16) W:=hd 16 (by decide)
    have d16:ρ (.tmp 68) = .slice (some ⟨b',0,none⟩) 1 1:=(hA.dep 16 (by decide) 68 rfl).trans e16
    clear hd
    have ho:=HO.out.own.ext hW
    have hno:some z≠(Value.slice oa on oc).ownBlock:=fun e=>by have:=HO.out.own.notOwn z e.symm;omega
    have hzW:=World.block_lt_of_cell? _ _ hz2
    simp only at hzW
    have hL:=HLL.out
    obtain ⟨v',w',hrun,h2,h3,h4⟩:=zrf elTk 31 W3.heap.size ho b' 0 1 [[.slice (some ⟨z,0,none⟩) 1 1,.int .i64 u]] (by simp) h16 (by simp [Value.oneCell']) (by simp;simp at hL;omega) (by have:=hW.size;omega)
    refine zil (.tmp 52) (.tmp 68) rfl rfl _ _ d0 d16 hrun (ho.keptBelow (by have:=hW.size;omega) h3) ⟨z,hz1,h3.cell hz2 hno,h2,(Kept.of_below hW).trans h3,fun g hg=>(h4 g hg).imp id fun h=>Nat.le_trans hW.size h,fun e=>?_⟩
    rcases h4 z e.symm with h | h
    ·exact hno h.symm
    ·omega
   case send =>
    intro val Z hE hzz hv
    obtain ⟨-,-,-,-,-,-,-,-,-,-,-,-,-,-,-,-,-,r17,-⟩:=hv
    obtain ⟨q,hq1,hq2,hown,hkp,hog,hqn⟩:AddK X W3.heap.size (.slice oa on oc) (ps.map zgr) N u (val 17) Z:=r17
    obtain ⟨va,vn,vc,e17⟩:=hown.isSlice
    rw [e17] at hown hog hqn
    have HTG:=Lib.hid (HO.out.add hq2 hown hkp hog hqn)
    have HEZ:Hid (Ext W3 Z):=Lib.hid (Below.trans HE.out (HO.out.own.keptBelow (by omega) hkp))
    simp only [putD,e17]
    go_frame
    clear hE hzz hq1 hq2 hown hkp hog hqn e17 cf cu q1
    go_wp2_with fail
    go_roundw
    case rel=>exact ⟨k+1,ps ++ [(.slice (some ⟨q,0,none⟩) 1 1,⟨[N],u⟩)],by have:=HKL.out;omega,by go_num,HTG.out,HSC.out _,HEZ.out⟩
    case measure=>have:=HKL.out;simp [intOf];omega
  ·have hki:¬ ((k:Int) < (b.bets.length:Int)):=by omega
   have hpst:zn ps=tkP P:=by
    rw [HPS.out]
    refine List.take_of_length_le ?_
    rw [zg8,HP.out]
    simp only
    omega
   have hpsl:ps.length=b.bets.length:=by
    have h2:=congrArg List.length hpst
    rw [zg8,HP.out] at h2
    unfold zn at h2
    simpa using h2
   obtain ⟨ta,tc,e,-,-,-⟩:=HO.out.isTks.spec
   cases e
   have HTK:=Lib.hid HO.out.isTks
   have HPST:=Lib.hid hpst
   have HPSL:=Lib.hid hpsl
   obtain ⟨r,hr⟩:∃ r:Nat,r=ru.toNat % n:=⟨_,rfl⟩
   have hru:=HRU.out
   have hrn:r < n:=by have:=HN.out;have:=H26.out;rw [hr];exact Nat.mod_lt _ (by omega)
   have hm1:Int.tmod ru b.n=(r:Int):=by
    rw [HN.out,show ru=((ru.toNat:Nat):Int) by omega,Int.tmod_eq_emod_of_nonneg (by omega),hr];rfl
   have hw1:IntKind.i64.wrap ru=ru:=IntWalk.i64_in _ (by omega)
   have hw6:IntKind.i64.wrap (r:Int)=(r:Int):=IntWalk.i64_in _ (by have:=HN.out;have:=H26.out;omega)
   have hnz:¬ b.n=0:=by have:=H26.out;omega
   have HRN:=Lib.hid hrn
   obtain ⟨A,hA⟩:∃ A,A=accA P [[(r:Int)],za4 r n]:=⟨_,rfl⟩
   obtain ⟨U,hU⟩:∃ U,U=zz P ((r:Int),-1):=⟨_,rfl⟩
   obtain ⟨f,hf⟩:∃ f:Nat,f=zax (zbp ps (List.replicate ps.length true) n) n:=⟨_,rfl⟩
   obtain ⟨V,hV⟩:∃ V,V=zz P ((f:Int),-1):=⟨_,rfl⟩
   have hff:(f:Int)=favP P:=by rw [hf];exact HPL.out.best hpst
   have hfin:=HPL.out.fin hrn
   have hac:=HPL.out.acc r (za4 r n)
   rw [← hA,← hU] at hac
   have hinb:=HPL.out.inb (by rw [HP.out];exact H10.out)
   have hai1:=hac.1
   rw [← hai1] at hinb hac
   obtain ⟨paid,hpd⟩:∃ p,p=if U=0 then 0 else A.i / U:=⟨_,rfl⟩
   obtain ⟨rest,hrs⟩:∃ p,p=if U=0 then A.i else A.i % U:=⟨_,rfl⟩
   rw [← hrs] at hac
   have hk0:zai P=0:=zz0 HPL.out.v
   have hut:zar (zn ps) (oneB [r]) ps.length=U:=by
    rw [hpst,hpsl,hU,← HPL.out.unitsT r,HP.out]
   have huf:zar (zn ps) (oneB [f]) ps.length=V:=by
    rw [hpst,hpsl,hV,← HPL.out.unitsT f,HP.out]
   have hub:=zgs (ts:=zn ps) (by rw [hpst];exact (HPL.out.tks (by rw [HP.out];exact H10.out)).u) (oneB [r]) ps.length (by rw [hpst,zg8,HP.out,hpsl];exact Nat.le_refl _)
   rw [hut] at hub
   have HACC:Hid (∀ v ps W,Ext w W→IsFin W v ps→zf ps=[[(r:Int)],za4 r n]→Calls Tryz.prog 8 #[.agg #[.int .i64 0,.int .i64 b.n,.slice ba b.bets.length bcap,.slice none 0 0,.bool b.fav,.int .i64 0,.int .i64 0,.int .i64 1],v] W fun e w'=>e = .returned (.tuple #[.agg #[.int .i64 A.i,.int .i64 A.k,.int .i64 A.d,.int .i64 A.p,.int .i64 A.q,.int .i64 A.o],.int .i64 0])∧Ext W w'):=Lib.hid fun v ps W hW hf hfs=>by
    have h1:=zyn ps v P ba none bcap 0 W (HIB.out W hW) hf
    unfold accE at h1
    rw [hfs,hfin,if_pos rfl,← hA] at h1
    rw [HP.out] at h1
    exact h1
   have HDIV:Hid (∀ v ps W,Ext w W→IsFin W v ps→zf ps=[[(r:Int)],za4 r n]→Calls Tryz.prog 15 #[.agg #[.int .i64 0,.int .i64 b.n,.slice ba b.bets.length bcap,.slice none 0 0,.bool b.fav,.int .i64 0,.int .i64 0,.int .i64 1],v] W fun e w'=>Ext W w'∧∃ x,e = .returned (.tuple #[x,.int .i64 (if U=0 then 19 else 0)])∧IsRows w' 3 x (if U=0 then [] else [[.int .i64 r,.int .i64 (-1),.int .i64 paid]])):=Lib.hid fun v ps W hW hf hfs=>by
    have h1:=zs9 ps v P ba none bcap 0 W (HIB.out W hW) hf
    have h2:zfm P (zf ps)=if U=0 then 19 else 0:=by
     unfold zfm
     rw [hfs,hfin,HPL.out.div,← hU]
     by_cases h:U=0<;>simp [h]
    have h3:(divL P (zf ps)).map zdi=if U=0 then [] else [[.int .i64 r,.int .i64 (-1),.int .i64 paid]]:=by
     unfold divL
     rw [hfs,hfin,if_pos rfl,HPL.out.div,← hU,← hai1,hpd]
     by_cases h:U=0<;>simp [h,zdi]
    unfold RetDiv at h1
    rw [h2,h3] at h1
    rw [HP.out] at h1
    exact h1
   have HFV:Hid (∀ W,Ext w W→Calls Tryz.prog 10 #[.agg #[.int .i64 0,.int .i64 b.n,.slice ba b.bets.length bcap,.slice none 0 0,.bool b.fav,.int .i64 0,.int .i64 0,.int .i64 1]] W fun e w'=>e = .returned (.tuple #[.int .i64 (f:Int),.int .i64 0])∧Ext W w'):=Lib.hid fun W hW=>by
    have h1:=zvh P ba none bcap 0 W (HIB.out W hW)
    unfold favA at h1
    rw [hk0,if_pos rfl,← hff] at h1
    rw [HP.out] at h1
    exact h1
   have HUN:Hid (∀ W,Ext w W→Calls Tryz.prog 13 #[.agg #[.int .i64 0,.int .i64 b.n,.slice ba b.bets.length bcap,.slice none 0 0,.bool b.fav,.int .i64 0,.int .i64 0,.int .i64 1],.agg #[.int .i64 (f:Int),.int .i64 (-1)]] W fun e w'=>e = .returned (.int .i64 V)∧Ext W w'):=Lib.hid fun W hW=>by
    have h1:=zsf ((f:Int),-1) P ba none bcap 0 W (HIB.out W hW) HPL.out.v
    rw [← hV] at h1
    rw [HP.out] at h1
    exact h1
   have HVT:Hid (TksV [n] (zn ps)):=Lib.hid (by rw [hpst];exact HPL.out.tks (by rw [HP.out];exact H10.out))
   have HCV:Hid (CardV [n]):=Lib.hid ⟨by simp,by simp,fun i hi=>by
    have h0:i=0:=by simp at hi;omega
    subst h0
    have:=HN.out
    have:=H26.out
    simp only [List.getD_cons_zero]
    omega⟩
   have HDP:Hid (∀ W,Ext X W→IsInts W .i64 (.slice (some ⟨cn,0,none⟩) 1 1) [b.n]→Calls Tryz.prog 11 #[.agg #[.slice (some ⟨cn,0,none⟩) 1 1],.slice oa ps.length oc] W fun e w'=>∃ v,e = .returned (.tuple #[.int .i64 V,v,.int .i64 0])∧Ext W w'∧IsInts w' .i64 v [(f:Int)]):=Lib.hid fun W hW hi=>by
    have h1:=zxp n ps (some ⟨cn,0,none⟩) oa 1 oc W (by rw [HN.out] at hi;exact hi) (HTK.out.ext hW) HCV.out HVT.out
    rw [← hf,huf] at h1
    exact h1
   have HPY:Hid (∀ W lv,Ext X W→IsInts W .i64 (.slice (some ⟨cn,0,none⟩) 1 1) [b.n]→IsInts W .i64 lv [(r:Int)]→Calls Tryz.prog 14 #[.agg #[.slice (some ⟨cn,0,none⟩) 1 1],.slice oa ps.length oc,.int .i64 A.i,lv] W fun e w'=>e = .returned (.tuple #[.int .i64 paid,.int .i64 rest,.int .i64 0])∧Ext W w'):=Lib.hid fun W lv hW hi hl=>by
    have h1:=z3y n r A.i ps (some ⟨cn,0,none⟩) oa 1 oc lv W (by rw [HN.out] at hi;exact hi) (HTK.out.ext hW) hl hrn (by omega) HCV.out HVT.out
    rw [hut] at h1
    have h2:(if U=0 then Value.tuple #[.int .i64 0,.int .i64 A.i,.int .i64 0] else .tuple #[.int .i64 (A.i / U),.int .i64 (A.i % U),.int .i64 0]) = .tuple #[.int .i64 paid,.int .i64 rest,.int .i64 0]:=by
     rw [hpd,hrs]
     by_cases h:U=0<;>simp [h]
    rw [h2] at h1
    exact h1
   have hai:¬ (A.i < 0):=by omega
   have hai2:¬ ((1099511627776:Int) < A.i):=by omega
   have hrb:0≤rest∧rest≤1000000:=by
    rw [hrs]
    split
    ·exact hinb
    ·have h1:=Int.emod_nonneg A.i (b:=U) (by omega)
     have h2:=Int.emod_lt_of_pos A.i (b:=U) (by omega)
     have h3:=H10.out
     rw [← hpsl] at h3
     omega
   have hwq:IntKind.i64.wrap (A.q+A.o)=rest:=by rw [hac.2];exact IntWalk.i64_in _ (by omega)
   have HPD:Hid (U=0→paid=0):=Lib.hid fun h=>by rw [hpd,if_pos h]
   have HWQ:=Lib.hid hwq
   have HAI:Hid (¬ (A.i < 0)∧¬ ((1099511627776:Int) < A.i)):=Lib.hid ⟨hai,hai2⟩
   clear hai1 hpst hpsl hr hru hrn hU hV hf hff hfin hac hinb hpd hrs hk0 hut huf hub hai hai2 hrb hwq hA hXz hlt
   go_upto_region 12 with (fail)
   clear hm1 hw1 hnz
   refine za0 (X.heap.size) (Nat.le_refl _)
    [sqV (.agg #[.int .i64 0,.int .i64 b.n,.slice ba b.bets.length bcap,.slice none 0 0,.bool b.fav,.int .i64 0,.int .i64 0,.int .i64 1]),sqV (.pointer (some ⟨w.heap.size,1,none⟩)),sqV (.int .i64 b.n),sqV (.int .i64 r),sqW (fun v W=>∃ ps,IsFin W v ps∧zf ps=[[(r:Int)],za4 r n]) (fun _ _ _ ⟨ps,h1,h2⟩ e=>⟨ps,h1.ext e,h2⟩),sqV (.tuple #[.agg #[.int .i64 A.i,.int .i64 A.k,.int .i64 A.d,.int .i64 A.p,.int .i64 A.q,.int .i64 A.o],.int .i64 0]),sqV (.tuple #[.agg #[.int .i64 A.i,.int .i64 A.k,.int .i64 A.d,.int .i64 A.p,.int .i64 A.q,.int .i64 A.o],.int .i64 0]),sqV (.agg #[.int .i64 A.i,.int .i64 A.k,.int .i64 A.d,.int .i64 A.p,.int .i64 A.q,.int .i64 A.o]),sqV (.int .i64 0),sqW (fun v W=>∃ g,v = .pointer (some ⟨g,0,none⟩)∧X.heap.size≤g∧∃ a,AccAt W g a) (fun _ _ _ ⟨g,h1,h2,a,h3⟩ e=>⟨g,h1,h2,a,h3.ext e⟩),sqD [9] (fun l v W=>∃ g,l=[.pointer (some ⟨g,0,none⟩)]∧X.heap.size≤g∧AccAt W g A) (fun _ _ _ _ ⟨g,h1,h2,h3⟩ e=>⟨g,h1,h2,h3.ext e⟩),sqV (.int .i64 0)]
    [true,true,true,true,false,true,true,true,true,false,false,true] [false,false,false,false,false,false,false,false,false,false,true,false] [true,true,true,true,false,true,true,true,true,false,true,true] [true,true,true,true,true,true,true,true,false,true,true,false]
    (by kernel_rfl) (by kernel_rfl) (by decide +kernel) (by decide +kernel) (by decide +kernel) rfl ⟨rfl,rfl⟩ ⟨?s0,?s1,?s2,?s3,?s4,?s5,?s6,?s7,?s8,?s9,?s10,?s11,trivial⟩ [some 76,some 77,some 78,some 79,some 80,some 81,some 75,some 82,some 83,some 10,none,some 11] rfl rfl ?send
   case s0 =>
    intro val ρ W hE hz hd hA hx
    have o0:ρ (.tmp 2) = .pointer (some ⟨w.heap.size,0,none⟩):=hA.old 2 (by decide)
    have f_k0:=cell_below hE (by simp only;omega) k0
    have f_k1:=cell_below hE (by simp only;omega) k1
    have f_k2:=cell_below hE (by simp only;omega) k2
    have f_k3:=cell_below hE (by simp only;omega) k3
    have f_k4:=cell_below hE (by simp only;omega) k4
    have f_k5:=cell_below hE (by simp only;omega) k5
    have f_k6:=cell_below hE (by simp only;omega) k6
    have f_k7:=cell_below hE (by simp only;omega) k7
    clear hd
    exact zd (W':=W) (by simp [execOp,o0,f_k0,f_k1,f_k2,f_k3,f_k4,f_k5,f_k6,f_k7,go_sem]) (Below.refl _ _) rfl
   case s1 =>
    intro val ρ W hE hz hd hA hx
    have o0:ρ (.tmp 2) = .pointer (some ⟨w.heap.size,0,none⟩):=hA.old 2 (by decide)
    clear hd
    exact zd (W':=W) (by simp [execOp,o0,go_sem]) (Below.refl _ _) rfl
   case s2 =>
    intro val ρ W hE hz hd hA hx
    have d1:ρ (.tmp 77) = .pointer (some ⟨w.heap.size,1,none⟩):=(hA.dep 1 (by decide) 77 rfl).trans (hd 1 (by decide))
    have f_k1:=cell_below hE (by simp only;omega) k1
    clear hd
    exact zd (W':=W) (by simp [execOp,d1,f_k1,go_sem]) (Below.refl _ _) rfl
   case s3 =>
    intro val ρ W hE hz hd hA hx
    have o0:ρ (.tmp 9) = .int .i64 r:=hA.old 9 (by decide)
    clear hd
    exact zd (W':=W) (by simp [execOp,o0,go_sem]) (Below.refl _ _) rfl
   case s6 =>
    intro val ρ W hE hz hd hA hx
    have d5:ρ (.tmp 81) = .tuple #[.agg #[.int .i64 A.i,.int .i64 A.k,.int .i64 A.d,.int .i64 A.p,.int .i64 A.q,.int .i64 A.o],.int .i64 0]:=(hA.dep 5 (by decide) 81 rfl).trans (hd 5 (by decide))
    clear hd
    exact zd (W':=W) (by simp [execOp,d5,go_sem]) (Below.refl _ _) rfl
   case s7 =>
    intro val ρ W hE hz hd hA hx
    have d6:ρ (.tmp 75) = .tuple #[.agg #[.int .i64 A.i,.int .i64 A.k,.int .i64 A.d,.int .i64 A.p,.int .i64 A.q,.int .i64 A.o],.int .i64 0]:=(hA.dep 6 (by decide) 75 rfl).trans (hd 6 (by decide))
    clear hd
    exact zd (W':=W) (by simp [execOp,d6,go_sem]) (Below.refl _ _) rfl
   case s8 =>
    intro val ρ W hE hz hd hA hx
    have d6:ρ (.tmp 75) = .tuple #[.agg #[.int .i64 A.i,.int .i64 A.k,.int .i64 A.d,.int .i64 A.p,.int .i64 A.q,.int .i64 A.o],.int .i64 0]:=(hA.dep 6 (by decide) 75 rfl).trans (hd 6 (by decide))
    clear hd
    exact zd (W':=W) (by simp [execOp,d6,go_sem]) (Below.refl _ _) rfl
   case s11 =>
    intro val ρ W hE hz hd hA hx
    have d8:ρ (.tmp 83) = .int .i64 0:=(hA.dep 8 (by decide) 83 rfl).trans (hd 8 (by decide))
    clear hd
    exact zd (W':=W) (by simp [execOp,d8,go_sem]) (Below.refl _ _) rfl
   case s4 =>
    intro val ρ W hE hz hd hA hx
    have d2:ρ (.tmp 78) = .int .i64 b.n:=(hA.dep 2 (by decide) 78 rfl).trans (hd 2 (by decide))
    have d3:ρ (.tmp 79) = .int .i64 r:=(hA.dep 3 (by decide) 79 rfl).trans (hd 3 (by decide))
    clear hd
    have h1:=zuk n r W (by have:=HN.out;have:=H26.out;omega)
    rw [← HN.out] at h1
    refine zby 9 _ _ rfl #[.int .i64 b.n,.int .i64 r] (hA.func _) (by simp [d2,d3]) (fun args W=>Tryz.call9 args W) (h1.mono ?_)
    rintro e w' ⟨v,rfl,hb,ps,hf,hfs⟩
    exact ⟨_,rfl,hb,ps,hf,hfs⟩
   case s5 =>
    intro val ρ W hE hz hd hA hx
    have d0:ρ (.tmp 76) = .agg #[.int .i64 0,.int .i64 b.n,.slice ba b.bets.length bcap,.slice none 0 0,.bool b.fav,.int .i64 0,.int .i64 0,.int .i64 1]:=(hA.dep 0 (by decide) 76 rfl).trans (hd 0 (by decide))
    obtain ⟨qs,hf,hfs⟩:∃ ps,IsFin W (val 4) ps∧zf ps=[[(r:Int)],za4 r n]:=hd 4 (by decide)
    have d4:ρ (.tmp 80)=val 4:=hA.dep 4 (by decide) 80 rfl
    clear hd
    refine zby 8 _ _ rfl #[.agg #[.int .i64 0,.int .i64 b.n,.slice ba b.bets.length bcap,.slice none 0 0,.bool b.fav,.int .i64 0,.int .i64 0,.int .i64 1],val 4] (hA.func _) (by simp [d0,d4]) (fun args W=>Tryz.call8 args W) ((HACC.out (val 4) qs W (HWX.out.trans' (hx (by decide))) hf hfs).mono ?_)
    rintro e w' ⟨rfl,hb⟩
    exact ⟨_,rfl,hb,rfl⟩
   case s9 =>
    intro val ρ W hE hz hd hA hx
    clear hd
    exact zd (W':=W.alloc (.cells #[.int .i64 0,.int .i64 0,.int .i64 0,.int .i64 0,.int .i64 0,.int .i64 0] 38)) (by simp [execOp,go_sem]) xx ⟨_,rfl,hE.size,⟨0,0,0,0,0,0⟩,World.alloc_heap_new W _⟩
   case s10 =>
    intro val ρ W hE hz hd hA hx
    obtain ⟨g,e1,hB,a,hacc⟩:∃ g,val 9 = .pointer (some ⟨g,0,none⟩)∧X.heap.size≤g∧∃ a,AccAt W g a:=hd 9 (by decide)
    have dq:ρ (.tmp 10) = .pointer (some ⟨g,0,none⟩):=(hA.dep 9 (by decide) 10 rfl).trans e1
    have d6:ρ (.tmp 82) = .agg #[.int .i64 A.i,.int .i64 A.k,.int .i64 A.d,.int .i64 A.p,.int .i64 A.q,.int .i64 A.o]:=(hA.dep 7 (by decide) 82 rfl).trans (hd 7 (by decide))
    clear hd
    have c0:=hacc.c0
    have c1:=hacc.c1
    have c2:=hacc.c2
    have c3:=hacc.c3
    have c4:=hacc.c4
    have c5:=hacc.c5
    have cf:=fun o=>hacc.fr o
    exact ztv (W':=(((((W.setCell ⟨g,0,none⟩ (.int .i64 A.i)).setCell ⟨g,1,none⟩ (.int .i64 A.k)).setCell ⟨g,2,none⟩ (.int .i64 A.d)).setCell ⟨g,3,none⟩ (.int .i64 A.p)).setCell ⟨g,4,none⟩ (.int .i64 A.q)).setCell ⟨g,5,none⟩ (.int .i64 A.o)) (by simp [execOp,dq,d6,go_sem,c0,c1,c2,c3,c4,c5,cf]) ((((((((Below.refl _ W).setCell hB _).setCell hB _).setCell hB _).setCell hB _).setCell hB _).setCell hB _)) ⟨g,congrArg (fun x=>[x]) e1,hB,z6h hacc _ _ _ _ _ _⟩
   case send =>
    intro val Z hE hzz hv
    obtain ⟨-,-,-,-,-,-,-,-,-,-,r10,r11,-⟩:=hv
    obtain ⟨g,e9,hBg,hacc⟩:∃ g,[val 9]=[.pointer (some ⟨g,0,none⟩)]∧X.heap.size≤g∧AccAt Z g A:=r10
    have q9:val 9 = .pointer (some ⟨g,0,none⟩):=(List.cons.inj e9).1
    have q11:val 11 = .int .i64 0:=r11
    simp only [putD,q9,q11]
    go_frame
    replace k0:=zb hE k0
    replace k1:=zb hE k1
    replace k2:=zb hE k2
    replace k3:=zb hE k3
    replace k4:=zb hE k4
    replace k5:=zb hE k5
    replace k6:=zb hE k6
    replace k7:=zb hE k7
    replace hz:=World.block_lt_of_cell? _ _ k0
    simp only at hz
    replace kn:=zb hE kn
    replace kc:=zb hE kc
    replace hzn:=World.block_lt_of_cell? _ _ kn
    replace hzc:=World.block_lt_of_cell? _ _ kc
    simp only at hzn hzc
    have a0:=hacc.c0
    have a4:=hacc.c4
    have a5:=hacc.c5
    have hza:=hacc.lt
    have HXZ:Hid (Ext X Z):=Lib.hid hE
    have HWZ:=Lib.hid (HWX.out.trans' hE)
    clear hE hzz e9 q9 q11 hacc hBg
    go_wp2_with fail
    refine zat (W0:=Z) (g:=⟨Z,Below.refl _ _⟩) xx (HFV.out _ (HWZ.out.trans' xx)) fun g1 hgr=>?_
    clear hgr
    go_wp2_with fail
    refine zw5 (W0:=Z) (g:=g1) xx (HDP.out _ (HXZ.out.trans' xx) (zaq (by omega) (by omega) (zb xx kn))) (fun _ _ h=>by obtain ⟨_,_,h,_⟩:=h;exact h) fun _ g2 hgr hr=>?_
    obtain ⟨v,rfl,-,hI⟩:=hr
    clear hgr
    obtain ⟨va,vc,rfl,-,-,-⟩:=hI.spec
    have HVI:=Lib.hid hI
    clear hI
    obtain ⟨hai,hai2⟩:=HAI.out
    go_wp2_with fail
    refine (z3w (f:Int) f _ _ _ (HVI.out.ext (by exact xx)) (zaq (by omega) (by omega) (by simp [go_sem]))).mono ?_
    rintro e T ⟨rfl,hET⟩
    have hZT:Ext Z T:=Ext.trans' (by exact xx) hET
    replace k0:=zb hZT k0
    replace k1:=zb hZT k1
    replace k2:=zb hZT k2
    replace k3:=zb hZT k3
    replace k4:=zb hZT k4
    replace k5:=zb hZT k5
    replace k6:=zb hZT k6
    replace k7:=zb hZT k7
    replace hz:=World.block_lt_of_cell? _ _ k0
    simp only at hz
    replace kn:=zb hZT kn
    replace kc:=zb hZT kc
    replace hzn:=World.block_lt_of_cell? _ _ kn
    replace hzc:=World.block_lt_of_cell? _ _ kc
    simp only at hzn hzc
    replace a0:=zb hZT a0
    replace a4:=zb hZT a4
    replace a5:=zb hZT a5
    replace hza:=World.block_lt_of_cell? _ _ a0
    simp only at hza
    have HWT:=Lib.hid (HWZ.out.trans' hZT)
    have HXT:=Lib.hid (HXZ.out.trans' hZT)
    have hff:((f:Int) == (f:Int))=true:=by simp
    clear hZT hET
    go_wp2_with fail
    refine zat (W0:=T) (g:=⟨T,Below.refl _ _⟩) xx (HUN.out _ (HWT.out.trans' xx)) fun g1 hgr=>?_
    clear hgr
    have hvv:(V != V)=false:=by simp
    go_wp2_with fail
    refine (HPY.out _ _ (HXT.out.trans' (by exact xx)) (zaq (by omega) (by omega) (zb (by exact xx) kn)) (zaq (by omega) (by omega) (by simp [go_sem]))).mono ?_
    rintro e R ⟨rfl,hER⟩
    have hTR:Ext T R:=Ext.trans' (by exact xx) hER
    replace k0:=zb hTR k0
    replace k1:=zb hTR k1
    replace k2:=zb hTR k2
    replace k3:=zb hTR k3
    replace k4:=zb hTR k4
    replace k5:=zb hTR k5
    replace k6:=zb hTR k6
    replace k7:=zb hTR k7
    replace hz:=World.block_lt_of_cell? _ _ k0
    simp only at hz
    replace kn:=zb hTR kn
    replace kc:=zb hTR kc
    replace hzn:=World.block_lt_of_cell? _ _ kn
    replace hzc:=World.block_lt_of_cell? _ _ kc
    simp only at hzn hzc
    replace a0:=zb hTR a0
    replace a4:=zb hTR a4
    replace a5:=zb hTR a5
    replace hza:=World.block_lt_of_cell? _ _ a0
    simp only at hza
    have HWR:=Lib.hid (HWT.out.trans' hTR)
    have hwq:=HWQ.out
    have hrr:(rest != rest)=false:=by simp
    clear hTR hER hff hvv hai hai2 HVI
    obtain ⟨er,her⟩:∃ er:Int,er=if U=0 then 19 else 0:=⟨_,rfl⟩
    obtain ⟨L,hL⟩:∃ L:List (List Value),L=if U=0 then [] else [[.int .i64 r,.int .i64 (-1),.int .i64 paid]]:=⟨_,rfl⟩
    have HER:=Lib.hid her
    have HL:=Lib.hid hL
    replace HDIV:Hid (∀ v ps W,Ext w W→IsFin W v ps→zf ps=[[(r:Int)],za4 r n]→Calls Tryz.prog 15 #[.agg #[.int .i64 0,.int .i64 b.n,.slice ba b.bets.length bcap,.slice none 0 0,.bool b.fav,.int .i64 0,.int .i64 0,.int .i64 1],v] W fun e w'=>Ext W w'∧∃ x,e = .returned (.tuple #[x,.int .i64 er])∧IsRows w' 3 x L):=Lib.hid (by rw [her,hL];exact HDIV.out)
    clear her hL
    go_upto_region 20 with (fail)
    refine zfj 10 rfl (by kernel_rfl) (R.heap.size) (Nat.le_refl _)
     [sqV (.agg #[.int .i64 0,.int .i64 b.n,.slice ba b.bets.length bcap,.slice none 0 0,.bool b.fav,.int .i64 0,.int .i64 0,.int .i64 1]),sqV (.pointer (some ⟨w.heap.size,1,none⟩)),sqV (.int .i64 b.n),sqV (.int .i64 r),sqW (fun v W=>∃ ps,IsFin W v ps∧zf ps=[[(r:Int)],za4 r n]) (fun _ _ _ ⟨ps,h1,h2⟩ e=>⟨ps,h1.ext e,h2⟩),sqW (fun v W=>∃ x,v = .tuple #[x,.int .i64 er]∧IsRows W 3 x L) (fun _ _ _ ⟨x,h1,h2⟩ e=>⟨x,h1,IsRows.ext e h2⟩),sqW (fun v W=>∃ x,v = .tuple #[x,.int .i64 er]∧IsRows W 3 x L) (fun _ _ _ ⟨x,h1,h2⟩ e=>⟨x,h1,IsRows.ext e h2⟩),sqW (fun v W=>IsRows W 3 v L) (fun _ _ _ h e=>IsRows.ext e h),sqV (.int .i64 er),sqW (fun v W=>IsRows W 3 v L) (fun _ _ _ h e=>IsRows.ext e h)]
     [true,true,true,true,false,false,false,false,true,false] [false,false,false,false,false,false,false,false,false,false] [true,true,true,true,true,true,true,true,true,true] [true,true,true,true,true,true,true,true,true,true]
     (by kernel_rfl) (by kernel_rfl) (by decide +kernel) (by decide +kernel) (by decide +kernel) rfl ⟨rfl,rfl⟩ ⟨?s0,?s1,?s2,?s3,?s4,?s5,?s6,?s7,?s8,?s9,trivial⟩ [some 154,some 155,some 156,some 157,some 158,some 159,some 153,some 160,some 161,some 20] rfl rfl ?send
    case s0 =>
     intro val ρ W hE hz hd hA hx
     have o0:ρ (.tmp 2) = .pointer (some ⟨w.heap.size,0,none⟩):=hA.old 2 (by decide)
     have f_k0:=cell_below hE (by simp only;omega) k0
     have f_k1:=cell_below hE (by simp only;omega) k1
     have f_k2:=cell_below hE (by simp only;omega) k2
     have f_k3:=cell_below hE (by simp only;omega) k3
     have f_k4:=cell_below hE (by simp only;omega) k4
     have f_k5:=cell_below hE (by simp only;omega) k5
     have f_k6:=cell_below hE (by simp only;omega) k6
     have f_k7:=cell_below hE (by simp only;omega) k7
     clear hd
     exact zd (W':=W) (by simp [execOp,o0,f_k0,f_k1,f_k2,f_k3,f_k4,f_k5,f_k6,f_k7,go_sem]) (Below.refl _ _) rfl
    case s1 =>
     intro val ρ W hE hz hd hA hx
     have o0:ρ (.tmp 2) = .pointer (some ⟨w.heap.size,0,none⟩):=hA.old 2 (by decide)
     clear hd
     exact zd (W':=W) (by simp [execOp,o0,go_sem]) (Below.refl _ _) rfl
    case s2 =>
     intro val ρ W hE hz hd hA hx
     have d1:ρ (.tmp 155) = .pointer (some ⟨w.heap.size,1,none⟩):=(hA.dep 1 (by decide) 155 rfl).trans (hd 1 (by decide))
     have f_k1:=cell_below hE (by simp only;omega) k1
     clear hd
     exact zd (W':=W) (by simp [execOp,d1,f_k1,go_sem]) (Below.refl _ _) rfl
    case s3 =>
     intro val ρ W hE hz hd hA hx
     have o0:ρ (.tmp 9) = .int .i64 r:=hA.old 9 (by decide)
     clear hd
     exact zd (W':=W) (by simp [execOp,o0,go_sem]) (Below.refl _ _) rfl
    case s4 =>
     intro val ρ W hE hz hd hA hx
     have d2:ρ (.tmp 156) = .int .i64 b.n:=(hA.dep 2 (by decide) 156 rfl).trans (hd 2 (by decide))
     have d3:ρ (.tmp 157) = .int .i64 r:=(hA.dep 3 (by decide) 157 rfl).trans (hd 3 (by decide))
     clear hd
     have h1:=zuk n r W (by have:=HN.out;have:=H26.out;omega)
     rw [← HN.out] at h1
     refine zby 9 _ _ rfl #[.int .i64 b.n,.int .i64 r] (hA.func _) (by simp [d2,d3]) (fun args W=>Tryz.call9 args W) (h1.mono ?_)
     rintro e w' ⟨v,rfl,hb,ps,hf,hfs⟩
     exact ⟨_,rfl,hb,ps,hf,hfs⟩
    case s5 =>
     intro val ρ W hE hz hd hA hx
     have d0:ρ (.tmp 154) = .agg #[.int .i64 0,.int .i64 b.n,.slice ba b.bets.length bcap,.slice none 0 0,.bool b.fav,.int .i64 0,.int .i64 0,.int .i64 1]:=(hA.dep 0 (by decide) 154 rfl).trans (hd 0 (by decide))
     obtain ⟨qs,hf,hfs⟩:∃ ps,IsFin W (val 4) ps∧zf ps=[[(r:Int)],za4 r n]:=hd 4 (by decide)
     have d4:ρ (.tmp 158)=val 4:=hA.dep 4 (by decide) 158 rfl
     clear hd
     refine zby 15 _ _ rfl #[.agg #[.int .i64 0,.int .i64 b.n,.slice ba b.bets.length bcap,.slice none 0 0,.bool b.fav,.int .i64 0,.int .i64 0,.int .i64 1],val 4] (hA.func _) (by simp [d0,d4]) (fun args W=>Tryz.call15 args W) ((HDIV.out (val 4) qs W (HWR.out.trans' (hx (by decide))) hf hfs).mono ?_)
     rintro e w' ⟨hb,x,rfl,hr⟩
     exact ⟨_,rfl,hb,x,rfl,hr⟩
    case s6 =>
     intro val ρ W hE hz hd hA hx
     obtain ⟨x,e5,hr5⟩:∃ x,val 5 = .tuple #[x,.int .i64 er]∧IsRows W 3 x L:=hd 5 (by decide)
     have d5:ρ (.tmp 159) = .tuple #[x,.int .i64 er]:=(hA.dep 5 (by decide) 159 rfl).trans e5
     clear hd
     exact zd (W':=W) (v:=.tuple #[x,.int .i64 er]) (by simp [execOp,d5,go_sem]) (Below.refl _ _) ⟨x,rfl,hr5⟩
    case s7 =>
     intro val ρ W hE hz hd hA hx
     obtain ⟨x,e6,hr6⟩:∃ x,val 6 = .tuple #[x,.int .i64 er]∧IsRows W 3 x L:=hd 6 (by decide)
     have d6:ρ (.tmp 153) = .tuple #[x,.int .i64 er]:=(hA.dep 6 (by decide) 153 rfl).trans e6
     clear hd
     exact zd (W':=W) (v:=x) (by simp [execOp,d6,go_sem]) (Below.refl _ _) hr6
    case s8 =>
     intro val ρ W hE hz hd hA hx
     obtain ⟨x,e6,hr6⟩:∃ x,val 6 = .tuple #[x,.int .i64 er]∧IsRows W 3 x L:=hd 6 (by decide)
     have d6:ρ (.tmp 153) = .tuple #[x,.int .i64 er]:=(hA.dep 6 (by decide) 153 rfl).trans e6
     clear hd
     exact zd (W':=W) (v:=.int .i64 er) (by simp [execOp,d6,go_sem]) (Below.refl _ _) rfl
    case s9 =>
     intro val ρ W hE hz hd hA hx
     have h7:IsRows W 3 (val 7) L:=hd 7 (by decide)
     have d7:ρ (.tmp 160)=val 7:=hA.dep 7 (by decide) 160 rfl
     clear hd
     exact zd (W':=W) (v:=val 7) (by simp [execOp,d7,go_sem]) (Below.refl _ _) h7
    case send =>
     intro val Q hE hzz hv
     obtain ⟨-,-,-,-,-,-,-,-,r8,r9,-⟩:=hv
     have q8:val 8 = .int .i64 er:=r8
     have h7:IsRows Q 3 (val 9) L:=r9
     have HWQ2:=Lib.hid (HWR.out.trans' hE)
     have HPD:=HPD
     by_cases hu:U=0
     ·have h1:=HER.out
      have h2:=HL.out
      have h3:=HPD.out hu
      rw [if_pos hu] at h1 h2
      subst h1 h2
      obtain ⟨sa,cap,e7,-,-,-⟩:=h7
      have hpb:(paid == 0)=true:=by rw [h3];rfl
      simp only [putD,e7,q8]
      go_frame
      clear hE hzz r9 r8 q8 e7 h3 HL HER HDIV k0 k1 k2 k3 k4 k5 k6 k7 kn kc a0 a4 a5 hwq hrr hu
      go_wp2_with fail
      refine (zfi _).mono ?_
      rintro e W9 ⟨rfl,hE9⟩
      go_wp2_with fail
      go_ret
      exact ⟨rfl,HWQ2.out.trans' hE9⟩
     ·have h1:=HER.out
      have h2:=HL.out
      rw [if_neg hu] at h1 h2
      subst h1 h2
      obtain ⟨sa,cap,e7,-,-,hc⟩:=h7
      rcases hc with hc | ⟨db,dof,rfl,hc⟩
      ·cases hc
      have cp:=hc 0 (by simp) 2 (by simp)
      simp at cp
      have zp:=World.block_lt_of_cell? _ _ cp
      simp only at zp
      have hpp:(paid == paid)=true:=by simp
      simp only [putD,e7,q8]
      go_frame
      clear hE hzz r9 r8 q8 e7 hc HL HER HDIV k0 k1 k2 k3 k4 k5 k6 k7 kn kc a0 a4 a5 hwq hrr hu
      go_wp2_with fail
      refine (zfi _).mono ?_
      rintro e W9 ⟨rfl,hE9⟩
      go_wp2_with fail
      go_ret
      exact ⟨rfl,HWQ2.out.trans' hE9⟩
end Go.Proofs.YtkbaiobnibmmgaaGreat
