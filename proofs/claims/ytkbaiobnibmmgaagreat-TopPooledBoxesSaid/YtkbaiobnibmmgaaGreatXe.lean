/-
  The walks of single, run, units and outcome of the boxes, and of best.
-/
import Derived.Test.YtkbaiobnibmmgaaGreatXd
import Derived.Test.YtkbaiobnibmmgaaGreatBb
import Derived.Test.YtkbaiobnibmmgaaGreatXa
import Derived.Test.YtkbaiobnibmmgaaGreatBc
namespace Go.Proofs.YtkbaiobnibmmgaaGreat
open Go.RowKit Go.Shelf
attribute [local go_sem] Oper.semAt_some
def oneB (l:List Nat):List Nat:=l.map fun i=>2 ^ i
theorem z50 (l:List Nat) (k:Nat) (h:k < l.length):oneB (l.take (k+1))=oneB (l.take k) ++ [2 ^ l.getD k 0]:=by
 unfold oneB
 rw [List.take_add_one,List.getElem?_eq_getElem h,List.map_append,List.getD_eq_getElem?_getD,List.getElem?_eq_getElem h]
 rfl
set_option maxRecDepth 100000 in
set_option maxHeartbeats 4000000 in
theorem zyf (l:List Nat) (lv:Value) (w:World) (hl:IsInts w .i64 lv (natL l)) (h6:∀ k,k < l.length→l.getD k 0 < 6) (h9:l.length≤1000) :
  Calls Tryz.prog 56 #[lv] w fun e w'=>∃ v,e = .returned v∧Ext w w'∧Owns w' w.heap.size 3 1 v ((natL (oneB l)).map iRow):=by
 obtain ⟨la,lc,rfl,-,-,-⟩:=hl.spec
 rw [zb2] at hl ⊢
 have HR:=Lib.hid hl
 have H6:=Lib.hid h6
 clear hl h6
 go_enter Tryz.func56,Tryz.ntmps56
 go_wp2_with fail
 go_loopw [3,8] (fun ov iv W=>∃ k:Nat,k≤l.length∧iv = .int .i64 k∧Owns W w.heap.size 3 1 ov ((natL (oneB (l.take k))).map iRow)∧Ext w W) (fun _ iv _=>l.length - (intOf iv).toNat)
 case atStart=>exact ⟨0,by omega,rfl,Owns.nil _ _ _ _,Below.refl _ _⟩
 case round =>
  obtain ⟨k,hk,rfl,ho,hE⟩:=hrel
  obtain ⟨X,rfl⟩:∃ X,X=wr:=⟨_,rfl⟩
  have HO:=Lib.hid ho
  have HE:=Lib.hid hE
  obtain ⟨oa,on,oc,rfl⟩:=ho.isSlice
  by_cases hlt:k < l.length
  ·have hki:(k:Int) < (l.length:Int):=by omega
   obtain ⟨rb,ro,rfl,hc⟩:=zcu HR.out hlt
   have cr:=hc k hlt X hE
   have zr:=World.block_lt_of_cell? _ _ cr
   simp only at zr
   have hb:=H6.out k hlt
   have hat:=z50 l k hlt
   obtain ⟨n,hn⟩:∃ n:Nat,n=l.getD k 0:=⟨_,rfl⟩
   rw [← hn] at cr hb hat
   obtain ⟨h1,h2,h3⟩:=bshl (show n≤6 by omega)
   obtain ⟨N,hN⟩:∃ N:Nat,N=2 ^ n:=⟨_,rfl⟩
   rw [← hN] at h1 h2 h3 hat
   have hmin:min n 64=n:=by omega
   have HAT:Hid ((natL (oneB (l.take (k+1)))).map iRow=(natL (oneB (l.take k))).map iRow ++ [[.int .i64 (N:Int)]]):=Lib.hid (by
    rw [hat]
    simp [natL,iRow])
   have HLEN:Hid (((natL (oneB (l.take k))).map iRow).length + [[Value.int .i64 (N:Int)]].length≤1000000):=Lib.hid (by simp [natL,oneB];omega)
   clear hc hn hN hat ho hE hb h2 h3
   go_wp2_with (at_builtin;go_loud (refine z6r rfl (.tmp 12) (.tmp 15) zre rfl w.heap.size rfl (HO.out.ext (by exact xx)) X.heap.size 0 1 [[.int .i64 (N:Int)]] rfl (by simp) (zmb _ [.int .i64 (N:Int)] _ _ _ rfl rfl) (by simp [Value.oneCell']) HLEN.out (by have:=HE.out.size;simp;omega) ?_))
   intro v' W4 hown4 hb4
   obtain ⟨va2,vn,vc2,rfl⟩:=hown4.isSlice
   have hE4:Ext w W4:=Below.trans (HE.out.trans' (by exact xx:Ext X (X.alloc (.cells #[.int .i64 (N:Int)] 3)))) hb4
   have HO4:=Lib.hid hown4
   have HE4:=Lib.hid hE4
   clear hown4 hb4 hE4
   go_wp2_with fail
   go_roundw
   case rel=>exact ⟨k+1,by omega,by go_num,by rw [HAT.out];exact HO4.out,HE4.out⟩
   case measure=>simp [intOf];omega
  ·have hki:¬ ((k:Int) < (l.length:Int)):=by omega
   have HO3:Hid (Owns X w.heap.size 3 1 (.slice oa on oc) ((natL (oneB l)).map iRow)):=Lib.hid (by
    have hke:k=l.length:=by omega
    rw [hke,List.take_length] at ho
    exact ho)
   clear ho hE
   go_wp2_with fail
   refine bodyPost_ret (v:=.slice oa on oc) (by simp [results,Tryz.results56,go_sem]) rfl ?_
   exact ⟨_,rfl,HE.out,HO3.out⟩
set_option maxRecDepth 100000 in
set_option maxHeartbeats 4000000 in
theorem z52 (l rs:List Nat) (lv tv:Value) (ra:Option Addr) (rcap p:Nat) (w:World) (hs:SheetAt w p (.slice ra rs.length rcap) tv) (hr:IsInts w .i64 (.slice ra rs.length rcap) (natL rs)) (hl:IsInts w .i64 lv (natL l)) (hll:l.length≤rs.length) (h9:l.length≤1000) (hok:∀ k,k < l.length→l.getD k 0 < rs.getD k 0) :
  Calls Tryz.prog 40 #[.pointer (some ⟨p,0,none⟩),lv] w fun e w'=>e = .returned (.bool true)∧Ext w w':=by
 obtain ⟨la,lc,rfl,-,-,-⟩:=hl.spec
 rw [zb2] at hl ⊢
 have HL:=Lib.hid hl
 have HR:=Lib.hid hr
 have HK:=Lib.hid hok
 have c0:=hs.c0
 have hz:=hs.lt
 clear hs hl hr hok
 go_enter Tryz.func40,Tryz.ntmps40
 go_wp2_with fail
 go_loopw [9] (fun iv W=>∃ k:Nat,k≤l.length∧iv = .int .i64 k∧W=w) (fun iv _=>l.length - (intOf iv).toNat)
 case atStart=>exact ⟨0,by omega,rfl,rfl⟩
 case round =>
  obtain ⟨k,hk,rfl,rfl⟩:=hrel
  by_cases hlt:k < l.length
  ·have hki:(k:Int) < (l.length:Int):=by omega
   have hkr:k < rs.length:=by omega
   have hkri:(k:Int) < (rs.length:Int):=by omega
   obtain ⟨lb,lo,rfl,hcl⟩:=zcu HL.out hlt
   obtain ⟨rb,ro,rfl,hcr⟩:=zcu HR.out hkr
   have cl:=hcl k hlt _ (Below.refl _ _)
   have cr:=hcr k hkr _ (Below.refl _ _)
   have zl:=World.block_lt_of_cell? _ _ cl
   have zr:=World.block_lt_of_cell? _ _ cr
   simp only at zl zr
   have hlt2:=HK.out k hlt
   obtain ⟨x,hx⟩:∃ x:Nat,x=l.getD k 0:=⟨_,rfl⟩
   obtain ⟨n,hn⟩:∃ n:Nat,n=rs.getD k 0:=⟨_,rfl⟩
   rw [← hx] at cl hlt2
   rw [← hn] at cr hlt2
   have h0:¬ ((x:Int) < 0):=by omega
   have h0d:decide ((x:Int) < 0)=false:=decide_eq_false h0
   have h1:¬ ((n:Int)≤(x:Int)):=by omega
   have h1d:decide ((n:Int)≤(x:Int))=false:=decide_eq_false h1
   clear hcl hcr hx hn hlt2
   go_wp2_with fail
   go_roundw
   case rel=>exact ⟨k+1,by omega,by go_num,trivial⟩
   case measure=>simp [intOf];omega
  ·have hki:¬ ((k:Int) < (l.length:Int)):=by omega
   go_wp2_with fail
   go_ret
   exact ⟨rfl,Below.refl _ _⟩
def zar (ts:List Tk) (b:List Nat):Nat→Int
 | 0=>0
 | k+1=>zar ts b k+if zcq (ts.getD k ⟨[],0⟩).s b b.length=true then (ts.getD k ⟨[],0⟩).u else 0
theorem zgs {ts:List Tk} (hu:∀ t∈ts,1≤t.u∧t.u≤1000) (b:List Nat):∀ k,k≤ts.length→0≤zar ts b k∧zar ts b k≤1000 * (k:Int)
 | 0,_=>by simp [zar]
 | k+1,hk=>by
  have h:=zgs hu b k (by omega)
  have h1:=hu (ts.getD k ⟨[],0⟩) (by rw [List.getD_eq_getElem?_getD,List.getElem?_eq_getElem (by omega)];exact List.getElem_mem _)
  unfold zar
  split<;>omega
set_option maxRecDepth 100000 in
set_option maxHeartbeats 4000000 in
theorem z1f (rs:List Nat) (ps:List (Value × Tk)) (b:List Nat) (bv rv:Value) (ta:Option Addr) (tc p:Nat) (w:World) (hs:SheetAt w p rv (.slice ta ps.length tc)) (ht:IsTks w (.slice ta ps.length tc) ps) (hb:IsInts w .i64 bv (natL b)) (VT:TksV rs (zn ps)) (h6:∀ k,rs.getD k 0≤6) (hl:b.length=rs.length) (hl9:rs.length≤5) (hB:∀ r,r < b.length→b.getD r 0≤4294967295) :
  Calls Tryz.prog 83 #[.pointer (some ⟨p,0,none⟩),bv] w fun e w'=>e = .returned (.int .i64 (zar (zn ps) b ps.length))∧Ext w w':=by
 have HT:=Lib.hid ht
 have HB:=Lib.hid hb
 have HV:=Lib.hid VT
 have H6:=Lib.hid h6
 have HBB:=Lib.hid hB
 have hp10:ps.length≤10:=by have:=VT.hi;simpa [zn] using this
 have c1:=hs.c1
 have hz:=hs.lt
 clear hs ht hb VT h6 hB
 obtain ⟨ba,bc,rfl,-,-,-⟩:=HB.out.spec
 go_enter Tryz.func83,Tryz.ntmps83
 go_wp2_with fail
 go_loopw [5,13] (fun nv iv W=>∃ k:Nat,k≤ps.length∧iv = .int .i64 k∧nv = .int .i64 (zar (zn ps) b k)∧Ext w W) (fun _ iv _=>ps.length - (intOf iv).toNat)
 case atStart=>exact ⟨0,by omega,rfl,rfl,Below.refl _ _⟩
 case round =>
  obtain ⟨k,hk,rfl,rfl,hE⟩:=hrel
  obtain ⟨X,rfl⟩:∃ X,X=wr:=⟨_,rfl⟩
  have HE:=Lib.hid hE
  have hbd:=zgs HV.out.u b k (by simpa [zn] using hk)
  by_cases hlt:k < ps.length
  ·have hki:(k:Int) < (ps.length:Int):=by omega
   obtain ⟨_,_,e9,-,-,hcc⟩:=(HT.out.ext hE).spec
   cases e9
   rcases hcc with hc0 | ⟨tb,to,rfl,hcc⟩
   ·rw [hc0] at hlt;simp at hlt
   obtain ⟨t0,t1⟩:=hcc k hlt
   have zt:=World.block_lt_of_cell? _ _ t0
   simp only at zt
   have hset:=HT.out.sets _ (List.getElem_mem hlt)
   obtain ⟨sb,sc,hsv,-,-,-⟩:=hset.spec
   rw [hsv] at t0 hset
   have hmem:ps[k].2∈zn ps:=List.mem_map.2 ⟨ps[k],List.getElem_mem hlt,rfl⟩
   have hgd:(zn ps).getD k ⟨[],0⟩=ps[k].2:=by
    rw [List.getD_eq_getElem?_getD]
    simp [zn,List.getElem?_eq_getElem hlt]
   have hsl:=HV.out.len _ hmem
   have hsu:zar (zn ps) b (k+1)=zar (zn ps) b k+if zcq ps[k].2.s b ps[k].2.s.length=true then ps[k].2.u else 0:=by
    show zar (zn ps) b k+_=_
    rw [hgd,hsl,hl]
   have hub:=HV.out.u _ hmem
   have heach:∀ r,r < ps[k].2.s.length→ps[k].2.s.getD r 0≤4294967295:=fun r hr=>by
    have h1:=(HV.out.each _ hmem r (by omega)).2
    have h2:2 ^ rs.getD r 0≤2 ^ 6:=Nat.pow_le_pow_right (by omega) (H6.out r)
    omega
   obtain ⟨t,hT⟩:∃ t,t=ps[k].2:=⟨_,rfl⟩
   rw [← hT] at t0 t1 hset hsl hsu hub heach
   obtain ⟨u,hu⟩:∃ u,u=t.u:=⟨_,rfl⟩
   rw [← hu] at t1 hub hsu
   obtain ⟨v,hv⟩:∃ v,v=zar (zn ps) b k:=⟨_,rfl⟩
   rw [← hv] at hbd hsu ⊢
   rw [zb2] at t0 hset
   have HSET:=Lib.hid hset
   have HEACH:=Lib.hid heach
   have HSL:=Lib.hid hsl
   have HSU:=Lib.hid hsu
   clear hcc hT hv hu hsv hset hgd hmem heach hsl hsu
   go_upto_region 5 with (fail)
   obtain ⟨Y,hY⟩:∃ Y,Y=X.alloc (.cells #[.slice sb t.s.length sc,.int .i64 u] 33):=⟨_,rfl⟩
   have hE1:Ext X Y:=by rw [hY];exact xx
   have d0:Y.cell? ⟨X.heap.size,0,none⟩=some (.slice sb t.s.length sc):=by rw [hY];simp [go_sem]
   have d1:Y.cell? ⟨X.heap.size,1,none⟩=some (.int .i64 u):=by rw [hY];simp [go_sem]
   obtain ⟨q,hq⟩:∃ q,q=X.heap.size:=⟨_,rfl⟩
   rw [← hY]
   rw [← hq] at d0 d1 ⊢
   have z0:=World.block_lt_of_cell? _ _ d0
   simp only at z0
   have HY:=Lib.hid (HE.out.trans' hE1)
   clear hY hq hE1 t0 t1 zt
   go_wp2_with fail
   refine (z5u t.s b _ _ Y (HSET.out.ext HY.out) (HB.out.ext HY.out) (by rw [HSL.out,hl]) HEACH.out (fun r hr=>HBB.out r (by rw [hl,← HSL.out];exact hr)) (by rw [HSL.out];omega)).mono ?_
   rintro e Z ⟨rfl,hE2⟩
   have hsu:=HSU.out
   obtain ⟨c,hc⟩:∃ c,c=zcq t.s b t.s.length:=⟨_,rfl⟩
   rw [← hc] at hsu ⊢
   replace d1:=zb hE2 d1
   replace z0:=World.block_lt_of_cell? _ _ d1
   simp only at z0
   have HZ:=Lib.hid (HY.out.trans' hE2)
   clear hE2 d0 hc
   cases c
   ·have HS2:Hid (zar (zn ps) b (k+1)=v):=Lib.hid (by rw [hsu];simp)
    clear hsu
    go_wp2_with fail
    go_roundw
    case rel=>exact ⟨k+1,by omega,by go_num,by rw [HS2.out],HZ.out⟩
    case measure=>simp [intOf];omega
   ·have HS2:Hid (zar (zn ps) b (k+1)=v+u):=Lib.hid (by rw [hsu];simp)
    have hw1:IntKind.i64.wrap (v+u)=v+u:=IntWalk.i64_in _ (by omega)
    clear hsu
    go_wp2_with fail
    go_roundw
    case rel=>exact ⟨k+1,by omega,by go_num,by rw [HS2.out],HZ.out⟩
    case measure=>simp [intOf];omega
  ·have hki:¬ ((k:Int) < (ps.length:Int)):=by omega
   obtain ⟨v,hv⟩:∃ v,v=zar (zn ps) b k:=⟨_,rfl⟩
   have HV2:Hid (v=zar (zn ps) b ps.length):=Lib.hid (by rw [hv,show k=ps.length by omega])
   rw [← hv]
   clear hv hbd hE
   go_wp2_with fail
   go_ret
   exact ⟨zy HV2.out,HE.out⟩
set_option maxRecDepth 100000 in
set_option maxHeartbeats 1000000 in
theorem zn5 (rs l:List Nat) (ps:List (Value × Tk)) (lv rv:Value) (ta:Option Addr) (tc p:Nat) (w:World) (hs:SheetAt w p rv (.slice ta ps.length tc)) (ht:IsTks w (.slice ta ps.length tc) ps) (hl:IsInts w .i64 lv (natL l)) (VT:TksV rs (zn ps)) (h6:∀ k,rs.getD k 0≤6) (hll:l.length=rs.length) (hl9:rs.length≤5) (h5:∀ k,k < l.length→l.getD k 0 < 6) :
  Calls Tryz.prog 37 #[.pointer (some ⟨p,0,none⟩),lv] w fun e w'=>e = .returned (.int .i64 (zar (zn ps) (oneB l) ps.length))∧Ext w w':=by
 have HS:=Lib.hid hs
 have HT:=Lib.hid ht
 have HL:=Lib.hid hl
 clear hs ht hl
 go_enter Tryz.func37,Tryz.ntmps37
 go_wp2_with fail
 refine (zyf l lv w HL.out h5 (by omega)).mono ?_
 rintro e X ⟨v,rfl,hE,hO⟩
 have HE:=Lib.hid hE
 have HO:=Lib.hid hO
 clear hE hO
 go_wp2_with fail
 refine (z1f rs ps (oneB l) v rv ta tc p X (HS.out.ext HE.out) (HT.out.ext HE.out) HO.out.oneInts VT h6 (by simp [oneB];exact hll) hl9 (fun r hr=>?_)).mono ?_
 ·have hr':r < l.length:=by simpa [oneB] using hr
  have h1:(oneB l).getD r 0=2 ^ l.getD r 0:=by
   unfold oneB
   rw [List.getD_eq_getElem?_getD,List.getElem?_map,List.getD_eq_getElem?_getD,List.getElem?_eq_getElem hr']
   rfl
  have h2:2 ^ l.getD r 0≤2 ^ 6:=Nat.pow_le_pow_right (by omega) (by have:=h5 r hr';omega)
  omega
 rintro e Y ⟨rfl,hE⟩
 have HE2:=Lib.hid (HE.out.trans' hE)
 clear hE
 go_wp2_with fail
 go_ret
 exact ⟨rfl,HE2.out⟩
end Go.Proofs.YtkbaiobnibmmgaaGreat
namespace Go.Proofs.YtkbaiobnibmmgaaGreat
open Go.RowKit Go.Shelf
attribute [local go_sem] Oper.semAt_some
theorem zn6 {w:World} {sa:Option Addr} {n cap:Nat} {l:List Int} (h:IsInts w .i64 (.slice sa n cap) l) {i:Nat} (hi:i < l.length):∃ sb off,sa=some ⟨sb,off,none⟩∧∀ i,i < l.length→∀ W,Ext w W→W.cell? ⟨sb,off+i,none⟩=some (.int .i64 (l.getD i 0)):=by
 obtain ⟨_,_,e0,-,-,hc⟩:=h.spec
 cases e0
 rcases hc with h0 | ⟨sb,off,rfl,hc⟩
 ·rw [h0] at hi;simp at hi
 ·refine ⟨sb,off,rfl,fun i hi W e=>?_⟩
  have c0:=zb e (hc i hi)
  rw [c0,List.getD_eq_getElem?_getD,List.getElem?_eq_getElem hi]
  rfl
def zax (l:List Int):Nat→Nat
 | 0=>0
 | k+1=>if l.getD k 0 < l.getD (zax l k) 0 then k else zax l k
theorem zie (l:List Int):∀ k,1≤k→zax l k < k
 | 0,h=>by omega
 | 1,_=>by
  unfold zax
  simp [zax]
 | k+2,_=>by
  have h:=zie l (k+1) (by omega)
  rw [zax]
  split<;>omega
theorem zua (l:List Int):∀ k,zax l k≤k
 | 0=>Nat.le_refl _
 | k+1=>by have:=zie l (k+1) (by omega);omega
set_option maxRecDepth 100000 in
set_option maxHeartbeats 2000000 in
theorem z54 (l:List Int) (lv:Value) (w:World) (hl:IsInts w .i64 lv l) (h9:l.length≤1000) :
  Calls Tryz.prog 81 #[lv] w fun e w'=>e = .returned (.int .i64 (zax l l.length:Nat))∧Ext w w':=by
 obtain ⟨la,lc,rfl,-,-,-⟩:=hl.spec
 have HL:=Lib.hid hl
 clear hl
 go_enter Tryz.func81,Tryz.ntmps81
 go_wp2_with fail
 go_loopw [3,8] (fun av iv W=>∃ k:Nat,k≤l.length∧iv = .int .i64 k∧av = .int .i64 (zax l k:Nat)∧W=w) (fun _ iv _=>l.length - (intOf iv).toNat)
 case atStart=>exact ⟨0,by omega,rfl,rfl,rfl⟩
 case round =>
  obtain ⟨k,hk,rfl,rfl,rfl⟩:=hrel
  have hbk:=zua l k
  have hbs:zax l (k+1)=if l.getD k 0 < l.getD (zax l k) 0 then k else zax l k:=rfl
  by_cases hlt:k < l.length
  ·have hki:(k:Int) < (l.length:Int):=by omega
   obtain ⟨lb,lo,rfl,hcl⟩:=zn6 HL.out hlt
   obtain ⟨a,ha⟩:∃ a,a=zax l k:=⟨_,rfl⟩
   rw [← ha] at hbs hbk ⊢
   have cl:=hcl k hlt _ (Below.refl _ _)
   have ca:=hcl a (by omega) _ (Below.refl _ _)
   have zl:=World.block_lt_of_cell? _ _ cl
   simp only at zl
   have hai:(a:Int) < (l.length:Int):=by omega
   have hal:a < l.length:=by omega
   obtain ⟨x,hx⟩:∃ x,x=l.getD k 0:=⟨_,rfl⟩
   obtain ⟨y,hy⟩:∃ y,y=l.getD a 0:=⟨_,rfl⟩
   rw [← hx] at cl hbs
   rw [← hy] at ca hbs
   clear hcl hx hy ha
   by_cases hxy:x < y
   ·have hxd:decide (x < y)=true:=decide_eq_true hxy
    rw [if_pos hxy] at hbs
    have HBS:=Lib.hid hbs
    clear hbs
    go_wp2_with fail
    go_roundw
    case rel=>exact ⟨k+1,by omega,by go_num,by rw [HBS.out],trivial⟩
    case measure=>simp [intOf];omega
   ·have hxd:decide (x < y)=false:=decide_eq_false hxy
    rw [if_neg hxy] at hbs
    have HBS:=Lib.hid hbs
    clear hbs
    go_wp2_with fail
    go_roundw
    case rel=>exact ⟨k+1,by omega,by go_num,by rw [HBS.out],trivial⟩
    case measure=>simp [intOf];omega
  ·have hki:¬ ((k:Int) < (l.length:Int)):=by omega
   obtain ⟨a,ha⟩:∃ a,a=zax l k:=⟨_,rfl⟩
   rw [← ha]
   have HA:Hid (a=zax l l.length):=Lib.hid (by rw [ha,show k=l.length by omega])
   clear ha hbk hbs
   go_wp2_with fail
   go_ret
   exact ⟨zy (by rw [HA.out]),Below.refl _ _⟩
set_option maxRecDepth 100000 in
set_option maxHeartbeats 1000000 in
theorem zyg (u:Int) (sa:Option Addr) (n c:Nat) (w:World) :
  Calls Tryz.prog 7 #[.int .i64 u,.slice sa n c] w fun e w'=>e = .returned (.agg #[.slice sa n c,.int .i64 u])∧Ext w w':=by
 go_enter Tryz.func7,Tryz.ntmps7
 go_wp2_with fail
 refine bodyPost_ret (v:=.agg #[.slice sa n c,.int .i64 u]) (by simp [results,Tryz.results7,go_sem]) rfl ?_
 exact ⟨rfl,xx⟩
set_option maxRecDepth 100000 in
set_option maxHeartbeats 2000000 in
theorem z3w (a b:Int) (av bv:Value) (w:World) (ha:IsInts w .i64 av [a]) (hb:IsInts w .i64 bv [b]) :
  Calls Tryz.prog 12 #[av,bv] w fun e w'=>e = .returned (.bool (a == b))∧Ext w w':=by
 obtain ⟨aa,ac,rfl,-,-,-⟩:=ha.spec
 obtain ⟨ba,bc,rfl,-,-,-⟩:=hb.spec
 obtain ⟨ab,ao,rfl,hca⟩:=zn6 ha (i:=0) (by simp)
 obtain ⟨bb,bo,rfl,hcb⟩:=zn6 hb (i:=0) (by simp)
 have c0:=hca 0 (by simp) w (Below.refl _ _)
 have c1:=hcb 0 (by simp) w (Below.refl _ _)
 simp only [List.getD_cons_zero,Nat.add_zero] at c0 c1
 have z0:=World.block_lt_of_cell? _ _ c0
 have z1:=World.block_lt_of_cell? _ _ c1
 simp only at z0 z1
 clear hca hcb ha hb
 simp only [List.length_cons,List.length_nil]
 go_enter Tryz.func12,Tryz.ntmps12
 go_wp2_with fail
 go_loopw [5] (fun iv W=>∃ k:Nat,k≤1∧iv = .int .i64 k∧Ext w W∧(k=1→a=b)) (fun iv _=>1 - (intOf iv).toNat)
 case atStart=>exact ⟨0,by omega,rfl,Below.refl _ _,by omega⟩
 case round =>
  obtain ⟨k,hk,rfl,hE0,hab⟩:=hrel
  obtain ⟨X,rfl⟩:∃ X,X=wr:=⟨_,rfl⟩
  replace c0:=zb hE0 c0
  replace c1:=zb hE0 c1
  replace z0:=World.block_lt_of_cell? _ _ c0
  replace z1:=World.block_lt_of_cell? _ _ c1
  simp only at z0 z1
  have HE0:=Lib.hid hE0
  clear hE0
  by_cases hk1:k=1
  ·subst hk1
   have he:(a == b)=true:=by rw [beq_iff_eq];exact hab rfl
   have HE:=Lib.hid he
   clear he hab
   go_wp2_with fail
   go_ret
   exact ⟨zac HE.out.symm,HE0.out⟩
  ·have hk0:k=0:=by omega
   have c0:X.cell? ⟨ab,ao+k,none⟩=some (.int .i64 a):=by rw [hk0];exact c0
   have c1:X.cell? ⟨bb,bo+k,none⟩=some (.int .i64 b):=by rw [hk0];exact c1
   have hki:(k:Int) < 1:=by omega
   have hkn:k < 1:=by omega
   have HK0:=Lib.hid hk0
   clear hab hk hk1 hk0
   obtain ⟨q,hq⟩:∃ q,(a != b)=q:=⟨_,rfl⟩
   have HQ:=Lib.hid hq
   clear hq
   go_upto_region 6 with (fail)
   refine za0 (X.heap.size) (Nat.le_refl _)
    [sqV (.slice (some ⟨ab,ao,none⟩) 1 ac),sqV (.int .i64 k),sqV (.pointer (some ⟨ab,ao+k,none⟩)),sqV (.int .i64 a),sqV (.slice (some ⟨bb,bo,none⟩) 1 bc),sqV (.int .i64 k),sqV (.pointer (some ⟨bb,bo+k,none⟩)),sqV (.int .i64 b),sqV (.bool q)]
    [true,true,true,true,true,true,true,true,true] [false,false,false,false,false,false,false,false,false] [true,true,true,true,true,true,true,true,true] [true,true,true,true,true,true,true,true,true]
    (by kernel_rfl) (by kernel_rfl) (by decide +kernel) (by decide +kernel) (by decide +kernel) rfl ⟨rfl,rfl⟩ ⟨?s0,?s1,?s2,?s3,?s4,?s5,?s6,?s7,?s8,trivial⟩ [some 17,some 18,some 19,some 20,some 21,some 22,some 23,some 24,some 25] rfl rfl ?send
   case s0 =>
    intro val ρ W hE hz hd hA hx
    have o0:ρ (.tmp 0) = .slice (some ⟨ab,ao,none⟩) 1 ac:=hA.old 0 (by decide)
    clear hd
    exact zd (W':=W) (by simp [execOp,o0,go_sem]) (Below.refl _ _) rfl
   case s1 =>
    intro val ρ W hE hz hd hA hx
    have o0:ρ (.tmp 5) = .int .i64 k:=hA.old 5 (by decide)
    clear hd
    exact zd (W':=W) (by simp [execOp,o0,go_sem]) (Below.refl _ _) rfl
   case s2 =>
    intro val ρ W hE hz hd hA hx
    have d0:ρ (.tmp 17) = .slice (some ⟨ab,ao,none⟩) 1 ac:=(hA.dep 0 (by decide) 17 rfl).trans (hd 0 (by decide))
    have d1:ρ (.tmp 18) = .int .i64 k:=(hA.dep 1 (by decide) 18 rfl).trans (hd 1 (by decide))
    clear hd
    exact zd (W':=W) (by simp [execOp,d0,d1,hki,go_sem]) (Below.refl _ _) rfl
   case s3 =>
    intro val ρ W hE hz hd hA hx
    have d2:ρ (.tmp 19) = .pointer (some ⟨ab,ao+k,none⟩):=(hA.dep 2 (by decide) 19 rfl).trans (hd 2 (by decide))
    have f_c0:=cell_below hE (by simp only;omega) c0
    clear hd
    exact zd (W':=W) (by simp [execOp,d2,f_c0,go_sem]) (Below.refl _ _) rfl
   case s4 =>
    intro val ρ W hE hz hd hA hx
    have o0:ρ (.tmp 1) = .slice (some ⟨bb,bo,none⟩) 1 bc:=hA.old 1 (by decide)
    clear hd
    exact zd (W':=W) (by simp [execOp,o0,go_sem]) (Below.refl _ _) rfl
   case s5 =>
    intro val ρ W hE hz hd hA hx
    have o0:ρ (.tmp 5) = .int .i64 k:=hA.old 5 (by decide)
    clear hd
    exact zd (W':=W) (by simp [execOp,o0,go_sem]) (Below.refl _ _) rfl
   case s6 =>
    intro val ρ W hE hz hd hA hx
    have d4:ρ (.tmp 21) = .slice (some ⟨bb,bo,none⟩) 1 bc:=(hA.dep 4 (by decide) 21 rfl).trans (hd 4 (by decide))
    have d5:ρ (.tmp 22) = .int .i64 k:=(hA.dep 5 (by decide) 22 rfl).trans (hd 5 (by decide))
    clear hd
    exact zd (W':=W) (by simp [execOp,d4,d5,hki,go_sem]) (Below.refl _ _) rfl
   case s7 =>
    intro val ρ W hE hz hd hA hx
    have d6:ρ (.tmp 23) = .pointer (some ⟨bb,bo+k,none⟩):=(hA.dep 6 (by decide) 23 rfl).trans (hd 6 (by decide))
    have f_c1:=cell_below hE (by simp only;omega) c1
    clear hd
    exact zd (W':=W) (by simp [execOp,d6,f_c1,go_sem]) (Below.refl _ _) rfl
   case s8 =>
    intro val ρ W hE hz hd hA hx
    have d3:ρ (.tmp 20) = .int .i64 a:=(hA.dep 3 (by decide) 20 rfl).trans (hd 3 (by decide))
    have d7:ρ (.tmp 24) = .int .i64 b:=(hA.dep 7 (by decide) 24 rfl).trans (hd 7 (by decide))
    clear hd
    exact zd (W':=W) (by simp [execOp,d3,d7,HQ.out,go_sem]) (Below.refl _ _) rfl
   case send =>
    intro val WW hE hzz hv
    obtain ⟨-,-,-,-,-,-,-,-,r8,-⟩:=hv
    have q8:val 8 = .bool q:=r8
    simp only [putD,q8]
    go_frame
    have HE2:=Lib.hid (HE0.out.trans' hE)
    clear hE hzz q8 r8 c0 c1 z0 z1
    cases q
    ·have he:a=b:=by have:=HQ.out;simpa using this
     have HE:=Lib.hid he
     clear he
     go_wp2_with fail
     go_roundw
     case rel=>exact ⟨1,by omega,by rw [HK0.out];go_num,HE2.out,fun _=>HE.out⟩
     case measure=>simp [intOf];omega
    ·have heb:(a == b)=false:=by have:=HQ.out;rw [beq_eq_false_iff_ne];simpa using this
     have HEB:=Lib.hid heb
     clear heb
     go_wp2_with fail
     go_ret
     exact ⟨zac HEB.out.symm,HE2.out⟩
end Go.Proofs.YtkbaiobnibmmgaaGreat
namespace Go.Proofs.YtkbaiobnibmmgaaGreat
open Go.RowKit Go.Shelf
theorem zqe {P:Program} {B:Nat} {o:Oper} {ρ:Operand→Value} {W:World} {val:Nat→Value} {s:Sq} (f:FuncId) (x:Operand) (xs:Array Operand) (ats:Array TypeId) (first caps:Array Value) (h:o.op = .call { callee:=.value x,args:=xs,argTypes:=ats }) (args:Array Value) (hf:ρ x = .func (.func f) first caps) (ha:first ++ xs.map ρ ++ caps=args) (hc:∀ args W,(callFunc f args).run P W = .ok (.enter f args) W)
  (hs:Calls P f args W fun e W''=>∃ v,e = .returned v∧Ext W W''∧s.p (s.us.map val) (match o.dst with | some _=>v | none=>undef) W''):RunQ P B false o ρ W val s:=by
 obtain ⟨dst,op,type,pos,after,guard⟩:=o
 simp only at h
 subst h
 have e:execOp ρ { dst,op:=.call { callee:=.value x,args:=xs,argTypes:=ats },type,pos,after,guard }=callFunc f (first ++ xs.map ρ ++ caps):=by
  simp only [execOp,resolve,hf]
  rfl
 unfold RunQ
 rw [e,ha,hc]
 exact hs
end Go.Proofs.YtkbaiobnibmmgaaGreat
namespace Go.Proofs.YtkbaiobnibmmgaaGreat
open Go.RowKit Go.Shelf
attribute [local go_sem] Oper.semAt_some
set_option maxRecDepth 100000 in
set_option maxHeartbeats 1000000 in
theorem z55 (u:Int) (w:World) (h : -1000000≤u∧u≤1000000) :
  Calls Tryz.prog 36 #[.int .i64 u] w fun e w'=>e = .returned (.int .i64 (-u))∧Ext w w':=by
 have hn:IntKind.i64.wrap (-u) = -u:=IntWalk.i64_in _ (by omega)
 go_enter Tryz.func36,Tryz.ntmps36
 go_wp2_with fail
 go_ret
 exact ⟨rfl,Below.refl _ _⟩
set_option maxRecDepth 100000 in
set_option maxHeartbeats 4000000 in
theorem z1g (ps:List (Value × Tk)) (al:List Bool) (S V p:Nat) (kn vs:Value) (ra ta:Option Addr) (rcap tc:Nat) (w:World) (hs:SheetAt w p (.slice ra 1 rcap) (.slice ta ps.length tc)) (ht:IsTks w (.slice ta ps.length tc) ps) (hl:ps.length≤10) (hu:∀ j,0≤(zam (zn ps)).getD j 0∧(zam (zn ps)).getD j 0≤1000)
  (cS:w.cell? ⟨S,0,none⟩=some (.pointer (some ⟨p,0,none⟩))) (cV:w.cell? ⟨V,0,none⟩=some (.func (.func 36) #[] #[])) :
  Calls Tryz.prog 79 #[.agg (zbi 1 (mkI al)),.pointer (some ⟨S,0,none⟩),.pointer (some ⟨V,0,none⟩),kn,vs] w fun e w'=>e = .returned (.int .i64 (-(valB (zam (zn ps)) al ps.length)))∧Ext w w':=by
 have HS:=Lib.hid hs
 have HT:=Lib.hid ht
 have HU:=Lib.hid hu
 clear hs ht hu
 have hvb:=zs8 (al:=al) HU.out ps.length
 obtain ⟨x,hx⟩:∃ x,x=valB (zam (zn ps)) al ps.length:=⟨_,rfl⟩
 rw [← hx] at hvb ⊢
 have HX:=Lib.hid hx
 clear hx
 unfold zbi
 go_enter Tryz.func79,Tryz.ntmps79
 go_upto_region 1 with (fail)
 obtain ⟨F,hF⟩:∃ F,F=mkI al:=⟨_,rfl⟩
 have HFF:=Lib.hid hF
 rw [← hF]
 obtain ⟨Y,hY⟩:∃ Y,Y=w.alloc (.cells #[.int .i64 1,.int .i64 (F 0),.int .i64 (F 1),.int .i64 (F 2),.int .i64 (F 3),.int .i64 (F 4),.int .i64 (F 5),.int .i64 (F 6),.int .i64 (F 7),.int .i64 (F 8),.int .i64 (F 9)] 142):=⟨_,rfl⟩
 have hE1:Ext w Y:=by rw [hY];exact xx
 have hP:PlAt 142 Y w.heap.size 1 F:=by rw [hY];exact zd2 _ w 1 F
 obtain ⟨g,hg⟩:∃ g,g=w.heap.size:=⟨_,rfl⟩
 rw [← hY]
 rw [← hg] at hP ⊢
 obtain ⟨a0,a1,a2,a3,a4,a5,a6,a7,a8,a9,a10⟩:=hP.cells
 have hgz:=hP.lt
 have hsy:=HS.out.ext hE1
 have k0:=hsy.c0
 have hpz:=hsy.lt
 replace cS:=zb hE1 cS
 replace cV:=zb hE1 cV
 have zS:=World.block_lt_of_cell? _ _ cS
 have zV:=World.block_lt_of_cell? _ _ cV
 simp only at zS zV
 have HW:=Lib.hid hE1
 clear hF hY hE1 hP hg hsy
 refine za0 (Y.heap.size) (Nat.le_refl _)
  [sqV (.pointer (some ⟨g,0,none⟩)),sqV (.int .i64 1),sqV (.pointer (some ⟨p,0,none⟩)),sqV (.pointer (some ⟨p,0,none⟩)),sqV (.pointer (some ⟨p,0,none⟩)),sqV (.pointer (some ⟨p,0,none⟩)),sqV (.slice ra 1 rcap),sqV (.int .i64 1),sqV (.bool true)]
  [true,true,true,true,true,true,true,true,true] [false,false,false,false,false,false,false,false,false] [true,true,true,true,true,true,true,true,true] [true,true,true,true,true,true,true,true,true]
  (by kernel_rfl) (by kernel_rfl) (by decide +kernel) (by decide +kernel) (by decide +kernel) rfl ⟨rfl,rfl⟩ ⟨?s0,?s1,?s2,?s3,?s4,?s5,?s6,?s7,?s8,trivial⟩ [some 10,some 11,some 12,some 13,some 14,some 15,some 16,some 17,some 18] rfl rfl ?send
 case s0 =>
  intro val ρ W hE hz hd hA hx
  have o0:ρ (.tmp 5) = .pointer (some ⟨g,0,none⟩):=hA.old 5 (by decide)
  clear hd
  exact zd (W':=W) (by simp [execOp,o0,go_sem]) (Below.refl _ _) rfl
 case s1 =>
  intro val ρ W hE hz hd hA hx
  have d0:ρ (.tmp 10) = .pointer (some ⟨g,0,none⟩):=(hA.dep 0 (by decide) 10 rfl).trans (hd 0 (by decide))
  have f_a0:=cell_below hE (by simp only;omega) a0
  clear hd
  exact zd (W':=W) (by simp [execOp,d0,f_a0,go_sem]) (Below.refl _ _) rfl
 case s2 =>
  intro val ρ W hE hz hd hA hx
  have o0:ρ (.tmp 1) = .pointer (some ⟨S,0,none⟩):=hA.old 1 (by decide)
  have f_cS:=cell_below hE (by simp only;omega) cS
  clear hd
  exact zd (W':=W) (by simp [execOp,o0,f_cS,go_sem]) (Below.refl _ _) rfl
 case s3 =>
  intro val ρ W hE hz hd hA hx
  have d2:ρ (.tmp 12) = .pointer (some ⟨p,0,none⟩):=(hA.dep 2 (by decide) 12 rfl).trans (hd 2 (by decide))
  clear hd
  exact zd (W':=W) (by simp [execOp,d2,go_sem]) (Below.refl _ _) rfl
 case s4 =>
  intro val ρ W hE hz hd hA hx
  have d3:ρ (.tmp 13) = .pointer (some ⟨p,0,none⟩):=(hA.dep 3 (by decide) 13 rfl).trans (hd 3 (by decide))
  clear hd
  exact zd (W':=W) (by simp [execOp,d3,go_sem]) (Below.refl _ _) rfl
 case s5 =>
  intro val ρ W hE hz hd hA hx
  have d4:ρ (.tmp 14) = .pointer (some ⟨p,0,none⟩):=(hA.dep 4 (by decide) 14 rfl).trans (hd 4 (by decide))
  clear hd
  exact zd (W':=W) (by simp [execOp,d4,go_sem]) (Below.refl _ _) rfl
 case s6 =>
  intro val ρ W hE hz hd hA hx
  have d5:ρ (.tmp 15) = .pointer (some ⟨p,0,none⟩):=(hA.dep 5 (by decide) 15 rfl).trans (hd 5 (by decide))
  have f_k0:=cell_below hE (by simp only;omega) k0
  clear hd
  exact zd (W':=W) (by simp [execOp,d5,f_k0,go_sem]) (Below.refl _ _) rfl
 case s7 =>
  intro val ρ W hE hz hd hA hx
  have d6:ρ (.tmp 16) = .slice ra 1 rcap:=(hA.dep 6 (by decide) 16 rfl).trans (hd 6 (by decide))
  clear hd
  exact zd (W':=W) (by simp [d6,go_sem]) (Below.refl _ _) rfl
 case s8 =>
  intro val ρ W hE hz hd hA hx
  have d1:ρ (.tmp 11) = .int .i64 1:=(hA.dep 1 (by decide) 11 rfl).trans (hd 1 (by decide))
  have d7:ρ (.tmp 17) = .int .i64 1:=(hA.dep 7 (by decide) 17 rfl).trans (hd 7 (by decide))
  clear hd
  exact zd (W':=W) (by simp [execOp,d1,d7,go_sem]) (Below.refl _ _) rfl
 case send =>
  intro val W1 hE hzz hv
  obtain ⟨-,-,-,-,-,-,-,-,r8,-⟩:=hv
  have q8:val 8 = .bool true:=r8
  simp only [putD,q8]
  go_frame
  replace cS:=zb hE cS
  replace cV:=zb hE cV
  replace a1:=zb hE a1
  replace a2:=zb hE a2
  replace a3:=zb hE a3
  replace a4:=zb hE a4
  replace a5:=zb hE a5
  replace a6:=zb hE a6
  replace a7:=zb hE a7
  replace a8:=zb hE a8
  replace a9:=zb hE a9
  replace a10:=zb hE a10
  have hgz:=World.block_lt_of_cell? _ _ a1
  have zS:=World.block_lt_of_cell? _ _ cS
  have zV:=World.block_lt_of_cell? _ _ cV
  simp only at zS zV hgz
  have HW2:=Lib.hid (HW.out.trans' hE)
  clear hE hzz q8 r8 a0 k0 hpz
  have hval:∀ W,Ext W1 W→Calls Tryz.prog 80 #[.pointer (some ⟨p,0,none⟩),.agg #[.int .i64 (F 0),.int .i64 (F 1),.int .i64 (F 2),.int .i64 (F 3),.int .i64 (F 4),.int .i64 (F 5),.int .i64 (F 6),.int .i64 (F 7),.int .i64 (F 8),.int .i64 (F 9)]] W fun e w'=>e = .returned (.int .i64 x)∧Ext W w':=fun W hW=>by
   rw [HFF.out,HX.out]
   exact z1d ps al p _ ta tc W (HS.out.ext (HW2.out.trans' hW)) (HT.out.ext (HW2.out.trans' hW)) hl HU.out
  have HVAL:=Lib.hid hval
  clear hval
  go_upto_region 2 with (fail)
  refine zas rfl rfl (by kernel_rfl) (W1.heap.size) (Nat.le_refl _)
   [sqV (.func (.func 36) #[] #[]),sqV (.pointer (some ⟨p,0,none⟩)),sqV (.pointer (some ⟨g,1,none⟩)),sqV (.agg #[.int .i64 (F 0),.int .i64 (F 1),.int .i64 (F 2),.int .i64 (F 3),.int .i64 (F 4),.int .i64 (F 5),.int .i64 (F 6),.int .i64 (F 7),.int .i64 (F 8),.int .i64 (F 9)]),sqV (.int .i64 x),sqW (fun v W=>v=Value.int .i64 (-x)) (fun _ _ _ h _=>h)]
   [true,true,true,true,true,false] [false,false,false,false,false,false] [true,true,true,true,true,true] [true,true,true,true,true,true]
   (by kernel_rfl) (by kernel_rfl) (by decide +kernel) (by decide +kernel) (by decide +kernel) rfl ⟨rfl,rfl⟩ ⟨?s0,?s1,?s2,?s3,?s4,?s5,trivial⟩ [some 19,some 20,some 21,some 22,some 23,some 24] rfl rfl ?send
  case s0 =>
   intro val ρ W hE hz hd hA hx
   have o0:ρ (.tmp 2) = .pointer (some ⟨V,0,none⟩):=hA.old 2 (by decide)
   have f_cV:=cell_below hE (by simp only;omega) cV
   clear hd
   exact zd (W':=W) (by simp [execOp,o0,f_cV,go_sem]) (Below.refl _ _) rfl
  case s1 =>
   intro val ρ W hE hz hd hA hx
   have o0:ρ (.tmp 1) = .pointer (some ⟨S,0,none⟩):=hA.old 1 (by decide)
   have f_cS:=cell_below hE (by simp only;omega) cS
   clear hd
   exact zd (W':=W) (by simp [execOp,o0,f_cS,go_sem]) (Below.refl _ _) rfl
  case s2 =>
   intro val ρ W hE hz hd hA hx
   have o0:ρ (.tmp 5) = .pointer (some ⟨g,0,none⟩):=hA.old 5 (by decide)
   clear hd
   exact zd (W':=W) (by simp [execOp,o0,go_sem]) (Below.refl _ _) rfl
  case s3 =>
   intro val ρ W hE hz hd hA hx
   have d2:ρ (.tmp 21) = .pointer (some ⟨g,1,none⟩):=(hA.dep 2 (by decide) 21 rfl).trans (hd 2 (by decide))
   have f_a1:=cell_below hE (by simp only;omega) a1
   have f_a2:=cell_below hE (by simp only;omega) a2
   have f_a3:=cell_below hE (by simp only;omega) a3
   have f_a4:=cell_below hE (by simp only;omega) a4
   have f_a5:=cell_below hE (by simp only;omega) a5
   have f_a6:=cell_below hE (by simp only;omega) a6
   have f_a7:=cell_below hE (by simp only;omega) a7
   have f_a8:=cell_below hE (by simp only;omega) a8
   have f_a9:=cell_below hE (by simp only;omega) a9
   have f_a10:=cell_below hE (by simp only;omega) a10
   clear hd
   exact zd (W':=W) (by simp [execOp,d2,f_a1,f_a2,f_a3,f_a4,f_a5,f_a6,f_a7,f_a8,f_a9,f_a10,go_sem]) (Below.refl _ _) rfl
  case s4 =>
   intro val ρ W hE hz hd hA hx
   have d1:ρ (.tmp 20) = .pointer (some ⟨p,0,none⟩):=(hA.dep 1 (by decide) 20 rfl).trans (hd 1 (by decide))
   have d3:ρ (.tmp 22) = .agg #[.int .i64 (F 0),.int .i64 (F 1),.int .i64 (F 2),.int .i64 (F 3),.int .i64 (F 4),.int .i64 (F 5),.int .i64 (F 6),.int .i64 (F 7),.int .i64 (F 8),.int .i64 (F 9)]:=(hA.dep 3 (by decide) 22 rfl).trans (hd 3 (by decide))
   clear hd
   refine zby 80 _ _ rfl #[.pointer (some ⟨p,0,none⟩),.agg #[.int .i64 (F 0),.int .i64 (F 1),.int .i64 (F 2),.int .i64 (F 3),.int .i64 (F 4),.int .i64 (F 5),.int .i64 (F 6),.int .i64 (F 7),.int .i64 (F 8),.int .i64 (F 9)]] (hA.func _) (by simp [d1,d3]) (fun args W=>Tryz.call80 args W) ((HVAL.out W (hx (by decide))).mono ?_)
   rintro e w' ⟨rfl,hb⟩
   exact ⟨_,rfl,hb,rfl⟩
  case s5 =>
   intro val ρ W hE hz hd hA hx
   have d0:ρ (.tmp 19) = .func (.func 36) #[] #[]:=(hA.dep 0 (by decide) 19 rfl).trans (hd 0 (by decide))
   have d4:ρ (.tmp 23) = .int .i64 x:=(hA.dep 4 (by decide) 23 rfl).trans (hd 4 (by decide))
   refine zqe 36 _ _ _ #[] #[] rfl #[.int .i64 x] d0 (by simp [d4]) (fun args W=>Tryz.call36 args W) ((z55 x W (by omega)).mono ?_)
   rintro e w' ⟨rfl,hb⟩
   exact ⟨_,rfl,hb,rfl⟩
  case send =>
   intro val W2 hE hzz hv
   obtain ⟨-,-,-,-,-,r5,-⟩:=hv
   have q5:val 5 = .int .i64 (-x):=r5
   simp only [putD,q5]
   go_frame
   have HW3:=Lib.hid (HW2.out.trans' hE)
   clear hE hzz q5 r5
   go_wp2_with fail
   go_ret
   exact ⟨rfl,HW3.out⟩
theorem z9m:El 143 2 1:=El.mk' (bytes:=8) (z:=.int .i64 0) (by kernel_rfl) (by kernel_rfl) rfl (by omega) (by omega)
def leftB (ps:List (Value × Tk)) (al:List Bool) (r:Nat):Int:=-(valB (zam (zn ps)) (zcd (zbt (zn ps)) 0 al r) ps.length)
def zbp (ps:List (Value × Tk)) (al:List Bool) (n:Nat):List Int:=(List.range n).map (leftB ps al)
theorem z1h (ps:List (Value × Tk)) (al:List Bool) (n:Nat):zbp ps al (n+1)=zbp ps al n ++ [leftB ps al n]:=by
 unfold zbp
 rw [List.range_succ,List.map_append];rfl
set_option maxRecDepth 100000 in
set_option maxHeartbeats 8000000 in
theorem zyh (ps:List (Value × Tk)) (al:List Bool) (n S V L N p:Nat) (kn vs:Value) (ra ta:Option Addr) (rcap tc:Nat) (w:World) (hs:SheetAt w p (.slice ra 1 rcap) (.slice ta ps.length tc)) (hr:IsInts w .i64 (.slice ra 1 rcap) (natL [n])) (hn:n≤6) (ht:IsTks w (.slice ta ps.length tc) ps) (hl:ps.length≤10) (hu:∀ j,0≤(zam (zn ps)).getD j 0∧(zam (zn ps)).getD j 0≤1000)
  (hlen:∀ x∈ps,x.2.s.length=1) (hle:∀ x∈ps,∀ r,r < 1→x.2.s.getD r 0≤64)
  (cS:w.cell? ⟨S,0,none⟩=some (.pointer (some ⟨p,0,none⟩))) (cV:w.cell? ⟨V,0,none⟩=some (.func (.func 36) #[] #[])) (cL:w.cell? ⟨L,0,none⟩=some (.func (.func 79) #[] #[.pointer (some ⟨S,0,none⟩),.pointer (some ⟨V,0,none⟩),kn,vs])) (cN:w.cell? ⟨N,0,none⟩=some (.func (.func 77) #[.pointer (some ⟨p,0,none⟩)] #[])) :
  Calls Tryz.prog 78 #[.agg (zbi 0 (mkI al)),.pointer (some ⟨S,0,none⟩),.pointer (some ⟨L,0,none⟩),.pointer (some ⟨N,0,none⟩)] w fun e w'=>∃ v,e = .returned v∧Ext w w'∧IsInts w' .i64 v (zbp ps al n):=by
 have HS:=Lib.hid hs
 have HT:=Lib.hid ht
 have HU:=Lib.hid hu
 obtain ⟨rb,ro,rfl,hcr⟩:=zcu hr (i:=0) (by simp)
 have cr:=hcr 0 (by simp) w (Below.refl _ _)
 simp only [List.getD_cons_zero,Nat.add_zero] at cr
 have HLEN:=Lib.hid hlen
 have HLE:=Lib.hid hle
 clear hs ht hu hr hcr hlen hle
 unfold zbi
 go_enter Tryz.func78,Tryz.ntmps78
 go_upto_region 2 with (fail)
 obtain ⟨F,hF⟩:∃ F,F=mkI al:=⟨_,rfl⟩
 have HFF:=Lib.hid hF
 rw [← hF]
 obtain ⟨Y,hY⟩:∃ Y,Y=w.alloc (.cells #[.int .i64 0,.int .i64 (F 0),.int .i64 (F 1),.int .i64 (F 2),.int .i64 (F 3),.int .i64 (F 4),.int .i64 (F 5),.int .i64 (F 6),.int .i64 (F 7),.int .i64 (F 8),.int .i64 (F 9)] 142):=⟨_,rfl⟩
 have hE1:Ext w Y:=by rw [hY];exact xx
 have hP:PlAt 142 Y w.heap.size 0 F:=by rw [hY];exact zd2 _ w 0 F
 have hys:Y.heap.size=w.heap.size+1:=by rw [hY];simp
 obtain ⟨g,hg⟩:∃ g,g=w.heap.size:=⟨_,rfl⟩
 rw [← hY]
 rw [← hg] at hP hys ⊢
 obtain ⟨a0,a1,a2,a3,a4,a5,a6,a7,a8,a9,a10⟩:=hP.cells
 have hgz:=hP.lt
 have hsy:=HS.out.ext hE1
 have k0:=hsy.c0
 have hpz:=hsy.lt
 replace cr:=zb hE1 cr
 replace cS:=zb hE1 cS
 replace cV:=zb hE1 cV
 replace cL:=zb hE1 cL
 replace cN:=zb hE1 cN
 have zr:=World.block_lt_of_cell? _ _ cr
 have zS:=World.block_lt_of_cell? _ _ cS
 simp only at zr zS
 have HP:=Lib.hid hP
 have HW:=Lib.hid hE1
 have HCS:=Lib.hid cS
 have HCV:=Lib.hid cV
 have HCL:=Lib.hid cL
 have HCN:=Lib.hid cN
 have HYS:=Lib.hid hys
 clear hF hY hE1 hP hg hsy cV cL cN hys
 refine za0 (Y.heap.size) (Nat.le_refl _)
  [sqV (.pointer (some ⟨p,0,none⟩)),sqV (.pointer (some ⟨p,0,none⟩)),sqV (.pointer (some ⟨p,0,none⟩)),sqV (.pointer (some ⟨p,0,none⟩)),sqV (.slice (some ⟨rb,ro,none⟩) 1 rcap),sqV (.pointer (some ⟨g,0,none⟩)),sqV (.int .i64 0),sqV (.pointer (some ⟨rb,ro,none⟩)),sqV (.int .i64 n),sqV (.int .i64 0)]
  [true,true,true,true,true,true,true,true,true,true] [false,false,false,false,false,false,false,false,false,false] [true,true,true,true,true,true,true,true,true,true] [true,true,true,true,true,true,true,true,true,true]
  (by kernel_rfl) (by kernel_rfl) (by decide +kernel) (by decide +kernel) (by decide +kernel) rfl ⟨rfl,rfl⟩ ⟨?s0,?s1,?s2,?s3,?s4,?s5,?s6,?s7,?s8,?s9,trivial⟩ [some 8,some 9,some 10,some 11,some 12,some 13,some 14,some 15,some 16,some 17] rfl rfl ?send
 case s0 =>
  intro val ρ W hE hz hd hA hx
  have o0:ρ (.tmp 1) = .pointer (some ⟨S,0,none⟩):=hA.old 1 (by decide)
  have f_cS:=cell_below hE (by simp only;omega) cS
  clear hd
  exact zd (W':=W) (by simp [execOp,o0,f_cS,go_sem]) (Below.refl _ _) rfl
 case s1 =>
  intro val ρ W hE hz hd hA hx
  have d0:ρ (.tmp 8) = .pointer (some ⟨p,0,none⟩):=(hA.dep 0 (by decide) 8 rfl).trans (hd 0 (by decide))
  clear hd
  exact zd (W':=W) (by simp [execOp,d0,go_sem]) (Below.refl _ _) rfl
 case s2 =>
  intro val ρ W hE hz hd hA hx
  have d1:ρ (.tmp 9) = .pointer (some ⟨p,0,none⟩):=(hA.dep 1 (by decide) 9 rfl).trans (hd 1 (by decide))
  clear hd
  exact zd (W':=W) (by simp [execOp,d1,go_sem]) (Below.refl _ _) rfl
 case s3 =>
  intro val ρ W hE hz hd hA hx
  have d2:ρ (.tmp 10) = .pointer (some ⟨p,0,none⟩):=(hA.dep 2 (by decide) 10 rfl).trans (hd 2 (by decide))
  clear hd
  exact zd (W':=W) (by simp [execOp,d2,go_sem]) (Below.refl _ _) rfl
 case s4 =>
  intro val ρ W hE hz hd hA hx
  have d3:ρ (.tmp 11) = .pointer (some ⟨p,0,none⟩):=(hA.dep 3 (by decide) 11 rfl).trans (hd 3 (by decide))
  have f_k0:=cell_below hE (by simp only;omega) k0
  clear hd
  exact zd (W':=W) (by simp [execOp,d3,f_k0,go_sem]) (Below.refl _ _) rfl
 case s5 =>
  intro val ρ W hE hz hd hA hx
  have o0:ρ (.tmp 4) = .pointer (some ⟨g,0,none⟩):=hA.old 4 (by decide)
  clear hd
  exact zd (W':=W) (by simp [execOp,o0,go_sem]) (Below.refl _ _) rfl
 case s6 =>
  intro val ρ W hE hz hd hA hx
  have d5:ρ (.tmp 13) = .pointer (some ⟨g,0,none⟩):=(hA.dep 5 (by decide) 13 rfl).trans (hd 5 (by decide))
  have f_a0:=cell_below hE (by simp only;omega) a0
  clear hd
  exact zd (W':=W) (by simp [execOp,d5,f_a0,go_sem]) (Below.refl _ _) rfl
 case s7 =>
  intro val ρ W hE hz hd hA hx
  have d4:ρ (.tmp 12) = .slice (some ⟨rb,ro,none⟩) 1 rcap:=(hA.dep 4 (by decide) 12 rfl).trans (hd 4 (by decide))
  have d6:ρ (.tmp 14) = .int .i64 0:=(hA.dep 6 (by decide) 14 rfl).trans (hd 6 (by decide))
  clear hd
  exact zd (W':=W) (by simp [execOp,d4,d6,go_sem]) (Below.refl _ _) rfl
 case s8 =>
  intro val ρ W hE hz hd hA hx
  have d7:ρ (.tmp 15) = .pointer (some ⟨rb,ro,none⟩):=(hA.dep 7 (by decide) 15 rfl).trans (hd 7 (by decide))
  have f_cr:=cell_below hE (by simp only;omega) cr
  clear hd
  exact zd (W':=W) (by simp [execOp,d7,f_cr,go_sem]) (Below.refl _ _) rfl
 case s9 =>
  intro val ρ W hE hz hd hA hx
  clear hd
  exact zd (W':=W) (by simp [execOp,hA.const,go_sem]) (Below.refl _ _) rfl
 case send =>
  intro val W1 hE hzz hv
  obtain ⟨r0,r1,r2,r3,r4,r5,r6,r7,r8,r9,-⟩:=hv
  have q0:val 0 = .pointer (some ⟨p,0,none⟩):=r0
  have q1:val 1 = .pointer (some ⟨p,0,none⟩):=r1
  have q2:val 2 = .pointer (some ⟨p,0,none⟩):=r2
  have q3:val 3 = .pointer (some ⟨p,0,none⟩):=r3
  have q4:val 4 = .slice (some ⟨rb,ro,none⟩) 1 rcap:=r4
  have q5:val 5 = .pointer (some ⟨g,0,none⟩):=r5
  have q6:val 6 = .int .i64 0:=r6
  have q7:val 7 = .pointer (some ⟨rb,ro,none⟩):=r7
  have q8:val 8 = .int .i64 n:=r8
  have q9:val 9 = .int .i64 0:=r9
  simp only [putD,q0,q1,q2,q3,q4,q5,q6,q7,q8,q9]
  go_frame
  have HEY:=Lib.hid hE
  clear hE hzz r0 r1 r2 r3 r4 r5 r6 r7 r8 r9 q0 q1 q2 q3 q4 q5 q6 q7 q8 q9 a0 a1 a2 a3 a4 a5 a6 a7 a8 a9 a10 k0 cr cS zr zS hgz hpz
  go_wp2_with fail
  go_loopw [6,17] (fun ov iv W=>∃ k:Nat,k≤n∧iv = .int .i64 k∧Owns W (g+1) 2 1 ov ((zbp ps al k).map iRow)∧Ext Y W) (fun _ iv _=>n - (intOf iv).toNat)
  case atStart=>exact ⟨0,by omega,rfl,Owns.nil _ _ _ _,HEY.out⟩
  case round =>
   obtain ⟨k,hk,rfl,ho,hEX⟩:=hrel
   obtain ⟨X,rfl⟩:∃ X,X=wr:=⟨_,rfl⟩
   have HO:=Lib.hid ho
   have HE:=Lib.hid hEX
   obtain ⟨oa,on,oc,rfl⟩:=ho.isSlice
   by_cases hlt:k < n
   ·have hki:(k:Int) < (n:Int):=by omega
    have hXs:g+1≤X.heap.size:=by have:=hEX.size;have:=HYS.out;omega
    have cL:=zb hEX HCL.out
    have cN:=zb hEX HCN.out
    have zL:=World.block_lt_of_cell? _ _ HCL.out
    have zN:=World.block_lt_of_cell? _ _ HCN.out
    rw [HYS.out] at zL zN
    simp only at zL zN
    have hPX:=HP.out.ext hEX
    obtain ⟨a0,a1,a2,a3,a4,a5,a6,a7,a8,a9,a10⟩:=hPX.cells
    have hsu:=z1h ps al k
    obtain ⟨x,hx⟩:∃ x,x=leftB ps al k:=⟨_,rfl⟩
    rw [← hx] at hsu
    obtain ⟨G,hG⟩:∃ G,G=mkI (zcd (zbt (zn ps)) 0 al k):=⟨_,rfl⟩
    have HSU:Hid ((zbp ps al (k+1)).map iRow=(zbp ps al k).map iRow ++ [[.int .i64 x]]):=Lib.hid (by rw [hsu,List.map_append];rfl)
    have hnx:∀ W,Ext X W→Calls Tryz.prog 77 #[.pointer (some ⟨p,0,none⟩),.agg #[.int .i64 0,.int .i64 (F 0),.int .i64 (F 1),.int .i64 (F 2),.int .i64 (F 3),.int .i64 (F 4),.int .i64 (F 5),.int .i64 (F 6),.int .i64 (F 7),.int .i64 (F 8),.int .i64 (F 9)],.int .i64 k] W fun e w'=>e = .returned (.agg #[.int .i64 1,.int .i64 (G 0),.int .i64 (G 1),.int .i64 (G 2),.int .i64 (G 3),.int .i64 (G 4),.int .i64 (G 5),.int .i64 (G 6),.int .i64 (G 7),.int .i64 (G 8),.int .i64 (G 9)])∧Ext W w':=fun W hW=>by
     rw [HFF.out,hG]
     have hE2:=HW.out.trans' (HE.out.trans' hW)
     exact zxn ps al 0 k 1 p _ ta tc W (HS.out.ext hE2) (HT.out.ext hE2) hl (by omega) (by omega) HLEN.out HLE.out (by omega)
    have hls:∀ W,Ext X W→Calls Tryz.prog 79 #[.agg #[.int .i64 1,.int .i64 (G 0),.int .i64 (G 1),.int .i64 (G 2),.int .i64 (G 3),.int .i64 (G 4),.int .i64 (G 5),.int .i64 (G 6),.int .i64 (G 7),.int .i64 (G 8),.int .i64 (G 9)],.pointer (some ⟨S,0,none⟩),.pointer (some ⟨V,0,none⟩),kn,vs] W fun e w'=>e = .returned (.int .i64 x)∧Ext W w':=fun W hW=>by
     rw [hG,hx]
     have hE1:=HE.out.trans' hW
     have hE2:=HW.out.trans' hE1
     exact z1g ps _ S V p kn vs _ ta rcap tc W (HS.out.ext hE2) (HT.out.ext hE2) hl HU.out (zb hE1 HCS.out) (zb hE1 HCV.out)
    have HNX:=Lib.hid hnx
    have HLS:=Lib.hid hls
    have HLEN9:Hid (((zbp ps al k).map iRow).length + [[Value.int .i64 x]].length≤1000000):=Lib.hid (by simp [zbp];omega)
    clear hnx hls hG hx hsu ho hPX hEX
    go_upto_region 5 with (fail)
    refine zas rfl rfl (by kernel_rfl) (g+1) (hXs)
     [sqV (.slice oa on oc),sqV (.func (.func 79) #[] #[.pointer (some ⟨S,0,none⟩),.pointer (some ⟨V,0,none⟩),kn,vs]),sqV (.func (.func 77) #[.pointer (some ⟨p,0,none⟩)] #[]),sqV (.agg #[.int .i64 0,.int .i64 (F 0),.int .i64 (F 1),.int .i64 (F 2),.int .i64 (F 3),.int .i64 (F 4),.int .i64 (F 5),.int .i64 (F 6),.int .i64 (F 7),.int .i64 (F 8),.int .i64 (F 9)]),sqV (.int .i64 k),sqV (.agg #[.int .i64 1,.int .i64 (G 0),.int .i64 (G 1),.int .i64 (G 2),.int .i64 (G 3),.int .i64 (G 4),.int .i64 (G 5),.int .i64 (G 6),.int .i64 (G 7),.int .i64 (G 8),.int .i64 (G 9)]),sqV (.int .i64 x),sqW (fun v W=>∃ b,v = .slice (some ⟨b,0,none⟩) 1 1∧RowsAt W 1 b 0 ([[Value.int .i64 x]])) (fun _ _ _ ⟨b,h1,h2⟩ e=>⟨b,h1,h2.ext e⟩),sqW (fun v W=>Owns W (g+1) 2 1 v ((zbp ps al k).map iRow ++ [[.int .i64 x]])) (fun _ _ _ h e=>h.ext e)]
     [true,true,true,true,true,true,true,false,false] [false,false,false,false,false,false,false,false,true] [true,true,true,true,true,true,true,false,true] [true,true,true,true,true,true,true,true,true]
     (by kernel_rfl) (by kernel_rfl) (by decide +kernel) (by decide +kernel) (by decide +kernel) rfl ⟨rfl,rfl⟩ ⟨?s0,?s1,?s2,?s3,?s4,?s5,?s6,?s7,?s8,trivial⟩ [some 20,some 21,some 22,some 23,some 24,some 25,some 26,some 27,some 28] rfl rfl ?send
    case s0 =>
     intro val ρ W hE hz hd hA hx
     have o0:ρ (.tmp 6) = .slice oa on oc:=hA.old 6 (by decide)
     clear hd
     exact zd (W':=W) (by simp [execOp,o0,go_sem]) (Below.refl _ _) rfl
    case s1 =>
     intro val ρ W hE hz hd hA hx
     have o0:ρ (.tmp 2) = .pointer (some ⟨L,0,none⟩):=hA.old 2 (by decide)
     have f_cL:=cell_below hE (by simp only;omega) cL
     clear hd
     exact zd (W':=W) (by simp [execOp,o0,f_cL,go_sem]) (Below.refl _ _) rfl
    case s2 =>
     intro val ρ W hE hz hd hA hx
     have o0:ρ (.tmp 3) = .pointer (some ⟨N,0,none⟩):=hA.old 3 (by decide)
     have f_cN:=cell_below hE (by simp only;omega) cN
     clear hd
     exact zd (W':=W) (by simp [execOp,o0,f_cN,go_sem]) (Below.refl _ _) rfl
    case s3 =>
     intro val ρ W hE hz hd hA hx
     have o0:ρ (.tmp 4) = .pointer (some ⟨g,0,none⟩):=hA.old 4 (by decide)
     have f_a0:=cell_below hE (by simp only;omega) a0
     have f_a1:=cell_below hE (by simp only;omega) a1
     have f_a2:=cell_below hE (by simp only;omega) a2
     have f_a3:=cell_below hE (by simp only;omega) a3
     have f_a4:=cell_below hE (by simp only;omega) a4
     have f_a5:=cell_below hE (by simp only;omega) a5
     have f_a6:=cell_below hE (by simp only;omega) a6
     have f_a7:=cell_below hE (by simp only;omega) a7
     have f_a8:=cell_below hE (by simp only;omega) a8
     have f_a9:=cell_below hE (by simp only;omega) a9
     have f_a10:=cell_below hE (by simp only;omega) a10
     clear hd
     exact zd (W':=W) (by simp [execOp,o0,f_a0,f_a1,f_a2,f_a3,f_a4,f_a5,f_a6,f_a7,f_a8,f_a9,f_a10,go_sem]) (Below.refl _ _) rfl
    case s4 =>
     intro val ρ W hE hz hd hA hx
     have o0:ρ (.tmp 7) = .int .i64 k:=hA.old 7 (by decide)
     clear hd
     exact zd (W':=W) (by simp [execOp,o0,go_sem]) (Below.refl _ _) rfl
    case s7 =>
     intro val ρ W hE hz hd hA hx
     have d6:ρ (.tmp 26) = .int .i64 x:=(hA.dep 6 (by decide) 26 rfl).trans (hd 6 (by decide))
     clear hd hA
     refine zd (by simp [execOp,d6,go_sem];exact ⟨rfl,rfl⟩) (by exact xx) ⟨_,rfl,zsu _ ([[Value.int .i64 x]]) _ _ _ 1 rfl (by simp) (by simp)⟩
    case s5 =>
     intro val ρ W hE hz hd hA hx
     have d2:ρ (.tmp 22) = .func (.func 77) #[.pointer (some ⟨p,0,none⟩)] #[]:=(hA.dep 2 (by decide) 22 rfl).trans (hd 2 (by decide))
     have d3:ρ (.tmp 23) = .agg #[.int .i64 0,.int .i64 (F 0),.int .i64 (F 1),.int .i64 (F 2),.int .i64 (F 3),.int .i64 (F 4),.int .i64 (F 5),.int .i64 (F 6),.int .i64 (F 7),.int .i64 (F 8),.int .i64 (F 9)]:=(hA.dep 3 (by decide) 23 rfl).trans (hd 3 (by decide))
     have d4:ρ (.tmp 24) = .int .i64 k:=(hA.dep 4 (by decide) 24 rfl).trans (hd 4 (by decide))
     refine zqe 77 _ _ _ _ #[] rfl #[.pointer (some ⟨p,0,none⟩),.agg #[.int .i64 0,.int .i64 (F 0),.int .i64 (F 1),.int .i64 (F 2),.int .i64 (F 3),.int .i64 (F 4),.int .i64 (F 5),.int .i64 (F 6),.int .i64 (F 7),.int .i64 (F 8),.int .i64 (F 9)],.int .i64 k] d2 (by simp [d3,d4]) (fun args W=>Tryz.call77 args W) ((HNX.out W (hx (by decide))).mono ?_)
     rintro e w' ⟨rfl,hb⟩
     exact ⟨_,rfl,hb,rfl⟩
    case s6 =>
     intro val ρ W hE hz hd hA hx
     have d1:ρ (.tmp 21) = .func (.func 79) #[] #[.pointer (some ⟨S,0,none⟩),.pointer (some ⟨V,0,none⟩),kn,vs]:=(hA.dep 1 (by decide) 21 rfl).trans (hd 1 (by decide))
     have d5:ρ (.tmp 25) = .agg #[.int .i64 1,.int .i64 (G 0),.int .i64 (G 1),.int .i64 (G 2),.int .i64 (G 3),.int .i64 (G 4),.int .i64 (G 5),.int .i64 (G 6),.int .i64 (G 7),.int .i64 (G 8),.int .i64 (G 9)]:=(hA.dep 5 (by decide) 25 rfl).trans (hd 5 (by decide))
     refine zqe 79 _ _ _ #[] _ rfl #[.agg #[.int .i64 1,.int .i64 (G 0),.int .i64 (G 1),.int .i64 (G 2),.int .i64 (G 3),.int .i64 (G 4),.int .i64 (G 5),.int .i64 (G 6),.int .i64 (G 7),.int .i64 (G 8),.int .i64 (G 9)],.pointer (some ⟨S,0,none⟩),.pointer (some ⟨V,0,none⟩),kn,vs] d1 (by simp [d5]) (fun args W=>Tryz.call79 args W) ((HLS.out W (hx (by decide))).mono ?_)
     rintro e w' ⟨rfl,hb⟩
     exact ⟨_,rfl,hb,rfl⟩
    case s8 =>
     intro val ρ W hE hz hd hA hx
     have hW:=hx (by decide)
     have d0:ρ (.tmp 20) = .slice oa on oc:=(hA.dep 0 (by decide) 20 rfl).trans (hd 0 (by decide))
     obtain ⟨b',e7,h7⟩:∃ b',val 7 = .slice (some ⟨b',0,none⟩) 1 1∧RowsAt W 1 b' 0 [[Value.int .i64 x]]:=hd 7 (by decide)
     have d7:ρ (.tmp 27) = .slice (some ⟨b',0,none⟩) 1 1:=(hA.dep 7 (by decide) 27 rfl).trans e7
     obtain ⟨v',w',hrun,ho,hb⟩:=zzf z9m 143 (g+1) (HO.out.ext hW) b' 0 1 [[Value.int .i64 x]] (by simp) h7 (by simp [Value.oneCell']) HLEN9.out (by have:=hW.size;omega)
     exact zil (.tmp 20) (.tmp 27) rfl rfl _ _ d0 d7 hrun hb ho
    case send =>
     intro val WW hE hzz hv
     obtain ⟨-,-,-,-,-,-,-,-,r8,-⟩:=hv
     replace r8:Owns WW (g+1) 2 1 (val 8) ((zbp ps al k).map iRow ++ [[.int .i64 x]]):=r8
     obtain ⟨va,vn,vc,e8⟩:=r8.isSlice
     rw [e8] at r8
     have HO4:=Lib.hid r8
     have HE4:Hid (Ext Y WW):=Lib.hid (Below.trans HE.out (by have:=HYS.out;rw [this];exact hE))
     simp only [putD,e8]
     go_frame
     clear hE hzz r8 e8 a0 a1 a2 a3 a4 a5 a6 a7 a8 a9 a10 cL cN zL zN
     go_wp2_with fail
     go_roundw
     case rel=>exact ⟨k+1,by omega,by go_num,by rw [HSU.out];exact HO4.out,HE4.out⟩
     case measure=>simp [intOf];omega
   ·have hki:¬ ((k:Int) < (n:Int)):=by omega
    have HO3:Hid (IsInts X .i64 (.slice oa on oc) (zbp ps al n)):=Lib.hid (by
     have hke:k=n:=by omega
     rw [hke] at ho
     exact ho.isRows)
    clear ho hEX
    go_wp2_with fail
    go_ret
    exact ⟨_,rfl,HW.out.trans' HE.out,HO3.out⟩
end Go.Proofs.YtkbaiobnibmmgaaGreat
namespace Go.Proofs.YtkbaiobnibmmgaaGreat
open Go.RowKit Go.Shelf
set_option maxHeartbeats 4000000 in
theorem z3x (b:Bool) (T:TypeId) (hu:∀ w,(underlying T).run Tryz.prog w = .ok (.array 10 3) w) (f:Nat→Int) (n:Nat) (w:World):(Instr.checkKey b (n+2) T (.agg #[.int .i64 (f 0),.int .i64 (f 1),.int .i64 (f 2),.int .i64 (f 3),.int .i64 (f 4),.int .i64 (f 5),.int .i64 (f 6),.int .i64 (f 7),.int .i64 (f 8),.int .i64 (f 9)])).run Tryz.prog w = .ok () w:=by
 have hi:∀ x:Int,∀ w,(Instr.checkKey b (n+1) 3 (.int .i64 x)).run Tryz.prog w = .ok () w:=fun x w=>by
  rw [Instr.checkKey];simp [go_sem]
 have hr:List.range' 0 10=[0,1,2,3,4,5,6,7,8,9]:=rfl
 rw [Instr.checkKey]
 simp only [Sem.run_bind,hu,Result.andThen_ok]
 simp only [Std.Legacy.Range.forIn_eq_forIn_range',Std.Legacy.Range.size,Nat.sub_zero,Nat.add_one_sub_one,Nat.div_one]
 rw [hr]
 simp [go_sem,hi]
set_option maxHeartbeats 4000000 in
theorem zyi (b:Bool) (race:Int) (f:Nat→Int) (n:Nat) (w:World):(Instr.checkKey b (n+3) 142 (.agg (zbi race f))).run Tryz.prog w = .ok () w:=by
 have hi:∀ x:Int,∀ w,(Instr.checkKey b (n+2) 3 (.int .i64 x)).run Tryz.prog w = .ok () w:=fun x w=>by
  rw [Instr.checkKey];simp [go_sem]
 have ht:=z3x b 140 (fun w=>Tryz.runUnderlying140 w) f n w
 rw [Instr.checkKey]
 simp only [Sem.run_bind,Tryz.runUnderlying142,Result.andThen_ok]
 unfold zbi
 simp [go_sem,hi,ht]
theorem z56 {W:World} {r c:Nat} (hm:W.heap[r]? = some (.map #[] c)) (race:Int) (f:Nat→Int) (ty:TypeId) :
  (Builtin.delete_ #[136,142] ty #[.map (some r),.agg (zbi race f)]).run Tryz.prog W = .ok (.tuple #[]) (W.putObj r (.map #[] c)):=by
 have hu:(underlying 136).run Tryz.prog W = .ok (.map 142 2) W:=run_underlying (by kernel_rfl) W
 have hc:=zyi true race f 9997 W
 have hf:(Instr.findKey 142 (.agg (zbi race f)) []).run Tryz.prog W = .ok none W:=by
  simp [Instr.findKey,go_sem,Instr.findNow]
 simp [Builtin.delete_,hu,getObj,setObj,Sem.run,hm,hc,hf,World.putObj]
theorem zyj {W:World} {r:Nat} {o:Obj} (h:W.heap[r]? = some o):W.putObj r o=W:=by
 have e:W.heap.setIfInBounds r o=W.heap:=by
  apply Array.ext_getElem?
  intro i
  rw [Array.getElem?_setIfInBounds]
  split
  ·rename_i e
   subst e
   split
   ·exact h.symm
   ·rename_i h2
    exact absurd (Array.getElem?_eq_some_iff.1 h).1 h2
  ·rfl
 show ({ W with heap:=W.heap.setIfInBounds r o }:World)=W
 rw [e]
theorem z8d {W:World} {r c:Nat} (hm:W.heap[r]? = some (.map #[] c)) (race:Int) (f:Nat→Int) (ty:TypeId) :
  (Builtin.delete_ #[136,142] ty #[.map (some r),.agg (zbi race f)]).run Tryz.prog W = .ok (.tuple #[]) W:=by
 rw [z56 hm race f ty,zyj hm]
end Go.Proofs.YtkbaiobnibmmgaaGreat
namespace Go.Proofs.YtkbaiobnibmmgaaGreat
open Go.RowKit Go.Shelf
attribute [local go_sem] Oper.semAt_some
section
variable {P:Program} {w:World} {a:Addr} {m:Mode}
theorem z8e:(store a .nilFunc m).run P w=stored P w a .nilFunc m:=run_store P w a _ m rfl
theorem z8f (fn:Fn) (first captured:Array Value):(store a (.func fn first captured) m).run P w=stored P w a (.func fn first captured) m:=run_store P w a _ m rfl
end
attribute [local go_sem] z8e z8f
theorem z8g {w:World} {ops:Array Oper} {rest:List Oper} {o:Oper} {a:Act} {Q:Exit→Act→World→Prop} (hgd:o.guard=none) (s x:Operand) {t:TypeId}
  (ho:o.op = .call { callee:=.builtin .append,args:=#[s,x],argTypes:=#[t,t] }) {vs vx v':Value} {w':World} (hs:a.eval s=vs) (hx:a.eval x=vx) (hrun:(Builtin.append_ #[t,t] o.type #[vs,vx]).run Tryz.prog w = .ok v' w')
  (h:wpList Tryz.prog ops Q rest (a.put o.dst v') w'):wpList Tryz.prog ops Q (o :: rest) a w :=
 wpList_plain hgd fun K hK=>by
  unfold Oper.wp execOp
  simp only [ho,resolve,invoke,builtin,Sem.run_bind,Sem.run_pure,Result.andThen_ok,List.map_toArray,List.map_cons,List.map_nil,hs,hx,hrun]
  exact hK _ _ h
theorem z8h {w:World} {ops:Array Oper} {rest:List Oper} {o:Oper} {a:Act} {Q:Exit→Act→World→Prop} (hgd:o.guard=none) (s x:Operand) {t u:TypeId}
  (ho:o.op = .call { callee:=.builtin .delete,args:=#[s,x],argTypes:=#[t,u] }) {vs vx v':Value} {w':World} (hs:a.eval s=vs) (hx:a.eval x=vx) (hrun:(Builtin.delete_ #[t,u] o.type #[vs,vx]).run Tryz.prog w = .ok v' w')
  (h:wpList Tryz.prog ops Q rest (a.put o.dst v') w'):wpList Tryz.prog ops Q (o :: rest) a w :=
 wpList_plain hgd fun K hK=>by
  unfold Oper.wp execOp
  simp only [ho,resolve,invoke,builtin,Sem.run_bind,Sem.run_pure,Result.andThen_ok,List.map_toArray,List.map_cons,List.map_nil,hs,hx,hrun]
  exact hK _ _ h
set_option maxRecDepth 100000 in
set_option maxHeartbeats 8000000 in
theorem z1i (ps:List (Value × Tk)) (n p:Nat) (ra ta:Option Addr) (rcap tc:Nat) (w:World) (hs:SheetAt w p (.slice ra 1 rcap) (.slice ta ps.length tc)) (hr:IsInts w .i64 (.slice ra 1 rcap) (natL [n])) (hn:n≤6) (h1:1≤n) (ht:IsTks w (.slice ta ps.length tc) ps) (hl:ps.length≤10) (hu:∀ j,0≤(zam (zn ps)).getD j 0∧(zam (zn ps)).getD j 0≤1000)
  (hlen:∀ x∈ps,x.2.s.length=1) (hle:∀ x∈ps,∀ r,r < 1→x.2.s.getD r 0≤64) :
  Calls Tryz.prog 35 #[.pointer (some ⟨p,0,none⟩),.func (.func 36) #[] #[]] w fun e w'=>∃ v,e = .returned v∧Ext w w'∧IsInts w' .i64 v [((zax (zbp ps (List.replicate ps.length true) n) n:Nat):Int)]:=by
 have HS:=Lib.hid hs
 have HR:=Lib.hid hr
 have HT:=Lib.hid ht
 have HU:=Lib.hid hu
 have HLEN:=Lib.hid hlen
 have HLE:=Lib.hid hle
 have hpz:=hs.lt
 clear hs hr ht hu hlen hle
 have hmm:=@run_makeMap Tryz.prog
 go_enter Tryz.func35,Tryz.ntmps35
 go_upto_region 7 with (fail)
 obtain ⟨b6,hb6⟩:∃ b6,b6=w.heap.size+1+1+1+1+1+1:=⟨_,rfl⟩
 rw [← hb6]
 obtain ⟨b5,hb5⟩:∃ b5,b5=w.heap.size+1+1+1+1+1:=⟨_,rfl⟩
 rw [← hb5]
 obtain ⟨b4,hb4⟩:∃ b4,b4=w.heap.size+1+1+1+1:=⟨_,rfl⟩
 rw [← hb4]
 obtain ⟨b3,hb3⟩:∃ b3,b3=w.heap.size+1+1+1:=⟨_,rfl⟩
 rw [← hb3]
 obtain ⟨b2,hb2⟩:∃ b2,b2=w.heap.size+1+1:=⟨_,rfl⟩
 rw [← hb2]
 obtain ⟨b1,hb1⟩:∃ b1,b1=w.heap.size+1:=⟨_,rfl⟩
 rw [← hb1]
 obtain ⟨b0,hb0⟩:∃ b0,b0=w.heap.size:=⟨_,rfl⟩
 rw [← hb0]
 obtain ⟨Y,hY⟩:∃ Y,Y=((((((w.alloc (.cells #[.pointer (some ⟨p,0,none⟩)] 90)).alloc (.cells #[.func (.func 36) #[] #[]] 94)).alloc (.map #[] 0)).alloc (.cells #[.map (some b2)] 136)).alloc (.cells #[.func (.func 77) #[.pointer (some ⟨p,0,none⟩)] #[]] 137)).alloc
   (.cells #[.func (.func 79) #[] #[.pointer (some ⟨b0,0,none⟩),.pointer (some ⟨b1,0,none⟩),.pointer (some ⟨b3,0,none⟩),.pointer (some ⟨b6,0,none⟩)]] 138)).alloc (.cells #[.func (.func 78) #[] #[.pointer (some ⟨b0,0,none⟩),.pointer (some ⟨b5,0,none⟩),.pointer (some ⟨b4,0,none⟩)]] 146):=⟨_,rfl⟩
 have hE1:Ext w Y:=by rw [hY];exact xx
 have hys:Y.heap.size=b0+7:=by rw [hY,hb0];simp
 have c0:Y.cell? ⟨b0,0,none⟩=some (.pointer (some ⟨p,0,none⟩)):=by rw [hY,hb0];simp [go_sem]
 have c1:Y.cell? ⟨b1,0,none⟩=some (.func (.func 36) #[] #[]):=by rw [hY,hb1];simp [go_sem]
 have c3:Y.cell? ⟨b3,0,none⟩=some (.map (some b2)):=by rw [hY,hb3];simp [go_sem]
 have c4:Y.cell? ⟨b4,0,none⟩=some (.func (.func 77) #[.pointer (some ⟨p,0,none⟩)] #[]):=by rw [hY,hb4];simp [go_sem]
 have c5:Y.cell? ⟨b5,0,none⟩=some (.func (.func 79) #[] #[.pointer (some ⟨b0,0,none⟩),.pointer (some ⟨b1,0,none⟩),.pointer (some ⟨b3,0,none⟩),.pointer (some ⟨b6,0,none⟩)]):=by rw [hY,hb5];simp [go_sem]
 have c6:Y.cell? ⟨b6,0,none⟩=some (.func (.func 78) #[] #[.pointer (some ⟨b0,0,none⟩),.pointer (some ⟨b5,0,none⟩),.pointer (some ⟨b4,0,none⟩)]):=by rw [hY,hb6];simp [go_sem]
 have m2:Y.heap[b2]? = some (.map #[] 0):=by
  have h2:((w.alloc (.cells #[.pointer (some ⟨p,0,none⟩)] 90)).alloc (.cells #[.func (.func 36) #[] #[]] 94)).heap.size=b2:=by rw [hb2];simp
  have h3:=World.alloc_heap_new ((w.alloc (.cells #[.pointer (some ⟨p,0,none⟩)] 90)).alloc (.cells #[.func (.func 36) #[] #[]] 94)) (.map #[] 0)
  rw [h2] at h3
  rw [hY]
  refine Eq.trans (Below.block (B:=b2+1) ?_ b2 (by omega)) h3
  have h4:b2+1=(((w.alloc (.cells #[.pointer (some ⟨p,0,none⟩)] 90)).alloc (.cells #[.func (.func 36) #[] #[]] 94)).alloc (.map #[] 0)).heap.size:=by rw [hb2];simp
  rw [h4]
  exact xx
 rw [← hY]
 have hbs:b1=b0+1∧b2=b0+2∧b3=b0+3∧b4=b0+4∧b5=b0+5∧b6=b0+6:=by omega
 have HB0:=Lib.hid hb0
 clear hY hb0 hb1 hb2 hb3 hb4 hb5 hb6
 have zb0:b0 < Y.heap.size:=by omega
 have HBS:=Lib.hid hbs
 have HYS:=Lib.hid hys
 clear hbs hys
 have HS1:=Lib.hid (HS.out.ext hE1)
 have HT1:=Lib.hid (HT.out.ext hE1)
 have HR1:=Lib.hid (HR.out.ext hE1)
 have HW1:=Lib.hid hE1
 clear hE1 HS HT HR
 go_wp2_with fail
 refine (z3v ps.length p _ ta tc Y HS1.out hl).mono ?_
 rintro e X0 ⟨rfl,hE⟩
 unfold zbi
 obtain ⟨F,hF⟩:∃ F,F=mkI (List.replicate ps.length true):=⟨_,rfl⟩
 have HFF:=Lib.hid hF
 rw [← hF]
 have HX0:=Lib.hid hE
 have HZX:Hid (b0+7≤X0.heap.size):=Lib.hid (by have:=hE.size;have:=HYS.out;omega)
 have hP:PlAt 142 (X0.alloc (.cells #[.int .i64 0,.int .i64 (F 0),.int .i64 (F 1),.int .i64 (F 2),.int .i64 (F 3),.int .i64 (F 4),.int .i64 (F 5),.int .i64 (F 6),.int .i64 (F 7),.int .i64 (F 8),.int .i64 (F 9)] 142)) X0.heap.size 0 F:=zd2 _ X0 0 F
 have HP:=Lib.hid hP
 have HE2:Hid (Ext Y (X0.alloc (.cells #[.int .i64 0,.int .i64 (F 0),.int .i64 (F 1),.int .i64 (F 2),.int .i64 (F 3),.int .i64 (F 4),.int .i64 (F 5),.int .i64 (F 6),.int .i64 (F 7),.int .i64 (F 8),.int .i64 (F 9)] 142))):=Lib.hid (hE.trans' (by exact xx))
 obtain ⟨a,ha⟩:∃ a,a=zax (zbp ps (List.replicate ps.length true) n) n:=⟨_,rfl⟩
 obtain ⟨G,hG⟩:∃ G,G=mkI (zcd (zbt (zn ps)) 0 (List.replicate ps.length true) a):=⟨_,rfl⟩
 have han:a < n:=by rw [ha];exact zie _ n h1
 have HA:=Lib.hid ha
 have HG:=Lib.hid hG
 have HC0:=Lib.hid c0
 have HC1:=Lib.hid c1
 have HC3:=Lib.hid c3
 have HC4:=Lib.hid c4
 have HC5:=Lib.hid c5
 have HC6:=Lib.hid c6
 have HM2:=Lib.hid m2
 clear hE hP hF ha hG c0 c1 c3 c4 c5 c6 m2
 go_wp2_with fail
 go_loopw [9,10] (fun ov gv W=>∃ d g:Nat,d≤1∧gv = .pointer (some ⟨g,0,none⟩)∧b0+7≤g∧Ext Y W∧PlAt 142 W g (d:Int) (if d=0 then F else G)∧Owns W (b0+7) 3 1 ov ((if d=0 then [] else [(a:Int)]).map iRow)∧ov.ownBlock≠some g) (fun ov _ _=>match ov with | .slice _ m _=>1 - m | _=>0)
 case atStart=>exact ⟨0,_,by omega,rfl,HZX.out,HE2.out,HP.out,Owns.nil _ _ _ _,by simp [Value.ownBlock]⟩
 case round =>
  obtain ⟨d,g,hd,rfl,hg,hE,hP,ho,hno⟩:=hrel
  obtain ⟨X,rfl⟩:∃ X,X=wr:=⟨_,rfl⟩
  obtain ⟨oa,on,oc,rfl⟩:=ho.isSlice
  have HE:=Lib.hid hE
  have hsx:=HS1.out.ext hE
  have k0:=hsx.c0
  have zp:=hsx.lt
  have c0:=zb hE HC0.out
  have z0:=World.block_lt_of_cell? _ _ c0
  simp only at z0
  by_cases hd1:d=1
  ·subst hd1
   have hP:PlAt 142 X g 1 G:=hP
   have e0:=hP.c0
   have gz:=hP.lt
   have HO:Hid (IsInts X .i64 (.slice oa on oc) [(a:Int)]):=Lib.hid (ho.isRows)
   clear hE hsx hP ho hno
   go_upto_region 8 with (fail)
   refine za0 (X.heap.size) (Nat.le_refl _)
    [sqV (.pointer (some ⟨g,0,none⟩)),sqV (.int .i64 1),sqV (.pointer (some ⟨p,0,none⟩)),sqV (.pointer (some ⟨p,0,none⟩)),sqV (.pointer (some ⟨p,0,none⟩)),sqV (.pointer (some ⟨p,0,none⟩)),sqV (.slice ra 1 rcap),sqV (.int .i64 1),sqV (.bool false)]
    [true,true,true,true,true,true,true,true,true] [false,false,false,false,false,false,false,false,false] [true,true,true,true,true,true,true,true,true] [true,true,true,true,true,true,true,true,true]
    (by kernel_rfl) (by kernel_rfl) (by decide +kernel) (by decide +kernel) (by decide +kernel) rfl ⟨rfl,rfl⟩ ⟨?s0,?s1,?s2,?s3,?s4,?s5,?s6,?s7,?s8,trivial⟩ [some 19,some 20,some 21,some 22,some 23,some 24,some 25,some 26,some 27] rfl rfl ?send
   case s0 =>
    intro val ρ W hE hz hd hA hx
    have o0:ρ (.tmp 10) = .pointer (some ⟨g,0,none⟩):=hA.old 10 (by decide)
    clear hd
    exact zd (W':=W) (by simp [execOp,o0,go_sem]) (Below.refl _ _) rfl
   case s1 =>
    intro val ρ W hE hz hd hA hx
    have d0:ρ (.tmp 19) = .pointer (some ⟨g,0,none⟩):=(hA.dep 0 (by decide) 19 rfl).trans (hd 0 (by decide))
    have f_e0:=cell_below hE (by simp only;omega) e0
    clear hd
    exact zd (W':=W) (by simp [execOp,d0,f_e0,go_sem]) (Below.refl _ _) rfl
   case s2 =>
    intro val ρ W hE hz hd hA hx
    have o0:ρ (.tmp 2) = .pointer (some ⟨b0,0,none⟩):=hA.old 2 (by decide)
    have f_c0:=cell_below hE (by simp only;omega) c0
    clear hd
    exact zd (W':=W) (by simp [execOp,o0,f_c0,go_sem]) (Below.refl _ _) rfl
   case s3 =>
    intro val ρ W hE hz hd hA hx
    have d2:ρ (.tmp 21) = .pointer (some ⟨p,0,none⟩):=(hA.dep 2 (by decide) 21 rfl).trans (hd 2 (by decide))
    clear hd
    exact zd (W':=W) (by simp [execOp,d2,go_sem]) (Below.refl _ _) rfl
   case s4 =>
    intro val ρ W hE hz hd hA hx
    have d3:ρ (.tmp 22) = .pointer (some ⟨p,0,none⟩):=(hA.dep 3 (by decide) 22 rfl).trans (hd 3 (by decide))
    clear hd
    exact zd (W':=W) (by simp [execOp,d3,go_sem]) (Below.refl _ _) rfl
   case s5 =>
    intro val ρ W hE hz hd hA hx
    have d4:ρ (.tmp 23) = .pointer (some ⟨p,0,none⟩):=(hA.dep 4 (by decide) 23 rfl).trans (hd 4 (by decide))
    clear hd
    exact zd (W':=W) (by simp [execOp,d4,go_sem]) (Below.refl _ _) rfl
   case s6 =>
    intro val ρ W hE hz hd hA hx
    have d5:ρ (.tmp 24) = .pointer (some ⟨p,0,none⟩):=(hA.dep 5 (by decide) 24 rfl).trans (hd 5 (by decide))
    have f_k0:=cell_below hE (by simp only;omega) k0
    clear hd
    exact zd (W':=W) (by simp [execOp,d5,f_k0,go_sem]) (Below.refl _ _) rfl
   case s7 =>
    intro val ρ W hE hz hd hA hx
    have d6:ρ (.tmp 25) = .slice ra 1 rcap:=(hA.dep 6 (by decide) 25 rfl).trans (hd 6 (by decide))
    clear hd
    exact zd (W':=W) (by simp [d6,go_sem]) (Below.refl _ _) rfl
   case s8 =>
    intro val ρ W hE hz hd hA hx
    have d1:ρ (.tmp 20) = .int .i64 1:=(hA.dep 1 (by decide) 20 rfl).trans (hd 1 (by decide))
    have d7:ρ (.tmp 26) = .int .i64 1:=(hA.dep 7 (by decide) 26 rfl).trans (hd 7 (by decide))
    clear hd
    exact zd (W':=W) (by simp [execOp,d1,d7,go_sem]) (Below.refl _ _) rfl
   case send =>
    intro val WW hE hzz hv
    obtain ⟨-,-,-,-,-,-,-,-,r8,-⟩:=hv
    have q8:val 8 = .bool false:=r8
    simp only [putD,q8]
    go_frame
    have HO2:=Lib.hid (HO.out.ext hE)
    have HE3:=Lib.hid (HE.out.trans' hE)
    clear hE hzz q8 r8 e0 c0 k0
    go_wp2_with fail
    go_ret
    exact ⟨_,rfl,HW1.out.trans' HE3.out,by rw [← HA.out];exact HO2.out⟩
  ·have hd0:d=0:=by omega
   subst hd0
   have hP:PlAt 142 X g 0 F:=hP
   have HO:Hid (Owns X (b0+7) 3 1 (.slice oa on oc) []):=Lib.hid ho
   have HNO:=Lib.hid hno
   have HPX:=Lib.hid hP
   obtain ⟨a0,a1,a2,a3,a4,a5,a6,a7,a8,a9,a10⟩:=hP.cells
   have gz:=hP.lt
   have on0:on=0:=by have:=ho.src.1;simpa using this
   subst on0
   clear hE hsx hP ho hno hd hd1
   go_upto_region 8 with (fail)
   refine za0 (X.heap.size) (Nat.le_refl _)
    [sqV (.pointer (some ⟨g,0,none⟩)),sqV (.int .i64 0),sqV (.pointer (some ⟨p,0,none⟩)),sqV (.pointer (some ⟨p,0,none⟩)),sqV (.pointer (some ⟨p,0,none⟩)),sqV (.pointer (some ⟨p,0,none⟩)),sqV (.slice ra 1 rcap),sqV (.int .i64 1),sqV (.bool true)]
    [true,true,true,true,true,true,true,true,true] [false,false,false,false,false,false,false,false,false] [true,true,true,true,true,true,true,true,true] [true,true,true,true,true,true,true,true,true]
    (by kernel_rfl) (by kernel_rfl) (by decide +kernel) (by decide +kernel) (by decide +kernel) rfl ⟨rfl,rfl⟩ ⟨?s0,?s1,?s2,?s3,?s4,?s5,?s6,?s7,?s8,trivial⟩ [some 19,some 20,some 21,some 22,some 23,some 24,some 25,some 26,some 27] rfl rfl ?send
   case s0 =>
    intro val ρ W hE hz hd hA hx
    have o0:ρ (.tmp 10) = .pointer (some ⟨g,0,none⟩):=hA.old 10 (by decide)
    clear hd
    exact zd (W':=W) (by simp [execOp,o0,go_sem]) (Below.refl _ _) rfl
   case s1 =>
    intro val ρ W hE hz hd hA hx
    have d0:ρ (.tmp 19) = .pointer (some ⟨g,0,none⟩):=(hA.dep 0 (by decide) 19 rfl).trans (hd 0 (by decide))
    have f_a0:=cell_below hE (by simp only;omega) a0
    clear hd
    exact zd (W':=W) (by simp [execOp,d0,f_a0,go_sem]) (Below.refl _ _) rfl
   case s2 =>
    intro val ρ W hE hz hd hA hx
    have o0:ρ (.tmp 2) = .pointer (some ⟨b0,0,none⟩):=hA.old 2 (by decide)
    have f_c0:=cell_below hE (by simp only;omega) c0
    clear hd
    exact zd (W':=W) (by simp [execOp,o0,f_c0,go_sem]) (Below.refl _ _) rfl
   case s3 =>
    intro val ρ W hE hz hd hA hx
    have d2:ρ (.tmp 21) = .pointer (some ⟨p,0,none⟩):=(hA.dep 2 (by decide) 21 rfl).trans (hd 2 (by decide))
    clear hd
    exact zd (W':=W) (by simp [execOp,d2,go_sem]) (Below.refl _ _) rfl
   case s4 =>
    intro val ρ W hE hz hd hA hx
    have d3:ρ (.tmp 22) = .pointer (some ⟨p,0,none⟩):=(hA.dep 3 (by decide) 22 rfl).trans (hd 3 (by decide))
    clear hd
    exact zd (W':=W) (by simp [execOp,d3,go_sem]) (Below.refl _ _) rfl
   case s5 =>
    intro val ρ W hE hz hd hA hx
    have d4:ρ (.tmp 23) = .pointer (some ⟨p,0,none⟩):=(hA.dep 4 (by decide) 23 rfl).trans (hd 4 (by decide))
    clear hd
    exact zd (W':=W) (by simp [execOp,d4,go_sem]) (Below.refl _ _) rfl
   case s6 =>
    intro val ρ W hE hz hd hA hx
    have d5:ρ (.tmp 24) = .pointer (some ⟨p,0,none⟩):=(hA.dep 5 (by decide) 24 rfl).trans (hd 5 (by decide))
    have f_k0:=cell_below hE (by simp only;omega) k0
    clear hd
    exact zd (W':=W) (by simp [execOp,d5,f_k0,go_sem]) (Below.refl _ _) rfl
   case s7 =>
    intro val ρ W hE hz hd hA hx
    have d6:ρ (.tmp 25) = .slice ra 1 rcap:=(hA.dep 6 (by decide) 25 rfl).trans (hd 6 (by decide))
    clear hd
    exact zd (W':=W) (by simp [d6,go_sem]) (Below.refl _ _) rfl
   case s8 =>
    intro val ρ W hE hz hd hA hx
    have d1:ρ (.tmp 20) = .int .i64 0:=(hA.dep 1 (by decide) 20 rfl).trans (hd 1 (by decide))
    have d7:ρ (.tmp 26) = .int .i64 1:=(hA.dep 7 (by decide) 26 rfl).trans (hd 7 (by decide))
    clear hd
    exact zd (W':=W) (by simp [execOp,d1,d7,go_sem]) (Below.refl _ _) rfl
   case send =>
    intro val WW hE hzz hv
    obtain ⟨-,-,-,-,-,-,-,-,r8,-⟩:=hv
    have q8:val 8 = .bool true:=r8
    simp only [putD,q8]
    go_frame
    have HEW:=Lib.hid (HE.out.trans' hE)
    have HOW:=Lib.hid (HO.out.ext hE)
    have HPW:=Lib.hid (HPX.out.ext hE)
    clear hE hzz q8 r8 a0 a1 a2 a3 a4 a5 a6 a7 a8 a9 a10 gz c0 k0 zp z0
    obtain ⟨a0,a1,a2,a3,a4,a5,a6,a7,a8,a9,a10⟩:=HPW.out.cells
    have gz:=HPW.out.lt
    have c6:=zb HEW.out HC6.out
    have z6:=World.block_lt_of_cell? _ _ c6
    simp only at z6
    go_wp2_with fail
    rw [HFF.out]
    refine (zyh ps (List.replicate ps.length true) n b0 b1 b5 b4 p (.pointer (some ⟨b3,0,none⟩)) (.pointer (some ⟨b6,0,none⟩)) ra ta rcap tc WW (HS1.out.ext HEW.out) (HR1.out.ext HEW.out) hn (HT1.out.ext HEW.out) hl HU.out HLEN.out HLE.out (zb HEW.out HC0.out) (zb HEW.out HC1.out) (zb HEW.out HC5.out) (zb HEW.out HC4.out)).mono ?_
    rintro e V1 ⟨v,rfl,hE,hI⟩
    rw [← HFF.out]
    have HV1:=Lib.hid (HEW.out.trans' hE)
    have HOV:=Lib.hid (HOW.out.ext hE)
    have HPV:=Lib.hid (HPW.out.ext hE)
    have HI:=Lib.hid hI
    clear hE hI a0 a1 a2 a3 a4 a5 a6 a7 a8 a9 a10 gz c6 z6
    go_wp2_with fail
    refine (z54 _ v V1 HI.out (by simp [zbp];omega)).mono ?_
    rintro e V2 ⟨rfl,hE⟩
    have hll:(zbp ps (List.replicate ps.length true) n).length=n:=by simp [zbp]
    rw [hll,← HA.out]
    have HV2:=Lib.hid (HV1.out.trans' hE)
    have HOV2:=Lib.hid (HOV.out.ext hE)
    have HPV2:=Lib.hid (HPV.out.ext hE)
    clear hE hll
    have ho9:=HOV2.out.ext (xx:Ext V2 (V2.alloc (.cells #[.int .i64 (a:Int)] 3)))
    obtain ⟨c',W9,hrun,h2,h3,h4⟩:=zrf zre 23 (b0+7) ho9 V2.heap.size 0 1 [[.int .i64 (a:Int)]] (by simp) (zmb _ [.int .i64 (a:Int)] _ _ _ rfl rfl) (by simp [Value.oneCell']) (by simp) (by have:=HPV2.out.lt;simp;omega)
    have hPa:=HPV2.out.ext (xx:Ext V2 (V2.alloc (.cells #[.int .i64 (a:Int)] 3)))
    have hP9:PlAt 142 W9 g 0 F:=hPa.of_heap (h3.same g hPa.lt (fun e=>HNO.out e.symm))
    obtain ⟨cn,ca,ccap,rfl⟩:=h2.isSlice
    have cn1:ca=1:=by have:=h2.src.1;simpa using this
    subst cn1
    have hb9:Ext Y W9:=by
     have e1:Ext Y (V2.alloc (.cells #[.int .i64 (a:Int)] 3)):=HV2.out.trans' (by exact xx)
     refine Below.trans e1 (Kept.below (h3.mono fun k _ hk e=>?_) e1.size)
     have:=(ho9.notOwn k e.symm).1
     have:=HYS.out
     omega
    have hng:(Value.slice cn 1 ccap).ownBlock≠some g:=fun e=>by
     rcases h4 g e with h | h
     ·exact HNO.out h
     ·have:=hPa.lt;omega
    clear ho9 h3 h4 hPa
    go_upto_region 11 with (at_builtin;refine z8g rfl (.tmp 32) (.tmp 34) rfl rfl rfl hrun ?_)
    clear hrun
    have HO9:=Lib.hid h2
    have HP9:=Lib.hid hP9
    have HB9:=Lib.hid hb9
    have HNG:=Lib.hid hng
    clear h2 hb9 hng
    obtain ⟨a0,a1,a2,a3,a4,a5,a6,a7,a8,a9,a10⟩:=hP9.cells
    have gz:=hP9.lt
    have c3:=zb HB9.out HC3.out
    have z3:=World.block_lt_of_cell? _ _ c3
    simp only at z3
    have hm9:W9.heap[b2]? = some (.map #[] 0):=(HB9.out.block b2 (by have:=HBS.out;have:=HYS.out;omega)).trans HM2.out
    have hdel:=z8d hm9 0 F
    clear hP9 hm9
    unfold zbi at hdel
    go_upto_region 12 with (at_builtin;refine z8h rfl (.tmp 36) (.tmp 37) rfl rfl rfl (hdel _) ?_)
    clear hdel c3 z3
    have c4:=zb HB9.out HC4.out
    have z4:=World.block_lt_of_cell? _ _ c4
    simp only at z4
    go_wp2_with fail
    have hnx:=zxn ps (List.replicate ps.length true) 0 a 1 p _ ta tc W9 (HS1.out.ext HB9.out) (HT1.out.ext HB9.out) hl (by omega) (by omega) HLEN.out HLE.out (by omega)
    rw [← HFF.out,← HG.out] at hnx
    refine hnx.mono ?_
    rintro e V3 ⟨rfl,hE⟩
    have HV3:=Lib.hid (HB9.out.trans' hE)
    have hP3:=HP9.out.ext hE
    have HO3:=Lib.hid (HO9.out.ext hE)
    have HP3:=Lib.hid hP3
    clear hE hnx a0 a1 a2 a3 a4 a5 a6 a7 a8 a9 a10 gz c4 z4
    unfold zbi
    obtain ⟨a0,a1,a2,a3,a4,a5,a6,a7,a8,a9,a10⟩:=hP3.cells
    have gz:=hP3.lt
    have hfr:=hP3.free
    clear hP3
    go_upto_region 13 with (fail)
    have HV3S:=Lib.hid HV3.out.size
    go_wp2_with fail
    go_roundw
    case rel =>
     refine ⟨1,V3.heap.size,by omega,rfl,?_,?_,?_,?_,?_⟩
     ·have:=HYS.out;have:=HV3S.out;omega
     ·have hk:∀ W,Kept (fun k=>k≠g) V3 W→Ext Y (W.alloc (.cells #[.int .i64 1,.int .i64 (G 0),.int .i64 (G 1),.int .i64 (G 2),.int .i64 (G 3),.int .i64 (G 4),.int .i64 (G 5),.int .i64 (G 6),.int .i64 (G 7),.int .i64 (G 8),.int .i64 (G 9)] 142)):=fun W hk=>by
       have e1:Ext Y W:=Below.trans HV3.out (Kept.below (hk.mono fun k _ h e=>by have:=HYS.out;omega) HV3.out.size)
       exact e1.trans' (by exact xx)
      refine hk _ ?_
      repeat refine Kept.setCell ?_ (fun _ h=>h rfl) _
      exact Kept.refl _ _
     ·have hp1:∀ W:World,W.heap.size=V3.heap.size→PlAt 142 (W.alloc (.cells #[.int .i64 1,.int .i64 (G 0),.int .i64 (G 1),.int .i64 (G 2),.int .i64 (G 3),.int .i64 (G 4),.int .i64 (G 5),.int .i64 (G 6),.int .i64 (G 7),.int .i64 (G 8),.int .i64 (G 9)] 142)) V3.heap.size 1 G:=fun W hw=>by
       rw [← hw]
       exact zd2 _ W 1 G
      exact hp1 _ (by simp)
     ·have hk:∀ W,Kept (fun k=>k≠g) V3 W→Owns (W.alloc (.cells #[.int .i64 1,.int .i64 (G 0),.int .i64 (G 1),.int .i64 (G 2),.int .i64 (G 3),.int .i64 (G 4),.int .i64 (G 5),.int .i64 (G 6),.int .i64 (G 7),.int .i64 (G 8),.int .i64 (G 9)] 142)) (b0+7) 3 1 (.slice cn 1 ccap) ([(a:Int)].map iRow):=fun W hk=>by
       have h1:Owns W (b0+7) 3 1 (.slice cn 1 ccap) ([(a:Int)].map iRow):=HO3.out.keptAt hk (fun k _ _ e _ h=>HNG.out (by rw [← h];exact e))
       exact h1.ext (by exact xx)
      refine hk _ ?_
      repeat refine Kept.setCell ?_ (fun _ h=>h rfl) _
      exact Kept.refl _ _
     ·intro e
      have:=(HO3.out.notOwn _ e).2
      omega
    case measure=>simp
end Go.Proofs.YtkbaiobnibmmgaaGreat
namespace Go.Proofs.YtkbaiobnibmmgaaGreat
open Go.RowKit Go.Shelf
attribute [local go_sem] Oper.semAt_some
theorem z9n {ps:List (Value × Tk)} {rs:List Nat} (VT:TksV rs (zn ps)) (j:Nat):0≤(zam (zn ps)).getD j 0∧(zam (zn ps)).getD j 0≤1000:=by
 rw [List.getD_eq_getElem?_getD]
 rcases Nat.lt_or_ge j (zam (zn ps)).length with h | h
 ·rw [List.getElem?_eq_getElem h]
  have hm:(zam (zn ps))[j]∈zam (zn ps):=List.getElem_mem h
  obtain ⟨t,ht,e⟩:=List.mem_map.1 hm
  have:=VT.u t ht
  simp only [Option.getD_some]
  omega
 ·rw [List.getElem?_eq_none h];simp
set_option maxRecDepth 100000 in
set_option maxHeartbeats 4000000 in
theorem zxp (n:Nat) (ps:List (Value × Tk)) (ra ta:Option Addr) (rcap tc:Nat) (w:World) (hr:IsInts w .i64 (.slice ra 1 rcap) (natL [n])) (ht:IsTks w (.slice ta ps.length tc) ps) (V:CardV [n]) (VT:TksV [n] (zn ps)) :
  Calls Tryz.prog 11 #[.agg #[.slice ra 1 rcap],.slice ta ps.length tc] w fun e w'=>∃ v,e = .returned (.tuple #[.int .i64 (zar (zn ps) (oneB [zax (zbp ps (List.replicate ps.length true) n) n]) ps.length),v,.int .i64 0])∧Ext w w'∧IsInts w' .i64 v [((zax (zbp ps (List.replicate ps.length true) n) n:Nat):Int)]:=by
 have hn1:1≤n∧n≤6:=V.each 0 (by simp)
 have hl10:ps.length≤10:=by have:=VT.hi;simpa [zn] using this
 have HU:Hid (∀ j,0≤(zam (zn ps)).getD j 0∧(zam (zn ps)).getD j 0≤1000):=Lib.hid (z9n VT)
 have HLEN:Hid (∀ x∈ps,x.2.s.length=1):=Lib.hid fun x hx=>VT.len x.2 (List.mem_map.2 ⟨x,hx,rfl⟩)
 have HLE:Hid (∀ x∈ps,∀ r,r < 1→x.2.s.getD r 0≤64):=Lib.hid fun x hx r hr=>by
  have h1:=(VT.each x.2 (List.mem_map.2 ⟨x,hx,rfl⟩) r (by simpa using hr)).2
  have h0:r=0:=by omega
  subst h0
  have h2:2 ^ n≤2 ^ 6:=Nat.pow_le_pow_right (by omega) hn1.2
  simp only [List.getD_cons_zero] at h1
  omega
 have HV:=Lib.hid V
 have HVT:=Lib.hid VT
 have HR:=Lib.hid hr
 have HT:=Lib.hid ht
 obtain ⟨a,ha⟩:∃ a,a=zax (zbp ps (List.replicate ps.length true) n) n:=⟨_,rfl⟩
 have han:a < n:=by rw [ha];exact zie _ n hn1.1
 rw [← ha]
 have HA:=Lib.hid ha
 clear hr ht V VT ha
 go_enter Tryz.func11,Tryz.ntmps11
 go_upto_region 1 with (fail)
 obtain ⟨W0,hW0⟩:∃ W0,W0=w.alloc (.cells #[.slice ra 1 rcap] 30):=⟨_,rfl⟩
 have hE:Ext w W0:=by rw [hW0];exact xx
 have k0:W0.cell? ⟨w.heap.size,0,none⟩=some (.slice ra 1 rcap):=by rw [hW0];simp [go_sem]
 have hz:w.heap.size < W0.heap.size:=World.block_lt_of_cell? _ _ k0
 have HW:=Lib.hid hE
 rw [← hW0]
 clear hW0 hE
 go_wp2_with fail
 refine (zt9 [n] ps ra ta rcap tc W0 (HR.out.ext HW.out) (HT.out.ext HW.out) HV.out HVT.out).mono ?_
 rintro e W1 ⟨p,rfl,hE,hp,hS⟩
 have HW1:=Lib.hid (HW.out.trans' hE)
 have HS:=Lib.hid hS
 clear hE hp hS k0 hz
 go_wp2_with fail
 refine (z1i ps n p ra ta rcap tc W1 HS.out (HR.out.ext HW1.out) hn1.2 hn1.1 (HT.out.ext HW1.out) hl10 HU.out HLEN.out HLE.out).mono ?_
 rintro e W2 ⟨v,rfl,hE,hI⟩
 have HW2:=Lib.hid (HW1.out.trans' hE)
 have HS2:=Lib.hid (HS.out.ext hE)
 have HI:Hid (IsInts W2 .i64 v (natL [a])):=Lib.hid (by rw [HA.out];exact hI)
 clear hE hI
 go_wp2_with fail
 refine (zn5 [n] [a] ps v _ ta tc p W2 HS2.out (HT.out.ext HW2.out) HI.out HVT.out (fun k=>?_) rfl (by simp) (fun k hk=>?_)).mono ?_
 ·rcases k with _ | k
  ·exact hn1.2
  ·simp
 ·have h0:k=0:=by simpa using hk
  subst h0
  show a < 6
  omega
 rintro e W3 ⟨rfl,hE⟩
 have HW3:=Lib.hid (HW2.out.trans' hE)
 have HI3:=Lib.hid (HI.out.ext hE)
 clear hE
 obtain ⟨u,hu⟩:∃ u,u=zar (zn ps) (oneB [a]) ps.length:=⟨_,rfl⟩
 have HUU:=Lib.hid hu
 rw [← hu]
 clear hu
 go_wp2_with fail
 refine bodyPost_ret (v:=.tuple #[.int .i64 u,v,.int .i64 0]) (by simp [results,Tryz.results11,go_sem]) rfl ?_
 exact ⟨v,by rw [HUU.out],HW3.out,HI3.out⟩
set_option maxRecDepth 100000 in
set_option maxHeartbeats 4000000 in
theorem z3y (n r:Nat) (q:Int) (ps:List (Value × Tk)) (ra ta:Option Addr) (rcap tc:Nat) (lv:Value) (w:World) (hr:IsInts w .i64 (.slice ra 1 rcap) (natL [n])) (ht:IsTks w (.slice ta ps.length tc) ps) (hl:IsInts w .i64 lv (natL [r])) (hrn:r < n) (hq:0≤q∧q≤1099511627776) (V:CardV [n]) (VT:TksV [n] (zn ps)) :
  Calls Tryz.prog 14 #[.agg #[.slice ra 1 rcap],.slice ta ps.length tc,.int .i64 q,lv] w fun e w' =>
   e = .returned (if zar (zn ps) (oneB [r]) ps.length=0 then .tuple #[.int .i64 0,.int .i64 q,.int .i64 0] else .tuple #[.int .i64 (q / zar (zn ps) (oneB [r]) ps.length),.int .i64 (q % zar (zn ps) (oneB [r]) ps.length),.int .i64 0])∧Ext w w':=by
 have hn1:1≤n∧n≤6:=V.each 0 (by simp)
 have hl10:ps.length≤10:=by have:=VT.hi;simpa [zn] using this
 have hbd:=zgs VT.u (oneB [r]) ps.length (by simp [zn])
 obtain ⟨u,hu⟩:∃ u,u=zar (zn ps) (oneB [r]) ps.length:=⟨_,rfl⟩
 rw [← hu] at hbd ⊢
 have HUU:=Lib.hid hu
 have HV:=Lib.hid V
 have HVT:=Lib.hid VT
 have HR:=Lib.hid hr
 have HT:=Lib.hid ht
 have HL:=Lib.hid hl
 obtain ⟨la,lc,rfl,-,-,-⟩:=hl.spec
 have HL:Hid (IsInts w .i64 (.slice la 1 lc) (natL [r])):=HL
 show Calls Tryz.prog 14 #[.agg #[.slice ra 1 rcap],.slice ta ps.length tc,.int .i64 q,.slice la 1 lc] w _
 clear hr ht hl V VT hu
 go_enter Tryz.func14,Tryz.ntmps14
 go_upto_region 1 with (fail)
 obtain ⟨W0,hW0⟩:∃ W0,W0=w.alloc (.cells #[.slice ra 1 rcap] 30):=⟨_,rfl⟩
 have hE:Ext w W0:=by rw [hW0];exact xx
 have k0:W0.cell? ⟨w.heap.size,0,none⟩=some (.slice ra 1 rcap):=by rw [hW0];simp [go_sem]
 have hz:w.heap.size < W0.heap.size:=World.block_lt_of_cell? _ _ k0
 have HW:=Lib.hid hE
 rw [← hW0]
 clear hW0 hE
 go_wp2_with fail
 refine (zt9 [n] ps ra ta rcap tc W0 (HR.out.ext HW.out) (HT.out.ext HW.out) HV.out HVT.out).mono ?_
 rintro e W1 ⟨p,rfl,hE,hp,hS⟩
 have HW1:=Lib.hid (HW.out.trans' hE)
 have HS:=Lib.hid hS
 replace k0:=zb hE k0
 replace hz:=World.block_lt_of_cell? _ _ k0
 simp only at hz
 clear hE hp hS
 go_wp2_with fail
 have hqi:[q].all (inR 0 1099511627776)=true:=by rw [zlc,zn3 hq]
 refine (zem 0 1099511627776 _ [q] _ (zaq (by omega) (by omega) (by simp [go_sem]))).mono ?_
 rintro e W2 ⟨rfl,hE⟩
 have HE12:Hid (Ext W1 W2):=Lib.hid (Ext.trans' (by exact xx) hE)
 have hE12:=HE12.out
 have HW2:=Lib.hid (HW1.out.trans' hE12)
 have HS2:=Lib.hid (HS.out.ext hE12)
 replace k0:=zb hE12 k0
 replace hz:=World.block_lt_of_cell? _ _ k0
 simp only at hz
 rw [hqi]
 clear hE hE12 hqi
 go_wp2_with fail
 refine (z52 [r] [n] (.slice la 1 lc) _ ra rcap p W2 HS2.out (HR.out.ext HW2.out) (HL.out.ext HW2.out) (by simp) (by simp) (fun k hk=>?_)).mono ?_
 ·have h0:k=0:=by simpa using hk
  subst h0
  exact hrn
 rintro e W3 ⟨rfl,hE⟩
 have HW3:=Lib.hid (HW2.out.trans' hE)
 have HS3:=Lib.hid (HS2.out.ext hE)
 clear hE k0 hz
 go_wp2_with fail
 refine (zn5 [n] [r] ps (.slice la 1 lc) _ ta tc p W3 HS3.out (HT.out.ext HW3.out) (HL.out.ext HW3.out) HVT.out (fun k=>?_) rfl (by simp) (fun k hk=>?_)).mono ?_
 ·rcases k with _ | k
  ·exact hn1.2
  ·simp
 ·have h0:k=0:=by simpa using hk
  subst h0
  show r < 6
  omega
 rintro e W4 ⟨rfl,hE⟩
 have HW4:=Lib.hid (HW3.out.trans' hE)
 rw [← HUU.out]
 clear hE
 by_cases hu0:u=0
 ·have hub:(u == 0)=true:=by rw [beq_iff_eq];exact hu0
  have HU0:=Lib.hid hu0
  clear hu0
  go_wp2_with fail
  refine bodyPost_ret (v:=.tuple #[.int .i64 0,.int .i64 q,.int .i64 0]) (by simp [results,Tryz.results14,go_sem]) rfl ?_
  exact ⟨by first | rfl | rw [if_pos HU0.out],HW4.out⟩
 ·have hub:(u == 0)=false:=by rw [beq_eq_false_iff_ne];exact hu0
  have h1:IntKind.i64.wrap (q.tdiv u)=q / u:=IntWalk.i64_quo _ _ ⟨hq.1,by omega,by omega⟩
  have h2:q.tmod u=q % u:=Int.tmod_eq_emod_of_nonneg hq.1
  obtain ⟨a,ha⟩:∃ a,a=q / u:=⟨_,rfl⟩
  obtain ⟨b,hb⟩:∃ b,b=q % u:=⟨_,rfl⟩
  rw [← ha] at h1
  rw [← hb] at h2
  have HA:=Lib.hid ha
  have HB:=Lib.hid hb
  have HU0:=Lib.hid hu0
  clear ha hb
  go_upto_region 13 with (fail)
  refine zfj 7 rfl (by kernel_rfl) (W4.heap.size) (Nat.le_refl _)
   [sqV (.int .i64 q),sqV (.int .i64 u),sqV (.int .i64 a),sqV (.int .i64 q),sqV (.int .i64 u),sqV (.int .i64 b),sqV (.int .i64 a)]
   [true,true,true,true,true,true,true] [false,false,false,false,false,false,false] [true,true,true,true,true,true,true] [true,true,true,true,true,true,true]
   (by kernel_rfl) (by kernel_rfl) (by decide +kernel) (by decide +kernel) (by decide +kernel) rfl ⟨rfl,rfl⟩ ⟨?s0,?s1,?s2,?s3,?s4,?s5,?s6,trivial⟩ [some 47,some 48,some 49,some 50,some 51,some 52,some 8] rfl rfl ?send
  case s0 =>
   intro val ρ W hE hz hd hA hx
   have o0:ρ (.tmp 2) = .int .i64 q:=hA.old 2 (by decide)
   clear hd
   exact zd (W':=W) (by simp [execOp,o0,go_sem]) (Below.refl _ _) rfl
  case s1 =>
   intro val ρ W hE hz hd hA hx
   have o0:ρ (.tmp 13) = .int .i64 u:=hA.old 13 (by decide)
   clear hd
   exact zd (W':=W) (by simp [execOp,o0,go_sem]) (Below.refl _ _) rfl
  case s2 =>
   intro val ρ W hE hz hd hA hx
   have d0:ρ (.tmp 47) = .int .i64 q:=(hA.dep 0 (by decide) 47 rfl).trans (hd 0 (by decide))
   have d1:ρ (.tmp 48) = .int .i64 u:=(hA.dep 1 (by decide) 48 rfl).trans (hd 1 (by decide))
   clear hd
   exact zd (W':=W) (by simp [execOp,d0,d1,h1,hu0,go_sem]) (Below.refl _ _) rfl
  case s3 =>
   intro val ρ W hE hz hd hA hx
   have o0:ρ (.tmp 2) = .int .i64 q:=hA.old 2 (by decide)
   clear hd
   exact zd (W':=W) (by simp [execOp,o0,go_sem]) (Below.refl _ _) rfl
  case s4 =>
   intro val ρ W hE hz hd hA hx
   have o0:ρ (.tmp 13) = .int .i64 u:=hA.old 13 (by decide)
   clear hd
   exact zd (W':=W) (by simp [execOp,o0,go_sem]) (Below.refl _ _) rfl
  case s5 =>
   intro val ρ W hE hz hd hA hx
   have d3:ρ (.tmp 50) = .int .i64 q:=(hA.dep 3 (by decide) 50 rfl).trans (hd 3 (by decide))
   have d4:ρ (.tmp 51) = .int .i64 u:=(hA.dep 4 (by decide) 51 rfl).trans (hd 4 (by decide))
   clear hd
   exact zd (W':=W) (by simp [execOp,d3,d4,h2,hu0,go_sem]) (Below.refl _ _) rfl
  case s6 =>
   intro val ρ W hE hz hd hA hx
   have d2:ρ (.tmp 49) = .int .i64 a:=(hA.dep 2 (by decide) 49 rfl).trans (hd 2 (by decide))
   clear hd
   exact zd (W':=W) (by simp [execOp,d2,go_sem]) (Below.refl _ _) rfl
  case send =>
   intro val W5 hE hzz hv
   obtain ⟨-,-,r2,-,-,r5,r6,-⟩:=hv
   have q2:val 2 = .int .i64 a:=r2
   have q6:val 6 = .int .i64 a:=r6
   have q5:val 5 = .int .i64 b:=r5
   simp only [putD,q2,q5,q6]
   go_frame
   have HW5:=Lib.hid (HW4.out.trans' hE)
   clear hE hzz q2 q5 q6 r2 r5 r6
   go_wp2_with fail
   refine bodyPost_ret (v:=.tuple #[.int .i64 a,.int .i64 b,.int .i64 0]) (by simp [results,Tryz.results14,go_sem]) rfl ?_
   exact ⟨by first | rw [HA.out,HB.out] | rw [if_neg HU0.out,HA.out,HB.out],HW5.out⟩
end Go.Proofs.YtkbaiobnibmmgaaGreat
