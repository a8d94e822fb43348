/-
  The walk of won04: a finish in which one runner is first, alone.
-/
import Derived.Test.YtkbaiobnibmmgaaGreatPc
import Derived.Test.YtkbaiobnibmmgaaGreatPa
import Derived.Test.YtkbaiobnibmmgaaGreatBb
import Derived.Test.YtkbaiobnibmmgaaGreatXe
import Derived.Test.YtkbaiobnibmmgaaGreatPe
import Derived.Test.YtkbaiobnibmmgaaGreatRa
namespace Go.Proofs.YtkbaiobnibmmgaaGreat
open Go.RowKit Go.Shelf
attribute [local go_sem] Oper.semAt_some
def za4 (r:Int) (k:Nat):List Int:=((List.range k).map fun (i:Nat)=>(i:Int)).filter fun x=>x != r
theorem z1q (r:Int) (k:Nat):za4 r (k+1)=za4 r k ++ if (k:Int)=r then [] else [(k:Int)]:=by
 unfold za4
 rw [List.range_succ,List.map_append,List.filter_append]
 congr 1
 by_cases h:(k:Int)=r<;>simp [h]
theorem z4b (r:Int) (k:Nat):(za4 r k).length≤k:=by
 unfold za4
 exact Nat.le_trans (List.length_filter_le _ _) (by simp)
theorem z4c {w:World} {b:Nat} {x y:Value} {l m:List Int} (hx:IsInts w .i64 x l) (hy:IsInts w .i64 y m) (c0:w.cell? ⟨b,0,none⟩=some x) (c1:w.cell? ⟨b,1,none⟩=some y):IsFin w (.slice (some ⟨b,0,none⟩) 2 2) [(x,l),(y,m)]:=by
 refine ⟨⟨some ⟨b,0,none⟩,2,rfl,by simp,by simp,.inr ⟨b,0,rfl,fun i hi k hk=>?_⟩⟩,fun z hz=>?_⟩
 ·simp only [List.map_cons,List.map_nil,List.length_cons,List.length_nil] at hi
  match i,hi with
  | 0,_ =>
   simp only [List.map_cons,List.map_nil,List.getElem_cons_zero,List.length_cons,List.length_nil] at hk ⊢
   have:k=0:=by omega
   subst this
   simpa using c0
  | 1,_ =>
   simp only [List.map_cons,List.map_nil,List.getElem_cons_succ,List.getElem_cons_zero,List.length_cons,List.length_nil] at hk ⊢
   have:k=0:=by omega
   subst this
   simpa using c1
 ·simp only [List.mem_cons,List.not_mem_nil,or_false] at hz
  rcases hz with rfl | rfl
  ·exact hx
  ·exact hy
set_option maxRecDepth 100000 in
set_option maxHeartbeats 4000000 in
theorem zuk (n:Nat) (r:Int) (w:World) (hn:n≤1000) :
  Calls Tryz.prog 9 #[.int .i64 n,.int .i64 r] w fun e w'=>∃ v,e = .returned v∧Ext w w'∧∃ ps,IsFin w' v ps∧zf ps=[[r],za4 r n]:=by
 go_enter Tryz.func9,Tryz.ntmps9
 go_wp2_with fail
 go_loopw [5,6] (fun ov iv W=>∃ k:Nat,k≤n∧iv = .int .i64 k∧Owns W w.heap.size 3 1 ov ((za4 r k).map iRow)∧Ext w W) (fun _ iv _=>n - (intOf iv).toNat)
 case atStart=>exact ⟨0,by omega,rfl,Owns.nil _ _ _ _,Below.refl _ _⟩
 case round =>
  obtain ⟨k,hk,rfl,ho,hE⟩:=hrel
  obtain ⟨X,rfl⟩:∃ X,X=wr:=⟨_,rfl⟩
  have HO:=Lib.hid ho
  have HE:=Lib.hid hE
  obtain ⟨oa,on,oc,rfl⟩:=ho.isSlice
  by_cases hlt:k < n
  ·have hki:(k:Int) < (n:Int):=by omega
   have hsu:=z1q r k
   have hol:=z4b r k
   by_cases hkr:(k:Int)=r
   ·have hb:((k:Int) != r)=false:=by simp [hkr]
    have HSU:Hid (za4 r (k+1)=za4 r k):=Lib.hid (by rw [hsu,if_pos hkr,List.append_nil])
    clear hsu ho hE hkr hol
    go_wp2_with fail
    go_roundw
    case rel=>exact ⟨k+1,by omega,by go_num,by rw [HSU.out];exact HO.out,HE.out⟩
    case measure=>simp [intOf];omega
   ·have hb:((k:Int) != r)=true:=by simp [hkr]
    have HSU:Hid ((za4 r (k+1)).map iRow=(za4 r k).map iRow ++ [[.int .i64 (k:Int)]]):=Lib.hid (by rw [hsu,if_neg hkr,List.map_append];rfl)
    have HLEN:Hid (((za4 r k).map iRow).length + [[Value.int .i64 (k:Int)]].length≤1000000):=Lib.hid (by simp;omega)
    clear hsu ho hE hkr hol
    go_wp2_with (at_builtin;go_loud (refine z6r rfl (.tmp 15) (.tmp 17) zre rfl w.heap.size rfl (HO.out.ext (by exact xx)) X.heap.size 0 1 [[.int .i64 (k:Int)]] rfl (by simp) (zmb _ [.int .i64 (k:Int)] _ _ _ rfl rfl) (by simp [Value.oneCell']) HLEN.out (by have:=HE.out.size;simp;omega) ?_))
    intro v' W4 hown4 hb4
    obtain ⟨va2,vn,vc2,rfl⟩:=hown4.isSlice
    have hE4:Ext w W4:=Below.trans (HE.out.trans' (by exact xx:Ext X (X.alloc (.cells #[.int .i64 (k:Int)] 3)))) hb4
    have HO4:=Lib.hid hown4
    have HE4:=Lib.hid hE4
    clear hown4 hb4 hE4
    go_wp2_with fail
    go_roundw
    case rel=>exact ⟨k+1,by omega,by go_num,by rw [HSU.out];exact HO4.out,HE4.out⟩
    case measure=>simp [intOf];omega
  ·have hki:¬ ((k:Int) < (n:Int)):=by omega
   have hke:k=n:=by omega
   have HO3:Hid (IsInts X .i64 (.slice oa on oc) (za4 r n)):=Lib.hid (by rw [← hke];exact ho.oneInts)
   clear ho hE hke
   go_wp2_with fail
   go_ret
   refine ⟨_,rfl,HE.out.trans' (by exact xx),[(.slice (some ⟨X.heap.size,0,none⟩) 1 1,[r]),(.slice oa on oc,za4 r n)],z4c ?_ ?_ (by simp [go_sem]) (by simp [go_sem]),rfl⟩
   ·exact zaq (by omega) (by omega) (by simp [go_sem])
   ·exact HO3.out.ext (by exact xx)
end Go.Proofs.YtkbaiobnibmmgaaGreat
namespace Go.Proofs.YtkbaiobnibmmgaaGreat
structure PlainB (b:Bk) (n:Nat):Prop where
 v:BVal b
 kd:b.kd=0
 scr:b.scr=[]
 car:b.car=0
 duty:b.duty=0
 step:b.step=1
 n:b.n=n
theorem zz0 {b:Bk} (v:BVal b):zai b=0:=by
 unfold zai
 have h2:inR 0 3 b.kd=true:=inR_iff.2 v.kd
 have h3:=inR_iff.2 v.n
 have h4:=inR_iff.2 v.car
 have h5:=inR_iff.2 v.duty
 have h6:=inR_iff.2 v.step
 have h7:b.bets.any (oddB b)=false:=by
  rw [List.any_eq_false]
  intro x hx
  simp [v.odd x hx]
 have h8:b.scr.all (zb7 b.n)=true:=List.all_eq_true.2 fun r hr=>isRun_iff.2 (v.scr r hr)
 have h9:=v.many
 have h10:=v.left
 have h11:=v.inc
 rw [if_neg (by simp [h2]),if_neg (by simp [h3,h4,h5,h6]),if_neg (by omega),if_neg (by simp [h7]),if_neg]
 simp only [not_or,Bool.not_eq_false]
 exact ⟨by omega,h8,h11⟩
section
variable {b:Bk} {n:Nat} (h:PlainB b n)
include h
theorem PlainB.two:2≤n:=by have:=h.v.n;have:=h.n;omega
theorem PlainB.out (r:Int):outB b r=false:=by unfold outB;rw [h.scr];rfl
theorem PlainB.run:runL b=(List.range n).map fun (i:Nat)=>(i:Int):=by
 unfold runL runK
 rw [h.n,Int.toNat_natCast,List.filter_eq_self.2]
 intro x _
 simp [h.out]
theorem PlainB.single:single b=true:=by unfold Go.Proofs.YtkbaiobnibmmgaaGreat.single;rw [h.kd];rfl
theorem PlainB.on {x:PB} (hx:x∈b.bets):onP b x=some (x.f,-1):=by
 unfold onP
 rw [if_pos ⟨h.out _,h.out _⟩,(h.v.bet hx).2.2.1 h.single]
theorem PlainB.units (r:Int):zz b (r,-1)=sumB (fun x=>if x.f=r then x.u else 0) b.bets:=by
 unfold zz
 refine zgq fun x hx=>?_
 unfold za8
 rw [h.on hx]
 simp
theorem PlainB.sums (r:Int):zbe b r=zz b (r,-1):=by
 rw [h.units]
 unfold zbe
 refine zgq fun x hx=>?_
 unfold onF
 simp [h.out]
theorem PlainB.inp:inP b=sumB (fun x=>100 * x.u) b.bets:=by unfold inP;rw [h.car];omega
theorem PlainB.back:zbg b=0:=by
 unfold zbg
 have:∀ l:List PB,(∀ x∈l,zcp b x=0)→sumB (zcp b) l=0:=by
  intro l
  induction l with
  | nil=>intro _;rfl
  | cons a l ih =>
   intro hl
   rw [sumB,hl a (by simp),ih fun x hx=>hl x (by simp [hx])]
   rfl
 refine this _ fun x hx=>?_
 unfold zcp
 rw [h.on hx]
 simp
theorem PlainB.net:netP b=inP b:=by unfold netP zeh;rw [h.back,h.duty];simp
theorem PlainB.inb (hl:b.bets.length≤10):0≤inP b∧inP b≤1000000:=by
 rw [h.inp]
 have:=zg7 (g:=fun x=>100 * x.u) (c:=100000) (by omega) (l:=b.bets) fun x hx=>by
  have:=(h.v.bet hx).1
  omega
 omega
theorem PlainB.wins (r:Int) (l:List Int):zbj b [[r],l]=[(r,-1)]:=by
 unfold zbj
 have hg:grp b [[r],l]=1:=by unfold grp;rw [if_neg];rw [h.kd];simp
 have hf:za6 [[r],l] 1=[r]:=by unfold za6 zmk;simp
 rw [hg,hf]
 simp only [List.flatMap_cons,List.flatMap_nil,List.append_nil]
 unfold zaa
 rw [if_pos h.single]
theorem PlainB.backed (r:Int) (l:List Int):zca b [[r],l]=if zz b (r,-1)=0 then [] else [(r,-1)]:=by
 unfold zca
 rw [h.wins]
 by_cases hu:zz b (r,-1)=0<;>simp [hu]
theorem PlainB.div (r:Int) (l:List Int):divP b [[r],l]=if zz b (r,-1)=0 then [] else [((r,-1),inP b / zz b (r,-1))]:=by
 unfold divP
 have hb:=h.backed r l
 by_cases hu:zz b (r,-1)=0
 ·rw [hb,if_pos hu,if_pos hu];rfl
 ·rw [hb,if_neg hu,if_neg hu]
  unfold zd3 zfl
  rw [hb,if_neg hu,h.net,h.step]
  simp
theorem PlainB.acc (r:Int) (l:List Int):(accA b [[r],l]).i=inP b∧(accA b [[r],l]).q+(accA b [[r],l]).o=if zz b (r,-1)=0 then inP b else inP b % zz b (r,-1):=by
 unfold accA netA zo8
 rw [h.div]
 by_cases hu:zz b (r,-1)=0
 ·rw [if_pos hu,if_pos hu,if_pos rfl,h.net]
  exact ⟨rfl,by simp⟩
 ·rw [if_neg hu,if_neg hu,if_neg (by simp),h.net]
  refine ⟨rfl,?_⟩
  simp only [List.map_cons,List.map_nil,List.sum_cons,List.sum_nil]
  have:=Int.emod_add_mul_ediv (inP b) (zz b (r,-1))
  rw [Int.mul_comm] at this
  omega
theorem PlainB.oth {r:Nat}:za4 r n=(runL b).erase (r:Int):=by
 rw [(zsa b).erase_eq_filter,h.run];rfl
theorem PlainB.fin {r:Nat} (hr:r < n):za2 b [[(r:Int)],za4 r n]=0:=by
 have hz:=zz0 h.v
 unfold za2
 rw [if_neg (by simp [hz]),if_pos]
 have hself:∀ l:List Int,chkG l l=some []:=by
  intro l
  induction l with
  | nil=>rfl
  | cons a l ih =>
   unfold chkG
   rw [if_pos (by simp),List.erase_cons_head]
   exact ih
 have hmem:(r:Int)∈runL b:=by
  rw [h.run]
  exact List.mem_map.2 ⟨r,List.mem_range.2 hr,rfl⟩
 have hne:za4 (r:Int) n≠[]:=by
  have h2:=h.two
  unfold za4
  intro hn
  rw [List.filter_eq_nil_iff] at hn
  have h3:=hn ((if r=0 then 1 else 0:Nat):Int) (List.mem_map.2 ⟨_,List.mem_range.2 (by split<;>omega),rfl⟩)
  split at h3
  ·rename_i h0;subst h0;simp at h3
  ·rename_i h0
   simp at h3
   omega
 have hri:rising (za4 (r:Int) n)=true:=by
  have hp:(za4 (r:Int) n).Pairwise (· < ·):=by
   unfold za4
   refine List.Pairwise.filter _ ?_
   rw [List.pairwise_map]
   exact List.pairwise_lt_range.imp fun h=>by omega
  unfold rising
  rw [Bool.not_eq_true',List.any_eq_false]
  intro i hi
  unfold flat
  by_cases h0:0 < i
  ·have hi:=List.mem_range.1 hi
   have:=(List.pairwise_iff_getElem.1 hp) (i - 1) i (by omega) hi (by omega)
   rw [gt_get,gt_get] at this
   simp
   omega
  ·simp [h0]
 unfold chkF
 rw [if_neg (by simp [rising,flat])]
 unfold chkG
 rw [if_pos hmem]
 unfold chkG
 simp only [Option.bind_some]
 unfold chkF
 rw [if_neg (by rw [hri];simp [hne]),← h.oth,hself]
 rfl
def tkP (b:Bk):List Tk:=b.bets.map fun x=>⟨[2 ^ x.f.toNat],x.u⟩
omit h in
theorem zg8 (b:Bk):(tkP b).length=b.bets.length:=by simp [tkP]
omit h in
theorem z9p (b:Bk) {k:Nat} (hk:k < b.bets.length):(tkP b).getD k ⟨[],0⟩=⟨[2 ^ b.bets[k].f.toNat],b.bets[k].u⟩:=by
 unfold tkP
 rw [List.getD_eq_getElem?_getD,List.getElem?_map,List.getElem?_eq_getElem hk]
 rfl
theorem PlainB.fst {x:PB} (hx:x∈b.bets):∃ f:Nat,x.f=f∧f < n:=by
 have h1:=(h.v.bet hx).2.1
 have h2:=h.n
 exact ⟨x.f.toNat,by omega,by omega⟩
theorem PlainB.tks (hl:b.bets.length≤10):TksV [n] (tkP b):=by
 refine ⟨by rw [zg8];exact hl,fun t ht=>?_,fun t ht r hr=>?_,fun t ht=>?_⟩
 all_goals obtain ⟨x,hx,rfl⟩:=List.mem_map.1 ht
 ·rfl
 ·have h0:r=0:=by simp at hr;omega
  subst h0
  obtain ⟨f,e,hf⟩:=h.fst hx
  simp only [List.getD_cons_zero,e,Int.toNat_natCast]
  have h1:2 ^ (f+1)≤2 ^ n:=Nat.pow_le_pow_right (by omega) hf
  have h2:1≤2 ^ f:=Nat.one_le_two_pow
  rw [Nat.pow_succ] at h1
  omega
 ·exact (h.v.bet hx).1
omit h in
theorem z8m (f r:Nat):((2 ^ f &&& 2 ^ r) == 2 ^ r)=decide (f=r):=by
 by_cases e:f=r
 ·subst e;simp
 ·rw [decide_eq_false e,beq_eq_false_iff_ne]
  intro he
  have:=congrArg (fun x=>x.testBit r) he
  simp [Nat.testBit_two_pow_self,e] at this
theorem PlainB.has {x:PB} (hx:x∈b.bets) (r:Nat):zcq [2 ^ x.f.toNat] [2 ^ r] 1=decide (x.f=r):=by
 obtain ⟨f,e,-⟩:=h.fst hx
 unfold zcq
 rw [e,Int.toNat_natCast]
 have:=z8m f r
 simp only [List.range_succ,List.range_zero,List.nil_append,List.all_cons,List.all_nil,Bool.and_true,List.getD_cons_zero,this]
 rw [decide_eq_decide]
 omega
theorem PlainB.to (r:Nat):∀ k,k≤b.bets.length→zar (tkP b) (oneB [r]) k=sumB (fun x=>if x.f=r then x.u else 0) (b.bets.take k)
 | 0,_=>rfl
 | k+1,hk=>by
  have hk':k < b.bets.length:=by omega
  unfold zar
  rw [PlainB.to r k (by omega),zc7 _ hk',z9p b hk']
  have hx:=h.has (List.getElem_mem hk') r
  simp only [oneB,List.map_cons,List.map_nil,List.length_cons,List.length_nil,Nat.zero_add,hx]
  by_cases e:b.bets[k].f=r<;>simp [e]
theorem PlainB.unitsT (r:Nat):zar (tkP b) (oneB [r]) b.bets.length=zz b ((r:Int),-1):=by
 rw [h.to r _ (Nat.le_refl _),List.take_length,h.units]
theorem PlainB.val (r:Nat):∀ k,k≤b.bets.length→valB (zam (tkP b)) (zcd (zbt (tkP b)) 0 (List.replicate b.bets.length true) r) k=sumB (fun x=>if x.f=r then x.u else 0) (b.bets.take k)
 | 0,_=>rfl
 | k+1,hk=>by
  have hk':k < b.bets.length:=by omega
  unfold valB
  rw [PlainB.val r k (by omega),zc7 _ hk']
  obtain ⟨f,e,-⟩:=h.fst (List.getElem_mem hk')
  have hu:(zam (tkP b)).getD k 0=b.bets[k].u:=by
   unfold zam tkP
   rw [List.getD_eq_getElem?_getD,List.map_map,List.getElem?_map,List.getElem?_eq_getElem hk']
   rfl
  have hn:(zcd (zbt (tkP b)) 0 (List.replicate b.bets.length true) r).getD k false=decide (f=r):=by
   unfold zcd zbt
   rw [List.getD_eq_getElem?_getD,List.getElem?_map,List.length_map,zg8,List.getElem?_range hk']
   simp only [Option.map_some,Option.getD_some]
   have h1:((tkP b).map (·.s)).getD k []=[2 ^ f]:=by
    unfold tkP
    rw [List.getD_eq_getElem?_getD,List.map_map,List.getElem?_map,List.getElem?_eq_getElem hk']
    simp only [Option.map_some,Option.getD_some,Function.comp,e,Int.toNat_natCast]
   have h2:(List.replicate b.bets.length true).getD k false=true:=by
    rw [List.getD_eq_getElem?_getD,List.getElem?_replicate,if_pos hk'];rfl
   rw [h1,h2,List.getD_cons_zero,Nat.testBit_two_pow,Bool.true_and]
  rw [hu,hn,e]
  by_cases e2:f=r
  ·subst e2;simp
  ·have:¬ ((f:Int)=(r:Int)):=by omega
   simp [e2,this]
theorem PlainB.leftB {ps:List (Value × Tk)} (ht:zn ps=tkP b) (r:Nat):leftB ps (List.replicate ps.length true) r = -(zz b ((r:Int),-1)):=by
 have hl:ps.length=b.bets.length:=by rw [← zg8,← ht];simp [zn]
 unfold Go.Proofs.YtkbaiobnibmmgaaGreat.leftB
 rw [ht,hl,h.val r _ (Nat.le_refl _),List.take_length,h.units]
omit h in
theorem zul (l:List Int) (g:Int→Int) (n:Nat) (hn:1≤n) (hl:∀ i,i < n→l.getD i 0 = -(g i)):∀ k,k≤n→((zax l k:Nat):Int)=za7 g 0 ((List.range k).map fun (i:Nat)=>(i:Int))
 | 0,_=>rfl
 | k+1,hk=>by
  have ih:=zul l g n hn hl k (by omega)
  have hb:=zua l k
  rw [List.range_succ,List.map_append,List.map_cons,List.map_nil,zmm,← ih]
  have e:zax l (k+1)=if l.getD k 0 < l.getD (zax l k) 0 then k else zax l k:=rfl
  rw [e,hl k (by omega),hl (zax l k) (by omega)]
  by_cases hc:g (zax l k:Nat) < g (k:Nat)
  ·rw [if_pos hc,if_pos (by omega)]
  ·rw [if_neg hc,if_neg (by omega)]
theorem PlainB.best {ps:List (Value × Tk)} (ht:zn ps=tkP b):((zax (zbp ps (List.replicate ps.length true) n) n:Nat):Int)=favP b:=by
 have h2:=h.two
 have hs:zbe b=fun r=>zz b (r,-1):=funext h.sums
 have h0:(runL b).headD 0=0:=by
  rw [h.run]
  cases n with
  | zero=>rfl
  | succ m=>rw [List.range_succ_eq_map];rfl
 unfold favP
 rw [hs,h0,h.run]
 refine zul _ _ n (by omega) (fun i hi=>?_) n (Nat.le_refl _)
 unfold zbp
 rw [List.getD_eq_getElem?_getD,List.getElem?_map,List.getElem?_range hi]
 exact h.leftB ht i
end
end Go.Proofs.YtkbaiobnibmmgaaGreat
namespace Go.Proofs.YtkbaiobnibmmgaaGreat
open Go.RowKit Go.Shelf
attribute [local go_sem] Oper.semAt_some
def plB (b:Bk):Bk:={ b with kd:=0,scr:=[],car:=0,step:=1,duty:=wrap64 (wrap64 (b.duty.tdiv 10) * 10) }
def ResAt (W:World) (q:Nat):Prop:=W.heap[q]? = some (.cells #[.int .i64 0,.int .i64 0,.slice none 0 0,.slice none 0 0,.bool false,.int .i64 0,.int .i64 0,.int .i64 0] 25 (0,0))
def RetP (b:Bk) (ba:Option Addr) (bcap:Nat) (w:World) (e:Ending) (w':World):Prop:=∃ (kd:Int) (sa2:Option Addr) (ns cs:Nat) (car du st:Int) (ok:Bool),e = .returned (.tuple #[.agg #[.int .i64 kd,.int .i64 b.n,.slice ba b.bets.length bcap,.slice sa2 ns cs,.bool b.fav,.int .i64 car,.int .i64 du,.int .i64 st],.bool ok])∧Ext w w'∧(ok=true→BVal (plB b)∧kd=0∧sa2=none∧ns=0∧cs=0∧car=0∧st=1)
set_option maxRecDepth 100000 in
set_option maxHeartbeats 8000000 in
theorem zyo (b:Bk) (ba sa:Option Addr) (bcap scap:Nat) (w:World) (hv:IsBook w b ba bcap sa scap) :
  Calls Tryz.prog 5 #[.agg #[.int .i64 b.kd,.int .i64 b.n,.slice ba b.bets.length bcap,.slice sa b.scr.length scap,.bool b.fav,.int .i64 b.car,.int .i64 b.duty,.int .i64 b.step]] w (RetP b ba bcap w):=by
 have HV:=Lib.hid hv
 clear hv
 go_enter Tryz.func5,Tryz.ntmps5
 by_cases hb:110 < b.bets.length
 ·have hbi:(110:Int) < (b.bets.length:Int):=by omega
  go_wp2_with fail
  refine bodyPost_ret (v:=.tuple #[.agg #[.int .i64 b.kd,.int .i64 b.n,.slice ba b.bets.length bcap,.slice sa b.scr.length scap,.bool b.fav,.int .i64 b.car,.int .i64 b.duty,.int .i64 b.step],.bool false]) (by simp [results,Tryz.results5,go_sem]) rfl ?_
  exact ⟨_,_,_,_,_,_,_,false,rfl,by exact xx,by simp⟩
 ·have hbi:¬ ((110:Int) < (b.bets.length:Int)):=by omega
  obtain ⟨D,hD⟩:∃ D,D=wrap64 (wrap64 (b.duty.tdiv 10) * 10):=⟨_,rfl⟩
  go_upto_region 5 with (fail)
  rw [← hD]
  have HD:=Lib.hid hD
  obtain ⟨W0,hW0⟩:∃ W0,W0=(w.alloc (.cells #[.int .i64 0,.int .i64 b.n,.slice ba b.bets.length bcap,.slice none 0 0,.bool b.fav,.int .i64 0,.int .i64 D,.int .i64 1] 25)).alloc (.cells #[.int .i64 0,.int .i64 0,.slice none 0 0,.slice none 0 0,.bool false,.int .i64 0,.int .i64 0,.int .i64 0] 25):=⟨_,rfl⟩
  have hE:Ext w W0:=by rw [hW0];exact xx
  obtain ⟨P,hP⟩:∃ P,P=plB b:=⟨_,rfl⟩
  have k0:W0.cell? ⟨w.heap.size,0,none⟩=some (.int .i64 0):=by rw [hW0];simp [go_sem]
  have k1:W0.cell? ⟨w.heap.size,1,none⟩=some (.int .i64 b.n):=by rw [hW0];simp [go_sem]
  have k2:W0.cell? ⟨w.heap.size,2,none⟩=some (.slice ba b.bets.length bcap):=by rw [hW0];simp [go_sem]
  have k3:W0.cell? ⟨w.heap.size,3,none⟩=some (.slice none 0 0):=by rw [hW0];simp [go_sem]
  have k4:W0.cell? ⟨w.heap.size,4,none⟩=some (.bool b.fav):=by rw [hW0];simp [go_sem]
  have k5:W0.cell? ⟨w.heap.size,5,none⟩=some (.int .i64 0):=by rw [hW0];simp [go_sem]
  have k6:W0.cell? ⟨w.heap.size,6,none⟩=some (.int .i64 D):=by rw [hW0];simp [go_sem]
  have k7:W0.cell? ⟨w.heap.size,7,none⟩=some (.int .i64 1):=by rw [hW0];simp [go_sem]
  have hres:ResAt W0 (w.heap.size+1):=by
   rw [hW0]
   have:=World.alloc_heap_new (w.alloc (.cells #[.int .i64 0,.int .i64 b.n,.slice ba b.bets.length bcap,.slice none 0 0,.bool b.fav,.int .i64 0,.int .i64 D,.int .i64 1] 25)) (.cells #[.int .i64 0,.int .i64 0,.slice none 0 0,.slice none 0 0,.bool false,.int .i64 0,.int .i64 0,.int .i64 0] 25)
   rw [World.size_alloc] at this
   exact this
  have hz:w.heap.size < W0.heap.size:=World.block_lt_of_cell? _ _ k0
  have HBK:Hid (IsBook W0 (plB b) ba bcap none 0):=Lib.hid ⟨(HV.out.ext hE).bets,(Owns.nil W0 0 3 1).oneInts (l:=[])⟩
  have HW:=Lib.hid hE
  have HRES:=Lib.hid hres
  rw [← hW0]
  clear hW0 hE hres hD
  go_wp2_with fail
  have hck:=zxx (plB b) ba none bcap 0 W0 HBK.out
  have hck:Calls Tryz.prog 28 #[.agg #[.int .i64 0,.int .i64 b.n,.slice ba b.bets.length bcap,.slice none 0 0,.bool b.fav,.int .i64 0,.int .i64 D,.int .i64 1]] W0 fun e w'=>e = .returned (.int .i64 (zai (plB b)))∧Ext W0 w':=by
   rw [HD.out]
   exact hck
  refine hck.mono ?_
  rintro e W1 ⟨rfl,hE⟩
  replace k0:=zb hE k0
  replace k1:=zb hE k1
  replace k2:=zb hE k2
  replace k3:=zb hE k3
  replace k4:=zb hE k4
  replace k5:=zb hE k5
  replace k6:=zb hE k6
  replace k7:=zb hE k7
  replace hz:=World.block_lt_of_cell? _ _ k0
  simp only at hz
  have HW1:=Lib.hid (HW.out.trans' hE)
  have HBK1:=Lib.hid (HBK.out.ext hE)
  have hr1:ResAt W1 (w.heap.size+1):=(hE.block _ (Array.getElem?_eq_some_iff.1 HRES.out).1).trans HRES.out
  have hz1:=(Array.getElem?_eq_some_iff.1 hr1).1
  have hrf:∀ o,W1.frozen? ⟨w.heap.size+1,o,none⟩=false:=fun o=>by
   have hr2:=hr1
   unfold ResAt at hr2
   simp [World.frozen?,hr2]
  have q0:W1.cell? ⟨w.heap.size+1,0,none⟩=some (.int .i64 0):=by rw [cell_of_row _ _ _ _ _ _ hr1];rfl
  have q1:W1.cell? ⟨w.heap.size+1,1,none⟩=some (.int .i64 0):=by rw [cell_of_row _ _ _ _ _ _ hr1];rfl
  have q2:W1.cell? ⟨w.heap.size+1,2,none⟩=some (.slice none 0 0):=by rw [cell_of_row _ _ _ _ _ _ hr1];rfl
  have q3:W1.cell? ⟨w.heap.size+1,3,none⟩=some (.slice none 0 0):=by rw [cell_of_row _ _ _ _ _ _ hr1];rfl
  have q4:W1.cell? ⟨w.heap.size+1,4,none⟩=some (.bool false):=by rw [cell_of_row _ _ _ _ _ _ hr1];rfl
  have q5:W1.cell? ⟨w.heap.size+1,5,none⟩=some (.int .i64 0):=by rw [cell_of_row _ _ _ _ _ _ hr1];rfl
  have q6:W1.cell? ⟨w.heap.size+1,6,none⟩=some (.int .i64 0):=by rw [cell_of_row _ _ _ _ _ _ hr1];rfl
  have q7:W1.cell? ⟨w.heap.size+1,7,none⟩=some (.int .i64 0):=by rw [cell_of_row _ _ _ _ _ _ hr1];rfl
  clear hE hck hP
  by_cases he:zai (plB b)=0
  ·have heb:(zai (plB b) != 0)=false:=by simp [he]
   have HVB:=Lib.hid (zo6 he)
   have hn8:=HVB.out.n
   have hn8:2≤b.n∧b.n≤8:=hn8
   obtain ⟨m,HM⟩:∃ m:Nat,Hid (b.n=m):=⟨b.n.toNat,Lib.hid (by omega)⟩
   have hm8:m≤8:=by have:=HM.out;omega
   clear hn8
   have HR1:=Lib.hid hr1
   go_upto_region 7 with (fail)
   clear q0 q1 q2 q3 q4 q5 q6 q7 hrf hr1 hz1 heb he
   go_wp2_with fail
   go_loopw [4] (fun iv W=>∃ r:Nat,r≤m∧iv = .int .i64 r∧Ext W1 W) (fun iv _=>m - (intOf iv).toNat)
   case atStart=>exact ⟨0,by omega,rfl,Below.refl _ _⟩
   case round =>
    obtain ⟨r,hr,rfl,hE⟩:=hrel
    obtain ⟨X,rfl⟩:∃ X,X=wr:=⟨_,rfl⟩
    have HE:=Lib.hid hE
    replace k0:=zb hE k0
    replace k1:=zb hE k1
    replace k2:=zb hE k2
    replace k3:=zb hE k3
    replace k4:=zb hE k4
    replace k5:=zb hE k5
    replace k6:=zb hE k6
    replace k7:=zb hE k7
    replace hz:=World.block_lt_of_cell? _ _ k0
    simp only at hz
    clear hE
    by_cases hlt:r < m
    ·have HLT:=Lib.hid hlt
     have hri:(r:Int) < b.n:=by have:=HM.out;omega
     have hun:Calls Tryz.prog 13 #[.agg #[.int .i64 0,.int .i64 b.n,.slice ba b.bets.length bcap,.slice none 0 0,.bool b.fav,.int .i64 0,.int .i64 D,.int .i64 1],.agg #[.int .i64 r,.int .i64 (-1)]] X fun e w'=>e = .returned (.int .i64 (zz (plB b) ((r:Int),-1)))∧Ext X w':=by
      rw [HD.out]
      exact zsf ((r:Int),-1) (plB b) ba none bcap 0 X (HBK1.out.ext HE.out) HVB.out
     have HUN:=Lib.hid hun
     clear hun
     go_wp2_with fail
     refine HUN.out.mono ?_
     rintro e Z ⟨rfl,hE⟩
     have HEZ:=Lib.hid (HE.out.trans' hE)
     obtain ⟨u,hu⟩:∃ u,u=zz (plB b) ((r:Int),-1):=⟨_,rfl⟩
     rw [← hu]
     replace k0:=zb hE k0
     replace k1:=zb hE k1
     replace k2:=zb hE k2
     replace k3:=zb hE k3
     replace k4:=zb hE k4
     replace k5:=zb hE k5
     replace k6:=zb hE k6
     replace k7:=zb hE k7
     replace hz:=World.block_lt_of_cell? _ _ k0
     simp only at hz
     clear hE hu
     by_cases hu9:10000 < u
     ·have hud:decide (10000 < u)=true:=decide_eq_true hu9
      have hr1:ResAt Z (w.heap.size+1):=(HEZ.out.block _ (Array.getElem?_eq_some_iff.1 HR1.out).1).trans HR1.out
      have hz1:=(Array.getElem?_eq_some_iff.1 hr1).1
      have hrf:∀ o,Z.frozen? ⟨w.heap.size+1,o,none⟩=false:=fun o=>by
       have hr2:=hr1
       unfold ResAt at hr2
       simp [World.frozen?,hr2]
      have q0:Z.cell? ⟨w.heap.size+1,0,none⟩=some (.int .i64 0):=by rw [cell_of_row _ _ _ _ _ _ hr1];rfl
      have q1:Z.cell? ⟨w.heap.size+1,1,none⟩=some (.int .i64 0):=by rw [cell_of_row _ _ _ _ _ _ hr1];rfl
      have q2:Z.cell? ⟨w.heap.size+1,2,none⟩=some (.slice none 0 0):=by rw [cell_of_row _ _ _ _ _ _ hr1];rfl
      have q3:Z.cell? ⟨w.heap.size+1,3,none⟩=some (.slice none 0 0):=by rw [cell_of_row _ _ _ _ _ _ hr1];rfl
      have q4:Z.cell? ⟨w.heap.size+1,4,none⟩=some (.bool false):=by rw [cell_of_row _ _ _ _ _ _ hr1];rfl
      have q5:Z.cell? ⟨w.heap.size+1,5,none⟩=some (.int .i64 0):=by rw [cell_of_row _ _ _ _ _ _ hr1];rfl
      have q6:Z.cell? ⟨w.heap.size+1,6,none⟩=some (.int .i64 0):=by rw [cell_of_row _ _ _ _ _ _ hr1];rfl
      have q7:Z.cell? ⟨w.heap.size+1,7,none⟩=some (.int .i64 0):=by rw [cell_of_row _ _ _ _ _ _ hr1];rfl
      go_wp2_with fail
      refine bodyPost_ret (v:=.tuple #[.agg #[.int .i64 0,.int .i64 b.n,.slice ba b.bets.length bcap,.slice none 0 0,.bool b.fav,.int .i64 0,.int .i64 D,.int .i64 1],.bool false]) (by simp [results,Tryz.results5,go_sem,q0,q1,q2,q3,q4,q5,q6,q7]) rfl ?_
      refine ⟨_,_,_,_,_,_,_,false,rfl,?_,by simp⟩
      have hk:∀ W,Kept (fun k=>k≠w.heap.size+1) Z W→Ext w W:=fun W hk=>Below.trans (HW1.out.trans' HEZ.out) (Kept.below (hk.mono fun k _ h e=>by omega) (HW1.out.trans' HEZ.out).size)
      refine hk _ ?_
      repeat refine Kept.setCell ?_ (fun _ h=>h rfl) _
      exact Kept.refl _ _
     ·have hud:decide (10000 < u)=false:=decide_eq_false hu9
      go_wp2_with fail
      go_roundw
      case rel=>exact ⟨r+1,by have:=HLT.out;omega,by go_num,HEZ.out⟩
      case measure=>have:=HLT.out;simp [intOf];omega
    ·have hri:¬ ((r:Int) < b.n):=by have:=HM.out;omega
     have hr1:ResAt X (w.heap.size+1):=(HE.out.block _ (Array.getElem?_eq_some_iff.1 HR1.out).1).trans HR1.out
     have hz1:=(Array.getElem?_eq_some_iff.1 hr1).1
     have hrf:∀ o,X.frozen? ⟨w.heap.size+1,o,none⟩=false:=fun o=>by
      have hr2:=hr1
      unfold ResAt at hr2
      simp [World.frozen?,hr2]
     have q0:X.cell? ⟨w.heap.size+1,0,none⟩=some (.int .i64 0):=by rw [cell_of_row _ _ _ _ _ _ hr1];rfl
     have q1:X.cell? ⟨w.heap.size+1,1,none⟩=some (.int .i64 0):=by rw [cell_of_row _ _ _ _ _ _ hr1];rfl
     have q2:X.cell? ⟨w.heap.size+1,2,none⟩=some (.slice none 0 0):=by rw [cell_of_row _ _ _ _ _ _ hr1];rfl
     have q3:X.cell? ⟨w.heap.size+1,3,none⟩=some (.slice none 0 0):=by rw [cell_of_row _ _ _ _ _ _ hr1];rfl
     have q4:X.cell? ⟨w.heap.size+1,4,none⟩=some (.bool false):=by rw [cell_of_row _ _ _ _ _ _ hr1];rfl
     have q5:X.cell? ⟨w.heap.size+1,5,none⟩=some (.int .i64 0):=by rw [cell_of_row _ _ _ _ _ _ hr1];rfl
     have q6:X.cell? ⟨w.heap.size+1,6,none⟩=some (.int .i64 0):=by rw [cell_of_row _ _ _ _ _ _ hr1];rfl
     have q7:X.cell? ⟨w.heap.size+1,7,none⟩=some (.int .i64 0):=by rw [cell_of_row _ _ _ _ _ _ hr1];rfl
     go_wp2_with fail
     refine bodyPost_ret (v:=.tuple #[.agg #[.int .i64 0,.int .i64 b.n,.slice ba b.bets.length bcap,.slice none 0 0,.bool b.fav,.int .i64 0,.int .i64 D,.int .i64 1],.bool true]) (by simp [results,Tryz.results5,go_sem,q0,q1,q2,q3,q4,q5,q6,q7]) rfl ?_
     refine ⟨0,none,0,0,0,D,1,true,rfl,?_,fun _=>⟨HVB.out,rfl,rfl,rfl,rfl,rfl,rfl⟩⟩
     have hk:∀ W,Kept (fun k=>k≠w.heap.size+1) X W→Ext w W:=fun W hk=>Below.trans (HW1.out.trans' HE.out) (Kept.below (hk.mono fun k _ h e=>by omega) (HW1.out.trans' HE.out).size)
     refine hk _ ?_
     repeat refine Kept.setCell ?_ (fun _ h=>h rfl) _
     exact Kept.refl _ _
  ·have heb:(zai (plB b) != 0)=true:=by simp [he]
   obtain ⟨er,her⟩:∃ er,er=zai (plB b):=⟨_,rfl⟩
   rw [← her] at heb ⊢
   clear her he
   go_wp2_with fail
   refine bodyPost_ret (v:=.tuple #[.agg #[.int .i64 0,.int .i64 b.n,.slice ba b.bets.length bcap,.slice none 0 0,.bool b.fav,.int .i64 0,.int .i64 D,.int .i64 1],.bool false]) (by simp [results,Tryz.results5,go_sem,q0,q1,q2,q3,q4,q5,q6,q7]) rfl ?_
   refine ⟨_,_,_,_,_,_,_,false,rfl,?_,by simp⟩
   have hk:∀ W,Kept (fun k=>k≠w.heap.size+1) W1 W→Ext w W:=fun W hk=>Below.trans HW1.out (Kept.below (hk.mono fun k _ h e=>by omega) HW1.out.size)
   refine hk _ ?_
   repeat refine Kept.setCell ?_ (fun _ h=>h rfl) _
   exact Kept.refl _ _
end Go.Proofs.YtkbaiobnibmmgaaGreat
