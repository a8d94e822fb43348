/-
  Plain: the search of circle, as the program keeps it: what was gone through, what waits, and from where each state was found.
-/
import Derived.Test.YtnfdiohfojjnlaaGreatUc
import Derived.Test.YtnfdiohfojjnlaaGreatUa
import Derived.Test.YtnfdiohfojjnlaaGreatUe
import Derived.Deep.LoopGhost
import Derived.Laws.CopyOwn
set_option maxRecDepth 200000
set_option maxHeartbeats 0
namespace Go.Proofs.YtnfdiohfojjnlaaGreat.Tu
open Go.Lib (hid)
structure za3 (ks:List Int) (st:Int) (o q seen:List Int) (bf:Int→Int) (d:Int→Nat):Prop where
 b:Bfs (nxN ks) st (o ++ q) o.length seen d
 ch:∀ x,0 < d x→∃ row,zad ks bf st (d x) x row
 ze:∀ x,d x=0→bf x=0
 bd:∀ x∈o ++ q,0≤x∧x < zq ks
 le:∀ x,d x+1≤(o ++ q).length
theorem zad.bpos {ks:List Int} {bf:Int→Int} {st:Int} (h0:0≤st) {k:Nat} {y:Int} {row:List Int} (h:zad ks bf st k y row):0 < bf y:=by
 cases h with
 | one h1 _ _=>rw [h1];omega
 | more _ _ _ h1 _ _=>rw [h1];omega
theorem za3.start {ks:List Int} {st:Int} (h0:0≤st) (h1:st < zq ks):za3 ks st [] [st] [] (fun _=>0) (fun _=>0) :=
 ⟨Bfs.start _ _,fun x h=>by omega,fun _ _=>rfl,fun x hx=>by simp at hx;subst hx;exact ⟨h0,h1⟩,fun x=>by simp⟩
section
variable {ks:List Int} {st:Int} {o q seen:List Int} {bf:Int→Int} {d:Int→Nat}
theorem za3.len (h:za3 ks st o q seen bf d) (v:TVal ks):o.length+q.length≤nSt ks:=by
 have h1:((o ++ q).map Int.toNat).Nodup:=nodup_map _ h.b.nodup fun x hx y hy e=>by
  have:=h.bd x hx;have:=h.bd y hy;omega
 have h2:=nodup_le (nSt ks) _ h1 fun x hx=>by
  obtain ⟨y,hy,rfl⟩:=List.mem_map.1 hx;have:=h.bd y hy;have:=zgu v;omega
 simpa using h2
theorem za3.dpos (h:za3 ks st o q seen bf d) {x:Int} (hx:bf x≠0):0 < d x:=by
 rcases Nat.eq_zero_or_pos (d x) with e | e
 ·exact absurd (h.ze x e) hx
 ·exact e
theorem za3.dzero (h:za3 ks st o q seen bf d) (h0:0≤st) {x:Int} (hx:bf x=0):d x=0:=by
 rcases Nat.eq_zero_or_pos (d x) with e | e
 ·exact e
 ·obtain ⟨row,hr⟩:=h.ch x e
  have:=hr.bpos h0;omega
theorem za3.nonneg (h:za3 ks st o q seen bf d) (h0:0≤st) (x:Int):0≤bf x:=by
 rcases Nat.eq_zero_or_pos (d x) with e | e
 ·rw [h.ze x e];exact Int.le_refl _
 ·obtain ⟨row,hr⟩:=h.ch x e
  have:=hr.bpos h0;omega
theorem za3.at_ {i:Int} (_:za3 ks st o (i :: q) seen bf d):(o ++ i :: q).getD o.length st=i:=by
 rw [List.getD_eq_getElem?_getD,List.getElem?_append_right (Nat.le_refl _)];simp
theorem za3.skip {i:Int} (h:za3 ks st o (i :: q) seen bf d) {y:Int} (hy:bf y≠0):za3 ks st o (i :: q) (seen ++ [y]) bf d :=
 { h with b:=h.b.skip (by simp) (h.dpos hy) }
theorem za3.next {i:Int} (h:za3 ks st o (i :: q) seen bf d) (hs:∀ y∈nxN ks i,y∈seen):za3 ks st (o ++ [i]) q [] bf d:=by
 have e:(o ++ [i]) ++ q=o ++ i :: q:=by simp
 refine ⟨?_,h.ch,h.ze,by rw [e];exact h.bd,by rw [e];exact h.le⟩;rw [e];have:=h.b.next (by simp) (by rw [h.at_];exact hs);simpa using this
theorem za3.chain {i:Int} (h:za3 ks st o (i :: q) seen bf d) (h0:0≤st) {y:Int} {w:Nat} (hw:(nxN ks i)[w]? = some y) (hy:bf y=0) :
  ∃ row,zad ks (zf8 bf y (1+i * 5+w)) st (zbk st d (o ++ i :: q) o.length+1) y row:=by
 have hwl:=(z0i hw).2.1
 by_cases e:o=[]
 ·subst e
  have hi:i=st:=by have:=h.b.head;simpa using this
  subst hi;exact ⟨_,.one (by unfold zf8;rw [if_pos rfl]) hwl hw⟩
 ·have hl:o.length≠0:=by
   intro hl;exact e (List.eq_nil_of_length_eq_zero hl)
  have hp:=h.b.pos o.length (by omega) (by simp);rw [h.at_] at hp;obtain ⟨row,hr⟩:=h.ch i hp;have hf:zbk st d (o ++ i :: q) o.length=d i:=by unfold zbk;rw [if_neg hl,h.at_]
  rw [hf];have hne:i≠st:=by
   intro hi;rw [hi,h.b.new] at hp;omega
  have hi0:=(h.bd i (by simp)).1;exact ⟨_,.more (hr.keep h0 hy) hne hi0 (by unfold zf8;rw [if_pos rfl]) hwl hw⟩
theorem za3.far {i:Int} (h:za3 ks st o (i :: q) seen bf d):zbk st d (o ++ i :: q) o.length+1≤(o ++ i :: q).length:=by
 unfold zbk
 split
 ·simp;omega
 ·exact h.le _
theorem za3.add {i:Int} (h:za3 ks st o (i :: q) seen bf d) (v:TVal ks) (h0:0≤st) {y:Int} {w:Nat} (hw:(nxN ks i)[w]? = some y) (hy:bf y=0) (hne:y≠st) :
  ∃ d',za3 ks st o (i :: (q ++ [y])) (seen ++ [y]) (zf8 bf y (1+i * 5+w)) d':=by
 have hm:y∈nxN ks i:=List.mem_of_getElem? hw;have hb:=h.b.add (by simp) (h.dzero h0 hy) hne (by rw [h.at_];exact hm);have e:o ++ i :: (q ++ [y])=(o ++ i :: q) ++ [y]:=by simp
 have hfar:=h.far;obtain ⟨row,hr⟩:=h.chain h0 hw hy;refine ⟨_,by rw [e];exact hb,fun x hx=>?_,fun x hx=>?_,fun x hx=>?_,fun x=>?_⟩
 ·by_cases exy:x=y
  ·subst exy
   rw [zg4];exact ⟨row,hr⟩
  ·rw [zdj _ _ exy] at hx ⊢
   obtain ⟨r2,hr2⟩:=h.ch x hx;exact ⟨r2,hr2.keep h0 hy⟩
 ·by_cases exy:x=y
  ·subst exy
   rw [zg4] at hx;omega
  ·rw [zdj _ _ exy] at hx
   unfold zf8;rw [if_neg exy];exact h.ze x hx
 ·rw [e] at hx
  rcases List.mem_append.1 hx with hx | hx
  ·exact h.bd x hx
  ·simp at hx;subst hx;exact zh1 v hm
 ·rw [e,List.length_append]
  by_cases exy:x=y
  ·subst exy
   rw [zg4];simp only [List.length_singleton];omega
  ·rw [zdj _ _ exy]
   have:=h.le x;omega
theorem za3.found {i:Int} (h:za3 ks st o (i :: q) seen bf d) (v:TVal ks) (h0:0≤st) {w:Nat} (hw:(nxN ks i)[w]? = some st) :
  ∃ row k,zad ks (zf8 bf st (1+i * 5+w)) st k st row∧row.length=k∧Wlk (nxN ks) k st st∧(∀ m,1≤m→Wlk (nxN ks) m st st→k≤m)∧k≤nSt ks:=by
 have hs:bf st=0:=h.ze st h.b.new;obtain ⟨row,hr⟩:=h.chain h0 hw hs;have hf:=h.b.found (by simp) (by rw [h.at_];exact List.mem_of_getElem? hw);have h1:=h.far;have h2:=h.len v;exact ⟨row,_,hr,hr.len,hf.1,hf.2,by simp at h1 h2;omega⟩
theorem za3.none (h:za3 ks st o [] seen bf d):∀ m,1≤m→¬ Wlk (nxN ks) m st st:=by
 have hb:=h.b;have e:o.length=(o ++ ([]:List Int)).length:=by simp
 rw [e] at hb;exact hb.none
end
structure zcm (ks:List Int) (s:Nat) (row:List Int):Prop where
 cl:row≠[]→∃ j,0≤j∧j < zq ks∧Wlk (nxN ks) row.length j j∧WinL ks row∧∀ a,za1 ks a (zt ks j) row=(some (zt ks j),a+row.length)
 le:∀ j k,0≤j→j < (s:Int)→1≤k→Wlk (nxN ks) k j j→row≠[]∧row.length≤k
theorem zcm.zero (ks:List Int):zcm ks 0 []:=⟨fun h=>absurd rfl h,fun j k h0 h1=>by omega⟩
theorem zcm.none {ks:List Int} {s:Nat} {row:List Int} (h:zcm ks s row) (hn:∀ m,1≤m→¬ Wlk (nxN ks) m (s:Int) s):zcm ks (s+1) row :=
 ⟨h.cl,fun j k h0 h1 hk hw=>by
  by_cases e:j=(s:Int)
  ·subst e;exact absurd hw (hn k hk)
  ·exact h.le j k h0 (by omega) hk hw⟩
theorem zcm.keep {ks:List Int} {s:Nat} {row:List Int} (h:zcm ks s row) {k:Nat} (hm:∀ m,1≤m→Wlk (nxN ks) m (s:Int) s→k≤m) (hne:row≠[]) (hk:row.length≤k):zcm ks (s+1) row :=
 ⟨h.cl,fun j k2 h0 h1 hk2 hw=>by
  by_cases e:j=(s:Int)
  ·subst e
   have:=hm k2 hk2 hw;exact ⟨hne,by omega⟩
  ·exact h.le j k2 h0 (by omega) hk2 hw⟩
theorem zcm.better {ks:List Int} {s:Nat} {row:List Int} (h:zcm ks s row) (v:TVal ks) (hs:(s:Int) < zq ks) {bf:Int→Int} {k:Nat} {r2:List Int} (hc:zad ks bf s k s r2) (hw:Wlk (nxN ks) k (s:Int) s) (hm:∀ m,1≤m→Wlk (nxN ks) m (s:Int) s→k≤m) (hb:row=[]∨r2.length < row.length):zcm ks (s+1) r2:=by
 have hl:=hc.len;have hp:=hc.pos;have hne:r2≠[]:=by intro e;rw [e] at hl;simp at hl;omega
 refine ⟨fun _=>⟨s,by omega,hs,by rw [hl];exact hw,hc.win,fun a=>by rw [hl];exact hc.play v a⟩,fun j k2 h0 h1 hk2 hw2=>⟨hne,?_⟩⟩
 by_cases e:j=(s:Int)
 ·subst e
  have:=hm k2 hk2 hw2;omega
 ·have:=h.le j k2 h0 (by omega) hk2 hw2
  rcases hb with hb | hb
  ·exact absurd hb this.1
  ·omega
theorem zcm.short {ks:List Int} {row:List Int} (h:zcm ks (nSt ks) row) (v:TVal ks) (hz:zcp (nxS ks) (zeroS ks)):row≠[]∧zi2 ks row.length∧WinL ks row∧circP ks row=true:=by
 have hN:=zgu v;have hne:row≠[]:=by
  obtain ⟨t,m,ht,hm,hw⟩:=(z67 v).1 hz;have hb:=zcl v.nn ht;exact (h.le (zau ks t) m hb.1 (by omega) hm (z3n v ht hw)).1
 obtain ⟨j,h0,h1,hw,hwin,hpl⟩:=h.cl hne;have hl:1≤row.length:=by
  cases row with
  | nil=>exact absurd rfl hne
  | cons a t=>simp
 have hjs:zaj ks (zt ks j)=true:=zf0 v.nn;exact ⟨hne,z7c v hl h0 h1 hw fun j2 k g0 g1 hk hw2=>(h.le j2 k g0 (by omega) hk hw2).2,hwin,zrz v hjs hwin hne (a:=0) (by rw [hpl])⟩
open Go.RowKit Go.Shelf
theorem z46 (ks:List Int) (p:Nat) (w:World) (v:TVal ks) (ht:Tab w p ks) :
  Calls Tryz.prog 28 #[.pointer (some ⟨p,0,none⟩)] w fun e W=>∃ r row,e = .returned r∧Ext w W∧IsInts W .i64 r row∧zcm ks (nSt ks) row∧row.length≤nSt ks:=by
 have hN:=zk8 v;have hNe:=zgu v;have n5:=v.n5;obtain ⟨sb,so,sc,c1,s1,s2,hsS⟩:=ht.st;obtain ⟨nb,no,nc,c2,n1,n2,hsN⟩:=ht.nx;have HSN:=hid hsN;have V:=hid v;have NE:=hid hNe;have cb:=z9i ks;obtain ⟨N,hNN⟩:∃ N,N=nSt ks:=⟨_,rfl⟩
 rw [← hNN] at HSN NE c1 c2 s1 n1 hN ⊢;simp only [← hNN] at cb;have CB:=hid cb;have HNN:=hid hNN;have hz:=World.block_lt_of_cell? _ _ c1;simp only at hz;clear hsS hsN ht v hNe hNN cb
 go_enter Tryz.func28,Tryz.ntmps28
 go_wp2_with fail
 go_step3
 go_wp2_with fail
 go_step3
 go_wp2_with fail
 go_loopg [3,16] N (fun g bv sv W=>∃ (s:Nat) (row:List Int),s+g=N∧sv = .int .i64 s∧zcm ks s row∧row.length≤N∧IsInts W .i64 bv row∧Ext w W)
 case atStart=>exact ⟨0,[],by omega,rfl,zcm.zero ks,by simp,IsInts.nil _ _,Below.refl _ _⟩
 case round =>
  obtain ⟨s,row,hs,rfl,hb,hrl,hbi,hE⟩:=hrel;obtain ⟨X,hX⟩:∃ X,X=wr:=⟨_,rfl⟩
  subst hX;have HB:=hid hb;have HBI:=hid hbi;have HE:=hid hE;have hzr:=hE.size;have c1r:=zj hE c1;obtain ⟨ba,bcap,rfl,hbc,hbm,-⟩:=hbi.spec;obtain ⟨rn,hrn⟩:∃ rn,rn=row.length:=⟨_,rfl⟩
  rw [← hrn] at hbc hrl HBI ⊢;have HRN:=hid hrn;clear hb hbi hE hrn;cases gk with
  | zero =>
   have hsN:¬ ((s:Int) < (N:Int)):=by omega
   have HS:Hid (s=N):=hid (by omega);go_wp2_with fail;go_ret;exact ⟨_,row,rfl,HE.out,HBI.out,by rw [← HS.out];exact HB.out,by rw [← HRN.out];exact hrl⟩
  | succ g =>
   have hsN:(s:Int) < (N:Int):=by omega
   have hsn0:s < N:=by omega
   obtain ⟨W1,hmk,hnum,hE1⟩:=zxi X N (by omega);have hzn:=hnum.lt;have HNUM:=hid hnum;have HE1:=hid hE1;have HSG:Hid (s+(g+1)=N):=hid hs;clear hnum hE1 hs;go_wp2_with fail;obtain ⟨W3,hW3⟩:∃ W3,W1.alloc (.cells #[.int .i64 s] 3)=W3:=⟨_,rfl⟩
   have hE3:Ext X W3:=by
    rw [← hW3];exact Ext.al HE1.out _
   have hnum3:zbv W3 X.heap.size N (fun j=>(fun _:Int=>(0:Int)) (j:Int)):=by
    rw [← hW3];exact HNUM.out.of_heap (Below.heap_alloc _ _ _ hzn)
   have hq3:Que W3 (X.heap.size+1) (.slice (some ⟨W1.heap.size,0,none⟩) 1 1) [(s:Int)]:=by
    refine ⟨W1.heap.size,0,1,#[.int .i64 s],rfl,by simp,by omega,by omega,?_,.inr ⟨rfl,fun j hj=>?_⟩⟩
    ·rw [← hW3]
     exact World.alloc_heap_new W1 (.cells #[.int .i64 s] 3)
    ·have:j=0:=by simpa using hj
     subst this;rfl
   have hc3:za3 ks s [] [(s:Int)] [] (fun _=>0) (fun _=>0):=za3.start (by omega) (by have:=NE.out;omega);rw [hW3];have HE3:=hid hE3;have HNUM3:=hid hnum3;have HQ3:=hid hq3;have HC3:=hid hc3;clear hW3 hE3 hnum3 hq3 hc3 HNUM hmk
   go_loopg [3,6] (N+1) (fun g2 bv wv W=>∃ (o q:List Int) (bf:Int→Int) (d:Int→Nat),o.length+g2=N+1∧bv = .slice ba rn bcap∧za3 ks s o q [] bf d∧Que W (X.heap.size+1) wv q∧zbv W X.heap.size N (fun j=>bf (j:Int))∧Ext X W)
   case atStart=>exact ⟨[],_,_,_,by simp,rfl,HC3.out,HQ3.out,HNUM3.out,HE3.out⟩
   case round =>
    obtain ⟨o,q,bf,d,hg2,rfl,hci,hq,hnum,hEX⟩:=hrel;have HEX:=hid hEX;have HNUMr:=hid hnum;have HG2:=hid hg2;have hzx:=hEX.size;clear HE3 HNUM3 HQ3 HC3
    rcases q with _ | ⟨i,q⟩
    ·obtain ⟨qg,qo,qc,qcur,rfl,_,_,_,_,_⟩:=hq
     have HCI:=hid hci;clear hci hEX hnum hg2;go_wp2_with fail
     go_roundg g
     case rel=>exact ⟨s+1,row,by have:=HSG.out;omega,by go_num,HB.out.none HCI.out.none,by rw [← HRN.out];exact hrl,HBI.out.ext HEX.out,HE.out.trans' HEX.out⟩
     case measure=>omega
    ·have hib:=hci.bd i (by simp)
     have hlen0:=hci.len V.out;obtain ⟨ii,rfl⟩:∃ ii:Nat,i=(ii:Int):=⟨i.toNat,by omega⟩
     obtain ⟨gq,off,cap,rfl,hq1,hq2,hqc,hqn⟩:=hq.spec;have hzg:=World.block_lt_of_cell? _ _ hqc;simp only at hzg;have hiN:ii < N:=by have:=NE.out;omega
     have hii:(ii:Int) < (N:Int):=by omega
     have c2':=zj (HE.out.trans' hEX) c2;have HCI:=hid hci;have HQN:=hid hqn;obtain ⟨n,hn⟩:∃ n,n=q.length:=⟨_,rfl⟩
     rw [← hn] at hq1 HQN ⊢;have hqli:((n+1:Nat):Int) > 0:=by omega
     have HLEN0:Hid (o.length+1≤N):=hid (by have:=HNN.out;simp at hlen0;omega);clear hn hci hEX hnum hg2 hqn hq hlen0
     by_cases hc1:cap=1
     ·subst hc1
      clear hq1;have hqt:Que wr (X.heap.size+1) (.slice (some ⟨gq,off,none⟩) n 0) q:=HQN.out _ (.inr ⟨by omega,rfl⟩);have HQT:=hid hqt;obtain ⟨ea,ec,hce,hle⟩:=HSN.out ii hiN;have hlb:=fun x hx=>zh1 V.out (i:=(ii:Int)) (x:=x) hx
      have hl5:=zvv (ks:=ks) (ii:Int);obtain ⟨l,hl⟩:∃ l,l=nxN ks (ii:Int):=⟨_,rfl⟩
      rw [← hl] at hce hle hlb hl5;have hEw:Ext w wr:=HE.out.trans' HEX.out;have e5:=zj hEw hce;have HL:=hid hl;have HLB:=hid hlb;have HLE:=hid hle;have HEW:=hid hEw;clear hqt hce hle hlb hl hEw;have hgm:∃ gm,gk=gm+1:=⟨gk - 1,by have:=HG2.out;have:=HLEN0.out;omega⟩
      obtain ⟨gm,rfl⟩:=hgm;have hii5:(ii:Int) < 1000:=by omega
      go_wp2_with fail
      go_loopg [3,6,43] l.length (fun g3 bv wv jv W=>∃ (k:Nat) (q':List Int) (bf':Int→Int) (d':Int→Nat),k+g3=l.length∧bv = .slice ba rn bcap∧jv = .int .i64 k∧za3 ks s o ((ii:Int) :: q') (l.take k) bf' d'∧Que W (X.heap.size+1) wv q'∧zbv W X.heap.size N (fun j=>bf' (j:Int))∧Ext X W)
      case atStart=>exact ⟨0,q,bf,d,by omega,rfl,rfl,HCI.out,HQT.out,HNUMr.out,HEX.out⟩
      case round =>
       obtain ⟨k,q',bf',d',hk,rfl,rfl,hci',hq',hnum',hE'⟩:=hrel;obtain ⟨ua,un,uc,rfl⟩:=hq'.form;have HCI':=hid hci';have HQ':=hid hq';have HNUM':=hid hnum';have HE':=hid hE';have hzx':=hE'.size;cases gk with
       | zero =>
        have hkl:¬ ((k:Int) < (l.length:Int)):=by omega
        have HKL:Hid (k=l.length):=hid (by omega);clear hci' hq' hnum' hE' hk;go_wp2_with fail
        go_roundg gm
        case rel =>
         refine ⟨o ++ [(ii:Int)],q',bf',d',?_,rfl,HCI'.out.next fun y hy=>?_,HQ'.out,HNUM'.out,HE'.out⟩
         ·have:=HG2.out;simp;omega
         ·rw [HKL.out,List.take_length,HL.out];exact hy
        case measure=>omega
       | succ g3 =>
        have hlt:k < l.length:=by omega
        rcases (HLE.out.ext (HE.out.trans' hE')).spec with ⟨ea',ec',e,-,-,hcc⟩
        cases e
        rcases hcc with hcc | ⟨eb,eo,rfl,hcc⟩
        ·rw [hcc] at hlt;simp at hlt
        have d0:=hcc k hlt;have hkl:l[k]? = some l[k]:=List.getElem?_eq_getElem hlt;have hyb:=HLB.out l[k] (List.getElem_mem hlt);have htk1:l.take (k+1)=l.take k ++ [l[k]]:=List.take_succ_eq_append_getElem hlt;obtain ⟨Y,hY⟩:∃ Y:Nat,l[k]=(Y:Int):=⟨l[k].toNat,by omega⟩
        rw [hY] at d0 hyb htk1 hkl;rw [HL.out] at hkl;have hYN:Y < N:=by have:=NE.out;omega
        have hYi:(Y:Int) < (N:Int):=by omega
        have hki:(k:Int) < (l.length:Int):=by omega
        have hk5:(k:Int) < 5:=by omega
        have g0:wr.cell? ⟨X.heap.size,Y,none⟩=some (.int .i64 (bf' (Y:Int))):=hnum'.cell Y hYN;have gf:=hnum'.free Y;have hzn':=hnum'.lt;have hzd:=World.block_lt_of_cell? _ _ d0;simp only at hzd;have hnn:=hci'.nonneg (by omega) (Y:Int);have hlen':=hci'.len V.out;have HMEM:=hid hkl;have HTK1:=hid htk1;have HLEN':Hid (q'.length+1≤1000000):=hid (by have:=HNN.out;simp at hlen';omega);obtain ⟨z,hz0⟩:∃ z,z=bf' (Y:Int):=⟨_,rfl⟩
        rw [← hz0] at g0 hnn;have HZ:=hid hz0;have HKG:=hid hk;clear hci' hq' hnum' hE' hcc hY hyb hkl htk1 hlen' hz0 hk
        by_cases hzp:0 < z
        ·have hzp2:z > 0:=hzp
         clear hnn gf hzn';go_wp2_with fail
         go_roundg g3
         case rel=>exact ⟨k+1,q',bf',d',by have:=HKG.out;omega,rfl,by go_num,by rw [HTK1.out];exact HCI'.out.skip (by rw [← HZ.out];omega),HQ'.out,HNUM'.out,HE'.out⟩
         case measure=>omega
        ·have hz1:z=0:=by omega
         subst hz1;have hq2':Que (wr.setCell ⟨X.heap.size,Y,none⟩ (.int .i64 (1+(ii:Int) * 5+k))) (X.heap.size+1) (.slice (some ua) un uc) q':=HQ'.out.kept (S:=fun k=>k≠X.heap.size) ((Kept.refl _ wr).setCell (fun _ h=>h rfl) _) (fun g cur hg _ _=>by omega);have HQ2':=hid hq2';have hE2':Ext X (wr.setCell ⟨X.heap.size,Y,none⟩ (.int .i64 (1+(ii:Int) * 5+k))):=HE'.out.setCell (by simp only;omega) _;have HE2':=hid hE2';have hnum2:zbv (wr.setCell ⟨X.heap.size,Y,none⟩ (.int .i64 (1+(ii:Int) * 5+k))) X.heap.size N (fun j=>zf8 bf' Y (1+(ii:Int) * 5+k) (j:Int)):=(HNUM'.out.set Y _).congr fun j _=>by
          unfold zf8
          by_cases e:j=Y
          ·rw [if_pos e,if_pos (by omega)]
          ·rw [if_neg e,if_neg (by omega)]
         have HNUM2:=hid hnum2;clear hq2' hE2' hnum2 hnn
         by_cases hys:s=Y
         ·subst hys
          obtain ⟨r2,kk,hch,hr2,hwl,hmin,hkk⟩:=HCI'.out.found V.out (by omega) HMEM.out;rw [← HNN.out] at hkk;have cb:=CB.out (zf8 bf' s (1+(ii:Int) * 5+k)) s kk r2 (.pointer (some ⟨p,0,none⟩)) X.heap.size 0 N _ V.out hsn0 hch (by omega) (fun i hi=>by rw [Nat.zero_add];exact HNUM2.out.cell i hi);have HCB:=hid cb;have HMIN:=hid hmin;have HWL:=hid hwl;have HCH:=hid hch;have HR2:=hid hr2;clear cb hmin hwl hch hr2;go_wp2_with fail;refine HCB.out.mono ?_
          rintro e5 W5 ⟨r5,rfl,hE5,hI5⟩;obtain ⟨pa,pcap,rfl,hpc,hpm,-⟩:=hI5.spec;have HE5:=hid (HE2'.out.trans' hE5);rw [HR2.out] at hpc hI5 ⊢;have HI5:=hid hI5;have hk100:kk≤1001:=by omega
          have hBE:Hid (kk < rn∨rn=0→zcm ks (s+1) r2):=hid fun h=>HB.out.better V.out (by have:=NE.out;omega) HCH.out HWL.out HMIN.out (by
           rcases h with h | h
           ·exact .inr (by rw [HR2.out,← HRN.out];exact h)
           ·exact .inl (List.eq_nil_of_length_eq_zero (by rw [← HRN.out];exact h)))
          have hKE:Hid (¬ (kk < rn∨rn=0)→zcm ks (s+1) row):=hid fun h=>HB.out.keep HMIN.out (fun e=>by have:=HRN.out;rw [e] at this;exact h (.inr (by simpa using this))) (by rw [← HRN.out];omega)
          clear hE5 hI5 HCB
          by_cases hr0:rn=0
          ·subst hr0
           go_wp2_with fail
           go_roundg g
           case rel=>exact ⟨s+1,r2,by have:=HSG.out;omega,by go_num,hBE.out (.inr (by simp)),by rw [HR2.out];exact hkk,HI5.out,HE.out.trans' HE5.out⟩
           case measure=>omega
          ·have hr1:((rn:Int) == 0)=false:=by simp;omega
           have hr2:¬ ((rn:Int)=0):=by omega
           by_cases hlt2:kk < rn
           ·have hlt3:(kk:Int) < (rn:Int):=by omega
            go_wp2_with fail
            go_roundg g
            case rel=>exact ⟨s+1,r2,by have:=HSG.out;omega,by go_num,hBE.out (.inl hlt2),by rw [HR2.out];exact hkk,HI5.out,HE.out.trans' HE5.out⟩
            case measure=>omega
           ·have hlt3:¬ (kk:Int) < (rn:Int):=by omega
            go_wp2_with fail
            go_roundg g
            case rel=>exact ⟨s+1,row,by have:=HSG.out;omega,by go_num,hKE.out (by omega),by rw [← HRN.out];exact hrl,HBI.out.ext HE5.out,HE.out.trans' HE5.out⟩
            case measure=>omega
         ·have hys1:((Y:Int) != (s:Int))=true:=by simp;omega
          have hys2:((Y:Int) == (s:Int))=false:=by simp;omega
          have hys3:¬ ((Y:Int)=(s:Int)):=by omega
          have hys4:¬ (Y=s):=by omega
          have HYS:=hid hys3;go_wp2_with (at_builtin;refine zabg rfl (.tmp 64) (.tmp 66) rfl (X.heap.size+1) rfl (HQ2'.out.ext (by exact xx)) (Y:Int) wr.heap.size 1 rfl (by simp [go_sem]) HLEN'.out (by simp [World.setCell];omega) ?_);intro v6 W6 hq6 hk6;obtain ⟨qa,qn,qc,rfl⟩:=hq6.form;have hk7:Kept (fun k=>some k≠(Value.slice (some ua) un uc).ownBlock) (wr.setCell ⟨X.heap.size,Y,none⟩ (.int .i64 (1+(ii:Int) * 5+k))) W6:=((Kept.refl _ _).alloc _).trans hk6;have hnum6:=HNUM2.out.of_heap (hk7.same _ (by simpa [World.setCell] using hzn') fun e=>by have:=(HQ2'.out.own _ e.symm).1;omega);have hE6:Ext X W6:=HE2'.out.trans (Kept.below (hk7.mono fun j _ hj e=>by have:=(HQ2'.out.own j e.symm).1;omega) (by have:=HE2'.out.size;exact this));obtain ⟨d6,hadd⟩:=HCI'.out.add V.out (by omega) HMEM.out HZ.out.symm HYS.out;have HADD:=hid hadd;have HQ6:=hid hq6;have HNUM6:=hid hnum6;have HE6:=hid hE6;clear hq6 hk6 hk7 hnum6 hE6 hadd;go_wp2_with fail
          go_roundg g3
          case rel=>exact ⟨k+1,q' ++ [(Y:Int)],_,_,by have:=HKG.out;omega,rfl,by go_num,by rw [HTK1.out];exact HADD.out,HQ6.out,HNUM6.out,HE6.out⟩
          case measure=>omega
     ·skip
      have hqt:Que wr (X.heap.size+1) (.slice (some ⟨gq,off+1,none⟩) n (cap - 1)) q:=HQN.out _ (.inl rfl);have HQT:=hid hqt;obtain ⟨ea,ec,hce,hle⟩:=HSN.out ii hiN;have hlb:=fun x hx=>zh1 V.out (i:=(ii:Int)) (x:=x) hx
      have hl5:=zvv (ks:=ks) (ii:Int);obtain ⟨l,hl⟩:∃ l,l=nxN ks (ii:Int):=⟨_,rfl⟩
      rw [← hl] at hce hle hlb hl5;have hEw:Ext w wr:=HE.out.trans' HEX.out;have e5:=zj hEw hce;have HL:=hid hl;have HLB:=hid hlb;have HLE:=hid hle;have HEW:=hid hEw;clear hqt hce hle hlb hl hEw;have hgm:∃ gm,gk=gm+1:=⟨gk - 1,by have:=HG2.out;have:=HLEN0.out;omega⟩
      obtain ⟨gm,rfl⟩:=hgm;have hii5:(ii:Int) < 1000:=by omega
      go_wp2_with fail
      go_loopg [3,6,43] l.length (fun g3 bv wv jv W=>∃ (k:Nat) (q':List Int) (bf':Int→Int) (d':Int→Nat),k+g3=l.length∧bv = .slice ba rn bcap∧jv = .int .i64 k∧za3 ks s o ((ii:Int) :: q') (l.take k) bf' d'∧Que W (X.heap.size+1) wv q'∧zbv W X.heap.size N (fun j=>bf' (j:Int))∧Ext X W)
      case atStart=>exact ⟨0,q,bf,d,by omega,rfl,rfl,HCI.out,HQT.out,HNUMr.out,HEX.out⟩
      case round =>
       obtain ⟨k,q',bf',d',hk,rfl,rfl,hci',hq',hnum',hE'⟩:=hrel;obtain ⟨ua,un,uc,rfl⟩:=hq'.form;have HCI':=hid hci';have HQ':=hid hq';have HNUM':=hid hnum';have HE':=hid hE';have hzx':=hE'.size;cases gk with
       | zero =>
        have hkl:¬ ((k:Int) < (l.length:Int)):=by omega
        have HKL:Hid (k=l.length):=hid (by omega);clear hci' hq' hnum' hE' hk;go_wp2_with fail
        go_roundg gm
        case rel =>
         refine ⟨o ++ [(ii:Int)],q',bf',d',?_,rfl,HCI'.out.next fun y hy=>?_,HQ'.out,HNUM'.out,HE'.out⟩
         ·have:=HG2.out;simp;omega
         ·rw [HKL.out,List.take_length,HL.out];exact hy
        case measure=>omega
       | succ g3 =>
        have hlt:k < l.length:=by omega
        rcases (HLE.out.ext (HE.out.trans' hE')).spec with ⟨ea',ec',e,-,-,hcc⟩
        cases e
        rcases hcc with hcc | ⟨eb,eo,rfl,hcc⟩
        ·rw [hcc] at hlt;simp at hlt
        have d0:=hcc k hlt;have hkl:l[k]? = some l[k]:=List.getElem?_eq_getElem hlt;have hyb:=HLB.out l[k] (List.getElem_mem hlt);have htk1:l.take (k+1)=l.take k ++ [l[k]]:=List.take_succ_eq_append_getElem hlt;obtain ⟨Y,hY⟩:∃ Y:Nat,l[k]=(Y:Int):=⟨l[k].toNat,by omega⟩
        rw [hY] at d0 hyb htk1 hkl;rw [HL.out] at hkl;have hYN:Y < N:=by have:=NE.out;omega
        have hYi:(Y:Int) < (N:Int):=by omega
        have hki:(k:Int) < (l.length:Int):=by omega
        have hk5:(k:Int) < 5:=by omega
        have g0:wr.cell? ⟨X.heap.size,Y,none⟩=some (.int .i64 (bf' (Y:Int))):=hnum'.cell Y hYN;have gf:=hnum'.free Y;have hzn':=hnum'.lt;have hzd:=World.block_lt_of_cell? _ _ d0;simp only at hzd;have hnn:=hci'.nonneg (by omega) (Y:Int);have hlen':=hci'.len V.out;have HMEM:=hid hkl;have HTK1:=hid htk1;have HLEN':Hid (q'.length+1≤1000000):=hid (by have:=HNN.out;simp at hlen';omega);obtain ⟨z,hz0⟩:∃ z,z=bf' (Y:Int):=⟨_,rfl⟩
        rw [← hz0] at g0 hnn;have HZ:=hid hz0;have HKG:=hid hk;clear hci' hq' hnum' hE' hcc hY hyb hkl htk1 hlen' hz0 hk
        by_cases hzp:0 < z
        ·have hzp2:z > 0:=hzp
         clear hnn gf hzn';go_wp2_with fail
         go_roundg g3
         case rel=>exact ⟨k+1,q',bf',d',by have:=HKG.out;omega,rfl,by go_num,by rw [HTK1.out];exact HCI'.out.skip (by rw [← HZ.out];omega),HQ'.out,HNUM'.out,HE'.out⟩
         case measure=>omega
        ·have hz1:z=0:=by omega
         subst hz1;have hq2':Que (wr.setCell ⟨X.heap.size,Y,none⟩ (.int .i64 (1+(ii:Int) * 5+k))) (X.heap.size+1) (.slice (some ua) un uc) q':=HQ'.out.kept (S:=fun k=>k≠X.heap.size) ((Kept.refl _ wr).setCell (fun _ h=>h rfl) _) (fun g cur hg _ _=>by omega);have HQ2':=hid hq2';have hE2':Ext X (wr.setCell ⟨X.heap.size,Y,none⟩ (.int .i64 (1+(ii:Int) * 5+k))):=HE'.out.setCell (by simp only;omega) _;have HE2':=hid hE2';have hnum2:zbv (wr.setCell ⟨X.heap.size,Y,none⟩ (.int .i64 (1+(ii:Int) * 5+k))) X.heap.size N (fun j=>zf8 bf' Y (1+(ii:Int) * 5+k) (j:Int)):=(HNUM'.out.set Y _).congr fun j _=>by
          unfold zf8
          by_cases e:j=Y
          ·rw [if_pos e,if_pos (by omega)]
          ·rw [if_neg e,if_neg (by omega)]
         have HNUM2:=hid hnum2;clear hq2' hE2' hnum2 hnn
         by_cases hys:s=Y
         ·subst hys
          obtain ⟨r2,kk,hch,hr2,hwl,hmin,hkk⟩:=HCI'.out.found V.out (by omega) HMEM.out;rw [← HNN.out] at hkk;have cb:=CB.out (zf8 bf' s (1+(ii:Int) * 5+k)) s kk r2 (.pointer (some ⟨p,0,none⟩)) X.heap.size 0 N _ V.out hsn0 hch (by omega) (fun i hi=>by rw [Nat.zero_add];exact HNUM2.out.cell i hi);have HCB:=hid cb;have HMIN:=hid hmin;have HWL:=hid hwl;have HCH:=hid hch;have HR2:=hid hr2;clear cb hmin hwl hch hr2;go_wp2_with fail;refine HCB.out.mono ?_
          rintro e5 W5 ⟨r5,rfl,hE5,hI5⟩;obtain ⟨pa,pcap,rfl,hpc,hpm,-⟩:=hI5.spec;have HE5:=hid (HE2'.out.trans' hE5);rw [HR2.out] at hpc hI5 ⊢;have HI5:=hid hI5;have hk100:kk≤1001:=by omega
          have hBE:Hid (kk < rn∨rn=0→zcm ks (s+1) r2):=hid fun h=>HB.out.better V.out (by have:=NE.out;omega) HCH.out HWL.out HMIN.out (by
           rcases h with h | h
           ·exact .inr (by rw [HR2.out,← HRN.out];exact h)
           ·exact .inl (List.eq_nil_of_length_eq_zero (by rw [← HRN.out];exact h)))
          have hKE:Hid (¬ (kk < rn∨rn=0)→zcm ks (s+1) row):=hid fun h=>HB.out.keep HMIN.out (fun e=>by have:=HRN.out;rw [e] at this;exact h (.inr (by simpa using this))) (by rw [← HRN.out];omega)
          clear hE5 hI5 HCB
          by_cases hr0:rn=0
          ·subst hr0
           go_wp2_with fail
           go_roundg g
           case rel=>exact ⟨s+1,r2,by have:=HSG.out;omega,by go_num,hBE.out (.inr (by simp)),by rw [HR2.out];exact hkk,HI5.out,HE.out.trans' HE5.out⟩
           case measure=>omega
          ·have hr1:((rn:Int) == 0)=false:=by simp;omega
           have hr2:¬ ((rn:Int)=0):=by omega
           by_cases hlt2:kk < rn
           ·have hlt3:(kk:Int) < (rn:Int):=by omega
            go_wp2_with fail
            go_roundg g
            case rel=>exact ⟨s+1,r2,by have:=HSG.out;omega,by go_num,hBE.out (.inl hlt2),by rw [HR2.out];exact hkk,HI5.out,HE.out.trans' HE5.out⟩
            case measure=>omega
           ·have hlt3:¬ (kk:Int) < (rn:Int):=by omega
            go_wp2_with fail
            go_roundg g
            case rel=>exact ⟨s+1,row,by have:=HSG.out;omega,by go_num,hKE.out (by omega),by rw [← HRN.out];exact hrl,HBI.out.ext HE5.out,HE.out.trans' HE5.out⟩
            case measure=>omega
         ·have hys1:((Y:Int) != (s:Int))=true:=by simp;omega
          have hys2:((Y:Int) == (s:Int))=false:=by simp;omega
          have hys3:¬ ((Y:Int)=(s:Int)):=by omega
          have hys4:¬ (Y=s):=by omega
          have HYS:=hid hys3;go_wp2_with (at_builtin;refine zabg rfl (.tmp 64) (.tmp 66) rfl (X.heap.size+1) rfl (HQ2'.out.ext (by exact xx)) (Y:Int) wr.heap.size 1 rfl (by simp [go_sem]) HLEN'.out (by simp [World.setCell];omega) ?_);intro v6 W6 hq6 hk6;obtain ⟨qa,qn,qc,rfl⟩:=hq6.form;have hk7:Kept (fun k=>some k≠(Value.slice (some ua) un uc).ownBlock) (wr.setCell ⟨X.heap.size,Y,none⟩ (.int .i64 (1+(ii:Int) * 5+k))) W6:=((Kept.refl _ _).alloc _).trans hk6;have hnum6:=HNUM2.out.of_heap (hk7.same _ (by simpa [World.setCell] using hzn') fun e=>by have:=(HQ2'.out.own _ e.symm).1;omega);have hE6:Ext X W6:=HE2'.out.trans (Kept.below (hk7.mono fun j _ hj e=>by have:=(HQ2'.out.own j e.symm).1;omega) (by have:=HE2'.out.size;exact this));obtain ⟨d6,hadd⟩:=HCI'.out.add V.out (by omega) HMEM.out HZ.out.symm HYS.out;have HADD:=hid hadd;have HQ6:=hid hq6;have HNUM6:=hid hnum6;have HE6:=hid hE6;clear hq6 hk6 hk7 hnum6 hE6 hadd;go_wp2_with fail
          go_roundg g3
          case rel=>exact ⟨k+1,q' ++ [(Y:Int)],_,_,by have:=HKG.out;omega,rfl,by go_num,by rw [HTK1.out];exact HADD.out,HQ6.out,HNUM6.out,HE6.out⟩
          case measure=>omega
noncomputable def circleErr (ks:List Int):Int:=if tchk ks≠0 then tchk ks else if rowOf (nxS ks) (zeroS ks) < 0 then 0 else 17
theorem z9m (ks:List Int):stV (zeroS ks)=stV []:=by
 have h:∀ i,gt (zeroS ks) i=0:=fun i=>zd8 ks i
 rw [zcy,zcy,h,h,h,h,h];rfl
theorem infI:∃ i,Tryz.prog.info? 3=some i∧i.zero=some (.int .i64 0)∧i.size=1∧i.bytes=8:=info_parts (by kernel_rfl)
structure CircR (ks row:List Int):Prop where
 bad:circleErr ks≠0→row=[]
 ne:circleErr ks=0→row≠[]
 short:circleErr ks=0→zi2 ks row.length
 win:circleErr ks=0→WinL ks row
 circ:circleErr ks=0→circP ks row=true
 le:row.length≤1000
theorem circleT_any (ks:List Int) (kv:Value) (w:World) (hv:IsInts w .i64 kv ks) :
  Calls Tryz.prog 9 #[.agg #[kv]] w fun e W=>∃ r row,e = .returned (.tuple #[r,.int .i64 (circleErr ks)])∧Ext w W∧IsInts W .i64 r row∧CircR ks row:=by
 obtain ⟨sa,cap,rfl,h1,h2,-⟩:=hv.spec;have HV:=hid hv;clear hv;obtain ⟨t,ht⟩:∃ t,t=tchk ks:=⟨_,rfl⟩
 have HT:=hid ht
 go_enter Tryz.func9,Tryz.ntmps9
 go_upto_region 1 with (fail);obtain ⟨W0,hW0⟩:∃ W0,W0=w.alloc (.cells #[.slice sa ks.length cap] 24):=⟨_,rfl⟩
 have hE:Ext w W0:=by rw [hW0];exact xx
 have k0:W0.cell? ⟨w.heap.size,0,none⟩=some (.slice sa ks.length cap):=by rw [hW0];simp [go_sem]
 have hz:w.heap.size < W0.heap.size:=World.block_lt_of_cell? _ _ k0;have HS:=hid (HV.out.ext hE);have HW:=hid hE;rw [← hW0];clear hW0 HV;clear hE;go_wp2_with fail;refine (zpe ks _ W0 HS.out).mono ?_
 rintro e W1 ⟨rfl,hE1⟩;rw [← ht];clear ht;have k1:=zj hE1 k0;have HE1:=hid hE1;have HS1:=hid (HS.out.ext hE1);clear hE1
 by_cases hc:t=0
 ·have e1:(t == 0)=true:=by simpa using hc
  have e2:(t != 0)=false:=by simpa using hc
  have V:=hid (tval_of (HT.out.symm.trans hc));have HC:=hid hc;clear hc;go_wp2_with fail;refine (z0j ks _ W1 V.out HS1.out).mono ?_
  rintro e W2 ⟨p,rfl,hE2,hT2⟩;have HE2:=hid hE2;have HT2:=hid hT2;have hsf:=zt1 ks (zeroS ks) p _ W2 V.out (zeroS_st V.out) HT2.out.hd HT2.out.mp;rw [z7e V.out (zeroS_st V.out),z9m,zcy] at hsf;have hce:circleErr ks=if rowOf (nxS ks) (zeroS ks) < 0 then 0 else 17:=by unfold circleErr;rw [if_neg (by rw [← HT.out];exact fun h=>h HC.out)]
  have HSF:=hid hsf;have HCE:=hid hce;clear hE2 hT2 hsf hce;go_wp2_with fail;refine HSF.out.mono ?_
  rintro e W3 ⟨rfl,hE3⟩;have HE3:=hid hE3;clear hE3 HSF
  by_cases hr:rowOf (nxS ks) (zeroS ks) < 0
  ·have hd:decide (rowOf (nxS ks) (zeroS ks) < 0)=true:=decide_eq_true hr
   have HR:=hid hr;rw [hd];clear hr hd;go_wp2_with fail;refine (z46 ks p W3 V.out (HT2.out.ext HE3.out)).mono ?_
   rintro e W4 ⟨r,row,rfl,hE4,hI4,hB4,hl4⟩;have hsp:zcp (nxS ks) (zeroS ks):=z63.1 HR.out;have hsh:=hB4.short V.out hsp;have hN:=zk8 V.out;obtain ⟨ra,rc,rfl,hr1,hr2,hr3⟩:=hI4.spec
   rcases hr3 with hr3 | ⟨rb,ro,rfl,hr3⟩
   ·exact absurd hr3 hsh.1
   have HSH:=hid hsh;have HI4:=hid hI4;have HE4:=hid hE4;have hl1:row.length≤1000:=by omega
   obtain ⟨n,hn⟩:∃ n,n=row.length:=⟨_,rfl⟩
   have HR3:=hid hr3;rw [← hn] at hr1 hl1 ⊢;have HNN:=hid hn;have hcr:CircR ks row:=by
    have h0:circleErr ks=0:=by rw [HCE.out,if_pos HR.out]
    exact ⟨fun h=>absurd h0 h,fun _=>hsh.1,fun _=>hsh.2.1,fun _=>hsh.2.2.1,fun _=>hsh.2.2.2,by rw [← hn];exact hl1⟩
   have HCR:=hid hcr;have h00:Hid (circleErr ks=0):=hid (by rw [HCE.out,if_pos HR.out]);clear hsh hI4 hE4 hn hr3 hB4 hsp hl4 hN hcr;obtain ⟨iI,hiI,hzI,hsI,hbI⟩:=infI;have hbk:iI.bytes * n≤281474976710656:=by rw [hbI];omega
   go_wp2_with (first | (at_make;refine wpList_make_full _ rfl _ _ 22 rfl W4.heap.size 3 iI (.int .i64 0) 1 zfz.und hiI hzI hsI .i64 .i64 _ _ n rfl rfl rfl rfl hbk (by simp [maxLen];omega) (by omega) ?_));intro w5 hown5 hg5';have hE5:Ext W4 w5:=(Below.refl _ W4).grown hg5' (Nat.le_refl _) fun k hk=>by cases hk
   have hcur:∃ cur:Array Value,w5.heap[W4.heap.size]? = some (.cells cur 3 (0,0))∧cur.size=n:=by
    rcases hown5.2 with ⟨e,_⟩ | ⟨g',cap',cur,e,_,hg',_,_,hcs,_⟩
    ·cases e
    ·cases e;exact ⟨cur,hg',by omega⟩
   obtain ⟨cur,hcur,hcs⟩:=hcur;have HCUR:=hid hcur;have HCS:=hid hcs;have HE5:=hid hE5;have hsrc:∀ j v,(row.map (Value.int .i64))[j]? = some v→w5.cell? ((⟨rb,ro,none⟩:Addr).add j)=some v:=fun j v hj=>by
    rw [addr_add];obtain ⟨x,hx,rfl⟩:=(by simpa using hj:∃ x,row[j]? = some x∧Value.int .i64 x=v)
    obtain ⟨hjl,rfl⟩:=List.getElem?_eq_some_iff.1 hx;exact zj HE5.out (HR3.out j hjl)
   have HSRC:=hid hsrc;have hlen:(row.map (Value.int .i64)).length=Nat.min n n:=by have:=HNN.out;simp;omega
   have HLEN:=hid hlen;have HFIT:Hid (0+(row.map (Value.int .i64)).length≤cur.size):=hid (by rw [hlen,hcs];show 0+min n n≤n;omega);have HONE:Hid (∀ u∈row.map (Value.int .i64),u.oneCell'=true):=hid (by intro u hu;obtain ⟨y,_,rfl⟩:=List.mem_map.1 hu;rfl);have hsz1:(Tryz.prog.info? 3).map (·.size)=some 1:=by rw [hiI];simp [hsI]
   have HSZ:=hid hsz1;clear hown5 hg5' hE5 hcur hcs hsrc hlen hsz1 hiI hzI hsI hbI hbk;go_wp2_with (with_reducible refine wpList_copy_own rfl (.tmp 24) (.tmp 25) 22 22 rfl 3 zfz.und HSZ.out W4.heap.size 0 n n ⟨rb,ro,none⟩ n rc rfl rfl cur 3 HCUR.out (row.map (Value.int .i64)) HLEN.out HSRC.out HFIT.out HONE.out ?_);refine bodyPost_ret (v:=.tuple #[.slice (some ⟨W4.heap.size,0,none⟩) n n,.int .i64 0]) (by simp [results,Tryz.results9,go_sem]) rfl ?_
   refine ⟨.slice (some ⟨W4.heap.size,0,none⟩) n n,row,by rw [h00.out],(HW.out.trans' (HE1.out.trans' (HE2.out.trans' (HE3.out.trans' HE4.out)))).trans' (HE5.out.mono (Nat.le_refl _) |>.trans (by exact below_setRow (Below.refl _ _) (Nat.le_refl _) _)),?_,HCR.out⟩;have:=IsInts.mk (w:=w5.setRow W4.heap.size (cur.toList.take 0 ++ (row.map (Value.int .i64) ++ cur.toList.drop (0+(row.map (Value.int .i64)).length))).toArray) (k:=.i64) (l:=row) (b:=W4.heap.size) (off:=0) (cap:=n) (by have:=HNN.out;omega) (by omega) fun i hi=>by
    rw [cell_of_row _ _ _ _ _ _ (setRow_heap w5 W4.heap.size _ _ _ _ HCUR.out)];simp [List.getElem?_append_left,hi]
   rw [← HNN.out] at this;simpa using this
  ·have hd:decide (rowOf (nxS ks) (zeroS ks) < 0)=false:=decide_eq_false hr
   have HR:Hid (¬ rowOf (nxS ks) (zeroS ks) < 0):=hid hr;rw [hd];clear hr hd;go_wp2_with fail;refine bodyPost_ret (v:=.tuple #[.slice none 0 0,.int .i64 17]) (by simp [results,Tryz.results9,go_sem]) rfl ?_
   have h17:circleErr ks=17:=by rw [HCE.out,if_neg (Int.not_lt.2 HR.out)]
   exact ⟨_,[],by rw [h17],HW.out.trans' (HE1.out.trans' (HE2.out.trans' HE3.out)),IsInts.nil _ _,fun _=>rfl,fun h=>(by rw [h17] at h;cases h),fun h=>(by rw [h17] at h;cases h),fun h=>(by rw [h17] at h;cases h),fun h=>(by rw [h17] at h;cases h),by simp⟩
 ·have e1:(t == 0)=false:=by simpa using hc
  have e2:(t != 0)=true:=by simpa using hc
  have HC:=hid hc;clear hc;go_wp2_with fail;refine bodyPost_ret (v:=.tuple #[.slice none 0 0,.int .i64 t]) (by simp [results,Tryz.results9,go_sem]) rfl ?_
  have ht2:circleErr ks=t:=by unfold circleErr;rw [if_pos (by rw [← HT.out];exact HC.out),HT.out]
  have h0:¬ circleErr ks=0:=by rw [ht2];exact HC.out
  exact ⟨_,[],by rw [ht2],HW.out.trans' HE1.out,IsInts.nil _ _,fun _=>rfl,fun h=>absurd h h0,fun h=>absurd h h0,fun h=>absurd h h0,fun h=>absurd h h0,by simp⟩
def zpx (k:Int):Bool:=decide (k < 1) || decide (12 < k)
theorem zk9 (ks:List Int):tchk ks=if ks.length < 1∨5 < ks.length then 6 else if ks.any zpx=true then 3 else if 1000 < zq ks then 2 else 0:=rfl
theorem zvw {ks:List Int} (h5:ks.length≤5) (hb:∀ x∈ks,zpx x=false):∀ j,j≤ks.length→1≤zes ks j∧zes ks j≤13 ^ j
 | 0,_=>by simp [zes,zq]
 | j+1,h=>by
  obtain ⟨a,b⟩:=zvw h5 hb j (by omega);rw [zpw (by omega)];have hx:=hb ks[j] (List.getElem_mem _);rw [gt_get (show j < ks.length by omega)] at hx;unfold zpx at hx;simp at hx;have e:(13:Int) ^ (j+1)=13 ^ j * 13:=Int.pow_succ 13 j;have h1:=Int.mul_le_mul_of_nonneg_left (show gt ks j+1≤13 by omega) (show 0≤zes ks j by omega);have h2:=Int.mul_le_mul_of_nonneg_right b (show (0:Int)≤13 by omega);have h3:=Int.mul_le_mul_of_nonneg_left (show 1≤gt ks j+1 by omega) (show 0≤zes ks j by omega);omega
theorem p13:∀ j:Nat,j≤5→(13:Int) ^ j≤371293
 | 0,_=>by decide
 | 1,_=>by decide
 | 2,_=>by decide
 | 3,_=>by decide
 | 4,_=>by decide
 | 5,_=>by decide
theorem zla (ks:List Int) (kv:Value) (w:World) (hv:IsInts w .i64 kv ks) :
  Calls Tryz.prog 19 #[.agg #[kv]] w fun e W=>e = .returned (.int .i64 (tchk ks))∧Ext w W:=by
 obtain ⟨sa,cap,rfl,h1,h2,-⟩:=hv.spec;have HV:=hid hv;clear hv
 go_enter Tryz.func19,Tryz.ntmps19
 go_upto_region 1 with (fail);obtain ⟨W0,hW0⟩:∃ W0,W0=w.alloc (.cells #[.slice sa ks.length cap] 24):=⟨_,rfl⟩
 have hE:Ext w W0:=by rw [hW0];exact xx
 have k0:W0.cell? ⟨w.heap.size,0,none⟩=some (.slice sa ks.length cap):=by rw [hW0];simp [go_sem]
 have hz:w.heap.size < W0.heap.size:=World.block_lt_of_cell? _ _ k0;have HS:=hid (HV.out.ext hE);have HW:=hid hE;rw [← hW0];clear hW0 HV;clear hE
 by_cases hn1:ks.length < 1
 ·have d1:decide ((ks.length:Int) < 1)=true:=decide_eq_true (by omega)
  have HF:=hid (show tchk ks=6 by rw [zk9,if_pos (.inl hn1)]);clear hn1;go_wp2_with fail;go_ret;exact ⟨zay HF.out.symm,HW.out⟩
 have d1:decide ((ks.length:Int) < 1)=false:=decide_eq_false (by omega)
 by_cases hn5:5 < ks.length
 ·have d2:decide ((5:Int) < (ks.length:Int))=true:=decide_eq_true (by omega)
  have HF:=hid (show tchk ks=6 by rw [zk9,if_pos (.inr hn5)]);clear hn1 hn5;go_wp2_with fail;go_ret;exact ⟨zay HF.out.symm,HW.out⟩
 have d2:decide ((5:Int) < (ks.length:Int))=false:=decide_eq_false (by omega);go_wp2_with fail
 go_loopw [4] (fun i W=>∃ k:Nat,k≤ks.length∧i = .int .i64 k∧(∀ x∈ks.take k,zpx x=false)∧W=W0) (fun i _=>ks.length - (intOf i).toNat)
 case atStart=>exact ⟨0,by omega,rfl,by simp,rfl⟩
 case round =>
  obtain ⟨k,hk,rfl,hno,rfl⟩:=hrel;have HNO:=hid hno;clear hno
  by_cases hlt:k < ks.length
  ·rcases HS.out.spec with ⟨sa',cap',e,-,-,hcc⟩
   cases e
   rcases hcc with hcc | ⟨b,off,rfl,hcc⟩
   ·rw [hcc] at hlt;simp at hlt
   have c0:=hcc k hlt;have hki:(k:Int) < (ks.length:Int):=by omega
   by_cases hb:zpx ks[k]=true
   ·have HF:=hid (show tchk ks=3 by rw [zk9,if_neg (by omega),if_pos (List.any_eq_true.2 ⟨_,List.getElem_mem hlt,hb⟩)])
    have hb':=hb;unfold zpx at hb';obtain ⟨x,hx⟩:∃ x,x=ks[k]:=⟨_,rfl⟩
    rw [← hx] at c0 hb';clear hcc hb hx
    by_cases hx1:x < 1
    ·have f1:decide (x < 1)=true:=decide_eq_true hx1
     clear hb';go_wp2_with fail;go_ret;exact ⟨zay HF.out.symm,HW.out⟩
    ·have f1:decide (x < 1)=false:=decide_eq_false hx1
     have f2:decide (12 < x)=true:=by simpa [f1] using hb'
     clear hb';go_wp2_with fail;go_ret;exact ⟨zay HF.out.symm,HW.out⟩
   ·have hst:=zjc hlt HNO.out (by simpa using hb)
    have HST:=hid hst;unfold zpx at hb;obtain ⟨x,hx⟩:∃ x,x=ks[k]:=⟨_,rfl⟩
    rw [← hx] at c0 hb;have f1:decide (x < 1)=false:=by simp at hb ⊢;omega
    have f2:decide (12 < x)=false:=by simp at hb ⊢;omega
    clear hcc hb hx hst;go_wp2_with fail;go_roundw
    case rel=>exact ⟨k+1,by omega,by go_num,HST.out,trivial⟩
    case measure=>simp [intOf];omega
  ·have hall:=zjd hlt HNO.out
   have HALL:=hid hall;have HK:=hid (show k=ks.length by omega);clear hall;have g0:decide ((k:Int) < (ks.length:Int))=false:=decide_eq_false (by omega);go_wp2_with fail
   go_loopw [3,5] (fun m i W=>∃ j:Nat,j≤ks.length∧i = .int .i64 j∧m = .int .i64 (zes ks j)∧W=wr) (fun _ i _=>ks.length - (intOf i).toNat)
   case atStart=>exact ⟨0,by omega,rfl,rfl,rfl⟩
   case round =>
    obtain ⟨j,hj,rfl,rfl,hwr⟩:=hrel;cases hwr;have hb:=zvw (ks:=ks) (by omega) HALL.out j hj;have hp:=p13 j (by omega)
    by_cases hlt:j < ks.length
    ·rcases HS.out.spec with ⟨sa',cap',e,-,-,hcc⟩
     cases e
     rcases hcc with hcc | ⟨b,off,rfl,hcc⟩
     ·rw [hcc] at hlt;simp at hlt
     have c0:=hcc j hlt;have hji:(j:Int) < (ks.length:Int):=by omega
     have hb2:=zvw (ks:=ks) (by omega) HALL.out (j+1) (by omega);have hp2:=p13 (j+1) (by omega);have e1:=zpw hlt;have hx:=HALL.out ks[j] (List.getElem_mem hlt);unfold zpx at hx;simp only [Bool.or_eq_false_iff,decide_eq_false_iff_not] at hx;rw [gt_get hlt] at c0 hx;obtain ⟨x,hxx⟩:∃ x,x=gt ks j:=⟨_,rfl⟩
     obtain ⟨M,hM⟩:∃ M,M=zes ks j:=⟨_,rfl⟩
     rw [← hxx] at c0 e1 hx;rw [← hM] at e1 hb;rw [← hM];have hmb:1≤M * (x+1)∧M * (x+1)≤371293:=by rw [← e1];omega
     have hw1:IntKind.i64.wrap (M * (x+1))=M * (x+1):=IntWalk.i64_in _ (by omega);have E1:=hid e1;clear hcc hxx hM e1 hb2 hp2 hp;go_wp2_with fail;go_roundw
     case rel=>exact ⟨j+1,by omega,by go_num,by rw [E1.out],trivial⟩
     case measure=>simp [intOf];omega
    ·obtain rfl:j=ks.length:=by omega
     have hpr:zes ks ks.length=zq ks:=by unfold zes;rw [List.take_length]
     rw [hpr] at hb ⊢;have hte:tchk ks=if 1000 < zq ks then 2 else 0:=by
      rw [zk9,if_neg (by omega),if_neg];intro h;obtain ⟨x,hx,h⟩:=List.any_eq_true.1 h;rw [HALL.out x hx] at h;cases h
     obtain ⟨M,hM⟩:∃ M,M=zq ks:=⟨_,rfl⟩
     rw [← hM] at hte hb ⊢;have HTE:=hid hte;clear hte hpr hM
     by_cases hbig:1000 < M
     ·have f1:decide (1000 < M)=true:=decide_eq_true hbig
      have HF:=hid (show tchk ks=2 by rw [HTE.out,if_pos hbig]);clear hbig;go_wp2_with fail;go_ret;exact ⟨zay HF.out.symm,HW.out⟩
     ·have f1:decide (1000 < M)=false:=decide_eq_false hbig
      have HF:=hid (show tchk ks=0 by rw [HTE.out,if_neg hbig]);clear hbig;go_wp2_with fail;go_ret;exact ⟨zay HF.out.symm,HW.out⟩
theorem zsx {ks:List Int}:∀ (p q:List Int) (a:Nat) (s:List Int),(za1 ks a s (p ++ q)).1=(za1 ks a s p).1.bind fun t=>(za1 ks 0 t q).1
 | [],q,a,s=>by simp [za1,z0h q a 0 s]
 | w :: p,q,a,s=>by
  rw [List.cons_append,za1,za1]
  split
  ·rfl
  ·exact zsx p q _ _
theorem z9n {ks c:List Int} (v:TVal ks) (hw:WinL ks c) (h:circP ks c=true) (k:Nat):circP ks (c.drop k ++ c.take k)=true:=by
 obtain ⟨s,hs,-,hc,hne⟩:=zr0 v hw h;have h1:=hc 0;rw [show c=c.take k ++ c.drop k from (List.take_append_drop k c).symm,zsx] at h1;have hwt:WinL ks (c.take k):=fun x hx=>hw x (List.mem_of_mem_take hx)
 have hwd:WinL ks (c.drop k):=fun x hx=>hw x (List.mem_of_mem_drop hx)
 cases e:(za1 ks 0 s (c.take k)).1 with
 | none=>rw [e] at h1;cases h1
 | some t =>
  rw [e] at h1;have ht:zaj ks t=true:=z0f v hs (z0e hwt e);refine zrz v ht (fun x hx=>?_) (fun hn=>hne ?_) (a:=0) ?_
  ·rcases List.mem_append.1 hx with hx | hx
   ·exact hwd x hx
   ·exact hwt x hx
  ·obtain ⟨h2,h3⟩:=List.append_eq_nil_iff.1 hn
   rw [← List.take_append_drop k c,h2,h3];rfl
  ·rw [zsx]
   have h1':(za1 ks 0 t (c.drop k)).1=some s:=h1;rw [h1'];exact e
theorem zxj {k w:Int}:∀ (l:List Int) (n:Int) (i:Nat),(zba k w n l).isSome=true→i < l.length→(∀ j,j < i→l.getD j 0≠w)→n+i+1≤k
 | [],n,i,_,hi,_=>by simp at hi
 | x :: l,n,i,h,hi,hn=>by
  rw [zba] at h
  split at h
  ·cases h
  ·rename_i hk
   match i,hi,hn with
   | 0,_,_=>simp;omega
   | i+1,hi,hn =>
    have h0:x≠w:=by simpa using hn 0 (by omega)
    rw [if_neg h0] at h;have:=zxj l (n+1) i h (by simpa using hi) fun j hj=>by simpa using hn (j+1) (by omega)
    omega
theorem vis_circ {ks c:List Int} (v:TVal ks) (hw:WinL ks c) (h:circP ks c=true) {w:Nat} (hwn:w < ks.length) (j:Nat):∃ i,i < (ks.getD w 0).toNat∧c.getD ((j+i) % c.length) 0=(w:Int):=by
 have hc0:0 < c.length:=by
  obtain ⟨s,-,-,-,hne⟩:=zr0 v hw h;exact List.length_pos_iff.2 hne
 obtain ⟨d,hd⟩:∃ d,d=j % c.length:=⟨_,rfl⟩
 have hdl:d < c.length:=by rw [hd];exact Nat.mod_lt _ hc0
 have hr:=z9n v hw h d;obtain ⟨rot,hrot⟩:∃ rot,rot=c.drop d ++ c.take d:=⟨_,rfl⟩
 rw [← hrot] at hr;have hl:rot.length=c.length:=by rw [hrot,List.length_append,List.length_drop,List.length_take];omega
 unfold circP at hr;rw [Bool.and_eq_true,List.all_eq_true,zoc (zch ks) (fun x hx=>by
  have hx':x∈c:=by
   have:x∈rot:=by rcases List.mem_append.1 hx with h | h<;>exact h
   rw [hrot] at this
   rcases List.mem_append.1 this with h | h
   ·exact List.mem_of_mem_drop h
   ·exact List.mem_of_mem_take h
  exact (hw x hx').1)] at hr
 obtain ⟨h1,h2⟩:=hr;have hm:=h2 w (List.mem_range.2 hwn);have hm:(w:Int)∈rot:=by simpa using hm
 obtain ⟨i,hi⟩:∃ i,i=rot.findIdx fun x=>x == (w:Int):=⟨_,rfl⟩
 have hil:i < rot.length:=by rw [hi];exact List.findIdx_lt_length_of_exists ⟨_,hm,by simp⟩
 have hiw:rot.getD i 0=(w:Int):=by
  rw [List.getD_eq_getElem?_getD,List.getElem?_eq_getElem hil];have:=List.findIdx_getElem (p:=fun x=>x == (w:Int)) (xs:=rot) (w:=by rw [← hi];exact hil);simp only [← hi] at this;simpa using this
 have hno:∀ q,q < i→(rot ++ rot).getD q 0≠(w:Int):=fun q hq=>by
  rw [List.getD_eq_getElem?_getD,List.getElem?_append_left (by omega),List.getElem?_eq_getElem (by omega)];have:=List.not_of_lt_findIdx (p:=fun x=>x == (w:Int)) (xs:=rot) (i:=q) (by rw [← hi];exact hq);simpa using this
 have hsoon:=zxj (k:=ks.getD w 0) (w:=(w:Int)) (rot ++ rot) 0 i (by have:=h1 w hwn;rw [zd8] at this;exact this) (by simp;omega) hno
 ·refine ⟨i,by omega,?_⟩
  rw [← hiw,hrot,List.getD_eq_getElem?_getD,List.getD_eq_getElem?_getD]
  congr 1
  have e:(j+i) % c.length=if d+i < c.length then d+i else d+i - c.length:=by
   rw [Nat.add_mod,← hd,Nat.mod_eq_of_lt (show i < c.length by omega)]
   split
   ·exact Nat.mod_eq_of_lt (by assumption)
   ·rw [Nat.mod_eq_sub_mod (by omega),Nat.mod_eq_of_lt (by omega)]
  rw [e]
  split
  ·rw [List.getElem?_append_left (by rw [List.length_drop];omega),List.getElem?_drop]
  ·rw [List.getElem?_append_right (by rw [List.length_drop];omega),List.length_drop,List.getElem?_take,if_pos (by omega)]
   congr 1
   omega
theorem doomSafe_any (ks s:List Int) (kv lv:Value) (w:World) (hv:IsInts w .i64 kv ks) (hl:IsInts w .i64 lv s) (h0:zbr ks s=0) (hs:rowOf (nxS ks) s < 0) :
  Calls Tryz.prog 11 #[.agg #[kv],lv] w fun e W=>∃ r,e = .returned (.tuple #[r,.int .i64 5])∧Ext w W:=by
 obtain ⟨sa,cap,rfl,h1,h2,-⟩:=hv.spec;have HV:=hid hv;have HL0:=hid hl;clear hv hl
 go_enter Tryz.func11,Tryz.ntmps11
 go_upto_region 1 with (fail);obtain ⟨W0,hW0⟩:∃ W0,W0=w.alloc (.cells #[.slice sa ks.length cap] 24):=⟨_,rfl⟩
 have hE:Ext w W0:=by rw [hW0];exact xx
 have k0:W0.cell? ⟨w.heap.size,0,none⟩=some (.slice sa ks.length cap):=by rw [hW0];simp [go_sem]
 have hz:w.heap.size < W0.heap.size:=World.block_lt_of_cell? _ _ k0;have HS:=hid (HV.out.ext hE);have HW:=hid hE;rw [← hW0];clear hW0 HV;have HL:=hid (HL0.out.ext hE);clear hE HL0;go_wp2_with fail;refine (z9j ks s _ _ W0 HS.out HL.out).mono ?_
 rintro e W1 (⟨hne,rfl,hE1⟩ | ⟨-,p,rfl,hE1,hT1⟩)
 ·exact absurd h0 hne
 ·obtain ⟨v,hst⟩:=zz2 h0
  have hcf:=fun W h1 h2=>zt1 ks s p (FofR ks (rkN ks)) W v hst h1 h2
  rw [z7e v hst,zcy,decide_eq_true hs] at hcf;have HCF:=hid hcf;rw [zcy];have HT1:=hid hT1;have HE1:=hid hE1;have k1:=zj hE1 k0;clear v hst h0 hT1 hE1 hcf hs;go_wp2_with fail;refine (HCF.out _ (HT1.out.hd.ext (by exact xx)) (HT1.out.mp.ext (by exact xx))).mono ?_
  rintro e W2 ⟨rfl,hE2⟩;have HE2:=hid hE2;clear hE2 HCF;go_wp2_with fail;refine bodyPost_ret (v:=.tuple #[.slice none 0 0,.int .i64 5]) (by simp [results,Tryz.results11,go_sem]) rfl ?_
  exact ⟨_,rfl,HW.out.trans' (HE1.out.trans' (Ext.trans' (by exact xx) HE2.out))⟩
theorem z9o {ks:List Int} (h:5 < ks.length):tchk ks≠0:=by
 rw [zk9,if_pos (.inr h)];decide
theorem hall03_any (ks:List Int) (kv:Value) (w:World) (hv:IsInts w .i64 kv ks) :
  Calls Tryz.prog 5 #[.agg #[kv]] w fun e W=>e = .returned (.bool (tchk ks == 0))∧Ext w W:=by
 obtain ⟨sa,cap,rfl,h1,h2,-⟩:=hv.spec;have HV:=hid hv;clear hv
 go_enter Tryz.func5,Tryz.ntmps5
 go_upto_region 1 with (fail);obtain ⟨W0,hW0⟩:∃ W0,W0=w.alloc (.cells #[.slice sa ks.length cap] 24):=⟨_,rfl⟩
 have hE:Ext w W0:=by rw [hW0];exact xx
 have k0:W0.cell? ⟨w.heap.size,0,none⟩=some (.slice sa ks.length cap):=by rw [hW0];simp [go_sem]
 have hz:w.heap.size < W0.heap.size:=World.block_lt_of_cell? _ _ k0;have HS:=hid (HV.out.ext hE);have HW:=hid hE;rw [← hW0];clear hW0 HV;clear hE
 by_cases hn:10 < ks.length
 ·have d1:decide ((ks.length:Int)≤10)=false:=decide_eq_false (by omega)
  have HF:=hid (show false=(tchk ks == 0) by
   have:=z9o (ks:=ks) (by omega);simpa using this)
  clear hn;go_wp2_with fail;go_ret;exact ⟨by rw [← HF.out];rfl,HW.out⟩
 ·have d1:decide ((ks.length:Int)≤10)=true:=decide_eq_true (by omega)
  clear hn;go_wp2_with fail;refine (zla ks _ W0 HS.out).mono ?_
  rintro e W1 ⟨rfl,hE1⟩;obtain ⟨t,ht⟩:∃ t,t=tchk ks:=⟨_,rfl⟩
  rw [← ht];have HT:=hid ht;have HE1:=hid hE1;clear hE1 ht;go_wp2_with fail;go_ret;exact ⟨by rw [← HT.out];rfl,HW.out.trans' HE1.out⟩
theorem zero_ints {W:World} {g:Nat} {ks:List Int} (h:zbv W g ks.length (fun _=>0)) (h5:ks.length≤1000):IsInts W .i64 (.slice (some ⟨g,0,none⟩) ks.length ks.length) (zeroS ks):=by
 have:=IsInts.mk (w:=W) (b:=g) (off:=0) (l:=zeroS ks) (cap:=ks.length) (k:=.i64) (by rw [zch];exact Nat.le_refl _) (by omega) fun i hi=>by
  rw [zch] at hi;have:=h.cell i hi;rw [Nat.zero_add,this];simp [zeroS]
 rwa [zch] at this
theorem safe_of0 {ks:List Int} (h:circleErr ks=0) (v:TVal ks):rowOf (nxS ks) (zeroS ks) < 0:=by
 unfold circleErr at h;rw [if_neg (fun h=>h (tchk_of v))] at h
 split at h
 ·assumption
 ·cases h
theorem z0k (ks:List Int) (n:Int) (kv:Value) (w:World) (hv:IsInts w .i64 kv ks) :
  Calls Tryz.prog 67 #[.agg #[kv],.int .i64 n] w fun e W=>e = .returned (.bool (inR 0 ((ks.length:Int) - 1) n))∧Ext w W:=by
 obtain ⟨sa,cap,rfl,h1,h2,-⟩:=hv.spec;have HV:=hid hv;clear hv;obtain ⟨r,hr⟩:∃ r,r=inR 0 ((ks.length:Int) - 1) n:=⟨_,rfl⟩
 have h3:r=(decide (0≤n) && decide (n < (ks.length:Int))):=by
  rw [hr,Bool.eq_iff_iff,inR_iff];simp;omega
 rw [← hr];clear hr
 go_enter Tryz.func67,Tryz.ntmps67
 by_cases hn:0≤n
 ·have d1:decide (0≤n)=true:=decide_eq_true hn
  rw [d1,Bool.true_and] at h3;have H3:=hid h3;clear h3 hn;go_wp2_with fail;go_ret;exact ⟨zd2 H3.out.symm,xx⟩
 ·have d1:decide (0≤n)=false:=decide_eq_false hn
  rw [d1,Bool.false_and] at h3;have H3:=hid h3;clear h3 hn;go_wp2_with fail;go_ret;exact ⟨zd2 H3.out.symm,xx⟩
theorem z7f (ks row:List Int) (kv rv:Value) (w:World) (hv:IsInts w .i64 kv ks) (hr:IsInts w .i64 rv row) :
  Calls Tryz.prog 29 #[.agg #[kv],rv] w fun e W=>e = .returned (.int .i64 (rowErr ks row))∧Ext w W:=by
 obtain ⟨sa,cap,rfl,h1,h2,-⟩:=hv.spec;obtain ⟨ra,rcap,rfl,h3,h4,-⟩:=hr.spec;have HV:=hid hv;have HR0:=hid hr;clear hv hr
 go_enter Tryz.func29,Tryz.ntmps29
 go_upto_region 1 with (fail);obtain ⟨W0,hW0⟩:∃ W0,W0=w.alloc (.cells #[.slice sa ks.length cap] 24):=⟨_,rfl⟩
 have hE:Ext w W0:=by rw [hW0];exact xx
 have k0:W0.cell? ⟨w.heap.size,0,none⟩=some (.slice sa ks.length cap):=by rw [hW0];simp [go_sem]
 have hz:w.heap.size < W0.heap.size:=World.block_lt_of_cell? _ _ k0;have HS:=hid (HV.out.ext hE);have HW:=hid hE;rw [← hW0];clear hW0 HV;have HR:=hid (HR0.out.ext hE);clear hE HR0
 by_cases hl:1000 < row.length
 ·have hl1:decide ((1000:Int) < (row.length:Int))=true:=decide_eq_true (by omega)
  go_wp2_with fail;go_ret;exact ⟨zay (by unfold rowErr;rw [if_pos hl]),HW.out⟩
 have hl1:decide ((1000:Int) < (row.length:Int))=false:=decide_eq_false (by omega);go_wp2_with fail
 go_loopw [5] (fun i W=>∃ k:Nat,k≤row.length∧i = .int .i64 k∧(∀ x∈row.take k,(!inR 0 ((ks.length:Int) - 1) x)=false)∧Ext W0 W) (fun i _=>row.length - (intOf i).toNat)
 case atStart=>exact ⟨0,by omega,rfl,by simp,Below.refl _ _⟩
 case round =>
  obtain ⟨k,hk,rfl,hno,hE⟩:=hrel;have HNO:=hid hno;clear hno
  by_cases hlt:k < row.length
  ·rcases (HR.out.ext hE).spec with ⟨ra',rcap',e,-,-,hcc⟩
   cases e
   rcases hcc with hcc | ⟨b,off,rfl,hcc⟩
   ·rw [hcc] at hlt;simp at hlt
   have c0:=hcc k hlt;have hki:(k:Int) < (row.length:Int):=by omega
   have k0':=zj hE k0;have hzr:=World.block_lt_of_cell? _ _ k0';have hzb:=World.block_lt_of_cell? _ _ c0;simp only at hzr hzb;have cw:=fun W hs=>z0k ks row[k] (.slice sa ks.length cap) W hs
   have htk:=fun h=>zjc (p:=fun x=>!inR 0 ((ks.length:Int) - 1) x) hlt HNO.out h
   have hbad:inR 0 ((ks.length:Int) - 1) row[k]=false→rowErr ks row=2:=fun h=>by
    unfold rowErr;rw [if_neg hl,if_neg];intro hh;have:=List.all_eq_true.1 hh row[k] (List.getElem_mem hlt);rw [h] at this;cases this
   obtain ⟨ob,hob⟩:∃ ob,ob=inR 0 ((ks.length:Int) - 1) row[k]:=⟨_,rfl⟩
   simp only [← hob] at cw htk hbad;obtain ⟨x,hx⟩:∃ x,x=row[k]:=⟨_,rfl⟩
   rw [← hx] at c0 cw;have CW:=hid cw;have HTK:=hid htk;have HBAD:=hid hbad;have HSW:=hid (HS.out.ext hE);have HE:=hid hE;clear hcc cw htk hbad hob hx hE;go_upto_region 6 with (fail);refine zb9 (wr.heap.size) (Nat.le_refl _)
    [sqV (.agg #[.slice sa ks.length cap]),sqV (.slice (some ⟨b,off,none⟩) row.length rcap),sqV (.int .i64 k),sqV (.pointer (some ⟨b,off+k,none⟩)),sqV (.int .i64 x),sqV (.bool ob),sqV (.bool (!ob))]
    [true,true,true,true,true,true,true] [false,false,false,false,false,false,false] [true,true,true,true,true,true,true] [true,true,true,true,true,true,true]
    (by kernel_rfl) (by kernel_rfl) (by decide +kernel) (by decide +kernel) (by decide +kernel) rfl ⟨rfl,rfl⟩ ⟨?s0,?s1,?s2,?s3,?s4,?s5,?s6,trivial⟩ [some 15,some 16,some 17,some 18,some 19,some 20,some 21] rfl rfl ?send
   case s0 =>
    intro val ρ W hE hz hd hA hx;have o0:ρ (.tmp 2) = .pointer (some ⟨w.heap.size,0,none⟩):=hA.old 2 (by decide);have f_k0':=cell_below hE (by simp only;omega) k0';clear hd;exact zh (W':=W) (by simp [execOp,o0,f_k0',go_sem]) (Below.refl _ _) rfl
   case s1 =>
    intro val ρ W hE hz hd hA hx;have o0:ρ (.tmp 1) = .slice (some ⟨b,off,none⟩) row.length rcap:=hA.old 1 (by decide);clear hd;exact zh (W':=W) (by simp [execOp,o0,go_sem]) (Below.refl _ _) rfl
   case s2 =>
    intro val ρ W hE hz hd hA hx;have o0:ρ (.tmp 5) = .int .i64 k:=hA.old 5 (by decide);clear hd;exact zh (W':=W) (by simp [execOp,o0,go_sem]) (Below.refl _ _) rfl
   case s3 =>
    intro val ρ W hE hz hd hA hx;have d1:ρ (.tmp 16) = .slice (some ⟨b,off,none⟩) row.length rcap:=(hA.dep 1 (by decide) 16 rfl).trans (hd 1 (by decide));have d2:ρ (.tmp 17) = .int .i64 k:=(hA.dep 2 (by decide) 17 rfl).trans (hd 2 (by decide));clear hd;exact zh (W':=W) (by simp [execOp,d1,d2,hki,go_sem]) (Below.refl _ _) rfl
   case s4 =>
    intro val ρ W hE hz hd hA hx;have d3:ρ (.tmp 18) = .pointer (some ⟨b,off+k,none⟩):=(hA.dep 3 (by decide) 18 rfl).trans (hd 3 (by decide));have f_c0:=cell_below hE (by simp only;omega) c0;clear hd;exact zh (W':=W) (by simp [execOp,d3,f_c0,go_sem]) (Below.refl _ _) rfl
   case s5 =>
    intro val ρ W hE hz hd hA hx;have d0:ρ (.tmp 15) = .agg #[.slice sa ks.length cap]:=(hA.dep 0 (by decide) 15 rfl).trans (hd 0 (by decide));have d4:ρ (.tmp 19) = .int .i64 x:=(hA.dep 4 (by decide) 19 rfl).trans (hd 4 (by decide));clear hd;refine zct 67 _ _ rfl #[.agg #[.slice sa ks.length cap],.int .i64 x] (hA.func _) (by simp [d0,d4]) (fun args W=>Tryz.call67 args W) ((CW.out W (HSW.out.ext hE)).mono ?_);rintro e w' ⟨rfl,hb⟩;exact ⟨_,rfl,hb,rfl⟩
   case s6 =>
    intro val ρ W hE hz hd hA hx;have d5:ρ (.tmp 20) = .bool ob:=(hA.dep 5 (by decide) 20 rfl).trans (hd 5 (by decide));clear hd;exact zh (W':=W) (by simp [execOp,d5,go_sem]) (Below.refl _ _) rfl
   case send =>
    intro val WW hE hzz hv;obtain ⟨r0,r1,r2,r3,r4,r5,r6,-⟩:=hv;have q0:val 0 = .agg #[.slice sa ks.length cap]:=r0;have q1:val 1 = .slice (some ⟨b,off,none⟩) row.length rcap:=r1;have q2:val 2 = .int .i64 k:=r2;have q3:val 3 = .pointer (some ⟨b,off+k,none⟩):=r3;have q4:val 4 = .int .i64 x:=r4;have q5:val 5 = .bool ob:=r5;have q6:val 6 = .bool (!ob):=r6;clear r0 r1 r2 r3 r4 r5 r6;obtain ⟨g99,rfl⟩:=zk3 hE;clear hE hzz;simp only [zbx,q0,q1,q2,q3,q4,q5,q6];go_frame;clear q0 q1 q2 q3 q4 q5 q6;cases ob
    ·have HF:=hid (HBAD.out rfl)
     go_wp2_with fail;go_ret;exact ⟨zay HF.out.symm,HW.out.trans' (HE.out.trans' (zax wr g99))⟩
    ·go_wp2_with fail
     go_roundw
     case rel=>exact ⟨k+1,by omega,by go_num,HTK.out rfl,HE.out.trans' (zax wr g99)⟩
     case measure=>simp [intOf];omega
  ·have hall:=zjd hlt HNO.out
   have hfin:rowErr ks row=0:=by
    unfold rowErr;rw [if_neg hl,if_pos];exact List.all_eq_true.2 fun x hx=>by simpa using hall x hx
   have HF:=hid hfin;have HE:=hid hE;have g0:decide ((k:Int) < (row.length:Int))=false:=decide_eq_false (by omega);clear hall hfin hE;go_wp2_with fail;go_ret;exact ⟨zay HF.out.symm,HW.out.trans' HE.out⟩
theorem _root_.Go.Proofs.YtnfdiohfojjnlaaGreat.IsInts.at_all {w:World} {sa:Option Addr} {n cap:Nat} {l:List Int} (h:IsInts w .i64 (.slice sa n cap) l) (hl:0 < l.length) :
  ∃ b off,sa=some ⟨b,off,none⟩∧b < w.heap.size∧∀ W,Ext w W→∀ i,i < l.length→W.cell? ⟨b,off+i,none⟩=some (.int .i64 (gt l i)):=by
 obtain ⟨sa',cap',e,-,-,hcc⟩:=h.spec;cases e
 rcases hcc with hcc | ⟨b,off,rfl,hcc⟩
 ·rw [hcc] at hl;simp at hl
 ·have h0:=World.block_lt_of_cell? _ _ (hcc 0 hl)
  refine ⟨b,off,rfl,h0,fun W hW i hi=>?_⟩;rw [← gt_get hi];exact zj hW (hcc i hi)
theorem z3p {c:List Int} {j:Nat} (h:j < 2 * c.length):(c ++ c).drop j=gt c (j % c.length) :: (c ++ c).drop (j+1)∧j % c.length < c.length:=by
 have hn:0 < c.length:=by omega
 have hl:=Nat.mod_lt j hn;refine ⟨?_,hl⟩;rw [List.drop_eq_getElem_cons (by simp;omega)]
 congr 1
 by_cases hj:j < c.length
 ·rw [List.getElem_append_left hj,gt_get hj,Nat.mod_eq_of_lt hj]
 ·have e:j % c.length=j - c.length:=by
   rw [Nat.mod_eq_sub_mod (by omega),Nat.mod_eq_of_lt (by omega)]
  rw [List.getElem_append_right (by omega),gt_get (by omega),e]
theorem zace {c:List Int} {j:Nat} (h:j < 2 * c.length) (x:Int):x∈(c ++ c).take (j+1)↔x∈(c ++ c).take j∨x=gt c (j % c.length):=by
 have h1:j < (c ++ c).length:=by simp;omega
 have e:(c ++ c)[j]=gt c (j % c.length):=by
  have:=(z3p h).1;rw [List.drop_eq_getElem_cons h1] at this;exact (List.cons.inj this).1
 rw [List.take_succ_eq_append_getElem h1,e,List.mem_append,List.mem_singleton]
theorem checkCircleR_any (ks c:List Int) (kv rv:Value) (w:World) (hv:IsInts w .i64 kv ks) (hr:IsInts w .i64 rv c) :
  Calls Tryz.prog 10 #[.agg #[kv],rv] w fun e w'=>e = .returned (.int .i64 (circErr ks c))∧Ext w w':=by
 obtain ⟨sa,cap,rfl,h1,h2,-⟩:=hv.spec;obtain ⟨ra,rcap,rfl,h5,h6,-⟩:=hr.spec;have HV:=hid hv;have HR0:=hid hr;clear hv hr
 go_enter Tryz.func10,Tryz.ntmps10
 go_upto_region 1 with (fail);obtain ⟨W0,hW0⟩:∃ W0,W0=w.alloc (.cells #[.slice sa ks.length cap] 24):=⟨_,rfl⟩
 have hE:Ext w W0:=by rw [hW0];exact xx
 have k0:W0.cell? ⟨w.heap.size,0,none⟩=some (.slice sa ks.length cap):=by rw [hW0];simp [go_sem]
 have hz:w.heap.size < W0.heap.size:=World.block_lt_of_cell? _ _ k0;have HS:=hid (HV.out.ext hE);have HW:=hid hE;rw [← hW0];clear hW0 HV;have HR:=hid (HR0.out.ext hE);clear hE HR0;obtain ⟨er,her⟩:∃ er,er=tchk ks:=⟨_,rfl⟩
 obtain ⟨re,hre⟩:∃ re,re=rowErr ks c:=⟨_,rfl⟩
 have c1:=fun W h1=>zla ks (.slice sa ks.length cap) W h1
 have c2:=fun W h1 h2=>z7f ks c (.slice sa ks.length cap) (.slice ra c.length rcap) W h1 h2
 simp only [← her] at c1;simp only [← hre] at c2;have C1:=hid c1;have C2:=hid c2;have HER:=hid her;have HRE:=hid hre;clear c1 c2 her hre
 by_cases hc:er=0
 rotate_left
 ·have e1:(er == 0)=false:=by simpa using hc
  have e2:(er != 0)=true:=by simpa using hc
  have HC:=hid hc;clear hc;go_wp2_with fail;refine zhm (W0:=W0) (g:=⟨W0,Below.refl _ _⟩) xx (C1.out _ (HS.out.ext xx)) fun g1 hgr=>?_
  clear hgr;go_wp2_with fail;refine zhm (W0:=W0) (g:=g1) xx (C1.out _ (HS.out.ext xx)) fun g2 hgr=>?_
  clear hgr;go_wp2_with fail;go_ret;exact ⟨zay (by unfold circErr;rw [if_pos (by rw [← HER.out];exact HC.out),HER.out]),HW.out.trans' (zax W0 _)⟩
 have HC:=hid (HER.out.symm.trans hc);subst hc;have V:=hid (tval_of HC.out);have n1:=V.out.n1;have n5:=V.out.n5;go_wp2_with fail;refine zhm (W0:=W0) (g:=⟨W0,Below.refl _ _⟩) xx (C1.out _ (HS.out.ext xx)) fun g3 hgr=>?_
 clear hgr
 by_cases hl:c.length < 1
 ·have e1:decide ((c.length:Int) < 1)=true:=decide_eq_true (by omega)
  have HL:=hid hl;clear hl;go_wp2_with fail;go_ret;exact ⟨zay (by unfold circErr;rw [if_neg (fun h=>h HC.out),if_pos HL.out]),HW.out.trans' (zax W0 _)⟩
 have e1:decide ((c.length:Int) < 1)=false:=decide_eq_false (by omega);have HL:=hid hl;have hn0:0 < c.length:=by omega
 clear hl
 by_cases hre:re=0
 rotate_left
 ·have e2:(re == 0)=false:=by simpa using hre
  have e3:(re != 0)=true:=by simpa using hre
  have HR2:=hid hre;clear hre;go_wp2_with fail;refine zhm (W0:=W0) (g:=g3) xx (C2.out _ (HS.out.ext xx) (HR.out.ext xx)) fun g4 hgr=>?_
  clear hgr;go_wp2_with fail;refine zhm (W0:=W0) (g:=g4) xx (C2.out _ (HS.out.ext xx) (HR.out.ext xx)) fun g5 hgr=>?_
  clear hgr;go_wp2_with fail;go_ret;exact ⟨zay (by unfold circErr;rw [if_neg (fun h=>h HC.out),if_neg HL.out,if_pos (by rw [← HRE.out];exact HR2.out),HRE.out]),HW.out.trans' (zax W0 _)⟩
 have HR1:=hid (HRE.out.symm.trans hre);subst hre;obtain ⟨hlr,hwin⟩:=z68 HR1.out;have hceq:circErr ks c=if z40 ks c=true then 0 else 17:=by
  unfold circErr;rw [if_neg (fun h=>h HC.out),if_neg HL.out,if_neg (fun h=>h HR1.out),zab9 V.out (fun x hx=>(hwin x hx).1)]
 have HCEQ:=hid hceq;clear hwin hceq;go_wp2_with fail;refine zhm (W0:=W0) (g:=g3) xx (C2.out _ (HS.out.ext xx) (HR.out.ext xx)) fun g6 hgr=>?_
 clear hgr;go_upto_region 7 with (fail);obtain ⟨G0,hG0⟩:∃ zz9,zz9=(grow W0 g6):=⟨_,rfl⟩
 have eG0:Ext W0 G0:=by rw [hG0];exact xx
 replace k0:=zj eG0 k0;replace HS:=hid (HS.out.ext eG0);replace HR:=hid (HR.out.ext eG0);replace HW:=hid (HW.out.trans' eG0);rw [← hG0];replace hz:=World.block_lt_of_cell? _ _ k0;clear hG0 eG0;obtain ⟨kb,ko,rfl,hkz,HKC⟩:=HS.out.at_all n1;obtain ⟨cb,co,rfl,hcz,HCC⟩:=HR.out.at_all hn0;have hkc:=fun i hi=>HKC G0 (Below.refl _ _) i hi
 have hcc:=fun i hi=>HCC G0 (Below.refl _ _) i hi
 have KC:=hid hkc;have CC:=hid hcc;clear HKC HCC hkc hcc;go_wp2_with fail
 go_loop [5] (fun i=>∃ k:Nat,k≤ks.length∧i = .int .i64 k∧∀ j,j < k→(gap (ks.getD j 0) j 0 false (c ++ c) && c.contains (j:Int))=true) (fun i=>ks.length - (intOf i).toNat)
 case atStart=>exact ⟨0,by omega,rfl,fun j h=>by omega⟩
 case round =>
  obtain ⟨k,hk,rfl,hok⟩:=hrel;have HOK:=hid hok;clear hok
  by_cases hlt:k < ks.length
  ·have hki:(k:Int) < (ks.length:Int):=by omega
   have d0:=KC.out k hlt;obtain ⟨m,hm⟩:∃ m,m=gt ks k:=⟨_,rfl⟩
   rw [← hm] at d0;have HM:=hid hm;clear hm;obtain ⟨v4,rfl⟩:∃ v4,v4=u4:=⟨_,rfl⟩
   go_wp2_with fail
   go_loop [6,7,8] (fun tv sv i=>∃ (j t:Nat) (seen:Bool),j≤2 * c.length∧t≤j∧tv = .int .i64 t∧sv = .bool seen∧i = .int .i64 j∧gap m k 0 false (c ++ c)=gap m k t seen ((c ++ c).drop j)∧(seen=true↔(k:Int)∈(c ++ c).take j)) (fun _ _ i=>2 * c.length - (intOf i).toNat)
   case atStart=>exact ⟨0,0,false,by omega,by omega,rfl,rfl,rfl,by simp,by simp⟩
   case round =>
    obtain ⟨j,t,seen,hj,ht,rfl,rfl,rfl,hg,hseen⟩:=hrel
    by_cases hlj:j < 2 * c.length
    ·have hji:(j:Int) < 2 * (c.length:Int):=by omega
     obtain ⟨hdr,hJ⟩:=z3p hlj;have htk:=zace hlj (k:Int);obtain ⟨J,hJe⟩:∃ J,J=j % c.length:=⟨_,rfl⟩
     rw [← hJe] at hdr hJ htk;have hJi:(J:Int) < (c.length:Int):=by omega
     have d1:=CC.out J hJ;obtain ⟨x,hx⟩:∃ x,x=gt c J:=⟨_,rfl⟩
     rw [← hx] at d1 hdr htk;rw [hdr,gap] at hg;have hmd:(j:Int) % (c.length:Int)=(J:Int):=by rw [hJe];rfl
     have hmt:Int.tmod (j:Int) (c.length:Int)=(J:Int):=by rw [← hmd];exact Int.tmod_eq_emod_of_nonneg (by omega)
     have HG:=hid hg;have HSE:=hid hseen;have HTK:=hid htk;clear hg hseen htk hdr hJe hx
     by_cases hxk:x=(k:Int)
     ·subst hxk
      have hne:(((k:Nat):Int) != (k:Int))=false:=by simp
      cases seen
      ·go_wp2_with fail
       go_round
       case rel=>exact ⟨j+1,0,true,by omega,by omega,rfl,rfl,by go_num,by rw [HG.out,if_pos rfl,if_neg (by simp)];rfl,⟨fun _=>HTK.out.2 (.inr rfl),fun _=>rfl⟩⟩
       case measure=>simp [intOf];omega
      ·by_cases hf:m < (t:Int)+1
       ·have hd:decide (m < (t:Int)+1)=true:=decide_eq_true hf
        have hfin:circErr ks c=17:=by
         rw [HCEQ.out,if_neg];intro h;have:=List.all_eq_true.1 h k (List.mem_range.2 hlt);rw [Bool.and_eq_true] at this;have h2:=this.1;have e:ks.getD k 0=m:=HM.out.symm;rw [e,HG.out,if_pos rfl,if_pos ⟨rfl,hf⟩] at h2;cases h2
        have HFIN:=hid hfin;clear hfin hf;go_wp2_with fail;go_ret;exact ⟨zay HFIN.out.symm,HW.out⟩
       ·have hd:decide (m < (t:Int)+1)=false:=decide_eq_false hf
        have HF:=hid hf;clear hf;go_wp2_with fail
        go_round
        case rel=>exact ⟨j+1,0,true,by omega,by omega,rfl,rfl,by go_num,by rw [HG.out,if_pos rfl,if_neg (fun h=>HF.out h.2)];rfl,⟨fun _=>HTK.out.2 (.inr rfl),fun _=>rfl⟩⟩
        case measure=>simp [intOf];omega
     ·have hne:(x != (k:Int))=true:=by simpa using hxk
      have HXK:=hid hxk;clear hxk;go_wp2_with fail
      go_round
      case rel=>exact ⟨j+1,t+1,seen,by omega,by omega,by go_num,rfl,by go_num,by rw [HG.out,if_neg HXK.out];rfl,by rw [HTK.out,HSE.out];exact ⟨.inl,fun h=>h.resolve_right fun e=>HXK.out e.symm⟩⟩
      case measure=>simp [intOf];omega
    ·have hje:j=2 * c.length:=by omega
     have hji:¬ ((j:Int) < 2 * (c.length:Int)):=by omega
     have hg1:gap m k 0 false (c ++ c)=true:=by
      rw [hg,List.drop_of_length_le (by simp;omega)];rfl
     have hse:seen=c.contains (k:Int):=by
      rw [List.take_of_length_le (by simp;omega)] at hseen;rw [Bool.eq_iff_iff,hseen,List.contains_iff_mem];simp
     have HG1:=hid hg1;have HSE:=hid hse;clear hg hseen hg1 hse hje;cases seen
     ·have hfin:circErr ks c=17:=by
       rw [HCEQ.out,if_neg];intro h;have:=List.all_eq_true.1 h k (List.mem_range.2 hlt);rw [Bool.and_eq_true] at this;rw [← HSE.out] at this;cases this.2
      have HFIN:=hid hfin;clear hfin;go_wp2_with fail;go_ret;exact ⟨zay HFIN.out.symm,HW.out⟩
     ·go_wp2_with fail
      go_round
      case rel =>
       refine ⟨k+1,by omega,by go_num,fun i hi=>?_⟩
       by_cases hik:i < k
       ·exact HOK.out i hik
       ·obtain rfl:i=k:=by omega
        have e:ks.getD i 0=m:=HM.out.symm;rw [e,HG1.out,← HSE.out];rfl
      case measure=>simp [intOf];omega
  ·have hkl:k=ks.length:=by omega
   have hki:¬ ((k:Int) < (ks.length:Int)):=by omega
   have hfin:circErr ks c=0:=by
    rw [HCEQ.out,if_pos];exact List.all_eq_true.2 fun i hi=>HOK.out i (by rw [hkl];exact List.mem_range.1 hi)
   have HFIN:=hid hfin;clear hfin hkl;go_wp2_with fail;go_ret;exact ⟨zay HFIN.out.symm,HW.out⟩
theorem emptyR_any (ks:List Int) (kv:Value) (w:World) (hv:IsInts w .i64 kv ks) (h5:ks.length≤1000) :
  Calls Tryz.prog 12 #[.agg #[kv]] w fun e W=>∃ g,e = .returned (.slice (some ⟨g,0,none⟩) ks.length ks.length)∧Ext w W∧w.heap.size≤g∧zbv W g ks.length (fun _=>0):=by
 obtain ⟨sa,cap,rfl,h1,h2,-⟩:=hv.spec;have HV:=hid hv;clear hv
 go_enter Tryz.func12,Tryz.ntmps12
 go_upto_region 1 with (fail);obtain ⟨W0,hW0⟩:∃ W0,W0=w.alloc (.cells #[.slice sa ks.length cap] 24):=⟨_,rfl⟩
 have hE:Ext w W0:=by rw [hW0];exact xx
 have k0:W0.cell? ⟨w.heap.size,0,none⟩=some (.slice sa ks.length cap):=by rw [hW0];simp [go_sem]
 have hz:w.heap.size < W0.heap.size:=World.block_lt_of_cell? _ _ k0;have HS:=hid (HV.out.ext hE);have HW:=hid hE;rw [← hW0];clear hW0 HV;clear hE;obtain ⟨W1,hmk,hnum,hE1⟩:=zxi W0 ks.length (by omega);have HN:=hid hnum;have HE1:=hid hE1;clear hnum hE1;go_wp2_with fail;go_ret;exact ⟨_,rfl,HW.out.trans' HE1.out,by omega,HN.out⟩
end Go.Proofs.YtnfdiohfojjnlaaGreat.Tu
