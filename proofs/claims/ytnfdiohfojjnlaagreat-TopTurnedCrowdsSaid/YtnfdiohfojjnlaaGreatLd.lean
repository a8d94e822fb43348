/-
  The evaluator is right, thirteenth part: append, copy, clear, len, cap as operations.
-/
import Derived.Test.YtnfdiohfojjnlaaGreatLb
import Derived.Laws.StructEq
import Derived.Lib.ConvBytes
import Derived.Laws.BytesString
import Derived.Laws.AppendOwn
set_option maxRecDepth 200000
set_option maxHeartbeats 0
namespace Go.Proofs.YtnfdiohfojjnlaaGreat
open Go.RowKit
def zbf (P:Program) (T:Nat→Prop) (ρ:Rho) (S:St) (w:World) (s:Sem Value):OpR→Prop
 | .val v S'=>Lcl S S'∧((∀ n,bit S'.t n→T n)→zbl ρ S.next S'.next→∃ V w' ρ',s.run P w = .ok V w'∧Stp ρ S T w ρ' S' w'∧RV ρ' v V)
 | _=>False
section
variable {E:Env} {P:Program} {T:Nat→Prop} {ρ:Rho} {S:St} {w:World} {tm:Tm} {a:Act}
theorem zbf.pre {S₁:St} {s:Sem Value} {r:OpR} (hl:Lcl S S₁) (hn:S₁.next=S.next) (h:(∀ n,bit S₁.t n→T n)→Stp ρ S T w ρ S₁ w) (k:zbf P T ρ S₁ w s r∨((∀ n,bit S₁.t n→T n)→zbf P T ρ S₁ w s r)∧∃ v S',r = .val v S'∧Lcl S₁ S'):zbf P T ρ S w s r:=by
 have main:∀ v S',r = .val v S'→Lcl S₁ S'→((∀ n,bit S₁.t n→T n)→zbf P T ρ S₁ w s r)→zbf P T ρ S w s r:=fun v S' e hl' hk=>by
  subst e;refine ⟨hl.trans hl',fun hT hf=>?_⟩;have hT1:∀ n,bit S₁.t n→T n:=fun n hb=>hT n (hl'.t n hb)
  obtain ⟨V,w',ρ',k1,k2,k3⟩:=(hk hT1).2 hT (by rw [hn];exact hf);exact ⟨V,w',ρ',k1,(h hT1).trans k2,k3⟩
 rcases k with k | ⟨k,v,S',e,hl'⟩
 ·cases r with
  | val v S'=>exact main v S' rfl k.1 fun _=>k
  | call f args S'=>exact k.elim
  | yield l args S'=>exact k.elim
 ·exact main v S' e hl' k
theorem zpi (z:Array Value) (n:Nat):(Builtin.zeroCells z n).size=n * z.size:=by simp [Builtin.zeroCells]
theorem zs4 (h:Fit ρ S T w) {l:List AV} {ls:List Value} {Z:Array Value} {len sz C e:Nat} {r:OpR} {s:Sem Value} (hr:zbe S l len sz=some r) (hl:RVs ρ l ls) (hlen:l.length=len * sz) (hZ:Z.size=sz) (hC:len≤C)
  (hrun:len≤65536→s.run P w = .ok (.slice (some ⟨w.heap.size,0,none⟩) len C) (w.drew.alloc (.cells (ls.toArray ++ Builtin.zeroCells Z (C - len)) e))):zbf P T ρ S w s r:=by
 unfold zbe at hr;obtain ⟨h1,hr⟩:=zf hr;have h1:len≤65536:=Nat.le_of_ble_eq_true h1;rw [zan,St.alloc_eq] at hr;cases hr;refine ⟨za8 S _,fun _ hf=>?_⟩;have hf':=zdn hf;have hls:=hl.length;have hcs:(ls.toArray ++ Builtin.zeroCells Z (C - len)).size=C * sz:=by
  rw [Array.size_append,zpi,hZ];simp only [List.size_toArray,hls,hlen];rw [← Nat.add_mul];congr 1;omega
 refine ⟨_,_,zed ρ S.next ⟨w.heap.size,0,(ls.toArray ++ Builtin.zeroCells Z (C - len)).size,fun _=>true⟩,hrun h1,zdx h hf' (obj:=.cells (ls.toArray ++ Builtin.zeroCells Z (C - len)) e) rfl ⟨_,e,rfl,by simp,?_,fun i x hi=>?_⟩,⟨_,0,C,zac _ _ _,rfl,hC,by show 0+C * sz=(ls.toArray ++ Builtin.zeroCells Z (C - len)).size;rw [hcs,Nat.zero_add],.inr rfl⟩⟩
 ·show l.length≤_;rw [hcs,hlen];exact Nat.mul_le_mul_right _ hC
 ·obtain ⟨V,k1,k2⟩:=hl.at hi
  have hlt:i < ls.length:=by
   rcases Nat.lt_or_ge i ls.length with q | q
   ·exact q
   ·rw [List.getElem?_eq_none q] at k1;cases k1
  refine ⟨V,?_,RV.mono (zee _ hf') _ _ k2⟩;show (ls.toArray ++ Builtin.zeroCells Z (C - len))[0+i]? = some V;rw [Nat.zero_add,Array.getElem?_append_left (by simpa using hlt)];simpa using k1
theorem zsa (h:Fit ρ S T w) {t0 t1 ty e:Nat} {te:TI} (ht:P.underlying t0=some (.slice e)) (hte:zku P e te) (hby:te.bytes≤65536) {Z:Value} (hZ:∀ w',(zeroValue e).run P w' = .ok Z w') (hZs:Z.cells.size=te.size) {s:AV} {Vs X:Value} {k:Nat}
  {new:List AV} {vs:List Value} (hs:RV ρ s Vs) (hx:z5m P t1 e te.size X k vs w) (hv:RVs ρ new vs) (hn:new.length=k * te.size) {r:OpR} (hr:zok S te.size s k new=some r) :
  zbf P T ρ S w (Builtin.append_ #[t0,t1] ty #[Vs,X]) r:=by
 cases s<;>first | (cases hr;done) | skip
 case nils =>
  have e0:Vs = .slice none 0 0:=hs;subst e0;have hr:zk (Nat.beq k 0) (some (.val .nils S)) (zbe S new k te.size)=some r:=hr;rw [zx] at hr
  split at hr
  ·rename_i hk
   have hk:=Nat.eq_of_beq_eq_true hk;subst hk;cases hr;refine ⟨.refl S,fun _ _=>⟨.slice none 0 0,w,ρ,?_,.refl h,rfl⟩⟩;have:=zot (ty:=ty) ht hte hx (base:=none) (len:=0) (cap:=0) (by omega);rw [this];rfl
  ·rename_i hk
   have hk:k≠0:=fun q=>hk (by rw [q];rfl)
   by_cases hq:k≤65536
   ·obtain ⟨C,c1,c2⟩:=zs3 (ty:=ty) (olds:=[]) ht hte hby hZ hx (base:=none) (len:=0) (cap:=0) (by omega) (by omega) (fun w' _=>rfl)
    simp only [Nat.zero_add] at c1 c2;exact zs4 (e:=e) h hr hv hn hZs c1 (fun _=>by rw [c2];simp)
   ·unfold zbe at hr
    obtain ⟨q,_⟩:=zf hr;exact absurd (Nat.le_of_ble_eq_true q) hq
 case sl n off len cap =>
  obtain ⟨L,o',hL,hX,hc,ho⟩:=hs;have hr:zk (Nat.ble (Nat.add len k) cap) (wrL S n (Nat.add off (Nat.mul len te.size)) new fun S=>zjn S (.sl n off (Nat.add len k) cap)) (rdN S n off (Nat.mul len te.size) fun old S=>zbe S (old ++ new) (Nat.add len k) te.size)=some r:=hr;rw [zx] at hr
  split at hr
  ·rename_i hroom
   have hroom:len+k≤cap:=Nat.le_of_ble_eq_true hroom;obtain ⟨S',k1,k2,k3,k4⟩:=zlv (P:=P) h hr hv;rw [zgm] at k1;cases k1;refine ⟨k2,fun hT _=>?_⟩;obtain ⟨_,k5⟩:=k4 hT;obtain ⟨w',q1,q2⟩:=k5 L (o'+len * te.size) hL (by
    rcases ho with ho | ho
    ·left
     have:k=0:=by omega
     rw [this,Nat.zero_mul] at hn;exact List.length_eq_zero_iff.1 hn
    ·right;rw [ho];show L.s+off+len * te.size=L.s+(off+len * te.size);omega)
   refine ⟨.slice (some ⟨L.b,o',none⟩) (len+k) cap,w',ρ,?_,q2,⟨L,o',hL,rfl,hroom,ho⟩⟩;rw [hX,zot ht hte hx hroom];simp only [zde,q1];rfl
  ·rename_i hroom
   have hroom:¬ len+k≤cap:=fun q=>hroom (by rw [Nat.ble_eq];exact q)
   obtain ⟨old,r1,r2,r3⟩:=zlu h hr;refine zbf.pre (zaf S n) rfl (fun _=>za0 h n) (.inr ⟨fun hT=>?_,?_⟩)
   ·obtain ⟨L',hL',os,o1,o2,o3⟩:=r3 (hT n (zg.2 (.inr (zl.2 rfl))))
    rw [hL] at hL';cases hL'
    by_cases hq:len+k≤65536
    ·have hold:∀ w',w'.heap=w.heap→(Builtin.firstCells te.size len (.slice (some ⟨L.b,o',none⟩) len cap)).run P w' = .ok os.toArray w':=fun w' hw=>by
      have k4:=o3 o' (by
       rcases ho with ho | ho
       ·left;have:len=0:=by omega
        subst this;exact Nat.zero_mul _
       ·exact .inr ho)
      have:=run_loadCells_list (P:=P) w' (⟨L.b,o',none⟩:Addr) os (fun j u hj=>by rw [← k4 j u hj];simp [World.cell?,hw]);rw [o1] at this;exact this
     obtain ⟨C,c1,c2⟩:=zs3 (ty:=ty) ht hte hby hZ hx hroom hq hold;have hfit:Fit ρ (S.touched n) T w:=(za0 h n).fit;refine zs4 (e:=e) (Z:=Z.cells) (ls:=os ++ vs) hfit r2 (o2.append hv) (by rw [List.length_append,r1,hn];show len * te.size+k * te.size=(len+k) * te.size;rw [Nat.add_mul]) hZs c1 (fun _=>?_);rw [hX,c2];simp
    ·unfold zbe at r2
     obtain ⟨q,_⟩:=zf r2;exact absurd (Nat.le_of_ble_eq_true q) hq
   ·unfold zbe at r2
    obtain ⟨_,r2⟩:=zf r2;rw [zan,St.alloc_eq] at r2;cases r2;exact ⟨_,_,rfl,za8 _ _⟩
 case slo n off len sz' =>
  have hr:zk (Nat.beq te.size sz') (zk (Nat.ble 1 te.size) (bnd (S.get n) fun o=>bnd (zda o) fun c=>zk (Nat.ble (Nat.add len k) (zld c off te.size))
   (wrL S n (Nat.add off (Nat.mul len te.size)) new fun S=>S.touch n fun S=>zjn S (.slo n off (Nat.add len k) te.size))
   (zk (zeb zkr new) (rdN S n off (Nat.mul len te.size) fun old S=>S.set n none fun S=>zbe S (old ++ new) (Nat.add len k) te.size) none)) none) none=some r:=hr
  obtain ⟨hsz,hr⟩:=zf hr;obtain ⟨hsz1,hr⟩:=zf hr;obtain ⟨o,g1,hr⟩:=zd hr;obtain ⟨c,g2,hr9⟩:=zd hr;have hsz:=Nat.eq_of_beq_eq_true hsz;have hsz1:1≤te.size:=Nat.le_of_ble_eq_true hsz1;rw [← hsz] at hs;clear hr hsz;have g2:=zbn g2;subst g2;obtain ⟨L,o',cap,hL,hX,hc,hk,ho⟩:=hs;rw [zx] at hr9
  by_cases hkn:Nat.ble (Nat.add len k) (zld c off te.size)=true
  ·rw [if_pos hkn] at hr9
   have hkn:len+k≤(c.length - off) / te.size:=Nat.le_of_ble_eq_true hkn;obtain ⟨S',k1,k2,k3,k4⟩:=zlv (P:=P) h hr9 hv;rw [St.touch_eq,zgm] at k1;cases k1;refine ⟨k2.trans (zaf _ _),fun hT _=>?_⟩;have hT':∀ m,bit S'.t m→T m:=fun m hm=>hT m (zg.2 (.inl hm))
   obtain ⟨_,k5⟩:=k4 hT';obtain ⟨L',e1,e2⟩:=h.obj n _ (hT n (zg.2 (.inr (zl.2 rfl)))) g1;rw [hL] at e1;cases e1;obtain ⟨cc,ee,_,_,q3,_⟩:=e2;have hq2:(len+k) * te.size≤c.length - off:=(Nat.le_div_iff_mul_le (by omega)).1 hkn;have hroom:len+k≤cap:=Nat.le_of_mul_le_mul_right (show (len+k) * te.size≤cap * te.size by omega) (by omega);obtain ⟨w',q1,q2⟩:=k5 L (o'+len * te.size) hL (by
    rcases ho with ho | ho
    ·left
     have:k=0:=by omega
     rw [this,Nat.zero_mul] at hn;exact List.length_eq_zero_iff.1 hn
    ·right;rw [ho];show L.s+off+len * te.size=L.s+(off+len * te.size);omega)
   refine ⟨.slice (some ⟨L.b,o',none⟩) (len+k) cap,w',ρ,?_,q2.trans (za0 q2.fit n),⟨L,o',cap,hL,rfl,hroom,hk,ho⟩⟩;rw [hX,zot ht hte hx hroom];simp only [zde,q1];rfl
  ·rw [if_neg hkn] at hr9
   obtain ⟨hone1,hr9⟩:=zf hr9;obtain ⟨old,r1,r2,r3⟩:=zlu h hr9;rw [St.set_eq] at r2;have hq:len+k≤65536:=by
    unfold zbe at r2;obtain ⟨q,_⟩:=zf r2;exact Nat.le_of_ble_eq_true q
   have r2':=r2;unfold zbe at r2';obtain ⟨_,r2'⟩:=zf r2';rw [zan,St.alloc_eq] at r2';have er:=(Option.some.inj r2').symm;have gt:(S.touched n).get n=some (.cells c):=by rw [St.get_touched];exact g1
   have hl2:Lcl S ((S.touched n).setted n none):=(zaf S n).trans (zab _ n none ⟨_,gt⟩);rw [er];refine ⟨hl2.trans (za8 _ _),fun hT hf=>?_⟩;have hTn:T n:=hT n (zg.2 (.inl (zg.2 (.inl (zg.2 (.inr (zl.2 rfl)))))));obtain ⟨L',hL',os,o1,o2,o3⟩:=r3 hTn;rw [hL] at hL';cases hL';obtain ⟨L',e1,cc,ee,q1,q2,q3,q4⟩:=h.obj n _ hTn g1;rw [hL] at e1;cases e1;have hf':ρ S.next=none:=hf S.next (Nat.le_refl _) (by have:(((S.touched n).setted n none).alloced (.cells (old ++ new))).next=S.next+1:=rfl;omega);have hone:¬ len+k=0:=fun q=>hkn (by rw [show Nat.add len k=0 from q];rfl)
   have sA:=za0 (w:=w) h n;have hmul:(len+k) * te.size=len * te.size+k * te.size:=Nat.add_mul _ _ _;have hold:RVs ρ old os:=o2;have hvl:=hv.length
   by_cases hroom:len+k≤cap
   ·
    have ho':o'=L.s+off:=by rcases ho with ho | ho;omega;exact ho
    have hmc:(len+k) * te.size≤cap * te.size:=Nat.mul_le_mul_right _ hroom;have hst:=run_storeCells_at P L.b (o'+len * te.size) ee vs 0 cc w q1 (by rw [q2,hvl,hn];omega) (hv.one (zqc hone1));have hol:=o1;have hcl:(cc.toList.take (o'+len * te.size) ++ (vs ++ cc.toList.drop (o'+len * te.size+vs.length))).length=cc.size:=by
     simp only [List.length_append,List.length_take,List.length_drop,Array.length_toList];omega
    have step:=z97 (w':=w.setRow L.b (cc.toList.take (o'+len * te.size+0) ++ vs ++ cc.toList.drop (o'+len * te.size+0+vs.length)).toArray) (o':=.cells (old ++ new)) (L':=⟨L.b,L.s+off,L.k - off,fun _=>true⟩) sA.fit hTn gt hL (show ρ (S.touched n).next=none from hf') rfl
     (setRow_size _ _ _) (fun b hb=>setRow_other _ _ _ _ hb) ⟨_,ee,setRow_heap _ _ _ _ _ _ q1,?_,?_,fun i x hi=>?_⟩
    ·refine ⟨.slice (some ⟨L.b,o',none⟩) (len+k) cap,_,_,?_,sA.trans step,⟨_,o',cap,zac _ _ _,rfl,hroom,by show 0+cap * te.size=L.k - off;omega,.inr (by rw [ho'];rfl)⟩⟩
     rw [hX,zot ht hte hx hroom];simp only [zde,hst];rfl
    ·simp only [List.append_assoc,List.size_toArray,Nat.add_zero]
     rw [hcl,q2];show L.s+L.k=L.s+off+(L.k - off);omega
    ·show (old ++ new).length≤L.k - off
     rw [List.length_append,r1,hn];show len * te.size+k * te.size≤L.k - off;omega
    ·have hov:=(o2.append hv).at hi
     obtain ⟨V,v1,v2⟩:=hov;refine ⟨V,?_,RV.mono (zee _ hf') _ _ v2⟩;simp only [List.append_assoc,Nat.add_zero,List.getElem?_toArray];show (cc.toList.take (o'+len * te.size) ++ (vs ++ cc.toList.drop (o'+len * te.size+vs.length)))[L.s+off+i]? = some V;rw [zdf _ _ _ _ (by simp;omega)];have o1':os.length=len * te.size:=o1
     by_cases hlt:i < len * te.size
     ·rw [if_pos (by omega)]
      rw [List.getElem?_append_left (by omega)] at v1;have:=o3 o' (.inr ho') i V v1;rw [zde] at this;simp only [World.cell?,q1] at this;rw [← ho'];simpa using this
     ·rw [if_neg (by omega)]
      rw [List.getElem?_append_right (by omega)] at v1;have hlt2:i - os.length < vs.length:=by
       rcases Nat.lt_or_ge (i - os.length) vs.length with q | q
       ·exact q
       ·rw [List.getElem?_eq_none q] at v1;cases v1
      rw [if_pos (by omega),← v1]
      congr 1
      omega
   ·
    have sB:=sA.trans (z96 (w:=w) sA.fit gt);have hold:∀ w',w'.heap=w.heap→(Builtin.firstCells te.size len (.slice (some ⟨L.b,o',none⟩) len cap)).run P w' = .ok os.toArray w':=fun w' hw=>by
     have k4:=o3 o' (by
      rcases ho with ho | ho
      ·left;have:len=0:=by omega
       subst this;exact Nat.zero_mul _
      ·exact .inr ho)
     have:=run_loadCells_list (P:=P) w' (⟨L.b,o',none⟩:Addr) os (fun j u hj=>by rw [← k4 j u hj];simp [World.cell?,hw]);rw [o1] at this;exact this
    obtain ⟨C,c1,c2⟩:=zs3 (ty:=ty) ht hte hby hZ hx hroom hq hold;have fo:=zs4 (Z:=Z.cells) (ls:=os ++ vs) (e:=e) (s:=Builtin.append_ #[t0,t1] ty #[Vs,X]) (P:=P) sB.fit r2 (o2.append hv) (by rw [List.length_append,r1,hn];show len * te.size+k * te.size=(len+k) * te.size;rw [Nat.add_mul]) hZs c1 (fun _=>by rw [hX,c2];simp);rw [er] at fo;obtain ⟨V,w',ρ',f1,f2,f3⟩:=fo.2 hT hf;exact ⟨V,w',ρ',f1,sB.trans f2,f3⟩
end
section
variable {E:Env} {P:Program} {T:Nat→Prop} {ρ:Rho} {S:St} {w:World} {tm:Tm} {a:Act}
theorem zjx {sz k:Nat} {s:AV} {new:List AV} {r:OpR} (hr:zok S sz s k new=some r):∃ v S',r = .val v S'∧Lcl S S':=by
 have fr:∀ (S₁:St) (l:List AV) (len:Nat),zbe S₁ l len sz=some r→∃ v S',r = .val v S'∧Lcl S₁ S':=fun S₁ l len hq=>by
  unfold zbe at hq;obtain ⟨_,hq⟩:=zf hq;rw [zan,St.alloc_eq] at hq;cases hq;exact ⟨_,_,rfl,za8 _ _⟩
 have wr:∀ (n off:Nat) (k:St→Option OpR),wrL S n off new k=some r→∃ S',k S'=some r∧Lcl S S':=fun n off k hq=>by
  unfold wrL at hq;rw [zx] at hq
  split at hq
  ·exact ⟨S,hq,.refl S⟩
  ·obtain ⟨l,h1,_,_,h4⟩:=zos hq
   exact ⟨_,h4,zab S n _ ⟨_,h1⟩⟩
 have rd:∀ (n off len:Nat) (k:List AV→St→Option OpR),rdN S n off len k=some r→∃ x,k x (S.touched n)=some r:=fun n off len k hq=>by
  unfold rdN at hq;obtain ⟨o,_,hq⟩:=zd hq;obtain ⟨l,_,hq⟩:=zd hq;obtain ⟨x,_,hq⟩:=zd hq;rw [St.touch_eq] at hq;exact ⟨x,hq⟩
 cases s<;>first | (cases hr;done) | skip
 case nils =>
  have hr:zk (Nat.beq k 0) (some (.val .nils S)) (zbe S new k sz)=some r:=hr;rw [zx] at hr
  split at hr
  ·cases hr;exact ⟨_,_,rfl,.refl S⟩
  ·exact fr _ _ _ hr
 case sl n off len cap =>
  have hr:zk (Nat.ble (Nat.add len k) cap) (wrL S n (Nat.add off (Nat.mul len sz)) new fun S=>zjn S (.sl n off (Nat.add len k) cap)) (rdN S n off (Nat.mul len sz) fun old S=>zbe S (old ++ new) (Nat.add len k) sz)=some r:=hr;rw [zx] at hr
  split at hr
  ·obtain ⟨S',h1,h2⟩:=wr _ _ _ hr
   rw [zgm] at h1;cases h1;exact ⟨_,_,rfl,h2⟩
  ·obtain ⟨x,h1⟩:=rd _ _ _ _ hr
   obtain ⟨v,S',e,h2⟩:=fr _ _ _ h1;exact ⟨v,S',e,(zaf S n).trans h2⟩
 case slo n off len sz' =>
  have hr:zk (Nat.beq sz sz') (zk (Nat.ble 1 sz) (bnd (S.get n) fun o=>bnd (zda o) fun c=>zk (Nat.ble (Nat.add len k) (zld c off sz))
   (wrL S n (Nat.add off (Nat.mul len sz)) new fun S=>S.touch n fun S=>zjn S (.slo n off (Nat.add len k) sz))
   (zk (zeb zkr new) (rdN S n off (Nat.mul len sz) fun old S=>S.set n none fun S=>zbe S (old ++ new) (Nat.add len k) sz) none)) none) none=some r:=hr
  obtain ⟨_,hr⟩:=zf hr;obtain ⟨_,hr⟩:=zf hr;obtain ⟨o,g1,hr⟩:=zd hr;obtain ⟨c,g2,hr⟩:=zd hr;rw [zx] at hr
  split at hr
  ·obtain ⟨S',h1,h2⟩:=wr _ _ _ hr
   rw [St.touch_eq,zgm] at h1;cases h1;exact ⟨_,_,rfl,h2.trans (zaf _ _)⟩
  ·obtain ⟨_,hr⟩:=zf hr
   obtain ⟨x,h1⟩:=rd _ _ _ _ hr;rw [St.set_eq] at h1;obtain ⟨v,S',e,h2⟩:=fr _ _ _ h1;exact ⟨v,S',e,((zaf S n).trans (zab _ n none ⟨o,by rw [St.get_touched];exact g1⟩)).trans h2⟩
theorem z7y (h:Pre E P T ρ S w tm a) {t0 t1 ty:Nat} {s x:AV} {Vs X:Value} (hs:RV ρ s Vs) (hx:RV ρ x X) {r:OpR} (hr:zg9 E S [t0,t1] s x=some r):zbf P T ρ S w (Builtin.append_ #[t0,t1] ty #[Vs,X]) r:=by
 unfold zg9 at hr;obtain ⟨ti,hti,hr⟩:=zd hr;obtain ⟨e,he,hr⟩:=zd hr;obtain ⟨te,hte,hr⟩:=zd hr;obtain ⟨tx,htx,hr⟩:=zd hr;obtain ⟨z,hz,hr⟩:=zd hr;obtain ⟨hzb,hr⟩:=zf hr;obtain ⟨hzl,hzb⟩:=zxo hzb;have hzl:=Nat.eq_of_beq_eq_true hzl;have hby:te.bytes≤65536:=Nat.le_of_ble_eq_true hzb;have ht:=(h.env.ty _ _ hti).und;rw [zbb he] at ht;have hte':=h.env.ty _ _ hte;have htx':=(h.env.ty _ _ htx).und;obtain ⟨zv,z1,z2⟩:=hte'.zero z hz;obtain ⟨i,i1,i2,i3⟩:=hte'.info;obtain ⟨Z,i4,i5⟩:=i3 zv z1;have hZ:∀ w',(zeroValue e).run P w' = .ok Z w':=fun w'=>by simp [zeroValue,typeInfo,program,Sem.run,i1,i4]
 have rZ:RVs ρ z Z.cells.toList:=by rw [z2];exact AV.cells_rv (ze6 i5)
 have hZs:Z.cells.size=te.size:=by have:=rZ.length;simp at this;omega
 rw [zx] at hr
 split at hr
 ·rename_i hint
  obtain ⟨k,hk,hr⟩:=zd hr;obtain ⟨hroom,hr⟩:=zf hr;obtain ⟨kk,hkk⟩:=zdd hk;rw [hkk] at hx;have hX:X = .int kk k:=hx;obtain ⟨q,hq⟩:∃ q,tx.und = .int q:=by
   revert hint
   cases tx.und<;>intro hint<;>first | exact ⟨_,rfl⟩ | cases hint
  rw [hq] at htx';have rv:RVs ρ (zdl k z) (Builtin.zeroCells Z.cells k).toList:=zrg rZ (by have:=rZ.length;simp at this;rw [this]);refine zsa h.fit ht hte' hby hZ hZs hs (.inr ⟨⟨q,htx'⟩,⟨kk,hX⟩,Nat.le_of_ble_eq_true hroom,⟨i,i1,by rw [hte'.bytes i i1];exact hby⟩,Z,hZ,rfl,fun h0=>?_⟩) rv (by rw [zfx,hzl]) hr;have:(Builtin.zeroCells Z.cells k).size=0:=by rw [zpi,hZs];exact h0
  exact List.length_eq_zero_iff.1 (by simpa using this)
 ·rename_i hint
  obtain ⟨k,hk,hr⟩:=zd hr;obtain ⟨new,S',k1,k2,k3,k4,k5⟩:=zxq (P:=P) h.fit hx hr;obtain ⟨v,S'',er,hl⟩:=zjx k1;refine zbf.pre k2 k3 (fun hT=>(k5 hT).1) (.inr ⟨fun hT=>?_,v,S'',er,hl⟩);obtain ⟨st,vs,v1,v2⟩:=k5 hT;have hni:zt6 tx.und=false:=by simpa using hint
  exact zsa st.fit ht hte' hby hZ hZs hs (.inl ⟨⟨_,htx',hni⟩,fun w'=>z34 hx hk w',v2⟩) v1 k4 k1
theorem zact (h:Pre E P T ρ S w tm a) {t0 ty:Nat} {ats:Array Nat} {l:List Nat} (hats:ats.toList=t0 :: l) {d x:AV} {D X:Value} (hd:RV ρ d D) (hx:RV ρ x X) {r:OpR} (hr:zle E S ats.toList d x=some r):zbf P T ρ S w (Builtin.copy_ ats ty #[D,X]) r:=by
 unfold zle at hr;rw [hats] at hr
 dsimp only at hr
 obtain ⟨ti,hti,hr⟩:=zd hr;obtain ⟨e,he,hr⟩:=zd hr;obtain ⟨te,hte,hr⟩:=zd hr;obtain ⟨m,hm,hr⟩:=zd hr;obtain ⟨b,hb,hr⟩:=zd hr;rw [zan] at hr;have ht:=zbh (w:=w) (h.env.ty _ _ hti);rw [zbb he] at ht;have hs:=zb5 (w:=w) (h.env.ty _ _ hte);have hlx:=z34 (P:=P) hx hb w;obtain ⟨new,S',k1,k2,k3,k4,k5⟩:=zxq (P:=P) h.fit hx hr;have hat:ats[0]? = some t0:=by rw [← Array.getElem?_toList,hats];rfl
 have fin:∀ (base:Option Addr) (dl dc:Nat) (S'':St),D = .slice base dl dc→dl=m→r = .val (.int .i64 (.ofNat (Nat.min b m))) S''→Lcl S' S'' →
   ((∀ n,bit S''.t n→T n)→∀ vs:List Value,RVs ρ new vs→Fit ρ S' T w→∃ w',(match base with | some a=>storeCells a vs | none=>pure ()).run P w = .ok () w'∧Stp ρ S' T w ρ S'' w')→zbf P T ρ S w (Builtin.copy_ ats ty #[D,X]) r:=fun base dl dc S'' eD em er hl hw=>by
  subst er;refine ⟨k2.trans hl,fun hT _=>?_⟩;obtain ⟨st,vs,v1,v2⟩:=k5 fun n hn=>hT n (hl.t n hn)
  obtain ⟨w',q1,q2⟩:=hw hT vs v1 st.fit;have hc:=v2 w rfl;refine ⟨goInt (Nat.min b m),w',ρ,?_,st.trans q2,rfl⟩;subst eD;subst em;cases base<;>simp [Builtin.copy_,hat,ht,hlx,hs,hc]<;>simp at q1<;>simp [q1]
 clear hr;cases d with
 | nils =>
  have eD:D = .slice none 0 0:=hd;cases hm;cases k1;exact fin none 0 0 S' eD rfl rfl (.refl S') fun _ vs _ hf=>⟨w,rfl,.refl hf⟩
 | sl n off len cap =>
  cases hm;obtain ⟨L,o',hL,eD,hc,ho⟩:=hd;have k1:wrL S' n off new (fun S=>some (.val (.int .i64 (.ofNat (Nat.min b m))) S))=some r:=k1;have k1':=k1;obtain ⟨S'',er,hl⟩:∃ S'',r = .val (.int .i64 (.ofNat (Nat.min b m))) S''∧Lcl S' S'':=by
   unfold wrL at k1';rw [zx] at k1'
   split at k1'
   ·cases k1';exact ⟨_,rfl,.refl _⟩
   ·obtain ⟨l,h1,_,_,h4⟩:=zos k1'
    cases h4;exact ⟨_,rfl,zab S' n _ ⟨_,h1⟩⟩
  refine fin (some ⟨L.b,o',none⟩) m cap S'' eD rfl er hl fun hT vs hv hf=>?_
  obtain ⟨S3,q1,_,_,q4⟩:=zlv (P:=P) hf k1 hv;rw [er] at q1;cases q1;obtain ⟨_,q5⟩:=q4 hT;exact q5 L o' hL (by
   rcases ho with ho | ho
   ·left
    have:Nat.min b m=0:=by have:=Nat.min_le_right b m;show min b m=0;omega
    rw [this,Nat.zero_mul] at k4;exact List.length_eq_zero_iff.1 k4
   ·exact .inr ho)
 | slo n off len sz' =>
  cases hm;obtain ⟨L,o',cap,hL,eD,hc,hk,ho⟩:=hd;have k1:wrL S' n off new (fun S=>some (.val (.int .i64 (.ofNat (Nat.min b m))) S))=some r:=k1;have k1':=k1;obtain ⟨S'',er,hl⟩:∃ S'',r = .val (.int .i64 (.ofNat (Nat.min b m))) S''∧Lcl S' S'':=by
   unfold wrL at k1';rw [zx] at k1'
   split at k1'
   ·cases k1';exact ⟨_,rfl,.refl _⟩
   ·obtain ⟨l,h1,_,_,h4⟩:=zos k1'
    cases h4;exact ⟨_,rfl,zab S' n _ ⟨_,h1⟩⟩
  refine fin (some ⟨L.b,o',none⟩) m cap S'' eD rfl er hl fun hT vs hv hf=>?_
  obtain ⟨S3,q1,_,_,q4⟩:=zlv (P:=P) hf k1 hv;rw [er] at q1;cases q1;obtain ⟨_,q5⟩:=q4 hT;exact q5 L o' hL (by
   rcases ho with ho | ho
   ·left
    have:Nat.min b m=0:=by have:=Nat.min_le_right b m;show min b m=0;omega
    rw [this,Nat.zero_mul] at k4;exact List.length_eq_zero_iff.1 k4
   ·exact .inr ho)
 | _=>cases k1
end
theorem zki {α:Type} {f:α→α}:∀ {l:List α} {n:Nat} {r:List α},zs0 l f n=some r→n < l.length∧r=l.modify n f
 | [],_,_,h=>by cases h
 | x :: l,0,r,h=>by cases h;exact ⟨by simp,rfl⟩
 | x :: l,n+1,r,h=>by
  have h':bnd (zs0 l f n) (fun t'=>some (x :: t'))=some r:=h;obtain ⟨t',h1,h2⟩:=zd h';obtain ⟨h3,h4⟩:=zki h1;cases h2;exact ⟨by simp;exact h3,by rw [h4];rfl⟩
theorem REs.length {ρ:Rho}:∀ {l:List Ent} {es:List MapEntry},REs ρ l es→es.length=l.length
 | [],_,h=>by rw [show _=[] from h];rfl
 | _ :: l,_,⟨e,r,he,_,_,_,h⟩=>by rw [he];simp [REs.length h]
theorem REs.at {ρ:Rho}:∀ {l:List Ent} {es:List MapEntry},REs ρ l es→∀ {i:Nat} {x:Ent},l[i]? = some x→∃ e,es[i]? = some e∧RV ρ x.1 e.key∧RV ρ x.2.1 e.val∧e.born=x.2.2
 | [],_,_,_,_,h=>by simp at h
 | y :: l,_,⟨e,r,he,h1,h2,h3,h4⟩,0,x,h=>by simp at h;subst h;exact ⟨e,by rw [he];rfl,h1,h2,h3⟩
 | y :: l,_,⟨e,r,he,h1,h2,h3,h4⟩,i+1,x,h=>by
  obtain ⟨e',k1,k2⟩:=REs.at h4 (i:=i) (x:=x) (by simpa using h);exact ⟨e',by rw [he];simpa using k1,k2⟩
theorem REs.mod {ρ:Rho} {f:Ent→Ent} {g:MapEntry→MapEntry} (hfg:∀ x e,RV ρ x.1 e.key→RV ρ x.2.1 e.val→e.born=x.2.2→RV ρ (f x).1 (g e).key∧RV ρ (f x).2.1 (g e).val∧(g e).born=(f x).2.2) :
  ∀ {l:List Ent} {es:List MapEntry} {n:Nat},REs ρ l es→REs ρ (l.modify n f) (es.modify n g)
 | [],_,n,h=>by rw [show _=[] from h];cases n<;>rfl
 | y :: l,_,0,⟨e,r,he,h1,h2,h3,h4⟩=>by
  rw [he];obtain ⟨k1,k2,k3⟩:=hfg y e h1 h2 h3;exact ⟨g e,r,rfl,k1,k2,k3,h4⟩
 | y :: l,_,n+1,⟨e,r,he,h1,h2,h3,h4⟩=>by
  rw [he];exact ⟨e,r.modify n g,rfl,h1,h2,h3,REs.mod hfg h4⟩
theorem REs.snoc {ρ:Rho} {x:Ent} {m:MapEntry} (h1:RV ρ x.1 m.key) (h2:RV ρ x.2.1 m.val) (h3:m.born=x.2.2):∀ {l:List Ent} {es:List MapEntry},REs ρ l es→REs ρ (l ++ [x]) (es ++ [m])
 | [],_,h=>by rw [show _=[] from h];exact ⟨m,[],rfl,h1,h2,h3,rfl⟩
 | y :: l,_,⟨e,r,he,k1,k2,k3,k4⟩=>by rw [he];exact ⟨e,r ++ [m],rfl,k1,k2,k3,REs.snoc h1 h2 h3 k4⟩
theorem REs.erase {ρ:Rho}:∀ {l:List Ent} {es:List MapEntry} (n:Nat),REs ρ l es→REs ρ (l.eraseIdx n) (es.eraseIdx n)
 | [],_,n,h=>by rw [show _=[] from h];rfl
 | y :: l,_,0,⟨e,r,he,k1,k2,k3,k4⟩=>by rw [he];exact k4
 | y :: l,_,n+1,⟨e,r,he,k1,k2,k3,k4⟩=>by rw [he];exact ⟨e,_,rfl,k1,k2,k3,REs.erase n k4⟩
theorem z1h {α:Type} {x y:Option α} {r:α} (h:zv1 x y=some r):x=some r∨y=some r:=by
 cases x with
 | none=>exact .inr h
 | some a=>exact .inl h
def zqg (isI:Bool) (A B:Value):Option Bool:=match A,B with
 | .int k x,.int k' y=>if isI=true then (if k=k' then some (x == y) else none) else none
 | .bool x,.bool y=>if isI=true then none else some (x == y)
 | _,_=>none
def zeu:List (Nat × Bool)→Array Value→Array Value→Option Bool
 | [],_,_=>some true
 | p :: ls,xs,ys=>(xs[p.1]?).bind fun A=>(ys[p.1]?).bind fun B=>(zqg p.2 A B).bind fun r=>if r=true then zeu ls xs ys else some false
theorem zkj {p:Nat × Bool} {ls:List (Nat × Bool)} {xs ys:Array Value} {b:Bool} (h:zeu (p :: ls) xs ys=some b):∃ A B r,xs[p.1]? = some A∧ys[p.1]? = some B∧zqg p.2 A B=some r∧(if r=true then zeu ls xs ys else some false)=some b:=by
 unfold zeu at h;obtain ⟨A,h1,h⟩:=Option.bind_eq_some_iff.1 h;obtain ⟨B,h2,h⟩:=Option.bind_eq_some_iff.1 h;obtain ⟨r,h3,h⟩:=Option.bind_eq_some_iff.1 h;exact ⟨A,B,r,h1,h2,h3,h⟩
theorem zkv:∀ {a b:List (Nat × Bool)} {xs ys:Array Value} {r:Bool},zeu (a ++ b) xs ys=some r→∃ r1,zeu a xs ys=some r1∧(if r1=true then zeu b xs ys else some false)=some r
 | [],b,xs,ys,r,h=>⟨true,rfl,by rw [if_pos rfl];exact h⟩
 | p :: a,b,xs,ys,r,h=>by
  obtain ⟨A,B,r0,h1,h2,h3,h4⟩:=zkj h;cases r0 with
  | true =>
   rw [if_pos rfl] at h4;obtain ⟨r1,k1,k2⟩:=zkv h4;exact ⟨r1,by unfold zeu;rw [h1,h2];simp [h3,k1],k2⟩
  | false =>
   rw [if_neg (by simp)] at h4;exact ⟨false,by unfold zeu;rw [h1,h2];simp [h3],by rw [if_neg (by simp)];exact h4⟩
theorem zuh {o n:Nat} {xs ys:Array Value}:∀ {l:List (Nat × Bool)} {b:Bool},(∀ p∈l,p.1 < n)→zeu (l.map fun x=>(Nat.add o x.1,x.2)) xs ys=some b→zeu l (xs.extract o (o+n)) (ys.extract o (o+n))=some b
 | [],b,_,h=>h
 | p :: l,b,hl,h=>by
  obtain ⟨A,B,r,h1,h2,h3,h4⟩:=zkj h;have hp:=hl p (by simp);have at_:∀ (zs:Array Value) (Z:Value),zs[Nat.add o p.1]? = some Z→(zs.extract o (o+n))[p.1]? = some Z:=fun zs Z hz=>by
   have hz:zs[o+p.1]? = some Z:=hz;have hlt:=(Array.getElem?_eq_some_iff.1 hz).1;rw [Array.getElem?_extract,if_pos (by omega),hz]
  unfold zeu;rw [at_ xs A h1,at_ ys B h2];simp only [Option.bind_some];rw [show zqg p.2 A B=some r from h3];simp only [Option.bind_some];cases r with
  | true=>rw [if_pos rfl] at h4 ⊢;exact zuh (fun q hq=>hl q (by simp [hq])) h4
  | false=>rw [if_neg (by simp)] at h4 ⊢;exact h4
def zi8 (d elem n:Nat) (xs ys:Array Value):List Nat→Sem Bool
 | []=>pure true
 | i :: l=>do
  let a ← part elem xs (i * n)
  let b ← part elem ys (i * n)
  let r ← Op.equalIn d elem a b
  if (!r)=true then pure false else zi8 d elem n xs ys l
section
variable {P:Program}
theorem run_equalIn_array (w:World) (d t len elem n:Nat) (xs ys:Array Value) (ht:P.underlying t=some (.array len elem)) {i:TypeInfo} (hi:P.info? elem=some i) (hn:i.size=n) :
  (Op.equalIn (d+1) t (.agg xs) (.agg ys)).run P w=(zi8 d elem n xs ys (List.range' 0 len)).run P w:=by
 have hs:∀ w,(sizeOf elem).run P w = .ok n w:=fun w=>by simp [sizeOf,typeInfo,program,Sem.run,hi,hn]
 simp only [Op.equalIn,Sem.run_bind,run_underlying ht,Result.andThen_ok,hs];rw [Std.Legacy.Range.forIn_eq_forIn_range'];have e:Std.Legacy.Range.size [0:len]=len:=by simp
 rw [e];show Result.andThen (Sem.run P (forIn (List.range' 0 len 1) _ _) w) _=_;generalize List.range' 0 len=l
 induction l generalizing w with
 | nil=>simp [zi8]
 | cons f fs ih =>
  simp only [List.forIn_cons,zi8,Sem.run_bind,Sem.run_ite];generalize (part elem xs (f * n)).run P w=r1;cases r1 with
  | ok a w1 =>
   simp only [Result.andThen_ok];generalize (part elem ys (f * n)).run P w1=r2;cases r2 with
   | ok b w2 =>
    simp only [Result.andThen_ok];generalize (Op.equalIn d elem a b).run P w2=r3;cases r3 with
    | ok r w3 =>
     cases r
     ·simp only [Result.andThen_ok,Bool.not_false,if_true,Sem.run_pure]
     ·simp only [Result.andThen_ok,Bool.not_true,Bool.false_eq_true,if_false,Sem.run_pure]
      exact ih w3
    | halt x w3=>simp [Result.andThen]
   | halt x w2=>simp [Result.andThen]
  | halt x w1=>simp [Result.andThen]
theorem zxr:∀ (n t:Nat) (ls:List (Nat × Bool)),zol P n t=some ls→∀ (d:Nat),n≤d→∀ (xs ys:Array Value) (b:Bool) (w:World) (D:TypeDesc),P.underlying t=some D→zh3 D=true→zeu ls xs ys=some b→(Op.equalIn d t (.agg xs) (.agg ys)).run P w = .ok b w
 | 0,t,ls,h=>by cases h
 | n+1,t,ls,h=>by
  intro d hd xs ys b w D hD hag hcmp;obtain ⟨d,rfl⟩:∃ d',d=d'+1:=⟨d - 1,by omega⟩
  have go:∀ (u o:Nat) (a:List (Nat × Bool)) (b1:Bool) (w:World),(match P.info? u,zol P n u with
    | some i,some l=>if l.all (fun x=>Nat.blt x.1 i.size) then some (l.map fun x=>(Nat.add o x.1,x.2)) else none
    | _,_=>none)=some a→zeu a xs ys=some b1→∃ A B,(part u xs o).run P w = .ok A w∧(part u ys o).run P w = .ok B w∧(Op.equalIn d u A B).run P w = .ok b1 w:=fun u o a b1 w hgo hc=>by
   split at hgo
   ·rename_i i l hi hl
    split at hgo
    ·rename_i hall
     cases hgo;have hlt:∀ p∈l,p.1 < i.size:=fun p hp=>Nat.le_of_ble_eq_true (List.all_eq_true.1 hall p hp)
     have hs:∀ w,(sizeOf u).run P w = .ok i.size w:=fun w=>by simp [sizeOf,typeInfo,program,Sem.run,hi]
     obtain ⟨n',rfl⟩:∃ n',n=n'+1:=by
      cases n with
      | zero=>cases hl
      | succ n'=>exact ⟨n',rfl⟩
     obtain ⟨d',rfl⟩:∃ d',d=d'+1:=⟨d - 1,by omega⟩
     have ih:=zxr (n'+1) u l hl (d'+1) (by omega);cases hu:P.underlying u with
     | none=>unfold zol at hl;rw [hu] at hl;cases hl
     | some D' =>
      have hagg:∀ w,(isAgg u).run P w = .ok (zh3 D') w:=fun w=>by
       have hu':(underlying u).run P w = .ok D' w:=by simp [underlying,program,Sem.run,hu]
       simp only [isAgg,Sem.run_bind,hu',Result.andThen_ok];unfold zh3;cases D'<;>rfl
      cases hD':zh3 D' with
      | true =>
       refine ⟨.agg (xs.extract o (o+i.size)),.agg (ys.extract o (o+i.size)),?_,?_,?_⟩
       ·simp only [part,Sem.run_bind,hagg,hD',Result.andThen_ok,if_true,hs,Sem.run_pure]
       ·simp only [part,Sem.run_bind,hagg,hD',Result.andThen_ok,if_true,hs,Sem.run_pure]
       ·exact ih _ _ b1 w D' hu hD' (zuh hlt hc)
      | false =>
       have scal:∀ (zs:Array Value) (Z:Value),zs[o]? = some Z→(part u zs o).run P w = .ok Z w:=fun zs Z hz=>by
        simp [part,hagg,hD',hz]
       unfold zol at hl;rw [hu] at hl
       split at hl
       ·rename_i q hq
        cases hq;cases hl;obtain ⟨A,B,r,h1,h2,h3,h4⟩:=zkj hc;refine ⟨A,B,scal xs A h1,scal ys B h2,?_⟩;have hr:r=b1:=by cases r<;>simpa [zeu] using h4
        subst hr;unfold zqg at h3
        split at h3
        ·simp only [if_true] at h3
         split at h3
         ·rename_i hk
          cases h3;subst hk;exact run_equalIn_int w d' u _ _ _ _ hu
         ·cases h3
        ·simp at h3
        ·cases h3
       ·rename_i hq
        cases hq;cases hl;obtain ⟨A,B,r,h1,h2,h3,h4⟩:=zkj hc;refine ⟨A,B,scal xs A h1,scal ys B h2,?_⟩;have hr:r=b1:=by cases r<;>simpa [zeu] using h4
        subst hr;unfold zqg at h3
        split at h3
        ·simp at h3
        ·simp at h3
         subst h3;exact run_equalIn_bool' w d' u _ _ hu
        ·cases h3
       ·rename_i hq;cases hq;cases hD'
       ·rename_i hq;cases hq;cases hD'
       ·cases hl
    ·cases hgo
   ·cases hgo
  unfold zol at h;rw [hD] at h
  split at h
  ·rename_i hq;cases hq;cases hag
  ·rename_i hq;cases hq;cases hag
  ·rename_i fs hq
   cases hq
   split at h
   ·cases h
   ·rename_i hp
    have hp:P.stoodInHeld t=false:=by simpa using hp
    have hf:P.fieldsOf t=fs:=by unfold Program.fieldsOf;rw [hD]
    rw [run_equalIn_struct w d t xs ys (by rw [hf];exact hD) hp,hf];clear hf hD;generalize fs.toList=l at h
    induction l generalizing ls b w with
    | nil =>
     cases h;cases hcmp;simp [Op.eqFields]
    | cons f l ihl =>
     simp only [List.foldr_cons] at h
     split at h
     ·cases h
     ·rename_i hnm
      have hnm : f.name ≠ "_" := by simpa using hnm
      split at h
      ·rename_i a c ha hc
       cases h;obtain ⟨b1,k1,k2⟩:=zkv hcmp;obtain ⟨A,B,g1,g2,g3⟩:=go f.type f.offset a b1 w ha k1;simp only [Op.eqFields,if_pos hnm,Sem.run_bind,g1,g2,g3,Result.andThen_ok];cases b1 with
       | true=>rw [if_pos rfl] at k2;simp only [Bool.not_true,Bool.false_eq_true,if_false];exact ihl _ _ _ k2 hc
       | false=>rw [if_neg (by simp)] at k2;cases k2;simp
      ·cases h
  ·rename_i len e hq
   cases hq
   split at h
   ·rename_i i hi
    rw [run_equalIn_array w d t len e i.size xs ys hD hi rfl];rw [List.range_eq_range'] at h;clear hD;generalize List.range' 0 len=l at h
    induction l generalizing ls b w with
    | nil =>
     cases h;cases hcmp;simp [zi8]
    | cons j l ihl =>
     simp only [List.foldr_cons] at h
     split at h
     ·rename_i a c ha hc
      cases h;obtain ⟨b1,k1,k2⟩:=zkv hcmp;obtain ⟨A,B,g1,g2,g3⟩:=go e (j * i.size) a b1 w ha k1;simp only [zi8,Sem.run_bind,g1,g2,g3,Result.andThen_ok];cases b1 with
      | true=>rw [if_pos rfl] at k2;simp only [Bool.not_true,Bool.false_eq_true,if_false];exact ihl _ _ _ k2 hc
      | false=>rw [if_neg (by simp)] at k2;cases k2;simp
     ·cases h
   ·cases h
  ·cases h
end
theorem z2y {isI:Bool} {a b:AV} {r:Bool} (h:z0t isI a b=some r):(∃ k u v,isI=true∧a = .int k u∧b = .int k v∧r=(u == v))∨∃ u v,isI=false∧a = .bool u∧b = .bool v∧r=(u == v):=by
 cases a<;>cases b<;>first | (cases h;done) | skip
 ·rename_i u v
  have h:zk isI none (some (@Bool.rec (fun _=>Bool) (Bool.not v) v u))=some r:=h;cases isI with
  | true=>cases h
  | false =>
   cases h;exact .inr ⟨u,v,rfl,rfl,rfl,by cases u<;>cases v<;>rfl⟩
 ·rename_i k u k' v
  have h:zk isI (zk (kEq k k') (some (eqI u v)) none) none=some r:=h;obtain ⟨g1,h⟩:=zf h;obtain ⟨g2,h⟩:=zf h;cases h;exact .inl ⟨k,u,v,g1,rfl,by rw [zqa g2],zp9 u v⟩
theorem z1i {ρ:Rho} {x y:List AV} {vs us:Array Value} (hx:RVs ρ x vs.toList) (hy:RVs ρ y us.toList):∀ {ls:List (Nat × Bool)} {r:Bool},z5e ls x y=some r→zeu ls vs us=some r
 | [],r,h=>by cases h;rfl
 | p :: ls,r,h=>by
  have h:bnd (nth x p.1) (fun a=>bnd (nth y p.1) fun b=>bnd (z0t p.2 a b) fun r=>zk r (z5e ls x y) (some false))=some r:=h;obtain ⟨a,h1,h⟩:=zd h;obtain ⟨b,h2,h⟩:=zd h;obtain ⟨q,h3,h⟩:=zd h;rw [zb1] at h1 h2;obtain ⟨A,k1,k2⟩:=hx.at h1;obtain ⟨B,k3,k4⟩:=hy.at h2;have hc:zqg p.2 A B=some q:=by
   rcases z2y h3 with ⟨k,u,v,g1,rfl,rfl,rfl⟩ | ⟨u,v,g1,rfl,rfl,rfl⟩
   ·have k2:A = .int k u:=k2
    have k4:B = .int k v:=k4;rw [k2,k4,g1];simp [zqg]
   ·have k2:A = .bool u:=k2
    have k4:B = .bool v:=k4;rw [k2,k4,g1];simp [zqg]
  unfold zeu;have k1:vs[p.1]? = some A:=by simpa using k1
  have k3:us[p.1]? = some B:=by simpa using k3
  rw [k1,k3];simp only [Option.bind_some,hc];cases q with
  | true=>rw [if_pos rfl];exact z1i hx hy h
  | false=>rw [if_neg (by simp)];exact h
section
variable {E:Env} {P:Program} {T:Nat→Prop} {ρ:Rho} {S:St} {w:World} {tm:Tm} {a:Act}
theorem zge (henv:zaq E P) {t:Nat} {ke:Nat × Nat} (h:zf2 E t=some ke):P.underlying t=some (.map ke.1 ke.2):=by
 unfold zf2 at h;obtain ⟨ti,hti,h⟩:=zd h
 split at h
 ·rename_i k e hd
  cases h;rw [← hd];exact (henv.ty _ _ hti).und
 ·cases h
theorem zaaf (henv:zaq E P) {t:Nat} {ib:Bool} (hib:isInt E t=some ib) {a b:AV} {A B:Value} (ha:RV ρ a A) (hb:RV ρ b B) {r:Bool} (h:zf1 P ib t a b=some r) :
  (∀ w,(Op.equal t A B).run P w = .ok r w)∧∃ d,P.underlying t=some d∧∀ b',Instr.sameNow d A B=some b'→b'=r:=by
 unfold isInt at hib;obtain ⟨ti,hti,hib⟩:=zd hib;have hu:=(henv.ty _ _ hti).und;have eqn:∀ w,(Op.equal t A B).run P w = .ok r w:=by
  unfold zf1 at h
  split at h
  ·rename_i k x k' y
   obtain ⟨h1,h⟩:=zf h;obtain ⟨h2,h⟩:=zf h;cases h;have eA:A = .int k x:=ha;have eB:B = .int k' y:=hb;intro w;have:ti.und = .int .i64∨∃ q,ti.und = .int q:=by
    cases hib
    revert h1
    cases ti.und<;>intro h1<;>first | exact .inr ⟨_,rfl⟩ | cases h1
   obtain ⟨q,hq⟩:∃ q,ti.und = .int q:=by rcases this with h | h;exact ⟨_,h⟩;exact h
   rw [hq] at hu;have:=run_equalIn_int (P:=P) w 9999 t k q x y hu;rw [eA,eB,← zqa h2,zp9];exact this
  ·rename_i x y
   have h9:zv1 (bnd (z0s P t) fun ls=>z5e ls x y) (bnd (zf9 (.agg x)) fun x=>bnd (zf9 (.agg y)) fun y=>prun P (Op.equal t x y))=some r:=h
   rcases z1h h9 with h | h
   ·obtain ⟨ls,g1,g2⟩:=zd h
    obtain ⟨vs,eA,hvs⟩:=ha;obtain ⟨us,eB,hus⟩:=hb;have hcm:=z1i hvs hus g2;unfold z0s at g1;rw [hu] at g1;simp only at g1
    split at g1
    ·rename_i hagg
     intro w;rw [eA,eB];exact zxr 8 t ls g1 10000 (by decide) vs us r w _ hu hagg hcm
    ·cases g1
   ·obtain ⟨X,h1,h⟩:=zd h
    obtain ⟨Y,h2,h⟩:=zd h;rw [zfr h1 ha,zfr h2 hb];exact zhe h
  ·obtain ⟨X,h1,h⟩:=zd h
   obtain ⟨Y,h2,h⟩:=zd h;rw [zfr h1 ha,zfr h2 hb];exact zhe h
 refine ⟨eqn,ti.und,hu,fun b' hb'=>?_⟩;have hw:=eqn default;unfold Instr.sameNow at hb'
 split at hb'
 ·rename_i q k x k' y hd
  split at hb'
  ·rename_i hk
   subst hk;cases hb';rw [hd] at hu;have:=run_equalIn_int (P:=P) default 9999 t k q x y hu;have e:=this.symm.trans hw;cases e;rfl
  ·cases hb'
 ·rename_i x y hd
  cases hb';rw [hd] at hu;have:=run_equalIn_string (P:=P) default 9999 t x y hu;have e:=this.symm.trans hw;have e2:(x.toList == y.toList)=r:=by cases e;rfl
  rw [← beq_toListBytes] at e2;exact e2
 ·rename_i x y hd
  cases hb';rw [hd] at hu;have:=run_equalIn_bool' (P:=P) default 9999 t x y hu;have e:=this.symm.trans hw;cases e;rfl
 ·cases hb'
theorem z1j (henv:zaq E P) {t:Nat} {ib:Bool} (hib:isInt E t=some ib) {k:AV} {K:Value} (hk:RV ρ k K) {d:TypeDesc} (hd:P.underlying t=some d):∀ {l:List Ent} {es:List MapEntry} {i:Nat} {r:Option (Nat × AV)},REs ρ l es→zdb P ib t k l i=some r →
  (∀ w,(Instr.findAsking t K es i).run P w = .ok (r.map fun p=>(p.1,(es[p.1 - i]?.map (·.val)).getD undef)) w)∧(∀ q,Instr.findNow d K es i=some q→q=r.map fun p=>(p.1,(es[p.1 - i]?.map (·.val)).getD undef)) ∧
   ∀ p,r=some p→i≤p.1∧∃ x,l[p.1 - i]? = some x∧x.2.1=p.2∧∃ b,zf1 P ib t k x.1=some b∧b=true
 | [],es,i,r,hes,h=>by
  have e:es=[]:=hes;subst e;cases h;exact ⟨fun w=>rfl,fun q hq=>by cases hq;rfl,fun p hp=>by cases hp⟩
 | x :: l,es,i,r,⟨e,es',he,h1,h2,h3,h4⟩,h=>by
  subst he;have h:bnd (zf1 P ib t k x.1) (fun b=>zk b (some (some (i,x.2.1))) (zdb P ib t k l (Nat.succ i)))=some r:=h;obtain ⟨b,hb,h⟩:=zd h;obtain ⟨q1,d',q2,q3⟩:=zaaf henv hib hk h1 hb;rw [hd] at q2;cases q2;cases b with
  | true =>
   have h:some (some (i,x.2.1))=some r:=h;cases h;refine ⟨fun w=>by simp [Instr.findAsking,q1],fun q hq=>?_,fun p hp=>by cases hp;exact ⟨Nat.le_refl _,x,by simp,rfl,true,hb,rfl⟩⟩;unfold Instr.findNow at hq
   split at hq
   ·cases hq;simp
   ·rename_i hs;exact absurd (q3 _ hs) (by simp)
   ·cases hq
  | false =>
   have h:zdb P ib t k l (i+1)=some r:=h;obtain ⟨k1,k2,k3⟩:=z1j henv hib hk hd h4 h;have shift:∀ p,r=some p→i+1≤p.1:=fun p hp=>(k3 p hp).1
   have same:(r.map fun p=>(p.1,((e :: es')[p.1 - i]?.map (·.val)).getD undef))=r.map fun p=>(p.1,(es'[p.1 - (i+1)]?.map (·.val)).getD undef):=by
    cases r with
    | none=>rfl
    | some p =>
     have:=shift p rfl;simp only [Option.map_some];rw [show p.1 - i=(p.1 - (i+1))+1 by omega,List.getElem?_cons_succ]
   rw [same];refine ⟨fun w=>by simp [Instr.findAsking,q1,k1],fun q hq=>?_,fun p hp=>?_⟩
   ·unfold Instr.findNow at hq
    split at hq
    ·rename_i hs;exact absurd (q3 _ hs) (by simp)
    ·exact k2 q hq
    ·cases hq
   ·obtain ⟨m1,y,m2,m3⟩:=k3 p hp
    exact ⟨by omega,y,by rw [show p.1 - i=(p.1 - (i+1))+1 by omega,List.getElem?_cons_succ];exact m2,m3⟩
theorem find_ok (henv:zaq E P) {t:Nat} {ib:Bool} (hib:isInt E t=some ib) {k:AV} {K:Value} (hk:RV ρ k K) {l:List Ent} {es:List MapEntry} {r:Option (Nat × AV)} (hes:REs ρ l es) (h:zdb P ib t k l 0=some r) :
  ∃ R,(∀ w,(Instr.findKey t K es).run P w = .ok R w)∧match r with
   | none=>R=none
   | some p=>∃ x e,l[p.1]? = some x∧es[p.1]? = some e∧x.2.1=p.2∧R=some (p.1,e.val):=by
 have hib':=hib;unfold isInt at hib';obtain ⟨ti,hti,_⟩:=zd hib';have hu:=(henv.ty _ _ hti).und;obtain ⟨k1,k2,k3⟩:=z1j henv hib hk hu hes h;refine ⟨r.map fun p=>(p.1,(es[p.1 - 0]?.map (·.val)).getD undef),fun w=>?_,?_⟩
 ·have hu':(underlying t).run P w = .ok ti.und w:=zbh (henv.ty _ _ hti)
  simp only [Instr.findKey,Sem.run_bind,hu',Result.andThen_ok];cases hf:Instr.findNow ti.und K es 0 with
  | none=>simpa using k1 w
  | some q=>rw [k2 q hf];rfl
 ·cases r with
  | none=>rfl
  | some p =>
   obtain ⟨_,x,m1,m2,_⟩:=k3 p rfl;simp only [Nat.sub_zero] at m1;obtain ⟨e,e1,_⟩:=hes.at m1;exact ⟨x,e,m1,e1,m2,by simp [e1]⟩
end
section
variable {E:Env} {P:Program} {T:Nat→Prop} {ρ:Rho} {S:St} {w:World} {tm:Tm} {a:Act}
theorem empty_eq {es:List Ent} {ents:Array MapEntry} (h:REs ρ es ents.toList):es.isEmpty=ents.isEmpty:=by
 have:=h.length;rw [Bool.eq_iff_iff,List.isEmpty_iff,Array.isEmpty_iff,← List.length_eq_zero_iff,← Array.size_eq_zero_iff];simp at this;omega
theorem zou {α:Type} (l:List α):isNil l=l.isEmpty:=by cases l<;>rfl
theorem zgn {e:Bool} {t:Nat} {k:AV} {K:Value} (hk:RV ρ k K) {u:Unit} (h:zio P e t k=some u) (w':World):(Instr.checkKey e 10000 t K).run P w' = .ok () w':=by
 unfold zio at h;obtain ⟨X,h1,h⟩:=zd h;rw [zfr h1 hk];exact zhe h w'
theorem ze7 (h:Fit ρ S T w) {m:Nat} {M:Value} (hM:RV ρ (.map m) M) {es:List Ent} {c:Nat} (hT:T m) (hg:S.get m=some (.map es c)) :
  ∃ (L:Loc) (ents:Array MapEntry),ρ m=some L∧M = .map (some L.b)∧w.heap[L.b]? = some (.map ents c)∧REs ρ es ents.toList:=by
 obtain ⟨L,hL,hX⟩:=hM;obtain ⟨L',e1,ents,e2,e3⟩:=h.obj m _ hT hg;rw [hL] at e1;cases e1;exact ⟨L,ents,hL,hX,e2,e3⟩
theorem zbi {r:Nat} {ents:Array MapEntry} {c:Nat} (h:w.heap[r]? = some (.map ents c)):(getObj r).run P w = .ok (.map ents c) w:=by simp [getObj,Sem.run,h]
theorem zcr {r:Nat} {ents:Array MapEntry} {c:Nat} (h:w.heap[r]? = some (.map ents c)) (o:Obj):(setObj r o).run P w = .ok () { w with heap:=w.heap.setIfInBounds r o }:=by simp [setObj,Sem.run,h]
theorem map_set (h:Fit ρ S T w) {m:Nat} {L:Loc} {es es':List Ent} {c c':Nat} {ents ents':Array MapEntry} (hT:T m) (hg:S.get m=some (.map es c)) (hL:ρ m=some L) (hw:w.heap[L.b]? = some (.map ents c)) (he:REs ρ es' ents'.toList) :
  Stp ρ S T w ρ (S.setted m (some (.map es' c'))) { w with heap:=w.heap.setIfInBounds L.b (.map ents' c') }:=by
 refine zlt h hT hg hL (by simp) (fun b hb=>by simp [Ne.symm hb]) ⟨ents',?_,he⟩;have:=(Array.getElem?_eq_some_iff.1 hw).1;simp [this]
theorem z7z (h:Pre E P T ρ S w tm a) {t:Nat} {x k:AV} {X K:Value} {ok:Bool} (hx:RV ρ x X) (hk:RV ρ k K) {r:OpR} (hr:zjo E P S t x k ok=some r):zbf P T ρ S w (Instr.lookup t X K ok) r:=by
 unfold zjo at hr;obtain ⟨ke,hke,hr⟩:=zd hr;obtain ⟨ib,hib,hr⟩:=zd hr;have hu:=zge h.env hke;have ht:(underlying t).run P w = .ok (.map ke.1 ke.2) w:=by simp [underlying,program,Sem.run,hu]
 have go:∀ (es:List Ent) (ents:Array MapEntry) (S':St),(bnd (zio P (isNil es) ke.1 k) fun _=>bnd (zdb P ib ke.1 k es 0) fun r =>
   (match r with
   | some iv=>some (.val (zk ok (.tup [iv.2,.bool true]) iv.2) S')
   | none=>bnd (E.tyOf ke.2) fun te=>bnd te.zv fun z=>some (.val (zk ok (.tup [z,.bool false]) z) S'):Option OpR))=some r →
   ∃ v,r = .val v S'∧(REs ρ es ents.toList→(X = .map none∧ents = #[]∨∃ b c,X = .map (some b)∧w.heap[b]? = some (.map ents c))→∃ V,(Instr.lookup t X K ok).run P w = .ok V w∧RV ρ v V):=fun es ents S' hq=>by
  obtain ⟨u,hu1,hq⟩:=zd hq;obtain ⟨q,hq1,hq⟩:=zd hq;cases q with
  | some iv =>
   have hq:some (OpR.val (zk ok (.tup [iv.2,.bool true]) iv.2) S')=some r:=hq;cases hq;refine ⟨_,rfl,fun hes hrun=>?_⟩;have hck:=zgn (w':=w) hk hu1;rw [zou,empty_eq hes] at hck;obtain ⟨R,f1,x,e,f2,f3,f4,f5⟩:=find_ok h.env hib hk hes hq1;obtain ⟨e',g1,_,g3,_⟩:=hes.at f2;rw [f3] at g1;cases g1;have hf:=f1 w;rw [f5] at hf;refine ⟨if ok then .tuple #[e.val,.bool true] else e.val,?_,?_⟩
   ·rcases hrun with ⟨eX,rfl⟩ | ⟨b,c,eX,hh⟩
    ·simp at f3
    ·simp [Instr.lookup,ht,eX,zbi hh,hck,hf]
   ·rw [zx]
    rw [f4] at g3;cases ok
    ·exact g3
    ·exact ⟨_,rfl,_,_,rfl,g3,_,_,rfl,rfl,rfl⟩
  | none =>
   have hq:(bnd (E.tyOf ke.2) fun te=>bnd te.zv fun z=>some (OpR.val (zk ok (.tup [z,.bool false]) z) S'))=some r:=hq;obtain ⟨te,hte,hq⟩:=zd hq;obtain ⟨z,hz,hq⟩:=zd hq;cases hq;refine ⟨_,rfl,fun hes hrun=>?_⟩;have hck:=zgn (w':=w) hk hu1;rw [zou,empty_eq hes] at hck;obtain ⟨R,f1,f2⟩:=find_ok h.env hib hk hes hq1;have hf:=f1 w;rw [f2] at hf;obtain ⟨Z,z1,z2⟩:=z1d (w:=w) (h.env.ty _ _ hte) hz;refine ⟨if ok then .tuple #[Z,.bool false] else Z,?_,?_⟩
   ·rcases hrun with ⟨eX,rfl⟩ | ⟨b,c,eX,hh⟩
    ·simp at hck hf
     simp [Instr.lookup,ht,eX,hck,hf,z1]
    ·simp [Instr.lookup,ht,eX,zbi hh,hck,hf,z1]
   ·rw [zx]
    have g3:RV ρ z Z:=ze6 z2;cases ok
    ·exact g3
    ·exact ⟨_,rfl,_,_,rfl,g3,_,_,rfl,rfl,rfl⟩
 rcases (show x = .nilm∨∃ m,x = .map m by cases x<;>first | exact .inl rfl | exact .inr ⟨_,rfl⟩ | cases hr) with rfl | ⟨m,rfl⟩
 ·have eX:X = .map none:=hx
  obtain ⟨v,er,hv⟩:=go [] #[] S hr;subst er;refine ⟨.refl S,fun _ _=>?_⟩;obtain ⟨V,h1,h2⟩:=hv rfl (.inl ⟨eX,rfl⟩);exact ⟨V,w,ρ,h1,.refl h.fit,h2⟩
 ·obtain ⟨o,g1,hr⟩:=zd hr
  obtain ⟨ec,g2,hr⟩:=zd hr;rw [St.touch_eq] at hr;rw [zci g2] at g1
  by_cases hTm:T m
  ·obtain ⟨L,ents,hL,eX,hh,hes⟩:=ze7 h.fit hx hTm g1
   obtain ⟨v,er,hv⟩:=go ec.1 ents (S.touched m) hr;subst er;refine ⟨zaf S m,fun _ _=>?_⟩;obtain ⟨V,h1,h2⟩:=hv hes (.inr ⟨_,_,eX,hh⟩);exact ⟨V,w,ρ,h1,za0 h.fit m,h2⟩
  ·obtain ⟨v,er,_⟩:=go ec.1 #[] (S.touched m) hr
   subst er;exact ⟨zaf S m,fun hT _=>absurd (hT m (zg.2 (.inr (zl.2 rfl)))) hTm⟩
def z5n (P:Program) (T:Nat→Prop) (ρ:Rho) (S:St) (w:World) (s:Sem Unit):OpR→Prop
 | .val v S'=>v = .undef∧Lcl S S'∧((∀ n,bit S'.t n→T n)→∃ w',s.run P w = .ok () w'∧Stp ρ S T w ρ S' w')
 | _=>False
theorem zxs {e k:AV} {A B:Value} (ha:RV ρ e A) (hb:RV ρ k B) (h:zha e k=true) (w':World):(Instr.keyThatStays A B).run P w' = .ok B w':=by
 unfold zha at h
 split at h
 ·rename_i x y h1 h2
  rw [zfr h1 ha,zfr h2 hb];simp [Instr.keyThatStays,h]
 ·cases h
theorem zxt (h:Pre E P T ρ S w tm a) {t:Nat} {x k v:AV} {X K V:Value} (hx:RV ρ x X) (hk:RV ρ k K) (hv:RV ρ v V) {r:OpR} (hr:zjp E P S t x k v=some r):z5n P T ρ S w (Instr.mapUpdate t X K V) r:=by
 unfold zjp at hr;obtain ⟨ke,hke,hr⟩:=zd hr;obtain ⟨ib,hib,hr⟩:=zd hr;have hu:=zge h.env hke;have ht:(underlying t).run P w = .ok (.map ke.1 ke.2) w:=by simp [underlying,program,Sem.run,hu]
 obtain ⟨m,rfl⟩:∃ m,x = .map m:=by cases x<;>first | exact ⟨_,rfl⟩ | cases hr
 obtain ⟨o,g1,hr⟩:=zd hr;obtain ⟨ec,g2,hr⟩:=zd hr;obtain ⟨u,hu1,hr⟩:=zd hr;obtain ⟨q,hq1,hr⟩:=zd hr;rw [zci g2] at g1;have hck:=zgn (w':=w) hk hu1;cases q with
 | some iv =>
  have hr:(bnd (nth ec.1 iv.1) fun e=>zk (zha e.1 k) (bnd (zs0 ec.1 (fun e=>(k,v,e.2.2)) iv.1) fun es=>S.set m (some (.map es ec.2)) fun S=>some (OpR.val .undef S)) none)=some r:=hr;obtain ⟨e,he,hr⟩:=zd hr;obtain ⟨hst,hr⟩:=zf hr;obtain ⟨es',hes',hr⟩:=zd hr;rw [St.set_eq] at hr;cases hr;refine ⟨rfl,zab S m _ ⟨_,g1⟩,fun hT=>?_⟩;have hTm:=hT m (zg.2 (.inr (zl.2 rfl)));obtain ⟨L,ents,hL,eX,hh,hes⟩:=ze7 h.fit hx hTm g1;obtain ⟨R,f1,y,e2,f2,f3,f4,f5⟩:=find_ok h.env hib hk hes hq1;rw [zb1] at he;obtain ⟨e3,k1,k2,k3,k4⟩:=hes.at he;rw [f3] at k1;cases k1;have hf:=f1 w;rw [f5] at hf;have f3':ents[iv.1]? = some e2:=by simpa using f3
  have hs:=zxs (P:=P) k2 hk hst w;obtain ⟨m1,m2⟩:=zki hes';refine ⟨_,?_,map_set (ents':=ents.modify iv.1 fun e=>{ e with key:=K,val:=V }) (c':=ec.2) h.fit hTm g1 hL hh ?_⟩
  ·subst eX
   simp [Instr.mapUpdate,ht,zbi hh,hck,hf,f3',hs,zcr hh]
  ·rw [m2,Array.toList_modify]
   exact REs.mod (f:=fun e=>(k,v,e.2.2)) (g:=fun e=>{ e with key:=K,val:=V }) (fun x e h1 h2 h3=>⟨hk,hv,h3⟩) hes
 | none =>
  have hr:(fcN (Nat.succ ec.2) fun c=>S.set m (some (.map (ec.1 ++ [(k,v,ec.2)]) c)) fun S=>some (OpR.val .undef S))=some r:=hr;rw [zan,St.set_eq] at hr;cases hr;refine ⟨rfl,zab S m _ ⟨_,g1⟩,fun hT=>?_⟩;have hTm:=hT m (zg.2 (.inr (zl.2 rfl)));obtain ⟨L,ents,hL,eX,hh,hes⟩:=ze7 h.fit hx hTm g1;obtain ⟨R,f1,f2⟩:=find_ok h.env hib hk hes hq1;have hf:=f1 w;rw [f2] at hf;refine ⟨_,?_,map_set (ents':=ents.push { key:=K,val:=V,born:=ec.2 }) (c':=ec.2+1) h.fit hTm g1 hL hh ?_⟩
  ·subst eX
   simp [Instr.mapUpdate,ht,zbi hh,hck,hf,zcr hh]
  ·rw [Array.toList_push]
   exact REs.snoc (x:=(k,v,ec.2)) hk hv rfl hes
theorem zaag (h:Pre E P T ρ S w tm a) {t:Nat} {x k:AV} {X K:Value} (hx:RV ρ x X) (hk:RV ρ k K) {r:OpR} (hr:zlg E P S t x k=some r):zbf P T ρ S w (Instr.mapEntry t X K) r:=by
 unfold zlg at hr;obtain ⟨ke,hke,hr⟩:=zd hr;obtain ⟨ib,hib,hr⟩:=zd hr;have hu:=zge h.env hke;have ht:(underlying t).run P w = .ok (.map ke.1 ke.2) w:=by simp [underlying,program,Sem.run,hu]
 obtain ⟨m,rfl⟩:∃ m,x = .map m:=by cases x<;>first | exact ⟨_,rfl⟩ | cases hr
 obtain ⟨o,g1,hr⟩:=zd hr;obtain ⟨ec,g2,hr⟩:=zd hr;obtain ⟨u,hu1,hr⟩:=zd hr;obtain ⟨q,hq1,hr⟩:=zd hr;rw [zci g2] at g1;have hck:=zgn (w':=w) hk hu1;cases q with
 | some iv =>
  have hr:(bnd (nth ec.1 iv.1) fun e=>zk (zha e.1 k) (bnd (zs0 ec.1 (fun e=>(k,e.2)) iv.1) fun es=>S.set m (some (.map es ec.2)) fun S=>some (OpR.val (.tup [iv.2,.int .i64 (.ofNat e.2.2)]) S)) none)=some r:=hr;obtain ⟨e,he,hr⟩:=zd hr;obtain ⟨hst,hr⟩:=zf hr;obtain ⟨es',hes',hr⟩:=zd hr;rw [St.set_eq] at hr;cases hr;refine ⟨zab S m _ ⟨_,g1⟩,fun hT _=>?_⟩;have hTm:=hT m (zg.2 (.inr (zl.2 rfl)));obtain ⟨L,ents,hL,eX,hh,hes⟩:=ze7 h.fit hx hTm g1;obtain ⟨R,f1,y,e2,f2,f3,f4,f5⟩:=find_ok h.env hib hk hes hq1;rw [zb1] at he;rw [he] at f2;cases f2;obtain ⟨e3,k1,k2,k3,k4⟩:=hes.at he;rw [f3] at k1;cases k1;have hf:=f1 w;rw [f5] at hf;have f3':ents[iv.1]? = some e2:=by simpa using f3
  have hs:=zxs (P:=P) k2 hk hst w;obtain ⟨m1,m2⟩:=zki hes';refine ⟨.tuple #[e2.val,goInt e2.born],_,ρ,?_,map_set (ents':=ents.modify iv.1 fun e=>{ e with key:=K }) (c':=ec.2) h.fit hTm g1 hL hh ?_,?_⟩
  ·subst eX
   simp [Instr.mapEntry,ht,zbi hh,hck,hf,f3',hs,zcr hh]
  ·rw [m2,Array.toList_modify]
   exact REs.mod (f:=fun e=>(k,e.2)) (g:=fun e=>{ e with key:=K }) (fun x e h1 h2 h3=>⟨hk,h2,h3⟩) hes
  ·rw [f4] at k3
   exact ⟨_,rfl,_,_,rfl,k3,_,_,rfl,by rw [k4];rfl,rfl⟩
 | none =>
  have hr:(bnd (E.tyOf ke.2) fun te=>bnd te.zv fun z=>fcN (Nat.succ ec.2) fun c=>S.set m (some (.map (ec.1 ++ [(k,z,ec.2)]) c)) fun S=>some (OpR.val (.tup [z,.int .i64 (.ofNat ec.2)]) S))=some r:=hr;obtain ⟨te,hte,hr⟩:=zd hr;obtain ⟨z,hz,hr⟩:=zd hr;rw [zan,St.set_eq] at hr;cases hr;refine ⟨zab S m _ ⟨_,g1⟩,fun hT _=>?_⟩;have hTm:=hT m (zg.2 (.inr (zl.2 rfl)));obtain ⟨L,ents,hL,eX,hh,hes⟩:=ze7 h.fit hx hTm g1;obtain ⟨R,f1,f2⟩:=find_ok h.env hib hk hes hq1;have hf:=f1 w;rw [f2] at hf;obtain ⟨Z,z1,z2⟩:=z1d (w:=w) (h.env.ty _ _ hte) hz;refine ⟨.tuple #[Z,goInt ec.2],_,ρ,?_,map_set (ents':=ents.push { key:=K,val:=Z,born:=ec.2 }) (c':=ec.2+1) h.fit hTm g1 hL hh ?_,⟨_,rfl,_,_,rfl,ze6 z2,_,_,rfl,rfl,rfl⟩⟩
  ·subst eX
   simp [Instr.mapEntry,ht,zbi hh,hck,hf,z1,zcr hh]
  ·rw [Array.toList_push]
   exact REs.snoc (x:=(k,z,ec.2)) hk (ze6 z2) rfl hes
end
section
variable {E:Env} {P:Program} {T:Nat→Prop} {ρ:Rho} {S:St} {w:World} {tm:Tm} {a:Act}
theorem zxu:∀ {l:List Ent} {es:List MapEntry} {i s n:Nat},REs ρ l es→zlf l s i=some n→i≤n∧es.findIdx? (fun e=>(e.born:Int) == (s:Int))=some (n - i)
 | [],_,_,_,_,_,h=>by cases h
 | x :: l,es,i,s,n,⟨e,r,he,h1,h2,h3,h4⟩,h=>by
  have h:zk (Nat.beq x.2.2 s) (some i) (zlf l s (i+1))=some n:=h;rw [zx] at h;rw [he]
  split at h
  ·rename_i hb
   have hb:=Nat.eq_of_beq_eq_true hb;cases h;refine ⟨Nat.le_refl _,?_⟩;rw [List.findIdx?_cons,if_pos (by rw [h3,hb];simp)];simp
  ·rename_i hb
   have hb:x.2.2≠s:=fun q=>hb (by rw [q];simp)
   obtain ⟨k1,k2⟩:=zxu h4 h;refine ⟨by omega,?_⟩;rw [List.findIdx?_cons,if_neg (by rw [h3];simp;omega),k2];simp;omega
theorem zyi (h:Pre E P T ρ S w tm a) {t:Nat} {x s v:AV} {X K V:Value} (hx:RV ρ x X) (hs:RV ρ s K) (hv:RV ρ v V) {r:OpR} (hr:ze2 S x s v=some r):z5n P T ρ S w (Instr.entryStore t X K V) r:=by
 unfold ze2 at hr;obtain ⟨m,rfl⟩:∃ m,x = .map m:=by cases x<;>first | exact ⟨_,rfl⟩ | cases hr
 obtain ⟨o,g1,hr⟩:=zd hr;obtain ⟨ec,g2,hr⟩:=zd hr;obtain ⟨b,hb,hr⟩:=zd hr;obtain ⟨i,hi,hr⟩:=zd hr;obtain ⟨es',hes',hr⟩:=zd hr;rw [St.set_eq] at hr;cases hr;rw [zci g2] at g1;obtain ⟨kk,hkk⟩:=zdd hb;rw [hkk] at hs;have hK:K = .int kk b:=hs;refine ⟨rfl,zab S m _ ⟨_,g1⟩,fun hT=>?_⟩;have hTm:=hT m (zg.2 (.inr (zl.2 rfl)));obtain ⟨L,ents,hL,eX,hh,hes⟩:=ze7 h.fit hx hTm g1;obtain ⟨q1,q2⟩:=zxu hes hi;obtain ⟨m1,m2⟩:=zki hes';have q3:ents.findIdx? (fun e=>(e.born:Int) == (b:Int))=some i:=by rw [← Array.toArray_toList (xs:=ents),List.findIdx?_toArray];simpa using q2
 refine ⟨_,?_,map_set (ents':=ents.modify i fun e=>{ e with val:=V }) (c':=ec.2) h.fit hTm g1 hL hh ?_⟩
 ·subst eX
  subst hK;simp [Instr.entryStore,zbi hh,asInt,asIntOf];rw [q3];simp [zcr hh]
 ·rw [m2,Array.toList_modify]
  exact REs.mod (f:=fun e=>(e.1,v,e.2.2)) (g:=fun e=>{ e with val:=V }) (fun x e h1 h2 h3=>⟨h1,hv,h3⟩) hes
theorem zsb {P:Program} {ib:Bool} {t:Nat} {k:AV} {iv:Nat × AV}:∀ {l:List Ent} {j:Nat},zdb P ib t k l j=some (some iv)→∃ A e B,l=A ++ e :: B∧iv=(j+A.length,e.2.1)∧(∀ x∈A,zf1 P ib t k x.1=some false)∧zf1 P ib t k e.1=some true
 | [],j,h=>by cases h
 | x :: l,j,h=>by
  have h:bnd (zf1 P ib t k x.1) (fun b=>zk b (some (some (j,x.2.1))) (zdb P ib t k l (Nat.succ j)))=some (some iv):=h;obtain ⟨b,hb,h⟩:=zd h;cases b with
  | true =>
   have h:some (some (j,x.2.1))=some (some iv):=h;cases h;exact ⟨[],x,l,rfl,rfl,(fun y hy=>by cases hy),hb⟩
  | false =>
   have h:zdb P ib t k l (j+1)=some (some iv):=h;obtain ⟨A,e,B,h1,h2,h3,h4⟩:=zsb h;refine ⟨x :: A,e,B,by rw [h1];rfl,by rw [h2];simp;omega,fun y hy=>?_,h4⟩
   rcases List.mem_cons.1 hy with rfl | hy
   ·exact hb
   ·exact h3 y hy
theorem zui {P:Program} {ib:Bool} {t:Nat} {k:AV} {e:Ent} {B:List Ent} (he:zf1 P ib t k e.1=some true):∀ {A:List Ent} {j:Nat},(∀ x∈A,zf1 P ib t k x.1=some false)→zdb P ib t k (A ++ e :: B) j=some (some (j+A.length,e.2.1))
 | [],j,_=>by
  show bnd (zf1 P ib t k e.1) _=_;rw [he];rfl
 | x :: A,j,h=>by
  have h1:=zui (B:=B) he (A:=A) (j:=j+1) fun y hy=>h y (by simp [hy])
  show bnd (zf1 P ib t k x.1) (fun b=>zk b _ (zdb P ib t k (A ++ e :: B) (Nat.succ j)))=_;rw [h x (by simp)];show zdb P ib t k (A ++ e :: B) (j+1)=_;rw [h1];simp;omega
theorem zhf {g:Nat→Bool}:∀ {l:List Ent} {j:Nat} {x:Ent},x∈zah g j l→x∈l
 | [],_,_,h=>by cases h
 | e :: l,j,x,h=>by
  unfold zah at h
  split at h
  ·rcases List.mem_cons.1 h with rfl | h
   ·simp
   ·simp [zhf h]
  ·simp [zhf h]
theorem zhq {A B:List Ent} {e:Ent} {g:Nat→Bool} {th:Bool}:ziq (A ++ e :: B) g A.length th=zah g 0 A ++ ((if th then [e] else []) ++ zah g (A.length+1) B):=by
 unfold ziq;simp
theorem zacu (h:Fit ρ S T w) {m:Nat} {M:Value} (hM:RV ρ (.map m) M) {es:List Ent} {c i:Nat} {th:Bool} (hT:T m) (hg:S.get m=some (.mapk es c i th)) :
  ∃ (L:Loc) (ents:Array MapEntry),ρ m=some L∧M = .map (some L.b)∧w.heap[L.b]? = some (.map ents c)∧REs ρ (ziq es L.g i th) ents.toList:=by
 obtain ⟨L,hL,hX⟩:=hM;obtain ⟨L',e1,ents,e2,e3⟩:=h.obj m _ hT hg;rw [hL] at e1;cases e1;exact ⟨L,ents,hL,hX,e2,e3⟩
theorem zov {o:AO} {q:Mk} (h:zzd o=some q):o = .mapk q.es q.ck q.i q.th:=by
 cases o<;>cases h;rfl
theorem zacv (h:Pre E P T ρ S w tm a) {t ty:Nat} {ats:Array Nat} (hat:ats[0]? = some t) {ke:Nat × Nat} (hke:zf2 E t=some ke) {ib:Bool} (hib:isInt E ke.1=some ib) {m:Nat} {k:AV} {X K:Value} (hx:RV ρ (.map m) X) (hk:RV ρ k K) {r:OpR} (hr:z0u P S ib ke.1 m k=some r):zbf P T ρ S w (Builtin.delete_ ats ty #[X,K]) r:=by
 have hu:=zge h.env hke;have ht:(underlying t).run P w = .ok (.map ke.1 ke.2) w:=by simp [underlying,program,Sem.run,hu]
 unfold z0u at hr;obtain ⟨o,g1,hr⟩:=zd hr;obtain ⟨z,g2,hr⟩:=zd hr;obtain ⟨hth,hr⟩:=zf hr;obtain ⟨u,hu1,hr⟩:=zd hr;obtain ⟨q,hq1,hr⟩:=zd hr;rw [zov g2,hth] at g1;have hck:=zgn (w':=w) hk hu1;cases q with
 | none=>cases hr
 | some iv =>
  obtain ⟨hi,hr⟩:=zf hr;have hi:=Nat.eq_of_beq_eq_true hi;rw [St.set_eq] at hr;cases hr;refine ⟨zab S m _ ⟨_,g1⟩,fun hT _=>?_⟩;have hTm:=hT m (zg.2 (.inr (zl.2 rfl)));obtain ⟨L,ents,hL,eX,hh,hes⟩:=zacu h.fit hx hTm g1;obtain ⟨A,e,B,q1,q2,q3,q4⟩:=zsb hq1;have ei:z.i=A.length:=by rw [← hi,q2];simp
  rw [q1,ei,zhq] at hes;have hfind:=zui (B:=zah L.g (A.length+1) B) q4 (A:=zah L.g 0 A) (j:=0) fun x hx=>q3 x (zhf hx)
  have hes2:REs ρ (zah L.g 0 A ++ e :: zah L.g (A.length+1) B) ents.toList:=hes;obtain ⟨R,f1,y,e2,f2,f3,f4,f5⟩:=find_ok h.env hib hk hes2 hfind;have hf:=f1 w;rw [f5] at hf;simp only [Nat.zero_add] at hf f3;have hlt:(zah L.g 0 A).length < ents.size:=by
   rcases Nat.lt_or_ge (zah L.g 0 A).length ents.size with q | q
   ·exact q
   ·rw [List.getElem?_eq_none (by simpa using q)] at f3;cases f3
  have hne:ents.isEmpty=false:=by
   rw [Array.isEmpty_eq_false_iff];intro e0;rw [e0] at hlt;simp at hlt
  rw [← hne] at hck;refine ⟨.tuple #[],{ w with heap:=w.heap.setIfInBounds L.b (.map (ents.eraseIdxIfInBounds (zah L.g 0 A).length) z.ck) },ρ,?_,?_,⟨#[],rfl,rfl⟩⟩
  ·subst eX
   simp [Builtin.delete_,hat,ht,zbi hh,hck,hf,zcr hh]
  ·refine zlt h.fit hTm g1 hL (by simp) (fun b hb=>by simp [Ne.symm hb]) ⟨ents.eraseIdxIfInBounds (zah L.g 0 A).length,?_,?_⟩
   ·have:=(Array.getElem?_eq_some_iff.1 hh).1
    simp [this]
   ·have e1:(ents.eraseIdxIfInBounds (zah L.g 0 A).length).toList=ents.toList.eraseIdx (zah L.g 0 A).length:=by simp [Array.eraseIdxIfInBounds,hlt]
    rw [e1,q1,ei,zhq];have:=hes2.erase (zah L.g 0 A).length;rw [List.eraseIdx_append_of_length_le (Nat.le_refl _),Nat.sub_self] at this;exact this
theorem zacw (h:Pre E P T ρ S w tm a) {t ty:Nat} {ats:Array Nat} (hat:ats[0]? = some t) {ke:Nat × Nat} (hke:zf2 E t=some ke) {ib:Bool} (hib:isInt E ke.1=some ib) {m:Nat} {k:AV} {X K:Value} (hx:RV ρ (.map m) X) (hk:RV ρ k K) {r:OpR} (hr:z0v P S ib ke.1 m k=some r):zbf P T ρ S w (Builtin.delete_ ats ty #[X,K]) r:=by
 have hu:=zge h.env hke;have ht:(underlying t).run P w = .ok (.map ke.1 ke.2) w:=by simp [underlying,program,Sem.run,hu]
 unfold z0v at hr;obtain ⟨o,g1,hr⟩:=zd hr;obtain ⟨ec,g2,hr⟩:=zd hr;obtain ⟨u,hu1,hr⟩:=zd hr;obtain ⟨q,hq1,hr⟩:=zd hr;rw [zci g2] at g1;have hck:=zgn (w':=w) hk hu1;cases q with
 | some iv =>
  have hr:(S.set m (some (.map (ec.1.eraseIdx iv.1) ec.2)) fun S=>some (OpR.val .undef S))=some r:=hr;rw [St.set_eq] at hr;cases hr;refine ⟨zab S m _ ⟨_,g1⟩,fun hT _=>?_⟩;have hTm:=hT m (zg.2 (.inr (zl.2 rfl)));obtain ⟨L,ents,hL,eX,hh,hes⟩:=ze7 h.fit hx hTm g1;rw [zou,empty_eq hes] at hck;obtain ⟨R,f1,y,e2,f2,f3,f4,f5⟩:=find_ok h.env hib hk hes hq1;have hf:=f1 w;rw [f5] at hf;have hlt:iv.1 < ents.size:=by
   rcases Nat.lt_or_ge iv.1 ents.size with q | q
   ·exact q
   ·rw [List.getElem?_eq_none (by simpa using q)] at f3;cases f3
  refine ⟨.tuple #[],_,ρ,?_,map_set (ents':=ents.eraseIdxIfInBounds iv.1) (c':=ec.2) h.fit hTm g1 hL hh ?_,⟨#[],rfl,rfl⟩⟩
  ·subst eX
   simp [Builtin.delete_,hat,ht,zbi hh,hck,hf,zcr hh]
  ·have:(ents.eraseIdxIfInBounds iv.1).toList=ents.toList.eraseIdx iv.1:=by simp [Array.eraseIdxIfInBounds,hlt]
   rw [this];exact hes.erase _
 | none =>
  have hr:(S.touch m fun S=>some (OpR.val .undef S))=some r:=hr;rw [St.touch_eq] at hr;cases hr;refine ⟨zaf S m,fun hT _=>?_⟩;have hTm:=hT m (zg.2 (.inr (zl.2 rfl)));obtain ⟨L,ents,hL,eX,hh,hes⟩:=ze7 h.fit hx hTm g1;rw [zou,empty_eq hes] at hck;obtain ⟨R,f1,f2⟩:=find_ok h.env hib hk hes hq1;have hf:=f1 w;rw [f2] at hf;refine ⟨.tuple #[],{ w with heap:=w.heap.setIfInBounds L.b (.map ents ec.2) },ρ,?_,(za0 h.fit m).heap ?_,⟨#[],rfl,rfl⟩⟩
  ·subst eX
   simp [Builtin.delete_,hat,ht,zbi hh,hck,hf,zcr hh]
  ·apply Array.ext_getElem?
   intro i;rw [Array.getElem?_setIfInBounds]
   split
   ·rename_i e
    subst e;have:=(Array.getElem?_eq_some_iff.1 hh).1;rw [if_pos this,hh]
   ·rfl
theorem zgy {α:Type} {x y:Option α} {r:α} (h : @Option.rec α (fun _=>Option α) y (fun r=>some r) x=some r):x=some r∨y=some r:=by
 cases x with
 | none=>exact .inr h
 | some a=>exact .inl h
theorem z70 (h:Pre E P T ρ S w tm a) {t ty:Nat} {ats:Array Nat} (hat:ats[0]? = some t) {x k:AV} {X K:Value} (hx:RV ρ x X) (hk:RV ρ k K) {r:OpR} (hr:zjq E P S t x k=some r):zbf P T ρ S w (Builtin.delete_ ats ty #[X,K]) r:=by
 unfold zjq at hr;obtain ⟨ke,hke,hr⟩:=zd hr;obtain ⟨ib,hib,hr⟩:=zd hr;obtain ⟨m,rfl⟩:∃ m,x = .map m:=by cases x<;>first | exact ⟨_,rfl⟩ | cases hr
 rcases zgy hr with hr | hr
 ·exact zacw (ty:=ty) h hat hke hib hx hk hr
 ·exact zacv (ty:=ty) h hat hke hib hx hk hr
theorem zad9 (h:Pre E P T ρ S w tm a) {t ty:Nat} {ats:Array Nat} (hat:ats[0]? = some t) {x:AV} {X:Value} (hx:RV ρ x X) {r:OpR} (hr:zt7 E S t x=some r):zbf P T ρ S w (Builtin.len_ ats ty #[X]) r:=by
 unfold zt7 at hr;have tyd:∀ {t:Nat} {ti:TI},E.tyOf t=some ti→(underlying t).run P w = .ok ti.und w:=fun hti=>zbh (h.env.ty _ _ hti)
 cases x with
 | nils =>
  obtain ⟨ti,hti,hr⟩:=zd hr;obtain ⟨e,he,hr⟩:=zd hr;cases hr;have ht:=tyd hti;rw [zbb he] at ht;have eX:X=_:=hx;subst eX;exact ⟨.refl S,fun _ _=>⟨.int .i64 0,w,ρ,by simp [Builtin.len_,hat,ht,goInt],.refl h.fit,rfl⟩⟩
 | sl n off len cap =>
  obtain ⟨ti,hti,hr⟩:=zd hr;obtain ⟨e,he,hr⟩:=zd hr;cases hr;have ht:=tyd hti;rw [zbb he] at ht;obtain ⟨L,o',_,eX,_⟩:=hx;subst eX;exact ⟨.refl S,fun _ _=>⟨.int .i64 len,w,ρ,by simp [Builtin.len_,hat,ht,goInt],.refl h.fit,rfl⟩⟩
 | slo n off len sz =>
  obtain ⟨ti,hti,hr⟩:=zd hr;obtain ⟨e,he,hr⟩:=zd hr;cases hr;have ht:=tyd hti;rw [zbb he] at ht;obtain ⟨L,o',c,_,eX,_⟩:=hx;subst eX;exact ⟨.refl S,fun _ _=>⟨.int .i64 len,w,ρ,by simp [Builtin.len_,hat,ht,goInt],.refl h.fit,rfl⟩⟩
 | map m =>
  obtain ⟨ke,hke,hr⟩:=zd hr;obtain ⟨o,g1,hr⟩:=zd hr;obtain ⟨ec,g2,hr⟩:=zd hr;rw [St.touch_eq,zan] at hr;cases hr;rw [zci g2] at g1;have hu:=zge h.env hke;have ht:(underlying t).run P w = .ok (.map ke.1 ke.2) w:=by simp [underlying,program,Sem.run,hu]
  refine ⟨zaf S m,fun hT _=>?_⟩;obtain ⟨L,ents,hL,eX,hh,hes⟩:=ze7 h.fit hx (hT m (zg.2 (.inr (zl.2 rfl)))) g1;subst eX;have hl:=hes.length;simp only [Array.length_toList] at hl;exact ⟨.int .i64 ents.size,w,ρ,by simp [Builtin.len_,hat,ht,zbi hh,goInt],za0 h.fit m,by rw [hl];rfl⟩
 | ptr n off =>
  obtain ⟨ti,hti,hr⟩:=zd hr;obtain ⟨e,he,hr⟩:=zd hr;obtain ⟨ta,hta,hr⟩:=zd hr;obtain ⟨ne,hne,hr⟩:=zd hr;cases hr;have ht:=tyd hti;rw [z2v he] at ht;have ht2:=tyd hta;rw [zfw hne] at ht2;obtain ⟨L,_,eX⟩:=hx;subst eX;exact ⟨.refl S,fun _ _=>⟨.int .i64 ne.1,w,ρ,by simp [Builtin.len_,hat,ht,ht2,goInt],.refl h.fit,rfl⟩⟩
 | agg l =>
  obtain ⟨ti,hti,hr⟩:=zd hr;obtain ⟨ne,hne,hr⟩:=zd hr;cases hr;have ht:=tyd hti;rw [zfw hne] at ht;obtain ⟨vs,eX,_⟩:=hx;subst eX;exact ⟨.refl S,fun _ _=>⟨.int .i64 ne.1,w,ρ,by simp [Builtin.len_,hat,ht,goInt],.refl h.fit,rfl⟩⟩
 | _=>cases hr
theorem zaea (h:Pre E P T ρ S w tm a) {t ty:Nat} {ats:Array Nat} (hat:ats[0]? = some t) {x:AV} {X:Value} (hx:RV ρ x X) {r:OpR} (hr:zt8 E S t x=some r):zbf P T ρ S w (Builtin.cap_ ats ty #[X]) r:=by
 unfold zt8 at hr;obtain ⟨ti,hti,hr⟩:=zd hr;obtain ⟨e,he,hr⟩:=zd hr;have ht:=zbh (w:=w) (h.env.ty _ _ hti);rw [zbb he] at ht;cases x with
 | nils =>
  cases hr;have eX:X=_:=hx;subst eX;exact ⟨.refl S,fun _ _=>⟨.int .i64 0,w,ρ,by simp [Builtin.cap_,hat,ht,goInt],.refl h.fit,rfl⟩⟩
 | sl n off len cap =>
  cases hr;obtain ⟨L,o',_,eX,_⟩:=hx;subst eX;exact ⟨.refl S,fun _ _=>⟨.int .i64 cap,w,ρ,by simp [Builtin.cap_,hat,ht,goInt],.refl h.fit,rfl⟩⟩
 | _=>cases hr
theorem zaah (h:Pre E P T ρ S w tm a) {t ty:Nat} {ats:Array Nat} (hat:ats[0]? = some t) {x:AV} {X:Value} (hx:RV ρ x X) {r:OpR} (hr:zlh E S t x=some r):zbf P T ρ S w (Builtin.clear_ ats ty #[X]) r:=by
 unfold zlh at hr;have row:∀ (n off len cap:Nat) (L:Loc) (o':Nat) (ti te:TI) (e:Nat) (z:List AV),ρ n=some L→X = .slice (some ⟨L.b,o',none⟩) len cap→len≤cap→(cap=0∨o'=L.s+off)→E.tyOf t=some ti→zb4 ti.und=some e→E.tyOf e=some te→te.zero=some z →
   wrL S n off (zdl len z) (fun S=>some (.val .undef S))=some r→zbf P T ρ S w (Builtin.clear_ ats ty #[X]) r:=fun n off len cap L o' ti te e z hL eX hc ho hti he hte hz hr=>by
  have ht:=zbh (w:=w) (h.env.ty _ _ hti);rw [zbb he] at ht;obtain ⟨Z,z1,z2⟩:=zir (h.env.ty _ _ hte) hz ρ w;have rv:RVs ρ (zdl len z) (Builtin.zeroCells Z.cells len).toList:=zrg z2 (by have:=z2.length;simp at this;rw [this]);obtain ⟨S',k1,k2,k3,k4⟩:=zlv (P:=P) h.fit hr rv;cases k1;refine ⟨k2,fun hT _=>?_⟩;obtain ⟨_,k5⟩:=k4 hT;obtain ⟨w',q1,q2⟩:=k5 L o' hL (by
   rcases ho with ho | ho
   ·left;have:len=0:=by omega
    subst this;rfl
   ·exact .inr ho)
  subst eX;cases len with
  | zero =>
   have q3:w'=w:=by
    have e0:(Builtin.zeroCells Z.cells 0).toList=[]:=by simp [Builtin.zeroCells]
    rw [e0] at q1;have:Result.ok () w=Result.ok () w':=q1;cases this;rfl
   subst q3;exact ⟨.tuple #[],w',ρ,by simp [Builtin.clear_,hat,ht],q2,⟨#[],rfl,rfl⟩⟩
  | succ len=>exact ⟨.tuple #[],w',ρ,by simp [Builtin.clear_,hat,ht,z1,q1],q2,⟨#[],rfl,rfl⟩⟩
 cases x with
 | nilm =>
  obtain ⟨ti,hti,hr⟩:=zd hr;cases hr;have ht:=zbh (w:=w) (h.env.ty _ _ hti);have eX:X=_:=hx;subst eX;exact ⟨.refl S,fun _ _=>⟨.tuple #[],w,ρ,by simp [Builtin.clear_,hat,ht],.refl h.fit,⟨#[],rfl,rfl⟩⟩⟩
 | nils =>
  obtain ⟨ti,hti,hr⟩:=zd hr;cases hr;have ht:=zbh (w:=w) (h.env.ty _ _ hti);have eX:X=_:=hx;subst eX;exact ⟨.refl S,fun _ _=>⟨.tuple #[],w,ρ,by simp [Builtin.clear_,hat,ht],.refl h.fit,⟨#[],rfl,rfl⟩⟩⟩
 | map m =>
  obtain ⟨ti,hti,hr⟩:=zd hr;obtain ⟨o,g1,hr⟩:=zd hr;obtain ⟨ec,g2,hr⟩:=zd hr;rw [St.set_eq] at hr;cases hr;rw [zci g2] at g1;have ht:=zbh (w:=w) (h.env.ty _ _ hti);refine ⟨zab S m _ ⟨_,g1⟩,fun hT _=>?_⟩;have hTm:=hT m (zg.2 (.inr (zl.2 rfl)));obtain ⟨L,ents,hL,eX,hh,hes⟩:=ze7 h.fit hx hTm g1;refine ⟨.tuple #[],_,ρ,?_,map_set (ents':=#[]) (es':=[]) (c':=ec.2) h.fit hTm g1 hL hh rfl,⟨#[],rfl,rfl⟩⟩;subst eX;simp [Builtin.clear_,hat,ht,zbi hh,zcr hh]
 | sl n off len cap =>
  obtain ⟨ti,hti,hr⟩:=zd hr;obtain ⟨e,he,hr⟩:=zd hr;obtain ⟨te,hte,hr⟩:=zd hr;obtain ⟨z,hz,hr⟩:=zd hr;obtain ⟨L,o',hL,eX,hc,ho⟩:=hx;exact row n off len cap L o' ti te e z hL eX hc ho hti he hte hz hr
 | slo n off len sz =>
  obtain ⟨ti,hti,hr⟩:=zd hr;obtain ⟨e,he,hr⟩:=zd hr;obtain ⟨te,hte,hr⟩:=zd hr;obtain ⟨z,hz,hr⟩:=zd hr;obtain ⟨L,o',cap,hL,eX,hc,hk,ho⟩:=hx;exact row n off len cap L o' ti te e z hL eX hc ho hti he hte hz hr
 | _=>cases hr
end
theorem z35 {d:TypeDesc} (h:z0z d=true):d = .int .u8:=by
 unfold z0z at h
 split at h
 ·rfl
 ·cases h
theorem z71 {d:TypeDesc} (h:zt9 d=true):d = .string:=by
 unfold zt9 at h
 split at h
 ·rfl
 ·cases h
theorem foldl_push:∀ (l:List Nat) (s:ByteArray),(l.map Int.ofNat).foldl (fun r n=>r.push (UInt8.ofNat n.toNat)) s=⟨s.data ++ (l.map UInt8.ofNat).toArray⟩
 | [],s=>by simp
 | n :: l,s=>by
  rw [List.map_cons,List.foldl_cons,foldl_push l];simp [ByteArray.push]
theorem z1k {ρ:Rho}:∀ {l:List AV} {bs:List Nat} {vs:List Value},zq8 l=some bs→RVs ρ l vs→vs=(bs.map Int.ofNat).map (Value.int .u8)
 | [],bs,vs,h,hv=>by cases h;exact hv
 | a :: l,bs,vs,h,hv=>by
  obtain ⟨V,r,e,h1,h2⟩:=hv;unfold zq8 at h
  split at h
  ·rename_i he
   cases he
  ·rename_i n l' he
   cases he;rw [zan] at h;obtain ⟨r',h3,h4⟩:=zd h;cases h4;have h1:V = .int .u8 (.ofNat n):=h1;rw [e,h1,z1k h3 h2];rfl
  ·cases h
section
variable {E:Env} {P:Program} {T:Nat→Prop} {ρ:Rho} {S:St} {w:World} {tm:Tm} {a:Act}
theorem zbf.op {o:Oper} {s:Sem Value} {r:OpR} (h:zbf P T ρ S w s r) (e:execOp a.eval o=(do pure (.value (← s)))):zb2 P T ρ S w a o r:=by
 cases r with
 | val v S' =>
  intro hT hf;obtain ⟨V,w',ρ',h1,h2,h3⟩:=h.2 hT hf;exact ⟨V,w',ρ',.inl (by rw [e];simp [h1]),h2,h3⟩
 | call f args S'=>exact h.elim
 | yield l args S'=>exact h.elim
theorem zaai (h:Fit ρ S T w) {src dst e:Nat} {s:ByteArray} {u:TypeDesc} (hs:P.underlying src=some u) (hd:P.underlying dst=some (.slice e)) (he:P.underlying e=some (.int .u8)) :
  zbf P T ρ S w (convert src dst (.string s)) (.val (.slo S.next 0 s.size 1) (S.alloced (.row (zlq s)))):=by
 refine ⟨za8 S _,fun _ hf=>?_⟩;have hf':=zdn hf;have hcs:(Lib.bytesCells w e s).size=grownCap w s.size 0 e:=by
  have:=grownCap_ge w s.size 0 e;have hsz:s.data.size=s.size:=rfl;simp only [Lib.bytesCells,Array.size_append,Array.size_map,Array.size_replicate,hsz];omega
 have hheap:(Lib.bytesWorld w e s).heap=w.heap.push (.cells (Lib.bytesCells w e s) e ((Lib.bytesCells w e s).size,(Lib.bytesCells w e s).size+1)):=by
  apply Array.ext_getElem?;intro i
  rcases Nat.lt_trichotomy i w.heap.size with hi | hi | hi
  ·rw [Lib.bytesWorld_at_old w e s i hi,Array.getElem?_push_lt hi,Array.getElem?_eq_getElem hi]
  ·rw [hi,Lib.bytesWorld_at_new];simp
  ·rw [Array.getElem?_eq_none (by rw [Lib.bytesWorld_size];omega),Array.getElem?_eq_none (by simp;omega)]
 have hrun:=Lib.run_convert_string_bytes w src dst e s hs hd he;refine ⟨_,_,zed ρ S.next ⟨w.heap.size,0,(Lib.bytesCells w e s).size,fun _=>true⟩,hrun,zdx h hf' hheap ⟨_,e,_,rfl,by simp,?_,fun i x hi=>?_⟩ ⟨rfl,rfl,rfl⟩,⟨_,0,_,zac _ _ _,rfl,grownCap_ge w s.size 0 e,by show 0+grownCap w s.size 0 e * 1=(Lib.bytesCells w e s).size;rw [hcs];omega,.inr rfl⟩⟩
 ·show (zlq s).length≤(Lib.bytesCells w e s).size
  have hsz:s.data.size=s.size:=rfl;rw [hcs];simp only [zlq,zv7,List.length_map,Array.length_toList,hsz];exact grownCap_ge w s.size 0 e
 ·have hx:(zlq s)[i]? = some x:=hi
  simp only [zlq,zv7,List.map_map,List.getElem?_map,Option.map_eq_some_iff] at hx;obtain ⟨b,h1,h2⟩:=hx;refine ⟨.int .u8 b.toNat,?_,?_⟩
  ·show (Lib.bytesCells w e s)[0+i]? = _
   have h3:s.data[i]? = some b:=by simpa using h1
   have hlt:=(Array.getElem?_eq_some_iff.1 h3).1;rw [Nat.zero_add];unfold Lib.bytesCells;rw [Array.getElem?_append_left (by simpa using hlt)];simp [h3]
  ·rw [← h2];rfl
theorem zaaj (h:Fit ρ S T w) {src dst e n off len:Nat} {x:AV} {X:Value} (hx:RV ρ x X) (hrow:zs1 x=some (n,off,len)) (hs:P.underlying src=some (.slice e)) (he:P.underlying e=some (.int .u8)) (hd:P.underlying dst=some .string) {r:OpR}
  (hr:(rdN S n off len fun l S=>bnd (zq8 l) fun bs=>some (OpR.val (.str (zft bs)) S))=some r):zbf P T ρ S w (convert src dst X) r:=by
 obtain ⟨l,h1,h2,h3⟩:=zlu h hr;obtain ⟨bs,h4,h5⟩:=zd h2;cases h5;refine ⟨zaf S n,fun hT _=>?_⟩;obtain ⟨L,hL,vs,o1,o2,o3⟩:=h3 (hT n (zg.2 (.inr (zl.2 rfl))));have main:∀ (o' cap:Nat),X = .slice (some ⟨L.b,o',none⟩) len cap→len≤cap→(cap=0∨o'=L.s+off)→∃ V w' ρ',(convert src dst X).run P w = .ok V w'∧Stp ρ S T w ρ' (S.touched n) w'∧RV ρ' (.str (zft bs)) V:=fun o' cap hX hc ho=>by
  have k4:=o3 o' (by
   rcases ho with ho | ho
   ·left;omega
   ·exact .inr ho)
  have hload:=run_loadCells_list (P:=P) w (⟨L.b,o',none⟩:Addr) vs (fun j u hj=>k4 j u hj);rw [o1,z1k h4 o2] at hload;refine ⟨_,w,ρ,?_,za0 h n,rfl⟩;rw [hX,run_convert_bytes_string w src dst e _ len cap hs he hd,run_bytesToString w _ len cap _ hload,foldl_push];show Result.ok (Value.string ⟨ByteArray.empty.data ++ (bs.map UInt8.ofNat).toArray⟩) w=_;rw [show ByteArray.empty.data = #[] from rfl];simp [zft]
 cases x with
 | sl n' off' len' cap =>
  cases hrow;obtain ⟨L',o',e1,e2,e3,e4⟩:=hx;rw [hL] at e1;cases e1;exact main o' cap e2 e3 e4
 | slo n' off' len' sz =>
  cases hrow;obtain ⟨L',o',cap,e1,e2,e3,e4,e5⟩:=hx;rw [hL] at e1;cases e1;exact main o' cap e2 e3 e5
 | _=>cases hrow
theorem zacx (h:Pre E P T ρ S w tm a) {dst:Option Tmp} {ty:Nat} {pos:String} {after:Array Edge} {guard:Option (Nat × Bool)} {s d:Nat} {x:Operand} {r:OpR}
  (hr:zhd s d x E P tm ⟨dst,.convert s d x,ty,pos,after,guard⟩ S=some r):zb2 P T ρ S w a ⟨dst,.convert s d x,ty,pos,after,guard⟩ r:=by
 unfold zhd at hr;obtain ⟨v,hv,hr⟩:=zd hr
 rcases zbo hr with hr | hr
 ·have hX:=zr h hv
  have ex:execOp a.eval ⟨dst,.convert s d x,ty,pos,after,guard⟩=(do pure (.value (← convert s d (a.eval x)))):=by simp [execOp]
  have rows:∀ {v:AV},RV ρ v (a.eval x)→(bnd (zs1 v) fun r=>bnd (E.tyOf s) fun ts=>bnd (zb4 ts.und) fun e=>bnd (E.tyOf e) fun te=>zk (z0z te.und) (bnd (E.tyOf d) fun td=>zk (zt9 td.und) (rdN S r.1 r.2.1 r.2.2 fun l S=>bnd (zq8 l) fun bs=>some (.val (.str (zft bs)) S)) none) none)=some r →
    zb2 P T ρ S w a ⟨dst,.convert s d x,ty,pos,after,guard⟩ r:=fun {v} hX hr=>by
   obtain ⟨q,hq,hr⟩:=zd hr;obtain ⟨ts,g1,hr⟩:=zd hr;obtain ⟨e,g2,hr⟩:=zd hr;obtain ⟨te,g3,hr⟩:=zd hr;obtain ⟨g4,hr⟩:=zf hr;obtain ⟨td,g5,hr⟩:=zd hr;obtain ⟨g6,hr⟩:=zf hr;have k1:=(h.env.ty _ _ g1).und;have k3:=(h.env.ty _ _ g3).und;have k5:=(h.env.ty _ _ g5).und;rw [zbb g2] at k1;rw [z35 g4] at k3;rw [z71 g6] at k5;obtain ⟨n,off,len⟩:=q;exact (zaaj h.fit hX hq k1 k3 k5 hr).op ex
  unfold z00 at hr
  split at hr
  ·rename_i s' hr9
   obtain ⟨ts,g1,hr⟩:=zd hr;obtain ⟨td,g2,hr⟩:=zd hr;obtain ⟨e,g3,hr⟩:=zd hr;obtain ⟨te,g4,hr⟩:=zd hr;obtain ⟨g5,hr⟩:=zf hr;rw [St.alloc_eq,zan] at hr;cases hr;have k1:=(h.env.ty _ _ g1).und;have k2:=(h.env.ty _ _ g2).und;have k4:=(h.env.ty _ _ g4).und;rw [zbb g3] at k2;rw [z35 g5] at k4;have eX:a.eval x = .string s':=hX;have q:=zaai (P:=P) h.fit (s:=s') k1 k2 k4;rw [← eX] at q;exact q.op ex
  ·cases hr
  ·exact rows hX hr
 ·exact pure_ok h hr
end
def zb7 (P : Program) : Prop := ∀ (f : Nat) (fn : Func), P.funcs[f]? = some fn → (fn.name == "runtime.NumGoroutine") = false
section
variable {E:Env} {P:Program} {T:Nat→Prop} {ρ:Rho} {S:St} {w:World} {tm:Tm} {a:Act}
theorem z5n.op {o:Oper} {s:Sem Unit} {r:OpR} (h:z5n P T ρ S w s r) (e:execOp a.eval o=(do s;pure .skip)):zb2 P T ρ S w a o r:=by
 cases r with
 | val v S' =>
  intro hT hf;obtain ⟨ev,_,h⟩:=h;subst ev;obtain ⟨w',h1,h2⟩:=h hT;exact ⟨undef,w',ρ,.inr ⟨by rw [e];simp [h1],rfl⟩,h2,⟨#[],rfl,rfl⟩⟩
 | call f args S'=>exact h.elim
 | yield l args S'=>exact h.elim
theorem z1l (a b:Bool):ze1 a b=(a && b):=by cases a<;>rfl
theorem zaak (h:Pre E P T ρ S w tm a) {t:Nat} {x:AV} {X:Value} (hx:RV ρ x X) {r:OpR} (hr:zv3 E S t x=some r):zbf P T ρ S w (Instr.range t X) r:=by
 unfold zv3 at hr;cases x with
 | str s =>
  obtain ⟨ti,hti,hr⟩:=zd hr;have ht:=zbh (w:=w) (h.env.ty _ _ hti)
  split at hr
  ·rename_i hd
   rw [hd] at ht;rw [St.alloc_eq] at hr;cases hr;have eX:X = .string s:=hx;subst eX;refine ⟨za8 S _,fun _ hf=>⟨.pointer (some ⟨w.heap.size,0,none⟩),_,_,?_,zdx (k:=0) h.fit (zdn hf) (obj:=.stringIter s 0) (w':={ w with heap:=w.heap.push (.stringIter s 0) }) rfl ⟨rfl,rfl⟩,⟨_,zac _ _ _,rfl⟩⟩⟩;simp [Instr.range,ht,newObj,Sem.run]
  ·cases hr
 | map m =>
  obtain ⟨ke,hke,hr⟩:=zd hr;obtain ⟨o,g1,hr⟩:=zd hr;obtain ⟨ec,g2,hr⟩:=zd hr;rw [zci g2] at g1;have hu:=zge h.env hke;have ht:(underlying t).run P w = .ok (.map ke.1 ke.2) w:=by simp [underlying,program,Sem.run,hu]
  rw [St.touch_eq,St.alloc_eq] at hr;cases hr;refine ⟨(zaf S m).trans (za8 _ _),fun hT hf=>?_⟩;have hTm:=hT m (zg.2 (.inl (zg.2 (.inr (zl.2 rfl)))));obtain ⟨L,ents,hL,eX,hh,hes⟩:=ze7 h.fit hx hTm g1;subst eX;have hfr:ρ (S.touched m).next=none:=zdn hf;have s1:=za0 h.fit m;have hsub:=zee (ρ:=ρ) (n:=(S.touched m).next) ⟨w.heap.size,0,0,fun _=>true⟩ hfr;refine ⟨.pointer (some ⟨w.heap.size,0,none⟩),_,_,?_,s1.trans (zdx (k:=0) s1.fit hfr (obj:=.mapIter (some L.b) ec.2 #[] ec.2) (w':={ w with heap:=w.heap.push (.mapIter (some L.b) ec.2 #[] ec.2) }) rfl ⟨rfl,L,hsub _ _ hL,rfl⟩),⟨_,zac _ _ _,rfl⟩⟩;simp [Instr.range,ht,newObj,Sem.run,zbi hh]
 | _=>cases hr
theorem z5o {o:AO} {q:Nat × Nat × Nat} (h:zabh o=some q):o = .itAt q.1 q.2.1 q.2.2:=by
 cases o<;>cases h;rfl
theorem zqh {b i:Nat}:∀ {es:List Ent} {j:Nat},zlf es b j=some i→∃ A e B,es=A ++ e :: B∧i=j+A.length∧e.2.2=b∧∀ x∈A,x.2.2≠b
 | [],j,h=>by cases h
 | x :: es,j,h=>by
  have h:zk (Nat.beq x.2.2 b) (some j) (zlf es b (Nat.succ j))=some i:=h;rw [zx] at h
  split at h
  ·rename_i hb
   cases h;exact ⟨[],x,es,rfl,rfl,Nat.eq_of_beq_eq_true hb,fun y hy=>by cases hy⟩
  ·rename_i hb
   obtain ⟨A,e,B,h1,h2,h3,h4⟩:=zqh h;refine ⟨x :: A,e,B,by rw [h1];rfl,by rw [h2];simp;omega,h3,fun y hy=>?_⟩
   rcases List.mem_cons.1 hy with rfl | hy
   ·intro e0;exact hb (by rw [e0];exact Nat.beq_refl b)
   ·exact h4 y hy
theorem REs.split {ρ:Rho} {e:Ent} {B:List Ent}:∀ {A:List Ent} {es:List MapEntry},REs ρ (A ++ e :: B) es→∃ A' e' B',es=A' ++ e' :: B'∧REs ρ A A'∧RV ρ e.1 e'.key∧RV ρ e.2.1 e'.val∧e'.born=e.2.2∧REs ρ B B'
 | [],es,⟨e',r,he,h1,h2,h3,h4⟩=>⟨[],e',r,he,rfl,h1,h2,h3,h4⟩
 | x :: A,es,⟨x',r,he,h1,h2,h3,h4⟩=>by
  obtain ⟨A',e',B',k1,k2,k3⟩:=REs.split h4;exact ⟨x' :: A',e',B',by rw [he,k1];rfl,⟨x',A',rfl,h1,h2,h3,k2⟩,k3⟩
theorem REs.born {ρ:Rho}:∀ {l:List Ent} {es:List MapEntry},REs ρ l es→∀ y∈es,∃ x∈l,y.born=x.2.2
 | [],es,h,y,hy=>by rw [show es=[] from h] at hy;cases hy
 | x :: l,es,⟨x',r,he,h1,h2,h3,h4⟩,y,hy=>by
  rw [he] at hy
  rcases List.mem_cons.1 hy with rfl | hy
  ·exact ⟨x,by simp,h3⟩
  ·obtain ⟨z,hz,e⟩:=REs.born h4 y hy
   exact ⟨z,by simp [hz],e⟩
theorem zacy (h:Pre E P T ρ S w tm a) {x:AV} {X:Value} (hx:RV ρ x X) {r:OpR} (hr:zp3 S x=some r):zbf P T ρ S w (Instr.entry X) r:=by
 unfold zp3 at hr;obtain ⟨p,hp,hr⟩:=zd hr;obtain ⟨n,off⟩:=p;rw [zdc hp] at hx;obtain ⟨h0,hr⟩:=zf hr;have h0:off=0:=Nat.eq_of_beq_eq_true h0;subst h0;obtain ⟨o,g1,hr⟩:=zd hr;obtain ⟨q,g2,hr⟩:=zd hr;rw [z5o g2] at g1;obtain ⟨o2,g3,hr⟩:=zd hr;obtain ⟨z,g4,hr⟩:=zd hr;rw [zov g4] at g3;obtain ⟨h1,hr⟩:=zf hr;rw [z1l,Bool.and_eq_true] at h1;obtain ⟨hth,hck⟩:=h1;have hck:=Nat.eq_of_beq_eq_true hck;obtain ⟨i,hi,hr⟩:=zd hr;obtain ⟨h2,hr⟩:=zf hr;have h2:=Nat.eq_of_beq_eq_true h2;obtain ⟨e,he,hr⟩:=zd hr;rw [St.touch_eq,St.touch_eq] at hr;cases hr;refine ⟨(zaf S n).trans (zaf _ _),fun hT _=>?_⟩;have hTn:T n:=hT n (zg.2 (.inl (zg.2 (.inr (zl.2 rfl)))));have hTm:T q.1:=hT q.1 (zg.2 (.inr (zl.2 rfl)));obtain ⟨L,hL,eX⟩:=hx;obtain ⟨L',e1,e2,M,seen,e3,e4⟩:=h.fit.obj n _ hTn g1;rw [hL] at e1;cases e1;obtain ⟨M',k1,ents,k2,k3⟩:=h.fit.obj q.1 _ hTm g3;rw [e3] at k1;cases k1;obtain ⟨A,e',B,b1,b2,b3,b4⟩:=zqh hi;have ei:z.i=A.length:=by rw [← h2,b2];simp
 have ee:e'=e:=by
  rw [zb1,b1,b2] at he;simp at he;exact he
 subst ee;rw [b1,ei,hth,zhq] at k3;have k3:REs ρ (zah M.g 0 A ++ e' :: zah M.g (A.length+1) B) ents.toList:=k3;obtain ⟨A',y,B',c1,c2,c3,c4,c5,c6⟩:=k3.split;have hf:ents.find? (fun x=>x.born == q.2.2)=some y:=by
  rw [← Array.find?_toList,c1,List.find?_append];have:A'.find? (fun x=>x.born == q.2.2)=none:=by
   rw [List.find?_eq_none];intro x hx;obtain ⟨u,hu,e0⟩:=c2.born x hx;simp only [beq_iff_eq];rw [e0];exact b4 u (zhf hu)
  rw [this];simp [c5,b3]
 have s1:=za0 h.fit n;refine ⟨.tuple #[y.key,y.val],w,ρ,?_,s1.trans (za0 s1.fit q.1),⟨_,rfl,_,_,rfl,c3,_,_,rfl,c4,rfl⟩⟩;rw [eX,e2];rw [hck] at k2;simp only [Nat.zero_add,Instr.entry,getObj,Sem.run_bind,Sem.run,e4,k2,Result.andThen,Array.back?_push,bne_self_eq_false,Bool.false_eq_true,if_false,hf];rfl
theorem zacz (h:Pre E P T ρ S w tm a) {ty:Nat} {b:Bool} {x:AV} {X:Value} (hx:RV ρ x X) {r:OpR} (hr:z0x S x b=some r):zbf P T ρ S w (Instr.next X b ty) r:=by
 unfold z0x at hr;cases x with
 | ptr n off =>
  obtain ⟨ho,hr⟩:=zf hr;have ho:=Nat.eq_of_beq_eq_true ho;obtain ⟨o,g1,hr⟩:=zd hr;cases o with
  | striter s pos =>
   obtain ⟨hb,hr⟩:=zf hr;rw [hb];have at_:T n→∃ L,ρ n=some L∧X = .pointer (some ⟨L.b,0,none⟩)∧w.heap[L.b]? = some (.stringIter s pos)∧L.s=0:=fun hT=>by
    obtain ⟨L,hL,eX⟩:=hx;obtain ⟨L',e1,e2,e3⟩:=h.fit.obj n _ hT g1;rw [hL] at e1;cases e1;exact ⟨L,hL,by rw [eX,e2,ho],e3,e2⟩
   rw [zx] at hr
   split at hr
   ·rename_i hlt
    have hlt:pos < s.size:=Nat.le_of_ble_eq_true hlt;rw [zan,St.set_eq] at hr;cases hr;refine ⟨zab S n _ ⟨_,g1⟩,fun hT _=>?_⟩;have hTn:=hT n (zg.2 (.inr (zl.2 rfl)));obtain ⟨L,hL,eX,hh,hs⟩:=at_ hTn;have hsz:=(Array.getElem?_eq_some_iff.1 hh).1;refine ⟨.tuple #[.bool true,goInt pos,.int .i32 (Utf8.decode s pos).1],{ w with heap:=w.heap.setIfInBounds L.b (.stringIter s (pos+(Utf8.decode s pos).2)) },ρ,?_,zlt h.fit hTn g1 hL (by simp) (fun b hb=>by simp [Ne.symm hb]) ⟨hs,by simp [hsz]⟩,⟨_,rfl,_,_,rfl,rfl,_,_,rfl,rfl,_,_,rfl,rfl,rfl⟩⟩;subst eX;simp [Instr.next,getObj,Sem.run,hh,hlt,setObj]
   ·rename_i hlt
    have hlt:¬ pos < s.size:=fun q=>hlt (by rw [Nat.ble_eq];exact q)
    rw [St.touch_eq] at hr;cases hr;refine ⟨zaf S n,fun hT _=>?_⟩;obtain ⟨L,hL,eX,hh,hs⟩:=at_ (hT n (zg.2 (.inr (zl.2 rfl))));refine ⟨.tuple #[.bool false],w,ρ,?_,za0 h.fit n,⟨_,rfl,_,_,rfl,rfl,rfl⟩⟩;subst eX;simp [Instr.next,getObj,Sem.run,hh,hlt]
  | _=>cases hr
 | _=>cases hr
theorem zs5 {args:Array Operand} {x y:Operand} (h:args.toList=[x,y]):args = #[x,y]:=by rw [← Array.toArray_toList (xs:=args),h]
theorem zwc {args:Array Operand} {x:Operand} (h:args.toList=[x]):args = #[x]:=by rw [← Array.toArray_toList (xs:=args),h]
theorem z5p (h:Pre E P T ρ S w tm a) {dst:Option Tmp} {ty:Nat} {pos:String} {after:Array Edge} {guard:Option (Nat × Bool)} {c:Call} {b:Builtin} (hc:c.callee = .builtin b) {r:OpR}
  (hr:zgj E P tm ⟨dst,.call c,ty,pos,after,guard⟩ S b c.argTypes c.args.toList=some r):zb2 P T ρ S w a ⟨dst,.call c,ty,pos,after,guard⟩ r:=by
 obtain ⟨callee,args,ats⟩:=c;simp only at hc hr;subst hc;have ex:∀ (s:Sem Value),(∀ cs,builtin b ats ty cs (args.map a.eval)=(do pure (.value (← s))))→execOp a.eval ⟨dst,.call ⟨.builtin b,args,ats⟩,ty,pos,after,guard⟩=(do pure (.value (← s))):=fun s hs=>by
  simp only [execOp,resolve];exact hs _
 have hat:∀ {t:Nat},nth ats.toList 0=some t→ats[0]? = some t:=fun ht=>by rw [zb1] at ht;simpa using ht
 unfold zgj at hr;cases b with
 | len =>
  simp only at hr;rw [zx] at hr
  split at hr
  ·exact pure_ok h hr
  ·split at hr
   ·rename_i x hx
    have hx:=zwc hx;subst hx;obtain ⟨v,hv,hr⟩:=zd hr;obtain ⟨t,ht,hr⟩:=zd hr;exact (zad9 (ty:=ty) h (hat ht) (zr h hv) hr).op (ex _ fun _=>by simp [builtin])
   ·cases hr
 | append =>
  simp only at hr
  split at hr
  ·rename_i x y hx
   have hx:=zs5 hx;subst hx;obtain ⟨u,hu,hr⟩:=zd hr;obtain ⟨v,hv,hr⟩:=zd hr;have hats:∃ t0 t1,ats.toList=[t0,t1]:=by
    unfold zg9 at hr
    split at hr
    ·exact ⟨_,_,by assumption⟩
    ·cases hr
   obtain ⟨t0,t1,hats⟩:=hats;rw [hats] at hr;have ea:ats = #[t0,t1]:=by rw [← Array.toArray_toList (xs:=ats),hats]
   exact (z7y (t0:=t0) (t1:=t1) (ty:=ty) h (zr h hu) (zr h hv) hr).op (ex _ fun _=>by rw [ea];simp [builtin])
  ·cases hr
 | cap =>
  simp only at hr
  split at hr
  ·rename_i x hx
   have hx:=zwc hx;subst hx;obtain ⟨v,hv,hr⟩:=zd hr;obtain ⟨t,ht,hr⟩:=zd hr;exact (zaea (ty:=ty) h (hat ht) (zr h hv) hr).op (ex _ fun _=>by simp [builtin])
  ·cases hr
 | copy =>
  simp only at hr
  split at hr
  ·rename_i x y hx
   have hx:=zs5 hx;subst hx;obtain ⟨u,hu,hr⟩:=zd hr;obtain ⟨v,hv,hr⟩:=zd hr;have hats:∃ t0 l,ats.toList=t0 :: l:=by
    unfold zle at hr
    split at hr
    ·exact ⟨_,_,by assumption⟩
    ·cases hr
   obtain ⟨t0,l,hats⟩:=hats;exact (zact (ty:=ty) h hats (zr h hu) (zr h hv) hr).op (ex _ fun _=>by simp [builtin])
  ·cases hr
 | clear =>
  simp only at hr
  split at hr
  ·rename_i x hx
   have hx:=zwc hx;subst hx;obtain ⟨v,hv,hr⟩:=zd hr;obtain ⟨t,ht,hr⟩:=zd hr;exact (zaah (ty:=ty) h (hat ht) (zr h hv) hr).op (ex _ fun _=>by simp [builtin])
  ·cases hr
 | delete =>
  simp only at hr
  split at hr
  ·rename_i x y hx
   have hx:=zs5 hx;subst hx;obtain ⟨u,hu,hr⟩:=zd hr;obtain ⟨v,hv,hr⟩:=zd hr;obtain ⟨t,ht,hr⟩:=zd hr;exact (z70 (ty:=ty) h (hat ht) (zr h hu) (zr h hv) hr).op (ex _ fun _=>by simp [builtin])
  ·cases hr
 | _=>exact pure_ok h hr
theorem zac0 (hN:zb7 P) (h:Pre E P T ρ S w tm a) {dst:Option Tmp} {ty:Nat} {pos:String} {after:Array Edge} {guard:Option (Nat × Bool)} {c:Call} {r:OpR}
  (hr:z5f c E P tm ⟨dst,.call c,ty,pos,after,guard⟩ S=some r):zb2 P T ρ S w a ⟨dst,.call c,ty,pos,after,guard⟩ r:=by
 unfold z5f zga at hr;cases hc:c.callee with
 | builtin b =>
  rw [hc] at hr;exact z5p h hc hr
 | invoke x y=>rw [hc] at hr;cases hr
 | value f =>
  rw [hc] at hr;obtain ⟨u,hu,hr⟩:=zd hr;obtain ⟨args,hargs,hr⟩:=zd hr;have ru:=zr h hu;have ra:=zrf h hargs;cases u with
  | fn f' fst cap =>
   cases hr;obtain ⟨as,bs,eX,h1,h2⟩:=ru;refine ⟨rfl,fun ⟨fn,cd,hf,hb⟩=>⟨as ++ c.args.map a.eval ++ bs,?_,?_⟩⟩
   ·have hcall:(callFunc f' (as ++ c.args.map a.eval ++ bs)).run P w = .ok (.enter f' (as ++ c.args.map a.eval ++ bs)) w:=by
     have hn:=hN f' fn hf
     have hnn : ¬ fn.name = "runtime.NumGoroutine" := by simpa using hn
     simp [callFunc,program,Sem.run,hf,hb,hnn]
    simp only [execOp,resolve,hc,eX,Deferred.ofValue];simp only [Sem.run_bind,Sem.run_pure,Result.andThen_ok,invoke];exact hcall
   ·simp only [Array.toList_append,Array.toList_map]
    rw [← List.append_assoc];exact (h1.append ra).append h2
  | yield l =>
   cases hr;obtain ⟨L,hL,eX⟩:=ru;refine ⟨rfl,L,c.args.map a.eval,hL,?_,by simpa using ra⟩;simp only [execOp,resolve,hc,eX,Deferred.ofValue];simp [invoke]
  | _=>cases hr
theorem zi9 (hN:zb7 P) (h:Pre E P T ρ S w tm a) {o:Oper} {r:OpR} (hr:zom E P tm o S=some r):zb2 P T ρ S w a o r:=by
 obtain ⟨dst,op,ty,pos,after,guard⟩:=o;cases op with
 | move x=>exact (z32 h hr).1
 | assign x=>exact (z32 h hr).2
 | pick c x y=>exact zacq h hr
 | alloc e=>exact zaaa h hr
 | box e x=>exact zad8 h hr
 | build t ps=>exact zaad h hr
 | buildSlice t len ps=>exact zyg h hr
 | insert t m k x =>
  have hr:zc5 t m k x E P tm ⟨dst,.insert t m k x,ty,pos,after,guard⟩ S=some r:=hr;unfold zc5 at hr;obtain ⟨u,hu,hr⟩:=zd hr;obtain ⟨v,hv,hr⟩:=zd hr;obtain ⟨z,hz,hr⟩:=zd hr;exact (zxt h (zr h hu) (zr h hv) (zr h hz) hr).op (by simp [execOp])
 | load t x=>exact zaco h hr
 | store t x y=>exact z99 h hr
 | nilCheck x=>exact z2w h hr
 | binOp op t x y yt=>exact zad7 h hr
 | unOp op t x=>exact zafe h hr
 | convert s d x=>exact zacx h hr
 | makeFunc f fs cs=>exact z2x h hr
 | makeMap t x=>exact z5k h hr
 | makeSlice t x y=>exact z1g h hr
 | slice t x lo hi mx=>exact zaae h hr
 | fieldAddr t x f=>exact z1e h hr
 | field t x f=>exact zaab h hr
 | indexAddr t x y=>exact z1f h hr
 | index t x y=>exact zaac h hr
 | lookup t x k ok =>
  have hr:zi5 t x k ok E P tm ⟨dst,.lookup t x k ok,ty,pos,after,guard⟩ S=some r:=hr;unfold zi5 at hr;obtain ⟨u,hu,hr⟩:=zd hr;obtain ⟨v,hv,hr⟩:=zd hr;exact (z7z h (zr h hu) (zr h hv) hr).op (by simp [execOp])
 | mapUpdate t m k x =>
  have hr:zc5 t m k x E P tm ⟨dst,.mapUpdate t m k x,ty,pos,after,guard⟩ S=some r:=hr;unfold zc5 at hr;obtain ⟨u,hu,hr⟩:=zd hr;obtain ⟨v,hv,hr⟩:=zd hr;obtain ⟨z,hz,hr⟩:=zd hr;exact (zxt h (zr h hu) (zr h hv) (zr h hz) hr).op (by simp [execOp])
 | mapEntry t m k =>
  have hr:zlo t m k E P tm ⟨dst,.mapEntry t m k,ty,pos,after,guard⟩ S=some r:=hr;unfold zlo at hr;obtain ⟨u,hu,hr⟩:=zd hr;obtain ⟨v,hv,hr⟩:=zd hr;exact (zaag h (zr h hu) (zr h hv) hr).op (by simp [execOp])
 | entryStore t m s x =>
  have hr:zen t m s x E P tm ⟨dst,.entryStore t m s x,ty,pos,after,guard⟩ S=some r:=hr;unfold zen at hr;obtain ⟨u,hu,hr⟩:=zd hr;obtain ⟨v,hv,hr⟩:=zd hr;obtain ⟨z,hz,hr⟩:=zd hr;exact (zyi (t:=t) h (zr h hu) (zr h hv) (zr h hz) hr).op (by simp [execOp])
 | range t x =>
  have hr:zlp t x E P tm ⟨dst,.range t x,ty,pos,after,guard⟩ S=some r:=hr;unfold zlp at hr;obtain ⟨u,hu,hr⟩:=zd hr;exact (zaak h (zr h hu) hr).op (by simp [execOp])
 | next x b =>
  have hr:zq7 x b E P tm ⟨dst,.next x b,ty,pos,after,guard⟩ S=some r:=hr;unfold zq7 at hr;obtain ⟨u,hu,hr⟩:=zd hr;exact (zacz (ty:=ty) h (zr h hu) hr).op (by simp [execOp])
 | entry x =>
  obtain ⟨u,hu,hr⟩:=zd hr;exact (zacy h (zr h hu) hr).op (by simp [execOp])
 | extract x i=>exact z5j h hr
 | call c=>exact zac0 hN h hr
 | _=>cases hr
end
end Go.Proofs.YtnfdiohfojjnlaaGreat
