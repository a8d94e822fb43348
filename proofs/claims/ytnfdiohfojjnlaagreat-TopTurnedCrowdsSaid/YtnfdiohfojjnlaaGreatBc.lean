/-
  A region that draws its order, whose last operations, some of them, come behind all others, one behind the other: stores, an entry of a map.
-/
import Derived.Test.YtnfdiohfojjnlaaGreatBa
set_option maxRecDepth 200000
set_option maxHeartbeats 0
namespace Go.Proofs.YtnfdiohfojjnlaaGreat
open Go.RowKit Go.Shelf
def zt2 (md:Region.Mode):List Oper→List Oper→Bool
 | _,[]=>true
 | head,o :: tl=>lastB md head.toArray o && o.guard.isNone && zt2 md (head ++ [o]) tl
section
variable {P:Program} {md:Region.Mode}
theorem zjm {ops:Array Oper} {Q Q':Exit→Act→World→Prop} (h:∀ e a w,Q e a w→Q' e a w):∀ (fuel:Nat) (listed:Array Bool) (a:Act) (w:World),wpAny P md ops Q fuel listed a w→wpAny P md ops Q' fuel listed a w
 | 0,_,_,_,hh=>⟨hh.1,h _ _ _ hh.2⟩
 | fuel+1,listed,a,w,hh=>⟨fun h0=>h _ _ _ (hh.1 h0),fun i hi=>by
   have h2:=hh.2 i hi;unfold wpOp at h2 ⊢
   split at h2
   ·rename_i ho;try simp only [ho]
    exact zjm h fuel _ _ _ h2
   ·rename_i o ho
    try simp only [ho]
    split at h2
    ·rename_i hw
     rw [if_pos hw]
     rcases h2 with h2 | ⟨h2,a2,w2,h3⟩
     ·exact .inl (zso (fun e a w _ hq=>h e a w hq) (Oper.wp_mono (fun a w=>zjm h fuel _ a w) h2))
     ·exact .inr ⟨h2,a2,w2,h _ _ _ h3⟩
    ·rename_i hw;rw [if_neg hw];exact zjm h fuel _ _ _ h2⟩
theorem zr1 {ops:Array Oper} {Q:Exit→Act→World→Prop} {a:Act} {w:World}:∀ (tl head:List Oper),zt2 md head tl=true →
  wpAny P md head.toArray (Exit.then (fun a w=>wpList P ops Q tl a w) Q) head.length (Array.replicate head.length false) a w→wpAny P md (head ++ tl).toArray Q (head ++ tl).length (Array.replicate (head ++ tl).length false) a w
 | [],head,_,h=>by
  rw [List.append_nil];refine zjm (fun e a w hq=>?_) _ _ _ _ h;cases e<;>exact hq
 | o :: tl,head,hB,h=>by
  simp only [zt2,Bool.and_eq_true] at hB;obtain ⟨⟨h1,h2⟩,h3⟩:=hB;have e:head ++ o :: tl=(head ++ [o]) ++ tl:=by simp
  rw [e];refine zr1 (ops:=ops) tl (head ++ [o]) h3 ?_
  have e1:(head ++ [o]).toArray=head.toArray.push o:=by simp
  have e2:Array.replicate (head ++ [o]).length false=(Array.replicate head.length false).push false:=by rw [List.length_append];exact Array.replicate_succ
  rw [e1,e2,List.length_append];refine zti h1 _ _ _ _ (by simp) (fun j oj _ hl=>by rw [zbc] at hl;cases hl) ?_
  refine zjm (fun e a w hq=>?_) _ _ _ _ h;have hg:o.guard=none:=by simpa using h2
  have hmq:∀ e a w,e≠Exit.normal→Q e a w→Exit.then (fun a w=>wpList P ops Q tl a w) Q e a w:=fun e a w hne hq=>by cases e<;>first | exact absurd rfl hne | exact hq
  cases e with
  | normal =>
   show wpOp P (head.toArray.push o) _ head.toArray.size _ a w;have hq:wpList P ops Q (o :: tl) a w:=hq;unfold wpList at hq;unfold wpOp;have hi:(head.toArray.push o)[head.toArray.size]? = some o:=by simp
   rw [hi];have hw:∀ y,Region.wanted o y=true:=fun y=>by simp [Region.wanted,hg]
   simp only [hw,if_true] at hq ⊢
   rcases hq with hq | ⟨hq,a2,w2,h4⟩
   ·exact .inl (zso (fun e a w hne hq=>hmq e a w hne hq) hq)
   ·exact .inr ⟨hq,a2,w2,hmq _ _ _ (by simp) h4⟩
  | _=>exact hq
end
end Go.Proofs.YtnfdiohfojjnlaaGreat
