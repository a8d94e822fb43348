/-
  Printed by wip/tools/mkparts.py from what wip/tools/ck.py found: quinellalaw01.Works in parts.
-/
import Derived.Test.YtnfdiohfojjnlaaGreatLj
set_option maxRecDepth 1000000
set_option maxHeartbeats 0
namespace Go.Proofs.YtnfdiohfojjnlaaGreat
theorem zyk:zfc EE Tryz.prog 100000 7 (za5 0 (zaa 296)) (⟨.leaf,zbm 296⟩:Tm) st0 zl5 zl6 561=true:=by decide +kernel
theorem zyl:zfc EE Tryz.prog 100000 1 (za5 8 (zaa 296)) zl7 (zky zl8 2628) zl9 zma 2750=true:=by decide +kernel
theorem zym:zfc EE Tryz.prog 100000 3 (za5 10 (zaa 296)) zmb (zky zmc 5281) zmd zme 6346=true:=by decide +kernel
theorem zyn:zfc EE Tryz.prog 100000 1 (za5 14 (zaa 296)) zmf (zky zmg 8459) zmh zmi 8748=true:=by decide +kernel
end Go.Proofs.YtnfdiohfojjnlaaGreat
