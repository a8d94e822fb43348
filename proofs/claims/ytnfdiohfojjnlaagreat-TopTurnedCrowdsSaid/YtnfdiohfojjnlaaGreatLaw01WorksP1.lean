/-
  Printed by wip/tools/mkparts.py from what wip/tools/ck.py found: quinellalaw01.Works in parts.
-/
import Derived.Test.YtnfdiohfojjnlaaGreatLj
set_option maxRecDepth 1000000
set_option maxHeartbeats 0
namespace Go.Proofs.YtnfdiohfojjnlaaGreat
theorem zyo:zfc EE Tryz.prog 100000 1 (za5 7 (zaa 296)) zl5 (zky zl6 561) zl7 zl8 2628=true:=by decide +kernel
end Go.Proofs.YtnfdiohfojjnlaaGreat
