/-
  Printed by wip/tools/mkparts.py from what wip/tools/ck.py found: quinellalaw01.Works in parts.
-/
import Derived.Test.YtnfdiohfojjnlaaGreatLj
set_option maxRecDepth 1000000
set_option maxHeartbeats 0
namespace Go.Proofs.YtnfdiohfojjnlaaGreat
theorem zyp:zfc EE Tryz.prog 100000 1 (za5 9 (zaa 296)) zl9 (zky zma 2750) zmb zmc 5281=true:=by decide +kernel
end Go.Proofs.YtnfdiohfojjnlaaGreat
