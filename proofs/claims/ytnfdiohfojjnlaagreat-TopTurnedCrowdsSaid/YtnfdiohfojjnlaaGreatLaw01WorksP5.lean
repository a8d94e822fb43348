/-
  Printed by wip/tools/mkparts.py from what wip/tools/ck.py found: quinellalaw01.Works in parts.
-/
import Derived.Test.YtnfdiohfojjnlaaGreatLj
set_option maxRecDepth 1000000
set_option maxHeartbeats 0
namespace Go.Proofs.YtnfdiohfojjnlaaGreat
theorem zyq:zfc EE Tryz.prog 100000 1 (za5 13 (zaa 296)) zmd (zky zme 6346) zmf zmg 8459=true:=by decide +kernel
end Go.Proofs.YtnfdiohfojjnlaaGreat
