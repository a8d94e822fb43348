/-
  Printed by wip/tools/mkparts.py from what wip/tools/ck.py found: quinellalaw03.Works in parts.
-/
import Derived.Test.YtnfdiohfojjnlaaGreatLj
set_option maxRecDepth 1000000
set_option maxHeartbeats 0
namespace Go.Proofs.YtnfdiohfojjnlaaGreat
theorem zwu:zqp EE Tryz.prog 100000 (za5 5 (zaa 298)) zmj (zky zmk 350) 0=true:=by decide +kernel
end Go.Proofs.YtnfdiohfojjnlaaGreat
