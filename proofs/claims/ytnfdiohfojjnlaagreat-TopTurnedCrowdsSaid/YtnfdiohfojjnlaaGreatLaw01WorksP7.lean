/-
  Printed by wip/tools/mkparts.py from what wip/tools/ck.py found: quinellalaw01.Works in parts.
-/
import Derived.Test.YtnfdiohfojjnlaaGreatLj
set_option maxRecDepth 1000000
set_option maxHeartbeats 0
namespace Go.Proofs.YtnfdiohfojjnlaaGreat
theorem zwp:zqp EE Tryz.prog 100000 (za5 15 (zaa 296)) zmh (zky zmi 8748) 0=true:=by decide +kernel
end Go.Proofs.YtnfdiohfojjnlaaGreat
