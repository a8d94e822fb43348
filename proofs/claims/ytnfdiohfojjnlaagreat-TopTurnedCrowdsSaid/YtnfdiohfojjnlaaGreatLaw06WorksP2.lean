/-
  Printed by wip/tools/mkparts2.py from what wip/tools/ck2.py found: quinellalaw06.Works in parts.
-/
import Derived.Test.YtnfdiohfojjnlaaGreatLj
set_option maxRecDepth 1000000
set_option maxHeartbeats 0
namespace Go.Proofs.YtnfdiohfojjnlaaGreat
theorem zy2:zcs EE Tryz.prog 100000 4 (zaa 137) zm2 zm3 (zcf zm4 2841 0) zm5 zm6 zm7 4531 0=true:=by decide +kernel
end Go.Proofs.YtnfdiohfojjnlaaGreat
