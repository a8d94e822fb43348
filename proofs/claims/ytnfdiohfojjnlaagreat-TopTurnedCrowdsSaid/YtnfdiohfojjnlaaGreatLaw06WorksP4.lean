/-
  Printed by wip/tools/mkparts2.py from what wip/tools/ck2.py found: quinellalaw06.Works in parts.
-/
import Derived.Test.YtnfdiohfojjnlaaGreatLj
set_option maxRecDepth 1000000
set_option maxHeartbeats 0
namespace Go.Proofs.YtnfdiohfojjnlaaGreat
theorem zy3:zcs EE Tryz.prog 100000 2 (zaa 137) zm8 zm9 (zcf zna 5305 0) znb znc znd 7338 0=true:=by decide +kernel
end Go.Proofs.YtnfdiohfojjnlaaGreat
