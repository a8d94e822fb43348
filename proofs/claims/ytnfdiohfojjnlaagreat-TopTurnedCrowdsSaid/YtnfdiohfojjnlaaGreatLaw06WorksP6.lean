/-
  Printed by wip/tools/mkparts2.py from what wip/tools/ck2.py found: quinellalaw06.Works in parts.
-/
import Derived.Test.YtnfdiohfojjnlaaGreatLj
set_option maxRecDepth 1000000
set_option maxHeartbeats 0
namespace Go.Proofs.YtnfdiohfojjnlaaGreat
theorem zy4:zcs EE Tryz.prog 100000 11 (zaa 137) zne znf (zcf zng 8485 0) znh zni znj 10142 0=true:=by decide +kernel
end Go.Proofs.YtnfdiohfojjnlaaGreat
