/-
  Printed by wip/tools/mkparts.py from what wip/tools/ck.py found: lag.Wait in parts.
-/
import Derived.Test.YtnfdiohfojjnlaaGreatLj
set_option maxRecDepth 1000000
set_option maxHeartbeats 0
namespace Go.Proofs.YtnfdiohfojjnlaaGreat
theorem z8r:zo3 EE Tryz.prog 100000 (za5 2 (zaa 382)) zx8 (zcf zx9 4469 4000) 4000 5695 [(4,iN 4),(5,iN 0)]=true:=by decide +kernel
end Go.Proofs.YtnfdiohfojjnlaaGreat
