/-
  Printed by wip/tools/mkparts2.py from what wip/tools/ck2.py found: lag.Behind in parts.
-/
import Derived.Test.YtnoffnkmibjndaaGreatLj
set_option maxRecDepth 1000000
set_option maxHeartbeats 0
namespace Go.Proofs.YtnoffnkmibjndaaGreat
theorem z7p:zsz EE Tryz.prog 100000 12 (zaq 176) zwp zwq (zdg zwr 10603 8000) (zs0 8000 11885 [(4,.slo 11884 0 3 1),(5,iN 0)] [(11884,.cells [iN 4,iN 5,iN 7])])=true:=by decide +kernel
end Go.Proofs.YtnoffnkmibjndaaGreat
