/-
  Printed by wip/tools/mkparts.py from what wip/tools/ck.py found: lag.Wait in parts.
-/
import Derived.Test.YtnoffnkmibjndaaGreatLj
set_option maxRecDepth 1000000
set_option maxHeartbeats 0
namespace Go.Proofs.YtnoffnkmibjndaaGreat
theorem zaaj:zp3 EE Tryz.prog 100000 (zbf 2 (zaq 174)) zzi (zdg zzj 4469 4000) 4000 5695 [(4,iN 4),(5,iN 0)]=true:=by decide +kernel
end Go.Proofs.YtnoffnkmibjndaaGreat
