/-
  Printed by wip/tools/mkparts.py from what wip/tools/ck.py found: lag.Late in parts.
-/
import Derived.Test.YtnoffnkmibjndaaGreatLj
set_option maxRecDepth 1000000
set_option maxHeartbeats 0
namespace Go.Proofs.YtnoffnkmibjndaaGreat
theorem zaal:zp3 EE Tryz.prog 100000 (zbf 2 (zaq 175)) zzk (zdg zzl 6090 6000) 6000 7496 [(4,iN 2),(5,iN 0)]=true:=by decide +kernel
end Go.Proofs.YtnoffnkmibjndaaGreat
