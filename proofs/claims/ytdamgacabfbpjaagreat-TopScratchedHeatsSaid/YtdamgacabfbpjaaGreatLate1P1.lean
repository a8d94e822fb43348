/-
  Printed by wip/tools/mkparts.py from what wip/tools/ck.py found: lag.Late in parts.
-/
import Derived.Test.YtdamgacabfbpjaaGreatLj
set_option maxRecDepth 1000000
set_option maxHeartbeats 0
namespace Go.Proofs.YtdamgacabfbpjaaGreat
theorem zaas:zp4 EE Tryz.prog 100000 (zbh 2 (zak 279)) zzj (zc8 zzk 6090 6000) 6000 7496 [(4,iN 2),(5,iN 0)]=true:=by decide +kernel
end Go.Proofs.YtdamgacabfbpjaaGreat
