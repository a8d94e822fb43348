/-
  Printed by wip/tools/mkparts2.py from what wip/tools/ck2.py found: lag.Behind in parts.
-/
import Derived.Test.YtdamgacabfbpjaaGreatLj
set_option maxRecDepth 1000000
set_option maxHeartbeats 0
namespace Go.Proofs.YtdamgacabfbpjaaGreat
theorem zaau:zdt EE Tryz.prog 100000 13 (zak 280) zwk zwl (zc8 zwm 9326 8000) zwn zwo zwp 10603 8000=true:=by decide +kernel
end Go.Proofs.YtdamgacabfbpjaaGreat
