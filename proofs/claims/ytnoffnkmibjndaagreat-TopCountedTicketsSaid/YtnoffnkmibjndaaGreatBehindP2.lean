/-
  Printed by wip/tools/mkparts2.py from what wip/tools/ck2.py found: lag.Behind in parts.
-/
import Derived.Test.YtnoffnkmibjndaaGreatLj
set_option maxRecDepth 1000000
set_option maxHeartbeats 0
namespace Go.Proofs.YtnoffnkmibjndaaGreat
theorem zaan:zd2 EE Tryz.prog 100000 13 (zaq 176) zwm zwn (zdg zwo 9326 8000) zwp zwq zwr 10603 8000=true:=by decide +kernel
end Go.Proofs.YtnoffnkmibjndaaGreat
