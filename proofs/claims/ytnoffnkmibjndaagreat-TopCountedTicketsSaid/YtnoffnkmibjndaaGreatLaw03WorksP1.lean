/-
  Printed by wip/tools/mkparts.py from what wip/tools/ck.py found: quinellalaw03.Works in parts.
-/
import Derived.Test.YtnoffnkmibjndaaGreatLj
set_option maxRecDepth 1000000
set_option maxHeartbeats 0
namespace Go.Proofs.YtnoffnkmibjndaaGreat
theorem zx8:zrp EE Tryz.prog 100000 (zbf 5 (zaq 98)) znv (zmc znw 350) 0=true:=by decide +kernel
end Go.Proofs.YtnoffnkmibjndaaGreat
