/-
  Printed by wip/tools/mkparts2.py from what wip/tools/ck2.py found: quinellalaw05.Works in parts.
-/
import Derived.Test.YtnoffnkmibjndaaGreatLj
set_option maxRecDepth 1000000
set_option maxHeartbeats 0
namespace Go.Proofs.YtnoffnkmibjndaaGreat
theorem zx9:zsz EE Tryz.prog 100000 11 (zaq 28) zn8 zn9 (zdg zoa 3248 0) (zfq 0)=true:=by decide +kernel
end Go.Proofs.YtnoffnkmibjndaaGreat
