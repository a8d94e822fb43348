/-
  Printed by wip/tools/mkparts2.py from what wip/tools/ck2.py found: quinellalaw05.Works in parts.
-/
import Derived.Test.YtnoffnkmibjndaaGreatLj
set_option maxRecDepth 1000000
set_option maxHeartbeats 0
namespace Go.Proofs.YtnoffnkmibjndaaGreat
theorem zz6:zd2 EE Tryz.prog 100000 2 (zaq 28) zn5 zn6 (zdg zn7 2553 0) zn8 zn9 zoa 3248 0=true:=by decide +kernel
end Go.Proofs.YtnoffnkmibjndaaGreat
