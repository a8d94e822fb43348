/-
  Printed by wip/tools/mkparts.py from what wip/tools/ck.py found: quinellalaw01.Works in parts.
-/
import Derived.Test.YtnoffnkmibjndaaGreatLj
set_option maxRecDepth 1000000
set_option maxHeartbeats 0
namespace Go.Proofs.YtnoffnkmibjndaaGreat
theorem zz0:zfp EE Tryz.prog 100000 1 (zbf 13 (zaq 96)) znp (zmc znq 6346) znr zns 8459=true:=by decide +kernel
end Go.Proofs.YtnoffnkmibjndaaGreat
