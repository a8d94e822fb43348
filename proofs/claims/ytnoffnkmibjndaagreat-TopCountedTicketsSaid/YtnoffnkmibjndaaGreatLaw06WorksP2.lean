/-
  Printed by wip/tools/mkparts2.py from what wip/tools/ck2.py found: quinellalaw06.Works in parts.
-/
import Derived.Test.YtnoffnkmibjndaaGreatLj
set_option maxRecDepth 1000000
set_option maxHeartbeats 0
namespace Go.Proofs.YtnoffnkmibjndaaGreat
theorem z0b:zd2 EE Tryz.prog 100000 4 (zaq 17) zoe zof (zdg zog 2841 0) zoh zoi zoj 4531 0=true:=by decide +kernel
end Go.Proofs.YtnoffnkmibjndaaGreat
