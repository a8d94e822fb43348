/-
  Printed by wip/tools/mkparts2.py from what wip/tools/ck2.py found: quinellalaw05.Works in parts.
-/
import Derived.Test.YtdamgacabfbpjaaGreatLj
set_option maxRecDepth 1000000
set_option maxHeartbeats 0
namespace Go.Proofs.YtdamgacabfbpjaaGreat
theorem z0p:zdt EE Tryz.prog 100000 2 (zak 85) zoe zof (zc8 zog 2553 0) zoh zoi zoj 3248 0=true:=by decide +kernel
end Go.Proofs.YtdamgacabfbpjaaGreat
