/-
  Printed by wip/tools/mkparts2.py from what wip/tools/ck2.py found: quinellalaw05.Works in parts.
-/
import Derived.Test.YtdamgacabfbpjaaGreatLj
set_option maxRecDepth 1000000
set_option maxHeartbeats 0
namespace Go.Proofs.YtdamgacabfbpjaaGreat
theorem z0o:zdt EE Tryz.prog 100000 8 (zak 85) zob zoc (zc8 zod 1540 0) zoe zof zog 2553 0=true:=by decide +kernel
end Go.Proofs.YtdamgacabfbpjaaGreat
