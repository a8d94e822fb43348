/-
  Printed by wip/tools/mkparts2.py from what wip/tools/ck2.py found: quinellalaw06.Works in parts.
-/
import Derived.Test.YtnoffnkmibjndaaGreatLj
set_option maxRecDepth 1000000
set_option maxHeartbeats 0
namespace Go.Proofs.YtnoffnkmibjndaaGreat
theorem zz9:zd2 EE Tryz.prog 100000 4 (zaq 17) zob zoc (zdg zod 1205 0) zoe zof zog 2841 0=true:=by decide +kernel
theorem z0a:zd2 EE Tryz.prog 100000 2 (zaq 17) zon zoo (zdg zop 7338 0) zoq zor zos 8485 0=true:=by decide +kernel
end Go.Proofs.YtnoffnkmibjndaaGreat
