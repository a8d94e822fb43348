/-
  Printed by wip/tools/mkparts2.py from what wip/tools/ck2.py found: quinellalaw05.Works in parts.
-/
import Derived.Test.YtdamgacabfbpjaaGreatLj
set_option maxRecDepth 1000000
set_option maxHeartbeats 0
namespace Go.Proofs.YtdamgacabfbpjaaGreat
theorem z0n:zdt EE Tryz.prog 100000 10 (zak 85) zn8 zn9 (zc8 zoa 652 0) zob zoc zod 1540 0=true:=by decide +kernel
end Go.Proofs.YtdamgacabfbpjaaGreat
