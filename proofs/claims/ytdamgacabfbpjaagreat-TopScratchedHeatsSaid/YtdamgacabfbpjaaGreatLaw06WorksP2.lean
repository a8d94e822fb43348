/-
  Printed by wip/tools/mkparts2.py from what wip/tools/ck2.py found: quinellalaw06.Works in parts.
-/
import Derived.Test.YtdamgacabfbpjaaGreatLj
set_option maxRecDepth 1000000
set_option maxHeartbeats 0
namespace Go.Proofs.YtdamgacabfbpjaaGreat
theorem z0u:zdt EE Tryz.prog 100000 4 (zak 49) zon zoo (zc8 zop 2841 0) zoq zor zos 4531 0=true:=by decide +kernel
end Go.Proofs.YtdamgacabfbpjaaGreat
