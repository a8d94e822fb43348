/-
  Printed by wip/tools/mkparts2.py from what wip/tools/ck2.py found: quinellalaw06.Works in parts.
-/
import Derived.Test.YtdamgacabfbpjaaGreatLj
set_option maxRecDepth 1000000
set_option maxHeartbeats 0
namespace Go.Proofs.YtdamgacabfbpjaaGreat
theorem z0v:zdt EE Tryz.prog 100000 2 (zak 49) zot zou (zc8 zov 5305 0) zow zox zoy 7338 0=true:=by decide +kernel
end Go.Proofs.YtdamgacabfbpjaaGreat
