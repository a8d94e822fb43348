/-
  Printed by wip/tools/mkparts2.py from what wip/tools/ck2.py found: quinellalaw06.Works in parts.
-/
import Derived.Test.YtnoffnkmibjndaaGreatLj
set_option maxRecDepth 1000000
set_option maxHeartbeats 0
namespace Go.Proofs.YtnoffnkmibjndaaGreat
theorem z0c:zd2 EE Tryz.prog 100000 2 (zaq 17) zok zol (zdg zom 5305 0) zon zoo zop 7338 0=true:=by decide +kernel
end Go.Proofs.YtnoffnkmibjndaaGreat
