/-
  Printed by wip/tools/mkparts.py from what wip/tools/ck.py found: quinellalaw01.Works in parts.
-/
import Derived.Test.YtnoffnkmibjndaaGreatLj
set_option maxRecDepth 1000000
set_option maxHeartbeats 0
namespace Go.Proofs.YtnoffnkmibjndaaGreat
theorem zzy:zfp EE Tryz.prog 100000 1 (zbf 7 (zaq 96)) znh (zmc zni 561) znj znk 2628=true:=by decide +kernel
end Go.Proofs.YtnoffnkmibjndaaGreat
