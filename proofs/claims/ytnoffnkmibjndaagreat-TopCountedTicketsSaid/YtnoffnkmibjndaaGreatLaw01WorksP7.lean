/-
  Printed by wip/tools/mkparts.py from what wip/tools/ck.py found: quinellalaw01.Works in parts.
-/
import Derived.Test.YtnoffnkmibjndaaGreatLj
set_option maxRecDepth 1000000
set_option maxHeartbeats 0
namespace Go.Proofs.YtnoffnkmibjndaaGreat
theorem zx5:zrp EE Tryz.prog 100000 (zbf 15 (zaq 96)) znt (zmc znu 8748) 0=true:=by decide +kernel
end Go.Proofs.YtnoffnkmibjndaaGreat
