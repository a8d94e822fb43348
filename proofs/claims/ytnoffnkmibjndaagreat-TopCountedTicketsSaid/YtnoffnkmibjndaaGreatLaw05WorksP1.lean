/-
  Printed by wip/tools/mkparts2.py from what wip/tools/ck2.py found: quinellalaw05.Works in parts.
-/
import Derived.Test.YtnoffnkmibjndaaGreatLj
set_option maxRecDepth 1000000
set_option maxHeartbeats 0
namespace Go.Proofs.YtnoffnkmibjndaaGreat
theorem zz4:zd2 EE Tryz.prog 100000 10 (zaq 28) znz zn0 (zdg zn1 652 0) zn2 zn3 zn4 1540 0=true:=by decide +kernel
end Go.Proofs.YtnoffnkmibjndaaGreat
