/-
  Printed by wip/tools/mkparts.py from what wip/tools/ck.py found: quinellalaw01.Works in parts.
-/
import Derived.Test.YtnoffnkmibjndaaGreatLj
set_option maxRecDepth 1000000
set_option maxHeartbeats 0
namespace Go.Proofs.YtnoffnkmibjndaaGreat
theorem zzz:zfp EE Tryz.prog 100000 1 (zbf 9 (zaq 96)) znl (zmc znm 2750) znn zno 5281=true:=by decide +kernel
end Go.Proofs.YtnoffnkmibjndaaGreat
