/-
  Printed by wip/tools/mkparts2.py from what wip/tools/ck2.py found: quinellalaw06.Works in parts.
-/
import Derived.Test.YtnoffnkmibjndaaGreatLj
set_option maxRecDepth 1000000
set_option maxHeartbeats 0
namespace Go.Proofs.YtnoffnkmibjndaaGreat
theorem z0d:zd2 EE Tryz.prog 100000 11 (zaq 17) zoq zor (zdg zos 8485 0) zot zou zov 10142 0=true:=by decide +kernel
end Go.Proofs.YtnoffnkmibjndaaGreat
