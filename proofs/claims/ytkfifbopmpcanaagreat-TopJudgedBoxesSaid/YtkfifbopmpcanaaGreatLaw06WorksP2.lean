/-
  Printed by wip/tools/mkparts2.py from what wip/tools/ck2.py found: quinellalaw06.Works in parts.
-/
import Derived.Test.YtkfifbopmpcanaaGreatLj
set_option maxRecDepth 1000000
set_option maxHeartbeats 0
namespace Go.Proofs.YtkfifbopmpcanaaGreat
theorem zuj:zbw EE Tryz.prog 100000 4 (zad 131) zj0 zj1 (zbl zj2 2841 0) zj3 zj4 zj5 4531 0=true:=by decide +kernel
end Go.Proofs.YtkfifbopmpcanaaGreat
