/-
  Printed by wip/tools/mkparts2.py from what wip/tools/ck2.py found: quinellalaw06.Works in parts.
-/
import Derived.Test.YtkfifbopmpcanaaGreatLj
set_option maxRecDepth 1000000
set_option maxHeartbeats 0
namespace Go.Proofs.YtkfifbopmpcanaaGreat
theorem zuk:zbw EE Tryz.prog 100000 2 (zad 131) zj6 zj7 (zbl zj8 5305 0) zj9 zka zkb 7338 0=true:=by decide +kernel
end Go.Proofs.YtkfifbopmpcanaaGreat
