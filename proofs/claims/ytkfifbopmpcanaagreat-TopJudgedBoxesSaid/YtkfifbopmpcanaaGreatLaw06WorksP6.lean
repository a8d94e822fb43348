/-
  Printed by wip/tools/mkparts2.py from what wip/tools/ck2.py found: quinellalaw06.Works in parts.
-/
import Derived.Test.YtkfifbopmpcanaaGreatLj
set_option maxRecDepth 1000000
set_option maxHeartbeats 0
namespace Go.Proofs.YtkfifbopmpcanaaGreat
theorem zul:zbw EE Tryz.prog 100000 11 (zad 131) zkc zkd (zbl zke 8485 0) zkf zkg zkh 10142 0=true:=by decide +kernel
end Go.Proofs.YtkfifbopmpcanaaGreat
