/-
  Printed by wip/tools/mkparts2.py from what wip/tools/ck2.py found: quinellalaw06.Works in parts.
-/
import Derived.Test.YtkfifbopmpcanaaGreatLj
set_option maxRecDepth 1000000
set_option maxHeartbeats 0
namespace Go.Proofs.YtkfifbopmpcanaaGreat
theorem zuh:zbw EE Tryz.prog 100000 4 (zad 131) zjx zjy (zbl zjz 1205 0) zj0 zj1 zj2 2841 0=true:=by decide +kernel
end Go.Proofs.YtkfifbopmpcanaaGreat
set_option maxRecDepth 1000000
set_option maxHeartbeats 0
namespace Go.Proofs.YtkfifbopmpcanaaGreat
theorem zui:zbw EE Tryz.prog 100000 2 (zad 131) zj9 zka (zbl zkb 7338 0) zkc zkd zke 8485 0=true:=by decide +kernel
end Go.Proofs.YtkfifbopmpcanaaGreat
