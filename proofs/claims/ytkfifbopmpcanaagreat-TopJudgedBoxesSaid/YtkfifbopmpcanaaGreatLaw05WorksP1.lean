/-
  Printed by wip/tools/mkparts2.py from what wip/tools/ck2.py found: quinellalaw05.Works in parts.
-/
import Derived.Test.YtkfifbopmpcanaaGreatLj
set_option maxRecDepth 1000000
set_option maxHeartbeats 0
namespace Go.Proofs.YtkfifbopmpcanaaGreat
theorem zuc:zbw EE Tryz.prog 100000 10 (zad 185) zjl zjm (zbl zjn 652 0) zjo zjp zjq 1540 0=true:=by decide +kernel
end Go.Proofs.YtkfifbopmpcanaaGreat
