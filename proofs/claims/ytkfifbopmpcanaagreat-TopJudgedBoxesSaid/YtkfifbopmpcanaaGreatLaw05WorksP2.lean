/-
  Printed by wip/tools/mkparts2.py from what wip/tools/ck2.py found: quinellalaw05.Works in parts.
-/
import Derived.Test.YtkfifbopmpcanaaGreatLj
set_option maxRecDepth 1000000
set_option maxHeartbeats 0
namespace Go.Proofs.YtkfifbopmpcanaaGreat
theorem zud:zbw EE Tryz.prog 100000 8 (zad 185) zjo zjp (zbl zjq 1540 0) zjr zjs zjt 2553 0=true:=by decide +kernel
end Go.Proofs.YtkfifbopmpcanaaGreat
