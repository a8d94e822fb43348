/-
  Printed by wip/tools/mkparts2.py from what wip/tools/ck2.py found: quinellalaw05.Works in parts.
-/
import Derived.Test.YtkfifbopmpcanaaGreatLj
set_option maxRecDepth 1000000
set_option maxHeartbeats 0
namespace Go.Proofs.YtkfifbopmpcanaaGreat
theorem zue:zbw EE Tryz.prog 100000 2 (zad 185) zjr zjs (zbl zjt 2553 0) zju zjv zjw 3248 0=true:=by decide +kernel
end Go.Proofs.YtkfifbopmpcanaaGreat
