/-
  Printed by wip/tools/mkparts.py from what wip/tools/ck.py found: quinellalaw03.Works in parts.
-/
import Derived.Test.YtkfifbopmpcanaaGreatLj
set_option maxRecDepth 1000000
set_option maxHeartbeats 0
namespace Go.Proofs.YtkfifbopmpcanaaGreat
theorem zsf:zm4 EE Tryz.prog 100000 (zat 5 (zad 260)) zjh (ckSt zji 350) 0=true:=by decide +kernel
end Go.Proofs.YtkfifbopmpcanaaGreat
