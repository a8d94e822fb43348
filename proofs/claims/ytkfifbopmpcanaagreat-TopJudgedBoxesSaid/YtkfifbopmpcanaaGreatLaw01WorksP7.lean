/-
  Printed by wip/tools/mkparts.py from what wip/tools/ck.py found: quinellalaw01.Works in parts.
-/
import Derived.Test.YtkfifbopmpcanaaGreatLj
set_option maxRecDepth 1000000
set_option maxHeartbeats 0
namespace Go.Proofs.YtkfifbopmpcanaaGreat
theorem zsb:zm4 EE Tryz.prog 100000 (zat 15 (zad 258)) zjf (ckSt zjg 8748) 0=true:=by decide +kernel
end Go.Proofs.YtkfifbopmpcanaaGreat
