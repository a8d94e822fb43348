/-
  Printed by wip/tools/mkparts2.py from what wip/tools/ck2.py found: quinellalaw05.Works in parts.
-/
import Derived.Test.YtkfifbopmpcanaaGreatLj
set_option maxRecDepth 1000000
set_option maxHeartbeats 0
namespace Go.Proofs.YtkfifbopmpcanaaGreat
theorem zsg:zh1 EE Tryz.prog 100000 11 (zad 185) zju zjv (zbl zjw 3248 0) (zcl 0)=true:=by decide +kernel
end Go.Proofs.YtkfifbopmpcanaaGreat
