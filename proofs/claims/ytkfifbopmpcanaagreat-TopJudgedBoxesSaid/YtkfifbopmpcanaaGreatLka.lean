/-
  Printed by wip/tools/mkparts.py from what wip/tools/ck.py found: quinellalaw01.Works in parts.
-/
import Derived.Test.YtkfifbopmpcanaaGreatLj
set_option maxRecDepth 1000000
set_option maxHeartbeats 0
namespace Go.Proofs.YtkfifbopmpcanaaGreat
theorem zt0:zdu EE Tryz.prog 100000 7 (zat 0 (zad 258)) (⟨.leaf,zbe 258⟩:Tm) st0 zi3 zi4 561=true:=by decide +kernel
end Go.Proofs.YtkfifbopmpcanaaGreat
set_option maxRecDepth 1000000
set_option maxHeartbeats 0
namespace Go.Proofs.YtkfifbopmpcanaaGreat
theorem zt1:zdu EE Tryz.prog 100000 1 (zat 8 (zad 258)) zi5 (ckSt zi6 2628) zi7 zi8 2750=true:=by decide +kernel
end Go.Proofs.YtkfifbopmpcanaaGreat
set_option maxRecDepth 1000000
set_option maxHeartbeats 0
namespace Go.Proofs.YtkfifbopmpcanaaGreat
theorem zt3:zdu EE Tryz.prog 100000 3 (zat 10 (zad 258)) zi9 (ckSt zja 5281) zjb zjc 6346=true:=by decide +kernel
end Go.Proofs.YtkfifbopmpcanaaGreat
set_option maxRecDepth 1000000
set_option maxHeartbeats 0
namespace Go.Proofs.YtkfifbopmpcanaaGreat
theorem zt4:zdu EE Tryz.prog 100000 1 (zat 14 (zad 258)) zjd (ckSt zje 8459) zjf zjg 8748=true:=by decide +kernel
end Go.Proofs.YtkfifbopmpcanaaGreat
