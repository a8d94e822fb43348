/-
  Printed by wip/tools/mkparts2.py from what wip/tools/ck2.py found: quinellalaw06.Works in parts.
-/
import Derived.Test.YtkfifbopmpcanaaGreatLj
set_option maxRecDepth 1000000
set_option maxHeartbeats 0
namespace Go.Proofs.YtkfifbopmpcanaaGreat
theorem zuf:zbw EE Tryz.prog 100000 15 (zad 131) [.c []] (⟨.leaf,zbe 131⟩:Tm) st0 zjx zjy zjz 1205 0=true:=by decide +kernel
end Go.Proofs.YtkfifbopmpcanaaGreat
set_option maxRecDepth 1000000
set_option maxHeartbeats 0
namespace Go.Proofs.YtkfifbopmpcanaaGreat
theorem zug:zbw EE Tryz.prog 100000 2 (zad 131) zj3 zj4 (zbl zj5 4531 0) zj6 zj7 zj8 5305 0=true:=by decide +kernel
end Go.Proofs.YtkfifbopmpcanaaGreat
set_option maxRecDepth 1000000
set_option maxHeartbeats 0
namespace Go.Proofs.YtkfifbopmpcanaaGreat
theorem zsh:zh1 EE Tryz.prog 100000 4 (zad 131) zkf zkg (zbl zkh 10142 0) (zcl 0)=true:=by decide +kernel
end Go.Proofs.YtkfifbopmpcanaaGreat
