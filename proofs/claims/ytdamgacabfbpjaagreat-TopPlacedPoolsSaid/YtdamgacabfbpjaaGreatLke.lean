/-
  Printed by wip/tools/mkparts2.py from what wip/tools/ck2.py found: quinellalaw06.Works in parts.
-/
import Derived.Test.YtdamgacabfbpjaaGreatLj
set_option maxRecDepth 1000000
set_option maxHeartbeats 0
namespace Go.Proofs.YtdamgacabfbpjaaGreat
theorem zt9:zb4 EE Tryz.prog 100000 4 (zaa 49) zj3 zj4 (zbt zj5 1205 0) zj6 zj7 zj8 2841 0=true:=by decide +kernel
end Go.Proofs.YtdamgacabfbpjaaGreat
set_option maxRecDepth 1000000
set_option maxHeartbeats 0
namespace Go.Proofs.YtdamgacabfbpjaaGreat
theorem zua:zb4 EE Tryz.prog 100000 2 (zaa 49) zkf zkg (zbt zkh 7338 0) zki zkj zkk 8485 0=true:=by decide +kernel
end Go.Proofs.YtdamgacabfbpjaaGreat
