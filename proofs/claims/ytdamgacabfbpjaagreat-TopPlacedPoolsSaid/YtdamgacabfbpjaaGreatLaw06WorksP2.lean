/-
  Printed by wip/tools/mkparts2.py from what wip/tools/ck2.py found: quinellalaw06.Works in parts.
-/
import Derived.Test.YtdamgacabfbpjaaGreatLj
set_option maxRecDepth 1000000
set_option maxHeartbeats 0
namespace Go.Proofs.YtdamgacabfbpjaaGreat
theorem zub:zb4 EE Tryz.prog 100000 4 (zaa 49) zj6 zj7 (zbt zj8 2841 0) zj9 zka zkb 4531 0=true:=by decide +kernel
end Go.Proofs.YtdamgacabfbpjaaGreat
