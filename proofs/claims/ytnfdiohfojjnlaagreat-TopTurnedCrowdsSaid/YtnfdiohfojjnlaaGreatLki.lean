/-
  Printed by wip/tools/mkparts2.py from what wip/tools/ck2.py found: lag.Behind in parts.
-/
import Derived.Test.YtnfdiohfojjnlaaGreatLj
set_option maxRecDepth 1000000
set_option maxHeartbeats 0
namespace Go.Proofs.YtnfdiohfojjnlaaGreat
theorem z8u:zcs EE Tryz.prog 100000 13 (zaa 383) zu3 zu4 (zcf zu5 8091 8000) zu6 zu7 zu8 9326 8000=true:=by decide +kernel
theorem z8v:zcs EE Tryz.prog 100000 13 (zaa 383) zu6 zu7 (zcf zu8 9326 8000) zu9 zva zvb 10603 8000=true:=by decide +kernel
theorem z58:ziw EE Tryz.prog 100000 12 (zaa 383) zu9 zva (zcf zvb 10603 8000) (zrt 8000 11885 [(4,.slo 11884 0 3 1),(5,iN 0)] [(11884,.cells [iN 4,iN 5,iN 7])])=true:=by decide +kernel
end Go.Proofs.YtnfdiohfojjnlaaGreat
