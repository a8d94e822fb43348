/-
  Printed by wip/tools/mkparts.py from what wip/tools/ck.py found: quinellalaw01.Works in parts.
-/
import Derived.Test.YtkbaiobnibmmgaaGreatLj
set_option maxRecDepth 1000000
set_option maxHeartbeats 0
namespace Go.Proofs.YtkbaiobnibmmgaaGreat
theorem zus:zdy EE Tryz.prog 100000 7 (zay 0 (zae 249)) (⟨.leaf,zbl 249⟩:Tm) st0 zjm zjn 561=true:=by decide +kernel
end Go.Proofs.YtkbaiobnibmmgaaGreat
set_option maxRecDepth 1000000
set_option maxHeartbeats 0
namespace Go.Proofs.YtkbaiobnibmmgaaGreat
theorem zut:zdy EE Tryz.prog 100000 1 (zay 8 (zae 249)) zjo (ckSt zjp 2628) zjq zjr 2750=true:=by decide +kernel
end Go.Proofs.YtkbaiobnibmmgaaGreat
set_option maxRecDepth 1000000
set_option maxHeartbeats 0
namespace Go.Proofs.YtkbaiobnibmmgaaGreat
theorem zuu:zdy EE Tryz.prog 100000 3 (zay 10 (zae 249)) zjs (ckSt zjt 5281) zju zjv 6346=true:=by decide +kernel
end Go.Proofs.YtkbaiobnibmmgaaGreat
set_option maxRecDepth 1000000
set_option maxHeartbeats 0
namespace Go.Proofs.YtkbaiobnibmmgaaGreat
theorem zuv:zdy EE Tryz.prog 100000 1 (zay 14 (zae 249)) zjw (ckSt zjx 8459) zjy zjz 8748=true:=by decide +kernel
end Go.Proofs.YtkbaiobnibmmgaaGreat
