/-
  Printed by wip/tools/mkparts2.py from what wip/tools/ck2.py found: quinellalaw02.Works in parts.
-/
import Derived.Test.YtdamgacabfbpjaaGreatLaw02WorksP0
import Derived.Test.YtdamgacabfbpjaaGreatLkc
import Derived.Test.YtdamgacabfbpjaaGreatLaw03WorksP1
import Derived.Test.YtdamgacabfbpjaaGreatLaw05WorksP0
import Derived.Test.YtdamgacabfbpjaaGreatLaw05WorksP1
import Derived.Test.YtdamgacabfbpjaaGreatLaw05WorksP2
import Derived.Test.YtdamgacabfbpjaaGreatLaw05WorksP3
import Derived.Test.YtdamgacabfbpjaaGreatLaw05WorksP4
import Derived.Test.YtdamgacabfbpjaaGreatLkd
import Derived.Test.YtdamgacabfbpjaaGreatLke
import Derived.Test.YtdamgacabfbpjaaGreatLaw06WorksP2
import Derived.Test.YtdamgacabfbpjaaGreatLaw06WorksP4
import Derived.Test.YtdamgacabfbpjaaGreatLaw06WorksP6
import Derived.Test.YtdamgacabfbpjaaGreatLaw07WorksP0
import Derived.Test.YtdamgacabfbpjaaGreatLaw07WorksP1
import Derived.Test.YtdamgacabfbpjaaGreatLaw07WorksP2
import Derived.Test.YtdamgacabfbpjaaGreatLx
import Derived.Test.YtdamgacabfbpjaaGreatBb
set_option maxRecDepth 1000000
set_option maxHeartbeats 0
namespace Go.Proofs.YtdamgacabfbpjaaGreat
theorem zwr:Good Tryz.prog EW (zdr 0) (zak 190) (⟨.leaf,zcy 190⟩:Tm) st0:=zl3 (zjf (by decide +kernel) (zh3 zw zaem zu zahc zya))
theorem zws:Good Tryz.prog EE (zdr 0) (zak 191) (⟨.leaf,zcy 191⟩:Tm) st0:=(zd9 zw zar zu zax z0k (by exact (zrw zw zar zu zax zyc)))
theorem zwt:Good Tryz.prog EE (zdr 0) (zak 133) (⟨.leaf,zcy 133⟩:Tm) st0:=(zd9 zw zar zu zax z0l (by exact (zrw zw zar zu zax zyb)))
theorem zwu:Good Tryz.prog EE (zdr 0) (zak 85) (⟨.leaf,zcy 85⟩:Tm) st0:=zl3 (zjf (by decide +kernel) (zbg zw zar zu zax z0m (zbg zw zar zu zax z0n (zbg zw zar zu zax z0o (zbg zw zar zu zax z0p (zh3 zw zar zu zax zyd))))))
theorem zwv:Good Tryz.prog EE (zdr 0) (zak 49) (⟨.leaf,zcy 49⟩:Tm) st0:=zl3 (zjf (by decide +kernel) (zbg zw zar zu zax z0q (zbg zw zar zu zax z0s (zbg zw zar zu zax z0u (zbg zw zar zu zax z0r (zbg zw zar zu zax z0v (zbg zw zar zu zax z0t (zbg zw zar zu zax z0w (zh3 zw zar zu zax zye)))))))))
theorem zww:Good Tryz.prog EE (zdr 0) (zak 24) (⟨.leaf,zcy 24⟩:Tm) st0:=zl3 (zjf (by decide +kernel) (zbg zw zar zu zax z0x (zbg zw zar zu zax z0y (zh3 zw zar zu zax zyf))))
open Go.RowKit
theorem zahd (w:World):Calls Tryz.prog 189 #[] w fun e W=>e = .returned (.bool true)∧Ext w W:=by
 obtain ⟨e1,e2⟩:=zfm (f:=189) (by decide +kernel) Tryz.func189 rfl;have g:=zwq;rw [e1,e2] at g;exact zf5 zar Tryz.func189 rfl rfl g w
theorem zahe (w:World):Calls Tryz.prog 190 #[] w fun e W=>e = .returned (.bool true)∧Ext w W:=by
 obtain ⟨e1,e2⟩:=zfm (f:=190) (by decide +kernel) Tryz.func190 rfl;have g:=zwr;rw [e1,e2] at g;exact zf5 zaem Tryz.func190 rfl rfl g w
theorem zahf (w:World):Calls Tryz.prog 191 #[] w fun e W=>e = .returned (.bool true)∧Ext w W:=by
 obtain ⟨e1,e2⟩:=zfm (f:=191) (by decide +kernel) Tryz.func191 rfl;have g:=zws;rw [e1,e2] at g;exact zf5 zar Tryz.func191 rfl rfl g w
theorem zahg (w:World):Calls Tryz.prog 133 #[] w fun e W=>e = .returned (.bool true)∧Ext w W:=by
 obtain ⟨e1,e2⟩:=zfm (f:=133) (by decide +kernel) Tryz.func133 rfl;have g:=zwt;rw [e1,e2] at g;exact zf5 zar Tryz.func133 rfl rfl g w
theorem zahh (w:World):Calls Tryz.prog 85 #[] w fun e W=>e = .returned (.bool true)∧Ext w W:=by
 obtain ⟨e1,e2⟩:=zfm (f:=85) (by decide +kernel) Tryz.func85 rfl;have g:=zwu;rw [e1,e2] at g;exact zf5 zar Tryz.func85 rfl rfl g w
theorem zahi (w:World):Calls Tryz.prog 49 #[] w fun e W=>e = .returned (.bool true)∧Ext w W:=by
 obtain ⟨e1,e2⟩:=zfm (f:=49) (by decide +kernel) Tryz.func49 rfl;have g:=zwv;rw [e1,e2] at g;exact zf5 zar Tryz.func49 rfl rfl g w
theorem zahj (w:World):Calls Tryz.prog 24 #[] w fun e W=>e = .returned (.bool true)∧Ext w W:=by
 obtain ⟨e1,e2⟩:=zfm (f:=24) (by decide +kernel) Tryz.func24 rfl;have g:=zww;rw [e1,e2] at g;exact zf5 zar Tryz.func24 rfl rfl g w
theorem z75 (w:World):Calls Tryz.prog 132 #[] w fun e W=>e = .returned (.bool true)∧Ext w W:=by
 go_enter Tryz.func132,Tryz.ntmps132
 go_wp2_with fail;refine (zahd _).mono ?_
 rintro e W1 ⟨rfl,h1⟩;go_wp2_with fail;refine (zahe _).mono ?_
 rintro e W2 ⟨rfl,h2⟩;go_wp2_with fail;refine (zahf _).mono ?_
 rintro e W3 ⟨rfl,h3⟩;go_wp2_with fail;go_ret;exact ⟨rfl,(h1.trans' h2).trans' h3⟩
theorem z76 (w:World):Calls Tryz.prog 84 #[] w fun e W=>e = .returned (.bool true)∧Ext w W:=by
 go_enter Tryz.func84,Tryz.ntmps84
 go_wp2_with fail;refine (z75 _).mono ?_
 rintro e W1 ⟨rfl,h1⟩;go_wp2_with fail;refine (zahg _).mono ?_
 rintro e W2 ⟨rfl,h2⟩;go_wp2_with fail;go_ret;exact ⟨rfl,h1.trans' h2⟩
theorem z77 (w:World):Calls Tryz.prog 48 #[] w fun e W=>e = .returned (.bool true)∧Ext w W:=by
 go_enter Tryz.func48,Tryz.ntmps48
 go_wp2_with fail;refine (z76 _).mono ?_
 rintro e W1 ⟨rfl,h1⟩;go_wp2_with fail;refine (zahh _).mono ?_
 rintro e W2 ⟨rfl,h2⟩;go_wp2_with fail;go_ret;exact ⟨rfl,h1.trans' h2⟩
theorem z78 (w:World):Calls Tryz.prog 23 #[] w fun e W=>e = .returned (.bool true)∧Ext w W:=by
 go_enter Tryz.func23,Tryz.ntmps23
 go_wp2_with fail;refine (z77 _).mono ?_
 rintro e W1 ⟨rfl,h1⟩;go_wp2_with fail;refine (zahi _).mono ?_
 rintro e W2 ⟨rfl,h2⟩;go_wp2_with fail;go_ret;exact ⟨rfl,h1.trans' h2⟩
theorem zeb (w:World):Calls Tryz.prog 6 #[] w fun e W=>e = .returned (.bool true)∧Ext w W:=by
 go_enter Tryz.func6,Tryz.ntmps6
 go_wp2_with fail;refine (z78 _).mono ?_
 rintro e W1 ⟨rfl,h1⟩;go_wp2_with fail;refine (zahj _).mono ?_
 rintro e W2 ⟨rfl,h2⟩;go_wp2_with fail;go_ret;exact ⟨rfl,h1.trans' h2⟩
end Go.Proofs.YtdamgacabfbpjaaGreat
