/-
  Printed by wip/tools/mkparts2.py from what wip/tools/ck2.py found: quinellalaw02.Works in parts.
-/
import Derived.Test.YtdamgacabfbpjaaGreatLaw02WorksP0
import Derived.Test.YtdamgacabfbpjaaGreatLkc
import Derived.Test.YtdamgacabfbpjaaGreatLaw03WorksP1
import Derived.Test.YtdamgacabfbpjaaGreatLaw05WorksP0
import Derived.Test.YtdamgacabfbpjaaGreatLaw05WorksP1
import Derived.Test.YtdamgacabfbpjaaGreatLaw05WorksP2
import Derived.Test.YtdamgacabfbpjaaGreatLaw05WorksP3
import Derived.Test.YtdamgacabfbpjaaGreatLaw05WorksP4
import Derived.Test.YtdamgacabfbpjaaGreatLkd
import Derived.Test.YtdamgacabfbpjaaGreatLke
import Derived.Test.YtdamgacabfbpjaaGreatLaw06WorksP2
import Derived.Test.YtdamgacabfbpjaaGreatLaw06WorksP4
import Derived.Test.YtdamgacabfbpjaaGreatLaw06WorksP6
import Derived.Test.YtdamgacabfbpjaaGreatLaw07WorksP0
import Derived.Test.YtdamgacabfbpjaaGreatLaw07WorksP1
import Derived.Test.YtdamgacabfbpjaaGreatLaw07WorksP2
import Derived.Test.YtdamgacabfbpjaaGreatLx
import Derived.Test.YtdamgacabfbpjaaGreatBb
set_option maxRecDepth 1000000
set_option maxHeartbeats 0
namespace Go.Proofs.YtdamgacabfbpjaaGreat
theorem zqy:Good Tryz.prog EW (EndsTrue 0) (zaa 190) (⟨.leaf,zbi 190⟩:Tm) st0:=zhz (zfy (by decide +kernel) (ze4 zo z5v zn z8d zr3))
end Go.Proofs.YtdamgacabfbpjaaGreat
set_option maxRecDepth 1000000
set_option maxHeartbeats 0
namespace Go.Proofs.YtdamgacabfbpjaaGreat
theorem zqz:Good Tryz.prog EE (EndsTrue 0) (zaa 191) (⟨.leaf,zbi 191⟩:Tm) st0:=(zcf zo ee_is zn zag zt1 (by exact (zmy zo ee_is zn zag zr5)))
end Go.Proofs.YtdamgacabfbpjaaGreat
set_option maxRecDepth 1000000
set_option maxHeartbeats 0
namespace Go.Proofs.YtdamgacabfbpjaaGreat
theorem zq0:Good Tryz.prog EE (EndsTrue 0) (zaa 133) (⟨.leaf,zbi 133⟩:Tm) st0:=(zcf zo ee_is zn zag zt2 (by exact (zmy zo ee_is zn zag zr4)))
end Go.Proofs.YtdamgacabfbpjaaGreat
set_option maxRecDepth 1000000
set_option maxHeartbeats 0
namespace Go.Proofs.YtdamgacabfbpjaaGreat
theorem zq1:Good Tryz.prog EE (EndsTrue 0) (zaa 85) (⟨.leaf,zbi 85⟩:Tm) st0:=zhz (zfy (by decide +kernel) (zan zo ee_is zn zag zt3 (zan zo ee_is zn zag zt4 (zan zo ee_is zn zag zt5 (zan zo ee_is zn zag zt6 (ze4 zo ee_is zn zag zr6))))))
end Go.Proofs.YtdamgacabfbpjaaGreat
set_option maxRecDepth 1000000
set_option maxHeartbeats 0
namespace Go.Proofs.YtdamgacabfbpjaaGreat
theorem zq2:Good Tryz.prog EE (EndsTrue 0) (zaa 49) (⟨.leaf,zbi 49⟩:Tm) st0:=zhz (zfy (by decide +kernel) (zan zo ee_is zn zag zt7 (zan zo ee_is zn zag zt9 (zan zo ee_is zn zag zub (zan zo ee_is zn zag zt8 (zan zo ee_is zn zag zuc (zan zo ee_is zn zag zua (zan zo ee_is zn zag zud (ze4 zo ee_is zn zag zr7)))))))))
end Go.Proofs.YtdamgacabfbpjaaGreat
set_option maxRecDepth 1000000
set_option maxHeartbeats 0
namespace Go.Proofs.YtdamgacabfbpjaaGreat
theorem zq3:Good Tryz.prog EE (EndsTrue 0) (zaa 24) (⟨.leaf,zbi 24⟩:Tm) st0:=zhz (zfy (by decide +kernel) (zan zo ee_is zn zag zue (zan zo ee_is zn zag zuf (ze4 zo ee_is zn zag zr8))))
end Go.Proofs.YtdamgacabfbpjaaGreat
set_option maxRecDepth 1000000
namespace Go.Proofs.YtdamgacabfbpjaaGreat
open Go.RowKit
theorem z8e (w:World):Calls Tryz.prog 189 #[] w fun e W=>e = .returned (.bool true)∧Ext w W:=by
 obtain ⟨e1,e2⟩:=zda (f:=189) (by decide +kernel) Tryz.func189 rfl
 have g:=zqx
 rw [e1,e2] at g
 exact zdq ee_is Tryz.func189 rfl rfl g w
theorem z8f (w:World):Calls Tryz.prog 190 #[] w fun e W=>e = .returned (.bool true)∧Ext w W:=by
 obtain ⟨e1,e2⟩:=zda (f:=190) (by decide +kernel) Tryz.func190 rfl
 have g:=zqy
 rw [e1,e2] at g
 exact zdq z5v Tryz.func190 rfl rfl g w
theorem z8g (w:World):Calls Tryz.prog 191 #[] w fun e W=>e = .returned (.bool true)∧Ext w W:=by
 obtain ⟨e1,e2⟩:=zda (f:=191) (by decide +kernel) Tryz.func191 rfl
 have g:=zqz
 rw [e1,e2] at g
 exact zdq ee_is Tryz.func191 rfl rfl g w
theorem z8h (w:World):Calls Tryz.prog 133 #[] w fun e W=>e = .returned (.bool true)∧Ext w W:=by
 obtain ⟨e1,e2⟩:=zda (f:=133) (by decide +kernel) Tryz.func133 rfl
 have g:=zq0
 rw [e1,e2] at g
 exact zdq ee_is Tryz.func133 rfl rfl g w
theorem z8i (w:World):Calls Tryz.prog 85 #[] w fun e W=>e = .returned (.bool true)∧Ext w W:=by
 obtain ⟨e1,e2⟩:=zda (f:=85) (by decide +kernel) Tryz.func85 rfl
 have g:=zq1
 rw [e1,e2] at g
 exact zdq ee_is Tryz.func85 rfl rfl g w
theorem z8j (w:World):Calls Tryz.prog 49 #[] w fun e W=>e = .returned (.bool true)∧Ext w W:=by
 obtain ⟨e1,e2⟩:=zda (f:=49) (by decide +kernel) Tryz.func49 rfl
 have g:=zq2
 rw [e1,e2] at g
 exact zdq ee_is Tryz.func49 rfl rfl g w
theorem z8k (w:World):Calls Tryz.prog 24 #[] w fun e W=>e = .returned (.bool true)∧Ext w W:=by
 obtain ⟨e1,e2⟩:=zda (f:=24) (by decide +kernel) Tryz.func24 rfl
 have g:=zq3
 rw [e1,e2] at g
 exact zdq ee_is Tryz.func24 rfl rfl g w
theorem zz5 (w:World):Calls Tryz.prog 132 #[] w fun e W=>e = .returned (.bool true)∧Ext w W:=by
 go_enter Tryz.func132,Tryz.ntmps132
 go_wp2_with fail
 refine (z8e _).mono ?_
 rintro e W1 ⟨rfl,h1⟩
 go_wp2_with fail
 refine (z8f _).mono ?_
 rintro e W2 ⟨rfl,h2⟩
 go_wp2_with fail
 refine (z8g _).mono ?_
 rintro e W3 ⟨rfl,h3⟩
 go_wp2_with fail
 go_ret
 exact ⟨rfl,(h1.trans' h2).trans' h3⟩
theorem zz6 (w:World):Calls Tryz.prog 84 #[] w fun e W=>e = .returned (.bool true)∧Ext w W:=by
 go_enter Tryz.func84,Tryz.ntmps84
 go_wp2_with fail
 refine (zz5 _).mono ?_
 rintro e W1 ⟨rfl,h1⟩
 go_wp2_with fail
 refine (z8h _).mono ?_
 rintro e W2 ⟨rfl,h2⟩
 go_wp2_with fail
 go_ret
 exact ⟨rfl,h1.trans' h2⟩
theorem zz7 (w:World):Calls Tryz.prog 48 #[] w fun e W=>e = .returned (.bool true)∧Ext w W:=by
 go_enter Tryz.func48,Tryz.ntmps48
 go_wp2_with fail
 refine (zz6 _).mono ?_
 rintro e W1 ⟨rfl,h1⟩
 go_wp2_with fail
 refine (z8i _).mono ?_
 rintro e W2 ⟨rfl,h2⟩
 go_wp2_with fail
 go_ret
 exact ⟨rfl,h1.trans' h2⟩
theorem zz8 (w:World):Calls Tryz.prog 23 #[] w fun e W=>e = .returned (.bool true)∧Ext w W:=by
 go_enter Tryz.func23,Tryz.ntmps23
 go_wp2_with fail
 refine (zz7 _).mono ?_
 rintro e W1 ⟨rfl,h1⟩
 go_wp2_with fail
 refine (z8j _).mono ?_
 rintro e W2 ⟨rfl,h2⟩
 go_wp2_with fail
 go_ret
 exact ⟨rfl,h1.trans' h2⟩
theorem zgh (w:World):Calls Tryz.prog 6 #[] w fun e W=>e = .returned (.bool true)∧Ext w W:=by
 go_enter Tryz.func6,Tryz.ntmps6
 go_wp2_with fail
 refine (zz8 _).mono ?_
 rintro e W1 ⟨rfl,h1⟩
 go_wp2_with fail
 refine (z8k _).mono ?_
 rintro e W2 ⟨rfl,h2⟩
 go_wp2_with fail
 go_ret
 exact ⟨rfl,h1.trans' h2⟩
end Go.Proofs.YtdamgacabfbpjaaGreat
