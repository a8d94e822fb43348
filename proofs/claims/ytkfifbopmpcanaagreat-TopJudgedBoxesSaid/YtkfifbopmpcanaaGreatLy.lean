/-
  Printed by wip/tools/mkparts2.py from what wip/tools/ck2.py found: quinellalaw02.Works in parts.
-/
import Derived.Test.YtkfifbopmpcanaaGreatLaw02WorksP0
import Derived.Test.YtkfifbopmpcanaaGreatLkc
import Derived.Test.YtkfifbopmpcanaaGreatLaw03WorksP1
import Derived.Test.YtkfifbopmpcanaaGreatLaw05WorksP0
import Derived.Test.YtkfifbopmpcanaaGreatLaw05WorksP1
import Derived.Test.YtkfifbopmpcanaaGreatLaw05WorksP2
import Derived.Test.YtkfifbopmpcanaaGreatLaw05WorksP3
import Derived.Test.YtkfifbopmpcanaaGreatLaw05WorksP4
import Derived.Test.YtkfifbopmpcanaaGreatLkd
import Derived.Test.YtkfifbopmpcanaaGreatLke
import Derived.Test.YtkfifbopmpcanaaGreatLaw06WorksP2
import Derived.Test.YtkfifbopmpcanaaGreatLaw06WorksP4
import Derived.Test.YtkfifbopmpcanaaGreatLaw06WorksP6
import Derived.Test.YtkfifbopmpcanaaGreatLaw07WorksP0
import Derived.Test.YtkfifbopmpcanaaGreatLaw07WorksP1
import Derived.Test.YtkfifbopmpcanaaGreatLaw07WorksP2
import Derived.Test.YtkfifbopmpcanaaGreatLx
import Derived.Test.YtkfifbopmpcanaaGreatBb
import Derived.Test.YtkfifbopmpcanaaGreatLkb
set_option maxRecDepth 1000000
set_option maxHeartbeats 0
namespace Go.Proofs.YtkfifbopmpcanaaGreat
theorem zq6:Good Tryz.prog EW (EndsTrue 0) (zad 259) (⟨.leaf,zbe 259⟩:Tm) st0:=zga (zez (by decide +kernel) (zea zp z51 zo z8a zsc))
end Go.Proofs.YtkfifbopmpcanaaGreat
set_option maxRecDepth 1000000
set_option maxHeartbeats 0
namespace Go.Proofs.YtkfifbopmpcanaaGreat
theorem zq7:Good Tryz.prog EE (EndsTrue 0) (zad 260) (⟨.leaf,zbe 260⟩:Tm) st0:=(zcd zp ee_is zo zai zt9 (by exact (zm5 zp ee_is zo zai zsf)))
end Go.Proofs.YtkfifbopmpcanaaGreat
set_option maxRecDepth 1000000
set_option maxHeartbeats 0
namespace Go.Proofs.YtkfifbopmpcanaaGreat
theorem zq8:Good Tryz.prog EE (EndsTrue 0) (zad 221) (⟨.leaf,zbe 221⟩:Tm) st0:=(zcd zp ee_is zo zai zua (by exact (zm5 zp ee_is zo zai zsd)))
end Go.Proofs.YtkfifbopmpcanaaGreat
set_option maxRecDepth 1000000
set_option maxHeartbeats 0
namespace Go.Proofs.YtkfifbopmpcanaaGreat
theorem zq9:Good Tryz.prog EE (EndsTrue 0) (zad 185) (⟨.leaf,zbe 185⟩:Tm) st0:=zga (zez (by decide +kernel) (zas zp ee_is zo zai zub (zas zp ee_is zo zai zuc (zas zp ee_is zo zai zud (zas zp ee_is zo zai zue (zea zp ee_is zo zai zsg))))))
end Go.Proofs.YtkfifbopmpcanaaGreat
set_option maxRecDepth 1000000
set_option maxHeartbeats 0
namespace Go.Proofs.YtkfifbopmpcanaaGreat
theorem zra:Good Tryz.prog EE (EndsTrue 0) (zad 131) (⟨.leaf,zbe 131⟩:Tm) st0:=zga (zez (by decide +kernel) (zas zp ee_is zo zai zuf (zas zp ee_is zo zai zuh (zas zp ee_is zo zai zuj (zas zp ee_is zo zai zug (zas zp ee_is zo zai zuk (zas zp ee_is zo zai zui (zas zp ee_is zo zai zul (zea zp ee_is zo zai zsh)))))))))
end Go.Proofs.YtkfifbopmpcanaaGreat
set_option maxRecDepth 1000000
set_option maxHeartbeats 0
namespace Go.Proofs.YtkfifbopmpcanaaGreat
theorem zrb:Good Tryz.prog EE (EndsTrue 0) (zad 77) (⟨.leaf,zbe 77⟩:Tm) st0:=zga (zez (by decide +kernel) (zas zp ee_is zo zai zum (zas zp ee_is zo zai zun (zea zp ee_is zo zai zsi))))
end Go.Proofs.YtkfifbopmpcanaaGreat
set_option maxRecDepth 1000000
namespace Go.Proofs.YtkfifbopmpcanaaGreat
open Go.RowKit
theorem z8b (w:World):Calls Tryz.prog 258 #[] w fun e W=>e = .returned (.bool true)∧Ext w W:=by
 obtain ⟨e1,e2⟩:=zcs (f:=258) (by decide +kernel) Tryz.func258 rfl
 have g:=zq5
 rw [e1,e2] at g
 exact zcy ee_is Tryz.func258 rfl rfl g w
theorem z8c (w:World):Calls Tryz.prog 259 #[] w fun e W=>e = .returned (.bool true)∧Ext w W:=by
 obtain ⟨e1,e2⟩:=zcs (f:=259) (by decide +kernel) Tryz.func259 rfl
 have g:=zq6
 rw [e1,e2] at g
 exact zcy z51 Tryz.func259 rfl rfl g w
theorem z8d (w:World):Calls Tryz.prog 260 #[] w fun e W=>e = .returned (.bool true)∧Ext w W:=by
 obtain ⟨e1,e2⟩:=zcs (f:=260) (by decide +kernel) Tryz.func260 rfl
 have g:=zq7
 rw [e1,e2] at g
 exact zcy ee_is Tryz.func260 rfl rfl g w
theorem z8e (w:World):Calls Tryz.prog 221 #[] w fun e W=>e = .returned (.bool true)∧Ext w W:=by
 obtain ⟨e1,e2⟩:=zcs (f:=221) (by decide +kernel) Tryz.func221 rfl
 have g:=zq8
 rw [e1,e2] at g
 exact zcy ee_is Tryz.func221 rfl rfl g w
theorem z8f (w:World):Calls Tryz.prog 185 #[] w fun e W=>e = .returned (.bool true)∧Ext w W:=by
 obtain ⟨e1,e2⟩:=zcs (f:=185) (by decide +kernel) Tryz.func185 rfl
 have g:=zq9
 rw [e1,e2] at g
 exact zcy ee_is Tryz.func185 rfl rfl g w
theorem z8g (w:World):Calls Tryz.prog 131 #[] w fun e W=>e = .returned (.bool true)∧Ext w W:=by
 obtain ⟨e1,e2⟩:=zcs (f:=131) (by decide +kernel) Tryz.func131 rfl
 have g:=zra
 rw [e1,e2] at g
 exact zcy ee_is Tryz.func131 rfl rfl g w
theorem z8h (w:World):Calls Tryz.prog 77 #[] w fun e W=>e = .returned (.bool true)∧Ext w W:=by
 obtain ⟨e1,e2⟩:=zcs (f:=77) (by decide +kernel) Tryz.func77 rfl
 have g:=zrb
 rw [e1,e2] at g
 exact zcy ee_is Tryz.func77 rfl rfl g w
theorem zz8 (w:World):Calls Tryz.prog 220 #[] w fun e W=>e = .returned (.bool true)∧Ext w W:=by
 go_enter Tryz.func220,Tryz.ntmps220
 go_wp2_with fail
 refine (z8b _).mono ?_
 rintro e W1 ⟨rfl,h1⟩
 go_wp2_with fail
 refine (z8c _).mono ?_
 rintro e W2 ⟨rfl,h2⟩
 go_wp2_with fail
 refine (z8d _).mono ?_
 rintro e W3 ⟨rfl,h3⟩
 go_wp2_with fail
 go_ret
 exact ⟨rfl,(h1.trans' h2).trans' h3⟩
theorem z0a (w:World):Calls Tryz.prog 184 #[] w fun e W=>e = .returned (.bool true)∧Ext w W:=by
 go_enter Tryz.func184,Tryz.ntmps184
 go_wp2_with fail
 refine (zz8 _).mono ?_
 rintro e W1 ⟨rfl,h1⟩
 go_wp2_with fail
 refine (z8e _).mono ?_
 rintro e W2 ⟨rfl,h2⟩
 go_wp2_with fail
 go_ret
 exact ⟨rfl,h1.trans' h2⟩
theorem z0b (w:World):Calls Tryz.prog 130 #[] w fun e W=>e = .returned (.bool true)∧Ext w W:=by
 go_enter Tryz.func130,Tryz.ntmps130
 go_wp2_with fail
 refine (z0a _).mono ?_
 rintro e W1 ⟨rfl,h1⟩
 go_wp2_with fail
 refine (z8f _).mono ?_
 rintro e W2 ⟨rfl,h2⟩
 go_wp2_with fail
 go_ret
 exact ⟨rfl,h1.trans' h2⟩
theorem z0c (w:World):Calls Tryz.prog 76 #[] w fun e W=>e = .returned (.bool true)∧Ext w W:=by
 go_enter Tryz.func76,Tryz.ntmps76
 go_wp2_with fail
 refine (z0b _).mono ?_
 rintro e W1 ⟨rfl,h1⟩
 go_wp2_with fail
 refine (z8g _).mono ?_
 rintro e W2 ⟨rfl,h2⟩
 go_wp2_with fail
 go_ret
 exact ⟨rfl,h1.trans' h2⟩
theorem z0d (w:World):Calls Tryz.prog 36 #[] w fun e W=>e = .returned (.bool true)∧Ext w W:=by
 go_enter Tryz.func36,Tryz.ntmps36
 go_wp2_with fail
 refine (z0c _).mono ?_
 rintro e W1 ⟨rfl,h1⟩
 go_wp2_with fail
 refine (z8h _).mono ?_
 rintro e W2 ⟨rfl,h2⟩
 go_wp2_with fail
 go_ret
 exact ⟨rfl,h1.trans' h2⟩
end Go.Proofs.YtkfifbopmpcanaaGreat
set_option maxRecDepth 1000000
set_option maxHeartbeats 0
namespace Go.Proofs.YtkfifbopmpcanaaGreat
theorem zrc:Good Tryz.prog EE (EndsTrue 0) (zad 37) (⟨.leaf,zbe 37⟩:Tm) st0:=zga (zez (by decide +kernel) (zas zp ee_is zo zai zt8 (zea zp ee_is zo zai zse)))
end Go.Proofs.YtkfifbopmpcanaaGreat
set_option maxRecDepth 1000000
namespace Go.Proofs.YtkfifbopmpcanaaGreat
open Go.RowKit
theorem z8i (w:World):Calls Tryz.prog 37 #[] w fun e W=>e = .returned (.bool true)∧Ext w W:=by
 obtain ⟨e1,e2⟩:=zcs (f:=37) (by decide +kernel) Tryz.func37 rfl
 have g:=zrc
 rw [e1,e2] at g
 exact zcy ee_is Tryz.func37 rfl rfl g w
theorem zc6 (w:World):Calls Tryz.prog 7 #[] w fun e W=>e = .returned (.bool true)∧Ext w W:=by
 go_enter Tryz.func7,Tryz.ntmps7
 go_wp2_with fail
 refine (z0d _).mono ?_
 rintro e W1 ⟨rfl,h1⟩
 go_wp2_with fail
 refine (z8i _).mono ?_
 rintro e W2 ⟨rfl,h2⟩
 go_wp2_with fail
 go_ret
 exact ⟨rfl,h1.trans' h2⟩
end Go.Proofs.YtkfifbopmpcanaaGreat
