/-
  Printed by wip/tools/mkparts2.py from what wip/tools/ck2.py found: quinellalaw02.Works in parts.
-/
import Derived.Test.YtkbaiobnibmmgaaGreatLaw02WorksP0
import Derived.Test.YtkbaiobnibmmgaaGreatLkc
import Derived.Test.YtkbaiobnibmmgaaGreatLaw03WorksP1
import Derived.Test.YtkbaiobnibmmgaaGreatLaw05WorksP0
import Derived.Test.YtkbaiobnibmmgaaGreatLaw05WorksP1
import Derived.Test.YtkbaiobnibmmgaaGreatLaw05WorksP2
import Derived.Test.YtkbaiobnibmmgaaGreatLaw05WorksP3
import Derived.Test.YtkbaiobnibmmgaaGreatLaw05WorksP4
import Derived.Test.YtkbaiobnibmmgaaGreatLkd
import Derived.Test.YtkbaiobnibmmgaaGreatLke
import Derived.Test.YtkbaiobnibmmgaaGreatLaw06WorksP2
import Derived.Test.YtkbaiobnibmmgaaGreatLaw06WorksP4
import Derived.Test.YtkbaiobnibmmgaaGreatLaw06WorksP6
import Derived.Test.YtkbaiobnibmmgaaGreatLaw07WorksP0
import Derived.Test.YtkbaiobnibmmgaaGreatLaw07WorksP1
import Derived.Test.YtkbaiobnibmmgaaGreatLaw07WorksP2
import Derived.Test.YtkbaiobnibmmgaaGreatLx
import Derived.Test.YtkbaiobnibmmgaaGreatBb
import Derived.Test.YtkbaiobnibmmgaaGreatLkb
set_option maxRecDepth 1000000
set_option maxHeartbeats 0
namespace Go.Proofs.YtkbaiobnibmmgaaGreat
theorem zrz:Good Tryz.prog EW (EndsTrue 0) (zae 250) (⟨.leaf,zbl 250⟩:Tm) st0:=zge (ze6 (by decide +kernel) (zed zw z6v zu z89 zs0))
end Go.Proofs.YtkbaiobnibmmgaaGreat
set_option maxRecDepth 1000000
set_option maxHeartbeats 0
namespace Go.Proofs.YtkbaiobnibmmgaaGreat
theorem zr0:Good Tryz.prog EE (EndsTrue 0) (zae 251) (⟨.leaf,zbl 251⟩:Tm) st0:=(zcm zw ee_is zu zaj zu0 (by exact (zns zw ee_is zu zaj zs3)))
end Go.Proofs.YtkbaiobnibmmgaaGreat
set_option maxRecDepth 1000000
set_option maxHeartbeats 0
namespace Go.Proofs.YtkbaiobnibmmgaaGreat
theorem zr1:Good Tryz.prog EE (EndsTrue 0) (zae 204) (⟨.leaf,zbl 204⟩:Tm) st0:=(zcm zw ee_is zu zaj zu1 (by exact (zns zw ee_is zu zaj zs1)))
end Go.Proofs.YtkbaiobnibmmgaaGreat
set_option maxRecDepth 1000000
set_option maxHeartbeats 0
namespace Go.Proofs.YtkbaiobnibmmgaaGreat
theorem zr2:Good Tryz.prog EE (EndsTrue 0) (zae 158) (⟨.leaf,zbl 158⟩:Tm) st0:=zge (ze6 (by decide +kernel) (zaw zw ee_is zu zaj zu2 (zaw zw ee_is zu zaj zu3 (zaw zw ee_is zu zaj zu4 (zaw zw ee_is zu zaj zu5 (zed zw ee_is zu zaj zs4))))))
end Go.Proofs.YtkbaiobnibmmgaaGreat
set_option maxRecDepth 1000000
set_option maxHeartbeats 0
namespace Go.Proofs.YtkbaiobnibmmgaaGreat
theorem zr3:Good Tryz.prog EE (EndsTrue 0) (zae 104) (⟨.leaf,zbl 104⟩:Tm) st0:=zge (ze6 (by decide +kernel) (zaw zw ee_is zu zaj zu6 (zaw zw ee_is zu zaj zu8 (zaw zw ee_is zu zaj zva (zaw zw ee_is zu zaj zu7 (zaw zw ee_is zu zaj zvb (zaw zw ee_is zu zaj zu9 (zaw zw ee_is zu zaj zvc (zed zw ee_is zu zaj zs5)))))))))
end Go.Proofs.YtkbaiobnibmmgaaGreat
set_option maxRecDepth 1000000
set_option maxHeartbeats 0
namespace Go.Proofs.YtkbaiobnibmmgaaGreat
theorem zr4:Good Tryz.prog EE (EndsTrue 0) (zae 59) (⟨.leaf,zbl 59⟩:Tm) st0:=zge (ze6 (by decide +kernel) (zaw zw ee_is zu zaj zvd (zaw zw ee_is zu zaj zve (zed zw ee_is zu zaj zs6))))
end Go.Proofs.YtkbaiobnibmmgaaGreat
set_option maxRecDepth 1000000
namespace Go.Proofs.YtkbaiobnibmmgaaGreat
open Go.RowKit
theorem z9a (w:World):Calls Tryz.prog 249 #[] w fun e W=>e = .returned (.bool true)∧Ext w W:=by
 obtain ⟨e1,e2⟩:=zcz (f:=249) (by decide +kernel) Tryz.func249 rfl
 have g:=zry
 rw [e1,e2] at g
 exact zc5 ee_is Tryz.func249 rfl rfl g w
theorem z9b (w:World):Calls Tryz.prog 250 #[] w fun e W=>e = .returned (.bool true)∧Ext w W:=by
 obtain ⟨e1,e2⟩:=zcz (f:=250) (by decide +kernel) Tryz.func250 rfl
 have g:=zrz
 rw [e1,e2] at g
 exact zc5 z6v Tryz.func250 rfl rfl g w
theorem z9c (w:World):Calls Tryz.prog 251 #[] w fun e W=>e = .returned (.bool true)∧Ext w W:=by
 obtain ⟨e1,e2⟩:=zcz (f:=251) (by decide +kernel) Tryz.func251 rfl
 have g:=zr0
 rw [e1,e2] at g
 exact zc5 ee_is Tryz.func251 rfl rfl g w
theorem z9d (w:World):Calls Tryz.prog 204 #[] w fun e W=>e = .returned (.bool true)∧Ext w W:=by
 obtain ⟨e1,e2⟩:=zcz (f:=204) (by decide +kernel) Tryz.func204 rfl
 have g:=zr1
 rw [e1,e2] at g
 exact zc5 ee_is Tryz.func204 rfl rfl g w
theorem z9e (w:World):Calls Tryz.prog 158 #[] w fun e W=>e = .returned (.bool true)∧Ext w W:=by
 obtain ⟨e1,e2⟩:=zcz (f:=158) (by decide +kernel) Tryz.func158 rfl
 have g:=zr2
 rw [e1,e2] at g
 exact zc5 ee_is Tryz.func158 rfl rfl g w
theorem z9f (w:World):Calls Tryz.prog 104 #[] w fun e W=>e = .returned (.bool true)∧Ext w W:=by
 obtain ⟨e1,e2⟩:=zcz (f:=104) (by decide +kernel) Tryz.func104 rfl
 have g:=zr3
 rw [e1,e2] at g
 exact zc5 ee_is Tryz.func104 rfl rfl g w
theorem z9g (w:World):Calls Tryz.prog 59 #[] w fun e W=>e = .returned (.bool true)∧Ext w W:=by
 obtain ⟨e1,e2⟩:=zcz (f:=59) (by decide +kernel) Tryz.func59 rfl
 have g:=zr4
 rw [e1,e2] at g
 exact zc5 ee_is Tryz.func59 rfl rfl g w
theorem z01 (w:World):Calls Tryz.prog 203 #[] w fun e W=>e = .returned (.bool true)∧Ext w W:=by
 go_enter Tryz.func203,Tryz.ntmps203
 go_wp2_with fail
 refine (z9a _).mono ?_
 rintro e W1 ⟨rfl,h1⟩
 go_wp2_with fail
 refine (z9b _).mono ?_
 rintro e W2 ⟨rfl,h2⟩
 go_wp2_with fail
 refine (z9c _).mono ?_
 rintro e W3 ⟨rfl,h3⟩
 go_wp2_with fail
 go_ret
 exact ⟨rfl,(h1.trans' h2).trans' h3⟩
theorem z02 (w:World):Calls Tryz.prog 157 #[] w fun e W=>e = .returned (.bool true)∧Ext w W:=by
 go_enter Tryz.func157,Tryz.ntmps157
 go_wp2_with fail
 refine (z01 _).mono ?_
 rintro e W1 ⟨rfl,h1⟩
 go_wp2_with fail
 refine (z9d _).mono ?_
 rintro e W2 ⟨rfl,h2⟩
 go_wp2_with fail
 go_ret
 exact ⟨rfl,h1.trans' h2⟩
theorem z03 (w:World):Calls Tryz.prog 103 #[] w fun e W=>e = .returned (.bool true)∧Ext w W:=by
 go_enter Tryz.func103,Tryz.ntmps103
 go_wp2_with fail
 refine (z02 _).mono ?_
 rintro e W1 ⟨rfl,h1⟩
 go_wp2_with fail
 refine (z9e _).mono ?_
 rintro e W2 ⟨rfl,h2⟩
 go_wp2_with fail
 go_ret
 exact ⟨rfl,h1.trans' h2⟩
theorem z04 (w:World):Calls Tryz.prog 58 #[] w fun e W=>e = .returned (.bool true)∧Ext w W:=by
 go_enter Tryz.func58,Tryz.ntmps58
 go_wp2_with fail
 refine (z03 _).mono ?_
 rintro e W1 ⟨rfl,h1⟩
 go_wp2_with fail
 refine (z9f _).mono ?_
 rintro e W2 ⟨rfl,h2⟩
 go_wp2_with fail
 go_ret
 exact ⟨rfl,h1.trans' h2⟩
theorem z05 (w:World):Calls Tryz.prog 29 #[] w fun e W=>e = .returned (.bool true)∧Ext w W:=by
 go_enter Tryz.func29,Tryz.ntmps29
 go_wp2_with fail
 refine (z04 _).mono ?_
 rintro e W1 ⟨rfl,h1⟩
 go_wp2_with fail
 refine (z9g _).mono ?_
 rintro e W2 ⟨rfl,h2⟩
 go_wp2_with fail
 go_ret
 exact ⟨rfl,h1.trans' h2⟩
end Go.Proofs.YtkbaiobnibmmgaaGreat
set_option maxRecDepth 1000000
set_option maxHeartbeats 0
namespace Go.Proofs.YtkbaiobnibmmgaaGreat
theorem zr5:Good Tryz.prog EE (EndsTrue 0) (zae 30) (⟨.leaf,zbl 30⟩:Tm) st0:=zge (ze6 (by decide +kernel) (zaw zw ee_is zu zaj zuz (zed zw ee_is zu zaj zs2)))
end Go.Proofs.YtkbaiobnibmmgaaGreat
set_option maxRecDepth 1000000
namespace Go.Proofs.YtkbaiobnibmmgaaGreat
open Go.RowKit
theorem z9h (w:World):Calls Tryz.prog 30 #[] w fun e W=>e = .returned (.bool true)∧Ext w W:=by
 obtain ⟨e1,e2⟩:=zcz (f:=30) (by decide +kernel) Tryz.func30 rfl
 have g:=zr5
 rw [e1,e2] at g
 exact zc5 ee_is Tryz.func30 rfl rfl g w
theorem zfi (w:World):Calls Tryz.prog 6 #[] w fun e W=>e = .returned (.bool true)∧Ext w W:=by
 go_enter Tryz.func6,Tryz.ntmps6
 go_wp2_with fail
 refine (z05 _).mono ?_
 rintro e W1 ⟨rfl,h1⟩
 go_wp2_with fail
 refine (z9h _).mono ?_
 rintro e W2 ⟨rfl,h2⟩
 go_wp2_with fail
 go_ret
 exact ⟨rfl,h1.trans' h2⟩
end Go.Proofs.YtkbaiobnibmmgaaGreat
