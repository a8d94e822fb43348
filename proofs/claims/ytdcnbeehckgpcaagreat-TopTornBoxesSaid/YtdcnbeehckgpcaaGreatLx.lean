/-
  Printed by wip/tools/mkparts.py from what wip/tools/ck.py found: quinellalaw01.Works in parts.
-/
import Derived.Test.YtdcnbeehckgpcaaGreatLka
import Derived.Test.YtdcnbeehckgpcaaGreatLaw01WorksP1
import Derived.Test.YtdcnbeehckgpcaaGreatLaw01WorksP3
import Derived.Test.YtdcnbeehckgpcaaGreatLaw01WorksP5
import Derived.Test.YtdcnbeehckgpcaaGreatLaw01WorksP7
import Derived.Test.YtdcnbeehckgpcaaGreatWait2P0
import Derived.Test.YtdcnbeehckgpcaaGreatWait2P1
import Derived.Test.YtdcnbeehckgpcaaGreatLkb
import Derived.Test.YtdcnbeehckgpcaaGreatLate1P1
import Derived.Test.YtdcnbeehckgpcaaGreatLki
set_option maxRecDepth 1000000
set_option maxHeartbeats 0
noncomputable section
namespace Go.Proofs.YtdcnbeehckgpcaaGreat
theorem zy4:Good Tryz.prog EE (zdu 0) (zax 205) (⟨.leaf,zcs 205⟩:Tm) st0:=(zep zak zaz zaj za6 z2j (by exact(zep zak zaz zaj za6 z2n (by rw[zd1];exact(zep zak zaz zaj za6 z2k (by rw[zd1];exact(zep zak zaz zaj za6 z2o (by rw[zd1];exact(zep zak zaz zaj za6 z2l (by rw[zd1];exact(zep zak zaz zaj za6 z2p (by rw[zd1];exact(zep zak zaz zaj za6 z2m (by rw[zd1];exact(ztk zak zaz zaj za6 z0n)))))))))))))))
theorem zabq:Good Tryz.prog EE (fun r=>zg6 4000 5695 [(4,iN 4),(5,iN 0)] r=true) (zax 285) (⟨zf1 ([.sl 0 0 3 3,.sl 4 0 2 2]:List AV) 0 .leaf,zcs 285⟩:Tm) (⟨(zat [(0,.cells [iN 3,iN 4,iN 4]),(1,.cells [iN 0,iN 2,iN 4]),(4,.cells [.sl 1 0 3 3,.sl 1 0 3 3])]:Tr AO),4000,0,0⟩:St):=(zyl zak zaz zaj za6 zahd (by exact(z1w zak zaz zaj za6 zaeo)))
theorem zabr:Good Tryz.prog EE (fun r=>zg6 6000 7496 [(4,iN 2),(5,iN 0)] r=true) (zax 286) (⟨zf1 ([.sl 0 0 3 3,.sl 3 0 1 1]:List AV) 0 .leaf,zcs 286⟩:Tm) (⟨(zat [(0,.cells [iN 3,iN 4,iN 4]),(1,.cells [iN 0,iN 2,iN 4]),(3,.cells [.sl 1 0 3 3])]:Tr AO),6000,0,0⟩:St):=(zyl zak zaz zaj za6 zahe (by exact(z1w zak zaz zaj za6 zaeq)))
theorem z7i:Good Tryz.prog EE (fun r=>(zu0 8000 11885 [(4,.slo 11884 0 3 1),(5,iN 0)] [(11884,.cells [iN 4,iN 5,iN 7])]) r=true) (zax 287) (⟨zf1 ([.sl 0 0 3 3,.sl 3 0 1 1]:List AV) 0 .leaf,zcs 287⟩:Tm) (⟨zat [(0,.cells [iN 3,iN 4,iN 4]),(1,.cells [iN 0,iN 2,iN 4]),(3,.cells [.sl 1 0 3 3])],8000,0,0⟩:St):=zir (by decide +kernel) (zbn zak zaz zaj za6 zaep (zbn zak zaz zaj za6 zaer (zbn zak zaz zaj za6 zaes (zhm zak zaz zaj za6 zabp))))
open Go.RowKit
def zalu:Tr AO:=zat [(0,.cells [iN 3,iN 4,iN 4]),(1,.cells [iN 0,iN 2,iN 4]),(4,.cells [.sl 1 0 3 3,.sl 1 0 3 3])]
def zalv:Tr AO:=zat [(0,.cells [iN 3,iN 4,iN 4]),(1,.cells [iN 0,iN 2,iN 4]),(3,.cells [.sl 1 0 3 3])]
def z9h:List AV→St→Option Res:=recP [.sl 0 0 3 3,.sl 4 0 2 2] zalu 4000 5695 (.tup [iN 4,iN 0])
def z9i:List AV→St→Option Res:=recP [.sl 0 0 3 3,.sl 3 0 1 1] zalv 6000 7496 (.tup [iN 2,iN 0])
theorem zabs{E:Env}{args:List AV}{S:St}{r:Res}(h:z9h args S=some r):Lcl S r.st∧zeo Tryz.prog E S r (.call 285 args):=by
 obtain⟨e1,e2⟩:=zfc (f:=285) (by decide +kernel) Tryz.func285 rfl;have g:=zabq;rw[e1,e2]at g;exact zad9 zaz (rs:=[(4,iN 4),(5,iN 0)]) Tryz.func285 rfl (by decide) rfl rfl rfl g h
theorem zabt{E:Env}{args:List AV}{S:St}{r:Res}(h:z9i args S=some r):Lcl S r.st∧zeo Tryz.prog E S r (.call 286 args):=by
 obtain⟨e1,e2⟩:=zfc (f:=286) (by decide +kernel) Tryz.func286 rfl;have g:=zabr;rw[e1,e2]at g;exact zad9 zaz (rs:=[(4,iN 2),(5,iN 0)]) Tryz.func286 rfl (by decide) rfl rfl rfl g h
def zaju:Tr AO:=zat [(0,.cells [iN 3,iN 4,iN 4]),(1,.cells [iN 0,iN 2,iN 4]),(3,.cells [.sl 1 0 3 3])]
def z2b:List AV→St→Option Res:=recM [.sl 0 0 3 3,.sl 3 0 1 1] zaju 8000 11885 (.tup [.slo 11884 0 3 1,iN 0]) [(11884,.cells [iN 4,iN 5,iN 7])]
theorem z6t{E:Env}{args:List AV}{S:St}{r:Res}(h:z2b args S=some r):Lcl S r.st∧zeo Tryz.prog E S r (.call 287 args):=by
 obtain⟨e1,e2⟩:=zfc (f:=287) (by decide +kernel) Tryz.func287 rfl;have g:=z7i;rw[e1,e2]at g;exact zajm zaz (rs:=[(4,.slo 11884 0 3 1),(5,iN 0)]) Tryz.func287 rfl (by decide) rfl rfl g h
def tabW:List (Nat×(List AV→St→Option Res)):=(285,z9h)::(286,z9i)::(287,z2b)::tab0
def EW:Env:={ zaap Tryz.prog with tab:=zat tabW }
theorem zahv:zbh EW Tryz.prog:=⟨(z3k Tryz.prog).ty,(z3k Tryz.prog).fn⟩
theorem zak0:zmt Tryz.prog EW:=z6s rfl fun p hp args S r h=>by
 unfold tabW at hp
 rcases wdp.1 hp with rfl|hp
 ·exact zabs h
 ·rcases wdp.1 hp with rfl|hp
  ·exact zabt h
  ·rcases wdp.1 hp with rfl|hp
   ·exact z6t h
   ·exact z9g p hp args S r h
end Go.Proofs.YtdcnbeehckgpcaaGreat
end
