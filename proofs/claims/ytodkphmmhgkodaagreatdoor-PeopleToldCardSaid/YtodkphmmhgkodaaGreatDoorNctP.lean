/- Plain functions that the Go functions compute, written by shal.py. -/
import Derived.Test.YtodkphmmhgkodaaGreatDoorCore
set_option linter.unusedVariables false
namespace Go.Beacon
open Go Go.Eng
noncomputable section
structure ak where
 L:List Int
 at_:Int
deriving DecidableEq,Inhabited
structure Signal where
 At:Int
 Kind:Int
 Device:bO
 bg:bO
 By:bO
 bu:Int
deriving DecidableEq,Inhabited
def Signal.av (x:Signal):AV:=.agg [I x.At,I x.Kind,.str x.Device,.str x.bg,.str x.By,I x.bu]
structure fE where
 bn:Int
 cO:bO
deriving DecidableEq,Inhabited
def fE.av (x:fE):AV:=.agg [I x.bn,.str x.cO]
structure aA where
 bg:bO
 aV:List fE
 aX:Int
deriving DecidableEq,Inhabited
def aA.av (x:aA):AV:=.agg [.str x.bg,.list 2 (x.aV.map fE.av),I x.aX]
structure ar where
 aM:Int
 To:Int
deriving DecidableEq,Inhabited
def ar.av (x:ar):AV:=.agg [I x.aM,I x.To]
structure aB where
 cO:bO
 gm:bO
 Time:ar
deriving DecidableEq,Inhabited
def aB.av (x:aB):AV:=.agg [.str x.cO,.str x.gm,I x.Time.aM,I x.Time.To]
structure ai where
 At:Int
 Device:bO
 bg:bO
 cO:bO
 gm:bO
 fE:Int
deriving DecidableEq,Inhabited
def ai.av (x:ai):AV:=.agg [I x.At,.str x.Device,.str x.bg,.str x.cO,.str x.gm,I x.fE]
structure bC where
 lj:List aB
 w_:ar
 rf:List ai
deriving DecidableEq,Inhabited
structure aq where
 aG:bO
 a8:bO
deriving DecidableEq,Inhabited
def aq.av (x:aq):AV:=.agg [.str x.aG,.str x.a8]
instance:xK aq:=⟨fun a b=>(xK.lt a.aG b.aG||(decide (a.aG=b.aG)&&(xK.lt a.a8 b.a8||(decide (a.a8=b.a8)&&false))))⟩
structure au where
 bl:aq
 aE:Int
 bX:Int
 aY:List Int
 ay:Int
 mj:List ar
 bt:List ar
 aW:List ar
 cj:List Int
 bG:List Int
deriving DecidableEq,Inhabited
structure ch where
 sX:List (aq×Int)
 kV:List Int
 Cp:List au
deriving DecidableEq,Inhabited
structure an where
 aG:bO
 a8:bO
 bw:List Signal
 aE:Int
 ay:ar
deriving DecidableEq,Inhabited
structure dc where
 Event:Int
 Why:Int
deriving DecidableEq,Inhabited
def dc.av (x:dc):AV:=.agg [I x.Event,I x.Why]
structure iL where
 Device:bO
 bg:bO
 State:Int
 Since:Int
 Pf:Int
 AX:Int
deriving DecidableEq,Inhabited
def iL.av (x:iL):AV:=.agg [.str x.Device,.str x.bg,I x.State,I x.Since,I x.Pf,I x.AX]
def vS (n2:Int):Option Int:=
 some n2
def Below (ab:Int) (ah:Int):Option Int:=
 if ah < (1:Int) then
  some (0:Int)
 else
  (rem ab ah).bind fun n1=>
  if n1 < (0:Int) then
   vS (aL (n1+ah))
  else
   vS n1
def dH (ab:ak) (ah:Int):Option (Int×ak):=
 if (ab.L.length:Int)=(0:Int) then
  (Below (aL ((aL (ab.at_+(1:Int))) * (7919:Int))) ah).bind fun v1=>
  some (v1,(⟨ab.L,aL (ab.at_+(1:Int))⟩:ak))
 else
  (rem (aL ((aL (ab.at_+(1:Int))) - (1:Int))) (ab.L.length:Int)).bind fun n2=>
  (quo (aL ((aL (ab.at_+(1:Int))) - (1:Int))) (ab.L.length:Int)).bind fun n3=>
  (idx ab.L n2).bind fun v4=>
  (Below v4 (1073741824:Int)).bind fun v5=>
  (Below (aL (v5+(aL (n3 * (aL ((7919:Int)+n2)))))) ah).bind fun v6=>
  some (v6,(⟨ab.L,aL (ab.at_+(1:Int))⟩:ak))
def ko (ab:ak) (ah:Int) (ao:Int):Option (Int×ak):=
 if ao < ah then
  some (ah,ab)
 else
  (dH ab (aL ((aL (ao - ah))+(1:Int)))).bind fun v1=>
  some (aL (ah+v1.1),v1.2)
def bU (ab:ak) (ah:List Int):Option (Int×ak):=
 (dH ab (ah.length:Int)).bind fun v1=>
 (idx ah v1.1).bind fun v2=>
 some (v2,v1.2)
def dI (ab:ak) (ah:List bO):Option (bO×ak):=
 (dH ab (ah.length:Int)).bind fun v1=>
 (idx ah v1.1).bind fun v2=>
 some (v2,v1.2)
def cmp_isNaN_int (ab:Int):Bool:=
 decide (ab≠ab)
def cmp_Compare_int (ab:Int) (ah:Int):Int:=
 if (cmp_isNaN_int ab)=true then
  if (cmp_isNaN_int ah)=true then
   (0:Int)
  else
   (-1:Int)
 else
  if (cmp_isNaN_int ah)=true then
   (1:Int)
  else
   if ab < ah then
    (-1:Int)
   else
    if ah < ab then
     (1:Int)
    else
     (0:Int)
def qz (ab:List Int) (n2:Int):Option (Int⊕Int):=
 if n2 < (ab.length:Int) then
  (idx ab n2).bind fun v3=>
  if v3≠(0:Int) then
   Option.map .inr (some v3)
  else
   some (.inl (aL (n2+(1:Int))))
 else
  Option.map .inr (some (0:Int))
def CF (ab:List Int) (n2:Int):Option Int:=
 iter (fun x:Int=>qz ab x) n2
def eM (ab:List Int):Option Int:=
 CF ab (0:Int)
def jm (ab:Signal) (ah:Signal):Option Int:=
 (eM [(cmp_Compare_int ab.At ah.At),(Lib.compareBytes ab.Device ah.Device),(Lib.compareBytes ab.bg ah.bg),(cmp_Compare_int ab.Kind ah.Kind)]).bind fun v3=>
 some v3
def cS (n4:Int) (l7:List Signal) (n8:Int) (c9:Bool):Option (((List Signal)×Int)⊕(((List Signal)×Int)⊕(List Signal))):=
 if c9=true then
  (idx l7 (aL (n8 - (1:Int)))).bind fun fo=>
  (idx l7 n8).bind fun gR=>
  (idx l7 n8).bind fun ll=>
  (idx (l7.set n8.toNat fo) (aL (n8 - (1:Int)))).bind fun xo=>
  some (.inl ((l7.set n8.toNat fo).set (aL (n8 - (1:Int))).toNat gR,aL (n8 - (1:Int))))
 else
  Option.map .inr (some (.inl (l7,aL (n4+(1:Int)))))
def cT (ah:Int) (lW:Signal→Signal→Option Int) (n4:Int) (l7:List Signal) (n8:Int):Option (((List Signal)×Int)⊕(((List Signal)×Int)⊕(List Signal))):=
 if ah < n8 then
  (idx l7 n8).bind fun v10=>
  (idx l7 (aL (n8 - (1:Int)))).bind fun v11=>
  (lW v10 v11).bind fun v12=>
  cS n4 l7 n8 (decide (v12 < (0:Int)))
 else
  cS n4 l7 n8 false
def nU (ah:Int) (lW:Signal→Signal→Option Int) (n4:Int) (l7:List Signal) (n8:Int):Option (((List Signal)×Int)⊕(List Signal)):=
 iter (fun x:(List Signal)×Int=>cT ah lW n4 x.1 x.2) (l7,n8)
def cU (ah:Int) (ao:Int) (lW:Signal→Signal→Option Int) (l3:List Signal) (n4:Int):Option (((List Signal)×Int)⊕(List Signal)):=
 if n4 < ao then
  nU ah lW n4 l3 n4
 else
  Option.map .inr (some l3)
def nV (ah:Int) (ao:Int) (lW:Signal→Signal→Option Int) (l3:List Signal) (n4:Int):Option (List Signal):=
 iter (fun x:(List Signal)×Int=>cU ah ao lW x.1 x.2) (l3,n4)
def cH (ab:List Signal) (ah:Int) (ao:Int) (lW:Signal→Signal→Option Int):Option (List Signal):=
 nV ah ao lW ab (aL (ah+(1:Int)))
def dz (ah:Int) (ao:Int) (aD:Int) (l3:List Signal) (n4:Int):Option (((List Signal)×Int)⊕(List Signal)):=
 if n4 < aD then
  (idx l3 (aL (ao+n4))).bind fun v5=>
  (idx l3 (aL (ah+n4))).bind fun v6=>
  (idx l3 (aL (ah+n4))).bind fun v7=>
  (idx (l3.set (aL (ah+n4)).toNat v5) (aL (ao+n4))).bind fun v8=>
  some (.inl ((l3.set (aL (ah+n4)).toNat v5).set (aL (ao+n4)).toNat v6,aL (n4+(1:Int))))
 else
  Option.map .inr (some l3)
def pd (ah:Int) (ao:Int) (aD:Int) (l3:List Signal) (n4:Int):Option (List Signal):=
 iter (fun x:(List Signal)×Int=>dz ah ao aD x.1 x.2) (l3,n4)
def df (ab:List Signal) (ah:Int) (ao:Int) (aD:Int) (cG:Signal→Signal→Option Int):Option (List Signal):=
 pd ah ao aD ab (0:Int)
def eO (l7:List Signal) (n8:Int) (n9:Int):Option (((List Signal)×Int×Int)⊕(List Signal)):=
 some (.inl (l7,n8,n9))
def lu (ao:Int) (cG:Signal→Signal→Option Int) (l4:List Signal) (n5:Int):Option (List Signal):=
 (fO l4.length (fun r:(List Signal)=>r.length) (df l4 (aL (ao - n5)) ao n5 cG)).bind fun v12=>
 some v12
def eP (ao:Int) (cG:Signal→Signal→Option Int) (l4:List Signal) (n5:Int) (n6:Int):Option (((List Signal)×Int×Int)⊕(List Signal)):=
 if n5≠n6 then
  if n6 < n5 then
   (fO l4.length (fun r:(List Signal)=>r.length) (df l4 (aL (ao - n5)) ao n6 cG)).bind fun v10=>
   eO v10 (aL (n5 - n6)) n6
  else
   (fO l4.length (fun r:(List Signal)=>r.length) (df l4 (aL (ao - n5)) (aL ((aL (ao+n6)) - n5)) n5 cG)).bind fun v11=>
   eO v11 n5 (aL (n6 - n5))
 else
  Option.map .inr (lu ao cG l4 n5)
def ql (ao:Int) (cG:Signal→Signal→Option Int) (l4:List Signal) (n5:Int) (n6:Int):Option (List Signal):=
 iter (fun x:(List Signal)×Int×Int=>eP ao cG x.1 x.2.1 x.2.2) (l4,n5,n6)
def jj (ab:List Signal) (ah:Int) (ao:Int) (aD:Int) (cG:Signal→Signal→Option Int):Option (List Signal):=
 ql ao cG ab (aL (ao - ah)) (aL (aD - ao))
def dP (n8:Int) (n9:Int):Option ((Int×Int)⊕(List Signal)):=
 some (.inl (n8,n9))
def dQ (n3:Int) (jT:List Signal) (n13:Int):Option (((List Signal)×Int)⊕(List Signal)):=
 if n13 < (aL (n3 - (1:Int))) then
  (idx jT (aL (n13+(1:Int)))).bind fun gR=>
  (idx jT n13).bind fun ll=>
  (idx jT n13).bind fun xo=>
  (idx (jT.set n13.toNat gR) (aL (n13+(1:Int)))).bind fun v17=>
  some (.inl ((jT.set n13.toNat gR).set (aL (n13+(1:Int))).toNat ll,aL (n13+(1:Int))))
 else
  Option.map .inr (some jT)
def pB (n3:Int) (jT:List Signal) (n13:Int):Option (List Signal):=
 iter (fun x:(List Signal)×Int=>dQ n3 x.1 x.2) (jT,n13)
def dR (ab:List Signal) (ah:Int) (cG:Signal→Signal→Option Int) (n3:Int) (n4:Int):Option ((Int×Int)⊕(List Signal)):=
 if n3 < n4 then
  (idx ab (aL (cd .u64 (IntKind.u64.wrap (aL (n3+n4))) (1:Int)))).bind fun v5=>
  (idx ab ah).bind fun v6=>
  (cG v5 v6).bind fun v7=>
  if v7 < (0:Int) then
   dP (aL ((aL (cd .u64 (IntKind.u64.wrap (aL (n3+n4))) (1:Int)))+(1:Int))) n4
  else
   dP n3 (aL (cd .u64 (IntKind.u64.wrap (aL (n3+n4))) (1:Int)))
 else
  Option.map .inr (pB n3 ab ah)
def pC (ab:List Signal) (ah:Int) (cG:Signal→Signal→Option Int) (n3:Int) (n4:Int):Option (List Signal):=
 iter (fun x:Int×Int=>dR ab ah cG x.1 x.2) (n3,n4)
def dS (n25:Int) (n26:Int):Option ((Int×Int)⊕(List Signal)):=
 some (.inl (n25,n26))
def dU (n20:Int) (nW:List Signal) (n30:Int):Option (((List Signal)×Int)⊕(List Signal)):=
 if n20 < n30 then
  (idx nW (aL (n30 - (1:Int)))).bind fun v31=>
  (idx nW n30).bind fun v32=>
  (idx nW n30).bind fun v33=>
  (idx (nW.set n30.toNat v31) (aL (n30 - (1:Int)))).bind fun EO=>
  some (.inl ((nW.set n30.toNat v31).set (aL (n30 - (1:Int))).toNat v32,aL (n30 - (1:Int))))
 else
  Option.map .inr (some nW)
def pD (n20:Int) (nW:List Signal) (n30:Int):Option (List Signal):=
 iter (fun x:(List Signal)×Int=>dU n20 x.1 x.2) (nW,n30)
def dV (ab:List Signal) (ao:Int) (cG:Signal→Signal→Option Int) (n20:Int) (n21:Int):Option ((Int×Int)⊕(List Signal)):=
 if n20 < n21 then
  (idx ab ao).bind fun v22=>
  (idx ab (aL (cd .u64 (IntKind.u64.wrap (aL (n20+n21))) (1:Int)))).bind fun v23=>
  (cG v22 v23).bind fun v24=>
  if ¬ (v24 < (0:Int)) then
   dS (aL ((aL (cd .u64 (IntKind.u64.wrap (aL (n20+n21))) (1:Int)))+(1:Int))) n21
  else
   dS n20 (aL (cd .u64 (IntKind.u64.wrap (aL (n20+n21))) (1:Int)))
 else
  Option.map .inr (pD n20 ab ao)
def pE (ab:List Signal) (ao:Int) (cG:Signal→Signal→Option Int) (n20:Int) (n21:Int):Option (List Signal):=
 iter (fun x:Int×Int=>dV ab ao cG x.1 x.2) (n20,n21)
def dW (n44:Int) (n45:Int):Option ((Int×Int)⊕(List Signal)):=
 some (.inl (n44,n45))
def dA (BR:List Signal):Option (List Signal):=
 some BR
def gq (self:(List Signal)→Int→Int→Int→(Signal→Signal→Option Int)→Option (List Signal)) (ah:Int) (ao:Int) (aD:Int) (cG:Signal→Signal→Option Int) (n39:Int) (vT:List Signal) (IS:Bool):Option (List Signal):=
 if IS=true then
  (fO vT.length (fun r:(List Signal)=>r.length) (self vT (aL (cd .u64 (IntKind.u64.wrap (aL (ah+aD))) (1:Int))) (aL ((aL ((aL (cd .u64 (IntKind.u64.wrap (aL (ah+aD))) (1:Int)))+ao)) - n39)) aD cG)).bind fun v54=>
  dA v54
 else
  dA vT
def dX (self:(List Signal)→Int→Int→Int→(Signal→Signal→Option Int)→Option (List Signal)) (ah:Int) (ao:Int) (aD:Int) (cG:Signal→Signal→Option Int) (n39:Int) (vT:List Signal):Option (List Signal):=
 gq self ah ao aD cG n39 vT ((decide ((aL (cd .u64 (IntKind.u64.wrap (aL (ah+aD))) (1:Int))) < (aL ((aL ((aL (cd .u64 (IntKind.u64.wrap (aL (ah+aD))) (1:Int)))+ao)) - n39))))&&(decide ((aL ((aL ((aL (cd .u64 (IntKind.u64.wrap (aL (ah+aD))) (1:Int)))+ao)) - n39)) < aD)))
def gr (self:(List Signal)→Int→Int→Int→(Signal→Signal→Option Int)→Option (List Signal)) (ah:Int) (ao:Int) (aD:Int) (cG:Signal→Signal→Option Int) (n39:Int) (tH:List Signal) (c49:Bool):Option (List Signal):=
 if c49=true then
  (fO tH.length (fun r:(List Signal)=>r.length) (self tH ah n39 (aL (cd .u64 (IntKind.u64.wrap (aL (ah+aD))) (1:Int))) cG)).bind fun v51=>
  dX self ah ao aD cG n39 v51
 else
  dX self ah ao aD cG n39 tH
def dY (self:(List Signal)→Int→Int→Int→(Signal→Signal→Option Int)→Option (List Signal)) (ah:Int) (ao:Int) (aD:Int) (cG:Signal→Signal→Option Int) (n39:Int) (tH:List Signal):Option (List Signal):=
 gr self ah ao aD cG n39 tH ((decide (ah < n39))&&(decide (n39 < (aL (cd .u64 (IntKind.u64.wrap (aL (ah+aD))) (1:Int))))))
def gu (self:(List Signal)→Int→Int→Int→(Signal→Signal→Option Int)→Option (List Signal)) (ab:List Signal) (ah:Int) (ao:Int) (aD:Int) (cG:Signal→Signal→Option Int) (n39:Int) (IT:Bool):Option (List Signal):=
 if IT=true then
  (fO ab.length (fun r:(List Signal)=>r.length) (jj ab n39 ao (aL ((aL ((aL (cd .u64 (IntKind.u64.wrap (aL (ah+aD))) (1:Int)))+ao)) - n39)) cG)).bind fun bQ=>
  dY self ah ao aD cG n39 bQ
 else
  dY self ah ao aD cG n39 ab
def dZ (self:(List Signal)→Int→Int→Int→(Signal→Signal→Option Int)→Option (List Signal)) (ab:List Signal) (ah:Int) (ao:Int) (aD:Int) (cG:Signal→Signal→Option Int) (n39:Int) (n40:Int):Option ((Int×Int)⊕(List Signal)):=
 if n39 < n40 then
  (idx ab (aL ((aL ((aL ((aL (cd .u64 (IntKind.u64.wrap (aL (ah+aD))) (1:Int)))+ao)) - (1:Int))) - (aL (cd .u64 (IntKind.u64.wrap (aL (n39+n40))) (1:Int)))))).bind fun v41=>
  (idx ab (aL (cd .u64 (IntKind.u64.wrap (aL (n39+n40))) (1:Int)))).bind fun vq=>
  (cG v41 vq).bind fun wR=>
  if ¬ (wR < (0:Int)) then
   dW (aL ((aL (cd .u64 (IntKind.u64.wrap (aL (n39+n40))) (1:Int)))+(1:Int))) n40
  else
   dW n39 (aL (cd .u64 (IntKind.u64.wrap (aL (n39+n40))) (1:Int)))
 else
  Option.map .inr (gu self ab ah ao aD cG n39 ((decide (n39 < ao))&&(decide (ao < (aL ((aL ((aL (cd .u64 (IntKind.u64.wrap (aL (ah+aD))) (1:Int)))+ao)) - n39))))))
def pF (self:(List Signal)→Int→Int→Int→(Signal→Signal→Option Int)→Option (List Signal)) (ab:List Signal) (ah:Int) (ao:Int) (aD:Int) (cG:Signal→Signal→Option Int) (n39:Int) (n40:Int):Option (List Signal):=
 iter (fun x:Int×Int=>dZ self ab ah ao aD cG x.1 x.2) (n39,n40)
def ea (self:(List Signal)→Int→Int→Int→(Signal→Signal→Option Int)→Option (List Signal)) (ab:List Signal) (ah:Int) (ao:Int) (aD:Int) (cG:Signal→Signal→Option Int) (n35:Int) (n36:Int):Option (List Signal):=
 pF self ab ah ao aD cG n35 n36
def gw (self:(List Signal)→Int→Int→Int→(Signal→Signal→Option Int)→Option (List Signal)) (ab:List Signal) (ah:Int) (ao:Int) (aD:Int) (cG:Signal→Signal→Option Int):Option (List Signal):=
 if (aL (ao - ah))=(1:Int) then
  pC ab ah cG ao aD
 else
  if (aL (aD - ao))=(1:Int) then
   pE ab ao cG ah ao
  else
   if (aL (cd .u64 (IntKind.u64.wrap (aL (ah+aD))) (1:Int))) < ao then
    ea self ab ah ao aD cG (aL ((aL ((aL (cd .u64 (IntKind.u64.wrap (aL (ah+aD))) (1:Int)))+ao)) - aD)) (aL (cd .u64 (IntKind.u64.wrap (aL (ah+aD))) (1:Int)))
   else
    ea self ab ah ao aD cG ah ao
def gP:Nat→(List Signal)→Int→Int→Int→(Signal→Signal→Option Int)→Option (List Signal)
 | 0=>fun _ _ _ _ _=>none
 | k+1=>gw (gP k)
def iF (ab:List Signal) (ah:Int) (ao:Int) (aD:Int) (cG:Signal→Signal→Option Int):Option (List Signal):=
 gP depth ab ah ao aD cG
def eQ (n12:Int) (mU:List Signal):Option (((List Signal)×Int)⊕(List Signal)):=
 some (.inl (mU,aL (n12 * (2:Int))))
def lv (ah:Int) (ml:Signal→Signal→Option Int) (n12:Int) (nX:List Signal) (n17:Int):Option (((List Signal)×Int)⊕(List Signal)):=
 if (aL (n17+n12)) < ah then
  (fO nX.length (fun r:(List Signal)=>r.length) (iF nX n17 (aL (n17+n12)) ah ml)).bind fun v21=>
  eQ n12 v21
 else
  eQ n12 nX
def eR (ah:Int) (ml:Signal→Signal→Option Int) (n12:Int) (nX:List Signal) (n17:Int) (n18:Int):Option (((List Signal)×Int×Int)⊕(((List Signal)×Int)⊕(List Signal))):=
 if n18≤ah then
  (fO nX.length (fun r:(List Signal)=>r.length) (iF nX n17 (aL (n17+n12)) n18 ml)).bind fun vl=>
  some (.inl (vl,n18,aL (n18+(aL ((2:Int) * n12)))))
 else
  Option.map .inr (lv ah ml n12 nX n17)
def qm (ah:Int) (ml:Signal→Signal→Option Int) (n12:Int) (nX:List Signal) (n17:Int) (n18:Int):Option (((List Signal)×Int)⊕(List Signal)):=
 iter (fun x:(List Signal)×Int×Int=>eR ah ml n12 x.1 x.2.1 x.2.2) (nX,n17,n18)
def dh (ah:Int) (ml:Signal→Signal→Option Int) (dN:List Signal) (n12:Int):Option (((List Signal)×Int)⊕(List Signal)):=
 if n12 < ah then
  qm ah ml n12 dN (0:Int) (aL ((2:Int) * n12))
 else
  Option.map .inr (some dN)
def lx (ah:Int) (ml:Signal→Signal→Option Int) (dN:List Signal) (n12:Int):Option (List Signal):=
 iter (fun x:(List Signal)×Int=>dh ah ml x.1 x.2) (dN,n12)
def hJ (ah:Int) (ml:Signal→Signal→Option Int) (l4:List Signal) (n5:Int):Option (List Signal):=
 (fO l4.length (fun r:(List Signal)=>r.length) (cH l4 n5 ah ml)).bind fun v8=>
 lx ah ml v8 (20:Int)
def di (ah:Int) (ml:Signal→Signal→Option Int) (l4:List Signal) (n5:Int) (n6:Int):Option (((List Signal)×Int×Int)⊕(List Signal)):=
 if n6≤ah then
  (fO l4.length (fun r:(List Signal)=>r.length) (cH l4 n5 n6 ml)).bind fun v7=>
  some (.inl (v7,n6,aL (n6+(20:Int))))
 else
  Option.map .inr (hJ ah ml l4 n5)
def ly (ah:Int) (ml:Signal→Signal→Option Int) (l4:List Signal) (n5:Int) (n6:Int):Option (List Signal):=
 iter (fun x:(List Signal)×Int×Int=>di ah ml x.1 x.2.1 x.2.2) (l4,n5,n6)
def ec (ab:List Signal) (ah:Int) (ml:Signal→Signal→Option Int):Option (List Signal):=
 ly ah ml ab (0:Int) (20:Int)
def cz (ab:List Signal) (gZ:Signal→Signal→Option Int):Option (List Signal):=
 (fO ab.length (fun r:(List Signal)=>r.length) (ec ab (ab.length:Int) gZ)).bind fun v1=>
 some v1
def fx (ab:ak) (ah:Int):Option (Bool×ak):=
 (dH ab ah).bind fun v1=>
 some (decide (v1.1=(0:Int)),v1.2)
def kq (ab:Signal) (ah:Signal):Option Bool:=
 (jm ab ah).bind fun v3=>
 some (decide (v3=(0:Int)))
def dp (n12:Int) (nX:List Signal) (n17:Int):Option (((List Signal)×Int×Int)⊕(Int⊕(List Signal))):=
 some (.inl (nX,n17,aL (n12+(1:Int))))
def jn (l10:List Signal) (n11:Int):Option (Int⊕(List Signal)):=
 (Bq l10 n11 (l10.length:Int)).bind fun mU=>
 (Bq (Dc l10 n11 mU.length (⟨(0:Int),(0:Int),[],[],[],(0:Int)⟩:Signal)) (0:Int) n11).bind fun xp=>
 Option.map .inr (some xp)
def dq (gZ:Signal→Signal→Option Bool) (n2:Int) (l6:List Signal) (l10:List Signal) (n11:Int) (n12:Int):Option (((List Signal)×Int×Int)⊕(Int⊕(List Signal))):=
 if n12 < (l6.length:Int) then
  (zr l10 n2 l6.length n12).bind fun fo=>
  (zr l10 n2 l6.length (aL (n12 - (1:Int)))).bind fun gR=>
  (gZ fo gR).bind fun ll=>
  if (!ll)=true then
   (zr l10 n2 l6.length n12).bind fun zC=>
   (idx l10 n11).bind fun vl=>
   dp n12 (l10.set n11.toNat zC) (aL (n11+(1:Int)))
  else
   dp n12 l10 n11
 else
  Option.map .inr (jn l10 n11)
def oB (gZ:Signal→Signal→Option Bool) (n2:Int) (l6:List Signal) (l10:List Signal) (n11:Int) (n12:Int):Option (Int⊕(List Signal)):=
 iter (fun x:(List Signal)×Int×Int=>dq gZ n2 l6 x.1 x.2.1 x.2.2) (l10,n11,n12)
def dt (ab:List Signal) (gZ:Signal→Signal→Option Bool) (n2:Int):Option (Int⊕(List Signal)):=
 if n2 < (ab.length:Int) then
  (idx ab n2).bind fun v3=>
  (idx ab (aL (n2 - (1:Int)))).bind fun v4=>
  (gZ v3 v4).bind fun v5=>
  if v5=true then
   (Bq ab n2 (ab.length:Int)).bind fun l6=>
   oB gZ n2 l6 ab n2 (1:Int)
  else
   some (.inl (aL (n2+(1:Int))))
 else
  Option.map .inr (some ab)
def oC (ab:List Signal) (gZ:Signal→Signal→Option Bool) (n2:Int):Option (List Signal):=
 iter (fun x:Int=>dt ab gZ x) n2
def ed (ab:List Signal) (gZ:Signal→Signal→Option Bool):Option (List Signal):=
 if (ab.length:Int) < (2:Int) then
  some ab
 else
  oC ab gZ (1:Int)
def oV (ab:ak) (ah:Int) (ao:Int):Option (Int×ak):=
 (fx ab (12:Int)).bind fun v1=>
 if v1.1=true then
  (bU v1.2 [aL (ah - (1:Int)),aL (ao+(1:Int)),ah,ao,(-1099511627776:Int),(1099511627776:Int)]).bind fun v2=>
  some (v2.1,v2.2)
 else
  (ko v1.2 ah ao).bind fun v3=>
  some (v3.1,v3.2)
def iM (dN:List Signal) (n12:Int) (n13:Int) (xo:bO×ak) (v17:bO×ak) (n21:Int) (IU:bO) (FJ:List Int) (n28:Int) (n29:Int):Option (((List Int)×Int×(List Signal)×Int×Int)⊕((List Signal)×ak)):=
 (app dN [(⟨n12,n21,xo.1,v17.1,IU,n29⟩:Signal)]).bind fun RN=>
 (bU (⟨FJ,n28⟩:ak) [(0:Int),(1:Int),(3:Int),(10:Int),(40:Int)]).bind fun v33=>
 some (.inl (v33.2.L,v33.2.at_,RN,aL (n12+v33.1),aL (n13+(1:Int))))
def iN (dN:List Signal) (n12:Int) (n13:Int) (xo:bO×ak) (v17:bO×ak) (n21:Int) (ri:List Int) (n24:Int) (IU:bO):Option (((List Int)×Int×(List Signal)×Int×Int)⊕((List Signal)×ak)):=
 if n21=(4:Int) then
  (bU (⟨ri,n24⟩:ak) [(1:Int),(10:Int),(50:Int)]).bind fun v30=>
  iM dN n12 n13 xo v17 n21 IU v30.2.L v30.2.at_ (aL (n12+v30.1))
 else
  iM dN n12 n13 xo v17 n21 IU ri n24 (0:Int)
def iO (dN:List Signal) (n12:Int) (n13:Int) (xo:bO×ak) (v17:bO×ak) (sB:List Int) (n20:Int) (n21:Int):Option (((List Int)×Int×(List Signal)×Int×Int)⊕((List Signal)×ak)):=
 if (3:Int)≤n21 then
  (dI (⟨sB,n20⟩:ak) [([97,110,110]:bO),([98,111,98]:bO)]).bind fun v26=>
  iN dN n12 n13 xo v17 n21 v26.2.L v26.2.at_ v26.1
 else
  iN dN n12 n13 xo v17 n21 sB n20 []
def kr (AB:List Int) (n45:Int) (HL:List Signal):Option ((List Signal)×ak):=
 some (HL,(⟨AB,n45⟩:ak))
def iP (nY:List Signal) (Cq:List Int) (n41:Int) (RO:Bool):Option ((List Signal)×ak):=
 if RO=true then
  (dH (⟨Cq,n41⟩:ak) (nY.length:Int)).bind fun kW=>
  (idx nY kW.1).bind fun bQ=>
  (bU kW.2 [bQ.At,(-1:Int),(345686400000:Int)]).bind fun v49=>
  (oV v49.2 (1:Int) (5:Int)).bind fun v50=>
  (dI v50.2 [bQ.By,([]:bO),([65]:bO)]).bind fun v51=>
  (bU v51.2 [bQ.bu,(0:Int),bQ.At,aL ((aL (bQ.At+(2592000000:Int)))+(1:Int))]).bind fun CG=>
  kr CG.2.L CG.2.at_ ((((nY.set kW.1.toNat (⟨v49.1,bQ.Kind,bQ.Device,bQ.bg,bQ.By,bQ.bu⟩:Signal)).set kW.1.toNat (⟨v49.1,v50.1,bQ.Device,bQ.bg,bQ.By,bQ.bu⟩:Signal)).set kW.1.toNat (⟨v49.1,v50.1,bQ.Device,bQ.bg,v51.1,bQ.bu⟩:Signal)).set kW.1.toNat (⟨v49.1,v50.1,bQ.Device,bQ.bg,v51.1,CG.1⟩:Signal))
 else
  kr Cq n41 nY
def iQ (v35:Bool×ak) (nY:List Signal):Option ((List Signal)×ak):=
 if (0:Int) < (nY.length:Int) then
  (fx v35.2 (20:Int)).bind fun wR=>
  iP nY wR.2.L wR.2.at_ wR.1
 else
  iP nY v35.2.L v35.2.at_ false
def pG (l8:List Int) (n9:Int) (dN:List Signal):Option ((List Signal)×ak):=
 (fO dN.length (fun r:(List Signal)=>r.length) (cz dN (fun y0 y1=>jm y0 y1))).bind fun EO=>
 (fx (⟨l8,n9⟩:ak) (20:Int)).bind fun v35=>
 if (!v35.1)=true then
  (ed EO (fun y0 y1=>kq y0 y1)).bind fun Of=>
  iQ v35 Of
 else
  iQ v35 EO
def ku (ah:Int) (ao:Bool) (l8:List Int) (n9:Int) (dN:List Signal) (n12:Int) (n13:Int):Option (((List Int)×Int×(List Signal)×Int×Int)⊕((List Signal)×ak)):=
 if n13 < ah then
  (bU (⟨l8,n9⟩:ak) [(1:Int),(1:Int),(2:Int),(2:Int),(3:Int),(3:Int),(4:Int),(5:Int)]).bind fun ll=>
  (dI ll.2 [([100,97]:bO),([100,97]:bO),([100,98]:bO),([100,103]:bO)]).bind fun xo=>
  (dI xo.2 [([114,97]:bO),([114,97]:bO),([114,98]:bO)]).bind fun v17=>
  if ao=true then
   (bU v17.2 [(3:Int),(3:Int),(4:Int),(5:Int)]).bind fun v22=>
   iO dN n12 n13 xo v17 v22.2.L v22.2.at_ v22.1
  else
   iO dN n12 n13 xo v17 v17.2.L v17.2.at_ ll.1
 else
  Option.map .inr (pG l8 n9 dN)
def tf (ah:Int) (ao:Bool) (l8:List Int) (n9:Int) (dN:List Signal) (n12:Int) (n13:Int):Option ((List Signal)×ak):=
 iter (fun x:(List Int)×Int×(List Signal)×Int×Int=>ku ah ao x.1 x.2.1 x.2.2.1 x.2.2.2.1 x.2.2.2.2) (l8,n9,dN,n12,n13)
def np (ab:ak) (ah:Int) (ao:Bool):Option ((List Signal)×ak):=
 (dH ab (20:Int)).bind fun v1=>
 tf ah ao v1.2.L v1.2.at_ [] v1.1 (0:Int)
def iR (n14:Int) (Cr:List Int) (n18:Int) (mU:List aA):Option (((List Int)×Int×(List aA)×Int)⊕((List aA)×ak)):=
 some (.inl (Cr,n18,mU,aL (n14+(1:Int))))
def pH (dN:List aA) (n14:Int) (v22:bO) (v24:Int×ak) (vU:List Int) (n35:Int) (nY:List fE):Option (((List Int)×Int×(List aA)×Int)⊕((List aA)×ak)):=
 (app dN [(⟨v22,nY,v24.1⟩:aA)]).bind fun EP=>
 iR n14 vU n35 EP
def kA (dN:List aA) (n14:Int) (v22:bO) (v24:Int×ak) (rU:Int×ak) (vU:List Int) (n35:Int) (nY:List fE) (n38:Int) (n39:Int):Option (((List Int)×Int×(List fE)×Int×Int)⊕(((List Int)×Int×(List aA)×Int)⊕((List aA)×ak))):=
 if n39 < rU.1 then
  (dI (⟨vU,n35⟩:ak) [([111,112,115]:bO),([98,111,115,115]:bO)]).bind fun v41=>
  (app nY [(⟨n38,v41.1⟩:fE)]).bind fun LZ=>
  (bU v41.2 [(1:Int),(10:Int),(30:Int)]).bind fun v44=>
  some (.inl (v44.2.L,v44.2.at_,LZ,aL (n38+v44.1),aL (n39+(1:Int))))
 else
  Option.map .inr (pH dN n14 v22 v24 vU n35 nY)
def tg (dN:List aA) (n14:Int) (v22:bO) (v24:Int×ak) (rU:Int×ak) (vU:List Int) (n35:Int) (nY:List fE) (n38:Int) (n39:Int):Option (((List Int)×Int×(List aA)×Int)⊕((List aA)×ak)):=
 iter (fun x:(List Int)×Int×(List fE)×Int×Int=>kA dN n14 v22 v24 rU x.1 x.2.1 x.2.2.1 x.2.2.2.1 x.2.2.2.2) (vU,n35,nY,n38,n39)
def kB (RP:List Int) (n52:Int) (BR:List aA):Option ((List aA)×ak):=
 some (BR,(⟨RP,n52⟩:ak))
def iS (Qn:List Int) (n61:Int) (Og:List aA):Option ((List aA)×ak):=
 kB Qn n61 Og
def iT (dN:List aA) (tH:List Int) (n48:Int) (c49:Bool):Option ((List aA)×ak):=
 if c49=true then
  (dH (⟨tH,n48⟩:ak) (dN.length:Int)).bind fun v55=>
  (idx dN v55.1).bind fun tI=>
  (dI v55.2 [tI.bg,([]:bO),([114,97]:bO)]).bind fun uz=>
  (bU uz.2 [tI.aX,(999:Int),(1:Int),(-1:Int)]).bind fun v58=>
  (fx v58.2 (2:Int)).bind fun v59=>
  if v59.1=true then
   (oV v59.2 (0:Int) (2592000000:Int)).bind fun KE=>
   (dI KE.2 [([]:bO),([111,112,115]:bO)]).bind fun v66=>
   (app tI.aV [(⟨KE.1,v66.1⟩:fE)]).bind fun Jq=>
   iS v66.2.L v66.2.at_ ((dN.set v55.1.toNat (⟨uz.1,tI.aV,v58.1⟩:aA)).set v55.1.toNat (⟨uz.1,Jq,v58.1⟩:aA))
  else
   iS v59.2.L v59.2.at_ (dN.set v55.1.toNat (⟨uz.1,tI.aV,v58.1⟩:aA))
 else
  kB tH n48 dN
def pI (l8:List Int) (n9:Int) (dN:List aA):Option ((List aA)×ak):=
 if (0:Int) < (dN.length:Int) then
  (fx (⟨l8,n9⟩:ak) (12:Int)).bind fun v50=>
  iT dN v50.2.L v50.2.at_ v50.1
 else
  iT dN l8 n9 false
def kC (l8:List Int) (n9:Int) (dN:List aA) (n14:Int):Option (((List Int)×Int×(List aA)×Int)⊕((List aA)×ak)):=
 if n14 < ([([114,97]:bO),([114,98]:bO)].length:Int) then
  (idx [([114,97]:bO),([114,98]:bO)] n14).bind fun v22=>
  (fx (⟨l8,n9⟩:ak) (3:Int)).bind fun v23=>
  if v23.1=true then
   iR n14 v23.2.L v23.2.at_ dN
  else
   (bU v23.2 [(0:Int),(0:Int),(1000:Int)]).bind fun v24=>
   (bU v24.2 [(0:Int),(5:Int)]).bind fun v26=>
   (ko v26.2 (1:Int) (3:Int)).bind fun rU=>
   tg dN n14 v22 v24 rU rU.2.L rU.2.at_ [] v26.1 (0:Int)
 else
  Option.map .inr (pI l8 n9 dN)
def th (l8:List Int) (n9:Int) (dN:List aA) (n14:Int):Option ((List aA)×ak):=
 iter (fun x:(List Int)×Int×(List aA)×Int=>kC x.1 x.2.1 x.2.2.1 x.2.2.2) (l8,n9,dN,n14)
def nq (ab:ak):Option ((List aA)×ak):=
 th ab.L ab.at_ [] (0:Int)
def lz (n10:Int) (v12:bO) (gR:Int×ak) (xp:List Int) (n22:Int) (Qo:List aB) (n25:Int) (n26:Int):Option (((List Int)×Int×(List aB)×Int×Int)⊕(((List Int)×Int×(List aB)×Int)⊕((List aB)×ak))):=
 if n26 < gR.1 then
  (bU (⟨xp,n22⟩:ak) [(5:Int),(20:Int),(50:Int)]).bind fun rU=>
  (dI rU.2 [([97,110,110]:bO),([98,111,98]:bO)]).bind fun v28=>
  (app Qo [(⟨v12,v28.1,(⟨n25,aL (n25+rU.1)⟩:ar)⟩:aB)]).bind fun nW=>
  (bU v28.2 [(0:Int),(0:Int),(10:Int)]).bind fun v31=>
  some (.inl (v31.2.L,v31.2.at_,nW,aL ((aL (n25+rU.1))+v31.1),aL (n26+(1:Int))))
 else
  Option.map .inr (some (.inl (xp,n22,Qo,aL (n10+(1:Int)))))
def tY (n10:Int) (v12:bO) (gR:Int×ak) (xp:List Int) (n22:Int) (Qo:List aB) (n25:Int) (n26:Int):Option (((List Int)×Int×(List aB)×Int)⊕((List aB)×ak)):=
 iter (fun x:(List Int)×Int×(List aB)×Int×Int=>lz n10 v12 gR x.1 x.2.1 x.2.2.1 x.2.2.2.1 x.2.2.2.2) (xp,n22,Qo,n25,n26)
def lA (M6:List Int) (n37:Int) (xP:List aB):Option ((List aB)×ak):=
 some (xP,(⟨M6,n37⟩:ak))
def js (l9:List aB) (Pg:List Int) (n33:Int) (RQ:Bool):Option ((List aB)×ak):=
 if RQ=true then
  (dH (⟨Pg,n33⟩:ak) (l9.length:Int)).bind fun v39=>
  (idx l9 v39.1).bind fun v40=>
  (dI v39.2 [v40.cO,([]:bO),([122,122]:bO)]).bind fun v41=>
  (dI v41.2 [v40.gm,([65]:bO)]).bind fun vq=>
  (bU vq.2 [v40.Time.To,v40.Time.aM,(500:Int)]).bind fun wR=>
  lA wR.2.L wR.2.at_ (((l9.set v39.1.toNat (⟨v41.1,v40.gm,v40.Time⟩:aB)).set v39.1.toNat (⟨v41.1,vq.1,v40.Time⟩:aB)).set v39.1.toNat (⟨v41.1,vq.1,(⟨v40.Time.aM,wR.1⟩:ar)⟩:aB))
 else
  lA Pg n33 l9
def qn (l6:List Int) (n7:Int) (l9:List aB):Option ((List aB)×ak):=
 if (0:Int) < (l9.length:Int) then
  (fx (⟨l6,n7⟩:ak) (12:Int)).bind fun v35=>
  js l9 v35.2.L v35.2.at_ v35.1
 else
  js l9 l6 n7 false
def lB (l6:List Int) (n7:Int) (l9:List aB) (n10:Int):Option (((List Int)×Int×(List aB)×Int)⊕((List aB)×ak)):=
 if n10 < ([([98,111,115,115]:bO),([111,112,115]:bO)].length:Int) then
  (idx [([98,111,115,115]:bO),([111,112,115]:bO)] n10).bind fun v12=>
  (bU (⟨l6,n7⟩:ak) [(0:Int),(10:Int)]).bind fun fo=>
  (dH fo.2 (4:Int)).bind fun gR=>
  tY n10 v12 gR gR.2.L gR.2.at_ l9 fo.1 (0:Int)
 else
  Option.map .inr (qn l6 n7 l9)
def tZ (l6:List Int) (n7:Int) (l9:List aB) (n10:Int):Option ((List aB)×ak):=
 iter (fun x:(List Int)×Int×(List aB)×Int=>lB x.1 x.2.1 x.2.2.1 x.2.2.2) (l6,n7,l9,n10)
def oD (ab:ak):Option ((List aB)×ak):=
 tZ ab.L ab.at_ [] (0:Int)
def qK (ab:ak):Option (Int×ak):=
 (dH ab (300:Int)).bind fun v1=>
 (dH v1.2 (300:Int)).bind fun v2=>
 (bU v2.2 [(345686399999:Int),(-1:Int),(345686400000:Int)]).bind fun v3=>
 (bU v3.2 [(0:Int),(5:Int),(20:Int),(40:Int),(60:Int),(80:Int),(120:Int),v1.1,v2.1,v3.1]).bind fun v4=>
 some (v4.1,v4.2)
def nt (l6:List Int) (n7:Int) (n8:Int) (n9:Int):Option (ar×ak):=
 some ((⟨n8,n9⟩:ar),(⟨l6,n7⟩:ak))
def qL (ab:ak):Option (ar×ak):=
 (bU ab [(0:Int),(5:Int),(30:Int),(100:Int)]).bind fun v2=>
 (bU v2.2 [(30:Int),(100:Int),(250:Int),(1000:Int),(345686400000:Int)]).bind fun v3=>
 (fx v3.2 (20:Int)).bind fun v5=>
 if v5.1=true then
  (bU v5.2 [(-1:Int),(10:Int)]).bind fun v10=>
  (bU v10.2 [(9:Int),(345686400001:Int)]).bind fun v11=>
  nt v11.2.L v11.2.at_ v10.1 v11.1
 else
  nt v5.2.L v5.2.at_ v2.1 v3.1
def yz (c1:Bool):Bool:=
 c1
def xc (ab:Int) (ah:Int) (ao:Int):Bool:=
 yz ((decide (ah≤ab))&&(decide (ab≤ao)))
def ua (c1:Bool):Option Bool:=
 some c1
def ub (ab:bO):Option Bool:=
 if (xc (ab.length:Int) (1:Int) (40:Int))=true then
  (FA ab ([97,98,99,100,101,102,103,104,105,106,107,108,109,110,111,112,113,114,115,116,117,118,119,120,121,122,48,49,50,51,52,53,54,55,56,57,45,95]:bO)).bind fun v2=>
  if v2=([]:bO) then
   (idx ab (0:Int)).bind fun c3=>
   ua (decide ((0:Int)≤(uI ([97,98,99,100,101,102,103,104,105,106,107,108,109,110,111,112,113,114,115,116,117,118,119,120,121,122]:bO) (c3.toNat:Int))))
  else
   ua false
 else
  ua false
def nZ (n2:Int):Option (Int⊕Int):=
 some (.inl (aL (n2+(1:Int))))
def qo (n2:Int) (vV:Bool):Option (Int⊕Int):=
 if vV=true then
  Option.map .inr (some (13:Int))
 else
  nZ n2
def lC (ab:List aB) (n2:Int) (v3:aB) (c8:Bool):Option (Int⊕Int):=
 if c8=true then
  Option.map .inr (some (1:Int))
 else
  if n2=(0:Int) then
   nZ n2
  else
   (idx ab (aL (n2 - (1:Int)))).bind fun v9=>
   (eM [(Lib.compareBytes v9.cO v3.cO),(cmp_Compare_int v9.Time.aM v3.Time.aM)]).bind fun v11=>
   if (0:Int)≤v11 then
    Option.map .inr (some (7:Int))
   else
    qo n2 ((decide (v9.cO=v3.cO))&&(decide (v3.Time.aM < v9.Time.To)))
def jt (ab:List aB) (n2:Int) (v3:aB) (c5:Bool):Option (Int⊕Int):=
 if c5=true then
  Option.map .inr (some (5:Int))
 else
  lC ab n2 v3 ((decide (v3.Time.aM < (0:Int)))||((decide (v3.Time.To≤v3.Time.aM))||(decide ((345686400000:Int) < v3.Time.To))))
def lD (ab:List aB) (n2:Int):Option (Int⊕Int):=
 if n2 < (ab.length:Int) then
  (idx ab n2).bind fun v3=>
  (ub v3.cO).bind fun v6=>
  if (!v6)=true then
   jt ab n2 v3 true
  else
   (ub v3.gm).bind fun v7=>
   jt ab n2 v3 (!v7)
 else
  Option.map .inr (some (0:Int))
def uc (ab:List aB) (n2:Int):Option Int:=
 iter (fun x:Int=>lD ab x) n2
def oE (ab:List aB):Option Int:=
 if (1000:Int) < (ab.length:Int) then
  some (2:Int)
 else
  uc ab (0:Int)
def ti (n5:Int) (c7:Bool):Option (Int⊕Bool):=
 if c7=true then
  Option.map .inr (some false)
 else
  some (.inl (aL (n5+(1:Int))))
def nu (ab:bO) (n5:Int):Option (Int⊕Bool):=
 if n5 < (ab.length:Int) then
  (idx ab n5).bind fun c6=>
  ti n5 (if (97:Int)≤(c6.toNat:Int) then if (c6.toNat:Int)≤(122:Int) then !true else if (48:Int)≤(c6.toNat:Int) then if (c6.toNat:Int)≤(57:Int) then !true else if (c6.toNat:Int)=(45:Int) then !true else decide (¬ ((c6.toNat:Int)=(95:Int))) else if (c6.toNat:Int)=(45:Int) then !true else decide (¬ ((c6.toNat:Int)=(95:Int))) else if (48:Int)≤(c6.toNat:Int) then if (c6.toNat:Int)≤(57:Int) then !true else if (c6.toNat:Int)=(45:Int) then !true else decide (¬ ((c6.toNat:Int)=(95:Int))) else if (c6.toNat:Int)=(45:Int) then !true else decide (¬ ((c6.toNat:Int)=(95:Int))))
 else
  Option.map .inr (some true)
def vW (ab:bO) (n5:Int):Option Bool:=
 iter (fun x:Int=>nu ab x) n5
def nv (ab:bO) (c1:Bool):Option Bool:=
 if c1=true then
  some false
 else
  vW ab (0:Int)
def jC (ab:bO):Option Bool:=
 if ab=([]:bO) then
  nv ab true
 else
  if (40:Int) < (ab.length:Int) then
   nv ab true
  else
   (idx ab (0:Int)).bind fun c2=>
   if (c2.toNat:Int) < (97:Int) then
    nv ab true
   else
    (idx ab (0:Int)).bind fun c3=>
    nv ab (decide ((122:Int) < (c3.toNat:Int)))
def vX (c1:Bool):Bool:=
 c1
def mq (ab:Int) (ah:Int) (ao:Int):Bool:=
 vX ((decide (ab < ah))||(decide (ao < ab)))
def da (n9:Int) (v10:fE) (vV:Bool):Option (Int⊕(Int⊕Int)):=
 if vV=true then
  Option.map .inr (Option.map .inr (some (7:Int)))
 else
  (jC v10.cO).bind fun gR=>
  if (!gR)=true then
   Option.map .inr (Option.map .inr (some (5:Int)))
  else
   some (.inl (aL (n9+(1:Int))))
def jR (n2:Int) (BS:Bool):Option (Int⊕Int):=
 if BS=true then
  Option.map .inr (some (1:Int))
 else
  some (.inl (aL (n2+(1:Int))))
def fF (n2:Int) (v3:aA) (n9:Int):Option (Int⊕(Int⊕Int)):=
 if n9 < (v3.aV.length:Int) then
  (idx v3.aV n9).bind fun v10=>
  if (mq v10.bn (0:Int) (2592000000:Int))=true then
   Option.map .inr (Option.map .inr (some (1:Int)))
  else
   if (0:Int) < n9 then
    (idx v3.aV (aL (n9 - (1:Int)))).bind fun fo=>
    da n9 v10 (decide (v10.bn≤fo.bn))
   else
    da n9 v10 false
 else
  Option.map .inr (jR n2 ((decide (v3.aX≠(0:Int)))&&(mq v3.aX (1000:Int) (2592000000:Int))))
def gS (n2:Int) (v3:aA) (n9:Int):Option (Int⊕Int):=
 iter (fun x:Int=>fF n2 v3 x) n9
def dL (n2:Int) (v3:aA) (c6:Bool):Option (Int⊕Int):=
 if c6=true then
  Option.map .inr (some (7:Int))
 else
  if (v3.aV.length:Int)=(0:Int) then
   Option.map .inr (some (8:Int))
  else
   if (10:Int) < (v3.aV.length:Int) then
    Option.map .inr (some (2:Int))
   else
    gS n2 v3 (0:Int)
def fG (ab:List aA) (n2:Int):Option (Int⊕Int):=
 if n2 < (ab.length:Int) then
  (idx ab n2).bind fun v3=>
  (jC v3.bg).bind fun v5=>
  if (!v5)=true then
   Option.map .inr (some (5:Int))
  else
   if (0:Int) < n2 then
    (idx ab (aL (n2 - (1:Int)))).bind fun v7=>
    dL n2 v3 (Op.bytesLess v3.bg v7.bg||v3.bg==v7.bg)
   else
    dL n2 v3 false
 else
  Option.map .inr (some (0:Int))
def mO (ab:List aA) (n2:Int):Option Int:=
 iter (fun x:Int=>fG ab x) n2
def cQ (ab:List aA):Option Int:=
 if (100:Int) < (ab.length:Int) then
  some (2:Int)
 else
  mO ab (0:Int)
def iU (n9:Int) (v10:fE) (vV:Bool):Option (Int⊕(Int⊕Int)):=
 if vV=true then
  Option.map .inr (Option.map .inr (some (7:Int)))
 else
  (ub v10.cO).bind fun gR=>
  if (!gR)=true then
   Option.map .inr (Option.map .inr (some (5:Int)))
  else
   some (.inl (aL (n9+(1:Int))))
def pJ (n2:Int) (BS:Bool):Option (Int⊕Int):=
 if BS=true then
  Option.map .inr (some (1:Int))
 else
  some (.inl (aL (n2+(1:Int))))
def kD (n2:Int) (v3:aA) (n9:Int):Option (Int⊕(Int⊕Int)):=
 if n9 < (v3.aV.length:Int) then
  (idx v3.aV n9).bind fun v10=>
  if (!(xc v10.bn (0:Int) (2592000000:Int)))=true then
   Option.map .inr (Option.map .inr (some (1:Int)))
  else
   if (0:Int) < n9 then
    (idx v3.aV (aL (n9 - (1:Int)))).bind fun fo=>
    iU n9 v10 (decide (v10.bn≤fo.bn))
   else
    iU n9 v10 false
 else
  Option.map .inr (pJ n2 ((decide (v3.aX≠(0:Int)))&&(!(xc v3.aX (1000:Int) (2592000000:Int)))))
def pK (n2:Int) (v3:aA) (n9:Int):Option (Int⊕Int):=
 iter (fun x:Int=>kD n2 v3 x) n9
def kE (n2:Int) (v3:aA) (c6:Bool):Option (Int⊕Int):=
 if c6=true then
  Option.map .inr (some (7:Int))
 else
  if (v3.aV.length:Int)=(0:Int) then
   Option.map .inr (some (8:Int))
  else
   if (10:Int) < (v3.aV.length:Int) then
    Option.map .inr (some (2:Int))
   else
    pK n2 v3 (0:Int)
def kF (ab:List aA) (n2:Int):Option (Int⊕Int):=
 if n2 < (ab.length:Int) then
  (idx ab n2).bind fun v3=>
  (ub v3.bg).bind fun v5=>
  if (!v5)=true then
   Option.map .inr (some (5:Int))
  else
   if (0:Int) < n2 then
    (idx ab (aL (n2 - (1:Int)))).bind fun v7=>
    kE n2 v3 (Op.bytesLess v3.bg v7.bg||v3.bg==v7.bg)
   else
    kE n2 v3 false
 else
  Option.map .inr (some (0:Int))
def tj (ab:List aA) (n2:Int):Option Int:=
 iter (fun x:Int=>kF ab x) n2
def jD (ab:List aA):Option Int:=
 if (100:Int) < (ab.length:Int) then
  some (2:Int)
 else
  tj ab (0:Int)
def fX (n2:Int):Option (Int⊕Int):=
 some (.inl (aL (n2+(1:Int))))
def kG (n2:Int) (vV:Bool):Option (Int⊕Int):=
 if vV=true then
  Option.map .inr (some (13:Int))
 else
  fX n2
def fY (ab:List aB) (n2:Int) (v3:aB) (c8:Bool):Option (Int⊕Int):=
 if c8=true then
  Option.map .inr (some (1:Int))
 else
  if n2=(0:Int) then
   fX n2
  else
   (idx ab (aL (n2 - (1:Int)))).bind fun v9=>
   (eM [(Lib.compareBytes v3.cO v9.cO),(cmp_Compare_int v3.Time.aM v9.Time.aM)]).bind fun v11=>
   if v11≤(0:Int) then
    Option.map .inr (some (7:Int))
   else
    kG n2 ((decide (v3.cO=v9.cO))&&(decide (v3.Time.aM < v9.Time.To)))
def du (ab:List aB) (n2:Int) (v3:aB) (c5:Bool):Option (Int⊕Int):=
 if c5=true then
  Option.map .inr (some (5:Int))
 else
  fY ab n2 v3 ((decide (v3.Time.To≤v3.Time.aM))||((decide (v3.Time.aM < (0:Int)))||(decide ((345686400000:Int) < v3.Time.To))))
def fZ (ab:List aB) (n2:Int):Option (Int⊕Int):=
 if n2 < (ab.length:Int) then
  (idx ab n2).bind fun v3=>
  (jC v3.cO).bind fun v6=>
  if (!v6)=true then
   du ab n2 v3 true
  else
   (jC v3.gm).bind fun v7=>
   du ab n2 v3 (!v7)
 else
  Option.map .inr (some (0:Int))
def nw (ab:List aB) (n2:Int):Option Int:=
 iter (fun x:Int=>fZ ab x) n2
def cP (ab:List aB):Option Int:=
 if (1000:Int) < (ab.length:Int) then
  some (2:Int)
 else
  nw ab (0:Int)
def j6 (ab:List aB) (ah:bO):Option Int:=
 (cP ab).bind fun v1=>
 if v1≠(0:Int) then
  some v1
 else
  (jC ah).bind fun v2=>
  if (!v2)=true then
   some (5:Int)
  else
   some (0:Int)
def jo (ab:Int):Bool:=
 !(mq ab (0:Int) (345686399999:Int))
def oO (n2:Int) (v3:aB) (c5:Bool):Option (Int⊕bO):=
 if c5=true then
  Option.map .inr (some v3.gm)
 else
  some (.inl (aL (n2+(1:Int))))
def j8 (ab:List aB) (ah:bO) (ao:Int) (n2:Int):Option (Int⊕bO):=
 if n2 < (ab.length:Int) then
  (idx ab n2).bind fun v3=>
  oO n2 v3 ((decide (v3.cO=ah))&&((decide (v3.Time.aM≤ao))&&(decide (ao < v3.Time.To))))
 else
  Option.map .inr (some ([]:bO))
def uZ (ab:List aB) (ah:bO) (ao:Int) (n2:Int):Option bO:=
 iter (fun x:Int=>j8 ab ah ao x) n2
def oc (ab:List aB) (ah:bO) (ao:Int):Option bO:=
 uZ ab ah ao (0:Int)
def pL (ab:List aB) (ah:bO) (ao:Int):Option (bO×Bool×Int):=
 (j6 ab ah).bind fun v1=>
 if v1≠(0:Int) then
  some (([]:bO),false,v1)
 else
  if (!(jo ao))=true then
   some (([]:bO),false,(1:Int))
  else
   (oc ab ah ao).bind fun v2=>
   some (v2,decide (v2≠([]:bO)),(0:Int))
def qp (ab:bO):Option Int:=
 (ub ab).bind fun v1=>
 if (!v1)=true then
  some (5:Int)
 else
  some (0:Int)
def iz (ab:Int):Int:=
 if (!(xc ab (0:Int) (345686399999:Int)))=true then
  (1:Int)
 else
  (0:Int)
def oP (ab:List Int) (n2:Int):Option (Int⊕Int):=
 if n2 < (ab.length:Int) then
  (idx ab n2).bind fun v3=>
  if v3≠(0:Int) then
   Option.map .inr (some v3)
  else
   some (.inl (aL (n2+(1:Int))))
 else
  Option.map .inr (some (0:Int))
def AD (ab:List Int) (n2:Int):Option Int:=
 iter (fun x:Int=>oP ab x) n2
def l0 (ab:List Int):Option Int:=
 AD ab (0:Int)
def qA (n2:Int) (v3:aB) (c5:Bool):Option (Int⊕bO):=
 if c5=true then
  Option.map .inr (some v3.gm)
 else
  some (.inl (aL (n2+(1:Int))))
def mG (ab:List aB) (ah:bO) (ao:Int) (n2:Int):Option (Int⊕bO):=
 if n2 < (ab.length:Int) then
  (idx ab n2).bind fun v3=>
  qA n2 v3 ((decide (v3.cO=ah))&&((decide (v3.Time.aM≤ao))&&(decide (ao < v3.Time.To))))
 else
  Option.map .inr (some ([]:bO))
def xq (ab:List aB) (ah:bO) (ao:Int) (n2:Int):Option bO:=
 iter (fun x:Int=>mG ab ah ao x) n2
def qq (ab:List aB) (ah:bO) (ao:Int):Option bO:=
 xq ab ah ao (0:Int)
def pM (c2:Bool):Bool:=
 c2
def gM (ab:ar):Bool:=
 pM ((!(mq ab.aM (0:Int) ab.To))&&(decide (ab.To≤(345686400000:Int))))
def jE (n12:Int) (vm:List ar) (n16:Int):Option (((List ar)×Int×Int)⊕((List ar)×Int)):=
 some (.inl (vm,n16,aL (n12+(1:Int))))
def jF (n12:Int) (v17:aB) (xp:List ar):Option (((List ar)×Int×Int)⊕((List ar)×Int)):=
 jE n12 xp v17.Time.To
def ma (ao:ar) (l10:List ar) (n11:Int) (n12:Int) (v17:aB) (RR:Bool):Option (((List ar)×Int×Int)⊕((List ar)×Int)):=
 if RR=true then
  jE n12 l10 n11
 else
  if n11 < (min v17.Time.aM ao.To) then
   (app l10 [(⟨n11,min v17.Time.aM ao.To⟩:ar)]).bind fun Eb=>
   jF n12 v17 Eb
  else
   jF n12 v17 l10
def jG (AY:List ar):Option ((List ar)×Int):=
 some (AY,(0:Int))
def oW (ao:ar) (l10:List ar) (n11:Int):Option ((List ar)×Int):=
 if n11 < ao.To then
  (app l10 [(⟨n11,ao.To⟩:ar)]).bind fun sY=>
  jG sY
 else
  jG l10
def ia (ab:List aB) (ah:bO) (ao:ar) (l10:List ar) (n11:Int) (n12:Int):Option (((List ar)×Int×Int)⊕((List ar)×Int)):=
 if n12 < (ab.length:Int) then
  (idx ab n12).bind fun v17=>
  ma ao l10 n11 n12 v17 ((decide (v17.cO≠ah))||(decide (v17.Time.To≤n11)))
 else
  Option.map .inr (oW ao l10 n11)
def oX (ab:List aB) (ah:bO) (ao:ar) (l10:List ar) (n11:Int) (n12:Int):Option ((List ar)×Int):=
 iter (fun x:(List ar)×Int×Int=>ia ab ah ao x.1 x.2.1 x.2.2) (l10,n11,n12)
def mr (ab:List aB) (ah:bO) (ao:ar):Option ((List ar)×Int):=
 (j6 ab ah).bind fun v2=>
 if v2≠(0:Int) then
  some ([],v2)
 else
  if (!(gM ao))=true then
   some ([],(1:Int))
  else
   oX ab ah ao [] ao.aM (0:Int)
def od (c2:Bool):Int:=
 if c2=true then
  (1:Int)
 else
  (0:Int)
def fP (ab:ar):Int:=
 od ((!(xc ab.aM (0:Int) ab.To))||(decide ((345686400000:Int) < ab.To)))
def iA (ab:List aB):Option (List aB):=
 app [] ab
def eI (ab:List aB) (gZ:aB→Option Bool) (n2:Int):Option (Int⊕Int):=
 if n2 < (ab.length:Int) then
  (idx ab n2).bind fun v3=>
  (gZ v3).bind fun v4=>
  if v4=true then
   Option.map .inr (some n2)
  else
   some (.inl (aL (n2+(1:Int))))
 else
  Option.map .inr (some (-1:Int))
def pY (ab:List aB) (gZ:aB→Option Bool) (n2:Int):Option Int:=
 iter (fun x:Int=>eI ab gZ x) n2
def iZ (ab:List aB) (gZ:aB→Option Bool):Option Int:=
 pY ab gZ (0:Int)
def ee (n7:Int) (dN:List aB) (n12:Int):Option (((List aB)×Int×Int)⊕(List aB)):=
 some (.inl (dN,n12,aL (n7+(1:Int))))
def kH (l5:List aB) (n6:Int):Option (List aB):=
 (Bq l5 n6 (l5.length:Int)).bind fun sC=>
 (Bq (Dc l5 n6 sC.length (⟨[],[],(⟨(0:Int),(0:Int)⟩:ar)⟩:aB)) (0:Int) n6).bind fun vm=>
 some vm
def ef (gZ:aB→Option Bool) (l5:List aB) (n6:Int) (n7:Int):Option (((List aB)×Int×Int)⊕(List aB)):=
 if n7 < (l5.length:Int) then
  (idx l5 n7).bind fun v8=>
  (gZ v8).bind fun v10=>
  if (!v10)=true then
   (idx l5 n6).bind fun fo=>
   ee n7 (l5.set n6.toNat v8) (aL (n6+(1:Int)))
  else
   ee n7 l5 n6
 else
  Option.map .inr (kH l5 n6)
def pN (gZ:aB→Option Bool) (l5:List aB) (n6:Int) (n7:Int):Option (List aB):=
 iter (fun x:(List aB)×Int×Int=>ef gZ x.1 x.2.1 x.2.2) (l5,n6,n7)
def fy (ab:List aB) (gZ:aB→Option Bool):Option (List aB):=
 (iZ ab gZ).bind fun v1=>
 if v1=(-1:Int) then
  some ab
 else
  pN gZ ab v1 (aL (v1+(1:Int)))
def ga (ab:aB) (ah:bO):Bool:=
 decide (ab.cO≠ah)
def lE (n15:Int) (n16:Int) (zC:aB) (xp:List ar):Option (((List ar)×Int×Int)⊕(List ar)):=
 some (.inl (xp,max n15 zC.Time.To,aL (n16+(1:Int))))
def ib (ao:ar) (l7:List aB) (sC:List ar) (n15:Int) (n16:Int):Option (((List ar)×Int×Int)⊕(List ar)):=
 if n16 < (l7.length:Int) then
  (idx l7 n16).bind fun zC=>
  if n15 < (min zC.Time.aM ao.To) then
   (app sC [(⟨n15,min zC.Time.aM ao.To⟩:ar)]).bind fun Eb=>
   lE n15 n16 zC Eb
  else
   lE n15 n16 zC sC
 else
  Option.map .inr (some sC)
def ud (ao:ar) (l7:List aB) (sC:List ar) (n15:Int) (n16:Int):Option (List ar):=
 iter (fun x:(List ar)×Int×Int=>ib ao l7 x.1 x.2.1 x.2.2) (sC,n15,n16)
def oF (ab:List aB) (ah:bO) (ao:ar):Option (List ar):=
 (iA ab).bind fun v3=>
 (fy v3 (fun y0=>some (ga y0 ah))).bind fun v5=>
 (app v5 [(⟨[],[],(⟨ao.To,ao.To⟩:ar)⟩:aB)]).bind fun l7=>
 ud ao l7 [] ao.aM (0:Int)
def fA (ab:List ar) (ah:List ar) (n2:Int):Option (Int⊕Bool):=
 if n2 < (ab.length:Int) then
  (idx ab n2).bind fun v3=>
  (idx ah n2).bind fun v4=>
  if v3≠v4 then
   Option.map .inr (some false)
  else
   some (.inl (aL (n2+(1:Int))))
 else
  Option.map .inr (some true)
def qM (ab:List ar) (ah:List ar) (n2:Int):Option Bool:=
 iter (fun x:Int=>fA ab ah x) n2
def gx (ab:List ar) (ah:List ar):Option Bool:=
 if (ab.length:Int)≠(ah.length:Int) then
  some false
 else
  qM ab ah (0:Int)
def kI (c9:Bool):Option Int:=
 if c9=true then
  some (3:Int)
 else
  some (0:Int)
def kJ (ab:Signal) (c8:Bool):Option Int:=
 if c8=true then
  some (1:Int)
 else
  kI ((decide (¬ (ab.Kind=(4:Int))))&&(decide (ab.bu≠(0:Int))))
def kK (ab:Signal) (c7:Bool):Option Int:=
 if c7=true then
  some (3:Int)
 else
  kJ ab ((decide (ab.Kind=(4:Int)))&&((mq ab.bu (aL (ab.At+(1:Int))) (aL (ab.At+(2592000000:Int))))||(decide ((345686400000:Int) < ab.bu))))
def gb (ab:Signal) (c5:Bool):Option Int:=
 if c5=true then
  some (5:Int)
 else
  kK ab ((decide (¬ ((3:Int)≤ab.Kind)))&&(decide (ab.By≠([]:bO))))
def gd (ab:Signal) (c2:Bool):Option Int:=
 if c2=true then
  some (5:Int)
 else
  if (mq ab.Kind (1:Int) (5:Int))=true then
   some (4:Int)
  else
   if (3:Int)≤ab.Kind then
    (jC ab.By).bind fun v6=>
    gb ab (!v6)
   else
    gb ab false
def kL (ab:Signal):Option Int:=
 if (!(jo ab.At))=true then
  some (1:Int)
 else
  (jC ab.Device).bind fun v3=>
  if (!v3)=true then
   gd ab true
  else
   (jC ab.bg).bind fun v4=>
   gd ab (!v4)
def nx (ab:Signal) (ah:Signal):Option Int:=
 (eM [(cmp_Compare_int ab.At ah.At),(Lib.compareBytes ab.Device ah.Device),(Lib.compareBytes ab.bg ah.bg),(cmp_Compare_int ab.Kind ah.Kind)]).bind fun v3=>
 some v3
def gU (n2:Int) (c6:Bool):Option (Int⊕Int):=
 if c6=true then
  Option.map .inr (some (7:Int))
 else
  some (.inl (aL (n2+(1:Int))))
def db (ab:List Signal) (n2:Int):Option (Int⊕Int):=
 if n2 < (ab.length:Int) then
  (idx ab n2).bind fun v3=>
  (kL v3).bind fun v5=>
  if v5≠(0:Int) then
   Option.map .inr (some v5)
  else
   if (0:Int) < n2 then
    (idx ab (aL (n2 - (1:Int)))).bind fun v7=>
    (nx v3 v7).bind fun v8=>
    gU n2 (decide (v8≤(0:Int)))
   else
    gU n2 false
 else
  Option.map .inr (some (0:Int))
def qd (ab:List Signal) (n2:Int):Option Int:=
 iter (fun x:Int=>db ab x) n2
def ic (ab:List Signal):Option Int:=
 if (5000:Int) < (ab.length:Int) then
  some (2:Int)
 else
  qd ab (0:Int)
def qB (ab:List Int) (n2:Int):Option (Int⊕Int):=
 if n2 < (ab.length:Int) then
  (idx ab n2).bind fun v3=>
  if v3≠(0:Int) then
   Option.map .inr (some v3)
  else
   some (.inl (aL (n2+(1:Int))))
 else
  Option.map .inr (some (0:Int))
def CH (ab:List Int) (n2:Int):Option Int:=
 iter (fun x:Int=>qB ab x) n2
def uJ (ab:List Int):Option Int:=
 CH ab (0:Int)
def rV (ab:aq) (ah:aq):Option Int:=
 (eM [(Lib.compareBytes ab.aG ah.aG),(Lib.compareBytes ab.a8 ah.a8)]).bind fun v3=>
 some v3
def iV (ab:au) (ah:au):Option Int:=
 (rV ab.bl ah.bl).bind fun v1=>
 some v1
def kM (n19:Int) (xp:List (aq×Int)) (Eb:List au) (sY:List Int):Option (((List (aq×Int))×(List au)×(List Int)×Int)⊕ch):=
 some (.inl (xp,Eb,sY,aL (n19+(1:Int))))
def mV (rj:List (aq×Int)) (sC:List au) (Dq:List Int):Option ch:=
 (Fy (fun y0 y1=>iV y0 y1) sC Dq).bind fun TE=>
 some (⟨rj,TE,sC⟩:ch)
def eh (ab:List Signal) (rj:List (aq×Int)) (sC:List au) (Dq:List Int) (n19:Int):Option (((List (aq×Int))×(List au)×(List Int)×Int)⊕ch):=
 if n19 < (ab.length:Int) then
  (idx ab n19).bind fun rU=>
  zw (gL rj (⟨rU.Device,rU.bg⟩:aq)) (
   (EN sC.length ((rj.map Prod.snd)++Dq)).bind fun u38=>
   (app Dq [(sC.length:Int)]).bind fun M7=>
   kM n19 (pz rj (⟨rU.Device,rU.bg⟩:aq) (sC.length:Int)) (sC++[(⟨(⟨rU.Device,rU.bg⟩:aq),(0:Int),(0:Int),[],(0:Int),[],[],[],[],[]⟩:au)]) M7) (fun n30=>
   kM n19 rj sC Dq)
 else
  Option.map .inr (mV rj sC Dq)
def tp (ab:List Signal) (rj:List (aq×Int)) (sC:List au) (Dq:List Int) (n19:Int):Option ch:=
 iter (fun x:(List (aq×Int))×(List au)×(List Int)×Int=>eh ab x.1 x.2.1 x.2.2.1 x.2.2.2) (rj,sC,Dq,n19)
def ny (ab:List Signal):Option ch:=
 tp ab [] [] [] (0:Int)
def ie (ab:List ar):Option Int:=
 (idx ab (aL ((ab.length:Int) - (1:Int)))).bind fun v1=>
 some (aL ((ab.length:Int) - (1:Int)))
def jH (ab:au) (ah:Int) (ao:Int) (dN:List ar) (nX:List ar):Option au:=
 some (⟨ab.bl,ah,ao,ab.aY,ab.ay,nX,dN,ab.aW,ab.cj,ab.bG⟩:au)
def mb (ab:au) (ah:Int) (ao:Int) (l7:List ar) (dN:List ar) (RS:Bool):Option au:=
 if RS=true then
  (app l7 [(⟨ao,(345686400000:Int)⟩:ar)]).bind fun Cr=>
  jH ab ah ao dN Cr
 else
  jH ab ah ao dN l7
def ig (ab:au) (ah:Int) (ao:Int) (c1:Bool) (c2:Bool) (l7:List ar) (dN:List ar):Option au:=
 mb ab ah ao l7 dN (c2&&(!c1))
def ij (ab:au) (ah:Int) (ao:Int) (c1:Bool) (c2:Bool) (l3:List ar) (l7:List ar):Option au:=
 if ah=(1:Int) then
  (app l3 [(⟨ao,(345686400000:Int)⟩:ar)]).bind fun jT=>
  ig ab ah ao c1 c2 l7 jT
 else
  ig ab ah ao c1 c2 l7 l3
def mc (ab:au) (ah:Int) (ao:Int) (c1:Bool) (c2:Bool) (l3:List ar) (c6:Bool):Option au:=
 if c6=true then
  (ie ab.mj).bind fun v8=>
  (idx ab.mj v8).bind fun v9=>
  ij ab ah ao c1 c2 l3 (ab.mj.set v8.toNat (⟨v9.aM,ao⟩:ar))
 else
  ij ab ah ao c1 c2 l3 ab.mj
def ik (ab:au) (ah:Int) (ao:Int) (c1:Bool) (c2:Bool) (l3:List ar):Option au:=
 mc ab ah ao c1 c2 l3 (c1&&(!c2))
def me (ab:au) (ah:Int) (ao:Int) (c1:Bool) (c2:Bool):Option au:=
 if ab.aE=(1:Int) then
  (ie ab.bt).bind fun v4=>
  (idx ab.bt v4).bind fun v5=>
  ik ab ah ao c1 c2 (ab.bt.set v4.toNat (⟨v5.aM,ao⟩:ar))
 else
  ik ab ah ao c1 c2 ab.bt
def gN (ab:au) (ah:Int) (ao:Int):Option au:=
 me ab ah ao ((decide (ab.aE=(1:Int)))||(decide (ab.aE=(2:Int)))) ((decide (ah=(1:Int)))||(decide (ah=(2:Int))))
def dJ (q3:bO) (q4:bO) (n5:Int) (n6:Int) (l8:List Int) (n9:Int) (dN:List ar) (rj:List ar) (vm:List ar) (Qp:List Int) (Qq:List Int):Option (Int×au):=
 some ((0:Int),(⟨(⟨q3,q4⟩:aq),n5,n6,l8,n9,dN,rj,vm,Qp,Qq⟩:au))
def dK (ah:Signal) (q3:bO) (q4:bO) (n5:Int) (n6:Int) (l8:List Int) (n9:Int) (dN:List ar) (rj:List ar) (vm:List ar) (Cr:List Int) (sB:List Int):Option (Int×au):=
 if ¬ (ah.Kind=(2:Int)) then
  (app Cr [ah.At]).bind fun M8=>
  (idx l8 (aL ((l8.length:Int) - (1:Int)))).bind fun Vx=>
  (app sB [aL (ah.At - Vx)]).bind fun Ph=>
  dJ q3 q4 n5 n6 l8 n9 dN rj vm M8 Ph
 else
  dJ q3 q4 n5 n6 l8 n9 dN rj vm Cr sB
def fq (ah:Signal) (Qr:bO) (Qs:bO) (n32:Int) (n33:Int) (Pj:List Int) (n36:Int) (xP:List ar) (Cq:List ar) (LZ:List ar) (AB:List Int) (HL:List Int):Option (Int×au):=
 dK ah Qr Qs n32 n33 Pj n36 xP Cq LZ AB HL
def jb (ab:au) (ah:Signal) (RU:Bool):Option (Int×au):=
 if RU=true then
  (gN ab (2:Int) ah.At).bind fun v55=>
  fq ah v55.bl.aG v55.bl.a8 v55.aE v55.bX v55.aY v55.ay v55.mj v55.bt v55.aW v55.cj v55.bG
 else
  some ((11:Int),ab)
def fu (ab:au) (ah:Signal) (KF:Bool):Option (Int×au):=
 if KF=true then
  (gN ab (0:Int) ah.At).bind fun kW=>
  fq ah kW.bl.aG kW.bl.a8 kW.aE kW.bX kW.aY kW.ay kW.mj kW.bt kW.aW kW.cj kW.bG
 else
  jb ab ah ((decide (¬ (ah.Kind=(2:Int))))&&(decide (ab.aE=(1:Int))))
def jc (ab:au) (ah:Signal) (Jr:Bool):Option (Int×au):=
 fu ab ah Jr
def jd (ab:au) (ah:Signal) (Pk:Bool):Option (Int×au):=
 if Pk=true then
  fu ab ah Pk
 else
  jc ab ah ((decide (¬ (ah.Kind=(2:Int))))&&(decide (ab.aE=(3:Int))))
def je (ab:au) (ah:Signal) (c2:Bool):Option (Int×au):=
 if c2=true then
  (gN ab (3:Int) ah.At).bind fun v20=>
  dK ah v20.bl.aG v20.bl.a8 v20.aE v20.bX v20.aY v20.ay v20.mj v20.bt v20.aW v20.cj v20.bG
 else
  jd ab ah ((decide (ah.Kind=(2:Int)))&&(decide (ab.aE=(2:Int))))
def lF (ab:au) (ah:Signal):Option (Int×au):=
 je ab ah ((decide (ah.Kind=(2:Int)))&&(decide (ab.aE=(1:Int))))
def kN (ab:au) (ah:Signal) (c2:Bool):Option (Int×au):=
 if c2=true then
  some ((6:Int),ab)
 else
  (gN ab (1:Int) ah.At).bind fun v3=>
  (app v3.aY [ah.At]).bind fun l10=>
  some ((0:Int),(⟨v3.bl,v3.aE,v3.bX,l10,v3.ay,v3.mj,v3.bt,v3.aW,v3.cj,v3.bG⟩:au))
def gg (ab:au) (ah:Signal) (vV:Bool):Option (Int×au):=
 if vV=true then
  (lF ab ah).bind fun fo=>
  some (fo.1,fo.2)
 else
  if ah.Kind=(4:Int) then
   if ah.At < ab.ay then
    some ((11:Int),ab)
   else
    (app ab.aW [(⟨ah.At,ah.bu⟩:ar)]).bind fun mU=>
    some ((0:Int),(⟨ab.bl,ab.aE,ab.bX,ab.aY,ah.bu,ab.mj,ab.bt,mU,ab.cj,ab.bG⟩:au))
  else
   if ab.ay≤ah.At then
    some ((11:Int),ab)
   else
    (idx ab.aW (aL ((ab.aW.length:Int) - (1:Int)))).bind fun v22=>
    some ((0:Int),(⟨ab.bl,ab.aE,ab.bX,ab.aY,ah.At,ab.mj,ab.bt,ab.aW.set (aL ((ab.aW.length:Int) - (1:Int))).toNat (⟨v22.aM,ah.At⟩:ar),ab.cj,ab.bG⟩:au))
def kO (ab:au) (ah:Signal):Option (Int×au):=
 if ah.Kind=(1:Int) then
  kN ab ah ((decide (ab.aE=(1:Int)))||(decide (ab.aE=(2:Int))))
 else
  if ah.Kind=(2:Int) then
   gg ab ah (decide (ah.Kind=(2:Int)))
  else
   gg ab ah (decide (ah.Kind=(3:Int)))
def fQ (ab:ch) (ah:Signal):Option (Int×ch):=
 zw (gL ab.sX (⟨ah.Device,ah.bg⟩:aq)) (
  none) (fun n2=>
  (idx ab.Cp n2).bind fun v3=>
  (kO v3 ah).bind fun v4=>
  some (v4.1,(⟨ab.sX,ab.kV,ab.Cp.set n2.toNat v4.2⟩:ch)))
def qN (n19:Int) (Eb:List (aq×Int)) (ri:List au) (sY:List Int):Option (((List (aq×Int))×(List au)×(List Int)×Int)⊕ch):=
 some (.inl (Eb,ri,sY,aL (n19+(1:Int))))
def o9 (ab:List Signal) (ah:Int) (sC:List (aq×Int)) (vm:List au) (Dq:List Int) (n19:Int):Option (((List (aq×Int))×(List au)×(List Int)×Int)⊕ch):=
 if n19 < (ab.length:Int) then
  (idx ab n19).bind fun v20=>
  if v20.At≤ah then
   (fQ (⟨sC,Dq,vm⟩:ch) v20).bind fun rU=>
   qN n19 rU.2.sX rU.2.Cp rU.2.kV
  else
   qN n19 sC vm Dq
 else
  Option.map .inr (some (⟨sC,Dq,vm⟩:ch))
def Ag (ab:List Signal) (ah:Int) (sC:List (aq×Int)) (vm:List au) (Dq:List Int) (n19:Int):Option ch:=
 iter (fun x:(List (aq×Int))×(List au)×(List Int)×Int=>o9 ab ah x.1 x.2.1 x.2.2.1 x.2.2.2) (sC,vm,Dq,n19)
def qO (ab:List Signal) (ah:Int):Option ch:=
 (ny ab).bind fun v1=>
 Ag ab ah v1.sX v1.Cp v1.kV (0:Int)
def eU (ab:aA) (ah:au):Bool:=
 decide (ab.bg=ah.bl.a8)
def dB (ab:List aA) (gZ:aA→Option Bool) (n2:Int):Option (Int⊕Int):=
 if n2 < (ab.length:Int) then
  (idx ab n2).bind fun v3=>
  (gZ v3).bind fun v4=>
  if v4=true then
   Option.map .inr (some n2)
  else
   some (.inl (aL (n2+(1:Int))))
 else
  Option.map .inr (some (-1:Int))
def pe (ab:List aA) (gZ:aA→Option Bool) (n2:Int):Option Int:=
 iter (fun x:Int=>dB ab gZ x) n2
def cA (ab:List aA) (gZ:aA→Option Bool):Option Int:=
 pe ab gZ (0:Int)
def mf (n2:Int) (v3:ar) (c5:Bool):Option (Int⊕Int):=
 if c5=true then
  Option.map .inr (some v3.To)
 else
  some (.inl (aL (n2+(1:Int))))
def il (ab:au) (ah:Int) (n2:Int):Option (Int⊕Int):=
 if n2 < (ab.aW.length:Int) then
  (idx ab.aW n2).bind fun v3=>
  mf n2 v3 ((decide (v3.aM≤ah))&&(decide (ah < v3.To)))
 else
  Option.map .inr (some ah)
def sD (ab:au) (ah:Int) (n2:Int):Option Int:=
 iter (fun x:Int=>il ab ah x) n2
def j9 (ab:au) (ah:Int):Option Int:=
 sD ab ah (0:Int)
def iG (ab:bC) (l3:List ai):Option bC:=
 some (⟨ab.lj,ab.w_,l3⟩:bC)
def kP (ab:bC) (ah:au) (ao:Int) (aD:Int) (fV:bO) (c1:Bool):Option bC:=
 if c1=true then
  (oc ab.lj fV ao).bind fun v4=>
  (app ab.rf [(⟨ao,ah.bl.aG,ah.bl.a8,fV,v4,aD⟩:ai)]).bind fun l5=>
  iG ab l5
 else
  iG ab ab.rf
def iW (ab:bC) (ah:au) (ao:Int) (aD:Int) (fV:bO):Option bC:=
 kP ab ah ao aD fV ((decide (ab.w_.aM≤ao))&&(decide (ao < ab.w_.To)))
def ei (ab:bC):Bool:=
 decide ((5000:Int) < (ab.rf.length:Int))
def fH (n14:Int) (sB:List aB) (n20:Int) (n21:Int) (ri:List ai):Option (((List aB)×Int×Int×(List ai)×Int)⊕bC):=
 some (.inl (sB,n20,n21,ri,aL (n14+(1:Int))))
def fI (ah:au) (aD:ar) (l9:List aB) (n10:Int) (n11:Int) (rj:List ai) (n14:Int) (ll:fE) (RW:Bool):Option (((List aB)×Int×Int×(List ai)×Int)⊕bC):=
 if RW=true then
  (iW (⟨l9,(⟨n10,n11⟩:ar),rj⟩:bC) ah (aL (aD.aM+ll.bn)) n14 ll.cO).bind fun v24=>
  fH n14 v24.lj v24.w_.aM v24.w_.To v24.rf
 else
  fH n14 l9 n10 n11 rj
def fJ (M7:List aB) (n42:Int) (n43:Int) (EP:List ai) (n46:Int):Option (((List aB)×Int×Int×(List ai)×Int)⊕bC):=
 some (.inl (M7,n42,n43,EP,n46))
def gV (ah:au) (ao:aA) (aD:ar) (v26:fE) (vU:List aB) (n35:Int) (n36:Int) (xP:List ai) (n39:Int) (RX:Bool):Option (((List aB)×Int×Int×(List ai)×Int)⊕bC):=
 if RX=true then
  (j9 ah (aL ((aL (aD.aM+v26.bn))+(aL (n39 * ao.aX))))).bind fun kW=>
  if (aL ((aL (aD.aM+v26.bn))+(aL (n39 * ao.aX)))) < kW then
   (quo (aL ((aL ((aL (kW - (aL (aD.aM+v26.bn))))+ao.aX)) - (1:Int))) ao.aX).bind fun n48=>
   fJ vU n35 n36 xP n48
  else
   (idx ao.aV (aL ((ao.aV.length:Int) - (1:Int)))).bind fun v49=>
   (iW (⟨vU,(⟨n35,n36⟩:ar),xP⟩:bC) ah (aL ((aL (aD.aM+v26.bn))+(aL (n39 * ao.aX)))) (aL ((ao.aV.length:Int) - (1:Int))) v49.cO).bind fun v50=>
   fJ v50.lj v50.w_.aM v50.w_.To v50.rf (aL (n39+(1:Int)))
 else
  Option.map .inr (some (⟨vU,(⟨n35,n36⟩:ar),xP⟩:bC))
def dM (ah:au) (ao:aA) (aD:ar) (n11:Int) (v26:fE) (vU:List aB) (n35:Int) (n36:Int) (xP:List ai) (n39:Int):Option (((List aB)×Int×Int×(List ai)×Int)⊕bC):=
 gV ah ao aD v26 vU n35 n36 xP n39 ((decide ((aL ((aL (aD.aM+v26.bn))+(aL (n39 * ao.aX)))) < (min aD.To n11)))&&(!(ei (⟨vU,(⟨n35,n36⟩:ar),xP⟩:bC))))
def gW (ah:au) (ao:aA) (aD:ar) (n11:Int) (v26:fE) (vU:List aB) (n35:Int) (n36:Int) (xP:List ai) (n39:Int):Option bC:=
 iter (fun x:(List aB)×Int×Int×(List ai)×Int=>dM ah ao aD n11 v26 x.1 x.2.1 x.2.2.1 x.2.2.2.1 x.2.2.2.2) (vU,n35,n36,xP,n39)
def gX (ah:au) (ao:aA) (aD:ar) (l9:List aB) (n10:Int) (n11:Int) (rj:List ai):Option bC:=
 if ao.aX=(0:Int) then
  some (⟨l9,(⟨n10,n11⟩:ar),rj⟩:bC)
 else
  (idx ao.aV (aL ((ao.aV.length:Int) - (1:Int)))).bind fun v26=>
  (quo (aL ((aL ((aL (n10 - (aL (aD.aM+v26.bn))))+ao.aX)) - (1:Int))) ao.aX).bind fun n27=>
  gW ah ao aD n11 v26 l9 n10 n11 rj (max (1:Int) n27)
def fK (ah:au) (ao:aA) (aD:ar) (l9:List aB) (n10:Int) (n11:Int) (rj:List ai) (n14:Int):Option (((List aB)×Int×Int×(List ai)×Int)⊕bC):=
 if n14 < (ao.aV.length:Int) then
  (idx ao.aV n14).bind fun ll=>
  if (aL (aD.aM+ll.bn)) < aD.To then
   (j9 ah (aL (aD.aM+ll.bn))).bind fun zC=>
   fI ah aD l9 n10 n11 rj n14 ll (decide (zC=(aL (aD.aM+ll.bn))))
  else
   fI ah aD l9 n10 n11 rj n14 ll false
 else
  Option.map .inr (gX ah ao aD l9 n10 n11 rj)
def qe (ah:au) (ao:aA) (aD:ar) (l9:List aB) (n10:Int) (n11:Int) (rj:List ai) (n14:Int):Option bC:=
 iter (fun x:(List aB)×Int×Int×(List ai)×Int=>fK ah ao aD x.1 x.2.1 x.2.2.1 x.2.2.2.1 x.2.2.2.2) (l9,n10,n11,rj,n14)
def im (ab:bC) (ah:au) (ao:aA) (aD:ar):Option bC:=
 qe ah ao aD ab.lj ab.w_.aM ab.w_.To ab.rf (0:Int)
def ju (ab:ai) (ah:ai):Option Int:=
 (eM [(cmp_Compare_int ab.At ah.At),(Lib.compareBytes ab.Device ah.Device),(Lib.compareBytes ab.bg ah.bg)]).bind fun v3=>
 some v3
def iH (ab:List ai) (gZ:ai→ai→Option Int):Option (List ai):=
 BB gZ ab
def iq (n28:Int) (RY:List aB) (n31:Int) (n32:Int) (vU:List ai):Option (((List aB)×Int×Int×(List ai)×Int)⊕((List ai)×Int)):=
 some (.inl (RY,n31,n32,vU,aL (n28+(1:Int))))
def gh (ah:List aA) (n28:Int) (v35:au) (v37:Int) (AB:List aB) (n45:Int) (n46:Int) (Pl:List ai) (n49:Int):Option (((List aB)×Int×Int×(List ai)×Int)⊕(((List aB)×Int×Int×(List ai)×Int)⊕((List ai)×Int))):=
 if n49 < (v35.bt.length:Int) then
  (idx v35.bt n49).bind fun v50=>
  (idx ah v37).bind fun CG=>
  (im (⟨AB,(⟨n45,n46⟩:ar),Pl⟩:bC) v35 CG v50).bind fun v53=>
  if (ei v53)=true then
   Option.map .inr (Option.map .inr (some ([],(2:Int))))
  else
   some (.inl (v53.lj,v53.w_.aM,v53.w_.To,v53.rf,aL (n49+(1:Int))))
 else
  Option.map .inr (iq n28 AB n45 n46 Pl)
def jv (ah:List aA) (n28:Int) (v35:au) (v37:Int) (AB:List aB) (n45:Int) (n46:Int) (Pl:List ai) (n49:Int):Option (((List aB)×Int×Int×(List ai)×Int)⊕((List ai)×Int)):=
 iter (fun x:(List aB)×Int×Int×(List ai)×Int=>gh ah n28 v35 v37 x.1 x.2.1 x.2.2.1 x.2.2.2.1 x.2.2.2.2) (AB,n45,n46,Pl,n49)
def jw (FJ:List ai):Option ((List ai)×Int):=
 (fO FJ.length (fun r:(List ai)=>r.length) (iH FJ (fun y0 y1=>ju y0 y1))).bind fun tI=>
 some (tI,(0:Int))
def eV (ah:List aA) (nX:List au) (ri:List aB) (n24:Int) (n25:Int) (FJ:List ai) (n28:Int):Option (((List aB)×Int×Int×(List ai)×Int)⊕((List ai)×Int)):=
 if n28 < (nX.length:Int) then
  (idx nX n28).bind fun v35=>
  (cA ah (fun y0=>some (eU y0 v35))).bind fun v37=>
  if v37 < (0:Int) then
   iq n28 ri n24 n25 FJ
  else
   jv ah n28 v35 v37 ri n24 n25 FJ (0:Int)
 else
  Option.map .inr (jw FJ)
def ir (ah:List aA) (nX:List au) (ri:List aB) (n24:Int) (n25:Int) (FJ:List ai) (n28:Int):Option ((List ai)×Int):=
 iter (fun x:(List aB)×Int×Int×(List ai)×Int=>eV ah nX x.1 x.2.1 x.2.2.1 x.2.2.2.1 x.2.2.2.2) (ri,n24,n25,FJ,n28)
def kX (ab:List Signal) (ah:List aA) (ao:List aB) (aD:ar):Option ((List ai)×Int):=
 (ic ab).bind fun v2=>
 (cQ ah).bind fun v3=>
 (cP ao).bind fun v4=>
 (uJ [v2,v3,v4]).bind fun v5=>
 if v5≠(0:Int) then
  some ([],v5)
 else
  if (!(gM aD))=true then
   some ([],(1:Int))
  else
   (qO ab (345686400000:Int)).bind fun v9=>
   (idxs v9.Cp v9.kV).bind fun nX=>
   ir ah nX ao aD.aM aD.To [] (0:Int)
def kQ (n2:Int) (KG:Bool):Option (Int⊕Int):=
 if KG=true then
  Option.map .inr (some (7:Int))
 else
  some (.inl (aL (n2+(1:Int))))
def mW (ab:List Signal) (n2:Int) (v3:Signal) (vV:Bool):Option (Int⊕Int):=
 if vV=true then
  Option.map .inr (some (3:Int))
 else
  if (0:Int) < n2 then
   (idx ab (aL (n2 - (1:Int)))).bind fun gR=>
   (jm gR v3).bind fun ll=>
   kQ n2 (decide ((0:Int)≤ll))
  else
   kQ n2 false
def mX (ab:List Signal) (n2:Int) (v3:Signal) (RZ:Bool):Option (Int⊕Int):=
 if RZ=true then
  Option.map .inr (some (1:Int))
 else
  mW ab n2 v3 ((decide (¬ (v3.Kind=(4:Int))))&&(decide (v3.bu≠(0:Int))))
def mY (ab:List Signal) (n2:Int) (v3:Signal) (R0:Bool):Option (Int⊕Int):=
 if R0=true then
  Option.map .inr (some (3:Int))
 else
  mX ab n2 v3 ((decide (v3.Kind=(4:Int)))&&(!(xc v3.bu (aL (v3.At+(1:Int))) (min (aL (v3.At+(2592000000:Int))) (345686400000:Int)))))
def iX (ab:List Signal) (n2:Int) (v3:Signal) (c8:Bool):Option (Int⊕Int):=
 if c8=true then
  Option.map .inr (some (5:Int))
 else
  mY ab n2 v3 ((decide (¬ ((3:Int)≤v3.Kind)))&&(decide (v3.By≠([]:bO))))
def iY (ab:List Signal) (n2:Int) (v3:Signal) (c5:Bool):Option (Int⊕Int):=
 if c5=true then
  Option.map .inr (some (5:Int))
 else
  if (!(xc v3.Kind (1:Int) (5:Int)))=true then
   Option.map .inr (some (4:Int))
  else
   if (3:Int)≤v3.Kind then
    (ub v3.By).bind fun v9=>
    iX ab n2 v3 (!v9)
   else
    iX ab n2 v3 false
def fB (ab:List Signal) (n2:Int):Option (Int⊕Int):=
 if n2 < (ab.length:Int) then
  (idx ab n2).bind fun v3=>
  if (iz v3.At)≠(0:Int) then
   Option.map .inr (some (1:Int))
  else
   (ub v3.Device).bind fun v6=>
   if (!v6)=true then
    iY ab n2 v3 true
   else
    (ub v3.bg).bind fun v7=>
    iY ab n2 v3 (!v7)
 else
  Option.map .inr (some (0:Int))
def tq (ab:List Signal) (n2:Int):Option Int:=
 iter (fun x:Int=>fB ab x) n2
def lG (ab:List Signal):Option Int:=
 if (5000:Int) < (ab.length:Int) then
  some (2:Int)
 else
  tq ab (0:Int)
def oe (c1:Bool):Bool:=
 c1
def jq (ab:an) (ah:Signal):Bool:=
 oe ((decide (ab.aG=ah.Device))&&(decide (ab.a8=ah.bg)))
def de (ab:List an) (gZ:an→Option Bool) (n2:Int):Option (Int⊕Int):=
 if n2 < (ab.length:Int) then
  (idx ab n2).bind fun v3=>
  (gZ v3).bind fun v4=>
  if v4=true then
   Option.map .inr (some n2)
  else
   some (.inl (aL (n2+(1:Int))))
 else
  Option.map .inr (some (-1:Int))
def ow (ab:List an) (gZ:an→Option Bool) (n2:Int):Option Int:=
 iter (fun x:Int=>de ab gZ x) n2
def dC (ab:List an) (gZ:an→Option Bool):Option Int:=
 ow ab gZ (0:Int)
def kc (ab:an) (ah:Signal) (n4:Int) (n5:Int) (n6:Int):Option (Int×an):=
 (app ab.bw [ah]).bind fun mU=>
 some ((0:Int),(⟨ab.aG,ab.a8,mU,n4,(⟨n5,n6⟩:ar)⟩:an))
def gO (ab:an) (ah:Signal) (n7:Int) (n8:Int) (n9:Int):Option (Int×an):=
 kc ab ah n7 n8 n9
def ke (ab:an) (ah:Signal) (n12:Int) (n13:Int) (n14:Int):Option (Int×an):=
 gO ab ah n12 n13 n14
def oQ (ab:an) (ah:Signal) (BS:Bool):Option (Int×an):=
 if BS=true then
  some ((11:Int),ab)
 else
  (Aa (pz (pz ([]:List (Int×Int)) (1:Int) (2:Int)) (3:Int) (0:Int)) ab.aE (0:Int)).bind fun v17=>
  ke ab ah v17 ab.ay.aM ab.ay.To
def mu (ab:an) (ah:Signal) (n18:Int) (n19:Int):Option (Int×an):=
 ke ab ah ab.aE n18 n19
def oR (ab:an) (ah:Signal) (c2:Bool) (c3:Bool):Option (Int×an):=
 if ah.Kind=(1:Int) then
  if c2=true then
   some ((6:Int),ab)
  else
   kc ab ah (1:Int) ab.ay.aM ab.ay.To
 else
  if ah.Kind=(2:Int) then
   if (!c2)=true then
    some ((11:Int),ab)
   else
    (Aa (pz (pz ([]:List (Int×Int)) (1:Int) (3:Int)) (2:Int) (0:Int)) ab.aE (0:Int)).bind fun v11=>
    gO ab ah v11 ab.ay.aM ab.ay.To
  else
   if ah.Kind=(3:Int) then
    oQ ab ah ((decide (ab.aE≠(1:Int)))&&(decide (ab.aE≠(3:Int))))
   else
    if ah.Kind=(4:Int) then
     if c3=true then
      some ((11:Int),ab)
     else
      mu ab ah ah.At ah.bu
    else
     if (!c3)=true then
      some ((11:Int),ab)
     else
      mu ab ah (0:Int) (0:Int)
def oS (ab:an) (ah:Signal) (c2:Bool):Option (Int×an):=
 oR ab ah c2 ((decide (ab.ay.aM≤ah.At))&&(decide (ah.At < ab.ay.To)))
def pO (ab:an) (ah:Signal):Option (Int×an):=
 oS ab ah ((decide (ab.aE=(1:Int)))||(decide (ab.aE=(2:Int))))
def mH (ab:an) (ah:an):Option Int:=
 (eM [(Lib.compareBytes ab.aG ah.aG),(Lib.compareBytes ab.a8 ah.a8)]).bind fun v1=>
 some v1
def kY (l4:List an) (l8:List Int) (l10:List dc):Option ((List an)×(List dc)):=
 (Fy (fun y0 y1=>mH y0 y1) l4 l8).bind fun TF=>
 (idxs l4 TF).bind fun X9=>
 some (X9,l10)
def oG (n26:Int) (KH:List an) (nY:List Int) (v46:Int) (bQ:Int×an) (Qt:List dc):Option (((List an)×(List Int)×(List dc)×Int)⊕((List an)×(List dc))):=
 some (.inl (KH.set v46.toNat bQ.2,nY,Qt,aL (n26+(1:Int))))
def mI (AY:List dc) (n26:Int) (ER:Signal) (KH:List an) (nY:List Int) (n38:Int):Option (((List an)×(List Int)×(List dc)×Int)⊕((List an)×(List dc))):=
 (idx nY n38).bind fun v46=>
 (idx KH v46).bind fun kW=>
 (pO kW ER).bind fun bQ=>
 if bQ.1≠(0:Int) then
  (app AY [(⟨n26,bQ.1⟩:dc)]).bind fun BR=>
  oG n26 KH nY v46 bQ BR
 else
  oG n26 KH nY v46 bQ AY
def mJ (ab:List Signal) (ah:Int) (sB:List an) (ri:List Int) (AY:List dc) (n26:Int):Option (((List an)×(List Int)×(List dc)×Int)⊕((List an)×(List dc))):=
 if n26 < (ab.length:Int) then
  (idx ab n26).bind fun ER=>
  if ah < ER.At then
   Option.map .inr (kY sB ri AY)
  else
   (idxs sB ri).bind fun RN=>
   (dC RN (fun y0=>some (jq y0 ER))).bind fun v32=>
   if v32 < (0:Int) then
    (EN sB.length ri).bind fun u41=>
    (app ri [(sB.length:Int)]).bind fun AB=>
    mI AY n26 ER (sB++[(⟨ER.Device,ER.bg,[],(0:Int),(⟨(0:Int),(0:Int)⟩:ar)⟩:an)]) AB (ri.length:Int)
   else
    mI AY n26 ER sB ri v32
 else
  Option.map .inr (kY sB ri AY)
def xu (ab:List Signal) (ah:Int) (sB:List an) (ri:List Int) (AY:List dc) (n26:Int):Option ((List an)×(List dc)):=
 iter (fun x:(List an)×(List Int)×(List dc)×Int=>mJ ab ah x.1 x.2.1 x.2.2.1 x.2.2.2) (sB,ri,AY,n26)
def oY (ab:List Signal) (ah:Int):Option ((List an)×(List dc)):=
 xu ab ah [] [] [] (0:Int)
def gy (ab:aA) (ah:an):Bool:=
 decide (ab.bg=ah.a8)
def lH (n8:Int) (n11:Int) (n12:Int):Option ((Int×Int×Int)⊕iL):=
 some (.inl (n11,n12,aL (n8+(1:Int))))
def lI (n7:Int) (n8:Int) (v9:Signal) (n11:Int):Option ((Int×Int×Int)⊕iL):=
 if v9.Kind=(1:Int) then
  lH n8 n11 (aL (n7+(1:Int)))
 else
  lH n8 n11 n7
def lJ (ab:an) (n6:Int) (n7:Int) (n14:Int):Option iL:=
 some (⟨ab.aG,ab.a8,ab.aE,n6,n7,n14⟩:iL)
def lK (ab:an) (n6:Int) (n7:Int) (KG:Bool):Option iL:=
 if KG=true then
  lJ ab n6 n7 ab.ay.To
 else
  lJ ab n6 n7 (0:Int)
def eW (ab:an) (ah:Int) (n6:Int) (n7:Int) (n8:Int):Option ((Int×Int×Int)⊕iL):=
 if n8 < (ab.bw.length:Int) then
  (idx ab.bw n8).bind fun v9=>
  if v9.Kind≤(3:Int) then
   lI n7 n8 v9 v9.At
  else
   lI n7 n8 v9 n6
 else
  Option.map .inr (lK ab n6 n7 ((decide (ab.ay.aM≤ah))&&(decide (ah < ab.ay.To))))
def ue (ab:an) (ah:Int) (n6:Int) (n7:Int) (n8:Int):Option iL:=
 iter (fun x:Int×Int×Int=>eW ab ah x.1 x.2.1 x.2.2) (n6,n7,n8)
def oH (ab:an) (ah:Int):Option iL:=
 ue ab ah (0:Int) (0:Int) (0:Int)
def rW (aD:Int) (n5:Int) (v6:an) (c7:Bool):Option (Int⊕iL):=
 if c7=true then
  (oH v6 aD).bind fun v8=>
  Option.map .inr (some v8)
 else
  some (.inl (aL (n5+(1:Int))))
def mg (ah:bO) (ao:bO) (aD:Int) (v2:(List an)×(List dc)) (n5:Int):Option (Int⊕iL):=
 if n5 < (v2.1.length:Int) then
  (idx v2.1 n5).bind fun v6=>
  rW aD n5 v6 ((decide (v6.aG=ah))&&(decide (v6.a8=ao)))
 else
  Option.map .inr (some (⟨ah,ao,(0:Int),(0:Int),(0:Int),(0:Int)⟩:iL))
def yA (ah:bO) (ao:bO) (aD:Int) (v2:(List an)×(List dc)) (n5:Int):Option iL:=
 iter (fun x:Int=>mg ah ao aD v2 x) n5
def uf (ab:List Signal) (ah:bO) (ao:bO) (aD:Int):Option iL:=
 (oY ab aD).bind fun v2=>
 yA ah ao aD v2 (0:Int)
def kR (l4:List ai):Option (List ai):=
 some l4
def gz (ab:Int) (ah:Int) (eN:an) (yB:aA) (yC:List ai) (CI:List aB) (c1:Bool):Option (List ai):=
 if c1=true then
  (idx yB.aV ah).bind fun v5=>
  (qq CI v5.cO ab).bind fun v6=>
  (app yC [(⟨ab,eN.aG,eN.a8,v5.cO,v6,ah⟩:ai)]).bind fun l7=>
  kR l7
 else
  kR yC
def lL (ab:Int) (ah:Int) (ao:ar) (aD:ar) (fV:List Signal) (eN:an) (yB:aA) (yC:List ai) (CI:List aB):Option (List ai):=
 if ab < ao.To then
  if (xc ab aD.aM (aL (aD.To - (1:Int))))=true then
   (uf fV eN.aG eN.a8 ab).bind fun v2=>
   gz ab ah eN yB yC CI (decide (v2.AX=(0:Int)))
  else
   gz ab ah eN yB yC CI false
 else
  gz ab ah eN yB yC CI false
def nz (ab:List Signal) (ah:an) (ao:aA) (aD:List aB) (fV:ar) (eN:ar) (sY:List ai) (n27:Int) (KF:Bool):Option (((List ai)×Int)⊕(List ai)):=
 if KF=true then
  (lL n27 (aL ((ao.aV.length:Int) - (1:Int))) fV eN ab ah ao sY aD).bind fun ER=>
  some (.inl (ER,aL (n27+ao.aX)))
 else
  Option.map .inr (some sY)
def jI (ab:List Signal) (ah:an) (ao:aA) (aD:List aB) (fV:ar) (eN:ar) (sY:List ai) (n27:Int):Option (((List ai)×Int)⊕(List ai)):=
 nz ab ah ao aD fV eN sY n27 ((decide (n27 < (min fV.To eN.To)))&&(decide ((sY.length:Int)≤(5000:Int))))
def nA (ab:List Signal) (ah:an) (ao:aA) (aD:List aB) (fV:ar) (eN:ar) (sY:List ai) (n27:Int):Option (List ai):=
 iter (fun x:(List ai)×Int=>jI ab ah ao aD fV eN x.1 x.2) (sY,n27)
def lM (ab:List Signal) (ah:an) (ao:aA) (aD:List aB) (fV:ar) (eN:ar) (jT:List ai) (vl:fE) (n20:Int):Option (List ai):=
 nA ab ah ao aD fV eN jT (aL ((aL (fV.aM+vl.bn))+(aL (n20 * ao.aX))))
def nB (ab:List Signal) (ah:an) (ao:aA) (aD:List aB) (fV:ar) (eN:ar) (jT:List ai):Option (List ai):=
 (idx ao.aV (aL ((ao.aV.length:Int) - (1:Int)))).bind fun vl=>
 if ao.aX=(0:Int) then
  some jT
 else
  if (aL (fV.aM+vl.bn)) < eN.aM then
   (quo (aL (eN.aM - (aL (fV.aM+vl.bn)))) ao.aX).bind fun n21=>
   lM ab ah ao aD fV eN jT vl (max (1:Int) n21)
  else
   lM ab ah ao aD fV eN jT vl (1:Int)
def lN (ab:List Signal) (ah:an) (ao:aA) (aD:List aB) (fV:ar) (eN:ar) (jT:List ai) (n13:Int):Option (((List ai)×Int)⊕(List ai)):=
 if n13 < (ao.aV.length:Int) then
  (idx ao.aV n13).bind fun ll=>
  (lL (aL (fV.aM+ll.bn)) n13 fV eN ab ah ao jT aD).bind fun v17=>
  some (.inl (v17,aL (n13+(1:Int))))
 else
  Option.map .inr (nB ab ah ao aD fV eN jT)
def vY (ab:List Signal) (ah:an) (ao:aA) (aD:List aB) (fV:ar) (eN:ar) (jT:List ai) (n13:Int):Option (List ai):=
 iter (fun x:(List ai)×Int=>lN ab ah ao aD fV eN x.1 x.2) (jT,n13)
def nC (ab:List Signal) (ah:an) (ao:aA) (aD:List aB) (fV:ar) (eN:ar):Option (List ai):=
 vY ab ah ao aD fV eN [] (0:Int)
def jJ (ab:ai) (ah:ai):Option Int:=
 (eM [(cmp_Compare_int ab.At ah.At),(Lib.compareBytes ab.Device ah.Device),(Lib.compareBytes ab.bg ah.bg)]).bind fun v3=>
 some v3
def cV (n4:Int) (l7:List ai) (n8:Int) (c9:Bool):Option (((List ai)×Int)⊕(((List ai)×Int)⊕(List ai))):=
 if c9=true then
  (idx l7 (aL (n8 - (1:Int)))).bind fun fo=>
  (idx l7 n8).bind fun gR=>
  (idx l7 n8).bind fun ll=>
  (idx (l7.set n8.toNat fo) (aL (n8 - (1:Int)))).bind fun xo=>
  some (.inl ((l7.set n8.toNat fo).set (aL (n8 - (1:Int))).toNat gR,aL (n8 - (1:Int))))
 else
  Option.map .inr (some (.inl (l7,aL (n4+(1:Int)))))
def cW (ah:Int) (lW:ai→ai→Option Int) (n4:Int) (l7:List ai) (n8:Int):Option (((List ai)×Int)⊕(((List ai)×Int)⊕(List ai))):=
 if ah < n8 then
  (idx l7 n8).bind fun v10=>
  (idx l7 (aL (n8 - (1:Int)))).bind fun v11=>
  (lW v10 v11).bind fun v12=>
  cV n4 l7 n8 (decide (v12 < (0:Int)))
 else
  cV n4 l7 n8 false
def og (ah:Int) (lW:ai→ai→Option Int) (n4:Int) (l7:List ai) (n8:Int):Option (((List ai)×Int)⊕(List ai)):=
 iter (fun x:(List ai)×Int=>cW ah lW n4 x.1 x.2) (l7,n8)
def cX (ah:Int) (ao:Int) (lW:ai→ai→Option Int) (l3:List ai) (n4:Int):Option (((List ai)×Int)⊕(List ai)):=
 if n4 < ao then
  og ah lW n4 l3 n4
 else
  Option.map .inr (some l3)
def oh (ah:Int) (ao:Int) (lW:ai→ai→Option Int) (l3:List ai) (n4:Int):Option (List ai):=
 iter (fun x:(List ai)×Int=>cX ah ao lW x.1 x.2) (l3,n4)
def dx (ab:List ai) (ah:Int) (ao:Int) (lW:ai→ai→Option Int):Option (List ai):=
 oh ah ao lW ab (aL (ah+(1:Int)))
def dD (ah:Int) (ao:Int) (aD:Int) (l3:List ai) (n4:Int):Option (((List ai)×Int)⊕(List ai)):=
 if n4 < aD then
  (idx l3 (aL (ao+n4))).bind fun v5=>
  (idx l3 (aL (ah+n4))).bind fun v6=>
  (idx l3 (aL (ah+n4))).bind fun v7=>
  (idx (l3.set (aL (ah+n4)).toNat v5) (aL (ao+n4))).bind fun v8=>
  some (.inl ((l3.set (aL (ah+n4)).toNat v5).set (aL (ao+n4)).toNat v6,aL (n4+(1:Int))))
 else
  Option.map .inr (some l3)
def pf (ah:Int) (ao:Int) (aD:Int) (l3:List ai) (n4:Int):Option (List ai):=
 iter (fun x:(List ai)×Int=>dD ah ao aD x.1 x.2) (l3,n4)
def dj (ab:List ai) (ah:Int) (ao:Int) (aD:Int) (cG:ai→ai→Option Int):Option (List ai):=
 pf ah ao aD ab (0:Int)
def eZ (l7:List ai) (n8:Int) (n9:Int):Option (((List ai)×Int×Int)⊕(List ai)):=
 some (.inl (l7,n8,n9))
def lO (ao:Int) (cG:ai→ai→Option Int) (l4:List ai) (n5:Int):Option (List ai):=
 (fO l4.length (fun r:(List ai)=>r.length) (dj l4 (aL (ao - n5)) ao n5 cG)).bind fun v12=>
 some v12
def fa (ao:Int) (cG:ai→ai→Option Int) (l4:List ai) (n5:Int) (n6:Int):Option (((List ai)×Int×Int)⊕(List ai)):=
 if n5≠n6 then
  if n6 < n5 then
   (fO l4.length (fun r:(List ai)=>r.length) (dj l4 (aL (ao - n5)) ao n6 cG)).bind fun v10=>
   eZ v10 (aL (n5 - n6)) n6
  else
   (fO l4.length (fun r:(List ai)=>r.length) (dj l4 (aL (ao - n5)) (aL ((aL (ao+n6)) - n5)) n5 cG)).bind fun v11=>
   eZ v11 n5 (aL (n6 - n5))
 else
  Option.map .inr (lO ao cG l4 n5)
def qs (ao:Int) (cG:ai→ai→Option Int) (l4:List ai) (n5:Int) (n6:Int):Option (List ai):=
 iter (fun x:(List ai)×Int×Int=>fa ao cG x.1 x.2.1 x.2.2) (l4,n5,n6)
def jk (ab:List ai) (ah:Int) (ao:Int) (aD:Int) (cG:ai→ai→Option Int):Option (List ai):=
 qs ao cG ab (aL (ao - ah)) (aL (aD - ao))
def ej (n8:Int) (n9:Int):Option ((Int×Int)⊕(List ai)):=
 some (.inl (n8,n9))
def ek (n3:Int) (jT:List ai) (n13:Int):Option (((List ai)×Int)⊕(List ai)):=
 if n13 < (aL (n3 - (1:Int))) then
  (idx jT (aL (n13+(1:Int)))).bind fun gR=>
  (idx jT n13).bind fun ll=>
  (idx jT n13).bind fun xo=>
  (idx (jT.set n13.toNat gR) (aL (n13+(1:Int)))).bind fun v17=>
  some (.inl ((jT.set n13.toNat gR).set (aL (n13+(1:Int))).toNat ll,aL (n13+(1:Int))))
 else
  Option.map .inr (some jT)
def pP (n3:Int) (jT:List ai) (n13:Int):Option (List ai):=
 iter (fun x:(List ai)×Int=>ek n3 x.1 x.2) (jT,n13)
def eo (ab:List ai) (ah:Int) (cG:ai→ai→Option Int) (n3:Int) (n4:Int):Option ((Int×Int)⊕(List ai)):=
 if n3 < n4 then
  (idx ab (aL (cd .u64 (IntKind.u64.wrap (aL (n3+n4))) (1:Int)))).bind fun v5=>
  (idx ab ah).bind fun v6=>
  (cG v5 v6).bind fun v7=>
  if v7 < (0:Int) then
   ej (aL ((aL (cd .u64 (IntKind.u64.wrap (aL (n3+n4))) (1:Int)))+(1:Int))) n4
  else
   ej n3 (aL (cd .u64 (IntKind.u64.wrap (aL (n3+n4))) (1:Int)))
 else
  Option.map .inr (pP n3 ab ah)
def pQ (ab:List ai) (ah:Int) (cG:ai→ai→Option Int) (n3:Int) (n4:Int):Option (List ai):=
 iter (fun x:Int×Int=>eo ab ah cG x.1 x.2) (n3,n4)
def ep (n25:Int) (n26:Int):Option ((Int×Int)⊕(List ai)):=
 some (.inl (n25,n26))
def er (n20:Int) (nW:List ai) (n30:Int):Option (((List ai)×Int)⊕(List ai)):=
 if n20 < n30 then
  (idx nW (aL (n30 - (1:Int)))).bind fun v31=>
  (idx nW n30).bind fun v32=>
  (idx nW n30).bind fun v33=>
  (idx (nW.set n30.toNat v31) (aL (n30 - (1:Int)))).bind fun EO=>
  some (.inl ((nW.set n30.toNat v31).set (aL (n30 - (1:Int))).toNat v32,aL (n30 - (1:Int))))
 else
  Option.map .inr (some nW)
def pR (n20:Int) (nW:List ai) (n30:Int):Option (List ai):=
 iter (fun x:(List ai)×Int=>er n20 x.1 x.2) (nW,n30)
def et (ab:List ai) (ao:Int) (cG:ai→ai→Option Int) (n20:Int) (n21:Int):Option ((Int×Int)⊕(List ai)):=
 if n20 < n21 then
  (idx ab ao).bind fun v22=>
  (idx ab (aL (cd .u64 (IntKind.u64.wrap (aL (n20+n21))) (1:Int)))).bind fun v23=>
  (cG v22 v23).bind fun v24=>
  if ¬ (v24 < (0:Int)) then
   ep (aL ((aL (cd .u64 (IntKind.u64.wrap (aL (n20+n21))) (1:Int)))+(1:Int))) n21
  else
   ep n20 (aL (cd .u64 (IntKind.u64.wrap (aL (n20+n21))) (1:Int)))
 else
  Option.map .inr (pR n20 ab ao)
def pS (ab:List ai) (ao:Int) (cG:ai→ai→Option Int) (n20:Int) (n21:Int):Option (List ai):=
 iter (fun x:Int×Int=>et ab ao cG x.1 x.2) (n20,n21)
def eu (n44:Int) (n45:Int):Option ((Int×Int)⊕(List ai)):=
 some (.inl (n44,n45))
def dE (BR:List ai):Option (List ai):=
 some BR
def gA (self:(List ai)→Int→Int→Int→(ai→ai→Option Int)→Option (List ai)) (ah:Int) (ao:Int) (aD:Int) (cG:ai→ai→Option Int) (n39:Int) (vT:List ai) (IS:Bool):Option (List ai):=
 if IS=true then
  (fO vT.length (fun r:(List ai)=>r.length) (self vT (aL (cd .u64 (IntKind.u64.wrap (aL (ah+aD))) (1:Int))) (aL ((aL ((aL (cd .u64 (IntKind.u64.wrap (aL (ah+aD))) (1:Int)))+ao)) - n39)) aD cG)).bind fun v54=>
  dE v54
 else
  dE vT
def ew (self:(List ai)→Int→Int→Int→(ai→ai→Option Int)→Option (List ai)) (ah:Int) (ao:Int) (aD:Int) (cG:ai→ai→Option Int) (n39:Int) (vT:List ai):Option (List ai):=
 gA self ah ao aD cG n39 vT ((decide ((aL (cd .u64 (IntKind.u64.wrap (aL (ah+aD))) (1:Int))) < (aL ((aL ((aL (cd .u64 (IntKind.u64.wrap (aL (ah+aD))) (1:Int)))+ao)) - n39))))&&(decide ((aL ((aL ((aL (cd .u64 (IntKind.u64.wrap (aL (ah+aD))) (1:Int)))+ao)) - n39)) < aD)))
def gB (self:(List ai)→Int→Int→Int→(ai→ai→Option Int)→Option (List ai)) (ah:Int) (ao:Int) (aD:Int) (cG:ai→ai→Option Int) (n39:Int) (tH:List ai) (c49:Bool):Option (List ai):=
 if c49=true then
  (fO tH.length (fun r:(List ai)=>r.length) (self tH ah n39 (aL (cd .u64 (IntKind.u64.wrap (aL (ah+aD))) (1:Int))) cG)).bind fun v51=>
  ew self ah ao aD cG n39 v51
 else
  ew self ah ao aD cG n39 tH
def ey (self:(List ai)→Int→Int→Int→(ai→ai→Option Int)→Option (List ai)) (ah:Int) (ao:Int) (aD:Int) (cG:ai→ai→Option Int) (n39:Int) (tH:List ai):Option (List ai):=
 gB self ah ao aD cG n39 tH ((decide (ah < n39))&&(decide (n39 < (aL (cd .u64 (IntKind.u64.wrap (aL (ah+aD))) (1:Int))))))
def gC (self:(List ai)→Int→Int→Int→(ai→ai→Option Int)→Option (List ai)) (ab:List ai) (ah:Int) (ao:Int) (aD:Int) (cG:ai→ai→Option Int) (n39:Int) (IT:Bool):Option (List ai):=
 if IT=true then
  (fO ab.length (fun r:(List ai)=>r.length) (jk ab n39 ao (aL ((aL ((aL (cd .u64 (IntKind.u64.wrap (aL (ah+aD))) (1:Int)))+ao)) - n39)) cG)).bind fun bQ=>
  ey self ah ao aD cG n39 bQ
 else
  ey self ah ao aD cG n39 ab
def ez (self:(List ai)→Int→Int→Int→(ai→ai→Option Int)→Option (List ai)) (ab:List ai) (ah:Int) (ao:Int) (aD:Int) (cG:ai→ai→Option Int) (n39:Int) (n40:Int):Option ((Int×Int)⊕(List ai)):=
 if n39 < n40 then
  (idx ab (aL ((aL ((aL ((aL (cd .u64 (IntKind.u64.wrap (aL (ah+aD))) (1:Int)))+ao)) - (1:Int))) - (aL (cd .u64 (IntKind.u64.wrap (aL (n39+n40))) (1:Int)))))).bind fun v41=>
  (idx ab (aL (cd .u64 (IntKind.u64.wrap (aL (n39+n40))) (1:Int)))).bind fun vq=>
  (cG v41 vq).bind fun wR=>
  if ¬ (wR < (0:Int)) then
   eu (aL ((aL (cd .u64 (IntKind.u64.wrap (aL (n39+n40))) (1:Int)))+(1:Int))) n40
  else
   eu n39 (aL (cd .u64 (IntKind.u64.wrap (aL (n39+n40))) (1:Int)))
 else
  Option.map .inr (gC self ab ah ao aD cG n39 ((decide (n39 < ao))&&(decide (ao < (aL ((aL ((aL (cd .u64 (IntKind.u64.wrap (aL (ah+aD))) (1:Int)))+ao)) - n39))))))
def pT (self:(List ai)→Int→Int→Int→(ai→ai→Option Int)→Option (List ai)) (ab:List ai) (ah:Int) (ao:Int) (aD:Int) (cG:ai→ai→Option Int) (n39:Int) (n40:Int):Option (List ai):=
 iter (fun x:Int×Int=>ez self ab ah ao aD cG x.1 x.2) (n39,n40)
def eA (self:(List ai)→Int→Int→Int→(ai→ai→Option Int)→Option (List ai)) (ab:List ai) (ah:Int) (ao:Int) (aD:Int) (cG:ai→ai→Option Int) (n35:Int) (n36:Int):Option (List ai):=
 pT self ab ah ao aD cG n35 n36
def eB (self:(List ai)→Int→Int→Int→(ai→ai→Option Int)→Option (List ai)) (ab:List ai) (ah:Int) (ao:Int) (aD:Int) (cG:ai→ai→Option Int):Option (List ai):=
 if (aL (ao - ah))=(1:Int) then
  pQ ab ah cG ao aD
 else
  if (aL (aD - ao))=(1:Int) then
   pS ab ao cG ah ao
  else
   if (aL (cd .u64 (IntKind.u64.wrap (aL (ah+aD))) (1:Int))) < ao then
    eA self ab ah ao aD cG (aL ((aL ((aL (cd .u64 (IntKind.u64.wrap (aL (ah+aD))) (1:Int)))+ao)) - aD)) (aL (cd .u64 (IntKind.u64.wrap (aL (ah+aD))) (1:Int)))
   else
    eA self ab ah ao aD cG ah ao
def cZ:Nat→(List ai)→Int→Int→Int→(ai→ai→Option Int)→Option (List ai)
 | 0=>fun _ _ _ _ _=>none
 | k+1=>eB (cZ k)
def dv (ab:List ai) (ah:Int) (ao:Int) (aD:Int) (cG:ai→ai→Option Int):Option (List ai):=
 cZ depth ab ah ao aD cG
def fb (n12:Int) (mU:List ai):Option (((List ai)×Int)⊕(List ai)):=
 some (.inl (mU,aL (n12 * (2:Int))))
def fc (ah:Int) (ml:ai→ai→Option Int) (n12:Int) (nX:List ai) (n17:Int):Option (((List ai)×Int)⊕(List ai)):=
 if (aL (n17+n12)) < ah then
  (fO nX.length (fun r:(List ai)=>r.length) (dv nX n17 (aL (n17+n12)) ah ml)).bind fun v21=>
  fb n12 v21
 else
  fb n12 nX
def cC (ah:Int) (ml:ai→ai→Option Int) (n12:Int) (nX:List ai) (n17:Int) (n18:Int):Option (((List ai)×Int×Int)⊕(((List ai)×Int)⊕(List ai))):=
 if n18≤ah then
  (fO nX.length (fun r:(List ai)=>r.length) (dv nX n17 (aL (n17+n12)) n18 ml)).bind fun vl=>
  some (.inl (vl,n18,aL (n18+(aL ((2:Int) * n12)))))
 else
  Option.map .inr (fc ah ml n12 nX n17)
def lP (ah:Int) (ml:ai→ai→Option Int) (n12:Int) (nX:List ai) (n17:Int) (n18:Int):Option (((List ai)×Int)⊕(List ai)):=
 iter (fun x:(List ai)×Int×Int=>cC ah ml n12 x.1 x.2.1 x.2.2) (nX,n17,n18)
def cE (ah:Int) (ml:ai→ai→Option Int) (dN:List ai) (n12:Int):Option (((List ai)×Int)⊕(List ai)):=
 if n12 < ah then
  lP ah ml n12 dN (0:Int) (aL ((2:Int) * n12))
 else
  Option.map .inr (some dN)
def iu (ah:Int) (ml:ai→ai→Option Int) (dN:List ai) (n12:Int):Option (List ai):=
 iter (fun x:(List ai)×Int=>cE ah ml x.1 x.2) (dN,n12)
def iv (ah:Int) (ml:ai→ai→Option Int) (l4:List ai) (n5:Int):Option (List ai):=
 (fO l4.length (fun r:(List ai)=>r.length) (dx l4 n5 ah ml)).bind fun v8=>
 iu ah ml v8 (20:Int)
def cF (ah:Int) (ml:ai→ai→Option Int) (l4:List ai) (n5:Int) (n6:Int):Option (((List ai)×Int×Int)⊕(List ai)):=
 if n6≤ah then
  (fO l4.length (fun r:(List ai)=>r.length) (dx l4 n5 n6 ml)).bind fun v7=>
  some (.inl (v7,n6,aL (n6+(20:Int))))
 else
  Option.map .inr (iv ah ml l4 n5)
def lQ (ah:Int) (ml:ai→ai→Option Int) (l4:List ai) (n5:Int) (n6:Int):Option (List ai):=
 iter (fun x:(List ai)×Int×Int=>cF ah ml x.1 x.2.1 x.2.2) (l4,n5,n6)
def gl (ab:List ai) (ah:Int) (ml:ai→ai→Option Int):Option (List ai):=
 lQ ah ml ab (0:Int) (20:Int)
def ck (ab:List ai) (gZ:ai→ai→Option Int):Option (List ai):=
 (fO ab.length (fun r:(List ai)=>r.length) (gl ab (ab.length:Int) gZ)).bind fun v1=>
 some v1
def lR (n9:Int) (jT:List ai):Option (((List ai)×Int)⊕(List ai)):=
 some (.inl (jT,aL (n9+(1:Int))))
def lS (n21:Int) (ri:List ai):Option (((List ai)×Int)⊕(((List ai)×Int)⊕(List ai))):=
 some (.inl (ri,aL (n21+(1:Int))))
def jK (ab:List Signal) (ah:List aA) (ao:List aB) (aD:ar) (fo:an) (ll:Int) (mU:List ai) (n21:Int) (v24:Signal) (n27:Int):Option (((List ai)×Int)⊕(((List ai)×Int)⊕(List ai))):=
 (idx ah ll).bind fun v33=>
 (nC ab fo v33 ao (⟨v24.At,n27⟩:ar) aD).bind fun EO=>
 (app mU EO).bind fun M6=>
 lS n21 M6
def pU (ab:List Signal) (ah:List aA) (ao:List aB) (aD:ar) (fo:an) (ll:Int) (mU:List ai) (n21:Int) (v24:Signal) (n29:Int) (v30:Signal) (R1:Bool):Option (Int⊕(((List ai)×Int)⊕(((List ai)×Int)⊕(List ai)))):=
 if R1=true then
  Option.map .inr (jK ab ah ao aD fo ll mU n21 v24 v30.At)
 else
  some (.inl (aL (n29+(1:Int))))
def iI (ab:List Signal) (ah:List aA) (ao:List aB) (aD:ar) (fo:an) (ll:Int) (mU:List ai) (n21:Int) (v24:Signal) (sY:List Signal) (n29:Int):Option (Int⊕(((List ai)×Int)⊕(((List ai)×Int)⊕(List ai)))):=
 if n29 < (sY.length:Int) then
  (idx sY n29).bind fun v30=>
  pU ab ah ao aD fo ll mU n21 v24 n29 v30 ((decide (v30.Kind=(2:Int)))||(decide (v30.Kind=(3:Int))))
 else
  Option.map .inr (jK ab ah ao aD fo ll mU n21 v24 (345686400000:Int))
def lT (ab:List Signal) (ah:List aA) (ao:List aB) (aD:ar) (fo:an) (ll:Int) (mU:List ai) (n21:Int) (v24:Signal) (sY:List Signal) (n29:Int):Option (((List ai)×Int)⊕(((List ai)×Int)⊕(List ai))):=
 iter (fun x:Int=>iI ab ah ao aD fo ll mU n21 v24 sY x) n29
def jL (ab:List Signal) (ah:List aA) (ao:List aB) (aD:ar) (n9:Int) (fo:an) (ll:Int) (mU:List ai) (n21:Int):Option (((List ai)×Int)⊕(((List ai)×Int)⊕(List ai))):=
 if n21 < (fo.bw.length:Int) then
  (idx fo.bw n21).bind fun v24=>
  if v24.Kind≠(1:Int) then
   lS n21 mU
  else
   (Bq fo.bw (aL (n21+(1:Int))) (fo.bw.length:Int)).bind fun sY=>
   lT ab ah ao aD fo ll mU n21 v24 sY (0:Int)
 else
  Option.map .inr (lR n9 mU)
def nD (ab:List Signal) (ah:List aA) (ao:List aB) (aD:ar) (n9:Int) (fo:an) (ll:Int) (mU:List ai) (n21:Int):Option (((List ai)×Int)⊕(List ai)):=
 iter (fun x:(List ai)×Int=>jL ab ah ao aD n9 fo ll x.1 x.2) (mU,n21)
def nE (l8:List ai):Option (List ai):=
 (fO l8.length (fun r:(List ai)=>r.length) (ck l8 (fun y0 y1=>jJ y0 y1))).bind fun Of=>
 some Of
def iJ (ab:List Signal) (ah:List aA) (ao:List aB) (aD:ar) (v2:(List an)×(List dc)) (l8:List ai) (n9:Int):Option (((List ai)×Int)⊕(List ai)):=
 if n9 < (v2.1.length:Int) then
  (idx v2.1 n9).bind fun fo=>
  (cA ah (fun y0=>some (gy y0 fo))).bind fun ll=>
  if ll < (0:Int) then
   lR n9 l8
  else
   nD ab ah ao aD n9 fo ll l8 (0:Int)
 else
  Option.map .inr (nE l8)
def nF (ab:List Signal) (ah:List aA) (ao:List aB) (aD:ar) (v2:(List an)×(List dc)) (l8:List ai) (n9:Int):Option (List ai):=
 iter (fun x:(List ai)×Int=>iJ ab ah ao aD v2 x.1 x.2) (l8,n9)
def pa (ab:List Signal) (ah:List aA) (ao:List aB) (aD:ar):Option (List ai):=
 (oY ab (345686400000:Int)).bind fun v2=>
 nF ab ah ao aD v2 [] (0:Int)
def fC (ab:List ai) (ah:List ai) (n2:Int):Option (Int⊕Bool):=
 if n2 < (ab.length:Int) then
  (idx ab n2).bind fun v3=>
  (idx ah n2).bind fun v4=>
  if v3≠v4 then
   Option.map .inr (some false)
  else
   some (.inl (aL (n2+(1:Int))))
 else
  Option.map .inr (some true)
def qP (ab:List ai) (ah:List ai) (n2:Int):Option Bool:=
 iter (fun x:Int=>fC ab ah x) n2
def gD (ab:List ai) (ah:List ai):Option Bool:=
 if (ab.length:Int)≠(ah.length:Int) then
  some false
 else
  qP ab ah (0:Int)
def jM (c2:Bool):Option Int:=
 if c2=true then
  some (5:Int)
 else
  some (0:Int)
def mw (ab:List Signal) (ah:bO) (ao:bO):Option Int:=
 (ic ab).bind fun v1=>
 if v1≠(0:Int) then
  some v1
 else
  (jC ah).bind fun v3=>
  if (!v3)=true then
   jM true
  else
   (jC ao).bind fun v4=>
   jM (!v4)
def jN (ab:au) (n3:Int) (c4:Bool):iL×Bool:=
 ((⟨ab.bl.aG,ab.bl.a8,ab.aE,ab.bX,(ab.aY.length:Int),n3⟩:iL),c4)
def jO (ab:au) (n3:Int):iL×Bool:=
 if ab.aE≠(0:Int) then
  jN ab n3 true
 else
  jN ab n3 (decide ((0:Int) < n3))
def mz (ab:au) (ah:Int):iL×Bool:=
 if ah < ab.ay then
  jO ab ab.ay
 else
  jO ab (0:Int)
def oI (ab:List Signal) (ah:bO) (ao:bO) (aD:Int):Option (iL×Int):=
 (mw ab ah ao).bind fun v2=>
 if v2≠(0:Int) then
  some ((⟨[],[],(0:Int),(0:Int),(0:Int),(0:Int)⟩:iL),v2)
 else
  if (!(jo aD))=true then
   some ((⟨[],[],(0:Int),(0:Int),(0:Int),(0:Int)⟩:iL),(1:Int))
  else
   (qO ab aD).bind fun v3=>
   zw (gL v3.sX (⟨ah,ao⟩:aq)) (
    some ((⟨ah,ao,(0:Int),(0:Int),(0:Int),(0:Int)⟩:iL),(0:Int))) (fun n10=>
    (idx v3.Cp n10).bind fun v11=>
    some (((mz v11 aD).1),(0:Int)))
def rZ (c3:Bool):Option Bool:=
 some c3
def ug:Option Bool:=
 (oI [(⟨(1:Int),(1:Int),([100]:bO),([114]:bO),[],(0:Int)⟩:Signal)] ([100]:bO) ([114]:bO) (1:Int)).bind fun v1=>
 rZ ((decide (v1.2=(0:Int)))&&(decide (v1.1.State=(1:Int))))
def mA (R2:Bool):Option Bool:=
 some R2
def kf (v33:(List ai)×Int) (n38:Int) (Cq:List ai):Option Bool:=
 if v33.2=n38 then
  (gD v33.1 Cq).bind fun v49=>
  if v49=true then
   (ug).bind fun v50=>
   mA v50
  else
   mA false
 else
  mA false
def mB (v33:(List ai)×Int) (n43:Int) (EP:List ai):Option Bool:=
 kf v33 n43 EP
def ja (v3:(List Signal)×ak) (v5:(List aA)×ak) (v6:(List aB)×ak) (v9:ar×ak) (n13:Int) (gR:Int) (Jr:Bool):Option Bool:=
 if Jr=true then
  some false
 else
  (kX v3.1 v5.1 v6.1 (⟨v9.1.aM,n13⟩:ar)).bind fun v33=>
  (lG v3.1).bind fun v35=>
  (jD v5.1).bind fun R3=>
  (l0 [v35,R3,gR,(fP (⟨v9.1.aM,n13⟩:ar))]).bind fun v37=>
  if v37=(0:Int) then
   (pa v3.1 v5.1 v6.1 (⟨v9.1.aM,n13⟩:ar)).bind fun v41=>
   if (5000:Int) < (v41.length:Int) then
    mB v33 (2:Int) []
   else
    mB v33 v37 v41
  else
   kf v33 v37 []
def mC (v3:(List Signal)×ak) (v5:(List aA)×ak) (v6:(List aB)×ak) (v9:ar×ak) (v10:bO×ak) (n13:Int) (gR:Int) (R4:Bool):Option Bool:=
 if R4=true then
  some false
 else
  (mr v6.1 v10.1 (⟨v9.1.aM,n13⟩:ar)).bind fun v25=>
  (qp v10.1).bind fun rU=>
  (l0 [gR,rU,(fP (⟨v9.1.aM,n13⟩:ar))]).bind fun v28=>
  if v25.2≠v28 then
   ja v3 v5 v6 v9 n13 gR true
  else
   if v28=(0:Int) then
    (oF v6.1 v10.1 (⟨v9.1.aM,n13⟩:ar)).bind fun v30=>
    (gx v25.1 v30).bind fun v32=>
    ja v3 v5 v6 v9 n13 gR (!v32)
   else
    ja v3 v5 v6 v9 n13 gR false
def mD (v3:(List Signal)×ak) (v5:(List aA)×ak) (v6:(List aB)×ak) (v9:ar×ak) (v10:bO×ak) (n13:Int) (gR:Int) (vl:bO×Bool×Int) (v21:Int) (Pm:bO):Option Bool:=
 mC v3 v5 v6 v9 v10 n13 gR ((decide (vl.2.2≠v21))||((decide (vl.1≠Pm))||(vl.2.1!=(decide (Pm≠([]:bO))))))
def mE (v3:(List Signal)×ak) (v5:(List aA)×ak) (v6:(List aB)×ak) (v8:Int×ak) (v9:ar×ak) (v10:bO×ak) (n13:Int) (gR:Int) (BS:Bool):Option Bool:=
 if BS=true then
  some false
 else
  (pL v6.1 v10.1 v8.1).bind fun vl=>
  (qp v10.1).bind fun v20=>
  (l0 [gR,v20,(iz v8.1)]).bind fun v21=>
  if v21=(0:Int) then
   (qq v6.1 v10.1 v8.1).bind fun v23=>
   mD v3 v5 v6 v9 v10 n13 gR vl v21 v23
  else
   mD v3 v5 v6 v9 v10 n13 gR vl v21 ([]:bO)
def kh (v3:(List Signal)×ak) (v5:(List aA)×ak) (v6:(List aB)×ak) (v8:Int×ak) (v9:ar×ak) (v10:bO×ak) (n13:Int):Option Bool:=
 (oE v6.1).bind fun gR=>
 (cQ v5.1).bind fun xo=>
 (jD v5.1).bind fun v17=>
 if xo≠v17 then
  mE v3 v5 v6 v8 v9 v10 n13 gR true
 else
  (cP v6.1).bind fun zC=>
  mE v3 v5 v6 v8 v9 v10 n13 gR (decide (zC≠gR))
def pV (ab:List Int):Option Bool:=
 (ko (⟨ab,(0:Int)⟩:ak) (0:Int) (10:Int)).bind fun v2=>
 (np v2.2 v2.1 false).bind fun v3=>
 (nq v3.2).bind fun v5=>
 (oD v5.2).bind fun v6=>
 (qK v6.2).bind fun v8=>
 (qL v8.2).bind fun v9=>
 (dI v9.2 [([111,112,115]:bO),([98,111,115,115]:bO),([65]:bO)]).bind fun v10=>
 (fx v10.2 (2:Int)).bind fun v12=>
 if v12.1=true then
  kh v3 v5 v6 v8 v9 v10 (min v9.1.To (5000:Int))
 else
  kh v3 v5 v6 v8 v9 v10 v9.1.To
end
end Go.Beacon
