/- Plain functions that the Go functions compute, written by shal.py. -/
import Derived.Test.YthamhifbccpcpaaGreatDoorCore
set_option linter.unusedVariables false
namespace Go.Beacon
open Go Go.Eng
noncomputable section
structure an where
 L:List Int
 at_:Int
deriving DecidableEq,Inhabited
structure aG where
 Key:aO
 ax:aO
 eI:Int
 bh:Int
 bj:Bool
 On:Int
 eJ:Int
 bR:Int
 Rest:Int
 Empty:Int
deriving DecidableEq,Inhabited
def aG.av (x:aG):AV:=.agg [.str x.Key,.str x.ax,I x.eI,I x.bh,.bool x.bj,I x.On,I x.eJ,I x.bR,I x.Rest,I x.Empty]
structure ao where
 Device:aO
 ax:aO
 At:Int
 Value:Int
deriving DecidableEq,Inhabited
def ao.av (x:ao):AV:=.agg [.str x.Device,.str x.ax,I x.At,I x.Value]
structure aE where
 aT:Int
 To:Int
deriving DecidableEq,Inhabited
def aE.av (x:aE):AV:=.agg [I x.aT,I x.To]
structure ah where
 Device:aO
 aG:aO
 aT:Int
 To:Int
deriving DecidableEq,Inhabited
def ah.av (x:ah):AV:=.agg [.str x.Device,.str x.aG,I x.aT,I x.To]
structure aZ where
 from_:Int
 EO:Int
deriving DecidableEq,Inhabited
def aZ.av (x:aZ):AV:=.agg [I x.from_,I x.EO]
structure ae where
 at_:Int
 bU:Int
deriving DecidableEq,Inhabited
def ae.av (x:ae):AV:=.agg [I x.at_,I x.bU]
structure aK where
 au:aG
 ba:List ae
 bE:List ae
 bW:List ae
 iZ:Int
 bF:Int
 ck:Int
 bK:Bool
 cm:Int
deriving DecidableEq,Inhabited
structure aq where
 at_:Int
 au:Int
 CW:Int
deriving DecidableEq,Inhabited
def aq.av (x:aq):AV:=.agg [I x.at_,I x.au,I x.CW]
structure Fraction where
 Mi:Int
 Den:Int
deriving DecidableEq,Inhabited
def Fraction.av (x:Fraction):AV:=.agg [I x.Mi,I x.Den]
structure aX where
 from_:Int
 EO:Int
 bF:Int
deriving DecidableEq,Inhabited
def aX.av (x:aX):AV:=.agg [I x.from_,I x.EO,I x.bF]
def xv (n2:Int):Option Int:=
 some n2
def Below (aa:Int) (aj:Int):Option Int:=
 if aj < (1:Int) then
  some (0:Int)
 else
  (rem aa aj).bind fun n1=>
  if n1 < (0:Int) then
   xv (aU (n1+aj))
  else
   xv n1
def gR (aa:an) (aj:Int):Option (Int×an):=
 if (aa.L.length:Int)=(0:Int) then
  (Below (aU ((aU (aa.at_+(1:Int))) * (7919:Int))) aj).bind fun v1=>
  some (v1,(⟨aa.L,aU (aa.at_+(1:Int))⟩:an))
 else
  (rem (aU ((aU (aa.at_+(1:Int))) - (1:Int))) (aa.L.length:Int)).bind fun n2=>
  (quo (aU ((aU (aa.at_+(1:Int))) - (1:Int))) (aa.L.length:Int)).bind fun n3=>
  (idx aa.L n2).bind fun v4=>
  (Below v4 (1073741824:Int)).bind fun v5=>
  (Below (aU (v5+(aU (n3 * (aU ((7919:Int)+n2)))))) aj).bind fun v6=>
  some (v6,(⟨aa.L,aU (aa.at_+(1:Int))⟩:an))
def gh (aa:an) (aj:Int):Option (Bool×an):=
 (gR aa aj).bind fun v1=>
 some (decide (v1.1=(0:Int)),v1.2)
def gS (aa:an) (aj:List aO):Option (aO×an):=
 (gR aa (aj.length:Int)).bind fun v1=>
 (idx aj v1.1).bind fun v2=>
 some (v2,v1.2)
def kC (aa:an) (aj:Int) (ar:Int):Option (Int×an):=
 if ar < aj then
  some (aj,aa)
 else
  (gR aa (aU ((aU (ar - aj))+(1:Int)))).bind fun v1=>
  some (aU (aj+v1.1),v1.2)
def cF (aa:an) (aj:List Int):Option (Int×an):=
 (gR aa (aj.length:Int)).bind fun v1=>
 (idx aj v1.1).bind fun v2=>
 some (v2,v1.2)
def jn (aj:aO) (v2:aO×an) (v3:Int×an) (v4:Int×an) (v5:Bool×an) (v6:Int×an) (v7:Int×an) (v8:Int×an) (v9:Int×an) (v11:Int×an) (n12:Int):Option (aG×an):=
 some ((⟨aj,v2.1,v3.1,v4.1,v5.1,v6.1,n12,v7.1,v8.1,v9.1⟩:aG),v11.2)
def iq (aa:an) (aj:aO):Option (aG×an):=
 (gS aa [([116]:aO),([116]:aO),([117]:aO)]).bind fun v2=>
 (kC v2.2 (1:Int) (6:Int)).bind fun v3=>
 (cF v3.2 [(5:Int),(20:Int),(50:Int),(100:Int)]).bind fun v4=>
 (gh v4.2 (2:Int)).bind fun v5=>
 (cF v5.2 [(0:Int),(2:Int),(5:Int),(8:Int)]).bind fun v6=>
 (cF v6.2 [(0:Int),(0:Int),(5:Int),(15:Int)]).bind fun v7=>
 (cF v7.2 [(0:Int),(0:Int),(5:Int),(15:Int)]).bind fun v8=>
 (cF v8.2 [(0:Int),(0:Int),(1:Int),(2:Int)]).bind fun v9=>
 (cF v9.2 [(0:Int),(0:Int),(2:Int),(4:Int)]).bind fun v11=>
 if (!v5.1)=true then
  jn aj v2 v3 v4 v5 v6 v7 v8 v9 v11 (aU ((aU ((2:Int) * v6.1)) - (aU (v6.1 - v11.1))))
 else
  jn aj v2 v3 v4 v5 v6 v7 v8 v9 v11 (aU (v6.1 - v11.1))
def fV (aa:an) (aj:Int) (ar:Int):Option (Int×an):=
 (gh aa (12:Int)).bind fun v1=>
 if v1.1=true then
  (cF v1.2 [aU (aj - (1:Int)),aU (ar+(1:Int)),aj,ar,(-1099511627776:Int),(1099511627776:Int)]).bind fun v2=>
  some (v2.1,v2.2)
 else
  (kC v1.2 aj ar).bind fun v3=>
  some (v3.1,v3.2)
def ma (n10:Int) (tL:List Int) (n15:Int) (xw:List aG):Option (((List Int)×Int×(List aG)×Int)⊕((List aG)×an)):=
 some (.inl (tL,n15,xw,aU (n10+(1:Int))))
def ko (va:List Int) (n23:Int) (U0:List aG):Option ((List aG)×an):=
 some (U0,(⟨va,n23⟩:an))
def mb (l9:List aG) (cx:aG×an) (fx:List Int) (n31:Int) (U3:aO) (n33:Int) (n34:Int) (n35:Int) (n36:Int) (n37:Int) (n38:Int) (n39:Int):Option ((List aG)×an):=
 (app l9 [(⟨cx.1.Key,U3,n33,n34,cx.1.bj,n35,n36,n37,n38,n39⟩:aG)]).bind fun ZG=>
 ko fx n31 ZG
def mc (l9:List aG) (cx:aG×an) (U4:List Int) (n43:Int) (U5:aO) (n45:Int) (n46:Int) (n47:Int) (n48:Int) (n49:Int):Option ((List aG)×an):=
 mb l9 cx U4 n43 U5 cx.1.eI n45 n46 n47 n48 n49 cx.1.Empty
def me (l9:List aG) (cx:aG×an) (M5:List Int) (U6:Int) (U7:aO) (U8:Int) (n57:Int):Option ((List aG)×an):=
 mc l9 cx M5 U6 U7 cx.1.bh U8 n57 cx.1.bR cx.1.Rest
def sD (l6:List Int) (n7:Int) (l9:List aG):Option ((List aG)×an):=
 (gh (⟨l6,n7⟩:an) (15:Int)).bind fun v21=>
 if v21.1=true then
  (gS v21.2 [([]:aO),([114,97]:aO),([114,122]:aO)]).bind fun v26=>
  (iq v26.2 v26.1).bind fun cx=>
  (gR cx.2 (4:Int)).bind fun pn=>
  if pn.1=(0:Int) then
   (fV pn.2 (1:Int) (6:Int)).bind fun v40=>
   (fV v40.2 (0:Int) (2:Int)).bind fun v41=>
   mb l9 cx v41.2.L v41.2.at_ cx.1.ax v40.1 cx.1.bh cx.1.On cx.1.eJ cx.1.bR cx.1.Rest v41.1
  else
   if pn.1=(1:Int) then
    (fV pn.2 (1:Int) (2592000000:Int)).bind fun v50=>
    (fV v50.2 (0:Int) (2592000000:Int)).bind fun v51=>
    (fV v51.2 (0:Int) (2592000000:Int)).bind fun P1=>
    mc l9 cx P1.2.L P1.2.at_ cx.1.ax v50.1 cx.1.On cx.1.eJ v51.1 P1.1
   else
    if pn.1=(2:Int) then
     (fV pn.2 (-1000000000:Int) (1000000000:Int)).bind fun v58=>
     (fV v58.2 (-3:Int) (9:Int)).bind fun v59=>
     me l9 cx v59.2.L v59.2.at_ cx.1.ax v58.1 v59.1
    else
     (gS pn.2 [([]:aO),([65]:aO),([116]:aO)]).bind fun v60=>
     me l9 cx v60.2.L v60.2.at_ v60.1 cx.1.On cx.1.eJ
 else
  ko v21.2.L v21.2.at_ l9
def mf (l6:List Int) (n7:Int) (l9:List aG) (n10:Int):Option (((List Int)×Int×(List aG)×Int)⊕((List aG)×an)):=
 if n10 < ([([114,97]:aO),([114,98]:aO),([114,99]:aO)].length:Int) then
  (idx [([114,97]:aO),([114,98]:aO),([114,99]:aO)] n10).bind fun v12=>
  (gh (⟨l6,n7⟩:an) (2:Int)).bind fun k9=>
  if k9.1=true then
   (iq k9.2 v12).bind fun lL=>
   (app l9 [lL.1]).bind fun lU=>
   ma n10 lL.2.L lL.2.at_ lU
  else
   ma n10 k9.2.L k9.2.at_ l9
 else
  Option.map .inr (sD l6 n7 l9)
def wK (l6:List Int) (n7:Int) (l9:List aG) (n10:Int):Option ((List aG)×an):=
 iter (fun x:(List Int)×Int×(List aG)×Int=>mf x.1 x.2.1 x.2.2.1 x.2.2.2) (l6,n7,l9,n10)
def pK (aa:an):Option ((List aG)×an):=
 wK aa.L aa.at_ [] (0:Int)
def pL (v3:aG×an) (l6:List Int) (n7:Int) (q8:aO) (n9:Int) (n10:Int):Option (aG×an):=
 some ((⟨q8,v3.1.ax,n9,n10,v3.1.bj,v3.1.On,v3.1.eJ,v3.1.bR,v3.1.Rest,v3.1.Empty⟩:aG),(⟨l6,n7⟩:an))
def tv (aa:an):Option (aG×an):=
 (gS aa [([114,97]:aO),([114,97]:aO),([114,98]:aO)]).bind fun v2=>
 (iq v2.2 v2.1).bind fun v3=>
 (gh v3.2 (20:Int)).bind fun v5=>
 if v5.1=true then
  (gS v5.2 [([]:aO),([114,97]:aO)]).bind fun v11=>
  (fV v11.2 (1:Int) (6:Int)).bind fun v12=>
  (fV v12.2 (1:Int) (100:Int)).bind fun k9=>
  pL v3 k9.2.L k9.2.at_ v11.1 v12.1 k9.1
 else
  pL v3 v5.2.L v5.2.at_ v3.1.Key v3.1.eI v3.1.bh
def jN (n35:Int) (Wj:List Int) (n39:Int) (U9:List ao):Option (((List Int)×Int×(List ao)×Int)⊕(((List Int)×Int×(List ao)×Int)⊕(((List Int)×Int×(List ao)×Int×Int)⊕((List ao)×an)))):=
 some (.inl (Wj,n39,U9,aU (n35+(1:Int))))
def jO (n12:Int) (n24:Int) (v25:aO) (Q2:List Int) (n32:Int) (GF:List ao) (n35:Int):Option (((List Int)×Int×(List ao)×Int)⊕(((List Int)×Int×(List ao)×Int)⊕(((List Int)×Int×(List ao)×Int×Int)⊕((List ao)×an)))):=
 if n35 < ([([116]:aO),([117]:aO)].length:Int) then
  (idx [([116]:aO),([117]:aO)] n35).bind fun AP=>
  (gh (⟨Q2,n32⟩:an) (3:Int)).bind fun v37=>
  if v37.1=true then
   (cF v37.2 [(0:Int),(1:Int),(2:Int),(4:Int),(5:Int),(6:Int),(8:Int),(9:Int),(-3:Int)]).bind fun A8=>
   (app GF [(⟨v25,AP,n12,A8.1⟩:ao)]).bind fun ZH=>
   jN n35 A8.2.L A8.2.at_ ZH
  else
   jN n35 v37.2.L v37.2.at_ GF
 else
  Option.map .inr (some (.inl (Q2,n32,GF,aU (n24+(1:Int)))))
def tM (n12:Int) (n24:Int) (v25:aO) (Q2:List Int) (n32:Int) (GF:List ao) (n35:Int):Option (((List Int)×Int×(List ao)×Int)⊕(((List Int)×Int×(List ao)×Int×Int)⊕((List ao)×an))):=
 iter (fun x:(List Int)×Int×(List ao)×Int=>jO n12 n24 v25 x.1 x.2.1 x.2.2.1 x.2.2.2) (Q2,n32,GF,n35)
def oZ (n12:Int) (n13:Int) (vZ:List Int) (n21:Int) (od:List ao):Option (((List Int)×Int×(List ao)×Int×Int)⊕((List ao)×an)):=
 (cF (⟨vZ,n21⟩:an) [(1:Int),(3:Int),(5:Int),(10:Int),(40:Int)]).bind fun v45=>
 some (.inl (v45.2.L,v45.2.at_,od,aU (n12+v45.1),aU (n13+(1:Int))))
def jP (n12:Int) (n13:Int) (vZ:List Int) (n21:Int) (od:List ao) (n24:Int):Option (((List Int)×Int×(List ao)×Int)⊕(((List Int)×Int×(List ao)×Int×Int)⊕((List ao)×an))):=
 if n24 < ([([100,97]:aO),([100,98]:aO)].length:Int) then
  (idx [([100,97]:aO),([100,98]:aO)] n24).bind fun v25=>
  tM n12 n24 v25 vZ n21 od (0:Int)
 else
  Option.map .inr (oZ n12 n13 vZ n21 od)
def tN (n12:Int) (n13:Int) (vZ:List Int) (n21:Int) (od:List ao) (n24:Int):Option (((List Int)×Int×(List ao)×Int×Int)⊕((List ao)×an)):=
 iter (fun x:(List Int)×Int×(List ao)×Int=>jP n12 n13 x.1 x.2.1 x.2.2.1 x.2.2.2) (vZ,n21,od,n24)
def jQ (BV:List Int) (n51:Int) (Va:List ao):Option ((List ao)×an):=
 some (Va,(⟨BV,n51⟩:an))
def ir (jE:List ao) (IH:List Int) (n47:Int) (Om:Bool):Option ((List ao)×an):=
 if Om=true then
  (gR (⟨IH,n47⟩:an) (jE.length:Int)).bind fun v53=>
  (idx jE v53.1).bind fun v54=>
  (cF v53.2 [v54.At,(-1:Int),(0:Int),(345686400000:Int)]).bind fun v55=>
  (gS v55.2 [v54.Device,([]:aO),([65]:aO)]).bind fun yD=>
  (fV yD.2 (-1000000000:Int) (1000000000:Int)).bind fun Hz=>
  jQ Hz.2.L Hz.2.at_ (((jE.set v53.1.toNat (⟨v54.Device,v54.ax,v55.1,v54.Value⟩:ao)).set v53.1.toNat (⟨yD.1,v54.ax,v55.1,v54.Value⟩:ao)).set v53.1.toNat (⟨yD.1,v54.ax,v55.1,Hz.1⟩:ao))
 else
  jQ IH n47 jE
def o0 (l8:List Int) (n9:Int) (jE:List ao):Option ((List ao)×an):=
 if (0:Int) < (jE.length:Int) then
  (gh (⟨l8,n9⟩:an) (20:Int)).bind fun v49=>
  ir jE v49.2.L v49.2.at_ v49.1
 else
  ir jE l8 n9 false
def jR (aj:Int) (l8:List Int) (n9:Int) (jE:List ao) (n12:Int) (n13:Int):Option (((List Int)×Int×(List ao)×Int×Int)⊕((List ao)×an)):=
 if n13 < aj then
  tN n12 n13 l8 n9 jE (0:Int)
 else
  Option.map .inr (o0 l8 n9 jE)
def tO (aj:Int) (l8:List Int) (n9:Int) (jE:List ao) (n12:Int) (n13:Int):Option ((List ao)×an):=
 iter (fun x:(List Int)×Int×(List ao)×Int×Int=>jR aj x.1 x.2.1 x.2.2.1 x.2.2.2.1 x.2.2.2.2) (l8,n9,jE,n12,n13)
def mg (aa:an) (aj:Int):Option ((List ao)×an):=
 (gR aa (20:Int)).bind fun v1=>
 tO aj v1.2.L v1.2.at_ [] v1.1 (0:Int)
def mX (l6:List Int) (n7:Int) (n8:Int) (n9:Int):Option (aE×an):=
 some ((⟨n8,n9⟩:aE),(⟨l6,n7⟩:an))
def rQ (aa:an):Option (aE×an):=
 (cF aa [(0:Int),(5:Int),(30:Int),(100:Int)]).bind fun v2=>
 (cF v2.2 [(30:Int),(100:Int),(250:Int),(1000:Int),(345686400000:Int)]).bind fun v3=>
 (gh v3.2 (20:Int)).bind fun v5=>
 if v5.1=true then
  (cF v5.2 [(-1:Int),(10:Int)]).bind fun v10=>
  (cF v10.2 [(9:Int),(345686400001:Int)]).bind fun v11=>
  mX v11.2.L v11.2.at_ v10.1 v11.1
 else
  mX v5.2.L v5.2.at_ v2.1 v3.1
def GG (c1:Bool):Bool:=
 c1
def nD (aa:Int) (aj:Int) (ar:Int):Bool:=
 GG ((decide (aj≤aa))&&(decide (aa≤ar)))
def vx (c1:Bool):Option Bool:=
 some c1
def zX (aa:aO):Option Bool:=
 if (nD (aa.length:Int) (1:Int) (40:Int))=true then
  (Ix aa ([97,98,99,100,101,102,103,104,105,106,107,108,109,110,111,112,113,114,115,116,117,118,119,120,121,122,48,49,50,51,52,53,54,55,56,57,45,95]:aO)).bind fun v2=>
  if v2=([]:aO) then
   (idx aa (0:Int)).bind fun c3=>
   vx (decide ((0:Int)≤(vY ([97,98,99,100,101,102,103,104,105,106,107,108,109,110,111,112,113,114,115,116,117,118,119,120,121,122]:aO) (c3.toNat:Int))))
  else
   vx false
 else
  vx false
def ji (aa:Int):Bool:=
 (nD aa (-1000000000:Int) (1000000000:Int))
def mh (n2:Int) (v3:aG) (c9:Bool):Option (Int⊕Int):=
 if c9=true then
  Option.map .inr (some (1:Int))
 else
  if (!(nD v3.Empty (0:Int) (2:Int)))=true then
   Option.map .inr (some (4:Int))
  else
   some (.inl (aU (n2+(1:Int))))
def kq (n2:Int) (v3:aG) (c6:Bool):Option (Int⊕Int):=
 if c6=true then
  Option.map .inr (some (7:Int))
 else
  (zX v3.ax).bind fun v8=>
  if (!v8)=true then
   Option.map .inr (some (5:Int))
  else
   if (!(nD v3.eI (1:Int) (6:Int)))=true then
    Option.map .inr (some (4:Int))
   else
    mh n2 v3 ((!(nD v3.bh (1:Int) (2592000000:Int)))||((!(ji v3.On))||((!(ji v3.eJ))||(if v3.bj=true then (decide (v3.On < v3.eJ))||(if (!v3.bj)=true then (decide (v3.eJ < v3.On))||((!(nD v3.bR (0:Int) (2592000000:Int)))||(!(nD v3.Rest (0:Int) (2592000000:Int)))) else (!(nD v3.bR (0:Int) (2592000000:Int)))||(!(nD v3.Rest (0:Int) (2592000000:Int)))) else if (!v3.bj)=true then (decide (v3.eJ < v3.On))||((!(nD v3.bR (0:Int) (2592000000:Int)))||(!(nD v3.Rest (0:Int) (2592000000:Int)))) else (!(nD v3.bR (0:Int) (2592000000:Int)))||(!(nD v3.Rest (0:Int) (2592000000:Int)))))))
def gU (aa:List aG) (n2:Int):Option (Int⊕Int):=
 if n2 < (aa.length:Int) then
  (idx aa n2).bind fun v3=>
  (zX v3.Key).bind fun v5=>
  if (!v5)=true then
   Option.map .inr (some (5:Int))
  else
   if (0:Int) < n2 then
    (idx aa (aU (n2 - (1:Int)))).bind fun v7=>
    kq n2 v3 (Op.bytesLess v3.Key v7.Key||v3.Key==v7.Key)
   else
    kq n2 v3 false
 else
  Option.map .inr (some (0:Int))
def wL (aa:List aG) (n2:Int):Option Int:=
 iter (fun x:Int=>gU aa x) n2
def lM (aa:List aG):Option Int:=
 if (100:Int) < (aa.length:Int) then
  some (2:Int)
 else
  wL aa (0:Int)
def om (aa:Int):Int:=
 if (!(nD aa (0:Int) (345686399999:Int)))=true then
  (1:Int)
 else
  (0:Int)
def jF (aa:ao) (c2:Bool):Option Int:=
 if c2=true then
  some (5:Int)
 else
  if (!(nD aa.Value (-1000000000:Int) (1000000000:Int)))=true then
   some (1:Int)
  else
   some (0:Int)
def oo (aa:ao):Option Int:=
 if (om aa.At)≠(0:Int) then
  some (1:Int)
 else
  (zX aa.Device).bind fun v3=>
  if (!v3)=true then
   jF aa true
  else
   (zX aa.ax).bind fun v4=>
   jF aa (!v4)
def cmp_isNaN_int (aa:Int):Bool:=
 decide (aa≠aa)
def cmp_Compare_int (aa:Int) (aj:Int):Int:=
 if (cmp_isNaN_int aa)=true then
  if (cmp_isNaN_int aj)=true then
   (0:Int)
  else
   (-1:Int)
 else
  if (cmp_isNaN_int aj)=true then
   (1:Int)
  else
   if aa < aj then
    (-1:Int)
   else
    if aj < aa then
     (1:Int)
    else
     (0:Int)
def qZ (aa:List Int) (n2:Int):Option (Int⊕Int):=
 if n2 < (aa.length:Int) then
  (idx aa n2).bind fun v3=>
  if v3≠(0:Int) then
   Option.map .inr (some v3)
  else
   some (.inl (aU (n2+(1:Int))))
 else
  Option.map .inr (some (0:Int))
def EP (aa:List Int) (n2:Int):Option Int:=
 iter (fun x:Int=>qZ aa x) n2
def jj (aa:List Int):Option Int:=
 EP aa (0:Int)
def oq (aa:ao) (aj:ao):Option Int:=
 (jj [(cmp_Compare_int aa.At aj.At),(Lib.compareBytes aa.Device aj.Device),(Lib.compareBytes aa.ax aj.ax)]).bind fun v3=>
 some v3
def kD (n2:Int) (c6:Bool):Option (Int⊕Int):=
 if c6=true then
  Option.map .inr (some (7:Int))
 else
  some (.inl (aU (n2+(1:Int))))
def fA (aa:List ao) (n2:Int):Option (Int⊕Int):=
 if n2 < (aa.length:Int) then
  (idx aa n2).bind fun v3=>
  (oo v3).bind fun v5=>
  if v5≠(0:Int) then
   Option.map .inr (some v5)
  else
   if (0:Int) < n2 then
    (idx aa (aU (n2 - (1:Int)))).bind fun v7=>
    (oq v7 v3).bind fun v8=>
    kD n2 (decide ((0:Int)≤v8))
   else
    kD n2 false
 else
  Option.map .inr (some (0:Int))
def uI (aa:List ao) (n2:Int):Option Int:=
 iter (fun x:Int=>fA aa x) n2
def mY (aa:List ao):Option Int:=
 if (5000:Int) < (aa.length:Int) then
  some (2:Int)
 else
  uI aa (0:Int)
def nE (c2:Bool):Int:=
 if c2=true then
  (1:Int)
 else
  (0:Int)
def bP (aa:aE):Int:=
 nE ((!(nD aa.aT (0:Int) aa.To))||(decide ((345686400000:Int) < aa.To)))
def uJ (n5:Int) (c7:Bool):Option (Int⊕Bool):=
 if c7=true then
  Option.map .inr (some false)
 else
  some (.inl (aU (n5+(1:Int))))
def mZ (aa:aO) (n5:Int):Option (Int⊕Bool):=
 if n5 < (aa.length:Int) then
  (idx aa n5).bind fun c6=>
  uJ n5 (if (97:Int)≤(c6.toNat:Int) then if (c6.toNat:Int)≤(122:Int) then !true else if (48:Int)≤(c6.toNat:Int) then if (c6.toNat:Int)≤(57:Int) then !true else if (c6.toNat:Int)=(45:Int) then !true else decide (¬ ((c6.toNat:Int)=(95:Int))) else if (c6.toNat:Int)=(45:Int) then !true else decide (¬ ((c6.toNat:Int)=(95:Int))) else if (48:Int)≤(c6.toNat:Int) then if (c6.toNat:Int)≤(57:Int) then !true else if (c6.toNat:Int)=(45:Int) then !true else decide (¬ ((c6.toNat:Int)=(95:Int))) else if (c6.toNat:Int)=(45:Int) then !true else decide (¬ ((c6.toNat:Int)=(95:Int))))
 else
  Option.map .inr (some true)
def xx (aa:aO) (n5:Int):Option Bool:=
 iter (fun x:Int=>mZ aa x) n5
def na (aa:aO) (c1:Bool):Option Bool:=
 if c1=true then
  some false
 else
  xx aa (0:Int)
def pM (aa:aO):Option Bool:=
 if aa=([]:aO) then
  na aa true
 else
  if (40:Int) < (aa.length:Int) then
   na aa true
  else
   (idx aa (0:Int)).bind fun c2=>
   if (c2.toNat:Int) < (97:Int) then
    na aa true
   else
    (idx aa (0:Int)).bind fun c3=>
    na aa (decide ((122:Int) < (c3.toNat:Int)))
def xy (c1:Bool):Bool:=
 c1
def gi (aa:Int) (aj:Int) (ar:Int):Bool:=
 xy ((decide (aa < aj))||(decide (ar < aa)))
def dM (aa:Int):Bool:=
 !(gi aa (-1000000000:Int) (1000000000:Int))
def iu (n2:Int) (v3:aG) (II:Bool):Option (Int⊕Int):=
 if II=true then
  Option.map .inr (some (1:Int))
 else
  if (gi v3.Empty (0:Int) (2:Int))=true then
   Option.map .inr (some (4:Int))
  else
   some (.inl (aU (n2+(1:Int))))
def iv (n2:Int) (v3:aG) (c9:Bool):Option (Int⊕Int):=
 if c9=true then
  Option.map .inr (some (1:Int))
 else
  if (gi v3.bR (0:Int) (2592000000:Int))=true then
   iu n2 v3 (gi v3.bR (0:Int) (2592000000:Int))
  else
   iu n2 v3 (gi v3.Rest (0:Int) (2592000000:Int))
def fW (n2:Int) (v3:aG) (CX:Bool):Option (Int⊕Int):=
 iv n2 v3 CX
def fX (n2:Int) (v3:aG) (HA:Bool):Option (Int⊕Int):=
 fW n2 v3 HA
def iw (n2:Int) (v3:aG) (Vb:Bool):Option (Int⊕Int):=
 fX n2 v3 Vb
def lN (n2:Int) (v3:aG) (Vc:Bool):Option (Int⊕Int):=
 iw n2 v3 Vc
def lO (n2:Int) (v3:aG) (c12:Bool):Option (Int⊕Int):=
 if c12=true then
  iw n2 v3 c12
 else
  lN n2 v3 ((!v3.bj)&&(decide (v3.eJ < v3.On)))
def iy (n2:Int) (v3:aG) (c6:Bool):Option (Int⊕Int):=
 if c6=true then
  Option.map .inr (some (7:Int))
 else
  (pM v3.ax).bind fun v8=>
  if (!v8)=true then
   Option.map .inr (some (5:Int))
  else
   if (gi v3.eI (1:Int) (6:Int))=true then
    Option.map .inr (some (4:Int))
   else
    if (gi v3.bh (1:Int) (2592000000:Int))=true then
     iv n2 v3 (gi v3.bh (1:Int) (2592000000:Int))
    else
     if (!(dM v3.On))=true then
      fW n2 v3 (!(dM v3.On))
     else
      if (!(dM v3.eJ))=true then
       fX n2 v3 (!(dM v3.eJ))
      else
       lO n2 v3 (v3.bj&&(decide (v3.On < v3.eJ)))
def fh (aa:List aG) (n2:Int):Option (Int⊕Int):=
 if n2 < (aa.length:Int) then
  (idx aa n2).bind fun v3=>
  (pM v3.Key).bind fun v5=>
  if (!v5)=true then
   Option.map .inr (some (5:Int))
  else
   if (0:Int) < n2 then
    (idx aa (aU (n2 - (1:Int)))).bind fun v7=>
    iy n2 v3 (Op.bytesLess v3.Key v7.Key||v3.Key==v7.Key)
   else
    iy n2 v3 false
 else
  Option.map .inr (some (0:Int))
def tP (aa:List aG) (n2:Int):Option Int:=
 iter (fun x:Int=>fh aa x) n2
def fT (aa:List aG):Option Int:=
 if (100:Int) < (aa.length:Int) then
  some (2:Int)
 else
  tP aa (0:Int)
def rR (aa:Int):Bool:=
 !(gi aa (0:Int) (345686399999:Int))
def gO (aa:ao) (c2:Bool):Option Int:=
 if c2=true then
  some (5:Int)
 else
  if (gi aa.Value (-1000000000:Int) (1000000000:Int))=true then
   some (1:Int)
  else
   some (0:Int)
def ll (aa:ao):Option Int:=
 if (!(rR aa.At))=true then
  some (1:Int)
 else
  (pM aa.Device).bind fun v3=>
  if (!v3)=true then
   gO aa true
  else
   (pM aa.ax).bind fun v4=>
   gO aa (!v4)
def ot (aa:ao) (aj:ao):Option Int:=
 (jj [(cmp_Compare_int aa.At aj.At),(Lib.compareBytes aa.Device aj.Device),(Lib.compareBytes aa.ax aj.ax)]).bind fun v3=>
 some v3
def iS (n2:Int) (c6:Bool):Option (Int⊕Int):=
 if c6=true then
  Option.map .inr (some (7:Int))
 else
  some (.inl (aU (n2+(1:Int))))
def dH (aa:List ao) (n2:Int):Option (Int⊕Int):=
 if n2 < (aa.length:Int) then
  (idx aa n2).bind fun v3=>
  (ll v3).bind fun v5=>
  if v5≠(0:Int) then
   Option.map .inr (some v5)
  else
   if (0:Int) < n2 then
    (idx aa (aU (n2 - (1:Int)))).bind fun v7=>
    (ot v3 v7).bind fun v8=>
    iS n2 (decide (v8≤(0:Int)))
   else
    iS n2 false
 else
  Option.map .inr (some (0:Int))
def rS (aa:List ao) (n2:Int):Option Int:=
 iter (fun x:Int=>dH aa x) n2
def cU (aa:List ao):Option Int:=
 if (5000:Int) < (aa.length:Int) then
  some (2:Int)
 else
  rS aa (0:Int)
def ra (aa:List Int) (n2:Int):Option (Int⊕Int):=
 if n2 < (aa.length:Int) then
  (idx aa n2).bind fun v3=>
  if v3≠(0:Int) then
   Option.map .inr (some v3)
  else
   some (.inl (aU (n2+(1:Int))))
 else
  Option.map .inr (some (0:Int))
def ER (aa:List Int) (n2:Int):Option Int:=
 iter (fun x:Int=>ra aa x) n2
def nf (aa:List Int):Option Int:=
 ER aa (0:Int)
def pN (c2:Bool):Bool:=
 c2
def iT (aa:aE):Bool:=
 pN ((!(gi aa.aT (0:Int) aa.To))&&(decide (aa.To≤(345686400000:Int))))
def ou (n6:Int):Option Int:=
 some n6
def rb (v4:Int) (c5:Bool):Option Int:=
 if c5=true then
  ou (1:Int)
 else
  ou v4
def o4 (aa:List aG) (aj:List ao) (ar:aE):Option Int:=
 (fT aa).bind fun v2=>
 (cU aj).bind fun v3=>
 (nf [v2,v3]).bind fun v4=>
 rb v4 ((decide (v4=(0:Int)))&&(!(iT ar)))
def cy (aa:List aO):Option (List aO):=
 BN DK aa
def eN (n11:Int) (tL:List aO) (n15:Int):Option (((List aO)×Int×Int)⊕(Int⊕(List aO))):=
 some (.inl (tL,n15,aU (n11+(1:Int))))
def k6 (l9:List aO) (n10:Int):Option (Int⊕(List aO)):=
 (xm l9 n10 (l9.length:Int)).bind fun dL=>
 (xm (Fm l9 n10 dL.length []) (0:Int) n10).bind fun lU=>
 Option.map .inr (some lU)
def eO (n2:Int) (l5:List aO) (l9:List aO) (n10:Int) (n11:Int):Option (((List aO)×Int×Int)⊕(Int⊕(List aO))):=
 if n11 < (l5.length:Int) then
  (vU l9 n2 l5.length n11).bind fun v12=>
  (vU l9 n2 l5.length (aU (n11 - (1:Int)))).bind fun k9=>
  if v12≠k9 then
   (vU l9 n2 l5.length n11).bind fun gx=>
   (idx l9 n10).bind fun v17=>
   eN n11 (l9.set n10.toNat gx) (aU (n10+(1:Int)))
  else
   eN n11 l9 n10
 else
  Option.map .inr (k6 l9 n10)
def qt (n2:Int) (l5:List aO) (l9:List aO) (n10:Int) (n11:Int):Option (Int⊕(List aO)):=
 iter (fun x:(List aO)×Int×Int=>eO n2 l5 x.1 x.2.1 x.2.2) (l9,n10,n11)
def eP (aa:List aO) (n2:Int):Option (Int⊕(List aO)):=
 if n2 < (aa.length:Int) then
  (idx aa n2).bind fun v3=>
  (idx aa (aU (n2 - (1:Int)))).bind fun v4=>
  if v3=v4 then
   (xm aa n2 (aa.length:Int)).bind fun l5=>
   qt n2 l5 aa n2 (1:Int)
  else
   some (.inl (aU (n2+(1:Int))))
 else
  Option.map .inr (some aa)
def qu (aa:List aO) (n2:Int):Option (List aO):=
 iter (fun x:Int=>eP aa x) n2
def dS (aa:List aO):Option (List aO):=
 if (aa.length:Int) < (2:Int) then
  some aa
 else
  qu aa (1:Int)
def mi (n6:Int) (jE:List aO):Option (((List aO)×Int)⊕(List aO)):=
 some (.inl (jE,aU (n6+(1:Int))))
def mj (l5:List aO):Option (List aO):=
 (dm l5.length (fun r:(List aO)=>r.length) (cy l5)).bind fun nz=>
 (dS nz).bind fun mM=>
 some mM
def fU (aa:List ao) (aj:aO) (l5:List aO) (n6:Int):Option (((List aO)×Int)⊕(List aO)):=
 if n6 < (aa.length:Int) then
  (idx aa n6).bind fun v8=>
  if v8.ax=aj then
   (app l5 [v8.Device]).bind fun jI=>
   mi n6 jI
  else
   mi n6 l5
 else
  Option.map .inr (mj l5)
def wM (aa:List ao) (aj:aO) (l5:List aO) (n6:Int):Option (List aO):=
 iter (fun x:(List aO)×Int=>fU aa aj x.1 x.2) (l5,n6)
def nF (aa:List ao) (aj:aO):Option (List aO):=
 wM aa aj [] (0:Int)
def kE (n18:Int) (n19:Int) (n20:Int):Option Int:=
 if n19≤n18 then
  some (1:Int)
 else
  if n18 < n20 then
   some (2:Int)
  else
   some (0:Int)
def jb (aa:aK) (n3:Int) (n4:Int):Option Int:=
 if (!aa.au.bj)=true then
  kE (aU (-n3)) (aU (-(aU (aa.au.On * n4)))) (aU (-(aU (aa.au.eJ * n4))))
 else
  kE n3 (aU (aa.au.On * n4)) (aU (aa.au.eJ * n4))
def dz (aa:aK) (n6:Int) (n7:Int):Option Int:=
 jb aa n6 n7
def ej (aa:aK) (n9:Int) (n10:Int):Option Int:=
 dz aa n9 n10
def fB (aa:aK) (n12:Int) (n13:Int):Option Int:=
 ej aa n12 n13
def gz (aa:aK) (n14:Int):Option Int:=
 fB aa n14 (1:Int)
def kF (aa:aK) (n15:Int):Option Int:=
 gz aa n15
def mI (aa:aK) (c1:Bool):Option Int:=
 if c1=true then
  (idx [(0:Int),(2:Int),(1:Int)] aa.au.Empty).bind fun v2=>
  some v2
 else
  if aa.au.eI=(1:Int) then
   (idx aa.ba (aU ((aa.ba.length:Int) - (1:Int)))).bind fun v5=>
   jb aa v5.bU (1:Int)
  else
   if aa.au.eI=(2:Int) then
    (idx aa.bE (0:Int)).bind fun v8=>
    dz aa v8.bU (1:Int)
   else
    if aa.au.eI=(3:Int) then
     (idx aa.bW (0:Int)).bind fun v11=>
     ej aa v11.bU (1:Int)
    else
     if aa.au.eI=(4:Int) then
      fB aa aa.iZ (aa.ba.length:Int)
     else
      if aa.au.eI=(5:Int) then
       gz aa (aa.ba.length:Int)
      else
       if aa.au.eI=(6:Int) then
        (idx aa.ba (aU ((aa.ba.length:Int) - (1:Int)))).bind fun gx=>
        (idx aa.ba (0:Int)).bind fun v17=>
        kF aa (aU (gx.bU - v17.bU))
       else
        kF aa (0:Int)
def ln (aa:aK):Option Int:=
 mI aa ((decide ((aa.ba.length:Int)=(0:Int)))&&(decide (aa.au.eI≠(5:Int))))
def ov (aa:aG):Option aK:=
 (ln (⟨aa,[],[],[],(0:Int),(0:Int),(0:Int),false,(0:Int)⟩:aK)).bind fun v2=>
 some (⟨aa,[],[],[],(0:Int),v2,(0:Int),false,(0:Int)⟩:aK)
def lP (aa:aK) (c2:Bool):Int:=
 if c2=true then
  aU (aa.ck+aa.au.Rest)
 else
  (345686400000:Int)
def lQ (aa:aK) (c1:Bool):Int:=
 if c1=true then
  aU (aa.ck+aa.au.bR)
 else
  lP aa (aa.bK&&(decide (aa.bF=(2:Int))))
def dT (aa:aK):Int:=
 lQ aa ((!aa.bK)&&(decide (aa.bF=(1:Int))))
def kG (n1:Int):Option Int:=
 some n1
def ng (aa:aK):Option Int:=
 if (0:Int) < (aa.ba.length:Int) then
  (idx aa.ba (0:Int)).bind fun v2=>
  kG (min (min (dT aa) (345686400000:Int)) (aU (v2.at_+aa.au.bh)))
 else
  kG (min (dT aa) (345686400000:Int))
def jS (n14:Int) (v17:ae) (lU:List ae) (va:List ae) (EG:List ae):Option (((List ae)×(List ae)×(List ae)×Int)⊕aK):=
 some (.inl (lU,va,EG,aU (n14 - v17.bU)))
def fj (jI:List ae) (n14:Int) (v17:ae) (lU:List ae) (va:List ae):Option (((List ae)×(List ae)×(List ae)×Int)⊕aK):=
 (idx jI (0:Int)).bind fun v26=>
 if v26=v17 then
  (xm jI (1:Int) (jI.length:Int)).bind fun vb=>
  jS n14 v17 lU va vb
 else
  jS n14 v17 lU va jI
def dN (aa:aK) (l8:List ae) (l10:List ae) (jI:List ae) (n14:Int) (II:Bool):Option (((List ae)×(List ae)×(List ae)×Int)⊕aK):=
 if II=true then
  (idx l8 (0:Int)).bind fun v17=>
  (xm l8 (1:Int) (l8.length:Int)).bind fun lU=>
  (idx l10 (0:Int)).bind fun v21=>
  if v21=v17 then
   (xm l10 (1:Int) (l10.length:Int)).bind fun qN=>
   fj jI n14 v17 lU qN
  else
   fj jI n14 v17 lU l10
 else
  Option.map .inr (some (⟨aa.au,l8,l10,jI,n14,aa.bF,aa.ck,aa.bK,aa.cm⟩:aK))
def fY (aa:aK) (aj:Int) (l8:List ae) (l10:List ae) (jI:List ae) (n14:Int):Option (((List ae)×(List ae)×(List ae)×Int)⊕aK):=
 if (0:Int) < (l8.length:Int) then
  (idx l8 (0:Int)).bind fun gx=>
  dN aa l8 l10 jI n14 (decide ((aU (gx.at_+aa.au.bh))≤aj))
 else
  dN aa l8 l10 jI n14 false
def jT (aa:aK) (aj:Int) (l8:List ae) (l10:List ae) (jI:List ae) (n14:Int):Option aK:=
 iter (fun x:(List ae)×(List ae)×(List ae)×Int=>fY aa aj x.1 x.2.1 x.2.2.1 x.2.2.2) (l8,l10,jI,n14)
def ml (aa:aK) (aj:Int):Option aK:=
 jT aa aj aa.ba aa.bE aa.bW aa.iZ
def iU (aa:aK) (n2:Int) (n3:Int):Option aK:=
 some (⟨aa.au,aa.ba,aa.bE,aa.bW,aa.iZ,n2,n3,aa.bK,aa.cm⟩:aK)
def jc (aa:aK) (aj:Int):Option aK:=
 (ln aa).bind fun v1=>
 if v1≠aa.bF then
  iU aa v1 aj
 else
  iU aa aa.bF aa.ck
def iz (l2:List aZ):Option (List aZ):=
 some l2
def kr (aa:Int) (aj:Bool) (ar:List aZ):Option (List aZ):=
 if aj=true then
  (app ar [(⟨aa,(345686400000:Int)⟩:aZ)]).bind fun l3=>
  iz l3
 else
  (idx ar (aU ((ar.length:Int) - (1:Int)))).bind fun v5=>
  iz (ar.set (aU ((ar.length:Int) - (1:Int))).toNat (⟨v5.from_,aa⟩:aZ))
def ch (v41:aK) (Om:Bool) (n49:Int) (Vd:List aZ):Option (((List ae)×(List ae)×(List ae)×Int×Int×Int×Bool×Int×(List aZ))⊕(aK×(List aZ))):=
 some (.inl (v41.ba,v41.bE,v41.bW,v41.iZ,v41.bF,v41.ck,Om,n49,Vd))
def bN (zg:List aZ) (v33:Int) (v41:aK) (n52:Int):Option (((List ae)×(List ae)×(List ae)×Int×Int×Int×Bool×Int×(List aZ))⊕(aK×(List aZ))):=
 (kr v33 (!v41.bK) zg).bind fun v53=>
 ch v41 (!v41.bK) n52 v53
def cj (aa:aK) (aj:Int) (dL:List ae) (Mj:List ae) (qN:List ae) (n26:Int) (n27:Int) (n28:Int) (TH:Bool) (n30:Int) (zg:List aZ):Option (((List ae)×(List ae)×(List ae)×Int×Int×Int×Bool×Int×(List aZ))⊕(aK×(List aZ))):=
 (ng (⟨aa.au,dL,Mj,qN,n26,n27,n28,TH,n30⟩:aK)).bind fun v33=>
 if (min aj (345686400000:Int))≤v33 then
  Option.map .inr (some ((⟨aa.au,dL,Mj,qN,n26,n27,n28,TH,n30⟩:aK),zg))
 else
  (ml (⟨aa.au,dL,Mj,qN,n26,n27,n28,TH,n30⟩:aK) v33).bind fun vm=>
  (jc (⟨aa.au,vm.ba,vm.bE,vm.bW,vm.iZ,vm.bF,vm.ck,vm.bK,vm.cm⟩:aK) v33).bind fun v41=>
  if (dT (⟨aa.au,v41.ba,v41.bE,v41.bW,v41.iZ,v41.bF,v41.ck,v41.bK,v41.cm⟩:aK))=v33 then
   if (!v41.bK)=true then
    bN zg v33 v41 v33
   else
    bN zg v33 v41 v41.cm
  else
   ch v41 v41.bK v41.cm zg
def gA (aa:aK) (aj:Int) (dL:List ae) (Mj:List ae) (qN:List ae) (n26:Int) (n27:Int) (n28:Int) (TH:Bool) (n30:Int) (zg:List aZ):Option (aK×(List aZ)):=
 iter (fun x:(List ae)×(List ae)×(List ae)×Int×Int×Int×Bool×Int×(List aZ)=>cj aa aj x.1 x.2.1 x.2.2.1 x.2.2.2.1 x.2.2.2.2.1 x.2.2.2.2.2.1 x.2.2.2.2.2.2.1 x.2.2.2.2.2.2.2.1 x.2.2.2.2.2.2.2.2) (dL,Mj,qN,n26,n27,n28,TH,n30,zg)
def bS (aa:aK) (aj:Int) (ar:List aZ):Option (aK×(List aZ)):=
 gA aa aj aa.ba aa.bE aa.bW aa.iZ aa.bF aa.ck aa.bK aa.cm ar
def jd (aa:aK) (aj:ae) (v2:aK) (l9:List ae) (dL:List ae) (va:List ae):Option aK:=
 (app va [aj]).bind fun EG=>
 (jc (⟨aa.au,l9,dL,EG,aU (v2.iZ+aj.bU),v2.bF,v2.ck,v2.bK,v2.cm⟩:aK) aj.at_).bind fun pn=>
 some (⟨aa.au,pn.ba,pn.bE,pn.bW,pn.iZ,pn.bF,pn.ck,pn.bK,pn.cm⟩:aK)
def dA (aa:aK) (aj:ae) (v2:aK) (l9:List ae) (dL:List ae) (va:List ae) (n23:Int) (c24:Bool):Option (((List ae)×Int)⊕aK):=
 if c24=true then
  (xm va (0:Int) (aU (n23 - (1:Int)))).bind fun Oo=>
  some (.inl (Oo,aU (n23 - (1:Int))))
 else
  Option.map .inr (jd aa aj v2 l9 dL va)
def fC (aa:aK) (aj:ae) (v2:aK) (l9:List ae) (dL:List ae) (va:List ae) (n23:Int):Option (((List ae)×Int)⊕aK):=
 if (0:Int) < n23 then
  (idx va (aU (n23 - (1:Int)))).bind fun v25=>
  dA aa aj v2 l9 dL va n23 (decide (v25.bU≤aj.bU))
 else
  dA aa aj v2 l9 dL va n23 false
def kH (aa:aK) (aj:ae) (v2:aK) (l9:List ae) (dL:List ae) (va:List ae) (n23:Int):Option aK:=
 iter (fun x:(List ae)×Int=>fC aa aj v2 l9 dL x.1 x.2) (va,n23)
def je (aa:aK) (aj:ae) (v2:aK) (l9:List ae) (jJ:List ae):Option aK:=
 (app jJ [aj]).bind fun dL=>
 kH aa aj v2 l9 dL v2.bW (v2.bW.length:Int)
def dB (aa:aK) (aj:ae) (v2:aK) (l9:List ae) (jJ:List ae) (n14:Int) (II:Bool):Option (((List ae)×Int)⊕aK):=
 if II=true then
  (xm jJ (0:Int) (aU (n14 - (1:Int)))).bind fun xw=>
  some (.inl (xw,aU (n14 - (1:Int))))
 else
  Option.map .inr (je aa aj v2 l9 jJ)
def fD (aa:aK) (aj:ae) (v2:aK) (l9:List ae) (jJ:List ae) (n14:Int):Option (((List ae)×Int)⊕aK):=
 if (0:Int) < n14 then
  (idx jJ (aU (n14 - (1:Int)))).bind fun gx=>
  dB aa aj v2 l9 jJ n14 (decide (aj.bU≤gx.bU))
 else
  dB aa aj v2 l9 jJ n14 false
def kI (aa:aK) (aj:ae) (v2:aK) (l9:List ae) (jJ:List ae) (n14:Int):Option aK:=
 iter (fun x:(List ae)×Int=>fD aa aj v2 l9 x.1 x.2) (jJ,n14)
def nh (aa:aK) (aj:ae):Option aK:=
 (ml aa aj.at_).bind fun v2=>
 (app v2.ba [aj]).bind fun l9=>
 kI aa aj v2 l9 v2.bE (v2.bE.length:Int)
def sE (aa:aG) (Sn:List aZ) (fx:List ae) (Fx:List ae) (M6:List ae) (n38:Int) (n39:Int) (n40:Int) (Sp:Bool) (n42:Int):Option (List aZ):=
 (bS (⟨aa,fx,Fx,M6,n38,n39,n40,Sp,n42⟩:aK) (345686400000:Int) Sn).bind fun v62=>
 some v62.2
def mn (aa:aG) (aj:List ae) (Sn:List aZ) (fx:List ae) (Fx:List ae) (M6:List ae) (n38:Int) (n39:Int) (n40:Int) (Sp:Bool) (n42:Int) (n43:Int):Option (((List aZ)×(List ae)×(List ae)×(List ae)×Int×Int×Int×Bool×Int×Int)⊕(List aZ)):=
 if n43 < (aj.length:Int) then
  (idx aj n43).bind fun v45=>
  (bS (⟨aa,fx,Fx,M6,n38,n39,n40,Sp,n42⟩:aK) v45.at_ Sn).bind fun P2=>
  (nh (⟨aa,P2.1.ba,P2.1.bE,P2.1.bW,P2.1.iZ,P2.1.bF,P2.1.ck,P2.1.bK,P2.1.cm⟩:aK) v45).bind fun v55=>
  some (.inl (P2.2,v55.ba,v55.bE,v55.bW,v55.iZ,v55.bF,v55.ck,v55.bK,v55.cm,aU (n43+(1:Int))))
 else
  Option.map .inr (sE aa Sn fx Fx M6 n38 n39 n40 Sp n42)
def wN (aa:aG) (aj:List ae) (Sn:List aZ) (fx:List ae) (Fx:List ae) (M6:List ae) (n38:Int) (n39:Int) (n40:Int) (Sp:Bool) (n42:Int) (n43:Int):Option (List aZ):=
 iter (fun x:(List aZ)×(List ae)×(List ae)×(List ae)×Int×Int×Int×Bool×Int×Int=>mn aa aj x.1 x.2.1 x.2.2.1 x.2.2.2.1 x.2.2.2.2.1 x.2.2.2.2.2.1 x.2.2.2.2.2.2.1 x.2.2.2.2.2.2.2.1 x.2.2.2.2.2.2.2.2.1 x.2.2.2.2.2.2.2.2.2) (Sn,fx,Fx,M6,n38,n39,n40,Sp,n42,n43)
def gB (aa:aG) (aj:List ae):Option (List aZ):=
 (ov aa).bind fun v2=>
 wN aa aj [] v2.ba v2.bE v2.bW v2.iZ v2.bF v2.ck v2.bK v2.cm (0:Int)
def mu (n8:Int) (jE:List (aO×(List ae))):Option (((List (aO×(List ae)))×Int)⊕(List ah)):=
 some (.inl (jE,aU (n8+(1:Int))))
def iG (aa:aG) (n24:Int) (v26:aO) (pn:(List aZ)) (Mk:List ah) (n36:Int):Option (((List ah)×Int)⊕(((List ah)×Int)⊕(List ah))):=
 if n36 < (pn.length:Int) then
  (idx pn n36).bind fun v37=>
  (app Mk [(⟨v26,aa.Key,v37.from_,v37.EO⟩:ah)]).bind fun Wk=>
  some (.inl (Wk,aU (n36+(1:Int))))
 else
  Option.map .inr (some (.inl (Mk,aU (n24+(1:Int)))))
def yE (aa:aG) (n24:Int) (v26:aO) (pn:(List aZ)) (Mk:List ah) (n36:Int):Option (((List ah)×Int)⊕(List ah)):=
 iter (fun x:(List ah)×Int=>iG aa n24 v26 pn x.1 x.2) (Mk,n36)
def iH (aa:aG) (l6:List (aO×(List ae))) (v17:(List aO)) (od:List ah) (n24:Int):Option (((List ah)×Int)⊕(List ah)):=
 if n24 < (v17.length:Int) then
  (idx v17 n24).bind fun v26=>
  (vu l6 v26 []).bind fun cx=>
  (gB aa cx).bind fun pn=>
  yE aa n24 v26 pn od (0:Int)
 else
  Option.map .inr (some od)
def yF (aa:aG) (l6:List (aO×(List ae))) (v17:(List aO)) (od:List ah) (n24:Int):Option (List ah):=
 iter (fun x:(List ah)×Int=>iH aa l6 v17 x.1 x.2) (od,n24)
def re (aa:aG) (aj:List ao) (l6:List (aO×(List ae))):Option (List ah):=
 (nF aj aa.ax).bind fun v17=>
 yF aa l6 v17 [] (0:Int)
def kV (aa:aG) (aj:List ao) (l6:List (aO×(List ae))) (n8:Int):Option (((List (aO×(List ae)))×Int)⊕(List ah)):=
 if n8 < (aj.length:Int) then
  (idx aj n8).bind fun v9=>
  if v9.ax=aa.ax then
   (vu l6 v9.Device []).bind fun k9=>
   (app k9 [(⟨v9.At,v9.Value⟩:ae)]).bind fun CY=>
   mu n8 (rP l6 v9.Device CY)
  else
   mu n8 l6
 else
  Option.map .inr (re aa aj l6)
def yG (aa:aG) (aj:List ao) (l6:List (aO×(List ae))) (n8:Int):Option (List ah):=
 iter (fun x:(List (aO×(List ae)))×Int=>kV aa aj x.1 x.2) (l6,n8)
def jU (aa:aG) (aj:List ao):Option (List ah):=
 yG aa aj [] (0:Int)
def rU (n7:Int) (jI:List ah):Option (((List ah)×Int)⊕(List ah)):=
 some (.inl (jI,aU (n7+(1:Int))))
def kJ (aa:List ah) (aj:aE) (l6:List ah) (n7:Int):Option (((List ah)×Int)⊕(List ah)):=
 if n7 < (aa.length:Int) then
  (idx aa n7).bind fun v9=>
  if (max v9.aT aj.aT) < (min v9.To aj.To) then
   (app l6 [(⟨v9.Device,v9.aG,max v9.aT aj.aT,min v9.To aj.To⟩:ah)]).bind fun jJ=>
   rU n7 jJ
  else
   rU n7 l6
 else
  Option.map .inr (some l6)
def BW (aa:List ah) (aj:aE) (l6:List ah) (n7:Int):Option (List ah):=
 iter (fun x:(List ah)×Int=>kJ aa aj x.1 x.2) (l6,n7)
def nj (aa:List ah) (aj:aE):Option (List ah):=
 BW aa aj [] (0:Int)
def jf (ar:aG) (c4:Bool):Option (aO×Bool):=
 if c4=true then
  some (ar.Key,true)
 else
  some (([]:aO),false)
def kK (aa:List Int) (aj:aG) (ar:aG) (c1:Bool):Option (aO×Bool):=
 if c1=true then
  some (aj.Key,true)
 else
  (idx aa (1:Int)).bind fun v5=>
  if (0:Int) < v5 then
   (idx aa (0:Int)).bind fun v6=>
   jf ar (decide (v6=(0:Int)))
  else
   jf ar false
def lp (aa:List Int) (aj:aG) (ar:aG):Option (aO×Bool):=
 (idx aa (0:Int)).bind fun v2=>
 if (0:Int) < v2 then
  (idx aa (1:Int)).bind fun v3=>
  kK aa aj ar (decide (v3=(0:Int)))
 else
  kK aa aj ar false
def gV (aa:aq) (aj:aq):Int:=
 (cmp_Compare_int aa.at_ aj.at_)
def fP (aa:List aq) (mN:aq→aq→Option Int):Option (List aq):=
 DF mN aa
def gW (n8:Int) (v9:List ah) (jJ:List (aO×(List aq))) (n15:Int):Option (((List (aO×(List aq)))×Int)⊕(((List (aO×(List aq)))×Int)⊕(List (aO×(List aq))))):=
 if n15 < (v9.length:Int) then
  (idx v9 n15).bind fun gx=>
  (vu jJ gx.Device []).bind fun lL=>
  (app lL [(⟨gx.aT,n8,(1:Int)⟩:aq),(⟨gx.To,n8,(-1:Int)⟩:aq)]).bind fun vZ=>
  some (.inl (rP jJ gx.Device vZ,aU (n15+(1:Int))))
 else
  Option.map .inr (some (.inl (jJ,aU (n8+(1:Int)))))
def oM (n8:Int) (v9:List ah) (jJ:List (aO×(List aq))) (n15:Int):Option (((List (aO×(List aq)))×Int)⊕(List (aO×(List aq)))):=
 iter (fun x:(List (aO×(List aq)))×Int=>gW n8 v9 x.1 x.2) (jJ,n15)
def ku (TI:aO×(List aq)) (qN:List (aO×(List aq))):Option ((List (aO×(List aq)))⊕(List (aO×(List aq)))):=
 (BU qN TI.1 TI.2.length).bind fun v26=>
 (dm v26.length (fun r:(List aq)=>r.length) (fP v26 (fun y0 y1=>some (gV y0 y1)))).bind fun v28=>
 some (.inl (rP qN TI.1 v28))
def kA (l6:List (aO×(List aq))) (qN:List (aO×(List aq))):Option (List (aO×(List aq))):=
 (K1 l6 qN).bind fun u25=>
 some qN
def sF (l6:List (aO×(List aq))) (qN:List (aO×(List aq))):Option (List (aO×(List aq))):=
 xp l6 (fun p=>qE (fun e (x:(List (aO×(List aq))))=>ku e x) (fun x:(List (aO×(List aq)))=>kA l6 x) p qN)
def gX (aa:List (List ah)) (l6:List (aO×(List aq))) (n8:Int):Option (((List (aO×(List aq)))×Int)⊕(List (aO×(List aq)))):=
 if n8 < (aa.length:Int) then
  (idx aa n8).bind fun v9=>
  oM n8 v9 l6 (0:Int)
 else
  Option.map .inr (sF l6 l6)
def oN (aa:List (List ah)) (l6:List (aO×(List aq))) (n8:Int):Option (List (aO×(List aq))):=
 iter (fun x:(List (aO×(List aq)))×Int=>gX aa x.1 x.2) (l6,n8)
def lR (aa:List (List ah)):Option (List (aO×(List aq))):=
 oN aa [] (0:Int)
def dI (aa:ah) (aj:ah):Option Int:=
 (jj [(cmp_Compare_int aa.aT aj.aT),(Lib.compareBytes aa.Device aj.Device),(Lib.compareBytes aa.aG aj.aG)]).bind fun v3=>
 some v3
def bA (aa:List ah) (mN:ah→ah→Option Int):Option (List ah):=
 DF mN aa
def cV (od:List ah) (qN:List Int) (n25:Int) (n26:Int):Option (((List ah)×(List Int)×Int×Int)⊕((List ah)⊕(List ah))):=
 some (.inl (od,qN,n25,n26))
def cW (fy:aO×(List aq)) (dL:List ah) (n20:Int) (cx:aq) (fx:List Int) (n31:Int) (tQ:aO×Bool) (c40:Bool):Option (((List ah)×(List Int)×Int×Int)⊕((List ah)⊕(List ah))):=
 if c40=true then
  (idx fy.2 n31).bind fun CZ=>
  (idx dL n20).bind fun v44=>
  cV (dL.set n20.toNat (⟨v44.Device,v44.aG,v44.aT,CZ.at_⟩:ah)) fx n20 n31
 else
  (idx fy.2 n31).bind fun v45=>
  (app dL [(⟨fy.1,tQ.1,cx.at_,v45.at_⟩:ah)]).bind fun IH=>
  cV IH fx (dL.length:Int) n31
def gC (fy:aO×(List aq)) (dL:List ah) (n20:Int) (cx:aq) (fx:List Int) (n31:Int) (tQ:aO×Bool) (Ml:Bool):Option (((List ah)×(List Int)×Int×Int)⊕((List ah)⊕(List ah))):=
 if Ml=true then
  cV dL fx n20 n31
 else
  if (0:Int)≤n20 then
   (idx dL n20).bind fun v41=>
   if v41.To=cx.at_ then
    (idx dL n20).bind fun A8=>
    cW fy dL n20 cx fx n31 tQ (decide (A8.aG=tQ.1))
   else
    cW fy dL n20 cx fx n31 tQ false
  else
   cW fy dL n20 cx fx n31 tQ false
def kL (ar:aG) (aI:aG) (fy:aO×(List aq)) (dL:List ah) (n20:Int) (cx:aq) (fx:List Int) (n31:Int):Option (((List ah)×(List Int)×Int×Int)⊕((List ah)⊕(List ah))):=
 (lp fx ar aI).bind fun tQ=>
 gC fy dL n20 cx fx n31 tQ ((!tQ.2)||(decide (n31=(fy.2.length:Int))))
def ek (ar:aG) (aI:aG) (fy:aO×(List aq)) (dL:List ah) (n20:Int) (cx:aq) (fx:List Int) (n31:Int) (GH:Bool):Option (((List Int)×Int)⊕(((List ah)×(List Int)×Int×Int)⊕((List ah)⊕(List ah)))):=
 if GH=true then
  (idx fy.2 n31).bind fun vm=>
  (idx fx vm.au).bind fun v35=>
  (idx fy.2 n31).bind fun AP=>
  (idx fx vm.au).bind fun v37=>
  some (.inl (fx.set vm.au.toNat (aU (v35+AP.CW)),aU (n31+(1:Int))))
 else
  Option.map .inr (kL ar aI fy dL n20 cx fx n31)
def eo (ar:aG) (aI:aG) (fy:aO×(List aq)) (dL:List ah) (n20:Int) (cx:aq) (fx:List Int) (n31:Int):Option (((List Int)×Int)⊕(((List ah)×(List Int)×Int×Int)⊕((List ah)⊕(List ah)))):=
 if n31 < (fy.2.length:Int) then
  (idx fy.2 n31).bind fun v33=>
  ek ar aI fy dL n20 cx fx n31 (decide (v33.at_=cx.at_))
 else
  ek ar aI fy dL n20 cx fx n31 false
def pO (ar:aG) (aI:aG) (fy:aO×(List aq)) (dL:List ah) (n20:Int) (cx:aq) (fx:List Int) (n31:Int):Option (((List ah)×(List Int)×Int×Int)⊕((List ah)⊕(List ah))):=
 iter (fun x:(List Int)×Int=>eo ar aI fy dL n20 cx x.1 x.2) (fx,n31)
def ep (ar:aG) (aI:aG) (fy:aO×(List aq)) (dL:List ah) (lU:List Int) (n20:Int) (n21:Int):Option (((List ah)×(List Int)×Int×Int)⊕((List ah)⊕(List ah))):=
 if n21 < (fy.2.length:Int) then
  (idx fy.2 n21).bind fun cx=>
  pO ar aI fy dL n20 cx lU n21
 else
  Option.map .inr (some (.inl dL))
def pP (ar:aG) (aI:aG) (fy:aO×(List aq)) (dL:List ah) (lU:List Int) (n20:Int) (n21:Int):Option ((List ah)⊕(List ah)):=
 iter (fun x:(List ah)×(List Int)×Int×Int=>ep ar aI fy x.1 x.2.1 x.2.2.1 x.2.2.2) (dL,lU,n20,n21)
def er (aa:List (List ah)) (ar:aG) (aI:aG) (fy:aO×(List aq)) (l7:List ah):Option ((List ah)⊕(List ah)):=
 (Tl (0:Int) (aa.length:Int) (aa.length:Int)).bind fun l10=>
 pP ar aI fy l7 l10 (-1:Int) (0:Int)
def et (l7:List ah):Option (List ah):=
 (dm l7.length (fun r:(List ah)=>r.length) (bA l7 (fun y0 y1=>dI y0 y1))).bind fun v9=>
 some v9
def pQ (aa:List (List ah)) (ar:aG) (aI:aG) (v1:(List (aO×(List aq)))) (l7:List ah):Option (List ah):=
 xp v1 (fun p=>qE (fun e (x:(List ah))=>er aa ar aI e x) (fun x:(List ah)=>et x) p l7)
def fE (aa:List (List ah)) (ar:aG) (aI:aG):Option (List ah):=
 (lR aa).bind fun v1=>
 pQ aa ar aI v1 []
def rV (aa:aG) (aj:aG) (ar:List ao) (aI:aE):Option ((List ah)×Int):=
 (fT [aa]).bind fun v4=>
 (fT [aj]).bind fun v5=>
 (o4 ([]:List aG) ar aI).bind fun v6=>
 (nf [v4,v5,v6]).bind fun v7=>
 if v7≠(0:Int) then
  some ([],v7)
 else
  (jU aa ar).bind fun v9=>
  (nj v9 aI).bind fun v11=>
  (jU aj ar).bind fun k9=>
  (nj k9 aI).bind fun mM=>
  (fE [v11,mM] aa aj).bind fun v17=>
  some (v17,(0:Int))
def oO (aa:List Int) (n2:Int):Option (Int⊕Int):=
 if n2 < (aa.length:Int) then
  (idx aa n2).bind fun v3=>
  if v3≠(0:Int) then
   Option.map .inr (some v3)
  else
   some (.inl (aU (n2+(1:Int))))
 else
  Option.map .inr (some (0:Int))
def Cq (aa:List Int) (n2:Int):Option Int:=
 iter (fun x:Int=>oO aa x) n2
def iI (aa:List Int):Option Int:=
 Cq aa (0:Int)
def fk (aa:List aO):Option (List aO):=
 app [] aa
def DU (aa:List aO):Option (List aO):=
 (fk aa).bind fun v1=>
 (dm v1.length (fun r:(List aO)=>r.length) (cy v1)).bind fun v3=>
 (dS v3).bind fun v4=>
 some v4
def lr (n6:Int) (jI:List aO):Option (((List aO)×Int)⊕(List aO)):=
 some (.inl (jI,aU (n6+(1:Int))))
def nk (l5:List aO) (n6:Int) (v8:ao) (CX:Bool):Option (((List aO)×Int)⊕(List aO)):=
 if CX=true then
  (app l5 [v8.Device]).bind fun jJ=>
  lr n6 jJ
 else
  lr n6 l5
def iV (l5:List aO):Option (List aO):=
 (DU l5).bind fun mM=>
 some mM
def cX (aa:List ao) (aj:aO) (l5:List aO) (n6:Int):Option (((List aO)×Int)⊕(List aO)):=
 if n6 < (aa.length:Int) then
  (idx aa n6).bind fun v8=>
  nk l5 n6 v8 ((decide (aj=([]:aO)))||(decide (v8.ax=aj)))
 else
  Option.map .inr (iV l5)
def tT (aa:List ao) (aj:aO) (l5:List aO) (n6:Int):Option (List aO):=
 iter (fun x:(List aO)×Int=>cX aa aj x.1 x.2) (l5,n6)
def iW (aa:List ao) (aj:aO):Option (List aO):=
 tT aa aj [] (0:Int)
def gP (aa:List Int):Option (List Int):=
 BN zd aa
def ig (n11:Int) (tL:List Int) (n15:Int):Option (((List Int)×Int×Int)⊕(Int⊕(List Int))):=
 some (.inl (tL,n15,aU (n11+(1:Int))))
def nQ (l9:List Int) (n10:Int):Option (Int⊕(List Int)):=
 (xm l9 n10 (l9.length:Int)).bind fun dL=>
 (xm (Fm l9 n10 dL.length (0:Int)) (0:Int) n10).bind fun lU=>
 Option.map .inr (some lU)
def ij (n2:Int) (l5:List Int) (l9:List Int) (n10:Int) (n11:Int):Option (((List Int)×Int×Int)⊕(Int⊕(List Int))):=
 if n11 < (l5.length:Int) then
  (vU l9 n2 l5.length n11).bind fun v12=>
  (vU l9 n2 l5.length (aU (n11 - (1:Int)))).bind fun k9=>
  if v12≠k9 then
   (vU l9 n2 l5.length n11).bind fun gx=>
   (idx l9 n10).bind fun v17=>
   ig n11 (l9.set n10.toNat gx) (aU (n10+(1:Int)))
  else
   ig n11 l9 n10
 else
  Option.map .inr (nQ l9 n10)
def uD (n2:Int) (l5:List Int) (l9:List Int) (n10:Int) (n11:Int):Option (Int⊕(List Int)):=
 iter (fun x:(List Int)×Int×Int=>ij n2 l5 x.1 x.2.1 x.2.2) (l9,n10,n11)
def ik (aa:List Int) (n2:Int):Option (Int⊕(List Int)):=
 if n2 < (aa.length:Int) then
  (idx aa n2).bind fun v3=>
  (idx aa (aU (n2 - (1:Int)))).bind fun v4=>
  if v3=v4 then
   (xm aa n2 (aa.length:Int)).bind fun l5=>
   uD n2 l5 aa n2 (1:Int)
  else
   some (.inl (aU (n2+(1:Int))))
 else
  Option.map .inr (some aa)
def uE (aa:List Int) (n2:Int):Option (List Int):=
 iter (fun x:Int=>ik aa x) n2
def gD (aa:List Int):Option (List Int):=
 if (aa.length:Int) < (2:Int) then
  some aa
 else
  uE aa (1:Int)
def ow (n7:Int) (jJ:List Int):Option (((List Int)×Int)⊕(List Int)):=
 some (.inl (jJ,aU (n7+(1:Int))))
def rf (l6:List Int) (n7:Int) (v9:ao) (HA:Bool):Option (((List Int)×Int)⊕(List Int)):=
 if HA=true then
  (app l6 [v9.Value]).bind fun tL=>
  ow n7 tL
 else
  ow n7 l6
def iJ (aa:aG) (aj:List ao) (ar:aO) (aI:Int) (l6:List Int) (n7:Int):Option (((List Int)×Int)⊕(List Int)):=
 if n7 < (aj.length:Int) then
  (idx aj n7).bind fun v9=>
  rf l6 n7 v9 ((decide (v9.Device=ar))&&((decide (v9.ax=aa.ax))&&((decide ((aU (aI - aa.bh)) < v9.At))&&(decide (v9.At≤aI)))))
 else
  Option.map .inr (some l6)
def yH (aa:aG) (aj:List ao) (ar:aO) (aI:Int) (l6:List Int) (n7:Int):Option (List Int):=
 iter (fun x:(List Int)×Int=>iJ aa aj ar aI x.1 x.2) (l6,n7)
def tU (aa:aG) (aj:List ao) (ar:aO) (aI:Int):Option (List Int):=
 yH aa aj ar aI [] (0:Int)
def fM (aa:List Int) (n4:Int) (n5:Int):Option ((Int×Int)⊕Int):=
 if n5 < (aa.length:Int) then
  (idx aa n5).bind fun v6=>
  some (.inl (min n4 v6,aU (n5+(1:Int))))
 else
  Option.map .inr (some n4)
def ke (aa:List Int) (n4:Int) (n5:Int):Option Int:=
 iter (fun x:Int×Int=>fM aa x.1 x.2) (n4,n5)
def jV (aa:List Int):Option Int:=
 if (aa.length:Int) < (1:Int) then
  none
 else
  (idx aa (0:Int)).bind fun v1=>
  ke aa v1 (1:Int)
def fN (aa:List Int) (n4:Int) (n5:Int):Option ((Int×Int)⊕Int):=
 if n5 < (aa.length:Int) then
  (idx aa n5).bind fun v6=>
  some (.inl (max n4 v6,aU (n5+(1:Int))))
 else
  Option.map .inr (some n4)
def kf (aa:List Int) (n4:Int) (n5:Int):Option Int:=
 iter (fun x:Int×Int=>fN aa x.1 x.2) (n4,n5)
def jW (aa:List Int):Option Int:=
 if (aa.length:Int) < (1:Int) then
  none
 else
  (idx aa (0:Int)).bind fun v1=>
  kf aa v1 (1:Int)
def rW (aa:Int) (aj:Int) (n4:Int):Option Fraction:=
 (quo aa n4).bind fun n7=>
 (quo aj n4).bind fun n8=>
 some (⟨n7,n8⟩:Fraction)
def rZ (aa:Int) (aj:Int) (n4:Int) (n5:Int):Option ((Int×Int)⊕Fraction):=
 if (0:Int) < n5 then
  (rem n4 n5).bind fun n6=>
  some (.inl (n5,n6))
 else
  Option.map .inr (rW aa aj n4)
def BX (aa:Int) (aj:Int) (n4:Int) (n5:Int):Option Fraction:=
 iter (fun x:Int×Int=>rZ aa aj x.1 x.2) (n4,n5)
def pR (aa:Int) (aj:Int):Option Fraction:=
 BX aa aj (max aa (aU (-aa))) aj
def sZ (v3:(List Int)) (n9:Int):Option (Fraction×Bool):=
 (pR n9 (v3.length:Int)).bind fun v12=>
 some (v12,true)
def nG (v3:(List Int)) (n9:Int) (n10:Int):Option ((Int×Int)⊕(Fraction×Bool)):=
 if n10 < (v3.length:Int) then
  (idx v3 n10).bind fun v11=>
  some (.inl (aU (n9+v11),aU (n10+(1:Int))))
 else
  Option.map .inr (sZ v3 n9)
def ta (v3:(List Int)) (n9:Int) (n10:Int):Option (Fraction×Bool):=
 iter (fun x:Int×Int=>nG v3 x.1 x.2) (n9,n10)
def vy (aa:aG) (aj:List ao) (ar:aO) (aI:Int):Option (Fraction×Bool):=
 (tU aa aj ar aI).bind fun v3=>
 if aa.eI=(5:Int) then
  some ((⟨(v3.length:Int),(1:Int)⟩:Fraction),true)
 else
  if (v3.length:Int)=(0:Int) then
   some ((⟨(0:Int),(0:Int)⟩:Fraction),false)
  else
   if aa.eI=(2:Int) then
    (jV v3).bind fun v5=>
    some ((⟨v5,(1:Int)⟩:Fraction),true)
   else
    if aa.eI=(3:Int) then
     (jW v3).bind fun v6=>
     some ((⟨v6,(1:Int)⟩:Fraction),true)
    else
     if aa.eI=(4:Int) then
      ta v3 (0:Int) (0:Int)
     else
      if aa.eI=(6:Int) then
       (idx v3 (aU ((v3.length:Int) - (1:Int)))).bind fun k9=>
       (idx v3 (0:Int)).bind fun nz=>
       some ((⟨aU (k9 - nz),(1:Int)⟩:Fraction),true)
      else
       (idx v3 (aU ((v3.length:Int) - (1:Int)))).bind fun mM=>
       some ((⟨mM,(1:Int)⟩:Fraction),true)
def pS (n5:Int) (n6:Int):Option Int:=
 if (0:Int)≤n5 then
  some (1:Int)
 else
  if n6 < (0:Int) then
   some (2:Int)
  else
   some (0:Int)
def vz (aa:aG) (aj:List ao) (ar:aO) (aI:Int):Option Int:=
 (vy aa aj ar aI).bind fun v2=>
 if (!v2.2)=true then
  (idx [(0:Int),(2:Int),(1:Int)] aa.Empty).bind fun v4=>
  some v4
 else
  if (!aa.bj)=true then
   pS (aU (-(cmp_Compare_int v2.1.Mi (aU (aa.On * v2.1.Den))))) (aU (-(cmp_Compare_int v2.1.Mi (aU (aa.eJ * v2.1.Den)))))
  else
   pS (cmp_Compare_int v2.1.Mi (aU (aa.On * v2.1.Den))) (cmp_Compare_int v2.1.Mi (aU (aa.eJ * v2.1.Den)))
def sa (n8:Int) (jJ:List Int):Option (((List Int)×Int)⊕(List aX)):=
 some (.inl (jJ,aU (n8+(1:Int))))
def uK (aa:aG) (l7:List Int) (n8:Int) (v9:ao) (HA:Bool):Option (((List Int)×Int)⊕(List aX)):=
 if HA=true then
  (app l7 [v9.At,min (aU (v9.At+aa.bh)) (345686400000:Int)]).bind fun tL=>
  sa n8 tL
 else
  sa n8 l7
def pd (n24:Int) (GF:List aX):Option (((List aX)×Int)⊕(List aX)):=
 some (.inl (GF,aU (n24+(1:Int))))
def lC (od:List aX) (n24:Int) (v26:Int) (cx:Int) (pn:Int) (c31:Bool):Option (((List aX)×Int)⊕(List aX)):=
 if c31=true then
  (idx od (aU ((od.length:Int) - (1:Int)))).bind fun v35=>
  pd n24 (od.set (aU ((od.length:Int) - (1:Int))).toNat (⟨v35.from_,cx,v35.bF⟩:aX))
 else
  (app od [(⟨v26,cx,pn⟩:aX)]).bind fun M6=>
  pd n24 M6
def nn (aa:aG) (aj:List ao) (ar:aO) (v17:(List Int)) (od:List aX) (n24:Int):Option (((List aX)×Int)⊕(List aX)):=
 if n24 < (aU ((v17.length:Int) - (1:Int))) then
  (idx v17 n24).bind fun v26=>
  (idx v17 (aU (n24+(1:Int)))).bind fun cx=>
  (idx v17 n24).bind fun v28=>
  (vz aa aj ar v28).bind fun pn=>
  if (0:Int) < (od.length:Int) then
   (idx od (aU ((od.length:Int) - (1:Int)))).bind fun v32=>
   lC od n24 v26 cx pn (decide (v32.bF=pn))
  else
   lC od n24 v26 cx pn false
 else
  Option.map .inr (some od)
def uL (aa:aG) (aj:List ao) (ar:aO) (v17:(List Int)) (od:List aX) (n24:Int):Option (List aX):=
 iter (fun x:(List aX)×Int=>nn aa aj ar v17 x.1 x.2) (od,n24)
def sb (aa:aG) (aj:List ao) (ar:aO) (l7:List Int):Option (List aX):=
 (dm l7.length (fun r:(List Int)=>r.length) (gP l7)).bind fun gx=>
 (gD gx).bind fun v17=>
 uL aa aj ar v17 [] (0:Int)
def jz (aa:aG) (aj:List ao) (ar:aO) (l7:List Int) (n8:Int):Option (((List Int)×Int)⊕(List aX)):=
 if n8 < (aj.length:Int) then
  (idx aj n8).bind fun v9=>
  uK aa l7 n8 v9 ((decide (v9.Device=ar))&&(decide (v9.ax=aa.ax)))
 else
  Option.map .inr (sb aa aj ar l7)
def BY (aa:aG) (aj:List ao) (ar:aO) (l7:List Int) (n8:Int):Option (List aX):=
 iter (fun x:(List Int)×Int=>jz aa aj ar x.1 x.2) (l7,n8)
def xz (aa:aG) (aj:List ao) (ar:aO):Option (List aX):=
 BY aa aj ar [(0:Int),(345686400000:Int)] (0:Int)
def oP (aa:Int) (ar:Int) (n2:Int) (v3:aX) (c5:Bool):Option (Int⊕(Int×Bool)):=
 if c5=true then
  Option.map .inr (some (aU ((max v3.from_ aa)+ar),true))
 else
  some (.inl (aU (n2+(1:Int))))
def jk (aa:Int) (aj:Int) (ar:Int) (aI:List aX) (n2:Int):Option (Int⊕(Int×Bool)):=
 if n2 < (aI.length:Int) then
  (idx aI n2).bind fun v3=>
  oP aa ar n2 v3 ((decide (v3.bF=aj))&&(decide ((aU ((max v3.from_ aa)+ar)) < v3.EO)))
 else
  Option.map .inr (some ((0:Int),false))
def wO (aa:Int) (aj:Int) (ar:Int) (aI:List aX) (n2:Int):Option (Int×Bool):=
 iter (fun x:Int=>jk aa aj ar aI x) n2
def nH (aa:Int) (aj:Int) (ar:Int) (aI:List aX):Option (Int×Bool):=
 wO aa aj ar aI (0:Int)
def nI (aa:aG) (v2:(List aX)) (l9:List aE) (n10:Int):Option (((List aE)×Int)⊕(List aE)):=
 (nH n10 (1:Int) aa.bR v2).bind fun v12=>
 if (!v12.2)=true then
  Option.map .inr (some l9)
 else
  (nH v12.1 (2:Int) aa.Rest v2).bind fun k9=>
  if (!k9.2)=true then
   (app l9 [(⟨v12.1,(345686400000:Int)⟩:aE)]).bind fun tL=>
   Option.map .inr (some tL)
  else
   (app l9 [(⟨v12.1,k9.1⟩:aE)]).bind fun gm=>
   some (.inl (gm,k9.1))
def pT (aa:aG) (v2:(List aX)) (l9:List aE) (n10:Int):Option (List aE):=
 iter (fun x:(List aE)×Int=>nI aa v2 x.1 x.2) (l9,n10)
def pe (aa:aG) (aj:List ao) (ar:aO):Option (List aE):=
 (xz aa aj ar).bind fun v2=>
 pT aa v2 [] (0:Int)
def ox (aa:aE) (aj:aE):aE×Bool:=
 ((⟨max aa.aT aj.aT,min aa.To aj.To⟩:aE),decide ((max aa.aT aj.aT) < (min aa.To aj.To)))
def js (aa:ah) (aj:ah):Option Int:=
 (jj [(cmp_Compare_int aa.aT aj.aT),(Lib.compareBytes aa.Device aj.Device),(Lib.compareBytes aa.aG aj.aG)]).bind fun v3=>
 some v3
def oy (n27:Int) (zg:List ah):Option (((List ah)×Int)⊕(((List ah)×Int)⊕(((List ah)×Int)⊕(List ah)))):=
 some (.inl (zg,aU (n27+(1:Int))))
def iK (ar:aE) (v9:aG) (n18:Int) (C0:aO) (v20:(List aE)) (Oo:List ah) (n27:Int):Option (((List ah)×Int)⊕(((List ah)×Int)⊕(((List ah)×Int)⊕(List ah)))):=
 if n27 < (v20.length:Int) then
  (idx v20 n27).bind fun v28=>
  if ((ox v28 ar).2)=true then
   (app Oo [(⟨C0,v9.Key,((ox v28 ar).1).aT,((ox v28 ar).1).To⟩:ah)]).bind fun Fx=>
   oy n27 Fx
  else
   oy n27 Oo
 else
  Option.map .inr (some (.inl (Oo,aU (n18+(1:Int)))))
def yI (ar:aE) (v9:aG) (n18:Int) (C0:aO) (v20:(List aE)) (Oo:List ah) (n27:Int):Option (((List ah)×Int)⊕(((List ah)×Int)⊕(List ah))):=
 iter (fun x:(List ah)×Int=>iK ar v9 n18 C0 v20 x.1 x.2) (Oo,n27)
def iL (aj:List ao) (ar:aE) (n7:Int) (v9:aG) (v11:(List aO)) (xw:List ah) (n18:Int):Option (((List ah)×Int)⊕(((List ah)×Int)⊕(List ah))):=
 if n18 < (v11.length:Int) then
  (idx v11 n18).bind fun C0=>
  (pe v9 aj C0).bind fun v20=>
  yI ar v9 n18 C0 v20 xw (0:Int)
 else
  Option.map .inr (some (.inl (xw,aU (n7+(1:Int)))))
def vc (aj:List ao) (ar:aE) (n7:Int) (v9:aG) (v11:(List aO)) (xw:List ah) (n18:Int):Option (((List ah)×Int)⊕(List ah)):=
 iter (fun x:(List ah)×Int=>iL aj ar n7 v9 v11 x.1 x.2) (xw,n18)
def ri (l6:List ah):Option (List ah):=
 (dm l6.length (fun r:(List ah)=>r.length) (bA l6 (fun y0 y1=>js y0 y1))).bind fun v35=>
 some v35
def iM (aa:List aG) (aj:List ao) (ar:aE) (l6:List ah) (n7:Int):Option (((List ah)×Int)⊕(List ah)):=
 if n7 < (aa.length:Int) then
  (idx aa n7).bind fun v9=>
  (iW aj v9.ax).bind fun v11=>
  vc aj ar n7 v9 v11 l6 (0:Int)
 else
  Option.map .inr (ri l6)
def yJ (aa:List aG) (aj:List ao) (ar:aE) (l6:List ah) (n7:Int):Option (List ah):=
 iter (fun x:(List ah)×Int=>iM aa aj ar x.1 x.2) (l6,n7)
def np (aa:List aG) (aj:List ao) (ar:aE):Option (List ah):=
 yJ aa aj ar [] (0:Int)
def sc (n4:Int) (n8:Int):Option ((Int×Int)⊕Int):=
 some (.inl (n8,aU (n4+(1:Int))))
def uM (n3:Int) (n4:Int) (c7:Bool):Option ((Int×Int)⊕Int):=
 if c7=true then
  sc n4 (aU (n3+(1:Int)))
 else
  sc n4 n3
def kM (aa:List ah) (aj:aO) (ar:Int) (n3:Int) (n4:Int):Option ((Int×Int)⊕Int):=
 if n4 < (aa.length:Int) then
  (idx aa n4).bind fun v5=>
  uM n3 n4 ((decide (v5.Device=aj))&&((decide (v5.aT≤ar))&&(decide (ar < v5.To))))
 else
  Option.map .inr (some n3)
def BZ (aa:List ah) (aj:aO) (ar:Int) (n3:Int) (n4:Int):Option Int:=
 iter (fun x:Int×Int=>kM aa aj ar x.1 x.2) (n3,n4)
def tV (aa:List ah) (aj:aO) (ar:Int):Option Int:=
 BZ aa aj ar (0:Int) (0:Int)
def jG (aa:aO) (aj:Int) (ar:List ah) (aI:List ah) (gZ:aG) (hJ:aG):Option (aO×Bool):=
 (tV ar aa aj).bind fun v1=>
 (tV aI aa aj).bind fun v2=>
 if v2 < v1 then
  some (gZ.Key,true)
 else
  some (hJ.Key,decide (v1 < v2))
def sd (n15:Int) (lU:List Int):Option (((List Int)×Int)⊕(((List Int)×Int)⊕(List Int))):=
 some (.inl (lU,aU (n15+(1:Int))))
def kN (aa:aO) (n8:Int) (v9:List ah) (tL:List Int) (n15:Int):Option (((List Int)×Int)⊕(((List Int)×Int)⊕(List Int))):=
 if n15 < (v9.length:Int) then
  (idx v9 n15).bind fun gx=>
  if gx.Device=aa then
   (app tL [gx.aT,gx.To]).bind fun vZ=>
   sd n15 vZ
  else
   sd n15 tL
 else
  Option.map .inr (some (.inl (tL,aU (n8+(1:Int)))))
def xA (aa:aO) (n8:Int) (v9:List ah) (tL:List Int) (n15:Int):Option (((List Int)×Int)⊕(List Int)):=
 iter (fun x:(List Int)×Int=>kN aa n8 v9 x.1 x.2) (tL,n15)
def se (l7:List Int):Option (List Int):=
 (dm l7.length (fun r:(List Int)=>r.length) (gP l7)).bind fun v22=>
 (gD v22).bind fun v23=>
 some v23
def kO (aa:aO) (ar:List (List ah)) (l7:List Int) (n8:Int):Option (((List Int)×Int)⊕(List Int)):=
 if n8 < (ar.length:Int) then
  (idx ar n8).bind fun v9=>
  xA aa n8 v9 l7 (0:Int)
 else
  Option.map .inr (se l7)
def B0 (aa:aO) (ar:List (List ah)) (l7:List Int) (n8:Int):Option (List Int):=
 iter (fun x:(List Int)×Int=>kO aa ar x.1 x.2) (l7,n8)
def sf (aa:aO) (aj:aE) (ar:List (List ah)):Option (List Int):=
 B0 aa ar [aj.aT,aj.To] (0:Int)
def jt (aa:ah) (aj:ah):Option Int:=
 (jj [(cmp_Compare_int aa.aT aj.aT),(Lib.compareBytes aa.Device aj.Device)]).bind fun v3=>
 some v3
def dh (n4:Int) (l7:List ah) (n8:Int) (c9:Bool):Option (((List ah)×Int)⊕(((List ah)×Int)⊕(List ah))):=
 if c9=true then
  (idx l7 (aU (n8 - (1:Int)))).bind fun k9=>
  (idx l7 n8).bind fun nz=>
  (idx l7 n8).bind fun mM=>
  (idx (l7.set n8.toNat k9) (aU (n8 - (1:Int)))).bind fun gx=>
  some (.inl ((l7.set n8.toNat k9).set (aU (n8 - (1:Int))).toNat nz,aU (n8 - (1:Int))))
 else
  Option.map .inr (some (.inl (l7,aU (n4+(1:Int)))))
def di (aj:Int) (nO:ah→ah→Option Int) (n4:Int) (l7:List ah) (n8:Int):Option (((List ah)×Int)⊕(((List ah)×Int)⊕(List ah))):=
 if aj < n8 then
  (idx l7 n8).bind fun v10=>
  (idx l7 (aU (n8 - (1:Int)))).bind fun v11=>
  (nO v10 v11).bind fun v12=>
  dh n4 l7 n8 (decide (v12 < (0:Int)))
 else
  dh n4 l7 n8 false
def nY (aj:Int) (nO:ah→ah→Option Int) (n4:Int) (l7:List ah) (n8:Int):Option (((List ah)×Int)⊕(List ah)):=
 iter (fun x:(List ah)×Int=>di aj nO n4 x.1 x.2) (l7,n8)
def dj (aj:Int) (ar:Int) (nO:ah→ah→Option Int) (l3:List ah) (n4:Int):Option (((List ah)×Int)⊕(List ah)):=
 if n4 < ar then
  nY aj nO n4 l3 n4
 else
  Option.map .inr (some l3)
def nZ (aj:Int) (ar:Int) (nO:ah→ah→Option Int) (l3:List ah) (n4:Int):Option (List ah):=
 iter (fun x:(List ah)×Int=>dj aj ar nO x.1 x.2) (l3,n4)
def dV (aa:List ah) (aj:Int) (ar:Int) (nO:ah→ah→Option Int):Option (List ah):=
 nZ aj ar nO aa (aU (aj+(1:Int)))
def eu (aj:Int) (ar:Int) (aI:Int) (l3:List ah) (n4:Int):Option (((List ah)×Int)⊕(List ah)):=
 if n4 < aI then
  (idx l3 (aU (ar+n4))).bind fun v5=>
  (idx l3 (aU (aj+n4))).bind fun v6=>
  (idx l3 (aU (aj+n4))).bind fun v7=>
  (idx (l3.set (aU (aj+n4)).toNat v5) (aU (ar+n4))).bind fun v8=>
  some (.inl ((l3.set (aU (aj+n4)).toNat v5).set (aU (ar+n4)).toNat v6,aU (n4+(1:Int))))
 else
  Option.map .inr (some l3)
def pU (aj:Int) (ar:Int) (aI:Int) (l3:List ah) (n4:Int):Option (List ah):=
 iter (fun x:(List ah)×Int=>eu aj ar aI x.1 x.2) (l3,n4)
def dJ (aa:List ah) (aj:Int) (ar:Int) (aI:Int) (iA:ah→ah→Option Int):Option (List ah):=
 pU aj ar aI aa (0:Int)
def fF (l7:List ah) (n8:Int) (n9:Int):Option (((List ah)×Int×Int)⊕(List ah)):=
 some (.inl (l7,n8,n9))
def lD (ar:Int) (iA:ah→ah→Option Int) (l4:List ah) (n5:Int):Option (List ah):=
 (dm l4.length (fun r:(List ah)=>r.length) (dJ l4 (aU (ar - n5)) ar n5 iA)).bind fun v12=>
 some v12
def fG (ar:Int) (iA:ah→ah→Option Int) (l4:List ah) (n5:Int) (n6:Int):Option (((List ah)×Int×Int)⊕(List ah)):=
 if n5≠n6 then
  if n6 < n5 then
   (dm l4.length (fun r:(List ah)=>r.length) (dJ l4 (aU (ar - n5)) ar n6 iA)).bind fun v10=>
   fF v10 (aU (n5 - n6)) n6
  else
   (dm l4.length (fun r:(List ah)=>r.length) (dJ l4 (aU (ar - n5)) (aU ((aU (ar+n6)) - n5)) n5 iA)).bind fun v11=>
   fF v11 n5 (aU (n6 - n5))
 else
  Option.map .inr (lD ar iA l4 n5)
def sg (ar:Int) (iA:ah→ah→Option Int) (l4:List ah) (n5:Int) (n6:Int):Option (List ah):=
 iter (fun x:(List ah)×Int×Int=>fG ar iA x.1 x.2.1 x.2.2) (l4,n5,n6)
def jX (aa:List ah) (aj:Int) (ar:Int) (aI:Int) (iA:ah→ah→Option Int):Option (List ah):=
 sg ar iA aa (aU (ar - aj)) (aU (aI - ar))
def eQ (n8:Int) (n9:Int):Option ((Int×Int)⊕(List ah)):=
 some (.inl (n8,n9))
def eR (n3:Int) (jI:List ah) (n13:Int):Option (((List ah)×Int)⊕(List ah)):=
 if n13 < (aU (n3 - (1:Int))) then
  (idx jI (aU (n13+(1:Int)))).bind fun nz=>
  (idx jI n13).bind fun mM=>
  (idx jI n13).bind fun gx=>
  (idx (jI.set n13.toNat nz) (aU (n13+(1:Int)))).bind fun v17=>
  some (.inl ((jI.set n13.toNat nz).set (aU (n13+(1:Int))).toNat mM,aU (n13+(1:Int))))
 else
  Option.map .inr (some jI)
def qx (n3:Int) (jI:List ah) (n13:Int):Option (List ah):=
 iter (fun x:(List ah)×Int=>eR n3 x.1 x.2) (jI,n13)
def eU (aa:List ah) (aj:Int) (iA:ah→ah→Option Int) (n3:Int) (n4:Int):Option ((Int×Int)⊕(List ah)):=
 if n3 < n4 then
  (idx aa (aU (fS .u64 (IntKind.u64.wrap (aU (n3+n4))) (1:Int)))).bind fun v5=>
  (idx aa aj).bind fun v6=>
  (iA v5 v6).bind fun v7=>
  if v7 < (0:Int) then
   eQ (aU ((aU (fS .u64 (IntKind.u64.wrap (aU (n3+n4))) (1:Int)))+(1:Int))) n4
  else
   eQ n3 (aU (fS .u64 (IntKind.u64.wrap (aU (n3+n4))) (1:Int)))
 else
  Option.map .inr (qx n3 aa aj)
def qy (aa:List ah) (aj:Int) (iA:ah→ah→Option Int) (n3:Int) (n4:Int):Option (List ah):=
 iter (fun x:Int×Int=>eU aa aj iA x.1 x.2) (n3,n4)
def eV (n25:Int) (n26:Int):Option ((Int×Int)⊕(List ah)):=
 some (.inl (n25,n26))
def eW (n20:Int) (vb:List ah) (n30:Int):Option (((List ah)×Int)⊕(List ah)):=
 if n20 < n30 then
  (idx vb (aU (n30 - (1:Int)))).bind fun v31=>
  (idx vb n30).bind fun v32=>
  (idx vb n30).bind fun v33=>
  (idx (vb.set n30.toNat v31) (aU (n30 - (1:Int)))).bind fun vm=>
  some (.inl ((vb.set n30.toNat v31).set (aU (n30 - (1:Int))).toNat v32,aU (n30 - (1:Int))))
 else
  Option.map .inr (some vb)
def qz (n20:Int) (vb:List ah) (n30:Int):Option (List ah):=
 iter (fun x:(List ah)×Int=>eW n20 x.1 x.2) (vb,n30)
def eZ (aa:List ah) (ar:Int) (iA:ah→ah→Option Int) (n20:Int) (n21:Int):Option ((Int×Int)⊕(List ah)):=
 if n20 < n21 then
  (idx aa ar).bind fun v22=>
  (idx aa (aU (fS .u64 (IntKind.u64.wrap (aU (n20+n21))) (1:Int)))).bind fun v23=>
  (iA v22 v23).bind fun v24=>
  if ¬ (v24 < (0:Int)) then
   eV (aU ((aU (fS .u64 (IntKind.u64.wrap (aU (n20+n21))) (1:Int)))+(1:Int))) n21
  else
   eV n20 (aU (fS .u64 (IntKind.u64.wrap (aU (n20+n21))) (1:Int)))
 else
  Option.map .inr (qz n20 aa ar)
def qA (aa:List ah) (ar:Int) (iA:ah→ah→Option Int) (n20:Int) (n21:Int):Option (List ah):=
 iter (fun x:Int×Int=>eZ aa ar iA x.1 x.2) (n20,n21)
def fa (n44:Int) (n45:Int):Option ((Int×Int)⊕(List ah)):=
 some (.inl (n44,n45))
def ew (M5:List ah):Option (List ah):=
 some M5
def ia (self:(List ah)→Int→Int→Int→(ah→ah→Option Int)→Option (List ah)) (aj:Int) (ar:Int) (aI:Int) (iA:ah→ah→Option Int) (n39:Int) (BV:List ah) (TJ:Bool):Option (List ah):=
 if TJ=true then
  (dm BV.length (fun r:(List ah)=>r.length) (self BV (aU (fS .u64 (IntKind.u64.wrap (aU (aj+aI))) (1:Int))) (aU ((aU ((aU (fS .u64 (IntKind.u64.wrap (aU (aj+aI))) (1:Int)))+ar)) - n39)) aI iA)).bind fun v54=>
  ew v54
 else
  ew BV
def fb (self:(List ah)→Int→Int→Int→(ah→ah→Option Int)→Option (List ah)) (aj:Int) (ar:Int) (aI:Int) (iA:ah→ah→Option Int) (n39:Int) (BV:List ah):Option (List ah):=
 ia self aj ar aI iA n39 BV ((decide ((aU (fS .u64 (IntKind.u64.wrap (aU (aj+aI))) (1:Int))) < (aU ((aU ((aU (fS .u64 (IntKind.u64.wrap (aU (aj+aI))) (1:Int)))+ar)) - n39))))&&(decide ((aU ((aU ((aU (fS .u64 (IntKind.u64.wrap (aU (aj+aI))) (1:Int)))+ar)) - n39)) < aI)))
def ib (self:(List ah)→Int→Int→Int→(ah→ah→Option Int)→Option (List ah)) (aj:Int) (ar:Int) (aI:Int) (iA:ah→ah→Option Int) (n39:Int) (Fy:List ah) (c49:Bool):Option (List ah):=
 if c49=true then
  (dm Fy.length (fun r:(List ah)=>r.length) (self Fy aj n39 (aU (fS .u64 (IntKind.u64.wrap (aU (aj+aI))) (1:Int))) iA)).bind fun v51=>
  fb self aj ar aI iA n39 v51
 else
  fb self aj ar aI iA n39 Fy
def fc (self:(List ah)→Int→Int→Int→(ah→ah→Option Int)→Option (List ah)) (aj:Int) (ar:Int) (aI:Int) (iA:ah→ah→Option Int) (n39:Int) (Fy:List ah):Option (List ah):=
 ib self aj ar aI iA n39 Fy ((decide (aj < n39))&&(decide (n39 < (aU (fS .u64 (IntKind.u64.wrap (aU (aj+aI))) (1:Int))))))
def ic (self:(List ah)→Int→Int→Int→(ah→ah→Option Int)→Option (List ah)) (aa:List ah) (aj:Int) (ar:Int) (aI:Int) (iA:ah→ah→Option Int) (n39:Int) (c46:Bool):Option (List ah):=
 if c46=true then
  (dm aa.length (fun r:(List ah)=>r.length) (jX aa n39 ar (aU ((aU ((aU (fS .u64 (IntKind.u64.wrap (aU (aj+aI))) (1:Int)))+ar)) - n39)) iA)).bind fun TK=>
  fc self aj ar aI iA n39 TK
 else
  fc self aj ar aI iA n39 aa
def fe (self:(List ah)→Int→Int→Int→(ah→ah→Option Int)→Option (List ah)) (aa:List ah) (aj:Int) (ar:Int) (aI:Int) (iA:ah→ah→Option Int) (n39:Int) (n40:Int):Option ((Int×Int)⊕(List ah)):=
 if n39 < n40 then
  (idx aa (aU ((aU ((aU ((aU (fS .u64 (IntKind.u64.wrap (aU (aj+aI))) (1:Int)))+ar)) - (1:Int))) - (aU (fS .u64 (IntKind.u64.wrap (aU (n39+n40))) (1:Int)))))).bind fun v41=>
  (idx aa (aU (fS .u64 (IntKind.u64.wrap (aU (n39+n40))) (1:Int)))).bind fun A8=>
  (iA v41 A8).bind fun CZ=>
  if ¬ (CZ < (0:Int)) then
   fa (aU ((aU (fS .u64 (IntKind.u64.wrap (aU (n39+n40))) (1:Int)))+(1:Int))) n40
  else
   fa n39 (aU (fS .u64 (IntKind.u64.wrap (aU (n39+n40))) (1:Int)))
 else
  Option.map .inr (ic self aa aj ar aI iA n39 ((decide (n39 < ar))&&(decide (ar < (aU ((aU ((aU (fS .u64 (IntKind.u64.wrap (aU (aj+aI))) (1:Int)))+ar)) - n39))))))
def qB (self:(List ah)→Int→Int→Int→(ah→ah→Option Int)→Option (List ah)) (aa:List ah) (aj:Int) (ar:Int) (aI:Int) (iA:ah→ah→Option Int) (n39:Int) (n40:Int):Option (List ah):=
 iter (fun x:Int×Int=>fe self aa aj ar aI iA x.1 x.2) (n39,n40)
def ff (self:(List ah)→Int→Int→Int→(ah→ah→Option Int)→Option (List ah)) (aa:List ah) (aj:Int) (ar:Int) (aI:Int) (iA:ah→ah→Option Int) (n35:Int) (n36:Int):Option (List ah):=
 qB self aa aj ar aI iA n35 n36
def fg (self:(List ah)→Int→Int→Int→(ah→ah→Option Int)→Option (List ah)) (aa:List ah) (aj:Int) (ar:Int) (aI:Int) (iA:ah→ah→Option Int):Option (List ah):=
 if (aU (ar - aj))=(1:Int) then
  qy aa aj iA ar aI
 else
  if (aU (aI - ar))=(1:Int) then
   qA aa ar iA aj ar
  else
   if (aU (fS .u64 (IntKind.u64.wrap (aU (aj+aI))) (1:Int))) < ar then
    ff self aa aj ar aI iA (aU ((aU ((aU (fS .u64 (IntKind.u64.wrap (aU (aj+aI))) (1:Int)))+ar)) - aI)) (aU (fS .u64 (IntKind.u64.wrap (aU (aj+aI))) (1:Int)))
   else
    ff self aa aj ar aI iA aj ar
def dn:Nat→(List ah)→Int→Int→Int→(ah→ah→Option Int)→Option (List ah)
 | 0=>fun _ _ _ _ _=>none
 | k+1=>fg (dn k)
def dU (aa:List ah) (aj:Int) (ar:Int) (aI:Int) (iA:ah→ah→Option Int):Option (List ah):=
 dn depth aa aj ar aI iA
def fH (n12:Int) (vZ:List ah):Option (((List ah)×Int)⊕(List ah)):=
 some (.inl (vZ,aU (n12 * (2:Int))))
def fI (aj:Int) (tw:ah→ah→Option Int) (n12:Int) (gm:List ah) (n17:Int):Option (((List ah)×Int)⊕(List ah)):=
 if (aU (n17+n12)) < aj then
  (dm gm.length (fun r:(List ah)=>r.length) (dU gm n17 (aU (n17+n12)) aj tw)).bind fun v21=>
  fH n12 v21
 else
  fH n12 gm
def cM (aj:Int) (tw:ah→ah→Option Int) (n12:Int) (gm:List ah) (n17:Int) (n18:Int):Option (((List ah)×Int×Int)⊕(((List ah)×Int)⊕(List ah))):=
 if n18≤aj then
  (dm gm.length (fun r:(List ah)=>r.length) (dU gm n17 (aU (n17+n12)) n18 tw)).bind fun C0=>
  some (.inl (C0,n18,aU (n18+(aU ((2:Int) * n12)))))
 else
  Option.map .inr (fI aj tw n12 gm n17)
def lE (aj:Int) (tw:ah→ah→Option Int) (n12:Int) (gm:List ah) (n17:Int) (n18:Int):Option (((List ah)×Int)⊕(List ah)):=
 iter (fun x:(List ah)×Int×Int=>cM aj tw n12 x.1 x.2.1 x.2.2) (gm,n17,n18)
def cN (aj:Int) (tw:ah→ah→Option Int) (jE:List ah) (n12:Int):Option (((List ah)×Int)⊕(List ah)):=
 if n12 < aj then
  lE aj tw n12 jE (0:Int) (aU ((2:Int) * n12))
 else
  Option.map .inr (some jE)
def iX (aj:Int) (tw:ah→ah→Option Int) (jE:List ah) (n12:Int):Option (List ah):=
 iter (fun x:(List ah)×Int=>cN aj tw x.1 x.2) (jE,n12)
def iY (aj:Int) (tw:ah→ah→Option Int) (l4:List ah) (n5:Int):Option (List ah):=
 (dm l4.length (fun r:(List ah)=>r.length) (dV l4 n5 aj tw)).bind fun v8=>
 iX aj tw v8 (20:Int)
def cO (aj:Int) (tw:ah→ah→Option Int) (l4:List ah) (n5:Int) (n6:Int):Option (((List ah)×Int×Int)⊕(List ah)):=
 if n6≤aj then
  (dm l4.length (fun r:(List ah)=>r.length) (dV l4 n5 n6 tw)).bind fun v7=>
  some (.inl (v7,n6,aU (n6+(20:Int))))
 else
  Option.map .inr (iY aj tw l4 n5)
def lF (aj:Int) (tw:ah→ah→Option Int) (l4:List ah) (n5:Int) (n6:Int):Option (List ah):=
 iter (fun x:(List ah)×Int×Int=>cO aj tw x.1 x.2.1 x.2.2) (l4,n5,n6)
def gE (aa:List ah) (aj:Int) (tw:ah→ah→Option Int):Option (List ah):=
 lF aj tw aa (0:Int) (20:Int)
def bq (aa:List ah) (mN:ah→ah→Option Int):Option (List ah):=
 (dm aa.length (fun r:(List ah)=>r.length) (gE aa (aa.length:Int) mN)).bind fun v1=>
 some v1
def dW (n17:Int) (lU:List ah):Option (((List ah)×Int)⊕(((List ah)×Int)⊕(List ah))):=
 some (.inl (lU,aU (n17+(1:Int))))
def dX (n17:Int) (fx:List ah):Option (((List ah)×Int)⊕(((List ah)×Int)⊕(List ah))):=
 dW n17 fx
def cw (v9:aO) (gm:List ah) (n17:Int) (v21:aO×Bool) (v22:Int) (v23:Int) (Mm:Bool):Option (((List ah)×Int)⊕(((List ah)×Int)⊕(List ah))):=
 if Mm=true then
  (idx gm (aU ((gm.length:Int) - (1:Int)))).bind fun v31=>
  dX n17 (gm.set (aU ((gm.length:Int) - (1:Int))).toNat (⟨v31.Device,v31.aG,v31.aT,v23⟩:ah))
 else
  (app gm [(⟨v9,v21.1,v22,v23⟩:ah)]).bind fun zg=>
  dX n17 zg
def dY (gZ:List ah) (hJ:List ah) (ed:aG) (ee:aG) (n7:Int) (v9:aO) (v10:(List Int)) (gm:List ah) (n17:Int):Option (((List ah)×Int)⊕(((List ah)×Int)⊕(List ah))):=
 if n17 < (aU ((v10.length:Int) - (1:Int))) then
  (idx v10 n17).bind fun v20=>
  (jG v9 v20 gZ hJ ed ee).bind fun v21=>
  if (!v21.2)=true then
   dW n17 gm
  else
   (idx v10 n17).bind fun v22=>
   (idx v10 (aU (n17+(1:Int)))).bind fun v23=>
   if (0:Int)≤(aU ((gm.length:Int) - (1:Int))) then
    (idx gm (aU ((gm.length:Int) - (1:Int)))).bind fun v26=>
    if v26.Device=v9 then
     (idx gm (aU ((gm.length:Int) - (1:Int)))).bind fun cx=>
     if cx.aG=v21.1 then
      (idx gm (aU ((gm.length:Int) - (1:Int)))).bind fun v28=>
      cw v9 gm n17 v21 v22 v23 (decide (v28.To=v22))
     else
      cw v9 gm n17 v21 v22 v23 false
    else
     cw v9 gm n17 v21 v22 v23 false
   else
    cw v9 gm n17 v21 v22 v23 false
 else
  Option.map .inr (some (.inl (gm,aU (n7+(1:Int)))))
def pq (gZ:List ah) (hJ:List ah) (ed:aG) (ee:aG) (n7:Int) (v9:aO) (v10:(List Int)) (gm:List ah) (n17:Int):Option (((List ah)×Int)⊕(List ah)):=
 iter (fun x:(List ah)×Int=>dY gZ hJ ed ee n7 v9 v10 x.1 x.2) (gm,n17)
def kj (l6:List ah):Option (List ah):=
 (dm l6.length (fun r:(List ah)=>r.length) (bq l6 (fun y0 y1=>jt y0 y1))).bind fun vm=>
 some vm
def dZ (aa:List aO) (aj:aE) (aI:List (List ah)) (gZ:List ah) (hJ:List ah) (ed:aG) (ee:aG) (l6:List ah) (n7:Int):Option (((List ah)×Int)⊕(List ah)):=
 if n7 < (aa.length:Int) then
  (idx aa n7).bind fun v9=>
  (sf v9 aj aI).bind fun v10=>
  pq gZ hJ ed ee n7 v9 v10 l6 (0:Int)
 else
  Option.map .inr (kj l6)
def pr (aa:List aO) (aj:aE) (aI:List (List ah)) (gZ:List ah) (hJ:List ah) (ed:aG) (ee:aG) (l6:List ah) (n7:Int):Option (List ah):=
 iter (fun x:(List ah)×Int=>dZ aa aj aI gZ hJ ed ee x.1 x.2) (l6,n7)
def fo (aa:List aO) (aj:aE) (aI:List (List ah)) (gZ:List ah) (hJ:List ah) (ed:aG) (ee:aG):Option (List ah):=
 pr aa aj aI gZ hJ ed ee [] (0:Int)
def mw (aa:aG) (aj:aG) (ar:List ao) (aI:aE):Option (List ah):=
 (np [aa] ar aI).bind fun v4=>
 (np [aj] ar aI).bind fun v5=>
 (iW ar ([]:aO)).bind fun v8=>
 (fo v8 aI [v4,v5] v4 v5 aa aj).bind fun v10=>
 some v10
def gn (aa:List ah) (aj:List ah) (n2:Int):Option (Int⊕Bool):=
 if n2 < (aa.length:Int) then
  (idx aa n2).bind fun v3=>
  (idx aj n2).bind fun v4=>
  if v3≠v4 then
   Option.map .inr (some false)
  else
   some (.inl (aU (n2+(1:Int))))
 else
  Option.map .inr (some true)
def tb (aa:List ah) (aj:List ah) (n2:Int):Option Bool:=
 iter (fun x:Int=>gn aa aj x) n2
def cG (aa:List ah) (aj:List ah):Option Bool:=
 if (aa.length:Int)≠(aj.length:Int) then
  some false
 else
  tb aa aj (0:Int)
def oQ (n8:Int) (jE:List (aO×(List ae))):Option (((List (aO×(List ae)))×Int)⊕(List ah)):=
 some (.inl (jE,aU (n8+(1:Int))))
def oR (aa:aG) (n24:Int) (v26:aO) (pn:(List aZ)) (Mk:List ah) (n36:Int):Option (((List ah)×Int)⊕(((List ah)×Int)⊕(List ah))):=
 if n36 < (pn.length:Int) then
  (idx pn n36).bind fun v37=>
  (app Mk [(⟨v26,aa.Key,v37.from_,v37.EO⟩:ah)]).bind fun Wk=>
  some (.inl (Wk,aU (n36+(1:Int))))
 else
  Option.map .inr (some (.inl (Mk,aU (n24+(1:Int)))))
def Cr (aa:aG) (n24:Int) (v26:aO) (pn:(List aZ)) (Mk:List ah) (n36:Int):Option (((List ah)×Int)⊕(List ah)):=
 iter (fun x:(List ah)×Int=>oR aa n24 v26 pn x.1 x.2) (Mk,n36)
def oS (aa:aG) (l6:List (aO×(List ae))) (v17:(List aO)) (od:List ah) (n24:Int):Option (((List ah)×Int)⊕(List ah)):=
 if n24 < (v17.length:Int) then
  (idx v17 n24).bind fun v26=>
  (vu l6 v26 []).bind fun cx=>
  (gB aa cx).bind fun pn=>
  Cr aa n24 v26 pn od (0:Int)
 else
  Option.map .inr (some od)
def Cs (aa:aG) (l6:List (aO×(List ae))) (v17:(List aO)) (od:List ah) (n24:Int):Option (List ah):=
 iter (fun x:(List ah)×Int=>oS aa l6 v17 x.1 x.2) (od,n24)
def wP (aa:aG) (aj:List ao) (l6:List (aO×(List ae))):Option (List ah):=
 (nF aj aa.ax).bind fun v17=>
 Cs aa l6 v17 [] (0:Int)
def oT (aa:aG) (aj:List ao) (l6:List (aO×(List ae))) (n8:Int):Option (((List (aO×(List ae)))×Int)⊕(List ah)):=
 if n8 < (aj.length:Int) then
  (idx aj n8).bind fun v9=>
  if v9.ax=aa.ax then
   (vu l6 v9.Device []).bind fun k9=>
   (app k9 [(⟨v9.At,v9.Value⟩:ae)]).bind fun CY=>
   oQ n8 (rP l6 v9.Device CY)
  else
   oQ n8 l6
 else
  Option.map .inr (wP aa aj l6)
def Ct (aa:aG) (aj:List ao) (l6:List (aO×(List ae))) (n8:Int):Option (List ah):=
 iter (fun x:(List (aO×(List ae)))×Int=>oT aa aj x.1 x.2) (l6,n8)
def tc (aa:aG) (aj:List ao):Option (List ah):=
 Ct aa aj [] (0:Int)
def rj (n7:Int) (jI:List ah):Option (((List ah)×Int)⊕(List ah)):=
 some (.inl (jI,aU (n7+(1:Int))))
def rk (aa:List ah) (aj:aE) (l6:List ah) (n7:Int):Option (((List ah)×Int)⊕(List ah)):=
 if n7 < (aa.length:Int) then
  (idx aa n7).bind fun v9=>
  if (max v9.aT aj.aT) < (min v9.To aj.To) then
   (app l6 [(⟨v9.Device,v9.aG,max v9.aT aj.aT,min v9.To aj.To⟩:ah)]).bind fun jJ=>
   rj n7 jJ
  else
   rj n7 l6
 else
  Option.map .inr (some l6)
def ES (aa:List ah) (aj:aE) (l6:List ah) (n7:Int):Option (List ah):=
 iter (fun x:(List ah)×Int=>rk aa aj x.1 x.2) (l6,n7)
def wa (aa:List ah) (aj:aE):Option (List ah):=
 ES aa aj [] (0:Int)
def ey (aa:List Int) (aj:Int) (n3:Int) (n4:Int):Option ((Int×Int)⊕(aO×Bool)):=
 if n4 < (aa.length:Int) then
  (idx aa n4).bind fun v5=>
  some (.inl (aU (n3+v5),aU (n4+(1:Int))))
 else
  Option.map .inr (some (([]:aO),decide (aj≤n3)))
def uN (aa:List Int) (aj:Int) (n3:Int) (n4:Int):Option (aO×Bool):=
 iter (fun x:Int×Int=>ey aa aj x.1 x.2) (n3,n4)
def lu (aa:List Int) (aj:Int):Option (aO×Bool):=
 uN aa aj (0:Int) (0:Int)
def cY (od:List ah) (qN:List Int) (n25:Int) (n26:Int):Option (((List ah)×(List Int)×Int×Int)⊕((List ah)⊕(List ah))):=
 some (.inl (od,qN,n25,n26))
def cZ (fy:aO×(List aq)) (dL:List ah) (n20:Int) (cx:aq) (fx:List Int) (n31:Int) (tQ:aO×Bool) (c40:Bool):Option (((List ah)×(List Int)×Int×Int)⊕((List ah)⊕(List ah))):=
 if c40=true then
  (idx fy.2 n31).bind fun CZ=>
  (idx dL n20).bind fun v44=>
  cY (dL.set n20.toNat (⟨v44.Device,v44.aG,v44.aT,CZ.at_⟩:ah)) fx n20 n31
 else
  (idx fy.2 n31).bind fun v45=>
  (app dL [(⟨fy.1,tQ.1,cx.at_,v45.at_⟩:ah)]).bind fun IH=>
  cY IH fx (dL.length:Int) n31
def gG (fy:aO×(List aq)) (dL:List ah) (n20:Int) (cx:aq) (fx:List Int) (n31:Int) (tQ:aO×Bool) (Ml:Bool):Option (((List ah)×(List Int)×Int×Int)⊕((List ah)⊕(List ah))):=
 if Ml=true then
  cY dL fx n20 n31
 else
  if (0:Int)≤n20 then
   (idx dL n20).bind fun v41=>
   if v41.To=cx.at_ then
    (idx dL n20).bind fun A8=>
    cZ fy dL n20 cx fx n31 tQ (decide (A8.aG=tQ.1))
   else
    cZ fy dL n20 cx fx n31 tQ false
  else
   cZ fy dL n20 cx fx n31 tQ false
def kP (ar:Int) (fy:aO×(List aq)) (dL:List ah) (n20:Int) (cx:aq) (fx:List Int) (n31:Int):Option (((List ah)×(List Int)×Int×Int)⊕((List ah)⊕(List ah))):=
 (lu fx ar).bind fun tQ=>
 gG fy dL n20 cx fx n31 tQ ((!tQ.2)||(decide (n31=(fy.2.length:Int))))
def ez (ar:Int) (fy:aO×(List aq)) (dL:List ah) (n20:Int) (cx:aq) (fx:List Int) (n31:Int) (GH:Bool):Option (((List Int)×Int)⊕(((List ah)×(List Int)×Int×Int)⊕((List ah)⊕(List ah)))):=
 if GH=true then
  (idx fy.2 n31).bind fun vm=>
  (idx fx vm.au).bind fun v35=>
  (idx fy.2 n31).bind fun AP=>
  (idx fx vm.au).bind fun v37=>
  some (.inl (fx.set vm.au.toNat (aU (v35+AP.CW)),aU (n31+(1:Int))))
 else
  Option.map .inr (kP ar fy dL n20 cx fx n31)
def eA (ar:Int) (fy:aO×(List aq)) (dL:List ah) (n20:Int) (cx:aq) (fx:List Int) (n31:Int):Option (((List Int)×Int)⊕(((List ah)×(List Int)×Int×Int)⊕((List ah)⊕(List ah)))):=
 if n31 < (fy.2.length:Int) then
  (idx fy.2 n31).bind fun v33=>
  ez ar fy dL n20 cx fx n31 (decide (v33.at_=cx.at_))
 else
  ez ar fy dL n20 cx fx n31 false
def pV (ar:Int) (fy:aO×(List aq)) (dL:List ah) (n20:Int) (cx:aq) (fx:List Int) (n31:Int):Option (((List ah)×(List Int)×Int×Int)⊕((List ah)⊕(List ah))):=
 iter (fun x:(List Int)×Int=>eA ar fy dL n20 cx x.1 x.2) (fx,n31)
def eB (ar:Int) (fy:aO×(List aq)) (dL:List ah) (lU:List Int) (n20:Int) (n21:Int):Option (((List ah)×(List Int)×Int×Int)⊕((List ah)⊕(List ah))):=
 if n21 < (fy.2.length:Int) then
  (idx fy.2 n21).bind fun cx=>
  pV ar fy dL n20 cx lU n21
 else
  Option.map .inr (some (.inl dL))
def pW (ar:Int) (fy:aO×(List aq)) (dL:List ah) (lU:List Int) (n20:Int) (n21:Int):Option ((List ah)⊕(List ah)):=
 iter (fun x:(List ah)×(List Int)×Int×Int=>eB ar fy x.1 x.2.1 x.2.2.1 x.2.2.2) (dL,lU,n20,n21)
def eC (aa:List (List ah)) (ar:Int) (fy:aO×(List aq)) (l7:List ah):Option ((List ah)⊕(List ah)):=
 (Tl (0:Int) (aa.length:Int) (aa.length:Int)).bind fun l10=>
 pW ar fy l7 l10 (-1:Int) (0:Int)
def eF (l7:List ah):Option (List ah):=
 (dm l7.length (fun r:(List ah)=>r.length) (bA l7 (fun y0 y1=>dI y0 y1))).bind fun v9=>
 some v9
def pX (aa:List (List ah)) (ar:Int) (v1:(List (aO×(List aq)))) (l7:List ah):Option (List ah):=
 xp v1 (fun p=>qE (fun e (x:(List ah))=>eC aa ar e x) (fun x:(List ah)=>eF x) p l7)
def fJ (aa:List (List ah)) (ar:Int):Option (List ah):=
 (lR aa).bind fun v1=>
 pX aa ar v1 []
def pY (aj:Int) (jJ:List (List ah)):Option ((List ah)×Int):=
 (fJ jJ aj).bind fun v21=>
 some (v21,(0:Int))
def gH (aa:List aG) (aj:Int) (ar:List ao) (aI:aE) (jJ:List (List ah)) (n14:Int):Option (((List (List ah))×Int)⊕((List ah)×Int)):=
 if n14 < (aa.length:Int) then
  (idx aa n14).bind fun gx=>
  (tc gx ar).bind fun v17=>
  (wa v17 aI).bind fun lL=>
  (app jJ [lL]).bind fun lU=>
  some (.inl (lU,aU (n14+(1:Int))))
 else
  Option.map .inr (pY aj jJ)
def tW (aa:List aG) (aj:Int) (ar:List ao) (aI:aE) (jJ:List (List ah)) (n14:Int):Option ((List ah)×Int):=
 iter (fun x:(List (List ah))×Int=>gH aa aj ar aI x.1 x.2) (jJ,n14)
def pZ (aa:List aG) (aj:Int) (ar:List ao) (aI:aE) (c7:Bool):Option ((List ah)×Int):=
 if c7=true then
  some ([],(1:Int))
 else
  tW aa aj ar aI [] (0:Int)
def sh (aa:List aG) (aj:Int) (ar:List ao) (aI:aE):Option ((List ah)×Int):=
 (fT aa).bind fun v3=>
 (cU ar).bind fun v4=>
 (nf [v3,v4]).bind fun v5=>
 if v5≠(0:Int) then
  some ([],v5)
 else
  pZ aa aj ar aI ((gi aj (1:Int) (100:Int))||(!(iT aI)))
def p9 (aa:Bool) (aj:Int):Int:=
 if aa=true then
  aj
 else
  (0:Int)
def mx (aa:aO) (aj:Int) (ar:List ah) (aI:Int):Option (aO×Bool):=
 (tV ar aa aj).bind fun v1=>
 some (([]:aO),decide (aI≤v1))
def fp (n17:Int) (lU:List ah):Option (((List ah)×Int)⊕(((List ah)×Int)⊕(List ah))):=
 some (.inl (lU,aU (n17+(1:Int))))
def fq (n17:Int) (fx:List ah):Option (((List ah)×Int)⊕(((List ah)×Int)⊕(List ah))):=
 fp n17 fx
def cH (v9:aO) (gm:List ah) (n17:Int) (v21:aO×Bool) (v22:Int) (v23:Int) (Mm:Bool):Option (((List ah)×Int)⊕(((List ah)×Int)⊕(List ah))):=
 if Mm=true then
  (idx gm (aU ((gm.length:Int) - (1:Int)))).bind fun v31=>
  fq n17 (gm.set (aU ((gm.length:Int) - (1:Int))).toNat (⟨v31.Device,v31.aG,v31.aT,v23⟩:ah))
 else
  (app gm [(⟨v9,v21.1,v22,v23⟩:ah)]).bind fun zg=>
  fq n17 zg
def ft (gZ:List ah) (hJ:Int) (n7:Int) (v9:aO) (v10:(List Int)) (gm:List ah) (n17:Int):Option (((List ah)×Int)⊕(((List ah)×Int)⊕(List ah))):=
 if n17 < (aU ((v10.length:Int) - (1:Int))) then
  (idx v10 n17).bind fun v20=>
  (mx v9 v20 gZ hJ).bind fun v21=>
  if (!v21.2)=true then
   fp n17 gm
  else
   (idx v10 n17).bind fun v22=>
   (idx v10 (aU (n17+(1:Int)))).bind fun v23=>
   if (0:Int)≤(aU ((gm.length:Int) - (1:Int))) then
    (idx gm (aU ((gm.length:Int) - (1:Int)))).bind fun v26=>
    if v26.Device=v9 then
     (idx gm (aU ((gm.length:Int) - (1:Int)))).bind fun cx=>
     if cx.aG=v21.1 then
      (idx gm (aU ((gm.length:Int) - (1:Int)))).bind fun v28=>
      cH v9 gm n17 v21 v22 v23 (decide (v28.To=v22))
     else
      cH v9 gm n17 v21 v22 v23 false
    else
     cH v9 gm n17 v21 v22 v23 false
   else
    cH v9 gm n17 v21 v22 v23 false
 else
  Option.map .inr (some (.inl (gm,aU (n7+(1:Int)))))
def qO (gZ:List ah) (hJ:Int) (n7:Int) (v9:aO) (v10:(List Int)) (gm:List ah) (n17:Int):Option (((List ah)×Int)⊕(List ah)):=
 iter (fun x:(List ah)×Int=>ft gZ hJ n7 v9 v10 x.1 x.2) (gm,n17)
def lv (l6:List ah):Option (List ah):=
 (dm l6.length (fun r:(List ah)=>r.length) (bq l6 (fun y0 y1=>jt y0 y1))).bind fun vm=>
 some vm
def fu (aa:List aO) (aj:aE) (aI:List (List ah)) (gZ:List ah) (hJ:Int) (l6:List ah) (n7:Int):Option (((List ah)×Int)⊕(List ah)):=
 if n7 < (aa.length:Int) then
  (idx aa n7).bind fun v9=>
  (sf v9 aj aI).bind fun v10=>
  qO gZ hJ n7 v9 v10 l6 (0:Int)
 else
  Option.map .inr (lv l6)
def qP (aa:List aO) (aj:aE) (aI:List (List ah)) (gZ:List ah) (hJ:Int) (l6:List ah) (n7:Int):Option (List ah):=
 iter (fun x:(List ah)×Int=>fu aa aj aI gZ hJ x.1 x.2) (l6,n7)
def gp (aa:List aO) (aj:aE) (aI:List (List ah)) (gZ:List ah) (hJ:Int):Option (List ah):=
 qP aa aj aI gZ hJ [] (0:Int)
def qQ (aa:List aG) (aj:Int) (ar:List ao) (aI:aE):Option (List ah):=
 (np aa ar aI).bind fun v3=>
 (iW ar ([]:aO)).bind fun v5=>
 (gp v5 aI [v3] v3 aj).bind fun v7=>
 some v7
def qa (n6:Int) (jI:List ae):Option (((List ae)×Int)⊕(List ae)):=
 some (.inl (jI,aU (n6+(1:Int))))
def td (l5:List ae) (n6:Int) (v8:ao) (CX:Bool):Option (((List ae)×Int)⊕(List ae)):=
 if CX=true then
  (app l5 [(⟨v8.At,v8.Value⟩:ae)]).bind fun jJ=>
  qa n6 jJ
 else
  qa n6 l5
def ju (aa:List ao) (aj:aO) (ar:aO) (l5:List ae) (n6:Int):Option (((List ae)×Int)⊕(List ae)):=
 if n6 < (aa.length:Int) then
  (idx aa n6).bind fun v8=>
  td l5 n6 v8 ((decide (v8.ax=aj))&&(decide (v8.Device=ar)))
 else
  Option.map .inr (some l5)
def zY (aa:List ao) (aj:aO) (ar:aO) (l5:List ae) (n6:Int):Option (List ae):=
 iter (fun x:(List ae)×Int=>ju aa aj ar x.1 x.2) (l5,n6)
def vA (aa:List ao) (aj:aO) (ar:aO):Option (List ae):=
 zY aa aj ar [] (0:Int)
def sj (n3:Int) (n4:Int):Option ((Int×Int)⊕Int):=
 if n4≠(0:Int) then
  (rem n3 n4).bind fun n5=>
  some (.inl (n4,n5))
 else
  Option.map .inr (some n3)
def B1 (n3:Int) (n4:Int):Option Int:=
 iter (fun x:Int×Int=>sj x.1 x.2) (n3,n4)
def xB (aa:Int) (aj:Int):Option Int:=
 B1 aa aj
def oz (aa:Int) (aj:Int):Option Fraction:=
 (xB (max aa (aU (-aa))) aj).bind fun v2=>
 (quo aa v2).bind fun n3=>
 (quo aj v2).bind fun n4=>
 some (⟨n3,n4⟩:Fraction)
def rl (aI:aE) (n14:Int):Option (Fraction×Int):=
 (oz n14 (aU (aI.To - aI.aT))).bind fun lL=>
 some (lL,(0:Int))
def iN (aI:aE) (v10:(List aZ)) (n14:Int) (n15:Int):Option ((Int×Int)⊕(Fraction×Int)):=
 if n15 < (v10.length:Int) then
  (idx v10 n15).bind fun gx=>
  some (.inl (aU (n14+(max (0:Int) (aU ((min gx.EO aI.To) - (max gx.from_ aI.aT))))),aU (n15+(1:Int))))
 else
  Option.map .inr (rl aI n14)
def vd (aI:aE) (v10:(List aZ)) (n14:Int) (n15:Int):Option (Fraction×Int):=
 iter (fun x:Int×Int=>iN aI v10 x.1 x.2) (n14,n15)
def tX (aa:aG) (aj:List ao) (ar:aO) (aI:aE):Option (Fraction×Int):=
 (fT [aa]).bind fun v4=>
 (cU aj).bind fun v5=>
 (nf [v4,v5]).bind fun v6=>
 if v6≠(0:Int) then
  some ((⟨(0:Int),(0:Int)⟩:Fraction),v6)
 else
  (pM ar).bind fun v7=>
  if (!v7)=true then
   some ((⟨(0:Int),(0:Int)⟩:Fraction),(5:Int))
  else
   if (!(iT aI))=true then
    some ((⟨(0:Int),(0:Int)⟩:Fraction),(1:Int))
   else
    if aI.aT=aI.To then
     some ((⟨(0:Int),(0:Int)⟩:Fraction),(8:Int))
    else
     (vA aj aa.ax ar).bind fun v8=>
     (gB aa v8).bind fun v10=>
     vd aI v10 (0:Int) (0:Int)
def tY (aa:aO):Option Int:=
 (zX aa).bind fun v1=>
 if (!v1)=true then
  some (5:Int)
 else
  some (0:Int)
def qd (n9:Int) (n13:Int):Option ((Int×Int)⊕Fraction):=
 some (.inl (n13,aU (n9+(1:Int))))
def te (aI:aE) (n8:Int):Option Fraction:=
 (pR n8 (aU (aI.To - aI.aT))).bind fun nz=>
 some nz
def jv (aI:aE) (v4:(List aE)) (n8:Int) (n9:Int):Option ((Int×Int)⊕Fraction):=
 if n9 < (v4.length:Int) then
  (idx v4 n9).bind fun v10=>
  if ((ox v10 aI).2)=true then
   qd n9 (aU (n8+(aU ((((ox v10 aI).1).To) - (((ox v10 aI).1).aT)))))
  else
   qd n9 n8
 else
  Option.map .inr (te aI n8)
def zZ (aI:aE) (v4:(List aE)) (n8:Int) (n9:Int):Option Fraction:=
 iter (fun x:Int×Int=>jv aI v4 x.1 x.2) (n8,n9)
def tx (aa:aG) (aj:List ao) (ar:aO) (aI:aE):Option Fraction:=
 (pe aa aj ar).bind fun v4=>
 zZ aI v4 (0:Int) (0:Int)
def oA (n7:Int) (n11:Int):Option ((Int×Int)⊕Int):=
 some (.inl (n11,aU (n7+(1:Int))))
def rm (n6:Int) (n7:Int) (CX:Bool):Option ((Int×Int)⊕Int):=
 if CX=true then
  oA n7 (aU (n6+(1:Int)))
 else
  oA n7 n6
def iO (ar:aE) (v2:(List ah)) (n6:Int) (n7:Int):Option ((Int×Int)⊕Int):=
 if n7 < (v2.length:Int) then
  (idx v2 n7).bind fun v8=>
  rm n6 n7 ((decide (ar.aT≤v8.aT))&&(decide (v8.aT < ar.To)))
 else
  Option.map .inr (some n6)
def yK (ar:aE) (v2:(List ah)) (n6:Int) (n7:Int):Option Int:=
 iter (fun x:Int×Int=>iO ar v2 x.1 x.2) (n6,n7)
def qR (aa:aG) (aj:List ao) (ar:aE):Option Int:=
 (jU aa aj).bind fun v2=>
 yK ar v2 (0:Int) (0:Int)
def tZ (aa:aG) (aj:List ao) (ar:aE):Option (Int×Int):=
 (o4 [aa] aj ar).bind fun v3=>
 if v3≠(0:Int) then
  some ((0:Int),v3)
 else
  (qR aa aj ar).bind fun v4=>
  some (v4,(0:Int))
def qe (n15:Int) (n18:Int):Option ((Int×Int)⊕((Int×Int)⊕Int)):=
 some (.inl (n18,aU (n15+(1:Int))))
def jw (ar:aE) (n8:Int) (v10:(List aE)) (n14:Int) (n15:Int):Option ((Int×Int)⊕((Int×Int)⊕Int)):=
 if n15 < (v10.length:Int) then
  (idx v10 n15).bind fun gx=>
  if (nD gx.aT ar.aT (aU (ar.To - (1:Int))))=true then
   qe n15 (aU (n14+(1:Int)))
  else
   qe n15 n14
 else
  Option.map .inr (some (.inl (n14,aU (n8+(1:Int)))))
def z6 (ar:aE) (n8:Int) (v10:(List aE)) (n14:Int) (n15:Int):Option ((Int×Int)⊕Int):=
 iter (fun x:Int×Int=>jw ar n8 v10 x.1 x.2) (n14,n15)
def jx (aa:aG) (aj:List ao) (ar:aE) (v3:(List aO)) (n7:Int) (n8:Int):Option ((Int×Int)⊕Int):=
 if n8 < (v3.length:Int) then
  (idx v3 n8).bind fun v9=>
  (pe aa aj v9).bind fun v10=>
  z6 ar n8 v10 n7 (0:Int)
 else
  Option.map .inr (some n7)
def z7 (aa:aG) (aj:List ao) (ar:aE) (v3:(List aO)) (n7:Int) (n8:Int):Option Int:=
 iter (fun x:Int×Int=>jx aa aj ar v3 x.1 x.2) (n7,n8)
def qS (aa:aG) (aj:List ao) (ar:aE):Option Int:=
 (iW aj aa.ax).bind fun v3=>
 z7 aa aj ar v3 (0:Int) (0:Int)
def nq (jE:List (aO×Int)) (n14:Int) (gx:ao) (vZ:List ah):Option (((List (aO×Int))×(List ah)×Int)⊕((List ah)×Int)):=
 some (.inl (rP jE gx.Device gx.At,vZ,aU (n14+(1:Int))))
def jY (aj:Int) (Ve:aO×Int) (EG:List ah):Option ((List ah)⊕((List ah)×Int)):=
 (app EG [(⟨Ve.1,[],aU ((aU (Ve.2+aj))+(1:Int)),(345686400000:Int)⟩:ah)]).bind fun Q2=>
 some (.inl Q2)
def jZ (ar:aE) (EG:List ah):Option ((List ah)×Int):=
 (nj EG ar).bind fun v28=>
 (dm v28.length (fun r:(List ah)=>r.length) (bA v28 (fun y0 y1=>dI y0 y1))).bind fun v30=>
 some (v30,(0:Int))
def nt (aj:Int) (ar:aE) (jE:List (aO×Int)) (EG:List ah):Option ((List ah)×Int):=
 xp jE (fun p=>qE (fun e (x:(List ah))=>jY aj e x) (fun x:(List ah)=>jZ ar x) p EG)
def gI (aa:List ao) (aj:Int) (ar:aE) (jE:List (aO×Int)) (jJ:List ah) (n14:Int):Option (((List (aO×Int))×(List ah)×Int)⊕((List ah)×Int)):=
 if n14 < (aa.length:Int) then
  (idx aa n14).bind fun gx=>
  (KU jE gx.Device (0:Int)).bind fun lL=>
  if lL.2=true then
   (app jJ [(⟨gx.Device,[],aU ((aU (lL.1+aj))+(1:Int)),gx.At⟩:ah)]).bind fun Mj=>
   nq jE n14 gx Mj
  else
   nq jE n14 gx jJ
 else
  Option.map .inr (nt aj ar jE jJ)
def ua (aa:List ao) (aj:Int) (ar:aE) (jE:List (aO×Int)) (jJ:List ah) (n14:Int):Option ((List ah)×Int):=
 iter (fun x:(List (aO×Int))×(List ah)×Int=>gI aa aj ar x.1 x.2.1 x.2.2) (jE,jJ,n14)
def qg (aa:List ao) (aj:Int) (ar:aE) (c4:Bool):Option ((List ah)×Int):=
 if c4=true then
  some ([],(1:Int))
 else
  ua aa aj ar [] [] (0:Int)
def sk (aa:List ao) (aj:Int) (ar:aE):Option ((List ah)×Int):=
 (cU aa).bind fun v2=>
 if v2≠(0:Int) then
  some ([],v2)
 else
  qg aa aj ar ((gi aj (1:Int) (2592000000:Int))||(!(iT ar)))
def gJ (aa:List ao):Option (List ao):=
 app [] aa
def oB (aa:ao) (aj:aO):Bool:=
 decide (aa.Device≠aj)
def ea (aa:List ao) (mN:ao→Option Bool) (n2:Int):Option (Int⊕Int):=
 if n2 < (aa.length:Int) then
  (idx aa n2).bind fun v3=>
  (mN v3).bind fun v4=>
  if v4=true then
   Option.map .inr (some n2)
  else
   some (.inl (aU (n2+(1:Int))))
 else
  Option.map .inr (some (-1:Int))
def pt (aa:List ao) (mN:ao→Option Bool) (n2:Int):Option Int:=
 iter (fun x:Int=>ea aa mN x) n2
def iB (aa:List ao) (mN:ao→Option Bool):Option Int:=
 pt aa mN (0:Int)
def dO (n7:Int) (jE:List ao) (n12:Int):Option (((List ao)×Int×Int)⊕(List ao)):=
 some (.inl (jE,n12,aU (n7+(1:Int))))
def j7 (l5:List ao) (n6:Int):Option (List ao):=
 (xm l5 n6 (l5.length:Int)).bind fun tL=>
 (xm (Fm l5 n6 tL.length (⟨[],[],(0:Int),(0:Int)⟩:ao)) (0:Int) n6).bind fun CY=>
 some CY
def dP (mN:ao→Option Bool) (l5:List ao) (n6:Int) (n7:Int):Option (((List ao)×Int×Int)⊕(List ao)):=
 if n7 < (l5.length:Int) then
  (idx l5 n7).bind fun v8=>
  (mN v8).bind fun v10=>
  if (!v10)=true then
   (idx l5 n6).bind fun k9=>
   dO n7 (l5.set n6.toNat v8) (aU (n6+(1:Int)))
  else
   dO n7 l5 n6
 else
  Option.map .inr (j7 l5 n6)
def o5 (mN:ao→Option Bool) (l5:List ao) (n6:Int) (n7:Int):Option (List ao):=
 iter (fun x:(List ao)×Int×Int=>dP mN x.1 x.2.1 x.2.2) (l5,n6,n7)
def dc (aa:List ao) (mN:ao→Option Bool):Option (List ao):=
 (iB aa mN).bind fun v1=>
 if v1=(-1:Int) then
  some aa
 else
  o5 mN aa v1 (aU (v1+(1:Int)))
def mz (n26:Int) (cx:ao) (fx:List ah):Option (((List ah)×Int×Int)⊕(((List ah)×Int)⊕(List ah))):=
 some (.inl (fx,cx.At,aU (n26+(1:Int))))
def oC (n26:Int) (cx:ao) (Fx:List ah):Option (((List ah)×Int×Int)⊕(((List ah)×Int)⊕(List ah))):=
 mz n26 cx Fx
def iP (aj:Int) (ar:aE) (n9:Int) (v11:aO) (xw:List ao) (qN:List ah) (n25:Int) (n26:Int):Option (((List ah)×Int×Int)⊕(((List ah)×Int)⊕(List ah))):=
 if n26 < (xw.length:Int) then
  (idx xw n26).bind fun cx=>
  if (0:Int)≤n25 then
   if ((ox (⟨aU ((aU (n25+aj))+(1:Int)),cx.At⟩:aE) ar).2)=true then
    (app qN [(⟨v11,[],((ox (⟨aU ((aU (n25+aj))+(1:Int)),cx.At⟩:aE) ar).1).aT,((ox (⟨aU ((aU (n25+aj))+(1:Int)),cx.At⟩:aE) ar).1).To⟩:ah)]).bind fun GF=>
    oC n26 cx GF
   else
    oC n26 cx qN
  else
   mz n26 cx qN
 else
  Option.map .inr (some (.inl (qN,aU (n9+(1:Int)))))
def ve (aj:Int) (ar:aE) (n9:Int) (v11:aO) (xw:List ao) (qN:List ah) (n25:Int) (n26:Int):Option (((List ah)×Int)⊕(List ah)):=
 iter (fun x:(List ah)×Int×Int=>iP aj ar n9 v11 xw x.1 x.2.1 x.2.2) (qN,n25,n26)
def oD (l8:List ah):Option (List ah):=
 (dm l8.length (fun r:(List ah)=>r.length) (bq l8 (fun y0 y1=>js y0 y1))).bind fun AP=>
 some AP
def iQ (aa:List ao) (aj:Int) (ar:aE) (v2:(List aO)) (l8:List ah) (n9:Int):Option (((List ah)×Int)⊕(List ah)):=
 if n9 < (v2.length:Int) then
  (idx v2 n9).bind fun v11=>
  (gJ aa).bind fun k9=>
  (dc k9 (fun y0=>some (oB y0 v11))).bind fun mM=>
  (app mM [(⟨[],[],(345686400000:Int),(0:Int)⟩:ao)]).bind fun xw=>
  ve aj ar n9 v11 xw l8 (-1:Int) (0:Int)
 else
  Option.map .inr (oD l8)
def yL (aa:List ao) (aj:Int) (ar:aE) (v2:(List aO)) (l8:List ah) (n9:Int):Option (List ah):=
 iter (fun x:(List ah)×Int=>iQ aa aj ar v2 x.1 x.2) (l8,n9)
def qT (aa:List ao) (aj:Int) (ar:aE):Option (List ah):=
 (iW aa ([]:aO)).bind fun v2=>
 yL aa aj ar v2 [] (0:Int)
def qh (l8:List ah):Option ((List ah)×Int):=
 (dm l8.length (fun r:(List ah)=>r.length) (bA l8 (fun y0 y1=>dI y0 y1))).bind fun lL=>
 some (lL,(0:Int))
def gK (aa:List aG) (aj:List ao) (ar:aE) (l8:List ah) (n9:Int):Option (((List ah)×Int)⊕((List ah)×Int)):=
 if n9 < (aa.length:Int) then
  (idx aa n9).bind fun v11=>
  (jU v11 aj).bind fun v12=>
  (nj v12 ar).bind fun nz=>
  (app l8 nz).bind fun gm=>
  some (.inl (gm,aU (n9+(1:Int))))
 else
  Option.map .inr (qh l8)
def qj (aa:List aG) (aj:List ao) (ar:aE) (l8:List ah) (n9:Int):Option ((List ah)×Int):=
 iter (fun x:(List ah)×Int=>gK aa aj ar x.1 x.2) (l8,n9)
def pf (aa:List aG) (aj:List ao) (ar:aE):Option ((List ah)×Int):=
 (o4 aa aj ar).bind fun v2=>
 if v2≠(0:Int) then
  some ([],v2)
 else
  qj aa aj ar [] (0:Int)
def ub (c4:Bool):Option Bool:=
 some c4
def yd:Option Bool:=
 (pf [(⟨([114]:aO),([116]:aO),(1:Int),(10:Int),true,(1:Int),(1:Int),(0:Int),(0:Int),(0:Int)⟩:aG)] [(⟨([100]:aO),([116]:aO),(0:Int),(1:Int)⟩:ao)] (⟨(0:Int),(5:Int)⟩:aE)).bind fun v2=>
 if v2.2=(0:Int) then
  (cG v2.1 [(⟨([100]:aO),([114]:aO),(0:Int),(5:Int)⟩:ah)]).bind fun v5=>
  ub v5
 else
  ub false
def fZ (c51:Bool):Option Bool:=
 some c51
def iC (v7:(List ao)×an) (v9:aE×an) (mM:Int×an) (v46:(List ah)×Int) (n48:Int):Option Bool:=
 if v46.2=n48 then
  if n48≠(0:Int) then
   (yd).bind fun yD=>
   fZ yD
  else
   (qT v7.1 mM.1 v9.1).bind fun P1=>
   (cG v46.1 P1).bind fun v54=>
   if v54=true then
    (yd).bind fun v55=>
    fZ v55
   else
    fZ false
 else
  fZ false
def ga (v7:(List ao)×an) (v9:aE×an) (mM:Int×an) (lL:Int) (Wl:Bool):Option Bool:=
 if Wl=true then
  some false
 else
  (sk v7.1 mM.1 v9.1).bind fun v46=>
  if mM.1 < (1:Int) then
   (iI [lL,(p9 true (1:Int)),(bP v9.1)]).bind fun v50=>
   iC v7 v9 mM v46 v50
  else
   (iI [lL,(p9 (decide ((2592000000:Int) < mM.1)) (1:Int)),(bP v9.1)]).bind fun v49=>
   iC v7 v9 mM v46 v49
def gb (v4:aG×an) (v7:(List ao)×an) (v9:aE×an) (mM:Int×an) (gx:Int) (lL:Int) (c40:Bool):Option Bool:=
 if c40=true then
  some false
 else
  (tZ v4.1 v7.1 v9.1).bind fun A8=>
  (iI [gx,lL,(bP v9.1)]).bind fun CZ=>
  if A8.2≠CZ then
   ga v7 v9 mM lL true
  else
   if CZ=(0:Int) then
    (qS v4.1 v7.1 v9.1).bind fun v45=>
    ga v7 v9 mM lL (decide (A8.1≠v45))
   else
    ga v7 v9 mM lL false
def gd (v4:aG×an) (v7:(List ao)×an) (v9:aE×an) (v10:aO×an) (mM:Int×an) (gx:Int) (lL:Int) (GH:Bool):Option Bool:=
 if GH=true then
  some false
 else
  (tX v4.1 v7.1 v10.1 v9.1).bind fun AP=>
  (tY v10.1).bind fun tQ=>
  (iI [gx,lL,tQ,(bP v9.1),(p9 (decide (v9.1.aT=v9.1.To)) (8:Int))]).bind fun v39=>
  if AP.2≠v39 then
   gb v4 v7 v9 mM gx lL true
  else
   if v39=(0:Int) then
    (tx v4.1 v7.1 v10.1 v9.1).bind fun v41=>
    gb v4 v7 v9 mM gx lL (decide (AP.1≠v41))
   else
    gb v4 v7 v9 mM gx lL false
def iD (v2:(List aG)×an) (v4:aG×an) (v7:(List ao)×an) (v9:aE×an) (v10:aO×an) (nz:Int×an) (mM:Int×an) (gx:Int) (lL:Int) (v26:(List ah)×Int) (n28:Int):Option Bool:=
 if v26.2≠n28 then
  gd v4 v7 v9 v10 mM gx lL true
 else
  if n28=(0:Int) then
   (qQ v2.1 nz.1 v7.1 v9.1).bind fun v33=>
   (cG v26.1 v33).bind fun v35=>
   gd v4 v7 v9 v10 mM gx lL (!v35)
  else
   gd v4 v7 v9 v10 mM gx lL false
def gg (v2:(List aG)×an) (v4:aG×an) (v7:(List ao)×an) (v9:aE×an) (v10:aO×an) (nz:Int×an) (mM:Int×an) (gx:Int) (lL:Int) (Wm:Bool):Option Bool:=
 if Wm=true then
  some false
 else
  (sh v2.1 nz.1 v7.1 v9.1).bind fun v26=>
  (lM v2.1).bind fun pn=>
  if nz.1 < (1:Int) then
   (iI [pn,lL,(p9 true (1:Int)),(bP v9.1)]).bind fun v31=>
   iD v2 v4 v7 v9 v10 nz mM gx lL v26 v31
  else
   (iI [pn,lL,(p9 (decide ((100:Int) < nz.1)) (1:Int)),(bP v9.1)]).bind fun v30=>
   iD v2 v4 v7 v9 v10 nz mM gx lL v26 v30
def mo (aa:List Int):Option Bool:=
 (pK (⟨aa,(0:Int)⟩:an)).bind fun v2=>
 (tv v2.2).bind fun v4=>
 (tv v4.2).bind fun v5=>
 (kC v5.2 (0:Int) (6:Int)).bind fun v6=>
 (mg v6.2 v6.1).bind fun v7=>
 (rQ v7.2).bind fun v9=>
 (gS v9.2 [([100,97]:aO),([100,97]:aO),([100,98]:aO),([65]:aO)]).bind fun v10=>
 (cF v10.2 [(1:Int),(2:Int),(2:Int),(3:Int),(0:Int),(101:Int)]).bind fun nz=>
 (cF nz.2 [(1:Int),(3:Int),(10:Int),(30:Int),(0:Int),(2592000001:Int)]).bind fun mM=>
 (lM [v4.1]).bind fun gx=>
 (lM [v5.1]).bind fun v17=>
 (mY v7.1).bind fun lL=>
 (rV v4.1 v5.1 v7.1 v9.1).bind fun C0=>
 (iI [gx,v17,lL,(bP v9.1)]).bind fun v21=>
 if C0.2≠v21 then
  gg v2 v4 v7 v9 v10 nz mM gx lL true
 else
  if v21=(0:Int) then
   (mw v4.1 v5.1 v7.1 v9.1).bind fun v23=>
   (cG C0.1 v23).bind fun v25=>
   gg v2 v4 v7 v9 v10 nz mM gx lL (!v25)
  else
   gg v2 v4 v7 v9 v10 nz mM gx lL false
end
end Go.Beacon
