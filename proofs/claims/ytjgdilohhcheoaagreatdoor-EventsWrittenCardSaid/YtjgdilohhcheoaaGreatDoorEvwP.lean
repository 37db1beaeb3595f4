/- Plain functions that the Go functions compute, written by shal.py. -/
import Derived.Test.YtjgdilohhcheoaaGreatDoorCore
set_option linter.unusedVariables false
namespace Go.Beacon
open Go Go.Eng
noncomputable section
structure an where
 L:List Int
 at_:Int
deriving DecidableEq,Inhabited
structure aL where
 Name:ax
 Kind:Int
 vj:Int
 iA:Int
deriving DecidableEq,Inhabited
def aL.av (x:aL):AV:=.agg [.str x.Name,I x.Kind,I x.vj,I x.iA]
structure Model where
 Key:ax
 Prefix:ax
 ba:List aL
deriving DecidableEq,Inhabited
def Model.av (x:Model):AV:=.agg [.str x.Key,.str x.Prefix,.list 4 (x.ba.map aL.av)]
structure Version where
 dX:Int
 dY:Int
 dI:Int
deriving DecidableEq,Inhabited
def Version.av (x:Version):AV:=.agg [I x.dX,I x.dY,I x.dI]
structure ab where
 cj:ax
 No:Int
 aO:Int
 At:Int
 Kind:Int
 Device:ax
 Model:ax
 aK:ax
 az:Int
 Key:ax
 Name:ax
 Value:ax
 aW:Int
 ak:Version
deriving DecidableEq,Inhabited
def ab.av (x:ab):AV:=.agg [.str x.cj,I x.No,I x.aO,I x.At,I x.Kind,.str x.Device,.str x.Model,.str x.aK,I x.az,.str x.Key,.str x.Name,.str x.Value,I x.aW,I x.ak.dX,I x.ak.dY,I x.ak.dI]
structure bx where
 vk:ax
 sc:Int
deriving DecidableEq,Inhabited
def bx.av (x:bx):AV:=.agg [.str x.vk,I x.sc]
instance:wC bx:=⟨fun a b=>(wC.lt a.vk b.vk||(decide (a.vk=b.vk)&&(wC.lt a.sc b.sc||(decide (a.sc=b.sc)&&false))))⟩
structure aZ where
 Name:ax
 Value:ax
deriving DecidableEq,Inhabited
def aZ.av (x:aZ):AV:=.agg [.str x.Name,.str x.Value]
structure gh where
 Key:ax
 Model:ax
 aK:ax
 ak:Version
 bn:List aZ
deriving DecidableEq,Inhabited
structure Term where
 Key:ax
 gn:Int
 To:Int
deriving DecidableEq,Inhabited
def Term.av (x:Term):AV:=.agg [.str x.Key,I x.gn,I x.To]
structure aX where
 Device:gh
 az:Int
 State:Int
 aY:List Term
deriving DecidableEq,Inhabited
structure aJ where
 cx:List (ax×Int)
 bW:List (bx×Bool)
 cX:List (ax×ax)
 fa:List aX
deriving DecidableEq,Inhabited
structure bd where
 Event:Int
 Ru:Int
deriving DecidableEq,Inhabited
def bd.av (x:bd):AV:=.agg [I x.Event,I x.Ru]
def ti (n2:Int):Option Int:=
 some n2
def Below (ae:Int) (ai:Int):Option Int:=
 if ai < (1:Int) then
  some (0:Int)
 else
  (rem ae ai).bind fun n1=>
  if n1 < (0:Int) then
   ti (aU (n1+ai))
  else
   ti n1
def dJ (ae:an) (ai:Int):Option (Int×an):=
 if (ae.L.length:Int)=(0:Int) then
  (Below (aU ((aU (ae.at_+(1:Int))) * (7919:Int))) ai).bind fun v1=>
  some (v1,(⟨ae.L,aU (ae.at_+(1:Int))⟩:an))
 else
  (rem (aU ((aU (ae.at_+(1:Int))) - (1:Int))) (ae.L.length:Int)).bind fun n2=>
  (quo (aU ((aU (ae.at_+(1:Int))) - (1:Int))) (ae.L.length:Int)).bind fun n3=>
  (idx ae.L n2).bind fun v4=>
  (Below v4 (1073741824:Int)).bind fun v5=>
  (Below (aU (v5+(aU (n3 * (aU ((7919:Int)+n2)))))) ai).bind fun v6=>
  some (v6,(⟨ae.L,aU (ae.at_+(1:Int))⟩:an))
def bI (ae:an) (ai:List ax):Option (ax×an):=
 (dJ ae (ai.length:Int)).bind fun v1=>
 (idx ai v1.1).bind fun v2=>
 some (v2,v1.2)
def iX (ae:an):Option ((Model×Model)×an):=
 (bI ae [([65,66,67]:ax),([88,89]:ax),([90,90,90,90]:ax)]).bind fun v2=>
 some (((⟨([109,97]:ax),([65,66]:ax),[(⟨([97]:ax),(2:Int),(-5:Int),(50:Int)⟩:aL),(⟨([98]:ax),(3:Int),(0:Int),(0:Int)⟩:aL),(⟨([102,97,110,46,111,110]:ax),(1:Int),(0:Int),(0:Int)⟩:aL)]⟩:Model),(⟨([109,98]:ax),v2.1,[(⟨([97]:ax),(1:Int),(0:Int),(0:Int)⟩:aL)]⟩:Model)),v2.2)
def ia (ae:an) (ai:Int):Option (Bool×an):=
 (dJ ae ai).bind fun v1=>
 some (decide (v1.1=(0:Int)),v1.2)
def cS (ae:an) (ai:List Int):Option (Int×an):=
 (dJ ae (ai.length:Int)).bind fun v1=>
 (idx ai v1.1).bind fun v2=>
 some (v2,v1.2)
def jV (ae:an) (ai:Int) (ao:Int):Option (Int×an):=
 if ao < ai then
  some (ai,ae)
 else
  (dJ ae (aU ((aU (ao - ai))+(1:Int)))).bind fun v1=>
  some (aU (ai+v1.1),v1.2)
def fj (ae:an) (ai:Int) (ao:Int):Option (Int×an):=
 (ia ae (12:Int)).bind fun v1=>
 if v1.1=true then
  (cS v1.2 [aU (ai - (1:Int)),aU (ao+(1:Int)),ai,ao,(-1099511627776:Int),(1099511627776:Int)]).bind fun v2=>
  some (v2.1,v2.2)
 else
  (jV v1.2 ai ao).bind fun v3=>
  some (v3.1,v3.2)
def iR (l7:List Int) (n8:Int) (l10:List Model):Option ((List Model)×an):=
 some (l10,(⟨l7,n8⟩:an))
def j9 (Ai:List Int) (n14:Int) (Bb:List Model):Option ((List Model)×an):=
 iR Ai n14 Bb
def kc (vV:List Int) (n19:Int) (Ef:List Model):Option ((List Model)×an):=
 j9 vV n19 Ef
def kd (On:List Int) (n24:Int) (yn:List Model):Option ((List Model)×an):=
 kc On n24 yn
def ke (Oo:List Int) (n32:Int) (Dy:List Model):Option ((List Model)×an):=
 kd Oo n32 Dy
def kf (Oq:List Int) (n43:Int) (Nv:List Model):Option ((List Model)×an):=
 iR Oq n43 Nv
def kh (wE:List Int) (n48:Int) (zV:List Model):Option ((List Model)×an):=
 kf wE n48 zV
def ki (Ot:List Int) (Ou:Int) (Nw:List Model):Option ((List Model)×an):=
 kh Ot Ou Nw
def kj (Ov:List Int) (n61:Int) (Nx:List Model):Option ((List Model)×an):=
 ki Ov n61 Nx
def mW (ae:an):Option ((List Model)×an):=
 (iX ae).bind fun v1=>
 (ia v1.2 (15:Int)).bind fun v6=>
 if v6.1=true then
  (dJ v6.2 (2:Int)).bind fun v11=>
  if v11.1=(0:Int) then
   (dJ v11.2 (5:Int)).bind fun v12=>
   if v12.1=(0:Int) then
    (bI v12.2 [([]:ax),([109,97]:ax),([65]:ax)]).bind fun v17=>
    j9 v17.2.L v17.2.at_ [(⟨v17.1,v1.1.1.Prefix,v1.1.1.ba⟩:Model),v1.1.2]
   else
    if v12.1=(1:Int) then
     (bI v12.2 [([65]:ax),([65,66,67,68,69]:ax),([97,98]:ax),([65,66]:ax),([65,49]:ax)]).bind fun v22=>
     kc v22.2.L v22.2.at_ [(⟨v1.1.1.Key,v22.1,v1.1.1.ba⟩:Model),v1.1.2]
    else
     if v12.1=(2:Int) then
      (bI v12.2 [([122,122]:ax),([97]:ax),([97,46,46,98]:ax),([65]:ax),([97,46,98,46,99,46,100,46,101,46,102]:ax)]).bind fun Bc=>
      (fj Bc.2 (1:Int) (3:Int)).bind fun v28=>
      (app v1.1.1.ba [(⟨Bc.1,v28.1,(0:Int),(0:Int)⟩:aL)]).bind fun oN=>
      kd v28.2.L v28.2.at_ [(⟨v1.1.1.Key,v1.1.1.Prefix,oN⟩:Model),v1.1.2]
     else
      if v12.1=(3:Int) then
       (fj v12.2 (-3:Int) (3:Int)).bind fun v35=>
       (fj v35.2 (-3:Int) (3:Int)).bind fun B5=>
       (idx v1.1.1.ba (0:Int)).bind fun v37=>
       (idx (v1.1.1.ba.set (0:Int).toNat (⟨v37.Name,v37.Kind,v35.1,v37.iA⟩:aL)) (0:Int)).bind fun aD=>
       ke B5.2.L B5.2.at_ [(⟨v1.1.1.Key,v1.1.1.Prefix,(v1.1.1.ba.set (0:Int).toNat (⟨v37.Name,v37.Kind,v35.1,v37.iA⟩:aL)).set (0:Int).toNat (⟨aD.Name,aD.Kind,aD.vj,B5.1⟩:aL)⟩:Model),v1.1.2]
      else
       (app [v1.1.1,v1.1.2] [(⟨([109,122]:ax),([81,81]:ax),[]⟩:Model)]).bind fun JQ=>
       ke v12.2.L v12.2.at_ JQ
  else
   if v11.1=(1:Int) then
    (dJ v11.2 (5:Int)).bind fun v41=>
    if v41.1=(0:Int) then
     (bI v41.2 [([]:ax),([109,97]:ax),([65]:ax)]).bind fun v46=>
     kf v46.2.L v46.2.at_ [v1.1.1,(⟨v46.1,v1.1.2.Prefix,v1.1.2.ba⟩:Model)]
    else
     if v41.1=(1:Int) then
      (bI v41.2 [([65]:ax),([65,66,67,68,69]:ax),([97,98]:ax),([65,66]:ax),([65,49]:ax)]).bind fun v51=>
      kh v51.2.L v51.2.at_ [v1.1.1,(⟨v1.1.2.Key,v51.1,v1.1.2.ba⟩:Model)]
     else
      if v41.1=(2:Int) then
       (bI v41.2 [([122,122]:ax),([97]:ax),([97,46,46,98]:ax),([65]:ax),([97,46,98,46,99,46,100,46,101,46,102]:ax)]).bind fun IU=>
       (fj IU.2 (1:Int) (3:Int)).bind fun FX=>
       (app v1.1.2.ba [(⟨IU.1,FX.1,(0:Int),(0:Int)⟩:aL)]).bind fun Mj=>
       ki FX.2.L FX.2.at_ [v1.1.1,(⟨v1.1.2.Key,v1.1.2.Prefix,Mj⟩:Model)]
      else
       if v41.1=(3:Int) then
        (fj v41.2 (-3:Int) (3:Int)).bind fun v64=>
        (fj v64.2 (-3:Int) (3:Int)).bind fun B6=>
        (idx v1.1.2.ba (0:Int)).bind fun v66=>
        (idx (v1.1.2.ba.set (0:Int).toNat (⟨v66.Name,v66.Kind,v64.1,v66.iA⟩:aL)) (0:Int)).bind fun v67=>
        kj B6.2.L B6.2.at_ [v1.1.1,(⟨v1.1.2.Key,v1.1.2.Prefix,(v1.1.2.ba.set (0:Int).toNat (⟨v66.Name,v66.Kind,v64.1,v66.iA⟩:aL)).set (0:Int).toNat (⟨v67.Name,v67.Kind,v67.vj,B6.1⟩:aL)⟩:Model)]
       else
        (app [v1.1.1,v1.1.2] [(⟨([109,122]:ax),([81,81]:ax),[]⟩:Model)]).bind fun Tz=>
        kj v41.2.L v41.2.at_ Tz
   else
    none
 else
  iR v6.2.L v6.2.at_ [v1.1.1,v1.1.2]
def fq (ai:Int) (q7:ax) (uv:ax) (n14:Int) (n15:Int) (Qg:List Int) (Qh:Int) (Ny:Int) (Nz:ax) (NA:ax) (n59:Int) (Mk:ax) (Ml:ax) (n62:Int):Option (ab×an):=
 some ((⟨[],(0:Int),(0:Int),ai,Ny,Nz,q7,NA,n59,Mk,uv,Ml,n62,(⟨n14,n15,(0:Int)⟩:Version)⟩:ab),(⟨Qg,Qh⟩:an))
def gB (ai:Int) (q7:ax) (uv:ax) (n14:Int) (n15:Int) (Ow:List Int) (Ox:Int) (Oy:Int) (Oz:ax) (OA:ax) (n69:Int) (OB:ax) (OC:ax) (OD:Int):Option (ab×an):=
 fq ai q7 uv n14 n15 Ow Ox Oy Oz OA n69 OB OC OD
def gC (ai:Int) (v2:Int×an) (q7:ax) (uv:ax) (n14:Int) (n15:Int) (OE:List Int) (OF:Int) (OG:ax) (OH:ax) (OI:Int) (OJ:ax) (OK:ax) (OL:Int):Option (ab×an):=
 gB ai q7 uv n14 n15 OE OF v2.1 OG OH OI OJ OK OL
def gD (ai:Int) (v2:Int×an) (v3:ax×an) (q7:ax) (q8:ax) (uv:ax) (n14:Int) (n15:Int) (OM:List Int) (ON:Int) (OO:Int) (OP:ax) (OQ:ax) (OR:Int):Option (ab×an):=
 gC ai v2 q7 uv n14 n15 OM ON v3.1 q8 OO OP OQ OR
def ft (ai:Int) (v2:Int×an) (v3:ax×an) (l5:List Int) (n6:Int) (q7:ax) (q8:ax) (n9:Int) (zW:ax) (uv:ax) (zX:ax) (n13:Int) (n14:Int) (n15:Int):Option (ab×an):=
 (ia (⟨l5,n6⟩:an) (40:Int)).bind fun v53=>
 if v53.1=true then
  (dJ v53.2 (4:Int)).bind fun Mm=>
  if Mm.1=(0:Int) then
   (fj Mm.2 (1:Int) (9:Int)).bind fun NB=>
   gB ai q7 uv n14 n15 NB.2.L NB.2.at_ NB.1 v3.1 q8 n9 zW zX n13
  else
   if Mm.1=(1:Int) then
    (bI Mm.2 [([]:ax),([65]:ax),([100,97]:ax)]).bind fun v82=>
    (bI v82.2 [([]:ax),([116]:ax)]).bind fun NC=>
    gC ai v2 q7 uv n14 n15 NC.2.L NC.2.at_ v82.1 NC.1 n9 zW zX n13
   else
    if Mm.1=(2:Int) then
     (fj Mm.2 (1:Int) (99999999:Int)).bind fun Rv=>
     (fj Rv.2 (0:Int) (345686400000:Int)).bind fun v91=>
     gD ai v2 v3 q7 q8 uv n14 n15 v91.2.L v91.2.at_ Rv.1 zW zX v91.1
    else
     (bI Mm.2 [([]:ax),([71]:ax),([48,97]:ax)]).bind fun Rw=>
     (bI Rw.2 [([]:ax),([32,120]:ax),([120]:ax)]).bind fun v93=>
     gD ai v2 v3 q7 q8 uv n14 n15 v93.2.L v93.2.at_ n9 Rw.1 v93.1 n13
 else
  fq ai q7 uv n14 n15 v53.2.L v53.2.at_ v2.1 v3.1 q8 n9 zW zX n13
def gE (ai:Int) (v2:Int×an) (v3:ax×an) (GS:List Int) (n20:Int) (OS:ax) (OT:ax) (OU:ax) (OV:ax) (n25:Int) (n26:Int) (n27:Int):Option (ab×an):=
 ft ai v2 v3 GS n20 [] OS (0:Int) OT OU OV n25 n26 n27
def gG (ai:Int) (v2:Int×an) (v3:ax×an) (oN:List Int) (n30:Int) (OW:ax) (OX:ax) (OY:ax) (n34:Int) (n35:Int) (n36:Int):Option (ab×an):=
 gE ai v2 v3 oN n30 [] OW OX OY n34 n35 n36
def gH (ai:Int) (v2:Int×an) (v3:ax×an) (JQ:List Int) (n40:Int) (OZ:ax) (GU:ax) (n43:Int) (n44:Int):Option (ab×an):=
 gG ai v2 v3 JQ n40 [] OZ GU (0:Int) n43 n44
def gI (ai:Int) (v2:Int×an) (v3:ax×an) (wE:List Int) (n48:Int) (O0:ax) (O1:ax):Option (ab×an):=
 gH ai v2 v3 wE n48 O0 O1 (0:Int) (0:Int)
def im (ae:an) (ai:Int):Option (ab×an):=
 (cS ae [(1:Int),(1:Int),(2:Int),(2:Int),(3:Int),(4:Int),(5:Int),(6:Int),(6:Int),(7:Int),(8:Int),(9:Int)]).bind fun v2=>
 (bI v2.2 [([100,97]:ax),([100,97]:ax),([100,98]:ax),([100,99]:ax)]).bind fun v3=>
 if v2.1=(1:Int) then
  (bI v3.2 [([109,97]:ax),([109,97]:ax),([109,98]:ax)]).bind fun qL=>
  (cS qL.2 [(1:Int),(2:Int),(3:Int)]).bind fun v17=>
  (bI v17.2 [([48,97]:ax),([48,98]:ax),([48,99]:ax)]).bind fun Hp=>
  ft ai v2 v3 Hp.2.L Hp.2.at_ qL.1 [] v17.1 Hp.1 [] [] (0:Int) (0:Int) (0:Int)
 else
  if v2.1=(2:Int) then
   (bI v3.2 [([116,97]:ax),([116,97]:ax),([116,98]:ax),([116,99]:ax)]).bind fun v28=>
   gE ai v2 v3 v28.2.L v28.2.at_ v28.1 [] [] [] (0:Int) (0:Int) (0:Int)
  else
   if v2.1=(4:Int) then
    (bI v3.2 [([48,97]:ax),([49,97]:ax),([49,98]:ax),([49,99]:ax)]).bind fun v37=>
    (cS v37.2 [(0:Int),(5:Int),(50:Int),(1000:Int)]).bind fun aD=>
    gG ai v2 v3 aD.2.L aD.2.at_ v37.1 [] [] (aU (ai+aD.1)) (0:Int) (0:Int)
   else
    if v2.1=(5:Int) then
     (cS v3.2 [(0:Int),(1:Int),(1:Int)]).bind fun v45=>
     (cS v45.2 [(0:Int),(2:Int)]).bind fun v46=>
     gH ai v2 v3 v46.2.L v46.2.at_ [] [] v45.1 v46.1
    else
     if v2.1=(6:Int) then
      (bI v3.2 [([115,105,116,101]:ax),([115,105,116,101]:ax),([111,112,101,110]:ax)]).bind fun v51=>
      (bI v51.2 [([120]:ax),([121]:ax),([97,32,98]:ax),([]:ax)]).bind fun ND=>
      gI ai v2 v3 ND.2.L ND.2.at_ v51.1 ND.1
     else
      gI ai v2 v3 v3.2.L v3.2.at_ [] []
def cmp_isNaN_int (ae:Int):Bool:=
 decide (ae≠ae)
def cmp_Compare_int (ae:Int) (ai:Int):Int:=
 if (cmp_isNaN_int ae)=true then
  if (cmp_isNaN_int ai)=true then
   (0:Int)
  else
   (-1:Int)
 else
  if (cmp_isNaN_int ai)=true then
   (1:Int)
  else
   if ae < ai then
    (-1:Int)
   else
    if ai < ae then
     (1:Int)
    else
     (0:Int)
def oh (ae:List Int) (n2:Int):Option (Int⊕Int):=
 if n2 < (ae.length:Int) then
  (idx ae n2).bind fun v3=>
  if v3≠(0:Int) then
   Option.map .inr (some v3)
  else
   some (.inl (aU (n2+(1:Int))))
 else
  Option.map .inr (some (0:Int))
def Aj (ae:List Int) (n2:Int):Option Int:=
 iter (fun x:Int=>oh ae x) n2
def pG (ae:List Int):Option Int:=
 Aj ae (0:Int)
def lx (ae:ab) (ai:ab):Option Int:=
 (pG [(cmp_Compare_int ae.aO ai.aO),(Lib.compareBytes ae.cj ai.cj),(cmp_Compare_int ae.No ai.No)]).bind fun v3=>
 some v3
def cG (n4:Int) (l7:List ab) (n8:Int) (c9:Bool):Option (((List ab)×Int)⊕(((List ab)×Int)⊕(List ab))):=
 if c9=true then
  (idx l7 (aU (n8 - (1:Int)))).bind fun xH=>
  (idx l7 n8).bind fun sv=>
  (idx l7 n8).bind fun pH=>
  (idx (l7.set n8.toNat xH) (aU (n8 - (1:Int)))).bind fun qL=>
  some (.inl ((l7.set n8.toNat xH).set (aU (n8 - (1:Int))).toNat sv,aU (n8 - (1:Int))))
 else
  Option.map .inr (some (.inl (l7,aU (n4+(1:Int)))))
def cH (ai:Int) (lp:ab→ab→Option Int) (n4:Int) (l7:List ab) (n8:Int):Option (((List ab)×Int)⊕(((List ab)×Int)⊕(List ab))):=
 if ai < n8 then
  (idx l7 n8).bind fun v10=>
  (idx l7 (aU (n8 - (1:Int)))).bind fun v11=>
  (lp v10 v11).bind fun v12=>
  cG n4 l7 n8 (decide (v12 < (0:Int)))
 else
  cG n4 l7 n8 false
def lQ (ai:Int) (lp:ab→ab→Option Int) (n4:Int) (l7:List ab) (n8:Int):Option (((List ab)×Int)⊕(List ab)):=
 iter (fun x:(List ab)×Int=>cH ai lp n4 x.1 x.2) (l7,n8)
def bX (ai:Int) (ao:Int) (lp:ab→ab→Option Int) (l3:List ab) (n4:Int):Option (((List ab)×Int)⊕(List ab)):=
 if n4 < ao then
  lQ ai lp n4 l3 n4
 else
  Option.map .inr (some l3)
def gJ (ai:Int) (ao:Int) (lp:ab→ab→Option Int) (l3:List ab) (n4:Int):Option (List ab):=
 iter (fun x:(List ab)×Int=>bX ai ao lp x.1 x.2) (l3,n4)
def bC (ae:List ab) (ai:Int) (ao:Int) (lp:ab→ab→Option Int):Option (List ab):=
 gJ ai ao lp ae (aU (ai+(1:Int)))
def dn (ai:Int) (ao:Int) (bD:Int) (l3:List ab) (n4:Int):Option (((List ab)×Int)⊕(List ab)):=
 if n4 < bD then
  (idx l3 (aU (ao+n4))).bind fun v5=>
  (idx l3 (aU (ai+n4))).bind fun v6=>
  (idx l3 (aU (ai+n4))).bind fun v7=>
  (idx (l3.set (aU (ai+n4)).toNat v5) (aU (ao+n4))).bind fun v8=>
  some (.inl ((l3.set (aU (ai+n4)).toNat v5).set (aU (ao+n4)).toNat v6,aU (n4+(1:Int))))
 else
  Option.map .inr (some l3)
def mX (ai:Int) (ao:Int) (bD:Int) (l3:List ab) (n4:Int):Option (List ab):=
 iter (fun x:(List ab)×Int=>dn ai ao bD x.1 x.2) (l3,n4)
def cT (ae:List ab) (ai:Int) (ao:Int) (bD:Int) (jL:ab→ab→Option Int):Option (List ab):=
 mX ai ao bD ae (0:Int)
def ed (l7:List ab) (n8:Int) (n9:Int):Option (((List ab)×Int×Int)⊕(List ab)):=
 some (.inl (l7,n8,n9))
def jM (ao:Int) (jL:ab→ab→Option Int) (l4:List ab) (n5:Int):Option (List ab):=
 (lX l4.length (fun r:(List ab)=>r.length) (cT l4 (aU (ao - n5)) ao n5 jL)).bind fun v12=>
 some v12
def ee (ao:Int) (jL:ab→ab→Option Int) (l4:List ab) (n5:Int) (n6:Int):Option (((List ab)×Int×Int)⊕(List ab)):=
 if n5≠n6 then
  if n6 < n5 then
   (lX l4.length (fun r:(List ab)=>r.length) (cT l4 (aU (ao - n5)) ao n6 jL)).bind fun v10=>
   ed v10 (aU (n5 - n6)) n6
  else
   (lX l4.length (fun r:(List ab)=>r.length) (cT l4 (aU (ao - n5)) (aU ((aU (ao+n6)) - n5)) n5 jL)).bind fun v11=>
   ed v11 n5 (aU (n6 - n5))
 else
  Option.map .inr (jM ao jL l4 n5)
def oz (ao:Int) (jL:ab→ab→Option Int) (l4:List ab) (n5:Int) (n6:Int):Option (List ab):=
 iter (fun x:(List ab)×Int×Int=>ee ao jL x.1 x.2.1 x.2.2) (l4,n5,n6)
def iB (ae:List ab) (ai:Int) (ao:Int) (bD:Int) (jL:ab→ab→Option Int):Option (List ab):=
 oz ao jL ae (aU (ao - ai)) (aU (bD - ao))
def du (n8:Int) (n9:Int):Option ((Int×Int)⊕(List ab)):=
 some (.inl (n8,n9))
def dv (n3:Int) (tj:List ab) (n13:Int):Option (((List ab)×Int)⊕(List ab)):=
 if n13 < (aU (n3 - (1:Int))) then
  (idx tj (aU (n13+(1:Int)))).bind fun sv=>
  (idx tj n13).bind fun pH=>
  (idx tj n13).bind fun qL=>
  (idx (tj.set n13.toNat sv) (aU (n13+(1:Int)))).bind fun v17=>
  some (.inl ((tj.set n13.toNat sv).set (aU (n13+(1:Int))).toNat pH,aU (n13+(1:Int))))
 else
  Option.map .inr (some tj)
def nx (n3:Int) (tj:List ab) (n13:Int):Option (List ab):=
 iter (fun x:(List ab)×Int=>dv n3 x.1 x.2) (tj,n13)
def dw (ae:List ab) (ai:Int) (jL:ab→ab→Option Int) (n3:Int) (n4:Int):Option ((Int×Int)⊕(List ab)):=
 if n3 < n4 then
  (idx ae (aU (eJ .u64 (IntKind.u64.wrap (aU (n3+n4))) (1:Int)))).bind fun v5=>
  (idx ae ai).bind fun v6=>
  (jL v5 v6).bind fun v7=>
  if v7 < (0:Int) then
   du (aU ((aU (eJ .u64 (IntKind.u64.wrap (aU (n3+n4))) (1:Int)))+(1:Int))) n4
  else
   du n3 (aU (eJ .u64 (IntKind.u64.wrap (aU (n3+n4))) (1:Int)))
 else
  Option.map .inr (nx n3 ae ai)
def ny (ae:List ab) (ai:Int) (jL:ab→ab→Option Int) (n3:Int) (n4:Int):Option (List ab):=
 iter (fun x:Int×Int=>dw ae ai jL x.1 x.2) (n3,n4)
def dx (n25:Int) (n26:Int):Option ((Int×Int)⊕(List ab)):=
 some (.inl (n25,n26))
def dz (n20:Int) (oN:List ab) (n30:Int):Option (((List ab)×Int)⊕(List ab)):=
 if n20 < n30 then
  (idx oN (aU (n30 - (1:Int)))).bind fun v31=>
  (idx oN n30).bind fun v32=>
  (idx oN n30).bind fun v33=>
  (idx (oN.set n30.toNat v31) (aU (n30 - (1:Int)))).bind fun v34=>
  some (.inl ((oN.set n30.toNat v31).set (aU (n30 - (1:Int))).toNat v32,aU (n30 - (1:Int))))
 else
  Option.map .inr (some oN)
def nz (n20:Int) (oN:List ab) (n30:Int):Option (List ab):=
 iter (fun x:(List ab)×Int=>dz n20 x.1 x.2) (oN,n30)
def dA (ae:List ab) (ao:Int) (jL:ab→ab→Option Int) (n20:Int) (n21:Int):Option ((Int×Int)⊕(List ab)):=
 if n20 < n21 then
  (idx ae ao).bind fun v22=>
  (idx ae (aU (eJ .u64 (IntKind.u64.wrap (aU (n20+n21))) (1:Int)))).bind fun v23=>
  (jL v22 v23).bind fun v24=>
  if ¬ (v24 < (0:Int)) then
   dx (aU ((aU (eJ .u64 (IntKind.u64.wrap (aU (n20+n21))) (1:Int)))+(1:Int))) n21
  else
   dx n20 (aU (eJ .u64 (IntKind.u64.wrap (aU (n20+n21))) (1:Int)))
 else
  Option.map .inr (nz n20 ae ao)
def nA (ae:List ab) (ao:Int) (jL:ab→ab→Option Int) (n20:Int) (n21:Int):Option (List ab):=
 iter (fun x:Int×Int=>dA ae ao jL x.1 x.2) (n20,n21)
def dB (n44:Int) (n45:Int):Option ((Int×Int)⊕(List ab)):=
 some (.inl (n44,n45))
def dq (Qi:List ab):Option (List ab):=
 some Qi
def fC (self:(List ab)→Int→Int→Int→(ab→ab→Option Int)→Option (List ab)) (ai:Int) (ao:Int) (bD:Int) (jL:ab→ab→Option Int) (n39:Int) (zV:List ab) (Qj:Bool):Option (List ab):=
 if Qj=true then
  (lX zV.length (fun r:(List ab)=>r.length) (self zV (aU (eJ .u64 (IntKind.u64.wrap (aU (ai+bD))) (1:Int))) (aU ((aU ((aU (eJ .u64 (IntKind.u64.wrap (aU (ai+bD))) (1:Int)))+ao)) - n39)) bD jL)).bind fun v54=>
  dq v54
 else
  dq zV
def dC (self:(List ab)→Int→Int→Int→(ab→ab→Option Int)→Option (List ab)) (ai:Int) (ao:Int) (bD:Int) (jL:ab→ab→Option Int) (n39:Int) (zV:List ab):Option (List ab):=
 fC self ai ao bD jL n39 zV ((decide ((aU (eJ .u64 (IntKind.u64.wrap (aU (ai+bD))) (1:Int))) < (aU ((aU ((aU (eJ .u64 (IntKind.u64.wrap (aU (ai+bD))) (1:Int)))+ao)) - n39))))&&(decide ((aU ((aU ((aU (eJ .u64 (IntKind.u64.wrap (aU (ai+bD))) (1:Int)))+ao)) - n39)) < bD)))
def fD (self:(List ab)→Int→Int→Int→(ab→ab→Option Int)→Option (List ab)) (ai:Int) (ao:Int) (bD:Int) (jL:ab→ab→Option Int) (n39:Int) (wE:List ab) (c49:Bool):Option (List ab):=
 if c49=true then
  (lX wE.length (fun r:(List ab)=>r.length) (self wE ai n39 (aU (eJ .u64 (IntKind.u64.wrap (aU (ai+bD))) (1:Int))) jL)).bind fun v51=>
  dC self ai ao bD jL n39 v51
 else
  dC self ai ao bD jL n39 wE
def dD (self:(List ab)→Int→Int→Int→(ab→ab→Option Int)→Option (List ab)) (ai:Int) (ao:Int) (bD:Int) (jL:ab→ab→Option Int) (n39:Int) (wE:List ab):Option (List ab):=
 fD self ai ao bD jL n39 wE ((decide (ai < n39))&&(decide (n39 < (aU (eJ .u64 (IntKind.u64.wrap (aU (ai+bD))) (1:Int))))))
def fE (self:(List ab)→Int→Int→Int→(ab→ab→Option Int)→Option (List ab)) (ae:List ab) (ai:Int) (ao:Int) (bD:Int) (jL:ab→ab→Option Int) (n39:Int) (Qk:Bool):Option (List ab):=
 if Qk=true then
  (lX ae.length (fun r:(List ab)=>r.length) (iB ae n39 ao (aU ((aU ((aU (eJ .u64 (IntKind.u64.wrap (aU (ai+bD))) (1:Int)))+ao)) - n39)) jL)).bind fun Ql=>
  dD self ai ao bD jL n39 Ql
 else
  dD self ai ao bD jL n39 ae
def dE (self:(List ab)→Int→Int→Int→(ab→ab→Option Int)→Option (List ab)) (ae:List ab) (ai:Int) (ao:Int) (bD:Int) (jL:ab→ab→Option Int) (n39:Int) (n40:Int):Option ((Int×Int)⊕(List ab)):=
 if n39 < n40 then
  (idx ae (aU ((aU ((aU ((aU (eJ .u64 (IntKind.u64.wrap (aU (ai+bD))) (1:Int)))+ao)) - (1:Int))) - (aU (eJ .u64 (IntKind.u64.wrap (aU (n39+n40))) (1:Int)))))).bind fun v41=>
  (idx ae (aU (eJ .u64 (IntKind.u64.wrap (aU (n39+n40))) (1:Int)))).bind fun Ak=>
  (jL v41 Ak).bind fun XD=>
  if ¬ (XD < (0:Int)) then
   dB (aU ((aU (eJ .u64 (IntKind.u64.wrap (aU (n39+n40))) (1:Int)))+(1:Int))) n40
  else
   dB n39 (aU (eJ .u64 (IntKind.u64.wrap (aU (n39+n40))) (1:Int)))
 else
  Option.map .inr (fE self ae ai ao bD jL n39 ((decide (n39 < ao))&&(decide (ao < (aU ((aU ((aU (eJ .u64 (IntKind.u64.wrap (aU (ai+bD))) (1:Int)))+ao)) - n39))))))
def nB (self:(List ab)→Int→Int→Int→(ab→ab→Option Int)→Option (List ab)) (ae:List ab) (ai:Int) (ao:Int) (bD:Int) (jL:ab→ab→Option Int) (n39:Int) (n40:Int):Option (List ab):=
 iter (fun x:Int×Int=>dE self ae ai ao bD jL x.1 x.2) (n39,n40)
def dF (self:(List ab)→Int→Int→Int→(ab→ab→Option Int)→Option (List ab)) (ae:List ab) (ai:Int) (ao:Int) (bD:Int) (jL:ab→ab→Option Int) (n35:Int) (n36:Int):Option (List ab):=
 nB self ae ai ao bD jL n35 n36
def fF (self:(List ab)→Int→Int→Int→(ab→ab→Option Int)→Option (List ab)) (ae:List ab) (ai:Int) (ao:Int) (bD:Int) (jL:ab→ab→Option Int):Option (List ab):=
 if (aU (ao - ai))=(1:Int) then
  ny ae ai jL ao bD
 else
  if (aU (bD - ao))=(1:Int) then
   nA ae ao jL ai ao
  else
   if (aU (eJ .u64 (IntKind.u64.wrap (aU (ai+bD))) (1:Int))) < ao then
    dF self ae ai ao bD jL (aU ((aU ((aU (eJ .u64 (IntKind.u64.wrap (aU (ai+bD))) (1:Int)))+ao)) - bD)) (aU (eJ .u64 (IntKind.u64.wrap (aU (ai+bD))) (1:Int)))
   else
    dF self ae ai ao bD jL ai ao
def fJ:Nat→(List ab)→Int→Int→Int→(ab→ab→Option Int)→Option (List ab)
 | 0=>fun _ _ _ _ _=>none
 | k+1=>fF (fJ k)
def gp (ae:List ab) (ai:Int) (ao:Int) (bD:Int) (jL:ab→ab→Option Int):Option (List ab):=
 fJ depth ae ai ao bD jL
def eh (n12:Int) (B7:List ab):Option (((List ab)×Int)⊕(List ab)):=
 some (.inl (B7,aU (n12 * (2:Int))))
def jN (ai:Int) (qE:ab→ab→Option Int) (n12:Int) (Bb:List ab) (n17:Int):Option (((List ab)×Int)⊕(List ab)):=
 if (aU (n17+n12)) < ai then
  (lX Bb.length (fun r:(List ab)=>r.length) (gp Bb n17 (aU (n17+n12)) ai qE)).bind fun v21=>
  eh n12 v21
 else
  eh n12 Bb
def ei (ai:Int) (qE:ab→ab→Option Int) (n12:Int) (Bb:List ab) (n17:Int) (n18:Int):Option (((List ab)×Int×Int)⊕(((List ab)×Int)⊕(List ab))):=
 if n18≤ai then
  (lX Bb.length (fun r:(List ab)=>r.length) (gp Bb n17 (aU (n17+n12)) n18 qE)).bind fun JR=>
  some (.inl (JR,n18,aU (n18+(aU ((2:Int) * n12)))))
 else
  Option.map .inr (jN ai qE n12 Bb n17)
def oA (ai:Int) (qE:ab→ab→Option Int) (n12:Int) (Bb:List ab) (n17:Int) (n18:Int):Option (((List ab)×Int)⊕(List ab)):=
 iter (fun x:(List ab)×Int×Int=>ei ai qE n12 x.1 x.2.1 x.2.2) (Bb,n17,n18)
def ch (ai:Int) (qE:ab→ab→Option Int) (sF:List ab) (n12:Int):Option (((List ab)×Int)⊕(List ab)):=
 if n12 < ai then
  oA ai qE n12 sF (0:Int) (aU ((2:Int) * n12))
 else
  Option.map .inr (some sF)
def fV (ai:Int) (qE:ab→ab→Option Int) (sF:List ab) (n12:Int):Option (List ab):=
 iter (fun x:(List ab)×Int=>ch ai qE x.1 x.2) (sF,n12)
def ej (ai:Int) (qE:ab→ab→Option Int) (l4:List ab) (n5:Int):Option (List ab):=
 (lX l4.length (fun r:(List ab)=>r.length) (bC l4 n5 ai qE)).bind fun v8=>
 fV ai qE v8 (20:Int)
def bQ (ai:Int) (qE:ab→ab→Option Int) (l4:List ab) (n5:Int) (n6:Int):Option (((List ab)×Int×Int)⊕(List ab)):=
 if n6≤ai then
  (lX l4.length (fun r:(List ab)=>r.length) (bC l4 n5 n6 qE)).bind fun v7=>
  some (.inl (v7,n6,aU (n6+(20:Int))))
 else
  Option.map .inr (ej ai qE l4 n5)
def jO (ai:Int) (qE:ab→ab→Option Int) (l4:List ab) (n5:Int) (n6:Int):Option (List ab):=
 iter (fun x:(List ab)×Int×Int=>bQ ai qE x.1 x.2.1 x.2.2) (l4,n5,n6)
def dK (ae:List ab) (ai:Int) (qE:ab→ab→Option Int):Option (List ab):=
 jO ai qE ae (0:Int) (20:Int)
def ck (ae:List ab) (iF:ab→ab→Option Int):Option (List ab):=
 (lX ae.length (fun r:(List ab)=>r.length) (dK ae (ae.length:Int) iF)).bind fun v1=>
 some v1
def jv (Dy:List Int) (n35:Int) (ER:List ab):Option ((List ab)×an):=
 some (ER,(⟨Dy,n35⟩:an))
def iq (nu:(List ab)) (JS:List Int) (n31:Int) (Qm:Bool):Option ((List ab)×an):=
 if Qm=true then
  (dJ (⟨JS,n31⟩:an) (nu.length:Int)).bind fun v37=>
  (idx nu v37.1).bind fun aD=>
  (bI v37.2 [aD.cj,([]:ax),([104,122]:ax)]).bind fun v39=>
  (cS v39.2 [aD.No,(0:Int),(9:Int)]).bind fun v40=>
  (cS v40.2 [aD.aO,(0:Int),(1:Int)]).bind fun v41=>
  (cS v41.2 [aD.At,(-1:Int),(345686400000:Int)]).bind fun Ak=>
  jv Ak.2.L Ak.2.at_ ((((nu.set v37.1.toNat (⟨v39.1,aD.No,aD.aO,aD.At,aD.Kind,aD.Device,aD.Model,aD.aK,aD.az,aD.Key,aD.Name,aD.Value,aD.aW,aD.ak⟩:ab)).set v37.1.toNat (⟨v39.1,v40.1,aD.aO,aD.At,aD.Kind,aD.Device,aD.Model,aD.aK,aD.az,aD.Key,aD.Name,aD.Value,aD.aW,aD.ak⟩:ab)).set v37.1.toNat (⟨v39.1,v40.1,v41.1,aD.At,aD.Kind,aD.Device,aD.Model,aD.aK,aD.az,aD.Key,aD.Name,aD.Value,aD.aW,aD.ak⟩:ab)).set v37.1.toNat (⟨v39.1,v40.1,v41.1,Ak.1,aD.Kind,aD.Device,aD.Model,aD.aK,aD.az,aD.Key,aD.Name,aD.Value,aD.aW,aD.ak⟩:ab))
 else
  jv JS n31 nu
def ly (sF:List Int) (n12:Int) (vW:List ab):Option ((List ab)×an):=
 (lX vW.length (fun r:(List ab)=>r.length) (ck vW (fun y0 y1=>lx y0 y1))).bind fun nu=>
 if (0:Int) < (nu.length:Int) then
  (ia (⟨sF,n12⟩:an) (15:Int)).bind fun v33=>
  iq nu v33.2.L v33.2.at_ v33.1
 else
  iq nu sF n12 false
def jw (ai:Int) (sF:List Int) (n12:Int) (vW:List ab) (zY:List (ax×Int)) (n16:Int) (n17:Int) (n18:Int):Option (((List Int)×Int×(List ab)×(List (ax×Int))×Int×Int×Int)⊕((List ab)×an)):=
 if n18 < ai then
  (im (⟨sF,n12⟩:an) n17).bind fun v20=>
  (bI v20.2 [([104,97]:ax),([104,97]:ax),([104,98]:ax)]).bind fun v22=>
  (qn zY v22.1 (0:Int)).bind fun v23=>
  (qn (gm zY v22.1 (aU (v23+(1:Int)))) v22.1 (0:Int)).bind fun v24=>
  (cS v22.2 [(0:Int),(1:Int),(1:Int),(2:Int)]).bind fun v25=>
  (app vW [(⟨v22.1,v24,max (max (aU (n16+v25.1)) v24) (1:Int),v20.1.At,v20.1.Kind,v20.1.Device,v20.1.Model,v20.1.aK,v20.1.az,v20.1.Key,v20.1.Name,v20.1.Value,v20.1.aW,v20.1.ak⟩:ab)]).bind fun yn=>
  (cS v25.2 [(0:Int),(1:Int),(5:Int),(20:Int)]).bind fun v28=>
  some (.inl (v28.2.L,v28.2.at_,yn,gm zY v22.1 (aU (v23+(1:Int))),max (max (aU (n16+v25.1)) v24) (1:Int),aU (n17+v28.1),aU (n18+(1:Int))))
 else
  Option.map .inr (ly sF n12 vW)
def rj (ai:Int) (sF:List Int) (n12:Int) (vW:List ab) (zY:List (ax×Int)) (n16:Int) (n17:Int) (n18:Int):Option ((List ab)×an):=
 iter (fun x:(List Int)×Int×(List ab)×(List (ax×Int))×Int×Int×Int=>jw ai x.1 x.2.1 x.2.2.1 x.2.2.2.1 x.2.2.2.2.1 x.2.2.2.2.2.1 x.2.2.2.2.2.2) (sF,n12,vW,zY,n16,n17,n18)
def lZ (ae:an) (ai:Int):Option ((List ab)×an):=
 (dJ ae (10:Int)).bind fun v2=>
 rj ai v2.2.L v2.2.at_ [] [] (0:Int) v2.1 (0:Int)
def qo (n5:Int) (c7:Bool):Option (Int⊕Bool):=
 if c7=true then
  Option.map .inr (some false)
 else
  some (.inl (aU (n5+(1:Int))))
def kU (ae:ax) (n5:Int):Option (Int⊕Bool):=
 if n5 < (ae.length:Int) then
  (idx ae n5).bind fun c6=>
  qo n5 (if (97:Int)≤(c6.toNat:Int) then if (c6.toNat:Int)≤(122:Int) then !true else if (48:Int)≤(c6.toNat:Int) then if (c6.toNat:Int)≤(57:Int) then !true else if (c6.toNat:Int)=(45:Int) then !true else decide (¬ ((c6.toNat:Int)=(95:Int))) else if (c6.toNat:Int)=(45:Int) then !true else decide (¬ ((c6.toNat:Int)=(95:Int))) else if (48:Int)≤(c6.toNat:Int) then if (c6.toNat:Int)≤(57:Int) then !true else if (c6.toNat:Int)=(45:Int) then !true else decide (¬ ((c6.toNat:Int)=(95:Int))) else if (c6.toNat:Int)=(45:Int) then !true else decide (¬ ((c6.toNat:Int)=(95:Int))))
 else
  Option.map .inr (some true)
def tp (ae:ax) (n5:Int):Option Bool:=
 iter (fun x:Int=>kU ae x) n5
def kV (ae:ax) (c1:Bool):Option Bool:=
 if c1=true then
  some false
 else
  tp ae (0:Int)
def l0 (ae:ax):Option Bool:=
 if ae=([]:ax) then
  kV ae true
 else
  if (40:Int) < (ae.length:Int) then
   kV ae true
  else
   (idx ae (0:Int)).bind fun c2=>
   if (c2.toNat:Int) < (97:Int) then
    kV ae true
   else
    (idx ae (0:Int)).bind fun c3=>
    kV ae (decide ((122:Int) < (c3.toNat:Int)))
def tq (c1:Bool):Bool:=
 c1
def eC (ae:Int) (ai:Int) (ao:Int):Bool:=
 tq ((decide (ae < ai))||(decide (ao < ae)))
def iC (c1:Bool):Option Bool:=
 some c1
def ko (ae:ax):Option Bool:=
 if (!(eC (ae.length:Int) (2:Int) (4:Int)))=true then
  (uK ae ([65,66,67,68,69,70,71,72,73,74,75,76,77,78,79,80,81,82,83,84,85,86,87,88,89,90]:ax)).bind fun v2=>
  iC (decide (v2=([]:ax)))
 else
  iC false
def iG (ae:Model) (ai:Model):Bool:=
 decide (ae.Prefix=ai.Prefix)
def dG (ae:List Model) (iF:Model→Option Bool) (n2:Int):Option (Int⊕Int):=
 if n2 < (ae.length:Int) then
  (idx ae n2).bind fun v3=>
  (iF v3).bind fun v4=>
  if v4=true then
   Option.map .inr (some n2)
  else
   some (.inl (aU (n2+(1:Int))))
 else
  Option.map .inr (some (-1:Int))
def nC (ae:List Model) (iF:Model→Option Bool) (n2:Int):Option Int:=
 iter (fun x:Int=>dG ae iF x) n2
def bL (ae:List Model) (iF:Model→Option Bool):Option Int:=
 nC ae iF (0:Int)
def cA (ae:List Model) (iF:Model→Option Bool):Option Bool:=
 (bL ae iF).bind fun v1=>
 some (decide ((0:Int)≤v1))
def fW (ai:Int) (q3:ax) (n4:Int):Option ((ax×Int)⊕Bool):=
 if n4 < ai then
  (IP q3 ([46]:ax)).bind fun v5=>
  (l0 v5.1).bind fun v6=>
  if (!v6)=true then
   Option.map .inr (some false)
  else
   if (!v5.2.2)=true then
    Option.map .inr (some true)
   else
    some (.inl (v5.2.1,aU (n4+(1:Int))))
 else
  Option.map .inr (some false)
def mY (ai:Int) (q3:ax) (n4:Int):Option Bool:=
 iter (fun x:ax×Int=>fW ai x.1 x.2) (q3,n4)
def qp (ae:ax) (ai:Int):Option Bool:=
 mY ai ae (0:Int)
def jx (c1:Bool):Option Bool:=
 some c1
def l6 (ae:ax):Option Bool:=
 if (ae.length:Int)≤(40:Int) then
  (qp ae (5:Int)).bind fun v2=>
  jx v2
 else
  jx false
def iY (n2:Int) (c9:Bool):Option (Int⊕Int):=
 if c9=true then
  Option.map .inr (some (3:Int))
 else
  some (.inl (aU (n2+(1:Int))))
def iZ (n2:Int) (v3:aL) (c8:Bool):Option (Int⊕Int):=
 if c8=true then
  Option.map .inr (some (1:Int))
 else
  iY n2 ((decide (¬ (v3.Kind=(2:Int))))&&((decide (v3.vj≠(0:Int)))||(decide (v3.iA≠(0:Int)))))
def eK (n2:Int) (v3:aL) (c6:Bool):Option (Int⊕Int):=
 if c6=true then
  Option.map .inr (some (7:Int))
 else
  if (eC v3.Kind (1:Int) (3:Int))=true then
   Option.map .inr (some (4:Int))
  else
   iZ n2 v3 ((decide (v3.Kind=(2:Int)))&&((eC v3.vj (-1000000000:Int) v3.iA)||(decide ((1000000000:Int) < v3.iA))))
def cU (ae:List aL) (n2:Int):Option (Int⊕Int):=
 if n2 < (ae.length:Int) then
  (idx ae n2).bind fun v3=>
  (l6 v3.Name).bind fun v5=>
  if (!v5)=true then
   Option.map .inr (some (5:Int))
  else
   if (0:Int) < n2 then
    (idx ae (aU (n2 - (1:Int)))).bind fun v7=>
    eK n2 v3 (Op.bytesLess v3.Name v7.Name||v3.Name==v7.Name)
   else
    eK n2 v3 false
 else
  Option.map .inr (some (0:Int))
def oB (ae:List aL) (n2:Int):Option Int:=
 iter (fun x:Int=>cU ae x) n2
def ja (ae:List aL):Option Int:=
 oB ae (0:Int)
def er (ae:List Model) (n2:Int) (v3:Model) (c6:Bool):Option (Int⊕Int):=
 if c6=true then
  Option.map .inr (some (7:Int))
 else
  (ko v3.Prefix).bind fun v8=>
  if (!v8)=true then
   Option.map .inr (some (3:Int))
  else
   (yN ae (0:Int) n2).bind fun l9=>
   (cA l9 (fun y0=>some (iG y0 v3))).bind fun v10=>
   if v10=true then
    Option.map .inr (some (6:Int))
   else
    if (50:Int) < (v3.ba.length:Int) then
     Option.map .inr (some (2:Int))
    else
     (ja v3.ba).bind fun v11=>
     if v11≠(0:Int) then
      Option.map .inr (some v11)
     else
      some (.inl (aU (n2+(1:Int))))
def cF (ae:List Model) (n2:Int):Option (Int⊕Int):=
 if n2 < (ae.length:Int) then
  (idx ae n2).bind fun v3=>
  (l0 v3.Key).bind fun v5=>
  if (!v5)=true then
   Option.map .inr (some (5:Int))
  else
   if (0:Int) < n2 then
    (idx ae (aU (n2 - (1:Int)))).bind fun v7=>
    er ae n2 v3 (Op.bytesLess v3.Key v7.Key||v3.Key==v7.Key)
   else
    er ae n2 v3 false
 else
  Option.map .inr (some (0:Int))
def nF (ae:List Model) (n2:Int):Option Int:=
 iter (fun x:Int=>cF ae x) n2
def fK (ae:List Model):Option Int:=
 if (50:Int) < (ae.length:Int) then
  some (2:Int)
 else
  nF ae (0:Int)
def mG (ae:Int):Bool:=
 !(eC ae (0:Int) (345686399999:Int))
def gq (ae:Model) (ai:ax):Bool:=
 decide (ae.Key=ai)
def jW (ae:List Model) (ai:ax):Option Int:=
 (bL ae (fun y0=>some (gq y0 ai))).bind fun v2=>
 some v2
def fk (n2:Int):Int:=
 n2
def gS (ai:Int) (ao:Int) (c1:Bool):Int:=
 if c1=true then
  fk ai
 else
  fk ao
def aR (ae:Bool) (ai:Int) (ao:Int):Int:=
 gS ai ao (ae&&(decide (ao=(0:Int))))
def fI (c1:Bool):Option Bool:=
 some c1
def fL (ae:ax):Option Bool:=
 if (!(eC (ae.length:Int) (1:Int) (64:Int)))=true then
  (uK ae ([48,49,50,51,52,53,54,55,56,57,97,98,99,100,101,102]:ax)).bind fun v2=>
  fI (decide (v2=([]:ax)))
 else
  fI false
def mq (c2:Bool):Bool:=
 c2
def lz (ae:Version):Bool:=
 mq ((!(eC ae.dX (0:Int) (9999:Int)))&&((!(eC ae.dY (0:Int) (9999:Int)))&&(!(eC ae.dI (0:Int) (9999:Int)))))
def jy (n2:Int) (c3:Bool):Option (Int⊕Bool):=
 if c3=true then
  Option.map .inr (some false)
 else
  some (.inl (aU (n2+(1:Int))))
def nP (ae:ax):Option Bool:=
 (wW ae).bind fun v6=>
 some v6
def dQ (ae:ax) (n2:Int):Option (Int⊕Bool):=
 if n2 < (ae.length:Int) then
  (idx ae n2).bind fun c4=>
  if (c4.toNat:Int) < (32:Int) then
   jy n2 true
  else
   (idx ae n2).bind fun c5=>
   jy n2 (decide ((c5.toNat:Int)=(127:Int)))
 else
  Option.map .inr (nP ae)
def rk (ae:ax) (n2:Int):Option Bool:=
 iter (fun x:Int=>dQ ae x) n2
def l8 (ae:ax):Option Bool:=
 rk ae (0:Int)
def cm (c1:Bool):Option Bool:=
 some c1
def cL (ae:ax) (ai:ax):Option Bool:=
 if (ai.length:Int)≤(ae.length:Int) then
  (yN ae (0:Int) (ai.length:Int)).bind fun l2=>
  cm (decide (l2=ai))
 else
  cm false
def strings_HasPrefix (ae:ax) (ai:ax):Option Bool:=
 (cL ae ai).bind fun v1=>
 some v1
def cq (c1:Bool):Option Bool:=
 some c1
def cM (ae:ax) (ai:ax):Option Bool:=
 if (ai.length:Int)≤(ae.length:Int) then
  (yN ae (aU ((ae.length:Int) - (ai.length:Int))) (ae.length:Int)).bind fun l2=>
  cq (decide (l2=ai))
 else
  cq false
def strings_HasSuffix (ae:ax) (ai:ax):Option Bool:=
 (cM ae ai).bind fun v1=>
 some v1
def strings_Contains (ae:ax) (ai:ax):Option Bool:=
 (EO ae ai).bind fun v1=>
 some (decide ((0:Int)≤v1))
def ji (c1:Bool):Option Bool:=
 some c1
def pI (ae:ax):Option Bool:=
 (l8 ae).bind fun v2=>
 if v2=true then
  (strings_HasPrefix ae ([32]:ax)).bind fun v3=>
  if (!v3)=true then
   (strings_HasSuffix ae ([32]:ax)).bind fun v4=>
   if (!v4)=true then
    (strings_Contains ae ([32,32]:ax)).bind fun v5=>
    ji (!v5)
   else
    ji false
  else
   ji false
 else
  ji false
def cI (ai:ab) (q4:ax) (q5:ax) (n6:Int) (q7:ax) (q8:ax) (q9:ax) (n10:Int) (n11:Int) (n12:Int) (n13:Int) (n14:Int):Option (ab×Int):=
 some ((⟨ai.cj,ai.No,ai.aO,ai.At,ai.Kind,ai.Device,q4,q5,n6,q7,q8,q9,n10,(⟨n11,n12,n13⟩:Version)⟩:ab),n14)
def dh (ai:ab) (O2:ax) (O3:ax) (O4:ax) (O5:ax) (n21:Int) (n22:Int) (n23:Int) (n24:Int) (n25:Int):Option (ab×Int):=
 cI ai [] O2 (0:Int) O3 O4 O5 n21 n22 n23 n24 n25
def ea (ai:ab) (Mn:ax) (Mo:ax) (O6:ax) (n30:Int) (n31:Int) (n32:Int) (n33:Int) (n34:Int):Option (ab×Int):=
 dh ai [] Mn Mo O6 n30 n31 n32 n33 n34
def fu (ai:ab) (O7:ax) (O8:ax) (n38:Int) (n39:Int) (n40:Int) (n41:Int):Option (ab×Int):=
 ea ai [] O7 O8 (0:Int) n38 n39 n40 n41
def gK (ai:ab) (GU:ax) (O9:ax) (n44:Int):Option (ab×Int):=
 fu ai GU O9 (0:Int) (0:Int) (0:Int) n44
def gL (ai:ab) (n46:Int):Option (ab×Int):=
 gK ai ai.Name ai.Value n46
def jz (ae:List Model) (ai:ab):Option (ab×Int):=
 if ai.Kind=(1:Int) then
  (jW ae ai.Model).bind fun pH=>
  (fL ai.Key).bind fun qL=>
  cI ai ai.Model [] ai.az ai.Key [] [] (0:Int) (0:Int) (0:Int) (0:Int) (aR (!qL) (5:Int) (aR (eC ai.az (1:Int) (99999999:Int)) (1:Int) (aR (decide (pH < (0:Int))) (8:Int) (0:Int))))
 else
  if ai.Kind=(2:Int) then
   (l0 ai.aK).bind fun v26=>
   dh ai ai.aK [] [] [] (0:Int) (0:Int) (0:Int) (0:Int) (aR (!v26) (5:Int) (0:Int))
  else
   if ai.Kind=(4:Int) then
    (fL ai.Key).bind fun v35=>
    ea ai ai.Key [] [] ai.aW (0:Int) (0:Int) (0:Int) (aR (eC ai.aW ai.At (345686400000:Int)) (1:Int) (aR (!v35) (5:Int) (0:Int)))
   else
    if ai.Kind=(5:Int) then
     fu ai [] [] ai.ak.dX ai.ak.dY ai.ak.dI (aR (!(lz ai.ak)) (1:Int) (0:Int))
    else
     if ai.Kind=(6:Int) then
      (l0 ai.Name).bind fun v45=>
      if (100:Int) < (ai.Value.length:Int) then
       gL ai (aR true (3:Int) (aR (!v45) (5:Int) (0:Int)))
      else
       (pI ai.Value).bind fun TA=>
       gL ai (aR (!TA) (3:Int) (aR (!v45) (5:Int) (0:Int)))
     else
      gK ai [] [] (0:Int)
def fX (n8:Int):Option Int:=
 some n8
def jb (v5:ab×Int) (c7:Bool):Option Int:=
 if c7=true then
  fX (3:Int)
 else
  fX v5.2
def jc (ae:List Model) (ai:ab) (c3:Bool):Option Int:=
 if c3=true then
  some (1:Int)
 else
  if (eC ai.Kind (1:Int) (9:Int))=true then
   some (4:Int)
  else
   (l0 ai.Device).bind fun v4=>
   if (!v4)=true then
    some (5:Int)
   else
    (jz ae ai).bind fun v5=>
    jb v5 ((decide (v5.2=(0:Int)))&&(decide (v5.1≠ai)))
def gi (ae:List Model) (ai:ab):Option Int:=
 (l0 ai.cj).bind fun v2=>
 if (!v2)=true then
  some (5:Int)
 else
  jc ae ai ((eC ai.No (1:Int) (3000:Int))||((eC ai.aO ai.No (1000000000:Int))||(!(mG ai.At))))
def kW (ae:ab) (ai:ab):Option Int:=
 (pG [(cmp_Compare_int ae.aO ai.aO),(Lib.compareBytes ae.cj ai.cj),(cmp_Compare_int ae.No ai.No)]).bind fun v3=>
 some v3
def fx (l4:List (ax×Int)) (n5:Int) (v6:ab) (c9:Bool):Option (((List (ax×Int))×Int)⊕Int):=
 if c9=true then
  Option.map .inr (some (7:Int))
 else
  (qn l4 v6.cj (0:Int)).bind fun v12=>
  if v6.No≠(aU (v12+(1:Int))) then
   Option.map .inr (some (16:Int))
  else
   some (.inl (gm l4 v6.cj v6.No,aU (n5+(1:Int))))
def lR (l4:List (ax×Int)):Option Int:=
 if (20:Int) < (l4.length:Int) then
  some (2:Int)
 else
  some (0:Int)
def di (ae:List Model) (ai:List ab) (l4:List (ax×Int)) (n5:Int):Option (((List (ax×Int))×Int)⊕Int):=
 if n5 < (ai.length:Int) then
  (idx ai n5).bind fun v6=>
  (gi ae v6).bind fun v8=>
  if v8≠(0:Int) then
   Option.map .inr (some v8)
  else
   if (0:Int) < n5 then
    (idx ai (aU (n5 - (1:Int)))).bind fun v10=>
    (kW v10 v6).bind fun v11=>
    fx l4 n5 v6 (decide ((0:Int)≤v11))
   else
    fx l4 n5 v6 false
 else
  Option.map .inr (lR l4)
def lS (ae:List Model) (ai:List ab) (l4:List (ax×Int)) (n5:Int):Option Int:=
 iter (fun x:(List (ax×Int))×Int=>di ae ai x.1 x.2) (l4,n5)
def dR (ae:List Model) (ai:List ab):Option Int:=
 if (3000:Int) < (ai.length:Int) then
  some (2:Int)
 else
  lS ae ai [] (0:Int)
def fM (ae:List Model) (ai:List ab):Option Int:=
 (fK ae).bind fun v1=>
 if v1≠(0:Int) then
  some v1
 else
  (dR ae ai).bind fun v2=>
  some v2
def fB (ae:List ab) (l4:List (ax×Int)) (n5:Int):Option (((List (ax×Int))×Int)⊕(List (ax×Int))):=
 if n5 < (ae.length:Int) then
  (idx ae n5).bind fun v6=>
  (qn l4 v6.cj (0:Int)).bind fun v8=>
  some (.inl (gm l4 v6.cj (max v8 v6.No),aU (n5+(1:Int))))
 else
  Option.map .inr (some l4)
def sw (ae:List ab) (l4:List (ax×Int)) (n5:Int):Option (List (ax×Int)):=
 iter (fun x:(List (ax×Int))×Int=>fB ae x.1 x.2) (l4,n5)
def mZ (ae:List ab):Option (List (ax×Int)):=
 sw ae [] (0:Int)
def pn:aJ:=
 (⟨[],[],[],[]⟩:aJ)
def lA (ae:aJ) (ai:aX) (ao:ab):Int:=
 (6:Int)
def fY (ae:aJ) (ao:ab):Option (Int×aJ):=
 (qn ae.bW (⟨ao.Model,ao.az⟩:bx) false).bind fun v3=>
 if v3=true then
  some ((6:Int),ae)
 else
  (A1 ae.cX ao.Key []).bind fun v4=>
  if v4.2=true then
   some ((13:Int),ae)
  else
   (Me ae.fa.length (ae.cx.map Prod.snd)).bind fun XE=>
   some ((0:Int),(⟨gm ae.cx ao.Device (ae.fa.length:Int),gm ae.bW (⟨ao.Model,ao.az⟩:bx) true,gm ae.cX ao.Key ao.Device,ae.fa++[(⟨(⟨ao.Device,ao.Model,[],(⟨(0:Int),(0:Int),(0:Int)⟩:Version),[]⟩:gh),ao.az,(1:Int),[(⟨ao.Key,ao.At,(345686400000:Int)⟩:Term)]⟩:aX)]⟩:aJ))
def gU (ae:Term) (ai:ab):Bool:=
 decide (ae.Key=ai.Key)
def ek (ae:List Term) (iF:Term→Option Bool) (n2:Int):Option (Int⊕Int):=
 if n2 < (ae.length:Int) then
  (idx ae n2).bind fun v3=>
  (iF v3).bind fun v4=>
  if v4=true then
   Option.map .inr (some n2)
  else
   some (.inl (aU (n2+(1:Int))))
 else
  Option.map .inr (some (-1:Int))
def oC (ae:List Term) (iF:Term→Option Bool) (n2:Int):Option Int:=
 iter (fun x:Int=>ek ae iF x) n2
def iD (ae:List Term) (iF:Term→Option Bool):Option Int:=
 oC ae iF (0:Int)
def cV (ae:List Term) (iF:Term→Option Bool):Option Bool:=
 (iD ae iF).bind fun v1=>
 some (decide ((0:Int)≤v1))
def gM (ae:aJ) (ai:aX) (ao:ab):Option (Int×aJ×aX):=
 (idx ai.aY (aU ((ai.aY.length:Int) - (1:Int)))).bind fun v2=>
 if ai.State=(3:Int) then
  some ((11:Int),ae,ai)
 else
  (cV ai.aY (fun y0=>some (gU y0 ao))).bind fun v3=>
  if v3=true then
   some ((6:Int),ae,ai)
  else
   (A1 ae.cX ao.Key []).bind fun v4=>
   if v4.2=true then
    some ((13:Int),ae,ai)
   else
    if ao.At < v2.gn then
     some ((7:Int),ae,ai)
    else
     (app (ai.aY.set (aU ((ai.aY.length:Int) - (1:Int))).toNat (⟨v2.Key,v2.gn,min v2.To ao.aW⟩:Term)) [(⟨ao.Key,ao.At,(345686400000:Int)⟩:Term)]).bind fun l5=>
     some ((0:Int),(⟨ae.cx,ae.bW,gm (o3 ae.cX v2.Key) ao.Key ao.Device,ae.fa⟩:aJ),(⟨ai.Device,ai.az,ai.State,l5⟩:aX))
def gr (ae:aZ) (ai:ax):Int:=
 (Lib.compareBytes ae.Name ai)
def bF (n7:Int) (n8:Int):Option ((Int×Int)⊕(Int×Bool)):=
 some (.inl (n7,n8))
def bG (n3:Int) (c9:Bool):Option (Int×Bool):=
 some (n3,c9)
def cP (ae:List aZ) (ai:ax) (qE:aZ→ax→Option Int) (n3:Int):Option (Int×Bool):=
 if n3 < (ae.length:Int) then
  (idx ae n3).bind fun v10=>
  (qE v10 ai).bind fun v11=>
  bG n3 (decide (v11=(0:Int)))
 else
  bG n3 false
def bq (ae:List aZ) (ai:ax) (qE:aZ→ax→Option Int) (n3:Int) (n4:Int):Option ((Int×Int)⊕(Int×Bool)):=
 if n3 < n4 then
  (idx ae (aU (eJ .u64 (IntKind.u64.wrap (aU (n3+n4))) (1:Int)))).bind fun v5=>
  (qE v5 ai).bind fun v6=>
  if v6 < (0:Int) then
   bF (aU ((aU (eJ .u64 (IntKind.u64.wrap (aU (n3+n4))) (1:Int)))+(1:Int))) n4
  else
   bF n3 (aU (eJ .u64 (IntKind.u64.wrap (aU (n3+n4))) (1:Int)))
 else
  Option.map .inr (cP ae ai qE n3)
def eV (ae:List aZ) (ai:ax) (qE:aZ→ax→Option Int) (n3:Int) (n4:Int):Option (Int×Bool):=
 iter (fun x:Int×Int=>bq ae ai qE x.1 x.2) (n3,n4)
def bN (ae:List aZ) (ai:ax) (qE:aZ→ax→Option Int):Option (Int×Bool):=
 eV ae ai qE (0:Int) (ae.length:Int)
def gj (ae:List aZ) (ai:Int) (ao:Int):Option (List aZ):=
 KR ae ai ao
def eM (ae:List aZ) (ai:Int) (ao:List aZ):Option (List aZ):=
 K1 ae ai ao
def mr (ae:aX) (l7:List aZ):Option (Int×aX):=
 some ((0:Int),(⟨(⟨ae.Device.Key,ae.Device.Model,ae.Device.aK,ae.Device.ak,l7⟩:gh),ae.az,ae.State,ae.aY⟩:aX))
def mu (ae:aX) (sF:List aZ):Option (Int×aX):=
 mr ae sF
def kp (ae:aX) (ai:ab) (v2:Int×Bool) (c5:Bool):Option (Int×aX):=
 if c5=true then
  (gj ae.Device.bn v2.1 (aU (v2.1+(1:Int)))).bind fun v8=>
  mr ae v8
 else
  if v2.2=true then
   (idx ae.Device.bn v2.1).bind fun v12=>
   mu ae (ae.Device.bn.set v2.1.toNat (⟨v12.Name,ai.Value⟩:aZ))
  else
   if (20:Int)≤(ae.Device.bn.length:Int) then
    some ((12:Int),ae)
   else
    (eM ae.Device.bn v2.1 [(⟨ai.Name,ai.Value⟩:aZ)]).bind fun sv=>
    mu ae sv
def iS (ae:aX) (ai:ab) (v2:Int×Bool) (c3:Bool):Option (Int×aX):=
 if c3=true then
  some ((6:Int),ae)
 else
  kp ae ai v2 (v2.2&&(decide (ai.Value=([]:ax))))
def na (ae:aX) (ai:ab):Option (Int×aX):=
 if ae.Device.aK=([]:ax) then
  some ((11:Int),ae)
 else
  (bN ae.Device.bn ai.Name (fun y0 y1=>some (gr y0 y1))).bind fun v2=>
  if v2.2=true then
   (idx ae.Device.bn v2.1).bind fun v4=>
   iS ae ai v2 ((decide (v4.Value=ai.Value))||((!v2.2)&&(decide (ai.Value=([]:ax)))))
  else
   iS ae ai v2 ((!v2.2)&&(decide (ai.Value=([]:ax))))
def jA (ae:aX) (q2:ax) (n3:Int) (n4:Int) (n5:Int) (l7:List aZ) (n8:Int):Int×aX:=
 ((0:Int),(⟨(⟨ae.Device.Key,ae.Device.Model,q2,(⟨n3,n4,n5⟩:Version),l7⟩:gh),ae.az,n8,ae.aY⟩:aX))
def jB (ae:aX) (q9:ax) (n10:Int) (n11:Int) (n12:Int) (vW:List aZ) (n15:Int):Int×aX:=
 jA ae q9 n10 n11 n12 vW n15
def jC (ae:aX) (n17:Int) (n18:Int) (n19:Int) (n20:Int):Int×aX:=
 jB ae ae.Device.aK n17 n18 n19 ae.Device.bn n20
def jD (ae:aX) (n21:Int):Int×aX:=
 jC ae ae.Device.ak.dX ae.Device.ak.dY ae.Device.ak.dI n21
def jE (ae:aX) (n22:Int):Int×aX:=
 jD ae n22
def jj (ae:aX) (ai:ab):Int×aX:=
 if ai.Kind=(2:Int) then
  if ae.State≠(1:Int) then
   ((11:Int),ae)
  else
   jA ae ai.aK ae.Device.ak.dX ae.Device.ak.dY ae.Device.ak.dI ae.Device.bn (2:Int)
 else
  if ai.Kind=(3:Int) then
   if ae.Device.aK=([]:ax) then
    ((11:Int),ae)
   else
    jB ae ([]:ax) ae.Device.ak.dX ae.Device.ak.dY ae.Device.ak.dI [] (1:Int)
  else
   if ai.Kind=(5:Int) then
    if ae.Device.ak=ai.ak then
     ((6:Int),ae)
    else
     jC ae ai.ak.dX ai.ak.dY ai.ak.dI ae.State
   else
    if ai.Kind=(7:Int) then
     if ae.State≠(2:Int) then
      ((11:Int),ae)
     else
      jD ae (3:Int)
    else
     if ai.Kind=(8:Int) then
      if ae.State≠(3:Int) then
       ((11:Int),ae)
      else
       jE ae (2:Int)
     else
      jE ae ae.State
def lT (ae:aJ) (n2:Int) (qL:Term) (B7:List aX):Option (Int×aJ):=
 (idx B7 n2).bind fun v26=>
 some ((0:Int),(⟨ae.cx,ae.bW,o3 ae.cX qL.Key,B7.set n2.toNat (⟨v26.Device,v26.az,(4:Int),v26.aY⟩:aX)⟩:aJ))
def dj (ae:aJ) (ai:ab) (n2:Int) (v7:aX) (qL:Term) (B7:List aX) (n22:Int):Option (((List aX)×Int)⊕(Int×aJ)):=
 if n22 < (v7.aY.length:Int) then
  (idx B7 n2).bind fun v23=>
  (idx v23.aY n22).bind fun v24=>
  some (.inl (B7.set n2.toNat (⟨v23.Device,v23.az,v23.State,v23.aY.set n22.toNat (⟨v24.Key,v24.gn,min v24.To (max v24.gn ai.At)⟩:Term)⟩:aX),aU (n22+(1:Int))))
 else
  Option.map .inr (lT ae n2 qL B7)
def gN (ae:aJ) (ai:ab) (n2:Int) (v7:aX) (qL:Term) (B7:List aX) (n22:Int):Option (Int×aJ):=
 iter (fun x:(List aX)×Int=>dj ae ai n2 v7 qL x.1 x.2) (B7,n22)
def eN (ae:aJ) (ai:ab):Option (Int×aJ):=
 BS (bB ae.cx ai.Device) (
  if ai.Kind=(1:Int) then
   (fY ae ai).bind fun v3=>
   some (v3.1,v3.2)
  else
   some ((8:Int),ae)) (fun n2=>
  if ai.Kind=(1:Int) then
   (idx ae.fa n2).bind fun v6=>
   some ((lA ae v6 ai),ae)
  else
   (idx ae.fa n2).bind fun v7=>
   if v7.State=(4:Int) then
    some ((11:Int),ae)
   else
    if ai.Kind=(4:Int) then
     (gM ae v7 ai).bind fun v8=>
     some (v8.1,(⟨ae.cx,ae.bW,v8.2.1.cX,ae.fa.set n2.toNat v8.2.2⟩:aJ))
    else
     if ai.Kind=(6:Int) then
      (na v7 ai).bind fun v12=>
      some (v12.1,(⟨ae.cx,ae.bW,ae.cX,ae.fa.set n2.toNat v12.2⟩:aJ))
     else
      if ai.Kind=(9:Int) then
       (idx v7.aY (aU ((v7.aY.length:Int) - (1:Int)))).bind fun qL=>
       gN ae ai n2 v7 qL ae.fa (0:Int)
      else
       some ((jj v7 ai).1,(⟨ae.cx,ae.bW,ae.cX,ae.fa.set n2.toNat ((jj v7 ai).2)⟩:aJ)))
def jF (n25:Int) (nu:Int×aJ) (Pa:List bd):Option (((List (ax×Int))×(List aX)×(List (bx×Bool))×(List (ax×ax))×(List bd)×Int)⊕(aJ×(List bd))):=
 some (.inl (nu.2.cx,nu.2.fa,nu.2.bW,nu.2.cX,Pa,aU (n25+(1:Int))))
def eP (ae:List ab) (ES:List (ax×Int)) (vV:List aX) (Ef:List (bx×Bool)) (Pb:List (ax×ax)) (Mp:List bd) (n25:Int):Option (((List (ax×Int))×(List aX)×(List (bx×Bool))×(List (ax×ax))×(List bd)×Int)⊕(aJ×(List bd))):=
 if n25 < (ae.length:Int) then
  (idx ae n25).bind fun Bc=>
  (eN (⟨ES,Ef,Pb,vV⟩:aJ) Bc).bind fun nu=>
  if nu.1≠(0:Int) then
   (app Mp [(⟨n25,nu.1⟩:bd)]).bind fun Dy=>
   jF n25 nu Dy
  else
   jF n25 nu Mp
 else
  Option.map .inr (some ((⟨ES,Ef,Pb,vV⟩:aJ),Mp))
def lB (ae:List ab) (ES:List (ax×Int)) (vV:List aX) (Ef:List (bx×Bool)) (Pb:List (ax×ax)) (Mp:List bd) (n25:Int):Option (aJ×(List bd)):=
 iter (fun x:(List (ax×Int))×(List aX)×(List (bx×Bool))×(List (ax×ax))×(List bd)×Int=>eP ae x.1 x.2.1 x.2.2.1 x.2.2.2.1 x.2.2.2.2.1 x.2.2.2.2.2) (ES,vV,Ef,Pb,Mp,n25)
def ma (ae:List ab):Option (aJ×(List bd)):=
 lB ae pn.cx pn.fa pn.bW pn.cX [] (0:Int)
def df (ae:List ab):Option (List ab):=
 app [] ae
def mw (ai:List ab) (ao:ab) (v8:Int) (n9:Int) (IV:Bool):Option ((List ab)×Int):=
 if IV=true then
  some ([],(2:Int))
 else
  (df ai).bind fun v28=>
  (app v28 [(⟨ao.cj,aU (v8+(1:Int)),n9,ao.At,ao.Kind,ao.Device,ao.Model,ao.aK,ao.az,ao.Key,ao.Name,ao.Value,ao.aW,ao.ak⟩:ab)]).bind fun JS=>
  some (JS,(0:Int))
def iT (ae:List Model) (ai:List ab) (ao:ab) (v6:(List (ax×Int))) (v8:Int) (n9:Int):Option ((List ab)×Int):=
 (gi ae (⟨ao.cj,aU (v8+(1:Int)),n9,ao.At,ao.Kind,ao.Device,ao.Model,ao.aK,ao.az,ao.Key,ao.Name,ao.Value,ao.aW,ao.ak⟩:ab)).bind fun v11=>
 if v11≠(0:Int) then
  some ([],v11)
 else
  (ma ai).bind fun xH=>
  (eN xH.1 (⟨ao.cj,aU (v8+(1:Int)),n9,ao.At,ao.Kind,ao.Device,ao.Model,ao.aK,ao.az,ao.Key,ao.Name,ao.Value,ao.aW,ao.ak⟩:ab)).bind fun v22=>
  if v22.1≠(0:Int) then
   some ([],v22.1)
  else
   mw ai ao v8 n9 ((decide ((3000:Int)≤(ai.length:Int)))||(decide ((20:Int) < ((gm v6 ao.cj (aU (v8+(1:Int)))).length:Int))))
def iU (ae:List Model) (ai:List ab) (ao:ab) (c4:Bool):Option ((List ab)×Int):=
 if c4=true then
  some ([],(3:Int))
 else
  (mZ ai).bind fun v6=>
  (qn v6 ao.cj (0:Int)).bind fun v8=>
  if (0:Int) < (ai.length:Int) then
   (idx ai (aU ((ai.length:Int) - (1:Int)))).bind fun v10=>
   iT ae ai ao v6 v8 (aU (v10.aO+(1:Int)))
  else
   iT ae ai ao v6 v8 (1:Int)
def lC (ae:List Model) (ai:List ab) (ao:ab):Option ((List ab)×Int):=
 (fM ae ai).bind fun v2=>
 if v2≠(0:Int) then
  some ([],v2)
 else
  iU ae ai ao ((decide (ao.No≠(0:Int)))||(decide (ao.aO≠(0:Int))))
def jG (ae:List Model) (ai:List ab):Option ((List bd)×Int):=
 (fM ae ai).bind fun v1=>
 if v1≠(0:Int) then
  some ([],v1)
 else
  (ma ai).bind fun v3=>
  some (v3.2,(0:Int))
def B8 (c1:Bool):Bool:=
 c1
def sd (ae:Int) (ai:Int) (ao:Int):Bool:=
 B8 ((decide (ai≤ae))&&(decide (ae≤ao)))
def rl (c1:Bool):Option Bool:=
 some c1
def uL (ae:ax):Option Bool:=
 if (sd (ae.length:Int) (1:Int) (40:Int))=true then
  (uK ae ([97,98,99,100,101,102,103,104,105,106,107,108,109,110,111,112,113,114,115,116,117,118,119,120,121,122,48,49,50,51,52,53,54,55,56,57,45,95]:ax)).bind fun v2=>
  if v2=([]:ax) then
   (idx ae (0:Int)).bind fun c3=>
   rl (decide ((0:Int)≤(pE ([97,98,99,100,101,102,103,104,105,106,107,108,109,110,111,112,113,114,115,116,117,118,119,120,121,122]:ax) (c3.toNat:Int))))
  else
   rl false
 else
  rl false
def lD (ae:Model) (ai:Model):Bool:=
 decide (ae.Prefix=ai.Prefix)
def mb (ae:ax):Option Bool:=
 (uL ae).bind fun v1=>
 some (!v1)
def cZ (ae:List ax) (iF:ax→Option Bool) (n2:Int):Option (Int⊕Int):=
 if n2 < (ae.length:Int) then
  (idx ae n2).bind fun v3=>
  (iF v3).bind fun v4=>
  if v4=true then
   Option.map .inr (some n2)
  else
   some (.inl (aU (n2+(1:Int))))
 else
  Option.map .inr (some (-1:Int))
def mP (ae:List ax) (iF:ax→Option Bool) (n2:Int):Option Int:=
 iter (fun x:Int=>cZ ae iF x) n2
def fN (ae:List ax) (iF:ax→Option Bool):Option Int:=
 mP ae iF (0:Int)
def db (ae:List ax) (iF:ax→Option Bool):Option Bool:=
 (fN ae iF).bind fun v1=>
 some (decide ((0:Int)≤v1))
def kF (c3:Bool):Option Bool:=
 some c3
def pJ (ae:ax):Option Bool:=
 (ze ae ([46]:ax)).bind fun v1=>
 if (ae.length:Int)≤(40:Int) then
  if (v1.length:Int)≤(5:Int) then
   (db v1 (fun y0=>mb y0)).bind fun v4=>
   kF (!v4)
  else
   kF false
 else
  kF false
def lE (n14:Int) (Qn:Bool):Option (Int⊕(Int⊕Int)):=
 if Qn=true then
  Option.map .inr (Option.map .inr (some (3:Int)))
 else
  some (.inl (aU (n14+(1:Int))))
def lF (n14:Int) (pH:aL) (Qo:Bool):Option (Int⊕(Int⊕Int)):=
 if Qo=true then
  Option.map .inr (Option.map .inr (some (1:Int)))
 else
  lE n14 ((decide (¬ (pH.Kind=(2:Int))))&&((decide (pH.vj≠(0:Int)))||(decide (pH.iA≠(0:Int)))))
def ir (n14:Int) (pH:aL) (Qp:Bool):Option (Int⊕(Int⊕Int)):=
 if Qp=true then
  Option.map .inr (Option.map .inr (some (7:Int)))
 else
  if (!(sd pH.Kind (1:Int) (3:Int)))=true then
   Option.map .inr (Option.map .inr (some (4:Int)))
  else
   lF n14 pH ((decide (pH.Kind=(2:Int)))&&((!(sd pH.vj (-1000000000:Int) pH.iA))||(decide ((1000000000:Int) < pH.iA))))
def dS (n2:Int) (v3:Model) (n14:Int):Option (Int⊕(Int⊕Int)):=
 if n14 < (v3.ba.length:Int) then
  (idx v3.ba n14).bind fun pH=>
  (pJ pH.Name).bind fun v17=>
  if (!v17)=true then
   Option.map .inr (Option.map .inr (some (5:Int)))
  else
   if (0:Int) < n14 then
    (idx v3.ba (aU (n14 - (1:Int)))).bind fun JR=>
    ir n14 pH (Op.bytesLess pH.Name JR.Name||pH.Name==JR.Name)
   else
    ir n14 pH false
 else
  Option.map .inr (some (.inl (aU (n2+(1:Int)))))
def nQ (n2:Int) (v3:Model) (n14:Int):Option (Int⊕Int):=
 iter (fun x:Int=>dS n2 v3 x) n14
def iu (ae:List Model) (n2:Int) (v3:Model) (c8:Bool):Option (Int⊕Int):=
 if c8=true then
  Option.map .inr (some (3:Int))
 else
  (yN ae (0:Int) n2).bind fun sF=>
  (cA sF (fun y0=>some (lD y0 v3))).bind fun v12=>
  if v12=true then
   Option.map .inr (some (6:Int))
  else
   if (50:Int) < (v3.ba.length:Int) then
    Option.map .inr (some (2:Int))
   else
    nQ n2 v3 (0:Int)
def iv (ae:List Model) (n2:Int) (v3:Model) (c6:Bool):Option (Int⊕Int):=
 if c6=true then
  Option.map .inr (some (7:Int))
 else
  if (!(sd (v3.Prefix.length:Int) (2:Int) (4:Int)))=true then
   iu ae n2 v3 true
  else
   (vQ ([97,98,99,100,101,102,103,104,105,106,107,108,109,110,111,112,113,114,115,116,117,118,119,120,121,122]:ax)).bind fun v9=>
   (uK v3.Prefix v9).bind fun v10=>
   iu ae n2 v3 (decide (v10≠([]:ax)))
def eQ (ae:List Model) (n2:Int):Option (Int⊕Int):=
 if n2 < (ae.length:Int) then
  (idx ae n2).bind fun v3=>
  (uL v3.Key).bind fun v5=>
  if (!v5)=true then
   Option.map .inr (some (5:Int))
  else
   if (0:Int) < n2 then
    (idx ae (aU (n2 - (1:Int)))).bind fun v7=>
    iv ae n2 v3 (Op.bytesLess v3.Key v7.Key||v3.Key==v7.Key)
   else
    iv ae n2 v3 false
 else
  Option.map .inr (some (0:Int))
def rm (ae:List Model) (n2:Int):Option Int:=
 iter (fun x:Int=>eQ ae x) n2
def mc (ae:List Model):Option Int:=
 if (50:Int) < (ae.length:Int) then
  some (2:Int)
 else
  rm ae (0:Int)
def kG (ae:Int):Int:=
 if (!(sd ae (0:Int) (345686399999:Int)))=true then
  (1:Int)
 else
  (0:Int)
def o4 (ae:Model) (ai:ax):Bool:=
 decide (ae.Key=ai)
def rn (ae:List Model) (ai:ax):Option Int:=
 (bL ae (fun y0=>some (o4 y0 ai))).bind fun v2=>
 some v2
def kX (c1:Bool):Option Bool:=
 some c1
def mH (ae:ax):Option Bool:=
 if (sd (ae.length:Int) (1:Int) (64:Int))=true then
  (uK ae ([48,49,50,51,52,53,54,55,56,57,97,98,99,100,101,102]:ax)).bind fun v2=>
  kX (decide (v2=([]:ax)))
 else
  kX false
def pK (ae:ax):Option Int:=
 (uL ae).bind fun v1=>
 if (!v1)=true then
  some (5:Int)
 else
  some (0:Int)
def nd (c2:Bool):Bool:=
 c2
def nf (ae:Version):Bool:=
 nd ((sd ae.dX (0:Int) (9999:Int))&&((sd ae.dY (0:Int) (9999:Int))&&(sd ae.dI (0:Int) (9999:Int))))
def se (n2:Int) (c4:Bool):Option (Int⊕Bool):=
 if c4=true then
  Option.map .inr (some false)
 else
  some (.inl (aU (n2+(1:Int))))
def nR (c5:Bool):Option Bool:=
 some c5
def sf (ae:ax):Option Bool:=
 (wW ae).bind fun v6=>
 if v6=true then
  (uK ae ([32]:ax)).bind fun v7=>
  if ae=v7 then
   (strings_Contains ae ([32,32]:ax)).bind fun v8=>
   nR (!v8)
  else
   nR false
 else
  nR false
def jX (ae:ax) (n2:Int):Option (Int⊕Bool):=
 if n2 < ((jT ae).length:Int) then
  (idx (jT ae) n2).bind fun v3=>
  se n2 ((decide (v3 < (32:Int)))||(decide (v3=(127:Int))))
 else
  Option.map .inr (sf ae)
def zg (ae:ax) (n2:Int):Option Bool:=
 iter (fun x:Int=>jX ae x) n2
def vX (ae:ax):Option Bool:=
 zg ae (0:Int)
def om:Option Int:=
 some (0:Int)
def oo:Option Int:=
 om
def oq:Option Int:=
 oo
def me:Option Int:=
 oq
def ot (c7:Bool):Option Int:=
 if c7=true then
  some (3:Int)
 else
  me
def pL (ae:List Model) (ai:ab):Option Int:=
 if ai.Kind=(1:Int) then
  (rn ae ai.Model).bind fun v2=>
  if v2 < (0:Int) then
   some (8:Int)
  else
   if (!(sd ai.az (1:Int) (99999999:Int)))=true then
    some (1:Int)
   else
    (mH ai.Key).bind fun v3=>
    if (!v3)=true then
     some (5:Int)
    else
     om
 else
  if ai.Kind=(2:Int) then
   (pK ai.aK).bind fun v4=>
   some v4
  else
   if ai.Kind=(4:Int) then
    (mH ai.Key).bind fun v5=>
    if (!v5)=true then
     some (5:Int)
    else
     if (!(sd ai.aW ai.At (345686400000:Int)))=true then
      some (1:Int)
     else
      oo
   else
    if ai.Kind=(5:Int) then
     if (!(nf ai.ak))=true then
      some (1:Int)
     else
      oq
    else
     if ai.Kind=(6:Int) then
      (uL ai.Name).bind fun v6=>
      if (!v6)=true then
       some (5:Int)
      else
       (vX ai.Value).bind fun v8=>
       ot ((!v8)||(decide ((100:Int) < (ai.Value.length:Int))))
     else
      me
def qq (ae:Int):Option ax:=
 (idx [([]:ax),([109,115,107]:ax),([116]:ax),([]:ax),([107,117]:ax),([102]:ax),([110,118]:ax),([]:ax),([]:ax),([]:ax)] ae).bind fun v1=>
 some v1
def kq (c9:Bool):Option (Unit⊕Int):=
 if c9=true then
  Option.map .inr (some (3:Int))
 else
  some (.inl ())
def gu (v6:ax) (Hq:ax×Bool):Option (Unit⊕Int):=
 if Hq.2=true then
  (strings_Contains v6 Hq.1).bind fun v10=>
  kq (!v10)
 else
  kq false
def kr:Option Int:=
 some (0:Int)
def oO (ai:ab) (v6:ax):Option Int:=
 uH ([(([109]:ax),decide (ai.Model≠([]:ax))),(([115]:ax),decide (ai.az≠(0:Int))),(([107]:ax),decide (ai.Key≠([]:ax))),(([116]:ax),decide (ai.aK≠([]:ax))),(([117]:ax),decide (ai.aW≠(0:Int))),(([102]:ax),decide (ai.ak≠(⟨(0:Int),(0:Int),(0:Int)⟩:Version))),(([110]:ax),decide (ai.Name≠([]:ax))),(([118]:ax),decide (ai.Value≠([]:ax)))]:List (ax×Bool)) (fun p=>oY (fun e (x:Unit)=>gu v6 e) (fun x:Unit=>kr) p ())
def mx (ae:List Model) (ai:ab) (c3:Bool):Option Int:=
 if c3=true then
  some (1:Int)
 else
  if (!(sd ai.Kind (1:Int) (9:Int)))=true then
   some (4:Int)
  else
   (uL ai.Device).bind fun v4=>
   if (!v4)=true then
    some (5:Int)
   else
    (pL ae ai).bind fun v5=>
    if v5≠(0:Int) then
     some v5
    else
     (qq ai.Kind).bind fun v6=>
     oO ai v6
def lG (ae:List Model) (ai:ab):Option Int:=
 (uL ai.cj).bind fun v2=>
 if (!v2)=true then
  some (5:Int)
 else
  mx ae ai ((!(sd ai.No (1:Int) (3000:Int)))||((!(sd ai.aO ai.No (1000000000:Int)))||(decide ((kG ai.At)≠(0:Int)))))
def lH (l4:List (ax×Int)) (n5:Int) (v6:ab) (c9:Bool):Option (((List (ax×Int))×Int)⊕Int):=
 if c9=true then
  Option.map .inr (some (7:Int))
 else
  (qn l4 v6.cj (0:Int)).bind fun v12=>
  if v6.No≠(aU (v12+(1:Int))) then
   Option.map .inr (some (16:Int))
  else
   some (.inl (gm l4 v6.cj v6.No,aU (n5+(1:Int))))
def rq (l4:List (ax×Int)):Option Int:=
 if (20:Int) < (l4.length:Int) then
  some (2:Int)
 else
  some (0:Int)
def iw (ae:List Model) (ai:List ab) (l4:List (ax×Int)) (n5:Int):Option (((List (ax×Int))×Int)⊕Int):=
 if n5 < (ai.length:Int) then
  (idx ai n5).bind fun v6=>
  (lG ae v6).bind fun v8=>
  if v8≠(0:Int) then
   Option.map .inr (some v8)
  else
   if (0:Int) < n5 then
    (idx ai (aU (n5 - (1:Int)))).bind fun v10=>
    (lx v10 v6).bind fun v11=>
    lH l4 n5 v6 (decide ((0:Int)≤v11))
   else
    lH l4 n5 v6 false
 else
  Option.map .inr (rq l4)
def ru (ae:List Model) (ai:List ab) (l4:List (ax×Int)) (n5:Int):Option Int:=
 iter (fun x:(List (ax×Int))×Int=>iw ae ai x.1 x.2) (l4,n5)
def kH (ae:List Model) (ai:List ab):Option Int:=
 if (3000:Int) < (ai.length:Int) then
  some (2:Int)
 else
  ru ae ai [] (0:Int)
def mz (ae:List Int) (n2:Int):Option (Int⊕Int):=
 if n2 < (ae.length:Int) then
  (idx ae n2).bind fun v3=>
  if v3≠(0:Int) then
   Option.map .inr (some v3)
  else
   some (.inl (aU (n2+(1:Int))))
 else
  Option.map .inr (some (0:Int))
def xZ (ae:List Int) (n2:Int):Option Int:=
 iter (fun x:Int=>mz ae x) n2
def o5 (ae:List Int):Option Int:=
 xZ ae (0:Int)
def qs (n3:Int):Option Int:=
 (idx ([48,49,50,51,52,53,54,55,56,57,65,66,67,68,69,70,71,72,73,74,75,76,77,78,79,80,81,82,83,84,85,86,87,88,89,90]:ax) (n3.tmod (36:Int))).bind fun c6=>
 some (c6.toNat:Int)
def cN (ae:ax) (n3:Int) (n4:Int):Option ((Int×Int)⊕Int):=
 if n4 < (ae.length:Int) then
  (idx ae n4).bind fun c5=>
  some (.inl (aU (n3+(aU ((aU (n4+(2:Int))) * (pE ([48,49,50,51,52,53,54,55,56,57,65,66,67,68,69,70,71,72,73,74,75,76,77,78,79,80,81,82,83,84,85,86,87,88,89,90]:ax) (c5.toNat:Int))))),aU (n4+(1:Int))))
 else
  Option.map .inr (qs n3)
def qt (ae:ax) (n3:Int) (n4:Int):Option Int:=
 iter (fun x:Int×Int=>cN ae x.1 x.2) (n3,n4)
def kY (ae:ax):Option Int:=
 qt ae (0:Int) (0:Int)
def ou (ae:List Model) (ai:ax) (ao:Int):Option (ax×Int):=
 (fK ae).bind fun v1=>
 if v1≠(0:Int) then
  some (([]:ax),v1)
 else
  (jW ae ai).bind fun v2=>
  if v2 < (0:Int) then
   some (([]:ax),(8:Int))
  else
   if (eC ao (1:Int) (99999999:Int))=true then
    some (([]:ax),(1:Int))
   else
    (Dk ao).bind fun v3=>
    (ym ([48]:ax) (aU ((8:Int) - (v3.length:Int)))).bind fun v4=>
    (vM v4 v3).bind fun q5=>
    (idx ae v2).bind fun v6=>
    (vM v6.Prefix ([45]:ax)).bind fun q7=>
    (vM q7 q5).bind fun q8=>
    (vM q8 ([45]:ax)).bind fun q9=>
    (vM v6.Prefix q5).bind fun zW=>
    (kY zW).bind fun v11=>
    (vM q9 (KO v11)).bind fun zX=>
    some (zX,(0:Int))
def o6 (c2:Bool):Option Bool:=
 some c2
def po:Option Bool:=
 (ou [(⟨([109]:ax),([65,66]:ax),[]⟩:Model)] ([109]:ax) (7:Int)).bind fun v1=>
 o6 ((decide (v1.2=(0:Int)))&&(decide (v1.1=([65,66,45,48,48,48,48,48,48,48,55,45,77]:ax))))
def pM (c2:Bool):Option (Unit⊕Bool):=
 if c2=true then
  Option.map .inr (some true)
 else
  some (.inl ())
def nT (ai:ax) (ao:List aX) (Hq:ax×Int):Option (Unit⊕Bool):=
 (idx ao Hq.2).bind fun v3=>
 if v3.State≠(4:Int) then
  (idx v3.aY (aU ((v3.aY.length:Int) - (1:Int)))).bind fun v4=>
  pM (decide (v4.Key=ai))
 else
  pM false
def pP:Option Bool:=
 some false
def zh (ae:List (ax×Int)) (ai:ax) (ao:List aX):Option Bool:=
 uH ae (fun p=>oY (fun e (x:Unit)=>nT ai ao e) (fun x:Unit=>pP) p ())
def ud (ae:List (ax×Int)) (ai:ax) (ao:List aX):Option Bool:=
 zh ae ai ao
def ue (ae:List (ax×Int)) (ao:List aX) (Qq:Bool):Option (Unit⊕(Int×(List (ax×Int))×(List aX))):=
 if Qq=true then
  Option.map .inr (some ((6:Int),ae,ao))
 else
  some (.inl ())
def pq (ae:List (ax×Int)) (ai:ab) (ao:List aX) (Hq:ax×Int):Option (Unit⊕(Int×(List (ax×Int))×(List aX))):=
 (idx ao Hq.2).bind fun v12=>
 ue ae ao ((decide (v12.Device.Model=ai.Model))&&(decide (v12.az=ai.az)))
def lI (ae:List (ax×Int)) (ai:ab) (ao:List aX):Option (Int×(List (ax×Int))×(List aX)):=
 (ud ae ai.Key ao).bind fun v4=>
 if v4=true then
  some ((13:Int),ae,ao)
 else
  (Me ao.length (ae.map Prod.snd)).bind fun u8=>
  some ((0:Int),gm ae ai.Device (ao.length:Int),ao++[(⟨(⟨ai.Device,ai.Model,[],(⟨(0:Int),(0:Int),(0:Int)⟩:Version),[]⟩:gh),ai.az,(1:Int),[(⟨ai.Key,ai.At,(345686400000:Int)⟩:Term)]⟩:aX)])
def wY (ae:List (ax×Int)) (ai:ab) (ao:List aX):Option (Int×(List (ax×Int))×(List aX)):=
 uH ae (fun p=>oY (fun e (x:Unit)=>pq ae ai ao e) (fun x:Unit=>lI ae ai ao) p ())
def sg (ae:List (ax×Int)) (ai:ab) (ao:List aX):Option (Int×(List (ax×Int))×(List aX)):=
 BS (bB ae ai.Device) (
  wY ae ai ao) (fun n2=>
  some ((6:Int),ae,ao))
def qu (ae:Term) (ai:ab):Bool:=
 decide (ae.Key=ai.Key)
def tt (ae:List (ax×Int)) (ai:Int) (ao:ab) (bD:List aX):Option (Int×(List aX)):=
 (idx bD ai).bind fun v2=>
 (idx v2.aY (aU ((v2.aY.length:Int) - (1:Int)))).bind fun v3=>
 if v2.State=(3:Int) then
  some ((11:Int),bD)
 else
  (cV v2.aY (fun y0=>some (qu y0 ao))).bind fun v4=>
  if v4=true then
   some ((6:Int),bD)
  else
   (ud ae ao.Key bD).bind fun v5=>
   if v5=true then
    some ((13:Int),bD)
   else
    if ao.At < v3.gn then
     some ((7:Int),bD)
    else
     (app (v2.aY.set (aU ((v2.aY.length:Int) - (1:Int))).toNat (⟨v3.Key,v3.gn,min v3.To ao.aW⟩:Term)) [(⟨ao.Key,ao.At,(345686400000:Int)⟩:Term)]).bind fun l7=>
     some ((0:Int),(bD.set ai.toNat (⟨v2.Device,v2.az,v2.State,v2.aY.set (aU ((v2.aY.length:Int) - (1:Int))).toNat (⟨v3.Key,v3.gn,min v3.To ao.aW⟩:Term)⟩:aX)).set ai.toNat (⟨v2.Device,v2.az,v2.State,l7⟩:aX))
def qx (ae:aZ) (ai:ab):Bool:=
 decide (ae.Name=ai.Name)
def eo (ae:List aZ) (iF:aZ→Option Bool) (n2:Int):Option (Int⊕Int):=
 if n2 < (ae.length:Int) then
  (idx ae n2).bind fun v3=>
  (iF v3).bind fun v4=>
  if v4=true then
   Option.map .inr (some n2)
  else
   some (.inl (aU (n2+(1:Int))))
 else
  Option.map .inr (some (-1:Int))
def oD (ae:List aZ) (iF:aZ→Option Bool) (n2:Int):Option Int:=
 iter (fun x:Int=>eo ae iF x) n2
def dL (ae:List aZ) (iF:aZ→Option Bool):Option Int:=
 oD ae iF (0:Int)
def fl (ae:List aZ):Option (List aZ):=
 app [] ae
def qy (ae:aZ) (ai:ab):Bool:=
 decide (ae.Name=ai.Name)
def dT (n7:Int) (sF:List aZ) (n12:Int):Option (((List aZ)×Int×Int)⊕(List aZ)):=
 some (.inl (sF,n12,aU (n7+(1:Int))))
def jH (l5:List aZ) (n6:Int):Option (List aZ):=
 (yN l5 n6 (l5.length:Int)).bind fun vW=>
 (yN (FD l5 n6 vW.length (⟨[],[]⟩:aZ)) (0:Int) n6).bind fun zY=>
 some zY
def dU (iF:aZ→Option Bool) (l5:List aZ) (n6:Int) (n7:Int):Option (((List aZ)×Int×Int)⊕(List aZ)):=
 if n7 < (l5.length:Int) then
  (idx l5 n7).bind fun v8=>
  (iF v8).bind fun v10=>
  if (!v10)=true then
   (idx l5 n6).bind fun xH=>
   dT n7 (l5.set n6.toNat v8) (aU (n6+(1:Int)))
  else
   dT n7 l5 n6
 else
  Option.map .inr (jH l5 n6)
def nU (iF:aZ→Option Bool) (l5:List aZ) (n6:Int) (n7:Int):Option (List aZ):=
 iter (fun x:(List aZ)×Int×Int=>dU iF x.1 x.2.1 x.2.2) (l5,n6,n7)
def eR (ae:List aZ) (iF:aZ→Option Bool):Option (List aZ):=
 (dL ae iF).bind fun v1=>
 if v1=(-1:Int) then
  some ae
 else
  nU iF ae v1 (aU (v1+(1:Int)))
def oE (ae:aZ) (ai:aZ):Int:=
 (Lib.compareBytes ae.Name ai.Name)
def iL (ae:List aZ) (iF:aZ→aZ→Option Int):Option (List aZ):=
 FC iF ae
def kZ (ae:aX) (Ai:List aZ):Option (Int×aX):=
 (lX Ai.length (fun r:(List aZ)=>r.length) (iL Ai (fun y0 y1=>some (oE y0 y1)))).bind fun qL=>
 some ((0:Int),(⟨(⟨ae.Device.Key,ae.Device.Model,ae.Device.aK,ae.Device.ak,qL⟩:gh),ae.az,ae.State,ae.aY⟩:aX))
def oF (ae:aX) (ai:ab) (c7:Bool):Option (Int×aX):=
 if c7=true then
  some ((12:Int),ae)
 else
  (fl ae.Device.bn).bind fun v8=>
  (eR v8 (fun y0=>some (qy y0 ai))).bind fun v10=>
  if ai.Value≠([]:ax) then
   (app v10 [(⟨ai.Name,ai.Value⟩:aZ)]).bind fun vW=>
   kZ ae vW
  else
   kZ ae v10
def mI (ae:aX) (ai:ab) (v2:Int) (c5:Bool):Option (Int×aX):=
 if c5=true then
  some ((6:Int),ae)
 else
  oF ae ai ((decide (v2 < (0:Int)))&&(decide ((20:Int)≤(ae.Device.bn.length:Int))))
def oG (ae:aX) (ai:ab) (v2:Int) (c6:Bool):Option (Int×aX):=
 mI ae ai v2 c6
def mJ (ae:aX) (ai:ab) (v2:Int) (c3:Bool):Option (Int×aX):=
 if c3=true then
  mI ae ai v2 c3
 else
  oG ae ai v2 ((decide (v2 < (0:Int)))&&(decide (ai.Value=([]:ax))))
def tu (ae:aX) (ai:ab):Option (Int×aX):=
 (dL ae.Device.bn (fun y0=>some (qx y0 ai))).bind fun v2=>
 if ae.Device.aK=([]:ax) then
  some ((11:Int),ae)
 else
  if (0:Int)≤v2 then
   (idx ae.Device.bn v2).bind fun v4=>
   mJ ae ai v2 (decide (v4.Value=ai.Value))
  else
   mJ ae ai v2 false
def k7 (ae:List (ax×Int)) (l10:List aX):Option (Int×(List (ax×Int))×(List aX)):=
 some ((0:Int),ae,l10)
def k8 (ae:List (ax×Int)) (Ai:List aX):Option (Int×(List (ax×Int))×(List aX)):=
 k7 ae Ai
def k9 (ae:List (ax×Int)) (GS:List aX):Option (Int×(List (ax×Int))×(List aX)):=
 k8 ae GS
def lf (ae:List (ax×Int)) (yn:List aX):Option (Int×(List (ax×Int))×(List aX)):=
 k9 ae yn
def lg (ae:List (ax×Int)) (oN:List aX):Option (Int×(List (ax×Int))×(List aX)):=
 lf ae oN
def jP (ae:List (ax×Int)) (ai:ab) (n2:Int) (v9:aX) (ER:List aX) (n38:Int):Option (((List aX)×Int)⊕(Int×(List (ax×Int))×(List aX))):=
 if n38 < (v9.aY.length:Int) then
  (idx ER n2).bind fun v39=>
  (idx v39.aY n38).bind fun v40=>
  some (.inl (ER.set n2.toNat (⟨v39.Device,v39.az,v39.State,v39.aY.set n38.toNat (⟨v40.Key,v40.gn,min v40.To (max v40.gn ai.At)⟩:Term)⟩:aX),aU (n38+(1:Int))))
 else
  Option.map .inr (lg ae ER)
def oH (ae:List (ax×Int)) (ai:ab) (n2:Int) (v9:aX) (ER:List aX) (n38:Int):Option (Int×(List (ax×Int))×(List aX)):=
 iter (fun x:(List aX)×Int=>jP ae ai n2 v9 x.1 x.2) (ER,n38)
def ry (ae:List (ax×Int)) (ai:ab) (ao:List aX):Option (Int×(List (ax×Int))×(List aX)):=
 BS (bB ae ai.Device) (
  if ai.Kind=(1:Int) then
   (sg ae ai ao).bind fun v3=>
   some (v3.1,v3.2.1,v3.2.2)
  else
   some ((8:Int),ae,ao)) (fun n2=>
  if ai.Kind=(1:Int) then
   (sg ae ai ao).bind fun v6=>
   some (v6.1,v6.2.1,v6.2.2)
  else
   (idx ao n2).bind fun v9=>
   if v9.State=(4:Int) then
    some ((11:Int),ae,ao)
   else
    if ai.Kind=(2:Int) then
     if v9.State≠(1:Int) then
      some ((11:Int),ae,ao)
     else
      k7 ae (ao.set n2.toNat (⟨(⟨v9.Device.Key,v9.Device.Model,ai.aK,v9.Device.ak,v9.Device.bn⟩:gh),v9.az,(2:Int),v9.aY⟩:aX))
    else
     if ai.Kind=(3:Int) then
      if v9.Device.aK=([]:ax) then
       some ((11:Int),ae,ao)
      else
       k8 ae (ao.set n2.toNat (⟨(⟨v9.Device.Key,v9.Device.Model,([]:ax),v9.Device.ak,[]⟩:gh),v9.az,(1:Int),v9.aY⟩:aX))
     else
      if ai.Kind=(4:Int) then
       (tt ae n2 ai ao).bind fun v17=>
       some (v17.1,ae,v17.2)
      else
       if ai.Kind=(5:Int) then
        if v9.Device.ak=ai.ak then
         some ((6:Int),ae,ao)
        else
         k9 ae (ao.set n2.toNat (⟨(⟨v9.Device.Key,v9.Device.Model,v9.Device.aK,ai.ak,v9.Device.bn⟩:gh),v9.az,v9.State,v9.aY⟩:aX))
       else
        if ai.Kind=(6:Int) then
         (tu v9 ai).bind fun v22=>
         some (v22.1,ae,ao.set n2.toNat v22.2)
        else
         if ai.Kind=(7:Int) then
          if v9.State≠(2:Int) then
           some ((11:Int),ae,ao)
          else
           lf ae (ao.set n2.toNat (⟨v9.Device,v9.az,(3:Int),v9.aY⟩:aX))
         else
          if ai.Kind=(8:Int) then
           if v9.State≠(3:Int) then
            some ((11:Int),ae,ao)
           else
            lg ae (ao.set n2.toNat (⟨v9.Device,v9.az,(2:Int),v9.aY⟩:aX))
          else
           oH ae ai n2 v9 (ao.set n2.toNat (⟨v9.Device,v9.az,(4:Int),v9.aY⟩:aX)) (0:Int))
def mf (n18:Int) (v22:Int×(List (ax×Int))×(List aX)) (yn:List bd):Option (((List aX)×(List (ax×Int))×(List bd)×Int)⊕(((List (ax×Int))×(List aX))×(List bd))):=
 some (.inl (v22.2.2,v22.2.1,yn,aU (n18+(1:Int))))
def ib (ae:List ab) (tj:List aX) (zY:List (ax×Int)) (ES:List bd) (n18:Int):Option (((List aX)×(List (ax×Int))×(List bd)×Int)⊕(((List (ax×Int))×(List aX))×(List bd))):=
 if n18 < (ae.length:Int) then
  (idx ae n18).bind fun v20=>
  (ry zY v20 tj).bind fun v22=>
  if v22.1≠(0:Int) then
   (app ES [(⟨n18,v22.1⟩:bd)]).bind fun TB=>
   mf n18 v22 TB
  else
   mf n18 v22 ES
 else
  Option.map .inr (some ((zY,tj),ES))
def ov (ae:List ab) (tj:List aX) (zY:List (ax×Int)) (ES:List bd) (n18:Int):Option (((List (ax×Int))×(List aX))×(List bd)):=
 iter (fun x:(List aX)×(List (ax×Int))×(List bd)×Int=>ib ae x.1 x.2.1 x.2.2.1 x.2.2.2) (tj,zY,ES,n18)
def pQ (ae:List ab):Option (((List (ax×Int))×(List aX))×(List bd)):=
 ov ae [] [] [] (0:Int)
def ng (n9:Int) (l10:List (ax×Bool)) (n11:Int) (v12:ab) (n14:Int):Option ((Int×Int×(List (ax×Bool))×Int)⊕((List ab)×Int)):=
 some (.inl (n14,max n9 (aU (v12.aO+(1:Int))),gm l10 v12.cj true,aU (n11+(1:Int))))
def o7 (vV:List ab) (Qr:Bool):Option ((List ab)×Int):=
 if Qr=true then
  some ([],(2:Int))
 else
  some (vV,(0:Int))
def gV (l10:List (ax×Bool)) (vV:List ab) (v20:((List (ax×Int))×(List aX))×(List bd)) (IV:Bool):Option ((List ab)×Int):=
 if IV=true then
  (idx v20.2 (aU ((v20.2.length:Int) - (1:Int)))).bind fun v28=>
  some ([],v28.Ru)
 else
  o7 vV ((decide ((3000:Int) < (vV.length:Int)))||(decide ((20:Int) < (l10.length:Int))))
def lJ (ae:List Model) (ai:List ab) (ao:ab) (n8:Int) (n9:Int) (l10:List (ax×Bool)):Option ((List ab)×Int):=
 (lG ae (⟨ao.cj,n8,n9,ao.At,ao.Kind,ao.Device,ao.Model,ao.aK,ao.az,ao.Key,ao.Name,ao.Value,ao.aW,ao.ak⟩:ab)).bind fun pH=>
 if pH≠(0:Int) then
  some ([],pH)
 else
  (df ai).bind fun qL=>
  (app qL [(⟨ao.cj,n8,n9,ao.At,ao.Kind,ao.Device,ao.Model,ao.aK,ao.az,ao.Key,ao.Name,ao.Value,ao.aW,ao.ak⟩:ab)]).bind fun vV=>
  (pQ vV).bind fun v20=>
  if (0:Int) < (v20.2.length:Int) then
   (idx v20.2 (aU ((v20.2.length:Int) - (1:Int)))).bind fun Bc=>
   gV l10 vV v20 (decide (Bc.Event=(ai.length:Int)))
  else
   gV l10 vV v20 false
def jd (ae:List Model) (ai:List ab) (ao:ab) (n8:Int) (n9:Int) (l10:List (ax×Bool)) (n11:Int):Option ((Int×Int×(List (ax×Bool))×Int)⊕((List ab)×Int)):=
 if n11 < (ai.length:Int) then
  (idx ai n11).bind fun v12=>
  if v12.cj=ao.cj then
   ng n9 l10 n11 v12 (max n8 (aU (v12.No+(1:Int))))
  else
   ng n9 l10 n11 v12 n8
 else
  Option.map .inr (lJ ae ai ao n8 n9 l10)
def sh (ae:List Model) (ai:List ab) (ao:ab) (n8:Int) (n9:Int) (l10:List (ax×Bool)) (n11:Int):Option ((List ab)×Int):=
 iter (fun x:Int×Int×(List (ax×Bool))×Int=>jd ae ai ao x.1 x.2.1 x.2.2.1 x.2.2.2) (n8,n9,l10,n11)
def o8 (ae:List Model) (ai:List ab) (ao:ab) (c2:Bool):Option ((List ab)×Int):=
 if c2=true then
  some ([],(3:Int))
 else
  sh ae ai ao (1:Int) (1:Int) (gm ([]:List (ax×Bool)) ao.cj true) (0:Int)
def rz (ae:List Model) (ai:List ab) (ao:ab):Option ((List ab)×Int):=
 o8 ae ai ao ((decide (ao.No≠(0:Int)))||(decide (ao.aO≠(0:Int))))
def eS (ae:List ab) (ai:List ab) (n2:Int):Option (Int⊕Bool):=
 if n2 < (ae.length:Int) then
  (idx ae n2).bind fun v3=>
  (idx ai n2).bind fun v4=>
  if v3≠v4 then
   Option.map .inr (some false)
  else
   some (.inl (aU (n2+(1:Int))))
 else
  Option.map .inr (some true)
def o9 (ae:List ab) (ai:List ab) (n2:Int):Option Bool:=
 iter (fun x:Int=>eS ae ai x) n2
def eD (ae:List ab) (ai:List ab):Option Bool:=
 if (ae.length:Int)≠(ai.length:Int) then
  some false
 else
  o9 ae ai (0:Int)
def dH (ae:List bd) (ai:List bd) (n2:Int):Option (Int⊕Bool):=
 if n2 < (ae.length:Int) then
  (idx ae n2).bind fun v3=>
  (idx ai n2).bind fun v4=>
  if v3≠v4 then
   Option.map .inr (some false)
  else
   some (.inl (aU (n2+(1:Int))))
 else
  Option.map .inr (some true)
def nD (ae:List bd) (ai:List bd) (n2:Int):Option Bool:=
 iter (fun x:Int=>dH ae ai x) n2
def cY (ae:List bd) (ai:List bd):Option Bool:=
 if (ae.length:Int)≠(ai.length:Int) then
  some false
 else
  nD ae ai (0:Int)
def eG (Qs:Bool):Option Bool:=
 some Qs
def dM (Qt:Bool):Option Bool:=
 some Qt
def fO (v2:(List Model)×an) (v4:(List ab)×an) (v7:ab×an) (v9:ax×an) (n11:Int):Option Bool:=
 (lC v2.1 v4.1 (⟨v9.1,n11,v7.1.aO,v7.1.At,v7.1.Kind,v7.1.Device,v7.1.Model,v7.1.aK,v7.1.az,v7.1.Key,v7.1.Name,v7.1.Value,v7.1.aW,v7.1.ak⟩:ab)).bind fun v12=>
 (jG v2.1 v4.1).bind fun sv=>
 (mc v2.1).bind fun qL=>
 (kH v2.1 v4.1).bind fun v17=>
 (o5 [qL,v17]).bind fun Hp=>
 if Hp≠(0:Int) then
  if v12.2=Hp then
   if sv.2=Hp then
    if (aU ((v12.1.length:Int)+(sv.1.length:Int)))=(0:Int) then
     (po).bind fun v20=>
     eG v20
    else
     eG false
   else
    eG false
  else
   eG false
 else
  (rz v2.1 v4.1 (⟨v9.1,n11,v7.1.aO,v7.1.At,v7.1.Kind,v7.1.Device,v7.1.Model,v7.1.aK,v7.1.az,v7.1.Key,v7.1.Name,v7.1.Value,v7.1.aW,v7.1.ak⟩:ab)).bind fun v21=>
  (pQ v4.1).bind fun v22=>
  if v12.2=v21.2 then
   (eD v12.1 v21.1).bind fun nu=>
   if nu=true then
    if sv.2=(0:Int) then
     (cY sv.1 v22.2).bind fun v30=>
     if v30=true then
      (po).bind fun v31=>
      dM v31
     else
      dM false
    else
     dM false
   else
    dM false
  else
   dM false
def kA (ae:List Int):Option Bool:=
 (mW (⟨ae,(0:Int)⟩:an)).bind fun v2=>
 (jV v2.2 (0:Int) (12:Int)).bind fun v3=>
 (lZ v3.2 v3.1).bind fun v4=>
 (cS v4.2 [(0:Int),(50:Int),(200:Int)]).bind fun v6=>
 (im v6.2 v6.1).bind fun v7=>
 (bI v7.2 [([104,97]:ax),([104,98]:ax),([104,99]:ax),([65]:ax)]).bind fun v9=>
 (ia v9.2 (15:Int)).bind fun v10=>
 if v10.1=true then
  fO v2 v4 v7 v9 (1:Int)
 else
  fO v2 v4 v7 v9 v7.1.No
end
end Go.Beacon
