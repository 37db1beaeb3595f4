/- Plain functions that the Go functions compute, written by shal.py. -/
import Derived.Test.YtifmjkaghhkhfaaGreatDoorCore
set_option linter.unusedVariables false
namespace Go.Beacon
open Go Go.Eng
noncomputable section
structure ak where
 L:List Int
 at_:Int
deriving DecidableEq,Inhabited
structure bW where
 kM:Int
 ao:Int
 Calm:Int
deriving DecidableEq,Inhabited
def bW.av (x:bW):AV:=.agg [I x.kM,I x.ao,I x.Calm]
structure cP where
 Device:aS
 fk:aS
deriving DecidableEq,Inhabited
def cP.av (x:cP):AV:=.agg [.str x.Device,.str x.fk]
structure bC where
 aZ:aS
 Level:Int
 o1:Bool
deriving DecidableEq,Inhabited
def bC.av (x:bC):AV:=.agg [.str x.aZ,I x.Level,.bool x.o1]
structure bd where
 bW:bW
 Links:List cP
 aW:List bC
deriving DecidableEq,Inhabited
def bd.av (x:bd):AV:=.agg [I x.bW.kM,I x.bW.ao,I x.bW.Calm,.list 2 (x.Links.map cP.av),.list 3 (x.aW.map bC.av)]
structure Signal where
 At:Int
 Kind:Int
 Device:aS
 aZ:aS
 By:aS
 bh:Int
deriving DecidableEq,Inhabited
def Signal.av (x:Signal):AV:=.agg [I x.At,I x.Kind,.str x.Device,.str x.aZ,.str x.By,I x.bh]
structure aH where
 Device:aS
 aZ:aS
 State:Int
 Since:Int
 o3:Int
 gP:Int
deriving DecidableEq,Inhabited
def aH.av (x:aH):AV:=.agg [.str x.Device,.str x.aZ,I x.State,I x.Since,I x.o3,I x.gP]
structure bE where
 mz:List (aS×bC)
 pP:List (aS×aS)
 o4:List aH
 o5:List (aS×Bool)
deriving DecidableEq,Inhabited
structure al where
 aO:aS
 bf:aS
deriving DecidableEq,Inhabited
def al.av (x:al):AV:=.agg [.str x.aO,.str x.bf]
instance:x8 al:=⟨fun a b=>(x8.lt a.aO b.aO||(decide (a.aO=b.aO)&&(x8.lt a.bf b.bf||(decide (a.bf=b.bf)&&false))))⟩
structure ao where
 dR:Int
 To:Int
deriving DecidableEq,Inhabited
def ao.av (x:ao):AV:=.agg [I x.dR,I x.To]
structure ar where
 bz:al
 aK:Int
 cr:Int
 aQ:List Int
 az:Int
 nH:List ao
 bN:List ao
 bx:List ao
 cq:List Int
 bH:List Int
deriving DecidableEq,Inhabited
structure bI where
 sW:List (al×Int)
 ew:List Int
 wQ:List ar
deriving DecidableEq,Inhabited
structure an where
 aO:aS
 bf:aS
 bK:List Signal
 aK:Int
 az:ao
deriving DecidableEq,Inhabited
structure dh where
 Event:Int
 Why:Int
deriving DecidableEq,Inhabited
def dh.av (x:dh):AV:=.agg [I x.Event,I x.Why]
structure Shown where
 aH:aH
 Level:Int
 Below:Int
deriving DecidableEq,Inhabited
def Shown.av (x:Shown):AV:=.agg [.str x.aH.Device,.str x.aH.aZ,I x.aH.State,I x.aH.Since,I x.aH.o3,I x.aH.gP,I x.Level,I x.Below]
def vG (n2:Int):Option Int:=
 some n2
def Below (aa:Int) (ai:Int):Option Int:=
 if ai < (1:Int) then
  some (0:Int)
 else
  (rem aa ai).bind fun n1=>
  if n1 < (0:Int) then
   vG (aN (n1+ai))
  else
   vG n1
def fo (aa:ak) (ai:Int):Option (Int×ak):=
 if (aa.L.length:Int)=(0:Int) then
  (Below (aN ((aN (aa.at_+(1:Int))) * (7919:Int))) ai).bind fun v1=>
  some (v1,(⟨aa.L,aN (aa.at_+(1:Int))⟩:ak))
 else
  (rem (aN ((aN (aa.at_+(1:Int))) - (1:Int))) (aa.L.length:Int)).bind fun n2=>
  (quo (aN ((aN (aa.at_+(1:Int))) - (1:Int))) (aa.L.length:Int)).bind fun n3=>
  (idx aa.L n2).bind fun v4=>
  (Below v4 (1073741824:Int)).bind fun v5=>
  (Below (aN (v5+(aN (n3 * (aN ((7919:Int)+n2)))))) ai).bind fun v6=>
  some (v6,(⟨aa.L,aN (aa.at_+(1:Int))⟩:ak))
def cw (aa:ak) (ai:List Int):Option (Int×ak):=
 (fo aa (ai.length:Int)).bind fun v1=>
 (idx ai v1.1).bind fun v2=>
 some (v2,v1.2)
def fq (aa:ak) (ai:Int):Option (Bool×ak):=
 (fo aa ai).bind fun v1=>
 some (decide (v1.1=(0:Int)),v1.2)
def fr (aa:ak) (ai:List aS):Option (aS×ak):=
 (fo aa (ai.length:Int)).bind fun v1=>
 (idx ai v1.1).bind fun v2=>
 some (v2,v1.2)
def jS (aa:ak) (ai:Int) (aq:Int):Option (Int×ak):=
 if aq < ai then
  some (ai,aa)
 else
  (fo aa (aN ((aN (aq - ai))+(1:Int)))).bind fun v1=>
  some (aN (ai+v1.1),v1.2)
def iB (n15:Int) (sv:List Int) (n20:Int) (wR:List cP):Option (((List Int)×Int×(List cP)×Int)⊕(bd×ak)):=
 some (.inl (sv,n20,wR,aN (n15+(1:Int))))
def iC (n40:Int) (Bl:List Int) (n45:Int) (vl:List bC):Option (((List Int)×Int×(List bC)×Int)⊕(bd×ak)):=
 some (.inl (Bl,n45,vl,aN (n40+(1:Int))))
def iD (v2:Int×ak) (v3:Int×ak) (v4:Int×ak) (yh:List cP) (Pa:List Int) (n37:Int) (B8:List bC) (n40:Int):Option (((List Int)×Int×(List bC)×Int)⊕(bd×ak)):=
 if n40 < ([([114,97]:aS),([114,98]:aS)].length:Int) then
  (idx [([114,97]:aS),([114,98]:aS)] n40).bind fun ID=>
  (fq (⟨Pa,n37⟩:ak) (3:Int)).bind fun zc=>
  if (!zc.1)=true then
   (jS zc.2 (1:Int) (9:Int)).bind fun bD=>
   (fq bD.2 (3:Int)).bind fun v49=>
   (app B8 [(⟨ID,bD.1,!v49.1⟩:bC)]).bind fun wS=>
   iC n40 v49.2.L v49.2.at_ wS
  else
   iC n40 zc.2.L zc.2.at_ B8
 else
  Option.map .inr (some ((⟨(⟨v2.1,v3.1,v4.1⟩:bW),yh,B8⟩:bd),(⟨Pa,n37⟩:ak)))
def qs (v2:Int×ak) (v3:Int×ak) (v4:Int×ak) (yh:List cP) (Pa:List Int) (n37:Int) (B8:List bC) (n40:Int):Option (bd×ak):=
 iter (fun x:(List Int)×Int×(List bC)×Int=>iD v2 v3 v4 yh x.1 x.2.1 x.2.2.1 x.2.2.2) (Pa,n37,B8,n40)
def fV (v2:Int×ak) (v3:Int×ak) (v4:Int×ak) (v26:Bool×ak) (yh:List cP):Option (bd×ak):=
 qs v2 v3 v4 yh v26.2.L v26.2.at_ [] (0:Int)
def jT (v2:Int×ak) (v3:Int×ak) (v4:Int×ak) (iY:List Int) (n12:Int) (oG:List cP):Option (bd×ak):=
 (fq (⟨iY,n12⟩:ak) (2:Int)).bind fun v26=>
 if v26.1=true then
  (app oG [(⟨([100,103]:aS),([100,104]:aS)⟩:cP)]).bind fun oN=>
  fV v2 v3 v4 v26 oN
 else
  fV v2 v3 v4 v26 oG
def iE (v2:Int×ak) (v3:Int×ak) (v4:Int×ak) (iY:List Int) (n12:Int) (oG:List cP) (n15:Int):Option (((List Int)×Int×(List cP)×Int)⊕(bd×ak)):=
 if n15 < ([([100,97]:aS),([100,98]:aS),([100,99]:aS)].length:Int) then
  (idx [([100,97]:aS),([100,98]:aS),([100,99]:aS)] n15).bind fun v17=>
  (fq (⟨iY,n12⟩:ak) (3:Int)).bind fun zK=>
  if (!zK.1)=true then
   (fr zK.2 [([100,103]:aS),([100,103]:aS),([100,104]:aS)]).bind fun v23=>
   (app oG [(⟨v17,v23.1⟩:cP)]).bind fun Tj=>
   iB n15 v23.2.L v23.2.at_ Tj
  else
   iB n15 zK.2.L zK.2.at_ oG
 else
  Option.map .inr (jT v2 v3 v4 iY n12 oG)
def qt (v2:Int×ak) (v3:Int×ak) (v4:Int×ak) (iY:List Int) (n12:Int) (oG:List cP) (n15:Int):Option (bd×ak):=
 iter (fun x:(List Int)×Int×(List cP)×Int=>iE v2 v3 v4 x.1 x.2.1 x.2.2.1 x.2.2.2) (iY,n12,oG,n15)
def jU (aa:ak):Option (bd×ak):=
 (cw aa [(2:Int),(3:Int),(9:Int)]).bind fun v2=>
 (cw v2.2 [(10:Int),(30:Int)]).bind fun v3=>
 (cw v3.2 [(5:Int),(20:Int)]).bind fun v4=>
 qt v2 v3 v4 v4.2.L v4.2.at_ [] (0:Int)
def kB (aa:ak) (ai:Int) (aq:Int):Option (Int×ak):=
 (fq aa (12:Int)).bind fun v1=>
 if v1.1=true then
  (cw v1.2 [aN (ai - (1:Int)),aN (aq+(1:Int)),ai,aq,(-1099511627776:Int),(1099511627776:Int)]).bind fun v2=>
  some (v2.1,v2.2)
 else
  (jS v1.2 ai aq).bind fun v3=>
  some (v3.1,v3.2)
def mM (l7:List Int) (n8:Int) (n9:Int) (n10:Int) (n11:Int):Option (bW×ak):=
 some ((⟨n9,n10,n11⟩:bW),(⟨l7,n8⟩:ak))
def qu (aa:ak):Option (bW×ak):=
 (cw aa [(2:Int),(2:Int),(3:Int)]).bind fun v2=>
 (cw v2.2 [(10:Int),(30:Int),(100:Int)]).bind fun v3=>
 (cw v3.2 [(5:Int),(20:Int),(60:Int)]).bind fun v4=>
 (fq v4.2 (25:Int)).bind fun v6=>
 if v6.1=true then
  (kB v6.2 (2:Int) (1000:Int)).bind fun v12=>
  (kB v12.2 (1:Int) (2592000000:Int)).bind fun gb=>
  (kB gb.2 (1:Int) (2592000000:Int)).bind fun gh=>
  mM gh.2.L gh.2.at_ v12.1 gb.1 gh.1
 else
  mM v6.2.L v6.2.at_ v2.1 v3.1 v4.1
def mb (l7:List Int) (n8:Int) (n9:Int) (n10:Int) (n11:Int) (uw:List cP) (oh:List bC):Option (bd×ak):=
 some ((⟨(⟨n9,n10,n11⟩:bW),uw,oh⟩:bd),(⟨l7,n8⟩:ak))
def mc (Bm:List Int) (n18:Int) (n19:Int) (n20:Int) (n21:Int) (vh:List cP) (wT:List bC):Option (bd×ak):=
 mb Bm n18 n19 n20 n21 vh wT
def me (v2:bd×ak) (w8:List Int) (n28:Int) (Ov:List cP) (H5:List bC):Option (bd×ak):=
 mc w8 n28 v2.1.bW.kM v2.1.bW.ao v2.1.bW.Calm Ov H5
def o6 (aa:ak):Option (bd×ak):=
 (jU aa).bind fun v2=>
 (fq v2.2 (12:Int)).bind fun v6=>
 if v6.1=true then
  (fo v6.2 (3:Int)).bind fun kS=>
  if kS.1=(0:Int) then
   (qu kS.2).bind fun v26=>
   mc v26.2.L v26.2.at_ v26.1.kM v26.1.ao v26.1.Calm v2.1.Links v2.1.aW
  else
   if kS.1=(1:Int) then
    (fr kS.2 [([100,104]:aS),([100,105]:aS),([]:aS),([100,97]:aS)]).bind fun v33=>
    (fr v33.2 [([100,97]:aS),([100,103]:aS),([65]:aS),([100,105]:aS)]).bind fun oH=>
    (app v2.1.Links [(⟨v33.1,oH.1⟩:cP)]).bind fun zd=>
    me v2 oH.2.L oH.2.at_ zd v2.1.aW
   else
    (fr kS.2 [([]:aS),([114,97]:aS),([114,122]:aS)]).bind fun v37=>
    (kB v37.2 (1:Int) (9:Int)).bind fun Ah=>
    (app v2.1.aW [(⟨v37.1,Ah.1,false⟩:bC)]).bind fun B8=>
    me v2 Ah.2.L Ah.2.at_ v2.1.Links B8
 else
  mb v6.2.L v6.2.at_ v2.1.bW.kM v2.1.bW.ao v2.1.bW.Calm v2.1.Links v2.1.aW
def cmp_isNaN_int (aa:Int):Bool:=
 decide (aa≠aa)
def cmp_Compare_int (aa:Int) (ai:Int):Int:=
 if (cmp_isNaN_int aa)=true then
  if (cmp_isNaN_int ai)=true then
   (0:Int)
  else
   (-1:Int)
 else
  if (cmp_isNaN_int ai)=true then
   (1:Int)
  else
   if aa < ai then
    (-1:Int)
   else
    if ai < aa then
     (1:Int)
    else
     (0:Int)
def qa (aa:List Int) (n2:Int):Option (Int⊕Int):=
 if n2 < (aa.length:Int) then
  (idx aa n2).bind fun v3=>
  if v3≠(0:Int) then
   Option.map .inr (some v3)
  else
   some (.inl (aN (n2+(1:Int))))
 else
  Option.map .inr (some (0:Int))
def B9 (aa:List Int) (n2:Int):Option Int:=
 iter (fun x:Int=>qa aa x) n2
def gj (aa:List Int):Option Int:=
 B9 aa (0:Int)
def jm (aa:Signal) (ai:Signal):Option Int:=
 (gj [(cmp_Compare_int aa.At ai.At),(Lib.compareBytes aa.Device ai.Device),(Lib.compareBytes aa.aZ ai.aZ),(cmp_Compare_int aa.Kind ai.Kind)]).bind fun v3=>
 some v3
def cK (n4:Int) (l7:List Signal) (n8:Int) (c9:Bool):Option (((List Signal)×Int)⊕(((List Signal)×Int)⊕(List Signal))):=
 if c9=true then
  (idx l7 (aN (n8 - (1:Int)))).bind fun gb=>
  (idx l7 n8).bind fun gh=>
  (idx l7 n8).bind fun rS=>
  (idx (l7.set n8.toNat gb) (aN (n8 - (1:Int)))).bind fun kS=>
  some (.inl ((l7.set n8.toNat gb).set (aN (n8 - (1:Int))).toNat gh,aN (n8 - (1:Int))))
 else
  Option.map .inr (some (.inl (l7,aN (n4+(1:Int)))))
def cL (ai:Int) (ml:Signal→Signal→Option Int) (n4:Int) (l7:List Signal) (n8:Int):Option (((List Signal)×Int)⊕(((List Signal)×Int)⊕(List Signal))):=
 if ai < n8 then
  (idx l7 n8).bind fun v10=>
  (idx l7 (aN (n8 - (1:Int)))).bind fun v11=>
  (ml v10 v11).bind fun v12=>
  cK n4 l7 n8 (decide (v12 < (0:Int)))
 else
  cK n4 l7 n8 false
def np (ai:Int) (ml:Signal→Signal→Option Int) (n4:Int) (l7:List Signal) (n8:Int):Option (((List Signal)×Int)⊕(List Signal)):=
 iter (fun x:(List Signal)×Int=>cL ai ml n4 x.1 x.2) (l7,n8)
def cM (ai:Int) (aq:Int) (ml:Signal→Signal→Option Int) (l3:List Signal) (n4:Int):Option (((List Signal)×Int)⊕(List Signal)):=
 if n4 < aq then
  np ai ml n4 l3 n4
 else
  Option.map .inr (some l3)
def nq (ai:Int) (aq:Int) (ml:Signal→Signal→Option Int) (l3:List Signal) (n4:Int):Option (List Signal):=
 iter (fun x:(List Signal)×Int=>cM ai aq ml x.1 x.2) (l3,n4)
def ct (aa:List Signal) (ai:Int) (aq:Int) (ml:Signal→Signal→Option Int):Option (List Signal):=
 nq ai aq ml aa (aN (ai+(1:Int)))
def dE (ai:Int) (aq:Int) (aT:Int) (l3:List Signal) (n4:Int):Option (((List Signal)×Int)⊕(List Signal)):=
 if n4 < aT then
  (idx l3 (aN (aq+n4))).bind fun v5=>
  (idx l3 (aN (ai+n4))).bind fun v6=>
  (idx l3 (aN (ai+n4))).bind fun v7=>
  (idx (l3.set (aN (ai+n4)).toNat v5) (aN (aq+n4))).bind fun v8=>
  some (.inl ((l3.set (aN (ai+n4)).toNat v5).set (aN (aq+n4)).toNat v6,aN (n4+(1:Int))))
 else
  Option.map .inr (some l3)
def oO (ai:Int) (aq:Int) (aT:Int) (l3:List Signal) (n4:Int):Option (List Signal):=
 iter (fun x:(List Signal)×Int=>dE ai aq aT x.1 x.2) (l3,n4)
def da (aa:List Signal) (ai:Int) (aq:Int) (aT:Int) (dt:Signal→Signal→Option Int):Option (List Signal):=
 oO ai aq aT aa (0:Int)
def eZ (l7:List Signal) (n8:Int) (n9:Int):Option (((List Signal)×Int×Int)⊕(List Signal)):=
 some (.inl (l7,n8,n9))
def kT (aq:Int) (dt:Signal→Signal→Option Int) (l4:List Signal) (n5:Int):Option (List Signal):=
 (iK l4.length (fun r:(List Signal)=>r.length) (da l4 (aN (aq - n5)) aq n5 dt)).bind fun v12=>
 some v12
def fa (aq:Int) (dt:Signal→Signal→Option Int) (l4:List Signal) (n5:Int) (n6:Int):Option (((List Signal)×Int×Int)⊕(List Signal)):=
 if n5≠n6 then
  if n6 < n5 then
   (iK l4.length (fun r:(List Signal)=>r.length) (da l4 (aN (aq - n5)) aq n6 dt)).bind fun v10=>
   eZ v10 (aN (n5 - n6)) n6
  else
   (iK l4.length (fun r:(List Signal)=>r.length) (da l4 (aN (aq - n5)) (aN ((aN (aq+n6)) - n5)) n5 dt)).bind fun v11=>
   eZ v11 n5 (aN (n6 - n5))
 else
  Option.map .inr (kT aq dt l4 n5)
def pQ (aq:Int) (dt:Signal→Signal→Option Int) (l4:List Signal) (n5:Int) (n6:Int):Option (List Signal):=
 iter (fun x:(List Signal)×Int×Int=>fa aq dt x.1 x.2.1 x.2.2) (l4,n5,n6)
def ji (aa:List Signal) (ai:Int) (aq:Int) (aT:Int) (dt:Signal→Signal→Option Int):Option (List Signal):=
 pQ aq dt aa (aN (aq - ai)) (aN (aT - aq))
def dS (n8:Int) (n9:Int):Option ((Int×Int)⊕(List Signal)):=
 some (.inl (n8,n9))
def dU (n3:Int) (ly:List Signal) (n13:Int):Option (((List Signal)×Int)⊕(List Signal)):=
 if n13 < (aN (n3 - (1:Int))) then
  (idx ly (aN (n13+(1:Int)))).bind fun gh=>
  (idx ly n13).bind fun rS=>
  (idx ly n13).bind fun kS=>
  (idx (ly.set n13.toNat gh) (aN (n13+(1:Int)))).bind fun v17=>
  some (.inl ((ly.set n13.toNat gh).set (aN (n13+(1:Int))).toNat rS,aN (n13+(1:Int))))
 else
  Option.map .inr (some ly)
def o7 (n3:Int) (ly:List Signal) (n13:Int):Option (List Signal):=
 iter (fun x:(List Signal)×Int=>dU n3 x.1 x.2) (ly,n13)
def dV (aa:List Signal) (ai:Int) (dt:Signal→Signal→Option Int) (n3:Int) (n4:Int):Option ((Int×Int)⊕(List Signal)):=
 if n3 < n4 then
  (idx aa (aN (bX .u64 (IntKind.u64.wrap (aN (n3+n4))) (1:Int)))).bind fun v5=>
  (idx aa ai).bind fun v6=>
  (dt v5 v6).bind fun v7=>
  if v7 < (0:Int) then
   dS (aN ((aN (bX .u64 (IntKind.u64.wrap (aN (n3+n4))) (1:Int)))+(1:Int))) n4
  else
   dS n3 (aN (bX .u64 (IntKind.u64.wrap (aN (n3+n4))) (1:Int)))
 else
  Option.map .inr (o7 n3 aa ai)
def o8 (aa:List Signal) (ai:Int) (dt:Signal→Signal→Option Int) (n3:Int) (n4:Int):Option (List Signal):=
 iter (fun x:Int×Int=>dV aa ai dt x.1 x.2) (n3,n4)
def dW (n25:Int) (n26:Int):Option ((Int×Int)⊕(List Signal)):=
 some (.inl (n25,n26))
def dX (n20:Int) (oN:List Signal) (n30:Int):Option (((List Signal)×Int)⊕(List Signal)):=
 if n20 < n30 then
  (idx oN (aN (n30 - (1:Int)))).bind fun v31=>
  (idx oN n30).bind fun v32=>
  (idx oN n30).bind fun v33=>
  (idx (oN.set n30.toNat v31) (aN (n30 - (1:Int)))).bind fun oH=>
  some (.inl ((oN.set n30.toNat v31).set (aN (n30 - (1:Int))).toNat v32,aN (n30 - (1:Int))))
 else
  Option.map .inr (some oN)
def o9 (n20:Int) (oN:List Signal) (n30:Int):Option (List Signal):=
 iter (fun x:(List Signal)×Int=>dX n20 x.1 x.2) (oN,n30)
def dY (aa:List Signal) (aq:Int) (dt:Signal→Signal→Option Int) (n20:Int) (n21:Int):Option ((Int×Int)⊕(List Signal)):=
 if n20 < n21 then
  (idx aa aq).bind fun v22=>
  (idx aa (aN (bX .u64 (IntKind.u64.wrap (aN (n20+n21))) (1:Int)))).bind fun v23=>
  (dt v22 v23).bind fun v24=>
  if ¬ (v24 < (0:Int)) then
   dW (aN ((aN (bX .u64 (IntKind.u64.wrap (aN (n20+n21))) (1:Int)))+(1:Int))) n21
  else
   dW n20 (aN (bX .u64 (IntKind.u64.wrap (aN (n20+n21))) (1:Int)))
 else
  Option.map .inr (o9 n20 aa aq)
def pa (aa:List Signal) (aq:Int) (dt:Signal→Signal→Option Int) (n20:Int) (n21:Int):Option (List Signal):=
 iter (fun x:Int×Int=>dY aa aq dt x.1 x.2) (n20,n21)
def dZ (n44:Int) (n45:Int):Option ((Int×Int)⊕(List Signal)):=
 some (.inl (n44,n45))
def dG (Gg:List Signal):Option (List Signal):=
 some Gg
def gl (self:(List Signal)→Int→Int→Int→(Signal→Signal→Option Int)→Option (List Signal)) (ai:Int) (aq:Int) (aT:Int) (dt:Signal→Signal→Option Int) (n39:Int) (wS:List Signal) (JQ:Bool):Option (List Signal):=
 if JQ=true then
  (iK wS.length (fun r:(List Signal)=>r.length) (self wS (aN (bX .u64 (IntKind.u64.wrap (aN (ai+aT))) (1:Int))) (aN ((aN ((aN (bX .u64 (IntKind.u64.wrap (aN (ai+aT))) (1:Int)))+aq)) - n39)) aT dt)).bind fun v54=>
  dG v54
 else
  dG wS
def ea (self:(List Signal)→Int→Int→Int→(Signal→Signal→Option Int)→Option (List Signal)) (ai:Int) (aq:Int) (aT:Int) (dt:Signal→Signal→Option Int) (n39:Int) (wS:List Signal):Option (List Signal):=
 gl self ai aq aT dt n39 wS ((decide ((aN (bX .u64 (IntKind.u64.wrap (aN (ai+aT))) (1:Int))) < (aN ((aN ((aN (bX .u64 (IntKind.u64.wrap (aN (ai+aT))) (1:Int)))+aq)) - n39))))&&(decide ((aN ((aN ((aN (bX .u64 (IntKind.u64.wrap (aN (ai+aT))) (1:Int)))+aq)) - n39)) < aT)))
def gm (self:(List Signal)→Int→Int→Int→(Signal→Signal→Option Int)→Option (List Signal)) (ai:Int) (aq:Int) (aT:Int) (dt:Signal→Signal→Option Int) (n39:Int) (vl:List Signal) (c49:Bool):Option (List Signal):=
 if c49=true then
  (iK vl.length (fun r:(List Signal)=>r.length) (self vl ai n39 (aN (bX .u64 (IntKind.u64.wrap (aN (ai+aT))) (1:Int))) dt)).bind fun v51=>
  ea self ai aq aT dt n39 v51
 else
  ea self ai aq aT dt n39 vl
def ec (self:(List Signal)→Int→Int→Int→(Signal→Signal→Option Int)→Option (List Signal)) (ai:Int) (aq:Int) (aT:Int) (dt:Signal→Signal→Option Int) (n39:Int) (vl:List Signal):Option (List Signal):=
 gm self ai aq aT dt n39 vl ((decide (ai < n39))&&(decide (n39 < (aN (bX .u64 (IntKind.u64.wrap (aN (ai+aT))) (1:Int))))))
def gn (self:(List Signal)→Int→Int→Int→(Signal→Signal→Option Int)→Option (List Signal)) (aa:List Signal) (ai:Int) (aq:Int) (aT:Int) (dt:Signal→Signal→Option Int) (n39:Int) (JR:Bool):Option (List Signal):=
 if JR=true then
  (iK aa.length (fun r:(List Signal)=>r.length) (ji aa n39 aq (aN ((aN ((aN (bX .u64 (IntKind.u64.wrap (aN (ai+aT))) (1:Int)))+aq)) - n39)) dt)).bind fun bD=>
  ec self ai aq aT dt n39 bD
 else
  ec self ai aq aT dt n39 aa
def ed (self:(List Signal)→Int→Int→Int→(Signal→Signal→Option Int)→Option (List Signal)) (aa:List Signal) (ai:Int) (aq:Int) (aT:Int) (dt:Signal→Signal→Option Int) (n39:Int) (n40:Int):Option ((Int×Int)⊕(List Signal)):=
 if n39 < n40 then
  (idx aa (aN ((aN ((aN ((aN (bX .u64 (IntKind.u64.wrap (aN (ai+aT))) (1:Int)))+aq)) - (1:Int))) - (aN (bX .u64 (IntKind.u64.wrap (aN (n39+n40))) (1:Int)))))).bind fun v41=>
  (idx aa (aN (bX .u64 (IntKind.u64.wrap (aN (n39+n40))) (1:Int)))).bind fun ID=>
  (dt v41 ID).bind fun zc=>
  if ¬ (zc < (0:Int)) then
   dZ (aN ((aN (bX .u64 (IntKind.u64.wrap (aN (n39+n40))) (1:Int)))+(1:Int))) n40
  else
   dZ n39 (aN (bX .u64 (IntKind.u64.wrap (aN (n39+n40))) (1:Int)))
 else
  Option.map .inr (gn self aa ai aq aT dt n39 ((decide (n39 < aq))&&(decide (aq < (aN ((aN ((aN (bX .u64 (IntKind.u64.wrap (aN (ai+aT))) (1:Int)))+aq)) - n39))))))
def pb (self:(List Signal)→Int→Int→Int→(Signal→Signal→Option Int)→Option (List Signal)) (aa:List Signal) (ai:Int) (aq:Int) (aT:Int) (dt:Signal→Signal→Option Int) (n39:Int) (n40:Int):Option (List Signal):=
 iter (fun x:Int×Int=>ed self aa ai aq aT dt x.1 x.2) (n39,n40)
def ee (self:(List Signal)→Int→Int→Int→(Signal→Signal→Option Int)→Option (List Signal)) (aa:List Signal) (ai:Int) (aq:Int) (aT:Int) (dt:Signal→Signal→Option Int) (n35:Int) (n36:Int):Option (List Signal):=
 pb self aa ai aq aT dt n35 n36
def gp (self:(List Signal)→Int→Int→Int→(Signal→Signal→Option Int)→Option (List Signal)) (aa:List Signal) (ai:Int) (aq:Int) (aT:Int) (dt:Signal→Signal→Option Int):Option (List Signal):=
 if (aN (aq - ai))=(1:Int) then
  o8 aa ai dt aq aT
 else
  if (aN (aT - aq))=(1:Int) then
   pa aa aq dt ai aq
  else
   if (aN (bX .u64 (IntKind.u64.wrap (aN (ai+aT))) (1:Int))) < aq then
    ee self aa ai aq aT dt (aN ((aN ((aN (bX .u64 (IntKind.u64.wrap (aN (ai+aT))) (1:Int)))+aq)) - aT)) (aN (bX .u64 (IntKind.u64.wrap (aN (ai+aT))) (1:Int)))
   else
    ee self aa ai aq aT dt ai aq
def gI:Nat→(List Signal)→Int→Int→Int→(Signal→Signal→Option Int)→Option (List Signal)
 | 0=>fun _ _ _ _ _=>none
 | k+1=>gp (gI k)
def iF (aa:List Signal) (ai:Int) (aq:Int) (aT:Int) (dt:Signal→Signal→Option Int):Option (List Signal):=
 gI depth aa ai aq aT dt
def fb (n12:Int) (qP:List Signal):Option (((List Signal)×Int)⊕(List Signal)):=
 some (.inl (qP,aN (n12 * (2:Int))))
def kU (ai:Int) (pc:Signal→Signal→Option Int) (n12:Int) (sX:List Signal) (n17:Int):Option (((List Signal)×Int)⊕(List Signal)):=
 if (aN (n17+n12)) < ai then
  (iK sX.length (fun r:(List Signal)=>r.length) (iF sX n17 (aN (n17+n12)) ai pc)).bind fun v21=>
  fb n12 v21
 else
  fb n12 sX
def fc (ai:Int) (pc:Signal→Signal→Option Int) (n12:Int) (sX:List Signal) (n17:Int) (n18:Int):Option (((List Signal)×Int×Int)⊕(((List Signal)×Int)⊕(List Signal))):=
 if n18≤ai then
  (iK sX.length (fun r:(List Signal)=>r.length) (iF sX n17 (aN (n17+n12)) n18 pc)).bind fun w9=>
  some (.inl (w9,n18,aN (n18+(aN ((2:Int) * n12)))))
 else
  Option.map .inr (kU ai pc n12 sX n17)
def pR (ai:Int) (pc:Signal→Signal→Option Int) (n12:Int) (sX:List Signal) (n17:Int) (n18:Int):Option (((List Signal)×Int)⊕(List Signal)):=
 iter (fun x:(List Signal)×Int×Int=>fc ai pc n12 x.1 x.2.1 x.2.2) (sX,n17,n18)
def db (ai:Int) (pc:Signal→Signal→Option Int) (iY:List Signal) (n12:Int):Option (((List Signal)×Int)⊕(List Signal)):=
 if n12 < ai then
  pR ai pc n12 iY (0:Int) (aN ((2:Int) * n12))
 else
  Option.map .inr (some iY)
def kV (ai:Int) (pc:Signal→Signal→Option Int) (iY:List Signal) (n12:Int):Option (List Signal):=
 iter (fun x:(List Signal)×Int=>db ai pc x.1 x.2) (iY,n12)
def gW (ai:Int) (pc:Signal→Signal→Option Int) (l4:List Signal) (n5:Int):Option (List Signal):=
 (iK l4.length (fun r:(List Signal)=>r.length) (ct l4 n5 ai pc)).bind fun v8=>
 kV ai pc v8 (20:Int)
def dc (ai:Int) (pc:Signal→Signal→Option Int) (l4:List Signal) (n5:Int) (n6:Int):Option (((List Signal)×Int×Int)⊕(List Signal)):=
 if n6≤ai then
  (iK l4.length (fun r:(List Signal)=>r.length) (ct l4 n5 n6 pc)).bind fun v7=>
  some (.inl (v7,n6,aN (n6+(20:Int))))
 else
  Option.map .inr (gW ai pc l4 n5)
def kW (ai:Int) (pc:Signal→Signal→Option Int) (l4:List Signal) (n5:Int) (n6:Int):Option (List Signal):=
 iter (fun x:(List Signal)×Int×Int=>dc ai pc x.1 x.2.1 x.2.2) (l4,n5,n6)
def ef (aa:List Signal) (ai:Int) (pc:Signal→Signal→Option Int):Option (List Signal):=
 kW ai pc aa (0:Int) (20:Int)
def ck (aa:List Signal) (dH:Signal→Signal→Option Int):Option (List Signal):=
 (iK aa.length (fun r:(List Signal)=>r.length) (ef aa (aa.length:Int) dH)).bind fun v1=>
 some v1
def jV (aa:Signal) (ai:Signal):Option Bool:=
 (jm aa ai).bind fun v3=>
 some (decide (v3=(0:Int)))
def di (n12:Int) (sX:List Signal) (n17:Int):Option (((List Signal)×Int×Int)⊕(Int⊕(List Signal))):=
 some (.inl (sX,n17,aN (n12+(1:Int))))
def jn (l10:List Signal) (n11:Int):Option (Int⊕(List Signal)):=
 (Av l10 n11 (l10.length:Int)).bind fun qP=>
 (Av (Ay l10 n11 qP.length (⟨(0:Int),(0:Int),[],[],[],(0:Int)⟩:Signal)) (0:Int) n11).bind fun Ai=>
 Option.map .inr (some Ai)
def dj (dH:Signal→Signal→Option Bool) (n2:Int) (l6:List Signal) (l10:List Signal) (n11:Int) (n12:Int):Option (((List Signal)×Int×Int)⊕(Int⊕(List Signal))):=
 if n12 < (l6.length:Int) then
  (wO l10 n2 l6.length n12).bind fun gb=>
  (wO l10 n2 l6.length (aN (n12 - (1:Int)))).bind fun gh=>
  (dH gb gh).bind fun rS=>
  if (!rS)=true then
   (wO l10 n2 l6.length n12).bind fun zK=>
   (idx l10 n11).bind fun w9=>
   di n12 (l10.set n11.toNat zK) (aN (n11+(1:Int)))
  else
   di n12 l10 n11
 else
  Option.map .inr (jn l10 n11)
def nK (dH:Signal→Signal→Option Bool) (n2:Int) (l6:List Signal) (l10:List Signal) (n11:Int) (n12:Int):Option (Int⊕(List Signal)):=
 iter (fun x:(List Signal)×Int×Int=>dj dH n2 l6 x.1 x.2.1 x.2.2) (l10,n11,n12)
def dm (aa:List Signal) (dH:Signal→Signal→Option Bool) (n2:Int):Option (Int⊕(List Signal)):=
 if n2 < (aa.length:Int) then
  (idx aa n2).bind fun v3=>
  (idx aa (aN (n2 - (1:Int)))).bind fun v4=>
  (dH v3 v4).bind fun v5=>
  if v5=true then
   (Av aa n2 (aa.length:Int)).bind fun l6=>
   nK dH n2 l6 aa n2 (1:Int)
  else
   some (.inl (aN (n2+(1:Int))))
 else
  Option.map .inr (some aa)
def nL (aa:List Signal) (dH:Signal→Signal→Option Bool) (n2:Int):Option (List Signal):=
 iter (fun x:Int=>dm aa dH x) n2
def eh (aa:List Signal) (dH:Signal→Signal→Option Bool):Option (List Signal):=
 if (aa.length:Int) < (2:Int) then
  some aa
 else
  nL aa dH (1:Int)
def iL (iY:List Signal) (n12:Int) (n13:Int) (kS:aS×ak) (v17:aS×ak) (n21:Int) (H6:aS) (w8:List Int) (n28:Int) (n29:Int):Option (((List Int)×Int×(List Signal)×Int×Int)⊕((List Signal)×ak)):=
 (app iY [(⟨n12,n21,kS.1,v17.1,H6,n29⟩:Signal)]).bind fun FU=>
 (cw (⟨w8,n28⟩:ak) [(0:Int),(1:Int),(3:Int),(10:Int),(40:Int)]).bind fun v33=>
 some (.inl (v33.2.L,v33.2.at_,FU,aN (n12+v33.1),aN (n13+(1:Int))))
def iM (iY:List Signal) (n12:Int) (n13:Int) (kS:aS×ak) (v17:aS×ak) (n21:Int) (vh:List Int) (n24:Int) (H6:aS):Option (((List Int)×Int×(List Signal)×Int×Int)⊕((List Signal)×ak)):=
 if n21=(4:Int) then
  (cw (⟨vh,n24⟩:ak) [(1:Int),(10:Int),(50:Int)]).bind fun v30=>
  iL iY n12 n13 kS v17 n21 H6 v30.2.L v30.2.at_ (aN (n12+v30.1))
 else
  iL iY n12 n13 kS v17 n21 H6 vh n24 (0:Int)
def iN (iY:List Signal) (n12:Int) (n13:Int) (kS:aS×ak) (v17:aS×ak) (sv:List Int) (n20:Int) (n21:Int):Option (((List Int)×Int×(List Signal)×Int×Int)⊕((List Signal)×ak)):=
 if (3:Int)≤n21 then
  (fr (⟨sv,n20⟩:ak) [([97,110,110]:aS),([98,111,98]:aS)]).bind fun v26=>
  iM iY n12 n13 kS v17 n21 v26.2.L v26.2.at_ v26.1
 else
  iM iY n12 n13 kS v17 n21 sv n20 []
def jW (Bl:List Int) (n45:Int) (Hg:List Signal):Option ((List Signal)×ak):=
 some (Hg,(⟨Bl,n45⟩:ak))
def iO (pS:List Signal) (xQ:List Int) (n41:Int) (Qm:Bool):Option ((List Signal)×ak):=
 if Qm=true then
  (fo (⟨xQ,n41⟩:ak) (pS.length:Int)).bind fun kX=>
  (idx pS kX.1).bind fun bD=>
  (cw kX.2 [bD.At,(-1:Int),(345686400000:Int)]).bind fun v49=>
  (kB v49.2 (1:Int) (5:Int)).bind fun v50=>
  (fr v50.2 [bD.By,([]:aS),([65]:aS)]).bind fun v51=>
  (cw v51.2 [bD.bh,(0:Int),bD.At,aN ((aN (bD.At+(2592000000:Int)))+(1:Int))]).bind fun Ef=>
  jW Ef.2.L Ef.2.at_ ((((pS.set kX.1.toNat (⟨v49.1,bD.Kind,bD.Device,bD.aZ,bD.By,bD.bh⟩:Signal)).set kX.1.toNat (⟨v49.1,v50.1,bD.Device,bD.aZ,bD.By,bD.bh⟩:Signal)).set kX.1.toNat (⟨v49.1,v50.1,bD.Device,bD.aZ,v51.1,bD.bh⟩:Signal)).set kX.1.toNat (⟨v49.1,v50.1,bD.Device,bD.aZ,v51.1,Ef.1⟩:Signal))
 else
  jW xQ n41 pS
def iP (v35:Bool×ak) (pS:List Signal):Option ((List Signal)×ak):=
 if (0:Int) < (pS.length:Int) then
  (fq v35.2 (20:Int)).bind fun zc=>
  iO pS zc.2.L zc.2.at_ zc.1
 else
  iO pS v35.2.L v35.2.at_ false
def pd (l8:List Int) (n9:Int) (iY:List Signal):Option ((List Signal)×ak):=
 (iK iY.length (fun r:(List Signal)=>r.length) (ck iY (fun y0 y1=>jm y0 y1))).bind fun oH=>
 (fq (⟨l8,n9⟩:ak) (20:Int)).bind fun v35=>
 if (!v35.1)=true then
  (eh oH (fun y0 y1=>jV y0 y1)).bind fun Ah=>
  iP v35 Ah
 else
  iP v35 oH
def jX (ai:Int) (aq:Bool) (l8:List Int) (n9:Int) (iY:List Signal) (n12:Int) (n13:Int):Option (((List Int)×Int×(List Signal)×Int×Int)⊕((List Signal)×ak)):=
 if n13 < ai then
  (cw (⟨l8,n9⟩:ak) [(1:Int),(1:Int),(2:Int),(2:Int),(3:Int),(3:Int),(4:Int),(5:Int)]).bind fun rS=>
  (fr rS.2 [([100,97]:aS),([100,97]:aS),([100,98]:aS),([100,103]:aS)]).bind fun kS=>
  (fr kS.2 [([114,97]:aS),([114,97]:aS),([114,98]:aS)]).bind fun v17=>
  if aq=true then
   (cw v17.2 [(3:Int),(3:Int),(4:Int),(5:Int)]).bind fun v22=>
   iN iY n12 n13 kS v17 v22.2.L v22.2.at_ v22.1
  else
   iN iY n12 n13 kS v17 v17.2.L v17.2.at_ rS.1
 else
  Option.map .inr (pd l8 n9 iY)
def td (ai:Int) (aq:Bool) (l8:List Int) (n9:Int) (iY:List Signal) (n12:Int) (n13:Int):Option ((List Signal)×ak):=
 iter (fun x:(List Int)×Int×(List Signal)×Int×Int=>jX ai aq x.1 x.2.1 x.2.2.1 x.2.2.2.1 x.2.2.2.2) (l8,n9,iY,n12,n13)
def mN (aa:ak) (ai:Int) (aq:Bool):Option ((List Signal)×ak):=
 (fo aa (20:Int)).bind fun v1=>
 td ai aq v1.2.L v1.2.at_ [] v1.1 (0:Int)
def qx (aa:ak):Option (Int×ak):=
 (fo aa (300:Int)).bind fun v1=>
 (fo v1.2 (300:Int)).bind fun v2=>
 (cw v2.2 [(345686399999:Int),(-1:Int),(345686400000:Int)]).bind fun v3=>
 (cw v3.2 [(0:Int),(5:Int),(20:Int),(40:Int),(60:Int),(80:Int),(120:Int),v1.1,v2.1,v3.1]).bind fun v4=>
 some (v4.1,v4.2)
def DG (c1:Bool):Bool:=
 c1
def ze (aa:Int) (ai:Int) (aq:Int):Bool:=
 DG ((decide (ai≤aa))&&(decide (aa≤aq)))
def pe (c2:Bool):Int:=
 if c2=true then
  (1:Int)
 else
  (0:Int)
def oI (aa:bW):Int:=
 pe ((!(ze aa.kM (2:Int) (1000:Int)))||((!(ze aa.ao (1:Int) (2592000000:Int)))||(!(ze aa.Calm (1:Int) (2592000000:Int)))))
def ub (c1:Bool):Option Bool:=
 some c1
def vH (aa:aS):Option Bool:=
 if (ze (aa.length:Int) (1:Int) (40:Int))=true then
  (E1 aa ([97,98,99,100,101,102,103,104,105,106,107,108,109,110,111,112,113,114,115,116,117,118,119,120,121,122,48,49,50,51,52,53,54,55,56,57,45,95]:aS)).bind fun v2=>
  if v2=([]:aS) then
   (idx aa (0:Int)).bind fun c3=>
   ub (decide ((0:Int)≤(uF ([97,98,99,100,101,102,103,104,105,106,107,108,109,110,111,112,113,114,115,116,117,118,119,120,121,122]:aS) (c3.toNat:Int))))
  else
   ub false
 else
  ub false
def mO (aa:cP) (ai:aS):Bool:=
 decide (aa.Device=ai)
def fu (aa:List cP) (dH:cP→Option Bool) (n2:Int):Option (Int⊕Int):=
 if n2 < (aa.length:Int) then
  (idx aa n2).bind fun v3=>
  (dH v3).bind fun v4=>
  if v4=true then
   Option.map .inr (some n2)
  else
   some (.inl (aN (n2+(1:Int))))
 else
  Option.map .inr (some (-1:Int))
def qy (aa:List cP) (dH:cP→Option Bool) (n2:Int):Option Int:=
 iter (fun x:Int=>fu aa dH x) n2
def gq (aa:List cP) (dH:cP→Option Bool):Option Int:=
 qy aa dH (0:Int)
def fw (aa:List aS) (ai:aS) (n2:Int):Option (Int⊕Int):=
 if n2 < (aa.length:Int) then
  (idx aa n2).bind fun v3=>
  if ai=v3 then
   Option.map .inr (some n2)
  else
   some (.inl (aN (n2+(1:Int))))
 else
  Option.map .inr (some (-1:Int))
def qz (aa:List aS) (ai:aS) (n2:Int):Option Int:=
 iter (fun x:Int=>fw aa ai x) n2
def jy (aa:List aS) (ai:aS):Option Int:=
 qz aa ai (0:Int)
def cx (aa:List aS) (ai:aS):Option Bool:=
 (jy aa ai).bind fun v1=>
 some (decide ((0:Int)≤v1))
def sw (aa:bd) (l8:List aS) (v10:Int) (Fa:Bool):Option ((aS×(List aS))⊕(List aS)):=
 if Fa=true then
  Option.map .inr (some l8)
 else
  (idx aa.Links v10).bind fun gh=>
  (app l8 [gh.fk]).bind fun oh=>
  some (.inl (gh.fk,oh))
def kC (aa:bd) (q6:aS) (l8:List aS):Option ((aS×(List aS))⊕(List aS)):=
 (gq aa.Links (fun y0=>some (mO y0 q6))).bind fun v10=>
 if v10 < (0:Int) then
  sw aa l8 v10 true
 else
  (idx aa.Links v10).bind fun v12=>
  (cx l8 v12.fk).bind fun gb=>
  sw aa l8 v10 gb
def Bn (aa:bd) (q6:aS) (l8:List aS):Option (List aS):=
 iter (fun x:aS×(List aS)=>kC aa x.1 x.2) (q6,l8)
def te (aa:bd) (ai:aS):Option (List aS):=
 Bn aa ai []
def mf (n3:Int) (c9:Bool):Option (Int⊕Int):=
 if c9=true then
  Option.map .inr (some (7:Int))
 else
  some (.inl (aN (n3+(1:Int))))
def jJ (aa:bd) (n3:Int) (v4:cP) (c6:Bool):Option (Int⊕Int):=
 if c6=true then
  Option.map .inr (some (5:Int))
 else
  if (0:Int) < n3 then
   (idx aa.Links (aN (n3 - (1:Int)))).bind fun v10=>
   mf n3 (Op.bytesLess v4.Device v10.Device||v4.Device==v10.Device)
  else
   mf n3 false
def jK (n19:Int) (v20:bC) (Qn:Bool):Option (Int⊕Int):=
 if Qn=true then
  Option.map .inr (some (7:Int))
 else
  if (!(ze v20.Level (1:Int) (9:Int)))=true then
   Option.map .inr (some (1:Int))
  else
   some (.inl (aN (n19+(1:Int))))
def gE (aa:bd) (n19:Int):Option (Int⊕Int):=
 if n19 < (aa.aW.length:Int) then
  (idx aa.aW n19).bind fun v20=>
  (vH v20.aZ).bind fun v22=>
  if (!v22)=true then
   Option.map .inr (some (5:Int))
  else
   if (0:Int) < n19 then
    (idx aa.aW (aN (n19 - (1:Int)))).bind fun v24=>
    jK n19 v20 (Op.bytesLess v20.aZ v24.aZ||v20.aZ==v24.aZ)
   else
    jK n19 v20 false
 else
  Option.map .inr (some (0:Int))
def u6 (aa:bd) (n19:Int):Option Int:=
 iter (fun x:Int=>gE aa x) n19
def om (aa:bd):Option Int:=
 if (100:Int) < (aa.aW.length:Int) then
  some (2:Int)
 else
  u6 aa (0:Int)
def fM (aa:bd) (n12:Int):Option (Int⊕Int):=
 if n12 < (aa.Links.length:Int) then
  (idx aa.Links n12).bind fun gb=>
  (te aa gb.Device).bind fun rS=>
  (cx rS gb.Device).bind fun v17=>
  if v17=true then
   Option.map .inr (some (14:Int))
  else
   some (.inl (aN (n12+(1:Int))))
 else
  Option.map .inr (om aa)
def qT (aa:bd) (n12:Int):Option Int:=
 iter (fun x:Int=>fM aa x) n12
def fN (aa:bd) (n3:Int):Option (Int⊕Int):=
 if n3 < (aa.Links.length:Int) then
  (idx aa.Links n3).bind fun v4=>
  (vH v4.Device).bind fun v7=>
  if (!v7)=true then
   jJ aa n3 v4 true
  else
   (vH v4.fk).bind fun v8=>
   jJ aa n3 v4 (!v8)
 else
  Option.map .inr (qT aa (0:Int))
def u7 (aa:bd) (n3:Int):Option Int:=
 iter (fun x:Int=>fN aa x) n3
def pf (aa:bd):Option Int:=
 if (oI aa.bW)≠(0:Int) then
  some (oI aa.bW)
 else
  if (500:Int) < (aa.Links.length:Int) then
   some (2:Int)
  else
   u7 aa (0:Int)
def vI (c1:Bool):Bool:=
 c1
def mP (aa:Int) (ai:Int) (aq:Int):Bool:=
 vI ((decide (aa < ai))||(decide (aq < aa)))
def lR (c2:Bool):Int:=
 if c2=true then
  (1:Int)
 else
  (0:Int)
def jL (aa:bW):Int:=
 lR ((mP aa.kM (2:Int) (1000:Int))||((mP aa.ao (1:Int) (2592000000:Int))||(mP aa.Calm (1:Int) (2592000000:Int))))
def tf (n5:Int) (c7:Bool):Option (Int⊕Bool):=
 if c7=true then
  Option.map .inr (some false)
 else
  some (.inl (aN (n5+(1:Int))))
def mQ (aa:aS) (n5:Int):Option (Int⊕Bool):=
 if n5 < (aa.length:Int) then
  (idx aa n5).bind fun c6=>
  tf n5 (if (97:Int)≤(c6.toNat:Int) then if (c6.toNat:Int)≤(122:Int) then !true else if (48:Int)≤(c6.toNat:Int) then if (c6.toNat:Int)≤(57:Int) then !true else if (c6.toNat:Int)=(45:Int) then !true else decide (¬ ((c6.toNat:Int)=(95:Int))) else if (c6.toNat:Int)=(45:Int) then !true else decide (¬ ((c6.toNat:Int)=(95:Int))) else if (48:Int)≤(c6.toNat:Int) then if (c6.toNat:Int)≤(57:Int) then !true else if (c6.toNat:Int)=(45:Int) then !true else decide (¬ ((c6.toNat:Int)=(95:Int))) else if (c6.toNat:Int)=(45:Int) then !true else decide (¬ ((c6.toNat:Int)=(95:Int))))
 else
  Option.map .inr (some true)
def vJ (aa:aS) (n5:Int):Option Bool:=
 iter (fun x:Int=>mQ aa x) n5
def mR (aa:aS) (c1:Bool):Option Bool:=
 if c1=true then
  some false
 else
  vJ aa (0:Int)
def jY (aa:aS):Option Bool:=
 if aa=([]:aS) then
  mR aa true
 else
  if (40:Int) < (aa.length:Int) then
   mR aa true
  else
   (idx aa (0:Int)).bind fun c2=>
   if (c2.toNat:Int) < (97:Int) then
    mR aa true
   else
    (idx aa (0:Int)).bind fun c3=>
    mR aa (decide ((122:Int) < (c3.toNat:Int)))
def fe (aa:List cP) (l4:List (aS×aS)) (n5:Int):Option (((List (aS×aS))×Int)⊕(List (aS×aS))):=
 if n5 < (aa.length:Int) then
  (idx aa n5).bind fun v6=>
  some (.inl (jh l4 v6.Device v6.fk,aN (n5+(1:Int))))
 else
  Option.map .inr (some l4)
def uc (aa:List cP) (l4:List (aS×aS)) (n5:Int):Option (List (aS×aS)):=
 iter (fun x:(List (aS×aS))×Int=>fe aa x.1 x.2) (l4,n5)
def kD (aa:List cP):Option (List (aS×aS)):=
 uc aa [] (0:Int)
def pg (l3:List aS):Option ((List aS)×Bool):=
 some (l3,true)
def eT (aa:List (aS×aS)) (ai:aS) (l9:List aS) (H7:aS) (Fa:Bool):Option (((List aS)×aS×Bool)⊕((List aS)×Bool)):=
 if Fa=true then
  if H7=ai then
   Option.map .inr (some ([],false))
  else
   if (aa.length:Int) < (l9.length:Int) then
    Option.map .inr (pg l9)
   else
    (app l9 [H7]).bind fun oG=>
    (vC aa H7 []).bind fun kS=>
    some (.inl (oG,kS.1,kS.2))
 else
  Option.map .inr (pg l9)
def vK (aa:List (aS×aS)) (ai:aS) (l9:List aS) (H7:aS) (Fa:Bool):Option ((List aS)×Bool):=
 iter (fun x:(List aS)×aS×Bool=>eT aa ai x.1 x.2.1 x.2.2) (l9,H7,Fa)
def lD (aa:List (aS×aS)) (ai:aS):Option ((List aS)×Bool):=
 (vC aa ai []).bind fun v1=>
 vK aa ai [] v1.1 v1.2
def iZ (n3:Int) (c9:Bool):Option (Int⊕Int):=
 if c9=true then
  Option.map .inr (some (7:Int))
 else
  some (.inl (aN (n3+(1:Int))))
def gB (aa:bd) (n3:Int) (v4:cP) (c6:Bool):Option (Int⊕Int):=
 if c6=true then
  Option.map .inr (some (5:Int))
 else
  if (0:Int) < n3 then
   (idx aa.Links (aN (n3 - (1:Int)))).bind fun v10=>
   iZ n3 (Op.bytesLess v4.Device v10.Device||v4.Device==v10.Device)
  else
   iZ n3 false
def gC (n20:Int) (v21:bC) (Qo:Bool):Option (Int⊕Int):=
 if Qo=true then
  Option.map .inr (some (7:Int))
 else
  if (mP v21.Level (1:Int) (9:Int))=true then
   Option.map .inr (some (1:Int))
  else
   some (.inl (aN (n20+(1:Int))))
def dM (aa:bd) (n20:Int):Option (Int⊕Int):=
 if n20 < (aa.aW.length:Int) then
  (idx aa.aW n20).bind fun v21=>
  (jY v21.aZ).bind fun v23=>
  if (!v23)=true then
   Option.map .inr (some (5:Int))
  else
   if (0:Int) < n20 then
    (idx aa.aW (aN (n20 - (1:Int)))).bind fun v25=>
    gC n20 v21 (Op.bytesLess v21.aZ v25.aZ||v21.aZ==v25.aZ)
   else
    gC n20 v21 false
 else
  Option.map .inr (some (0:Int))
def rq (aa:bd) (n20:Int):Option Int:=
 iter (fun x:Int=>dM aa x) n20
def kN (aa:bd):Option Int:=
 if (100:Int) < (aa.aW.length:Int) then
  some (2:Int)
 else
  rq aa (0:Int)
def cT (aa:bd) (v11:(List (aS×aS))) (n14:Int):Option (Int⊕Int):=
 if n14 < (aa.Links.length:Int) then
  (idx aa.Links n14).bind fun rS=>
  (lD v11 rS.Device).bind fun v17=>
  if (!v17.2)=true then
   Option.map .inr (some (14:Int))
  else
   some (.inl (aN (n14+(1:Int))))
 else
  Option.map .inr (kN aa)
def ru (aa:bd) (v11:(List (aS×aS))) (n14:Int):Option Int:=
 iter (fun x:Int=>cT aa v11 x) n14
def kO (aa:bd):Option Int:=
 (kD aa.Links).bind fun v11=>
 ru aa v11 (0:Int)
def cU (aa:bd) (n3:Int):Option (Int⊕Int):=
 if n3 < (aa.Links.length:Int) then
  (idx aa.Links n3).bind fun v4=>
  (jY v4.Device).bind fun v7=>
  if (!v7)=true then
   gB aa n3 v4 true
  else
   (jY v4.fk).bind fun v8=>
   gB aa n3 v4 (!v8)
 else
  Option.map .inr (kO aa)
def ry (aa:bd) (n3:Int):Option Int:=
 iter (fun x:Int=>cU aa x) n3
def fW (aa:bd):Option Int:=
 if (jL aa.bW)≠(0:Int) then
  some (jL aa.bW)
 else
  if (500:Int) < (aa.Links.length:Int) then
   some (2:Int)
  else
   ry aa (0:Int)
def tg (aa:bd) (ai:aS):Option ((List aS)×Int):=
 (fW aa).bind fun v2=>
 if v2≠(0:Int) then
  some ([],v2)
 else
  (jY ai).bind fun v4=>
  if (!v4)=true then
   some ([],(5:Int))
  else
   (kD aa.Links).bind fun v6=>
   (lD v6 ai).bind fun v8=>
   some (v8.1,(0:Int))
def pT (aa:aS):Option Int:=
 (vH aa).bind fun v1=>
 if (!v1)=true then
  some (5:Int)
 else
  some (0:Int)
def oo (aa:List Int) (n2:Int):Option (Int⊕Int):=
 if n2 < (aa.length:Int) then
  (idx aa n2).bind fun v3=>
  if v3≠(0:Int) then
   Option.map .inr (some v3)
  else
   some (.inl (aN (n2+(1:Int))))
 else
  Option.map .inr (some (0:Int))
def Aj (aa:List Int) (n2:Int):Option Int:=
 iter (fun x:Int=>oo aa x) n2
def nt (aa:List Int):Option Int:=
 Aj aa (0:Int)
def wD (aa:bd) (ai:aS):Option (List aS):=
 (te aa ai).bind fun v2=>
 some v2
def fx (aa:List aS) (ai:List aS) (n2:Int):Option (Int⊕Bool):=
 if n2 < (aa.length:Int) then
  (idx aa n2).bind fun v3=>
  (idx ai n2).bind fun v4=>
  if v3≠v4 then
   Option.map .inr (some false)
  else
   some (.inl (aN (n2+(1:Int))))
 else
  Option.map .inr (some true)
def qA (aa:List aS) (ai:List aS) (n2:Int):Option Bool:=
 iter (fun x:Int=>fx aa ai x) n2
def gu (aa:List aS) (ai:List aS):Option Bool:=
 if (aa.length:Int)≠(ai.length:Int) then
  some false
 else
  qA aa ai (0:Int)
def lE (aa:Int):Bool:=
 !(mP aa (0:Int) (345686399999:Int))
def jZ (c9:Bool):Option Int:=
 if c9=true then
  some (3:Int)
 else
  some (0:Int)
def j6 (aa:Signal) (c8:Bool):Option Int:=
 if c8=true then
  some (1:Int)
 else
  jZ ((decide (¬ (aa.Kind=(4:Int))))&&(decide (aa.bh≠(0:Int))))
def j8 (aa:Signal) (c7:Bool):Option Int:=
 if c7=true then
  some (3:Int)
 else
  j6 aa ((decide (aa.Kind=(4:Int)))&&((mP aa.bh (aN (aa.At+(1:Int))) (aN (aa.At+(2592000000:Int))))||(decide ((345686400000:Int) < aa.bh))))
def fX (aa:Signal) (c5:Bool):Option Int:=
 if c5=true then
  some (5:Int)
 else
  j8 aa ((decide (¬ ((3:Int)≤aa.Kind)))&&(decide (aa.By≠([]:aS))))
def fY (aa:Signal) (c2:Bool):Option Int:=
 if c2=true then
  some (5:Int)
 else
  if (mP aa.Kind (1:Int) (5:Int))=true then
   some (4:Int)
  else
   if (3:Int)≤aa.Kind then
    (jY aa.By).bind fun v6=>
    fX aa (!v6)
   else
    fX aa false
def j9 (aa:Signal):Option Int:=
 if (!(lE aa.At))=true then
  some (1:Int)
 else
  (jY aa.Device).bind fun v3=>
  if (!v3)=true then
   fY aa true
  else
   (jY aa.aZ).bind fun v4=>
   fY aa (!v4)
def mS (aa:Signal) (ai:Signal):Option Int:=
 (gj [(cmp_Compare_int aa.At ai.At),(Lib.compareBytes aa.Device ai.Device),(Lib.compareBytes aa.aZ ai.aZ),(cmp_Compare_int aa.Kind ai.Kind)]).bind fun v3=>
 some v3
def gU (n2:Int) (c6:Bool):Option (Int⊕Int):=
 if c6=true then
  Option.map .inr (some (7:Int))
 else
  some (.inl (aN (n2+(1:Int))))
def cS (aa:List Signal) (n2:Int):Option (Int⊕Int):=
 if n2 < (aa.length:Int) then
  (idx aa n2).bind fun v3=>
  (j9 v3).bind fun v5=>
  if v5≠(0:Int) then
   Option.map .inr (some v5)
  else
   if (0:Int) < n2 then
    (idx aa (aN (n2 - (1:Int)))).bind fun v7=>
    (mS v3 v7).bind fun v8=>
    gU n2 (decide (v8≤(0:Int)))
   else
    gU n2 false
 else
  Option.map .inr (some (0:Int))
def pK (aa:List Signal) (n2:Int):Option Int:=
 iter (fun x:Int=>cS aa x) n2
def fR (aa:List Signal):Option Int:=
 if (5000:Int) < (aa.length:Int) then
  some (2:Int)
 else
  pK aa (0:Int)
def qd (aa:List Int) (n2:Int):Option (Int⊕Int):=
 if n2 < (aa.length:Int) then
  (idx aa n2).bind fun v3=>
  if v3≠(0:Int) then
   Option.map .inr (some v3)
  else
   some (.inl (aN (n2+(1:Int))))
 else
  Option.map .inr (some (0:Int))
def Ca (aa:List Int) (n2:Int):Option Int:=
 iter (fun x:Int=>qd aa x) n2
def sy (aa:List Int):Option Int:=
 Ca aa (0:Int)
def rU (aa:al) (ai:al):Option Int:=
 (gj [(Lib.compareBytes aa.aO ai.aO),(Lib.compareBytes aa.bf ai.bf)]).bind fun v3=>
 some v3
def iQ (aa:ar) (ai:ar):Option Int:=
 (rU aa.bz ai.bz).bind fun v1=>
 some v1
def kc (n19:Int) (Ai:List (al×Int)) (wR:List ar) (pU:List Int):Option (((List (al×Int))×(List ar)×(List Int)×Int)⊕bI):=
 some (.inl (Ai,wR,pU,aN (n19+(1:Int))))
def mA (uw:List (al×Int)) (oG:List ar) (rV:List Int):Option bI:=
 (E0 (fun y0 y1=>iQ y0 y1) oG rV).bind fun JS=>
 some (⟨uw,JS,oG⟩:bI)
def ei (aa:List Signal) (uw:List (al×Int)) (oG:List ar) (rV:List Int) (n19:Int):Option (((List (al×Int))×(List ar)×(List Int)×Int)⊕bI):=
 if n19 < (aa.length:Int) then
  (idx aa n19).bind fun zf=>
  y9 (bQ uw (⟨zf.Device,zf.aZ⟩:al)) (
   (Ee oG.length ((uw.map Prod.snd)++rV)).bind fun u38=>
   (app rV [(oG.length:Int)]).bind fun Tk=>
   kc n19 (jh uw (⟨zf.Device,zf.aZ⟩:al) (oG.length:Int)) (oG++[(⟨(⟨zf.Device,zf.aZ⟩:al),(0:Int),(0:Int),[],(0:Int),[],[],[],[],[]⟩:ar)]) Tk) (fun n30=>
   kc n19 uw oG rV)
 else
  Option.map .inr (mA uw oG rV)
def th (aa:List Signal) (uw:List (al×Int)) (oG:List ar) (rV:List Int) (n19:Int):Option bI:=
 iter (fun x:(List (al×Int))×(List ar)×(List Int)×Int=>ei aa x.1 x.2.1 x.2.2.1 x.2.2.2) (uw,oG,rV,n19)
def mT (aa:List Signal):Option bI:=
 th aa [] [] [] (0:Int)
def gX (aa:List ao):Option Int:=
 (idx aa (aN ((aa.length:Int) - (1:Int)))).bind fun v1=>
 some (aN ((aa.length:Int) - (1:Int)))
def jz (aa:ar) (ai:Int) (aq:Int) (iY:List ao) (sX:List ao):Option ar:=
 some (⟨aa.bz,ai,aq,aa.aQ,aa.az,sX,iY,aa.bx,aa.cq,aa.bH⟩:ar)
def lS (aa:ar) (ai:Int) (aq:Int) (l7:List ao) (iY:List ao) (Qp:Bool):Option ar:=
 if Qp=true then
  (app l7 [(⟨aq,(345686400000:Int)⟩:ao)]).bind fun Bm=>
  jz aa ai aq iY Bm
 else
  jz aa ai aq iY l7
def gY (aa:ar) (ai:Int) (aq:Int) (c1:Bool) (c2:Bool) (l7:List ao) (iY:List ao):Option ar:=
 lS aa ai aq l7 iY (c2&&(!c1))
def gZ (aa:ar) (ai:Int) (aq:Int) (c1:Bool) (c2:Bool) (l3:List ao) (l7:List ao):Option ar:=
 if ai=(1:Int) then
  (app l3 [(⟨aq,(345686400000:Int)⟩:ao)]).bind fun ly=>
  gY aa ai aq c1 c2 l7 ly
 else
  gY aa ai aq c1 c2 l7 l3
def lT (aa:ar) (ai:Int) (aq:Int) (c1:Bool) (c2:Bool) (l3:List ao) (c6:Bool):Option ar:=
 if c6=true then
  (gX aa.nH).bind fun v8=>
  (idx aa.nH v8).bind fun v9=>
  gZ aa ai aq c1 c2 l3 (aa.nH.set v8.toNat (⟨v9.dR,aq⟩:ao))
 else
  gZ aa ai aq c1 c2 l3 aa.nH
def hJ (aa:ar) (ai:Int) (aq:Int) (c1:Bool) (c2:Bool) (l3:List ao):Option ar:=
 lT aa ai aq c1 c2 l3 (c1&&(!c2))
def lU (aa:ar) (ai:Int) (aq:Int) (c1:Bool) (c2:Bool):Option ar:=
 if aa.aK=(1:Int) then
  (gX aa.bN).bind fun v4=>
  (idx aa.bN v4).bind fun v5=>
  hJ aa ai aq c1 c2 (aa.bN.set v4.toNat (⟨v5.dR,aq⟩:ao))
 else
  hJ aa ai aq c1 c2 aa.bN
def gG (aa:ar) (ai:Int) (aq:Int):Option ar:=
 lU aa ai aq ((decide (aa.aK=(1:Int)))||(decide (aa.aK=(2:Int)))) ((decide (ai=(1:Int)))||(decide (ai=(2:Int))))
def dN (q3:aS) (q4:aS) (n5:Int) (n6:Int) (l8:List Int) (n9:Int) (iY:List ao) (uw:List ao) (oh:List ao) (Pb:List Int) (Pc:List Int):Option (Int×ar):=
 some ((0:Int),(⟨(⟨q3,q4⟩:al),n5,n6,l8,n9,iY,uw,oh,Pb,Pc⟩:ar))
def dO (ai:Signal) (q3:aS) (q4:aS) (n5:Int) (n6:Int) (l8:List Int) (n9:Int) (iY:List ao) (uw:List ao) (oh:List ao) (Bm:List Int) (sv:List Int):Option (Int×ar):=
 if ¬ (ai.Kind=(2:Int)) then
  (app Bm [ai.At]).bind fun Mf=>
  (idx l8 (aN ((l8.length:Int) - (1:Int)))).bind fun Tl=>
  (app sv [aN (ai.At - Tl)]).bind fun Ow=>
  dN q3 q4 n5 n6 l8 n9 iY uw oh Mf Ow
 else
  dN q3 q4 n5 n6 l8 n9 iY uw oh Bm sv
def fl (ai:Signal) (Pd:aS) (Pe:aS) (n32:Int) (n33:Int) (zd:List Int) (n36:Int) (Ox:List ao) (xQ:List ao) (Oy:List ao) (Bl:List Int) (Hg:List Int):Option (Int×ar):=
 dO ai Pd Pe n32 n33 zd n36 Ox xQ Oy Bl Hg
def ja (aa:ar) (ai:Signal) (Qq:Bool):Option (Int×ar):=
 if Qq=true then
  (gG aa (2:Int) ai.At).bind fun v55=>
  fl ai v55.bz.aO v55.bz.bf v55.aK v55.cr v55.aQ v55.az v55.nH v55.bN v55.bx v55.cq v55.bH
 else
  some ((11:Int),aa)
def fm (aa:ar) (ai:Signal) (Qr:Bool):Option (Int×ar):=
 if Qr=true then
  (gG aa (0:Int) ai.At).bind fun kX=>
  fl ai kX.bz.aO kX.bz.bf kX.aK kX.cr kX.aQ kX.az kX.nH kX.bN kX.bx kX.cq kX.bH
 else
  ja aa ai ((decide (¬ (ai.Kind=(2:Int))))&&(decide (aa.aK=(1:Int))))
def jb (aa:ar) (ai:Signal) (Pf:Bool):Option (Int×ar):=
 fm aa ai Pf
def jc (aa:ar) (ai:Signal) (Oz:Bool):Option (Int×ar):=
 if Oz=true then
  fm aa ai Oz
 else
  jb aa ai ((decide (¬ (ai.Kind=(2:Int))))&&(decide (aa.aK=(3:Int))))
def jd (aa:ar) (ai:Signal) (c2:Bool):Option (Int×ar):=
 if c2=true then
  (gG aa (3:Int) ai.At).bind fun v20=>
  dO ai v20.bz.aO v20.bz.bf v20.aK v20.cr v20.aQ v20.az v20.nH v20.bN v20.bx v20.cq v20.bH
 else
  jc aa ai ((decide (ai.Kind=(2:Int)))&&(decide (aa.aK=(2:Int))))
def kY (aa:ar) (ai:Signal):Option (Int×ar):=
 jd aa ai ((decide (ai.Kind=(2:Int)))&&(decide (aa.aK=(1:Int))))
def ke (aa:ar) (ai:Signal) (c2:Bool):Option (Int×ar):=
 if c2=true then
  some ((6:Int),aa)
 else
  (gG aa (1:Int) ai.At).bind fun v3=>
  (app v3.aQ [ai.At]).bind fun l10=>
  some ((0:Int),(⟨v3.bz,v3.aK,v3.cr,l10,v3.az,v3.nH,v3.bN,v3.bx,v3.cq,v3.bH⟩:ar))
def fZ (aa:ar) (ai:Signal) (JT:Bool):Option (Int×ar):=
 if JT=true then
  (kY aa ai).bind fun gb=>
  some (gb.1,gb.2)
 else
  if ai.Kind=(4:Int) then
   if ai.At < aa.az then
    some ((11:Int),aa)
   else
    (app aa.bx [(⟨ai.At,ai.bh⟩:ao)]).bind fun qP=>
    some ((0:Int),(⟨aa.bz,aa.aK,aa.cr,aa.aQ,ai.bh,aa.nH,aa.bN,qP,aa.cq,aa.bH⟩:ar))
  else
   if aa.az≤ai.At then
    some ((11:Int),aa)
   else
    (idx aa.bx (aN ((aa.bx.length:Int) - (1:Int)))).bind fun v22=>
    some ((0:Int),(⟨aa.bz,aa.aK,aa.cr,aa.aQ,ai.At,aa.nH,aa.bN,aa.bx.set (aN ((aa.bx.length:Int) - (1:Int))).toNat (⟨v22.dR,ai.At⟩:ao),aa.cq,aa.bH⟩:ar))
def kf (aa:ar) (ai:Signal):Option (Int×ar):=
 if ai.Kind=(1:Int) then
  ke aa ai ((decide (aa.aK=(1:Int)))||(decide (aa.aK=(2:Int))))
 else
  if ai.Kind=(2:Int) then
   fZ aa ai (decide (ai.Kind=(2:Int)))
  else
   fZ aa ai (decide (ai.Kind=(3:Int)))
def fH (aa:bI) (ai:Signal):Option (Int×bI):=
 y9 (bQ aa.sW (⟨ai.Device,ai.aZ⟩:al)) (
  none) (fun n2=>
  (idx aa.wQ n2).bind fun v3=>
  (kf v3 ai).bind fun v4=>
  some (v4.1,(⟨aa.sW,aa.ew,aa.wQ.set n2.toNat v4.2⟩:bI)))
def qB (n19:Int) (wR:List (al×Int)) (vh:List ar) (pU:List Int):Option (((List (al×Int))×(List ar)×(List Int)×Int)⊕bI):=
 some (.inl (wR,vh,pU,aN (n19+(1:Int))))
def oJ (aa:List Signal) (ai:Int) (oG:List (al×Int)) (oh:List ar) (rV:List Int) (n19:Int):Option (((List (al×Int))×(List ar)×(List Int)×Int)⊕bI):=
 if n19 < (aa.length:Int) then
  (idx aa n19).bind fun v20=>
  if v20.At≤ai then
   (fH (⟨oG,rV,oh⟩:bI) v20).bind fun zf=>
   qB n19 zf.2.sW zf.2.wQ zf.2.ew
  else
   qB n19 oG oh rV
 else
  Option.map .inr (some (⟨oG,rV,oh⟩:bI))
def zL (aa:List Signal) (ai:Int) (oG:List (al×Int)) (oh:List ar) (rV:List Int) (n19:Int):Option bI:=
 iter (fun x:(List (al×Int))×(List ar)×(List Int)×Int=>oJ aa ai x.1 x.2.1 x.2.2.1 x.2.2.2) (oG,oh,rV,n19)
def sA (aa:List Signal) (ai:Int):Option bI:=
 (mT aa).bind fun v1=>
 zL aa ai v1.sW v1.wQ v1.ew (0:Int)
def jA (aa:ar) (n3:Int) (c4:Bool):aH×Bool:=
 ((⟨aa.bz.aO,aa.bz.bf,aa.aK,aa.cr,(aa.aQ.length:Int),n3⟩:aH),c4)
def jB (aa:ar) (n3:Int):aH×Bool:=
 if aa.aK≠(0:Int) then
  jA aa n3 true
 else
  jA aa n3 (decide ((0:Int) < n3))
def a8 (aa:ar) (ai:Int):aH×Bool:=
 if ai < aa.az then
  jB aa aa.az
 else
  jB aa (0:Int)
def mU (n9:Int) (n13:Int) (rV:List ao):Option (((List ao)×Int×Int)⊕(List ao)):=
 some (.inl (rV,n13,aN (n9+(1:Int))))
def mV (n9:Int) (n13:Int) (Ai:List ao):Option (((List ao)×Int×Int)⊕(List ao)):=
 mU n9 n13 Ai
def kZ (aa:bW) (l7:List ao) (n9:Int) (v11:Int) (n13:Int) (Fb:Bool):Option (((List ao)×Int×Int)⊕(List ao)):=
 if Fb=true then
  (idx l7 (aN ((l7.length:Int) - (1:Int)))).bind fun w9=>
  mU n9 n13 (l7.set (aN ((l7.length:Int) - (1:Int))).toNat (⟨w9.dR,aN (v11+aa.Calm)⟩:ao))
 else
  if aa.kM≤(aN ((aN (n9 - n13))+(1:Int))) then
   (app l7 [(⟨v11,aN (v11+aa.Calm)⟩:ao)]).bind fun wR=>
   mV n9 n13 wR
  else
   mV n9 n13 l7
def mW (aa:bW) (l7:List ao) (n9:Int) (v11:Int) (n13:Int):Option (((List ao)×Int×Int)⊕(List ao)):=
 if (0:Int)≤(aN ((l7.length:Int) - (1:Int))) then
  (idx l7 (aN ((l7.length:Int) - (1:Int)))).bind fun kS=>
  kZ aa l7 n9 v11 n13 (decide (v11≤kS.To))
 else
  kZ aa l7 n9 v11 n13 false
def fI (aa:bW) (ai:List Int) (l7:List ao) (n9:Int) (v11:Int) (n13:Int):Option (Int⊕(((List ao)×Int×Int)⊕(List ao))):=
 (idx ai n13).bind fun gh=>
 if gh≤(aN (v11 - aa.ao)) then
  some (.inl (aN (n13+(1:Int))))
 else
  Option.map .inr (mW aa l7 n9 v11 n13)
def mX (aa:bW) (ai:List Int) (l7:List ao) (n9:Int) (v11:Int) (n13:Int):Option (((List ao)×Int×Int)⊕(List ao)):=
 iter (fun x:Int=>fI aa ai l7 n9 v11 x) n13
def gw (l7:List ao) (pU:List ao) (n27:Int):Option (((List ao)×Int)⊕(List ao)):=
 if n27 < (l7.length:Int) then
  (idx pU n27).bind fun v28=>
  (idx pU n27).bind fun xz=>
  some (.inl (pU.set n27.toNat (⟨xz.dR,min v28.To (345686400000:Int)⟩:ao),aN (n27+(1:Int))))
 else
  Option.map .inr (some pU)
def sB (l7:List ao) (pU:List ao) (n27:Int):Option (List ao):=
 iter (fun x:(List ao)×Int=>gw l7 x.1 x.2) (pU,n27)
def gx (aa:bW) (ai:List Int) (l7:List ao) (n8:Int) (n9:Int):Option (((List ao)×Int×Int)⊕(List ao)):=
 if n9 < (ai.length:Int) then
  (idx ai n9).bind fun v11=>
  mX aa ai l7 n9 v11 n8
 else
  Option.map .inr (sB l7 l7 (0:Int))
def vL (aa:bW) (ai:List Int) (l7:List ao) (n8:Int) (n9:Int):Option (List ao):=
 iter (fun x:(List ao)×Int×Int=>gx aa ai x.1 x.2.1 x.2.2) (l7,n8,n9)
def mY (aa:bW) (ai:List Int):Option (List ao):=
 vL aa ai [] (0:Int) (0:Int)
def dI (aa:List ao) (dH:ao→Option Bool) (n2:Int):Option (Int⊕Int):=
 if n2 < (aa.length:Int) then
  (idx aa n2).bind fun v3=>
  (dH v3).bind fun v4=>
  if v4=true then
   Option.map .inr (some n2)
  else
   some (.inl (aN (n2+(1:Int))))
 else
  Option.map .inr (some (-1:Int))
def oP (aa:List ao) (dH:ao→Option Bool) (n2:Int):Option Int:=
 iter (fun x:Int=>dI aa dH x) n2
def hZ (aa:List ao) (dH:ao→Option Bool):Option Int:=
 oP aa dH (0:Int)
def cy (aa:List ao) (dH:ao→Option Bool):Option Bool:=
 (hZ aa dH).bind fun v1=>
 some (decide ((0:Int)≤v1))
def mZ (c2:Bool):Bool:=
 c2
def mB (aa:ao) (ai:Int):Bool:=
 mZ ((decide (aa.dR≤ai))&&(decide (ai < aa.To)))
def eU (c2:Bool):Option Bool:=
 some c2
def ez (aa:bE) (ai:aH):Option Bool:=
 if ai.State≠(3:Int) then
  (qq aa.mz ai.aZ (⟨[],(0:Int),false⟩:bC)).bind fun v3=>
  eU v3.o1
 else
  eU false
def kh (n28:Int) (FU:List aH) (H5:List (aS×Bool)):Option (((List aH)×(List (aS×Bool))×Int)⊕bE):=
 some (.inl (FU,H5,aN (n28+(1:Int))))
def ki (n28:Int) (xQ:List aH) (JS:List (aS×Bool)):Option (((List aH)×(List (aS×Bool))×Int)⊕bE):=
 kh n28 xQ JS
def mC (aq:Int) (v4:(List (aS×aS))) (l10:List (aS×bC)) (pU:List aH) (w8:List (aS×Bool)) (n28:Int) (oH:ar) (Qs:Bool):Option (((List aH)×(List (aS×Bool))×Int)⊕bE):=
 if Qs=true then
  kh n28 pU w8
 else
  (app pU [((a8 oH aq).1)]).bind fun xQ=>
  (ez (⟨l10,v4,xQ,w8⟩:bE) ((a8 oH aq).1)).bind fun ID=>
  if ID=true then
   ki n28 xQ (jh w8 (((a8 oH aq).1).Device) true)
  else
   ki n28 xQ w8
def ej (aa:bd) (aq:Int) (v4:(List (aS×aS))) (l10:List (aS×bC)) (gh:bI) (pU:List aH) (w8:List (aS×Bool)) (n28:Int):Option (((List aH)×(List (aS×Bool))×Int)⊕bE):=
 if n28 < (gh.ew.length:Int) then
  (idx gh.ew n28).bind fun v33=>
  (idx gh.wQ v33).bind fun oH=>
  (mY aa.bW oH.aQ).bind fun Pg=>
  (cy Pg (fun y0=>some (mB y0 aq))).bind fun Ah=>
  mC aq v4 l10 pU w8 n28 oH ((!((a8 oH aq).2))||((decide ((((a8 oH aq).1).State)=(0:Int)))||((decide ((0:Int) < (((a8 oH aq).1).gP)))||Ah)))
 else
  Option.map .inr (some (⟨l10,v4,pU,w8⟩:bE))
def ti (aa:bd) (aq:Int) (v4:(List (aS×aS))) (l10:List (aS×bC)) (gh:bI) (pU:List aH) (w8:List (aS×Bool)) (n28:Int):Option bE:=
 iter (fun x:(List aH)×(List (aS×Bool))×Int=>ej aa aq v4 l10 gh x.1 x.2.1 x.2.2) (pU,w8,n28)
def kj (aa:bd) (ai:List Signal) (aq:Int) (v4:(List (aS×aS))) (l10:List (aS×bC)):Option bE:=
 (sA ai aq).bind fun gh=>
 ti aa aq v4 l10 gh [] [] (0:Int)
def ek (aa:bd) (ai:List Signal) (aq:Int) (v4:(List (aS×aS))) (l10:List (aS×bC)) (n11:Int):Option (((List (aS×bC))×Int)⊕bE):=
 if n11 < (aa.aW.length:Int) then
  (idx aa.aW n11).bind fun v12=>
  some (.inl (jh l10 v12.aZ v12,aN (n11+(1:Int))))
 else
  Option.map .inr (kj aa ai aq v4 l10)
def tj (aa:bd) (ai:List Signal) (aq:Int) (v4:(List (aS×aS))) (l10:List (aS×bC)) (n11:Int):Option bE:=
 iter (fun x:(List (aS×bC))×Int=>ek aa ai aq v4 x.1 x.2) (l10,n11)
def k6 (aa:bd) (ai:List Signal) (aq:Int):Option bE:=
 (kD aa.Links).bind fun v4=>
 tj aa ai aq v4 [] (0:Int)
def bL (aa:bE) (q4:aS) (c5:Bool):Option ((aS×Bool)⊕aS):=
 if c5=true then
  (qq aa.o5 q4 false).bind fun v6=>
  if v6=true then
   Option.map .inr (some q4)
  else
   (vC aa.pP q4 []).bind fun v7=>
   some (.inl (v7.1,v7.2))
 else
  Option.map .inr (some ([]:aS))
def sC (aa:bE) (q4:aS) (c5:Bool):Option aS:=
 iter (fun x:aS×Bool=>bL aa x.1 x.2) (q4,c5)
def eA (aa:bE) (ai:aS):Option aS:=
 (vC aa.pP ai []).bind fun v1=>
 sC aa v1.1 v1.2
def qe (aa:bd) (ai:List Signal) (aq:aS) (aT:Int):Option (aS×Bool×Int):=
 (fW aa).bind fun v2=>
 (fR ai).bind fun v3=>
 (sy [v2,v3]).bind fun v4=>
 if v4≠(0:Int) then
  some (([]:aS),false,v4)
 else
  (jY aq).bind fun v5=>
  if (!v5)=true then
   some (([]:aS),false,(5:Int))
  else
   if (!(lE aT))=true then
    some (([]:aS),false,(1:Int))
   else
    (k6 aa ai aT).bind fun v6=>
    (eA v6 aq).bind fun v12=>
    some (v12,decide (v12≠([]:aS)),(0:Int))
def fJ (aa:Int):Int:=
 if (!(ze aa (0:Int) (345686399999:Int)))=true then
  (1:Int)
 else
  (0:Int)
def ko (n2:Int) (Fc:Bool):Option (Int⊕Int):=
 if Fc=true then
  Option.map .inr (some (7:Int))
 else
  some (.inl (aN (n2+(1:Int))))
def mD (aa:List Signal) (n2:Int) (v3:Signal) (JT:Bool):Option (Int⊕Int):=
 if JT=true then
  Option.map .inr (some (3:Int))
 else
  if (0:Int) < n2 then
   (idx aa (aN (n2 - (1:Int)))).bind fun gh=>
   (jm gh v3).bind fun rS=>
   ko n2 (decide ((0:Int)≤rS))
  else
   ko n2 false
def mE (aa:List Signal) (n2:Int) (v3:Signal) (Fa:Bool):Option (Int⊕Int):=
 if Fa=true then
  Option.map .inr (some (1:Int))
 else
  mD aa n2 v3 ((decide (¬ (v3.Kind=(4:Int))))&&(decide (v3.bh≠(0:Int))))
def mF (aa:List Signal) (n2:Int) (v3:Signal) (Qt:Bool):Option (Int⊕Int):=
 if Qt=true then
  Option.map .inr (some (3:Int))
 else
  mE aa n2 v3 ((decide (v3.Kind=(4:Int)))&&(!(ze v3.bh (aN (v3.At+(1:Int))) (min (aN (v3.At+(2592000000:Int))) (345686400000:Int)))))
def iR (aa:List Signal) (n2:Int) (v3:Signal) (c8:Bool):Option (Int⊕Int):=
 if c8=true then
  Option.map .inr (some (5:Int))
 else
  mF aa n2 v3 ((decide (¬ ((3:Int)≤v3.Kind)))&&(decide (v3.By≠([]:aS))))
def iS (aa:List Signal) (n2:Int) (v3:Signal) (c5:Bool):Option (Int⊕Int):=
 if c5=true then
  Option.map .inr (some (5:Int))
 else
  if (!(ze v3.Kind (1:Int) (5:Int)))=true then
   Option.map .inr (some (4:Int))
  else
   if (3:Int)≤v3.Kind then
    (vH v3.By).bind fun v9=>
    iR aa n2 v3 (!v9)
   else
    iR aa n2 v3 false
def fy (aa:List Signal) (n2:Int):Option (Int⊕Int):=
 if n2 < (aa.length:Int) then
  (idx aa n2).bind fun v3=>
  if (fJ v3.At)≠(0:Int) then
   Option.map .inr (some (1:Int))
  else
   (vH v3.Device).bind fun v6=>
   if (!v6)=true then
    iS aa n2 v3 true
   else
    (vH v3.aZ).bind fun v7=>
    iS aa n2 v3 (!v7)
 else
  Option.map .inr (some (0:Int))
def tp (aa:List Signal) (n2:Int):Option Int:=
 iter (fun x:Int=>fy aa x) n2
def k7 (aa:List Signal):Option Int:=
 if (5000:Int) < (aa.length:Int) then
  some (2:Int)
 else
  tp aa (0:Int)
def eV (aa:List Signal):Option (List Signal):=
 app [] aa
def lF (aa:Signal) (ai:Int):Bool:=
 decide (ai < aa.At)
def dJ (aa:List Signal) (dH:Signal→Option Bool) (n2:Int):Option (Int⊕Int):=
 if n2 < (aa.length:Int) then
  (idx aa n2).bind fun v3=>
  (dH v3).bind fun v4=>
  if v4=true then
   Option.map .inr (some n2)
  else
   some (.inl (aN (n2+(1:Int))))
 else
  Option.map .inr (some (-1:Int))
def oQ (aa:List Signal) (dH:Signal→Option Bool) (n2:Int):Option Int:=
 iter (fun x:Int=>dJ aa dH x) n2
def ia (aa:List Signal) (dH:Signal→Option Bool):Option Int:=
 oQ aa dH (0:Int)
def dz (n7:Int) (iY:List Signal) (n12:Int):Option (((List Signal)×Int×Int)⊕(List Signal)):=
 some (.inl (iY,n12,aN (n7+(1:Int))))
def jC (l5:List Signal) (n6:Int):Option (List Signal):=
 (Av l5 n6 (l5.length:Int)).bind fun oG=>
 (Av (Ay l5 n6 oG.length (⟨(0:Int),(0:Int),[],[],[],(0:Int)⟩:Signal)) (0:Int) n6).bind fun oh=>
 some oh
def dA (dH:Signal→Option Bool) (l5:List Signal) (n6:Int) (n7:Int):Option (((List Signal)×Int×Int)⊕(List Signal)):=
 if n7 < (l5.length:Int) then
  (idx l5 n7).bind fun v8=>
  (dH v8).bind fun v10=>
  if (!v10)=true then
   (idx l5 n6).bind fun gb=>
   dz n7 (l5.set n6.toNat v8) (aN (n6+(1:Int)))
  else
   dz n7 l5 n6
 else
  Option.map .inr (jC l5 n6)
def oy (dH:Signal→Option Bool) (l5:List Signal) (n6:Int) (n7:Int):Option (List Signal):=
 iter (fun x:(List Signal)×Int×Int=>dA dH x.1 x.2.1 x.2.2) (l5,n6,n7)
def cN (aa:List Signal) (dH:Signal→Option Bool):Option (List Signal):=
 (ia aa dH).bind fun v1=>
 if v1=(-1:Int) then
  some aa
 else
  oy dH aa v1 (aN (v1+(1:Int)))
def nu (c1:Bool):Bool:=
 c1
def jo (aa:an) (ai:Signal):Bool:=
 nu ((decide (aa.aO=ai.Device))&&(decide (aa.bf=ai.aZ)))
def cV (aa:List an) (dH:an→Option Bool) (n2:Int):Option (Int⊕Int):=
 if n2 < (aa.length:Int) then
  (idx aa n2).bind fun v3=>
  (dH v3).bind fun v4=>
  if v4=true then
   Option.map .inr (some n2)
  else
   some (.inl (aN (n2+(1:Int))))
 else
  Option.map .inr (some (-1:Int))
def nE (aa:List an) (dH:an→Option Bool) (n2:Int):Option Int:=
 iter (fun x:Int=>cV aa dH x) n2
def dK (aa:List an) (dH:an→Option Bool):Option Int:=
 nE aa dH (0:Int)
def jM (aa:an) (ai:Signal) (n4:Int) (n5:Int) (n6:Int):Option (Int×an):=
 (app aa.bK [ai]).bind fun qP=>
 some ((0:Int),(⟨aa.aO,aa.bf,qP,n4,(⟨n5,n6⟩:ao)⟩:an))
def gH (aa:an) (ai:Signal) (n7:Int) (n8:Int) (n9:Int):Option (Int×an):=
 jM aa ai n7 n8 n9
def jN (aa:an) (ai:Signal) (n12:Int) (n13:Int) (n14:Int):Option (Int×an):=
 gH aa ai n12 n13 n14
def oq (aa:an) (ai:Signal) (Fb:Bool):Option (Int×an):=
 if Fb=true then
  some ((11:Int),aa)
 else
  (qq (jh (jh ([]:List (Int×Int)) (1:Int) (2:Int)) (3:Int) (0:Int)) aa.aK (0:Int)).bind fun v17=>
  jN aa ai v17 aa.az.dR aa.az.To
def mg (aa:an) (ai:Signal) (n18:Int) (n19:Int):Option (Int×an):=
 jN aa ai aa.aK n18 n19
def ot (aa:an) (ai:Signal) (c2:Bool) (c3:Bool):Option (Int×an):=
 if ai.Kind=(1:Int) then
  if c2=true then
   some ((6:Int),aa)
  else
   jM aa ai (1:Int) aa.az.dR aa.az.To
 else
  if ai.Kind=(2:Int) then
   if (!c2)=true then
    some ((11:Int),aa)
   else
    (qq (jh (jh ([]:List (Int×Int)) (1:Int) (3:Int)) (2:Int) (0:Int)) aa.aK (0:Int)).bind fun v11=>
    gH aa ai v11 aa.az.dR aa.az.To
  else
   if ai.Kind=(3:Int) then
    oq aa ai ((decide (aa.aK≠(1:Int)))&&(decide (aa.aK≠(3:Int))))
   else
    if ai.Kind=(4:Int) then
     if c3=true then
      some ((11:Int),aa)
     else
      mg aa ai ai.At ai.bh
    else
     if (!c3)=true then
      some ((11:Int),aa)
     else
      mg aa ai (0:Int) (0:Int)
def ou (aa:an) (ai:Signal) (c2:Bool):Option (Int×an):=
 ot aa ai c2 ((decide (aa.az.dR≤ai.At))&&(decide (ai.At < aa.az.To)))
def ph (aa:an) (ai:Signal):Option (Int×an):=
 ou aa ai ((decide (aa.aK=(1:Int)))||(decide (aa.aK=(2:Int))))
def mn (aa:an) (ai:an):Option Int:=
 (gj [(Lib.compareBytes aa.aO ai.aO),(Lib.compareBytes aa.bf ai.bf)]).bind fun v1=>
 some v1
def kE (l4:List an) (l8:List Int) (l10:List dh):Option ((List an)×(List dh)):=
 (E0 (fun y0 y1=>mn y0 y1) l4 l8).bind fun RP=>
 (idxs l4 RP).bind fun X7=>
 some (X7,l10)
def nM (n26:Int) (JU:List an) (pS:List Int) (v46:Int) (bD:Int×an) (Ph:List dh):Option (((List an)×(List Int)×(List dh)×Int)⊕((List an)×(List dh))):=
 some (.inl (JU.set v46.toNat bD.2,pS,Ph,aN (n26+(1:Int))))
def mo (wT:List dh) (n26:Int) (xz:Signal) (JU:List an) (pS:List Int) (n38:Int):Option (((List an)×(List Int)×(List dh)×Int)⊕((List an)×(List dh))):=
 (idx pS n38).bind fun v46=>
 (idx JU v46).bind fun kX=>
 (ph kX xz).bind fun bD=>
 if bD.1≠(0:Int) then
  (app wT [(⟨n26,bD.1⟩:dh)]).bind fun Gg=>
  nM n26 JU pS v46 bD Gg
 else
  nM n26 JU pS v46 bD wT
def mq (aa:List Signal) (ai:Int) (sv:List an) (vh:List Int) (wT:List dh) (n26:Int):Option (((List an)×(List Int)×(List dh)×Int)⊕((List an)×(List dh))):=
 if n26 < (aa.length:Int) then
  (idx aa n26).bind fun xz=>
  if ai < xz.At then
   Option.map .inr (kE sv vh wT)
  else
   (idxs sv vh).bind fun FU=>
   (dK FU (fun y0=>some (jo y0 xz))).bind fun v32=>
   if v32 < (0:Int) then
    (Ee sv.length vh).bind fun u41=>
    (app vh [(sv.length:Int)]).bind fun Bl=>
    mo wT n26 xz (sv++[(⟨xz.Device,xz.aZ,[],(0:Int),(⟨(0:Int),(0:Int)⟩:ao)⟩:an)]) Bl (vh.length:Int)
   else
    mo wT n26 xz sv vh v32
 else
  Option.map .inr (kE sv vh wT)
def xa (aa:List Signal) (ai:Int) (sv:List an) (vh:List Int) (wT:List dh) (n26:Int):Option ((List an)×(List dh)):=
 iter (fun x:(List an)×(List Int)×(List dh)×Int=>mq aa ai x.1 x.2.1 x.2.2.1 x.2.2.2) (sv,vh,wT,n26)
def oz (aa:List Signal) (ai:Int):Option ((List an)×(List dh)):=
 xa aa ai [] [] [] (0:Int)
def k8 (n8:Int) (n11:Int) (n12:Int):Option ((Int×Int×Int)⊕aH):=
 some (.inl (n11,n12,aN (n8+(1:Int))))
def k9 (n7:Int) (n8:Int) (v9:Signal) (n11:Int):Option ((Int×Int×Int)⊕aH):=
 if v9.Kind=(1:Int) then
  k8 n8 n11 (aN (n7+(1:Int)))
 else
  k8 n8 n11 n7
def lf (aa:an) (n6:Int) (n7:Int) (n14:Int):Option aH:=
 some (⟨aa.aO,aa.bf,aa.aK,n6,n7,n14⟩:aH)
def lg (aa:an) (n6:Int) (n7:Int) (Fc:Bool):Option aH:=
 if Fc=true then
  lf aa n6 n7 aa.az.To
 else
  lf aa n6 n7 (0:Int)
def ff (aa:an) (ai:Int) (n6:Int) (n7:Int) (n8:Int):Option ((Int×Int×Int)⊕aH):=
 if n8 < (aa.bK.length:Int) then
  (idx aa.bK n8).bind fun v9=>
  if v9.Kind≤(3:Int) then
   k9 n7 n8 v9 v9.At
  else
   k9 n7 n8 v9 n6
 else
  Option.map .inr (lg aa n6 n7 ((decide (aa.az.dR≤ai))&&(decide (ai < aa.az.To))))
def ud (aa:an) (ai:Int) (n6:Int) (n7:Int) (n8:Int):Option aH:=
 iter (fun x:Int×Int×Int=>ff aa ai x.1 x.2.1 x.2.2) (n6,n7,n8)
def nN (aa:an) (ai:Int):Option aH:=
 ud aa ai (0:Int) (0:Int) (0:Int)
def nO (n8:Int) (oh:List aH):Option (((List aH)×Int)⊕(List aH)):=
 some (.inl (oh,aN (n8+(1:Int))))
def qg (l7:List aH) (n8:Int) (v11:aH) (Fc:Bool):Option (((List aH)×Int)⊕(List aH)):=
 if Fc=true then
  (app l7 [v11]).bind fun sX=>
  nO n8 sX
 else
  nO n8 l7
def il (ai:Int) (v1:(List an)×(List dh)) (l7:List aH) (n8:Int):Option (((List aH)×Int)⊕(List aH)):=
 if n8 < (v1.1.length:Int) then
  (idx v1.1 n8).bind fun v10=>
  (nN v10 ai).bind fun v11=>
  qg l7 n8 v11 ((decide (v11.State≠(0:Int)))||(decide ((0:Int) < v11.gP)))
 else
  Option.map .inr (some l7)
def xb (ai:Int) (v1:(List an)×(List dh)) (l7:List aH) (n8:Int):Option (List aH):=
 iter (fun x:(List aH)×Int=>il ai v1 x.1 x.2) (l7,n8)
def pV (aa:List Signal) (ai:Int):Option (List aH):=
 (oz aa ai).bind fun v1=>
 xb ai v1 [] (0:Int)
def nP (n16:Int) (Ai:List Int):Option (((List Int)×Int)⊕(((List Int)×Int)⊕(List Int))):=
 some (.inl (Ai,aN (n16+(1:Int))))
def qh (oh:List Int) (n16:Int) (v17:Signal) (JV:Bool):Option (((List Int)×Int)⊕(((List Int)×Int)⊕(List Int))):=
 if JV=true then
  (app oh [v17.At]).bind fun wR=>
  nP n16 wR
 else
  nP n16 oh
def im (ai:aS) (aq:aS) (n8:Int) (v10:an) (oh:List Int) (n16:Int):Option (((List Int)×Int)⊕(((List Int)×Int)⊕(List Int))):=
 if n16 < (v10.bK.length:Int) then
  (idx v10.bK n16).bind fun v17=>
  qh oh n16 v17 ((decide (v10.aO=ai))&&((decide (v10.bf=aq))&&(decide (v17.Kind=(1:Int)))))
 else
  Option.map .inr (some (.inl (oh,aN (n8+(1:Int)))))
def tE (ai:aS) (aq:aS) (n8:Int) (v10:an) (oh:List Int) (n16:Int):Option (((List Int)×Int)⊕(List Int)):=
 iter (fun x:(List Int)×Int=>im ai aq n8 v10 x.1 x.2) (oh,n16)
def iq (ai:aS) (aq:aS) (v1:(List an)×(List dh)) (l7:List Int) (n8:Int):Option (((List Int)×Int)⊕(List Int)):=
 if n8 < (v1.1.length:Int) then
  (idx v1.1 n8).bind fun v10=>
  tE ai aq n8 v10 l7 (0:Int)
 else
  Option.map .inr (some l7)
def xc (ai:aS) (aq:aS) (v1:(List an)×(List dh)) (l7:List Int) (n8:Int):Option (List Int):=
 iter (fun x:(List Int)×Int=>iq ai aq v1 x.1 x.2) (l7,n8)
def sD (aa:List Signal) (ai:aS) (aq:aS):Option (List Int):=
 (oz aa (345686400000:Int)).bind fun v1=>
 xc ai aq v1 [] (0:Int)
def na (n16:Int) (n18:Int):Option ((Int×Int)⊕(((List ao)×Int)⊕(List ao))):=
 some (.inl (n18,aN (n16+(1:Int))))
def nd (n9:Int) (wR:List ao):Option (((List ao)×Int)⊕(List ao)):=
 some (.inl (wR,aN (n9+(1:Int))))
def nf (n9:Int) (wT:List ao):Option (((List ao)×Int)⊕(List ao)):=
 nd n9 wT
def lh (aa:bW) (l8:List ao) (n9:Int) (v11:Int) (n15:Int) (JV:Bool):Option (((List ao)×Int)⊕(List ao)):=
 if JV=true then
  (idx l8 (aN ((l8.length:Int) - (1:Int)))).bind fun v23=>
  nd n9 (l8.set (aN ((l8.length:Int) - (1:Int))).toNat (⟨v23.dR,min (aN (v11+aa.Calm)) (345686400000:Int)⟩:ao))
 else
  if aa.kM≤n15 then
   (app l8 [(⟨v11,min (aN (v11+aa.Calm)) (345686400000:Int)⟩:ao)]).bind fun pU=>
   nf n9 pU
  else
   nf n9 l8
def lj (aa:bW) (l8:List ao) (n9:Int) (v11:Int) (n15:Int):Option (((List ao)×Int)⊕(List ao)):=
 if (0:Int) < (l8.length:Int) then
  (idx l8 (aN ((l8.length:Int) - (1:Int)))).bind fun v20=>
  lh aa l8 n9 v11 n15 (decide (v11≤v20.To))
 else
  lh aa l8 n9 v11 n15 false
def gy (aa:bW) (v2:(List Int)) (l8:List ao) (n9:Int) (v11:Int) (ly:List Int) (n15:Int) (n16:Int):Option ((Int×Int)⊕(((List ao)×Int)⊕(List ao))):=
 if n16 < (ly.length:Int) then
  (wO v2 (0:Int) ly.length n16).bind fun v17=>
  if (aN (v11 - aa.ao)) < v17 then
   na n16 (aN (n15+(1:Int)))
  else
   na n16 n15
 else
  Option.map .inr (lj aa l8 n9 v11 n15)
def sE (aa:bW) (v2:(List Int)) (l8:List ao) (n9:Int) (v11:Int) (ly:List Int) (n15:Int) (n16:Int):Option (((List ao)×Int)⊕(List ao)):=
 iter (fun x:Int×Int=>gy aa v2 l8 n9 v11 ly x.1 x.2) (n15,n16)
def gz (aa:bW) (v2:(List Int)) (l8:List ao) (n9:Int):Option (((List ao)×Int)⊕(List ao)):=
 if n9 < (v2.length:Int) then
  (idx v2 n9).bind fun v11=>
  (Av v2 (0:Int) (aN (n9+(1:Int)))).bind fun ly=>
  sE aa v2 l8 n9 v11 ly (0:Int) (0:Int)
 else
  Option.map .inr (some l8)
def sF (aa:bW) (v2:(List Int)) (l8:List ao) (n9:Int):Option (List ao):=
 iter (fun x:(List ao)×Int=>gz aa v2 x.1 x.2) (l8,n9)
def qC (aa:bW) (ai:List Signal) (aq:aS) (aT:aS):Option (List ao):=
 (sD ai aq aT).bind fun v2=>
 sF aa v2 [] (0:Int)
def qU (c2:Bool):Bool:=
 c2
def rW (aa:ao) (ai:Int):Bool:=
 qU ((decide (aa.dR≤ai))&&(decide (ai < aa.To)))
def wE (aa:bd) (ai:List Signal) (aq:aS) (aT:aS) (Mg:Int):Option Bool:=
 (qC aa.bW ai aq aT).bind fun v3=>
 (cy v3 (fun y0=>some (rW y0 Mg))).bind fun v5=>
 some v5
def ll (c2:Bool):Option Bool:=
 some c2
def oK (aa:aH) (ai:bd) (aq:List Signal) (aT:Int):Option Bool:=
 if aa.State=(0:Int) then
  ll true
 else
  if (0:Int) < aa.gP then
   ll true
  else
   (wE ai aq aa.Device aa.aZ aT).bind fun v3=>
   ll v3
def eC (aa:List aH) (dH:aH→Option Bool) (n2:Int):Option (Int⊕Int):=
 if n2 < (aa.length:Int) then
  (idx aa n2).bind fun v3=>
  (dH v3).bind fun v4=>
  if v4=true then
   Option.map .inr (some n2)
  else
   some (.inl (aN (n2+(1:Int))))
 else
  Option.map .inr (some (-1:Int))
def pC (aa:List aH) (dH:aH→Option Bool) (n2:Int):Option Int:=
 iter (fun x:Int=>eC aa dH x) n2
def fO (aa:List aH) (dH:aH→Option Bool):Option Int:=
 pC aa dH (0:Int)
def eo (n7:Int) (iY:List aH) (n12:Int):Option (((List aH)×Int×Int)⊕(List aH)):=
 some (.inl (iY,n12,aN (n7+(1:Int))))
def kp (l5:List aH) (n6:Int):Option (List aH):=
 (Av l5 n6 (l5.length:Int)).bind fun oG=>
 (Av (Ay l5 n6 oG.length (⟨[],[],(0:Int),(0:Int),(0:Int),(0:Int)⟩:aH)) (0:Int) n6).bind fun oh=>
 some oh
def ep (dH:aH→Option Bool) (l5:List aH) (n6:Int) (n7:Int):Option (((List aH)×Int×Int)⊕(List aH)):=
 if n7 < (l5.length:Int) then
  (idx l5 n7).bind fun v8=>
  (dH v8).bind fun v10=>
  if (!v10)=true then
   (idx l5 n6).bind fun gb=>
   eo n7 (l5.set n6.toNat v8) (aN (n6+(1:Int)))
  else
   eo n7 l5 n6
 else
  Option.map .inr (kp l5 n6)
def pj (dH:aH→Option Bool) (l5:List aH) (n6:Int) (n7:Int):Option (List aH):=
 iter (fun x:(List aH)×Int×Int=>ep dH x.1 x.2.1 x.2.2) (l5,n6,n7)
def fA (aa:List aH) (dH:aH→Option Bool):Option (List aH):=
 (fO aa dH).bind fun v1=>
 if v1=(-1:Int) then
  some aa
 else
  pj dH aa v1 (aN (v1+(1:Int)))
def qD (aa:bd) (ai:List Signal) (aq:Int):Option (List aH):=
 (eV ai).bind fun v3=>
 (cN v3 (fun y0=>some (lF y0 aq))).bind fun v5=>
 (pV ai aq).bind fun v8=>
 (fA v8 (fun y0=>oK y0 aa v5 aq)).bind fun v10=>
 some v10
def wF (c2:Bool):Bool:=
 c2
def xA (aa:aH):Bool:=
 wF ((decide (aa.State=(1:Int)))||(decide (aa.State=(2:Int))))
def jj (aa:bd) (ai:aS) (n4:Int):Option (Int⊕bC):=
 if n4 < (aa.aW.length:Int) then
  (idx aa.aW n4).bind fun v5=>
  if v5.aZ=ai then
   Option.map .inr (some v5)
  else
   some (.inl (aN (n4+(1:Int))))
 else
  Option.map .inr (some (⟨ai,(1:Int),false⟩:bC))
def yi (aa:bd) (ai:aS) (n4:Int):Option bC:=
 iter (fun x:Int=>jj aa ai x) n4
def sg (aa:bd) (ai:aS):Option bC:=
 yi aa ai (0:Int)
def jO (c2:Bool):Option Bool:=
 some c2
def nv (aa:aH) (ai:aS) (aq:bd):Option Bool:=
 if aa.Device=ai then
  if (xA aa)=true then
   (sg aq aa.aZ).bind fun v3=>
   jO v3.o1
  else
   jO false
 else
  jO false
def eD (aa:List aH) (dH:aH→Option Bool):Option Bool:=
 (fO aa dH).bind fun v1=>
 some (decide ((0:Int)≤v1))
def jk (aa:bd) (v2:(List aH)) (v4:(List aS)) (n7:Int):Option (Int⊕aS):=
 if n7 < (v4.length:Int) then
  (idx v4 n7).bind fun v8=>
  (eD v2 (fun y0=>nv y0 v8 aa)).bind fun v10=>
  if v10=true then
   Option.map .inr (some v8)
  else
   some (.inl (aN (n7+(1:Int))))
 else
  Option.map .inr (some ([]:aS))
def yj (aa:bd) (v2:(List aH)) (v4:(List aS)) (n7:Int):Option aS:=
 iter (fun x:Int=>jk aa v2 v4 x) n7
def pW (aa:bd) (ai:List Signal) (aq:aS) (aT:Int):Option aS:=
 (qD aa ai aT).bind fun v2=>
 (te aa aq).bind fun v4=>
 yj aa v2 v4 (0:Int)
def kF (aa:Shown) (ai:Shown):Option Int:=
 (gj [(cmp_Compare_int ai.Level aa.Level),(cmp_Compare_int aa.aH.Since ai.aH.Since),(Lib.compareBytes aa.aH.Device ai.aH.Device),(Lib.compareBytes aa.aH.aZ ai.aH.aZ)]).bind fun v3=>
 some v3
def jl (aa:List Shown) (dH:Shown→Shown→Option Int):Option (List Shown):=
 A3 dH aa
def nQ (n21:Int) (pU:List (aS×Int)) (yh:List Shown):Option (((List (aS×Int))×(List Shown)×Int)⊕((List Shown)×Int)):=
 some (.inl (pU,yh,aN (n21+(1:Int))))
def nT (n36:Int) (B8:List Shown):Option (((List Shown)×Int)⊕((List Shown)×Int)):=
 some (.inl (B8,aN (n36+(1:Int))))
def nU (zd:List Shown):Option ((List Shown)×Int):=
 (iK zd.length (fun r:(List Shown)=>r.length) (jl zd (fun y0 y1=>kF y0 y1))).bind fun v41=>
 some (v41,(0:Int))
def ir (v7:bE) (rV:List (aS×Int)) (qP:List Shown) (zd:List Shown) (n36:Int):Option (((List Shown)×Int)⊕((List Shown)×Int)):=
 if n36 < (qP.length:Int) then
  (idx zd n36).bind fun v37=>
  (ez v7 v37.aH).bind fun Ah=>
  if Ah=true then
   (qq rV v37.aH.Device (0:Int)).bind fun v40=>
   nT n36 (zd.set n36.toNat (⟨v37.aH,v37.Level,v40⟩:Shown))
  else
   nT n36 zd
 else
  Option.map .inr (nU zd)
def qj (v7:bE) (rV:List (aS×Int)) (qP:List Shown) (zd:List Shown) (n36:Int):Option ((List Shown)×Int):=
 iter (fun x:(List Shown)×Int=>ir v7 rV qP x.1 x.2) (zd,n36)
def iu (v7:bE) (rV:List (aS×Int)) (qP:List Shown) (n21:Int):Option (((List (aS×Int))×(List Shown)×Int)⊕((List Shown)×Int)):=
 if n21 < (v7.o4.length:Int) then
  (idx v7.o4 n21).bind fun v23=>
  (eA v7 v23.Device).bind fun v25=>
  if v25≠([]:aS) then
   (qq rV v25 (0:Int)).bind fun xz=>
   nQ n21 (jh rV v25 (aN (xz+(1:Int)))) qP
  else
   (qq v7.mz v23.aZ (⟨[],(0:Int),false⟩:bC)).bind fun v30=>
   (app qP [(⟨v23,max (1:Int) v30.Level,(0:Int)⟩:Shown)]).bind fun FU=>
   nQ n21 rV FU
 else
  Option.map .inr (qj v7 rV qP qP (0:Int))
def tF (v7:bE) (rV:List (aS×Int)) (qP:List Shown) (n21:Int):Option ((List Shown)×Int):=
 iter (fun x:(List (aS×Int))×(List Shown)×Int=>iu v7 x.1 x.2.1 x.2.2) (rV,qP,n21)
def uG (aa:bd) (ai:List Signal) (aq:Int):Option ((List Shown)×Int):=
 (fW aa).bind fun v2=>
 (fR ai).bind fun v3=>
 (sy [v2,v3]).bind fun v4=>
 if v4≠(0:Int) then
  some ([],v4)
 else
  if (!(lE aq))=true then
   some ([],(1:Int))
  else
   (k6 aa ai aq).bind fun v7=>
   tF v7 [] [] (0:Int)
def kq (aa:Shown) (ai:Shown):Option Int:=
 (gj [(cmp_Compare_int ai.Level aa.Level),(cmp_Compare_int aa.aH.Since ai.aH.Since)]).bind fun v3=>
 some v3
def cW (n4:Int) (l7:List Shown) (n8:Int) (c9:Bool):Option (((List Shown)×Int)⊕(((List Shown)×Int)⊕(List Shown))):=
 if c9=true then
  (idx l7 (aN (n8 - (1:Int)))).bind fun gb=>
  (idx l7 n8).bind fun gh=>
  (idx l7 n8).bind fun rS=>
  (idx (l7.set n8.toNat gb) (aN (n8 - (1:Int)))).bind fun kS=>
  some (.inl ((l7.set n8.toNat gb).set (aN (n8 - (1:Int))).toNat gh,aN (n8 - (1:Int))))
 else
  Option.map .inr (some (.inl (l7,aN (n4+(1:Int)))))
def cX (ai:Int) (ml:Shown→Shown→Option Int) (n4:Int) (l7:List Shown) (n8:Int):Option (((List Shown)×Int)⊕(((List Shown)×Int)⊕(List Shown))):=
 if ai < n8 then
  (idx l7 n8).bind fun v10=>
  (idx l7 (aN (n8 - (1:Int)))).bind fun v11=>
  (ml v10 v11).bind fun v12=>
  cW n4 l7 n8 (decide (v12 < (0:Int)))
 else
  cW n4 l7 n8 false
def nF (ai:Int) (ml:Shown→Shown→Option Int) (n4:Int) (l7:List Shown) (n8:Int):Option (((List Shown)×Int)⊕(List Shown)):=
 iter (fun x:(List Shown)×Int=>cX ai ml n4 x.1 x.2) (l7,n8)
def cY (ai:Int) (aq:Int) (ml:Shown→Shown→Option Int) (l3:List Shown) (n4:Int):Option (((List Shown)×Int)⊕(List Shown)):=
 if n4 < aq then
  nF ai ml n4 l3 n4
 else
  Option.map .inr (some l3)
def nG (ai:Int) (aq:Int) (ml:Shown→Shown→Option Int) (l3:List Shown) (n4:Int):Option (List Shown):=
 iter (fun x:(List Shown)×Int=>cY ai aq ml x.1 x.2) (l3,n4)
def cz (aa:List Shown) (ai:Int) (aq:Int) (ml:Shown→Shown→Option Int):Option (List Shown):=
 nG ai aq ml aa (aN (ai+(1:Int)))
def er (ai:Int) (aq:Int) (aT:Int) (l3:List Shown) (n4:Int):Option (((List Shown)×Int)⊕(List Shown)):=
 if n4 < aT then
  (idx l3 (aN (aq+n4))).bind fun v5=>
  (idx l3 (aN (ai+n4))).bind fun v6=>
  (idx l3 (aN (ai+n4))).bind fun v7=>
  (idx (l3.set (aN (ai+n4)).toNat v5) (aN (aq+n4))).bind fun v8=>
  some (.inl ((l3.set (aN (ai+n4)).toNat v5).set (aN (aq+n4)).toNat v6,aN (n4+(1:Int))))
 else
  Option.map .inr (some l3)
def pk (ai:Int) (aq:Int) (aT:Int) (l3:List Shown) (n4:Int):Option (List Shown):=
 iter (fun x:(List Shown)×Int=>er ai aq aT x.1 x.2) (l3,n4)
def du (aa:List Shown) (ai:Int) (aq:Int) (aT:Int) (dt:Shown→Shown→Option Int):Option (List Shown):=
 pk ai aq aT aa (0:Int)
def fB (l7:List Shown) (n8:Int) (n9:Int):Option (((List Shown)×Int×Int)⊕(List Shown)):=
 some (.inl (l7,n8,n9))
def lG (aq:Int) (dt:Shown→Shown→Option Int) (l4:List Shown) (n5:Int):Option (List Shown):=
 (iK l4.length (fun r:(List Shown)=>r.length) (du l4 (aN (aq - n5)) aq n5 dt)).bind fun v12=>
 some v12
def fC (aq:Int) (dt:Shown→Shown→Option Int) (l4:List Shown) (n5:Int) (n6:Int):Option (((List Shown)×Int×Int)⊕(List Shown)):=
 if n5≠n6 then
  if n6 < n5 then
   (iK l4.length (fun r:(List Shown)=>r.length) (du l4 (aN (aq - n5)) aq n6 dt)).bind fun v10=>
   fB v10 (aN (n5 - n6)) n6
  else
   (iK l4.length (fun r:(List Shown)=>r.length) (du l4 (aN (aq - n5)) (aN ((aN (aq+n6)) - n5)) n5 dt)).bind fun v11=>
   fB v11 n5 (aN (n6 - n5))
 else
  Option.map .inr (lG aq dt l4 n5)
def qE (aq:Int) (dt:Shown→Shown→Option Int) (l4:List Shown) (n5:Int) (n6:Int):Option (List Shown):=
 iter (fun x:(List Shown)×Int×Int=>fC aq dt x.1 x.2.1 x.2.2) (l4,n5,n6)
def jD (aa:List Shown) (ai:Int) (aq:Int) (aT:Int) (dt:Shown→Shown→Option Int):Option (List Shown):=
 qE aq dt aa (aN (aq - ai)) (aN (aT - aq))
def eE (n8:Int) (n9:Int):Option ((Int×Int)⊕(List Shown)):=
 some (.inl (n8,n9))
def eF (n3:Int) (ly:List Shown) (n13:Int):Option (((List Shown)×Int)⊕(List Shown)):=
 if n13 < (aN (n3 - (1:Int))) then
  (idx ly (aN (n13+(1:Int)))).bind fun gh=>
  (idx ly n13).bind fun rS=>
  (idx ly n13).bind fun kS=>
  (idx (ly.set n13.toNat gh) (aN (n13+(1:Int)))).bind fun v17=>
  some (.inl ((ly.set n13.toNat gh).set (aN (n13+(1:Int))).toNat rS,aN (n13+(1:Int))))
 else
  Option.map .inr (some ly)
def pD (n3:Int) (ly:List Shown) (n13:Int):Option (List Shown):=
 iter (fun x:(List Shown)×Int=>eF n3 x.1 x.2) (ly,n13)
def eG (aa:List Shown) (ai:Int) (dt:Shown→Shown→Option Int) (n3:Int) (n4:Int):Option ((Int×Int)⊕(List Shown)):=
 if n3 < n4 then
  (idx aa (aN (bX .u64 (IntKind.u64.wrap (aN (n3+n4))) (1:Int)))).bind fun v5=>
  (idx aa ai).bind fun v6=>
  (dt v5 v6).bind fun v7=>
  if v7 < (0:Int) then
   eE (aN ((aN (bX .u64 (IntKind.u64.wrap (aN (n3+n4))) (1:Int)))+(1:Int))) n4
  else
   eE n3 (aN (bX .u64 (IntKind.u64.wrap (aN (n3+n4))) (1:Int)))
 else
  Option.map .inr (pD n3 aa ai)
def pE (aa:List Shown) (ai:Int) (dt:Shown→Shown→Option Int) (n3:Int) (n4:Int):Option (List Shown):=
 iter (fun x:Int×Int=>eG aa ai dt x.1 x.2) (n3,n4)
def eI (n25:Int) (n26:Int):Option ((Int×Int)⊕(List Shown)):=
 some (.inl (n25,n26))
def eJ (n20:Int) (oN:List Shown) (n30:Int):Option (((List Shown)×Int)⊕(List Shown)):=
 if n20 < n30 then
  (idx oN (aN (n30 - (1:Int)))).bind fun v31=>
  (idx oN n30).bind fun v32=>
  (idx oN n30).bind fun v33=>
  (idx (oN.set n30.toNat v31) (aN (n30 - (1:Int)))).bind fun oH=>
  some (.inl ((oN.set n30.toNat v31).set (aN (n30 - (1:Int))).toNat v32,aN (n30 - (1:Int))))
 else
  Option.map .inr (some oN)
def pF (n20:Int) (oN:List Shown) (n30:Int):Option (List Shown):=
 iter (fun x:(List Shown)×Int=>eJ n20 x.1 x.2) (oN,n30)
def eK (aa:List Shown) (aq:Int) (dt:Shown→Shown→Option Int) (n20:Int) (n21:Int):Option ((Int×Int)⊕(List Shown)):=
 if n20 < n21 then
  (idx aa aq).bind fun v22=>
  (idx aa (aN (bX .u64 (IntKind.u64.wrap (aN (n20+n21))) (1:Int)))).bind fun v23=>
  (dt v22 v23).bind fun v24=>
  if ¬ (v24 < (0:Int)) then
   eI (aN ((aN (bX .u64 (IntKind.u64.wrap (aN (n20+n21))) (1:Int)))+(1:Int))) n21
  else
   eI n20 (aN (bX .u64 (IntKind.u64.wrap (aN (n20+n21))) (1:Int)))
 else
  Option.map .inr (pF n20 aa aq)
def pG (aa:List Shown) (aq:Int) (dt:Shown→Shown→Option Int) (n20:Int) (n21:Int):Option (List Shown):=
 iter (fun x:Int×Int=>eK aa aq dt x.1 x.2) (n20,n21)
def eM (n44:Int) (n45:Int):Option ((Int×Int)⊕(List Shown)):=
 some (.inl (n44,n45))
def et (Gg:List Shown):Option (List Shown):=
 some Gg
def gJ (self:(List Shown)→Int→Int→Int→(Shown→Shown→Option Int)→Option (List Shown)) (ai:Int) (aq:Int) (aT:Int) (dt:Shown→Shown→Option Int) (n39:Int) (wS:List Shown) (JQ:Bool):Option (List Shown):=
 if JQ=true then
  (iK wS.length (fun r:(List Shown)=>r.length) (self wS (aN (bX .u64 (IntKind.u64.wrap (aN (ai+aT))) (1:Int))) (aN ((aN ((aN (bX .u64 (IntKind.u64.wrap (aN (ai+aT))) (1:Int)))+aq)) - n39)) aT dt)).bind fun v54=>
  et v54
 else
  et wS
def eN (self:(List Shown)→Int→Int→Int→(Shown→Shown→Option Int)→Option (List Shown)) (ai:Int) (aq:Int) (aT:Int) (dt:Shown→Shown→Option Int) (n39:Int) (wS:List Shown):Option (List Shown):=
 gJ self ai aq aT dt n39 wS ((decide ((aN (bX .u64 (IntKind.u64.wrap (aN (ai+aT))) (1:Int))) < (aN ((aN ((aN (bX .u64 (IntKind.u64.wrap (aN (ai+aT))) (1:Int)))+aq)) - n39))))&&(decide ((aN ((aN ((aN (bX .u64 (IntKind.u64.wrap (aN (ai+aT))) (1:Int)))+aq)) - n39)) < aT)))
def gK (self:(List Shown)→Int→Int→Int→(Shown→Shown→Option Int)→Option (List Shown)) (ai:Int) (aq:Int) (aT:Int) (dt:Shown→Shown→Option Int) (n39:Int) (vl:List Shown) (c49:Bool):Option (List Shown):=
 if c49=true then
  (iK vl.length (fun r:(List Shown)=>r.length) (self vl ai n39 (aN (bX .u64 (IntKind.u64.wrap (aN (ai+aT))) (1:Int))) dt)).bind fun v51=>
  eN self ai aq aT dt n39 v51
 else
  eN self ai aq aT dt n39 vl
def eO (self:(List Shown)→Int→Int→Int→(Shown→Shown→Option Int)→Option (List Shown)) (ai:Int) (aq:Int) (aT:Int) (dt:Shown→Shown→Option Int) (n39:Int) (vl:List Shown):Option (List Shown):=
 gK self ai aq aT dt n39 vl ((decide (ai < n39))&&(decide (n39 < (aN (bX .u64 (IntKind.u64.wrap (aN (ai+aT))) (1:Int))))))
def gL (self:(List Shown)→Int→Int→Int→(Shown→Shown→Option Int)→Option (List Shown)) (aa:List Shown) (ai:Int) (aq:Int) (aT:Int) (dt:Shown→Shown→Option Int) (n39:Int) (JR:Bool):Option (List Shown):=
 if JR=true then
  (iK aa.length (fun r:(List Shown)=>r.length) (jD aa n39 aq (aN ((aN ((aN (bX .u64 (IntKind.u64.wrap (aN (ai+aT))) (1:Int)))+aq)) - n39)) dt)).bind fun bD=>
  eO self ai aq aT dt n39 bD
 else
  eO self ai aq aT dt n39 aa
def eP (self:(List Shown)→Int→Int→Int→(Shown→Shown→Option Int)→Option (List Shown)) (aa:List Shown) (ai:Int) (aq:Int) (aT:Int) (dt:Shown→Shown→Option Int) (n39:Int) (n40:Int):Option ((Int×Int)⊕(List Shown)):=
 if n39 < n40 then
  (idx aa (aN ((aN ((aN ((aN (bX .u64 (IntKind.u64.wrap (aN (ai+aT))) (1:Int)))+aq)) - (1:Int))) - (aN (bX .u64 (IntKind.u64.wrap (aN (n39+n40))) (1:Int)))))).bind fun v41=>
  (idx aa (aN (bX .u64 (IntKind.u64.wrap (aN (n39+n40))) (1:Int)))).bind fun ID=>
  (dt v41 ID).bind fun zc=>
  if ¬ (zc < (0:Int)) then
   eM (aN ((aN (bX .u64 (IntKind.u64.wrap (aN (n39+n40))) (1:Int)))+(1:Int))) n40
  else
   eM n39 (aN (bX .u64 (IntKind.u64.wrap (aN (n39+n40))) (1:Int)))
 else
  Option.map .inr (gL self aa ai aq aT dt n39 ((decide (n39 < aq))&&(decide (aq < (aN ((aN ((aN (bX .u64 (IntKind.u64.wrap (aN (ai+aT))) (1:Int)))+aq)) - n39))))))
def pH (self:(List Shown)→Int→Int→Int→(Shown→Shown→Option Int)→Option (List Shown)) (aa:List Shown) (ai:Int) (aq:Int) (aT:Int) (dt:Shown→Shown→Option Int) (n39:Int) (n40:Int):Option (List Shown):=
 iter (fun x:Int×Int=>eP self aa ai aq aT dt x.1 x.2) (n39,n40)
def eQ (self:(List Shown)→Int→Int→Int→(Shown→Shown→Option Int)→Option (List Shown)) (aa:List Shown) (ai:Int) (aq:Int) (aT:Int) (dt:Shown→Shown→Option Int) (n35:Int) (n36:Int):Option (List Shown):=
 pH self aa ai aq aT dt n35 n36
def gM (self:(List Shown)→Int→Int→Int→(Shown→Shown→Option Int)→Option (List Shown)) (aa:List Shown) (ai:Int) (aq:Int) (aT:Int) (dt:Shown→Shown→Option Int):Option (List Shown):=
 if (aN (aq - ai))=(1:Int) then
  pE aa ai dt aq aT
 else
  if (aN (aT - aq))=(1:Int) then
   pG aa aq dt ai aq
  else
   if (aN (bX .u64 (IntKind.u64.wrap (aN (ai+aT))) (1:Int))) < aq then
    eQ self aa ai aq aT dt (aN ((aN ((aN (bX .u64 (IntKind.u64.wrap (aN (ai+aT))) (1:Int)))+aq)) - aT)) (aN (bX .u64 (IntKind.u64.wrap (aN (ai+aT))) (1:Int)))
   else
    eQ self aa ai aq aT dt ai aq
def ib:Nat→(List Shown)→Int→Int→Int→(Shown→Shown→Option Int)→Option (List Shown)
 | 0=>fun _ _ _ _ _=>none
 | k+1=>gM (ib k)
def iV (aa:List Shown) (ai:Int) (aq:Int) (aT:Int) (dt:Shown→Shown→Option Int):Option (List Shown):=
 ib depth aa ai aq aT dt
def fD (n12:Int) (qP:List Shown):Option (((List Shown)×Int)⊕(List Shown)):=
 some (.inl (qP,aN (n12 * (2:Int))))
def lH (ai:Int) (pc:Shown→Shown→Option Int) (n12:Int) (sX:List Shown) (n17:Int):Option (((List Shown)×Int)⊕(List Shown)):=
 if (aN (n17+n12)) < ai then
  (iK sX.length (fun r:(List Shown)=>r.length) (iV sX n17 (aN (n17+n12)) ai pc)).bind fun v21=>
  fD n12 v21
 else
  fD n12 sX
def fE (ai:Int) (pc:Shown→Shown→Option Int) (n12:Int) (sX:List Shown) (n17:Int) (n18:Int):Option (((List Shown)×Int×Int)⊕(((List Shown)×Int)⊕(List Shown))):=
 if n18≤ai then
  (iK sX.length (fun r:(List Shown)=>r.length) (iV sX n17 (aN (n17+n12)) n18 pc)).bind fun w9=>
  some (.inl (w9,n18,aN (n18+(aN ((2:Int) * n12)))))
 else
  Option.map .inr (lH ai pc n12 sX n17)
def qF (ai:Int) (pc:Shown→Shown→Option Int) (n12:Int) (sX:List Shown) (n17:Int) (n18:Int):Option (((List Shown)×Int)⊕(List Shown)):=
 iter (fun x:(List Shown)×Int×Int=>fE ai pc n12 x.1 x.2.1 x.2.2) (sX,n17,n18)
def dw (ai:Int) (pc:Shown→Shown→Option Int) (iY:List Shown) (n12:Int):Option (((List Shown)×Int)⊕(List Shown)):=
 if n12 < ai then
  qF ai pc n12 iY (0:Int) (aN ((2:Int) * n12))
 else
  Option.map .inr (some iY)
def lI (ai:Int) (pc:Shown→Shown→Option Int) (iY:List Shown) (n12:Int):Option (List Shown):=
 iter (fun x:(List Shown)×Int=>dw ai pc x.1 x.2) (iY,n12)
def iG (ai:Int) (pc:Shown→Shown→Option Int) (l4:List Shown) (n5:Int):Option (List Shown):=
 (iK l4.length (fun r:(List Shown)=>r.length) (cz l4 n5 ai pc)).bind fun v8=>
 lI ai pc v8 (20:Int)
def dx (ai:Int) (pc:Shown→Shown→Option Int) (l4:List Shown) (n5:Int) (n6:Int):Option (((List Shown)×Int×Int)⊕(List Shown)):=
 if n6≤ai then
  (iK l4.length (fun r:(List Shown)=>r.length) (cz l4 n5 n6 pc)).bind fun v7=>
  some (.inl (v7,n6,aN (n6+(20:Int))))
 else
  Option.map .inr (iG ai pc l4 n5)
def lJ (ai:Int) (pc:Shown→Shown→Option Int) (l4:List Shown) (n5:Int) (n6:Int):Option (List Shown):=
 iter (fun x:(List Shown)×Int×Int=>dx ai pc x.1 x.2.1 x.2.2) (l4,n5,n6)
def eW (aa:List Shown) (ai:Int) (pc:Shown→Shown→Option Int):Option (List Shown):=
 lJ ai pc aa (0:Int) (20:Int)
def cA (aa:List Shown) (dH:Shown→Shown→Option Int):Option (List Shown):=
 (iK aa.length (fun r:(List Shown)=>r.length) (eW aa (aa.length:Int) dH)).bind fun v1=>
 some v1
def oL (n9:Int) (ly:List Shown):Option (((List Shown)×Int)⊕(List Shown)):=
 some (.inl (ly,aN (n9+(1:Int))))
def qG (n22:Int) (n27:Int):Option ((Int×Int)⊕(((List Shown)×Int)⊕(List Shown))):=
 some (.inl (n27,aN (n22+(1:Int))))
def ng (n21:Int) (n22:Int) (JW:Bool):Option ((Int×Int)⊕(((List Shown)×Int)⊕(List Shown))):=
 if JW=true then
  qG n22 (aN (n21+(1:Int)))
 else
  qG n22 n21
def tq (l8:List Shown) (n9:Int) (gb:aH) (kS:bC) (n21:Int):Option (((List Shown)×Int)⊕(List Shown)):=
 (app l8 [(⟨gb,kS.Level,n21⟩:Shown)]).bind fun yh=>
 oL n9 yh
def kr (aa:bd) (ai:List Signal) (aq:Int) (v2:(List aH)) (l8:List Shown) (n9:Int) (gb:aH) (kS:bC) (n21:Int) (n22:Int):Option ((Int×Int)⊕(((List Shown)×Int)⊕(List Shown))):=
 if n22 < (v2.length:Int) then
  (idx v2 n22).bind fun v23=>
  if kS.o1=true then
   if (xA gb)=true then
    (pW aa ai v23.Device aq).bind fun v26=>
    ng n21 n22 (decide (v26=gb.Device))
   else
    ng n21 n22 false
  else
   ng n21 n22 false
 else
  Option.map .inr (tq l8 n9 gb kS n21)
def zM (aa:bd) (ai:List Signal) (aq:Int) (v2:(List aH)) (l8:List Shown) (n9:Int) (gb:aH) (kS:bC) (n21:Int) (n22:Int):Option (((List Shown)×Int)⊕(List Shown)):=
 iter (fun x:Int×Int=>kr aa ai aq v2 l8 n9 gb kS x.1 x.2) (n21,n22)
def qH (l8:List Shown):Option (List Shown):=
 (iK l8.length (fun r:(List Shown)=>r.length) (cA l8 (fun y0 y1=>kq y0 y1))).bind fun v30=>
 some v30
def ku (aa:bd) (ai:List Signal) (aq:Int) (v2:(List aH)) (l8:List Shown) (n9:Int):Option (((List Shown)×Int)⊕(List Shown)):=
 if n9 < (v2.length:Int) then
  (idx v2 n9).bind fun gb=>
  (pW aa ai gb.Device aq).bind fun rS=>
  if rS≠([]:aS) then
   oL n9 l8
  else
   (sg aa gb.aZ).bind fun kS=>
   zM aa ai aq v2 l8 n9 gb kS (0:Int) (0:Int)
 else
  Option.map .inr (qH l8)
def zN (aa:bd) (ai:List Signal) (aq:Int) (v2:(List aH)) (l8:List Shown) (n9:Int):Option (List Shown):=
 iter (fun x:(List Shown)×Int=>ku aa ai aq v2 x.1 x.2) (l8,n9)
def vM (aa:bd) (ai:List Signal) (aq:Int):Option (List Shown):=
 (qD aa ai aq).bind fun v2=>
 zN aa ai aq v2 [] (0:Int)
def gd (aa:List Shown) (ai:List Shown) (n2:Int):Option (Int⊕Bool):=
 if n2 < (aa.length:Int) then
  (idx aa n2).bind fun v3=>
  (idx ai n2).bind fun v4=>
  if v3≠v4 then
   Option.map .inr (some false)
  else
   some (.inl (aN (n2+(1:Int))))
 else
  Option.map .inr (some true)
def rZ (aa:List Shown) (ai:List Shown) (n2:Int):Option Bool:=
 iter (fun x:Int=>gd aa ai x) n2
def iv (aa:List Shown) (ai:List Shown):Option Bool:=
 if (aa.length:Int)≠(ai.length:Int) then
  some false
 else
  rZ aa ai (0:Int)
def jE (c2:Bool):Option Int:=
 if c2=true then
  some (5:Int)
 else
  some (0:Int)
def mh (aa:List Signal) (ai:aS) (aq:aS):Option Int:=
 (fR aa).bind fun v1=>
 if v1≠(0:Int) then
  some v1
 else
  (jY ai).bind fun v3=>
  if (!v3)=true then
   jE true
  else
   (jY aq).bind fun v4=>
   jE (!v4)
def nV (aa:List Signal) (ai:aS) (aq:aS) (aT:Int):Option (aH×Int):=
 (mh aa ai aq).bind fun v2=>
 if v2≠(0:Int) then
  some ((⟨[],[],(0:Int),(0:Int),(0:Int),(0:Int)⟩:aH),v2)
 else
  if (!(lE aT))=true then
   some ((⟨[],[],(0:Int),(0:Int),(0:Int),(0:Int)⟩:aH),(1:Int))
  else
   (sA aa aT).bind fun v3=>
   y9 (bQ v3.sW (⟨ai,aq⟩:al)) (
    some ((⟨ai,aq,(0:Int),(0:Int),(0:Int),(0:Int)⟩:aH),(0:Int))) (fun n10=>
    (idx v3.wQ n10).bind fun v11=>
    some (((a8 v11 aT).1),(0:Int)))
def r4 (c3:Bool):Option Bool:=
 some c3
def pX:Option Bool:=
 (nV [(⟨(1:Int),(1:Int),([100]:aS),([114]:aS),[],(0:Int)⟩:Signal)] ([100]:aS) ([114]:aS) (1:Int)).bind fun v1=>
 r4 ((decide (v1.2=(0:Int)))&&(decide (v1.1.State=(1:Int))))
def ic (Qu:Bool):Option Bool:=
 some Qu
def ln (v2:bd×ak) (v4:(List Signal)×ak) (v6:Int×ak) (v9:Int) (JW:Bool):Option Bool:=
 if JW=true then
  some false
 else
  (uG v2.1 v4.1 v6.1).bind fun v26=>
  (k7 v4.1).bind fun v28=>
  (nt [v9,v28,(fJ v6.1)]).bind fun xz=>
  if v26.2=xz then
   if xz≠(0:Int) then
    (pX).bind fun v35=>
    ic v35
   else
    (vM v2.1 v4.1 v6.1).bind fun v31=>
    (iv v26.1 v31).bind fun v33=>
    if v33=true then
     (pX).bind fun oH=>
     ic oH
    else
     ic false
  else
   ic false
def lp (v2:bd×ak) (v4:(List Signal)×ak) (v6:Int×ak) (v9:Int) (w9:aS×Bool×Int) (v22:Int) (OA:aS):Option Bool:=
 ln v2 v4 v6 v9 ((decide (w9.2.2≠v22))||((decide (w9.1≠OA))||(w9.2.1!=(decide (OA≠([]:aS))))))
def ie (v2:bd×ak) (v4:(List Signal)×ak) (v6:Int×ak) (v7:aS×ak) (v9:Int) (Fb:Bool):Option Bool:=
 if Fb=true then
  some false
 else
  (qe v2.1 v4.1 v7.1 v6.1).bind fun w9=>
  (k7 v4.1).bind fun v20=>
  (pT v7.1).bind fun v21=>
  (nt [v9,v20,v21,(fJ v6.1)]).bind fun v22=>
  if v22=(0:Int) then
   (pW v2.1 v4.1 v7.1 v6.1).bind fun v24=>
   lp v2 v4 v6 v9 w9 v22 v24
  else
   lp v2 v4 v6 v9 w9 v22 ([]:aS)
def nW (aa:List Int):Option Bool:=
 (o6 (⟨aa,(0:Int)⟩:ak)).bind fun v2=>
 (jS v2.2 (0:Int) (12:Int)).bind fun v3=>
 (mN v3.2 v3.1 false).bind fun v4=>
 (qx v4.2).bind fun v6=>
 (fr v6.2 [([100,97]:aS),([100,98]:aS),([100,103]:aS),([65]:aS)]).bind fun v7=>
 (pf v2.1).bind fun v9=>
 (fW v2.1).bind fun v10=>
 if v10≠v9 then
  some false
 else
  (tg v2.1 v7.1).bind fun v11=>
  (pT v7.1).bind fun gb=>
  (nt [v9,gb]).bind fun gh=>
  if v11.2≠gh then
   ie v2 v4 v6 v7 v9 true
  else
   if gh=(0:Int) then
    (wD v2.1 v7.1).bind fun kS=>
    (gu v11.1 kS).bind fun zK=>
    ie v2 v4 v6 v7 v9 (!zK)
   else
    ie v2 v4 v6 v7 v9 false
end
end Go.Beacon
