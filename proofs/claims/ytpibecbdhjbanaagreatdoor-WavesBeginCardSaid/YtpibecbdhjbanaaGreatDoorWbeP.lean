/- Plain functions that the Go functions compute, written by shal.py. -/
import Derived.Test.YtpibecbdhjbanaaGreatDoorCore
set_option linter.unusedVariables false
namespace Go.Beacon
open Go Go.Eng
noncomputable section
structure ah where
 L:List Int
 at_:Int
deriving DecidableEq,Inhabited
structure Version where
 aN:Int
 aO:Int
 aM:Int
deriving DecidableEq,Inhabited
def Version.av (x:Version):AV:=.agg [I x.aN,I x.aO,I x.aM]
structure iI where
 Part:Int
 oW:Int
 tv:Int
 cO:Int
deriving DecidableEq,Inhabited
def iI.av (x:iI):AV:=.agg [I x.Part,I x.oW,I x.tv,I x.cO]
structure DA where
 eU:Int
 To:Int
deriving DecidableEq,Inhabited
structure Campaign where
 Key:bq
 Target:Version
 At:Int
 aB:List iI
 bh:DA
 Room:Int
deriving DecidableEq,Inhabited
def Campaign.av (x:Campaign):AV:=.agg [.str x.Key,I x.Target.aN,I x.Target.aO,I x.Target.aM,I x.At,.list 4 (x.aB.map iI.av),I x.bh.eU,I x.bh.To,I x.Room]
structure FA where
 Name:bq
 Value:bq
deriving DecidableEq,Inhabited
def FA.av (x:FA):AV:=.agg [.str x.Name,.str x.Value]
structure DeviceS where
 Key:bq
 Model:bq
 de:bq
 bn:Version
 j0:List FA
deriving DecidableEq,Inhabited
def DeviceS.av (x:DeviceS):AV:=.agg [.str x.Key,.str x.Model,.str x.de,I x.bn.aN,I x.bn.aO,I x.bn.aM,.list 2 (x.j0.map FA.av)]
structure MarkS where
 At:Int
 Device:bq
 Kind:Int
 Version:Version
deriving DecidableEq,Inhabited
def MarkS.av (x:MarkS):AV:=.agg [I x.At,.str x.Device,I x.Kind,I x.Version.aN,I x.Version.aO,I x.Version.aM]
structure ak where
 Kind:Int
 Since:Int
 Version:Version
 cO:Int
deriving DecidableEq,Inhabited
def ak.av (x:ak):AV:=.agg [I x.Kind,I x.Since,I x.Version.aN,I x.Version.aO,I x.Version.aM,I x.cO]
structure al where
 ak:ak
 aI:Version
deriving DecidableEq,Inhabited
structure an where
 c_:Campaign
 oK:List (bq×Int)
 dF:List (bq×Int)
 open_:List Int
 bl:List Int
 aR:List Int
 aL:List Int
 aT:Int
 cw:Int
 kO:List al
deriving DecidableEq,Inhabited
def sj (n2:Int):Option Int:=
 some n2
def Below (aa:Int) (ai:Int):Option Int:=
 if ai < (1:Int) then
  some (0:Int)
 else
  (rem aa ai).bind fun n1=>
  if n1 < (0:Int) then
   sj (aJ (n1+ai))
  else
   sj n1
def eI (aa:ah) (ai:Int):Option (Int×ah):=
 if (aa.L.length:Int)=(0:Int) then
  (Below (aJ ((aJ (aa.at_+(1:Int))) * (7919:Int))) ai).bind fun v1=>
  some (v1,(⟨aa.L,aJ (aa.at_+(1:Int))⟩:ah))
 else
  (rem (aJ ((aJ (aa.at_+(1:Int))) - (1:Int))) (aa.L.length:Int)).bind fun n2=>
  (quo (aJ ((aJ (aa.at_+(1:Int))) - (1:Int))) (aa.L.length:Int)).bind fun n3=>
  (idx aa.L n2).bind fun v4=>
  (Below v4 (1073741824:Int)).bind fun v5=>
  (Below (aJ (v5+(aJ (n3 * (aJ ((7919:Int)+n2)))))) ai).bind fun v6=>
  some (v6,(⟨aa.L,aJ (aa.at_+(1:Int))⟩:ah))
def fh (aa:ah) (ai:List bq):Option (bq×ah):=
 (eI aa (ai.length:Int)).bind fun v1=>
 (idx ai v1.1).bind fun v2=>
 some (v2,v1.2)
def bP (aa:ah) (ai:List Int):Option (Int×ah):=
 (eI aa (ai.length:Int)).bind fun v1=>
 (idx ai v1.1).bind fun v2=>
 some (v2,v1.2)
def whole (aa:Int):Version:=
 (⟨aa,(0:Int),(0:Int)⟩:Version)
def dB (aa:ah) (ai:Int):Option (Bool×ah):=
 (eI aa ai).bind fun v1=>
 some (decide (v1.1=(0:Int)),v1.2)
def eJ (v2:bq×ah) (v3:Int×ah) (v4:Int×ah) (v5:Int×ah) (tw:List iI) (vl:List Int) (n28:Int) (n29:Int) (n30:Int):Option (Campaign×ah):=
 some ((⟨v2.1,(whole v3.1),v4.1,tw,(⟨n29,n30⟩:DA),v5.1⟩:Campaign),(⟨vl,n28⟩:ah))
def iZ (v2:bq×ah) (v3:Int×ah) (v4:Int×ah) (v5:Int×ah) (wo:List Int) (n15:Int) (tw:List iI):Option (Campaign×ah):=
 (dB (⟨wo,n15⟩:ah) (3:Int)).bind fun v26=>
 if v26.1=true then
  (bP v26.2 [(0:Int),(50:Int),(3600000:Int)]).bind fun v31=>
  (bP v31.2 [(0:Int),(40:Int),(200:Int),(86400000:Int)]).bind fun v32=>
  eJ v2 v3 v4 v5 tw v32.2.L v32.2.at_ v31.1 v32.1
 else
  eJ v2 v3 v4 v5 tw v26.2.L v26.2.at_ (0:Int) (0:Int)
def eK (v2:bq×ah) (v3:Int×ah) (v4:Int×ah) (v5:Int×ah) (v8:List Int) (wo:List Int) (n15:Int) (tw:List iI) (n18:Int):Option (((List Int)×Int×(List iI)×Int)⊕(Campaign×ah)):=
 if n18 < (v8.length:Int) then
  (idx v8 n18).bind fun v20=>
  (bP (⟨wo,n15⟩:ah) [(0:Int),(0:Int),(10:Int),(30:Int)]).bind fun v21=>
  (bP v21.2 [(1:Int),(1:Int),(2:Int),(3:Int)]).bind fun v22=>
  (bP v22.2 [(0:Int),(300:Int),(500:Int),(1000:Int)]).bind fun v23=>
  (app tw [(⟨v20,v21.1,v22.1,v23.1⟩:iI)]).bind fun vm=>
  some (.inl (v23.2.L,v23.2.at_,vm,aJ (n18+(1:Int))))
 else
  Option.map .inr (iZ v2 v3 v4 v5 wo n15 tw)
def lG (v2:bq×ah) (v3:Int×ah) (v4:Int×ah) (v5:Int×ah) (v8:List Int) (wo:List Int) (n15:Int) (tw:List iI) (n18:Int):Option (Campaign×ah):=
 iter (fun x:(List Int)×Int×(List iI)×Int=>eK v2 v3 v4 v5 v8 x.1 x.2.1 x.2.2.1 x.2.2.2) (wo,n15,tw,n18)
def fN (aa:ah):Option (Campaign×ah):=
 (fh aa [([99]:bq),([107]:bq),([122,57]:bq)]).bind fun v2=>
 (bP v2.2 [(2:Int),(3:Int),(4:Int)]).bind fun v3=>
 (bP v3.2 [(0:Int),(10:Int),(100:Int)]).bind fun v4=>
 (bP v4.2 [(1:Int),(2:Int),(5:Int)]).bind fun v5=>
 (eI v5.2 (4:Int)).bind fun v7=>
 (idx [[(1000:Int)],[(500:Int),(500:Int)],[(200:Int),(300:Int),(500:Int)],[(100:Int),(900:Int)]] v7.1).bind fun v8=>
 lG v2 v3 v4 v5 v8 v7.2.L v7.2.at_ [] (0:Int)
def gq (aa:ah) (ai:Int) (au:Int):Option (Int×ah):=
 if au < ai then
  some (ai,aa)
 else
  (eI aa (aJ ((aJ (au - ai))+(1:Int)))).bind fun v1=>
  some (aJ (ai+v1.1),v1.2)
def gj (aa:ah):Option (Version×ah):=
 (gq aa (1:Int) (4:Int)).bind fun v2=>
 (bP v2.2 [(0:Int),(0:Int),(1:Int),(5:Int),(9999:Int)]).bind fun v3=>
 (bP v3.2 [(0:Int),(0:Int),(0:Int),(3:Int),(9999:Int)]).bind fun v4=>
 some ((⟨v2.1,v3.1,v4.1⟩:Version),v4.2)
def dC (aa:ah) (ai:Int) (au:Int):Option (Int×ah):=
 (dB aa (12:Int)).bind fun v1=>
 if v1.1=true then
  (bP v1.2 [aJ (ai - (1:Int)),aJ (au+(1:Int)),ai,au,(-1099511627776:Int),(1099511627776:Int)]).bind fun v2=>
  some (v2.1,v2.2)
 else
  (gq v1.2 ai au).bind fun v3=>
  some (v3.1,v3.2)
def iw (v2:Version×ah) (l5:List Int) (n6:Int) (n7:Int) (n8:Int):Option (Version×ah):=
 some ((⟨v2.1.aN,n7,n8⟩:Version),(⟨l5,n6⟩:ah))
def ja (aa:ah):Option (Version×ah):=
 (gj aa).bind fun v2=>
 (dB v2.2 (30:Int)).bind fun v4=>
 if v4.1=true then
  (dC v4.2 (0:Int) (9999:Int)).bind fun v9=>
  (dC v9.2 (0:Int) (9999:Int)).bind fun v10=>
  iw v2 v10.2.L v10.2.at_ v10.1 v9.1
 else
  iw v2 v4.2.L v4.2.at_ v2.1.aO v2.1.aM
def gN (l6:List Int) (n7:Int) (q8:bq) (n9:Int) (n10:Int) (n11:Int) (n12:Int) (wo:List iI) (n15:Int) (n16:Int) (n17:Int):Option (Campaign×ah):=
 some ((⟨q8,(⟨n9,n10,n11⟩:Version),n12,wo,(⟨n15,n16⟩:DA),n17⟩:Campaign),(⟨l6,n7⟩:ah))
def gO (yJ:List Int) (n20:Int) (MR:bq) (n22:Int) (n23:Int) (n24:Int) (n25:Int) (vl:List iI) (n28:Int) (n29:Int) (n30:Int):Option (Campaign×ah):=
 gN yJ n20 MR n22 n23 n24 n25 vl n28 n29 n30
def gP (v2:Campaign×ah) (MS:List Int) (n33:Int) (n34:Int) (n35:Int) (n36:Int) (n37:Int) (LS:List iI) (n40:Int) (n41:Int) (n42:Int):Option (Campaign×ah):=
 gO MS n33 v2.1.Key n34 n35 n36 n37 LS n40 n41 n42
def gQ (v2:Campaign×ah) (MT:List Int) (n45:Int) (n46:Int) (LU:List iI) (n49:Int) (n50:Int) (n51:Int):Option (Campaign×ah):=
 gP v2 MT n45 v2.1.Target.aN v2.1.Target.aO v2.1.Target.aM n46 LU n49 n50 n51
def gR (v2:Campaign×ah) (Ge:List Int) (MU:Int) (LV:List iI) (n57:Int) (Gf:Int) (n59:Int):Option (Campaign×ah):=
 gQ v2 Ge MU v2.1.At LV n57 Gf n59
def gS (v2:Campaign×ah) (FB:List Int) (vE:Int) (n68:Int) (n69:Int) (FC:Int):Option (Campaign×ah):=
 gR v2 FB vE v2.1.aB n68 n69 FC
def jz (aa:ah):Option (Campaign×ah):=
 (fN aa).bind fun v2=>
 (dB v2.2 (12:Int)).bind fun v5=>
 if v5.1=true then
  (eI v5.2 (6:Int)).bind fun eS=>
  if eS.1=(0:Int) then
   (fh eS.2 [([]:bq),([65]:bq)]).bind fun v31=>
   gO v31.2.L v31.2.at_ v31.1 v2.1.Target.aN v2.1.Target.aO v2.1.Target.aM v2.1.At v2.1.aB v2.1.bh.eU v2.1.bh.To v2.1.Room
  else
   if eS.1=(1:Int) then
    (ja eS.2).bind fun Eo=>
    gP v2 Eo.2.L Eo.2.at_ Eo.1.aN Eo.1.aO Eo.1.aM v2.1.At v2.1.aB v2.1.bh.eU v2.1.bh.To v2.1.Room
   else
    if eS.1=(2:Int) then
     (dC eS.2 (0:Int) (100:Int)).bind fun LW=>
     gQ v2 LW.2.L LW.2.at_ LW.1 v2.1.aB v2.1.bh.eU v2.1.bh.To v2.1.Room
    else
     if eS.1=(3:Int) then
      (dC eS.2 (1:Int) (1000:Int)).bind fun v60=>
      (dC v60.2 (0:Int) (10:Int)).bind fun HA=>
      (dC HA.2 (1:Int) (500:Int)).bind fun HB=>
      (dC HB.2 (0:Int) (1000:Int)).bind fun Ep=>
      (app v2.1.aB [(⟨v60.1,HA.1,HB.1,Ep.1⟩:iI)]).bind fun Q1=>
      gR v2 Ep.2.L Ep.2.at_ Q1 v2.1.bh.eU v2.1.bh.To v2.1.Room
     else
      if eS.1=(4:Int) then
       (dC eS.2 (0:Int) (86400000:Int)).bind fun LX=>
       (dC LX.2 (0:Int) (86400000:Int)).bind fun v72=>
       gS v2 v72.2.L v72.2.at_ LX.1 v72.1 v2.1.Room
      else
       (dC eS.2 (1:Int) (500:Int)).bind fun DB=>
       gS v2 DB.2.L DB.2.at_ v2.1.bh.eU v2.1.bh.To DB.1
 else
  gN v5.2.L v5.2.at_ v2.1.Key v2.1.Target.aN v2.1.Target.aO v2.1.Target.aM v2.1.At v2.1.aB v2.1.bh.eU v2.1.bh.To v2.1.Room
def fO (n11:Int) (IJ:List Int) (n16:Int) (MW:List DeviceS):Option (((List Int)×Int×(List DeviceS)×Int)⊕((List DeviceS)×ah)):=
 some (.inl (IJ,n16,MW,aJ (n11+(1:Int))))
def fP (l1:List bq) (l7:List Int) (n8:Int) (l10:List DeviceS) (n11:Int):Option (((List Int)×Int×(List DeviceS)×Int)⊕((List DeviceS)×ah)):=
 if n11 < (l1.length:Int) then
  (idx l1 n11).bind fun mG=>
  (dB (⟨l7,n8⟩:ah) (5:Int)).bind fun kJ=>
  if (!kJ.1)=true then
   (fh kJ.2 [([109]:bq),([109]:bq),([109]:bq),([110]:bq)]).bind fun nO=>
   (bP nO.2 [(1:Int),(1:Int),(1:Int),(2:Int),(3:Int)]).bind fun v20=>
   (bP v20.2 [(0:Int),(0:Int),(5:Int)]).bind fun v21=>
   (app l10 [(⟨mG,nO.1,([116]:bq),(⟨v20.1,v21.1,(0:Int)⟩:Version),[]⟩:DeviceS)]).bind fun Q2=>
   fO n11 v21.2.L v21.2.at_ Q2
  else
   fO n11 kJ.2.L kJ.2.at_ l10
 else
  Option.map .inr (some (l10,(⟨l7,n8⟩:ah)))
def nF (l1:List bq) (l7:List Int) (n8:Int) (l10:List DeviceS) (n11:Int):Option ((List DeviceS)×ah):=
 iter (fun x:(List Int)×Int×(List DeviceS)×Int=>fP l1 x.1 x.2.1 x.2.2.1 x.2.2.2) (l7,n8,l10,n11)
def iy (aa:ah) (ai:Int):Option ((List DeviceS)×ah):=
 (vu [([100,49]:bq),([100,50]:bq),([100,51]:bq),([100,52]:bq),([100,53]:bq),([100,54]:bq)] (0:Int) ai).bind fun l1=>
 nF l1 aa.L aa.at_ [] (0:Int)
def jA (l7:List Int) (n8:Int) (l9:List DeviceS):Option ((List DeviceS)×ah):=
 some (l9,(⟨l7,n8⟩:ah))
def jB (v1:(List DeviceS)×ah) (l3:List Int) (n4:Int) (c5:Bool):Option ((List DeviceS)×ah):=
 if c5=true then
  (eI (⟨l3,n4⟩:ah) (v1.1.length:Int)).bind fun v10=>
  (idx v1.1 v10.1).bind fun v11=>
  (fh v10.2 [v11.Key,([]:bq),([100,49]:bq)]).bind fun v12=>
  (fh v12.2 [([109]:bq),([]:bq)]).bind fun mG=>
  (ja mG.2).bind fun kJ=>
  jA kJ.2.L kJ.2.at_ (((v1.1.set v10.1.toNat (⟨v12.1,v11.Model,v11.de,v11.bn,v11.j0⟩:DeviceS)).set v10.1.toNat (⟨v12.1,mG.1,v11.de,v11.bn,v11.j0⟩:DeviceS)).set v10.1.toNat (⟨v12.1,mG.1,v11.de,kJ.1,v11.j0⟩:DeviceS))
 else
  jA l3 n4 v1.1
def lX (aa:ah) (ai:Int):Option ((List DeviceS)×ah):=
 (iy aa ai).bind fun v1=>
 if (0:Int) < (v1.1.length:Int) then
  (dB v1.2 (15:Int)).bind fun v6=>
  jB v1 v6.2.L v6.2.at_ v6.1
 else
  jB v1 v1.2.L v1.2.at_ false
def x5 (aa:Int):Int:=
 if aa < (0:Int) then
  (-1:Int)
 else
  if (0:Int) < aa then
   (1:Int)
  else
   (0:Int)
def eM (aa:MarkS) (ai:MarkS):Int:=
 if aa.At≠ai.At then
  (x5 (aJ (aa.At - ai.At)))
 else
  (Lib.compareBytes aa.Device ai.Device)
def cJ (n4:Int) (l7:List MarkS) (n8:Int) (c9:Bool):Option (((List MarkS)×Int)⊕(((List MarkS)×Int)⊕(List MarkS))):=
 if c9=true then
  (idx l7 (aJ (n8 - (1:Int)))).bind fun mG=>
  (idx l7 n8).bind fun kJ=>
  (idx l7 n8).bind fun ig=>
  (idx (l7.set n8.toNat mG) (aJ (n8 - (1:Int)))).bind fun uo=>
  some (.inl ((l7.set n8.toNat mG).set (aJ (n8 - (1:Int))).toNat kJ,aJ (n8 - (1:Int))))
 else
  Option.map .inr (some (.inl (l7,aJ (n4+(1:Int)))))
def cK (ai:Int) (nU:MarkS→MarkS→Option Int) (n4:Int) (l7:List MarkS) (n8:Int):Option (((List MarkS)×Int)⊕(((List MarkS)×Int)⊕(List MarkS))):=
 if ai < n8 then
  (idx l7 n8).bind fun v10=>
  (idx l7 (aJ (n8 - (1:Int)))).bind fun v11=>
  (nU v10 v11).bind fun v12=>
  cJ n4 l7 n8 (decide (v12 < (0:Int)))
 else
  cJ n4 l7 n8 false
def kV (ai:Int) (nU:MarkS→MarkS→Option Int) (n4:Int) (l7:List MarkS) (n8:Int):Option (((List MarkS)×Int)⊕(List MarkS)):=
 iter (fun x:(List MarkS)×Int=>cK ai nU n4 x.1 x.2) (l7,n8)
def bW (ai:Int) (au:Int) (nU:MarkS→MarkS→Option Int) (l3:List MarkS) (n4:Int):Option (((List MarkS)×Int)⊕(List MarkS)):=
 if n4 < au then
  kV ai nU n4 l3 n4
 else
  Option.map .inr (some l3)
def gB (ai:Int) (au:Int) (nU:MarkS→MarkS→Option Int) (l3:List MarkS) (n4:Int):Option (List MarkS):=
 iter (fun x:(List MarkS)×Int=>bW ai au nU x.1 x.2) (l3,n4)
def bH (aa:List MarkS) (ai:Int) (au:Int) (nU:MarkS→MarkS→Option Int):Option (List MarkS):=
 gB ai au nU aa (aJ (ai+(1:Int)))
def du (ai:Int) (au:Int) (aK:Int) (l3:List MarkS) (n4:Int):Option (((List MarkS)×Int)⊕(List MarkS)):=
 if n4 < aK then
  (idx l3 (aJ (au+n4))).bind fun v5=>
  (idx l3 (aJ (ai+n4))).bind fun v6=>
  (idx l3 (aJ (ai+n4))).bind fun v7=>
  (idx (l3.set (aJ (ai+n4)).toNat v5) (aJ (au+n4))).bind fun v8=>
  some (.inl ((l3.set (aJ (ai+n4)).toNat v5).set (aJ (au+n4)).toNat v6,aJ (n4+(1:Int))))
 else
  Option.map .inr (some l3)
def mB (ai:Int) (au:Int) (aK:Int) (l3:List MarkS) (n4:Int):Option (List MarkS):=
 iter (fun x:(List MarkS)×Int=>du ai au aK x.1 x.2) (l3,n4)
def cW (aa:List MarkS) (ai:Int) (au:Int) (aK:Int) (jl:MarkS→MarkS→Option Int):Option (List MarkS):=
 mB ai au aK aa (0:Int)
def eu (l7:List MarkS) (n8:Int) (n9:Int):Option (((List MarkS)×Int×Int)⊕(List MarkS)):=
 some (.inl (l7,n8,n9))
def jC (au:Int) (jl:MarkS→MarkS→Option Int) (l4:List MarkS) (n5:Int):Option (List MarkS):=
 (j7 l4.length (fun r:(List MarkS)=>r.length) (cW l4 (aJ (au - n5)) au n5 jl)).bind fun v12=>
 some v12
def ew (au:Int) (jl:MarkS→MarkS→Option Int) (l4:List MarkS) (n5:Int) (n6:Int):Option (((List MarkS)×Int×Int)⊕(List MarkS)):=
 if n5≠n6 then
  if n6 < n5 then
   (j7 l4.length (fun r:(List MarkS)=>r.length) (cW l4 (aJ (au - n5)) au n6 jl)).bind fun v10=>
   eu v10 (aJ (n5 - n6)) n6
  else
   (j7 l4.length (fun r:(List MarkS)=>r.length) (cW l4 (aJ (au - n5)) (aJ ((aJ (au+n6)) - n5)) n5 jl)).bind fun v11=>
   eu v11 n5 (aJ (n6 - n5))
 else
  Option.map .inr (jC au jl l4 n5)
def nW (au:Int) (jl:MarkS→MarkS→Option Int) (l4:List MarkS) (n5:Int) (n6:Int):Option (List MarkS):=
 iter (fun x:(List MarkS)×Int×Int=>ew au jl x.1 x.2.1 x.2.2) (l4,n5,n6)
def ib (aa:List MarkS) (ai:Int) (au:Int) (aK:Int) (jl:MarkS→MarkS→Option Int):Option (List MarkS):=
 nW au jl aa (aJ (au - ai)) (aJ (aK - au))
def dG (n8:Int) (n9:Int):Option ((Int×Int)⊕(List MarkS)):=
 some (.inl (n8,n9))
def dH (n3:Int) (lR:List MarkS) (n13:Int):Option (((List MarkS)×Int)⊕(List MarkS)):=
 if n13 < (aJ (n3 - (1:Int))) then
  (idx lR (aJ (n13+(1:Int)))).bind fun kJ=>
  (idx lR n13).bind fun ig=>
  (idx lR n13).bind fun uo=>
  (idx (lR.set n13.toNat kJ) (aJ (n13+(1:Int)))).bind fun v17=>
  some (.inl ((lR.set n13.toNat kJ).set (aJ (n13+(1:Int))).toNat ig,aJ (n13+(1:Int))))
 else
  Option.map .inr (some lR)
def mM (n3:Int) (lR:List MarkS) (n13:Int):Option (List MarkS):=
 iter (fun x:(List MarkS)×Int=>dH n3 x.1 x.2) (lR,n13)
def dI (aa:List MarkS) (ai:Int) (jl:MarkS→MarkS→Option Int) (n3:Int) (n4:Int):Option ((Int×Int)⊕(List MarkS)):=
 if n3 < n4 then
  (idx aa (aJ (eR .u64 (IntKind.u64.wrap (aJ (n3+n4))) (1:Int)))).bind fun v5=>
  (idx aa ai).bind fun v6=>
  (jl v5 v6).bind fun v7=>
  if v7 < (0:Int) then
   dG (aJ ((aJ (eR .u64 (IntKind.u64.wrap (aJ (n3+n4))) (1:Int)))+(1:Int))) n4
  else
   dG n3 (aJ (eR .u64 (IntKind.u64.wrap (aJ (n3+n4))) (1:Int)))
 else
  Option.map .inr (mM n3 aa ai)
def mN (aa:List MarkS) (ai:Int) (jl:MarkS→MarkS→Option Int) (n3:Int) (n4:Int):Option (List MarkS):=
 iter (fun x:Int×Int=>dI aa ai jl x.1 x.2) (n3,n4)
def dJ (n25:Int) (n26:Int):Option ((Int×Int)⊕(List MarkS)):=
 some (.inl (n25,n26))
def dK (n20:Int) (vn:List MarkS) (n30:Int):Option (((List MarkS)×Int)⊕(List MarkS)):=
 if n20 < n30 then
  (idx vn (aJ (n30 - (1:Int)))).bind fun v31=>
  (idx vn n30).bind fun v32=>
  (idx vn n30).bind fun v33=>
  (idx (vn.set n30.toNat v31) (aJ (n30 - (1:Int)))).bind fun Ch=>
  some (.inl ((vn.set n30.toNat v31).set (aJ (n30 - (1:Int))).toNat v32,aJ (n30 - (1:Int))))
 else
  Option.map .inr (some vn)
def mP (n20:Int) (vn:List MarkS) (n30:Int):Option (List MarkS):=
 iter (fun x:(List MarkS)×Int=>dK n20 x.1 x.2) (vn,n30)
def dL (aa:List MarkS) (au:Int) (jl:MarkS→MarkS→Option Int) (n20:Int) (n21:Int):Option ((Int×Int)⊕(List MarkS)):=
 if n20 < n21 then
  (idx aa au).bind fun v22=>
  (idx aa (aJ (eR .u64 (IntKind.u64.wrap (aJ (n20+n21))) (1:Int)))).bind fun v23=>
  (jl v22 v23).bind fun v24=>
  if ¬ (v24 < (0:Int)) then
   dJ (aJ ((aJ (eR .u64 (IntKind.u64.wrap (aJ (n20+n21))) (1:Int)))+(1:Int))) n21
  else
   dJ n20 (aJ (eR .u64 (IntKind.u64.wrap (aJ (n20+n21))) (1:Int)))
 else
  Option.map .inr (mP n20 aa au)
def mQ (aa:List MarkS) (au:Int) (jl:MarkS→MarkS→Option Int) (n20:Int) (n21:Int):Option (List MarkS):=
 iter (fun x:Int×Int=>dL aa au jl x.1 x.2) (n20,n21)
def dM (n44:Int) (n45:Int):Option ((Int×Int)⊕(List MarkS)):=
 some (.inl (n44,n45))
def dv (Ge:List MarkS):Option (List MarkS):=
 some Ge
def fA (self:(List MarkS)→Int→Int→Int→(MarkS→MarkS→Option Int)→Option (List MarkS)) (ai:Int) (au:Int) (aK:Int) (jl:MarkS→MarkS→Option Int) (n39:Int) (Er:List MarkS) (N7:Bool):Option (List MarkS):=
 if N7=true then
  (j7 Er.length (fun r:(List MarkS)=>r.length) (self Er (aJ (eR .u64 (IntKind.u64.wrap (aJ (ai+aK))) (1:Int))) (aJ ((aJ ((aJ (eR .u64 (IntKind.u64.wrap (aJ (ai+aK))) (1:Int)))+au)) - n39)) aK jl)).bind fun v54=>
  dv v54
 else
  dv Er
def dN (self:(List MarkS)→Int→Int→Int→(MarkS→MarkS→Option Int)→Option (List MarkS)) (ai:Int) (au:Int) (aK:Int) (jl:MarkS→MarkS→Option Int) (n39:Int) (Er:List MarkS):Option (List MarkS):=
 fA self ai au aK jl n39 Er ((decide ((aJ (eR .u64 (IntKind.u64.wrap (aJ (ai+aK))) (1:Int))) < (aJ ((aJ ((aJ (eR .u64 (IntKind.u64.wrap (aJ (ai+aK))) (1:Int)))+au)) - n39))))&&(decide ((aJ ((aJ ((aJ (eR .u64 (IntKind.u64.wrap (aJ (ai+aK))) (1:Int)))+au)) - n39)) < aK)))
def fB (self:(List MarkS)→Int→Int→Int→(MarkS→MarkS→Option Int)→Option (List MarkS)) (ai:Int) (au:Int) (aK:Int) (jl:MarkS→MarkS→Option Int) (n39:Int) (Es:List MarkS) (c49:Bool):Option (List MarkS):=
 if c49=true then
  (j7 Es.length (fun r:(List MarkS)=>r.length) (self Es ai n39 (aJ (eR .u64 (IntKind.u64.wrap (aJ (ai+aK))) (1:Int))) jl)).bind fun v51=>
  dN self ai au aK jl n39 v51
 else
  dN self ai au aK jl n39 Es
def dO (self:(List MarkS)→Int→Int→Int→(MarkS→MarkS→Option Int)→Option (List MarkS)) (ai:Int) (au:Int) (aK:Int) (jl:MarkS→MarkS→Option Int) (n39:Int) (Es:List MarkS):Option (List MarkS):=
 fB self ai au aK jl n39 Es ((decide (ai < n39))&&(decide (n39 < (aJ (eR .u64 (IntKind.u64.wrap (aJ (ai+aK))) (1:Int))))))
def fC (self:(List MarkS)→Int→Int→Int→(MarkS→MarkS→Option Int)→Option (List MarkS)) (aa:List MarkS) (ai:Int) (au:Int) (aK:Int) (jl:MarkS→MarkS→Option Int) (n39:Int) (c46:Bool):Option (List MarkS):=
 if c46=true then
  (j7 aa.length (fun r:(List MarkS)=>r.length) (ib aa n39 au (aJ ((aJ ((aJ (eR .u64 (IntKind.u64.wrap (aJ (ai+aK))) (1:Int)))+au)) - n39)) jl)).bind fun N8=>
  dO self ai au aK jl n39 N8
 else
  dO self ai au aK jl n39 aa
def dP (self:(List MarkS)→Int→Int→Int→(MarkS→MarkS→Option Int)→Option (List MarkS)) (aa:List MarkS) (ai:Int) (au:Int) (aK:Int) (jl:MarkS→MarkS→Option Int) (n39:Int) (n40:Int):Option ((Int×Int)⊕(List MarkS)):=
 if n39 < n40 then
  (idx aa (aJ ((aJ ((aJ ((aJ (eR .u64 (IntKind.u64.wrap (aJ (ai+aK))) (1:Int)))+au)) - (1:Int))) - (aJ (eR .u64 (IntKind.u64.wrap (aJ (n39+n40))) (1:Int)))))).bind fun v41=>
  (idx aa (aJ (eR .u64 (IntKind.u64.wrap (aJ (n39+n40))) (1:Int)))).bind fun Um=>
  (jl v41 Um).bind fun Eo=>
  if ¬ (Eo < (0:Int)) then
   dM (aJ ((aJ (eR .u64 (IntKind.u64.wrap (aJ (n39+n40))) (1:Int)))+(1:Int))) n40
  else
   dM n39 (aJ (eR .u64 (IntKind.u64.wrap (aJ (n39+n40))) (1:Int)))
 else
  Option.map .inr (fC self aa ai au aK jl n39 ((decide (n39 < au))&&(decide (au < (aJ ((aJ ((aJ (eR .u64 (IntKind.u64.wrap (aJ (ai+aK))) (1:Int)))+au)) - n39))))))
def mR (self:(List MarkS)→Int→Int→Int→(MarkS→MarkS→Option Int)→Option (List MarkS)) (aa:List MarkS) (ai:Int) (au:Int) (aK:Int) (jl:MarkS→MarkS→Option Int) (n39:Int) (n40:Int):Option (List MarkS):=
 iter (fun x:Int×Int=>dP self aa ai au aK jl x.1 x.2) (n39,n40)
def dQ (self:(List MarkS)→Int→Int→Int→(MarkS→MarkS→Option Int)→Option (List MarkS)) (aa:List MarkS) (ai:Int) (au:Int) (aK:Int) (jl:MarkS→MarkS→Option Int) (n35:Int) (n36:Int):Option (List MarkS):=
 mR self aa ai au aK jl n35 n36
def fD (self:(List MarkS)→Int→Int→Int→(MarkS→MarkS→Option Int)→Option (List MarkS)) (aa:List MarkS) (ai:Int) (au:Int) (aK:Int) (jl:MarkS→MarkS→Option Int):Option (List MarkS):=
 if (aJ (au - ai))=(1:Int) then
  mN aa ai jl au aK
 else
  if (aJ (aK - au))=(1:Int) then
   mQ aa au jl ai au
  else
   if (aJ (eR .u64 (IntKind.u64.wrap (aJ (ai+aK))) (1:Int))) < au then
    dQ self aa ai au aK jl (aJ ((aJ ((aJ (eR .u64 (IntKind.u64.wrap (aJ (ai+aK))) (1:Int)))+au)) - aK)) (aJ (eR .u64 (IntKind.u64.wrap (aJ (ai+aK))) (1:Int)))
   else
    dQ self aa ai au aK jl ai au
def fQ:Nat→(List MarkS)→Int→Int→Int→(MarkS→MarkS→Option Int)→Option (List MarkS)
 | 0=>fun _ _ _ _ _=>none
 | k+1=>fD (fQ k)
def gr (aa:List MarkS) (ai:Int) (au:Int) (aK:Int) (jl:MarkS→MarkS→Option Int):Option (List MarkS):=
 fQ depth aa ai au aK jl
def ey (n12:Int) (oL:List MarkS):Option (((List MarkS)×Int)⊕(List MarkS)):=
 some (.inl (oL,aJ (n12 * (2:Int))))
def jD (ai:Int) (uJ:MarkS→MarkS→Option Int) (n12:Int) (qa:List MarkS) (n17:Int):Option (((List MarkS)×Int)⊕(List MarkS)):=
 if (aJ (n17+n12)) < ai then
  (j7 qa.length (fun r:(List MarkS)=>r.length) (gr qa n17 (aJ (n17+n12)) ai uJ)).bind fun v21=>
  ey n12 v21
 else
  ey n12 qa
def ez (ai:Int) (uJ:MarkS→MarkS→Option Int) (n12:Int) (qa:List MarkS) (n17:Int) (n18:Int):Option (((List MarkS)×Int×Int)⊕(((List MarkS)×Int)⊕(List MarkS))):=
 if n18≤ai then
  (j7 qa.length (fun r:(List MarkS)=>r.length) (gr qa n17 (aJ (n17+n12)) n18 uJ)).bind fun nO=>
  some (.inl (nO,n18,aJ (n18+(aJ ((2:Int) * n12)))))
 else
  Option.map .inr (jD ai uJ n12 qa n17)
def nX (ai:Int) (uJ:MarkS→MarkS→Option Int) (n12:Int) (qa:List MarkS) (n17:Int) (n18:Int):Option (((List MarkS)×Int)⊕(List MarkS)):=
 iter (fun x:(List MarkS)×Int×Int=>ez ai uJ n12 x.1 x.2.1 x.2.2) (qa,n17,n18)
def ck (ai:Int) (uJ:MarkS→MarkS→Option Int) (iT:List MarkS) (n12:Int):Option (((List MarkS)×Int)⊕(List MarkS)):=
 if n12 < ai then
  nX ai uJ n12 iT (0:Int) (aJ ((2:Int) * n12))
 else
  Option.map .inr (some iT)
def fZ (ai:Int) (uJ:MarkS→MarkS→Option Int) (iT:List MarkS) (n12:Int):Option (List MarkS):=
 iter (fun x:(List MarkS)×Int=>ck ai uJ x.1 x.2) (iT,n12)
def eA (ai:Int) (uJ:MarkS→MarkS→Option Int) (l4:List MarkS) (n5:Int):Option (List MarkS):=
 (j7 l4.length (fun r:(List MarkS)=>r.length) (bH l4 n5 ai uJ)).bind fun v8=>
 fZ ai uJ v8 (20:Int)
def bS (ai:Int) (uJ:MarkS→MarkS→Option Int) (l4:List MarkS) (n5:Int) (n6:Int):Option (((List MarkS)×Int×Int)⊕(List MarkS)):=
 if n6≤ai then
  (j7 l4.length (fun r:(List MarkS)=>r.length) (bH l4 n5 n6 uJ)).bind fun v7=>
  some (.inl (v7,n6,aJ (n6+(20:Int))))
 else
  Option.map .inr (eA ai uJ l4 n5)
def jE (ai:Int) (uJ:MarkS→MarkS→Option Int) (l4:List MarkS) (n5:Int) (n6:Int):Option (List MarkS):=
 iter (fun x:(List MarkS)×Int×Int=>bS ai uJ x.1 x.2.1 x.2.2) (l4,n5,n6)
def dW (aa:List MarkS) (ai:Int) (uJ:MarkS→MarkS→Option Int):Option (List MarkS):=
 jE ai uJ aa (0:Int) (20:Int)
def cz (aa:List MarkS) (fH:MarkS→MarkS→Option Int):Option (List MarkS):=
 (j7 aa.length (fun r:(List MarkS)=>r.length) (dW aa (aa.length:Int) fH)).bind fun v1=>
 some v1
def jF (aa:MarkS) (ai:MarkS):Bool:=
 decide ((eM aa ai)=(0:Int))
def dw (n12:Int) (qa:List MarkS) (n17:Int):Option (((List MarkS)×Int×Int)⊕(Int⊕(List MarkS))):=
 some (.inl (qa,n17,aJ (n12+(1:Int))))
def iQ (l10:List MarkS) (n11:Int):Option (Int⊕(List MarkS)):=
 (vu l10 n11 (l10.length:Int)).bind fun oL=>
 (vu (BO l10 n11 oL.length (⟨(0:Int),[],(0:Int),(⟨(0:Int),(0:Int),(0:Int)⟩:Version)⟩:MarkS)) (0:Int) n11).bind fun qz=>
 Option.map .inr (some qz)
def dx (fH:MarkS→MarkS→Option Bool) (n2:Int) (l6:List MarkS) (l10:List MarkS) (n11:Int) (n12:Int):Option (((List MarkS)×Int×Int)⊕(Int⊕(List MarkS))):=
 if n12 < (l6.length:Int) then
  (vy l10 n2 l6.length n12).bind fun mG=>
  (vy l10 n2 l6.length (aJ (n12 - (1:Int)))).bind fun kJ=>
  (fH mG kJ).bind fun ig=>
  if (!ig)=true then
   (vy l10 n2 l6.length n12).bind fun eS=>
   (idx l10 n11).bind fun nO=>
   dw n12 (l10.set n11.toNat eS) (aJ (n11+(1:Int)))
  else
   dw n12 l10 n11
 else
  Option.map .inr (iQ l10 n11)
def mC (fH:MarkS→MarkS→Option Bool) (n2:Int) (l6:List MarkS) (l10:List MarkS) (n11:Int) (n12:Int):Option (Int⊕(List MarkS)):=
 iter (fun x:(List MarkS)×Int×Int=>dx fH n2 l6 x.1 x.2.1 x.2.2) (l10,n11,n12)
def dz (aa:List MarkS) (fH:MarkS→MarkS→Option Bool) (n2:Int):Option (Int⊕(List MarkS)):=
 if n2 < (aa.length:Int) then
  (idx aa n2).bind fun v3=>
  (idx aa (aJ (n2 - (1:Int)))).bind fun v4=>
  (fH v3 v4).bind fun v5=>
  if v5=true then
   (vu aa n2 (aa.length:Int)).bind fun l6=>
   mC fH n2 l6 aa n2 (1:Int)
  else
   some (.inl (aJ (n2+(1:Int))))
 else
  Option.map .inr (some aa)
def mD (aa:List MarkS) (fH:MarkS→MarkS→Option Bool) (n2:Int):Option (List MarkS):=
 iter (fun x:Int=>dz aa fH x) n2
def eB (aa:List MarkS) (fH:MarkS→MarkS→Option Bool):Option (List MarkS):=
 if (aa.length:Int) < (2:Int) then
  some aa
 else
  mD aa fH (1:Int)
def jG (n50:Int) (N9:Int) (Oa:bq) (Oc:Int) (Od:Int) (n57:Int) (Gf:Int):Option ((Int×bq×Int×Int×Int×Int×Int)⊕(((List Int)×Int×(List MarkS)×Int×Int)⊕((List MarkS)×ah))):=
 some (.inl (N9,Oa,Oc,Od,n57,Gf,aJ (n50+(1:Int))))
def ij (iT:List MarkS) (n12:Int) (n13:Int) (ig:Int×ah) (n33:Int) (n34:Int) (n35:Int) (Oe:List Int) (Of:Int) (MX:Int) (MY:bq) (MZ:Int):Option (((List Int)×Int×(List MarkS)×Int×Int)⊕((List MarkS)×ah)):=
 (app iT [(⟨MX,MY,MZ,(⟨n33,n34,n35⟩:Version)⟩:MarkS)]).bind fun Un=>
 some (.inl (Oe,Of,Un,aJ (n12+ig.1),aJ (n13+(1:Int))))
def ik (iT:List MarkS) (n12:Int) (n13:Int) (ig:Int×ah) (o7:bq) (Gg:List Int) (n31:Int) (n32:Int) (n33:Int) (n34:Int) (n35:Int):Option (((List Int)×Int×(List MarkS)×Int×Int)⊕((List MarkS)×ah)):=
 (dB (⟨Gg,n31⟩:ah) (80:Int)).bind fun DB=>
 if DB.1=true then
  (dC DB.2 (0:Int) (50:Int)).bind fun v79=>
  (fh v79.2 [([100,49]:bq),([]:bq)]).bind fun v80=>
  (dC v80.2 (1:Int) (5:Int)).bind fun LY=>
  ij iT n12 n13 ig n33 n34 n35 LY.2.L LY.2.at_ v79.1 v80.1 LY.1
 else
  ij iT n12 n13 ig n33 n34 n35 DB.2.L DB.2.at_ (aJ (n12+ig.1)) o7 n32
def jH (iT:List MarkS) (n12:Int) (n13:Int) (ig:Int×ah) (o7:bq) (yU:List Int) (n60:Int) (n61:Int) (n62:Int) (M0:Int) (M1:Int):Option (((List Int)×Int×(List MarkS)×Int×Int)⊕((List MarkS)×ah)):=
 ik iT n12 n13 ig o7 yU n60 n61 n62 M0 M1
def jI (iT:List MarkS) (n12:Int) (n13:Int) (ig:Int×ah) (o7:bq) (FB:List Int) (vE:Int) (n68:Int) (n69:Int) (FC:Int) (M3:Int):Option (((List Int)×Int×(List MarkS)×Int×Int)⊕((List MarkS)×ah)):=
 jH iT n12 n13 ig o7 FB vE n68 n69 FC M3
def nY (iT:List MarkS) (n12:Int) (n13:Int) (ig:Int×ah) (eS:Int×ah) (o7:bq) (pH:Bool×ah) (n46:Int) (n47:Int) (n48:Int) (n49:Int):Option (((List Int)×Int×(List MarkS)×Int×Int)⊕((List MarkS)×ah)):=
 if n46=(1:Int) then
  (bP pH.2 [(2:Int),(2:Int),(2:Int),(5:Int)]).bind fun Ci=>
  jH iT n12 n13 ig o7 Ci.2.L Ci.2.at_ Ci.1 n47 n48 n49
 else
  if n46=(2:Int) then
   (bP pH.2 [(3:Int),(3:Int),(4:Int)]).bind fun v72=>
   jI iT n12 n13 ig o7 v72.2.L v72.2.at_ v72.1 n47 n48 n49
  else
   jI iT n12 n13 ig o7 pH.2.L pH.2.at_ (1:Int) ((whole eS.1).aN) ((whole eS.1).aO) ((whole eS.1).aM)
def jJ (iT:List MarkS) (n12:Int) (n13:Int) (ig:Int×ah) (eS:Int×ah) (o7:bq) (pH:Bool×ah) (n44:Int) (KR:bq) (n46:Int) (n47:Int) (n48:Int) (n49:Int) (n50:Int):Option ((Int×bq×Int×Int×Int×Int×Int)⊕(((List Int)×Int×(List MarkS)×Int×Int)⊕((List MarkS)×ah))):=
 if n50 < (iT.length:Int) then
  (idx iT n50).bind fun v51=>
  if v51.Device=o7 then
   jG n50 v51.At v51.Device v51.Kind v51.Version.aN v51.Version.aO v51.Version.aM
  else
   jG n50 n44 KR n46 n47 n48 n49
 else
  Option.map .inr (nY iT n12 n13 ig eS o7 pH n46 n47 n48 n49)
def qY (iT:List MarkS) (n12:Int) (n13:Int) (ig:Int×ah) (eS:Int×ah) (o7:bq) (pH:Bool×ah) (n44:Int) (KR:bq) (n46:Int) (n47:Int) (n48:Int) (n49:Int) (n50:Int):Option (((List Int)×Int×(List MarkS)×Int×Int)⊕((List MarkS)×ah)):=
 iter (fun x:Int×bq×Int×Int×Int×Int×Int=>jJ iT n12 n13 ig eS o7 pH x.1 x.2.1 x.2.2.1 x.2.2.2.1 x.2.2.2.2.1 x.2.2.2.2.2.1 x.2.2.2.2.2.2) (n44,KR,n46,n47,n48,n49,n50)
def il (iT:List MarkS) (n12:Int) (n13:Int) (ig:Int×ah) (v17:Int×ah) (eS:Int×ah) (vm:List Int) (n25:Int) (o7:bq):Option (((List Int)×Int×(List MarkS)×Int×Int)⊕((List MarkS)×ah)):=
 (dB (⟨vm,n25⟩:ah) (5:Int)).bind fun pH=>
 if (!pH.1)=true then
  qY iT n12 n13 ig eS o7 pH (0:Int) [] (0:Int) (0:Int) (0:Int) (0:Int) (0:Int)
 else
  ik iT n12 n13 ig o7 pH.2.L pH.2.at_ v17.1 ((whole eS.1).aN) ((whole eS.1).aO) ((whole eS.1).aM)
def jK (au:List DeviceS) (iT:List MarkS) (n12:Int) (n13:Int) (ig:Int×ah) (uo:bq×ah) (v17:Int×ah) (eS:Int×ah) (oL:List Int) (n21:Int) (Og:Bool):Option (((List Int)×Int×(List MarkS)×Int×Int)⊕((List MarkS)×ah)):=
 if Og=true then
  (eI (⟨oL,n21⟩:ah) (au.length:Int)).bind fun kS=>
  (idx au kS.1).bind fun v28=>
  il iT n12 n13 ig v17 eS kS.2.L kS.2.at_ v28.Key
 else
  il iT n12 n13 ig v17 eS oL n21 uo.1
def nZ (l8:List Int) (n9:Int) (iT:List MarkS):Option ((List MarkS)×ah):=
 (j7 iT.length (fun r:(List MarkS)=>r.length) (cz iT (fun y0 y1=>some (eM y0 y1)))).bind fun Oh=>
 (dB (⟨l8,n9⟩:ah) (60:Int)).bind fun v85=>
 if v85.1=true then
  some (Oh,v85.2)
 else
  (eB Oh (fun y0 y1=>some (jF y0 y1))).bind fun Uo=>
  some (Uo,v85.2)
def jL (au:List DeviceS) (aK:Int) (l8:List Int) (n9:Int) (iT:List MarkS) (n12:Int) (n13:Int):Option (((List Int)×Int×(List MarkS)×Int×Int)⊕((List MarkS)×ah)):=
 if n13 < aK then
  (bP (⟨l8,n9⟩:ah) [(0:Int),(1:Int),(5:Int),(10:Int),(10:Int)]).bind fun ig=>
  (fh ig.2 [([100,49]:bq),([100,50]:bq),([100,51]:bq),([100,52]:bq),([100,53]:bq)]).bind fun uo=>
  (gq uo.2 (1:Int) (5:Int)).bind fun v17=>
  (bP v17.2 [(2:Int),(2:Int),(3:Int),(4:Int)]).bind fun eS=>
  if (0:Int) < (au.length:Int) then
   (dB eS.2 (12:Int)).bind fun v23=>
   jK au iT n12 n13 ig uo v17 eS v23.2.L v23.2.at_ (!v23.1)
  else
   jK au iT n12 n13 ig uo v17 eS eS.2.L eS.2.at_ false
 else
  Option.map .inr (nZ l8 n9 iT)
def qZ (au:List DeviceS) (aK:Int) (l8:List Int) (n9:Int) (iT:List MarkS) (n12:Int) (n13:Int):Option ((List MarkS)×ah):=
 iter (fun x:(List Int)×Int×(List MarkS)×Int×Int=>jL au aK x.1 x.2.1 x.2.2.1 x.2.2.2.1 x.2.2.2.2) (l8,n9,iT,n12,n13)
def lY (aa:ah) (ai:Campaign) (au:List DeviceS) (aK:Int):Option ((List MarkS)×ah):=
 qZ au aK aa.L aa.at_ [] ai.At (0:Int)
def pj (n5:Int) (c7:Bool):Option (Int⊕Bool):=
 if c7=true then
  Option.map .inr (some false)
 else
  some (.inl (aJ (n5+(1:Int))))
def ku (aa:bq) (n5:Int):Option (Int⊕Bool):=
 if n5 < (aa.length:Int) then
  (idx aa n5).bind fun c6=>
  pj n5 (if (97:Int)≤(c6.toNat:Int) then if (c6.toNat:Int)≤(122:Int) then !true else if (48:Int)≤(c6.toNat:Int) then if (c6.toNat:Int)≤(57:Int) then !true else if (c6.toNat:Int)=(45:Int) then !true else decide (¬ ((c6.toNat:Int)=(95:Int))) else if (c6.toNat:Int)=(45:Int) then !true else decide (¬ ((c6.toNat:Int)=(95:Int))) else if (48:Int)≤(c6.toNat:Int) then if (c6.toNat:Int)≤(57:Int) then !true else if (c6.toNat:Int)=(45:Int) then !true else decide (¬ ((c6.toNat:Int)=(95:Int))) else if (c6.toNat:Int)=(45:Int) then !true else decide (¬ ((c6.toNat:Int)=(95:Int))))
 else
  Option.map .inr (some true)
def sk (aa:bq) (n5:Int):Option Bool:=
 iter (fun x:Int=>ku aa x) n5
def kA (aa:bq) (c1:Bool):Option Bool:=
 if c1=true then
  some false
 else
  sk aa (0:Int)
def lZ (aa:bq):Option Bool:=
 if aa=([]:bq) then
  kA aa true
 else
  if (40:Int) < (aa.length:Int) then
   kA aa true
  else
   (idx aa (0:Int)).bind fun c2=>
   if (c2.toNat:Int) < (97:Int) then
    kA aa true
   else
    (idx aa (0:Int)).bind fun c3=>
    kA aa (decide ((122:Int) < (c3.toNat:Int)))
def sn (c1:Bool):Bool:=
 c1
def eV (aa:Int) (ai:Int) (au:Int):Bool:=
 sn ((decide (aa < ai))||(decide (au < aa)))
def lr (c2:Bool):Bool:=
 c2
def gu (aa:Version):Bool:=
 lr ((!(eV aa.aN (0:Int) (9999:Int)))&&((!(eV aa.aO (0:Int) (9999:Int)))&&(!(eV aa.aM (0:Int) (9999:Int)))))
def iz (aa:Int):Bool:=
 !(eV aa (0:Int) (345686399999:Int))
def dX (n6:Int) (n7:Int) (v8:iI) (HC:Bool):Option ((Int×Int)⊕Int):=
 if HC=true then
  Option.map .inr (some (1:Int))
 else
  some (.inl (aJ (n6+v8.Part),aJ (n7+(1:Int))))
def dY (DC:Bool):Option Int:=
 if DC=true then
  some (1:Int)
 else
  some (0:Int)
def fk (aa:Campaign) (n6:Int):Option Int:=
 if n6≠(1000:Int) then
  some (15:Int)
 else
  dY ((eV aa.bh.eU (0:Int) (86400000:Int))||((eV aa.bh.To (0:Int) (86400000:Int))||(eV aa.Room (1:Int) (500:Int))))
def cP (aa:Campaign) (n6:Int) (n7:Int):Option ((Int×Int)⊕Int):=
 if n7 < (aa.aB.length:Int) then
  (idx aa.aB n7).bind fun v8=>
  dX n6 n7 v8 ((eV v8.Part (1:Int) (1000:Int))||((eV v8.oW (0:Int) (2592000000:Int))||((eV v8.tv (1:Int) (500:Int))||(eV v8.cO (0:Int) (1000:Int)))))
 else
  Option.map .inr (fk aa n6)
def fm (aa:Campaign) (n6:Int) (n7:Int):Option Int:=
 iter (fun x:Int×Int=>cP aa x.1 x.2) (n6,n7)
def dZ (aa:Campaign) (c3:Bool):Option Int:=
 if c3=true then
  some (1:Int)
 else
  if (aa.aB.length:Int)=(0:Int) then
   some (3:Int)
  else
   if (20:Int) < (aa.aB.length:Int) then
    some (2:Int)
   else
    fm aa (0:Int) (0:Int)
def bV (aa:Campaign):Option Int:=
 (lZ aa.Key).bind fun v2=>
 if (!v2)=true then
  some (5:Int)
 else
  dZ aa ((!(gu aa.Target))||(!(iz aa.At)))
def cm (n2:Int) (v3:DeviceS) (c9:Bool):Option (Int⊕Int):=
 if c9=true then
  Option.map .inr (some (7:Int))
 else
  if (!(gu v3.bn))=true then
   Option.map .inr (some (1:Int))
  else
   if (20:Int) < (v3.j0.length:Int) then
    Option.map .inr (some (2:Int))
   else
    some (.inl (aJ (n2+(1:Int))))
def cS (aa:List DeviceS) (n2:Int) (v3:DeviceS) (c5:Bool):Option (Int⊕Int):=
 if c5=true then
  Option.map .inr (some (5:Int))
 else
  if (0:Int) < n2 then
   (idx aa (aJ (n2 - (1:Int)))).bind fun v10=>
   cm n2 v3 (Op.bytesLess v3.Key v10.Key||v3.Key==v10.Key)
  else
   cm n2 v3 false
def cq (aa:List DeviceS) (n2:Int):Option (Int⊕Int):=
 if n2 < (aa.length:Int) then
  (idx aa n2).bind fun v3=>
  (lZ v3.Key).bind fun v6=>
  if (!v6)=true then
   cS aa n2 v3 true
  else
   (lZ v3.Model).bind fun v7=>
   if (!v7)=true then
    cS aa n2 v3 true
   else
    (lZ v3.de).bind fun v8=>
    cS aa n2 v3 (!v8)
 else
  Option.map .inr (some (0:Int))
def l0 (aa:List DeviceS) (n2:Int):Option Int:=
 iter (fun x:Int=>cq aa x) n2
def gl (aa:List DeviceS):Option Int:=
 if (500:Int) < (aa.length:Int) then
  some (2:Int)
 else
  l0 aa (0:Int)
def cmp_isNaN_int (aa:Int):Bool:=
 decide (aa≠aa)
def cmp_Compare_int (aa:Int) (ai:Int):Int:=
 if (cmp_isNaN_int aa)=true then
  if (cmp_isNaN_int ai)=true then
   (0:Int)
  else
   (-1:Int)
 else
  if (cmp_isNaN_int ai)=true then
   (1:Int)
  else
   if aa < ai then
    (-1:Int)
   else
    if ai < aa then
     (1:Int)
    else
     (0:Int)
def nh (aa:List Int) (n2:Int):Option (Int⊕Int):=
 if n2 < (aa.length:Int) then
  (idx aa n2).bind fun v3=>
  if v3≠(0:Int) then
   Option.map .inr (some v3)
  else
   some (.inl (aJ (n2+(1:Int))))
 else
  Option.map .inr (some (0:Int))
def yV (aa:List Int) (n2:Int):Option Int:=
 iter (fun x:Int=>nh aa x) n2
def qK (aa:List Int):Option Int:=
 yV aa (0:Int)
def iA (aa:MarkS) (ai:MarkS):Option Int:=
 (qK [(cmp_Compare_int aa.At ai.At),(Lib.compareBytes aa.Device ai.Device)]).bind fun v3=>
 some v3
def eW (n2:Int) (c6:Bool):Option (Int⊕Int):=
 if c6=true then
  Option.map .inr (some (7:Int))
 else
  some (.inl (aJ (n2+(1:Int))))
def cr (aa:List MarkS) (n2:Int):Option (Int⊕Int):=
 if n2 < (aa.length:Int) then
  (idx aa n2).bind fun v3=>
  if (!(iz v3.At))=true then
   Option.map .inr (some (1:Int))
  else
   (lZ v3.Device).bind fun v5=>
   if (!v5)=true then
    Option.map .inr (some (5:Int))
   else
    if (eV v3.Kind (1:Int) (5:Int))=true then
     Option.map .inr (some (4:Int))
    else
     if (!(gu v3.Version))=true then
      Option.map .inr (some (1:Int))
     else
      if (0:Int) < n2 then
       (idx aa (aJ (n2 - (1:Int)))).bind fun v7=>
       (iA v3 v7).bind fun v8=>
       eW n2 (decide (v8≤(0:Int)))
      else
       eW n2 false
 else
  Option.map .inr (some (0:Int))
def ma (aa:List MarkS) (n2:Int):Option Int:=
 iter (fun x:Int=>cr aa x) n2
def gm (aa:List MarkS):Option Int:=
 if (3000:Int) < (aa.length:Int) then
  some (2:Int)
 else
  ma aa (0:Int)
def ni (aa:List Int) (n2:Int):Option (Int⊕Int):=
 if n2 < (aa.length:Int) then
  (idx aa n2).bind fun v3=>
  if v3≠(0:Int) then
   Option.map .inr (some v3)
  else
   some (.inl (aJ (n2+(1:Int))))
 else
  Option.map .inr (some (0:Int))
def yW (aa:List Int) (n2:Int):Option Int:=
 iter (fun x:Int=>ni aa x) n2
def qL (aa:List Int):Option Int:=
 yW aa (0:Int)
def iB (n6:Int):Option Int:=
 some n6
def kc (v4:Int) (c5:Bool):Option Int:=
 if c5=true then
  iB (1:Int)
 else
  iB v4
def jb (aa:Campaign) (ai:List DeviceS) (au:List MarkS) (aK:Int):Option Int:=
 (bV aa).bind fun v1=>
 (gl ai).bind fun v2=>
 (gm au).bind fun v3=>
 (qL [v1,v2,v3]).bind fun v4=>
 kc v4 ((decide (v4=(0:Int)))&&(!(iz aK)))
def kM (n4:Int) (v5:bq) (n9:Int) (n10:Int):Option ((Int×Int)⊕((Int×Int)⊕Int)):=
 if n10 < (v5.length:Int) then
  (idx v5 n10).bind fun DC=>
  some (.inl (IntKind.u64.wrap ((tQ .u64 n9 (IntKind.u64.wrap ((DC.toNat:Int)))) * (1099511628211:Int)),aJ (n10+(1:Int))))
 else
  Option.map .inr (some (.inl (n9,aJ (n4+(1:Int)))))
def oy (n4:Int) (v5:bq) (n9:Int) (n10:Int):Option ((Int×Int)⊕Int):=
 iter (fun x:Int×Int=>kM n4 v5 x.1 x.2) (n9,n10)
def kN (n4:Int) (v5:bq) (n6:Int):Option ((Int×Int)⊕Int):=
 oy n4 v5 n6 (0:Int)
def jq (aa:List bq) (n3:Int) (n4:Int):Option ((Int×Int)⊕Int):=
 if n4 < (aa.length:Int) then
  (idx aa n4).bind fun v5=>
  if (0:Int) < n4 then
   kN n4 v5 (IntKind.u64.wrap (n3 * (1099511628211:Int)))
  else
   kN n4 v5 n3
 else
  Option.map .inr (some n3)
def uK (aa:List bq) (n3:Int) (n4:Int):Option Int:=
 iter (fun x:Int×Int=>jq aa x.1 x.2) (n3,n4)
def qd (aa:List bq):Option Int:=
 uK aa (14695981039346656037:Int) (0:Int)
def mb (aa:Campaign) (ai:bq):Option Int:=
 (qd [aa.Key,ai]).bind fun v1=>
 some (aJ ((tQ .u64 v1 (eR .u64 v1 (32:Int))).tmod (1000:Int)))
def fE (aa:Campaign) (v1:Int) (n4:Int) (n5:Int):Option ((Int×Int)⊕Int):=
 if n5 < (aa.aB.length:Int) then
  (idx aa.aB n5).bind fun v6=>
  if v1 < (aJ (n4+v6.Part)) then
   Option.map .inr (some n5)
  else
   some (.inl (aJ (n4+v6.Part),aJ (n5+(1:Int))))
 else
  Option.map .inr (some (aJ ((aa.aB.length:Int) - (1:Int))))
def gU (aa:Campaign) (v1:Int) (n4:Int) (n5:Int):Option Int:=
 iter (fun x:Int×Int=>fE aa v1 x.1 x.2) (n4,n5)
def eC (aa:Campaign) (ai:bq):Option Int:=
 (mb aa ai).bind fun v1=>
 gU aa v1 (0:Int) (0:Int)
def bI (aa:an) (ai:al):Bool:=
 decide (ai.ak.Version=aa.c_.Target)
def fR (oL:List al) (pk:List (bq×Int)) (vm:List (bq×Int)) (n26:Int) (kS:DeviceS) (v33:Int) (IK:List Int):Option (((List al)×(List (bq×Int))×(List (bq×Int))×(List Int)×Int)⊕an):=
 some (.inl (oL++[(⟨(⟨(0:Int),(0:Int),kS.bn,(0:Int)⟩:ak),(⟨(0:Int),(0:Int),(0:Int)⟩:Version)⟩:al)],bT pk kS.Key (oL.length:Int),bT vm kS.Key v33,IK,aJ (n26+(1:Int))))
def eN (aa:Campaign) (ai:List DeviceS) (l8:List Int) (l10:List Int) (oL:List al) (pk:List (bq×Int)) (vm:List (bq×Int)) (pn:List Int) (n26:Int):Option (((List al)×(List (bq×Int))×(List (bq×Int))×(List Int)×Int)⊕an):=
 if n26 < (ai.length:Int) then
  (idx ai n26).bind fun kS=>
  (LO oL.length (pk.map Prod.snd)).bind fun Xy=>
  (eC aa kS.Key).bind fun v33=>
  (nD vm kS.Key (0:Int)).bind fun Ch=>
  if (!(bI (⟨aa,bT pk kS.Key (oL.length:Int),bT vm kS.Key v33,pn,l8,l10,[],(-1:Int),aa.At,oL++[(⟨(⟨(0:Int),(0:Int),kS.bn,(0:Int)⟩:ak),(⟨(0:Int),(0:Int),(0:Int)⟩:Version)⟩:al)]⟩:an) (⟨(⟨(0:Int),(0:Int),kS.bn,(0:Int)⟩:ak),(⟨(0:Int),(0:Int),(0:Int)⟩:Version)⟩:al)))=true then
   (nD (bT vm kS.Key v33) kS.Key (0:Int)).bind fun HD=>
   (idx pn HD).bind fun v37=>
   (idx pn HD).bind fun Xz=>
   fR oL pk vm n26 kS v33 (pn.set HD.toNat (aJ (v37+(1:Int))))
  else
   fR oL pk vm n26 kS v33 pn
 else
  Option.map .inr (some (⟨aa,pk,vm,pn,l8,l10,[],(-1:Int),aa.At,oL⟩:an))
def iC (aa:Campaign) (ai:List DeviceS) (l8:List Int) (l10:List Int) (oL:List al) (pk:List (bq×Int)) (vm:List (bq×Int)) (pn:List Int) (n26:Int):Option an:=
 iter (fun x:(List al)×(List (bq×Int))×(List (bq×Int))×(List Int)×Int=>eN aa ai l8 l10 x.1 x.2.1 x.2.2.1 x.2.2.2.1 x.2.2.2.2) (oL,pk,vm,pn,n26)
def dh (aa:Campaign) (ai:List DeviceS):Option an:=
 (Lw (0:Int) (aa.aB.length:Int) (aa.aB.length:Int)).bind fun l6=>
 (Lw (0:Int) (aa.aB.length:Int) (aa.aB.length:Int)).bind fun l8=>
 (Lw (0:Int) (aa.aB.length:Int) (aa.aB.length:Int)).bind fun l10=>
 iC aa ai l8 l10 [] [] [] l6 (0:Int)
def dp (lH:List Int) (n17:Int):Option (((List Int)×Int)⊕an):=
 some (.inl (lH,n17))
def dq (aa:an) (l5:List Int) (n10:Int) (lH:List Int) (Oi:Bool):Option (((List Int)×Int)⊕an):=
 if Oi=true then
  (idx aa.c_.aB (aJ ((l5.length:Int)+(1:Int)))).bind fun eS=>
  dp lH (aJ (n10+eS.oW))
 else
  dp lH (-1:Int)
def fW (aa:an) (l5:List Int) (n10:Int) (c12:Bool):Option (((List Int)×Int)⊕an):=
 if c12=true then
  Option.map .inr (some (⟨aa.c_,aa.oK,aa.dF,aa.open_,aa.bl,aa.aR,l5,aa.aT,n10,aa.kO⟩:an))
 else
  (app l5 [n10]).bind fun lH=>
  if (aJ ((l5.length:Int)+(1:Int))) < (aa.c_.aB.length:Int) then
   (idx aa.open_ (l5.length:Int)).bind fun uo=>
   dq aa l5 n10 lH (decide (uo=(0:Int)))
  else
   dq aa l5 n10 lH false
def bJ (aa:an) (ai:Int) (l5:List Int) (n10:Int):Option (((List Int)×Int)⊕an):=
 fW aa l5 n10 ((decide (n10 < (0:Int)))||((decide (ai < n10))||((decide ((0:Int) < (l5.length:Int)))&&((decide ((0:Int)≤aa.aT))&&(decide (aa.aT≤n10))))))
def bK (aa:an) (ai:Int) (l5:List Int) (n6:Int) (c7:Bool):Option (((List Int)×Int)⊕an):=
 if c7=true then
  (idx aa.c_.aB (l5.length:Int)).bind fun v11=>
  bJ aa ai l5 (aJ (ai+v11.oW))
 else
  bJ aa ai l5 n6
def bE (aa:an) (ai:Int) (l5:List Int) (n6:Int):Option (((List Int)×Int)⊕an):=
 if n6 < (0:Int) then
  if (0:Int) < (l5.length:Int) then
   if (l5.length:Int) < (aa.c_.aB.length:Int) then
    (idx aa.open_ (aJ ((l5.length:Int) - (1:Int)))).bind fun v8=>
    if v8=(0:Int) then
     (idx l5 (aJ ((l5.length:Int) - (1:Int)))).bind fun v9=>
     bK aa ai l5 n6 (decide (v9≤ai))
    else
     bK aa ai l5 n6 false
   else
    bK aa ai l5 n6 false
  else
   bK aa ai l5 n6 false
 else
  bK aa ai l5 n6 false
def lI (aa:an) (ai:Int) (l5:List Int) (n6:Int):Option an:=
 iter (fun x:(List Int)×Int=>bE aa ai x.1 x.2) (l5,n6)
def bX (aa:an) (ai:Int):Option an:=
 lI aa ai aa.aL aa.cw
def hZ (c1:Bool):Bool:=
 c1
def cT (aa:an) (ai:al):Bool:=
 hZ ((!(bI aa ai))&&((decide ((3:Int)≤ai.ak.cO))||(decide (ai.ak.Kind=(5:Int)))))
def ec (ai:MarkS) (n8:Int) (n9:Int) (n10:Int) (n11:Int):Bool×al:=
 (true,(⟨(⟨ai.Kind,ai.At,(⟨n8,n9,n10⟩:Version),n11⟩:ak),ai.Version⟩:al))
def ed (aa:al) (ai:MarkS) (n12:Int):Bool×al:=
 ec ai aa.ak.Version.aN aa.ak.Version.aO aa.ak.Version.aM n12
def cQ (aa:al) (ai:MarkS) (c2:Bool):Bool×al:=
 if (!c2)=true then
  (false,aa)
 else
  if ai.Kind=(3:Int) then
   ec ai ai.Version.aN ai.Version.aO ai.Version.aM aa.ak.cO
  else
   if ai.Kind=(4:Int) then
    ed aa ai (aJ (aa.ak.cO+(1:Int)))
   else
    ed aa ai aa.ak.cO
def fo (aa:al) (ai:MarkS) (c3:Bool):Bool×al:=
 cQ aa ai c3
def ee (aa:al) (ai:MarkS) (c5:Bool):Bool×al:=
 cQ aa ai c5
def fp (aa:al) (ai:MarkS) (c6:Bool):Bool×al:=
 ee aa ai c6
def fq (aa:al) (ai:MarkS) (c7:Bool):Bool×al:=
 ee aa ai c7
def ef (aa:al) (ai:MarkS) (c4:Bool):Bool×al:=
 if c4=true then
  fp aa ai ((decide (aa.ak.Kind=(1:Int)))&&(decide (ai.Version=aa.aI)))
 else
  fq aa ai ((decide (aa.ak.Kind=(2:Int)))&&(decide (ai.Version=aa.aI)))
def az (aa:al) (ai:MarkS):Bool×al:=
 if ai.Kind=(1:Int) then
  fo aa ai ((decide (aa.ak.Kind=(0:Int)))||((decide (aa.ak.Kind=(3:Int)))||(decide (aa.ak.Kind=(4:Int)))))
 else
  if ai.Kind=(2:Int) then
   ef aa ai (decide (ai.Kind=(2:Int)))
  else
   ef aa ai (decide (ai.Kind=(5:Int)))
def gw (aa:an) (ai:MarkS) (c3:Bool):Option an:=
 if c3=true then
  some aa
 else
  (nD aa.dF ai.Device (0:Int)).bind fun v4=>
  none
def eO (aa:an) (ai:MarkS) (n2:Int) (v6:Int) (v9:al) (lR:List Int) (nO:Int) (qz:List Int) (n30:Int):Option an:=
 some (⟨aa.c_,aa.oK,aa.dF,lR,aa.bl.set v6.toNat (aJ (nO+(1:Int))),qz,aa.aL,n30,aa.cw,aa.kO.set n2.toNat ((az v9 ai).2)⟩:an)
def cU (aa:an) (ai:MarkS) (n2:Int) (v6:Int) (v9:al) (lR:List Int) (nO:Int) (qz:List Int) (Oj:Bool):Option an:=
 if Oj=true then
  eO aa ai n2 v6 v9 lR nO qz ai.At
 else
  eO aa ai n2 v6 v9 lR nO qz aa.aT
def dR (aa:an) (ai:MarkS) (n2:Int) (v6:Int) (v9:al) (lR:List Int) (nO:Int) (qz:List Int):Option an:=
 (idx aa.c_.aB v6).bind fun v24=>
 if aa.aT < (0:Int) then
  (idx (aa.bl.set v6.toNat (aJ (nO+(1:Int)))) v6).bind fun kS=>
  if v24.tv≤kS then
   (idx qz v6).bind fun v28=>
   (idx (aa.bl.set v6.toNat (aJ (nO+(1:Int)))) v6).bind fun pH=>
   cU aa ai n2 v6 v9 lR nO qz (decide ((aJ (v24.cO * pH)) < (aJ ((1000:Int) * v28))))
  else
   cU aa ai n2 v6 v9 lR nO qz false
 else
  cU aa ai n2 v6 v9 lR nO qz false
def gx (aa:an) (ai:MarkS) (n2:Int) (v6:Int) (v9:al) (lR:List Int) (Ol:Bool):Option an:=
 if Ol=true then
  some (⟨aa.c_,aa.oK,aa.dF,lR,aa.bl,aa.aR,aa.aL,aa.aT,aa.cw,aa.kO.set n2.toNat ((az v9 ai).2)⟩:an)
 else
  (idx aa.bl v6).bind fun nO=>
  (idx aa.bl v6).bind fun v20=>
  if ai.Kind=(4:Int) then
   (idx aa.aR v6).bind fun v22=>
   (idx aa.aR v6).bind fun v23=>
   dR aa ai n2 v6 v9 lR nO (aa.aR.set v6.toNat (aJ (v22+(1:Int))))
  else
   dR aa ai n2 v6 v9 lR nO aa.aR
def dS (aa:an) (ai:MarkS) (n2:Int) (v6:Int) (v9:al) (lR:List Int):Option an:=
 gx aa ai n2 v6 v9 lR ((decide (ai.Kind≠(3:Int)))&&(decide (ai.Kind≠(4:Int))))
def eZ (aa:an) (ai:MarkS) (n2:Int) (v6:Int) (v9:al) (lH:List Int):Option an:=
 dS aa ai n2 v6 v9 lH
def gy (aa:an) (ai:MarkS) (n2:Int) (v6:Int) (c7:Bool) (v9:al) (DC:Bool):Option an:=
 if (DC !=c7)=true then
  if DC=true then
   (idx aa.open_ v6).bind fun kJ=>
   (idx aa.open_ v6).bind fun ig=>
   eZ aa ai n2 v6 v9 (aa.open_.set v6.toNat (aJ (kJ - (1:Int))))
  else
   (idx aa.open_ v6).bind fun uo=>
   (idx aa.open_ v6).bind fun v17=>
   eZ aa ai n2 v6 v9 (aa.open_.set v6.toNat (aJ (uo+(1:Int))))
 else
  dS aa ai n2 v6 v9 aa.open_
def gz (aa:an) (ai:MarkS) (n2:Int) (v6:Int) (c7:Bool):Option an:=
 (idx aa.kO n2).bind fun v9=>
 if (!((az v9 ai).1))=true then
  some (⟨aa.c_,aa.oK,aa.dF,aa.open_,aa.bl,aa.aR,aa.aL,aa.aT,aa.cw,aa.kO.set n2.toNat ((az v9 ai).2)⟩:an)
 else
  gy aa ai n2 v6 c7 v9 ((bI (⟨aa.c_,aa.oK,aa.dF,aa.open_,aa.bl,aa.aR,aa.aL,aa.aT,aa.cw,aa.kO.set n2.toNat ((az v9 ai).2)⟩:an) ((az v9 ai).2))||(cT (⟨aa.c_,aa.oK,aa.dF,aa.open_,aa.bl,aa.aR,aa.aL,aa.aT,aa.cw,aa.kO.set n2.toNat ((az v9 ai).2)⟩:an) ((az v9 ai).2)))
def fb (aa:an) (ai:MarkS) (n2:Int) (c5:Bool):Option an:=
 if c5=true then
  some aa
 else
  (nD aa.dF ai.Device (0:Int)).bind fun v6=>
  (idx aa.kO n2).bind fun v8=>
  gz aa ai n2 v6 ((bI aa v8)||(cT aa v8))
def bN (aa:an) (ai:MarkS):Option an:=
 As (ch aa.oK ai.Device) (
  gw aa ai ((!false)||(decide (ai.At < aa.c_.At)))) (fun n2=>
  fb aa ai n2 ((!true)||(decide (ai.At < aa.c_.At))))
def jc (aa:an) (v33:MarkS) (Et:List (bq×Int)) (Eu:List al) (Ev:List (bq×Int)) (yU:List Int) (Ew:List Int) (Ex:List Int) (Ey:List Int) (FD:Int) (vE:Int) (n68:Int):Option (((List (bq×Int))×(List al)×(List (bq×Int))×(List Int)×(List Int)×(List Int)×(List Int)×Int×Int×Int)⊕an):=
 (bX (⟨aa.c_,Et,Ev,yU,Ew,Ex,Ey,FD,vE,Eu⟩:an) v33.At).bind fun v78=>
 some (.inl (Et,Eu,Ev,v78.open_,v78.bl,v78.aR,v78.aL,v78.aT,v78.cw,n68))
def cG (aa:an) (ai:List MarkS) (v33:MarkS) (Et:List (bq×Int)) (Eu:List al) (Ev:List (bq×Int)) (yU:List Int) (Ew:List Int) (Ex:List Int) (Ey:List Int) (FD:Int) (vE:Int) (n68:Int) (Om:Bool):Option (((List (bq×Int))×(List al)×(List (bq×Int))×(List Int)×(List Int)×(List Int)×(List Int)×Int×Int×Int)⊕(((List (bq×Int))×(List al)×(List (bq×Int))×(List Int)×(List Int)×(List Int)×(List Int)×Int×Int×Int)⊕an)):=
 if Om=true then
  (idx ai n68).bind fun LX=>
  (bN (⟨aa.c_,Et,Ev,yU,Ew,Ex,Ey,FD,vE,Eu⟩:an) LX).bind fun v72=>
  some (.inl (v72.oK,v72.kO,v72.dF,v72.open_,v72.bl,v72.aR,v72.aL,v72.aT,v72.cw,aJ (n68+(1:Int))))
 else
  Option.map .inr (jc aa v33 Et Eu Ev yU Ew Ex Ey FD vE n68)
def eP (aa:an) (ai:List MarkS) (v33:MarkS) (Et:List (bq×Int)) (Eu:List al) (Ev:List (bq×Int)) (yU:List Int) (Ew:List Int) (Ex:List Int) (Ey:List Int) (FD:Int) (vE:Int) (n68:Int):Option (((List (bq×Int))×(List al)×(List (bq×Int))×(List Int)×(List Int)×(List Int)×(List Int)×Int×Int×Int)⊕(((List (bq×Int))×(List al)×(List (bq×Int))×(List Int)×(List Int)×(List Int)×(List Int)×Int×Int×Int)⊕an)):=
 if n68 < (ai.length:Int) then
  (idx ai n68).bind fun v70=>
  cG aa ai v33 Et Eu Ev yU Ew Ex Ey FD vE n68 (decide (v70.At=v33.At))
 else
  cG aa ai v33 Et Eu Ev yU Ew Ex Ey FD vE n68 false
def lJ (aa:an) (ai:List MarkS) (v33:MarkS) (Et:List (bq×Int)) (Eu:List al) (Ev:List (bq×Int)) (yU:List Int) (Ew:List Int) (Ex:List Int) (Ey:List Int) (FD:Int) (vE:Int) (n68:Int):Option (((List (bq×Int))×(List al)×(List (bq×Int))×(List Int)×(List Int)×(List Int)×(List Int)×Int×Int×Int)⊕an):=
 iter (fun x:(List (bq×Int))×(List al)×(List (bq×Int))×(List Int)×(List Int)×(List Int)×(List Int)×Int×Int×Int=>eP aa ai v33 x.1 x.2.1 x.2.2.1 x.2.2.2.1 x.2.2.2.2.1 x.2.2.2.2.2.1 x.2.2.2.2.2.2.1 x.2.2.2.2.2.2.2.1 x.2.2.2.2.2.2.2.2.1 x.2.2.2.2.2.2.2.2.2) (Et,Eu,Ev,yU,Ew,Ex,Ey,FD,vE,n68)
def jd (aa:an) (au:Int) (qa:List (bq×Int)) (tw:List al) (yJ:List (bq×Int)) (qz:List Int) (pk:List Int) (pn:List Int) (vl:List Int) (n28:Int) (n29:Int):Option an:=
 (bX (⟨aa.c_,qa,yJ,qz,pk,pn,vl,n28,n29,tw⟩:an) au).bind fun LZ=>
 some (⟨aa.c_,qa,yJ,LZ.open_,LZ.bl,LZ.aR,LZ.aL,LZ.aT,LZ.cw,tw⟩:an)
def cH (aa:an) (ai:List MarkS) (au:Int) (qa:List (bq×Int)) (tw:List al) (yJ:List (bq×Int)) (qz:List Int) (pk:List Int) (pn:List Int) (vl:List Int) (n28:Int) (n29:Int) (n30:Int) (c31:Bool):Option (((List (bq×Int))×(List al)×(List (bq×Int))×(List Int)×(List Int)×(List Int)×(List Int)×Int×Int×Int)⊕an):=
 if c31=true then
  (idx ai n30).bind fun v33=>
  (bX (⟨aa.c_,qa,yJ,qz,pk,pn,vl,n28,n29,tw⟩:an) (aJ (v33.At - (1:Int)))).bind fun Ch=>
  lJ aa ai v33 qa tw yJ Ch.open_ Ch.bl Ch.aR Ch.aL Ch.aT Ch.cw n30
 else
  Option.map .inr (jd aa au qa tw yJ qz pk pn vl n28 n29)
def dt (aa:an) (ai:List MarkS) (au:Int) (qa:List (bq×Int)) (tw:List al) (yJ:List (bq×Int)) (qz:List Int) (pk:List Int) (pn:List Int) (vl:List Int) (n28:Int) (n29:Int) (n30:Int):Option (((List (bq×Int))×(List al)×(List (bq×Int))×(List Int)×(List Int)×(List Int)×(List Int)×Int×Int×Int)⊕an):=
 if n30 < (ai.length:Int) then
  (idx ai n30).bind fun v32=>
  cH aa ai au qa tw yJ qz pk pn vl n28 n29 n30 (decide (v32.At≤au))
 else
  cH aa ai au qa tw yJ qz pk pn vl n28 n29 n30 false
def lK (aa:an) (ai:List MarkS) (au:Int) (qa:List (bq×Int)) (tw:List al) (yJ:List (bq×Int)) (qz:List Int) (pk:List Int) (pn:List Int) (vl:List Int) (n28:Int) (n29:Int) (n30:Int):Option an:=
 iter (fun x:(List (bq×Int))×(List al)×(List (bq×Int))×(List Int)×(List Int)×(List Int)×(List Int)×Int×Int×Int=>dt aa ai au x.1 x.2.1 x.2.2.1 x.2.2.2.1 x.2.2.2.2.1 x.2.2.2.2.2.1 x.2.2.2.2.2.2.1 x.2.2.2.2.2.2.2.1 x.2.2.2.2.2.2.2.2.1 x.2.2.2.2.2.2.2.2.2) (qa,tw,yJ,qz,pk,pn,vl,n28,n29,n30)
def dD (aa:an) (ai:List MarkS) (au:Int):Option an:=
 lK aa ai au aa.oK aa.kO aa.dF aa.open_ aa.bl aa.aR aa.aL aa.aT aa.cw (0:Int)
def im (aa:Campaign) (ai:List DeviceS) (au:List MarkS) (aK:Int):Option ((List Int)×Int):=
 (jb aa ai au aK).bind fun v2=>
 if v2≠(0:Int) then
  some ([],v2)
 else
  (dh aa ai).bind fun v4=>
  (dD (⟨aa,v4.oK,v4.dF,v4.open_,v4.bl,v4.aR,v4.aL,v4.aT,v4.cw,v4.kO⟩:an) au aK).bind fun ig=>
  some (ig.aL,(0:Int))
def gG (aa:Campaign) (ai:List DeviceS) (au:List MarkS) (aK:Int):Option (Int×Int):=
 (jb aa ai au aK).bind fun v2=>
 if v2≠(0:Int) then
  some ((0:Int),v2)
 else
  (dh aa ai).bind fun v3=>
  (dD (⟨aa,v3.oK,v3.dF,v3.open_,v3.bl,v3.aR,v3.aL,v3.aT,v3.cw,v3.kO⟩:an) au aK).bind fun kJ=>
  some (kJ.aT,(0:Int))
def AA (c1:Bool):Bool:=
 c1
def pI (aa:Int) (ai:Int) (au:Int):Bool:=
 AA ((decide (ai≤aa))&&(decide (aa≤au)))
def mS (aa:bq) (ai:bq) (n2:Int):Option (Int⊕Bool):=
 if n2 < (aa.length:Int) then
  (idx aa n2).bind fun c3=>
  if (tX ai (c3.toNat:Int)) < (0:Int) then
   Option.map .inr (some false)
  else
   some (.inl (aJ (n2+(1:Int))))
 else
  Option.map .inr (some true)
def zH (aa:bq) (ai:bq) (n2:Int):Option Bool:=
 iter (fun x:Int=>mS aa ai x) n2
def vF (aa:bq) (ai:bq):Option Bool:=
 zH aa ai (0:Int)
def qe (c1:Bool):Option Bool:=
 some c1
def uL (aa:bq):Option Bool:=
 if (pI (aa.length:Int) (1:Int) (40:Int))=true then
  (vu aa (0:Int) (1:Int)).bind fun l2=>
  (vF l2 ([97,98,99,100,101,102,103,104,105,106,107,108,109,110,111,112,113,114,115,116,117,118,119,120,121,122]:bq)).bind fun v3=>
  if v3=true then
   (vF aa ([97,98,99,100,101,102,103,104,105,106,107,108,109,110,111,112,113,114,115,116,117,118,119,120,121,122,48,49,50,51,52,53,54,55,56,57,45,95]:bq)).bind fun v4=>
   qe v4
  else
   qe false
 else
  qe false
def ke (c2:Bool):Int:=
 if c2=true then
  (1:Int)
 else
  (0:Int)
def eo (aa:Version):Int:=
 ke ((!(pI aa.aN (0:Int) (9999:Int)))||((!(pI aa.aO (0:Int) (9999:Int)))||(!(pI aa.aM (0:Int) (9999:Int)))))
def qg (aa:Int):Bool:=
 (pI aa (0:Int) (345686399999:Int))
def jr (n5:Int) (n6:Int) (v7:iI) (c9:Bool):Option ((Int×Int)⊕Int):=
 if c9=true then
  Option.map .inr (some (1:Int))
 else
  some (.inl (aJ (n5+v7.Part),aJ (n6+(1:Int))))
def js (HC:Bool):Option Int:=
 if HC=true then
  some (1:Int)
 else
  some (0:Int)
def lB (aa:Campaign) (n5:Int):Option Int:=
 if n5≠(1000:Int) then
  some (15:Int)
 else
  js ((!(pI aa.bh.eU (0:Int) (86400000:Int)))||((!(pI aa.bh.To (0:Int) (86400000:Int)))||(!(pI aa.Room (1:Int) (500:Int)))))
def gV (aa:Campaign) (n5:Int) (n6:Int):Option ((Int×Int)⊕Int):=
 if n6 < (aa.aB.length:Int) then
  (idx aa.aB n6).bind fun v7=>
  jr n5 n6 v7 ((!(pI v7.Part (1:Int) (1000:Int)))||((!(pI v7.oW (0:Int) (2592000000:Int)))||((!(pI v7.tv (1:Int) (500:Int)))||(!(pI v7.cO (0:Int) (1000:Int))))))
 else
  Option.map .inr (lB aa n5)
def lC (aa:Campaign) (n5:Int) (n6:Int):Option Int:=
 iter (fun x:Int×Int=>gV aa x.1 x.2) (n5,n6)
def jM (aa:Campaign):Option Int:=
 (uL aa.Key).bind fun v2=>
 if (!v2)=true then
  some (5:Int)
 else
  if (eo aa.Target)≠(0:Int) then
   some (eo aa.Target)
  else
   if (!(qg aa.At))=true then
    some (1:Int)
   else
    if (aa.aB.length:Int)=(0:Int) then
     some (3:Int)
    else
     if (20:Int) < (aa.aB.length:Int) then
      some (2:Int)
     else
      lC aa (0:Int) (0:Int)
def ga (q3:bq) (n4:Int) (v5:DeviceS) (c7:Bool):Option ((bq×Int)⊕Int):=
 if c7=true then
  Option.map .inr (some (5:Int))
 else
  if (Op.bytesLess v5.Key q3||v5.Key==q3)=true then
   Option.map .inr (some (7:Int))
  else
   if (eo v5.bn)≠(0:Int) then
    Option.map .inr (some (eo v5.bn))
   else
    if (20:Int) < (v5.j0.length:Int) then
     Option.map .inr (some (2:Int))
    else
     some (.inl (v5.Key,aJ (n4+(1:Int))))
def iq (aa:List DeviceS) (q3:bq) (n4:Int):Option ((bq×Int)⊕Int):=
 if n4 < (aa.length:Int) then
  (idx aa n4).bind fun v5=>
  (uL v5.Key).bind fun v8=>
  if (!v8)=true then
   ga q3 n4 v5 true
  else
   (uL v5.Model).bind fun v9=>
   if (!v9)=true then
    ga q3 n4 v5 true
   else
    (uL v5.de).bind fun v10=>
    ga q3 n4 v5 (!v10)
 else
  Option.map .inr (some (0:Int))
def lu (aa:List DeviceS) (q3:bq) (n4:Int):Option Int:=
 iter (fun x:bq×Int=>iq aa x.1 x.2) (q3,n4)
def mc (aa:List DeviceS):Option Int:=
 if (500:Int) < (aa.length:Int) then
  some (2:Int)
 else
  lu aa ([]:bq) (0:Int)
def jN (n2:Int) (c6:Bool):Option (Int⊕Int):=
 if c6=true then
  Option.map .inr (some (7:Int))
 else
  some (.inl (aJ (n2+(1:Int))))
def fi (aa:List MarkS) (n2:Int):Option (Int⊕Int):=
 if n2 < (aa.length:Int) then
  (idx aa n2).bind fun v3=>
  if (!(qg v3.At))=true then
   Option.map .inr (some (1:Int))
  else
   (uL v3.Device).bind fun v5=>
   if (!v5)=true then
    Option.map .inr (some (5:Int))
   else
    if (!(pI v3.Kind (1:Int) (5:Int)))=true then
     Option.map .inr (some (4:Int))
    else
     if (eo v3.Version)≠(0:Int) then
      Option.map .inr (some (eo v3.Version))
     else
      if (0:Int) < n2 then
       (idx aa (aJ (n2 - (1:Int)))).bind fun v7=>
       jN n2 (decide ((0:Int)≤(eM v7 v3)))
      else
       jN n2 false
 else
  Option.map .inr (some (0:Int))
def ra (aa:List MarkS) (n2:Int):Option Int:=
 iter (fun x:Int=>fi aa x) n2
def me (aa:List MarkS):Option Int:=
 if (3000:Int) < (aa.length:Int) then
  some (2:Int)
 else
  ra aa (0:Int)
def AB (aa:Bool) (ai:Int):Int:=
 if aa=true then
  ai
 else
  (0:Int)
def iJ (aa:Int):Int:=
 (AB (!(qg aa)) (1:Int))
def sQ (aa:List Int) (n2:Int):Option (Int⊕Int):=
 if n2 < (aa.length:Int) then
  (idx aa n2).bind fun v3=>
  if v3≠(0:Int) then
   Option.map .inr (some v3)
  else
   some (.inl (aJ (n2+(1:Int))))
 else
  Option.map .inr (some (0:Int))
def FE (aa:List Int) (n2:Int):Option Int:=
 iter (fun x:Int=>sQ aa x) n2
def AD (aa:List Int):Option Int:=
 FE aa (0:Int)
def kB (n4:Int) (c5:Bool):Option (Int⊕(Int×Bool)):=
 if c5=true then
  Option.map .inr (some ((0:Int),false))
 else
  some (.inl (aJ (n4+(1:Int))))
def mf (aa:bq):Option (Int×Bool):=
 (B8 aa).bind fun v8=>
 some (v8.1,v8.2)
def dE (aa:bq) (n4:Int):Option (Int⊕(Int×Bool)):=
 if n4 < ((Lib.trimPrefix aa ([45]:bq)).length:Int) then
  (idx (Lib.trimPrefix aa ([45]:bq)) n4).bind fun c6=>
  if (c6.toNat:Int) < (48:Int) then
   kB n4 true
  else
   (idx (Lib.trimPrefix aa ([45]:bq)) n4).bind fun c7=>
   kB n4 (decide ((57:Int) < (c7.toNat:Int)))
 else
  Option.map .inr (mf aa)
def oX (aa:bq) (n4:Int):Option (Int×Bool):=
 iter (fun x:Int=>dE aa x) n4
def je (aa:bq) (c1:Bool):Option (Int×Bool):=
 if c1=true then
  some ((0:Int),false)
 else
  oX aa (0:Int)
def nG (aa:bq) (ai:Int):Option (Int×Bool):=
 if (Lib.trimPrefix aa ([45]:bq))=([]:bq) then
  je aa true
 else
  if ai < ((Lib.trimPrefix aa ([45]:bq)).length:Int) then
   je aa true
  else
   (idx (Lib.trimPrefix aa ([45]:bq)) (0:Int)).bind fun c2=>
   je aa ((decide ((c2.toNat:Int)=(48:Int)))&&((decide ((1:Int) < ((Lib.trimPrefix aa ([45]:bq)).length:Int)))||(decide (((Lib.trimPrefix aa ([45]:bq)).length:Int) < (aa.length:Int)))))
def ir (aa:List bq) (ai:Int) (l5:List Int) (n6:Int):Option (((List Int)×Int)⊕((List Int)×Bool)):=
 if n6 < (aa.length:Int) then
  (idx aa n6).bind fun v8=>
  (nG v8 ai).bind fun v9=>
  if (!v9.2)=true then
   Option.map .inr (some ([],false))
  else
   (app l5 [v9.1]).bind fun iT=>
   some (.inl (iT,aJ (n6+(1:Int))))
 else
  Option.map .inr (some (l5,true))
def lv (aa:List bq) (ai:Int) (l5:List Int) (n6:Int):Option ((List Int)×Bool):=
 iter (fun x:(List Int)×Int=>ir aa ai x.1 x.2) (l5,n6)
def mg (aa:List bq) (ai:Int):Option ((List Int)×Bool):=
 lv aa ai [] (0:Int)
def fJ (v4:(List Int)×Bool) (c6:Bool):Option (Version×Int):=
 if c6=true then
  some ((⟨(0:Int),(0:Int),(0:Int)⟩:Version),(9:Int))
 else
  (idx v4.1 (0:Int)).bind fun v7=>
  (idx v4.1 (1:Int)).bind fun v8=>
  (idx v4.1 (2:Int)).bind fun v9=>
  if (!(gu (⟨v7,v8,v9⟩:Version)))=true then
   some ((⟨(0:Int),(0:Int),(0:Int)⟩:Version),(9:Int))
  else
   some ((⟨v7,v8,v9⟩:Version),(0:Int))
def fu (aa:bq):Option (Version×Int):=
 (xZ aa ([46]:bq)).bind fun v2=>
 (mg v2 (4:Int)).bind fun v4=>
 fJ v4 ((!v4.2)||(decide ((v4.1.length:Int)≠(3:Int))))
def mh (c3:Bool):Option Bool:=
 some c3
def lL:Option Bool:=
 (fu ([49,46,50,46,51]:bq)).bind fun v1=>
 mh ((decide (v1.2=(0:Int)))&&(decide (v1.1=(⟨(1:Int),(2:Int),(3:Int)⟩:Version))))
def qh (q3:bq) (n6:Int) (n7:Int):Option ((Int×Int)⊕Int):=
 if n7 < ((lA q3).length:Int) then
  (idx (lA q3) n7).bind fun v8=>
  some (.inl (IntKind.u64.wrap ((tQ .u64 n6 (IntKind.u64.wrap (v8))) * (1099511628211:Int)),aJ (n7+(1:Int))))
 else
  Option.map .inr (some (aJ ((tQ .u64 n6 (eR .u64 n6 (32:Int))).tmod (1000:Int))))
def uM (q3:bq) (n6:Int) (n7:Int):Option Int:=
 iter (fun x:Int×Int=>qh q3 x.1 x.2) (n6,n7)
def Cj (aa:Campaign) (ai:bq):Option Int:=
 (Fv aa.Key ([0]:bq)).bind fun q2=>
 (Fv q2 ai).bind fun q3=>
 uM q3 (14695981039346656037:Int) (0:Int)
def nH (aa:Campaign) (n5:Int) (n6:Int):Option ((Int×Int)⊕Int):=
 if n6 < (aa.aB.length:Int) then
  (idx aa.aB n6).bind fun v7=>
  if (aJ (n5 - v7.Part)) < (0:Int) then
   Option.map .inr (some n6)
  else
   some (.inl (aJ (n5 - v7.Part),aJ (n6+(1:Int))))
 else
  Option.map .inr (some (0:Int))
def so (aa:Campaign) (n5:Int) (n6:Int):Option Int:=
 iter (fun x:Int×Int=>nH aa x.1 x.2) (n5,n6)
def qj (aa:Campaign) (ai:bq):Option Int:=
 (Cj aa ai).bind fun v2=>
 so aa v2 (0:Int)
def bL (aa:List Int) (ai:Int) (n2:Int):Option (Int⊕Int):=
 if n2 < (aa.length:Int) then
  (idx aa n2).bind fun v3=>
  if ai=v3 then
   Option.map .inr (some n2)
  else
   some (.inl (aJ (n2+(1:Int))))
 else
  Option.map .inr (some (-1:Int))
def jf (aa:List Int) (ai:Int) (n2:Int):Option Int:=
 iter (fun x:Int=>bL aa ai x) n2
def fS (aa:List Int) (ai:Int):Option Int:=
 jf aa ai (0:Int)
def cd (aa:List Int) (ai:Int):Option Bool:=
 (fS aa ai).bind fun v1=>
 some (decide ((0:Int)≤v1))
def jP (n7:Int) (l10:List MarkS):Option (((List MarkS)×Int)⊕(List MarkS)):=
 some (.inl (l10,aJ (n7+(1:Int))))
def kW (n7:Int) (L0:List MarkS):Option (((List MarkS)×Int)⊕(List MarkS)):=
 jP n7 L0
def nj (l6:List MarkS) (n7:Int) (v11:MarkS) (c31:Bool):Option (((List MarkS)×Int)⊕(List MarkS)):=
 if c31=true then
  (app l6 [v11]).bind fun IK=>
  kW n7 IK
 else
  kW n7 l6
def jQ (l6:List MarkS) (n7:Int) (v11:MarkS) (n15:Int) (Px:bq) (n17:Int) (n18:Int) (n19:Int) (n20:Int):Option (((List MarkS)×Int)⊕(List MarkS)):=
 (nD (bT (bT (bT (bT (bT ([]:List (Int×(List Int))) (1:Int) [(0:Int),(3:Int),(4:Int)]) (2:Int) [(1:Int)]) (5:Int) [(1:Int)]) (3:Int) [(2:Int)]) (4:Int) [(2:Int)]) v11.Kind []).bind fun pH=>
 (cd pH n17).bind fun v32=>
 nj l6 n7 v11 (v32&&((decide (v11.Kind=(1:Int)))||(decide (v11.Version=(⟨n18,n19,n20⟩:Version)))))
def iK (l6:List MarkS) (n7:Int) (v11:MarkS) (On:Bool):Option (((List MarkS)×Int)⊕(List MarkS)):=
 if On=true then
  jP n7 l6
 else
  if (0:Int)≤(aJ ((l6.length:Int) - (1:Int))) then
   (idx l6 (aJ ((l6.length:Int) - (1:Int)))).bind fun v21=>
   jQ l6 n7 v11 v21.At v21.Device v21.Kind v21.Version.aN v21.Version.aO v21.Version.aM
  else
   jQ l6 n7 v11 (0:Int) [] (0:Int) (0:Int) (0:Int) (0:Int)
def jR (aa:Campaign) (ai:bq) (au:List MarkS) (aK:Int) (l6:List MarkS) (n7:Int):Option (((List MarkS)×Int)⊕(List MarkS)):=
 if n7 < (au.length:Int) then
  (idx au n7).bind fun v11=>
  iK l6 n7 v11 ((decide (v11.Device≠ai))||((decide (v11.At < aa.At))||(decide (aK < v11.At))))
 else
  Option.map .inr (some l6)
def nk (aa:Campaign) (ai:bq) (au:List MarkS) (aK:Int) (l6:List MarkS) (n7:Int):Option (List MarkS):=
 iter (fun x:(List MarkS)×Int=>jR aa ai au aK x.1 x.2) (l6,n7)
def mT (aa:Campaign) (ai:bq) (au:List MarkS) (aK:Int):Option (List MarkS):=
 nk aa ai au aK [] (0:Int)
def mi (c2:Bool):Bool:=
 c2
def iD (aa:MarkS):Bool:=
 mi ((decide (aa.Kind≠(3:Int)))&&(decide (aa.Kind≠(4:Int))))
def ei (aa:List MarkS) (fH:MarkS→Option Bool) (n2:Int):Option (Int⊕Int):=
 if n2 < (aa.length:Int) then
  (idx aa n2).bind fun v3=>
  (fH v3).bind fun v4=>
  if v4=true then
   Option.map .inr (some n2)
  else
   some (.inl (aJ (n2+(1:Int))))
 else
  Option.map .inr (some (-1:Int))
def nI (aa:List MarkS) (fH:MarkS→Option Bool) (n2:Int):Option Int:=
 iter (fun x:Int=>ei aa fH x) n2
def gW (aa:List MarkS) (fH:MarkS→Option Bool):Option Int:=
 nI aa fH (0:Int)
def dT (n7:Int) (iT:List MarkS) (n12:Int):Option (((List MarkS)×Int×Int)⊕(List MarkS)):=
 some (.inl (iT,n12,aJ (n7+(1:Int))))
def jg (l5:List MarkS) (n6:Int):Option (List MarkS):=
 (vu l5 n6 (l5.length:Int)).bind fun wo=>
 (vu (BO l5 n6 wo.length (⟨(0:Int),[],(0:Int),(⟨(0:Int),(0:Int),(0:Int)⟩:Version)⟩:MarkS)) (0:Int) n6).bind fun IJ=>
 some IJ
def dU (fH:MarkS→Option Bool) (l5:List MarkS) (n6:Int) (n7:Int):Option (((List MarkS)×Int×Int)⊕(List MarkS)):=
 if n7 < (l5.length:Int) then
  (idx l5 n7).bind fun v8=>
  (fH v8).bind fun v10=>
  if (!v10)=true then
   (idx l5 n6).bind fun mG=>
   dT n7 (l5.set n6.toNat v8) (aJ (n6+(1:Int)))
  else
   dT n7 l5 n6
 else
  Option.map .inr (jg l5 n6)
def mU (fH:MarkS→Option Bool) (l5:List MarkS) (n6:Int) (n7:Int):Option (List MarkS):=
 iter (fun x:(List MarkS)×Int×Int=>dU fH x.1 x.2.1 x.2.2) (l5,n6,n7)
def di (aa:List MarkS) (fH:MarkS→Option Bool):Option (List MarkS):=
 (gW aa fH).bind fun v1=>
 if v1=(-1:Int) then
  some aa
 else
  mU fH aa v1 (aJ (v1+(1:Int)))
def ic (aa:List MarkS) (fH:MarkS→MarkS→Option Int):Option (List MarkS):=
 Ee fH aa
def nJ (n7:Int) (lH:List MarkS):Option (((List MarkS)×Int)⊕Int):=
 some (.inl (lH,aJ (n7+(1:Int))))
def pq (n24:Int) (v25:MarkS) (n27:Int) (Oo:Bool):Option ((Int×Int)⊕Int):=
 if Oo=true then
  Option.map .inr (some v25.At)
 else
  some (.inl (n27,aJ (n24+(1:Int))))
def kC (aa:Campaign) (ai:Int) (n24:Int) (v25:MarkS) (n27:Int):Option ((Int×Int)⊕Int):=
 (idx aa.aB ai).bind fun v28=>
 pq n24 v25 n27 ((decide (v28.tv≤(aJ (n24+(1:Int)))))&&(decide ((aJ (v28.cO * (aJ (n24+(1:Int))))) < (aJ (n27 * (1000:Int))))))
def kD (aa:Campaign) (ai:Int) (v20:(List MarkS)) (n23:Int) (n24:Int):Option ((Int×Int)⊕Int):=
 if n24 < (v20.length:Int) then
  (idx v20 n24).bind fun v25=>
  if v25.Kind=(4:Int) then
   kC aa ai n24 v25 (aJ (n23+(1:Int)))
  else
   kC aa ai n24 v25 n23
 else
  Option.map .inr (some (-1:Int))
def pr (aa:Campaign) (ai:Int) (v20:(List MarkS)) (n23:Int) (n24:Int):Option Int:=
 iter (fun x:Int×Int=>kD aa ai v20 x.1 x.2) (n23,n24)
def pt (aa:Campaign) (ai:Int) (l6:List MarkS):Option Int:=
 (di l6 (fun y0=>some (iD y0))).bind fun eS=>
 (j7 eS.length (fun r:(List MarkS)=>r.length) (ic eS (fun y0 y1=>some (eM y0 y1)))).bind fun v20=>
 pr aa ai v20 (0:Int) (0:Int)
def lM (aa:Campaign) (ai:Int) (au:List DeviceS) (aK:List MarkS) (o9:Int) (l6:List MarkS) (n7:Int):Option (((List MarkS)×Int)⊕Int):=
 if n7 < (au.length:Int) then
  (idx au n7).bind fun v9=>
  (qj aa v9.Key).bind fun v11=>
  if v11=ai then
   (mT aa v9.Key aK o9).bind fun kJ=>
   (app l6 kJ).bind fun qa=>
   nJ n7 qa
  else
   nJ n7 l6
 else
  Option.map .inr (pt aa ai l6)
def pv (aa:Campaign) (ai:Int) (au:List DeviceS) (aK:List MarkS) (o9:Int) (l6:List MarkS) (n7:Int):Option Int:=
 iter (fun x:(List MarkS)×Int=>lM aa ai au aK o9 x.1 x.2) (l6,n7)
def uN (aa:Campaign) (ai:Int) (au:List DeviceS) (aK:List MarkS) (o9:Int):Option Int:=
 pv aa ai au aK o9 [] (0:Int)
def kE (n5:Int) (n8:Int):Option ((Int×Int)⊕Int):=
 some (.inl (n8,aJ (n5+(1:Int))))
def mj (n4:Int) (n5:Int) (v6:Int) (c7:Bool):Option ((Int×Int)⊕Int):=
 if c7=true then
  kE n5 v6
 else
  kE n5 n4
def jh (aa:Campaign) (ai:List DeviceS) (au:List MarkS) (aK:Int) (n4:Int) (n5:Int):Option ((Int×Int)⊕Int):=
 if n5 < (aa.aB.length:Int) then
  (uN aa n5 ai au aK).bind fun v6=>
  mj n4 n5 v6 ((decide ((0:Int)≤v6))&&((decide (n4 < (0:Int)))||(decide (v6 < n4))))
 else
  Option.map .inr (some n4)
def ml (aa:Campaign) (ai:List DeviceS) (au:List MarkS) (aK:Int) (n4:Int) (n5:Int):Option Int:=
 iter (fun x:Int×Int=>jh aa ai au aK x.1 x.2) (n4,n5)
def jm (aa:Campaign) (ai:List DeviceS) (au:List MarkS) (aK:Int):Option Int:=
 ml aa ai au aK (-1:Int) (0:Int)
def iU (aa:List Int):Option (List Int):=
 BP Fm aa
def kX (n20:Int) (v21:MarkS) (n23:Int) (n24:Int) (n25:Int) (n26:Int):Option ((Int×Int×Int×Int×Int×Int×Int)⊕ak):=
 some (.inl (v21.Kind,v21.At,n23,n24,n25,n26,aJ (n20+(1:Int))))
def kY (n16:Int) (n17:Int) (n18:Int) (n20:Int) (v21:MarkS) (n27:Int):Option ((Int×Int×Int×Int×Int×Int×Int)⊕ak):=
 kX n20 v21 n16 n17 n18 n27
def jS (v5:(List MarkS)) (n14:Int) (n15:Int) (n16:Int) (n17:Int) (n18:Int) (n19:Int) (n20:Int):Option ((Int×Int×Int×Int×Int×Int×Int)⊕ak):=
 if n20 < (v5.length:Int) then
  (idx v5 n20).bind fun v21=>
  if v21.Kind=(3:Int) then
   kX n20 v21 v21.Version.aN v21.Version.aO v21.Version.aM n19
  else
   if v21.Kind=(4:Int) then
    kY n16 n17 n18 n20 v21 (aJ (n19+(1:Int)))
   else
    kY n16 n17 n18 n20 v21 n19
 else
  Option.map .inr (some (⟨n14,n15,(⟨n16,n17,n18⟩:Version),n19⟩:ak))
def nn (v5:(List MarkS)) (n14:Int) (n15:Int) (n16:Int) (n17:Int) (n18:Int) (n19:Int) (n20:Int):Option ak:=
 iter (fun x:Int×Int×Int×Int×Int×Int×Int=>jS v5 x.1 x.2.1 x.2.2.1 x.2.2.2.1 x.2.2.2.2.1 x.2.2.2.2.2.1 x.2.2.2.2.2.2) (n14,n15,n16,n17,n18,n19,n20)
def oY (aa:Campaign) (ai:DeviceS) (au:List MarkS) (aK:Int):Option ak:=
 (mT aa ai.Key au aK).bind fun v5=>
 nn v5 (0:Int) (0:Int) ai.bn.aN ai.bn.aO ai.bn.aM (0:Int) (0:Int)
def sR (c5:Bool):Option Bool:=
 some c5
def x6 (aa:Campaign) (ai:DeviceS) (au:List MarkS) (aK:Int):Option Bool:=
 (oY aa ai au aK).bind fun v3=>
 sR ((decide (v3.Version=aa.Target))||((decide ((3:Int)≤v3.cO))||(decide (v3.Kind=(5:Int)))))
def gn (c2:Bool):Option Bool:=
 some c2
def gH (aa:DeviceS) (ai:Campaign) (au:Int) (aK:List MarkS) (o9:Int):Option Bool:=
 (qj ai aa.Key).bind fun v3=>
 if v3=(aJ (au - (1:Int))) then
  (x6 ai aa aK o9).bind fun v4=>
  gn (!v4)
 else
  gn false
def cZ (aa:List DeviceS) (fH:DeviceS→Option Bool) (n2:Int):Option (Int⊕Int):=
 if n2 < (aa.length:Int) then
  (idx aa n2).bind fun v3=>
  (fH v3).bind fun v4=>
  if v4=true then
   Option.map .inr (some n2)
  else
   some (.inl (aJ (n2+(1:Int))))
 else
  Option.map .inr (some (-1:Int))
def lP (aa:List DeviceS) (fH:DeviceS→Option Bool) (n2:Int):Option Int:=
 iter (fun x:Int=>cZ aa fH x) n2
def fF (aa:List DeviceS) (fH:DeviceS→Option Bool):Option Int:=
 lP aa fH (0:Int)
def c8 (aa:List DeviceS) (fH:DeviceS→Option Bool):Option Bool:=
 (fF aa fH).bind fun v1=>
 some (decide ((0:Int)≤v1))
def jT (aa:Int) (ai:List DeviceS) (au:Campaign) (aK:Int) (o9:List MarkS):Option Bool:=
 (c8 ai (fun y0=>gH y0 au aK o9 aa)).bind fun v2=>
 some (!v2)
def eQ (aa:List Int) (fH:Int→Option Bool) (n2:Int):Option (Int⊕Int):=
 if n2 < (aa.length:Int) then
  (idx aa n2).bind fun v3=>
  (fH v3).bind fun v4=>
  if v4=true then
   Option.map .inr (some n2)
  else
   some (.inl (aJ (n2+(1:Int))))
 else
  Option.map .inr (some (-1:Int))
def oz (aa:List Int) (fH:Int→Option Bool) (n2:Int):Option Int:=
 iter (fun x:Int=>eQ aa fH x) n2
def fK (aa:List Int) (fH:Int→Option Bool):Option Int:=
 oz aa fH (0:Int)
def kZ (n26:Int) (Gg:List Int):Option (((List Int)×Int)⊕(((List Int)×Int×Int)⊕(List Int))):=
 some (.inl (Gg,aJ (n26+(1:Int))))
def np (lH:List Int) (n15:Int) (n18:Int) (c37:Bool):Option (((List Int)×Int×Int)⊕(List Int)):=
 if c37=true then
  Option.map .inr (some lH)
 else
  (app lH [n18]).bind fun Up=>
  some (.inl (Up,n18,aJ (n15+(1:Int))))
def jU (aK:Int) (v4:Int) (lH:List Int) (n15:Int) (n18:Int):Option (((List Int)×Int×Int)⊕(List Int)):=
 np lH n15 n18 ((decide (aK < n18))||((decide ((0:Int)≤v4))&&(decide (v4≤n18))))
def nq (aa:Campaign) (ai:List DeviceS) (au:List MarkS) (aK:Int) (v4:Int) (lH:List Int) (n15:Int) (pn:List Int):Option (((List Int)×Int×Int)⊕(List Int)):=
 (j7 pn.length (fun r:(List Int)=>r.length) (iU pn)).bind fun v33=>
 (fK v33 (fun y0=>jT y0 ai aa n15 au)).bind fun Ch=>
 if Ch < (0:Int) then
  Option.map .inr (some lH)
 else
  (idx v33 Ch).bind fun v35=>
  (idx aa.aB n15).bind fun HD=>
  jU aK v4 lH n15 (aJ (v35+HD.oW))
def jV (aa:Campaign) (ai:List DeviceS) (au:List MarkS) (aK:Int) (v4:Int) (lH:List Int) (n15:Int) (nO:Int) (pn:List Int) (n26:Int):Option (((List Int)×Int)⊕(((List Int)×Int×Int)⊕(List Int))):=
 if n26 < (au.length:Int) then
  (idx au n26).bind fun kS=>
  if (pI kS.At nO aK)=true then
   (app pn [kS.At]).bind fun Q3=>
   kZ n26 Q3
  else
   kZ n26 pn
 else
  Option.map .inr (nq aa ai au aK v4 lH n15 pn)
def nt (aa:Campaign) (ai:List DeviceS) (au:List MarkS) (aK:Int) (v4:Int) (lH:List Int) (n15:Int) (nO:Int) (pn:List Int) (n26:Int):Option (((List Int)×Int×Int)⊕(List Int)):=
 iter (fun x:(List Int)×Int=>jV aa ai au aK v4 lH n15 nO x.1 x.2) (pn,n26)
def jW (aa:Campaign) (ai:List DeviceS) (au:List MarkS) (aK:Int) (v4:Int) (lH:List Int) (n14:Int) (n15:Int):Option (((List Int)×Int×Int)⊕(List Int)):=
 if n15 < (aa.aB.length:Int) then
  if (0:Int) < n15 then
   (idx lH (aJ (n15 - (1:Int)))).bind fun nO=>
   nt aa ai au aK v4 lH n15 nO [nO] (0:Int)
  else
   jU aK v4 lH n15 n14
 else
  Option.map .inr (some lH)
def gC (aa:Campaign) (ai:List DeviceS) (au:List MarkS) (aK:Int) (v4:Int) (lH:List Int) (n14:Int) (n15:Int):Option (List Int):=
 iter (fun x:(List Int)×Int×Int=>jW aa ai au aK v4 x.1 x.2.1 x.2.2) (lH,n14,n15)
def mV (aa:Campaign) (ai:List DeviceS) (au:List MarkS) (aK:Int):Option (List Int):=
 (jm aa ai au aK).bind fun v4=>
 gC aa ai au aK v4 [] aa.At (0:Int)
def fX (aa:List Int) (ai:List Int) (n2:Int):Option (Int⊕Bool):=
 if n2 < (aa.length:Int) then
  (idx aa n2).bind fun v3=>
  (idx ai n2).bind fun v4=>
  if v3≠v4 then
   Option.map .inr (some false)
  else
   some (.inl (aJ (n2+(1:Int))))
 else
  Option.map .inr (some true)
def qk (aa:List Int) (ai:List Int) (n2:Int):Option Bool:=
 iter (fun x:Int=>fX aa ai x) n2
def iE (aa:List Int) (ai:List Int):Option Bool:=
 if (aa.length:Int)≠(ai.length:Int) then
  some false
 else
  qk aa ai (0:Int)
def gb (Oq:Bool):Option Bool:=
 some Oq
def gd (Ot:Bool):Option Bool:=
 some Ot
def mn (aa:List Int):Option Bool:=
 (jz (⟨aa,(0:Int)⟩:ah)).bind fun v2=>
 (lX v2.2 (5:Int)).bind fun v3=>
 (bP v3.2 [(0:Int),(10:Int),(50:Int),(100:Int),(150:Int),(300:Int),(300:Int),(-1:Int)]).bind fun v5=>
 (gq v5.2 (0:Int) (20:Int)).bind fun v7=>
 (lY v7.2 v2.1 v3.1 v7.1).bind fun v8=>
 (im v2.1 v3.1 v8.1 v5.1).bind fun v10=>
 (gG v2.1 v3.1 v8.1 v5.1).bind fun v12=>
 (jM v2.1).bind fun mG=>
 (mc v3.1).bind fun kJ=>
 (me v8.1).bind fun ig=>
 (AD [mG,kJ,ig,(iJ v5.1)]).bind fun uo=>
 if uo≠(0:Int) then
  if v10.2=uo then
   if v12.2=uo then
    if (v10.1.length:Int)=(0:Int) then
     if v12.1=(0:Int) then
      (lL).bind fun eS=>
      gb eS
     else
      gb false
    else
     gb false
   else
    gb false
  else
   gb false
 else
  if v10.2=(0:Int) then
   if v12.2=(0:Int) then
    (mV v2.1 v3.1 v8.1 v5.1).bind fun v20=>
    (iE v10.1 v20).bind fun v22=>
    if v22=true then
     (jm v2.1 v3.1 v8.1 v5.1).bind fun v23=>
     if v12.1=v23 then
      (lL).bind fun v24=>
      gd v24
     else
      gd false
    else
     gd false
   else
    gd false
  else
   gd false
end
end Go.Beacon
