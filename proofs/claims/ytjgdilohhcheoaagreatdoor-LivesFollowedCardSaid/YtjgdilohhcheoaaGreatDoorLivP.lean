/- Plain functions that the Go functions compute, written by shal.py. -/
import Derived.Test.YtjgdilohhcheoaaGreatDoorCore
set_option linter.unusedVariables false
namespace Go.Beacon
open Go Go.Eng
noncomputable section
structure ak where
 L:List Int
 at_:Int
deriving DecidableEq,Inhabited
structure aM where
 Name:ax
 Kind:Int
 wv:Int
 iO:Int
deriving DecidableEq,Inhabited
def aM.av (x:aM):AV:=.agg [.str x.Name,I x.Kind,I x.wv,I x.iO]
structure Model where
 Key:ax
 Prefix:ax
 bf:List aM
deriving DecidableEq,Inhabited
def Model.av (x:Model):AV:=.agg [.str x.Key,.str x.Prefix,.list 4 (x.bf.map aM.av)]
structure Version where
 er:Int
 et:Int
 dY:Int
deriving DecidableEq,Inhabited
def Version.av (x:Version):AV:=.agg [I x.er,I x.et,I x.dY]
structure ai where
 iB:ax
 No:Int
 aW:Int
 At:Int
 Kind:Int
 Device:ax
 Model:ax
 aO:ax
 aC:Int
 Key:ax
 Name:ax
 Value:ax
 bj:Int
 an:Version
deriving DecidableEq,Inhabited
def ai.av (x:ai):AV:=.agg [.str x.iB,I x.No,I x.aW,I x.At,I x.Kind,.str x.Device,.str x.Model,.str x.aO,I x.aC,.str x.Key,.str x.Name,.str x.Value,I x.bj,I x.an.er,I x.an.et,I x.an.dY]
structure bE where
 wx:ax
 th:Int
deriving DecidableEq,Inhabited
def bE.av (x:bE):AV:=.agg [.str x.wx,I x.th]
instance:yK bE:=⟨fun a b=>(yK.lt a.wx b.wx||(decide (a.wx=b.wx)&&(yK.lt a.th b.th||(decide (a.th=b.th)&&false))))⟩
structure aY where
 Name:ax
 Value:ax
deriving DecidableEq,Inhabited
def aY.av (x:aY):AV:=.agg [.str x.Name,.str x.Value]
structure cL where
 Key:ax
 Model:ax
 aO:ax
 an:Version
 bl:List aY
deriving DecidableEq,Inhabited
def cL.av (x:cL):AV:=.agg [.str x.Key,.str x.Model,.str x.aO,I x.an.er,I x.an.et,I x.an.dY,.list 2 (x.bl.map aY.av)]
structure Term where
 Key:ax
 fE:Int
 To:Int
deriving DecidableEq,Inhabited
def Term.av (x:Term):AV:=.agg [.str x.Key,I x.fE,I x.To]
structure aJ where
 Device:cL
 aC:Int
 State:Int
 aV:List Term
deriving DecidableEq,Inhabited
def aJ.av (x:aJ):AV:=.agg [.str x.Device.Key,.str x.Device.Model,.str x.Device.aO,I x.Device.an.er,I x.Device.an.et,I x.Device.an.dY,.list 2 (x.Device.bl.map aY.av),I x.aC,I x.State,.list 3 (x.aV.map Term.av)]
structure aE where
 bN:List (ax×Int)
 cr:List (bE×Bool)
 dv:List (ax×ax)
 ew:List aJ
deriving DecidableEq,Inhabited
structure bO where
 Event:Int
 Why:Int
deriving DecidableEq,Inhabited
def bO.av (x:bO):AV:=.agg [I x.Event,I x.Why]
def uA (n2:Int):Option Int:=
 some n2
def Below (ab:Int) (ah:Int):Option Int:=
 if ah < (1:Int) then
  some (0:Int)
 else
  (rem ab ah).bind fun n1=>
  if n1 < (0:Int) then
   uA (aZ (n1+ah))
  else
   uA n1
def dh (ab:ak) (ah:Int):Option (Int×ak):=
 if (ab.L.length:Int)=(0:Int) then
  (Below (aZ ((aZ (ab.at_+(1:Int))) * (7919:Int))) ah).bind fun v1=>
  some (v1,(⟨ab.L,aZ (ab.at_+(1:Int))⟩:ak))
 else
  (rem (aZ ((aZ (ab.at_+(1:Int))) - (1:Int))) (ab.L.length:Int)).bind fun n2=>
  (quo (aZ ((aZ (ab.at_+(1:Int))) - (1:Int))) (ab.L.length:Int)).bind fun n3=>
  (idx ab.L n2).bind fun v4=>
  (Below v4 (1073741824:Int)).bind fun v5=>
  (Below (aZ (v5+(aZ (n3 * (aZ ((7919:Int)+n2)))))) ah).bind fun v6=>
  some (v6,(⟨ab.L,aZ (ab.at_+(1:Int))⟩:ak))
def bH (ab:ak) (ah:List ax):Option (ax×ak):=
 (dh ab (ah.length:Int)).bind fun v1=>
 (idx ah v1.1).bind fun v2=>
 some (v2,v1.2)
def jm (ab:ak):Option ((Model×Model)×ak):=
 (bH ab [([65,66,67]:ax),([88,89]:ax),([90,90,90,90]:ax)]).bind fun v2=>
 some (((⟨([109,97]:ax),([65,66]:ax),[(⟨([97]:ax),(2:Int),(-5:Int),(50:Int)⟩:aM),(⟨([98]:ax),(3:Int),(0:Int),(0:Int)⟩:aM),(⟨([102,97,110,46,111,110]:ax),(1:Int),(0:Int),(0:Int)⟩:aM)]⟩:Model),(⟨([109,98]:ax),v2.1,[(⟨([97]:ax),(1:Int),(0:Int),(0:Int)⟩:aM)]⟩:Model)),v2.2)
def jn (ab:ak) (ah:Int):Option (Bool×ak):=
 (dh ab ah).bind fun v1=>
 some (decide (v1.1=(0:Int)),v1.2)
def cO (ab:ak) (ah:List Int):Option (Int×ak):=
 (dh ab (ah.length:Int)).bind fun v1=>
 (idx ah v1.1).bind fun v2=>
 some (v2,v1.2)
def kB (ab:ak) (ah:Int) (aA:Int):Option (Int×ak):=
 if aA < ah then
  some (ah,ab)
 else
  (dh ab (aZ ((aZ (aA - ah))+(1:Int)))).bind fun v1=>
  some (aZ (ah+v1.1),v1.2)
def fo (ab:ak) (ah:Int) (aA:Int):Option (Int×ak):=
 (jn ab (12:Int)).bind fun v1=>
 if v1.1=true then
  (cO v1.2 [aZ (ah - (1:Int)),aZ (aA+(1:Int)),ah,aA,(-1099511627776:Int),(1099511627776:Int)]).bind fun v2=>
  some (v2.1,v2.2)
 else
  (kB v1.2 ah aA).bind fun v3=>
  some (v3.1,v3.2)
def jg (l7:List Int) (n8:Int) (l10:List Model):Option ((List Model)×ak):=
 some (l10,(⟨l7,n8⟩:ak))
def kQ (Bx:List Int) (n14:Int) (Ci:List Model):Option ((List Model)×ak):=
 jg Bx n14 Ci
def kR (H9:List Int) (n19:Int) (Fs:List Model):Option ((List Model)×ak):=
 kQ H9 n19 Fs
def kS (PN:List Int) (n24:Int) (zC:List Model):Option ((List Model)×ak):=
 kR PN n24 zC
def kT (PQ:List Int) (n32:Int) (EP:List Model):Option ((List Model)×ak):=
 kS PQ n32 EP
def kU (PR:List Int) (n43:Int) (OU:List Model):Option ((List Model)×ak):=
 jg PR n43 OU
def kV (xT:List Int) (n48:Int) (Bf:List Model):Option ((List Model)×ak):=
 kU xT n48 Bf
def kW (PS:List Int) (PT:Int) (OV:List Model):Option ((List Model)×ak):=
 kV PS PT OV
def kX (PU:List Int) (n61:Int) (OW:List Model):Option ((List Model)×ak):=
 kW PU n61 OW
def nU (ab:ak):Option ((List Model)×ak):=
 (jm ab).bind fun v1=>
 (jn v1.2 (15:Int)).bind fun v6=>
 if v6.1=true then
  (dh v6.2 (2:Int)).bind fun v11=>
  if v11.1=(0:Int) then
   (dh v11.2 (5:Int)).bind fun v12=>
   if v12.1=(0:Int) then
    (bH v12.2 [([]:ax),([109,97]:ax),([65]:ax)]).bind fun v17=>
    kQ v17.2.L v17.2.at_ [(⟨v17.1,v1.1.1.Prefix,v1.1.1.bf⟩:Model),v1.1.2]
   else
    if v12.1=(1:Int) then
     (bH v12.2 [([65]:ax),([65,66,67,68,69]:ax),([97,98]:ax),([65,66]:ax),([65,49]:ax)]).bind fun v22=>
     kR v22.2.L v22.2.at_ [(⟨v1.1.1.Key,v22.1,v1.1.1.bf⟩:Model),v1.1.2]
    else
     if v12.1=(2:Int) then
      (bH v12.2 [([122,122]:ax),([97]:ax),([97,46,46,98]:ax),([65]:ax),([97,46,98,46,99,46,100,46,101,46,102]:ax)]).bind fun G9=>
      (fo G9.2 (1:Int) (3:Int)).bind fun v28=>
      (app v1.1.1.bf [(⟨G9.1,v28.1,(0:Int),(0:Int)⟩:aM)]).bind fun pJ=>
      kS v28.2.L v28.2.at_ [(⟨v1.1.1.Key,v1.1.1.Prefix,pJ⟩:Model),v1.1.2]
     else
      if v12.1=(3:Int) then
       (fo v12.2 (-3:Int) (3:Int)).bind fun v35=>
       (fo v35.2 (-3:Int) (3:Int)).bind fun Bg=>
       (idx v1.1.1.bf (0:Int)).bind fun v37=>
       (idx (v1.1.1.bf.set (0:Int).toNat (⟨v37.Name,v37.Kind,v35.1,v37.iO⟩:aM)) (0:Int)).bind fun aI=>
       kT Bg.2.L Bg.2.at_ [(⟨v1.1.1.Key,v1.1.1.Prefix,(v1.1.1.bf.set (0:Int).toNat (⟨v37.Name,v37.Kind,v35.1,v37.iO⟩:aM)).set (0:Int).toNat (⟨aI.Name,aI.Kind,aI.wv,Bg.1⟩:aM)⟩:Model),v1.1.2]
      else
       (app [v1.1.1,v1.1.2] [(⟨([109,122]:ax),([81,81]:ax),[]⟩:Model)]).bind fun Le=>
       kT v12.2.L v12.2.at_ Le
  else
   if v11.1=(1:Int) then
    (dh v11.2 (5:Int)).bind fun v41=>
    if v41.1=(0:Int) then
     (bH v41.2 [([]:ax),([109,97]:ax),([65]:ax)]).bind fun v46=>
     kU v46.2.L v46.2.at_ [v1.1.1,(⟨v46.1,v1.1.2.Prefix,v1.1.2.bf⟩:Model)]
    else
     if v41.1=(1:Int) then
      (bH v41.2 [([65]:ax),([65,66,67,68,69]:ax),([97,98]:ax),([65,66]:ax),([65,49]:ax)]).bind fun v51=>
      kV v51.2.L v51.2.at_ [v1.1.1,(⟨v1.1.2.Key,v51.1,v1.1.2.bf⟩:Model)]
     else
      if v41.1=(2:Int) then
       (bH v41.2 [([122,122]:ax),([97]:ax),([97,46,46,98]:ax),([65]:ax),([97,46,98,46,99,46,100,46,101,46,102]:ax)]).bind fun Ki=>
       (fo Ki.2 (1:Int) (3:Int)).bind fun Ha=>
       (app v1.1.2.bf [(⟨Ki.1,Ha.1,(0:Int),(0:Int)⟩:aM)]).bind fun NQ=>
       kW Ha.2.L Ha.2.at_ [v1.1.1,(⟨v1.1.2.Key,v1.1.2.Prefix,NQ⟩:Model)]
      else
       if v41.1=(3:Int) then
        (fo v41.2 (-3:Int) (3:Int)).bind fun v64=>
        (fo v64.2 (-3:Int) (3:Int)).bind fun C5=>
        (idx v1.1.2.bf (0:Int)).bind fun v66=>
        (idx (v1.1.2.bf.set (0:Int).toNat (⟨v66.Name,v66.Kind,v64.1,v66.iO⟩:aM)) (0:Int)).bind fun v67=>
        kX C5.2.L C5.2.at_ [v1.1.1,(⟨v1.1.2.Key,v1.1.2.Prefix,(v1.1.2.bf.set (0:Int).toNat (⟨v66.Name,v66.Kind,v64.1,v66.iO⟩:aM)).set (0:Int).toNat (⟨v67.Name,v67.Kind,v67.wv,C5.1⟩:aM)⟩:Model)]
       else
        (app [v1.1.1,v1.1.2] [(⟨([109,122]:ax),([81,81]:ax),[]⟩:Model)]).bind fun Vv=>
        kX v41.2.L v41.2.at_ Vv
   else
    none
 else
  jg v6.2.L v6.2.at_ [v1.1.1,v1.1.2]
def fA (ah:Int) (q7:ax) (vy:ax) (n14:Int) (n15:Int) (RH:List Int) (RI:Int) (OX:Int) (OY:ax) (OZ:ax) (n59:Int) (NR:ax) (NS:ax) (n62:Int):Option (ai×ak):=
 some ((⟨[],(0:Int),(0:Int),ah,OX,OY,q7,OZ,n59,NR,vy,NS,n62,(⟨n14,n15,(0:Int)⟩:Version)⟩:ai),(⟨RH,RI⟩:ak))
def gM (ah:Int) (q7:ax) (vy:ax) (n14:Int) (n15:Int) (PV:List Int) (PW:Int) (PX:Int) (PY:ax) (PZ:ax) (n69:Int) (P0:ax) (P1:ax) (P2:Int):Option (ai×ak):=
 fA ah q7 vy n14 n15 PV PW PX PY PZ n69 P0 P1 P2
def gN (ah:Int) (v2:Int×ak) (q7:ax) (vy:ax) (n14:Int) (n15:Int) (P3:List Int) (P4:Int) (P5:ax) (P6:ax) (P7:Int) (P8:ax) (P9:ax) (Qa:Int):Option (ai×ak):=
 gM ah q7 vy n14 n15 P3 P4 v2.1 P5 P6 P7 P8 P9 Qa
def gO (ah:Int) (v2:Int×ak) (v3:ax×ak) (q7:ax) (q8:ax) (vy:ax) (n14:Int) (n15:Int) (Qb:List Int) (Qd:Int) (Qe:Int) (Qf:ax) (Qg:ax) (Qh:Int):Option (ai×ak):=
 gN ah v2 q7 vy n14 n15 Qb Qd v3.1 q8 Qe Qf Qg Qh
def fB (ah:Int) (v2:Int×ak) (v3:ax×ak) (l5:List Int) (n6:Int) (q7:ax) (q8:ax) (n9:Int) (Bh:ax) (vy:ax) (Bi:ax) (n13:Int) (n14:Int) (n15:Int):Option (ai×ak):=
 (jn (⟨l5,n6⟩:ak) (40:Int)).bind fun v53=>
 if v53.1=true then
  (dh v53.2 (4:Int)).bind fun NT=>
  if NT.1=(0:Int) then
   (fo NT.2 (1:Int) (9:Int)).bind fun O0=>
   gM ah q7 vy n14 n15 O0.2.L O0.2.at_ O0.1 v3.1 q8 n9 Bh Bi n13
  else
   if NT.1=(1:Int) then
    (bH NT.2 [([]:ax),([65]:ax),([100,97]:ax)]).bind fun v82=>
    (bH v82.2 [([]:ax),([116]:ax)]).bind fun O1=>
    gN ah v2 q7 vy n14 n15 O1.2.L O1.2.at_ v82.1 O1.1 n9 Bh Bi n13
   else
    if NT.1=(2:Int) then
     (fo NT.2 (1:Int) (99999999:Int)).bind fun Tn=>
     (fo Tn.2 (0:Int) (345686400000:Int)).bind fun v91=>
     gO ah v2 v3 q7 q8 vy n14 n15 v91.2.L v91.2.at_ Tn.1 Bh Bi v91.1
    else
     (bH NT.2 [([]:ax),([71]:ax),([48,97]:ax)]).bind fun Tp=>
     (bH Tp.2 [([]:ax),([32,120]:ax),([120]:ax)]).bind fun v93=>
     gO ah v2 v3 q7 q8 vy n14 n15 v93.2.L v93.2.at_ n9 Tp.1 v93.1 n13
 else
  fA ah q7 vy n14 n15 v53.2.L v53.2.at_ v2.1 v3.1 q8 n9 Bh Bi n13
def gP (ah:Int) (v2:Int×ak) (v3:ax×ak) (Ia:List Int) (n20:Int) (Qi:ax) (Qj:ax) (Qk:ax) (Ql:ax) (n25:Int) (n26:Int) (n27:Int):Option (ai×ak):=
 fB ah v2 v3 Ia n20 [] Qi (0:Int) Qj Qk Ql n25 n26 n27
def gQ (ah:Int) (v2:Int×ak) (v3:ax×ak) (pJ:List Int) (n30:Int) (Qm:ax) (Qn:ax) (Qo:ax) (n34:Int) (n35:Int) (n36:Int):Option (ai×ak):=
 gP ah v2 v3 pJ n30 [] Qm Qn Qo n34 n35 n36
def gR (ah:Int) (v2:Int×ak) (v3:ax×ak) (Le:List Int) (n40:Int) (Qp:ax) (Ib:ax) (n43:Int) (n44:Int):Option (ai×ak):=
 gQ ah v2 v3 Le n40 [] Qp Ib (0:Int) n43 n44
def gS (ah:Int) (v2:Int×ak) (v3:ax×ak) (xT:List Int) (n48:Int) (Qq:ax) (Qr:ax):Option (ai×ak):=
 gR ah v2 v3 xT n48 Qq Qr (0:Int) (0:Int)
def jN (ab:ak) (ah:Int):Option (ai×ak):=
 (cO ab [(1:Int),(1:Int),(2:Int),(2:Int),(3:Int),(4:Int),(5:Int),(6:Int),(6:Int),(7:Int),(8:Int),(9:Int)]).bind fun v2=>
 (bH v2.2 [([100,97]:ax),([100,97]:ax),([100,98]:ax),([100,99]:ax)]).bind fun v3=>
 if v2.1=(1:Int) then
  (bH v3.2 [([109,97]:ax),([109,97]:ax),([109,98]:ax)]).bind fun tI=>
  (cO tI.2 [(1:Int),(2:Int),(3:Int)]).bind fun v17=>
  (bH v17.2 [([48,97]:ax),([48,98]:ax),([48,99]:ax)]).bind fun DB=>
  fB ah v2 v3 DB.2.L DB.2.at_ tI.1 [] v17.1 DB.1 [] [] (0:Int) (0:Int) (0:Int)
 else
  if v2.1=(2:Int) then
   (bH v3.2 [([116,97]:ax),([116,97]:ax),([116,98]:ax),([116,99]:ax)]).bind fun v28=>
   gP ah v2 v3 v28.2.L v28.2.at_ v28.1 [] [] [] (0:Int) (0:Int) (0:Int)
  else
   if v2.1=(4:Int) then
    (bH v3.2 [([48,97]:ax),([49,97]:ax),([49,98]:ax),([49,99]:ax)]).bind fun v37=>
    (cO v37.2 [(0:Int),(5:Int),(50:Int),(1000:Int)]).bind fun aI=>
    gQ ah v2 v3 aI.2.L aI.2.at_ v37.1 [] [] (aZ (ah+aI.1)) (0:Int) (0:Int)
   else
    if v2.1=(5:Int) then
     (cO v3.2 [(0:Int),(1:Int),(1:Int)]).bind fun v45=>
     (cO v45.2 [(0:Int),(2:Int)]).bind fun v46=>
     gR ah v2 v3 v46.2.L v46.2.at_ [] [] v45.1 v46.1
    else
     if v2.1=(6:Int) then
      (bH v3.2 [([115,105,116,101]:ax),([115,105,116,101]:ax),([111,112,101,110]:ax)]).bind fun v51=>
      (bH v51.2 [([120]:ax),([121]:ax),([97,32,98]:ax),([]:ax)]).bind fun O2=>
      gS ah v2 v3 O2.2.L O2.2.at_ v51.1 O2.1
     else
      gS ah v2 v3 v3.2.L v3.2.at_ [] []
def cmp_isNaN_int (ab:Int):Bool:=
 decide (ab≠ab)
def cmp_Compare_int (ab:Int) (ah:Int):Int:=
 if (cmp_isNaN_int ab)=true then
  if (cmp_isNaN_int ah)=true then
   (0:Int)
  else
   (-1:Int)
 else
  if (cmp_isNaN_int ah)=true then
   (1:Int)
  else
   if ab < ah then
    (-1:Int)
   else
    if ah < ab then
     (1:Int)
    else
     (0:Int)
def o5 (ab:List Int) (n2:Int):Option (Int⊕Int):=
 if n2 < (ab.length:Int) then
  (idx ab n2).bind fun v3=>
  if v3≠(0:Int) then
   Option.map .inr (some v3)
  else
   some (.inl (aZ (n2+(1:Int))))
 else
  Option.map .inr (some (0:Int))
def By (ab:List Int) (n2:Int):Option Int:=
 iter (fun x:Int=>o5 ab x) n2
def qR (ab:List Int):Option Int:=
 By ab (0:Int)
def mi (ab:ai) (ah:ai):Option Int:=
 (qR [(cmp_Compare_int ab.aW ah.aW),(Lib.compareBytes ab.iB ah.iB),(cmp_Compare_int ab.No ah.No)]).bind fun v3=>
 some v3
def cQ (n4:Int) (l7:List ai) (n8:Int) (c9:Bool):Option (((List ai)×Int)⊕(((List ai)×Int)⊕(List ai))):=
 if c9=true then
  (idx l7 (aZ (n8 - (1:Int)))).bind fun Av=>
  (idx l7 n8).bind fun ow=>
  (idx l7 n8).bind fun pI=>
  (idx (l7.set n8.toNat Av) (aZ (n8 - (1:Int)))).bind fun tI=>
  some (.inl ((l7.set n8.toNat Av).set (aZ (n8 - (1:Int))).toNat ow,aZ (n8 - (1:Int))))
 else
  Option.map .inr (some (.inl (l7,aZ (n4+(1:Int)))))
def cS (ah:Int) (lN:ai→ai→Option Int) (n4:Int) (l7:List ai) (n8:Int):Option (((List ai)×Int)⊕(((List ai)×Int)⊕(List ai))):=
 if ah < n8 then
  (idx l7 n8).bind fun v10=>
  (idx l7 (aZ (n8 - (1:Int)))).bind fun v11=>
  (lN v10 v11).bind fun v12=>
  cQ n4 l7 n8 (decide (v12 < (0:Int)))
 else
  cQ n4 l7 n8 false
def mI (ah:Int) (lN:ai→ai→Option Int) (n4:Int) (l7:List ai) (n8:Int):Option (((List ai)×Int)⊕(List ai)):=
 iter (fun x:(List ai)×Int=>cS ah lN n4 x.1 x.2) (l7,n8)
def ct (ah:Int) (aA:Int) (lN:ai→ai→Option Int) (l3:List ai) (n4:Int):Option (((List ai)×Int)⊕(List ai)):=
 if n4 < aA then
  mI ah lN n4 l3 n4
 else
  Option.map .inr (some l3)
def gU (ah:Int) (aA:Int) (lN:ai→ai→Option Int) (l3:List ai) (n4:Int):Option (List ai):=
 iter (fun x:(List ai)×Int=>ct ah aA lN x.1 x.2) (l3,n4)
def bJ (ab:List ai) (ah:Int) (aA:Int) (lN:ai→ai→Option Int):Option (List ai):=
 gU ah aA lN ab (aZ (ah+(1:Int)))
def dI (ah:Int) (aA:Int) (bu:Int) (l3:List ai) (n4:Int):Option (((List ai)×Int)⊕(List ai)):=
 if n4 < bu then
  (idx l3 (aZ (aA+n4))).bind fun v5=>
  (idx l3 (aZ (ah+n4))).bind fun v6=>
  (idx l3 (aZ (ah+n4))).bind fun v7=>
  (idx (l3.set (aZ (ah+n4)).toNat v5) (aZ (aA+n4))).bind fun v8=>
  some (.inl ((l3.set (aZ (ah+n4)).toNat v5).set (aZ (aA+n4)).toNat v6,aZ (n4+(1:Int))))
 else
  Option.map .inr (some l3)
def nV (ah:Int) (aA:Int) (bu:Int) (l3:List ai) (n4:Int):Option (List ai):=
 iter (fun x:(List ai)×Int=>dI ah aA bu x.1 x.2) (l3,n4)
def di (ab:List ai) (ah:Int) (aA:Int) (bu:Int) (kc:ai→ai→Option Int):Option (List ai):=
 nV ah aA bu ab (0:Int)
def eB (l7:List ai) (n8:Int) (n9:Int):Option (((List ai)×Int×Int)⊕(List ai)):=
 some (.inl (l7,n8,n9))
def kd (aA:Int) (kc:ai→ai→Option Int) (l4:List ai) (n5:Int):Option (List ai):=
 (lF l4.length (fun r:(List ai)=>r.length) (di l4 (aZ (aA - n5)) aA n5 kc)).bind fun v12=>
 some v12
def eC (aA:Int) (kc:ai→ai→Option Int) (l4:List ai) (n5:Int) (n6:Int):Option (((List ai)×Int×Int)⊕(List ai)):=
 if n5≠n6 then
  if n6 < n5 then
   (lF l4.length (fun r:(List ai)=>r.length) (di l4 (aZ (aA - n5)) aA n6 kc)).bind fun v10=>
   eB v10 (aZ (n5 - n6)) n6
  else
   (lF l4.length (fun r:(List ai)=>r.length) (di l4 (aZ (aA - n5)) (aZ ((aZ (aA+n6)) - n5)) n5 kc)).bind fun v11=>
   eB v11 n5 (aZ (n6 - n5))
 else
  Option.map .inr (kd aA kc l4 n5)
def pk (aA:Int) (kc:ai→ai→Option Int) (l4:List ai) (n5:Int) (n6:Int):Option (List ai):=
 iter (fun x:(List ai)×Int×Int=>eC aA kc x.1 x.2.1 x.2.2) (l4,n5,n6)
def iP (ab:List ai) (ah:Int) (aA:Int) (bu:Int) (kc:ai→ai→Option Int):Option (List ai):=
 pk aA kc ab (aZ (aA - ah)) (aZ (bu - aA))
def dL (n8:Int) (n9:Int):Option ((Int×Int)⊕(List ai)):=
 some (.inl (n8,n9))
def dM (n3:Int) (qz:List ai) (n13:Int):Option (((List ai)×Int)⊕(List ai)):=
 if n13 < (aZ (n3 - (1:Int))) then
  (idx qz (aZ (n13+(1:Int)))).bind fun ow=>
  (idx qz n13).bind fun pI=>
  (idx qz n13).bind fun tI=>
  (idx (qz.set n13.toNat ow) (aZ (n13+(1:Int)))).bind fun v17=>
  some (.inl ((qz.set n13.toNat ow).set (aZ (n13+(1:Int))).toNat pI,aZ (n13+(1:Int))))
 else
  Option.map .inr (some qz)
def ox (n3:Int) (qz:List ai) (n13:Int):Option (List ai):=
 iter (fun x:(List ai)×Int=>dM n3 x.1 x.2) (qz,n13)
def dN (ab:List ai) (ah:Int) (kc:ai→ai→Option Int) (n3:Int) (n4:Int):Option ((Int×Int)⊕(List ai)):=
 if n3 < n4 then
  (idx ab (aZ (eT .u64 (IntKind.u64.wrap (aZ (n3+n4))) (1:Int)))).bind fun v5=>
  (idx ab ah).bind fun v6=>
  (kc v5 v6).bind fun v7=>
  if v7 < (0:Int) then
   dL (aZ ((aZ (eT .u64 (IntKind.u64.wrap (aZ (n3+n4))) (1:Int)))+(1:Int))) n4
  else
   dL n3 (aZ (eT .u64 (IntKind.u64.wrap (aZ (n3+n4))) (1:Int)))
 else
  Option.map .inr (ox n3 ab ah)
def oy (ab:List ai) (ah:Int) (kc:ai→ai→Option Int) (n3:Int) (n4:Int):Option (List ai):=
 iter (fun x:Int×Int=>dN ab ah kc x.1 x.2) (n3,n4)
def dO (n25:Int) (n26:Int):Option ((Int×Int)⊕(List ai)):=
 some (.inl (n25,n26))
def dP (n20:Int) (pJ:List ai) (n30:Int):Option (((List ai)×Int)⊕(List ai)):=
 if n20 < n30 then
  (idx pJ (aZ (n30 - (1:Int)))).bind fun v31=>
  (idx pJ n30).bind fun v32=>
  (idx pJ n30).bind fun v33=>
  (idx (pJ.set n30.toNat v31) (aZ (n30 - (1:Int)))).bind fun MI=>
  some (.inl ((pJ.set n30.toNat v31).set (aZ (n30 - (1:Int))).toNat v32,aZ (n30 - (1:Int))))
 else
  Option.map .inr (some pJ)
def oz (n20:Int) (pJ:List ai) (n30:Int):Option (List ai):=
 iter (fun x:(List ai)×Int=>dP n20 x.1 x.2) (pJ,n30)
def dQ (ab:List ai) (aA:Int) (kc:ai→ai→Option Int) (n20:Int) (n21:Int):Option ((Int×Int)⊕(List ai)):=
 if n20 < n21 then
  (idx ab aA).bind fun v22=>
  (idx ab (aZ (eT .u64 (IntKind.u64.wrap (aZ (n20+n21))) (1:Int)))).bind fun v23=>
  (kc v22 v23).bind fun v24=>
  if ¬ (v24 < (0:Int)) then
   dO (aZ ((aZ (eT .u64 (IntKind.u64.wrap (aZ (n20+n21))) (1:Int)))+(1:Int))) n21
  else
   dO n20 (aZ (eT .u64 (IntKind.u64.wrap (aZ (n20+n21))) (1:Int)))
 else
  Option.map .inr (oz n20 ab aA)
def oA (ab:List ai) (aA:Int) (kc:ai→ai→Option Int) (n20:Int) (n21:Int):Option (List ai):=
 iter (fun x:Int×Int=>dQ ab aA kc x.1 x.2) (n20,n21)
def dR (n44:Int) (n45:Int):Option ((Int×Int)⊕(List ai)):=
 some (.inl (n44,n45))
def dJ (RJ:List ai):Option (List ai):=
 some RJ
def fJ (self:(List ai)→Int→Int→Int→(ai→ai→Option Int)→Option (List ai)) (ah:Int) (aA:Int) (bu:Int) (kc:ai→ai→Option Int) (n39:Int) (Bf:List ai) (RL:Bool):Option (List ai):=
 if RL=true then
  (lF Bf.length (fun r:(List ai)=>r.length) (self Bf (aZ (eT .u64 (IntKind.u64.wrap (aZ (ah+bu))) (1:Int))) (aZ ((aZ ((aZ (eT .u64 (IntKind.u64.wrap (aZ (ah+bu))) (1:Int)))+aA)) - n39)) bu kc)).bind fun v54=>
  dJ v54
 else
  dJ Bf
def dS (self:(List ai)→Int→Int→Int→(ai→ai→Option Int)→Option (List ai)) (ah:Int) (aA:Int) (bu:Int) (kc:ai→ai→Option Int) (n39:Int) (Bf:List ai):Option (List ai):=
 fJ self ah aA bu kc n39 Bf ((decide ((aZ (eT .u64 (IntKind.u64.wrap (aZ (ah+bu))) (1:Int))) < (aZ ((aZ ((aZ (eT .u64 (IntKind.u64.wrap (aZ (ah+bu))) (1:Int)))+aA)) - n39))))&&(decide ((aZ ((aZ ((aZ (eT .u64 (IntKind.u64.wrap (aZ (ah+bu))) (1:Int)))+aA)) - n39)) < bu)))
def fK (self:(List ai)→Int→Int→Int→(ai→ai→Option Int)→Option (List ai)) (ah:Int) (aA:Int) (bu:Int) (kc:ai→ai→Option Int) (n39:Int) (xT:List ai) (c49:Bool):Option (List ai):=
 if c49=true then
  (lF xT.length (fun r:(List ai)=>r.length) (self xT ah n39 (aZ (eT .u64 (IntKind.u64.wrap (aZ (ah+bu))) (1:Int))) kc)).bind fun v51=>
  dS self ah aA bu kc n39 v51
 else
  dS self ah aA bu kc n39 xT
def dT (self:(List ai)→Int→Int→Int→(ai→ai→Option Int)→Option (List ai)) (ah:Int) (aA:Int) (bu:Int) (kc:ai→ai→Option Int) (n39:Int) (xT:List ai):Option (List ai):=
 fK self ah aA bu kc n39 xT ((decide (ah < n39))&&(decide (n39 < (aZ (eT .u64 (IntKind.u64.wrap (aZ (ah+bu))) (1:Int))))))
def fL (self:(List ai)→Int→Int→Int→(ai→ai→Option Int)→Option (List ai)) (ab:List ai) (ah:Int) (aA:Int) (bu:Int) (kc:ai→ai→Option Int) (n39:Int) (RM:Bool):Option (List ai):=
 if RM=true then
  (lF ab.length (fun r:(List ai)=>r.length) (iP ab n39 aA (aZ ((aZ ((aZ (eT .u64 (IntKind.u64.wrap (aZ (ah+bu))) (1:Int)))+aA)) - n39)) kc)).bind fun RN=>
  dT self ah aA bu kc n39 RN
 else
  dT self ah aA bu kc n39 ab
def dU (self:(List ai)→Int→Int→Int→(ai→ai→Option Int)→Option (List ai)) (ab:List ai) (ah:Int) (aA:Int) (bu:Int) (kc:ai→ai→Option Int) (n39:Int) (n40:Int):Option ((Int×Int)⊕(List ai)):=
 if n39 < n40 then
  (idx ab (aZ ((aZ ((aZ ((aZ (eT .u64 (IntKind.u64.wrap (aZ (ah+bu))) (1:Int)))+aA)) - (1:Int))) - (aZ (eT .u64 (IntKind.u64.wrap (aZ (n39+n40))) (1:Int)))))).bind fun v41=>
  (idx ab (aZ (eT .u64 (IntKind.u64.wrap (aZ (n39+n40))) (1:Int)))).bind fun zD=>
  (kc v41 zD).bind fun Qs=>
  if ¬ (Qs < (0:Int)) then
   dR (aZ ((aZ (eT .u64 (IntKind.u64.wrap (aZ (n39+n40))) (1:Int)))+(1:Int))) n40
  else
   dR n39 (aZ (eT .u64 (IntKind.u64.wrap (aZ (n39+n40))) (1:Int)))
 else
  Option.map .inr (fL self ab ah aA bu kc n39 ((decide (n39 < aA))&&(decide (aA < (aZ ((aZ ((aZ (eT .u64 (IntKind.u64.wrap (aZ (ah+bu))) (1:Int)))+aA)) - n39))))))
def oB (self:(List ai)→Int→Int→Int→(ai→ai→Option Int)→Option (List ai)) (ab:List ai) (ah:Int) (aA:Int) (bu:Int) (kc:ai→ai→Option Int) (n39:Int) (n40:Int):Option (List ai):=
 iter (fun x:Int×Int=>dU self ab ah aA bu kc x.1 x.2) (n39,n40)
def dV (self:(List ai)→Int→Int→Int→(ai→ai→Option Int)→Option (List ai)) (ab:List ai) (ah:Int) (aA:Int) (bu:Int) (kc:ai→ai→Option Int) (n35:Int) (n36:Int):Option (List ai):=
 oB self ab ah aA bu kc n35 n36
def fM (self:(List ai)→Int→Int→Int→(ai→ai→Option Int)→Option (List ai)) (ab:List ai) (ah:Int) (aA:Int) (bu:Int) (kc:ai→ai→Option Int):Option (List ai):=
 if (aZ (aA - ah))=(1:Int) then
  oy ab ah kc aA bu
 else
  if (aZ (bu - aA))=(1:Int) then
   oA ab aA kc ah aA
  else
   if (aZ (eT .u64 (IntKind.u64.wrap (aZ (ah+bu))) (1:Int))) < aA then
    dV self ab ah aA bu kc (aZ ((aZ ((aZ (eT .u64 (IntKind.u64.wrap (aZ (ah+bu))) (1:Int)))+aA)) - bu)) (aZ (eT .u64 (IntKind.u64.wrap (aZ (ah+bu))) (1:Int)))
   else
    dV self ab ah aA bu kc ah aA
def fW:Nat→(List ai)→Int→Int→Int→(ai→ai→Option Int)→Option (List ai)
 | 0=>fun _ _ _ _ _=>none
 | k+1=>fM (fW k)
def gH (ab:List ai) (ah:Int) (aA:Int) (bu:Int) (kc:ai→ai→Option Int):Option (List ai):=
 fW depth ab ah aA bu kc
def eD (n12:Int) (C6:List ai):Option (((List ai)×Int)⊕(List ai)):=
 some (.inl (C6,aZ (n12 * (2:Int))))
def ke (ah:Int) (o6:ai→ai→Option Int) (n12:Int) (Ci:List ai) (n17:Int):Option (((List ai)×Int)⊕(List ai)):=
 if (aZ (n17+n12)) < ah then
  (lF Ci.length (fun r:(List ai)=>r.length) (gH Ci n17 (aZ (n17+n12)) ah o6)).bind fun v21=>
  eD n12 v21
 else
  eD n12 Ci
def eE (ah:Int) (o6:ai→ai→Option Int) (n12:Int) (Ci:List ai) (n17:Int) (n18:Int):Option (((List ai)×Int×Int)⊕(((List ai)×Int)⊕(List ai))):=
 if n18≤ah then
  (lF Ci.length (fun r:(List ai)=>r.length) (gH Ci n17 (aZ (n17+n12)) n18 o6)).bind fun tJ=>
  some (.inl (tJ,n18,aZ (n18+(aZ ((2:Int) * n12)))))
 else
  Option.map .inr (ke ah o6 n12 Ci n17)
def pn (ah:Int) (o6:ai→ai→Option Int) (n12:Int) (Ci:List ai) (n17:Int) (n18:Int):Option (((List ai)×Int)⊕(List ai)):=
 iter (fun x:(List ai)×Int×Int=>eE ah o6 n12 x.1 x.2.1 x.2.2) (Ci,n17,n18)
def cz (ah:Int) (o6:ai→ai→Option Int) (tL:List ai) (n12:Int):Option (((List ai)×Int)⊕(List ai)):=
 if n12 < ah then
  pn ah o6 n12 tL (0:Int) (aZ ((2:Int) * n12))
 else
  Option.map .inr (some tL)
def gw (ah:Int) (o6:ai→ai→Option Int) (tL:List ai) (n12:Int):Option (List ai):=
 iter (fun x:(List ai)×Int=>cz ah o6 x.1 x.2) (tL,n12)
def eF (ah:Int) (o6:ai→ai→Option Int) (l4:List ai) (n5:Int):Option (List ai):=
 (lF l4.length (fun r:(List ai)=>r.length) (bJ l4 n5 ah o6)).bind fun v8=>
 gw ah o6 v8 (20:Int)
def bW (ah:Int) (o6:ai→ai→Option Int) (l4:List ai) (n5:Int) (n6:Int):Option (((List ai)×Int×Int)⊕(List ai)):=
 if n6≤ah then
  (lF l4.length (fun r:(List ai)=>r.length) (bJ l4 n5 n6 o6)).bind fun v7=>
  some (.inl (v7,n6,aZ (n6+(20:Int))))
 else
  Option.map .inr (eF ah o6 l4 n5)
def kf (ah:Int) (o6:ai→ai→Option Int) (l4:List ai) (n5:Int) (n6:Int):Option (List ai):=
 iter (fun x:(List ai)×Int×Int=>bW ah o6 x.1 x.2.1 x.2.2) (l4,n5,n6)
def dZ (ab:List ai) (ah:Int) (o6:ai→ai→Option Int):Option (List ai):=
 kf ah o6 ab (0:Int) (20:Int)
def cA (ab:List ai) (fX:ai→ai→Option Int):Option (List ai):=
 (lF ab.length (fun r:(List ai)=>r.length) (dZ ab (ab.length:Int) fX)).bind fun v1=>
 some v1
def jO (EP:List Int) (n35:Int) (F0:List ai):Option ((List ai)×ak):=
 some (F0,(⟨EP,n35⟩:ak))
def iC (oS:(List ai)) (O3:List Int) (n31:Int) (RO:Bool):Option ((List ai)×ak):=
 if RO=true then
  (dh (⟨O3,n31⟩:ak) (oS.length:Int)).bind fun v37=>
  (idx oS v37.1).bind fun aI=>
  (bH v37.2 [aI.iB,([]:ax),([104,122]:ax)]).bind fun v39=>
  (cO v39.2 [aI.No,(0:Int),(9:Int)]).bind fun v40=>
  (cO v40.2 [aI.aW,(0:Int),(1:Int)]).bind fun v41=>
  (cO v41.2 [aI.At,(-1:Int),(345686400000:Int)]).bind fun zD=>
  jO zD.2.L zD.2.at_ ((((oS.set v37.1.toNat (⟨v39.1,aI.No,aI.aW,aI.At,aI.Kind,aI.Device,aI.Model,aI.aO,aI.aC,aI.Key,aI.Name,aI.Value,aI.bj,aI.an⟩:ai)).set v37.1.toNat (⟨v39.1,v40.1,aI.aW,aI.At,aI.Kind,aI.Device,aI.Model,aI.aO,aI.aC,aI.Key,aI.Name,aI.Value,aI.bj,aI.an⟩:ai)).set v37.1.toNat (⟨v39.1,v40.1,v41.1,aI.At,aI.Kind,aI.Device,aI.Model,aI.aO,aI.aC,aI.Key,aI.Name,aI.Value,aI.bj,aI.an⟩:ai)).set v37.1.toNat (⟨v39.1,v40.1,v41.1,zD.1,aI.Kind,aI.Device,aI.Model,aI.aO,aI.aC,aI.Key,aI.Name,aI.Value,aI.bj,aI.an⟩:ai))
 else
  jO O3 n31 oS
def mj (tL:List Int) (n12:Int) (xl:List ai):Option ((List ai)×ak):=
 (lF xl.length (fun r:(List ai)=>r.length) (cA xl (fun y0 y1=>mi y0 y1))).bind fun oS=>
 if (0:Int) < (oS.length:Int) then
  (jn (⟨tL,n12⟩:ak) (15:Int)).bind fun v33=>
  iC oS v33.2.L v33.2.at_ v33.1
 else
  iC oS tL n12 false
def jP (ah:Int) (tL:List Int) (n12:Int) (xl:List ai) (za:List (ax×Int)) (n16:Int) (n17:Int) (n18:Int):Option (((List Int)×Int×(List ai)×(List (ax×Int))×Int×Int×Int)⊕((List ai)×ak)):=
 if n18 < ah then
  (jN (⟨tL,n12⟩:ak) n17).bind fun v20=>
  (bH v20.2 [([104,97]:ax),([104,97]:ax),([104,98]:ax)]).bind fun v22=>
  (vJ za v22.1 (0:Int)).bind fun v23=>
  (vJ (ny za v22.1 (aZ (v23+(1:Int)))) v22.1 (0:Int)).bind fun v24=>
  (cO v22.2 [(0:Int),(1:Int),(1:Int),(2:Int)]).bind fun v25=>
  (app xl [(⟨v22.1,v24,max (max (aZ (n16+v25.1)) v24) (1:Int),v20.1.At,v20.1.Kind,v20.1.Device,v20.1.Model,v20.1.aO,v20.1.aC,v20.1.Key,v20.1.Name,v20.1.Value,v20.1.bj,v20.1.an⟩:ai)]).bind fun zC=>
  (cO v25.2 [(0:Int),(1:Int),(5:Int),(20:Int)]).bind fun v28=>
  some (.inl (v28.2.L,v28.2.at_,zC,ny za v22.1 (aZ (v23+(1:Int))),max (max (aZ (n16+v25.1)) v24) (1:Int),aZ (n17+v28.1),aZ (n18+(1:Int))))
 else
  Option.map .inr (mj tL n12 xl)
def sC (ah:Int) (tL:List Int) (n12:Int) (xl:List ai) (za:List (ax×Int)) (n16:Int) (n17:Int) (n18:Int):Option ((List ai)×ak):=
 iter (fun x:(List Int)×Int×(List ai)×(List (ax×Int))×Int×Int×Int=>jP ah x.1 x.2.1 x.2.2.1 x.2.2.2.1 x.2.2.2.2.1 x.2.2.2.2.2.1 x.2.2.2.2.2.2) (tL,n12,xl,za,n16,n17,n18)
def mU (ab:ak) (ah:Int):Option ((List ai)×ak):=
 (dh ab (10:Int)).bind fun v2=>
 sC ah v2.2.L v2.2.at_ [] [] (0:Int) v2.1 (0:Int)
def po (ab:ak):Option (Int×ak):=
 (dh ab (300:Int)).bind fun v1=>
 (dh v1.2 (300:Int)).bind fun v2=>
 (cO v2.2 [(345686399999:Int),(-1:Int),(345686400000:Int)]).bind fun v3=>
 (cO v3.2 [(0:Int),(5:Int),(20:Int),(40:Int),(60:Int),(80:Int),(120:Int),v1.1,v2.1,v3.1]).bind fun v4=>
 some (v4.1,v4.2)
def rO (n5:Int) (c7:Bool):Option (Int⊕Bool):=
 if c7=true then
  Option.map .inr (some false)
 else
  some (.inl (aZ (n5+(1:Int))))
def lP (ab:ax) (n5:Int):Option (Int⊕Bool):=
 if n5 < (ab.length:Int) then
  (idx ab n5).bind fun c6=>
  rO n5 (if (97:Int)≤(c6.toNat:Int) then if (c6.toNat:Int)≤(122:Int) then !true else if (48:Int)≤(c6.toNat:Int) then if (c6.toNat:Int)≤(57:Int) then !true else if (c6.toNat:Int)=(45:Int) then !true else decide (¬ ((c6.toNat:Int)=(95:Int))) else if (c6.toNat:Int)=(45:Int) then !true else decide (¬ ((c6.toNat:Int)=(95:Int))) else if (48:Int)≤(c6.toNat:Int) then if (c6.toNat:Int)≤(57:Int) then !true else if (c6.toNat:Int)=(45:Int) then !true else decide (¬ ((c6.toNat:Int)=(95:Int))) else if (c6.toNat:Int)=(45:Int) then !true else decide (¬ ((c6.toNat:Int)=(95:Int))))
 else
  Option.map .inr (some true)
def uB (ab:ax) (n5:Int):Option Bool:=
 iter (fun x:Int=>lP ab x) n5
def lQ (ab:ax) (c1:Bool):Option Bool:=
 if c1=true then
  some false
 else
  uB ab (0:Int)
def kY (ab:ax):Option Bool:=
 if ab=([]:ax) then
  lQ ab true
 else
  if (40:Int) < (ab.length:Int) then
   lQ ab true
  else
   (idx ab (0:Int)).bind fun c2=>
   if (c2.toNat:Int) < (97:Int) then
    lQ ab true
   else
    (idx ab (0:Int)).bind fun c3=>
    lQ ab (decide ((122:Int) < (c3.toNat:Int)))
def uC (c1:Bool):Bool:=
 c1
def eM (ab:Int) (ah:Int) (aA:Int):Bool:=
 uC ((decide (ab < ah))||(decide (aA < ab)))
def iQ (c1:Bool):Option Bool:=
 some c1
def kZ (ab:ax):Option Bool:=
 if (!(eM (ab.length:Int) (2:Int) (4:Int)))=true then
  (vM ab ([65,66,67,68,69,70,71,72,73,74,75,76,77,78,79,80,81,82,83,84,85,86,87,88,89,90]:ax)).bind fun v2=>
  iQ (decide (v2=([]:ax)))
 else
  iQ false
def iW (ab:Model) (ah:Model):Bool:=
 decide (ab.Prefix=ah.Prefix)
def dW (ab:List Model) (fX:Model→Option Bool) (n2:Int):Option (Int⊕Int):=
 if n2 < (ab.length:Int) then
  (idx ab n2).bind fun v3=>
  (fX v3).bind fun v4=>
  if v4=true then
   Option.map .inr (some n2)
  else
   some (.inl (aZ (n2+(1:Int))))
 else
  Option.map .inr (some (-1:Int))
def oC (ab:List Model) (fX:Model→Option Bool) (n2:Int):Option Int:=
 iter (fun x:Int=>dW ab fX x) n2
def bP (ab:List Model) (fX:Model→Option Bool):Option Int:=
 oC ab fX (0:Int)
def cM (ab:List Model) (fX:Model→Option Bool):Option Bool:=
 (bP ab fX).bind fun v1=>
 some (decide ((0:Int)≤v1))
def gx (ah:Int) (q3:ax) (n4:Int):Option ((ax×Int)⊕Bool):=
 if n4 < ah then
  (Ke q3 ([46]:ax)).bind fun v5=>
  (kY v5.1).bind fun v6=>
  if (!v6)=true then
   Option.map .inr (some false)
  else
   if (!v5.2.2)=true then
    Option.map .inr (some true)
   else
    some (.inl (v5.2.1,aZ (n4+(1:Int))))
 else
  Option.map .inr (some false)
def nW (ah:Int) (q3:ax) (n4:Int):Option Bool:=
 iter (fun x:ax×Int=>gx ah x.1 x.2) (q3,n4)
def rP (ab:ax) (ah:Int):Option Bool:=
 nW ah ab (0:Int)
def jQ (c1:Bool):Option Bool:=
 some c1
def mV (ab:ax):Option Bool:=
 if (ab.length:Int)≤(40:Int) then
  (rP ab (5:Int)).bind fun v2=>
  jQ v2
 else
  jQ false
def jo (n2:Int) (c9:Bool):Option (Int⊕Int):=
 if c9=true then
  Option.map .inr (some (3:Int))
 else
  some (.inl (aZ (n2+(1:Int))))
def jq (n2:Int) (v3:aM) (c8:Bool):Option (Int⊕Int):=
 if c8=true then
  Option.map .inr (some (1:Int))
 else
  jo n2 ((decide (¬ (v3.Kind=(2:Int))))&&((decide (v3.wv≠(0:Int)))||(decide (v3.iO≠(0:Int)))))
def eU (n2:Int) (v3:aM) (c6:Bool):Option (Int⊕Int):=
 if c6=true then
  Option.map .inr (some (7:Int))
 else
  if (eM v3.Kind (1:Int) (3:Int))=true then
   Option.map .inr (some (4:Int))
  else
   jq n2 v3 ((decide (v3.Kind=(2:Int)))&&((eM v3.wv (-1000000000:Int) v3.iO)||(decide ((1000000000:Int) < v3.iO))))
def dj (ab:List aM) (n2:Int):Option (Int⊕Int):=
 if n2 < (ab.length:Int) then
  (idx ab n2).bind fun v3=>
  (mV v3.Name).bind fun v5=>
  if (!v5)=true then
   Option.map .inr (some (5:Int))
  else
   if (0:Int) < n2 then
    (idx ab (aZ (n2 - (1:Int)))).bind fun v7=>
    eU n2 v3 (Op.bytesLess v3.Name v7.Name||v3.Name==v7.Name)
   else
    eU n2 v3 false
 else
  Option.map .inr (some (0:Int))
def pq (ab:List aM) (n2:Int):Option Int:=
 iter (fun x:Int=>dj ab x) n2
def jr (ab:List aM):Option Int:=
 pq ab (0:Int)
def eK (ab:List Model) (n2:Int) (v3:Model) (c6:Bool):Option (Int⊕Int):=
 if c6=true then
  Option.map .inr (some (7:Int))
 else
  (kZ v3.Prefix).bind fun v8=>
  if (!v8)=true then
   Option.map .inr (some (3:Int))
  else
   (zY ab (0:Int) n2).bind fun l9=>
   (cM l9 (fun y0=>some (iW y0 v3))).bind fun v10=>
   if v10=true then
    Option.map .inr (some (6:Int))
   else
    if (50:Int) < (v3.bf.length:Int) then
     Option.map .inr (some (2:Int))
    else
     (jr v3.bf).bind fun v11=>
     if v11≠(0:Int) then
      Option.map .inr (some v11)
     else
      some (.inl (aZ (n2+(1:Int))))
def cP (ab:List Model) (n2:Int):Option (Int⊕Int):=
 if n2 < (ab.length:Int) then
  (idx ab n2).bind fun v3=>
  (kY v3.Key).bind fun v5=>
  if (!v5)=true then
   Option.map .inr (some (5:Int))
  else
   if (0:Int) < n2 then
    (idx ab (aZ (n2 - (1:Int)))).bind fun v7=>
    eK ab n2 v3 (Op.bytesLess v3.Key v7.Key||v3.Key==v7.Key)
   else
    eK ab n2 v3 false
 else
  Option.map .inr (some (0:Int))
def oJ (ab:List Model) (n2:Int):Option Int:=
 iter (fun x:Int=>cP ab x) n2
def fY (ab:List Model):Option Int:=
 if (50:Int) < (ab.length:Int) then
  some (2:Int)
 else
  oJ ab (0:Int)
def eV (ab:Int):Bool:=
 !(eM ab (0:Int) (345686399999:Int))
def gI (ab:Model) (ah:ax):Bool:=
 decide (ab.Key=ah)
def kC (ab:List Model) (ah:ax):Option Int:=
 (bP ab (fun y0=>some (gI y0 ah))).bind fun v2=>
 some v2
def fp (n2:Int):Int:=
 n2
def im (ah:Int) (aA:Int) (c1:Bool):Int:=
 if c1=true then
  fp ah
 else
  fp aA
def aS (ab:Bool) (ah:Int) (aA:Int):Int:=
 im ah aA (ab&&(decide (aA=(0:Int))))
def fT (c1:Bool):Option Bool:=
 some c1
def eR (ab:ax):Option Bool:=
 if (!(eM (ab.length:Int) (1:Int) (64:Int)))=true then
  (vM ab ([48,49,50,51,52,53,54,55,56,57,97,98,99,100,101,102]:ax)).bind fun v2=>
  fT (decide (v2=([]:ax)))
 else
  fT false
def nn (c2:Bool):Bool:=
 c2
def ml (ab:Version):Bool:=
 nn ((!(eM ab.er (0:Int) (9999:Int)))&&((!(eM ab.et (0:Int) (9999:Int)))&&(!(eM ab.dY (0:Int) (9999:Int)))))
def jR (n2:Int) (c3:Bool):Option (Int⊕Bool):=
 if c3=true then
  Option.map .inr (some false)
 else
  some (.inl (aZ (n2+(1:Int))))
def oT (ab:ax):Option Bool:=
 (yg ab).bind fun v6=>
 some v6
def eh (ab:ax) (n2:Int):Option (Int⊕Bool):=
 if n2 < (ab.length:Int) then
  (idx ab n2).bind fun c4=>
  if (c4.toNat:Int) < (32:Int) then
   jR n2 true
  else
   (idx ab n2).bind fun c5=>
   jR n2 (decide ((c5.toNat:Int)=(127:Int)))
 else
  Option.map .inr (oT ab)
def sD (ab:ax) (n2:Int):Option Bool:=
 iter (fun x:Int=>eh ab x) n2
def mW (ab:ax):Option Bool:=
 sD ab (0:Int)
def cC (c1:Bool):Option Bool:=
 some c1
def cV (ab:ax) (ah:ax):Option Bool:=
 if (ah.length:Int)≤(ab.length:Int) then
  (zY ab (0:Int) (ah.length:Int)).bind fun l2=>
  cC (decide (l2=ah))
 else
  cC false
def strings_HasPrefix (ab:ax) (ah:ax):Option Bool:=
 (cV ab ah).bind fun v1=>
 some v1
def cE (c1:Bool):Option Bool:=
 some c1
def cW (ab:ax) (ah:ax):Option Bool:=
 if (ah.length:Int)≤(ab.length:Int) then
  (zY ab (aZ ((ab.length:Int) - (ah.length:Int))) (ab.length:Int)).bind fun l2=>
  cE (decide (l2=ah))
 else
  cE false
def strings_HasSuffix (ab:ax) (ah:ax):Option Bool:=
 (cW ab ah).bind fun v1=>
 some v1
def strings_Contains (ab:ax) (ah:ax):Option Bool:=
 (FY ab ah).bind fun v1=>
 some (decide ((0:Int)≤v1))
def jA (c1:Bool):Option Bool:=
 some c1
def qS (ab:ax):Option Bool:=
 (mW ab).bind fun v2=>
 if v2=true then
  (strings_HasPrefix ab ([32]:ax)).bind fun v3=>
  if (!v3)=true then
   (strings_HasSuffix ab ([32]:ax)).bind fun v4=>
   if (!v4)=true then
    (strings_Contains ab ([32,32]:ax)).bind fun v5=>
    jA (!v5)
   else
    jA false
  else
   jA false
 else
  jA false
def cT (ah:ai) (q4:ax) (q5:ax) (n6:Int) (q7:ax) (q8:ax) (q9:ax) (n10:Int) (n11:Int) (n12:Int) (n13:Int) (n14:Int):Option (ai×Int):=
 some ((⟨ah.iB,ah.No,ah.aW,ah.At,ah.Kind,ah.Device,q4,q5,n6,q7,q8,q9,n10,(⟨n11,n12,n13⟩:Version)⟩:ai),n14)
def dE (ah:ai) (Qt:ax) (Qu:ax) (Qv:ax) (Qw:ax) (n21:Int) (n22:Int) (n23:Int) (n24:Int) (n25:Int):Option (ai×Int):=
 cT ah [] Qt (0:Int) Qu Qv Qw n21 n22 n23 n24 n25
def eA (ah:ai) (NU:ax) (NV:ax) (Qx:ax) (n30:Int) (n31:Int) (n32:Int) (n33:Int) (n34:Int):Option (ai×Int):=
 dE ah [] NU NV Qx n30 n31 n32 n33 n34
def fC (ah:ai) (Qy:ax) (Qz:ax) (n38:Int) (n39:Int) (n40:Int) (n41:Int):Option (ai×Int):=
 eA ah [] Qy Qz (0:Int) n38 n39 n40 n41
def gV (ah:ai) (Ib:ax) (QA:ax) (n44:Int):Option (ai×Int):=
 fC ah Ib QA (0:Int) (0:Int) (0:Int) n44
def gW (ah:ai) (n46:Int):Option (ai×Int):=
 gV ah ah.Name ah.Value n46
def jS (ab:List Model) (ah:ai):Option (ai×Int):=
 if ah.Kind=(1:Int) then
  (kC ab ah.Model).bind fun pI=>
  (eR ah.Key).bind fun tI=>
  cT ah ah.Model [] ah.aC ah.Key [] [] (0:Int) (0:Int) (0:Int) (0:Int) (aS (!tI) (5:Int) (aS (eM ah.aC (1:Int) (99999999:Int)) (1:Int) (aS (decide (pI < (0:Int))) (8:Int) (0:Int))))
 else
  if ah.Kind=(2:Int) then
   (kY ah.aO).bind fun v26=>
   dE ah ah.aO [] [] [] (0:Int) (0:Int) (0:Int) (0:Int) (aS (!v26) (5:Int) (0:Int))
  else
   if ah.Kind=(4:Int) then
    (eR ah.Key).bind fun v35=>
    eA ah ah.Key [] [] ah.bj (0:Int) (0:Int) (0:Int) (aS (eM ah.bj ah.At (345686400000:Int)) (1:Int) (aS (!v35) (5:Int) (0:Int)))
   else
    if ah.Kind=(5:Int) then
     fC ah [] [] ah.an.er ah.an.et ah.an.dY (aS (!(ml ah.an)) (1:Int) (0:Int))
    else
     if ah.Kind=(6:Int) then
      (kY ah.Name).bind fun v45=>
      if (100:Int) < (ah.Value.length:Int) then
       gW ah (aS true (3:Int) (aS (!v45) (5:Int) (0:Int)))
      else
       (qS ah.Value).bind fun Vw=>
       gW ah (aS (!Vw) (3:Int) (aS (!v45) (5:Int) (0:Int)))
     else
      gV ah [] [] (0:Int)
def gy (n8:Int):Option Int:=
 some n8
def js (v5:ai×Int) (c7:Bool):Option Int:=
 if c7=true then
  gy (3:Int)
 else
  gy v5.2
def jt (ab:List Model) (ah:ai) (c3:Bool):Option Int:=
 if c3=true then
  some (1:Int)
 else
  if (eM ah.Kind (1:Int) (9:Int))=true then
   some (4:Int)
  else
   (kY ah.Device).bind fun v4=>
   if (!v4)=true then
    some (5:Int)
   else
    (jS ab ah).bind fun v5=>
    js v5 ((decide (v5.2=(0:Int)))&&(decide (v5.1≠ah)))
def ju (ab:List Model) (ah:ai):Option Int:=
 (kY ah.iB).bind fun v2=>
 if (!v2)=true then
  some (5:Int)
 else
  jt ab ah ((eM ah.No (1:Int) (3000:Int))||((eM ah.aW ah.No (1000000000:Int))||(!(eV ah.At))))
def lR (ab:ai) (ah:ai):Option Int:=
 (qR [(cmp_Compare_int ab.aW ah.aW),(Lib.compareBytes ab.iB ah.iB),(cmp_Compare_int ab.No ah.No)]).bind fun v3=>
 some v3
def fD (l4:List (ax×Int)) (n5:Int) (v6:ai) (c9:Bool):Option (((List (ax×Int))×Int)⊕Int):=
 if c9=true then
  Option.map .inr (some (7:Int))
 else
  (vJ l4 v6.iB (0:Int)).bind fun v12=>
  if v6.No≠(aZ (v12+(1:Int))) then
   Option.map .inr (some (16:Int))
  else
   some (.inl (ny l4 v6.iB v6.No,aZ (n5+(1:Int))))
def mJ (l4:List (ax×Int)):Option Int:=
 if (20:Int) < (l4.length:Int) then
  some (2:Int)
 else
  some (0:Int)
def dF (ab:List Model) (ah:List ai) (l4:List (ax×Int)) (n5:Int):Option (((List (ax×Int))×Int)⊕Int):=
 if n5 < (ah.length:Int) then
  (idx ah n5).bind fun v6=>
  (ju ab v6).bind fun v8=>
  if v8≠(0:Int) then
   Option.map .inr (some v8)
  else
   if (0:Int) < n5 then
    (idx ah (aZ (n5 - (1:Int)))).bind fun v10=>
    (lR v10 v6).bind fun v11=>
    fD l4 n5 v6 (decide ((0:Int)≤v11))
   else
    fD l4 n5 v6 false
 else
  Option.map .inr (mJ l4)
def mK (ab:List Model) (ah:List ai) (l4:List (ax×Int)) (n5:Int):Option Int:=
 iter (fun x:(List (ax×Int))×Int=>dF ab ah x.1 x.2) (l4,n5)
def ei (ab:List Model) (ah:List ai):Option Int:=
 if (3000:Int) < (ah.length:Int) then
  some (2:Int)
 else
  mK ab ah [] (0:Int)
def eS (ab:List Model) (ah:List ai):Option Int:=
 (fY ab).bind fun v1=>
 if v1≠(0:Int) then
  some v1
 else
  (ei ab ah).bind fun v2=>
  some v2
def qA:aE:=
 (⟨[],[],[],[]⟩:aE)
def mn (ab:aE) (ah:aJ) (aA:ai):Int:=
 (6:Int)
def gz (ab:aE) (aA:ai):Option (Int×aE):=
 (vJ ab.cr (⟨aA.Model,aA.aC⟩:bE) false).bind fun v3=>
 if v3=true then
  some ((6:Int),ab)
 else
  (B6 ab.dv aA.Key []).bind fun v4=>
  if v4.2=true then
   some ((13:Int),ab)
  else
   (NL ab.ew.length (ab.bN.map Prod.snd)).bind fun Zy=>
   some ((0:Int),(⟨ny ab.bN aA.Device (ab.ew.length:Int),ny ab.cr (⟨aA.Model,aA.aC⟩:bE) true,ny ab.dv aA.Key aA.Device,ab.ew++[(⟨(⟨aA.Device,aA.Model,[],(⟨(0:Int),(0:Int),(0:Int)⟩:Version),[]⟩:cL),aA.aC,(1:Int),[(⟨aA.Key,aA.At,(345686400000:Int)⟩:Term)]⟩:aJ)]⟩:aE))
def iq (ab:Term) (ah:ai):Bool:=
 decide (ab.Key=ah.Key)
def eG (ab:List Term) (fX:Term→Option Bool) (n2:Int):Option (Int⊕Int):=
 if n2 < (ab.length:Int) then
  (idx ab n2).bind fun v3=>
  (fX v3).bind fun v4=>
  if v4=true then
   Option.map .inr (some n2)
  else
   some (.inl (aZ (n2+(1:Int))))
 else
  Option.map .inr (some (-1:Int))
def pr (ab:List Term) (fX:Term→Option Bool) (n2:Int):Option Int:=
 iter (fun x:Int=>eG ab fX x) n2
def iR (ab:List Term) (fX:Term→Option Bool):Option Int:=
 pr ab fX (0:Int)
def bX (ab:List Term) (fX:Term→Option Bool):Option Bool:=
 (iR ab fX).bind fun v1=>
 some (decide ((0:Int)≤v1))
def gX (ab:aE) (ah:aJ) (aA:ai):Option (Int×aE×aJ):=
 (idx ah.aV (aZ ((ah.aV.length:Int) - (1:Int)))).bind fun v2=>
 if ah.State=(3:Int) then
  some ((11:Int),ab,ah)
 else
  (bX ah.aV (fun y0=>some (iq y0 aA))).bind fun v3=>
  if v3=true then
   some ((6:Int),ab,ah)
  else
   (B6 ab.dv aA.Key []).bind fun v4=>
   if v4.2=true then
    some ((13:Int),ab,ah)
   else
    if aA.At < v2.fE then
     some ((7:Int),ab,ah)
    else
     (app (ah.aV.set (aZ ((ah.aV.length:Int) - (1:Int))).toNat (⟨v2.Key,v2.fE,min v2.To aA.bj⟩:Term)) [(⟨aA.Key,aA.At,(345686400000:Int)⟩:Term)]).bind fun l5=>
     some ((0:Int),(⟨ab.bN,ab.cr,ny (qg ab.dv v2.Key) aA.Key aA.Device,ab.ew⟩:aE),(⟨ah.Device,ah.aC,ah.State,l5⟩:aJ))
def gJ (ab:aY) (ah:ax):Int:=
 (Lib.compareBytes ab.Name ah)
def bK (n7:Int) (n8:Int):Option ((Int×Int)⊕(Int×Bool)):=
 some (.inl (n7,n8))
def bL (n3:Int) (c9:Bool):Option (Int×Bool):=
 some (n3,c9)
def db (ab:List aY) (ah:ax) (o6:aY→ax→Option Int) (n3:Int):Option (Int×Bool):=
 if n3 < (ab.length:Int) then
  (idx ab n3).bind fun v10=>
  (o6 v10 ah).bind fun v11=>
  bL n3 (decide (v11=(0:Int)))
 else
  bL n3 false
def bw (ab:List aY) (ah:ax) (o6:aY→ax→Option Int) (n3:Int) (n4:Int):Option ((Int×Int)⊕(Int×Bool)):=
 if n3 < n4 then
  (idx ab (aZ (eT .u64 (IntKind.u64.wrap (aZ (n3+n4))) (1:Int)))).bind fun v5=>
  (o6 v5 ah).bind fun v6=>
  if v6 < (0:Int) then
   bK (aZ ((aZ (eT .u64 (IntKind.u64.wrap (aZ (n3+n4))) (1:Int)))+(1:Int))) n4
  else
   bK n3 (aZ (eT .u64 (IntKind.u64.wrap (aZ (n3+n4))) (1:Int)))
 else
  Option.map .inr (db ab ah o6 n3)
def fg (ab:List aY) (ah:ax) (o6:aY→ax→Option Int) (n3:Int) (n4:Int):Option (Int×Bool):=
 iter (fun x:Int×Int=>bw ab ah o6 x.1 x.2) (n3,n4)
def bR (ab:List aY) (ah:ax) (o6:aY→ax→Option Int):Option (Int×Bool):=
 fg ab ah o6 (0:Int) (ab.length:Int)
def gE (ab:List aY) (ah:Int) (aA:Int):Option (List aY):=
 Me ab ah aA
def eW (ab:List aY) (ah:Int) (aA:List aY):Option (List aY):=
 Mr ab ah aA
def np (ab:aJ) (l7:List aY):Option (Int×aJ):=
 some ((0:Int),(⟨(⟨ab.Device.Key,ab.Device.Model,ab.Device.aO,ab.Device.an,l7⟩:cL),ab.aC,ab.State,ab.aV⟩:aJ))
def nq (ab:aJ) (tL:List aY):Option (Int×aJ):=
 np ab tL
def k7 (ab:aJ) (ah:ai) (v2:Int×Bool) (c5:Bool):Option (Int×aJ):=
 if c5=true then
  (gE ab.Device.bl v2.1 (aZ (v2.1+(1:Int)))).bind fun v8=>
  np ab v8
 else
  if v2.2=true then
   (idx ab.Device.bl v2.1).bind fun v12=>
   nq ab (ab.Device.bl.set v2.1.toNat (⟨v12.Name,ah.Value⟩:aY))
  else
   if (20:Int)≤(ab.Device.bl.length:Int) then
    some ((12:Int),ab)
   else
    (eW ab.Device.bl v2.1 [(⟨ah.Name,ah.Value⟩:aY)]).bind fun ow=>
    nq ab ow
def jh (ab:aJ) (ah:ai) (v2:Int×Bool) (c3:Bool):Option (Int×aJ):=
 if c3=true then
  some ((6:Int),ab)
 else
  k7 ab ah v2 (v2.2&&(decide (ah.Value=([]:ax))))
def nX (ab:aJ) (ah:ai):Option (Int×aJ):=
 if ab.Device.aO=([]:ax) then
  some ((11:Int),ab)
 else
  (bR ab.Device.bl ah.Name (fun y0 y1=>some (gJ y0 y1))).bind fun v2=>
  if v2.2=true then
   (idx ab.Device.bl v2.1).bind fun v4=>
   jh ab ah v2 ((decide (v4.Value=ah.Value))||((!v2.2)&&(decide (ah.Value=([]:ax)))))
  else
   jh ab ah v2 ((!v2.2)&&(decide (ah.Value=([]:ax))))
def jT (ab:aJ) (q2:ax) (n3:Int) (n4:Int) (n5:Int) (l7:List aY) (n8:Int):Int×aJ:=
 ((0:Int),(⟨(⟨ab.Device.Key,ab.Device.Model,q2,(⟨n3,n4,n5⟩:Version),l7⟩:cL),ab.aC,n8,ab.aV⟩:aJ))
def jU (ab:aJ) (q9:ax) (n10:Int) (n11:Int) (n12:Int) (xl:List aY) (n15:Int):Int×aJ:=
 jT ab q9 n10 n11 n12 xl n15
def jV (ab:aJ) (n17:Int) (n18:Int) (n19:Int) (n20:Int):Int×aJ:=
 jU ab ab.Device.aO n17 n18 n19 ab.Device.bl n20
def jW (ab:aJ) (n21:Int):Int×aJ:=
 jV ab ab.Device.an.er ab.Device.an.et ab.Device.an.dY n21
def jX (ab:aJ) (n22:Int):Int×aJ:=
 jW ab n22
def jB (ab:aJ) (ah:ai):Int×aJ:=
 if ah.Kind=(2:Int) then
  if ab.State≠(1:Int) then
   ((11:Int),ab)
  else
   jT ab ah.aO ab.Device.an.er ab.Device.an.et ab.Device.an.dY ab.Device.bl (2:Int)
 else
  if ah.Kind=(3:Int) then
   if ab.Device.aO=([]:ax) then
    ((11:Int),ab)
   else
    jU ab ([]:ax) ab.Device.an.er ab.Device.an.et ab.Device.an.dY [] (1:Int)
  else
   if ah.Kind=(5:Int) then
    if ab.Device.an=ah.an then
     ((6:Int),ab)
    else
     jV ab ah.an.er ah.an.et ah.an.dY ab.State
   else
    if ah.Kind=(7:Int) then
     if ab.State≠(2:Int) then
      ((11:Int),ab)
     else
      jW ab (3:Int)
    else
     if ah.Kind=(8:Int) then
      if ab.State≠(3:Int) then
       ((11:Int),ab)
      else
       jX ab (2:Int)
     else
      jX ab ab.State
def mL (ab:aE) (n2:Int) (tI:Term) (C6:List aJ):Option (Int×aE):=
 (idx C6 n2).bind fun v26=>
 some ((0:Int),(⟨ab.bN,ab.cr,qg ab.dv tI.Key,C6.set n2.toNat (⟨v26.Device,v26.aC,(4:Int),v26.aV⟩:aJ)⟩:aE))
def dG (ab:aE) (ah:ai) (n2:Int) (v7:aJ) (tI:Term) (C6:List aJ) (n22:Int):Option (((List aJ)×Int)⊕(Int×aE)):=
 if n22 < (v7.aV.length:Int) then
  (idx C6 n2).bind fun v23=>
  (idx v23.aV n22).bind fun v24=>
  some (.inl (C6.set n2.toNat (⟨v23.Device,v23.aC,v23.State,v23.aV.set n22.toNat (⟨v24.Key,v24.fE,min v24.To (max v24.fE ah.At)⟩:Term)⟩:aJ),aZ (n22+(1:Int))))
 else
  Option.map .inr (mL ab n2 tI C6)
def gY (ab:aE) (ah:ai) (n2:Int) (v7:aJ) (tI:Term) (C6:List aJ) (n22:Int):Option (Int×aE):=
 iter (fun x:(List aJ)×Int=>dG ab ah n2 v7 tI x.1 x.2) (C6,n22)
def fZ (ab:aE) (ah:ai):Option (Int×aE):=
 uu (bI ab.bN ah.Device) (
  if ah.Kind=(1:Int) then
   (gz ab ah).bind fun v3=>
   some (v3.1,v3.2)
  else
   some ((8:Int),ab)) (fun n2=>
  if ah.Kind=(1:Int) then
   (idx ab.ew n2).bind fun v6=>
   some ((mn ab v6 ah),ab)
  else
   (idx ab.ew n2).bind fun v7=>
   if v7.State=(4:Int) then
    some ((11:Int),ab)
   else
    if ah.Kind=(4:Int) then
     (gX ab v7 ah).bind fun v8=>
     some (v8.1,(⟨ab.bN,ab.cr,v8.2.1.dv,ab.ew.set n2.toNat v8.2.2⟩:aE))
    else
     if ah.Kind=(6:Int) then
      (nX v7 ah).bind fun v12=>
      some (v12.1,(⟨ab.bN,ab.cr,ab.dv,ab.ew.set n2.toNat v12.2⟩:aE))
     else
      if ah.Kind=(9:Int) then
       (idx v7.aV (aZ ((v7.aV.length:Int) - (1:Int)))).bind fun tI=>
       gY ab ah n2 v7 tI ab.ew (0:Int)
      else
       some ((jB v7 ah).1,(⟨ab.bN,ab.cr,ab.dv,ab.ew.set n2.toNat ((jB v7 ah).2)⟩:aE)))
def jY (n25:Int) (oS:Int×aE) (QB:List bO):Option (((List (ax×Int))×(List aJ)×(List (bE×Bool))×(List (ax×ax))×(List bO)×Int)⊕(aE×(List bO))):=
 some (.inl (oS.2.bN,oS.2.ew,oS.2.cr,oS.2.dv,QB,aZ (n25+(1:Int))))
def eZ (ab:List ai) (F1:List (ax×Int)) (H9:List aJ) (Fs:List (bE×Bool)) (QC:List (ax×ax)) (NW:List bO) (n25:Int):Option (((List (ax×Int))×(List aJ)×(List (bE×Bool))×(List (ax×ax))×(List bO)×Int)⊕(aE×(List bO))):=
 if n25 < (ab.length:Int) then
  (idx ab n25).bind fun G9=>
  (fZ (⟨F1,Fs,QC,H9⟩:aE) G9).bind fun oS=>
  if oS.1≠(0:Int) then
   (app NW [(⟨n25,oS.1⟩:bO)]).bind fun EP=>
   jY n25 oS EP
  else
   jY n25 oS NW
 else
  Option.map .inr (some ((⟨F1,Fs,QC,H9⟩:aE),NW))
def mo (ab:List ai) (F1:List (ax×Int)) (H9:List aJ) (Fs:List (bE×Bool)) (QC:List (ax×ax)) (NW:List bO) (n25:Int):Option (aE×(List bO)):=
 iter (fun x:(List (ax×Int))×(List aJ)×(List (bE×Bool))×(List (ax×ax))×(List bO)×Int=>eZ ab x.1 x.2.1 x.2.2.1 x.2.2.2.1 x.2.2.2.2.1 x.2.2.2.2.2) (F1,H9,Fs,QC,NW,n25)
def lp (ab:List ai):Option (aE×(List bO)):=
 mo ab qA.bN qA.ew qA.cr qA.dv [] (0:Int)
def dq (ab:List aY):Option (List aY):=
 app [] ab
def ir (ab:List Term):Option (List Term):=
 app [] ab
def oU (ab:aJ):Option aJ:=
 (dq ab.Device.bl).bind fun v3=>
 (ir ab.aV).bind fun v5=>
 some (⟨(⟨ab.Device.Key,ab.Device.Model,ab.Device.aO,ab.Device.an,v3⟩:cL),ab.aC,ab.State,v5⟩:aJ)
def kD (ab:aJ) (ah:aJ):Int:=
 (Lib.compareBytes ab.Device.Key ah.Device.Key)
def fO (ab:List aJ) (fX:aJ→aJ→Option Int):Option (List aJ):=
 D8 fX ab
def ga (ab:aE) (Bz:ax×Int) (l5:List aJ):Option ((List aJ)⊕(List aJ)):=
 (idx ab.ew Bz.2).bind fun v8=>
 (oU v8).bind fun v9=>
 (app l5 [v9]).bind fun qz=>
 some (.inl qz)
def gd (l5:List aJ):Option (List aJ):=
 (lF l5.length (fun r:(List aJ)=>r.length) (fO l5 (fun y0 y1=>some (kD y0 y1)))).bind fun v7=>
 some v7
def qT (ab:aE) (l5:List aJ):Option (List aJ):=
 tA ab.bN (fun p=>oH (fun e (x:(List aJ))=>ga ab e x) (fun x:(List aJ)=>gd x) p l5)
def k8 (ab:aE):Option (List aJ):=
 qT ab []
def mq (ab:List Model) (ah:List ai):Option ((List aJ)×Int):=
 (eS ab ah).bind fun v1=>
 if v1≠(0:Int) then
  some ([],v1)
 else
  (lp ah).bind fun v3=>
  (k8 v3.1).bind fun v12=>
  some (v12,(0:Int))
def iD (ab:aE) (ah:ax):(Option Int):=
 uu (bI ab.bN ah) (
  none) (fun n1=>
  some n1)
def lr (ab:List Model) (ah:List ai) (aA:ax):Option (aJ×Bool×Int):=
 (eS ab ah).bind fun v2=>
 if v2≠(0:Int) then
  some ((⟨(⟨[],[],[],(⟨(0:Int),(0:Int),(0:Int)⟩:Version),[]⟩:cL),(0:Int),(0:Int),[]⟩:aJ),false,v2)
 else
  (kY aA).bind fun v3=>
  if (!v3)=true then
   some ((⟨(⟨[],[],[],(⟨(0:Int),(0:Int),(0:Int)⟩:Version),[]⟩:cL),(0:Int),(0:Int),[]⟩:aJ),false,(5:Int))
  else
   (lp ah).bind fun v4=>
   uu (iD v4.1 aA) (
    some ((⟨(⟨[],[],[],(⟨(0:Int),(0:Int),(0:Int)⟩:Version),[]⟩:cL),(0:Int),(0:Int),[]⟩:aJ),false,(0:Int))) (fun Zz=>
    (idx v4.1.ew Zz).bind fun ow=>
    (oU ow).bind fun pI=>
    some (pI,true,(0:Int)))
def kE (c2:Bool):Bool:=
 c2
def jI (ab:Term) (ah:ax) (aA:Int):Bool:=
 kE ((decide (ab.Key=ah))&&((decide (ab.fE≤aA))&&(decide (aA < ab.To))))
def jJ (bu:ax) (xm:Int) (v7:aE×(List bO)) (O4:Int) (RP:Bool):Option (Bool×Int):=
 if RP=true then
  some (false,(0:Int))
 else
  (idx v7.1.ew O4).bind fun tJ=>
  (bX tJ.aV (fun y0=>some (jI y0 bu xm))).bind fun v20=>
  some (v20,(0:Int))
def gZ (ah:List ai) (aA:ax) (bu:ax) (xm:Int) (c4:Bool):Option (Bool×Int):=
 if c4=true then
  some (false,(5:Int))
 else
  if (!(eV xm))=true then
   some (false,(1:Int))
  else
   (lp ah).bind fun v7=>
   uu (iD v7.1 aA) (
    some (false,(8:Int))) (fun O4=>
    (idx v7.1.ew O4).bind fun DB=>
    jJ bu xm v7 O4 ((decide (DB.State=(3:Int)))||(decide (DB.State=(4:Int)))))
def iE (ab:List Model) (ah:List ai) (aA:ax) (bu:ax) (xm:Int):Option (Bool×Int):=
 (eS ab ah).bind fun v3=>
 if v3≠(0:Int) then
  some (false,v3)
 else
  (kY aA).bind fun v5=>
  if (!v5)=true then
   gZ ah aA bu xm true
  else
   (eR bu).bind fun v6=>
   gZ ah aA bu xm (!v6)
def C7 (c1:Bool):Bool:=
 c1
def sE (ab:Int) (ah:Int) (aA:Int):Bool:=
 C7 ((decide (ah≤ab))&&(decide (ab≤aA)))
def sF (c1:Bool):Option Bool:=
 some c1
def vN (ab:ax):Option Bool:=
 if (sE (ab.length:Int) (1:Int) (40:Int))=true then
  (vM ab ([97,98,99,100,101,102,103,104,105,106,107,108,109,110,111,112,113,114,115,116,117,118,119,120,121,122,48,49,50,51,52,53,54,55,56,57,45,95]:ax)).bind fun v2=>
  if v2=([]:ax) then
   (idx ab (0:Int)).bind fun c3=>
   sF (decide ((0:Int)≤(qP ([97,98,99,100,101,102,103,104,105,106,107,108,109,110,111,112,113,114,115,116,117,118,119,120,121,122]:ax) (c3.toNat:Int))))
  else
   sF false
 else
  sF false
def mr (ab:Model) (ah:Model):Bool:=
 decide (ab.Prefix=ah.Prefix)
def mX (ab:ax):Option Bool:=
 (vN ab).bind fun v1=>
 some (!v1)
def dw (ab:List ax) (fX:ax→Option Bool) (n2:Int):Option (Int⊕Int):=
 if n2 < (ab.length:Int) then
  (idx ab n2).bind fun v3=>
  (fX v3).bind fun v4=>
  if v4=true then
   Option.map .inr (some n2)
  else
   some (.inl (aZ (n2+(1:Int))))
 else
  Option.map .inr (some (-1:Int))
def nK (ab:List ax) (fX:ax→Option Bool) (n2:Int):Option Int:=
 iter (fun x:Int=>dw ab fX x) n2
def gg (ab:List ax) (fX:ax→Option Bool):Option Int:=
 nK ab fX (0:Int)
def dx (ab:List ax) (fX:ax→Option Bool):Option Bool:=
 (gg ab fX).bind fun v1=>
 some (decide ((0:Int)≤v1))
def lu (c3:Bool):Option Bool:=
 some c3
def qU (ab:ax):Option Bool:=
 (As ab ([46]:ax)).bind fun v1=>
 if (ab.length:Int)≤(40:Int) then
  if (v1.length:Int)≤(5:Int) then
   (dx v1 (fun y0=>mX y0)).bind fun v4=>
   lu (!v4)
  else
   lu false
 else
  lu false
def mu (n14:Int) (RQ:Bool):Option (Int⊕(Int⊕Int)):=
 if RQ=true then
  Option.map .inr (Option.map .inr (some (3:Int)))
 else
  some (.inl (aZ (n14+(1:Int))))
def mw (n14:Int) (pI:aM) (RR:Bool):Option (Int⊕(Int⊕Int)):=
 if RR=true then
  Option.map .inr (Option.map .inr (some (1:Int)))
 else
  mu n14 ((decide (¬ (pI.Kind=(2:Int))))&&((decide (pI.wv≠(0:Int)))||(decide (pI.iO≠(0:Int)))))
def iF (n14:Int) (pI:aM) (RS:Bool):Option (Int⊕(Int⊕Int)):=
 if RS=true then
  Option.map .inr (Option.map .inr (some (7:Int)))
 else
  if (!(sE pI.Kind (1:Int) (3:Int)))=true then
   Option.map .inr (Option.map .inr (some (4:Int)))
  else
   mw n14 pI ((decide (pI.Kind=(2:Int)))&&((!(sE pI.wv (-1000000000:Int) pI.iO))||(decide ((1000000000:Int) < pI.iO))))
def ej (n2:Int) (v3:Model) (n14:Int):Option (Int⊕(Int⊕Int)):=
 if n14 < (v3.bf.length:Int) then
  (idx v3.bf n14).bind fun pI=>
  (qU pI.Name).bind fun v17=>
  if (!v17)=true then
   Option.map .inr (Option.map .inr (some (5:Int)))
  else
   if (0:Int) < n14 then
    (idx v3.bf (aZ (n14 - (1:Int)))).bind fun tJ=>
    iF n14 pI (Op.bytesLess pI.Name tJ.Name||pI.Name==tJ.Name)
   else
    iF n14 pI false
 else
  Option.map .inr (some (.inl (aZ (n2+(1:Int)))))
def oV (n2:Int) (v3:Model) (n14:Int):Option (Int⊕Int):=
 iter (fun x:Int=>ej n2 v3 x) n14
def iG (ab:List Model) (n2:Int) (v3:Model) (c8:Bool):Option (Int⊕Int):=
 if c8=true then
  Option.map .inr (some (3:Int))
 else
  (zY ab (0:Int) n2).bind fun tL=>
  (cM tL (fun y0=>some (mr y0 v3))).bind fun v12=>
  if v12=true then
   Option.map .inr (some (6:Int))
  else
   if (50:Int) < (v3.bf.length:Int) then
    Option.map .inr (some (2:Int))
   else
    oV n2 v3 (0:Int)
def iH (ab:List Model) (n2:Int) (v3:Model) (c6:Bool):Option (Int⊕Int):=
 if c6=true then
  Option.map .inr (some (7:Int))
 else
  if (!(sE (v3.Prefix.length:Int) (2:Int) (4:Int)))=true then
   iG ab n2 v3 true
  else
   (xg ([97,98,99,100,101,102,103,104,105,106,107,108,109,110,111,112,113,114,115,116,117,118,119,120,121,122]:ax)).bind fun v9=>
   (vM v3.Prefix v9).bind fun v10=>
   iG ab n2 v3 (decide (v10≠([]:ax)))
def fa (ab:List Model) (n2:Int):Option (Int⊕Int):=
 if n2 < (ab.length:Int) then
  (idx ab n2).bind fun v3=>
  (vN v3.Key).bind fun v5=>
  if (!v5)=true then
   Option.map .inr (some (5:Int))
  else
   if (0:Int) < n2 then
    (idx ab (aZ (n2 - (1:Int)))).bind fun v7=>
    iH ab n2 v3 (Op.bytesLess v3.Key v7.Key||v3.Key==v7.Key)
   else
    iH ab n2 v3 false
 else
  Option.map .inr (some (0:Int))
def sG (ab:List Model) (n2:Int):Option Int:=
 iter (fun x:Int=>fa ab x) n2
def lv (ab:List Model):Option Int:=
 if (50:Int) < (ab.length:Int) then
  some (2:Int)
 else
  sG ab (0:Int)
def dB (ab:Int):Int:=
 if (!(sE ab (0:Int) (345686399999:Int)))=true then
  (1:Int)
 else
  (0:Int)
def qh (ab:Model) (ah:ax):Bool:=
 decide (ab.Key=ah)
def sH (ab:List Model) (ah:ax):Option Int:=
 (bP ab (fun y0=>some (qh y0 ah))).bind fun v2=>
 some v2
def lS (c1:Bool):Option Bool:=
 some c1
def lT (ab:ax):Option Bool:=
 if (sE (ab.length:Int) (1:Int) (64:Int))=true then
  (vM ab ([48,49,50,51,52,53,54,55,56,57,97,98,99,100,101,102]:ax)).bind fun v2=>
  lS (decide (v2=([]:ax)))
 else
  lS false
def nz (ab:ax):Option Int:=
 (vN ab).bind fun v1=>
 if (!v1)=true then
  some (5:Int)
 else
  some (0:Int)
def nY (c2:Bool):Bool:=
 c2
def nZ (ab:Version):Bool:=
 nY ((sE ab.er (0:Int) (9999:Int))&&((sE ab.et (0:Int) (9999:Int))&&(sE ab.dY (0:Int) (9999:Int))))
def ti (n2:Int) (c4:Bool):Option (Int⊕Bool):=
 if c4=true then
  Option.map .inr (some false)
 else
  some (.inl (aZ (n2+(1:Int))))
def oW (c5:Bool):Option Bool:=
 some c5
def tj (ab:ax):Option Bool:=
 (yg ab).bind fun v6=>
 if v6=true then
  (vM ab ([32]:ax)).bind fun v7=>
  if ab=v7 then
   (strings_Contains ab ([32,32]:ax)).bind fun v8=>
   oW (!v8)
  else
   oW false
 else
  oW false
def kF (ab:ax) (n2:Int):Option (Int⊕Bool):=
 if n2 < ((kr ab).length:Int) then
  (idx (kr ab) n2).bind fun v3=>
  ti n2 ((decide (v3 < (32:Int)))||(decide (v3=(127:Int))))
 else
  Option.map .inr (tj ab)
def Aw (ab:ax) (n2:Int):Option Bool:=
 iter (fun x:Int=>kF ab x) n2
def xn (ab:ax):Option Bool:=
 Aw ab (0:Int)
def o7:Option Int:=
 some (0:Int)
def o8:Option Int:=
 o7
def o9:Option Int:=
 o8
def mY:Option Int:=
 o9
def pa (c7:Bool):Option Int:=
 if c7=true then
  some (3:Int)
 else
  mY
def qV (ab:List Model) (ah:ai):Option Int:=
 if ah.Kind=(1:Int) then
  (sH ab ah.Model).bind fun v2=>
  if v2 < (0:Int) then
   some (8:Int)
  else
   if (!(sE ah.aC (1:Int) (99999999:Int)))=true then
    some (1:Int)
   else
    (lT ah.Key).bind fun v3=>
    if (!v3)=true then
     some (5:Int)
    else
     o7
 else
  if ah.Kind=(2:Int) then
   (nz ah.aO).bind fun v4=>
   some v4
  else
   if ah.Kind=(4:Int) then
    (lT ah.Key).bind fun v5=>
    if (!v5)=true then
     some (5:Int)
    else
     if (!(sE ah.bj ah.At (345686400000:Int)))=true then
      some (1:Int)
     else
      o8
   else
    if ah.Kind=(5:Int) then
     if (!(nZ ah.an))=true then
      some (1:Int)
     else
      o9
    else
     if ah.Kind=(6:Int) then
      (vN ah.Name).bind fun v6=>
      if (!v6)=true then
       some (5:Int)
      else
       (xn ah.Value).bind fun v8=>
       pa ((!v8)||(decide ((100:Int) < (ah.Value.length:Int))))
     else
      mY
def rQ (ab:Int):Option ax:=
 (idx [([]:ax),([109,115,107]:ax),([116]:ax),([]:ax),([107,117]:ax),([102]:ax),([110,118]:ax),([]:ax),([]:ax),([]:ax)] ab).bind fun v1=>
 some v1
def k9 (c9:Bool):Option (Unit⊕Int):=
 if c9=true then
  Option.map .inr (some (3:Int))
 else
  some (.inl ())
def gK (v6:ax) (Bz:ax×Bool):Option (Unit⊕Int):=
 if Bz.2=true then
  (strings_Contains v6 Bz.1).bind fun v10=>
  k9 (!v10)
 else
  k9 false
def lf:Option Int:=
 some (0:Int)
def pK (ah:ai) (v6:ax):Option Int:=
 tA ([(([109]:ax),decide (ah.Model≠([]:ax))),(([115]:ax),decide (ah.aC≠(0:Int))),(([107]:ax),decide (ah.Key≠([]:ax))),(([116]:ax),decide (ah.aO≠([]:ax))),(([117]:ax),decide (ah.bj≠(0:Int))),(([102]:ax),decide (ah.an≠(⟨(0:Int),(0:Int),(0:Int)⟩:Version))),(([110]:ax),decide (ah.Name≠([]:ax))),(([118]:ax),decide (ah.Value≠([]:ax)))]:List (ax×Bool)) (fun p=>oH (fun e (x:Unit)=>gK v6 e) (fun x:Unit=>lf) p ())
def nt (ab:List Model) (ah:ai) (c3:Bool):Option Int:=
 if c3=true then
  some (1:Int)
 else
  if (!(sE ah.Kind (1:Int) (9:Int)))=true then
   some (4:Int)
  else
   (vN ah.Device).bind fun v4=>
   if (!v4)=true then
    some (5:Int)
   else
    (qV ab ah).bind fun v5=>
    if v5≠(0:Int) then
     some v5
    else
     (rQ ah.Kind).bind fun v6=>
     pK ah v6
def oc (ab:List Model) (ah:ai):Option Int:=
 (vN ah.iB).bind fun v2=>
 if (!v2)=true then
  some (5:Int)
 else
  nt ab ah ((!(sE ah.No (1:Int) (3000:Int)))||((!(sE ah.aW ah.No (1000000000:Int)))||(decide ((dB ah.At)≠(0:Int)))))
def mx (l4:List (ax×Int)) (n5:Int) (v6:ai) (c9:Bool):Option (((List (ax×Int))×Int)⊕Int):=
 if c9=true then
  Option.map .inr (some (7:Int))
 else
  (vJ l4 v6.iB (0:Int)).bind fun v12=>
  if v6.No≠(aZ (v12+(1:Int))) then
   Option.map .inr (some (16:Int))
  else
   some (.inl (ny l4 v6.iB v6.No,aZ (n5+(1:Int))))
def sI (l4:List (ax×Int)):Option Int:=
 if (20:Int) < (l4.length:Int) then
  some (2:Int)
 else
  some (0:Int)
def iI (ab:List Model) (ah:List ai) (l4:List (ax×Int)) (n5:Int):Option (((List (ax×Int))×Int)⊕Int):=
 if n5 < (ah.length:Int) then
  (idx ah n5).bind fun v6=>
  (oc ab v6).bind fun v8=>
  if v8≠(0:Int) then
   Option.map .inr (some v8)
  else
   if (0:Int) < n5 then
    (idx ah (aZ (n5 - (1:Int)))).bind fun v10=>
    (mi v10 v6).bind fun v11=>
    mx l4 n5 v6 (decide ((0:Int)≤v11))
   else
    mx l4 n5 v6 false
 else
  Option.map .inr (sI l4)
def sJ (ab:List Model) (ah:List ai) (l4:List (ax×Int)) (n5:Int):Option Int:=
 iter (fun x:(List (ax×Int))×Int=>iI ab ah x.1 x.2) (l4,n5)
def jC (ab:List Model) (ah:List ai):Option Int:=
 if (3000:Int) < (ah.length:Int) then
  some (2:Int)
 else
  sJ ab ah [] (0:Int)
def nu (ab:List Int) (n2:Int):Option (Int⊕Int):=
 if n2 < (ab.length:Int) then
  (idx ab n2).bind fun v3=>
  if v3≠(0:Int) then
   Option.map .inr (some v3)
  else
   some (.inl (aZ (n2+(1:Int))))
 else
  Option.map .inr (some (0:Int))
def zb (ab:List Int) (n2:Int):Option Int:=
 iter (fun x:Int=>nu ab x) n2
def gn (ab:List Int):Option Int:=
 zb ab (0:Int)
def lx (ab:ax):Option Int:=
 (lT ab).bind fun v1=>
 if (!v1)=true then
  some (5:Int)
 else
  some (0:Int)
def qW (c2:Bool):Option (Unit⊕Bool):=
 if c2=true then
  Option.map .inr (some true)
 else
  some (.inl ())
def oX (ah:ax) (aA:List aJ) (Bz:ax×Int):Option (Unit⊕Bool):=
 (idx aA Bz.2).bind fun v3=>
 if v3.State≠(4:Int) then
  (idx v3.aV (aZ ((v3.aV.length:Int) - (1:Int)))).bind fun v4=>
  qW (decide (v4.Key=ah))
 else
  qW false
def qX:Option Bool:=
 some false
def Ax (ab:List (ax×Int)) (ah:ax) (aA:List aJ):Option Bool:=
 tA ab (fun p=>oH (fun e (x:Unit)=>oX ah aA e) (fun x:Unit=>qX) p ())
def vi (ab:List (ax×Int)) (ah:ax) (aA:List aJ):Option Bool:=
 Ax ab ah aA
def vj (ab:List (ax×Int)) (aA:List aJ) (RT:Bool):Option (Unit⊕(Int×(List (ax×Int))×(List aJ))):=
 if RT=true then
  Option.map .inr (some ((6:Int),ab,aA))
 else
  some (.inl ())
def qB (ab:List (ax×Int)) (ah:ai) (aA:List aJ) (Bz:ax×Int):Option (Unit⊕(Int×(List (ax×Int))×(List aJ))):=
 (idx aA Bz.2).bind fun v12=>
 vj ab aA ((decide (v12.Device.Model=ah.Model))&&(decide (v12.aC=ah.aC)))
def mz (ab:List (ax×Int)) (ah:ai) (aA:List aJ):Option (Int×(List (ax×Int))×(List aJ)):=
 (vi ab ah.Key aA).bind fun v4=>
 if v4=true then
  some ((13:Int),ab,aA)
 else
  (NL aA.length (ab.map Prod.snd)).bind fun u8=>
  some ((0:Int),ny ab ah.Device (aA.length:Int),aA++[(⟨(⟨ah.Device,ah.Model,[],(⟨(0:Int),(0:Int),(0:Int)⟩:Version),[]⟩:cL),ah.aC,(1:Int),[(⟨ah.Key,ah.At,(345686400000:Int)⟩:Term)]⟩:aJ)])
def yi (ab:List (ax×Int)) (ah:ai) (aA:List aJ):Option (Int×(List (ax×Int))×(List aJ)):=
 tA ab (fun p=>oH (fun e (x:Unit)=>qB ab ah aA e) (fun x:Unit=>mz ab ah aA) p ())
def tp (ab:List (ax×Int)) (ah:ai) (aA:List aJ):Option (Int×(List (ax×Int))×(List aJ)):=
 uu (bI ab ah.Device) (
  yi ab ah aA) (fun n2=>
  some ((6:Int),ab,aA))
def rR (ab:Term) (ah:ai):Bool:=
 decide (ab.Key=ah.Key)
def uD (ab:List (ax×Int)) (ah:Int) (aA:ai) (bu:List aJ):Option (Int×(List aJ)):=
 (idx bu ah).bind fun v2=>
 (idx v2.aV (aZ ((v2.aV.length:Int) - (1:Int)))).bind fun v3=>
 if v2.State=(3:Int) then
  some ((11:Int),bu)
 else
  (bX v2.aV (fun y0=>some (rR y0 aA))).bind fun v4=>
  if v4=true then
   some ((6:Int),bu)
  else
   (vi ab aA.Key bu).bind fun v5=>
   if v5=true then
    some ((13:Int),bu)
   else
    if aA.At < v3.fE then
     some ((7:Int),bu)
    else
     (app (v2.aV.set (aZ ((v2.aV.length:Int) - (1:Int))).toNat (⟨v3.Key,v3.fE,min v3.To aA.bj⟩:Term)) [(⟨aA.Key,aA.At,(345686400000:Int)⟩:Term)]).bind fun l7=>
     some ((0:Int),(bu.set ah.toNat (⟨v2.Device,v2.aC,v2.State,v2.aV.set (aZ ((v2.aV.length:Int) - (1:Int))).toNat (⟨v3.Key,v3.fE,min v3.To aA.bj⟩:Term)⟩:aJ)).set ah.toNat (⟨v2.Device,v2.aC,v2.State,l7⟩:aJ))
def rS (ab:aY) (ah:ai):Bool:=
 decide (ab.Name=ah.Name)
def eI (ab:List aY) (fX:aY→Option Bool) (n2:Int):Option (Int⊕Int):=
 if n2 < (ab.length:Int) then
  (idx ab n2).bind fun v3=>
  (fX v3).bind fun v4=>
  if v4=true then
   Option.map .inr (some n2)
  else
   some (.inl (aZ (n2+(1:Int))))
 else
  Option.map .inr (some (-1:Int))
def pt (ab:List aY) (fX:aY→Option Bool) (n2:Int):Option Int:=
 iter (fun x:Int=>eI ab fX x) n2
def ea (ab:List aY) (fX:aY→Option Bool):Option Int:=
 pt ab fX (0:Int)
def rU (ab:aY) (ah:ai):Bool:=
 decide (ab.Name=ah.Name)
def ek (n7:Int) (tL:List aY) (n12:Int):Option (((List aY)×Int×Int)⊕(List aY)):=
 some (.inl (tL,n12,aZ (n7+(1:Int))))
def jZ (l5:List aY) (n6:Int):Option (List aY):=
 (zY l5 n6 (l5.length:Int)).bind fun xl=>
 (zY (GP l5 n6 xl.length (⟨[],[]⟩:aY)) (0:Int) n6).bind fun za=>
 some za
def eo (fX:aY→Option Bool) (l5:List aY) (n6:Int) (n7:Int):Option (((List aY)×Int×Int)⊕(List aY)):=
 if n7 < (l5.length:Int) then
  (idx l5 n7).bind fun v8=>
  (fX v8).bind fun v10=>
  if (!v10)=true then
   (idx l5 n6).bind fun Av=>
   ek n7 (l5.set n6.toNat v8) (aZ (n6+(1:Int)))
  else
   ek n7 l5 n6
 else
  Option.map .inr (jZ l5 n6)
def oY (fX:aY→Option Bool) (l5:List aY) (n6:Int) (n7:Int):Option (List aY):=
 iter (fun x:(List aY)×Int×Int=>eo fX x.1 x.2.1 x.2.2) (l5,n6,n7)
def fc (ab:List aY) (fX:aY→Option Bool):Option (List aY):=
 (ea ab fX).bind fun v1=>
 if v1=(-1:Int) then
  some ab
 else
  oY fX ab v1 (aZ (v1+(1:Int)))
def pv (ab:aY) (ah:aY):Int:=
 (Lib.compareBytes ab.Name ah.Name)
def iZ (ab:List aY) (fX:aY→aY→Option Int):Option (List aY):=
 D8 fX ab
def lU (ab:aJ) (Bx:List aY):Option (Int×aJ):=
 (lF Bx.length (fun r:(List aY)=>r.length) (iZ Bx (fun y0 y1=>some (pv y0 y1)))).bind fun tI=>
 some ((0:Int),(⟨(⟨ab.Device.Key,ab.Device.Model,ab.Device.aO,ab.Device.an,tI⟩:cL),ab.aC,ab.State,ab.aV⟩:aJ))
def pw (ab:aJ) (ah:ai) (c7:Bool):Option (Int×aJ):=
 if c7=true then
  some ((12:Int),ab)
 else
  (dq ab.Device.bl).bind fun v8=>
  (fc v8 (fun y0=>some (rU y0 ah))).bind fun v10=>
  if ah.Value≠([]:ax) then
   (app v10 [(⟨ah.Name,ah.Value⟩:aY)]).bind fun xl=>
   lU ab xl
  else
   lU ab v10
def nE (ab:aJ) (ah:ai) (v2:Int) (c5:Bool):Option (Int×aJ):=
 if c5=true then
  some ((6:Int),ab)
 else
  pw ab ah ((decide (v2 < (0:Int)))&&(decide ((20:Int)≤(ab.Device.bl.length:Int))))
def pz (ab:aJ) (ah:ai) (v2:Int) (c6:Bool):Option (Int×aJ):=
 nE ab ah v2 c6
def nF (ab:aJ) (ah:ai) (v2:Int) (c3:Bool):Option (Int×aJ):=
 if c3=true then
  nE ab ah v2 c3
 else
  pz ab ah v2 ((decide (v2 < (0:Int)))&&(decide (ah.Value=([]:ax))))
def uE (ab:aJ) (ah:ai):Option (Int×aJ):=
 (ea ab.Device.bl (fun y0=>some (rS y0 ah))).bind fun v2=>
 if ab.Device.aO=([]:ax) then
  some ((11:Int),ab)
 else
  if (0:Int)≤v2 then
   (idx ab.Device.bl v2).bind fun v4=>
   nF ab ah v2 (decide (v4.Value=ah.Value))
  else
   nF ab ah v2 false
def lV (ab:List (ax×Int)) (l10:List aJ):Option (Int×(List (ax×Int))×(List aJ)):=
 some ((0:Int),ab,l10)
def lW (ab:List (ax×Int)) (Bx:List aJ):Option (Int×(List (ax×Int))×(List aJ)):=
 lV ab Bx
def lX (ab:List (ax×Int)) (Ia:List aJ):Option (Int×(List (ax×Int))×(List aJ)):=
 lW ab Ia
def lY (ab:List (ax×Int)) (zC:List aJ):Option (Int×(List (ax×Int))×(List aJ)):=
 lX ab zC
def lZ (ab:List (ax×Int)) (pJ:List aJ):Option (Int×(List (ax×Int))×(List aJ)):=
 lY ab pJ
def kh (ab:List (ax×Int)) (ah:ai) (n2:Int) (v9:aJ) (F0:List aJ) (n38:Int):Option (((List aJ)×Int)⊕(Int×(List (ax×Int))×(List aJ))):=
 if n38 < (v9.aV.length:Int) then
  (idx F0 n2).bind fun v39=>
  (idx v39.aV n38).bind fun v40=>
  some (.inl (F0.set n2.toNat (⟨v39.Device,v39.aC,v39.State,v39.aV.set n38.toNat (⟨v40.Key,v40.fE,min v40.To (max v40.fE ah.At)⟩:Term)⟩:aJ),aZ (n38+(1:Int))))
 else
  Option.map .inr (lZ ab F0)
def pB (ab:List (ax×Int)) (ah:ai) (n2:Int) (v9:aJ) (F0:List aJ) (n38:Int):Option (Int×(List (ax×Int))×(List aJ)):=
 iter (fun x:(List aJ)×Int=>kh ab ah n2 v9 x.1 x.2) (F0,n38)
def sK (ab:List (ax×Int)) (ah:ai) (aA:List aJ):Option (Int×(List (ax×Int))×(List aJ)):=
 uu (bI ab ah.Device) (
  if ah.Kind=(1:Int) then
   (tp ab ah aA).bind fun v3=>
   some (v3.1,v3.2.1,v3.2.2)
  else
   some ((8:Int),ab,aA)) (fun n2=>
  if ah.Kind=(1:Int) then
   (tp ab ah aA).bind fun v6=>
   some (v6.1,v6.2.1,v6.2.2)
  else
   (idx aA n2).bind fun v9=>
   if v9.State=(4:Int) then
    some ((11:Int),ab,aA)
   else
    if ah.Kind=(2:Int) then
     if v9.State≠(1:Int) then
      some ((11:Int),ab,aA)
     else
      lV ab (aA.set n2.toNat (⟨(⟨v9.Device.Key,v9.Device.Model,ah.aO,v9.Device.an,v9.Device.bl⟩:cL),v9.aC,(2:Int),v9.aV⟩:aJ))
    else
     if ah.Kind=(3:Int) then
      if v9.Device.aO=([]:ax) then
       some ((11:Int),ab,aA)
      else
       lW ab (aA.set n2.toNat (⟨(⟨v9.Device.Key,v9.Device.Model,([]:ax),v9.Device.an,[]⟩:cL),v9.aC,(1:Int),v9.aV⟩:aJ))
     else
      if ah.Kind=(4:Int) then
       (uD ab n2 ah aA).bind fun v17=>
       some (v17.1,ab,v17.2)
      else
       if ah.Kind=(5:Int) then
        if v9.Device.an=ah.an then
         some ((6:Int),ab,aA)
        else
         lX ab (aA.set n2.toNat (⟨(⟨v9.Device.Key,v9.Device.Model,v9.Device.aO,ah.an,v9.Device.bl⟩:cL),v9.aC,v9.State,v9.aV⟩:aJ))
       else
        if ah.Kind=(6:Int) then
         (uE v9 ah).bind fun v22=>
         some (v22.1,ab,aA.set n2.toNat v22.2)
        else
         if ah.Kind=(7:Int) then
          if v9.State≠(2:Int) then
           some ((11:Int),ab,aA)
          else
           lY ab (aA.set n2.toNat (⟨v9.Device,v9.aC,(3:Int),v9.aV⟩:aJ))
         else
          if ah.Kind=(8:Int) then
           if v9.State≠(3:Int) then
            some ((11:Int),ab,aA)
           else
            lZ ab (aA.set n2.toNat (⟨v9.Device,v9.aC,(2:Int),v9.aV⟩:aJ))
          else
           pB ab ah n2 v9 (aA.set n2.toNat (⟨v9.Device,v9.aC,(4:Int),v9.aV⟩:aJ)) (0:Int))
def mZ (n18:Int) (v22:Int×(List (ax×Int))×(List aJ)) (zC:List bO):Option (((List aJ)×(List (ax×Int))×(List bO)×Int)⊕(((List (ax×Int))×(List aJ))×(List bO))):=
 some (.inl (v22.2.2,v22.2.1,zC,aZ (n18+(1:Int))))
def iy (ab:List ai) (qz:List aJ) (za:List (ax×Int)) (F1:List bO) (n18:Int):Option (((List aJ)×(List (ax×Int))×(List bO)×Int)⊕(((List (ax×Int))×(List aJ))×(List bO))):=
 if n18 < (ab.length:Int) then
  (idx ab n18).bind fun v20=>
  (sK za v20 qz).bind fun v22=>
  if v22.1≠(0:Int) then
   (app F1 [(⟨n18,v22.1⟩:bO)]).bind fun Vx=>
   mZ n18 v22 Vx
  else
   mZ n18 v22 F1
 else
  Option.map .inr (some ((za,qz),F1))
def pb (ab:List ai) (qz:List aJ) (za:List (ax×Int)) (F1:List bO) (n18:Int):Option (((List (ax×Int))×(List aJ))×(List bO)):=
 iter (fun x:(List aJ)×(List (ax×Int))×(List bO)×Int=>iy ab x.1 x.2.1 x.2.2.1 x.2.2.2) (qz,za,F1,n18)
def qY (ab:List ai):Option (((List (ax×Int))×(List aJ))×(List bO)):=
 pb ab [] [] [] (0:Int)
def mM (c2:Bool):Bool:=
 c2
def mA (ab:Term) (ah:ax) (aA:Int):Bool:=
 mM ((decide (ab.Key=ah))&&((decide (ab.fE≤aA))&&(decide (aA < ab.To))))
def oZ (RU:Bool):Option (Bool×Bool):=
 some (RU,true)
def ly (ab:List ai) (ah:ax) (aA:ax) (bu:Int):Option (Bool×Bool):=
 (qY ab).bind fun v3=>
 uu (bI v3.1.1 ah) (
  some (false,false)) (fun n9=>
  (idx v3.1.2 n9).bind fun v10=>
  (bX v10.aV (fun y0=>some (mA y0 aA bu))).bind fun v11=>
  oZ (v11&&((decide (v10.State≠(3:Int)))&&(decide (v10.State≠(4:Int))))))
def yj (ab:Bool) (ah:Int):Int:=
 if ab=true then
  ah
 else
  (0:Int)
def qj (ab:aJ) (ah:aJ):Int:=
 (Lib.compareBytes ab.Device.Key ah.Device.Key)
def mB (Bz:ax×aJ) (qz:List aJ):Option ((List aJ)⊕(List aJ)):=
 (app qz [Bz.2]).bind fun za=>
 some (.inl za)
def mC (qz:List aJ):Option (List aJ):=
 (lF qz.length (fun r:(List aJ)=>r.length) (fO qz (fun y0 y1=>some (qj y0 y1)))).bind fun ow=>
 some ow
def xo (m7:List (ax×aJ)) (qz:List aJ):Option (List aJ):=
 tA m7 (fun p=>oH (fun e (x:(List aJ))=>mB e x) (fun x:(List aJ)=>mC x) p qz)
def qC (ab:List ai):Option (List aJ):=
 (qY ab).bind fun v1=>
 (Ey v1.1.2 v1.1.1).bind fun m7=>
 xo m7 []
def fP (ab:List aY) (ah:List aY) (n2:Int):Option (Int⊕Bool):=
 if n2 < (ab.length:Int) then
  (idx ab n2).bind fun v3=>
  (idx ah n2).bind fun v4=>
  if v3≠v4 then
   Option.map .inr (some false)
  else
   some (.inl (aZ (n2+(1:Int))))
 else
  Option.map .inr (some true)
def ru (ab:List aY) (ah:List aY) (n2:Int):Option Bool:=
 iter (fun x:Int=>fP ab ah x) n2
def fq (ab:List aY) (ah:List aY):Option Bool:=
 if (ab.length:Int)≠(ah.length:Int) then
  some false
 else
  ru ab ah (0:Int)
def fH (c3:Bool):Option Bool:=
 some c3
def qk (ab:cL) (ah:cL):Option Bool:=
 if ab.Key=ah.Key then
  if ab.Model=ah.Model then
   if ab.aO=ah.aO then
    if ab.an=ah.an then
     (fq ab.bl ah.bl).bind fun v4=>
     fH v4
    else
     fH false
   else
    fH false
  else
   fH false
 else
  fH false
def fQ (ab:List Term) (ah:List Term) (n2:Int):Option (Int⊕Bool):=
 if n2 < (ab.length:Int) then
  (idx ab n2).bind fun v3=>
  (idx ah n2).bind fun v4=>
  if v3≠v4 then
   Option.map .inr (some false)
  else
   some (.inl (aZ (n2+(1:Int))))
 else
  Option.map .inr (some true)
def ry (ab:List Term) (ah:List Term) (n2:Int):Option Bool:=
 iter (fun x:Int=>fQ ab ah x) n2
def ft (ab:List Term) (ah:List Term):Option Bool:=
 if (ab.length:Int)≠(ah.length:Int) then
  some false
 else
  ry ab ah (0:Int)
def jD (c3:Bool):Option Bool:=
 some c3
def gh (ab:aJ) (ah:aJ):Option Bool:=
 (qk ab.Device ah.Device).bind fun v4=>
 if v4=true then
  if ab.aC=ah.aC then
   if ab.State=ah.State then
    (ft ab.aV ah.aV).bind fun v5=>
    jD v5
   else
    jD false
  else
   jD false
 else
  jD false
def bb (ab:List aJ) (ah:List aJ) (o6:aJ→aJ→Option Bool) (n2:Int):Option (Int⊕Bool):=
 if n2 < (ab.length:Int) then
  (idx ab n2).bind fun v3=>
  (idx ah n2).bind fun v5=>
  (o6 v3 v5).bind fun v7=>
  if (!v7)=true then
   Option.map .inr (some false)
  else
   some (.inl (aZ (n2+(1:Int))))
 else
  Option.map .inr (some true)
def fU (ab:List aJ) (ah:List aJ) (o6:aJ→aJ→Option Bool) (n2:Int):Option Bool:=
 iter (fun x:Int=>bb ab ah o6 x) n2
def ch (ab:List aJ) (ah:List aJ) (o6:aJ→aJ→Option Bool):Option Bool:=
 if (ab.length:Int)≠(ah.length:Int) then
  some false
 else
  fU ab ah o6 (0:Int)
def rV (n3:Int):Option Int:=
 (idx ([48,49,50,51,52,53,54,55,56,57,65,66,67,68,69,70,71,72,73,74,75,76,77,78,79,80,81,82,83,84,85,86,87,88,89,90]:ax) (n3.tmod (36:Int))).bind fun c6=>
 some (c6.toNat:Int)
def cX (ab:ax) (n3:Int) (n4:Int):Option ((Int×Int)⊕Int):=
 if n4 < (ab.length:Int) then
  (idx ab n4).bind fun c5=>
  some (.inl (aZ (n3+(aZ ((aZ (n4+(2:Int))) * (qP ([48,49,50,51,52,53,54,55,56,57,65,66,67,68,69,70,71,72,73,74,75,76,77,78,79,80,81,82,83,84,85,86,87,88,89,90]:ax) (c5.toNat:Int))))),aZ (n4+(1:Int))))
 else
  Option.map .inr (rV n3)
def rW (ab:ax) (n3:Int) (n4:Int):Option Int:=
 iter (fun x:Int×Int=>cX ab x.1 x.2) (n3,n4)
def l0 (ab:ax):Option Int:=
 rW ab (0:Int) (0:Int)
def pc (ab:List Model) (ah:ax) (aA:Int):Option (ax×Int):=
 (fY ab).bind fun v1=>
 if v1≠(0:Int) then
  some (([]:ax),v1)
 else
  (kC ab ah).bind fun v2=>
  if v2 < (0:Int) then
   some (([]:ax),(8:Int))
  else
   if (eM aA (1:Int) (99999999:Int))=true then
    some (([]:ax),(1:Int))
   else
    (Ez aA).bind fun v3=>
    (zB ([48]:ax) (aZ ((8:Int) - (v3.length:Int)))).bind fun v4=>
    (xd v4 v3).bind fun q5=>
    (idx ab v2).bind fun v6=>
    (xd v6.Prefix ([45]:ax)).bind fun q7=>
    (xd q7 q5).bind fun q8=>
    (xd q8 ([45]:ax)).bind fun q9=>
    (xd v6.Prefix q5).bind fun Bh=>
    (l0 Bh).bind fun v11=>
    (xd q9 (Mb v11)).bind fun Bi=>
    some (Bi,(0:Int))
def ql (c2:Bool):Option Bool:=
 some c2
def nG:Option Bool:=
 (pc [(⟨([109]:ax),([65,66]:ax),[]⟩:Model)] ([109]:ax) (7:Int)).bind fun v1=>
 ql ((decide (v1.2=(0:Int)))&&(decide (v1.1=([65,66,45,48,48,48,48,48,48,48,55,45,77]:ax))))
def kG (ab:aJ) (ah:ax):Bool:=
 decide (ab.Device.Key=ah)
def eJ (ab:List aJ) (fX:aJ→Option Bool) (n2:Int):Option (Int⊕Int):=
 if n2 < (ab.length:Int) then
  (idx ab n2).bind fun v3=>
  (fX v3).bind fun v4=>
  if v4=true then
   Option.map .inr (some n2)
  else
   some (.inl (aZ (n2+(1:Int))))
 else
  Option.map .inr (some (-1:Int))
def pC (ab:List aJ) (fX:aJ→Option Bool) (n2:Int):Option Int:=
 iter (fun x:Int=>eJ ab fX x) n2
def fu (ab:List aJ) (fX:aJ→Option Bool):Option Int:=
 pC ab fX (0:Int)
def gi (RW:Bool):Option Bool:=
 some RW
def cx (RX:Bool):Option Bool:=
 some RX
def bT (v4:(List ai)×ak) (v6:ax×ak) (v12:aJ×Bool×Int) (tJ:Int) (RY:Bool):Option Bool:=
 if RY=true then
  some false
 else
  if tJ≠(0:Int) then
   if (!v12.2.1)=true then
    (gh v12.1 (⟨(⟨[],[],[],(⟨(0:Int),(0:Int),(0:Int)⟩:Version),[]⟩:cL),(0:Int),(0:Int),[]⟩:aJ)).bind fun v30=>
    if v30=true then
     (nG).bind fun v31=>
     gi v31
    else
     gi false
   else
    gi false
  else
   (qC v4.1).bind fun v32=>
   (fu v32 (fun y0=>some (kG y0 v6.1))).bind fun MI=>
   if (v12.2.1==(decide ((0:Int)≤MI)))=true then
    if MI < (0:Int) then
     (gh v12.1 (⟨(⟨[],[],[],(⟨(0:Int),(0:Int),(0:Int)⟩:Version),[]⟩:cL),(0:Int),(0:Int),[]⟩:aJ)).bind fun Bg=>
     if Bg=true then
      (nG).bind fun v40=>
      cx v40
     else
      if (0:Int)≤MI then
       (idx v32 MI).bind fun v37=>
       (gh v12.1 v37).bind fun aI=>
       if aI=true then
        (nG).bind fun v39=>
        cx v39
       else
        cx false
      else
       cx false
    else
     if (0:Int)≤MI then
      (idx v32 MI).bind fun v41=>
      (gh v12.1 v41).bind fun zD=>
      if zD=true then
       (nG).bind fun Qs=>
       cx Qs
      else
       cx false
     else
      cx false
   else
    cx false
def dt (v4:(List ai)×ak) (v6:ax×ak) (v10:(List aJ)×Int) (v12:aJ×Bool×Int) (ow:Bool×Int) (v17:Int) (tJ:Int) (n22:Int) (RZ:Bool):Option Bool:=
 if v10.2≠v17 then
  bT v4 v6 v12 tJ true
 else
  if v12.2.2≠tJ then
   bT v4 v6 v12 tJ true
  else
   if ow.2≠n22 then
    bT v4 v6 v12 tJ true
   else
    if (ow.1!=RZ)=true then
     bT v4 v6 v12 tJ true
    else
     if v17=(0:Int) then
      (qC v4.1).bind fun v26=>
      (ch v10.1 v26 (fun y0 y1=>gh y0 y1)).bind fun v28=>
      bT v4 v6 v12 tJ (!v28)
     else
      bT v4 v6 v12 tJ false
def lg (ab:List Int):Option Bool:=
 (nU (⟨ab,(0:Int)⟩:ak)).bind fun v2=>
 (kB v2.2 (0:Int) (14:Int)).bind fun v3=>
 (mU v3.2 v3.1).bind fun v4=>
 (bH v4.2 [([100,97]:ax),([100,97]:ax),([100,98]:ax),([100,100]:ax),([65]:ax)]).bind fun v6=>
 (bH v6.2 [([48,97]:ax),([49,97]:ax),([49,98]:ax),([71]:ax)]).bind fun v7=>
 (po v7.2).bind fun v8=>
 (mq v2.1 v4.1).bind fun v10=>
 (lr v2.1 v4.1 v6.1).bind fun v12=>
 (iE v2.1 v4.1 v6.1 v7.1 v8.1).bind fun ow=>
 (lv v2.1).bind fun pI=>
 (jC v2.1 v4.1).bind fun tI=>
 (gn [pI,tI]).bind fun v17=>
 (nz v6.1).bind fun DB=>
 (gn [v17,DB]).bind fun tJ=>
 (lx v7.1).bind fun v20=>
 (gn [tJ,v20,(dB v8.1)]).bind fun v21=>
 if v21=(0:Int) then
  (ly v4.1 v6.1 v7.1 v8.1).bind fun v24=>
  dt v4 v6 v10 v12 ow v17 tJ (yj (!v24.2) (8:Int)) v24.1
 else
  dt v4 v6 v10 v12 ow v17 tJ v21 false
end
end Go.Beacon
