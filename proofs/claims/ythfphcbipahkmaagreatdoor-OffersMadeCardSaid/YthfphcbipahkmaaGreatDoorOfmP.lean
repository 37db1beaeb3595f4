/- Plain functions that the Go functions compute, written by shal.py. -/
import Derived.Test.YthfphcbipahkmaaGreatDoorCore
open Option renaming map→ac
set_option linter.unusedVariables false
namespace Go.Beacon
open Go Go.Eng
noncomputable section
structure ah where
 L:List Int
 at_:Int
deriving DecidableEq,Inhabited
structure Version where
 aA:Int
 aC:Int
 aD:Int
deriving DecidableEq,Inhabited
def Version.av (x:Version):AV:=.agg [I x.aA,I x.aC,I x.aD]
instance:wJ Version:=⟨fun a b=>(wJ.lt a.aA b.aA||(decide (a.aA=b.aA)&&(wJ.lt a.aC b.aC||(decide (a.aC=b.aC)&&(wJ.lt a.aD b.aD||(decide (a.aD=b.aD)&&false))))))⟩
structure mH where
 Part:Int
 vg:Int
 Aj:Int
 et:Int
deriving DecidableEq,Inhabited
def mH.av (x:mH):AV:=.agg [I x.Part,I x.vg,I x.Aj,I x.et]
structure LI where
 bS:Int
 To:Int
deriving DecidableEq,Inhabited
structure Campaign where
 Key:bn
 Target:Version
 At:Int
 aR:List mH
 aZ:LI
 Room:Int
deriving DecidableEq,Inhabited
def Campaign.av (x:Campaign):AV:=.agg [.str x.Key,I x.Target.aA,I x.Target.aC,I x.Target.aD,I x.At,.list 4 (x.aR.map mH.av),I x.aZ.bS,I x.aZ.To,I x.Room]
structure Range where
 wC:Version
 mI:Version
deriving DecidableEq,Inhabited
def Range.av (x:Range):AV:=.agg [I x.wC.aA,I x.wC.aC,I x.wC.aD,I x.mI.aA,I x.mI.aC,I x.mI.aD]
structure an where
 Version:Version
 dc:List bn
 bS:List Range
 cM:Int
deriving DecidableEq,Inhabited
def an.av (x:an):AV:=.agg [I x.Version.aA,I x.Version.aC,I x.Version.aD,.list 1 (x.dc.map AV.str),.list 6 (x.bS.map Range.av),I x.cM]
structure N9 where
 Name:bn
 Value:bn
deriving DecidableEq,Inhabited
def N9.av (x:N9):AV:=.agg [.str x.Name,.str x.Value]
structure DeviceS where
 Key:bn
 Model:bn
 fb:bn
 bQ:Version
 o5:List N9
deriving DecidableEq,Inhabited
def DeviceS.av (x:DeviceS):AV:=.agg [.str x.Key,.str x.Model,.str x.fb,I x.bQ.aA,I x.bQ.aC,I x.bQ.aD,.list 2 (x.o5.map N9.av)]
structure MarkS where
 At:Int
 Device:bn
 Kind:Int
 Version:Version
deriving DecidableEq,Inhabited
def MarkS.av (x:MarkS):AV:=.agg [I x.At,.str x.Device,I x.Kind,I x.Version.aA,I x.Version.aC,I x.Version.aD]
structure ak where
 Kind:Int
 Since:Int
 Version:Version
 et:Int
deriving DecidableEq,Inhabited
def ak.av (x:ak):AV:=.agg [I x.Kind,I x.Since,I x.Version.aA,I x.Version.aC,I x.Version.aD,I x.et]
structure ao where
 ak:ak
 bb:Version
deriving DecidableEq,Inhabited
structure ax where
 c_:Campaign
 qd:List (bn×Int)
 dq:List (bn×Int)
 open_:List Int
 bD:List Int
 ba:List Int
 aV:List Int
 bh:Int
 cZ:Int
 mf:List ao
deriving DecidableEq,Inhabited
structure aq where
 bX:Int
 bM:Int
deriving DecidableEq,Inhabited
def aq.av (x:aq):AV:=.agg [I x.bX,I x.bM]
structure bF where
 pd:List an
 GN:Version
 jY:List (bn×(List (Version×aq)))
deriving DecidableEq,Inhabited
structure cd where
 Device:bn
 Version:Version
 cM:Int
deriving DecidableEq,Inhabited
def cd.av (x:cd):AV:=.agg [.str x.Device,I x.Version.aA,I x.Version.aC,I x.Version.aD,I x.cM]
structure aF where
 o6:List Version
 bM:Int
deriving DecidableEq,Inhabited
def aF.av (x:aF):AV:=.agg [.list 3 (x.o6.map Version.av),I x.bM]
def y9 (n2:Int):Option Int:=
 some n2
def Below (aa ai:Int):Option Int:=
 if ai < 1 then
  some 0
 else
  (rem aa ai).bind fun n1=>
  if n1 < 0 then
   y9 (bB (n1+ai))
  else
   y9 n1
def ez (aa:ah) (ai:Int):Option (Int×ah):=
 if (aa.L.length:Int)=0 then
  (Below (bB ((bB (aa.at_+1)) * 7919)) ai).bind fun v1=>
  some (v1,(⟨aa.L,bB (aa.at_+1)⟩:ah))
 else
  (rem (bB ((bB (aa.at_+1)) - 1)) (aa.L.length:Int)).bind fun n2=>
  (quo (bB ((bB (aa.at_+1)) - 1)) (aa.L.length:Int)).bind fun n3=>
  (idx aa.L n2).bind fun v4=>
  (Below v4 1073741824).bind fun v5=>
  (Below (bB (v5+(bB (n3 * (bB (7919+n2)))))) ai).bind fun v6=>
  some (v6,(⟨aa.L,bB (aa.at_+1)⟩:ah))
def iI (aa:ah) (ai:List bn):Option (bn×ah):=
 (ez aa (ai.length:Int)).bind fun v1=>
 (idx ai v1.1).bind fun v2=>
 some (v2,v1.2)
def cA (aa:ah) (ai:List Int):Option (Int×ah):=
 (ez aa (ai.length:Int)).bind fun v1=>
 (idx ai v1.1).bind fun v2=>
 some (v2,v1.2)
def whole (aa:Int):Version:=
 (⟨aa,0,0⟩:Version)
def dZ (aa:ah) (ai:Int):Option (Bool×ah):=
 (ez aa ai).bind fun v1=>
 some (decide (v1.1=0),v1.2)
def ib (v2:bn×ah) (v3 v4 v5:Int×ah) (vB:List mH) (wK:List Int) (n28 n29 n30:Int):Option (Campaign×ah):=
 some ((⟨v2.1,(whole v3.1),v4.1,vB,(⟨n29,n30⟩:LI),v5.1⟩:Campaign),(⟨wK,n28⟩:ah))
def nh (v2:bn×ah) (v3 v4 v5:Int×ah) (yF:List Int) (n15:Int) (vB:List mH):Option (Campaign×ah):=
 (dZ (⟨yF,n15⟩:ah) 3).bind fun v26=>
 if v26.1=true then
  (cA v26.2 [0,50,3600000]).bind fun v31=>
  (cA v31.2 [0,40,200,86400000]).bind fun v32=>
  ib v2 v3 v4 v5 vB v32.2.L v32.2.at_ v31.1 v32.1
 else
  ib v2 v3 v4 v5 vB v26.2.L v26.2.at_ 0 0
def ic (v2:bn×ah) (v3 v4 v5:Int×ah) (v8 yF:List Int) (n15:Int) (vB:List mH) (n18:Int):Option (((List Int)×Int×(List mH)×Int)⊕(Campaign×ah)):=
 if n18 < (v8.length:Int) then
  (idx v8 n18).bind fun v20=>
  (cA (⟨yF,n15⟩:ah) [0,0,10,30]).bind fun v21=>
  (cA v21.2 [1,1,2,3]).bind fun v22=>
  (cA v22.2 [0,300,500,1000]).bind fun v23=>
  (app vB [(⟨v20,v21.1,v22.1,v23.1⟩:mH)]).bind fun xy=>
  some (.inl (v23.2.L,v23.2.at_,xy,bB (n18+1)))
 else
  ac .inr (nh v2 v3 v4 v5 yF n15 vB)
def rB (v2:bn×ah) (v3 v4 v5:Int×ah) (v8 yF:List Int) (n15:Int) (vB:List mH) (n18:Int):Option (Campaign×ah):=
 iter (fun x:(List Int)×Int×(List mH)×Int=>ic v2 v3 v4 v5 v8 x.1 x.2.1 x.2.2.1 x.2.2.2) (yF,n15,vB,n18)
def jE (aa:ah):Option (Campaign×ah):=
 (iI aa [([99]:bn),([107]:bn),([122,57]:bn)]).bind fun v2=>
 (cA v2.2 [2,3,4]).bind fun v3=>
 (cA v3.2 [0,10,100]).bind fun v4=>
 (cA v4.2 [1,2,5]).bind fun v5=>
 (ez v5.2 4).bind fun v7=>
 (idx [[1000],[500,500],[200,300,500],[100,900]] v7.1).bind fun v8=>
 rB v2 v3 v4 v5 v8 v7.2.L v7.2.at_ [] 0
def jr (aa:ah) (ai aI:Int):Option (Int×ah):=
 if aI < ai then
  some (ai,aa)
 else
  (ez aa (bB ((bB (aI - ai))+1))).bind fun v1=>
  some (bB (ai+v1.1),v1.2)
def gA (aa:ah):Option (Version×ah):=
 (jr aa 1 4).bind fun v2=>
 (cA v2.2 [0,0,1,5,9999]).bind fun v3=>
 (cA v3.2 [0,0,0,3,9999]).bind fun v4=>
 some ((⟨v2.1,v3.1,v4.1⟩:Version),v4.2)
def fc (aa:ah) (ai aI:Int):Option (Int×ah):=
 (dZ aa 12).bind fun v1=>
 if v1.1=true then
  (cA v1.2 [bB (ai - 1),bB (aI+1),ai,aI,(-1099511627776:Int),1099511627776]).bind fun v2=>
  some (v2.1,v2.2)
 else
  (jr v1.2 ai aI).bind fun v3=>
  some (v3.1,v3.2)
def jO (v2:Version×ah) (l5:List Int) (n6 n7 n8:Int):Option (Version×ah):=
 some ((⟨v2.1.aA,n7,n8⟩:Version),(⟨l5,n6⟩:ah))
def fQ (aa:ah):Option (Version×ah):=
 (gA aa).bind fun v2=>
 (dZ v2.2 30).bind fun v4=>
 if v4.1=true then
  (fc v4.2 0 9999).bind fun v9=>
  (fc v9.2 0 9999).bind fun v10=>
  jO v2 v10.2.L v10.2.at_ v10.1 v9.1
 else
  jO v2 v4.2.L v4.2.at_ v2.1.aC v2.1.aD
def kZ (l6:List Int) (n7:Int) (q8:bn) (n9 n10 n11 n12:Int) (yF:List mH) (n15 n16 n17:Int):Option (Campaign×ah):=
 some ((⟨q8,(⟨n9,n10,n11⟩:Version),n12,yF,(⟨n15,n16⟩:LI),n17⟩:Campaign),(⟨l6,n7⟩:ah))
def lf (yo:List Int) (n20:Int) (W8:bn) (n22 n23 n24 n25:Int) (wK:List mH) (n28 n29 n30:Int):Option (Campaign×ah):=
 kZ yo n20 W8 n22 n23 n24 n25 wK n28 n29 n30
def lg (v2:Campaign×ah) (W9:List Int) (n33 n34 n35 n36 n37:Int) (V4:List mH) (n40 n41 n42:Int):Option (Campaign×ah):=
 lf W9 n33 v2.1.Key n34 n35 n36 n37 V4 n40 n41 n42
def lh (v2:Campaign×ah) (Xa:List Int) (n45 n46:Int) (FT:List mH) (n49 n50 n51:Int):Option (Campaign×ah):=
 lg v2 Xa n45 v2.1.Target.aA v2.1.Target.aC v2.1.Target.aD n46 FT n49 n50 n51
def lj (v2:Campaign×ah) (LJ:List Int) (Xb:Int) (Qu:List mH) (n57 O1 n59:Int):Option (Campaign×ah):=
 lh v2 LJ Xb v2.1.At Qu n57 O1 n59
def ll (v2:Campaign×ah) (Oa:List Int) (Cj n68 n69 Oc:Int):Option (Campaign×ah):=
 lj v2 Oa Cj v2.1.aR n68 n69 Oc
def ox (aa:ah):Option (Campaign×ah):=
 (jE aa).bind fun v2=>
 (dZ v2.2 12).bind fun v5=>
 if v5.1=true then
  (ez v5.2 6).bind fun fg=>
  if fg.1=0 then
   (iI fg.2 [([]:bn),([65]:bn)]).bind fun v31=>
   lf v31.2.L v31.2.at_ v31.1 v2.1.Target.aA v2.1.Target.aC v2.1.Target.aD v2.1.At v2.1.aR v2.1.aZ.bS v2.1.aZ.To v2.1.Room
  else
   if fg.1=1 then
    (fQ fg.2).bind fun FF=>
    lg v2 FF.2.L FF.2.at_ FF.1.aA FF.1.aC FF.1.aD v2.1.At v2.1.aR v2.1.aZ.bS v2.1.aZ.To v2.1.Room
   else
    if fg.1=2 then
     (fc fg.2 0 100).bind fun V5=>
     lh v2 V5.2.L V5.2.at_ V5.1 v2.1.aR v2.1.aZ.bS v2.1.aZ.To v2.1.Room
    else
     if fg.1=3 then
      (fc fg.2 1 1000).bind fun v60=>
      (fc v60.2 0 10).bind fun Qv=>
      (fc Qv.2 1 500).bind fun Qw=>
      (fc Qw.2 0 1000).bind fun MM=>
      (app v2.1.aR [(⟨v60.1,Qv.1,Qw.1,MM.1⟩:mH)]).bind fun l64=>
      lj v2 MM.2.L MM.2.at_ l64 v2.1.aZ.bS v2.1.aZ.To v2.1.Room
     else
      if fg.1=4 then
       (fc fg.2 0 86400000).bind fun V6=>
       (fc V6.2 0 86400000).bind fun v72=>
       ll v2 v72.2.L v72.2.at_ V6.1 v72.1 v2.1.Room
      else
       (fc fg.2 1 500).bind fun LK=>
       ll v2 LK.2.L LK.2.at_ v2.1.aZ.bS v2.1.aZ.To LK.1
 else
  kZ v5.2.L v5.2.at_ v2.1.Key v2.1.Target.aA v2.1.Target.aC v2.1.Target.aD v2.1.At v2.1.aR v2.1.aZ.bS v2.1.aZ.To v2.1.Room
def cmp_isNaN_int (aa:Int):Bool:=
 decide (aa≠aa)
def cmp_Compare_int (aa ai:Int):Int:=
 if (cmp_isNaN_int aa)=true then
  if (cmp_isNaN_int ai)=true then
   0
  else
   (-1:Int)
 else
  if (cmp_isNaN_int ai)=true then
   1
  else
   if aa < ai then
    (-1:Int)
   else
    if ai < aa then
     1
    else
     0
def iP (aa ai:List Int):Option Int:=
 if (aa.length:Int) < (ai.length:Int) then
  some (-1:Int)
 else
  some 0
def bA (aa ai:List Int) (n2:Int):Option (Int⊕Int):=
 if n2 < (aa.length:Int) then
  (idx aa n2).bind fun v3=>
  if (ai.length:Int)≤n2 then
   ac .inr (some 1)
  else
   (idx ai n2).bind fun v4=>
   if (cmp_Compare_int v3 v4)≠0 then
    ac .inr (some (cmp_Compare_int v3 v4))
   else
    some (.inl (bB (n2+1)))
 else
  ac .inr (iP aa ai)
def gi (aa ai:List Int) (n2:Int):Option Int:=
 iter (fun x:Int=>bA aa ai x) n2
def eF (aa ai:List Int):Option Int:=
 gi aa ai 0
def ef (aa ai:Version):Option Int:=
 (eF [aa.aA,aa.aC,aa.aD] [ai.aA,ai.aC,ai.aD]).bind fun v3=>
 some v3
def fe (n21:Int) (vT:List Int) (n23:Int) (r7:List an):Option (((List Int)×Int×(List an)×Int)⊕(((List Int)×Int×(List an)×Int)⊕((List an)×ah))):=
 some (.inl (vT,n23,r7,bB (n21+1)))
def gI (n10:Int) (jy:List an) (n21 v26:Int) (qj:List bn) (v30:Int×ah) (sC:List Int) (n36:Int) (LJ:List Range):Option (((List Int)×Int×(List an)×Int)⊕(((List Int)×Int×(List an)×Int)⊕((List an)×ah))):=
 (app jy [(⟨(⟨n10,v26,0⟩:Version),qj,LJ,v30.1⟩:an)]).bind fun Qu=>
 fe n21 sC n36 Qu
def gJ (n10:Int) (jy:List an) (n21 v26:Int) (qj:List bn) (v30:Int×ah) (sC:List Int) (n36:Int) (KQ:List Range) (n41 n42 n43 n44 n45:Int) (c49:Bool):Option (((List Int)×Int×(List an)×Int)⊕(((List Int)×Int×(List an)×Int)⊕((List an)×ah))):=
 if c49=true then
  (app KQ [(⟨(⟨n41,n42,n43⟩:Version),(⟨n44,n45,9999⟩:Version)⟩:Range)]).bind fun ID=>
  gI n10 jy n21 v26 qj v30 sC n36 ID
 else
  gI n10 jy n21 v26 qj v30 sC n36 KQ
def gK (n10:Int) (jy:List an) (n21 v26:Int) (qj:List bn) (v30:Int×ah) (sC:List Int) (n36:Int) (KQ:List Range) (n41 n42 n43 n44 n45:Int):Option (((List Int)×Int×(List an)×Int)⊕(((List Int)×Int×(List an)×Int)⊕((List an)×ah))):=
 if (KQ.length:Int)=0 then
  gJ n10 jy n21 v26 qj v30 sC n36 KQ n41 n42 n43 n44 n45 true
 else
  (idx KQ 0).bind fun v50=>
  (ef v50.mI (⟨n41,n42,n43⟩:Version)).bind fun v51=>
  gJ n10 jy n21 v26 qj v30 sC n36 KQ n41 n42 n43 n44 n45 (decide (v51 < 0))
def iZ (n10:Int) (jy:List an) (n21 v26:Int) (qj:List bn) (v30 v32 v33:Int×ah) (sC:List Int) (n36:Int) (c37:Bool):Option (((List Int)×Int×(List an)×Int)⊕(((List Int)×Int×(List an)×Int)⊕((List an)×ah))):=
 if c37=true then
  (app ([]:List Range) [(⟨(whole v32.1),(whole v32.1)⟩:Range)]).bind fun KR=>
  gK n10 jy n21 v26 qj v30 sC n36 KR ((whole n10).aA) ((whole n10).aC) ((whole n10).aD) n10 4
 else
  gK n10 jy n21 v26 qj v30 sC n36 [] ((whole v32.1).aA) ((whole v32.1).aC) ((whole v32.1).aD) (bB (n10 - 1)) v33.1
def ja (n10:Int) (vB:List Int) (n18:Int) (jy:List an) (n21:Int):Option (((List Int)×Int×(List an)×Int)⊕(((List Int)×Int×(List an)×Int)⊕((List an)×ah))):=
 if n21 < ([0,5].length:Int) then
  (idx [0,5] n21).bind fun v26=>
  (dZ (⟨vB,n18⟩:ah) 2).bind fun mz=>
  if mz.1=true then
   fe n21 mz.2.L mz.2.at_ jy
  else
   (ez mz.2 4).bind fun v28=>
   (idx [[([109]:bn)],[([109]:bn)],[([109]:bn),([110]:bn)],[([110]:bn)]] v28.1).bind fun qj=>
   (cA v28.2 [1,5,5,10]).bind fun v30=>
   (jr v30.2 1 (bB (n10 - 1))).bind fun v32=>
   (cA v32.2 [0,5,9999]).bind fun v33=>
   (dZ v33.2 4).bind fun B9=>
   iZ n10 jy n21 v26 qj v30 v32 v33 B9.2.L B9.2.at_ (B9.1&&(decide (v26=5)))
 else
  ac .inr (some (.inl (vB,n18,jy,bB (n10+1))))
def o7 (n10:Int) (vB:List Int) (n18:Int) (jy:List an) (n21:Int):Option (((List Int)×Int×(List an)×Int)⊕((List an)×ah)):=
 iter (fun x:(List Int)×Int×(List an)×Int=>ja n10 x.1 x.2.1 x.2.2.1 x.2.2.2) (vB,n18,jy,n21)
def jb (l6:List Int) (n7:Int) (l9:List an) (n10:Int):Option (((List Int)×Int×(List an)×Int)⊕((List an)×ah)):=
 if n10≤5 then
  o7 n10 l6 n7 l9 0
 else
  ac .inr (some (l9,(⟨l6,n7⟩:ah)))
def sO (l6:List Int) (n7:Int) (l9:List an) (n10:Int):Option ((List an)×ah):=
 iter (fun x:(List Int)×Int×(List an)×Int=>jb x.1 x.2.1 x.2.2.1 x.2.2.2) (l6,n7,l9,n10)
def ln (aa:ah):Option ((List an)×ah):=
 sO aa.L aa.at_ [] 2
def gL (aa:List Range):Option (List Range):=
 app [] aa
def nj (l7:List Int) (n8:Int) (l9:List an):Option ((List an)×ah):=
 some (l9,(⟨l7,n8⟩:ah))
def kM (kT:List Int) (n14:Int) (yp:List an):Option ((List an)×ah):=
 nj kT n14 yp
def kN (vB:List Int) (n18:Int) (yo:List an):Option ((List an)×ah):=
 kM vB n18 yo
def kO (vT:List Int) (n23:Int) (xy:List an):Option ((List an)×ah):=
 kN vT n23 xy
def nk (KS:List Int) (n32:Int) (MN:List an):Option ((List an)×ah):=
 kO KS n32 MN
def nn (v1:(List an)×ah) (l3:List Int) (n4:Int) (c5:Bool):Option ((List an)×ah):=
 if c5=true then
  (ez (⟨l3,n4⟩:ah) (v1.1.length:Int)).bind fun v10=>
  (idx v1.1 v10.1).bind fun v11=>
  (ez v10.2 5).bind fun v12=>
  if v12.1=0 then
   (fQ v12.2).bind fun sW=>
   kM sW.2.L sW.2.at_ (v1.1.set v10.1.toNat (⟨sW.1,v11.dc,v11.bS,v11.cM⟩:an))
  else
   if v12.1=1 then
    (ez v12.2 4).bind fun v20=>
    (idx [[],[([110]:bn),([109]:bn)],[([]:bn)],[([109]:bn),([109]:bn)]] v20.1).bind fun v21=>
    kN v20.2.L v20.2.at_ (v1.1.set v10.1.toNat (⟨v11.Version,v21,v11.bS,v11.cM⟩:an))
   else
    if v12.1=2 then
     (gL v11.bS).bind fun v25=>
     (fQ v12.2).bind fun mz=>
     (fQ mz.2).bind fun v28=>
     (app v25 [(⟨mz.1,v28.1⟩:Range)]).bind fun UR=>
     kO v28.2.L v28.2.at_ (v1.1.set v10.1.toNat (⟨v11.Version,v11.dc,UR,v11.cM⟩:an))
    else
     if v12.1=3 then
      nk v12.2.L v12.2.at_ (v1.1.set v10.1.toNat (⟨v11.Version,v11.dc,[(⟨v11.Version,v11.Version⟩:Range)],v11.cM⟩:an))
     else
      (fc v12.2 1 100).bind fun Ck=>
      nk Ck.2.L Ck.2.at_ (v1.1.set v10.1.toNat (⟨v11.Version,v11.dc,v11.bS,Ck.1⟩:an))
 else
  nj l3 n4 v1.1
def qq (aa:ah):Option ((List an)×ah):=
 (ln aa).bind fun v1=>
 if 0 < (v1.1.length:Int) then
  (dZ v1.2 10).bind fun v6=>
  nn v1 v6.2.L v6.2.at_ v6.1
 else
  nn v1 v1.2.L v1.2.at_ false
def jF (n11:Int) (yp:List Int) (n16:Int) (Xc:List DeviceS):Option (((List Int)×Int×(List DeviceS)×Int)⊕((List DeviceS)×ah)):=
 some (.inl (yp,n16,Xc,bB (n11+1)))
def jG (l1:List bn) (l7:List Int) (n8:Int) (l10:List DeviceS) (n11:Int):Option (((List Int)×Int×(List DeviceS)×Int)⊕((List DeviceS)×ah)):=
 if n11 < (l1.length:Int) then
  (idx l1 n11).bind fun gy=>
  (dZ (⟨l7,n8⟩:ah) 5).bind fun qe=>
  if (!qe.1)=true then
   (iI qe.2 [([109]:bn),([109]:bn),([109]:bn),([110]:bn)]).bind fun np=>
   (cA np.2 [1,1,1,2,3]).bind fun v20=>
   (cA v20.2 [0,0,5]).bind fun v21=>
   (app l10 [(⟨gy,np.1,([116]:bn),(⟨v20.1,v21.1,0⟩:Version),[]⟩:DeviceS)]).bind fun vT=>
   jF n11 v21.2.L v21.2.at_ vT
  else
   jF n11 qe.2.L qe.2.at_ l10
 else
  ac .inr (some (l10,(⟨l7,n8⟩:ah)))
def tY (l1:List bn) (l7:List Int) (n8:Int) (l10:List DeviceS) (n11:Int):Option ((List DeviceS)×ah):=
 iter (fun x:(List Int)×Int×(List DeviceS)×Int=>jG l1 x.1 x.2.1 x.2.2.1 x.2.2.2) (l7,n8,l10,n11)
def mg (aa:ah) (ai:Int):Option ((List DeviceS)×ah):=
 (A5 [([100,49]:bn),([100,50]:bn),([100,51]:bn),([100,52]:bn),([100,53]:bn),([100,54]:bn)] 0 ai).bind fun l1=>
 tY l1 aa.L aa.at_ [] 0
def oy (l7:List Int) (n8:Int) (l9:List DeviceS):Option ((List DeviceS)×ah):=
 some (l9,(⟨l7,n8⟩:ah))
def oz (v1:(List DeviceS)×ah) (l3:List Int) (n4:Int) (c5:Bool):Option ((List DeviceS)×ah):=
 if c5=true then
  (ez (⟨l3,n4⟩:ah) (v1.1.length:Int)).bind fun v10=>
  (idx v1.1 v10.1).bind fun v11=>
  (iI v10.2 [v11.Key,([]:bn),([100,49]:bn)]).bind fun v12=>
  (iI v12.2 [([109]:bn),([]:bn)]).bind fun gy=>
  (fQ gy.2).bind fun qe=>
  oy qe.2.L qe.2.at_ (((v1.1.set v10.1.toNat (⟨v12.1,v11.Model,v11.fb,v11.bQ,v11.o5⟩:DeviceS)).set v10.1.toNat (⟨v12.1,gy.1,v11.fb,v11.bQ,v11.o5⟩:DeviceS)).set v10.1.toNat (⟨v12.1,gy.1,v11.fb,qe.1,v11.o5⟩:DeviceS))
 else
  oy l3 n4 v1.1
def r8 (aa:ah) (ai:Int):Option ((List DeviceS)×ah):=
 (mg aa ai).bind fun v1=>
 if 0 < (v1.1.length:Int) then
  (dZ v1.2 15).bind fun v6=>
  oz v1 v6.2.L v6.2.at_ v6.1
 else
  oz v1 v1.2.L v1.2.at_ false
def EO (aa:Int):Int:=
 if aa < 0 then
  (-1:Int)
 else
  if 0 < aa then
   1
  else
   0
def ie (aa ai:MarkS):Int:=
 if aa.At≠ai.At then
  (EO (bB (aa.At - ai.At)))
 else
  (Lib.compareBytes aa.Device ai.Device)
def eu (n4:Int) (l7:List MarkS) (n8:Int) (c9:Bool):Option (((List MarkS)×Int)⊕(((List MarkS)×Int)⊕(List MarkS))):=
 if c9=true then
  (idx l7 (bB (n8 - 1))).bind fun gy=>
  (idx l7 n8).bind fun qe=>
  (idx l7 n8).bind fun kU=>
  (idx (l7.set n8.toNat gy) (bB (n8 - 1))).bind fun sW=>
  some (.inl ((l7.set n8.toNat gy).set (bB (n8 - 1)).toNat qe,bB (n8 - 1)))
 else
  ac .inr (some (.inl (l7,bB (n4+1))))
def ew (ai:Int) (lS:MarkS→MarkS→Option Int) (n4:Int) (l7:List MarkS) (n8:Int):Option (((List MarkS)×Int)⊕(((List MarkS)×Int)⊕(List MarkS))):=
 if ai < n8 then
  (idx l7 n8).bind fun v10=>
  (idx l7 (bB (n8 - 1))).bind fun v11=>
  (lS v10 v11).bind fun v12=>
  eu n4 l7 n8 (decide (v12 < 0))
 else
  eu n4 l7 n8 false
def qs (ai:Int) (lS:MarkS→MarkS→Option Int) (n4:Int) (l7:List MarkS) (n8:Int):Option (((List MarkS)×Int)⊕(List MarkS)):=
 iter (fun x:(List MarkS)×Int=>ew ai lS n4 x.1 x.2) (l7,n8)
def dx (ai aI:Int) (lS:MarkS→MarkS→Option Int) (l3:List MarkS) (n4:Int):Option (((List MarkS)×Int)⊕(List MarkS)):=
 if n4 < aI then
  qs ai lS n4 l3 n4
 else
  ac .inr (some l3)
def kG (ai aI:Int) (lS:MarkS→MarkS→Option Int) (l3:List MarkS) (n4:Int):Option (List MarkS):=
 iter (fun x:(List MarkS)×Int=>dx ai aI lS x.1 x.2) (l3,n4)
def cG (aa:List MarkS) (ai aI:Int) (lS:MarkS→MarkS→Option Int):Option (List MarkS):=
 kG ai aI lS aa (bB (ai+1))
def oA (ai n10:Int):Option (Int⊕(List MarkS)):=
 if (bB (0+n10)) < ai then
  none
 else
  some (.inl (bB (n10 * 2)))
def gS (ai n10:Int):Option (Unit⊕(Int⊕(List MarkS))):=
 if (bB (2 * n10))≤ai then
  none
 else
  ac .inr (oA ai n10)
def uq (ai n10:Int):Option (Int⊕(List MarkS)):=
 iter (fun x:Unit=>gS ai n10) ()
def dI (ai:Int) (v8:(List MarkS)) (n10:Int):Option (Int⊕(List MarkS)):=
 if n10 < ai then
  uq ai n10
 else
  ac .inr (some v8)
def jZ (ai:Int) (v8:(List MarkS)) (n10:Int):Option (List MarkS):=
 iter (fun x:Int=>dI ai v8 x) n10
def gU (ai:Int) (yb:MarkS→MarkS→Option Int) (l4:List MarkS) (n5:Int):Option (List MarkS):=
 (pb l4.length (fun r:(List MarkS)=>r.length) (cG l4 n5 ai yb)).bind fun v8=>
 jZ ai v8 20
def dh (ai:Int) (yb:MarkS→MarkS→Option Int) (l4:List MarkS) (n5 n6:Int):Option (((List MarkS)×Int×Int)⊕(List MarkS)):=
 if n6≤ai then
  (pb l4.length (fun r:(List MarkS)=>r.length) (cG l4 n5 n6 yb)).bind fun v7=>
  some (.inl (v7,n6,bB (n6+20)))
 else
  ac .inr (gU ai yb l4 n5)
def oB (ai:Int) (yb:MarkS→MarkS→Option Int) (l4:List MarkS) (n5 n6:Int):Option (List MarkS):=
 iter (fun x:(List MarkS)×Int×Int=>dh ai yb x.1 x.2.1 x.2.2) (l4,n5,n6)
def gj (aa:List MarkS) (ai:Int) (yb:MarkS→MarkS→Option Int):Option (List MarkS):=
 oB ai yb aa 0 20
def dW (aa:List MarkS) (eC:MarkS→MarkS→Option Int):Option (List MarkS):=
 (pb aa.length (fun r:(List MarkS)=>r.length) (gj aa (aa.length:Int) eC)).bind fun v1=>
 some v1
def oC (aa ai:MarkS):Bool:=
 decide ((ie aa ai)=0)
def fK (n12:Int) (za:List MarkS) (n17:Int):Option (((List MarkS)×Int×Int)⊕(Int⊕(List MarkS))):=
 some (.inl (za,n17,bB (n12+1)))
def mY (l10:List MarkS) (n11:Int):Option (Int⊕(List MarkS)):=
 (A5 l10 n11 (l10.length:Int)).bind fun jy=>
 (A5 (DM l10 n11 jy.length (⟨0,[],0,(⟨0,0,0⟩:Version)⟩:MarkS)) 0 n11).bind fun xz=>
 ac .inr (some xz)
def fL (eC:MarkS→MarkS→Option Bool) (n2:Int) (l6 l10:List MarkS) (n11 n12:Int):Option (((List MarkS)×Int×Int)⊕(Int⊕(List MarkS))):=
 if n12 < (l6.length:Int) then
  (Cf l10 n2 l6.length n12).bind fun gy=>
  (Cf l10 n2 l6.length (bB (n12 - 1))).bind fun qe=>
  (eC gy qe).bind fun kU=>
  if (!kU)=true then
   (Cf l10 n2 l6.length n12).bind fun fg=>
   (idx l10 n11).bind fun np=>
   fK n12 (l10.set n11.toNat fg) (bB (n11+1))
  else
   fK n12 l10 n11
 else
  ac .inr (mY l10 n11)
def sG (eC:MarkS→MarkS→Option Bool) (n2:Int) (l6 l10:List MarkS) (n11 n12:Int):Option (Int⊕(List MarkS)):=
 iter (fun x:(List MarkS)×Int×Int=>fL eC n2 l6 x.1 x.2.1 x.2.2) (l10,n11,n12)
def fM (aa:List MarkS) (eC:MarkS→MarkS→Option Bool) (n2:Int):Option (Int⊕(List MarkS)):=
 if n2 < (aa.length:Int) then
  (idx aa n2).bind fun v3=>
  (idx aa (bB (n2 - 1))).bind fun v4=>
  (eC v3 v4).bind fun v5=>
  if v5=true then
   (A5 aa n2 (aa.length:Int)).bind fun l6=>
   sG eC n2 l6 aa n2 1
  else
   some (.inl (bB (n2+1)))
 else
  ac .inr (some aa)
def sH (aa:List MarkS) (eC:MarkS→MarkS→Option Bool) (n2:Int):Option (List MarkS):=
 iter (fun x:Int=>fM aa eC x) n2
def gV (aa:List MarkS) (eC:MarkS→MarkS→Option Bool):Option (List MarkS):=
 if (aa.length:Int) < 2 then
  some aa
 else
  sH aa eC 1
def oD (n50 US:Int) (Yu:bn) (Yv Yw n57 O1:Int):Option ((Int×bn×Int×Int×Int×Int×Int)⊕(((List Int)×Int×(List MarkS)×Int×Int)⊕((List MarkS)×ah))):=
 some (.inl (US,Yu,Yv,Yw,n57,O1,bB (n50+1)))
def lT (js:List MarkS) (n12 n13:Int) (kU:Int×ah) (n33 n34 n35:Int) (Yx:List Int) (Yy Xd:Int) (Xe:bn) (Xf:Int):Option (((List Int)×Int×(List MarkS)×Int×Int)⊕((List MarkS)×ah)):=
 (app js [(⟨Xd,Xe,Xf,(⟨n33,n34,n35⟩:Version)⟩:MarkS)]).bind fun l82=>
 some (.inl (Yx,Yy,l82,bB (n12+kU.1),bB (n13+1)))
def lU (js:List MarkS) (n12 n13:Int) (kU:Int×ah) (vC:bn) (HQ:List Int) (n31 n32 n33 n34 n35:Int):Option (((List Int)×Int×(List MarkS)×Int×Int)⊕((List MarkS)×ah)):=
 (dZ (⟨HQ,n31⟩:ah) 80).bind fun LK=>
 if LK.1=true then
  (fc LK.2 0 50).bind fun v79=>
  (iI v79.2 [([100,49]:bn),([]:bn)]).bind fun v80=>
  (fc v80.2 1 5).bind fun V7=>
  lT js n12 n13 kU n33 n34 n35 V7.2.L V7.2.at_ v79.1 v80.1 V7.1
 else
  lT js n12 n13 kU n33 n34 n35 LK.2.L LK.2.at_ (bB (n12+kU.1)) vC n32
def oE (js:List MarkS) (n12 n13:Int) (kU:Int×ah) (vC:bn) (Dt:List Int) (n60 n61 n62 Xg Xh:Int):Option (((List Int)×Int×(List MarkS)×Int×Int)⊕((List MarkS)×ah)):=
 lU js n12 n13 kU vC Dt n60 n61 n62 Xg Xh
def oF (js:List MarkS) (n12 n13:Int) (kU:Int×ah) (vC:bn) (Oa:List Int) (Cj n68 n69 Oc Xi:Int):Option (((List Int)×Int×(List MarkS)×Int×Int)⊕((List MarkS)×ah)):=
 oE js n12 n13 kU vC Oa Cj n68 n69 Oc Xi
def ur (js:List MarkS) (n12 n13:Int) (kU fg:Int×ah) (vC:bn) (qj:Bool×ah) (n46 n47 n48 n49:Int):Option (((List Int)×Int×(List MarkS)×Int×Int)⊕((List MarkS)×ah)):=
 if n46=1 then
  (cA qj.2 [2,2,2,5]).bind fun JM=>
  oE js n12 n13 kU vC JM.2.L JM.2.at_ JM.1 n47 n48 n49
 else
  if n46=2 then
   (cA qj.2 [3,3,4]).bind fun v72=>
   oF js n12 n13 kU vC v72.2.L v72.2.at_ v72.1 n47 n48 n49
  else
   oF js n12 n13 kU vC qj.2.L qj.2.at_ 1 ((whole fg.1).aA) ((whole fg.1).aC) ((whole fg.1).aD)
def oG (js:List MarkS) (n12 n13:Int) (kU fg:Int×ah) (vC:bn) (qj:Bool×ah) (n44:Int) (UT:bn) (n46 n47 n48 n49 n50:Int):Option ((Int×bn×Int×Int×Int×Int×Int)⊕(((List Int)×Int×(List MarkS)×Int×Int)⊕((List MarkS)×ah))):=
 if n50 < (js.length:Int) then
  (idx js n50).bind fun v51=>
  if v51.Device=vC then
   oD n50 v51.At v51.Device v51.Kind v51.Version.aA v51.Version.aC v51.Version.aD
  else
   oD n50 n44 UT n46 n47 n48 n49
 else
  ac .inr (ur js n12 n13 kU fg vC qj n46 n47 n48 n49)
def yc (js:List MarkS) (n12 n13:Int) (kU fg:Int×ah) (vC:bn) (qj:Bool×ah) (n44:Int) (UT:bn) (n46 n47 n48 n49 n50:Int):Option (((List Int)×Int×(List MarkS)×Int×Int)⊕((List MarkS)×ah)):=
 iter (fun x:Int×bn×Int×Int×Int×Int×Int=>oG js n12 n13 kU fg vC qj x.1 x.2.1 x.2.2.1 x.2.2.2.1 x.2.2.2.2.1 x.2.2.2.2.2.1 x.2.2.2.2.2.2) (n44,UT,n46,n47,n48,n49,n50)
def lV (js:List MarkS) (n12 n13:Int) (kU v17 fg:Int×ah) (xy:List Int) (n25:Int) (vC:bn):Option (((List Int)×Int×(List MarkS)×Int×Int)⊕((List MarkS)×ah)):=
 (dZ (⟨xy,n25⟩:ah) 5).bind fun qj=>
 if (!qj.1)=true then
  yc js n12 n13 kU fg vC qj 0 [] 0 0 0 0 0
 else
  lU js n12 n13 kU vC qj.2.L qj.2.at_ v17.1 ((whole fg.1).aA) ((whole fg.1).aC) ((whole fg.1).aD)
def oH (aI:List DeviceS) (js:List MarkS) (n12 n13:Int) (kU:Int×ah) (sW:bn×ah) (v17 fg:Int×ah) (jy:List Int) (n21:Int) (Yz:Bool):Option (((List Int)×Int×(List MarkS)×Int×Int)⊕((List MarkS)×ah)):=
 if Yz=true then
  (ez (⟨jy,n21⟩:ah) (aI.length:Int)).bind fun mz=>
  (idx aI mz.1).bind fun v28=>
  lV js n12 n13 kU v17 fg mz.2.L mz.2.at_ v28.Key
 else
  lV js n12 n13 kU v17 fg jy n21 sW.1
def uu (l8:List Int) (n9:Int) (js:List MarkS):Option ((List MarkS)×ah):=
 (pb js.length (fun r:(List MarkS)=>r.length) (dW js (fun y0 y1=>some (ie y0 y1)))).bind fun YA=>
 (dZ (⟨l8,n9⟩:ah) 60).bind fun v85=>
 if v85.1=true then
  some (YA,v85.2)
 else
  (gV YA (fun y0 y1=>some (oC y0 y1))).bind fun v86=>
  some (v86,v85.2)
def oI (aI:List DeviceS) (bw:Int) (l8:List Int) (n9:Int) (js:List MarkS) (n12 n13:Int):Option (((List Int)×Int×(List MarkS)×Int×Int)⊕((List MarkS)×ah)):=
 if n13 < bw then
  (cA (⟨l8,n9⟩:ah) [0,1,5,10,10]).bind fun kU=>
  (iI kU.2 [([100,49]:bn),([100,50]:bn),([100,51]:bn),([100,52]:bn),([100,53]:bn)]).bind fun sW=>
  (jr sW.2 1 5).bind fun v17=>
  (cA v17.2 [2,2,3,4]).bind fun fg=>
  if 0 < (aI.length:Int) then
   (dZ fg.2 12).bind fun v23=>
   oH aI js n12 n13 kU sW v17 fg v23.2.L v23.2.at_ (!v23.1)
  else
   oH aI js n12 n13 kU sW v17 fg fg.2.L fg.2.at_ false
 else
  ac .inr (uu l8 n9 js)
def yd (aI:List DeviceS) (bw:Int) (l8:List Int) (n9:Int) (js:List MarkS) (n12 n13:Int):Option ((List MarkS)×ah):=
 iter (fun x:(List Int)×Int×(List MarkS)×Int×Int=>oI aI bw x.1 x.2.1 x.2.2.1 x.2.2.2.1 x.2.2.2.2) (l8,n9,js,n12,n13)
def r9 (aa:ah) (ai:Campaign) (aI:List DeviceS) (bw:Int):Option ((List MarkS)×ah):=
 yd aI bw aa.L aa.at_ [] ai.At 0
def vU (n5:Int) (c7:Bool):Option (Int⊕Bool):=
 if c7=true then
  ac .inr (some false)
 else
  some (.inl (bB (n5+1)))
def pt (aa:bn) (n5:Int):Option (Int⊕Bool):=
 if n5 < (aa.length:Int) then
  (idx aa n5).bind fun c6=>
  vU n5 (if 97≤(c6.toNat:Int) then if (c6.toNat:Int)≤122 then !true else if 48≤(c6.toNat:Int) then if (c6.toNat:Int)≤57 then !true else if (c6.toNat:Int)=45 then !true else decide (¬ ((c6.toNat:Int)=95)) else if (c6.toNat:Int)=45 then !true else decide (¬ ((c6.toNat:Int)=95)) else if 48≤(c6.toNat:Int) then if (c6.toNat:Int)≤57 then !true else if (c6.toNat:Int)=45 then !true else decide (¬ ((c6.toNat:Int)=95)) else if (c6.toNat:Int)=45 then !true else decide (¬ ((c6.toNat:Int)=95)))
 else
  ac .inr (some true)
def zb (aa:bn) (n5:Int):Option Bool:=
 iter (fun x:Int=>pt aa x) n5
def pv (aa:bn) (c1:Bool):Option Bool:=
 if c1=true then
  some false
 else
  zb aa 0
def pz (aa:bn):Option Bool:=
 if aa=([]:bn) then
  pv aa true
 else
  if 40 < (aa.length:Int) then
   pv aa true
  else
   (idx aa 0).bind fun c2=>
   if (c2.toNat:Int) < 97 then
    pv aa true
   else
    (idx aa 0).bind fun c3=>
    pv aa (decide (122 < (c3.toNat:Int)))
def vV (c1:Bool):Bool:=
 c1
def gl (aa ai aI:Int):Bool:=
 vV ((decide (aa < ai))||(decide (aI < aa)))
def qS (c2:Bool):Bool:=
 c2
def gW (aa:Version):Bool:=
 qS ((!(gl aa.aA 0 9999))&&((!(gl aa.aC 0 9999))&&(!(gl aa.aD 0 9999))))
def mh (aa:Int):Bool:=
 !(gl aa 0 345686399999)
def gm (n6 n7:Int) (v8:mH) (Qx:Bool):Option ((Int×Int)⊕Int):=
 if Qx=true then
  ac .inr (some 1)
 else
  some (.inl (bB (n6+v8.Part),bB (n7+1)))
def gn (Cl:Bool):Option Int:=
 if Cl=true then
  some 1
 else
  some 0
def iQ (aa:Campaign) (n6:Int):Option Int:=
 if n6≠1000 then
  some 15
 else
  gn ((gl aa.aZ.bS 0 86400000)||((gl aa.aZ.To 0 86400000)||(gl aa.Room 1 500)))
def eD (aa:Campaign) (n6 n7:Int):Option ((Int×Int)⊕Int):=
 if n7 < (aa.aR.length:Int) then
  (idx aa.aR n7).bind fun v8=>
  gm n6 n7 v8 ((gl v8.Part 1 1000)||((gl v8.vg 0 2592000000)||((gl v8.Aj 1 500)||(gl v8.et 0 1000))))
 else
  ac .inr (iQ aa n6)
def iR (aa:Campaign) (n6 n7:Int):Option Int:=
 iter (fun x:Int×Int=>eD aa x.1 x.2) (n6,n7)
def gp (aa:Campaign) (c3:Bool):Option Int:=
 if c3=true then
  some 1
 else
  if (aa.aR.length:Int)=0 then
   some 3
  else
   if 20 < (aa.aR.length:Int) then
    some 2
   else
    iR aa 0 0
def cV (aa:Campaign):Option Int:=
 (pz aa.Key).bind fun v2=>
 if (!v2)=true then
  some 5
 else
  gp aa ((!(gW aa.Target))||(!(mh aa.At)))
def tB (aa:List Int) (n2:Int):Option (Int⊕Int):=
 if n2 < (aa.length:Int) then
  (idx aa n2).bind fun v3=>
  if v3≠0 then
   ac .inr (some v3)
  else
   some (.inl (bB (n2+1)))
 else
  ac .inr (some 0)
def FU (aa:List Int) (n2:Int):Option Int:=
 iter (fun x:Int=>tB aa x) n2
def mJ (aa:List Int):Option Int:=
 FU aa 0
def fX (aa ai:Version):Option Int:=
 (mJ [(cmp_Compare_int aa.aA ai.aA),(cmp_Compare_int aa.aC ai.aC),(cmp_Compare_int aa.aD ai.aD)]).bind fun v3=>
 some v3
def jc (c2:Bool):Option Bool:=
 some c2
def lp (aa:Range) (ai:Version):Option Bool:=
 (fX aa.wC ai).bind fun v3=>
 if v3≤0 then
  (fX ai aa.mI).bind fun v4=>
  jc (decide (v4≤0))
 else
  jc false
def fN (aa:List Range) (eC:Range→Option Bool) (n2:Int):Option (Int⊕Int):=
 if n2 < (aa.length:Int) then
  (idx aa n2).bind fun v3=>
  (eC v3).bind fun v4=>
  if v4=true then
   ac .inr (some n2)
  else
   some (.inl (bB (n2+1)))
 else
  ac .inr (some (-1:Int))
def sI (aa:List Range) (eC:Range→Option Bool) (n2:Int):Option Int:=
 iter (fun x:Int=>fN aa eC x) n2
def j0 (aa:List Range) (eC:Range→Option Bool):Option Int:=
 sI aa eC 0
def dX (aa:List Range) (eC:Range→Option Bool):Option Bool:=
 (j0 aa eC).bind fun v1=>
 some (decide (0≤v1))
def j6 (aa:an) (ai:Version):Option Bool:=
 (dX aa.bS (fun y0=>lp y0 ai)).bind fun v3=>
 some v3
def fD (n3:Int) (c8:Bool):Option (Int⊕Int):=
 if c8=true then
  ac .inr (some 7)
 else
  some (.inl (bB (n3+1)))
def df (aa:an) (n3:Int) (v4:Range) (c6:Bool):Option (Int⊕Int):=
 if c6=true then
  ac .inr (some 1)
 else
  if 0 < n3 then
   (idx aa.bS (bB (n3 - 1))).bind fun v9=>
   (fX v4.wC v9.mI).bind fun v10=>
   fD n3 (decide (v10≤0))
  else
   fD n3 false
def jP (aa:an):Option Int:=
 (j6 aa aa.Version).bind fun v11=>
 if v11=true then
  some 14
 else
  some 0
def fE (aa:an) (n3:Int):Option (Int⊕Int):=
 if n3 < (aa.bS.length:Int) then
  (idx aa.bS n3).bind fun v4=>
  if (!(gW v4.wC))=true then
   df aa n3 v4 true
  else
   if (!(gW v4.mI))=true then
    df aa n3 v4 true
   else
    (fX v4.wC v4.mI).bind fun v7=>
    df aa n3 v4 (decide (0 < v7))
 else
  ac .inr (jP aa)
def nq (aa:an) (n3:Int):Option Int:=
 iter (fun x:Int=>fE aa x) n3
def fR (aa:an):Option Int:=
 if 20 < (aa.bS.length:Int) then
  some 2
 else
  nq aa 0
def eh (n9:Int) (c12:Bool):Option (Int⊕(Int⊕Int)):=
 if c12=true then
  ac .inr (ac .inr (some 7))
 else
  some (.inl (bB (n9+1)))
def jQ (n2:Int) (v3:an):Option (Int⊕Int):=
 (fR v3).bind fun qe=>
 if qe≠0 then
  ac .inr (some qe)
 else
  if (gl v3.cM 1 1000000000)=true then
   ac .inr (some 1)
  else
   some (.inl (bB (n2+1)))
def fF (n2:Int) (v3:an) (n9:Int):Option (Int⊕(Int⊕Int)):=
 if n9 < (v3.dc.length:Int) then
  (idx v3.dc n9).bind fun v10=>
  (pz v10).bind fun v11=>
  if (!v11)=true then
   ac .inr (ac .inr (some 5))
  else
   if 0 < n9 then
    (idx v3.dc (bB (n9 - 1))).bind fun gy=>
    eh n9 (Op.bytesLess v10 gy||v10==gy)
   else
    eh n9 false
 else
  ac .inr (jQ n2 v3)
def nt (n2:Int) (v3:an) (n9:Int):Option (Int⊕Int):=
 iter (fun x:Int=>fF n2 v3 x) n9
def dD (n2:Int) (v3:an) (c5:Bool):Option (Int⊕Int):=
 if c5=true then
  ac .inr (some 7)
 else
  if (v3.dc.length:Int)=0 then
   ac .inr (some 3)
  else
   if 20 < (v3.dc.length:Int) then
    ac .inr (some 2)
   else
    nt n2 v3 0
def fG (aa:List an) (n2:Int):Option (Int⊕Int):=
 if n2 < (aa.length:Int) then
  (idx aa n2).bind fun v3=>
  if (!(gW v3.Version))=true then
   ac .inr (some 1)
  else
   if 0 < n2 then
    (idx aa (bB (n2 - 1))).bind fun v6=>
    (fX v3.Version v6.Version).bind fun v7=>
    dD n2 v3 (decide (v7≤0))
   else
    dD n2 v3 false
 else
  ac .inr (some 0)
def nu (aa:List an) (n2:Int):Option Int:=
 iter (fun x:Int=>fG aa x) n2
def eA (aa:List an):Option Int:=
 if 200 < (aa.length:Int) then
  some 2
 else
  nu aa 0
def dK (n2:Int) (v3:DeviceS) (c9:Bool):Option (Int⊕Int):=
 if c9=true then
  ac .inr (some 7)
 else
  if (!(gW v3.bQ))=true then
   ac .inr (some 1)
  else
   if 20 < (v3.o5.length:Int) then
    ac .inr (some 2)
   else
    some (.inl (bB (n2+1)))
def eG (aa:List DeviceS) (n2:Int) (v3:DeviceS) (c5:Bool):Option (Int⊕Int):=
 if c5=true then
  ac .inr (some 5)
 else
  if 0 < n2 then
   (idx aa (bB (n2 - 1))).bind fun v10=>
   dK n2 v3 (Op.bytesLess v3.Key v10.Key||v3.Key==v10.Key)
  else
   dK n2 v3 false
def dL (aa:List DeviceS) (n2:Int):Option (Int⊕Int):=
 if n2 < (aa.length:Int) then
  (idx aa n2).bind fun v3=>
  (pz v3.Key).bind fun v6=>
  if (!v6)=true then
   eG aa n2 v3 true
  else
   (pz v3.Model).bind fun v7=>
   if (!v7)=true then
    eG aa n2 v3 true
   else
    (pz v3.fb).bind fun v8=>
    eG aa n2 v3 (!v8)
 else
  ac .inr (some 0)
def sa (aa:List DeviceS) (n2:Int):Option Int:=
 iter (fun x:Int=>dL aa x) n2
def kh (aa:List DeviceS):Option Int:=
 if 500 < (aa.length:Int) then
  some 2
 else
  sa aa 0
def mi (aa ai:MarkS):Option Int:=
 (mJ [(cmp_Compare_int aa.At ai.At),(Lib.compareBytes aa.Device ai.Device)]).bind fun v3=>
 some v3
def iw (n2:Int) (c6:Bool):Option (Int⊕Int):=
 if c6=true then
  ac .inr (some 7)
 else
  some (.inl (bB (n2+1)))
def dM (aa:List MarkS) (n2:Int):Option (Int⊕Int):=
 if n2 < (aa.length:Int) then
  (idx aa n2).bind fun v3=>
  if (!(mh v3.At))=true then
   ac .inr (some 1)
  else
   (pz v3.Device).bind fun v5=>
   if (!v5)=true then
    ac .inr (some 5)
   else
    if (gl v3.Kind 1 5)=true then
     ac .inr (some 4)
    else
     if (!(gW v3.Version))=true then
      ac .inr (some 1)
     else
      if 0 < n2 then
       (idx aa (bB (n2 - 1))).bind fun v7=>
       (mi v3 v7).bind fun v8=>
       iw n2 (decide (v8≤0))
      else
       iw n2 false
 else
  ac .inr (some 0)
def sb (aa:List MarkS) (n2:Int):Option Int:=
 iter (fun x:Int=>dM aa x) n2
def ki (aa:List MarkS):Option Int:=
 if 3000 < (aa.length:Int) then
  some 2
 else
  sb aa 0
def lG (c1:Bool):Int:=
 if c1=true then
  1
 else
  0
def fS (aa ai:Int):Int:=
 lG ((gl aa (-86400000:Int) 86400000)||(!(mh ai)))
def tC (aa:List Int) (n2:Int):Option (Int⊕Int):=
 if n2 < (aa.length:Int) then
  (idx aa n2).bind fun v3=>
  if v3≠0 then
   ac .inr (some v3)
  else
   some (.inl (bB (n2+1)))
 else
  ac .inr (some 0)
def FV (aa:List Int) (n2:Int):Option Int:=
 iter (fun x:Int=>tC aa x) n2
def vh (aa:List Int):Option Int:=
 FV aa 0
def pT (n4:Int) (v5:bn) (n9 n10:Int):Option ((Int×Int)⊕((Int×Int)⊕Int)):=
 if n10 < (v5.length:Int) then
  (idx v5 n10).bind fun Cl=>
  some (.inl (IntKind.u64.wrap ((AB .u64 n9 (IntKind.u64.wrap ((Cl.toNat:Int)))) * 1099511628211),bB (n10+1)))
 else
  ac .inr (some (.inl (n9,bB (n4+1))))
def uH (n4:Int) (v5:bn) (n9 n10:Int):Option ((Int×Int)⊕Int):=
 iter (fun x:Int×Int=>pT n4 v5 x.1 x.2) (n9,n10)
def pU (n4:Int) (v5:bn) (n6:Int):Option ((Int×Int)⊕Int):=
 uH n4 v5 n6 0
def od (aa:List bn) (n3 n4:Int):Option ((Int×Int)⊕Int):=
 if n4 < (aa.length:Int) then
  (idx aa n4).bind fun v5=>
  if 0 < n4 then
   pU n4 v5 (IntKind.u64.wrap (n3 * 1099511628211))
  else
   pU n4 v5 n3
 else
  ac .inr (some n3)
def Bx (aa:List bn) (n3 n4:Int):Option Int:=
 iter (fun x:Int×Int=>od aa x.1 x.2) (n3,n4)
def w6 (aa:List bn):Option Int:=
 Bx aa 14695981039346656037 0
def oe (aa:Campaign) (ai:bn):Option Int:=
 (w6 [aa.Key,ai]).bind fun v1=>
 some (bB ((AB .u64 v1 (Hx .u64 v1 32)).tmod 1000))
def jh (aa:Campaign) (v1 n4 n5:Int):Option ((Int×Int)⊕Int):=
 if n5 < (aa.aR.length:Int) then
  (idx aa.aR n5).bind fun v6=>
  if v1 < (bB (n4+v6.Part)) then
   ac .inr (some n5)
  else
   some (.inl (bB (n4+v6.Part),bB (n5+1)))
 else
  ac .inr (some (bB ((aa.aR.length:Int) - 1)))
def lr (aa:Campaign) (v1 n4 n5:Int):Option Int:=
 iter (fun x:Int×Int=>jh aa v1 x.1 x.2) (n4,n5)
def gX (aa:Campaign) (ai:bn):Option Int:=
 (oe aa ai).bind fun v1=>
 lr aa v1 0 0
def bZ (aa:ax) (ai:ao):Bool:=
 decide (ai.ak.Version=aa.c_.Target)
def jH (jy:List ao) (um xy:List (bn×Int)) (n26:Int) (mz:DeviceS) (v33:Int) (sC:List Int):Option (((List ao)×(List (bn×Int))×(List (bn×Int))×(List Int)×Int)⊕ax):=
 some (.inl (jy++[(⟨(⟨0,0,mz.bQ,0⟩:ak),(⟨0,0,0⟩:Version)⟩:ao)],bW um mz.Key (jy.length:Int),bW xy mz.Key v33,sC,bB (n26+1)))
def ig (aa:Campaign) (ai:List DeviceS) (l8 l10:List Int) (jy:List ao) (um xy:List (bn×Int)) (r7:List Int) (n26:Int):Option (((List ao)×(List (bn×Int))×(List (bn×Int))×(List Int)×Int)⊕ax):=
 if n26 < (ai.length:Int) then
  (idx ai n26).bind fun mz=>
  (VY jy.length (um.map Prod.snd)).bind fun u30=>
  (gX aa mz.Key).bind fun v33=>
  (pc xy mz.Key 0).bind fun Ck=>
  if (!(bZ (⟨aa,bW um mz.Key (jy.length:Int),bW xy mz.Key v33,r7,l8,l10,[],(-1:Int),aa.At,jy++[(⟨(⟨0,0,mz.bQ,0⟩:ak),(⟨0,0,0⟩:Version)⟩:ao)]⟩:ax) (⟨(⟨0,0,mz.bQ,0⟩:ak),(⟨0,0,0⟩:Version)⟩:ao)))=true then
   (pc (bW xy mz.Key v33) mz.Key 0).bind fun Qy=>
   (idx r7 Qy).bind fun v37=>
   (idx r7 Qy).bind fun B9=>
   jH jy um xy n26 mz v33 (r7.set Qy.toNat (bB (v37+1)))
  else
   jH jy um xy n26 mz v33 r7
 else
  ac .inr (some (⟨aa,um,xy,r7,l8,l10,[],(-1:Int),aa.At,jy⟩:ax))
def mj (aa:Campaign) (ai:List DeviceS) (l8 l10:List Int) (jy:List ao) (um xy:List (bn×Int)) (r7:List Int) (n26:Int):Option ax:=
 iter (fun x:(List ao)×(List (bn×Int))×(List (bn×Int))×(List Int)×Int=>ig aa ai l8 l10 x.1 x.2.1 x.2.2.1 x.2.2.2.1 x.2.2.2.2) (jy,um,xy,r7,n26)
def gB (aa:Campaign) (ai:List DeviceS):Option ax:=
 (OY 0 (aa.aR.length:Int) (aa.aR.length:Int)).bind fun l6=>
 (OY 0 (aa.aR.length:Int) (aa.aR.length:Int)).bind fun l8=>
 (OY 0 (aa.aR.length:Int) (aa.aR.length:Int)).bind fun l10=>
 mj aa ai l8 l10 [] [] [] l6 0
def fH (kT:List Int) (n17:Int):Option (((List Int)×Int)⊕ax):=
 some (.inl (kT,n17))
def fI (aa:ax) (l5:List Int) (n10:Int) (kT:List Int) (YB:Bool):Option (((List Int)×Int)⊕ax):=
 if YB=true then
  (idx aa.c_.aR (bB ((l5.length:Int)+1))).bind fun fg=>
  fH kT (bB (n10+fg.vg))
 else
  fH kT (-1:Int)
def jR (aa:ax) (l5:List Int) (n10:Int) (c12:Bool):Option (((List Int)×Int)⊕ax):=
 if c12=true then
  ac .inr (some (⟨aa.c_,aa.qd,aa.dq,aa.open_,aa.bD,aa.ba,l5,aa.bh,n10,aa.mf⟩:ax))
 else
  (app l5 [n10]).bind fun kT=>
  if (bB ((l5.length:Int)+1)) < (aa.c_.aR.length:Int) then
   (idx aa.open_ (l5.length:Int)).bind fun sW=>
   fI aa l5 n10 kT (decide (sW=0))
  else
   fI aa l5 n10 kT false
def cH (aa:ax) (ai:Int) (l5:List Int) (n10:Int):Option (((List Int)×Int)⊕ax):=
 jR aa l5 n10 ((decide (n10 < 0))||((decide (ai < n10))||((decide (0 < (l5.length:Int)))&&((decide (0≤aa.bh))&&(decide (aa.bh≤n10))))))
def cI (aa:ax) (ai:Int) (l5:List Int) (n6:Int) (c7:Bool):Option (((List Int)×Int)⊕ax):=
 if c7=true then
  (idx aa.c_.aR (l5.length:Int)).bind fun v11=>
  cH aa ai l5 (bB (ai+v11.vg))
 else
  cH aa ai l5 n6
def cr (aa:ax) (ai:Int) (l5:List Int) (n6:Int):Option (((List Int)×Int)⊕ax):=
 if n6 < 0 then
  if 0 < (l5.length:Int) then
   if (l5.length:Int) < (aa.c_.aR.length:Int) then
    (idx aa.open_ (bB ((l5.length:Int) - 1))).bind fun v8=>
    if v8=0 then
     (idx l5 (bB ((l5.length:Int) - 1))).bind fun v9=>
     cI aa ai l5 n6 (decide (v9≤ai))
    else
     cI aa ai l5 n6 false
   else
    cI aa ai l5 n6 false
  else
   cI aa ai l5 n6 false
 else
  cI aa ai l5 n6 false
def rC (aa:ax) (ai:Int) (l5:List Int) (n6:Int):Option ax:=
 iter (fun x:(List Int)×Int=>cr aa ai x.1 x.2) (l5,n6)
def dz (aa:ax) (ai:Int):Option ax:=
 rC aa ai aa.aV aa.cZ
def lH (c1:Bool):Bool:=
 c1
def di (aa:ax) (ai:ao):Bool:=
 lH ((!(bZ aa ai))&&((decide (3≤ai.ak.et))||(decide (ai.ak.Kind=5))))
def gq (ai:MarkS) (n8 n9 n10 n11:Int):Bool×ao:=
 (true,(⟨(⟨ai.Kind,ai.At,(⟨n8,n9,n10⟩:Version),n11⟩:ak),ai.Version⟩:ao))
def gr (aa:ao) (ai:MarkS) (n12:Int):Bool×ao:=
 gq ai aa.ak.Version.aA aa.ak.Version.aC aa.ak.Version.aD n12
def eE (aa:ao) (ai:MarkS) (c2:Bool):Bool×ao:=
 if (!c2)=true then
  (false,aa)
 else
  if ai.Kind=3 then
   gq ai ai.Version.aA ai.Version.aC ai.Version.aD aa.ak.et
  else
   if ai.Kind=4 then
    gr aa ai (bB (aa.ak.et+1))
   else
    gr aa ai aa.ak.et
def iS (aa:ao) (ai:MarkS) (c3:Bool):Bool×ao:=
 eE aa ai c3
def gu (aa:ao) (ai:MarkS) (c5:Bool):Bool×ao:=
 eE aa ai c5
def iT (aa:ao) (ai:MarkS) (c6:Bool):Bool×ao:=
 gu aa ai c6
def iU (aa:ao) (ai:MarkS) (c7:Bool):Bool×ao:=
 gu aa ai c7
def gw (aa:ao) (ai:MarkS) (c4:Bool):Bool×ao:=
 if c4=true then
  iT aa ai ((decide (aa.ak.Kind=1))&&(decide (ai.Version=aa.bb)))
 else
  iU aa ai ((decide (aa.ak.Kind=2))&&(decide (ai.Version=aa.bb)))
def aU (aa:ao) (ai:MarkS):Bool×ao:=
 if ai.Kind=1 then
  iS aa ai ((decide (aa.ak.Kind=0))||((decide (aa.ak.Kind=3))||(decide (aa.ak.Kind=4))))
 else
  if ai.Kind=2 then
   gw aa ai (decide (ai.Kind=2))
  else
   gw aa ai (decide (ai.Kind=5))
def kA (aa:ax) (ai:MarkS) (c3:Bool):Option ax:=
 if c3=true then
  some aa
 else
  (pc aa.dq ai.Device 0).bind fun v4=>
  none
def ij (aa:ax) (ai:MarkS) (n2 v6:Int) (v9:ao) (AI:List Int) (np:Int) (xz:List Int) (n30:Int):Option ax:=
 some (⟨aa.c_,aa.qd,aa.dq,AI,aa.bD.set v6.toNat (bB (np+1)),xz,aa.aV,n30,aa.cZ,aa.mf.set n2.toNat ((aU v9 ai).2)⟩:ax)
def eI (aa:ax) (ai:MarkS) (n2 v6:Int) (v9:ao) (AI:List Int) (np:Int) (xz:List Int) (YC:Bool):Option ax:=
 if YC=true then
  ij aa ai n2 v6 v9 AI np xz ai.At
 else
  ij aa ai n2 v6 v9 AI np xz aa.bh
def fY (aa:ax) (ai:MarkS) (n2 v6:Int) (v9:ao) (AI:List Int) (np:Int) (xz:List Int):Option ax:=
 (idx aa.c_.aR v6).bind fun v24=>
 if aa.bh < 0 then
  (idx (aa.bD.set v6.toNat (bB (np+1))) v6).bind fun mz=>
  if v24.Aj≤mz then
   (idx xz v6).bind fun v28=>
   (idx (aa.bD.set v6.toNat (bB (np+1))) v6).bind fun qj=>
   eI aa ai n2 v6 v9 AI np xz (decide ((bB (v24.et * qj)) < (bB (1000 * v28))))
  else
   eI aa ai n2 v6 v9 AI np xz false
 else
  eI aa ai n2 v6 v9 AI np xz false
def kB (aa:ax) (ai:MarkS) (n2 v6:Int) (v9:ao) (AI:List Int) (YD:Bool):Option ax:=
 if YD=true then
  some (⟨aa.c_,aa.qd,aa.dq,AI,aa.bD,aa.ba,aa.aV,aa.bh,aa.cZ,aa.mf.set n2.toNat ((aU v9 ai).2)⟩:ax)
 else
  (idx aa.bD v6).bind fun np=>
  (idx aa.bD v6).bind fun v20=>
  if ai.Kind=4 then
   (idx aa.ba v6).bind fun v22=>
   (idx aa.ba v6).bind fun v23=>
   fY aa ai n2 v6 v9 AI np (aa.ba.set v6.toNat (bB (v22+1)))
  else
   fY aa ai n2 v6 v9 AI np aa.ba
def fZ (aa:ax) (ai:MarkS) (n2 v6:Int) (v9:ao) (AI:List Int):Option ax:=
 kB aa ai n2 v6 v9 AI ((decide (ai.Kind≠3))&&(decide (ai.Kind≠4)))
def iy (aa:ax) (ai:MarkS) (n2 v6:Int) (v9:ao) (kT:List Int):Option ax:=
 fZ aa ai n2 v6 v9 kT
def kC (aa:ax) (ai:MarkS) (n2 v6:Int) (c7:Bool) (v9:ao) (Cl:Bool):Option ax:=
 if (Cl !=c7)=true then
  if Cl=true then
   (idx aa.open_ v6).bind fun qe=>
   (idx aa.open_ v6).bind fun kU=>
   iy aa ai n2 v6 v9 (aa.open_.set v6.toNat (bB (qe - 1)))
  else
   (idx aa.open_ v6).bind fun sW=>
   (idx aa.open_ v6).bind fun v17=>
   iy aa ai n2 v6 v9 (aa.open_.set v6.toNat (bB (sW+1)))
 else
  fZ aa ai n2 v6 v9 aa.open_
def kD (aa:ax) (ai:MarkS) (n2 v6:Int) (c7:Bool):Option ax:=
 (idx aa.mf n2).bind fun v9=>
 if (!((aU v9 ai).1))=true then
  some (⟨aa.c_,aa.qd,aa.dq,aa.open_,aa.bD,aa.ba,aa.aV,aa.bh,aa.cZ,aa.mf.set n2.toNat ((aU v9 ai).2)⟩:ax)
 else
  kC aa ai n2 v6 c7 v9 ((bZ (⟨aa.c_,aa.qd,aa.dq,aa.open_,aa.bD,aa.ba,aa.aV,aa.bh,aa.cZ,aa.mf.set n2.toNat ((aU v9 ai).2)⟩:ax) ((aU v9 ai).2))||(di (⟨aa.c_,aa.qd,aa.dq,aa.open_,aa.bD,aa.ba,aa.aV,aa.bh,aa.cZ,aa.mf.set n2.toNat ((aU v9 ai).2)⟩:ax) ((aU v9 ai).2)))
def iz (aa:ax) (ai:MarkS) (n2:Int) (c5:Bool):Option ax:=
 if c5=true then
  some aa
 else
  (pc aa.dq ai.Device 0).bind fun v6=>
  (idx aa.mf n2).bind fun v8=>
  kD aa ai n2 v6 ((bZ aa v8)||(di aa v8))
def cT (aa:ax) (ai:MarkS):Option ax:=
 Cg (bc aa.qd ai.Device) (
  kA aa ai ((!false)||(decide (ai.At < aa.c_.At)))) (fun n2=>
  iz aa ai n2 ((!true)||(decide (ai.At < aa.c_.At))))
def nv (aa:ax) (v33:MarkS) (ID:List (bn×Int)) (MO:List ao) (MP:List (bn×Int)) (Dt MQ GO MR:List Int) (Od Cj n68:Int):Option (((List (bn×Int))×(List ao)×(List (bn×Int))×(List Int)×(List Int)×(List Int)×(List Int)×Int×Int×Int)⊕ax):=
 (dz (⟨aa.c_,ID,MP,Dt,MQ,GO,MR,Od,Cj,MO⟩:ax) v33.At).bind fun v78=>
 some (.inl (ID,MO,MP,v78.open_,v78.bD,v78.ba,v78.aV,v78.bh,v78.cZ,n68))
def ei (aa:ax) (ai:List MarkS) (v33:MarkS) (ID:List (bn×Int)) (MO:List ao) (MP:List (bn×Int)) (Dt MQ GO MR:List Int) (Od Cj n68:Int) (YE:Bool):Option (((List (bn×Int))×(List ao)×(List (bn×Int))×(List Int)×(List Int)×(List Int)×(List Int)×Int×Int×Int)⊕(((List (bn×Int))×(List ao)×(List (bn×Int))×(List Int)×(List Int)×(List Int)×(List Int)×Int×Int×Int)⊕ax)):=
 if YE=true then
  (idx ai n68).bind fun V6=>
  (cT (⟨aa.c_,ID,MP,Dt,MQ,GO,MR,Od,Cj,MO⟩:ax) V6).bind fun v72=>
  some (.inl (v72.qd,v72.mf,v72.dq,v72.open_,v72.bD,v72.ba,v72.aV,v72.bh,v72.cZ,bB (n68+1)))
 else
  ac .inr (nv aa v33 ID MO MP Dt MQ GO MR Od Cj n68)
def ik (aa:ax) (ai:List MarkS) (v33:MarkS) (ID:List (bn×Int)) (MO:List ao) (MP:List (bn×Int)) (Dt MQ GO MR:List Int) (Od Cj n68:Int):Option (((List (bn×Int))×(List ao)×(List (bn×Int))×(List Int)×(List Int)×(List Int)×(List Int)×Int×Int×Int)⊕(((List (bn×Int))×(List ao)×(List (bn×Int))×(List Int)×(List Int)×(List Int)×(List Int)×Int×Int×Int)⊕ax)):=
 if n68 < (ai.length:Int) then
  (idx ai n68).bind fun v70=>
  ei aa ai v33 ID MO MP Dt MQ GO MR Od Cj n68 (decide (v70.At=v33.At))
 else
  ei aa ai v33 ID MO MP Dt MQ GO MR Od Cj n68 false
def rD (aa:ax) (ai:List MarkS) (v33:MarkS) (ID:List (bn×Int)) (MO:List ao) (MP:List (bn×Int)) (Dt MQ GO MR:List Int) (Od Cj n68:Int):Option (((List (bn×Int))×(List ao)×(List (bn×Int))×(List Int)×(List Int)×(List Int)×(List Int)×Int×Int×Int)⊕ax):=
 iter (fun x:(List (bn×Int))×(List ao)×(List (bn×Int))×(List Int)×(List Int)×(List Int)×(List Int)×Int×Int×Int=>ik aa ai v33 x.1 x.2.1 x.2.2.1 x.2.2.2.1 x.2.2.2.2.1 x.2.2.2.2.2.1 x.2.2.2.2.2.2.1 x.2.2.2.2.2.2.2.1 x.2.2.2.2.2.2.2.2.1 x.2.2.2.2.2.2.2.2.2) (ID,MO,MP,Dt,MQ,GO,MR,Od,Cj,n68)
def nw (aa:ax) (aI:Int) (za:List (bn×Int)) (vB:List ao) (yo:List (bn×Int)) (xz um r7 wK:List Int) (n28 n29:Int):Option ax:=
 (dz (⟨aa.c_,za,yo,xz,um,r7,wK,n28,n29,vB⟩:ax) aI).bind fun V8=>
 some (⟨aa.c_,za,yo,V8.open_,V8.bD,V8.ba,V8.aV,V8.bh,V8.cZ,vB⟩:ax)
def ek (aa:ax) (ai:List MarkS) (aI:Int) (za:List (bn×Int)) (vB:List ao) (yo:List (bn×Int)) (xz um r7 wK:List Int) (n28 n29 n30:Int) (c31:Bool):Option (((List (bn×Int))×(List ao)×(List (bn×Int))×(List Int)×(List Int)×(List Int)×(List Int)×Int×Int×Int)⊕ax):=
 if c31=true then
  (idx ai n30).bind fun v33=>
  (dz (⟨aa.c_,za,yo,xz,um,r7,wK,n28,n29,vB⟩:ax) (bB (v33.At - 1))).bind fun Ck=>
  rD aa ai v33 za vB yo Ck.open_ Ck.bD Ck.ba Ck.aV Ck.bh Ck.cZ n30
 else
  ac .inr (nw aa aI za vB yo xz um r7 wK n28 n29)
def fJ (aa:ax) (ai:List MarkS) (aI:Int) (za:List (bn×Int)) (vB:List ao) (yo:List (bn×Int)) (xz um r7 wK:List Int) (n28 n29 n30:Int):Option (((List (bn×Int))×(List ao)×(List (bn×Int))×(List Int)×(List Int)×(List Int)×(List Int)×Int×Int×Int)⊕ax):=
 if n30 < (ai.length:Int) then
  (idx ai n30).bind fun v32=>
  ek aa ai aI za vB yo xz um r7 wK n28 n29 n30 (decide (v32.At≤aI))
 else
  ek aa ai aI za vB yo xz um r7 wK n28 n29 n30 false
def rH (aa:ax) (ai:List MarkS) (aI:Int) (za:List (bn×Int)) (vB:List ao) (yo:List (bn×Int)) (xz um r7 wK:List Int) (n28 n29 n30:Int):Option ax:=
 iter (fun x:(List (bn×Int))×(List ao)×(List (bn×Int))×(List Int)×(List Int)×(List Int)×(List Int)×Int×Int×Int=>fJ aa ai aI x.1 x.2.1 x.2.2.1 x.2.2.2.1 x.2.2.2.2.1 x.2.2.2.2.2.1 x.2.2.2.2.2.2.1 x.2.2.2.2.2.2.2.1 x.2.2.2.2.2.2.2.2.1 x.2.2.2.2.2.2.2.2.2) (za,vB,yo,xz,um,r7,wK,n28,n29,n30)
def il (aa:ax) (ai:List MarkS) (aI:Int):Option ax:=
 rH aa ai aI aa.qd aa.mf aa.dq aa.open_ aa.bD aa.ba aa.aV aa.bh aa.cZ 0
def nd (c1:Bool):Bool:=
 c1
def nf (c2:Bool):Bool:=
 c2
def ji (aa:Campaign) (ai aI:Int):Bool:=
 if aa.aZ.bS < aa.aZ.To then
  nd ((decide (aa.aZ.bS≤((bB (((bB (aI+ai)).tmod 86400000)+86400000)).tmod 86400000)))&&(decide (((bB (((bB (aI+ai)).tmod 86400000)+86400000)).tmod 86400000) < aa.aZ.To)))
 else
  if aa.aZ.To < aa.aZ.bS then
   nf ((decide (aa.aZ.bS≤((bB (((bB (aI+ai)).tmod 86400000)+86400000)).tmod 86400000)))||(decide (((bB (((bB (aI+ai)).tmod 86400000)+86400000)).tmod 86400000) < aa.aZ.To)))
  else
   true
def pV (c1:Bool):Bool:=
 c1
def qt (aa:ao):Bool:=
 pV ((decide (aa.ak.Kind=1))||(decide (aa.ak.Kind=2)))
def dA (aa ai:DeviceS) (aI:ax):Option Int:=
 (pc aI.dq aa.Key 0).bind fun v3=>
 (pc aI.dq ai.Key 0).bind fun v4=>
 (oe aI.c_ aa.Key).bind fun v5=>
 (oe aI.c_ ai.Key).bind fun v6=>
 (mJ [(cmp_Compare_int v3 v4),(cmp_Compare_int v5 v6),(Lib.compareBytes aa.Key ai.Key)]).bind fun v7=>
 some v7
def gC (aa:List DeviceS) (eC:DeviceS→DeviceS→Option Int):Option (List DeviceS):=
 Ek eC aa
def dE (aa:List bn) (ai:bn) (n2:Int):Option (Int⊕Int):=
 if n2 < (aa.length:Int) then
  (idx aa n2).bind fun v3=>
  if ai=v3 then
   ac .inr (some n2)
  else
   some (.inl (bB (n2+1)))
 else
  ac .inr (some (-1:Int))
def gD (aa:List bn) (ai:bn) (n2:Int):Option Int:=
 iter (fun x:Int=>dE aa ai x) n2
def iA (aa:List bn) (ai:bn):Option Int:=
 gD aa ai 0
def cC (aa:List bn) (ai:bn):Option Bool:=
 (iA aa ai).bind fun v1=>
 some (decide (0≤v1))
def jS (n7:Int) (yp:List an):Option (((List an)×Int)⊕(List an)):=
 some (.inl (yp,bB (n7+1)))
def jT (l6:List an) (n7:Int) (v9:an) (Cl:Bool):Option (((List an)×Int)⊕(List an)):=
 if Cl=true then
  (app l6 [v9]).bind fun za=>
  jS n7 za
 else
  jS n7 l6
def fp (aa:List an) (ai:bn) (aI:Version) (l6:List an) (n7:Int):Option (((List an)×Int)⊕(List an)):=
 if n7 < (aa.length:Int) then
  (idx aa n7).bind fun v9=>
  (cC v9.dc ai).bind fun v12=>
  if v12=true then
   (j6 v9 aI).bind fun gy=>
   jT l6 n7 v9 gy
  else
   jT l6 n7 v9 false
 else
  ac .inr (some l6)
def vW (aa:List an) (ai:bn) (aI:Version) (l6:List an) (n7:Int):Option (List an):=
 iter (fun x:(List an)×Int=>fp aa ai aI x.1 x.2) (l6,n7)
def ny (aa:List an) (ai:bn) (aI:Version):Option (List an):=
 vW aa ai aI [] 0
def lW (aa ai:aq):Option Int:=
 (mJ [(cmp_Compare_int aa.bX ai.bX),(cmp_Compare_int aa.bM ai.bM)]).bind fun v3=>
 some v3
def ml (n7:Int) (kT:List an):Option (((List an)×Int)⊕(List (Version×aq))):=
 some (.inl (kT,bB (n7+1)))
def iB (n52:Int) (c59:Bool) (n60 n61:Int) (YF:Bool):Option ((Bool×Int×Int×Bool×Int)⊕(((List (Version×aq))×Bool×Int)⊕(((List (Version×aq))×Bool)⊕(List (Version×aq))))):=
 some (.inl (c59,n60,n61,YF,bB (n52+1)))
def gE (C4:Bool) (n49 n50:Int) (c51:Bool) (n52:Int) (v53:an) (v55:aq×Bool) (YG:Bool):Option ((Bool×Int×Int×Bool×Int)⊕(((List (Version×aq))×Bool×Int)⊕(((List (Version×aq))×Bool)⊕(List (Version×aq))))):=
 if YG=true then
  iB n52 true (bB (v55.1.bX+1)) (bB (v55.1.bM+v53.cM)) true
 else
  iB n52 C4 n49 n50 c51
def mn (n37:Int) (C4:Bool) (GO:List (Version×aq)):Option (((List (Version×aq))×Bool×Int)⊕(((List (Version×aq))×Bool)⊕(List (Version×aq)))):=
 some (.inl (GO,C4,bB (n37+1)))
def pf (sC:List (Version×aq)) (n37:Int) (B9:an) (C4:Bool) (n49 n50:Int) (c51:Bool):Option (((List (Version×aq))×Bool×Int)⊕(((List (Version×aq))×Bool)⊕(List (Version×aq)))):=
 if c51=true then
  mn n37 C4 (bW sC B9.Version (⟨n49,n50⟩:aq))
 else
  mn n37 C4 sC
def fq (sC:List (Version×aq)) (n37:Int) (B9:an) (LL:List an) (C4:Bool) (n49 n50:Int) (c51:Bool) (n52:Int):Option ((Bool×Int×Int×Bool×Int)⊕(((List (Version×aq))×Bool×Int)⊕(((List (Version×aq))×Bool)⊕(List (Version×aq))))):=
 if n52 < (LL.length:Int) then
  (idx LL n52).bind fun v53=>
  (uD sC v53.Version (⟨0,0⟩:aq)).bind fun v55=>
  if v55.2=true then
   if (!c51)=true then
    gE C4 n49 n50 c51 n52 v53 v55 true
   else
    (lW (⟨bB (v55.1.bX+1),bB (v55.1.bM+v53.cM)⟩:aq) (⟨n49,n50⟩:aq)).bind fun v58=>
    gE C4 n49 n50 c51 n52 v53 v55 (decide (v58 < 0))
  else
   gE C4 n49 n50 c51 n52 v53 v55 false
 else
  ac .inr (pf sC n37 B9 C4 n49 n50 c51)
def sc (sC:List (Version×aq)) (n37:Int) (B9:an) (LL:List an) (C4:Bool) (n49 n50:Int) (c51:Bool) (n52:Int):Option (((List (Version×aq))×Bool×Int)⊕(((List (Version×aq))×Bool)⊕(List (Version×aq)))):=
 iter (fun x:Bool×Int×Int×Bool×Int=>fq sC n37 B9 LL x.1 x.2.1 x.2.2.1 x.2.2.2.1 x.2.2.2.2) (C4,n49,n50,c51,n52)
def jU (l6:List an) (jy:List (List an)) (sC:List (Version×aq)) (Xj:Bool) (n37:Int):Option (((List (Version×aq))×Bool×Int)⊕(((List (Version×aq))×Bool)⊕(List (Version×aq)))):=
 if n37 < (l6.length:Int) then
  (idx l6 n37).bind fun B9=>
  (uD sC B9.Version (⟨0,0⟩:aq)).bind fun v40=>
  (idx jy n37).bind fun LL=>
  sc sC n37 B9 LL Xj v40.1.bX v40.1.bM v40.2 0
 else
  ac .inr (some (.inl (sC,Xj)))
def sd (l6:List an) (jy:List (List an)) (sC:List (Version×aq)) (Xj:Bool) (n37:Int):Option (((List (Version×aq))×Bool)⊕(List (Version×aq))):=
 iter (fun x:(List (Version×aq))×Bool×Int=>jU l6 jy x.1 x.2.1 x.2.2) (sC,Xj,n37)
def mo (l6:List an) (jy:List (List an)) (HQ:List (Version×aq)) (c31:Bool):Option (((List (Version×aq))×Bool)⊕(List (Version×aq))):=
 if c31=true then
  sd l6 jy HQ false 0
 else
  ac .inr (some HQ)
def se (l6:List an) (jy:List (List an)) (HQ:List (Version×aq)) (c31:Bool):Option (List (Version×aq)):=
 iter (fun x:(List (Version×aq))×Bool=>mo l6 jy x.1 x.2) (HQ,c31)
def jV (ai:bn) (aI:Version) (l6:List an) (jy:List (List an)) (n21:Int):Option (((List (List an))×Int)⊕(List (Version×aq))):=
 if n21 < (l6.length:Int) then
  (idx l6 n21).bind fun v22=>
  (ny l6 ai v22.Version).bind fun v24=>
  (idx jy n21).bind fun v26=>
  some (.inl (jy.set n21.toNat v24,bB (n21+1)))
 else
  ac .inr (se l6 jy (bW ([]:List (Version×aq)) aI (⟨0,0⟩:aq)) true)
def vX (ai:bn) (aI:Version) (l6:List an) (jy:List (List an)) (n21:Int):Option (List (Version×aq)):=
 iter (fun x:(List (List an))×Int=>jV ai aI l6 x.1 x.2) (jy,n21)
def mq (ai:bn) (aI:Version) (l6:List an):Option (List (Version×aq)):=
 (OY ([]:List an) (l6.length:Int) (l6.length:Int)).bind fun za=>
 vX ai aI l6 za 0
def fw (aa:List an) (ai:bn) (aI:Version) (l6:List an) (n7:Int):Option (((List an)×Int)⊕(List (Version×aq))):=
 if n7 < (aa.length:Int) then
  (idx aa n7).bind fun v9=>
  (cC v9.dc ai).bind fun v11=>
  if v11=true then
   (app l6 [v9]).bind fun yF=>
   ml n7 yF
  else
   ml n7 l6
 else
  ac .inr (mq ai aI l6)
def vY (aa:List an) (ai:bn) (aI:Version) (l6:List an) (n7:Int):Option (List (Version×aq)):=
 iter (fun x:(List an)×Int=>fw aa ai aI x.1 x.2) (l6,n7)
def pB (aa:List an) (ai:bn) (aI:Version):Option (List (Version×aq)):=
 vY aa ai aI [] 0
def j7 (n34 n41 n42 n43 n44 n45:Int) (c46:Bool):Option ((Int×Int×Int×Int×Int×Bool×Int)⊕(((List Version)×Int×Int×Int)⊕((List Version)×Bool))):=
 some (.inl (n41,n42,n43,n44,n45,c46,bB (n34+1)))
def iJ (n28 n29 n30 n31 n32:Int) (KT:Bool) (n34:Int) (v35:an) (v37:aq×Bool) (YH:Bool):Option ((Int×Int×Int×Int×Int×Bool×Int)⊕(((List Version)×Int×Int×Int)⊕((List Version)×Bool))):=
 if YH=true then
  j7 n34 v35.Version.aA v35.Version.aC v35.Version.aD (bB (v37.1.bX+1)) (bB (v37.1.bM+v35.cM)) true
 else
  j7 n34 n28 n29 n30 n31 n32 KT
def oJ (js:List Version) (n28 n29 n30:Int) (KT:Bool):Option (((List Version)×Int×Int×Int)⊕((List Version)×Bool)):=
 if (!KT)=true then
  ac .inr (some ([],false))
 else
  (app js [(⟨n28,n29,n30⟩:Version)]).bind fun Sa=>
  some (.inl (Sa,n28,n29,n30))
def gY (hJ:List (Version×aq)) (js:List Version) (np:(List an)) (n28 n29 n30 n31 n32:Int) (KT:Bool) (n34:Int):Option ((Int×Int×Int×Int×Int×Bool×Int)⊕(((List Version)×Int×Int×Int)⊕((List Version)×Bool))):=
 if n34 < (np.length:Int) then
  (idx np n34).bind fun v35=>
  (uD hJ v35.Version (⟨0,0⟩:aq)).bind fun v37=>
  if v37.2=true then
   if (!KT)=true then
    iJ n28 n29 n30 n31 n32 KT n34 v35 v37 true
   else
    (lW (⟨bB (v37.1.bX+1),bB (v37.1.bM+v35.cM)⟩:aq) (⟨n31,n32⟩:aq)).bind fun v40=>
    iJ n28 n29 n30 n31 n32 KT n34 v35 v37 (decide (v40 < 0))
  else
   iJ n28 n29 n30 n31 n32 KT n34 v35 v37 false
 else
  ac .inr (oJ js n28 n29 n30 KT)
def ye (hJ:List (Version×aq)) (js:List Version) (np:(List an)) (n28 n29 n30 n31 n32:Int) (KT:Bool) (n34:Int):Option (((List Version)×Int×Int×Int)⊕((List Version)×Bool)):=
 iter (fun x:Int×Int×Int×Int×Int×Bool×Int=>gY hJ js np x.1 x.2.1 x.2.2.1 x.2.2.2.1 x.2.2.2.2.1 x.2.2.2.2.2.1 x.2.2.2.2.2.2) (n28,n29,n30,n31,n32,KT,n34)
def dj (aa:List an) (ai:bn) (bw:Version) (hJ:List (Version×aq)) (js:List Version) (n13 n14 n15:Int):Option (((List Version)×Int×Int×Int)⊕((List Version)×Bool)):=
 if (⟨n13,n14,n15⟩:Version)≠bw then
  (ny aa ai (⟨n13,n14,n15⟩:Version)).bind fun np=>
  ye hJ js np 0 0 0 0 0 false 0
 else
  ac .inr (some (js,true))
def iK (aa:List an) (ai:bn) (bw:Version) (hJ:List (Version×aq)) (js:List Version) (n13 n14 n15:Int):Option ((List Version)×Bool):=
 iter (fun x:(List Version)×Int×Int×Int=>dj aa ai bw hJ x.1 x.2.1 x.2.2.1 x.2.2.2) (js,n13,n14,n15)
def mr (aa:List an) (ai:bn) (aI bw:Version) (hJ:List (Version×aq)):Option ((List Version)×Bool):=
 iK aa ai bw hJ [] aI.aA aI.aC aI.aD
def dN (aa:an) (ai:List Version):Option Bool:=
 (idx ai 0).bind fun v2=>
 some (decide (aa.Version=v2))
def fO (aa:List an) (eC:an→Option Bool) (n2:Int):Option (Int⊕Int):=
 if n2 < (aa.length:Int) then
  (idx aa n2).bind fun v3=>
  (eC v3).bind fun v4=>
  if v4=true then
   ac .inr (some n2)
  else
   some (.inl (bB (n2+1)))
 else
  ac .inr (some (-1:Int))
def sJ (aa:List an) (eC:an→Option Bool) (n2:Int):Option Int:=
 iter (fun x:Int=>fO aa eC x) n2
def cj (aa:List an) (eC:an→Option Bool):Option Int:=
 sJ aa eC 0
def kE (aa:bF) (ai:bn) (v4:(List (Version×aq))) (v6:(List Version)×Bool) (c8:Bool):Option (an×Bool×bF):=
 if c8=true then
  some ((⟨(⟨0,0,0⟩:Version),[],[],0⟩:an),false,(⟨aa.pd,aa.GN,bW aa.jY ai v4⟩:bF))
 else
  (cj aa.pd (fun y0=>dN y0 v6.1)).bind fun v9=>
  (idx aa.pd v9).bind fun v10=>
  some (v10,true,(⟨aa.pd,aa.GN,bW aa.jY ai v4⟩:bF))
def kF (aa:bF) (v11:(List Version)×Bool) (Qz:Bool):Option (an×Bool×bF):=
 if Qz=true then
  some ((⟨(⟨0,0,0⟩:Version),[],[],0⟩:an),false,aa)
 else
  (cj aa.pd (fun y0=>dN y0 v11.1)).bind fun qe=>
  (idx aa.pd qe).bind fun kU=>
  some (kU,true,aa)
def iE (aa:bF) (ai:bn) (aI:Version):Option (an×Bool×bF):=
 Cg (bc aa.jY ai) (
  (pB aa.pd ai aa.GN).bind fun v4=>
  (mr aa.pd ai aI aa.GN v4).bind fun v6=>
  kE aa ai v4 v6 ((!v6.2)||(decide ((v6.1.length:Int)=0)))) (fun m3=>
  (mr aa.pd ai aI aa.GN m3).bind fun v11=>
  kF aa v11 ((!v11.2)||(decide ((v11.1.length:Int)=0))))
def eS (n11 n17:Int) (yo:List DeviceS):Option ((Int×(List DeviceS)×Int)⊕((List cd)×bF)):=
 some (.inl (n17,yo,bB (n11+1)))
def gM (n8 n11:Int) (um:List DeviceS):Option ((Int×(List DeviceS)×Int)⊕((List cd)×bF)):=
 eS n11 n8 um
def jt (n8:Int) (l10:List DeviceS) (n11:Int) (gy:DeviceS) (c20:Bool):Option ((Int×(List DeviceS)×Int)⊕((List cd)×bF)):=
 if c20=true then
  (app l10 [gy]).bind fun xy=>
  gM n8 n11 xy
 else
  gM n8 n11 l10
def ju (wK:List an) (n28 n29 n30:Int) (KS:List (bn×(List (Version×aq)))) (MN:List cd):Option ((List cd)×bF):=
 some (MN,(⟨wK,(⟨n28,n29,n30⟩:Version),KS⟩:bF))
def gN (n49:Int) (v55:an×Bool×bF) (Xk:List cd):Option (((List an)×Int×Int×Int×(List (bn×(List (Version×aq))))×(List cd)×Int)⊕((List cd)×bF)):=
 some (.inl (v55.2.2.pd,v55.2.2.GN.aA,v55.2.2.GN.aC,v55.2.2.GN.aD,v55.2.2.jY,Xk,bB (n49+1)))
def dS (aa:ax) (n8:Int) (v26:(List DeviceS)) (HR:List an) (n43 n44 n45:Int) (KR:List (bn×(List (Version×aq)))) (FT:List cd) (n49:Int):Option (((List an)×Int×Int×Int×(List (bn×(List (Version×aq))))×(List cd)×Int)⊕((List cd)×bF)):=
 if n49 < (v26.length:Int) then
  (idx v26 n49).bind fun v51=>
  if n8≤(FT.length:Int) then
   ac .inr (ju HR n43 n44 n45 KR FT)
  else
   (bc aa.qd v51.Key).bind fun US=>
   (idx aa.mf US).bind fun v54=>
   (iE (⟨HR,(⟨n43,n44,n45⟩:Version),KR⟩:bF) v51.Model v54.ak.Version).bind fun v55=>
   if v55.2.1=true then
    (app FT [(⟨v51.Key,v55.1.Version,v55.1.cM⟩:cd)]).bind fun Dt=>
    gN n49 v55 Dt
   else
    gN n49 v55 FT
 else
  ac .inr (ju HR n43 n44 n45 KR FT)
def gO (aa:ax) (n8:Int) (v26:(List DeviceS)) (HR:List an) (n43 n44 n45:Int) (KR:List (bn×(List (Version×aq)))) (FT:List cd) (n49:Int):Option ((List cd)×bF):=
 iter (fun x:(List an)×Int×Int×Int×(List (bn×(List (Version×aq))))×(List cd)×Int=>dS aa n8 v26 x.1 x.2.1 x.2.2.1 x.2.2.2.1 x.2.2.2.2.1 x.2.2.2.2.2.1 x.2.2.2.2.2.2) (HR,n43,n44,n45,KR,FT,n49)
def gP (aa:ax) (ai:bF) (n8:Int) (l10:List DeviceS):Option ((List cd)×bF):=
 (pb l10.length (fun r:(List DeviceS)=>r.length) (gC l10 (fun y0 y1=>dA y0 y1 aa))).bind fun v26=>
 gO aa n8 v26 ai.pd ai.GN.aA ai.GN.aC ai.GN.aD ai.jY [] 0
def eT (aa:ax) (ai:bF) (aI:List DeviceS) (n8:Int) (l10:List DeviceS) (n11:Int):Option ((Int×(List DeviceS)×Int)⊕((List cd)×bF)):=
 if n11 < (aI.length:Int) then
  (idx aI n11).bind fun gy=>
  Cg (bc aa.qd gy.Key) (
   none) (fun n15=>
   (idx aa.mf n15).bind fun sW=>
   if (qt sW)=true then
    eS n11 (bB (n8 - 1)) l10
   else
    (pc aa.dq gy.Key 0).bind fun v21=>
    jt n8 l10 n11 gy ((decide (v21 < (aa.aV.length:Int)))&&((!(bZ aa sW))&&(!(di aa sW)))))
 else
  ac .inr (gP aa ai n8 l10)
def mK (aa:ax) (ai:bF) (aI:List DeviceS) (n8:Int) (l10:List DeviceS) (n11:Int):Option ((List cd)×bF):=
 iter (fun x:Int×(List DeviceS)×Int=>eT aa ai aI x.1 x.2.1 x.2.2) (n8,l10,n11)
def jv (aa:ax) (ai:bF) (aI:List DeviceS) (c2:Bool):Option ((List cd)×bF):=
 if c2=true then
  some ([],ai)
 else
  mK aa ai aI aa.c_.Room [] 0
def jd (aa:ax) (ai:bF) (aI:List DeviceS) (bw hJ:Int):Option ((List cd)×bF):=
 jv aa ai aI ((decide (0≤aa.bh))||(!(ji aa.c_ bw hJ)))
def iL (aa:Campaign) (ai:List an) (aI:List DeviceS) (bw:List MarkS) (hJ mL:Int):Option ((List cd)×Int):=
 (cV aa).bind fun v2=>
 (eA ai).bind fun v3=>
 (kh aI).bind fun v4=>
 (ki bw).bind fun v5=>
 (vh [v2,v3,v4,v5,(fS hJ mL)]).bind fun v6=>
 if v6≠0 then
  some ([],v6)
 else
  (gB aa aI).bind fun v8=>
  (il (⟨aa,v8.qd,v8.dq,v8.open_,v8.bD,v8.ba,v8.aV,v8.bh,v8.cZ,v8.mf⟩:ax) bw mL).bind fun np=>
  (jd (⟨aa,np.qd,np.dq,np.open_,np.bD,np.ba,np.aV,np.bh,np.cZ,np.mf⟩:ax) (⟨ai,aa.Target,[]⟩:bF) aI hJ mL).bind fun mz=>
  some (mz.1,0)
def nz (aa:Campaign) (ai aI:Int):Option (Bool×Int):=
 (cV aa).bind fun v2=>
 (vh [v2,(fS ai aI)]).bind fun v3=>
 if v3≠0 then
  some (false,v3)
 else
  some ((ji aa ai aI),0)
def vi (aa:Bool) (ai:Int):Int:=
 if aa=true then
  ai
 else
  0
def HT (c1:Bool):Bool:=
 c1
def vK (aa ai aI:Int):Bool:=
 HT ((decide (ai≤aa))&&(decide (aa≤aI)))
def sX (aa ai:bn) (n2:Int):Option (Int⊕Bool):=
 if n2 < (aa.length:Int) then
  (idx aa n2).bind fun c3=>
  if (AH ai (c3.toNat:Int)) < 0 then
   ac .inr (some false)
  else
   some (.inl (bB (n2+1)))
 else
  ac .inr (some true)
def GP (aa ai:bn) (n2:Int):Option Bool:=
 iter (fun x:Int=>sX aa ai x) n2
def Cm (aa ai:bn):Option Bool:=
 GP aa ai 0
def w7 (c1:Bool):Option Bool:=
 some c1
def Ak (aa:bn):Option Bool:=
 if (vK (aa.length:Int) 1 40)=true then
  (A5 aa 0 1).bind fun l2=>
  (Cm l2 ([97,98,99,100,101,102,103,104,105,106,107,108,109,110,111,112,113,114,115,116,117,118,119,120,121,122]:bn)).bind fun v3=>
  if v3=true then
   (Cm aa ([97,98,99,100,101,102,103,104,105,106,107,108,109,110,111,112,113,114,115,116,117,118,119,120,121,122,48,49,50,51,52,53,54,55,56,57,45,95]:bn)).bind fun v4=>
   w7 v4
  else
   w7 false
 else
  w7 false
def pg (c2:Bool):Int:=
 if c2=true then
  1
 else
  0
def dP (aa:Version):Int:=
 pg ((!(vK aa.aA 0 9999))||((!(vK aa.aC 0 9999))||(!(vK aa.aD 0 9999))))
def w8 (aa:Int):Bool:=
 (vK aa 0 345686399999)
def og (n5 n6:Int) (v7:mH) (c9:Bool):Option ((Int×Int)⊕Int):=
 if c9=true then
  ac .inr (some 1)
 else
  some (.inl (bB (n5+v7.Part),bB (n6+1)))
def oh (Qx:Bool):Option Int:=
 if Qx=true then
  some 1
 else
  some 0
def re (aa:Campaign) (n5:Int):Option Int:=
 if n5≠1000 then
  some 15
 else
  oh ((!(vK aa.aZ.bS 0 86400000))||((!(vK aa.aZ.To 0 86400000))||(!(vK aa.Room 1 500))))
def lu (aa:Campaign) (n5 n6:Int):Option ((Int×Int)⊕Int):=
 if n6 < (aa.aR.length:Int) then
  (idx aa.aR n6).bind fun v7=>
  og n5 n6 v7 ((!(vK v7.Part 1 1000))||((!(vK v7.vg 0 2592000000))||((!(vK v7.Aj 1 500))||(!(vK v7.et 0 1000)))))
 else
  ac .inr (re aa n5)
def rf (aa:Campaign) (n5 n6:Int):Option Int:=
 iter (fun x:Int×Int=>lu aa x.1 x.2) (n5,n6)
def lX (aa:Campaign):Option Int:=
 (Ak aa.Key).bind fun v2=>
 if (!v2)=true then
  some 5
 else
  if (dP aa.Target)≠0 then
   some (dP aa.Target)
  else
   if (!(w8 aa.At))=true then
    some 1
   else
    if (aa.aR.length:Int)=0 then
     some 3
    else
     if 20 < (aa.aR.length:Int) then
      some 2
     else
      rf aa 0 0
def kH (aa:Int):Int:=
 (vi (!(w8 aa)) 1)
def zK (aa:List Int) (n2:Int):Option (Int⊕Int):=
 if n2 < (aa.length:Int) then
  (idx aa n2).bind fun v3=>
  if v3≠0 then
   ac .inr (some v3)
  else
   some (.inl (bB (n2+1)))
 else
  ac .inr (some 0)
def Oe (aa:List Int) (n2:Int):Option Int:=
 iter (fun x:Int=>zK aa x) n2
def Cn (aa:List Int):Option Int:=
 Oe aa 0
def pW (c2:Bool):Option Bool:=
 some c2
def sY (aa:Range) (ai:Version):Option Bool:=
 (ef aa.wC ai).bind fun v3=>
 if v3≤0 then
  (ef ai aa.mI).bind fun v4=>
  pW (decide (v4≤0))
 else
  pW false
def xM (aa:an) (ai:Version):Option Bool:=
 (dX aa.bS (fun y0=>sY y0 ai)).bind fun v3=>
 some v3
def nA (n3:Int) (Cl:Bool):Option (Int⊕Int):=
 if Cl=true then
  ac .inr (some 7)
 else
  some (.inl (bB (n3+1)))
def pX (aa:an) (n3:Int) (v4:Range):Option (Int⊕Int):=
 (ef v4.wC v4.mI).bind fun v10=>
 if 0 < v10 then
  ac .inr (some 1)
 else
  if 0 < n3 then
   (idx aa.bS (bB (n3 - 1))).bind fun v12=>
   (ef v4.wC v12.mI).bind fun gy=>
   nA n3 (decide (gy≤0))
  else
   nA n3 false
def eU (aa:an) (n3:Int) (v4:Range) (n7:Int):Option (Int⊕(Int⊕Int)):=
 if n7 < ([v4.wC,v4.mI].length:Int) then
  (idx [v4.wC,v4.mI] n7).bind fun v8=>
  if (dP v8)≠0 then
   ac .inr (ac .inr (some (dP v8)))
  else
   some (.inl (bB (n7+1)))
 else
  ac .inr (pX aa n3 v4)
def w9 (aa:an) (n3:Int) (v4:Range) (n7:Int):Option (Int⊕Int):=
 iter (fun x:Int=>eU aa n3 v4 x) n7
def sZ (aa:an):Option Int:=
 (xM aa aa.Version).bind fun qe=>
 if qe=true then
  some 14
 else
  some 0
def nB (aa:an) (n3:Int):Option (Int⊕Int):=
 if n3 < (aa.bS.length:Int) then
  (idx aa.bS n3).bind fun v4=>
  w9 aa n3 v4 0
 else
  ac .inr (sZ aa)
def xa (aa:an) (n3:Int):Option Int:=
 iter (fun x:Int=>nB aa x) n3
def qu (aa:an):Option Int:=
 if 20 < (aa.bS.length:Int) then
  some 2
 else
  xa aa 0
def nC (n9:Int) (c12:Bool):Option (Int⊕(Int⊕Int)):=
 if c12=true then
  ac .inr (ac .inr (some 7))
 else
  some (.inl (bB (n9+1)))
def s9 (n2:Int) (v3:an):Option (Int⊕Int):=
 (qu v3).bind fun qe=>
 if qe≠0 then
  ac .inr (some qe)
 else
  if (!(vK v3.cM 1 1000000000))=true then
   ac .inr (some 1)
  else
   some (.inl (bB (n2+1)))
def nD (n2:Int) (v3:an) (n9:Int):Option (Int⊕(Int⊕Int)):=
 if n9 < (v3.dc.length:Int) then
  (idx v3.dc n9).bind fun v10=>
  (Ak v10).bind fun v11=>
  if (!v11)=true then
   ac .inr (ac .inr (some 5))
  else
   if 0 < n9 then
    (idx v3.dc (bB (n9 - 1))).bind fun gy=>
    nC n9 (Op.bytesLess v10 gy||v10==gy)
   else
    nC n9 false
 else
  ac .inr (s9 n2 v3)
def xb (n2:Int) (v3:an) (n9:Int):Option (Int⊕Int):=
 iter (fun x:Int=>nD n2 v3 x) n9
def kP (n2:Int) (v3:an) (c5:Bool):Option (Int⊕Int):=
 if c5=true then
  ac .inr (some 7)
 else
  if (v3.dc.length:Int)=0 then
   ac .inr (some 3)
  else
   if 20 < (v3.dc.length:Int) then
    ac .inr (some 2)
   else
    xb n2 v3 0
def nE (aa:List an) (n2:Int):Option (Int⊕Int):=
 if n2 < (aa.length:Int) then
  (idx aa n2).bind fun v3=>
  if (dP v3.Version)≠0 then
   ac .inr (some (dP v3.Version))
  else
   if 0 < n2 then
    (idx aa (bB (n2 - 1))).bind fun v6=>
    (ef v6.Version v3.Version).bind fun v7=>
    kP n2 v3 (decide (0≤v7))
   else
    kP n2 v3 false
 else
  ac .inr (some 0)
def xc (aa:List an) (n2:Int):Option Int:=
 iter (fun x:Int=>nE aa x) n2
def qx (aa:List an):Option Int:=
 if 200 < (aa.length:Int) then
  some 2
 else
  xc aa 0
def j9 (q3:bn) (n4:Int) (v5:DeviceS) (c7:Bool):Option ((bn×Int)⊕Int):=
 if c7=true then
  ac .inr (some 5)
 else
  if (Op.bytesLess v5.Key q3||v5.Key==q3)=true then
   ac .inr (some 7)
  else
   if (dP v5.bQ)≠0 then
    ac .inr (some (dP v5.bQ))
   else
    if 20 < (v5.o5.length:Int) then
     ac .inr (some 2)
    else
     some (.inl (v5.Key,bB (n4+1)))
def lY (aa:List DeviceS) (q3:bn) (n4:Int):Option ((bn×Int)⊕Int):=
 if n4 < (aa.length:Int) then
  (idx aa n4).bind fun v5=>
  (Ak v5.Key).bind fun v8=>
  if (!v8)=true then
   j9 q3 n4 v5 true
  else
   (Ak v5.Model).bind fun v9=>
   if (!v9)=true then
    j9 q3 n4 v5 true
   else
    (Ak v5.fb).bind fun v10=>
    j9 q3 n4 v5 (!v10)
 else
  ac .inr (some 0)
def qT (aa:List DeviceS) (q3:bn) (n4:Int):Option Int:=
 iter (fun x:bn×Int=>lY aa x.1 x.2) (q3,n4)
def sf (aa:List DeviceS):Option Int:=
 if 500 < (aa.length:Int) then
  some 2
 else
  qT aa ([]:bn) 0
def oK (n2:Int) (c6:Bool):Option (Int⊕Int):=
 if c6=true then
  ac .inr (some 7)
 else
  some (.inl (bB (n2+1)))
def iM (aa:List MarkS) (n2:Int):Option (Int⊕Int):=
 if n2 < (aa.length:Int) then
  (idx aa n2).bind fun v3=>
  if (!(w8 v3.At))=true then
   ac .inr (some 1)
  else
   (Ak v3.Device).bind fun v5=>
   if (!v5)=true then
    ac .inr (some 5)
   else
    if (!(vK v3.Kind 1 5))=true then
     ac .inr (some 4)
    else
     if (dP v3.Version)≠0 then
      ac .inr (some (dP v3.Version))
     else
      if 0 < n2 then
       (idx aa (bB (n2 - 1))).bind fun v7=>
       oK n2 (decide (0≤(ie v7 v3)))
      else
       oK n2 false
 else
  ac .inr (some 0)
def yf (aa:List MarkS) (n2:Int):Option Int:=
 iter (fun x:Int=>iM aa x) n2
def sg (aa:List MarkS):Option Int:=
 if 3000 < (aa.length:Int) then
  some 2
 else
  yf aa 0
def xd (q3:bn) (n6 n7:Int):Option ((Int×Int)⊕Int):=
 if n7 < ((rb q3).length:Int) then
  (idx (rb q3) n7).bind fun v8=>
  some (.inl (IntKind.u64.wrap ((AB .u64 n6 (IntKind.u64.wrap (v8))) * 1099511628211),bB (n7+1)))
 else
  ac .inr (some (bB ((AB .u64 n6 (Hx .u64 n6 32)).tmod 1000)))
def By (q3:bn) (n6 n7:Int):Option Int:=
 iter (fun x:Int×Int=>xd q3 x.1 x.2) (n6,n7)
def EP (aa:Campaign) (ai:bn):Option Int:=
 (N3 aa.Key ([0]:bn)).bind fun q2=>
 (N3 q2 ai).bind fun q3=>
 By q3 14695981039346656037 0
def tZ (aa:Campaign) (n5 n6:Int):Option ((Int×Int)⊕Int):=
 if n6 < (aa.aR.length:Int) then
  (idx aa.aR n6).bind fun v7=>
  if (bB (n5 - v7.Part)) < 0 then
   ac .inr (some n6)
  else
   some (.inl (bB (n5 - v7.Part),bB (n6+1)))
 else
  ac .inr (some 0)
def zc (aa:Campaign) (n5 n6:Int):Option Int:=
 iter (fun x:Int×Int=>tZ aa x.1 x.2) (n5,n6)
def sh (aa:Campaign) (ai:bn):Option Int:=
 (EP aa ai).bind fun v2=>
 zc aa v2 0
def cJ (aa:List Int) (ai n2:Int):Option (Int⊕Int):=
 if n2 < (aa.length:Int) then
  (idx aa n2).bind fun v3=>
  if ai=v3 then
   ac .inr (some n2)
  else
   some (.inl (bB (n2+1)))
 else
  ac .inr (some (-1:Int))
def nF (aa:List Int) (ai n2:Int):Option Int:=
 iter (fun x:Int=>cJ aa ai x) n2
def jI (aa:List Int) (ai:Int):Option Int:=
 nF aa ai 0
def dF (aa:List Int) (ai:Int):Option Bool:=
 (jI aa ai).bind fun v1=>
 some (decide (0≤v1))
def oO (n7:Int) (l10:List MarkS):Option (((List MarkS)×Int)⊕(List MarkS)):=
 some (.inl (l10,bB (n7+1)))
def qy (n7:Int) (V9:List MarkS):Option (((List MarkS)×Int)⊕(List MarkS)):=
 oO n7 V9
def tD (l6:List MarkS) (n7:Int) (v11:MarkS) (c31:Bool):Option (((List MarkS)×Int)⊕(List MarkS)):=
 if c31=true then
  (app l6 [v11]).bind fun sC=>
  qy n7 sC
 else
  qy n7 l6
def oP (l6:List MarkS) (n7:Int) (v11:MarkS) (n15:Int) (q16:bn) (n17 n18 n19 n20:Int):Option (((List MarkS)×Int)⊕(List MarkS)):=
 (pc (bW (bW (bW (bW (bW ([]:List (Int×(List Int))) 1 [0,3,4]) 2 [1]) 5 [1]) 3 [2]) 4 [2]) v11.Kind []).bind fun qj=>
 (dF qj n17).bind fun v32=>
 tD l6 n7 v11 (v32&&((decide (v11.Kind=1))||(decide (v11.Version=(⟨n18,n19,n20⟩:Version)))))
def mM (l6:List MarkS) (n7:Int) (v11:MarkS) (Qz:Bool):Option (((List MarkS)×Int)⊕(List MarkS)):=
 if Qz=true then
  oO n7 l6
 else
  if 0≤(bB ((l6.length:Int) - 1)) then
   (idx l6 (bB ((l6.length:Int) - 1))).bind fun v21=>
   oP l6 n7 v11 v21.At v21.Device v21.Kind v21.Version.aA v21.Version.aC v21.Version.aD
  else
   oP l6 n7 v11 0 [] 0 0 0 0
def oQ (aa:Campaign) (ai:bn) (aI:List MarkS) (bw:Int) (l6:List MarkS) (n7:Int):Option (((List MarkS)×Int)⊕(List MarkS)):=
 if n7 < (aI.length:Int) then
  (idx aI n7).bind fun v11=>
  mM l6 n7 v11 ((decide (v11.Device≠ai))||((decide (v11.At < aa.At))||(decide (bw < v11.At))))
 else
  ac .inr (some l6)
def tE (aa:Campaign) (ai:bn) (aI:List MarkS) (bw:Int) (l6:List MarkS) (n7:Int):Option (List MarkS):=
 iter (fun x:(List MarkS)×Int=>oQ aa ai aI bw x.1 x.2) (l6,n7)
def ta (aa:Campaign) (ai:bn) (aI:List MarkS) (bw:Int):Option (List MarkS):=
 tE aa ai aI bw [] 0
def si (c2:Bool):Bool:=
 c2
def mw (aa:MarkS):Bool:=
 si ((decide (aa.Kind≠3))&&(decide (aa.Kind≠4)))
def gG (aa:List MarkS) (eC:MarkS→Option Bool) (n2:Int):Option (Int⊕Int):=
 if n2 < (aa.length:Int) then
  (idx aa n2).bind fun v3=>
  (eC v3).bind fun v4=>
  if v4=true then
   ac .inr (some n2)
  else
   some (.inl (bB (n2+1)))
 else
  ac .inr (some (-1:Int))
def ub (aa:List MarkS) (eC:MarkS→Option Bool) (n2:Int):Option Int:=
 iter (fun x:Int=>gG aa eC x) n2
def lv (aa:List MarkS) (eC:MarkS→Option Bool):Option Int:=
 ub aa eC 0
def ga (n7:Int) (js:List MarkS) (n12:Int):Option (((List MarkS)×Int×Int)⊕(List MarkS)):=
 some (.inl (js,n12,bB (n7+1)))
def nG (l5:List MarkS) (n6:Int):Option (List MarkS):=
 (A5 l5 n6 (l5.length:Int)).bind fun yF=>
 (A5 (DM l5 n6 yF.length (⟨0,[],0,(⟨0,0,0⟩:Version)⟩:MarkS)) 0 n6).bind fun yp=>
 some yp
def gb (eC:MarkS→Option Bool) (l5:List MarkS) (n6 n7:Int):Option (((List MarkS)×Int×Int)⊕(List MarkS)):=
 if n7 < (l5.length:Int) then
  (idx l5 n7).bind fun v8=>
  (eC v8).bind fun v10=>
  if (!v10)=true then
   (idx l5 n6).bind fun gy=>
   ga n7 (l5.set n6.toNat v8) (bB (n6+1))
  else
   ga n7 l5 n6
 else
  ac .inr (nG l5 n6)
def tb (eC:MarkS→Option Bool) (l5:List MarkS) (n6 n7:Int):Option (List MarkS):=
 iter (fun x:(List MarkS)×Int×Int=>gb eC x.1 x.2.1 x.2.2) (l5,n6,n7)
def fx (aa:List MarkS) (eC:MarkS→Option Bool):Option (List MarkS):=
 (lv aa eC).bind fun v1=>
 if v1=(-1:Int) then
  some aa
 else
  tb eC aa v1 (bB (v1+1))
def lP (aa:List MarkS) (eC:MarkS→MarkS→Option Int):Option (List MarkS):=
 Ek eC aa
def uc (n7:Int) (kT:List MarkS):Option (((List MarkS)×Int)⊕Int):=
 some (.inl (kT,bB (n7+1)))
def vZ (n24:Int) (v25:MarkS) (n27:Int) (YI:Bool):Option ((Int×Int)⊕Int):=
 if YI=true then
  ac .inr (some v25.At)
 else
  some (.inl (n27,bB (n24+1)))
def pC (aa:Campaign) (ai n24:Int) (v25:MarkS) (n27:Int):Option ((Int×Int)⊕Int):=
 (idx aa.aR ai).bind fun v28=>
 vZ n24 v25 n27 ((decide (v28.Aj≤(bB (n24+1))))&&(decide ((bB (v28.et * (bB (n24+1)))) < (bB (n27 * 1000)))))
def pD (aa:Campaign) (ai:Int) (v20:(List MarkS)) (n23 n24:Int):Option ((Int×Int)⊕Int):=
 if n24 < (v20.length:Int) then
  (idx v20 n24).bind fun v25=>
  if v25.Kind=4 then
   pC aa ai n24 v25 (bB (n23+1))
  else
   pC aa ai n24 v25 n23
 else
  ac .inr (some (-1:Int))
def wa (aa:Campaign) (ai:Int) (v20:(List MarkS)) (n23 n24:Int):Option Int:=
 iter (fun x:Int×Int=>pD aa ai v20 x.1 x.2) (n23,n24)
def wb (aa:Campaign) (ai:Int) (l6:List MarkS):Option Int:=
 (fx l6 (fun y0=>some (mw y0))).bind fun fg=>
 (pb fg.length (fun r:(List MarkS)=>r.length) (lP fg (fun y0 y1=>some (ie y0 y1)))).bind fun v20=>
 wa aa ai v20 0 0
def rI (aa:Campaign) (ai:Int) (aI:List DeviceS) (bw:List MarkS) (hJ:Int) (l6:List MarkS) (n7:Int):Option (((List MarkS)×Int)⊕Int):=
 if n7 < (aI.length:Int) then
  (idx aI n7).bind fun v9=>
  (sh aa v9.Key).bind fun v11=>
  if v11=ai then
   (ta aa v9.Key bw hJ).bind fun qe=>
   (app l6 qe).bind fun za=>
   uc n7 za
  else
   uc n7 l6
 else
  ac .inr (wb aa ai l6)
def wc (aa:Campaign) (ai:Int) (aI:List DeviceS) (bw:List MarkS) (hJ:Int) (l6:List MarkS) (n7:Int):Option Int:=
 iter (fun x:(List MarkS)×Int=>rI aa ai aI bw hJ x.1 x.2) (l6,n7)
def Bz (aa:Campaign) (ai:Int) (aI:List DeviceS) (bw:List MarkS) (hJ:Int):Option Int:=
 wc aa ai aI bw hJ [] 0
def pE (n5 n8:Int):Option ((Int×Int)⊕Int):=
 some (.inl (n8,bB (n5+1)))
def sj (n4 n5 v6:Int) (c7:Bool):Option ((Int×Int)⊕Int):=
 if c7=true then
  pE n5 v6
 else
  pE n5 n4
def nH (aa:Campaign) (ai:List DeviceS) (aI:List MarkS) (bw n4 n5:Int):Option ((Int×Int)⊕Int):=
 if n5 < (aa.aR.length:Int) then
  (Bz aa n5 ai aI bw).bind fun v6=>
  sj n4 n5 v6 ((decide (0≤v6))&&((decide (n4 < 0))||(decide (v6 < n4))))
 else
  ac .inr (some n4)
def sk (aa:Campaign) (ai:List DeviceS) (aI:List MarkS) (bw n4 n5:Int):Option Int:=
 iter (fun x:Int×Int=>nH aa ai aI bw x.1 x.2) (n4,n5)
def nW (aa:Campaign) (ai:List DeviceS) (aI:List MarkS) (bw:Int):Option Int:=
 sk aa ai aI bw (-1:Int) 0
def uI (c2:Bool):Bool:=
 c2
def uJ (c3:Bool):Bool:=
 c3
def nI (aa:Campaign) (ai aI:Int):Bool:=
 if aa.aZ.bS < aa.aZ.To then
  uI ((decide (aa.aZ.bS≤((bB ((bB (aI+ai))+86400000)).tmod 86400000)))&&(decide (((bB ((bB (aI+ai))+86400000)).tmod 86400000) < aa.aZ.To)))
 else
  if aa.aZ.To < aa.aZ.bS then
   uJ ((decide (aa.aZ.bS≤((bB ((bB (aI+ai))+86400000)).tmod 86400000)))||(decide (((bB ((bB (aI+ai))+86400000)).tmod 86400000) < aa.aZ.To)))
  else
   true
def ng (aa:List Int):Option (List Int):=
 Jj NT aa
def qz (n20:Int) (v21:MarkS) (n23 n24 n25 n26:Int):Option ((Int×Int×Int×Int×Int×Int×Int)⊕ak):=
 some (.inl (v21.Kind,v21.At,n23,n24,n25,n26,bB (n20+1)))
def qA (n16 n17 n18 n20:Int) (v21:MarkS) (n27:Int):Option ((Int×Int×Int×Int×Int×Int×Int)⊕ak):=
 qz n20 v21 n16 n17 n18 n27
def oR (v5:(List MarkS)) (n14 n15 n16 n17 n18 n19 n20:Int):Option ((Int×Int×Int×Int×Int×Int×Int)⊕ak):=
 if n20 < (v5.length:Int) then
  (idx v5 n20).bind fun v21=>
  if v21.Kind=3 then
   qz n20 v21 v21.Version.aA v21.Version.aC v21.Version.aD n19
  else
   if v21.Kind=4 then
    qA n16 n17 n18 n20 v21 (bB (n19+1))
   else
    qA n16 n17 n18 n20 v21 n19
 else
  ac .inr (some (⟨n14,n15,(⟨n16,n17,n18⟩:Version),n19⟩:ak))
def tF (v5:(List MarkS)) (n14 n15 n16 n17 n18 n19 n20:Int):Option ak:=
 iter (fun x:Int×Int×Int×Int×Int×Int×Int=>oR v5 x.1 x.2.1 x.2.2.1 x.2.2.2.1 x.2.2.2.2.1 x.2.2.2.2.2.1 x.2.2.2.2.2.2) (n14,n15,n16,n17,n18,n19,n20)
def ri (aa:Campaign) (ai:DeviceS) (aI:List MarkS) (bw:Int):Option ak:=
 (ta aa ai.Key aI bw).bind fun v5=>
 tF v5 0 0 ai.bQ.aA ai.bQ.aC ai.bQ.aD 0 0
def zL (c5:Bool):Option Bool:=
 some c5
def Cp (aa:Campaign) (ai:DeviceS) (aI:List MarkS) (bw:Int):Option Bool:=
 (ri aa ai aI bw).bind fun v3=>
 zL ((decide (v3.Version=aa.Target))||((decide (3≤v3.et))||(decide (v3.Kind=5))))
def kj (c2:Bool):Option Bool:=
 some c2
def kQ (aa:DeviceS) (ai:Campaign) (aI:Int) (bw:List MarkS) (hJ:Int):Option Bool:=
 (sh ai aa.Key).bind fun v3=>
 if v3=(bB (aI - 1)) then
  (Cp ai aa bw hJ).bind fun v4=>
  kj (!v4)
 else
  kj false
def eQ (aa:List DeviceS) (eC:DeviceS→Option Bool) (n2:Int):Option (Int⊕Int):=
 if n2 < (aa.length:Int) then
  (idx aa n2).bind fun v3=>
  (eC v3).bind fun v4=>
  if v4=true then
   ac .inr (some n2)
  else
   some (.inl (bB (n2+1)))
 else
  ac .inr (some (-1:Int))
def rO (aa:List DeviceS) (eC:DeviceS→Option Bool) (n2:Int):Option Int:=
 iter (fun x:Int=>eQ aa eC x) n2
def jj (aa:List DeviceS) (eC:DeviceS→Option Bool):Option Int:=
 rO aa eC 0
def eR (aa:List DeviceS) (eC:DeviceS→Option Bool):Option Bool:=
 (jj aa eC).bind fun v1=>
 some (decide (0≤v1))
def oS (aa:Int) (ai:List DeviceS) (aI:Campaign) (bw:Int) (hJ:List MarkS):Option Bool:=
 (eR ai (fun y0=>kQ y0 aI bw hJ aa)).bind fun v2=>
 some (!v2)
def iq (aa:List Int) (eC:Int→Option Bool) (n2:Int):Option (Int⊕Int):=
 if n2 < (aa.length:Int) then
  (idx aa n2).bind fun v3=>
  (eC v3).bind fun v4=>
  if v4=true then
   ac .inr (some n2)
  else
   some (.inl (bB (n2+1)))
 else
  ac .inr (some (-1:Int))
def uK (aa:List Int) (eC:Int→Option Bool) (n2:Int):Option Int:=
 iter (fun x:Int=>iq aa eC x) n2
def jw (aa:List Int) (eC:Int→Option Bool):Option Int:=
 uK aa eC 0
def qB (n26:Int) (HQ:List Int):Option (((List Int)×Int)⊕(((List Int)×Int×Int)⊕(List Int))):=
 some (.inl (HQ,bB (n26+1)))
def tG (kT:List Int) (n15 n18:Int) (c37:Bool):Option (((List Int)×Int×Int)⊕(List Int)):=
 if c37=true then
  ac .inr (some kT)
 else
  (app kT [n18]).bind fun l38=>
  some (.inl (l38,n18,bB (n15+1)))
def oT (bw v4:Int) (kT:List Int) (n15 n18:Int):Option (((List Int)×Int×Int)⊕(List Int)):=
 tG kT n15 n18 ((decide (bw < n18))||((decide (0≤v4))&&(decide (v4≤n18))))
def tH (aa:Campaign) (ai:List DeviceS) (aI:List MarkS) (bw v4:Int) (kT:List Int) (n15:Int) (r7:List Int):Option (((List Int)×Int×Int)⊕(List Int)):=
 (pb r7.length (fun r:(List Int)=>r.length) (ng r7)).bind fun v33=>
 (jw v33 (fun y0=>oS y0 ai aa n15 aI)).bind fun Ck=>
 if Ck < 0 then
  ac .inr (some kT)
 else
  (idx v33 Ck).bind fun v35=>
  (idx aa.aR n15).bind fun Qy=>
  oT bw v4 kT n15 (bB (v35+Qy.vg))
def oU (aa:Campaign) (ai:List DeviceS) (aI:List MarkS) (bw v4:Int) (kT:List Int) (n15 np:Int) (r7:List Int) (n26:Int):Option (((List Int)×Int)⊕(((List Int)×Int×Int)⊕(List Int))):=
 if n26 < (aI.length:Int) then
  (idx aI n26).bind fun mz=>
  if (vK mz.At np bw)=true then
   (app r7 [mz.At]).bind fun KS=>
   qB n26 KS
  else
   qB n26 r7
 else
  ac .inr (tH aa ai aI bw v4 kT n15 r7)
def tI (aa:Campaign) (ai:List DeviceS) (aI:List MarkS) (bw v4:Int) (kT:List Int) (n15 np:Int) (r7:List Int) (n26:Int):Option (((List Int)×Int×Int)⊕(List Int)):=
 iter (fun x:(List Int)×Int=>oU aa ai aI bw v4 kT n15 np x.1 x.2) (r7,n26)
def oV (aa:Campaign) (ai:List DeviceS) (aI:List MarkS) (bw v4:Int) (kT:List Int) (n14 n15:Int):Option (((List Int)×Int×Int)⊕(List Int)):=
 if n15 < (aa.aR.length:Int) then
  if 0 < n15 then
   (idx kT (bB (n15 - 1))).bind fun np=>
   tI aa ai aI bw v4 kT n15 np [np] 0
  else
   oT bw v4 kT n15 n14
 else
  ac .inr (some kT)
def kI (aa:Campaign) (ai:List DeviceS) (aI:List MarkS) (bw v4:Int) (kT:List Int) (n14 n15:Int):Option (List Int):=
 iter (fun x:(List Int)×Int×Int=>oV aa ai aI bw v4 x.1 x.2.1 x.2.2) (kT,n14,n15)
def tc (aa:Campaign) (ai:List DeviceS) (aI:List MarkS) (bw:Int):Option (List Int):=
 (nW aa ai aI bw).bind fun v4=>
 kI aa ai aI bw v4 [] aa.At 0
def zM (c2:Bool):Bool:=
 c2
def ER (aa:ak):Bool:=
 zM ((decide (aa.Kind=1))||(decide (aa.Kind=2)))
def mN (aa ai:DeviceS) (aI:Campaign):Option Int:=
 (sh aI aa.Key).bind fun v3=>
 (EP aI aa.Key).bind fun v4=>
 (sh aI ai.Key).bind fun v5=>
 (EP aI ai.Key).bind fun v6=>
 (eF [v3,v4] [v5,v6]).bind fun v7=>
 some v7
def dT (n4:Int) (l7:List DeviceS) (n8:Int) (c9:Bool):Option (((List DeviceS)×Int)⊕(((List DeviceS)×Int)⊕(List DeviceS))):=
 if c9=true then
  (idx l7 (bB (n8 - 1))).bind fun gy=>
  (idx l7 n8).bind fun qe=>
  (idx l7 n8).bind fun kU=>
  (idx (l7.set n8.toNat gy) (bB (n8 - 1))).bind fun sW=>
  some (.inl ((l7.set n8.toNat gy).set (bB (n8 - 1)).toNat qe,bB (n8 - 1)))
 else
  ac .inr (some (.inl (l7,bB (n4+1))))
def dU (ai:Int) (lS:DeviceS→DeviceS→Option Int) (n4:Int) (l7:List DeviceS) (n8:Int):Option (((List DeviceS)×Int)⊕(((List DeviceS)×Int)⊕(List DeviceS))):=
 if ai < n8 then
  (idx l7 n8).bind fun v10=>
  (idx l7 (bB (n8 - 1))).bind fun v11=>
  (lS v10 v11).bind fun v12=>
  dT n4 l7 n8 (decide (v12 < 0))
 else
  dT n4 l7 n8 false
def pY (ai:Int) (lS:DeviceS→DeviceS→Option Int) (n4:Int) (l7:List DeviceS) (n8:Int):Option (((List DeviceS)×Int)⊕(List DeviceS)):=
 iter (fun x:(List DeviceS)×Int=>dU ai lS n4 x.1 x.2) (l7,n8)
def dV (ai aI:Int) (lS:DeviceS→DeviceS→Option Int) (l3:List DeviceS) (n4:Int):Option (((List DeviceS)×Int)⊕(List DeviceS)):=
 if n4 < aI then
  pY ai lS n4 l3 n4
 else
  ac .inr (some l3)
def pZ (ai aI:Int) (lS:DeviceS→DeviceS→Option Int) (l3:List DeviceS) (n4:Int):Option (List DeviceS):=
 iter (fun x:(List DeviceS)×Int=>dV ai aI lS x.1 x.2) (l3,n4)
def dB (aa:List DeviceS) (ai aI:Int) (lS:DeviceS→DeviceS→Option Int):Option (List DeviceS):=
 pZ ai aI lS aa (bB (ai+1))
def nJ (ai n10:Int):Option (Int⊕(List DeviceS)):=
 if (bB (0+n10)) < ai then
  none
 else
  some (.inl (bB (n10 * 2)))
def gd (ai n10:Int):Option (Unit⊕(Int⊕(List DeviceS))):=
 if (bB (2 * n10))≤ai then
  none
 else
  ac .inr (nJ ai n10)
def td (ai n10:Int):Option (Int⊕(List DeviceS)):=
 iter (fun x:Unit=>gd ai n10) ()
def eo (ai:Int) (v8:(List DeviceS)) (n10:Int):Option (Int⊕(List DeviceS)):=
 if n10 < ai then
  td ai n10
 else
  ac .inr (some v8)
def nK (ai:Int) (v8:(List DeviceS)) (n10:Int):Option (List DeviceS):=
 iter (fun x:Int=>eo ai v8 x) n10
def jk (ai:Int) (yb:DeviceS→DeviceS→Option Int) (l4:List DeviceS) (n5:Int):Option (List DeviceS):=
 (pb l4.length (fun r:(List DeviceS)=>r.length) (dB l4 n5 ai yb)).bind fun v8=>
 nK ai v8 20
def ep (ai:Int) (yb:DeviceS→DeviceS→Option Int) (l4:List DeviceS) (n5 n6:Int):Option (((List DeviceS)×Int×Int)⊕(List DeviceS)):=
 if n6≤ai then
  (pb l4.length (fun r:(List DeviceS)=>r.length) (dB l4 n5 n6 yb)).bind fun v7=>
  some (.inl (v7,n6,bB (n6+20)))
 else
  ac .inr (jk ai yb l4 n5)
def nL (ai:Int) (yb:DeviceS→DeviceS→Option Int) (l4:List DeviceS) (n5 n6:Int):Option (List DeviceS):=
 iter (fun x:(List DeviceS)×Int×Int=>ep ai yb x.1 x.2.1 x.2.2) (l4,n5,n6)
def fy (aa:List DeviceS) (ai:Int) (yb:DeviceS→DeviceS→Option Int):Option (List DeviceS):=
 nL ai yb aa 0 20
def cK (aa:List DeviceS) (eC:DeviceS→DeviceS→Option Int):Option (List DeviceS):=
 (pb aa.length (fun r:(List DeviceS)=>r.length) (fy aa (aa.length:Int) eC)).bind fun v1=>
 some v1
def gQ (aa:List an):Option (List an):=
 app [] aa
def lx (c2:Bool):Option Bool:=
 some c2
def qU (aa:an) (ai:bn) (aI:Version):Option Bool:=
 (cC aa.dc ai).bind fun v3=>
 if (!v3)=true then
  lx true
 else
  (xM aa aI).bind fun v4=>
  lx (!v4)
def fA (n7:Int) (js:List an) (n12:Int):Option (((List an)×Int×Int)⊕(List an)):=
 some (.inl (js,n12,bB (n7+1)))
def mx (l5:List an) (n6:Int):Option (List an):=
 (A5 l5 n6 (l5.length:Int)).bind fun yF=>
 (A5 (DM l5 n6 yF.length (⟨(⟨0,0,0⟩:Version),[],[],0⟩:an)) 0 n6).bind fun yp=>
 some yp
def fB (eC:an→Option Bool) (l5:List an) (n6 n7:Int):Option (((List an)×Int×Int)⊕(List an)):=
 if n7 < (l5.length:Int) then
  (idx l5 n7).bind fun v8=>
  (eC v8).bind fun v10=>
  if (!v10)=true then
   (idx l5 n6).bind fun gy=>
   fA n7 (l5.set n6.toNat v8) (bB (n6+1))
  else
   fA n7 l5 n6
 else
  ac .inr (mx l5 n6)
def sn (eC:an→Option Bool) (l5:List an) (n6 n7:Int):Option (List an):=
 iter (fun x:(List an)×Int×Int=>fB eC x.1 x.2.1 x.2.2) (l5,n6,n7)
def gH (aa:List an) (eC:an→Option Bool):Option (List an):=
 (cj aa eC).bind fun v1=>
 if v1=(-1:Int) then
  some aa
 else
  sn eC aa v1 (bB (v1+1))
def so (aa:List an) (ai:bn) (aI:Version):Option (List an):=
 (gQ aa).bind fun v3=>
 (gH v3 (fun y0=>qU y0 ai aI)).bind fun v5=>
 some v5
def eN (aa:List Version):Option (List Version):=
 app [] aa
def dm (aa ai:List Version):Option Int:=
 if (aa.length:Int) < (ai.length:Int) then
  some (-1:Int)
 else
  some 0
def bK (aa ai:List Version) (yb:Version→Version→Option Int) (n2:Int):Option (Int⊕Int):=
 if n2 < (aa.length:Int) then
  (idx aa n2).bind fun v3=>
  if (ai.length:Int)≤n2 then
   ac .inr (some 1)
  else
   (idx ai n2).bind fun v5=>
   (yb v3 v5).bind fun v7=>
   if v7≠0 then
    ac .inr (some v7)
   else
    some (.inl (bB (n2+1)))
 else
  ac .inr (dm aa ai)
def ck (aa ai:List Version) (yb:Version→Version→Option Int) (n2:Int):Option Int:=
 iter (fun x:Int=>bK aa ai yb x) n2
def bU (aa ai:List Version) (yb:Version→Version→Option Int):Option Int:=
 ck aa ai yb 0
def tf (n23:Int) (YJ:List (Version×aF)):Option (((List (Version×aF))×Int)⊕((List (Version×aF))⊕(((List (Version×aF))×Int)⊕((List Version)×Bool)))):=
 some (.inl (YJ,bB (n23+1)))
def mP (Al:Version×aF) (vT:List (Version×aF)) (n23:Int) (v24:an) (C5:List Version) (YK:Bool):Option (((List (Version×aF))×Int)⊕((List (Version×aF))⊕(((List (Version×aF))×Int)⊕((List Version)×Bool)))):=
 if YK=true then
  tf n23 (bW vT v24.Version (⟨C5,bB (Al.2.bM+v24.cM)⟩:aF))
 else
  tf n23 vT
def om (Al:Version×aF) (fg:(List an)) (vT:List (Version×aF)) (n23:Int):Option (((List (Version×aF))×Int)⊕((List (Version×aF))⊕(((List (Version×aF))×Int)⊕((List Version)×Bool)))):=
 if n23 < (fg.length:Int) then
  (idx fg n23).bind fun v24=>
  (eN Al.2.o6).bind fun v26=>
  (app v26 [v24.Version]).bind fun C5=>
  (uD vT v24.Version (⟨[],0⟩:aF)).bind fun v32=>
  if (!v32.2)=true then
   mP Al vT n23 v24 C5 true
  else
   if (bB (Al.2.bM+v24.cM)) < v32.1.bM then
    mP Al vT n23 v24 C5 true
   else
    if (bB (Al.2.bM+v24.cM))=v32.1.bM then
     (bU C5 v32.1.o6 (fun y0 y1=>ef y0 y1)).bind fun v35=>
     mP Al vT n23 v24 C5 (decide (v35 < 0))
    else
     mP Al vT n23 v24 C5 false
 else
  ac .inr (some (.inl vT))
def ES (Al:Version×aF) (fg:(List an)) (vT:List (Version×aF)) (n23:Int):Option ((List (Version×aF))⊕(((List (Version×aF))×Int)⊕((List Version)×Bool))):=
 iter (fun x:(List (Version×aF))×Int=>om Al fg x.1 x.2) (vT,n23)
def tg (aa:List an) (ai:bn) (Al:Version×aF) (yp:List (Version×aF)):Option ((List (Version×aF))⊕(((List (Version×aF))×Int)⊕((List Version)×Bool))):=
 (so aa ai Al.1).bind fun fg=>
 ES Al fg yp 0
def vj (n9:Int) (yp:List (Version×aF)):Option (((List (Version×aF))×Int)⊕((List Version)×Bool)):=
 some (.inl (yp,bB (n9+1)))
def AJ (aa:List an) (ai:bn) (l8:List (Version×aF)) (n9:Int) (yp:List (Version×aF)):Option (((List (Version×aF))×Int)⊕((List Version)×Bool)):=
 Ep l8 (fun p=>vQ (fun e (x:(List (Version×aF)))=>tg aa ai e x) (fun x:(List (Version×aF))=>vj n9 x) p yp)
def mQ (aa:List an) (ai:bn) (bw:Version) (l8:List (Version×aF)) (n9:Int):Option (((List (Version×aF))×Int)⊕((List Version)×Bool)):=
 if n9 < (bB ((aa.length:Int)+1)) then
  (uD l8 bw (⟨[],0⟩:aF)).bind fun v10=>
  if v10.2=true then
   ac .inr (some (v10.1.o6,true))
  else
   AJ aa ai l8 n9 []
 else
  ac .inr (some ([],false))
def th (aa:List an) (ai:bn) (bw:Version) (l8:List (Version×aF)) (n9:Int):Option ((List Version)×Bool):=
 iter (fun x:(List (Version×aF))×Int=>mQ aa ai bw x.1 x.2) (l8,n9)
def we (aa:List an) (ai:bn) (aI bw:Version):Option ((List Version)×Bool):=
 th aa ai bw (bW ([]:List (Version×aF)) aI (⟨[],0⟩:aF)) 0
def oW (aa:an) (ai:List Version):Option Bool:=
 (idx ai 0).bind fun v2=>
 some (decide (aa.Version=v2))
def oX (n14 n20:Int) (vT:List DeviceS):Option ((Int×(List DeviceS)×Int)⊕(List cd)):=
 some (.inl (n20,vT,bB (n14+1)))
def qC (n11 n14:Int) (wK:List DeviceS):Option ((Int×(List DeviceS)×Int)⊕(List cd)):=
 oX n14 n11 wK
def qE (n11:Int) (kT:List DeviceS) (n14:Int) (sW:DeviceS) (YL:Bool):Option ((Int×(List DeviceS)×Int)⊕(List cd)):=
 if YL=true then
  (app kT [sW]).bind fun C5=>
  qC n11 n14 C5
 else
  qC n11 n14 kT
def mR (n38 n40:Int) (HR:List cd):Option ((Int×(List cd)×Int)⊕(List cd)):=
 some (.inl (n40,HR,bB (n38+1)))
def oY (ai:List an) (n35:Int) (MS:List cd) (n38:Int) (FF:DeviceS) (v46:(List Version)×Bool) (C4:Bool):Option ((Int×(List cd)×Int)⊕(List cd)):=
 if C4=true then
  mR n38 n35 MS
 else
  (cj ai (fun y0=>oW y0 v46.1)).bind fun v49=>
  (idx v46.1 0).bind fun v50=>
  (idx ai v49).bind fun v51=>
  (app MS [(⟨FF.Key,v50,v51.cM⟩:cd)]).bind fun l52=>
  mR n38 (bB (n35 - 1)) l52
def mS (aa:Campaign) (ai:List an) (bw:List MarkS) (mL:Int) (v30:(List DeviceS)) (n35:Int) (MS:List cd) (n38:Int):Option ((Int×(List cd)×Int)⊕(List cd)):=
 if n38 < (v30.length:Int) then
  (idx v30 n38).bind fun FF=>
  (ri aa FF bw mL).bind fun v45=>
  (we ai FF.Model v45.Version aa.Target).bind fun v46=>
  oY ai n35 MS n38 FF v46 ((!v46.2)||(decide (n35≤0)))
 else
  ac .inr (some MS)
def qF (aa:Campaign) (ai:List an) (bw:List MarkS) (mL:Int) (v30:(List DeviceS)) (n35:Int) (MS:List cd) (n38:Int):Option (List cd):=
 iter (fun x:Int×(List cd)×Int=>mS aa ai bw mL v30 x.1 x.2.1 x.2.2) (n35,MS,n38)
def qG (aa:Campaign) (ai:List an) (bw:List MarkS) (mL n11:Int) (kT:List DeviceS):Option (List cd):=
 (pb kT.length (fun r:(List DeviceS)=>r.length) (cK kT (fun y0 y1=>mN y0 y1 aa))).bind fun v30=>
 qF aa ai bw mL v30 n11 [] 0
def oZ (aa:Campaign) (ai:List an) (aI:List DeviceS) (bw:List MarkS) (mL:Int) (v5:(List Int)) (n11:Int) (kT:List DeviceS) (n14:Int):Option ((Int×(List DeviceS)×Int)⊕(List cd)):=
 if n14 < (aI.length:Int) then
  (idx aI n14).bind fun sW=>
  (ri aa sW bw mL).bind fun fg=>
  if (ER fg)=true then
   oX n14 (bB (n11 - 1)) kT
  else
   (sh aa sW.Key).bind fun v24=>
   if v24 < (v5.length:Int) then
    (Cp aa sW bw mL).bind fun v25=>
    qE n11 kT n14 sW (!v25)
   else
    qE n11 kT n14 sW false
 else
  ac .inr (qG aa ai bw mL n11 kT)
def wD (aa:Campaign) (ai:List an) (aI:List DeviceS) (bw:List MarkS) (mL:Int) (v5:(List Int)) (n11:Int) (kT:List DeviceS) (n14:Int):Option (List cd):=
 iter (fun x:Int×(List DeviceS)×Int=>oZ aa ai aI bw mL v5 x.1 x.2.1 x.2.2) (n11,kT,n14)
def qH (aa:Campaign) (ai:List an) (aI:List DeviceS) (bw:List MarkS) (mL:Int) (c2:Bool):Option (List cd):=
 if c2=true then
  some []
 else
  (tc aa aI bw mL).bind fun v5=>
  wD aa ai aI bw mL v5 aa.Room [] 0
def rj (aa:Campaign) (ai:List an) (aI:List DeviceS) (bw:List MarkS) (hJ mL:Int):Option (List cd):=
 (nW aa aI bw mL).bind fun v3=>
 qH aa ai aI bw mL ((decide (0≤v3))||(!(nI aa hJ mL)))
def ir (aa ai:List cd) (n2:Int):Option (Int⊕Bool):=
 if n2 < (aa.length:Int) then
  (idx aa n2).bind fun v3=>
  (idx ai n2).bind fun v4=>
  if v3≠v4 then
   ac .inr (some false)
  else
   some (.inl (bB (n2+1)))
 else
  ac .inr (some true)
def uL (aa ai:List cd) (n2:Int):Option Bool:=
 iter (fun x:Int=>ir aa ai x) n2
def eV (aa ai:List cd):Option Bool:=
 if (aa.length:Int)≠(ai.length:Int) then
  some false
 else
  uL aa ai 0
def pF (n4:Int) (c5:Bool):Option (Int⊕(Int×Bool)):=
 if c5=true then
  ac .inr (some (0,false))
 else
  some (.inl (bB (n4+1)))
def sq (aa:bn):Option (Int×Bool):=
 (JC aa).bind fun v8=>
 some (v8.1,v8.2)
def fT (aa:bn) (n4:Int):Option (Int⊕(Int×Bool)):=
 if n4 < ((Lib.trimPrefix aa ([45]:bn)).length:Int) then
  (idx (Lib.trimPrefix aa ([45]:bn)) n4).bind fun c6=>
  if (c6.toNat:Int) < 48 then
   pF n4 true
  else
   (idx (Lib.trimPrefix aa ([45]:bn)) n4).bind fun c7=>
   pF n4 (decide (57 < (c7.toNat:Int)))
 else
  ac .inr (sq aa)
def vk (aa:bn) (n4:Int):Option (Int×Bool):=
 iter (fun x:Int=>fT aa x) n4
def nM (aa:bn) (c1:Bool):Option (Int×Bool):=
 if c1=true then
  some (0,false)
 else
  vk aa 0
def ud (aa:bn) (ai:Int):Option (Int×Bool):=
 if (Lib.trimPrefix aa ([45]:bn))=([]:bn) then
  nM aa true
 else
  if ai < ((Lib.trimPrefix aa ([45]:bn)).length:Int) then
   nM aa true
  else
   (idx (Lib.trimPrefix aa ([45]:bn)) 0).bind fun c2=>
   nM aa ((decide ((c2.toNat:Int)=48))&&((decide (1 < ((Lib.trimPrefix aa ([45]:bn)).length:Int)))||(decide (((Lib.trimPrefix aa ([45]:bn)).length:Int) < (aa.length:Int)))))
def lZ (aa:List bn) (ai:Int) (l5:List Int) (n6:Int):Option (((List Int)×Int)⊕((List Int)×Bool)):=
 if n6 < (aa.length:Int) then
  (idx aa n6).bind fun v8=>
  (ud v8 ai).bind fun v9=>
  if (!v9.2)=true then
   ac .inr (some ([],false))
  else
   (app l5 [v9.1]).bind fun js=>
   some (.inl (js,bB (n6+1)))
 else
  ac .inr (some (l5,true))
def qV (aa:List bn) (ai:Int) (l5:List Int) (n6:Int):Option ((List Int)×Bool):=
 iter (fun x:(List Int)×Int=>lZ aa ai x.1 x.2) (l5,n6)
def sr (aa:List bn) (ai:Int):Option ((List Int)×Bool):=
 qV aa ai [] 0
def jx (v4:(List Int)×Bool) (c6:Bool):Option (Version×Int):=
 if c6=true then
  some ((⟨0,0,0⟩:Version),9)
 else
  (idx v4.1 0).bind fun v7=>
  (idx v4.1 1).bind fun v8=>
  (idx v4.1 2).bind fun v9=>
  if (!(gW (⟨v7,v8,v9⟩:Version)))=true then
   some ((⟨0,0,0⟩:Version),9)
  else
   some ((⟨v7,v8,v9⟩:Version),0)
def je (aa:bn):Option (Version×Int):=
 (EK aa ([46]:bn)).bind fun v2=>
 (sr v2 4).bind fun v4=>
 jx v4 ((!v4.2)||(decide ((v4.1.length:Int)≠3)))
def su (c3:Bool):Option Bool:=
 some c3
def rJ:Option Bool:=
 (je ([49,46,50,46,51]:bn)).bind fun v1=>
 su ((decide (v1.2=0))&&(decide (v1.1=(⟨1,2,3⟩:Version))))
def eO (YM:Bool):Option Bool:=
 some YM
def l0 (v2:Campaign×ah) (v8 v9:Int×ah) (gy:(List cd)×Int) (kU:Bool×Int) (fg v23:Int) (r7:List cd):Option Bool:=
 if kU.2=fg then
  if fg=0 then
   if (kU.1==(nI v2.1 v9.1 v8.1))=true then
    if gy.2=v23 then
     (eV gy.1 r7).bind fun v30=>
     if v30=true then
      (rJ).bind fun v31=>
      eO v31
     else
      eO false
    else
     eO false
   else
    eO false
  else
   if (kU.1==false)=true then
    if gy.2=v23 then
     (eV gy.1 r7).bind fun v32=>
     if v32=true then
      (rJ).bind fun v33=>
      eO v33
     else
      eO false
    else
     eO false
   else
    eO false
 else
  eO false
def ma (v2:Campaign×ah) (v3:(List an)×ah) (v5:(List DeviceS)×ah) (v8 v9:Int×ah) (v11:(List MarkS)×ah) (gy:(List cd)×Int) (kU:Bool×Int) (n16:Int):Option Bool:=
 (lX v2.1).bind fun v17=>
 (Cn [v17,n16,(kH v8.1)]).bind fun fg=>
 (lX v2.1).bind fun np=>
 (qx v3.1).bind fun v20=>
 (sf v5.1).bind fun v21=>
 (sg v11.1).bind fun v22=>
 (Cn [np,v20,v21,v22,n16,(kH v8.1)]).bind fun v23=>
 if v23=0 then
  (rj v2.1 v3.1 v5.1 v11.1 v9.1 v8.1).bind fun v26=>
  l0 v2 v8 v9 gy kU fg v23 v26
 else
  l0 v2 v8 v9 gy kU fg v23 []
def sv (aa:List Int):Option Bool:=
 (ox (⟨aa,0⟩:ah)).bind fun v2=>
 (qq v2.2).bind fun v3=>
 (r8 v3.2 6).bind fun v5=>
 (cA v5.2 [0,10,50,100,150,300,(-1:Int)]).bind fun v8=>
 (cA v8.2 [0,0,3600000,(-100:Int),86400000,(-86400000:Int),86400001]).bind fun v9=>
 (jr v9.2 0 14).bind fun v10=>
 (r9 v10.2 v2.1 v5.1 v10.1).bind fun v11=>
 (iL v2.1 v3.1 v5.1 v11.1 v9.1 v8.1).bind fun gy=>
 (nz v2.1 v9.1 v8.1).bind fun kU=>
 if v9.1 < (-86400000:Int) then
  ma v2 v3 v5 v8 v9 v11 gy kU (vi true 1)
 else
  ma v2 v3 v5 v8 v9 v11 gy kU (vi (decide (86400000 < v9.1)) 1)
end
end Go.Beacon
