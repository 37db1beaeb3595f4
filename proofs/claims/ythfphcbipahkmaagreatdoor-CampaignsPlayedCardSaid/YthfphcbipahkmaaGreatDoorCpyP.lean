/- Plain functions that the Go functions compute, written by shal.py. -/
import Derived.Test.YthfphcbipahkmaaGreatDoorCore
open Option renaming map→ac
set_option linter.unusedVariables false
namespace Go.Beacon
open Go Go.Eng
noncomputable section
structure ah where
 L:List Int
 at_:Int
deriving DecidableEq,Inhabited
structure Version where
 aA:Int
 aD:Int
 aF:Int
deriving DecidableEq,Inhabited
def Version.av (x:Version):AV:=.agg [I x.aA,I x.aD,I x.aF]
instance:vU Version:=⟨fun a b=>(vU.lt a.aA b.aA||(decide (a.aA=b.aA)&&(vU.lt a.aD b.aD||(decide (a.aD=b.aD)&&(vU.lt a.aF b.aF||(decide (a.aF=b.aF)&&false))))))⟩
structure ml where
 Part:Int
 sx:Int
 zC:Int
 ed:Int
deriving DecidableEq,Inhabited
def ml.av (x:ml):AV:=.agg [I x.Part,I x.sx,I x.zC,I x.ed]
structure eQ where
 bF:Int
 To:Int
deriving DecidableEq,Inhabited
def eQ.av (x:eQ):AV:=.agg [I x.bF,I x.To]
structure Campaign where
 Key:bj
 Target:Version
 At:Int
 aI:List ml
 aZ:eQ
 Room:Int
deriving DecidableEq,Inhabited
def Campaign.av (x:Campaign):AV:=.agg [.str x.Key,I x.Target.aA,I x.Target.aD,I x.Target.aF,I x.At,.list 4 (x.aI.map ml.av),I x.aZ.bF,I x.aZ.To,I x.Room]
structure Range where
 vM:Version
 mn:Version
deriving DecidableEq,Inhabited
def Range.av (x:Range):AV:=.agg [I x.vM.aA,I x.vM.aD,I x.vM.aF,I x.mn.aA,I x.mn.aD,I x.mn.aF]
structure ak where
 Version:Version
 df:List bj
 bF:List Range
 cW:Int
deriving DecidableEq,Inhabited
def ak.av (x:ak):AV:=.agg [I x.Version.aA,I x.Version.aD,I x.Version.aF,.list 1 (x.df.map AV.str),.list 6 (x.bF.map Range.av),I x.cW]
structure Nr where
 Name:bj
 Value:bj
deriving DecidableEq,Inhabited
def Nr.av (x:Nr):AV:=.agg [.str x.Name,.str x.Value]
structure DeviceS where
 Key:bj
 Model:bj
 eR:bj
 bR:Version
 oF:List Nr
deriving DecidableEq,Inhabited
def DeviceS.av (x:DeviceS):AV:=.agg [.str x.Key,.str x.Model,.str x.eR,I x.bR.aA,I x.bR.aD,I x.bR.aF,.list 2 (x.oF.map Nr.av)]
structure an where
 Kind:Int
 Since:Int
 Version:Version
 ed:Int
deriving DecidableEq,Inhabited
def an.av (x:an):AV:=.agg [I x.Kind,I x.Since,I x.Version.aA,I x.Version.aD,I x.Version.aF,I x.ed]
structure aq where
 an:an
 aX:Version
deriving DecidableEq,Inhabited
structure aB where
 c_:Campaign
 nw:List (bj×Int)
 cL:List (bj×Int)
 open_:List Int
 bt:List Int
 aY:List Int
 aN:List Int
 bf:Int
 cw:Int
 kd:List aq
deriving DecidableEq,Inhabited
structure ao where
 cd:Int
 bP:Int
deriving DecidableEq,Inhabited
def ao.av (x:ao):AV:=.agg [I x.cd,I x.bP]
structure aQ where
 nF:List ak
 Eb:Version
 fA:List (bj×(List (Version×ao)))
deriving DecidableEq,Inhabited
structure MarkS where
 At:Int
 Device:bj
 Kind:Int
 Version:Version
deriving DecidableEq,Inhabited
def MarkS.av (x:MarkS):AV:=.agg [I x.At,.str x.Device,I x.Kind,I x.Version.aA,I x.Version.aD,I x.Version.aF]
structure cx where
 Device:bj
 Version:Version
 cW:Int
deriving DecidableEq,Inhabited
def cx.av (x:cx):AV:=.agg [.str x.Device,I x.Version.aA,I x.Version.aD,I x.Version.aF,I x.cW]
structure aE where
 oG:List Version
 bP:Int
deriving DecidableEq,Inhabited
def aE.av (x:aE):AV:=.agg [.list 3 (x.oG.map Version.av),I x.bP]
def yn (n2:Int):Option Int:=
 some n2
def Below (aa ai:Int):Option Int:=
 if ai < 1 then
  some 0
 else
  (rem aa ai).bind fun n1=>
  if n1 < 0 then
   yn (bE (n1+ai))
  else
   yn n1
def eN (aa:ah) (ai:Int):Option (Int×ah):=
 if (aa.L.length:Int)=0 then
  (Below (bE ((bE (aa.at_+1)) * 7919)) ai).bind fun v1=>
  some (v1,(⟨aa.L,bE (aa.at_+1)⟩:ah))
 else
  (rem (bE ((bE (aa.at_+1)) - 1)) (aa.L.length:Int)).bind fun n2=>
  (quo (bE ((bE (aa.at_+1)) - 1)) (aa.L.length:Int)).bind fun n3=>
  (idx aa.L n2).bind fun v4=>
  (Below v4 1073741824).bind fun v5=>
  (Below (bE (v5+(bE (n3 * (bE (7919+n2)))))) ai).bind fun v6=>
  some (v6,(⟨aa.L,bE (aa.at_+1)⟩:ah))
def kD (aa:ah) (ai:List bj):Option (bj×ah):=
 (eN aa (ai.length:Int)).bind fun v1=>
 (idx ai v1.1).bind fun v2=>
 some (v2,v1.2)
def cU (aa:ah) (ai:List Int):Option (Int×ah):=
 (eN aa (ai.length:Int)).bind fun v1=>
 (idx ai v1.1).bind fun v2=>
 some (v2,v1.2)
def whole (aa:Int):Version:=
 (⟨aa,0,0⟩:Version)
def eO (aa:ah) (ai:Int):Option (Bool×ah):=
 (eN aa ai).bind fun v1=>
 some (decide (v1.1=0),v1.2)
def gQ (v2:bj×ah) (v3 v4 v5:Int×ah) (wS:List ml) (BI:List Int) (n28 n29 n30:Int):Option (Campaign×ah):=
 some ((⟨v2.1,(whole v3.1),v4.1,wS,(⟨n29,n30⟩:eQ),v5.1⟩:Campaign),(⟨BI,n28⟩:ah))
def mM (v2:bj×ah) (v3 v4 v5:Int×ah) (oK:List Int) (n15:Int) (wS:List ml):Option (Campaign×ah):=
 (eO (⟨oK,n15⟩:ah) 3).bind fun v26=>
 if v26.1=true then
  (cU v26.2 [0,50,3600000]).bind fun v31=>
  (cU v31.2 [0,40,200,86400000]).bind fun v32=>
  gQ v2 v3 v4 v5 wS v32.2.L v32.2.at_ v31.1 v32.1
 else
  gQ v2 v3 v4 v5 wS v26.2.L v26.2.at_ 0 0
def gR (v2:bj×ah) (v3 v4 v5:Int×ah) (v8 oK:List Int) (n15:Int) (wS:List ml) (n18:Int):Option (((List Int)×Int×(List ml)×Int)⊕(Campaign×ah)):=
 if n18 < (v8.length:Int) then
  (idx v8 n18).bind fun v20=>
  (cU (⟨oK,n15⟩:ah) [0,0,10,30]).bind fun v21=>
  (cU v21.2 [1,1,2,3]).bind fun v22=>
  (cU v22.2 [0,300,500,1000]).bind fun v23=>
  (app wS [(⟨v20,v21.1,v22.1,v23.1⟩:ml)]).bind fun yY=>
  some (.inl (v23.2.L,v23.2.at_,yY,bE (n18+1)))
 else
  ac .inr (mM v2 v3 v4 v5 oK n15 wS)
def qS (v2:bj×ah) (v3 v4 v5:Int×ah) (v8 oK:List Int) (n15:Int) (wS:List ml) (n18:Int):Option (Campaign×ah):=
 iter (fun x:(List Int)×Int×(List ml)×Int=>gR v2 v3 v4 v5 v8 x.1 x.2.1 x.2.2.1 x.2.2.2) (oK,n15,wS,n18)
def jv (aa:ah):Option (Campaign×ah):=
 (kD aa [([99]:bj),([107]:bj),([122,57]:bj)]).bind fun v2=>
 (cU v2.2 [2,3,4]).bind fun v3=>
 (cU v3.2 [0,10,100]).bind fun v4=>
 (cU v4.2 [1,2,5]).bind fun v5=>
 (eN v5.2 4).bind fun v7=>
 (idx [[1000],[500,500],[200,300,500],[100,900]] v7.1).bind fun v8=>
 qS v2 v3 v4 v5 v8 v7.2.L v7.2.at_ [] 0
def lS (aa:ah) (ai aH:Int):Option (Int×ah):=
 if aH < ai then
  some (ai,aa)
 else
  (eN aa (bE ((bE (aH - ai))+1))).bind fun v1=>
  some (bE (ai+v1.1),v1.2)
def gi (aa:ah):Option (Version×ah):=
 (lS aa 1 4).bind fun v2=>
 (cU v2.2 [0,0,1,5,9999]).bind fun v3=>
 (cU v3.2 [0,0,0,3,9999]).bind fun v4=>
 some ((⟨v2.1,v3.1,v4.1⟩:Version),v4.2)
def eS (aa:ah) (ai aH:Int):Option (Int×ah):=
 (eO aa 12).bind fun v1=>
 if v1.1=true then
  (cU v1.2 [bE (ai - 1),bE (aH+1),ai,aH,(-1099511627776:Int),1099511627776]).bind fun v2=>
  some (v2.1,v2.2)
 else
  (lS v1.2 ai aH).bind fun v3=>
  some (v3.1,v3.2)
def jJ (v2:Version×ah) (l5:List Int) (n6 n7 n8:Int):Option (Version×ah):=
 some ((⟨v2.1.aA,n7,n8⟩:Version),(⟨l5,n6⟩:ah))
def fB (aa:ah):Option (Version×ah):=
 (gi aa).bind fun v2=>
 (eO v2.2 30).bind fun v4=>
 if v4.1=true then
  (eS v4.2 0 9999).bind fun v9=>
  (eS v9.2 0 9999).bind fun v10=>
  jJ v2 v10.2.L v10.2.at_ v10.1 v9.1
 else
  jJ v2 v4.2.L v4.2.at_ v2.1.aD v2.1.aF
def kX (l6:List Int) (n7:Int) (q8:bj) (n9 n10 n11 n12:Int) (oK:List ml) (n15 n16 n17:Int):Option (Campaign×ah):=
 some ((⟨q8,(⟨n9,n10,n11⟩:Version),n12,oK,(⟨n15,n16⟩:eQ),n17⟩:Campaign),(⟨l6,n7⟩:ah))
def kY (Fb:List Int) (n20:Int) (WW:bj) (n22 n23 n24 n25:Int) (BI:List ml) (n28 n29 n30:Int):Option (Campaign×ah):=
 kX Fb n20 WW n22 n23 n24 n25 BI n28 n29 n30
def kZ (v2:Campaign×ah) (WX:List Int) (n33 n34 n35 n36 n37:Int) (VH:List ml) (n40 n41 n42:Int):Option (Campaign×ah):=
 kY WX n33 v2.1.Key n34 n35 n36 n37 VH n40 n41 n42
def lf (v2:Campaign×ah) (Ns:List Int) (n45 n46:Int) (AW:List ml) (n49 n50 n51:Int):Option (Campaign×ah):=
 kZ v2 Ns n45 v2.1.Target.aA v2.1.Target.aD v2.1.Target.aF n46 AW n49 n50 n51
def lg (v2:Campaign×ah) (Fc:List Int) (WY:Int) (PJ:List ml) (n57 WZ n59:Int):Option (Campaign×ah):=
 lf v2 Fc WY v2.1.At PJ n57 WZ n59
def lh (v2:Campaign×ah) (Oj:List Int) (W0 n68 n69 W1:Int):Option (Campaign×ah):=
 lg v2 Oj W0 v2.1.aI n68 n69 W1
def nV (aa:ah):Option (Campaign×ah):=
 (jv aa).bind fun v2=>
 (eO v2.2 12).bind fun v5=>
 if v5.1=true then
  (eN v5.2 6).bind fun ub=>
  if ub.1=0 then
   (kD ub.2 [([]:bj),([65]:bj)]).bind fun v31=>
   kY v31.2.L v31.2.at_ v31.1 v2.1.Target.aA v2.1.Target.aD v2.1.Target.aF v2.1.At v2.1.aI v2.1.aZ.bF v2.1.aZ.To v2.1.Room
  else
   if ub.1=1 then
    (fB ub.2).bind fun zk=>
    kZ v2 zk.2.L zk.2.at_ zk.1.aA zk.1.aD zk.1.aF v2.1.At v2.1.aI v2.1.aZ.bF v2.1.aZ.To v2.1.Room
   else
    if ub.1=2 then
     (eS ub.2 0 100).bind fun VI=>
     lf v2 VI.2.L VI.2.at_ VI.1 v2.1.aI v2.1.aZ.bF v2.1.aZ.To v2.1.Room
    else
     if ub.1=3 then
      (eS ub.2 1 1000).bind fun v60=>
      (eS v60.2 0 10).bind fun La=>
      (eS La.2 1 500).bind fun PK=>
      (eS PK.2 0 1000).bind fun Ma=>
      (app v2.1.aI [(⟨v60.1,La.1,PK.1,Ma.1⟩:ml)]).bind fun l64=>
      lg v2 Ma.2.L Ma.2.at_ l64 v2.1.aZ.bF v2.1.aZ.To v2.1.Room
     else
      if ub.1=4 then
       (eS ub.2 0 86400000).bind fun HT=>
       (eS HT.2 0 86400000).bind fun v72=>
       lh v2 v72.2.L v72.2.at_ HT.1 v72.1 v2.1.Room
      else
       (eS ub.2 1 500).bind fun VJ=>
       lh v2 VJ.2.L VJ.2.at_ v2.1.aZ.bF v2.1.aZ.To VJ.1
 else
  kX v5.2.L v5.2.at_ v2.1.Key v2.1.Target.aA v2.1.Target.aD v2.1.Target.aF v2.1.At v2.1.aI v2.1.aZ.bF v2.1.aZ.To v2.1.Room
def cmp_isNaN_int (aa:Int):Bool:=
 decide (aa≠aa)
def cmp_Compare_int (aa ai:Int):Int:=
 if (cmp_isNaN_int aa)=true then
  if (cmp_isNaN_int ai)=true then
   0
  else
   (-1:Int)
 else
  if (cmp_isNaN_int ai)=true then
   1
  else
   if aa < ai then
    (-1:Int)
   else
    if ai < aa then
     1
    else
     0
def iP (aa ai:List Int):Option Int:=
 if (aa.length:Int) < (ai.length:Int) then
  some (-1:Int)
 else
  some 0
def bu (aa ai:List Int) (n2:Int):Option (Int⊕Int):=
 if n2 < (aa.length:Int) then
  (idx aa n2).bind fun v3=>
  if (ai.length:Int)≤n2 then
   ac .inr (some 1)
  else
   (idx ai n2).bind fun v4=>
   if (cmp_Compare_int v3 v4)≠0 then
    ac .inr (some (cmp_Compare_int v3 v4))
   else
    some (.inl (bE (n2+1)))
 else
  ac .inr (iP aa ai)
def fU (aa ai:List Int) (n2:Int):Option Int:=
 iter (fun x:Int=>bu aa ai x) n2
def ew (aa ai:List Int):Option Int:=
 fU aa ai 0
def ee (aa ai:Version):Option Int:=
 (ew [aa.aA,aa.aD,aa.aF] [ai.aA,ai.aD,ai.aF]).bind fun v3=>
 some v3
def eT (n21:Int) (vl:List Int) (n23:Int) (x3:List ak):Option (((List Int)×Int×(List ak)×Int)⊕(((List Int)×Int×(List ak)×Int)⊕((List ak)×ah))):=
 some (.inl (vl,n23,x3,bE (n21+1)))
def gr (n10:Int) (jS:List ak) (n21 v26:Int) (Av:List bj) (v30:Int×ah) (sa:List Int) (n36:Int) (Fc:List Range):Option (((List Int)×Int×(List ak)×Int)⊕(((List Int)×Int×(List ak)×Int)⊕((List ak)×ah))):=
 (app jS [(⟨(⟨n10,v26,0⟩:Version),Av,Fc,v30.1⟩:ak)]).bind fun PJ=>
 eT n21 sa n36 PJ
def gu (n10:Int) (jS:List ak) (n21 v26:Int) (Av:List bj) (v30:Int×ah) (sa:List Int) (n36:Int) (Ke:List Range) (n41 n42 n43 n44 n45:Int) (c49:Bool):Option (((List Int)×Int×(List ak)×Int)⊕(((List Int)×Int×(List ak)×Int)⊕((List ak)×ah))):=
 if c49=true then
  (app Ke [(⟨(⟨n41,n42,n43⟩:Version),(⟨n44,n45,9999⟩:Version)⟩:Range)]).bind fun PL=>
  gr n10 jS n21 v26 Av v30 sa n36 PL
 else
  gr n10 jS n21 v26 Av v30 sa n36 Ke
def gw (n10:Int) (jS:List ak) (n21 v26:Int) (Av:List bj) (v30:Int×ah) (sa:List Int) (n36:Int) (Ke:List Range) (n41 n42 n43 n44 n45:Int):Option (((List Int)×Int×(List ak)×Int)⊕(((List Int)×Int×(List ak)×Int)⊕((List ak)×ah))):=
 if (Ke.length:Int)=0 then
  gu n10 jS n21 v26 Av v30 sa n36 Ke n41 n42 n43 n44 n45 true
 else
  (idx Ke 0).bind fun v50=>
  (ee v50.mn (⟨n41,n42,n43⟩:Version)).bind fun v51=>
  gu n10 jS n21 v26 Av v30 sa n36 Ke n41 n42 n43 n44 n45 (decide (v51 < 0))
def iX (n10:Int) (jS:List ak) (n21 v26:Int) (Av:List bj) (v30 v32 v33:Int×ah) (sa:List Int) (n36:Int) (c37:Bool):Option (((List Int)×Int×(List ak)×Int)⊕(((List Int)×Int×(List ak)×Int)⊕((List ak)×ah))):=
 if c37=true then
  (app ([]:List Range) [(⟨(whole v32.1),(whole v32.1)⟩:Range)]).bind fun Kf=>
  gw n10 jS n21 v26 Av v30 sa n36 Kf ((whole n10).aA) ((whole n10).aD) ((whole n10).aF) n10 4
 else
  gw n10 jS n21 v26 Av v30 sa n36 [] ((whole v32.1).aA) ((whole v32.1).aD) ((whole v32.1).aF) (bE (n10 - 1)) v33.1
def iY (n10:Int) (wS:List Int) (n18:Int) (jS:List ak) (n21:Int):Option (((List Int)×Int×(List ak)×Int)⊕(((List Int)×Int×(List ak)×Int)⊕((List ak)×ah))):=
 if n21 < ([0,5].length:Int) then
  (idx [0,5] n21).bind fun v26=>
  (eO (⟨wS,n18⟩:ah) 2).bind fun nO=>
  if nO.1=true then
   eT n21 nO.2.L nO.2.at_ jS
  else
   (eN nO.2 4).bind fun v28=>
   (idx [[([109]:bj)],[([109]:bj)],[([109]:bj),([110]:bj)],[([110]:bj)]] v28.1).bind fun Av=>
   (cU v28.2 [1,5,5,10]).bind fun v30=>
   (lS v30.2 1 (bE (n10 - 1))).bind fun v32=>
   (cU v32.2 [0,5,9999]).bind fun v33=>
   (eO v33.2 4).bind fun BA=>
   iX n10 jS n21 v26 Av v30 v32 v33 BA.2.L BA.2.at_ (BA.1&&(decide (v26=5)))
 else
  ac .inr (some (.inl (wS,n18,jS,bE (n10+1))))
def oH (n10:Int) (wS:List Int) (n18:Int) (jS:List ak) (n21:Int):Option (((List Int)×Int×(List ak)×Int)⊕((List ak)×ah)):=
 iter (fun x:(List Int)×Int×(List ak)×Int=>iY n10 x.1 x.2.1 x.2.2.1 x.2.2.2) (wS,n18,jS,n21)
def iZ (l6:List Int) (n7:Int) (l9:List ak) (n10:Int):Option (((List Int)×Int×(List ak)×Int)⊕((List ak)×ah)):=
 if n10≤5 then
  oH n10 l6 n7 l9 0
 else
  ac .inr (some (l9,(⟨l6,n7⟩:ah)))
def so (l6:List Int) (n7:Int) (l9:List ak) (n10:Int):Option ((List ak)×ah):=
 iter (fun x:(List Int)×Int×(List ak)×Int=>iZ x.1 x.2.1 x.2.2.1 x.2.2.2) (l6,n7,l9,n10)
def lj (aa:ah):Option ((List ak)×ah):=
 so aa.L aa.at_ [] 2
def gy (aa:List Range):Option (List Range):=
 app [] aa
def mN (l7:List Int) (n8:Int) (l9:List ak):Option ((List ak)×ah):=
 some (l9,(⟨l7,n8⟩:ah))
def kK (kU:List Int) (n14:Int) (xL:List ak):Option ((List ak)×ah):=
 mN kU n14 xL
def kL (wS:List Int) (n18:Int) (Fb:List ak):Option ((List ak)×ah):=
 kK wS n18 Fb
def kM (vl:List Int) (n23:Int) (yY:List ak):Option ((List ak)×ah):=
 kL vl n23 yY
def mP (yZ:List Int) (n32:Int) (I6:List ak):Option ((List ak)×ah):=
 kM yZ n32 I6
def mQ (v1:(List ak)×ah) (l3:List Int) (n4:Int) (c5:Bool):Option ((List ak)×ah):=
 if c5=true then
  (eN (⟨l3,n4⟩:ah) (v1.1.length:Int)).bind fun v10=>
  (idx v1.1 v10.1).bind fun v11=>
  (eN v10.2 5).bind fun v12=>
  if v12.1=0 then
   (fB v12.2).bind fun tL=>
   kK tL.2.L tL.2.at_ (v1.1.set v10.1.toNat (⟨tL.1,v11.df,v11.bF,v11.cW⟩:ak))
  else
   if v12.1=1 then
    (eN v12.2 4).bind fun v20=>
    (idx [[],[([110]:bj),([109]:bj)],[([]:bj)],[([109]:bj),([109]:bj)]] v20.1).bind fun v21=>
    kL v20.2.L v20.2.at_ (v1.1.set v10.1.toNat (⟨v11.Version,v21,v11.bF,v11.cW⟩:ak))
   else
    if v12.1=2 then
     (gy v11.bF).bind fun v25=>
     (fB v12.2).bind fun nO=>
     (fB nO.2).bind fun v28=>
     (app v25 [(⟨nO.1,v28.1⟩:Range)]).bind fun E0=>
     kM v28.2.L v28.2.at_ (v1.1.set v10.1.toNat (⟨v11.Version,v11.df,E0,v11.cW⟩:ak))
    else
     if v12.1=3 then
      mP v12.2.L v12.2.at_ (v1.1.set v10.1.toNat (⟨v11.Version,v11.df,[(⟨v11.Version,v11.Version⟩:Range)],v11.cW⟩:ak))
     else
      (eS v12.2 1 100).bind fun Ec=>
      mP Ec.2.L Ec.2.at_ (v1.1.set v10.1.toNat (⟨v11.Version,v11.df,v11.bF,Ec.1⟩:ak))
 else
  mN l3 n4 v1.1
def pR (aa:ah):Option ((List ak)×ah):=
 (lj aa).bind fun v1=>
 if 0 < (v1.1.length:Int) then
  (eO v1.2 10).bind fun v6=>
  mQ v1 v6.2.L v6.2.at_ v6.1
 else
  mQ v1 v1.2.L v1.2.at_ false
def jw (n11:Int) (xL:List Int) (n16:Int) (Nt:List DeviceS):Option (((List Int)×Int×(List DeviceS)×Int)⊕((List DeviceS)×ah)):=
 some (.inl (xL,n16,Nt,bE (n11+1)))
def jx (l1:List bj) (l7:List Int) (n8:Int) (l10:List DeviceS) (n11:Int):Option (((List Int)×Int×(List DeviceS)×Int)⊕((List DeviceS)×ah)):=
 if n11 < (l1.length:Int) then
  (idx l1 n11).bind fun lF=>
  (eO (⟨l7,n8⟩:ah) 5).bind fun sT=>
  if (!sT.1)=true then
   (kD sT.2 [([109]:bj),([109]:bj),([109]:bj),([110]:bj)]).bind fun pj=>
   (cU pj.2 [1,1,1,2,3]).bind fun v20=>
   (cU v20.2 [0,0,5]).bind fun v21=>
   (app l10 [(⟨lF,pj.1,([116]:bj),(⟨v20.1,v21.1,0⟩:Version),[]⟩:DeviceS)]).bind fun vl=>
   jw n11 v21.2.L v21.2.at_ vl
  else
   jw n11 sT.2.L sT.2.at_ l10
 else
  ac .inr (some (l10,(⟨l7,n8⟩:ah)))
def tu (l1:List bj) (l7:List Int) (n8:Int) (l10:List DeviceS) (n11:Int):Option ((List DeviceS)×ah):=
 iter (fun x:(List Int)×Int×(List DeviceS)×Int=>jx l1 x.1 x.2.1 x.2.2.1 x.2.2.2) (l7,n8,l10,n11)
def lT (aa:ah) (ai:Int):Option ((List DeviceS)×ah):=
 (Cj [([100,49]:bj),([100,50]:bj),([100,51]:bj),([100,52]:bj),([100,53]:bj),([100,54]:bj)] 0 ai).bind fun l1=>
 tu l1 aa.L aa.at_ [] 0
def nW (l7:List Int) (n8:Int) (l9:List DeviceS):Option ((List DeviceS)×ah):=
 some (l9,(⟨l7,n8⟩:ah))
def nX (v1:(List DeviceS)×ah) (l3:List Int) (n4:Int) (c5:Bool):Option ((List DeviceS)×ah):=
 if c5=true then
  (eN (⟨l3,n4⟩:ah) (v1.1.length:Int)).bind fun v10=>
  (idx v1.1 v10.1).bind fun v11=>
  (kD v10.2 [v11.Key,([]:bj),([100,49]:bj)]).bind fun v12=>
  (kD v12.2 [([109]:bj),([]:bj)]).bind fun lF=>
  (fB lF.2).bind fun sT=>
  nW sT.2.L sT.2.at_ (((v1.1.set v10.1.toNat (⟨v12.1,v11.Model,v11.eR,v11.bR,v11.oF⟩:DeviceS)).set v10.1.toNat (⟨v12.1,lF.1,v11.eR,v11.bR,v11.oF⟩:DeviceS)).set v10.1.toNat (⟨v12.1,lF.1,v11.eR,sT.1,v11.oF⟩:DeviceS))
 else
  nW l3 n4 v1.1
def rB (aa:ah) (ai:Int):Option ((List DeviceS)×ah):=
 (lT aa ai).bind fun v1=>
 if 0 < (v1.1.length:Int) then
  (eO v1.2 15).bind fun v6=>
  nX v1 v6.2.L v6.2.at_ v6.1
 else
  nX v1 v1.2.L v1.2.at_ false
def vm (n5:Int) (c7:Bool):Option (Int⊕Bool):=
 if c7=true then
  ac .inr (some false)
 else
  some (.inl (bE (n5+1)))
def oU (aa:bj) (n5:Int):Option (Int⊕Bool):=
 if n5 < (aa.length:Int) then
  (idx aa n5).bind fun c6=>
  vm n5 (if 97≤(c6.toNat:Int) then if (c6.toNat:Int)≤122 then !true else if 48≤(c6.toNat:Int) then if (c6.toNat:Int)≤57 then !true else if (c6.toNat:Int)=45 then !true else decide (¬ ((c6.toNat:Int)=95)) else if (c6.toNat:Int)=45 then !true else decide (¬ ((c6.toNat:Int)=95)) else if 48≤(c6.toNat:Int) then if (c6.toNat:Int)≤57 then !true else if (c6.toNat:Int)=45 then !true else decide (¬ ((c6.toNat:Int)=95)) else if (c6.toNat:Int)=45 then !true else decide (¬ ((c6.toNat:Int)=95)))
 else
  ac .inr (some true)
def yo (aa:bj) (n5:Int):Option Bool:=
 iter (fun x:Int=>oU aa x) n5
def oV (aa:bj) (c1:Bool):Option Bool:=
 if c1=true then
  some false
 else
  yo aa 0
def pS (aa:bj):Option Bool:=
 if aa=([]:bj) then
  oV aa true
 else
  if 40 < (aa.length:Int) then
   oV aa true
  else
   (idx aa 0).bind fun c2=>
   if (c2.toNat:Int) < 97 then
    oV aa true
   else
    (idx aa 0).bind fun c3=>
    oV aa (decide (122 < (c3.toNat:Int)))
def yp (c1:Bool):Bool:=
 c1
def fV (aa ai aH:Int):Bool:=
 yp ((decide (aa < ai))||(decide (aH < aa)))
def qt (c2:Bool):Bool:=
 c2
def iq (aa:Version):Bool:=
 qt ((!(fV aa.aA 0 9999))&&((!(fV aa.aD 0 9999))&&(!(fV aa.aF 0 9999))))
def qT (aa:Int):Bool:=
 !(fV aa 0 345686399999)
def fW (n6 n7:Int) (v8:ml) (I7:Bool):Option ((Int×Int)⊕Int):=
 if I7=true then
  ac .inr (some 1)
 else
  some (.inl (bE (n6+v8.Part),bE (n7+1)))
def fX (BJ:Bool):Option Int:=
 if BJ=true then
  some 1
 else
  some 0
def iQ (aa:Campaign) (n6:Int):Option Int:=
 if n6≠1000 then
  some 15
 else
  fX ((fV aa.aZ.bF 0 86400000)||((fV aa.aZ.To 0 86400000)||(fV aa.Room 1 500)))
def et (aa:Campaign) (n6 n7:Int):Option ((Int×Int)⊕Int):=
 if n7 < (aa.aI.length:Int) then
  (idx aa.aI n7).bind fun v8=>
  fW n6 n7 v8 ((fV v8.Part 1 1000)||((fV v8.sx 0 2592000000)||((fV v8.zC 1 500)||(fV v8.ed 0 1000))))
 else
  ac .inr (iQ aa n6)
def iR (aa:Campaign) (n6 n7:Int):Option Int:=
 iter (fun x:Int×Int=>et aa x.1 x.2) (n6,n7)
def fY (aa:Campaign) (c3:Bool):Option Int:=
 if c3=true then
  some 1
 else
  if (aa.aI.length:Int)=0 then
   some 3
  else
   if 20 < (aa.aI.length:Int) then
    some 2
   else
    iR aa 0 0
def dL (aa:Campaign):Option Int:=
 (pS aa.Key).bind fun v2=>
 if (!v2)=true then
  some 5
 else
  fY aa ((!(iq aa.Target))||(!(qT aa.At)))
def sU (aa:List Int) (n2:Int):Option (Int⊕Int):=
 if n2 < (aa.length:Int) then
  (idx aa n2).bind fun v3=>
  if v3≠0 then
   ac .inr (some v3)
  else
   some (.inl (bE (n2+1)))
 else
  ac .inr (some 0)
def Fe (aa:List Int) (n2:Int):Option Int:=
 iter (fun x:Int=>sU aa x) n2
def mo (aa:List Int):Option Int:=
 Fe aa 0
def fH (aa ai:Version):Option Int:=
 (mo [(cmp_Compare_int aa.aA ai.aA),(cmp_Compare_int aa.aD ai.aD),(cmp_Compare_int aa.aF ai.aF)]).bind fun v3=>
 some v3
def ja (c2:Bool):Option Bool:=
 some c2
def ll (aa:Range) (ai:Version):Option Bool:=
 (fH aa.vM ai).bind fun v3=>
 if v3≤0 then
  (fH ai aa.mn).bind fun v4=>
  ja (decide (v4≤0))
 else
  ja false
def fw (aa:List Range) (iD:Range→Option Bool) (n2:Int):Option (Int⊕Int):=
 if n2 < (aa.length:Int) then
  (idx aa n2).bind fun v3=>
  (iD v3).bind fun v4=>
  if v4=true then
   ac .inr (some n2)
  else
   some (.inl (bE (n2+1)))
 else
  ac .inr (some (-1:Int))
def sc (aa:List Range) (iD:Range→Option Bool) (n2:Int):Option Int:=
 iter (fun x:Int=>fw aa iD x) n2
def jT (aa:List Range) (iD:Range→Option Bool):Option Int:=
 sc aa iD 0
def dU (aa:List Range) (iD:Range→Option Bool):Option Bool:=
 (jT aa iD).bind fun v1=>
 some (decide (0≤v1))
def jU (aa:ak) (ai:Version):Option Bool:=
 (dU aa.bF (fun y0=>ll y0 ai)).bind fun v3=>
 some v3
def fk (n3:Int) (c8:Bool):Option (Int⊕Int):=
 if c8=true then
  ac .inr (some 7)
 else
  some (.inl (bE (n3+1)))
def di (aa:ak) (n3:Int) (v4:Range) (c6:Bool):Option (Int⊕Int):=
 if c6=true then
  ac .inr (some 1)
 else
  if 0 < n3 then
   (idx aa.bF (bE (n3 - 1))).bind fun v9=>
   (fH v4.vM v9.mn).bind fun v10=>
   fk n3 (decide (v10≤0))
  else
   fk n3 false
def jK (aa:ak):Option Int:=
 (jU aa aa.Version).bind fun v11=>
 if v11=true then
  some 14
 else
  some 0
def fo (aa:ak) (n3:Int):Option (Int⊕Int):=
 if n3 < (aa.bF.length:Int) then
  (idx aa.bF n3).bind fun v4=>
  if (!(iq v4.vM))=true then
   di aa n3 v4 true
  else
   if (!(iq v4.mn))=true then
    di aa n3 v4 true
   else
    (fH v4.vM v4.mn).bind fun v7=>
    di aa n3 v4 (decide (0 < v7))
 else
  ac .inr (jK aa)
def mR (aa:ak) (n3:Int):Option Int:=
 iter (fun x:Int=>fo aa x) n3
def fC (aa:ak):Option Int:=
 if 20 < (aa.bF.length:Int) then
  some 2
 else
  mR aa 0
def ef (n9:Int) (c12:Bool):Option (Int⊕(Int⊕Int)):=
 if c12=true then
  ac .inr (ac .inr (some 7))
 else
  some (.inl (bE (n9+1)))
def jL (n2:Int) (v3:ak):Option (Int⊕Int):=
 (fC v3).bind fun sT=>
 if sT≠0 then
  ac .inr (some sT)
 else
  if (fV v3.cW 1 1000000000)=true then
   ac .inr (some 1)
  else
   some (.inl (bE (n2+1)))
def fp (n2:Int) (v3:ak) (n9:Int):Option (Int⊕(Int⊕Int)):=
 if n9 < (v3.df.length:Int) then
  (idx v3.df n9).bind fun v10=>
  (pS v10).bind fun v11=>
  if (!v11)=true then
   ac .inr (ac .inr (some 5))
  else
   if 0 < n9 then
    (idx v3.df (bE (n9 - 1))).bind fun lF=>
    ef n9 (Op.bytesLess v10 lF||v10==lF)
   else
    ef n9 false
 else
  ac .inr (jL n2 v3)
def mS (n2:Int) (v3:ak) (n9:Int):Option (Int⊕Int):=
 iter (fun x:Int=>fp n2 v3 x) n9
def dE (n2:Int) (v3:ak) (c5:Bool):Option (Int⊕Int):=
 if c5=true then
  ac .inr (some 7)
 else
  if (v3.df.length:Int)=0 then
   ac .inr (some 3)
  else
   if 20 < (v3.df.length:Int) then
    ac .inr (some 2)
   else
    mS n2 v3 0
def fq (aa:List ak) (n2:Int):Option (Int⊕Int):=
 if n2 < (aa.length:Int) then
  (idx aa n2).bind fun v3=>
  if (!(iq v3.Version))=true then
   ac .inr (some 1)
  else
   if 0 < n2 then
    (idx aa (bE (n2 - 1))).bind fun v6=>
    (fH v3.Version v6.Version).bind fun v7=>
    dE n2 v3 (decide (v7≤0))
   else
    dE n2 v3 false
 else
  ac .inr (some 0)
def mT (aa:List ak) (n2:Int):Option Int:=
 iter (fun x:Int=>fq aa x) n2
def er (aa:List ak):Option Int:=
 if 200 < (aa.length:Int) then
  some 2
 else
  mT aa 0
def dM (n2:Int) (v3:DeviceS) (c9:Bool):Option (Int⊕Int):=
 if c9=true then
  ac .inr (some 7)
 else
  if (!(iq v3.bR))=true then
   ac .inr (some 1)
  else
   if 20 < (v3.oF.length:Int) then
    ac .inr (some 2)
   else
    some (.inl (bE (n2+1)))
def ey (aa:List DeviceS) (n2:Int) (v3:DeviceS) (c5:Bool):Option (Int⊕Int):=
 if c5=true then
  ac .inr (some 5)
 else
  if 0 < n2 then
   (idx aa (bE (n2 - 1))).bind fun v10=>
   dM n2 v3 (Op.bytesLess v3.Key v10.Key||v3.Key==v10.Key)
  else
   dM n2 v3 false
def dN (aa:List DeviceS) (n2:Int):Option (Int⊕Int):=
 if n2 < (aa.length:Int) then
  (idx aa n2).bind fun v3=>
  (pS v3.Key).bind fun v6=>
  if (!v6)=true then
   ey aa n2 v3 true
  else
   (pS v3.Model).bind fun v7=>
   if (!v7)=true then
    ey aa n2 v3 true
   else
    (pS v3.eR).bind fun v8=>
    ey aa n2 v3 (!v8)
 else
  ac .inr (some 0)
def rC (aa:List DeviceS) (n2:Int):Option Int:=
 iter (fun x:Int=>dN aa x) n2
def jZ (aa:List DeviceS):Option Int:=
 if 500 < (aa.length:Int) then
  some 2
 else
  rC aa 0
def sV (aa:List Int) (n2:Int):Option (Int⊕Int):=
 if n2 < (aa.length:Int) then
  (idx aa n2).bind fun v3=>
  if v3≠0 then
   ac .inr (some v3)
  else
   some (.inl (bE (n2+1)))
 else
  ac .inr (some 0)
def Ff (aa:List Int) (n2:Int):Option Int:=
 iter (fun x:Int=>sV aa x) n2
def xa (aa:List Int):Option Int:=
 Ff aa 0
def rD (c2:Bool):Bool:=
 c2
def tv (aa:eQ):Bool:=
 rD ((!(fV aa.bF 0 aa.To))&&(decide (aa.To≤345686400000)))
def pk (n4:Int) (v5:bj) (n9 n10:Int):Option ((Int×Int)⊕((Int×Int)⊕Int)):=
 if n10 < (v5.length:Int) then
  (idx v5 n10).bind fun BJ=>
  some (.inl (IntKind.u64.wrap ((zS .u64 n9 (IntKind.u64.wrap ((BJ.toNat:Int)))) * 1099511628211),bE (n10+1)))
 else
  ac .inr (some (.inl (n9,bE (n4+1))))
def uc (n4:Int) (v5:bj) (n9 n10:Int):Option ((Int×Int)⊕Int):=
 iter (fun x:Int×Int=>pk n4 v5 x.1 x.2) (n9,n10)
def pn (n4:Int) (v5:bj) (n6:Int):Option ((Int×Int)⊕Int):=
 uc n4 v5 n6 0
def nG (aa:List bj) (n3 n4:Int):Option ((Int×Int)⊕Int):=
 if n4 < (aa.length:Int) then
  (idx aa n4).bind fun v5=>
  if 0 < n4 then
   pn n4 v5 (IntKind.u64.wrap (n3 * 1099511628211))
  else
   pn n4 v5 n3
 else
  ac .inr (some n3)
def AX (aa:List bj) (n3 n4:Int):Option Int:=
 iter (fun x:Int×Int=>nG aa x.1 x.2) (n3,n4)
def wq (aa:List bj):Option Int:=
 AX aa 14695981039346656037 0
def nH (aa:Campaign) (ai:bj):Option Int:=
 (wq [aa.Key,ai]).bind fun v1=>
 some (bE ((zS .u64 v1 (GX .u64 v1 32)).tmod 1000))
def jf (aa:Campaign) (v1 n4 n5:Int):Option ((Int×Int)⊕Int):=
 if n5 < (aa.aI.length:Int) then
  (idx aa.aI n5).bind fun v6=>
  if v1 < (bE (n4+v6.Part)) then
   ac .inr (some n5)
  else
   some (.inl (bE (n4+v6.Part),bE (n5+1)))
 else
  ac .inr (some (bE ((aa.aI.length:Int) - 1)))
def ln (aa:Campaign) (v1 n4 n5:Int):Option Int:=
 iter (fun x:Int×Int=>jf aa v1 x.1 x.2) (n4,n5)
def gJ (aa:Campaign) (ai:bj):Option Int:=
 (nH aa ai).bind fun v1=>
 ln aa v1 0 0
def cj (aa:aB) (ai:aq):Bool:=
 decide (ai.an.Version=aa.c_.Target)
def jy (jS:List aq) (xM yY:List (bj×Int)) (n26:Int) (nO:DeviceS) (v33:Int) (sa:List Int):Option (((List aq)×(List (bj×Int))×(List (bj×Int))×(List Int)×Int)⊕aB):=
 some (.inl (jS++[(⟨(⟨0,0,nO.bR,0⟩:an),(⟨0,0,0⟩:Version)⟩:aq)],ca xM nO.Key (jS.length:Int),ca yY nO.Key v33,sa,bE (n26+1)))
def gS (aa:Campaign) (ai:List DeviceS) (l8 l10:List Int) (jS:List aq) (xM yY:List (bj×Int)) (x3:List Int) (n26:Int):Option (((List aq)×(List (bj×Int))×(List (bj×Int))×(List Int)×Int)⊕aB):=
 if n26 < (ai.length:Int) then
  (idx ai n26).bind fun nO=>
  (VB jS.length (xM.map Prod.snd)).bind fun u30=>
  (gJ aa nO.Key).bind fun v33=>
  (oJ yY nO.Key 0).bind fun Ec=>
  if (!(cj (⟨aa,ca xM nO.Key (jS.length:Int),ca yY nO.Key v33,x3,l8,l10,[],(-1:Int),aa.At,jS++[(⟨(⟨0,0,nO.bR,0⟩:an),(⟨0,0,0⟩:Version)⟩:aq)]⟩:aB) (⟨(⟨0,0,nO.bR,0⟩:an),(⟨0,0,0⟩:Version)⟩:aq)))=true then
   (oJ (ca yY nO.Key v33) nO.Key 0).bind fun PM=>
   (idx x3 PM).bind fun v37=>
   (idx x3 PM).bind fun BA=>
   jy jS xM yY n26 nO v33 (x3.set PM.toNat (bE (v37+1)))
  else
   jy jS xM yY n26 nO v33 x3
 else
  ac .inr (some (⟨aa,xM,yY,x3,l8,l10,[],(-1:Int),aa.At,jS⟩:aB))
def lU (aa:Campaign) (ai:List DeviceS) (l8 l10:List Int) (jS:List aq) (xM yY:List (bj×Int)) (x3:List Int) (n26:Int):Option aB:=
 iter (fun x:(List aq)×(List (bj×Int))×(List (bj×Int))×(List Int)×Int=>gS aa ai l8 l10 x.1 x.2.1 x.2.2.1 x.2.2.2.1 x.2.2.2.2) (jS,xM,yY,x3,n26)
def ir (aa:Campaign) (ai:List DeviceS):Option aB:=
 (Oh 0 (aa.aI.length:Int) (aa.aI.length:Int)).bind fun l6=>
 (Oh 0 (aa.aI.length:Int) (aa.aI.length:Int)).bind fun l8=>
 (Oh 0 (aa.aI.length:Int) (aa.aI.length:Int)).bind fun l10=>
 lU aa ai l8 l10 [] [] [] l6 0
def cM (kU:List Int) (n17:Int):Option (((List Int)×Int)⊕aB):=
 some (.inl (kU,n17))
def cN (aa:aB) (l5:List Int) (n10:Int) (kU:List Int) (Yf:Bool):Option (((List Int)×Int)⊕aB):=
 if Yf=true then
  (idx aa.c_.aI (bE ((l5.length:Int)+1))).bind fun ub=>
  cM kU (bE (n10+ub.sx))
 else
  cM kU (-1:Int)
def fu (aa:aB) (l5:List Int) (n10:Int) (c12:Bool):Option (((List Int)×Int)⊕aB):=
 if c12=true then
  ac .inr (some (⟨aa.c_,aa.nw,aa.cL,aa.open_,aa.bt,aa.aY,l5,aa.bf,n10,aa.kd⟩:aB))
 else
  (app l5 [n10]).bind fun kU=>
  if (bE ((l5.length:Int)+1)) < (aa.c_.aI.length:Int) then
   (idx aa.open_ (l5.length:Int)).bind fun tL=>
   cN aa l5 n10 kU (decide (tL=0))
  else
   cN aa l5 n10 kU false
def bS (aa:aB) (ai:Int) (l5:List Int) (n10:Int):Option (((List Int)×Int)⊕aB):=
 fu aa l5 n10 ((decide (n10 < 0))||((decide (ai < n10))||((decide (0 < (l5.length:Int)))&&((decide (0≤aa.bf))&&(decide (aa.bf≤n10))))))
def bJ (aa:aB) (ai:Int) (l5:List Int) (n6:Int) (c7:Bool):Option (((List Int)×Int)⊕aB):=
 if c7=true then
  (idx aa.c_.aI (l5.length:Int)).bind fun v11=>
  bS aa ai l5 (bE (ai+v11.sx))
 else
  bS aa ai l5 n6
def bK (aa:aB) (ai:Int) (l5:List Int) (n6:Int):Option (((List Int)×Int)⊕aB):=
 if n6 < 0 then
  if 0 < (l5.length:Int) then
   if (l5.length:Int) < (aa.c_.aI.length:Int) then
    (idx aa.open_ (bE ((l5.length:Int) - 1))).bind fun v8=>
    if v8=0 then
     (idx l5 (bE ((l5.length:Int) - 1))).bind fun v9=>
     bJ aa ai l5 n6 (decide (v9≤ai))
    else
     bJ aa ai l5 n6 false
   else
    bJ aa ai l5 n6 false
  else
   bJ aa ai l5 n6 false
 else
  bJ aa ai l5 n6 false
def jM (aa:aB) (ai:Int) (l5:List Int) (n6:Int):Option aB:=
 iter (fun x:(List Int)×Int=>bK aa ai x.1 x.2) (l5,n6)
def cF (aa:aB) (ai:Int):Option aB:=
 jM aa ai aa.aN aa.cw
def cG (aa:List bj) (ai:bj) (n2:Int):Option (Int⊕Int):=
 if n2 < (aa.length:Int) then
  (idx aa n2).bind fun v3=>
  if ai=v3 then
   ac .inr (some n2)
  else
   some (.inl (bE (n2+1)))
 else
  ac .inr (some (-1:Int))
def cZ (aa:List bj) (ai:bj) (n2:Int):Option Int:=
 iter (fun x:Int=>cG aa ai x) n2
def fD (aa:List bj) (ai:bj):Option Int:=
 cZ aa ai 0
def bM (aa:List bj) (ai:bj):Option Bool:=
 (fD aa ai).bind fun v1=>
 some (decide (0≤v1))
def mI (c1:Bool):Bool:=
 c1
def mJ (c2:Bool):Bool:=
 c2
def kN (aa:Campaign) (ai aH:Int):Bool:=
 if aa.aZ.bF < aa.aZ.To then
  mI ((decide (aa.aZ.bF≤((bE (((bE (aH+ai)).tmod 86400000)+86400000)).tmod 86400000)))&&(decide (((bE (((bE (aH+ai)).tmod 86400000)+86400000)).tmod 86400000) < aa.aZ.To)))
 else
  if aa.aZ.To < aa.aZ.bF then
   mJ ((decide (aa.aZ.bF≤((bE (((bE (aH+ai)).tmod 86400000)+86400000)).tmod 86400000)))||(decide (((bE (((bE (aH+ai)).tmod 86400000)+86400000)).tmod 86400000) < aa.aZ.To)))
  else
   true
def pq (c1:Bool):Bool:=
 c1
def pT (aa:aq):Bool:=
 pq ((decide (aa.an.Kind=1))||(decide (aa.an.Kind=2)))
def lC (c1:Bool):Bool:=
 c1
def dm (aa:aB) (ai:aq):Bool:=
 lC ((!(cj aa ai))&&((decide (3≤ai.an.ed))||(decide (ai.an.Kind=5))))
def dz (aa ai:DeviceS) (aH:aB):Option Int:=
 (oJ aH.cL aa.Key 0).bind fun v3=>
 (oJ aH.cL ai.Key 0).bind fun v4=>
 (nH aH.c_ aa.Key).bind fun v5=>
 (nH aH.c_ ai.Key).bind fun v6=>
 (mo [(cmp_Compare_int v3 v4),(cmp_Compare_int v5 v6),(Lib.compareBytes aa.Key ai.Key)]).bind fun v7=>
 some v7
def gl (aa:List DeviceS) (iD:DeviceS→DeviceS→Option Int):Option (List DeviceS):=
 DK iD aa
def jN (n7:Int) (xL:List ak):Option (((List ak)×Int)⊕(List ak)):=
 some (.inl (xL,bE (n7+1)))
def jO (l6:List ak) (n7:Int) (v9:ak) (BJ:Bool):Option (((List ak)×Int)⊕(List ak)):=
 if BJ=true then
  (app l6 [v9]).bind fun Rt=>
  jN n7 Rt
 else
  jN n7 l6
def eW (aa:List ak) (ai:bj) (aH:Version) (l6:List ak) (n7:Int):Option (((List ak)×Int)⊕(List ak)):=
 if n7 < (aa.length:Int) then
  (idx aa n7).bind fun v9=>
  (bM v9.df ai).bind fun v12=>
  if v12=true then
   (jU v9 aH).bind fun lF=>
   jO l6 n7 v9 lF
  else
   jO l6 n7 v9 false
 else
  ac .inr (some l6)
def vn (aa:List ak) (ai:bj) (aH:Version) (l6:List ak) (n7:Int):Option (List ak):=
 iter (fun x:(List ak)×Int=>eW aa ai aH x.1 x.2) (l6,n7)
def mU (aa:List ak) (ai:bj) (aH:Version):Option (List ak):=
 vn aa ai aH [] 0
def lN (aa ai:ao):Option Int:=
 (mo [(cmp_Compare_int aa.cd ai.cd),(cmp_Compare_int aa.bP ai.bP)]).bind fun v3=>
 some v3
def lV (n7:Int) (kU:List ak):Option (((List ak)×Int)⊕(List (Version×ao))):=
 some (.inl (kU,bE (n7+1)))
def iu (n52:Int) (c59:Bool) (n60 n61:Int) (Yg:Bool):Option ((Bool×Int×Int×Bool×Int)⊕(((List (Version×ao))×Bool×Int)⊕(((List (Version×ao))×Bool)⊕(List (Version×ao))))):=
 some (.inl (c59,n60,n61,Yg,bE (n52+1)))
def gm (Cr:Bool) (n49 n50:Int) (c51:Bool) (n52:Int) (v53:ak) (v55:ao×Bool) (Yh:Bool):Option ((Bool×Int×Int×Bool×Int)⊕(((List (Version×ao))×Bool×Int)⊕(((List (Version×ao))×Bool)⊕(List (Version×ao))))):=
 if Yh=true then
  iu n52 true (bE (v55.1.cd+1)) (bE (v55.1.bP+v53.cW)) true
 else
  iu n52 Cr n49 n50 c51
def lW (n37:Int) (Cr:Bool) (Yi:List (Version×ao)):Option (((List (Version×ao))×Bool×Int)⊕(((List (Version×ao))×Bool)⊕(List (Version×ao)))):=
 some (.inl (Yi,Cr,bE (n37+1)))
def oL (sa:List (Version×ao)) (n37:Int) (BA:ak) (Cr:Bool) (n49 n50:Int) (c51:Bool):Option (((List (Version×ao))×Bool×Int)⊕(((List (Version×ao))×Bool)⊕(List (Version×ao)))):=
 if c51=true then
  lW n37 Cr (ca sa BA.Version (⟨n49,n50⟩:ao))
 else
  lW n37 Cr sa
def eZ (sa:List (Version×ao)) (n37:Int) (BA:ak) (Lb:List ak) (Cr:Bool) (n49 n50:Int) (c51:Bool) (n52:Int):Option ((Bool×Int×Int×Bool×Int)⊕(((List (Version×ao))×Bool×Int)⊕(((List (Version×ao))×Bool)⊕(List (Version×ao))))):=
 if n52 < (Lb.length:Int) then
  (idx Lb n52).bind fun v53=>
  (tV sa v53.Version (⟨0,0⟩:ao)).bind fun v55=>
  if v55.2=true then
   if (!c51)=true then
    gm Cr n49 n50 c51 n52 v53 v55 true
   else
    (lN (⟨bE (v55.1.cd+1),bE (v55.1.bP+v53.cW)⟩:ao) (⟨n49,n50⟩:ao)).bind fun v58=>
    gm Cr n49 n50 c51 n52 v53 v55 (decide (v58 < 0))
  else
   gm Cr n49 n50 c51 n52 v53 v55 false
 else
  ac .inr (oL sa n37 BA Cr n49 n50 c51)
def rH (sa:List (Version×ao)) (n37:Int) (BA:ak) (Lb:List ak) (Cr:Bool) (n49 n50:Int) (c51:Bool) (n52:Int):Option (((List (Version×ao))×Bool×Int)⊕(((List (Version×ao))×Bool)⊕(List (Version×ao)))):=
 iter (fun x:Bool×Int×Int×Bool×Int=>eZ sa n37 BA Lb x.1 x.2.1 x.2.2.1 x.2.2.2.1 x.2.2.2.2) (Cr,n49,n50,c51,n52)
def jP (l6:List ak) (jS:List (List ak)) (sa:List (Version×ao)) (W2:Bool) (n37:Int):Option (((List (Version×ao))×Bool×Int)⊕(((List (Version×ao))×Bool)⊕(List (Version×ao)))):=
 if n37 < (l6.length:Int) then
  (idx l6 n37).bind fun BA=>
  (tV sa BA.Version (⟨0,0⟩:ao)).bind fun v40=>
  (idx jS n37).bind fun Lb=>
  rH sa n37 BA Lb W2 v40.1.cd v40.1.bP v40.2 0
 else
  ac .inr (some (.inl (sa,W2)))
def rI (l6:List ak) (jS:List (List ak)) (sa:List (Version×ao)) (W2:Bool) (n37:Int):Option (((List (Version×ao))×Bool)⊕(List (Version×ao))):=
 iter (fun x:(List (Version×ao))×Bool×Int=>jP l6 jS x.1 x.2.1 x.2.2) (sa,W2,n37)
def lX (l6:List ak) (jS:List (List ak)) (Nu:List (Version×ao)) (c31:Bool):Option (((List (Version×ao))×Bool)⊕(List (Version×ao))):=
 if c31=true then
  rI l6 jS Nu false 0
 else
  ac .inr (some Nu)
def rJ (l6:List ak) (jS:List (List ak)) (Nu:List (Version×ao)) (c31:Bool):Option (List (Version×ao)):=
 iter (fun x:(List (Version×ao))×Bool=>lX l6 jS x.1 x.2) (Nu,c31)
def jQ (ai:bj) (aH:Version) (l6:List ak) (jS:List (List ak)) (n21:Int):Option (((List (List ak))×Int)⊕(List (Version×ao))):=
 if n21 < (l6.length:Int) then
  (idx l6 n21).bind fun v22=>
  (mU l6 ai v22.Version).bind fun v24=>
  (idx jS n21).bind fun v26=>
  some (.inl (jS.set n21.toNat v24,bE (n21+1)))
 else
  ac .inr (rJ l6 jS (ca ([]:List (Version×ao)) aH (⟨0,0⟩:ao)) true)
def vo (ai:bj) (aH:Version) (l6:List ak) (jS:List (List ak)) (n21:Int):Option (List (Version×ao)):=
 iter (fun x:(List (List ak))×Int=>jQ ai aH l6 x.1 x.2) (jS,n21)
def lY (ai:bj) (aH:Version) (l6:List ak):Option (List (Version×ao)):=
 (Oh ([]:List ak) (l6.length:Int) (l6.length:Int)).bind fun Rt=>
 vo ai aH l6 Rt 0
def fb (aa:List ak) (ai:bj) (aH:Version) (l6:List ak) (n7:Int):Option (((List ak)×Int)⊕(List (Version×ao))):=
 if n7 < (aa.length:Int) then
  (idx aa n7).bind fun v9=>
  (bM v9.df ai).bind fun v11=>
  if v11=true then
   (app l6 [v9]).bind fun oK=>
   lV n7 oK
  else
   lV n7 l6
 else
  ac .inr (lY ai aH l6)
def vp (aa:List ak) (ai:bj) (aH:Version) (l6:List ak) (n7:Int):Option (List (Version×ao)):=
 iter (fun x:(List ak)×Int=>fb aa ai aH x.1 x.2) (l6,n7)
def oW (aa:List ak) (ai:bj) (aH:Version):Option (List (Version×ao)):=
 vp aa ai aH [] 0
def jV (n34 n41 n42 n43 n44 n45:Int) (c46:Bool):Option ((Int×Int×Int×Int×Int×Bool×Int)⊕(((List Version)×Int×Int×Int)⊕((List Version)×Bool))):=
 some (.inl (n41,n42,n43,n44,n45,c46,bE (n34+1)))
def iM (n28 n29 n30 n31 n32:Int) (Kg:Bool) (n34:Int) (v35:ak) (v37:ao×Bool) (Yj:Bool):Option ((Int×Int×Int×Int×Int×Bool×Int)⊕(((List Version)×Int×Int×Int)⊕((List Version)×Bool))):=
 if Yj=true then
  jV n34 v35.Version.aA v35.Version.aD v35.Version.aF (bE (v37.1.cd+1)) (bE (v37.1.bP+v35.cW)) true
 else
  jV n34 n28 n29 n30 n31 n32 Kg
def nY (vN:List Version) (n28 n29 n30:Int) (Kg:Bool):Option (((List Version)×Int×Int×Int)⊕((List Version)×Bool)):=
 if (!Kg)=true then
  ac .inr (some ([],false))
 else
  (app vN [(⟨n28,n29,n30⟩:Version)]).bind fun Ru=>
  some (.inl (Ru,n28,n29,n30))
def gK (ck:List (Version×ao)) (vN:List Version) (pj:(List ak)) (n28 n29 n30 n31 n32:Int) (Kg:Bool) (n34:Int):Option ((Int×Int×Int×Int×Int×Bool×Int)⊕(((List Version)×Int×Int×Int)⊕((List Version)×Bool))):=
 if n34 < (pj.length:Int) then
  (idx pj n34).bind fun v35=>
  (tV ck v35.Version (⟨0,0⟩:ao)).bind fun v37=>
  if v37.2=true then
   if (!Kg)=true then
    iM n28 n29 n30 n31 n32 Kg n34 v35 v37 true
   else
    (lN (⟨bE (v37.1.cd+1),bE (v37.1.bP+v35.cW)⟩:ao) (⟨n31,n32⟩:ao)).bind fun v40=>
    iM n28 n29 n30 n31 n32 Kg n34 v35 v37 (decide (v40 < 0))
  else
   iM n28 n29 n30 n31 n32 Kg n34 v35 v37 false
 else
  ac .inr (nY vN n28 n29 n30 Kg)
def xy (ck:List (Version×ao)) (vN:List Version) (pj:(List ak)) (n28 n29 n30 n31 n32:Int) (Kg:Bool) (n34:Int):Option (((List Version)×Int×Int×Int)⊕((List Version)×Bool)):=
 iter (fun x:Int×Int×Int×Int×Int×Bool×Int=>gK ck vN pj x.1 x.2.1 x.2.2.1 x.2.2.2.1 x.2.2.2.2.1 x.2.2.2.2.2.1 x.2.2.2.2.2.2) (n28,n29,n30,n31,n32,Kg,n34)
def dp (aa:List ak) (ai:bj) (bc:Version) (ck:List (Version×ao)) (vN:List Version) (n13 n14 n15:Int):Option (((List Version)×Int×Int×Int)⊕((List Version)×Bool)):=
 if (⟨n13,n14,n15⟩:Version)≠bc then
  (mU aa ai (⟨n13,n14,n15⟩:Version)).bind fun pj=>
  xy ck vN pj 0 0 0 0 0 false 0
 else
  ac .inr (some (vN,true))
def iN (aa:List ak) (ai:bj) (bc:Version) (ck:List (Version×ao)) (vN:List Version) (n13 n14 n15:Int):Option ((List Version)×Bool):=
 iter (fun x:(List Version)×Int×Int×Int=>dp aa ai bc ck x.1 x.2.1 x.2.2.1 x.2.2.2) (vN,n13,n14,n15)
def lZ (aa:List ak) (ai:bj) (aH bc:Version) (ck:List (Version×ao)):Option ((List Version)×Bool):=
 iN aa ai bc ck [] aH.aA aH.aD aH.aF
def dP (aa:ak) (ai:List Version):Option Bool:=
 (idx ai 0).bind fun v2=>
 some (decide (aa.Version=v2))
def fx (aa:List ak) (iD:ak→Option Bool) (n2:Int):Option (Int⊕Int):=
 if n2 < (aa.length:Int) then
  (idx aa n2).bind fun v3=>
  (iD v3).bind fun v4=>
  if v4=true then
   ac .inr (some n2)
  else
   some (.inl (bE (n2+1)))
 else
  ac .inr (some (-1:Int))
def sd (aa:List ak) (iD:ak→Option Bool) (n2:Int):Option Int:=
 iter (fun x:Int=>fx aa iD x) n2
def cr (aa:List ak) (iD:ak→Option Bool):Option Int:=
 sd aa iD 0
def kh (aa:aQ) (ai:bj) (v4:(List (Version×ao))) (v6:(List Version)×Bool) (c8:Bool):Option (ak×Bool×aQ):=
 if c8=true then
  some ((⟨(⟨0,0,0⟩:Version),[],[],0⟩:ak),false,(⟨aa.nF,aa.Eb,ca aa.fA ai v4⟩:aQ))
 else
  (cr aa.nF (fun y0=>dP y0 v6.1)).bind fun v9=>
  (idx aa.nF v9).bind fun v10=>
  some (v10,true,(⟨aa.nF,aa.Eb,ca aa.fA ai v4⟩:aQ))
def ki (aa:aQ) (v11:(List Version)×Bool) (PN:Bool):Option (ak×Bool×aQ):=
 if PN=true then
  some ((⟨(⟨0,0,0⟩:Version),[],[],0⟩:ak),false,aa)
 else
  (cr aa.nF (fun y0=>dP y0 v11.1)).bind fun sT=>
  (idx aa.nF sT).bind fun CQ=>
  some (CQ,true,aa)
def iE (aa:aQ) (ai:bj) (aH:Version):Option (ak×Bool×aQ):=
 zX (bh aa.fA ai) (
  (oW aa.nF ai aa.Eb).bind fun v4=>
  (lZ aa.nF ai aH aa.Eb v4).bind fun v6=>
  kh aa ai v4 v6 ((!v6.2)||(decide ((v6.1.length:Int)=0)))) (fun m3=>
  (lZ aa.nF ai aH aa.Eb m3).bind fun v11=>
  ki aa v11 ((!v11.2)||(decide ((v11.1.length:Int)=0))))
def eJ (n11 n17:Int) (Fb:List DeviceS):Option ((Int×(List DeviceS)×Int)⊕((List cx)×aQ)):=
 some (.inl (n17,Fb,bE (n11+1)))
def gz (n8 n11:Int) (xM:List DeviceS):Option ((Int×(List DeviceS)×Int)⊕((List cx)×aQ)):=
 eJ n11 n8 xM
def jm (n8:Int) (l10:List DeviceS) (n11:Int) (lF:DeviceS) (c20:Bool):Option ((Int×(List DeviceS)×Int)⊕((List cx)×aQ)):=
 if c20=true then
  (app l10 [lF]).bind fun yY=>
  gz n8 n11 yY
 else
  gz n8 n11 l10
def jn (BI:List ak) (n28 n29 n30:Int) (yZ:List (bj×(List (Version×ao)))) (I6:List cx):Option ((List cx)×aQ):=
 some (I6,(⟨BI,(⟨n28,n29,n30⟩:Version),yZ⟩:aQ))
def gA (n49:Int) (v55:ak×Bool×aQ) (W3:List cx):Option (((List ak)×Int×Int×Int×(List (bj×(List (Version×ao))))×(List cx)×Int)⊕((List cx)×aQ)):=
 some (.inl (v55.2.2.nF,v55.2.2.Eb.aA,v55.2.2.Eb.aD,v55.2.2.Eb.aF,v55.2.2.fA,W3,bE (n49+1)))
def dQ (aa:aB) (n8:Int) (v26:(List DeviceS)) (Hc:List ak) (n43 n44 n45:Int) (Kf:List (bj×(List (Version×ao)))) (AW:List cx) (n49:Int):Option (((List ak)×Int×Int×Int×(List (bj×(List (Version×ao))))×(List cx)×Int)⊕((List cx)×aQ)):=
 if n49 < (v26.length:Int) then
  (idx v26 n49).bind fun v51=>
  if n8≤(AW.length:Int) then
   ac .inr (jn Hc n43 n44 n45 Kf AW)
  else
   (bh aa.nw v51.Key).bind fun n53=>
   (idx aa.kd n53).bind fun v54=>
   (iE (⟨Hc,(⟨n43,n44,n45⟩:Version),Kf⟩:aQ) v51.Model v54.an.Version).bind fun v55=>
   if v55.2.1=true then
    (app AW [(⟨v51.Key,v55.1.Version,v55.1.cW⟩:cx)]).bind fun S3=>
    gA n49 v55 S3
   else
    gA n49 v55 AW
 else
  ac .inr (jn Hc n43 n44 n45 Kf AW)
def gB (aa:aB) (n8:Int) (v26:(List DeviceS)) (Hc:List ak) (n43 n44 n45:Int) (Kf:List (bj×(List (Version×ao)))) (AW:List cx) (n49:Int):Option ((List cx)×aQ):=
 iter (fun x:(List ak)×Int×Int×Int×(List (bj×(List (Version×ao))))×(List cx)×Int=>dQ aa n8 v26 x.1 x.2.1 x.2.2.1 x.2.2.2.1 x.2.2.2.2.1 x.2.2.2.2.2.1 x.2.2.2.2.2.2) (Hc,n43,n44,n45,Kf,AW,n49)
def gC (aa:aB) (ai:aQ) (n8:Int) (l10:List DeviceS):Option ((List cx)×aQ):=
 (pP l10.length (fun r:(List DeviceS)=>r.length) (gl l10 (fun y0 y1=>dz y0 y1 aa))).bind fun v26=>
 gB aa n8 v26 ai.nF ai.Eb.aA ai.Eb.aD ai.Eb.aF ai.fA [] 0
def eK (aa:aB) (ai:aQ) (aH:List DeviceS) (n8:Int) (l10:List DeviceS) (n11:Int):Option ((Int×(List DeviceS)×Int)⊕((List cx)×aQ)):=
 if n11 < (aH.length:Int) then
  (idx aH n11).bind fun lF=>
  zX (bh aa.nw lF.Key) (
   none) (fun n15=>
   (idx aa.kd n15).bind fun tL=>
   if (pT tL)=true then
    eJ n11 (bE (n8 - 1)) l10
   else
    (oJ aa.cL lF.Key 0).bind fun v21=>
    jm n8 l10 n11 lF ((decide (v21 < (aa.aN.length:Int)))&&((!(cj aa tL))&&(!(dm aa tL)))))
 else
  ac .inr (gC aa ai n8 l10)
def mq (aa:aB) (ai:aQ) (aH:List DeviceS) (n8:Int) (l10:List DeviceS) (n11:Int):Option ((List cx)×aQ):=
 iter (fun x:Int×(List DeviceS)×Int=>eK aa ai aH x.1 x.2.1 x.2.2) (n8,l10,n11)
def gD (aa:aB) (ai:aQ) (aH:List DeviceS) (c2:Bool):Option ((List cx)×aQ):=
 if c2=true then
  some ([],ai)
 else
  mq aa ai aH aa.c_.Room [] 0
def dX (aa:aB) (ai:aQ) (aH:List DeviceS) (bc ck:Int):Option ((List cx)×aQ):=
 gD aa ai aH ((decide (0≤aa.bf))||(!(kN aa.c_ bc ck)))
def iv (aa ai:MarkS):Option Int:=
 (mo [(cmp_Compare_int aa.At ai.At),(Lib.compareBytes aa.Device ai.Device)]).bind fun v3=>
 some v3
def dI (aa:List MarkS) (iD:MarkS→MarkS→Option Int):Option (List MarkS):=
 DK iD aa
def fI (n6:Int) (oK:List MarkS):Option (((List MarkS)×Int)⊕((List MarkS)×aQ)):=
 some (.inl (oK,bE (n6+1)))
def fJ (ck:Int) (l5:List MarkS) (n6:Int) (v8:DeviceS) (v11:aq) (n16:Int):Option (((List MarkS)×Int)⊕((List MarkS)×aQ)):=
 (app l5 [(⟨ck,v8.Key,n16,v11.aX⟩:MarkS)]).bind fun wS=>
 fI n6 wS
def iw (n6:Int) (jS:List MarkS):Option (((List MarkS)×Int)⊕((List MarkS)×aQ)):=
 fI n6 jS
def fK (v23:(List cx)×aQ) (E0:List MarkS):Option ((List MarkS)×aQ):=
 (pP E0.length (fun r:(List MarkS)=>r.length) (dI E0 (fun y0 y1=>iv y0 y1))).bind fun v35=>
 some (v35,v23.2)
def fL (ck:Int) (v23:(List cx)×aQ) (E0:List MarkS) (n30:Int):Option (((List MarkS)×Int)⊕((List MarkS)×aQ)):=
 if n30 < (v23.1.length:Int) then
  (idx v23.1 n30).bind fun v31=>
  (app E0 [(⟨ck,v31.Device,1,v31.Version⟩:MarkS)]).bind fun I6=>
  some (.inl (I6,bE (n30+1)))
 else
  ac .inr (fK v23 E0)
def kj (ck:Int) (v23:(List cx)×aQ) (E0:List MarkS) (n30:Int):Option ((List MarkS)×aQ):=
 iter (fun x:(List MarkS)×Int=>fL ck v23 x.1 x.2) (E0,n30)
def iy (aa:aB) (ai:aQ) (aH:List DeviceS) (ck:Int) (l5:List MarkS):Option ((List MarkS)×aQ):=
 (dX aa ai aH 0 ck).bind fun v23=>
 kj ck v23 l5 0
def fM (aa:aB) (ai:aQ) (aH:List DeviceS) (bc:List bj) (ck:Int) (l5:List MarkS) (n6:Int):Option (((List MarkS)×Int)⊕((List MarkS)×aQ)):=
 if n6 < (aH.length:Int) then
  (idx aH n6).bind fun v8=>
  zX (bh aa.nw v8.Key) (
   none) (fun n10=>
   (idx aa.kd n10).bind fun v11=>
   if v11.an.Kind=2 then
    (bM bc v8.Key).bind fun CQ=>
    if CQ=true then
     fJ ck l5 n6 v8 v11 4
    else
     fJ ck l5 n6 v8 v11 3
   else
    if v11.an.Kind=1 then
     (app l5 [(⟨ck,v8.Key,2,v11.aX⟩:MarkS)]).bind fun Cs=>
     iw n6 Cs
    else
     iw n6 l5)
 else
  ac .inr (iy aa ai aH ck l5)
def nI (aa:aB) (ai:aQ) (aH:List DeviceS) (bc:List bj) (ck:Int) (l5:List MarkS) (n6:Int):Option ((List MarkS)×aQ):=
 iter (fun x:(List MarkS)×Int=>fM aa ai aH bc ck x.1 x.2) (l5,n6)
def iF (aa:aB) (ai:aQ) (aH:List DeviceS) (bc:List bj) (ck:Int):Option ((List MarkS)×aQ):=
 nI aa ai aH bc ck [] 0
def fZ (ai:MarkS) (n8 n9 n10 n11:Int):Bool×aq:=
 (true,(⟨(⟨ai.Kind,ai.At,(⟨n8,n9,n10⟩:Version),n11⟩:an),ai.Version⟩:aq))
def ga (aa:aq) (ai:MarkS) (n12:Int):Bool×aq:=
 fZ ai aa.an.Version.aA aa.an.Version.aD aa.an.Version.aF n12
def eu (aa:aq) (ai:MarkS) (c2:Bool):Bool×aq:=
 if (!c2)=true then
  (false,aa)
 else
  if ai.Kind=3 then
   fZ ai ai.Version.aA ai.Version.aD ai.Version.aF aa.an.ed
  else
   if ai.Kind=4 then
    ga aa ai (bE (aa.an.ed+1))
   else
    ga aa ai aa.an.ed
def iS (aa:aq) (ai:MarkS) (c3:Bool):Bool×aq:=
 eu aa ai c3
def gb (aa:aq) (ai:MarkS) (c5:Bool):Bool×aq:=
 eu aa ai c5
def iT (aa:aq) (ai:MarkS) (c6:Bool):Bool×aq:=
 gb aa ai c6
def iU (aa:aq) (ai:MarkS) (c7:Bool):Bool×aq:=
 gb aa ai c7
def gd (aa:aq) (ai:MarkS) (c4:Bool):Bool×aq:=
 if c4=true then
  iT aa ai ((decide (aa.an.Kind=1))&&(decide (ai.Version=aa.aX)))
 else
  iU aa ai ((decide (aa.an.Kind=2))&&(decide (ai.Version=aa.aX)))
def aU (aa:aq) (ai:MarkS):Bool×aq:=
 if ai.Kind=1 then
  iS aa ai ((decide (aa.an.Kind=0))||((decide (aa.an.Kind=3))||(decide (aa.an.Kind=4))))
 else
  if ai.Kind=2 then
   gd aa ai (decide (ai.Kind=2))
  else
   gd aa ai (decide (ai.Kind=5))
def ko (aa:aB) (ai:MarkS) (c3:Bool):Option aB:=
 if c3=true then
  some aa
 else
  (oJ aa.cL ai.Device 0).bind fun v4=>
  none
def gU (aa:aB) (ai:MarkS) (n2 v6:Int) (v9:aq) (xN:List Int) (pj:Int) (Cs:List Int) (n30:Int):Option aB:=
 some (⟨aa.c_,aa.nw,aa.cL,xN,aa.bt.set v6.toNat (bE (pj+1)),Cs,aa.aN,n30,aa.cw,aa.kd.set n2.toNat ((aU v9 ai).2)⟩:aB)
def ez (aa:aB) (ai:MarkS) (n2 v6:Int) (v9:aq) (xN:List Int) (pj:Int) (Cs:List Int) (Yk:Bool):Option aB:=
 if Yk=true then
  gU aa ai n2 v6 v9 xN pj Cs ai.At
 else
  gU aa ai n2 v6 v9 xN pj Cs aa.bf
def fN (aa:aB) (ai:MarkS) (n2 v6:Int) (v9:aq) (xN:List Int) (pj:Int) (Cs:List Int):Option aB:=
 (idx aa.c_.aI v6).bind fun v24=>
 if aa.bf < 0 then
  (idx (aa.bt.set v6.toNat (bE (pj+1))) v6).bind fun nO=>
  if v24.zC≤nO then
   (idx Cs v6).bind fun v28=>
   (idx (aa.bt.set v6.toNat (bE (pj+1))) v6).bind fun Av=>
   ez aa ai n2 v6 v9 xN pj Cs (decide ((bE (v24.ed * Av)) < (bE (1000 * v28))))
  else
   ez aa ai n2 v6 v9 xN pj Cs false
 else
  ez aa ai n2 v6 v9 xN pj Cs false
def kq (aa:aB) (ai:MarkS) (n2 v6:Int) (v9:aq) (xN:List Int) (Yl:Bool):Option aB:=
 if Yl=true then
  some (⟨aa.c_,aa.nw,aa.cL,xN,aa.bt,aa.aY,aa.aN,aa.bf,aa.cw,aa.kd.set n2.toNat ((aU v9 ai).2)⟩:aB)
 else
  (idx aa.bt v6).bind fun pj=>
  (idx aa.bt v6).bind fun v20=>
  if ai.Kind=4 then
   (idx aa.aY v6).bind fun v22=>
   (idx aa.aY v6).bind fun v23=>
   fN aa ai n2 v6 v9 xN pj (aa.aY.set v6.toNat (bE (v22+1)))
  else
   fN aa ai n2 v6 v9 xN pj aa.aY
def fO (aa:aB) (ai:MarkS) (n2 v6:Int) (v9:aq) (xN:List Int):Option aB:=
 kq aa ai n2 v6 v9 xN ((decide (ai.Kind≠3))&&(decide (ai.Kind≠4)))
def iz (aa:aB) (ai:MarkS) (n2 v6:Int) (v9:aq) (kU:List Int):Option aB:=
 fO aa ai n2 v6 v9 kU
def kr (aa:aB) (ai:MarkS) (n2 v6:Int) (c7:Bool) (v9:aq) (BJ:Bool):Option aB:=
 if (BJ !=c7)=true then
  if BJ=true then
   (idx aa.open_ v6).bind fun sT=>
   (idx aa.open_ v6).bind fun CQ=>
   iz aa ai n2 v6 v9 (aa.open_.set v6.toNat (bE (sT - 1)))
  else
   (idx aa.open_ v6).bind fun tL=>
   (idx aa.open_ v6).bind fun v17=>
   iz aa ai n2 v6 v9 (aa.open_.set v6.toNat (bE (tL+1)))
 else
  fO aa ai n2 v6 v9 aa.open_
def ku (aa:aB) (ai:MarkS) (n2 v6:Int) (c7:Bool):Option aB:=
 (idx aa.kd n2).bind fun v9=>
 if (!((aU v9 ai).1))=true then
  some (⟨aa.c_,aa.nw,aa.cL,aa.open_,aa.bt,aa.aY,aa.aN,aa.bf,aa.cw,aa.kd.set n2.toNat ((aU v9 ai).2)⟩:aB)
 else
  kr aa ai n2 v6 c7 v9 ((cj (⟨aa.c_,aa.nw,aa.cL,aa.open_,aa.bt,aa.aY,aa.aN,aa.bf,aa.cw,aa.kd.set n2.toNat ((aU v9 ai).2)⟩:aB) ((aU v9 ai).2))||(dm (⟨aa.c_,aa.nw,aa.cL,aa.open_,aa.bt,aa.aY,aa.aN,aa.bf,aa.cw,aa.kd.set n2.toNat ((aU v9 ai).2)⟩:aB) ((aU v9 ai).2)))
def iA (aa:aB) (ai:MarkS) (n2:Int) (c5:Bool):Option aB:=
 if c5=true then
  some aa
 else
  (oJ aa.cL ai.Device 0).bind fun v6=>
  (idx aa.kd n2).bind fun v8=>
  ku aa ai n2 v6 ((cj aa v8)||(dm aa v8))
def dw (aa:aB) (ai:MarkS):Option aB:=
 zX (bh aa.nw ai.Device) (
  ko aa ai ((!false)||(decide (ai.At < aa.c_.At)))) (fun n2=>
  iA aa ai n2 ((!true)||(decide (ai.At < aa.c_.At))))
def pr (aa:Campaign) (bc n69:Int) (v76:(List MarkS)×aQ) (Kh:List MarkS) (S4:List (bj×Int)) (S5:List aq) (S6:List (bj×Int)) (I8 I9 Ja Jb:List Int) (n108 n109:Int):Option (((List (bj×Int))×(List aq)×(List (bj×Int))×(List Int)×(List Int)×(List Int)×(List Int)×Int×Int×(List ak)×Int×Int×Int×(List (bj×(List (Version×ao))))×(List MarkS)×Int)⊕((List MarkS)×Int)):=
 (cF (⟨aa,S4,S6,I8,I9,Ja,Jb,n108,n109,S5⟩:aB) n69).bind fun Lc=>
 some (.inl (S4,S5,S6,Lc.open_,Lc.bt,Lc.aY,Lc.aN,Lc.bf,Lc.cw,v76.2.nF,v76.2.Eb.aA,v76.2.Eb.aD,v76.2.Eb.aF,v76.2.fA,Kh,bE (n69+bc)))
def kO (aa:Campaign) (bc n69:Int) (v76:(List MarkS)×aQ) (Kh:List MarkS) (S4:List (bj×Int)) (S5:List aq) (S6:List (bj×Int)) (I8 I9 Ja Jb:List Int) (n108 n109 n110:Int):Option (((List (bj×Int))×(List aq)×(List (bj×Int))×(List Int)×(List Int)×(List Int)×(List Int)×Int×Int×Int)⊕(((List (bj×Int))×(List aq)×(List (bj×Int))×(List Int)×(List Int)×(List Int)×(List Int)×Int×Int×(List ak)×Int×Int×Int×(List (bj×(List (Version×ao))))×(List MarkS)×Int)⊕((List MarkS)×Int))):=
 if n110 < (v76.1.length:Int) then
  (idx v76.1 n110).bind fun Ym=>
  (dw (⟨aa,S4,S6,I8,I9,Ja,Jb,n108,n109,S5⟩:aB) Ym).bind fun Fg=>
  some (.inl (Fg.nw,Fg.kd,Fg.cL,Fg.open_,Fg.bt,Fg.aY,Fg.aN,Fg.bf,Fg.cw,bE (n110+1)))
 else
  ac .inr (pr aa bc n69 v76 Kh S4 S5 S6 I8 I9 Ja Jb n108 n109)
def pt (aa:Campaign) (bc n69:Int) (v76:(List MarkS)×aQ) (Kh:List MarkS) (S4:List (bj×Int)) (S5:List aq) (S6:List (bj×Int)) (I8 I9 Ja Jb:List Int) (n108 n109 n110:Int):Option (((List (bj×Int))×(List aq)×(List (bj×Int))×(List Int)×(List Int)×(List Int)×(List Int)×Int×Int×(List ak)×Int×Int×Int×(List (bj×(List (Version×ao))))×(List MarkS)×Int)⊕((List MarkS)×Int)):=
 iter (fun x:(List (bj×Int))×(List aq)×(List (bj×Int))×(List Int)×(List Int)×(List Int)×(List Int)×Int×Int×Int=>kO aa bc n69 v76 Kh x.1 x.2.1 x.2.2.1 x.2.2.2.1 x.2.2.2.2.1 x.2.2.2.2.2.1 x.2.2.2.2.2.2.1 x.2.2.2.2.2.2.2.1 x.2.2.2.2.2.2.2.2.1 x.2.2.2.2.2.2.2.2.2) (S4,S5,S6,I8,I9,Ja,Jb,n108,n109,n110)
def gV (aa:Campaign) (aH:List DeviceS) (bc:Int) (ck:List bj) (dV:eQ) (AW:List (bj×Int)) (VK:List aq) (VL:List (bj×Int)) (Fc Yn Yo S3:List Int) (n60 n61:Int) (Yp:List ak) (Yq Yr Yt:Int) (Oj:List (bj×(List (Version×ao)))) (W4:List MarkS) (n69:Int):Option (((List (bj×Int))×(List aq)×(List (bj×Int))×(List Int)×(List Int)×(List Int)×(List Int)×Int×Int×(List ak)×Int×Int×Int×(List (bj×(List (Version×ao))))×(List MarkS)×Int)⊕((List MarkS)×Int)):=
 if n69 < dV.To then
  (cF (⟨aa,AW,VL,Fc,Yn,Yo,S3,n60,n61,VK⟩:aB) n69).bind fun HT=>
  (iF (⟨aa,AW,VL,HT.open_,HT.bt,HT.aY,HT.aN,HT.bf,HT.cw,VK⟩:aB) (⟨Yp,(⟨Yq,Yr,Yt⟩:Version),Oj⟩:aQ) aH ck n69).bind fun v76=>
  (app W4 v76.1).bind fun Kh=>
  if 3000 < (Kh.length:Int) then
   ac .inr (some ([],2))
  else
   pt aa bc n69 v76 Kh AW VK VL HT.open_ HT.bt HT.aY HT.aN HT.bf HT.cw 0
 else
  ac .inr (some (W4,0))
def kP (aa:Campaign) (aH:List DeviceS) (bc:Int) (ck:List bj) (dV:eQ) (AW:List (bj×Int)) (VK:List aq) (VL:List (bj×Int)) (Fc Yn Yo S3:List Int) (n60 n61:Int) (Yp:List ak) (Yq Yr Yt:Int) (Oj:List (bj×(List (Version×ao)))) (W4:List MarkS) (n69:Int):Option ((List MarkS)×Int):=
 iter (fun x:(List (bj×Int))×(List aq)×(List (bj×Int))×(List Int)×(List Int)×(List Int)×(List Int)×Int×Int×(List ak)×Int×Int×Int×(List (bj×(List (Version×ao))))×(List MarkS)×Int=>gV aa aH bc ck dV x.1 x.2.1 x.2.2.1 x.2.2.2.1 x.2.2.2.2.1 x.2.2.2.2.2.1 x.2.2.2.2.2.2.1 x.2.2.2.2.2.2.2.1 x.2.2.2.2.2.2.2.2.1 x.2.2.2.2.2.2.2.2.2.1 x.2.2.2.2.2.2.2.2.2.2.1 x.2.2.2.2.2.2.2.2.2.2.2.1 x.2.2.2.2.2.2.2.2.2.2.2.2.1 x.2.2.2.2.2.2.2.2.2.2.2.2.2.1 x.2.2.2.2.2.2.2.2.2.2.2.2.2.2.1 x.2.2.2.2.2.2.2.2.2.2.2.2.2.2.2) (AW,VK,VL,Fc,Yn,Yo,S3,n60,n61,Yp,Yq,Yr,Yt,Oj,W4,n69)
def gW (aa:Campaign) (ai:List ak) (aH:List DeviceS) (bc:Int) (ck:List bj) (dV:eQ) (I7:Bool):Option ((List MarkS)×Int):=
 if I7=true then
  some ([],1)
 else
  (ir aa aH).bind fun lF=>
  kP aa aH bc ck dV lF.nw lF.kd lF.cL lF.open_ lF.bt lF.aY lF.aN lF.bf lF.cw ai aa.Target.aA aa.Target.aD aa.Target.aF [] [] dV.bF
def ik (aa:Campaign) (ai:List ak) (aH:List DeviceS) (bc:Int) (ck:List bj) (dV:eQ):Option ((List MarkS)×Int):=
 (dL aa).bind fun v3=>
 (er ai).bind fun v4=>
 (jZ aH).bind fun v5=>
 (xa [v3,v4,v5]).bind fun v6=>
 if v6≠0 then
  some ([],v6)
 else
  if (fV bc 1 2592000000)=true then
   some ([],1)
  else
   if 500 < (ck.length:Int) then
    some ([],2)
   else
    if (!(tv dV))=true then
     gW aa ai aH bc ck dV true
    else
     (quo (bE ((bE ((bE (dV.To - dV.bF))+bc)) - 1)) bc).bind fun n11=>
     gW aa ai aH bc ck dV (decide (500 < n11))
def Hd (c1:Bool):Bool:=
 c1
def vd (aa ai aH:Int):Bool:=
 Hd ((decide (ai≤aa))&&(decide (aa≤aH)))
def sy (aa ai:bj) (n2:Int):Option (Int⊕Bool):=
 if n2 < (aa.length:Int) then
  (idx aa n2).bind fun c3=>
  if (Aa ai (c3.toNat:Int)) < 0 then
   ac .inr (some false)
  else
   some (.inl (bE (n2+1)))
 else
  ac .inr (some true)
def Ga (aa ai:bj) (n2:Int):Option Bool:=
 iter (fun x:Int=>sy aa ai x) n2
def BK (aa ai:bj):Option Bool:=
 Ga aa ai 0
def wu (c1:Bool):Option Bool:=
 some c1
def AY (aa:bj):Option Bool:=
 if (vd (aa.length:Int) 1 40)=true then
  (Cj aa 0 1).bind fun l2=>
  (BK l2 ([97,98,99,100,101,102,103,104,105,106,107,108,109,110,111,112,113,114,115,116,117,118,119,120,121,122]:bj)).bind fun v3=>
  if v3=true then
   (BK aa ([97,98,99,100,101,102,103,104,105,106,107,108,109,110,111,112,113,114,115,116,117,118,119,120,121,122,48,49,50,51,52,53,54,55,56,57,45,95]:bj)).bind fun v4=>
   wu v4
  else
   wu false
 else
  wu false
def oN (c2:Bool):Int:=
 if c2=true then
  1
 else
  0
def eC (aa:Version):Int:=
 oN ((!(vd aa.aA 0 9999))||((!(vd aa.aD 0 9999))||(!(vd aa.aF 0 9999))))
def AZ (aa:Int):Bool:=
 (vd aa 0 345686399999)
def nJ (n5 n6:Int) (v7:ml) (c9:Bool):Option ((Int×Int)⊕Int):=
 if c9=true then
  ac .inr (some 1)
 else
  some (.inl (bE (n5+v7.Part),bE (n6+1)))
def nK (I7:Bool):Option Int:=
 if I7=true then
  some 1
 else
  some 0
def qF (aa:Campaign) (n5:Int):Option Int:=
 if n5≠1000 then
  some 15
 else
  nK ((!(vd aa.aZ.bF 0 86400000))||((!(vd aa.aZ.To 0 86400000))||(!(vd aa.Room 1 500))))
def lp (aa:Campaign) (n5 n6:Int):Option ((Int×Int)⊕Int):=
 if n6 < (aa.aI.length:Int) then
  (idx aa.aI n6).bind fun v7=>
  nJ n5 n6 v7 ((!(vd v7.Part 1 1000))||((!(vd v7.sx 0 2592000000))||((!(vd v7.zC 1 500))||(!(vd v7.ed 0 1000)))))
 else
  ac .inr (qF aa n5)
def qG (aa:Campaign) (n5 n6:Int):Option Int:=
 iter (fun x:Int×Int=>lp aa x.1 x.2) (n5,n6)
def nZ (aa:Campaign):Option Int:=
 (AY aa.Key).bind fun v2=>
 if (!v2)=true then
  some 5
 else
  if (eC aa.Target)≠0 then
   some (eC aa.Target)
  else
   if (!(AZ aa.At))=true then
    some 1
   else
    if (aa.aI.length:Int)=0 then
     some 3
    else
     if 20 < (aa.aI.length:Int) then
      some 2
     else
      qG aa 0 0
def pv (c2:Bool):Option Bool:=
 some c2
def sA (aa:Range) (ai:Version):Option Bool:=
 (ee aa.vM ai).bind fun v3=>
 if v3≤0 then
  (ee ai aa.mn).bind fun v4=>
  pv (decide (v4≤0))
 else
  pv false
def xb (aa:ak) (ai:Version):Option Bool:=
 (dU aa.bF (fun y0=>sA y0 ai)).bind fun v3=>
 some v3
def mV (n3:Int) (BJ:Bool):Option (Int⊕Int):=
 if BJ=true then
  ac .inr (some 7)
 else
  some (.inl (bE (n3+1)))
def pz (aa:ak) (n3:Int) (v4:Range):Option (Int⊕Int):=
 (ee v4.vM v4.mn).bind fun v10=>
 if 0 < v10 then
  ac .inr (some 1)
 else
  if 0 < n3 then
   (idx aa.bF (bE (n3 - 1))).bind fun v12=>
   (ee v4.vM v12.mn).bind fun lF=>
   mV n3 (decide (lF≤0))
  else
   mV n3 false
def eM (aa:ak) (n3:Int) (v4:Range) (n7:Int):Option (Int⊕(Int⊕Int)):=
 if n7 < ([v4.vM,v4.mn].length:Int) then
  (idx [v4.vM,v4.mn] n7).bind fun v8=>
  if (eC v8)≠0 then
   ac .inr (ac .inr (some (eC v8)))
  else
   some (.inl (bE (n7+1)))
 else
  ac .inr (pz aa n3 v4)
def wx (aa:ak) (n3:Int) (v4:Range) (n7:Int):Option (Int⊕Int):=
 iter (fun x:Int=>eM aa n3 v4 x) n7
def sB (aa:ak):Option Int:=
 (xb aa aa.Version).bind fun sT=>
 if sT=true then
  some 14
 else
  some 0
def mW (aa:ak) (n3:Int):Option (Int⊕Int):=
 if n3 < (aa.bF.length:Int) then
  (idx aa.bF n3).bind fun v4=>
  wx aa n3 v4 0
 else
  ac .inr (sB aa)
def wy (aa:ak) (n3:Int):Option Int:=
 iter (fun x:Int=>mW aa x) n3
def pU (aa:ak):Option Int:=
 if 20 < (aa.bF.length:Int) then
  some 2
 else
  wy aa 0
def mX (n9:Int) (c12:Bool):Option (Int⊕(Int⊕Int)):=
 if c12=true then
  ac .inr (ac .inr (some 7))
 else
  some (.inl (bE (n9+1)))
def sC (n2:Int) (v3:ak):Option (Int⊕Int):=
 (pU v3).bind fun sT=>
 if sT≠0 then
  ac .inr (some sT)
 else
  if (!(vd v3.cW 1 1000000000))=true then
   ac .inr (some 1)
  else
   some (.inl (bE (n2+1)))
def mY (n2:Int) (v3:ak) (n9:Int):Option (Int⊕(Int⊕Int)):=
 if n9 < (v3.df.length:Int) then
  (idx v3.df n9).bind fun v10=>
  (AY v10).bind fun v11=>
  if (!v11)=true then
   ac .inr (ac .inr (some 5))
  else
   if 0 < n9 then
    (idx v3.df (bE (n9 - 1))).bind fun lF=>
    mX n9 (Op.bytesLess v10 lF||v10==lF)
   else
    mX n9 false
 else
  ac .inr (sC n2 v3)
def wz (n2:Int) (v3:ak) (n9:Int):Option (Int⊕Int):=
 iter (fun x:Int=>mY n2 v3 x) n9
def kQ (n2:Int) (v3:ak) (c5:Bool):Option (Int⊕Int):=
 if c5=true then
  ac .inr (some 7)
 else
  if (v3.df.length:Int)=0 then
   ac .inr (some 3)
  else
   if 20 < (v3.df.length:Int) then
    ac .inr (some 2)
   else
    wz n2 v3 0
def mZ (aa:List ak) (n2:Int):Option (Int⊕Int):=
 if n2 < (aa.length:Int) then
  (idx aa n2).bind fun v3=>
  if (eC v3.Version)≠0 then
   ac .inr (some (eC v3.Version))
  else
   if 0 < n2 then
    (idx aa (bE (n2 - 1))).bind fun v6=>
    (ee v6.Version v3.Version).bind fun v7=>
    kQ n2 v3 (decide (0≤v7))
   else
    kQ n2 v3 false
 else
  ac .inr (some 0)
def wA (aa:List ak) (n2:Int):Option Int:=
 iter (fun x:Int=>mZ aa x) n2
def pV (aa:List ak):Option Int:=
 if 200 < (aa.length:Int) then
  some 2
 else
  wA aa 0
def jW (q3:bj) (n4:Int) (v5:DeviceS) (c7:Bool):Option ((bj×Int)⊕Int):=
 if c7=true then
  ac .inr (some 5)
 else
  if (Op.bytesLess v5.Key q3||v5.Key==q3)=true then
   ac .inr (some 7)
  else
   if (eC v5.bR)≠0 then
    ac .inr (some (eC v5.bR))
   else
    if 20 < (v5.oF.length:Int) then
     ac .inr (some 2)
    else
     some (.inl (v5.Key,bE (n4+1)))
def lO (aa:List DeviceS) (q3:bj) (n4:Int):Option ((bj×Int)⊕Int):=
 if n4 < (aa.length:Int) then
  (idx aa n4).bind fun v5=>
  (AY v5.Key).bind fun v8=>
  if (!v8)=true then
   jW q3 n4 v5 true
  else
   (AY v5.Model).bind fun v9=>
   if (!v9)=true then
    jW q3 n4 v5 true
   else
    (AY v5.eR).bind fun v10=>
    jW q3 n4 v5 (!v10)
 else
  ac .inr (some 0)
def qu (aa:List DeviceS) (q3:bj) (n4:Int):Option Int:=
 iter (fun x:bj×Int=>lO aa x.1 x.2) (q3,n4)
def rK (aa:List DeviceS):Option Int:=
 if 500 < (aa.length:Int) then
  some 2
 else
  qu aa ([]:bj) 0
def pK (aa:Bool) (ai:Int):Int:=
 if aa=true then
  ai
 else
  0
def pB (c2:Bool):Int:=
 if c2=true then
  1
 else
  0
def il (aa:eQ):Int:=
 pB ((!(vd aa.bF 0 aa.To))||(decide (345686400000 < aa.To)))
def y5 (aa:List Int) (n2:Int):Option (Int⊕Int):=
 if n2 < (aa.length:Int) then
  (idx aa n2).bind fun v3=>
  if v3≠0 then
   ac .inr (some v3)
  else
   some (.inl (bE (n2+1)))
 else
  ac .inr (some 0)
def Nv (aa:List Int) (n2:Int):Option Int:=
 iter (fun x:Int=>y5 aa x) n2
def BL (aa:List Int):Option Int:=
 Nv aa 0
def cO (aa:List Int) (ai n2:Int):Option (Int⊕Int):=
 if n2 < (aa.length:Int) then
  (idx aa n2).bind fun v3=>
  if ai=v3 then
   ac .inr (some n2)
  else
   some (.inl (bE (n2+1)))
 else
  ac .inr (some (-1:Int))
def na (aa:List Int) (ai n2:Int):Option Int:=
 iter (fun x:Int=>cO aa ai x) n2
def jz (aa:List Int) (ai:Int):Option Int:=
 na aa ai 0
def dF (aa:List Int) (ai:Int):Option Bool:=
 (jz aa ai).bind fun v1=>
 some (decide (0≤v1))
def om (n7:Int) (l10:List MarkS):Option (((List MarkS)×Int)⊕(List MarkS)):=
 some (.inl (l10,bE (n7+1)))
def pW (n7:Int) (VM:List MarkS):Option (((List MarkS)×Int)⊕(List MarkS)):=
 om n7 VM
def sW (l6:List MarkS) (n7:Int) (v11:MarkS) (c31:Bool):Option (((List MarkS)×Int)⊕(List MarkS)):=
 if c31=true then
  (app l6 [v11]).bind fun sa=>
  pW n7 sa
 else
  pW n7 l6
def oo (l6:List MarkS) (n7:Int) (v11:MarkS) (n15:Int) (Z3:bj) (n17 n18 n19 n20:Int):Option (((List MarkS)×Int)⊕(List MarkS)):=
 (oJ (ca (ca (ca (ca (ca ([]:List (Int×(List Int))) 1 [0,3,4]) 2 [1]) 5 [1]) 3 [2]) 4 [2]) v11.Kind []).bind fun Av=>
 (dF Av n17).bind fun v32=>
 sW l6 n7 v11 (v32&&((decide (v11.Kind=1))||(decide (v11.Version=(⟨n18,n19,n20⟩:Version)))))
def mr (l6:List MarkS) (n7:Int) (v11:MarkS) (PN:Bool):Option (((List MarkS)×Int)⊕(List MarkS)):=
 if PN=true then
  om n7 l6
 else
  if 0≤(bE ((l6.length:Int) - 1)) then
   (idx l6 (bE ((l6.length:Int) - 1))).bind fun v21=>
   oo l6 n7 v11 v21.At v21.Device v21.Kind v21.Version.aA v21.Version.aD v21.Version.aF
  else
   oo l6 n7 v11 0 [] 0 0 0 0
def oq (aa:Campaign) (ai:bj) (aH:List MarkS) (bc:Int) (l6:List MarkS) (n7:Int):Option (((List MarkS)×Int)⊕(List MarkS)):=
 if n7 < (aH.length:Int) then
  (idx aH n7).bind fun v11=>
  mr l6 n7 v11 ((decide (v11.Device≠ai))||((decide (v11.At < aa.At))||(decide (bc < v11.At))))
 else
  ac .inr (some l6)
def sX (aa:Campaign) (ai:bj) (aH:List MarkS) (bc:Int) (l6:List MarkS) (n7:Int):Option (List MarkS):=
 iter (fun x:(List MarkS)×Int=>oq aa ai aH bc x.1 x.2) (l6,n7)
def qH (aa:Campaign) (ai:bj) (aH:List MarkS) (bc:Int):Option (List MarkS):=
 sX aa ai aH bc [] 0
def wB (q3:bj) (n6 n7:Int):Option ((Int×Int)⊕Int):=
 if n7 < ((qE q3).length:Int) then
  (idx (qE q3) n7).bind fun v8=>
  some (.inl (IntKind.u64.wrap ((zS .u64 n6 (IntKind.u64.wrap (v8))) * 1099511628211),bE (n7+1)))
 else
  ac .inr (some (bE ((zS .u64 n6 (GX .u64 n6 32)).tmod 1000)))
def A0 (q3:bj) (n6 n7:Int):Option Int:=
 iter (fun x:Int×Int=>wB q3 x.1 x.2) (n6,n7)
def Ed (aa:Campaign) (ai:bj):Option Int:=
 (Nk aa.Key ([0]:bj)).bind fun q2=>
 (Nk q2 ai).bind fun q3=>
 A0 q3 14695981039346656037 0
def tw (aa:Campaign) (n5 n6:Int):Option ((Int×Int)⊕Int):=
 if n6 < (aa.aI.length:Int) then
  (idx aa.aI n6).bind fun v7=>
  if (bE (n5 - v7.Part)) < 0 then
   ac .inr (some n6)
  else
   some (.inl (bE (n5 - v7.Part),bE (n6+1)))
 else
  ac .inr (some 0)
def yq (aa:Campaign) (n5 n6:Int):Option Int:=
 iter (fun x:Int×Int=>tw aa x.1 x.2) (n5,n6)
def rO (aa:Campaign) (ai:bj):Option Int:=
 (Ed aa ai).bind fun v2=>
 yq aa v2 0
def rP (c2:Bool):Bool:=
 c2
def l0 (aa:MarkS):Bool:=
 rP ((decide (aa.Kind≠3))&&(decide (aa.Kind≠4)))
def gn (aa:List MarkS) (iD:MarkS→Option Bool) (n2:Int):Option (Int⊕Int):=
 if n2 < (aa.length:Int) then
  (idx aa n2).bind fun v3=>
  (iD v3).bind fun v4=>
  if v4=true then
   ac .inr (some n2)
  else
   some (.inl (bE (n2+1)))
 else
  ac .inr (some (-1:Int))
def tx (aa:List MarkS) (iD:MarkS→Option Bool) (n2:Int):Option Int:=
 iter (fun x:Int=>gn aa iD x) n2
def lr (aa:List MarkS) (iD:MarkS→Option Bool):Option Int:=
 tx aa iD 0
def fP (n7:Int) (vN:List MarkS) (n12:Int):Option (((List MarkS)×Int×Int)⊕(List MarkS)):=
 some (.inl (vN,n12,bE (n7+1)))
def nd (l5:List MarkS) (n6:Int):Option (List MarkS):=
 (Cj l5 n6 (l5.length:Int)).bind fun oK=>
 (Cj (E7 l5 n6 oK.length (⟨0,[],0,(⟨0,0,0⟩:Version)⟩:MarkS)) 0 n6).bind fun xL=>
 some xL
def fQ (iD:MarkS→Option Bool) (l5:List MarkS) (n6 n7:Int):Option (((List MarkS)×Int×Int)⊕(List MarkS)):=
 if n7 < (l5.length:Int) then
  (idx l5 n7).bind fun v8=>
  (iD v8).bind fun v10=>
  if (!v10)=true then
   (idx l5 n6).bind fun lF=>
   fP n7 (l5.set n6.toNat v8) (bE (n6+1))
  else
   fP n7 l5 n6
 else
  ac .inr (nd l5 n6)
def sD (iD:MarkS→Option Bool) (l5:List MarkS) (n6 n7:Int):Option (List MarkS):=
 iter (fun x:(List MarkS)×Int×Int=>fQ iD x.1 x.2.1 x.2.2) (l5,n6,n7)
def fc (aa:List MarkS) (iD:MarkS→Option Bool):Option (List MarkS):=
 (lr aa iD).bind fun v1=>
 if v1=(-1:Int) then
  some aa
 else
  sD iD aa v1 (bE (v1+1))
def Ee (aa:Int):Int:=
 if aa < 0 then
  (-1:Int)
 else
  if 0 < aa then
   1
  else
   0
def kE (aa ai:MarkS):Int:=
 if aa.At≠ai.At then
  (Ee (bE (aa.At - ai.At)))
 else
  (Lib.compareBytes aa.Device ai.Device)
def tz (n7:Int) (kU:List MarkS):Option (((List MarkS)×Int)⊕Int):=
 some (.inl (kU,bE (n7+1)))
def vq (n24:Int) (v25:MarkS) (n27:Int) (Yu:Bool):Option ((Int×Int)⊕Int):=
 if Yu=true then
  ac .inr (some v25.At)
 else
  some (.inl (n27,bE (n24+1)))
def oX (aa:Campaign) (ai n24:Int) (v25:MarkS) (n27:Int):Option ((Int×Int)⊕Int):=
 (idx aa.aI ai).bind fun v28=>
 vq n24 v25 n27 ((decide (v28.zC≤(bE (n24+1))))&&(decide ((bE (v28.ed * (bE (n24+1)))) < (bE (n27 * 1000)))))
def oY (aa:Campaign) (ai:Int) (v20:(List MarkS)) (n23 n24:Int):Option ((Int×Int)⊕Int):=
 if n24 < (v20.length:Int) then
  (idx v20 n24).bind fun v25=>
  if v25.Kind=4 then
   oX aa ai n24 v25 (bE (n23+1))
  else
   oX aa ai n24 v25 n23
 else
  ac .inr (some (-1:Int))
def vr (aa:Campaign) (ai:Int) (v20:(List MarkS)) (n23 n24:Int):Option Int:=
 iter (fun x:Int×Int=>oY aa ai v20 x.1 x.2) (n23,n24)
def vu (aa:Campaign) (ai:Int) (l6:List MarkS):Option Int:=
 (fc l6 (fun y0=>some (l0 y0))).bind fun ub=>
 (pP ub.length (fun r:(List MarkS)=>r.length) (dI ub (fun y0 y1=>some (kE y0 y1)))).bind fun v20=>
 vr aa ai v20 0 0
def qU (aa:Campaign) (ai:Int) (aH:List DeviceS) (bc:List MarkS) (ck:Int) (l6:List MarkS) (n7:Int):Option (((List MarkS)×Int)⊕Int):=
 if n7 < (aH.length:Int) then
  (idx aH n7).bind fun v9=>
  (rO aa v9.Key).bind fun v11=>
  if v11=ai then
   (qH aa v9.Key bc ck).bind fun sT=>
   (app l6 sT).bind fun Rt=>
   tz n7 Rt
  else
   tz n7 l6
 else
  ac .inr (vu aa ai l6)
def vv (aa:Campaign) (ai:Int) (aH:List DeviceS) (bc:List MarkS) (ck:Int) (l6:List MarkS) (n7:Int):Option Int:=
 iter (fun x:(List MarkS)×Int=>qU aa ai aH bc ck x.1 x.2) (l6,n7)
def A1 (aa:Campaign) (ai:Int) (aH:List DeviceS) (bc:List MarkS) (ck:Int):Option Int:=
 vv aa ai aH bc ck [] 0
def oZ (n5 n8:Int):Option ((Int×Int)⊕Int):=
 some (.inl (n8,bE (n5+1)))
def rQ (n4 n5 v6:Int) (c7:Bool):Option ((Int×Int)⊕Int):=
 if c7=true then
  oZ n5 v6
 else
  oZ n5 n4
def nf (aa:Campaign) (ai:List DeviceS) (aH:List MarkS) (bc n4 n5:Int):Option ((Int×Int)⊕Int):=
 if n5 < (aa.aI.length:Int) then
  (A1 aa n5 ai aH bc).bind fun v6=>
  rQ n4 n5 v6 ((decide (0≤v6))&&((decide (n4 < 0))||(decide (v6 < n4))))
 else
  ac .inr (some n4)
def rR (aa:Campaign) (ai:List DeviceS) (aH:List MarkS) (bc n4 n5:Int):Option Int:=
 iter (fun x:Int×Int=>nf aa ai aH bc x.1 x.2) (n4,n5)
def kF (aa:Campaign) (ai:List DeviceS) (aH:List MarkS) (bc:Int):Option Int:=
 rR aa ai aH bc (-1:Int) 0
def ud (c2:Bool):Bool:=
 c2
def ue (c3:Bool):Bool:=
 c3
def sE (aa:Campaign) (ai aH:Int):Bool:=
 if aa.aZ.bF < aa.aZ.To then
  ud ((decide (aa.aZ.bF≤((bE ((bE (aH+ai))+86400000)).tmod 86400000)))&&(decide (((bE ((bE (aH+ai))+86400000)).tmod 86400000) < aa.aZ.To)))
 else
  if aa.aZ.To < aa.aZ.bF then
   ue ((decide (aa.aZ.bF≤((bE ((bE (aH+ai))+86400000)).tmod 86400000)))||(decide (((bE ((bE (aH+ai))+86400000)).tmod 86400000) < aa.aZ.To)))
  else
   true
def mK (aa:List Int):Option (List Int):=
 IA Na aa
def pX (n20:Int) (v21:MarkS) (n23 n24 n25 n26:Int):Option ((Int×Int×Int×Int×Int×Int×Int)⊕an):=
 some (.inl (v21.Kind,v21.At,n23,n24,n25,n26,bE (n20+1)))
def pY (n16 n17 n18 n20:Int) (v21:MarkS) (n27:Int):Option ((Int×Int×Int×Int×Int×Int×Int)⊕an):=
 pX n20 v21 n16 n17 n18 n27
def ot (v5:(List MarkS)) (n14 n15 n16 n17 n18 n19 n20:Int):Option ((Int×Int×Int×Int×Int×Int×Int)⊕an):=
 if n20 < (v5.length:Int) then
  (idx v5 n20).bind fun v21=>
  if v21.Kind=3 then
   pX n20 v21 v21.Version.aA v21.Version.aD v21.Version.aF n19
  else
   if v21.Kind=4 then
    pY n16 n17 n18 n20 v21 (bE (n19+1))
   else
    pY n16 n17 n18 n20 v21 n19
 else
  ac .inr (some (⟨n14,n15,(⟨n16,n17,n18⟩:Version),n19⟩:an))
def sY (v5:(List MarkS)) (n14 n15 n16 n17 n18 n19 n20:Int):Option an:=
 iter (fun x:Int×Int×Int×Int×Int×Int×Int=>ot v5 x.1 x.2.1 x.2.2.1 x.2.2.2.1 x.2.2.2.2.1 x.2.2.2.2.2.1 x.2.2.2.2.2.2) (n14,n15,n16,n17,n18,n19,n20)
def qI (aa:Campaign) (ai:DeviceS) (aH:List MarkS) (bc:Int):Option an:=
 (qH aa ai.Key aH bc).bind fun v5=>
 sY v5 0 0 ai.bR.aA ai.bR.aD ai.bR.aF 0 0
def y7 (c5:Bool):Option Bool:=
 some c5
def BM (aa:Campaign) (ai:DeviceS) (aH:List MarkS) (bc:Int):Option Bool:=
 (qI aa ai aH bc).bind fun v3=>
 y7 ((decide (v3.Version=aa.Target))||((decide (3≤v3.ed))||(decide (v3.Kind=5))))
def j0 (c2:Bool):Option Bool:=
 some c2
def kR (aa:DeviceS) (ai:Campaign) (aH:Int) (bc:List MarkS) (ck:Int):Option Bool:=
 (rO ai aa.Key).bind fun v3=>
 if v3=(bE (aH - 1)) then
  (BM ai aa bc ck).bind fun v4=>
  j0 (!v4)
 else
  j0 false
def eF (aa:List DeviceS) (iD:DeviceS→Option Bool) (n2:Int):Option (Int⊕Int):=
 if n2 < (aa.length:Int) then
  (idx aa n2).bind fun v3=>
  (iD v3).bind fun v4=>
  if v4=true then
   ac .inr (some n2)
  else
   some (.inl (bE (n2+1)))
 else
  ac .inr (some (-1:Int))
def ri (aa:List DeviceS) (iD:DeviceS→Option Bool) (n2:Int):Option Int:=
 iter (fun x:Int=>eF aa iD x) n2
def jg (aa:List DeviceS) (iD:DeviceS→Option Bool):Option Int:=
 ri aa iD 0
def eG (aa:List DeviceS) (iD:DeviceS→Option Bool):Option Bool:=
 (jg aa iD).bind fun v1=>
 some (decide (0≤v1))
def ou (aa:Int) (ai:List DeviceS) (aH:Campaign) (bc:Int) (ck:List MarkS):Option Bool:=
 (eG ai (fun y0=>kR y0 aH bc ck aa)).bind fun v2=>
 some (!v2)
def ie (aa:List Int) (iD:Int→Option Bool) (n2:Int):Option (Int⊕Int):=
 if n2 < (aa.length:Int) then
  (idx aa n2).bind fun v3=>
  (iD v3).bind fun v4=>
  if v4=true then
   ac .inr (some n2)
  else
   some (.inl (bE (n2+1)))
 else
  ac .inr (some (-1:Int))
def uf (aa:List Int) (iD:Int→Option Bool) (n2:Int):Option Int:=
 iter (fun x:Int=>ie aa iD x) n2
def jo (aa:List Int) (iD:Int→Option Bool):Option Int:=
 uf aa iD 0
def pZ (n26:Int) (Nu:List Int):Option (((List Int)×Int)⊕(((List Int)×Int×Int)⊕(List Int))):=
 some (.inl (Nu,bE (n26+1)))
def sZ (kU:List Int) (n15 n18:Int) (c37:Bool):Option (((List Int)×Int×Int)⊕(List Int)):=
 if c37=true then
  ac .inr (some kU)
 else
  (app kU [n18]).bind fun W5=>
  some (.inl (W5,n18,bE (n15+1)))
def ov (bc v4:Int) (kU:List Int) (n15 n18:Int):Option (((List Int)×Int×Int)⊕(List Int)):=
 sZ kU n15 n18 ((decide (bc < n18))||((decide (0≤v4))&&(decide (v4≤n18))))
def ta (aa:Campaign) (ai:List DeviceS) (aH:List MarkS) (bc v4:Int) (kU:List Int) (n15:Int) (x3:List Int):Option (((List Int)×Int×Int)⊕(List Int)):=
 (pP x3.length (fun r:(List Int)=>r.length) (mK x3)).bind fun v33=>
 (jo v33 (fun y0=>ou y0 ai aa n15 aH)).bind fun Ec=>
 if Ec < 0 then
  ac .inr (some kU)
 else
  (idx v33 Ec).bind fun v35=>
  (idx aa.aI n15).bind fun PM=>
  ov bc v4 kU n15 (bE (v35+PM.sx))
def ow (aa:Campaign) (ai:List DeviceS) (aH:List MarkS) (bc v4:Int) (kU:List Int) (n15 pj:Int) (x3:List Int) (n26:Int):Option (((List Int)×Int)⊕(((List Int)×Int×Int)⊕(List Int))):=
 if n26 < (aH.length:Int) then
  (idx aH n26).bind fun nO=>
  if (vd nO.At pj bc)=true then
   (app x3 [nO.At]).bind fun yZ=>
   pZ n26 yZ
  else
   pZ n26 x3
 else
  ac .inr (ta aa ai aH bc v4 kU n15 x3)
def tb (aa:Campaign) (ai:List DeviceS) (aH:List MarkS) (bc v4:Int) (kU:List Int) (n15 pj:Int) (x3:List Int) (n26:Int):Option (((List Int)×Int×Int)⊕(List Int)):=
 iter (fun x:(List Int)×Int=>ow aa ai aH bc v4 kU n15 pj x.1 x.2) (x3,n26)
def ox (aa:Campaign) (ai:List DeviceS) (aH:List MarkS) (bc v4:Int) (kU:List Int) (n14 n15:Int):Option (((List Int)×Int×Int)⊕(List Int)):=
 if n15 < (aa.aI.length:Int) then
  if 0 < n15 then
   (idx kU (bE (n15 - 1))).bind fun pj=>
   tb aa ai aH bc v4 kU n15 pj [pj] 0
  else
   ov bc v4 kU n15 n14
 else
  ac .inr (some kU)
def kG (aa:Campaign) (ai:List DeviceS) (aH:List MarkS) (bc v4:Int) (kU:List Int) (n14 n15:Int):Option (List Int):=
 iter (fun x:(List Int)×Int×Int=>ox aa ai aH bc v4 x.1 x.2.1 x.2.2) (kU,n14,n15)
def sF (aa:Campaign) (ai:List DeviceS) (aH:List MarkS) (bc:Int):Option (List Int):=
 (kF aa ai aH bc).bind fun v4=>
 kG aa ai aH bc v4 [] aa.At 0
def y8 (c2:Bool):Bool:=
 c2
def Ef (aa:an):Bool:=
 y8 ((decide (aa.Kind=1))||(decide (aa.Kind=2)))
def mw (aa ai:DeviceS) (aH:Campaign):Option Int:=
 (rO aH aa.Key).bind fun v3=>
 (Ed aH aa.Key).bind fun v4=>
 (rO aH ai.Key).bind fun v5=>
 (Ed aH ai.Key).bind fun v6=>
 (ew [v3,v4] [v5,v6]).bind fun v7=>
 some v7
def dR (n4:Int) (l7:List DeviceS) (n8:Int) (c9:Bool):Option (((List DeviceS)×Int)⊕(((List DeviceS)×Int)⊕(List DeviceS))):=
 if c9=true then
  (idx l7 (bE (n8 - 1))).bind fun lF=>
  (idx l7 n8).bind fun sT=>
  (idx l7 n8).bind fun CQ=>
  (idx (l7.set n8.toNat lF) (bE (n8 - 1))).bind fun tL=>
  some (.inl ((l7.set n8.toNat lF).set (bE (n8 - 1)).toNat sT,bE (n8 - 1)))
 else
  ac .inr (some (.inl (l7,bE (n4+1))))
def dS (ai:Int) (qN:DeviceS→DeviceS→Option Int) (n4:Int) (l7:List DeviceS) (n8:Int):Option (((List DeviceS)×Int)⊕(((List DeviceS)×Int)⊕(List DeviceS))):=
 if ai < n8 then
  (idx l7 n8).bind fun v10=>
  (idx l7 (bE (n8 - 1))).bind fun v11=>
  (qN v10 v11).bind fun v12=>
  dR n4 l7 n8 (decide (v12 < 0))
 else
  dR n4 l7 n8 false
def pC (ai:Int) (qN:DeviceS→DeviceS→Option Int) (n4:Int) (l7:List DeviceS) (n8:Int):Option (((List DeviceS)×Int)⊕(List DeviceS)):=
 iter (fun x:(List DeviceS)×Int=>dS ai qN n4 x.1 x.2) (l7,n8)
def dT (ai aH:Int) (qN:DeviceS→DeviceS→Option Int) (l3:List DeviceS) (n4:Int):Option (((List DeviceS)×Int)⊕(List DeviceS)):=
 if n4 < aH then
  pC ai qN n4 l3 n4
 else
  ac .inr (some l3)
def pD (ai aH:Int) (qN:DeviceS→DeviceS→Option Int) (l3:List DeviceS) (n4:Int):Option (List DeviceS):=
 iter (fun x:(List DeviceS)×Int=>dT ai aH qN x.1 x.2) (l3,n4)
def dC (aa:List DeviceS) (ai aH:Int) (qN:DeviceS→DeviceS→Option Int):Option (List DeviceS):=
 pD ai aH qN aa (bE (ai+1))
def ng (ai n10:Int):Option (Int⊕(List DeviceS)):=
 if (bE (0+n10)) < ai then
  none
 else
  some (.inl (bE (n10 * 2)))
def fR (ai n10:Int):Option (Unit⊕(Int⊕(List DeviceS))):=
 if (bE (2 * n10))≤ai then
  none
 else
  ac .inr (ng ai n10)
def sG (ai n10:Int):Option (Int⊕(List DeviceS)):=
 iter (fun x:Unit=>fR ai n10) ()
def eh (ai:Int) (v8:(List DeviceS)) (n10:Int):Option (Int⊕(List DeviceS)):=
 if n10 < ai then
  sG ai n10
 else
  ac .inr (some v8)
def nh (ai:Int) (v8:(List DeviceS)) (n10:Int):Option (List DeviceS):=
 iter (fun x:Int=>eh ai v8 x) n10
def jh (ai:Int) (Dc:DeviceS→DeviceS→Option Int) (l4:List DeviceS) (n5:Int):Option (List DeviceS):=
 (pP l4.length (fun r:(List DeviceS)=>r.length) (dC l4 n5 ai Dc)).bind fun v8=>
 nh ai v8 20
def ei (ai:Int) (Dc:DeviceS→DeviceS→Option Int) (l4:List DeviceS) (n5 n6:Int):Option (((List DeviceS)×Int×Int)⊕(List DeviceS)):=
 if n6≤ai then
  (pP l4.length (fun r:(List DeviceS)=>r.length) (dC l4 n5 n6 Dc)).bind fun v7=>
  some (.inl (v7,n6,bE (n6+20)))
 else
  ac .inr (jh ai Dc l4 n5)
def nj (ai:Int) (Dc:DeviceS→DeviceS→Option Int) (l4:List DeviceS) (n5 n6:Int):Option (List DeviceS):=
 iter (fun x:(List DeviceS)×Int×Int=>ei ai Dc x.1 x.2.1 x.2.2) (l4,n5,n6)
def fe (aa:List DeviceS) (ai:Int) (Dc:DeviceS→DeviceS→Option Int):Option (List DeviceS):=
 nj ai Dc aa 0 20
def cP (aa:List DeviceS) (iD:DeviceS→DeviceS→Option Int):Option (List DeviceS):=
 (pP aa.length (fun r:(List DeviceS)=>r.length) (fe aa (aa.length:Int) iD)).bind fun v1=>
 some v1
def gE (aa:List ak):Option (List ak):=
 app [] aa
def lu (c2:Bool):Option Bool:=
 some c2
def qx (aa:ak) (ai:bj) (aH:Version):Option Bool:=
 (bM aa.df ai).bind fun v3=>
 if (!v3)=true then
  lu true
 else
  (xb aa aH).bind fun v4=>
  lu (!v4)
def ff (n7:Int) (vN:List ak) (n12:Int):Option (((List ak)×Int×Int)⊕(List ak)):=
 some (.inl (vN,n12,bE (n7+1)))
def ma (l5:List ak) (n6:Int):Option (List ak):=
 (Cj l5 n6 (l5.length:Int)).bind fun oK=>
 (Cj (E7 l5 n6 oK.length (⟨(⟨0,0,0⟩:Version),[],[],0⟩:ak)) 0 n6).bind fun xL=>
 some xL
def fg (iD:ak→Option Bool) (l5:List ak) (n6 n7:Int):Option (((List ak)×Int×Int)⊕(List ak)):=
 if n7 < (l5.length:Int) then
  (idx l5 n7).bind fun v8=>
  (iD v8).bind fun v10=>
  if (!v10)=true then
   (idx l5 n6).bind fun lF=>
   ff n7 (l5.set n6.toNat v8) (bE (n6+1))
  else
   ff n7 l5 n6
 else
  ac .inr (ma l5 n6)
def rS (iD:ak→Option Bool) (l5:List ak) (n6 n7:Int):Option (List ak):=
 iter (fun x:(List ak)×Int×Int=>fg iD x.1 x.2.1 x.2.2) (l5,n6,n7)
def gp (aa:List ak) (iD:ak→Option Bool):Option (List ak):=
 (cr aa iD).bind fun v1=>
 if v1=(-1:Int) then
  some aa
 else
  rS iD aa v1 (bE (v1+1))
def rU (aa:List ak) (ai:bj) (aH:Version):Option (List ak):=
 (gE aa).bind fun v3=>
 (gp v3 (fun y0=>qx y0 ai aH)).bind fun v5=>
 some v5
def eD (aa:List Version):Option (List Version):=
 app [] aa
def dq (aa ai:List Version):Option Int:=
 if (aa.length:Int) < (ai.length:Int) then
  some (-1:Int)
 else
  some 0
def bG (aa ai:List Version) (Dc:Version→Version→Option Int) (n2:Int):Option (Int⊕Int):=
 if n2 < (aa.length:Int) then
  (idx aa n2).bind fun v3=>
  if (ai.length:Int)≤n2 then
   ac .inr (some 1)
  else
   (idx ai n2).bind fun v5=>
   (Dc v3 v5).bind fun v7=>
   if v7≠0 then
    ac .inr (some v7)
   else
    some (.inl (bE (n2+1)))
 else
  ac .inr (dq aa ai)
def ct (aa ai:List Version) (Dc:Version→Version→Option Int) (n2:Int):Option Int:=
 iter (fun x:Int=>bG aa ai Dc x) n2
def bY (aa ai:List Version) (Dc:Version→Version→Option Int):Option Int:=
 ct aa ai Dc 0
def sH (n23:Int) (Yv:List (Version×aE)):Option (((List (Version×aE))×Int)⊕((List (Version×aE))⊕(((List (Version×aE))×Int)⊕((List Version)×Bool)))):=
 some (.inl (Yv,bE (n23+1)))
def mx (zD:Version×aE) (vl:List (Version×aE)) (n23:Int) (v24:ak) (zE:List Version) (Yw:Bool):Option (((List (Version×aE))×Int)⊕((List (Version×aE))⊕(((List (Version×aE))×Int)⊕((List Version)×Bool)))):=
 if Yw=true then
  sH n23 (ca vl v24.Version (⟨zE,bE (zD.2.bP+v24.cW)⟩:aE))
 else
  sH n23 vl
def nL (zD:Version×aE) (ub:(List ak)) (vl:List (Version×aE)) (n23:Int):Option (((List (Version×aE))×Int)⊕((List (Version×aE))⊕(((List (Version×aE))×Int)⊕((List Version)×Bool)))):=
 if n23 < (ub.length:Int) then
  (idx ub n23).bind fun v24=>
  (eD zD.2.oG).bind fun v26=>
  (app v26 [v24.Version]).bind fun zE=>
  (tV vl v24.Version (⟨[],0⟩:aE)).bind fun v32=>
  if (!v32.2)=true then
   mx zD vl n23 v24 zE true
  else
   if (bE (zD.2.bP+v24.cW)) < v32.1.bP then
    mx zD vl n23 v24 zE true
   else
    if (bE (zD.2.bP+v24.cW))=v32.1.bP then
     (bY zE v32.1.oG (fun y0 y1=>ee y0 y1)).bind fun v35=>
     mx zD vl n23 v24 zE (decide (v35 < 0))
    else
     mx zD vl n23 v24 zE false
 else
  ac .inr (some (.inl vl))
def Eg (zD:Version×aE) (ub:(List ak)) (vl:List (Version×aE)) (n23:Int):Option ((List (Version×aE))⊕(((List (Version×aE))×Int)⊕((List Version)×Bool))):=
 iter (fun x:(List (Version×aE))×Int=>nL zD ub x.1 x.2) (vl,n23)
def sI (aa:List ak) (ai:bj) (zD:Version×aE) (xL:List (Version×aE)):Option ((List (Version×aE))⊕(((List (Version×aE))×Int)⊕((List Version)×Bool))):=
 (rU aa ai zD.1).bind fun ub=>
 Eg zD ub xL 0
def uI (n9:Int) (xL:List (Version×aE)):Option (((List (Version×aE))×Int)⊕((List Version)×Bool)):=
 some (.inl (xL,bE (n9+1)))
def Ab (aa:List ak) (ai:bj) (l8:List (Version×aE)) (n9:Int) (xL:List (Version×aE)):Option (((List (Version×aE))×Int)⊕((List Version)×Bool)):=
 DN l8 (fun p=>vj (fun e (x:(List (Version×aE)))=>sI aa ai e x) (fun x:(List (Version×aE))=>uI n9 x) p xL)
def mz (aa:List ak) (ai:bj) (bc:Version) (l8:List (Version×aE)) (n9:Int):Option (((List (Version×aE))×Int)⊕((List Version)×Bool)):=
 if n9 < (bE ((aa.length:Int)+1)) then
  (tV l8 bc (⟨[],0⟩:aE)).bind fun v10=>
  if v10.2=true then
   ac .inr (some (v10.1.oG,true))
  else
   Ab aa ai l8 n9 []
 else
  ac .inr (some ([],false))
def sJ (aa:List ak) (ai:bj) (bc:Version) (l8:List (Version×aE)) (n9:Int):Option ((List Version)×Bool):=
 iter (fun x:(List (Version×aE))×Int=>mz aa ai bc x.1 x.2) (l8,n9)
def vw (aa:List ak) (ai:bj) (aH bc:Version):Option ((List Version)×Bool):=
 sJ aa ai bc (ca ([]:List (Version×aE)) aH (⟨[],0⟩:aE)) 0
def oy (aa:ak) (ai:List Version):Option Bool:=
 (idx ai 0).bind fun v2=>
 some (decide (aa.Version=v2))
def oz (n14 n20:Int) (vl:List DeviceS):Option ((Int×(List DeviceS)×Int)⊕(List cx)):=
 some (.inl (n20,vl,bE (n14+1)))
def p9 (n11 n14:Int) (BI:List DeviceS):Option ((Int×(List DeviceS)×Int)⊕(List cx)):=
 oz n14 n11 BI
def qa (n11:Int) (kU:List DeviceS) (n14:Int) (tL:DeviceS) (Yx:Bool):Option ((Int×(List DeviceS)×Int)⊕(List cx)):=
 if Yx=true then
  (app kU [tL]).bind fun zE=>
  p9 n11 n14 zE
 else
  p9 n11 n14 kU
def mA (n38 n40:Int) (Hc:List cx):Option ((Int×(List cx)×Int)⊕(List cx)):=
 some (.inl (n40,Hc,bE (n38+1)))
def oA (ai:List ak) (n35:Int) (Ac:List cx) (n38:Int) (zk:DeviceS) (v46:(List Version)×Bool) (Cr:Bool):Option ((Int×(List cx)×Int)⊕(List cx)):=
 if Cr=true then
  mA n38 n35 Ac
 else
  (cr ai (fun y0=>oy y0 v46.1)).bind fun v49=>
  (idx v46.1 0).bind fun v50=>
  (idx ai v49).bind fun v51=>
  (app Ac [(⟨zk.Key,v50,v51.cW⟩:cx)]).bind fun l52=>
  mA n38 (bE (n35 - 1)) l52
def mB (aa:Campaign) (ai:List ak) (bc:List MarkS) (dV:Int) (v30:(List DeviceS)) (n35:Int) (Ac:List cx) (n38:Int):Option ((Int×(List cx)×Int)⊕(List cx)):=
 if n38 < (v30.length:Int) then
  (idx v30 n38).bind fun zk=>
  (qI aa zk bc dV).bind fun v45=>
  (vw ai zk.Model v45.Version aa.Target).bind fun v46=>
  oA ai n35 Ac n38 zk v46 ((!v46.2)||(decide (n35≤0)))
 else
  ac .inr (some Ac)
def qd (aa:Campaign) (ai:List ak) (bc:List MarkS) (dV:Int) (v30:(List DeviceS)) (n35:Int) (Ac:List cx) (n38:Int):Option (List cx):=
 iter (fun x:Int×(List cx)×Int=>mB aa ai bc dV v30 x.1 x.2.1 x.2.2) (n35,Ac,n38)
def qe (aa:Campaign) (ai:List ak) (bc:List MarkS) (dV n11:Int) (kU:List DeviceS):Option (List cx):=
 (pP kU.length (fun r:(List DeviceS)=>r.length) (cP kU (fun y0 y1=>mw y0 y1 aa))).bind fun v30=>
 qd aa ai bc dV v30 n11 [] 0
def oB (aa:Campaign) (ai:List ak) (aH:List DeviceS) (bc:List MarkS) (dV:Int) (v5:(List Int)) (n11:Int) (kU:List DeviceS) (n14:Int):Option ((Int×(List DeviceS)×Int)⊕(List cx)):=
 if n14 < (aH.length:Int) then
  (idx aH n14).bind fun tL=>
  (qI aa tL bc dV).bind fun ub=>
  if (Ef ub)=true then
   oz n14 (bE (n11 - 1)) kU
  else
   (rO aa tL.Key).bind fun v24=>
   if v24 < (v5.length:Int) then
    (BM aa tL bc dV).bind fun v25=>
    qa n11 kU n14 tL (!v25)
   else
    qa n11 kU n14 tL false
 else
  ac .inr (qe aa ai bc dV n11 kU)
def vO (aa:Campaign) (ai:List ak) (aH:List DeviceS) (bc:List MarkS) (dV:Int) (v5:(List Int)) (n11:Int) (kU:List DeviceS) (n14:Int):Option (List cx):=
 iter (fun x:Int×(List DeviceS)×Int=>oB aa ai aH bc dV v5 x.1 x.2.1 x.2.2) (n11,kU,n14)
def oC (aa:Campaign) (ai:List ak) (aH:List DeviceS) (bc:List MarkS) (dV:Int) (c2:Bool):Option (List cx):=
 if c2=true then
  some []
 else
  (sF aa aH bc dV).bind fun v5=>
  vO aa ai aH bc dV v5 aa.Room [] 0
def nM (aa:Campaign) (ai:List ak) (aH:List DeviceS) (bc:List MarkS) (ck dV:Int):Option (List cx):=
 (kF aa aH bc dV).bind fun v3=>
 oC aa ai aH bc dV ((decide (0≤v3))||(!(sE aa ck dV)))
def o0 (n15:Int) (Nt:List MarkS):Option (((List MarkS)×Int)⊕(((List MarkS)×Int)⊕((List MarkS)×Int))):=
 some (.inl (Nt,bE (n15+1)))
def qV (n8:Int) (oK:List MarkS) (n15:Int) (v23:MarkS) (n27:Int):Option (((List MarkS)×Int)⊕(((List MarkS)×Int)⊕((List MarkS)×Int))):=
 (app oK [(⟨n8,v23.Device,n27,v23.Version⟩:MarkS)]).bind fun E0=>
 o0 n15 E0
def qW (n8:Int) (oK:List MarkS) (n15:Int) (v23:MarkS) (n28:Int):Option (((List MarkS)×Int)⊕(((List MarkS)×Int)⊕((List MarkS)×Int))):=
 qV n8 oK n15 v23 n28
def qX (n8:Int) (oK:List MarkS) (n15:Int) (v23:MarkS) (Yy:Bool):Option (((List MarkS)×Int)⊕(((List MarkS)×Int)⊕((List MarkS)×Int))):=
 if Yy=true then
  qV n8 oK n15 v23 4
 else
  if v23.Kind=2 then
   qW n8 oK n15 v23 3
  else
   if v23.Kind=1 then
    qW n8 oK n15 v23 2
   else
    o0 n15 oK
def qY (bc:Int) (l7:List MarkS) (n8:Int) (Ac:List MarkS):Option (((List MarkS)×Int)⊕((List MarkS)×Int)):=
 (pP Ac.length (fun r:(List MarkS)=>r.length) (dI Ac (fun y0 y1=>some (kE y0 y1)))).bind fun zk=>
 (app l7 zk).bind fun Ns=>
 if 3000 < (Ns.length:Int) then
  ac .inr (some ([],2))
 else
  some (.inl (Ns,bE (n8+bc)))
def qZ (bc:Int) (l7:List MarkS) (n8:Int) (v31:(List cx)) (Ac:List MarkS) (n38:Int):Option (((List MarkS)×Int)⊕(((List MarkS)×Int)⊕((List MarkS)×Int))):=
 if n38 < (v31.length:Int) then
  (idx v31 n38).bind fun v39=>
  (app Ac [(⟨n8,v39.Device,1,v39.Version⟩:MarkS)]).bind fun l41=>
  some (.inl (l41,bE (n38+1)))
 else
  ac .inr (qY bc l7 n8 Ac)
def vx (bc:Int) (l7:List MarkS) (n8:Int) (v31:(List cx)) (Ac:List MarkS) (n38:Int):Option (((List MarkS)×Int)⊕((List MarkS)×Int)):=
 iter (fun x:(List MarkS)×Int=>qZ bc l7 n8 v31 x.1 x.2) (Ac,n38)
def tA (aa:Campaign) (ai:List ak) (aH:List DeviceS) (bc:Int) (l7:List MarkS) (n8:Int) (oK:List MarkS):Option (((List MarkS)×Int)⊕((List MarkS)×Int)):=
 (nM aa ai aH l7 0 n8).bind fun v31=>
 vx bc l7 n8 v31 oK 0
def ra (aa:Campaign) (ai:List ak) (aH:List DeviceS) (bc:Int) (ck:List bj) (l7:List MarkS) (n8:Int) (oK:List MarkS) (n15:Int):Option (((List MarkS)×Int)⊕(((List MarkS)×Int)⊕((List MarkS)×Int))):=
 if n15 < (aH.length:Int) then
  (idx aH n15).bind fun pj=>
  (qH aa pj.Key l7 (bE (n8 - 1))).bind fun v21=>
  if (v21.length:Int)=0 then
   o0 n15 oK
  else
   (idx v21 (bE ((v21.length:Int) - 1))).bind fun v23=>
   if v23.Kind=2 then
    (bM ck pj.Key).bind fun v26=>
    qX n8 oK n15 v23 v26
   else
    qX n8 oK n15 v23 false
 else
  ac .inr (tA aa ai aH bc l7 n8 oK)
def vy (aa:Campaign) (ai:List ak) (aH:List DeviceS) (bc:Int) (ck:List bj) (l7:List MarkS) (n8:Int) (oK:List MarkS) (n15:Int):Option (((List MarkS)×Int)⊕((List MarkS)×Int)):=
 iter (fun x:(List MarkS)×Int=>ra aa ai aH bc ck l7 n8 x.1 x.2) (oK,n15)
def ny (aa:Campaign) (ai:List ak) (aH:List DeviceS) (bc:Int) (ck:List bj) (dV:eQ) (l7:List MarkS) (n8:Int):Option (((List MarkS)×Int)⊕((List MarkS)×Int)):=
 if n8 < dV.To then
  vy aa ai aH bc ck l7 n8 [] 0
 else
  ac .inr (some (l7,0))
def rb (aa:Campaign) (ai:List ak) (aH:List DeviceS) (bc:Int) (ck:List bj) (dV:eQ) (l7:List MarkS) (n8:Int):Option ((List MarkS)×Int):=
 iter (fun x:(List MarkS)×Int=>ny aa ai aH bc ck dV x.1 x.2) (l7,n8)
def wC (aa:Campaign) (ai:List ak) (aH:List DeviceS) (bc:Int) (ck:List bj) (dV:eQ):Option ((List MarkS)×Int):=
 rb aa ai aH bc ck dV [] dV.bF
def iV (aa ai:List MarkS) (n2:Int):Option (Int⊕Bool):=
 if n2 < (aa.length:Int) then
  (idx aa n2).bind fun v3=>
  (idx ai n2).bind fun v4=>
  if v3≠v4 then
   ac .inr (some false)
  else
   some (.inl (bE (n2+1)))
 else
  ac .inr (some true)
def ve (aa ai:List MarkS) (n2:Int):Option Bool:=
 iter (fun x:Int=>iV aa ai x) n2
def kA (aa ai:List MarkS):Option Bool:=
 if (aa.length:Int)≠(ai.length:Int) then
  some false
 else
  ve aa ai 0
def o7 (n4:Int) (c5:Bool):Option (Int⊕(Int×Bool)):=
 if c5=true then
  ac .inr (some (0,false))
 else
  some (.inl (bE (n4+1)))
def rV (aa:bj):Option (Int×Bool):=
 (IW aa).bind fun v8=>
 some (v8.1,v8.2)
def fE (aa:bj) (n4:Int):Option (Int⊕(Int×Bool)):=
 if n4 < ((Lib.trimPrefix aa ([45]:bj)).length:Int) then
  (idx (Lib.trimPrefix aa ([45]:bj)) n4).bind fun c6=>
  if (c6.toNat:Int) < 48 then
   o7 n4 true
  else
   (idx (Lib.trimPrefix aa ([45]:bj)) n4).bind fun c7=>
   o7 n4 (decide (57 < (c7.toNat:Int)))
 else
  ac .inr (rV aa)
def uJ (aa:bj) (n4:Int):Option (Int×Bool):=
 iter (fun x:Int=>fE aa x) n4
def nk (aa:bj) (c1:Bool):Option (Int×Bool):=
 if c1=true then
  some (0,false)
 else
  uJ aa 0
def tB (aa:bj) (ai:Int):Option (Int×Bool):=
 if (Lib.trimPrefix aa ([45]:bj))=([]:bj) then
  nk aa true
 else
  if ai < ((Lib.trimPrefix aa ([45]:bj)).length:Int) then
   nk aa true
  else
   (idx (Lib.trimPrefix aa ([45]:bj)) 0).bind fun c2=>
   nk aa ((decide ((c2.toNat:Int)=48))&&((decide (1 < ((Lib.trimPrefix aa ([45]:bj)).length:Int)))||(decide (((Lib.trimPrefix aa ([45]:bj)).length:Int) < (aa.length:Int)))))
def lP (aa:List bj) (ai:Int) (l5:List Int) (n6:Int):Option (((List Int)×Int)⊕((List Int)×Bool)):=
 if n6 < (aa.length:Int) then
  (idx aa n6).bind fun v8=>
  (tB v8 ai).bind fun v9=>
  if (!v9.2)=true then
   ac .inr (some ([],false))
  else
   (app l5 [v9.1]).bind fun vN=>
   some (.inl (vN,bE (n6+1)))
 else
  ac .inr (some (l5,true))
def qy (aa:List bj) (ai:Int) (l5:List Int) (n6:Int):Option ((List Int)×Bool):=
 iter (fun x:(List Int)×Int=>lP aa ai x.1 x.2) (l5,n6)
def rW (aa:List bj) (ai:Int):Option ((List Int)×Bool):=
 qy aa ai [] 0
def jq (v4:(List Int)×Bool) (c6:Bool):Option (Version×Int):=
 if c6=true then
  some ((⟨0,0,0⟩:Version),9)
 else
  (idx v4.1 0).bind fun v7=>
  (idx v4.1 1).bind fun v8=>
  (idx v4.1 2).bind fun v9=>
  if (!(iq (⟨v7,v8,v9⟩:Version)))=true then
   some ((⟨0,0,0⟩:Version),9)
  else
   some ((⟨v7,v8,v9⟩:Version),0)
def jb (aa:bj):Option (Version×Int):=
 (D8 aa ([46]:bj)).bind fun v2=>
 (rW v2 4).bind fun v4=>
 jq v4 ((!v4.2)||(decide ((v4.1.length:Int)≠3)))
def rZ (c3:Bool):Option Bool:=
 some c3
def tC:Option Bool:=
 (jb ([49,46,50,46,51]:bj)).bind fun v1=>
 rZ ((decide (v1.2=0))&&(decide (v1.1=(⟨1,2,3⟩:Version))))
def gX (n32:Int) (v35:Bool×ah) (Ac:List bj):Option (((List Int)×Int×(List bj)×Int)⊕Bool):=
 some (.inl (v35.2.L,v35.2.at_,Ac,bE (n32+1)))
def jA (c59:Bool):Option Bool:=
 some c59
def gY (v40:(List MarkS)×Int) (n48:Int) (W6:List MarkS):Option Bool:=
 if v40.2=n48 then
  (kA v40.1 W6).bind fun v60=>
  if v60=true then
   (tC).bind fun La=>
   jA La
  else
   jA false
 else
  jA false
def jB (v40:(List MarkS)×Int) (n52:Int) (PL:List MarkS):Option Bool:=
 gY v40 n52 PL
def gZ (v2:Campaign×ah) (v3:(List ak)×ah) (v5:(List DeviceS)×ah) (v7:Int×ah) (n19 n20:Int) (yZ:List bj) (v40:(List MarkS)×Int) (n42:Int):Option Bool:=
 if n42=0 then
  (quo (bE ((bE ((bE (n20 - n19))+v7.1)) - 1)) v7.1).bind fun n51=>
  if (pK (decide (500 < n51)) 1)=0 then
   (wC v2.1 v3.1 v5.1 v7.1 yZ (⟨n19,n20⟩:eQ)).bind fun v55=>
   jB v40 v55.2 v55.1
  else
   jB v40 (pK (decide (500 < n51)) 1) []
 else
  gY v40 n42 []
def mb (v2:Campaign×ah) (v3:(List ak)×ah) (v5:(List DeviceS)×ah) (v7:Int×ah) (n19 n20:Int) (yZ:List bj):Option Bool:=
 (ik v2.1 v3.1 v5.1 v7.1 yZ (⟨n19,n20⟩:eQ)).bind fun v40=>
 (nZ v2.1).bind fun zk=>
 (pV v3.1).bind fun v44=>
 (rK v5.1).bind fun v45=>
 if v7.1 < 1 then
  (BL [zk,v44,v45,(pK true 1),(il (⟨n19,n20⟩:eQ))]).bind fun v47=>
  gZ v2 v3 v5 v7 n19 n20 yZ v40 v47
 else
  (BL [zk,v44,v45,(pK (decide (2592000000 < v7.1)) 1),(il (⟨n19,n20⟩:eQ))]).bind fun v46=>
  gZ v2 v3 v5 v7 n19 n20 yZ v40 v46
def jC (v2:Campaign×ah) (v3:(List ak)×ah) (v5:(List DeviceS)×ah) (v7:Int×ah) (n19 n20:Int) (zE:List Int) (n29:Int) (yZ:List bj) (n32:Int):Option (((List Int)×Int×(List bj)×Int)⊕Bool):=
 if n32 < ([([100,49]:bj),([100,51]:bj)].length:Int) then
  (idx [([100,49]:bj),([100,51]:bj)] n32).bind fun Ec=>
  (eO (⟨zE,n29⟩:ah) 3).bind fun v35=>
  if v35.1=true then
   (app yZ [Ec]).bind fun W5=>
   gX n32 v35 W5
  else
   gX n32 v35 yZ
 else
  ac .inr (mb v2 v3 v5 v7 n19 n20 yZ)
def tD (v2:Campaign×ah) (v3:(List ak)×ah) (v5:(List DeviceS)×ah) (v7:Int×ah) (n19 n20:Int) (zE:List Int) (n29:Int) (yZ:List bj) (n32:Int):Option Bool:=
 iter (fun x:(List Int)×Int×(List bj)×Int=>jC v2 v3 v5 v7 n19 n20 x.1 x.2.1 x.2.2.1 x.2.2.2) (zE,n29,yZ,n32)
def ia (v2:Campaign×ah) (v3:(List ak)×ah) (v5:(List DeviceS)×ah) (v7:Int×ah) (wS:List Int) (n18 n19 n20:Int):Option Bool:=
 tD v2 v3 v5 v7 n19 n20 wS n18 [] 0
def ib (v2:Campaign×ah) (v3:(List ak)×ah) (v5:(List DeviceS)×ah) (v7 v9:Int×ah) (xN:List Int) (n13 n14:Int):Option Bool:=
 (eO (⟨xN,n13⟩:ah) 12).bind fun tL=>
 if tL.1=true then
  (eS tL.2 0 100).bind fun v21=>
  (eS v21.2 0 200).bind fun v22=>
  ia v2 v3 v5 v7 v22.2.L v22.2.at_ v21.1 v22.1
 else
  ia v2 v3 v5 v7 tL.2.L tL.2.at_ v9.1 n14
def mc (aa:List Int):Option Bool:=
 (nV (⟨aa,0⟩:ah)).bind fun v2=>
 (pR v2.2).bind fun v3=>
 (rB v3.2 4).bind fun v5=>
 (cU v5.2 [10,10,25,1,0,2592000000,2592000001]).bind fun v7=>
 (cU v7.2 [0,10,100]).bind fun v9=>
 (cU v9.2 [100,200,250]).bind fun v10=>
 if v7.1=1 then
  (cU v10.2 [5,20,501]).bind fun CQ=>
  ib v2 v3 v5 v7 v9 CQ.2.L CQ.2.at_ (bE (v9.1+CQ.1))
 else
  ib v2 v3 v5 v7 v9 v10.2.L v10.2.at_ v10.1
end
end Go.Beacon
