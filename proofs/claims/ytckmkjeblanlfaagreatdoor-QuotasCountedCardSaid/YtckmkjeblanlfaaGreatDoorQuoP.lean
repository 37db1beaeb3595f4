/- Plain functions that the Go functions compute, written by shal.py. -/
import Derived.Test.YtckmkjeblanlfaaGreatDoorCore
set_option linter.unusedVariables false
namespace Go.Beacon
open Go Go.Eng
noncomputable section
structure ag where
 L:List Int
 at_:Int
deriving DecidableEq,Inhabited
structure an where
 Key:al
 eB:al
deriving DecidableEq,Inhabited
def an.av (x:an):AV:=.agg [.str x.Key,.str x.eB]
structure bF where
 Key:al
 mR:List al
deriving DecidableEq,Inhabited
def bF.av (x:bF):AV:=.agg [.str x.Key,.list 1 (x.mR.map AV.str)]
structure bj where
 vE:al
 an:al
 bF:al
deriving DecidableEq,Inhabited
def bj.av (x:bj):AV:=.agg [.str x.vE,.str x.an,.str x.bF]
structure bL where
 Kind:Int
 cf:Bool
 Number:Int
 Words:al
deriving DecidableEq,Inhabited
def bL.av (x:bL):AV:=.agg [I x.Kind,.bool x.cf,I x.Number,.str x.Words]
structure Version where
 bQ:Int
 bR:Int
 bN:Int
deriving DecidableEq,Inhabited
def Version.av (x:Version):AV:=.agg [I x.bQ,I x.bR,I x.bN]
structure Query where
 Kind:Int
 Field:al
 Op:al
 Value:bL
 Version:Version
 Kids:List Query
instance:Inhabited Query:=⟨⟨default,default,default,default,default,[]⟩⟩
mutual
def Query.av:Query→AV
 | ⟨L9,IX,Tr,y2,xx,Ma⟩=>.agg [I L9,.str IX,.str Tr,I y2.Kind,.bool y2.cf,I y2.Number,.str y2.Words,I xx.bQ,I xx.bR,I xx.bN,.list 11 (Query.lK Ma)]
def Query.lK:List Query→List AV
 | []=>[]
 | x :: r=>Query.av x :: Query.lK r
end
theorem Query.Mb:∀ l:List Query,Query.lK l=l.map Query.av
 | []=>by simp [Query.lK]
 | x :: r=>by rw [Query.lK,Query.Mb r,List.map_cons]
theorem Query.pV (x:Query):Query.av x=.agg [I x.Kind,.str x.Field,.str x.Op,I x.Value.Kind,.bool x.Value.cf,I x.Value.Number,.str x.Value.Words,I x.Version.bQ,I x.Version.bR,I x.Version.bN,.list 11 (x.Kids.map Query.av)]:=by
 obtain ⟨L9,IX,Tr,y2,xx,Ma⟩:=x
 rw [Query.av,Query.Mb]
structure lA where
 iU:Int
 To:Int
deriving DecidableEq,Inhabited
def lA.av (x:lA):AV:=.agg [I x.iU,I x.To]
structure bJ where
 Key:al
 iU:al
 To:al
 Query:Query
 mR:List al
 Time:lA
deriving Inhabited
def bJ.av (x:bJ):AV:=.agg [.str x.Key,.str x.iU,.str x.To,I x.Query.Kind,.str x.Query.Field,.str x.Query.Op,I x.Query.Value.Kind,.bool x.Query.Value.cf,I x.Query.Value.Number,.str x.Query.Value.Words,I x.Query.Version.bQ,I x.Query.Version.bR,I x.Query.Version.bN,.list 11 (x.Query.Kids.map Query.av),.list 1 (x.mR.map AV.str),I x.Time.iU,I x.Time.To]
structure bu where
 ak:List an
 ba:List bF
 aL:List bj
 aR:List bJ
deriving Inhabited
def bu.av (x:bu):AV:=.agg [.list 2 (x.ak.map an.av),.list 2 (x.ba.map bF.av),.list 3 (x.aL.map bj.av),.list 17 (x.aR.map bJ.av)]
structure aH where
 an:al
 bT:al
 kU:Int
deriving DecidableEq,Inhabited
def aH.av (x:aH):AV:=.agg [.str x.an,.str x.bT,I x.kU]
structure aM where
 an:al
 bT:al
 mS:Int
deriving DecidableEq,Inhabited
def aM.av (x:aM):AV:=.agg [.str x.an,.str x.bT,I x.mS]
structure jb where
 a_:al
 b_:al
deriving DecidableEq,Inhabited
def jb.av (x:jb):AV:=.agg [.str x.a_,.str x.b_]
structure aC where
 bu:bu
 a8:List (al×al)
 qU:List (al×(List al))
 at_:List (al×(List Int))
 zP:List (jb×(List Int))
 yh:List (jb×Bool)
deriving Inhabited
structure aj where
 cu:al
 cZ:al
deriving DecidableEq,Inhabited
def aj.av (x:aj):AV:=.agg [.str x.cu,.str x.cZ]
instance:vV aj:=⟨fun a b=>(vV.lt a.cu b.cu||(decide (a.cu=b.cu)&&(vV.lt a.cZ b.cZ||(decide (a.cZ=b.cZ)&&false))))⟩
def wO (n2:Int):Option Int:=
 some n2
def Below (aa:Int) (ah:Int):Option Int:=
 if ah < (1:Int) then
  some (0:Int)
 else
  (rem aa ah).bind fun n1=>
  if n1 < (0:Int) then
   wO (cr (n1+ah))
  else
   wO n1
def dw (aa:ag) (ah:Int):Option (Int×ag):=
 if (aa.L.length:Int)=(0:Int) then
  (Below (cr ((cr (aa.at_+(1:Int))) * (7919:Int))) ah).bind fun v1=>
  some (v1,(⟨aa.L,cr (aa.at_+(1:Int))⟩:ag))
 else
  (rem (cr ((cr (aa.at_+(1:Int))) - (1:Int))) (aa.L.length:Int)).bind fun n2=>
  (quo (cr ((cr (aa.at_+(1:Int))) - (1:Int))) (aa.L.length:Int)).bind fun n3=>
  (idx aa.L n2).bind fun v4=>
  (Below v4 (1073741824:Int)).bind fun v5=>
  (Below (cr (v5+(cr (n3 * (cr ((7919:Int)+n2)))))) ah).bind fun v6=>
  some (v6,(⟨aa.L,cr (aa.at_+(1:Int))⟩:ag))
def bH (aa:ag) (ah:List al):Option (al×ag):=
 (dw aa (ah.length:Int)).bind fun v1=>
 (idx ah v1.1).bind fun v2=>
 some (v2,v1.2)
def mY (aa:ag):Option ((List al)×ag):=
 (dw aa (5:Int)).bind fun v1=>
 (idx [[([42]:al)],[([100,101,118,105,99,101,46,42]:al)],[([100,101,118,105,99,101,46,114,101,97,100]:al)],[([100,101,118,105,99,101,46,114,101,97,100]:al),([111,114,103,46,42]:al)],[([100,101,118,105,99,101,46,114,101,97,100]:al),([100,101,118,105,99,101,46,119,114,105,116,101]:al)]] v1.1).bind fun v2=>
 some (v2,v1.2)
def dx (aa:ag) (ah:Int):Option (Bool×ag):=
 (dw aa ah).bind fun v1=>
 some (decide (v1.1=(0:Int)),v1.2)
def cx (aa:ag) (ah:List Int):Option (Int×ag):=
 (dw aa (ah.length:Int)).bind fun v1=>
 (idx ah v1.1).bind fun v2=>
 some (v2,v1.2)
def gq (aa:ag):Option (al×ag):=
 (bH aa [([61,61]:al),([61,61]:al),([33,61]:al)]).bind fun v1=>
 some (v1.1,v1.2)
def iq (aa:List al) (ah:ag):Option (bL×ag):=
 (bH ah aa).bind fun v2=>
 some ((⟨(3:Int),false,(0:Int),v2.1⟩:bL),v2.2)
def vc:(List al):=
 [([61,61]:al),([33,61]:al),([60,61]:al),([62,61]:al),([60]:al),([62]:al)]
def pw (aa:ag):Option (Query×ag):=
 (dw aa (8:Int)).bind fun v3=>
 if v3.1=(0:Int) then
  (bH v3.2 [([116,97,103,46,115,105,116,101]:al),([116,97,103,46,111,112,101,110]:al),([112,114,111,112,46,97]:al),([112,114,111,112,46,102,97,110,46,111,110]:al)]).bind fun v4=>
  some ((⟨(2:Int),v4.1,[],(⟨(0:Int),false,(0:Int),[]⟩:bL),(⟨(0:Int),(0:Int),(0:Int)⟩:Version),[]⟩:Query),v4.2)
 else
  if v3.1=(1:Int) then
   (gq v3.2).bind fun v5=>
   (iq [([100,97]:al),([100,98]:al),([102,114,101,115,104]:al)] v5.2).bind fun v6=>
   some ((⟨(1:Int),([107,101,121]:al),v5.1,v6.1,(⟨(0:Int),(0:Int),(0:Int)⟩:Version),[]⟩:Query),v6.2)
  else
   if v3.1=(2:Int) then
    (bH v3.2 [([109,111,100,101,108]:al),([116,101,110,97,110,116]:al)]).bind fun v7=>
    (gq v7.2).bind fun v8=>
    (iq [([109,97]:al),([116,97]:al),([]:al),([81]:al)] v8.2).bind fun v9=>
    some ((⟨(1:Int),v7.1,v8.1,v9.1,(⟨(0:Int),(0:Int),(0:Int)⟩:Version),[]⟩:Query),v9.2)
   else
    if v3.1=(3:Int) then
     (bH v3.2 vc).bind fun v10=>
     (dw v10.2 (2:Int)).bind fun v11=>
     (cx v11.2 [(0:Int),(2:Int)]).bind fun v12=>
     (cx v12.2 [(0:Int),(0:Int),(9999:Int)]).bind fun oh=>
     some ((⟨(1:Int),([102,105,114,109,119,97,114,101]:al),v10.1,(⟨(0:Int),false,(0:Int),[]⟩:bL),(⟨v11.1,v12.1,oh.1⟩:Version),[]⟩:Query),oh.2)
    else
     if v3.1=(4:Int) then
      (gq v3.2).bind fun xy=>
      (iq [([120]:al),([121]:al),([97,34,98,92,99]:al),([]:al)] xy.2).bind fun lB=>
      some ((⟨(1:Int),([116,97,103,46,115,105,116,101]:al),xy.1,lB.1,(⟨(0:Int),(0:Int),(0:Int)⟩:Version),[]⟩:Query),lB.2)
     else
      if v3.1=(5:Int) then
       (gq v3.2).bind fun uq=>
       (dx uq.2 (2:Int)).bind fun v17=>
       some ((⟨(1:Int),([112,114,111,112,46,102,97,110,46,111,110]:al),uq.1,(⟨(1:Int),v17.1,(0:Int),[]⟩:bL),(⟨(0:Int),(0:Int),(0:Int)⟩:Version),[]⟩:Query),v17.2)
      else
       if v3.1=(6:Int) then
        (gq v3.2).bind fun uO=>
        (iq [([120]:al),([]:al)] uO.2).bind fun iV=>
        some ((⟨(1:Int),([112,114,111,112,46,97]:al),uO.1,iV.1,(⟨(0:Int),(0:Int),(0:Int)⟩:Version),[]⟩:Query),iV.2)
       else
        (bH v3.2 vc).bind fun v20=>
        (cx v20.2 [(0:Int),(5:Int),(6:Int),(-5:Int)]).bind fun v21=>
        some ((⟨(1:Int),([112,114,111,112,46,97]:al),v20.1,(⟨(2:Int),false,v21.1,[]⟩:bL),(⟨(0:Int),(0:Int),(0:Int)⟩:Version),[]⟩:Query),v21.2)
def fT (n22:Int) (v24:Query×ag) (Eg:List Query):Option (((List Int)×Int×(List Query)×Int)⊕(Query×ag)):=
 some (.inl (v24.2.L,v24.2.at_,Eg,cr (n22+(1:Int))))
def jN (wP:List Query) (n22:Int) (v24:Query×ag) (KD:Bool):Option (((List Int)×Int×(List Query)×Int)⊕(Query×ag)):=
 if KD=true then
  (app wP v24.1.Kids).bind fun Mc=>
  fT n22 v24 Mc
 else
  (app wP [v24.1]).bind fun KE=>
  fT n22 v24 KE
def ir (self:ag→Int→Option (Query×ag)) (ah:Int) (v7:Int×ag) (n11:Int) (wu:List Int) (n19:Int) (wP:List Query) (n22:Int):Option (((List Int)×Int×(List Query)×Int)⊕(Query×ag)):=
 if n22 < n11 then
  (self (⟨wu,n19⟩:ag) (cr (ah - (1:Int)))).bind fun v24=>
  jN wP n22 v24 ((decide (v24.1.Kind=v7.1))&&(decide (v7.1≠(3:Int))))
 else
  Option.map .inr (some ((⟨v7.1,[],[],(⟨(0:Int),false,(0:Int),[]⟩:bL),(⟨(0:Int),(0:Int),(0:Int)⟩:Version),wP⟩:Query),(⟨wu,n19⟩:ag)))
def mZ (self:ag→Int→Option (Query×ag)) (ah:Int) (v7:Int×ag) (n11:Int) (wu:List Int) (n19:Int) (wP:List Query) (n22:Int):Option (Query×ag):=
 iter (fun x:(List Int)×Int×(List Query)×Int=>ir self ah v7 n11 x.1 x.2.1 x.2.2.1 x.2.2.2) (wu,n19,wP,n22)
def fU (self:ag→Int→Option (Query×ag)) (ah:Int) (v7:Int×ag) (l9:List Int) (n10:Int) (n11:Int):Option (Query×ag):=
 mZ self ah v7 n11 l9 n10 [] (0:Int)
def fV (self:ag→Int→Option (Query×ag)) (ah:Int) (l2:List Int) (n3:Int) (c4:Bool):Option (Query×ag):=
 if c4=true then
  (pw (⟨l2,n3⟩:ag)).bind fun v6=>
  some (v6.1,v6.2)
 else
  (cx (⟨l2,n3⟩:ag) [(3:Int),(4:Int),(5:Int)]).bind fun v7=>
  if v7.1≠(3:Int) then
   (cx v7.2 [(2:Int),(2:Int),(3:Int)]).bind fun v12=>
   fU self ah v7 v12.2.L v12.2.at_ v12.1
  else
   fU self ah v7 v7.2.L v7.2.at_ (1:Int)
def eM (self:ag→Int→Option (Query×ag)) (aa:ag) (ah:Int):Option (Query×ag):=
 if ah=(0:Int) then
  fV self ah aa.L aa.at_ true
 else
  (dx aa (3:Int)).bind fun v5=>
  fV self ah v5.2.L v5.2.at_ v5.1
def ed:Nat→ag→Int→Option (Query×ag)
 | 0=>fun _ _=>none
 | k+1=>eM (ed k)
def pW (aa:ag) (ah:Int):Option (Query×ag):=
 ed depth aa ah
def jo (n39:Int) (v41:Bool×ag) (Rt:List bj):Option (((List Int)×Int×(List bj)×Int)⊕(((List Int)×Int×(List bj)×Int)⊕(((List Int)×Int×(List bj)×Int)⊕(bu×ag)))):=
 some (.inl (v41.2.L,v41.2.at_,Rt,cr (n39+(1:Int))))
def jq (uO:al) (n28:Int) (vv:al) (Oj:List Int) (n36:Int) (He:List bj) (n39:Int):Option (((List Int)×Int×(List bj)×Int)⊕(((List Int)×Int×(List bj)×Int)⊕(((List Int)×Int×(List bj)×Int)⊕(bu×ag)))):=
 if n39 < ([([97,100,109,105,110]:al),([101,100,105,116]:al),([114,101,97,100]:al)].length:Int) then
  (idx [([97,100,109,105,110]:al),([101,100,105,116]:al),([114,101,97,100]:al)] n39).bind fun v40=>
  (dx (⟨Oj,n36⟩:ag) (7:Int)).bind fun v41=>
  if v41.1=true then
   (app He [(⟨uO,vv,v40⟩:bj)]).bind fun Wx=>
   jo n39 v41 Wx
  else
   jo n39 v41 He
 else
  Option.map .inr (some (.inl (Oj,n36,He,cr (n28+(1:Int)))))
def pe (uO:al) (n28:Int) (vv:al) (Oj:List Int) (n36:Int) (He:List bj) (n39:Int):Option (((List Int)×Int×(List bj)×Int)⊕(((List Int)×Int×(List bj)×Int)⊕(bu×ag))):=
 iter (fun x:(List Int)×Int×(List bj)×Int=>jq uO n28 vv x.1 x.2.1 x.2.2.1 x.2.2.2) (Oj,n36,He,n39)
def jr (n16:Int) (uO:al) (yF:List Int) (n25:Int) (Cf:List bj) (n28:Int):Option (((List Int)×Int×(List bj)×Int)⊕(((List Int)×Int×(List bj)×Int)⊕(bu×ag))):=
 if n28 < ([([116,97]:al),([116,98]:al),([116,99]:al),([116,100]:al)].length:Int) then
  (idx [([116,97]:al),([116,98]:al),([116,99]:al),([116,100]:al)] n28).bind fun vv=>
  pe uO n28 vv yF n25 Cf (0:Int)
 else
  Option.map .inr (some (.inl (yF,n25,Cf,cr (n16+(1:Int)))))
def pf (n16:Int) (uO:al) (yF:List Int) (n25:Int) (Cf:List bj) (n28:Int):Option (((List Int)×Int×(List bj)×Int)⊕(bu×ag)):=
 iter (fun x:(List Int)×Int×(List bj)×Int=>jr n16 uO x.1 x.2.1 x.2.2.1 x.2.2.2) (yF,n25,Cf,n28)
def gV (BD:Int) (Ts:List Int) (n60:Int) (JU:List bJ):Option (((List Int)×Int×(List bJ)×Int)⊕(bu×ag)):=
 some (.inl (Ts,n60,JU,cr (BD+(1:Int))))
def gW (C1:List bJ) (BD:Int) (KF:al) (KG:Int×ag) (v66:Query×ag) (v67:(List al)×ag) (BE:Int×ag) (v70:Bool×ag) (Ru:al) (Rv:al):Option (((List Int)×Int×(List bJ)×Int)⊕(bu×ag)):=
 (app C1 [(⟨KF,Ru,Rv,v66.1,v67.1,(⟨KG.1,cr (KG.1+BE.1)⟩:lA)⟩:bJ)]).bind fun Wy=>
 gV BD v70.2.L v70.2.at_ Wy
def js (v2:al×ag) (v5:(List al)×ag) (AL:List bj) (KH:List Int) (n52:Int) (C1:List bJ) (BD:Int):Option (((List Int)×Int×(List bJ)×Int)⊕(bu×ag)):=
 if BD < ([([115,97]:al),([115,98]:al)].length:Int) then
  (idx [([115,97]:al),([115,98]:al)] BD).bind fun KF=>
  (dx (⟨KH,n52⟩:ag) (2:Int)).bind fun v58=>
  if v58.1=true then
   (cx v58.2 [(0:Int),(20:Int),(50:Int)]).bind fun KG=>
   (bH KG.2 [([116,97]:al),([116,98]:al)]).bind fun v64=>
   (cx v64.2 [(0:Int),(1:Int)]).bind fun Wz=>
   (pW Wz.2 Wz.1).bind fun v66=>
   (mY v66.2).bind fun v67=>
   (cx v67.2 [(0:Int),(30:Int),(100:Int)]).bind fun BE=>
   (dx BE.2 (3:Int)).bind fun v70=>
   if v70.1=true then
    gW C1 BD KF KG v66 v67 BE v70 ([116,100]:al) v64.1
   else
    gW C1 BD KF KG v66 v67 BE v70 v64.1 ([116,100]:al)
  else
   gV BD v58.2.L v58.2.at_ C1
 else
  Option.map .inr (some ((⟨[(⟨([116,97]:al),[]⟩:an),(⟨([116,98]:al),([116,97]:al)⟩:an),(⟨([116,99]:al),v2.1⟩:an),(⟨([116,100]:al),[]⟩:an)],[(⟨([97,100,109,105,110]:al),[([42]:al)]⟩:bF),(⟨([101,100,105,116]:al),v5.1⟩:bF),(⟨([114,101,97,100]:al),[([100,101,118,105,99,101,46,114,101,97,100]:al)]⟩:bF)],AL,C1⟩:bu),(⟨KH,n52⟩:ag)))
def pg (v2:al×ag) (v5:(List al)×ag) (AL:List bj) (KH:List Int) (n52:Int) (C1:List bJ) (BD:Int):Option (bu×ag):=
 iter (fun x:(List Int)×Int×(List bJ)×Int=>js v2 v5 AL x.1 x.2.1 x.2.2.1 x.2.2.2) (KH,n52,C1,BD)
def jt (v2:al×ag) (v5:(List al)×ag) (zQ:List Int) (n13:Int) (AL:List bj) (n16:Int):Option (((List Int)×Int×(List bj)×Int)⊕(bu×ag)):=
 if n16 < ([([97,110,110]:al),([98,111,98]:al)].length:Int) then
  (idx [([97,110,110]:al),([98,111,98]:al)] n16).bind fun uO=>
  pf n16 uO zQ n13 AL (0:Int)
 else
  Option.map .inr (pg v2 v5 AL zQ n13 [] (0:Int))
def tE (v2:al×ag) (v5:(List al)×ag) (zQ:List Int) (n13:Int) (AL:List bj) (n16:Int):Option (bu×ag):=
 iter (fun x:(List Int)×Int×(List bj)×Int=>jt v2 v5 x.1 x.2.1 x.2.2.1 x.2.2.2) (zQ,n13,AL,n16)
def lO (aa:ag):Option (bu×ag):=
 (bH aa [([116,98]:al),([116,97]:al),([]:al)]).bind fun v2=>
 (mY v2.2).bind fun v5=>
 tE v2 v5 v5.2.L v5.2.at_ [] (0:Int)
def pX (aa:ag) (ah:Int) (bc:Int):Option (Int×ag):=
 if bc < ah then
  some (ah,aa)
 else
  (dw aa (cr ((cr (bc - ah))+(1:Int)))).bind fun v1=>
  some (cr (ah+v1.1),v1.2)
def na (aa:ag) (ah:Int) (bc:Int):Option (Int×ag):=
 (dx aa (12:Int)).bind fun v1=>
 if v1.1=true then
  (cx v1.2 [cr (ah - (1:Int)),cr (bc+(1:Int)),ah,bc,(-1099511627776:Int),(1099511627776:Int)]).bind fun v2=>
  some (v2.1,v2.2)
 else
  (pX v1.2 ah bc).bind fun v3=>
  some (v3.1,v3.2)
def hY (aa:List Query):Option (List Query):=
 app [] aa
def lP (l6:List Int) (n7:Int) (n8:Int) (q9:al) (C2:al) (n11:Int) (c12:Bool) (n13:Int) (KI:al) (n15:Int) (n16:Int) (n17:Int) (wu:List Query):Option (Query×ag):=
 some ((⟨n8,q9,C2,(⟨n11,c12,n13,KI⟩:bL),(⟨n15,n16,n17⟩:Version),wu⟩:Query),(⟨l6,n7⟩:ag))
def o0 (HM:List Int) (n21:Int) (n22:Int) (Rw:al) (Rx:al) (n25:Int) (KD:Bool) (n27:Int) (Pv:al) (n29:Int) (n30:Int) (n31:Int) (Ry:List Query):Option (Query×ag):=
 lP HM n21 n22 Rw Rx n25 KD n27 Pv n29 n30 n31 Ry
def o1 (Rz:List Int) (n35:Int) (n36:Int) (RA:al) (RB:al) (n39:Int) (c40:Bool) (n41:Int) (RC:al) (n43:Int) (n44:Int) (n45:Int) (RD:List Query):Option (Query×ag):=
 o0 Rz n35 n36 RA RB n39 c40 n41 RC n43 n44 n45 RD
def o2 (RE:List Int) (n49:Int) (n50:Int) (RF:al) (RG:al) (RH:Int) (KJ:Bool) (BD:Int) (RI:al) (n57:Int) (RJ:Int) (n59:Int) (JV:List Query):Option (Query×ag):=
 o1 RE n49 n50 RF RG RH KJ BD RI n57 RJ n59 JV
def o3 (JU:List Int) (RL:Int) (RM:Int) (RN:al) (RO:al) (RP:Int) (RQ:Bool) (n69:Int) (RR:al) (RS:Int) (JW:Int) (RT:Int) (IY:List Query):Option (Query×ag):=
 o2 JU RL RM RN RO RP RQ n69 RR RS JW RT IY
def o4 (RU:List Int) (RW:Int) (RX:Int) (RY:al) (RZ:al) (R3:Int) (R4:Bool) (JX:Int) (R5:al) (R6:Int) (R7:Int) (R8:Int) (R9:List Query):Option (Query×ag):=
 o3 RU RW RX RY RZ R3 R4 JX R5 R6 R7 R8 R9
def lQ (HN:Int×ag) (n108:Int) (Gu:al) (Gv:al) (n111:Int) (Gw:Bool) (n113:Int) (Gx:al) (n115:Int) (n116:Int) (n117:Int) (Gy:List Query) (n119:Int):Option ((Int×al×al×Int×Bool×Int×al×Int×Int×Int×(List Query)×Int)⊕(Query×ag)):=
 if n119 < HN.1 then
  some (.inl ((3:Int),[],[],(0:Int),false,(0:Int),[],(0:Int),(0:Int),(0:Int),[(⟨n108,Gu,Gv,(⟨n111,Gw,n113,Gx⟩:bL),(⟨n115,n116,n117⟩:Version),Gy⟩:Query)],cr (n119+(1:Int))))
 else
  Option.map .inr (o4 HN.2.L HN.2.at_ n108 Gu Gv n111 Gw n113 Gx n115 n116 n117 Gy)
def vW (HN:Int×ag) (n108:Int) (Gu:al) (Gv:al) (n111:Int) (Gw:Bool) (n113:Int) (Gx:al) (n115:Int) (n116:Int) (n117:Int) (Gy:List Query) (n119:Int):Option (Query×ag):=
 iter (fun x:Int×al×al×Int×Bool×Int×al×Int×Int×Int×(List Query)×Int=>lQ HN x.1 x.2.1 x.2.2.1 x.2.2.2.1 x.2.2.2.2.1 x.2.2.2.2.2.1 x.2.2.2.2.2.2.1 x.2.2.2.2.2.2.2.1 x.2.2.2.2.2.2.2.2.1 x.2.2.2.2.2.2.2.2.2.1 x.2.2.2.2.2.2.2.2.2.2.1 x.2.2.2.2.2.2.2.2.2.2.2) (n108,Gu,Gv,n111,Gw,n113,Gx,n115,n116,n117,Gy,n119)
def pY (aa:ag):Option (Query×ag):=
 (cx aa [(0:Int),(1:Int),(1:Int),(2:Int)]).bind fun v2=>
 (pW v2.2 v2.1).bind fun v3=>
 (dx v3.2 (12:Int)).bind fun v5=>
 if v5.1=true then
  (dw v5.2 (6:Int)).bind fun iV=>
  if iV.1=(0:Int) then
   (na iV.2 (1:Int) (5:Int)).bind fun v33=>
   o0 v33.2.L v33.2.at_ v33.1 v3.1.Field v3.1.Op v3.1.Value.Kind v3.1.Value.cf v3.1.Value.Number v3.1.Value.Words v3.1.Version.bQ v3.1.Version.bR v3.1.Version.bN v3.1.Kids
  else
   if iV.1=(1:Int) then
    (bH iV.2 [([]:al),([110,111,112,101]:al),([116,97,103,46]:al),([116,97,103,46,65]:al),([112,114,111,112,46,97,46]:al),([107,101,121]:al),([102,105,114,109,119,97,114,101]:al)]).bind fun Qx=>
    o1 Qx.2.L Qx.2.at_ v3.1.Kind Qx.1 v3.1.Op v3.1.Value.Kind v3.1.Value.cf v3.1.Value.Number v3.1.Value.Words v3.1.Version.bQ v3.1.Version.bR v3.1.Version.bN v3.1.Kids
   else
    if iV.1=(2:Int) then
     (bH iV.2 [([]:al),([61]:al),([60]:al),([61,61]:al)]).bind fun Qy=>
     o2 Qy.2.L Qy.2.at_ v3.1.Kind v3.1.Field Qy.1 v3.1.Value.Kind v3.1.Value.cf v3.1.Value.Number v3.1.Value.Words v3.1.Version.bQ v3.1.Version.bR v3.1.Version.bN v3.1.Kids
    else
     if iV.1=(3:Int) then
      (dw iV.2 (5:Int)).bind fun v75=>
      (idx [(⟨(0:Int),false,(0:Int),[]⟩:bL),(⟨(9:Int),false,(0:Int),[]⟩:bL),(⟨(1:Int),false,(1:Int),[]⟩:bL),(⟨(3:Int),false,(0:Int),([255]:al)⟩:bL),(⟨(2:Int),false,(1000000001:Int),[]⟩:bL)] v75.1).bind fun v76=>
      o3 v75.2.L v75.2.at_ v3.1.Kind v3.1.Field v3.1.Op v76.Kind v76.cf v76.Number v76.Words v3.1.Version.bQ v3.1.Version.bR v3.1.Version.bN v3.1.Kids
     else
      if iV.1=(4:Int) then
       (hY v3.1.Kids).bind fun v90=>
       (pw iV.2).bind fun Qz=>
       (app v90 [Qz.1]).bind fun WA=>
       o4 Qz.2.L Qz.2.at_ v3.1.Kind v3.1.Field v3.1.Op v3.1.Value.Kind v3.1.Value.cf v3.1.Value.Number v3.1.Value.Words v3.1.Version.bQ v3.1.Version.bR v3.1.Version.bN WA
      else
       (cx iV.2 [(18:Int),(19:Int),(20:Int)]).bind fun HN=>
       vW HN v3.1.Kind v3.1.Field v3.1.Op v3.1.Value.Kind v3.1.Value.cf v3.1.Value.Number v3.1.Value.Words v3.1.Version.bQ v3.1.Version.bR v3.1.Version.bN v3.1.Kids (0:Int)
 else
  lP v5.2.L v5.2.at_ v3.1.Kind v3.1.Field v3.1.Op v3.1.Value.Kind v3.1.Value.cf v3.1.Value.Number v3.1.Value.Words v3.1.Version.bQ v3.1.Version.bR v3.1.Version.bN v3.1.Kids
def pZ (l6:List Int) (n7:Int) (n8:Int) (n9:Int):Option (lA×ag):=
 some ((⟨n8,n9⟩:lA),(⟨l6,n7⟩:ag))
def se (aa:ag):Option (lA×ag):=
 (cx aa [(0:Int),(5:Int),(30:Int),(100:Int)]).bind fun v2=>
 (cx v2.2 [(30:Int),(100:Int),(250:Int),(1000:Int),(345686400000:Int)]).bind fun v3=>
 (dx v3.2 (20:Int)).bind fun v5=>
 if v5.1=true then
  (cx v5.2 [(-1:Int),(10:Int)]).bind fun v10=>
  (cx v10.2 [(9:Int),(345686400001:Int)]).bind fun v11=>
  pZ v11.2.L v11.2.at_ v10.1 v11.1
 else
  pZ v5.2.L v5.2.at_ v2.1 v3.1
def oy (l9:List Int) (n10:Int) (zQ:List an) (yi:List bF) (JY:List bj) (wu:List bJ):Option (bu×ag):=
 some ((⟨zQ,yi,JY,wu⟩:bu),(⟨l9,n10⟩:ag))
def rH (HM:List Int) (n21:Int) (AN:List an) (E3:List bF) (Cf:List bj) (Mc:List bJ):Option (bu×ag):=
 oy HM n21 AN E3 Cf Mc
def rI (FD:List Int) (n34:Int) (Dk:List an) (He:List bF) (HO:List bj) (QA:List bJ):Option (bu×ag):=
 rH FD n34 Dk He HO QA
def rJ (v2:bu×ag) (Sa:List Int) (n48:Int) (JZ:List bF) (J0:List bj) (C1:List bJ):Option (bu×ag):=
 rI Sa n48 v2.1.ak JZ J0 C1
def rK (v2:bu×ag) (JV:List Int) (n61:Int) (QC:List bj) (QD:List bJ):Option (bu×ag):=
 rJ v2 JV n61 v2.1.ba QC QD
def rO (v2:bu×ag) (Sb:List Int) (JW:Int) (IY:List bJ):Option (bu×ag):=
 rK v2 Sb JW v2.1.aL IY
def rP (v2:bu×ag) (Sc:List Int) (JX:Int) (QE:List bJ):Option (bu×ag):=
 rO v2 Sc JX QE
def tF (aa:ag):Option (bu×ag):=
 (lO aa).bind fun v2=>
 (dx v2.2 (10:Int)).bind fun v8=>
 if v8.1=true then
  (dw v8.2 (6:Int)).bind fun iV=>
  if iV.1=(0:Int) then
   (dw iV.2 (4:Int)).bind fun v30=>
   (bH v30.2 [([116,99]:al),([116,97]:al),([110,111,110,101]:al),([116,98]:al)]).bind fun v31=>
   (idx v2.1.ak v30.1).bind fun v32=>
   rH v31.2.L v31.2.at_ (v2.1.ak.set v30.1.toNat (⟨v32.Key,v31.1⟩:an)) v2.1.ba v2.1.aL v2.1.aR
  else
   if iV.1=(1:Int) then
    (bH iV.2 [([]:al),([116,97]:al),([116,122]:al)]).bind fun Md=>
    (bH Md.2 [([]:al),([116,100]:al)]).bind fun v44=>
    (app v2.1.ak [(⟨Md.1,v44.1⟩:an)]).bind fun WB=>
    rI v44.2.L v44.2.at_ WB v2.1.ba v2.1.aL v2.1.aR
   else
    if iV.1=(2:Int) then
     (bH iV.2 [([]:al),([114,101,97,100]:al),([122,122]:al)]).bind fun v55=>
     (dw v55.2 (6:Int)).bind fun Gz=>
     (idx [[],[([97,42]:al)],[([42,46,97]:al)],[([98]:al),([97]:al)],[([97,46,98,46,99,46,100,46,101,46,102]:al)],[([97,46,42]:al)]] Gz.1).bind fun KF=>
     (app v2.1.ba [(⟨v55.1,KF⟩:bF)]).bind fun WC=>
     rJ v2 Gz.2.L Gz.2.at_ WC v2.1.aL v2.1.aR
    else
     if iV.1=(3:Int) then
      (bH iV.2 [([]:al),([97,110,110]:al),([122,101,100]:al)]).bind fun v66=>
      (bH v66.2 [([116,97]:al),([110,111,110,101]:al)]).bind fun v67=>
      (bH v67.2 [([114,101,97,100]:al),([110,111,110,101]:al)]).bind fun BE=>
      (app v2.1.aL [(⟨v66.1,v67.1,BE.1⟩:bj)]).bind fun WD=>
      rK v2 BE.2.L BE.2.at_ WD v2.1.aR
     else
      if iV.1=(4:Int) then
       (bH iV.2 [([]:al),([115,97]:al),([115,122]:al)]).bind fun v75=>
       (bH v75.2 [([116,97]:al),([110,111,110,101]:al),([116,100]:al)]).bind fun v76=>
       (bH v76.2 [([116,100]:al),([116,98]:al),([110,111,110,101]:al)]).bind fun v77=>
       (pY v77.2).bind fun v78=>
       (mY v78.2).bind fun v79=>
       (se v79.2).bind fun v80=>
       (app v2.1.aR [(⟨v75.1,v76.1,v77.1,v78.1,v79.1,v80.1⟩:bJ)]).bind fun WE=>
       rO v2 v80.2.L v80.2.at_ WE
      else
       if (0:Int) < (v2.1.aR.length:Int) then
        (dw iV.2 (3:Int)).bind fun J5=>
        (idx [[],[([65]:al)],[([98]:al),([97]:al)]] J5.1).bind fun v87=>
        (idx v2.1.aR (0:Int)).bind fun yj=>
        rP v2 J5.2.L J5.2.at_ (v2.1.aR.set (0:Int).toNat (⟨yj.Key,yj.iU,yj.To,yj.Query,v87,yj.Time⟩:bJ))
       else
        rP v2 iV.2.L iV.2.at_ v2.1.aR
 else
  oy v8.2.L v8.2.at_ v2.1.ak v2.1.ba v2.1.aL v2.1.aR
def kV (n22:Int) (E3:List Int) (n26:Int) (Eg:List aH):Option (((List Int)×Int×(List aH)×Int)⊕(((List Int)×Int×(List aH)×Int)⊕((List aH)×ag))):=
 some (.inl (E3,n26,Eg,cr (n22+(1:Int))))
def kW (n10:Int) (v12:al) (wu:List Int) (n19:Int) (wP:List aH) (n22:Int):Option (((List Int)×Int×(List aH)×Int)⊕(((List Int)×Int×(List aH)×Int)⊕((List aH)×ag))):=
 if n22 < ([([99,112,117]:al),([100,101,118]:al)].length:Int) then
  (idx [([99,112,117]:al),([100,101,118]:al)] n22).bind fun v23=>
  (dx (⟨wu,n19⟩:ag) (2:Int)).bind fun v24=>
  if v24.1=true then
   (cx v24.2 [(0:Int),(3:Int),(5:Int),(9:Int),(1000000000:Int)]).bind fun vv=>
   (app wP [(⟨v12,v23,vv.1⟩:aH)]).bind fun QF=>
   kV n22 vv.2.L vv.2.at_ QF
  else
   kV n22 v24.2.L v24.2.at_ wP
 else
  Option.map .inr (some (.inl (wu,n19,wP,cr (n10+(1:Int)))))
def rf (n10:Int) (v12:al) (wu:List Int) (n19:Int) (wP:List aH) (n22:Int):Option (((List Int)×Int×(List aH)×Int)⊕((List aH)×ag)):=
 iter (fun x:(List Int)×Int×(List aH)×Int=>kW n10 v12 x.1 x.2.1 x.2.2.1 x.2.2.2) (wu,n19,wP,n22)
def kX (FD:List Int) (n34:Int) (Dk:List aH):Option ((List aH)×ag):=
 some (Dk,(⟨FD,n34⟩:ag))
def ri (l6:List Int) (n7:Int) (l9:List aH):Option ((List aH)×ag):=
 (dx (⟨l6,n7⟩:ag) (20:Int)).bind fun v32=>
 if v32.1=true then
  (bH v32.2 [([116,97]:al),([110,111,110,101]:al),([116,100]:al)]).bind fun v37=>
  (bH v37.2 [([122,122]:al),([]:al),([99,112,117]:al)]).bind fun J6=>
  (na J6.2 (0:Int) (1000000000:Int)).bind fun v39=>
  (app l9 [(⟨v37.1,J6.1,v39.1⟩:aH)]).bind fun HO=>
  kX v39.2.L v39.2.at_ HO
 else
  kX v32.2.L v32.2.at_ l9
def kY (l6:List Int) (n7:Int) (l9:List aH) (n10:Int):Option (((List Int)×Int×(List aH)×Int)⊕((List aH)×ag)):=
 if n10 < ([([116,97]:al),([116,98]:al),([116,100]:al)].length:Int) then
  (idx [([116,97]:al),([116,98]:al),([116,100]:al)] n10).bind fun v12=>
  rf n10 v12 l6 n7 l9 (0:Int)
 else
  Option.map .inr (ri l6 n7 l9)
def vd (l6:List Int) (n7:Int) (l9:List aH) (n10:Int):Option ((List aH)×ag):=
 iter (fun x:(List Int)×Int×(List aH)×Int=>kY x.1 x.2.1 x.2.2.1 x.2.2.2) (l6,n7,l9,n10)
def oz (aa:ag):Option ((List aH)×ag):=
 vd aa.L aa.at_ [] (0:Int)
def jO (n22:Int) (E3:List Int) (n26:Int) (Eg:List aM):Option (((List Int)×Int×(List aM)×Int)⊕(((List Int)×Int×(List aM)×Int)⊕((List aM)×ag))):=
 some (.inl (E3,n26,Eg,cr (n22+(1:Int))))
def jP (n10:Int) (v12:al) (wu:List Int) (n19:Int) (wP:List aM) (n22:Int):Option (((List Int)×Int×(List aM)×Int)⊕(((List Int)×Int×(List aM)×Int)⊕((List aM)×ag))):=
 if n22 < ([([99,112,117]:al),([100,101,118]:al)].length:Int) then
  (idx [([99,112,117]:al),([100,101,118]:al)] n22).bind fun v23=>
  (dx (⟨wu,n19⟩:ag) (3:Int)).bind fun v24=>
  if v24.1=true then
   (cx v24.2 [(1:Int),(1:Int),(2:Int),(4:Int)]).bind fun vv=>
   (app wP [(⟨v12,v23,vv.1⟩:aM)]).bind fun QF=>
   jO n22 vv.2.L vv.2.at_ QF
  else
   jO n22 v24.2.L v24.2.at_ wP
 else
  Option.map .inr (some (.inl (wu,n19,wP,cr (n10+(1:Int)))))
def p9 (n10:Int) (v12:al) (wu:List Int) (n19:Int) (wP:List aM) (n22:Int):Option (((List Int)×Int×(List aM)×Int)⊕((List aM)×ag)):=
 iter (fun x:(List Int)×Int×(List aM)×Int=>jP n10 v12 x.1 x.2.1 x.2.2.1 x.2.2.2) (wu,n19,wP,n22)
def jQ (FD:List Int) (n34:Int) (Dk:List aM):Option ((List aM)×ag):=
 some (Dk,(⟨FD,n34⟩:ag))
def qa (l6:List Int) (n7:Int) (l9:List aM):Option ((List aM)×ag):=
 (dx (⟨l6,n7⟩:ag) (20:Int)).bind fun v32=>
 if v32.1=true then
  (bH v32.2 [([116,97]:al),([110,111,110,101]:al),([116,100]:al)]).bind fun v37=>
  (bH v37.2 [([122,122]:al),([]:al),([99,112,117]:al)]).bind fun J6=>
  (na J6.2 (1:Int) (1000000000:Int)).bind fun v39=>
  (app l9 [(⟨v37.1,J6.1,v39.1⟩:aM)]).bind fun HO=>
  jQ v39.2.L v39.2.at_ HO
 else
  jQ v32.2.L v32.2.at_ l9
def jR (l6:List Int) (n7:Int) (l9:List aM) (n10:Int):Option (((List Int)×Int×(List aM)×Int)⊕((List aM)×ag)):=
 if n10 < ([([116,97]:al),([116,98]:al),([116,99]:al),([116,100]:al)].length:Int) then
  (idx [([116,97]:al),([116,98]:al),([116,99]:al),([116,100]:al)] n10).bind fun v12=>
  p9 n10 v12 l6 n7 l9 (0:Int)
 else
  Option.map .inr (qa l6 n7 l9)
def ur (l6:List Int) (n7:Int) (l9:List aM) (n10:Int):Option ((List aM)×ag):=
 iter (fun x:(List Int)×Int×(List aM)×Int=>jR x.1 x.2.1 x.2.2.1 x.2.2.2) (l6,n7,l9,n10)
def nf (aa:ag):Option ((List aM)×ag):=
 ur aa.L aa.at_ [] (0:Int)
def vF (c1:Bool):Bool:=
 c1
def ve (aa:Int) (ah:Int) (bc:Int):Bool:=
 vF ((decide (ah≤aa))&&(decide (aa≤bc)))
def vf (c1:Bool):Option Bool:=
 some c1
def tG (aa:al):Option Bool:=
 if (ve (aa.length:Int) (1:Int) (40:Int))=true then
  (Gk aa ([97,98,99,100,101,102,103,104,105,106,107,108,109,110,111,112,113,114,115,116,117,118,119,120,121,122,48,49,50,51,52,53,54,55,56,57,45,95]:al)).bind fun v2=>
  if v2=([]:al) then
   (idx aa (0:Int)).bind fun c3=>
   vf (decide ((0:Int)≤(vD ([97,98,99,100,101,102,103,104,105,106,107,108,109,110,111,112,113,114,115,116,117,118,119,120,121,122]:al) (c3.toNat:Int))))
  else
   vf false
 else
  vf false
def rQ (aa:an) (ah:al):Bool:=
 decide (aa.Key=ah)
def dU (aa:List an) (jz:an→Option Bool) (n2:Int):Option (Int⊕Int):=
 if n2 < (aa.length:Int) then
  (idx aa n2).bind fun v3=>
  (jz v3).bind fun v4=>
  if v4=true then
   Option.map .inr (some n2)
  else
   some (.inl (cr (n2+(1:Int))))
 else
  Option.map .inr (some (-1:Int))
def pC (aa:List an) (jz:an→Option Bool) (n2:Int):Option Int:=
 iter (fun x:Int=>dU aa jz x) n2
def fe (aa:List an) (jz:an→Option Bool):Option Int:=
 pC aa jz (0:Int)
def dP (aa:bu) (ah:al):Option Int:=
 (fe aa.ak (fun y0=>some (rQ y0 ah))).bind fun v3=>
 some v3
def cY (aa:List al) (ah:al) (n2:Int):Option (Int⊕Int):=
 if n2 < (aa.length:Int) then
  (idx aa n2).bind fun v3=>
  if ah=v3 then
   Option.map .inr (some n2)
  else
   some (.inl (cr (n2+(1:Int))))
 else
  Option.map .inr (some (-1:Int))
def fp (aa:List al) (ah:al) (n2:Int):Option Int:=
 iter (fun x:Int=>cY aa ah x) n2
def gr (aa:List al) (ah:al):Option Int:=
 fp aa ah (0:Int)
def aT (aa:List al) (ah:al):Option Bool:=
 (gr aa ah).bind fun v1=>
 some (decide ((0:Int)≤v1))
def ng (aa:bu) (q5:al) (l7:List al):Option ((al×(List al))⊕(List al)):=
 if q5≠([]:al) then
  (aT l7 q5).bind fun v9=>
  if v9=true then
   Option.map .inr (some [])
  else
   (app l7 [q5]).bind fun l10=>
   (dP aa q5).bind fun v12=>
   (idx aa.ak v12).bind fun oh=>
   some (.inl (oh.eB,l10))
 else
  Option.map .inr (some l7)
def sf (aa:bu) (q5:al) (l7:List al):Option (List al):=
 iter (fun x:al×(List al)=>ng aa x.1 x.2) (q5,l7)
def oA (aa:bu) (ah:al):Option (List al):=
 sf aa ah []
def iH (aa:bu) (q5:al) (l7:List al):Option ((al×(List al))⊕(Option (List al))):=
 if q5≠([]:al) then
  (aT l7 q5).bind fun v9=>
  if v9=true then
   Option.map .inr (some none)
  else
   (app l7 [q5]).bind fun l10=>
   (dP aa q5).bind fun v12=>
   (idx aa.ak v12).bind fun oh=>
   some (.inl (oh.eB,l10))
 else
  Option.map .inr (some (some l7))
def lR (aa:bu) (q5:al) (l7:List al):Option (Option (List al)):=
 iter (fun x:al×(List al)=>iH aa x.1 x.2) (q5,l7)
def nM (aa:bu) (ah:al):Option (Option (List al)):=
 lR aa ah []
def gu (n3:Int) (c7:Bool):Option (Int⊕Int):=
 if c7=true then
  Option.map .inr (some (7:Int))
 else
  some (.inl (cr (n3+(1:Int))))
def gw (n10:Int) (Bc:Bool):Option (Int⊕Int):=
 if Bc=true then
  Option.map .inr (some (8:Int))
 else
  some (.inl (cr (n10+(1:Int))))
def gx (aa:bu) (n24:Int):Option (Int⊕Int):=
 if n24 < (aa.ak.length:Int) then
  (idx aa.ak n24).bind fun v25=>
  (oA aa v25.Key).bind fun zu=>
  if (11:Int) < (zu.length:Int) then
   Option.map .inr (some (2:Int))
  else
   some (.inl (cr (n24+(1:Int))))
 else
  Option.map .inr (some (0:Int))
def mC (aa:bu) (n24:Int):Option Int:=
 iter (fun x:Int=>gx aa x) n24
def ef (aa:bu) (n16:Int):Option (Int⊕Int):=
 if n16 < (aa.ak.length:Int) then
  (idx aa.ak n16).bind fun v17=>
  (nM aa v17.Key).bind fun iV=>
  fc iV (
   Option.map .inr (some (14:Int))) (fun WG=>
   (Ca WG).bind fun v22=>
   some (.inl (cr (n16+(1:Int)))))
 else
  Option.map .inr (mC aa (0:Int))
def iA (aa:bu) (n16:Int):Option Int:=
 iter (fun x:Int=>ef aa x) n16
def jS (aa:bu) (n10:Int):Option (Int⊕Int):=
 if n10 < (aa.ak.length:Int) then
  (idx aa.ak n10).bind fun v11=>
  if v11.eB≠([]:al) then
   (dP aa v11.eB).bind fun xy=>
   gw n10 (decide (xy < (0:Int)))
  else
   gw n10 false
 else
  Option.map .inr (iA aa (0:Int))
def qd (aa:bu) (n10:Int):Option Int:=
 iter (fun x:Int=>jS aa x) n10
def jT (aa:bu) (n3:Int):Option (Int⊕Int):=
 if n3 < (aa.ak.length:Int) then
  (idx aa.ak n3).bind fun v4=>
  (tG v4.Key).bind fun v6=>
  if (!v6)=true then
   Option.map .inr (some (5:Int))
  else
   if (0:Int) < n3 then
    (idx aa.ak (cr (n3 - (1:Int)))).bind fun v8=>
    gu n3 (Op.bytesLess v4.Key v8.Key||v4.Key==v8.Key)
   else
    gu n3 false
 else
  Option.map .inr (qd aa (0:Int))
def uu (aa:bu) (n3:Int):Option Int:=
 iter (fun x:Int=>jT aa x) n3
def nh (aa:bu):Option Int:=
 if (200:Int) < (aa.ak.length:Int) then
  some (2:Int)
 else
  uu aa (0:Int)
def mg (aa:al):Option Bool:=
 (tG aa).bind fun v1=>
 some (!v1)
def dV (aa:List al) (jz:al→Option Bool) (n2:Int):Option (Int⊕Int):=
 if n2 < (aa.length:Int) then
  (idx aa n2).bind fun v3=>
  (jz v3).bind fun v4=>
  if v4=true then
   Option.map .inr (some n2)
  else
   some (.inl (cr (n2+(1:Int))))
 else
  Option.map .inr (some (-1:Int))
def pD (aa:List al) (jz:al→Option Bool) (n2:Int):Option Int:=
 iter (fun x:Int=>dV aa jz x) n2
def gX (aa:List al) (jz:al→Option Bool):Option Int:=
 pD aa jz (0:Int)
def aZ (aa:List al) (jz:al→Option Bool):Option Bool:=
 (gX aa jz).bind fun v1=>
 some (decide ((0:Int)≤v1))
def oB (c9:Bool):Option Bool:=
 some c9
def mh (aa:al) (l5:List al):Option Bool:=
 (yg aa ([46]:al)).bind fun v10=>
 if (v10.length:Int)≤(5:Int) then
  (aZ l5 (fun y0=>mg y0)).bind fun v12=>
  oB (!v12)
 else
  oB false
def oC (aa:al) (v1:(List al)) (c3:Bool):Option Bool:=
 if c3=true then
  (yD v1 (0:Int) (cr ((v1.length:Int) - (1:Int)))).bind fun l6=>
  mh aa l6
 else
  (idx v1 (cr ((v1.length:Int) - (1:Int)))).bind fun v7=>
  (tG v7).bind fun v8=>
  if (!v8)=true then
   some false
  else
   mh aa v1
def tH (aa:al) (ah:Bool):Option Bool:=
 (yg aa ([46]:al)).bind fun v1=>
 if (!ah)=true then
  (idx v1 (cr ((v1.length:Int) - (1:Int)))).bind fun v4=>
  oC aa v1 (decide (v4=([42]:al)))
 else
  oC aa v1 false
def ju (n2:Int) (c5:Bool):Option (Int⊕Int):=
 if c5=true then
  Option.map .inr (some (7:Int))
 else
  some (.inl (cr (n2+(1:Int))))
def jv (aa:List al) (ah:Bool) (n2:Int):Option (Int⊕Int):=
 if n2 < (aa.length:Int) then
  (idx aa n2).bind fun v3=>
  (tH v3 ah).bind fun v4=>
  if (!v4)=true then
   Option.map .inr (some (5:Int))
  else
   if (0:Int) < n2 then
    (idx aa (cr (n2 - (1:Int)))).bind fun v6=>
    ju n2 (Op.bytesLess v3 v6||v3==v6)
   else
    ju n2 false
 else
  Option.map .inr (some (0:Int))
def qe (aa:List al) (ah:Bool) (n2:Int):Option Int:=
 iter (fun x:Int=>jv aa ah x) n2
def uv (aa:List al) (ah:Bool):Option Int:=
 qe aa ah (0:Int)
def ph (aa:List al):Option Int:=
 if (aa.length:Int)=(0:Int) then
  some (8:Int)
 else
  if (50:Int) < (aa.length:Int) then
   some (2:Int)
  else
   (uv aa false).bind fun v1=>
   some v1
def uw (aa:bF) (ah:al):Bool:=
 decide (aa.Key=ah)
def fq (aa:List bF) (jz:bF→Option Bool) (n2:Int):Option (Int⊕Int):=
 if n2 < (aa.length:Int) then
  (idx aa n2).bind fun v3=>
  (jz v3).bind fun v4=>
  if v4=true then
   Option.map .inr (some n2)
  else
   some (.inl (cr (n2+(1:Int))))
 else
  Option.map .inr (some (-1:Int))
def sg (aa:List bF) (jz:bF→Option Bool) (n2:Int):Option Int:=
 iter (fun x:Int=>fq aa jz x) n2
def gy (aa:List bF) (jz:bF→Option Bool):Option Int:=
 sg aa jz (0:Int)
def wQ (aa:bu) (ah:al):Option Int:=
 (gy aa.ba (fun y0=>some (uw y0 ah))).bind fun v3=>
 some v3
def rR (aa:List Int) (n2:Int):Option (Int⊕Int):=
 if n2 < (aa.length:Int) then
  (idx aa n2).bind fun v3=>
  if v3≠(0:Int) then
   Option.map .inr (some v3)
  else
   some (.inl (cr (n2+(1:Int))))
 else
  Option.map .inr (some (0:Int))
def Dl (aa:List Int) (n2:Int):Option Int:=
 iter (fun x:Int=>rR aa x) n2
def iI (aa:List Int):Option Int:=
 Dl aa (0:Int)
def gO (n3:Int) (v4:bF) (c7:Bool):Option (Int⊕Int):=
 if c7=true then
  Option.map .inr (some (7:Int))
 else
  (ph v4.mR).bind fun v9=>
  if v9≠(0:Int) then
   Option.map .inr (some v9)
  else
   some (.inl (cr (n3+(1:Int))))
def o5 (n11:Int) (Me:Bool):Option (Int⊕Int):=
 if Me=true then
  Option.map .inr (some (7:Int))
 else
  some (.inl (cr (n11+(1:Int))))
def iJ (aa:bu) (n11:Int) (v12:bj) (KK:Bool):Option (Int⊕Int):=
 if KK=true then
  Option.map .inr (some (8:Int))
 else
  if (0:Int) < n11 then
   (idx aa.aL (cr (n11 - (1:Int)))).bind fun iV=>
   (idx aa.aL (cr (n11 - (1:Int)))).bind fun v20=>
   (idx aa.aL (cr (n11 - (1:Int)))).bind fun v21=>
   (iI [(Lib.compareBytes iV.vE v12.vE),(Lib.compareBytes v20.an v12.an),(Lib.compareBytes v21.bF v12.bF)]).bind fun v22=>
   o5 n11 (decide ((0:Int)≤v22))
  else
   o5 n11 false
def lS (aa:bu) (n11:Int):Option (Int⊕Int):=
 if n11 < (aa.aL.length:Int) then
  (idx aa.aL n11).bind fun v12=>
  (tG v12.vE).bind fun xy=>
  if (!xy)=true then
   Option.map .inr (some (5:Int))
  else
   (dP aa v12.an).bind fun uq=>
   if uq < (0:Int) then
    iJ aa n11 v12 true
   else
    (wQ aa v12.bF).bind fun v17=>
    iJ aa n11 v12 (decide (v17 < (0:Int)))
 else
  Option.map .inr (some (0:Int))
def vX (aa:bu) (n11:Int):Option Int:=
 iter (fun x:Int=>lS aa x) n11
def jE (aa:bu):Option Int:=
 if (500:Int) < (aa.aL.length:Int) then
  some (2:Int)
 else
  vX aa (0:Int)
def gP (aa:bu) (n3:Int):Option (Int⊕Int):=
 if n3 < (aa.ba.length:Int) then
  (idx aa.ba n3).bind fun v4=>
  (tG v4.Key).bind fun v6=>
  if (!v6)=true then
   Option.map .inr (some (5:Int))
  else
   if (0:Int) < n3 then
    (idx aa.ba (cr (n3 - (1:Int)))).bind fun v8=>
    gO n3 v4 (Op.bytesLess v4.Key v8.Key||v4.Key==v8.Key)
   else
    gO n3 v4 false
 else
  Option.map .inr (jE aa)
def vY (aa:bu) (n3:Int):Option Int:=
 iter (fun x:Int=>gP aa x) n3
def qg (aa:bu):Option Int:=
 if (50:Int) < (aa.ba.length:Int) then
  some (2:Int)
 else
  vY aa (0:Int)
def jU (self:Query→Option (List Query)) (aa:Query) (zQ:List Query) (n13:Int):Option (((List Query)×Int)⊕(List Query)):=
 if n13 < (aa.Kids.length:Int) then
  (idx aa.Kids n13).bind fun xy=>
  (self xy).bind fun uq=>
  (app zQ uq).bind fun wu=>
  some (.inl (wu,cr (n13+(1:Int))))
 else
  Option.map .inr (some zQ)
def wR (self:Query→Option (List Query)) (aa:Query) (zQ:List Query) (n13:Int):Option (List Query):=
 iter (fun x:(List Query)×Int=>jU self aa x.1 x.2) (zQ,n13)
def sh (self:Query→Option (List Query)) (aa:Query) (l4:List Query):Option (List Query):=
 wR self aa l4 (0:Int)
def ux (self:Query→Option (List Query)) (aa:Query) (c2:Bool):Option (List Query):=
 if c2=true then
  (app ([]:List Query) [aa]).bind fun l5=>
  sh self aa l5
 else
  sh self aa []
def si (self:Query→Option (List Query)) (aa:Query):Option (List Query):=
 ux self aa ((decide (aa.Kind=(1:Int)))||(decide (aa.Kind=(2:Int))))
def kF:Nat→Query→Option (List Query)
 | 0=>fun _=>none
 | k+1=>si (kF k)
def Cg (aa:Query):Option (List Query):=
 kF depth aa
def nN (self:Query→Option Int) (aa:Query) (n4:Int) (n5:Int):Option ((Int×Int)⊕Int):=
 if n5 < (aa.Kids.length:Int) then
  (idx aa.Kids n5).bind fun v6=>
  (self v6).bind fun v8=>
  some (.inl (max n4 v8,cr (n5+(1:Int))))
 else
  Option.map .inr (some (cr (n4+(1:Int))))
def Eh (self:Query→Option Int) (aa:Query) (n4:Int) (n5:Int):Option Int:=
 iter (fun x:Int×Int=>nN self aa x.1 x.2) (n4,n5)
def vg (self:Query→Option Int) (aa:Query):Option Int:=
 Eh self aa (0:Int) (0:Int)
def qh:Nat→Query→Option Int
 | 0=>fun _=>none
 | k+1=>vg (qh k)
def HP (aa:Query):Option Int:=
 qh depth aa
def rS (aa:Query) (ah:Query):Bool:=
 decide (aa.Kind=ah.Kind)
def eJ (aa:List Query) (jz:Query→Option Bool) (n2:Int):Option (Int⊕Int):=
 if n2 < (aa.length:Int) then
  (idx aa n2).bind fun v3=>
  (jz v3).bind fun v4=>
  if v4=true then
   Option.map .inr (some n2)
  else
   some (.inl (cr (n2+(1:Int))))
 else
  Option.map .inr (some (-1:Int))
def qQ (aa:List Query) (jz:Query→Option Bool) (n2:Int):Option Int:=
 iter (fun x:Int=>eJ aa jz x) n2
def iK (aa:List Query) (jz:Query→Option Bool):Option Int:=
 qQ aa jz (0:Int)
def cA (aa:List Query) (jz:Query→Option Bool):Option Bool:=
 (iK aa jz).bind fun v1=>
 some (decide ((0:Int)≤v1))
def db (c1:Bool):Option Bool:=
 some c1
def cK (aa:al) (ah:al):Option Bool:=
 if (ah.length:Int)≤(aa.length:Int) then
  (yD aa (0:Int) (ah.length:Int)).bind fun l2=>
  db (decide (l2=ah))
 else
  db false
def ff (aa:al) (ah:al):Option (al×Bool):=
 (cK aa ah).bind fun v1=>
 if (!v1)=true then
  some (aa,false)
 else
  (yD aa (ah.length:Int) (aa.length:Int)).bind fun l2=>
  some (l2,true)
def strings_CutPrefix (aa:al) (ah:al):Option (al×Bool):=
 (ff aa ah).bind fun v1=>
 some (v1.1,v1.2)
def oD (aa:al):Option Bool:=
 (tG aa).bind fun v1=>
 some (!v1)
def mi (c3:Bool):Option Bool:=
 some c3
def tI (aa:al):Option Bool:=
 (yg aa ([46]:al)).bind fun v1=>
 if (aa.length:Int)≤(40:Int) then
  if (v1.length:Int)≤(5:Int) then
   (aZ v1 (fun y0=>oD y0)).bind fun v4=>
   mi (!v4)
  else
   mi false
 else
  mi false
def lT (c7:Bool):Option Bool:=
 some c7
def jF (aa:al) (ah:Bool) (c5:Bool):Option Bool:=
 if c5=true then
  some true
 else
  if (!ah)=true then
   (aT [([107,101,121]:al),([109,111,100,101,108]:al),([116,101,110,97,110,116]:al),([102,105,114,109,119,97,114,101]:al)] aa).bind fun v8=>
   lT v8
  else
   lT false
def jG (aa:al) (ah:Bool) (c2:Bool):Option Bool:=
 if c2=true then
  some true
 else
  (strings_CutPrefix aa ([112,114,111,112,46]:al)).bind fun v4=>
  if v4.2=true then
   (tI v4.1).bind fun v6=>
   jF aa ah v6
  else
   jF aa ah false
def qj (aa:al) (ah:Bool):Option Bool:=
 (strings_CutPrefix aa ([116,97,103,46]:al)).bind fun v1=>
 if v1.2=true then
  (tG v1.1).bind fun v3=>
  jG aa ah v3
 else
  jG aa ah false
def mD (c2:Bool):Bool:=
 c2
def kZ (aa:Version):Bool:=
 mD ((ve aa.bQ (0:Int) (9999:Int))&&((ve aa.bR (0:Int) (9999:Int))&&(ve aa.bN (0:Int) (9999:Int))))
def jH (n3:Int) (c5:Bool):Option (Int⊕Bool):=
 if c5=true then
  Option.map .inr (some false)
 else
  some (.inl (cr (n3+(1:Int))))
def jI (c6:Bool):Option Bool:=
 some c6
def iL (aa:bL):Option Bool:=
 if (ve aa.Kind (0:Int) (3:Int))=true then
  if (ve aa.Number (-1000000000:Int) (1000000000:Int))=true then
   (zO aa.Words).bind fun v7=>
   jI (v7&&(decide ((aa.Words.length:Int)≤(100:Int))))
  else
   jI false
 else
  jI false
def bP (aa:bL) (n3:Int):Option (Int⊕Bool):=
 if n3 < ([aa.cf,decide (aa.Number≠(0:Int)),decide (aa.Words≠([]:al))].length:Int) then
  (idx [aa.cf,decide (aa.Number≠(0:Int)),decide (aa.Words≠([]:al))] n3).bind fun v4=>
  jH n3 (v4&&(decide (aa.Kind≠(cr (n3+(1:Int))))))
 else
  Option.map .inr (iL aa)
def vZ (aa:bL) (n3:Int):Option Bool:=
 iter (fun x:Int=>bP aa x) n3
def qk (aa:bL):Option Bool:=
 vZ aa (0:Int)
def strings_HasPrefix (aa:al) (ah:al):Option Bool:=
 (cK aa ah).bind fun v1=>
 some v1
def nO (c12:Bool):Option Int:=
 if c12=true then
  some (10:Int)
 else
  some (0:Int)
def sV (Bc:Bool):Option Int:=
 nO Bc
def nP (aa:Query) (c3:Bool) (Dm:Bool):Option Int:=
 if Dm=true then
  nO Dm
 else
  sV ((decide (aa.Value.Kind≠(2:Int)))&&(!c3))
def nQ (aa:Query) (c3:Bool) (c7:Bool):Option Int:=
 if c7=true then
  some (3:Int)
 else
  if aa.Value.Kind≠(3:Int) then
   (strings_HasPrefix aa.Field ([112,114,111,112,46]:al)).bind fun v11=>
   nP aa c3 (!v11)
  else
   nP aa c3 false
def ql (aa:Query) (c3:Bool) (c9:Bool):Option Int:=
 nQ aa c3 c9
def sW (aa:Query) (c3:Bool) (c6:Bool):Option Int:=
 if c6=true then
  some (1:Int)
 else
  if aa.Field=([102,105,114,109,119,97,114,101]:al) then
   some (0:Int)
  else
   if aa.Version≠(⟨(0:Int),(0:Int),(0:Int)⟩:Version) then
    nQ aa c3 (decide (aa.Version≠(⟨(0:Int),(0:Int),(0:Int)⟩:Version)))
   else
    (qk aa.Value).bind fun v8=>
    if (!v8)=true then
     ql aa c3 (!v8)
    else
     ql aa c3 (decide (aa.Value.Kind=(0:Int)))
def sX (aa:Query) (c3:Bool) (c5:Bool):Option Int:=
 if c5=true then
  some (3:Int)
 else
  sW aa c3 ((decide (aa.Field=([102,105,114,109,119,97,114,101]:al)))&&(!(kZ aa.Version)))
def sY (aa:Query) (c3:Bool):Option Int:=
 (aT vc aa.Op).bind fun v4=>
 if (!v4)=true then
  some (10:Int)
 else
  sX aa c3 ((decide (aa.Field=([102,105,114,109,119,97,114,101]:al)))&&(decide (aa.Value≠(⟨(0:Int),false,(0:Int),[]⟩:bL))))
def mj (aa:Query):Option Int:=
 (qj aa.Field (decide (aa.Kind=(2:Int)))).bind fun v2=>
 if (!v2)=true then
  some (5:Int)
 else
  if aa.Kind=(2:Int) then
   some (0:Int)
  else
   sY aa ((decide (aa.Op=([61,61]:al)))||(decide (aa.Op=([33,61]:al))))
def hZ (self:Query→Option Int) (aa:Query) (n15:Int):Option (Int⊕Int):=
 if n15 < (aa.Kids.length:Int) then
  (idx aa.Kids n15).bind fun uq=>
  (self uq).bind fun uO=>
  if uO≠(0:Int) then
   Option.map .inr (some uO)
  else
   some (.inl (cr (n15+(1:Int))))
 else
  Option.map .inr (some (0:Int))
def jc (self:Query→Option Int) (aa:Query) (n15:Int):Option Int:=
 iter (fun x:Int=>hZ self aa x) n15
def ml (self:Query→Option Int) (aa:Query) (y5:Bool):Option Int:=
 if y5=true then
  some (3:Int)
 else
  if aa.Kind≤(2:Int) then
   (mj aa).bind fun oh=>
   some oh
  else
   jc self aa (0:Int)
def qm (self:Query→Option Int) (aa:Query) (c12:Bool):Option Int:=
 ml self aa c12
def oE (self:Query→Option Int) (aa:Query) (Dm:Bool):Option Int:=
 if Dm=true then
  ml self aa Dm
 else
  qm self aa ((decide ((2:Int) < aa.Kind))&&(decide (aa.Field≠([]:al))))
def jd (self:Query→Option Int) (aa:Query) (c8:Bool):Option Int:=
 if c8=true then
  some (3:Int)
 else
  oE self aa ((decide (aa.Kind≠(1:Int)))&&((decide (aa.Op≠([]:al)))||((decide (aa.Value≠(⟨(0:Int),false,(0:Int),[]⟩:bL)))||(decide (aa.Version≠(⟨(0:Int),(0:Int),(0:Int)⟩:Version))))))
def mm (self:Query→Option Int) (aa:Query) (c2:Bool) (c4:Bool):Option Int:=
 if c4=true then
  some (3:Int)
 else
  if c2=true then
   (cA aa.Kids (fun y0=>some (rS y0 aa))).bind fun v9=>
   jd self aa v9
  else
   jd self aa false
def oF (self:Query→Option Int) (aa:Query) (c2:Bool) (c6:Bool):Option Int:=
 mm self aa c2 c6
def rU (self:Query→Option Int) (aa:Query) (c2:Bool) (c7:Bool):Option Int:=
 oF self aa c2 c7
def rV (self:Query→Option Int) (aa:Query) (c2:Bool) (c5:Bool):Option Int:=
 if c5=true then
  oF self aa c2 c5
 else
  rU self aa c2 (c2&&(decide ((aa.Kids.length:Int) < (2:Int))))
def rW (self:Query→Option Int) (aa:Query) (c2:Bool) (c3:Bool):Option Int:=
 if c3=true then
  mm self aa c2 c3
 else
  rV self aa c2 ((decide (aa.Kind=(3:Int)))&&(decide ((aa.Kids.length:Int)≠(1:Int))))
def oG (self:Query→Option Int) (aa:Query) (c2:Bool):Option Int:=
 rW self aa c2 ((decide (aa.Kind≤(2:Int)))&&(decide ((0:Int) < (aa.Kids.length:Int))))
def mn (self:Query→Option Int) (aa:Query):Option Int:=
 if (!(ve aa.Kind (1:Int) (5:Int)))=true then
  some (4:Int)
 else
  oG self aa ((decide (aa.Kind=(4:Int)))||(decide (aa.Kind=(5:Int))))
def iW:Nat→Query→Option Int
 | 0=>fun _=>none
 | k+1=>mn (iW k)
def yk (aa:Query):Option Int:=
 iW depth aa
def lU (aa:Query) (c2:Bool):Option Int:=
 if c2=true then
  some (2:Int)
 else
  (yk aa).bind fun v6=>
  some v6
def qn (aa:Query):Option Int:=
 (Cg aa).bind fun v3=>
 if (40:Int) < (v3.length:Int) then
  lU aa true
 else
  (HP aa).bind fun v5=>
  lU aa (decide ((20:Int) < v5))
def nR (c2:Bool):Int:=
 if c2=true then
  (1:Int)
 else
  (0:Int)
def mo (aa:lA):Int:=
 nR ((!(ve aa.iU (0:Int) aa.To))||(decide ((345686400000:Int) < aa.To)))
def o6 (aa:List Int) (n2:Int):Option (Int⊕Int):=
 if n2 < (aa.length:Int) then
  (idx aa n2).bind fun v3=>
  if v3≠(0:Int) then
   Option.map .inr (some v3)
  else
   some (.inl (cr (n2+(1:Int))))
 else
  Option.map .inr (some (0:Int))
def Bd (aa:List Int) (n2:Int):Option Int:=
 iter (fun x:Int=>o6 aa x) n2
def gz (aa:List Int):Option Int:=
 Bd aa (0:Int)
def kG (n5:Int) (v6:bJ) (Mf:Bool):Option (Int⊕Int):=
 if Mf=true then
  Option.map .inr (some (13:Int))
 else
  (qn v6.Query).bind fun iV=>
  (ph v6.mR).bind fun v20=>
  (gz [iV,v20,(mo v6.Time)]).bind fun v21=>
  if v21≠(0:Int) then
   Option.map .inr (some v21)
  else
   some (.inl (cr (n5+(1:Int))))
def kH (aa:bu) (n5:Int) (v6:bJ) (y5:Bool):Option (Int⊕Int):=
 if y5=true then
  Option.map .inr (some (8:Int))
 else
  (oA aa v6.iU).bind fun lB=>
  (aT lB v6.To).bind fun uq=>
  if uq=true then
   kG n5 v6 true
  else
   (oA aa v6.To).bind fun v17=>
   (aT v17 v6.iU).bind fun uO=>
   kG n5 v6 uO
def mq (aa:bu) (n5:Int) (v6:bJ) (c9:Bool):Option (Int⊕Int):=
 if c9=true then
  Option.map .inr (some (7:Int))
 else
  (dP aa v6.iU).bind fun v12=>
  if v12 < (0:Int) then
   kH aa n5 v6 true
  else
   (dP aa v6.To).bind fun oh=>
   kH aa n5 v6 (decide (oh < (0:Int)))
def oH (aa:bu) (n5:Int):Option (Int⊕Int):=
 if n5 < (aa.aR.length:Int) then
  (idx aa.aR n5).bind fun v6=>
  (tG v6.Key).bind fun v8=>
  if (!v8)=true then
   Option.map .inr (some (5:Int))
  else
   if (0:Int) < n5 then
    (idx aa.aR (cr (n5 - (1:Int)))).bind fun v10=>
    mq aa n5 v6 (Op.bytesLess v6.Key v10.Key||v6.Key==v10.Key)
   else
    mq aa n5 v6 false
 else
  Option.map .inr (some (0:Int))
def uP (aa:bu) (n5:Int):Option Int:=
 iter (fun x:Int=>oH aa x) n5
def rj (aa:bu):Option Int:=
 (nh aa).bind fun v2=>
 if v2≠(0:Int) then
  some v2
 else
  (qg aa).bind fun v3=>
  if v3≠(0:Int) then
   some v3
  else
   if (200:Int) < (aa.aR.length:Int) then
    some (2:Int)
   else
    uP aa (0:Int)
def fW (n3:Int) (c8:Bool):Option (Int⊕Int):=
 if c8=true then
  Option.map .inr (some (7:Int))
 else
  some (.inl (cr (n3+(1:Int))))
def fg (aa:bu) (ah:List aH) (n3:Int):Option (Int⊕Int):=
 if n3 < (ah.length:Int) then
  (idx ah n3).bind fun v4=>
  (dP aa v4.an).bind fun v6=>
  if v6 < (0:Int) then
   Option.map .inr (some (8:Int))
  else
   (tG v4.bT).bind fun v7=>
   if (!v7)=true then
    Option.map .inr (some (5:Int))
   else
    if (!(ve v4.kU (0:Int) (1000000000:Int)))=true then
     Option.map .inr (some (1:Int))
    else
     if (0:Int) < n3 then
      (idx ah (cr (n3 - (1:Int)))).bind fun v9=>
      (idx ah (cr (n3 - (1:Int)))).bind fun v10=>
      (iI [(Lib.compareBytes v9.an v4.an),(Lib.compareBytes v10.bT v4.bT)]).bind fun v11=>
      fW n3 (decide ((0:Int)≤v11))
     else
      fW n3 false
 else
  Option.map .inr (some (0:Int))
def vh (aa:bu) (ah:List aH) (n3:Int):Option Int:=
 iter (fun x:Int=>fg aa ah x) n3
def oI (aa:bu) (ah:List aH):Option Int:=
 if (500:Int) < (ah.length:Int) then
  some (2:Int)
 else
  vh aa ah (0:Int)
def ft (n3:Int) (c8:Bool):Option (Int⊕Int):=
 if c8=true then
  Option.map .inr (some (7:Int))
 else
  some (.inl (cr (n3+(1:Int))))
def eg (aa:bu) (ah:List aM) (n3:Int):Option (Int⊕Int):=
 if n3 < (ah.length:Int) then
  (idx ah n3).bind fun v4=>
  (dP aa v4.an).bind fun v6=>
  if v6 < (0:Int) then
   Option.map .inr (some (8:Int))
  else
   (tG v4.bT).bind fun v7=>
   if (!v7)=true then
    Option.map .inr (some (5:Int))
   else
    if (!(ve v4.mS (1:Int) (1000000000:Int)))=true then
     Option.map .inr (some (1:Int))
    else
     if (0:Int) < n3 then
      (idx ah (cr (n3 - (1:Int)))).bind fun v9=>
      (idx ah (cr (n3 - (1:Int)))).bind fun v10=>
      (iI [(Lib.compareBytes v9.an v4.an),(Lib.compareBytes v10.bT v4.bT)]).bind fun v11=>
      ft n3 (decide ((0:Int)≤v11))
     else
      ft n3 false
 else
  Option.map .inr (some (0:Int))
def uy (aa:bu) (ah:List aM) (n3:Int):Option Int:=
 iter (fun x:Int=>eg aa ah x) n3
def nj (aa:bu) (ah:List aM):Option Int:=
 if (1000:Int) < (ah.length:Int) then
  some (2:Int)
 else
  uy aa ah (0:Int)
def iB (aa:bu) (yl:List (al×al)) (E4:List (al×(List al))) (yF:List (al×(List Int))) (n26:Int):Option (((List (al×(List Int)))×Int)⊕aC):=
 if n26 < (aa.aL.length:Int) then
  (idx aa.aL n26).bind fun zu=>
  (kK yF zu.an []).bind fun vv=>
  (app vv [n26]).bind fun KE=>
  some (.inl (kO yF zu.an KE,cr (n26+(1:Int))))
 else
  Option.map .inr (some (⟨aa,yl,E4,yF,[],[]⟩:aC))
def jV (aa:bu) (yl:List (al×al)) (E4:List (al×(List al))) (yF:List (al×(List Int))) (n26:Int):Option aC:=
 iter (fun x:(List (al×(List Int)))×Int=>iB aa yl E4 x.1 x.2) (yF,n26)
def eh (aa:bu) (yl:List (al×al)) (E4:List (al×(List al))) (n18:Int):Option (((List (al×(List al)))×Int)⊕aC):=
 if n18 < (aa.ba.length:Int) then
  (idx aa.ba n18).bind fun iV=>
  some (.inl (kO E4 iV.Key iV.mR,cr (n18+(1:Int))))
 else
  Option.map .inr (jV aa yl E4 [] (0:Int))
def jW (aa:bu) (yl:List (al×al)) (E4:List (al×(List al))) (n18:Int):Option aC:=
 iter (fun x:(List (al×(List al)))×Int=>eh aa yl x.1 x.2) (E4,n18)
def ei (aa:bu) (yl:List (al×al)) (n12:Int):Option (((List (al×al))×Int)⊕aC):=
 if n12 < (aa.ak.length:Int) then
  (idx aa.ak n12).bind fun oh=>
  some (.inl (kO yl oh.Key oh.eB,cr (n12+(1:Int))))
 else
  Option.map .inr (jW aa yl [] (0:Int))
def qo (aa:bu) (yl:List (al×al)) (n12:Int):Option aC:=
 iter (fun x:(List (al×al))×Int=>ei aa x.1 x.2) (yl,n12)
def nk (aa:bu):Option aC:=
 qo aa [] (0:Int)
def uz (n5:Int) (c7:Bool):Option (Int⊕Bool):=
 if c7=true then
  Option.map .inr (some false)
 else
  some (.inl (cr (n5+(1:Int))))
def nn (aa:al) (n5:Int):Option (Int⊕Bool):=
 if n5 < (aa.length:Int) then
  (idx aa n5).bind fun c6=>
  uz n5 (if (97:Int)≤(c6.toNat:Int) then if (c6.toNat:Int)≤(122:Int) then !true else if (48:Int)≤(c6.toNat:Int) then if (c6.toNat:Int)≤(57:Int) then !true else if (c6.toNat:Int)=(45:Int) then !true else decide (¬ ((c6.toNat:Int)=(95:Int))) else if (c6.toNat:Int)=(45:Int) then !true else decide (¬ ((c6.toNat:Int)=(95:Int))) else if (48:Int)≤(c6.toNat:Int) then if (c6.toNat:Int)≤(57:Int) then !true else if (c6.toNat:Int)=(45:Int) then !true else decide (¬ ((c6.toNat:Int)=(95:Int))) else if (c6.toNat:Int)=(45:Int) then !true else decide (¬ ((c6.toNat:Int)=(95:Int))))
 else
  Option.map .inr (some true)
def wS (aa:al) (n5:Int):Option Bool:=
 iter (fun x:Int=>nn aa x) n5
def np (aa:al) (c1:Bool):Option Bool:=
 if c1=true then
  some false
 else
  wS aa (0:Int)
def k6 (aa:al):Option Bool:=
 if aa=([]:al) then
  np aa true
 else
  if (40:Int) < (aa.length:Int) then
   np aa true
  else
   (idx aa (0:Int)).bind fun c2=>
   if (c2.toNat:Int) < (97:Int) then
    np aa true
   else
    (idx aa (0:Int)).bind fun c3=>
    np aa (decide ((122:Int) < (c3.toNat:Int)))
def dm (aa:aC) (ah:al):Option Bool:=
 (AE aa.a8 ah []).bind fun v1=>
 some v1.2
def iN (aa:aC) (q4:al) (l6:List al) (c8:Bool):Option ((al×(List al))⊕(List al)):=
 if c8=true then
  (app l6 [q4]).bind fun l10=>
  (kK aa.a8 q4 []).bind fun v12=>
  some (.inl (v12,l10))
 else
  Option.map .inr (some l6)
def gJ (aa:aC) (q4:al) (l6:List al):Option ((al×(List al))⊕(List al)):=
 (dm aa q4).bind fun v9=>
 iN aa q4 l6 (v9&&(decide ((l6.length:Int)≤(aa.a8.length:Int))))
def iO (aa:aC) (q4:al) (l6:List al):Option (List al):=
 iter (fun x:al×(List al)=>gJ aa x.1 x.2) (q4,l6)
def fX (aa:aC) (ah:al):Option (List al):=
 iO aa ah []
def fD (n2:Int) (c6:Bool):Option (Int⊕Int):=
 if c6=true then
  Option.map .inr (some (7:Int))
 else
  some (.inl (cr (n2+(1:Int))))
def fE (n9:Int) (c12:Bool):Option (Int⊕Int):=
 if c12=true then
  Option.map .inr (some (8:Int))
 else
  some (.inl (cr (n9+(1:Int))))
def ia (n17:Int) (c24:Bool):Option ((Bool×Int)⊕Int):=
 some (.inl (c24,cr (n17+(1:Int))))
def kI (Dn:Bool):Option Int:=
 if Dn=true then
  some (2:Int)
 else
  some (0:Int)
def dW (aa:aC) (Dn:Bool) (n17:Int):Option ((Bool×Int)⊕Int):=
 if n17 < (aa.bu.ak.length:Int) then
  (idx aa.bu.ak n17).bind fun uO=>
  (fX aa uO.Key).bind fun v20=>
  (yD v20 (1:Int) (v20.length:Int)).bind fun l22=>
  (aT l22 uO.Key).bind fun v23=>
  if v23=true then
   Option.map .inr (some (14:Int))
  else
   ia n17 (Dn||(decide ((11:Int) < (v20.length:Int))))
 else
  Option.map .inr (kI Dn)
def dp (aa:aC) (Dn:Bool) (n17:Int):Option Int:=
 iter (fun x:Bool×Int=>dW aa x.1 x.2) (Dn,n17)
def fG (aa:aC) (n9:Int):Option (Int⊕Int):=
 if n9 < (aa.bu.ak.length:Int) then
  (idx aa.bu.ak n9).bind fun v10=>
  if v10.eB≠([]:al) then
   (dm aa v10.eB).bind fun oh=>
   fE n9 (!oh)
  else
   fE n9 false
 else
  Option.map .inr (dp aa false (0:Int))
def ib (aa:aC) (n9:Int):Option Int:=
 iter (fun x:Int=>fG aa x) n9
def fH (aa:aC) (n2:Int):Option (Int⊕Int):=
 if n2 < (aa.bu.ak.length:Int) then
  (idx aa.bu.ak n2).bind fun v3=>
  (k6 v3.Key).bind fun v5=>
  if (!v5)=true then
   Option.map .inr (some (5:Int))
  else
   if (0:Int) < n2 then
    (idx aa.bu.ak (cr (n2 - (1:Int)))).bind fun v7=>
    fD n2 (Op.bytesLess v3.Key v7.Key||v3.Key==v7.Key)
   else
    fD n2 false
 else
  Option.map .inr (ib aa (0:Int))
def oJ (aa:aC) (n2:Int):Option Int:=
 iter (fun x:Int=>fH aa x) n2
def fA (aa:aC):Option Int:=
 if (200:Int) < (aa.bu.ak.length:Int) then
  some (2:Int)
 else
  oJ aa (0:Int)
def dc (c1:Bool):Option Bool:=
 some c1
def dD (aa:al) (ah:al):Option Bool:=
 if (ah.length:Int)≤(aa.length:Int) then
  (yD aa (cr ((aa.length:Int) - (ah.length:Int))) (aa.length:Int)).bind fun l2=>
  dc (decide (l2=ah))
 else
  dc false
def fh (aa:al) (ah:al):Option (al×Bool):=
 (dD aa ah).bind fun v1=>
 if (!v1)=true then
  some (aa,false)
 else
  (yD aa (0:Int) (cr ((aa.length:Int) - (ah.length:Int)))).bind fun l2=>
  some (l2,true)
def strings_CutSuffix (aa:al) (ah:al):Option (al×Bool):=
 (fh aa ah).bind fun v1=>
 some (v1.1,v1.2)
def iu (ah:Int) (q3:al) (n4:Int):Option ((al×Int)⊕Bool):=
 if n4 < ah then
  (L6 q3 ([46]:al)).bind fun v5=>
  (k6 v5.1).bind fun v6=>
  if (!v6)=true then
   Option.map .inr (some false)
  else
   if (!v5.2.2)=true then
    Option.map .inr (some true)
   else
    some (.inl (v5.2.1,cr (n4+(1:Int))))
 else
  Option.map .inr (some false)
def qp (ah:Int) (q3:al) (n4:Int):Option Bool:=
 iter (fun x:al×Int=>iu ah x.1 x.2) (q3,n4)
def lp (aa:al) (ah:Int):Option Bool:=
 qp ah aa (0:Int)
def nq (aa:al):Option Bool:=
 (lp aa (5:Int)).bind fun v1=>
 some v1
def lV (c4:Bool):Option Bool:=
 some c4
def nT (aa:al):Option Bool:=
 (strings_CutSuffix aa ([42]:al)).bind fun v1=>
 if (!v1.2)=true then
  (nq aa).bind fun v2=>
  some v2
 else
  if v1.1=([]:al) then
   some true
  else
   (strings_CutSuffix v1.1 ([46]:al)).bind fun v3=>
   if v3.2=true then
    (lp v3.1 (4:Int)).bind fun v5=>
    lV v5
   else
    lV false
def iP (n2:Int) (c5:Bool):Option (Int⊕Int):=
 if c5=true then
  Option.map .inr (some (7:Int))
 else
  some (.inl (cr (n2+(1:Int))))
def gK (aa:List al) (n2:Int):Option (Int⊕Int):=
 if n2 < (aa.length:Int) then
  (idx aa n2).bind fun v3=>
  (nT v3).bind fun v4=>
  if (!v4)=true then
   Option.map .inr (some (5:Int))
  else
   if (0:Int) < n2 then
    (idx aa (cr (n2 - (1:Int)))).bind fun v6=>
    iP n2 (Op.bytesLess v3 v6||v3==v6)
   else
    iP n2 false
 else
  Option.map .inr (some (0:Int))
def sN (aa:List al) (n2:Int):Option Int:=
 iter (fun x:Int=>gK aa x) n2
def jh (aa:List al):Option Int:=
 if (aa.length:Int)=(0:Int) then
  some (8:Int)
 else
  if (50:Int) < (aa.length:Int) then
   some (2:Int)
  else
   sN aa (0:Int)
def dM (n2:Int) (v3:bF) (c6:Bool):Option (Int⊕Int):=
 if c6=true then
  Option.map .inr (some (7:Int))
 else
  (jh v3.mR).bind fun v8=>
  if v8≠(0:Int) then
   Option.map .inr (some v8)
  else
   some (.inl (cr (n2+(1:Int))))
def cy (aa:aC) (n2:Int):Option (Int⊕Int):=
 if n2 < (aa.bu.ba.length:Int) then
  (idx aa.bu.ba n2).bind fun v3=>
  (k6 v3.Key).bind fun v5=>
  if (!v5)=true then
   Option.map .inr (some (5:Int))
  else
   if (0:Int) < n2 then
    (idx aa.bu.ba (cr (n2 - (1:Int)))).bind fun v7=>
    dM n2 v3 (Op.bytesLess v3.Key v7.Key||v3.Key==v7.Key)
   else
    dM n2 v3 false
 else
  Option.map .inr (some (0:Int))
def nX (aa:aC) (n2:Int):Option Int:=
 iter (fun x:Int=>cy aa x) n2
def gA (aa:aC):Option Int:=
 if (50:Int) < (aa.bu.ba.length:Int) then
  some (2:Int)
 else
  nX aa (0:Int)
def lW (aa:bj) (ah:bj):Option Int:=
 (iI [(Lib.compareBytes aa.vE ah.vE),(Lib.compareBytes aa.an ah.an),(Lib.compareBytes aa.bF ah.bF)]).bind fun v3=>
 some v3
def ch (n2:Int) (c9:Bool):Option (Int⊕Int):=
 if c9=true then
  Option.map .inr (some (7:Int))
 else
  some (.inl (cr (n2+(1:Int))))
def cj (aa:aC) (n2:Int) (v3:bj) (c7:Bool):Option (Int⊕Int):=
 if c7=true then
  Option.map .inr (some (8:Int))
 else
  if (0:Int) < n2 then
   (idx aa.bu.aL (cr (n2 - (1:Int)))).bind fun v10=>
   (lW v3 v10).bind fun v11=>
   ch n2 (decide (v11≤(0:Int)))
  else
   ch n2 false
def ej (aa:aC) (n2:Int):Option (Int⊕Int):=
 if n2 < (aa.bu.aL.length:Int) then
  (idx aa.bu.aL n2).bind fun v3=>
  (AE aa.qU v3.bF []).bind fun v5=>
  (k6 v3.vE).bind fun v6=>
  if (!v6)=true then
   Option.map .inr (some (5:Int))
  else
   (dm aa v3.an).bind fun v8=>
   cj aa n2 v3 ((!v8)||(!v5.2))
 else
  Option.map .inr (some (0:Int))
def mE (aa:aC) (n2:Int):Option Int:=
 iter (fun x:Int=>ej aa x) n2
def dX (aa:aC):Option Int:=
 if (500:Int) < (aa.bu.aL.length:Int) then
  some (2:Int)
 else
  mE aa (0:Int)
def gB (c1:Bool):Option Bool:=
 some c1
def gL (aa:aC) (ah:al) (bc:al):Option Bool:=
 if ah≠bc then
  (fX aa ah).bind fun v2=>
  (aT v2 bc).bind fun v4=>
  gB v4
 else
  gB false
def fL (self:Query→Option (Int×Int)) (aa:Query) (n7:Int) (n8:Int) (n9:Int):Option ((Int×Int×Int)⊕(Int×Int)):=
 if n9 < (aa.Kids.length:Int) then
  (idx aa.Kids n9).bind fun v10=>
  (self v10).bind fun v12=>
  some (.inl (cr (n7+v12.1),max n8 v12.2,cr (n9+(1:Int))))
 else
  Option.map .inr (some (n7,cr (n8+(1:Int))))
def sA (self:Query→Option (Int×Int)) (aa:Query) (n7:Int) (n8:Int) (n9:Int):Option (Int×Int):=
 iter (fun x:Int×Int×Int=>fL self aa x.1 x.2.1 x.2.2) (n7,n8,n9)
def lX (self:Query→Option (Int×Int)) (aa:Query) (n3:Int):Option (Int×Int):=
 sA self aa n3 (0:Int) (0:Int)
def o7 (self:Query→Option (Int×Int)) (aa:Query) (c2:Bool):Option (Int×Int):=
 if c2=true then
  lX self aa (1:Int)
 else
  lX self aa (0:Int)
def lY (self:Query→Option (Int×Int)) (aa:Query):Option (Int×Int):=
 o7 self aa ((decide (aa.Kind=(1:Int)))||(decide (aa.Kind=(2:Int))))
def fI:Nat→Query→Option (Int×Int)
 | 0=>fun _=>none
 | k+1=>lY (fI k)
def vG (aa:Query):Option (Int×Int):=
 fI depth aa
def sj (c1:Bool):Bool:=
 c1
def jw (aa:Int) (ah:Int) (bc:Int):Bool:=
 sj ((decide (aa < ah))||(decide (bc < aa)))
def mG (aa:Query) (ah:Query):Bool:=
 decide (aa.Kind=ah.Kind)
def qq (Me:Bool):Option Int:=
 if Me=true then
  some (3:Int)
 else
  some (0:Int)
def jX (aa:Query) (c3:Bool) (q4:al) (q5:al) (n6:Int) (c7:Bool) (n8:Int) (q9:al) (n10:Int) (n11:Int) (n12:Int):Option Int:=
 qq (c3||((decide (q4≠aa.Field))||((decide (q5≠aa.Op))||((decide ((⟨n6,c7,n8,q9⟩:bL)≠aa.Value))||(decide ((⟨n10,n11,n12⟩:Version)≠aa.Version))))))
def iC (aa:Query) (Bc:Bool) (KI:al):Option Int:=
 jX aa Bc KI [] (0:Int) false (0:Int) [] (0:Int) (0:Int) (0:Int)
def iD (aa:Query) (KK:Bool):Option Int:=
 iC aa KK []
def jY (aa:Query) (Dn:Bool):Option Int:=
 iD aa Dn
def nt (aa:Query):Option Int:=
 if (jw aa.Kind (1:Int) (5:Int))=true then
  some (4:Int)
 else
  if aa.Kind=(1:Int) then
   jX aa (decide ((aa.Kids.length:Int)≠(0:Int))) aa.Field aa.Op aa.Value.Kind aa.Value.cf aa.Value.Number aa.Value.Words aa.Version.bQ aa.Version.bR aa.Version.bN
  else
   if aa.Kind=(2:Int) then
    iC aa (decide ((aa.Kids.length:Int)≠(0:Int))) aa.Field
   else
    if aa.Kind=(3:Int) then
     iD aa (decide ((aa.Kids.length:Int)≠(1:Int)))
    else
     if (aa.Kids.length:Int) < (2:Int) then
      jY aa true
     else
      (cA aa.Kids (fun y0=>some (mG y0 aa))).bind fun v17=>
      jY aa v17
def oK (c2:Bool):Option Bool:=
 some c2
def rk (aa:al):Option Bool:=
 (strings_CutPrefix aa ([116,97,103,46]:al)).bind fun v1=>
 if v1.2=true then
  (k6 v1.1).bind fun v3=>
  oK v3
 else
  oK false
def k7 (c1:Bool):Option Bool:=
 some c1
def oL (aa:al):Option Bool:=
 if (aa.length:Int)≤(40:Int) then
  (lp aa (5:Int)).bind fun v2=>
  k7 v2
 else
  k7 false
def nu (c2:Bool):Option Bool:=
 some c2
def nv (aa:al):Option Bool:=
 (strings_CutPrefix aa ([112,114,111,112,46]:al)).bind fun v1=>
 if v1.2=true then
  (oL v1.1).bind fun v3=>
  nu v3
 else
  nu false
def ic (c1:Bool):Option Bool:=
 some c1
def tJ (aa:al):Option Bool:=
 if aa=([107,101,121]:al) then
  ic true
 else
  if aa=([109,111,100,101,108]:al) then
   ic true
  else
   if aa=([116,101,110,97,110,116]:al) then
    ic true
   else
    if aa=([102,105,114,109,119,97,114,101]:al) then
     ic true
    else
     (rk aa).bind fun v2=>
     if v2=true then
      ic true
     else
      (nv aa).bind fun v3=>
      ic v3
def eW:(List al):=
 [([61,61]:al),([33,61]:al),([60]:al),([60,61]:al),([62]:al),([62,61]:al)]
def o8 (c2:Bool):Bool:=
 c2
def fM (aa:Version):Bool:=
 o8 ((!(jw aa.bQ (0:Int) (9999:Int)))&&((!(jw aa.bR (0:Int) (9999:Int)))&&(!(jw aa.bN (0:Int) (9999:Int)))))
def kJ (y5:Bool):Option Bool:=
 some y5
def mr (aa:bL) (c3:Bool) (n4:Int) (q5:al):Option Bool:=
 if aa=(⟨aa.Kind,c3,n4,q5⟩:bL) then
  if (!(jw aa.Number (-1000000000:Int) (1000000000:Int)))=true then
   if (aa.Words.length:Int)≤(100:Int) then
    (zO aa.Words).bind fun v12=>
    kJ v12
   else
    kJ false
  else
   kJ false
 else
  kJ false
def oM (aa:bL) (c6:Bool) (n7:Int) (q8:al):Option Bool:=
 mr aa c6 n7 q8
def oN (aa:bL) (n9:Int) (C2:al):Option Bool:=
 oM aa false n9 C2
def tL (aa:bL):Option Bool:=
 if aa.Kind=(0:Int) then
  mr aa false (0:Int) []
 else
  if aa.Kind=(1:Int) then
   oM aa aa.cf (0:Int) []
  else
   if aa.Kind=(2:Int) then
    oN aa aa.Number []
   else
    if aa.Kind=(3:Int) then
     oN aa (0:Int) aa.Words
    else
     some false
def mH (Mf:Bool):Option Int:=
 if Mf=true then
  some (10:Int)
 else
  some (0:Int)
def iE (aa:Query) (c12:Bool):Option Int:=
 if c12=true then
  some (10:Int)
 else
  mH ((decide (aa.Value.Kind≠(2:Int)))&&((decide (aa.Op≠([61,61]:al)))&&(decide (aa.Op≠([33,61]:al)))))
def iF (aa:Query) (Dm:Bool):Option Int:=
 if Dm=true then
  some (3:Int)
 else
  if aa.Value.Kind≠(3:Int) then
   (nv aa.Field).bind fun oh=>
   iE aa (!oh)
  else
   iE aa false
def mI (aa:Query) (c9:Bool):Option Int:=
 if c9=true then
  some (1:Int)
 else
  if aa.Field=([102,105,114,109,119,97,114,101]:al) then
   some (0:Int)
  else
   if aa.Version≠(⟨(0:Int),(0:Int),(0:Int)⟩:Version) then
    iF aa true
   else
    (tL aa.Value).bind fun v11=>
    iF aa ((!v11)||(decide (aa.Value.Kind=(0:Int))))
def mJ (aa:Query) (c8:Bool):Option Int:=
 if c8=true then
  some (3:Int)
 else
  mI aa ((decide (aa.Field=([102,105,114,109,119,97,114,101]:al)))&&(!(fM aa.Version)))
def ek (aa:Query) (c2:Bool):Option Int:=
 if c2=true then
  some (5:Int)
 else
  if aa.Kind=(2:Int) then
   some (0:Int)
  else
   (aT eW aa.Op).bind fun v7=>
   if (!v7)=true then
    some (10:Int)
   else
    mJ aa ((decide (aa.Field=([102,105,114,109,119,97,114,101]:al)))&&(decide (aa.Value≠(⟨(0:Int),false,(0:Int),[]⟩:bL))))
def nw (aa:Query):Option Int:=
 (tJ aa.Field).bind fun v3=>
 if (!v3)=true then
  ek aa true
 else
  if aa.Kind=(2:Int) then
   (rk aa.Field).bind fun v4=>
   if (!v4)=true then
    (nv aa.Field).bind fun v5=>
    ek aa (!v5)
   else
    ek aa false
  else
   ek aa false
def eo (self:Query→Option Int) (aa:Query) (n6:Int):Option (Int⊕Int):=
 if n6 < (aa.Kids.length:Int) then
  (idx aa.Kids n6).bind fun v7=>
  (self v7).bind fun v9=>
  if v9≠(0:Int) then
   Option.map .inr (some v9)
  else
   some (.inl (cr (n6+(1:Int))))
 else
  Option.map .inr (some (0:Int))
def mK (self:Query→Option Int) (aa:Query) (n6:Int):Option Int:=
 iter (fun x:Int=>eo self aa x) n6
def mL (self:Query→Option Int) (aa:Query) (c3:Bool):Option Int:=
 if c3=true then
  (nw aa).bind fun v4=>
  some v4
 else
  mK self aa (0:Int)
def jZ (self:Query→Option Int) (aa:Query):Option Int:=
 (nt aa).bind fun v2=>
 if v2≠(0:Int) then
  some v2
 else
  mL self aa ((decide (aa.Kind=(1:Int)))||(decide (aa.Kind=(2:Int))))
def di:Nat→Query→Option Int
 | 0=>fun _=>none
 | k+1=>jZ (di k)
def tM (aa:Query):Option Int:=
 di depth aa
def lC (aa:Query) (c3:Bool):Option Int:=
 if c3=true then
  some (2:Int)
 else
  (tM aa).bind fun v4=>
  some v4
def dC (aa:Query):Option Int:=
 (vG aa).bind fun v2=>
 lC aa ((decide ((40:Int) < v2.1))||(decide ((20:Int) < v2.2)))
def rZ (aa:List Int) (n2:Int):Option (Int⊕Int):=
 if n2 < (aa.length:Int) then
  (idx aa n2).bind fun v3=>
  if v3≠(0:Int) then
   Option.map .inr (some v3)
  else
   some (.inl (cr (n2+(1:Int))))
 else
  Option.map .inr (some (0:Int))
def Dp (aa:List Int) (n2:Int):Option Int:=
 iter (fun x:Int=>rZ aa x) n2
def tN (aa:List Int):Option Int:=
 Dp aa (0:Int)
def qs (c2:Bool):Bool:=
 c2
def pz (aa:lA):Bool:=
 qs ((!(jw aa.iU (0:Int) aa.To))&&(decide (aa.To≤(345686400000:Int))))
def bY (n2:Int) (v3:bJ) (y5:Bool):Option (Int⊕Int):=
 if y5=true then
  Option.map .inr (some (13:Int))
 else
  (dC v3.Query).bind fun xy=>
  (jh v3.mR).bind fun lB=>
  (tN [xy,lB]).bind fun uq=>
  if uq≠(0:Int) then
   Option.map .inr (some uq)
  else
   if (!(pz v3.Time))=true then
    Option.map .inr (some (1:Int))
   else
    some (.inl (cr (n2+(1:Int))))
def cP (aa:aC) (n2:Int) (v3:bJ) (c8:Bool):Option (Int⊕Int):=
 if c8=true then
  Option.map .inr (some (8:Int))
 else
  if v3.iU=v3.To then
   bY n2 v3 true
  else
   (gL aa v3.iU v3.To).bind fun v12=>
   if v12=true then
    bY n2 v3 true
   else
    (gL aa v3.To v3.iU).bind fun oh=>
    bY n2 v3 oh
def cS (aa:aC) (n2:Int) (v3:bJ) (c6:Bool):Option (Int⊕Int):=
 if c6=true then
  Option.map .inr (some (7:Int))
 else
  (dm aa v3.iU).bind fun v9=>
  if (!v9)=true then
   cP aa n2 v3 true
  else
   (dm aa v3.To).bind fun v10=>
   cP aa n2 v3 (!v10)
def eN (aa:aC) (n2:Int):Option (Int⊕Int):=
 if n2 < (aa.bu.aR.length:Int) then
  (idx aa.bu.aR n2).bind fun v3=>
  (k6 v3.Key).bind fun v5=>
  if (!v5)=true then
   Option.map .inr (some (5:Int))
  else
   if (0:Int) < n2 then
    (idx aa.bu.aR (cr (n2 - (1:Int)))).bind fun v7=>
    cS aa n2 v3 (Op.bytesLess v3.Key v7.Key||v3.Key==v7.Key)
   else
    cS aa n2 v3 false
 else
  Option.map .inr (some (0:Int))
def nx (aa:aC) (n2:Int):Option Int:=
 iter (fun x:Int=>eN aa x) n2
def eC (aa:aC):Option Int:=
 if (200:Int) < (aa.bu.aR.length:Int) then
  some (2:Int)
 else
  nx aa (0:Int)
def cT (aa:bu):Option ((Option aC)×Int):=
 (nk aa).bind fun v2=>
 (fA v2).bind fun v9=>
 if v9≠(0:Int) then
  some (none,v9)
 else
  (gA v2).bind fun v10=>
  if v10≠(0:Int) then
   some (none,v10)
  else
   (dX v2).bind fun v11=>
   if v11≠(0:Int) then
    some (none,v11)
   else
    (eC v2).bind fun v12=>
    if v12≠(0:Int) then
     some (none,v12)
    else
     some (some v2,(0:Int))
def qu (aa:aj) (ah:aj):Option Int:=
 (iI [(Lib.compareBytes aa.cu ah.cu),(Lib.compareBytes aa.cZ ah.cZ)]).bind fun v3=>
 some v3
def fj (aa:aC) (ah:aj) (bc:Int) (cz:Int) (cE:aj):Option Int:=
 (dm aa ah.cu).bind fun v2=>
 if (!v2)=true then
  some (8:Int)
 else
  (k6 ah.cZ).bind fun v3=>
  if (!v3)=true then
   some (5:Int)
  else
   if (jw bc cz (1000000000:Int))=true then
    some (1:Int)
   else
    (qu ah cE).bind fun v4=>
    if v4≤(0:Int) then
     some (7:Int)
    else
     some (0:Int)
def dE (aa:aC) (ah:aj) (bc:Int) (cz:Int):Option Int:=
 (dm aa ah.cu).bind fun v2=>
 if (!v2)=true then
  some (8:Int)
 else
  (k6 ah.cZ).bind fun v3=>
  if (!v3)=true then
   some (5:Int)
  else
   if (jw bc cz (1000000000:Int))=true then
    some (1:Int)
   else
    some (0:Int)
def gC:Option Int:=
 some (0:Int)
def eO (aa:aC) (ah:List aH):Option ((al×al×Int)⊕Int):=
 if (0:Int) < (ah.length:Int) then
  (idx ah (0:Int)).bind fun v12=>
  (dE aa (⟨v12.an,v12.bT⟩:aj) v12.kU (0:Int)).bind fun lB=>
  if lB≠(0:Int) then
   Option.map .inr (some lB)
  else
   some (.inl (v12.an,v12.bT,cr ((0:Int)+(1:Int))))
 else
  Option.map .inr (gC)
def bO (aa:aC) (ah:List aH) (q9:al) (C2:al) (n11:Int):Option ((al×al×Int)⊕Int):=
 if n11 < (ah.length:Int) then
  (idx ah n11).bind fun uq=>
  (fj aa (⟨uq.an,uq.bT⟩:aj) uq.kU (0:Int) (⟨q9,C2⟩:aj)).bind fun iV=>
  if iV≠(0:Int) then
   Option.map .inr (some iV)
  else
   some (.inl (uq.an,uq.bT,cr (n11+(1:Int))))
 else
  Option.map .inr (gC)
def ny (aa:aC) (ah:List aH):Option Int:=
 (eO aa ah).bind (after (iter (fun x:al×al×Int=>bO aa ah x.1 x.2.1 x.2.2)))
def eD (aa:aC) (ah:List aH):Option Int:=
 if (500:Int) < (ah.length:Int) then
  some (2:Int)
 else
  ny aa ah
def fQ (aa:bu) (ah:List aH):Option Int:=
 (cT aa).bind fun v2=>
 fc v2.1 (
  if v2.2≠(0:Int) then
   some v2.2
  else
   none) (fun x3=>
  if v2.2≠(0:Int) then
   some v2.2
  else
   (eD x3 ah).bind fun v10=>
   some v10)
def gg:Option Int:=
 some (0:Int)
def ep (aa:aC) (ah:List aM):Option ((al×al×Int)⊕Int):=
 if (0:Int) < (ah.length:Int) then
  (idx ah (0:Int)).bind fun v12=>
  (dE aa (⟨v12.an,v12.bT⟩:aj) v12.mS (1:Int)).bind fun lB=>
  if lB≠(0:Int) then
   Option.map .inr (some lB)
  else
   some (.inl (v12.an,v12.bT,cr ((0:Int)+(1:Int))))
 else
  Option.map .inr (gg)
def bK (aa:aC) (ah:List aM) (q9:al) (C2:al) (n11:Int):Option ((al×al×Int)⊕Int):=
 if n11 < (ah.length:Int) then
  (idx ah n11).bind fun uq=>
  (fj aa (⟨uq.an,uq.bT⟩:aj) uq.mS (1:Int) (⟨q9,C2⟩:aj)).bind fun iV=>
  if iV≠(0:Int) then
   Option.map .inr (some iV)
  else
   some (.inl (uq.an,uq.bT,cr (n11+(1:Int))))
 else
  Option.map .inr (gg)
def mM (aa:aC) (ah:List aM):Option Int:=
 (ep aa ah).bind (after (iter (fun x:al×al×Int=>bK aa ah x.1 x.2.1 x.2.2)))
def dY (aa:aC) (ah:List aM):Option Int:=
 if (1000:Int) < (ah.length:Int) then
  some (2:Int)
 else
  mM aa ah
def fo (aa:bu) (ah:List aM):Option Int:=
 (cT aa).bind fun v2=>
 fc v2.1 (
  if v2.2≠(0:Int) then
   some v2.2
  else
   none) (fun x3=>
  if v2.2≠(0:Int) then
   some v2.2
  else
   (dY x3 ah).bind fun v10=>
   some v10)
def GA (aa:bu) (ah:al):Option (List al):=
 (dP aa ah).bind fun v2=>
 if v2 < (0:Int) then
  some []
 else
  (oA aa ah).bind fun v3=>
  some v3
def qx (aa:bu) (ah:al):Option (Option (List al)):=
 (dP aa ah).bind fun v2=>
 if v2 < (0:Int) then
  some none
 else
  (nM aa ah).bind fun v3=>
  fc v3 (
   some none) (fun x4=>
   some (some x4))
def sB (aa:Bool) (ah:Int):Int:=
 if aa=true then
  ah
 else
  (0:Int)
def pj (aa:al):Option Int:=
 (tG aa).bind fun v1=>
 if (!v1)=true then
  some (5:Int)
 else
  some (0:Int)
def eZ (aa:bu) (ah:List aH) (bc:List aM):Option ((Option aC)×Int):=
 (cT aa).bind fun v2=>
 fc v2.1 (
  if v2.2≠(0:Int) then
   some (none,v2.2)
  else
   none) (fun x3=>
  if v2.2≠(0:Int) then
   some (none,v2.2)
  else
   (eD x3 ah).bind fun v10=>
   (dY x3 bc).bind fun v11=>
   (tN [v10,v11]).bind fun v12=>
   if v12≠(0:Int) then
    some (none,v12)
   else
    some (some x3,(0:Int)))
def fk (aa:aC) (ah:al) (bc:al):Option Int:=
 (dm aa ah).bind fun v1=>
 if (!v1)=true then
  some (8:Int)
 else
  (k6 bc).bind fun v2=>
  if (!v2)=true then
   some (5:Int)
  else
   some (0:Int)
def ie (aa:List aM) (l4:List (aj×Int)) (n5:Int):Option (((List (aj×Int))×Int)⊕(List (aj×Int))):=
 if n5 < (aa.length:Int) then
  (idx aa n5).bind fun v6=>
  (kK l4 (⟨v6.an,v6.bT⟩:aj) (0:Int)).bind fun v8=>
  some (.inl (kO l4 (⟨v6.an,v6.bT⟩:aj) (cr (v8+v6.mS)),cr (n5+(1:Int))))
 else
  Option.map .inr (some l4)
def x2 (aa:List aM) (l4:List (aj×Int)) (n5:Int):Option (List (aj×Int)):=
 iter (fun x:(List (aj×Int))×Int=>ie aa x.1 x.2) (l4,n5)
def pk (aa:List aM):Option (List (aj×Int)):=
 x2 aa [] (0:Int)
def cW (wa:aj×Int) (v6:(List al)) (l10:List (aj×Int)) (n11:Int):Option (((List (aj×Int))×Int)⊕((List (aj×Int))⊕(List (aj×Int)))):=
 if n11 < (v6.length:Int) then
  (idx v6 n11).bind fun v12=>
  (kK l10 (⟨v12,wa.1.cZ⟩:aj) (0:Int)).bind fun oh=>
  some (.inl (kO l10 (⟨v12,wa.1.cZ⟩:aj) (cr (oh+wa.2)),cr (n11+(1:Int))))
 else
  Option.map .inr (some (.inl l10))
def mw (wa:aj×Int) (v6:(List al)) (l10:List (aj×Int)) (n11:Int):Option ((List (aj×Int))⊕(List (aj×Int))):=
 iter (fun x:(List (aj×Int))×Int=>cW wa v6 x.1 x.2) (l10,n11)
def cX (aa:aC) (wa:aj×Int) (l4:List (aj×Int)):Option ((List (aj×Int))⊕(List (aj×Int))):=
 (fX aa wa.1.cu).bind fun v6=>
 mw wa v6 l4 (0:Int)
def fB (l4:List (aj×Int)):Option (List (aj×Int)):=
 some l4
def qV (aa:aC) (ah:List (aj×Int)) (l4:List (aj×Int)):Option (List (aj×Int)):=
 D8 ah (fun p=>va (fun e (x:(List (aj×Int)))=>cX aa e x) (fun x:(List (aj×Int))=>fB x) p l4)
def eP (aa:aC) (ah:List (aj×Int)):Option (List (aj×Int)):=
 qV aa ah []
def iX (aa:bu) (ah:List aM) (bc:al) (cz:al):Option (Int×Int):=
 (eZ aa ([]:List aH) ah).bind fun v2=>
 fc v2.1 (
  if v2.2≠(0:Int) then
   some ((0:Int),v2.2)
  else
   none) (fun x3=>
  if v2.2≠(0:Int) then
   some ((0:Int),v2.2)
  else
   (fk x3 bc cz).bind fun v10=>
   if v10≠(0:Int) then
    some ((0:Int),v10)
   else
    (pk ah).bind fun v11=>
    (eP x3 v11).bind fun oh=>
    (kK oh (⟨bc,cz⟩:aj) (0:Int)).bind fun lB=>
    some (lB,(0:Int)))
def qy (n5:Int) (n11:Int):Option ((Int×Int)⊕Int):=
 some (.inl (n11,cr (n5+(1:Int))))
def nU (n4:Int) (n5:Int) (v6:aM) (c8:Bool):Option ((Int×Int)⊕Int):=
 if c8=true then
  qy n5 (cr (n4+v6.mS))
 else
  qy n5 n4
def iY (aa:bu) (ah:List aM) (bc:al) (cz:al) (n4:Int) (n5:Int):Option ((Int×Int)⊕Int):=
 if n5 < (ah.length:Int) then
  (idx ah n5).bind fun v6=>
  if v6.bT=cz then
   (oA aa v6.an).bind fun v9=>
   (aT v9 bc).bind fun v10=>
   nU n4 n5 v6 v10
  else
   nU n4 n5 v6 false
 else
  Option.map .inr (some n4)
def y7 (aa:bu) (ah:List aM) (bc:al) (cz:al) (n4:Int) (n5:Int):Option Int:=
 iter (fun x:Int×Int=>iY aa ah bc cz x.1 x.2) (n4,n5)
def rl (aa:bu) (ah:List aM) (bc:al) (cz:al):Option Int:=
 y7 aa ah bc cz (0:Int) (0:Int)
def iQ (n10:Int) (n15:Int):Option ((Int×Int)⊕Int):=
 some (.inl (n15,cr (n10+(1:Int))))
def gM (v3:(List (aj×Int))) (n9:Int) (n10:Int) (v11:aH) (Bc:Bool):Option ((Int×Int)⊕Int):=
 if Bc=true then
  (kK v3 (⟨v11.an,v11.bT⟩:aj) (0:Int)).bind fun uq=>
  iQ n10 (min n9 (max (0:Int) (cr (v11.kU - uq))))
 else
  iQ n10 n9
def dz (ah:List aH) (cz:aj) (v3:(List (aj×Int))) (v5:(List al)) (n9:Int) (n10:Int):Option ((Int×Int)⊕Int):=
 if n10 < (ah.length:Int) then
  (idx ah n10).bind fun v11=>
  if v11.bT=cz.cZ then
   (aT v5 v11.an).bind fun xy=>
   gM v3 n9 n10 v11 xy
  else
   gM v3 n9 n10 v11 false
 else
  Option.map .inr (some n9)
def sO (ah:List aH) (cz:aj) (v3:(List (aj×Int))) (v5:(List al)) (n9:Int) (n10:Int):Option Int:=
 iter (fun x:Int×Int=>dz ah cz v3 v5 x.1 x.2) (n9,n10)
def k8 (aa:aC) (ah:List aH) (bc:List (aj×Int)) (cz:aj):Option Int:=
 (kK bc cz (0:Int)).bind fun v2=>
 (eP aa bc).bind fun v3=>
 (fX aa cz.cu).bind fun v5=>
 sO ah cz v3 v5 (cr ((1000000000:Int) - v2)) (0:Int)
def j0 (aa:bu) (ah:List aH) (bc:List aM) (cz:al) (cE:al):Option (Int×Int):=
 (eZ aa ah bc).bind fun v2=>
 fc v2.1 (
  if v2.2≠(0:Int) then
   some ((0:Int),v2.2)
  else
   none) (fun x3=>
  if v2.2≠(0:Int) then
   some ((0:Int),v2.2)
  else
   (fk x3 cz cE).bind fun v10=>
   if v10≠(0:Int) then
    some ((0:Int),v10)
   else
    (pk bc).bind fun v11=>
    (k8 x3 ah v11 (⟨cz,cE⟩:aj)).bind fun oh=>
    some (oh,(0:Int)))
def sk (n5:Int) (n9:Int):Option ((Int×Int)⊕Int):=
 some (.inl (n9,cr (n5+(1:Int))))
def uA (n4:Int) (n5:Int) (v6:aM) (c8:Bool):Option ((Int×Int)⊕Int):=
 if c8=true then
  sk n5 (cr (n4+v6.mS))
 else
  sk n5 n4
def sn (n19:Int) (n23:Int):Option ((Int×Int)⊕((Int×Int)⊕Int)):=
 some (.inl (n23,cr (n19+(1:Int))))
def uB (aa:bu) (bc:List aM) (cE:al) (lB:al) (n18:Int) (n19:Int) (v20:aH) (Tt:Bool):Option ((Int×Int)⊕((Int×Int)⊕Int)):=
 if Tt=true then
  (rl aa bc lB cE).bind fun v24=>
  sn n19 (min n18 (cr (v20.kU - v24)))
 else
  sn n19 n18
def j9 (aa:bu) (ah:List aH) (bc:List aM) (cE:al) (n14:Int) (lB:al) (n18:Int) (n19:Int):Option ((Int×Int)⊕((Int×Int)⊕Int)):=
 if n19 < (ah.length:Int) then
  (idx ah n19).bind fun v20=>
  uB aa bc cE lB n18 n19 v20 ((decide (v20.an=lB))&&(decide (v20.bT=cE)))
 else
  Option.map .inr (some (.inl (n18,cr (n14+(1:Int)))))
def wT (aa:bu) (ah:List aH) (bc:List aM) (cE:al) (n14:Int) (lB:al) (n18:Int) (n19:Int):Option ((Int×Int)⊕Int):=
 iter (fun x:Int×Int=>j9 aa ah bc cE n14 lB x.1 x.2) (n18,n19)
def ke (aa:bu) (ah:List aH) (bc:List aM) (cE:al) (v10:(List al)) (n13:Int) (n14:Int):Option ((Int×Int)⊕Int):=
 if n14 < (v10.length:Int) then
  (idx v10 n14).bind fun lB=>
  wT aa ah bc cE n14 lB n13 (0:Int)
 else
  Option.map .inr (some (max (0:Int) n13))
def AO (aa:bu) (ah:List aH) (bc:List aM) (cE:al) (v10:(List al)) (n13:Int) (n14:Int):Option Int:=
 iter (fun x:Int×Int=>ke aa ah bc cE v10 x.1 x.2) (n13,n14)
def so (aa:bu) (ah:List aH) (bc:List aM) (cz:al) (cE:al) (n4:Int):Option Int:=
 (oA aa cz).bind fun v10=>
 AO aa ah bc cE v10 (cr ((1000000000:Int) - n4)) (0:Int)
def kf (aa:bu) (ah:List aH) (bc:List aM) (cz:al) (cE:al) (n4:Int) (n5:Int):Option ((Int×Int)⊕Int):=
 if n5 < (bc.length:Int) then
  (idx bc n5).bind fun v6=>
  uA n4 n5 v6 ((decide (v6.an=cz))&&(decide (v6.bT=cE)))
 else
  Option.map .inr (so aa ah bc cz cE n4)
def AP (aa:bu) (ah:List aH) (bc:List aM) (cz:al) (cE:al) (n4:Int) (n5:Int):Option Int:=
 iter (fun x:Int×Int=>kf aa ah bc cz cE x.1 x.2) (n4,n5)
def wU (aa:bu) (ah:List aH) (bc:List aM) (cz:al) (cE:al):Option Int:=
 AP aa ah bc cz cE (0:Int) (0:Int)
def iR (n10:Int) (JY:List aH):Option (((List aH)×Int)⊕(List aH)):=
 some (.inl (JY,cr (n10+(1:Int))))
def dA (ah:List aH) (v3:(List (aj×Int))) (l9:List aH) (n10:Int):Option (((List aH)×Int)⊕(List aH)):=
 if n10 < (ah.length:Int) then
  (idx ah n10).bind fun v12=>
  (kK v3 (⟨v12.an,v12.bT⟩:aj) (0:Int)).bind fun xy=>
  if v12.kU < xy then
   (app l9 [v12]).bind fun E4=>
   iR n10 E4
  else
   iR n10 l9
 else
  Option.map .inr (some l9)
def sP (ah:List aH) (v3:(List (aj×Int))) (l9:List aH) (n10:Int):Option (List aH):=
 iter (fun x:(List aH)×Int=>dA ah v3 x.1 x.2) (l9,n10)
def fY (aa:aC) (ah:List aH) (bc:List aM):Option (List aH):=
 (pk bc).bind fun v1=>
 (eP aa v1).bind fun v3=>
 sP ah v3 [] (0:Int)
def kh (aa:bu) (ah:List aH) (bc:List aM):Option ((List aH)×Int):=
 (eZ aa ah bc).bind fun v2=>
 fc v2.1 (
  if v2.2≠(0:Int) then
   some ([],v2.2)
  else
   none) (fun x3=>
  if v2.2≠(0:Int) then
   some ([],v2.2)
  else
   (fY x3 ah bc).bind fun v12=>
   some (v12,(0:Int)))
def ig (aa:List aH):Option (List aH):=
 app [] aa
def pA (aa:aH) (ah:bu) (bc:List aM):Option Bool:=
 (rl ah bc aa.an aa.bT).bind fun v2=>
 some (decide (v2≤aa.kU))
def eK (aa:List aH) (jz:aH→Option Bool) (n2:Int):Option (Int⊕Int):=
 if n2 < (aa.length:Int) then
  (idx aa n2).bind fun v3=>
  (jz v3).bind fun v4=>
  if v4=true then
   Option.map .inr (some n2)
  else
   some (.inl (cr (n2+(1:Int))))
 else
  Option.map .inr (some (-1:Int))
def qR (aa:List aH) (jz:aH→Option Bool) (n2:Int):Option Int:=
 iter (fun x:Int=>eK aa jz x) n2
def fN (aa:List aH) (jz:aH→Option Bool):Option Int:=
 qR aa jz (0:Int)
def er (n7:Int) (yl:List aH) (n12:Int):Option (((List aH)×Int×Int)⊕(List aH)):=
 some (.inl (yl,n12,cr (n7+(1:Int))))
def kj (l5:List aH) (n6:Int):Option (List aH):=
 (yD l5 n6 (l5.length:Int)).bind fun yi=>
 (yD (IK l5 n6 yi.length (⟨[],[],(0:Int)⟩:aH)) (0:Int) n6).bind fun AL=>
 some AL
def et (jz:aH→Option Bool) (l5:List aH) (n6:Int) (n7:Int):Option (((List aH)×Int×Int)⊕(List aH)):=
 if n7 < (l5.length:Int) then
  (idx l5 n7).bind fun v8=>
  (jz v8).bind fun v10=>
  if (!v10)=true then
   (idx l5 n6).bind fun oh=>
   er n7 (l5.set n6.toNat v8) (cr (n6+(1:Int)))
  else
   er n7 l5 n6
 else
  Option.map .inr (kj l5 n6)
def qz (jz:aH→Option Bool) (l5:List aH) (n6:Int) (n7:Int):Option (List aH):=
 iter (fun x:(List aH)×Int×Int=>et jz x.1 x.2.1 x.2.2) (l5,n6,n7)
def fu (aa:List aH) (jz:aH→Option Bool):Option (List aH):=
 (fN aa jz).bind fun v1=>
 if v1=(-1:Int) then
  some aa
 else
  qz jz aa v1 (cr (v1+(1:Int)))
def tO (aa:bu) (ah:List aH) (bc:List aM):Option (List aH):=
 (ig ah).bind fun v3=>
 (fu v3 (fun y0=>pA y0 aa bc)).bind fun v5=>
 some v5
def gh (aa:List aH) (ah:List aH) (n2:Int):Option (Int⊕Bool):=
 if n2 < (aa.length:Int) then
  (idx aa n2).bind fun v3=>
  (idx ah n2).bind fun v4=>
  if v3≠v4 then
   Option.map .inr (some false)
  else
   some (.inl (cr (n2+(1:Int))))
 else
  Option.map .inr (some true)
def sZ (aa:List aH) (ah:List aH) (n2:Int):Option Bool:=
 iter (fun x:Int=>gh aa ah x) n2
def ij (aa:List aH) (ah:List aH):Option Bool:=
 if (aa.length:Int)≠(ah.length:Int) then
  some false
 else
  sZ aa ah (0:Int)
def dG (aa:List an):Option (List an):=
 app [] aa
def gD (aa:List bj):Option (List bj):=
 app [] aa
def dH (aa:List al):Option (List al):=
 app [] aa
def dB (self:Query→Option Query) (aa:Query) (l7:List Query) (n8:Int):Option (((List Query)×Int)⊕Query):=
 if n8 < (aa.Kids.length:Int) then
  (idx aa.Kids n8).bind fun v10=>
  (self v10).bind fun v12=>
  (app l7 [v12]).bind fun l13=>
  some (.inl (l13,cr (n8+(1:Int))))
 else
  Option.map .inr (some (⟨aa.Kind,aa.Field,aa.Op,aa.Value,aa.Version,l7⟩:Query))
def sQ (self:Query→Option Query) (aa:Query) (l7:List Query) (n8:Int):Option Query:=
 iter (fun x:(List Query)×Int=>dB self aa x.1 x.2) (l7,n8)
def iS (self:Query→Option Query) (aa:Query):Option Query:=
 sQ self aa [] (0:Int)
def dQ:Nat→Query→Option Query
 | 0=>fun _=>none
 | k+1=>iS (dQ k)
def rm (aa:Query):Option Query:=
 dQ depth aa
def ew (aa:bu) (v3:(List an)) (v5:(List bj)) (yi:List bF) (Cf:List bJ) (n28:Int):Option (((List bJ)×Int)⊕bu):=
 if n28 < (aa.aR.length:Int) then
  (idx aa.aR n28).bind fun v30=>
  (dH v30.mR).bind fun v32=>
  (rm v30.Query).bind fun E5=>
  (app Cf [(⟨v30.Key,v30.iU,v30.To,E5,v32,v30.Time⟩:bJ)]).bind fun Oj=>
  some (.inl (Oj,cr (n28+(1:Int))))
 else
  Option.map .inr (some (⟨v3,yi,v5,Cf⟩:bu))
def qA (aa:bu) (v3:(List an)) (v5:(List bj)) (yi:List bF) (Cf:List bJ) (n28:Int):Option bu:=
 iter (fun x:(List bJ)×Int=>ew aa v3 v5 yi x.1 x.2) (Cf,n28)
def ey (aa:bu) (v3:(List an)) (v5:(List bj)) (yi:List bF) (n15:Int):Option (((List bF)×Int)⊕bu):=
 if n15 < (aa.ba.length:Int) then
  (idx aa.ba n15).bind fun v17=>
  (dH v17.mR).bind fun iV=>
  (app yi [(⟨v17.Key,iV⟩:bF)]).bind fun wP=>
  some (.inl (wP,cr (n15+(1:Int))))
 else
  Option.map .inr (qA aa v3 v5 yi [] (0:Int))
def uC (aa:bu) (v3:(List an)) (v5:(List bj)) (yi:List bF) (n15:Int):Option bu:=
 iter (fun x:(List bF)×Int=>ey aa v3 v5 x.1 x.2) (yi,n15)
def nz (aa:bu):Option bu:=
 (dG aa.ak).bind fun v3=>
 (gD aa.aL).bind fun v5=>
 uC aa v3 v5 [] (0:Int)
def ez (aa:List aH) (ah:aH) (n3:Int):Option (Int⊕Int):=
 if n3 < (aa.length:Int) then
  (idx aa n3).bind fun v4=>
  if ah=v4 then
   Option.map .inr (some n3)
  else
   some (.inl (cr (n3+(1:Int))))
 else
  Option.map .inr (some (-1:Int))
def mN (aa:List aH) (ah:aH) (n3:Int):Option Int:=
 iter (fun x:Int=>ez aa ah x) n3
def fJ (aa:List aH) (ah:aH):Option Int:=
 mN aa ah (0:Int)
def dq (aa:List aH) (ah:aH):Option Bool:=
 (fJ aa ah).bind fun v2=>
 some (decide ((0:Int)≤v2))
def k9 (aa:aH) (ah:List aH):Option Bool:=
 (dq ah aa).bind fun v2=>
 some (!v2)
def cC (aa:List aH) (jz:aH→Option Bool):Option Bool:=
 (fN aa jz).bind fun v1=>
 some (decide ((0:Int)≤v1))
def nA (n24:Int) (Sd:List an):Option (((List an)×Int)⊕(bu×Int)):=
 some (.inl (Sd,cr (n24+(1:Int))))
def nB (ah:List aH) (bc:List aM) (x4:aC) (lB:bu) (AN:List an):Option (bu×Int):=
 (cT (⟨AN,lB.ba,lB.aL,lB.aR⟩:bu)).bind fun v28=>
 fc v28.1 (
  if v28.2≠(0:Int) then
   some ((⟨[],[],[],[]⟩:bu),v28.2)
  else
   (fY x4 ah bc).bind fun v30=>
   none) (fun x29=>
  if v28.2≠(0:Int) then
   some ((⟨[],[],[],[]⟩:bu),v28.2)
  else
   (fY x4 ah bc).bind fun v39=>
   (fY x29 ah bc).bind fun Tu=>
   (cC Tu (fun y0=>k9 y0 v39)).bind fun v44=>
   if v44=true then
    some ((⟨[],[],[],[]⟩:bu),(16:Int))
   else
    some ((⟨AN,lB.ba,lB.aL,lB.aR⟩:bu),(0:Int)))
def iv (ah:List aH) (bc:List aM) (cz:al) (cE:al) (x4:aC) (lB:bu) (AN:List an) (n24:Int):Option (((List an)×Int)⊕(bu×Int)):=
 if n24 < (lB.ak.length:Int) then
  (idx AN n24).bind fun v25=>
  if v25.Key=cz then
   (idx AN n24).bind fun zu=>
   nA n24 (AN.set n24.toNat (⟨zu.Key,cE⟩:an))
  else
   nA n24 AN
 else
  Option.map .inr (nB ah bc x4 lB AN)
def wV (ah:List aH) (bc:List aM) (cz:al) (cE:al) (x4:aC) (lB:bu) (AN:List an) (n24:Int):Option (bu×Int):=
 iter (fun x:(List an)×Int=>iv ah bc cz cE x4 lB x.1 x.2) (AN,n24)
def dI (aa:bu) (ah:List aH) (bc:List aM) (cz:al) (cE:al) (x4:aC) (y5:Bool):Option (bu×Int):=
 if y5=true then
  some ((⟨[],[],[],[]⟩:bu),(8:Int))
 else
  (kK x4.a8 cz []).bind fun xy=>
  if xy=cE then
   some ((⟨[],[],[],[]⟩:bu),(6:Int))
  else
   (nz aa).bind fun lB=>
   wV ah bc cz cE x4 lB lB.ak (0:Int)
def je (aa:bu) (ah:List aH) (bc:List aM) (cz:al) (cE:al):Option (bu×Int):=
 (eZ aa ah bc).bind fun v3=>
 fc v3.1 (
  if v3.2≠(0:Int) then
   some ((⟨[],[],[],[]⟩:bu),v3.2)
  else
   none) (fun x4=>
  if v3.2≠(0:Int) then
   some ((⟨[],[],[],[]⟩:bu),v3.2)
  else
   (dm x4 cz).bind fun v12=>
   if (!v12)=true then
    dI aa ah bc cz cE x4 true
   else
    if cE≠([]:al) then
     (dm x4 cE).bind fun oh=>
     dI aa ah bc cz cE x4 (!oh)
    else
     dI aa ah bc cz cE x4 false)
def uD (aa:aH) (ah:List aH):Option Bool:=
 (dq ah aa).bind fun v2=>
 some (!v2)
def iw (aa:bu) (ah:List aH) (bc:List aM) (cE:al) (v3:Int) (c4:Bool):Option (bu×Int):=
 if c4=true then
  some ((⟨[],[],[],[]⟩:bu),(8:Int))
 else
  (idx aa.ak v3).bind fun v6=>
  if v6.eB=cE then
   some ((⟨[],[],[],[]⟩:bu),(6:Int))
  else
   (dG aa.ak).bind fun v8=>
   (idx v8 v3).bind fun v10=>
   (rj (⟨v8.set v3.toNat (⟨v10.Key,cE⟩:an),aa.ba,aa.aL,aa.aR⟩:bu)).bind fun v11=>
   if v11≠(0:Int) then
    some ((⟨[],[],[],[]⟩:bu),v11)
   else
    (tO aa ah bc).bind fun v12=>
    (tO (⟨v8.set v3.toNat (⟨v10.Key,cE⟩:an),aa.ba,aa.aL,aa.aR⟩:bu) ah bc).bind fun lB=>
    (cC lB (fun y0=>uD y0 v12)).bind fun v17=>
    if v17=true then
     some ((⟨[],[],[],[]⟩:bu),(16:Int))
    else
     some ((⟨v8.set v3.toNat (⟨v10.Key,cE⟩:an),aa.ba,aa.aL,aa.aR⟩:bu),(0:Int))
def vi (aa:bu) (ah:List aH) (bc:List aM) (cz:al) (cE:al):Option (bu×Int):=
 (dP aa cz).bind fun v3=>
 if v3 < (0:Int) then
  iw aa ah bc cE v3 true
 else
  if cE≠([]:al) then
   (dP aa cE).bind fun v5=>
   iw aa ah bc cE v3 (decide (v5 < (0:Int)))
  else
   iw aa ah bc cE v3 false
def fv (aa:List al) (ah:List al) (n2:Int):Option (Int⊕Bool):=
 if n2 < (aa.length:Int) then
  (idx aa n2).bind fun v3=>
  (idx ah n2).bind fun v4=>
  if v3≠v4 then
   Option.map .inr (some false)
  else
   some (.inl (cr (n2+(1:Int))))
 else
  Option.map .inr (some true)
def sq (aa:List al) (ah:List al) (n2:Int):Option Bool:=
 iter (fun x:Int=>fv aa ah x) n2
def eQ (aa:List al) (ah:List al):Option Bool:=
 if (aa.length:Int)≠(ah.length:Int) then
  some false
 else
  sq aa ah (0:Int)
def o9 (c3:Bool):Option Bool:=
 some c3
def ko (aa:bF) (ah:bF):Option Bool:=
 if aa.Key=ah.Key then
  (eQ aa.mR ah.mR).bind fun v4=>
  o9 v4
 else
  o9 false
def bl (aa:List bF) (ah:List bF) (x5:bF→bF→Option Bool) (n2:Int):Option (Int⊕Bool):=
 if n2 < (aa.length:Int) then
  (idx aa n2).bind fun v3=>
  (idx ah n2).bind fun v5=>
  (x5 v3 v5).bind fun v7=>
  if (!v7)=true then
   Option.map .inr (some false)
  else
   some (.inl (cr (n2+(1:Int))))
 else
  Option.map .inr (some true)
def gU (aa:List bF) (ah:List bF) (x5:bF→bF→Option Bool) (n2:Int):Option Bool:=
 iter (fun x:Int=>bl aa ah x5 x) n2
def cw (aa:List bF) (ah:List bF) (x5:bF→bF→Option Bool):Option Bool:=
 if (aa.length:Int)≠(ah.length:Int) then
  some false
 else
  gU aa ah x5 (0:Int)
def aW (aa:List Query) (ah:List Query) (x5:Query→Query→Option Bool) (n2:Int):Option (Int⊕Bool):=
 if n2 < (aa.length:Int) then
  (idx aa n2).bind fun v3=>
  (idx ah n2).bind fun v5=>
  (x5 v3 v5).bind fun v7=>
  if (!v7)=true then
   Option.map .inr (some false)
  else
   some (.inl (cr (n2+(1:Int))))
 else
  Option.map .inr (some true)
def fZ (aa:List Query) (ah:List Query) (x5:Query→Query→Option Bool) (n2:Int):Option Bool:=
 iter (fun x:Int=>aW aa ah x5 x) n2
def ca (aa:List Query) (ah:List Query) (x5:Query→Query→Option Bool):Option Bool:=
 if (aa.length:Int)≠(ah.length:Int) then
  some false
 else
  fZ aa ah x5 (0:Int)
def iy (c3:Bool):Option Bool:=
 some c3
def nC (self:Query→Query→Option Bool) (aa:Query) (ah:Query):Option Bool:=
 if aa.Kind=ah.Kind then
  if aa.Field=ah.Field then
   if aa.Op=ah.Op then
    if aa.Value=ah.Value then
     if aa.Version=ah.Version then
      (ca aa.Kids ah.Kids (fun y0 y1=>self y0 y1)).bind fun v4=>
      iy v4
     else
      iy false
    else
     iy false
   else
    iy false
  else
   iy false
 else
  iy false
def gp:Nat→Query→Query→Option Bool
 | 0=>fun _ _=>none
 | k+1=>nC (gp k)
def wW (aa:Query) (ah:Query):Option Bool:=
 gp depth aa ah
def gQ (c3:Bool):Option Bool:=
 some c3
def kq (aa:bJ) (ah:bJ):Option Bool:=
 if aa.Key=ah.Key then
  if aa.iU=ah.iU then
   if aa.To=ah.To then
    (wW aa.Query ah.Query).bind fun v4=>
    if v4=true then
     (eQ aa.mR ah.mR).bind fun v5=>
     gQ (v5&&(decide (aa.Time=ah.Time)))
    else
     gQ false
   else
    gQ false
  else
   gQ false
 else
  gQ false
def aX (aa:List bJ) (ah:List bJ) (x5:bJ→bJ→Option Bool) (n2:Int):Option (Int⊕Bool):=
 if n2 < (aa.length:Int) then
  (idx aa n2).bind fun v3=>
  (idx ah n2).bind fun v5=>
  (x5 v3 v5).bind fun v7=>
  if (!v7)=true then
   Option.map .inr (some false)
  else
   some (.inl (cr (n2+(1:Int))))
 else
  Option.map .inr (some true)
def ga (aa:List bJ) (ah:List bJ) (x5:bJ→bJ→Option Bool) (n2:Int):Option Bool:=
 iter (fun x:Int=>aX aa ah x5 x) n2
def cb (aa:List bJ) (ah:List bJ) (x5:bJ→bJ→Option Bool):Option Bool:=
 if (aa.length:Int)≠(ah.length:Int) then
  some false
 else
  ga aa ah x5 (0:Int)
def fw (aa:List an) (ah:List an) (n2:Int):Option (Int⊕Bool):=
 if n2 < (aa.length:Int) then
  (idx aa n2).bind fun v3=>
  (idx ah n2).bind fun v4=>
  if v3≠v4 then
   Option.map .inr (some false)
  else
   some (.inl (cr (n2+(1:Int))))
 else
  Option.map .inr (some true)
def sr (aa:List an) (ah:List an) (n2:Int):Option Bool:=
 iter (fun x:Int=>fw aa ah x) n2
def gE (aa:List an) (ah:List an):Option Bool:=
 if (aa.length:Int)≠(ah.length:Int) then
  some false
 else
  sr aa ah (0:Int)
def fx (aa:List bj) (ah:List bj) (n2:Int):Option (Int⊕Bool):=
 if n2 < (aa.length:Int) then
  (idx aa n2).bind fun v3=>
  (idx ah n2).bind fun v4=>
  if v3≠v4 then
   Option.map .inr (some false)
  else
   some (.inl (cr (n2+(1:Int))))
 else
  Option.map .inr (some true)
def ss (aa:List bj) (ah:List bj) (n2:Int):Option Bool:=
 iter (fun x:Int=>fx aa ah x) n2
def gG (aa:List bj) (ah:List bj):Option Bool:=
 if (aa.length:Int)≠(ah.length:Int) then
  some false
 else
  ss aa ah (0:Int)
def qB (c5:Bool):Option Bool:=
 some c5
def vj (aa:bu) (ah:bu):Option Bool:=
 (cw aa.ba ah.ba (fun y0 y1=>ko y0 y1)).bind fun v3=>
 (cb aa.aR ah.aR (fun y0 y1=>kq y0 y1)).bind fun v4=>
 (gE aa.ak ah.ak).bind fun v6=>
 if v6=true then
  if v3=true then
   (gG aa.aL ah.aL).bind fun v7=>
   qB (v7&&v4)
  else
   qB false
 else
  qB false
def dn (l2:List al):Option (List al):=
 some l2
def dL (ah:Int):Option (List al):=
 if ah < (0:Int) then
  none
 else
  if (0:Int) < (cr (ah - (cr ((0:Int) - (0:Int))))) then
   (yD ([]:List al) (0:Int) (0:Int)).bind fun l3=>
   (S5 [] (cr (ah - (cr ((0:Int) - (0:Int))))) (cr (ah - (cr ((0:Int) - (0:Int)))))).bind fun l4=>
   (yD l4 (0:Int) (0:Int)).bind fun l6=>
   dn l6
  else
   dn []
def bC (aa:List (List al)) (zQ:List al) (n13:Int):Option (((List al)×Int)⊕(List al)):=
 if n13 < (aa.length:Int) then
  (idx aa n13).bind fun xy=>
  (app zQ xy).bind fun AL=>
  some (.inl (AL,cr (n13+(1:Int))))
 else
  Option.map .inr (some zQ)
def lf (aa:List (List al)) (zQ:List al) (n13:Int):Option (List al):=
 iter (fun x:(List al)×Int=>bC aa x.1 x.2) (zQ,n13)
def gY (aa:List (List al)) (n3:Int):Option (List al):=
 (dL n3).bind fun v6=>
 lf aa v6 (0:Int)
def ck (aa:List (List al)) (n3:Int) (n4:Int):Option ((Int×Int)⊕(List al)):=
 if n4 < (aa.length:Int) then
  (idx aa n4).bind fun v5=>
  if (cr (n3+(v5.length:Int))) < (0:Int) then
   none
  else
   some (.inl (cr (n3+(v5.length:Int)),cr (n4+(1:Int))))
 else
  Option.map .inr (gY aa n3)
def lg (aa:List (List al)) (n3:Int) (n4:Int):Option (List al):=
 iter (fun x:Int×Int=>ck aa x.1 x.2) (n3,n4)
def eA (aa:List (List al)):Option (List al):=
 lg aa (0:Int) (0:Int)
def ji (aa:al):Option Bool:=
 (nT aa).bind fun v1=>
 some (!v1)
def jj (c2:Bool):Option Bool:=
 some c2
def oO (aa:al) (ah:al):Option Bool:=
 (strings_CutSuffix aa ([42]:al)).bind fun v1=>
 if aa=ah then
  jj true
 else
  if v1.2=true then
   (strings_HasPrefix ah v1.1).bind fun v3=>
   jj v3
  else
   jj false
def iG (aa:al) (ah:al):Option Bool:=
 (oO aa ah).bind fun v1=>
 some v1
def nD (aa:List al) (ah:al):Option Bool:=
 (aZ aa (fun y0=>iG y0 ah)).bind fun v2=>
 some v2
def gb (aa:al) (ah:List al):Option Bool:=
 (nD ah aa).bind fun v1=>
 some (!v1)
def kr (aa:List al) (ah:List al):Option Bool:=
 (aZ ah (fun y0=>gb y0 aa)).bind fun v2=>
 some (!v2)
def nV (aa:List al) (ah:List al) (c4:Bool):Option (Bool×Int):=
 if c4=true then
  some (false,(2:Int))
 else
  (kr aa ah).bind fun v5=>
  some (v5,(0:Int))
def oP (aa:List al) (ah:List al):Option (Bool×Int):=
 (eA [aa,ah]).bind fun v1=>
 (aZ v1 (fun y0=>ji y0)).bind fun v3=>
 if v3=true then
  some (false,(5:Int))
 else
  nV aa ah ((decide ((50:Int) < (aa.length:Int)))||(decide ((50:Int) < (ah.length:Int))))
def r5 (c2:Bool):Option Bool:=
 some c2
def tP:Option Bool:=
 (oP [([97,46,42]:al)] [([97,46,98]:al)]).bind fun v1=>
 r5 ((decide (v1.2=(0:Int)))&&v1.1)
def jx (KJ:Bool):Option Bool:=
 some KJ
def gZ (v45:bu×Int) (n48:Int) (Tv:List an) (JZ:List bF) (KH:List bj) (J0:List bJ):Option Bool:=
 if v45.2=n48 then
  (vj v45.1 (⟨Tv,JZ,KH,J0⟩:bu)).bind fun v55=>
  if v55=true then
   (tP).bind fun Gz=>
   jx Gz
  else
   jx false
 else
  jx false
def eR (v2:bu×ag) (v3:(List aH)×ag) (v5:(List aM)×ag) (v7:al×ag) (v8:al×ag) (v35:Int) (Tw:Bool):Option Bool:=
 if Tw=true then
  some false
 else
  (je v2.1 v3.1 v5.1 v7.1 v8.1).bind fun v45=>
  if v35=(0:Int) then
   (vi v2.1 v3.1 v5.1 v7.1 v8.1).bind fun v53=>
   gZ v45 v53.2 v53.1.ak v53.1.ba v53.1.aL v53.1.aR
  else
   gZ v45 v35 [] [] [] []
def eS (v2:bu×ag) (v3:(List aH)×ag) (v5:(List aM)×ag) (v7:al×ag) (v8:al×ag) (v35:Int) (c37:Bool):Option Bool:=
 if c37=true then
  some false
 else
  (kh v2.1 v3.1 v5.1).bind fun v39=>
  if v39.2≠v35 then
   eR v2 v3 v5 v7 v8 v35 true
  else
   if v35=(0:Int) then
    (tO v2.1 v3.1 v5.1).bind fun Tu=>
    (ij v39.1 Tu).bind fun v44=>
    eR v2 v3 v5 v7 v8 v35 (!v44)
   else
    eR v2 v3 v5 v7 v8 v35 false
def eT (v2:bu×ag) (v3:(List aH)×ag) (v5:(List aM)×ag) (v7:al×ag) (v8:al×ag) (v9:al×ag) (n12:Int) (n13:Int) (n19:Int) (Tx:Bool):Option Bool:=
 if Tx=true then
  some false
 else
  (j0 v2.1 v3.1 v5.1 v7.1 v9.1).bind fun E5=>
  (gz [n12,n13]).bind fun v35=>
  (gz [v35,n19]).bind fun WH=>
  if E5.2≠WH then
   eS v2 v3 v5 v7 v8 v35 true
  else
   if WH=(0:Int) then
    (wU v2.1 v3.1 v5.1 v7.1 v9.1).bind fun J6=>
    eS v2 v3 v5 v7 v8 v35 (decide (E5.1≠J6))
   else
    eS v2 v3 v5 v7 v8 v35 false
def eU (v2:bu×ag) (v3:(List aH)×ag) (v5:(List aM)×ag) (v7:al×ag) (v8:al×ag) (v9:al×ag) (n12:Int) (n13:Int) (n19:Int):Option Bool:=
 (iX v2.1 v5.1 v7.1 v9.1).bind fun v30=>
 (gz [n13,n19]).bind fun v31=>
 if v30.2≠v31 then
  eT v2 v3 v5 v7 v8 v9 n12 n13 n19 true
 else
  if v31=(0:Int) then
   (rl v2.1 v5.1 v7.1 v9.1).bind fun v33=>
   eT v2 v3 v5 v7 v8 v9 n12 n13 n19 (decide (v30.1≠v33))
  else
   eT v2 v3 v5 v7 v8 v9 n12 n13 n19 false
def fR (v2:bu×ag) (v3:(List aH)×ag) (v5:(List aM)×ag) (v7:al×ag) (v8:al×ag) (v9:al×ag) (v11:Int) (n12:Int) (n13:Int) (Dn:Bool):Option Bool:=
 if Dn=true then
  some false
 else
  if v11=(0:Int) then
   (qx v2.1 v7.1).bind fun v20=>
   fc v20 (
    (pj v9.1).bind fun v22=>
    (gz [(sB true (8:Int)),v22]).bind fun v23=>
    eU v2 v3 v5 v7 v8 v9 n12 n13 v23) (fun WI=>
    (Ca WI).bind fun v25=>
    (pj v9.1).bind fun v26=>
    (gz [(sB false (8:Int)),v26]).bind fun zu=>
    eU v2 v3 v5 v7 v8 v9 n12 n13 zu)
  else
   (pj v9.1).bind fun v28=>
   (gz [(sB false (8:Int)),v28]).bind fun vv=>
   eU v2 v3 v5 v7 v8 v9 n12 n13 vv
def hC (v2:bu×ag) (v3:(List aH)×ag) (v5:(List aM)×ag) (v7:al×ag) (v8:al×ag) (v9:al×ag) (v11:Int) (n12:Int) (n13:Int):Option Bool:=
 (fQ v2.1 v3.1).bind fun v17=>
 if v17≠n12 then
  fR v2 v3 v5 v7 v8 v9 v11 n12 n13 true
 else
  (fo v2.1 v5.1).bind fun uO=>
  fR v2 v3 v5 v7 v8 v9 v11 n12 n13 (decide (uO≠n13))
def lZ (aa:List Int):Option Bool:=
 (tF (⟨aa,(0:Int)⟩:ag)).bind fun v2=>
 (oz v2.2).bind fun v3=>
 (nf v3.2).bind fun v5=>
 (bH v5.2 [([116,97]:al),([116,98]:al),([116,99]:al),([110,111,110,101]:al)]).bind fun v7=>
 (bH v7.2 [([]:al),([116,97]:al),([116,100]:al),([116,99]:al),([110,111,110,101]:al)]).bind fun v8=>
 (bH v8.2 [([99,112,117]:al),([100,101,118]:al),([65]:al)]).bind fun v9=>
 (rj v2.1).bind fun v11=>
 if v11=(0:Int) then
  (oI v2.1 v3.1).bind fun xy=>
  (nj v2.1 v5.1).bind fun lB=>
  hC v2 v3 v5 v7 v8 v9 v11 xy lB
 else
  hC v2 v3 v5 v7 v8 v9 v11 v11 v11
end
end Go.Beacon
