/- Plain functions that the Go functions compute, written by shal.py. -/
import Derived.Test.YtnchkajkgjkpmaaGreatDoorCore
set_option linter.unusedVariables false
namespace Go.Beacon
open Go Go.Eng
noncomputable section
structure ab where
 L:List Int
 at_:Int
deriving DecidableEq,Inhabited
structure ar where
 Key:ae
 fi:ae
deriving DecidableEq,Inhabited
def ar.av (x:ar):AV:=.agg [.str x.Key,.str x.fi]
structure bN where
 Key:ae
 lI:List ae
deriving DecidableEq,Inhabited
def bN.av (x:bN):AV:=.agg [.str x.Key,.list 1 (x.lI.map AV.str)]
structure aK where
 lV:ae
 ar:ae
 bN:ae
deriving DecidableEq,Inhabited
def aK.av (x:aK):AV:=.agg [.str x.lV,.str x.ar,.str x.bN]
structure a8 where
 Kind:Int
 bV:Bool
 Number:Int
 Words:ae
deriving DecidableEq,Inhabited
def a8.av (x:a8):AV:=.agg [I x.Kind,.bool x.bV,I x.Number,.str x.Words]
structure Version where
 bH:Int
 bI:Int
 bF:Int
deriving DecidableEq,Inhabited
def Version.av (x:Version):AV:=.agg [I x.bH,I x.bI,I x.bF]
structure Query where
 Kind:Int
 Field:ae
 Op:ae
 Value:a8
 Version:Version
 Kids:List Query
instance:Inhabited Query:=⟨⟨default,default,default,default,default,[]⟩⟩
mutual
def Query.av:Query→AV
 | ⟨PZ,MF,Yc,Br,zo,P0⟩=>.agg [I PZ,.str MF,.str Yc,I Br.Kind,.bool Br.bV,I Br.Number,.str Br.Words,I zo.bH,I zo.bI,I zo.bF,.list 11 (Query.mZ P0)]
def Query.mZ:List Query→List AV
 | []=>[]
 | x :: r=>Query.av x :: Query.mZ r
end
theorem Query.P1:∀ l:List Query,Query.mZ l=l.map Query.av
 | []=>by simp [Query.mZ]
 | x :: r=>by rw [Query.mZ,Query.P1 r,List.map_cons]
theorem Query.tN (x:Query):Query.av x=.agg [I x.Kind,.str x.Field,.str x.Op,I x.Value.Kind,.bool x.Value.bV,I x.Value.Number,.str x.Value.Words,I x.Version.bH,I x.Version.bI,I x.Version.bF,.list 11 (x.Kids.map Query.av)]:=by
 obtain ⟨PZ,MF,Yc,Br,zo,P0⟩:=x
 rw [Query.av,Query.P1]
structure oC where
 jj:Int
 To:Int
deriving DecidableEq,Inhabited
def oC.av (x:oC):AV:=.agg [I x.jj,I x.To]
structure bA where
 Key:ae
 jj:ae
 To:ae
 Query:Query
 lI:List ae
 Time:oC
deriving Inhabited
def bA.av (x:bA):AV:=.agg [.str x.Key,.str x.jj,.str x.To,I x.Query.Kind,.str x.Query.Field,.str x.Query.Op,I x.Query.Value.Kind,.bool x.Query.Value.bV,I x.Query.Value.Number,.str x.Query.Value.Words,I x.Query.Version.bH,I x.Query.Version.bI,I x.Query.Version.bF,.list 11 (x.Query.Kids.map Query.av),.list 1 (x.lI.map AV.str),I x.Time.jj,I x.Time.To]
structure bb where
 al:List ar
 bj:List bN
 aD:List aK
 aI:List bA
deriving Inhabited
def bb.av (x:bb):AV:=.agg [.list 2 (x.al.map ar.av),.list 2 (x.bj.map bN.av),.list 3 (x.aD.map aK.av),.list 17 (x.aI.map bA.av)]
structure jk where
 Name:ae
 Value:ae
deriving DecidableEq,Inhabited
def jk.av (x:jk):AV:=.agg [.str x.Name,.str x.Value]
structure HI where
 Key:ae
 Model:ae
 ar:ae
 dO:Version
 kO:List jk
deriving DecidableEq,Inhabited
structure ew where
 Name:ae
 Value:a8
deriving DecidableEq,Inhabited
def ew.av (x:ew):AV:=.agg [.str x.Name,I x.Value.Kind,.bool x.Value.bV,I x.Value.Number,.str x.Value.Words]
structure aE where
 Device:HI
 ey:List ew
deriving DecidableEq,Inhabited
def aE.av (x:aE):AV:=.agg [.str x.Device.Key,.str x.Device.Model,.str x.Device.ar,I x.Device.dO.bH,I x.Device.dO.bI,I x.Device.dO.bF,.list 2 (x.Device.kO.map jk.av),.list 5 (x.ey.map ew.av)]
structure aX where
 a_:ae
 b_:ae
deriving DecidableEq,Inhabited
def aX.av (x:aX):AV:=.agg [.str x.a_,.str x.b_]
instance:CT aX:=⟨fun a b=>(CT.lt a.a_ b.a_||(decide (a.a_=b.a_)&&(CT.lt a.b_ b.b_||(decide (a.b_=b.b_)&&false))))⟩
structure ak where
 bb:bb
 aW:List (ae×ae)
 cT:List (ae×(List ae))
 at_:List (ae×(List Int))
 cG:List (aX×(List Int))
 im:List (aX×Bool)
deriving Inhabited
structure Reason where
 aK:Int
 bA:ae
deriving DecidableEq,Inhabited
def Reason.av (x:Reason):AV:=.agg [I x.aK,.str x.bA]
structure bq where
 Is:Bool
 Value:a8
 Version:Version
deriving DecidableEq,Inhabited
def bq.av (x:bq):AV:=.agg [.bool x.Is,I x.Value.Kind,.bool x.Value.bV,I x.Value.Number,.str x.Value.Words,I x.Version.bH,I x.Version.bI,I x.Version.bF]
def yE (n2:Int):Option Int:=
 some n2
def Below (aa:Int) (ah:Int):Option Int:=
 if ah < (1:Int) then
  some (0:Int)
 else
  (rem aa ah).bind fun n1=>
  if n1 < (0:Int) then
   yE (cr (n1+ah))
  else
   yE n1
def cH (aa:ab) (ah:Int):Option (Int×ab):=
 if (aa.L.length:Int)=(0:Int) then
  (Below (cr ((cr (aa.at_+(1:Int))) * (7919:Int))) ah).bind fun v1=>
  some (v1,(⟨aa.L,cr (aa.at_+(1:Int))⟩:ab))
 else
  (rem (cr ((cr (aa.at_+(1:Int))) - (1:Int))) (aa.L.length:Int)).bind fun n2=>
  (quo (cr ((cr (aa.at_+(1:Int))) - (1:Int))) (aa.L.length:Int)).bind fun n3=>
  (idx aa.L n2).bind fun v4=>
  (Below v4 (1073741824:Int)).bind fun v5=>
  (Below (cr (v5+(cr (n3 * (cr ((7919:Int)+n2)))))) ah).bind fun v6=>
  some (v6,(⟨aa.L,cr (aa.at_+(1:Int))⟩:ab))
def bx (aa:ab) (ah:List ae):Option (ae×ab):=
 (cH aa (ah.length:Int)).bind fun v1=>
 (idx ah v1.1).bind fun v2=>
 some (v2,v1.2)
def oD (aa:ab):Option ((List ae)×ab):=
 (cH aa (5:Int)).bind fun v1=>
 (idx [[([42]:ae)],[([100,101,118,105,99,101,46,42]:ae)],[([100,101,118,105,99,101,46,114,101,97,100]:ae)],[([100,101,118,105,99,101,46,114,101,97,100]:ae),([111,114,103,46,42]:ae)],[([100,101,118,105,99,101,46,114,101,97,100]:ae),([100,101,118,105,99,101,46,119,114,105,116,101]:ae)]] v1.1).bind fun v2=>
 some (v2,v1.2)
def dp (aa:ab) (ah:Int):Option (Bool×ab):=
 (cH aa ah).bind fun v1=>
 some (decide (v1.1=(0:Int)),v1.2)
def ch (aa:ab) (ah:List Int):Option (Int×ab):=
 (cH aa (ah.length:Int)).bind fun v1=>
 (idx ah v1.1).bind fun v2=>
 some (v2,v1.2)
def gz (aa:ab):Option (ae×ab):=
 (bx aa [([61,61]:ae),([61,61]:ae),([33,61]:ae)]).bind fun v1=>
 some (v1.1,v1.2)
def iR (aa:List ae) (ah:ab):Option (a8×ab):=
 (bx ah aa).bind fun v2=>
 some ((⟨(3:Int),false,(0:Int),v2.1⟩:a8),v2.2)
def wQ:(List ae):=
 [([61,61]:ae),([33,61]:ae),([60,61]:ae),([62,61]:ae),([60]:ae),([62]:ae)]
def qG (aa:ab):Option (Query×ab):=
 (cH aa (8:Int)).bind fun v3=>
 if v3.1=(0:Int) then
  (bx v3.2 [([116,97,103,46,115,105,116,101]:ae),([116,97,103,46,111,112,101,110]:ae),([112,114,111,112,46,97]:ae),([112,114,111,112,46,102,97,110,46,111,110]:ae)]).bind fun v4=>
  some ((⟨(2:Int),v4.1,[],(⟨(0:Int),false,(0:Int),[]⟩:a8),(⟨(0:Int),(0:Int),(0:Int)⟩:Version),[]⟩:Query),v4.2)
 else
  if v3.1=(1:Int) then
   (gz v3.2).bind fun v5=>
   (iR [([100,97]:ae),([100,98]:ae),([102,114,101,115,104]:ae)] v5.2).bind fun v6=>
   some ((⟨(1:Int),([107,101,121]:ae),v5.1,v6.1,(⟨(0:Int),(0:Int),(0:Int)⟩:Version),[]⟩:Query),v6.2)
  else
   if v3.1=(2:Int) then
    (bx v3.2 [([109,111,100,101,108]:ae),([116,101,110,97,110,116]:ae)]).bind fun v7=>
    (gz v7.2).bind fun v8=>
    (iR [([109,97]:ae),([116,97]:ae),([]:ae),([81]:ae)] v8.2).bind fun v9=>
    some ((⟨(1:Int),v7.1,v8.1,v9.1,(⟨(0:Int),(0:Int),(0:Int)⟩:Version),[]⟩:Query),v9.2)
   else
    if v3.1=(3:Int) then
     (bx v3.2 wQ).bind fun v10=>
     (cH v10.2 (2:Int)).bind fun v11=>
     (ch v11.2 [(0:Int),(2:Int)]).bind fun v12=>
     (ch v12.2 [(0:Int),(0:Int),(9999:Int)]).bind fun mb=>
     some ((⟨(1:Int),([102,105,114,109,119,97,114,101]:ae),v10.1,(⟨(0:Int),false,(0:Int),[]⟩:a8),(⟨v11.1,v12.1,mb.1⟩:Version),[]⟩:Query),mb.2)
    else
     if v3.1=(4:Int) then
      (gz v3.2).bind fun lW=>
      (iR [([120]:ae),([121]:ae),([97,34,98,92,99]:ae),([]:ae)] lW.2).bind fun FO=>
      some ((⟨(1:Int),([116,97,103,46,115,105,116,101]:ae),lW.1,FO.1,(⟨(0:Int),(0:Int),(0:Int)⟩:Version),[]⟩:Query),FO.2)
     else
      if v3.1=(5:Int) then
       (gz v3.2).bind fun dU=>
       (dp dU.2 (2:Int)).bind fun v17=>
       some ((⟨(1:Int),([112,114,111,112,46,102,97,110,46,111,110]:ae),dU.1,(⟨(1:Int),v17.1,(0:Int),[]⟩:a8),(⟨(0:Int),(0:Int),(0:Int)⟩:Version),[]⟩:Query),v17.2)
      else
       if v3.1=(6:Int) then
        (gz v3.2).bind fun fH=>
        (iR [([120]:ae),([]:ae)] fH.2).bind fun dI=>
        some ((⟨(1:Int),([112,114,111,112,46,97]:ae),fH.1,dI.1,(⟨(0:Int),(0:Int),(0:Int)⟩:Version),[]⟩:Query),dI.2)
       else
        (bx v3.2 wQ).bind fun v20=>
        (ch v20.2 [(0:Int),(5:Int),(6:Int),(-5:Int)]).bind fun v21=>
        some ((⟨(1:Int),([112,114,111,112,46,97]:ae),v20.1,(⟨(2:Int),false,v21.1,[]⟩:a8),(⟨(0:Int),(0:Int),(0:Int)⟩:Version),[]⟩:Query),v21.2)
def gi (n22:Int) (v24:Query×ab) (EE:List Query):Option (((List Int)×Int×(List Query)×Int)⊕(Query×ab)):=
 some (.inl (v24.2.L,v24.2.at_,EE,cr (n22+(1:Int))))
def k6 (IJ:List Query) (n22:Int) (v24:Query×ab) (OE:Bool):Option (((List Int)×Int×(List Query)×Int)⊕(Query×ab)):=
 if OE=true then
  (app IJ v24.1.Kids).bind fun B7=>
  gi n22 v24 B7
 else
  (app IJ [v24.1]).bind fun Bs=>
  gi n22 v24 Bs
def iS (self:ab→Int→Option (Query×ab)) (ah:Int) (v7:Int×ab) (n11:Int) (AY:List Int) (n19:Int) (IJ:List Query) (n22:Int):Option (((List Int)×Int×(List Query)×Int)⊕(Query×ab)):=
 if n22 < n11 then
  (self (⟨AY,n19⟩:ab) (cr (ah - (1:Int)))).bind fun v24=>
  k6 IJ n22 v24 ((decide (v24.1.Kind=v7.1))&&(decide (v7.1≠(3:Int))))
 else
  Option.map .inr (some ((⟨v7.1,[],[],(⟨(0:Int),false,(0:Int),[]⟩:a8),(⟨(0:Int),(0:Int),(0:Int)⟩:Version),IJ⟩:Query),(⟨AY,n19⟩:ab)))
def oE (self:ab→Int→Option (Query×ab)) (ah:Int) (v7:Int×ab) (n11:Int) (AY:List Int) (n19:Int) (IJ:List Query) (n22:Int):Option (Query×ab):=
 iter (fun x:(List Int)×Int×(List Query)×Int=>iS self ah v7 n11 x.1 x.2.1 x.2.2.1 x.2.2.2) (AY,n19,IJ,n22)
def gj (self:ab→Int→Option (Query×ab)) (ah:Int) (v7:Int×ab) (l9:List Int) (n10:Int) (n11:Int):Option (Query×ab):=
 oE self ah v7 n11 l9 n10 [] (0:Int)
def gm (self:ab→Int→Option (Query×ab)) (ah:Int) (l2:List Int) (n3:Int) (c4:Bool):Option (Query×ab):=
 if c4=true then
  (qG (⟨l2,n3⟩:ab)).bind fun v6=>
  some (v6.1,v6.2)
 else
  (ch (⟨l2,n3⟩:ab) [(3:Int),(4:Int),(5:Int)]).bind fun v7=>
  if v7.1≠(3:Int) then
   (ch v7.2 [(2:Int),(2:Int),(3:Int)]).bind fun v12=>
   gj self ah v7 v12.2.L v12.2.at_ v12.1
  else
   gj self ah v7 v7.2.L v7.2.at_ (1:Int)
def fj (self:ab→Int→Option (Query×ab)) (aa:ab) (ah:Int):Option (Query×ab):=
 if ah=(0:Int) then
  gm self ah aa.L aa.at_ true
 else
  (dp aa (3:Int)).bind fun v5=>
  gm self ah v5.2.L v5.2.at_ v5.1
def ez:Nat→ab→Int→Option (Query×ab)
 | 0=>fun _ _=>none
 | k+1=>fj (ez k)
def rn (aa:ab) (ah:Int):Option (Query×ab):=
 ez depth aa ah
def j9 (n39:Int) (v41:Bool×ab) (Dm:List aK):Option (((List Int)×Int×(List aK)×Int)⊕(((List Int)×Int×(List aK)×Int)⊕(((List Int)×Int×(List aK)×Int)⊕(bb×ab)))):=
 some (.inl (v41.2.L,v41.2.at_,Dm,cr (n39+(1:Int))))
def ke (fH:ae) (n28:Int) (EF:ae) (AE:List Int) (n36:Int) (Fx:List aK) (n39:Int):Option (((List Int)×Int×(List aK)×Int)⊕(((List Int)×Int×(List aK)×Int)⊕(((List Int)×Int×(List aK)×Int)⊕(bb×ab)))):=
 if n39 < ([([97,100,109,105,110]:ae),([101,100,105,116]:ae),([114,101,97,100]:ae)].length:Int) then
  (idx [([97,100,109,105,110]:ae),([101,100,105,116]:ae),([114,101,97,100]:ae)] n39).bind fun v40=>
  (dp (⟨AE,n36⟩:ab) (7:Int)).bind fun v41=>
  if v41.1=true then
   (app Fx [(⟨fH,EF,v40⟩:aK)]).bind fun Lp=>
   j9 n39 v41 Lp
  else
   j9 n39 v41 Fx
 else
  Option.map .inr (some (.inl (AE,n36,Fx,cr (n28+(1:Int)))))
def qo (fH:ae) (n28:Int) (EF:ae) (AE:List Int) (n36:Int) (Fx:List aK) (n39:Int):Option (((List Int)×Int×(List aK)×Int)⊕(((List Int)×Int×(List aK)×Int)⊕(bb×ab))):=
 iter (fun x:(List Int)×Int×(List aK)×Int=>ke fH n28 EF x.1 x.2.1 x.2.2.1 x.2.2.2) (AE,n36,Fx,n39)
def kf (n16:Int) (fH:ae) (yd:List Int) (n25:Int) (AF:List aK) (n28:Int):Option (((List Int)×Int×(List aK)×Int)⊕(((List Int)×Int×(List aK)×Int)⊕(bb×ab))):=
 if n28 < ([([116,97]:ae),([116,98]:ae),([116,99]:ae),([116,100]:ae)].length:Int) then
  (idx [([116,97]:ae),([116,98]:ae),([116,99]:ae),([116,100]:ae)] n28).bind fun EF=>
  qo fH n28 EF yd n25 AF (0:Int)
 else
  Option.map .inr (some (.inl (yd,n25,AF,cr (n16+(1:Int)))))
def qp (n16:Int) (fH:ae) (yd:List Int) (n25:Int) (AF:List aK) (n28:Int):Option (((List Int)×Int×(List aK)×Int)⊕(bb×ab)):=
 iter (fun x:(List Int)×Int×(List aK)×Int=>kf n16 fH x.1 x.2.1 x.2.2.1 x.2.2.2) (yd,n25,AF,n28)
def iq (DR:Int) (DS:List Int) (n60:Int) (EG:List bA):Option (((List Int)×Int×(List bA)×Int)⊕(bb×ab)):=
 some (.inl (DS,n60,EG,cr (DR+(1:Int))))
def ir (Fy:List bA) (DR:Int) (KN:ae) (Lq:Int×ab) (v66:Query×ab) (v67:(List ae)×ab) (DT:Int×ab) (v70:Bool×ab) (Wv:ae) (Ww:ae):Option (((List Int)×Int×(List bA)×Int)⊕(bb×ab)):=
 (app Fy [(⟨KN,Wv,Ww,v66.1,v67.1,(⟨Lq.1,cr (Lq.1+DT.1)⟩:oC)⟩:bA)]).bind fun Rr=>
 iq DR v70.2.L v70.2.at_ Rr
def kh (v2:ae×ab) (v5:(List ae)×ab) (qq:List aK) (EH:List Int) (n52:Int) (Fy:List bA) (DR:Int):Option (((List Int)×Int×(List bA)×Int)⊕(bb×ab)):=
 if DR < ([([115,97]:ae),([115,98]:ae)].length:Int) then
  (idx [([115,97]:ae),([115,98]:ae)] DR).bind fun KN=>
  (dp (⟨EH,n52⟩:ab) (2:Int)).bind fun v58=>
  if v58.1=true then
   (ch v58.2 [(0:Int),(20:Int),(50:Int)]).bind fun Lq=>
   (bx Lq.2 [([116,97]:ae),([116,98]:ae)]).bind fun v64=>
   (ch v64.2 [(0:Int),(1:Int)]).bind fun v65=>
   (rn v65.2 v65.1).bind fun v66=>
   (oD v66.2).bind fun v67=>
   (ch v67.2 [(0:Int),(30:Int),(100:Int)]).bind fun DT=>
   (dp DT.2 (3:Int)).bind fun v70=>
   if v70.1=true then
    ir Fy DR KN Lq v66 v67 DT v70 ([116,100]:ae) v64.1
   else
    ir Fy DR KN Lq v66 v67 DT v70 v64.1 ([116,100]:ae)
  else
   iq DR v58.2.L v58.2.at_ Fy
 else
  Option.map .inr (some ((⟨[(⟨([116,97]:ae),[]⟩:ar),(⟨([116,98]:ae),([116,97]:ae)⟩:ar),(⟨([116,99]:ae),v2.1⟩:ar),(⟨([116,100]:ae),[]⟩:ar)],[(⟨([97,100,109,105,110]:ae),[([42]:ae)]⟩:bN),(⟨([101,100,105,116]:ae),v5.1⟩:bN),(⟨([114,101,97,100]:ae),[([100,101,118,105,99,101,46,114,101,97,100]:ae)]⟩:bN)],qq,Fy⟩:bb),(⟨EH,n52⟩:ab)))
def qs (v2:ae×ab) (v5:(List ae)×ab) (qq:List aK) (EH:List Int) (n52:Int) (Fy:List bA) (DR:Int):Option (bb×ab):=
 iter (fun x:(List Int)×Int×(List bA)×Int=>kh v2 v5 qq x.1 x.2.1 x.2.2.1 x.2.2.2) (EH,n52,Fy,DR)
def kj (v2:ae×ab) (v5:(List ae)×ab) (ye:List Int) (n13:Int) (qq:List aK) (n16:Int):Option (((List Int)×Int×(List aK)×Int)⊕(bb×ab)):=
 if n16 < ([([97,110,110]:ae),([98,111,98]:ae)].length:Int) then
  (idx [([97,110,110]:ae),([98,111,98]:ae)] n16).bind fun fH=>
  qp n16 fH ye n13 qq (0:Int)
 else
  Option.map .inr (qs v2 v5 qq ye n13 [] (0:Int))
def u7 (v2:ae×ab) (v5:(List ae)×ab) (ye:List Int) (n13:Int) (qq:List aK) (n16:Int):Option (bb×ab):=
 iter (fun x:(List Int)×Int×(List aK)×Int=>kj v2 v5 x.1 x.2.1 x.2.2.1 x.2.2.2) (ye,n13,qq,n16)
def nf (aa:ab):Option (bb×ab):=
 (bx aa [([116,98]:ae),([116,97]:ae),([]:ae)]).bind fun v2=>
 (oD v2.2).bind fun v5=>
 u7 v2 v5 v5.2.L v5.2.at_ [] (0:Int)
def ru (aa:ab) (ah:Int) (aT:Int):Option (Int×ab):=
 if aT < ah then
  some (ah,aa)
 else
  (cH aa (cr ((cr (aT - ah))+(1:Int)))).bind fun v1=>
  some (cr (ah+v1.1),v1.2)
def oF (aa:ab) (ah:Int) (aT:Int):Option (Int×ab):=
 (dp aa (12:Int)).bind fun v1=>
 if v1.1=true then
  (ch v1.2 [cr (ah - (1:Int)),cr (aT+(1:Int)),ah,aT,(-1099511627776:Int),(1099511627776:Int)]).bind fun v2=>
  some (v2.1,v2.2)
 else
  (ru v1.2 ah aT).bind fun v3=>
  some (v3.1,v3.2)
def iG (aa:List Query):Option (List Query):=
 app [] aa
def ng (l6:List Int) (n7:Int) (n8:Int) (q9:ae) (MG:ae) (n11:Int) (c12:Bool) (n13:Int) (OF:ae) (n15:Int) (n16:Int) (n17:Int) (AY:List Query):Option (Query×ab):=
 some ((⟨n8,q9,MG,(⟨n11,c12,n13,OF⟩:a8),(⟨n15,n16,n17⟩:Version),AY⟩:Query),(⟨l6,n7⟩:ab))
def pY (B8:List Int) (n21:Int) (n22:Int) (Wx:ae) (Wy:ae) (n25:Int) (OE:Bool) (n27:Int) (Uc:ae) (n29:Int) (n30:Int) (n31:Int) (Ac:List Query):Option (Query×ab):=
 ng B8 n21 n22 Wx Wy n25 OE n27 Uc n29 n30 n31 Ac
def pZ (EI:List Int) (n35:Int) (n36:Int) (Wz:ae) (WA:ae) (n39:Int) (c40:Bool) (n41:Int) (WB:ae) (n43:Int) (n44:Int) (n45:Int) (OG:List Query):Option (Query×ab):=
 pY EI n35 n36 Wz WA n39 c40 n41 WB n43 n44 n45 OG
def p9 (WC:List Int) (n49:Int) (n50:Int) (WD:ae) (WE:ae) (OH:Int) (WG:Bool) (DR:Int) (WH:ae) (n57:Int) (WI:Int) (n59:Int) (DU:List Query):Option (Query×ab):=
 pZ WC n49 n50 WD WE OH WG DR WH n57 WI n59 DU
def qa (EG:List Int) (NT:Int) (WJ:Int) (NU:ae) (WK:ae) (WL:Int) (WM:Bool) (n69:Int) (WN:ae) (WO:Int) (NV:Int) (WQ:Int) (MH:List Query):Option (Query×ab):=
 p9 EG NT WJ NU WK WL WM n69 WN WO NV WQ MH
def qd (MI:List Int) (WR:Int) (WS:Int) (WT:ae) (WU:ae) (NW:Int) (WV:Bool) (NX:Int) (WW:ae) (WX:Int) (WY:Int) (WZ:Int) (Rt:List Query):Option (Query×ab):=
 qa MI WR WS WT WU NW WV NX WW WX WY WZ Rt
def nh (Lr:Int×ab) (n108:Int) (JE:ae) (JF:ae) (n111:Int) (JG:Bool) (n113:Int) (JH:ae) (n115:Int) (n116:Int) (n117:Int) (JI:List Query) (n119:Int):Option ((Int×ae×ae×Int×Bool×Int×ae×Int×Int×Int×(List Query)×Int)⊕(Query×ab)):=
 if n119 < Lr.1 then
  some (.inl ((3:Int),[],[],(0:Int),false,(0:Int),[],(0:Int),(0:Int),(0:Int),[(⟨n108,JE,JF,(⟨n111,JG,n113,JH⟩:a8),(⟨n115,n116,n117⟩:Version),JI⟩:Query)],cr (n119+(1:Int))))
 else
  Option.map .inr (qd Lr.2.L Lr.2.at_ n108 JE JF n111 JG n113 JH n115 n116 n117 JI)
def xU (Lr:Int×ab) (n108:Int) (JE:ae) (JF:ae) (n111:Int) (JG:Bool) (n113:Int) (JH:ae) (n115:Int) (n116:Int) (n117:Int) (JI:List Query) (n119:Int):Option (Query×ab):=
 iter (fun x:Int×ae×ae×Int×Bool×Int×ae×Int×Int×Int×(List Query)×Int=>nh Lr x.1 x.2.1 x.2.2.1 x.2.2.2.1 x.2.2.2.2.1 x.2.2.2.2.2.1 x.2.2.2.2.2.2.1 x.2.2.2.2.2.2.2.1 x.2.2.2.2.2.2.2.2.1 x.2.2.2.2.2.2.2.2.2.1 x.2.2.2.2.2.2.2.2.2.2.1 x.2.2.2.2.2.2.2.2.2.2.2) (n108,JE,JF,n111,JG,n113,JH,n115,n116,n117,JI,n119)
def ry (aa:ab):Option (Query×ab):=
 (ch aa [(0:Int),(1:Int),(1:Int),(2:Int)]).bind fun v2=>
 (rn v2.2 v2.1).bind fun v3=>
 (dp v3.2 (12:Int)).bind fun v5=>
 if v5.1=true then
  (cH v5.2 (6:Int)).bind fun dI=>
  if dI.1=(0:Int) then
   (oF dI.2 (1:Int) (5:Int)).bind fun v33=>
   pY v33.2.L v33.2.at_ v33.1 v3.1.Field v3.1.Op v3.1.Value.Kind v3.1.Value.bV v3.1.Value.Number v3.1.Value.Words v3.1.Version.bH v3.1.Version.bI v3.1.Version.bF v3.1.Kids
  else
   if dI.1=(1:Int) then
    (bx dI.2 [([]:ae),([110,111,112,101]:ae),([116,97,103,46]:ae),([116,97,103,46,65]:ae),([112,114,111,112,46,97,46]:ae),([107,101,121]:ae),([102,105,114,109,119,97,114,101]:ae)]).bind fun FP=>
    pZ FP.2.L FP.2.at_ v3.1.Kind FP.1 v3.1.Op v3.1.Value.Kind v3.1.Value.bV v3.1.Value.Number v3.1.Value.Words v3.1.Version.bH v3.1.Version.bI v3.1.Version.bF v3.1.Kids
   else
    if dI.1=(2:Int) then
     (bx dI.2 [([]:ae),([61]:ae),([60]:ae),([61,61]:ae)]).bind fun Ad=>
     p9 Ad.2.L Ad.2.at_ v3.1.Kind v3.1.Field Ad.1 v3.1.Value.Kind v3.1.Value.bV v3.1.Value.Number v3.1.Value.Words v3.1.Version.bH v3.1.Version.bI v3.1.Version.bF v3.1.Kids
    else
     if dI.1=(3:Int) then
      (cH dI.2 (5:Int)).bind fun v75=>
      (idx [(⟨(0:Int),false,(0:Int),[]⟩:a8),(⟨(9:Int),false,(0:Int),[]⟩:a8),(⟨(1:Int),false,(1:Int),[]⟩:a8),(⟨(3:Int),false,(0:Int),([255]:ae)⟩:a8),(⟨(2:Int),false,(1000000001:Int),[]⟩:a8)] v75.1).bind fun v76=>
      qa v75.2.L v75.2.at_ v3.1.Kind v3.1.Field v3.1.Op v76.Kind v76.bV v76.Number v76.Words v3.1.Version.bH v3.1.Version.bI v3.1.Version.bF v3.1.Kids
     else
      if dI.1=(4:Int) then
       (iG v3.1.Kids).bind fun v90=>
       (qG dI.2).bind fun Fz=>
       (app v90 [Fz.1]).bind fun Vi=>
       qd Fz.2.L Fz.2.at_ v3.1.Kind v3.1.Field v3.1.Op v3.1.Value.Kind v3.1.Value.bV v3.1.Value.Number v3.1.Value.Words v3.1.Version.bH v3.1.Version.bI v3.1.Version.bF Vi
      else
       (ch dI.2 [(18:Int),(19:Int),(20:Int)]).bind fun Lr=>
       xU Lr v3.1.Kind v3.1.Field v3.1.Op v3.1.Value.Kind v3.1.Value.bV v3.1.Value.Number v3.1.Value.Words v3.1.Version.bH v3.1.Version.bI v3.1.Version.bF v3.1.Kids (0:Int)
 else
  ng v5.2.L v5.2.at_ v3.1.Kind v3.1.Field v3.1.Op v3.1.Value.Kind v3.1.Value.bV v3.1.Value.Number v3.1.Value.Words v3.1.Version.bH v3.1.Version.bI v3.1.Version.bF v3.1.Kids
def rz (l6:List Int) (n7:Int) (n8:Int) (n9:Int):Option (oC×ab):=
 some ((⟨n8,n9⟩:oC),(⟨l6,n7⟩:ab))
def tO (aa:ab):Option (oC×ab):=
 (ch aa [(0:Int),(5:Int),(30:Int),(100:Int)]).bind fun v2=>
 (ch v2.2 [(30:Int),(100:Int),(250:Int),(1000:Int),(345686400000:Int)]).bind fun v3=>
 (dp v3.2 (20:Int)).bind fun v5=>
 if v5.1=true then
  (ch v5.2 [(-1:Int),(10:Int)]).bind fun v10=>
  (ch v10.2 [(9:Int),(345686400001:Int)]).bind fun v11=>
  rz v11.2.L v11.2.at_ v10.1 v11.1
 else
  rz v5.2.L v5.2.at_ v2.1 v3.1
def pG (l9:List Int) (n10:Int) (ye:List ar) (xh:List bN) (Ud:List aK) (AY:List bA):Option (bb×ab):=
 some ((⟨ye,xh,Ud,AY⟩:bb),(⟨l9,n10⟩:ab))
def ta (B8:List Int) (n21:Int) (MJ:List ar) (Ls:List bN) (AF:List aK) (B7:List bA):Option (bb×ab):=
 pG B8 n21 MJ Ls AF B7
def tb (EJ:List Int) (n34:Int) (Dn:List ar) (Fx:List bN) (B9:List aK) (HJ:List bA):Option (bb×ab):=
 ta EJ n34 Dn Fx B9 HJ
def tc (v2:bb×ab) (HK:List Int) (n48:Int) (Vj:List bN) (NY:List aK) (Fy:List bA):Option (bb×ab):=
 tb HK n48 v2.1.al Vj NY Fy
def td (v2:bb×ab) (DU:List Int) (n61:Int) (Vk:List aK) (Vl:List bA):Option (bb×ab):=
 tc v2 DU n61 v2.1.bj Vk Vl
def te (v2:bb×ab) (W0:List Int) (NV:Int) (MH:List bA):Option (bb×ab):=
 td v2 W0 NV v2.1.aD MH
def tf (v2:bb×ab) (W1:List Int) (NX:Int) (Vm:List bA):Option (bb×ab):=
 te v2 W1 NX Vm
def u9 (aa:ab):Option (bb×ab):=
 (nf aa).bind fun v2=>
 (dp v2.2 (10:Int)).bind fun v8=>
 if v8.1=true then
  (cH v8.2 (6:Int)).bind fun dI=>
  if dI.1=(0:Int) then
   (cH dI.2 (4:Int)).bind fun v30=>
   (bx v30.2 [([116,99]:ae),([116,97]:ae),([110,111,110,101]:ae),([116,98]:ae)]).bind fun v31=>
   (idx v2.1.al v30.1).bind fun v32=>
   ta v31.2.L v31.2.at_ (v2.1.al.set v30.1.toNat (⟨v32.Key,v31.1⟩:ar)) v2.1.bj v2.1.aD v2.1.aI
  else
   if dI.1=(1:Int) then
    (bx dI.2 [([]:ae),([116,97]:ae),([116,122]:ae)]).bind fun P2=>
    (bx P2.2 [([]:ae),([116,100]:ae)]).bind fun v44=>
    (app v2.1.al [(⟨P2.1,v44.1⟩:ar)]).bind fun Lt=>
    tb v44.2.L v44.2.at_ Lt v2.1.bj v2.1.aD v2.1.aI
   else
    if dI.1=(2:Int) then
     (bx dI.2 [([]:ae),([114,101,97,100]:ae),([122,122]:ae)]).bind fun v55=>
     (cH v55.2 (6:Int)).bind fun KO=>
     (idx [[],[([97,42]:ae)],[([42,46,97]:ae)],[([98]:ae),([97]:ae)],[([97,46,98,46,99,46,100,46,101,46,102]:ae)],[([97,46,42]:ae)]] KO.1).bind fun KN=>
     (app v2.1.bj [(⟨v55.1,KN⟩:bN)]).bind fun JJ=>
     tc v2 KO.2.L KO.2.at_ JJ v2.1.aD v2.1.aI
    else
     if dI.1=(3:Int) then
      (bx dI.2 [([]:ae),([97,110,110]:ae),([122,101,100]:ae)]).bind fun v66=>
      (bx v66.2 [([116,97]:ae),([110,111,110,101]:ae)]).bind fun v67=>
      (bx v67.2 [([114,101,97,100]:ae),([110,111,110,101]:ae)]).bind fun DT=>
      (app v2.1.aD [(⟨v66.1,v67.1,DT.1⟩:aK)]).bind fun l69=>
      td v2 DT.2.L DT.2.at_ l69 v2.1.aI
     else
      if dI.1=(4:Int) then
       (bx dI.2 [([]:ae),([115,97]:ae),([115,122]:ae)]).bind fun v75=>
       (bx v75.2 [([116,97]:ae),([110,111,110,101]:ae),([116,100]:ae)]).bind fun v76=>
       (bx v76.2 [([116,100]:ae),([116,98]:ae),([110,111,110,101]:ae)]).bind fun v77=>
       (ry v77.2).bind fun v78=>
       (oD v78.2).bind fun v79=>
       (tO v79.2).bind fun v80=>
       (app v2.1.aI [(⟨v75.1,v76.1,v77.1,v78.1,v79.1,v80.1⟩:bA)]).bind fun Ru=>
       te v2 v80.2.L v80.2.at_ Ru
      else
       if (0:Int) < (v2.1.aI.length:Int) then
        (cH dI.2 (3:Int)).bind fun NZ=>
        (idx [[],[([65]:ae)],[([98]:ae),([97]:ae)]] NZ.1).bind fun v87=>
        (idx v2.1.aI (0:Int)).bind fun vG=>
        tf v2 NZ.2.L NZ.2.at_ (v2.1.aI.set (0:Int).toNat (⟨vG.Key,vG.jj,vG.To,vG.Query,v87,vG.Time⟩:bA))
       else
        tf v2 dI.2.L dI.2.at_ v2.1.aI
 else
  pG v8.2.L v8.2.at_ v2.1.al v2.1.bj v2.1.aD v2.1.aI
def mc (n16:Int) (B8:List Int) (n21:Int) (MJ:List jk):Option (((List Int)×Int×(List jk)×Int)⊕(aE×ab)):=
 some (.inl (B8,n21,MJ,cr (n16+(1:Int))))
def me (n36:Int) (B9:List Int) (n41:Int) (Dm:List ew):Option (((List Int)×Int×(List ew)×Int)⊕(aE×ab)):=
 some (.inl (B9,n41,Dm,cr (n36+(1:Int))))
def oG (v2:ae×ab) (v4:Int×ab) (NY:List Int) (OH:Int) (Yd:ae) (Ye:ae) (Yf:Int) (JJ:List jk) (DU:List ew):Option (aE×ab):=
 some ((⟨(⟨Yd,v2.1,Ye,(⟨v4.1,Yf,(0:Int)⟩:Version),JJ⟩:HI),DU⟩:aE),(⟨NY,OH⟩:ab))
def rB (v2:ae×ab) (v4:Int×ab) (EG:List Int) (NT:Int) (W2:ae) (NU:ae) (W3:Int) (Vn:List jk) (Vo:List ew):Option (aE×ab):=
 oG v2 v4 EG NT W2 NU W3 Vn Vo
def rC (ah:ae) (v2:ae×ab) (v3:ae×ab) (v4:Int×ab) (Rr:List Int) (W4:Int) (W5:Int) (MI:List jk) (Vp:List ew):Option (aE×ab):=
 rB v2 v4 Rr W4 ah v3.1 W5 MI Vp
def rD (ah:ae) (v2:ae×ab) (v3:ae×ab) (v4:Int×ab) (v5:Int×ab) (Ru:List Int) (NW:Int) (Vq:List jk) (Vr:List ew):Option (aE×ab):=
 rC ah v2 v3 v4 Ru NW v5.1 Vq Vr
def rH (ah:ae) (v2:ae×ab) (v3:ae×ab) (v4:Int×ab) (v5:Int×ab) (qq:List jk) (Ac:List Int) (n33:Int) (AE:List ew):Option (aE×ab):=
 (dp (⟨Ac,n33⟩:ab) (30:Int)).bind fun v51=>
 if v51.1=true then
  (cH v51.2 (4:Int)).bind fun Ad=>
  if Ad.1=(0:Int) then
   (bx Ad.2 [([]:ae),([65]:ae)]).bind fun Z2=>
   (bx Z2.2 [([]:ae),([65]:ae)]).bind fun v72=>
   rB v2 v4 v72.2.L v72.2.at_ Z2.1 v72.1 v5.1 qq AE
  else
   if Ad.1=(1:Int) then
    (oF Ad.2 (0:Int) (9999:Int)).bind fun v80=>
    rC ah v2 v3 v4 v80.2.L v80.2.at_ v80.1 qq AE
   else
    if Ad.1=(2:Int) then
     (bx Ad.2 [([115,105,116,101]:ae),([65]:ae),([122]:ae)]).bind fun v87=>
     (bx v87.2 [([]:ae),([32,120]:ae),([118]:ae)]).bind fun vG=>
     (app qq [(⟨v87.1,vG.1⟩:jk)]).bind fun Rt=>
     rD ah v2 v3 v4 v5 vG.2.L vG.2.at_ Rt AE
    else
     (bx Ad.2 [([102,97,110,46,111,110]:ae),([65]:ae),([122]:ae)]).bind fun v91=>
     (oF v91.2 (1:Int) (3:Int)).bind fun Fz=>
     (app AE [(⟨v91.1,(⟨Fz.1,false,(0:Int),[]⟩:a8)⟩:ew)]).bind fun Vi=>
     rD ah v2 v3 v4 v5 Fz.2.L Fz.2.at_ qq Vi
 else
  oG v2 v4 v51.2.L v51.2.at_ ah v3.1 v5.1 qq AE
def oH (ah:ae) (v2:ae×ab) (v3:ae×ab) (v4:Int×ab) (v5:Int×ab) (qq:List jk) (Ac:List Int) (n33:Int) (AE:List ew) (n36:Int):Option (((List Int)×Int×(List ew)×Int)⊕(aE×ab)):=
 if n36 < ([([97]:ae),([102,97,110,46,111,110]:ae)].length:Int) then
  (idx [([97]:ae),([102,97,110,46,111,110]:ae)] n36).bind fun v38=>
  (dp (⟨Ac,n33⟩:ab) (2:Int)).bind fun v39=>
  if v39.1=true then
   (ch v39.2 [(0:Int),(5:Int),(6:Int),(-5:Int)]).bind fun v44=>
   (dp v44.2 (2:Int)).bind fun v45=>
   (bx v45.2 [([120]:ae),([]:ae)]).bind fun v46=>
   (ch v46.2 [(0:Int),(0:Int),(1:Int),(2:Int)]).bind fun FP=>
   (idx [(⟨(2:Int),false,v44.1,[]⟩:a8),(⟨(1:Int),v45.1,(0:Int),[]⟩:a8),(⟨(3:Int),false,(0:Int),v46.1⟩:a8)] FP.1).bind fun Ca=>
   (app AE [(⟨v38,Ca⟩:ew)]).bind fun OI=>
   me n36 FP.2.L FP.2.at_ OI
  else
   me n36 v39.2.L v39.2.at_ AE
 else
  Option.map .inr (rH ah v2 v3 v4 v5 qq Ac n33 AE)
def va (ah:ae) (v2:ae×ab) (v3:ae×ab) (v4:Int×ab) (v5:Int×ab) (qq:List jk) (Ac:List Int) (n33:Int) (AE:List ew) (n36:Int):Option (aE×ab):=
 iter (fun x:(List Int)×Int×(List ew)×Int=>oH ah v2 v3 v4 v5 qq x.1 x.2.1 x.2.2.1 x.2.2.2) (Ac,n33,AE,n36)
def oI (ah:ae) (v2:ae×ab) (v3:ae×ab) (v4:Int×ab) (v5:Int×ab) (ye:List Int) (n13:Int) (qq:List jk) (n16:Int):Option (((List Int)×Int×(List jk)×Int)⊕(aE×ab)):=
 if n16 < ([([111,112,101,110]:ae),([115,105,116,101]:ae)].length:Int) then
  (idx [([111,112,101,110]:ae),([115,105,116,101]:ae)] n16).bind fun fH=>
  (dp (⟨ye,n13⟩:ab) (2:Int)).bind fun dI=>
  if dI.1=true then
   (bx dI.2 [([120]:ae),([121]:ae),([97,34,98,92,99]:ae)]).bind fun v24=>
   (app qq [(⟨fH,v24.1⟩:jk)]).bind fun Ls=>
   mc n16 v24.2.L v24.2.at_ Ls
  else
   mc n16 dI.2.L dI.2.at_ qq
 else
  Option.map .inr (va ah v2 v3 v4 v5 qq ye n13 [] (0:Int))
def yF (ah:ae) (v2:ae×ab) (v3:ae×ab) (v4:Int×ab) (v5:Int×ab) (ye:List Int) (n13:Int) (qq:List jk) (n16:Int):Option (aE×ab):=
 iter (fun x:(List Int)×Int×(List jk)×Int=>oI ah v2 v3 v4 v5 x.1 x.2.1 x.2.2.1 x.2.2.2) (ye,n13,qq,n16)
def qH (aa:ab) (ah:ae):Option (aE×ab):=
 (bx aa [([109,97]:ae),([109,98]:ae)]).bind fun v2=>
 (bx v2.2 [([116,97]:ae),([116,98]:ae),([116,100]:ae),([]:ae)]).bind fun v3=>
 (cH v3.2 (2:Int)).bind fun v4=>
 (ch v4.2 [(0:Int),(2:Int)]).bind fun v5=>
 yF ah v2 v3 v4 v5 v5.2.L v5.2.at_ [] (0:Int)
def tP (aa:ab):Option (Int×ab):=
 (cH aa (300:Int)).bind fun v1=>
 (cH v1.2 (300:Int)).bind fun v2=>
 (ch v2.2 [(345686399999:Int),(-1:Int),(345686400000:Int)]).bind fun v3=>
 (ch v3.2 [(0:Int),(5:Int),(20:Int),(40:Int),(60:Int),(80:Int),(120:Int),v1.1,v2.1,v3.1]).bind fun v4=>
 some (v4.1,v4.2)
def iu (n10:Int) (xh:List Int) (n15:Int) (AG:List aE):Option (((List Int)×Int×(List aE)×Int)⊕((List aE)×ab)):=
 some (.inl (xh,n15,AG,cr (n10+(1:Int))))
def ko (l6:List Int) (n7:Int) (l9:List aE) (n10:Int):Option (((List Int)×Int×(List aE)×Int)⊕((List aE)×ab)):=
 if n10 < ([([100,97]:ae),([100,98]:ae),([100,99]:ae),([100,100]:ae)].length:Int) then
  (idx [([100,97]:ae),([100,98]:ae),([100,99]:ae),([100,100]:ae)] n10).bind fun v12=>
  (dp (⟨l6,n7⟩:ab) (4:Int)).bind fun mb=>
  if (!mb.1)=true then
   (qH mb.2 v12).bind fun fH=>
   (app l9 [fH.1]).bind fun Cb=>
   iu n10 fH.2.L fH.2.at_ Cb
  else
   iu n10 mb.2.L mb.2.at_ l9
 else
  Option.map .inr (some (l9,(⟨l6,n7⟩:ab)))
def vb (l6:List Int) (n7:Int) (l9:List aE) (n10:Int):Option ((List aE)×ab):=
 iter (fun x:(List Int)×Int×(List aE)×Int=>ko x.1 x.2.1 x.2.2.1 x.2.2.2) (l6,n7,l9,n10)
def ni (aa:ab):Option ((List aE)×ab):=
 vb aa.L aa.at_ [] (0:Int)
def fJ (aa:bb) (AH:List (ae×ae)) (AG:List (ae×(List ae))) (yd:List (ae×(List Int))) (n26:Int):Option (((List (ae×(List Int)))×Int)⊕ak):=
 if n26 < (aa.aD.length:Int) then
  (idx aa.aD n26).bind fun HL=>
  (u4 yd HL.ar []).bind fun EF=>
  (app EF [n26]).bind fun Bs=>
  some (.inl (ji yd HL.ar Bs,cr (n26+(1:Int))))
 else
  Option.map .inr (some (⟨aa,AH,AG,yd,[],[]⟩:ak))
def fK (aa:bb) (AH:List (ae×ae)) (AG:List (ae×(List ae))) (yd:List (ae×(List Int))) (n26:Int):Option ak:=
 iter (fun x:(List (ae×(List Int)))×Int=>fJ aa AH AG x.1 x.2) (yd,n26)
def ct (aa:bb) (AH:List (ae×ae)) (AG:List (ae×(List ae))) (n18:Int):Option (((List (ae×(List ae)))×Int)⊕ak):=
 if n18 < (aa.bj.length:Int) then
  (idx aa.bj n18).bind fun dI=>
  some (.inl (ji AG dI.Key dI.lI,cr (n18+(1:Int))))
 else
  Option.map .inr (fK aa AH AG [] (0:Int))
def eG (aa:bb) (AH:List (ae×ae)) (AG:List (ae×(List ae))) (n18:Int):Option ak:=
 iter (fun x:(List (ae×(List ae)))×Int=>ct aa AH x.1 x.2) (AG,n18)
def cu (aa:bb) (AH:List (ae×ae)) (n12:Int):Option (((List (ae×ae))×Int)⊕ak):=
 if n12 < (aa.al.length:Int) then
  (idx aa.al n12).bind fun mb=>
  some (.inl (ji AH mb.Key mb.fi,cr (n12+(1:Int))))
 else
  Option.map .inr (eG aa AH [] (0:Int))
def k7 (aa:bb) (AH:List (ae×ae)) (n12:Int):Option ak:=
 iter (fun x:(List (ae×ae))×Int=>cu aa x.1 x.2) (AH,n12)
def iT (aa:bb):Option ak:=
 k7 aa [] (0:Int)
def vU (n5:Int) (c7:Bool):Option (Int⊕Bool):=
 if c7=true then
  Option.map .inr (some false)
 else
  some (.inl (cr (n5+(1:Int))))
def oJ (aa:ae) (n5:Int):Option (Int⊕Bool):=
 if n5 < (aa.length:Int) then
  (idx aa n5).bind fun c6=>
  vU n5 (if (97:Int)≤(c6.toNat:Int) then if (c6.toNat:Int)≤(122:Int) then !true else if (48:Int)≤(c6.toNat:Int) then if (c6.toNat:Int)≤(57:Int) then !true else if (c6.toNat:Int)=(45:Int) then !true else decide (¬ ((c6.toNat:Int)=(95:Int))) else if (c6.toNat:Int)=(45:Int) then !true else decide (¬ ((c6.toNat:Int)=(95:Int))) else if (48:Int)≤(c6.toNat:Int) then if (c6.toNat:Int)≤(57:Int) then !true else if (c6.toNat:Int)=(45:Int) then !true else decide (¬ ((c6.toNat:Int)=(95:Int))) else if (c6.toNat:Int)=(45:Int) then !true else decide (¬ ((c6.toNat:Int)=(95:Int))))
 else
  Option.map .inr (some true)
def yG (aa:ae) (n5:Int):Option Bool:=
 iter (fun x:Int=>oJ aa x) n5
def oK (aa:ae) (c1:Bool):Option Bool:=
 if c1=true then
  some false
 else
  yG aa (0:Int)
def gA (aa:ae):Option Bool:=
 if aa=([]:ae) then
  oK aa true
 else
  if (40:Int) < (aa.length:Int) then
   oK aa true
  else
   (idx aa (0:Int)).bind fun c2=>
   if (c2.toNat:Int) < (97:Int) then
    oK aa true
   else
    (idx aa (0:Int)).bind fun c3=>
    oK aa (decide ((122:Int) < (c3.toNat:Int)))
def fk (aa:ak) (ah:ae):Option Bool:=
 (Ab aa.aW ah []).bind fun v1=>
 some v1.2
def jr (aa:ak) (q4:ae) (l6:List ae) (c8:Bool):Option ((ae×(List ae))⊕(List ae)):=
 if c8=true then
  (app l6 [q4]).bind fun l10=>
  (u4 aa.aW q4 []).bind fun v12=>
  some (.inl (v12,l10))
 else
  Option.map .inr (some l6)
def gW (aa:ak) (q4:ae) (l6:List ae):Option ((ae×(List ae))⊕(List ae)):=
 (fk aa q4).bind fun v9=>
 jr aa q4 l6 (v9&&(decide ((l6.length:Int)≤(aa.aW.length:Int))))
def js (aa:ak) (q4:ae) (l6:List ae):Option (List ae):=
 iter (fun x:ae×(List ae)=>gW aa x.1 x.2) (q4,l6)
def gn (aa:ak) (ah:ae):Option (List ae):=
 js aa ah []
def db (aa:List ae) (ah:ae) (n2:Int):Option (Int⊕Int):=
 if n2 < (aa.length:Int) then
  (idx aa n2).bind fun v3=>
  if ah=v3 then
   Option.map .inr (some n2)
  else
   some (.inl (cr (n2+(1:Int))))
 else
  Option.map .inr (some (-1:Int))
def fL (aa:List ae) (ah:ae) (n2:Int):Option Int:=
 iter (fun x:Int=>db aa ah x) n2
def gB (aa:List ae) (ah:ae):Option Int:=
 fL aa ah (0:Int)
def aR (aa:List ae) (ah:ae):Option Bool:=
 (gB aa ah).bind fun v1=>
 some (decide ((0:Int)≤v1))
def fT (n2:Int) (c6:Bool):Option (Int⊕Int):=
 if c6=true then
  Option.map .inr (some (7:Int))
 else
  some (.inl (cr (n2+(1:Int))))
def fU (n9:Int) (c12:Bool):Option (Int⊕Int):=
 if c12=true then
  Option.map .inr (some (8:Int))
 else
  some (.inl (cr (n9+(1:Int))))
def iH (n17:Int) (c24:Bool):Option ((Bool×Int)⊕Int):=
 some (.inl (c24,cr (n17+(1:Int))))
def lJ (Lu:Bool):Option Int:=
 if Lu=true then
  some (2:Int)
 else
  some (0:Int)
def eo (aa:ak) (Lu:Bool) (n17:Int):Option ((Bool×Int)⊕Int):=
 if n17 < (aa.bb.al.length:Int) then
  (idx aa.bb.al n17).bind fun fH=>
  (gn aa fH.Key).bind fun v20=>
  (yb v20 (1:Int) (v20.length:Int)).bind fun SF=>
  (aR SF fH.Key).bind fun v23=>
  if v23=true then
   Option.map .inr (some (14:Int))
  else
   iH n17 (Lu||(decide ((11:Int) < (v20.length:Int))))
 else
  Option.map .inr (lJ Lu)
def dx (aa:ak) (Lu:Bool) (n17:Int):Option Int:=
 iter (fun x:Bool×Int=>eo aa x.1 x.2) (Lu,n17)
def fV (aa:ak) (n9:Int):Option (Int⊕Int):=
 if n9 < (aa.bb.al.length:Int) then
  (idx aa.bb.al n9).bind fun v10=>
  if v10.fi≠([]:ae) then
   (fk aa v10.fi).bind fun mb=>
   fU n9 (!mb)
  else
   fU n9 false
 else
  Option.map .inr (dx aa false (0:Int))
def iI (aa:ak) (n9:Int):Option Int:=
 iter (fun x:Int=>fV aa x) n9
def fW (aa:ak) (n2:Int):Option (Int⊕Int):=
 if n2 < (aa.bb.al.length:Int) then
  (idx aa.bb.al n2).bind fun v3=>
  (gA v3.Key).bind fun v5=>
  if (!v5)=true then
   Option.map .inr (some (5:Int))
  else
   if (0:Int) < n2 then
    (idx aa.bb.al (cr (n2 - (1:Int)))).bind fun v7=>
    fT n2 (Op.bytesLess v3.Key v7.Key||v3.Key==v7.Key)
   else
    fT n2 false
 else
  Option.map .inr (iI aa (0:Int))
def pH (aa:ak) (n2:Int):Option Int:=
 iter (fun x:Int=>fW aa x) n2
def fQ (aa:ak):Option Int:=
 if (200:Int) < (aa.bb.al.length:Int) then
  some (2:Int)
 else
  pH aa (0:Int)
def de (c1:Bool):Option Bool:=
 some c1
def cV (aa:ae) (ah:ae):Option Bool:=
 if (ah.length:Int)≤(aa.length:Int) then
  (yb aa (cr ((aa.length:Int) - (ah.length:Int))) (aa.length:Int)).bind fun l2=>
  de (decide (l2=ah))
 else
  de false
def fy (aa:ae) (ah:ae):Option (ae×Bool):=
 (cV aa ah).bind fun v1=>
 if (!v1)=true then
  some (aa,false)
 else
  (yb aa (0:Int) (cr ((aa.length:Int) - (ah.length:Int)))).bind fun l2=>
  some (l2,true)
def strings_CutSuffix (aa:ae) (ah:ae):Option (ae×Bool):=
 (fy aa ah).bind fun v1=>
 some (v1.1,v1.2)
def iU (ah:Int) (q3:ae) (n4:Int):Option ((ae×Int)⊕Bool):=
 if n4 < ah then
  (PX q3 ([46]:ae)).bind fun v5=>
  (gA v5.1).bind fun v6=>
  if (!v6)=true then
   Option.map .inr (some false)
  else
   if (!v5.2.2)=true then
    Option.map .inr (some true)
   else
    some (.inl (v5.2.1,cr (n4+(1:Int))))
 else
  Option.map .inr (some false)
def rI (ah:Int) (q3:ae) (n4:Int):Option Bool:=
 iter (fun x:ae×Int=>iU ah x.1 x.2) (q3,n4)
def mH (aa:ae) (ah:Int):Option Bool:=
 rI ah aa (0:Int)
def fm (aa:ae):Option Bool:=
 (mH aa (5:Int)).bind fun v1=>
 some v1
def nj (c4:Bool):Option Bool:=
 some c4
def o5 (aa:ae):Option Bool:=
 (strings_CutSuffix aa ([42]:ae)).bind fun v1=>
 if (!v1.2)=true then
  (fm aa).bind fun v2=>
  some v2
 else
  if v1.1=([]:ae) then
   some true
  else
   (strings_CutSuffix v1.1 ([46]:ae)).bind fun v3=>
   if v3.2=true then
    (mH v3.1 (4:Int)).bind fun v5=>
    nj v5
   else
    nj false
def jt (n2:Int) (c5:Bool):Option (Int⊕Int):=
 if c5=true then
  Option.map .inr (some (7:Int))
 else
  some (.inl (cr (n2+(1:Int))))
def gX (aa:List ae) (n2:Int):Option (Int⊕Int):=
 if n2 < (aa.length:Int) then
  (idx aa n2).bind fun v3=>
  (o5 v3).bind fun v4=>
  if (!v4)=true then
   Option.map .inr (some (5:Int))
  else
   if (0:Int) < n2 then
    (idx aa (cr (n2 - (1:Int)))).bind fun v6=>
    jt n2 (Op.bytesLess v3 v6||v3==v6)
   else
    jt n2 false
 else
  Option.map .inr (some (0:Int))
def uA (aa:List ae) (n2:Int):Option Int:=
 iter (fun x:Int=>gX aa x) n2
def jN (aa:List ae):Option Int:=
 if (aa.length:Int)=(0:Int) then
  some (8:Int)
 else
  if (50:Int) < (aa.length:Int) then
   some (2:Int)
  else
   uA aa (0:Int)
def dS (n2:Int) (v3:bN) (c6:Bool):Option (Int⊕Int):=
 if c6=true then
  Option.map .inr (some (7:Int))
 else
  (jN v3.lI).bind fun v8=>
  if v8≠(0:Int) then
   Option.map .inr (some v8)
  else
   some (.inl (cr (n2+(1:Int))))
def cI (aa:ak) (n2:Int):Option (Int⊕Int):=
 if n2 < (aa.bb.bj.length:Int) then
  (idx aa.bb.bj n2).bind fun v3=>
  (gA v3.Key).bind fun v5=>
  if (!v5)=true then
   Option.map .inr (some (5:Int))
  else
   if (0:Int) < n2 then
    (idx aa.bb.bj (cr (n2 - (1:Int)))).bind fun v7=>
    dS n2 v3 (Op.bytesLess v3.Key v7.Key||v3.Key==v7.Key)
   else
    dS n2 v3 false
 else
  Option.map .inr (some (0:Int))
def pg (aa:ak) (n2:Int):Option Int:=
 iter (fun x:Int=>cI aa x) n2
def gC (aa:ak):Option Int:=
 if (50:Int) < (aa.bb.bj.length:Int) then
  some (2:Int)
 else
  pg aa (0:Int)
def th (aa:List Int) (n2:Int):Option (Int⊕Int):=
 if n2 < (aa.length:Int) then
  (idx aa n2).bind fun v3=>
  if v3≠(0:Int) then
   Option.map .inr (some v3)
  else
   some (.inl (cr (n2+(1:Int))))
 else
  Option.map .inr (some (0:Int))
def FQ (aa:List Int) (n2:Int):Option Int:=
 iter (fun x:Int=>th aa x) n2
def gD (aa:List Int):Option Int:=
 FQ aa (0:Int)
def nk (aa:aK) (ah:aK):Option Int:=
 (gD [(Lib.compareBytes aa.lV ah.lV),(Lib.compareBytes aa.ar ah.ar),(Lib.compareBytes aa.bN ah.bN)]).bind fun v3=>
 some v3
def cw (n2:Int) (c9:Bool):Option (Int⊕Int):=
 if c9=true then
  Option.map .inr (some (7:Int))
 else
  some (.inl (cr (n2+(1:Int))))
def cx (aa:ak) (n2:Int) (v3:aK) (c7:Bool):Option (Int⊕Int):=
 if c7=true then
  Option.map .inr (some (8:Int))
 else
  if (0:Int) < n2 then
   (idx aa.bb.aD (cr (n2 - (1:Int)))).bind fun v10=>
   (nk v3 v10).bind fun v11=>
   cw n2 (decide (v11≤(0:Int)))
  else
   cw n2 false
def eI (aa:ak) (n2:Int):Option (Int⊕Int):=
 if n2 < (aa.bb.aD.length:Int) then
  (idx aa.bb.aD n2).bind fun v3=>
  (Ab aa.cT v3.bN []).bind fun v5=>
  (gA v3.lV).bind fun v6=>
  if (!v6)=true then
   Option.map .inr (some (5:Int))
  else
   (fk aa v3.ar).bind fun v8=>
   cx aa n2 v3 ((!v8)||(!v5.2))
 else
  Option.map .inr (some (0:Int))
def nZ (aa:ak) (n2:Int):Option Int:=
 iter (fun x:Int=>eI aa x) n2
def ep (aa:ak):Option Int:=
 if (500:Int) < (aa.bb.aD.length:Int) then
  some (2:Int)
 else
  nZ aa (0:Int)
def gE (c1:Bool):Option Bool:=
 some c1
def gY (aa:ak) (ah:ae) (aT:ae):Option Bool:=
 if ah≠aT then
  (gn aa ah).bind fun v2=>
  (aR v2 aT).bind fun v4=>
  gE v4
 else
  gE false
def fY (self:Query→Option (Int×Int)) (aa:Query) (n7:Int) (n8:Int) (n9:Int):Option ((Int×Int×Int)⊕(Int×Int)):=
 if n9 < (aa.Kids.length:Int) then
  (idx aa.Kids n9).bind fun v10=>
  (self v10).bind fun v12=>
  some (.inl (cr (n7+v12.1),max n8 v12.2,cr (n9+(1:Int))))
 else
  Option.map .inr (some (n7,cr (n8+(1:Int))))
def ui (self:Query→Option (Int×Int)) (aa:Query) (n7:Int) (n8:Int) (n9:Int):Option (Int×Int):=
 iter (fun x:Int×Int×Int=>fY self aa x.1 x.2.1 x.2.2) (n7,n8,n9)
def nn (self:Query→Option (Int×Int)) (aa:Query) (n3:Int):Option (Int×Int):=
 ui self aa n3 (0:Int) (0:Int)
def qe (self:Query→Option (Int×Int)) (aa:Query) (c2:Bool):Option (Int×Int):=
 if c2=true then
  nn self aa (1:Int)
 else
  nn self aa (0:Int)
def np (self:Query→Option (Int×Int)) (aa:Query):Option (Int×Int):=
 qe self aa ((decide (aa.Kind=(1:Int)))||(decide (aa.Kind=(2:Int))))
def fX:Nat→Query→Option (Int×Int)
 | 0=>fun _=>none
 | k+1=>np (fX k)
def xx (aa:Query):Option (Int×Int):=
 fX depth aa
def tQ (c1:Bool):Bool:=
 c1
def kq (aa:Int) (ah:Int) (aT:Int):Bool:=
 tQ ((decide (aa < ah))||(decide (aT < aa)))
def oc (aa:Query) (ah:Query):Bool:=
 decide (aa.Kind=ah.Kind)
def eW (aa:List Query) (er:Query→Option Bool) (n2:Int):Option (Int⊕Int):=
 if n2 < (aa.length:Int) then
  (idx aa n2).bind fun v3=>
  (er v3).bind fun v4=>
  if v4=true then
   Option.map .inr (some n2)
  else
   some (.inl (cr (n2+(1:Int))))
 else
  Option.map .inr (some (-1:Int))
def sr (aa:List Query) (er:Query→Option Bool) (n2:Int):Option Int:=
 iter (fun x:Int=>eW aa er x) n2
def jl (aa:List Query) (er:Query→Option Bool):Option Int:=
 sr aa er (0:Int)
def bQ (aa:List Query) (er:Query→Option Bool):Option Bool:=
 (jl aa er).bind fun v1=>
 some (decide ((0:Int)≤v1))
def rJ (P3:Bool):Option Int:=
 if P3=true then
  some (3:Int)
 else
  some (0:Int)
def k8 (aa:Query) (c3:Bool) (q4:ae) (q5:ae) (n6:Int) (c7:Bool) (n8:Int) (q9:ae) (n10:Int) (n11:Int) (n12:Int):Option Int:=
 rJ (c3||((decide (q4≠aa.Field))||((decide (q5≠aa.Op))||((decide ((⟨n6,c7,n8,q9⟩:a8)≠aa.Value))||(decide ((⟨n10,n11,n12⟩:Version)≠aa.Version))))))
def iY (aa:Query) (Dp:Bool) (OF:ae):Option Int:=
 k8 aa Dp OF [] (0:Int) false (0:Int) [] (0:Int) (0:Int) (0:Int)
def iZ (aa:Query) (OJ:Bool):Option Int:=
 iY aa OJ []
def k9 (aa:Query) (Lu:Bool):Option Int:=
 iZ aa Lu
def oL (aa:Query):Option Int:=
 if (kq aa.Kind (1:Int) (5:Int))=true then
  some (4:Int)
 else
  if aa.Kind=(1:Int) then
   k8 aa (decide ((aa.Kids.length:Int)≠(0:Int))) aa.Field aa.Op aa.Value.Kind aa.Value.bV aa.Value.Number aa.Value.Words aa.Version.bH aa.Version.bI aa.Version.bF
  else
   if aa.Kind=(2:Int) then
    iY aa (decide ((aa.Kids.length:Int)≠(0:Int))) aa.Field
   else
    if aa.Kind=(3:Int) then
     iZ aa (decide ((aa.Kids.length:Int)≠(1:Int)))
    else
     if (aa.Kids.length:Int) < (2:Int) then
      k9 aa true
     else
      (bQ aa.Kids (fun y0=>some (oc y0 aa))).bind fun v17=>
      k9 aa v17
def df (c1:Bool):Option Bool:=
 some c1
def cW (aa:ae) (ah:ae):Option Bool:=
 if (ah.length:Int)≤(aa.length:Int) then
  (yb aa (0:Int) (ah.length:Int)).bind fun l2=>
  df (decide (l2=ah))
 else
  df false
def fA (aa:ae) (ah:ae):Option (ae×Bool):=
 (cW aa ah).bind fun v1=>
 if (!v1)=true then
  some (aa,false)
 else
  (yb aa (ah.length:Int) (aa.length:Int)).bind fun l2=>
  some (l2,true)
def strings_CutPrefix (aa:ae) (ah:ae):Option (ae×Bool):=
 (fA aa ah).bind fun v1=>
 some (v1.1,v1.2)
def pI (c2:Bool):Option Bool:=
 some c2
def sH (aa:ae):Option Bool:=
 (strings_CutPrefix aa ([116,97,103,46]:ae)).bind fun v1=>
 if v1.2=true then
  (gA v1.1).bind fun v3=>
  pI v3
 else
  pI false
def mf (c1:Bool):Option Bool:=
 some c1
def nE (aa:ae):Option Bool:=
 if (aa.length:Int)≤(40:Int) then
  (mH aa (5:Int)).bind fun v2=>
  mf v2
 else
  mf false
def oM (c2:Bool):Option Bool:=
 some c2
def oN (aa:ae):Option Bool:=
 (strings_CutPrefix aa ([112,114,111,112,46]:ae)).bind fun v1=>
 if v1.2=true then
  (nE v1.1).bind fun v3=>
  oM v3
 else
  oM false
def iJ (c1:Bool):Option Bool:=
 some c1
def vc (aa:ae):Option Bool:=
 if aa=([107,101,121]:ae) then
  iJ true
 else
  if aa=([109,111,100,101,108]:ae) then
   iJ true
  else
   if aa=([116,101,110,97,110,116]:ae) then
    iJ true
   else
    if aa=([102,105,114,109,119,97,114,101]:ae) then
     iJ true
    else
     (sH aa).bind fun v2=>
     if v2=true then
      iJ true
     else
      (oN aa).bind fun v3=>
      iJ v3
def fw:(List ae):=
 [([61,61]:ae),([33,61]:ae),([60]:ae),([60,61]:ae),([62]:ae),([62,61]:ae)]
def qg (c2:Bool):Bool:=
 c2
def fB (aa:Version):Bool:=
 qg ((!(kq aa.bH (0:Int) (9999:Int)))&&((!(kq aa.bI (0:Int) (9999:Int)))&&(!(kq aa.bF (0:Int) (9999:Int)))))
def lK (EK:Bool):Option Bool:=
 some EK
def nF (aa:a8) (c3:Bool) (n4:Int) (q5:ae):Option Bool:=
 if aa=(⟨aa.Kind,c3,n4,q5⟩:a8) then
  if (!(kq aa.Number (-1000000000:Int) (1000000000:Int)))=true then
   if (aa.Words.length:Int)≤(100:Int) then
    (wv aa.Words).bind fun v12=>
    lK v12
   else
    lK false
  else
   lK false
 else
  lK false
def pJ (aa:a8) (c6:Bool) (n7:Int) (q8:ae):Option Bool:=
 nF aa c6 n7 q8
def pK (aa:a8) (n9:Int) (MG:ae):Option Bool:=
 pJ aa false n9 MG
def sI (aa:a8):Option Bool:=
 if aa.Kind=(0:Int) then
  nF aa false (0:Int) []
 else
  if aa.Kind=(1:Int) then
   pJ aa aa.bV (0:Int) []
  else
   if aa.Kind=(2:Int) then
    pK aa aa.Number []
   else
    if aa.Kind=(3:Int) then
     pK aa (0:Int) aa.Words
    else
     some false
def od (EL:Bool):Option Int:=
 if EL=true then
  some (10:Int)
 else
  some (0:Int)
def ja (aa:Query) (c12:Bool):Option Int:=
 if c12=true then
  some (10:Int)
 else
  od ((decide (aa.Value.Kind≠(2:Int)))&&((decide (aa.Op≠([61,61]:ae)))&&(decide (aa.Op≠([33,61]:ae)))))
def jb (aa:Query) (FR:Bool):Option Int:=
 if FR=true then
  some (3:Int)
 else
  if aa.Value.Kind≠(3:Int) then
   (oN aa.Field).bind fun mb=>
   ja aa (!mb)
  else
   ja aa false
def oe (aa:Query) (c9:Bool):Option Int:=
 if c9=true then
  some (1:Int)
 else
  if aa.Field=([102,105,114,109,119,97,114,101]:ae) then
   some (0:Int)
  else
   if aa.Version≠(⟨(0:Int),(0:Int),(0:Int)⟩:Version) then
    jb aa true
   else
    (sI aa.Value).bind fun v11=>
    jb aa ((!v11)||(decide (aa.Value.Kind=(0:Int))))
def og (aa:Query) (c8:Bool):Option Int:=
 if c8=true then
  some (3:Int)
 else
  oe aa ((decide (aa.Field=([102,105,114,109,119,97,114,101]:ae)))&&(!(fB aa.Version)))
def eJ (aa:Query) (c2:Bool):Option Int:=
 if c2=true then
  some (5:Int)
 else
  if aa.Kind=(2:Int) then
   some (0:Int)
  else
   (aR fw aa.Op).bind fun v7=>
   if (!v7)=true then
    some (10:Int)
   else
    og aa ((decide (aa.Field=([102,105,114,109,119,97,114,101]:ae)))&&(decide (aa.Value≠(⟨(0:Int),false,(0:Int),[]⟩:a8))))
def oO (aa:Query):Option Int:=
 (vc aa.Field).bind fun v3=>
 if (!v3)=true then
  eJ aa true
 else
  if aa.Kind=(2:Int) then
   (sH aa.Field).bind fun v4=>
   if (!v4)=true then
    (oN aa.Field).bind fun v5=>
    eJ aa (!v5)
   else
    eJ aa false
  else
   eJ aa false
def eN (self:Query→Option Int) (aa:Query) (n6:Int):Option (Int⊕Int):=
 if n6 < (aa.Kids.length:Int) then
  (idx aa.Kids n6).bind fun v7=>
  (self v7).bind fun v9=>
  if v9≠(0:Int) then
   Option.map .inr (some v9)
  else
   some (.inl (cr (n6+(1:Int))))
 else
  Option.map .inr (some (0:Int))
def oh (self:Query→Option Int) (aa:Query) (n6:Int):Option Int:=
 iter (fun x:Int=>eN self aa x) n6
def om (self:Query→Option Int) (aa:Query) (c3:Bool):Option Int:=
 if c3=true then
  (oO aa).bind fun v4=>
  some v4
 else
  oh self aa (0:Int)
def lf (self:Query→Option Int) (aa:Query):Option Int:=
 (oL aa).bind fun v2=>
 if v2≠(0:Int) then
  some v2
 else
  om self aa ((decide (aa.Kind=(1:Int)))||(decide (aa.Kind=(2:Int))))
def bL:Nat→Query→Option Int
 | 0=>fun _=>none
 | k+1=>lf (bL k)
def vd (aa:Query):Option Int:=
 bL depth aa
def mL (aa:Query) (c3:Bool):Option Int:=
 if c3=true then
  some (2:Int)
 else
  (vd aa).bind fun v4=>
  some v4
def dC (aa:Query):Option Int:=
 (xx aa).bind fun v2=>
 mL aa ((decide ((40:Int) < v2.1))||(decide ((20:Int) < v2.2)))
def ti (aa:List Int) (n2:Int):Option (Int⊕Int):=
 if n2 < (aa.length:Int) then
  (idx aa n2).bind fun v3=>
  if v3≠(0:Int) then
   Option.map .inr (some v3)
  else
   some (.inl (cr (n2+(1:Int))))
 else
  Option.map .inr (some (0:Int))
def FT (aa:List Int) (n2:Int):Option Int:=
 iter (fun x:Int=>ti aa x) n2
def xy (aa:List Int):Option Int:=
 FT aa (0:Int)
def rK (c2:Bool):Bool:=
 c2
def qI (aa:oC):Bool:=
 rK ((!(kq aa.jj (0:Int) aa.To))&&(decide (aa.To≤(345686400000:Int))))
def ca (n2:Int) (v3:bA) (EK:Bool):Option (Int⊕Int):=
 if EK=true then
  Option.map .inr (some (13:Int))
 else
  (dC v3.Query).bind fun lW=>
  (jN v3.lI).bind fun FO=>
  (xy [lW,FO]).bind fun dU=>
  if dU≠(0:Int) then
   Option.map .inr (some dU)
  else
   if (!(qI v3.Time))=true then
    Option.map .inr (some (1:Int))
   else
    some (.inl (cr (n2+(1:Int))))
def cX (aa:ak) (n2:Int) (v3:bA) (c8:Bool):Option (Int⊕Int):=
 if c8=true then
  Option.map .inr (some (8:Int))
 else
  if v3.jj=v3.To then
   ca n2 v3 true
  else
   (gY aa v3.jj v3.To).bind fun v12=>
   if v12=true then
    ca n2 v3 true
   else
    (gY aa v3.To v3.jj).bind fun mb=>
    ca n2 v3 mb
def cY (aa:ak) (n2:Int) (v3:bA) (c6:Bool):Option (Int⊕Int):=
 if c6=true then
  Option.map .inr (some (7:Int))
 else
  (fk aa v3.jj).bind fun v9=>
  if (!v9)=true then
   cX aa n2 v3 true
  else
   (fk aa v3.To).bind fun v10=>
   cX aa n2 v3 (!v10)
def fo (aa:ak) (n2:Int):Option (Int⊕Int):=
 if n2 < (aa.bb.aI.length:Int) then
  (idx aa.bb.aI n2).bind fun v3=>
  (gA v3.Key).bind fun v5=>
  if (!v5)=true then
   Option.map .inr (some (5:Int))
  else
   if (0:Int) < n2 then
    (idx aa.bb.aI (cr (n2 - (1:Int)))).bind fun v7=>
    cY aa n2 v3 (Op.bytesLess v3.Key v7.Key||v3.Key==v7.Key)
   else
    cY aa n2 v3 false
 else
  Option.map .inr (some (0:Int))
def oP (aa:ak) (n2:Int):Option Int:=
 iter (fun x:Int=>fo aa x) n2
def eS (aa:ak):Option Int:=
 if (200:Int) < (aa.bb.aI.length:Int) then
  some (2:Int)
 else
  oP aa (0:Int)
def cK (aa:bb):Option ((Option ak)×Int):=
 (iT aa).bind fun v2=>
 (fQ v2).bind fun v9=>
 if v9≠(0:Int) then
  some (none,v9)
 else
  (gC v2).bind fun v10=>
  if v10≠(0:Int) then
   some (none,v10)
  else
   (ep v2).bind fun v11=>
   if v11≠(0:Int) then
    some (none,v11)
   else
    (eS v2).bind fun v12=>
    if v12≠(0:Int) then
     some (none,v12)
    else
     some (some v2,(0:Int))
def mg (n2:Int) (c3:Bool):Option (Int⊕Bool):=
 if c3=true then
  Option.map .inr (some false)
 else
  some (.inl (cr (n2+(1:Int))))
def sJ (aa:ae):Option Bool:=
 (wv aa).bind fun v6=>
 some v6
def fC (aa:ae) (n2:Int):Option (Int⊕Bool):=
 if n2 < (aa.length:Int) then
  (idx aa n2).bind fun c4=>
  if (c4.toNat:Int) < (32:Int) then
   mg n2 true
  else
   (idx aa n2).bind fun c5=>
   mg n2 (decide ((c5.toNat:Int)=(127:Int)))
 else
  Option.map .inr (sJ aa)
def wR (aa:ae) (n2:Int):Option Bool:=
 iter (fun x:Int=>fC aa x) n2
def pL (aa:ae):Option Bool:=
 wR aa (0:Int)
def strings_HasPrefix (aa:ae) (ah:ae):Option Bool:=
 (cW aa ah).bind fun v1=>
 some v1
def strings_HasSuffix (aa:ae) (ah:ae):Option Bool:=
 (cV aa ah).bind fun v1=>
 some v1
def strings_Contains (aa:ae) (ah:ae):Option Bool:=
 (Ln aa ah).bind fun v1=>
 some (decide ((0:Int)≤v1))
def lL (c1:Bool):Option Bool:=
 some c1
def ve (aa:ae):Option Bool:=
 (pL aa).bind fun v2=>
 if v2=true then
  (strings_HasPrefix aa ([32]:ae)).bind fun v3=>
  if (!v3)=true then
   (strings_HasSuffix aa ([32]:ae)).bind fun v4=>
   if (!v4)=true then
    (strings_Contains aa ([32,32]:ae)).bind fun v5=>
    lL (!v5)
   else
    lL false
  else
   lL false
 else
  lL false
def mh (c1:Bool):Option Bool:=
 some c1
def pM (aa:ae):Option Bool:=
 if (!(kq (aa.length:Int) (1:Int) (100:Int)))=true then
  (ve aa).bind fun v2=>
  mh v2
 else
  mh false
def jH (n8:Int) (v9:jk) (c12:Bool):Option (Int⊕Int):=
 if c12=true then
  Option.map .inr (some (7:Int))
 else
  (pM v9.Value).bind fun lW=>
  if (!lW)=true then
   Option.map .inr (some (3:Int))
  else
   some (.inl (cr (n8+(1:Int))))
def pN (n16:Int) (P4:Bool):Option (Int⊕Int):=
 if P4=true then
  Option.map .inr (some (3:Int))
 else
  some (.inl (cr (n16+(1:Int))))
def jI (n16:Int) (v17:ew) (c20:Bool):Option (Int⊕Int):=
 if c20=true then
  Option.map .inr (some (7:Int))
 else
  (sI v17.Value).bind fun v23=>
  pN n16 ((!v23)||(decide (v17.Value.Kind=(0:Int))))
def lM (aa:aE) (n16:Int):Option (Int⊕Int):=
 if n16 < (aa.ey.length:Int) then
  (idx aa.ey n16).bind fun v17=>
  (nE v17.Name).bind fun dI=>
  if (!dI)=true then
   Option.map .inr (some (5:Int))
  else
   if (0:Int) < n16 then
    (idx aa.ey (cr (n16 - (1:Int)))).bind fun v21=>
    jI n16 v17 (Op.bytesLess v17.Name v21.Name||v17.Name==v21.Name)
   else
    jI n16 v17 false
 else
  Option.map .inr (some (0:Int))
def tj (aa:aE) (n16:Int):Option Int:=
 iter (fun x:Int=>lM aa x) n16
def tn (aa:aE):Option Int:=
 if (50:Int) < (aa.ey.length:Int) then
  some (2:Int)
 else
  tj aa (0:Int)
def lN (aa:aE) (n8:Int):Option (Int⊕Int):=
 if n8 < (aa.Device.kO.length:Int) then
  (idx aa.Device.kO n8).bind fun v9=>
  (gA v9.Name).bind fun v11=>
  if (!v11)=true then
   Option.map .inr (some (5:Int))
  else
   if (0:Int) < n8 then
    (idx aa.Device.kO (cr (n8 - (1:Int)))).bind fun mb=>
    jH n8 v9 (Op.bytesLess v9.Name mb.Name||v9.Name==mb.Name)
   else
    jH n8 v9 false
 else
  Option.map .inr (tn aa)
def tp (aa:aE) (n8:Int):Option Int:=
 iter (fun x:Int=>lN aa x) n8
def iK (aa:aE) (c3:Bool):Option Int:=
 if c3=true then
  some (5:Int)
 else
  if (!(fB aa.Device.dO))=true then
   some (1:Int)
  else
   if (20:Int) < (aa.Device.kO.length:Int) then
    some (2:Int)
   else
    tp aa (0:Int)
def dE (aa:aE):Option Int:=
 (gA aa.Device.Key).bind fun v4=>
 if (!v4)=true then
  iK aa true
 else
  (gA aa.Device.Model).bind fun v5=>
  if (!v5)=true then
   iK aa true
  else
   if aa.Device.ar≠([]:ae) then
    (gA aa.Device.ar).bind fun v6=>
    iK aa (!v6)
   else
    iK aa false
def oQ (aa:Int):Bool:=
 !(kq aa (0:Int) (345686399999:Int))
def et (aT:Int) (c3:Bool):Option Int:=
 if c3=true then
  some (8:Int)
 else
  if (!(oQ aT))=true then
   some (1:Int)
  else
   some (0:Int)
def fR (aa:ak) (ah:aE) (aT:Int):Option Int:=
 (dE ah).bind fun v2=>
 if v2≠(0:Int) then
  some v2
 else
  if ah.Device.ar≠([]:ae) then
   (fk aa ah.Device.ar).bind fun v4=>
   et aT (!v4)
  else
   et aT false
def qh (c5:Bool):Option ((Option ak)×Int):=
 if c5=true then
  some (none,(5:Int))
 else
  none
def nq (bG:aE) (eB:Int) (x4:ak) (EL:Bool):Option ((Option ak)×Int):=
 if EL=true then
  some (none,(5:Int))
 else
  (fR x4 bG eB).bind fun v17=>
  if v17≠(0:Int) then
   some (none,v17)
  else
   some (some x4,(0:Int))
def lg (aa:bb) (ah:ae) (aT:ae) (bG:aE) (eB:Int):Option ((Option ak)×Int):=
 (cK aa).bind fun v3=>
 j5 v3.1 (
  if v3.2≠(0:Int) then
   some (none,v3.2)
  else
   (gA ah).bind fun v6=>
   if (!v6)=true then
    qh true
   else
    (fm aT).bind fun v7=>
    qh (!v7)) (fun x4=>
  if v3.2≠(0:Int) then
   some (none,v3.2)
  else
   (gA ah).bind fun FO=>
   if (!FO)=true then
    nq bG eB x4 true
   else
    (fm aT).bind fun dU=>
    nq bG eB x4 (!dU))
def jO (c2:Bool):Option Bool:=
 some c2
def nG (aa:ae) (ah:ae):Option Bool:=
 (strings_CutSuffix aa ([42]:ae)).bind fun v1=>
 if aa=ah then
  jO true
 else
  if v1.2=true then
   (strings_HasPrefix ah v1.1).bind fun v3=>
   jO v3
  else
   jO false
def jc (aa:ae) (ah:ae):Option Bool:=
 (nG aa ah).bind fun v1=>
 some v1
def ei (aa:List ae) (er:ae→Option Bool) (n2:Int):Option (Int⊕Int):=
 if n2 < (aa.length:Int) then
  (idx aa n2).bind fun v3=>
  (er v3).bind fun v4=>
  if v4=true then
   Option.map .inr (some n2)
  else
   some (.inl (cr (n2+(1:Int))))
 else
  Option.map .inr (some (-1:Int))
def qO (aa:List ae) (er:ae→Option Bool) (n2:Int):Option Int:=
 iter (fun x:Int=>ei aa er x) n2
def fD (aa:List ae) (er:ae→Option Bool):Option Int:=
 qO aa er (0:Int)
def aM (aa:List ae) (er:ae→Option Bool):Option Bool:=
 (fD aa er).bind fun v1=>
 some (decide ((0:Int)≤v1))
def kr (aa:List ae) (ah:ae):Option Bool:=
 (aM aa (fun y0=>jc y0 ah)).bind fun v2=>
 some v2
def gG (n18:Int) (yd:List Int):Option (((List Int)×Int)⊕(((List Int)×Int)⊕((List Int)×ak))):=
 some (.inl (yd,cr (n18+(1:Int))))
def cN (aa:ak) (ah:ae) (n9:Int) (v12:List Int) (AG:List Int) (n18:Int):Option (((List Int)×Int)⊕(((List Int)×Int)⊕((List Int)×ak))):=
 if n18 < (v12.length:Int) then
  (idx v12 n18).bind fun dI=>
  (idx aa.bb.aD dI).bind fun v20=>
  (u4 aa.cT v20.bN []).bind fun v21=>
  (kr v21 ah).bind fun v22=>
  if v22=true then
   (app AG [dI]).bind fun Ls=>
   gG n18 Ls
  else
   gG n18 AG
 else
  Option.map .inr (some (.inl (AG,cr (n9+(1:Int)))))
def mM (aa:ak) (ah:ae) (n9:Int) (v12:List Int) (AG:List Int) (n18:Int):Option (((List Int)×Int)⊕((List Int)×ak)):=
 iter (fun x:(List Int)×Int=>cN aa ah n9 v12 x.1 x.2) (AG,n18)
def cO (aa:ak) (ah:ae) (aT:ae) (v2:(List ae)) (l8:List Int) (n9:Int):Option (((List Int)×Int)⊕((List Int)×ak)):=
 if n9 < (v2.length:Int) then
  (idx v2 n9).bind fun v11=>
  (u4 aa.at_ v11 []).bind fun v12=>
  mM aa ah n9 v12 l8 (0:Int)
 else
  Option.map .inr (some (l8,(⟨aa.bb,aa.aW,aa.cT,aa.at_,ji aa.cG (⟨ah,aT⟩:aX) l8,aa.im⟩:ak)))
def rO (aa:ak) (ah:ae) (aT:ae) (v2:(List ae)) (l8:List Int) (n9:Int):Option ((List Int)×ak):=
 iter (fun x:(List Int)×Int=>cO aa ah aT v2 x.1 x.2) (l8,n9)
def gZ (aa:ak) (ah:ae) (aT:ae):Option ((List Int)×ak):=
 (Ab aa.cG (⟨ah,aT⟩:aX) []).bind fun v1=>
 if v1.2=true then
  some (v1.1,aa)
 else
  (gn aa aT).bind fun v2=>
  rO aa ah aT v2 [] (0:Int)
def sK (aa:ae):bq:=
 (⟨true,(⟨(3:Int),false,(0:Int),aa⟩:a8),(⟨(0:Int),(0:Int),(0:Int)⟩:Version)⟩:bq)
def jz (aa:aE) (v3:ae×Bool) (n5:Int):Option (Int⊕bq):=
 if n5 < (aa.Device.kO.length:Int) then
  (idx aa.Device.kO n5).bind fun v6=>
  if v6.Name=v3.1 then
   Option.map .inr (some (sK v6.Value))
  else
   some (.inl (cr (n5+(1:Int))))
 else
  Option.map .inr (some (⟨false,(⟨(0:Int),false,(0:Int),[]⟩:a8),(⟨(0:Int),(0:Int),(0:Int)⟩:Version)⟩:bq))
def xz (aa:aE) (v3:ae×Bool) (n5:Int):Option bq:=
 iter (fun x:Int=>jz aa v3 x) n5
def jA (aa:aE) (ah:ae) (n9:Int):Option (Int⊕bq):=
 if n9 < (aa.ey.length:Int) then
  (idx aa.ey n9).bind fun v10=>
  (Jm ([112,114,111,112,46]:ae) v10.Name).bind fun Vs=>
  if Vs=ah then
   Option.map .inr (some (⟨true,v10.Value,(⟨(0:Int),(0:Int),(0:Int)⟩:Version)⟩:bq))
  else
   some (.inl (cr (n9+(1:Int))))
 else
  Option.map .inr (some (⟨false,(⟨(0:Int),false,(0:Int),[]⟩:a8),(⟨(0:Int),(0:Int),(0:Int)⟩:Version)⟩:bq))
def xA (aa:aE) (ah:ae) (n9:Int):Option bq:=
 iter (fun x:Int=>jA aa ah x) n9
def qJ (aa:aE) (ah:ae):Option bq:=
 if ah=([107,101,121]:ae) then
  some (sK aa.Device.Key)
 else
  if ah=([109,111,100,101,108]:ae) then
   some (sK aa.Device.Model)
  else
   if ah=([116,101,110,97,110,116]:ae) then
    some (sK aa.Device.ar)
   else
    if ah=([102,105,114,109,119,97,114,101]:ae) then
     some (⟨true,(⟨(0:Int),false,(0:Int),[]⟩:a8),aa.Device.dO⟩:bq)
    else
     (strings_CutPrefix ah ([116,97,103,46]:ae)).bind fun v3=>
     if v3.2=true then
      xz aa v3 (0:Int)
     else
      xA aa ah (0:Int)
def nt (aa:ae) (ah:aE):Option bq:=
 (qJ ah aa).bind fun v2=>
 some v2
def cmp_isNaN_int (aa:Int):Bool:=
 decide (aa≠aa)
def cmp_Compare_int (aa:Int) (ah:Int):Int:=
 if (cmp_isNaN_int aa)=true then
  if (cmp_isNaN_int ah)=true then
   (0:Int)
  else
   (-1:Int)
 else
  if (cmp_isNaN_int ah)=true then
   (1:Int)
  else
   if aa < ah then
    (-1:Int)
   else
    if ah < aa then
     (1:Int)
    else
     (0:Int)
def iV (aa:Version) (ah:Version):Option Int:=
 (gD [(cmp_Compare_int aa.bH ah.bH),(cmp_Compare_int aa.bI ah.bI),(cmp_Compare_int aa.bF ah.bF)]).bind fun v3=>
 some v3
def jP (aa:Query) (n4:Int):Option Bool:=
 if aa.Op=([61,61]:ae) then
  some (decide (n4=(0:Int)))
 else
  if aa.Op=([33,61]:ae) then
   some (decide (n4≠(0:Int)))
  else
   if aa.Op=([60]:ae) then
    some (decide (n4 < (0:Int)))
   else
    if aa.Op=([60,61]:ae) then
     some (decide (n4≤(0:Int)))
    else
     if aa.Op=([62]:ae) then
      some (decide ((0:Int) < n4))
     else
      some (decide ((0:Int)≤n4))
def jQ (aa:Query) (n6:Int):Option Bool:=
 jP aa n6
def mi (aa:Query) (n7:Int):Option Bool:=
 jQ aa n7
def iv (aa:Query) (ah:bq) (c3:Bool):Option Bool:=
 if c3=true then
  some false
 else
  if aa.Field=([102,105,114,109,119,97,114,101]:ae) then
   (iV ah.Version aa.Version).bind fun v5=>
   jP aa v5
  else
   if ah.Value.Kind=(2:Int) then
    jQ aa (cmp_Compare_int ah.Value.Number aa.Value.Number)
   else
    if ah.Value≠aa.Value then
     mi aa (1:Int)
    else
     mi aa (0:Int)
def pO (aa:Query) (ah:bq):Option Bool:=
 iv aa ah ((!ah.Is)||(decide (ah.Value.Kind≠aa.Value.Kind)))
def fZ (self:Query→(ae→Option bq)→Option Bool) (aa:Query) (er:ae→Option bq) (n8:Int):Option (Int⊕Bool):=
 if n8 < (aa.Kids.length:Int) then
  (idx aa.Kids n8).bind fun v9=>
  (self v9 er).bind fun v11=>
  if (v11 !=(decide (aa.Kind=(4:Int))))=true then
   Option.map .inr (some (decide (¬ (aa.Kind=(4:Int)))))
  else
   some (.inl (cr (n8+(1:Int))))
 else
  Option.map .inr (some (decide (aa.Kind=(4:Int))))
def uj (self:Query→(ae→Option bq)→Option Bool) (aa:Query) (er:ae→Option bq) (n8:Int):Option Bool:=
 iter (fun x:Int=>fZ self aa er x) n8
def ef (self:Query→(ae→Option bq)→Option Bool) (aa:Query) (er:ae→Option bq):Option Bool:=
 if aa.Kind=(1:Int) then
  (er aa.Field).bind fun v2=>
  (pO aa v2).bind fun v3=>
  some v3
 else
  if aa.Kind=(2:Int) then
   (er aa.Field).bind fun v4=>
   some v4.Is
  else
   if aa.Kind=(3:Int) then
    (idx aa.Kids (0:Int)).bind fun v5=>
    (self v5 er).bind fun v6=>
    some (!v6)
   else
    uj self aa er (0:Int)
def dG:Nat→Query→(ae→Option bq)→Option Bool
 | 0=>fun _ _=>none
 | k+1=>ef (dG k)
def Bt (aa:Query) (er:ae→Option bq):Option Bool:=
 dG depth aa er
def dV (aa:Query) (ah:aE):Option Bool:=
 (Bt aa (fun y0=>nt y0 ah)).bind fun v3=>
 some v3
def dW (n37:Int) (Fx:List ar) (Yg:List bN) (B9:List aK) (P5:List bA) (HJ:List (ae×ae)) (Dm:List (ae×(List ae))) (Lp:List (ae×(List Int))) (Lt:List (aX×(List Int))) (HK:List Reason):Option (((List ar)×(List bN)×(List aK)×(List bA)×(List (ae×ae))×(List (ae×(List ae)))×(List (ae×(List Int)))×(List (aX×(List Int)))×(List Reason)×Int)⊕((List Reason)×ak)):=
 some (.inl (Fx,Yg,B9,P5,HJ,Dm,Lp,Lt,HK,cr (n37+(1:Int))))
def cP (n37:Int) (Ca:bA) (v54:(List Int)×ak) (DS:List Reason) (n60:Int):Option (((List Reason)×Int)⊕(((List ar)×(List bN)×(List aK)×(List bA)×(List (ae×ae))×(List (ae×(List ae)))×(List (ae×(List Int)))×(List (aX×(List Int)))×(List Reason)×Int)⊕((List Reason)×ak))):=
 if n60 < (v54.1.length:Int) then
  (idx v54.1 n60).bind fun Ad=>
  (app DS [(⟨Ad,Ca.Key⟩:Reason)]).bind fun EG=>
  some (.inl (EG,cr (n60+(1:Int))))
 else
  Option.map .inr (dW n37 v54.2.bb.al v54.2.bb.bj v54.2.bb.aD v54.2.bb.aI v54.2.aW v54.2.cT v54.2.at_ v54.2.cG DS)
def mN (n37:Int) (Ca:bA) (v54:(List Int)×ak) (DS:List Reason) (n60:Int):Option (((List ar)×(List bN)×(List aK)×(List bA)×(List (ae×ae))×(List (ae×(List ae)))×(List (ae×(List Int)))×(List (aX×(List Int)))×(List Reason)×Int)⊕((List Reason)×ak)):=
 iter (fun x:(List Reason)×Int=>cP n37 Ca v54 x.1 x.2) (DS,n60)
def cE (aa:ak) (ah:ae) (AF:List ar) (EE:List bN) (B7:List aK) (KP:List bA) (Bs:List (ae×ae)) (Ac:List (ae×(List ae))) (EJ:List (ae×(List Int))) (EI:List (aX×(List Int))) (Dn:List Reason) (n37:Int) (Ca:bA) (Yh:Bool):Option (((List ar)×(List bN)×(List aK)×(List bA)×(List (ae×ae))×(List (ae×(List ae)))×(List (ae×(List Int)))×(List (aX×(List Int)))×(List Reason)×Int)⊕((List Reason)×ak)):=
 if Yh=true then
  dW n37 AF EE B7 KP Bs Ac EJ EI Dn
 else
  (gZ (⟨(⟨AF,EE,B7,KP⟩:bb),Bs,Ac,EJ,EI,aa.im⟩:ak) ah Ca.To).bind fun v54=>
  mN n37 Ca v54 Dn (0:Int)
def gH (aa:ak) (ah:ae) (aT:aE) (bG:Int) (v3:(List Int)×ak) (lW:(List ae)) (AF:List ar) (EE:List bN) (B7:List aK) (KP:List bA) (Bs:List (ae×ae)) (Ac:List (ae×(List ae))) (EJ:List (ae×(List Int))) (EI:List (aX×(List Int))) (Dn:List Reason) (n37:Int):Option (((List ar)×(List bN)×(List aK)×(List bA)×(List (ae×ae))×(List (ae×(List ae)))×(List (ae×(List Int)))×(List (aX×(List Int)))×(List Reason)×Int)⊕((List Reason)×ak)):=
 if n37 < (v3.2.bb.aI.length:Int) then
  (idx v3.2.bb.aI n37).bind fun Ca=>
  if bG < Ca.Time.jj then
   cE aa ah AF EE B7 KP Bs Ac EJ EI Dn n37 Ca true
  else
   if Ca.Time.To≤bG then
    cE aa ah AF EE B7 KP Bs Ac EJ EI Dn n37 Ca true
   else
    (aR lW Ca.jj).bind fun v51=>
    if (!v51)=true then
     cE aa ah AF EE B7 KP Bs Ac EJ EI Dn n37 Ca true
    else
     (kr Ca.lI ah).bind fun Vt=>
     if (!Vt)=true then
      cE aa ah AF EE B7 KP Bs Ac EJ EI Dn n37 Ca true
     else
      (dV Ca.Query aT).bind fun v53=>
      cE aa ah AF EE B7 KP Bs Ac EJ EI Dn n37 Ca (!v53)
 else
  Option.map .inr (some (Dn,(⟨(⟨AF,EE,B7,KP⟩:bb),Bs,Ac,EJ,EI,aa.im⟩:ak)))
def rP (aa:ak) (ah:ae) (aT:aE) (bG:Int) (v3:(List Int)×ak) (lW:(List ae)) (AF:List ar) (EE:List bN) (B7:List aK) (KP:List bA) (Bs:List (ae×ae)) (Ac:List (ae×(List ae))) (EJ:List (ae×(List Int))) (EI:List (aX×(List Int))) (Dn:List Reason) (n37:Int):Option ((List Reason)×ak):=
 iter (fun x:(List ar)×(List bN)×(List aK)×(List bA)×(List (ae×ae))×(List (ae×(List ae)))×(List (ae×(List Int)))×(List (aX×(List Int)))×(List Reason)×Int=>gH aa ah aT bG v3 lW x.1 x.2.1 x.2.2.1 x.2.2.2.1 x.2.2.2.2.1 x.2.2.2.2.2.1 x.2.2.2.2.2.2.1 x.2.2.2.2.2.2.2.1 x.2.2.2.2.2.2.2.2.1 x.2.2.2.2.2.2.2.2.2) (AF,EE,B7,KP,Bs,Ac,EJ,EI,Dn,n37)
def gI (aa:ak) (ah:ae) (aT:aE) (bG:Int) (v3:(List Int)×ak) (l8:List Reason):Option ((List Reason)×ak):=
 (gn (⟨v3.2.bb,v3.2.aW,v3.2.cT,v3.2.at_,v3.2.cG,aa.im⟩:ak) aT.Device.ar).bind fun lW=>
 rP aa ah aT bG v3 lW v3.2.bb.al v3.2.bb.bj v3.2.bb.aD v3.2.bb.aI v3.2.aW v3.2.cT v3.2.at_ v3.2.cG l8 (0:Int)
def cQ (aa:ak) (ah:ae) (aT:aE) (bG:Int) (v3:(List Int)×ak) (l8:List Reason) (n9:Int):Option (((List Reason)×Int)⊕((List Reason)×ak)):=
 if n9 < (v3.1.length:Int) then
  (idx v3.1 n9).bind fun v11=>
  (app l8 [(⟨v11,[]⟩:Reason)]).bind fun ye=>
  some (.inl (ye,cr (n9+(1:Int))))
 else
  Option.map .inr (gI aa ah aT bG v3 l8)
def rQ (aa:ak) (ah:ae) (aT:aE) (bG:Int) (v3:(List Int)×ak) (l8:List Reason) (n9:Int):Option ((List Reason)×ak):=
 iter (fun x:(List Reason)×Int=>cQ aa ah aT bG v3 x.1 x.2) (l8,n9)
def hC (aa:ak) (ah:ae) (aT:aE) (bG:Int):Option ((List Reason)×ak):=
 if aT.Device.ar=([]:ae) then
  some ([],aa)
 else
  (gZ aa ah aT.Device.ar).bind fun v3=>
  rQ aa ah aT bG v3 [] (0:Int)
def fG (aa:List ae):Option (List ae):=
 Mt Et aa
def eZ (n11:Int) (xh:List ae) (n15:Int):Option (((List ae)×Int×Int)⊕(Int⊕(List ae))):=
 some (.inl (xh,n15,cr (n11+(1:Int))))
def lS (l9:List ae) (n10:Int):Option (Int⊕(List ae)):=
 (yb l9 n10 (l9.length:Int)).bind fun AY=>
 (yb (FK l9 n10 AY.length []) (0:Int) n10).bind fun Cb=>
 Option.map .inr (some Cb)
def fa (n2:Int) (l5:List ae) (l9:List ae) (n10:Int) (n11:Int):Option (((List ae)×Int×Int)⊕(Int⊕(List ae))):=
 if n11 < (l5.length:Int) then
  (zH l9 n2 l5.length n11).bind fun v12=>
  (zH l9 n2 l5.length (cr (n11 - (1:Int)))).bind fun mb=>
  if v12≠mb then
   (zH l9 n2 l5.length n11).bind fun dU=>
   (idx l9 n10).bind fun v17=>
   eZ n11 (l9.set n10.toNat dU) (cr (n10+(1:Int)))
  else
   eZ n11 l9 n10
 else
  Option.map .inr (lS l9 n10)
def su (n2:Int) (l5:List ae) (l9:List ae) (n10:Int) (n11:Int):Option (Int⊕(List ae)):=
 iter (fun x:(List ae)×Int×Int=>fa n2 l5 x.1 x.2.1 x.2.2) (l9,n10,n11)
def fc (aa:List ae) (n2:Int):Option (Int⊕(List ae)):=
 if n2 < (aa.length:Int) then
  (idx aa n2).bind fun v3=>
  (idx aa (cr (n2 - (1:Int)))).bind fun v4=>
  if v3=v4 then
   (yb aa n2 (aa.length:Int)).bind fun l5=>
   su n2 l5 aa n2 (1:Int)
  else
   some (.inl (cr (n2+(1:Int))))
 else
  Option.map .inr (some aa)
def sv (aa:List ae) (n2:Int):Option (List ae):=
 iter (fun x:Int=>fc aa x) n2
def eh (aa:List ae):Option (List ae):=
 if (aa.length:Int) < (2:Int) then
  some aa
 else
  sv aa (1:Int)
def lh (aa:ak) (v2:(List Reason)×ak) (l8:List ae):Option ((List ae)×ak):=
 (wM l8.length (fun r:(List ae)=>r.length) (fG l8)).bind fun dU=>
 (eh dU).bind fun v17=>
 some (v17,(⟨v2.2.bb,v2.2.aW,v2.2.cT,v2.2.at_,v2.2.cG,aa.im⟩:ak))
def dq (aa:ak) (v2:(List Reason)×ak) (l8:List ae) (n9:Int):Option (((List ae)×Int)⊕((List ae)×ak)):=
 if n9 < (v2.1.length:Int) then
  (idx v2.1 n9).bind fun v11=>
  (idx v2.2.bb.aD v11.aK).bind fun mb=>
  (app l8 [mb.lV]).bind fun xh=>
  some (.inl (xh,cr (n9+(1:Int))))
 else
  Option.map .inr (lh aa v2 l8)
def tT (aa:ak) (v2:(List Reason)×ak) (l8:List ae) (n9:Int):Option ((List ae)×ak):=
 iter (fun x:(List ae)×Int=>dq aa v2 x.1 x.2) (l8,n9)
def gJ (aa:ak) (ah:ae) (aT:aE) (bG:Int):Option ((List ae)×ak):=
 (hC aa ah aT bG).bind fun v2=>
 tT aa v2 [] (0:Int)
def qt (aa:bb) (ah:ae) (aT:ae) (bG:aE) (eB:Int):Option (Bool×Int):=
 (lg aa ah aT bG eB).bind fun v4=>
 j5 v4.1 (
  if v4.2≠(0:Int) then
   some (false,v4.2)
  else
   none) (fun x5=>
  if v4.2≠(0:Int) then
   some (false,v4.2)
  else
   (gJ x5 aT bG eB).bind fun v12=>
   (aR v12.1 ah).bind fun lW=>
   some (lW,(0:Int)))
def nH (aa:Reason) (ah:ak) (aT:ae):Option Bool:=
 (idx ah.bb.aD aa.aK).bind fun v2=>
 some (decide (v2.lV≠aT))
def ej (aa:List Reason) (er:Reason→Option Bool) (n2:Int):Option (Int⊕Int):=
 if n2 < (aa.length:Int) then
  (idx aa n2).bind fun v3=>
  (er v3).bind fun v4=>
  if v4=true then
   Option.map .inr (some n2)
  else
   some (.inl (cr (n2+(1:Int))))
 else
  Option.map .inr (some (-1:Int))
def qP (aa:List Reason) (er:Reason→Option Bool) (n2:Int):Option Int:=
 iter (fun x:Int=>ej aa er x) n2
def iw (aa:List Reason) (er:Reason→Option Bool):Option Int:=
 qP aa er (0:Int)
def dX (n7:Int) (AH:List Reason) (n12:Int):Option (((List Reason)×Int×Int)⊕(List Reason)):=
 some (.inl (AH,n12,cr (n7+(1:Int))))
def ku (l5:List Reason) (n6:Int):Option (List Reason):=
 (yb l5 n6 (l5.length:Int)).bind fun xh=>
 (yb (FK l5 n6 xh.length (⟨(0:Int),[]⟩:Reason)) (0:Int) n6).bind fun qq=>
 some qq
def dY (er:Reason→Option Bool) (l5:List Reason) (n6:Int) (n7:Int):Option (((List Reason)×Int×Int)⊕(List Reason)):=
 if n7 < (l5.length:Int) then
  (idx l5 n7).bind fun v8=>
  (er v8).bind fun v10=>
  if (!v10)=true then
   (idx l5 n6).bind fun mb=>
   dX n7 (l5.set n6.toNat v8) (cr (n6+(1:Int)))
  else
   dX n7 l5 n6
 else
  Option.map .inr (ku l5 n6)
def qu (er:Reason→Option Bool) (l5:List Reason) (n6:Int) (n7:Int):Option (List Reason):=
 iter (fun x:(List Reason)×Int×Int=>dY er x.1 x.2.1 x.2.2) (l5,n6,n7)
def fe (aa:List Reason) (er:Reason→Option Bool):Option (List Reason):=
 (iw aa er).bind fun v1=>
 if v1=(-1:Int) then
  some aa
 else
  qu er aa v1 (cr (v1+(1:Int)))
def tq (aa:Reason) (ah:Reason):Option Int:=
 (gD [(cmp_Compare_int aa.aK ah.aK),(Lib.compareBytes aa.bA ah.bA)]).bind fun v3=>
 some v3
def dP (aa:List Reason) (er:Reason→Reason→Option Int):Option (List Reason):=
 Mr er aa
def qx (aa:bb) (ah:ae) (aT:ae) (bG:aE) (eB:Int):Option ((List Reason)×Int):=
 (lg aa ah aT bG eB).bind fun v4=>
 j5 v4.1 (
  if v4.2≠(0:Int) then
   some ([],v4.2)
  else
   none) (fun x5=>
  if v4.2≠(0:Int) then
   some ([],v4.2)
  else
   (hC x5 aT bG eB).bind fun dU=>
   (fe dU.1 (fun y0=>nH y0 (⟨dU.2.bb,dU.2.aW,dU.2.cT,dU.2.at_,dU.2.cG,x5.im⟩:ak) ah)).bind fun fH=>
   (wM fH.length (fun r:(List Reason)=>r.length) (dP fH (fun y0 y1=>tq y0 y1))).bind fun v20=>
   some (v20,(0:Int)))
def iy (aa:bb) (aT:ae) (bG:aE) (eB:Int):Option ((Option ak)×Int):=
 (cK aa).bind fun v3=>
 j5 v3.1 (
  if v3.2≠(0:Int) then
   some (none,v3.2)
  else
   (fm aT).bind fun v5=>
   if (!v5)=true then
    some (none,(5:Int))
   else
    none) (fun x4=>
  if v3.2≠(0:Int) then
   some (none,v3.2)
  else
   (fm aT).bind fun v12=>
   if (!v12)=true then
    some (none,(5:Int))
   else
    (fR x4 bG eB).bind fun mb=>
    if mb≠(0:Int) then
     some (none,mb)
    else
     some (some x4,(0:Int)))
def qy (aa:bb) (ah:ae) (aT:aE) (bG:Int):Option ((List ae)×Int):=
 (iy aa ah aT bG).bind fun v3=>
 j5 v3.1 (
  if v3.2≠(0:Int) then
   some ([],v3.2)
  else
   none) (fun x4=>
  if v3.2≠(0:Int) then
   some ([],v3.2)
  else
   (gJ x4 ah aT bG).bind fun mb=>
   some (mb.1,(0:Int)))
def jd (n2:Int) (c6:Bool):Option (Int⊕Int):=
 if c6=true then
  Option.map .inr (some (7:Int))
 else
  some (.inl (cr (n2+(1:Int))))
def gK (aa:List aE) (n2:Int):Option (Int⊕Int):=
 if n2 < (aa.length:Int) then
  (idx aa n2).bind fun v3=>
  (dE v3).bind fun v5=>
  if v5≠(0:Int) then
   Option.map .inr (some v5)
  else
   if (0:Int) < n2 then
    (idx aa (cr (n2 - (1:Int)))).bind fun v7=>
    jd n2 (Op.bytesLess v3.Device.Key v7.Device.Key||v3.Device.Key==v7.Device.Key)
   else
    jd n2 false
 else
  Option.map .inr (some (0:Int))
def rR (aa:List aE) (n2:Int):Option Int:=
 iter (fun x:Int=>gK aa x) n2
def gL (aa:List aE):Option Int:=
 if (500:Int) < (aa.length:Int) then
  some (2:Int)
 else
  rR aa (0:Int)
def iW (c2:Bool):Option Bool:=
 some c2
def lj (aa:aE) (ah:ak):Option Bool:=
 if aa.Device.ar≠([]:ae) then
  (fk ah aa.Device.ar).bind fun v3=>
  iW (!v3)
 else
  iW false
def bW (aa:List aE) (aT:ak) (n2:Int):Option (Int⊕Int):=
 if n2 < (aa.length:Int) then
  (idx aa n2).bind fun v3=>
  (lj v3 aT).bind fun v4=>
  if v4=true then
   Option.map .inr (some n2)
  else
   some (.inl (cr (n2+(1:Int))))
 else
  Option.map .inr (some (-1:Int))
def jR (aa:List aE) (aT:ak) (n2:Int):Option Int:=
 iter (fun x:Int=>bW aa aT x) n2
def di (aa:List aE) (aT:ak):Option Int:=
 jR aa aT (0:Int)
def bX (aa:List aE) (aT:ak):Option Bool:=
 (di aa aT).bind fun v1=>
 some (decide ((0:Int)≤v1))
def oo (bG:List aE) (c6:Bool):Option ((List ae)×Int):=
 if c6=true then
  some ([],(5:Int))
 else
  (gL bG).bind fun v10=>
  if v10≠(0:Int) then
   some ([],v10)
  else
   none
def je (n50:Int) (v54:(List ae)×ak) (JJ:List ae):Option (((List ar)×(List bN)×(List aK)×(List bA)×(List (ae×ae))×(List (ae×(List ae)))×(List (ae×(List Int)))×(List (aX×(List Int)))×(List ae)×Int)⊕((List ae)×Int)):=
 some (.inl (v54.2.bb.al,v54.2.bb.bj,v54.2.bb.aD,v54.2.bb.aI,v54.2.aW,v54.2.cT,v54.2.at_,v54.2.cG,JJ,cr (n50+(1:Int))))
def ll (ah:ae) (aT:ae) (bG:List aE) (eB:Int) (x3:ak) (B9:List ar) (P5:List bN) (HJ:List aK) (Dm:List bA) (Lp:List (ae×ae)) (Lt:List (ae×(List ae))) (OG:List (ae×(List Int))) (HK:List (aX×(List Int))) (OI:List ae) (n50:Int):Option (((List ar)×(List bN)×(List aK)×(List bA)×(List (ae×ae))×(List (ae×(List ae)))×(List (ae×(List Int)))×(List (aX×(List Int)))×(List ae)×Int)⊕((List ae)×Int)):=
 if n50 < (bG.length:Int) then
  (idx bG n50).bind fun Vt=>
  (gJ (⟨(⟨B9,P5,HJ,Dm⟩:bb),Lp,Lt,OG,HK,x3.im⟩:ak) aT Vt eB).bind fun v54=>
  (aR v54.1 ah).bind fun KO=>
  if KO=true then
   (app OI [Vt.Device.Key]).bind fun DS=>
   je n50 v54 DS
  else
   je n50 v54 OI
 else
  Option.map .inr (some (OI,(0:Int)))
def oq (ah:ae) (aT:ae) (bG:List aE) (eB:Int) (x3:ak) (B9:List ar) (P5:List bN) (HJ:List aK) (Dm:List bA) (Lp:List (ae×ae)) (Lt:List (ae×(List ae))) (OG:List (ae×(List Int))) (HK:List (aX×(List Int))) (OI:List ae) (n50:Int):Option ((List ae)×Int):=
 iter (fun x:(List ar)×(List bN)×(List aK)×(List bA)×(List (ae×ae))×(List (ae×(List ae)))×(List (ae×(List Int)))×(List (aX×(List Int)))×(List ae)×Int=>ll ah aT bG eB x3 x.1 x.2.1 x.2.2.1 x.2.2.2.1 x.2.2.2.2.1 x.2.2.2.2.2.1 x.2.2.2.2.2.2.1 x.2.2.2.2.2.2.2.1 x.2.2.2.2.2.2.2.2.1 x.2.2.2.2.2.2.2.2.2) (B9,P5,HJ,Dm,Lp,Lt,OG,HK,OI,n50)
def ln (ah:ae) (aT:ae) (bG:List aE) (eB:Int) (x3:ak) (c20:Bool):Option ((List ae)×Int):=
 if c20=true then
  some ([],(5:Int))
 else
  (gL bG).bind fun v24=>
  if v24≠(0:Int) then
   some ([],v24)
  else
   (bX bG x3).bind fun v26=>
   if v26=true then
    some ([],(8:Int))
   else
    if (!(oQ eB))=true then
     some ([],(1:Int))
    else
     oq ah aT bG eB x3 x3.bb.al x3.bb.bj x3.bb.aD x3.bb.aI x3.aW x3.cT x3.at_ x3.cG [] (0:Int)
def kA (aa:bb) (ah:ae) (aT:ae) (bG:List aE) (eB:Int):Option ((List ae)×Int):=
 (cK aa).bind fun v2=>
 j5 v2.1 (
  if v2.2≠(0:Int) then
   some ([],v2.2)
  else
   (gA ah).bind fun v7=>
   if (!v7)=true then
    oo bG true
   else
    (fm aT).bind fun v8=>
    oo bG (!v8)) (fun x3=>
  if v2.2≠(0:Int) then
   some ([],v2.2)
  else
   (gA ah).bind fun v21=>
   if (!v21)=true then
    ln ah aT bG eB x3 true
   else
    (fm aT).bind fun v22=>
    ln ah aT bG eB x3 (!v22))
def xB (c1:Bool):Bool:=
 c1
def yf (aa:Int) (ah:Int) (aT:Int):Bool:=
 xB ((decide (ah≤aa))&&(decide (aa≤aT)))
def wS (c1:Bool):Option Bool:=
 some c1
def tU (aa:ae):Option Bool:=
 if (yf (aa.length:Int) (1:Int) (40:Int))=true then
  (GN aa ([97,98,99,100,101,102,103,104,105,106,107,108,109,110,111,112,113,114,115,116,117,118,119,120,121,122,48,49,50,51,52,53,54,55,56,57,45,95]:ae)).bind fun v2=>
  if v2=([]:ae) then
   (idx aa (0:Int)).bind fun c3=>
   wS (decide ((0:Int)≤(xw ([97,98,99,100,101,102,103,104,105,106,107,108,109,110,111,112,113,114,115,116,117,118,119,120,121,122]:ae) (c3.toNat:Int))))
  else
   wS false
 else
  wS false
def tt (aa:ar) (ah:ae):Bool:=
 decide (aa.Key=ah)
def ek (aa:List ar) (er:ar→Option Bool) (n2:Int):Option (Int⊕Int):=
 if n2 < (aa.length:Int) then
  (idx aa n2).bind fun v3=>
  (er v3).bind fun v4=>
  if v4=true then
   Option.map .inr (some n2)
  else
   some (.inl (cr (n2+(1:Int))))
 else
  Option.map .inr (some (-1:Int))
def qQ (aa:List ar) (er:ar→Option Bool) (n2:Int):Option Int:=
 iter (fun x:Int=>ek aa er x) n2
def fE (aa:List ar) (er:ar→Option Bool):Option Int:=
 qQ aa er (0:Int)
def fp (aa:bb) (ah:ae):Option Int:=
 (fE aa.al (fun y0=>some (tt y0 ah))).bind fun v3=>
 some v3
def oR (aa:bb) (q5:ae) (l7:List ae):Option ((ae×(List ae))⊕(List ae)):=
 if q5≠([]:ae) then
  (aR l7 q5).bind fun v9=>
  if v9=true then
   Option.map .inr (some [])
  else
   (app l7 [q5]).bind fun l10=>
   (fp aa q5).bind fun v12=>
   (idx aa.al v12).bind fun mb=>
   some (.inl (mb.fi,l10))
 else
  Option.map .inr (some l7)
def tV (aa:bb) (q5:ae) (l7:List ae):Option (List ae):=
 iter (fun x:ae×(List ae)=>oR aa x.1 x.2) (q5,l7)
def rS (aa:bb) (ah:ae):Option (List ae):=
 tV aa ah []
def jm (aa:bb) (q5:ae) (l7:List ae):Option ((ae×(List ae))⊕(Option (List ae))):=
 if q5≠([]:ae) then
  (aR l7 q5).bind fun v9=>
  if v9=true then
   Option.map .inr (some none)
  else
   (app l7 [q5]).bind fun l10=>
   (fp aa q5).bind fun v12=>
   (idx aa.al v12).bind fun mb=>
   some (.inl (mb.fi,l10))
 else
  Option.map .inr (some (some l7))
def nu (aa:bb) (q5:ae) (l7:List ae):Option (Option (List ae)):=
 iter (fun x:ae×(List ae)=>jm aa x.1 x.2) (q5,l7)
def rU (aa:bb) (ah:ae):Option (Option (List ae)):=
 nu aa ah []
def gM (n3:Int) (c7:Bool):Option (Int⊕Int):=
 if c7=true then
  Option.map .inr (some (7:Int))
 else
  some (.inl (cr (n3+(1:Int))))
def gN (n10:Int) (Dp:Bool):Option (Int⊕Int):=
 if Dp=true then
  Option.map .inr (some (8:Int))
 else
  some (.inl (cr (n10+(1:Int))))
def gO (aa:bb) (n24:Int):Option (Int⊕Int):=
 if n24 < (aa.al.length:Int) then
  (idx aa.al n24).bind fun v25=>
  (rS aa v25.Key).bind fun HL=>
  if (11:Int) < (HL.length:Int) then
   Option.map .inr (some (2:Int))
  else
   some (.inl (cr (n24+(1:Int))))
 else
  Option.map .inr (some (0:Int))
def ot (aa:bb) (n24:Int):Option Int:=
 iter (fun x:Int=>gO aa x) n24
def eO (aa:bb) (n16:Int):Option (Int⊕Int):=
 if n16 < (aa.al.length:Int) then
  (idx aa.al n16).bind fun v17=>
  (rU aa v17.Key).bind fun dI=>
  j5 dI (
   Option.map .inr (some (14:Int))) (fun x20=>
   (GL x20).bind fun v22=>
   some (.inl (cr (n16+(1:Int)))))
 else
  Option.map .inr (ot aa (0:Int))
def jf (aa:bb) (n16:Int):Option Int:=
 iter (fun x:Int=>eO aa x) n16
def lp (aa:bb) (n10:Int):Option (Int⊕Int):=
 if n10 < (aa.al.length:Int) then
  (idx aa.al n10).bind fun v11=>
  if v11.fi≠([]:ae) then
   (fp aa v11.fi).bind fun lW=>
   gN n10 (decide (lW < (0:Int)))
  else
   gN n10 false
 else
  Option.map .inr (jf aa (0:Int))
def rV (aa:bb) (n10:Int):Option Int:=
 iter (fun x:Int=>lp aa x) n10
def lr (aa:bb) (n3:Int):Option (Int⊕Int):=
 if n3 < (aa.al.length:Int) then
  (idx aa.al n3).bind fun v4=>
  (tU v4.Key).bind fun v6=>
  if (!v6)=true then
   Option.map .inr (some (5:Int))
  else
   if (0:Int) < n3 then
    (idx aa.al (cr (n3 - (1:Int)))).bind fun v8=>
    gM n3 (Op.bytesLess v4.Key v8.Key||v4.Key==v8.Key)
   else
    gM n3 false
 else
  Option.map .inr (rV aa (0:Int))
def vV (aa:bb) (n3:Int):Option Int:=
 iter (fun x:Int=>lr aa x) n3
def oS (aa:bb):Option Int:=
 if (200:Int) < (aa.al.length:Int) then
  some (2:Int)
 else
  vV aa (0:Int)
def iL (aa:ae):Option Bool:=
 (tU aa).bind fun v1=>
 some (!v1)
def nI (c9:Bool):Option Bool:=
 some c9
def jJ (aa:ae) (l5:List ae):Option Bool:=
 (AD aa ([46]:ae)).bind fun v10=>
 if (v10.length:Int)≤(5:Int) then
  (aM l5 (fun y0=>iL y0)).bind fun v12=>
  nI (!v12)
 else
  nI false
def nJ (aa:ae) (v1:(List ae)) (c3:Bool):Option Bool:=
 if c3=true then
  (yb v1 (0:Int) (cr ((v1.length:Int) - (1:Int)))).bind fun l6=>
  jJ aa l6
 else
  (idx v1 (cr ((v1.length:Int) - (1:Int)))).bind fun v7=>
  (tU v7).bind fun v8=>
  if (!v8)=true then
   some false
  else
   jJ aa v1
def oT (aa:ae) (ah:Bool):Option Bool:=
 (AD aa ([46]:ae)).bind fun v1=>
 if (!ah)=true then
  (idx v1 (cr ((v1.length:Int) - (1:Int)))).bind fun v4=>
  nJ aa v1 (decide (v4=([42]:ae)))
 else
  nJ aa v1 false
def kB (n2:Int) (c5:Bool):Option (Int⊕Int):=
 if c5=true then
  Option.map .inr (some (7:Int))
 else
  some (.inl (cr (n2+(1:Int))))
def kC (aa:List ae) (ah:Bool) (n2:Int):Option (Int⊕Int):=
 if n2 < (aa.length:Int) then
  (idx aa n2).bind fun v3=>
  (oT v3 ah).bind fun v4=>
  if (!v4)=true then
   Option.map .inr (some (5:Int))
  else
   if (0:Int) < n2 then
    (idx aa (cr (n2 - (1:Int)))).bind fun v6=>
    kB n2 (Op.bytesLess v3 v6||v3==v6)
   else
    kB n2 false
 else
  Option.map .inr (some (0:Int))
def rW (aa:List ae) (ah:Bool) (n2:Int):Option Int:=
 iter (fun x:Int=>kC aa ah x) n2
def vW (aa:List ae) (ah:Bool):Option Int:=
 rW aa ah (0:Int)
def qz (aa:List ae):Option Int:=
 if (aa.length:Int)=(0:Int) then
  some (8:Int)
 else
  if (50:Int) < (aa.length:Int) then
   some (2:Int)
  else
   (vW aa false).bind fun v1=>
   some v1
def vX (aa:bN) (ah:ae):Bool:=
 decide (aa.Key=ah)
def fM (aa:List bN) (er:bN→Option Bool) (n2:Int):Option (Int⊕Int):=
 if n2 < (aa.length:Int) then
  (idx aa n2).bind fun v3=>
  (er v3).bind fun v4=>
  if v4=true then
   Option.map .inr (some n2)
  else
   some (.inl (cr (n2+(1:Int))))
 else
  Option.map .inr (some (-1:Int))
def tW (aa:List bN) (er:bN→Option Bool) (n2:Int):Option Int:=
 iter (fun x:Int=>fM aa er x) n2
def gP (aa:List bN) (er:bN→Option Bool):Option Int:=
 tW aa er (0:Int)
def wT (aa:bb) (ah:ae):Option Int:=
 (gP aa.bj (fun y0=>some (vX y0 ah))).bind fun v3=>
 some v3
def ie (n3:Int) (v4:bN) (c7:Bool):Option (Int⊕Int):=
 if c7=true then
  Option.map .inr (some (7:Int))
 else
  (qz v4.lI).bind fun v9=>
  if v9≠(0:Int) then
   Option.map .inr (some v9)
  else
   some (.inl (cr (n3+(1:Int))))
def qj (n11:Int) (P3:Bool):Option (Int⊕Int):=
 if P3=true then
  Option.map .inr (some (7:Int))
 else
  some (.inl (cr (n11+(1:Int))))
def jn (aa:bb) (n11:Int) (v12:aK) (OJ:Bool):Option (Int⊕Int):=
 if OJ=true then
  Option.map .inr (some (8:Int))
 else
  if (0:Int) < n11 then
   (idx aa.aD (cr (n11 - (1:Int)))).bind fun dI=>
   (idx aa.aD (cr (n11 - (1:Int)))).bind fun v20=>
   (idx aa.aD (cr (n11 - (1:Int)))).bind fun v21=>
   (gD [(Lib.compareBytes dI.lV v12.lV),(Lib.compareBytes v20.ar v12.ar),(Lib.compareBytes v21.bN v12.bN)]).bind fun v22=>
   qj n11 (decide ((0:Int)≤v22))
  else
   qj n11 false
def nv (aa:bb) (n11:Int):Option (Int⊕Int):=
 if n11 < (aa.aD.length:Int) then
  (idx aa.aD n11).bind fun v12=>
  (tU v12.lV).bind fun lW=>
  if (!lW)=true then
   Option.map .inr (some (5:Int))
  else
   (fp aa v12.ar).bind fun dU=>
   if dU < (0:Int) then
    jn aa n11 v12 true
   else
    (wT aa v12.bN).bind fun v17=>
    jn aa n11 v12 (decide (v17 < (0:Int)))
 else
  Option.map .inr (some (0:Int))
def xV (aa:bb) (n11:Int):Option Int:=
 iter (fun x:Int=>nv aa x) n11
def kR (aa:bb):Option Int:=
 if (500:Int) < (aa.aD.length:Int) then
  some (2:Int)
 else
  xV aa (0:Int)
def ig (aa:bb) (n3:Int):Option (Int⊕Int):=
 if n3 < (aa.bj.length:Int) then
  (idx aa.bj n3).bind fun v4=>
  (tU v4.Key).bind fun v6=>
  if (!v6)=true then
   Option.map .inr (some (5:Int))
  else
   if (0:Int) < n3 then
    (idx aa.bj (cr (n3 - (1:Int)))).bind fun v8=>
    ie n3 v4 (Op.bytesLess v4.Key v8.Key||v4.Key==v8.Key)
   else
    ie n3 v4 false
 else
  Option.map .inr (kR aa)
def xW (aa:bb) (n3:Int):Option Int:=
 iter (fun x:Int=>ig aa x) n3
def rZ (aa:bb):Option Int:=
 if (50:Int) < (aa.bj.length:Int) then
  some (2:Int)
 else
  xW aa (0:Int)
def lu (self:Query→Option (List Query)) (aa:Query) (ye:List Query) (n13:Int):Option (((List Query)×Int)⊕(List Query)):=
 if n13 < (aa.Kids.length:Int) then
  (idx aa.Kids n13).bind fun lW=>
  (self lW).bind fun dU=>
  (app ye dU).bind fun AY=>
  some (.inl (AY,cr (n13+(1:Int))))
 else
  Option.map .inr (some ye)
def yH (self:Query→Option (List Query)) (aa:Query) (ye:List Query) (n13:Int):Option (List Query):=
 iter (fun x:(List Query)×Int=>lu self aa x.1 x.2) (ye,n13)
def tX (self:Query→Option (List Query)) (aa:Query) (l4:List Query):Option (List Query):=
 yH self aa l4 (0:Int)
def vY (self:Query→Option (List Query)) (aa:Query) (c2:Bool):Option (List Query):=
 if c2=true then
  (app ([]:List Query) [aa]).bind fun l5=>
  tX self aa l5
 else
  tX self aa []
def tY (self:Query→Option (List Query)) (aa:Query):Option (List Query):=
 vY self aa ((decide (aa.Kind=(1:Int)))||(decide (aa.Kind=(2:Int))))
def lO:Nat→Query→Option (List Query)
 | 0=>fun _=>none
 | k+1=>tY (lO k)
def EM (aa:Query):Option (List Query):=
 lO depth aa
def o6 (self:Query→Option Int) (aa:Query) (n4:Int) (n5:Int):Option ((Int×Int)⊕Int):=
 if n5 < (aa.Kids.length:Int) then
  (idx aa.Kids n5).bind fun v6=>
  (self v6).bind fun v8=>
  some (.inl (max n4 v8,cr (n5+(1:Int))))
 else
  Option.map .inr (some (cr (n4+(1:Int))))
def GO (self:Query→Option Int) (aa:Query) (n4:Int) (n5:Int):Option Int:=
 iter (fun x:Int×Int=>o6 self aa x.1 x.2) (n4,n5)
def wU (self:Query→Option Int) (aa:Query):Option Int:=
 GO self aa (0:Int) (0:Int)
def r5:Nat→Query→Option Int
 | 0=>fun _=>none
 | k+1=>wU (r5 k)
def Lv (aa:Query):Option Int:=
 r5 depth aa
def tu (aa:Query) (ah:Query):Bool:=
 decide (aa.Kind=ah.Kind)
def pP (aa:ae):Option Bool:=
 (tU aa).bind fun v1=>
 some (!v1)
def nK (c3:Bool):Option Bool:=
 some c3
def sL (aa:ae):Option Bool:=
 (AD aa ([46]:ae)).bind fun v1=>
 if (aa.length:Int)≤(40:Int) then
  if (v1.length:Int)≤(5:Int) then
   (aM v1 (fun y0=>pP y0)).bind fun v4=>
   nK (!v4)
  else
   nK false
 else
  nK false
def nw (c7:Bool):Option Bool:=
 some c7
def kS (aa:ae) (ah:Bool) (c5:Bool):Option Bool:=
 if c5=true then
  some true
 else
  if (!ah)=true then
   (aR [([107,101,121]:ae),([109,111,100,101,108]:ae),([116,101,110,97,110,116]:ae),([102,105,114,109,119,97,114,101]:ae)] aa).bind fun v8=>
   nw v8
  else
   nw false
def kT (aa:ae) (ah:Bool) (c2:Bool):Option Bool:=
 if c2=true then
  some true
 else
  (strings_CutPrefix aa ([112,114,111,112,46]:ae)).bind fun v4=>
  if v4.2=true then
   (sL v4.1).bind fun v6=>
   kS aa ah v6
  else
   kS aa ah false
def r6 (aa:ae) (ah:Bool):Option Bool:=
 (strings_CutPrefix aa ([116,97,103,46]:ae)).bind fun v1=>
 if v1.2=true then
  (tU v1.1).bind fun v3=>
  kT aa ah v3
 else
  kT aa ah false
def ou (c2:Bool):Bool:=
 c2
def kD (aa:Version):Bool:=
 ou ((yf aa.bH (0:Int) (9999:Int))&&((yf aa.bI (0:Int) (9999:Int))&&(yf aa.bF (0:Int) (9999:Int))))
def kU (n3:Int) (c5:Bool):Option (Int⊕Bool):=
 if c5=true then
  Option.map .inr (some false)
 else
  some (.inl (cr (n3+(1:Int))))
def kV (c6:Bool):Option Bool:=
 some c6
def jo (aa:a8):Option Bool:=
 if (yf aa.Kind (0:Int) (3:Int))=true then
  if (yf aa.Number (-1000000000:Int) (1000000000:Int))=true then
   (wv aa.Words).bind fun v7=>
   kV (v7&&(decide ((aa.Words.length:Int)≤(100:Int))))
  else
   kV false
 else
  kV false
def bR (aa:a8) (n3:Int):Option (Int⊕Bool):=
 if n3 < ([aa.bV,decide (aa.Number≠(0:Int)),decide (aa.Words≠([]:ae))].length:Int) then
  (idx [aa.bV,decide (aa.Number≠(0:Int)),decide (aa.Words≠([]:ae))] n3).bind fun v4=>
  kU n3 (v4&&(decide (aa.Kind≠(cr (n3+(1:Int))))))
 else
  Option.map .inr (jo aa)
def xX (aa:a8) (n3:Int):Option Bool:=
 iter (fun x:Int=>bR aa x) n3
def o7 (aa:a8):Option Bool:=
 xX aa (0:Int)
def o8 (c12:Bool):Option Int:=
 if c12=true then
  some (10:Int)
 else
  some (0:Int)
def uE (Dp:Bool):Option Int:=
 o8 Dp
def o9 (aa:Query) (c3:Bool) (FR:Bool):Option Int:=
 if FR=true then
  o8 FR
 else
  uE ((decide (aa.Value.Kind≠(2:Int)))&&(!c3))
def pa (aa:Query) (c3:Bool) (c7:Bool):Option Int:=
 if c7=true then
  some (3:Int)
 else
  if aa.Value.Kind≠(3:Int) then
   (strings_HasPrefix aa.Field ([112,114,111,112,46]:ae)).bind fun v11=>
   o9 aa c3 (!v11)
  else
   o9 aa c3 false
def r7 (aa:Query) (c3:Bool) (c9:Bool):Option Int:=
 pa aa c3 c9
def uF (aa:Query) (c3:Bool) (c6:Bool):Option Int:=
 if c6=true then
  some (1:Int)
 else
  if aa.Field=([102,105,114,109,119,97,114,101]:ae) then
   some (0:Int)
  else
   if aa.Version≠(⟨(0:Int),(0:Int),(0:Int)⟩:Version) then
    pa aa c3 (decide (aa.Version≠(⟨(0:Int),(0:Int),(0:Int)⟩:Version)))
   else
    (o7 aa.Value).bind fun v8=>
    if (!v8)=true then
     r7 aa c3 (!v8)
    else
     r7 aa c3 (decide (aa.Value.Kind=(0:Int)))
def uG (aa:Query) (c3:Bool) (c5:Bool):Option Int:=
 if c5=true then
  some (3:Int)
 else
  uF aa c3 ((decide (aa.Field=([102,105,114,109,119,97,114,101]:ae)))&&(!(kD aa.Version)))
def uH (aa:Query) (c3:Bool):Option Int:=
 (aR wQ aa.Op).bind fun v4=>
 if (!v4)=true then
  some (10:Int)
 else
  uG aa c3 ((decide (aa.Field=([102,105,114,109,119,97,114,101]:ae)))&&(decide (aa.Value≠(⟨(0:Int),false,(0:Int),[]⟩:a8))))
def nL (aa:Query):Option Int:=
 (r6 aa.Field (decide (aa.Kind=(2:Int)))).bind fun v2=>
 if (!v2)=true then
  some (5:Int)
 else
  if aa.Kind=(2:Int) then
   some (0:Int)
  else
   uH aa ((decide (aa.Op=([61,61]:ae)))||(decide (aa.Op=([33,61]:ae))))
def iM (self:Query→Option Int) (aa:Query) (n15:Int):Option (Int⊕Int):=
 if n15 < (aa.Kids.length:Int) then
  (idx aa.Kids n15).bind fun dU=>
  (self dU).bind fun fH=>
  if fH≠(0:Int) then
   Option.map .inr (some fH)
  else
   some (.inl (cr (n15+(1:Int))))
 else
  Option.map .inr (some (0:Int))
def jK (self:Query→Option Int) (aa:Query) (n15:Int):Option Int:=
 iter (fun x:Int=>iM self aa x) n15
def nM (self:Query→Option Int) (aa:Query) (EK:Bool):Option Int:=
 if EK=true then
  some (3:Int)
 else
  if aa.Kind≤(2:Int) then
   (nL aa).bind fun mb=>
   some mb
  else
   jK self aa (0:Int)
def r8 (self:Query→Option Int) (aa:Query) (c12:Bool):Option Int:=
 nM self aa c12
def pQ (self:Query→Option Int) (aa:Query) (FR:Bool):Option Int:=
 if FR=true then
  nM self aa FR
 else
  r8 self aa ((decide ((2:Int) < aa.Kind))&&(decide (aa.Field≠([]:ae))))
def jL (self:Query→Option Int) (aa:Query) (c8:Bool):Option Int:=
 if c8=true then
  some (3:Int)
 else
  pQ self aa ((decide (aa.Kind≠(1:Int)))&&((decide (aa.Op≠([]:ae)))||((decide (aa.Value≠(⟨(0:Int),false,(0:Int),[]⟩:a8)))||(decide (aa.Version≠(⟨(0:Int),(0:Int),(0:Int)⟩:Version))))))
def nN (self:Query→Option Int) (aa:Query) (c2:Bool) (c4:Bool):Option Int:=
 if c4=true then
  some (3:Int)
 else
  if c2=true then
   (bQ aa.Kids (fun y0=>some (tu y0 aa))).bind fun v9=>
   jL self aa v9
  else
   jL self aa false
def pR (self:Query→Option Int) (aa:Query) (c2:Bool) (c6:Bool):Option Int:=
 nN self aa c2 c6
def tv (self:Query→Option Int) (aa:Query) (c2:Bool) (c7:Bool):Option Int:=
 pR self aa c2 c7
def tw (self:Query→Option Int) (aa:Query) (c2:Bool) (c5:Bool):Option Int:=
 if c5=true then
  pR self aa c2 c5
 else
  tv self aa c2 (c2&&(decide ((aa.Kids.length:Int) < (2:Int))))
def tx (self:Query→Option Int) (aa:Query) (c2:Bool) (c3:Bool):Option Int:=
 if c3=true then
  nN self aa c2 c3
 else
  tw self aa c2 ((decide (aa.Kind=(3:Int)))&&(decide ((aa.Kids.length:Int)≠(1:Int))))
def pS (self:Query→Option Int) (aa:Query) (c2:Bool):Option Int:=
 tx self aa c2 ((decide (aa.Kind≤(2:Int)))&&(decide ((0:Int) < (aa.Kids.length:Int))))
def nO (self:Query→Option Int) (aa:Query):Option Int:=
 if (!(yf aa.Kind (1:Int) (5:Int)))=true then
  some (4:Int)
 else
  pS self aa ((decide (aa.Kind=(4:Int)))||(decide (aa.Kind=(5:Int))))
def jB:Nat→Query→Option Int
 | 0=>fun _=>none
 | k+1=>nO (jB k)
def AI (aa:Query):Option Int:=
 jB depth aa
def ny (aa:Query) (c2:Bool):Option Int:=
 if c2=true then
  some (2:Int)
 else
  (AI aa).bind fun v6=>
  some v6
def r9 (aa:Query):Option Int:=
 (EM aa).bind fun v3=>
 if (40:Int) < (v3.length:Int) then
  ny aa true
 else
  (Lv aa).bind fun v5=>
  ny aa (decide ((20:Int) < v5))
def pb (c2:Bool):Int:=
 if c2=true then
  (1:Int)
 else
  (0:Int)
def nP (aa:oC):Int:=
 pb ((!(yf aa.jj (0:Int) aa.To))||(decide ((345686400000:Int) < aa.To)))
def qk (aa:List Int) (n2:Int):Option (Int⊕Int):=
 if n2 < (aa.length:Int) then
  (idx aa n2).bind fun v3=>
  if v3≠(0:Int) then
   Option.map .inr (some v3)
  else
   some (.inl (cr (n2+(1:Int))))
 else
  Option.map .inr (some (0:Int))
def Dq (aa:List Int) (n2:Int):Option Int:=
 iter (fun x:Int=>qk aa x) n2
def gQ (aa:List Int):Option Int:=
 Dq aa (0:Int)
def lP (n5:Int) (v6:bA) (EL:Bool):Option (Int⊕Int):=
 if EL=true then
  Option.map .inr (some (13:Int))
 else
  (r9 v6.Query).bind fun dI=>
  (qz v6.lI).bind fun v20=>
  (gQ [dI,v20,(nP v6.Time)]).bind fun v21=>
  if v21≠(0:Int) then
   Option.map .inr (some v21)
  else
   some (.inl (cr (n5+(1:Int))))
def lQ (aa:bb) (n5:Int) (v6:bA) (EK:Bool):Option (Int⊕Int):=
 if EK=true then
  Option.map .inr (some (8:Int))
 else
  (rS aa v6.jj).bind fun FO=>
  (aR FO v6.To).bind fun dU=>
  if dU=true then
   lP n5 v6 true
  else
   (rS aa v6.To).bind fun v17=>
   (aR v17 v6.jj).bind fun fH=>
   lP n5 v6 fH
def nQ (aa:bb) (n5:Int) (v6:bA) (c9:Bool):Option (Int⊕Int):=
 if c9=true then
  Option.map .inr (some (7:Int))
 else
  (fp aa v6.jj).bind fun v12=>
  if v12 < (0:Int) then
   lQ aa n5 v6 true
  else
   (fp aa v6.To).bind fun mb=>
   lQ aa n5 v6 (decide (mb < (0:Int)))
def pT (aa:bb) (n5:Int):Option (Int⊕Int):=
 if n5 < (aa.aI.length:Int) then
  (idx aa.aI n5).bind fun v6=>
  (tU v6.Key).bind fun v8=>
  if (!v8)=true then
   Option.map .inr (some (5:Int))
  else
   if (0:Int) < n5 then
    (idx aa.aI (cr (n5 - (1:Int)))).bind fun v10=>
    nQ aa n5 v6 (Op.bytesLess v6.Key v10.Key||v6.Key==v10.Key)
   else
    nQ aa n5 v6 false
 else
  Option.map .inr (some (0:Int))
def wx (aa:bb) (n5:Int):Option Int:=
 iter (fun x:Int=>pT aa x) n5
def vf (aa:bb):Option Int:=
 (oS aa).bind fun v2=>
 if v2≠(0:Int) then
  some v2
 else
  (rZ aa).bind fun v3=>
  if v3≠(0:Int) then
   some v3
  else
   if (200:Int) < (aa.aI.length:Int) then
    some (2:Int)
   else
    wx aa (0:Int)
def vg (aa:ae):Option Int:=
 (tU aa).bind fun v1=>
 if (!v1)=true then
  some (5:Int)
 else
  some (0:Int)
def vh (aa:ae):Option Int:=
 (oT aa true).bind fun v1=>
 if (!v1)=true then
  some (5:Int)
 else
  some (0:Int)
def cF (aa:Int):Int:=
 if (!(yf aa (0:Int) (345686399999:Int)))=true then
  (1:Int)
 else
  (0:Int)
def xC (n2:Int) (c4:Bool):Option (Int⊕Bool):=
 if c4=true then
  Option.map .inr (some false)
 else
  some (.inl (cr (n2+(1:Int))))
def sM (c5:Bool):Option Bool:=
 some c5
def xD (aa:ae):Option Bool:=
 (wv aa).bind fun v6=>
 if v6=true then
  (GN aa ([32]:ae)).bind fun v7=>
  if aa=v7 then
   (strings_Contains aa ([32,32]:ae)).bind fun v8=>
   sM (!v8)
  else
   sM false
 else
  sM false
def mO (aa:ae) (n2:Int):Option (Int⊕Bool):=
 if n2 < ((mJ aa).length:Int) then
  (idx (mJ aa) n2).bind fun v3=>
  xC n2 ((decide (v3 < (32:Int)))||(decide (v3=(127:Int))))
 else
  Option.map .inr (xD aa)
def EN (aa:ae) (n2:Int):Option Bool:=
 iter (fun x:Int=>mO aa x) n2
def Bu (aa:ae):Option Bool:=
 EN aa (0:Int)
def oU (n8:Int) (EL:Bool):Option (Int⊕Int):=
 if EL=true then
  Option.map .inr (some (3:Int))
 else
  some (.inl (cr (n8+(1:Int))))
def mj (n8:Int) (v9:jk) (c12:Bool):Option (Int⊕Int):=
 if c12=true then
  Option.map .inr (some (7:Int))
 else
  if v9.Value=([]:ae) then
   oU n8 true
  else
   (Bu v9.Value).bind fun FO=>
   oU n8 ((!FO)||(decide ((100:Int) < (v9.Value.length:Int))))
def sa (n17:Int) (Yi:Bool):Option (Int⊕Int):=
 if Yi=true then
  Option.map .inr (some (3:Int))
 else
  some (.inl (cr (n17+(1:Int))))
def ml (n17:Int) (fH:ew) (c21:Bool):Option (Int⊕Int):=
 if c21=true then
  Option.map .inr (some (7:Int))
 else
  (o7 fH.Value).bind fun v24=>
  sa n17 ((!v24)||(decide (fH.Value.Kind=(0:Int))))
def mn (aa:aE) (n17:Int):Option (Int⊕Int):=
 if n17 < (aa.ey.length:Int) then
  (idx aa.ey n17).bind fun fH=>
  (sL fH.Name).bind fun v20=>
  if (!v20)=true then
   Option.map .inr (some (5:Int))
  else
   if (0:Int) < n17 then
    (idx aa.ey (cr (n17 - (1:Int)))).bind fun v22=>
    ml n17 fH (Op.bytesLess fH.Name v22.Name||fH.Name==v22.Name)
   else
    ml n17 fH false
 else
  Option.map .inr (some (0:Int))
def yI (aa:aE) (n17:Int):Option Int:=
 iter (fun x:Int=>mn aa x) n17
def vi (aa:aE):Option Int:=
 if (50:Int) < (aa.ey.length:Int) then
  some (2:Int)
 else
  yI aa (0:Int)
def mo (aa:aE) (n8:Int):Option (Int⊕Int):=
 if n8 < (aa.Device.kO.length:Int) then
  (idx aa.Device.kO n8).bind fun v9=>
  (tU v9.Name).bind fun v11=>
  if (!v11)=true then
   Option.map .inr (some (5:Int))
  else
   if (0:Int) < n8 then
    (idx aa.Device.kO (cr (n8 - (1:Int)))).bind fun mb=>
    mj n8 v9 (Op.bytesLess v9.Name mb.Name||v9.Name==mb.Name)
   else
    mj n8 v9 false
 else
  Option.map .inr (vi aa)
def yJ (aa:aE) (n8:Int):Option Int:=
 iter (fun x:Int=>mo aa x) n8
def kE (aa:aE) (c3:Bool):Option Int:=
 if c3=true then
  some (5:Int)
 else
  if (!(kD aa.Device.dO))=true then
   some (1:Int)
  else
   if (20:Int) < (aa.Device.kO.length:Int) then
    some (2:Int)
   else
    yJ aa (0:Int)
def oV (aa:aE):Option Int:=
 (tU aa.Device.Key).bind fun v4=>
 if (!v4)=true then
  kE aa true
 else
  (tU aa.Device.Model).bind fun v5=>
  if (!v5)=true then
   kE aa true
  else
   if aa.Device.ar≠([]:ae) then
    (tU aa.Device.ar).bind fun v6=>
    kE aa (!v6)
   else
    kE aa false
def mq (c3:Bool):Option Int:=
 if c3=true then
  some (8:Int)
 else
  some (0:Int)
def nR (aa:bb) (ah:aE):Option Int:=
 if ah.Device.ar≠([]:ae) then
  (fp aa ah.Device.ar).bind fun v4=>
  mq (decide (v4 < (0:Int)))
 else
  mq false
def sb (c2:Bool):Option Bool:=
 some c2
def zp (aa:ae) (ah:ae):Option Bool:=
 (strings_CutSuffix aa ([42]:ae)).bind fun v1=>
 if aa=ah then
  sb true
 else
  if v1.2=true then
   (strings_HasPrefix ah v1.1).bind fun v3=>
   sb v3
  else
   sb false
def jg (aa:ae) (ah:ae):Option Bool:=
 (zp aa ah).bind fun v1=>
 some v1
def mr (aa:ae) (ah:List ae):Option Bool:=
 (aM ah (fun y0=>jg y0 aa)).bind fun v2=>
 some (!v2)
def qK (aa:List ae) (ah:List ae):Option Bool:=
 (aM ah (fun y0=>mr y0 aa)).bind fun v2=>
 some (!v2)
def mu (n9:Int) (B8:List Int):Option (((List Int)×Int)⊕(List Int)):=
 some (.inl (B8,cr (n9+(1:Int))))
def iz (l8:List Int) (n9:Int) (Dp:Bool):Option (((List Int)×Int)⊕(List Int)):=
 if Dp=true then
  (app l8 [n9]).bind fun IJ=>
  mu n9 IJ
 else
  mu n9 l8
def jS (aa:bb) (ah:ae) (aT:ae) (bG:ae) (l8:List Int) (n9:Int):Option (((List Int)×Int)⊕(List Int)):=
 if n9 < (aa.aD.length:Int) then
  (idx aa.aD n9).bind fun v11=>
  if v11.lV=ah then
   (rS aa bG).bind fun lW=>
   (aR lW v11.ar).bind fun FO=>
   if FO=true then
    (wT aa v11.bN).bind fun dU=>
    (idx aa.bj dU).bind fun v17=>
    (qK v17.lI [aT]).bind fun fH=>
    iz l8 n9 fH
   else
    iz l8 n9 false
  else
   iz l8 n9 false
 else
  Option.map .inr (some l8)
def sN (aa:bb) (ah:ae) (aT:ae) (bG:ae) (l8:List Int) (n9:Int):Option (List Int):=
 iter (fun x:(List Int)×Int=>jS aa ah aT bG x.1 x.2) (l8,n9)
def nT (aa:bb) (ah:ae) (aT:ae) (bG:ae):Option (List Int):=
 (fp aa bG).bind fun v2=>
 if v2 < (0:Int) then
  some []
 else
  sN aa ah aT bG [] (0:Int)
def ju (self:Query→aE→Option Bool) (aa:Query) (ah:aE) (aT:Bool):Option Bool:=
 (self aa ah).bind fun v2=>
 some (v2 !=aT)
def jT (self:Query→aE→Option Bool) (aa:Bool) (ah:Query) (aT:aE):Option Bool:=
 (bQ ah.Kids (fun y0=>ju self y0 aT aa)).bind fun v2=>
 some (!v2)
def jC (aa:aE) (ah:ae) (n9:Int):Option (Int⊕a8):=
 if n9 < (aa.ey.length:Int) then
  (idx aa.ey n9).bind fun v10=>
  (Jm ([112,114,111,112,46]:ae) v10.Name).bind fun Vs=>
  if ah=Vs then
   Option.map .inr (some v10.Value)
  else
   some (.inl (cr (n9+(1:Int))))
 else
  Option.map .inr (some (⟨(0:Int),false,(0:Int),[]⟩:a8))
def xE (aa:aE) (ah:ae) (n9:Int):Option a8:=
 iter (fun x:Int=>jC aa ah x) n9
def jD (aa:aE) (ah:ae) (n4:Int):Option (Int⊕a8):=
 if n4 < (aa.Device.kO.length:Int) then
  (idx aa.Device.kO n4).bind fun v5=>
  (Jm ([116,97,103,46]:ae) v5.Name).bind fun q7=>
  if ah=q7 then
   Option.map .inr (some (⟨(3:Int),false,(0:Int),v5.Value⟩:a8))
  else
   some (.inl (cr (n4+(1:Int))))
 else
  Option.map .inr (xE aa ah (0:Int))
def xF (aa:aE) (ah:ae) (n4:Int):Option a8:=
 iter (fun x:Int=>jD aa ah x) n4
def uR (aa:aE) (ah:ae):Option a8:=
 if ah=([107,101,121]:ae) then
  some (⟨(3:Int),false,(0:Int),aa.Device.Key⟩:a8)
 else
  if ah=([109,111,100,101,108]:ae) then
   some (⟨(3:Int),false,(0:Int),aa.Device.Model⟩:a8)
  else
   if ah=([116,101,110,97,110,116]:ae) then
    some (⟨(3:Int),false,(0:Int),aa.Device.ar⟩:a8)
   else
    xF aa ah (0:Int)
def oW (aa:Version) (ah:Version):Option Int:=
 (gD [(cmp_Compare_int aa.bH ah.bH),(cmp_Compare_int aa.bI ah.bI),(cmp_Compare_int aa.bF ah.bF)]).bind fun v3=>
 some v3
def sO (aa:ae) (ah:Int):Option Bool:=
 (u4 (ji (ji (ji (ji (ji (ji ([]:List (ae×Bool)) ([61,61]:ae) (decide (ah=(0:Int)))) ([33,61]:ae) (decide (ah≠(0:Int)))) ([60]:ae) (decide (ah < (0:Int)))) ([60,61]:ae) (decide (ah≤(0:Int)))) ([62]:ae) (decide ((0:Int) < ah))) ([62,61]:ae) (decide ((0:Int)≤ah))) aa false).bind fun v2=>
 some v2
def jU (aa:Query) (n13:Int):Option Bool:=
 (sO aa.Op n13).bind fun lW=>
 some lW
def dH (self:Query→aE→Option Bool) (aa:Query) (ah:aE):Option Bool:=
 if aa.Kind=(3:Int) then
  (idx aa.Kids (0:Int)).bind fun v3=>
  (self v3 ah).bind fun v4=>
  some (!v4)
 else
  if aa.Kind=(4:Int) then
   (jT self true aa ah).bind fun v5=>
   some v5
  else
   if aa.Kind=(5:Int) then
    (jT self false aa ah).bind fun v6=>
    some (!v6)
   else
    if aa.Kind=(2:Int) then
     (uR ah aa.Field).bind fun v7=>
     some (decide (v7.Kind≠(0:Int)))
    else
     if aa.Field=([102,105,114,109,119,97,114,101]:ae) then
      (oW ah.Device.dO aa.Version).bind fun v8=>
      (sO aa.Op v8).bind fun v9=>
      some v9
     else
      (uR ah aa.Field).bind fun v10=>
      if v10.Kind≠aa.Value.Kind then
       some false
      else
       (gD [(cmp_Compare_int v10.Number aa.Value.Number),(Lib.compareBytes v10.Words aa.Value.Words)]).bind fun v12=>
       if (v10.bV !=aa.Value.bV)=true then
        jU aa (1:Int)
       else
        jU aa v12
def ij:Nat→Query→aE→Option Bool
 | 0=>fun _ _=>none
 | k+1=>dH (ij k)
def iN (aa:Query) (ah:aE):Option Bool:=
 ij depth aa ah
def xG (aa:Reason) (ah:Reason):Option Int:=
 (gD [(cmp_Compare_int aa.aK ah.aK),(Lib.compareBytes aa.bA ah.bA)]).bind fun v3=>
 some v3
def sP (n20:Int) (SF:List Reason):Option (((List Reason)×Int)⊕(List Reason)):=
 some (.inl (SF,cr (n20+(1:Int))))
def mP (n20:Int) (v23:bA) (v31:(List Int)) (Vu:List Reason) (n38:Int):Option (((List Reason)×Int)⊕(((List Reason)×Int)⊕(List Reason))):=
 if n38 < (v31.length:Int) then
  (idx v31 n38).bind fun v39=>
  (app Vu [(⟨v39,v23.Key⟩:Reason)]).bind fun B9=>
  some (.inl (B9,cr (n38+(1:Int))))
 else
  Option.map .inr (sP n20 Vu)
def AJ (n20:Int) (v23:bA) (v31:(List Int)) (Vu:List Reason) (n38:Int):Option (((List Reason)×Int)⊕(List Reason)):=
 iter (fun x:(List Reason)×Int=>mP n20 v23 v31 x.1 x.2) (Vu,n38)
def kG (aa:bb) (ah:ae) (aT:ae) (Cb:List Reason) (n20:Int) (v23:bA) (Yj:Bool):Option (((List Reason)×Int)⊕(List Reason)):=
 if Yj=true then
  sP n20 Cb
 else
  (nT aa ah aT v23.To).bind fun v31=>
  AJ n20 v23 v31 Cb (0:Int)
def AK (Cb:List Reason):Option (List Reason):=
 (wM Cb.length (fun r:(List Reason)=>r.length) (dP Cb (fun y0 y1=>xG y0 y1))).bind fun Vv=>
 some Vv
def sQ (aa:bb) (ah:ae) (aT:ae) (bG:aE) (eB:Int) (Cb:List Reason) (n20:Int):Option (((List Reason)×Int)⊕(List Reason)):=
 if n20 < (aa.aI.length:Int) then
  (idx aa.aI n20).bind fun v23=>
  (fp aa bG.Device.ar).bind fun v26=>
  if v26 < (0:Int) then
   kG aa ah aT Cb n20 v23 true
  else
   (rS aa bG.Device.ar).bind fun HL=>
   (aR HL v23.jj).bind fun v28=>
   if (!v28)=true then
    kG aa ah aT Cb n20 v23 true
   else
    (iN v23.Query bG).bind fun EF=>
    if (!EF)=true then
     kG aa ah aT Cb n20 v23 true
    else
     if eB < v23.Time.jj then
      kG aa ah aT Cb n20 v23 true
     else
      if v23.Time.To≤eB then
       kG aa ah aT Cb n20 v23 true
      else
       (qK v23.lI [aT]).bind fun v30=>
       kG aa ah aT Cb n20 v23 (!v30)
 else
  Option.map .inr (AK Cb)
def xH (aa:bb) (ah:ae) (aT:ae) (bG:aE) (eB:Int) (Cb:List Reason) (n20:Int):Option (List Reason):=
 iter (fun x:(List Reason)×Int=>sQ aa ah aT bG eB x.1 x.2) (Cb,n20)
def mQ (aa:bb) (ah:ae) (aT:ae) (bG:aE) (eB:Int) (v3:(List Int)) (l9:List Reason) (n10:Int):Option (((List Reason)×Int)⊕(List Reason)):=
 if n10 < (v3.length:Int) then
  (idx v3 n10).bind fun v12=>
  (app l9 [(⟨v12,[]⟩:Reason)]).bind fun Ue=>
  some (.inl (Ue,cr (n10+(1:Int))))
 else
  Option.map .inr (xH aa ah aT bG eB l9 (0:Int))
def EO (aa:bb) (ah:ae) (aT:ae) (bG:aE) (eB:Int) (v3:(List Int)) (l9:List Reason) (n10:Int):Option (List Reason):=
 iter (fun x:(List Reason)×Int=>mQ aa ah aT bG eB v3 x.1 x.2) (l9,n10)
def vZ (aa:bb) (ah:ae) (aT:ae) (bG:aE) (eB:Int):Option (List Reason):=
 (nT aa ah aT bG.Device.ar).bind fun v3=>
 EO aa ah aT bG eB v3 [] (0:Int)
def fN (aa:List Reason) (ah:List Reason) (n2:Int):Option (Int⊕Bool):=
 if n2 < (aa.length:Int) then
  (idx aa n2).bind fun v3=>
  (idx ah n2).bind fun v4=>
  if v3≠v4 then
   Option.map .inr (some false)
  else
   some (.inl (cr (n2+(1:Int))))
 else
  Option.map .inr (some true)
def tZ (aa:List Reason) (ah:List Reason) (n2:Int):Option Bool:=
 iter (fun x:Int=>fN aa ah x) n2
def gR (aa:List Reason) (ah:List Reason):Option Bool:=
 if (aa.length:Int)≠(ah.length:Int) then
  some false
 else
  tZ aa ah (0:Int)
def gS (aa:List ae):Option (List ae):=
 app [] aa
def HM (aa:List ae):Option (List ae):=
 (gS aa).bind fun v1=>
 (wM v1.length (fun r:(List ae)=>r.length) (fG v1)).bind fun v3=>
 (eh v3).bind fun v4=>
 some v4
def jE (n6:Int) (v8:bb) (xh:List ae) (n15:Int):Option (((List ae)×Int)⊕(((List ae)×Int)⊕(List ae))):=
 if n15 < (v8.aD.length:Int) then
  (idx v8.aD n15).bind fun dU=>
  (app xh [dU.lV]).bind fun AY=>
  some (.inl (AY,cr (n15+(1:Int))))
 else
  Option.map .inr (some (.inl (xh,cr (n6+(1:Int)))))
def Bv (n6:Int) (v8:bb) (xh:List ae) (n15:Int):Option (((List ae)×Int)⊕(List ae)):=
 iter (fun x:(List ae)×Int=>jE n6 v8 x.1 x.2) (xh,n15)
def xI (l5:List ae):Option (List ae):=
 (HM l5).bind fun v20=>
 some v20
def sc (aa:List bb) (l5:List ae) (n6:Int):Option (((List ae)×Int)⊕(List ae)):=
 if n6 < (aa.length:Int) then
  (idx aa n6).bind fun v8=>
  Bv n6 v8 l5 (0:Int)
 else
  Option.map .inr (xI l5)
def Bw (aa:List bb) (l5:List ae) (n6:Int):Option (List ae):=
 iter (fun x:(List ae)×Int=>sc aa x.1 x.2) (l5,n6)
def wW (aa:List bb):Option (List ae):=
 Bw aa [] (0:Int)
def sR (aa:ae) (ah:bb) (aT:ae) (bG:aE) (eB:Int):Option Bool:=
 (vZ ah aa aT bG eB).bind fun v1=>
 some (decide ((v1.length:Int)=(0:Int)))
def dZ (n7:Int) (l10:List ae) (n11:Int):Option (((List ae)×Int×Int)⊕(List ae)):=
 some (.inl (l10,n11,cr (n7+(1:Int))))
def kH (l5:List ae) (n6:Int):Option (List ae):=
 (yb l5 n6 (l5.length:Int)).bind fun Ue=>
 (yb (FK l5 n6 Ue.length []) (0:Int) n6).bind fun xh=>
 some xh
def ea (er:ae→Option Bool) (l5:List ae) (n6:Int) (n7:Int):Option (((List ae)×Int×Int)⊕(List ae)):=
 if n7 < (l5.length:Int) then
  (idx l5 n7).bind fun v8=>
  (er v8).bind fun v9=>
  if (!v9)=true then
   (idx l5 n6).bind fun v12=>
   dZ n7 (l5.set n6.toNat v8) (cr (n6+(1:Int)))
  else
   dZ n7 l5 n6
 else
  Option.map .inr (kH l5 n6)
def qA (er:ae→Option Bool) (l5:List ae) (n6:Int) (n7:Int):Option (List ae):=
 iter (fun x:(List ae)×Int×Int=>ea er x.1 x.2.1 x.2.2) (l5,n6,n7)
def ff (aa:List ae) (er:ae→Option Bool):Option (List ae):=
 (fD aa er).bind fun v1=>
 if v1=(-1:Int) then
  some aa
 else
  qA er aa v1 (cr (v1+(1:Int)))
def Bx (aa:bb) (ah:ae) (aT:aE) (bG:Int):Option (List ae):=
 (wW [aa]).bind fun v5=>
 (ff v5 (fun y0=>sR y0 aa ah aT bG)).bind fun v7=>
 some v7
def fO (aa:List ae) (ah:List ae) (n2:Int):Option (Int⊕Bool):=
 if n2 < (aa.length:Int) then
  (idx aa n2).bind fun v3=>
  (idx ah n2).bind fun v4=>
  if v3≠v4 then
   Option.map .inr (some false)
  else
   some (.inl (cr (n2+(1:Int))))
 else
  Option.map .inr (some true)
def ua (aa:List ae) (ah:List ae) (n2:Int):Option Bool:=
 iter (fun x:Int=>fO aa ah x) n2
def fq (aa:List ae) (ah:List ae):Option Bool:=
 if (aa.length:Int)≠(ah.length:Int) then
  some false
 else
  ua aa ah (0:Int)
def ql (n2:Int) (c6:Bool):Option (Int⊕Int):=
 if c6=true then
  Option.map .inr (some (7:Int))
 else
  some (.inl (cr (n2+(1:Int))))
def kW (aa:List aE) (n2:Int):Option (Int⊕Int):=
 if n2 < (aa.length:Int) then
  (idx aa n2).bind fun v3=>
  (oV v3).bind fun v5=>
  if v5≠(0:Int) then
   Option.map .inr (some v5)
  else
   if (0:Int) < n2 then
    (idx aa (cr (n2 - (1:Int)))).bind fun v7=>
    ql n2 (Op.bytesLess v3.Device.Key v7.Device.Key||v3.Device.Key==v7.Device.Key)
   else
    ql n2 false
 else
  Option.map .inr (some (0:Int))
def xY (aa:List aE) (n2:Int):Option Int:=
 iter (fun x:Int=>kW aa x) n2
def pc (aa:List aE):Option Int:=
 if (500:Int) < (aa.length:Int) then
  some (2:Int)
 else
  xY aa (0:Int)
def dt (l2:List ae):Option (List ae):=
 some l2
def dQ (ah:Int):Option (List ae):=
 if ah < (0:Int) then
  none
 else
  if (0:Int) < (cr (ah - (cr ((0:Int) - (0:Int))))) then
   (yb ([]:List ae) (0:Int) (0:Int)).bind fun l3=>
   (XQ [] (cr (ah - (cr ((0:Int) - (0:Int))))) (cr (ah - (cr ((0:Int) - (0:Int)))))).bind fun l4=>
   (yb l4 (0:Int) (0:Int)).bind fun l6=>
   dt l6
  else
   dt []
def bE (aa:List (List ae)) (ye:List ae) (n13:Int):Option (((List ae)×Int)⊕(List ae)):=
 if n13 < (aa.length:Int) then
  (idx aa n13).bind fun lW=>
  (app ye lW).bind fun qq=>
  some (.inl (qq,cr (n13+(1:Int))))
 else
  Option.map .inr (some ye)
def mw (aa:List (List ae)) (ye:List ae) (n13:Int):Option (List ae):=
 iter (fun x:(List ae)×Int=>bE aa x.1 x.2) (ye,n13)
def iA (aa:List (List ae)) (n3:Int):Option (List ae):=
 (dQ n3).bind fun v6=>
 mw aa v6 (0:Int)
def cy (aa:List (List ae)) (n3:Int) (n4:Int):Option ((Int×Int)⊕(List ae)):=
 if n4 < (aa.length:Int) then
  (idx aa n4).bind fun v5=>
  if (cr (n3+(v5.length:Int))) < (0:Int) then
   none
  else
   some (.inl (cr (n3+(v5.length:Int)),cr (n4+(1:Int))))
 else
  Option.map .inr (iA aa n3)
def mx (aa:List (List ae)) (n3:Int) (n4:Int):Option (List ae):=
 iter (fun x:Int×Int=>cy aa x.1 x.2) (n3,n4)
def eP (aa:List (List ae)):Option (List ae):=
 mx aa (0:Int) (0:Int)
def jV (aa:ae):Option Bool:=
 (o5 aa).bind fun v1=>
 some (!v1)
def gp (aa:ae) (ah:List ae):Option Bool:=
 (kr ah aa).bind fun v1=>
 some (!v1)
def lv (aa:List ae) (ah:List ae):Option Bool:=
 (aM ah (fun y0=>gp y0 aa)).bind fun v2=>
 some (!v2)
def pd (aa:List ae) (ah:List ae) (c4:Bool):Option (Bool×Int):=
 if c4=true then
  some (false,(2:Int))
 else
  (lv aa ah).bind fun v5=>
  some (v5,(0:Int))
def pU (aa:List ae) (ah:List ae):Option (Bool×Int):=
 (eP [aa,ah]).bind fun v1=>
 (aM v1 (fun y0=>jV y0)).bind fun v3=>
 if v3=true then
  some (false,(5:Int))
 else
  pd aa ah ((decide ((50:Int) < (aa.length:Int)))||(decide ((50:Int) < (ah.length:Int))))
def tz (c2:Bool):Option Bool:=
 some c2
def vj:Option Bool:=
 (pU [([97,46,42]:ae)] [([97,46,98]:ae)]).bind fun v1=>
 tz ((decide (v1.2=(0:Int)))&&v1.1)
def jv (n52:Int) (DS:List ae):Option (((List ae)×Int)⊕Bool):=
 some (.inl (DS,cr (n52+(1:Int))))
def iB (EH:List ae) (n52:Int) (v54:aE) (Yk:Bool):Option (((List ae)×Int)⊕Bool):=
 if Yk=true then
  (app EH [v54.Device.Key]).bind fun DU=>
  jv n52 DU
 else
  jv n52 EH
def hJ (Yl:Bool):Option Bool:=
 some Yl
def ia (dU:(List ae)×Int) (v46:Int) (EH:List ae):Option Bool:=
 if dU.2=v46 then
  (fq dU.1 EH).bind fun Lq=>
  if Lq=true then
   (vj).bind fun v64=>
   hJ v64
  else
   hJ false
 else
  hJ false
def ec (v2:bb×ab) (v3:ae×ab) (v4:ae×ab) (v6:Int×ab) (v7:(List aE)×ab) (dU:(List ae)×Int) (v46:Int) (EH:List ae) (n52:Int):Option (((List ae)×Int)⊕Bool):=
 if n52 < (v7.1.length:Int) then
  (idx v7.1 n52).bind fun v54=>
  if v46=(0:Int) then
   (vZ v2.1 v3.1 v4.1 v54 v6.1).bind fun KN=>
   iB EH n52 v54 (decide ((0:Int) < (KN.length:Int)))
  else
   iB EH n52 v54 false
 else
  Option.map .inr (ia dU v46 EH)
def qB (v2:bb×ab) (v3:ae×ab) (v4:ae×ab) (v6:Int×ab) (v7:(List aE)×ab) (dU:(List ae)×Int) (v46:Int) (EH:List ae) (n52:Int):Option Bool:=
 iter (fun x:(List ae)×Int=>ec v2 v3 v4 v6 v7 dU v46 x.1 x.2) (EH,n52)
def ed (v2:bb×ab) (v3:ae×ab) (v4:ae×ab) (v6:Int×ab) (v7:(List aE)×ab) (dU:(List ae)×Int) (fH:Int) (dI:Int) (v20:Int) (n37:Int):Option Bool:=
 (gQ [fH,dI,v20,n37,(cF v6.1)]).bind fun v46=>
 qB v2 v3 v4 v6 v7 dU v46 [] (0:Int)
def ee (v2:bb×ab) (v3:ae×ab) (v4:ae×ab) (v6:Int×ab) (v7:(List aE)×ab) (dU:(List ae)×Int) (fH:Int) (dI:Int) (v20:Int) (n40:Int) (n41:Int):Option ((Int×Int)⊕Bool):=
 if n41 < (v7.1.length:Int) then
  (idx v7.1 n41).bind fun Vv=>
  (nR v2.1 Vv).bind fun v44=>
  (gQ [n40,v44]).bind fun v45=>
  some (.inl (v45,cr (n41+(1:Int))))
 else
  Option.map .inr (ed v2 v3 v4 v6 v7 dU fH dI v20 n40)
def qC (v2:bb×ab) (v3:ae×ab) (v4:ae×ab) (v6:Int×ab) (v7:(List aE)×ab) (dU:(List ae)×Int) (fH:Int) (dI:Int) (v20:Int) (n40:Int) (n41:Int):Option Bool:=
 iter (fun x:Int×Int=>ee v2 v3 v4 v6 v7 dU fH dI v20 x.1 x.2) (n40,n41)
def kI (v2:bb×ab) (v3:ae×ab) (v4:ae×ab) (v6:Int×ab) (v7:(List aE)×ab) (dU:(List ae)×Int) (fH:Int) (dI:Int) (v20:Int) (v35:Int) (Ym:Bool):Option Bool:=
 if Ym=true then
  qC v2 v3 v4 v6 v7 dU fH dI v20 v35 (0:Int)
 else
  ed v2 v3 v4 v6 v7 dU fH dI v20 v35
def gb (v2:bb×ab) (v3:ae×ab) (v4:ae×ab) (v6:Int×ab) (v7:(List aE)×ab) (dU:(List ae)×Int) (fH:Int) (dI:Int) (v20:Int) (c31:Bool):Option Bool:=
 if c31=true then
  some false
 else
  (pc v7.1).bind fun v35=>
  kI v2 v3 v4 v6 v7 dU fH dI v20 v35 ((decide (fH=(0:Int)))&&(decide (v35=(0:Int))))
def gd (v2:bb×ab) (v3:ae×ab) (v4:ae×ab) (v5:aE×ab) (v6:Int×ab) (v7:(List aE)×ab) (lW:(List ae)×Int) (dU:(List ae)×Int) (fH:Int) (dI:Int) (v20:Int) (v26:Int):Option Bool:=
 if v26=(0:Int) then
  (Bx v2.1 v4.1 v5.1 v6.1).bind fun v32=>
  (fq lW.1 v32).bind fun v34=>
  gb v2 v3 v4 v6 v7 dU fH dI v20 (!v34)
 else
  gb v2 v3 v4 v6 v7 dU fH dI v20 false
def mR (v2:bb×ab) (v3:ae×ab) (v4:ae×ab) (v5:aE×ab) (v6:Int×ab) (v7:(List aE)×ab) (lW:(List ae)×Int) (dU:(List ae)×Int) (fH:Int) (dI:Int) (v20:Int) (v26:Int) (Yn:Bool):Option Bool:=
 if Yn=true then
  some false
 else
  gd v2 v3 v4 v5 v6 v7 lW dU fH dI v20 v26
def kJ (v2:bb×ab) (v3:ae×ab) (v4:ae×ab) (v5:aE×ab) (v6:Int×ab) (v7:(List aE)×ab) (v11:Bool×Int) (v12:(List Reason)×Int) (lW:(List ae)×Int) (dU:(List ae)×Int) (fH:Int) (dI:Int) (v20:Int) (v25:Int) (v26:Int) (Yo:Bool):Option Bool:=
 if Yo=true then
  some false
 else
  if v25=(0:Int) then
   (vZ v2.1 v3.1 v4.1 v5.1 v6.1).bind fun v28=>
   (gR v12.1 v28).bind fun v30=>
   mR v2 v3 v4 v5 v6 v7 lW dU fH dI v20 v26 ((!v30)||(v11.1!=(decide ((0:Int) < (v28.length:Int)))))
  else
   gd v2 v3 v4 v5 v6 v7 lW dU fH dI v20 v26
def gg (v2:bb×ab) (v3:ae×ab) (v4:ae×ab) (v5:aE×ab) (v6:Int×ab) (v7:(List aE)×ab) (v11:Bool×Int) (v12:(List Reason)×Int) (lW:(List ae)×Int) (dU:(List ae)×Int) (fH:Int) (dI:Int) (v20:Int) (n23:Int):Option Bool:=
 (gQ [fH,dI,v20,n23,(cF v6.1)]).bind fun v25=>
 (gQ [fH,v20,n23,(cF v6.1)]).bind fun v26=>
 kJ v2 v3 v4 v5 v6 v7 v11 v12 lW dU fH dI v20 v25 v26 ((decide (v11.2≠v25))||((decide (v12.2≠v25))||(decide (lW.2≠v26))))
def kK (v2:bb×ab) (v3:ae×ab) (v4:ae×ab) (v5:aE×ab) (v6:Int×ab) (v7:(List aE)×ab) (v11:Bool×Int) (v12:(List Reason)×Int) (lW:(List ae)×Int) (dU:(List ae)×Int) (fH:Int) (dI:Int) (v20:Int) (v21:Int) (P4:Bool):Option Bool:=
 if P4=true then
  (nR v2.1 v5.1).bind fun v24=>
  gg v2 v3 v4 v5 v6 v7 v11 v12 lW dU fH dI v20 v24
 else
  gg v2 v3 v4 v5 v6 v7 v11 v12 lW dU fH dI v20 v21
def nz (aa:List Int):Option Bool:=
 (u9 (⟨aa,(0:Int)⟩:ab)).bind fun v2=>
 (bx v2.2 [([97,110,110]:ae),([97,110,110]:ae),([98,111,98]:ae),([65]:ae)]).bind fun v3=>
 (bx v3.2 [([100,101,118,105,99,101,46,114,101,97,100]:ae),([100,101,118,105,99,101,46,119,114,105,116,101]:ae),([111,114,103,46,114,101,97,100]:ae),([100,101,118,105,99,101,46,42]:ae)]).bind fun v4=>
 (qH v4.2 ([100,97]:ae)).bind fun v5=>
 (tP v5.2).bind fun v6=>
 (ni v6.2).bind fun v7=>
 (qt v2.1 v3.1 v4.1 v5.1 v6.1).bind fun v11=>
 (qx v2.1 v3.1 v4.1 v5.1 v6.1).bind fun v12=>
 (qy v2.1 v4.1 v5.1 v6.1).bind fun lW=>
 (kA v2.1 v3.1 v4.1 v7.1 v6.1).bind fun dU=>
 (vf v2.1).bind fun fH=>
 (vg v3.1).bind fun dI=>
 (vh v4.1).bind fun v20=>
 (oV v5.1).bind fun v21=>
 kK v2 v3 v4 v5 v6 v7 v11 v12 lW dU fH dI v20 v21 ((decide (fH=(0:Int)))&&(decide (v21=(0:Int))))
end
end Go.Beacon
