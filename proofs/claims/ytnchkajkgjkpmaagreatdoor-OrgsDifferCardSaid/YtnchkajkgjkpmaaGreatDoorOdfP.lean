/- Plain functions that the Go functions compute, written by shal.py. -/
import Derived.Test.YtnchkajkgjkpmaaGreatDoorCore
set_option linter.unusedVariables false
namespace Go.Beacon
open Go Go.Eng
noncomputable section
structure ah where
 L:List Int
 at_:Int
deriving DecidableEq,Inhabited
structure au where
 Key:ai
 fe:ai
deriving DecidableEq,Inhabited
def au.av (x:au):AV:=.agg [.str x.Key,.str x.fe]
structure bH where
 Key:ai
 lI:List ai
deriving DecidableEq,Inhabited
def bH.av (x:bH):AV:=.agg [.str x.Key,.list 1 (x.lI.map AV.str)]
structure aQ where
 ek:ai
 au:ai
 bH:ai
deriving DecidableEq,Inhabited
def aQ.av (x:aQ):AV:=.agg [.str x.ek,.str x.au,.str x.bH]
structure bg where
 Kind:Int
 ch:Bool
 Number:Int
 Words:ai
deriving DecidableEq,Inhabited
def bg.av (x:bg):AV:=.agg [I x.Kind,.bool x.ch,I x.Number,.str x.Words]
structure Version where
 bP:Int
 bQ:Int
 bL:Int
deriving DecidableEq,Inhabited
def Version.av (x:Version):AV:=.agg [I x.bP,I x.bQ,I x.bL]
structure Query where
 Kind:Int
 Field:ai
 Op:ai
 Value:bg
 Version:Version
 Kids:List Query
instance:Inhabited Query:=⟨⟨default,default,default,default,default,[]⟩⟩
mutual
def Query.av:Query→AV
 | ⟨RE,N1,aaJ,B2,zQ,RF⟩=>.agg [I RE,.str N1,.str aaJ,I B2.Kind,.bool B2.ch,I B2.Number,.str B2.Words,I zQ.bP,I zQ.bQ,I zQ.bL,.list 11 (Query.ng RF)]
def Query.ng:List Query→List AV
 | []=>[]
 | x :: r=>Query.av x :: Query.ng r
end
theorem Query.RG:∀ l:List Query,Query.ng l=l.map Query.av
 | []=>by simp [Query.ng]
 | x :: r=>by rw [Query.ng,Query.RG r,List.map_cons]
theorem Query.um (x:Query):Query.av x=.agg [I x.Kind,.str x.Field,.str x.Op,I x.Value.Kind,.bool x.Value.ch,I x.Value.Number,.str x.Value.Words,I x.Version.bP,I x.Version.bQ,I x.Version.bL,.list 11 (x.Kids.map Query.av)]:=by
 obtain ⟨RE,N1,aaJ,B2,zQ,RF⟩:=x
 rw [Query.av,Query.RG]
structure oM where
 ef:Int
 To:Int
deriving DecidableEq,Inhabited
def oM.av (x:oM):AV:=.agg [I x.ef,I x.To]
structure bl where
 Key:ai
 ef:ai
 To:ai
 Query:Query
 lI:List ai
 Time:oM
deriving Inhabited
def bl.av (x:bl):AV:=.agg [.str x.Key,.str x.ef,.str x.To,I x.Query.Kind,.str x.Query.Field,.str x.Query.Op,I x.Query.Value.Kind,.bool x.Query.Value.ch,I x.Query.Value.Number,.str x.Query.Value.Words,I x.Query.Version.bP,I x.Query.Version.bQ,I x.Query.Version.bL,.list 11 (x.Query.Kids.map Query.av),.list 1 (x.lI.map AV.str),I x.Time.ef,I x.Time.To]
structure aW where
 ao:List au
 bd:List bH
 aG:List aQ
 aK:List bl
deriving Inhabited
def aW.av (x:aW):AV:=.agg [.list 2 (x.ao.map au.av),.list 2 (x.bd.map bH.av),.list 3 (x.aG.map aQ.av),.list 17 (x.aK.map bl.av)]
structure jm where
 Name:ai
 Value:ai
deriving DecidableEq,Inhabited
def jm.av (x:jm):AV:=.agg [.str x.Name,.str x.Value]
structure IT where
 Key:ai
 Model:ai
 au:ai
 ff:Version
 kY:List jm
deriving DecidableEq,Inhabited
structure eB where
 Name:ai
 Value:bg
deriving DecidableEq,Inhabited
def eB.av (x:eB):AV:=.agg [.str x.Name,I x.Value.Kind,.bool x.Value.ch,I x.Value.Number,.str x.Value.Words]
structure aL where
 Device:IT
 eG:List eB
deriving DecidableEq,Inhabited
def aL.av (x:aL):AV:=.agg [.str x.Device.Key,.str x.Device.Model,.str x.Device.au,I x.Device.ff.bP,I x.Device.ff.bQ,I x.Device.ff.bL,.list 2 (x.Device.kY.map jm.av),.list 5 (x.eG.map eB.av)]
structure aN where
 a_:ai
 b_:ai
deriving DecidableEq,Inhabited
def aN.av (x:aN):AV:=.agg [.str x.a_,.str x.b_]
instance:DD aN:=⟨fun a b=>(DD.lt a.a_ b.a_||(decide (a.a_=b.a_)&&(DD.lt a.b_ b.b_||(decide (a.b_=b.b_)&&false))))⟩
structure aq where
 aW:aW
 aT:List (ai×ai)
 bU:List (ai×(List ai))
 at_:List (ai×(List Int))
 cr:List (aN×(List Int))
 dw:List (aN×Bool)
deriving Inhabited
structure Reason where
 aQ:Int
 bl:ai
deriving DecidableEq,Inhabited
def Reason.av (x:Reason):AV:=.agg [I x.aQ,.str x.bl]
structure bA where
 Is:Bool
 Value:bg
 Version:Version
deriving DecidableEq,Inhabited
def bA.av (x:bA):AV:=.agg [.bool x.Is,I x.Value.Kind,.bool x.Value.ch,I x.Value.Number,.str x.Value.Words,I x.Version.bP,I x.Version.bQ,I x.Version.bL]
structure aB where
 ek:ai
 Act:ai
 Device:ai
deriving DecidableEq,Inhabited
def aB.av (x:aB):AV:=.agg [.str x.ek,.str x.Act,.str x.Device]
def zb (n2:Int):Option Int:=
 some n2
def Below (aa:Int) (ak:Int):Option Int:=
 if ak < (1:Int) then
  some (0:Int)
 else
  (rem aa ak).bind fun n1=>
  if n1 < (0:Int) then
   zb (cd (n1+ak))
  else
   zb n1
def cO (aa:ah) (ak:Int):Option (Int×ah):=
 if (aa.L.length:Int)=(0:Int) then
  (Below (cd ((cd (aa.at_+(1:Int))) * (7919:Int))) ak).bind fun v1=>
  some (v1,(⟨aa.L,cd (aa.at_+(1:Int))⟩:ah))
 else
  (rem (cd ((cd (aa.at_+(1:Int))) - (1:Int))) (aa.L.length:Int)).bind fun n2=>
  (quo (cd ((cd (aa.at_+(1:Int))) - (1:Int))) (aa.L.length:Int)).bind fun n3=>
  (idx aa.L n2).bind fun v4=>
  (Below v4 (1073741824:Int)).bind fun v5=>
  (Below (cd (v5+(cd (n3 * (cd ((7919:Int)+n2)))))) ak).bind fun v6=>
  some (v6,(⟨aa.L,cd (aa.at_+(1:Int))⟩:ah))
def bI (aa:ah) (ak:List ai):Option (ai×ah):=
 (cO aa (ak.length:Int)).bind fun v1=>
 (idx ak v1.1).bind fun v2=>
 some (v2,v1.2)
def oN (aa:ah):Option ((List ai)×ah):=
 (cO aa (5:Int)).bind fun v1=>
 (idx [[([42]:ai)],[([100,101,118,105,99,101,46,42]:ai)],[([100,101,118,105,99,101,46,114,101,97,100]:ai)],[([100,101,118,105,99,101,46,114,101,97,100]:ai),([111,114,103,46,42]:ai)],[([100,101,118,105,99,101,46,114,101,97,100]:ai),([100,101,118,105,99,101,46,119,114,105,116,101]:ai)]] v1.1).bind fun v2=>
 some (v2,v1.2)
def dE (aa:ah) (ak:Int):Option (Bool×ah):=
 (cO aa ak).bind fun v1=>
 some (decide (v1.1=(0:Int)),v1.2)
def cj (aa:ah) (ak:List Int):Option (Int×ah):=
 (cO aa (ak.length:Int)).bind fun v1=>
 (idx ak v1.1).bind fun v2=>
 some (v2,v1.2)
def gA (aa:ah):Option (ai×ah):=
 (bI aa [([61,61]:ai),([61,61]:ai),([33,61]:ai)]).bind fun v1=>
 some (v1.1,v1.2)
def iQ (aa:List ai) (ak:ah):Option (bg×ah):=
 (bI ak aa).bind fun v2=>
 some ((⟨(3:Int),false,(0:Int),v2.1⟩:bg),v2.2)
def xj:(List ai):=
 [([61,61]:ai),([33,61]:ai),([60,61]:ai),([62,61]:ai),([60]:ai),([62]:ai)]
def qY (aa:ah):Option (Query×ah):=
 (cO aa (8:Int)).bind fun v3=>
 if v3.1=(0:Int) then
  (bI v3.2 [([116,97,103,46,115,105,116,101]:ai),([116,97,103,46,111,112,101,110]:ai),([112,114,111,112,46,97]:ai),([112,114,111,112,46,102,97,110,46,111,110]:ai)]).bind fun v4=>
  some ((⟨(2:Int),v4.1,[],(⟨(0:Int),false,(0:Int),[]⟩:bg),(⟨(0:Int),(0:Int),(0:Int)⟩:Version),[]⟩:Query),v4.2)
 else
  if v3.1=(1:Int) then
   (gA v3.2).bind fun v5=>
   (iQ [([100,97]:ai),([100,98]:ai),([102,114,101,115,104]:ai)] v5.2).bind fun v6=>
   some ((⟨(1:Int),([107,101,121]:ai),v5.1,v6.1,(⟨(0:Int),(0:Int),(0:Int)⟩:Version),[]⟩:Query),v6.2)
  else
   if v3.1=(2:Int) then
    (bI v3.2 [([109,111,100,101,108]:ai),([116,101,110,97,110,116]:ai)]).bind fun v7=>
    (gA v7.2).bind fun v8=>
    (iQ [([109,97]:ai),([116,97]:ai),([]:ai),([81]:ai)] v8.2).bind fun v9=>
    some ((⟨(1:Int),v7.1,v8.1,v9.1,(⟨(0:Int),(0:Int),(0:Int)⟩:Version),[]⟩:Query),v9.2)
   else
    if v3.1=(3:Int) then
     (bI v3.2 xj).bind fun v10=>
     (cO v10.2 (2:Int)).bind fun v11=>
     (cj v11.2 [(0:Int),(2:Int)]).bind fun v12=>
     (cj v12.2 [(0:Int),(0:Int),(9999:Int)]).bind fun ma=>
     some ((⟨(1:Int),([102,105,114,109,119,97,114,101]:ai),v10.1,(⟨(0:Int),false,(0:Int),[]⟩:bg),(⟨v11.1,v12.1,ma.1⟩:Version),[]⟩:Query),ma.2)
    else
     if v3.1=(4:Int) then
      (gA v3.2).bind fun rl=>
      (iQ [([120]:ai),([121]:ai),([97,34,98,92,99]:ai),([]:ai)] rl.2).bind fun B3=>
      some ((⟨(1:Int),([116,97,103,46,115,105,116,101]:ai),rl.1,B3.1,(⟨(0:Int),(0:Int),(0:Int)⟩:Version),[]⟩:Query),B3.2)
     else
      if v3.1=(5:Int) then
       (gA v3.2).bind fun pf=>
       (dE pf.2 (2:Int)).bind fun v17=>
       some ((⟨(1:Int),([112,114,111,112,46,102,97,110,46,111,110]:ai),pf.1,(⟨(1:Int),v17.1,(0:Int),[]⟩:bg),(⟨(0:Int),(0:Int),(0:Int)⟩:Version),[]⟩:Query),v17.2)
      else
       if v3.1=(6:Int) then
        (gA v3.2).bind fun oH=>
        (iQ [([120]:ai),([]:ai)] oH.2).bind fun ik=>
        some ((⟨(1:Int),([112,114,111,112,46,97]:ai),oH.1,ik.1,(⟨(0:Int),(0:Int),(0:Int)⟩:Version),[]⟩:Query),ik.2)
       else
        (bI v3.2 xj).bind fun v20=>
        (cj v20.2 [(0:Int),(5:Int),(6:Int),(-5:Int)]).bind fun v21=>
        some ((⟨(1:Int),([112,114,111,112,46,97]:ai),v20.1,(⟨(2:Int),false,v21.1,[]⟩:bg),(⟨(0:Int),(0:Int),(0:Int)⟩:Version),[]⟩:Query),v21.2)
def gi (n22:Int) (v24:Query×ah) (FA:List Query):Option (((List Int)×Int×(List Query)×Int)⊕(Query×ah)):=
 some (.inl (v24.2.L,v24.2.at_,FA,cd (n22+(1:Int))))
def kZ (JP:List Query) (n22:Int) (v24:Query×ah) (JQ:Bool):Option (((List Int)×Int×(List Query)×Int)⊕(Query×ah)):=
 if JQ=true then
  (app JP v24.1.Kids).bind fun CK=>
  gi n22 v24 CK
 else
  (app JP [v24.1]).bind fun B4=>
  gi n22 v24 B4
def iR (self:ah→Int→Option (Query×ah)) (ak:Int) (v7:Int×ah) (n11:Int) (BA:List Int) (n19:Int) (JP:List Query) (n22:Int):Option (((List Int)×Int×(List Query)×Int)⊕(Query×ah)):=
 if n22 < n11 then
  (self (⟨BA,n19⟩:ah) (cd (ak - (1:Int)))).bind fun v24=>
  kZ JP n22 v24 ((decide (v24.1.Kind=v7.1))&&(decide (v7.1≠(3:Int))))
 else
  Option.map .inr (some ((⟨v7.1,[],[],(⟨(0:Int),false,(0:Int),[]⟩:bg),(⟨(0:Int),(0:Int),(0:Int)⟩:Version),JP⟩:Query),(⟨BA,n19⟩:ah)))
def oO (self:ah→Int→Option (Query×ah)) (ak:Int) (v7:Int×ah) (n11:Int) (BA:List Int) (n19:Int) (JP:List Query) (n22:Int):Option (Query×ah):=
 iter (fun x:(List Int)×Int×(List Query)×Int=>iR self ak v7 n11 x.1 x.2.1 x.2.2.1 x.2.2.2) (BA,n19,JP,n22)
def gj (self:ah→Int→Option (Query×ah)) (ak:Int) (v7:Int×ah) (l9:List Int) (n10:Int) (n11:Int):Option (Query×ah):=
 oO self ak v7 n11 l9 n10 [] (0:Int)
def gm (self:ah→Int→Option (Query×ah)) (ak:Int) (l2:List Int) (n3:Int) (c4:Bool):Option (Query×ah):=
 if c4=true then
  (qY (⟨l2,n3⟩:ah)).bind fun v6=>
  some (v6.1,v6.2)
 else
  (cj (⟨l2,n3⟩:ah) [(3:Int),(4:Int),(5:Int)]).bind fun v7=>
  if v7.1≠(3:Int) then
   (cj v7.2 [(2:Int),(2:Int),(3:Int)]).bind fun v12=>
   gj self ak v7 v12.2.L v12.2.at_ v12.1
  else
   gj self ak v7 v7.2.L v7.2.at_ (1:Int)
def fg (self:ah→Int→Option (Query×ah)) (aa:ah) (ak:Int):Option (Query×ah):=
 if ak=(0:Int) then
  gm self ak aa.L aa.at_ true
 else
  (dE aa (3:Int)).bind fun v5=>
  gm self ak v5.2.L v5.2.at_ v5.1
def eC:Nat→ah→Int→Option (Query×ah)
 | 0=>fun _ _=>none
 | k+1=>fg (eC k)
def rW (aa:ah) (ak:Int):Option (Query×ah):=
 eC depth aa ak
def kj (n39:Int) (v41:Bool×ah) (IU:List aQ):Option (((List Int)×Int×(List aQ)×Int)⊕(((List Int)×Int×(List aQ)×Int)⊕(((List Int)×Int×(List aQ)×Int)⊕(aW×ah)))):=
 some (.inl (v41.2.L,v41.2.at_,IU,cd (n39+(1:Int))))
def ko (oH:ai) (n28:Int) (FB:ai) (we:List Int) (n36:Int) (GA:List aQ) (n39:Int):Option (((List Int)×Int×(List aQ)×Int)⊕(((List Int)×Int×(List aQ)×Int)⊕(((List Int)×Int×(List aQ)×Int)⊕(aW×ah)))):=
 if n39 < ([([97,100,109,105,110]:ai),([101,100,105,116]:ai),([114,101,97,100]:ai)].length:Int) then
  (idx [([97,100,109,105,110]:ai),([101,100,105,116]:ai),([114,101,97,100]:ai)] n39).bind fun v40=>
  (dE (⟨we,n36⟩:ah) (7:Int)).bind fun v41=>
  if v41.1=true then
   (app GA [(⟨oH,FB,v40⟩:aQ)]).bind fun US=>
   kj n39 v41 US
  else
   kj n39 v41 GA
 else
  Option.map .inr (some (.inl (we,n36,GA,cd (n28+(1:Int)))))
def qQ (oH:ai) (n28:Int) (FB:ai) (we:List Int) (n36:Int) (GA:List aQ) (n39:Int):Option (((List Int)×Int×(List aQ)×Int)⊕(((List Int)×Int×(List aQ)×Int)⊕(aW×ah))):=
 iter (fun x:(List Int)×Int×(List aQ)×Int=>ko oH n28 FB x.1 x.2.1 x.2.2.1 x.2.2.2) (we,n36,GA,n39)
def kq (n16:Int) (oH:ai) (wy:List Int) (n25:Int) (Ba:List aQ) (n28:Int):Option (((List Int)×Int×(List aQ)×Int)⊕(((List Int)×Int×(List aQ)×Int)⊕(aW×ah))):=
 if n28 < ([([116,97]:ai),([116,98]:ai),([116,99]:ai),([116,100]:ai)].length:Int) then
  (idx [([116,97]:ai),([116,98]:ai),([116,99]:ai),([116,100]:ai)] n28).bind fun FB=>
  qQ oH n28 FB wy n25 Ba (0:Int)
 else
  Option.map .inr (some (.inl (wy,n25,Ba,cd (n16+(1:Int)))))
def qR (n16:Int) (oH:ai) (wy:List Int) (n25:Int) (Ba:List aQ) (n28:Int):Option (((List Int)×Int×(List aQ)×Int)⊕(aW×ah)):=
 iter (fun x:(List Int)×Int×(List aQ)×Int=>kq n16 oH x.1 x.2.1 x.2.2.1 x.2.2.2) (wy,n25,Ba,n28)
def iy (EF:Int) (Pl:List Int) (n60:Int) (FC:List bl):Option (((List Int)×Int×(List bl)×Int)⊕(aW×ah)):=
 some (.inl (Pl,n60,FC,cd (EF+(1:Int))))
def iz (GC:List bl) (EF:Int) (P8:ai) (P9:Int×ah) (v66:Query×ah) (v67:(List ai)×ah) (EG:Int×ah) (v70:Bool×ah) (YO:ai) (YP:ai):Option (((List Int)×Int×(List bl)×Int)⊕(aW×ah)):=
 (app GC [(⟨P8,YO,YP,v66.1,v67.1,(⟨P9.1,cd (P9.1+EG.1)⟩:oM)⟩:bl)]).bind fun Ts=>
 iy EF v70.2.L v70.2.at_ Ts
def kr (v2:ai×ah) (v5:(List ai)×ah) (sK:List aQ) (Pm:List Int) (n52:Int) (GC:List bl) (EF:Int):Option (((List Int)×Int×(List bl)×Int)⊕(aW×ah)):=
 if EF < ([([115,97]:ai),([115,98]:ai)].length:Int) then
  (idx [([115,97]:ai),([115,98]:ai)] EF).bind fun P8=>
  (dE (⟨Pm,n52⟩:ah) (2:Int)).bind fun v58=>
  if v58.1=true then
   (cj v58.2 [(0:Int),(20:Int),(50:Int)]).bind fun P9=>
   (bI P9.2 [([116,97]:ai),([116,98]:ai)]).bind fun v64=>
   (cj v64.2 [(0:Int),(1:Int)]).bind fun v65=>
   (rW v65.2 v65.1).bind fun v66=>
   (oN v66.2).bind fun v67=>
   (cj v67.2 [(0:Int),(30:Int),(100:Int)]).bind fun EG=>
   (dE EG.2 (3:Int)).bind fun v70=>
   if v70.1=true then
    iz GC EF P8 P9 v66 v67 EG v70 ([116,100]:ai) v64.1
   else
    iz GC EF P8 P9 v66 v67 EG v70 v64.1 ([116,100]:ai)
  else
   iy EF v58.2.L v58.2.at_ GC
 else
  Option.map .inr (some ((⟨[(⟨([116,97]:ai),[]⟩:au),(⟨([116,98]:ai),([116,97]:ai)⟩:au),(⟨([116,99]:ai),v2.1⟩:au),(⟨([116,100]:ai),[]⟩:au)],[(⟨([97,100,109,105,110]:ai),[([42]:ai)]⟩:bH),(⟨([101,100,105,116]:ai),v5.1⟩:bH),(⟨([114,101,97,100]:ai),[([100,101,118,105,99,101,46,114,101,97,100]:ai)]⟩:bH)],sK,GC⟩:aW),(⟨Pm,n52⟩:ah)))
def qS (v2:ai×ah) (v5:(List ai)×ah) (sK:List aQ) (Pm:List Int) (n52:Int) (GC:List bl) (EF:Int):Option (aW×ah):=
 iter (fun x:(List Int)×Int×(List bl)×Int=>kr v2 v5 sK x.1 x.2.1 x.2.2.1 x.2.2.2) (Pm,n52,GC,EF)
def ku (v2:ai×ah) (v5:(List ai)×ah) (yG:List Int) (n13:Int) (sK:List aQ) (n16:Int):Option (((List Int)×Int×(List aQ)×Int)⊕(aW×ah)):=
 if n16 < ([([97,110,110]:ai),([98,111,98]:ai)].length:Int) then
  (idx [([97,110,110]:ai),([98,111,98]:ai)] n16).bind fun oH=>
  qR n16 oH yG n13 sK (0:Int)
 else
  Option.map .inr (qS v2 v5 sK yG n13 [] (0:Int))
def vy (v2:ai×ah) (v5:(List ai)×ah) (yG:List Int) (n13:Int) (sK:List aQ) (n16:Int):Option (aW×ah):=
 iter (fun x:(List Int)×Int×(List aQ)×Int=>ku v2 v5 x.1 x.2.1 x.2.2.1 x.2.2.2) (yG,n13,sK,n16)
def ni (aa:ah):Option (aW×ah):=
 (bI aa [([116,98]:ai),([116,97]:ai),([]:ai)]).bind fun v2=>
 (oN v2.2).bind fun v5=>
 vy v2 v5 v5.2.L v5.2.at_ [] (0:Int)
def rZ (aa:ah) (ak:Int) (aP:Int):Option (Int×ah):=
 if aP < ak then
  some (ak,aa)
 else
  (cO aa (cd ((cd (aP - ak))+(1:Int)))).bind fun v1=>
  some (cd (ak+v1.1),v1.2)
def oP (aa:ah) (ak:Int) (aP:Int):Option (Int×ah):=
 (dE aa (12:Int)).bind fun v1=>
 if v1.1=true then
  (cj v1.2 [cd (ak - (1:Int)),cd (aP+(1:Int)),ak,aP,(-1099511627776:Int),(1099511627776:Int)]).bind fun v2=>
  some (v2.1,v2.2)
 else
  (rZ v1.2 ak aP).bind fun v3=>
  some (v3.1,v3.2)
def iH (aa:List Query):Option (List Query):=
 app [] aa
def nj (l6:List Int) (n7:Int) (n8:Int) (q9:ai) (N2:ai) (n11:Int) (c12:Bool) (n13:Int) (Qa:ai) (n15:Int) (n16:Int) (n17:Int) (BA:List Query):Option (Query×ah):=
 some ((⟨n8,q9,N2,(⟨n11,c12,n13,Qa⟩:bg),(⟨n15,n16,n17⟩:Version),BA⟩:Query),(⟨l6,n7⟩:ah))
def qA (CL:List Int) (n21:Int) (n22:Int) (YQ:ai) (YR:ai) (n25:Int) (JQ:Bool) (n27:Int) (Wd:ai) (n29:Int) (n30:Int) (n31:Int) (AH:List Query):Option (Query×ah):=
 nj CL n21 n22 YQ YR n25 JQ n27 Wd n29 n30 n31 AH
def qB (FD:List Int) (n35:Int) (n36:Int) (YS:ai) (YT:ai) (n39:Int) (c40:Bool) (n41:Int) (YU:ai) (n43:Int) (n44:Int) (n45:Int) (EH:List Query):Option (Query×ah):=
 qA FD n35 n36 YS YT n39 c40 n41 YU n43 n44 n45 EH
def qC (YV:List Int) (n49:Int) (n50:Int) (YW:ai) (YX:ai) (Qb:Int) (YY:Bool) (EF:Int) (YZ:ai) (n57:Int) (Y0:Int) (n59:Int) (HW:List Query):Option (Query×ah):=
 qB YV n49 n50 YW YX Qb YY EF YZ n57 Y0 n59 HW
def qD (FC:List Int) (Pn:Int) (Y1:Int) (Po:ai) (Y2:ai) (Y3:Int) (Y4:Bool) (n69:Int) (Y5:ai) (Y6:Int) (Pp:Int) (Y7:Int) (N3:List Query):Option (Query×ah):=
 qC FC Pn Y1 Po Y2 Y3 Y4 n69 Y5 Y6 Pp Y7 N3
def qE (N4:List Int) (Y8:Int) (Y9:Int) (Za:ai) (Zb:ai) (Pq:Int) (Zc:Bool) (Pr:Int) (Zd:ai) (Ze:Int) (Zf:Int) (Zg:Int) (Tt:List Query):Option (Query×ah):=
 qD N4 Y8 Y9 Za Zb Pq Zc Pr Zd Ze Zf Zg Tt
def nk (MG:Int×ah) (n108:Int) (KZ:ai) (K1:ai) (n111:Int) (K2:Bool) (n113:Int) (K4:ai) (n115:Int) (n116:Int) (n117:Int) (K5:List Query) (n119:Int):Option ((Int×ai×ai×Int×Bool×Int×ai×Int×Int×Int×(List Query)×Int)⊕(Query×ah)):=
 if n119 < MG.1 then
  some (.inl ((3:Int),[],[],(0:Int),false,(0:Int),[],(0:Int),(0:Int),(0:Int),[(⟨n108,KZ,K1,(⟨n111,K2,n113,K4⟩:bg),(⟨n115,n116,n117⟩:Version),K5⟩:Query)],cd (n119+(1:Int))))
 else
  Option.map .inr (qE MG.2.L MG.2.at_ n108 KZ K1 n111 K2 n113 K4 n115 n116 n117 K5)
def yn (MG:Int×ah) (n108:Int) (KZ:ai) (K1:ai) (n111:Int) (K2:Bool) (n113:Int) (K4:ai) (n115:Int) (n116:Int) (n117:Int) (K5:List Query) (n119:Int):Option (Query×ah):=
 iter (fun x:Int×ai×ai×Int×Bool×Int×ai×Int×Int×Int×(List Query)×Int=>nk MG x.1 x.2.1 x.2.2.1 x.2.2.2.1 x.2.2.2.2.1 x.2.2.2.2.2.1 x.2.2.2.2.2.2.1 x.2.2.2.2.2.2.2.1 x.2.2.2.2.2.2.2.2.1 x.2.2.2.2.2.2.2.2.2.1 x.2.2.2.2.2.2.2.2.2.2.1 x.2.2.2.2.2.2.2.2.2.2.2) (n108,KZ,K1,n111,K2,n113,K4,n115,n116,n117,K5,n119)
def r5 (aa:ah):Option (Query×ah):=
 (cj aa [(0:Int),(1:Int),(1:Int),(2:Int)]).bind fun v2=>
 (rW v2.2 v2.1).bind fun v3=>
 (dE v3.2 (12:Int)).bind fun v5=>
 if v5.1=true then
  (cO v5.2 (6:Int)).bind fun ik=>
  if ik.1=(0:Int) then
   (oP ik.2 (1:Int) (5:Int)).bind fun v33=>
   qA v33.2.L v33.2.at_ v33.1 v3.1.Field v3.1.Op v3.1.Value.Kind v3.1.Value.ch v3.1.Value.Number v3.1.Value.Words v3.1.Version.bP v3.1.Version.bQ v3.1.Version.bL v3.1.Kids
  else
   if ik.1=(1:Int) then
    (bI ik.2 [([]:ai),([110,111,112,101]:ai),([116,97,103,46]:ai),([116,97,103,46,65]:ai),([112,114,111,112,46,97,46]:ai),([107,101,121]:ai),([102,105,114,109,119,97,114,101]:ai)]).bind fun GW=>
    qB GW.2.L GW.2.at_ v3.1.Kind GW.1 v3.1.Op v3.1.Value.Kind v3.1.Value.ch v3.1.Value.Number v3.1.Value.Words v3.1.Version.bP v3.1.Version.bQ v3.1.Version.bL v3.1.Kids
   else
    if ik.1=(2:Int) then
     (bI ik.2 [([]:ai),([61]:ai),([60]:ai),([61,61]:ai)]).bind fun AI=>
     qC AI.2.L AI.2.at_ v3.1.Kind v3.1.Field AI.1 v3.1.Value.Kind v3.1.Value.ch v3.1.Value.Number v3.1.Value.Words v3.1.Version.bP v3.1.Version.bQ v3.1.Version.bL v3.1.Kids
    else
     if ik.1=(3:Int) then
      (cO ik.2 (5:Int)).bind fun v75=>
      (idx [(⟨(0:Int),false,(0:Int),[]⟩:bg),(⟨(9:Int),false,(0:Int),[]⟩:bg),(⟨(1:Int),false,(1:Int),[]⟩:bg),(⟨(3:Int),false,(0:Int),([255]:ai)⟩:bg),(⟨(2:Int),false,(1000000001:Int),[]⟩:bg)] v75.1).bind fun v76=>
      qD v75.2.L v75.2.at_ v3.1.Kind v3.1.Field v3.1.Op v76.Kind v76.ch v76.Number v76.Words v3.1.Version.bP v3.1.Version.bQ v3.1.Version.bL v3.1.Kids
     else
      if ik.1=(4:Int) then
       (iH v3.1.Kids).bind fun v90=>
       (qY ik.2).bind fun D6=>
       (app v90 [D6.1]).bind fun Xk=>
       qE D6.2.L D6.2.at_ v3.1.Kind v3.1.Field v3.1.Op v3.1.Value.Kind v3.1.Value.ch v3.1.Value.Number v3.1.Value.Words v3.1.Version.bP v3.1.Version.bQ v3.1.Version.bL Xk
      else
       (cj ik.2 [(18:Int),(19:Int),(20:Int)]).bind fun MG=>
       yn MG v3.1.Kind v3.1.Field v3.1.Op v3.1.Value.Kind v3.1.Value.ch v3.1.Value.Number v3.1.Value.Words v3.1.Version.bP v3.1.Version.bQ v3.1.Version.bL v3.1.Kids (0:Int)
 else
  nj v5.2.L v5.2.at_ v3.1.Kind v3.1.Field v3.1.Op v3.1.Value.Kind v3.1.Value.ch v3.1.Value.Number v3.1.Value.Words v3.1.Version.bP v3.1.Version.bQ v3.1.Version.bL v3.1.Kids
def r6 (l6:List Int) (n7:Int) (n8:Int) (n9:Int):Option (oM×ah):=
 some ((⟨n8,n9⟩:oM),(⟨l6,n7⟩:ah))
def uo (aa:ah):Option (oM×ah):=
 (cj aa [(0:Int),(5:Int),(30:Int),(100:Int)]).bind fun v2=>
 (cj v2.2 [(30:Int),(100:Int),(250:Int),(1000:Int),(345686400000:Int)]).bind fun v3=>
 (dE v3.2 (20:Int)).bind fun v5=>
 if v5.1=true then
  (cj v5.2 [(-1:Int),(10:Int)]).bind fun v10=>
  (cj v10.2 [(9:Int),(345686400001:Int)]).bind fun v11=>
  r6 v11.2.L v11.2.at_ v10.1 v11.1
 else
  r6 v5.2.L v5.2.at_ v2.1 v3.1
def pZ (l9:List Int) (n10:Int) (yG:List au) (B5:List bH) (We:List aQ) (BA:List bl):Option (aW×ah):=
 some ((⟨yG,B5,We,BA⟩:aW),(⟨l9,n10⟩:ah))
def tE (CL:List Int) (n21:Int) (N5:List au) (MH:List bH) (Ba:List aQ) (CK:List bl):Option (aW×ah):=
 pZ CL n21 N5 MH Ba CK
def tF (FE:List Int) (n34:Int) (D7:List au) (GA:List bH) (GD:List aQ) (Ps:List bl):Option (aW×ah):=
 tE FE n34 D7 GA GD Ps
def tG (v2:aW×ah) (K6:List Int) (n48:Int) (Xl:List bH) (K7:List aQ) (GC:List bl):Option (aW×ah):=
 tF K6 n48 v2.1.ao Xl K7 GC
def tH (v2:aW×ah) (HW:List Int) (n61:Int) (Xm:List aQ) (Xn:List bl):Option (aW×ah):=
 tG v2 HW n61 v2.1.bd Xm Xn
def tI (v2:aW×ah) (Zh:List Int) (Pp:Int) (N3:List bl):Option (aW×ah):=
 tH v2 Zh Pp v2.1.aG N3
def tJ (v2:aW×ah) (Zi:List Int) (Pr:Int) (Xo:List bl):Option (aW×ah):=
 tI v2 Zi Pr Xo
def s0 (aa:ah):Option (aW×ah):=
 (ni aa).bind fun v2=>
 (dE v2.2 (10:Int)).bind fun v8=>
 if v8.1=true then
  (cO v8.2 (6:Int)).bind fun ik=>
  if ik.1=(0:Int) then
   (cO ik.2 (4:Int)).bind fun v30=>
   (bI v30.2 [([116,99]:ai),([116,97]:ai),([110,111,110,101]:ai),([116,98]:ai)]).bind fun v31=>
   (idx v2.1.ao v30.1).bind fun v32=>
   tE v31.2.L v31.2.at_ (v2.1.ao.set v30.1.toNat (⟨v32.Key,v31.1⟩:au)) v2.1.bd v2.1.aG v2.1.aK
  else
   if ik.1=(1:Int) then
    (bI ik.2 [([]:ai),([116,97]:ai),([116,122]:ai)]).bind fun RH=>
    (bI RH.2 [([]:ai),([116,100]:ai)]).bind fun v44=>
    (app v2.1.ao [(⟨RH.1,v44.1⟩:au)]).bind fun UT=>
    tF v44.2.L v44.2.at_ UT v2.1.bd v2.1.aG v2.1.aK
   else
    if ik.1=(2:Int) then
     (bI ik.2 [([]:ai),([114,101,97,100]:ai),([122,122]:ai)]).bind fun v55=>
     (cO v55.2 (6:Int)).bind fun IV=>
     (idx [[],[([97,42]:ai)],[([42,46,97]:ai)],[([98]:ai),([97]:ai)],[([97,46,98,46,99,46,100,46,101,46,102]:ai)],[([97,46,42]:ai)]] IV.1).bind fun P8=>
     (app v2.1.bd [(⟨v55.1,P8⟩:bH)]).bind fun Tu=>
     tG v2 IV.2.L IV.2.at_ Tu v2.1.aG v2.1.aK
    else
     if ik.1=(3:Int) then
      (bI ik.2 [([]:ai),([97,110,110]:ai),([122,101,100]:ai)]).bind fun v66=>
      (bI v66.2 [([116,97]:ai),([110,111,110,101]:ai)]).bind fun v67=>
      (bI v67.2 [([114,101,97,100]:ai),([110,111,110,101]:ai)]).bind fun EG=>
      (app v2.1.aG [(⟨v66.1,v67.1,EG.1⟩:aQ)]).bind fun l69=>
      tH v2 EG.2.L EG.2.at_ l69 v2.1.aK
     else
      if ik.1=(4:Int) then
       (bI ik.2 [([]:ai),([115,97]:ai),([115,122]:ai)]).bind fun v75=>
       (bI v75.2 [([116,97]:ai),([110,111,110,101]:ai),([116,100]:ai)]).bind fun v76=>
       (bI v76.2 [([116,100]:ai),([116,98]:ai),([110,111,110,101]:ai)]).bind fun v77=>
       (r5 v77.2).bind fun v78=>
       (oN v78.2).bind fun v79=>
       (uo v79.2).bind fun v80=>
       (app v2.1.aK [(⟨v75.1,v76.1,v77.1,v78.1,v79.1,v80.1⟩:bl)]).bind fun Tv=>
       tI v2 v80.2.L v80.2.at_ Tv
      else
       if (0:Int) < (v2.1.aK.length:Int) then
        (cO ik.2 (3:Int)).bind fun Pt=>
        (idx [[],[([65]:ai)],[([98]:ai),([97]:ai)]] Pt.1).bind fun v87=>
        (idx v2.1.aK (0:Int)).bind fun vY=>
        tJ v2 Pt.2.L Pt.2.at_ (v2.1.aK.set (0:Int).toNat (⟨vY.Key,vY.ef,vY.To,vY.Query,v87,vY.Time⟩:bl))
       else
        tJ v2 ik.2.L ik.2.at_ v2.1.aK
 else
  pZ v8.2.L v8.2.at_ v2.1.ao v2.1.bd v2.1.aG v2.1.aK
def mb (n16:Int) (CL:List Int) (n21:Int) (N5:List jm):Option (((List Int)×Int×(List jm)×Int)⊕(aL×ah)):=
 some (.inl (CL,n21,N5,cd (n16+(1:Int))))
def mc (n36:Int) (GD:List Int) (n41:Int) (IU:List eB):Option (((List Int)×Int×(List eB)×Int)⊕(aL×ah)):=
 some (.inl (GD,n41,IU,cd (n36+(1:Int))))
def oQ (v2:ai×ah) (v4:Int×ah) (K7:List Int) (Qb:Int) (q54:ai) (q55:ai) (n56:Int) (Tu:List jm) (HW:List eB):Option (aL×ah):=
 some ((⟨(⟨q54,v2.1,q55,(⟨v4.1,n56,(0:Int)⟩:Version),Tu⟩:IT),HW⟩:aL),(⟨K7,Qb⟩:ah))
def r7 (v2:ai×ah) (v4:Int×ah) (FC:List Int) (Pn:Int) (Zj:ai) (Po:ai) (Zk:Int) (Xp:List jm) (Xq:List eB):Option (aL×ah):=
 oQ v2 v4 FC Pn Zj Po Zk Xp Xq
def r8 (ak:ai) (v2:ai×ah) (v3:ai×ah) (v4:Int×ah) (Ts:List Int) (Zl:Int) (Zm:Int) (N4:List jm) (Xr:List eB):Option (aL×ah):=
 r7 v2 v4 Ts Zl ak v3.1 Zm N4 Xr
def r9 (ak:ai) (v2:ai×ah) (v3:ai×ah) (v4:Int×ah) (v5:Int×ah) (Tv:List Int) (Pq:Int) (Xt:List jm) (Xu:List eB):Option (aL×ah):=
 r8 ak v2 v3 v4 Tv Pq v5.1 Xt Xu
def sa (ak:ai) (v2:ai×ah) (v3:ai×ah) (v4:Int×ah) (v5:Int×ah) (sK:List jm) (AH:List Int) (n33:Int) (we:List eB):Option (aL×ah):=
 (dE (⟨AH,n33⟩:ah) (30:Int)).bind fun v51=>
 if v51.1=true then
  (cO v51.2 (4:Int)).bind fun AI=>
  if AI.1=(0:Int) then
   (bI AI.2 [([]:ai),([65]:ai)]).bind fun v71=>
   (bI v71.2 [([]:ai),([65]:ai)]).bind fun v72=>
   r7 v2 v4 v72.2.L v72.2.at_ v71.1 v72.1 v5.1 sK we
  else
   if AI.1=(1:Int) then
    (oP AI.2 (0:Int) (9999:Int)).bind fun v80=>
    r8 ak v2 v3 v4 v80.2.L v80.2.at_ v80.1 sK we
   else
    if AI.1=(2:Int) then
     (bI AI.2 [([115,105,116,101]:ai),([65]:ai),([122]:ai)]).bind fun v87=>
     (bI v87.2 [([]:ai),([32,120]:ai),([118]:ai)]).bind fun vY=>
     (app sK [(⟨v87.1,vY.1⟩:jm)]).bind fun Tt=>
     r9 ak v2 v3 v4 v5 vY.2.L vY.2.at_ Tt we
    else
     (bI AI.2 [([102,97,110,46,111,110]:ai),([65]:ai),([122]:ai)]).bind fun v91=>
     (oP v91.2 (1:Int) (3:Int)).bind fun D6=>
     (app we [(⟨v91.1,(⟨D6.1,false,(0:Int),[]⟩:bg)⟩:eB)]).bind fun Xk=>
     r9 ak v2 v3 v4 v5 D6.2.L D6.2.at_ sK Xk
 else
  oQ v2 v4 v51.2.L v51.2.at_ ak v3.1 v5.1 sK we
def oR (ak:ai) (v2:ai×ah) (v3:ai×ah) (v4:Int×ah) (v5:Int×ah) (sK:List jm) (AH:List Int) (n33:Int) (we:List eB) (n36:Int):Option (((List Int)×Int×(List eB)×Int)⊕(aL×ah)):=
 if n36 < ([([97]:ai),([102,97,110,46,111,110]:ai)].length:Int) then
  (idx [([97]:ai),([102,97,110,46,111,110]:ai)] n36).bind fun v38=>
  (dE (⟨AH,n33⟩:ah) (2:Int)).bind fun v39=>
  if v39.1=true then
   (cj v39.2 [(0:Int),(5:Int),(6:Int),(-5:Int)]).bind fun v44=>
   (dE v44.2 (2:Int)).bind fun v45=>
   (bI v45.2 [([120]:ai),([]:ai)]).bind fun v46=>
   (cj v46.2 [(0:Int),(0:Int),(1:Int),(2:Int)]).bind fun GW=>
   (idx [(⟨(2:Int),false,v44.1,[]⟩:bg),(⟨(1:Int),v45.1,(0:Int),[]⟩:bg),(⟨(3:Int),false,(0:Int),v46.1⟩:bg)] GW.1).bind fun CM=>
   (app we [(⟨v38,CM⟩:eB)]).bind fun l49=>
   mc n36 GW.2.L GW.2.at_ l49
  else
   mc n36 v39.2.L v39.2.at_ we
 else
  Option.map .inr (sa ak v2 v3 v4 v5 sK AH n33 we)
def vz (ak:ai) (v2:ai×ah) (v3:ai×ah) (v4:Int×ah) (v5:Int×ah) (sK:List jm) (AH:List Int) (n33:Int) (we:List eB) (n36:Int):Option (aL×ah):=
 iter (fun x:(List Int)×Int×(List eB)×Int=>oR ak v2 v3 v4 v5 sK x.1 x.2.1 x.2.2.1 x.2.2.2) (AH,n33,we,n36)
def oS (ak:ai) (v2:ai×ah) (v3:ai×ah) (v4:Int×ah) (v5:Int×ah) (yG:List Int) (n13:Int) (sK:List jm) (n16:Int):Option (((List Int)×Int×(List jm)×Int)⊕(aL×ah)):=
 if n16 < ([([111,112,101,110]:ai),([115,105,116,101]:ai)].length:Int) then
  (idx [([111,112,101,110]:ai),([115,105,116,101]:ai)] n16).bind fun oH=>
  (dE (⟨yG,n13⟩:ah) (2:Int)).bind fun ik=>
  if ik.1=true then
   (bI ik.2 [([120]:ai),([121]:ai),([97,34,98,92,99]:ai)]).bind fun v24=>
   (app sK [(⟨oH,v24.1⟩:jm)]).bind fun MH=>
   mb n16 v24.2.L v24.2.at_ MH
  else
   mb n16 ik.2.L ik.2.at_ sK
 else
  Option.map .inr (vz ak v2 v3 v4 v5 sK yG n13 [] (0:Int))
def zc (ak:ai) (v2:ai×ah) (v3:ai×ah) (v4:Int×ah) (v5:Int×ah) (yG:List Int) (n13:Int) (sK:List jm) (n16:Int):Option (aL×ah):=
 iter (fun x:(List Int)×Int×(List jm)×Int=>oS ak v2 v3 v4 v5 x.1 x.2.1 x.2.2.1 x.2.2.2) (yG,n13,sK,n16)
def uq (aa:ah) (ak:ai):Option (aL×ah):=
 (bI aa [([109,97]:ai),([109,98]:ai)]).bind fun v2=>
 (bI v2.2 [([116,97]:ai),([116,98]:ai),([116,100]:ai),([]:ai)]).bind fun v3=>
 (cO v3.2 (2:Int)).bind fun v4=>
 (cj v4.2 [(0:Int),(2:Int)]).bind fun v5=>
 zc ak v2 v3 v4 v5 v5.2.L v5.2.at_ [] (0:Int)
def iA (n10:Int) (B5:List Int) (n15:Int) (Bb:List aL):Option (((List Int)×Int×(List aL)×Int)⊕((List aL)×ah)):=
 some (.inl (B5,n15,Bb,cd (n10+(1:Int))))
def kA (l6:List Int) (n7:Int) (l9:List aL) (n10:Int):Option (((List Int)×Int×(List aL)×Int)⊕((List aL)×ah)):=
 if n10 < ([([100,97]:ai),([100,98]:ai),([100,99]:ai),([100,100]:ai)].length:Int) then
  (idx [([100,97]:ai),([100,98]:ai),([100,99]:ai),([100,100]:ai)] n10).bind fun v12=>
  (dE (⟨l6,n7⟩:ah) (4:Int)).bind fun ma=>
  if (!ma.1)=true then
   (uq ma.2 v12).bind fun oH=>
   (app l9 [oH.1]).bind fun CN=>
   iA n10 oH.2.L oH.2.at_ CN
  else
   iA n10 ma.2.L ma.2.at_ l9
 else
  Option.map .inr (some (l9,(⟨l6,n7⟩:ah)))
def vA (l6:List Int) (n7:Int) (l9:List aL) (n10:Int):Option ((List aL)×ah):=
 iter (fun x:(List Int)×Int×(List aL)×Int=>kA x.1 x.2.1 x.2.2.1 x.2.2.2) (l6,n7,l9,n10)
def nn (aa:ah):Option ((List aL)×ah):=
 vA aa.L aa.at_ [] (0:Int)
def ur (aa:ah):Option (Int×ah):=
 (cO aa (300:Int)).bind fun v1=>
 (cO v1.2 (300:Int)).bind fun v2=>
 (cj v2.2 [(345686399999:Int),(-1:Int),(345686400000:Int)]).bind fun v3=>
 (cj v3.2 [(0:Int),(5:Int),(20:Int),(40:Int),(60:Int),(80:Int),(120:Int),v1.1,v2.1,v3.1]).bind fun v4=>
 some (v4.1,v4.2)
def fE (aa:aW) (zd:List (ai×ai)) (Bb:List (ai×(List ai))) (wy:List (ai×(List Int))) (n26:Int):Option (((List (ai×(List Int)))×Int)⊕aq):=
 if n26 < (aa.aG.length:Int) then
  (idx aa.aG n26).bind fun FF=>
  (vu wy FF.au []).bind fun FB=>
  (app FB [n26]).bind fun B4=>
  some (.inl (jl wy FF.au B4,cd (n26+(1:Int))))
 else
  Option.map .inr (some (⟨aa,zd,Bb,wy,[],[]⟩:aq))
def fG (aa:aW) (zd:List (ai×ai)) (Bb:List (ai×(List ai))) (wy:List (ai×(List Int))) (n26:Int):Option aq:=
 iter (fun x:(List (ai×(List Int)))×Int=>fE aa zd Bb x.1 x.2) (wy,n26)
def cE (aa:aW) (zd:List (ai×ai)) (Bb:List (ai×(List ai))) (n18:Int):Option (((List (ai×(List ai)))×Int)⊕aq):=
 if n18 < (aa.bd.length:Int) then
  (idx aa.bd n18).bind fun ik=>
  some (.inl (jl Bb ik.Key ik.lI,cd (n18+(1:Int))))
 else
  Option.map .inr (fG aa zd Bb [] (0:Int))
def eI (aa:aW) (zd:List (ai×ai)) (Bb:List (ai×(List ai))) (n18:Int):Option aq:=
 iter (fun x:(List (ai×(List ai)))×Int=>cE aa zd x.1 x.2) (Bb,n18)
def cF (aa:aW) (zd:List (ai×ai)) (n12:Int):Option (((List (ai×ai))×Int)⊕aq):=
 if n12 < (aa.ao.length:Int) then
  (idx aa.ao n12).bind fun ma=>
  some (.inl (jl zd ma.Key ma.fe,cd (n12+(1:Int))))
 else
  Option.map .inr (eI aa zd [] (0:Int))
def k6 (aa:aW) (zd:List (ai×ai)) (n12:Int):Option aq:=
 iter (fun x:(List (ai×ai))×Int=>cF aa x.1 x.2) (zd,n12)
def iS (aa:aW):Option aq:=
 k6 aa [] (0:Int)
def wz (n5:Int) (c7:Bool):Option (Int⊕Bool):=
 if c7=true then
  Option.map .inr (some false)
 else
  some (.inl (cd (n5+(1:Int))))
def oT (aa:ai) (n5:Int):Option (Int⊕Bool):=
 if n5 < (aa.length:Int) then
  (idx aa n5).bind fun c6=>
  wz n5 (if (97:Int)≤(c6.toNat:Int) then if (c6.toNat:Int)≤(122:Int) then !true else if (48:Int)≤(c6.toNat:Int) then if (c6.toNat:Int)≤(57:Int) then !true else if (c6.toNat:Int)=(45:Int) then !true else decide (¬ ((c6.toNat:Int)=(95:Int))) else if (c6.toNat:Int)=(45:Int) then !true else decide (¬ ((c6.toNat:Int)=(95:Int))) else if (48:Int)≤(c6.toNat:Int) then if (c6.toNat:Int)≤(57:Int) then !true else if (c6.toNat:Int)=(45:Int) then !true else decide (¬ ((c6.toNat:Int)=(95:Int))) else if (c6.toNat:Int)=(45:Int) then !true else decide (¬ ((c6.toNat:Int)=(95:Int))))
 else
  Option.map .inr (some true)
def ze (aa:ai) (n5:Int):Option Bool:=
 iter (fun x:Int=>oT aa x) n5
def oU (aa:ai) (c1:Bool):Option Bool:=
 if c1=true then
  some false
 else
  ze aa (0:Int)
def k7 (aa:ai):Option Bool:=
 if aa=([]:ai) then
  oU aa true
 else
  if (40:Int) < (aa.length:Int) then
   oU aa true
  else
   (idx aa (0:Int)).bind fun c2=>
   if (c2.toNat:Int) < (97:Int) then
    oU aa true
   else
    (idx aa (0:Int)).bind fun c3=>
    oU aa (decide ((122:Int) < (c3.toNat:Int)))
def gB (aa:aq) (ak:ai):Option Bool:=
 (AG aa.aT ak []).bind fun v1=>
 some v1.2
def jt (aa:aq) (q4:ai) (l6:List ai) (c8:Bool):Option ((ai×(List ai))⊕(List ai)):=
 if c8=true then
  (app l6 [q4]).bind fun l10=>
  (vu aa.aT q4 []).bind fun v12=>
  some (.inl (v12,l10))
 else
  Option.map .inr (some l6)
def gW (aa:aq) (q4:ai) (l6:List ai):Option ((ai×(List ai))⊕(List ai)):=
 (gB aa q4).bind fun v9=>
 jt aa q4 l6 (v9&&(decide ((l6.length:Int)≤(aa.aT.length:Int))))
def ju (aa:aq) (q4:ai) (l6:List ai):Option (List ai):=
 iter (fun x:ai×(List ai)=>gW aa x.1 x.2) (q4,l6)
def gn (aa:aq) (ak:ai):Option (List ai):=
 ju aa ak []
def dv (aa:List ai) (ak:ai) (n2:Int):Option (Int⊕Int):=
 if n2 < (aa.length:Int) then
  (idx aa n2).bind fun v3=>
  if ak=v3 then
   Option.map .inr (some n2)
  else
   some (.inl (cd (n2+(1:Int))))
 else
  Option.map .inr (some (-1:Int))
def fH (aa:List ai) (ak:ai) (n2:Int):Option Int:=
 iter (fun x:Int=>dv aa ak x) n2
def gC (aa:List ai) (ak:ai):Option Int:=
 fH aa ak (0:Int)
def bc (aa:List ai) (ak:ai):Option Bool:=
 (gC aa ak).bind fun v1=>
 some (decide ((0:Int)≤v1))
def fO (n2:Int) (c6:Bool):Option (Int⊕Int):=
 if c6=true then
  Option.map .inr (some (7:Int))
 else
  some (.inl (cd (n2+(1:Int))))
def fP (n9:Int) (c12:Bool):Option (Int⊕Int):=
 if c12=true then
  Option.map .inr (some (8:Int))
 else
  some (.inl (cd (n9+(1:Int))))
def iI (n17:Int) (c24:Bool):Option ((Bool×Int)⊕Int):=
 some (.inl (c24,cd (n17+(1:Int))))
def lJ (MI:Bool):Option Int:=
 if MI=true then
  some (2:Int)
 else
  some (0:Int)
def ez (aa:aq) (MI:Bool) (n17:Int):Option ((Bool×Int)⊕Int):=
 if n17 < (aa.aW.ao.length:Int) then
  (idx aa.aW.ao n17).bind fun oH=>
  (gn aa oH.Key).bind fun v20=>
  (BN v20 (1:Int) (v20.length:Int)).bind fun UU=>
  (bc UU oH.Key).bind fun v23=>
  if v23=true then
   Option.map .inr (some (14:Int))
  else
   iI n17 (MI||(decide ((11:Int) < (v20.length:Int))))
 else
  Option.map .inr (lJ MI)
def dP (aa:aq) (MI:Bool) (n17:Int):Option Int:=
 iter (fun x:Bool×Int=>ez aa x.1 x.2) (MI,n17)
def fQ (aa:aq) (n9:Int):Option (Int⊕Int):=
 if n9 < (aa.aW.ao.length:Int) then
  (idx aa.aW.ao n9).bind fun v10=>
  if v10.fe≠([]:ai) then
   (gB aa v10.fe).bind fun ma=>
   fP n9 (!ma)
  else
   fP n9 false
 else
  Option.map .inr (dP aa false (0:Int))
def iJ (aa:aq) (n9:Int):Option Int:=
 iter (fun x:Int=>fQ aa x) n9
def fR (aa:aq) (n2:Int):Option (Int⊕Int):=
 if n2 < (aa.aW.ao.length:Int) then
  (idx aa.aW.ao n2).bind fun v3=>
  (k7 v3.Key).bind fun v5=>
  if (!v5)=true then
   Option.map .inr (some (5:Int))
  else
   if (0:Int) < n2 then
    (idx aa.aW.ao (cd (n2 - (1:Int)))).bind fun v7=>
    fO n2 (Op.bytesLess v3.Key v7.Key||v3.Key==v7.Key)
   else
    fO n2 false
 else
  Option.map .inr (iJ aa (0:Int))
def p9 (aa:aq) (n2:Int):Option Int:=
 iter (fun x:Int=>fR aa x) n2
def fN (aa:aq):Option Int:=
 if (200:Int) < (aa.aW.ao.length:Int) then
  some (2:Int)
 else
  p9 aa (0:Int)
def dz (c1:Bool):Option Bool:=
 some c1
def di (aa:ai) (ak:ai):Option Bool:=
 if (ak.length:Int)≤(aa.length:Int) then
  (BN aa (cd ((aa.length:Int) - (ak.length:Int))) (aa.length:Int)).bind fun l2=>
  dz (decide (l2=ak))
 else
  dz false
def fo (aa:ai) (ak:ai):Option (ai×Bool):=
 (di aa ak).bind fun v1=>
 if (!v1)=true then
  some (aa,false)
 else
  (BN aa (0:Int) (cd ((aa.length:Int) - (ak.length:Int)))).bind fun l2=>
  some (l2,true)
def strings_CutSuffix (aa:ai) (ak:ai):Option (ai×Bool):=
 (fo aa ak).bind fun v1=>
 some (v1.1,v1.2)
def iT (ak:Int) (q3:ai) (n4:Int):Option ((ai×Int)⊕Bool):=
 if n4 < ak then
  (RC q3 ([46]:ai)).bind fun v5=>
  (k7 v5.1).bind fun v6=>
  if (!v6)=true then
   Option.map .inr (some false)
  else
   if (!v5.2.2)=true then
    Option.map .inr (some true)
   else
    some (.inl (v5.2.1,cd (n4+(1:Int))))
 else
  Option.map .inr (some false)
def sb (ak:Int) (q3:ai) (n4:Int):Option Bool:=
 iter (fun x:ai×Int=>iT ak x.1 x.2) (q3,n4)
def mI (aa:ai) (ak:Int):Option Bool:=
 sb ak aa (0:Int)
def gD (aa:ai):Option Bool:=
 (mI aa (5:Int)).bind fun v1=>
 some v1
def np (c4:Bool):Option Bool:=
 some c4
def ph (aa:ai):Option Bool:=
 (strings_CutSuffix aa ([42]:ai)).bind fun v1=>
 if (!v1.2)=true then
  (gD aa).bind fun v2=>
  some v2
 else
  if v1.1=([]:ai) then
   some true
  else
   (strings_CutSuffix v1.1 ([46]:ai)).bind fun v3=>
   if v3.2=true then
    (mI v3.1 (4:Int)).bind fun v5=>
    np v5
   else
    np false
def jv (n2:Int) (c5:Bool):Option (Int⊕Int):=
 if c5=true then
  Option.map .inr (some (7:Int))
 else
  some (.inl (cd (n2+(1:Int))))
def gY (aa:List ai) (n2:Int):Option (Int⊕Int):=
 if n2 < (aa.length:Int) then
  (idx aa n2).bind fun v3=>
  (ph v3).bind fun v4=>
  if (!v4)=true then
   Option.map .inr (some (5:Int))
  else
   if (0:Int) < n2 then
    (idx aa (cd (n2 - (1:Int)))).bind fun v6=>
    jv n2 (Op.bytesLess v3 v6||v3==v6)
   else
    jv n2 false
 else
  Option.map .inr (some (0:Int))
def uT (aa:List ai) (n2:Int):Option Int:=
 iter (fun x:Int=>gY aa x) n2
def jS (aa:List ai):Option Int:=
 if (aa.length:Int)=(0:Int) then
  some (8:Int)
 else
  if (50:Int) < (aa.length:Int) then
   some (2:Int)
  else
   uT aa (0:Int)
def ee (n2:Int) (v3:bH) (c6:Bool):Option (Int⊕Int):=
 if c6=true then
  Option.map .inr (some (7:Int))
 else
  (jS v3.lI).bind fun v8=>
  if v8≠(0:Int) then
   Option.map .inr (some v8)
  else
   some (.inl (cd (n2+(1:Int))))
def cP (aa:aq) (n2:Int):Option (Int⊕Int):=
 if n2 < (aa.aW.bd.length:Int) then
  (idx aa.aW.bd n2).bind fun v3=>
  (k7 v3.Key).bind fun v5=>
  if (!v5)=true then
   Option.map .inr (some (5:Int))
  else
   if (0:Int) < n2 then
    (idx aa.aW.bd (cd (n2 - (1:Int)))).bind fun v7=>
    ee n2 v3 (Op.bytesLess v3.Key v7.Key||v3.Key==v7.Key)
   else
    ee n2 v3 false
 else
  Option.map .inr (some (0:Int))
def pP (aa:aq) (n2:Int):Option Int:=
 iter (fun x:Int=>cP aa x) n2
def gE (aa:aq):Option Int:=
 if (50:Int) < (aa.aW.bd.length:Int) then
  some (2:Int)
 else
  pP aa (0:Int)
def tL (aa:List Int) (n2:Int):Option (Int⊕Int):=
 if n2 < (aa.length:Int) then
  (idx aa n2).bind fun v3=>
  if v3≠(0:Int) then
   Option.map .inr (some v3)
  else
   some (.inl (cd (n2+(1:Int))))
 else
  Option.map .inr (some (0:Int))
def GX (aa:List Int) (n2:Int):Option Int:=
 iter (fun x:Int=>tL aa x) n2
def gh (aa:List Int):Option Int:=
 GX aa (0:Int)
def nq (aa:aQ) (ak:aQ):Option Int:=
 (gh [(Lib.compareBytes aa.ek ak.ek),(Lib.compareBytes aa.au ak.au),(Lib.compareBytes aa.bH ak.bH)]).bind fun v3=>
 some v3
def cG (n2:Int) (c9:Bool):Option (Int⊕Int):=
 if c9=true then
  Option.map .inr (some (7:Int))
 else
  some (.inl (cd (n2+(1:Int))))
def cH (aa:aq) (n2:Int) (v3:aQ) (c7:Bool):Option (Int⊕Int):=
 if c7=true then
  Option.map .inr (some (8:Int))
 else
  if (0:Int) < n2 then
   (idx aa.aW.aG (cd (n2 - (1:Int)))).bind fun v10=>
   (nq v3 v10).bind fun v11=>
   cG n2 (decide (v11≤(0:Int)))
  else
   cG n2 false
def eJ (aa:aq) (n2:Int):Option (Int⊕Int):=
 if n2 < (aa.aW.aG.length:Int) then
  (idx aa.aW.aG n2).bind fun v3=>
  (AG aa.bU v3.bH []).bind fun v5=>
  (k7 v3.ek).bind fun v6=>
  if (!v6)=true then
   Option.map .inr (some (5:Int))
  else
   (gB aa v3.au).bind fun v8=>
   cH aa n2 v3 ((!v8)||(!v5.2))
 else
  Option.map .inr (some (0:Int))
def om (aa:aq) (n2:Int):Option Int:=
 iter (fun x:Int=>eJ aa x) n2
def eA (aa:aq):Option Int:=
 if (500:Int) < (aa.aW.aG.length:Int) then
  some (2:Int)
 else
  om aa (0:Int)
def gG (c1:Bool):Option Bool:=
 some c1
def gZ (aa:aq) (ak:ai) (aP:ai):Option Bool:=
 if ak≠aP then
  (gn aa ak).bind fun v2=>
  (bc v2 aP).bind fun v4=>
  gG v4
 else
  gG false
def fW (self:Query→Option (Int×Int)) (aa:Query) (n7:Int) (n8:Int) (n9:Int):Option ((Int×Int×Int)⊕(Int×Int)):=
 if n9 < (aa.Kids.length:Int) then
  (idx aa.Kids n9).bind fun v10=>
  (self v10).bind fun v12=>
  some (.inl (cd (n7+v12.1),max n8 v12.2,cd (n9+(1:Int))))
 else
  Option.map .inr (some (n7,cd (n8+(1:Int))))
def uH (self:Query→Option (Int×Int)) (aa:Query) (n7:Int) (n8:Int) (n9:Int):Option (Int×Int):=
 iter (fun x:Int×Int×Int=>fW self aa x.1 x.2.1 x.2.2) (n7,n8,n9)
def nu (self:Query→Option (Int×Int)) (aa:Query) (n3:Int):Option (Int×Int):=
 uH self aa n3 (0:Int) (0:Int)
def qF (self:Query→Option (Int×Int)) (aa:Query) (c2:Bool):Option (Int×Int):=
 if c2=true then
  nu self aa (1:Int)
 else
  nu self aa (0:Int)
def nv (self:Query→Option (Int×Int)) (aa:Query):Option (Int×Int):=
 qF self aa ((decide (aa.Kind=(1:Int)))||(decide (aa.Kind=(2:Int))))
def fS:Nat→Query→Option (Int×Int)
 | 0=>fun _=>none
 | k+1=>nv (fS k)
def xT (aa:Query):Option (Int×Int):=
 fS depth aa
def uu (c1:Bool):Bool:=
 c1
def kB (aa:Int) (ak:Int) (aP:Int):Bool:=
 uu ((decide (aa < ak))||(decide (aP < aa)))
def oo (aa:Query) (ak:Query):Bool:=
 decide (aa.Kind=ak.Kind)
def eV (aa:List Query) (iB:Query→Option Bool) (n2:Int):Option (Int⊕Int):=
 if n2 < (aa.length:Int) then
  (idx aa n2).bind fun v3=>
  (iB v3).bind fun v4=>
  if v4=true then
   Option.map .inr (some n2)
  else
   some (.inl (cd (n2+(1:Int))))
 else
  Option.map .inr (some (-1:Int))
def sM (aa:List Query) (iB:Query→Option Bool) (n2:Int):Option Int:=
 iter (fun x:Int=>eV aa iB x) n2
def jn (aa:List Query) (iB:Query→Option Bool):Option Int:=
 sM aa iB (0:Int)
def bW (aa:List Query) (iB:Query→Option Bool):Option Bool:=
 (jn aa iB).bind fun v1=>
 some (decide ((0:Int)≤v1))
def sc (JR:Bool):Option Int:=
 if JR=true then
  some (3:Int)
 else
  some (0:Int)
def k8 (aa:Query) (c3:Bool) (q4:ai) (q5:ai) (n6:Int) (c7:Bool) (n8:Int) (q9:ai) (n10:Int) (n11:Int) (n12:Int):Option Int:=
 sc (c3||((decide (q4≠aa.Field))||((decide (q5≠aa.Op))||((decide ((⟨n6,c7,n8,q9⟩:bg)≠aa.Value))||(decide ((⟨n10,n11,n12⟩:Version)≠aa.Version))))))
def jb (aa:Query) (D8:Bool) (Qa:ai):Option Int:=
 k8 aa D8 Qa [] (0:Int) false (0:Int) [] (0:Int) (0:Int) (0:Int)
def jc (aa:Query) (Qd:Bool):Option Int:=
 jb aa Qd []
def k9 (aa:Query) (MI:Bool):Option Int:=
 jc aa MI
def oV (aa:Query):Option Int:=
 if (kB aa.Kind (1:Int) (5:Int))=true then
  some (4:Int)
 else
  if aa.Kind=(1:Int) then
   k8 aa (decide ((aa.Kids.length:Int)≠(0:Int))) aa.Field aa.Op aa.Value.Kind aa.Value.ch aa.Value.Number aa.Value.Words aa.Version.bP aa.Version.bQ aa.Version.bL
  else
   if aa.Kind=(2:Int) then
    jb aa (decide ((aa.Kids.length:Int)≠(0:Int))) aa.Field
   else
    if aa.Kind=(3:Int) then
     jc aa (decide ((aa.Kids.length:Int)≠(1:Int)))
    else
     if (aa.Kids.length:Int) < (2:Int) then
      k9 aa true
     else
      (bW aa.Kids (fun y0=>some (oo y0 aa))).bind fun v17=>
      k9 aa v17
def dA (c1:Bool):Option Bool:=
 some c1
def dj (aa:ai) (ak:ai):Option Bool:=
 if (ak.length:Int)≤(aa.length:Int) then
  (BN aa (0:Int) (ak.length:Int)).bind fun l2=>
  dA (decide (l2=ak))
 else
  dA false
def fp (aa:ai) (ak:ai):Option (ai×Bool):=
 (dj aa ak).bind fun v1=>
 if (!v1)=true then
  some (aa,false)
 else
  (BN aa (ak.length:Int) (aa.length:Int)).bind fun l2=>
  some (l2,true)
def strings_CutPrefix (aa:ai) (ak:ai):Option (ai×Bool):=
 (fp aa ak).bind fun v1=>
 some (v1.1,v1.2)
def qa (c2:Bool):Option Bool:=
 some c2
def ta (aa:ai):Option Bool:=
 (strings_CutPrefix aa ([116,97,103,46]:ai)).bind fun v1=>
 if v1.2=true then
  (k7 v1.1).bind fun v3=>
  qa v3
 else
  qa false
def me (c1:Bool):Option Bool:=
 some c1
def nL (aa:ai):Option Bool:=
 if (aa.length:Int)≤(40:Int) then
  (mI aa (5:Int)).bind fun v2=>
  me v2
 else
  me false
def oW (c2:Bool):Option Bool:=
 some c2
def oX (aa:ai):Option Bool:=
 (strings_CutPrefix aa ([112,114,111,112,46]:ai)).bind fun v1=>
 if v1.2=true then
  (nL v1.1).bind fun v3=>
  oW v3
 else
  oW false
def iK (c1:Bool):Option Bool:=
 some c1
def vB (aa:ai):Option Bool:=
 if aa=([107,101,121]:ai) then
  iK true
 else
  if aa=([109,111,100,101,108]:ai) then
   iK true
  else
   if aa=([116,101,110,97,110,116]:ai) then
    iK true
   else
    if aa=([102,105,114,109,119,97,114,101]:ai) then
     iK true
    else
     (ta aa).bind fun v2=>
     if v2=true then
      iK true
     else
      (oX aa).bind fun v3=>
      iK v3
def fi:(List ai):=
 [([61,61]:ai),([33,61]:ai),([60]:ai),([60,61]:ai),([62]:ai),([62,61]:ai)]
def qG (c2:Bool):Bool:=
 c2
def fq (aa:Version):Bool:=
 qG ((!(kB aa.bP (0:Int) (9999:Int)))&&((!(kB aa.bQ (0:Int) (9999:Int)))&&(!(kB aa.bL (0:Int) (9999:Int)))))
def lK (FG:Bool):Option Bool:=
 some FG
def nM (aa:bg) (c3:Bool) (n4:Int) (q5:ai):Option Bool:=
 if aa=(⟨aa.Kind,c3,n4,q5⟩:bg) then
  if (!(kB aa.Number (-1000000000:Int) (1000000000:Int)))=true then
   if (aa.Words.length:Int)≤(100:Int) then
    (wQ aa.Words).bind fun v12=>
    lK v12
   else
    lK false
  else
   lK false
 else
  lK false
def qd (aa:bg) (c6:Bool) (n7:Int) (q8:ai):Option Bool:=
 nM aa c6 n7 q8
def qe (aa:bg) (n9:Int) (N2:ai):Option Bool:=
 qd aa false n9 N2
def tb (aa:bg):Option Bool:=
 if aa.Kind=(0:Int) then
  nM aa false (0:Int) []
 else
  if aa.Kind=(1:Int) then
   qd aa aa.ch (0:Int) []
  else
   if aa.Kind=(2:Int) then
    qe aa aa.Number []
   else
    if aa.Kind=(3:Int) then
     qe aa (0:Int) aa.Words
    else
     some false
def oq (zf:Bool):Option Int:=
 if zf=true then
  some (10:Int)
 else
  some (0:Int)
def jd (aa:Query) (c12:Bool):Option Int:=
 if c12=true then
  some (10:Int)
 else
  oq ((decide (aa.Value.Kind≠(2:Int)))&&((decide (aa.Op≠([61,61]:ai)))&&(decide (aa.Op≠([33,61]:ai)))))
def je (aa:Query) (GY:Bool):Option Int:=
 if GY=true then
  some (3:Int)
 else
  if aa.Value.Kind≠(3:Int) then
   (oX aa.Field).bind fun ma=>
   jd aa (!ma)
  else
   jd aa false
def ot (aa:Query) (c9:Bool):Option Int:=
 if c9=true then
  some (1:Int)
 else
  if aa.Field=([102,105,114,109,119,97,114,101]:ai) then
   some (0:Int)
  else
   if aa.Version≠(⟨(0:Int),(0:Int),(0:Int)⟩:Version) then
    je aa true
   else
    (tb aa.Value).bind fun v11=>
    je aa ((!v11)||(decide (aa.Value.Kind=(0:Int))))
def ou (aa:Query) (c8:Bool):Option Int:=
 if c8=true then
  some (3:Int)
 else
  ot aa ((decide (aa.Field=([102,105,114,109,119,97,114,101]:ai)))&&(!(fq aa.Version)))
def eK (aa:Query) (c2:Bool):Option Int:=
 if c2=true then
  some (5:Int)
 else
  if aa.Kind=(2:Int) then
   some (0:Int)
  else
   (bc fi aa.Op).bind fun v7=>
   if (!v7)=true then
    some (10:Int)
   else
    ou aa ((decide (aa.Field=([102,105,114,109,119,97,114,101]:ai)))&&(decide (aa.Value≠(⟨(0:Int),false,(0:Int),[]⟩:bg))))
def oY (aa:Query):Option Int:=
 (vB aa.Field).bind fun v3=>
 if (!v3)=true then
  eK aa true
 else
  if aa.Kind=(2:Int) then
   (ta aa.Field).bind fun v4=>
   if (!v4)=true then
    (oX aa.Field).bind fun v5=>
    eK aa (!v5)
   else
    eK aa false
  else
   eK aa false
def eN (self:Query→Option Int) (aa:Query) (n6:Int):Option (Int⊕Int):=
 if n6 < (aa.Kids.length:Int) then
  (idx aa.Kids n6).bind fun v7=>
  (self v7).bind fun v9=>
  if v9≠(0:Int) then
   Option.map .inr (some v9)
  else
   some (.inl (cd (n6+(1:Int))))
 else
  Option.map .inr (some (0:Int))
def ov (self:Query→Option Int) (aa:Query) (n6:Int):Option Int:=
 iter (fun x:Int=>eN self aa x) n6
def ow (self:Query→Option Int) (aa:Query) (c3:Bool):Option Int:=
 if c3=true then
  (oY aa).bind fun v4=>
  some v4
 else
  ov self aa (0:Int)
def lf (self:Query→Option Int) (aa:Query):Option Int:=
 (oV aa).bind fun v2=>
 if v2≠(0:Int) then
  some v2
 else
  ow self aa ((decide (aa.Kind=(1:Int)))||(decide (aa.Kind=(2:Int))))
def bT:Nat→Query→Option Int
 | 0=>fun _=>none
 | k+1=>lf (bT k)
def vC (aa:Query):Option Int:=
 bT depth aa
def mO (aa:Query) (c3:Bool):Option Int:=
 if c3=true then
  some (2:Int)
 else
  (vC aa).bind fun v4=>
  some v4
def dR (aa:Query):Option Int:=
 (xT aa).bind fun v2=>
 mO aa ((decide ((40:Int) < v2.1))||(decide ((20:Int) < v2.2)))
def tM (aa:List Int) (n2:Int):Option (Int⊕Int):=
 if n2 < (aa.length:Int) then
  (idx aa n2).bind fun v3=>
  if v3≠(0:Int) then
   Option.map .inr (some v3)
  else
   some (.inl (cd (n2+(1:Int))))
 else
  Option.map .inr (some (0:Int))
def GZ (aa:List Int) (n2:Int):Option Int:=
 iter (fun x:Int=>tM aa x) n2
def xU (aa:List Int):Option Int:=
 GZ aa (0:Int)
def sd (c2:Bool):Bool:=
 c2
def qZ (aa:oM):Bool:=
 sd ((!(kB aa.ef (0:Int) aa.To))&&(decide (aa.To≤(345686400000:Int))))
def ct (n2:Int) (v3:bl) (FG:Bool):Option (Int⊕Int):=
 if FG=true then
  Option.map .inr (some (13:Int))
 else
  (dR v3.Query).bind fun rl=>
  (jS v3.lI).bind fun B3=>
  (xU [rl,B3]).bind fun pf=>
  if pf≠(0:Int) then
   Option.map .inr (some pf)
  else
   if (!(qZ v3.Time))=true then
    Option.map .inr (some (1:Int))
   else
    some (.inl (cd (n2+(1:Int))))
def dm (aa:aq) (n2:Int) (v3:bl) (c8:Bool):Option (Int⊕Int):=
 if c8=true then
  Option.map .inr (some (8:Int))
 else
  if v3.ef=v3.To then
   ct n2 v3 true
  else
   (gZ aa v3.ef v3.To).bind fun v12=>
   if v12=true then
    ct n2 v3 true
   else
    (gZ aa v3.To v3.ef).bind fun ma=>
    ct n2 v3 ma
def dn (aa:aq) (n2:Int) (v3:bl) (c6:Bool):Option (Int⊕Int):=
 if c6=true then
  Option.map .inr (some (7:Int))
 else
  (gB aa v3.ef).bind fun v9=>
  if (!v9)=true then
   dm aa n2 v3 true
  else
   (gB aa v3.To).bind fun v10=>
   dm aa n2 v3 (!v10)
def fh (aa:aq) (n2:Int):Option (Int⊕Int):=
 if n2 < (aa.aW.aK.length:Int) then
  (idx aa.aW.aK n2).bind fun v3=>
  (k7 v3.Key).bind fun v5=>
  if (!v5)=true then
   Option.map .inr (some (5:Int))
  else
   if (0:Int) < n2 then
    (idx aa.aW.aK (cd (n2 - (1:Int)))).bind fun v7=>
    dn aa n2 v3 (Op.bytesLess v3.Key v7.Key||v3.Key==v7.Key)
   else
    dn aa n2 v3 false
 else
  Option.map .inr (some (0:Int))
def oZ (aa:aq) (n2:Int):Option Int:=
 iter (fun x:Int=>fh aa x) n2
def eT (aa:aq):Option Int:=
 if (200:Int) < (aa.aW.aK.length:Int) then
  some (2:Int)
 else
  oZ aa (0:Int)
def dp (aa:aW):Option ((Option aq)×Int):=
 (iS aa).bind fun v2=>
 (fN v2).bind fun v9=>
 if v9≠(0:Int) then
  some (none,v9)
 else
  (gE v2).bind fun v10=>
  if v10≠(0:Int) then
   some (none,v10)
  else
   (eA v2).bind fun v11=>
   if v11≠(0:Int) then
    some (none,v11)
   else
    (eT v2).bind fun v12=>
    if v12≠(0:Int) then
     some (none,v12)
    else
     some (some v2,(0:Int))
def mf (n2:Int) (c3:Bool):Option (Int⊕Bool):=
 if c3=true then
  Option.map .inr (some false)
 else
  some (.inl (cd (n2+(1:Int))))
def tc (aa:ai):Option Bool:=
 (wQ aa).bind fun v6=>
 some v6
def fu (aa:ai) (n2:Int):Option (Int⊕Bool):=
 if n2 < (aa.length:Int) then
  (idx aa n2).bind fun c4=>
  if (c4.toNat:Int) < (32:Int) then
   mf n2 true
  else
   (idx aa n2).bind fun c5=>
   mf n2 (decide ((c5.toNat:Int)=(127:Int)))
 else
  Option.map .inr (tc aa)
def xk (aa:ai) (n2:Int):Option Bool:=
 iter (fun x:Int=>fu aa x) n2
def qg (aa:ai):Option Bool:=
 xk aa (0:Int)
def strings_HasPrefix (aa:ai) (ak:ai):Option Bool:=
 (dj aa ak).bind fun v1=>
 some v1
def strings_HasSuffix (aa:ai) (ak:ai):Option Bool:=
 (di aa ak).bind fun v1=>
 some v1
def strings_Contains (aa:ai) (ak:ai):Option Bool:=
 (ME aa ak).bind fun v1=>
 some (decide ((0:Int)≤v1))
def lL (c1:Bool):Option Bool:=
 some c1
def vD (aa:ai):Option Bool:=
 (qg aa).bind fun v2=>
 if v2=true then
  (strings_HasPrefix aa ([32]:ai)).bind fun v3=>
  if (!v3)=true then
   (strings_HasSuffix aa ([32]:ai)).bind fun v4=>
   if (!v4)=true then
    (strings_Contains aa ([32,32]:ai)).bind fun v5=>
    lL (!v5)
   else
    lL false
  else
   lL false
 else
  lL false
def mg (c1:Bool):Option Bool:=
 some c1
def qh (aa:ai):Option Bool:=
 if (!(kB (aa.length:Int) (1:Int) (100:Int)))=true then
  (vD aa).bind fun v2=>
  mg v2
 else
  mg false
def jK (n8:Int) (v9:jm) (c12:Bool):Option (Int⊕Int):=
 if c12=true then
  Option.map .inr (some (7:Int))
 else
  (qh v9.Value).bind fun rl=>
  if (!rl)=true then
   Option.map .inr (some (3:Int))
  else
   some (.inl (cd (n8+(1:Int))))
def qj (n16:Int) (c22:Bool):Option (Int⊕Int):=
 if c22=true then
  Option.map .inr (some (3:Int))
 else
  some (.inl (cd (n16+(1:Int))))
def jL (n16:Int) (v17:eB) (c20:Bool):Option (Int⊕Int):=
 if c20=true then
  Option.map .inr (some (7:Int))
 else
  (tb v17.Value).bind fun v23=>
  qj n16 ((!v23)||(decide (v17.Value.Kind=(0:Int))))
def lM (aa:aL) (n16:Int):Option (Int⊕Int):=
 if n16 < (aa.eG.length:Int) then
  (idx aa.eG n16).bind fun v17=>
  (nL v17.Name).bind fun ik=>
  if (!ik)=true then
   Option.map .inr (some (5:Int))
  else
   if (0:Int) < n16 then
    (idx aa.eG (cd (n16 - (1:Int)))).bind fun v21=>
    jL n16 v17 (Op.bytesLess v17.Name v21.Name||v17.Name==v21.Name)
   else
    jL n16 v17 false
 else
  Option.map .inr (some (0:Int))
def tN (aa:aL) (n16:Int):Option Int:=
 iter (fun x:Int=>lM aa x) n16
def tO (aa:aL):Option Int:=
 if (50:Int) < (aa.eG.length:Int) then
  some (2:Int)
 else
  tN aa (0:Int)
def lN (aa:aL) (n8:Int):Option (Int⊕Int):=
 if n8 < (aa.Device.kY.length:Int) then
  (idx aa.Device.kY n8).bind fun v9=>
  (k7 v9.Name).bind fun v11=>
  if (!v11)=true then
   Option.map .inr (some (5:Int))
  else
   if (0:Int) < n8 then
    (idx aa.Device.kY (cd (n8 - (1:Int)))).bind fun ma=>
    jK n8 v9 (Op.bytesLess v9.Name ma.Name||v9.Name==ma.Name)
   else
    jK n8 v9 false
 else
  Option.map .inr (tO aa)
def tP (aa:aL) (n8:Int):Option Int:=
 iter (fun x:Int=>lN aa x) n8
def iL (aa:aL) (c3:Bool):Option Int:=
 if c3=true then
  some (5:Int)
 else
  if (!(fq aa.Device.ff))=true then
   some (1:Int)
  else
   if (20:Int) < (aa.Device.kY.length:Int) then
    some (2:Int)
   else
    tP aa (0:Int)
def iC (aa:aL):Option Int:=
 (k7 aa.Device.Key).bind fun v4=>
 if (!v4)=true then
  iL aa true
 else
  (k7 aa.Device.Model).bind fun v5=>
  if (!v5)=true then
   iL aa true
  else
   if aa.Device.au≠([]:ai) then
    (k7 aa.Device.au).bind fun v6=>
    iL aa (!v6)
   else
    iL aa false
def fI (n2:Int) (c6:Bool):Option (Int⊕Int):=
 if c6=true then
  Option.map .inr (some (7:Int))
 else
  some (.inl (cd (n2+(1:Int))))
def fJ (aa:List aL) (n2:Int):Option (Int⊕Int):=
 if n2 < (aa.length:Int) then
  (idx aa n2).bind fun v3=>
  (iC v3).bind fun v5=>
  if v5≠(0:Int) then
   Option.map .inr (some v5)
  else
   if (0:Int) < n2 then
    (idx aa (cd (n2 - (1:Int)))).bind fun v7=>
    fI n2 (Op.bytesLess v3.Device.Key v7.Device.Key||v3.Device.Key==v7.Device.Key)
   else
    fI n2 false
 else
  Option.map .inr (some (0:Int))
def ox (aa:List aL) (n2:Int):Option Int:=
 iter (fun x:Int=>fJ aa x) n2
def ep (aa:List aL):Option Int:=
 if (500:Int) < (aa.length:Int) then
  some (2:Int)
 else
  ox aa (0:Int)
def iU (aa:Int):Bool:=
 !(kB aa (0:Int) (345686399999:Int))
def jT (c2:Bool):Option Bool:=
 some c2
def nO (aa:ai) (ak:ai):Option Bool:=
 (strings_CutSuffix aa ([42]:ai)).bind fun v1=>
 if aa=ak then
  jT true
 else
  if v1.2=true then
   (strings_HasPrefix ak v1.1).bind fun v3=>
   jT v3
  else
   jT false
def jf (aa:ai) (ak:ai):Option Bool:=
 (nO aa ak).bind fun v1=>
 some v1
def ew (aa:List ai) (iB:ai→Option Bool) (n2:Int):Option (Int⊕Int):=
 if n2 < (aa.length:Int) then
  (idx aa n2).bind fun v3=>
  (iB v3).bind fun v4=>
  if v4=true then
   Option.map .inr (some n2)
  else
   some (.inl (cd (n2+(1:Int))))
 else
  Option.map .inr (some (-1:Int))
def rm (aa:List ai) (iB:ai→Option Bool) (n2:Int):Option Int:=
 iter (fun x:Int=>ew aa iB x) n2
def iD (aa:List ai) (iB:ai→Option Bool):Option Int:=
 rm aa iB (0:Int)
def aV (aa:List ai) (iB:ai→Option Bool):Option Bool:=
 (iD aa iB).bind fun v1=>
 some (decide ((0:Int)≤v1))
def kC (aa:List ai) (ak:ai):Option Bool:=
 (aV aa (fun y0=>jf y0 ak)).bind fun v2=>
 some v2
def gH (n18:Int) (wy:List Int):Option (((List Int)×Int)⊕(((List Int)×Int)⊕((List Int)×aq))):=
 some (.inl (wy,cd (n18+(1:Int))))
def cY (aa:aq) (ak:ai) (n9:Int) (v12:List Int) (Bb:List Int) (n18:Int):Option (((List Int)×Int)⊕(((List Int)×Int)⊕((List Int)×aq))):=
 if n18 < (v12.length:Int) then
  (idx v12 n18).bind fun ik=>
  (idx aa.aW.aG ik).bind fun v20=>
  (vu aa.bU v20.bH []).bind fun v21=>
  (kC v21 ak).bind fun v22=>
  if v22=true then
   (app Bb [ik]).bind fun MH=>
   gH n18 MH
  else
   gH n18 Bb
 else
  Option.map .inr (some (.inl (Bb,cd (n9+(1:Int)))))
def mP (aa:aq) (ak:ai) (n9:Int) (v12:List Int) (Bb:List Int) (n18:Int):Option (((List Int)×Int)⊕((List Int)×aq)):=
 iter (fun x:(List Int)×Int=>cY aa ak n9 v12 x.1 x.2) (Bb,n18)
def cZ (aa:aq) (ak:ai) (aP:ai) (v2:(List ai)) (l8:List Int) (n9:Int):Option (((List Int)×Int)⊕((List Int)×aq)):=
 if n9 < (v2.length:Int) then
  (idx v2 n9).bind fun v11=>
  (vu aa.at_ v11 []).bind fun v12=>
  mP aa ak n9 v12 l8 (0:Int)
 else
  Option.map .inr (some (l8,(⟨aa.aW,aa.aT,aa.bU,aa.at_,jl aa.cr (⟨ak,aP⟩:aN) l8,aa.dw⟩:aq)))
def se (aa:aq) (ak:ai) (aP:ai) (v2:(List ai)) (l8:List Int) (n9:Int):Option ((List Int)×aq):=
 iter (fun x:(List Int)×Int=>cZ aa ak aP v2 x.1 x.2) (l8,n9)
def hC (aa:aq) (ak:ai) (aP:ai):Option ((List Int)×aq):=
 (AG aa.cr (⟨ak,aP⟩:aN) []).bind fun v1=>
 if v1.2=true then
  some (v1.1,aa)
 else
  (gn aa aP).bind fun v2=>
  se aa ak aP v2 [] (0:Int)
def td (aa:ai):bA:=
 (⟨true,(⟨(3:Int),false,(0:Int),aa⟩:bg),(⟨(0:Int),(0:Int),(0:Int)⟩:Version)⟩:bA)
def jC (aa:aL) (v3:ai×Bool) (n5:Int):Option (Int⊕bA):=
 if n5 < (aa.Device.kY.length:Int) then
  (idx aa.Device.kY n5).bind fun v6=>
  if v6.Name=v3.1 then
   Option.map .inr (some (td v6.Value))
  else
   some (.inl (cd (n5+(1:Int))))
 else
  Option.map .inr (some (⟨false,(⟨(0:Int),false,(0:Int),[]⟩:bg),(⟨(0:Int),(0:Int),(0:Int)⟩:Version)⟩:bA))
def xV (aa:aL) (v3:ai×Bool) (n5:Int):Option bA:=
 iter (fun x:Int=>jC aa v3 x) n5
def jD (aa:aL) (ak:ai) (n9:Int):Option (Int⊕bA):=
 if n9 < (aa.eG.length:Int) then
  (idx aa.eG n9).bind fun v10=>
  (KF ([112,114,111,112,46]:ai) v10.Name).bind fun Xv=>
  if Xv=ak then
   Option.map .inr (some (⟨true,v10.Value,(⟨(0:Int),(0:Int),(0:Int)⟩:Version)⟩:bA))
  else
   some (.inl (cd (n9+(1:Int))))
 else
  Option.map .inr (some (⟨false,(⟨(0:Int),false,(0:Int),[]⟩:bg),(⟨(0:Int),(0:Int),(0:Int)⟩:Version)⟩:bA))
def xW (aa:aL) (ak:ai) (n9:Int):Option bA:=
 iter (fun x:Int=>jD aa ak x) n9
def re (aa:aL) (ak:ai):Option bA:=
 if ak=([107,101,121]:ai) then
  some (td aa.Device.Key)
 else
  if ak=([109,111,100,101,108]:ai) then
   some (td aa.Device.Model)
  else
   if ak=([116,101,110,97,110,116]:ai) then
    some (td aa.Device.au)
   else
    if ak=([102,105,114,109,119,97,114,101]:ai) then
     some (⟨true,(⟨(0:Int),false,(0:Int),[]⟩:bg),aa.Device.ff⟩:bA)
    else
     (strings_CutPrefix ak ([116,97,103,46]:ai)).bind fun v3=>
     if v3.2=true then
      xV aa v3 (0:Int)
     else
      xW aa ak (0:Int)
def nw (aa:ai) (ak:aL):Option bA:=
 (re ak aa).bind fun v2=>
 some v2
def cmp_isNaN_int (aa:Int):Bool:=
 decide (aa≠aa)
def cmp_Compare_int (aa:Int) (ak:Int):Int:=
 if (cmp_isNaN_int aa)=true then
  if (cmp_isNaN_int ak)=true then
   (0:Int)
  else
   (-1:Int)
 else
  if (cmp_isNaN_int ak)=true then
   (1:Int)
  else
   if aa < ak then
    (-1:Int)
   else
    if ak < aa then
     (1:Int)
    else
     (0:Int)
def iV (aa:Version) (ak:Version):Option Int:=
 (gh [(cmp_Compare_int aa.bP ak.bP),(cmp_Compare_int aa.bQ ak.bQ),(cmp_Compare_int aa.bL ak.bL)]).bind fun v3=>
 some v3
def jU (aa:Query) (n4:Int):Option Bool:=
 if aa.Op=([61,61]:ai) then
  some (decide (n4=(0:Int)))
 else
  if aa.Op=([33,61]:ai) then
   some (decide (n4≠(0:Int)))
  else
   if aa.Op=([60]:ai) then
    some (decide (n4 < (0:Int)))
   else
    if aa.Op=([60,61]:ai) then
     some (decide (n4≤(0:Int)))
    else
     if aa.Op=([62]:ai) then
      some (decide ((0:Int) < n4))
     else
      some (decide ((0:Int)≤n4))
def jV (aa:Query) (n6:Int):Option Bool:=
 jU aa n6
def mh (aa:Query) (n7:Int):Option Bool:=
 jV aa n7
def iE (aa:Query) (ak:bA) (c3:Bool):Option Bool:=
 if c3=true then
  some false
 else
  if aa.Field=([102,105,114,109,119,97,114,101]:ai) then
   (iV ak.Version aa.Version).bind fun v5=>
   jU aa v5
  else
   if ak.Value.Kind=(2:Int) then
    jV aa (cmp_Compare_int ak.Value.Number aa.Value.Number)
   else
    if ak.Value≠aa.Value then
     mh aa (1:Int)
    else
     mh aa (0:Int)
def qk (aa:Query) (ak:bA):Option Bool:=
 iE aa ak ((!ak.Is)||(decide (ak.Value.Kind≠aa.Value.Kind)))
def fX (self:Query→(ai→Option bA)→Option Bool) (aa:Query) (iB:ai→Option bA) (n8:Int):Option (Int⊕Bool):=
 if n8 < (aa.Kids.length:Int) then
  (idx aa.Kids n8).bind fun v9=>
  (self v9 iB).bind fun v11=>
  if (v11 !=(decide (aa.Kind=(4:Int))))=true then
   Option.map .inr (some (decide (¬ (aa.Kind=(4:Int)))))
  else
   some (.inl (cd (n8+(1:Int))))
 else
  Option.map .inr (some (decide (aa.Kind=(4:Int))))
def uI (self:Query→(ai→Option bA)→Option Bool) (aa:Query) (iB:ai→Option bA) (n8:Int):Option Bool:=
 iter (fun x:Int=>fX self aa iB x) n8
def er (self:Query→(ai→Option bA)→Option Bool) (aa:Query) (iB:ai→Option bA):Option Bool:=
 if aa.Kind=(1:Int) then
  (iB aa.Field).bind fun v2=>
  (qk aa v2).bind fun v3=>
  some v3
 else
  if aa.Kind=(2:Int) then
   (iB aa.Field).bind fun v4=>
   some v4.Is
  else
   if aa.Kind=(3:Int) then
    (idx aa.Kids (0:Int)).bind fun v5=>
    (self v5 iB).bind fun v6=>
    some (!v6)
   else
    uI self aa iB (0:Int)
def dS:Nat→Query→(ai→Option bA)→Option Bool
 | 0=>fun _ _=>none
 | k+1=>er (dS k)
def B6 (aa:Query) (iB:ai→Option bA):Option Bool:=
 dS depth aa iB
def eO (aa:Query) (ak:aL):Option Bool:=
 (B6 aa (fun y0=>nw y0 ak)).bind fun v3=>
 some v3
def eh (n37:Int) (GA:List au) (l39:List bH) (GD:List aQ) (l41:List bl) (Ps:List (ai×ai)) (IU:List (ai×(List ai))) (US:List (ai×(List Int))) (UT:List (aN×(List Int))) (K6:List Reason):Option (((List au)×(List bH)×(List aQ)×(List bl)×(List (ai×ai))×(List (ai×(List ai)))×(List (ai×(List Int)))×(List (aN×(List Int)))×(List Reason)×Int)⊕((List Reason)×aq)):=
 some (.inl (GA,l39,GD,l41,Ps,IU,US,UT,K6,cd (n37+(1:Int))))
def db (n37:Int) (CM:bl) (v54:(List Int)×aq) (Pl:List Reason) (n60:Int):Option (((List Reason)×Int)⊕(((List au)×(List bH)×(List aQ)×(List bl)×(List (ai×ai))×(List (ai×(List ai)))×(List (ai×(List Int)))×(List (aN×(List Int)))×(List Reason)×Int)⊕((List Reason)×aq))):=
 if n60 < (v54.1.length:Int) then
  (idx v54.1 n60).bind fun AI=>
  (app Pl [(⟨AI,CM.Key⟩:Reason)]).bind fun FC=>
  some (.inl (FC,cd (n60+(1:Int))))
 else
  Option.map .inr (eh n37 v54.2.aW.ao v54.2.aW.bd v54.2.aW.aG v54.2.aW.aK v54.2.aT v54.2.bU v54.2.at_ v54.2.cr Pl)
def mQ (n37:Int) (CM:bl) (v54:(List Int)×aq) (Pl:List Reason) (n60:Int):Option (((List au)×(List bH)×(List aQ)×(List bl)×(List (ai×ai))×(List (ai×(List ai)))×(List (ai×(List Int)))×(List (aN×(List Int)))×(List Reason)×Int)⊕((List Reason)×aq)):=
 iter (fun x:(List Reason)×Int=>db n37 CM v54 x.1 x.2) (Pl,n60)
def cK (aa:aq) (ak:ai) (Ba:List au) (FA:List bH) (CK:List aQ) (L6:List bl) (B4:List (ai×ai)) (AH:List (ai×(List ai))) (FE:List (ai×(List Int))) (FD:List (aN×(List Int))) (D7:List Reason) (n37:Int) (CM:bl) (c50:Bool):Option (((List au)×(List bH)×(List aQ)×(List bl)×(List (ai×ai))×(List (ai×(List ai)))×(List (ai×(List Int)))×(List (aN×(List Int)))×(List Reason)×Int)⊕((List Reason)×aq)):=
 if c50=true then
  eh n37 Ba FA CK L6 B4 AH FE FD D7
 else
  (hC (⟨(⟨Ba,FA,CK,L6⟩:aW),B4,AH,FE,FD,aa.dw⟩:aq) ak CM.To).bind fun v54=>
  mQ n37 CM v54 D7 (0:Int)
def gI (aa:aq) (ak:ai) (aP:aL) (aX:Int) (v3:(List Int)×aq) (rl:(List ai)) (Ba:List au) (FA:List bH) (CK:List aQ) (L6:List bl) (B4:List (ai×ai)) (AH:List (ai×(List ai))) (FE:List (ai×(List Int))) (FD:List (aN×(List Int))) (D7:List Reason) (n37:Int):Option (((List au)×(List bH)×(List aQ)×(List bl)×(List (ai×ai))×(List (ai×(List ai)))×(List (ai×(List Int)))×(List (aN×(List Int)))×(List Reason)×Int)⊕((List Reason)×aq)):=
 if n37 < (v3.2.aW.aK.length:Int) then
  (idx v3.2.aW.aK n37).bind fun CM=>
  if aX < CM.Time.ef then
   cK aa ak Ba FA CK L6 B4 AH FE FD D7 n37 CM true
  else
   if CM.Time.To≤aX then
    cK aa ak Ba FA CK L6 B4 AH FE FD D7 n37 CM true
   else
    (bc rl CM.ef).bind fun v51=>
    if (!v51)=true then
     cK aa ak Ba FA CK L6 B4 AH FE FD D7 n37 CM true
    else
     (kC CM.lI ak).bind fun v52=>
     if (!v52)=true then
      cK aa ak Ba FA CK L6 B4 AH FE FD D7 n37 CM true
     else
      (eO CM.Query aP).bind fun v53=>
      cK aa ak Ba FA CK L6 B4 AH FE FD D7 n37 CM (!v53)
 else
  Option.map .inr (some (D7,(⟨(⟨Ba,FA,CK,L6⟩:aW),B4,AH,FE,FD,aa.dw⟩:aq)))
def sf (aa:aq) (ak:ai) (aP:aL) (aX:Int) (v3:(List Int)×aq) (rl:(List ai)) (Ba:List au) (FA:List bH) (CK:List aQ) (L6:List bl) (B4:List (ai×ai)) (AH:List (ai×(List ai))) (FE:List (ai×(List Int))) (FD:List (aN×(List Int))) (D7:List Reason) (n37:Int):Option ((List Reason)×aq):=
 iter (fun x:(List au)×(List bH)×(List aQ)×(List bl)×(List (ai×ai))×(List (ai×(List ai)))×(List (ai×(List Int)))×(List (aN×(List Int)))×(List Reason)×Int=>gI aa ak aP aX v3 rl x.1 x.2.1 x.2.2.1 x.2.2.2.1 x.2.2.2.2.1 x.2.2.2.2.2.1 x.2.2.2.2.2.2.1 x.2.2.2.2.2.2.2.1 x.2.2.2.2.2.2.2.2.1 x.2.2.2.2.2.2.2.2.2) (Ba,FA,CK,L6,B4,AH,FE,FD,D7,n37)
def gJ (aa:aq) (ak:ai) (aP:aL) (aX:Int) (v3:(List Int)×aq) (l8:List Reason):Option ((List Reason)×aq):=
 (gn (⟨v3.2.aW,v3.2.aT,v3.2.bU,v3.2.at_,v3.2.cr,aa.dw⟩:aq) aP.Device.au).bind fun rl=>
 sf aa ak aP aX v3 rl v3.2.aW.ao v3.2.aW.bd v3.2.aW.aG v3.2.aW.aK v3.2.aT v3.2.bU v3.2.at_ v3.2.cr l8 (0:Int)
def dc (aa:aq) (ak:ai) (aP:aL) (aX:Int) (v3:(List Int)×aq) (l8:List Reason) (n9:Int):Option (((List Reason)×Int)⊕((List Reason)×aq)):=
 if n9 < (v3.1.length:Int) then
  (idx v3.1 n9).bind fun v11=>
  (app l8 [(⟨v11,[]⟩:Reason)]).bind fun yG=>
  some (.inl (yG,cd (n9+(1:Int))))
 else
  Option.map .inr (gJ aa ak aP aX v3 l8)
def sg (aa:aq) (ak:ai) (aP:aL) (aX:Int) (v3:(List Int)×aq) (l8:List Reason) (n9:Int):Option ((List Reason)×aq):=
 iter (fun x:(List Reason)×Int=>dc aa ak aP aX v3 x.1 x.2) (l8,n9)
def jw (aa:aq) (ak:ai) (aP:aL) (aX:Int):Option ((List Reason)×aq):=
 if aP.Device.au=([]:ai) then
  some ([],aa)
 else
  (hC aa ak aP.Device.au).bind fun v3=>
  sg aa ak aP aX v3 [] (0:Int)
def fx (aa:List ai):Option (List ai):=
 NP Kx aa
def eW (n11:Int) (B5:List ai) (n15:Int):Option (((List ai)×Int×Int)⊕(Int⊕(List ai))):=
 some (.inl (B5,n15,cd (n11+(1:Int))))
def lT (l9:List ai) (n10:Int):Option (Int⊕(List ai)):=
 (BN l9 n10 (l9.length:Int)).bind fun BA=>
 (BN (Ri l9 n10 BA.length []) (0:Int) n10).bind fun CN=>
 Option.map .inr (some CN)
def eZ (n2:Int) (l5:List ai) (l9:List ai) (n10:Int) (n11:Int):Option (((List ai)×Int×Int)⊕(Int⊕(List ai))):=
 if n11 < (l5.length:Int) then
  (Aj l9 n2 l5.length n11).bind fun v12=>
  (Aj l9 n2 l5.length (cd (n11 - (1:Int)))).bind fun ma=>
  if v12≠ma then
   (Aj l9 n2 l5.length n11).bind fun pf=>
   (idx l9 n10).bind fun v17=>
   eW n11 (l9.set n10.toNat pf) (cd (n10+(1:Int)))
  else
   eW n11 l9 n10
 else
  Option.map .inr (lT l9 n10)
def sN (n2:Int) (l5:List ai) (l9:List ai) (n10:Int) (n11:Int):Option (Int⊕(List ai)):=
 iter (fun x:(List ai)×Int×Int=>eZ n2 l5 x.1 x.2.1 x.2.2) (l9,n10,n11)
def fc (aa:List ai) (n2:Int):Option (Int⊕(List ai)):=
 if n2 < (aa.length:Int) then
  (idx aa n2).bind fun v3=>
  (idx aa (cd (n2 - (1:Int)))).bind fun v4=>
  if v3=v4 then
   (BN aa n2 (aa.length:Int)).bind fun l5=>
   sN n2 l5 aa n2 (1:Int)
  else
   some (.inl (cd (n2+(1:Int))))
 else
  Option.map .inr (some aa)
def sO (aa:List ai) (n2:Int):Option (List ai):=
 iter (fun x:Int=>fc aa x) n2
def et (aa:List ai):Option (List ai):=
 if (aa.length:Int) < (2:Int) then
  some aa
 else
  sO aa (1:Int)
def lg (aa:aq) (v2:(List Reason)×aq) (l8:List ai):Option ((List ai)×aq):=
 (pX l8.length (fun r:(List ai)=>r.length) (fx l8)).bind fun pf=>
 (et pf).bind fun v17=>
 some (v17,(⟨v2.2.aW,v2.2.aT,v2.2.bU,v2.2.at_,v2.2.cr,aa.dw⟩:aq))
def dG (aa:aq) (v2:(List Reason)×aq) (l8:List ai) (n9:Int):Option (((List ai)×Int)⊕((List ai)×aq)):=
 if n9 < (v2.1.length:Int) then
  (idx v2.1 n9).bind fun v11=>
  (idx v2.2.aW.aG v11.aQ).bind fun ma=>
  (app l8 [ma.ek]).bind fun B5=>
  some (.inl (B5,cd (n9+(1:Int))))
 else
  Option.map .inr (lg aa v2 l8)
def uv (aa:aq) (v2:(List Reason)×aq) (l8:List ai) (n9:Int):Option ((List ai)×aq):=
 iter (fun x:(List ai)×Int=>dG aa v2 x.1 x.2) (l8,n9)
def gK (aa:aq) (ak:ai) (aP:aL) (aX:Int):Option ((List ai)×aq):=
 (jw aa ak aP aX).bind fun v2=>
 uv aa v2 [] (0:Int)
def dq (aa:aB) (ak:aB):Option Int:=
 (gh [(Lib.compareBytes aa.ek ak.ek),(Lib.compareBytes aa.Act ak.Act),(Lib.compareBytes aa.Device ak.Device)]).bind fun v3=>
 some v3
def bM (aa:List aB) (iB:aB→aB→Option Int):Option (List aB):=
 Ku iB aa
def cmp_isNaN_string (aa:ai):Bool:=
 decide (aa≠aa)
def mR (c1:Bool):Bool:=
 c1
def cmp_Less_string (aa:ai) (ak:ai):Bool:=
 mR (if (cmp_isNaN_string aa)=true then (!(cmp_isNaN_string ak))||(Op.bytesLess aa ak) else Op.bytesLess aa ak)
def fy (aa:ai):Bool:=
 decide (aa≠aa)
def cV (n6:Int) (n7:Int):Option ((Int×Int)⊕(Int×Bool)):=
 some (.inl (n6,n7))
def cw (n3:Int) (c8:Bool):Option (Int×Bool):=
 some (n3,c8)
def fA (aa:List ai) (ak:ai) (n3:Int):Option (Int×Bool):=
 if n3 < (aa.length:Int) then
  (idx aa n3).bind fun v9=>
  if v9=ak then
   cw n3 true
  else
   (idx aa n3).bind fun v10=>
   cw n3 ((fy v10)&&(fy ak))
 else
  cw n3 false
def cW (aa:List ai) (ak:ai) (n3:Int) (n4:Int):Option ((Int×Int)⊕(Int×Bool)):=
 if n3 < n4 then
  (idx aa (cd (GS .u64 (IntKind.u64.wrap (cd (n3+n4))) (1:Int)))).bind fun v5=>
  if (cmp_Less_string v5 ak)=true then
   cV (cd ((cd (GS .u64 (IntKind.u64.wrap (cd (n3+n4))) (1:Int)))+(1:Int))) n4
  else
   cV n3 (cd (GS .u64 (IntKind.u64.wrap (cd (n3+n4))) (1:Int)))
 else
  Option.map .inr (fA aa ak n3)
def jx (aa:List ai) (ak:ai) (n3:Int) (n4:Int):Option (Int×Bool):=
 iter (fun x:Int×Int=>cW aa ak x.1 x.2) (n3,n4)
def cL (aa:List ai) (ak:ai):Option (Int×Bool):=
 jx aa ak (0:Int) (aa.length:Int)
def iW (n6:Int) (l10:List aB):Option (((List aB)×Int)⊕(List aB)):=
 some (.inl (l10,cd (n6+(1:Int))))
def dH (ak:List ai) (aP:List ai) (aX:ai) (bK:ai) (l5:List aB) (n6:Int):Option (((List aB)×Int)⊕(List aB)):=
 if n6 < (ak.length:Int) then
  (idx ak n6).bind fun v7=>
  (cL aP v7).bind fun v8=>
  if (!v8.2)=true then
   (app l5 [(⟨v7,aX,bK⟩:aB)]).bind fun zd=>
   iW n6 zd
  else
   iW n6 l5
 else
  Option.map .inr (some l5)
def uw (ak:List ai) (aP:List ai) (aX:ai) (bK:ai) (l5:List aB) (n6:Int):Option (List aB):=
 iter (fun x:(List aB)×Int=>dH ak aP aX bK x.1 x.2) (l5,n6)
def jg (aa:List aB) (ak:List ai) (aP:List ai) (aX:ai) (bK:ai):Option (List aB):=
 uw ak aP aX bK aa (0:Int)
def pj (n14:Int) (RI:Bool):Option (Int⊕((List aB)×(List aB)×Int)):=
 if RI=true then
  Option.map .inr (some ([],[],(7:Int)))
 else
  some (.inl (cd (n14+(1:Int))))
def pk (aX:List aL) (n29:Int):Option (Unit⊕(Int⊕((List aB)×(List aB)×Int))):=
 if (0:Int) < (aX.length:Int) then
  (idx aX (0:Int)).bind fun v31=>
  none
 else
  Option.map .inr (some (.inl (cd (n29+(1:Int)))))
def CX (aX:List aL) (n29:Int):Option (Int⊕((List aB)×(List aB)×Int)):=
 iter (fun x:Unit=>pk aX n29) ()
def xl:Option ((List aB)×(List aB)×Int):=
 (pX ([]:List aB).length (fun r:(List aB)=>r.length) (bM [] (fun y0 y1=>dq y0 y1))).bind fun Zn=>
 (pX ([]:List aB).length (fun r:(List aB)=>r.length) (bM [] (fun y0 y1=>dq y0 y1))).bind fun v36=>
 some ([],[],(0:Int))
def pn (aP:List ai) (aX:List aL) (n29:Int):Option (Int⊕((List aB)×(List aB)×Int)):=
 if n29 < (aP.length:Int) then
  (idx aP n29).bind fun v30=>
  CX aX n29
 else
  Option.map .inr (xl)
def CY (aP:List ai) (aX:List aL) (n29:Int):Option ((List aB)×(List aB)×Int):=
 iter (fun x:Int=>pn aP aX x) n29
def xm (aP:List ai) (aX:List aL) (bK:Int):Option ((List aB)×(List aB)×Int):=
 (ep aX).bind fun v23=>
 if v23≠(0:Int) then
  some ([],[],v23)
 else
  if (!(iU bK))=true then
   some ([],[],(1:Int))
  else
   CY aP aX (0:Int)
def pq (aP:List ai) (aX:List aL) (bK:Int) (n14:Int):Option (Int⊕((List aB)×(List aB)×Int)):=
 if n14 < (aP.length:Int) then
  (idx aP n14).bind fun B3=>
  (gD B3).bind fun pf=>
  if (!pf)=true then
   Option.map .inr (some ([],[],(5:Int)))
  else
   if (0:Int) < n14 then
    (idx aP (cd (n14 - (1:Int)))).bind fun v20=>
    pj n14 (Op.bytesLess B3 v20||B3==v20)
   else
    pj n14 false
 else
  Option.map .inr (xm aP aX bK)
def CZ (aP:List ai) (aX:List aL) (bK:Int) (n14:Int):Option ((List aB)×(List aB)×Int):=
 iter (fun x:Int=>pq aP aX bK x) n14
def ps (n50:Int) (c55:Bool):Option (Int⊕((List aB)×(List aB)×Int)):=
 if c55=true then
  Option.map .inr (some ([],[],(7:Int)))
 else
  some (.inl (cd (n50+(1:Int))))
def pt (aX:List aL) (N6:Int):Option (Unit⊕(Int⊕((List aB)×(List aB)×Int))):=
 if (0:Int) < (aX.length:Int) then
  (idx aX (0:Int)).bind fun v67=>
  none
 else
  Option.map .inr (some (.inl (cd (N6+(1:Int)))))
def C0 (aX:List aL) (N6:Int):Option (Int⊕((List aB)×(List aB)×Int)):=
 iter (fun x:Unit=>pt aX N6) ()
def xn:Option ((List aB)×(List aB)×Int):=
 (pX ([]:List aB).length (fun r:(List aB)=>r.length) (bM [] (fun y0 y1=>dq y0 y1))).bind fun v70=>
 (pX ([]:List aB).length (fun r:(List aB)=>r.length) (bM [] (fun y0 y1=>dq y0 y1))).bind fun v72=>
 some ([],[],(0:Int))
def pv (aP:List ai) (aX:List aL) (N6:Int):Option (Int⊕((List aB)×(List aB)×Int)):=
 if N6 < (aP.length:Int) then
  (idx aP N6).bind fun v66=>
  C0 aX N6
 else
  Option.map .inr (xn)
def C1 (aP:List ai) (aX:List aL) (N6:Int):Option ((List aB)×(List aB)×Int):=
 iter (fun x:Int=>pv aP aX x) N6
def xo (aP:List ai) (aX:List aL) (bK:Int):Option ((List aB)×(List aB)×Int):=
 (ep aX).bind fun v59=>
 if v59≠(0:Int) then
  some ([],[],v59)
 else
  if (!(iU bK))=true then
   some ([],[],(1:Int))
  else
   C1 aP aX (0:Int)
def pw (aP:List ai) (aX:List aL) (bK:Int) (n50:Int):Option (Int⊕((List aB)×(List aB)×Int)):=
 if n50 < (aP.length:Int) then
  (idx aP n50).bind fun v51=>
  (gD v51).bind fun v52=>
  if (!v52)=true then
   Option.map .inr (some ([],[],(5:Int)))
  else
   if (0:Int) < n50 then
    (idx aP (cd (n50 - (1:Int)))).bind fun IV=>
    ps n50 (Op.bytesLess v51 IV||v51==IV)
   else
    ps n50 false
 else
  Option.map .inr (xo aP aX bK)
def C2 (aP:List ai) (aX:List aL) (bK:Int) (n50:Int):Option ((List aB)×(List aB)×Int):=
 iter (fun x:Int=>pw aP aX bK x) n50
def pz (N7:Int) (c95:Bool):Option (Int⊕((List aB)×(List aB)×Int)):=
 if c95=true then
  Option.map .inr (some ([],[],(7:Int)))
 else
  some (.inl (cd (N7+(1:Int))))
def pA (aX:List aL) (bK:Int) (x4:aq) (n105:Int) (IW:ai):Option (Unit⊕(Int⊕((List aB)×(List aB)×Int))):=
 if (0:Int) < (aX.length:Int) then
  (idx aX (0:Int)).bind fun v107=>
  (gK x4 IW v107 bK).bind fun v109=>
  none
 else
  Option.map .inr (some (.inl (cd (n105+(1:Int)))))
def C3 (aX:List aL) (bK:Int) (x4:aq) (n105:Int) (IW:ai):Option (Int⊕((List aB)×(List aB)×Int)):=
 iter (fun x:Unit=>pA aX bK x4 n105 IW) ()
def xp:Option ((List aB)×(List aB)×Int):=
 (pX ([]:List aB).length (fun r:(List aB)=>r.length) (bM [] (fun y0 y1=>dq y0 y1))).bind fun aaK=>
 (pX ([]:List aB).length (fun r:(List aB)=>r.length) (bM [] (fun y0 y1=>dq y0 y1))).bind fun aaL=>
 some ([],[],(0:Int))
def pB (aP:List ai) (aX:List aL) (bK:Int) (x4:aq) (n105:Int):Option (Int⊕((List aB)×(List aB)×Int)):=
 if n105 < (aP.length:Int) then
  (idx aP n105).bind fun IW=>
  C3 aX bK x4 n105 IW
 else
  Option.map .inr (xp)
def C4 (aP:List ai) (aX:List aL) (bK:Int) (x4:aq) (n105:Int):Option ((List aB)×(List aB)×Int):=
 iter (fun x:Int=>pB aP aX bK x4 x) n105
def xq (aP:List ai) (aX:List aL) (bK:Int) (x4:aq):Option ((List aB)×(List aB)×Int):=
 (ep aX).bind fun v99=>
 if v99≠(0:Int) then
  some ([],[],v99)
 else
  if (!(iU bK))=true then
   some ([],[],(1:Int))
  else
   C4 aP aX bK x4 (0:Int)
def pC (aP:List ai) (aX:List aL) (bK:Int) (x4:aq) (N7:Int):Option (Int⊕((List aB)×(List aB)×Int)):=
 if N7 < (aP.length:Int) then
  (idx aP N7).bind fun v91=>
  (gD v91).bind fun D6=>
  if (!D6)=true then
   Option.map .inr (some ([],[],(5:Int)))
  else
   if (0:Int) < N7 then
    (idx aP (cd (N7 - (1:Int)))).bind fun v96=>
    pz N7 (Op.bytesLess v91 v96||v91==v96)
   else
    pz N7 false
 else
  Option.map .inr (xq aP aX bK x4)
def C5 (aP:List ai) (aX:List aL) (bK:Int) (x4:aq) (N7:Int):Option ((List aB)×(List aB)×Int):=
 iter (fun x:Int=>pC aP aX bK x4 x) N7
def dX (n128:Int) (RJ:Bool):Option (Int⊕((List aB)×(List aB)×Int)):=
 if RJ=true then
  Option.map .inr (some ([],[],(7:Int)))
 else
  some (.inl (cd (n128+(1:Int))))
def oy (n228:Int) (jy:(List ai)×aq) (v233:(List ai)×aq) (K8:(List aB)) (IX:(List aB)) (RL:Bool):Option (((List au)×(List bH)×(List aQ)×(List bl)×(List (ai×ai))×(List (ai×(List ai)))×(List (ai×(List Int)))×(List (aN×(List Int)))×(List au)×(List bH)×(List aQ)×(List bl)×(List (ai×ai))×(List (ai×(List ai)))×(List (ai×(List Int)))×(List (aN×(List Int)))×(List aB)×(List aB)×Int)⊕(((List au)×(List bH)×(List aQ)×(List bl)×(List (ai×ai))×(List (ai×(List ai)))×(List (ai×(List Int)))×(List (aN×(List Int)))×(List au)×(List bH)×(List aQ)×(List bl)×(List (ai×ai))×(List (ai×(List ai)))×(List (ai×(List Int)))×(List (aN×(List Int)))×(List aB)×(List aB)×Int)⊕((List aB)×(List aB)×Int))):=
 if RL=true then
  Option.map .inr (Option.map .inr (some ([],[],(2:Int))))
 else
  some (.inl (jy.2.aW.ao,jy.2.aW.bd,jy.2.aW.aG,jy.2.aW.aK,jy.2.aT,jy.2.bU,jy.2.at_,jy.2.cr,v233.2.aW.ao,v233.2.aW.bd,v233.2.aW.aG,v233.2.aW.aK,v233.2.aT,v233.2.bU,v233.2.at_,v233.2.cr,K8,IX,cd (n228+(1:Int))))
def lh (aX:List aL) (bK:Int) (x4:aq) (vZ:aq) (n183:Int) (C6:ai) (IY:List au) (IZ:List bH) (I0:List aQ) (I1:List bl) (I2:List (ai×ai)) (I3:List (ai×(List ai))) (I4:List (ai×(List Int))) (I5:List (aN×(List Int))) (MJ:List au) (MK:List bH) (ML:List aQ) (MM:List bl) (MN:List (ai×ai)) (MO:List (ai×(List ai))) (MP:List (ai×(List Int))) (MQ:List (aN×(List Int))) (MR:List aB) (MS:List aB) (n228:Int):Option (((List au)×(List bH)×(List aQ)×(List bl)×(List (ai×ai))×(List (ai×(List ai)))×(List (ai×(List Int)))×(List (aN×(List Int)))×(List au)×(List bH)×(List aQ)×(List bl)×(List (ai×ai))×(List (ai×(List ai)))×(List (ai×(List Int)))×(List (aN×(List Int)))×(List aB)×(List aB)×Int)⊕(((List au)×(List bH)×(List aQ)×(List bl)×(List (ai×ai))×(List (ai×(List ai)))×(List (ai×(List Int)))×(List (aN×(List Int)))×(List au)×(List bH)×(List aQ)×(List bl)×(List (ai×ai))×(List (ai×(List ai)))×(List (ai×(List Int)))×(List (aN×(List Int)))×(List aB)×(List aB)×Int)⊕((List aB)×(List aB)×Int))):=
 if n228 < (aX.length:Int) then
  (idx aX n228).bind fun v229=>
  (gK (⟨(⟨IY,IZ,I0,I1⟩:aW),I2,I3,I4,I5,x4.dw⟩:aq) C6 v229 bK).bind fun jy=>
  (gK (⟨(⟨MJ,MK,ML,MM⟩:aW),MN,MO,MP,MQ,vZ.dw⟩:aq) C6 v229 bK).bind fun v233=>
  (jg MR v233.1 jy.1 C6 v229.Device.Key).bind fun K8=>
  (jg MS jy.1 v233.1 C6 v229.Device.Key).bind fun IX=>
  oy n228 jy v233 K8 IX ((decide ((5000:Int) < (K8.length:Int)))||(decide ((5000:Int) < (IX.length:Int))))
 else
  Option.map .inr (some (.inl (IY,IZ,I0,I1,I2,I3,I4,I5,MJ,MK,ML,MM,MN,MO,MP,MQ,MR,MS,cd (n183+(1:Int)))))
def oz (aX:List aL) (bK:Int) (x4:aq) (vZ:aq) (n183:Int) (C6:ai) (IY:List au) (IZ:List bH) (I0:List aQ) (I1:List bl) (I2:List (ai×ai)) (I3:List (ai×(List ai))) (I4:List (ai×(List Int))) (I5:List (aN×(List Int))) (MJ:List au) (MK:List bH) (ML:List aQ) (MM:List bl) (MN:List (ai×ai)) (MO:List (ai×(List ai))) (MP:List (ai×(List Int))) (MQ:List (aN×(List Int))) (MR:List aB) (MS:List aB) (n228:Int):Option (((List au)×(List bH)×(List aQ)×(List bl)×(List (ai×ai))×(List (ai×(List ai)))×(List (ai×(List Int)))×(List (aN×(List Int)))×(List au)×(List bH)×(List aQ)×(List bl)×(List (ai×ai))×(List (ai×(List ai)))×(List (ai×(List Int)))×(List (aN×(List Int)))×(List aB)×(List aB)×Int)⊕((List aB)×(List aB)×Int)):=
 iter (fun x:(List au)×(List bH)×(List aQ)×(List bl)×(List (ai×ai))×(List (ai×(List ai)))×(List (ai×(List Int)))×(List (aN×(List Int)))×(List au)×(List bH)×(List aQ)×(List bl)×(List (ai×ai))×(List (ai×(List ai)))×(List (ai×(List Int)))×(List (aN×(List Int)))×(List aB)×(List aB)×Int=>lh aX bK x4 vZ n183 C6 x.1 x.2.1 x.2.2.1 x.2.2.2.1 x.2.2.2.2.1 x.2.2.2.2.2.1 x.2.2.2.2.2.2.1 x.2.2.2.2.2.2.2.1 x.2.2.2.2.2.2.2.2.1 x.2.2.2.2.2.2.2.2.2.1 x.2.2.2.2.2.2.2.2.2.2.1 x.2.2.2.2.2.2.2.2.2.2.2.1 x.2.2.2.2.2.2.2.2.2.2.2.2.1 x.2.2.2.2.2.2.2.2.2.2.2.2.2.1 x.2.2.2.2.2.2.2.2.2.2.2.2.2.2.1 x.2.2.2.2.2.2.2.2.2.2.2.2.2.2.2.1 x.2.2.2.2.2.2.2.2.2.2.2.2.2.2.2.2.1 x.2.2.2.2.2.2.2.2.2.2.2.2.2.2.2.2.2.1 x.2.2.2.2.2.2.2.2.2.2.2.2.2.2.2.2.2.2) (IY,IZ,I0,I1,I2,I3,I4,I5,MJ,MK,ML,MM,MN,MO,MP,MQ,MR,MS,n228)
def lj (I6:List aB) (I7:List aB):Option ((List aB)×(List aB)×Int):=
 (pX I6.length (fun r:(List aB)=>r.length) (bM I6 (fun y0 y1=>dq y0 y1))).bind fun UW=>
 (pX I7.length (fun r:(List aB)=>r.length) (bM I7 (fun y0 y1=>dq y0 y1))).bind fun UX=>
 some (UW,UX,(0:Int))
def ll (aP:List ai) (aX:List aL) (bK:Int) (x4:aq) (vZ:aq) (RM:List au) (RN:List bH) (RO:List aQ) (RP:List bl) (RQ:List (ai×ai)) (RR:List (ai×(List ai))) (RS:List (ai×(List Int))) (RT:List (aN×(List Int))) (RU:List au) (RW:List bH) (RX:List aQ) (RY:List bl) (RZ:List (ai×ai)) (R0:List (ai×(List ai))) (R1:List (ai×(List Int))) (R2:List (aN×(List Int))) (I6:List aB) (I7:List aB) (n183:Int):Option (((List au)×(List bH)×(List aQ)×(List bl)×(List (ai×ai))×(List (ai×(List ai)))×(List (ai×(List Int)))×(List (aN×(List Int)))×(List au)×(List bH)×(List aQ)×(List bl)×(List (ai×ai))×(List (ai×(List ai)))×(List (ai×(List Int)))×(List (aN×(List Int)))×(List aB)×(List aB)×Int)⊕((List aB)×(List aB)×Int)):=
 if n183 < (aP.length:Int) then
  (idx aP n183).bind fun C6=>
  oz aX bK x4 vZ n183 C6 RM RN RO RP RQ RR RS RT RU RW RX RY RZ R0 R1 R2 I6 I7 (0:Int)
 else
  Option.map .inr (lj I6 I7)
def oA (aP:List ai) (aX:List aL) (bK:Int) (x4:aq) (vZ:aq) (RM:List au) (RN:List bH) (RO:List aQ) (RP:List bl) (RQ:List (ai×ai)) (RR:List (ai×(List ai))) (RS:List (ai×(List Int))) (RT:List (aN×(List Int))) (RU:List au) (RW:List bH) (RX:List aQ) (RY:List bl) (RZ:List (ai×ai)) (R0:List (ai×(List ai))) (R1:List (ai×(List Int))) (R2:List (aN×(List Int))) (I6:List aB) (I7:List aB) (n183:Int):Option ((List aB)×(List aB)×Int):=
 iter (fun x:(List au)×(List bH)×(List aQ)×(List bl)×(List (ai×ai))×(List (ai×(List ai)))×(List (ai×(List Int)))×(List (aN×(List Int)))×(List au)×(List bH)×(List aQ)×(List bl)×(List (ai×ai))×(List (ai×(List ai)))×(List (ai×(List Int)))×(List (aN×(List Int)))×(List aB)×(List aB)×Int=>ll aP aX bK x4 vZ x.1 x.2.1 x.2.2.1 x.2.2.2.1 x.2.2.2.2.1 x.2.2.2.2.2.1 x.2.2.2.2.2.2.1 x.2.2.2.2.2.2.2.1 x.2.2.2.2.2.2.2.2.1 x.2.2.2.2.2.2.2.2.2.1 x.2.2.2.2.2.2.2.2.2.2.1 x.2.2.2.2.2.2.2.2.2.2.2.1 x.2.2.2.2.2.2.2.2.2.2.2.2.1 x.2.2.2.2.2.2.2.2.2.2.2.2.2.1 x.2.2.2.2.2.2.2.2.2.2.2.2.2.2.1 x.2.2.2.2.2.2.2.2.2.2.2.2.2.2.2.1 x.2.2.2.2.2.2.2.2.2.2.2.2.2.2.2.2.1 x.2.2.2.2.2.2.2.2.2.2.2.2.2.2.2.2.2.1 x.2.2.2.2.2.2.2.2.2.2.2.2.2.2.2.2.2.2) (RM,RN,RO,RP,RQ,RR,RS,RT,RU,RW,RX,RY,RZ,R0,R1,R2,I6,I7,n183)
def fK (aP:List ai) (aX:List aL) (bK:Int) (x4:aq) (vZ:aq):Option ((List aB)×(List aB)×Int):=
 (ep aX).bind fun Xw=>
 if Xw≠(0:Int) then
  some ([],[],Xw)
 else
  if (!(iU bK))=true then
   some ([],[],(1:Int))
  else
   oA aP aX bK x4 vZ x4.aW.ao x4.aW.bd x4.aW.aG x4.aW.aK x4.aT x4.bU x4.at_ x4.cr vZ.aW.ao vZ.aW.bd vZ.aW.aG vZ.aW.aK vZ.aT vZ.bU vZ.at_ vZ.cr [] [] (0:Int)
def dI (aP:List ai) (aX:List aL) (bK:Int) (x4:aq) (vZ:aq) (n128:Int):Option (Int⊕((List aB)×(List aB)×Int)):=
 if n128 < (aP.length:Int) then
  (idx aP n128).bind fun Pv=>
  (gD Pv).bind fun v130=>
  if (!v130)=true then
   Option.map .inr (some ([],[],(5:Int)))
  else
   if (0:Int) < n128 then
    (idx aP (cd (n128 - (1:Int)))).bind fun R3=>
    dX n128 (Op.bytesLess Pv R3||Pv==R3)
   else
    dX n128 false
 else
  Option.map .inr (fK aP aX bK x4 vZ)
def sh (aP:List ai) (aX:List aL) (bK:Int) (x4:aq) (vZ:aq) (n128:Int):Option ((List aB)×(List aB)×Int):=
 iter (fun x:Int=>dI aP aX bK x4 vZ x) n128
def fT (aa:aW) (ak:aW) (aP:List ai) (aX:List aL) (bK:Int):Option ((List aB)×(List aB)×Int):=
 (dp aa).bind fun v3=>
 vw v3.1 (
  if v3.2≠(0:Int) then
   some ([],[],v3.2)
  else
   (dp ak).bind fun v7=>
   vw v7.1 (
    if v7.2≠(0:Int) then
     some ([],[],v7.2)
    else
     if (50:Int) < (aP.length:Int) then
      some ([],[],(2:Int))
     else
      CZ aP aX bK (0:Int)) (fun x8=>
    if v7.2≠(0:Int) then
     some ([],[],v7.2)
    else
     if (50:Int) < (aP.length:Int) then
      some ([],[],(2:Int))
     else
      C2 aP aX bK (0:Int))) (fun x4=>
  if v3.2≠(0:Int) then
   some ([],[],v3.2)
  else
   (dp ak).bind fun Zo=>
   vw Zo.1 (
    if Zo.2≠(0:Int) then
     some ([],[],Zo.2)
    else
     if (50:Int) < (aP.length:Int) then
      some ([],[],(2:Int))
     else
      C5 aP aX bK x4 (0:Int)) (fun vZ=>
    if Zo.2≠(0:Int) then
     some ([],[],Zo.2)
    else
     if (50:Int) < (aP.length:Int) then
      some ([],[],(2:Int))
     else
      sh aP aX bK x4 vZ (0:Int)))
def ny (aa:aW):Option Int:=
 (dp aa).bind fun v2=>
 vw v2.1 (
  some v2.2) (fun x3=>
  some v2.2)
def iX (n12:Int) (n15:Int):Option ((Int×Int)⊕((Int×Int)⊕(Int×Bool×Int))):=
 some (.inl (n15,cd (n12+(1:Int))))
def ln (n11:Int) (n12:Int) (ma:Int) (zf:Bool):Option ((Int×Int)⊕((Int×Int)⊕(Int×Bool×Int))):=
 if zf=true then
  iX n12 (min n11 ma)
 else
  iX n12 n11
def dJ (ak:Int) (n6:Int) (v7:bl) (n11:Int) (n12:Int):Option ((Int×Int)⊕((Int×Int)⊕(Int×Bool×Int))):=
 if n12 < ([v7.Time.ef,v7.Time.To].length:Int) then
  (idx [v7.Time.ef,v7.Time.To] n12).bind fun ma=>
  ln n11 n12 ma ((decide (v7.Time.ef < v7.Time.To))&&(decide (ak < ma)))
 else
  Option.map .inr (some (.inl (n11,cd (n6+(1:Int)))))
def o0 (ak:Int) (n6:Int) (v7:bl) (n11:Int) (n12:Int):Option ((Int×Int)⊕(Int×Bool×Int)):=
 iter (fun x:Int×Int=>dJ ak n6 v7 x.1 x.2) (n11,n12)
def iY (n5:Int):Option (Int×Bool×Int):=
 if n5=(345686400000:Int) then
  some ((0:Int),false,(0:Int))
 else
  some (n5,true,(0:Int))
def dK (aa:aW) (ak:Int) (n5:Int) (n6:Int):Option ((Int×Int)⊕(Int×Bool×Int)):=
 if n6 < (aa.aK.length:Int) then
  (idx aa.aK n6).bind fun v7=>
  o0 ak n6 v7 n5 (0:Int)
 else
  Option.map .inr (iY n5)
def o4 (aa:aW) (ak:Int) (n5:Int) (n6:Int):Option (Int×Bool×Int):=
 iter (fun x:Int×Int=>dK aa ak x.1 x.2) (n5,n6)
def gL (aa:aW) (ak:Int):Option (Int×Bool×Int):=
 (ny aa).bind fun v2=>
 if v2≠(0:Int) then
  some ((0:Int),false,v2)
 else
  if (!(iU ak))=true then
   some ((0:Int),false,(1:Int))
  else
   o4 aa ak (345686400000:Int) (0:Int)
def xX (c1:Bool):Bool:=
 c1
def yH (aa:Int) (ak:Int) (aP:Int):Bool:=
 xX ((decide (ak≤aa))&&(decide (aa≤aP)))
def xu (c1:Bool):Option Bool:=
 some c1
def uU (aa:ai):Option Bool:=
 if (yH (aa.length:Int) (1:Int) (40:Int))=true then
  (HV aa ([97,98,99,100,101,102,103,104,105,106,107,108,109,110,111,112,113,114,115,116,117,118,119,120,121,122,48,49,50,51,52,53,54,55,56,57,45,95]:ai)).bind fun v2=>
  if v2=([]:ai) then
   (idx aa (0:Int)).bind fun c3=>
   xu (decide ((0:Int)≤(xS ([97,98,99,100,101,102,103,104,105,106,107,108,109,110,111,112,113,114,115,116,117,118,119,120,121,122]:ai) (c3.toNat:Int))))
  else
   xu false
 else
  xu false
def tQ (aa:au) (ak:ai):Bool:=
 decide (aa.Key=ak)
def ey (aa:List au) (iB:au→Option Bool) (n2:Int):Option (Int⊕Int):=
 if n2 < (aa.length:Int) then
  (idx aa n2).bind fun v3=>
  (iB v3).bind fun v4=>
  if v4=true then
   Option.map .inr (some n2)
  else
   some (.inl (cd (n2+(1:Int))))
 else
  Option.map .inr (some (-1:Int))
def rn (aa:List au) (iB:au→Option Bool) (n2:Int):Option Int:=
 iter (fun x:Int=>ey aa iB x) n2
def fw (aa:List au) (iB:au→Option Bool):Option Int:=
 rn aa iB (0:Int)
def fB (aa:aW) (ak:ai):Option Int:=
 (fw aa.ao (fun y0=>some (tQ y0 ak))).bind fun v3=>
 some v3
def o5 (aa:aW) (q5:ai) (l7:List ai):Option ((ai×(List ai))⊕(List ai)):=
 if q5≠([]:ai) then
  (bc l7 q5).bind fun v9=>
  if v9=true then
   Option.map .inr (some [])
  else
   (app l7 [q5]).bind fun l10=>
   (fB aa q5).bind fun v12=>
   (idx aa.ao v12).bind fun ma=>
   some (.inl (ma.fe,l10))
 else
  Option.map .inr (some l7)
def ux (aa:aW) (q5:ai) (l7:List ai):Option (List ai):=
 iter (fun x:ai×(List ai)=>o5 aa x.1 x.2) (q5,l7)
def si (aa:aW) (ak:ai):Option (List ai):=
 ux aa ak []
def jo (aa:aW) (q5:ai) (l7:List ai):Option ((ai×(List ai))⊕(Option (List ai))):=
 if q5≠([]:ai) then
  (bc l7 q5).bind fun v9=>
  if v9=true then
   Option.map .inr (some none)
  else
   (app l7 [q5]).bind fun l10=>
   (fB aa q5).bind fun v12=>
   (idx aa.ao v12).bind fun ma=>
   some (.inl (ma.fe,l10))
 else
  Option.map .inr (some (some l7))
def nz (aa:aW) (q5:ai) (l7:List ai):Option (Option (List ai)):=
 iter (fun x:ai×(List ai)=>jo aa x.1 x.2) (q5,l7)
def sj (aa:aW) (ak:ai):Option (Option (List ai)):=
 nz aa ak []
def gM (n3:Int) (c7:Bool):Option (Int⊕Int):=
 if c7=true then
  Option.map .inr (some (7:Int))
 else
  some (.inl (cd (n3+(1:Int))))
def gN (n10:Int) (D8:Bool):Option (Int⊕Int):=
 if D8=true then
  Option.map .inr (some (8:Int))
 else
  some (.inl (cd (n10+(1:Int))))
def gO (aa:aW) (n24:Int):Option (Int⊕Int):=
 if n24 < (aa.ao.length:Int) then
  (idx aa.ao n24).bind fun v25=>
  (si aa v25.Key).bind fun FF=>
  if (11:Int) < (FF.length:Int) then
   Option.map .inr (some (2:Int))
  else
   some (.inl (cd (n24+(1:Int))))
 else
  Option.map .inr (some (0:Int))
def oB (aa:aW) (n24:Int):Option Int:=
 iter (fun x:Int=>gO aa x) n24
def eP (aa:aW) (n16:Int):Option (Int⊕Int):=
 if n16 < (aa.ao.length:Int) then
  (idx aa.ao n16).bind fun v17=>
  (sj aa v17.Key).bind fun ik=>
  vw ik (
   Option.map .inr (some (14:Int))) (fun x20=>
   (HT x20).bind fun v22=>
   some (.inl (cd (n16+(1:Int)))))
 else
  Option.map .inr (oB aa (0:Int))
def jh (aa:aW) (n16:Int):Option Int:=
 iter (fun x:Int=>eP aa x) n16
def lp (aa:aW) (n10:Int):Option (Int⊕Int):=
 if n10 < (aa.ao.length:Int) then
  (idx aa.ao n10).bind fun v11=>
  if v11.fe≠([]:ai) then
   (fB aa v11.fe).bind fun rl=>
   gN n10 (decide (rl < (0:Int)))
  else
   gN n10 false
 else
  Option.map .inr (jh aa (0:Int))
def sn (aa:aW) (n10:Int):Option Int:=
 iter (fun x:Int=>lp aa x) n10
def lr (aa:aW) (n3:Int):Option (Int⊕Int):=
 if n3 < (aa.ao.length:Int) then
  (idx aa.ao n3).bind fun v4=>
  (uU v4.Key).bind fun v6=>
  if (!v6)=true then
   Option.map .inr (some (5:Int))
  else
   if (0:Int) < n3 then
    (idx aa.ao (cd (n3 - (1:Int)))).bind fun v8=>
    gM n3 (Op.bytesLess v4.Key v8.Key||v4.Key==v8.Key)
   else
    gM n3 false
 else
  Option.map .inr (sn aa (0:Int))
def wA (aa:aW) (n3:Int):Option Int:=
 iter (fun x:Int=>lr aa x) n3
def o6 (aa:aW):Option Int:=
 if (200:Int) < (aa.ao.length:Int) then
  some (2:Int)
 else
  wA aa (0:Int)
def iM (aa:ai):Option Bool:=
 (uU aa).bind fun v1=>
 some (!v1)
def nP (c9:Bool):Option Bool:=
 some c9
def jM (aa:ai) (l5:List ai):Option Bool:=
 (A9 aa ([46]:ai)).bind fun v10=>
 if (v10.length:Int)≤(5:Int) then
  (aV l5 (fun y0=>iM y0)).bind fun v12=>
  nP (!v12)
 else
  nP false
def nQ (aa:ai) (v1:(List ai)) (c3:Bool):Option Bool:=
 if c3=true then
  (BN v1 (0:Int) (cd ((v1.length:Int) - (1:Int)))).bind fun l6=>
  jM aa l6
 else
  (idx v1 (cd ((v1.length:Int) - (1:Int)))).bind fun v7=>
  (uU v7).bind fun v8=>
  if (!v8)=true then
   some false
  else
   jM aa v1
def qT (aa:ai) (ak:Bool):Option Bool:=
 (A9 aa ([46]:ai)).bind fun v1=>
 if (!ak)=true then
  (idx v1 (cd ((v1.length:Int) - (1:Int)))).bind fun v4=>
  nQ aa v1 (decide (v4=([42]:ai)))
 else
  nQ aa v1 false
def dU (n2:Int) (c5:Bool):Option (Int⊕Int):=
 if c5=true then
  Option.map .inr (some (7:Int))
 else
  some (.inl (cd (n2+(1:Int))))
def dL (aa:List ai) (ak:Bool) (n2:Int):Option (Int⊕Int):=
 if n2 < (aa.length:Int) then
  (idx aa n2).bind fun v3=>
  (qT v3 ak).bind fun v4=>
  if (!v4)=true then
   Option.map .inr (some (5:Int))
  else
   if (0:Int) < n2 then
    (idx aa (cd (n2 - (1:Int)))).bind fun v6=>
    dU n2 (Op.bytesLess v3 v6||v3==v6)
   else
    dU n2 false
 else
  Option.map .inr (some (0:Int))
def o7 (aa:List ai) (ak:Bool) (n2:Int):Option Int:=
 iter (fun x:Int=>dL aa ak x) n2
def o8 (aa:List ai) (ak:Bool):Option Int:=
 o7 aa ak (0:Int)
def qU (aa:List ai):Option Int:=
 if (aa.length:Int)=(0:Int) then
  some (8:Int)
 else
  if (50:Int) < (aa.length:Int) then
   some (2:Int)
  else
   (o8 aa false).bind fun v1=>
   some v1
def wB (aa:bH) (ak:ai):Bool:=
 decide (aa.Key=ak)
def fL (aa:List bH) (iB:bH→Option Bool) (n2:Int):Option (Int⊕Int):=
 if n2 < (aa.length:Int) then
  (idx aa n2).bind fun v3=>
  (iB v3).bind fun v4=>
  if v4=true then
   Option.map .inr (some n2)
  else
   some (.inl (cd (n2+(1:Int))))
 else
  Option.map .inr (some (-1:Int))
def uy (aa:List bH) (iB:bH→Option Bool) (n2:Int):Option Int:=
 iter (fun x:Int=>fL aa iB x) n2
def gQ (aa:List bH) (iB:bH→Option Bool):Option Int:=
 uy aa iB (0:Int)
def xv (aa:aW) (ak:ai):Option Int:=
 (gQ aa.bd (fun y0=>some (wB y0 ak))).bind fun v3=>
 some v3
def ia (n3:Int) (v4:bH) (c7:Bool):Option (Int⊕Int):=
 if c7=true then
  Option.map .inr (some (7:Int))
 else
  (qU v4.lI).bind fun v9=>
  if v9≠(0:Int) then
   Option.map .inr (some v9)
  else
   some (.inl (cd (n3+(1:Int))))
def qH (n11:Int) (JR:Bool):Option (Int⊕Int):=
 if JR=true then
  Option.map .inr (some (7:Int))
 else
  some (.inl (cd (n11+(1:Int))))
def jq (aa:aW) (n11:Int) (v12:aQ) (Qd:Bool):Option (Int⊕Int):=
 if Qd=true then
  Option.map .inr (some (8:Int))
 else
  if (0:Int) < n11 then
   (idx aa.aG (cd (n11 - (1:Int)))).bind fun ik=>
   (idx aa.aG (cd (n11 - (1:Int)))).bind fun v20=>
   (idx aa.aG (cd (n11 - (1:Int)))).bind fun v21=>
   (gh [(Lib.compareBytes ik.ek v12.ek),(Lib.compareBytes v20.au v12.au),(Lib.compareBytes v21.bH v12.bH)]).bind fun v22=>
   qH n11 (decide ((0:Int)≤v22))
  else
   qH n11 false
def nA (aa:aW) (n11:Int):Option (Int⊕Int):=
 if n11 < (aa.aG.length:Int) then
  (idx aa.aG n11).bind fun v12=>
  (uU v12.ek).bind fun rl=>
  if (!rl)=true then
   Option.map .inr (some (5:Int))
  else
   (fB aa v12.au).bind fun pf=>
   if pf < (0:Int) then
    jq aa n11 v12 true
   else
    (xv aa v12.bH).bind fun v17=>
    jq aa n11 v12 (decide (v17 < (0:Int)))
 else
  Option.map .inr (some (0:Int))
def yo (aa:aW) (n11:Int):Option Int:=
 iter (fun x:Int=>nA aa x) n11
def kM (aa:aW):Option Int:=
 if (500:Int) < (aa.aG.length:Int) then
  some (2:Int)
 else
  yo aa (0:Int)
def ib (aa:aW) (n3:Int):Option (Int⊕Int):=
 if n3 < (aa.bd.length:Int) then
  (idx aa.bd n3).bind fun v4=>
  (uU v4.Key).bind fun v6=>
  if (!v6)=true then
   Option.map .inr (some (5:Int))
  else
   if (0:Int) < n3 then
    (idx aa.bd (cd (n3 - (1:Int)))).bind fun v8=>
    ia n3 v4 (Op.bytesLess v4.Key v8.Key||v4.Key==v8.Key)
   else
    ia n3 v4 false
 else
  Option.map .inr (kM aa)
def yp (aa:aW) (n3:Int):Option Int:=
 iter (fun x:Int=>ib aa x) n3
def so (aa:aW):Option Int:=
 if (50:Int) < (aa.bd.length:Int) then
  some (2:Int)
 else
  yp aa (0:Int)
def lu (self:Query→Option (List Query)) (aa:Query) (yG:List Query) (n13:Int):Option (((List Query)×Int)⊕(List Query)):=
 if n13 < (aa.Kids.length:Int) then
  (idx aa.Kids n13).bind fun rl=>
  (self rl).bind fun pf=>
  (app yG pf).bind fun BA=>
  some (.inl (BA,cd (n13+(1:Int))))
 else
  Option.map .inr (some yG)
def zg (self:Query→Option (List Query)) (aa:Query) (yG:List Query) (n13:Int):Option (List Query):=
 iter (fun x:(List Query)×Int=>lu self aa x.1 x.2) (yG,n13)
def uz (self:Query→Option (List Query)) (aa:Query) (l4:List Query):Option (List Query):=
 zg self aa l4 (0:Int)
def wC (self:Query→Option (List Query)) (aa:Query) (c2:Bool):Option (List Query):=
 if c2=true then
  (app ([]:List Query) [aa]).bind fun l5=>
  uz self aa l5
 else
  uz self aa []
def uA (self:Query→Option (List Query)) (aa:Query):Option (List Query):=
 wC self aa ((decide (aa.Kind=(1:Int)))||(decide (aa.Kind=(2:Int))))
def lO:Nat→Query→Option (List Query)
 | 0=>fun _=>none
 | k+1=>uA (lO k)
def FH (aa:Query):Option (List Query):=
 lO depth aa
def pD (self:Query→Option Int) (aa:Query) (n4:Int) (n5:Int):Option ((Int×Int)⊕Int):=
 if n5 < (aa.Kids.length:Int) then
  (idx aa.Kids n5).bind fun v6=>
  (self v6).bind fun v8=>
  some (.inl (max n4 v8,cd (n5+(1:Int))))
 else
  Option.map .inr (some (cd (n4+(1:Int))))
def HX (self:Query→Option Int) (aa:Query) (n4:Int) (n5:Int):Option Int:=
 iter (fun x:Int×Int=>pD self aa x.1 x.2) (n4,n5)
def xw (self:Query→Option Int) (aa:Query):Option Int:=
 HX self aa (0:Int) (0:Int)
def sq:Nat→Query→Option Int
 | 0=>fun _=>none
 | k+1=>xw (sq k)
def MT (aa:Query):Option Int:=
 sq depth aa
def tT (aa:Query) (ak:Query):Bool:=
 decide (aa.Kind=ak.Kind)
def ql (aa:ai):Option Bool:=
 (uU aa).bind fun v1=>
 some (!v1)
def nR (c3:Bool):Option Bool:=
 some c3
def te (aa:ai):Option Bool:=
 (A9 aa ([46]:ai)).bind fun v1=>
 if (aa.length:Int)≤(40:Int) then
  if (v1.length:Int)≤(5:Int) then
   (aV v1 (fun y0=>ql y0)).bind fun v4=>
   nR (!v4)
  else
   nR false
 else
  nR false
def nB (c7:Bool):Option Bool:=
 some c7
def kN (aa:ai) (ak:Bool) (c5:Bool):Option Bool:=
 if c5=true then
  some true
 else
  if (!ak)=true then
   (bc [([107,101,121]:ai),([109,111,100,101,108]:ai),([116,101,110,97,110,116]:ai),([102,105,114,109,119,97,114,101]:ai)] aa).bind fun v8=>
   nB v8
  else
   nB false
def kO (aa:ai) (ak:Bool) (c2:Bool):Option Bool:=
 if c2=true then
  some true
 else
  (strings_CutPrefix aa ([112,114,111,112,46]:ai)).bind fun v4=>
  if v4.2=true then
   (te v4.1).bind fun v6=>
   kN aa ak v6
  else
   kN aa ak false
def sr (aa:ai) (ak:Bool):Option Bool:=
 (strings_CutPrefix aa ([116,97,103,46]:ai)).bind fun v1=>
 if v1.2=true then
  (uU v1.1).bind fun v3=>
  kO aa ak v3
 else
  kO aa ak false
def oC (c2:Bool):Bool:=
 c2
def kD (aa:Version):Bool:=
 oC ((yH aa.bP (0:Int) (9999:Int))&&((yH aa.bQ (0:Int) (9999:Int))&&(yH aa.bL (0:Int) (9999:Int))))
def kP (n3:Int) (c5:Bool):Option (Int⊕Bool):=
 if c5=true then
  Option.map .inr (some false)
 else
  some (.inl (cd (n3+(1:Int))))
def kQ (c6:Bool):Option Bool:=
 some c6
def jr (aa:bg):Option Bool:=
 if (yH aa.Kind (0:Int) (3:Int))=true then
  if (yH aa.Number (-1000000000:Int) (1000000000:Int))=true then
   (wQ aa.Words).bind fun v7=>
   kQ (v7&&(decide ((aa.Words.length:Int)≤(100:Int))))
  else
   kQ false
 else
  kQ false
def bZ (aa:bg) (n3:Int):Option (Int⊕Bool):=
 if n3 < ([aa.ch,decide (aa.Number≠(0:Int)),decide (aa.Words≠([]:ai))].length:Int) then
  (idx [aa.ch,decide (aa.Number≠(0:Int)),decide (aa.Words≠([]:ai))] n3).bind fun v4=>
  kP n3 (v4&&(decide (aa.Kind≠(cd (n3+(1:Int))))))
 else
  Option.map .inr (jr aa)
def yq (aa:bg) (n3:Int):Option Bool:=
 iter (fun x:Int=>bZ aa x) n3
def pE (aa:bg):Option Bool:=
 yq aa (0:Int)
def pF (c12:Bool):Option Int:=
 if c12=true then
  some (10:Int)
 else
  some (0:Int)
def uY (D8:Bool):Option Int:=
 pF D8
def pG (aa:Query) (c3:Bool) (GY:Bool):Option Int:=
 if GY=true then
  pF GY
 else
  uY ((decide (aa.Value.Kind≠(2:Int)))&&(!c3))
def pH (aa:Query) (c3:Bool) (c7:Bool):Option Int:=
 if c7=true then
  some (3:Int)
 else
  if aa.Value.Kind≠(3:Int) then
   (strings_HasPrefix aa.Field ([112,114,111,112,46]:ai)).bind fun v11=>
   pG aa c3 (!v11)
  else
   pG aa c3 false
def su (aa:Query) (c3:Bool) (c9:Bool):Option Int:=
 pH aa c3 c9
def uZ (aa:Query) (c3:Bool) (c6:Bool):Option Int:=
 if c6=true then
  some (1:Int)
 else
  if aa.Field=([102,105,114,109,119,97,114,101]:ai) then
   some (0:Int)
  else
   if aa.Version≠(⟨(0:Int),(0:Int),(0:Int)⟩:Version) then
    pH aa c3 (decide (aa.Version≠(⟨(0:Int),(0:Int),(0:Int)⟩:Version)))
   else
    (pE aa.Value).bind fun v8=>
    if (!v8)=true then
     su aa c3 (!v8)
    else
     su aa c3 (decide (aa.Value.Kind=(0:Int)))
def u4 (aa:Query) (c3:Bool) (c5:Bool):Option Int:=
 if c5=true then
  some (3:Int)
 else
  uZ aa c3 ((decide (aa.Field=([102,105,114,109,119,97,114,101]:ai)))&&(!(kD aa.Version)))
def u5 (aa:Query) (c3:Bool):Option Int:=
 (bc xj aa.Op).bind fun v4=>
 if (!v4)=true then
  some (10:Int)
 else
  u4 aa c3 ((decide (aa.Field=([102,105,114,109,119,97,114,101]:ai)))&&(decide (aa.Value≠(⟨(0:Int),false,(0:Int),[]⟩:bg))))
def nT (aa:Query):Option Int:=
 (sr aa.Field (decide (aa.Kind=(2:Int)))).bind fun v2=>
 if (!v2)=true then
  some (5:Int)
 else
  if aa.Kind=(2:Int) then
   some (0:Int)
  else
   u5 aa ((decide (aa.Op=([61,61]:ai)))||(decide (aa.Op=([33,61]:ai))))
def iN (self:Query→Option Int) (aa:Query) (n15:Int):Option (Int⊕Int):=
 if n15 < (aa.Kids.length:Int) then
  (idx aa.Kids n15).bind fun pf=>
  (self pf).bind fun oH=>
  if oH≠(0:Int) then
   Option.map .inr (some oH)
  else
   some (.inl (cd (n15+(1:Int))))
 else
  Option.map .inr (some (0:Int))
def jN (self:Query→Option Int) (aa:Query) (n15:Int):Option Int:=
 iter (fun x:Int=>iN self aa x) n15
def nU (self:Query→Option Int) (aa:Query) (FG:Bool):Option Int:=
 if FG=true then
  some (3:Int)
 else
  if aa.Kind≤(2:Int) then
   (nT aa).bind fun ma=>
   some ma
  else
   jN self aa (0:Int)
def sv (self:Query→Option Int) (aa:Query) (c12:Bool):Option Int:=
 nU self aa c12
def qm (self:Query→Option Int) (aa:Query) (GY:Bool):Option Int:=
 if GY=true then
  nU self aa GY
 else
  sv self aa ((decide ((2:Int) < aa.Kind))&&(decide (aa.Field≠([]:ai))))
def jO (self:Query→Option Int) (aa:Query) (c8:Bool):Option Int:=
 if c8=true then
  some (3:Int)
 else
  qm self aa ((decide (aa.Kind≠(1:Int)))&&((decide (aa.Op≠([]:ai)))||((decide (aa.Value≠(⟨(0:Int),false,(0:Int),[]⟩:bg)))||(decide (aa.Version≠(⟨(0:Int),(0:Int),(0:Int)⟩:Version))))))
def nV (self:Query→Option Int) (aa:Query) (c2:Bool) (c4:Bool):Option Int:=
 if c4=true then
  some (3:Int)
 else
  if c2=true then
   (bW aa.Kids (fun y0=>some (tT y0 aa))).bind fun v9=>
   jO self aa v9
  else
   jO self aa false
def qn (self:Query→Option Int) (aa:Query) (c2:Bool) (c6:Bool):Option Int:=
 nV self aa c2 c6
def tU (self:Query→Option Int) (aa:Query) (c2:Bool) (c7:Bool):Option Int:=
 qn self aa c2 c7
def tV (self:Query→Option Int) (aa:Query) (c2:Bool) (c5:Bool):Option Int:=
 if c5=true then
  qn self aa c2 c5
 else
  tU self aa c2 (c2&&(decide ((aa.Kids.length:Int) < (2:Int))))
def tW (self:Query→Option Int) (aa:Query) (c2:Bool) (c3:Bool):Option Int:=
 if c3=true then
  nV self aa c2 c3
 else
  tV self aa c2 ((decide (aa.Kind=(3:Int)))&&(decide ((aa.Kids.length:Int)≠(1:Int))))
def qo (self:Query→Option Int) (aa:Query) (c2:Bool):Option Int:=
 tW self aa c2 ((decide (aa.Kind≤(2:Int)))&&(decide ((0:Int) < (aa.Kids.length:Int))))
def nW (self:Query→Option Int) (aa:Query):Option Int:=
 if (!(yH aa.Kind (1:Int) (5:Int)))=true then
  some (4:Int)
 else
  qo self aa ((decide (aa.Kind=(4:Int)))||(decide (aa.Kind=(5:Int))))
def jE:Nat→Query→Option Int
 | 0=>fun _=>none
 | k+1=>nW (jE k)
def Bc (aa:Query):Option Int:=
 jE depth aa
def nC (aa:Query) (c2:Bool):Option Int:=
 if c2=true then
  some (2:Int)
 else
  (Bc aa).bind fun v6=>
  some v6
def sw (aa:Query):Option Int:=
 (FH aa).bind fun v3=>
 if (40:Int) < (v3.length:Int) then
  nC aa true
 else
  (MT aa).bind fun v5=>
  nC aa (decide ((20:Int) < v5))
def pI (c2:Bool):Int:=
 if c2=true then
  (1:Int)
 else
  (0:Int)
def nX (aa:oM):Int:=
 pI ((!(yH aa.ef (0:Int) aa.To))||(decide ((345686400000:Int) < aa.To)))
def qI (aa:List Int) (n2:Int):Option (Int⊕Int):=
 if n2 < (aa.length:Int) then
  (idx aa n2).bind fun v3=>
  if v3≠(0:Int) then
   Option.map .inr (some v3)
  else
   some (.inl (cd (n2+(1:Int))))
 else
  Option.map .inr (some (0:Int))
def D9 (aa:List Int) (n2:Int):Option Int:=
 iter (fun x:Int=>qI aa x) n2
def lv (aa:List Int):Option Int:=
 D9 aa (0:Int)
def lP (n5:Int) (v6:bl) (zf:Bool):Option (Int⊕Int):=
 if zf=true then
  Option.map .inr (some (13:Int))
 else
  (sw v6.Query).bind fun ik=>
  (qU v6.lI).bind fun v20=>
  (lv [ik,v20,(nX v6.Time)]).bind fun v21=>
  if v21≠(0:Int) then
   Option.map .inr (some v21)
  else
   some (.inl (cd (n5+(1:Int))))
def lQ (aa:aW) (n5:Int) (v6:bl) (FG:Bool):Option (Int⊕Int):=
 if FG=true then
  Option.map .inr (some (8:Int))
 else
  (si aa v6.ef).bind fun B3=>
  (bc B3 v6.To).bind fun pf=>
  if pf=true then
   lP n5 v6 true
  else
   (si aa v6.To).bind fun v17=>
   (bc v17 v6.ef).bind fun oH=>
   lP n5 v6 oH
def nY (aa:aW) (n5:Int) (v6:bl) (c9:Bool):Option (Int⊕Int):=
 if c9=true then
  Option.map .inr (some (7:Int))
 else
  (fB aa v6.ef).bind fun v12=>
  if v12 < (0:Int) then
   lQ aa n5 v6 true
  else
   (fB aa v6.To).bind fun ma=>
   lQ aa n5 v6 (decide (ma < (0:Int)))
def qp (aa:aW) (n5:Int):Option (Int⊕Int):=
 if n5 < (aa.aK.length:Int) then
  (idx aa.aK n5).bind fun v6=>
  (uU v6.Key).bind fun v8=>
  if (!v8)=true then
   Option.map .inr (some (5:Int))
  else
   if (0:Int) < n5 then
    (idx aa.aK (cd (n5 - (1:Int)))).bind fun v10=>
    nY aa n5 v6 (Op.bytesLess v6.Key v10.Key||v6.Key==v10.Key)
   else
    nY aa n5 v6 false
 else
  Option.map .inr (some (0:Int))
def wR (aa:aW) (n5:Int):Option Int:=
 iter (fun x:Int=>qp aa x) n5
def js (aa:aW):Option Int:=
 (o6 aa).bind fun v2=>
 if v2≠(0:Int) then
  some v2
 else
  (so aa).bind fun v3=>
  if v3≠(0:Int) then
   some v3
  else
   if (200:Int) < (aa.aK.length:Int) then
    some (2:Int)
   else
    wR aa (0:Int)
def jP (aa:Int):Int:=
 if (!(yH aa (0:Int) (345686399999:Int)))=true then
  (1:Int)
 else
  (0:Int)
def nD (n15:Int) (n18:Int) (RI:Bool):Option ((Int×Bool×Int)⊕((Int×Bool×Int)⊕(Int×Bool))):=
 some (.inl (n18,RI,cd (n15+(1:Int))))
def qJ (n13:Int) (zf:Bool) (n15:Int) (pf:Int) (c17:Bool):Option ((Int×Bool×Int)⊕((Int×Bool×Int)⊕(Int×Bool))):=
 if c17=true then
  nD n15 pf true
 else
  nD n15 n13 zf
def fY (ak:Int) (n7:Int) (v8:bl) (n13:Int) (zf:Bool) (n15:Int):Option ((Int×Bool×Int)⊕((Int×Bool×Int)⊕(Int×Bool))):=
 if n15 < ([v8.Time.ef,v8.Time.To].length:Int) then
  (idx [v8.Time.ef,v8.Time.To] n15).bind fun pf=>
  qJ n13 zf n15 pf ((decide (v8.Time.ef < v8.Time.To))&&((decide (ak < pf))&&(decide (pf < n13))))
 else
  Option.map .inr (some (.inl (n13,zf,cd (n7+(1:Int)))))
def uJ (ak:Int) (n7:Int) (v8:bl) (n13:Int) (zf:Bool) (n15:Int):Option ((Int×Bool×Int)⊕(Int×Bool)):=
 iter (fun x:Int×Bool×Int=>fY ak n7 v8 x.1 x.2.1 x.2.2) (n13,zf,n15)
def nE (n5:Int) (c6:Bool):Option (Int×Bool):=
 if (!c6)=true then
  some ((0:Int),false)
 else
  some (n5,true)
def fZ (aa:aW) (ak:Int) (n5:Int) (c6:Bool) (n7:Int):Option ((Int×Bool×Int)⊕(Int×Bool)):=
 if n7 < (aa.aK.length:Int) then
  (idx aa.aK n7).bind fun v8=>
  uJ ak n7 v8 n5 c6 (0:Int)
 else
  Option.map .inr (nE n5 c6)
def yr (aa:aW) (ak:Int) (n5:Int) (c6:Bool) (n7:Int):Option (Int×Bool):=
 iter (fun x:Int×Bool×Int=>fZ aa ak x.1 x.2.1 x.2.2) (n5,c6,n7)
def pJ (aa:aW) (ak:Int):Option (Int×Bool):=
 yr aa ak (345686400000:Int) false (0:Int)
def sx (aa:List ai):Option Int:=
 if (50:Int) < (aa.length:Int) then
  some (2:Int)
 else
  (o8 aa true).bind fun v1=>
  some v1
def xY (n2:Int) (c4:Bool):Option (Int⊕Bool):=
 if c4=true then
  Option.map .inr (some false)
 else
  some (.inl (cd (n2+(1:Int))))
def tf (c5:Bool):Option Bool:=
 some c5
def xZ (aa:ai):Option Bool:=
 (wQ aa).bind fun v6=>
 if v6=true then
  (HV aa ([32]:ai)).bind fun v7=>
  if aa=v7 then
   (strings_Contains aa ([32,32]:ai)).bind fun v8=>
   tf (!v8)
  else
   tf false
 else
  tf false
def mS (aa:ai) (n2:Int):Option (Int⊕Bool):=
 if n2 < ((mM aa).length:Int) then
  (idx (mM aa) n2).bind fun v3=>
  xY n2 ((decide (v3 < (32:Int)))||(decide (v3=(127:Int))))
 else
  Option.map .inr (xZ aa)
def FI (aa:ai) (n2:Int):Option Bool:=
 iter (fun x:Int=>mS aa x) n2
def B7 (aa:ai):Option Bool:=
 FI aa (0:Int)
def o9 (n8:Int) (zf:Bool):Option (Int⊕Int):=
 if zf=true then
  Option.map .inr (some (3:Int))
 else
  some (.inl (cd (n8+(1:Int))))
def mi (n8:Int) (v9:jm) (c12:Bool):Option (Int⊕Int):=
 if c12=true then
  Option.map .inr (some (7:Int))
 else
  if v9.Value=([]:ai) then
   o9 n8 true
  else
   (B7 v9.Value).bind fun B3=>
   o9 n8 ((!B3)||(decide ((100:Int) < (v9.Value.length:Int))))
def sy (n17:Int) (c23:Bool):Option (Int⊕Int):=
 if c23=true then
  Option.map .inr (some (3:Int))
 else
  some (.inl (cd (n17+(1:Int))))
def mj (n17:Int) (oH:eB) (c21:Bool):Option (Int⊕Int):=
 if c21=true then
  Option.map .inr (some (7:Int))
 else
  (pE oH.Value).bind fun v24=>
  sy n17 ((!v24)||(decide (oH.Value.Kind=(0:Int))))
def ml (aa:aL) (n17:Int):Option (Int⊕Int):=
 if n17 < (aa.eG.length:Int) then
  (idx aa.eG n17).bind fun oH=>
  (te oH.Name).bind fun v20=>
  if (!v20)=true then
   Option.map .inr (some (5:Int))
  else
   if (0:Int) < n17 then
    (idx aa.eG (cd (n17 - (1:Int)))).bind fun v22=>
    mj n17 oH (Op.bytesLess oH.Name v22.Name||oH.Name==v22.Name)
   else
    mj n17 oH false
 else
  Option.map .inr (some (0:Int))
def zh (aa:aL) (n17:Int):Option Int:=
 iter (fun x:Int=>ml aa x) n17
def vE (aa:aL):Option Int:=
 if (50:Int) < (aa.eG.length:Int) then
  some (2:Int)
 else
  zh aa (0:Int)
def mn (aa:aL) (n8:Int):Option (Int⊕Int):=
 if n8 < (aa.Device.kY.length:Int) then
  (idx aa.Device.kY n8).bind fun v9=>
  (uU v9.Name).bind fun v11=>
  if (!v11)=true then
   Option.map .inr (some (5:Int))
  else
   if (0:Int) < n8 then
    (idx aa.Device.kY (cd (n8 - (1:Int)))).bind fun ma=>
    mi n8 v9 (Op.bytesLess v9.Name ma.Name||v9.Name==ma.Name)
   else
    mi n8 v9 false
 else
  Option.map .inr (vE aa)
def zi (aa:aL) (n8:Int):Option Int:=
 iter (fun x:Int=>mn aa x) n8
def kE (aa:aL) (c3:Bool):Option Int:=
 if c3=true then
  some (5:Int)
 else
  if (!(kD aa.Device.ff))=true then
   some (1:Int)
  else
   if (20:Int) < (aa.Device.kY.length:Int) then
    some (2:Int)
   else
    zi aa (0:Int)
def uB (aa:aL):Option Int:=
 (uU aa.Device.Key).bind fun v4=>
 if (!v4)=true then
  kE aa true
 else
  (uU aa.Device.Model).bind fun v5=>
  if (!v5)=true then
   kE aa true
  else
   if aa.Device.au≠([]:ai) then
    (uU aa.Device.au).bind fun v6=>
    kE aa (!v6)
   else
    kE aa false
def qK (n2:Int) (c6:Bool):Option (Int⊕Int):=
 if c6=true then
  Option.map .inr (some (7:Int))
 else
  some (.inl (cd (n2+(1:Int))))
def kR (aa:List aL) (n2:Int):Option (Int⊕Int):=
 if n2 < (aa.length:Int) then
  (idx aa n2).bind fun v3=>
  (uB v3).bind fun v5=>
  if v5≠(0:Int) then
   Option.map .inr (some v5)
  else
   if (0:Int) < n2 then
    (idx aa (cd (n2 - (1:Int)))).bind fun v7=>
    qK n2 (Op.bytesLess v3.Device.Key v7.Device.Key||v3.Device.Key==v7.Device.Key)
   else
    qK n2 false
 else
  Option.map .inr (some (0:Int))
def yu (aa:List aL) (n2:Int):Option Int:=
 iter (fun x:Int=>kR aa x) n2
def lx (aa:List aL):Option Int:=
 if (500:Int) < (aa.length:Int) then
  some (2:Int)
 else
  yu aa (0:Int)
def dM (l2:List ai):Option (List ai):=
 some l2
def ec (ak:Int):Option (List ai):=
 if ak < (0:Int) then
  none
 else
  if (0:Int) < (cd (ak - (cd ((0:Int) - (0:Int))))) then
   (BN ([]:List ai) (0:Int) (0:Int)).bind fun l3=>
   (mkS [] (cd (ak - (cd ((0:Int) - (0:Int))))) (cd (ak - (cd ((0:Int) - (0:Int)))))).bind fun l4=>
   (BN l4 (0:Int) (0:Int)).bind fun l6=>
   dM l6
  else
   dM []
def bJ (aa:List (List ai)) (yG:List ai) (n13:Int):Option (((List ai)×Int)⊕(List ai)):=
 if n13 < (aa.length:Int) then
  (idx aa n13).bind fun rl=>
  (app yG rl).bind fun sK=>
  some (.inl (sK,cd (n13+(1:Int))))
 else
  Option.map .inr (some yG)
def mo (aa:List (List ai)) (yG:List ai) (n13:Int):Option (List ai):=
 iter (fun x:(List ai)×Int=>bJ aa x.1 x.2) (yG,n13)
def iF (aa:List (List ai)) (n3:Int):Option (List ai):=
 (ec n3).bind fun v6=>
 mo aa v6 (0:Int)
def cI (aa:List (List ai)) (n3:Int) (n4:Int):Option ((Int×Int)⊕(List ai)):=
 if n4 < (aa.length:Int) then
  (idx aa n4).bind fun v5=>
  if (cd (n3+(v5.length:Int))) < (0:Int) then
   none
  else
   some (.inl (cd (n3+(v5.length:Int)),cd (n4+(1:Int))))
 else
  Option.map .inr (iF aa n3)
def mq (aa:List (List ai)) (n3:Int) (n4:Int):Option (List ai):=
 iter (fun x:Int×Int=>cI aa x.1 x.2) (n3,n4)
def eQ (aa:List (List ai)):Option (List ai):=
 mq aa (0:Int) (0:Int)
def jW (aa:ai):Option Bool:=
 (ph aa).bind fun v1=>
 some (!v1)
def gp (aa:ai) (ak:List ai):Option Bool:=
 (kC ak aa).bind fun v1=>
 some (!v1)
def ly (aa:List ai) (ak:List ai):Option Bool:=
 (aV ak (fun y0=>gp y0 aa)).bind fun v2=>
 some (!v2)
def pK (aa:List ai) (ak:List ai) (c4:Bool):Option (Bool×Int):=
 if c4=true then
  some (false,(2:Int))
 else
  (ly aa ak).bind fun v5=>
  some (v5,(0:Int))
def qq (aa:List ai) (ak:List ai):Option (Bool×Int):=
 (eQ [aa,ak]).bind fun v1=>
 (aV v1 (fun y0=>jW y0)).bind fun v3=>
 if v3=true then
  some (false,(5:Int))
 else
  pK aa ak ((decide ((50:Int) < (aa.length:Int)))||(decide ((50:Int) < (ak.length:Int))))
def tX (c2:Bool):Option Bool:=
 some c2
def th:Option Bool:=
 (qq [([97,46,42]:ai)] [([97,46,98]:ai)]).bind fun v1=>
 tX ((decide (v1.2=(0:Int)))&&v1.1)
def gR (aa:List ai):Option (List ai):=
 app [] aa
def I8 (aa:List ai):Option (List ai):=
 (gR aa).bind fun v1=>
 (pX v1.length (fun r:(List ai)=>r.length) (fx v1)).bind fun v3=>
 (et v3).bind fun v4=>
 some v4
def jF (n6:Int) (v8:aW) (B5:List ai) (n15:Int):Option (((List ai)×Int)⊕(((List ai)×Int)⊕(List ai))):=
 if n15 < (v8.aG.length:Int) then
  (idx v8.aG n15).bind fun pf=>
  (app B5 [pf.ek]).bind fun BA=>
  some (.inl (BA,cd (n15+(1:Int))))
 else
  Option.map .inr (some (.inl (B5,cd (n6+(1:Int)))))
def x1 (n6:Int) (v8:aW) (B5:List ai) (n15:Int):Option (((List ai)×Int)⊕(List ai)):=
 iter (fun x:(List ai)×Int=>jF n6 v8 x.1 x.2) (B5,n15)
def u6 (l5:List ai):Option (List ai):=
 (I8 l5).bind fun v20=>
 some v20
def jG (aa:List aW) (l5:List ai) (n6:Int):Option (((List ai)×Int)⊕(List ai)):=
 if n6 < (aa.length:Int) then
  (idx aa n6).bind fun v8=>
  x1 n6 v8 l5 (0:Int)
 else
  Option.map .inr (u6 l5)
def B8 (aa:List aW) (l5:List ai) (n6:Int):Option (List ai):=
 iter (fun x:(List ai)×Int=>jG aa x.1 x.2) (l5,n6)
def xx (aa:List aW):Option (List ai):=
 B8 aa [] (0:Int)
def sA (c2:Bool):Option Bool:=
 some c2
def zR (aa:ai) (ak:ai):Option Bool:=
 (strings_CutSuffix aa ([42]:ai)).bind fun v1=>
 if aa=ak then
  sA true
 else
  if v1.2=true then
   (strings_HasPrefix ak v1.1).bind fun v3=>
   sA v3
  else
   sA false
def ji (aa:ai) (ak:ai):Option Bool:=
 (zR aa ak).bind fun v1=>
 some v1
def mr (aa:ai) (ak:List ai):Option Bool:=
 (aV ak (fun y0=>ji y0 aa)).bind fun v2=>
 some (!v2)
def rf (aa:List ai) (ak:List ai):Option Bool:=
 (aV ak (fun y0=>mr y0 aa)).bind fun v2=>
 some (!v2)
def mu (n9:Int) (CL:List Int):Option (((List Int)×Int)⊕(List Int)):=
 some (.inl (CL,cd (n9+(1:Int))))
def iG (l8:List Int) (n9:Int) (D8:Bool):Option (((List Int)×Int)⊕(List Int)):=
 if D8=true then
  (app l8 [n9]).bind fun JP=>
  mu n9 JP
 else
  mu n9 l8
def jX (aa:aW) (ak:ai) (aP:ai) (aX:ai) (l8:List Int) (n9:Int):Option (((List Int)×Int)⊕(List Int)):=
 if n9 < (aa.aG.length:Int) then
  (idx aa.aG n9).bind fun v11=>
  if v11.ek=ak then
   (si aa aX).bind fun rl=>
   (bc rl v11.au).bind fun B3=>
   if B3=true then
    (xv aa v11.bH).bind fun pf=>
    (idx aa.bd pf).bind fun v17=>
    (rf v17.lI [aP]).bind fun oH=>
    iG l8 n9 oH
   else
    iG l8 n9 false
  else
   iG l8 n9 false
 else
  Option.map .inr (some l8)
def ti (aa:aW) (ak:ai) (aP:ai) (aX:ai) (l8:List Int) (n9:Int):Option (List Int):=
 iter (fun x:(List Int)×Int=>jX aa ak aP aX x.1 x.2) (l8,n9)
def nZ (aa:aW) (ak:ai) (aP:ai) (aX:ai):Option (List Int):=
 (fB aa aX).bind fun v2=>
 if v2 < (0:Int) then
  some []
 else
  ti aa ak aP aX [] (0:Int)
def jz (self:Query→aL→Option Bool) (aa:Query) (ak:aL) (aP:Bool):Option Bool:=
 (self aa ak).bind fun v2=>
 some (v2 !=aP)
def jY (self:Query→aL→Option Bool) (aa:Bool) (ak:Query) (aP:aL):Option Bool:=
 (bW ak.Kids (fun y0=>jz self y0 aP aa)).bind fun v2=>
 some (!v2)
def jH (aa:aL) (ak:ai) (n9:Int):Option (Int⊕bg):=
 if n9 < (aa.eG.length:Int) then
  (idx aa.eG n9).bind fun v10=>
  (KF ([112,114,111,112,46]:ai) v10.Name).bind fun Xv=>
  if ak=Xv then
   Option.map .inr (some v10.Value)
  else
   some (.inl (cd (n9+(1:Int))))
 else
  Option.map .inr (some (⟨(0:Int),false,(0:Int),[]⟩:bg))
def x2 (aa:aL) (ak:ai) (n9:Int):Option bg:=
 iter (fun x:Int=>jH aa ak x) n9
def jI (aa:aL) (ak:ai) (n4:Int):Option (Int⊕bg):=
 if n4 < (aa.Device.kY.length:Int) then
  (idx aa.Device.kY n4).bind fun v5=>
  (KF ([116,97,103,46]:ai) v5.Name).bind fun q7=>
  if ak=q7 then
   Option.map .inr (some (⟨(3:Int),false,(0:Int),v5.Value⟩:bg))
  else
   some (.inl (cd (n4+(1:Int))))
 else
  Option.map .inr (x2 aa ak (0:Int))
def x5 (aa:aL) (ak:ai) (n4:Int):Option bg:=
 iter (fun x:Int=>jI aa ak x) n4
def vi (aa:aL) (ak:ai):Option bg:=
 if ak=([107,101,121]:ai) then
  some (⟨(3:Int),false,(0:Int),aa.Device.Key⟩:bg)
 else
  if ak=([109,111,100,101,108]:ai) then
   some (⟨(3:Int),false,(0:Int),aa.Device.Model⟩:bg)
  else
   if ak=([116,101,110,97,110,116]:ai) then
    some (⟨(3:Int),false,(0:Int),aa.Device.au⟩:bg)
   else
    x5 aa ak (0:Int)
def pa (aa:Version) (ak:Version):Option Int:=
 (gh [(cmp_Compare_int aa.bP ak.bP),(cmp_Compare_int aa.bQ ak.bQ),(cmp_Compare_int aa.bL ak.bL)]).bind fun v3=>
 some v3
def tj (aa:ai) (ak:Int):Option Bool:=
 (vu (jl (jl (jl (jl (jl (jl ([]:List (ai×Bool)) ([61,61]:ai) (decide (ak=(0:Int)))) ([33,61]:ai) (decide (ak≠(0:Int)))) ([60]:ai) (decide (ak < (0:Int)))) ([60,61]:ai) (decide (ak≤(0:Int)))) ([62]:ai) (decide ((0:Int) < ak))) ([62,61]:ai) (decide ((0:Int)≤ak))) aa false).bind fun v2=>
 some v2
def jZ (aa:Query) (n13:Int):Option Bool:=
 (tj aa.Op n13).bind fun rl=>
 some rl
def dV (self:Query→aL→Option Bool) (aa:Query) (ak:aL):Option Bool:=
 if aa.Kind=(3:Int) then
  (idx aa.Kids (0:Int)).bind fun v3=>
  (self v3 ak).bind fun v4=>
  some (!v4)
 else
  if aa.Kind=(4:Int) then
   (jY self true aa ak).bind fun v5=>
   some v5
  else
   if aa.Kind=(5:Int) then
    (jY self false aa ak).bind fun v6=>
    some (!v6)
   else
    if aa.Kind=(2:Int) then
     (vi ak aa.Field).bind fun v7=>
     some (decide (v7.Kind≠(0:Int)))
    else
     if aa.Field=([102,105,114,109,119,97,114,101]:ai) then
      (pa ak.Device.ff aa.Version).bind fun v8=>
      (tj aa.Op v8).bind fun v9=>
      some v9
     else
      (vi ak aa.Field).bind fun v10=>
      if v10.Kind≠aa.Value.Kind then
       some false
      else
       (gh [(cmp_Compare_int v10.Number aa.Value.Number),(Lib.compareBytes v10.Words aa.Value.Words)]).bind fun v12=>
       if (v10.ch !=aa.Value.ch)=true then
        jZ aa (1:Int)
       else
        jZ aa v12
def ic:Nat→Query→aL→Option Bool
 | 0=>fun _ _=>none
 | k+1=>dV (ic k)
def jQ (aa:Query) (ak:aL):Option Bool:=
 ic depth aa ak
def x6 (aa:Reason) (ak:Reason):Option Int:=
 (gh [(cmp_Compare_int aa.aQ ak.aQ),(Lib.compareBytes aa.bl ak.bl)]).bind fun v3=>
 some v3
def fM (aa:List Reason) (iB:Reason→Reason→Option Int):Option (List Reason):=
 Ku iB aa
def tn (n20:Int) (UU:List Reason):Option (((List Reason)×Int)⊕(List Reason)):=
 some (.inl (UU,cd (n20+(1:Int))))
def mT (n20:Int) (v23:bl) (v31:(List Int)) (AJ:List Reason) (n38:Int):Option (((List Reason)×Int)⊕(((List Reason)×Int)⊕(List Reason))):=
 if n38 < (v31.length:Int) then
  (idx v31 n38).bind fun v39=>
  (app AJ [(⟨v39,v23.Key⟩:Reason)]).bind fun GD=>
  some (.inl (GD,cd (n38+(1:Int))))
 else
  Option.map .inr (tn n20 AJ)
def Bd (n20:Int) (v23:bl) (v31:(List Int)) (AJ:List Reason) (n38:Int):Option (((List Reason)×Int)⊕(List Reason)):=
 iter (fun x:(List Reason)×Int=>mT n20 v23 v31 x.1 x.2) (AJ,n38)
def kF (aa:aW) (ak:ai) (aP:ai) (CN:List Reason) (n20:Int) (v23:bl) (c25:Bool):Option (((List Reason)×Int)⊕(List Reason)):=
 if c25=true then
  tn n20 CN
 else
  (nZ aa ak aP v23.To).bind fun v31=>
  Bd n20 v23 v31 CN (0:Int)
def Be (CN:List Reason):Option (List Reason):=
 (pX CN.length (fun r:(List Reason)=>r.length) (fM CN (fun y0 y1=>x6 y0 y1))).bind fun JS=>
 some JS
def tp (aa:aW) (ak:ai) (aP:ai) (aX:aL) (bK:Int) (CN:List Reason) (n20:Int):Option (((List Reason)×Int)⊕(List Reason)):=
 if n20 < (aa.aK.length:Int) then
  (idx aa.aK n20).bind fun v23=>
  (fB aa aX.Device.au).bind fun v26=>
  if v26 < (0:Int) then
   kF aa ak aP CN n20 v23 true
  else
   (si aa aX.Device.au).bind fun FF=>
   (bc FF v23.ef).bind fun v28=>
   if (!v28)=true then
    kF aa ak aP CN n20 v23 true
   else
    (jQ v23.Query aX).bind fun FB=>
    if (!FB)=true then
     kF aa ak aP CN n20 v23 true
    else
     if bK < v23.Time.ef then
      kF aa ak aP CN n20 v23 true
     else
      if v23.Time.To≤bK then
       kF aa ak aP CN n20 v23 true
      else
       (rf v23.lI [aP]).bind fun v30=>
       kF aa ak aP CN n20 v23 (!v30)
 else
  Option.map .inr (Be CN)
def x7 (aa:aW) (ak:ai) (aP:ai) (aX:aL) (bK:Int) (CN:List Reason) (n20:Int):Option (List Reason):=
 iter (fun x:(List Reason)×Int=>tp aa ak aP aX bK x.1 x.2) (CN,n20)
def mU (aa:aW) (ak:ai) (aP:ai) (aX:aL) (bK:Int) (v3:(List Int)) (l9:List Reason) (n10:Int):Option (((List Reason)×Int)⊕(List Reason)):=
 if n10 < (v3.length:Int) then
  (idx v3 n10).bind fun v12=>
  (app l9 [(⟨v12,[]⟩:Reason)]).bind fun UY=>
  some (.inl (UY,cd (n10+(1:Int))))
 else
  Option.map .inr (x7 aa ak aP aX bK l9 (0:Int))
def FJ (aa:aW) (ak:ai) (aP:ai) (aX:aL) (bK:Int) (v3:(List Int)) (l9:List Reason) (n10:Int):Option (List Reason):=
 iter (fun x:(List Reason)×Int=>mU aa ak aP aX bK v3 x.1 x.2) (l9,n10)
def oD (aa:aW) (ak:ai) (aP:ai) (aX:aL) (bK:Int):Option (List Reason):=
 (nZ aa ak aP aX.Device.au).bind fun v3=>
 FJ aa ak aP aX bK v3 [] (0:Int)
def nF (n38:Int) (EH:List aB) (Pm:List aB):Option (((List aB)×(List aB)×Int)⊕(((List aB)×(List aB)×Int)⊕(((List aB)×(List aB)×Int)⊕((List aB)×(List aB))))):=
 some (.inl (EH,Pm,cd (n38+(1:Int))))
def qL (v17:ai) (v28:ai) (AJ:List aB) (n38:Int) (v39:aL) (EH:List aB) (c49:Bool):Option (((List aB)×(List aB)×Int)⊕(((List aB)×(List aB)×Int)⊕(((List aB)×(List aB)×Int)⊕((List aB)×(List aB))))):=
 if c49=true then
  (app AJ [(⟨v17,v28,v39.Device.Key⟩:aB)]).bind fun K7=>
  nF n38 EH K7
 else
  nF n38 EH AJ
def kS (v17:ai) (v28:ai) (AJ:List aB) (n38:Int) (v39:aL) (v41:(List Reason)) (JS:(List Reason)) (EH:List aB):Option (((List aB)×(List aB)×Int)⊕(((List aB)×(List aB)×Int)⊕(((List aB)×(List aB)×Int)⊕((List aB)×(List aB))))):=
 qL v17 v28 AJ n38 v39 EH ((decide ((0:Int) < (v41.length:Int)))&&(decide (¬ ((0:Int) < (JS.length:Int)))))
def qM (v17:ai) (v28:ai) (we:List aB) (AJ:List aB) (n38:Int) (v39:aL) (v41:(List Reason)) (JS:(List Reason)) (c44:Bool):Option (((List aB)×(List aB)×Int)⊕(((List aB)×(List aB)×Int)⊕(((List aB)×(List aB)×Int)⊕((List aB)×(List aB))))):=
 if c44=true then
  (app we [(⟨v17,v28,v39.Device.Key⟩:aB)]).bind fun K6=>
  kS v17 v28 AJ n38 v39 v41 JS K6
 else
  kS v17 v28 AJ n38 v39 v41 JS we
def ie (aa:aW) (ak:aW) (aX:List aL) (bK:Int) (v17:ai) (n27:Int) (v28:ai) (we:List aB) (AJ:List aB) (n38:Int):Option (((List aB)×(List aB)×Int)⊕(((List aB)×(List aB)×Int)⊕(((List aB)×(List aB)×Int)⊕((List aB)×(List aB))))):=
 if n38 < (aX.length:Int) then
  (idx aX n38).bind fun v39=>
  (oD aa v17 v28 v39 bK).bind fun v41=>
  (oD ak v17 v28 v39 bK).bind fun JS=>
  qM v17 v28 we AJ n38 v39 v41 JS ((decide ((0:Int) < (JS.length:Int)))&&(decide (¬ ((0:Int) < (v41.length:Int)))))
 else
  Option.map .inr (some (.inl (we,AJ,cd (n27+(1:Int)))))
def uK (aa:aW) (ak:aW) (aX:List aL) (bK:Int) (v17:ai) (n27:Int) (v28:ai) (we:List aB) (AJ:List aB) (n38:Int):Option (((List aB)×(List aB)×Int)⊕(((List aB)×(List aB)×Int)⊕((List aB)×(List aB)))):=
 iter (fun x:(List aB)×(List aB)×Int=>ie aa ak aX bK v17 n27 v28 x.1 x.2.1 x.2.2) (we,AJ,n38)
def ig (aa:aW) (ak:aW) (aP:List ai) (aX:List aL) (bK:Int) (n14:Int) (v17:ai) (wy:List aB) (Zp:List aB) (n27:Int):Option (((List aB)×(List aB)×Int)⊕(((List aB)×(List aB)×Int)⊕((List aB)×(List aB)))):=
 if n27 < (aP.length:Int) then
  (idx aP n27).bind fun v28=>
  uK aa ak aX bK v17 n27 v28 wy Zp (0:Int)
 else
  Option.map .inr (some (.inl (wy,Zp,cd (n14+(1:Int)))))
def uL (aa:aW) (ak:aW) (aP:List ai) (aX:List aL) (bK:Int) (n14:Int) (v17:ai) (wy:List aB) (Zp:List aB) (n27:Int):Option (((List aB)×(List aB)×Int)⊕((List aB)×(List aB))):=
 iter (fun x:(List aB)×(List aB)×Int=>ig aa ak aP aX bK n14 v17 x.1 x.2.1 x.2.2) (wy,Zp,n27)
def ij (aa:aW) (ak:aW) (aP:List ai) (aX:List aL) (bK:Int) (v3:(List ai)) (zd:List aB) (UY:List aB) (n14:Int):Option (((List aB)×(List aB)×Int)⊕((List aB)×(List aB))):=
 if n14 < (v3.length:Int) then
  (idx v3 n14).bind fun v17=>
  uL aa ak aP aX bK n14 v17 zd UY (0:Int)
 else
  Option.map .inr (some (zd,UY))
def yv (aa:aW) (ak:aW) (aP:List ai) (aX:List aL) (bK:Int) (v3:(List ai)) (zd:List aB) (UY:List aB) (n14:Int):Option ((List aB)×(List aB)):=
 iter (fun x:(List aB)×(List aB)×Int=>ij aa ak aP aX bK v3 x.1 x.2.1 x.2.2) (zd,UY,n14)
def mV (aa:aW) (ak:aW) (aP:List ai) (aX:List aL) (bK:Int):Option ((List aB)×(List aB)):=
 (xx [aa,ak]).bind fun v3=>
 yv aa ak aP aX bK v3 [] [] (0:Int)
def gu (aa:List aB) (ak:List aB) (n2:Int):Option (Int⊕Bool):=
 if n2 < (aa.length:Int) then
  (idx aa n2).bind fun v3=>
  (idx ak n2).bind fun v4=>
  if v3≠v4 then
   Option.map .inr (some false)
  else
   some (.inl (cd (n2+(1:Int))))
 else
  Option.map .inr (some true)
def u7 (aa:List aB) (ak:List aB) (n2:Int):Option Bool:=
 iter (fun x:Int=>gu aa ak x) n2
def fU (aa:List aB) (ak:List aB):Option Bool:=
 if (aa.length:Int)≠(ak.length:Int) then
  some false
 else
  u7 aa ak (0:Int)
def nG (JQ:Bool):Option Bool:=
 some JQ
def kT (c31:Bool):Option Bool:=
 some c31
def nH (v2:aW×ah) (v3:aW×ah) (v4:(List aL)×ah) (v6:Int×ah) (v10:List ai) (v11:(List aB)×(List aB)×Int) (c20:Bool):Option Bool:=
 if c20=true then
  some false
 else
  (js v2.1).bind fun v21=>
  (js v3.1).bind fun v22=>
  (sx v10).bind fun v23=>
  (lx v4.1).bind fun v24=>
  (lv [v21,v22,v23,v24,(jP v6.1)]).bind fun v25=>
  if v25≠(0:Int) then
   if v11.2.2=v25 then
    if (cd ((v11.1.length:Int)+(v11.2.1.length:Int)))=(0:Int) then
     (th).bind fun FF=>
     nG FF
    else
     nG false
   else
    nG false
  else
   (mV v2.1 v3.1 v10 v4.1 v6.1).bind fun v28=>
   if v11.2.2=(0:Int) then
    (fU v11.1 v28.1).bind fun v32=>
    if v32=true then
     (fU v11.2.1 v28.2).bind fun v33=>
     if v33=true then
      (th).bind fun Zn=>
      kT Zn
     else
      kT false
    else
     kT false
   else
    kT false
def kU (v2:aW×ah) (v3:aW×ah) (v4:(List aL)×ah) (v6:Int×ah) (v10:List ai) (v11:(List aB)×(List aB)×Int) (rl:Int×Bool×Int) (pf:Int) (n17:Int) (JR:Bool):Option Bool:=
 nH v2 v3 v4 v6 v10 v11 ((decide (rl.2.2≠pf))||((decide (rl.1≠n17))||(rl.2.1!=JR)))
def sB (aa:List Int):Option Bool:=
 (s0 (⟨aa,(0:Int)⟩:ah)).bind fun v2=>
 (s0 v2.2).bind fun v3=>
 (nn v3.2).bind fun v4=>
 (ur v4.2).bind fun v6=>
 (cj v6.2 [(0:Int),(0:Int),(1:Int),(1:Int),(2:Int),(3:Int),(4:Int),(5:Int)]).bind fun v9=>
 (idx [[([100,101,118,105,99,101,46,114,101,97,100]:ai)],[([100,101,118,105,99,101,46,114,101,97,100]:ai),([111,114,103,46,120]:ai)],[([100,101,118,105,99,101,46,119,114,105,116,101]:ai)],[],[([97,46,42]:ai)],[([98]:ai),([97]:ai)]] v9.1).bind fun v10=>
 (fT v2.1 v3.1 v10 v4.1 v6.1).bind fun v11=>
 (gL v2.1 v6.1).bind fun rl=>
 (js v2.1).bind fun B3=>
 (lv [B3,(jP v6.1)]).bind fun pf=>
 if pf=(0:Int) then
  (pJ v2.1 v6.1).bind fun ik=>
  kU v2 v3 v4 v6 v10 v11 rl pf ik.1 ik.2
 else
  kU v2 v3 v4 v6 v10 v11 rl pf (0:Int) false
end
end Go.Beacon
