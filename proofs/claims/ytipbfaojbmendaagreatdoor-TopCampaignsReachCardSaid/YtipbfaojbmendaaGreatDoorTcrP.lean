/- Plain functions that the Go functions compute, written by shal.py. -/
import Derived.Test.YtipbfaojbmendaaGreatDoorCore
open Option renaming map→ac
set_option linter.unusedVariables false
namespace Go.Beacon
open Go Go.Eng
noncomputable section
structure an where
 L:List Int
 at_:Int
deriving DecidableEq,Inhabited
structure Version where
 ax:Int
 aA:Int
 aC:Int
deriving DecidableEq,Inhabited
def Version.av (x:Version):AV:=.agg [I x.ax,I x.aA,I x.aC]
instance:vM Version:=⟨fun a b=>(vM.lt a.ax b.ax||(decide (a.ax=b.ax)&&(vM.lt a.aA b.aA||(decide (a.aA=b.aA)&&(vM.lt a.aC b.aC||(decide (a.aC=b.aC)&&false))))))⟩
structure iz where
 Part:Int
 oo:Int
 pk:Int
 ct:Int
deriving DecidableEq,Inhabited
def iz.av (x:iz):AV:=.agg [I x.Part,I x.oo,I x.pk,I x.ct]
structure lF where
 cr:Int
 To:Int
deriving DecidableEq,Inhabited
def lF.av (x:lF):AV:=.agg [I x.cr,I x.To]
structure Campaign where
 Key:bq
 Target:Version
 At:Int
 aG:List iz
 bb:lF
 Room:Int
deriving DecidableEq,Inhabited
def Campaign.av (x:Campaign):AV:=.agg [.str x.Key,I x.Target.ax,I x.Target.aA,I x.Target.aC,I x.At,.list 4 (x.aG.map iz.av),I x.bb.cr,I x.bb.To,I x.Room]
structure Range where
 xM:Version
 oq:Version
deriving DecidableEq,Inhabited
def Range.av (x:Range):AV:=.agg [I x.xM.ax,I x.xM.aA,I x.xM.aC,I x.oq.ax,I x.oq.aA,I x.oq.aC]
structure ar where
 Version:Version
 jU:List bq
 cr:List Range
 ec:Int
deriving DecidableEq,Inhabited
def ar.av (x:ar):AV:=.agg [I x.Version.ax,I x.Version.aA,I x.Version.aC,.list 1 (x.jU.map AV.str),.list 6 (x.cr.map Range.av),I x.ec]
structure Lj where
 Name:bq
 Value:bq
deriving DecidableEq,Inhabited
def Lj.av (x:Lj):AV:=.agg [.str x.Name,.str x.Value]
structure DeviceS where
 Key:bq
 Model:bq
 yj:bq
 bB:Version
 I4:List Lj
deriving DecidableEq,Inhabited
def DeviceS.av (x:DeviceS):AV:=.agg [.str x.Key,.str x.Model,.str x.yj,I x.bB.ax,I x.bB.aA,I x.bB.aC,.list 2 (x.I4.map Lj.av)]
structure ah where
 Kind:Int
 Since:Int
 Version:Version
 ct:Int
deriving DecidableEq,Inhabited
def ah.av (x:ah):AV:=.agg [I x.Kind,I x.Since,I x.Version.ax,I x.Version.aA,I x.Version.aC,I x.ct]
structure aj where
 ah:ah
 aN:Version
deriving DecidableEq,Inhabited
structure ao where
 c_:Campaign
 kM:List (bq×Int)
 cj:List (bq×Int)
 open_:List Int
 ba:List Int
 aO:List Int
 aE:List Int
 aQ:Int
 bM:Int
 iA:List aj
deriving DecidableEq,Inhabited
structure ak where
 bR:Int
 bK:Int
deriving DecidableEq,Inhabited
def ak.av (x:ak):AV:=.agg [I x.bR,I x.bK]
structure aM where
 mi:List ar
 Cv:Version
 eT:List (bq×(List (Version×ak)))
deriving DecidableEq,Inhabited
structure MarkS where
 At:Int
 Device:bq
 Kind:Int
 Version:Version
deriving DecidableEq,Inhabited
def MarkS.av (x:MarkS):AV:=.agg [I x.At,.str x.Device,I x.Kind,I x.Version.ax,I x.Version.aA,I x.Version.aC]
structure eo where
 Device:bq
 Version:Version
 ec:Int
deriving DecidableEq,Inhabited
def eo.av (x:eo):AV:=.agg [.str x.Device,I x.Version.ax,I x.Version.aA,I x.Version.aC,I x.ec]
structure cP where
 Device:bq
 pn:bq
 At:Int
 Value:Int
deriving DecidableEq,Inhabited
def cP.av (x:cP):AV:=.agg [.str x.Device,.str x.pn,I x.At,I x.Value]
structure Bi where
 X:Int
 Y:Int
deriving DecidableEq,Inhabited
def Bi.av (x:Bi):AV:=.agg [I x.X,I x.Y]
def wy (n2:Int):Option Int:=
 some n2
def Below (aa ai:Int):Option Int:=
 if ai < 1 then
  some 0
 else
  (rem aa ai).bind fun n1=>
  if n1 < 0 then
   wy (bA (n1+ai))
  else
   wy n1
def iI (aa:an) (ai:Int):Option (Int×an):=
 if (aa.L.length:Int)=0 then
  (Below (bA ((bA (aa.at_+1)) * 7919)) ai).bind fun v1=>
  some (v1,(⟨aa.L,bA (aa.at_+1)⟩:an))
 else
  (rem (bA ((bA (aa.at_+1)) - 1)) (aa.L.length:Int)).bind fun n2=>
  (quo (bA ((bA (aa.at_+1)) - 1)) (aa.L.length:Int)).bind fun n3=>
  (idx aa.L n2).bind fun v4=>
  (Below v4 1073741824).bind fun v5=>
  (Below (bA (v5+(bA (n3 * (bA (7919+n2)))))) ai).bind fun v6=>
  some (v6,(⟨aa.L,bA (aa.at_+1)⟩:an))
def ng (aa:an) (ai:List bq):Option (bq×an):=
 (iI aa (ai.length:Int)).bind fun v1=>
 (idx ai v1.1).bind fun v2=>
 some (v2,v1.2)
def dS (aa:an) (ai:List Int):Option (Int×an):=
 (iI aa (ai.length:Int)).bind fun v1=>
 (idx ai v1.1).bind fun v2=>
 some (v2,v1.2)
def whole (aa:Int):Version:=
 (⟨aa,0,0⟩:Version)
def kN (aa:an) (ai:Int):Option (Bool×an):=
 (iI aa ai).bind fun v1=>
 some (decide (v1.1=0),v1.2)
def gd (v2:bq×an) (v3 v4 v5:Int×an) (ud:List iz) (AJ:List Int) (n28 n29 n30:Int):Option (Campaign×an):=
 some ((⟨v2.1,(whole v3.1),v4.1,ud,(⟨n29,n30⟩:lF),v5.1⟩:Campaign),(⟨AJ,n28⟩:an))
def lG (v2:bq×an) (v3 v4 v5:Int×an) (yk:List Int) (n15:Int) (ud:List iz):Option (Campaign×an):=
 (kN (⟨yk,n15⟩:an) 3).bind fun v26=>
 if v26.1=true then
  (dS v26.2 [0,50,3600000]).bind fun v31=>
  (dS v31.2 [0,40,200,86400000]).bind fun v32=>
  gd v2 v3 v4 v5 ud v32.2.L v32.2.at_ v31.1 v32.1
 else
  gd v2 v3 v4 v5 ud v26.2.L v26.2.at_ 0 0
def gg (v2:bq×an) (v3 v4 v5:Int×an) (v8 yk:List Int) (n15:Int) (ud:List iz) (n18:Int):Option (((List Int)×Int×(List iz)×Int)⊕(Campaign×an)):=
 if n18 < (v8.length:Int) then
  (idx v8 n18).bind fun v20=>
  (dS (⟨yk,n15⟩:an) [0,0,10,30]).bind fun v21=>
  (dS v21.2 [1,1,2,3]).bind fun v22=>
  (dS v22.2 [0,300,500,1000]).bind fun v23=>
  (app ud [(⟨v20,v21.1,v22.1,v23.1⟩:iz)]).bind fun AK=>
  some (.inl (v23.2.L,v23.2.at_,AK,bA (n18+1)))
 else
  ac .inr (lG v2 v3 v4 v5 yk n15 ud)
def oU (v2:bq×an) (v3 v4 v5:Int×an) (v8 yk:List Int) (n15:Int) (ud:List iz) (n18:Int):Option (Campaign×an):=
 iter (fun x:(List Int)×Int×(List iz)×Int=>gg v2 v3 v4 v5 v8 x.1 x.2.1 x.2.2.1 x.2.2.2) (yk,n15,ud,n18)
def iJ (aa:an):Option (Campaign×an):=
 (ng aa [([99]:bq),([107]:bq),([122,57]:bq)]).bind fun v2=>
 (dS v2.2 [2,3,4]).bind fun v3=>
 (dS v3.2 [0,10,100]).bind fun v4=>
 (dS v4.2 [1,2,5]).bind fun v5=>
 (iI v5.2 4).bind fun v7=>
 (idx [[1000],[500,500],[200,300,500],[100,900]] v7.1).bind fun v8=>
 oU v2 v3 v4 v5 v8 v7.2.L v7.2.at_ [] 0
def nG (aa:an) (ai aL:Int):Option (Int×an):=
 if aL < ai then
  some (ai,aa)
 else
  (iI aa (bA ((bA (aL - ai))+1))).bind fun v1=>
  some (bA (ai+v1.1),v1.2)
def cmp_isNaN_int (aa:Int):Bool:=
 decide (aa≠aa)
def cmp_Compare_int (aa ai:Int):Int:=
 if (cmp_isNaN_int aa)=true then
  if (cmp_isNaN_int ai)=true then
   0
  else
   (-1:Int)
 else
  if (cmp_isNaN_int ai)=true then
   1
  else
   if aa < ai then
    (-1:Int)
   else
    if ai < aa then
     1
    else
     0
def gW (aa ai:List Int):Option Int:=
 if (aa.length:Int) < (ai.length:Int) then
  some (-1:Int)
 else
  some 0
def br (aa ai:List Int) (n2:Int):Option (Int⊕Int):=
 if n2 < (aa.length:Int) then
  (idx aa n2).bind fun v3=>
  if (ai.length:Int)≤n2 then
   ac .inr (some 1)
  else
   (idx ai n2).bind fun v4=>
   if (cmp_Compare_int v3 v4)≠0 then
    ac .inr (some (cmp_Compare_int v3 v4))
   else
    some (.inl (bA (n2+1)))
 else
  ac .inr (gW aa ai)
def fy (aa ai:List Int) (n2:Int):Option Int:=
 iter (fun x:Int=>br aa ai x) n2
def ed (aa ai:List Int):Option Int:=
 fy aa ai 0
def fP (aa ai:Version):Option Int:=
 (ed [aa.ax,aa.aA,aa.aC] [ai.ax,ai.aA,ai.aC]).bind fun v3=>
 some v3
def fK (n21:Int) (Du:List Int) (n23:Int) (sJ:List ar):Option (((List Int)×Int×(List ar)×Int)⊕(((List Int)×Int×(List ar)×Int)⊕((List ar)×an))):=
 some (.inl (Du,n23,sJ,bA (n21+1)))
def fL (n10:Int) (ja:List ar) (n21 v26:Int) (yZ:List bq) (v30:Int×an) (qh:List Int) (n36:Int) (J8:List Range):Option (((List Int)×Int×(List ar)×Int)⊕(((List Int)×Int×(List ar)×Int)⊕((List ar)×an))):=
 (app ja [(⟨(⟨n10,v26,0⟩:Version),yZ,J8,v30.1⟩:ar)]).bind fun ZD=>
 fK n21 qh n36 ZD
def fM (n10:Int) (ja:List ar) (n21 v26:Int) (yZ:List bq) (v30:Int×an) (qh:List Int) (n36:Int) (H9:List Range) (n41 n42 n43 n44 n45:Int) (c49:Bool):Option (((List Int)×Int×(List ar)×Int)⊕(((List Int)×Int×(List ar)×Int)⊕((List ar)×an))):=
 if c49=true then
  (app H9 [(⟨(⟨n41,n42,n43⟩:Version),(⟨n44,n45,9999⟩:Version)⟩:Range)]).bind fun F4=>
  fL n10 ja n21 v26 yZ v30 qh n36 F4
 else
  fL n10 ja n21 v26 yZ v30 qh n36 H9
def fN (n10:Int) (ja:List ar) (n21 v26:Int) (yZ:List bq) (v30:Int×an) (qh:List Int) (n36:Int) (H9:List Range) (n41 n42 n43 n44 n45:Int):Option (((List Int)×Int×(List ar)×Int)⊕(((List Int)×Int×(List ar)×Int)⊕((List ar)×an))):=
 if (H9.length:Int)=0 then
  fM n10 ja n21 v26 yZ v30 qh n36 H9 n41 n42 n43 n44 n45 true
 else
  (idx H9 0).bind fun v50=>
  (fP v50.oq (⟨n41,n42,n43⟩:Version)).bind fun v51=>
  fM n10 ja n21 v26 yZ v30 qh n36 H9 n41 n42 n43 n44 n45 (decide (v51 < 0))
def ie (n10:Int) (ja:List ar) (n21 v26:Int) (yZ:List bq) (v30 v32 v33:Int×an) (qh:List Int) (n36:Int) (c37:Bool):Option (((List Int)×Int×(List ar)×Int)⊕(((List Int)×Int×(List ar)×Int)⊕((List ar)×an))):=
 if c37=true then
  (app ([]:List Range) [(⟨(whole v32.1),(whole v32.1)⟩:Range)]).bind fun Ia=>
  fN n10 ja n21 v26 yZ v30 qh n36 Ia ((whole n10).ax) ((whole n10).aA) ((whole n10).aC) n10 4
 else
  fN n10 ja n21 v26 yZ v30 qh n36 [] ((whole v32.1).ax) ((whole v32.1).aA) ((whole v32.1).aC) (bA (n10 - 1)) v33.1
def ig (n10:Int) (ud:List Int) (n18:Int) (ja:List ar) (n21:Int):Option (((List Int)×Int×(List ar)×Int)⊕(((List Int)×Int×(List ar)×Int)⊕((List ar)×an))):=
 if n21 < ([0,5].length:Int) then
  (idx [0,5] n21).bind fun v26=>
  (kN (⟨ud,n18⟩:an) 2).bind fun jV=>
  if jV.1=true then
   fK n21 jV.2.L jV.2.at_ ja
  else
   (iI jV.2 4).bind fun v28=>
   (idx [[([109]:bq)],[([109]:bq)],[([109]:bq),([110]:bq)],[([110]:bq)]] v28.1).bind fun yZ=>
   (dS v28.2 [1,5,5,10]).bind fun v30=>
   (nG v30.2 1 (bA (n10 - 1))).bind fun v32=>
   (dS v32.2 [0,5,9999]).bind fun v33=>
   (kN v33.2 4).bind fun zG=>
   ie n10 ja n21 v26 yZ v30 v32 v33 zG.2.L zG.2.at_ (zG.1&&(decide (v26=5)))
 else
  ac .inr (some (.inl (ud,n18,ja,bA (n10+1))))
def mP (n10:Int) (ud:List Int) (n18:Int) (ja:List ar) (n21:Int):Option (((List Int)×Int×(List ar)×Int)⊕((List ar)×an)):=
 iter (fun x:(List Int)×Int×(List ar)×Int=>ig n10 x.1 x.2.1 x.2.2.1 x.2.2.2) (ud,n18,ja,n21)
def ij (l6:List Int) (n7:Int) (l9:List ar) (n10:Int):Option (((List Int)×Int×(List ar)×Int)⊕((List ar)×an)):=
 if n10≤5 then
  mP n10 l6 n7 l9 0
 else
  ac .inr (some (l9,(⟨l6,n7⟩:an)))
def qj (l6:List Int) (n7:Int) (l9:List ar) (n10:Int):Option ((List ar)×an):=
 iter (fun x:(List Int)×Int×(List ar)×Int=>ij x.1 x.2.1 x.2.2.1 x.2.2.2) (l6,n7,l9,n10)
def jW (aa:an):Option ((List ar)×an):=
 qj aa.L aa.at_ [] 2
def iK (n11:Int) (BE:List Int) (n16:Int) (UO:List DeviceS):Option (((List Int)×Int×(List DeviceS)×Int)⊕((List DeviceS)×an)):=
 some (.inl (BE,n16,UO,bA (n11+1)))
def iL (l1:List bq) (l7:List Int) (n8:Int) (l10:List DeviceS) (n11:Int):Option (((List Int)×Int×(List DeviceS)×Int)⊕((List DeviceS)×an)):=
 if n11 < (l1.length:Int) then
  (idx l1 n11).bind fun oZ=>
  (kN (⟨l7,n8⟩:an) 5).bind fun rq=>
  if (!rq.1)=true then
   (ng rq.2 [([109]:bq),([109]:bq),([109]:bq),([110]:bq)]).bind fun kG=>
   (dS kG.2 [1,1,1,2,3]).bind fun v20=>
   (dS v20.2 [0,0,5]).bind fun v21=>
   (app l10 [(⟨oZ,kG.1,([116]:bq),(⟨v20.1,v21.1,0⟩:Version),[]⟩:DeviceS)]).bind fun Du=>
   iK n11 v21.2.L v21.2.at_ Du
  else
   iK n11 rq.2.L rq.2.at_ l10
 else
  ac .inr (some (l10,(⟨l7,n8⟩:an)))
def ru (l1:List bq) (l7:List Int) (n8:Int) (l10:List DeviceS) (n11:Int):Option ((List DeviceS)×an):=
 iter (fun x:(List Int)×Int×(List DeviceS)×Int=>iL l1 x.1 x.2.1 x.2.2.1 x.2.2.2) (l7,n8,l10,n11)
def kO (aa:an) (ai:Int):Option ((List DeviceS)×an):=
 (Gz [([100,49]:bq),([100,50]:bq),([100,51]:bq),([100,52]:bq),([100,53]:bq),([100,54]:bq)] 0 ai).bind fun l1=>
 ru l1 aa.L aa.at_ [] 0
def tF (n5:Int) (c7:Bool):Option (Int⊕Bool):=
 if c7=true then
  ac .inr (some false)
 else
  some (.inl (bA (n5+1)))
def nh (aa:bq) (n5:Int):Option (Int⊕Bool):=
 if n5 < (aa.length:Int) then
  (idx aa n5).bind fun c6=>
  tF n5 (if 97≤(c6.toNat:Int) then if (c6.toNat:Int)≤122 then !true else if 48≤(c6.toNat:Int) then if (c6.toNat:Int)≤57 then !true else if (c6.toNat:Int)=45 then !true else decide (¬ ((c6.toNat:Int)=95)) else if (c6.toNat:Int)=45 then !true else decide (¬ ((c6.toNat:Int)=95)) else if 48≤(c6.toNat:Int) then if (c6.toNat:Int)≤57 then !true else if (c6.toNat:Int)=45 then !true else decide (¬ ((c6.toNat:Int)=95)) else if (c6.toNat:Int)=45 then !true else decide (¬ ((c6.toNat:Int)=95)))
 else
  ac .inr (some true)
def wz (aa:bq) (n5:Int):Option Bool:=
 iter (fun x:Int=>nh aa x) n5
def ni (aa:bq) (c1:Bool):Option Bool:=
 if c1=true then
  some false
 else
  wz aa 0
def jX (aa:bq):Option Bool:=
 if aa=([]:bq) then
  ni aa true
 else
  if 40 < (aa.length:Int) then
   ni aa true
  else
   (idx aa 0).bind fun c2=>
   if (c2.toNat:Int) < 97 then
    ni aa true
   else
    (idx aa 0).bind fun c3=>
    ni aa (decide (122 < (c3.toNat:Int)))
def wA (c1:Bool):Bool:=
 c1
def du (aa ai aL:Int):Bool:=
 wA ((decide (aa < ai))||(decide (aL < aa)))
def oF (c2:Bool):Bool:=
 c2
def fh (aa:Version):Bool:=
 oF ((!(du aa.ax 0 9999))&&((!(du aa.aA 0 9999))&&(!(du aa.aC 0 9999))))
def jE (aa:Int):Bool:=
 !(du aa 0 345686399999)
def fA (n6 n7:Int) (v8:iz) (Nu:Bool):Option ((Int×Int)⊕Int):=
 if Nu=true then
  ac .inr (some 1)
 else
  some (.inl (bA (n6+v8.Part),bA (n7+1)))
def fB (Dv:Bool):Option Int:=
 if Dv=true then
  some 1
 else
  some 0
def gX (aa:Campaign) (n6:Int):Option Int:=
 if n6≠1000 then
  some 15
 else
  fB ((du aa.bb.cr 0 86400000)||((du aa.bb.To 0 86400000)||(du aa.Room 1 500)))
def dT (aa:Campaign) (n6 n7:Int):Option ((Int×Int)⊕Int):=
 if n7 < (aa.aG.length:Int) then
  (idx aa.aG n7).bind fun v8=>
  fA n6 n7 v8 ((du v8.Part 1 1000)||((du v8.oo 0 2592000000)||((du v8.pk 1 500)||(du v8.ct 0 1000))))
 else
  ac .inr (gX aa n6)
def kF (aa:Campaign) (n6 n7:Int):Option Int:=
 iter (fun x:Int×Int=>dT aa x.1 x.2) (n6,n7)
def fC (aa:Campaign) (c3:Bool):Option Int:=
 if c3=true then
  some 1
 else
  if (aa.aG.length:Int)=0 then
   some 3
  else
   if 20 < (aa.aG.length:Int) then
    some 2
   else
    kF aa 0 0
def bH (aa:Campaign):Option Int:=
 (jX aa.Key).bind fun v2=>
 if (!v2)=true then
  some 5
 else
  fC aa ((!(fh aa.Target))||(!(jE aa.At)))
def qM (aa:List Int) (n2:Int):Option (Int⊕Int):=
 if n2 < (aa.length:Int) then
  (idx aa n2).bind fun v3=>
  if v3≠0 then
   ac .inr (some v3)
  else
   some (.inl (bA (n2+1)))
 else
  ac .inr (some 0)
def Dw (aa:List Int) (n2:Int):Option Int:=
 iter (fun x:Int=>qM aa x) n2
def jY (aa:List Int):Option Int:=
 Dw aa 0
def fi (aa ai:Version):Option Int:=
 (jY [(cmp_Compare_int aa.ax ai.ax),(cmp_Compare_int aa.aA ai.aA),(cmp_Compare_int aa.aC ai.aC)]).bind fun v3=>
 some v3
def ik (c2:Bool):Option Bool:=
 some c2
def jZ (aa:Range) (ai:Version):Option Bool:=
 (fi aa.xM ai).bind fun v3=>
 if v3≤0 then
  (fi ai aa.oq).bind fun v4=>
  ik (decide (v4≤0))
 else
  ik false
def eN (aa:List Range) (jb:Range→Option Bool) (n2:Int):Option (Int⊕Int):=
 if n2 < (aa.length:Int) then
  (idx aa n2).bind fun v3=>
  (jb v3).bind fun v4=>
  if v4=true then
   ac .inr (some n2)
  else
   some (.inl (bA (n2+1)))
 else
  ac .inr (some (-1:Int))
def p9 (aa:List Range) (jb:Range→Option Bool) (n2:Int):Option Int:=
 iter (fun x:Int=>eN aa jb x) n2
def jc (aa:List Range) (jb:Range→Option Bool):Option Int:=
 p9 aa jb 0
def dB (aa:List Range) (jb:Range→Option Bool):Option Bool:=
 (jc aa jb).bind fun v1=>
 some (decide (0≤v1))
def jd (aa:ar) (ai:Version):Option Bool:=
 (dB aa.cr (fun y0=>jZ y0 ai)).bind fun v3=>
 some v3
def dH (n3:Int) (c8:Bool):Option (Int⊕Int):=
 if c8=true then
  ac .inr (some 7)
 else
  some (.inl (bA (n3+1)))
def cN (aa:ar) (n3:Int) (v4:Range) (c6:Bool):Option (Int⊕Int):=
 if c6=true then
  ac .inr (some 1)
 else
  if 0 < n3 then
   (idx aa.cr (bA (n3 - 1))).bind fun v9=>
   (fi v4.xM v9.oq).bind fun v10=>
   dH n3 (decide (v10≤0))
  else
   dH n3 false
def gh (aa:ar):Option Int:=
 (jd aa aa.Version).bind fun v11=>
 if v11=true then
  some 14
 else
  some 0
def cO (aa:ar) (n3:Int):Option (Int⊕Int):=
 if n3 < (aa.cr.length:Int) then
  (idx aa.cr n3).bind fun v4=>
  if (!(fh v4.xM))=true then
   cN aa n3 v4 true
  else
   if (!(fh v4.oq))=true then
    cN aa n3 v4 true
   else
    (fi v4.xM v4.oq).bind fun v7=>
    cN aa n3 v4 (decide (0 < v7))
 else
  ac .inr (gh aa)
def iQ (aa:ar) (n3:Int):Option Int:=
 iter (fun x:Int=>cO aa x) n3
def eU (aa:ar):Option Int:=
 if 20 < (aa.cr.length:Int) then
  some 2
 else
  iQ aa 0
def cE (n9:Int) (c12:Bool):Option (Int⊕(Int⊕Int)):=
 if c12=true then
  ac .inr (ac .inr (some 7))
 else
  some (.inl (bA (n9+1)))
def gi (n2:Int) (v3:ar):Option (Int⊕Int):=
 (eU v3).bind fun rq=>
 if rq≠0 then
  ac .inr (some rq)
 else
  if (du v3.ec 1 1000000000)=true then
   ac .inr (some 1)
  else
   some (.inl (bA (n2+1)))
def bV (n2:Int) (v3:ar) (n9:Int):Option (Int⊕(Int⊕Int)):=
 if n9 < (v3.jU.length:Int) then
  (idx v3.jU n9).bind fun v10=>
  (jX v10).bind fun v11=>
  if (!v11)=true then
   ac .inr (ac .inr (some 5))
  else
   if 0 < n9 then
    (idx v3.jU (bA (n9 - 1))).bind fun oZ=>
    cE n9 (Op.bytesLess v10 oZ||v10==oZ)
   else
    cE n9 false
 else
  ac .inr (gi n2 v3)
def iR (n2:Int) (v3:ar) (n9:Int):Option (Int⊕Int):=
 iter (fun x:Int=>bV n2 v3 x) n9
def db (n2:Int) (v3:ar) (c5:Bool):Option (Int⊕Int):=
 if c5=true then
  ac .inr (some 7)
 else
  if (v3.jU.length:Int)=0 then
   ac .inr (some 3)
  else
   if 20 < (v3.jU.length:Int) then
    ac .inr (some 2)
   else
    iR n2 v3 0
def eI (aa:List ar) (n2:Int):Option (Int⊕Int):=
 if n2 < (aa.length:Int) then
  (idx aa n2).bind fun v3=>
  if (!(fh v3.Version))=true then
   ac .inr (some 1)
  else
   if 0 < n2 then
    (idx aa (bA (n2 - 1))).bind fun v6=>
    (fi v3.Version v6.Version).bind fun v7=>
    db n2 v3 (decide (v7≤0))
   else
    db n2 v3 false
 else
  ac .inr (some 0)
def lH (aa:List ar) (n2:Int):Option Int:=
 iter (fun x:Int=>eI aa x) n2
def cK (aa:List ar):Option Int:=
 if 200 < (aa.length:Int) then
  some 2
 else
  lH aa 0
def dv (n2:Int) (v3:DeviceS) (c9:Bool):Option (Int⊕Int):=
 if c9=true then
  ac .inr (some 7)
 else
  if (!(fh v3.bB))=true then
   ac .inr (some 1)
  else
   if 20 < (v3.I4.length:Int) then
    ac .inr (some 2)
   else
    some (.inl (bA (n2+1)))
def ee (aa:List DeviceS) (n2:Int) (v3:DeviceS) (c5:Bool):Option (Int⊕Int):=
 if c5=true then
  ac .inr (some 5)
 else
  if 0 < n2 then
   (idx aa (bA (n2 - 1))).bind fun v10=>
   dv n2 v3 (Op.bytesLess v3.Key v10.Key||v3.Key==v10.Key)
  else
   dv n2 v3 false
def dw (aa:List DeviceS) (n2:Int):Option (Int⊕Int):=
 if n2 < (aa.length:Int) then
  (idx aa n2).bind fun v3=>
  (jX v3.Key).bind fun v6=>
  if (!v6)=true then
   ee aa n2 v3 true
  else
   (jX v3.Model).bind fun v7=>
   if (!v7)=true then
    ee aa n2 v3 true
   else
    (jX v3.yj).bind fun v8=>
    ee aa n2 v3 (!v8)
 else
  ac .inr (some 0)
def po (aa:List DeviceS) (n2:Int):Option Int:=
 iter (fun x:Int=>dw aa x) n2
def gH (aa:List DeviceS):Option Int:=
 if 500 < (aa.length:Int) then
  some 2
 else
  po aa 0
def qN (aa:List Int) (n2:Int):Option (Int⊕Int):=
 if n2 < (aa.length:Int) then
  (idx aa n2).bind fun v3=>
  if v3≠0 then
   ac .inr (some v3)
  else
   some (.inl (bA (n2+1)))
 else
  ac .inr (some 0)
def Dx (aa:List Int) (n2:Int):Option Int:=
 iter (fun x:Int=>qN aa x) n2
def qo (aa:List Int):Option Int:=
 Dx aa 0
def pq (c2:Bool):Bool:=
 c2
def ry (aa:lF):Bool:=
 pq ((!(du aa.cr 0 aa.To))&&(decide (aa.To≤345686400000)))
def nH (n4:Int) (v5:bq) (n9 n10:Int):Option ((Int×Int)⊕((Int×Int)⊕Int)):=
 if n10 < (v5.length:Int) then
  (idx v5 n10).bind fun Dv=>
  some (.inl (IntKind.u64.wrap ((yb .u64 n9 (IntKind.u64.wrap ((Dv.toNat:Int)))) * 1099511628211),bA (n10+1)))
 else
  ac .inr (some (.inl (n9,bA (n4+1))))
def sq (n4:Int) (v5:bq) (n9 n10:Int):Option ((Int×Int)⊕Int):=
 iter (fun x:Int×Int=>nH n4 v5 x.1 x.2) (n9,n10)
def nI (n4:Int) (v5:bq) (n6:Int):Option ((Int×Int)⊕Int):=
 sq n4 v5 n6 0
def mj (aa:List bq) (n3 n4:Int):Option ((Int×Int)⊕Int):=
 if n4 < (aa.length:Int) then
  (idx aa n4).bind fun v5=>
  if 0 < n4 then
   nI n4 v5 (IntKind.u64.wrap (n3 * 1099511628211))
  else
   nI n4 v5 n3
 else
  ac .inr (some n3)
def y5 (aa:List bq) (n3 n4:Int):Option Int:=
 iter (fun x:Int×Int=>mj aa x.1 x.2) (n3,n4)
def uF (aa:List bq):Option Int:=
 y5 aa 14695981039346656037 0
def ml (aa:Campaign) (ai:bq):Option Int:=
 (uF [aa.Key,ai]).bind fun v1=>
 some (bA ((yb .u64 v1 (B9 .u64 v1 32)).tmod 1000))
def iu (aa:Campaign) (v1 n4 n5:Int):Option ((Int×Int)⊕Int):=
 if n5 < (aa.aG.length:Int) then
  (idx aa.aG n5).bind fun v6=>
  if v1 < (bA (n4+v6.Part)) then
   ac .inr (some n5)
  else
   some (.inl (bA (n4+v6.Part),bA (n5+1)))
 else
  ac .inr (some (bA ((aa.aG.length:Int) - 1)))
def j0 (aa:Campaign) (v1 n4 n5:Int):Option Int:=
 iter (fun x:Int×Int=>iu aa v1 x.1 x.2) (n4,n5)
def ff (aa:Campaign) (ai:bq):Option Int:=
 (ml aa ai).bind fun v1=>
 j0 aa v1 0 0
def bZ (aa:ao) (ai:aj):Bool:=
 decide (ai.ah.Version=aa.c_.Target)
def iM (ja:List aj) (rO AK:List (bq×Int)) (n26:Int) (jV:DeviceS) (v33:Int) (qh:List Int):Option (((List aj)×(List (bq×Int))×(List (bq×Int))×(List Int)×Int)⊕ao):=
 some (.inl (ja++[(⟨(⟨0,0,jV.bB,0⟩:ah),(⟨0,0,0⟩:Version)⟩:aj)],dX rO jV.Key (ja.length:Int),dX AK jV.Key v33,qh,bA (n26+1)))
def gj (aa:Campaign) (ai:List DeviceS) (l8 l10:List Int) (ja:List aj) (rO AK:List (bq×Int)) (sJ:List Int) (n26:Int):Option (((List aj)×(List (bq×Int))×(List (bq×Int))×(List Int)×Int)⊕ao):=
 if n26 < (ai.length:Int) then
  (idx ai n26).bind fun jV=>
  (Tl ja.length (rO.map Prod.snd)).bind fun u30=>
  (ff aa jV.Key).bind fun v33=>
  (nU AK jV.Key 0).bind fun J9=>
  if (!(bZ (⟨aa,dX rO jV.Key (ja.length:Int),dX AK jV.Key v33,sJ,l8,l10,[],(-1:Int),aa.At,ja++[(⟨(⟨0,0,jV.bB,0⟩:ah),(⟨0,0,0⟩:Version)⟩:aj)]⟩:ao) (⟨(⟨0,0,jV.bB,0⟩:ah),(⟨0,0,0⟩:Version)⟩:aj)))=true then
   (nU (dX AK jV.Key v33) jV.Key 0).bind fun Qx=>
   (idx sJ Qx).bind fun v37=>
   (idx sJ Qx).bind fun zG=>
   iM ja rO AK n26 jV v33 (sJ.set Qx.toNat (bA (v37+1)))
  else
   iM ja rO AK n26 jV v33 sJ
 else
  ac .inr (some (⟨aa,rO,AK,sJ,l8,l10,[],(-1:Int),aa.At,ja⟩:ao))
def kP (aa:Campaign) (ai:List DeviceS) (l8 l10:List Int) (ja:List aj) (rO AK:List (bq×Int)) (sJ:List Int) (n26:Int):Option ao:=
 iter (fun x:(List aj)×(List (bq×Int))×(List (bq×Int))×(List Int)×Int=>gj aa ai l8 l10 x.1 x.2.1 x.2.2.1 x.2.2.2.1 x.2.2.2.2) (ja,rO,AK,sJ,n26)
def dM (aa:Campaign) (ai:List DeviceS):Option ao:=
 (L1 0 (aa.aG.length:Int) (aa.aG.length:Int)).bind fun l6=>
 (L1 0 (aa.aG.length:Int) (aa.aG.length:Int)).bind fun l8=>
 (L1 0 (aa.aG.length:Int) (aa.aG.length:Int)).bind fun l10=>
 kP aa ai l8 l10 [] [] [] l6 0
def cF (sb:List Int) (n17:Int):Option (((List Int)×Int)⊕ao):=
 some (.inl (sb,n17))
def cG (aa:ao) (l5:List Int) (n10:Int) (sb:List Int) (V5:Bool):Option (((List Int)×Int)⊕ao):=
 if V5=true then
  (idx aa.c_.aG (bA ((l5.length:Int)+1))).bind fun Lk=>
  cF sb (bA (n10+Lk.oo))
 else
  cF sb (-1:Int)
def eJ (aa:ao) (l5:List Int) (n10:Int) (c12:Bool):Option (((List Int)×Int)⊕ao):=
 if c12=true then
  ac .inr (some (⟨aa.c_,aa.kM,aa.cj,aa.open_,aa.ba,aa.aO,l5,aa.aQ,n10,aa.iA⟩:ao))
 else
  (app l5 [n10]).bind fun sb=>
  if (bA ((l5.length:Int)+1)) < (aa.c_.aG.length:Int) then
   (idx aa.open_ (l5.length:Int)).bind fun Cw=>
   cG aa l5 n10 sb (decide (Cw=0))
  else
   cG aa l5 n10 sb false
def bJ (aa:ao) (ai:Int) (l5:List Int) (n10:Int):Option (((List Int)×Int)⊕ao):=
 eJ aa l5 n10 ((decide (n10 < 0))||((decide (ai < n10))||((decide (0 < (l5.length:Int)))&&((decide (0≤aa.aQ))&&(decide (aa.aQ≤n10))))))
def bE (aa:ao) (ai:Int) (l5:List Int) (n6:Int) (c7:Bool):Option (((List Int)×Int)⊕ao):=
 if c7=true then
  (idx aa.c_.aG (l5.length:Int)).bind fun v11=>
  bJ aa ai l5 (bA (ai+v11.oo))
 else
  bJ aa ai l5 n6
def bF (aa:ao) (ai:Int) (l5:List Int) (n6:Int):Option (((List Int)×Int)⊕ao):=
 if n6 < 0 then
  if 0 < (l5.length:Int) then
   if (l5.length:Int) < (aa.c_.aG.length:Int) then
    (idx aa.open_ (bA ((l5.length:Int) - 1))).bind fun v8=>
    if v8=0 then
     (idx l5 (bA ((l5.length:Int) - 1))).bind fun v9=>
     bE aa ai l5 n6 (decide (v9≤ai))
    else
     bE aa ai l5 n6 false
   else
    bE aa ai l5 n6 false
  else
   bE aa ai l5 n6 false
 else
  bE aa ai l5 n6 false
def iS (aa:ao) (ai:Int) (l5:List Int) (n6:Int):Option ao:=
 iter (fun x:(List Int)×Int=>bF aa ai x.1 x.2) (l5,n6)
def bD (aa:ao) (ai:Int):Option ao:=
 iS aa ai aa.aE aa.bM
def cu (aa:List bq) (ai:bq) (n2:Int):Option (Int⊕Int):=
 if n2 < (aa.length:Int) then
  (idx aa n2).bind fun v3=>
  if ai=v3 then
   ac .inr (some n2)
  else
   some (.inl (bA (n2+1)))
 else
  ac .inr (some (-1:Int))
def cL (aa:List bq) (ai:bq) (n2:Int):Option Int:=
 iter (fun x:Int=>cu aa ai x) n2
def eV (aa:List bq) (ai:bq):Option Int:=
 cL aa ai 0
def bL (aa:List bq) (ai:bq):Option Bool:=
 (eV aa ai).bind fun v1=>
 some (decide (0≤v1))
def lx (c1:Bool):Bool:=
 c1
def ly (c2:Bool):Bool:=
 c2
def jJ (aa:Campaign) (ai aL:Int):Bool:=
 if aa.bb.cr < aa.bb.To then
  lx ((decide (aa.bb.cr≤((bA (((bA (aL+ai)).tmod 86400000)+86400000)).tmod 86400000)))&&(decide (((bA (((bA (aL+ai)).tmod 86400000)+86400000)).tmod 86400000) < aa.bb.To)))
 else
  if aa.bb.To < aa.bb.cr then
   ly ((decide (aa.bb.cr≤((bA (((bA (aL+ai)).tmod 86400000)+86400000)).tmod 86400000)))||(decide (((bA (((bA (aL+ai)).tmod 86400000)+86400000)).tmod 86400000) < aa.bb.To)))
  else
   true
def nJ (c1:Bool):Bool:=
 c1
def ot (aa:aj):Bool:=
 nJ ((decide (aa.ah.Kind=1))||(decide (aa.ah.Kind=2)))
def ki (c1:Bool):Bool:=
 c1
def cQ (aa:ao) (ai:aj):Bool:=
 ki ((!(bZ aa ai))&&((decide (3≤ai.ah.ct))||(decide (ai.ah.Kind=5))))
def cX (aa ai:DeviceS) (aL:ao):Option Int:=
 (nU aL.cj aa.Key 0).bind fun v3=>
 (nU aL.cj ai.Key 0).bind fun v4=>
 (ml aL.c_ aa.Key).bind fun v5=>
 (ml aL.c_ ai.Key).bind fun v6=>
 (jY [(cmp_Compare_int v3 v4),(cmp_Compare_int v5 v6),(Lib.compareBytes aa.Key ai.Key)]).bind fun v7=>
 some v7
def fH (aa:List DeviceS) (jb:DeviceS→DeviceS→Option Int):Option (List DeviceS):=
 Ce jb aa
def iT (n7:Int) (BE:List ar):Option (((List ar)×Int)⊕(List ar)):=
 some (.inl (BE,bA (n7+1)))
def iU (l6:List ar) (n7:Int) (v9:ar) (Dv:Bool):Option (((List ar)×Int)⊕(List ar)):=
 if Dv=true then
  (app l6 [v9]).bind fun BF=>
  iT n7 BF
 else
  iT n7 l6
def eC (aa:List ar) (ai:bq) (aL:Version) (l6:List ar) (n7:Int):Option (((List ar)×Int)⊕(List ar)):=
 if n7 < (aa.length:Int) then
  (idx aa n7).bind fun v9=>
  (bL v9.jU ai).bind fun v12=>
  if v12=true then
   (jd v9 aL).bind fun oZ=>
   iU l6 n7 v9 oZ
  else
   iU l6 n7 v9 false
 else
  ac .inr (some l6)
def tG (aa:List ar) (ai:bq) (aL:Version) (l6:List ar) (n7:Int):Option (List ar):=
 iter (fun x:(List ar)×Int=>eC aa ai aL x.1 x.2) (l6,n7)
def j4 (aa:List ar) (ai:bq) (aL:Version):Option (List ar):=
 tG aa ai aL [] 0
def je (aa ai:ak):Option Int:=
 (jY [(cmp_Compare_int aa.bR ai.bR),(cmp_Compare_int aa.bK ai.bK)]).bind fun v3=>
 some v3
def kQ (n7:Int) (sb:List ar):Option (((List ar)×Int)⊕(List (Version×ak))):=
 some (.inl (sb,bA (n7+1)))
def gu (n52:Int) (c59:Bool) (n60 n61:Int) (V6:Bool):Option ((Bool×Int×Int×Bool×Int)⊕(((List (Version×ak))×Bool×Int)⊕(((List (Version×ak))×Bool)⊕(List (Version×ak))))):=
 some (.inl (c59,n60,n61,V6,bA (n52+1)))
def fI (Ei:Bool) (n49 n50:Int) (c51:Bool) (n52:Int) (v53:ar) (v55:ak×Bool) (V7:Bool):Option ((Bool×Int×Int×Bool×Int)⊕(((List (Version×ak))×Bool×Int)⊕(((List (Version×ak))×Bool)⊕(List (Version×ak))))):=
 if V7=true then
  gu n52 true (bA (v55.1.bR+1)) (bA (v55.1.bK+v53.ec)) true
 else
  gu n52 Ei n49 n50 c51
def kR (n37:Int) (Ei:Bool) (Ej:List (Version×ak)):Option (((List (Version×ak))×Bool×Int)⊕(((List (Version×ak))×Bool)⊕(List (Version×ak)))):=
 some (.inl (Ej,Ei,bA (n37+1)))
def mU (qh:List (Version×ak)) (n37:Int) (zG:ar) (Ei:Bool) (n49 n50:Int) (c51:Bool):Option (((List (Version×ak))×Bool×Int)⊕(((List (Version×ak))×Bool)⊕(List (Version×ak)))):=
 if c51=true then
  kR n37 Ei (dX qh zG.Version (⟨n49,n50⟩:ak))
 else
  kR n37 Ei qh
def eD (qh:List (Version×ak)) (n37:Int) (zG:ar) (I5:List ar) (Ei:Bool) (n49 n50:Int) (c51:Bool) (n52:Int):Option ((Bool×Int×Int×Bool×Int)⊕(((List (Version×ak))×Bool×Int)⊕(((List (Version×ak))×Bool)⊕(List (Version×ak))))):=
 if n52 < (I5.length:Int) then
  (idx I5 n52).bind fun v53=>
  (sU qh v53.Version (⟨0,0⟩:ak)).bind fun v55=>
  if v55.2=true then
   if (!c51)=true then
    fI Ei n49 n50 c51 n52 v53 v55 true
   else
    (je (⟨bA (v55.1.bR+1),bA (v55.1.bK+v53.ec)⟩:ak) (⟨n49,n50⟩:ak)).bind fun v58=>
    fI Ei n49 n50 c51 n52 v53 v55 (decide (v58 < 0))
  else
   fI Ei n49 n50 c51 n52 v53 v55 false
 else
  ac .inr (mU qh n37 zG Ei n49 n50 c51)
def pr (qh:List (Version×ak)) (n37:Int) (zG:ar) (I5:List ar) (Ei:Bool) (n49 n50:Int) (c51:Bool) (n52:Int):Option (((List (Version×ak))×Bool×Int)⊕(((List (Version×ak))×Bool)⊕(List (Version×ak)))):=
 iter (fun x:Bool×Int×Int×Bool×Int=>eD qh n37 zG I5 x.1 x.2.1 x.2.2.1 x.2.2.2.1 x.2.2.2.2) (Ei,n49,n50,c51,n52)
def iV (l6:List ar) (ja:List (List ar)) (qh:List (Version×ak)) (UP:Bool) (n37:Int):Option (((List (Version×ak))×Bool×Int)⊕(((List (Version×ak))×Bool)⊕(List (Version×ak)))):=
 if n37 < (l6.length:Int) then
  (idx l6 n37).bind fun zG=>
  (sU qh zG.Version (⟨0,0⟩:ak)).bind fun v40=>
  (idx ja n37).bind fun I5=>
  pr qh n37 zG I5 UP v40.1.bR v40.1.bK v40.2 0
 else
  ac .inr (some (.inl (qh,UP)))
def pt (l6:List ar) (ja:List (List ar)) (qh:List (Version×ak)) (UP:Bool) (n37:Int):Option (((List (Version×ak))×Bool)⊕(List (Version×ak))):=
 iter (fun x:(List (Version×ak))×Bool×Int=>iV l6 ja x.1 x.2.1 x.2.2) (qh,UP,n37)
def kS (l6:List ar) (ja:List (List ar)) (R3:List (Version×ak)) (c31:Bool):Option (((List (Version×ak))×Bool)⊕(List (Version×ak))):=
 if c31=true then
  pt l6 ja R3 false 0
 else
  ac .inr (some R3)
def pv (l6:List ar) (ja:List (List ar)) (R3:List (Version×ak)) (c31:Bool):Option (List (Version×ak)):=
 iter (fun x:(List (Version×ak))×Bool=>kS l6 ja x.1 x.2) (R3,c31)
def iW (ai:bq) (aL:Version) (l6:List ar) (ja:List (List ar)) (n21:Int):Option (((List (List ar))×Int)⊕(List (Version×ak))):=
 if n21 < (l6.length:Int) then
  (idx l6 n21).bind fun v22=>
  (j4 l6 ai v22.Version).bind fun v24=>
  (idx ja n21).bind fun v26=>
  some (.inl (ja.set n21.toNat v24,bA (n21+1)))
 else
  ac .inr (pv l6 ja (dX ([]:List (Version×ak)) aL (⟨0,0⟩:ak)) true)
def tH (ai:bq) (aL:Version) (l6:List ar) (ja:List (List ar)) (n21:Int):Option (List (Version×ak)):=
 iter (fun x:(List (List ar))×Int=>iW ai aL l6 x.1 x.2) (ja,n21)
def kT (ai:bq) (aL:Version) (l6:List ar):Option (List (Version×ak)):=
 (L1 ([]:List ar) (l6.length:Int) (l6.length:Int)).bind fun BF=>
 tH ai aL l6 BF 0
def eE (aa:List ar) (ai:bq) (aL:Version) (l6:List ar) (n7:Int):Option (((List ar)×Int)⊕(List (Version×ak))):=
 if n7 < (aa.length:Int) then
  (idx aa n7).bind fun v9=>
  (bL v9.jU ai).bind fun v11=>
  if v11=true then
   (app l6 [v9]).bind fun yk=>
   kQ n7 yk
  else
   kQ n7 l6
 else
  ac .inr (kT ai aL l6)
def tI (aa:List ar) (ai:bq) (aL:Version) (l6:List ar) (n7:Int):Option (List (Version×ak)):=
 iter (fun x:(List ar)×Int=>eE aa ai aL x.1 x.2) (l6,n7)
def lI (aa:List ar) (ai:bq) (aL:Version):Option (List (Version×ak)):=
 tI aa ai aL [] 0
def kj (n34 n41 n42 n43 n44 n45:Int) (c46:Bool):Option ((Int×Int×Int×Int×Int×Bool×Int)⊕(((List Version)×Int×Int×Int)⊕((List Version)×Bool))):=
 some (.inl (n41,n42,n43,n44,n45,c46,bA (n34+1)))
def il (n28 n29 n30 n31 n32:Int) (xF:Bool) (n34:Int) (v35:ar) (v37:ak×Bool) (Nv:Bool):Option ((Int×Int×Int×Int×Int×Bool×Int)⊕(((List Version)×Int×Int×Int)⊕((List Version)×Bool))):=
 if Nv=true then
  kj n34 v35.Version.ax v35.Version.aA v35.Version.aC (bA (v37.1.bR+1)) (bA (v37.1.bK+v35.ec)) true
 else
  kj n34 n28 n29 n30 n31 n32 xF
def qk (jM:List Version) (n28 n29 n30:Int) (xF:Bool):Option (((List Version)×Int×Int×Int)⊕((List Version)×Bool)):=
 if (!xF)=true then
  ac .inr (some ([],false))
 else
  (app jM [(⟨n28,n29,n30⟩:Version)]).bind fun Pf=>
  some (.inl (Pf,n28,n29,n30))
def ko (cA:List (Version×ak)) (jM:List Version) (kG:(List ar)) (n28 n29 n30 n31 n32:Int) (xF:Bool) (n34:Int):Option ((Int×Int×Int×Int×Int×Bool×Int)⊕(((List Version)×Int×Int×Int)⊕((List Version)×Bool))):=
 if n34 < (kG.length:Int) then
  (idx kG n34).bind fun v35=>
  (sU cA v35.Version (⟨0,0⟩:ak)).bind fun v37=>
  if v37.2=true then
   if (!xF)=true then
    il n28 n29 n30 n31 n32 xF n34 v35 v37 true
   else
    (je (⟨bA (v37.1.bR+1),bA (v37.1.bK+v35.ec)⟩:ak) (⟨n31,n32⟩:ak)).bind fun v40=>
    il n28 n29 n30 n31 n32 xF n34 v35 v37 (decide (v40 < 0))
  else
   il n28 n29 n30 n31 n32 xF n34 v35 v37 false
 else
  ac .inr (qk jM n28 n29 n30 xF)
def vN (cA:List (Version×ak)) (jM:List Version) (kG:(List ar)) (n28 n29 n30 n31 n32:Int) (xF:Bool) (n34:Int):Option (((List Version)×Int×Int×Int)⊕((List Version)×Bool)):=
 iter (fun x:Int×Int×Int×Int×Int×Bool×Int=>ko cA jM kG x.1 x.2.1 x.2.2.1 x.2.2.2.1 x.2.2.2.2.1 x.2.2.2.2.2.1 x.2.2.2.2.2.2) (n28,n29,n30,n31,n32,xF,n34)
def kp (aa:List ar) (ai:bq) (bu:Version) (cA:List (Version×ak)) (jM:List Version) (n13 n14 n15:Int):Option (((List Version)×Int×Int×Int)⊕((List Version)×Bool)):=
 if (⟨n13,n14,n15⟩:Version)≠bu then
  (j4 aa ai (⟨n13,n14,n15⟩:Version)).bind fun kG=>
  vN cA jM kG 0 0 0 0 0 false 0
 else
  ac .inr (some (jM,true))
def vO (aa:List ar) (ai:bq) (bu:Version) (cA:List (Version×ak)) (jM:List Version) (n13 n14 n15:Int):Option ((List Version)×Bool):=
 iter (fun x:(List Version)×Int×Int×Int=>kp aa ai bu cA x.1 x.2.1 x.2.2.1 x.2.2.2) (jM,n13,n14,n15)
def j6 (aa:List ar) (ai:bq) (aL bu:Version) (cA:List (Version×ak)):Option ((List Version)×Bool):=
 vO aa ai bu cA [] aL.ax aL.aA aL.aC
def jf (n34 n41 n42 n43 n44 n45:Int) (c46:Bool):Option ((Int×Int×Int×Int×Int×Bool×Int)⊕(((List Version)×Int×Int×Int)⊕((List Version)×Bool))):=
 some (.inl (n41,n42,n43,n44,n45,c46,bA (n34+1)))
def gQ (n28 n29 n30 n31 n32:Int) (xF:Bool) (n34:Int) (v35:ar) (v37:ak×Bool) (Nv:Bool):Option ((Int×Int×Int×Int×Int×Bool×Int)⊕(((List Version)×Int×Int×Int)⊕((List Version)×Bool))):=
 if Nv=true then
  jf n34 v35.Version.ax v35.Version.aA v35.Version.aC (bA (v37.1.bR+1)) (bA (v37.1.bK+v35.ec)) true
 else
  jf n34 n28 n29 n30 n31 n32 xF
def mC (jM:List Version) (n28 n29 n30:Int) (xF:Bool):Option (((List Version)×Int×Int×Int)⊕((List Version)×Bool)):=
 if (!xF)=true then
  ac .inr (some ([],false))
 else
  (app jM [(⟨n28,n29,n30⟩:Version)]).bind fun xN=>
  some (.inl (xN,n28,n29,n30))
def fW (cA:List (Version×ak)) (jM:List Version) (kG:(List ar)) (n28 n29 n30 n31 n32:Int) (xF:Bool) (n34:Int):Option ((Int×Int×Int×Int×Int×Bool×Int)⊕(((List Version)×Int×Int×Int)⊕((List Version)×Bool))):=
 if n34 < (kG.length:Int) then
  (idx kG n34).bind fun v35=>
  (sU cA v35.Version (⟨0,0⟩:ak)).bind fun v37=>
  if v37.2=true then
   if (!xF)=true then
    gQ n28 n29 n30 n31 n32 xF n34 v35 v37 true
   else
    (je (⟨bA (v37.1.bR+1),bA (v37.1.bK+v35.ec)⟩:ak) (⟨n31,n32⟩:ak)).bind fun v40=>
    gQ n28 n29 n30 n31 n32 xF n34 v35 v37 (decide (v40 < 0))
  else
   gQ n28 n29 n30 n31 n32 xF n34 v35 v37 false
 else
  ac .inr (mC jM n28 n29 n30 xF)
def vA (cA:List (Version×ak)) (jM:List Version) (kG:(List ar)) (n28 n29 n30 n31 n32:Int) (xF:Bool) (n34:Int):Option (((List Version)×Int×Int×Int)⊕((List Version)×Bool)):=
 iter (fun x:Int×Int×Int×Int×Int×Bool×Int=>fW cA jM kG x.1 x.2.1 x.2.2.1 x.2.2.2.1 x.2.2.2.2.1 x.2.2.2.2.2.1 x.2.2.2.2.2.2) (n28,n29,n30,n31,n32,xF,n34)
def cS (aa:List ar) (ai:bq) (bu:Version) (cA:List (Version×ak)) (jM:List Version) (n13 n14 n15:Int):Option (((List Version)×Int×Int×Int)⊕((List Version)×Bool)):=
 if (⟨n13,n14,n15⟩:Version)≠bu then
  (j4 aa ai (⟨n13,n14,n15⟩:Version)).bind fun kG=>
  vA cA jM kG 0 0 0 0 0 false 0
 else
  ac .inr (some (jM,true))
def gR (aa:List ar) (ai:bq) (bu:Version) (cA:List (Version×ak)) (jM:List Version) (n13 n14 n15:Int):Option ((List Version)×Bool):=
 iter (fun x:(List Version)×Int×Int×Int=>cS aa ai bu cA x.1 x.2.1 x.2.2.1 x.2.2.2) (jM,n13,n14,n15)
def kU (aa:List ar) (ai:bq) (aL bu:Version) (cA:List (Version×ak)):Option ((List Version)×Bool):=
 gR aa ai bu cA [] aL.ax aL.aA aL.aC
def dx (aa:ar) (ai:List Version):Option Bool:=
 (idx ai 0).bind fun v2=>
 some (decide (aa.Version=v2))
def eO (aa:List ar) (jb:ar→Option Bool) (n2:Int):Option (Int⊕Int):=
 if n2 < (aa.length:Int) then
  (idx aa n2).bind fun v3=>
  (jb v3).bind fun v4=>
  if v4=true then
   ac .inr (some n2)
  else
   some (.inl (bA (n2+1)))
 else
  ac .inr (some (-1:Int))
def qa (aa:List ar) (jb:ar→Option Bool) (n2:Int):Option Int:=
 iter (fun x:Int=>eO aa jb x) n2
def cT (aa:List ar) (jb:ar→Option Bool):Option Int:=
 qa aa jb 0
def jr (aa:aM) (ai:bq) (v4:(List (Version×ak))) (v6:(List Version)×Bool) (c8:Bool):Option (ar×Bool×aM):=
 if c8=true then
  some ((⟨(⟨0,0,0⟩:Version),[],[],0⟩:ar),false,(⟨aa.mi,aa.Cv,dX aa.eT ai v4⟩:aM))
 else
  (cT aa.mi (fun y0=>dx y0 v6.1)).bind fun v9=>
  (idx aa.mi v9).bind fun v10=>
  some (v10,true,(⟨aa.mi,aa.Cv,dX aa.eT ai v4⟩:aM))
def js (aa:aM) (v11:(List Version)×Bool) (Ts:Bool):Option (ar×Bool×aM):=
 if Ts=true then
  some ((⟨(⟨0,0,0⟩:Version),[],[],0⟩:ar),false,aa)
 else
  (cT aa.mi (fun y0=>dx y0 v11.1)).bind fun rq=>
  (idx aa.mi rq).bind fun zH=>
  some (zH,true,aa)
def gI (aa:aM) (ai:bq) (aL:Version):Option (ar×Bool×aM):=
 yf (bj aa.eT ai) (
  (lI aa.mi ai aa.Cv).bind fun v4=>
  (j6 aa.mi ai aL aa.Cv v4).bind fun v6=>
  jr aa ai v4 v6 ((!v6.2)||(decide ((v6.1.length:Int)=0)))) (fun m3=>
  (j6 aa.mi ai aL aa.Cv m3).bind fun v11=>
  js aa v11 ((!v11.2)||(decide ((v11.1.length:Int)=0))))
def er (n11 n17:Int) (Dh:List DeviceS):Option ((Int×(List DeviceS)×Int)⊕((List eo)×aM)):=
 some (.inl (n17,Dh,bA (n11+1)))
def fQ (n8 n11:Int) (rO:List DeviceS):Option ((Int×(List DeviceS)×Int)⊕((List eo)×aM)):=
 er n11 n8 rO
def iB (n8:Int) (l10:List DeviceS) (n11:Int) (oZ:DeviceS) (c20:Bool):Option ((Int×(List DeviceS)×Int)⊕((List eo)×aM)):=
 if c20=true then
  (app l10 [oZ]).bind fun AK=>
  fQ n8 n11 AK
 else
  fQ n8 n11 l10
def iC (AJ:List ar) (n28 n29 n30:Int) (Tt:List (bq×(List (Version×ak)))) (Qy:List eo):Option ((List eo)×aM):=
 some (Qy,(⟨AJ,(⟨n28,n29,n30⟩:Version),Tt⟩:aM))
def fR (n49:Int) (v55:ar×Bool×aM) (UQ:List eo):Option (((List ar)×Int×Int×Int×(List (bq×(List (Version×ak))))×(List eo)×Int)⊕((List eo)×aM)):=
 some (.inl (v55.2.2.mi,v55.2.2.Cv.ax,v55.2.2.Cv.aA,v55.2.2.Cv.aC,v55.2.2.eT,UQ,bA (n49+1)))
def dA (aa:ao) (n8:Int) (v26:(List DeviceS)) (L4:List ar) (n43 n44 n45:Int) (Ia:List (bq×(List (Version×ak)))) (xN:List eo) (n49:Int):Option (((List ar)×Int×Int×Int×(List (bq×(List (Version×ak))))×(List eo)×Int)⊕((List eo)×aM)):=
 if n49 < (v26.length:Int) then
  (idx v26 n49).bind fun v51=>
  if n8≤(xN.length:Int) then
   ac .inr (iC L4 n43 n44 n45 Ia xN)
  else
   (bj aa.kM v51.Key).bind fun n53=>
   (idx aa.iA n53).bind fun v54=>
   (gI (⟨L4,(⟨n43,n44,n45⟩:Version),Ia⟩:aM) v51.Model v54.ah.Version).bind fun v55=>
   if v55.2.1=true then
    (app xN [(⟨v51.Key,v55.1.Version,v55.1.ec⟩:eo)]).bind fun BG=>
    fR n49 v55 BG
   else
    fR n49 v55 xN
 else
  ac .inr (iC L4 n43 n44 n45 Ia xN)
def fS (aa:ao) (n8:Int) (v26:(List DeviceS)) (L4:List ar) (n43 n44 n45:Int) (Ia:List (bq×(List (Version×ak)))) (xN:List eo) (n49:Int):Option ((List eo)×aM):=
 iter (fun x:(List ar)×Int×Int×Int×(List (bq×(List (Version×ak))))×(List eo)×Int=>dA aa n8 v26 x.1 x.2.1 x.2.2.1 x.2.2.2.1 x.2.2.2.2.1 x.2.2.2.2.2.1 x.2.2.2.2.2.2) (L4,n43,n44,n45,Ia,xN,n49)
def fT (aa:ao) (ai:aM) (n8:Int) (l10:List DeviceS):Option ((List eo)×aM):=
 (ph l10.length (fun r:(List DeviceS)=>r.length) (fH l10 (fun y0 y1=>cX y0 y1 aa))).bind fun v26=>
 fS aa n8 v26 ai.mi ai.Cv.ax ai.Cv.aA ai.Cv.aC ai.eT [] 0
def et (aa:ao) (ai:aM) (aL:List DeviceS) (n8:Int) (l10:List DeviceS) (n11:Int):Option ((Int×(List DeviceS)×Int)⊕((List eo)×aM)):=
 if n11 < (aL.length:Int) then
  (idx aL n11).bind fun oZ=>
  yf (bj aa.kM oZ.Key) (
   none) (fun n15=>
   (idx aa.iA n15).bind fun Cw=>
   if (ot Cw)=true then
    er n11 (bA (n8 - 1)) l10
   else
    (nU aa.cj oZ.Key 0).bind fun v21=>
    iB n8 l10 n11 oZ ((decide (v21 < (aa.aE.length:Int)))&&((!(bZ aa Cw))&&(!(cQ aa Cw)))))
 else
  ac .inr (fT aa ai n8 l10)
def lh (aa:ao) (ai:aM) (aL:List DeviceS) (n8:Int) (l10:List DeviceS) (n11:Int):Option ((List eo)×aM):=
 iter (fun x:Int×(List DeviceS)×Int=>et aa ai aL x.1 x.2.1 x.2.2) (n8,l10,n11)
def iD (aa:ao) (ai:aM) (aL:List DeviceS) (c2:Bool):Option ((List eo)×aM):=
 if c2=true then
  some ([],ai)
 else
  lh aa ai aL aa.c_.Room [] 0
def iq (aa:ao) (ai:aM) (aL:List DeviceS) (bu cA:Int):Option ((List eo)×aM):=
 iD aa ai aL ((decide (0≤aa.aQ))||(!(jJ aa.c_ bu cA)))
def fJ (aa ai:MarkS):Option Int:=
 (jY [(cmp_Compare_int aa.At ai.At),(Lib.compareBytes aa.Device ai.Device)]).bind fun v3=>
 some v3
def dU (aa:List MarkS) (jb:MarkS→MarkS→Option Int):Option (List MarkS):=
 Ce jb aa
def fj (n6:Int) (yk:List MarkS):Option (((List MarkS)×Int)⊕((List MarkS)×aM)):=
 some (.inl (yk,bA (n6+1)))
def fk (cA:Int) (l5:List MarkS) (n6:Int) (v8:DeviceS) (v11:aj) (n16:Int):Option (((List MarkS)×Int)⊕((List MarkS)×aM)):=
 (app l5 [(⟨cA,v8.Key,n16,v11.aN⟩:MarkS)]).bind fun ud=>
 fj n6 ud
def gw (n6:Int) (ja:List MarkS):Option (((List MarkS)×Int)⊕((List MarkS)×aM)):=
 fj n6 ja
def fo (v23:(List eo)×aM) (Qz:List MarkS):Option ((List MarkS)×aM):=
 (ph Qz.length (fun r:(List MarkS)=>r.length) (dU Qz (fun y0 y1=>fJ y0 y1))).bind fun v35=>
 some (v35,v23.2)
def fp (cA:Int) (v23:(List eo)×aM) (Qz:List MarkS) (n30:Int):Option (((List MarkS)×Int)⊕((List MarkS)×aM)):=
 if n30 < (v23.1.length:Int) then
  (idx v23.1 n30).bind fun v31=>
  (app Qz [(⟨cA,v31.Device,1,v31.Version⟩:MarkS)]).bind fun Qy=>
  some (.inl (Qy,bA (n30+1)))
 else
  ac .inr (fo v23 Qz)
def jt (cA:Int) (v23:(List eo)×aM) (Qz:List MarkS) (n30:Int):Option ((List MarkS)×aM):=
 iter (fun x:(List MarkS)×Int=>fp cA v23 x.1 x.2) (Qz,n30)
def gx (aa:ao) (ai:aM) (aL:List DeviceS) (cA:Int) (l5:List MarkS):Option ((List MarkS)×aM):=
 (iq aa ai aL 0 cA).bind fun v23=>
 jt cA v23 l5 0
def fq (aa:ao) (ai:aM) (aL:List DeviceS) (bu:List bq) (cA:Int) (l5:List MarkS) (n6:Int):Option (((List MarkS)×Int)⊕((List MarkS)×aM)):=
 if n6 < (aL.length:Int) then
  (idx aL n6).bind fun v8=>
  yf (bj aa.kM v8.Key) (
   none) (fun n10=>
   (idx aa.iA n10).bind fun v11=>
   if v11.ah.Kind=2 then
    (bL bu v8.Key).bind fun zH=>
    if zH=true then
     fk cA l5 n6 v8 v11 4
    else
     fk cA l5 n6 v8 v11 3
   else
    if v11.ah.Kind=1 then
     (app l5 [(⟨cA,v8.Key,2,v11.aN⟩:MarkS)]).bind fun uG=>
     gw n6 uG
    else
     gw n6 l5)
 else
  ac .inr (gx aa ai aL cA l5)
def mn (aa:ao) (ai:aM) (aL:List DeviceS) (bu:List bq) (cA:Int) (l5:List MarkS) (n6:Int):Option ((List MarkS)×aM):=
 iter (fun x:(List MarkS)×Int=>fq aa ai aL bu cA x.1 x.2) (l5,n6)
def gJ (aa:ao) (ai:aM) (aL:List DeviceS) (bu:List bq) (cA:Int):Option ((List MarkS)×aM):=
 mn aa ai aL bu cA [] 0
def fD (ai:MarkS) (n8 n9 n10 n11:Int):Bool×aj:=
 (true,(⟨(⟨ai.Kind,ai.At,(⟨n8,n9,n10⟩:Version),n11⟩:ah),ai.Version⟩:aj))
def fE (aa:aj) (ai:MarkS) (n12:Int):Bool×aj:=
 fD ai aa.ah.Version.ax aa.ah.Version.aA aa.ah.Version.aC n12
def dV (aa:aj) (ai:MarkS) (c2:Bool):Bool×aj:=
 if (!c2)=true then
  (false,aa)
 else
  if ai.Kind=3 then
   fD ai ai.Version.ax ai.Version.aA ai.Version.aC aa.ah.ct
  else
   if ai.Kind=4 then
    fE aa ai (bA (aa.ah.ct+1))
   else
    fE aa ai aa.ah.ct
def gY (aa:aj) (ai:MarkS) (c3:Bool):Bool×aj:=
 dV aa ai c3
def fF (aa:aj) (ai:MarkS) (c5:Bool):Bool×aj:=
 dV aa ai c5
def gZ (aa:aj) (ai:MarkS) (c6:Bool):Bool×aj:=
 fF aa ai c6
def ia (aa:aj) (ai:MarkS) (c7:Bool):Bool×aj:=
 fF aa ai c7
def fG (aa:aj) (ai:MarkS) (c4:Bool):Bool×aj:=
 if c4=true then
  gZ aa ai ((decide (aa.ah.Kind=1))&&(decide (ai.Version=aa.aN)))
 else
  ia aa ai ((decide (aa.ah.Kind=2))&&(decide (ai.Version=aa.aN)))
def au (aa:aj) (ai:MarkS):Bool×aj:=
 if ai.Kind=1 then
  gY aa ai ((decide (aa.ah.Kind=0))||((decide (aa.ah.Kind=3))||(decide (aa.ah.Kind=4))))
 else
  if ai.Kind=2 then
   fG aa ai (decide (ai.Kind=2))
  else
   fG aa ai (decide (ai.Kind=5))
def ju (aa:ao) (ai:MarkS) (c3:Bool):Option ao:=
 if c3=true then
  some aa
 else
  (nU aa.cj ai.Device 0).bind fun v4=>
  none
def gl (aa:ao) (ai:MarkS) (n2 v6:Int) (v9:aj) (yl:List Int) (kG:Int) (uG:List Int) (n30:Int):Option ao:=
 some (⟨aa.c_,aa.kM,aa.cj,yl,aa.ba.set v6.toNat (bA (kG+1)),uG,aa.aE,n30,aa.bM,aa.iA.set n2.toNat ((au v9 ai).2)⟩:ao)
def ef (aa:ao) (ai:MarkS) (n2 v6:Int) (v9:aj) (yl:List Int) (kG:Int) (uG:List Int) (V8:Bool):Option ao:=
 if V8=true then
  gl aa ai n2 v6 v9 yl kG uG ai.At
 else
  gl aa ai n2 v6 v9 yl kG uG aa.aQ
def ft (aa:ao) (ai:MarkS) (n2 v6:Int) (v9:aj) (yl:List Int) (kG:Int) (uG:List Int):Option ao:=
 (idx aa.c_.aG v6).bind fun v24=>
 if aa.aQ < 0 then
  (idx (aa.ba.set v6.toNat (bA (kG+1))) v6).bind fun jV=>
  if v24.pk≤jV then
   (idx uG v6).bind fun v28=>
   (idx (aa.ba.set v6.toNat (bA (kG+1))) v6).bind fun yZ=>
   ef aa ai n2 v6 v9 yl kG uG (decide ((bA (v24.ct * yZ)) < (bA (1000 * v28))))
  else
   ef aa ai n2 v6 v9 yl kG uG false
 else
  ef aa ai n2 v6 v9 yl kG uG false
def jv (aa:ao) (ai:MarkS) (n2 v6:Int) (v9:aj) (yl:List Int) (V9:Bool):Option ao:=
 if V9=true then
  some (⟨aa.c_,aa.kM,aa.cj,yl,aa.ba,aa.aO,aa.aE,aa.aQ,aa.bM,aa.iA.set n2.toNat ((au v9 ai).2)⟩:ao)
 else
  (idx aa.ba v6).bind fun kG=>
  (idx aa.ba v6).bind fun v20=>
  if ai.Kind=4 then
   (idx aa.aO v6).bind fun v22=>
   (idx aa.aO v6).bind fun v23=>
   ft aa ai n2 v6 v9 yl kG (aa.aO.set v6.toNat (bA (v22+1)))
  else
   ft aa ai n2 v6 v9 yl kG aa.aO
def fu (aa:ao) (ai:MarkS) (n2 v6:Int) (v9:aj) (yl:List Int):Option ao:=
 jv aa ai n2 v6 v9 yl ((decide (ai.Kind≠3))&&(decide (ai.Kind≠4)))
def gy (aa:ao) (ai:MarkS) (n2 v6:Int) (v9:aj) (sb:List Int):Option ao:=
 fu aa ai n2 v6 v9 sb
def jw (aa:ao) (ai:MarkS) (n2 v6:Int) (c7:Bool) (v9:aj) (Dv:Bool):Option ao:=
 if (Dv !=c7)=true then
  if Dv=true then
   (idx aa.open_ v6).bind fun rq=>
   (idx aa.open_ v6).bind fun zH=>
   gy aa ai n2 v6 v9 (aa.open_.set v6.toNat (bA (rq - 1)))
  else
   (idx aa.open_ v6).bind fun Cw=>
   (idx aa.open_ v6).bind fun v17=>
   gy aa ai n2 v6 v9 (aa.open_.set v6.toNat (bA (Cw+1)))
 else
  fu aa ai n2 v6 v9 aa.open_
def jx (aa:ao) (ai:MarkS) (n2 v6:Int) (c7:Bool):Option ao:=
 (idx aa.iA n2).bind fun v9=>
 if (!((au v9 ai).1))=true then
  some (⟨aa.c_,aa.kM,aa.cj,aa.open_,aa.ba,aa.aO,aa.aE,aa.aQ,aa.bM,aa.iA.set n2.toNat ((au v9 ai).2)⟩:ao)
 else
  jw aa ai n2 v6 c7 v9 ((bZ (⟨aa.c_,aa.kM,aa.cj,aa.open_,aa.ba,aa.aO,aa.aE,aa.aQ,aa.bM,aa.iA.set n2.toNat ((au v9 ai).2)⟩:ao) ((au v9 ai).2))||(cQ (⟨aa.c_,aa.kM,aa.cj,aa.open_,aa.ba,aa.aO,aa.aE,aa.aQ,aa.bM,aa.iA.set n2.toNat ((au v9 ai).2)⟩:ao) ((au v9 ai).2)))
def gz (aa:ao) (ai:MarkS) (n2:Int) (c5:Bool):Option ao:=
 if c5=true then
  some aa
 else
  (nU aa.cj ai.Device 0).bind fun v6=>
  (idx aa.iA n2).bind fun v8=>
  jx aa ai n2 v6 ((bZ aa v8)||(cQ aa v8))
def cx (aa:ao) (ai:MarkS):Option ao:=
 yf (bj aa.kM ai.Device) (
  ju aa ai ((!false)||(decide (ai.At < aa.c_.At)))) (fun n2=>
  gz aa ai n2 ((!true)||(decide (ai.At < aa.c_.At))))
def nK (aa:Campaign) (bu n69:Int) (v76:(List MarkS)×aM) (Ib:List MarkS) (QA:List (bq×Int)) (QB:List aj) (QC:List (bq×Int)) (Ha Hb Hc Hd:List Int) (n108 n109:Int):Option (((List (bq×Int))×(List aj)×(List (bq×Int))×(List Int)×(List Int)×(List Int)×(List Int)×Int×Int×(List ar)×Int×Int×Int×(List (bq×(List (Version×ak))))×(List MarkS)×Int)⊕((List MarkS)×Int)):=
 (bD (⟨aa,QA,QC,Ha,Hb,Hc,Hd,n108,n109,QB⟩:ao) n69).bind fun I6=>
 some (.inl (QA,QB,QC,I6.open_,I6.ba,I6.aO,I6.aE,I6.aQ,I6.bM,v76.2.mi,v76.2.Cv.ax,v76.2.Cv.aA,v76.2.Cv.aC,v76.2.eT,Ib,bA (n69+bu)))
def jK (aa:Campaign) (bu n69:Int) (v76:(List MarkS)×aM) (Ib:List MarkS) (QA:List (bq×Int)) (QB:List aj) (QC:List (bq×Int)) (Ha Hb Hc Hd:List Int) (n108 n109 n110:Int):Option (((List (bq×Int))×(List aj)×(List (bq×Int))×(List Int)×(List Int)×(List Int)×(List Int)×Int×Int×Int)⊕(((List (bq×Int))×(List aj)×(List (bq×Int))×(List Int)×(List Int)×(List Int)×(List Int)×Int×Int×(List ar)×Int×Int×Int×(List (bq×(List (Version×ak))))×(List MarkS)×Int)⊕((List MarkS)×Int))):=
 if n110 < (v76.1.length:Int) then
  (idx v76.1 n110).bind fun Wa=>
  (cx (⟨aa,QA,QC,Ha,Hb,Hc,Hd,n108,n109,QB⟩:ao) Wa).bind fun Dy=>
  some (.inl (Dy.kM,Dy.iA,Dy.cj,Dy.open_,Dy.ba,Dy.aO,Dy.aE,Dy.aQ,Dy.bM,bA (n110+1)))
 else
  ac .inr (nK aa bu n69 v76 Ib QA QB QC Ha Hb Hc Hd n108 n109)
def nL (aa:Campaign) (bu n69:Int) (v76:(List MarkS)×aM) (Ib:List MarkS) (QA:List (bq×Int)) (QB:List aj) (QC:List (bq×Int)) (Ha Hb Hc Hd:List Int) (n108 n109 n110:Int):Option (((List (bq×Int))×(List aj)×(List (bq×Int))×(List Int)×(List Int)×(List Int)×(List Int)×Int×Int×(List ar)×Int×Int×Int×(List (bq×(List (Version×ak))))×(List MarkS)×Int)⊕((List MarkS)×Int)):=
 iter (fun x:(List (bq×Int))×(List aj)×(List (bq×Int))×(List Int)×(List Int)×(List Int)×(List Int)×Int×Int×Int=>jK aa bu n69 v76 Ib x.1 x.2.1 x.2.2.1 x.2.2.2.1 x.2.2.2.2.1 x.2.2.2.2.2.1 x.2.2.2.2.2.2.1 x.2.2.2.2.2.2.2.1 x.2.2.2.2.2.2.2.2.1 x.2.2.2.2.2.2.2.2.2) (QA,QB,QC,Ha,Hb,Hc,Hd,n108,n109,n110)
def jL (aa:Campaign) (aL:List DeviceS) (bu:Int) (cA:List bq) (sr:lF) (xN:List (bq×Int)) (Tu:List aj) (Tv:List (bq×Int)) (J8 Ek Em BG:List Int) (n60 n61:Int) (Wb:List ar) (Wc Wd We:Int) (Wf:List (bq×(List (Version×ak)))) (UR:List MarkS) (n69:Int):Option (((List (bq×Int))×(List aj)×(List (bq×Int))×(List Int)×(List Int)×(List Int)×(List Int)×Int×Int×(List ar)×Int×Int×Int×(List (bq×(List (Version×ak))))×(List MarkS)×Int)⊕((List MarkS)×Int)):=
 if n69 < sr.To then
  (bD (⟨aa,xN,Tv,J8,Ek,Em,BG,n60,n61,Tu⟩:ao) n69).bind fun Ic=>
  (gJ (⟨aa,xN,Tv,Ic.open_,Ic.ba,Ic.aO,Ic.aE,Ic.aQ,Ic.bM,Tu⟩:ao) (⟨Wb,(⟨Wc,Wd,We⟩:Version),Wf⟩:aM) aL cA n69).bind fun v76=>
  (app UR v76.1).bind fun Ib=>
  if 3000 < (Ib.length:Int) then
   ac .inr (some ([],2))
  else
   nL aa bu n69 v76 Ib xN Tu Tv Ic.open_ Ic.ba Ic.aO Ic.aE Ic.aQ Ic.bM 0
 else
  ac .inr (some (UR,0))
def nM (aa:Campaign) (aL:List DeviceS) (bu:Int) (cA:List bq) (sr:lF) (xN:List (bq×Int)) (Tu:List aj) (Tv:List (bq×Int)) (J8 Ek Em BG:List Int) (n60 n61:Int) (Wb:List ar) (Wc Wd We:Int) (Wf:List (bq×(List (Version×ak)))) (UR:List MarkS) (n69:Int):Option ((List MarkS)×Int):=
 iter (fun x:(List (bq×Int))×(List aj)×(List (bq×Int))×(List Int)×(List Int)×(List Int)×(List Int)×Int×Int×(List ar)×Int×Int×Int×(List (bq×(List (Version×ak))))×(List MarkS)×Int=>jL aa aL bu cA sr x.1 x.2.1 x.2.2.1 x.2.2.2.1 x.2.2.2.2.1 x.2.2.2.2.2.1 x.2.2.2.2.2.2.1 x.2.2.2.2.2.2.2.1 x.2.2.2.2.2.2.2.2.1 x.2.2.2.2.2.2.2.2.2.1 x.2.2.2.2.2.2.2.2.2.2.1 x.2.2.2.2.2.2.2.2.2.2.2.1 x.2.2.2.2.2.2.2.2.2.2.2.2.1 x.2.2.2.2.2.2.2.2.2.2.2.2.2.1 x.2.2.2.2.2.2.2.2.2.2.2.2.2.2.1 x.2.2.2.2.2.2.2.2.2.2.2.2.2.2.2) (xN,Tu,Tv,J8,Ek,Em,BG,n60,n61,Wb,Wc,Wd,We,Wf,UR,n69)
def lJ (aa:Campaign) (ai:List ar) (aL:List DeviceS) (bu:Int) (cA:List bq) (sr:lF) (Nu:Bool):Option ((List MarkS)×Int):=
 if Nu=true then
  some ([],1)
 else
  (dM aa aL).bind fun oZ=>
  nM aa aL bu cA sr oZ.kM oZ.iA oZ.cj oZ.open_ oZ.ba oZ.aO oZ.aE oZ.aQ oZ.bM ai aa.Target.ax aa.Target.aA aa.Target.aC [] [] sr.cr
def mI (aa:Campaign) (ai:List ar) (aL:List DeviceS) (bu:Int) (cA:List bq) (sr:lF):Option ((List MarkS)×Int):=
 (bH aa).bind fun v3=>
 (cK ai).bind fun v4=>
 (gH aL).bind fun v5=>
 (qo [v3,v4,v5]).bind fun v6=>
 if v6≠0 then
  some ([],v6)
 else
  if (du bu 1 2592000000)=true then
   some ([],1)
  else
   if 500 < (cA.length:Int) then
    some ([],2)
   else
    if (!(ry sr))=true then
     lJ aa ai aL bu cA sr true
    else
     (quo (bA ((bA ((bA (sr.To - sr.cr))+bu)) - 1)) bu).bind fun n11=>
     lJ aa ai aL bu cA sr (decide (500 < n11))
def gA (n2:Int) (c6:Bool):Option (Int⊕Int):=
 if c6=true then
  ac .inr (some 7)
 else
  some (.inl (bA (n2+1)))
def dz (aa:List MarkS) (n2:Int):Option (Int⊕Int):=
 if n2 < (aa.length:Int) then
  (idx aa n2).bind fun v3=>
  if (!(jE v3.At))=true then
   ac .inr (some 1)
  else
   (jX v3.Device).bind fun v5=>
   if (!v5)=true then
    ac .inr (some 5)
   else
    if (du v3.Kind 1 5)=true then
     ac .inr (some 4)
    else
     if (!(fh v3.Version))=true then
      ac .inr (some 1)
     else
      if 0 < n2 then
       (idx aa (bA (n2 - 1))).bind fun v7=>
       (fJ v3 v7).bind fun v8=>
       gA n2 (decide (v8≤0))
      else
       gA n2 false
 else
  ac .inr (some 0)
def pz (aa:List MarkS) (n2:Int):Option Int:=
 iter (fun x:Int=>dz aa x) n2
def jk (aa:List MarkS):Option Int:=
 if 3000 < (aa.length:Int) then
  some 2
 else
  pz aa 0
def kV (n6:Int):Option Int:=
 some n6
def mV (v4:Int) (c5:Bool):Option Int:=
 if c5=true then
  kV 1
 else
  kV v4
def j7 (aa:Campaign) (ai:List DeviceS) (aL:List MarkS) (bu:Int):Option Int:=
 (bH aa).bind fun v1=>
 (gH ai).bind fun v2=>
 (jk aL).bind fun v3=>
 (qo [v1,v2,v3]).bind fun v4=>
 mV v4 ((decide (v4=0))&&(!(jE bu)))
def lK (aa:ao) (v33:MarkS) (F4:List (bq×Int)) (Ek:List aj) (Em:List (bq×Int)) (BG Ka Ej Kb:List Int) (Ll Lm n68:Int):Option (((List (bq×Int))×(List aj)×(List (bq×Int))×(List Int)×(List Int)×(List Int)×(List Int)×Int×Int×Int)⊕ao):=
 (bD (⟨aa.c_,F4,Em,BG,Ka,Ej,Kb,Ll,Lm,Ek⟩:ao) v33.At).bind fun v78=>
 some (.inl (F4,Ek,Em,v78.open_,v78.ba,v78.aO,v78.aE,v78.aQ,v78.bM,n68))
def dI (aa:ao) (ai:List MarkS) (v33:MarkS) (F4:List (bq×Int)) (Ek:List aj) (Em:List (bq×Int)) (BG Ka Ej Kb:List Int) (Ll Lm n68:Int) (Wg:Bool):Option (((List (bq×Int))×(List aj)×(List (bq×Int))×(List Int)×(List Int)×(List Int)×(List Int)×Int×Int×Int)⊕(((List (bq×Int))×(List aj)×(List (bq×Int))×(List Int)×(List Int)×(List Int)×(List Int)×Int×Int×Int)⊕ao)):=
 if Wg=true then
  (idx ai n68).bind fun Ic=>
  (cx (⟨aa.c_,F4,Em,BG,Ka,Ej,Kb,Ll,Lm,Ek⟩:ao) Ic).bind fun v72=>
  some (.inl (v72.kM,v72.iA,v72.cj,v72.open_,v72.ba,v72.aO,v72.aE,v72.aQ,v72.bM,bA (n68+1)))
 else
  ac .inr (lK aa v33 F4 Ek Em BG Ka Ej Kb Ll Lm n68)
def gm (aa:ao) (ai:List MarkS) (v33:MarkS) (F4:List (bq×Int)) (Ek:List aj) (Em:List (bq×Int)) (BG Ka Ej Kb:List Int) (Ll Lm n68:Int):Option (((List (bq×Int))×(List aj)×(List (bq×Int))×(List Int)×(List Int)×(List Int)×(List Int)×Int×Int×Int)⊕(((List (bq×Int))×(List aj)×(List (bq×Int))×(List Int)×(List Int)×(List Int)×(List Int)×Int×Int×Int)⊕ao)):=
 if n68 < (ai.length:Int) then
  (idx ai n68).bind fun v70=>
  dI aa ai v33 F4 Ek Em BG Ka Ej Kb Ll Lm n68 (decide (v70.At=v33.At))
 else
  dI aa ai v33 F4 Ek Em BG Ka Ej Kb Ll Lm n68 false
def oV (aa:ao) (ai:List MarkS) (v33:MarkS) (F4:List (bq×Int)) (Ek:List aj) (Em:List (bq×Int)) (BG Ka Ej Kb:List Int) (Ll Lm n68:Int):Option (((List (bq×Int))×(List aj)×(List (bq×Int))×(List Int)×(List Int)×(List Int)×(List Int)×Int×Int×Int)⊕ao):=
 iter (fun x:(List (bq×Int))×(List aj)×(List (bq×Int))×(List Int)×(List Int)×(List Int)×(List Int)×Int×Int×Int=>gm aa ai v33 x.1 x.2.1 x.2.2.1 x.2.2.2.1 x.2.2.2.2.1 x.2.2.2.2.2.1 x.2.2.2.2.2.2.1 x.2.2.2.2.2.2.2.1 x.2.2.2.2.2.2.2.2.1 x.2.2.2.2.2.2.2.2.2) (F4,Ek,Em,BG,Ka,Ej,Kb,Ll,Lm,n68)
def lL (aa:ao) (aL:Int) (BF:List (bq×Int)) (ud:List aj) (Dh:List (bq×Int)) (uG rO sJ AJ:List Int) (n28 n29:Int):Option ao:=
 (bD (⟨aa.c_,BF,Dh,uG,rO,sJ,AJ,n28,n29,ud⟩:ao) aL).bind fun Tw=>
 some (⟨aa.c_,BF,Dh,Tw.open_,Tw.ba,Tw.aO,Tw.aE,Tw.aQ,Tw.bM,ud⟩:ao)
def dJ (aa:ao) (ai:List MarkS) (aL:Int) (BF:List (bq×Int)) (ud:List aj) (Dh:List (bq×Int)) (uG rO sJ AJ:List Int) (n28 n29 n30:Int) (c31:Bool):Option (((List (bq×Int))×(List aj)×(List (bq×Int))×(List Int)×(List Int)×(List Int)×(List Int)×Int×Int×Int)⊕ao):=
 if c31=true then
  (idx ai n30).bind fun v33=>
  (bD (⟨aa.c_,BF,Dh,uG,rO,sJ,AJ,n28,n29,ud⟩:ao) (bA (v33.At - 1))).bind fun J9=>
  oV aa ai v33 BF ud Dh J9.open_ J9.ba J9.aO J9.aE J9.aQ J9.bM n30
 else
  ac .inr (lL aa aL BF ud Dh uG rO sJ AJ n28 n29)
def eK (aa:ao) (ai:List MarkS) (aL:Int) (BF:List (bq×Int)) (ud:List aj) (Dh:List (bq×Int)) (uG rO sJ AJ:List Int) (n28 n29 n30:Int):Option (((List (bq×Int))×(List aj)×(List (bq×Int))×(List Int)×(List Int)×(List Int)×(List Int)×Int×Int×Int)⊕ao):=
 if n30 < (ai.length:Int) then
  (idx ai n30).bind fun v32=>
  dJ aa ai aL BF ud Dh uG rO sJ AJ n28 n29 n30 (decide (v32.At≤aL))
 else
  dJ aa ai aL BF ud Dh uG rO sJ AJ n28 n29 n30 false
def oW (aa:ao) (ai:List MarkS) (aL:Int) (BF:List (bq×Int)) (ud:List aj) (Dh:List (bq×Int)) (uG rO sJ AJ:List Int) (n28 n29 n30:Int):Option ao:=
 iter (fun x:(List (bq×Int))×(List aj)×(List (bq×Int))×(List Int)×(List Int)×(List Int)×(List Int)×Int×Int×Int=>eK aa ai aL x.1 x.2.1 x.2.2.1 x.2.2.2.1 x.2.2.2.2.1 x.2.2.2.2.2.1 x.2.2.2.2.2.2.1 x.2.2.2.2.2.2.2.1 x.2.2.2.2.2.2.2.2.1 x.2.2.2.2.2.2.2.2.2) (BF,ud,Dh,uG,rO,sJ,AJ,n28,n29,n30)
def eW (aa:ao) (ai:List MarkS) (aL:Int):Option ao:=
 oW aa ai aL aa.kM aa.iA aa.cj aa.open_ aa.ba aa.aO aa.aE aa.aQ aa.bM 0
def iv (aa:Campaign) (ai:List DeviceS) (aL:List MarkS) (bu:Int):Option (Int×Int):=
 (j7 aa ai aL bu).bind fun v2=>
 if v2≠0 then
  some (0,v2)
 else
  (dM aa ai).bind fun v3=>
  (eW (⟨aa,v3.kM,v3.cj,v3.open_,v3.ba,v3.aO,v3.aE,v3.aQ,v3.bM,v3.iA⟩:ao) aL bu).bind fun rq=>
  some (rq.aQ,0)
def jg (aa:Campaign) (ai:List DeviceS) (aL:List MarkS) (bu:Int):Option ((List Int)×Int):=
 (j7 aa ai aL bu).bind fun v2=>
 if v2≠0 then
  some ([],v2)
 else
  (dM aa ai).bind fun v4=>
  (eW (⟨aa,v4.kM,v4.cj,v4.open_,v4.ba,v4.aO,v4.aE,v4.aQ,v4.bM,v4.iA⟩:ao) aL bu).bind fun zH=>
  some (zH.aE,0)
def mJ (aa:Campaign) (ai:bq):Option (Int×Int):=
 (bH aa).bind fun v2=>
 if v2≠0 then
  some (0,v2)
 else
  (jX ai).bind fun v3=>
  if (!v3)=true then
   some (0,5)
  else
   (ff aa ai).bind fun v4=>
   some (v4,0)
def dF (aa:Version):Int:=
 if (!(fh aa))=true then
  1
 else
  0
def eh (aL:List Version) (n4:Int):Option (Int⊕Int):=
 if n4 < (aL.length:Int) then
  (idx aL n4).bind fun v5=>
  if (dF v5)≠0 then
   ac .inr (some (dF v5))
  else
   some (.inl (bA (n4+1)))
 else
  ac .inr (some 0)
def pB (aL:List Version) (n4:Int):Option Int:=
 iter (fun x:Int=>eh aL x) n4
def jl (aa:List ar) (ai:bq) (aL:List Version):Option Int:=
 (cK aa).bind fun v1=>
 if v1≠0 then
  some v1
 else
  (jX ai).bind fun v2=>
  if (!v2)=true then
   some 5
  else
   pB aL 0
def pC (aa:List ar) (ai:bq) (aL bu:Version):Option ((List Version)×Int):=
 (jl aa ai [aL,bu]).bind fun v3=>
 if v3≠0 then
  some ([],v3)
 else
  (lI aa ai bu).bind fun v5=>
  (kU aa ai aL bu v5).bind fun v7=>
  if (!v7.2)=true then
   some ([],8)
  else
   some (v7.1,0)
def j9 (n25 n29 n30 n31 n32 n33 n34 n35 n36 n37:Int):Option ((Int×Int×Int×Int×Int×Int×Int×Int×Int×Int)⊕(ah×Int)):=
 some (.inl (n29,n30,n31,n32,n33,n34,n35,n36,n37,bA (n25+1)))
def mo (n16 n17 n18 n19 n20 n21 n22 n23 n24 n25:Int) (v26:MarkS) (c28:Bool):Option ((Int×Int×Int×Int×Int×Int×Int×Int×Int×Int)⊕(ah×Int)):=
 if c28=true then
  j9 n25 (((au (⟨(⟨n16,n17,(⟨n18,n19,n20⟩:Version),n21⟩:ah),(⟨n22,n23,n24⟩:Version)⟩:aj) v26).2).ah.Kind) (((au (⟨(⟨n16,n17,(⟨n18,n19,n20⟩:Version),n21⟩:ah),(⟨n22,n23,n24⟩:Version)⟩:aj) v26).2).ah.Since) (((au (⟨(⟨n16,n17,(⟨n18,n19,n20⟩:Version),n21⟩:ah),(⟨n22,n23,n24⟩:Version)⟩:aj) v26).2).ah.Version.ax) (((au (⟨(⟨n16,n17,(⟨n18,n19,n20⟩:Version),n21⟩:ah),(⟨n22,n23,n24⟩:Version)⟩:aj) v26).2).ah.Version.aA) (((au (⟨(⟨n16,n17,(⟨n18,n19,n20⟩:Version),n21⟩:ah),(⟨n22,n23,n24⟩:Version)⟩:aj) v26).2).ah.Version.aC) (((au (⟨(⟨n16,n17,(⟨n18,n19,n20⟩:Version),n21⟩:ah),(⟨n22,n23,n24⟩:Version)⟩:aj) v26).2).ah.ct) (((au (⟨(⟨n16,n17,(⟨n18,n19,n20⟩:Version),n21⟩:ah),(⟨n22,n23,n24⟩:Version)⟩:aj) v26).2).aN.ax) (((au (⟨(⟨n16,n17,(⟨n18,n19,n20⟩:Version),n21⟩:ah),(⟨n22,n23,n24⟩:Version)⟩:aj) v26).2).aN.aA) (((au (⟨(⟨n16,n17,(⟨n18,n19,n20⟩:Version),n21⟩:ah),(⟨n22,n23,n24⟩:Version)⟩:aj) v26).2).aN.aC)
 else
  j9 n25 n16 n17 n18 n19 n20 n21 n22 n23 n24
def iw (aa:Campaign) (ai:DeviceS) (aL:List MarkS) (bu n16 n17 n18 n19 n20 n21 n22 n23 n24 n25:Int):Option ((Int×Int×Int×Int×Int×Int×Int×Int×Int×Int)⊕(ah×Int)):=
 if n25 < (aL.length:Int) then
  (idx aL n25).bind fun v26=>
  mo n16 n17 n18 n19 n20 n21 n22 n23 n24 n25 v26 ((decide (v26.Device=ai.Key))&&((decide (aa.At≤v26.At))&&(decide (v26.At≤bu))))
 else
  ac .inr (some ((⟨n16,n17,(⟨n18,n19,n20⟩:Version),n21⟩:ah),0))
def mq (aa:Campaign) (ai:DeviceS) (aL:List MarkS) (bu n16 n17 n18 n19 n20 n21 n22 n23 n24 n25:Int):Option (ah×Int):=
 iter (fun x:Int×Int×Int×Int×Int×Int×Int×Int×Int×Int=>iw aa ai aL bu x.1 x.2.1 x.2.2.1 x.2.2.2.1 x.2.2.2.2.1 x.2.2.2.2.2.1 x.2.2.2.2.2.2.1 x.2.2.2.2.2.2.2.1 x.2.2.2.2.2.2.2.2.1 x.2.2.2.2.2.2.2.2.2) (n16,n17,n18,n19,n20,n21,n22,n23,n24,n25)
def kH (aa:Campaign) (ai:DeviceS) (aL:List MarkS) (bu:Int):Option (ah×Int):=
 (j7 aa [ai] aL bu).bind fun v4=>
 if v4≠0 then
  some ((⟨0,0,(⟨0,0,0⟩:Version),0⟩:ah),v4)
 else
  mq aa ai aL bu 0 0 ai.bB.ax ai.bB.aA ai.bB.aC 0 0 0 0 0
def rR (aa ai:cP):Option Int:=
 (jY [(Lib.compareBytes aa.Device ai.Device),(Lib.compareBytes aa.pn ai.pn),(cmp_Compare_int aa.At ai.At)]).bind fun v3=>
 some v3
def oG (n2:Int) (c9:Bool):Option (Int⊕Int):=
 if c9=true then
  ac .inr (some 7)
 else
  some (.inl (bA (n2+1)))
def rS (aa:List cP) (n2:Int) (v3:cP) (c8:Bool):Option (Int⊕Int):=
 if c8=true then
  ac .inr (some 1)
 else
  if 0 < n2 then
   (idx aa (bA (n2 - 1))).bind fun v10=>
   (rR v3 v10).bind fun v11=>
   oG n2 (decide (v11≤0))
  else
   oG n2 false
def oH (aa:List cP) (n2:Int) (v3:cP) (c5:Bool):Option (Int⊕Int):=
 if c5=true then
  ac .inr (some 5)
 else
  rS aa n2 v3 ((!(jE v3.At))||(du v3.Value (-1000000000:Int) 1000000000))
def kI (aa:List cP) (n2:Int):Option (Int⊕Int):=
 if n2 < (aa.length:Int) then
  (idx aa n2).bind fun v3=>
  (jX v3.Device).bind fun v6=>
  if (!v6)=true then
   oH aa n2 v3 true
  else
   (jX v3.pn).bind fun v7=>
   oH aa n2 v3 (!v7)
 else
  ac .inr (some 0)
def vB (aa:List cP) (n2:Int):Option Int:=
 iter (fun x:Int=>kI aa x) n2
def pD (aa:List cP):Option Int:=
 if 5000 < (aa.length:Int) then
  some 2
 else
  vB aa 0
def iE (c2:Bool):Option Bool:=
 some c2
def ir (aa:cP) (ai:List cP):Option Bool:=
 (idx ai 0).bind fun v3=>
 if aa.Device≠v3.Device then
  iE true
 else
  (idx ai 0).bind fun v4=>
  iE (decide (aa.pn≠v4.pn))
def de (aa:List cP) (jb:cP→Option Bool) (n2:Int):Option (Int⊕Int):=
 if n2 < (aa.length:Int) then
  (idx aa n2).bind fun v3=>
  (jb v3).bind fun v4=>
  if v4=true then
   ac .inr (some n2)
  else
   some (.inl (bA (n2+1)))
 else
  ac .inr (some (-1:Int))
def kC (aa:List cP) (jb:cP→Option Bool) (n2:Int):Option Int:=
 iter (fun x:Int=>de aa jb x) n2
def fx (aa:List cP) (jb:cP→Option Bool):Option Int:=
 kC aa jb 0
def df (aa:List cP) (jb:cP→Option Bool):Option Bool:=
 (fx aa jb).bind fun v1=>
 some (decide (0≤v1))
def ke (aa:List cP):Option Int:=
 (pD aa).bind fun v2=>
 if v2≠0 then
  some v2
 else
  (df aa (fun y0=>ir y0 aa)).bind fun v3=>
  if v3=true then
   some 13
  else
   some 0
def sc (l5:List Int) (n6:Int):Option (List Int):=
 (app l5 [IntKind.u8.wrap (n6)]).bind fun l10=>
 some l10
def jm (l5:List Int) (n6:Int):Option (((List Int)×Int)⊕(List Int)):=
 if 128≤n6 then
  (app l5 [SQ .u8 (IntKind.u8.wrap (Iz .u64 n6 127)) 128]).bind fun l8=>
  some (.inl (l8,B9 .u64 n6 7))
 else
  ac .inr (sc l5 n6)
def sd (l5:List Int) (n6:Int):Option (List Int):=
 iter (fun x:(List Int)×Int=>jm x.1 x.2) (l5,n6)
def lM (ai:Int):Option (List Int):=
 sd [] ai
def lN (aa:Int):Int:=
 if aa < 0 then
  IntKind.u64.wrap (bA ((bA ((-2:Int) * aa)) - 1))
 else
  IntKind.u64.wrap (bA (2 * aa))
def se (l5:List Int) (n6:Int):Option (List Int):=
 (app l5 [IntKind.u8.wrap (n6)]).bind fun l9=>
 some l9
def gK (l5:List Int) (n6:Int):Option (((List Int)×Int)⊕(List Int)):=
 if 128≤n6 then
  (app l5 [SQ .u8 (IntKind.u8.wrap (Iz .u64 n6 127)) 128]).bind fun l7=>
  some (.inl (l7,B9 .u64 n6 7))
 else
  ac .inr (se l5 n6)
def nY (l5:List Int) (n6:Int):Option (List Int):=
 iter (fun x:(List Int)×Int=>gK x.1 x.2) (l5,n6)
def gn (aa:List Int) (ai:Int):Option (List Int):=
 nY aa ai
def pE (n14:Int) (zH:cP) (kG:(List Int)) (n21:Int):Option (((List Int)×Int×Int×Int×Int)⊕(List Int)):=
 some (.inl (kG,zH.At,n21,zH.Value,bA (n14+1)))
def lO (aa:List cP) (l10:List Int) (n11 n12 n13 n14:Int):Option (((List Int)×Int×Int×Int×Int)⊕(List Int)):=
 if n14 < (aa.length:Int) then
  (idx aa n14).bind fun zH=>
  (gn l10 (lN (bA ((bA (zH.At - n11)) - n12)))).bind fun v17=>
  (gn v17 (lN (bA (zH.Value - n13)))).bind fun kG=>
  if 0 < n14 then
   pE n14 zH kG (bA (zH.At - n11))
  else
   pE n14 zH kG n12
 else
  ac .inr (some l10)
def wB (aa:List cP) (l10:List Int) (n11 n12 n13 n14:Int):Option (List Int):=
 iter (fun x:(List Int)×Int×Int×Int×Int=>lO aa x.1 x.2.1 x.2.2.1 x.2.2.2.1 x.2.2.2.2) (l10,n11,n12,n13,n14)
def rz (aa:List cP):Option (List Int):=
 (lM (IntKind.u64.wrap ((aa.length:Int)))).bind fun v1=>
 wB aa v1 0 0 0 0
def oX (aa:List cP):Option ((List Int)×Int):=
 (ke aa).bind fun v1=>
 if v1≠0 then
  some ([],v1)
 else
  (rz aa).bind fun v3=>
  some (v3,0)
def nj (n4:Int) (c5:Bool):Option (Int⊕(Int×Bool)):=
 if c5=true then
  ac .inr (some (0,false))
 else
  some (.inl (bA (n4+1)))
def pF (aa:bq):Option (Int×Bool):=
 (G2 aa).bind fun v8=>
 some (v8.1,v8.2)
def eZ (aa:bq) (n4:Int):Option (Int⊕(Int×Bool)):=
 if n4 < ((Lib.trimPrefix aa ([45]:bq)).length:Int) then
  (idx (Lib.trimPrefix aa ([45]:bq)) n4).bind fun c6=>
  if (c6.toNat:Int) < 48 then
   nj n4 true
  else
   (idx (Lib.trimPrefix aa ([45]:bq)) n4).bind fun c7=>
   nj n4 (decide (57 < (c7.toNat:Int)))
 else
  ac .inr (pF aa)
def sX (aa:bq) (n4:Int):Option (Int×Bool):=
 iter (fun x:Int=>eZ aa x) n4
def lP (aa:bq) (c1:Bool):Option (Int×Bool):=
 if c1=true then
  some (0,false)
 else
  sX aa 0
def rB (aa:bq) (ai:Int):Option (Int×Bool):=
 if (Lib.trimPrefix aa ([45]:bq))=([]:bq) then
  lP aa true
 else
  if ai < ((Lib.trimPrefix aa ([45]:bq)).length:Int) then
   lP aa true
  else
   (idx (Lib.trimPrefix aa ([45]:bq)) 0).bind fun c2=>
   lP aa ((decide ((c2.toNat:Int)=48))&&((decide (1 < ((Lib.trimPrefix aa ([45]:bq)).length:Int)))||(decide (((Lib.trimPrefix aa ([45]:bq)).length:Int) < (aa.length:Int)))))
def kJ (aa:List bq) (ai:Int) (l5:List Int) (n6:Int):Option (((List Int)×Int)⊕((List Int)×Bool)):=
 if n6 < (aa.length:Int) then
  (idx aa n6).bind fun v8=>
  (rB v8 ai).bind fun v9=>
  if (!v9.2)=true then
   ac .inr (some ([],false))
  else
   (app l5 [v9.1]).bind fun jM=>
   some (.inl (jM,bA (n6+1)))
 else
  ac .inr (some (l5,true))
def oI (aa:List bq) (ai:Int) (l5:List Int) (n6:Int):Option ((List Int)×Bool):=
 iter (fun x:(List Int)×Int=>kJ aa ai x.1 x.2) (l5,n6)
def pG (aa:List bq) (ai:Int):Option ((List Int)×Bool):=
 oI aa ai [] 0
def iF (v4:(List Int)×Bool) (c6:Bool):Option (Version×Int):=
 if c6=true then
  some ((⟨0,0,0⟩:Version),9)
 else
  (idx v4.1 0).bind fun v7=>
  (idx v4.1 1).bind fun v8=>
  (idx v4.1 2).bind fun v9=>
  if (!(fh (⟨v7,v8,v9⟩:Version)))=true then
   some ((⟨0,0,0⟩:Version),9)
  else
   some ((⟨v7,v8,v9⟩:Version),0)
def dG (aa:bq):Option (Version×Int):=
 (Cs aa ([46]:bq)).bind fun v2=>
 (pG v2 4).bind fun v4=>
 iF v4 ((!v4.2)||(decide ((v4.1.length:Int)≠3)))
def rU (c2:Bool):Bool:=
 c2
def su (aa:Bi):Bool:=
 rU ((!(du aa.X (-10000:Int) 10000))&&(!(du aa.Y (-10000:Int) 10000)))
def ou (aa:Bi) (ai:Int) (l8:List Int) (n9 n10:Int):Option (((List Int)×Int×Int)⊕(bq×Int)):=
 if n10 < ai then
  (quo (bA (aa.X - (-16384:Int))) (bA (n9.tdiv 2))).bind fun n12=>
  (quo (bA (aa.Y - (-16384:Int))) (bA (n9.tdiv 2))).bind fun n13=>
  (app l8 [IntKind.u8.wrap ((IntKind.u8.wrap (48+(IntKind.u8.wrap (n12.tmod 2))))+(IntKind.u8.wrap (2 * (IntKind.u8.wrap (n13.tmod 2)))))]).bind fun yk=>
  some (.inl (yk,bA (n9.tdiv 2),bA (n10+1)))
 else
  ac .inr (some (MW l8,0))
def xO (aa:Bi) (ai:Int) (l8:List Int) (n9 n10:Int):Option (bq×Int):=
 iter (fun x:(List Int)×Int×Int=>ou aa ai x.1 x.2.1 x.2.2) (l8,n9,n10)
def qO (aa:Bi) (ai:Int) (c2:Bool):Option (bq×Int):=
 if c2=true then
  some (([]:bq),1)
 else
  xO aa ai [] 32768 0
def sY (aa:Bi) (ai:Int):Option (bq×Int):=
 qO aa ai ((!(su aa))||(du ai 0 15))
def dj (aa ai:List Int) (n2:Int):Option (Int⊕Bool):=
 if n2 < (aa.length:Int) then
  (idx aa n2).bind fun v3=>
  (idx ai n2).bind fun v4=>
  if v3≠v4 then
   ac .inr (some false)
  else
   some (.inl (bA (n2+1)))
 else
  ac .inr (some true)
def nV (aa ai:List Int) (n2:Int):Option Bool:=
 iter (fun x:Int=>dj aa ai x) n2
def gB (aa ai:List Int):Option Bool:=
 if (aa.length:Int)≠(ai.length:Int) then
  some false
 else
  nV aa ai 0
def mK (c6:Bool):Option Bool:=
 some c6
def sZ:Option Bool:=
 (oX [(⟨([100]:bq),([109]:bq),1,1⟩:cP)]).bind fun v1=>
 (dG ([49,46,50,46,51]:bq)).bind fun v3=>
 (sY (⟨0,0⟩:Bi) 1).bind fun v5=>
 if v1.2=0 then
  if v3.2=0 then
   if v5.2=0 then
    (gB v1.1 [1,2,2]).bind fun v7=>
    mK (v7&&((decide (v3.1.aC=3))&&(decide (v5.1=([51]:bq)))))
   else
    mK false
  else
   mK false
 else
  mK false
def jy (n21:Int) (Tx:Bool):Option (Int⊕Bool):=
 if Tx=true then
  ac .inr (some false)
 else
  some (.inl (bA (n21+1)))
def jz (v2:Campaign×an) (v17:(List Int)×Int) (n21:Int) (v22:DeviceS) (v24:Int×Int) (v25:(List Version)×Int) (jV:ah×Int) (Wh:Bool):Option (Int⊕Bool):=
 if Wh=true then
  ac .inr (some false)
 else
  jy n21 (if v25.2=0 then if v24.1 < (v17.1.length:Int) then (decide (jV.1.Version≠v2.1.Target))||((decide (v25.2≠0))&&(decide (jV.1.Version≠v22.bB))) else (decide (v25.2≠0))&&(decide (jV.1.Version≠v22.bB)) else (decide (v25.2≠0))&&(decide (jV.1.Version≠v22.bB)))
def mr:Option Bool:=
 (sZ).bind fun v31=>
 some v31
def gC (v2:Campaign×an) (v4:(List ar)×an) (v6:(List DeviceS)×an) (jM:List iz) (rq:(List MarkS)×Int) (v17:(List Int)×Int) (n21:Int):Option (Int⊕Bool):=
 if n21 < (v6.1.length:Int) then
  (idx v6.1 n21).bind fun v22=>
  (mJ (⟨v2.1.Key,v2.1.Target,v2.1.At,jM,(⟨0,0⟩:lF),v2.1.Room⟩:Campaign) v22.Key).bind fun v24=>
  (pC v4.1 v22.Model v22.bB v2.1.Target).bind fun v25=>
  (kH (⟨v2.1.Key,v2.1.Target,v2.1.At,jM,(⟨0,0⟩:lF),v2.1.Room⟩:Campaign) v22 rq.1 (bA (v2.1.At+1500))).bind fun jV=>
  jz v2 v17 n21 v22 v24 v25 jV ((decide (v24.2≠0))||(decide (jV.2≠0)))
 else
  ac .inr (mr)
def pH (v2:Campaign×an) (v4:(List ar)×an) (v6:(List DeviceS)×an) (jM:List iz) (rq:(List MarkS)×Int) (v17:(List Int)×Int) (n21:Int):Option Bool:=
 iter (fun x:Int=>gC v2 v4 v6 jM rq v17 x) n21
def jA (v2:Campaign×an) (v4:(List ar)×an) (v6:(List DeviceS)×an) (jM:List iz) (rq:(List MarkS)×Int) (v17:(List Int)×Int) (Wi:Bool):Option Bool:=
 if Wi=true then
  some false
 else
  pH v2 v4 v6 jM rq v17 0
def jB (v2:Campaign×an) (v4:(List ar)×an) (v6:(List DeviceS)×an) (jM:List iz):Option Bool:=
 (mI (⟨v2.1.Key,v2.1.Target,v2.1.At,jM,(⟨0,0⟩:lF),v2.1.Room⟩:Campaign) v4.1 v6.1 10 ([]:List bq) (⟨v2.1.At,bA (v2.1.At+1500)⟩:lF)).bind fun rq=>
 if rq.2≠0 then
  some false
 else
  (iv (⟨v2.1.Key,v2.1.Target,v2.1.At,jM,(⟨0,0⟩:lF),v2.1.Room⟩:Campaign) v6.1 rq.1 (bA (v2.1.At+1500))).bind fun Cw=>
  (jg (⟨v2.1.Key,v2.1.Target,v2.1.At,jM,(⟨0,0⟩:lF),v2.1.Room⟩:Campaign) v6.1 rq.1 (bA (v2.1.At+1500))).bind fun v17=>
  jA v2 v4 v6 jM rq v17 ((decide (Cw.2≠0))||((decide (v17.2≠0))||(decide (Cw.1≠(-1:Int)))))
def gD (v2:Campaign×an) (v4:(List ar)×an) (v6:(List DeviceS)×an) (jM:List iz) (n12:Int):Option (((List iz)×Int)⊕Bool):=
 if n12 < (v2.1.aG.length:Int) then
  (idx jM n12).bind fun oZ=>
  some (.inl (jM.set n12.toNat (⟨oZ.Part,0,oZ.pk,oZ.ct⟩:iz),bA (n12+1)))
 else
  ac .inr (jB v2 v4 v6 jM)
def pI (v2:Campaign×an) (v4:(List ar)×an) (v6:(List DeviceS)×an) (jM:List iz) (n12:Int):Option Bool:=
 iter (fun x:(List iz)×Int=>gD v2 v4 v6 x.1 x.2) (jM,n12)
def jn (aa:List Int):Option Bool:=
 (iJ (⟨aa,0⟩:an)).bind fun v2=>
 (jW v2.2).bind fun v4=>
 (kO v4.2 4).bind fun v6=>
 pI v2 v4 v6 v2.1.aG 0
end
end Go.Beacon
