/- Plain functions that the Go functions compute, written by shal.py. -/
import Derived.Test.YthamhifbccpcpaaGreatDoorCore
set_option linter.unusedVariables false
namespace Go.Beacon
open Go Go.Eng
noncomputable section
structure ar where
 L:List Int
 at_:Int
deriving DecidableEq,Inhabited
structure Signal where
 At:Int
 Kind:Int
 Device:aI
 a8:aI
 By:aI
 aV:Int
deriving DecidableEq,Inhabited
def Signal.av (x:Signal):AV:=.agg [I x.At,I x.Kind,.str x.Device,.str x.a8,.str x.By,I x.aV]
structure au where
 bg:Int
 To:Int
deriving DecidableEq,Inhabited
def au.av (x:au):AV:=.agg [I x.bg,I x.To]
structure aq where
 aK:aI
 aN:aI
deriving DecidableEq,Inhabited
def aq.av (x:aq):AV:=.agg [.str x.aK,.str x.aN]
instance:wG aq:=⟨fun a b=>(wG.lt a.aK b.aK||(decide (a.aK=b.aK)&&(wG.lt a.aN b.aN||(decide (a.aN=b.aN)&&false))))⟩
structure ak where
 aR:aq
 az:Int
 bM:Int
 aD:List Int
 ay:Int
 eV:List au
 bC:List au
 bh:List au
 bf:List Int
 aW:List Int
deriving DecidableEq,Inhabited
structure bO where
 rJ:List (aq×Int)
 jX:List Int
 BS:List ak
deriving DecidableEq,Inhabited
structure aj where
 a8:aI
 bS:Int
 dh:Int
 bV:Int
 Time:Int
deriving DecidableEq,Inhabited
def aj.av (x:aj):AV:=.agg [.str x.a8,I x.bS,I x.dh,I x.bV,I x.Time]
structure an where
 aK:aI
 aN:aI
 bq:List Signal
 az:Int
 ay:au
deriving DecidableEq,Inhabited
structure cd where
 Event:Int
 Why:Int
deriving DecidableEq,Inhabited
def cd.av (x:cd):AV:=.agg [I x.Event,I x.Why]
structure fb where
 Device:aI
 a8:aI
 State:Int
 Since:Int
 bS:Int
 Ov:Int
deriving DecidableEq,Inhabited
def fb.av (x:fb):AV:=.agg [.str x.Device,.str x.a8,I x.State,I x.Since,I x.bS,I x.Ov]
def uN (n2:Int):Option Int:=
 some n2
def Below (ab:Int) (ah:Int):Option Int:=
 if ah < (1:Int) then
  some (0:Int)
 else
  (rem ab ah).bind fun n1=>
  if n1 < (0:Int) then
   uN (aT (n1+ah))
  else
   uN n1
def eM (ab:ar) (ah:Int):Option (Int×ar):=
 if (ab.L.length:Int)=(0:Int) then
  (Below (aT ((aT (ab.at_+(1:Int))) * (7919:Int))) ah).bind fun v1=>
  some (v1,(⟨ab.L,aT (ab.at_+(1:Int))⟩:ar))
 else
  (rem (aT ((aT (ab.at_+(1:Int))) - (1:Int))) (ab.L.length:Int)).bind fun n2=>
  (quo (aT ((aT (ab.at_+(1:Int))) - (1:Int))) (ab.L.length:Int)).bind fun n3=>
  (idx ab.L n2).bind fun v4=>
  (Below v4 (1073741824:Int)).bind fun v5=>
  (Below (aT (v5+(aT (n3 * (aT ((7919:Int)+n2)))))) ah).bind fun v6=>
  some (v6,(⟨ab.L,aT (ab.at_+(1:Int))⟩:ar))
def jf (ab:ar) (ah:Int) (aO:Int):Option (Int×ar):=
 if aO < ah then
  some (ah,ab)
 else
  (eM ab (aT ((aT (aO - ah))+(1:Int)))).bind fun v1=>
  some (aT (ah+v1.1),v1.2)
def cY (ab:ar) (ah:List Int):Option (Int×ar):=
 (eM ab (ah.length:Int)).bind fun v1=>
 (idx ah v1.1).bind fun v2=>
 some (v2,v1.2)
def jg (ab:ar) (ah:List aI):Option (aI×ar):=
 (eM ab (ah.length:Int)).bind fun v1=>
 (idx ah v1.1).bind fun v2=>
 some (v2,v1.2)
def cmp_isNaN_int (ab:Int):Bool:=
 decide (ab≠ab)
def cmp_Compare_int (ab:Int) (ah:Int):Int:=
 if (cmp_isNaN_int ab)=true then
  if (cmp_isNaN_int ah)=true then
   (0:Int)
  else
   (-1:Int)
 else
  if (cmp_isNaN_int ah)=true then
   (1:Int)
  else
   if ab < ah then
    (-1:Int)
   else
    if ah < ab then
     (1:Int)
    else
     (0:Int)
def pj (ab:List Int) (n2:Int):Option (Int⊕Int):=
 if n2 < (ab.length:Int) then
  (idx ab n2).bind fun v3=>
  if v3≠(0:Int) then
   Option.map .inr (some v3)
  else
   some (.inl (aT (n2+(1:Int))))
 else
  Option.map .inr (some (0:Int))
def BT (ab:List Int) (n2:Int):Option Int:=
 iter (fun x:Int=>pj ab x) n2
def jF (ab:List Int):Option Int:=
 BT ab (0:Int)
def iu (ab:Signal) (ah:Signal):Option Int:=
 (jF [(cmp_Compare_int ab.At ah.At),(Lib.compareBytes ab.Device ah.Device),(Lib.compareBytes ab.a8 ah.a8),(cmp_Compare_int ab.Kind ah.Kind)]).bind fun v3=>
 some v3
def cw (n4:Int) (l7:List Signal) (n8:Int) (c9:Bool):Option (((List Signal)×Int)⊕(((List Signal)×Int)⊕(List Signal))):=
 if c9=true then
  (idx l7 (aT (n8 - (1:Int)))).bind fun oO=>
  (idx l7 n8).bind fun mC=>
  (idx l7 n8).bind fun jP=>
  (idx (l7.set n8.toNat oO) (aT (n8 - (1:Int)))).bind fun oh=>
  some (.inl ((l7.set n8.toNat oO).set (aT (n8 - (1:Int))).toNat mC,aT (n8 - (1:Int))))
 else
  Option.map .inr (some (.inl (l7,aT (n4+(1:Int)))))
def cx (ah:Int) (mB:Signal→Signal→Option Int) (n4:Int) (l7:List Signal) (n8:Int):Option (((List Signal)×Int)⊕(((List Signal)×Int)⊕(List Signal))):=
 if ah < n8 then
  (idx l7 n8).bind fun v10=>
  (idx l7 (aT (n8 - (1:Int)))).bind fun v11=>
  (mB v10 v11).bind fun v12=>
  cw n4 l7 n8 (decide (v12 < (0:Int)))
 else
  cw n4 l7 n8 false
def mG (ah:Int) (mB:Signal→Signal→Option Int) (n4:Int) (l7:List Signal) (n8:Int):Option (((List Signal)×Int)⊕(List Signal)):=
 iter (fun x:(List Signal)×Int=>cx ah mB n4 x.1 x.2) (l7,n8)
def cy (ah:Int) (aO:Int) (mB:Signal→Signal→Option Int) (l3:List Signal) (n4:Int):Option (((List Signal)×Int)⊕(List Signal)):=
 if n4 < aO then
  mG ah mB n4 l3 n4
 else
  Option.map .inr (some l3)
def mH (ah:Int) (aO:Int) (mB:Signal→Signal→Option Int) (l3:List Signal) (n4:Int):Option (List Signal):=
 iter (fun x:(List Signal)×Int=>cy ah aO mB x.1 x.2) (l3,n4)
def ch (ab:List Signal) (ah:Int) (aO:Int) (mB:Signal→Signal→Option Int):Option (List Signal):=
 mH ah aO mB ab (aT (ah+(1:Int)))
def di (ah:Int) (aO:Int) (bE:Int) (l3:List Signal) (n4:Int):Option (((List Signal)×Int)⊕(List Signal)):=
 if n4 < bE then
  (idx l3 (aT (aO+n4))).bind fun v5=>
  (idx l3 (aT (ah+n4))).bind fun v6=>
  (idx l3 (aT (ah+n4))).bind fun v7=>
  (idx (l3.set (aT (ah+n4)).toNat v5) (aT (aO+n4))).bind fun v8=>
  some (.inl ((l3.set (aT (ah+n4)).toNat v5).set (aT (aO+n4)).toNat v6,aT (n4+(1:Int))))
 else
  Option.map .inr (some l3)
def oc (ah:Int) (aO:Int) (bE:Int) (l3:List Signal) (n4:Int):Option (List Signal):=
 iter (fun x:(List Signal)×Int=>di ah aO bE x.1 x.2) (l3,n4)
def cI (ab:List Signal) (ah:Int) (aO:Int) (bE:Int) (kE:Signal→Signal→Option Int):Option (List Signal):=
 oc ah aO bE ab (0:Int)
def er (l7:List Signal) (n8:Int) (n9:Int):Option (((List Signal)×Int×Int)⊕(List Signal)):=
 some (.inl (l7,n8,n9))
def jY (aO:Int) (kE:Signal→Signal→Option Int) (l4:List Signal) (n5:Int):Option (List Signal):=
 (kD l4.length (fun r:(List Signal)=>r.length) (cI l4 (aT (aO - n5)) aO n5 kE)).bind fun v12=>
 some v12
def et (aO:Int) (kE:Signal→Signal→Option Int) (l4:List Signal) (n5:Int) (n6:Int):Option (((List Signal)×Int×Int)⊕(List Signal)):=
 if n5≠n6 then
  if n6 < n5 then
   (kD l4.length (fun r:(List Signal)=>r.length) (cI l4 (aT (aO - n5)) aO n6 kE)).bind fun v10=>
   er v10 (aT (n5 - n6)) n6
  else
   (kD l4.length (fun r:(List Signal)=>r.length) (cI l4 (aT (aO - n5)) (aT ((aT (aO+n6)) - n5)) n5 kE)).bind fun v11=>
   er v11 n5 (aT (n6 - n5))
 else
  Option.map .inr (jY aO kE l4 n5)
def o3 (aO:Int) (kE:Signal→Signal→Option Int) (l4:List Signal) (n5:Int) (n6:Int):Option (List Signal):=
 iter (fun x:(List Signal)×Int×Int=>et aO kE x.1 x.2.1 x.2.2) (l4,n5,n6)
def il (ab:List Signal) (ah:Int) (aO:Int) (bE:Int) (kE:Signal→Signal→Option Int):Option (List Signal):=
 o3 aO kE ab (aT (aO - ah)) (aT (bE - aO))
def dD (n8:Int) (n9:Int):Option ((Int×Int)⊕(List Signal)):=
 some (.inl (n8,n9))
def dE (n3:Int) (sA:List Signal) (n13:Int):Option (((List Signal)×Int)⊕(List Signal)):=
 if n13 < (aT (n3 - (1:Int))) then
  (idx sA (aT (n13+(1:Int)))).bind fun mC=>
  (idx sA n13).bind fun jP=>
  (idx sA n13).bind fun oh=>
  (idx (sA.set n13.toNat mC) (aT (n13+(1:Int)))).bind fun v17=>
  some (.inl ((sA.set n13.toNat mC).set (aT (n13+(1:Int))).toNat jP,aT (n13+(1:Int))))
 else
  Option.map .inr (some sA)
def ov (n3:Int) (sA:List Signal) (n13:Int):Option (List Signal):=
 iter (fun x:(List Signal)×Int=>dE n3 x.1 x.2) (sA,n13)
def dG (ab:List Signal) (ah:Int) (kE:Signal→Signal→Option Int) (n3:Int) (n4:Int):Option ((Int×Int)⊕(List Signal)):=
 if n3 < n4 then
  (idx ab (aT (gj .u64 (IntKind.u64.wrap (aT (n3+n4))) (1:Int)))).bind fun v5=>
  (idx ab ah).bind fun v6=>
  (kE v5 v6).bind fun v7=>
  if v7 < (0:Int) then
   dD (aT ((aT (gj .u64 (IntKind.u64.wrap (aT (n3+n4))) (1:Int)))+(1:Int))) n4
  else
   dD n3 (aT (gj .u64 (IntKind.u64.wrap (aT (n3+n4))) (1:Int)))
 else
  Option.map .inr (ov n3 ab ah)
def ow (ab:List Signal) (ah:Int) (kE:Signal→Signal→Option Int) (n3:Int) (n4:Int):Option (List Signal):=
 iter (fun x:Int×Int=>dG ab ah kE x.1 x.2) (n3,n4)
def dH (n25:Int) (n26:Int):Option ((Int×Int)⊕(List Signal)):=
 some (.inl (n25,n26))
def dI (n20:Int) (x2:List Signal) (n30:Int):Option (((List Signal)×Int)⊕(List Signal)):=
 if n20 < n30 then
  (idx x2 (aT (n30 - (1:Int)))).bind fun v31=>
  (idx x2 n30).bind fun v32=>
  (idx x2 n30).bind fun v33=>
  (idx (x2.set n30.toNat v31) (aT (n30 - (1:Int)))).bind fun Py=>
  some (.inl ((x2.set n30.toNat v31).set (aT (n30 - (1:Int))).toNat v32,aT (n30 - (1:Int))))
 else
  Option.map .inr (some x2)
def ox (n20:Int) (x2:List Signal) (n30:Int):Option (List Signal):=
 iter (fun x:(List Signal)×Int=>dI n20 x.1 x.2) (x2,n30)
def dJ (ab:List Signal) (aO:Int) (kE:Signal→Signal→Option Int) (n20:Int) (n21:Int):Option ((Int×Int)⊕(List Signal)):=
 if n20 < n21 then
  (idx ab aO).bind fun v22=>
  (idx ab (aT (gj .u64 (IntKind.u64.wrap (aT (n20+n21))) (1:Int)))).bind fun v23=>
  (kE v22 v23).bind fun v24=>
  if ¬ (v24 < (0:Int)) then
   dH (aT ((aT (gj .u64 (IntKind.u64.wrap (aT (n20+n21))) (1:Int)))+(1:Int))) n21
  else
   dH n20 (aT (gj .u64 (IntKind.u64.wrap (aT (n20+n21))) (1:Int)))
 else
  Option.map .inr (ox n20 ab aO)
def oy (ab:List Signal) (aO:Int) (kE:Signal→Signal→Option Int) (n20:Int) (n21:Int):Option (List Signal):=
 iter (fun x:Int×Int=>dJ ab aO kE x.1 x.2) (n20,n21)
def dK (n44:Int) (n45:Int):Option ((Int×Int)⊕(List Signal)):=
 some (.inl (n44,n45))
def dj (G6:List Signal):Option (List Signal):=
 some G6
def fB (self:(List Signal)→Int→Int→Int→(Signal→Signal→Option Int)→Option (List Signal)) (ah:Int) (aO:Int) (bE:Int) (kE:Signal→Signal→Option Int) (n39:Int) (Il:List Signal) (TB:Bool):Option (List Signal):=
 if TB=true then
  (kD Il.length (fun r:(List Signal)=>r.length) (self Il (aT (gj .u64 (IntKind.u64.wrap (aT (ah+bE))) (1:Int))) (aT ((aT ((aT (gj .u64 (IntKind.u64.wrap (aT (ah+bE))) (1:Int)))+aO)) - n39)) bE kE)).bind fun v54=>
  dj v54
 else
  dj Il
def dL (self:(List Signal)→Int→Int→Int→(Signal→Signal→Option Int)→Option (List Signal)) (ah:Int) (aO:Int) (bE:Int) (kE:Signal→Signal→Option Int) (n39:Int) (Il:List Signal):Option (List Signal):=
 fB self ah aO bE kE n39 Il ((decide ((aT (gj .u64 (IntKind.u64.wrap (aT (ah+bE))) (1:Int))) < (aT ((aT ((aT (gj .u64 (IntKind.u64.wrap (aT (ah+bE))) (1:Int)))+aO)) - n39))))&&(decide ((aT ((aT ((aT (gj .u64 (IntKind.u64.wrap (aT (ah+bE))) (1:Int)))+aO)) - n39)) < bE)))
def fC (self:(List Signal)→Int→Int→Int→(Signal→Signal→Option Int)→Option (List Signal)) (ah:Int) (aO:Int) (bE:Int) (kE:Signal→Signal→Option Int) (n39:Int) (Im:List Signal) (c49:Bool):Option (List Signal):=
 if c49=true then
  (kD Im.length (fun r:(List Signal)=>r.length) (self Im ah n39 (aT (gj .u64 (IntKind.u64.wrap (aT (ah+bE))) (1:Int))) kE)).bind fun v51=>
  dL self ah aO bE kE n39 v51
 else
  dL self ah aO bE kE n39 Im
def dM (self:(List Signal)→Int→Int→Int→(Signal→Signal→Option Int)→Option (List Signal)) (ah:Int) (aO:Int) (bE:Int) (kE:Signal→Signal→Option Int) (n39:Int) (Im:List Signal):Option (List Signal):=
 fC self ah aO bE kE n39 Im ((decide (ah < n39))&&(decide (n39 < (aT (gj .u64 (IntKind.u64.wrap (aT (ah+bE))) (1:Int))))))
def fD (self:(List Signal)→Int→Int→Int→(Signal→Signal→Option Int)→Option (List Signal)) (ab:List Signal) (ah:Int) (aO:Int) (bE:Int) (kE:Signal→Signal→Option Int) (n39:Int) (c46:Bool):Option (List Signal):=
 if c46=true then
  (kD ab.length (fun r:(List Signal)=>r.length) (il ab n39 aO (aT ((aT ((aT (gj .u64 (IntKind.u64.wrap (aT (ah+bE))) (1:Int)))+aO)) - n39)) kE)).bind fun bI=>
  dM self ah aO bE kE n39 bI
 else
  dM self ah aO bE kE n39 ab
def dN (self:(List Signal)→Int→Int→Int→(Signal→Signal→Option Int)→Option (List Signal)) (ab:List Signal) (ah:Int) (aO:Int) (bE:Int) (kE:Signal→Signal→Option Int) (n39:Int) (n40:Int):Option ((Int×Int)⊕(List Signal)):=
 if n39 < n40 then
  (idx ab (aT ((aT ((aT ((aT (gj .u64 (IntKind.u64.wrap (aT (ah+bE))) (1:Int)))+aO)) - (1:Int))) - (aT (gj .u64 (IntKind.u64.wrap (aT (n39+n40))) (1:Int)))))).bind fun v41=>
  (idx ab (aT (gj .u64 (IntKind.u64.wrap (aT (n39+n40))) (1:Int)))).bind fun v42=>
  (kE v41 v42).bind fun Ju=>
  if ¬ (Ju < (0:Int)) then
   dK (aT ((aT (gj .u64 (IntKind.u64.wrap (aT (n39+n40))) (1:Int)))+(1:Int))) n40
  else
   dK n39 (aT (gj .u64 (IntKind.u64.wrap (aT (n39+n40))) (1:Int)))
 else
  Option.map .inr (fD self ab ah aO bE kE n39 ((decide (n39 < aO))&&(decide (aO < (aT ((aT ((aT (gj .u64 (IntKind.u64.wrap (aT (ah+bE))) (1:Int)))+aO)) - n39))))))
def oz (self:(List Signal)→Int→Int→Int→(Signal→Signal→Option Int)→Option (List Signal)) (ab:List Signal) (ah:Int) (aO:Int) (bE:Int) (kE:Signal→Signal→Option Int) (n39:Int) (n40:Int):Option (List Signal):=
 iter (fun x:Int×Int=>dN self ab ah aO bE kE x.1 x.2) (n39,n40)
def dO (self:(List Signal)→Int→Int→Int→(Signal→Signal→Option Int)→Option (List Signal)) (ab:List Signal) (ah:Int) (aO:Int) (bE:Int) (kE:Signal→Signal→Option Int) (n35:Int) (n36:Int):Option (List Signal):=
 oz self ab ah aO bE kE n35 n36
def fE (self:(List Signal)→Int→Int→Int→(Signal→Signal→Option Int)→Option (List Signal)) (ab:List Signal) (ah:Int) (aO:Int) (bE:Int) (kE:Signal→Signal→Option Int):Option (List Signal):=
 if (aT (aO - ah))=(1:Int) then
  ow ab ah kE aO bE
 else
  if (aT (bE - aO))=(1:Int) then
   oy ab aO kE ah aO
  else
   if (aT (gj .u64 (IntKind.u64.wrap (aT (ah+bE))) (1:Int))) < aO then
    dO self ab ah aO bE kE (aT ((aT ((aT (gj .u64 (IntKind.u64.wrap (aT (ah+bE))) (1:Int)))+aO)) - bE)) (aT (gj .u64 (IntKind.u64.wrap (aT (ah+bE))) (1:Int)))
   else
    dO self ab ah aO bE kE ah aO
def fW:Nat→(List Signal)→Int→Int→Int→(Signal→Signal→Option Int)→Option (List Signal)
 | 0=>fun _ _ _ _ _=>none
 | k+1=>fE (fW k)
def gE (ab:List Signal) (ah:Int) (aO:Int) (bE:Int) (kE:Signal→Signal→Option Int):Option (List Signal):=
 fW depth ab ah aO bE kE
def eu (n12:Int) (tz:List Signal):Option (((List Signal)×Int)⊕(List Signal)):=
 some (.inl (tz,aT (n12 * (2:Int))))
def jZ (ah:Int) (xp:Signal→Signal→Option Int) (n12:Int) (kA:List Signal) (n17:Int):Option (((List Signal)×Int)⊕(List Signal)):=
 if (aT (n17+n12)) < ah then
  (kD kA.length (fun r:(List Signal)=>r.length) (gE kA n17 (aT (n17+n12)) ah xp)).bind fun v21=>
  eu n12 v21
 else
  eu n12 kA
def ew (ah:Int) (xp:Signal→Signal→Option Int) (n12:Int) (kA:List Signal) (n17:Int) (n18:Int):Option (((List Signal)×Int×Int)⊕(((List Signal)×Int)⊕(List Signal))):=
 if n18≤ah then
  (kD kA.length (fun r:(List Signal)=>r.length) (gE kA n17 (aT (n17+n12)) n18 xp)).bind fun Bu=>
  some (.inl (Bu,n18,aT (n18+(aT ((2:Int) * n12)))))
 else
  Option.map .inr (jZ ah xp n12 kA n17)
def o4 (ah:Int) (xp:Signal→Signal→Option Int) (n12:Int) (kA:List Signal) (n17:Int) (n18:Int):Option (((List Signal)×Int)⊕(List Signal)):=
 iter (fun x:(List Signal)×Int×Int=>ew ah xp n12 x.1 x.2.1 x.2.2) (kA,n17,n18)
def cJ (ah:Int) (xp:Signal→Signal→Option Int) (iU:List Signal) (n12:Int):Option (((List Signal)×Int)⊕(List Signal)):=
 if n12 < ah then
  o4 ah xp n12 iU (0:Int) (aT ((2:Int) * n12))
 else
  Option.map .inr (some iU)
def j6 (ah:Int) (xp:Signal→Signal→Option Int) (iU:List Signal) (n12:Int):Option (List Signal):=
 iter (fun x:(List Signal)×Int=>cJ ah xp x.1 x.2) (iU,n12)
def gm (ah:Int) (xp:Signal→Signal→Option Int) (l4:List Signal) (n5:Int):Option (List Signal):=
 (kD l4.length (fun r:(List Signal)=>r.length) (ch l4 n5 ah xp)).bind fun v8=>
 j6 ah xp v8 (20:Int)
def cK (ah:Int) (xp:Signal→Signal→Option Int) (l4:List Signal) (n5:Int) (n6:Int):Option (((List Signal)×Int×Int)⊕(List Signal)):=
 if n6≤ah then
  (kD l4.length (fun r:(List Signal)=>r.length) (ch l4 n5 n6 xp)).bind fun v7=>
  some (.inl (v7,n6,aT (n6+(20:Int))))
 else
  Option.map .inr (gm ah xp l4 n5)
def j8 (ah:Int) (xp:Signal→Signal→Option Int) (l4:List Signal) (n5:Int) (n6:Int):Option (List Signal):=
 iter (fun x:(List Signal)×Int×Int=>cK ah xp x.1 x.2.1 x.2.2) (l4,n5,n6)
def dP (ab:List Signal) (ah:Int) (xp:Signal→Signal→Option Int):Option (List Signal):=
 j8 ah xp ab (0:Int) (20:Int)
def bZ (ab:List Signal) (oL:Signal→Signal→Option Int):Option (List Signal):=
 (kD ab.length (fun r:(List Signal)=>r.length) (dP ab (ab.length:Int) oL)).bind fun v1=>
 some v1
def jh (ab:ar) (ah:Int):Option (Bool×ar):=
 (eM ab ah).bind fun v1=>
 some (decide (v1.1=(0:Int)),v1.2)
def ji (ab:Signal) (ah:Signal):Option Bool:=
 (iu ab ah).bind fun v3=>
 some (decide (v3=(0:Int)))
def cQ (n12:Int) (kA:List Signal) (n17:Int):Option (((List Signal)×Int×Int)⊕(Int⊕(List Signal))):=
 some (.inl (kA,n17,aT (n12+(1:Int))))
def iv (l10:List Signal) (n11:Int):Option (Int⊕(List Signal)):=
 (sy l10 n11 (l10.length:Int)).bind fun tz=>
 (sy (Ck l10 n11 tz.length (⟨(0:Int),(0:Int),[],[],[],(0:Int)⟩:Signal)) (0:Int) n11).bind fun qW=>
 Option.map .inr (some qW)
def cS (oL:Signal→Signal→Option Bool) (n2:Int) (l6:List Signal) (l10:List Signal) (n11:Int) (n12:Int):Option (((List Signal)×Int×Int)⊕(Int⊕(List Signal))):=
 if n12 < (l6.length:Int) then
  (rI l10 n2 l6.length n12).bind fun oO=>
  (rI l10 n2 l6.length (aT (n12 - (1:Int)))).bind fun mC=>
  (oL oO mC).bind fun jP=>
  if (!jP)=true then
   (rI l10 n2 l6.length n12).bind fun G7=>
   (idx l10 n11).bind fun Bu=>
   cQ n12 (l10.set n11.toNat G7) (aT (n11+(1:Int)))
  else
   cQ n12 l10 n11
 else
  Option.map .inr (iv l10 n11)
def mW (oL:Signal→Signal→Option Bool) (n2:Int) (l6:List Signal) (l10:List Signal) (n11:Int) (n12:Int):Option (Int⊕(List Signal)):=
 iter (fun x:(List Signal)×Int×Int=>cS oL n2 l6 x.1 x.2.1 x.2.2) (l10,n11,n12)
def cT (ab:List Signal) (oL:Signal→Signal→Option Bool) (n2:Int):Option (Int⊕(List Signal)):=
 if n2 < (ab.length:Int) then
  (idx ab n2).bind fun v3=>
  (idx ab (aT (n2 - (1:Int)))).bind fun v4=>
  (oL v3 v4).bind fun v5=>
  if v5=true then
   (sy ab n2 (ab.length:Int)).bind fun l6=>
   mW oL n2 l6 ab n2 (1:Int)
  else
   some (.inl (aT (n2+(1:Int))))
 else
  Option.map .inr (some ab)
def mX (ab:List Signal) (oL:Signal→Signal→Option Bool) (n2:Int):Option (List Signal):=
 iter (fun x:Int=>cT ab oL x) n2
def dQ (ab:List Signal) (oL:Signal→Signal→Option Bool):Option (List Signal):=
 if (ab.length:Int) < (2:Int) then
  some ab
 else
  mX ab oL (1:Int)
def o5 (ab:ar) (ah:Int) (aO:Int):Option (Int×ar):=
 (jh ab (12:Int)).bind fun v1=>
 if v1.1=true then
  (cY v1.2 [aT (ah - (1:Int)),aT (aO+(1:Int)),ah,aO,(-1099511627776:Int),(1099511627776:Int)]).bind fun v2=>
  some (v2.1,v2.2)
 else
  (jf v1.2 ah aO).bind fun v3=>
  some (v3.1,v3.2)
def gI (iU:List Signal) (n12:Int) (n13:Int) (oh:aI×ar) (v17:aI×ar) (n21:Int) (DE:aI) (Lr:List Int) (n28:Int) (n29:Int):Option (((List Int)×Int×(List Signal)×Int×Int)⊕((List Signal)×ar)):=
 (app iU [(⟨n12,n21,oh.1,v17.1,DE,n29⟩:Signal)]).bind fun TC=>
 (cY (⟨Lr,n28⟩:ar) [(0:Int),(1:Int),(3:Int),(10:Int),(40:Int)]).bind fun v33=>
 some (.inl (v33.2.L,v33.2.at_,TC,aT (n12+v33.1),aT (n13+(1:Int))))
def gJ (iU:List Signal) (n12:Int) (n13:Int) (oh:aI×ar) (v17:aI×ar) (n21:Int) (xq:List Int) (n24:Int) (DE:aI):Option (((List Int)×Int×(List Signal)×Int×Int)⊕((List Signal)×ar)):=
 if n21=(4:Int) then
  (cY (⟨xq,n24⟩:ar) [(1:Int),(10:Int),(50:Int)]).bind fun v30=>
  gI iU n12 n13 oh v17 n21 DE v30.2.L v30.2.at_ (aT (n12+v30.1))
 else
  gI iU n12 n13 oh v17 n21 DE xq n24 (0:Int)
def gK (iU:List Signal) (n12:Int) (n13:Int) (oh:aI×ar) (v17:aI×ar) (nU:List Int) (n20:Int) (n21:Int):Option (((List Int)×Int×(List Signal)×Int×Int)⊕((List Signal)×ar)):=
 if (3:Int)≤n21 then
  (jg (⟨nU,n20⟩:ar) [([97,110,110]:aI),([98,111,98]:aI)]).bind fun v26=>
  gJ iU n12 n13 oh v17 n21 v26.2.L v26.2.at_ v26.1
 else
  gJ iU n12 n13 oh v17 n21 nU n20 []
def jj (FC:List Int) (n45:Int) (Io:List Signal):Option ((List Signal)×ar):=
 some (Io,(⟨FC,n45⟩:ar))
def gL (o6:List Signal) (G8:List Int) (n41:Int) (TE:Bool):Option ((List Signal)×ar):=
 if TE=true then
  (eM (⟨G8,n41⟩:ar) (o6.length:Int)).bind fun j9=>
  (idx o6 j9.1).bind fun bI=>
  (cY j9.2 [bI.At,(-1:Int),(345686400000:Int)]).bind fun v49=>
  (o5 v49.2 (1:Int) (5:Int)).bind fun v50=>
  (jg v50.2 [bI.By,([]:aI),([65]:aI)]).bind fun v51=>
  (cY v51.2 [bI.aV,(0:Int),bI.At,aT ((aT (bI.At+(2592000000:Int)))+(1:Int))]).bind fun BU=>
  jj BU.2.L BU.2.at_ ((((o6.set j9.1.toNat (⟨v49.1,bI.Kind,bI.Device,bI.a8,bI.By,bI.aV⟩:Signal)).set j9.1.toNat (⟨v49.1,v50.1,bI.Device,bI.a8,bI.By,bI.aV⟩:Signal)).set j9.1.toNat (⟨v49.1,v50.1,bI.Device,bI.a8,v51.1,bI.aV⟩:Signal)).set j9.1.toNat (⟨v49.1,v50.1,bI.Device,bI.a8,v51.1,BU.1⟩:Signal))
 else
  jj G8 n41 o6
def gM (v35:Bool×ar) (o6:List Signal):Option ((List Signal)×ar):=
 if (0:Int) < (o6.length:Int) then
  (jh v35.2 (20:Int)).bind fun Ju=>
  gL o6 Ju.2.L Ju.2.at_ Ju.1
 else
  gL o6 v35.2.L v35.2.at_ false
def oA (l8:List Int) (n9:Int) (iU:List Signal):Option ((List Signal)×ar):=
 (kD iU.length (fun r:(List Signal)=>r.length) (bZ iU (fun y0 y1=>iu y0 y1))).bind fun Py=>
 (jh (⟨l8,n9⟩:ar) (20:Int)).bind fun v35=>
 if (!v35.1)=true then
  (dQ Py (fun y0 y1=>ji y0 y1)).bind fun Xb=>
  gM v35 Xb
 else
  gM v35 Py
def jk (ah:Int) (aO:Bool) (l8:List Int) (n9:Int) (iU:List Signal) (n12:Int) (n13:Int):Option (((List Int)×Int×(List Signal)×Int×Int)⊕((List Signal)×ar)):=
 if n13 < ah then
  (cY (⟨l8,n9⟩:ar) [(1:Int),(1:Int),(2:Int),(2:Int),(3:Int),(3:Int),(4:Int),(5:Int)]).bind fun jP=>
  (jg jP.2 [([100,97]:aI),([100,97]:aI),([100,98]:aI),([100,103]:aI)]).bind fun oh=>
  (jg oh.2 [([114,97]:aI),([114,97]:aI),([114,98]:aI)]).bind fun v17=>
  if aO=true then
   (cY v17.2 [(3:Int),(3:Int),(4:Int),(5:Int)]).bind fun v22=>
   gK iU n12 n13 oh v17 v22.2.L v22.2.at_ v22.1
  else
   gK iU n12 n13 oh v17 v17.2.L v17.2.at_ jP.1
 else
  Option.map .inr (oA l8 n9 iU)
def r6 (ah:Int) (aO:Bool) (l8:List Int) (n9:Int) (iU:List Signal) (n12:Int) (n13:Int):Option ((List Signal)×ar):=
 iter (fun x:(List Int)×Int×(List Signal)×Int×Int=>jk ah aO x.1 x.2.1 x.2.2.1 x.2.2.2.1 x.2.2.2.2) (l8,n9,iU,n12,n13)
def kc (ab:ar) (ah:Int) (aO:Bool):Option ((List Signal)×ar):=
 (eM ab (20:Int)).bind fun v1=>
 r6 ah aO v1.2.L v1.2.at_ [] v1.1 (0:Int)
def mj (l6:List Int) (n7:Int) (n8:Int) (n9:Int):Option (au×ar):=
 some ((⟨n8,n9⟩:au),(⟨l6,n7⟩:ar))
def pE (ab:ar):Option (au×ar):=
 (cY ab [(0:Int),(5:Int),(30:Int),(100:Int)]).bind fun v2=>
 (cY v2.2 [(30:Int),(100:Int),(250:Int),(1000:Int),(345686400000:Int)]).bind fun v3=>
 (jh v3.2 (20:Int)).bind fun v5=>
 if v5.1=true then
  (cY v5.2 [(-1:Int),(10:Int)]).bind fun v10=>
  (cY v10.2 [(9:Int),(345686400001:Int)]).bind fun v11=>
  mj v11.2.L v11.2.at_ v10.1 v11.1
 else
  mj v5.2.L v5.2.at_ v2.1 v3.1
def DF (c1:Bool):Bool:=
 c1
def zm (ab:Int) (ah:Int) (aO:Int):Bool:=
 DF ((decide (ah≤ab))&&(decide (ab≤aO)))
def mY (ab:Int):Int:=
 if (!(zm ab (0:Int) (345686399999:Int)))=true then
  (1:Int)
 else
  (0:Int)
def sJ (c1:Bool):Option Bool:=
 some c1
def AI (ab:aI):Option Bool:=
 if (zm (ab.length:Int) (1:Int) (40:Int))=true then
  (Cx ab ([97,98,99,100,101,102,103,104,105,106,107,108,109,110,111,112,113,114,115,116,117,118,119,120,121,122,48,49,50,51,52,53,54,55,56,57,45,95]:aI)).bind fun v2=>
  if v2=([]:aI) then
   (idx ab (0:Int)).bind fun c3=>
   sJ (decide ((0:Int)≤(tw ([97,98,99,100,101,102,103,104,105,106,107,108,109,110,111,112,113,114,115,116,117,118,119,120,121,122]:aI) (c3.toNat:Int))))
  else
   sJ false
 else
  sJ false
def jl (n2:Int) (Ls:Bool):Option (Int⊕Int):=
 if Ls=true then
  Option.map .inr (some (7:Int))
 else
  some (.inl (aT (n2+(1:Int))))
def lO (ab:List Signal) (n2:Int) (v3:Signal) (c12:Bool):Option (Int⊕Int):=
 if c12=true then
  Option.map .inr (some (3:Int))
 else
  if (0:Int) < n2 then
   (idx ab (aT (n2 - (1:Int)))).bind fun mC=>
   (iu mC v3).bind fun jP=>
   jl n2 (decide ((0:Int)≤jP))
  else
   jl n2 false
def lP (ab:List Signal) (n2:Int) (v3:Signal) (Lt:Bool):Option (Int⊕Int):=
 if Lt=true then
  Option.map .inr (some (1:Int))
 else
  lO ab n2 v3 ((decide (¬ (v3.Kind=(4:Int))))&&(decide (v3.aV≠(0:Int))))
def lQ (ab:List Signal) (n2:Int) (v3:Signal) (TF:Bool):Option (Int⊕Int):=
 if TF=true then
  Option.map .inr (some (3:Int))
 else
  lP ab n2 v3 ((decide (v3.Kind=(4:Int)))&&(!(zm v3.aV (aT (v3.At+(1:Int))) (min (aT (v3.At+(2592000000:Int))) (345686400000:Int)))))
def gN (ab:List Signal) (n2:Int) (v3:Signal) (c8:Bool):Option (Int⊕Int):=
 if c8=true then
  Option.map .inr (some (5:Int))
 else
  lQ ab n2 v3 ((decide (¬ ((3:Int)≤v3.Kind)))&&(decide (v3.By≠([]:aI))))
def gO (ab:List Signal) (n2:Int) (v3:Signal) (c5:Bool):Option (Int⊕Int):=
 if c5=true then
  Option.map .inr (some (5:Int))
 else
  if (!(zm v3.Kind (1:Int) (5:Int)))=true then
   Option.map .inr (some (4:Int))
  else
   if (3:Int)≤v3.Kind then
    (AI v3.By).bind fun v9=>
    gN ab n2 v3 (!v9)
   else
    gN ab n2 v3 false
def eN (ab:List Signal) (n2:Int):Option (Int⊕Int):=
 if n2 < (ab.length:Int) then
  (idx ab n2).bind fun v3=>
  if (mY v3.At)≠(0:Int) then
   Option.map .inr (some (1:Int))
  else
   (AI v3.Device).bind fun v6=>
   if (!v6)=true then
    gO ab n2 v3 true
   else
    (AI v3.a8).bind fun v7=>
    gO ab n2 v3 (!v7)
 else
  Option.map .inr (some (0:Int))
def r7 (ab:List Signal) (n2:Int):Option Int:=
 iter (fun x:Int=>eN ab x) n2
def iI (ab:List Signal):Option Int:=
 if (5000:Int) < (ab.length:Int) then
  some (2:Int)
 else
  r7 ab (0:Int)
def uO (c1:Bool):Bool:=
 c1
def qX (ab:Int) (ah:Int) (aO:Int):Bool:=
 uO ((decide (ab < ah))||(decide (aO < ab)))
def nV (ab:Int):Bool:=
 !(qX ab (0:Int) (345686399999:Int))
def r8 (n5:Int) (c7:Bool):Option (Int⊕Bool):=
 if c7=true then
  Option.map .inr (some false)
 else
  some (.inl (aT (n5+(1:Int))))
def ml (ab:aI) (n5:Int):Option (Int⊕Bool):=
 if n5 < (ab.length:Int) then
  (idx ab n5).bind fun c6=>
  r8 n5 (if (97:Int)≤(c6.toNat:Int) then if (c6.toNat:Int)≤(122:Int) then !true else if (48:Int)≤(c6.toNat:Int) then if (c6.toNat:Int)≤(57:Int) then !true else if (c6.toNat:Int)=(45:Int) then !true else decide (¬ ((c6.toNat:Int)=(95:Int))) else if (c6.toNat:Int)=(45:Int) then !true else decide (¬ ((c6.toNat:Int)=(95:Int))) else if (48:Int)≤(c6.toNat:Int) then if (c6.toNat:Int)≤(57:Int) then !true else if (c6.toNat:Int)=(45:Int) then !true else decide (¬ ((c6.toNat:Int)=(95:Int))) else if (c6.toNat:Int)=(45:Int) then !true else decide (¬ ((c6.toNat:Int)=(95:Int))))
 else
  Option.map .inr (some true)
def uP (ab:aI) (n5:Int):Option Bool:=
 iter (fun x:Int=>ml ab x) n5
def mn (ab:aI) (c1:Bool):Option Bool:=
 if c1=true then
  some false
 else
  uP ab (0:Int)
def oB (ab:aI):Option Bool:=
 if ab=([]:aI) then
  mn ab true
 else
  if (40:Int) < (ab.length:Int) then
   mn ab true
  else
   (idx ab (0:Int)).bind fun c2=>
   if (c2.toNat:Int) < (97:Int) then
    mn ab true
   else
    (idx ab (0:Int)).bind fun c3=>
    mn ab (decide ((122:Int) < (c3.toNat:Int)))
def jm (c9:Bool):Option Int:=
 if c9=true then
  some (3:Int)
 else
  some (0:Int)
def jn (ab:Signal) (c8:Bool):Option Int:=
 if c8=true then
  some (1:Int)
 else
  jm ((decide (¬ (ab.Kind=(4:Int))))&&(decide (ab.aV≠(0:Int))))
def jo (ab:Signal) (c7:Bool):Option Int:=
 if c7=true then
  some (3:Int)
 else
  jn ab ((decide (ab.Kind=(4:Int)))&&((qX ab.aV (aT (ab.At+(1:Int))) (aT (ab.At+(2592000000:Int))))||(decide ((345686400000:Int) < ab.aV))))
def fl (ab:Signal) (c5:Bool):Option Int:=
 if c5=true then
  some (5:Int)
 else
  jo ab ((decide (¬ ((3:Int)≤ab.Kind)))&&(decide (ab.By≠([]:aI))))
def fo (ab:Signal) (c2:Bool):Option Int:=
 if c2=true then
  some (5:Int)
 else
  if (qX ab.Kind (1:Int) (5:Int))=true then
   some (4:Int)
  else
   if (3:Int)≤ab.Kind then
    (oB ab.By).bind fun v6=>
    fl ab (!v6)
   else
    fl ab false
def jq (ab:Signal):Option Int:=
 if (!(nV ab.At))=true then
  some (1:Int)
 else
  (oB ab.Device).bind fun v3=>
  if (!v3)=true then
   fo ab true
  else
   (oB ab.a8).bind fun v4=>
   fo ab (!v4)
def mo (ab:Signal) (ah:Signal):Option Int:=
 (jF [(cmp_Compare_int ab.At ah.At),(Lib.compareBytes ab.Device ah.Device),(Lib.compareBytes ab.a8 ah.a8),(cmp_Compare_int ab.Kind ah.Kind)]).bind fun v3=>
 some v3
def gh (n2:Int) (c6:Bool):Option (Int⊕Int):=
 if c6=true then
  Option.map .inr (some (7:Int))
 else
  some (.inl (aT (n2+(1:Int))))
def cE (ab:List Signal) (n2:Int):Option (Int⊕Int):=
 if n2 < (ab.length:Int) then
  (idx ab n2).bind fun v3=>
  (jq v3).bind fun v5=>
  if v5≠(0:Int) then
   Option.map .inr (some v5)
  else
   if (0:Int) < n2 then
    (idx ab (aT (n2 - (1:Int)))).bind fun v7=>
    (mo v3 v7).bind fun v8=>
    gh n2 (decide (v8≤(0:Int)))
   else
    gh n2 false
 else
  Option.map .inr (some (0:Int))
def oV (ab:List Signal) (n2:Int):Option Int:=
 iter (fun x:Int=>cE ab x) n2
def ec (ab:List Signal):Option Int:=
 if (5000:Int) < (ab.length:Int) then
  some (2:Int)
 else
  oV ab (0:Int)
def oC (c2:Bool):Bool:=
 c2
def pF (ab:au):Bool:=
 oC ((!(qX ab.bg (0:Int) ab.To))&&(decide (ab.To≤(345686400000:Int))))
def qB (ab:aq) (ah:aq):Option Int:=
 (jF [(Lib.compareBytes ab.aK ah.aK),(Lib.compareBytes ab.aN ah.aN)]).bind fun v3=>
 some v3
def gP (ab:ak) (ah:ak):Option Int:=
 (qB ab.aR ah.aR).bind fun v1=>
 some v1
def jr (n19:Int) (qW:List (aq×Int)) (gz:List ak) (Jv:List Int):Option (((List (aq×Int))×(List ak)×(List Int)×Int)⊕bO):=
 some (.inl (qW,gz,Jv,aT (n19+(1:Int))))
def lR (sr:List (aq×Int)) (om:List ak) (uh:List Int):Option bO:=
 (Fi (fun y0 y1=>gP y0 y1) om uh).bind fun VJ=>
 some (⟨sr,VJ,om⟩:bO)
def dR (ab:List Signal) (sr:List (aq×Int)) (om:List ak) (uh:List Int) (n19:Int):Option (((List (aq×Int))×(List ak)×(List Int)×Int)⊕bO):=
 if n19 < (ab.length:Int) then
  (idx ab n19).bind fun yj=>
  tu (eB sr (⟨yj.Device,yj.a8⟩:aq)) (
   (BP om.length ((sr.map Prod.snd)++uh)).bind fun u38=>
   (app uh [(om.length:Int)]).bind fun Xc=>
   jr n19 (gV sr (⟨yj.Device,yj.a8⟩:aq) (om.length:Int)) (om++[(⟨(⟨yj.Device,yj.a8⟩:aq),(0:Int),(0:Int),[],(0:Int),[],[],[],[],[]⟩:ak)]) Xc) (fun n30=>
   jr n19 sr om uh)
 else
  Option.map .inr (lR sr om uh)
def r9 (ab:List Signal) (sr:List (aq×Int)) (om:List ak) (uh:List Int) (n19:Int):Option bO:=
 iter (fun x:(List (aq×Int))×(List ak)×(List Int)×Int=>dR ab x.1 x.2.1 x.2.2.1 x.2.2.2) (sr,om,uh,n19)
def mq (ab:List Signal):Option bO:=
 r9 ab [] [] [] (0:Int)
def gn (ab:List au):Option Int:=
 (idx ab (aT ((ab.length:Int) - (1:Int)))).bind fun v1=>
 some (aT ((ab.length:Int) - (1:Int)))
def iJ (ab:ak) (ah:Int) (aO:Int) (iU:List au) (kA:List au):Option ak:=
 some (⟨ab.aR,ah,aO,ab.aD,ab.ay,kA,iU,ab.bh,ab.bf,ab.aW⟩:ak)
def kN (ab:ak) (ah:Int) (aO:Int) (l7:List au) (iU:List au) (TG:Bool):Option ak:=
 if TG=true then
  (app l7 [(⟨aO,(345686400000:Int)⟩:au)]).bind fun Gt=>
  iJ ab ah aO iU Gt
 else
  iJ ab ah aO iU l7
def gp (ab:ak) (ah:Int) (aO:Int) (c1:Bool) (c2:Bool) (l7:List au) (iU:List au):Option ak:=
 kN ab ah aO l7 iU (c2&&(!c1))
def gq (ab:ak) (ah:Int) (aO:Int) (c1:Bool) (c2:Bool) (l3:List au) (l7:List au):Option ak:=
 if ah=(1:Int) then
  (app l3 [(⟨aO,(345686400000:Int)⟩:au)]).bind fun sA=>
  gp ab ah aO c1 c2 l7 sA
 else
  gp ab ah aO c1 c2 l7 l3
def kO (ab:ak) (ah:Int) (aO:Int) (c1:Bool) (c2:Bool) (l3:List au) (c6:Bool):Option ak:=
 if c6=true then
  (gn ab.eV).bind fun v8=>
  (idx ab.eV v8).bind fun v9=>
  gq ab ah aO c1 c2 l3 (ab.eV.set v8.toNat (⟨v9.bg,aO⟩:au))
 else
  gq ab ah aO c1 c2 l3 ab.eV
def gr (ab:ak) (ah:Int) (aO:Int) (c1:Bool) (c2:Bool) (l3:List au):Option ak:=
 kO ab ah aO c1 c2 l3 (c1&&(!c2))
def kP (ab:ak) (ah:Int) (aO:Int) (c1:Bool) (c2:Bool):Option ak:=
 if ab.az=(1:Int) then
  (gn ab.bC).bind fun v4=>
  (idx ab.bC v4).bind fun v5=>
  gr ab ah aO c1 c2 (ab.bC.set v4.toNat (⟨v5.bg,aO⟩:au))
 else
  gr ab ah aO c1 c2 ab.bC
def fP (ab:ak) (ah:Int) (aO:Int):Option ak:=
 kP ab ah aO ((decide (ab.az=(1:Int)))||(decide (ab.az=(2:Int)))) ((decide (ah=(1:Int)))||(decide (ah=(2:Int))))
def dq (q3:aI) (q4:aI) (n5:Int) (n6:Int) (l8:List Int) (n9:Int) (iU:List au) (sr:List au) (pG:List au) (R4:List Int) (R5:List Int):Option (Int×ak):=
 some ((0:Int),(⟨(⟨q3,q4⟩:aq),n5,n6,l8,n9,iU,sr,pG,R4,R5⟩:ak))
def dt (ah:Signal) (q3:aI) (q4:aI) (n5:Int) (n6:Int) (l8:List Int) (n9:Int) (iU:List au) (sr:List au) (pG:List au) (Gt:List Int) (nU:List Int):Option (Int×ak):=
 if ¬ (ah.Kind=(2:Int)) then
  (app Gt [ah.At]).bind fun Ow=>
  (idx l8 (aT ((l8.length:Int) - (1:Int)))).bind fun G9=>
  (app nU [aT (ah.At - G9)]).bind fun QM=>
  dq q3 q4 n5 n6 l8 n9 iU sr pG Ow QM
 else
  dq q3 q4 n5 n6 l8 n9 iU sr pG Gt nU
def eI (ah:Signal) (R6:aI) (R7:aI) (n32:Int) (n33:Int) (QN:List Int) (n36:Int) (QO:List au) (G8:List au) (QP:List au) (FC:List Int) (Io:List Int):Option (Int×ak):=
 dt ah R6 R7 n32 n33 QN n36 QO G8 QP FC Io
def gW (ab:ak) (ah:Signal) (TH:Bool):Option (Int×ak):=
 if TH=true then
  (fP ab (2:Int) ah.At).bind fun v55=>
  eI ah v55.aR.aK v55.aR.aN v55.az v55.bM v55.aD v55.ay v55.eV v55.bC v55.bh v55.bf v55.aW
 else
  some ((11:Int),ab)
def eJ (ab:ak) (ah:Signal) (c28:Bool):Option (Int×ak):=
 if c28=true then
  (fP ab (0:Int) ah.At).bind fun j9=>
  eI ah j9.aR.aK j9.aR.aN j9.az j9.bM j9.aD j9.ay j9.eV j9.bC j9.bh j9.bf j9.aW
 else
  gW ab ah ((decide (¬ (ah.Kind=(2:Int))))&&(decide (ab.az=(1:Int))))
def gX (ab:ak) (ah:Signal) (R8:Bool):Option (Int×ak):=
 eJ ab ah R8
def gY (ab:ak) (ah:Signal) (QQ:Bool):Option (Int×ak):=
 if QQ=true then
  eJ ab ah QQ
 else
  gX ab ah ((decide (¬ (ah.Kind=(2:Int))))&&(decide (ab.az=(3:Int))))
def gZ (ab:ak) (ah:Signal) (c2:Bool):Option (Int×ak):=
 if c2=true then
  (fP ab (3:Int) ah.At).bind fun v20=>
  dt ah v20.aR.aK v20.aR.aN v20.az v20.bM v20.aD v20.ay v20.eV v20.bC v20.bh v20.bf v20.aW
 else
  gY ab ah ((decide (ah.Kind=(2:Int)))&&(decide (ab.az=(2:Int))))
def ke (ab:ak) (ah:Signal):Option (Int×ak):=
 gZ ab ah ((decide (ah.Kind=(2:Int)))&&(decide (ab.az=(1:Int))))
def js (ab:ak) (ah:Signal) (c2:Bool):Option (Int×ak):=
 if c2=true then
  some ((6:Int),ab)
 else
  (fP ab (1:Int) ah.At).bind fun v3=>
  (app v3.aD [ah.At]).bind fun l10=>
  some ((0:Int),(⟨v3.aR,v3.az,v3.bM,l10,v3.ay,v3.eV,v3.bC,v3.bh,v3.bf,v3.aW⟩:ak))
def fq (ab:ak) (ah:Signal) (c12:Bool):Option (Int×ak):=
 if c12=true then
  (ke ab ah).bind fun oO=>
  some (oO.1,oO.2)
 else
  if ah.Kind=(4:Int) then
   if ah.At < ab.ay then
    some ((11:Int),ab)
   else
    (app ab.bh [(⟨ah.At,ah.aV⟩:au)]).bind fun tz=>
    some ((0:Int),(⟨ab.aR,ab.az,ab.bM,ab.aD,ah.aV,ab.eV,ab.bC,tz,ab.bf,ab.aW⟩:ak))
  else
   if ab.ay≤ah.At then
    some ((11:Int),ab)
   else
    (idx ab.bh (aT ((ab.bh.length:Int) - (1:Int)))).bind fun v22=>
    some ((0:Int),(⟨ab.aR,ab.az,ab.bM,ab.aD,ah.At,ab.eV,ab.bC,ab.bh.set (aT ((ab.bh.length:Int) - (1:Int))).toNat (⟨v22.bg,ah.At⟩:au),ab.bf,ab.aW⟩:ak))
def jt (ab:ak) (ah:Signal):Option (Int×ak):=
 if ah.Kind=(1:Int) then
  js ab ah ((decide (ab.az=(1:Int)))||(decide (ab.az=(2:Int))))
 else
  if ah.Kind=(2:Int) then
   fq ab ah (decide (ah.Kind=(2:Int)))
  else
   fq ab ah (decide (ah.Kind=(3:Int)))
def fc (ab:bO) (ah:Signal):Option (Int×bO):=
 tu (eB ab.rJ (⟨ah.Device,ah.a8⟩:aq)) (
  none) (fun n2=>
  (idx ab.BS n2).bind fun v3=>
  (jt v3 ah).bind fun v4=>
  some (v4.1,(⟨ab.rJ,ab.jX,ab.BS.set n2.toNat v4.2⟩:bO)))
def pH (n19:Int) (gz:List (aq×Int)) (xq:List ak) (Jv:List Int):Option (((List (aq×Int))×(List ak)×(List Int)×Int)⊕bO):=
 some (.inl (gz,xq,Jv,aT (n19+(1:Int))))
def nW (ab:List Signal) (ah:Int) (om:List (aq×Int)) (pG:List ak) (uh:List Int) (n19:Int):Option (((List (aq×Int))×(List ak)×(List Int)×Int)⊕bO):=
 if n19 < (ab.length:Int) then
  (idx ab n19).bind fun v20=>
  if v20.At≤ah then
   (fc (⟨om,uh,pG⟩:bO) v20).bind fun yj=>
   pH n19 yj.2.rJ yj.2.BS yj.2.jX
  else
   pH n19 om pG uh
 else
  Option.map .inr (some (⟨om,uh,pG⟩:bO))
def yV (ab:List Signal) (ah:Int) (om:List (aq×Int)) (pG:List ak) (uh:List Int) (n19:Int):Option bO:=
 iter (fun x:(List (aq×Int))×(List ak)×(List Int)×Int=>nW ab ah x.1 x.2.1 x.2.2.1 x.2.2.2) (om,pG,uh,n19)
def qY (ab:List Signal) (ah:Int):Option bO:=
 (mq ab).bind fun v1=>
 yV ab ah v1.rJ v1.BS v1.jX (0:Int)
def mr (c1:Bool):Bool:=
 c1
def bB (ab:Int) (ah:au):Bool:=
 mr ((decide (ah.bg≤ab))&&(decide (ab < ah.To)))
def ju (ab:aj) (ah:aj):Int:=
 (Lib.compareBytes ab.a8 ah.a8)
def fX (ab:List aj) (oL:aj→aj→Option Int):Option (List aj):=
 An oL ab
def bt (n26:Int) (Lr:List aj) (TI:List (aI×Int)):Option (((List aj)×(List (aI×Int))×Int)⊕((List aj)×Int)):=
 some (.inl (Lr,TI,aT (n26+(1:Int))))
def lS (gz:List aj) (eO:List (aI×Int)) (n26:Int) (v31:ak):Option (Unit⊕(((List aj)×(List (aI×Int))×Int)⊕((List aj)×Int))):=
 if (0:Int) < (v31.eV.length:Int) then
  (idx v31.eV (0:Int)).bind fun v44=>
  none
 else
  Option.map .inr (bt n26 (gz++[(⟨v31.aR.aN,(0:Int),(0:Int),(0:Int),(0:Int)⟩:aj)]) (gV eO v31.aR.aN (gz.length:Int)))
def xu (gz:List aj) (eO:List (aI×Int)) (n26:Int) (v31:ak):Option (((List aj)×(List (aI×Int))×Int)⊕((List aj)×Int)):=
 iter (fun x:Unit=>lS gz eO n26 v31) ()
def lT (ah:au) (gz:List aj) (eO:List (aI×Int)) (n26:Int) (v31:ak) (n42:Int):Option (Int⊕(((List aj)×(List (aI×Int))×Int)⊕((List aj)×Int))):=
 if n42 < (v31.bf.length:Int) then
  (idx v31.bf n42).bind fun Ju=>
  if (bB Ju ah)=true then
   none
  else
   some (.inl (aT (n42+(1:Int))))
 else
  Option.map .inr (xu gz eO n26 v31)
def xv (ah:au) (gz:List aj) (eO:List (aI×Int)) (n26:Int) (v31:ak) (n42:Int):Option (((List aj)×(List (aI×Int))×Int)⊕((List aj)×Int)):=
 iter (fun x:Int=>lT ah gz eO n26 v31 x) n42
def lU (ah:au) (gz:List aj) (eO:List (aI×Int)) (n26:Int) (v31:ak) (n39:Int):Option (Int⊕(((List aj)×(List (aI×Int))×Int)⊕((List aj)×Int))):=
 if n39 < (v31.aD.length:Int) then
  (idx v31.aD n39).bind fun v40=>
  if (bB v40 ah)=true then
   none
  else
   some (.inl (aT (n39+(1:Int))))
 else
  Option.map .inr (xv ah gz eO n26 v31 (0:Int))
def xw (ah:au) (gz:List aj) (eO:List (aI×Int)) (n26:Int) (v31:ak) (n39:Int):Option (((List aj)×(List (aI×Int))×Int)⊕((List aj)×Int)):=
 iter (fun x:Int=>lU ah gz eO n26 v31 x) n39
def jv (n51:Int) (G6:List aj):Option (((List aj)×Int)⊕(((List aj)×(List (aI×Int))×Int)⊕((List aj)×Int))):=
 some (.inl (G6,aT (n51+(1:Int))))
def jw (n62:Int) (TJ:List aj):Option (((List aj)×Int)⊕(((List aj)×(List (aI×Int))×Int)⊕((List aj)×Int))):=
 some (.inl (TJ,aT (n62+(1:Int))))
def eP (ah:au) (gz:List aj) (eO:List (aI×Int)) (n26:Int) (v31:ak) (n37:Int) (Pz:List aj) (QR:Int):Option (((List aj)×Int)⊕(((List aj)×(List (aI×Int))×Int)⊕((List aj)×Int))):=
 if QR < (v31.eV.length:Int) then
  (idx v31.eV QR).bind fun v76=>
  (idx Pz n37).bind fun v78=>
  some (.inl (Pz.set n37.toNat (⟨v78.a8,v78.bS,v78.dh,v78.bV,aT (v78.Time+(max (0:Int) (aT ((min v76.To ah.To) - (max v76.bg ah.bg)))))⟩:aj),aT (QR+(1:Int))))
 else
  Option.map .inr (bt n26 Pz (gV eO v31.aR.aN (gz.length:Int)))
def oD (ah:au) (gz:List aj) (eO:List (aI×Int)) (n26:Int) (v31:ak) (n37:Int) (Pz:List aj) (QR:Int):Option (((List aj)×(List (aI×Int))×Int)⊕((List aj)×Int)):=
 iter (fun x:(List aj)×Int=>eP ah gz eO n26 v31 n37 x.1 x.2) (Pz,QR)
def eQ (ah:au) (gz:List aj) (eO:List (aI×Int)) (n26:Int) (v31:ak) (n37:Int) (MY:List aj) (n62:Int):Option (((List aj)×Int)⊕(((List aj)×(List (aI×Int))×Int)⊕((List aj)×Int))):=
 if n62 < (v31.bf.length:Int) then
  (idx v31.bf n62).bind fun v63=>
  if (bB v63 ah)=true then
   (idx MY n37).bind fun v66=>
   (idx v31.aW n62).bind fun G9=>
   jw n62 ((MY.set n37.toNat (⟨v66.a8,v66.bS,aT (v66.dh+(1:Int)),v66.bV,v66.Time⟩:aj)).set n37.toNat (⟨v66.a8,v66.bS,aT (v66.dh+(1:Int)),aT (v66.bV+G9),v66.Time⟩:aj))
  else
   jw n62 MY
 else
  Option.map .inr (oD ah gz eO n26 v31 n37 MY (0:Int))
def oE (ah:au) (gz:List aj) (eO:List (aI×Int)) (n26:Int) (v31:ak) (n37:Int) (MY:List aj) (n62:Int):Option (((List aj)×(List (aI×Int))×Int)⊕((List aj)×Int)):=
 iter (fun x:(List aj)×Int=>eQ ah gz eO n26 v31 n37 x.1 x.2) (MY,n62)
def eR (ah:au) (gz:List aj) (eO:List (aI×Int)) (n26:Int) (v31:ak) (n37:Int) (MZ:List aj) (n51:Int):Option (((List aj)×Int)⊕(((List aj)×(List (aI×Int))×Int)⊕((List aj)×Int))):=
 if n51 < (v31.aD.length:Int) then
  (idx v31.aD n51).bind fun BU=>
  if (bB BU ah)=true then
   (idx MZ n37).bind fun v55=>
   jv n51 (MZ.set n37.toNat (⟨v55.a8,aT (v55.bS+(1:Int)),v55.dh,v55.bV,v55.Time⟩:aj))
  else
   jv n51 MZ
 else
  Option.map .inr (oE ah gz eO n26 v31 n37 MZ (0:Int))
def lV (ah:au) (gz:List aj) (eO:List (aI×Int)) (n26:Int) (v31:ak) (n37:Int) (MZ:List aj) (n51:Int):Option (((List aj)×(List (aI×Int))×Int)⊕((List aj)×Int)):=
 iter (fun x:(List aj)×Int=>eR ah gz eO n26 v31 n37 x.1 x.2) (MZ,n51)
def kQ (gz:List aj) (eO:List (aI×Int)) (n26:Int) (v31:ak):Option (Unit⊕(((List aj)×(List (aI×Int))×Int)⊕((List aj)×Int))):=
 if (0:Int) < (v31.eV.length:Int) then
  (idx v31.eV (0:Int)).bind fun v87=>
  none
 else
  Option.map .inr (bt n26 gz eO)
def wL (gz:List aj) (eO:List (aI×Int)) (n26:Int) (v31:ak):Option (((List aj)×(List (aI×Int))×Int)⊕((List aj)×Int)):=
 iter (fun x:Unit=>kQ gz eO n26 v31) ()
def lW (ah:au) (gz:List aj) (eO:List (aI×Int)) (n26:Int) (v31:ak) (QS:Int):Option (Int⊕(((List aj)×(List (aI×Int))×Int)⊕((List aj)×Int))):=
 if QS < (v31.bf.length:Int) then
  (idx v31.bf QS).bind fun v86=>
  if (bB v86 ah)=true then
   none
  else
   some (.inl (aT (QS+(1:Int))))
 else
  Option.map .inr (wL gz eO n26 v31)
def xx (ah:au) (gz:List aj) (eO:List (aI×Int)) (n26:Int) (v31:ak) (QS:Int):Option (((List aj)×(List (aI×Int))×Int)⊕((List aj)×Int)):=
 iter (fun x:Int=>lW ah gz eO n26 v31 x) QS
def lX (ah:au) (gz:List aj) (eO:List (aI×Int)) (n26:Int) (v31:ak) (QT:Int):Option (Int⊕(((List aj)×(List (aI×Int))×Int)⊕((List aj)×Int))):=
 if QT < (v31.aD.length:Int) then
  (idx v31.aD QT).bind fun v83=>
  if (bB v83 ah)=true then
   none
  else
   some (.inl (aT (QT+(1:Int))))
 else
  Option.map .inr (xx ah gz eO n26 v31 (0:Int))
def xy (ah:au) (gz:List aj) (eO:List (aI×Int)) (n26:Int) (v31:ak) (QT:Int):Option (((List aj)×(List (aI×Int))×Int)⊕((List aj)×Int)):=
 iter (fun x:Int=>lX ah gz eO n26 v31 x) QT
def jx (Kb:Int) (TK:List aj):Option (((List aj)×Int)⊕(((List aj)×(List (aI×Int))×Int)⊕((List aj)×Int))):=
 some (.inl (TK,aT (Kb+(1:Int))))
def jy (n105:Int) (Lu:List aj):Option (((List aj)×Int)⊕(((List aj)×(List (aI×Int))×Int)⊕((List aj)×Int))):=
 some (.inl (Lu,aT (n105+(1:Int))))
def ed (ah:au) (eO:List (aI×Int)) (n26:Int) (v31:ak) (vC:Int) (FD:List aj) (n118:Int):Option (((List aj)×Int)⊕(((List aj)×(List (aI×Int))×Int)⊕((List aj)×Int))):=
 if n118 < (v31.eV.length:Int) then
  (idx v31.eV n118).bind fun Lv=>
  (idx FD vC).bind fun AJ=>
  some (.inl (FD.set vC.toNat (⟨AJ.a8,AJ.bS,AJ.dh,AJ.bV,aT (AJ.Time+(max (0:Int) (aT ((min Lv.To ah.To) - (max Lv.bg ah.bg)))))⟩:aj),aT (n118+(1:Int))))
 else
  Option.map .inr (bt n26 FD eO)
def nF (ah:au) (eO:List (aI×Int)) (n26:Int) (v31:ak) (vC:Int) (FD:List aj) (n118:Int):Option (((List aj)×(List (aI×Int))×Int)⊕((List aj)×Int)):=
 iter (fun x:(List aj)×Int=>ed ah eO n26 v31 vC x.1 x.2) (FD,n118)
def ee (ah:au) (eO:List (aI×Int)) (n26:Int) (v31:ak) (vC:Int) (BV:List aj) (n105:Int):Option (((List aj)×Int)⊕(((List aj)×(List (aI×Int))×Int)⊕((List aj)×Int))):=
 if n105 < (v31.bf.length:Int) then
  (idx v31.bf n105).bind fun TN=>
  if (bB TN ah)=true then
   (idx BV vC).bind fun v109=>
   (idx v31.aW n105).bind fun Ox=>
   jy n105 ((BV.set vC.toNat (⟨v109.a8,v109.bS,aT (v109.dh+(1:Int)),v109.bV,v109.Time⟩:aj)).set vC.toNat (⟨v109.a8,v109.bS,aT (v109.dh+(1:Int)),aT (v109.bV+Ox),v109.Time⟩:aj))
  else
   jy n105 BV
 else
  Option.map .inr (nF ah eO n26 v31 vC BV (0:Int))
def nG (ah:au) (eO:List (aI×Int)) (n26:Int) (v31:ak) (vC:Int) (BV:List aj) (n105:Int):Option (((List aj)×(List (aI×Int))×Int)⊕((List aj)×Int)):=
 iter (fun x:(List aj)×Int=>ee ah eO n26 v31 vC x.1 x.2) (BV,n105)
def ef (ah:au) (eO:List (aI×Int)) (n26:Int) (v31:ak) (vC:Int) (M0:List aj) (Kb:Int):Option (((List aj)×Int)⊕(((List aj)×(List (aI×Int))×Int)⊕((List aj)×Int))):=
 if Kb < (v31.aD.length:Int) then
  (idx v31.aD Kb).bind fun v95=>
  if (bB v95 ah)=true then
   (idx M0 vC).bind fun Gu=>
   jx Kb (M0.set vC.toNat (⟨Gu.a8,aT (Gu.bS+(1:Int)),Gu.dh,Gu.bV,Gu.Time⟩:aj))
  else
   jx Kb M0
 else
  Option.map .inr (nG ah eO n26 v31 vC M0 (0:Int))
def nH (ah:au) (eO:List (aI×Int)) (n26:Int) (v31:ak) (vC:Int) (M0:List aj) (Kb:Int):Option (((List aj)×(List (aI×Int))×Int)⊕((List aj)×Int)):=
 iter (fun x:(List aj)×Int=>ef ah eO n26 v31 vC x.1 x.2) (M0,Kb)
def gu (gz:List aj) (QU:aI×Int) (DG:List aj):Option ((List aj)⊕((List aj)×Int)):=
 (idx gz QU.2).bind fun v130=>
 (app DG [v130]).bind fun TO=>
 some (.inl TO)
def gw (DG:List aj):Option ((List aj)×Int):=
 (kD DG.length (fun r:(List aj)=>r.length) (fX DG (fun y0 y1=>some (ju y0 y1)))).bind fun Oy=>
 some (Oy,(0:Int))
def nI (gz:List aj) (eO:List (aI×Int)) (DG:List aj):Option ((List aj)×Int):=
 Av eO (fun p=>r5 (fun e (x:(List aj))=>gu gz e x) (fun x:(List aj)=>gw x) p DG)
def dU (ah:au) (kA:List ak) (gz:List aj) (eO:List (aI×Int)) (n26:Int):Option (((List aj)×(List (aI×Int))×Int)⊕((List aj)×Int)):=
 if n26 < (kA.length:Int) then
  (idx kA n26).bind fun v31=>
  tu (eB eO v31.aR.aN) (
   (BP gz.length (eO.map Prod.snd)).bind fun u34=>
   tu (eB (gV eO v31.aR.aN (gz.length:Int)) v31.aR.aN) (
    xw ah gz eO n26 v31 (0:Int)) (fun n37=>
    lV ah gz eO n26 v31 n37 (gz++[(⟨v31.aR.aN,(0:Int),(0:Int),(0:Int),(0:Int)⟩:aj)]) (0:Int))) (fun n32=>
   tu (eB eO v31.aR.aN) (
    xy ah gz eO n26 v31 (0:Int)) (fun vC=>
    nH ah eO n26 v31 vC gz (0:Int)))
 else
  Option.map .inr (nI gz eO [])
def lY (ah:au) (kA:List ak) (gz:List aj) (eO:List (aI×Int)) (n26:Int):Option ((List aj)×Int):=
 iter (fun x:(List aj)×(List (aI×Int))×Int=>dU ah kA x.1 x.2.1 x.2.2) (gz,eO,n26)
def iK (ab:List Signal) (ah:au):Option ((List aj)×Int):=
 (ec ab).bind fun v5=>
 if v5≠(0:Int) then
  some ([],v5)
 else
  if (!(pF ah))=true then
   some ([],(1:Int))
  else
   (qY ab (345686400000:Int)).bind fun v9=>
   (idxs v9.BS v9.jX).bind fun kA=>
   lY ah kA [] [] (0:Int)
def mI (c2:Bool):Int:=
 if c2=true then
  (1:Int)
 else
  (0:Int)
def iw (ab:au):Int:=
 mI ((!(zm ab.bg (0:Int) ab.To))||(decide ((345686400000:Int) < ab.To)))
def nw (ab:List Int) (n2:Int):Option (Int⊕Int):=
 if n2 < (ab.length:Int) then
  (idx ab n2).bind fun v3=>
  if v3≠(0:Int) then
   Option.map .inr (some v3)
  else
   some (.inl (aT (n2+(1:Int))))
 else
  Option.map .inr (some (0:Int))
def zn (ab:List Int) (n2:Int):Option Int:=
 iter (fun x:Int=>nw ab x) n2
def qC (ab:List Int):Option Int:=
 zn ab (0:Int)
def mJ (c1:Bool):Bool:=
 c1
def iy (ab:an) (ah:Signal):Bool:=
 mJ ((decide (ab.aK=ah.Device))&&(decide (ab.aN=ah.a8)))
def cF (ab:List an) (oL:an→Option Bool) (n2:Int):Option (Int⊕Int):=
 if n2 < (ab.length:Int) then
  (idx ab n2).bind fun v3=>
  (oL v3).bind fun v4=>
  if v4=true then
   Option.map .inr (some n2)
  else
   some (.inl (aT (n2+(1:Int))))
 else
  Option.map .inr (some (-1:Int))
def mR (ab:List an) (oL:an→Option Bool) (n2:Int):Option Int:=
 iter (fun x:Int=>cF ab oL x) n2
def dm (ab:List an) (oL:an→Option Bool):Option Int:=
 mR ab oL (0:Int)
def iX (ab:an) (ah:Signal) (n4:Int) (n5:Int) (n6:Int):Option (Int×an):=
 (app ab.bq [ah]).bind fun tz=>
 some ((0:Int),(⟨ab.aK,ab.aN,tz,n4,(⟨n5,n6⟩:au)⟩:an))
def fQ (ab:an) (ah:Signal) (n7:Int) (n8:Int) (n9:Int):Option (Int×an):=
 iX ab ah n7 n8 n9
def iY (ab:an) (ah:Signal) (n12:Int) (n13:Int) (n14:Int):Option (Int×an):=
 fQ ab ah n12 n13 n14
def nx (ab:an) (ah:Signal) (Lw:Bool):Option (Int×an):=
 if Lw=true then
  some ((11:Int),ab)
 else
  (yQ (gV (gV ([]:List (Int×Int)) (1:Int) (2:Int)) (3:Int) (0:Int)) ab.az (0:Int)).bind fun v17=>
  iY ab ah v17 ab.ay.bg ab.ay.To
def k7 (ab:an) (ah:Signal) (n18:Int) (n19:Int):Option (Int×an):=
 iY ab ah ab.az n18 n19
def ny (ab:an) (ah:Signal) (c2:Bool) (c3:Bool):Option (Int×an):=
 if ah.Kind=(1:Int) then
  if c2=true then
   some ((6:Int),ab)
  else
   iX ab ah (1:Int) ab.ay.bg ab.ay.To
 else
  if ah.Kind=(2:Int) then
   if (!c2)=true then
    some ((11:Int),ab)
   else
    (yQ (gV (gV ([]:List (Int×Int)) (1:Int) (3:Int)) (2:Int) (0:Int)) ab.az (0:Int)).bind fun v11=>
    fQ ab ah v11 ab.ay.bg ab.ay.To
  else
   if ah.Kind=(3:Int) then
    nx ab ah ((decide (ab.az≠(1:Int)))&&(decide (ab.az≠(3:Int))))
   else
    if ah.Kind=(4:Int) then
     if c3=true then
      some ((11:Int),ab)
     else
      k7 ab ah ah.At ah.aV
    else
     if (!c3)=true then
      some ((11:Int),ab)
     else
      k7 ab ah (0:Int) (0:Int)
def nz (ab:an) (ah:Signal) (c2:Bool):Option (Int×an):=
 ny ab ah c2 ((decide (ab.ay.bg≤ah.At))&&(decide (ah.At < ab.ay.To)))
def oF (ab:an) (ah:Signal):Option (Int×an):=
 nz ab ah ((decide (ab.az=(1:Int)))||(decide (ab.az=(2:Int))))
def ly (ab:an) (ah:an):Option Int:=
 (jF [(Lib.compareBytes ab.aK ah.aK),(Lib.compareBytes ab.aN ah.aN)]).bind fun v1=>
 some v1
def jG (l4:List an) (l8:List Int) (l10:List cd):Option ((List an)×(List cd)):=
 (Fi (fun y0 y1=>ly y0 y1) l4 l8).bind fun VK=>
 (idxs l4 VK).bind fun l56=>
 some (l56,l10)
def mZ (n26:Int) (Lx:List an) (o6:List Int) (v46:Int) (bI:Int×an) (R9:List cd):Option (((List an)×(List Int)×(List cd)×Int)⊕((List an)×(List cd))):=
 some (.inl (Lx.set v46.toNat bI.2,o6,R9,aT (n26+(1:Int))))
def lz (eO:List cd) (n26:Int) (Ha:Signal) (Lx:List an) (o6:List Int) (n38:Int):Option (((List an)×(List Int)×(List cd)×Int)⊕((List an)×(List cd))):=
 (idx o6 n38).bind fun v46=>
 (idx Lx v46).bind fun j9=>
 (oF j9 Ha).bind fun bI=>
 if bI.1≠(0:Int) then
  (app eO [(⟨n26,bI.1⟩:cd)]).bind fun G6=>
  mZ n26 Lx o6 v46 bI G6
 else
  mZ n26 Lx o6 v46 bI eO
def lA (ab:List Signal) (ah:Int) (nU:List an) (xq:List Int) (eO:List cd) (n26:Int):Option (((List an)×(List Int)×(List cd)×Int)⊕((List an)×(List cd))):=
 if n26 < (ab.length:Int) then
  (idx ab n26).bind fun Ha=>
  if ah < Ha.At then
   Option.map .inr (jG nU xq eO)
  else
   (idxs nU xq).bind fun TC=>
   (dm TC (fun y0=>some (iy y0 Ha))).bind fun v32=>
   if v32 < (0:Int) then
    (BP nU.length xq).bind fun u41=>
    (app xq [(nU.length:Int)]).bind fun FC=>
    lz eO n26 Ha (nU++[(⟨Ha.Device,Ha.a8,[],(0:Int),(⟨(0:Int),(0:Int)⟩:au)⟩:an)]) FC (xq.length:Int)
   else
    lz eO n26 Ha nU xq v32
 else
  Option.map .inr (jG nU xq eO)
def wh (ab:List Signal) (ah:Int) (nU:List an) (xq:List Int) (eO:List cd) (n26:Int):Option ((List an)×(List cd)):=
 iter (fun x:(List an)×(List Int)×(List cd)×Int=>lA ab ah x.1 x.2.1 x.2.2.1 x.2.2.2) (nU,xq,eO,n26)
def nJ (ab:List Signal) (ah:Int):Option ((List an)×(List cd)):=
 wh ab ah [] [] [] (0:Int)
def fF (ab:List aI):Option (List aI):=
 app [] ab
def fZ (ab:List aI):Option (List aI):=
 Ap BM ab
def dW (n11:Int) (om:List aI) (n15:Int):Option (((List aI)×Int×Int)⊕(Int⊕(List aI))):=
 some (.inl (om,n15,aT (n11+(1:Int))))
def jK (l9:List aI) (n10:Int):Option (Int⊕(List aI)):=
 (sy l9 n10 (l9.length:Int)).bind fun uh=>
 (sy (Ck l9 n10 uh.length []) (0:Int) n10).bind fun nU=>
 Option.map .inr (some nU)
def dX (n2:Int) (l5:List aI) (l9:List aI) (n10:Int) (n11:Int):Option (((List aI)×Int×Int)⊕(Int⊕(List aI))):=
 if n11 < (l5.length:Int) then
  (rI l9 n2 l5.length n11).bind fun v12=>
  (rI l9 n2 l5.length (aT (n11 - (1:Int)))).bind fun oO=>
  if v12≠oO then
   (rI l9 n2 l5.length n11).bind fun oh=>
   (idx l9 n10).bind fun v17=>
   dW n11 (l9.set n10.toNat oh) (aT (n10+(1:Int)))
  else
   dW n11 l9 n10
 else
  Option.map .inr (jK l9 n10)
def oP (n2:Int) (l5:List aI) (l9:List aI) (n10:Int) (n11:Int):Option (Int⊕(List aI)):=
 iter (fun x:(List aI)×Int×Int=>dX n2 l5 x.1 x.2.1 x.2.2) (l9,n10,n11)
def dY (ab:List aI) (n2:Int):Option (Int⊕(List aI)):=
 if n2 < (ab.length:Int) then
  (idx ab n2).bind fun v3=>
  (idx ab (aT (n2 - (1:Int)))).bind fun v4=>
  if v3=v4 then
   (sy ab n2 (ab.length:Int)).bind fun l5=>
   oP n2 l5 ab n2 (1:Int)
  else
   some (.inl (aT (n2+(1:Int))))
 else
  Option.map .inr (some ab)
def oQ (ab:List aI) (n2:Int):Option (List aI):=
 iter (fun x:Int=>dY ab x) n2
def ff (ab:List aI):Option (List aI):=
 if (ab.length:Int) < (2:Int) then
  some ab
 else
  oQ ab (1:Int)
def AL (ab:List aI):Option (List aI):=
 (fF ab).bind fun v1=>
 (kD v1.length (fun r:(List aI)=>r.length) (fZ v1)).bind fun v3=>
 (ff v3).bind fun v4=>
 some v4
def vD (c2:Bool):Bool:=
 c2
def yk (ab:fb):Bool:=
 vD ((decide (ab.State=(1:Int)))||(decide (ab.State=(2:Int))))
def mS (ab:List Int):Option (List Int):=
 Ap Aq ab
def ga (n11:Int) (om:List Int) (n15:Int):Option (((List Int)×Int×Int)⊕(Int⊕(List Int))):=
 some (.inl (om,n15,aT (n11+(1:Int))))
def mO (l9:List Int) (n10:Int):Option (Int⊕(List Int)):=
 (sy l9 n10 (l9.length:Int)).bind fun uh=>
 (sy (Ck l9 n10 uh.length (0:Int)) (0:Int) n10).bind fun nU=>
 Option.map .inr (some nU)
def gb (n2:Int) (l5:List Int) (l9:List Int) (n10:Int) (n11:Int):Option (((List Int)×Int×Int)⊕(Int⊕(List Int))):=
 if n11 < (l5.length:Int) then
  (rI l9 n2 l5.length n11).bind fun v12=>
  (rI l9 n2 l5.length (aT (n11 - (1:Int)))).bind fun oO=>
  if v12≠oO then
   (rI l9 n2 l5.length n11).bind fun oh=>
   (idx l9 n10).bind fun v17=>
   ga n11 (l9.set n10.toNat oh) (aT (n10+(1:Int)))
  else
   ga n11 l9 n10
 else
  Option.map .inr (mO l9 n10)
def rK (n2:Int) (l5:List Int) (l9:List Int) (n10:Int) (n11:Int):Option (Int⊕(List Int)):=
 iter (fun x:(List Int)×Int×Int=>gb n2 l5 x.1 x.2.1 x.2.2) (l9,n10,n11)
def gd (ab:List Int) (n2:Int):Option (Int⊕(List Int)):=
 if n2 < (ab.length:Int) then
  (idx ab n2).bind fun v3=>
  (idx ab (aT (n2 - (1:Int)))).bind fun v4=>
  if v3=v4 then
   (sy ab n2 (ab.length:Int)).bind fun l5=>
   rK n2 l5 ab n2 (1:Int)
  else
   some (.inl (aT (n2+(1:Int))))
 else
  Option.map .inr (some ab)
def rO (ab:List Int) (n2:Int):Option (List Int):=
 iter (fun x:Int=>gd ab x) n2
def im (ab:List Int):Option (List Int):=
 if (ab.length:Int) < (2:Int) then
  some ab
 else
  rO ab (1:Int)
def iL (n7:Int) (sr:List Int):Option (((List Int)×Int)⊕(List Int)):=
 some (.inl (sr,aT (n7+(1:Int))))
def iM (l6:List Int):Option (List Int):=
 (kD l6.length (fun r:(List Int)=>r.length) (mS l6)).bind fun oh=>
 (im oh).bind fun v17=>
 some v17
def dc (ab:List Signal) (l6:List Int) (n7:Int):Option (((List Int)×Int)⊕(List Int)):=
 if n7 < (ab.length:Int) then
  (idx ab n7).bind fun v8=>
  (app l6 [v8.At]).bind fun l10=>
  if v8.Kind=(4:Int) then
   (app l10 [v8.aV]).bind fun om=>
   iL n7 om
  else
   iL n7 l10
 else
  Option.map .inr (iM l6)
def qZ (ab:List Signal) (l6:List Int) (n7:Int):Option (List Int):=
 iter (fun x:(List Int)×Int=>dc ab x.1 x.2) (l6,n7)
def k8 (ab:List Signal):Option (List Int):=
 qZ ab [(0:Int),(345686400000:Int)] (0:Int)
def kf (n8:Int) (n11:Int) (n12:Int):Option ((Int×Int×Int)⊕fb):=
 some (.inl (n11,n12,aT (n8+(1:Int))))
def kh (n7:Int) (n8:Int) (v9:Signal) (n11:Int):Option ((Int×Int×Int)⊕fb):=
 if v9.Kind=(1:Int) then
  kf n8 n11 (aT (n7+(1:Int)))
 else
  kf n8 n11 n7
def ki (ab:an) (n6:Int) (n7:Int) (n14:Int):Option fb:=
 some (⟨ab.aK,ab.aN,ab.az,n6,n7,n14⟩:fb)
def kj (ab:an) (n6:Int) (n7:Int) (Ls:Bool):Option fb:=
 if Ls=true then
  ki ab n6 n7 ab.ay.To
 else
  ki ab n6 n7 (0:Int)
def ey (ab:an) (ah:Int) (n6:Int) (n7:Int) (n8:Int):Option ((Int×Int×Int)⊕fb):=
 if n8 < (ab.bq.length:Int) then
  (idx ab.bq n8).bind fun v9=>
  if v9.Kind≤(3:Int) then
   kh n7 n8 v9 v9.At
  else
   kh n7 n8 v9 n6
 else
  Option.map .inr (kj ab n6 n7 ((decide (ab.ay.bg≤ah))&&(decide (ah < ab.ay.To))))
def sK (ab:an) (ah:Int) (n6:Int) (n7:Int) (n8:Int):Option fb:=
 iter (fun x:Int×Int×Int=>ey ab ah x.1 x.2.1 x.2.2) (n6,n7,n8)
def na (ab:an) (ah:Int):Option fb:=
 sK ab ah (0:Int) (0:Int) (0:Int)
def qD (bE:Int) (n5:Int) (v6:an) (c7:Bool):Option (Int⊕fb):=
 if c7=true then
  (na v6 bE).bind fun v8=>
  Option.map .inr (some v8)
 else
  some (.inl (aT (n5+(1:Int))))
def kR (ah:aI) (aO:aI) (bE:Int) (v2:(List an)×(List cd)) (n5:Int):Option (Int⊕fb):=
 if n5 < (v2.1.length:Int) then
  (idx v2.1 n5).bind fun v6=>
  qD bE n5 v6 ((decide (v6.aK=ah))&&(decide (v6.aN=aO)))
 else
  Option.map .inr (some (⟨ah,aO,(0:Int),(0:Int),(0:Int),(0:Int)⟩:fb))
def xz (ah:aI) (aO:aI) (bE:Int) (v2:(List an)×(List cd)) (n5:Int):Option fb:=
 iter (fun x:Int=>kR ah aO bE v2 x) n5
def sL (ab:List Signal) (ah:aI) (aO:aI) (bE:Int):Option fb:=
 (nJ ab bE).bind fun v2=>
 xz ah aO bE v2 (0:Int)
def kS (n8:Int) (iU:List au):Option (((List au)×Int)⊕(List au)):=
 some (.inl (iU,aT (n8+(1:Int))))
def mK (n8:Int) (nU:List au):Option (((List au)×Int)⊕(List au)):=
 kS n8 nU
def kT (v1:(List Int)) (l7:List au) (n8:Int) (Lw:Bool):Option (((List au)×Int)⊕(List au)):=
 if Lw=true then
  (idx v1 (aT (n8+(1:Int)))).bind fun v20=>
  (idx l7 (aT ((l7.length:Int) - (1:Int)))).bind fun v21=>
  mK n8 (l7.set (aT ((l7.length:Int) - (1:Int))).toNat (⟨v21.bg,v20⟩:au))
 else
  (idx v1 n8).bind fun v22=>
  (idx v1 (aT (n8+(1:Int)))).bind fun v23=>
  (app l7 [(⟨v22,v23⟩:au)]).bind fun Xd=>
  mK n8 Xd
def fG (ab:List Signal) (ah:aI) (aO:aI) (mB:fb→Option Bool) (v1:(List Int)) (l7:List au) (n8:Int):Option (((List au)×Int)⊕(List au)):=
 if n8 < (aT ((v1.length:Int) - (1:Int))) then
  (idx v1 n8).bind fun v12=>
  (sL ab ah aO v12).bind fun oO=>
  (mB oO).bind fun mC=>
  if (!mC)=true then
   kS n8 l7
  else
   if (0:Int) < (l7.length:Int) then
    (idx l7 (aT ((l7.length:Int) - (1:Int)))).bind fun oh=>
    (idx v1 n8).bind fun v17=>
    kT v1 l7 n8 (decide (oh.To=v17))
   else
    kT v1 l7 n8 false
 else
  Option.map .inr (some l7)
def xA (ab:List Signal) (ah:aI) (aO:aI) (mB:fb→Option Bool) (v1:(List Int)) (l7:List au) (n8:Int):Option (List au):=
 iter (fun x:(List au)×Int=>fG ab ah aO mB v1 x.1 x.2) (l7,n8)
def sM (ab:List Signal) (ah:aI) (aO:aI) (mB:fb→Option Bool):Option (List au):=
 (k8 ab).bind fun v1=>
 xA ab ah aO mB v1 [] (0:Int)
def nf (ab:List Signal) (ah:aI) (aO:aI):Option (List au):=
 (sM ab ah aO (fun y0=>some (yk y0))).bind fun v1=>
 some v1
def yW (ab:au) (ah:au):au×Bool:=
 ((⟨max ab.bg ah.bg,min ab.To ah.To⟩:au),decide ((max ab.bg ah.bg) < (min ab.To ah.To)))
def gR (n35:Int) (n36:Int) (n37:Int) (n38:Int) (n39:Int):Option ((Int×Int×Int×Int×Int)⊕(((List aj)×Int)⊕(List aj))):=
 some (.inl (n36,n37,n38,n39,aT (n35+(1:Int))))
def k9 (n50:Int) (TP:Int) (TQ:Int) (TR:Int) (TS:Int):Option ((Int×Int×Int×Int×Int)⊕((Int×Int×Int×Int×Int)⊕(((List aj)×Int)⊕(List aj)))):=
 some (.inl (TP,TQ,TR,TS,aT (n50+(1:Int))))
def lf (n47:Int) (n48:Int) (n50:Int) (v51:Signal) (n57:Int):Option ((Int×Int×Int×Int×Int)⊕((Int×Int×Int×Int×Int)⊕(((List aj)×Int)⊕(List aj)))):=
 k9 n50 n57 n47 n48 v51.At
def lg (n46:Int) (n49:Int) (n50:Int) (Sa:Int) (n59:Int):Option ((Int×Int×Int×Int×Int)⊕((Int×Int×Int×Int×Int)⊕(((List aj)×Int)⊕(List aj)))):=
 k9 n50 n46 Sa n59 n49
def lh (n46:Int) (n49:Int) (n50:Int) (n60:Int) (n61:Int):Option ((Int×Int×Int×Int×Int)⊕((Int×Int×Int×Int×Int)⊕(((List aj)×Int)⊕(List aj)))):=
 lg n46 n49 n50 n60 n61
def lj (Kc:Int) (TT:Int):Option ((Int×Int)⊕((Int×Int×Int×Int×Int)⊕(((List aj)×Int)⊕(List aj)))):=
 some (.inl (TT,aT (Kc+(1:Int))))
def fR (ah:au) (n35:Int) (n46:Int) (n47:Int) (n48:Int) (Hb:(List au)) (M1:Int) (Kc:Int):Option ((Int×Int)⊕((Int×Int×Int×Int×Int)⊕(((List aj)×Int)⊕(List aj)))):=
 if Kc < (Hb.length:Int) then
  (idx Hb Kc).bind fun G9=>
  if ((yW G9 ah).2)=true then
   lj Kc (aT (M1+(aT ((((yW G9 ah).1).To) - (((yW G9 ah).1).bg)))))
  else
   lj Kc M1
 else
  Option.map .inr (gR n35 n46 n47 n48 M1)
def pV (ah:au) (n35:Int) (n46:Int) (n47:Int) (n48:Int) (Hb:(List au)) (M1:Int) (Kc:Int):Option ((Int×Int×Int×Int×Int)⊕(((List aj)×Int)⊕(List aj))):=
 iter (fun x:Int×Int=>fR ah n35 n46 n47 n48 Hb x.1 x.2) (M1,Kc)
def nA (ab:List Signal) (ah:au) (v24:aI) (n34:Int) (n35:Int) (v40:an) (n46:Int) (n47:Int) (n48:Int):Option ((Int×Int×Int×Int×Int)⊕(((List aj)×Int)⊕(List aj))):=
 (nf ab v40.aK v24).bind fun Hb=>
 pV ah n35 n46 n47 n48 Hb n34 (0:Int)
def fS (ab:List Signal) (ah:au) (v24:aI) (n34:Int) (n35:Int) (v40:an) (n46:Int) (n47:Int) (n48:Int) (n49:Int) (n50:Int):Option ((Int×Int×Int×Int×Int)⊕((Int×Int×Int×Int×Int)⊕(((List aj)×Int)⊕(List aj)))):=
 if n50 < (v40.bq.length:Int) then
  (idx v40.bq n50).bind fun v51=>
  if v51.Kind=(1:Int) then
   if (zm v51.At ah.bg (aT (ah.To - (1:Int))))=true then
    lf n47 n48 n50 v51 (aT (n46+(1:Int)))
   else
    lf n47 n48 n50 v51 n46
  else
   if v51.Kind=(3:Int) then
    if (zm v51.At ah.bg (aT (ah.To - (1:Int))))=true then
     lh n46 n49 n50 (aT (n47+(1:Int))) (aT (n48+(aT (v51.At - n49))))
    else
     lh n46 n49 n50 n47 n48
   else
    lg n46 n49 n50 n47 n48
 else
  Option.map .inr (nA ab ah v24 n34 n35 v40 n46 n47 n48)
def pW (ab:List Signal) (ah:au) (v24:aI) (n34:Int) (n35:Int) (v40:an) (n46:Int) (n47:Int) (n48:Int) (n49:Int) (n50:Int):Option ((Int×Int×Int×Int×Int)⊕(((List aj)×Int)⊕(List aj))):=
 iter (fun x:Int×Int×Int×Int×Int=>fS ab ah v24 n34 n35 v40 x.1 x.2.1 x.2.2.1 x.2.2.2.1 x.2.2.2.2) (n46,n47,n48,n49,n50)
def nB (qW:List aj) (n22:Int) (v24:aI) (n31:Int) (n32:Int) (n33:Int) (n34:Int):Option (((List aj)×Int)⊕(List aj)):=
 (app qW [(⟨v24,n31,n32,n33,n34⟩:aj)]).bind fun l72=>
 some (.inl (l72,aT (n22+(1:Int))))
def fT (ab:List Signal) (ah:au) (v2:(List an)×(List cd)) (qW:List aj) (n22:Int) (v24:aI) (n31:Int) (n32:Int) (n33:Int) (n34:Int) (n35:Int):Option ((Int×Int×Int×Int×Int)⊕(((List aj)×Int)⊕(List aj))):=
 if n35 < (v2.1.length:Int) then
  (idx v2.1 n35).bind fun v40=>
  if v40.aN≠v24 then
   gR n35 n31 n32 n33 n34
  else
   pW ab ah v24 n34 n35 v40 n31 n32 n33 (0:Int) (0:Int)
 else
  Option.map .inr (nB qW n22 v24 n31 n32 n33 n34)
def pX (ab:List Signal) (ah:au) (v2:(List an)×(List cd)) (qW:List aj) (n22:Int) (v24:aI) (n31:Int) (n32:Int) (n33:Int) (n34:Int) (n35:Int):Option (((List aj)×Int)⊕(List aj)):=
 iter (fun x:Int×Int×Int×Int×Int=>fT ab ah v2 qW n22 v24 x.1 x.2.1 x.2.2.1 x.2.2.2.1 x.2.2.2.2) (n31,n32,n33,n34,n35)
def fU (ab:List Signal) (ah:au) (v2:(List an)×(List cd)) (jP:(List aI)) (qW:List aj) (n22:Int):Option (((List aj)×Int)⊕(List aj)):=
 if n22 < (jP.length:Int) then
  (idx jP n22).bind fun v24=>
  pX ab ah v2 qW n22 v24 (0:Int) (0:Int) (0:Int) (0:Int) (0:Int)
 else
  Option.map .inr (some qW)
def pY (ab:List Signal) (ah:au) (v2:(List an)×(List cd)) (jP:(List aI)) (qW:List aj) (n22:Int):Option (List aj):=
 iter (fun x:(List aj)×Int=>fU ab ah v2 jP x.1 x.2) (qW,n22)
def nC (ab:List Signal) (ah:au) (v2:(List an)×(List cd)) (l8:List aI):Option (List aj):=
 (AL l8).bind fun jP=>
 pY ab ah v2 jP [] (0:Int)
def fV (ab:List Signal) (ah:au) (v2:(List an)×(List cd)) (l8:List aI) (n9:Int):Option (((List aI)×Int)⊕(List aj)):=
 if n9 < (ab.length:Int) then
  (idx ab n9).bind fun v11=>
  (app l8 [v11.a8]).bind fun sr=>
  some (.inl (sr,aT (n9+(1:Int))))
 else
  Option.map .inr (nC ab ah v2 l8)
def tN (ab:List Signal) (ah:au) (v2:(List an)×(List cd)) (l8:List aI) (n9:Int):Option (List aj):=
 iter (fun x:(List aI)×Int=>fV ab ah v2 x.1 x.2) (l8,n9)
def mL (ab:List Signal) (ah:au):Option (List aj):=
 (nJ ab (345686400000:Int)).bind fun v2=>
 tN ab ah v2 [] (0:Int)
def dZ (ab:List aj) (ah:List aj) (n2:Int):Option (Int⊕Bool):=
 if n2 < (ab.length:Int) then
  (idx ab n2).bind fun v3=>
  (idx ah n2).bind fun v4=>
  if v3≠v4 then
   Option.map .inr (some false)
  else
   some (.inl (aT (n2+(1:Int))))
 else
  Option.map .inr (some true)
def oR (ab:List aj) (ah:List aj) (n2:Int):Option Bool:=
 iter (fun x:Int=>dZ ab ah x) n2
def fg (ab:List aj) (ah:List aj):Option Bool:=
 if (ab.length:Int)≠(ah.length:Int) then
  some false
 else
  oR ab ah (0:Int)
def jz:(List aI):=
 [([114,97,105,115,101]:aI),([99,108,101,97,114]:aI),([97,99,107]:aI),([115,104,101,108,118,101]:aI),([117,110,115,104,101,108,118,101]:aI)]
def ll (ah:aI) (pG:List aI) (Sb:aI) (n21:Int):Option ((aI×Int)⊕aI):=
 if n21 < (pG.length:Int) then
  (idx pG n21).bind fun v22=>
  (zj Sb ah).bind fun TU=>
  (zj TU v22).bind fun DE=>
  some (.inl (DE,aT (n21+(1:Int))))
 else
  Option.map .inr (some Sb)
def pZ (ah:aI) (pG:List aI) (Sb:aI) (n21:Int):Option aI:=
 iter (fun x:aI×Int=>ll ah pG x.1 x.2) (Sb,n21)
def p9 (ab:List aI) (ah:aI) (n6:Int):Option aI:=
 (Lf n6).bind fun v10=>
 (idx ab (0:Int)).bind fun v12=>
 (zj ([]:aI) v12).bind fun QW=>
 (sy ab (1:Int) (ab.length:Int)).bind fun pG=>
 pZ ah pG QW (0:Int)
def ln (ab:List aI) (ah:aI) (n6:Int) (n7:Int):Option ((Int×Int)⊕aI):=
 if n7 < (ab.length:Int) then
  (idx ab n7).bind fun v8=>
  if (aT ((9223372036854775807:Int) - n6)) < (v8.length:Int) then
   none
  else
   some (.inl (aT (n6+(v8.length:Int)),aT (n7+(1:Int))))
 else
  Option.map .inr (p9 ab ah n6)
def qa (ab:List aI) (ah:aI) (n6:Int) (n7:Int):Option aI:=
 iter (fun x:Int×Int=>ln ab ah x.1 x.2) (n6,n7)
def iZ (ab:List aI) (ah:aI) (n2:Int):Option aI:=
 qa ab ah n2 (0:Int)
def strings_Join (ab:List aI) (ah:aI):Option aI:=
 if (ab.length:Int)=(0:Int) then
  some ([]:aI)
 else
  if (ab.length:Int)=(1:Int) then
   (idx ab (0:Int)).bind fun v1=>
   some v1
  else
   if (0:Int) < (ah.length:Int) then
    (quo (9223372036854775807:Int) (aT ((ab.length:Int) - (1:Int)))).bind fun n3=>
    if n3≤(ah.length:Int) then
     none
    else
     iZ ab ah (aT ((0:Int)+(aT ((ah.length:Int) * (aT ((ab.length:Int) - (1:Int)))))))
   else
    iZ ab ah (0:Int)
def lB (q6:aI) (n8:Int) (nU:List aI):Option ((aI×Int)⊕(aI×Int)):=
 (strings_Join nU ([32]:aI)).bind fun v23=>
 (zi v23 ([10]:aI)).bind fun TW=>
 (zj q6 TW).bind fun DE=>
 some (.inl (DE,aT (n8+(1:Int))))
def lC (q6:aI) (n8:Int) (v9:Signal) (pG:List aI):Option ((aI×Int)⊕(aI×Int)):=
 if v9.Kind=(4:Int) then
  (wg v9.aV).bind fun v20=>
  (app pG [v20]).bind fun qW=>
  lB q6 n8 qW
 else
  lB q6 n8 pG
def pk (q6:aI):Option (aI×Int):=
 if (200000:Int) < (q6.length:Int) then
  some (([]:aI),(2:Int))
 else
  some (q6,(0:Int))
def iz (ab:List Signal) (q6:aI) (n8:Int):Option ((aI×Int)⊕(aI×Int)):=
 if n8 < (ab.length:Int) then
  (idx ab n8).bind fun v9=>
  (wg v9.At).bind fun v11=>
  (idx jz (aT (v9.Kind - (1:Int)))).bind fun v12=>
  if (3:Int)≤v9.Kind then
   (app [v11,v9.Device,v9.a8,v12] [v9.By]).bind fun kA=>
   lC q6 n8 v9 kA
  else
   lC q6 n8 v9 [v11,v9.Device,v9.a8,v12]
 else
  Option.map .inr (pk q6)
def su (ab:List Signal) (q6:aI) (n8:Int):Option (aI×Int):=
 iter (fun x:aI×Int=>iz ab x.1 x.2) (q6,n8)
def tA (ab:List Signal):Option (aI×Int):=
 (ec ab).bind fun v1=>
 if v1≠(0:Int) then
  some (([]:aI),v1)
 else
  su ab [] (0:Int)
def iA:(List aI):=
 [([]:aI),([114,97,105,115,101]:aI),([99,108,101,97,114]:aI),([97,99,107]:aI),([115,104,101,108,118,101]:aI),([117,110,115,104,101,108,118,101]:aI)]
def iB (q5:aI) (n7:Int) (uh:List aI):Option ((aI×Int)⊕aI):=
 (strings_Join uh ([32]:aI)).bind fun v22=>
 (zi v22 ([10]:aI)).bind fun TU=>
 (zj q5 TU).bind fun TW=>
 some (.inl (TW,aT (n7+(1:Int))))
def iC (q5:aI) (n7:Int) (v8:Signal) (om:List aI):Option ((aI×Int)⊕aI):=
 if v8.Kind=(4:Int) then
  (wg v8.aV).bind fun Bu=>
  (app om [Bu]).bind fun tz=>
  iB q5 n7 tz
 else
  iB q5 n7 om
def fr (ab:List Signal) (q5:aI) (n7:Int):Option ((aI×Int)⊕aI):=
 if n7 < (ab.length:Int) then
  (idx ab n7).bind fun v8=>
  (wg v8.At).bind fun v10=>
  (idx iA v8.Kind).bind fun v11=>
  if v8.By≠([]:aI) then
   (app [v10,v8.Device,v8.a8,v11] [v8.By]).bind fun pG=>
   iC q5 n7 v8 pG
  else
   iC q5 n7 v8 [v10,v8.Device,v8.a8,v11]
 else
  Option.map .inr (some q5)
def sN (ab:List Signal) (q5:aI) (n7:Int):Option aI:=
 iter (fun x:aI×Int=>fr ab x.1 x.2) (q5,n7)
def lD (ab:List Signal):Option aI:=
 sN ab [] (0:Int)
def lZ (ab:ar) (ah:aI) (aO:aI) (c1:Bool):Option (aI×ar):=
 if c1=true then
  some (aO,ab)
 else
  (eM ab (ah.length:Int)).bind fun v2=>
  (eM v2.2 (aO.length:Int)).bind fun v3=>
  (idx aO v3.1).bind fun c4=>
  (eM v3.2 (3:Int)).bind fun v5=>
  if v5.1=(0:Int) then
   (sy ah (0:Int) v2.1).bind fun l6=>
   (zi l6 (Jl (IntKind.i32.wrap ((c4.toNat:Int))))).bind fun q7=>
   (sy ah (aT (v2.1+(1:Int))) (ah.length:Int)).bind fun l8=>
   (zi q7 l8).bind fun q9=>
   some (q9,v5.2)
  else
   if v5.1=(1:Int) then
    (sy ah (0:Int) v2.1).bind fun l10=>
    (zi l10 (Jl (IntKind.i32.wrap ((c4.toNat:Int))))).bind fun VL=>
    (sy ah v2.1 (ah.length:Int)).bind fun sA=>
    (zi VL sA).bind fun QW=>
    some (QW,v5.2)
   else
    (sy ah (0:Int) v2.1).bind fun om=>
    (sy ah (aT (v2.1+(1:Int))) (ah.length:Int)).bind fun pG=>
    (zi om pG).bind fun q16=>
    some (q16,v5.2)
def mu (ab:ar) (ah:aI) (aO:aI):Option (aI×ar):=
 lZ ab ah aO ((decide (ah=([]:aI)))||(decide (aO=([]:aI))))
def fH (v7:Int×ar) (sA:List Int) (n13:Int) (Ek:aI) (n15:Int):Option (((List Int)×Int×aI×Int)⊕(aI×ar)):=
 if n15 < v7.1 then
  (mu (⟨sA,n13⟩:ar) Ek ([32,10,48,49,97,99,107,45]:aI)).bind fun oh=>
  some (.inl (oh.2.L,oh.2.at_,oh.1,aT (n15+(1:Int))))
 else
  Option.map .inr (some (Ek,(⟨sA,n13⟩:ar)))
def oG (v7:Int×ar) (sA:List Int) (n13:Int) (Ek:aI) (n15:Int):Option (aI×ar):=
 iter (fun x:(List Int)×Int×aI×Int=>fH v7 x.1 x.2.1 x.2.2.1 x.2.2.2) (sA,n13,Ek,n15)
def ez (v2:(List Signal)×ar) (q5:aI):Option (aI×ar):=
 (cY v2.2 [(0:Int),(0:Int),(1:Int),(2:Int)]).bind fun v7=>
 oG v7 v7.2.L v7.2.at_ q5 (0:Int)
def hZ (ab:ar):Option (aI×ar):=
 (jf ab (0:Int) (4:Int)).bind fun v1=>
 (kc v1.2 v1.1 false).bind fun v2=>
 (iI v2.1).bind fun v4=>
 if v4=(0:Int) then
  (lD v2.1).bind fun v6=>
  ez v2 v6
 else
  ez v2 ([49,48,32,100,97,32,114,97,32,115,104,101,108,118,101,32,97,110,110,32,50,48,10]:aI)
def jH (v1:(List aI)) (n5:Int):Option (Int⊕((List aI)×Bool)):=
 if n5 < (v1.length:Int) then
  (idx v1 n5).bind fun v6=>
  if v6=([]:aI) then
   Option.map .inr (some ([],false))
  else
   some (.inl (aT (n5+(1:Int))))
 else
  Option.map .inr (some (v1,true))
def wi (v1:(List aI)) (n5:Int):Option ((List aI)×Bool):=
 iter (fun x:Int=>jH v1 x) n5
def ra (ab:aI) (ah:Int):Option ((List aI)×Bool):=
 (wK ab ([32]:aI)).bind fun v1=>
 if (v1.length:Int)≠ah then
  some ([],false)
 else
  wi v1 (0:Int)
def bK (ab:List aI) (ah:aI) (n2:Int):Option (Int⊕Int):=
 if n2 < (ab.length:Int) then
  (idx ab n2).bind fun v3=>
  if ah=v3 then
   Option.map .inr (some n2)
  else
   some (.inl (aT (n2+(1:Int))))
 else
  Option.map .inr (some (-1:Int))
def bT (ab:List aI) (ah:aI) (n2:Int):Option Int:=
 iter (fun x:Int=>bK ab ah x) n2
def bG (ab:List aI) (ah:aI):Option Int:=
 bT ab ah (0:Int)
def mw (n4:Int) (c5:Bool):Option (Int⊕(Int×Bool)):=
 if c5=true then
  Option.map .inr (some ((0:Int),false))
 else
  some (.inl (aT (n4+(1:Int))))
def oH (ab:aI):Option (Int×Bool):=
 (Cy ab).bind fun v8=>
 some (v8.1,v8.2)
def eh (ab:aI) (n4:Int):Option (Int⊕(Int×Bool)):=
 if n4 < ((Lib.trimPrefix ab ([45]:aI)).length:Int) then
  (idx (Lib.trimPrefix ab ([45]:aI)) n4).bind fun c6=>
  if (c6.toNat:Int) < (48:Int) then
   mw n4 true
  else
   (idx (Lib.trimPrefix ab ([45]:aI)) n4).bind fun c7=>
   mw n4 (decide ((57:Int) < (c7.toNat:Int)))
 else
  Option.map .inr (oH ab)
def rb (ab:aI) (n4:Int):Option (Int×Bool):=
 iter (fun x:Int=>eh ab x) n4
def ko (ab:aI) (c1:Bool):Option (Int×Bool):=
 if c1=true then
  some ((0:Int),false)
 else
  rb ab (0:Int)
def mx (ab:aI) (ah:Int):Option (Int×Bool):=
 if (Lib.trimPrefix ab ([45]:aI))=([]:aI) then
  ko ab true
 else
  if ah < ((Lib.trimPrefix ab ([45]:aI)).length:Int) then
   ko ab true
  else
   (idx (Lib.trimPrefix ab ([45]:aI)) (0:Int)).bind fun c2=>
   ko ab ((decide ((c2.toNat:Int)=(48:Int)))&&((decide ((1:Int) < ((Lib.trimPrefix ab ([45]:aI)).length:Int)))||(decide (((Lib.trimPrefix ab ([45]:aI)).length:Int) < (ab.length:Int)))))
def ia (v7:Int) (v10:aI) (v11:aI) (mC:Int×Bool) (Ip:aI) (TX:Bool) (n19:Int):Option (Signal×Bool):=
 some ((⟨mC.1,aT ((1:Int)+v7),v10,v11,Ip,n19⟩:Signal),TX)
def jQ (v3:(List aI)×Bool) (v7:Int) (v10:aI) (v11:aI) (mC:Int×Bool) (Ip:aI) (Kd:Bool):Option (Signal×Bool):=
 if Kd=true then
  (idx v3.1 (5:Int)).bind fun v20=>
  (mx v20 (12:Int)).bind fun v21=>
  ia v7 v10 v11 mC Ip v21.2 v21.1
 else
  ia v7 v10 v11 mC Ip mC.2 (0:Int)
def du (v3:(List aI)×Bool) (v7:Int) (v10:aI) (v11:aI) (mC:Int×Bool) (Ip:aI):Option (Signal×Bool):=
 jQ v3 v7 v10 v11 mC Ip (mC.2&&(decide ((5:Int) < (v3.1.length:Int))))
def fL (v3:(List aI)×Bool) (v7:Int) (c8:Bool):Option (Signal×Bool):=
 if c8=true then
  some ((⟨(0:Int),(0:Int),[],[],[],(0:Int)⟩:Signal),false)
 else
  (idx v3.1 (1:Int)).bind fun v10=>
  (idx v3.1 (2:Int)).bind fun v11=>
  (idx v3.1 (0:Int)).bind fun oO=>
  (mx oO (12:Int)).bind fun mC=>
  if (4:Int) < (v3.1.length:Int) then
   (idx v3.1 (4:Int)).bind fun oh=>
   du v3 v7 v10 v11 mC oh
  else
   du v3 v7 v10 v11 mC []
def ib (v3:(List aI)×Bool) (c5:Bool):Option (Signal×Bool):=
 if c5=true then
  some ((⟨(0:Int),(0:Int),[],[],[],(0:Int)⟩:Signal),false)
 else
  (idx v3.1 (3:Int)).bind fun v6=>
  (bG jz v6).bind fun v7=>
  if v7 < (0:Int) then
   fL v3 v7 true
  else
   (idx [(4:Int),(4:Int),(5:Int),(6:Int),(5:Int)] v7).bind fun v9=>
   fL v3 v7 (decide ((v3.1.length:Int)≠v9))
def kp (ab:aI):Option (Signal×Bool):=
 (Dx ab ([32]:aI)).bind fun v2=>
 (ra ab (aT (v2+(1:Int)))).bind fun v3=>
 ib v3 ((!v3.2)||(decide ((v3.1.length:Int) < (4:Int))))
def jI (ab:aI) (ah:List Signal):Option (Bool×(List Signal)):=
 (kp ab).bind fun v1=>
 (app ah [v1.1]).bind fun l3=>
 some (v1.2,l3)
def cm (c1:Bool):Option Bool:=
 some c1
def cL (ab:aI) (ah:aI):Option Bool:=
 if (ah.length:Int)≤(ab.length:Int) then
  (sy ab (aT ((ab.length:Int) - (ah.length:Int))) (ab.length:Int)).bind fun l2=>
  cm (decide (l2=ah))
 else
  cm false
def eA (ab:aI) (ah:aI):Option (aI×Bool):=
 (cL ab ah).bind fun v1=>
 if (!v1)=true then
  some (ab,false)
 else
  (sy ab (0:Int) (aT ((ab.length:Int) - (ah.length:Int)))).bind fun l2=>
  some (l2,true)
def strings_CutSuffix (ab:aI) (ah:aI):Option (aI×Bool):=
 (eA ab ah).bind fun v1=>
 some (v1.1,v1.2)
def re (ab:aI):Option ((List aI)×Bool):=
 if ab=([]:aI) then
  some ([],true)
 else
  (strings_CutSuffix ab ([10]:aI)).bind fun v2=>
  (wK v2.1 ([10]:aI)).bind fun v3=>
  some (v3,v2.2)
def cM (n8:Int) (iU:List Signal) (c12:Bool):Option (((List Signal)×Int)⊕(Int×Bool×(List Signal))):=
 if c12=true then
  Option.map .inr (some (n8,false,iU))
 else
  some (.inl (iU,aT (n8+(1:Int))))
def cN (v1:(List aI)×Bool) (l7:List Signal) (n8:Int):Option (((List Signal)×Int)⊕(Int×Bool×(List Signal))):=
 if n8 < (v1.1.length:Int) then
  (idx v1.1 n8).bind fun v9=>
  if (!v1.2)=true then
   if n8=(aT ((v1.1.length:Int) - (1:Int))) then
    cM n8 l7 true
   else
    (jI v9 l7).bind fun oO=>
    cM n8 oO.2 (!oO.1)
  else
   (jI v9 l7).bind fun jP=>
   cM n8 jP.2 (!jP.1)
 else
  Option.map .inr (some ((0:Int),true,l7))
def kq (v1:(List aI)×Bool) (l7:List Signal) (n8:Int):Option (Int×Bool×(List Signal)):=
 iter (fun x:(List Signal)×Int=>cN v1 x.1 x.2) (l7,n8)
def fx (ab:aI) (aO:List Signal):Option (Int×Bool×(List Signal)):=
 (re ab).bind fun v1=>
 kq v1 aO (0:Int)
def ri (ab:aI):Option ((List Signal)×Int×Int):=
 if (200000:Int) < (ab.length:Int) then
  some ([],(0:Int),(2:Int))
 else
  (fx ab []).bind fun v3=>
  if (!v3.2.1)=true then
   some ([],v3.1,(9:Int))
  else
   (ec v3.2.2).bind fun v7=>
   if v7≠(0:Int) then
    some ([],(0:Int),v7)
   else
    some (v3.2.2,(0:Int),(0:Int))
def cZ (ab:List aI) (ah:aI):Option Bool:=
 (bG ab ah).bind fun v1=>
 some (decide ((0:Int)≤v1))
def pI (v3:Int×Bool) (c5:Bool):Option (Int×Bool):=
 some (v3.1,c5)
def nX (ab:aI) (c1:Bool):Option (Int×Bool):=
 if c1=true then
  some ((0:Int),false)
 else
  (Cy ab).bind fun v3=>
  if v3.2=true then
   (wg v3.1).bind fun v6=>
   pI v3 (decide (v6=ab))
  else
   pI v3 false
def pJ (ab:aI) (ah:Int):Option (Int×Bool):=
 if (Lib.trimPrefix ab ([45]:aI))=([]:aI) then
  nX ab true
 else
  if ah < ((Lib.trimPrefix ab ([45]:aI)).length:Int) then
   nX ab true
  else
   (Cx (Lib.trimPrefix ab ([45]:aI)) ([48,49,50,51,52,53,54,55,56,57]:aI)).bind fun v2=>
   nX ab (decide (v2≠([]:aI)))
def jR (tz:List Signal) (TY:Bool):Option (Bool×(List Signal)):=
 some (TY,tz)
def ic (ah:List Signal) (v6:Int) (v10:Int×Bool) (v11:aI) (v12:aI) (Ek:aI) (n16:Int) (Kd:Bool):Option (Bool×(List Signal)):=
 (app ah [(⟨v10.1,v6,v11,v12,Ek,n16⟩:Signal)]).bind fun tz=>
 jR tz (v10.2&&Kd)
def dv (ah:List Signal) (v1:(List aI)) (v6:Int) (v10:Int×Bool) (v11:aI) (v12:aI) (Ek:aI):Option (Bool×(List Signal)):=
 if v6=(4:Int) then
  (idx v1 (5:Int)).bind fun G7=>
  (pJ G7 (12:Int)).bind fun Bu=>
  ic ah v6 v10 v11 v12 Ek Bu.1 Bu.2
 else
  ic ah v6 v10 v11 v12 Ek (0:Int) true
def fM (ah:List Signal) (v1:(List aI)) (v6:Int) (c7:Bool):Option (Bool×(List Signal)):=
 if c7=true then
  some (false,ah)
 else
  (idx v1 (0:Int)).bind fun v9=>
  (pJ v9 (12:Int)).bind fun v10=>
  (idx v1 (1:Int)).bind fun v11=>
  (idx v1 (2:Int)).bind fun v12=>
  if (3:Int)≤v6 then
   (idx v1 (4:Int)).bind fun jP=>
   dv ah v1 v6 v10 v11 v12 jP
  else
   dv ah v1 v6 v10 v11 v12 []
def fN (ah:List Signal) (v1:(List aI)) (c3:Bool):Option (Bool×(List Signal)):=
 if c3=true then
  some (false,ah)
 else
  (idx v1 (3:Int)).bind fun v5=>
  (bG iA v5).bind fun v6=>
  if v6 < (1:Int) then
   fM ah v1 v6 true
  else
   (idx [(0:Int),(4:Int),(4:Int),(5:Int),(6:Int),(5:Int)] v6).bind fun v8=>
   fM ah v1 v6 (decide ((v1.length:Int)≠v8))
def iD (ab:aI) (ah:List Signal):Option (Bool×(List Signal)):=
 (wK ab ([32]:aI)).bind fun v1=>
 if (v1.length:Int) < (4:Int) then
  fN ah v1 true
 else
  (cZ v1 ([]:aI)).bind fun v4=>
  fN ah v1 v4
def ea (n8:Int) (v9:aI×aI×Bool) (iU:List Signal) (c12:Bool):Option (((List Signal)×aI×Int)⊕(Int×Bool×(List Signal))):=
 if c12=true then
  Option.map .inr (some (n8,false,iU))
 else
  some (.inl (iU,v9.2.1,aT (n8+(1:Int))))
def cz (l6:List Signal) (q7:aI) (n8:Int):Option (((List Signal)×aI×Int)⊕(Int×Bool×(List Signal))):=
 if q7≠([]:aI) then
  (Jr q7 ([10]:aI)).bind fun v9=>
  if (!v9.2.2)=true then
   ea n8 v9 l6 true
  else
   (iD v9.1 l6).bind fun oO=>
   ea n8 v9 oO.2 (!oO.1)
 else
  Option.map .inr (some ((0:Int),true,l6))
def jL (l6:List Signal) (q7:aI) (n8:Int):Option (Int×Bool×(List Signal)):=
 iter (fun x:(List Signal)×aI×Int=>cz x.1 x.2.1 x.2.2) (l6,q7,n8)
def fh (ab:aI) (aO:List Signal):Option (Int×Bool×(List Signal)):=
 jL aO ab (0:Int)
def ng (ab:aI):Option ((List Signal)×Int×Int):=
 if (200000:Int) < (ab.length:Int) then
  some ([],(0:Int),(2:Int))
 else
  (fh ab []).bind fun v3=>
  if (!v3.2.1)=true then
   some ([],v3.1,(9:Int))
  else
   (iI v3.2.2).bind fun v7=>
   if v7≠(0:Int) then
    some ([],(0:Int),v7)
   else
    some (v3.2.2,(0:Int),(0:Int))
def eS (ab:List Signal) (ah:List Signal) (n2:Int):Option (Int⊕Bool):=
 if n2 < (ab.length:Int) then
  (idx ab n2).bind fun v3=>
  (idx ah n2).bind fun v4=>
  if v3≠v4 then
   Option.map .inr (some false)
  else
   some (.inl (aT (n2+(1:Int))))
 else
  Option.map .inr (some true)
def pK (ab:List Signal) (ah:List Signal) (n2:Int):Option Bool:=
 iter (fun x:Int=>eS ab ah x) n2
def fI (ab:List Signal) (ah:List Signal):Option Bool:=
 if (ab.length:Int)≠(ah.length:Int) then
  some false
 else
  pK ab ah (0:Int)
def iN (c2:Bool):Option Int:=
 if c2=true then
  some (5:Int)
 else
  some (0:Int)
def lp (ab:List Signal) (ah:aI) (aO:aI):Option Int:=
 (ec ab).bind fun v1=>
 if v1≠(0:Int) then
  some v1
 else
  (oB ah).bind fun v3=>
  if (!v3)=true then
   iN true
  else
   (oB aO).bind fun v4=>
   iN (!v4)
def iO (ab:ak) (n3:Int) (c4:Bool):fb×Bool:=
 ((⟨ab.aR.aK,ab.aR.aN,ab.az,ab.bM,(ab.aD.length:Int),n3⟩:fb),c4)
def iP (ab:ak) (n3:Int):fb×Bool:=
 if ab.az≠(0:Int) then
  iO ab n3 true
 else
  iO ab n3 (decide ((0:Int) < n3))
def lu (ab:ak) (ah:Int):fb×Bool:=
 if ah < ab.ay then
  iP ab ab.ay
 else
  iP ab (0:Int)
def nh (ab:List Signal) (ah:aI) (aO:aI) (bE:Int):Option (fb×Int):=
 (lp ab ah aO).bind fun v2=>
 if v2≠(0:Int) then
  some ((⟨[],[],(0:Int),(0:Int),(0:Int),(0:Int)⟩:fb),v2)
 else
  if (!(nV bE))=true then
   some ((⟨[],[],(0:Int),(0:Int),(0:Int),(0:Int)⟩:fb),(1:Int))
  else
   (qY ab bE).bind fun v3=>
   tu (eB v3.rJ (⟨ah,aO⟩:aq)) (
    some ((⟨ah,aO,(0:Int),(0:Int),(0:Int),(0:Int)⟩:fb),(0:Int))) (fun n10=>
    (idx v3.BS n10).bind fun v11=>
    some (((lu v11 bE).1),(0:Int)))
def qE (c3:Bool):Option Bool:=
 some c3
def sP:Option Bool:=
 (nh [(⟨(1:Int),(1:Int),([100]:aI),([114]:aI),[],(0:Int)⟩:Signal)] ([100]:aI) ([114]:aI) (1:Int)).bind fun v1=>
 qE ((decide (v1.2=(0:Int)))&&(decide (v1.1.State=(1:Int))))
def gQ (TZ:Bool):Option Bool:=
 some TZ
def eT (v5:au×ar) (T3:Bool):Option Bool:=
 if T3=true then
  some false
 else
  (hZ v5.2).bind fun G7=>
  (ri G7.1).bind fun Bu=>
  (ng G7.1).bind fun v21=>
  if Bu.2.2=v21.2.2 then
   if Bu.2.1=v21.2.1 then
    (fI Bu.1 v21.1).bind fun v24=>
    if v24=true then
     (sP).bind fun v25=>
     gQ v25
    else
     gQ false
   else
    gQ false
  else
   gQ false
def eU (v3:(List Signal)×ar) (v5:au×ar) (v7:Int) (Lt:Bool):Option Bool:=
 if Lt=true then
  some false
 else
  (tA v3.1).bind fun jP=>
  if jP.2≠v7 then
   eT v5 true
  else
   if v7=(0:Int) then
    (lD v3.1).bind fun v17=>
    eT v5 ((decide (jP.1≠v17))||((decide (v7≠(0:Int)))&&(decide (jP.1≠([]:aI)))))
   else
    eT v5 ((decide (v7≠(0:Int)))&&(decide (jP.1≠([]:aI))))
def mz (ab:List Int):Option Bool:=
 (jf (⟨ab,(0:Int)⟩:ar) (0:Int) (12:Int)).bind fun v2=>
 (kc v2.2 v2.1 false).bind fun v3=>
 (pE v3.2).bind fun v5=>
 (iI v3.1).bind fun v7=>
 (iK v3.1 v5.1).bind fun v8=>
 (qC [v7,(iw v5.1)]).bind fun v10=>
 if v8.2≠v10 then
  eU v3 v5 v7 true
 else
  if v10=(0:Int) then
   (mL v3.1 v5.1).bind fun v12=>
   (fg v8.1 v12).bind fun mC=>
   eU v3 v5 v7 (!mC)
  else
   eU v3 v5 v7 false
end
end Go.Beacon
