/- Plain functions that the Go functions compute, written by shal.py. -/
import Derived.Test.YthamhifbccpcpaaGreatDoorCore
set_option linter.unusedVariables false
namespace Go.Beacon
open Go Go.Eng
noncomputable section
structure ar where
 L:List Int
 at_:Int
deriving DecidableEq,Inhabited
structure Signal where
 At:Int
 Kind:Int
 Device:aI
 a8:aI
 By:aI
 aV:Int
deriving DecidableEq,Inhabited
def Signal.av (x:Signal):AV:=.agg [I x.At,I x.Kind,.str x.Device,.str x.a8,.str x.By,I x.aV]
structure au where
 bg:Int
 To:Int
deriving DecidableEq,Inhabited
def au.av (x:au):AV:=.agg [I x.bg,I x.To]
structure aq where
 aK:aI
 aN:aI
deriving DecidableEq,Inhabited
def aq.av (x:aq):AV:=.agg [.str x.aK,.str x.aN]
instance:wB aq:=⟨fun a b=>(wB.lt a.aK b.aK||(decide (a.aK=b.aK)&&(wB.lt a.aN b.aN||(decide (a.aN=b.aN)&&false))))⟩
structure ak where
 aR:aq
 az:Int
 bM:Int
 aD:List Int
 ay:Int
 eV:List au
 bC:List au
 bh:List au
 bf:List Int
 aW:List Int
deriving DecidableEq,Inhabited
structure bO where
 rD:List (aq×Int)
 jX:List Int
 BN:List ak
deriving DecidableEq,Inhabited
structure aj where
 a8:aI
 bS:Int
 dh:Int
 bV:Int
 Time:Int
deriving DecidableEq,Inhabited
def aj.av (x:aj):AV:=.agg [.str x.a8,I x.bS,I x.dh,I x.bV,I x.Time]
structure an where
 aK:aI
 aN:aI
 bq:List Signal
 az:Int
 ay:au
deriving DecidableEq,Inhabited
structure cd where
 Event:Int
 Why:Int
deriving DecidableEq,Inhabited
def cd.av (x:cd):AV:=.agg [I x.Event,I x.Why]
structure fb where
 Device:aI
 a8:aI
 State:Int
 Since:Int
 bS:Int
 Ol:Int
deriving DecidableEq,Inhabited
def fb.av (x:fb):AV:=.agg [.str x.Device,.str x.a8,I x.State,I x.Since,I x.bS,I x.Ol]
def uJ (n2:Int):Option Int:=
 some n2
def Below (ab:Int) (ah:Int):Option Int:=
 if ah < (1:Int) then
  some (0:Int)
 else
  (rem ab ah).bind fun n1=>
  if n1 < (0:Int) then
   uJ (aT (n1+ah))
  else
   uJ n1
def eM (ab:ar) (ah:Int):Option (Int×ar):=
 if (ab.L.length:Int)=(0:Int) then
  (Below (aT ((aT (ab.at_+(1:Int))) * (7919:Int))) ah).bind fun v1=>
  some (v1,(⟨ab.L,aT (ab.at_+(1:Int))⟩:ar))
 else
  (rem (aT ((aT (ab.at_+(1:Int))) - (1:Int))) (ab.L.length:Int)).bind fun n2=>
  (quo (aT ((aT (ab.at_+(1:Int))) - (1:Int))) (ab.L.length:Int)).bind fun n3=>
  (idx ab.L n2).bind fun v4=>
  (Below v4 (1073741824:Int)).bind fun v5=>
  (Below (aT (v5+(aT (n3 * (aT ((7919:Int)+n2)))))) ah).bind fun v6=>
  some (v6,(⟨ab.L,aT (ab.at_+(1:Int))⟩:ar))
def jf (ab:ar) (ah:Int) (aO:Int):Option (Int×ar):=
 if aO < ah then
  some (ah,ab)
 else
  (eM ab (aT ((aT (aO - ah))+(1:Int)))).bind fun v1=>
  some (aT (ah+v1.1),v1.2)
def cY (ab:ar) (ah:List Int):Option (Int×ar):=
 (eM ab (ah.length:Int)).bind fun v1=>
 (idx ah v1.1).bind fun v2=>
 some (v2,v1.2)
def jg (ab:ar) (ah:List aI):Option (aI×ar):=
 (eM ab (ah.length:Int)).bind fun v1=>
 (idx ah v1.1).bind fun v2=>
 some (v2,v1.2)
def cmp_isNaN_int (ab:Int):Bool:=
 decide (ab≠ab)
def cmp_Compare_int (ab:Int) (ah:Int):Int:=
 if (cmp_isNaN_int ab)=true then
  if (cmp_isNaN_int ah)=true then
   (0:Int)
  else
   (-1:Int)
 else
  if (cmp_isNaN_int ah)=true then
   (1:Int)
  else
   if ab < ah then
    (-1:Int)
   else
    if ah < ab then
     (1:Int)
    else
     (0:Int)
def ph (ab:List Int) (n2:Int):Option (Int⊕Int):=
 if n2 < (ab.length:Int) then
  (idx ab n2).bind fun v3=>
  if v3≠(0:Int) then
   Option.map .inr (some v3)
  else
   some (.inl (aT (n2+(1:Int))))
 else
  Option.map .inr (some (0:Int))
def BO (ab:List Int) (n2:Int):Option Int:=
 iter (fun x:Int=>ph ab x) n2
def jF (ab:List Int):Option Int:=
 BO ab (0:Int)
def iu (ab:Signal) (ah:Signal):Option Int:=
 (jF [(cmp_Compare_int ab.At ah.At),(Lib.compareBytes ab.Device ah.Device),(Lib.compareBytes ab.a8 ah.a8),(cmp_Compare_int ab.Kind ah.Kind)]).bind fun v3=>
 some v3
def cw (n4:Int) (l7:List Signal) (n8:Int) (c9:Bool):Option (((List Signal)×Int)⊕(((List Signal)×Int)⊕(List Signal))):=
 if c9=true then
  (idx l7 (aT (n8 - (1:Int)))).bind fun oN=>
  (idx l7 n8).bind fun mB=>
  (idx l7 n8).bind fun jP=>
  (idx (l7.set n8.toNat oN) (aT (n8 - (1:Int)))).bind fun og=>
  some (.inl ((l7.set n8.toNat oN).set (aT (n8 - (1:Int))).toNat mB,aT (n8 - (1:Int))))
 else
  Option.map .inr (some (.inl (l7,aT (n4+(1:Int)))))
def cx (ah:Int) (mA:Signal→Signal→Option Int) (n4:Int) (l7:List Signal) (n8:Int):Option (((List Signal)×Int)⊕(((List Signal)×Int)⊕(List Signal))):=
 if ah < n8 then
  (idx l7 n8).bind fun v10=>
  (idx l7 (aT (n8 - (1:Int)))).bind fun v11=>
  (mA v10 v11).bind fun v12=>
  cw n4 l7 n8 (decide (v12 < (0:Int)))
 else
  cw n4 l7 n8 false
def mF (ah:Int) (mA:Signal→Signal→Option Int) (n4:Int) (l7:List Signal) (n8:Int):Option (((List Signal)×Int)⊕(List Signal)):=
 iter (fun x:(List Signal)×Int=>cx ah mA n4 x.1 x.2) (l7,n8)
def cy (ah:Int) (aO:Int) (mA:Signal→Signal→Option Int) (l3:List Signal) (n4:Int):Option (((List Signal)×Int)⊕(List Signal)):=
 if n4 < aO then
  mF ah mA n4 l3 n4
 else
  Option.map .inr (some l3)
def mG (ah:Int) (aO:Int) (mA:Signal→Signal→Option Int) (l3:List Signal) (n4:Int):Option (List Signal):=
 iter (fun x:(List Signal)×Int=>cy ah aO mA x.1 x.2) (l3,n4)
def ch (ab:List Signal) (ah:Int) (aO:Int) (mA:Signal→Signal→Option Int):Option (List Signal):=
 mG ah aO mA ab (aT (ah+(1:Int)))
def di (ah:Int) (aO:Int) (bE:Int) (l3:List Signal) (n4:Int):Option (((List Signal)×Int)⊕(List Signal)):=
 if n4 < bE then
  (idx l3 (aT (aO+n4))).bind fun v5=>
  (idx l3 (aT (ah+n4))).bind fun v6=>
  (idx l3 (aT (ah+n4))).bind fun v7=>
  (idx (l3.set (aT (ah+n4)).toNat v5) (aT (aO+n4))).bind fun v8=>
  some (.inl ((l3.set (aT (ah+n4)).toNat v5).set (aT (aO+n4)).toNat v6,aT (n4+(1:Int))))
 else
  Option.map .inr (some l3)
def nZ (ah:Int) (aO:Int) (bE:Int) (l3:List Signal) (n4:Int):Option (List Signal):=
 iter (fun x:(List Signal)×Int=>di ah aO bE x.1 x.2) (l3,n4)
def cI (ab:List Signal) (ah:Int) (aO:Int) (bE:Int) (kE:Signal→Signal→Option Int):Option (List Signal):=
 nZ ah aO bE ab (0:Int)
def er (l7:List Signal) (n8:Int) (n9:Int):Option (((List Signal)×Int×Int)⊕(List Signal)):=
 some (.inl (l7,n8,n9))
def jY (aO:Int) (kE:Signal→Signal→Option Int) (l4:List Signal) (n5:Int):Option (List Signal):=
 (kD l4.length (fun r:(List Signal)=>r.length) (cI l4 (aT (aO - n5)) aO n5 kE)).bind fun v12=>
 some v12
def et (aO:Int) (kE:Signal→Signal→Option Int) (l4:List Signal) (n5:Int) (n6:Int):Option (((List Signal)×Int×Int)⊕(List Signal)):=
 if n5≠n6 then
  if n6 < n5 then
   (kD l4.length (fun r:(List Signal)=>r.length) (cI l4 (aT (aO - n5)) aO n6 kE)).bind fun v10=>
   er v10 (aT (n5 - n6)) n6
  else
   (kD l4.length (fun r:(List Signal)=>r.length) (cI l4 (aT (aO - n5)) (aT ((aT (aO+n6)) - n5)) n5 kE)).bind fun v11=>
   er v11 n5 (aT (n6 - n5))
 else
  Option.map .inr (jY aO kE l4 n5)
def o1 (aO:Int) (kE:Signal→Signal→Option Int) (l4:List Signal) (n5:Int) (n6:Int):Option (List Signal):=
 iter (fun x:(List Signal)×Int×Int=>et aO kE x.1 x.2.1 x.2.2) (l4,n5,n6)
def il (ab:List Signal) (ah:Int) (aO:Int) (bE:Int) (kE:Signal→Signal→Option Int):Option (List Signal):=
 o1 aO kE ab (aT (aO - ah)) (aT (bE - aO))
def dD (n8:Int) (n9:Int):Option ((Int×Int)⊕(List Signal)):=
 some (.inl (n8,n9))
def dE (n3:Int) (sw:List Signal) (n13:Int):Option (((List Signal)×Int)⊕(List Signal)):=
 if n13 < (aT (n3 - (1:Int))) then
  (idx sw (aT (n13+(1:Int)))).bind fun mB=>
  (idx sw n13).bind fun jP=>
  (idx sw n13).bind fun og=>
  (idx (sw.set n13.toNat mB) (aT (n13+(1:Int)))).bind fun v17=>
  some (.inl ((sw.set n13.toNat mB).set (aT (n13+(1:Int))).toNat jP,aT (n13+(1:Int))))
 else
  Option.map .inr (some sw)
def ou (n3:Int) (sw:List Signal) (n13:Int):Option (List Signal):=
 iter (fun x:(List Signal)×Int=>dE n3 x.1 x.2) (sw,n13)
def dG (ab:List Signal) (ah:Int) (kE:Signal→Signal→Option Int) (n3:Int) (n4:Int):Option ((Int×Int)⊕(List Signal)):=
 if n3 < n4 then
  (idx ab (aT (gj .u64 (IntKind.u64.wrap (aT (n3+n4))) (1:Int)))).bind fun v5=>
  (idx ab ah).bind fun v6=>
  (kE v5 v6).bind fun v7=>
  if v7 < (0:Int) then
   dD (aT ((aT (gj .u64 (IntKind.u64.wrap (aT (n3+n4))) (1:Int)))+(1:Int))) n4
  else
   dD n3 (aT (gj .u64 (IntKind.u64.wrap (aT (n3+n4))) (1:Int)))
 else
  Option.map .inr (ou n3 ab ah)
def ov (ab:List Signal) (ah:Int) (kE:Signal→Signal→Option Int) (n3:Int) (n4:Int):Option (List Signal):=
 iter (fun x:Int×Int=>dG ab ah kE x.1 x.2) (n3,n4)
def dH (n25:Int) (n26:Int):Option ((Int×Int)⊕(List Signal)):=
 some (.inl (n25,n26))
def dI (n20:Int) (xX:List Signal) (n30:Int):Option (((List Signal)×Int)⊕(List Signal)):=
 if n20 < n30 then
  (idx xX (aT (n30 - (1:Int)))).bind fun v31=>
  (idx xX n30).bind fun v32=>
  (idx xX n30).bind fun v33=>
  (idx (xX.set n30.toNat v31) (aT (n30 - (1:Int)))).bind fun Pq=>
  some (.inl ((xX.set n30.toNat v31).set (aT (n30 - (1:Int))).toNat v32,aT (n30 - (1:Int))))
 else
  Option.map .inr (some xX)
def ow (n20:Int) (xX:List Signal) (n30:Int):Option (List Signal):=
 iter (fun x:(List Signal)×Int=>dI n20 x.1 x.2) (xX,n30)
def dJ (ab:List Signal) (aO:Int) (kE:Signal→Signal→Option Int) (n20:Int) (n21:Int):Option ((Int×Int)⊕(List Signal)):=
 if n20 < n21 then
  (idx ab aO).bind fun v22=>
  (idx ab (aT (gj .u64 (IntKind.u64.wrap (aT (n20+n21))) (1:Int)))).bind fun v23=>
  (kE v22 v23).bind fun v24=>
  if ¬ (v24 < (0:Int)) then
   dH (aT ((aT (gj .u64 (IntKind.u64.wrap (aT (n20+n21))) (1:Int)))+(1:Int))) n21
  else
   dH n20 (aT (gj .u64 (IntKind.u64.wrap (aT (n20+n21))) (1:Int)))
 else
  Option.map .inr (ow n20 ab aO)
def ox (ab:List Signal) (aO:Int) (kE:Signal→Signal→Option Int) (n20:Int) (n21:Int):Option (List Signal):=
 iter (fun x:Int×Int=>dJ ab aO kE x.1 x.2) (n20,n21)
def dK (n44:Int) (n45:Int):Option ((Int×Int)⊕(List Signal)):=
 some (.inl (n44,n45))
def dj (GZ:List Signal):Option (List Signal):=
 some GZ
def fB (self:(List Signal)→Int→Int→Int→(Signal→Signal→Option Int)→Option (List Signal)) (ah:Int) (aO:Int) (bE:Int) (kE:Signal→Signal→Option Int) (n39:Int) (Ic:List Signal) (Tt:Bool):Option (List Signal):=
 if Tt=true then
  (kD Ic.length (fun r:(List Signal)=>r.length) (self Ic (aT (gj .u64 (IntKind.u64.wrap (aT (ah+bE))) (1:Int))) (aT ((aT ((aT (gj .u64 (IntKind.u64.wrap (aT (ah+bE))) (1:Int)))+aO)) - n39)) bE kE)).bind fun v54=>
  dj v54
 else
  dj Ic
def dL (self:(List Signal)→Int→Int→Int→(Signal→Signal→Option Int)→Option (List Signal)) (ah:Int) (aO:Int) (bE:Int) (kE:Signal→Signal→Option Int) (n39:Int) (Ic:List Signal):Option (List Signal):=
 fB self ah aO bE kE n39 Ic ((decide ((aT (gj .u64 (IntKind.u64.wrap (aT (ah+bE))) (1:Int))) < (aT ((aT ((aT (gj .u64 (IntKind.u64.wrap (aT (ah+bE))) (1:Int)))+aO)) - n39))))&&(decide ((aT ((aT ((aT (gj .u64 (IntKind.u64.wrap (aT (ah+bE))) (1:Int)))+aO)) - n39)) < bE)))
def fC (self:(List Signal)→Int→Int→Int→(Signal→Signal→Option Int)→Option (List Signal)) (ah:Int) (aO:Int) (bE:Int) (kE:Signal→Signal→Option Int) (n39:Int) (Ie:List Signal) (c49:Bool):Option (List Signal):=
 if c49=true then
  (kD Ie.length (fun r:(List Signal)=>r.length) (self Ie ah n39 (aT (gj .u64 (IntKind.u64.wrap (aT (ah+bE))) (1:Int))) kE)).bind fun v51=>
  dL self ah aO bE kE n39 v51
 else
  dL self ah aO bE kE n39 Ie
def dM (self:(List Signal)→Int→Int→Int→(Signal→Signal→Option Int)→Option (List Signal)) (ah:Int) (aO:Int) (bE:Int) (kE:Signal→Signal→Option Int) (n39:Int) (Ie:List Signal):Option (List Signal):=
 fC self ah aO bE kE n39 Ie ((decide (ah < n39))&&(decide (n39 < (aT (gj .u64 (IntKind.u64.wrap (aT (ah+bE))) (1:Int))))))
def fD (self:(List Signal)→Int→Int→Int→(Signal→Signal→Option Int)→Option (List Signal)) (ab:List Signal) (ah:Int) (aO:Int) (bE:Int) (kE:Signal→Signal→Option Int) (n39:Int) (c46:Bool):Option (List Signal):=
 if c46=true then
  (kD ab.length (fun r:(List Signal)=>r.length) (il ab n39 aO (aT ((aT ((aT (gj .u64 (IntKind.u64.wrap (aT (ah+bE))) (1:Int)))+aO)) - n39)) kE)).bind fun bI=>
  dM self ah aO bE kE n39 bI
 else
  dM self ah aO bE kE n39 ab
def dN (self:(List Signal)→Int→Int→Int→(Signal→Signal→Option Int)→Option (List Signal)) (ab:List Signal) (ah:Int) (aO:Int) (bE:Int) (kE:Signal→Signal→Option Int) (n39:Int) (n40:Int):Option ((Int×Int)⊕(List Signal)):=
 if n39 < n40 then
  (idx ab (aT ((aT ((aT ((aT (gj .u64 (IntKind.u64.wrap (aT (ah+bE))) (1:Int)))+aO)) - (1:Int))) - (aT (gj .u64 (IntKind.u64.wrap (aT (n39+n40))) (1:Int)))))).bind fun v41=>
  (idx ab (aT (gj .u64 (IntKind.u64.wrap (aT (n39+n40))) (1:Int)))).bind fun v42=>
  (kE v41 v42).bind fun Jn=>
  if ¬ (Jn < (0:Int)) then
   dK (aT ((aT (gj .u64 (IntKind.u64.wrap (aT (n39+n40))) (1:Int)))+(1:Int))) n40
  else
   dK n39 (aT (gj .u64 (IntKind.u64.wrap (aT (n39+n40))) (1:Int)))
 else
  Option.map .inr (fD self ab ah aO bE kE n39 ((decide (n39 < aO))&&(decide (aO < (aT ((aT ((aT (gj .u64 (IntKind.u64.wrap (aT (ah+bE))) (1:Int)))+aO)) - n39))))))
def oy (self:(List Signal)→Int→Int→Int→(Signal→Signal→Option Int)→Option (List Signal)) (ab:List Signal) (ah:Int) (aO:Int) (bE:Int) (kE:Signal→Signal→Option Int) (n39:Int) (n40:Int):Option (List Signal):=
 iter (fun x:Int×Int=>dN self ab ah aO bE kE x.1 x.2) (n39,n40)
def dO (self:(List Signal)→Int→Int→Int→(Signal→Signal→Option Int)→Option (List Signal)) (ab:List Signal) (ah:Int) (aO:Int) (bE:Int) (kE:Signal→Signal→Option Int) (n35:Int) (n36:Int):Option (List Signal):=
 oy self ab ah aO bE kE n35 n36
def fE (self:(List Signal)→Int→Int→Int→(Signal→Signal→Option Int)→Option (List Signal)) (ab:List Signal) (ah:Int) (aO:Int) (bE:Int) (kE:Signal→Signal→Option Int):Option (List Signal):=
 if (aT (aO - ah))=(1:Int) then
  ov ab ah kE aO bE
 else
  if (aT (bE - aO))=(1:Int) then
   ox ab aO kE ah aO
  else
   if (aT (gj .u64 (IntKind.u64.wrap (aT (ah+bE))) (1:Int))) < aO then
    dO self ab ah aO bE kE (aT ((aT ((aT (gj .u64 (IntKind.u64.wrap (aT (ah+bE))) (1:Int)))+aO)) - bE)) (aT (gj .u64 (IntKind.u64.wrap (aT (ah+bE))) (1:Int)))
   else
    dO self ab ah aO bE kE ah aO
def fW:Nat→(List Signal)→Int→Int→Int→(Signal→Signal→Option Int)→Option (List Signal)
 | 0=>fun _ _ _ _ _=>none
 | k+1=>fE (fW k)
def gE (ab:List Signal) (ah:Int) (aO:Int) (bE:Int) (kE:Signal→Signal→Option Int):Option (List Signal):=
 fW depth ab ah aO bE kE
def eu (n12:Int) (tv:List Signal):Option (((List Signal)×Int)⊕(List Signal)):=
 some (.inl (tv,aT (n12 * (2:Int))))
def jZ (ah:Int) (xl:Signal→Signal→Option Int) (n12:Int) (kA:List Signal) (n17:Int):Option (((List Signal)×Int)⊕(List Signal)):=
 if (aT (n17+n12)) < ah then
  (kD kA.length (fun r:(List Signal)=>r.length) (gE kA n17 (aT (n17+n12)) ah xl)).bind fun v21=>
  eu n12 v21
 else
  eu n12 kA
def ew (ah:Int) (xl:Signal→Signal→Option Int) (n12:Int) (kA:List Signal) (n17:Int) (n18:Int):Option (((List Signal)×Int×Int)⊕(((List Signal)×Int)⊕(List Signal))):=
 if n18≤ah then
  (kD kA.length (fun r:(List Signal)=>r.length) (gE kA n17 (aT (n17+n12)) n18 xl)).bind fun Bp=>
  some (.inl (Bp,n18,aT (n18+(aT ((2:Int) * n12)))))
 else
  Option.map .inr (jZ ah xl n12 kA n17)
def o3 (ah:Int) (xl:Signal→Signal→Option Int) (n12:Int) (kA:List Signal) (n17:Int) (n18:Int):Option (((List Signal)×Int)⊕(List Signal)):=
 iter (fun x:(List Signal)×Int×Int=>ew ah xl n12 x.1 x.2.1 x.2.2) (kA,n17,n18)
def cJ (ah:Int) (xl:Signal→Signal→Option Int) (iU:List Signal) (n12:Int):Option (((List Signal)×Int)⊕(List Signal)):=
 if n12 < ah then
  o3 ah xl n12 iU (0:Int) (aT ((2:Int) * n12))
 else
  Option.map .inr (some iU)
def j6 (ah:Int) (xl:Signal→Signal→Option Int) (iU:List Signal) (n12:Int):Option (List Signal):=
 iter (fun x:(List Signal)×Int=>cJ ah xl x.1 x.2) (iU,n12)
def gm (ah:Int) (xl:Signal→Signal→Option Int) (l4:List Signal) (n5:Int):Option (List Signal):=
 (kD l4.length (fun r:(List Signal)=>r.length) (ch l4 n5 ah xl)).bind fun v8=>
 j6 ah xl v8 (20:Int)
def cK (ah:Int) (xl:Signal→Signal→Option Int) (l4:List Signal) (n5:Int) (n6:Int):Option (((List Signal)×Int×Int)⊕(List Signal)):=
 if n6≤ah then
  (kD l4.length (fun r:(List Signal)=>r.length) (ch l4 n5 n6 xl)).bind fun v7=>
  some (.inl (v7,n6,aT (n6+(20:Int))))
 else
  Option.map .inr (gm ah xl l4 n5)
def j8 (ah:Int) (xl:Signal→Signal→Option Int) (l4:List Signal) (n5:Int) (n6:Int):Option (List Signal):=
 iter (fun x:(List Signal)×Int×Int=>cK ah xl x.1 x.2.1 x.2.2) (l4,n5,n6)
def dP (ab:List Signal) (ah:Int) (xl:Signal→Signal→Option Int):Option (List Signal):=
 j8 ah xl ab (0:Int) (20:Int)
def bZ (ab:List Signal) (oK:Signal→Signal→Option Int):Option (List Signal):=
 (kD ab.length (fun r:(List Signal)=>r.length) (dP ab (ab.length:Int) oK)).bind fun v1=>
 some v1
def jh (ab:ar) (ah:Int):Option (Bool×ar):=
 (eM ab ah).bind fun v1=>
 some (decide (v1.1=(0:Int)),v1.2)
def ji (ab:Signal) (ah:Signal):Option Bool:=
 (iu ab ah).bind fun v3=>
 some (decide (v3=(0:Int)))
def cQ (n12:Int) (kA:List Signal) (n17:Int):Option (((List Signal)×Int×Int)⊕(Int⊕(List Signal))):=
 some (.inl (kA,n17,aT (n12+(1:Int))))
def iv (l10:List Signal) (n11:Int):Option (Int⊕(List Signal)):=
 (sv l10 n11 (l10.length:Int)).bind fun tv=>
 (sv (Cf l10 n11 tv.length (⟨(0:Int),(0:Int),[],[],[],(0:Int)⟩:Signal)) (0:Int) n11).bind fun qT=>
 Option.map .inr (some qT)
def cS (oK:Signal→Signal→Option Bool) (n2:Int) (l6:List Signal) (l10:List Signal) (n11:Int) (n12:Int):Option (((List Signal)×Int×Int)⊕(Int⊕(List Signal))):=
 if n12 < (l6.length:Int) then
  (rC l10 n2 l6.length n12).bind fun oN=>
  (rC l10 n2 l6.length (aT (n12 - (1:Int)))).bind fun mB=>
  (oK oN mB).bind fun jP=>
  if (!jP)=true then
   (rC l10 n2 l6.length n12).bind fun G0=>
   (idx l10 n11).bind fun Bp=>
   cQ n12 (l10.set n11.toNat G0) (aT (n11+(1:Int)))
  else
   cQ n12 l10 n11
 else
  Option.map .inr (iv l10 n11)
def mV (oK:Signal→Signal→Option Bool) (n2:Int) (l6:List Signal) (l10:List Signal) (n11:Int) (n12:Int):Option (Int⊕(List Signal)):=
 iter (fun x:(List Signal)×Int×Int=>cS oK n2 l6 x.1 x.2.1 x.2.2) (l10,n11,n12)
def cT (ab:List Signal) (oK:Signal→Signal→Option Bool) (n2:Int):Option (Int⊕(List Signal)):=
 if n2 < (ab.length:Int) then
  (idx ab n2).bind fun v3=>
  (idx ab (aT (n2 - (1:Int)))).bind fun v4=>
  (oK v3 v4).bind fun v5=>
  if v5=true then
   (sv ab n2 (ab.length:Int)).bind fun l6=>
   mV oK n2 l6 ab n2 (1:Int)
  else
   some (.inl (aT (n2+(1:Int))))
 else
  Option.map .inr (some ab)
def mW (ab:List Signal) (oK:Signal→Signal→Option Bool) (n2:Int):Option (List Signal):=
 iter (fun x:Int=>cT ab oK x) n2
def dQ (ab:List Signal) (oK:Signal→Signal→Option Bool):Option (List Signal):=
 if (ab.length:Int) < (2:Int) then
  some ab
 else
  mW ab oK (1:Int)
def o4 (ab:ar) (ah:Int) (aO:Int):Option (Int×ar):=
 (jh ab (12:Int)).bind fun v1=>
 if v1.1=true then
  (cY v1.2 [aT (ah - (1:Int)),aT (aO+(1:Int)),ah,aO,(-1099511627776:Int),(1099511627776:Int)]).bind fun v2=>
  some (v2.1,v2.2)
 else
  (jf v1.2 ah aO).bind fun v3=>
  some (v3.1,v3.2)
def gI (iU:List Signal) (n12:Int) (n13:Int) (og:aI×ar) (v17:aI×ar) (n21:Int) (Dz:aI) (Lk:List Int) (n28:Int) (n29:Int):Option (((List Int)×Int×(List Signal)×Int×Int)⊕((List Signal)×ar)):=
 (app iU [(⟨n12,n21,og.1,v17.1,Dz,n29⟩:Signal)]).bind fun Tu=>
 (cY (⟨Lk,n28⟩:ar) [(0:Int),(1:Int),(3:Int),(10:Int),(40:Int)]).bind fun v33=>
 some (.inl (v33.2.L,v33.2.at_,Tu,aT (n12+v33.1),aT (n13+(1:Int))))
def gJ (iU:List Signal) (n12:Int) (n13:Int) (og:aI×ar) (v17:aI×ar) (n21:Int) (xm:List Int) (n24:Int) (Dz:aI):Option (((List Int)×Int×(List Signal)×Int×Int)⊕((List Signal)×ar)):=
 if n21=(4:Int) then
  (cY (⟨xm,n24⟩:ar) [(1:Int),(10:Int),(50:Int)]).bind fun v30=>
  gI iU n12 n13 og v17 n21 Dz v30.2.L v30.2.at_ (aT (n12+v30.1))
 else
  gI iU n12 n13 og v17 n21 Dz xm n24 (0:Int)
def gK (iU:List Signal) (n12:Int) (n13:Int) (og:aI×ar) (v17:aI×ar) (nT:List Int) (n20:Int) (n21:Int):Option (((List Int)×Int×(List Signal)×Int×Int)⊕((List Signal)×ar)):=
 if (3:Int)≤n21 then
  (jg (⟨nT,n20⟩:ar) [([97,110,110]:aI),([98,111,98]:aI)]).bind fun v26=>
  gJ iU n12 n13 og v17 n21 v26.2.L v26.2.at_ v26.1
 else
  gJ iU n12 n13 og v17 n21 nT n20 []
def jj (Fw:List Int) (n45:Int) (Ig:List Signal):Option ((List Signal)×ar):=
 some (Ig,(⟨Fw,n45⟩:ar))
def gL (o5:List Signal) (G1:List Int) (n41:Int) (Tv:Bool):Option ((List Signal)×ar):=
 if Tv=true then
  (eM (⟨G1,n41⟩:ar) (o5.length:Int)).bind fun j9=>
  (idx o5 j9.1).bind fun bI=>
  (cY j9.2 [bI.At,(-1:Int),(345686400000:Int)]).bind fun v49=>
  (o4 v49.2 (1:Int) (5:Int)).bind fun v50=>
  (jg v50.2 [bI.By,([]:aI),([65]:aI)]).bind fun v51=>
  (cY v51.2 [bI.aV,(0:Int),bI.At,aT ((aT (bI.At+(2592000000:Int)))+(1:Int))]).bind fun BP=>
  jj BP.2.L BP.2.at_ ((((o5.set j9.1.toNat (⟨v49.1,bI.Kind,bI.Device,bI.a8,bI.By,bI.aV⟩:Signal)).set j9.1.toNat (⟨v49.1,v50.1,bI.Device,bI.a8,bI.By,bI.aV⟩:Signal)).set j9.1.toNat (⟨v49.1,v50.1,bI.Device,bI.a8,v51.1,bI.aV⟩:Signal)).set j9.1.toNat (⟨v49.1,v50.1,bI.Device,bI.a8,v51.1,BP.1⟩:Signal))
 else
  jj G1 n41 o5
def gM (v35:Bool×ar) (o5:List Signal):Option ((List Signal)×ar):=
 if (0:Int) < (o5.length:Int) then
  (jh v35.2 (20:Int)).bind fun Jn=>
  gL o5 Jn.2.L Jn.2.at_ Jn.1
 else
  gL o5 v35.2.L v35.2.at_ false
def oz (l8:List Int) (n9:Int) (iU:List Signal):Option ((List Signal)×ar):=
 (kD iU.length (fun r:(List Signal)=>r.length) (bZ iU (fun y0 y1=>iu y0 y1))).bind fun Pq=>
 (jh (⟨l8,n9⟩:ar) (20:Int)).bind fun v35=>
 if (!v35.1)=true then
  (dQ Pq (fun y0 y1=>ji y0 y1)).bind fun W1=>
  gM v35 W1
 else
  gM v35 Pq
def jk (ah:Int) (aO:Bool) (l8:List Int) (n9:Int) (iU:List Signal) (n12:Int) (n13:Int):Option (((List Int)×Int×(List Signal)×Int×Int)⊕((List Signal)×ar)):=
 if n13 < ah then
  (cY (⟨l8,n9⟩:ar) [(1:Int),(1:Int),(2:Int),(2:Int),(3:Int),(3:Int),(4:Int),(5:Int)]).bind fun jP=>
  (jg jP.2 [([100,97]:aI),([100,97]:aI),([100,98]:aI),([100,103]:aI)]).bind fun og=>
  (jg og.2 [([114,97]:aI),([114,97]:aI),([114,98]:aI)]).bind fun v17=>
  if aO=true then
   (cY v17.2 [(3:Int),(3:Int),(4:Int),(5:Int)]).bind fun v22=>
   gK iU n12 n13 og v17 v22.2.L v22.2.at_ v22.1
  else
   gK iU n12 n13 og v17 v17.2.L v17.2.at_ jP.1
 else
  Option.map .inr (oz l8 n9 iU)
def rZ (ah:Int) (aO:Bool) (l8:List Int) (n9:Int) (iU:List Signal) (n12:Int) (n13:Int):Option ((List Signal)×ar):=
 iter (fun x:(List Int)×Int×(List Signal)×Int×Int=>jk ah aO x.1 x.2.1 x.2.2.1 x.2.2.2.1 x.2.2.2.2) (l8,n9,iU,n12,n13)
def kc (ab:ar) (ah:Int) (aO:Bool):Option ((List Signal)×ar):=
 (eM ab (20:Int)).bind fun v1=>
 rZ ah aO v1.2.L v1.2.at_ [] v1.1 (0:Int)
def mi (l6:List Int) (n7:Int) (n8:Int) (n9:Int):Option (au×ar):=
 some ((⟨n8,n9⟩:au),(⟨l6,n7⟩:ar))
def pB (ab:ar):Option (au×ar):=
 (cY ab [(0:Int),(5:Int),(30:Int),(100:Int)]).bind fun v2=>
 (cY v2.2 [(30:Int),(100:Int),(250:Int),(1000:Int),(345686400000:Int)]).bind fun v3=>
 (jh v3.2 (20:Int)).bind fun v5=>
 if v5.1=true then
  (cY v5.2 [(-1:Int),(10:Int)]).bind fun v10=>
  (cY v10.2 [(9:Int),(345686400001:Int)]).bind fun v11=>
  mi v11.2.L v11.2.at_ v10.1 v11.1
 else
  mi v5.2.L v5.2.at_ v2.1 v3.1
def DA (c1:Bool):Bool:=
 c1
def zh (ab:Int) (ah:Int) (aO:Int):Bool:=
 DA ((decide (ah≤ab))&&(decide (ab≤aO)))
def mX (ab:Int):Int:=
 if (!(zh ab (0:Int) (345686399999:Int)))=true then
  (1:Int)
 else
  (0:Int)
def sG (c1:Bool):Option Bool:=
 some c1
def AD (ab:aI):Option Bool:=
 if (zh (ab.length:Int) (1:Int) (40:Int))=true then
  (Cs ab ([97,98,99,100,101,102,103,104,105,106,107,108,109,110,111,112,113,114,115,116,117,118,119,120,121,122,48,49,50,51,52,53,54,55,56,57,45,95]:aI)).bind fun v2=>
  if v2=([]:aI) then
   (idx ab (0:Int)).bind fun c3=>
   sG (decide ((0:Int)≤(tq ([97,98,99,100,101,102,103,104,105,106,107,108,109,110,111,112,113,114,115,116,117,118,119,120,121,122]:aI) (c3.toNat:Int))))
  else
   sG false
 else
  sG false
def jl (n2:Int) (Ll:Bool):Option (Int⊕Int):=
 if Ll=true then
  Option.map .inr (some (7:Int))
 else
  some (.inl (aT (n2+(1:Int))))
def lO (ab:List Signal) (n2:Int) (v3:Signal) (c12:Bool):Option (Int⊕Int):=
 if c12=true then
  Option.map .inr (some (3:Int))
 else
  if (0:Int) < n2 then
   (idx ab (aT (n2 - (1:Int)))).bind fun mB=>
   (iu mB v3).bind fun jP=>
   jl n2 (decide ((0:Int)≤jP))
  else
   jl n2 false
def lP (ab:List Signal) (n2:Int) (v3:Signal) (Lm:Bool):Option (Int⊕Int):=
 if Lm=true then
  Option.map .inr (some (1:Int))
 else
  lO ab n2 v3 ((decide (¬ (v3.Kind=(4:Int))))&&(decide (v3.aV≠(0:Int))))
def lQ (ab:List Signal) (n2:Int) (v3:Signal) (Tw:Bool):Option (Int⊕Int):=
 if Tw=true then
  Option.map .inr (some (3:Int))
 else
  lP ab n2 v3 ((decide (v3.Kind=(4:Int)))&&(!(zh v3.aV (aT (v3.At+(1:Int))) (min (aT (v3.At+(2592000000:Int))) (345686400000:Int)))))
def gN (ab:List Signal) (n2:Int) (v3:Signal) (c8:Bool):Option (Int⊕Int):=
 if c8=true then
  Option.map .inr (some (5:Int))
 else
  lQ ab n2 v3 ((decide (¬ ((3:Int)≤v3.Kind)))&&(decide (v3.By≠([]:aI))))
def gO (ab:List Signal) (n2:Int) (v3:Signal) (c5:Bool):Option (Int⊕Int):=
 if c5=true then
  Option.map .inr (some (5:Int))
 else
  if (!(zh v3.Kind (1:Int) (5:Int)))=true then
   Option.map .inr (some (4:Int))
  else
   if (3:Int)≤v3.Kind then
    (AD v3.By).bind fun v9=>
    gN ab n2 v3 (!v9)
   else
    gN ab n2 v3 false
def eN (ab:List Signal) (n2:Int):Option (Int⊕Int):=
 if n2 < (ab.length:Int) then
  (idx ab n2).bind fun v3=>
  if (mX v3.At)≠(0:Int) then
   Option.map .inr (some (1:Int))
  else
   (AD v3.Device).bind fun v6=>
   if (!v6)=true then
    gO ab n2 v3 true
   else
    (AD v3.a8).bind fun v7=>
    gO ab n2 v3 (!v7)
 else
  Option.map .inr (some (0:Int))
def r4 (ab:List Signal) (n2:Int):Option Int:=
 iter (fun x:Int=>eN ab x) n2
def iI (ab:List Signal):Option Int:=
 if (5000:Int) < (ab.length:Int) then
  some (2:Int)
 else
  r4 ab (0:Int)
def uK (c1:Bool):Bool:=
 c1
def qU (ab:Int) (ah:Int) (aO:Int):Bool:=
 uK ((decide (ab < ah))||(decide (aO < ab)))
def nU (ab:Int):Bool:=
 !(qU ab (0:Int) (345686399999:Int))
def r5 (n5:Int) (c7:Bool):Option (Int⊕Bool):=
 if c7=true then
  Option.map .inr (some false)
 else
  some (.inl (aT (n5+(1:Int))))
def mj (ab:aI) (n5:Int):Option (Int⊕Bool):=
 if n5 < (ab.length:Int) then
  (idx ab n5).bind fun c6=>
  r5 n5 (if (97:Int)≤(c6.toNat:Int) then if (c6.toNat:Int)≤(122:Int) then !true else if (48:Int)≤(c6.toNat:Int) then if (c6.toNat:Int)≤(57:Int) then !true else if (c6.toNat:Int)=(45:Int) then !true else decide (¬ ((c6.toNat:Int)=(95:Int))) else if (c6.toNat:Int)=(45:Int) then !true else decide (¬ ((c6.toNat:Int)=(95:Int))) else if (48:Int)≤(c6.toNat:Int) then if (c6.toNat:Int)≤(57:Int) then !true else if (c6.toNat:Int)=(45:Int) then !true else decide (¬ ((c6.toNat:Int)=(95:Int))) else if (c6.toNat:Int)=(45:Int) then !true else decide (¬ ((c6.toNat:Int)=(95:Int))))
 else
  Option.map .inr (some true)
def uL (ab:aI) (n5:Int):Option Bool:=
 iter (fun x:Int=>mj ab x) n5
def ml (ab:aI) (c1:Bool):Option Bool:=
 if c1=true then
  some false
 else
  uL ab (0:Int)
def oA (ab:aI):Option Bool:=
 if ab=([]:aI) then
  ml ab true
 else
  if (40:Int) < (ab.length:Int) then
   ml ab true
  else
   (idx ab (0:Int)).bind fun c2=>
   if (c2.toNat:Int) < (97:Int) then
    ml ab true
   else
    (idx ab (0:Int)).bind fun c3=>
    ml ab (decide ((122:Int) < (c3.toNat:Int)))
def jm (c9:Bool):Option Int:=
 if c9=true then
  some (3:Int)
 else
  some (0:Int)
def jn (ab:Signal) (c8:Bool):Option Int:=
 if c8=true then
  some (1:Int)
 else
  jm ((decide (¬ (ab.Kind=(4:Int))))&&(decide (ab.aV≠(0:Int))))
def jo (ab:Signal) (c7:Bool):Option Int:=
 if c7=true then
  some (3:Int)
 else
  jn ab ((decide (ab.Kind=(4:Int)))&&((qU ab.aV (aT (ab.At+(1:Int))) (aT (ab.At+(2592000000:Int))))||(decide ((345686400000:Int) < ab.aV))))
def fl (ab:Signal) (c5:Bool):Option Int:=
 if c5=true then
  some (5:Int)
 else
  jo ab ((decide (¬ ((3:Int)≤ab.Kind)))&&(decide (ab.By≠([]:aI))))
def fo (ab:Signal) (c2:Bool):Option Int:=
 if c2=true then
  some (5:Int)
 else
  if (qU ab.Kind (1:Int) (5:Int))=true then
   some (4:Int)
  else
   if (3:Int)≤ab.Kind then
    (oA ab.By).bind fun v6=>
    fl ab (!v6)
   else
    fl ab false
def jq (ab:Signal):Option Int:=
 if (!(nU ab.At))=true then
  some (1:Int)
 else
  (oA ab.Device).bind fun v3=>
  if (!v3)=true then
   fo ab true
  else
   (oA ab.a8).bind fun v4=>
   fo ab (!v4)
def mn (ab:Signal) (ah:Signal):Option Int:=
 (jF [(cmp_Compare_int ab.At ah.At),(Lib.compareBytes ab.Device ah.Device),(Lib.compareBytes ab.a8 ah.a8),(cmp_Compare_int ab.Kind ah.Kind)]).bind fun v3=>
 some v3
def gh (n2:Int) (c6:Bool):Option (Int⊕Int):=
 if c6=true then
  Option.map .inr (some (7:Int))
 else
  some (.inl (aT (n2+(1:Int))))
def cE (ab:List Signal) (n2:Int):Option (Int⊕Int):=
 if n2 < (ab.length:Int) then
  (idx ab n2).bind fun v3=>
  (jq v3).bind fun v5=>
  if v5≠(0:Int) then
   Option.map .inr (some v5)
  else
   if (0:Int) < n2 then
    (idx ab (aT (n2 - (1:Int)))).bind fun v7=>
    (mn v3 v7).bind fun v8=>
    gh n2 (decide (v8≤(0:Int)))
   else
    gh n2 false
 else
  Option.map .inr (some (0:Int))
def oU (ab:List Signal) (n2:Int):Option Int:=
 iter (fun x:Int=>cE ab x) n2
def ec (ab:List Signal):Option Int:=
 if (5000:Int) < (ab.length:Int) then
  some (2:Int)
 else
  oU ab (0:Int)
def oB (c2:Bool):Bool:=
 c2
def pC (ab:au):Bool:=
 oB ((!(qU ab.bg (0:Int) ab.To))&&(decide (ab.To≤(345686400000:Int))))
def qy (ab:aq) (ah:aq):Option Int:=
 (jF [(Lib.compareBytes ab.aK ah.aK),(Lib.compareBytes ab.aN ah.aN)]).bind fun v3=>
 some v3
def gP (ab:ak) (ah:ak):Option Int:=
 (qy ab.aR ah.aR).bind fun v1=>
 some v1
def jr (n19:Int) (qT:List (aq×Int)) (gz:List ak) (Jo:List Int):Option (((List (aq×Int))×(List ak)×(List Int)×Int)⊕bO):=
 some (.inl (qT,gz,Jo,aT (n19+(1:Int))))
def lR (sn:List (aq×Int)) (oh:List ak) (ue:List Int):Option bO:=
 (Fc (fun y0 y1=>gP y0 y1) oh ue).bind fun VA=>
 some (⟨sn,VA,oh⟩:bO)
def dR (ab:List Signal) (sn:List (aq×Int)) (oh:List ak) (ue:List Int) (n19:Int):Option (((List (aq×Int))×(List ak)×(List Int)×Int)⊕bO):=
 if n19 < (ab.length:Int) then
  (idx ab n19).bind fun yf=>
  tj (eB sn (⟨yf.Device,yf.a8⟩:aq)) (
   (BK oh.length ((sn.map Prod.snd)++ue)).bind fun u38=>
   (app ue [(oh.length:Int)]).bind fun W3=>
   jr n19 (gV sn (⟨yf.Device,yf.a8⟩:aq) (oh.length:Int)) (oh++[(⟨(⟨yf.Device,yf.a8⟩:aq),(0:Int),(0:Int),[],(0:Int),[],[],[],[],[]⟩:ak)]) W3) (fun n30=>
   jr n19 sn oh ue)
 else
  Option.map .inr (lR sn oh ue)
def r6 (ab:List Signal) (sn:List (aq×Int)) (oh:List ak) (ue:List Int) (n19:Int):Option bO:=
 iter (fun x:(List (aq×Int))×(List ak)×(List Int)×Int=>dR ab x.1 x.2.1 x.2.2.1 x.2.2.2) (sn,oh,ue,n19)
def mo (ab:List Signal):Option bO:=
 r6 ab [] [] [] (0:Int)
def gn (ab:List au):Option Int:=
 (idx ab (aT ((ab.length:Int) - (1:Int)))).bind fun v1=>
 some (aT ((ab.length:Int) - (1:Int)))
def iJ (ab:ak) (ah:Int) (aO:Int) (iU:List au) (kA:List au):Option ak:=
 some (⟨ab.aR,ah,aO,ab.aD,ab.ay,kA,iU,ab.bh,ab.bf,ab.aW⟩:ak)
def kN (ab:ak) (ah:Int) (aO:Int) (l7:List au) (iU:List au) (Tx:Bool):Option ak:=
 if Tx=true then
  (app l7 [(⟨aO,(345686400000:Int)⟩:au)]).bind fun Gm=>
  iJ ab ah aO iU Gm
 else
  iJ ab ah aO iU l7
def gp (ab:ak) (ah:Int) (aO:Int) (c1:Bool) (c2:Bool) (l7:List au) (iU:List au):Option ak:=
 kN ab ah aO l7 iU (c2&&(!c1))
def gq (ab:ak) (ah:Int) (aO:Int) (c1:Bool) (c2:Bool) (l3:List au) (l7:List au):Option ak:=
 if ah=(1:Int) then
  (app l3 [(⟨aO,(345686400000:Int)⟩:au)]).bind fun sw=>
  gp ab ah aO c1 c2 l7 sw
 else
  gp ab ah aO c1 c2 l7 l3
def kO (ab:ak) (ah:Int) (aO:Int) (c1:Bool) (c2:Bool) (l3:List au) (c6:Bool):Option ak:=
 if c6=true then
  (gn ab.eV).bind fun v8=>
  (idx ab.eV v8).bind fun v9=>
  gq ab ah aO c1 c2 l3 (ab.eV.set v8.toNat (⟨v9.bg,aO⟩:au))
 else
  gq ab ah aO c1 c2 l3 ab.eV
def gr (ab:ak) (ah:Int) (aO:Int) (c1:Bool) (c2:Bool) (l3:List au):Option ak:=
 kO ab ah aO c1 c2 l3 (c1&&(!c2))
def kP (ab:ak) (ah:Int) (aO:Int) (c1:Bool) (c2:Bool):Option ak:=
 if ab.az=(1:Int) then
  (gn ab.bC).bind fun v4=>
  (idx ab.bC v4).bind fun v5=>
  gr ab ah aO c1 c2 (ab.bC.set v4.toNat (⟨v5.bg,aO⟩:au))
 else
  gr ab ah aO c1 c2 ab.bC
def fP (ab:ak) (ah:Int) (aO:Int):Option ak:=
 kP ab ah aO ((decide (ab.az=(1:Int)))||(decide (ab.az=(2:Int)))) ((decide (ah=(1:Int)))||(decide (ah=(2:Int))))
def dq (q3:aI) (q4:aI) (n5:Int) (n6:Int) (l8:List Int) (n9:Int) (iU:List au) (sn:List au) (pD:List au) (RU:List Int) (RW:List Int):Option (Int×ak):=
 some ((0:Int),(⟨(⟨q3,q4⟩:aq),n5,n6,l8,n9,iU,sn,pD,RU,RW⟩:ak))
def dt (ah:Signal) (q3:aI) (q4:aI) (n5:Int) (n6:Int) (l8:List Int) (n9:Int) (iU:List au) (sn:List au) (pD:List au) (Gm:List Int) (nT:List Int):Option (Int×ak):=
 if ¬ (ah.Kind=(2:Int)) then
  (app Gm [ah.At]).bind fun Om=>
  (idx l8 (aT ((l8.length:Int) - (1:Int)))).bind fun G2=>
  (app nT [aT (ah.At - G2)]).bind fun QE=>
  dq q3 q4 n5 n6 l8 n9 iU sn pD Om QE
 else
  dq q3 q4 n5 n6 l8 n9 iU sn pD Gm nT
def eI (ah:Signal) (RX:aI) (RY:aI) (n32:Int) (n33:Int) (QF:List Int) (n36:Int) (QG:List au) (G1:List au) (QH:List au) (Fw:List Int) (Ig:List Int):Option (Int×ak):=
 dt ah RX RY n32 n33 QF n36 QG G1 QH Fw Ig
def gW (ab:ak) (ah:Signal) (Ty:Bool):Option (Int×ak):=
 if Ty=true then
  (fP ab (2:Int) ah.At).bind fun v55=>
  eI ah v55.aR.aK v55.aR.aN v55.az v55.bM v55.aD v55.ay v55.eV v55.bC v55.bh v55.bf v55.aW
 else
  some ((11:Int),ab)
def eJ (ab:ak) (ah:Signal) (c28:Bool):Option (Int×ak):=
 if c28=true then
  (fP ab (0:Int) ah.At).bind fun j9=>
  eI ah j9.aR.aK j9.aR.aN j9.az j9.bM j9.aD j9.ay j9.eV j9.bC j9.bh j9.bf j9.aW
 else
  gW ab ah ((decide (¬ (ah.Kind=(2:Int))))&&(decide (ab.az=(1:Int))))
def gX (ab:ak) (ah:Signal) (RZ:Bool):Option (Int×ak):=
 eJ ab ah RZ
def gY (ab:ak) (ah:Signal) (QI:Bool):Option (Int×ak):=
 if QI=true then
  eJ ab ah QI
 else
  gX ab ah ((decide (¬ (ah.Kind=(2:Int))))&&(decide (ab.az=(3:Int))))
def gZ (ab:ak) (ah:Signal) (c2:Bool):Option (Int×ak):=
 if c2=true then
  (fP ab (3:Int) ah.At).bind fun v20=>
  dt ah v20.aR.aK v20.aR.aN v20.az v20.bM v20.aD v20.ay v20.eV v20.bC v20.bh v20.bf v20.aW
 else
  gY ab ah ((decide (ah.Kind=(2:Int)))&&(decide (ab.az=(2:Int))))
def ke (ab:ak) (ah:Signal):Option (Int×ak):=
 gZ ab ah ((decide (ah.Kind=(2:Int)))&&(decide (ab.az=(1:Int))))
def js (ab:ak) (ah:Signal) (c2:Bool):Option (Int×ak):=
 if c2=true then
  some ((6:Int),ab)
 else
  (fP ab (1:Int) ah.At).bind fun v3=>
  (app v3.aD [ah.At]).bind fun l10=>
  some ((0:Int),(⟨v3.aR,v3.az,v3.bM,l10,v3.ay,v3.eV,v3.bC,v3.bh,v3.bf,v3.aW⟩:ak))
def fq (ab:ak) (ah:Signal) (c12:Bool):Option (Int×ak):=
 if c12=true then
  (ke ab ah).bind fun oN=>
  some (oN.1,oN.2)
 else
  if ah.Kind=(4:Int) then
   if ah.At < ab.ay then
    some ((11:Int),ab)
   else
    (app ab.bh [(⟨ah.At,ah.aV⟩:au)]).bind fun tv=>
    some ((0:Int),(⟨ab.aR,ab.az,ab.bM,ab.aD,ah.aV,ab.eV,ab.bC,tv,ab.bf,ab.aW⟩:ak))
  else
   if ab.ay≤ah.At then
    some ((11:Int),ab)
   else
    (idx ab.bh (aT ((ab.bh.length:Int) - (1:Int)))).bind fun v22=>
    some ((0:Int),(⟨ab.aR,ab.az,ab.bM,ab.aD,ah.At,ab.eV,ab.bC,ab.bh.set (aT ((ab.bh.length:Int) - (1:Int))).toNat (⟨v22.bg,ah.At⟩:au),ab.bf,ab.aW⟩:ak))
def jt (ab:ak) (ah:Signal):Option (Int×ak):=
 if ah.Kind=(1:Int) then
  js ab ah ((decide (ab.az=(1:Int)))||(decide (ab.az=(2:Int))))
 else
  if ah.Kind=(2:Int) then
   fq ab ah (decide (ah.Kind=(2:Int)))
  else
   fq ab ah (decide (ah.Kind=(3:Int)))
def fc (ab:bO) (ah:Signal):Option (Int×bO):=
 tj (eB ab.rD (⟨ah.Device,ah.a8⟩:aq)) (
  none) (fun n2=>
  (idx ab.BN n2).bind fun v3=>
  (jt v3 ah).bind fun v4=>
  some (v4.1,(⟨ab.rD,ab.jX,ab.BN.set n2.toNat v4.2⟩:bO)))
def pE (n19:Int) (gz:List (aq×Int)) (xm:List ak) (Jo:List Int):Option (((List (aq×Int))×(List ak)×(List Int)×Int)⊕bO):=
 some (.inl (gz,xm,Jo,aT (n19+(1:Int))))
def nV (ab:List Signal) (ah:Int) (oh:List (aq×Int)) (pD:List ak) (ue:List Int) (n19:Int):Option (((List (aq×Int))×(List ak)×(List Int)×Int)⊕bO):=
 if n19 < (ab.length:Int) then
  (idx ab n19).bind fun v20=>
  if v20.At≤ah then
   (fc (⟨oh,ue,pD⟩:bO) v20).bind fun yf=>
   pE n19 yf.2.rD yf.2.BN yf.2.jX
  else
   pE n19 oh pD ue
 else
  Option.map .inr (some (⟨oh,ue,pD⟩:bO))
def yR (ab:List Signal) (ah:Int) (oh:List (aq×Int)) (pD:List ak) (ue:List Int) (n19:Int):Option bO:=
 iter (fun x:(List (aq×Int))×(List ak)×(List Int)×Int=>nV ab ah x.1 x.2.1 x.2.2.1 x.2.2.2) (oh,pD,ue,n19)
def qV (ab:List Signal) (ah:Int):Option bO:=
 (mo ab).bind fun v1=>
 yR ab ah v1.rD v1.BN v1.jX (0:Int)
def mq (c1:Bool):Bool:=
 c1
def bB (ab:Int) (ah:au):Bool:=
 mq ((decide (ah.bg≤ab))&&(decide (ab < ah.To)))
def ju (ab:aj) (ah:aj):Int:=
 (Lib.compareBytes ab.a8 ah.a8)
def fX (ab:List aj) (oK:aj→aj→Option Int):Option (List aj):=
 Ai oK ab
def bt (n26:Int) (Lk:List aj) (Tz:List (aI×Int)):Option (((List aj)×(List (aI×Int))×Int)⊕((List aj)×Int)):=
 some (.inl (Lk,Tz,aT (n26+(1:Int))))
def lS (gz:List aj) (eO:List (aI×Int)) (n26:Int) (v31:ak):Option (Unit⊕(((List aj)×(List (aI×Int))×Int)⊕((List aj)×Int))):=
 if (0:Int) < (v31.eV.length:Int) then
  (idx v31.eV (0:Int)).bind fun v44=>
  none
 else
  Option.map .inr (bt n26 (gz++[(⟨v31.aR.aN,(0:Int),(0:Int),(0:Int),(0:Int)⟩:aj)]) (gV eO v31.aR.aN (gz.length:Int)))
def xn (gz:List aj) (eO:List (aI×Int)) (n26:Int) (v31:ak):Option (((List aj)×(List (aI×Int))×Int)⊕((List aj)×Int)):=
 iter (fun x:Unit=>lS gz eO n26 v31) ()
def lT (ah:au) (gz:List aj) (eO:List (aI×Int)) (n26:Int) (v31:ak) (n42:Int):Option (Int⊕(((List aj)×(List (aI×Int))×Int)⊕((List aj)×Int))):=
 if n42 < (v31.bf.length:Int) then
  (idx v31.bf n42).bind fun Jn=>
  if (bB Jn ah)=true then
   none
  else
   some (.inl (aT (n42+(1:Int))))
 else
  Option.map .inr (xn gz eO n26 v31)
def xo (ah:au) (gz:List aj) (eO:List (aI×Int)) (n26:Int) (v31:ak) (n42:Int):Option (((List aj)×(List (aI×Int))×Int)⊕((List aj)×Int)):=
 iter (fun x:Int=>lT ah gz eO n26 v31 x) n42
def lU (ah:au) (gz:List aj) (eO:List (aI×Int)) (n26:Int) (v31:ak) (n39:Int):Option (Int⊕(((List aj)×(List (aI×Int))×Int)⊕((List aj)×Int))):=
 if n39 < (v31.aD.length:Int) then
  (idx v31.aD n39).bind fun v40=>
  if (bB v40 ah)=true then
   none
  else
   some (.inl (aT (n39+(1:Int))))
 else
  Option.map .inr (xo ah gz eO n26 v31 (0:Int))
def xp (ah:au) (gz:List aj) (eO:List (aI×Int)) (n26:Int) (v31:ak) (n39:Int):Option (((List aj)×(List (aI×Int))×Int)⊕((List aj)×Int)):=
 iter (fun x:Int=>lU ah gz eO n26 v31 x) n39
def jv (n51:Int) (GZ:List aj):Option (((List aj)×Int)⊕(((List aj)×(List (aI×Int))×Int)⊕((List aj)×Int))):=
 some (.inl (GZ,aT (n51+(1:Int))))
def jw (n62:Int) (TA:List aj):Option (((List aj)×Int)⊕(((List aj)×(List (aI×Int))×Int)⊕((List aj)×Int))):=
 some (.inl (TA,aT (n62+(1:Int))))
def eP (ah:au) (gz:List aj) (eO:List (aI×Int)) (n26:Int) (v31:ak) (n37:Int) (Pr:List aj) (QJ:Int):Option (((List aj)×Int)⊕(((List aj)×(List (aI×Int))×Int)⊕((List aj)×Int))):=
 if QJ < (v31.eV.length:Int) then
  (idx v31.eV QJ).bind fun v76=>
  (idx Pr n37).bind fun v78=>
  some (.inl (Pr.set n37.toNat (⟨v78.a8,v78.bS,v78.dh,v78.bV,aT (v78.Time+(max (0:Int) (aT ((min v76.To ah.To) - (max v76.bg ah.bg)))))⟩:aj),aT (QJ+(1:Int))))
 else
  Option.map .inr (bt n26 Pr (gV eO v31.aR.aN (gz.length:Int)))
def oC (ah:au) (gz:List aj) (eO:List (aI×Int)) (n26:Int) (v31:ak) (n37:Int) (Pr:List aj) (QJ:Int):Option (((List aj)×(List (aI×Int))×Int)⊕((List aj)×Int)):=
 iter (fun x:(List aj)×Int=>eP ah gz eO n26 v31 n37 x.1 x.2) (Pr,QJ)
def eQ (ah:au) (gz:List aj) (eO:List (aI×Int)) (n26:Int) (v31:ak) (n37:Int) (MQ:List aj) (n62:Int):Option (((List aj)×Int)⊕(((List aj)×(List (aI×Int))×Int)⊕((List aj)×Int))):=
 if n62 < (v31.bf.length:Int) then
  (idx v31.bf n62).bind fun v63=>
  if (bB v63 ah)=true then
   (idx MQ n37).bind fun v66=>
   (idx v31.aW n62).bind fun G2=>
   jw n62 ((MQ.set n37.toNat (⟨v66.a8,v66.bS,aT (v66.dh+(1:Int)),v66.bV,v66.Time⟩:aj)).set n37.toNat (⟨v66.a8,v66.bS,aT (v66.dh+(1:Int)),aT (v66.bV+G2),v66.Time⟩:aj))
  else
   jw n62 MQ
 else
  Option.map .inr (oC ah gz eO n26 v31 n37 MQ (0:Int))
def oD (ah:au) (gz:List aj) (eO:List (aI×Int)) (n26:Int) (v31:ak) (n37:Int) (MQ:List aj) (n62:Int):Option (((List aj)×(List (aI×Int))×Int)⊕((List aj)×Int)):=
 iter (fun x:(List aj)×Int=>eQ ah gz eO n26 v31 n37 x.1 x.2) (MQ,n62)
def eR (ah:au) (gz:List aj) (eO:List (aI×Int)) (n26:Int) (v31:ak) (n37:Int) (MR:List aj) (n51:Int):Option (((List aj)×Int)⊕(((List aj)×(List (aI×Int))×Int)⊕((List aj)×Int))):=
 if n51 < (v31.aD.length:Int) then
  (idx v31.aD n51).bind fun BP=>
  if (bB BP ah)=true then
   (idx MR n37).bind fun v55=>
   jv n51 (MR.set n37.toNat (⟨v55.a8,aT (v55.bS+(1:Int)),v55.dh,v55.bV,v55.Time⟩:aj))
  else
   jv n51 MR
 else
  Option.map .inr (oD ah gz eO n26 v31 n37 MR (0:Int))
def lV (ah:au) (gz:List aj) (eO:List (aI×Int)) (n26:Int) (v31:ak) (n37:Int) (MR:List aj) (n51:Int):Option (((List aj)×(List (aI×Int))×Int)⊕((List aj)×Int)):=
 iter (fun x:(List aj)×Int=>eR ah gz eO n26 v31 n37 x.1 x.2) (MR,n51)
def kQ (gz:List aj) (eO:List (aI×Int)) (n26:Int) (v31:ak):Option (Unit⊕(((List aj)×(List (aI×Int))×Int)⊕((List aj)×Int))):=
 if (0:Int) < (v31.eV.length:Int) then
  (idx v31.eV (0:Int)).bind fun v87=>
  none
 else
  Option.map .inr (bt n26 gz eO)
def wH (gz:List aj) (eO:List (aI×Int)) (n26:Int) (v31:ak):Option (((List aj)×(List (aI×Int))×Int)⊕((List aj)×Int)):=
 iter (fun x:Unit=>kQ gz eO n26 v31) ()
def lW (ah:au) (gz:List aj) (eO:List (aI×Int)) (n26:Int) (v31:ak) (QK:Int):Option (Int⊕(((List aj)×(List (aI×Int))×Int)⊕((List aj)×Int))):=
 if QK < (v31.bf.length:Int) then
  (idx v31.bf QK).bind fun v86=>
  if (bB v86 ah)=true then
   none
  else
   some (.inl (aT (QK+(1:Int))))
 else
  Option.map .inr (wH gz eO n26 v31)
def xq (ah:au) (gz:List aj) (eO:List (aI×Int)) (n26:Int) (v31:ak) (QK:Int):Option (((List aj)×(List (aI×Int))×Int)⊕((List aj)×Int)):=
 iter (fun x:Int=>lW ah gz eO n26 v31 x) QK
def lX (ah:au) (gz:List aj) (eO:List (aI×Int)) (n26:Int) (v31:ak) (QL:Int):Option (Int⊕(((List aj)×(List (aI×Int))×Int)⊕((List aj)×Int))):=
 if QL < (v31.aD.length:Int) then
  (idx v31.aD QL).bind fun v83=>
  if (bB v83 ah)=true then
   none
  else
   some (.inl (aT (QL+(1:Int))))
 else
  Option.map .inr (xq ah gz eO n26 v31 (0:Int))
def xu (ah:au) (gz:List aj) (eO:List (aI×Int)) (n26:Int) (v31:ak) (QL:Int):Option (((List aj)×(List (aI×Int))×Int)⊕((List aj)×Int)):=
 iter (fun x:Int=>lX ah gz eO n26 v31 x) QL
def jx (JV:Int) (TB:List aj):Option (((List aj)×Int)⊕(((List aj)×(List (aI×Int))×Int)⊕((List aj)×Int))):=
 some (.inl (TB,aT (JV+(1:Int))))
def jy (n105:Int) (Ln:List aj):Option (((List aj)×Int)⊕(((List aj)×(List (aI×Int))×Int)⊕((List aj)×Int))):=
 some (.inl (Ln,aT (n105+(1:Int))))
def ed (ah:au) (eO:List (aI×Int)) (n26:Int) (v31:ak) (vy:Int) (Fx:List aj) (n118:Int):Option (((List aj)×Int)⊕(((List aj)×(List (aI×Int))×Int)⊕((List aj)×Int))):=
 if n118 < (v31.eV.length:Int) then
  (idx v31.eV n118).bind fun Lo=>
  (idx Fx vy).bind fun AE=>
  some (.inl (Fx.set vy.toNat (⟨AE.a8,AE.bS,AE.dh,AE.bV,aT (AE.Time+(max (0:Int) (aT ((min Lo.To ah.To) - (max Lo.bg ah.bg)))))⟩:aj),aT (n118+(1:Int))))
 else
  Option.map .inr (bt n26 Fx eO)
def nE (ah:au) (eO:List (aI×Int)) (n26:Int) (v31:ak) (vy:Int) (Fx:List aj) (n118:Int):Option (((List aj)×(List (aI×Int))×Int)⊕((List aj)×Int)):=
 iter (fun x:(List aj)×Int=>ed ah eO n26 v31 vy x.1 x.2) (Fx,n118)
def ee (ah:au) (eO:List (aI×Int)) (n26:Int) (v31:ak) (vy:Int) (BQ:List aj) (n105:Int):Option (((List aj)×Int)⊕(((List aj)×(List (aI×Int))×Int)⊕((List aj)×Int))):=
 if n105 < (v31.bf.length:Int) then
  (idx v31.bf n105).bind fun TC=>
  if (bB TC ah)=true then
   (idx BQ vy).bind fun v109=>
   (idx v31.aW n105).bind fun On=>
   jy n105 ((BQ.set vy.toNat (⟨v109.a8,v109.bS,aT (v109.dh+(1:Int)),v109.bV,v109.Time⟩:aj)).set vy.toNat (⟨v109.a8,v109.bS,aT (v109.dh+(1:Int)),aT (v109.bV+On),v109.Time⟩:aj))
  else
   jy n105 BQ
 else
  Option.map .inr (nE ah eO n26 v31 vy BQ (0:Int))
def nF (ah:au) (eO:List (aI×Int)) (n26:Int) (v31:ak) (vy:Int) (BQ:List aj) (n105:Int):Option (((List aj)×(List (aI×Int))×Int)⊕((List aj)×Int)):=
 iter (fun x:(List aj)×Int=>ee ah eO n26 v31 vy x.1 x.2) (BQ,n105)
def ef (ah:au) (eO:List (aI×Int)) (n26:Int) (v31:ak) (vy:Int) (MS:List aj) (JV:Int):Option (((List aj)×Int)⊕(((List aj)×(List (aI×Int))×Int)⊕((List aj)×Int))):=
 if JV < (v31.aD.length:Int) then
  (idx v31.aD JV).bind fun v95=>
  if (bB v95 ah)=true then
   (idx MS vy).bind fun Gn=>
   jx JV (MS.set vy.toNat (⟨Gn.a8,aT (Gn.bS+(1:Int)),Gn.dh,Gn.bV,Gn.Time⟩:aj))
  else
   jx JV MS
 else
  Option.map .inr (nF ah eO n26 v31 vy MS (0:Int))
def nG (ah:au) (eO:List (aI×Int)) (n26:Int) (v31:ak) (vy:Int) (MS:List aj) (JV:Int):Option (((List aj)×(List (aI×Int))×Int)⊕((List aj)×Int)):=
 iter (fun x:(List aj)×Int=>ef ah eO n26 v31 vy x.1 x.2) (MS,JV)
def gu (gz:List aj) (QM:aI×Int) (DB:List aj):Option ((List aj)⊕((List aj)×Int)):=
 (idx gz QM.2).bind fun v130=>
 (app DB [v130]).bind fun TE=>
 some (.inl TE)
def gw (DB:List aj):Option ((List aj)×Int):=
 (kD DB.length (fun r:(List aj)=>r.length) (fX DB (fun y0 y1=>some (ju y0 y1)))).bind fun Oo=>
 some (Oo,(0:Int))
def nH (gz:List aj) (eO:List (aI×Int)) (DB:List aj):Option ((List aj)×Int):=
 Ap eO (fun p=>rW (fun e (x:(List aj))=>gu gz e x) (fun x:(List aj)=>gw x) p DB)
def dU (ah:au) (kA:List ak) (gz:List aj) (eO:List (aI×Int)) (n26:Int):Option (((List aj)×(List (aI×Int))×Int)⊕((List aj)×Int)):=
 if n26 < (kA.length:Int) then
  (idx kA n26).bind fun v31=>
  tj (eB eO v31.aR.aN) (
   (BK gz.length (eO.map Prod.snd)).bind fun u34=>
   tj (eB (gV eO v31.aR.aN (gz.length:Int)) v31.aR.aN) (
    xp ah gz eO n26 v31 (0:Int)) (fun n37=>
    lV ah gz eO n26 v31 n37 (gz++[(⟨v31.aR.aN,(0:Int),(0:Int),(0:Int),(0:Int)⟩:aj)]) (0:Int))) (fun n32=>
   tj (eB eO v31.aR.aN) (
    xu ah gz eO n26 v31 (0:Int)) (fun vy=>
    nG ah eO n26 v31 vy gz (0:Int)))
 else
  Option.map .inr (nH gz eO [])
def lY (ah:au) (kA:List ak) (gz:List aj) (eO:List (aI×Int)) (n26:Int):Option ((List aj)×Int):=
 iter (fun x:(List aj)×(List (aI×Int))×Int=>dU ah kA x.1 x.2.1 x.2.2) (gz,eO,n26)
def iK (ab:List Signal) (ah:au):Option ((List aj)×Int):=
 (ec ab).bind fun v5=>
 if v5≠(0:Int) then
  some ([],v5)
 else
  if (!(pC ah))=true then
   some ([],(1:Int))
  else
   (qV ab (345686400000:Int)).bind fun v9=>
   (idxs v9.BN v9.jX).bind fun kA=>
   lY ah kA [] [] (0:Int)
def mH (c2:Bool):Int:=
 if c2=true then
  (1:Int)
 else
  (0:Int)
def iw (ab:au):Int:=
 mH ((!(zh ab.bg (0:Int) ab.To))||(decide ((345686400000:Int) < ab.To)))
def nv (ab:List Int) (n2:Int):Option (Int⊕Int):=
 if n2 < (ab.length:Int) then
  (idx ab n2).bind fun v3=>
  if v3≠(0:Int) then
   Option.map .inr (some v3)
  else
   some (.inl (aT (n2+(1:Int))))
 else
  Option.map .inr (some (0:Int))
def zi (ab:List Int) (n2:Int):Option Int:=
 iter (fun x:Int=>nv ab x) n2
def qz (ab:List Int):Option Int:=
 zi ab (0:Int)
def mI (c1:Bool):Bool:=
 c1
def iy (ab:an) (ah:Signal):Bool:=
 mI ((decide (ab.aK=ah.Device))&&(decide (ab.aN=ah.a8)))
def cF (ab:List an) (oK:an→Option Bool) (n2:Int):Option (Int⊕Int):=
 if n2 < (ab.length:Int) then
  (idx ab n2).bind fun v3=>
  (oK v3).bind fun v4=>
  if v4=true then
   Option.map .inr (some n2)
  else
   some (.inl (aT (n2+(1:Int))))
 else
  Option.map .inr (some (-1:Int))
def mQ (ab:List an) (oK:an→Option Bool) (n2:Int):Option Int:=
 iter (fun x:Int=>cF ab oK x) n2
def dm (ab:List an) (oK:an→Option Bool):Option Int:=
 mQ ab oK (0:Int)
def iX (ab:an) (ah:Signal) (n4:Int) (n5:Int) (n6:Int):Option (Int×an):=
 (app ab.bq [ah]).bind fun tv=>
 some ((0:Int),(⟨ab.aK,ab.aN,tv,n4,(⟨n5,n6⟩:au)⟩:an))
def fQ (ab:an) (ah:Signal) (n7:Int) (n8:Int) (n9:Int):Option (Int×an):=
 iX ab ah n7 n8 n9
def iY (ab:an) (ah:Signal) (n12:Int) (n13:Int) (n14:Int):Option (Int×an):=
 fQ ab ah n12 n13 n14
def nw (ab:an) (ah:Signal) (Lp:Bool):Option (Int×an):=
 if Lp=true then
  some ((11:Int),ab)
 else
  (yM (gV (gV ([]:List (Int×Int)) (1:Int) (2:Int)) (3:Int) (0:Int)) ab.az (0:Int)).bind fun v17=>
  iY ab ah v17 ab.ay.bg ab.ay.To
def k7 (ab:an) (ah:Signal) (n18:Int) (n19:Int):Option (Int×an):=
 iY ab ah ab.az n18 n19
def nx (ab:an) (ah:Signal) (c2:Bool) (c3:Bool):Option (Int×an):=
 if ah.Kind=(1:Int) then
  if c2=true then
   some ((6:Int),ab)
  else
   iX ab ah (1:Int) ab.ay.bg ab.ay.To
 else
  if ah.Kind=(2:Int) then
   if (!c2)=true then
    some ((11:Int),ab)
   else
    (yM (gV (gV ([]:List (Int×Int)) (1:Int) (3:Int)) (2:Int) (0:Int)) ab.az (0:Int)).bind fun v11=>
    fQ ab ah v11 ab.ay.bg ab.ay.To
  else
   if ah.Kind=(3:Int) then
    nw ab ah ((decide (ab.az≠(1:Int)))&&(decide (ab.az≠(3:Int))))
   else
    if ah.Kind=(4:Int) then
     if c3=true then
      some ((11:Int),ab)
     else
      k7 ab ah ah.At ah.aV
    else
     if (!c3)=true then
      some ((11:Int),ab)
     else
      k7 ab ah (0:Int) (0:Int)
def ny (ab:an) (ah:Signal) (c2:Bool):Option (Int×an):=
 nx ab ah c2 ((decide (ab.ay.bg≤ah.At))&&(decide (ah.At < ab.ay.To)))
def oE (ab:an) (ah:Signal):Option (Int×an):=
 ny ab ah ((decide (ab.az=(1:Int)))||(decide (ab.az=(2:Int))))
def ly (ab:an) (ah:an):Option Int:=
 (jF [(Lib.compareBytes ab.aK ah.aK),(Lib.compareBytes ab.aN ah.aN)]).bind fun v1=>
 some v1
def jG (l4:List an) (l8:List Int) (l10:List cd):Option ((List an)×(List cd)):=
 (Fc (fun y0 y1=>ly y0 y1) l4 l8).bind fun VB=>
 (idxs l4 VB).bind fun l56=>
 some (l56,l10)
def mY (n26:Int) (Lq:List an) (o5:List Int) (v46:Int) (bI:Int×an) (R0:List cd):Option (((List an)×(List Int)×(List cd)×Int)⊕((List an)×(List cd))):=
 some (.inl (Lq.set v46.toNat bI.2,o5,R0,aT (n26+(1:Int))))
def lz (eO:List cd) (n26:Int) (G3:Signal) (Lq:List an) (o5:List Int) (n38:Int):Option (((List an)×(List Int)×(List cd)×Int)⊕((List an)×(List cd))):=
 (idx o5 n38).bind fun v46=>
 (idx Lq v46).bind fun j9=>
 (oE j9 G3).bind fun bI=>
 if bI.1≠(0:Int) then
  (app eO [(⟨n26,bI.1⟩:cd)]).bind fun GZ=>
  mY n26 Lq o5 v46 bI GZ
 else
  mY n26 Lq o5 v46 bI eO
def lA (ab:List Signal) (ah:Int) (nT:List an) (xm:List Int) (eO:List cd) (n26:Int):Option (((List an)×(List Int)×(List cd)×Int)⊕((List an)×(List cd))):=
 if n26 < (ab.length:Int) then
  (idx ab n26).bind fun G3=>
  if ah < G3.At then
   Option.map .inr (jG nT xm eO)
  else
   (idxs nT xm).bind fun Tu=>
   (dm Tu (fun y0=>some (iy y0 G3))).bind fun v32=>
   if v32 < (0:Int) then
    (BK nT.length xm).bind fun u41=>
    (app xm [(nT.length:Int)]).bind fun Fw=>
    lz eO n26 G3 (nT++[(⟨G3.Device,G3.a8,[],(0:Int),(⟨(0:Int),(0:Int)⟩:au)⟩:an)]) Fw (xm.length:Int)
   else
    lz eO n26 G3 nT xm v32
 else
  Option.map .inr (jG nT xm eO)
def wb (ab:List Signal) (ah:Int) (nT:List an) (xm:List Int) (eO:List cd) (n26:Int):Option ((List an)×(List cd)):=
 iter (fun x:(List an)×(List Int)×(List cd)×Int=>lA ab ah x.1 x.2.1 x.2.2.1 x.2.2.2) (nT,xm,eO,n26)
def nI (ab:List Signal) (ah:Int):Option ((List an)×(List cd)):=
 wb ab ah [] [] [] (0:Int)
def fF (ab:List aI):Option (List aI):=
 app [] ab
def fZ (ab:List aI):Option (List aI):=
 Ak BH ab
def dW (n11:Int) (oh:List aI) (n15:Int):Option (((List aI)×Int×Int)⊕(Int⊕(List aI))):=
 some (.inl (oh,n15,aT (n11+(1:Int))))
def jK (l9:List aI) (n10:Int):Option (Int⊕(List aI)):=
 (sv l9 n10 (l9.length:Int)).bind fun ue=>
 (sv (Cf l9 n10 ue.length []) (0:Int) n10).bind fun nT=>
 Option.map .inr (some nT)
def dX (n2:Int) (l5:List aI) (l9:List aI) (n10:Int) (n11:Int):Option (((List aI)×Int×Int)⊕(Int⊕(List aI))):=
 if n11 < (l5.length:Int) then
  (rC l9 n2 l5.length n11).bind fun v12=>
  (rC l9 n2 l5.length (aT (n11 - (1:Int)))).bind fun oN=>
  if v12≠oN then
   (rC l9 n2 l5.length n11).bind fun og=>
   (idx l9 n10).bind fun v17=>
   dW n11 (l9.set n10.toNat og) (aT (n10+(1:Int)))
  else
   dW n11 l9 n10
 else
  Option.map .inr (jK l9 n10)
def oO (n2:Int) (l5:List aI) (l9:List aI) (n10:Int) (n11:Int):Option (Int⊕(List aI)):=
 iter (fun x:(List aI)×Int×Int=>dX n2 l5 x.1 x.2.1 x.2.2) (l9,n10,n11)
def dY (ab:List aI) (n2:Int):Option (Int⊕(List aI)):=
 if n2 < (ab.length:Int) then
  (idx ab n2).bind fun v3=>
  (idx ab (aT (n2 - (1:Int)))).bind fun v4=>
  if v3=v4 then
   (sv ab n2 (ab.length:Int)).bind fun l5=>
   oO n2 l5 ab n2 (1:Int)
  else
   some (.inl (aT (n2+(1:Int))))
 else
  Option.map .inr (some ab)
def oP (ab:List aI) (n2:Int):Option (List aI):=
 iter (fun x:Int=>dY ab x) n2
def ff (ab:List aI):Option (List aI):=
 if (ab.length:Int) < (2:Int) then
  some ab
 else
  oP ab (1:Int)
def AF (ab:List aI):Option (List aI):=
 (fF ab).bind fun v1=>
 (kD v1.length (fun r:(List aI)=>r.length) (fZ v1)).bind fun v3=>
 (ff v3).bind fun v4=>
 some v4
def vz (c2:Bool):Bool:=
 c2
def yg (ab:fb):Bool:=
 vz ((decide (ab.State=(1:Int)))||(decide (ab.State=(2:Int))))
def mR (ab:List Int):Option (List Int):=
 Ak Al ab
def ga (n11:Int) (oh:List Int) (n15:Int):Option (((List Int)×Int×Int)⊕(Int⊕(List Int))):=
 some (.inl (oh,n15,aT (n11+(1:Int))))
def mN (l9:List Int) (n10:Int):Option (Int⊕(List Int)):=
 (sv l9 n10 (l9.length:Int)).bind fun ue=>
 (sv (Cf l9 n10 ue.length (0:Int)) (0:Int) n10).bind fun nT=>
 Option.map .inr (some nT)
def gb (n2:Int) (l5:List Int) (l9:List Int) (n10:Int) (n11:Int):Option (((List Int)×Int×Int)⊕(Int⊕(List Int))):=
 if n11 < (l5.length:Int) then
  (rC l9 n2 l5.length n11).bind fun v12=>
  (rC l9 n2 l5.length (aT (n11 - (1:Int)))).bind fun oN=>
  if v12≠oN then
   (rC l9 n2 l5.length n11).bind fun og=>
   (idx l9 n10).bind fun v17=>
   ga n11 (l9.set n10.toNat og) (aT (n10+(1:Int)))
  else
   ga n11 l9 n10
 else
  Option.map .inr (mN l9 n10)
def rH (n2:Int) (l5:List Int) (l9:List Int) (n10:Int) (n11:Int):Option (Int⊕(List Int)):=
 iter (fun x:(List Int)×Int×Int=>gb n2 l5 x.1 x.2.1 x.2.2) (l9,n10,n11)
def gd (ab:List Int) (n2:Int):Option (Int⊕(List Int)):=
 if n2 < (ab.length:Int) then
  (idx ab n2).bind fun v3=>
  (idx ab (aT (n2 - (1:Int)))).bind fun v4=>
  if v3=v4 then
   (sv ab n2 (ab.length:Int)).bind fun l5=>
   rH n2 l5 ab n2 (1:Int)
  else
   some (.inl (aT (n2+(1:Int))))
 else
  Option.map .inr (some ab)
def rI (ab:List Int) (n2:Int):Option (List Int):=
 iter (fun x:Int=>gd ab x) n2
def im (ab:List Int):Option (List Int):=
 if (ab.length:Int) < (2:Int) then
  some ab
 else
  rI ab (1:Int)
def iL (n7:Int) (sn:List Int):Option (((List Int)×Int)⊕(List Int)):=
 some (.inl (sn,aT (n7+(1:Int))))
def iM (l6:List Int):Option (List Int):=
 (kD l6.length (fun r:(List Int)=>r.length) (mR l6)).bind fun og=>
 (im og).bind fun v17=>
 some v17
def dc (ab:List Signal) (l6:List Int) (n7:Int):Option (((List Int)×Int)⊕(List Int)):=
 if n7 < (ab.length:Int) then
  (idx ab n7).bind fun v8=>
  (app l6 [v8.At]).bind fun l10=>
  if v8.Kind=(4:Int) then
   (app l10 [v8.aV]).bind fun oh=>
   iL n7 oh
  else
   iL n7 l10
 else
  Option.map .inr (iM l6)
def qW (ab:List Signal) (l6:List Int) (n7:Int):Option (List Int):=
 iter (fun x:(List Int)×Int=>dc ab x.1 x.2) (l6,n7)
def k8 (ab:List Signal):Option (List Int):=
 qW ab [(0:Int),(345686400000:Int)] (0:Int)
def kf (n8:Int) (n11:Int) (n12:Int):Option ((Int×Int×Int)⊕fb):=
 some (.inl (n11,n12,aT (n8+(1:Int))))
def kh (n7:Int) (n8:Int) (v9:Signal) (n11:Int):Option ((Int×Int×Int)⊕fb):=
 if v9.Kind=(1:Int) then
  kf n8 n11 (aT (n7+(1:Int)))
 else
  kf n8 n11 n7
def ki (ab:an) (n6:Int) (n7:Int) (n14:Int):Option fb:=
 some (⟨ab.aK,ab.aN,ab.az,n6,n7,n14⟩:fb)
def kj (ab:an) (n6:Int) (n7:Int) (Ll:Bool):Option fb:=
 if Ll=true then
  ki ab n6 n7 ab.ay.To
 else
  ki ab n6 n7 (0:Int)
def ey (ab:an) (ah:Int) (n6:Int) (n7:Int) (n8:Int):Option ((Int×Int×Int)⊕fb):=
 if n8 < (ab.bq.length:Int) then
  (idx ab.bq n8).bind fun v9=>
  if v9.Kind≤(3:Int) then
   kh n7 n8 v9 v9.At
  else
   kh n7 n8 v9 n6
 else
  Option.map .inr (kj ab n6 n7 ((decide (ab.ay.bg≤ah))&&(decide (ah < ab.ay.To))))
def sH (ab:an) (ah:Int) (n6:Int) (n7:Int) (n8:Int):Option fb:=
 iter (fun x:Int×Int×Int=>ey ab ah x.1 x.2.1 x.2.2) (n6,n7,n8)
def mZ (ab:an) (ah:Int):Option fb:=
 sH ab ah (0:Int) (0:Int) (0:Int)
def qA (bE:Int) (n5:Int) (v6:an) (c7:Bool):Option (Int⊕fb):=
 if c7=true then
  (mZ v6 bE).bind fun v8=>
  Option.map .inr (some v8)
 else
  some (.inl (aT (n5+(1:Int))))
def kR (ah:aI) (aO:aI) (bE:Int) (v2:(List an)×(List cd)) (n5:Int):Option (Int⊕fb):=
 if n5 < (v2.1.length:Int) then
  (idx v2.1 n5).bind fun v6=>
  qA bE n5 v6 ((decide (v6.aK=ah))&&(decide (v6.aN=aO)))
 else
  Option.map .inr (some (⟨ah,aO,(0:Int),(0:Int),(0:Int),(0:Int)⟩:fb))
def xv (ah:aI) (aO:aI) (bE:Int) (v2:(List an)×(List cd)) (n5:Int):Option fb:=
 iter (fun x:Int=>kR ah aO bE v2 x) n5
def sI (ab:List Signal) (ah:aI) (aO:aI) (bE:Int):Option fb:=
 (nI ab bE).bind fun v2=>
 xv ah aO bE v2 (0:Int)
def kS (n8:Int) (iU:List au):Option (((List au)×Int)⊕(List au)):=
 some (.inl (iU,aT (n8+(1:Int))))
def mJ (n8:Int) (nT:List au):Option (((List au)×Int)⊕(List au)):=
 kS n8 nT
def kT (v1:(List Int)) (l7:List au) (n8:Int) (Lp:Bool):Option (((List au)×Int)⊕(List au)):=
 if Lp=true then
  (idx v1 (aT (n8+(1:Int)))).bind fun v20=>
  (idx l7 (aT ((l7.length:Int) - (1:Int)))).bind fun v21=>
  mJ n8 (l7.set (aT ((l7.length:Int) - (1:Int))).toNat (⟨v21.bg,v20⟩:au))
 else
  (idx v1 n8).bind fun v22=>
  (idx v1 (aT (n8+(1:Int)))).bind fun v23=>
  (app l7 [(⟨v22,v23⟩:au)]).bind fun W4=>
  mJ n8 W4
def fG (ab:List Signal) (ah:aI) (aO:aI) (mA:fb→Option Bool) (v1:(List Int)) (l7:List au) (n8:Int):Option (((List au)×Int)⊕(List au)):=
 if n8 < (aT ((v1.length:Int) - (1:Int))) then
  (idx v1 n8).bind fun v12=>
  (sI ab ah aO v12).bind fun oN=>
  (mA oN).bind fun mB=>
  if (!mB)=true then
   kS n8 l7
  else
   if (0:Int) < (l7.length:Int) then
    (idx l7 (aT ((l7.length:Int) - (1:Int)))).bind fun og=>
    (idx v1 n8).bind fun v17=>
    kT v1 l7 n8 (decide (og.To=v17))
   else
    kT v1 l7 n8 false
 else
  Option.map .inr (some l7)
def xw (ab:List Signal) (ah:aI) (aO:aI) (mA:fb→Option Bool) (v1:(List Int)) (l7:List au) (n8:Int):Option (List au):=
 iter (fun x:(List au)×Int=>fG ab ah aO mA v1 x.1 x.2) (l7,n8)
def sJ (ab:List Signal) (ah:aI) (aO:aI) (mA:fb→Option Bool):Option (List au):=
 (k8 ab).bind fun v1=>
 xw ab ah aO mA v1 [] (0:Int)
def na (ab:List Signal) (ah:aI) (aO:aI):Option (List au):=
 (sJ ab ah aO (fun y0=>some (yg y0))).bind fun v1=>
 some v1
def yS (ab:au) (ah:au):au×Bool:=
 ((⟨max ab.bg ah.bg,min ab.To ah.To⟩:au),decide ((max ab.bg ah.bg) < (min ab.To ah.To)))
def gR (n35:Int) (n36:Int) (n37:Int) (n38:Int) (n39:Int):Option ((Int×Int×Int×Int×Int)⊕(((List aj)×Int)⊕(List aj))):=
 some (.inl (n36,n37,n38,n39,aT (n35+(1:Int))))
def k9 (n50:Int) (TF:Int) (TG:Int) (TH:Int) (TI:Int):Option ((Int×Int×Int×Int×Int)⊕((Int×Int×Int×Int×Int)⊕(((List aj)×Int)⊕(List aj)))):=
 some (.inl (TF,TG,TH,TI,aT (n50+(1:Int))))
def lf (n47:Int) (n48:Int) (n50:Int) (v51:Signal) (n57:Int):Option ((Int×Int×Int×Int×Int)⊕((Int×Int×Int×Int×Int)⊕(((List aj)×Int)⊕(List aj)))):=
 k9 n50 n57 n47 n48 v51.At
def lg (n46:Int) (n49:Int) (n50:Int) (R1:Int) (n59:Int):Option ((Int×Int×Int×Int×Int)⊕((Int×Int×Int×Int×Int)⊕(((List aj)×Int)⊕(List aj)))):=
 k9 n50 n46 R1 n59 n49
def lh (n46:Int) (n49:Int) (n50:Int) (n60:Int) (n61:Int):Option ((Int×Int×Int×Int×Int)⊕((Int×Int×Int×Int×Int)⊕(((List aj)×Int)⊕(List aj)))):=
 lg n46 n49 n50 n60 n61
def lj (JW:Int) (TJ:Int):Option ((Int×Int)⊕((Int×Int×Int×Int×Int)⊕(((List aj)×Int)⊕(List aj)))):=
 some (.inl (TJ,aT (JW+(1:Int))))
def fR (ah:au) (n35:Int) (n46:Int) (n47:Int) (n48:Int) (G4:(List au)) (MT:Int) (JW:Int):Option ((Int×Int)⊕((Int×Int×Int×Int×Int)⊕(((List aj)×Int)⊕(List aj)))):=
 if JW < (G4.length:Int) then
  (idx G4 JW).bind fun G2=>
  if ((yS G2 ah).2)=true then
   lj JW (aT (MT+(aT ((((yS G2 ah).1).To) - (((yS G2 ah).1).bg)))))
  else
   lj JW MT
 else
  Option.map .inr (gR n35 n46 n47 n48 MT)
def pS (ah:au) (n35:Int) (n46:Int) (n47:Int) (n48:Int) (G4:(List au)) (MT:Int) (JW:Int):Option ((Int×Int×Int×Int×Int)⊕(((List aj)×Int)⊕(List aj))):=
 iter (fun x:Int×Int=>fR ah n35 n46 n47 n48 G4 x.1 x.2) (MT,JW)
def nz (ab:List Signal) (ah:au) (v24:aI) (n34:Int) (n35:Int) (v40:an) (n46:Int) (n47:Int) (n48:Int):Option ((Int×Int×Int×Int×Int)⊕(((List aj)×Int)⊕(List aj))):=
 (na ab v40.aK v24).bind fun G4=>
 pS ah n35 n46 n47 n48 G4 n34 (0:Int)
def fS (ab:List Signal) (ah:au) (v24:aI) (n34:Int) (n35:Int) (v40:an) (n46:Int) (n47:Int) (n48:Int) (n49:Int) (n50:Int):Option ((Int×Int×Int×Int×Int)⊕((Int×Int×Int×Int×Int)⊕(((List aj)×Int)⊕(List aj)))):=
 if n50 < (v40.bq.length:Int) then
  (idx v40.bq n50).bind fun v51=>
  if v51.Kind=(1:Int) then
   if (zh v51.At ah.bg (aT (ah.To - (1:Int))))=true then
    lf n47 n48 n50 v51 (aT (n46+(1:Int)))
   else
    lf n47 n48 n50 v51 n46
  else
   if v51.Kind=(3:Int) then
    if (zh v51.At ah.bg (aT (ah.To - (1:Int))))=true then
     lh n46 n49 n50 (aT (n47+(1:Int))) (aT (n48+(aT (v51.At - n49))))
    else
     lh n46 n49 n50 n47 n48
   else
    lg n46 n49 n50 n47 n48
 else
  Option.map .inr (nz ab ah v24 n34 n35 v40 n46 n47 n48)
def pT (ab:List Signal) (ah:au) (v24:aI) (n34:Int) (n35:Int) (v40:an) (n46:Int) (n47:Int) (n48:Int) (n49:Int) (n50:Int):Option ((Int×Int×Int×Int×Int)⊕(((List aj)×Int)⊕(List aj))):=
 iter (fun x:Int×Int×Int×Int×Int=>fS ab ah v24 n34 n35 v40 x.1 x.2.1 x.2.2.1 x.2.2.2.1 x.2.2.2.2) (n46,n47,n48,n49,n50)
def nA (qT:List aj) (n22:Int) (v24:aI) (n31:Int) (n32:Int) (n33:Int) (n34:Int):Option (((List aj)×Int)⊕(List aj)):=
 (app qT [(⟨v24,n31,n32,n33,n34⟩:aj)]).bind fun l72=>
 some (.inl (l72,aT (n22+(1:Int))))
def fT (ab:List Signal) (ah:au) (v2:(List an)×(List cd)) (qT:List aj) (n22:Int) (v24:aI) (n31:Int) (n32:Int) (n33:Int) (n34:Int) (n35:Int):Option ((Int×Int×Int×Int×Int)⊕(((List aj)×Int)⊕(List aj))):=
 if n35 < (v2.1.length:Int) then
  (idx v2.1 n35).bind fun v40=>
  if v40.aN≠v24 then
   gR n35 n31 n32 n33 n34
  else
   pT ab ah v24 n34 n35 v40 n31 n32 n33 (0:Int) (0:Int)
 else
  Option.map .inr (nA qT n22 v24 n31 n32 n33 n34)
def pU (ab:List Signal) (ah:au) (v2:(List an)×(List cd)) (qT:List aj) (n22:Int) (v24:aI) (n31:Int) (n32:Int) (n33:Int) (n34:Int) (n35:Int):Option (((List aj)×Int)⊕(List aj)):=
 iter (fun x:Int×Int×Int×Int×Int=>fT ab ah v2 qT n22 v24 x.1 x.2.1 x.2.2.1 x.2.2.2.1 x.2.2.2.2) (n31,n32,n33,n34,n35)
def fU (ab:List Signal) (ah:au) (v2:(List an)×(List cd)) (jP:(List aI)) (qT:List aj) (n22:Int):Option (((List aj)×Int)⊕(List aj)):=
 if n22 < (jP.length:Int) then
  (idx jP n22).bind fun v24=>
  pU ab ah v2 qT n22 v24 (0:Int) (0:Int) (0:Int) (0:Int) (0:Int)
 else
  Option.map .inr (some qT)
def pV (ab:List Signal) (ah:au) (v2:(List an)×(List cd)) (jP:(List aI)) (qT:List aj) (n22:Int):Option (List aj):=
 iter (fun x:(List aj)×Int=>fU ab ah v2 jP x.1 x.2) (qT,n22)
def nB (ab:List Signal) (ah:au) (v2:(List an)×(List cd)) (l8:List aI):Option (List aj):=
 (AF l8).bind fun jP=>
 pV ab ah v2 jP [] (0:Int)
def fV (ab:List Signal) (ah:au) (v2:(List an)×(List cd)) (l8:List aI) (n9:Int):Option (((List aI)×Int)⊕(List aj)):=
 if n9 < (ab.length:Int) then
  (idx ab n9).bind fun v11=>
  (app l8 [v11.a8]).bind fun sn=>
  some (.inl (sn,aT (n9+(1:Int))))
 else
  Option.map .inr (nB ab ah v2 l8)
def tJ (ab:List Signal) (ah:au) (v2:(List an)×(List cd)) (l8:List aI) (n9:Int):Option (List aj):=
 iter (fun x:(List aI)×Int=>fV ab ah v2 x.1 x.2) (l8,n9)
def mK (ab:List Signal) (ah:au):Option (List aj):=
 (nI ab (345686400000:Int)).bind fun v2=>
 tJ ab ah v2 [] (0:Int)
def dZ (ab:List aj) (ah:List aj) (n2:Int):Option (Int⊕Bool):=
 if n2 < (ab.length:Int) then
  (idx ab n2).bind fun v3=>
  (idx ah n2).bind fun v4=>
  if v3≠v4 then
   Option.map .inr (some false)
  else
   some (.inl (aT (n2+(1:Int))))
 else
  Option.map .inr (some true)
def oQ (ab:List aj) (ah:List aj) (n2:Int):Option Bool:=
 iter (fun x:Int=>dZ ab ah x) n2
def fg (ab:List aj) (ah:List aj):Option Bool:=
 if (ab.length:Int)≠(ah.length:Int) then
  some false
 else
  oQ ab ah (0:Int)
def jz:(List aI):=
 [([114,97,105,115,101]:aI),([99,108,101,97,114]:aI),([97,99,107]:aI),([115,104,101,108,118,101]:aI),([117,110,115,104,101,108,118,101]:aI)]
def ll (ah:aI) (pD:List aI) (R3:aI) (n21:Int):Option ((aI×Int)⊕aI):=
 if n21 < (pD.length:Int) then
  (idx pD n21).bind fun v22=>
  (zf R3 ah).bind fun TK=>
  (zf TK v22).bind fun Dz=>
  some (.inl (Dz,aT (n21+(1:Int))))
 else
  Option.map .inr (some R3)
def pW (ah:aI) (pD:List aI) (R3:aI) (n21:Int):Option aI:=
 iter (fun x:aI×Int=>ll ah pD x.1 x.2) (R3,n21)
def pX (ab:List aI) (ah:aI) (n6:Int):Option aI:=
 (K8 n6).bind fun v10=>
 (idx ab (0:Int)).bind fun v12=>
 (zf ([]:aI) v12).bind fun QN=>
 (sv ab (1:Int) (ab.length:Int)).bind fun pD=>
 pW ah pD QN (0:Int)
def ln (ab:List aI) (ah:aI) (n6:Int) (n7:Int):Option ((Int×Int)⊕aI):=
 if n7 < (ab.length:Int) then
  (idx ab n7).bind fun v8=>
  if (aT ((9223372036854775807:Int) - n6)) < (v8.length:Int) then
   none
  else
   some (.inl (aT (n6+(v8.length:Int)),aT (n7+(1:Int))))
 else
  Option.map .inr (pX ab ah n6)
def pY (ab:List aI) (ah:aI) (n6:Int) (n7:Int):Option aI:=
 iter (fun x:Int×Int=>ln ab ah x.1 x.2) (n6,n7)
def iZ (ab:List aI) (ah:aI) (n2:Int):Option aI:=
 pY ab ah n2 (0:Int)
def strings_Join (ab:List aI) (ah:aI):Option aI:=
 if (ab.length:Int)=(0:Int) then
  some ([]:aI)
 else
  if (ab.length:Int)=(1:Int) then
   (idx ab (0:Int)).bind fun v1=>
   some v1
  else
   if (0:Int) < (ah.length:Int) then
    (quo (9223372036854775807:Int) (aT ((ab.length:Int) - (1:Int)))).bind fun n3=>
    if n3≤(ah.length:Int) then
     none
    else
     iZ ab ah (aT ((0:Int)+(aT ((ah.length:Int) * (aT ((ab.length:Int) - (1:Int)))))))
   else
    iZ ab ah (0:Int)
def lB (q6:aI) (n8:Int) (nT:List aI):Option ((aI×Int)⊕(aI×Int)):=
 (strings_Join nT ([32]:aI)).bind fun v23=>
 (ze v23 ([10]:aI)).bind fun TN=>
 (zf q6 TN).bind fun Dz=>
 some (.inl (Dz,aT (n8+(1:Int))))
def lC (q6:aI) (n8:Int) (v9:Signal) (pD:List aI):Option ((aI×Int)⊕(aI×Int)):=
 if v9.Kind=(4:Int) then
  (wa v9.aV).bind fun v20=>
  (app pD [v20]).bind fun qT=>
  lB q6 n8 qT
 else
  lB q6 n8 pD
def pj (q6:aI):Option (aI×Int):=
 if (200000:Int) < (q6.length:Int) then
  some (([]:aI),(2:Int))
 else
  some (q6,(0:Int))
def iz (ab:List Signal) (q6:aI) (n8:Int):Option ((aI×Int)⊕(aI×Int)):=
 if n8 < (ab.length:Int) then
  (idx ab n8).bind fun v9=>
  (wa v9.At).bind fun v11=>
  (idx jz (aT (v9.Kind - (1:Int)))).bind fun v12=>
  if (3:Int)≤v9.Kind then
   (app [v11,v9.Device,v9.a8,v12] [v9.By]).bind fun kA=>
   lC q6 n8 v9 kA
  else
   lC q6 n8 v9 [v11,v9.Device,v9.a8,v12]
 else
  Option.map .inr (pj q6)
def so (ab:List Signal) (q6:aI) (n8:Int):Option (aI×Int):=
 iter (fun x:aI×Int=>iz ab x.1 x.2) (q6,n8)
def tw (ab:List Signal):Option (aI×Int):=
 (ec ab).bind fun v1=>
 if v1≠(0:Int) then
  some (([]:aI),v1)
 else
  so ab [] (0:Int)
def iA:(List aI):=
 [([]:aI),([114,97,105,115,101]:aI),([99,108,101,97,114]:aI),([97,99,107]:aI),([115,104,101,108,118,101]:aI),([117,110,115,104,101,108,118,101]:aI)]
def iB (q5:aI) (n7:Int) (ue:List aI):Option ((aI×Int)⊕aI):=
 (strings_Join ue ([32]:aI)).bind fun v22=>
 (ze v22 ([10]:aI)).bind fun TK=>
 (zf q5 TK).bind fun TN=>
 some (.inl (TN,aT (n7+(1:Int))))
def iC (q5:aI) (n7:Int) (v8:Signal) (oh:List aI):Option ((aI×Int)⊕aI):=
 if v8.Kind=(4:Int) then
  (wa v8.aV).bind fun Bp=>
  (app oh [Bp]).bind fun tv=>
  iB q5 n7 tv
 else
  iB q5 n7 oh
def fr (ab:List Signal) (q5:aI) (n7:Int):Option ((aI×Int)⊕aI):=
 if n7 < (ab.length:Int) then
  (idx ab n7).bind fun v8=>
  (wa v8.At).bind fun v10=>
  (idx iA v8.Kind).bind fun v11=>
  if v8.By≠([]:aI) then
   (app [v10,v8.Device,v8.a8,v11] [v8.By]).bind fun pD=>
   iC q5 n7 v8 pD
  else
   iC q5 n7 v8 [v10,v8.Device,v8.a8,v11]
 else
  Option.map .inr (some q5)
def sK (ab:List Signal) (q5:aI) (n7:Int):Option aI:=
 iter (fun x:aI×Int=>fr ab x.1 x.2) (q5,n7)
def lD (ab:List Signal):Option aI:=
 sK ab [] (0:Int)
def lZ (ab:ar) (ah:aI) (aO:aI) (c1:Bool):Option (aI×ar):=
 if c1=true then
  some (aO,ab)
 else
  (eM ab (ah.length:Int)).bind fun v2=>
  (eM v2.2 (aO.length:Int)).bind fun v3=>
  (idx aO v3.1).bind fun c4=>
  (eM v3.2 (3:Int)).bind fun v5=>
  if v5.1=(0:Int) then
   (sv ah (0:Int) v2.1).bind fun l6=>
   (ze l6 (Je (IntKind.i32.wrap ((c4.toNat:Int))))).bind fun q7=>
   (sv ah (aT (v2.1+(1:Int))) (ah.length:Int)).bind fun l8=>
   (ze q7 l8).bind fun q9=>
   some (q9,v5.2)
  else
   if v5.1=(1:Int) then
    (sv ah (0:Int) v2.1).bind fun l10=>
    (ze l10 (Je (IntKind.i32.wrap ((c4.toNat:Int))))).bind fun VC=>
    (sv ah v2.1 (ah.length:Int)).bind fun sw=>
    (ze VC sw).bind fun QN=>
    some (QN,v5.2)
   else
    (sv ah (0:Int) v2.1).bind fun oh=>
    (sv ah (aT (v2.1+(1:Int))) (ah.length:Int)).bind fun pD=>
    (ze oh pD).bind fun q16=>
    some (q16,v5.2)
def mr (ab:ar) (ah:aI) (aO:aI):Option (aI×ar):=
 lZ ab ah aO ((decide (ah=([]:aI)))||(decide (aO=([]:aI))))
def fH (v7:Int×ar) (sw:List Int) (n13:Int) (Ef:aI) (n15:Int):Option (((List Int)×Int×aI×Int)⊕(aI×ar)):=
 if n15 < v7.1 then
  (mr (⟨sw,n13⟩:ar) Ef ([32,10,48,49,97,99,107,45]:aI)).bind fun og=>
  some (.inl (og.2.L,og.2.at_,og.1,aT (n15+(1:Int))))
 else
  Option.map .inr (some (Ef,(⟨sw,n13⟩:ar)))
def oF (v7:Int×ar) (sw:List Int) (n13:Int) (Ef:aI) (n15:Int):Option (aI×ar):=
 iter (fun x:(List Int)×Int×aI×Int=>fH v7 x.1 x.2.1 x.2.2.1 x.2.2.2) (sw,n13,Ef,n15)
def ez (v2:(List Signal)×ar) (q5:aI):Option (aI×ar):=
 (cY v2.2 [(0:Int),(0:Int),(1:Int),(2:Int)]).bind fun v7=>
 oF v7 v7.2.L v7.2.at_ q5 (0:Int)
def hZ (ab:ar):Option (aI×ar):=
 (jf ab (0:Int) (4:Int)).bind fun v1=>
 (kc v1.2 v1.1 false).bind fun v2=>
 (iI v2.1).bind fun v4=>
 if v4=(0:Int) then
  (lD v2.1).bind fun v6=>
  ez v2 v6
 else
  ez v2 ([49,48,32,100,97,32,114,97,32,115,104,101,108,118,101,32,97,110,110,32,50,48,10]:aI)
def jH (v1:(List aI)) (n5:Int):Option (Int⊕((List aI)×Bool)):=
 if n5 < (v1.length:Int) then
  (idx v1 n5).bind fun v6=>
  if v6=([]:aI) then
   Option.map .inr (some ([],false))
  else
   some (.inl (aT (n5+(1:Int))))
 else
  Option.map .inr (some (v1,true))
def wc (v1:(List aI)) (n5:Int):Option ((List aI)×Bool):=
 iter (fun x:Int=>jH v1 x) n5
def qX (ab:aI) (ah:Int):Option ((List aI)×Bool):=
 (wG ab ([32]:aI)).bind fun v1=>
 if (v1.length:Int)≠ah then
  some ([],false)
 else
  wc v1 (0:Int)
def bK (ab:List aI) (ah:aI) (n2:Int):Option (Int⊕Int):=
 if n2 < (ab.length:Int) then
  (idx ab n2).bind fun v3=>
  if ah=v3 then
   Option.map .inr (some n2)
  else
   some (.inl (aT (n2+(1:Int))))
 else
  Option.map .inr (some (-1:Int))
def bT (ab:List aI) (ah:aI) (n2:Int):Option Int:=
 iter (fun x:Int=>bK ab ah x) n2
def bG (ab:List aI) (ah:aI):Option Int:=
 bT ab ah (0:Int)
def mu (n4:Int) (c5:Bool):Option (Int⊕(Int×Bool)):=
 if c5=true then
  Option.map .inr (some ((0:Int),false))
 else
  some (.inl (aT (n4+(1:Int))))
def oG (ab:aI):Option (Int×Bool):=
 (Ct ab).bind fun v8=>
 some (v8.1,v8.2)
def eh (ab:aI) (n4:Int):Option (Int⊕(Int×Bool)):=
 if n4 < ((Lib.trimPrefix ab ([45]:aI)).length:Int) then
  (idx (Lib.trimPrefix ab ([45]:aI)) n4).bind fun c6=>
  if (c6.toNat:Int) < (48:Int) then
   mu n4 true
  else
   (idx (Lib.trimPrefix ab ([45]:aI)) n4).bind fun c7=>
   mu n4 (decide ((57:Int) < (c7.toNat:Int)))
 else
  Option.map .inr (oG ab)
def qY (ab:aI) (n4:Int):Option (Int×Bool):=
 iter (fun x:Int=>eh ab x) n4
def ko (ab:aI) (c1:Bool):Option (Int×Bool):=
 if c1=true then
  some ((0:Int),false)
 else
  qY ab (0:Int)
def mw (ab:aI) (ah:Int):Option (Int×Bool):=
 if (Lib.trimPrefix ab ([45]:aI))=([]:aI) then
  ko ab true
 else
  if ah < ((Lib.trimPrefix ab ([45]:aI)).length:Int) then
   ko ab true
  else
   (idx (Lib.trimPrefix ab ([45]:aI)) (0:Int)).bind fun c2=>
   ko ab ((decide ((c2.toNat:Int)=(48:Int)))&&((decide ((1:Int) < ((Lib.trimPrefix ab ([45]:aI)).length:Int)))||(decide (((Lib.trimPrefix ab ([45]:aI)).length:Int) < (ab.length:Int)))))
def ia (v7:Int) (v10:aI) (v11:aI) (mB:Int×Bool) (Ih:aI) (TO:Bool) (n19:Int):Option (Signal×Bool):=
 some ((⟨mB.1,aT ((1:Int)+v7),v10,v11,Ih,n19⟩:Signal),TO)
def jQ (v3:(List aI)×Bool) (v7:Int) (v10:aI) (v11:aI) (mB:Int×Bool) (Ih:aI) (JX:Bool):Option (Signal×Bool):=
 if JX=true then
  (idx v3.1 (5:Int)).bind fun v20=>
  (mw v20 (12:Int)).bind fun v21=>
  ia v7 v10 v11 mB Ih v21.2 v21.1
 else
  ia v7 v10 v11 mB Ih mB.2 (0:Int)
def du (v3:(List aI)×Bool) (v7:Int) (v10:aI) (v11:aI) (mB:Int×Bool) (Ih:aI):Option (Signal×Bool):=
 jQ v3 v7 v10 v11 mB Ih (mB.2&&(decide ((5:Int) < (v3.1.length:Int))))
def fL (v3:(List aI)×Bool) (v7:Int) (c8:Bool):Option (Signal×Bool):=
 if c8=true then
  some ((⟨(0:Int),(0:Int),[],[],[],(0:Int)⟩:Signal),false)
 else
  (idx v3.1 (1:Int)).bind fun v10=>
  (idx v3.1 (2:Int)).bind fun v11=>
  (idx v3.1 (0:Int)).bind fun oN=>
  (mw oN (12:Int)).bind fun mB=>
  if (4:Int) < (v3.1.length:Int) then
   (idx v3.1 (4:Int)).bind fun og=>
   du v3 v7 v10 v11 mB og
  else
   du v3 v7 v10 v11 mB []
def ib (v3:(List aI)×Bool) (c5:Bool):Option (Signal×Bool):=
 if c5=true then
  some ((⟨(0:Int),(0:Int),[],[],[],(0:Int)⟩:Signal),false)
 else
  (idx v3.1 (3:Int)).bind fun v6=>
  (bG jz v6).bind fun v7=>
  if v7 < (0:Int) then
   fL v3 v7 true
  else
   (idx [(4:Int),(4:Int),(5:Int),(6:Int),(5:Int)] v7).bind fun v9=>
   fL v3 v7 (decide ((v3.1.length:Int)≠v9))
def kp (ab:aI):Option (Signal×Bool):=
 (Ds ab ([32]:aI)).bind fun v2=>
 (qX ab (aT (v2+(1:Int)))).bind fun v3=>
 ib v3 ((!v3.2)||(decide ((v3.1.length:Int) < (4:Int))))
def jI (ab:aI) (ah:List Signal):Option (Bool×(List Signal)):=
 (kp ab).bind fun v1=>
 (app ah [v1.1]).bind fun l3=>
 some (v1.2,l3)
def cm (c1:Bool):Option Bool:=
 some c1
def cL (ab:aI) (ah:aI):Option Bool:=
 if (ah.length:Int)≤(ab.length:Int) then
  (sv ab (aT ((ab.length:Int) - (ah.length:Int))) (ab.length:Int)).bind fun l2=>
  cm (decide (l2=ah))
 else
  cm false
def eA (ab:aI) (ah:aI):Option (aI×Bool):=
 (cL ab ah).bind fun v1=>
 if (!v1)=true then
  some (ab,false)
 else
  (sv ab (0:Int) (aT ((ab.length:Int) - (ah.length:Int)))).bind fun l2=>
  some (l2,true)
def strings_CutSuffix (ab:aI) (ah:aI):Option (aI×Bool):=
 (eA ab ah).bind fun v1=>
 some (v1.1,v1.2)
def qZ (ab:aI):Option ((List aI)×Bool):=
 if ab=([]:aI) then
  some ([],true)
 else
  (strings_CutSuffix ab ([10]:aI)).bind fun v2=>
  (wG v2.1 ([10]:aI)).bind fun v3=>
  some (v3,v2.2)
def cM (n8:Int) (iU:List Signal) (c12:Bool):Option (((List Signal)×Int)⊕(Int×Bool×(List Signal))):=
 if c12=true then
  Option.map .inr (some (n8,false,iU))
 else
  some (.inl (iU,aT (n8+(1:Int))))
def cN (v1:(List aI)×Bool) (l7:List Signal) (n8:Int):Option (((List Signal)×Int)⊕(Int×Bool×(List Signal))):=
 if n8 < (v1.1.length:Int) then
  (idx v1.1 n8).bind fun v9=>
  if (!v1.2)=true then
   if n8=(aT ((v1.1.length:Int) - (1:Int))) then
    cM n8 l7 true
   else
    (jI v9 l7).bind fun oN=>
    cM n8 oN.2 (!oN.1)
  else
   (jI v9 l7).bind fun jP=>
   cM n8 jP.2 (!jP.1)
 else
  Option.map .inr (some ((0:Int),true,l7))
def kq (v1:(List aI)×Bool) (l7:List Signal) (n8:Int):Option (Int×Bool×(List Signal)):=
 iter (fun x:(List Signal)×Int=>cN v1 x.1 x.2) (l7,n8)
def fx (ab:aI) (aO:List Signal):Option (Int×Bool×(List Signal)):=
 (qZ ab).bind fun v1=>
 kq v1 aO (0:Int)
def ra (ab:aI):Option ((List Signal)×Int×Int):=
 if (200000:Int) < (ab.length:Int) then
  some ([],(0:Int),(2:Int))
 else
  (fx ab []).bind fun v3=>
  if (!v3.2.1)=true then
   some ([],v3.1,(9:Int))
  else
   (ec v3.2.2).bind fun v7=>
   if v7≠(0:Int) then
    some ([],(0:Int),v7)
   else
    some (v3.2.2,(0:Int),(0:Int))
def cZ (ab:List aI) (ah:aI):Option Bool:=
 (bG ab ah).bind fun v1=>
 some (decide ((0:Int)≤v1))
def pF (v3:Int×Bool) (c5:Bool):Option (Int×Bool):=
 some (v3.1,c5)
def nW (ab:aI) (c1:Bool):Option (Int×Bool):=
 if c1=true then
  some ((0:Int),false)
 else
  (Ct ab).bind fun v3=>
  if v3.2=true then
   (wa v3.1).bind fun v6=>
   pF v3 (decide (v6=ab))
  else
   pF v3 false
def pG (ab:aI) (ah:Int):Option (Int×Bool):=
 if (Lib.trimPrefix ab ([45]:aI))=([]:aI) then
  nW ab true
 else
  if ah < ((Lib.trimPrefix ab ([45]:aI)).length:Int) then
   nW ab true
  else
   (Cs (Lib.trimPrefix ab ([45]:aI)) ([48,49,50,51,52,53,54,55,56,57]:aI)).bind fun v2=>
   nW ab (decide (v2≠([]:aI)))
def jR (tv:List Signal) (TP:Bool):Option (Bool×(List Signal)):=
 some (TP,tv)
def ic (ah:List Signal) (v6:Int) (v10:Int×Bool) (v11:aI) (v12:aI) (Ef:aI) (n16:Int) (JX:Bool):Option (Bool×(List Signal)):=
 (app ah [(⟨v10.1,v6,v11,v12,Ef,n16⟩:Signal)]).bind fun tv=>
 jR tv (v10.2&&JX)
def dv (ah:List Signal) (v1:(List aI)) (v6:Int) (v10:Int×Bool) (v11:aI) (v12:aI) (Ef:aI):Option (Bool×(List Signal)):=
 if v6=(4:Int) then
  (idx v1 (5:Int)).bind fun G0=>
  (pG G0 (12:Int)).bind fun Bp=>
  ic ah v6 v10 v11 v12 Ef Bp.1 Bp.2
 else
  ic ah v6 v10 v11 v12 Ef (0:Int) true
def fM (ah:List Signal) (v1:(List aI)) (v6:Int) (c7:Bool):Option (Bool×(List Signal)):=
 if c7=true then
  some (false,ah)
 else
  (idx v1 (0:Int)).bind fun v9=>
  (pG v9 (12:Int)).bind fun v10=>
  (idx v1 (1:Int)).bind fun v11=>
  (idx v1 (2:Int)).bind fun v12=>
  if (3:Int)≤v6 then
   (idx v1 (4:Int)).bind fun jP=>
   dv ah v1 v6 v10 v11 v12 jP
  else
   dv ah v1 v6 v10 v11 v12 []
def fN (ah:List Signal) (v1:(List aI)) (c3:Bool):Option (Bool×(List Signal)):=
 if c3=true then
  some (false,ah)
 else
  (idx v1 (3:Int)).bind fun v5=>
  (bG iA v5).bind fun v6=>
  if v6 < (1:Int) then
   fM ah v1 v6 true
  else
   (idx [(0:Int),(4:Int),(4:Int),(5:Int),(6:Int),(5:Int)] v6).bind fun v8=>
   fM ah v1 v6 (decide ((v1.length:Int)≠v8))
def iD (ab:aI) (ah:List Signal):Option (Bool×(List Signal)):=
 (wG ab ([32]:aI)).bind fun v1=>
 if (v1.length:Int) < (4:Int) then
  fN ah v1 true
 else
  (cZ v1 ([]:aI)).bind fun v4=>
  fN ah v1 v4
def ea (n8:Int) (v9:aI×aI×Bool) (iU:List Signal) (c12:Bool):Option (((List Signal)×aI×Int)⊕(Int×Bool×(List Signal))):=
 if c12=true then
  Option.map .inr (some (n8,false,iU))
 else
  some (.inl (iU,v9.2.1,aT (n8+(1:Int))))
def cz (l6:List Signal) (q7:aI) (n8:Int):Option (((List Signal)×aI×Int)⊕(Int×Bool×(List Signal))):=
 if q7≠([]:aI) then
  (Jk q7 ([10]:aI)).bind fun v9=>
  if (!v9.2.2)=true then
   ea n8 v9 l6 true
  else
   (iD v9.1 l6).bind fun oN=>
   ea n8 v9 oN.2 (!oN.1)
 else
  Option.map .inr (some ((0:Int),true,l6))
def jL (l6:List Signal) (q7:aI) (n8:Int):Option (Int×Bool×(List Signal)):=
 iter (fun x:(List Signal)×aI×Int=>cz x.1 x.2.1 x.2.2) (l6,q7,n8)
def fh (ab:aI) (aO:List Signal):Option (Int×Bool×(List Signal)):=
 jL aO ab (0:Int)
def nf (ab:aI):Option ((List Signal)×Int×Int):=
 if (200000:Int) < (ab.length:Int) then
  some ([],(0:Int),(2:Int))
 else
  (fh ab []).bind fun v3=>
  if (!v3.2.1)=true then
   some ([],v3.1,(9:Int))
  else
   (iI v3.2.2).bind fun v7=>
   if v7≠(0:Int) then
    some ([],(0:Int),v7)
   else
    some (v3.2.2,(0:Int),(0:Int))
def eS (ab:List Signal) (ah:List Signal) (n2:Int):Option (Int⊕Bool):=
 if n2 < (ab.length:Int) then
  (idx ab n2).bind fun v3=>
  (idx ah n2).bind fun v4=>
  if v3≠v4 then
   Option.map .inr (some false)
  else
   some (.inl (aT (n2+(1:Int))))
 else
  Option.map .inr (some true)
def pH (ab:List Signal) (ah:List Signal) (n2:Int):Option Bool:=
 iter (fun x:Int=>eS ab ah x) n2
def fI (ab:List Signal) (ah:List Signal):Option Bool:=
 if (ab.length:Int)≠(ah.length:Int) then
  some false
 else
  pH ab ah (0:Int)
def iN (c2:Bool):Option Int:=
 if c2=true then
  some (5:Int)
 else
  some (0:Int)
def lp (ab:List Signal) (ah:aI) (aO:aI):Option Int:=
 (ec ab).bind fun v1=>
 if v1≠(0:Int) then
  some v1
 else
  (oA ah).bind fun v3=>
  if (!v3)=true then
   iN true
  else
   (oA aO).bind fun v4=>
   iN (!v4)
def iO (ab:ak) (n3:Int) (c4:Bool):fb×Bool:=
 ((⟨ab.aR.aK,ab.aR.aN,ab.az,ab.bM,(ab.aD.length:Int),n3⟩:fb),c4)
def iP (ab:ak) (n3:Int):fb×Bool:=
 if ab.az≠(0:Int) then
  iO ab n3 true
 else
  iO ab n3 (decide ((0:Int) < n3))
def lu (ab:ak) (ah:Int):fb×Bool:=
 if ah < ab.ay then
  iP ab ab.ay
 else
  iP ab (0:Int)
def ng (ab:List Signal) (ah:aI) (aO:aI) (bE:Int):Option (fb×Int):=
 (lp ab ah aO).bind fun v2=>
 if v2≠(0:Int) then
  some ((⟨[],[],(0:Int),(0:Int),(0:Int),(0:Int)⟩:fb),v2)
 else
  if (!(nU bE))=true then
   some ((⟨[],[],(0:Int),(0:Int),(0:Int),(0:Int)⟩:fb),(1:Int))
  else
   (qV ab bE).bind fun v3=>
   tj (eB v3.rD (⟨ah,aO⟩:aq)) (
    some ((⟨ah,aO,(0:Int),(0:Int),(0:Int),(0:Int)⟩:fb),(0:Int))) (fun n10=>
    (idx v3.BN n10).bind fun v11=>
    some (((lu v11 bE).1),(0:Int)))
def qB (c3:Bool):Option Bool:=
 some c3
def sL:Option Bool:=
 (ng [(⟨(1:Int),(1:Int),([100]:aI),([114]:aI),[],(0:Int)⟩:Signal)] ([100]:aI) ([114]:aI) (1:Int)).bind fun v1=>
 qB ((decide (v1.2=(0:Int)))&&(decide (v1.1.State=(1:Int))))
def gQ (TQ:Bool):Option Bool:=
 some TQ
def eT (v5:au×ar) (TR:Bool):Option Bool:=
 if TR=true then
  some false
 else
  (hZ v5.2).bind fun G0=>
  (ra G0.1).bind fun Bp=>
  (nf G0.1).bind fun v21=>
  if Bp.2.2=v21.2.2 then
   if Bp.2.1=v21.2.1 then
    (fI Bp.1 v21.1).bind fun v24=>
    if v24=true then
     (sL).bind fun v25=>
     gQ v25
    else
     gQ false
   else
    gQ false
  else
   gQ false
def eU (v3:(List Signal)×ar) (v5:au×ar) (v7:Int) (Lm:Bool):Option Bool:=
 if Lm=true then
  some false
 else
  (tw v3.1).bind fun jP=>
  if jP.2≠v7 then
   eT v5 true
  else
   if v7=(0:Int) then
    (lD v3.1).bind fun v17=>
    eT v5 ((decide (jP.1≠v17))||((decide (v7≠(0:Int)))&&(decide (jP.1≠([]:aI)))))
   else
    eT v5 ((decide (v7≠(0:Int)))&&(decide (jP.1≠([]:aI))))
def mx (ab:List Int):Option Bool:=
 (jf (⟨ab,(0:Int)⟩:ar) (0:Int) (12:Int)).bind fun v2=>
 (kc v2.2 v2.1 false).bind fun v3=>
 (pB v3.2).bind fun v5=>
 (iI v3.1).bind fun v7=>
 (iK v3.1 v5.1).bind fun v8=>
 (qz [v7,(iw v5.1)]).bind fun v10=>
 if v8.2≠v10 then
  eU v3 v5 v7 true
 else
  if v10=(0:Int) then
   (mK v3.1 v5.1).bind fun v12=>
   (fg v8.1 v12).bind fun mB=>
   eU v3 v5 v7 (!mB)
  else
   eU v3 v5 v7 false
end
end Go.Beacon
