/- Plain functions that the Go functions compute, written by shal.py. -/
import Derived.Test.YtnopmjdjgangdaaGreatDoorCore
set_option linter.unusedVariables false
namespace Go.Beacon
open Go Go.Eng
noncomputable section
structure Fleetmake_Stream where
 L : List Int
 at_ : Int
deriving DecidableEq, Inhabited
def Fleetmake_Stream.av (x : Fleetmake_Stream) : AV := .agg [.list 1 (x.L.map I), I x.at_]

structure PropType where
 Name : Str
 Kind : Int
 Low : Int
 High : Int
deriving DecidableEq, Inhabited
def PropType.av (x : PropType) : AV := .agg [.str x.Name, I x.Kind, I x.Low, I x.High]

structure Model where
 Key : Str
 Prefix : Str
 Props : List PropType
deriving DecidableEq, Inhabited
def Model.av (x : Model) : AV := .agg [.str x.Key, .str x.Prefix, .list 4 (x.Props.map PropType.av)]

structure Version where
 Major : Int
 Minor : Int
 Patch : Int
deriving DecidableEq, Inhabited
def Version.av (x : Version) : AV := .agg [I x.Major, I x.Minor, I x.Patch]

structure EventS where
 Hub : Str
 No : Int
 Clock : Int
 At : Int
 Kind : Int
 Device : Str
 Model : Str
 Tenant : Str
 Serial : Int
 Key : Str
 Name : Str
 Value : Str
 Until : Int
 Firmware : Version
deriving DecidableEq, Inhabited
def EventS.av (x : EventS) : AV := .agg [.str x.Hub, I x.No, I x.Clock, I x.At, I x.Kind, .str x.Device, .str x.Model, .str x.Tenant, I x.Serial, .str x.Key, .str x.Name, .str x.Value, I x.Until, I x.Firmware.Major, I x.Firmware.Minor, I x.Firmware.Patch]

structure Seen where
 Hub : Str
 No : Int
deriving DecidableEq, Inhabited
def Seen.av (x : Seen) : AV := .agg [.str x.Hub, I x.No]

structure Device_place where
 hub_ : Str
 no_ : Int
deriving DecidableEq, Inhabited
def Device_place.av (x : Device_place) : AV := .agg [.str x.hub_, I x.no_]
instance : KLt Device_place := ⟨fun a b => (KLt.lt a.hub_ b.hub_ || (decide (a.hub_ = b.hub_) && (KLt.lt a.no_ b.no_ || (decide (a.no_ = b.no_) && false))))⟩

def Below_j1 (n2 : Int) : Option Int :=
 some n2

def Below (p0x0 : Int) (p1x0 : Int) : Option Int :=
 if p1x0 < (1 : Int) then
  some (0 : Int)
 else
  (rem p0x0 p1x0).bind fun n1 =>
  if n1 < (0 : Int) then
   Below_j1 (w64 (n1 + p1x0))
  else
   Below_j1 n1

def Stream_Next (p0x0 : Fleetmake_Stream) (p1x0 : Int) : Option (Int × Fleetmake_Stream) :=
 if (p0x0.L.length : Int) = (0 : Int) then
  (Below (w64 ((w64 (p0x0.at_ + (1 : Int))) * (7919 : Int))) p1x0).bind fun v1 =>
  some (v1, (⟨p0x0.L, w64 (p0x0.at_ + (1 : Int))⟩ : Fleetmake_Stream))
 else
  (rem (w64 ((w64 (p0x0.at_ + (1 : Int))) - (1 : Int))) (p0x0.L.length : Int)).bind fun n2 =>
  (quo (w64 ((w64 (p0x0.at_ + (1 : Int))) - (1 : Int))) (p0x0.L.length : Int)).bind fun n3 =>
  (idx p0x0.L n2).bind fun v4 =>
  (Below v4 (1073741824 : Int)).bind fun v5 =>
  (Below (w64 (v5 + (w64 (n3 * (w64 ((7919 : Int) + n2)))))) p1x0).bind fun v6 =>
  some (v6, (⟨p0x0.L, w64 (p0x0.at_ + (1 : Int))⟩ : Fleetmake_Stream))

def Stream_Some (p0x0 : Fleetmake_Stream) (p1x0 : List Str) : Option (Str × Fleetmake_Stream) :=
 (Stream_Next p0x0 (p1x0.length : Int)).bind fun v1 =>
 (idx p1x0 v1.1).bind fun v2 =>
 some (v2, v1.2)

def Stream_RightKinds (p0x0 : Fleetmake_Stream) : Option ((Model × Model) × Fleetmake_Stream) :=
 (Stream_Some p0x0 [([65, 66, 67] : Str), ([88, 89] : Str), ([90, 90, 90, 90] : Str)]).bind fun v2 =>
 some (((⟨([109, 97] : Str), ([65, 66] : Str), [(⟨([97] : Str), (2 : Int), (-5 : Int), (50 : Int)⟩ : PropType), (⟨([98] : Str), (3 : Int), (0 : Int), (0 : Int)⟩ : PropType), (⟨([102, 97, 110, 46, 111, 110] : Str), (1 : Int), (0 : Int), (0 : Int)⟩ : PropType)]⟩ : Model), (⟨([109, 98] : Str), v2.1, [(⟨([97] : Str), (1 : Int), (0 : Int), (0 : Int)⟩ : PropType)]⟩ : Model)), v2.2)

def Stream_Flip (p0x0 : Fleetmake_Stream) (p1x0 : Int) : Option (Bool × Fleetmake_Stream) :=
 (Stream_Next p0x0 p1x0).bind fun v1 =>
 some (decide (v1.1 = (0 : Int)), v1.2)

def Stream_Pick (p0x0 : Fleetmake_Stream) (p1x0 : List Int) : Option (Int × Fleetmake_Stream) :=
 (Stream_Next p0x0 (p1x0.length : Int)).bind fun v1 =>
 (idx p1x0 v1.1).bind fun v2 =>
 some (v2, v1.2)

def Stream_Range (p0x0 : Fleetmake_Stream) (p1x0 : Int) (p2x0 : Int) : Option (Int × Fleetmake_Stream) :=
 if p2x0 < p1x0 then
  some (p1x0, p0x0)
 else
  (Stream_Next p0x0 (w64 ((w64 (p2x0 - p1x0)) + (1 : Int)))).bind fun v1 =>
  some (w64 (p1x0 + v1.1), v1.2)

def Stream_Odd (p0x0 : Fleetmake_Stream) (p1x0 : Int) (p2x0 : Int) : Option (Int × Fleetmake_Stream) :=
 (Stream_Flip p0x0 (12 : Int)).bind fun v1 =>
 if v1.1 = true then
  (Stream_Pick v1.2 [w64 (p1x0 - (1 : Int)), w64 (p2x0 + (1 : Int)), p1x0, p2x0, (-1099511627776 : Int), (1099511627776 : Int)]).bind fun v2 =>
  some (v2.1, v2.2)
 else
  (Stream_Range v1.2 p1x0 p2x0).bind fun v3 =>
  some (v3.1, v3.2)

def Stream_Kinds_j1 (l7 : List Int) (n8 : Int) (l10 : List Model) : Option ((List Model) × Fleetmake_Stream) :=
 some (l10, (⟨l7, n8⟩ : Fleetmake_Stream))

def Stream_Kinds_j2 (l13 : List Int) (n14 : Int) (l16 : List Model) : Option ((List Model) × Fleetmake_Stream) :=
 Stream_Kinds_j1 l13 n14 l16

def Stream_Kinds_j3 (l18 : List Int) (n19 : Int) (l21 : List Model) : Option ((List Model) × Fleetmake_Stream) :=
 Stream_Kinds_j2 l18 n19 l21

def Stream_Kinds_j4 (l23 : List Int) (n24 : Int) (l26 : List Model) : Option ((List Model) × Fleetmake_Stream) :=
 Stream_Kinds_j3 l23 n24 l26

def Stream_Kinds_j5 (l31 : List Int) (n32 : Int) (l34 : List Model) : Option ((List Model) × Fleetmake_Stream) :=
 Stream_Kinds_j4 l31 n32 l34

def Stream_Kinds_j6 (l42 : List Int) (n43 : Int) (l45 : List Model) : Option ((List Model) × Fleetmake_Stream) :=
 Stream_Kinds_j1 l42 n43 l45

def Stream_Kinds_j7 (l47 : List Int) (n48 : Int) (l50 : List Model) : Option ((List Model) × Fleetmake_Stream) :=
 Stream_Kinds_j6 l47 n48 l50

def Stream_Kinds_j8 (l52 : List Int) (n53 : Int) (l55 : List Model) : Option ((List Model) × Fleetmake_Stream) :=
 Stream_Kinds_j7 l52 n53 l55

def Stream_Kinds_j9 (l60 : List Int) (n61 : Int) (l63 : List Model) : Option ((List Model) × Fleetmake_Stream) :=
 Stream_Kinds_j8 l60 n61 l63

def Stream_Kinds (p0x0 : Fleetmake_Stream) : Option ((List Model) × Fleetmake_Stream) :=
 (Stream_RightKinds p0x0).bind fun v1 =>
 (Stream_Flip v1.2 (15 : Int)).bind fun v6 =>
 if v6.1 = true then
  (Stream_Next v6.2 (2 : Int)).bind fun v11 =>
  if v11.1 = (0 : Int) then
   (Stream_Next v11.2 (5 : Int)).bind fun v12 =>
   if v12.1 = (0 : Int) then
    (Stream_Some v12.2 [([] : Str), ([109, 97] : Str), ([65] : Str)]).bind fun v17 =>
    Stream_Kinds_j2 v17.2.L v17.2.at_ [(⟨v17.1, v1.1.1.Prefix, v1.1.1.Props⟩ : Model), v1.1.2]
   else
    if v12.1 = (1 : Int) then
     (Stream_Some v12.2 [([65] : Str), ([65, 66, 67, 68, 69] : Str), ([97, 98] : Str), ([65, 66] : Str), ([65, 49] : Str)]).bind fun v22 =>
     Stream_Kinds_j3 v22.2.L v22.2.at_ [(⟨v1.1.1.Key, v22.1, v1.1.1.Props⟩ : Model), v1.1.2]
    else
     if v12.1 = (2 : Int) then
      (Stream_Some v12.2 [([122, 122] : Str), ([97] : Str), ([97, 46, 46, 98] : Str), ([65] : Str), ([97, 46, 98, 46, 99, 46, 100, 46, 101, 46, 102] : Str)]).bind fun v27 =>
      (Stream_Odd v27.2 (1 : Int) (3 : Int)).bind fun v28 =>
      (app v1.1.1.Props [(⟨v27.1, v28.1, (0 : Int), (0 : Int)⟩ : PropType)]).bind fun l29 =>
      Stream_Kinds_j4 v28.2.L v28.2.at_ [(⟨v1.1.1.Key, v1.1.1.Prefix, l29⟩ : Model), v1.1.2]
     else
      if v12.1 = (3 : Int) then
       (Stream_Odd v12.2 (-3 : Int) (3 : Int)).bind fun v35 =>
       (Stream_Odd v35.2 (-3 : Int) (3 : Int)).bind fun v36 =>
       (idx v1.1.1.Props (0 : Int)).bind fun v37 =>
       (idx (v1.1.1.Props.set (0 : Int).toNat (⟨v37.Name, v37.Kind, v35.1, v37.High⟩ : PropType)) (0 : Int)).bind fun v38 =>
       Stream_Kinds_j5 v36.2.L v36.2.at_ [(⟨v1.1.1.Key, v1.1.1.Prefix, (v1.1.1.Props.set (0 : Int).toNat (⟨v37.Name, v37.Kind, v35.1, v37.High⟩ : PropType)).set (0 : Int).toNat (⟨v38.Name, v38.Kind, v38.Low, v36.1⟩ : PropType)⟩ : Model), v1.1.2]
      else
       (app [v1.1.1, v1.1.2] [(⟨([109, 122] : Str), ([81, 81] : Str), []⟩ : Model)]).bind fun l39 =>
       Stream_Kinds_j5 v12.2.L v12.2.at_ l39
  else
   if v11.1 = (1 : Int) then
    (Stream_Next v11.2 (5 : Int)).bind fun v41 =>
    if v41.1 = (0 : Int) then
     (Stream_Some v41.2 [([] : Str), ([109, 97] : Str), ([65] : Str)]).bind fun v46 =>
     Stream_Kinds_j6 v46.2.L v46.2.at_ [v1.1.1, (⟨v46.1, v1.1.2.Prefix, v1.1.2.Props⟩ : Model)]
    else
     if v41.1 = (1 : Int) then
      (Stream_Some v41.2 [([65] : Str), ([65, 66, 67, 68, 69] : Str), ([97, 98] : Str), ([65, 66] : Str), ([65, 49] : Str)]).bind fun v51 =>
      Stream_Kinds_j7 v51.2.L v51.2.at_ [v1.1.1, (⟨v1.1.2.Key, v51.1, v1.1.2.Props⟩ : Model)]
     else
      if v41.1 = (2 : Int) then
       (Stream_Some v41.2 [([122, 122] : Str), ([97] : Str), ([97, 46, 46, 98] : Str), ([65] : Str), ([97, 46, 98, 46, 99, 46, 100, 46, 101, 46, 102] : Str)]).bind fun v56 =>
       (Stream_Odd v56.2 (1 : Int) (3 : Int)).bind fun v57 =>
       (app v1.1.2.Props [(⟨v56.1, v57.1, (0 : Int), (0 : Int)⟩ : PropType)]).bind fun l58 =>
       Stream_Kinds_j8 v57.2.L v57.2.at_ [v1.1.1, (⟨v1.1.2.Key, v1.1.2.Prefix, l58⟩ : Model)]
      else
       if v41.1 = (3 : Int) then
        (Stream_Odd v41.2 (-3 : Int) (3 : Int)).bind fun v64 =>
        (Stream_Odd v64.2 (-3 : Int) (3 : Int)).bind fun v65 =>
        (idx v1.1.2.Props (0 : Int)).bind fun v66 =>
        (idx (v1.1.2.Props.set (0 : Int).toNat (⟨v66.Name, v66.Kind, v64.1, v66.High⟩ : PropType)) (0 : Int)).bind fun v67 =>
        Stream_Kinds_j9 v65.2.L v65.2.at_ [v1.1.1, (⟨v1.1.2.Key, v1.1.2.Prefix, (v1.1.2.Props.set (0 : Int).toNat (⟨v66.Name, v66.Kind, v64.1, v66.High⟩ : PropType)).set (0 : Int).toNat (⟨v67.Name, v67.Kind, v67.Low, v65.1⟩ : PropType)⟩ : Model)]
       else
        (app [v1.1.1, v1.1.2] [(⟨([109, 122] : Str), ([81, 81] : Str), []⟩ : Model)]).bind fun l68 =>
        Stream_Kinds_j9 v41.2.L v41.2.at_ l68
   else
    none
 else
  Stream_Kinds_j1 v6.2.L v6.2.at_ [v1.1.1, v1.1.2]

def Stream_Happening_j6 (p1x0 : Int) (q7 : Str) (q11 : Str) (n14 : Int) (n15 : Int) (l54 : List Int) (n55 : Int) (n56 : Int) (q57 : Str) (q58 : Str) (n59 : Int) (q60 : Str) (q61 : Str) (n62 : Int) : Option (EventS × Fleetmake_Stream) :=
 some ((⟨[], (0 : Int), (0 : Int), p1x0, n56, q57, q7, q58, n59, q60, q11, q61, n62, (⟨n14, n15, (0 : Int)⟩ : Version)⟩ : EventS), (⟨l54, n55⟩ : Fleetmake_Stream))

def Stream_Happening_j7 (p1x0 : Int) (q7 : Str) (q11 : Str) (n14 : Int) (n15 : Int) (l64 : List Int) (n65 : Int) (n66 : Int) (q67 : Str) (q68 : Str) (n69 : Int) (q70 : Str) (q71 : Str) (n72 : Int) : Option (EventS × Fleetmake_Stream) :=
 Stream_Happening_j6 p1x0 q7 q11 n14 n15 l64 n65 n66 q67 q68 n69 q70 q71 n72

def Stream_Happening_j8 (p1x0 : Int) (v2 : Int × Fleetmake_Stream) (q7 : Str) (q11 : Str) (n14 : Int) (n15 : Int) (l74 : List Int) (n75 : Int) (q76 : Str) (q77 : Str) (n78 : Int) (q79 : Str) (q80 : Str) (n81 : Int) : Option (EventS × Fleetmake_Stream) :=
 Stream_Happening_j7 p1x0 q7 q11 n14 n15 l74 n75 v2.1 q76 q77 n78 q79 q80 n81

def Stream_Happening_j9 (p1x0 : Int) (v2 : Int × Fleetmake_Stream) (v3 : Str × Fleetmake_Stream) (q7 : Str) (q8 : Str) (q11 : Str) (n14 : Int) (n15 : Int) (l84 : List Int) (n85 : Int) (n86 : Int) (q87 : Str) (q88 : Str) (n89 : Int) : Option (EventS × Fleetmake_Stream) :=
 Stream_Happening_j8 p1x0 v2 q7 q11 n14 n15 l84 n85 v3.1 q8 n86 q87 q88 n89

def Stream_Happening_j1 (p1x0 : Int) (v2 : Int × Fleetmake_Stream) (v3 : Str × Fleetmake_Stream) (l5 : List Int) (n6 : Int) (q7 : Str) (q8 : Str) (n9 : Int) (q10 : Str) (q11 : Str) (q12 : Str) (n13 : Int) (n14 : Int) (n15 : Int) : Option (EventS × Fleetmake_Stream) :=
 (Stream_Flip (⟨l5, n6⟩ : Fleetmake_Stream) (40 : Int)).bind fun v53 =>
 if v53.1 = true then
  (Stream_Next v53.2 (4 : Int)).bind fun v63 =>
  if v63.1 = (0 : Int) then
   (Stream_Odd v63.2 (1 : Int) (9 : Int)).bind fun v73 =>
   Stream_Happening_j7 p1x0 q7 q11 n14 n15 v73.2.L v73.2.at_ v73.1 v3.1 q8 n9 q10 q12 n13
  else
   if v63.1 = (1 : Int) then
    (Stream_Some v63.2 [([] : Str), ([65] : Str), ([100, 97] : Str)]).bind fun v82 =>
    (Stream_Some v82.2 [([] : Str), ([116] : Str)]).bind fun v83 =>
    Stream_Happening_j8 p1x0 v2 q7 q11 n14 n15 v83.2.L v83.2.at_ v82.1 v83.1 n9 q10 q12 n13
   else
    if v63.1 = (2 : Int) then
     (Stream_Odd v63.2 (1 : Int) (99999999 : Int)).bind fun v90 =>
     (Stream_Odd v90.2 (0 : Int) (345686400000 : Int)).bind fun v91 =>
     Stream_Happening_j9 p1x0 v2 v3 q7 q8 q11 n14 n15 v91.2.L v91.2.at_ v90.1 q10 q12 v91.1
    else
     (Stream_Some v63.2 [([] : Str), ([71] : Str), ([48, 97] : Str)]).bind fun v92 =>
     (Stream_Some v92.2 [([] : Str), ([32, 120] : Str), ([120] : Str)]).bind fun v93 =>
     Stream_Happening_j9 p1x0 v2 v3 q7 q8 q11 n14 n15 v93.2.L v93.2.at_ n9 v92.1 v93.1 n13
 else
  Stream_Happening_j6 p1x0 q7 q11 n14 n15 v53.2.L v53.2.at_ v2.1 v3.1 q8 n9 q10 q12 n13

def Stream_Happening_j2 (p1x0 : Int) (v2 : Int × Fleetmake_Stream) (v3 : Str × Fleetmake_Stream) (l19 : List Int) (n20 : Int) (q21 : Str) (q22 : Str) (q23 : Str) (q24 : Str) (n25 : Int) (n26 : Int) (n27 : Int) : Option (EventS × Fleetmake_Stream) :=
 Stream_Happening_j1 p1x0 v2 v3 l19 n20 [] q21 (0 : Int) q22 q23 q24 n25 n26 n27

def Stream_Happening_j3 (p1x0 : Int) (v2 : Int × Fleetmake_Stream) (v3 : Str × Fleetmake_Stream) (l29 : List Int) (n30 : Int) (q31 : Str) (q32 : Str) (q33 : Str) (n34 : Int) (n35 : Int) (n36 : Int) : Option (EventS × Fleetmake_Stream) :=
 Stream_Happening_j2 p1x0 v2 v3 l29 n30 [] q31 q32 q33 n34 n35 n36

def Stream_Happening_j4 (p1x0 : Int) (v2 : Int × Fleetmake_Stream) (v3 : Str × Fleetmake_Stream) (l39 : List Int) (n40 : Int) (q41 : Str) (q42 : Str) (n43 : Int) (n44 : Int) : Option (EventS × Fleetmake_Stream) :=
 Stream_Happening_j3 p1x0 v2 v3 l39 n40 [] q41 q42 (0 : Int) n43 n44

def Stream_Happening_j5 (p1x0 : Int) (v2 : Int × Fleetmake_Stream) (v3 : Str × Fleetmake_Stream) (l47 : List Int) (n48 : Int) (q49 : Str) (q50 : Str) : Option (EventS × Fleetmake_Stream) :=
 Stream_Happening_j4 p1x0 v2 v3 l47 n48 q49 q50 (0 : Int) (0 : Int)

def Stream_Happening (p0x0 : Fleetmake_Stream) (p1x0 : Int) : Option (EventS × Fleetmake_Stream) :=
 (Stream_Pick p0x0 [(1 : Int), (1 : Int), (2 : Int), (2 : Int), (3 : Int), (4 : Int), (5 : Int), (6 : Int), (6 : Int), (7 : Int), (8 : Int), (9 : Int)]).bind fun v2 =>
 (Stream_Some v2.2 [([100, 97] : Str), ([100, 97] : Str), ([100, 98] : Str), ([100, 99] : Str)]).bind fun v3 =>
 if v2.1 = (1 : Int) then
  (Stream_Some v3.2 [([109, 97] : Str), ([109, 97] : Str), ([109, 98] : Str)]).bind fun v16 =>
  (Stream_Pick v16.2 [(1 : Int), (2 : Int), (3 : Int)]).bind fun v17 =>
  (Stream_Some v17.2 [([48, 97] : Str), ([48, 98] : Str), ([48, 99] : Str)]).bind fun v18 =>
  Stream_Happening_j1 p1x0 v2 v3 v18.2.L v18.2.at_ v16.1 [] v17.1 v18.1 [] [] (0 : Int) (0 : Int) (0 : Int)
 else
  if v2.1 = (2 : Int) then
   (Stream_Some v3.2 [([116, 97] : Str), ([116, 97] : Str), ([116, 98] : Str), ([116, 99] : Str)]).bind fun v28 =>
   Stream_Happening_j2 p1x0 v2 v3 v28.2.L v28.2.at_ v28.1 [] [] [] (0 : Int) (0 : Int) (0 : Int)
  else
   if v2.1 = (4 : Int) then
    (Stream_Some v3.2 [([48, 97] : Str), ([49, 97] : Str), ([49, 98] : Str), ([49, 99] : Str)]).bind fun v37 =>
    (Stream_Pick v37.2 [(0 : Int), (5 : Int), (50 : Int), (1000 : Int)]).bind fun v38 =>
    Stream_Happening_j3 p1x0 v2 v3 v38.2.L v38.2.at_ v37.1 [] [] (w64 (p1x0 + v38.1)) (0 : Int) (0 : Int)
   else
    if v2.1 = (5 : Int) then
     (Stream_Pick v3.2 [(0 : Int), (1 : Int), (1 : Int)]).bind fun v45 =>
     (Stream_Pick v45.2 [(0 : Int), (2 : Int)]).bind fun v46 =>
     Stream_Happening_j4 p1x0 v2 v3 v46.2.L v46.2.at_ [] [] v45.1 v46.1
    else
     if v2.1 = (6 : Int) then
      (Stream_Some v3.2 [([115, 105, 116, 101] : Str), ([115, 105, 116, 101] : Str), ([111, 112, 101, 110] : Str)]).bind fun v51 =>
      (Stream_Some v51.2 [([120] : Str), ([121] : Str), ([97, 32, 98] : Str), ([] : Str)]).bind fun v52 =>
      Stream_Happening_j5 p1x0 v2 v3 v52.2.L v52.2.at_ v51.1 v52.1
     else
      Stream_Happening_j5 p1x0 v2 v3 v3.2.L v3.2.at_ [] []

def cmp_isNaN_int (p0x0 : Int) : Bool :=
 decide (p0x0 ≠ p0x0)

def cmp_Compare_int (p0x0 : Int) (p1x0 : Int) : Int :=
 if (cmp_isNaN_int p0x0) = true then
  if (cmp_isNaN_int p1x0) = true then
   (0 : Int)
  else
   (-1 : Int)
 else
  if (cmp_isNaN_int p1x0) = true then
   (1 : Int)
  else
   if p0x0 < p1x0 then
    (-1 : Int)
   else
    if p1x0 < p0x0 then
     (1 : Int)
    else
     (0 : Int)

def cmp_Or_int_b1 (p0x0 : List Int) (n2 : Int) : Option (Int ⊕ Int) :=
 if n2 < (p0x0.length : Int) then
  (idx p0x0 n2).bind fun v3 =>
  if v3 ≠ (0 : Int) then
   Option.map .inr (some v3)
  else
   some (.inl (w64 (n2 + (1 : Int))))
 else
  Option.map .inr (some (0 : Int))

def cmp_Or_int_l1 (p0x0 : List Int) (n2 : Int) : Option Int :=
 iter (fun x : Int => cmp_Or_int_b1 p0x0 x) n2

def cmp_Or_int (p0x0 : List Int) : Option Int :=
 cmp_Or_int_l1 p0x0 (0 : Int)

def Q_EventOrder (p0x0 : EventS) (p1x0 : EventS) : Option Int :=
 (cmp_Or_int [(cmp_Compare_int p0x0.Clock p1x0.Clock), (Lib.compareBytes p0x0.Hub p1x0.Hub), (cmp_Compare_int p0x0.No p1x0.No)]).bind fun v3 =>
 some v3

def slices_insertionSortCmpFunc_Event_j1 (n4 : Int) (l7 : List EventS) (n8 : Int) (c9 : Bool) : Option (((List EventS) × Int) ⊕ (((List EventS) × Int) ⊕ (List EventS))) :=
 if c9 = true then
  (idx l7 (w64 (n8 - (1 : Int)))).bind fun v13 =>
  (idx l7 n8).bind fun v14 =>
  (idx l7 n8).bind fun v15 =>
  (idx (l7.set n8.toNat v13) (w64 (n8 - (1 : Int)))).bind fun v16 =>
  some (.inl ((l7.set n8.toNat v13).set (w64 (n8 - (1 : Int))).toNat v14, w64 (n8 - (1 : Int))))
 else
  Option.map .inr (some (.inl (l7, w64 (n4 + (1 : Int)))))

def slices_insertionSortCmpFunc_Event_b2 (p1x0 : Int) (fnd : EventS → EventS → Option Int) (n4 : Int) (l7 : List EventS) (n8 : Int) : Option (((List EventS) × Int) ⊕ (((List EventS) × Int) ⊕ (List EventS))) :=
 if p1x0 < n8 then
  (idx l7 n8).bind fun v10 =>
  (idx l7 (w64 (n8 - (1 : Int)))).bind fun v11 =>
  (fnd v10 v11).bind fun v12 =>
  slices_insertionSortCmpFunc_Event_j1 n4 l7 n8 (decide (v12 < (0 : Int)))
 else
  slices_insertionSortCmpFunc_Event_j1 n4 l7 n8 false

def slices_insertionSortCmpFunc_Event_l2 (p1x0 : Int) (fnd : EventS → EventS → Option Int) (n4 : Int) (l7 : List EventS) (n8 : Int) : Option (((List EventS) × Int) ⊕ (List EventS)) :=
 iter (fun x : (List EventS) × Int => slices_insertionSortCmpFunc_Event_b2 p1x0 fnd n4 x.1 x.2) (l7, n8)

def slices_insertionSortCmpFunc_Event_b1 (p1x0 : Int) (p2x0 : Int) (fnd : EventS → EventS → Option Int) (l3 : List EventS) (n4 : Int) : Option (((List EventS) × Int) ⊕ (List EventS)) :=
 if n4 < p2x0 then
  slices_insertionSortCmpFunc_Event_l2 p1x0 fnd n4 l3 n4
 else
  Option.map .inr (some l3)

def slices_insertionSortCmpFunc_Event_l1 (p1x0 : Int) (p2x0 : Int) (fnd : EventS → EventS → Option Int) (l3 : List EventS) (n4 : Int) : Option (List EventS) :=
 iter (fun x : (List EventS) × Int => slices_insertionSortCmpFunc_Event_b1 p1x0 p2x0 fnd x.1 x.2) (l3, n4)

def slices_insertionSortCmpFunc_Event (p0x0 : List EventS) (p1x0 : Int) (p2x0 : Int) (fnd : EventS → EventS → Option Int) : Option (List EventS) :=
 slices_insertionSortCmpFunc_Event_l1 p1x0 p2x0 fnd p0x0 (w64 (p1x0 + (1 : Int)))

def slices_swapRangeCmpFunc_Event_b1 (p1x0 : Int) (p2x0 : Int) (p3x0 : Int) (l3 : List EventS) (n4 : Int) : Option (((List EventS) × Int) ⊕ (List EventS)) :=
 if n4 < p3x0 then
  (idx l3 (w64 (p2x0 + n4))).bind fun v5 =>
  (idx l3 (w64 (p1x0 + n4))).bind fun v6 =>
  (idx l3 (w64 (p1x0 + n4))).bind fun v7 =>
  (idx (l3.set (w64 (p1x0 + n4)).toNat v5) (w64 (p2x0 + n4))).bind fun v8 =>
  some (.inl ((l3.set (w64 (p1x0 + n4)).toNat v5).set (w64 (p2x0 + n4)).toNat v6, w64 (n4 + (1 : Int))))
 else
  Option.map .inr (some l3)

def slices_swapRangeCmpFunc_Event_l1 (p1x0 : Int) (p2x0 : Int) (p3x0 : Int) (l3 : List EventS) (n4 : Int) : Option (List EventS) :=
 iter (fun x : (List EventS) × Int => slices_swapRangeCmpFunc_Event_b1 p1x0 p2x0 p3x0 x.1 x.2) (l3, n4)

def slices_swapRangeCmpFunc_Event (p0x0 : List EventS) (p1x0 : Int) (p2x0 : Int) (p3x0 : Int) (fne : EventS → EventS → Option Int) : Option (List EventS) :=
 slices_swapRangeCmpFunc_Event_l1 p1x0 p2x0 p3x0 p0x0 (0 : Int)

def slices_rotateCmpFunc_Event_j1 (l7 : List EventS) (n8 : Int) (n9 : Int) : Option (((List EventS) × Int × Int) ⊕ (List EventS)) :=
 some (.inl (l7, n8, n9))

def slices_rotateCmpFunc_Event_k2 (p2x0 : Int) (fne : EventS → EventS → Option Int) (l4 : List EventS) (n5 : Int) : Option (List EventS) :=
 (lenOk l4.length (fun r : (List EventS) => r.length) (slices_swapRangeCmpFunc_Event l4 (w64 (p2x0 - n5)) p2x0 n5 fne)).bind fun v12 =>
 some v12

def slices_rotateCmpFunc_Event_b1 (p2x0 : Int) (fne : EventS → EventS → Option Int) (l4 : List EventS) (n5 : Int) (n6 : Int) : Option (((List EventS) × Int × Int) ⊕ (List EventS)) :=
 if n5 ≠ n6 then
  if n6 < n5 then
   (lenOk l4.length (fun r : (List EventS) => r.length) (slices_swapRangeCmpFunc_Event l4 (w64 (p2x0 - n5)) p2x0 n6 fne)).bind fun v10 =>
   slices_rotateCmpFunc_Event_j1 v10 (w64 (n5 - n6)) n6
  else
   (lenOk l4.length (fun r : (List EventS) => r.length) (slices_swapRangeCmpFunc_Event l4 (w64 (p2x0 - n5)) (w64 ((w64 (p2x0 + n6)) - n5)) n5 fne)).bind fun v11 =>
   slices_rotateCmpFunc_Event_j1 v11 n5 (w64 (n6 - n5))
 else
  Option.map .inr (slices_rotateCmpFunc_Event_k2 p2x0 fne l4 n5)

def slices_rotateCmpFunc_Event_l1 (p2x0 : Int) (fne : EventS → EventS → Option Int) (l4 : List EventS) (n5 : Int) (n6 : Int) : Option (List EventS) :=
 iter (fun x : (List EventS) × Int × Int => slices_rotateCmpFunc_Event_b1 p2x0 fne x.1 x.2.1 x.2.2) (l4, n5, n6)

def slices_rotateCmpFunc_Event (p0x0 : List EventS) (p1x0 : Int) (p2x0 : Int) (p3x0 : Int) (fne : EventS → EventS → Option Int) : Option (List EventS) :=
 slices_rotateCmpFunc_Event_l1 p2x0 fne p0x0 (w64 (p2x0 - p1x0)) (w64 (p3x0 - p2x0))

def slices_symMergeCmpFunc_Event_j1 (n8 : Int) (n9 : Int) : Option ((Int × Int) ⊕ (List EventS)) :=
 some (.inl (n8, n9))

def slices_symMergeCmpFunc_Event_b2 (n3 : Int) (l12 : List EventS) (n13 : Int) : Option (((List EventS) × Int) ⊕ (List EventS)) :=
 if n13 < (w64 (n3 - (1 : Int))) then
  (idx l12 (w64 (n13 + (1 : Int)))).bind fun v14 =>
  (idx l12 n13).bind fun v15 =>
  (idx l12 n13).bind fun v16 =>
  (idx (l12.set n13.toNat v14) (w64 (n13 + (1 : Int)))).bind fun v17 =>
  some (.inl ((l12.set n13.toNat v14).set (w64 (n13 + (1 : Int))).toNat v15, w64 (n13 + (1 : Int))))
 else
  Option.map .inr (some l12)

def slices_symMergeCmpFunc_Event_l2 (n3 : Int) (l12 : List EventS) (n13 : Int) : Option (List EventS) :=
 iter (fun x : (List EventS) × Int => slices_symMergeCmpFunc_Event_b2 n3 x.1 x.2) (l12, n13)

def slices_symMergeCmpFunc_Event_b1 (p0x0 : List EventS) (p1x0 : Int) (fne : EventS → EventS → Option Int) (n3 : Int) (n4 : Int) : Option ((Int × Int) ⊕ (List EventS)) :=
 if n3 < n4 then
  (idx p0x0 (w64 (shrI .u64 (IntKind.u64.wrap (w64 (n3 + n4))) (1 : Int)))).bind fun v5 =>
  (idx p0x0 p1x0).bind fun v6 =>
  (fne v5 v6).bind fun v7 =>
  if v7 < (0 : Int) then
   slices_symMergeCmpFunc_Event_j1 (w64 ((w64 (shrI .u64 (IntKind.u64.wrap (w64 (n3 + n4))) (1 : Int))) + (1 : Int))) n4
  else
   slices_symMergeCmpFunc_Event_j1 n3 (w64 (shrI .u64 (IntKind.u64.wrap (w64 (n3 + n4))) (1 : Int)))
 else
  Option.map .inr (slices_symMergeCmpFunc_Event_l2 n3 p0x0 p1x0)

def slices_symMergeCmpFunc_Event_l1 (p0x0 : List EventS) (p1x0 : Int) (fne : EventS → EventS → Option Int) (n3 : Int) (n4 : Int) : Option (List EventS) :=
 iter (fun x : Int × Int => slices_symMergeCmpFunc_Event_b1 p0x0 p1x0 fne x.1 x.2) (n3, n4)

def slices_symMergeCmpFunc_Event_j2 (n25 : Int) (n26 : Int) : Option ((Int × Int) ⊕ (List EventS)) :=
 some (.inl (n25, n26))

def slices_symMergeCmpFunc_Event_b4 (n20 : Int) (l29 : List EventS) (n30 : Int) : Option (((List EventS) × Int) ⊕ (List EventS)) :=
 if n20 < n30 then
  (idx l29 (w64 (n30 - (1 : Int)))).bind fun v31 =>
  (idx l29 n30).bind fun v32 =>
  (idx l29 n30).bind fun v33 =>
  (idx (l29.set n30.toNat v31) (w64 (n30 - (1 : Int)))).bind fun v34 =>
  some (.inl ((l29.set n30.toNat v31).set (w64 (n30 - (1 : Int))).toNat v32, w64 (n30 - (1 : Int))))
 else
  Option.map .inr (some l29)

def slices_symMergeCmpFunc_Event_l4 (n20 : Int) (l29 : List EventS) (n30 : Int) : Option (List EventS) :=
 iter (fun x : (List EventS) × Int => slices_symMergeCmpFunc_Event_b4 n20 x.1 x.2) (l29, n30)

def slices_symMergeCmpFunc_Event_b3 (p0x0 : List EventS) (p2x0 : Int) (fne : EventS → EventS → Option Int) (n20 : Int) (n21 : Int) : Option ((Int × Int) ⊕ (List EventS)) :=
 if n20 < n21 then
  (idx p0x0 p2x0).bind fun v22 =>
  (idx p0x0 (w64 (shrI .u64 (IntKind.u64.wrap (w64 (n20 + n21))) (1 : Int)))).bind fun v23 =>
  (fne v22 v23).bind fun v24 =>
  if ¬ (v24 < (0 : Int)) then
   slices_symMergeCmpFunc_Event_j2 (w64 ((w64 (shrI .u64 (IntKind.u64.wrap (w64 (n20 + n21))) (1 : Int))) + (1 : Int))) n21
  else
   slices_symMergeCmpFunc_Event_j2 n20 (w64 (shrI .u64 (IntKind.u64.wrap (w64 (n20 + n21))) (1 : Int)))
 else
  Option.map .inr (slices_symMergeCmpFunc_Event_l4 n20 p0x0 p2x0)

def slices_symMergeCmpFunc_Event_l3 (p0x0 : List EventS) (p2x0 : Int) (fne : EventS → EventS → Option Int) (n20 : Int) (n21 : Int) : Option (List EventS) :=
 iter (fun x : Int × Int => slices_symMergeCmpFunc_Event_b3 p0x0 p2x0 fne x.1 x.2) (n20, n21)

def slices_symMergeCmpFunc_Event_j4 (n44 : Int) (n45 : Int) : Option ((Int × Int) ⊕ (List EventS)) :=
 some (.inl (n44, n45))

def slices_symMergeCmpFunc_Event_j10 (l53 : List EventS) : Option (List EventS) :=
 some l53

def slices_symMergeCmpFunc_Event_j9 (self : (List EventS) → Int → Int → Int → (EventS → EventS → Option Int) → Option (List EventS)) (p1x0 : Int) (p2x0 : Int) (p3x0 : Int) (fne : EventS → EventS → Option Int) (n39 : Int) (l50 : List EventS) (c52 : Bool) : Option (List EventS) :=
 if c52 = true then
  (lenOk l50.length (fun r : (List EventS) => r.length) (self l50 (w64 (shrI .u64 (IntKind.u64.wrap (w64 (p1x0 + p3x0))) (1 : Int))) (w64 ((w64 ((w64 (shrI .u64 (IntKind.u64.wrap (w64 (p1x0 + p3x0))) (1 : Int))) + p2x0)) - n39)) p3x0 fne)).bind fun v54 =>
  slices_symMergeCmpFunc_Event_j10 v54
 else
  slices_symMergeCmpFunc_Event_j10 l50

def slices_symMergeCmpFunc_Event_j8 (self : (List EventS) → Int → Int → Int → (EventS → EventS → Option Int) → Option (List EventS)) (p1x0 : Int) (p2x0 : Int) (p3x0 : Int) (fne : EventS → EventS → Option Int) (n39 : Int) (l50 : List EventS) : Option (List EventS) :=
 slices_symMergeCmpFunc_Event_j9 self p1x0 p2x0 p3x0 fne n39 l50 ((decide ((w64 (shrI .u64 (IntKind.u64.wrap (w64 (p1x0 + p3x0))) (1 : Int))) < (w64 ((w64 ((w64 (shrI .u64 (IntKind.u64.wrap (w64 (p1x0 + p3x0))) (1 : Int))) + p2x0)) - n39)))) && (decide ((w64 ((w64 ((w64 (shrI .u64 (IntKind.u64.wrap (w64 (p1x0 + p3x0))) (1 : Int))) + p2x0)) - n39)) < p3x0)))

def slices_symMergeCmpFunc_Event_j7 (self : (List EventS) → Int → Int → Int → (EventS → EventS → Option Int) → Option (List EventS)) (p1x0 : Int) (p2x0 : Int) (p3x0 : Int) (fne : EventS → EventS → Option Int) (n39 : Int) (l47 : List EventS) (c49 : Bool) : Option (List EventS) :=
 if c49 = true then
  (lenOk l47.length (fun r : (List EventS) => r.length) (self l47 p1x0 n39 (w64 (shrI .u64 (IntKind.u64.wrap (w64 (p1x0 + p3x0))) (1 : Int))) fne)).bind fun v51 =>
  slices_symMergeCmpFunc_Event_j8 self p1x0 p2x0 p3x0 fne n39 v51
 else
  slices_symMergeCmpFunc_Event_j8 self p1x0 p2x0 p3x0 fne n39 l47

def slices_symMergeCmpFunc_Event_j6 (self : (List EventS) → Int → Int → Int → (EventS → EventS → Option Int) → Option (List EventS)) (p1x0 : Int) (p2x0 : Int) (p3x0 : Int) (fne : EventS → EventS → Option Int) (n39 : Int) (l47 : List EventS) : Option (List EventS) :=
 slices_symMergeCmpFunc_Event_j7 self p1x0 p2x0 p3x0 fne n39 l47 ((decide (p1x0 < n39)) && (decide (n39 < (w64 (shrI .u64 (IntKind.u64.wrap (w64 (p1x0 + p3x0))) (1 : Int))))))

def slices_symMergeCmpFunc_Event_j5 (self : (List EventS) → Int → Int → Int → (EventS → EventS → Option Int) → Option (List EventS)) (p0x0 : List EventS) (p1x0 : Int) (p2x0 : Int) (p3x0 : Int) (fne : EventS → EventS → Option Int) (n39 : Int) (c46 : Bool) : Option (List EventS) :=
 if c46 = true then
  (lenOk p0x0.length (fun r : (List EventS) => r.length) (slices_rotateCmpFunc_Event p0x0 n39 p2x0 (w64 ((w64 ((w64 (shrI .u64 (IntKind.u64.wrap (w64 (p1x0 + p3x0))) (1 : Int))) + p2x0)) - n39)) fne)).bind fun v48 =>
  slices_symMergeCmpFunc_Event_j6 self p1x0 p2x0 p3x0 fne n39 v48
 else
  slices_symMergeCmpFunc_Event_j6 self p1x0 p2x0 p3x0 fne n39 p0x0

def slices_symMergeCmpFunc_Event_b5 (self : (List EventS) → Int → Int → Int → (EventS → EventS → Option Int) → Option (List EventS)) (p0x0 : List EventS) (p1x0 : Int) (p2x0 : Int) (p3x0 : Int) (fne : EventS → EventS → Option Int) (n39 : Int) (n40 : Int) : Option ((Int × Int) ⊕ (List EventS)) :=
 if n39 < n40 then
  (idx p0x0 (w64 ((w64 ((w64 ((w64 (shrI .u64 (IntKind.u64.wrap (w64 (p1x0 + p3x0))) (1 : Int))) + p2x0)) - (1 : Int))) - (w64 (shrI .u64 (IntKind.u64.wrap (w64 (n39 + n40))) (1 : Int)))))).bind fun v41 =>
  (idx p0x0 (w64 (shrI .u64 (IntKind.u64.wrap (w64 (n39 + n40))) (1 : Int)))).bind fun v42 =>
  (fne v41 v42).bind fun v43 =>
  if ¬ (v43 < (0 : Int)) then
   slices_symMergeCmpFunc_Event_j4 (w64 ((w64 (shrI .u64 (IntKind.u64.wrap (w64 (n39 + n40))) (1 : Int))) + (1 : Int))) n40
  else
   slices_symMergeCmpFunc_Event_j4 n39 (w64 (shrI .u64 (IntKind.u64.wrap (w64 (n39 + n40))) (1 : Int)))
 else
  Option.map .inr (slices_symMergeCmpFunc_Event_j5 self p0x0 p1x0 p2x0 p3x0 fne n39 ((decide (n39 < p2x0)) && (decide (p2x0 < (w64 ((w64 ((w64 (shrI .u64 (IntKind.u64.wrap (w64 (p1x0 + p3x0))) (1 : Int))) + p2x0)) - n39))))))

def slices_symMergeCmpFunc_Event_l5 (self : (List EventS) → Int → Int → Int → (EventS → EventS → Option Int) → Option (List EventS)) (p0x0 : List EventS) (p1x0 : Int) (p2x0 : Int) (p3x0 : Int) (fne : EventS → EventS → Option Int) (n39 : Int) (n40 : Int) : Option (List EventS) :=
 iter (fun x : Int × Int => slices_symMergeCmpFunc_Event_b5 self p0x0 p1x0 p2x0 p3x0 fne x.1 x.2) (n39, n40)

def slices_symMergeCmpFunc_Event_j3 (self : (List EventS) → Int → Int → Int → (EventS → EventS → Option Int) → Option (List EventS)) (p0x0 : List EventS) (p1x0 : Int) (p2x0 : Int) (p3x0 : Int) (fne : EventS → EventS → Option Int) (n35 : Int) (n36 : Int) : Option (List EventS) :=
 slices_symMergeCmpFunc_Event_l5 self p0x0 p1x0 p2x0 p3x0 fne n35 n36

def slices_symMergeCmpFunc_Event_bd (self : (List EventS) → Int → Int → Int → (EventS → EventS → Option Int) → Option (List EventS)) (p0x0 : List EventS) (p1x0 : Int) (p2x0 : Int) (p3x0 : Int) (fne : EventS → EventS → Option Int) : Option (List EventS) :=
 if (w64 (p2x0 - p1x0)) = (1 : Int) then
  slices_symMergeCmpFunc_Event_l1 p0x0 p1x0 fne p2x0 p3x0
 else
  if (w64 (p3x0 - p2x0)) = (1 : Int) then
   slices_symMergeCmpFunc_Event_l3 p0x0 p2x0 fne p1x0 p2x0
  else
   if (w64 (shrI .u64 (IntKind.u64.wrap (w64 (p1x0 + p3x0))) (1 : Int))) < p2x0 then
    slices_symMergeCmpFunc_Event_j3 self p0x0 p1x0 p2x0 p3x0 fne (w64 ((w64 ((w64 (shrI .u64 (IntKind.u64.wrap (w64 (p1x0 + p3x0))) (1 : Int))) + p2x0)) - p3x0)) (w64 (shrI .u64 (IntKind.u64.wrap (w64 (p1x0 + p3x0))) (1 : Int)))
   else
    slices_symMergeCmpFunc_Event_j3 self p0x0 p1x0 p2x0 p3x0 fne p1x0 p2x0

/-- The function, to some depth. -/
def slices_symMergeCmpFunc_Event_r : Nat → (List EventS) → Int → Int → Int → (EventS → EventS → Option Int) → Option (List EventS)
 | 0 => fun _ _ _ _ _ => none
 | k + 1 => slices_symMergeCmpFunc_Event_bd (slices_symMergeCmpFunc_Event_r k)

def slices_symMergeCmpFunc_Event (p0x0 : List EventS) (p1x0 : Int) (p2x0 : Int) (p3x0 : Int) (fne : EventS → EventS → Option Int) : Option (List EventS) :=
 slices_symMergeCmpFunc_Event_r depth p0x0 p1x0 p2x0 p3x0 fne

def slices_stableCmpFunc_Event_j1 (n12 : Int) (l20 : List EventS) : Option (((List EventS) × Int) ⊕ (List EventS)) :=
 some (.inl (l20, w64 (n12 * (2 : Int))))

def slices_stableCmpFunc_Event_k2 (p1x0 : Int) (fnc : EventS → EventS → Option Int) (n12 : Int) (l16 : List EventS) (n17 : Int) : Option (((List EventS) × Int) ⊕ (List EventS)) :=
 if (w64 (n17 + n12)) < p1x0 then
  (lenOk l16.length (fun r : (List EventS) => r.length) (slices_symMergeCmpFunc_Event l16 n17 (w64 (n17 + n12)) p1x0 fnc)).bind fun v21 =>
  slices_stableCmpFunc_Event_j1 n12 v21
 else
  slices_stableCmpFunc_Event_j1 n12 l16

def slices_stableCmpFunc_Event_b3 (p1x0 : Int) (fnc : EventS → EventS → Option Int) (n12 : Int) (l16 : List EventS) (n17 : Int) (n18 : Int) : Option (((List EventS) × Int × Int) ⊕ (((List EventS) × Int) ⊕ (List EventS))) :=
 if n18 ≤ p1x0 then
  (lenOk l16.length (fun r : (List EventS) => r.length) (slices_symMergeCmpFunc_Event l16 n17 (w64 (n17 + n12)) n18 fnc)).bind fun v19 =>
  some (.inl (v19, n18, w64 (n18 + (w64 ((2 : Int) * n12)))))
 else
  Option.map .inr (slices_stableCmpFunc_Event_k2 p1x0 fnc n12 l16 n17)

def slices_stableCmpFunc_Event_l3 (p1x0 : Int) (fnc : EventS → EventS → Option Int) (n12 : Int) (l16 : List EventS) (n17 : Int) (n18 : Int) : Option (((List EventS) × Int) ⊕ (List EventS)) :=
 iter (fun x : (List EventS) × Int × Int => slices_stableCmpFunc_Event_b3 p1x0 fnc n12 x.1 x.2.1 x.2.2) (l16, n17, n18)

def slices_stableCmpFunc_Event_b2 (p1x0 : Int) (fnc : EventS → EventS → Option Int) (l11 : List EventS) (n12 : Int) : Option (((List EventS) × Int) ⊕ (List EventS)) :=
 if n12 < p1x0 then
  slices_stableCmpFunc_Event_l3 p1x0 fnc n12 l11 (0 : Int) (w64 ((2 : Int) * n12))
 else
  Option.map .inr (some l11)

def slices_stableCmpFunc_Event_l2 (p1x0 : Int) (fnc : EventS → EventS → Option Int) (l11 : List EventS) (n12 : Int) : Option (List EventS) :=
 iter (fun x : (List EventS) × Int => slices_stableCmpFunc_Event_b2 p1x0 fnc x.1 x.2) (l11, n12)

def slices_stableCmpFunc_Event_k3 (p1x0 : Int) (fnc : EventS → EventS → Option Int) (l4 : List EventS) (n5 : Int) : Option (List EventS) :=
 (lenOk l4.length (fun r : (List EventS) => r.length) (slices_insertionSortCmpFunc_Event l4 n5 p1x0 fnc)).bind fun v8 =>
 slices_stableCmpFunc_Event_l2 p1x0 fnc v8 (20 : Int)

def slices_stableCmpFunc_Event_b1 (p1x0 : Int) (fnc : EventS → EventS → Option Int) (l4 : List EventS) (n5 : Int) (n6 : Int) : Option (((List EventS) × Int × Int) ⊕ (List EventS)) :=
 if n6 ≤ p1x0 then
  (lenOk l4.length (fun r : (List EventS) => r.length) (slices_insertionSortCmpFunc_Event l4 n5 n6 fnc)).bind fun v7 =>
  some (.inl (v7, n6, w64 (n6 + (20 : Int))))
 else
  Option.map .inr (slices_stableCmpFunc_Event_k3 p1x0 fnc l4 n5)

def slices_stableCmpFunc_Event_l1 (p1x0 : Int) (fnc : EventS → EventS → Option Int) (l4 : List EventS) (n5 : Int) (n6 : Int) : Option (List EventS) :=
 iter (fun x : (List EventS) × Int × Int => slices_stableCmpFunc_Event_b1 p1x0 fnc x.1 x.2.1 x.2.2) (l4, n5, n6)

def slices_stableCmpFunc_Event (p0x0 : List EventS) (p1x0 : Int) (fnc : EventS → EventS → Option Int) : Option (List EventS) :=
 slices_stableCmpFunc_Event_l1 p1x0 fnc p0x0 (0 : Int) (20 : Int)

def slices_SortStableFunc_Event_Event (p0x0 : List EventS) (fnb : EventS → EventS → Option Int) : Option (List EventS) :=
 (lenOk p0x0.length (fun r : (List EventS) => r.length) (slices_stableCmpFunc_Event p0x0 (p0x0.length : Int) fnb)).bind fun v1 =>
 some v1

def Stream_Events_j2 (l34 : List Int) (n35 : Int) (l36 : List EventS) : Option ((List EventS) × Fleetmake_Stream) :=
 some (l36, (⟨l34, n35⟩ : Fleetmake_Stream))

def Stream_Events_j1 (v29 : (List EventS)) (l30 : List Int) (n31 : Int) (c32 : Bool) : Option ((List EventS) × Fleetmake_Stream) :=
 if c32 = true then
  (Stream_Next (⟨l30, n31⟩ : Fleetmake_Stream) (v29.length : Int)).bind fun v37 =>
  (idx v29 v37.1).bind fun v38 =>
  (Stream_Some v37.2 [v38.Hub, ([] : Str), ([104, 122] : Str)]).bind fun v39 =>
  (Stream_Pick v39.2 [v38.No, (0 : Int), (9 : Int)]).bind fun v40 =>
  (Stream_Pick v40.2 [v38.Clock, (0 : Int), (1 : Int)]).bind fun v41 =>
  (Stream_Pick v41.2 [v38.At, (-1 : Int), (345686400000 : Int)]).bind fun v42 =>
  Stream_Events_j2 v42.2.L v42.2.at_ ((((v29.set v37.1.toNat (⟨v39.1, v38.No, v38.Clock, v38.At, v38.Kind, v38.Device, v38.Model, v38.Tenant, v38.Serial, v38.Key, v38.Name, v38.Value, v38.Until, v38.Firmware⟩ : EventS)).set v37.1.toNat (⟨v39.1, v40.1, v38.Clock, v38.At, v38.Kind, v38.Device, v38.Model, v38.Tenant, v38.Serial, v38.Key, v38.Name, v38.Value, v38.Until, v38.Firmware⟩ : EventS)).set v37.1.toNat (⟨v39.1, v40.1, v41.1, v38.At, v38.Kind, v38.Device, v38.Model, v38.Tenant, v38.Serial, v38.Key, v38.Name, v38.Value, v38.Until, v38.Firmware⟩ : EventS)).set v37.1.toNat (⟨v39.1, v40.1, v41.1, v42.1, v38.Kind, v38.Device, v38.Model, v38.Tenant, v38.Serial, v38.Key, v38.Name, v38.Value, v38.Until, v38.Firmware⟩ : EventS))
 else
  Stream_Events_j2 l30 n31 v29

def Stream_Events_k3 (l11 : List Int) (n12 : Int) (l14 : List EventS) : Option ((List EventS) × Fleetmake_Stream) :=
 (lenOk l14.length (fun r : (List EventS) => r.length) (slices_SortStableFunc_Event_Event l14 (fun y0 y1 => Q_EventOrder y0 y1))).bind fun v29 =>
 if (0 : Int) < (v29.length : Int) then
  (Stream_Flip (⟨l11, n12⟩ : Fleetmake_Stream) (15 : Int)).bind fun v33 =>
  Stream_Events_j1 v29 v33.2.L v33.2.at_ v33.1
 else
  Stream_Events_j1 v29 l11 n12 false

def Stream_Events_b1 (p1x0 : Int) (l11 : List Int) (n12 : Int) (l14 : List EventS) (l15 : List (Str × Int)) (n16 : Int) (n17 : Int) (n18 : Int) : Option (((List Int) × Int × (List EventS) × (List (Str × Int)) × Int × Int × Int) ⊕ ((List EventS) × Fleetmake_Stream)) :=
 if n18 < p1x0 then
  (Stream_Happening (⟨l11, n12⟩ : Fleetmake_Stream) n17).bind fun v20 =>
  (Stream_Some v20.2 [([104, 97] : Str), ([104, 97] : Str), ([104, 98] : Str)]).bind fun v22 =>
  (mgetO l15 v22.1 (0 : Int)).bind fun v23 =>
  (mgetO (mset l15 v22.1 (w64 (v23 + (1 : Int)))) v22.1 (0 : Int)).bind fun v24 =>
  (Stream_Pick v22.2 [(0 : Int), (1 : Int), (1 : Int), (2 : Int)]).bind fun v25 =>
  (app l14 [(⟨v22.1, v24, max (max (w64 (n16 + v25.1)) v24) (1 : Int), v20.1.At, v20.1.Kind, v20.1.Device, v20.1.Model, v20.1.Tenant, v20.1.Serial, v20.1.Key, v20.1.Name, v20.1.Value, v20.1.Until, v20.1.Firmware⟩ : EventS)]).bind fun l26 =>
  (Stream_Pick v25.2 [(0 : Int), (1 : Int), (5 : Int), (20 : Int)]).bind fun v28 =>
  some (.inl (v28.2.L, v28.2.at_, l26, mset l15 v22.1 (w64 (v23 + (1 : Int))), max (max (w64 (n16 + v25.1)) v24) (1 : Int), w64 (n17 + v28.1), w64 (n18 + (1 : Int))))
 else
  Option.map .inr (Stream_Events_k3 l11 n12 l14)

def Stream_Events_l1 (p1x0 : Int) (l11 : List Int) (n12 : Int) (l14 : List EventS) (l15 : List (Str × Int)) (n16 : Int) (n17 : Int) (n18 : Int) : Option ((List EventS) × Fleetmake_Stream) :=
 iter (fun x : (List Int) × Int × (List EventS) × (List (Str × Int)) × Int × Int × Int => Stream_Events_b1 p1x0 x.1 x.2.1 x.2.2.1 x.2.2.2.1 x.2.2.2.2.1 x.2.2.2.2.2.1 x.2.2.2.2.2.2) (l11, n12, l14, l15, n16, n17, n18)

def Stream_Events (p0x0 : Fleetmake_Stream) (p1x0 : Int) : Option ((List EventS) × Fleetmake_Stream) :=
 (Stream_Next p0x0 (10 : Int)).bind fun v2 =>
 Stream_Events_l1 p1x0 v2.2.L v2.2.at_ [] [] (0 : Int) v2.1 (0 : Int)

/-- A copy of a list. -/
def slices_Clone_Event_Event (p0x0 : List EventS) : Option (List EventS) :=
 app [] p0x0

def Stream_SeenHubs_j1 (n10 : Int) (l14 : List Int) (n15 : Int) (l17 : List Seen) : Option (((List Int) × Int × (List Seen) × Int) ⊕ ((List Seen) × Fleetmake_Stream)) :=
 some (.inl (l14, n15, l17, w64 (n10 + (1 : Int))))

def Stream_SeenHubs_j2 (l22 : List Int) (n23 : Int) (l25 : List Seen) : Option ((List Seen) × Fleetmake_Stream) :=
 some (l25, (⟨l22, n23⟩ : Fleetmake_Stream))

def Stream_SeenHubs_k3 (l6 : List Int) (n7 : Int) (l9 : List Seen) : Option ((List Seen) × Fleetmake_Stream) :=
 (Stream_Flip (⟨l6, n7⟩ : Fleetmake_Stream) (15 : Int)).bind fun v21 =>
 if v21.1 = true then
  (Stream_Some v21.2 [([] : Str), ([104, 97] : Str), ([104, 122] : Str)]).bind fun v26 =>
  (Stream_Odd v26.2 (0 : Int) (3000 : Int)).bind fun v27 =>
  (app l9 [(⟨v26.1, v27.1⟩ : Seen)]).bind fun l28 =>
  Stream_SeenHubs_j2 v27.2.L v27.2.at_ l28
 else
  Stream_SeenHubs_j2 v21.2.L v21.2.at_ l9

def Stream_SeenHubs_b1 (l6 : List Int) (n7 : Int) (l9 : List Seen) (n10 : Int) : Option (((List Int) × Int × (List Seen) × Int) ⊕ ((List Seen) × Fleetmake_Stream)) :=
 if n10 < ([([104, 97] : Str), ([104, 98] : Str), ([104, 99] : Str)].length : Int) then
  (idx [([104, 97] : Str), ([104, 98] : Str), ([104, 99] : Str)] n10).bind fun v12 =>
  (Stream_Flip (⟨l6, n7⟩ : Fleetmake_Stream) (2 : Int)).bind fun v13 =>
  if v13.1 = true then
   (Stream_Next v13.2 (6 : Int)).bind fun v18 =>
   (app l9 [(⟨v12, v18.1⟩ : Seen)]).bind fun l19 =>
   Stream_SeenHubs_j1 n10 v18.2.L v18.2.at_ l19
  else
   Stream_SeenHubs_j1 n10 v13.2.L v13.2.at_ l9
 else
  Option.map .inr (Stream_SeenHubs_k3 l6 n7 l9)

def Stream_SeenHubs_l1 (l6 : List Int) (n7 : Int) (l9 : List Seen) (n10 : Int) : Option ((List Seen) × Fleetmake_Stream) :=
 iter (fun x : (List Int) × Int × (List Seen) × Int => Stream_SeenHubs_b1 x.1 x.2.1 x.2.2.1 x.2.2.2) (l6, n7, l9, n10)

def Stream_SeenHubs (p0x0 : Fleetmake_Stream) : Option ((List Seen) × Fleetmake_Stream) :=
 Stream_SeenHubs_l1 p0x0.L p0x0.at_ [] (0 : Int)

def Q_in_j1 (c1 : Bool) : Bool :=
 c1

def Q_in (p0x0 : Int) (p1x0 : Int) (p2x0 : Int) : Bool :=
 Q_in_j1 ((decide (p1x0 ≤ p0x0)) && (decide (p0x0 ≤ p2x0)))

def Q_Key_j1 (c1 : Bool) : Option Bool :=
 some c1

def Q_Key (p0x0 : Str) : Option Bool :=
 if (Q_in (p0x0.length : Int) (1 : Int) (40 : Int)) = true then
  (trimO p0x0 ([97, 98, 99, 100, 101, 102, 103, 104, 105, 106, 107, 108, 109, 110, 111, 112, 113, 114, 115, 116, 117, 118, 119, 120, 121, 122, 48, 49, 50, 51, 52, 53, 54, 55, 56, 57, 45, 95] : Str)).bind fun v2 =>
  if v2 = ([] : Str) then
   (idx p0x0 (0 : Int)).bind fun c3 =>
   Q_Key_j1 (decide ((0 : Int) ≤ (indexByteI ([97, 98, 99, 100, 101, 102, 103, 104, 105, 106, 107, 108, 109, 110, 111, 112, 113, 114, 115, 116, 117, 118, 119, 120, 121, 122] : Str) (c3.toNat : Int))))
  else
   Q_Key_j1 false
 else
  Q_Key_j1 false

def Q_ModelsFault_1x (p0x0 : Model) (p1x0 : Model) : Bool :=
 decide (p0x0.Prefix = p1x0.Prefix)

def slices_IndexFunc_Model_Model_b1 (p0x0 : List Model) (fnb : Model → Option Bool) (n2 : Int) : Option (Int ⊕ Int) :=
 if n2 < (p0x0.length : Int) then
  (idx p0x0 n2).bind fun v3 =>
  (fnb v3).bind fun v4 =>
  if v4 = true then
   Option.map .inr (some n2)
  else
   some (.inl (w64 (n2 + (1 : Int))))
 else
  Option.map .inr (some (-1 : Int))

def slices_IndexFunc_Model_Model_l1 (p0x0 : List Model) (fnb : Model → Option Bool) (n2 : Int) : Option Int :=
 iter (fun x : Int => slices_IndexFunc_Model_Model_b1 p0x0 fnb x) n2

def slices_IndexFunc_Model_Model (p0x0 : List Model) (fnb : Model → Option Bool) : Option Int :=
 slices_IndexFunc_Model_Model_l1 p0x0 fnb (0 : Int)

def slices_ContainsFunc_Model_Model (p0x0 : List Model) (fnb : Model → Option Bool) : Option Bool :=
 (slices_IndexFunc_Model_Model p0x0 fnb).bind fun v1 =>
 some (decide ((0 : Int) ≤ v1))

def Q_PropName_1x (p0x0 : Str) : Option Bool :=
 (Q_Key p0x0).bind fun v1 =>
 some (!v1)

def slices_IndexFunc_string_string_b1 (p0x0 : List Str) (fnb : Str → Option Bool) (n2 : Int) : Option (Int ⊕ Int) :=
 if n2 < (p0x0.length : Int) then
  (idx p0x0 n2).bind fun v3 =>
  (fnb v3).bind fun v4 =>
  if v4 = true then
   Option.map .inr (some n2)
  else
   some (.inl (w64 (n2 + (1 : Int))))
 else
  Option.map .inr (some (-1 : Int))

def slices_IndexFunc_string_string_l1 (p0x0 : List Str) (fnb : Str → Option Bool) (n2 : Int) : Option Int :=
 iter (fun x : Int => slices_IndexFunc_string_string_b1 p0x0 fnb x) n2

def slices_IndexFunc_string_string (p0x0 : List Str) (fnb : Str → Option Bool) : Option Int :=
 slices_IndexFunc_string_string_l1 p0x0 fnb (0 : Int)

def slices_ContainsFunc_string_string (p0x0 : List Str) (fnb : Str → Option Bool) : Option Bool :=
 (slices_IndexFunc_string_string p0x0 fnb).bind fun v1 =>
 some (decide ((0 : Int) ≤ v1))

def Q_PropName_j1 (c3 : Bool) : Option Bool :=
 some c3

def Q_PropName (p0x0 : Str) : Option Bool :=
 (splitO p0x0 ([46] : Str)).bind fun v1 =>
 if (p0x0.length : Int) ≤ (40 : Int) then
  if (v1.length : Int) ≤ (5 : Int) then
   (slices_ContainsFunc_string_string v1 (fun y0 => Q_PropName_1x y0)).bind fun v4 =>
   Q_PropName_j1 (!v4)
  else
   Q_PropName_j1 false
 else
  Q_PropName_j1 false

def Q_ModelsFault_j5 (n14 : Int) (c21 : Bool) : Option (Int ⊕ (Int ⊕ Int)) :=
 if c21 = true then
  Option.map .inr (Option.map .inr (some (3 : Int)))
 else
  some (.inl (w64 (n14 + (1 : Int))))

def Q_ModelsFault_j4 (n14 : Int) (v15 : PropType) (c20 : Bool) : Option (Int ⊕ (Int ⊕ Int)) :=
 if c20 = true then
  Option.map .inr (Option.map .inr (some (1 : Int)))
 else
  Q_ModelsFault_j5 n14 ((decide (¬ (v15.Kind = (2 : Int)))) && ((decide (v15.Low ≠ (0 : Int))) || (decide (v15.High ≠ (0 : Int)))))

def Q_ModelsFault_j3 (n14 : Int) (v15 : PropType) (c18 : Bool) : Option (Int ⊕ (Int ⊕ Int)) :=
 if c18 = true then
  Option.map .inr (Option.map .inr (some (7 : Int)))
 else
  if (!(Q_in v15.Kind (1 : Int) (3 : Int))) = true then
   Option.map .inr (Option.map .inr (some (4 : Int)))
  else
   Q_ModelsFault_j4 n14 v15 ((decide (v15.Kind = (2 : Int))) && ((!(Q_in v15.Low (-1000000000 : Int) v15.High)) || (decide ((1000000000 : Int) < v15.High))))

def Q_ModelsFault_b2 (n2 : Int) (v3 : Model) (n14 : Int) : Option (Int ⊕ (Int ⊕ Int)) :=
 if n14 < (v3.Props.length : Int) then
  (idx v3.Props n14).bind fun v15 =>
  (Q_PropName v15.Name).bind fun v17 =>
  if (!v17) = true then
   Option.map .inr (Option.map .inr (some (5 : Int)))
  else
   if (0 : Int) < n14 then
    (idx v3.Props (w64 (n14 - (1 : Int)))).bind fun v19 =>
    Q_ModelsFault_j3 n14 v15 (Op.bytesLess v15.Name v19.Name || v15.Name == v19.Name)
   else
    Q_ModelsFault_j3 n14 v15 false
 else
  Option.map .inr (some (.inl (w64 (n2 + (1 : Int)))))

def Q_ModelsFault_l2 (n2 : Int) (v3 : Model) (n14 : Int) : Option (Int ⊕ Int) :=
 iter (fun x : Int => Q_ModelsFault_b2 n2 v3 x) n14

def Q_ModelsFault_j2 (p0x0 : List Model) (n2 : Int) (v3 : Model) (c8 : Bool) : Option (Int ⊕ Int) :=
 if c8 = true then
  Option.map .inr (some (3 : Int))
 else
  (slc p0x0 (0 : Int) n2).bind fun l11 =>
  (slices_ContainsFunc_Model_Model l11 (fun y0 => some (Q_ModelsFault_1x y0 v3))).bind fun v12 =>
  if v12 = true then
   Option.map .inr (some (6 : Int))
  else
   if (50 : Int) < (v3.Props.length : Int) then
    Option.map .inr (some (2 : Int))
   else
    Q_ModelsFault_l2 n2 v3 (0 : Int)

def Q_ModelsFault_j1 (p0x0 : List Model) (n2 : Int) (v3 : Model) (c6 : Bool) : Option (Int ⊕ Int) :=
 if c6 = true then
  Option.map .inr (some (7 : Int))
 else
  if (!(Q_in (v3.Prefix.length : Int) (2 : Int) (4 : Int))) = true then
   Q_ModelsFault_j2 p0x0 n2 v3 true
  else
   (toUpperO ([97, 98, 99, 100, 101, 102, 103, 104, 105, 106, 107, 108, 109, 110, 111, 112, 113, 114, 115, 116, 117, 118, 119, 120, 121, 122] : Str)).bind fun v9 =>
   (trimO v3.Prefix v9).bind fun v10 =>
   Q_ModelsFault_j2 p0x0 n2 v3 (decide (v10 ≠ ([] : Str)))

def Q_ModelsFault_b1 (p0x0 : List Model) (n2 : Int) : Option (Int ⊕ Int) :=
 if n2 < (p0x0.length : Int) then
  (idx p0x0 n2).bind fun v3 =>
  (Q_Key v3.Key).bind fun v5 =>
  if (!v5) = true then
   Option.map .inr (some (5 : Int))
  else
   if (0 : Int) < n2 then
    (idx p0x0 (w64 (n2 - (1 : Int)))).bind fun v7 =>
    Q_ModelsFault_j1 p0x0 n2 v3 (Op.bytesLess v3.Key v7.Key || v3.Key == v7.Key)
   else
    Q_ModelsFault_j1 p0x0 n2 v3 false
 else
  Option.map .inr (some (0 : Int))

def Q_ModelsFault_l1 (p0x0 : List Model) (n2 : Int) : Option Int :=
 iter (fun x : Int => Q_ModelsFault_b1 p0x0 x) n2

def Q_ModelsFault (p0x0 : List Model) : Option Int :=
 if (50 : Int) < (p0x0.length : Int) then
  some (2 : Int)
 else
  Q_ModelsFault_l1 p0x0 (0 : Int)

def Q_MomentFault (p0x0 : Int) : Int :=
 if (!(Q_in p0x0 (0 : Int) (345686399999 : Int))) = true then
  (1 : Int)
 else
  (0 : Int)

def Q_modelAt_1x (p0x0 : Model) (p1x0 : Str) : Bool :=
 decide (p0x0.Key = p1x0)

def Q_modelAt (p0x0 : List Model) (p1x0 : Str) : Option Int :=
 (slices_IndexFunc_Model_Model p0x0 (fun y0 => some (Q_modelAt_1x y0 p1x0))).bind fun v2 =>
 some v2

def Q_publicKey_j1 (c1 : Bool) : Option Bool :=
 some c1

def Q_publicKey (p0x0 : Str) : Option Bool :=
 if (Q_in (p0x0.length : Int) (1 : Int) (64 : Int)) = true then
  (trimO p0x0 ([48, 49, 50, 51, 52, 53, 54, 55, 56, 57, 97, 98, 99, 100, 101, 102] : Str)).bind fun v2 =>
  Q_publicKey_j1 (decide (v2 = ([] : Str)))
 else
  Q_publicKey_j1 false

def Q_KeyFault (p0x0 : Str) : Option Int :=
 (Q_Key p0x0).bind fun v1 =>
 if (!v1) = true then
  some (5 : Int)
 else
  some (0 : Int)

def Q_versionRight_j1 (c2 : Bool) : Bool :=
 c2

def Q_versionRight (p0x0 : Version) : Bool :=
 Q_versionRight_j1 ((Q_in p0x0.Major (0 : Int) (9999 : Int)) && ((Q_in p0x0.Minor (0 : Int) (9999 : Int)) && (Q_in p0x0.Patch (0 : Int) (9999 : Int))))

def strings_Contains (p0x0 : Str) (p1x0 : Str) : Option Bool :=
 (indexO p0x0 p1x0).bind fun v1 =>
 some (decide ((0 : Int) ≤ v1))

def Q_plain_j1 (n2 : Int) (c4 : Bool) : Option (Int ⊕ Bool) :=
 if c4 = true then
  Option.map .inr (some false)
 else
  some (.inl (w64 (n2 + (1 : Int))))

def Q_plain_j2 (c5 : Bool) : Option Bool :=
 some c5

def Q_plain_k3 (p0x0 : Str) : Option Bool :=
 (validO p0x0).bind fun v6 =>
 if v6 = true then
  (trimO p0x0 ([32] : Str)).bind fun v7 =>
  if p0x0 = v7 then
   (strings_Contains p0x0 ([32, 32] : Str)).bind fun v8 =>
   Q_plain_j2 (!v8)
  else
   Q_plain_j2 false
 else
  Q_plain_j2 false

def Q_plain_b1 (p0x0 : Str) (n2 : Int) : Option (Int ⊕ Bool) :=
 if n2 < ((bytesI p0x0).length : Int) then
  (idx (bytesI p0x0) n2).bind fun v3 =>
  Q_plain_j1 n2 ((decide (v3 < (32 : Int))) || (decide (v3 = (127 : Int))))
 else
  Option.map .inr (Q_plain_k3 p0x0)

def Q_plain_l1 (p0x0 : Str) (n2 : Int) : Option Bool :=
 iter (fun x : Int => Q_plain_b1 p0x0 x) n2

def Q_plain (p0x0 : Str) : Option Bool :=
 Q_plain_l1 p0x0 (0 : Int)

def Q_eventOwn_j1 : Option Int :=
 some (0 : Int)

def Q_eventOwn_j2 : Option Int :=
 Q_eventOwn_j1

def Q_eventOwn_j3 : Option Int :=
 Q_eventOwn_j2

def Q_eventOwn_j4 : Option Int :=
 Q_eventOwn_j3

def Q_eventOwn_j5 (c7 : Bool) : Option Int :=
 if c7 = true then
  some (3 : Int)
 else
  Q_eventOwn_j4

def Q_eventOwn (p0x0 : List Model) (p1x0 : EventS) : Option Int :=
 if p1x0.Kind = (1 : Int) then
  (Q_modelAt p0x0 p1x0.Model).bind fun v2 =>
  if v2 < (0 : Int) then
   some (8 : Int)
  else
   if (!(Q_in p1x0.Serial (1 : Int) (99999999 : Int))) = true then
    some (1 : Int)
   else
    (Q_publicKey p1x0.Key).bind fun v3 =>
    if (!v3) = true then
     some (5 : Int)
    else
     Q_eventOwn_j1
 else
  if p1x0.Kind = (2 : Int) then
   (Q_KeyFault p1x0.Tenant).bind fun v4 =>
   some v4
  else
   if p1x0.Kind = (4 : Int) then
    (Q_publicKey p1x0.Key).bind fun v5 =>
    if (!v5) = true then
     some (5 : Int)
    else
     if (!(Q_in p1x0.Until p1x0.At (345686400000 : Int))) = true then
      some (1 : Int)
     else
      Q_eventOwn_j2
   else
    if p1x0.Kind = (5 : Int) then
     if (!(Q_versionRight p1x0.Firmware)) = true then
      some (1 : Int)
     else
      Q_eventOwn_j3
    else
     if p1x0.Kind = (6 : Int) then
      (Q_Key p1x0.Name).bind fun v6 =>
      if (!v6) = true then
       some (5 : Int)
      else
       (Q_plain p1x0.Value).bind fun v8 =>
       Q_eventOwn_j5 ((!v8) || (decide ((100 : Int) < (p1x0.Value.length : Int))))
     else
      Q_eventOwn_j4

def Q_eventUses (p0x0 : Int) : Option Str :=
 (idx [([] : Str), ([109, 115, 107] : Str), ([116] : Str), ([] : Str), ([107, 117] : Str), ([102] : Str), ([110, 118] : Str), ([] : Str), ([] : Str), ([] : Str)] p0x0).bind fun v1 =>
 some v1

def Q_EventFault_j2 (c9 : Bool) : Option (Unit ⊕ Int) :=
 if c9 = true then
  Option.map .inr (some (3 : Int))
 else
  some (.inl ())

def Q_EventFault_b1 (v6 : Str) (v1m : Str × Bool) : Option (Unit ⊕ Int) :=
 if v1m.2 = true then
  (strings_Contains v6 v1m.1).bind fun v10 =>
  Q_EventFault_j2 (!v10)
 else
  Q_EventFault_j2 false

def Q_EventFault_f1 : Option Int :=
 some (0 : Int)

def Q_EventFault_l1 (p1x0 : EventS) (v6 : Str) : Option Int :=
 overP ([(([109] : Str), decide (p1x0.Model ≠ ([] : Str))), (([115] : Str), decide (p1x0.Serial ≠ (0 : Int))), (([107] : Str), decide (p1x0.Key ≠ ([] : Str))), (([116] : Str), decide (p1x0.Tenant ≠ ([] : Str))), (([117] : Str), decide (p1x0.Until ≠ (0 : Int))), (([102] : Str), decide (p1x0.Firmware ≠ (⟨(0 : Int), (0 : Int), (0 : Int)⟩ : Version))), (([110] : Str), decide (p1x0.Name ≠ ([] : Str))), (([118] : Str), decide (p1x0.Value ≠ ([] : Str)))] : List (Str × Bool)) (fun p => loopL (fun e (x : Unit) => Q_EventFault_b1 v6 e) (fun x : Unit => Q_EventFault_f1) p ())

def Q_EventFault_j1 (p0x0 : List Model) (p1x0 : EventS) (c3 : Bool) : Option Int :=
 if c3 = true then
  some (1 : Int)
 else
  if (!(Q_in p1x0.Kind (1 : Int) (9 : Int))) = true then
   some (4 : Int)
  else
   (Q_Key p1x0.Device).bind fun v4 =>
   if (!v4) = true then
    some (5 : Int)
   else
    (Q_eventOwn p0x0 p1x0).bind fun v5 =>
    if v5 ≠ (0 : Int) then
     some v5
    else
     (Q_eventUses p1x0.Kind).bind fun v6 =>
     Q_EventFault_l1 p1x0 v6

def Q_EventFault (p0x0 : List Model) (p1x0 : EventS) : Option Int :=
 (Q_Key p1x0.Hub).bind fun v2 =>
 if (!v2) = true then
  some (5 : Int)
 else
  Q_EventFault_j1 p0x0 p1x0 ((!(Q_in p1x0.No (1 : Int) (3000 : Int))) || ((!(Q_in p1x0.Clock p1x0.No (1000000000 : Int))) || (decide ((Q_MomentFault p1x0.At) ≠ (0 : Int)))))

def Q_EventsFault_j1 (l4 : List (Str × Int)) (n5 : Int) (v6 : EventS) (c9 : Bool) : Option (((List (Str × Int)) × Int) ⊕ Int) :=
 if c9 = true then
  Option.map .inr (some (7 : Int))
 else
  (mgetO l4 v6.Hub (0 : Int)).bind fun v12 =>
  if v6.No ≠ (w64 (v12 + (1 : Int))) then
   Option.map .inr (some (16 : Int))
  else
   some (.inl (mset l4 v6.Hub v6.No, w64 (n5 + (1 : Int))))

def Q_EventsFault_k2 (l4 : List (Str × Int)) : Option Int :=
 if (20 : Int) < (l4.length : Int) then
  some (2 : Int)
 else
  some (0 : Int)

def Q_EventsFault_b1 (p0x0 : List Model) (p1x0 : List EventS) (l4 : List (Str × Int)) (n5 : Int) : Option (((List (Str × Int)) × Int) ⊕ Int) :=
 if n5 < (p1x0.length : Int) then
  (idx p1x0 n5).bind fun v6 =>
  (Q_EventFault p0x0 v6).bind fun v8 =>
  if v8 ≠ (0 : Int) then
   Option.map .inr (some v8)
  else
   if (0 : Int) < n5 then
    (idx p1x0 (w64 (n5 - (1 : Int)))).bind fun v10 =>
    (Q_EventOrder v10 v6).bind fun v11 =>
    Q_EventsFault_j1 l4 n5 v6 (decide ((0 : Int) ≤ v11))
   else
    Q_EventsFault_j1 l4 n5 v6 false
 else
  Option.map .inr (Q_EventsFault_k2 l4)

def Q_EventsFault_l1 (p0x0 : List Model) (p1x0 : List EventS) (l4 : List (Str × Int)) (n5 : Int) : Option Int :=
 iter (fun x : (List (Str × Int)) × Int => Q_EventsFault_b1 p0x0 p1x0 x.1 x.2) (l4, n5)

def Q_EventsFault (p0x0 : List Model) (p1x0 : List EventS) : Option Int :=
 if (3000 : Int) < (p1x0.length : Int) then
  some (2 : Int)
 else
  Q_EventsFault_l1 p0x0 p1x0 [] (0 : Int)

def cmp_Or_Errno_b1 (p0x0 : List Int) (n2 : Int) : Option (Int ⊕ Int) :=
 if n2 < (p0x0.length : Int) then
  (idx p0x0 n2).bind fun v3 =>
  if v3 ≠ (0 : Int) then
   Option.map .inr (some v3)
  else
   some (.inl (w64 (n2 + (1 : Int))))
 else
  Option.map .inr (some (0 : Int))

def cmp_Or_Errno_l1 (p0x0 : List Int) (n2 : Int) : Option Int :=
 iter (fun x : Int => cmp_Or_Errno_b1 p0x0 x) n2

def cmp_Or_Errno (p0x0 : List Int) : Option Int :=
 cmp_Or_Errno_l1 p0x0 (0 : Int)

def base_Key_j2 (n5 : Int) (c7 : Bool) : Option (Int ⊕ Bool) :=
 if c7 = true then
  Option.map .inr (some false)
 else
  some (.inl (w64 (n5 + (1 : Int))))

def base_Key_b1 (p0x0 : Str) (n5 : Int) : Option (Int ⊕ Bool) :=
 if n5 < (p0x0.length : Int) then
  (idx p0x0 n5).bind fun c6 =>
  base_Key_j2 n5 (if (97 : Int) ≤ (c6.toNat : Int) then if (c6.toNat : Int) ≤ (122 : Int) then !true else if (48 : Int) ≤ (c6.toNat : Int) then if (c6.toNat : Int) ≤ (57 : Int) then !true else if (c6.toNat : Int) = (45 : Int) then !true else decide (¬ ((c6.toNat : Int) = (95 : Int))) else if (c6.toNat : Int) = (45 : Int) then !true else decide (¬ ((c6.toNat : Int) = (95 : Int))) else if (48 : Int) ≤ (c6.toNat : Int) then if (c6.toNat : Int) ≤ (57 : Int) then !true else if (c6.toNat : Int) = (45 : Int) then !true else decide (¬ ((c6.toNat : Int) = (95 : Int))) else if (c6.toNat : Int) = (45 : Int) then !true else decide (¬ ((c6.toNat : Int) = (95 : Int))))
 else
  Option.map .inr (some true)

def base_Key_l1 (p0x0 : Str) (n5 : Int) : Option Bool :=
 iter (fun x : Int => base_Key_b1 p0x0 x) n5

def base_Key_j1 (p0x0 : Str) (c1 : Bool) : Option Bool :=
 if c1 = true then
  some false
 else
  base_Key_l1 p0x0 (0 : Int)

def base_Key (p0x0 : Str) : Option Bool :=
 if p0x0 = ([] : Str) then
  base_Key_j1 p0x0 true
 else
  if (40 : Int) < (p0x0.length : Int) then
   base_Key_j1 p0x0 true
  else
   (idx p0x0 (0 : Int)).bind fun c2 =>
   if (c2.toNat : Int) < (97 : Int) then
    base_Key_j1 p0x0 true
   else
    (idx p0x0 (0 : Int)).bind fun c3 =>
    base_Key_j1 p0x0 (decide ((122 : Int) < (c3.toNat : Int)))

def base_Out_j1 (c1 : Bool) : Bool :=
 c1

def base_Out (p0x0 : Int) (p1x0 : Int) (p2x0 : Int) : Bool :=
 base_Out_j1 ((decide (p0x0 < p1x0)) || (decide (p2x0 < p0x0)))

def device_isPrefix_j1 (c1 : Bool) : Option Bool :=
 some c1

def device_isPrefix (p0x0 : Str) : Option Bool :=
 if (!(base_Out (p0x0.length : Int) (2 : Int) (4 : Int))) = true then
  (trimO p0x0 ([65, 66, 67, 68, 69, 70, 71, 72, 73, 74, 75, 76, 77, 78, 79, 80, 81, 82, 83, 84, 85, 86, 87, 88, 89, 90] : Str)).bind fun v2 =>
  device_isPrefix_j1 (decide (v2 = ([] : Str)))
 else
  device_isPrefix_j1 false

def device_CheckModels_1x (p0x0 : Model) (p1x0 : Model) : Bool :=
 decide (p0x0.Prefix = p1x0.Prefix)

def base_Dotted_b1 (p1x0 : Int) (q3 : Str) (n4 : Int) : Option ((Str × Int) ⊕ Bool) :=
 if n4 < p1x0 then
  (cutO q3 ([46] : Str)).bind fun v5 =>
  (base_Key v5.1).bind fun v6 =>
  if (!v6) = true then
   Option.map .inr (some false)
  else
   if (!v5.2.2) = true then
    Option.map .inr (some true)
   else
    some (.inl (v5.2.1, w64 (n4 + (1 : Int))))
 else
  Option.map .inr (some false)

def base_Dotted_l1 (p1x0 : Int) (q3 : Str) (n4 : Int) : Option Bool :=
 iter (fun x : Str × Int => base_Dotted_b1 p1x0 x.1 x.2) (q3, n4)

def base_Dotted (p0x0 : Str) (p1x0 : Int) : Option Bool :=
 base_Dotted_l1 p1x0 p0x0 (0 : Int)

def item_Property_j1 (c1 : Bool) : Option Bool :=
 some c1

def item_Property (p0x0 : Str) : Option Bool :=
 if (p0x0.length : Int) ≤ (40 : Int) then
  (base_Dotted p0x0 (5 : Int)).bind fun v2 =>
  item_Property_j1 v2
 else
  item_Property_j1 false

def device_typesFault_j3 (n2 : Int) (c9 : Bool) : Option (Int ⊕ Int) :=
 if c9 = true then
  Option.map .inr (some (3 : Int))
 else
  some (.inl (w64 (n2 + (1 : Int))))

def device_typesFault_j2 (n2 : Int) (v3 : PropType) (c8 : Bool) : Option (Int ⊕ Int) :=
 if c8 = true then
  Option.map .inr (some (1 : Int))
 else
  device_typesFault_j3 n2 ((decide (¬ (v3.Kind = (2 : Int)))) && ((decide (v3.Low ≠ (0 : Int))) || (decide (v3.High ≠ (0 : Int)))))

def device_typesFault_j1 (n2 : Int) (v3 : PropType) (c6 : Bool) : Option (Int ⊕ Int) :=
 if c6 = true then
  Option.map .inr (some (7 : Int))
 else
  if (base_Out v3.Kind (1 : Int) (3 : Int)) = true then
   Option.map .inr (some (4 : Int))
  else
   device_typesFault_j2 n2 v3 ((decide (v3.Kind = (2 : Int))) && ((base_Out v3.Low (-1000000000 : Int) v3.High) || (decide ((1000000000 : Int) < v3.High))))

def device_typesFault_b1 (p0x0 : List PropType) (n2 : Int) : Option (Int ⊕ Int) :=
 if n2 < (p0x0.length : Int) then
  (idx p0x0 n2).bind fun v3 =>
  (item_Property v3.Name).bind fun v5 =>
  if (!v5) = true then
   Option.map .inr (some (5 : Int))
  else
   if (0 : Int) < n2 then
    (idx p0x0 (w64 (n2 - (1 : Int)))).bind fun v7 =>
    device_typesFault_j1 n2 v3 (Op.bytesLess v3.Name v7.Name || v3.Name == v7.Name)
   else
    device_typesFault_j1 n2 v3 false
 else
  Option.map .inr (some (0 : Int))

def device_typesFault_l1 (p0x0 : List PropType) (n2 : Int) : Option Int :=
 iter (fun x : Int => device_typesFault_b1 p0x0 x) n2

def device_typesFault (p0x0 : List PropType) : Option Int :=
 device_typesFault_l1 p0x0 (0 : Int)

def device_CheckModels_j1 (p0x0 : List Model) (n2 : Int) (v3 : Model) (c6 : Bool) : Option (Int ⊕ Int) :=
 if c6 = true then
  Option.map .inr (some (7 : Int))
 else
  (device_isPrefix v3.Prefix).bind fun v8 =>
  if (!v8) = true then
   Option.map .inr (some (3 : Int))
  else
   (slc p0x0 (0 : Int) n2).bind fun l9 =>
   (slices_ContainsFunc_Model_Model l9 (fun y0 => some (device_CheckModels_1x y0 v3))).bind fun v10 =>
   if v10 = true then
    Option.map .inr (some (6 : Int))
   else
    if (50 : Int) < (v3.Props.length : Int) then
     Option.map .inr (some (2 : Int))
    else
     (device_typesFault v3.Props).bind fun v11 =>
     if v11 ≠ (0 : Int) then
      Option.map .inr (some v11)
     else
      some (.inl (w64 (n2 + (1 : Int))))

def device_CheckModels_b1 (p0x0 : List Model) (n2 : Int) : Option (Int ⊕ Int) :=
 if n2 < (p0x0.length : Int) then
  (idx p0x0 n2).bind fun v3 =>
  (base_Key v3.Key).bind fun v5 =>
  if (!v5) = true then
   Option.map .inr (some (5 : Int))
  else
   if (0 : Int) < n2 then
    (idx p0x0 (w64 (n2 - (1 : Int)))).bind fun v7 =>
    device_CheckModels_j1 p0x0 n2 v3 (Op.bytesLess v3.Key v7.Key || v3.Key == v7.Key)
   else
    device_CheckModels_j1 p0x0 n2 v3 false
 else
  Option.map .inr (some (0 : Int))

def device_CheckModels_l1 (p0x0 : List Model) (n2 : Int) : Option Int :=
 iter (fun x : Int => device_CheckModels_b1 p0x0 x) n2

def device_CheckModels (p0x0 : List Model) : Option Int :=
 if (50 : Int) < (p0x0.length : Int) then
  some (2 : Int)
 else
  device_CheckModels_l1 p0x0 (0 : Int)

def base_Moment (p0x0 : Int) : Bool :=
 !(base_Out p0x0 (0 : Int) (345686399999 : Int))

def device_model_1x (p0x0 : Model) (p1x0 : Str) : Bool :=
 decide (p0x0.Key = p1x0)

def device_model (p0x0 : List Model) (p1x0 : Str) : Option Int :=
 (slices_IndexFunc_Model_Model p0x0 (fun y0 => some (device_model_1x y0 p1x0))).bind fun v2 =>
 some v2

def device_kindFault_1x_j2 (n2 : Int) : Int :=
 n2

def device_kindFault_1x_j1 (p1x0 : Int) (p2x0 : Int) (c1 : Bool) : Int :=
 if c1 = true then
  device_kindFault_1x_j2 p1x0
 else
  device_kindFault_1x_j2 p2x0

def device_kindFault_1x (p0x0 : Bool) (p1x0 : Int) (p2x0 : Int) : Int :=
 device_kindFault_1x_j1 p1x0 p2x0 (p0x0 && (decide (p2x0 = (0 : Int))))

def device_isDeviceKey_j1 (c1 : Bool) : Option Bool :=
 some c1

def device_isDeviceKey (p0x0 : Str) : Option Bool :=
 if (!(base_Out (p0x0.length : Int) (1 : Int) (64 : Int))) = true then
  (trimO p0x0 ([48, 49, 50, 51, 52, 53, 54, 55, 56, 57, 97, 98, 99, 100, 101, 102] : Str)).bind fun v2 =>
  device_isDeviceKey_j1 (decide (v2 = ([] : Str)))
 else
  device_isDeviceKey_j1 false

def base_Version_j1 (c2 : Bool) : Bool :=
 c2

def base_Version (p0x0 : Version) : Bool :=
 base_Version_j1 ((!(base_Out p0x0.Major (0 : Int) (9999 : Int))) && ((!(base_Out p0x0.Minor (0 : Int) (9999 : Int))) && (!(base_Out p0x0.Patch (0 : Int) (9999 : Int)))))

def base_Unmarked_j1 (n2 : Int) (c3 : Bool) : Option (Int ⊕ Bool) :=
 if c3 = true then
  Option.map .inr (some false)
 else
  some (.inl (w64 (n2 + (1 : Int))))

def base_Unmarked_k2 (p0x0 : Str) : Option Bool :=
 (validO p0x0).bind fun v6 =>
 some v6

def base_Unmarked_b1 (p0x0 : Str) (n2 : Int) : Option (Int ⊕ Bool) :=
 if n2 < (p0x0.length : Int) then
  (idx p0x0 n2).bind fun c4 =>
  if (c4.toNat : Int) < (32 : Int) then
   base_Unmarked_j1 n2 true
  else
   (idx p0x0 n2).bind fun c5 =>
   base_Unmarked_j1 n2 (decide ((c5.toNat : Int) = (127 : Int)))
 else
  Option.map .inr (base_Unmarked_k2 p0x0)

def base_Unmarked_l1 (p0x0 : Str) (n2 : Int) : Option Bool :=
 iter (fun x : Int => base_Unmarked_b1 p0x0 x) n2

def base_Unmarked (p0x0 : Str) : Option Bool :=
 base_Unmarked_l1 p0x0 (0 : Int)

def internal_stringslite_HasPrefix_j1 (c1 : Bool) : Option Bool :=
 some c1

def internal_stringslite_HasPrefix (p0x0 : Str) (p1x0 : Str) : Option Bool :=
 if (p1x0.length : Int) ≤ (p0x0.length : Int) then
  (slc p0x0 (0 : Int) (p1x0.length : Int)).bind fun l2 =>
  internal_stringslite_HasPrefix_j1 (decide (l2 = p1x0))
 else
  internal_stringslite_HasPrefix_j1 false

def strings_HasPrefix (p0x0 : Str) (p1x0 : Str) : Option Bool :=
 (internal_stringslite_HasPrefix p0x0 p1x0).bind fun v1 =>
 some v1

def internal_stringslite_HasSuffix_j1 (c1 : Bool) : Option Bool :=
 some c1

def internal_stringslite_HasSuffix (p0x0 : Str) (p1x0 : Str) : Option Bool :=
 if (p1x0.length : Int) ≤ (p0x0.length : Int) then
  (slc p0x0 (w64 ((p0x0.length : Int) - (p1x0.length : Int))) (p0x0.length : Int)).bind fun l2 =>
  internal_stringslite_HasSuffix_j1 (decide (l2 = p1x0))
 else
  internal_stringslite_HasSuffix_j1 false

def strings_HasSuffix (p0x0 : Str) (p1x0 : Str) : Option Bool :=
 (internal_stringslite_HasSuffix p0x0 p1x0).bind fun v1 =>
 some v1

def base_Plain_j1 (c1 : Bool) : Option Bool :=
 some c1

def base_Plain (p0x0 : Str) : Option Bool :=
 (base_Unmarked p0x0).bind fun v2 =>
 if v2 = true then
  (strings_HasPrefix p0x0 ([32] : Str)).bind fun v3 =>
  if (!v3) = true then
   (strings_HasSuffix p0x0 ([32] : Str)).bind fun v4 =>
   if (!v4) = true then
    (strings_Contains p0x0 ([32, 32] : Str)).bind fun v5 =>
    base_Plain_j1 (!v5)
   else
    base_Plain_j1 false
  else
   base_Plain_j1 false
 else
  base_Plain_j1 false

def device_kindFault_j1 (p1x0 : EventS) (q4 : Str) (q5 : Str) (n6 : Int) (q7 : Str) (q8 : Str) (q9 : Str) (n10 : Int) (n11 : Int) (n12 : Int) (n13 : Int) (n14 : Int) : Option (EventS × Int) :=
 some ((⟨p1x0.Hub, p1x0.No, p1x0.Clock, p1x0.At, p1x0.Kind, p1x0.Device, q4, q5, n6, q7, q8, q9, n10, (⟨n11, n12, n13⟩ : Version)⟩ : EventS), n14)

def device_kindFault_j2 (p1x0 : EventS) (q17 : Str) (q18 : Str) (q19 : Str) (q20 : Str) (n21 : Int) (n22 : Int) (n23 : Int) (n24 : Int) (n25 : Int) : Option (EventS × Int) :=
 device_kindFault_j1 p1x0 [] q17 (0 : Int) q18 q19 q20 n21 n22 n23 n24 n25

def device_kindFault_j3 (p1x0 : EventS) (q27 : Str) (q28 : Str) (q29 : Str) (n30 : Int) (n31 : Int) (n32 : Int) (n33 : Int) (n34 : Int) : Option (EventS × Int) :=
 device_kindFault_j2 p1x0 [] q27 q28 q29 n30 n31 n32 n33 n34

def device_kindFault_j4 (p1x0 : EventS) (q36 : Str) (q37 : Str) (n38 : Int) (n39 : Int) (n40 : Int) (n41 : Int) : Option (EventS × Int) :=
 device_kindFault_j3 p1x0 [] q36 q37 (0 : Int) n38 n39 n40 n41

def device_kindFault_j5 (p1x0 : EventS) (q42 : Str) (q43 : Str) (n44 : Int) : Option (EventS × Int) :=
 device_kindFault_j4 p1x0 q42 q43 (0 : Int) (0 : Int) (0 : Int) n44

def device_kindFault_j6 (p1x0 : EventS) (n46 : Int) : Option (EventS × Int) :=
 device_kindFault_j5 p1x0 p1x0.Name p1x0.Value n46

def device_kindFault (p0x0 : List Model) (p1x0 : EventS) : Option (EventS × Int) :=
 if p1x0.Kind = (1 : Int) then
  (device_model p0x0 p1x0.Model).bind fun v15 =>
  (device_isDeviceKey p1x0.Key).bind fun v16 =>
  device_kindFault_j1 p1x0 p1x0.Model [] p1x0.Serial p1x0.Key [] [] (0 : Int) (0 : Int) (0 : Int) (0 : Int) (device_kindFault_1x (!v16) (5 : Int) (device_kindFault_1x (base_Out p1x0.Serial (1 : Int) (99999999 : Int)) (1 : Int) (device_kindFault_1x (decide (v15 < (0 : Int))) (8 : Int) (0 : Int))))
 else
  if p1x0.Kind = (2 : Int) then
   (base_Key p1x0.Tenant).bind fun v26 =>
   device_kindFault_j2 p1x0 p1x0.Tenant [] [] [] (0 : Int) (0 : Int) (0 : Int) (0 : Int) (device_kindFault_1x (!v26) (5 : Int) (0 : Int))
  else
   if p1x0.Kind = (4 : Int) then
    (device_isDeviceKey p1x0.Key).bind fun v35 =>
    device_kindFault_j3 p1x0 p1x0.Key [] [] p1x0.Until (0 : Int) (0 : Int) (0 : Int) (device_kindFault_1x (base_Out p1x0.Until p1x0.At (345686400000 : Int)) (1 : Int) (device_kindFault_1x (!v35) (5 : Int) (0 : Int)))
   else
    if p1x0.Kind = (5 : Int) then
     device_kindFault_j4 p1x0 [] [] p1x0.Firmware.Major p1x0.Firmware.Minor p1x0.Firmware.Patch (device_kindFault_1x (!(base_Version p1x0.Firmware)) (1 : Int) (0 : Int))
    else
     if p1x0.Kind = (6 : Int) then
      (base_Key p1x0.Name).bind fun v45 =>
      if (100 : Int) < (p1x0.Value.length : Int) then
       device_kindFault_j6 p1x0 (device_kindFault_1x true (3 : Int) (device_kindFault_1x (!v45) (5 : Int) (0 : Int)))
      else
       (base_Plain p1x0.Value).bind fun v47 =>
       device_kindFault_j6 p1x0 (device_kindFault_1x (!v47) (3 : Int) (device_kindFault_1x (!v45) (5 : Int) (0 : Int)))
     else
      device_kindFault_j5 p1x0 [] [] (0 : Int)

def device_eventFault_j3 (n8 : Int) : Option Int :=
 some n8

def device_eventFault_j2 (v5 : EventS × Int) (c7 : Bool) : Option Int :=
 if c7 = true then
  device_eventFault_j3 (3 : Int)
 else
  device_eventFault_j3 v5.2

def device_eventFault_j1 (p0x0 : List Model) (p1x0 : EventS) (c3 : Bool) : Option Int :=
 if c3 = true then
  some (1 : Int)
 else
  if (base_Out p1x0.Kind (1 : Int) (9 : Int)) = true then
   some (4 : Int)
  else
   (base_Key p1x0.Device).bind fun v4 =>
   if (!v4) = true then
    some (5 : Int)
   else
    (device_kindFault p0x0 p1x0).bind fun v5 =>
    device_eventFault_j2 v5 ((decide (v5.2 = (0 : Int))) && (decide (v5.1 ≠ p1x0)))

def device_eventFault (p0x0 : List Model) (p1x0 : EventS) : Option Int :=
 (base_Key p1x0.Hub).bind fun v2 =>
 if (!v2) = true then
  some (5 : Int)
 else
  device_eventFault_j1 p0x0 p1x0 ((base_Out p1x0.No (1 : Int) (3000 : Int)) || ((base_Out p1x0.Clock p1x0.No (1000000000 : Int)) || (!(base_Moment p1x0.At))))

def device_byClock (p0x0 : EventS) (p1x0 : EventS) : Option Int :=
 (cmp_Or_int [(cmp_Compare_int p0x0.Clock p1x0.Clock), (Lib.compareBytes p0x0.Hub p1x0.Hub), (cmp_Compare_int p0x0.No p1x0.No)]).bind fun v3 =>
 some v3

def device_listFault_j1 (l4 : List (Str × Int)) (n5 : Int) (v6 : EventS) (c9 : Bool) : Option (((List (Str × Int)) × Int) ⊕ Int) :=
 if c9 = true then
  Option.map .inr (some (7 : Int))
 else
  (mgetO l4 v6.Hub (0 : Int)).bind fun v12 =>
  if v6.No ≠ (w64 (v12 + (1 : Int))) then
   Option.map .inr (some (16 : Int))
  else
   some (.inl (mset l4 v6.Hub v6.No, w64 (n5 + (1 : Int))))

def device_listFault_k2 (l4 : List (Str × Int)) : Option Int :=
 if (20 : Int) < (l4.length : Int) then
  some (2 : Int)
 else
  some (0 : Int)

def device_listFault_b1 (p0x0 : List Model) (p1x0 : List EventS) (l4 : List (Str × Int)) (n5 : Int) : Option (((List (Str × Int)) × Int) ⊕ Int) :=
 if n5 < (p1x0.length : Int) then
  (idx p1x0 n5).bind fun v6 =>
  (device_eventFault p0x0 v6).bind fun v8 =>
  if v8 ≠ (0 : Int) then
   Option.map .inr (some v8)
  else
   if (0 : Int) < n5 then
    (idx p1x0 (w64 (n5 - (1 : Int)))).bind fun v10 =>
    (device_byClock v10 v6).bind fun v11 =>
    device_listFault_j1 l4 n5 v6 (decide ((0 : Int) ≤ v11))
   else
    device_listFault_j1 l4 n5 v6 false
 else
  Option.map .inr (device_listFault_k2 l4)

def device_listFault_l1 (p0x0 : List Model) (p1x0 : List EventS) (l4 : List (Str × Int)) (n5 : Int) : Option Int :=
 iter (fun x : (List (Str × Int)) × Int => device_listFault_b1 p0x0 p1x0 x.1 x.2) (l4, n5)

def device_listFault (p0x0 : List Model) (p1x0 : List EventS) : Option Int :=
 if (3000 : Int) < (p1x0.length : Int) then
  some (2 : Int)
 else
  device_listFault_l1 p0x0 p1x0 [] (0 : Int)

def device_CheckEvents (p0x0 : List Model) (p1x0 : List EventS) : Option Int :=
 (device_CheckModels p0x0).bind fun v1 =>
 if v1 ≠ (0 : Int) then
  some v1
 else
  (device_listFault p0x0 p1x0).bind fun v2 =>
  some v2

def base_First_b1 (p0x0 : List Int) (n2 : Int) : Option (Int ⊕ Int) :=
 if n2 < (p0x0.length : Int) then
  (idx p0x0 n2).bind fun v3 =>
  if v3 ≠ (0 : Int) then
   Option.map .inr (some v3)
  else
   some (.inl (w64 (n2 + (1 : Int))))
 else
  Option.map .inr (some (0 : Int))

def base_First_l1 (p0x0 : List Int) (n2 : Int) : Option Int :=
 iter (fun x : Int => base_First_b1 p0x0 x) n2

def base_First (p0x0 : List Int) : Option Int :=
 base_First_l1 p0x0 (0 : Int)

def slices_Grow_Event_Event_n0x_j1 (l2 : List EventS) : Option (List EventS) :=
 some l2

def slices_Grow_Event_Event_n0x (p1x0 : Int) : Option (List EventS) :=
 if p1x0 < (0 : Int) then
  none
 else
  if (0 : Int) < (w64 (p1x0 - (w64 ((0 : Int) - (0 : Int))))) then
   (slc ([] : List EventS) (0 : Int) (0 : Int)).bind fun l3 =>
   (mkS (⟨[], (0 : Int), (0 : Int), (0 : Int), (0 : Int), [], [], [], (0 : Int), [], [], [], (0 : Int), (⟨(0 : Int), (0 : Int), (0 : Int)⟩ : Version)⟩ : EventS) (w64 (p1x0 - (w64 ((0 : Int) - (0 : Int))))) (w64 (p1x0 - (w64 ((0 : Int) - (0 : Int)))))).bind fun l4 =>
   (slc l4 (0 : Int) (0 : Int)).bind fun l6 =>
   slices_Grow_Event_Event_n0x_j1 l6
  else
   slices_Grow_Event_Event_n0x_j1 []

def slices_Concat_Event_Event_b2 (p0x0 : List (List EventS)) (l12 : List EventS) (n13 : Int) : Option (((List EventS) × Int) ⊕ (List EventS)) :=
 if n13 < (p0x0.length : Int) then
  (idx p0x0 n13).bind fun v14 =>
  (app l12 v14).bind fun l15 =>
  some (.inl (l15, w64 (n13 + (1 : Int))))
 else
  Option.map .inr (some l12)

def slices_Concat_Event_Event_l2 (p0x0 : List (List EventS)) (l12 : List EventS) (n13 : Int) : Option (List EventS) :=
 iter (fun x : (List EventS) × Int => slices_Concat_Event_Event_b2 p0x0 x.1 x.2) (l12, n13)

def slices_Concat_Event_Event_k1 (p0x0 : List (List EventS)) (n3 : Int) : Option (List EventS) :=
 (slices_Grow_Event_Event_n0x n3).bind fun v6 =>
 slices_Concat_Event_Event_l2 p0x0 v6 (0 : Int)

def slices_Concat_Event_Event_b1 (p0x0 : List (List EventS)) (n3 : Int) (n4 : Int) : Option ((Int × Int) ⊕ (List EventS)) :=
 if n4 < (p0x0.length : Int) then
  (idx p0x0 n4).bind fun v5 =>
  if (w64 (n3 + (v5.length : Int))) < (0 : Int) then
   none
  else
   some (.inl (w64 (n3 + (v5.length : Int)), w64 (n4 + (1 : Int))))
 else
  Option.map .inr (slices_Concat_Event_Event_k1 p0x0 n3)

def slices_Concat_Event_Event_l1 (p0x0 : List (List EventS)) (n3 : Int) (n4 : Int) : Option (List EventS) :=
 iter (fun x : Int × Int => slices_Concat_Event_Event_b1 p0x0 x.1 x.2) (n3, n4)

def slices_Concat_Event_Event (p0x0 : List (List EventS)) : Option (List EventS) :=
 slices_Concat_Event_Event_l1 p0x0 (0 : Int) (0 : Int)

def device_put_o1x (p0x0 : List (Device_place × EventS)) (p1x0 : List EventS) (p2x0 : EventS) : Option ((List EventS) × Int × (List (Device_place × EventS))) :=
 (mget2 p0x0 (⟨p2x0.Hub, p2x0.No⟩ : Device_place) (⟨[], (0 : Int), (0 : Int), (0 : Int), (0 : Int), [], [], [], (0 : Int), [], [], [], (0 : Int), (⟨(0 : Int), (0 : Int), (0 : Int)⟩ : Version)⟩ : EventS)).bind fun v3 =>
 if (!v3.2) = true then
  (app p1x0 [p2x0]).bind fun l5 =>
  some (l5, (0 : Int), mset p0x0 (⟨p2x0.Hub, p2x0.No⟩ : Device_place) p2x0)
 else
  if v3.1 ≠ p2x0 then
   some ([], (13 : Int), p0x0)
  else
   some (p1x0, (0 : Int), p0x0)

/-- Sorted by Go. -/
def slices_SortFunc_Event_Event (p0x0 : List EventS) (fnb : EventS → EventS → Option Int) : Option (List EventS) :=
 sortO fnb p0x0

def device_sorted (p0x0 : List Model) (p1x0 : List EventS) : Option ((List EventS) × Int) :=
 (lenOk p1x0.length (fun r : (List EventS) => r.length) (slices_SortFunc_Event_Event p1x0 (fun y0 y1 => device_byClock y0 y1))).bind fun v1 =>
 (device_listFault p0x0 v1).bind fun v2 =>
 if v2 ≠ (0 : Int) then
  some ([], v2)
 else
  some (v1, (0 : Int))

def device_Merge_k1 (p0x0 : List Model) (l14 : List EventS) : Option ((List EventS) × Int) :=
 (device_sorted p0x0 l14).bind fun v22 =>
 some (v22.1, v22.2)

def device_Merge_b1 (p0x0 : List Model) (v6 : (List EventS)) (l12 : List (Device_place × EventS)) (l14 : List EventS) (n15 : Int) : Option (((List (Device_place × EventS)) × (List EventS) × Int) ⊕ ((List EventS) × Int)) :=
 if n15 < (v6.length : Int) then
  (idx v6 n15).bind fun v17 =>
  (device_put_o1x l12 l14 v17).bind fun v19 =>
  if v19.2.1 ≠ (0 : Int) then
   Option.map .inr (some ([], v19.2.1))
  else
   some (.inl (v19.2.2, v19.1, w64 (n15 + (1 : Int))))
 else
  Option.map .inr (device_Merge_k1 p0x0 l14)

def device_Merge_l1 (p0x0 : List Model) (v6 : (List EventS)) (l12 : List (Device_place × EventS)) (l14 : List EventS) (n15 : Int) : Option ((List EventS) × Int) :=
 iter (fun x : (List (Device_place × EventS)) × (List EventS) × Int => device_Merge_b1 p0x0 v6 x.1 x.2.1 x.2.2) (l12, l14, n15)

def device_Merge (p0x0 : List Model) (p1x0 : List EventS) (p2x0 : List EventS) : Option ((List EventS) × Int) :=
 (device_CheckEvents p0x0 p1x0).bind fun v1 =>
 (device_listFault p0x0 p2x0).bind fun v2 =>
 (base_First [v1, v2]).bind fun v3 =>
 if v3 ≠ (0 : Int) then
  some ([], v3)
 else
  (slices_Concat_Event_Event [p1x0, p2x0]).bind fun v6 =>
  device_Merge_l1 p0x0 v6 [] [] (0 : Int)

def device_known_b1 (p0x0 : List EventS) (l4 : List (Str × Int)) (n5 : Int) : Option (((List (Str × Int)) × Int) ⊕ (List (Str × Int))) :=
 if n5 < (p0x0.length : Int) then
  (idx p0x0 n5).bind fun v6 =>
  (mgetO l4 v6.Hub (0 : Int)).bind fun v8 =>
  some (.inl (mset l4 v6.Hub (max v8 v6.No), w64 (n5 + (1 : Int))))
 else
  Option.map .inr (some l4)

def device_known_l1 (p0x0 : List EventS) (l4 : List (Str × Int)) (n5 : Int) : Option (List (Str × Int)) :=
 iter (fun x : (List (Str × Int)) × Int => device_known_b1 p0x0 x.1 x.2) (l4, n5)

def device_known (p0x0 : List EventS) : Option (List (Str × Int)) :=
 device_known_l1 p0x0 [] (0 : Int)

def device_Known_1x (p0x0 : Seen) (p1x0 : Seen) : Int :=
 (Lib.compareBytes p0x0.Hub p1x0.Hub)

/-- Sorted by Go. -/
def slices_SortFunc_Seen_Seen (p0x0 : List Seen) (fnb : Seen → Seen → Option Int) : Option (List Seen) :=
 sortO fnb p0x0

def device_Known_b1 (v1m : Str × Int) (l9 : List Seen) : Option ((List Seen) ⊕ ((List Seen) × Int)) :=
 (app l9 [(⟨v1m.1, v1m.2⟩ : Seen)]).bind fun l12 =>
 some (.inl l12)

def device_Known_f1 (l9 : List Seen) : Option ((List Seen) × Int) :=
 (lenOk l9.length (fun r : (List Seen) => r.length) (slices_SortFunc_Seen_Seen l9 (fun y0 y1 => some (device_Known_1x y0 y1)))).bind fun v11 =>
 some (v11, (0 : Int))

def device_Known_l1 (v3 : (List (Str × Int))) (l9 : List Seen) : Option ((List Seen) × Int) :=
 overP v3 (fun p => loopL (fun e (x : (List Seen)) => device_Known_b1 e x) (fun x : (List Seen) => device_Known_f1 x) p l9)

def device_Known (p0x0 : List Model) (p1x0 : List EventS) : Option ((List Seen) × Int) :=
 (device_CheckEvents p0x0 p1x0).bind fun v1 =>
 if v1 ≠ (0 : Int) then
  some ([], v1)
 else
  (device_known p1x0).bind fun v3 =>
  device_Known_l1 v3 []

def device_Since_j1 (l7 : List (Str × Int)) (n8 : Int) (v9 : Seen) (c13 : Bool) : Option (((List (Str × Int)) × Int) ⊕ ((List EventS) × Int)) :=
 if c13 = true then
  Option.map .inr (some ([], (7 : Int)))
 else
  if (base_Out v9.No (0 : Int) (3000 : Int)) = true then
   Option.map .inr (some ([], (1 : Int)))
  else
   some (.inl (mset l7 v9.Hub v9.No, w64 (n8 + (1 : Int))))

def device_Since_j2 (n22 : Int) (l28 : List EventS) : Option (((List EventS) × Int) ⊕ ((List EventS) × Int)) :=
 some (.inl (l28, w64 (n22 + (1 : Int))))

def device_Since_b2 (p1x0 : List EventS) (l7 : List (Str × Int)) (l21 : List EventS) (n22 : Int) : Option (((List EventS) × Int) ⊕ ((List EventS) × Int)) :=
 if n22 < (p1x0.length : Int) then
  (idx p1x0 n22).bind fun v24 =>
  (mgetO l7 v24.Hub (0 : Int)).bind fun v26 =>
  if v26 < v24.No then
   (app l21 [v24]).bind fun l29 =>
   device_Since_j2 n22 l29
  else
   device_Since_j2 n22 l21
 else
  Option.map .inr (some (l21, (0 : Int)))

def device_Since_l2 (p1x0 : List EventS) (l7 : List (Str × Int)) (l21 : List EventS) (n22 : Int) : Option ((List EventS) × Int) :=
 iter (fun x : (List EventS) × Int => device_Since_b2 p1x0 l7 x.1 x.2) (l21, n22)

def device_Since_b1 (p1x0 : List EventS) (p2x0 : List Seen) (l7 : List (Str × Int)) (n8 : Int) : Option (((List (Str × Int)) × Int) ⊕ ((List EventS) × Int)) :=
 if n8 < (p2x0.length : Int) then
  (idx p2x0 n8).bind fun v9 =>
  (base_Key v9.Hub).bind fun v11 =>
  if (!v11) = true then
   Option.map .inr (some ([], (5 : Int)))
  else
   if (0 : Int) < n8 then
    (idx p2x0 (w64 (n8 - (1 : Int)))).bind fun v14 =>
    device_Since_j1 l7 n8 v9 (Op.bytesLess v9.Hub v14.Hub || v9.Hub == v14.Hub)
   else
    device_Since_j1 l7 n8 v9 false
 else
  Option.map .inr (device_Since_l2 p1x0 l7 [] (0 : Int))

def device_Since_l1 (p1x0 : List EventS) (p2x0 : List Seen) (l7 : List (Str × Int)) (n8 : Int) : Option ((List EventS) × Int) :=
 iter (fun x : (List (Str × Int)) × Int => device_Since_b1 p1x0 p2x0 x.1 x.2) (l7, n8)

def device_Since (p0x0 : List Model) (p1x0 : List EventS) (p2x0 : List Seen) : Option ((List EventS) × Int) :=
 (device_CheckEvents p0x0 p1x0).bind fun v1 =>
 if v1 ≠ (0 : Int) then
  some ([], v1)
 else
  if (20 : Int) < (p2x0.length : Int) then
   some ([], (2 : Int))
  else
   device_Since_l1 p1x0 p2x0 [] (0 : Int)

def device_Learn_k1 (p0x0 : List Model) (l19 : List EventS) : Option ((List EventS) × Int) :=
 (device_sorted p0x0 l19).bind fun v28 =>
 some (v28.1, v28.2)

def device_Learn_b2 (p0x0 : List Model) (p2x0 : List EventS) (l17 : List (Device_place × EventS)) (l19 : List EventS) (n20 : Int) : Option (((List (Device_place × EventS)) × (List EventS) × Int) ⊕ ((List EventS) × Int)) :=
 if n20 < (p2x0.length : Int) then
  (idx p2x0 n20).bind fun v21 =>
  (device_eventFault p0x0 v21).bind fun v23 =>
  if v23 ≠ (0 : Int) then
   Option.map .inr (some ([], v23))
  else
   (device_put_o1x l17 l19 v21).bind fun v25 =>
   if v25.2.1 ≠ (0 : Int) then
    Option.map .inr (some ([], v25.2.1))
   else
    some (.inl (v25.2.2, v25.1, w64 (n20 + (1 : Int))))
 else
  Option.map .inr (device_Learn_k1 p0x0 l19)

def device_Learn_l2 (p0x0 : List Model) (p2x0 : List EventS) (l17 : List (Device_place × EventS)) (l19 : List EventS) (n20 : Int) : Option ((List EventS) × Int) :=
 iter (fun x : (List (Device_place × EventS)) × (List EventS) × Int => device_Learn_b2 p0x0 p2x0 x.1 x.2.1 x.2.2) (l17, l19, n20)

def device_Learn_k2 (p0x0 : List Model) (p1x0 : List EventS) (p2x0 : List EventS) (l7 : List (Device_place × EventS)) : Option ((List EventS) × Int) :=
 (slices_Clone_Event_Event p1x0).bind fun v11 =>
 device_Learn_l2 p0x0 p2x0 l7 v11 (0 : Int)

def device_Learn_b1 (p0x0 : List Model) (p1x0 : List EventS) (p2x0 : List EventS) (l7 : List (Device_place × EventS)) (n8 : Int) : Option (((List (Device_place × EventS)) × Int) ⊕ ((List EventS) × Int)) :=
 if n8 < (p1x0.length : Int) then
  (idx p1x0 n8).bind fun v9 =>
  some (.inl (mset l7 (⟨v9.Hub, v9.No⟩ : Device_place) v9, w64 (n8 + (1 : Int))))
 else
  Option.map .inr (device_Learn_k2 p0x0 p1x0 p2x0 l7)

def device_Learn_l1 (p0x0 : List Model) (p1x0 : List EventS) (p2x0 : List EventS) (l7 : List (Device_place × EventS)) (n8 : Int) : Option ((List EventS) × Int) :=
 iter (fun x : (List (Device_place × EventS)) × Int => device_Learn_b1 p0x0 p1x0 p2x0 x.1 x.2) (l7, n8)

def device_Learn (p0x0 : List Model) (p1x0 : List EventS) (p2x0 : List EventS) : Option ((List EventS) × Int) :=
 (device_CheckEvents p0x0 p1x0).bind fun v1 =>
 if v1 ≠ (0 : Int) then
  some ([], v1)
 else
  if (3000 : Int) < (p2x0.length : Int) then
   some ([], (2 : Int))
  else
   device_Learn_l1 p0x0 p1x0 p2x0 [] (0 : Int)

def Q_LearnOf_1x_j1 (c2 : Bool) : Bool :=
 c2

def Q_LearnOf_1x (p0x0 : EventS) (p1x0 : EventS) : Bool :=
 Q_LearnOf_1x_j1 ((decide (p0x0.Hub = p1x0.Hub)) && (decide (p0x0.No = p1x0.No)))

def slices_IndexFunc_Event_Event_b1 (p0x0 : List EventS) (fnb : EventS → Option Bool) (n2 : Int) : Option (Int ⊕ Int) :=
 if n2 < (p0x0.length : Int) then
  (idx p0x0 n2).bind fun v3 =>
  (fnb v3).bind fun v4 =>
  if v4 = true then
   Option.map .inr (some n2)
  else
   some (.inl (w64 (n2 + (1 : Int))))
 else
  Option.map .inr (some (-1 : Int))

def slices_IndexFunc_Event_Event_l1 (p0x0 : List EventS) (fnb : EventS → Option Bool) (n2 : Int) : Option Int :=
 iter (fun x : Int => slices_IndexFunc_Event_Event_b1 p0x0 fnb x) n2

def slices_IndexFunc_Event_Event (p0x0 : List EventS) (fnb : EventS → Option Bool) : Option Int :=
 slices_IndexFunc_Event_Event_l1 p0x0 fnb (0 : Int)

def Q_LearnOf_j1 (n8 : Int) (l15 : List EventS) : Option (((List EventS) × Int) ⊕ ((List EventS) × Int)) :=
 some (.inl (l15, w64 (n8 + (1 : Int))))

def Q_LearnOf_k2 (p0x0 : List Model) (l7 : List EventS) : Option ((List EventS) × Int) :=
 (lenOk l7.length (fun r : (List EventS) => r.length) (slices_SortFunc_Event_Event l7 (fun y0 y1 => Q_EventOrder y0 y1))).bind fun v20 =>
 (Q_EventsFault p0x0 v20).bind fun v21 =>
 if v21 ≠ (0 : Int) then
  some ([], v21)
 else
  some (v20, (0 : Int))

def Q_LearnOf_b1 (p0x0 : List Model) (p2x0 : List EventS) (l7 : List EventS) (n8 : Int) : Option (((List EventS) × Int) ⊕ ((List EventS) × Int)) :=
 if n8 < (p2x0.length : Int) then
  (idx p2x0 n8).bind fun v9 =>
  (Q_EventFault p0x0 v9).bind fun v11 =>
  if v11 ≠ (0 : Int) then
   Option.map .inr (some ([], v11))
  else
   (slices_IndexFunc_Event_Event l7 (fun y0 => some (Q_LearnOf_1x y0 v9))).bind fun v13 =>
   if v13 < (0 : Int) then
    (app l7 [v9]).bind fun l16 =>
    Q_LearnOf_j1 n8 l16
   else
    (idx l7 v13).bind fun v18 =>
    if v18 ≠ v9 then
     Option.map .inr (some ([], (13 : Int)))
    else
     Q_LearnOf_j1 n8 l7
 else
  Option.map .inr (Q_LearnOf_k2 p0x0 l7)

def Q_LearnOf_l1 (p0x0 : List Model) (p2x0 : List EventS) (l7 : List EventS) (n8 : Int) : Option ((List EventS) × Int) :=
 iter (fun x : (List EventS) × Int => Q_LearnOf_b1 p0x0 p2x0 x.1 x.2) (l7, n8)

def Q_LearnOf (p0x0 : List Model) (p1x0 : List EventS) (p2x0 : List EventS) : Option ((List EventS) × Int) :=
 (slices_Clone_Event_Event p1x0).bind fun v1 =>
 Q_LearnOf_l1 p0x0 p2x0 v1 (0 : Int)

def L_when (p0x0 : Bool) (p1x0 : Int) : Int :=
 if p0x0 = true then
  p1x0
 else
  (0 : Int)

def slices_Equal_Event_Event_b1 (p0x0 : List EventS) (p1x0 : List EventS) (n2 : Int) : Option (Int ⊕ Bool) :=
 if n2 < (p0x0.length : Int) then
  (idx p0x0 n2).bind fun v3 =>
  (idx p1x0 n2).bind fun v4 =>
  if v3 ≠ v4 then
   Option.map .inr (some false)
  else
   some (.inl (w64 (n2 + (1 : Int))))
 else
  Option.map .inr (some true)

def slices_Equal_Event_Event_l1 (p0x0 : List EventS) (p1x0 : List EventS) (n2 : Int) : Option Bool :=
 iter (fun x : Int => slices_Equal_Event_Event_b1 p0x0 p1x0 x) n2

def slices_Equal_Event_Event (p0x0 : List EventS) (p1x0 : List EventS) : Option Bool :=
 if (p0x0.length : Int) ≠ (p1x0.length : Int) then
  some false
 else
  slices_Equal_Event_Event_l1 p0x0 p1x0 (0 : Int)

/-- A copy of a list. -/
def slices_Clone_string_string (p0x0 : List Str) : Option (List Str) :=
 app [] p0x0

/-- Sorted by Go. -/
def slices_Sort_string_string (p0x0 : List Str) : Option (List Str) :=
 sort1 srtS p0x0

def slices_Compact_string_string_j1 (n11 : Int) (l14 : List Str) (n15 : Int) : Option (((List Str) × Int × Int) ⊕ (Int ⊕ (List Str))) :=
 some (.inl (l14, n15, w64 (n11 + (1 : Int))))

def slices_Compact_string_string_k2 (l9 : List Str) (n10 : Int) : Option (Int ⊕ (List Str)) :=
 (slc l9 n10 (l9.length : Int)).bind fun l18 =>
 (slc (clr l9 n10 l18.length []) (0 : Int) n10).bind fun l19 =>
 Option.map .inr (some l19)

def slices_Compact_string_string_b2 (n2 : Int) (l5 : List Str) (l9 : List Str) (n10 : Int) (n11 : Int) : Option (((List Str) × Int × Int) ⊕ (Int ⊕ (List Str))) :=
 if n11 < (l5.length : Int) then
  (idxS l9 n2 l5.length n11).bind fun v12 =>
  (idxS l9 n2 l5.length (w64 (n11 - (1 : Int)))).bind fun v13 =>
  if v12 ≠ v13 then
   (idxS l9 n2 l5.length n11).bind fun v16 =>
   (idx l9 n10).bind fun v17 =>
   slices_Compact_string_string_j1 n11 (l9.set n10.toNat v16) (w64 (n10 + (1 : Int)))
  else
   slices_Compact_string_string_j1 n11 l9 n10
 else
  Option.map .inr (slices_Compact_string_string_k2 l9 n10)

def slices_Compact_string_string_l2 (n2 : Int) (l5 : List Str) (l9 : List Str) (n10 : Int) (n11 : Int) : Option (Int ⊕ (List Str)) :=
 iter (fun x : (List Str) × Int × Int => slices_Compact_string_string_b2 n2 l5 x.1 x.2.1 x.2.2) (l9, n10, n11)

def slices_Compact_string_string_b1 (p0x0 : List Str) (n2 : Int) : Option (Int ⊕ (List Str)) :=
 if n2 < (p0x0.length : Int) then
  (idx p0x0 n2).bind fun v3 =>
  (idx p0x0 (w64 (n2 - (1 : Int)))).bind fun v4 =>
  if v3 = v4 then
   (slc p0x0 n2 (p0x0.length : Int)).bind fun l5 =>
   slices_Compact_string_string_l2 n2 l5 p0x0 n2 (1 : Int)
  else
   some (.inl (w64 (n2 + (1 : Int))))
 else
  Option.map .inr (some p0x0)

def slices_Compact_string_string_l1 (p0x0 : List Str) (n2 : Int) : Option (List Str) :=
 iter (fun x : Int => slices_Compact_string_string_b1 p0x0 x) n2

def slices_Compact_string_string (p0x0 : List Str) : Option (List Str) :=
 if (p0x0.length : Int) < (2 : Int) then
  some p0x0
 else
  slices_Compact_string_string_l1 p0x0 (1 : Int)

def Q_once (p0x0 : List Str) : Option (List Str) :=
 (slices_Clone_string_string p0x0).bind fun v1 =>
 (lenOk v1.length (fun r : (List Str) => r.length) (slices_Sort_string_string v1)).bind fun v3 =>
 (slices_Compact_string_string v3).bind fun v4 =>
 some v4

def Q_KnownOf_j1 (n25 : Int) (n28 : Int) : Option ((Int × Int) ⊕ (((List Seen) × Int) ⊕ (List Seen))) :=
 some (.inl (n28, w64 (n25 + (1 : Int))))

def Q_KnownOf_k2 (l18 : List Seen) (n19 : Int) (v21 : Str) (n24 : Int) : Option (((List Seen) × Int) ⊕ (List Seen)) :=
 (app l18 [(⟨v21, n24⟩ : Seen)]).bind fun l29 =>
 some (.inl (l29, w64 (n19 + (1 : Int))))

def Q_KnownOf_b3 (p0x0 : List EventS) (l18 : List Seen) (n19 : Int) (v21 : Str) (n24 : Int) (n25 : Int) : Option ((Int × Int) ⊕ (((List Seen) × Int) ⊕ (List Seen))) :=
 if n25 < (p0x0.length : Int) then
  (idx p0x0 n25).bind fun v26 =>
  if v26.Hub = v21 then
   Q_KnownOf_j1 n25 (max n24 v26.No)
  else
   Q_KnownOf_j1 n25 n24
 else
  Option.map .inr (Q_KnownOf_k2 l18 n19 v21 n24)

def Q_KnownOf_l3 (p0x0 : List EventS) (l18 : List Seen) (n19 : Int) (v21 : Str) (n24 : Int) (n25 : Int) : Option (((List Seen) × Int) ⊕ (List Seen)) :=
 iter (fun x : Int × Int => Q_KnownOf_b3 p0x0 l18 n19 v21 x.1 x.2) (n24, n25)

def Q_KnownOf_b2 (p0x0 : List EventS) (v12 : (List Str)) (l18 : List Seen) (n19 : Int) : Option (((List Seen) × Int) ⊕ (List Seen)) :=
 if n19 < (v12.length : Int) then
  (idx v12 n19).bind fun v21 =>
  Q_KnownOf_l3 p0x0 l18 n19 v21 (0 : Int) (0 : Int)
 else
  Option.map .inr (some l18)

def Q_KnownOf_l2 (p0x0 : List EventS) (v12 : (List Str)) (l18 : List Seen) (n19 : Int) : Option (List Seen) :=
 iter (fun x : (List Seen) × Int => Q_KnownOf_b2 p0x0 v12 x.1 x.2) (l18, n19)

def Q_KnownOf_k3 (p0x0 : List EventS) (l5 : List Str) : Option (List Seen) :=
 (Q_once l5).bind fun v12 =>
 Q_KnownOf_l2 p0x0 v12 [] (0 : Int)

def Q_KnownOf_b1 (p0x0 : List EventS) (l5 : List Str) (n6 : Int) : Option (((List Str) × Int) ⊕ (List Seen)) :=
 if n6 < (p0x0.length : Int) then
  (idx p0x0 n6).bind fun v8 =>
  (app l5 [v8.Hub]).bind fun l10 =>
  some (.inl (l10, w64 (n6 + (1 : Int))))
 else
  Option.map .inr (Q_KnownOf_k3 p0x0 l5)

def Q_KnownOf_l1 (p0x0 : List EventS) (l5 : List Str) (n6 : Int) : Option (List Seen) :=
 iter (fun x : (List Str) × Int => Q_KnownOf_b1 p0x0 x.1 x.2) (l5, n6)

def Q_KnownOf (p0x0 : List EventS) : Option (List Seen) :=
 Q_KnownOf_l1 p0x0 [] (0 : Int)

def slices_Equal_Seen_Seen_b1 (p0x0 : List Seen) (p1x0 : List Seen) (n2 : Int) : Option (Int ⊕ Bool) :=
 if n2 < (p0x0.length : Int) then
  (idx p0x0 n2).bind fun v3 =>
  (idx p1x0 n2).bind fun v4 =>
  if v3 ≠ v4 then
   Option.map .inr (some false)
  else
   some (.inl (w64 (n2 + (1 : Int))))
 else
  Option.map .inr (some true)

def slices_Equal_Seen_Seen_l1 (p0x0 : List Seen) (p1x0 : List Seen) (n2 : Int) : Option Bool :=
 iter (fun x : Int => slices_Equal_Seen_Seen_b1 p0x0 p1x0 x) n2

def slices_Equal_Seen_Seen (p0x0 : List Seen) (p1x0 : List Seen) : Option Bool :=
 if (p0x0.length : Int) ≠ (p1x0.length : Int) then
  some false
 else
  slices_Equal_Seen_Seen_l1 p0x0 p1x0 (0 : Int)

def Q_SeenFault_j1 (n2 : Int) (v3 : Seen) (c6 : Bool) : Option (Int ⊕ Int) :=
 if c6 = true then
  Option.map .inr (some (7 : Int))
 else
  if (!(Q_in v3.No (0 : Int) (3000 : Int))) = true then
   Option.map .inr (some (1 : Int))
  else
   some (.inl (w64 (n2 + (1 : Int))))

def Q_SeenFault_b1 (p0x0 : List Seen) (n2 : Int) : Option (Int ⊕ Int) :=
 if n2 < (p0x0.length : Int) then
  (idx p0x0 n2).bind fun v3 =>
  (Q_Key v3.Hub).bind fun v5 =>
  if (!v5) = true then
   Option.map .inr (some (5 : Int))
  else
   if (0 : Int) < n2 then
    (idx p0x0 (w64 (n2 - (1 : Int)))).bind fun v7 =>
    Q_SeenFault_j1 n2 v3 (Op.bytesLess v3.Hub v7.Hub || v3.Hub == v7.Hub)
   else
    Q_SeenFault_j1 n2 v3 false
 else
  Option.map .inr (some (0 : Int))

def Q_SeenFault_l1 (p0x0 : List Seen) (n2 : Int) : Option Int :=
 iter (fun x : Int => Q_SeenFault_b1 p0x0 x) n2

def Q_SeenFault (p0x0 : List Seen) : Option Int :=
 if (20 : Int) < (p0x0.length : Int) then
  some (2 : Int)
 else
  Q_SeenFault_l1 p0x0 (0 : Int)

def device_checkOf_k1 (n3 : Int) : Option Int :=
 (idx ([48, 49, 50, 51, 52, 53, 54, 55, 56, 57, 65, 66, 67, 68, 69, 70, 71, 72, 73, 74, 75, 76, 77, 78, 79, 80, 81, 82, 83, 84, 85, 86, 87, 88, 89, 90] : Str) (n3.tmod (36 : Int))).bind fun c6 =>
 some (c6.toNat : Int)

def device_checkOf_b1 (p0x0 : Str) (n3 : Int) (n4 : Int) : Option ((Int × Int) ⊕ Int) :=
 if n4 < (p0x0.length : Int) then
  (idx p0x0 n4).bind fun c5 =>
  some (.inl (w64 (n3 + (w64 ((w64 (n4 + (2 : Int))) * (indexByteI ([48, 49, 50, 51, 52, 53, 54, 55, 56, 57, 65, 66, 67, 68, 69, 70, 71, 72, 73, 74, 75, 76, 77, 78, 79, 80, 81, 82, 83, 84, 85, 86, 87, 88, 89, 90] : Str) (c5.toNat : Int))))), w64 (n4 + (1 : Int))))
 else
  Option.map .inr (device_checkOf_k1 n3)

def device_checkOf_l1 (p0x0 : Str) (n3 : Int) (n4 : Int) : Option Int :=
 iter (fun x : Int × Int => device_checkOf_b1 p0x0 x.1 x.2) (n3, n4)

def device_checkOf (p0x0 : Str) : Option Int :=
 device_checkOf_l1 p0x0 (0 : Int) (0 : Int)

def device_Serial (p0x0 : List Model) (p1x0 : Str) (p2x0 : Int) : Option (Str × Int) :=
 (device_CheckModels p0x0).bind fun v1 =>
 if v1 ≠ (0 : Int) then
  some (([] : Str), v1)
 else
  (device_model p0x0 p1x0).bind fun v2 =>
  if v2 < (0 : Int) then
   some (([] : Str), (8 : Int))
  else
   if (base_Out p2x0 (1 : Int) (99999999 : Int)) = true then
    some (([] : Str), (1 : Int))
   else
    (itoaO p2x0).bind fun v3 =>
    (repeatO ([48] : Str) (w64 ((8 : Int) - (v3.length : Int)))).bind fun v4 =>
    (catO v4 v3).bind fun q5 =>
    (idx p0x0 v2).bind fun v6 =>
    (catO v6.Prefix ([45] : Str)).bind fun q7 =>
    (catO q7 q5).bind fun q8 =>
    (catO q8 ([45] : Str)).bind fun q9 =>
    (catO v6.Prefix q5).bind fun q10 =>
    (device_checkOf q10).bind fun v11 =>
    (catO q9 (strR v11)).bind fun q12 =>
    some (q12, (0 : Int))

def L_deviced_j1 (c2 : Bool) : Option Bool :=
 some c2

def L_deviced : Option Bool :=
 (device_Serial [(⟨([109] : Str), ([65, 66] : Str), []⟩ : Model)] ([109] : Str) (7 : Int)).bind fun v1 =>
 L_deviced_j1 ((decide (v1.2 = (0 : Int))) && (decide (v1.1 = ([65, 66, 45, 48, 48, 48, 48, 48, 48, 48, 55, 45, 77] : Str))))

def Q_SinceOf_1x_1x_j1 (c2 : Bool) : Bool :=
 c2

def Q_SinceOf_1x_1x (p0x0 : Seen) (p1x0 : EventS) : Bool :=
 Q_SinceOf_1x_1x_j1 ((decide (p0x0.Hub = p1x0.Hub)) && (decide (p1x0.No ≤ p0x0.No)))

def slices_IndexFunc_Seen_Seen_b1 (p0x0 : List Seen) (fnb : Seen → Option Bool) (n2 : Int) : Option (Int ⊕ Int) :=
 if n2 < (p0x0.length : Int) then
  (idx p0x0 n2).bind fun v3 =>
  (fnb v3).bind fun v4 =>
  if v4 = true then
   Option.map .inr (some n2)
  else
   some (.inl (w64 (n2 + (1 : Int))))
 else
  Option.map .inr (some (-1 : Int))

def slices_IndexFunc_Seen_Seen_l1 (p0x0 : List Seen) (fnb : Seen → Option Bool) (n2 : Int) : Option Int :=
 iter (fun x : Int => slices_IndexFunc_Seen_Seen_b1 p0x0 fnb x) n2

def slices_IndexFunc_Seen_Seen (p0x0 : List Seen) (fnb : Seen → Option Bool) : Option Int :=
 slices_IndexFunc_Seen_Seen_l1 p0x0 fnb (0 : Int)

def slices_ContainsFunc_Seen_Seen (p0x0 : List Seen) (fnb : Seen → Option Bool) : Option Bool :=
 (slices_IndexFunc_Seen_Seen p0x0 fnb).bind fun v1 =>
 some (decide ((0 : Int) ≤ v1))

def Q_SinceOf_1x (p0x0 : EventS) (p1x0 : List Seen) : Option Bool :=
 (slices_ContainsFunc_Seen_Seen p1x0 (fun y0 => some (Q_SinceOf_1x_1x y0 p0x0))).bind fun v2 =>
 some v2

def slices_DeleteFunc_Event_Event_j1 (n7 : Int) (l11 : List EventS) (n12 : Int) : Option (((List EventS) × Int × Int) ⊕ (List EventS)) :=
 some (.inl (l11, n12, w64 (n7 + (1 : Int))))

def slices_DeleteFunc_Event_Event_k2 (l5 : List EventS) (n6 : Int) : Option (List EventS) :=
 (slc l5 n6 (l5.length : Int)).bind fun l14 =>
 (slc (clr l5 n6 l14.length (⟨[], (0 : Int), (0 : Int), (0 : Int), (0 : Int), [], [], [], (0 : Int), [], [], [], (0 : Int), (⟨(0 : Int), (0 : Int), (0 : Int)⟩ : Version)⟩ : EventS)) (0 : Int) n6).bind fun l15 =>
 some l15

def slices_DeleteFunc_Event_Event_b1 (fnb : EventS → Option Bool) (l5 : List EventS) (n6 : Int) (n7 : Int) : Option (((List EventS) × Int × Int) ⊕ (List EventS)) :=
 if n7 < (l5.length : Int) then
  (idx l5 n7).bind fun v8 =>
  (fnb v8).bind fun v10 =>
  if (!v10) = true then
   (idx l5 n6).bind fun v13 =>
   slices_DeleteFunc_Event_Event_j1 n7 (l5.set n6.toNat v8) (w64 (n6 + (1 : Int)))
  else
   slices_DeleteFunc_Event_Event_j1 n7 l5 n6
 else
  Option.map .inr (slices_DeleteFunc_Event_Event_k2 l5 n6)

def slices_DeleteFunc_Event_Event_l1 (fnb : EventS → Option Bool) (l5 : List EventS) (n6 : Int) (n7 : Int) : Option (List EventS) :=
 iter (fun x : (List EventS) × Int × Int => slices_DeleteFunc_Event_Event_b1 fnb x.1 x.2.1 x.2.2) (l5, n6, n7)

def slices_DeleteFunc_Event_Event (p0x0 : List EventS) (fnb : EventS → Option Bool) : Option (List EventS) :=
 (slices_IndexFunc_Event_Event p0x0 fnb).bind fun v1 =>
 if v1 = (-1 : Int) then
  some p0x0
 else
  slices_DeleteFunc_Event_Event_l1 fnb p0x0 v1 (w64 (v1 + (1 : Int)))

def Q_SinceOf (p0x0 : List EventS) (p1x0 : List Seen) : Option (List EventS) :=
 (slices_Clone_Event_Event p0x0).bind fun v2 =>
 (slices_DeleteFunc_Event_Event v2 (fun y0 => Q_SinceOf_1x y0 p1x0)).bind fun v4 =>
 some v4

def L_EventsTold_j7 (c56 : Bool) : Option Bool :=
 some c56

def L_EventsTold_j8 (c58 : Bool) : Option Bool :=
 some c58

def L_EventsTold_j6 (v4 : (List EventS) × Fleetmake_Stream) (v8 : (List Seen) × Fleetmake_Stream) (v20 : Int) (v26 : (List EventS) × Int) (c48 : Bool) : Option Bool :=
 if c48 = true then
  some false
 else
  (Q_SeenFault v8.1).bind fun v54 =>
  (cmp_Or_Errno [v20, v54]).bind fun v55 =>
  if v55 ≠ (0 : Int) then
   if v26.2 = v55 then
    if (v26.1.length : Int) = (0 : Int) then
     (L_deviced).bind fun v57 =>
     L_EventsTold_j7 v57
    else
     L_EventsTold_j7 false
   else
    L_EventsTold_j7 false
  else
   if v26.2 = (0 : Int) then
    (Q_SinceOf v4.1 v8.1).bind fun v59 =>
    (slices_Equal_Event_Event v26.1 v59).bind fun v61 =>
    if v61 = true then
     (L_deviced).bind fun v62 =>
     L_EventsTold_j8 v62
    else
     L_EventsTold_j8 false
   else
    L_EventsTold_j8 false

def L_EventsTold_j4 (v4 : (List EventS) × Fleetmake_Stream) (v8 : (List Seen) × Fleetmake_Stream) (v20 : Int) (v22 : (List EventS) × Int) (v24 : (List Seen) × Int) (v26 : (List EventS) × Int) (v28 : (List EventS) × Int) (n32 : Int) (l34 : List EventS) (l39 : List EventS) (n40 : Int) : Option Bool :=
 if v22.2 ≠ n32 then
  L_EventsTold_j6 v4 v8 v20 v26 true
 else
  (slices_Equal_Event_Event v22.1 l34).bind fun v49 =>
  if (!v49) = true then
   L_EventsTold_j6 v4 v8 v20 v26 true
  else
   if v28.2 ≠ n40 then
    L_EventsTold_j6 v4 v8 v20 v26 true
   else
    (slices_Equal_Event_Event v28.1 l39).bind fun v50 =>
    if (!v50) = true then
     L_EventsTold_j6 v4 v8 v20 v26 true
    else
     if v24.2 ≠ v20 then
      L_EventsTold_j6 v4 v8 v20 v26 true
     else
      if v20 = (0 : Int) then
       (Q_KnownOf v4.1).bind fun v51 =>
       (slices_Equal_Seen_Seen v24.1 v51).bind fun v53 =>
       L_EventsTold_j6 v4 v8 v20 v26 (!v53)
      else
       L_EventsTold_j6 v4 v8 v20 v26 false

def L_EventsTold_j5 (v4 : (List EventS) × Fleetmake_Stream) (v8 : (List Seen) × Fleetmake_Stream) (v20 : Int) (v22 : (List EventS) × Int) (v24 : (List Seen) × Int) (v26 : (List EventS) × Int) (v28 : (List EventS) × Int) (n32 : Int) (l34 : List EventS) (l42 : List EventS) (n43 : Int) : Option Bool :=
 L_EventsTold_j4 v4 v8 v20 v22 v24 v26 v28 n32 l34 l42 n43

def L_EventsTold_j3 (v2 : (List Model) × Fleetmake_Stream) (v4 : (List EventS) × Fleetmake_Stream) (v8 : (List Seen) × Fleetmake_Stream) (l11 : List EventS) (v20 : Int) (v22 : (List EventS) × Int) (v24 : (List Seen) × Int) (v26 : (List EventS) × Int) (v28 : (List EventS) × Int) (n32 : Int) (l34 : List EventS) : Option Bool :=
 if v20 = (0 : Int) then
  if (L_when (decide ((3000 : Int) < (l11.length : Int))) (2 : Int)) = (0 : Int) then
   (Q_LearnOf v2.1 v4.1 l11).bind fun v44 =>
   L_EventsTold_j5 v4 v8 v20 v22 v24 v26 v28 n32 l34 v44.1 v44.2
  else
   L_EventsTold_j5 v4 v8 v20 v22 v24 v26 v28 n32 l34 [] (L_when (decide ((3000 : Int) < (l11.length : Int))) (2 : Int))
 else
  L_EventsTold_j4 v4 v8 v20 v22 v24 v26 v28 n32 l34 [] v20

def L_EventsTold_j1 (v2 : (List Model) × Fleetmake_Stream) (v4 : (List EventS) × Fleetmake_Stream) (v8 : (List Seen) × Fleetmake_Stream) (l11 : List EventS) : Option Bool :=
 (Q_ModelsFault v2.1).bind fun v18 =>
 (Q_EventsFault v2.1 v4.1).bind fun v19 =>
 (cmp_Or_Errno [v18, v19]).bind fun v20 =>
 (device_CheckEvents v2.1 v4.1).bind fun v21 =>
 if v21 ≠ v20 then
  some false
 else
  (device_Merge v2.1 v4.1 l11).bind fun v22 =>
  (device_Known v2.1 v4.1).bind fun v24 =>
  (device_Since v2.1 v4.1 v8.1).bind fun v26 =>
  (device_Learn v2.1 v4.1 l11).bind fun v28 =>
  (Q_EventsFault v2.1 l11).bind fun v30 =>
  (cmp_Or_Errno [v20, v30]).bind fun v31 =>
  if v31 = (0 : Int) then
   (Q_LearnOf v2.1 v4.1 l11).bind fun v35 =>
   L_EventsTold_j3 v2 v4 v8 l11 v20 v22 v24 v26 v28 v35.2 v35.1
  else
   L_EventsTold_j3 v2 v4 v8 l11 v20 v22 v24 v26 v28 v31 []

def L_EventsTold_j2 (v2 : (List Model) × Fleetmake_Stream) (v4 : (List EventS) × Fleetmake_Stream) (v8 : (List Seen) × Fleetmake_Stream) (l15 : List EventS) : Option Bool :=
 L_EventsTold_j1 v2 v4 v8 l15

def L_EventsTold (p0x0 : List Int) : Option Bool :=
 (Stream_Kinds (⟨p0x0, (0 : Int)⟩ : Fleetmake_Stream)).bind fun v2 =>
 (Stream_Range v2.2 (0 : Int) (8 : Int)).bind fun v3 =>
 (Stream_Events v3.2 v3.1).bind fun v4 =>
 (slices_Clone_Event_Event v4.1).bind fun v6 =>
 (Stream_SeenHubs v4.2).bind fun v8 =>
 (Stream_Next v8.2 (3 : Int)).bind fun v10 =>
 if v10.1 = (0 : Int) then
  (Stream_Range v10.2 (0 : Int) (4 : Int)).bind fun v12 =>
  (Stream_Events v12.2 v12.1).bind fun v13 =>
  L_EventsTold_j1 v2 v4 v8 v13.1
 else
  if v10.1 = (1 : Int) then
   (Stream_Range v10.2 (0 : Int) (v4.1.length : Int)).bind fun v16 =>
   (slc v4.1 (0 : Int) v16.1).bind fun l17 =>
   L_EventsTold_j2 v2 v4 v8 l17
  else
   L_EventsTold_j2 v2 v4 v8 v6

end
end Go.Beacon

