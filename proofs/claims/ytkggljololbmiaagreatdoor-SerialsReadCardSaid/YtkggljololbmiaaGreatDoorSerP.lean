/- Plain functions that the Go functions compute, written by shal.py. -/
import Derived.Test.YtkggljololbmiaaGreatDoorCore
set_option linter.unusedVariables false
namespace Go.Beacon
open Go Go.Eng
structure Fleetmake_Stream where
  L : List Int
  at_ : Int
deriving DecidableEq, Inhabited
def Fleetmake_Stream.av (x : Fleetmake_Stream) : AV := .agg [.list 1 (x.L.map I), I x.at_]

structure PropType where
  Name : Str
  Kind : Int
  Low : Int
  High : Int
deriving DecidableEq, Inhabited
def PropType.av (x : PropType) : AV := .agg [.str x.Name, I x.Kind, I x.Low, I x.High]

structure Model where
  Key : Str
  Prefix : Str
  Props : List PropType
deriving DecidableEq, Inhabited
def Model.av (x : Model) : AV := .agg [.str x.Key, .str x.Prefix, .list 4 (x.Props.map PropType.av)]

noncomputable def Below_j1 (n2 : Int) : Option Int :=
  some n2

noncomputable def Below (p0x0 : Int) (p1x0 : Int) : Option Int :=
  if p1x0 < (1 : Int) then
    some (0 : Int)
  else
    (rem p0x0 p1x0).bind fun n1 =>
    if n1 < (0 : Int) then
      Below_j1 (w64 (n1 + p1x0))
    else
      Below_j1 n1

noncomputable def Stream_Next (p0x0 : Fleetmake_Stream) (p1x0 : Int) : Option (Int × Fleetmake_Stream) :=
  if (p0x0.L.length : Int) = (0 : Int) then
    (Below (w64 ((w64 (p0x0.at_ + (1 : Int))) * (7919 : Int))) p1x0).bind fun v1 =>
    some (v1, (⟨p0x0.L, w64 (p0x0.at_ + (1 : Int))⟩ : Fleetmake_Stream))
  else
    (rem (w64 ((w64 (p0x0.at_ + (1 : Int))) - (1 : Int))) (p0x0.L.length : Int)).bind fun n2 =>
    (quo (w64 ((w64 (p0x0.at_ + (1 : Int))) - (1 : Int))) (p0x0.L.length : Int)).bind fun n3 =>
    (idx p0x0.L n2).bind fun v4 =>
    (Below v4 (1073741824 : Int)).bind fun v5 =>
    (Below (w64 (v5 + (w64 (n3 * (w64 ((7919 : Int) + n2)))))) p1x0).bind fun v6 =>
    some (v6, (⟨p0x0.L, w64 (p0x0.at_ + (1 : Int))⟩ : Fleetmake_Stream))

noncomputable def Stream_Some (p0x0 : Fleetmake_Stream) (p1x0 : List Str) : Option (Str × Fleetmake_Stream) :=
  (Stream_Next p0x0 (p1x0.length : Int)).bind fun v1 =>
  (idx p1x0 v1.1).bind fun v2 =>
  some (v2, v1.2)

noncomputable def Stream_RightKinds (p0x0 : Fleetmake_Stream) : Option ((Model × Model) × Fleetmake_Stream) :=
  (Stream_Some p0x0 [([65, 66, 67] : Str), ([88, 89] : Str), ([90, 90, 90, 90] : Str)]).bind fun v2 =>
  some (((⟨([109, 97] : Str), ([65, 66] : Str), [(⟨([97] : Str), (2 : Int), (-5 : Int), (50 : Int)⟩ : PropType), (⟨([98] : Str), (3 : Int), (0 : Int), (0 : Int)⟩ : PropType), (⟨([102, 97, 110, 46, 111, 110] : Str), (1 : Int), (0 : Int), (0 : Int)⟩ : PropType)]⟩ : Model), (⟨([109, 98] : Str), v2.1, [(⟨([97] : Str), (1 : Int), (0 : Int), (0 : Int)⟩ : PropType)]⟩ : Model)), v2.2)

noncomputable def Stream_Flip (p0x0 : Fleetmake_Stream) (p1x0 : Int) : Option (Bool × Fleetmake_Stream) :=
  (Stream_Next p0x0 p1x0).bind fun v1 =>
  some (decide (v1.1 = (0 : Int)), v1.2)

noncomputable def Stream_Pick (p0x0 : Fleetmake_Stream) (p1x0 : List Int) : Option (Int × Fleetmake_Stream) :=
  (Stream_Next p0x0 (p1x0.length : Int)).bind fun v1 =>
  (idx p1x0 v1.1).bind fun v2 =>
  some (v2, v1.2)

noncomputable def Stream_Range (p0x0 : Fleetmake_Stream) (p1x0 : Int) (p2x0 : Int) : Option (Int × Fleetmake_Stream) :=
  if p2x0 < p1x0 then
    some (p1x0, p0x0)
  else
    (Stream_Next p0x0 (w64 ((w64 (p2x0 - p1x0)) + (1 : Int)))).bind fun v1 =>
    some (w64 (p1x0 + v1.1), v1.2)

noncomputable def Stream_Odd (p0x0 : Fleetmake_Stream) (p1x0 : Int) (p2x0 : Int) : Option (Int × Fleetmake_Stream) :=
  (Stream_Flip p0x0 (12 : Int)).bind fun v1 =>
  if v1.1 = true then
    (Stream_Pick v1.2 [w64 (p1x0 - (1 : Int)), w64 (p2x0 + (1 : Int)), p1x0, p2x0, (-1099511627776 : Int), (1099511627776 : Int)]).bind fun v2 =>
    some (v2.1, v2.2)
  else
    (Stream_Range v1.2 p1x0 p2x0).bind fun v3 =>
    some (v3.1, v3.2)

noncomputable def Stream_Kinds_j1 (l7 : List Int) (n8 : Int) (l10 : List Model) : Option ((List Model) × Fleetmake_Stream) :=
  some (l10, (⟨l7, n8⟩ : Fleetmake_Stream))

noncomputable def Stream_Kinds_j2 (l13 : List Int) (n14 : Int) (l16 : List Model) : Option ((List Model) × Fleetmake_Stream) :=
  Stream_Kinds_j1 l13 n14 l16

noncomputable def Stream_Kinds_j3 (l18 : List Int) (n19 : Int) (l21 : List Model) : Option ((List Model) × Fleetmake_Stream) :=
  Stream_Kinds_j2 l18 n19 l21

noncomputable def Stream_Kinds_j4 (l23 : List Int) (n24 : Int) (l26 : List Model) : Option ((List Model) × Fleetmake_Stream) :=
  Stream_Kinds_j3 l23 n24 l26

noncomputable def Stream_Kinds_j5 (l31 : List Int) (n32 : Int) (l34 : List Model) : Option ((List Model) × Fleetmake_Stream) :=
  Stream_Kinds_j4 l31 n32 l34

noncomputable def Stream_Kinds_j6 (l42 : List Int) (n43 : Int) (l45 : List Model) : Option ((List Model) × Fleetmake_Stream) :=
  Stream_Kinds_j1 l42 n43 l45

noncomputable def Stream_Kinds_j7 (l47 : List Int) (n48 : Int) (l50 : List Model) : Option ((List Model) × Fleetmake_Stream) :=
  Stream_Kinds_j6 l47 n48 l50

noncomputable def Stream_Kinds_j8 (l52 : List Int) (n53 : Int) (l55 : List Model) : Option ((List Model) × Fleetmake_Stream) :=
  Stream_Kinds_j7 l52 n53 l55

noncomputable def Stream_Kinds_j9 (l60 : List Int) (n61 : Int) (l63 : List Model) : Option ((List Model) × Fleetmake_Stream) :=
  Stream_Kinds_j8 l60 n61 l63

noncomputable def Stream_Kinds (p0x0 : Fleetmake_Stream) : Option ((List Model) × Fleetmake_Stream) :=
  (Stream_RightKinds p0x0).bind fun v1 =>
  (Stream_Flip v1.2 (15 : Int)).bind fun v6 =>
  if v6.1 = true then
    (Stream_Next v6.2 (2 : Int)).bind fun v11 =>
    if v11.1 = (0 : Int) then
      (Stream_Next v11.2 (5 : Int)).bind fun v12 =>
      if v12.1 = (0 : Int) then
        (Stream_Some v12.2 [([] : Str), ([109, 97] : Str), ([65] : Str)]).bind fun v17 =>
        Stream_Kinds_j2 v17.2.L v17.2.at_ [(⟨v17.1, v1.1.1.Prefix, v1.1.1.Props⟩ : Model), v1.1.2]
      else
        if v12.1 = (1 : Int) then
          (Stream_Some v12.2 [([65] : Str), ([65, 66, 67, 68, 69] : Str), ([97, 98] : Str), ([65, 66] : Str), ([65, 49] : Str)]).bind fun v22 =>
          Stream_Kinds_j3 v22.2.L v22.2.at_ [(⟨v1.1.1.Key, v22.1, v1.1.1.Props⟩ : Model), v1.1.2]
        else
          if v12.1 = (2 : Int) then
            (Stream_Some v12.2 [([122, 122] : Str), ([97] : Str), ([97, 46, 46, 98] : Str), ([65] : Str), ([97, 46, 98, 46, 99, 46, 100, 46, 101, 46, 102] : Str)]).bind fun v27 =>
            (Stream_Odd v27.2 (1 : Int) (3 : Int)).bind fun v28 =>
            (app v1.1.1.Props [(⟨v27.1, v28.1, (0 : Int), (0 : Int)⟩ : PropType)]).bind fun l29 =>
            Stream_Kinds_j4 v28.2.L v28.2.at_ [(⟨v1.1.1.Key, v1.1.1.Prefix, l29⟩ : Model), v1.1.2]
          else
            if v12.1 = (3 : Int) then
              (Stream_Odd v12.2 (-3 : Int) (3 : Int)).bind fun v35 =>
              (Stream_Odd v35.2 (-3 : Int) (3 : Int)).bind fun v36 =>
              (idx v1.1.1.Props (0 : Int)).bind fun v37 =>
              (idx (v1.1.1.Props.set (0 : Int).toNat (⟨v37.Name, v37.Kind, v35.1, v37.High⟩ : PropType)) (0 : Int)).bind fun v38 =>
              Stream_Kinds_j5 v36.2.L v36.2.at_ [(⟨v1.1.1.Key, v1.1.1.Prefix, (v1.1.1.Props.set (0 : Int).toNat (⟨v37.Name, v37.Kind, v35.1, v37.High⟩ : PropType)).set (0 : Int).toNat (⟨v38.Name, v38.Kind, v38.Low, v36.1⟩ : PropType)⟩ : Model), v1.1.2]
            else
              (app [v1.1.1, v1.1.2] [(⟨([109, 122] : Str), ([81, 81] : Str), []⟩ : Model)]).bind fun l39 =>
              Stream_Kinds_j5 v12.2.L v12.2.at_ l39
    else
      if v11.1 = (1 : Int) then
        (Stream_Next v11.2 (5 : Int)).bind fun v41 =>
        if v41.1 = (0 : Int) then
          (Stream_Some v41.2 [([] : Str), ([109, 97] : Str), ([65] : Str)]).bind fun v46 =>
          Stream_Kinds_j6 v46.2.L v46.2.at_ [v1.1.1, (⟨v46.1, v1.1.2.Prefix, v1.1.2.Props⟩ : Model)]
        else
          if v41.1 = (1 : Int) then
            (Stream_Some v41.2 [([65] : Str), ([65, 66, 67, 68, 69] : Str), ([97, 98] : Str), ([65, 66] : Str), ([65, 49] : Str)]).bind fun v51 =>
            Stream_Kinds_j7 v51.2.L v51.2.at_ [v1.1.1, (⟨v1.1.2.Key, v51.1, v1.1.2.Props⟩ : Model)]
          else
            if v41.1 = (2 : Int) then
              (Stream_Some v41.2 [([122, 122] : Str), ([97] : Str), ([97, 46, 46, 98] : Str), ([65] : Str), ([97, 46, 98, 46, 99, 46, 100, 46, 101, 46, 102] : Str)]).bind fun v56 =>
              (Stream_Odd v56.2 (1 : Int) (3 : Int)).bind fun v57 =>
              (app v1.1.2.Props [(⟨v56.1, v57.1, (0 : Int), (0 : Int)⟩ : PropType)]).bind fun l58 =>
              Stream_Kinds_j8 v57.2.L v57.2.at_ [v1.1.1, (⟨v1.1.2.Key, v1.1.2.Prefix, l58⟩ : Model)]
            else
              if v41.1 = (3 : Int) then
                (Stream_Odd v41.2 (-3 : Int) (3 : Int)).bind fun v64 =>
                (Stream_Odd v64.2 (-3 : Int) (3 : Int)).bind fun v65 =>
                (idx v1.1.2.Props (0 : Int)).bind fun v66 =>
                (idx (v1.1.2.Props.set (0 : Int).toNat (⟨v66.Name, v66.Kind, v64.1, v66.High⟩ : PropType)) (0 : Int)).bind fun v67 =>
                Stream_Kinds_j9 v65.2.L v65.2.at_ [v1.1.1, (⟨v1.1.2.Key, v1.1.2.Prefix, (v1.1.2.Props.set (0 : Int).toNat (⟨v66.Name, v66.Kind, v64.1, v66.High⟩ : PropType)).set (0 : Int).toNat (⟨v67.Name, v67.Kind, v67.Low, v65.1⟩ : PropType)⟩ : Model)]
              else
                (app [v1.1.1, v1.1.2] [(⟨([109, 122] : Str), ([81, 81] : Str), []⟩ : Model)]).bind fun l68 =>
                Stream_Kinds_j9 v41.2.L v41.2.at_ l68
      else
        none
  else
    Stream_Kinds_j1 v6.2.L v6.2.at_ [v1.1.1, v1.1.2]

noncomputable def Q_modelAt_1x (p0x0 : Model) (p1x0 : Str) : Bool :=
  decide (p0x0.Key = p1x0)

noncomputable def slices_IndexFunc_Model_Model_b1 (p0x0 : List Model) (fnb : Model → Option Bool) (n2 : Int) : Option (Int ⊕ Int) :=
  if n2 < (p0x0.length : Int) then
    (idx p0x0 n2).bind fun v3 =>
    (fnb v3).bind fun v4 =>
    if v4 = true then
      Option.map .inr (some n2)
    else
      some (.inl (w64 (n2 + (1 : Int))))
  else
    Option.map .inr (some (-1 : Int))

noncomputable def slices_IndexFunc_Model_Model_l1 (p0x0 : List Model) (fnb : Model → Option Bool) (n2 : Int) : Option Int :=
  iter (fun x : Int => slices_IndexFunc_Model_Model_b1 p0x0 fnb x) n2

noncomputable def slices_IndexFunc_Model_Model (p0x0 : List Model) (fnb : Model → Option Bool) : Option Int :=
  slices_IndexFunc_Model_Model_l1 p0x0 fnb (0 : Int)

noncomputable def Q_modelAt (p0x0 : List Model) (p1x0 : Str) : Option Int :=
  (slices_IndexFunc_Model_Model p0x0 (fun y0 => some (Q_modelAt_1x y0 p1x0))).bind fun v2 =>
  some v2

noncomputable def Q_in_j1 (c1 : Bool) : Bool :=
  c1

noncomputable def Q_in (p0x0 : Int) (p1x0 : Int) (p2x0 : Int) : Bool :=
  Q_in_j1 ((decide (p1x0 ≤ p0x0)) && (decide (p0x0 ≤ p2x0)))

noncomputable def Q_checkOf_k1 (n4 : Int) : Option Str :=
  (idx ([48, 49, 50, 51, 52, 53, 54, 55, 56, 57, 65, 66, 67, 68, 69, 70, 71, 72, 73, 74, 75, 76, 77, 78, 79, 80, 81, 82, 83, 84, 85, 86, 87, 88, 89, 90] : Str) (n4.tmod (36 : Int))).bind fun c6 =>
  some (strR (c6.toNat : Int))

noncomputable def Q_checkOf_b1 (p0x0 : Str) (n4 : Int) (n5 : Nat) : Option ((Int × Nat) ⊕ Str) :=
  if ((n5 : Nat) : Int) < (p0x0.length : Int) then
    (indexRuneO ([48, 49, 50, 51, 52, 53, 54, 55, 56, 57, 65, 66, 67, 68, 69, 70, 71, 72, 73, 74, 75, 76, 77, 78, 79, 80, 81, 82, 83, 84, 85, 86, 87, 88, 89, 90] : Str) (runeAt p0x0 n5)).bind fun v7 =>
    some (.inl (w64 (n4 + (w64 ((w64 (((n5 : Nat) : Int) + (2 : Int))) * v7))), n5 + runeW p0x0 n5))
  else
    Option.map .inr (Q_checkOf_k1 n4)

noncomputable def Q_checkOf_l1 (p0x0 : Str) (n4 : Int) (n5 : Nat) : Option Str :=
  iter (fun x : Int × Nat => Q_checkOf_b1 p0x0 x.1 x.2) (n4, n5)

noncomputable def Q_checkOf (p0x0 : Str) : Option Str :=
  Q_checkOf_l1 p0x0 (0 : Int) (0 : Nat)

noncomputable def Q_serialOf (p0x0 : Str) (p1x0 : Int) : Option Str :=
  (itoaO (w64 ((100000000 : Int) + p1x0))).bind fun v1 =>
  (slc v1 (1 : Int) (v1.length : Int)).bind fun l2 =>
  (catO p0x0 ([45] : Str)).bind fun q3 =>
  (catO q3 l2).bind fun q4 =>
  (catO q4 ([45] : Str)).bind fun q5 =>
  (catO p0x0 l2).bind fun q6 =>
  (Q_checkOf q6).bind fun v7 =>
  (catO q5 v7).bind fun q8 =>
  some q8

noncomputable def Q_SerialOf (p0x0 : List Model) (p1x0 : Str) (p2x0 : Int) : Option (Str × Int) :=
  (Q_modelAt p0x0 p1x0).bind fun v1 =>
  if v1 < (0 : Int) then
    some (([] : Str), (8 : Int))
  else
    if (!(Q_in p2x0 (1 : Int) (99999999 : Int))) = true then
      some (([] : Str), (1 : Int))
    else
      (idx p0x0 v1).bind fun v2 =>
      (Q_serialOf v2.Prefix p2x0).bind fun v3 =>
      some (v3, (0 : Int))

noncomputable def Stream_Changed_j1 (p0x0 : Fleetmake_Stream) (p1x0 : Str) (p2x0 : Str) (c1 : Bool) : Option (Str × Fleetmake_Stream) :=
  if c1 = true then
    some (p2x0, p0x0)
  else
    (Stream_Next p0x0 (p1x0.length : Int)).bind fun v2 =>
    (Stream_Next v2.2 (p2x0.length : Int)).bind fun v3 =>
    (idx p2x0 v3.1).bind fun c4 =>
    (Stream_Next v3.2 (3 : Int)).bind fun v5 =>
    if v5.1 = (0 : Int) then
      (slc p1x0 (0 : Int) v2.1).bind fun l6 =>
      (catO l6 (strR (IntKind.i32.wrap ((c4.toNat : Int))))).bind fun q7 =>
      (slc p1x0 (w64 (v2.1 + (1 : Int))) (p1x0.length : Int)).bind fun l8 =>
      (catO q7 l8).bind fun q9 =>
      some (q9, v5.2)
    else
      if v5.1 = (1 : Int) then
        (slc p1x0 (0 : Int) v2.1).bind fun l10 =>
        (catO l10 (strR (IntKind.i32.wrap ((c4.toNat : Int))))).bind fun q11 =>
        (slc p1x0 v2.1 (p1x0.length : Int)).bind fun l12 =>
        (catO q11 l12).bind fun q13 =>
        some (q13, v5.2)
      else
        (slc p1x0 (0 : Int) v2.1).bind fun l14 =>
        (slc p1x0 (w64 (v2.1 + (1 : Int))) (p1x0.length : Int)).bind fun l15 =>
        (catO l14 l15).bind fun q16 =>
        some (q16, v5.2)

noncomputable def Stream_Changed (p0x0 : Fleetmake_Stream) (p1x0 : Str) (p2x0 : Str) : Option (Str × Fleetmake_Stream) :=
  Stream_Changed_j1 p0x0 p1x0 p2x0 ((decide (p1x0 = ([] : Str))) || (decide (p2x0 = ([] : Str))))

noncomputable def Stream_SerialText_b1 (v12 : Int × Fleetmake_Stream) (l17 : List Int) (n18 : Int) (q19 : Str) (n20 : Int) : Option (((List Int) × Int × Str × Int) ⊕ (Str × Fleetmake_Stream)) :=
  if n20 < v12.1 then
    (Stream_Changed (⟨l17, n18⟩ : Fleetmake_Stream) q19 ([65, 66, 48, 49, 50, 51, 45, 77] : Str)).bind fun v21 =>
    some (.inl (v21.2.L, v21.2.at_, v21.1, w64 (n20 + (1 : Int))))
  else
    Option.map .inr (some (q19, (⟨l17, n18⟩ : Fleetmake_Stream)))

noncomputable def Stream_SerialText_l1 (v12 : Int × Fleetmake_Stream) (l17 : List Int) (n18 : Int) (q19 : Str) (n20 : Int) : Option (Str × Fleetmake_Stream) :=
  iter (fun x : (List Int) × Int × Str × Int => Stream_SerialText_b1 v12 x.1 x.2.1 x.2.2.1 x.2.2.2) (l17, n18, q19, n20)

noncomputable def Stream_SerialText_j3 (v9 : Bool × Fleetmake_Stream) (q10 : Str) : Option (Str × Fleetmake_Stream) :=
  (Stream_Pick v9.2 [(0 : Int), (0 : Int), (1 : Int)]).bind fun v12 =>
  Stream_SerialText_l1 v12 v12.2.L v12.2.at_ q10 (0 : Int)

noncomputable def Stream_SerialText_j1 (l1 : List Int) (n2 : Int) (q3 : Str) : Option (Str × Fleetmake_Stream) :=
  (Stream_Flip (⟨l1, n2⟩ : Fleetmake_Stream) (3 : Int)).bind fun v9 =>
  if v9.1 = true then
    (toLowerO q3).bind fun v11 =>
    Stream_SerialText_j3 v9 v11
  else
    Stream_SerialText_j3 v9 q3

noncomputable def Stream_SerialText_j2 (v6 : Int × Fleetmake_Stream) (q8 : Str) : Option (Str × Fleetmake_Stream) :=
  Stream_SerialText_j1 v6.2.L v6.2.at_ q8

noncomputable def Stream_SerialText (p0x0 : Fleetmake_Stream) (p1x0 : List Model) : Option (Str × Fleetmake_Stream) :=
  if (0 : Int) < (p1x0.length : Int) then
    (Stream_Next p0x0 (p1x0.length : Int)).bind fun v4 =>
    (idx p1x0 v4.1).bind fun v5 =>
    (Stream_Pick v4.2 [(1 : Int), (7 : Int), (99 : Int), (12345678 : Int)]).bind fun v6 =>
    (Q_SerialOf p1x0 v5.Key v6.1).bind fun v7 =>
    if v7.2 = (0 : Int) then
      Stream_SerialText_j2 v6 v7.1
    else
      Stream_SerialText_j2 v6 ([65, 66, 45, 48, 48, 48, 48, 48, 48, 48, 55, 45, 77] : Str)
  else
    Stream_SerialText_j1 p0x0.L p0x0.at_ ([65, 66, 45, 48, 48, 48, 48, 48, 48, 48, 55, 45, 77] : Str)

noncomputable def base_Key_j2 (n5 : Int) (c7 : Bool) : Option (Int ⊕ Bool) :=
  if c7 = true then
    Option.map .inr (some false)
  else
    some (.inl (w64 (n5 + (1 : Int))))

noncomputable def base_Key_b1 (p0x0 : Str) (n5 : Int) : Option (Int ⊕ Bool) :=
  if n5 < (p0x0.length : Int) then
    (idx p0x0 n5).bind fun c6 =>
    base_Key_j2 n5 (if (97 : Int) ≤ (c6.toNat : Int) then if (c6.toNat : Int) ≤ (122 : Int) then !true else if (48 : Int) ≤ (c6.toNat : Int) then if (c6.toNat : Int) ≤ (57 : Int) then !true else if (c6.toNat : Int) = (45 : Int) then !true else decide (¬ ((c6.toNat : Int) = (95 : Int))) else if (c6.toNat : Int) = (45 : Int) then !true else decide (¬ ((c6.toNat : Int) = (95 : Int))) else if (48 : Int) ≤ (c6.toNat : Int) then if (c6.toNat : Int) ≤ (57 : Int) then !true else if (c6.toNat : Int) = (45 : Int) then !true else decide (¬ ((c6.toNat : Int) = (95 : Int))) else if (c6.toNat : Int) = (45 : Int) then !true else decide (¬ ((c6.toNat : Int) = (95 : Int))))
  else
    Option.map .inr (some true)

noncomputable def base_Key_l1 (p0x0 : Str) (n5 : Int) : Option Bool :=
  iter (fun x : Int => base_Key_b1 p0x0 x) n5

noncomputable def base_Key_j1 (p0x0 : Str) (c1 : Bool) : Option Bool :=
  if c1 = true then
    some false
  else
    base_Key_l1 p0x0 (0 : Int)

noncomputable def base_Key (p0x0 : Str) : Option Bool :=
  if p0x0 = ([] : Str) then
    base_Key_j1 p0x0 true
  else
    if (40 : Int) < (p0x0.length : Int) then
      base_Key_j1 p0x0 true
    else
      (idx p0x0 (0 : Int)).bind fun c2 =>
      if (c2.toNat : Int) < (97 : Int) then
        base_Key_j1 p0x0 true
      else
        (idx p0x0 (0 : Int)).bind fun c3 =>
        base_Key_j1 p0x0 (decide ((122 : Int) < (c3.toNat : Int)))

noncomputable def base_Out_j1 (c1 : Bool) : Bool :=
  c1

noncomputable def base_Out (p0x0 : Int) (p1x0 : Int) (p2x0 : Int) : Bool :=
  base_Out_j1 ((decide (p0x0 < p1x0)) || (decide (p2x0 < p0x0)))

noncomputable def device_isPrefix_j1 (c1 : Bool) : Option Bool :=
  some c1

noncomputable def device_isPrefix (p0x0 : Str) : Option Bool :=
  if (!(base_Out (p0x0.length : Int) (2 : Int) (4 : Int))) = true then
    (trimO p0x0 ([65, 66, 67, 68, 69, 70, 71, 72, 73, 74, 75, 76, 77, 78, 79, 80, 81, 82, 83, 84, 85, 86, 87, 88, 89, 90] : Str)).bind fun v2 =>
    device_isPrefix_j1 (decide (v2 = ([] : Str)))
  else
    device_isPrefix_j1 false

noncomputable def device_CheckModels_1x (p0x0 : Model) (p1x0 : Model) : Bool :=
  decide (p0x0.Prefix = p1x0.Prefix)

noncomputable def slices_ContainsFunc_Model_Model (p0x0 : List Model) (fnb : Model → Option Bool) : Option Bool :=
  (slices_IndexFunc_Model_Model p0x0 fnb).bind fun v1 =>
  some (decide ((0 : Int) ≤ v1))

noncomputable def base_Dotted_b1 (p1x0 : Int) (q3 : Str) (n4 : Int) : Option ((Str × Int) ⊕ Bool) :=
  if n4 < p1x0 then
    (cutO q3 ([46] : Str)).bind fun v5 =>
    (base_Key v5.1).bind fun v6 =>
    if (!v6) = true then
      Option.map .inr (some false)
    else
      if (!v5.2.2) = true then
        Option.map .inr (some true)
      else
        some (.inl (v5.2.1, w64 (n4 + (1 : Int))))
  else
    Option.map .inr (some false)

noncomputable def base_Dotted_l1 (p1x0 : Int) (q3 : Str) (n4 : Int) : Option Bool :=
  iter (fun x : Str × Int => base_Dotted_b1 p1x0 x.1 x.2) (q3, n4)

noncomputable def base_Dotted (p0x0 : Str) (p1x0 : Int) : Option Bool :=
  base_Dotted_l1 p1x0 p0x0 (0 : Int)

noncomputable def item_Property_j1 (c1 : Bool) : Option Bool :=
  some c1

noncomputable def item_Property (p0x0 : Str) : Option Bool :=
  if (p0x0.length : Int) ≤ (40 : Int) then
    (base_Dotted p0x0 (5 : Int)).bind fun v2 =>
    item_Property_j1 v2
  else
    item_Property_j1 false

noncomputable def device_typesFault_j3 (n2 : Int) (c9 : Bool) : Option (Int ⊕ Int) :=
  if c9 = true then
    Option.map .inr (some (3 : Int))
  else
    some (.inl (w64 (n2 + (1 : Int))))

noncomputable def device_typesFault_j2 (n2 : Int) (v3 : PropType) (c8 : Bool) : Option (Int ⊕ Int) :=
  if c8 = true then
    Option.map .inr (some (1 : Int))
  else
    device_typesFault_j3 n2 ((decide (¬ (v3.Kind = (2 : Int)))) && ((decide (v3.Low ≠ (0 : Int))) || (decide (v3.High ≠ (0 : Int)))))

noncomputable def device_typesFault_j1 (n2 : Int) (v3 : PropType) (c6 : Bool) : Option (Int ⊕ Int) :=
  if c6 = true then
    Option.map .inr (some (7 : Int))
  else
    if (base_Out v3.Kind (1 : Int) (3 : Int)) = true then
      Option.map .inr (some (4 : Int))
    else
      device_typesFault_j2 n2 v3 ((decide (v3.Kind = (2 : Int))) && ((base_Out v3.Low (-1000000000 : Int) v3.High) || (decide ((1000000000 : Int) < v3.High))))

noncomputable def device_typesFault_b1 (p0x0 : List PropType) (n2 : Int) : Option (Int ⊕ Int) :=
  if n2 < (p0x0.length : Int) then
    (idx p0x0 n2).bind fun v3 =>
    (item_Property v3.Name).bind fun v5 =>
    if (!v5) = true then
      Option.map .inr (some (5 : Int))
    else
      if (0 : Int) < n2 then
        (idx p0x0 (w64 (n2 - (1 : Int)))).bind fun v7 =>
        device_typesFault_j1 n2 v3 (Op.bytesLess v3.Name v7.Name || v3.Name == v7.Name)
      else
        device_typesFault_j1 n2 v3 false
  else
    Option.map .inr (some (0 : Int))

noncomputable def device_typesFault_l1 (p0x0 : List PropType) (n2 : Int) : Option Int :=
  iter (fun x : Int => device_typesFault_b1 p0x0 x) n2

noncomputable def device_typesFault (p0x0 : List PropType) : Option Int :=
  device_typesFault_l1 p0x0 (0 : Int)

noncomputable def device_CheckModels_j1 (p0x0 : List Model) (n2 : Int) (v3 : Model) (c6 : Bool) : Option (Int ⊕ Int) :=
  if c6 = true then
    Option.map .inr (some (7 : Int))
  else
    (device_isPrefix v3.Prefix).bind fun v8 =>
    if (!v8) = true then
      Option.map .inr (some (3 : Int))
    else
      (slc p0x0 (0 : Int) n2).bind fun l9 =>
      (slices_ContainsFunc_Model_Model l9 (fun y0 => some (device_CheckModels_1x y0 v3))).bind fun v10 =>
      if v10 = true then
        Option.map .inr (some (6 : Int))
      else
        if (50 : Int) < (v3.Props.length : Int) then
          Option.map .inr (some (2 : Int))
        else
          (device_typesFault v3.Props).bind fun v11 =>
          if v11 ≠ (0 : Int) then
            Option.map .inr (some v11)
          else
            some (.inl (w64 (n2 + (1 : Int))))

noncomputable def device_CheckModels_b1 (p0x0 : List Model) (n2 : Int) : Option (Int ⊕ Int) :=
  if n2 < (p0x0.length : Int) then
    (idx p0x0 n2).bind fun v3 =>
    (base_Key v3.Key).bind fun v5 =>
    if (!v5) = true then
      Option.map .inr (some (5 : Int))
    else
      if (0 : Int) < n2 then
        (idx p0x0 (w64 (n2 - (1 : Int)))).bind fun v7 =>
        device_CheckModels_j1 p0x0 n2 v3 (Op.bytesLess v3.Key v7.Key || v3.Key == v7.Key)
      else
        device_CheckModels_j1 p0x0 n2 v3 false
  else
    Option.map .inr (some (0 : Int))

noncomputable def device_CheckModels_l1 (p0x0 : List Model) (n2 : Int) : Option Int :=
  iter (fun x : Int => device_CheckModels_b1 p0x0 x) n2

noncomputable def device_CheckModels (p0x0 : List Model) : Option Int :=
  if (50 : Int) < (p0x0.length : Int) then
    some (2 : Int)
  else
    device_CheckModels_l1 p0x0 (0 : Int)

noncomputable def device_model_1x (p0x0 : Model) (p1x0 : Str) : Bool :=
  decide (p0x0.Key = p1x0)

noncomputable def device_model (p0x0 : List Model) (p1x0 : Str) : Option Int :=
  (slices_IndexFunc_Model_Model p0x0 (fun y0 => some (device_model_1x y0 p1x0))).bind fun v2 =>
  some v2

noncomputable def device_checkOf_k1 (n3 : Int) : Option Int :=
  (idx ([48, 49, 50, 51, 52, 53, 54, 55, 56, 57, 65, 66, 67, 68, 69, 70, 71, 72, 73, 74, 75, 76, 77, 78, 79, 80, 81, 82, 83, 84, 85, 86, 87, 88, 89, 90] : Str) (n3.tmod (36 : Int))).bind fun c6 =>
  some (c6.toNat : Int)

noncomputable def device_checkOf_b1 (p0x0 : Str) (n3 : Int) (n4 : Int) : Option ((Int × Int) ⊕ Int) :=
  if n4 < (p0x0.length : Int) then
    (idx p0x0 n4).bind fun c5 =>
    some (.inl (w64 (n3 + (w64 ((w64 (n4 + (2 : Int))) * (indexByteI ([48, 49, 50, 51, 52, 53, 54, 55, 56, 57, 65, 66, 67, 68, 69, 70, 71, 72, 73, 74, 75, 76, 77, 78, 79, 80, 81, 82, 83, 84, 85, 86, 87, 88, 89, 90] : Str) (c5.toNat : Int))))), w64 (n4 + (1 : Int))))
  else
    Option.map .inr (device_checkOf_k1 n3)

noncomputable def device_checkOf_l1 (p0x0 : Str) (n3 : Int) (n4 : Int) : Option Int :=
  iter (fun x : Int × Int => device_checkOf_b1 p0x0 x.1 x.2) (n3, n4)

noncomputable def device_checkOf (p0x0 : Str) : Option Int :=
  device_checkOf_l1 p0x0 (0 : Int) (0 : Int)

noncomputable def device_Serial (p0x0 : List Model) (p1x0 : Str) (p2x0 : Int) : Option (Str × Int) :=
  (device_CheckModels p0x0).bind fun v1 =>
  if v1 ≠ (0 : Int) then
    some (([] : Str), v1)
  else
    (device_model p0x0 p1x0).bind fun v2 =>
    if v2 < (0 : Int) then
      some (([] : Str), (8 : Int))
    else
      if (base_Out p2x0 (1 : Int) (99999999 : Int)) = true then
        some (([] : Str), (1 : Int))
      else
        (itoaO p2x0).bind fun v3 =>
        (repeatO ([48] : Str) (w64 ((8 : Int) - (v3.length : Int)))).bind fun v4 =>
        (catO v4 v3).bind fun q5 =>
        (idx p0x0 v2).bind fun v6 =>
        (catO v6.Prefix ([45] : Str)).bind fun q7 =>
        (catO q7 q5).bind fun q8 =>
        (catO q8 ([45] : Str)).bind fun q9 =>
        (catO v6.Prefix q5).bind fun q10 =>
        (device_checkOf q10).bind fun v11 =>
        (catO q9 (strR v11)).bind fun q12 =>
        some (q12, (0 : Int))

noncomputable def device_capital_j2 (n5 : Int) (l8 : List Int) : Option (((List Int) × Int) ⊕ Str) :=
  some (.inl (l8, w64 (n5 + (1 : Int))))

noncomputable def device_capital_j1 (l4 : List Int) (n5 : Int) (v6 : Int) (c7 : Bool) : Option (((List Int) × Int) ⊕ Str) :=
  if c7 = true then
    (idx l4 n5).bind fun v9 =>
    device_capital_j2 n5 (l4.set n5.toNat (IntKind.u8.wrap (v6 - (32 : Int))))
  else
    device_capital_j2 n5 l4

noncomputable def device_capital_b1 (p0x0 : Str) (l4 : List Int) (n5 : Int) : Option (((List Int) × Int) ⊕ Str) :=
  if n5 < ((bytesI p0x0).length : Int) then
    (idx l4 n5).bind fun v6 =>
    device_capital_j1 l4 n5 v6 ((decide ((97 : Int) ≤ v6)) && (decide (v6 ≤ (122 : Int))))
  else
    Option.map .inr (some (strB l4))

noncomputable def device_capital_l1 (p0x0 : Str) (l4 : List Int) (n5 : Int) : Option Str :=
  iter (fun x : (List Int) × Int => device_capital_b1 p0x0 x.1 x.2) (l4, n5)

noncomputable def device_capital (p0x0 : Str) : Option Str :=
  device_capital_l1 p0x0 (bytesI p0x0) (0 : Int)

noncomputable def device_ReadSerial_1x (p0x0 : Model) (p1x0 : List Str) : Option Bool :=
  (idx p1x0 (0 : Int)).bind fun v2 =>
  some (decide (p0x0.Prefix = v2))

noncomputable def device_ReadSerial_j1 (p0x0 : List Model) (v3 : (List Str)) (c6 : Bool) : Option (Str × Int × Int) :=
  if c6 = true then
    some (([] : Str), (0 : Int), (9 : Int))
  else
    (slices_IndexFunc_Model_Model p0x0 (fun y0 => device_ReadSerial_1x y0 v3)).bind fun v15 =>
    if v15 < (0 : Int) then
      some (([] : Str), (0 : Int), (8 : Int))
    else
      (idx v3 (1 : Int)).bind fun v16 =>
      (atoiO v16).bind fun v17 =>
      if v17.1 = (0 : Int) then
        some (([] : Str), (0 : Int), (1 : Int))
      else
        (idx v3 (2 : Int)).bind fun v19 =>
        (idx v19 (0 : Int)).bind fun c20 =>
        (idx v3 (0 : Int)).bind fun v21 =>
        (idx v3 (1 : Int)).bind fun v22 =>
        (catO v21 v22).bind fun q23 =>
        (device_checkOf q23).bind fun v24 =>
        if (c20.toNat : Int) ≠ v24 then
          some (([] : Str), (0 : Int), (15 : Int))
        else
          (idx p0x0 v15).bind fun v25 =>
          some (v25.Key, v17.1, (0 : Int))

noncomputable def device_ReadSerial (p0x0 : List Model) (p1x0 : Str) : Option (Str × Int × Int) :=
  (device_CheckModels p0x0).bind fun v1 =>
  if v1 ≠ (0 : Int) then
    some (([] : Str), (0 : Int), v1)
  else
    (device_capital p1x0).bind fun v2 =>
    (splitO v2 ([45] : Str)).bind fun v3 =>
    if (v3.length : Int) ≠ (3 : Int) then
      device_ReadSerial_j1 p0x0 v3 true
    else
      (idx v3 (0 : Int)).bind fun v7 =>
      (device_isPrefix v7).bind fun v8 =>
      if (!v8) = true then
        device_ReadSerial_j1 p0x0 v3 true
      else
        (idx v3 (1 : Int)).bind fun v9 =>
        if (v9.length : Int) ≠ (8 : Int) then
          device_ReadSerial_j1 p0x0 v3 true
        else
          (idx v3 (1 : Int)).bind fun v10 =>
          (trimO v10 ([48, 49, 50, 51, 52, 53, 54, 55, 56, 57] : Str)).bind fun v11 =>
          if v11 ≠ ([] : Str) then
            device_ReadSerial_j1 p0x0 v3 true
          else
            (idx v3 (2 : Int)).bind fun v12 =>
            if (v12.length : Int) ≠ (1 : Int) then
              device_ReadSerial_j1 p0x0 v3 true
            else
              (idx v3 (2 : Int)).bind fun v13 =>
              (trimO v13 ([48, 49, 50, 51, 52, 53, 54, 55, 56, 57, 65, 66, 67, 68, 69, 70, 71, 72, 73, 74, 75, 76, 77, 78, 79, 80, 81, 82, 83, 84, 85, 86, 87, 88, 89, 90] : Str)).bind fun v14 =>
              device_ReadSerial_j1 p0x0 v3 (decide (v14 ≠ ([] : Str)))

noncomputable def Q_Key_j1 (c1 : Bool) : Option Bool :=
  some c1

noncomputable def Q_Key (p0x0 : Str) : Option Bool :=
  if (Q_in (p0x0.length : Int) (1 : Int) (40 : Int)) = true then
    (trimO p0x0 ([97, 98, 99, 100, 101, 102, 103, 104, 105, 106, 107, 108, 109, 110, 111, 112, 113, 114, 115, 116, 117, 118, 119, 120, 121, 122, 48, 49, 50, 51, 52, 53, 54, 55, 56, 57, 45, 95] : Str)).bind fun v2 =>
    if v2 = ([] : Str) then
      (idx p0x0 (0 : Int)).bind fun c3 =>
      Q_Key_j1 (decide ((0 : Int) ≤ (indexByteI ([97, 98, 99, 100, 101, 102, 103, 104, 105, 106, 107, 108, 109, 110, 111, 112, 113, 114, 115, 116, 117, 118, 119, 120, 121, 122] : Str) (c3.toNat : Int))))
    else
      Q_Key_j1 false
  else
    Q_Key_j1 false

noncomputable def Q_ModelsFault_1x (p0x0 : Model) (p1x0 : Model) : Bool :=
  decide (p0x0.Prefix = p1x0.Prefix)

noncomputable def Q_PropName_1x (p0x0 : Str) : Option Bool :=
  (Q_Key p0x0).bind fun v1 =>
  some (!v1)

noncomputable def slices_IndexFunc_string_string_b1 (p0x0 : List Str) (fnb : Str → Option Bool) (n2 : Int) : Option (Int ⊕ Int) :=
  if n2 < (p0x0.length : Int) then
    (idx p0x0 n2).bind fun v3 =>
    (fnb v3).bind fun v4 =>
    if v4 = true then
      Option.map .inr (some n2)
    else
      some (.inl (w64 (n2 + (1 : Int))))
  else
    Option.map .inr (some (-1 : Int))

noncomputable def slices_IndexFunc_string_string_l1 (p0x0 : List Str) (fnb : Str → Option Bool) (n2 : Int) : Option Int :=
  iter (fun x : Int => slices_IndexFunc_string_string_b1 p0x0 fnb x) n2

noncomputable def slices_IndexFunc_string_string (p0x0 : List Str) (fnb : Str → Option Bool) : Option Int :=
  slices_IndexFunc_string_string_l1 p0x0 fnb (0 : Int)

noncomputable def slices_ContainsFunc_string_string (p0x0 : List Str) (fnb : Str → Option Bool) : Option Bool :=
  (slices_IndexFunc_string_string p0x0 fnb).bind fun v1 =>
  some (decide ((0 : Int) ≤ v1))

noncomputable def Q_PropName_j1 (c3 : Bool) : Option Bool :=
  some c3

noncomputable def Q_PropName (p0x0 : Str) : Option Bool :=
  (splitO p0x0 ([46] : Str)).bind fun v1 =>
  if (p0x0.length : Int) ≤ (40 : Int) then
    if (v1.length : Int) ≤ (5 : Int) then
      (slices_ContainsFunc_string_string v1 (fun y0 => Q_PropName_1x y0)).bind fun v4 =>
      Q_PropName_j1 (!v4)
    else
      Q_PropName_j1 false
  else
    Q_PropName_j1 false

noncomputable def Q_ModelsFault_j5 (n14 : Int) (c21 : Bool) : Option (Int ⊕ (Int ⊕ Int)) :=
  if c21 = true then
    Option.map .inr (Option.map .inr (some (3 : Int)))
  else
    some (.inl (w64 (n14 + (1 : Int))))

noncomputable def Q_ModelsFault_j4 (n14 : Int) (v15 : PropType) (c20 : Bool) : Option (Int ⊕ (Int ⊕ Int)) :=
  if c20 = true then
    Option.map .inr (Option.map .inr (some (1 : Int)))
  else
    Q_ModelsFault_j5 n14 ((decide (¬ (v15.Kind = (2 : Int)))) && ((decide (v15.Low ≠ (0 : Int))) || (decide (v15.High ≠ (0 : Int)))))

noncomputable def Q_ModelsFault_j3 (n14 : Int) (v15 : PropType) (c18 : Bool) : Option (Int ⊕ (Int ⊕ Int)) :=
  if c18 = true then
    Option.map .inr (Option.map .inr (some (7 : Int)))
  else
    if (!(Q_in v15.Kind (1 : Int) (3 : Int))) = true then
      Option.map .inr (Option.map .inr (some (4 : Int)))
    else
      Q_ModelsFault_j4 n14 v15 ((decide (v15.Kind = (2 : Int))) && ((!(Q_in v15.Low (-1000000000 : Int) v15.High)) || (decide ((1000000000 : Int) < v15.High))))

noncomputable def Q_ModelsFault_b2 (n2 : Int) (v3 : Model) (n14 : Int) : Option (Int ⊕ (Int ⊕ Int)) :=
  if n14 < (v3.Props.length : Int) then
    (idx v3.Props n14).bind fun v15 =>
    (Q_PropName v15.Name).bind fun v17 =>
    if (!v17) = true then
      Option.map .inr (Option.map .inr (some (5 : Int)))
    else
      if (0 : Int) < n14 then
        (idx v3.Props (w64 (n14 - (1 : Int)))).bind fun v19 =>
        Q_ModelsFault_j3 n14 v15 (Op.bytesLess v15.Name v19.Name || v15.Name == v19.Name)
      else
        Q_ModelsFault_j3 n14 v15 false
  else
    Option.map .inr (some (.inl (w64 (n2 + (1 : Int)))))

noncomputable def Q_ModelsFault_l2 (n2 : Int) (v3 : Model) (n14 : Int) : Option (Int ⊕ Int) :=
  iter (fun x : Int => Q_ModelsFault_b2 n2 v3 x) n14

noncomputable def Q_ModelsFault_j2 (p0x0 : List Model) (n2 : Int) (v3 : Model) (c8 : Bool) : Option (Int ⊕ Int) :=
  if c8 = true then
    Option.map .inr (some (3 : Int))
  else
    (slc p0x0 (0 : Int) n2).bind fun l11 =>
    (slices_ContainsFunc_Model_Model l11 (fun y0 => some (Q_ModelsFault_1x y0 v3))).bind fun v12 =>
    if v12 = true then
      Option.map .inr (some (6 : Int))
    else
      if (50 : Int) < (v3.Props.length : Int) then
        Option.map .inr (some (2 : Int))
      else
        Q_ModelsFault_l2 n2 v3 (0 : Int)

noncomputable def Q_ModelsFault_j1 (p0x0 : List Model) (n2 : Int) (v3 : Model) (c6 : Bool) : Option (Int ⊕ Int) :=
  if c6 = true then
    Option.map .inr (some (7 : Int))
  else
    if (!(Q_in (v3.Prefix.length : Int) (2 : Int) (4 : Int))) = true then
      Q_ModelsFault_j2 p0x0 n2 v3 true
    else
      (toUpperO ([97, 98, 99, 100, 101, 102, 103, 104, 105, 106, 107, 108, 109, 110, 111, 112, 113, 114, 115, 116, 117, 118, 119, 120, 121, 122] : Str)).bind fun v9 =>
      (trimO v3.Prefix v9).bind fun v10 =>
      Q_ModelsFault_j2 p0x0 n2 v3 (decide (v10 ≠ ([] : Str)))

noncomputable def Q_ModelsFault_b1 (p0x0 : List Model) (n2 : Int) : Option (Int ⊕ Int) :=
  if n2 < (p0x0.length : Int) then
    (idx p0x0 n2).bind fun v3 =>
    (Q_Key v3.Key).bind fun v5 =>
    if (!v5) = true then
      Option.map .inr (some (5 : Int))
    else
      if (0 : Int) < n2 then
        (idx p0x0 (w64 (n2 - (1 : Int)))).bind fun v7 =>
        Q_ModelsFault_j1 p0x0 n2 v3 (Op.bytesLess v3.Key v7.Key || v3.Key == v7.Key)
      else
        Q_ModelsFault_j1 p0x0 n2 v3 false
  else
    Option.map .inr (some (0 : Int))

noncomputable def Q_ModelsFault_l1 (p0x0 : List Model) (n2 : Int) : Option Int :=
  iter (fun x : Int => Q_ModelsFault_b1 p0x0 x) n2

noncomputable def Q_ModelsFault (p0x0 : List Model) : Option Int :=
  if (50 : Int) < (p0x0.length : Int) then
    some (2 : Int)
  else
    Q_ModelsFault_l1 p0x0 (0 : Int)

noncomputable def L_deviced_j1 (c2 : Bool) : Option Bool :=
  some c2

noncomputable def L_deviced : Option Bool :=
  (device_Serial [(⟨([109] : Str), ([65, 66] : Str), []⟩ : Model)] ([109] : Str) (7 : Int)).bind fun v1 =>
  L_deviced_j1 ((decide (v1.2 = (0 : Int))) && (decide (v1.1 = ([65, 66, 45, 48, 48, 48, 48, 48, 48, 48, 55, 45, 77] : Str))))

noncomputable def Q_upper_j2 (n5 : Int) (l8 : List Int) : Option (((List Int) × Int) ⊕ Str) :=
  some (.inl (l8, w64 (n5 + (1 : Int))))

noncomputable def Q_upper_j1 (l4 : List Int) (n5 : Int) (v6 : Int) (c7 : Bool) : Option (((List Int) × Int) ⊕ Str) :=
  if c7 = true then
    (idx l4 n5).bind fun v9 =>
    Q_upper_j2 n5 (l4.set n5.toNat (IntKind.u8.wrap (v6 - (32 : Int))))
  else
    Q_upper_j2 n5 l4

noncomputable def Q_upper_b1 (p0x0 : Str) (l4 : List Int) (n5 : Int) : Option (((List Int) × Int) ⊕ Str) :=
  if n5 < ((bytesI p0x0).length : Int) then
    (idx l4 n5).bind fun v6 =>
    Q_upper_j1 l4 n5 v6 ((decide ((97 : Int) ≤ v6)) && (decide (v6 ≤ (122 : Int))))
  else
    Option.map .inr (some (strB l4))

noncomputable def Q_upper_l1 (p0x0 : Str) (l4 : List Int) (n5 : Int) : Option Str :=
  iter (fun x : (List Int) × Int => Q_upper_b1 p0x0 x.1 x.2) (l4, n5)

noncomputable def Q_upper (p0x0 : Str) : Option Str :=
  Q_upper_l1 p0x0 (bytesI p0x0) (0 : Int)

noncomputable def strings_Contains (p0x0 : Str) (p1x0 : Str) : Option Bool :=
  (indexO p0x0 p1x0).bind fun v1 =>
  some (decide ((0 : Int) ≤ v1))

noncomputable def Q_SerialRead_1x (p0x0 : Model) (p1x0 : List Str) : Option Bool :=
  (idx p1x0 (0 : Int)).bind fun v2 =>
  some (decide (p0x0.Prefix = v2))

noncomputable def Q_SerialRead_j1 (p0x0 : List Model) (p1x0 : Str) (v2 : (List Str)) (c5 : Bool) : Option (Str × Int × Int) :=
  if c5 = true then
    some (([] : Str), (0 : Int), (9 : Int))
  else
    (slices_IndexFunc_Model_Model p0x0 (fun y0 => Q_SerialRead_1x y0 v2)).bind fun v16 =>
    (idx v2 (1 : Int)).bind fun v17 =>
    (atoiO v17).bind fun v18 =>
    if v16 < (0 : Int) then
      some (([] : Str), (0 : Int), (8 : Int))
    else
      if v18.1 = (0 : Int) then
        some (([] : Str), (0 : Int), (1 : Int))
      else
        (idx v2 (0 : Int)).bind fun v20 =>
        (Q_serialOf v20 v18.1).bind fun v21 =>
        (Q_upper p1x0).bind fun v22 =>
        if v21 ≠ v22 then
          some (([] : Str), (0 : Int), (15 : Int))
        else
          (idx p0x0 v16).bind fun v23 =>
          some (v23.Key, v18.1, (0 : Int))

noncomputable def Q_SerialRead (p0x0 : List Model) (p1x0 : Str) : Option (Str × Int × Int) :=
  (Q_upper p1x0).bind fun v1 =>
  (splitO v1 ([45] : Str)).bind fun v2 =>
  if (v2.length : Int) ≠ (3 : Int) then
    Q_SerialRead_j1 p0x0 p1x0 v2 true
  else
    (idx v2 (0 : Int)).bind fun v6 =>
    if (!(Q_in (v6.length : Int) (2 : Int) (4 : Int))) = true then
      Q_SerialRead_j1 p0x0 p1x0 v2 true
    else
      (idx v2 (0 : Int)).bind fun v7 =>
      (toUpperO ([97, 98, 99, 100, 101, 102, 103, 104, 105, 106, 107, 108, 109, 110, 111, 112, 113, 114, 115, 116, 117, 118, 119, 120, 121, 122] : Str)).bind fun v8 =>
      (trimO v7 v8).bind fun v9 =>
      if v9 ≠ ([] : Str) then
        Q_SerialRead_j1 p0x0 p1x0 v2 true
      else
        (idx v2 (1 : Int)).bind fun v10 =>
        if (v10.length : Int) ≠ (8 : Int) then
          Q_SerialRead_j1 p0x0 p1x0 v2 true
        else
          (idx v2 (1 : Int)).bind fun v11 =>
          (trimO v11 ([48, 49, 50, 51, 52, 53, 54, 55, 56, 57] : Str)).bind fun v12 =>
          if v12 ≠ ([] : Str) then
            Q_SerialRead_j1 p0x0 p1x0 v2 true
          else
            (idx v2 (2 : Int)).bind fun v13 =>
            if (v13.length : Int) ≠ (1 : Int) then
              Q_SerialRead_j1 p0x0 p1x0 v2 true
            else
              (idx v2 (2 : Int)).bind fun v14 =>
              (strings_Contains ([48, 49, 50, 51, 52, 53, 54, 55, 56, 57, 65, 66, 67, 68, 69, 70, 71, 72, 73, 74, 75, 76, 77, 78, 79, 80, 81, 82, 83, 84, 85, 86, 87, 88, 89, 90] : Str) v14).bind fun v15 =>
              Q_SerialRead_j1 p0x0 p1x0 v2 (!v15)

noncomputable def L_SerialsRead_j1 (c11 : Bool) : Option Bool :=
  some c11

noncomputable def L_SerialsRead_j2 (c15 : Bool) : Option Bool :=
  some c15

noncomputable def L_SerialsRead (p0x0 : List Int) : Option Bool :=
  (Stream_Kinds (⟨p0x0, (0 : Int)⟩ : Fleetmake_Stream)).bind fun v2 =>
  (Stream_Some v2.2 [([109, 97] : Str), ([109, 98] : Str), ([110, 111, 110, 101] : Str)]).bind fun v3 =>
  (Stream_Next v3.2 (1048576 : Int)).bind fun v4 =>
  (Stream_Pick v4.2 [(1 : Int), (7 : Int), (99 : Int), (99999999 : Int), (0 : Int), (100000000 : Int), v4.1]).bind fun v5 =>
  (Stream_SerialText v5.2 v2.1).bind fun v6 =>
  (device_Serial v2.1 v3.1 v5.1).bind fun v7 =>
  (device_ReadSerial v2.1 v6.1).bind fun v8 =>
  (Q_ModelsFault v2.1).bind fun v9 =>
  (device_CheckModels v2.1).bind fun v10 =>
  if v10 ≠ v9 then
    some false
  else
    if v9 ≠ (0 : Int) then
      if v7.2 = v9 then
        if v8.2.2 = v9 then
          if v7.1 = ([] : Str) then
            if v8.1 = ([] : Str) then
              (L_deviced).bind fun v12 =>
              L_SerialsRead_j1 v12
            else
              L_SerialsRead_j1 false
          else
            L_SerialsRead_j1 false
        else
          L_SerialsRead_j1 false
      else
        L_SerialsRead_j1 false
    else
      (Q_SerialOf v2.1 v3.1 v5.1).bind fun v13 =>
      (Q_SerialRead v2.1 v6.1).bind fun v14 =>
      if v7.2 = v13.2 then
        if v7.1 = v13.1 then
          if v8.2.2 = v14.2.2 then
            if v8.1 = v14.1 then
              if v8.2.1 = v14.2.1 then
                (L_deviced).bind fun v16 =>
                L_SerialsRead_j2 v16
              else
                L_SerialsRead_j2 false
            else
              L_SerialsRead_j2 false
          else
            L_SerialsRead_j2 false
        else
          L_SerialsRead_j2 false
      else
        L_SerialsRead_j2 false

end Go.Beacon

