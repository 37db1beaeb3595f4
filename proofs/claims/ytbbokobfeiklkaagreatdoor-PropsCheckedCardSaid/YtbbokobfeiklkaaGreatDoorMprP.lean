/- Plain functions that the Go functions compute, written by shal.py. -/
import Derived.Test.YtbbokobfeiklkaaGreatDoorCore
set_option linter.unusedVariables false
namespace Go.Beacon
open Go Go.Eng
structure Fleetmake_Stream where
  L : List Int
  at_ : Int
deriving DecidableEq, Inhabited
def Fleetmake_Stream.av (x : Fleetmake_Stream) : AV := .agg [.list 1 (x.L.map I), I x.at_]

structure PropType where
  Name : Str
  Kind : Int
  Low : Int
  High : Int
deriving DecidableEq, Inhabited
def PropType.av (x : PropType) : AV := .agg [.str x.Name, I x.Kind, I x.Low, I x.High]

structure Model where
  Key : Str
  Prefix : Str
  Props : List PropType
deriving DecidableEq, Inhabited
def Model.av (x : Model) : AV := .agg [.str x.Key, .str x.Prefix, .list 4 (x.Props.map PropType.av)]

structure ValueS where
  Kind : Int
  Flag : Bool
  Number : Int
  Words : Str
deriving DecidableEq, Inhabited
def ValueS.av (x : ValueS) : AV := .agg [I x.Kind, .bool x.Flag, I x.Number, .str x.Words]

structure PropS where
  Name : Str
  Value : ValueS
deriving DecidableEq, Inhabited
def PropS.av (x : PropS) : AV := .agg [.str x.Name, I x.Value.Kind, .bool x.Value.Flag, I x.Value.Number, .str x.Value.Words]

noncomputable def Below_j1 (n2 : Int) : Option Int :=
  some n2

noncomputable def Below (p0x0 : Int) (p1x0 : Int) : Option Int :=
  if p1x0 < (1 : Int) then
    some (0 : Int)
  else
    (rem p0x0 p1x0).bind fun n1 =>
    if n1 < (0 : Int) then
      Below_j1 (w64 (n1 + p1x0))
    else
      Below_j1 n1

noncomputable def Stream_Next (p0x0 : Fleetmake_Stream) (p1x0 : Int) : Option (Int × Fleetmake_Stream) :=
  if (p0x0.L.length : Int) = (0 : Int) then
    (Below (w64 ((w64 (p0x0.at_ + (1 : Int))) * (7919 : Int))) p1x0).bind fun v1 =>
    some (v1, (⟨p0x0.L, w64 (p0x0.at_ + (1 : Int))⟩ : Fleetmake_Stream))
  else
    (rem (w64 ((w64 (p0x0.at_ + (1 : Int))) - (1 : Int))) (p0x0.L.length : Int)).bind fun n2 =>
    (quo (w64 ((w64 (p0x0.at_ + (1 : Int))) - (1 : Int))) (p0x0.L.length : Int)).bind fun n3 =>
    (idx p0x0.L n2).bind fun v4 =>
    (Below v4 (1073741824 : Int)).bind fun v5 =>
    (Below (w64 (v5 + (w64 (n3 * (w64 ((7919 : Int) + n2)))))) p1x0).bind fun v6 =>
    some (v6, (⟨p0x0.L, w64 (p0x0.at_ + (1 : Int))⟩ : Fleetmake_Stream))

noncomputable def Stream_Some (p0x0 : Fleetmake_Stream) (p1x0 : List Str) : Option (Str × Fleetmake_Stream) :=
  (Stream_Next p0x0 (p1x0.length : Int)).bind fun v1 =>
  (idx p1x0 v1.1).bind fun v2 =>
  some (v2, v1.2)

noncomputable def Stream_RightKinds (p0x0 : Fleetmake_Stream) : Option ((Model × Model) × Fleetmake_Stream) :=
  (Stream_Some p0x0 [([65, 66, 67] : Str), ([88, 89] : Str), ([90, 90, 90, 90] : Str)]).bind fun v2 =>
  some (((⟨([109, 97] : Str), ([65, 66] : Str), [(⟨([97] : Str), (2 : Int), (-5 : Int), (50 : Int)⟩ : PropType), (⟨([98] : Str), (3 : Int), (0 : Int), (0 : Int)⟩ : PropType), (⟨([102, 97, 110, 46, 111, 110] : Str), (1 : Int), (0 : Int), (0 : Int)⟩ : PropType)]⟩ : Model), (⟨([109, 98] : Str), v2.1, [(⟨([97] : Str), (1 : Int), (0 : Int), (0 : Int)⟩ : PropType)]⟩ : Model)), v2.2)

noncomputable def Stream_Flip (p0x0 : Fleetmake_Stream) (p1x0 : Int) : Option (Bool × Fleetmake_Stream) :=
  (Stream_Next p0x0 p1x0).bind fun v1 =>
  some (decide (v1.1 = (0 : Int)), v1.2)

noncomputable def Stream_Pick (p0x0 : Fleetmake_Stream) (p1x0 : List Int) : Option (Int × Fleetmake_Stream) :=
  (Stream_Next p0x0 (p1x0.length : Int)).bind fun v1 =>
  (idx p1x0 v1.1).bind fun v2 =>
  some (v2, v1.2)

noncomputable def Stream_Range (p0x0 : Fleetmake_Stream) (p1x0 : Int) (p2x0 : Int) : Option (Int × Fleetmake_Stream) :=
  if p2x0 < p1x0 then
    some (p1x0, p0x0)
  else
    (Stream_Next p0x0 (w64 ((w64 (p2x0 - p1x0)) + (1 : Int)))).bind fun v1 =>
    some (w64 (p1x0 + v1.1), v1.2)

noncomputable def Stream_Odd (p0x0 : Fleetmake_Stream) (p1x0 : Int) (p2x0 : Int) : Option (Int × Fleetmake_Stream) :=
  (Stream_Flip p0x0 (12 : Int)).bind fun v1 =>
  if v1.1 = true then
    (Stream_Pick v1.2 [w64 (p1x0 - (1 : Int)), w64 (p2x0 + (1 : Int)), p1x0, p2x0, (-1099511627776 : Int), (1099511627776 : Int)]).bind fun v2 =>
    some (v2.1, v2.2)
  else
    (Stream_Range v1.2 p1x0 p2x0).bind fun v3 =>
    some (v3.1, v3.2)

noncomputable def Stream_Kinds_j1 (l7 : List Int) (n8 : Int) (l10 : List Model) : Option ((List Model) × Fleetmake_Stream) :=
  some (l10, (⟨l7, n8⟩ : Fleetmake_Stream))

noncomputable def Stream_Kinds_j2 (l13 : List Int) (n14 : Int) (l16 : List Model) : Option ((List Model) × Fleetmake_Stream) :=
  Stream_Kinds_j1 l13 n14 l16

noncomputable def Stream_Kinds_j3 (l18 : List Int) (n19 : Int) (l21 : List Model) : Option ((List Model) × Fleetmake_Stream) :=
  Stream_Kinds_j2 l18 n19 l21

noncomputable def Stream_Kinds_j4 (l23 : List Int) (n24 : Int) (l26 : List Model) : Option ((List Model) × Fleetmake_Stream) :=
  Stream_Kinds_j3 l23 n24 l26

noncomputable def Stream_Kinds_j5 (l31 : List Int) (n32 : Int) (l34 : List Model) : Option ((List Model) × Fleetmake_Stream) :=
  Stream_Kinds_j4 l31 n32 l34

noncomputable def Stream_Kinds_j6 (l42 : List Int) (n43 : Int) (l45 : List Model) : Option ((List Model) × Fleetmake_Stream) :=
  Stream_Kinds_j1 l42 n43 l45

noncomputable def Stream_Kinds_j7 (l47 : List Int) (n48 : Int) (l50 : List Model) : Option ((List Model) × Fleetmake_Stream) :=
  Stream_Kinds_j6 l47 n48 l50

noncomputable def Stream_Kinds_j8 (l52 : List Int) (n53 : Int) (l55 : List Model) : Option ((List Model) × Fleetmake_Stream) :=
  Stream_Kinds_j7 l52 n53 l55

noncomputable def Stream_Kinds_j9 (l60 : List Int) (n61 : Int) (l63 : List Model) : Option ((List Model) × Fleetmake_Stream) :=
  Stream_Kinds_j8 l60 n61 l63

noncomputable def Stream_Kinds (p0x0 : Fleetmake_Stream) : Option ((List Model) × Fleetmake_Stream) :=
  (Stream_RightKinds p0x0).bind fun v1 =>
  (Stream_Flip v1.2 (15 : Int)).bind fun v6 =>
  if v6.1 = true then
    (Stream_Next v6.2 (2 : Int)).bind fun v11 =>
    if v11.1 = (0 : Int) then
      (Stream_Next v11.2 (5 : Int)).bind fun v12 =>
      if v12.1 = (0 : Int) then
        (Stream_Some v12.2 [([] : Str), ([109, 97] : Str), ([65] : Str)]).bind fun v17 =>
        Stream_Kinds_j2 v17.2.L v17.2.at_ [(⟨v17.1, v1.1.1.Prefix, v1.1.1.Props⟩ : Model), v1.1.2]
      else
        if v12.1 = (1 : Int) then
          (Stream_Some v12.2 [([65] : Str), ([65, 66, 67, 68, 69] : Str), ([97, 98] : Str), ([65, 66] : Str), ([65, 49] : Str)]).bind fun v22 =>
          Stream_Kinds_j3 v22.2.L v22.2.at_ [(⟨v1.1.1.Key, v22.1, v1.1.1.Props⟩ : Model), v1.1.2]
        else
          if v12.1 = (2 : Int) then
            (Stream_Some v12.2 [([122, 122] : Str), ([97] : Str), ([97, 46, 46, 98] : Str), ([65] : Str), ([97, 46, 98, 46, 99, 46, 100, 46, 101, 46, 102] : Str)]).bind fun v27 =>
            (Stream_Odd v27.2 (1 : Int) (3 : Int)).bind fun v28 =>
            (app v1.1.1.Props [(⟨v27.1, v28.1, (0 : Int), (0 : Int)⟩ : PropType)]).bind fun l29 =>
            Stream_Kinds_j4 v28.2.L v28.2.at_ [(⟨v1.1.1.Key, v1.1.1.Prefix, l29⟩ : Model), v1.1.2]
          else
            if v12.1 = (3 : Int) then
              (Stream_Odd v12.2 (-3 : Int) (3 : Int)).bind fun v35 =>
              (Stream_Odd v35.2 (-3 : Int) (3 : Int)).bind fun v36 =>
              (idx v1.1.1.Props (0 : Int)).bind fun v37 =>
              (idx (v1.1.1.Props.set (0 : Int).toNat (⟨v37.Name, v37.Kind, v35.1, v37.High⟩ : PropType)) (0 : Int)).bind fun v38 =>
              Stream_Kinds_j5 v36.2.L v36.2.at_ [(⟨v1.1.1.Key, v1.1.1.Prefix, (v1.1.1.Props.set (0 : Int).toNat (⟨v37.Name, v37.Kind, v35.1, v37.High⟩ : PropType)).set (0 : Int).toNat (⟨v38.Name, v38.Kind, v38.Low, v36.1⟩ : PropType)⟩ : Model), v1.1.2]
            else
              (app [v1.1.1, v1.1.2] [(⟨([109, 122] : Str), ([81, 81] : Str), []⟩ : Model)]).bind fun l39 =>
              Stream_Kinds_j5 v12.2.L v12.2.at_ l39
    else
      if v11.1 = (1 : Int) then
        (Stream_Next v11.2 (5 : Int)).bind fun v41 =>
        if v41.1 = (0 : Int) then
          (Stream_Some v41.2 [([] : Str), ([109, 97] : Str), ([65] : Str)]).bind fun v46 =>
          Stream_Kinds_j6 v46.2.L v46.2.at_ [v1.1.1, (⟨v46.1, v1.1.2.Prefix, v1.1.2.Props⟩ : Model)]
        else
          if v41.1 = (1 : Int) then
            (Stream_Some v41.2 [([65] : Str), ([65, 66, 67, 68, 69] : Str), ([97, 98] : Str), ([65, 66] : Str), ([65, 49] : Str)]).bind fun v51 =>
            Stream_Kinds_j7 v51.2.L v51.2.at_ [v1.1.1, (⟨v1.1.2.Key, v51.1, v1.1.2.Props⟩ : Model)]
          else
            if v41.1 = (2 : Int) then
              (Stream_Some v41.2 [([122, 122] : Str), ([97] : Str), ([97, 46, 46, 98] : Str), ([65] : Str), ([97, 46, 98, 46, 99, 46, 100, 46, 101, 46, 102] : Str)]).bind fun v56 =>
              (Stream_Odd v56.2 (1 : Int) (3 : Int)).bind fun v57 =>
              (app v1.1.2.Props [(⟨v56.1, v57.1, (0 : Int), (0 : Int)⟩ : PropType)]).bind fun l58 =>
              Stream_Kinds_j8 v57.2.L v57.2.at_ [v1.1.1, (⟨v1.1.2.Key, v1.1.2.Prefix, l58⟩ : Model)]
            else
              if v41.1 = (3 : Int) then
                (Stream_Odd v41.2 (-3 : Int) (3 : Int)).bind fun v64 =>
                (Stream_Odd v64.2 (-3 : Int) (3 : Int)).bind fun v65 =>
                (idx v1.1.2.Props (0 : Int)).bind fun v66 =>
                (idx (v1.1.2.Props.set (0 : Int).toNat (⟨v66.Name, v66.Kind, v64.1, v66.High⟩ : PropType)) (0 : Int)).bind fun v67 =>
                Stream_Kinds_j9 v65.2.L v65.2.at_ [v1.1.1, (⟨v1.1.2.Key, v1.1.2.Prefix, (v1.1.2.Props.set (0 : Int).toNat (⟨v66.Name, v66.Kind, v64.1, v66.High⟩ : PropType)).set (0 : Int).toNat (⟨v67.Name, v67.Kind, v67.Low, v65.1⟩ : PropType)⟩ : Model)]
              else
                (app [v1.1.1, v1.1.2] [(⟨([109, 122] : Str), ([81, 81] : Str), []⟩ : Model)]).bind fun l68 =>
                Stream_Kinds_j9 v41.2.L v41.2.at_ l68
      else
        none
  else
    Stream_Kinds_j1 v6.2.L v6.2.at_ [v1.1.1, v1.1.2]

noncomputable def Stream_ModelProps_j1 (n13 : Int) (v17 : Bool × Fleetmake_Stream) (l19 : List PropS) : Option (((List Int) × Int × (List PropS) × Int) ⊕ ((List PropS) × Fleetmake_Stream)) :=
  some (.inl (v17.2.L, v17.2.at_, l19, w64 (n13 + (1 : Int))))

noncomputable def Stream_ModelProps_j3 (l26 : List Int) (n27 : Int) (l28 : List PropS) : Option ((List PropS) × Fleetmake_Stream) :=
  some (l28, (⟨l26, n27⟩ : Fleetmake_Stream))

noncomputable def Stream_ModelProps_j2 (l12 : List PropS) (l22 : List Int) (n23 : Int) (c24 : Bool) : Option ((List PropS) × Fleetmake_Stream) :=
  if c24 = true then
    (Stream_Next (⟨l22, n23⟩ : Fleetmake_Stream) (l12.length : Int)).bind fun v29 =>
    (idx l12 v29.1).bind fun v30 =>
    (Stream_Some v29.2 [v30.Name, ([122, 122] : Str), ([65] : Str), ([97] : Str)]).bind fun v31 =>
    (repeatO ([119] : Str) (101 : Int)).bind fun v32 =>
    (Stream_Next v31.2 (5 : Int)).bind fun v33 =>
    (idx [v30.Value, (⟨(1 : Int), false, (5 : Int), []⟩ : ValueS), (⟨(2 : Int), false, (99 : Int), []⟩ : ValueS), (⟨(3 : Int), false, (0 : Int), v32⟩ : ValueS), (⟨(0 : Int), false, (0 : Int), []⟩ : ValueS)] v33.1).bind fun v34 =>
    Stream_ModelProps_j3 v33.2.L v33.2.at_ ((l12.set v29.1.toNat (⟨v31.1, v30.Value⟩ : PropS)).set v29.1.toNat (⟨v31.1, v34⟩ : PropS))
  else
    Stream_ModelProps_j3 l22 n23 l12

noncomputable def Stream_ModelProps_k4 (l9 : List Int) (n10 : Int) (l12 : List PropS) : Option ((List PropS) × Fleetmake_Stream) :=
  if (0 : Int) < (l12.length : Int) then
    (Stream_Flip (⟨l9, n10⟩ : Fleetmake_Stream) (5 : Int)).bind fun v25 =>
    Stream_ModelProps_j2 l12 v25.2.L v25.2.at_ v25.1
  else
    Stream_ModelProps_j2 l12 l9 n10 false

noncomputable def Stream_ModelProps_b1 (v1 : Int × Fleetmake_Stream) (v2 : Str × Fleetmake_Stream) (v3 : Bool × Fleetmake_Stream) (l9 : List Int) (n10 : Int) (l12 : List PropS) (n13 : Int) : Option (((List Int) × Int × (List PropS) × Int) ⊕ ((List PropS) × Fleetmake_Stream)) :=
  if n13 < ([(⟨([97] : Str), (⟨(2 : Int), false, v1.1, []⟩ : ValueS)⟩ : PropS), (⟨([98] : Str), (⟨(3 : Int), false, (0 : Int), v2.1⟩ : ValueS)⟩ : PropS), (⟨([102, 97, 110, 46, 111, 110] : Str), (⟨(1 : Int), v3.1, (0 : Int), []⟩ : ValueS)⟩ : PropS)].length : Int) then
    (idx [(⟨([97] : Str), (⟨(2 : Int), false, v1.1, []⟩ : ValueS)⟩ : PropS), (⟨([98] : Str), (⟨(3 : Int), false, (0 : Int), v2.1⟩ : ValueS)⟩ : PropS), (⟨([102, 97, 110, 46, 111, 110] : Str), (⟨(1 : Int), v3.1, (0 : Int), []⟩ : ValueS)⟩ : PropS)] n13).bind fun v15 =>
    (Stream_Flip (⟨l9, n10⟩ : Fleetmake_Stream) (3 : Int)).bind fun v17 =>
    if (!v17.1) = true then
      (app l12 [v15]).bind fun l20 =>
      Stream_ModelProps_j1 n13 v17 l20
    else
      Stream_ModelProps_j1 n13 v17 l12
  else
    Option.map .inr (Stream_ModelProps_k4 l9 n10 l12)

noncomputable def Stream_ModelProps_l1 (v1 : Int × Fleetmake_Stream) (v2 : Str × Fleetmake_Stream) (v3 : Bool × Fleetmake_Stream) (l9 : List Int) (n10 : Int) (l12 : List PropS) (n13 : Int) : Option ((List PropS) × Fleetmake_Stream) :=
  iter (fun x : (List Int) × Int × (List PropS) × Int => Stream_ModelProps_b1 v1 v2 v3 x.1 x.2.1 x.2.2.1 x.2.2.2) (l9, n10, l12, n13)

noncomputable def Stream_ModelProps (p0x0 : Fleetmake_Stream) : Option ((List PropS) × Fleetmake_Stream) :=
  (Stream_Pick p0x0 [(0 : Int), (5 : Int), (50 : Int)]).bind fun v1 =>
  (Stream_Some v1.2 [([] : Str), ([120] : Str), ([195, 169] : Str)]).bind fun v2 =>
  (Stream_Flip v2.2 (2 : Int)).bind fun v3 =>
  Stream_ModelProps_l1 v1 v2 v3 v3.2.L v3.2.at_ [] (0 : Int)

noncomputable def base_Key_j2 (n5 : Int) (c7 : Bool) : Option (Int ⊕ Bool) :=
  if c7 = true then
    Option.map .inr (some false)
  else
    some (.inl (w64 (n5 + (1 : Int))))

noncomputable def base_Key_b1 (p0x0 : Str) (n5 : Int) : Option (Int ⊕ Bool) :=
  if n5 < (p0x0.length : Int) then
    (idx p0x0 n5).bind fun c6 =>
    base_Key_j2 n5 (if (97 : Int) ≤ (c6.toNat : Int) then if (c6.toNat : Int) ≤ (122 : Int) then !true else if (48 : Int) ≤ (c6.toNat : Int) then if (c6.toNat : Int) ≤ (57 : Int) then !true else if (c6.toNat : Int) = (45 : Int) then !true else decide (¬ ((c6.toNat : Int) = (95 : Int))) else if (c6.toNat : Int) = (45 : Int) then !true else decide (¬ ((c6.toNat : Int) = (95 : Int))) else if (48 : Int) ≤ (c6.toNat : Int) then if (c6.toNat : Int) ≤ (57 : Int) then !true else if (c6.toNat : Int) = (45 : Int) then !true else decide (¬ ((c6.toNat : Int) = (95 : Int))) else if (c6.toNat : Int) = (45 : Int) then !true else decide (¬ ((c6.toNat : Int) = (95 : Int))))
  else
    Option.map .inr (some true)

noncomputable def base_Key_l1 (p0x0 : Str) (n5 : Int) : Option Bool :=
  iter (fun x : Int => base_Key_b1 p0x0 x) n5

noncomputable def base_Key_j1 (p0x0 : Str) (c1 : Bool) : Option Bool :=
  if c1 = true then
    some false
  else
    base_Key_l1 p0x0 (0 : Int)

noncomputable def base_Key (p0x0 : Str) : Option Bool :=
  if p0x0 = ([] : Str) then
    base_Key_j1 p0x0 true
  else
    if (40 : Int) < (p0x0.length : Int) then
      base_Key_j1 p0x0 true
    else
      (idx p0x0 (0 : Int)).bind fun c2 =>
      if (c2.toNat : Int) < (97 : Int) then
        base_Key_j1 p0x0 true
      else
        (idx p0x0 (0 : Int)).bind fun c3 =>
        base_Key_j1 p0x0 (decide ((122 : Int) < (c3.toNat : Int)))

noncomputable def base_Out_j1 (c1 : Bool) : Bool :=
  c1

noncomputable def base_Out (p0x0 : Int) (p1x0 : Int) (p2x0 : Int) : Bool :=
  base_Out_j1 ((decide (p0x0 < p1x0)) || (decide (p2x0 < p0x0)))

noncomputable def device_isPrefix_j1 (c1 : Bool) : Option Bool :=
  some c1

noncomputable def device_isPrefix (p0x0 : Str) : Option Bool :=
  if (!(base_Out (p0x0.length : Int) (2 : Int) (4 : Int))) = true then
    (trimO p0x0 ([65, 66, 67, 68, 69, 70, 71, 72, 73, 74, 75, 76, 77, 78, 79, 80, 81, 82, 83, 84, 85, 86, 87, 88, 89, 90] : Str)).bind fun v2 =>
    device_isPrefix_j1 (decide (v2 = ([] : Str)))
  else
    device_isPrefix_j1 false

noncomputable def device_CheckModels_1x (p0x0 : Model) (p1x0 : Model) : Bool :=
  decide (p0x0.Prefix = p1x0.Prefix)

noncomputable def slices_IndexFunc_Model_Model_b1 (p0x0 : List Model) (fnb : Model → Option Bool) (n2 : Int) : Option (Int ⊕ Int) :=
  if n2 < (p0x0.length : Int) then
    (idx p0x0 n2).bind fun v3 =>
    (fnb v3).bind fun v4 =>
    if v4 = true then
      Option.map .inr (some n2)
    else
      some (.inl (w64 (n2 + (1 : Int))))
  else
    Option.map .inr (some (-1 : Int))

noncomputable def slices_IndexFunc_Model_Model_l1 (p0x0 : List Model) (fnb : Model → Option Bool) (n2 : Int) : Option Int :=
  iter (fun x : Int => slices_IndexFunc_Model_Model_b1 p0x0 fnb x) n2

noncomputable def slices_IndexFunc_Model_Model (p0x0 : List Model) (fnb : Model → Option Bool) : Option Int :=
  slices_IndexFunc_Model_Model_l1 p0x0 fnb (0 : Int)

noncomputable def slices_ContainsFunc_Model_Model (p0x0 : List Model) (fnb : Model → Option Bool) : Option Bool :=
  (slices_IndexFunc_Model_Model p0x0 fnb).bind fun v1 =>
  some (decide ((0 : Int) ≤ v1))

noncomputable def base_Dotted_b1 (p1x0 : Int) (q3 : Str) (n4 : Int) : Option ((Str × Int) ⊕ Bool) :=
  if n4 < p1x0 then
    (cutO q3 ([46] : Str)).bind fun v5 =>
    (base_Key v5.1).bind fun v6 =>
    if (!v6) = true then
      Option.map .inr (some false)
    else
      if (!v5.2.2) = true then
        Option.map .inr (some true)
      else
        some (.inl (v5.2.1, w64 (n4 + (1 : Int))))
  else
    Option.map .inr (some false)

noncomputable def base_Dotted_l1 (p1x0 : Int) (q3 : Str) (n4 : Int) : Option Bool :=
  iter (fun x : Str × Int => base_Dotted_b1 p1x0 x.1 x.2) (q3, n4)

noncomputable def base_Dotted (p0x0 : Str) (p1x0 : Int) : Option Bool :=
  base_Dotted_l1 p1x0 p0x0 (0 : Int)

noncomputable def item_Property_j1 (c1 : Bool) : Option Bool :=
  some c1

noncomputable def item_Property (p0x0 : Str) : Option Bool :=
  if (p0x0.length : Int) ≤ (40 : Int) then
    (base_Dotted p0x0 (5 : Int)).bind fun v2 =>
    item_Property_j1 v2
  else
    item_Property_j1 false

noncomputable def device_typesFault_j3 (n2 : Int) (c9 : Bool) : Option (Int ⊕ Int) :=
  if c9 = true then
    Option.map .inr (some (3 : Int))
  else
    some (.inl (w64 (n2 + (1 : Int))))

noncomputable def device_typesFault_j2 (n2 : Int) (v3 : PropType) (c8 : Bool) : Option (Int ⊕ Int) :=
  if c8 = true then
    Option.map .inr (some (1 : Int))
  else
    device_typesFault_j3 n2 ((decide (¬ (v3.Kind = (2 : Int)))) && ((decide (v3.Low ≠ (0 : Int))) || (decide (v3.High ≠ (0 : Int)))))

noncomputable def device_typesFault_j1 (n2 : Int) (v3 : PropType) (c6 : Bool) : Option (Int ⊕ Int) :=
  if c6 = true then
    Option.map .inr (some (7 : Int))
  else
    if (base_Out v3.Kind (1 : Int) (3 : Int)) = true then
      Option.map .inr (some (4 : Int))
    else
      device_typesFault_j2 n2 v3 ((decide (v3.Kind = (2 : Int))) && ((base_Out v3.Low (-1000000000 : Int) v3.High) || (decide ((1000000000 : Int) < v3.High))))

noncomputable def device_typesFault_b1 (p0x0 : List PropType) (n2 : Int) : Option (Int ⊕ Int) :=
  if n2 < (p0x0.length : Int) then
    (idx p0x0 n2).bind fun v3 =>
    (item_Property v3.Name).bind fun v5 =>
    if (!v5) = true then
      Option.map .inr (some (5 : Int))
    else
      if (0 : Int) < n2 then
        (idx p0x0 (w64 (n2 - (1 : Int)))).bind fun v7 =>
        device_typesFault_j1 n2 v3 (Op.bytesLess v3.Name v7.Name || v3.Name == v7.Name)
      else
        device_typesFault_j1 n2 v3 false
  else
    Option.map .inr (some (0 : Int))

noncomputable def device_typesFault_l1 (p0x0 : List PropType) (n2 : Int) : Option Int :=
  iter (fun x : Int => device_typesFault_b1 p0x0 x) n2

noncomputable def device_typesFault (p0x0 : List PropType) : Option Int :=
  device_typesFault_l1 p0x0 (0 : Int)

noncomputable def device_CheckModels_j1 (p0x0 : List Model) (n2 : Int) (v3 : Model) (c6 : Bool) : Option (Int ⊕ Int) :=
  if c6 = true then
    Option.map .inr (some (7 : Int))
  else
    (device_isPrefix v3.Prefix).bind fun v8 =>
    if (!v8) = true then
      Option.map .inr (some (3 : Int))
    else
      (slc p0x0 (0 : Int) n2).bind fun l9 =>
      (slices_ContainsFunc_Model_Model l9 (fun y0 => some (device_CheckModels_1x y0 v3))).bind fun v10 =>
      if v10 = true then
        Option.map .inr (some (6 : Int))
      else
        if (50 : Int) < (v3.Props.length : Int) then
          Option.map .inr (some (2 : Int))
        else
          (device_typesFault v3.Props).bind fun v11 =>
          if v11 ≠ (0 : Int) then
            Option.map .inr (some v11)
          else
            some (.inl (w64 (n2 + (1 : Int))))

noncomputable def device_CheckModels_b1 (p0x0 : List Model) (n2 : Int) : Option (Int ⊕ Int) :=
  if n2 < (p0x0.length : Int) then
    (idx p0x0 n2).bind fun v3 =>
    (base_Key v3.Key).bind fun v5 =>
    if (!v5) = true then
      Option.map .inr (some (5 : Int))
    else
      if (0 : Int) < n2 then
        (idx p0x0 (w64 (n2 - (1 : Int)))).bind fun v7 =>
        device_CheckModels_j1 p0x0 n2 v3 (Op.bytesLess v3.Key v7.Key || v3.Key == v7.Key)
      else
        device_CheckModels_j1 p0x0 n2 v3 false
  else
    Option.map .inr (some (0 : Int))

noncomputable def device_CheckModels_l1 (p0x0 : List Model) (n2 : Int) : Option Int :=
  iter (fun x : Int => device_CheckModels_b1 p0x0 x) n2

noncomputable def device_CheckModels (p0x0 : List Model) : Option Int :=
  if (50 : Int) < (p0x0.length : Int) then
    some (2 : Int)
  else
    device_CheckModels_l1 p0x0 (0 : Int)

noncomputable def device_CheckProps_1x (p0x0 : PropType) (p1x0 : PropS) : Bool :=
  decide (p0x0.Name = p1x0.Name)

noncomputable def slices_IndexFunc_PropType_PropType_b1 (p0x0 : List PropType) (fnb : PropType → Option Bool) (n2 : Int) : Option (Int ⊕ Int) :=
  if n2 < (p0x0.length : Int) then
    (idx p0x0 n2).bind fun v3 =>
    (fnb v3).bind fun v4 =>
    if v4 = true then
      Option.map .inr (some n2)
    else
      some (.inl (w64 (n2 + (1 : Int))))
  else
    Option.map .inr (some (-1 : Int))

noncomputable def slices_IndexFunc_PropType_PropType_l1 (p0x0 : List PropType) (fnb : PropType → Option Bool) (n2 : Int) : Option Int :=
  iter (fun x : Int => slices_IndexFunc_PropType_PropType_b1 p0x0 fnb x) n2

noncomputable def slices_IndexFunc_PropType_PropType (p0x0 : List PropType) (fnb : PropType → Option Bool) : Option Int :=
  slices_IndexFunc_PropType_PropType_l1 p0x0 fnb (0 : Int)

noncomputable def item_Right_j4 (c11 : Bool) : Option Bool :=
  some c11

noncomputable def item_Right_j1 (p0x0 : ValueS) (c3 : Bool) (n4 : Int) (q5 : Str) : Option Bool :=
  if p0x0 = (⟨p0x0.Kind, c3, n4, q5⟩ : ValueS) then
    if (!(base_Out p0x0.Number (-1000000000 : Int) (1000000000 : Int))) = true then
      if (p0x0.Words.length : Int) ≤ (100 : Int) then
        (validO p0x0.Words).bind fun v12 =>
        item_Right_j4 v12
      else
        item_Right_j4 false
    else
      item_Right_j4 false
  else
    item_Right_j4 false

noncomputable def item_Right_j2 (p0x0 : ValueS) (c6 : Bool) (n7 : Int) (q8 : Str) : Option Bool :=
  item_Right_j1 p0x0 c6 n7 q8

noncomputable def item_Right_j3 (p0x0 : ValueS) (n9 : Int) (q10 : Str) : Option Bool :=
  item_Right_j2 p0x0 false n9 q10

noncomputable def item_Right (p0x0 : ValueS) : Option Bool :=
  if p0x0.Kind = (0 : Int) then
    item_Right_j1 p0x0 false (0 : Int) []
  else
    if p0x0.Kind = (1 : Int) then
      item_Right_j2 p0x0 p0x0.Flag (0 : Int) []
    else
      if p0x0.Kind = (2 : Int) then
        item_Right_j3 p0x0 p0x0.Number []
      else
        if p0x0.Kind = (3 : Int) then
          item_Right_j3 p0x0 (0 : Int) p0x0.Words
        else
          some false

noncomputable def device_CheckProps_j2 (n4 : Int) (v5 : PropS) (c13 : Bool) : Option (Int ⊕ (Int × Int)) :=
  if c13 = true then
    Option.map .inr (some (n4, (1 : Int)))
  else
    (item_Right v5.Value).bind fun v14 =>
    if (!v14) = true then
      Option.map .inr (some (n4, (3 : Int)))
    else
      some (.inl (w64 (n4 + (1 : Int))))

noncomputable def device_CheckProps_j1 (p0x0 : Model) (n4 : Int) (v5 : PropS) (c8 : Bool) : Option (Int ⊕ (Int × Int)) :=
  if c8 = true then
    Option.map .inr (some (n4, (7 : Int)))
  else
    (slices_IndexFunc_PropType_PropType p0x0.Props (fun y0 => some (device_CheckProps_1x y0 v5))).bind fun v10 =>
    if v10 < (0 : Int) then
      Option.map .inr (some (n4, (8 : Int)))
    else
      (idx p0x0.Props v10).bind fun v11 =>
      if v5.Value.Kind ≠ v11.Kind then
        Option.map .inr (some (n4, (10 : Int)))
      else
        device_CheckProps_j2 n4 v5 ((decide (v11.Kind = (2 : Int))) && (base_Out v5.Value.Number v11.Low v11.High))

noncomputable def device_CheckProps_b1 (p0x0 : Model) (p1x0 : List PropS) (n4 : Int) : Option (Int ⊕ (Int × Int)) :=
  if n4 < (p1x0.length : Int) then
    (idx p1x0 n4).bind fun v5 =>
    (item_Property v5.Name).bind fun v7 =>
    if (!v7) = true then
      Option.map .inr (some (n4, (5 : Int)))
    else
      if (0 : Int) < n4 then
        (idx p1x0 (w64 (n4 - (1 : Int)))).bind fun v9 =>
        device_CheckProps_j1 p0x0 n4 v5 (Op.bytesLess v5.Name v9.Name || v5.Name == v9.Name)
      else
        device_CheckProps_j1 p0x0 n4 v5 false
  else
    Option.map .inr (some ((0 : Int), (0 : Int)))

noncomputable def device_CheckProps_l1 (p0x0 : Model) (p1x0 : List PropS) (n4 : Int) : Option (Int × Int) :=
  iter (fun x : Int => device_CheckProps_b1 p0x0 p1x0 x) n4

noncomputable def device_CheckProps (p0x0 : Model) (p1x0 : List PropS) : Option (Int × Int) :=
  (device_CheckModels [p0x0]).bind fun v2 =>
  if v2 ≠ (0 : Int) then
    some ((0 : Int), v2)
  else
    if (50 : Int) < (p1x0.length : Int) then
      some ((0 : Int), (2 : Int))
    else
      device_CheckProps_l1 p0x0 p1x0 (0 : Int)

noncomputable def Q_in_j1 (c1 : Bool) : Bool :=
  c1

noncomputable def Q_in (p0x0 : Int) (p1x0 : Int) (p2x0 : Int) : Bool :=
  Q_in_j1 ((decide (p1x0 ≤ p0x0)) && (decide (p0x0 ≤ p2x0)))

noncomputable def Q_Key_j1 (c1 : Bool) : Option Bool :=
  some c1

noncomputable def Q_Key (p0x0 : Str) : Option Bool :=
  if (Q_in (p0x0.length : Int) (1 : Int) (40 : Int)) = true then
    (trimO p0x0 ([97, 98, 99, 100, 101, 102, 103, 104, 105, 106, 107, 108, 109, 110, 111, 112, 113, 114, 115, 116, 117, 118, 119, 120, 121, 122, 48, 49, 50, 51, 52, 53, 54, 55, 56, 57, 45, 95] : Str)).bind fun v2 =>
    if v2 = ([] : Str) then
      (idx p0x0 (0 : Int)).bind fun c3 =>
      Q_Key_j1 (decide ((0 : Int) ≤ (indexByteI ([97, 98, 99, 100, 101, 102, 103, 104, 105, 106, 107, 108, 109, 110, 111, 112, 113, 114, 115, 116, 117, 118, 119, 120, 121, 122] : Str) (c3.toNat : Int))))
    else
      Q_Key_j1 false
  else
    Q_Key_j1 false

noncomputable def Q_ModelsFault_1x (p0x0 : Model) (p1x0 : Model) : Bool :=
  decide (p0x0.Prefix = p1x0.Prefix)

noncomputable def Q_PropName_1x (p0x0 : Str) : Option Bool :=
  (Q_Key p0x0).bind fun v1 =>
  some (!v1)

noncomputable def slices_IndexFunc_string_string_b1 (p0x0 : List Str) (fnb : Str → Option Bool) (n2 : Int) : Option (Int ⊕ Int) :=
  if n2 < (p0x0.length : Int) then
    (idx p0x0 n2).bind fun v3 =>
    (fnb v3).bind fun v4 =>
    if v4 = true then
      Option.map .inr (some n2)
    else
      some (.inl (w64 (n2 + (1 : Int))))
  else
    Option.map .inr (some (-1 : Int))

noncomputable def slices_IndexFunc_string_string_l1 (p0x0 : List Str) (fnb : Str → Option Bool) (n2 : Int) : Option Int :=
  iter (fun x : Int => slices_IndexFunc_string_string_b1 p0x0 fnb x) n2

noncomputable def slices_IndexFunc_string_string (p0x0 : List Str) (fnb : Str → Option Bool) : Option Int :=
  slices_IndexFunc_string_string_l1 p0x0 fnb (0 : Int)

noncomputable def slices_ContainsFunc_string_string (p0x0 : List Str) (fnb : Str → Option Bool) : Option Bool :=
  (slices_IndexFunc_string_string p0x0 fnb).bind fun v1 =>
  some (decide ((0 : Int) ≤ v1))

noncomputable def Q_PropName_j1 (c3 : Bool) : Option Bool :=
  some c3

noncomputable def Q_PropName (p0x0 : Str) : Option Bool :=
  (splitO p0x0 ([46] : Str)).bind fun v1 =>
  if (p0x0.length : Int) ≤ (40 : Int) then
    if (v1.length : Int) ≤ (5 : Int) then
      (slices_ContainsFunc_string_string v1 (fun y0 => Q_PropName_1x y0)).bind fun v4 =>
      Q_PropName_j1 (!v4)
    else
      Q_PropName_j1 false
  else
    Q_PropName_j1 false

noncomputable def Q_ModelsFault_j5 (n14 : Int) (c21 : Bool) : Option (Int ⊕ (Int ⊕ Int)) :=
  if c21 = true then
    Option.map .inr (Option.map .inr (some (3 : Int)))
  else
    some (.inl (w64 (n14 + (1 : Int))))

noncomputable def Q_ModelsFault_j4 (n14 : Int) (v15 : PropType) (c20 : Bool) : Option (Int ⊕ (Int ⊕ Int)) :=
  if c20 = true then
    Option.map .inr (Option.map .inr (some (1 : Int)))
  else
    Q_ModelsFault_j5 n14 ((decide (¬ (v15.Kind = (2 : Int)))) && ((decide (v15.Low ≠ (0 : Int))) || (decide (v15.High ≠ (0 : Int)))))

noncomputable def Q_ModelsFault_j3 (n14 : Int) (v15 : PropType) (c18 : Bool) : Option (Int ⊕ (Int ⊕ Int)) :=
  if c18 = true then
    Option.map .inr (Option.map .inr (some (7 : Int)))
  else
    if (!(Q_in v15.Kind (1 : Int) (3 : Int))) = true then
      Option.map .inr (Option.map .inr (some (4 : Int)))
    else
      Q_ModelsFault_j4 n14 v15 ((decide (v15.Kind = (2 : Int))) && ((!(Q_in v15.Low (-1000000000 : Int) v15.High)) || (decide ((1000000000 : Int) < v15.High))))

noncomputable def Q_ModelsFault_b2 (n2 : Int) (v3 : Model) (n14 : Int) : Option (Int ⊕ (Int ⊕ Int)) :=
  if n14 < (v3.Props.length : Int) then
    (idx v3.Props n14).bind fun v15 =>
    (Q_PropName v15.Name).bind fun v17 =>
    if (!v17) = true then
      Option.map .inr (Option.map .inr (some (5 : Int)))
    else
      if (0 : Int) < n14 then
        (idx v3.Props (w64 (n14 - (1 : Int)))).bind fun v19 =>
        Q_ModelsFault_j3 n14 v15 (Op.bytesLess v15.Name v19.Name || v15.Name == v19.Name)
      else
        Q_ModelsFault_j3 n14 v15 false
  else
    Option.map .inr (some (.inl (w64 (n2 + (1 : Int)))))

noncomputable def Q_ModelsFault_l2 (n2 : Int) (v3 : Model) (n14 : Int) : Option (Int ⊕ Int) :=
  iter (fun x : Int => Q_ModelsFault_b2 n2 v3 x) n14

noncomputable def Q_ModelsFault_j2 (p0x0 : List Model) (n2 : Int) (v3 : Model) (c8 : Bool) : Option (Int ⊕ Int) :=
  if c8 = true then
    Option.map .inr (some (3 : Int))
  else
    (slc p0x0 (0 : Int) n2).bind fun l11 =>
    (slices_ContainsFunc_Model_Model l11 (fun y0 => some (Q_ModelsFault_1x y0 v3))).bind fun v12 =>
    if v12 = true then
      Option.map .inr (some (6 : Int))
    else
      if (50 : Int) < (v3.Props.length : Int) then
        Option.map .inr (some (2 : Int))
      else
        Q_ModelsFault_l2 n2 v3 (0 : Int)

noncomputable def Q_ModelsFault_j1 (p0x0 : List Model) (n2 : Int) (v3 : Model) (c6 : Bool) : Option (Int ⊕ Int) :=
  if c6 = true then
    Option.map .inr (some (7 : Int))
  else
    if (!(Q_in (v3.Prefix.length : Int) (2 : Int) (4 : Int))) = true then
      Q_ModelsFault_j2 p0x0 n2 v3 true
    else
      (toUpperO ([97, 98, 99, 100, 101, 102, 103, 104, 105, 106, 107, 108, 109, 110, 111, 112, 113, 114, 115, 116, 117, 118, 119, 120, 121, 122] : Str)).bind fun v9 =>
      (trimO v3.Prefix v9).bind fun v10 =>
      Q_ModelsFault_j2 p0x0 n2 v3 (decide (v10 ≠ ([] : Str)))

noncomputable def Q_ModelsFault_b1 (p0x0 : List Model) (n2 : Int) : Option (Int ⊕ Int) :=
  if n2 < (p0x0.length : Int) then
    (idx p0x0 n2).bind fun v3 =>
    (Q_Key v3.Key).bind fun v5 =>
    if (!v5) = true then
      Option.map .inr (some (5 : Int))
    else
      if (0 : Int) < n2 then
        (idx p0x0 (w64 (n2 - (1 : Int)))).bind fun v7 =>
        Q_ModelsFault_j1 p0x0 n2 v3 (Op.bytesLess v3.Key v7.Key || v3.Key == v7.Key)
      else
        Q_ModelsFault_j1 p0x0 n2 v3 false
  else
    Option.map .inr (some (0 : Int))

noncomputable def Q_ModelsFault_l1 (p0x0 : List Model) (n2 : Int) : Option Int :=
  iter (fun x : Int => Q_ModelsFault_b1 p0x0 x) n2

noncomputable def Q_ModelsFault (p0x0 : List Model) : Option Int :=
  if (50 : Int) < (p0x0.length : Int) then
    some (2 : Int)
  else
    Q_ModelsFault_l1 p0x0 (0 : Int)

noncomputable def Q_PropsFault_1x (p0x0 : PropType) (p1x0 : PropS) : Bool :=
  decide (p0x0.Name = p1x0.Name)

noncomputable def Q_RightValue_j1 (n3 : Int) (c5 : Bool) : Option (Int ⊕ Bool) :=
  if c5 = true then
    Option.map .inr (some false)
  else
    some (.inl (w64 (n3 + (1 : Int))))

noncomputable def Q_RightValue_j2 (c6 : Bool) : Option Bool :=
  some c6

noncomputable def Q_RightValue_k3 (p0x0 : ValueS) : Option Bool :=
  if (Q_in p0x0.Kind (0 : Int) (3 : Int)) = true then
    if (Q_in p0x0.Number (-1000000000 : Int) (1000000000 : Int)) = true then
      (validO p0x0.Words).bind fun v7 =>
      Q_RightValue_j2 (v7 && (decide ((p0x0.Words.length : Int) ≤ (100 : Int))))
    else
      Q_RightValue_j2 false
  else
    Q_RightValue_j2 false

noncomputable def Q_RightValue_b1 (p0x0 : ValueS) (n3 : Int) : Option (Int ⊕ Bool) :=
  if n3 < ([p0x0.Flag, decide (p0x0.Number ≠ (0 : Int)), decide (p0x0.Words ≠ ([] : Str))].length : Int) then
    (idx [p0x0.Flag, decide (p0x0.Number ≠ (0 : Int)), decide (p0x0.Words ≠ ([] : Str))] n3).bind fun v4 =>
    Q_RightValue_j1 n3 (v4 && (decide (p0x0.Kind ≠ (w64 (n3 + (1 : Int))))))
  else
    Option.map .inr (Q_RightValue_k3 p0x0)

noncomputable def Q_RightValue_l1 (p0x0 : ValueS) (n3 : Int) : Option Bool :=
  iter (fun x : Int => Q_RightValue_b1 p0x0 x) n3

noncomputable def Q_RightValue (p0x0 : ValueS) : Option Bool :=
  Q_RightValue_l1 p0x0 (0 : Int)

noncomputable def Q_PropsFault_j2 (n4 : Int) (v5 : PropS) (c12 : Bool) : Option (Int ⊕ (Int × Int)) :=
  if c12 = true then
    Option.map .inr (some (n4, (1 : Int)))
  else
    (Q_RightValue v5.Value).bind fun v15 =>
    if (!v15) = true then
      Option.map .inr (some (n4, (3 : Int)))
    else
      some (.inl (w64 (n4 + (1 : Int))))

noncomputable def Q_PropsFault_j1 (p0x0 : Model) (n4 : Int) (v5 : PropS) (c8 : Bool) : Option (Int ⊕ (Int × Int)) :=
  if c8 = true then
    Option.map .inr (some (n4, (7 : Int)))
  else
    (slices_IndexFunc_PropType_PropType p0x0.Props (fun y0 => some (Q_PropsFault_1x y0 v5))).bind fun v10 =>
    if v10 < (0 : Int) then
      Option.map .inr (some (n4, (8 : Int)))
    else
      (idx p0x0.Props v10).bind fun v11 =>
      if v11.Kind ≠ v5.Value.Kind then
        Option.map .inr (some (n4, (10 : Int)))
      else
        if v5.Value.Kind = (2 : Int) then
          (idx p0x0.Props v10).bind fun v13 =>
          (idx p0x0.Props v10).bind fun v14 =>
          Q_PropsFault_j2 n4 v5 (!(Q_in v5.Value.Number v13.Low v14.High))
        else
          Q_PropsFault_j2 n4 v5 false

noncomputable def Q_PropsFault_b1 (p0x0 : Model) (p1x0 : List PropS) (n4 : Int) : Option (Int ⊕ (Int × Int)) :=
  if n4 < (p1x0.length : Int) then
    (idx p1x0 n4).bind fun v5 =>
    (Q_PropName v5.Name).bind fun v7 =>
    if (!v7) = true then
      Option.map .inr (some (n4, (5 : Int)))
    else
      if (0 : Int) < n4 then
        (idx p1x0 (w64 (n4 - (1 : Int)))).bind fun v9 =>
        Q_PropsFault_j1 p0x0 n4 v5 (Op.bytesLess v5.Name v9.Name || v5.Name == v9.Name)
      else
        Q_PropsFault_j1 p0x0 n4 v5 false
  else
    Option.map .inr (some ((0 : Int), (0 : Int)))

noncomputable def Q_PropsFault_l1 (p0x0 : Model) (p1x0 : List PropS) (n4 : Int) : Option (Int × Int) :=
  iter (fun x : Int => Q_PropsFault_b1 p0x0 p1x0 x) n4

noncomputable def Q_PropsFault (p0x0 : Model) (p1x0 : List PropS) : Option (Int × Int) :=
  (Q_ModelsFault [p0x0]).bind fun v2 =>
  if v2 ≠ (0 : Int) then
    some ((0 : Int), v2)
  else
    if (50 : Int) < (p1x0.length : Int) then
      some ((0 : Int), (2 : Int))
    else
      Q_PropsFault_l1 p0x0 p1x0 (0 : Int)

noncomputable def device_model_1x (p0x0 : Model) (p1x0 : Str) : Bool :=
  decide (p0x0.Key = p1x0)

noncomputable def device_model (p0x0 : List Model) (p1x0 : Str) : Option Int :=
  (slices_IndexFunc_Model_Model p0x0 (fun y0 => some (device_model_1x y0 p1x0))).bind fun v2 =>
  some v2

noncomputable def device_checkOf_k1 (n3 : Int) : Option Int :=
  (idx ([48, 49, 50, 51, 52, 53, 54, 55, 56, 57, 65, 66, 67, 68, 69, 70, 71, 72, 73, 74, 75, 76, 77, 78, 79, 80, 81, 82, 83, 84, 85, 86, 87, 88, 89, 90] : Str) (n3.tmod (36 : Int))).bind fun c6 =>
  some (c6.toNat : Int)

noncomputable def device_checkOf_b1 (p0x0 : Str) (n3 : Int) (n4 : Int) : Option ((Int × Int) ⊕ Int) :=
  if n4 < (p0x0.length : Int) then
    (idx p0x0 n4).bind fun c5 =>
    some (.inl (w64 (n3 + (w64 ((w64 (n4 + (2 : Int))) * (indexByteI ([48, 49, 50, 51, 52, 53, 54, 55, 56, 57, 65, 66, 67, 68, 69, 70, 71, 72, 73, 74, 75, 76, 77, 78, 79, 80, 81, 82, 83, 84, 85, 86, 87, 88, 89, 90] : Str) (c5.toNat : Int))))), w64 (n4 + (1 : Int))))
  else
    Option.map .inr (device_checkOf_k1 n3)

noncomputable def device_checkOf_l1 (p0x0 : Str) (n3 : Int) (n4 : Int) : Option Int :=
  iter (fun x : Int × Int => device_checkOf_b1 p0x0 x.1 x.2) (n3, n4)

noncomputable def device_checkOf (p0x0 : Str) : Option Int :=
  device_checkOf_l1 p0x0 (0 : Int) (0 : Int)

noncomputable def device_Serial (p0x0 : List Model) (p1x0 : Str) (p2x0 : Int) : Option (Str × Int) :=
  (device_CheckModels p0x0).bind fun v1 =>
  if v1 ≠ (0 : Int) then
    some (([] : Str), v1)
  else
    (device_model p0x0 p1x0).bind fun v2 =>
    if v2 < (0 : Int) then
      some (([] : Str), (8 : Int))
    else
      if (base_Out p2x0 (1 : Int) (99999999 : Int)) = true then
        some (([] : Str), (1 : Int))
      else
        (itoaO p2x0).bind fun v3 =>
        (repeatO ([48] : Str) (w64 ((8 : Int) - (v3.length : Int)))).bind fun v4 =>
        (catO v4 v3).bind fun q5 =>
        (idx p0x0 v2).bind fun v6 =>
        (catO v6.Prefix ([45] : Str)).bind fun q7 =>
        (catO q7 q5).bind fun q8 =>
        (catO q8 ([45] : Str)).bind fun q9 =>
        (catO v6.Prefix q5).bind fun q10 =>
        (device_checkOf q10).bind fun v11 =>
        (catO q9 (strR v11)).bind fun q12 =>
        some (q12, (0 : Int))

noncomputable def L_deviced_j1 (c2 : Bool) : Option Bool :=
  some c2

noncomputable def L_deviced : Option Bool :=
  (device_Serial [(⟨([109] : Str), ([65, 66] : Str), []⟩ : Model)] ([109] : Str) (7 : Int)).bind fun v1 =>
  L_deviced_j1 ((decide (v1.2 = (0 : Int))) && (decide (v1.1 = ([65, 66, 45, 48, 48, 48, 48, 48, 48, 48, 55, 45, 77] : Str))))

noncomputable def L_PropsChecked_j1 (c9 : Bool) : Option Bool :=
  some c9

noncomputable def L_PropsChecked (p0x0 : List Int) : Option Bool :=
  (Stream_Kinds (⟨p0x0, (0 : Int)⟩ : Fleetmake_Stream)).bind fun v2 =>
  (idx v2.1 (0 : Int)).bind fun v3 =>
  (Stream_ModelProps v2.2).bind fun v4 =>
  (device_CheckProps v3 v4.1).bind fun v7 =>
  (Q_PropsFault v3 v4.1).bind fun v8 =>
  if v7.1 = v8.1 then
    if v7.2 = v8.2 then
      (L_deviced).bind fun v10 =>
      L_PropsChecked_j1 v10
    else
      L_PropsChecked_j1 false
  else
    L_PropsChecked_j1 false

end Go.Beacon

