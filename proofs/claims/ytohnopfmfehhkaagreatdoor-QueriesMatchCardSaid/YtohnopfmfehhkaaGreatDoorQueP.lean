/- Plain functions that the Go functions compute, written by shal.py. -/
import Derived.Test.YtohnopfmfehhkaaGreatDoorCore
set_option linter.unusedVariables false
namespace Go.Beacon
open Go Go.Eng
structure Fleetmake_Stream where
  L : List Int
  at_ : Int
deriving DecidableEq, Inhabited
def Fleetmake_Stream.av (x : Fleetmake_Stream) : AV := .agg [.list 1 (x.L.map I), I x.at_]

structure ValueS where
  Kind : Int
  Flag : Bool
  Number : Int
  Words : Str
deriving DecidableEq, Inhabited
def ValueS.av (x : ValueS) : AV := .agg [I x.Kind, .bool x.Flag, I x.Number, .str x.Words]

structure Version where
  Major : Int
  Minor : Int
  Patch : Int
deriving DecidableEq, Inhabited
def Version.av (x : Version) : AV := .agg [I x.Major, I x.Minor, I x.Patch]

structure Query where
  Kind : Int
  Field : Str
  Op : Str
  Value : ValueS
  Version : Version
  Kids : List Query
instance : Inhabited Query := ⟨⟨default, default, default, default, default, []⟩⟩
mutual
def Query.av : Query → AV
  | ⟨a_Kind, a_Field, a_Op, a_Value, a_Version, a_Kids⟩ => .agg [I a_Kind, .str a_Field, .str a_Op, I a_Value.Kind, .bool a_Value.Flag, I a_Value.Number, .str a_Value.Words, I a_Version.Major, I a_Version.Minor, I a_Version.Patch, .list 11 (Query.avs a_Kids)]
def Query.avs : List Query → List AV
  | [] => []
  | x :: r => Query.av x :: Query.avs r
end
theorem Query.avs_eq : ∀ l : List Query, Query.avs l = l.map Query.av
  | [] => by simp [Query.avs]
  | x :: r => by rw [Query.avs, Query.avs_eq r, List.map_cons]
theorem Query.av_eq (x : Query) : Query.av x = .agg [I x.Kind, .str x.Field, .str x.Op, I x.Value.Kind, .bool x.Value.Flag, I x.Value.Number, .str x.Value.Words, I x.Version.Major, I x.Version.Minor, I x.Version.Patch, .list 11 (x.Kids.map Query.av)] := by
  obtain ⟨a_Kind, a_Field, a_Op, a_Value, a_Version, a_Kids⟩ := x
  rw [Query.av, Query.avs_eq]

structure Pair where
  Name : Str
  Value : Str
deriving DecidableEq, Inhabited
def Pair.av (x : Pair) : AV := .agg [.str x.Name, .str x.Value]

structure DeviceS where
  Key : Str
  Model : Str
  Tenant : Str
  Firmware : Version
  Tags : List Pair
deriving DecidableEq, Inhabited
def DeviceS.av (x : DeviceS) : AV := .agg [.str x.Key, .str x.Model, .str x.Tenant, I x.Firmware.Major, I x.Firmware.Minor, I x.Firmware.Patch, .list 2 (x.Tags.map Pair.av)]

structure PropS where
  Name : Str
  Value : ValueS
deriving DecidableEq, Inhabited
def PropS.av (x : PropS) : AV := .agg [.str x.Name, I x.Value.Kind, .bool x.Value.Flag, I x.Value.Number, .str x.Value.Words]

structure ItemS where
  Device : DeviceS
  Props : List PropS
deriving DecidableEq, Inhabited
def ItemS.av (x : ItemS) : AV := .agg [.str x.Device.Key, .str x.Device.Model, .str x.Device.Tenant, I x.Device.Firmware.Major, I x.Device.Firmware.Minor, I x.Device.Firmware.Patch, .list 2 (x.Device.Tags.map Pair.av), .list 5 (x.Props.map PropS.av)]

structure Item_Held where
  Is : Bool
  Value : ValueS
  Version : Version
deriving DecidableEq, Inhabited
def Item_Held.av (x : Item_Held) : AV := .agg [.bool x.Is, I x.Value.Kind, .bool x.Value.Flag, I x.Value.Number, .str x.Value.Words, I x.Version.Major, I x.Version.Minor, I x.Version.Patch]

structure PropType where
  Name : Str
  Kind : Int
  Low : Int
  High : Int
deriving DecidableEq, Inhabited
def PropType.av (x : PropType) : AV := .agg [.str x.Name, I x.Kind, I x.Low, I x.High]

structure Model where
  Key : Str
  Prefix : Str
  Props : List PropType
deriving DecidableEq, Inhabited
def Model.av (x : Model) : AV := .agg [.str x.Key, .str x.Prefix, .list 4 (x.Props.map PropType.av)]

noncomputable def Below_j1 (n2 : Int) : Option Int :=
  some n2

noncomputable def Below (p0x0 : Int) (p1x0 : Int) : Option Int :=
  if p1x0 < (1 : Int) then
    some (0 : Int)
  else
    (rem p0x0 p1x0).bind fun n1 =>
    if n1 < (0 : Int) then
      Below_j1 (w64 (n1 + p1x0))
    else
      Below_j1 n1

noncomputable def Stream_Next (p0x0 : Fleetmake_Stream) (p1x0 : Int) : Option (Int × Fleetmake_Stream) :=
  if (p0x0.L.length : Int) = (0 : Int) then
    (Below (w64 ((w64 (p0x0.at_ + (1 : Int))) * (7919 : Int))) p1x0).bind fun v1 =>
    some (v1, (⟨p0x0.L, w64 (p0x0.at_ + (1 : Int))⟩ : Fleetmake_Stream))
  else
    (rem (w64 ((w64 (p0x0.at_ + (1 : Int))) - (1 : Int))) (p0x0.L.length : Int)).bind fun n2 =>
    (quo (w64 ((w64 (p0x0.at_ + (1 : Int))) - (1 : Int))) (p0x0.L.length : Int)).bind fun n3 =>
    (idx p0x0.L n2).bind fun v4 =>
    (Below v4 (1073741824 : Int)).bind fun v5 =>
    (Below (w64 (v5 + (w64 (n3 * (w64 ((7919 : Int) + n2)))))) p1x0).bind fun v6 =>
    some (v6, (⟨p0x0.L, w64 (p0x0.at_ + (1 : Int))⟩ : Fleetmake_Stream))

noncomputable def Stream_Pick (p0x0 : Fleetmake_Stream) (p1x0 : List Int) : Option (Int × Fleetmake_Stream) :=
  (Stream_Next p0x0 (p1x0.length : Int)).bind fun v1 =>
  (idx p1x0 v1.1).bind fun v2 =>
  some (v2, v1.2)

noncomputable def Stream_Flip (p0x0 : Fleetmake_Stream) (p1x0 : Int) : Option (Bool × Fleetmake_Stream) :=
  (Stream_Next p0x0 p1x0).bind fun v1 =>
  some (decide (v1.1 = (0 : Int)), v1.2)

noncomputable def Stream_Some (p0x0 : Fleetmake_Stream) (p1x0 : List Str) : Option (Str × Fleetmake_Stream) :=
  (Stream_Next p0x0 (p1x0.length : Int)).bind fun v1 =>
  (idx p1x0 v1.1).bind fun v2 =>
  some (v2, v1.2)

noncomputable def Stream_leaf_1x (p0x0 : Fleetmake_Stream) : Option (Str × Fleetmake_Stream) :=
  (Stream_Some p0x0 [([61, 61] : Str), ([61, 61] : Str), ([33, 61] : Str)]).bind fun v1 =>
  some (v1.1, v1.2)

noncomputable def Stream_leaf_2x (p0x0 : List Str) (p1x0 : Fleetmake_Stream) : Option (ValueS × Fleetmake_Stream) :=
  (Stream_Some p1x0 p0x0).bind fun v2 =>
  some ((⟨(3 : Int), false, (0 : Int), v2.1⟩ : ValueS), v2.2)

noncomputable def Q_Ops : (List Str) :=
  [([61, 61] : Str), ([33, 61] : Str), ([60, 61] : Str), ([62, 61] : Str), ([60] : Str), ([62] : Str)]

noncomputable def Stream_leaf (p0x0 : Fleetmake_Stream) : Option (Query × Fleetmake_Stream) :=
  (Stream_Next p0x0 (8 : Int)).bind fun v3 =>
  if v3.1 = (0 : Int) then
    (Stream_Some v3.2 [([116, 97, 103, 46, 115, 105, 116, 101] : Str), ([116, 97, 103, 46, 111, 112, 101, 110] : Str), ([112, 114, 111, 112, 46, 97] : Str), ([112, 114, 111, 112, 46, 102, 97, 110, 46, 111, 110] : Str)]).bind fun v4 =>
    some ((⟨(2 : Int), v4.1, [], (⟨(0 : Int), false, (0 : Int), []⟩ : ValueS), (⟨(0 : Int), (0 : Int), (0 : Int)⟩ : Version), []⟩ : Query), v4.2)
  else
    if v3.1 = (1 : Int) then
      (Stream_leaf_1x v3.2).bind fun v5 =>
      (Stream_leaf_2x [([100, 97] : Str), ([100, 98] : Str), ([102, 114, 101, 115, 104] : Str)] v5.2).bind fun v6 =>
      some ((⟨(1 : Int), ([107, 101, 121] : Str), v5.1, v6.1, (⟨(0 : Int), (0 : Int), (0 : Int)⟩ : Version), []⟩ : Query), v6.2)
    else
      if v3.1 = (2 : Int) then
        (Stream_Some v3.2 [([109, 111, 100, 101, 108] : Str), ([116, 101, 110, 97, 110, 116] : Str)]).bind fun v7 =>
        (Stream_leaf_1x v7.2).bind fun v8 =>
        (Stream_leaf_2x [([109, 97] : Str), ([116, 97] : Str), ([] : Str), ([81] : Str)] v8.2).bind fun v9 =>
        some ((⟨(1 : Int), v7.1, v8.1, v9.1, (⟨(0 : Int), (0 : Int), (0 : Int)⟩ : Version), []⟩ : Query), v9.2)
      else
        if v3.1 = (3 : Int) then
          (Stream_Some v3.2 Q_Ops).bind fun v10 =>
          (Stream_Next v10.2 (2 : Int)).bind fun v11 =>
          (Stream_Pick v11.2 [(0 : Int), (2 : Int)]).bind fun v12 =>
          (Stream_Pick v12.2 [(0 : Int), (0 : Int), (9999 : Int)]).bind fun v13 =>
          some ((⟨(1 : Int), ([102, 105, 114, 109, 119, 97, 114, 101] : Str), v10.1, (⟨(0 : Int), false, (0 : Int), []⟩ : ValueS), (⟨v11.1, v12.1, v13.1⟩ : Version), []⟩ : Query), v13.2)
        else
          if v3.1 = (4 : Int) then
            (Stream_leaf_1x v3.2).bind fun v14 =>
            (Stream_leaf_2x [([120] : Str), ([121] : Str), ([97, 34, 98, 92, 99] : Str), ([] : Str)] v14.2).bind fun v15 =>
            some ((⟨(1 : Int), ([116, 97, 103, 46, 115, 105, 116, 101] : Str), v14.1, v15.1, (⟨(0 : Int), (0 : Int), (0 : Int)⟩ : Version), []⟩ : Query), v15.2)
          else
            if v3.1 = (5 : Int) then
              (Stream_leaf_1x v3.2).bind fun v16 =>
              (Stream_Flip v16.2 (2 : Int)).bind fun v17 =>
              some ((⟨(1 : Int), ([112, 114, 111, 112, 46, 102, 97, 110, 46, 111, 110] : Str), v16.1, (⟨(1 : Int), v17.1, (0 : Int), []⟩ : ValueS), (⟨(0 : Int), (0 : Int), (0 : Int)⟩ : Version), []⟩ : Query), v17.2)
            else
              if v3.1 = (6 : Int) then
                (Stream_leaf_1x v3.2).bind fun v18 =>
                (Stream_leaf_2x [([120] : Str), ([] : Str)] v18.2).bind fun v19 =>
                some ((⟨(1 : Int), ([112, 114, 111, 112, 46, 97] : Str), v18.1, v19.1, (⟨(0 : Int), (0 : Int), (0 : Int)⟩ : Version), []⟩ : Query), v19.2)
              else
                (Stream_Some v3.2 Q_Ops).bind fun v20 =>
                (Stream_Pick v20.2 [(0 : Int), (5 : Int), (6 : Int), (-5 : Int)]).bind fun v21 =>
                some ((⟨(1 : Int), ([112, 114, 111, 112, 46, 97] : Str), v20.1, (⟨(2 : Int), false, v21.1, []⟩ : ValueS), (⟨(0 : Int), (0 : Int), (0 : Int)⟩ : Version), []⟩ : Query), v21.2)

noncomputable def Stream_RightQuery_j4 (n22 : Int) (v24 : Query × Fleetmake_Stream) (l28 : List Query) : Option (((List Int) × Int × (List Query) × Int) ⊕ (Query × Fleetmake_Stream)) :=
  some (.inl (v24.2.L, v24.2.at_, l28, w64 (n22 + (1 : Int))))

noncomputable def Stream_RightQuery_j3 (l21 : List Query) (n22 : Int) (v24 : Query × Fleetmake_Stream) (c26 : Bool) : Option (((List Int) × Int × (List Query) × Int) ⊕ (Query × Fleetmake_Stream)) :=
  if c26 = true then
    (app l21 v24.1.Kids).bind fun l29 =>
    Stream_RightQuery_j4 n22 v24 l29
  else
    (app l21 [v24.1]).bind fun l31 =>
    Stream_RightQuery_j4 n22 v24 l31

noncomputable def Stream_RightQuery_b1 (self : Fleetmake_Stream → Int → Option (Query × Fleetmake_Stream)) (p1x0 : Int) (v7 : Int × Fleetmake_Stream) (n11 : Int) (l18 : List Int) (n19 : Int) (l21 : List Query) (n22 : Int) : Option (((List Int) × Int × (List Query) × Int) ⊕ (Query × Fleetmake_Stream)) :=
  if n22 < n11 then
    (self (⟨l18, n19⟩ : Fleetmake_Stream) (w64 (p1x0 - (1 : Int)))).bind fun v24 =>
    Stream_RightQuery_j3 l21 n22 v24 ((decide (v24.1.Kind = v7.1)) && (decide (v7.1 ≠ (3 : Int))))
  else
    Option.map .inr (some ((⟨v7.1, [], [], (⟨(0 : Int), false, (0 : Int), []⟩ : ValueS), (⟨(0 : Int), (0 : Int), (0 : Int)⟩ : Version), l21⟩ : Query), (⟨l18, n19⟩ : Fleetmake_Stream)))

noncomputable def Stream_RightQuery_l1 (self : Fleetmake_Stream → Int → Option (Query × Fleetmake_Stream)) (p1x0 : Int) (v7 : Int × Fleetmake_Stream) (n11 : Int) (l18 : List Int) (n19 : Int) (l21 : List Query) (n22 : Int) : Option (Query × Fleetmake_Stream) :=
  iter (fun x : (List Int) × Int × (List Query) × Int => Stream_RightQuery_b1 self p1x0 v7 n11 x.1 x.2.1 x.2.2.1 x.2.2.2) (l18, n19, l21, n22)

noncomputable def Stream_RightQuery_j2 (self : Fleetmake_Stream → Int → Option (Query × Fleetmake_Stream)) (p1x0 : Int) (v7 : Int × Fleetmake_Stream) (l9 : List Int) (n10 : Int) (n11 : Int) : Option (Query × Fleetmake_Stream) :=
  Stream_RightQuery_l1 self p1x0 v7 n11 l9 n10 [] (0 : Int)

noncomputable def Stream_RightQuery_j1 (self : Fleetmake_Stream → Int → Option (Query × Fleetmake_Stream)) (p1x0 : Int) (l2 : List Int) (n3 : Int) (c4 : Bool) : Option (Query × Fleetmake_Stream) :=
  if c4 = true then
    (Stream_leaf (⟨l2, n3⟩ : Fleetmake_Stream)).bind fun v6 =>
    some (v6.1, v6.2)
  else
    (Stream_Pick (⟨l2, n3⟩ : Fleetmake_Stream) [(3 : Int), (4 : Int), (5 : Int)]).bind fun v7 =>
    if v7.1 ≠ (3 : Int) then
      (Stream_Pick v7.2 [(2 : Int), (2 : Int), (3 : Int)]).bind fun v12 =>
      Stream_RightQuery_j2 self p1x0 v7 v12.2.L v12.2.at_ v12.1
    else
      Stream_RightQuery_j2 self p1x0 v7 v7.2.L v7.2.at_ (1 : Int)

noncomputable def Stream_RightQuery_bd (self : Fleetmake_Stream → Int → Option (Query × Fleetmake_Stream)) (p0x0 : Fleetmake_Stream) (p1x0 : Int) : Option (Query × Fleetmake_Stream) :=
  if p1x0 = (0 : Int) then
    Stream_RightQuery_j1 self p1x0 p0x0.L p0x0.at_ true
  else
    (Stream_Flip p0x0 (3 : Int)).bind fun v5 =>
    Stream_RightQuery_j1 self p1x0 v5.2.L v5.2.at_ v5.1

/-- The function, to some depth. -/
noncomputable def Stream_RightQuery_r : Nat → Fleetmake_Stream → Int → Option (Query × Fleetmake_Stream)
  | 0 => fun _ _ => none
  | k + 1 => Stream_RightQuery_bd (Stream_RightQuery_r k)

noncomputable def Stream_RightQuery (p0x0 : Fleetmake_Stream) (p1x0 : Int) : Option (Query × Fleetmake_Stream) :=
  Stream_RightQuery_r depth p0x0 p1x0

noncomputable def Stream_Range (p0x0 : Fleetmake_Stream) (p1x0 : Int) (p2x0 : Int) : Option (Int × Fleetmake_Stream) :=
  if p2x0 < p1x0 then
    some (p1x0, p0x0)
  else
    (Stream_Next p0x0 (w64 ((w64 (p2x0 - p1x0)) + (1 : Int)))).bind fun v1 =>
    some (w64 (p1x0 + v1.1), v1.2)

noncomputable def Stream_Odd (p0x0 : Fleetmake_Stream) (p1x0 : Int) (p2x0 : Int) : Option (Int × Fleetmake_Stream) :=
  (Stream_Flip p0x0 (12 : Int)).bind fun v1 =>
  if v1.1 = true then
    (Stream_Pick v1.2 [w64 (p1x0 - (1 : Int)), w64 (p2x0 + (1 : Int)), p1x0, p2x0, (-1099511627776 : Int), (1099511627776 : Int)]).bind fun v2 =>
    some (v2.1, v2.2)
  else
    (Stream_Range v1.2 p1x0 p2x0).bind fun v3 =>
    some (v3.1, v3.2)

/-- A copy of a list. -/
noncomputable def slices_Clone_Query_Query (p0x0 : List Query) : Option (List Query) :=
  app [] p0x0

noncomputable def Stream_Query_j1 (l6 : List Int) (n7 : Int) (n8 : Int) (q9 : Str) (q10 : Str) (n11 : Int) (c12 : Bool) (n13 : Int) (q14 : Str) (n15 : Int) (n16 : Int) (n17 : Int) (l18 : List Query) : Option (Query × Fleetmake_Stream) :=
  some ((⟨n8, q9, q10, (⟨n11, c12, n13, q14⟩ : ValueS), (⟨n15, n16, n17⟩ : Version), l18⟩ : Query), (⟨l6, n7⟩ : Fleetmake_Stream))

noncomputable def Stream_Query_j2 (l20 : List Int) (n21 : Int) (n22 : Int) (q23 : Str) (q24 : Str) (n25 : Int) (c26 : Bool) (n27 : Int) (q28 : Str) (n29 : Int) (n30 : Int) (n31 : Int) (l32 : List Query) : Option (Query × Fleetmake_Stream) :=
  Stream_Query_j1 l20 n21 n22 q23 q24 n25 c26 n27 q28 n29 n30 n31 l32

noncomputable def Stream_Query_j3 (l34 : List Int) (n35 : Int) (n36 : Int) (q37 : Str) (q38 : Str) (n39 : Int) (c40 : Bool) (n41 : Int) (q42 : Str) (n43 : Int) (n44 : Int) (n45 : Int) (l46 : List Query) : Option (Query × Fleetmake_Stream) :=
  Stream_Query_j2 l34 n35 n36 q37 q38 n39 c40 n41 q42 n43 n44 n45 l46

noncomputable def Stream_Query_j4 (l48 : List Int) (n49 : Int) (n50 : Int) (q51 : Str) (q52 : Str) (n53 : Int) (c54 : Bool) (n55 : Int) (q56 : Str) (n57 : Int) (n58 : Int) (n59 : Int) (l60 : List Query) : Option (Query × Fleetmake_Stream) :=
  Stream_Query_j3 l48 n49 n50 q51 q52 n53 c54 n55 q56 n57 n58 n59 l60

noncomputable def Stream_Query_j5 (l62 : List Int) (n63 : Int) (n64 : Int) (q65 : Str) (q66 : Str) (n67 : Int) (c68 : Bool) (n69 : Int) (q70 : Str) (n71 : Int) (n72 : Int) (n73 : Int) (l74 : List Query) : Option (Query × Fleetmake_Stream) :=
  Stream_Query_j4 l62 n63 n64 q65 q66 n67 c68 n69 q70 n71 n72 n73 l74

noncomputable def Stream_Query_j6 (l77 : List Int) (n78 : Int) (n79 : Int) (q80 : Str) (q81 : Str) (n82 : Int) (c83 : Bool) (n84 : Int) (q85 : Str) (n86 : Int) (n87 : Int) (n88 : Int) (l89 : List Query) : Option (Query × Fleetmake_Stream) :=
  Stream_Query_j5 l77 n78 n79 q80 q81 n82 c83 n84 q85 n86 n87 n88 l89

noncomputable def Stream_Query_b1 (v95 : Int × Fleetmake_Stream) (n108 : Int) (q109 : Str) (q110 : Str) (n111 : Int) (c112 : Bool) (n113 : Int) (q114 : Str) (n115 : Int) (n116 : Int) (n117 : Int) (l118 : List Query) (n119 : Int) : Option ((Int × Str × Str × Int × Bool × Int × Str × Int × Int × Int × (List Query) × Int) ⊕ (Query × Fleetmake_Stream)) :=
  if n119 < v95.1 then
    some (.inl ((3 : Int), [], [], (0 : Int), false, (0 : Int), [], (0 : Int), (0 : Int), (0 : Int), [(⟨n108, q109, q110, (⟨n111, c112, n113, q114⟩ : ValueS), (⟨n115, n116, n117⟩ : Version), l118⟩ : Query)], w64 (n119 + (1 : Int))))
  else
    Option.map .inr (Stream_Query_j6 v95.2.L v95.2.at_ n108 q109 q110 n111 c112 n113 q114 n115 n116 n117 l118)

noncomputable def Stream_Query_l1 (v95 : Int × Fleetmake_Stream) (n108 : Int) (q109 : Str) (q110 : Str) (n111 : Int) (c112 : Bool) (n113 : Int) (q114 : Str) (n115 : Int) (n116 : Int) (n117 : Int) (l118 : List Query) (n119 : Int) : Option (Query × Fleetmake_Stream) :=
  iter (fun x : Int × Str × Str × Int × Bool × Int × Str × Int × Int × Int × (List Query) × Int => Stream_Query_b1 v95 x.1 x.2.1 x.2.2.1 x.2.2.2.1 x.2.2.2.2.1 x.2.2.2.2.2.1 x.2.2.2.2.2.2.1 x.2.2.2.2.2.2.2.1 x.2.2.2.2.2.2.2.2.1 x.2.2.2.2.2.2.2.2.2.1 x.2.2.2.2.2.2.2.2.2.2.1 x.2.2.2.2.2.2.2.2.2.2.2) (n108, q109, q110, n111, c112, n113, q114, n115, n116, n117, l118, n119)

noncomputable def Stream_Query (p0x0 : Fleetmake_Stream) : Option (Query × Fleetmake_Stream) :=
  (Stream_Pick p0x0 [(0 : Int), (1 : Int), (1 : Int), (2 : Int)]).bind fun v2 =>
  (Stream_RightQuery v2.2 v2.1).bind fun v3 =>
  (Stream_Flip v3.2 (12 : Int)).bind fun v5 =>
  if v5.1 = true then
    (Stream_Next v5.2 (6 : Int)).bind fun v19 =>
    if v19.1 = (0 : Int) then
      (Stream_Odd v19.2 (1 : Int) (5 : Int)).bind fun v33 =>
      Stream_Query_j2 v33.2.L v33.2.at_ v33.1 v3.1.Field v3.1.Op v3.1.Value.Kind v3.1.Value.Flag v3.1.Value.Number v3.1.Value.Words v3.1.Version.Major v3.1.Version.Minor v3.1.Version.Patch v3.1.Kids
    else
      if v19.1 = (1 : Int) then
        (Stream_Some v19.2 [([] : Str), ([110, 111, 112, 101] : Str), ([116, 97, 103, 46] : Str), ([116, 97, 103, 46, 65] : Str), ([112, 114, 111, 112, 46, 97, 46] : Str), ([107, 101, 121] : Str), ([102, 105, 114, 109, 119, 97, 114, 101] : Str)]).bind fun v47 =>
        Stream_Query_j3 v47.2.L v47.2.at_ v3.1.Kind v47.1 v3.1.Op v3.1.Value.Kind v3.1.Value.Flag v3.1.Value.Number v3.1.Value.Words v3.1.Version.Major v3.1.Version.Minor v3.1.Version.Patch v3.1.Kids
      else
        if v19.1 = (2 : Int) then
          (Stream_Some v19.2 [([] : Str), ([61] : Str), ([60] : Str), ([61, 61] : Str)]).bind fun v61 =>
          Stream_Query_j4 v61.2.L v61.2.at_ v3.1.Kind v3.1.Field v61.1 v3.1.Value.Kind v3.1.Value.Flag v3.1.Value.Number v3.1.Value.Words v3.1.Version.Major v3.1.Version.Minor v3.1.Version.Patch v3.1.Kids
        else
          if v19.1 = (3 : Int) then
            (Stream_Next v19.2 (5 : Int)).bind fun v75 =>
            (idx [(⟨(0 : Int), false, (0 : Int), []⟩ : ValueS), (⟨(9 : Int), false, (0 : Int), []⟩ : ValueS), (⟨(1 : Int), false, (1 : Int), []⟩ : ValueS), (⟨(3 : Int), false, (0 : Int), ([255] : Str)⟩ : ValueS), (⟨(2 : Int), false, (1000000001 : Int), []⟩ : ValueS)] v75.1).bind fun v76 =>
            Stream_Query_j5 v75.2.L v75.2.at_ v3.1.Kind v3.1.Field v3.1.Op v76.Kind v76.Flag v76.Number v76.Words v3.1.Version.Major v3.1.Version.Minor v3.1.Version.Patch v3.1.Kids
          else
            if v19.1 = (4 : Int) then
              (slices_Clone_Query_Query v3.1.Kids).bind fun v90 =>
              (Stream_leaf v19.2).bind fun v92 =>
              (app v90 [v92.1]).bind fun l93 =>
              Stream_Query_j6 v92.2.L v92.2.at_ v3.1.Kind v3.1.Field v3.1.Op v3.1.Value.Kind v3.1.Value.Flag v3.1.Value.Number v3.1.Value.Words v3.1.Version.Major v3.1.Version.Minor v3.1.Version.Patch l93
            else
              (Stream_Pick v19.2 [(18 : Int), (19 : Int), (20 : Int)]).bind fun v95 =>
              Stream_Query_l1 v95 v3.1.Kind v3.1.Field v3.1.Op v3.1.Value.Kind v3.1.Value.Flag v3.1.Value.Number v3.1.Value.Words v3.1.Version.Major v3.1.Version.Minor v3.1.Version.Patch v3.1.Kids (0 : Int)
  else
    Stream_Query_j1 v5.2.L v5.2.at_ v3.1.Kind v3.1.Field v3.1.Op v3.1.Value.Kind v3.1.Value.Flag v3.1.Value.Number v3.1.Value.Words v3.1.Version.Major v3.1.Version.Minor v3.1.Version.Patch v3.1.Kids

noncomputable def Stream_Item_j1 (n16 : Int) (l20 : List Int) (n21 : Int) (l23 : List Pair) : Option (((List Int) × Int × (List Pair) × Int) ⊕ (ItemS × Fleetmake_Stream)) :=
  some (.inl (l20, n21, l23, w64 (n16 + (1 : Int))))

noncomputable def Stream_Item_j2 (n36 : Int) (l40 : List Int) (n41 : Int) (l43 : List PropS) : Option (((List Int) × Int × (List PropS) × Int) ⊕ (ItemS × Fleetmake_Stream)) :=
  some (.inl (l40, n41, l43, w64 (n36 + (1 : Int))))

noncomputable def Stream_Item_j3 (v2 : Str × Fleetmake_Stream) (v4 : Int × Fleetmake_Stream) (l52 : List Int) (n53 : Int) (q54 : Str) (q55 : Str) (n56 : Int) (l58 : List Pair) (l60 : List PropS) : Option (ItemS × Fleetmake_Stream) :=
  some ((⟨(⟨q54, v2.1, q55, (⟨v4.1, n56, (0 : Int)⟩ : Version), l58⟩ : DeviceS), l60⟩ : ItemS), (⟨l52, n53⟩ : Fleetmake_Stream))

noncomputable def Stream_Item_j4 (v2 : Str × Fleetmake_Stream) (v4 : Int × Fleetmake_Stream) (l62 : List Int) (n63 : Int) (q64 : Str) (q65 : Str) (n66 : Int) (l68 : List Pair) (l70 : List PropS) : Option (ItemS × Fleetmake_Stream) :=
  Stream_Item_j3 v2 v4 l62 n63 q64 q65 n66 l68 l70

noncomputable def Stream_Item_j5 (p1x0 : Str) (v2 : Str × Fleetmake_Stream) (v3 : Str × Fleetmake_Stream) (v4 : Int × Fleetmake_Stream) (l73 : List Int) (n74 : Int) (n75 : Int) (l77 : List Pair) (l79 : List PropS) : Option (ItemS × Fleetmake_Stream) :=
  Stream_Item_j4 v2 v4 l73 n74 p1x0 v3.1 n75 l77 l79

noncomputable def Stream_Item_j6 (p1x0 : Str) (v2 : Str × Fleetmake_Stream) (v3 : Str × Fleetmake_Stream) (v4 : Int × Fleetmake_Stream) (v5 : Int × Fleetmake_Stream) (l81 : List Int) (n82 : Int) (l84 : List Pair) (l86 : List PropS) : Option (ItemS × Fleetmake_Stream) :=
  Stream_Item_j5 p1x0 v2 v3 v4 l81 n82 v5.1 l84 l86

noncomputable def Stream_Item_k7 (p1x0 : Str) (v2 : Str × Fleetmake_Stream) (v3 : Str × Fleetmake_Stream) (v4 : Int × Fleetmake_Stream) (v5 : Int × Fleetmake_Stream) (l15 : List Pair) (l32 : List Int) (n33 : Int) (l35 : List PropS) : Option (ItemS × Fleetmake_Stream) :=
  (Stream_Flip (⟨l32, n33⟩ : Fleetmake_Stream) (30 : Int)).bind fun v51 =>
  if v51.1 = true then
    (Stream_Next v51.2 (4 : Int)).bind fun v61 =>
    if v61.1 = (0 : Int) then
      (Stream_Some v61.2 [([] : Str), ([65] : Str)]).bind fun v71 =>
      (Stream_Some v71.2 [([] : Str), ([65] : Str)]).bind fun v72 =>
      Stream_Item_j4 v2 v4 v72.2.L v72.2.at_ v71.1 v72.1 v5.1 l15 l35
    else
      if v61.1 = (1 : Int) then
        (Stream_Odd v61.2 (0 : Int) (9999 : Int)).bind fun v80 =>
        Stream_Item_j5 p1x0 v2 v3 v4 v80.2.L v80.2.at_ v80.1 l15 l35
      else
        if v61.1 = (2 : Int) then
          (Stream_Some v61.2 [([115, 105, 116, 101] : Str), ([65] : Str), ([122] : Str)]).bind fun v87 =>
          (Stream_Some v87.2 [([] : Str), ([32, 120] : Str), ([118] : Str)]).bind fun v88 =>
          (app l15 [(⟨v87.1, v88.1⟩ : Pair)]).bind fun l89 =>
          Stream_Item_j6 p1x0 v2 v3 v4 v5 v88.2.L v88.2.at_ l89 l35
        else
          (Stream_Some v61.2 [([102, 97, 110, 46, 111, 110] : Str), ([65] : Str), ([122] : Str)]).bind fun v91 =>
          (Stream_Odd v91.2 (1 : Int) (3 : Int)).bind fun v92 =>
          (app l35 [(⟨v91.1, (⟨v92.1, false, (0 : Int), []⟩ : ValueS)⟩ : PropS)]).bind fun l93 =>
          Stream_Item_j6 p1x0 v2 v3 v4 v5 v92.2.L v92.2.at_ l15 l93
  else
    Stream_Item_j3 v2 v4 v51.2.L v51.2.at_ p1x0 v3.1 v5.1 l15 l35

noncomputable def Stream_Item_b2 (p1x0 : Str) (v2 : Str × Fleetmake_Stream) (v3 : Str × Fleetmake_Stream) (v4 : Int × Fleetmake_Stream) (v5 : Int × Fleetmake_Stream) (l15 : List Pair) (l32 : List Int) (n33 : Int) (l35 : List PropS) (n36 : Int) : Option (((List Int) × Int × (List PropS) × Int) ⊕ (ItemS × Fleetmake_Stream)) :=
  if n36 < ([([97] : Str), ([102, 97, 110, 46, 111, 110] : Str)].length : Int) then
    (idx [([97] : Str), ([102, 97, 110, 46, 111, 110] : Str)] n36).bind fun v38 =>
    (Stream_Flip (⟨l32, n33⟩ : Fleetmake_Stream) (2 : Int)).bind fun v39 =>
    if v39.1 = true then
      (Stream_Pick v39.2 [(0 : Int), (5 : Int), (6 : Int), (-5 : Int)]).bind fun v44 =>
      (Stream_Flip v44.2 (2 : Int)).bind fun v45 =>
      (Stream_Some v45.2 [([120] : Str), ([] : Str)]).bind fun v46 =>
      (Stream_Pick v46.2 [(0 : Int), (0 : Int), (1 : Int), (2 : Int)]).bind fun v47 =>
      (idx [(⟨(2 : Int), false, v44.1, []⟩ : ValueS), (⟨(1 : Int), v45.1, (0 : Int), []⟩ : ValueS), (⟨(3 : Int), false, (0 : Int), v46.1⟩ : ValueS)] v47.1).bind fun v48 =>
      (app l35 [(⟨v38, v48⟩ : PropS)]).bind fun l49 =>
      Stream_Item_j2 n36 v47.2.L v47.2.at_ l49
    else
      Stream_Item_j2 n36 v39.2.L v39.2.at_ l35
  else
    Option.map .inr (Stream_Item_k7 p1x0 v2 v3 v4 v5 l15 l32 n33 l35)

noncomputable def Stream_Item_l2 (p1x0 : Str) (v2 : Str × Fleetmake_Stream) (v3 : Str × Fleetmake_Stream) (v4 : Int × Fleetmake_Stream) (v5 : Int × Fleetmake_Stream) (l15 : List Pair) (l32 : List Int) (n33 : Int) (l35 : List PropS) (n36 : Int) : Option (ItemS × Fleetmake_Stream) :=
  iter (fun x : (List Int) × Int × (List PropS) × Int => Stream_Item_b2 p1x0 v2 v3 v4 v5 l15 x.1 x.2.1 x.2.2.1 x.2.2.2) (l32, n33, l35, n36)

noncomputable def Stream_Item_b1 (p1x0 : Str) (v2 : Str × Fleetmake_Stream) (v3 : Str × Fleetmake_Stream) (v4 : Int × Fleetmake_Stream) (v5 : Int × Fleetmake_Stream) (l12 : List Int) (n13 : Int) (l15 : List Pair) (n16 : Int) : Option (((List Int) × Int × (List Pair) × Int) ⊕ (ItemS × Fleetmake_Stream)) :=
  if n16 < ([([111, 112, 101, 110] : Str), ([115, 105, 116, 101] : Str)].length : Int) then
    (idx [([111, 112, 101, 110] : Str), ([115, 105, 116, 101] : Str)] n16).bind fun v18 =>
    (Stream_Flip (⟨l12, n13⟩ : Fleetmake_Stream) (2 : Int)).bind fun v19 =>
    if v19.1 = true then
      (Stream_Some v19.2 [([120] : Str), ([121] : Str), ([97, 34, 98, 92, 99] : Str)]).bind fun v24 =>
      (app l15 [(⟨v18, v24.1⟩ : Pair)]).bind fun l25 =>
      Stream_Item_j1 n16 v24.2.L v24.2.at_ l25
    else
      Stream_Item_j1 n16 v19.2.L v19.2.at_ l15
  else
    Option.map .inr (Stream_Item_l2 p1x0 v2 v3 v4 v5 l15 l12 n13 [] (0 : Int))

noncomputable def Stream_Item_l1 (p1x0 : Str) (v2 : Str × Fleetmake_Stream) (v3 : Str × Fleetmake_Stream) (v4 : Int × Fleetmake_Stream) (v5 : Int × Fleetmake_Stream) (l12 : List Int) (n13 : Int) (l15 : List Pair) (n16 : Int) : Option (ItemS × Fleetmake_Stream) :=
  iter (fun x : (List Int) × Int × (List Pair) × Int => Stream_Item_b1 p1x0 v2 v3 v4 v5 x.1 x.2.1 x.2.2.1 x.2.2.2) (l12, n13, l15, n16)

noncomputable def Stream_Item (p0x0 : Fleetmake_Stream) (p1x0 : Str) : Option (ItemS × Fleetmake_Stream) :=
  (Stream_Some p0x0 [([109, 97] : Str), ([109, 98] : Str)]).bind fun v2 =>
  (Stream_Some v2.2 [([116, 97] : Str), ([116, 98] : Str), ([116, 100] : Str), ([] : Str)]).bind fun v3 =>
  (Stream_Next v3.2 (2 : Int)).bind fun v4 =>
  (Stream_Pick v4.2 [(0 : Int), (2 : Int)]).bind fun v5 =>
  Stream_Item_l1 p1x0 v2 v3 v4 v5 v5.2.L v5.2.at_ [] (0 : Int)

noncomputable def Stream_ItemList_j1 (n10 : Int) (l14 : List Int) (n15 : Int) (l17 : List ItemS) : Option (((List Int) × Int × (List ItemS) × Int) ⊕ ((List ItemS) × Fleetmake_Stream)) :=
  some (.inl (l14, n15, l17, w64 (n10 + (1 : Int))))

noncomputable def Stream_ItemList_b1 (l6 : List Int) (n7 : Int) (l9 : List ItemS) (n10 : Int) : Option (((List Int) × Int × (List ItemS) × Int) ⊕ ((List ItemS) × Fleetmake_Stream)) :=
  if n10 < ([([100, 97] : Str), ([100, 98] : Str), ([100, 99] : Str), ([100, 100] : Str)].length : Int) then
    (idx [([100, 97] : Str), ([100, 98] : Str), ([100, 99] : Str), ([100, 100] : Str)] n10).bind fun v12 =>
    (Stream_Flip (⟨l6, n7⟩ : Fleetmake_Stream) (4 : Int)).bind fun v13 =>
    if (!v13.1) = true then
      (Stream_Item v13.2 v12).bind fun v18 =>
      (app l9 [v18.1]).bind fun l19 =>
      Stream_ItemList_j1 n10 v18.2.L v18.2.at_ l19
    else
      Stream_ItemList_j1 n10 v13.2.L v13.2.at_ l9
  else
    Option.map .inr (some (l9, (⟨l6, n7⟩ : Fleetmake_Stream)))

noncomputable def Stream_ItemList_l1 (l6 : List Int) (n7 : Int) (l9 : List ItemS) (n10 : Int) : Option ((List ItemS) × Fleetmake_Stream) :=
  iter (fun x : (List Int) × Int × (List ItemS) × Int => Stream_ItemList_b1 x.1 x.2.1 x.2.2.1 x.2.2.2) (l6, n7, l9, n10)

noncomputable def Stream_ItemList (p0x0 : Fleetmake_Stream) : Option ((List ItemS) × Fleetmake_Stream) :=
  Stream_ItemList_l1 p0x0.L p0x0.at_ [] (0 : Int)

noncomputable def item_Measure_b1 (self : Query → Option (Int × Int)) (p0x0 : Query) (n7 : Int) (n8 : Int) (n9 : Int) : Option ((Int × Int × Int) ⊕ (Int × Int)) :=
  if n9 < (p0x0.Kids.length : Int) then
    (idx p0x0.Kids n9).bind fun v10 =>
    (self v10).bind fun v12 =>
    some (.inl (w64 (n7 + v12.1), max n8 v12.2, w64 (n9 + (1 : Int))))
  else
    Option.map .inr (some (n7, w64 (n8 + (1 : Int))))

noncomputable def item_Measure_l1 (self : Query → Option (Int × Int)) (p0x0 : Query) (n7 : Int) (n8 : Int) (n9 : Int) : Option (Int × Int) :=
  iter (fun x : Int × Int × Int => item_Measure_b1 self p0x0 x.1 x.2.1 x.2.2) (n7, n8, n9)

noncomputable def item_Measure_j2 (self : Query → Option (Int × Int)) (p0x0 : Query) (n3 : Int) : Option (Int × Int) :=
  item_Measure_l1 self p0x0 n3 (0 : Int) (0 : Int)

noncomputable def item_Measure_j1 (self : Query → Option (Int × Int)) (p0x0 : Query) (c2 : Bool) : Option (Int × Int) :=
  if c2 = true then
    item_Measure_j2 self p0x0 (1 : Int)
  else
    item_Measure_j2 self p0x0 (0 : Int)

noncomputable def item_Measure_bd (self : Query → Option (Int × Int)) (p0x0 : Query) : Option (Int × Int) :=
  item_Measure_j1 self p0x0 ((decide (p0x0.Kind = (1 : Int))) || (decide (p0x0.Kind = (2 : Int))))

/-- The function, to some depth. -/
noncomputable def item_Measure_r : Nat → Query → Option (Int × Int)
  | 0 => fun _ => none
  | k + 1 => item_Measure_bd (item_Measure_r k)

noncomputable def item_Measure (p0x0 : Query) : Option (Int × Int) :=
  item_Measure_r depth p0x0

noncomputable def base_Out_j1 (c1 : Bool) : Bool :=
  c1

noncomputable def base_Out (p0x0 : Int) (p1x0 : Int) (p2x0 : Int) : Bool :=
  base_Out_j1 ((decide (p0x0 < p1x0)) || (decide (p2x0 < p0x0)))

noncomputable def item_formFault_1x (p0x0 : Query) (p1x0 : Query) : Bool :=
  decide (p0x0.Kind = p1x0.Kind)

noncomputable def slices_IndexFunc_Query_Query_b1 (p0x0 : List Query) (fnb : Query → Option Bool) (n2 : Int) : Option (Int ⊕ Int) :=
  if n2 < (p0x0.length : Int) then
    (idx p0x0 n2).bind fun v3 =>
    (fnb v3).bind fun v4 =>
    if v4 = true then
      Option.map .inr (some n2)
    else
      some (.inl (w64 (n2 + (1 : Int))))
  else
    Option.map .inr (some (-1 : Int))

noncomputable def slices_IndexFunc_Query_Query_l1 (p0x0 : List Query) (fnb : Query → Option Bool) (n2 : Int) : Option Int :=
  iter (fun x : Int => slices_IndexFunc_Query_Query_b1 p0x0 fnb x) n2

noncomputable def slices_IndexFunc_Query_Query (p0x0 : List Query) (fnb : Query → Option Bool) : Option Int :=
  slices_IndexFunc_Query_Query_l1 p0x0 fnb (0 : Int)

noncomputable def slices_ContainsFunc_Query_Query (p0x0 : List Query) (fnb : Query → Option Bool) : Option Bool :=
  (slices_IndexFunc_Query_Query p0x0 fnb).bind fun v1 =>
  some (decide ((0 : Int) ≤ v1))

noncomputable def item_formFault_j5 (c18 : Bool) : Option Int :=
  if c18 = true then
    some (3 : Int)
  else
    some (0 : Int)

noncomputable def item_formFault_j1 (p0x0 : Query) (c3 : Bool) (q4 : Str) (q5 : Str) (n6 : Int) (c7 : Bool) (n8 : Int) (q9 : Str) (n10 : Int) (n11 : Int) (n12 : Int) : Option Int :=
  item_formFault_j5 (c3 || ((decide (q4 ≠ p0x0.Field)) || ((decide (q5 ≠ p0x0.Op)) || ((decide ((⟨n6, c7, n8, q9⟩ : ValueS) ≠ p0x0.Value)) || (decide ((⟨n10, n11, n12⟩ : Version) ≠ p0x0.Version))))))

noncomputable def item_formFault_j2 (p0x0 : Query) (c13 : Bool) (q14 : Str) : Option Int :=
  item_formFault_j1 p0x0 c13 q14 [] (0 : Int) false (0 : Int) [] (0 : Int) (0 : Int) (0 : Int)

noncomputable def item_formFault_j3 (p0x0 : Query) (c15 : Bool) : Option Int :=
  item_formFault_j2 p0x0 c15 []

noncomputable def item_formFault_j4 (p0x0 : Query) (c16 : Bool) : Option Int :=
  item_formFault_j3 p0x0 c16

noncomputable def item_formFault (p0x0 : Query) : Option Int :=
  if (base_Out p0x0.Kind (1 : Int) (5 : Int)) = true then
    some (4 : Int)
  else
    if p0x0.Kind = (1 : Int) then
      item_formFault_j1 p0x0 (decide ((p0x0.Kids.length : Int) ≠ (0 : Int))) p0x0.Field p0x0.Op p0x0.Value.Kind p0x0.Value.Flag p0x0.Value.Number p0x0.Value.Words p0x0.Version.Major p0x0.Version.Minor p0x0.Version.Patch
    else
      if p0x0.Kind = (2 : Int) then
        item_formFault_j2 p0x0 (decide ((p0x0.Kids.length : Int) ≠ (0 : Int))) p0x0.Field
      else
        if p0x0.Kind = (3 : Int) then
          item_formFault_j3 p0x0 (decide ((p0x0.Kids.length : Int) ≠ (1 : Int)))
        else
          if (p0x0.Kids.length : Int) < (2 : Int) then
            item_formFault_j4 p0x0 true
          else
            (slices_ContainsFunc_Query_Query p0x0.Kids (fun y0 => some (item_formFault_1x y0 p0x0))).bind fun v17 =>
            item_formFault_j4 p0x0 v17

noncomputable def internal_stringslite_HasPrefix_j1 (c1 : Bool) : Option Bool :=
  some c1

noncomputable def internal_stringslite_HasPrefix (p0x0 : Str) (p1x0 : Str) : Option Bool :=
  if (p1x0.length : Int) ≤ (p0x0.length : Int) then
    (slc p0x0 (0 : Int) (p1x0.length : Int)).bind fun l2 =>
    internal_stringslite_HasPrefix_j1 (decide (l2 = p1x0))
  else
    internal_stringslite_HasPrefix_j1 false

noncomputable def internal_stringslite_CutPrefix (p0x0 : Str) (p1x0 : Str) : Option (Str × Bool) :=
  (internal_stringslite_HasPrefix p0x0 p1x0).bind fun v1 =>
  if (!v1) = true then
    some (p0x0, false)
  else
    (slc p0x0 (p1x0.length : Int) (p0x0.length : Int)).bind fun l2 =>
    some (l2, true)

noncomputable def strings_CutPrefix (p0x0 : Str) (p1x0 : Str) : Option (Str × Bool) :=
  (internal_stringslite_CutPrefix p0x0 p1x0).bind fun v1 =>
  some (v1.1, v1.2)

noncomputable def base_Key_j2 (n5 : Int) (c7 : Bool) : Option (Int ⊕ Bool) :=
  if c7 = true then
    Option.map .inr (some false)
  else
    some (.inl (w64 (n5 + (1 : Int))))

noncomputable def base_Key_b1 (p0x0 : Str) (n5 : Int) : Option (Int ⊕ Bool) :=
  if n5 < (p0x0.length : Int) then
    (idx p0x0 n5).bind fun c6 =>
    base_Key_j2 n5 (if (97 : Int) ≤ (c6.toNat : Int) then if (c6.toNat : Int) ≤ (122 : Int) then !true else if (48 : Int) ≤ (c6.toNat : Int) then if (c6.toNat : Int) ≤ (57 : Int) then !true else if (c6.toNat : Int) = (45 : Int) then !true else decide (¬ ((c6.toNat : Int) = (95 : Int))) else if (c6.toNat : Int) = (45 : Int) then !true else decide (¬ ((c6.toNat : Int) = (95 : Int))) else if (48 : Int) ≤ (c6.toNat : Int) then if (c6.toNat : Int) ≤ (57 : Int) then !true else if (c6.toNat : Int) = (45 : Int) then !true else decide (¬ ((c6.toNat : Int) = (95 : Int))) else if (c6.toNat : Int) = (45 : Int) then !true else decide (¬ ((c6.toNat : Int) = (95 : Int))))
  else
    Option.map .inr (some true)

noncomputable def base_Key_l1 (p0x0 : Str) (n5 : Int) : Option Bool :=
  iter (fun x : Int => base_Key_b1 p0x0 x) n5

noncomputable def base_Key_j1 (p0x0 : Str) (c1 : Bool) : Option Bool :=
  if c1 = true then
    some false
  else
    base_Key_l1 p0x0 (0 : Int)

noncomputable def base_Key (p0x0 : Str) : Option Bool :=
  if p0x0 = ([] : Str) then
    base_Key_j1 p0x0 true
  else
    if (40 : Int) < (p0x0.length : Int) then
      base_Key_j1 p0x0 true
    else
      (idx p0x0 (0 : Int)).bind fun c2 =>
      if (c2.toNat : Int) < (97 : Int) then
        base_Key_j1 p0x0 true
      else
        (idx p0x0 (0 : Int)).bind fun c3 =>
        base_Key_j1 p0x0 (decide ((122 : Int) < (c3.toNat : Int)))

noncomputable def item_isTag_j1 (c2 : Bool) : Option Bool :=
  some c2

noncomputable def item_isTag (p0x0 : Str) : Option Bool :=
  (strings_CutPrefix p0x0 ([116, 97, 103, 46] : Str)).bind fun v1 =>
  if v1.2 = true then
    (base_Key v1.1).bind fun v3 =>
    item_isTag_j1 v3
  else
    item_isTag_j1 false

noncomputable def base_Dotted_b1 (p1x0 : Int) (q3 : Str) (n4 : Int) : Option ((Str × Int) ⊕ Bool) :=
  if n4 < p1x0 then
    (cutO q3 ([46] : Str)).bind fun v5 =>
    (base_Key v5.1).bind fun v6 =>
    if (!v6) = true then
      Option.map .inr (some false)
    else
      if (!v5.2.2) = true then
        Option.map .inr (some true)
      else
        some (.inl (v5.2.1, w64 (n4 + (1 : Int))))
  else
    Option.map .inr (some false)

noncomputable def base_Dotted_l1 (p1x0 : Int) (q3 : Str) (n4 : Int) : Option Bool :=
  iter (fun x : Str × Int => base_Dotted_b1 p1x0 x.1 x.2) (q3, n4)

noncomputable def base_Dotted (p0x0 : Str) (p1x0 : Int) : Option Bool :=
  base_Dotted_l1 p1x0 p0x0 (0 : Int)

noncomputable def item_Property_j1 (c1 : Bool) : Option Bool :=
  some c1

noncomputable def item_Property (p0x0 : Str) : Option Bool :=
  if (p0x0.length : Int) ≤ (40 : Int) then
    (base_Dotted p0x0 (5 : Int)).bind fun v2 =>
    item_Property_j1 v2
  else
    item_Property_j1 false

noncomputable def item_isProp_j1 (c2 : Bool) : Option Bool :=
  some c2

noncomputable def item_isProp (p0x0 : Str) : Option Bool :=
  (strings_CutPrefix p0x0 ([112, 114, 111, 112, 46] : Str)).bind fun v1 =>
  if v1.2 = true then
    (item_Property v1.1).bind fun v3 =>
    item_isProp_j1 v3
  else
    item_isProp_j1 false

noncomputable def item_Field_j1 (c1 : Bool) : Option Bool :=
  some c1

noncomputable def item_Field (p0x0 : Str) : Option Bool :=
  if p0x0 = ([107, 101, 121] : Str) then
    item_Field_j1 true
  else
    if p0x0 = ([109, 111, 100, 101, 108] : Str) then
      item_Field_j1 true
    else
      if p0x0 = ([116, 101, 110, 97, 110, 116] : Str) then
        item_Field_j1 true
      else
        if p0x0 = ([102, 105, 114, 109, 119, 97, 114, 101] : Str) then
          item_Field_j1 true
        else
          (item_isTag p0x0).bind fun v2 =>
          if v2 = true then
            item_Field_j1 true
          else
            (item_isProp p0x0).bind fun v3 =>
            item_Field_j1 v3

noncomputable def item_Operations : (List Str) :=
  [([61, 61] : Str), ([33, 61] : Str), ([60] : Str), ([60, 61] : Str), ([62] : Str), ([62, 61] : Str)]

noncomputable def slices_Index_string_string_b1 (p0x0 : List Str) (p1x0 : Str) (n2 : Int) : Option (Int ⊕ Int) :=
  if n2 < (p0x0.length : Int) then
    (idx p0x0 n2).bind fun v3 =>
    if p1x0 = v3 then
      Option.map .inr (some n2)
    else
      some (.inl (w64 (n2 + (1 : Int))))
  else
    Option.map .inr (some (-1 : Int))

noncomputable def slices_Index_string_string_l1 (p0x0 : List Str) (p1x0 : Str) (n2 : Int) : Option Int :=
  iter (fun x : Int => slices_Index_string_string_b1 p0x0 p1x0 x) n2

noncomputable def slices_Index_string_string (p0x0 : List Str) (p1x0 : Str) : Option Int :=
  slices_Index_string_string_l1 p0x0 p1x0 (0 : Int)

noncomputable def slices_Contains_string_string (p0x0 : List Str) (p1x0 : Str) : Option Bool :=
  (slices_Index_string_string p0x0 p1x0).bind fun v1 =>
  some (decide ((0 : Int) ≤ v1))

noncomputable def base_Version_j1 (c2 : Bool) : Bool :=
  c2

noncomputable def base_Version (p0x0 : Version) : Bool :=
  base_Version_j1 ((!(base_Out p0x0.Major (0 : Int) (9999 : Int))) && ((!(base_Out p0x0.Minor (0 : Int) (9999 : Int))) && (!(base_Out p0x0.Patch (0 : Int) (9999 : Int)))))

noncomputable def item_Right_j4 (c11 : Bool) : Option Bool :=
  some c11

noncomputable def item_Right_j1 (p0x0 : ValueS) (c3 : Bool) (n4 : Int) (q5 : Str) : Option Bool :=
  if p0x0 = (⟨p0x0.Kind, c3, n4, q5⟩ : ValueS) then
    if (!(base_Out p0x0.Number (-1000000000 : Int) (1000000000 : Int))) = true then
      if (p0x0.Words.length : Int) ≤ (100 : Int) then
        (validO p0x0.Words).bind fun v12 =>
        item_Right_j4 v12
      else
        item_Right_j4 false
    else
      item_Right_j4 false
  else
    item_Right_j4 false

noncomputable def item_Right_j2 (p0x0 : ValueS) (c6 : Bool) (n7 : Int) (q8 : Str) : Option Bool :=
  item_Right_j1 p0x0 c6 n7 q8

noncomputable def item_Right_j3 (p0x0 : ValueS) (n9 : Int) (q10 : Str) : Option Bool :=
  item_Right_j2 p0x0 false n9 q10

noncomputable def item_Right (p0x0 : ValueS) : Option Bool :=
  if p0x0.Kind = (0 : Int) then
    item_Right_j1 p0x0 false (0 : Int) []
  else
    if p0x0.Kind = (1 : Int) then
      item_Right_j2 p0x0 p0x0.Flag (0 : Int) []
    else
      if p0x0.Kind = (2 : Int) then
        item_Right_j3 p0x0 p0x0.Number []
      else
        if p0x0.Kind = (3 : Int) then
          item_Right_j3 p0x0 (0 : Int) p0x0.Words
        else
          some false

noncomputable def item_leafFault_j6 (c14 : Bool) : Option Int :=
  if c14 = true then
    some (10 : Int)
  else
    some (0 : Int)

noncomputable def item_leafFault_j5 (p0x0 : Query) (c12 : Bool) : Option Int :=
  if c12 = true then
    some (10 : Int)
  else
    item_leafFault_j6 ((decide (p0x0.Value.Kind ≠ (2 : Int))) && ((decide (p0x0.Op ≠ ([61, 61] : Str))) && (decide (p0x0.Op ≠ ([33, 61] : Str)))))

noncomputable def item_leafFault_j4 (p0x0 : Query) (c10 : Bool) : Option Int :=
  if c10 = true then
    some (3 : Int)
  else
    if p0x0.Value.Kind ≠ (3 : Int) then
      (item_isProp p0x0.Field).bind fun v13 =>
      item_leafFault_j5 p0x0 (!v13)
    else
      item_leafFault_j5 p0x0 false

noncomputable def item_leafFault_j3 (p0x0 : Query) (c9 : Bool) : Option Int :=
  if c9 = true then
    some (1 : Int)
  else
    if p0x0.Field = ([102, 105, 114, 109, 119, 97, 114, 101] : Str) then
      some (0 : Int)
    else
      if p0x0.Version ≠ (⟨(0 : Int), (0 : Int), (0 : Int)⟩ : Version) then
        item_leafFault_j4 p0x0 true
      else
        (item_Right p0x0.Value).bind fun v11 =>
        item_leafFault_j4 p0x0 ((!v11) || (decide (p0x0.Value.Kind = (0 : Int))))

noncomputable def item_leafFault_j2 (p0x0 : Query) (c8 : Bool) : Option Int :=
  if c8 = true then
    some (3 : Int)
  else
    item_leafFault_j3 p0x0 ((decide (p0x0.Field = ([102, 105, 114, 109, 119, 97, 114, 101] : Str))) && (!(base_Version p0x0.Version)))

noncomputable def item_leafFault_j1 (p0x0 : Query) (c2 : Bool) : Option Int :=
  if c2 = true then
    some (5 : Int)
  else
    if p0x0.Kind = (2 : Int) then
      some (0 : Int)
    else
      (slices_Contains_string_string item_Operations p0x0.Op).bind fun v7 =>
      if (!v7) = true then
        some (10 : Int)
      else
        item_leafFault_j2 p0x0 ((decide (p0x0.Field = ([102, 105, 114, 109, 119, 97, 114, 101] : Str))) && (decide (p0x0.Value ≠ (⟨(0 : Int), false, (0 : Int), []⟩ : ValueS))))

noncomputable def item_leafFault (p0x0 : Query) : Option Int :=
  (item_Field p0x0.Field).bind fun v3 =>
  if (!v3) = true then
    item_leafFault_j1 p0x0 true
  else
    if p0x0.Kind = (2 : Int) then
      (item_isTag p0x0.Field).bind fun v4 =>
      if (!v4) = true then
        (item_isProp p0x0.Field).bind fun v5 =>
        item_leafFault_j1 p0x0 (!v5)
      else
        item_leafFault_j1 p0x0 false
    else
      item_leafFault_j1 p0x0 false

noncomputable def item_partFault_b1 (self : Query → Option Int) (p0x0 : Query) (n6 : Int) : Option (Int ⊕ Int) :=
  if n6 < (p0x0.Kids.length : Int) then
    (idx p0x0.Kids n6).bind fun v7 =>
    (self v7).bind fun v9 =>
    if v9 ≠ (0 : Int) then
      Option.map .inr (some v9)
    else
      some (.inl (w64 (n6 + (1 : Int))))
  else
    Option.map .inr (some (0 : Int))

noncomputable def item_partFault_l1 (self : Query → Option Int) (p0x0 : Query) (n6 : Int) : Option Int :=
  iter (fun x : Int => item_partFault_b1 self p0x0 x) n6

noncomputable def item_partFault_j1 (self : Query → Option Int) (p0x0 : Query) (c3 : Bool) : Option Int :=
  if c3 = true then
    (item_leafFault p0x0).bind fun v4 =>
    some v4
  else
    item_partFault_l1 self p0x0 (0 : Int)

noncomputable def item_partFault_bd (self : Query → Option Int) (p0x0 : Query) : Option Int :=
  (item_formFault p0x0).bind fun v2 =>
  if v2 ≠ (0 : Int) then
    some v2
  else
    item_partFault_j1 self p0x0 ((decide (p0x0.Kind = (1 : Int))) || (decide (p0x0.Kind = (2 : Int))))

/-- The function, to some depth. -/
noncomputable def item_partFault_r : Nat → Query → Option Int
  | 0 => fun _ => none
  | k + 1 => item_partFault_bd (item_partFault_r k)

noncomputable def item_partFault (p0x0 : Query) : Option Int :=
  item_partFault_r depth p0x0

noncomputable def item_QueryFault_j1 (p0x0 : Query) (c3 : Bool) : Option Int :=
  if c3 = true then
    some (2 : Int)
  else
    (item_partFault p0x0).bind fun v4 =>
    some v4

noncomputable def item_QueryFault (p0x0 : Query) : Option Int :=
  (item_Measure p0x0).bind fun v2 =>
  item_QueryFault_j1 p0x0 ((decide ((40 : Int) < v2.1)) || (decide ((20 : Int) < v2.2)))

noncomputable def device_CheckQuery (p0x0 : Query) : Option Int :=
  (item_QueryFault p0x0).bind fun v2 =>
  some v2

noncomputable def base_Unmarked_j1 (n2 : Int) (c3 : Bool) : Option (Int ⊕ Bool) :=
  if c3 = true then
    Option.map .inr (some false)
  else
    some (.inl (w64 (n2 + (1 : Int))))

noncomputable def base_Unmarked_k2 (p0x0 : Str) : Option Bool :=
  (validO p0x0).bind fun v6 =>
  some v6

noncomputable def base_Unmarked_b1 (p0x0 : Str) (n2 : Int) : Option (Int ⊕ Bool) :=
  if n2 < (p0x0.length : Int) then
    (idx p0x0 n2).bind fun c4 =>
    if (c4.toNat : Int) < (32 : Int) then
      base_Unmarked_j1 n2 true
    else
      (idx p0x0 n2).bind fun c5 =>
      base_Unmarked_j1 n2 (decide ((c5.toNat : Int) = (127 : Int)))
  else
    Option.map .inr (base_Unmarked_k2 p0x0)

noncomputable def base_Unmarked_l1 (p0x0 : Str) (n2 : Int) : Option Bool :=
  iter (fun x : Int => base_Unmarked_b1 p0x0 x) n2

noncomputable def base_Unmarked (p0x0 : Str) : Option Bool :=
  base_Unmarked_l1 p0x0 (0 : Int)

noncomputable def strings_HasPrefix (p0x0 : Str) (p1x0 : Str) : Option Bool :=
  (internal_stringslite_HasPrefix p0x0 p1x0).bind fun v1 =>
  some v1

noncomputable def internal_stringslite_HasSuffix_j1 (c1 : Bool) : Option Bool :=
  some c1

noncomputable def internal_stringslite_HasSuffix (p0x0 : Str) (p1x0 : Str) : Option Bool :=
  if (p1x0.length : Int) ≤ (p0x0.length : Int) then
    (slc p0x0 (w64 ((p0x0.length : Int) - (p1x0.length : Int))) (p0x0.length : Int)).bind fun l2 =>
    internal_stringslite_HasSuffix_j1 (decide (l2 = p1x0))
  else
    internal_stringslite_HasSuffix_j1 false

noncomputable def strings_HasSuffix (p0x0 : Str) (p1x0 : Str) : Option Bool :=
  (internal_stringslite_HasSuffix p0x0 p1x0).bind fun v1 =>
  some v1

noncomputable def strings_Contains (p0x0 : Str) (p1x0 : Str) : Option Bool :=
  (indexO p0x0 p1x0).bind fun v1 =>
  some (decide ((0 : Int) ≤ v1))

noncomputable def base_Plain_j1 (c1 : Bool) : Option Bool :=
  some c1

noncomputable def base_Plain (p0x0 : Str) : Option Bool :=
  (base_Unmarked p0x0).bind fun v2 =>
  if v2 = true then
    (strings_HasPrefix p0x0 ([32] : Str)).bind fun v3 =>
    if (!v3) = true then
      (strings_HasSuffix p0x0 ([32] : Str)).bind fun v4 =>
      if (!v4) = true then
        (strings_Contains p0x0 ([32, 32] : Str)).bind fun v5 =>
        base_Plain_j1 (!v5)
      else
        base_Plain_j1 false
    else
      base_Plain_j1 false
  else
    base_Plain_j1 false

noncomputable def item_TagValue_j1 (c1 : Bool) : Option Bool :=
  some c1

noncomputable def item_TagValue (p0x0 : Str) : Option Bool :=
  if (!(base_Out (p0x0.length : Int) (1 : Int) (100 : Int))) = true then
    (base_Plain p0x0).bind fun v2 =>
    item_TagValue_j1 v2
  else
    item_TagValue_j1 false

noncomputable def item_Fault_j2 (n8 : Int) (v9 : Pair) (c12 : Bool) : Option (Int ⊕ Int) :=
  if c12 = true then
    Option.map .inr (some (7 : Int))
  else
    (item_TagValue v9.Value).bind fun v14 =>
    if (!v14) = true then
      Option.map .inr (some (3 : Int))
    else
      some (.inl (w64 (n8 + (1 : Int))))

noncomputable def item_Fault_j4 (n16 : Int) (c22 : Bool) : Option (Int ⊕ Int) :=
  if c22 = true then
    Option.map .inr (some (3 : Int))
  else
    some (.inl (w64 (n16 + (1 : Int))))

noncomputable def item_Fault_j3 (n16 : Int) (v17 : PropS) (c20 : Bool) : Option (Int ⊕ Int) :=
  if c20 = true then
    Option.map .inr (some (7 : Int))
  else
    (item_Right v17.Value).bind fun v23 =>
    item_Fault_j4 n16 ((!v23) || (decide (v17.Value.Kind = (0 : Int))))

noncomputable def item_Fault_b2 (p0x0 : ItemS) (n16 : Int) : Option (Int ⊕ Int) :=
  if n16 < (p0x0.Props.length : Int) then
    (idx p0x0.Props n16).bind fun v17 =>
    (item_Property v17.Name).bind fun v19 =>
    if (!v19) = true then
      Option.map .inr (some (5 : Int))
    else
      if (0 : Int) < n16 then
        (idx p0x0.Props (w64 (n16 - (1 : Int)))).bind fun v21 =>
        item_Fault_j3 n16 v17 (Op.bytesLess v17.Name v21.Name || v17.Name == v21.Name)
      else
        item_Fault_j3 n16 v17 false
  else
    Option.map .inr (some (0 : Int))

noncomputable def item_Fault_l2 (p0x0 : ItemS) (n16 : Int) : Option Int :=
  iter (fun x : Int => item_Fault_b2 p0x0 x) n16

noncomputable def item_Fault_k5 (p0x0 : ItemS) : Option Int :=
  if (50 : Int) < (p0x0.Props.length : Int) then
    some (2 : Int)
  else
    item_Fault_l2 p0x0 (0 : Int)

noncomputable def item_Fault_b1 (p0x0 : ItemS) (n8 : Int) : Option (Int ⊕ Int) :=
  if n8 < (p0x0.Device.Tags.length : Int) then
    (idx p0x0.Device.Tags n8).bind fun v9 =>
    (base_Key v9.Name).bind fun v11 =>
    if (!v11) = true then
      Option.map .inr (some (5 : Int))
    else
      if (0 : Int) < n8 then
        (idx p0x0.Device.Tags (w64 (n8 - (1 : Int)))).bind fun v13 =>
        item_Fault_j2 n8 v9 (Op.bytesLess v9.Name v13.Name || v9.Name == v13.Name)
      else
        item_Fault_j2 n8 v9 false
  else
    Option.map .inr (item_Fault_k5 p0x0)

noncomputable def item_Fault_l1 (p0x0 : ItemS) (n8 : Int) : Option Int :=
  iter (fun x : Int => item_Fault_b1 p0x0 x) n8

noncomputable def item_Fault_j1 (p0x0 : ItemS) (c3 : Bool) : Option Int :=
  if c3 = true then
    some (5 : Int)
  else
    if (!(base_Version p0x0.Device.Firmware)) = true then
      some (1 : Int)
    else
      if (20 : Int) < (p0x0.Device.Tags.length : Int) then
        some (2 : Int)
      else
        item_Fault_l1 p0x0 (0 : Int)

noncomputable def item_Fault (p0x0 : ItemS) : Option Int :=
  (base_Key p0x0.Device.Key).bind fun v4 =>
  if (!v4) = true then
    item_Fault_j1 p0x0 true
  else
    (base_Key p0x0.Device.Model).bind fun v5 =>
    if (!v5) = true then
      item_Fault_j1 p0x0 true
    else
      if p0x0.Device.Tenant ≠ ([] : Str) then
        (base_Key p0x0.Device.Tenant).bind fun v6 =>
        item_Fault_j1 p0x0 (!v6)
      else
        item_Fault_j1 p0x0 false

noncomputable def base_First_b1 (p0x0 : List Int) (n2 : Int) : Option (Int ⊕ Int) :=
  if n2 < (p0x0.length : Int) then
    (idx p0x0 n2).bind fun v3 =>
    if v3 ≠ (0 : Int) then
      Option.map .inr (some v3)
    else
      some (.inl (w64 (n2 + (1 : Int))))
  else
    Option.map .inr (some (0 : Int))

noncomputable def base_First_l1 (p0x0 : List Int) (n2 : Int) : Option Int :=
  iter (fun x : Int => base_First_b1 p0x0 x) n2

noncomputable def base_First (p0x0 : List Int) : Option Int :=
  base_First_l1 p0x0 (0 : Int)

noncomputable def item_Words (p0x0 : Str) : Item_Held :=
  (⟨true, (⟨(3 : Int), false, (0 : Int), p0x0⟩ : ValueS), (⟨(0 : Int), (0 : Int), (0 : Int)⟩ : Version)⟩ : Item_Held)

noncomputable def item_look_b1 (p0x0 : ItemS) (v3 : Str × Bool) (n5 : Int) : Option (Int ⊕ Item_Held) :=
  if n5 < (p0x0.Device.Tags.length : Int) then
    (idx p0x0.Device.Tags n5).bind fun v6 =>
    if v6.Name = v3.1 then
      Option.map .inr (some (item_Words v6.Value))
    else
      some (.inl (w64 (n5 + (1 : Int))))
  else
    Option.map .inr (some (⟨false, (⟨(0 : Int), false, (0 : Int), []⟩ : ValueS), (⟨(0 : Int), (0 : Int), (0 : Int)⟩ : Version)⟩ : Item_Held))

noncomputable def item_look_l1 (p0x0 : ItemS) (v3 : Str × Bool) (n5 : Int) : Option Item_Held :=
  iter (fun x : Int => item_look_b1 p0x0 v3 x) n5

noncomputable def item_look_b2 (p0x0 : ItemS) (p1x0 : Str) (n9 : Int) : Option (Int ⊕ Item_Held) :=
  if n9 < (p0x0.Props.length : Int) then
    (idx p0x0.Props n9).bind fun v10 =>
    (catO ([112, 114, 111, 112, 46] : Str) v10.Name).bind fun q12 =>
    if q12 = p1x0 then
      Option.map .inr (some (⟨true, v10.Value, (⟨(0 : Int), (0 : Int), (0 : Int)⟩ : Version)⟩ : Item_Held))
    else
      some (.inl (w64 (n9 + (1 : Int))))
  else
    Option.map .inr (some (⟨false, (⟨(0 : Int), false, (0 : Int), []⟩ : ValueS), (⟨(0 : Int), (0 : Int), (0 : Int)⟩ : Version)⟩ : Item_Held))

noncomputable def item_look_l2 (p0x0 : ItemS) (p1x0 : Str) (n9 : Int) : Option Item_Held :=
  iter (fun x : Int => item_look_b2 p0x0 p1x0 x) n9

noncomputable def item_look (p0x0 : ItemS) (p1x0 : Str) : Option Item_Held :=
  if p1x0 = ([107, 101, 121] : Str) then
    some (item_Words p0x0.Device.Key)
  else
    if p1x0 = ([109, 111, 100, 101, 108] : Str) then
      some (item_Words p0x0.Device.Model)
    else
      if p1x0 = ([116, 101, 110, 97, 110, 116] : Str) then
        some (item_Words p0x0.Device.Tenant)
      else
        if p1x0 = ([102, 105, 114, 109, 119, 97, 114, 101] : Str) then
          some (⟨true, (⟨(0 : Int), false, (0 : Int), []⟩ : ValueS), p0x0.Device.Firmware⟩ : Item_Held)
        else
          (strings_CutPrefix p1x0 ([116, 97, 103, 46] : Str)).bind fun v3 =>
          if v3.2 = true then
            item_look_l1 p0x0 v3 (0 : Int)
          else
            item_look_l2 p0x0 p1x0 (0 : Int)

noncomputable def item_Matches_1x (p0x0 : Str) (p1x0 : ItemS) : Option Item_Held :=
  (item_look p1x0 p0x0).bind fun v2 =>
  some v2

noncomputable def cmp_isNaN_int (p0x0 : Int) : Bool :=
  decide (p0x0 ≠ p0x0)

noncomputable def cmp_Compare_int (p0x0 : Int) (p1x0 : Int) : Int :=
  if (cmp_isNaN_int p0x0) = true then
    if (cmp_isNaN_int p1x0) = true then
      (0 : Int)
    else
      (-1 : Int)
  else
    if (cmp_isNaN_int p1x0) = true then
      (1 : Int)
    else
      if p0x0 < p1x0 then
        (-1 : Int)
      else
        if p1x0 < p0x0 then
          (1 : Int)
        else
          (0 : Int)

noncomputable def cmp_Or_int_b1 (p0x0 : List Int) (n2 : Int) : Option (Int ⊕ Int) :=
  if n2 < (p0x0.length : Int) then
    (idx p0x0 n2).bind fun v3 =>
    if v3 ≠ (0 : Int) then
      Option.map .inr (some v3)
    else
      some (.inl (w64 (n2 + (1 : Int))))
  else
    Option.map .inr (some (0 : Int))

noncomputable def cmp_Or_int_l1 (p0x0 : List Int) (n2 : Int) : Option Int :=
  iter (fun x : Int => cmp_Or_int_b1 p0x0 x) n2

noncomputable def cmp_Or_int (p0x0 : List Int) : Option Int :=
  cmp_Or_int_l1 p0x0 (0 : Int)

noncomputable def item_CompareVersions (p0x0 : Version) (p1x0 : Version) : Option Int :=
  (cmp_Or_int [(cmp_Compare_int p0x0.Major p1x0.Major), (cmp_Compare_int p0x0.Minor p1x0.Minor), (cmp_Compare_int p0x0.Patch p1x0.Patch)]).bind fun v3 =>
  some v3

noncomputable def item_compared_j2 (p0x0 : Query) (n4 : Int) : Option Bool :=
  if p0x0.Op = ([61, 61] : Str) then
    some (decide (n4 = (0 : Int)))
  else
    if p0x0.Op = ([33, 61] : Str) then
      some (decide (n4 ≠ (0 : Int)))
    else
      if p0x0.Op = ([60] : Str) then
        some (decide (n4 < (0 : Int)))
      else
        if p0x0.Op = ([60, 61] : Str) then
          some (decide (n4 ≤ (0 : Int)))
        else
          if p0x0.Op = ([62] : Str) then
            some (decide ((0 : Int) < n4))
          else
            some (decide ((0 : Int) ≤ n4))

noncomputable def item_compared_j3 (p0x0 : Query) (n6 : Int) : Option Bool :=
  item_compared_j2 p0x0 n6

noncomputable def item_compared_j4 (p0x0 : Query) (n7 : Int) : Option Bool :=
  item_compared_j3 p0x0 n7

noncomputable def item_compared_j1 (p0x0 : Query) (p1x0 : Item_Held) (c3 : Bool) : Option Bool :=
  if c3 = true then
    some false
  else
    if p0x0.Field = ([102, 105, 114, 109, 119, 97, 114, 101] : Str) then
      (item_CompareVersions p1x0.Version p0x0.Version).bind fun v5 =>
      item_compared_j2 p0x0 v5
    else
      if p1x0.Value.Kind = (2 : Int) then
        item_compared_j3 p0x0 (cmp_Compare_int p1x0.Value.Number p0x0.Value.Number)
      else
        if p1x0.Value ≠ p0x0.Value then
          item_compared_j4 p0x0 (1 : Int)
        else
          item_compared_j4 p0x0 (0 : Int)

noncomputable def item_compared (p0x0 : Query) (p1x0 : Item_Held) : Option Bool :=
  item_compared_j1 p0x0 p1x0 ((!p1x0.Is) || (decide (p1x0.Value.Kind ≠ p0x0.Value.Kind)))

noncomputable def item_Answers_b1 (self : Query → (Str → Option Item_Held) → Option Bool) (p0x0 : Query) (fnb : Str → Option Item_Held) (n8 : Int) : Option (Int ⊕ Bool) :=
  if n8 < (p0x0.Kids.length : Int) then
    (idx p0x0.Kids n8).bind fun v9 =>
    (self v9 fnb).bind fun v11 =>
    if (v11 != (decide (p0x0.Kind = (4 : Int)))) = true then
      Option.map .inr (some (decide (¬ (p0x0.Kind = (4 : Int)))))
    else
      some (.inl (w64 (n8 + (1 : Int))))
  else
    Option.map .inr (some (decide (p0x0.Kind = (4 : Int))))

noncomputable def item_Answers_l1 (self : Query → (Str → Option Item_Held) → Option Bool) (p0x0 : Query) (fnb : Str → Option Item_Held) (n8 : Int) : Option Bool :=
  iter (fun x : Int => item_Answers_b1 self p0x0 fnb x) n8

noncomputable def item_Answers_bd (self : Query → (Str → Option Item_Held) → Option Bool) (p0x0 : Query) (fnb : Str → Option Item_Held) : Option Bool :=
  if p0x0.Kind = (1 : Int) then
    (fnb p0x0.Field).bind fun v2 =>
    (item_compared p0x0 v2).bind fun v3 =>
    some v3
  else
    if p0x0.Kind = (2 : Int) then
      (fnb p0x0.Field).bind fun v4 =>
      some v4.Is
    else
      if p0x0.Kind = (3 : Int) then
        (idx p0x0.Kids (0 : Int)).bind fun v5 =>
        (self v5 fnb).bind fun v6 =>
        some (!v6)
      else
        item_Answers_l1 self p0x0 fnb (0 : Int)

/-- The function, to some depth. -/
noncomputable def item_Answers_r : Nat → Query → (Str → Option Item_Held) → Option Bool
  | 0 => fun _ _ => none
  | k + 1 => item_Answers_bd (item_Answers_r k)

noncomputable def item_Answers (p0x0 : Query) (fnb : Str → Option Item_Held) : Option Bool :=
  item_Answers_r depth p0x0 fnb

noncomputable def item_Matches (p0x0 : Query) (p1x0 : ItemS) : Option Bool :=
  (item_Answers p0x0 (fun y0 => item_Matches_1x y0 p1x0)).bind fun v3 =>
  some v3

noncomputable def device_Matches (p0x0 : Query) (p1x0 : ItemS) : Option (Bool × Int) :=
  (device_CheckQuery p0x0).bind fun v3 =>
  (item_Fault p1x0).bind fun v4 =>
  (base_First [v3, v4]).bind fun v5 =>
  if v5 ≠ (0 : Int) then
    some (false, v5)
  else
    (item_Matches p0x0 p1x0).bind fun v6 =>
    some (v6, (0 : Int))

noncomputable def item_ListFault_j1 (n2 : Int) (c6 : Bool) : Option (Int ⊕ Int) :=
  if c6 = true then
    Option.map .inr (some (7 : Int))
  else
    some (.inl (w64 (n2 + (1 : Int))))

noncomputable def item_ListFault_b1 (p0x0 : List ItemS) (n2 : Int) : Option (Int ⊕ Int) :=
  if n2 < (p0x0.length : Int) then
    (idx p0x0 n2).bind fun v3 =>
    (item_Fault v3).bind fun v5 =>
    if v5 ≠ (0 : Int) then
      Option.map .inr (some v5)
    else
      if (0 : Int) < n2 then
        (idx p0x0 (w64 (n2 - (1 : Int)))).bind fun v7 =>
        item_ListFault_j1 n2 (Op.bytesLess v3.Device.Key v7.Device.Key || v3.Device.Key == v7.Device.Key)
      else
        item_ListFault_j1 n2 false
  else
    Option.map .inr (some (0 : Int))

noncomputable def item_ListFault_l1 (p0x0 : List ItemS) (n2 : Int) : Option Int :=
  iter (fun x : Int => item_ListFault_b1 p0x0 x) n2

noncomputable def item_ListFault (p0x0 : List ItemS) : Option Int :=
  if (500 : Int) < (p0x0.length : Int) then
    some (2 : Int)
  else
    item_ListFault_l1 p0x0 (0 : Int)

noncomputable def device_Select_j1 (n11 : Int) (l17 : List Str) : Option (((List Str) × Int) ⊕ ((List Str) × Int)) :=
  some (.inl (l17, w64 (n11 + (1 : Int))))

noncomputable def device_Select_b1 (p0x0 : Query) (p1x0 : List ItemS) (l10 : List Str) (n11 : Int) : Option (((List Str) × Int) ⊕ ((List Str) × Int)) :=
  if n11 < (p1x0.length : Int) then
    (idx p1x0 n11).bind fun v13 =>
    (item_Matches p0x0 v13).bind fun v15 =>
    if v15 = true then
      (app l10 [v13.Device.Key]).bind fun l18 =>
      device_Select_j1 n11 l18
    else
      device_Select_j1 n11 l10
  else
    Option.map .inr (some (l10, (0 : Int)))

noncomputable def device_Select_l1 (p0x0 : Query) (p1x0 : List ItemS) (l10 : List Str) (n11 : Int) : Option ((List Str) × Int) :=
  iter (fun x : (List Str) × Int => device_Select_b1 p0x0 p1x0 x.1 x.2) (l10, n11)

noncomputable def device_Select (p0x0 : Query) (p1x0 : List ItemS) : Option ((List Str) × Int) :=
  (device_CheckQuery p0x0).bind fun v2 =>
  if v2 ≠ (0 : Int) then
    some ([], v2)
  else
    (item_ListFault p1x0).bind fun v4 =>
    if v4 ≠ (0 : Int) then
      some ([], v4)
    else
      device_Select_l1 p0x0 p1x0 [] (0 : Int)

noncomputable def Q_leaves_b1 (self : Query → Option (List Query)) (p0x0 : Query) (l12 : List Query) (n13 : Int) : Option (((List Query) × Int) ⊕ (List Query)) :=
  if n13 < (p0x0.Kids.length : Int) then
    (idx p0x0.Kids n13).bind fun v14 =>
    (self v14).bind fun v16 =>
    (app l12 v16).bind fun l18 =>
    some (.inl (l18, w64 (n13 + (1 : Int))))
  else
    Option.map .inr (some l12)

noncomputable def Q_leaves_l1 (self : Query → Option (List Query)) (p0x0 : Query) (l12 : List Query) (n13 : Int) : Option (List Query) :=
  iter (fun x : (List Query) × Int => Q_leaves_b1 self p0x0 x.1 x.2) (l12, n13)

noncomputable def Q_leaves_j2 (self : Query → Option (List Query)) (p0x0 : Query) (l4 : List Query) : Option (List Query) :=
  Q_leaves_l1 self p0x0 l4 (0 : Int)

noncomputable def Q_leaves_j1 (self : Query → Option (List Query)) (p0x0 : Query) (c2 : Bool) : Option (List Query) :=
  if c2 = true then
    (app ([] : List Query) [p0x0]).bind fun l5 =>
    Q_leaves_j2 self p0x0 l5
  else
    Q_leaves_j2 self p0x0 []

noncomputable def Q_leaves_bd (self : Query → Option (List Query)) (p0x0 : Query) : Option (List Query) :=
  Q_leaves_j1 self p0x0 ((decide (p0x0.Kind = (1 : Int))) || (decide (p0x0.Kind = (2 : Int))))

/-- The function, to some depth. -/
noncomputable def Q_leaves_r : Nat → Query → Option (List Query)
  | 0 => fun _ => none
  | k + 1 => Q_leaves_bd (Q_leaves_r k)

noncomputable def Q_leaves (p0x0 : Query) : Option (List Query) :=
  Q_leaves_r depth p0x0

noncomputable def Q_deep_b1 (self : Query → Option Int) (p0x0 : Query) (n4 : Int) (n5 : Int) : Option ((Int × Int) ⊕ Int) :=
  if n5 < (p0x0.Kids.length : Int) then
    (idx p0x0.Kids n5).bind fun v6 =>
    (self v6).bind fun v8 =>
    some (.inl (max n4 v8, w64 (n5 + (1 : Int))))
  else
    Option.map .inr (some (w64 (n4 + (1 : Int))))

noncomputable def Q_deep_l1 (self : Query → Option Int) (p0x0 : Query) (n4 : Int) (n5 : Int) : Option Int :=
  iter (fun x : Int × Int => Q_deep_b1 self p0x0 x.1 x.2) (n4, n5)

noncomputable def Q_deep_bd (self : Query → Option Int) (p0x0 : Query) : Option Int :=
  Q_deep_l1 self p0x0 (0 : Int) (0 : Int)

/-- The function, to some depth. -/
noncomputable def Q_deep_r : Nat → Query → Option Int
  | 0 => fun _ => none
  | k + 1 => Q_deep_bd (Q_deep_r k)

noncomputable def Q_deep (p0x0 : Query) : Option Int :=
  Q_deep_r depth p0x0

noncomputable def Q_in_j1 (c1 : Bool) : Bool :=
  c1

noncomputable def Q_in (p0x0 : Int) (p1x0 : Int) (p2x0 : Int) : Bool :=
  Q_in_j1 ((decide (p1x0 ≤ p0x0)) && (decide (p0x0 ≤ p2x0)))

noncomputable def Q_oneQuery_1x (p0x0 : Query) (p1x0 : Query) : Bool :=
  decide (p0x0.Kind = p1x0.Kind)

noncomputable def Q_Key_j1 (c1 : Bool) : Option Bool :=
  some c1

noncomputable def Q_Key (p0x0 : Str) : Option Bool :=
  if (Q_in (p0x0.length : Int) (1 : Int) (40 : Int)) = true then
    (trimO p0x0 ([97, 98, 99, 100, 101, 102, 103, 104, 105, 106, 107, 108, 109, 110, 111, 112, 113, 114, 115, 116, 117, 118, 119, 120, 121, 122, 48, 49, 50, 51, 52, 53, 54, 55, 56, 57, 45, 95] : Str)).bind fun v2 =>
    if v2 = ([] : Str) then
      (idx p0x0 (0 : Int)).bind fun c3 =>
      Q_Key_j1 (decide ((0 : Int) ≤ (indexByteI ([97, 98, 99, 100, 101, 102, 103, 104, 105, 106, 107, 108, 109, 110, 111, 112, 113, 114, 115, 116, 117, 118, 119, 120, 121, 122] : Str) (c3.toNat : Int))))
    else
      Q_Key_j1 false
  else
    Q_Key_j1 false

noncomputable def Q_PropName_1x (p0x0 : Str) : Option Bool :=
  (Q_Key p0x0).bind fun v1 =>
  some (!v1)

noncomputable def slices_IndexFunc_string_string_b1 (p0x0 : List Str) (fnb : Str → Option Bool) (n2 : Int) : Option (Int ⊕ Int) :=
  if n2 < (p0x0.length : Int) then
    (idx p0x0 n2).bind fun v3 =>
    (fnb v3).bind fun v4 =>
    if v4 = true then
      Option.map .inr (some n2)
    else
      some (.inl (w64 (n2 + (1 : Int))))
  else
    Option.map .inr (some (-1 : Int))

noncomputable def slices_IndexFunc_string_string_l1 (p0x0 : List Str) (fnb : Str → Option Bool) (n2 : Int) : Option Int :=
  iter (fun x : Int => slices_IndexFunc_string_string_b1 p0x0 fnb x) n2

noncomputable def slices_IndexFunc_string_string (p0x0 : List Str) (fnb : Str → Option Bool) : Option Int :=
  slices_IndexFunc_string_string_l1 p0x0 fnb (0 : Int)

noncomputable def slices_ContainsFunc_string_string (p0x0 : List Str) (fnb : Str → Option Bool) : Option Bool :=
  (slices_IndexFunc_string_string p0x0 fnb).bind fun v1 =>
  some (decide ((0 : Int) ≤ v1))

noncomputable def Q_PropName_j1 (c3 : Bool) : Option Bool :=
  some c3

noncomputable def Q_PropName (p0x0 : Str) : Option Bool :=
  (splitO p0x0 ([46] : Str)).bind fun v1 =>
  if (p0x0.length : Int) ≤ (40 : Int) then
    if (v1.length : Int) ≤ (5 : Int) then
      (slices_ContainsFunc_string_string v1 (fun y0 => Q_PropName_1x y0)).bind fun v4 =>
      Q_PropName_j1 (!v4)
    else
      Q_PropName_j1 false
  else
    Q_PropName_j1 false

noncomputable def Q_FieldRight_j3 (c7 : Bool) : Option Bool :=
  some c7

noncomputable def Q_FieldRight_j2 (p0x0 : Str) (p1x0 : Bool) (c5 : Bool) : Option Bool :=
  if c5 = true then
    some true
  else
    if (!p1x0) = true then
      (slices_Contains_string_string [([107, 101, 121] : Str), ([109, 111, 100, 101, 108] : Str), ([116, 101, 110, 97, 110, 116] : Str), ([102, 105, 114, 109, 119, 97, 114, 101] : Str)] p0x0).bind fun v8 =>
      Q_FieldRight_j3 v8
    else
      Q_FieldRight_j3 false

noncomputable def Q_FieldRight_j1 (p0x0 : Str) (p1x0 : Bool) (c2 : Bool) : Option Bool :=
  if c2 = true then
    some true
  else
    (strings_CutPrefix p0x0 ([112, 114, 111, 112, 46] : Str)).bind fun v4 =>
    if v4.2 = true then
      (Q_PropName v4.1).bind fun v6 =>
      Q_FieldRight_j2 p0x0 p1x0 v6
    else
      Q_FieldRight_j2 p0x0 p1x0 false

noncomputable def Q_FieldRight (p0x0 : Str) (p1x0 : Bool) : Option Bool :=
  (strings_CutPrefix p0x0 ([116, 97, 103, 46] : Str)).bind fun v1 =>
  if v1.2 = true then
    (Q_Key v1.1).bind fun v3 =>
    Q_FieldRight_j1 p0x0 p1x0 v3
  else
    Q_FieldRight_j1 p0x0 p1x0 false

noncomputable def Q_versionRight_j1 (c2 : Bool) : Bool :=
  c2

noncomputable def Q_versionRight (p0x0 : Version) : Bool :=
  Q_versionRight_j1 ((Q_in p0x0.Major (0 : Int) (9999 : Int)) && ((Q_in p0x0.Minor (0 : Int) (9999 : Int)) && (Q_in p0x0.Patch (0 : Int) (9999 : Int))))

noncomputable def Q_RightValue_j1 (n3 : Int) (c5 : Bool) : Option (Int ⊕ Bool) :=
  if c5 = true then
    Option.map .inr (some false)
  else
    some (.inl (w64 (n3 + (1 : Int))))

noncomputable def Q_RightValue_j2 (c6 : Bool) : Option Bool :=
  some c6

noncomputable def Q_RightValue_k3 (p0x0 : ValueS) : Option Bool :=
  if (Q_in p0x0.Kind (0 : Int) (3 : Int)) = true then
    if (Q_in p0x0.Number (-1000000000 : Int) (1000000000 : Int)) = true then
      (validO p0x0.Words).bind fun v7 =>
      Q_RightValue_j2 (v7 && (decide ((p0x0.Words.length : Int) ≤ (100 : Int))))
    else
      Q_RightValue_j2 false
  else
    Q_RightValue_j2 false

noncomputable def Q_RightValue_b1 (p0x0 : ValueS) (n3 : Int) : Option (Int ⊕ Bool) :=
  if n3 < ([p0x0.Flag, decide (p0x0.Number ≠ (0 : Int)), decide (p0x0.Words ≠ ([] : Str))].length : Int) then
    (idx [p0x0.Flag, decide (p0x0.Number ≠ (0 : Int)), decide (p0x0.Words ≠ ([] : Str))] n3).bind fun v4 =>
    Q_RightValue_j1 n3 (v4 && (decide (p0x0.Kind ≠ (w64 (n3 + (1 : Int))))))
  else
    Option.map .inr (Q_RightValue_k3 p0x0)

noncomputable def Q_RightValue_l1 (p0x0 : ValueS) (n3 : Int) : Option Bool :=
  iter (fun x : Int => Q_RightValue_b1 p0x0 x) n3

noncomputable def Q_RightValue (p0x0 : ValueS) : Option Bool :=
  Q_RightValue_l1 p0x0 (0 : Int)

noncomputable def Q_isFault_j7 (c12 : Bool) : Option Int :=
  if c12 = true then
    some (10 : Int)
  else
    some (0 : Int)

noncomputable def Q_isFault_j8 (c13 : Bool) : Option Int :=
  Q_isFault_j7 c13

noncomputable def Q_isFault_j6 (p0x0 : Query) (c3 : Bool) (c10 : Bool) : Option Int :=
  if c10 = true then
    Q_isFault_j7 c10
  else
    Q_isFault_j8 ((decide (p0x0.Value.Kind ≠ (2 : Int))) && (!c3))

noncomputable def Q_isFault_j4 (p0x0 : Query) (c3 : Bool) (c7 : Bool) : Option Int :=
  if c7 = true then
    some (3 : Int)
  else
    if p0x0.Value.Kind ≠ (3 : Int) then
      (strings_HasPrefix p0x0.Field ([112, 114, 111, 112, 46] : Str)).bind fun v11 =>
      Q_isFault_j6 p0x0 c3 (!v11)
    else
      Q_isFault_j6 p0x0 c3 false

noncomputable def Q_isFault_j5 (p0x0 : Query) (c3 : Bool) (c9 : Bool) : Option Int :=
  Q_isFault_j4 p0x0 c3 c9

noncomputable def Q_isFault_j3 (p0x0 : Query) (c3 : Bool) (c6 : Bool) : Option Int :=
  if c6 = true then
    some (1 : Int)
  else
    if p0x0.Field = ([102, 105, 114, 109, 119, 97, 114, 101] : Str) then
      some (0 : Int)
    else
      if p0x0.Version ≠ (⟨(0 : Int), (0 : Int), (0 : Int)⟩ : Version) then
        Q_isFault_j4 p0x0 c3 (decide (p0x0.Version ≠ (⟨(0 : Int), (0 : Int), (0 : Int)⟩ : Version)))
      else
        (Q_RightValue p0x0.Value).bind fun v8 =>
        if (!v8) = true then
          Q_isFault_j5 p0x0 c3 (!v8)
        else
          Q_isFault_j5 p0x0 c3 (decide (p0x0.Value.Kind = (0 : Int)))

noncomputable def Q_isFault_j2 (p0x0 : Query) (c3 : Bool) (c5 : Bool) : Option Int :=
  if c5 = true then
    some (3 : Int)
  else
    Q_isFault_j3 p0x0 c3 ((decide (p0x0.Field = ([102, 105, 114, 109, 119, 97, 114, 101] : Str))) && (!(Q_versionRight p0x0.Version)))

noncomputable def Q_isFault_j1 (p0x0 : Query) (c3 : Bool) : Option Int :=
  (slices_Contains_string_string Q_Ops p0x0.Op).bind fun v4 =>
  if (!v4) = true then
    some (10 : Int)
  else
    Q_isFault_j2 p0x0 c3 ((decide (p0x0.Field = ([102, 105, 114, 109, 119, 97, 114, 101] : Str))) && (decide (p0x0.Value ≠ (⟨(0 : Int), false, (0 : Int), []⟩ : ValueS))))

noncomputable def Q_isFault (p0x0 : Query) : Option Int :=
  (Q_FieldRight p0x0.Field (decide (p0x0.Kind = (2 : Int)))).bind fun v2 =>
  if (!v2) = true then
    some (5 : Int)
  else
    if p0x0.Kind = (2 : Int) then
      some (0 : Int)
    else
      Q_isFault_j1 p0x0 ((decide (p0x0.Op = ([61, 61] : Str))) || (decide (p0x0.Op = ([33, 61] : Str))))

noncomputable def Q_oneQuery_b1 (self : Query → Option Int) (p0x0 : Query) (n15 : Int) : Option (Int ⊕ Int) :=
  if n15 < (p0x0.Kids.length : Int) then
    (idx p0x0.Kids n15).bind fun v16 =>
    (self v16).bind fun v18 =>
    if v18 ≠ (0 : Int) then
      Option.map .inr (some v18)
    else
      some (.inl (w64 (n15 + (1 : Int))))
  else
    Option.map .inr (some (0 : Int))

noncomputable def Q_oneQuery_l1 (self : Query → Option Int) (p0x0 : Query) (n15 : Int) : Option Int :=
  iter (fun x : Int => Q_oneQuery_b1 self p0x0 x) n15

noncomputable def Q_oneQuery_j9 (self : Query → Option Int) (p0x0 : Query) (c11 : Bool) : Option Int :=
  if c11 = true then
    some (3 : Int)
  else
    if p0x0.Kind ≤ (2 : Int) then
      (Q_isFault p0x0).bind fun v13 =>
      some v13
    else
      Q_oneQuery_l1 self p0x0 (0 : Int)

noncomputable def Q_oneQuery_j10 (self : Query → Option Int) (p0x0 : Query) (c12 : Bool) : Option Int :=
  Q_oneQuery_j9 self p0x0 c12

noncomputable def Q_oneQuery_j8 (self : Query → Option Int) (p0x0 : Query) (c10 : Bool) : Option Int :=
  if c10 = true then
    Q_oneQuery_j9 self p0x0 c10
  else
    Q_oneQuery_j10 self p0x0 ((decide ((2 : Int) < p0x0.Kind)) && (decide (p0x0.Field ≠ ([] : Str))))

noncomputable def Q_oneQuery_j7 (self : Query → Option Int) (p0x0 : Query) (c8 : Bool) : Option Int :=
  if c8 = true then
    some (3 : Int)
  else
    Q_oneQuery_j8 self p0x0 ((decide (p0x0.Kind ≠ (1 : Int))) && ((decide (p0x0.Op ≠ ([] : Str))) || ((decide (p0x0.Value ≠ (⟨(0 : Int), false, (0 : Int), []⟩ : ValueS))) || (decide (p0x0.Version ≠ (⟨(0 : Int), (0 : Int), (0 : Int)⟩ : Version))))))

noncomputable def Q_oneQuery_j3 (self : Query → Option Int) (p0x0 : Query) (c2 : Bool) (c4 : Bool) : Option Int :=
  if c4 = true then
    some (3 : Int)
  else
    if c2 = true then
      (slices_ContainsFunc_Query_Query p0x0.Kids (fun y0 => some (Q_oneQuery_1x y0 p0x0))).bind fun v9 =>
      Q_oneQuery_j7 self p0x0 v9
    else
      Q_oneQuery_j7 self p0x0 false

noncomputable def Q_oneQuery_j5 (self : Query → Option Int) (p0x0 : Query) (c2 : Bool) (c6 : Bool) : Option Int :=
  Q_oneQuery_j3 self p0x0 c2 c6

noncomputable def Q_oneQuery_j6 (self : Query → Option Int) (p0x0 : Query) (c2 : Bool) (c7 : Bool) : Option Int :=
  Q_oneQuery_j5 self p0x0 c2 c7

noncomputable def Q_oneQuery_j4 (self : Query → Option Int) (p0x0 : Query) (c2 : Bool) (c5 : Bool) : Option Int :=
  if c5 = true then
    Q_oneQuery_j5 self p0x0 c2 c5
  else
    Q_oneQuery_j6 self p0x0 c2 (c2 && (decide ((p0x0.Kids.length : Int) < (2 : Int))))

noncomputable def Q_oneQuery_j2 (self : Query → Option Int) (p0x0 : Query) (c2 : Bool) (c3 : Bool) : Option Int :=
  if c3 = true then
    Q_oneQuery_j3 self p0x0 c2 c3
  else
    Q_oneQuery_j4 self p0x0 c2 ((decide (p0x0.Kind = (3 : Int))) && (decide ((p0x0.Kids.length : Int) ≠ (1 : Int))))

noncomputable def Q_oneQuery_j1 (self : Query → Option Int) (p0x0 : Query) (c2 : Bool) : Option Int :=
  Q_oneQuery_j2 self p0x0 c2 ((decide (p0x0.Kind ≤ (2 : Int))) && (decide ((0 : Int) < (p0x0.Kids.length : Int))))

noncomputable def Q_oneQuery_bd (self : Query → Option Int) (p0x0 : Query) : Option Int :=
  if (!(Q_in p0x0.Kind (1 : Int) (5 : Int))) = true then
    some (4 : Int)
  else
    Q_oneQuery_j1 self p0x0 ((decide (p0x0.Kind = (4 : Int))) || (decide (p0x0.Kind = (5 : Int))))

/-- The function, to some depth. -/
noncomputable def Q_oneQuery_r : Nat → Query → Option Int
  | 0 => fun _ => none
  | k + 1 => Q_oneQuery_bd (Q_oneQuery_r k)

noncomputable def Q_oneQuery (p0x0 : Query) : Option Int :=
  Q_oneQuery_r depth p0x0

noncomputable def Q_QueryFault_j1 (p0x0 : Query) (c2 : Bool) : Option Int :=
  if c2 = true then
    some (2 : Int)
  else
    (Q_oneQuery p0x0).bind fun v6 =>
    some v6

noncomputable def Q_QueryFault (p0x0 : Query) : Option Int :=
  (Q_leaves p0x0).bind fun v3 =>
  if (40 : Int) < (v3.length : Int) then
    Q_QueryFault_j1 p0x0 true
  else
    (Q_deep p0x0).bind fun v5 =>
    Q_QueryFault_j1 p0x0 (decide ((20 : Int) < v5))

noncomputable def Q_plain_j1 (n2 : Int) (c4 : Bool) : Option (Int ⊕ Bool) :=
  if c4 = true then
    Option.map .inr (some false)
  else
    some (.inl (w64 (n2 + (1 : Int))))

noncomputable def Q_plain_j2 (c5 : Bool) : Option Bool :=
  some c5

noncomputable def Q_plain_k3 (p0x0 : Str) : Option Bool :=
  (validO p0x0).bind fun v6 =>
  if v6 = true then
    (trimO p0x0 ([32] : Str)).bind fun v7 =>
    if p0x0 = v7 then
      (strings_Contains p0x0 ([32, 32] : Str)).bind fun v8 =>
      Q_plain_j2 (!v8)
    else
      Q_plain_j2 false
  else
    Q_plain_j2 false

noncomputable def Q_plain_b1 (p0x0 : Str) (n2 : Int) : Option (Int ⊕ Bool) :=
  if n2 < ((bytesI p0x0).length : Int) then
    (idx (bytesI p0x0) n2).bind fun v3 =>
    Q_plain_j1 n2 ((decide (v3 < (32 : Int))) || (decide (v3 = (127 : Int))))
  else
    Option.map .inr (Q_plain_k3 p0x0)

noncomputable def Q_plain_l1 (p0x0 : Str) (n2 : Int) : Option Bool :=
  iter (fun x : Int => Q_plain_b1 p0x0 x) n2

noncomputable def Q_plain (p0x0 : Str) : Option Bool :=
  Q_plain_l1 p0x0 (0 : Int)

noncomputable def Q_ItemFault_j3 (n8 : Int) (c14 : Bool) : Option (Int ⊕ Int) :=
  if c14 = true then
    Option.map .inr (some (3 : Int))
  else
    some (.inl (w64 (n8 + (1 : Int))))

noncomputable def Q_ItemFault_j2 (n8 : Int) (v9 : Pair) (c12 : Bool) : Option (Int ⊕ Int) :=
  if c12 = true then
    Option.map .inr (some (7 : Int))
  else
    if v9.Value = ([] : Str) then
      Q_ItemFault_j3 n8 true
    else
      (Q_plain v9.Value).bind fun v15 =>
      Q_ItemFault_j3 n8 ((!v15) || (decide ((100 : Int) < (v9.Value.length : Int))))

noncomputable def Q_ItemFault_j5 (n17 : Int) (c23 : Bool) : Option (Int ⊕ Int) :=
  if c23 = true then
    Option.map .inr (some (3 : Int))
  else
    some (.inl (w64 (n17 + (1 : Int))))

noncomputable def Q_ItemFault_j4 (n17 : Int) (v18 : PropS) (c21 : Bool) : Option (Int ⊕ Int) :=
  if c21 = true then
    Option.map .inr (some (7 : Int))
  else
    (Q_RightValue v18.Value).bind fun v24 =>
    Q_ItemFault_j5 n17 ((!v24) || (decide (v18.Value.Kind = (0 : Int))))

noncomputable def Q_ItemFault_b2 (p0x0 : ItemS) (n17 : Int) : Option (Int ⊕ Int) :=
  if n17 < (p0x0.Props.length : Int) then
    (idx p0x0.Props n17).bind fun v18 =>
    (Q_PropName v18.Name).bind fun v20 =>
    if (!v20) = true then
      Option.map .inr (some (5 : Int))
    else
      if (0 : Int) < n17 then
        (idx p0x0.Props (w64 (n17 - (1 : Int)))).bind fun v22 =>
        Q_ItemFault_j4 n17 v18 (Op.bytesLess v18.Name v22.Name || v18.Name == v22.Name)
      else
        Q_ItemFault_j4 n17 v18 false
  else
    Option.map .inr (some (0 : Int))

noncomputable def Q_ItemFault_l2 (p0x0 : ItemS) (n17 : Int) : Option Int :=
  iter (fun x : Int => Q_ItemFault_b2 p0x0 x) n17

noncomputable def Q_ItemFault_k6 (p0x0 : ItemS) : Option Int :=
  if (50 : Int) < (p0x0.Props.length : Int) then
    some (2 : Int)
  else
    Q_ItemFault_l2 p0x0 (0 : Int)

noncomputable def Q_ItemFault_b1 (p0x0 : ItemS) (n8 : Int) : Option (Int ⊕ Int) :=
  if n8 < (p0x0.Device.Tags.length : Int) then
    (idx p0x0.Device.Tags n8).bind fun v9 =>
    (Q_Key v9.Name).bind fun v11 =>
    if (!v11) = true then
      Option.map .inr (some (5 : Int))
    else
      if (0 : Int) < n8 then
        (idx p0x0.Device.Tags (w64 (n8 - (1 : Int)))).bind fun v13 =>
        Q_ItemFault_j2 n8 v9 (Op.bytesLess v9.Name v13.Name || v9.Name == v13.Name)
      else
        Q_ItemFault_j2 n8 v9 false
  else
    Option.map .inr (Q_ItemFault_k6 p0x0)

noncomputable def Q_ItemFault_l1 (p0x0 : ItemS) (n8 : Int) : Option Int :=
  iter (fun x : Int => Q_ItemFault_b1 p0x0 x) n8

noncomputable def Q_ItemFault_j1 (p0x0 : ItemS) (c3 : Bool) : Option Int :=
  if c3 = true then
    some (5 : Int)
  else
    if (!(Q_versionRight p0x0.Device.Firmware)) = true then
      some (1 : Int)
    else
      if (20 : Int) < (p0x0.Device.Tags.length : Int) then
        some (2 : Int)
      else
        Q_ItemFault_l1 p0x0 (0 : Int)

noncomputable def Q_ItemFault (p0x0 : ItemS) : Option Int :=
  (Q_Key p0x0.Device.Key).bind fun v4 =>
  if (!v4) = true then
    Q_ItemFault_j1 p0x0 true
  else
    (Q_Key p0x0.Device.Model).bind fun v5 =>
    if (!v5) = true then
      Q_ItemFault_j1 p0x0 true
    else
      if p0x0.Device.Tenant ≠ ([] : Str) then
        (Q_Key p0x0.Device.Tenant).bind fun v6 =>
        Q_ItemFault_j1 p0x0 (!v6)
      else
        Q_ItemFault_j1 p0x0 false

noncomputable def cmp_Or_Errno_b1 (p0x0 : List Int) (n2 : Int) : Option (Int ⊕ Int) :=
  if n2 < (p0x0.length : Int) then
    (idx p0x0 n2).bind fun v3 =>
    if v3 ≠ (0 : Int) then
      Option.map .inr (some v3)
    else
      some (.inl (w64 (n2 + (1 : Int))))
  else
    Option.map .inr (some (0 : Int))

noncomputable def cmp_Or_Errno_l1 (p0x0 : List Int) (n2 : Int) : Option Int :=
  iter (fun x : Int => cmp_Or_Errno_b1 p0x0 x) n2

noncomputable def cmp_Or_Errno (p0x0 : List Int) : Option Int :=
  cmp_Or_Errno_l1 p0x0 (0 : Int)

noncomputable def Q_ItemsFault_j1 (n2 : Int) (c6 : Bool) : Option (Int ⊕ Int) :=
  if c6 = true then
    Option.map .inr (some (7 : Int))
  else
    some (.inl (w64 (n2 + (1 : Int))))

noncomputable def Q_ItemsFault_b1 (p0x0 : List ItemS) (n2 : Int) : Option (Int ⊕ Int) :=
  if n2 < (p0x0.length : Int) then
    (idx p0x0 n2).bind fun v3 =>
    (Q_ItemFault v3).bind fun v5 =>
    if v5 ≠ (0 : Int) then
      Option.map .inr (some v5)
    else
      if (0 : Int) < n2 then
        (idx p0x0 (w64 (n2 - (1 : Int)))).bind fun v7 =>
        Q_ItemsFault_j1 n2 (Op.bytesLess v3.Device.Key v7.Device.Key || v3.Device.Key == v7.Device.Key)
      else
        Q_ItemsFault_j1 n2 false
  else
    Option.map .inr (some (0 : Int))

noncomputable def Q_ItemsFault_l1 (p0x0 : List ItemS) (n2 : Int) : Option Int :=
  iter (fun x : Int => Q_ItemsFault_b1 p0x0 x) n2

noncomputable def Q_ItemsFault (p0x0 : List ItemS) : Option Int :=
  if (500 : Int) < (p0x0.length : Int) then
    some (2 : Int)
  else
    Q_ItemsFault_l1 p0x0 (0 : Int)

noncomputable def Q_MatchesItem_1x_1x (self : Query → ItemS → Option Bool) (p0x0 : Query) (p1x0 : ItemS) (p2x0 : Bool) : Option Bool :=
  (self p0x0 p1x0).bind fun v2 =>
  some (v2 != p2x0)

noncomputable def Q_MatchesItem_1x (self : Query → ItemS → Option Bool) (p0x0 : Bool) (p1x0 : Query) (p2x0 : ItemS) : Option Bool :=
  (slices_ContainsFunc_Query_Query p1x0.Kids (fun y0 => Q_MatchesItem_1x_1x self y0 p2x0 p0x0)).bind fun v2 =>
  some (!v2)

noncomputable def Q_fieldOf_b2 (p0x0 : ItemS) (p1x0 : Str) (n9 : Int) : Option (Int ⊕ ValueS) :=
  if n9 < (p0x0.Props.length : Int) then
    (idx p0x0.Props n9).bind fun v10 =>
    (catO ([112, 114, 111, 112, 46] : Str) v10.Name).bind fun q12 =>
    if p1x0 = q12 then
      Option.map .inr (some v10.Value)
    else
      some (.inl (w64 (n9 + (1 : Int))))
  else
    Option.map .inr (some (⟨(0 : Int), false, (0 : Int), []⟩ : ValueS))

noncomputable def Q_fieldOf_l2 (p0x0 : ItemS) (p1x0 : Str) (n9 : Int) : Option ValueS :=
  iter (fun x : Int => Q_fieldOf_b2 p0x0 p1x0 x) n9

noncomputable def Q_fieldOf_b1 (p0x0 : ItemS) (p1x0 : Str) (n4 : Int) : Option (Int ⊕ ValueS) :=
  if n4 < (p0x0.Device.Tags.length : Int) then
    (idx p0x0.Device.Tags n4).bind fun v5 =>
    (catO ([116, 97, 103, 46] : Str) v5.Name).bind fun q7 =>
    if p1x0 = q7 then
      Option.map .inr (some (⟨(3 : Int), false, (0 : Int), v5.Value⟩ : ValueS))
    else
      some (.inl (w64 (n4 + (1 : Int))))
  else
    Option.map .inr (Q_fieldOf_l2 p0x0 p1x0 (0 : Int))

noncomputable def Q_fieldOf_l1 (p0x0 : ItemS) (p1x0 : Str) (n4 : Int) : Option ValueS :=
  iter (fun x : Int => Q_fieldOf_b1 p0x0 p1x0 x) n4

noncomputable def Q_fieldOf (p0x0 : ItemS) (p1x0 : Str) : Option ValueS :=
  if p1x0 = ([107, 101, 121] : Str) then
    some (⟨(3 : Int), false, (0 : Int), p0x0.Device.Key⟩ : ValueS)
  else
    if p1x0 = ([109, 111, 100, 101, 108] : Str) then
      some (⟨(3 : Int), false, (0 : Int), p0x0.Device.Model⟩ : ValueS)
    else
      if p1x0 = ([116, 101, 110, 97, 110, 116] : Str) then
        some (⟨(3 : Int), false, (0 : Int), p0x0.Device.Tenant⟩ : ValueS)
      else
        Q_fieldOf_l1 p0x0 p1x0 (0 : Int)

noncomputable def Q_versionOrder (p0x0 : Version) (p1x0 : Version) : Option Int :=
  (cmp_Or_int [(cmp_Compare_int p0x0.Major p1x0.Major), (cmp_Compare_int p0x0.Minor p1x0.Minor), (cmp_Compare_int p0x0.Patch p1x0.Patch)]).bind fun v3 =>
  some v3

noncomputable def Q_compares (p0x0 : Str) (p1x0 : Int) : Option Bool :=
  (mgetO (mset (mset (mset (mset (mset (mset ([] : List (Str × Bool)) ([61, 61] : Str) (decide (p1x0 = (0 : Int)))) ([33, 61] : Str) (decide (p1x0 ≠ (0 : Int)))) ([60] : Str) (decide (p1x0 < (0 : Int)))) ([60, 61] : Str) (decide (p1x0 ≤ (0 : Int)))) ([62] : Str) (decide ((0 : Int) < p1x0))) ([62, 61] : Str) (decide ((0 : Int) ≤ p1x0))) p0x0 false).bind fun v2 =>
  some v2

noncomputable def Q_MatchesItem_j1 (p0x0 : Query) (n13 : Int) : Option Bool :=
  (Q_compares p0x0.Op n13).bind fun v14 =>
  some v14

noncomputable def Q_MatchesItem_bd (self : Query → ItemS → Option Bool) (p0x0 : Query) (p1x0 : ItemS) : Option Bool :=
  if p0x0.Kind = (3 : Int) then
    (idx p0x0.Kids (0 : Int)).bind fun v3 =>
    (self v3 p1x0).bind fun v4 =>
    some (!v4)
  else
    if p0x0.Kind = (4 : Int) then
      (Q_MatchesItem_1x self true p0x0 p1x0).bind fun v5 =>
      some v5
    else
      if p0x0.Kind = (5 : Int) then
        (Q_MatchesItem_1x self false p0x0 p1x0).bind fun v6 =>
        some (!v6)
      else
        if p0x0.Kind = (2 : Int) then
          (Q_fieldOf p1x0 p0x0.Field).bind fun v7 =>
          some (decide (v7.Kind ≠ (0 : Int)))
        else
          if p0x0.Field = ([102, 105, 114, 109, 119, 97, 114, 101] : Str) then
            (Q_versionOrder p1x0.Device.Firmware p0x0.Version).bind fun v8 =>
            (Q_compares p0x0.Op v8).bind fun v9 =>
            some v9
          else
            (Q_fieldOf p1x0 p0x0.Field).bind fun v10 =>
            if v10.Kind ≠ p0x0.Value.Kind then
              some false
            else
              (cmp_Or_int [(cmp_Compare_int v10.Number p0x0.Value.Number), (Lib.compareBytes v10.Words p0x0.Value.Words)]).bind fun v12 =>
              if (v10.Flag != p0x0.Value.Flag) = true then
                Q_MatchesItem_j1 p0x0 (1 : Int)
              else
                Q_MatchesItem_j1 p0x0 v12

/-- The function, to some depth. -/
noncomputable def Q_MatchesItem_r : Nat → Query → ItemS → Option Bool
  | 0 => fun _ _ => none
  | k + 1 => Q_MatchesItem_bd (Q_MatchesItem_r k)

noncomputable def Q_MatchesItem (p0x0 : Query) (p1x0 : ItemS) : Option Bool :=
  Q_MatchesItem_r depth p0x0 p1x0

noncomputable def slices_Equal_string_string_b1 (p0x0 : List Str) (p1x0 : List Str) (n2 : Int) : Option (Int ⊕ Bool) :=
  if n2 < (p0x0.length : Int) then
    (idx p0x0 n2).bind fun v3 =>
    (idx p1x0 n2).bind fun v4 =>
    if v3 ≠ v4 then
      Option.map .inr (some false)
    else
      some (.inl (w64 (n2 + (1 : Int))))
  else
    Option.map .inr (some true)

noncomputable def slices_Equal_string_string_l1 (p0x0 : List Str) (p1x0 : List Str) (n2 : Int) : Option Bool :=
  iter (fun x : Int => slices_Equal_string_string_b1 p0x0 p1x0 x) n2

noncomputable def slices_Equal_string_string (p0x0 : List Str) (p1x0 : List Str) : Option Bool :=
  if (p0x0.length : Int) ≠ (p1x0.length : Int) then
    some false
  else
    slices_Equal_string_string_l1 p0x0 p1x0 (0 : Int)

noncomputable def device_isPrefix_j1 (c1 : Bool) : Option Bool :=
  some c1

noncomputable def device_isPrefix (p0x0 : Str) : Option Bool :=
  if (!(base_Out (p0x0.length : Int) (2 : Int) (4 : Int))) = true then
    (trimO p0x0 ([65, 66, 67, 68, 69, 70, 71, 72, 73, 74, 75, 76, 77, 78, 79, 80, 81, 82, 83, 84, 85, 86, 87, 88, 89, 90] : Str)).bind fun v2 =>
    device_isPrefix_j1 (decide (v2 = ([] : Str)))
  else
    device_isPrefix_j1 false

noncomputable def device_CheckModels_1x (p0x0 : Model) (p1x0 : Model) : Bool :=
  decide (p0x0.Prefix = p1x0.Prefix)

noncomputable def slices_IndexFunc_Model_Model_b1 (p0x0 : List Model) (fnb : Model → Option Bool) (n2 : Int) : Option (Int ⊕ Int) :=
  if n2 < (p0x0.length : Int) then
    (idx p0x0 n2).bind fun v3 =>
    (fnb v3).bind fun v4 =>
    if v4 = true then
      Option.map .inr (some n2)
    else
      some (.inl (w64 (n2 + (1 : Int))))
  else
    Option.map .inr (some (-1 : Int))

noncomputable def slices_IndexFunc_Model_Model_l1 (p0x0 : List Model) (fnb : Model → Option Bool) (n2 : Int) : Option Int :=
  iter (fun x : Int => slices_IndexFunc_Model_Model_b1 p0x0 fnb x) n2

noncomputable def slices_IndexFunc_Model_Model (p0x0 : List Model) (fnb : Model → Option Bool) : Option Int :=
  slices_IndexFunc_Model_Model_l1 p0x0 fnb (0 : Int)

noncomputable def slices_ContainsFunc_Model_Model (p0x0 : List Model) (fnb : Model → Option Bool) : Option Bool :=
  (slices_IndexFunc_Model_Model p0x0 fnb).bind fun v1 =>
  some (decide ((0 : Int) ≤ v1))

noncomputable def device_typesFault_j3 (n2 : Int) (c9 : Bool) : Option (Int ⊕ Int) :=
  if c9 = true then
    Option.map .inr (some (3 : Int))
  else
    some (.inl (w64 (n2 + (1 : Int))))

noncomputable def device_typesFault_j2 (n2 : Int) (v3 : PropType) (c8 : Bool) : Option (Int ⊕ Int) :=
  if c8 = true then
    Option.map .inr (some (1 : Int))
  else
    device_typesFault_j3 n2 ((decide (¬ (v3.Kind = (2 : Int)))) && ((decide (v3.Low ≠ (0 : Int))) || (decide (v3.High ≠ (0 : Int)))))

noncomputable def device_typesFault_j1 (n2 : Int) (v3 : PropType) (c6 : Bool) : Option (Int ⊕ Int) :=
  if c6 = true then
    Option.map .inr (some (7 : Int))
  else
    if (base_Out v3.Kind (1 : Int) (3 : Int)) = true then
      Option.map .inr (some (4 : Int))
    else
      device_typesFault_j2 n2 v3 ((decide (v3.Kind = (2 : Int))) && ((base_Out v3.Low (-1000000000 : Int) v3.High) || (decide ((1000000000 : Int) < v3.High))))

noncomputable def device_typesFault_b1 (p0x0 : List PropType) (n2 : Int) : Option (Int ⊕ Int) :=
  if n2 < (p0x0.length : Int) then
    (idx p0x0 n2).bind fun v3 =>
    (item_Property v3.Name).bind fun v5 =>
    if (!v5) = true then
      Option.map .inr (some (5 : Int))
    else
      if (0 : Int) < n2 then
        (idx p0x0 (w64 (n2 - (1 : Int)))).bind fun v7 =>
        device_typesFault_j1 n2 v3 (Op.bytesLess v3.Name v7.Name || v3.Name == v7.Name)
      else
        device_typesFault_j1 n2 v3 false
  else
    Option.map .inr (some (0 : Int))

noncomputable def device_typesFault_l1 (p0x0 : List PropType) (n2 : Int) : Option Int :=
  iter (fun x : Int => device_typesFault_b1 p0x0 x) n2

noncomputable def device_typesFault (p0x0 : List PropType) : Option Int :=
  device_typesFault_l1 p0x0 (0 : Int)

noncomputable def device_CheckModels_j1 (p0x0 : List Model) (n2 : Int) (v3 : Model) (c6 : Bool) : Option (Int ⊕ Int) :=
  if c6 = true then
    Option.map .inr (some (7 : Int))
  else
    (device_isPrefix v3.Prefix).bind fun v8 =>
    if (!v8) = true then
      Option.map .inr (some (3 : Int))
    else
      (slc p0x0 (0 : Int) n2).bind fun l9 =>
      (slices_ContainsFunc_Model_Model l9 (fun y0 => some (device_CheckModels_1x y0 v3))).bind fun v10 =>
      if v10 = true then
        Option.map .inr (some (6 : Int))
      else
        if (50 : Int) < (v3.Props.length : Int) then
          Option.map .inr (some (2 : Int))
        else
          (device_typesFault v3.Props).bind fun v11 =>
          if v11 ≠ (0 : Int) then
            Option.map .inr (some v11)
          else
            some (.inl (w64 (n2 + (1 : Int))))

noncomputable def device_CheckModels_b1 (p0x0 : List Model) (n2 : Int) : Option (Int ⊕ Int) :=
  if n2 < (p0x0.length : Int) then
    (idx p0x0 n2).bind fun v3 =>
    (base_Key v3.Key).bind fun v5 =>
    if (!v5) = true then
      Option.map .inr (some (5 : Int))
    else
      if (0 : Int) < n2 then
        (idx p0x0 (w64 (n2 - (1 : Int)))).bind fun v7 =>
        device_CheckModels_j1 p0x0 n2 v3 (Op.bytesLess v3.Key v7.Key || v3.Key == v7.Key)
      else
        device_CheckModels_j1 p0x0 n2 v3 false
  else
    Option.map .inr (some (0 : Int))

noncomputable def device_CheckModels_l1 (p0x0 : List Model) (n2 : Int) : Option Int :=
  iter (fun x : Int => device_CheckModels_b1 p0x0 x) n2

noncomputable def device_CheckModels (p0x0 : List Model) : Option Int :=
  if (50 : Int) < (p0x0.length : Int) then
    some (2 : Int)
  else
    device_CheckModels_l1 p0x0 (0 : Int)

noncomputable def device_model_1x (p0x0 : Model) (p1x0 : Str) : Bool :=
  decide (p0x0.Key = p1x0)

noncomputable def device_model (p0x0 : List Model) (p1x0 : Str) : Option Int :=
  (slices_IndexFunc_Model_Model p0x0 (fun y0 => some (device_model_1x y0 p1x0))).bind fun v2 =>
  some v2

noncomputable def device_checkOf_k1 (n3 : Int) : Option Int :=
  (idx ([48, 49, 50, 51, 52, 53, 54, 55, 56, 57, 65, 66, 67, 68, 69, 70, 71, 72, 73, 74, 75, 76, 77, 78, 79, 80, 81, 82, 83, 84, 85, 86, 87, 88, 89, 90] : Str) (n3.tmod (36 : Int))).bind fun c6 =>
  some (c6.toNat : Int)

noncomputable def device_checkOf_b1 (p0x0 : Str) (n3 : Int) (n4 : Int) : Option ((Int × Int) ⊕ Int) :=
  if n4 < (p0x0.length : Int) then
    (idx p0x0 n4).bind fun c5 =>
    some (.inl (w64 (n3 + (w64 ((w64 (n4 + (2 : Int))) * (indexByteI ([48, 49, 50, 51, 52, 53, 54, 55, 56, 57, 65, 66, 67, 68, 69, 70, 71, 72, 73, 74, 75, 76, 77, 78, 79, 80, 81, 82, 83, 84, 85, 86, 87, 88, 89, 90] : Str) (c5.toNat : Int))))), w64 (n4 + (1 : Int))))
  else
    Option.map .inr (device_checkOf_k1 n3)

noncomputable def device_checkOf_l1 (p0x0 : Str) (n3 : Int) (n4 : Int) : Option Int :=
  iter (fun x : Int × Int => device_checkOf_b1 p0x0 x.1 x.2) (n3, n4)

noncomputable def device_checkOf (p0x0 : Str) : Option Int :=
  device_checkOf_l1 p0x0 (0 : Int) (0 : Int)

noncomputable def device_Serial (p0x0 : List Model) (p1x0 : Str) (p2x0 : Int) : Option (Str × Int) :=
  (device_CheckModels p0x0).bind fun v1 =>
  if v1 ≠ (0 : Int) then
    some (([] : Str), v1)
  else
    (device_model p0x0 p1x0).bind fun v2 =>
    if v2 < (0 : Int) then
      some (([] : Str), (8 : Int))
    else
      if (base_Out p2x0 (1 : Int) (99999999 : Int)) = true then
        some (([] : Str), (1 : Int))
      else
        (itoaO p2x0).bind fun v3 =>
        (repeatO ([48] : Str) (w64 ((8 : Int) - (v3.length : Int)))).bind fun v4 =>
        (catO v4 v3).bind fun q5 =>
        (idx p0x0 v2).bind fun v6 =>
        (catO v6.Prefix ([45] : Str)).bind fun q7 =>
        (catO q7 q5).bind fun q8 =>
        (catO q8 ([45] : Str)).bind fun q9 =>
        (catO v6.Prefix q5).bind fun q10 =>
        (device_checkOf q10).bind fun v11 =>
        (catO q9 (strR v11)).bind fun q12 =>
        some (q12, (0 : Int))

noncomputable def L_deviced_j1 (c2 : Bool) : Option Bool :=
  some c2

noncomputable def L_deviced : Option Bool :=
  (device_Serial [(⟨([109] : Str), ([65, 66] : Str), []⟩ : Model)] ([109] : Str) (7 : Int)).bind fun v1 =>
  L_deviced_j1 ((decide (v1.2 = (0 : Int))) && (decide (v1.1 = ([65, 66, 45, 48, 48, 48, 48, 48, 48, 48, 55, 45, 77] : Str))))

noncomputable def L_QueriesMatch_j3 (n24 : Int) (l31 : List Str) : Option (((List Str) × Int) ⊕ Bool) :=
  some (.inl (l31, w64 (n24 + (1 : Int))))

noncomputable def L_QueriesMatch_j2 (l23 : List Str) (n24 : Int) (v26 : ItemS) (c28 : Bool) : Option (((List Str) × Int) ⊕ Bool) :=
  if c28 = true then
    (app l23 [v26.Device.Key]).bind fun l32 =>
    L_QueriesMatch_j3 n24 l32
  else
    L_QueriesMatch_j3 n24 l23

noncomputable def L_QueriesMatch_j4 (c34 : Bool) : Option Bool :=
  some c34

noncomputable def L_QueriesMatch_k5 (v9 : (List Str) × Int) (l23 : List Str) : Option Bool :=
  (slices_Equal_string_string v9.1 l23).bind fun v35 =>
  if v35 = true then
    (L_deviced).bind fun v36 =>
    L_QueriesMatch_j4 v36
  else
    L_QueriesMatch_j4 false

noncomputable def L_QueriesMatch_b1 (v2 : Query × Fleetmake_Stream) (v4 : (List ItemS) × Fleetmake_Stream) (v9 : (List Str) × Int) (v16 : Int) (l23 : List Str) (n24 : Int) : Option (((List Str) × Int) ⊕ Bool) :=
  if n24 < (v4.1.length : Int) then
    (idx v4.1 n24).bind fun v26 =>
    if v16 = (0 : Int) then
      (Q_MatchesItem v2.1 v26).bind fun v29 =>
      L_QueriesMatch_j2 l23 n24 v26 v29
    else
      L_QueriesMatch_j2 l23 n24 v26 false
  else
    Option.map .inr (L_QueriesMatch_k5 v9 l23)

noncomputable def L_QueriesMatch_l1 (v2 : Query × Fleetmake_Stream) (v4 : (List ItemS) × Fleetmake_Stream) (v9 : (List Str) × Int) (v16 : Int) (l23 : List Str) (n24 : Int) : Option Bool :=
  iter (fun x : (List Str) × Int => L_QueriesMatch_b1 v2 v4 v9 v16 x.1 x.2) (l23, n24)

noncomputable def L_QueriesMatch_j1 (v2 : Query × Fleetmake_Stream) (v4 : (List ItemS) × Fleetmake_Stream) (v9 : (List Str) × Int) (v16 : Int) (c17 : Bool) : Option Bool :=
  if c17 = true then
    some false
  else
    L_QueriesMatch_l1 v2 v4 v9 v16 [] (0 : Int)

noncomputable def L_QueriesMatch (p0x0 : List Int) : Option Bool :=
  (Stream_Query (⟨p0x0, (0 : Int)⟩ : Fleetmake_Stream)).bind fun v2 =>
  (Stream_Item v2.2 ([100, 97] : Str)).bind fun v3 =>
  (Stream_ItemList v3.2).bind fun v4 =>
  (device_Matches v2.1 v3.1).bind fun v8 =>
  (device_Select v2.1 v4.1).bind fun v9 =>
  (Q_QueryFault v2.1).bind fun v11 =>
  (Q_ItemFault v3.1).bind fun v12 =>
  (cmp_Or_Errno [v11, v12]).bind fun v13 =>
  (Q_QueryFault v2.1).bind fun v14 =>
  (Q_ItemsFault v4.1).bind fun v15 =>
  (cmp_Or_Errno [v14, v15]).bind fun v16 =>
  if v8.2 ≠ v13 then
    L_QueriesMatch_j1 v2 v4 v9 v16 true
  else
    if v9.2 ≠ v16 then
      L_QueriesMatch_j1 v2 v4 v9 v16 true
    else
      if v13 = (0 : Int) then
        (Q_MatchesItem v2.1 v3.1).bind fun v18 =>
        L_QueriesMatch_j1 v2 v4 v9 v16 (v8.1 != v18)
      else
        L_QueriesMatch_j1 v2 v4 v9 v16 (v8.1 != false)

end Go.Beacon

