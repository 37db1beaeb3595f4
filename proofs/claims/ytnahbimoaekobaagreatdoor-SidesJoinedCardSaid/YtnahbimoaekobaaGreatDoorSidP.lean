/- Plain functions that the Go functions compute, written by shal.py. -/
import Derived.Test.YtnahbimoaekobaaGreatDoorCore
set_option linter.unusedVariables false
namespace Go.Beacon
open Go Go.Eng
structure Fleetmake_Stream where
  L : List Int
  at_ : Int
deriving DecidableEq, Inhabited
def Fleetmake_Stream.av (x : Fleetmake_Stream) : AV := .agg [.list 1 (x.L.map I), I x.at_]

structure ValueS where
  Kind : Int
  Flag : Bool
  Number : Int
  Words : Str
deriving DecidableEq, Inhabited
def ValueS.av (x : ValueS) : AV := .agg [I x.Kind, .bool x.Flag, I x.Number, .str x.Words]

structure PropS where
  Name : Str
  Value : ValueS
deriving DecidableEq, Inhabited
def PropS.av (x : PropS) : AV := .agg [.str x.Name, I x.Value.Kind, .bool x.Value.Flag, I x.Value.Number, .str x.Value.Words]

structure Change where
  Name : Str
  From : ValueS
  To : ValueS
deriving DecidableEq, Inhabited
def Change.av (x : Change) : AV := .agg [.str x.Name, I x.From.Kind, .bool x.From.Flag, I x.From.Number, .str x.From.Words, I x.To.Kind, .bool x.To.Flag, I x.To.Number, .str x.To.Words]

structure Clash where
  Name : Str
  Base : ValueS
  A : ValueS
  B : ValueS
deriving DecidableEq, Inhabited
def Clash.av (x : Clash) : AV := .agg [.str x.Name, I x.Base.Kind, .bool x.Base.Flag, I x.Base.Number, .str x.Base.Words, I x.A.Kind, .bool x.A.Flag, I x.A.Number, .str x.A.Words, I x.B.Kind, .bool x.B.Flag, I x.B.Number, .str x.B.Words]

noncomputable def Below_j1 (n2 : Int) : Option Int :=
  some n2

noncomputable def Below (p0x0 : Int) (p1x0 : Int) : Option Int :=
  if p1x0 < (1 : Int) then
    some (0 : Int)
  else
    (rem p0x0 p1x0).bind fun n1 =>
    if n1 < (0 : Int) then
      Below_j1 (w64 (n1 + p1x0))
    else
      Below_j1 n1

noncomputable def Stream_Next (p0x0 : Fleetmake_Stream) (p1x0 : Int) : Option (Int × Fleetmake_Stream) :=
  if (p0x0.L.length : Int) = (0 : Int) then
    (Below (w64 ((w64 (p0x0.at_ + (1 : Int))) * (7919 : Int))) p1x0).bind fun v1 =>
    some (v1, (⟨p0x0.L, w64 (p0x0.at_ + (1 : Int))⟩ : Fleetmake_Stream))
  else
    (rem (w64 ((w64 (p0x0.at_ + (1 : Int))) - (1 : Int))) (p0x0.L.length : Int)).bind fun n2 =>
    (quo (w64 ((w64 (p0x0.at_ + (1 : Int))) - (1 : Int))) (p0x0.L.length : Int)).bind fun n3 =>
    (idx p0x0.L n2).bind fun v4 =>
    (Below v4 (1073741824 : Int)).bind fun v5 =>
    (Below (w64 (v5 + (w64 (n3 * (w64 ((7919 : Int) + n2)))))) p1x0).bind fun v6 =>
    some (v6, (⟨p0x0.L, w64 (p0x0.at_ + (1 : Int))⟩ : Fleetmake_Stream))

noncomputable def Stream_Range (p0x0 : Fleetmake_Stream) (p1x0 : Int) (p2x0 : Int) : Option (Int × Fleetmake_Stream) :=
  if p2x0 < p1x0 then
    some (p1x0, p0x0)
  else
    (Stream_Next p0x0 (w64 ((w64 (p2x0 - p1x0)) + (1 : Int)))).bind fun v1 =>
    some (w64 (p1x0 + v1.1), v1.2)

/-- A copy of a list. -/
noncomputable def slices_Clone_Prop_Prop (p0x0 : List PropS) : Option (List PropS) :=
  app [] p0x0

noncomputable def Stream_Some (p0x0 : Fleetmake_Stream) (p1x0 : List Str) : Option (Str × Fleetmake_Stream) :=
  (Stream_Next p0x0 (p1x0.length : Int)).bind fun v1 =>
  (idx p1x0 v1.1).bind fun v2 =>
  some (v2, v1.2)

noncomputable def Stream_Flip (p0x0 : Fleetmake_Stream) (p1x0 : Int) : Option (Bool × Fleetmake_Stream) :=
  (Stream_Next p0x0 p1x0).bind fun v1 =>
  some (decide (v1.1 = (0 : Int)), v1.2)

noncomputable def Stream_Pick (p0x0 : Fleetmake_Stream) (p1x0 : List Int) : Option (Int × Fleetmake_Stream) :=
  (Stream_Next p0x0 (p1x0.length : Int)).bind fun v1 =>
  (idx p1x0 v1.1).bind fun v2 =>
  some (v2, v1.2)

noncomputable def Stream_RightValue (p0x0 : Fleetmake_Stream) : Option (ValueS × Fleetmake_Stream) :=
  (Stream_Next p0x0 (4 : Int)).bind fun v2 =>
  if v2.1 = (0 : Int) then
    (Stream_Flip v2.2 (2 : Int)).bind fun v3 =>
    some ((⟨(1 : Int), v3.1, (0 : Int), []⟩ : ValueS), v3.2)
  else
    if v2.1 = (1 : Int) then
      (Stream_Some v2.2 [([] : Str), ([120] : Str), ([97, 32, 34, 98, 34] : Str), ([92] : Str), ([195, 169] : Str), ([45, 32, 49] : Str)]).bind fun v4 =>
      some ((⟨(3 : Int), false, (0 : Int), v4.1⟩ : ValueS), v4.2)
    else
      (Stream_Pick v2.2 [(1 : Int), (2 : Int), (2 : Int), (3 : Int), (0 : Int), (-5 : Int), (1000000000 : Int)]).bind fun v5 =>
      some ((⟨(2 : Int), false, v5.1, []⟩ : ValueS), v5.2)

noncomputable def propOrder (p0x0 : PropS) (p1x0 : PropS) : Int :=
  (Lib.compareBytes p0x0.Name p1x0.Name)

/-- Sorted by Go. -/
noncomputable def slices_SortFunc_Prop_Prop (p0x0 : List PropS) (fnb : PropS → PropS → Option Int) : Option (List PropS) :=
  sortO fnb p0x0

noncomputable def Q_in_j1 (c1 : Bool) : Bool :=
  c1

noncomputable def Q_in (p0x0 : Int) (p1x0 : Int) (p2x0 : Int) : Bool :=
  Q_in_j1 ((decide (p1x0 ≤ p0x0)) && (decide (p0x0 ≤ p2x0)))

noncomputable def Q_only_b1 (p0x0 : Str) (p1x0 : Str) (n2 : Int) : Option (Int ⊕ Bool) :=
  if n2 < (p0x0.length : Int) then
    (idx p0x0 n2).bind fun c3 =>
    if (indexByteI p1x0 (c3.toNat : Int)) < (0 : Int) then
      Option.map .inr (some false)
    else
      some (.inl (w64 (n2 + (1 : Int))))
  else
    Option.map .inr (some true)

noncomputable def Q_only_l1 (p0x0 : Str) (p1x0 : Str) (n2 : Int) : Option Bool :=
  iter (fun x : Int => Q_only_b1 p0x0 p1x0 x) n2

noncomputable def Q_only (p0x0 : Str) (p1x0 : Str) : Option Bool :=
  Q_only_l1 p0x0 p1x0 (0 : Int)

noncomputable def Q_Key_j1 (c1 : Bool) : Option Bool :=
  some c1

noncomputable def Q_Key (p0x0 : Str) : Option Bool :=
  if (Q_in (p0x0.length : Int) (1 : Int) (40 : Int)) = true then
    (slc p0x0 (0 : Int) (1 : Int)).bind fun l2 =>
    (Q_only l2 ([97, 98, 99, 100, 101, 102, 103, 104, 105, 106, 107, 108, 109, 110, 111, 112, 113, 114, 115, 116, 117, 118, 119, 120, 121, 122] : Str)).bind fun v3 =>
    if v3 = true then
      (Q_only p0x0 ([97, 98, 99, 100, 101, 102, 103, 104, 105, 106, 107, 108, 109, 110, 111, 112, 113, 114, 115, 116, 117, 118, 119, 120, 121, 122, 48, 49, 50, 51, 52, 53, 54, 55, 56, 57, 45, 95] : Str)).bind fun v4 =>
      Q_Key_j1 v4
    else
      Q_Key_j1 false
  else
    Q_Key_j1 false

noncomputable def Q_PropName_1x (p0x0 : Str) : Option Bool :=
  (Q_Key p0x0).bind fun v1 =>
  some (!v1)

noncomputable def slices_IndexFunc_string_string_b1 (p0x0 : List Str) (fnb : Str → Option Bool) (n2 : Int) : Option (Int ⊕ Int) :=
  if n2 < (p0x0.length : Int) then
    (idx p0x0 n2).bind fun v3 =>
    (fnb v3).bind fun v4 =>
    if v4 = true then
      Option.map .inr (some n2)
    else
      some (.inl (w64 (n2 + (1 : Int))))
  else
    Option.map .inr (some (-1 : Int))

noncomputable def slices_IndexFunc_string_string_l1 (p0x0 : List Str) (fnb : Str → Option Bool) (n2 : Int) : Option Int :=
  iter (fun x : Int => slices_IndexFunc_string_string_b1 p0x0 fnb x) n2

noncomputable def slices_IndexFunc_string_string (p0x0 : List Str) (fnb : Str → Option Bool) : Option Int :=
  slices_IndexFunc_string_string_l1 p0x0 fnb (0 : Int)

noncomputable def slices_ContainsFunc_string_string (p0x0 : List Str) (fnb : Str → Option Bool) : Option Bool :=
  (slices_IndexFunc_string_string p0x0 fnb).bind fun v1 =>
  some (decide ((0 : Int) ≤ v1))

noncomputable def Q_PropName_j1 (c3 : Bool) : Option Bool :=
  some c3

noncomputable def Q_PropName (p0x0 : Str) : Option Bool :=
  (splitO p0x0 ([46] : Str)).bind fun v1 =>
  if (v1.length : Int) ≤ (8 : Int) then
    (slices_ContainsFunc_string_string v1 (fun y0 => Q_PropName_1x y0)).bind fun v4 =>
    Q_PropName_j1 (!v4)
  else
    Q_PropName_j1 false

noncomputable def Q_Printed_1x_j1 (c1 : Bool) : Bool :=
  c1

noncomputable def Q_Printed_1x (p0x0 : Int) : Bool :=
  Q_Printed_1x_j1 ((decide (p0x0 < (32 : Int))) || (decide (p0x0 = (127 : Int))))

noncomputable def Q_Printed_j1 (c1 : Bool) : Option Bool :=
  some c1

noncomputable def Q_Printed (p0x0 : Str) : Option Bool :=
  (validO p0x0).bind fun v2 =>
  if v2 = true then
    (containsF p0x0 (fun y0 => some (Q_Printed_1x y0))).bind fun v3 =>
    Q_Printed_j1 (!v3)
  else
    Q_Printed_j1 false

noncomputable def Q_ValueFault_j1 (p0x0 : ValueS) (c3 : Bool) (n4 : Int) (q5 : Str) : Option Int :=
  if (⟨p0x0.Kind, c3, n4, q5⟩ : ValueS) ≠ p0x0 then
    some (3 : Int)
  else
    if (!(Q_in p0x0.Number (-1000000000 : Int) (1000000000 : Int))) = true then
      some (1 : Int)
    else
      if (1000 : Int) < (p0x0.Words.length : Int) then
        some (2 : Int)
      else
        (Q_Printed p0x0.Words).bind fun v9 =>
        if (!v9) = true then
          some (3 : Int)
        else
          some (0 : Int)

noncomputable def Q_ValueFault_j2 (p0x0 : ValueS) (n6 : Int) (q7 : Str) : Option Int :=
  Q_ValueFault_j1 p0x0 false n6 q7

noncomputable def Q_ValueFault_j3 (p0x0 : ValueS) (q8 : Str) : Option Int :=
  Q_ValueFault_j2 p0x0 (0 : Int) q8

noncomputable def Q_ValueFault (p0x0 : ValueS) : Option Int :=
  if (!(Q_in p0x0.Kind (0 : Int) (3 : Int))) = true then
    some (4 : Int)
  else
    if p0x0.Kind = (1 : Int) then
      Q_ValueFault_j1 p0x0 p0x0.Flag (0 : Int) []
    else
      if p0x0.Kind = (2 : Int) then
        Q_ValueFault_j2 p0x0 p0x0.Number []
      else
        if p0x0.Kind = (3 : Int) then
          Q_ValueFault_j3 p0x0 p0x0.Words
        else
          Q_ValueFault_j3 p0x0 []

noncomputable def internal_stringslite_HasPrefix_j1 (c1 : Bool) : Option Bool :=
  some c1

noncomputable def internal_stringslite_HasPrefix (p0x0 : Str) (p1x0 : Str) : Option Bool :=
  if (p1x0.length : Int) ≤ (p0x0.length : Int) then
    (slc p0x0 (0 : Int) (p1x0.length : Int)).bind fun l2 =>
    internal_stringslite_HasPrefix_j1 (decide (l2 = p1x0))
  else
    internal_stringslite_HasPrefix_j1 false

noncomputable def strings_HasPrefix (p0x0 : Str) (p1x0 : Str) : Option Bool :=
  (internal_stringslite_HasPrefix p0x0 p1x0).bind fun v1 =>
  some v1

noncomputable def Q_above (p0x0 : Str) (p1x0 : Str) : Option Bool :=
  (catO p0x0 ([46] : Str)).bind fun q1 =>
  (strings_HasPrefix p1x0 q1).bind fun v2 =>
  some v2

noncomputable def Q_PropsFault_1x (p0x0 : PropS) (p1x0 : PropS) : Option Bool :=
  (Q_above p0x0.Name p1x0.Name).bind fun v2 =>
  some v2

noncomputable def slices_IndexFunc_Prop_Prop_b1 (p0x0 : List PropS) (fnb : PropS → Option Bool) (n2 : Int) : Option (Int ⊕ Int) :=
  if n2 < (p0x0.length : Int) then
    (idx p0x0 n2).bind fun v3 =>
    (fnb v3).bind fun v4 =>
    if v4 = true then
      Option.map .inr (some n2)
    else
      some (.inl (w64 (n2 + (1 : Int))))
  else
    Option.map .inr (some (-1 : Int))

noncomputable def slices_IndexFunc_Prop_Prop_l1 (p0x0 : List PropS) (fnb : PropS → Option Bool) (n2 : Int) : Option Int :=
  iter (fun x : Int => slices_IndexFunc_Prop_Prop_b1 p0x0 fnb x) n2

noncomputable def slices_IndexFunc_Prop_Prop (p0x0 : List PropS) (fnb : PropS → Option Bool) : Option Int :=
  slices_IndexFunc_Prop_Prop_l1 p0x0 fnb (0 : Int)

noncomputable def slices_ContainsFunc_Prop_Prop (p0x0 : List PropS) (fnb : PropS → Option Bool) : Option Bool :=
  (slices_IndexFunc_Prop_Prop p0x0 fnb).bind fun v1 =>
  some (decide ((0 : Int) ≤ v1))

noncomputable def Q_PropsFault_j1 (n2 : Int) (c7 : Bool) : Option (Int ⊕ Int) :=
  if c7 = true then
    Option.map .inr (some (7 : Int))
  else
    some (.inl (w64 (n2 + (1 : Int))))

noncomputable def Q_PropsFault_b2 (p0x0 : List PropS) (n10 : Int) : Option (Int ⊕ Int) :=
  if n10 < (p0x0.length : Int) then
    (idx p0x0 n10).bind fun v11 =>
    (slices_ContainsFunc_Prop_Prop p0x0 (fun y0 => Q_PropsFault_1x y0 v11)).bind fun v13 =>
    if v13 = true then
      Option.map .inr (some (13 : Int))
    else
      some (.inl (w64 (n10 + (1 : Int))))
  else
    Option.map .inr (some (0 : Int))

noncomputable def Q_PropsFault_l2 (p0x0 : List PropS) (n10 : Int) : Option Int :=
  iter (fun x : Int => Q_PropsFault_b2 p0x0 x) n10

noncomputable def Q_PropsFault_b1 (p0x0 : List PropS) (n2 : Int) : Option (Int ⊕ Int) :=
  if n2 < (p0x0.length : Int) then
    (idx p0x0 n2).bind fun v3 =>
    (Q_PropName v3.Name).bind fun v5 =>
    if (!v5) = true then
      Option.map .inr (some (5 : Int))
    else
      (Q_ValueFault v3.Value).bind fun v6 =>
      if v6 ≠ (0 : Int) then
        Option.map .inr (some v6)
      else
        if v3.Value.Kind = (0 : Int) then
          Option.map .inr (some (4 : Int))
        else
          if (0 : Int) < n2 then
            (idx p0x0 (w64 (n2 - (1 : Int)))).bind fun v8 =>
            Q_PropsFault_j1 n2 (Op.bytesLess v3.Name v8.Name || v3.Name == v8.Name)
          else
            Q_PropsFault_j1 n2 false
  else
    Option.map .inr (Q_PropsFault_l2 p0x0 (0 : Int))

noncomputable def Q_PropsFault_l1 (p0x0 : List PropS) (n2 : Int) : Option Int :=
  iter (fun x : Int => Q_PropsFault_b1 p0x0 x) n2

noncomputable def Q_PropsFault (p0x0 : List PropS) : Option Int :=
  if (500 : Int) < (p0x0.length : Int) then
    some (2 : Int)
  else
    Q_PropsFault_l1 p0x0 (0 : Int)

noncomputable def Stream_RightProps_j1 (n11 : Int) (v16 : ValueS × Fleetmake_Stream) (l22 : List PropS) : Option (((List Int) × Int × (List PropS) × Int) ⊕ ((List PropS) × Fleetmake_Stream)) :=
  some (.inl (v16.2.L, v16.2.at_, l22, w64 (n11 + (1 : Int))))

noncomputable def Stream_RightProps_b1 (v1 : Int × Fleetmake_Stream) (l7 : List Int) (n8 : Int) (l10 : List PropS) (n11 : Int) : Option (((List Int) × Int × (List PropS) × Int) ⊕ ((List PropS) × Fleetmake_Stream)) :=
  if n11 < v1.1 then
    (slices_Clone_Prop_Prop l10).bind fun v13 =>
    (Stream_Some (⟨l7, n8⟩ : Fleetmake_Stream) [([97] : Str), ([97, 46, 120] : Str), ([97, 46, 121] : Str), ([97, 46, 120, 46, 112] : Str), ([98] : Str), ([98, 46, 122] : Str), ([97, 98] : Str)]).bind fun v15 =>
    (Stream_RightValue v15.2).bind fun v16 =>
    (app v13 [(⟨v15.1, v16.1⟩ : PropS)]).bind fun l17 =>
    (lenOk l17.length (fun r : (List PropS) => r.length) (slices_SortFunc_Prop_Prop l17 (fun y0 y1 => some (propOrder y0 y1)))).bind fun v19 =>
    (Q_PropsFault v19).bind fun v20 =>
    if v20 = (0 : Int) then
      Stream_RightProps_j1 n11 v16 v19
    else
      Stream_RightProps_j1 n11 v16 l10
  else
    Option.map .inr (some (l10, (⟨l7, n8⟩ : Fleetmake_Stream)))

noncomputable def Stream_RightProps_l1 (v1 : Int × Fleetmake_Stream) (l7 : List Int) (n8 : Int) (l10 : List PropS) (n11 : Int) : Option ((List PropS) × Fleetmake_Stream) :=
  iter (fun x : (List Int) × Int × (List PropS) × Int => Stream_RightProps_b1 v1 x.1 x.2.1 x.2.2.1 x.2.2.2) (l7, n8, l10, n11)

noncomputable def Stream_RightProps (p0x0 : Fleetmake_Stream) : Option ((List PropS) × Fleetmake_Stream) :=
  (Stream_Range p0x0 (0 : Int) (5 : Int)).bind fun v1 =>
  Stream_RightProps_l1 v1 v1.2.L v1.2.at_ [] (0 : Int)

noncomputable def Stream_PropName (p0x0 : Fleetmake_Stream) : Option (Str × Fleetmake_Stream) :=
  (Stream_Flip p0x0 (25 : Int)).bind fun v1 =>
  if v1.1 = true then
    (repeatO ([97] : Str) (41 : Int)).bind fun v2 =>
    (Stream_Some v1.2 [([] : Str), ([65] : Str), ([97, 46] : Str), ([46, 97] : Str), ([97, 46, 46, 98] : Str), ([97, 46, 98, 46, 99, 46, 100, 46, 101, 46, 102, 46, 103, 46, 104, 46, 105] : Str), ([97, 32, 98] : Str), v2]).bind fun v3 =>
    some (v3.1, v3.2)
  else
    (Stream_Some v1.2 [([97] : Str), ([97] : Str), ([97, 46, 120] : Str), ([97, 46, 120] : Str), ([97, 46, 121] : Str), ([97, 46, 120, 46, 112] : Str), ([98] : Str), ([98, 46, 122] : Str), ([97, 98] : Str), ([97, 45, 49] : Str)]).bind fun v4 =>
    some (v4.1, v4.2)

noncomputable def Stream_Odd (p0x0 : Fleetmake_Stream) (p1x0 : Int) (p2x0 : Int) : Option (Int × Fleetmake_Stream) :=
  (Stream_Flip p0x0 (12 : Int)).bind fun v1 =>
  if v1.1 = true then
    (Stream_Pick v1.2 [w64 (p1x0 - (1 : Int)), w64 (p2x0 + (1 : Int)), p1x0, p2x0, (-1099511627776 : Int), (1099511627776 : Int)]).bind fun v2 =>
    some (v2.1, v2.2)
  else
    (Stream_Range v1.2 p1x0 p2x0).bind fun v3 =>
    some (v3.1, v3.2)

noncomputable def Stream_Value_j1 (l6 : List Int) (n7 : Int) (n8 : Int) (c9 : Bool) (n10 : Int) (q11 : Str) : Option (ValueS × Fleetmake_Stream) :=
  some ((⟨n8, c9, n10, q11⟩ : ValueS), (⟨l6, n7⟩ : Fleetmake_Stream))

noncomputable def Stream_Value_j2 (l13 : List Int) (n14 : Int) (n15 : Int) (c16 : Bool) (n17 : Int) (q18 : Str) : Option (ValueS × Fleetmake_Stream) :=
  Stream_Value_j1 l13 n14 n15 c16 n17 q18

noncomputable def Stream_Value_j3 (l20 : List Int) (n21 : Int) (n22 : Int) (c23 : Bool) (n24 : Int) (q25 : Str) : Option (ValueS × Fleetmake_Stream) :=
  Stream_Value_j2 l20 n21 n22 c23 n24 q25

noncomputable def Stream_Value_j4 (l26 : List Int) (n27 : Int) (n28 : Int) (c29 : Bool) (n30 : Int) (q31 : Str) : Option (ValueS × Fleetmake_Stream) :=
  Stream_Value_j3 l26 n27 n28 c29 n30 q31

noncomputable def Stream_Value_j5 (l33 : List Int) (n34 : Int) (n35 : Int) (c36 : Bool) (n37 : Int) (q38 : Str) : Option (ValueS × Fleetmake_Stream) :=
  Stream_Value_j4 l33 n34 n35 c36 n37 q38

noncomputable def Stream_Value (p0x0 : Fleetmake_Stream) : Option (ValueS × Fleetmake_Stream) :=
  (Stream_RightValue p0x0).bind fun v2 =>
  (Stream_Flip v2.2 (6 : Int)).bind fun v4 =>
  if v4.1 = true then
    some ((⟨(0 : Int), false, (0 : Int), []⟩ : ValueS), v4.2)
  else
    (Stream_Flip v4.2 (25 : Int)).bind fun v5 =>
    if v5.1 = true then
      (Stream_Next v5.2 (5 : Int)).bind fun v12 =>
      if v12.1 = (0 : Int) then
        (Stream_Pick v12.2 [(-1 : Int), (4 : Int), (0 : Int)]).bind fun v19 =>
        Stream_Value_j2 v19.2.L v19.2.at_ v19.1 v2.1.Flag v2.1.Number v2.1.Words
      else
        if v12.1 = (1 : Int) then
          Stream_Value_j3 v12.2.L v12.2.at_ v2.1.Kind (!v2.1.Flag) v2.1.Number v2.1.Words
        else
          if v12.1 = (2 : Int) then
            (Stream_Odd v12.2 (-1000000000 : Int) (1000000000 : Int)).bind fun v32 =>
            Stream_Value_j4 v32.2.L v32.2.at_ v2.1.Kind v2.1.Flag v32.1 v2.1.Words
          else
            if v12.1 = (3 : Int) then
              (repeatO ([119] : Str) (1001 : Int)).bind fun v39 =>
              (Stream_Some v12.2 [([10] : Str), ([127] : Str), ([255] : Str), v39]).bind fun v40 =>
              Stream_Value_j5 v40.2.L v40.2.at_ (3 : Int) false (0 : Int) v40.1
            else
              Stream_Value_j5 v12.2.L v12.2.at_ v2.1.Kind v2.1.Flag v2.1.Number ([122] : Str)
    else
      Stream_Value_j1 v5.2.L v5.2.at_ v2.1.Kind v2.1.Flag v2.1.Number v2.1.Words

noncomputable def Stream_Props_j1 (l4 : List Int) (n5 : Int) (l7 : List PropS) : Option ((List PropS) × Fleetmake_Stream) :=
  some (l7, (⟨l4, n5⟩ : Fleetmake_Stream))

noncomputable def Stream_Props_j2 (v12 : Bool × Fleetmake_Stream) (l13 : List PropS) : Option ((List PropS) × Fleetmake_Stream) :=
  Stream_Props_j1 v12.2.L v12.2.at_ l13

noncomputable def Stream_Props (p0x0 : Fleetmake_Stream) : Option ((List PropS) × Fleetmake_Stream) :=
  (Stream_RightProps p0x0).bind fun v1 =>
  (Stream_Flip v1.2 (10 : Int)).bind fun v3 =>
  if v3.1 = true then
    (Stream_PropName v3.2).bind fun v8 =>
    (Stream_Value v8.2).bind fun v9 =>
    (app v1.1 [(⟨v8.1, v9.1⟩ : PropS)]).bind fun l10 =>
    (Stream_Flip v9.2 (2 : Int)).bind fun v12 =>
    if v12.1 = true then
      (lenOk l10.length (fun r : (List PropS) => r.length) (slices_SortFunc_Prop_Prop l10 (fun y0 y1 => some (propOrder y0 y1)))).bind fun v14 =>
      Stream_Props_j2 v12 v14
    else
      Stream_Props_j2 v12 l10
  else
    Stream_Props_j1 v3.2.L v3.2.at_ v1.1

/-- Sorted by Go. -/
noncomputable def slices_Sort_string_string (p0x0 : List Str) : Option (List Str) :=
  sort1 srtS p0x0

noncomputable def slices_Compact_string_string_j1 (n11 : Int) (l14 : List Str) (n15 : Int) : Option (((List Str) × Int × Int) ⊕ (Int ⊕ (List Str))) :=
  some (.inl (l14, n15, w64 (n11 + (1 : Int))))

noncomputable def slices_Compact_string_string_k2 (l9 : List Str) (n10 : Int) : Option (Int ⊕ (List Str)) :=
  (slc l9 n10 (l9.length : Int)).bind fun l18 =>
  (slc (clr l9 n10 l18.length []) (0 : Int) n10).bind fun l19 =>
  Option.map .inr (some l19)

noncomputable def slices_Compact_string_string_b2 (n2 : Int) (l5 : List Str) (l9 : List Str) (n10 : Int) (n11 : Int) : Option (((List Str) × Int × Int) ⊕ (Int ⊕ (List Str))) :=
  if n11 < (l5.length : Int) then
    (idxS l9 n2 l5.length n11).bind fun v12 =>
    (idxS l9 n2 l5.length (w64 (n11 - (1 : Int)))).bind fun v13 =>
    if v12 ≠ v13 then
      (idxS l9 n2 l5.length n11).bind fun v16 =>
      (idx l9 n10).bind fun v17 =>
      slices_Compact_string_string_j1 n11 (l9.set n10.toNat v16) (w64 (n10 + (1 : Int)))
    else
      slices_Compact_string_string_j1 n11 l9 n10
  else
    Option.map .inr (slices_Compact_string_string_k2 l9 n10)

noncomputable def slices_Compact_string_string_l2 (n2 : Int) (l5 : List Str) (l9 : List Str) (n10 : Int) (n11 : Int) : Option (Int ⊕ (List Str)) :=
  iter (fun x : (List Str) × Int × Int => slices_Compact_string_string_b2 n2 l5 x.1 x.2.1 x.2.2) (l9, n10, n11)

noncomputable def slices_Compact_string_string_b1 (p0x0 : List Str) (n2 : Int) : Option (Int ⊕ (List Str)) :=
  if n2 < (p0x0.length : Int) then
    (idx p0x0 n2).bind fun v3 =>
    (idx p0x0 (w64 (n2 - (1 : Int)))).bind fun v4 =>
    if v3 = v4 then
      (slc p0x0 n2 (p0x0.length : Int)).bind fun l5 =>
      slices_Compact_string_string_l2 n2 l5 p0x0 n2 (1 : Int)
    else
      some (.inl (w64 (n2 + (1 : Int))))
  else
    Option.map .inr (some p0x0)

noncomputable def slices_Compact_string_string_l1 (p0x0 : List Str) (n2 : Int) : Option (List Str) :=
  iter (fun x : Int => slices_Compact_string_string_b1 p0x0 x) n2

noncomputable def slices_Compact_string_string (p0x0 : List Str) : Option (List Str) :=
  if (p0x0.length : Int) < (2 : Int) then
    some p0x0
  else
    slices_Compact_string_string_l1 p0x0 (1 : Int)

noncomputable def Q_namesOf_b2 (n6 : Int) (v8 : List PropS) (l13 : List Str) (n14 : Int) : Option (((List Str) × Int) ⊕ (((List Str) × Int) ⊕ (List Str))) :=
  if n14 < (v8.length : Int) then
    (idx v8 n14).bind fun v15 =>
    (app l13 [v15.Name]).bind fun l17 =>
    some (.inl (l17, w64 (n14 + (1 : Int))))
  else
    Option.map .inr (some (.inl (l13, w64 (n6 + (1 : Int)))))

noncomputable def Q_namesOf_l2 (n6 : Int) (v8 : List PropS) (l13 : List Str) (n14 : Int) : Option (((List Str) × Int) ⊕ (List Str)) :=
  iter (fun x : (List Str) × Int => Q_namesOf_b2 n6 v8 x.1 x.2) (l13, n14)

noncomputable def Q_namesOf_k1 (l5 : List Str) : Option (List Str) :=
  (lenOk l5.length (fun r : (List Str) => r.length) (slices_Sort_string_string l5)).bind fun v19 =>
  (slices_Compact_string_string v19).bind fun v20 =>
  some v20

noncomputable def Q_namesOf_b1 (p0x0 : List (List PropS)) (l5 : List Str) (n6 : Int) : Option (((List Str) × Int) ⊕ (List Str)) :=
  if n6 < (p0x0.length : Int) then
    (idx p0x0 n6).bind fun v8 =>
    Q_namesOf_l2 n6 v8 l5 (0 : Int)
  else
    Option.map .inr (Q_namesOf_k1 l5)

noncomputable def Q_namesOf_l1 (p0x0 : List (List PropS)) (l5 : List Str) (n6 : Int) : Option (List Str) :=
  iter (fun x : (List Str) × Int => Q_namesOf_b1 p0x0 x.1 x.2) (l5, n6)

noncomputable def Q_namesOf (p0x0 : List (List PropS)) : Option (List Str) :=
  Q_namesOf_l1 p0x0 [] (0 : Int)

noncomputable def Q_ValueOf_b1 (p0x0 : List PropS) (p1x0 : Str) (n3 : Int) : Option (Int ⊕ ValueS) :=
  if n3 < (p0x0.length : Int) then
    (idx p0x0 n3).bind fun v4 =>
    if v4.Name = p1x0 then
      Option.map .inr (some v4.Value)
    else
      some (.inl (w64 (n3 + (1 : Int))))
  else
    Option.map .inr (some (⟨(0 : Int), false, (0 : Int), []⟩ : ValueS))

noncomputable def Q_ValueOf_l1 (p0x0 : List PropS) (p1x0 : Str) (n3 : Int) : Option ValueS :=
  iter (fun x : Int => Q_ValueOf_b1 p0x0 p1x0 x) n3

noncomputable def Q_ValueOf (p0x0 : List PropS) (p1x0 : Str) : Option ValueS :=
  Q_ValueOf_l1 p0x0 p1x0 (0 : Int)

noncomputable def Q_DifferOf_j1 (n8 : Int) (l16 : List Change) : Option (((List Change) × Int) ⊕ (List Change)) :=
  some (.inl (l16, w64 (n8 + (1 : Int))))

noncomputable def Q_DifferOf_b1 (p0x0 : List PropS) (p1x0 : List PropS) (v1 : (List Str)) (l7 : List Change) (n8 : Int) : Option (((List Change) × Int) ⊕ (List Change)) :=
  if n8 < (v1.length : Int) then
    (idx v1 n8).bind fun v10 =>
    (Q_ValueOf p0x0 v10).bind fun v11 =>
    (Q_ValueOf p1x0 v10).bind fun v12 =>
    if v11 ≠ v12 then
      (app l7 [(⟨v10, v11, v12⟩ : Change)]).bind fun l17 =>
      Q_DifferOf_j1 n8 l17
    else
      Q_DifferOf_j1 n8 l7
  else
    Option.map .inr (some l7)

noncomputable def Q_DifferOf_l1 (p0x0 : List PropS) (p1x0 : List PropS) (v1 : (List Str)) (l7 : List Change) (n8 : Int) : Option (List Change) :=
  iter (fun x : (List Change) × Int => Q_DifferOf_b1 p0x0 p1x0 v1 x.1 x.2) (l7, n8)

noncomputable def Q_DifferOf (p0x0 : List PropS) (p1x0 : List PropS) : Option (List Change) :=
  (Q_namesOf [p0x0, p1x0]).bind fun v1 =>
  Q_DifferOf_l1 p0x0 p1x0 v1 [] (0 : Int)

noncomputable def Stream_Changes_j2 (l9 : List Int) (n10 : Int) (l11 : List Change) : Option ((List Change) × Fleetmake_Stream) :=
  some (l11, (⟨l9, n10⟩ : Fleetmake_Stream))

noncomputable def Stream_Changes_j3 (l15 : List Int) (n16 : Int) (l17 : List Change) : Option ((List Change) × Fleetmake_Stream) :=
  Stream_Changes_j2 l15 n16 l17

noncomputable def Stream_Changes_j4 (l19 : List Int) (n20 : Int) (l21 : List Change) : Option ((List Change) × Fleetmake_Stream) :=
  Stream_Changes_j3 l19 n20 l21

noncomputable def Stream_Changes_j5 (l23 : List Int) (n24 : Int) (l25 : List Change) : Option ((List Change) × Fleetmake_Stream) :=
  Stream_Changes_j4 l23 n24 l25

noncomputable def Stream_Changes_j1 (v3 : (List Change)) (l5 : List Int) (n6 : Int) (c7 : Bool) : Option ((List Change) × Fleetmake_Stream) :=
  if c7 = true then
    (Stream_Next (⟨l5, n6⟩ : Fleetmake_Stream) (v3.length : Int)).bind fun v12 =>
    (idx v3 v12.1).bind fun v13 =>
    (Stream_Next v12.2 (4 : Int)).bind fun v14 =>
    if v14.1 = (0 : Int) then
      (Stream_PropName v14.2).bind fun v18 =>
      Stream_Changes_j3 v18.2.L v18.2.at_ (v3.set v12.1.toNat (⟨v18.1, v13.From, v13.To⟩ : Change))
    else
      if v14.1 = (1 : Int) then
        (Stream_Value v14.2).bind fun v22 =>
        Stream_Changes_j4 v22.2.L v22.2.at_ (v3.set v12.1.toNat (⟨v13.Name, v22.1, v13.To⟩ : Change))
      else
        if v14.1 = (2 : Int) then
          (Stream_Value v14.2).bind fun v26 =>
          Stream_Changes_j5 v26.2.L v26.2.at_ (v3.set v12.1.toNat (⟨v13.Name, v13.From, v26.1⟩ : Change))
        else
          Stream_Changes_j5 v14.2.L v14.2.at_ (v3.set v12.1.toNat (⟨v13.Name, v13.To, v13.To⟩ : Change))
  else
    Stream_Changes_j2 l5 n6 v3

noncomputable def Stream_Changes (p0x0 : Fleetmake_Stream) (p1x0 : List PropS) : Option ((List Change) × Fleetmake_Stream) :=
  (Stream_RightProps p0x0).bind fun v1 =>
  (Q_DifferOf p1x0 v1.1).bind fun v3 =>
  if (0 : Int) < (v3.length : Int) then
    (Stream_Flip v1.2 (5 : Int)).bind fun v8 =>
    Stream_Changes_j1 v3 v8.2.L v8.2.at_ v8.1
  else
    Stream_Changes_j1 v3 v1.2.L v1.2.at_ false

noncomputable def Q_fromValues_1x (p0x0 : PropS) (p1x0 : PropS) : Int :=
  (Lib.compareBytes p0x0.Name p1x0.Name)

noncomputable def Q_fromValues_j1 (l12 : List PropS) : Option ((List PropS) ⊕ ((List PropS) × Int)) :=
  some (.inl l12)

noncomputable def Q_fromValues_b1 (v1m : Str × ValueS) (l5 : List PropS) : Option ((List PropS) ⊕ ((List PropS) × Int)) :=
  if v1m.2.Kind ≠ (0 : Int) then
    (app l5 [(⟨v1m.1, v1m.2⟩ : PropS)]).bind fun l13 =>
    Q_fromValues_j1 l13
  else
    Q_fromValues_j1 l5

noncomputable def Q_fromValues_f1 (l5 : List PropS) : Option ((List PropS) × Int) :=
  (lenOk l5.length (fun r : (List PropS) => r.length) (slices_SortFunc_Prop_Prop l5 (fun y0 y1 => some (Q_fromValues_1x y0 y1)))).bind fun v7 =>
  (Q_PropsFault v7).bind fun v8 =>
  if v8 ≠ (0 : Int) then
    some ([], v8)
  else
    some (v7, (0 : Int))

noncomputable def Q_fromValues_l1 (p0x0 : List (Str × ValueS)) (l5 : List PropS) : Option ((List PropS) × Int) :=
  overP p0x0 (fun p => loopL (fun e (x : (List PropS)) => Q_fromValues_b1 e x) (fun x : (List PropS) => Q_fromValues_f1 x) p l5)

noncomputable def Q_fromValues (p0x0 : List (Str × ValueS)) : Option ((List PropS) × Int) :=
  Q_fromValues_l1 p0x0 []

noncomputable def Q_ApplyOf_k1 (l10 : List (Str × ValueS)) : Option ((List PropS) × Int) :=
  (Q_fromValues l10).bind fun v16 =>
  some (v16.1, v16.2)

noncomputable def Q_ApplyOf_b2 (p1x0 : List Change) (l10 : List (Str × ValueS)) (n11 : Int) : Option (((List (Str × ValueS)) × Int) ⊕ ((List PropS) × Int)) :=
  if n11 < (p1x0.length : Int) then
    (idx p1x0 n11).bind fun v12 =>
    (mgetO l10 v12.Name (⟨(0 : Int), false, (0 : Int), []⟩ : ValueS)).bind fun v14 =>
    if v14 ≠ v12.From then
      Option.map .inr (some ([], (13 : Int)))
    else
      some (.inl (mset l10 v12.Name v12.To, w64 (n11 + (1 : Int))))
  else
    Option.map .inr (Q_ApplyOf_k1 l10)

noncomputable def Q_ApplyOf_l2 (p1x0 : List Change) (l10 : List (Str × ValueS)) (n11 : Int) : Option ((List PropS) × Int) :=
  iter (fun x : (List (Str × ValueS)) × Int => Q_ApplyOf_b2 p1x0 x.1 x.2) (l10, n11)

noncomputable def Q_ApplyOf_b1 (p0x0 : List PropS) (p1x0 : List Change) (l4 : List (Str × ValueS)) (n5 : Int) : Option (((List (Str × ValueS)) × Int) ⊕ ((List PropS) × Int)) :=
  if n5 < (p0x0.length : Int) then
    (idx p0x0 n5).bind fun v6 =>
    some (.inl (mset l4 v6.Name v6.Value, w64 (n5 + (1 : Int))))
  else
    Option.map .inr (Q_ApplyOf_l2 p1x0 l4 (0 : Int))

noncomputable def Q_ApplyOf_l1 (p0x0 : List PropS) (p1x0 : List Change) (l4 : List (Str × ValueS)) (n5 : Int) : Option ((List PropS) × Int) :=
  iter (fun x : (List (Str × ValueS)) × Int => Q_ApplyOf_b1 p0x0 p1x0 x.1 x.2) (l4, n5)

noncomputable def Q_ApplyOf (p0x0 : List PropS) (p1x0 : List Change) : Option ((List PropS) × Int) :=
  Q_ApplyOf_l1 p0x0 p1x0 [] (0 : Int)

noncomputable def base_Key_j2 (n5 : Int) (c7 : Bool) : Option (Int ⊕ Bool) :=
  if c7 = true then
    Option.map .inr (some false)
  else
    some (.inl (w64 (n5 + (1 : Int))))

noncomputable def base_Key_b1 (p0x0 : Str) (n5 : Int) : Option (Int ⊕ Bool) :=
  if n5 < (p0x0.length : Int) then
    (idx p0x0 n5).bind fun c6 =>
    base_Key_j2 n5 (if (97 : Int) ≤ (c6.toNat : Int) then if (c6.toNat : Int) ≤ (122 : Int) then !true else if (48 : Int) ≤ (c6.toNat : Int) then if (c6.toNat : Int) ≤ (57 : Int) then !true else if (c6.toNat : Int) = (45 : Int) then !true else decide (¬ ((c6.toNat : Int) = (95 : Int))) else if (c6.toNat : Int) = (45 : Int) then !true else decide (¬ ((c6.toNat : Int) = (95 : Int))) else if (48 : Int) ≤ (c6.toNat : Int) then if (c6.toNat : Int) ≤ (57 : Int) then !true else if (c6.toNat : Int) = (45 : Int) then !true else decide (¬ ((c6.toNat : Int) = (95 : Int))) else if (c6.toNat : Int) = (45 : Int) then !true else decide (¬ ((c6.toNat : Int) = (95 : Int))))
  else
    Option.map .inr (some true)

noncomputable def base_Key_l1 (p0x0 : Str) (n5 : Int) : Option Bool :=
  iter (fun x : Int => base_Key_b1 p0x0 x) n5

noncomputable def base_Key_j1 (p0x0 : Str) (c1 : Bool) : Option Bool :=
  if c1 = true then
    some false
  else
    base_Key_l1 p0x0 (0 : Int)

noncomputable def base_Key (p0x0 : Str) : Option Bool :=
  if p0x0 = ([] : Str) then
    base_Key_j1 p0x0 true
  else
    if (40 : Int) < (p0x0.length : Int) then
      base_Key_j1 p0x0 true
    else
      (idx p0x0 (0 : Int)).bind fun c2 =>
      if (c2.toNat : Int) < (97 : Int) then
        base_Key_j1 p0x0 true
      else
        (idx p0x0 (0 : Int)).bind fun c3 =>
        base_Key_j1 p0x0 (decide ((122 : Int) < (c3.toNat : Int)))

noncomputable def base_Dotted_b1 (p1x0 : Int) (q3 : Str) (n4 : Int) : Option ((Str × Int) ⊕ Bool) :=
  if n4 < p1x0 then
    (cutO q3 ([46] : Str)).bind fun v5 =>
    (base_Key v5.1).bind fun v6 =>
    if (!v6) = true then
      Option.map .inr (some false)
    else
      if (!v5.2.2) = true then
        Option.map .inr (some true)
      else
        some (.inl (v5.2.1, w64 (n4 + (1 : Int))))
  else
    Option.map .inr (some false)

noncomputable def base_Dotted_l1 (p1x0 : Int) (q3 : Str) (n4 : Int) : Option Bool :=
  iter (fun x : Str × Int => base_Dotted_b1 p1x0 x.1 x.2) (q3, n4)

noncomputable def base_Dotted (p0x0 : Str) (p1x0 : Int) : Option Bool :=
  base_Dotted_l1 p1x0 p0x0 (0 : Int)

noncomputable def twin_isName (p0x0 : Str) : Option Bool :=
  (base_Dotted p0x0 (8 : Int)).bind fun v1 =>
  some v1

noncomputable def base_Out_j1 (c1 : Bool) : Bool :=
  c1

noncomputable def base_Out (p0x0 : Int) (p1x0 : Int) (p2x0 : Int) : Bool :=
  base_Out_j1 ((decide (p0x0 < p1x0)) || (decide (p2x0 < p0x0)))

noncomputable def base_Unmarked_j1 (n2 : Int) (c3 : Bool) : Option (Int ⊕ Bool) :=
  if c3 = true then
    Option.map .inr (some false)
  else
    some (.inl (w64 (n2 + (1 : Int))))

noncomputable def base_Unmarked_k2 (p0x0 : Str) : Option Bool :=
  (validO p0x0).bind fun v6 =>
  some v6

noncomputable def base_Unmarked_b1 (p0x0 : Str) (n2 : Int) : Option (Int ⊕ Bool) :=
  if n2 < (p0x0.length : Int) then
    (idx p0x0 n2).bind fun c4 =>
    if (c4.toNat : Int) < (32 : Int) then
      base_Unmarked_j1 n2 true
    else
      (idx p0x0 n2).bind fun c5 =>
      base_Unmarked_j1 n2 (decide ((c5.toNat : Int) = (127 : Int)))
  else
    Option.map .inr (base_Unmarked_k2 p0x0)

noncomputable def base_Unmarked_l1 (p0x0 : Str) (n2 : Int) : Option Bool :=
  iter (fun x : Int => base_Unmarked_b1 p0x0 x) n2

noncomputable def base_Unmarked (p0x0 : Str) : Option Bool :=
  base_Unmarked_l1 p0x0 (0 : Int)

noncomputable def twin_valueFault_j1 (p0x0 : ValueS) (c3 : Bool) (n4 : Int) (q5 : Str) : Option Int :=
  if p0x0 ≠ (⟨p0x0.Kind, c3, n4, q5⟩ : ValueS) then
    some (3 : Int)
  else
    if (base_Out p0x0.Number (-1000000000 : Int) (1000000000 : Int)) = true then
      some (1 : Int)
    else
      if (1000 : Int) < (p0x0.Words.length : Int) then
        some (2 : Int)
      else
        (base_Unmarked p0x0.Words).bind fun v11 =>
        if (!v11) = true then
          some (3 : Int)
        else
          some (0 : Int)

noncomputable def twin_valueFault_j2 (p0x0 : ValueS) (c6 : Bool) (n7 : Int) (q8 : Str) : Option Int :=
  twin_valueFault_j1 p0x0 c6 n7 q8

noncomputable def twin_valueFault_j3 (p0x0 : ValueS) (n9 : Int) (q10 : Str) : Option Int :=
  twin_valueFault_j2 p0x0 false n9 q10

noncomputable def twin_valueFault (p0x0 : ValueS) : Option Int :=
  if p0x0.Kind = (0 : Int) then
    twin_valueFault_j1 p0x0 false (0 : Int) []
  else
    if p0x0.Kind = (1 : Int) then
      twin_valueFault_j2 p0x0 p0x0.Flag (0 : Int) []
    else
      if p0x0.Kind = (2 : Int) then
        twin_valueFault_j3 p0x0 p0x0.Number []
      else
        if p0x0.Kind = (3 : Int) then
          twin_valueFault_j3 p0x0 (0 : Int) p0x0.Words
        else
          some (4 : Int)

noncomputable def twin_find_1x (p0x0 : PropS) (p1x0 : Str) : Int :=
  (Lib.compareBytes p0x0.Name p1x0)

noncomputable def slices_BinarySearchFunc_Prop_Prop_string_j1 (n7 : Int) (n8 : Int) : Option ((Int × Int) ⊕ (Int × Bool)) :=
  some (.inl (n7, n8))

noncomputable def slices_BinarySearchFunc_Prop_Prop_string_j2 (n3 : Int) (c9 : Bool) : Option (Int × Bool) :=
  some (n3, c9)

noncomputable def slices_BinarySearchFunc_Prop_Prop_string_k3 (p0x0 : List PropS) (p1x0 : Str) (fnc : PropS → Str → Option Int) (n3 : Int) : Option (Int × Bool) :=
  if n3 < (p0x0.length : Int) then
    (idx p0x0 n3).bind fun v10 =>
    (fnc v10 p1x0).bind fun v11 =>
    slices_BinarySearchFunc_Prop_Prop_string_j2 n3 (decide (v11 = (0 : Int)))
  else
    slices_BinarySearchFunc_Prop_Prop_string_j2 n3 false

noncomputable def slices_BinarySearchFunc_Prop_Prop_string_b1 (p0x0 : List PropS) (p1x0 : Str) (fnc : PropS → Str → Option Int) (n3 : Int) (n4 : Int) : Option ((Int × Int) ⊕ (Int × Bool)) :=
  if n3 < n4 then
    (idx p0x0 (w64 (shrI .u64 (IntKind.u64.wrap (w64 (n3 + n4))) (1 : Int)))).bind fun v5 =>
    (fnc v5 p1x0).bind fun v6 =>
    if v6 < (0 : Int) then
      slices_BinarySearchFunc_Prop_Prop_string_j1 (w64 ((w64 (shrI .u64 (IntKind.u64.wrap (w64 (n3 + n4))) (1 : Int))) + (1 : Int))) n4
    else
      slices_BinarySearchFunc_Prop_Prop_string_j1 n3 (w64 (shrI .u64 (IntKind.u64.wrap (w64 (n3 + n4))) (1 : Int)))
  else
    Option.map .inr (slices_BinarySearchFunc_Prop_Prop_string_k3 p0x0 p1x0 fnc n3)

noncomputable def slices_BinarySearchFunc_Prop_Prop_string_l1 (p0x0 : List PropS) (p1x0 : Str) (fnc : PropS → Str → Option Int) (n3 : Int) (n4 : Int) : Option (Int × Bool) :=
  iter (fun x : Int × Int => slices_BinarySearchFunc_Prop_Prop_string_b1 p0x0 p1x0 fnc x.1 x.2) (n3, n4)

noncomputable def slices_BinarySearchFunc_Prop_Prop_string (p0x0 : List PropS) (p1x0 : Str) (fnc : PropS → Str → Option Int) : Option (Int × Bool) :=
  slices_BinarySearchFunc_Prop_Prop_string_l1 p0x0 p1x0 fnc (0 : Int) (p0x0.length : Int)

noncomputable def twin_find (p0x0 : List PropS) (p1x0 : Str) : Option Int :=
  (slices_BinarySearchFunc_Prop_Prop_string p0x0 p1x0 (fun y0 y1 => some (twin_find_1x y0 y1))).bind fun v1 =>
  if (!v1.2) = true then
    some (-1 : Int)
  else
    some v1.1

noncomputable def twin_CheckProps_1x (p0x0 : Str) (p1x0 : List PropS) : Option Bool :=
  (twin_find p1x0 p0x0).bind fun v1 =>
  some (decide ((0 : Int) ≤ v1))

noncomputable def twin_above_j1 (n2 : Int) (c3 : Bool) : Option (Int ⊕ Bool) :=
  if c3 = true then
    Option.map .inr (some true)
  else
    some (.inl (w64 (n2 + (1 : Int))))

noncomputable def twin_above_b1 (p0x0 : Str) (fnb : Str → Option Bool) (n2 : Int) : Option (Int ⊕ Bool) :=
  if n2 < (p0x0.length : Int) then
    (idx p0x0 n2).bind fun c4 =>
    if (c4.toNat : Int) = (46 : Int) then
      (slc p0x0 (0 : Int) n2).bind fun l5 =>
      (fnb l5).bind fun v6 =>
      twin_above_j1 n2 v6
    else
      twin_above_j1 n2 false
  else
    Option.map .inr (some false)

noncomputable def twin_above_l1 (p0x0 : Str) (fnb : Str → Option Bool) (n2 : Int) : Option Bool :=
  iter (fun x : Int => twin_above_b1 p0x0 fnb x) n2

noncomputable def twin_above (p0x0 : Str) (fnb : Str → Option Bool) : Option Bool :=
  twin_above_l1 p0x0 fnb (0 : Int)

noncomputable def twin_CheckProps_j1 (n3 : Int) (c8 : Bool) : Option (Int ⊕ Int) :=
  if c8 = true then
    Option.map .inr (some (7 : Int))
  else
    some (.inl (w64 (n3 + (1 : Int))))

noncomputable def twin_CheckProps_b2 (p0x0 : List PropS) (n11 : Int) : Option (Int ⊕ Int) :=
  if n11 < (p0x0.length : Int) then
    (idx p0x0 n11).bind fun v12 =>
    (twin_above v12.Name (fun y0 => twin_CheckProps_1x y0 p0x0)).bind fun v14 =>
    if v14 = true then
      Option.map .inr (some (13 : Int))
    else
      some (.inl (w64 (n11 + (1 : Int))))
  else
    Option.map .inr (some (0 : Int))

noncomputable def twin_CheckProps_l2 (p0x0 : List PropS) (n11 : Int) : Option Int :=
  iter (fun x : Int => twin_CheckProps_b2 p0x0 x) n11

noncomputable def twin_CheckProps_b1 (p0x0 : List PropS) (n3 : Int) : Option (Int ⊕ Int) :=
  if n3 < (p0x0.length : Int) then
    (idx p0x0 n3).bind fun v4 =>
    (twin_isName v4.Name).bind fun v6 =>
    if (!v6) = true then
      Option.map .inr (some (5 : Int))
    else
      (twin_valueFault v4.Value).bind fun v7 =>
      if v7 ≠ (0 : Int) then
        Option.map .inr (some v7)
      else
        if v4.Value.Kind = (0 : Int) then
          Option.map .inr (some (4 : Int))
        else
          if (0 : Int) < n3 then
            (idx p0x0 (w64 (n3 - (1 : Int)))).bind fun v9 =>
            twin_CheckProps_j1 n3 (Op.bytesLess v4.Name v9.Name || v4.Name == v9.Name)
          else
            twin_CheckProps_j1 n3 false
  else
    Option.map .inr (twin_CheckProps_l2 p0x0 (0 : Int))

noncomputable def twin_CheckProps_l1 (p0x0 : List PropS) (n3 : Int) : Option Int :=
  iter (fun x : Int => twin_CheckProps_b1 p0x0 x) n3

noncomputable def twin_CheckProps (p0x0 : List PropS) : Option Int :=
  if (500 : Int) < (p0x0.length : Int) then
    some (2 : Int)
  else
    twin_CheckProps_l1 p0x0 (0 : Int)

noncomputable def base_First_b1 (p0x0 : List Int) (n2 : Int) : Option (Int ⊕ Int) :=
  if n2 < (p0x0.length : Int) then
    (idx p0x0 n2).bind fun v3 =>
    if v3 ≠ (0 : Int) then
      Option.map .inr (some v3)
    else
      some (.inl (w64 (n2 + (1 : Int))))
  else
    Option.map .inr (some (0 : Int))

noncomputable def base_First_l1 (p0x0 : List Int) (n2 : Int) : Option Int :=
  iter (fun x : Int => base_First_b1 p0x0 x) n2

noncomputable def base_First (p0x0 : List Int) : Option Int :=
  base_First_l1 p0x0 (0 : Int)

noncomputable def twin_names_b2 (n6 : Int) (v8 : List PropS) (l13 : List Str) (n14 : Int) : Option (((List Str) × Int) ⊕ (((List Str) × Int) ⊕ (List Str))) :=
  if n14 < (v8.length : Int) then
    (idx v8 n14).bind fun v15 =>
    (app l13 [v15.Name]).bind fun l17 =>
    some (.inl (l17, w64 (n14 + (1 : Int))))
  else
    Option.map .inr (some (.inl (l13, w64 (n6 + (1 : Int)))))

noncomputable def twin_names_l2 (n6 : Int) (v8 : List PropS) (l13 : List Str) (n14 : Int) : Option (((List Str) × Int) ⊕ (List Str)) :=
  iter (fun x : (List Str) × Int => twin_names_b2 n6 v8 x.1 x.2) (l13, n14)

noncomputable def twin_names_k1 (l5 : List Str) : Option (List Str) :=
  (lenOk l5.length (fun r : (List Str) => r.length) (slices_Sort_string_string l5)).bind fun v19 =>
  (slices_Compact_string_string v19).bind fun v20 =>
  some v20

noncomputable def twin_names_b1 (p0x0 : List (List PropS)) (l5 : List Str) (n6 : Int) : Option (((List Str) × Int) ⊕ (List Str)) :=
  if n6 < (p0x0.length : Int) then
    (idx p0x0 n6).bind fun v8 =>
    twin_names_l2 n6 v8 l5 (0 : Int)
  else
    Option.map .inr (twin_names_k1 l5)

noncomputable def twin_names_l1 (p0x0 : List (List PropS)) (l5 : List Str) (n6 : Int) : Option (List Str) :=
  iter (fun x : (List Str) × Int => twin_names_b1 p0x0 x.1 x.2) (l5, n6)

noncomputable def twin_names (p0x0 : List (List PropS)) : Option (List Str) :=
  twin_names_l1 p0x0 [] (0 : Int)

noncomputable def twin_valueOf (p0x0 : List PropS) (p1x0 : Str) : Option ValueS :=
  (twin_find p0x0 p1x0).bind fun v2 =>
  if (0 : Int) ≤ v2 then
    (idx p0x0 v2).bind fun v3 =>
    some v3.Value
  else
    some (⟨(0 : Int), false, (0 : Int), []⟩ : ValueS)

noncomputable def twin_Three_j4 (n18 : Int) (l31 : List Clash) (l45 : List PropS) : Option (((List PropS) × (List Clash) × Int) ⊕ ((List PropS) × (List Clash) × Int)) :=
  some (.inl (l45, l31, w64 (n18 + (1 : Int))))

noncomputable def twin_Three_j2 (l15 : List PropS) (n18 : Int) (v21 : Str) (l31 : List Clash) (n32 : Int) (c33 : Bool) (n34 : Int) (q35 : Str) : Option (((List PropS) × (List Clash) × Int) ⊕ ((List PropS) × (List Clash) × Int)) :=
  if n32 ≠ (0 : Int) then
    (app l15 [(⟨v21, (⟨n32, c33, n34, q35⟩ : ValueS)⟩ : PropS)]).bind fun l46 =>
    twin_Three_j4 n18 l31 l46
  else
    twin_Three_j4 n18 l31 l15

noncomputable def twin_Three_j3 (l15 : List PropS) (n18 : Int) (v21 : Str) (l37 : List Clash) (n38 : Int) (c39 : Bool) (n40 : Int) (q41 : Str) : Option (((List PropS) × (List Clash) × Int) ⊕ ((List PropS) × (List Clash) × Int)) :=
  twin_Three_j2 l15 n18 v21 l37 n38 c39 n40 q41

noncomputable def twin_Three_j1 (l15 : List PropS) (l17 : List Clash) (n18 : Int) (v21 : Str) (v22 : ValueS) (v23 : ValueS) (v24 : ValueS) (c29 : Bool) : Option (((List PropS) × (List Clash) × Int) ⊕ ((List PropS) × (List Clash) × Int)) :=
  if c29 = true then
    twin_Three_j2 l15 n18 v21 l17 v24.Kind v24.Flag v24.Number v24.Words
  else
    if v24 = v22 then
      twin_Three_j3 l15 n18 v21 l17 v23.Kind v23.Flag v23.Number v23.Words
    else
      (app l17 [(⟨v21, v22, v23, v24⟩ : Clash)]).bind fun l42 =>
      twin_Three_j3 l15 n18 v21 l42 v22.Kind v22.Flag v22.Number v22.Words

noncomputable def twin_Three_k5 (l15 : List PropS) (l17 : List Clash) : Option ((List PropS) × (List Clash) × Int) :=
  (twin_CheckProps l15).bind fun v48 =>
  if v48 ≠ (0 : Int) then
    some ([], [], v48)
  else
    some (l15, l17, (0 : Int))

noncomputable def twin_Three_b1 (p0x0 : List PropS) (p1x0 : List PropS) (p2x0 : List PropS) (v7 : (List Str)) (l15 : List PropS) (l17 : List Clash) (n18 : Int) : Option (((List PropS) × (List Clash) × Int) ⊕ ((List PropS) × (List Clash) × Int)) :=
  if n18 < (v7.length : Int) then
    (idx v7 n18).bind fun v21 =>
    (twin_valueOf p0x0 v21).bind fun v22 =>
    (twin_valueOf p1x0 v21).bind fun v23 =>
    (twin_valueOf p2x0 v21).bind fun v24 =>
    twin_Three_j1 l15 l17 n18 v21 v22 v23 v24 ((decide (v23 = v22)) || (decide (v23 = v24)))
  else
    Option.map .inr (twin_Three_k5 l15 l17)

noncomputable def twin_Three_l1 (p0x0 : List PropS) (p1x0 : List PropS) (p2x0 : List PropS) (v7 : (List Str)) (l15 : List PropS) (l17 : List Clash) (n18 : Int) : Option ((List PropS) × (List Clash) × Int) :=
  iter (fun x : (List PropS) × (List Clash) × Int => twin_Three_b1 p0x0 p1x0 p2x0 v7 x.1 x.2.1 x.2.2) (l15, l17, n18)

noncomputable def twin_Three (p0x0 : List PropS) (p1x0 : List PropS) (p2x0 : List PropS) : Option ((List PropS) × (List Clash) × Int) :=
  (twin_CheckProps p0x0).bind fun v1 =>
  (twin_CheckProps p1x0).bind fun v2 =>
  (twin_CheckProps p2x0).bind fun v3 =>
  (base_First [v1, v2, v3]).bind fun v4 =>
  if v4 ≠ (0 : Int) then
    some ([], [], v4)
  else
    (twin_names [p0x0, p1x0, p2x0]).bind fun v7 =>
    twin_Three_l1 p0x0 p1x0 p2x0 v7 [] [] (0 : Int)

noncomputable def L_errs_b1 (p0x0 : List Int) (n2 : Int) : Option (Int ⊕ Int) :=
  if n2 < (p0x0.length : Int) then
    (idx p0x0 n2).bind fun v3 =>
    if v3 ≠ (0 : Int) then
      Option.map .inr (some v3)
    else
      some (.inl (w64 (n2 + (1 : Int))))
  else
    Option.map .inr (some (0 : Int))

noncomputable def L_errs_l1 (p0x0 : List Int) (n2 : Int) : Option Int :=
  iter (fun x : Int => L_errs_b1 p0x0 x) n2

noncomputable def L_errs (p0x0 : List Int) : Option Int :=
  L_errs_l1 p0x0 (0 : Int)

noncomputable def Q_ThreeOf_j2 (n11 : Int) (l21 : List (Str × ValueS)) (l23 : List Clash) : Option (((List (Str × ValueS)) × (List Clash) × Int) ⊕ ((List PropS) × (List Clash) × Int)) :=
  some (.inl (l21, l23, w64 (n11 + (1 : Int))))

noncomputable def Q_ThreeOf_j3 (n11 : Int) (l24 : List (Str × ValueS)) (l26 : List Clash) : Option (((List (Str × ValueS)) × (List Clash) × Int) ⊕ ((List PropS) × (List Clash) × Int)) :=
  Q_ThreeOf_j2 n11 l24 l26

noncomputable def Q_ThreeOf_j1 (l8 : List (Str × ValueS)) (l10 : List Clash) (n11 : Int) (v13 : Str) (v14 : ValueS) (v15 : ValueS) (v16 : ValueS) (c20 : Bool) : Option (((List (Str × ValueS)) × (List Clash) × Int) ⊕ ((List PropS) × (List Clash) × Int)) :=
  if c20 = true then
    Q_ThreeOf_j2 n11 (mset l8 v13 v16) l10
  else
    if v16 = v14 then
      Q_ThreeOf_j3 n11 (mset l8 v13 v15) l10
    else
      (app l10 [(⟨v13, v14, v15, v16⟩ : Clash)]).bind fun l27 =>
      Q_ThreeOf_j3 n11 (mset l8 v13 v14) l27

noncomputable def Q_ThreeOf_k4 (l8 : List (Str × ValueS)) (l10 : List Clash) : Option ((List PropS) × (List Clash) × Int) :=
  (Q_fromValues l8).bind fun v29 =>
  if v29.2 ≠ (0 : Int) then
    some ([], [], v29.2)
  else
    some (v29.1, l10, (0 : Int))

noncomputable def Q_ThreeOf_b1 (p0x0 : List PropS) (p1x0 : List PropS) (p2x0 : List PropS) (v2 : (List Str)) (l8 : List (Str × ValueS)) (l10 : List Clash) (n11 : Int) : Option (((List (Str × ValueS)) × (List Clash) × Int) ⊕ ((List PropS) × (List Clash) × Int)) :=
  if n11 < (v2.length : Int) then
    (idx v2 n11).bind fun v13 =>
    (Q_ValueOf p0x0 v13).bind fun v14 =>
    (Q_ValueOf p1x0 v13).bind fun v15 =>
    (Q_ValueOf p2x0 v13).bind fun v16 =>
    Q_ThreeOf_j1 l8 l10 n11 v13 v14 v15 v16 ((decide (v15 = v14)) || (decide (v15 = v16)))
  else
    Option.map .inr (Q_ThreeOf_k4 l8 l10)

noncomputable def Q_ThreeOf_l1 (p0x0 : List PropS) (p1x0 : List PropS) (p2x0 : List PropS) (v2 : (List Str)) (l8 : List (Str × ValueS)) (l10 : List Clash) (n11 : Int) : Option ((List PropS) × (List Clash) × Int) :=
  iter (fun x : (List (Str × ValueS)) × (List Clash) × Int => Q_ThreeOf_b1 p0x0 p1x0 p2x0 v2 x.1 x.2.1 x.2.2) (l8, l10, n11)

noncomputable def Q_ThreeOf (p0x0 : List PropS) (p1x0 : List PropS) (p2x0 : List PropS) : Option ((List PropS) × (List Clash) × Int) :=
  (Q_namesOf [p0x0, p1x0, p2x0]).bind fun v2 =>
  Q_ThreeOf_l1 p0x0 p1x0 p2x0 v2 [] [] (0 : Int)

noncomputable def slices_Equal_Prop_Prop_b1 (p0x0 : List PropS) (p1x0 : List PropS) (n2 : Int) : Option (Int ⊕ Bool) :=
  if n2 < (p0x0.length : Int) then
    (idx p0x0 n2).bind fun v3 =>
    (idx p1x0 n2).bind fun v4 =>
    if v3 ≠ v4 then
      Option.map .inr (some false)
    else
      some (.inl (w64 (n2 + (1 : Int))))
  else
    Option.map .inr (some true)

noncomputable def slices_Equal_Prop_Prop_l1 (p0x0 : List PropS) (p1x0 : List PropS) (n2 : Int) : Option Bool :=
  iter (fun x : Int => slices_Equal_Prop_Prop_b1 p0x0 p1x0 x) n2

noncomputable def slices_Equal_Prop_Prop (p0x0 : List PropS) (p1x0 : List PropS) : Option Bool :=
  if (p0x0.length : Int) ≠ (p1x0.length : Int) then
    some false
  else
    slices_Equal_Prop_Prop_l1 p0x0 p1x0 (0 : Int)

noncomputable def slices_Equal_Clash_Clash_b1 (p0x0 : List Clash) (p1x0 : List Clash) (n2 : Int) : Option (Int ⊕ Bool) :=
  if n2 < (p0x0.length : Int) then
    (idx p0x0 n2).bind fun v3 =>
    (idx p1x0 n2).bind fun v4 =>
    if v3 ≠ v4 then
      Option.map .inr (some false)
    else
      some (.inl (w64 (n2 + (1 : Int))))
  else
    Option.map .inr (some true)

noncomputable def slices_Equal_Clash_Clash_l1 (p0x0 : List Clash) (p1x0 : List Clash) (n2 : Int) : Option Bool :=
  iter (fun x : Int => slices_Equal_Clash_Clash_b1 p0x0 p1x0 x) n2

noncomputable def slices_Equal_Clash_Clash (p0x0 : List Clash) (p1x0 : List Clash) : Option Bool :=
  if (p0x0.length : Int) ≠ (p1x0.length : Int) then
    some false
  else
    slices_Equal_Clash_Clash_l1 p0x0 p1x0 (0 : Int)

noncomputable def twin_Differ_j1 (n12 : Int) (l20 : List Change) : Option (((List Change) × Int) ⊕ ((List Change) × Int)) :=
  some (.inl (l20, w64 (n12 + (1 : Int))))

noncomputable def twin_Differ_b1 (p0x0 : List PropS) (p1x0 : List PropS) (v5 : (List Str)) (l11 : List Change) (n12 : Int) : Option (((List Change) × Int) ⊕ ((List Change) × Int)) :=
  if n12 < (v5.length : Int) then
    (idx v5 n12).bind fun v14 =>
    (twin_valueOf p0x0 v14).bind fun v15 =>
    (twin_valueOf p1x0 v14).bind fun v16 =>
    if v15 ≠ v16 then
      (app l11 [(⟨v14, v15, v16⟩ : Change)]).bind fun l21 =>
      twin_Differ_j1 n12 l21
    else
      twin_Differ_j1 n12 l11
  else
    Option.map .inr (some (l11, (0 : Int)))

noncomputable def twin_Differ_l1 (p0x0 : List PropS) (p1x0 : List PropS) (v5 : (List Str)) (l11 : List Change) (n12 : Int) : Option ((List Change) × Int) :=
  iter (fun x : (List Change) × Int => twin_Differ_b1 p0x0 p1x0 v5 x.1 x.2) (l11, n12)

noncomputable def twin_Differ (p0x0 : List PropS) (p1x0 : List PropS) : Option ((List Change) × Int) :=
  (twin_CheckProps p0x0).bind fun v1 =>
  (twin_CheckProps p1x0).bind fun v2 =>
  (base_First [v1, v2]).bind fun v3 =>
  if v3 ≠ (0 : Int) then
    some ([], v3)
  else
    (twin_names [p0x0, p1x0]).bind fun v5 =>
    twin_Differ_l1 p0x0 p1x0 v5 [] (0 : Int)

noncomputable def L_twinned_j1 (c3 : Bool) : Option Bool :=
  some c3

noncomputable def L_twinned : Option Bool :=
  (twin_Differ ([] : List PropS) [(⟨([97] : Str), (⟨(1 : Int), false, (0 : Int), []⟩ : ValueS)⟩ : PropS)]).bind fun v1 =>
  if v1.2 = (0 : Int) then
    if (v1.1.length : Int) = (1 : Int) then
      (idx v1.1 (0 : Int)).bind fun v4 =>
      L_twinned_j1 (decide (v4.Name = ([97] : Str)))
    else
      L_twinned_j1 false
  else
    L_twinned_j1 false

noncomputable def L_SidesJoined_j5 (c30 : Bool) : Option Bool :=
  some c30

noncomputable def L_SidesJoined_j4 (v13 : (List PropS) × (List Clash) × Int) (n20 : Int) (l22 : List PropS) (l24 : List Clash) : Option Bool :=
  if v13.2.2 = n20 then
    (slices_Equal_Prop_Prop v13.1 l22).bind fun v31 =>
    if v31 = true then
      (slices_Equal_Clash_Clash v13.2.1 l24).bind fun v32 =>
      if v32 = true then
        (L_twinned).bind fun v33 =>
        L_SidesJoined_j5 v33
      else
        L_SidesJoined_j5 false
    else
      L_SidesJoined_j5 false
  else
    L_SidesJoined_j5 false

noncomputable def L_SidesJoined_j3 (v2 : (List PropS) × Fleetmake_Stream) (l10 : List PropS) (l12 : List PropS) : Option Bool :=
  (twin_Three v2.1 l10 l12).bind fun v13 =>
  (Q_PropsFault v2.1).bind fun v16 =>
  (Q_PropsFault l10).bind fun v17 =>
  (Q_PropsFault l12).bind fun v18 =>
  (L_errs [v16, v17, v18]).bind fun v19 =>
  if v19 = (0 : Int) then
    (Q_ThreeOf v2.1 l10 l12).bind fun v25 =>
    L_SidesJoined_j4 v13 v25.2.2 v25.1 v25.2.1
  else
    L_SidesJoined_j4 v13 v19 [] []

noncomputable def L_SidesJoined_j2 (v2 : (List PropS) × Fleetmake_Stream) (v3 : (List PropS) × Fleetmake_Stream) (v4 : (List Change) × Fleetmake_Stream) (l10 : List PropS) : Option Bool :=
  (Stream_Flip v4.2 (2 : Int)).bind fun v11 =>
  if v11.1 = true then
    L_SidesJoined_j3 v2 l10 v2.1
  else
    L_SidesJoined_j3 v2 l10 v3.1

noncomputable def L_SidesJoined_j1 (v2 : (List PropS) × Fleetmake_Stream) (v3 : (List PropS) × Fleetmake_Stream) (v4 : (List Change) × Fleetmake_Stream) (v6 : (List PropS) × Int) (c8 : Bool) : Option Bool :=
  if c8 = true then
    L_SidesJoined_j2 v2 v3 v4 v6.1
  else
    L_SidesJoined_j2 v2 v3 v4 v2.1

noncomputable def L_SidesJoined (p0x0 : List Int) : Option Bool :=
  (Stream_Props (⟨p0x0, (0 : Int)⟩ : Fleetmake_Stream)).bind fun v2 =>
  (Stream_Props v2.2).bind fun v3 =>
  (Stream_Changes v3.2 v2.1).bind fun v4 =>
  (Q_ApplyOf v2.1 v4.1).bind fun v6 =>
  if v6.2 = (0 : Int) then
    (Q_PropsFault v2.1).bind fun v9 =>
    L_SidesJoined_j1 v2 v3 v4 v6 (decide (v9 = (0 : Int)))
  else
    L_SidesJoined_j1 v2 v3 v4 v6 false

end Go.Beacon
