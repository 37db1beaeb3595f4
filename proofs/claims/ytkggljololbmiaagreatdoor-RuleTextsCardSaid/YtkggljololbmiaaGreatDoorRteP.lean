/- Plain functions that the Go functions compute, written by shal.py. -/
import Derived.Test.YtkggljololbmiaaGreatDoorCore
set_option linter.unusedVariables false
namespace Go.Beacon
open Go Go.Eng
structure Fleetmake_Stream where
  L : List Int
  at_ : Int
deriving DecidableEq, Inhabited
def Fleetmake_Stream.av (x : Fleetmake_Stream) : AV := .agg [.list 1 (x.L.map I), I x.at_]

structure Rule where
  Key : Str
  Metric : Str
  Agg : Int
  Long : Int
  Above : Bool
  On : Int
  Off : Int
  Hold : Int
  Rest : Int
  Empty : Int
deriving DecidableEq, Inhabited
def Rule.av (x : Rule) : AV := .agg [.str x.Key, .str x.Metric, I x.Agg, I x.Long, .bool x.Above, I x.On, I x.Off, I x.Hold, I x.Rest, I x.Empty]

structure Sample where
  Device : Str
  Metric : Str
  At : Int
  Value : Int
deriving DecidableEq, Inhabited
def Sample.av (x : Sample) : AV := .agg [.str x.Device, .str x.Metric, I x.At, I x.Value]

structure Window where
  From : Int
  To : Int
deriving DecidableEq, Inhabited
def Window.av (x : Window) : AV := .agg [I x.From, I x.To]

structure Spell where
  Device : Str
  Rule : Str
  From : Int
  To : Int
deriving DecidableEq, Inhabited
def Spell.av (x : Spell) : AV := .agg [.str x.Device, .str x.Rule, I x.From, I x.To]

structure Rule_span where
  from_ : Int
  to_ : Int
deriving DecidableEq, Inhabited
def Rule_span.av (x : Rule_span) : AV := .agg [I x.from_, I x.to_]

structure Rule_sample where
  at_ : Int
  value_ : Int
deriving DecidableEq, Inhabited
def Rule_sample.av (x : Rule_sample) : AV := .agg [I x.at_, I x.value_]

structure Rule_track where
  rule_ : Rule
  window_ : List Rule_sample
  least_ : List Rule_sample
  most_ : List Rule_sample
  sum_ : Int
  state_ : Int
  since_ : Int
  firing_ : Bool
  began_ : Int
deriving DecidableEq, Inhabited

noncomputable def Below_j1 (n2 : Int) : Option Int :=
  some n2

noncomputable def Below (p0x0 : Int) (p1x0 : Int) : Option Int :=
  if p1x0 < (1 : Int) then
    some (0 : Int)
  else
    (rem p0x0 p1x0).bind fun n1 =>
    if n1 < (0 : Int) then
      Below_j1 (w64 (n1 + p1x0))
    else
      Below_j1 n1

noncomputable def Stream_Next (p0x0 : Fleetmake_Stream) (p1x0 : Int) : Option (Int × Fleetmake_Stream) :=
  if (p0x0.L.length : Int) = (0 : Int) then
    (Below (w64 ((w64 (p0x0.at_ + (1 : Int))) * (7919 : Int))) p1x0).bind fun v1 =>
    some (v1, (⟨p0x0.L, w64 (p0x0.at_ + (1 : Int))⟩ : Fleetmake_Stream))
  else
    (rem (w64 ((w64 (p0x0.at_ + (1 : Int))) - (1 : Int))) (p0x0.L.length : Int)).bind fun n2 =>
    (quo (w64 ((w64 (p0x0.at_ + (1 : Int))) - (1 : Int))) (p0x0.L.length : Int)).bind fun n3 =>
    (idx p0x0.L n2).bind fun v4 =>
    (Below v4 (1073741824 : Int)).bind fun v5 =>
    (Below (w64 (v5 + (w64 (n3 * (w64 ((7919 : Int) + n2)))))) p1x0).bind fun v6 =>
    some (v6, (⟨p0x0.L, w64 (p0x0.at_ + (1 : Int))⟩ : Fleetmake_Stream))

noncomputable def Stream_Flip (p0x0 : Fleetmake_Stream) (p1x0 : Int) : Option (Bool × Fleetmake_Stream) :=
  (Stream_Next p0x0 p1x0).bind fun v1 =>
  some (decide (v1.1 = (0 : Int)), v1.2)

noncomputable def Stream_Some (p0x0 : Fleetmake_Stream) (p1x0 : List Str) : Option (Str × Fleetmake_Stream) :=
  (Stream_Next p0x0 (p1x0.length : Int)).bind fun v1 =>
  (idx p1x0 v1.1).bind fun v2 =>
  some (v2, v1.2)

noncomputable def Stream_Range (p0x0 : Fleetmake_Stream) (p1x0 : Int) (p2x0 : Int) : Option (Int × Fleetmake_Stream) :=
  if p2x0 < p1x0 then
    some (p1x0, p0x0)
  else
    (Stream_Next p0x0 (w64 ((w64 (p2x0 - p1x0)) + (1 : Int)))).bind fun v1 =>
    some (w64 (p1x0 + v1.1), v1.2)

noncomputable def Stream_Pick (p0x0 : Fleetmake_Stream) (p1x0 : List Int) : Option (Int × Fleetmake_Stream) :=
  (Stream_Next p0x0 (p1x0.length : Int)).bind fun v1 =>
  (idx p1x0 v1.1).bind fun v2 =>
  some (v2, v1.2)

noncomputable def Stream_RightRule_j1 (p1x0 : Str) (v2 : Str × Fleetmake_Stream) (v3 : Int × Fleetmake_Stream) (v4 : Int × Fleetmake_Stream) (v5 : Bool × Fleetmake_Stream) (v6 : Int × Fleetmake_Stream) (v7 : Int × Fleetmake_Stream) (v8 : Int × Fleetmake_Stream) (v9 : Int × Fleetmake_Stream) (v11 : Int × Fleetmake_Stream) (n12 : Int) : Option (Rule × Fleetmake_Stream) :=
  some ((⟨p1x0, v2.1, v3.1, v4.1, v5.1, v6.1, n12, v7.1, v8.1, v9.1⟩ : Rule), v11.2)

noncomputable def Stream_RightRule (p0x0 : Fleetmake_Stream) (p1x0 : Str) : Option (Rule × Fleetmake_Stream) :=
  (Stream_Some p0x0 [([116] : Str), ([116] : Str), ([117] : Str)]).bind fun v2 =>
  (Stream_Range v2.2 (1 : Int) (6 : Int)).bind fun v3 =>
  (Stream_Pick v3.2 [(5 : Int), (20 : Int), (50 : Int), (100 : Int)]).bind fun v4 =>
  (Stream_Flip v4.2 (2 : Int)).bind fun v5 =>
  (Stream_Pick v5.2 [(0 : Int), (2 : Int), (5 : Int), (8 : Int)]).bind fun v6 =>
  (Stream_Pick v6.2 [(0 : Int), (0 : Int), (5 : Int), (15 : Int)]).bind fun v7 =>
  (Stream_Pick v7.2 [(0 : Int), (0 : Int), (5 : Int), (15 : Int)]).bind fun v8 =>
  (Stream_Pick v8.2 [(0 : Int), (0 : Int), (1 : Int), (2 : Int)]).bind fun v9 =>
  (Stream_Pick v9.2 [(0 : Int), (0 : Int), (2 : Int), (4 : Int)]).bind fun v11 =>
  if (!v5.1) = true then
    Stream_RightRule_j1 p1x0 v2 v3 v4 v5 v6 v7 v8 v9 v11 (w64 ((w64 ((2 : Int) * v6.1)) - (w64 (v6.1 - v11.1))))
  else
    Stream_RightRule_j1 p1x0 v2 v3 v4 v5 v6 v7 v8 v9 v11 (w64 (v6.1 - v11.1))

noncomputable def Stream_Odd (p0x0 : Fleetmake_Stream) (p1x0 : Int) (p2x0 : Int) : Option (Int × Fleetmake_Stream) :=
  (Stream_Flip p0x0 (12 : Int)).bind fun v1 =>
  if v1.1 = true then
    (Stream_Pick v1.2 [w64 (p1x0 - (1 : Int)), w64 (p2x0 + (1 : Int)), p1x0, p2x0, (-1099511627776 : Int), (1099511627776 : Int)]).bind fun v2 =>
    some (v2.1, v2.2)
  else
    (Stream_Range v1.2 p1x0 p2x0).bind fun v3 =>
    some (v3.1, v3.2)

noncomputable def Stream_Rules_j1 (n10 : Int) (l14 : List Int) (n15 : Int) (l17 : List Rule) : Option (((List Int) × Int × (List Rule) × Int) ⊕ ((List Rule) × Fleetmake_Stream)) :=
  some (.inl (l14, n15, l17, w64 (n10 + (1 : Int))))

noncomputable def Stream_Rules_j2 (l22 : List Int) (n23 : Int) (l25 : List Rule) : Option ((List Rule) × Fleetmake_Stream) :=
  some (l25, (⟨l22, n23⟩ : Fleetmake_Stream))

noncomputable def Stream_Rules_j3 (l9 : List Rule) (v27 : Rule × Fleetmake_Stream) (l30 : List Int) (n31 : Int) (q32 : Str) (n33 : Int) (n34 : Int) (n35 : Int) (n36 : Int) (n37 : Int) (n38 : Int) (n39 : Int) : Option ((List Rule) × Fleetmake_Stream) :=
  (app l9 [(⟨v27.1.Key, q32, n33, n34, v27.1.Above, n35, n36, n37, n38, n39⟩ : Rule)]).bind fun l61 =>
  Stream_Rules_j2 l30 n31 l61

noncomputable def Stream_Rules_j4 (l9 : List Rule) (v27 : Rule × Fleetmake_Stream) (l42 : List Int) (n43 : Int) (q44 : Str) (n45 : Int) (n46 : Int) (n47 : Int) (n48 : Int) (n49 : Int) : Option ((List Rule) × Fleetmake_Stream) :=
  Stream_Rules_j3 l9 v27 l42 n43 q44 v27.1.Agg n45 n46 n47 n48 n49 v27.1.Empty

noncomputable def Stream_Rules_j5 (l9 : List Rule) (v27 : Rule × Fleetmake_Stream) (l53 : List Int) (n54 : Int) (q55 : Str) (n56 : Int) (n57 : Int) : Option ((List Rule) × Fleetmake_Stream) :=
  Stream_Rules_j4 l9 v27 l53 n54 q55 v27.1.Long n56 n57 v27.1.Hold v27.1.Rest

noncomputable def Stream_Rules_k6 (l6 : List Int) (n7 : Int) (l9 : List Rule) : Option ((List Rule) × Fleetmake_Stream) :=
  (Stream_Flip (⟨l6, n7⟩ : Fleetmake_Stream) (15 : Int)).bind fun v21 =>
  if v21.1 = true then
    (Stream_Some v21.2 [([] : Str), ([114, 97] : Str), ([114, 122] : Str)]).bind fun v26 =>
    (Stream_RightRule v26.2 v26.1).bind fun v27 =>
    (Stream_Next v27.2 (4 : Int)).bind fun v29 =>
    if v29.1 = (0 : Int) then
      (Stream_Odd v29.2 (1 : Int) (6 : Int)).bind fun v40 =>
      (Stream_Odd v40.2 (0 : Int) (2 : Int)).bind fun v41 =>
      Stream_Rules_j3 l9 v27 v41.2.L v41.2.at_ v27.1.Metric v40.1 v27.1.Long v27.1.On v27.1.Off v27.1.Hold v27.1.Rest v41.1
    else
      if v29.1 = (1 : Int) then
        (Stream_Odd v29.2 (1 : Int) (2592000000 : Int)).bind fun v50 =>
        (Stream_Odd v50.2 (0 : Int) (2592000000 : Int)).bind fun v51 =>
        (Stream_Odd v51.2 (0 : Int) (2592000000 : Int)).bind fun v52 =>
        Stream_Rules_j4 l9 v27 v52.2.L v52.2.at_ v27.1.Metric v50.1 v27.1.On v27.1.Off v51.1 v52.1
      else
        if v29.1 = (2 : Int) then
          (Stream_Odd v29.2 (-1000000000 : Int) (1000000000 : Int)).bind fun v58 =>
          (Stream_Odd v58.2 (-3 : Int) (9 : Int)).bind fun v59 =>
          Stream_Rules_j5 l9 v27 v59.2.L v59.2.at_ v27.1.Metric v58.1 v59.1
        else
          (Stream_Some v29.2 [([] : Str), ([65] : Str), ([116] : Str)]).bind fun v60 =>
          Stream_Rules_j5 l9 v27 v60.2.L v60.2.at_ v60.1 v27.1.On v27.1.Off
  else
    Stream_Rules_j2 v21.2.L v21.2.at_ l9

noncomputable def Stream_Rules_b1 (l6 : List Int) (n7 : Int) (l9 : List Rule) (n10 : Int) : Option (((List Int) × Int × (List Rule) × Int) ⊕ ((List Rule) × Fleetmake_Stream)) :=
  if n10 < ([([114, 97] : Str), ([114, 98] : Str), ([114, 99] : Str)].length : Int) then
    (idx [([114, 97] : Str), ([114, 98] : Str), ([114, 99] : Str)] n10).bind fun v12 =>
    (Stream_Flip (⟨l6, n7⟩ : Fleetmake_Stream) (2 : Int)).bind fun v13 =>
    if v13.1 = true then
      (Stream_RightRule v13.2 v12).bind fun v18 =>
      (app l9 [v18.1]).bind fun l19 =>
      Stream_Rules_j1 n10 v18.2.L v18.2.at_ l19
    else
      Stream_Rules_j1 n10 v13.2.L v13.2.at_ l9
  else
    Option.map .inr (Stream_Rules_k6 l6 n7 l9)

noncomputable def Stream_Rules_l1 (l6 : List Int) (n7 : Int) (l9 : List Rule) (n10 : Int) : Option ((List Rule) × Fleetmake_Stream) :=
  iter (fun x : (List Int) × Int × (List Rule) × Int => Stream_Rules_b1 x.1 x.2.1 x.2.2.1 x.2.2.2) (l6, n7, l9, n10)

noncomputable def Stream_Rules (p0x0 : Fleetmake_Stream) : Option ((List Rule) × Fleetmake_Stream) :=
  Stream_Rules_l1 p0x0.L p0x0.at_ [] (0 : Int)

noncomputable def base_Key_j2 (n5 : Int) (c7 : Bool) : Option (Int ⊕ Bool) :=
  if c7 = true then
    Option.map .inr (some false)
  else
    some (.inl (w64 (n5 + (1 : Int))))

noncomputable def base_Key_b1 (p0x0 : Str) (n5 : Int) : Option (Int ⊕ Bool) :=
  if n5 < (p0x0.length : Int) then
    (idx p0x0 n5).bind fun c6 =>
    base_Key_j2 n5 (if (97 : Int) ≤ (c6.toNat : Int) then if (c6.toNat : Int) ≤ (122 : Int) then !true else if (48 : Int) ≤ (c6.toNat : Int) then if (c6.toNat : Int) ≤ (57 : Int) then !true else if (c6.toNat : Int) = (45 : Int) then !true else decide (¬ ((c6.toNat : Int) = (95 : Int))) else if (c6.toNat : Int) = (45 : Int) then !true else decide (¬ ((c6.toNat : Int) = (95 : Int))) else if (48 : Int) ≤ (c6.toNat : Int) then if (c6.toNat : Int) ≤ (57 : Int) then !true else if (c6.toNat : Int) = (45 : Int) then !true else decide (¬ ((c6.toNat : Int) = (95 : Int))) else if (c6.toNat : Int) = (45 : Int) then !true else decide (¬ ((c6.toNat : Int) = (95 : Int))))
  else
    Option.map .inr (some true)

noncomputable def base_Key_l1 (p0x0 : Str) (n5 : Int) : Option Bool :=
  iter (fun x : Int => base_Key_b1 p0x0 x) n5

noncomputable def base_Key_j1 (p0x0 : Str) (c1 : Bool) : Option Bool :=
  if c1 = true then
    some false
  else
    base_Key_l1 p0x0 (0 : Int)

noncomputable def base_Key (p0x0 : Str) : Option Bool :=
  if p0x0 = ([] : Str) then
    base_Key_j1 p0x0 true
  else
    if (40 : Int) < (p0x0.length : Int) then
      base_Key_j1 p0x0 true
    else
      (idx p0x0 (0 : Int)).bind fun c2 =>
      if (c2.toNat : Int) < (97 : Int) then
        base_Key_j1 p0x0 true
      else
        (idx p0x0 (0 : Int)).bind fun c3 =>
        base_Key_j1 p0x0 (decide ((122 : Int) < (c3.toNat : Int)))

noncomputable def base_Out_j1 (c1 : Bool) : Bool :=
  c1

noncomputable def base_Out (p0x0 : Int) (p1x0 : Int) (p2x0 : Int) : Bool :=
  base_Out_j1 ((decide (p0x0 < p1x0)) || (decide (p2x0 < p0x0)))

noncomputable def rule_CheckRules_1x (p0x0 : Int) : Bool :=
  !(base_Out p0x0 (-1000000000 : Int) (1000000000 : Int))

noncomputable def rule_CheckRules_j8 (n2 : Int) (v3 : Rule) (c15 : Bool) : Option (Int ⊕ Int) :=
  if c15 = true then
    Option.map .inr (some (1 : Int))
  else
    if (base_Out v3.Empty (0 : Int) (2 : Int)) = true then
      Option.map .inr (some (4 : Int))
    else
      some (.inl (w64 (n2 + (1 : Int))))

noncomputable def rule_CheckRules_j2 (n2 : Int) (v3 : Rule) (c9 : Bool) : Option (Int ⊕ Int) :=
  if c9 = true then
    Option.map .inr (some (1 : Int))
  else
    if (base_Out v3.Hold (0 : Int) (2592000000 : Int)) = true then
      rule_CheckRules_j8 n2 v3 (base_Out v3.Hold (0 : Int) (2592000000 : Int))
    else
      rule_CheckRules_j8 n2 v3 (base_Out v3.Rest (0 : Int) (2592000000 : Int))

noncomputable def rule_CheckRules_j3 (n2 : Int) (v3 : Rule) (c10 : Bool) : Option (Int ⊕ Int) :=
  rule_CheckRules_j2 n2 v3 c10

noncomputable def rule_CheckRules_j4 (n2 : Int) (v3 : Rule) (c11 : Bool) : Option (Int ⊕ Int) :=
  rule_CheckRules_j3 n2 v3 c11

noncomputable def rule_CheckRules_j6 (n2 : Int) (v3 : Rule) (c13 : Bool) : Option (Int ⊕ Int) :=
  rule_CheckRules_j4 n2 v3 c13

noncomputable def rule_CheckRules_j7 (n2 : Int) (v3 : Rule) (c14 : Bool) : Option (Int ⊕ Int) :=
  rule_CheckRules_j6 n2 v3 c14

noncomputable def rule_CheckRules_j5 (n2 : Int) (v3 : Rule) (c12 : Bool) : Option (Int ⊕ Int) :=
  if c12 = true then
    rule_CheckRules_j6 n2 v3 c12
  else
    rule_CheckRules_j7 n2 v3 ((!v3.Above) && (decide (v3.Off < v3.On)))

noncomputable def rule_CheckRules_j1 (n2 : Int) (v3 : Rule) (c6 : Bool) : Option (Int ⊕ Int) :=
  if c6 = true then
    Option.map .inr (some (7 : Int))
  else
    (base_Key v3.Metric).bind fun v8 =>
    if (!v8) = true then
      Option.map .inr (some (5 : Int))
    else
      if (base_Out v3.Agg (1 : Int) (6 : Int)) = true then
        Option.map .inr (some (4 : Int))
      else
        if (base_Out v3.Long (1 : Int) (2592000000 : Int)) = true then
          rule_CheckRules_j2 n2 v3 (base_Out v3.Long (1 : Int) (2592000000 : Int))
        else
          if (!(rule_CheckRules_1x v3.On)) = true then
            rule_CheckRules_j3 n2 v3 (!(rule_CheckRules_1x v3.On))
          else
            if (!(rule_CheckRules_1x v3.Off)) = true then
              rule_CheckRules_j4 n2 v3 (!(rule_CheckRules_1x v3.Off))
            else
              rule_CheckRules_j5 n2 v3 (v3.Above && (decide (v3.On < v3.Off)))

noncomputable def rule_CheckRules_b1 (p0x0 : List Rule) (n2 : Int) : Option (Int ⊕ Int) :=
  if n2 < (p0x0.length : Int) then
    (idx p0x0 n2).bind fun v3 =>
    (base_Key v3.Key).bind fun v5 =>
    if (!v5) = true then
      Option.map .inr (some (5 : Int))
    else
      if (0 : Int) < n2 then
        (idx p0x0 (w64 (n2 - (1 : Int)))).bind fun v7 =>
        rule_CheckRules_j1 n2 v3 (Op.bytesLess v3.Key v7.Key || v3.Key == v7.Key)
      else
        rule_CheckRules_j1 n2 v3 false
  else
    Option.map .inr (some (0 : Int))

noncomputable def rule_CheckRules_l1 (p0x0 : List Rule) (n2 : Int) : Option Int :=
  iter (fun x : Int => rule_CheckRules_b1 p0x0 x) n2

noncomputable def rule_CheckRules (p0x0 : List Rule) : Option Int :=
  if (100 : Int) < (p0x0.length : Int) then
    some (2 : Int)
  else
    rule_CheckRules_l1 p0x0 (0 : Int)

noncomputable def rule_aggregates : (List Str) :=
  [([108, 97, 115, 116] : Str), ([109, 105, 110] : Str), ([109, 97, 120] : Str), ([109, 101, 97, 110] : Str), ([99, 111, 117, 110, 116] : Str), ([99, 104, 97, 110, 103, 101] : Str)]

noncomputable def rule_side (p0x0 : Bool) : Str :=
  if p0x0 = true then
    ([97, 98, 111, 118, 101] : Str)
  else
    ([98, 101, 108, 111, 119] : Str)

noncomputable def rule_empties : (List Str) :=
  [([107, 101, 101, 112] : Str), ([111, 102, 102] : Str), ([111, 110] : Str)]

noncomputable def strings_Join_b2 (p1x0 : Str) (l15 : List Str) (q19 : Str) (n21 : Int) : Option ((Str × Int) ⊕ Str) :=
  if n21 < (l15.length : Int) then
    (idx l15 n21).bind fun v22 =>
    (bldW q19 p1x0).bind fun q23 =>
    (bldW q23 v22).bind fun q25 =>
    some (.inl (q25, w64 (n21 + (1 : Int))))
  else
    Option.map .inr (some q19)

noncomputable def strings_Join_l2 (p1x0 : Str) (l15 : List Str) (q19 : Str) (n21 : Int) : Option Str :=
  iter (fun x : Str × Int => strings_Join_b2 p1x0 l15 x.1 x.2) (q19, n21)

noncomputable def strings_Join_k2 (p0x0 : List Str) (p1x0 : Str) (n6 : Int) : Option Str :=
  (bldG n6).bind fun v10 =>
  (idx p0x0 (0 : Int)).bind fun v12 =>
  (bldW ([] : Str) v12).bind fun q13 =>
  (slc p0x0 (1 : Int) (p0x0.length : Int)).bind fun l15 =>
  strings_Join_l2 p1x0 l15 q13 (0 : Int)

noncomputable def strings_Join_b1 (p0x0 : List Str) (p1x0 : Str) (n6 : Int) (n7 : Int) : Option ((Int × Int) ⊕ Str) :=
  if n7 < (p0x0.length : Int) then
    (idx p0x0 n7).bind fun v8 =>
    if (w64 ((9223372036854775807 : Int) - n6)) < (v8.length : Int) then
      none
    else
      some (.inl (w64 (n6 + (v8.length : Int)), w64 (n7 + (1 : Int))))
  else
    Option.map .inr (strings_Join_k2 p0x0 p1x0 n6)

noncomputable def strings_Join_l1 (p0x0 : List Str) (p1x0 : Str) (n6 : Int) (n7 : Int) : Option Str :=
  iter (fun x : Int × Int => strings_Join_b1 p0x0 p1x0 x.1 x.2) (n6, n7)

noncomputable def strings_Join_j1 (p0x0 : List Str) (p1x0 : Str) (n2 : Int) : Option Str :=
  strings_Join_l1 p0x0 p1x0 n2 (0 : Int)

noncomputable def strings_Join (p0x0 : List Str) (p1x0 : Str) : Option Str :=
  if (p0x0.length : Int) = (0 : Int) then
    some ([] : Str)
  else
    if (p0x0.length : Int) = (1 : Int) then
      (idx p0x0 (0 : Int)).bind fun v1 =>
      some v1
    else
      if (0 : Int) < (p1x0.length : Int) then
        (quo (9223372036854775807 : Int) (w64 ((p0x0.length : Int) - (1 : Int)))).bind fun n3 =>
        if n3 ≤ (p1x0.length : Int) then
          none
        else
          strings_Join_j1 p0x0 p1x0 (w64 ((0 : Int) + (w64 ((p1x0.length : Int) * (w64 ((p0x0.length : Int) - (1 : Int)))))))
      else
        strings_Join_j1 p0x0 p1x0 (0 : Int)

noncomputable def rule_Text_b1 (p0x0 : List Rule) (q6 : Str) (n8 : Int) : Option ((Str × Int) ⊕ (Str × Int)) :=
  if n8 < (p0x0.length : Int) then
    (idx p0x0 n8).bind fun v9 =>
    (idx rule_aggregates (w64 (v9.Agg - (1 : Int)))).bind fun v11 =>
    (itoaO v9.Long).bind fun v12 =>
    (itoaO v9.On).bind fun v13 =>
    (itoaO v9.Off).bind fun v14 =>
    (itoaO v9.Hold).bind fun v15 =>
    (itoaO v9.Rest).bind fun v16 =>
    (idx rule_empties v9.Empty).bind fun v17 =>
    (strings_Join [v9.Key, v9.Metric, v11, v12, (rule_side v9.Above), v13, v14, v15, v16, v17] ([32] : Str)).bind fun v18 =>
    (catO v18 ([10] : Str)).bind fun q19 =>
    (bldW q6 q19).bind fun q20 =>
    some (.inl (q20, w64 (n8 + (1 : Int))))
  else
    Option.map .inr (some (q6, (0 : Int)))

noncomputable def rule_Text_l1 (p0x0 : List Rule) (q6 : Str) (n8 : Int) : Option (Str × Int) :=
  iter (fun x : Str × Int => rule_Text_b1 p0x0 x.1 x.2) (q6, n8)

noncomputable def rule_Text (p0x0 : List Rule) : Option (Str × Int) :=
  (rule_CheckRules p0x0).bind fun v1 =>
  if v1 ≠ (0 : Int) then
    some (([] : Str), v1)
  else
    rule_Text_l1 p0x0 [] (0 : Int)

noncomputable def Q_in_j1 (c1 : Bool) : Bool :=
  c1

noncomputable def Q_in (p0x0 : Int) (p1x0 : Int) (p2x0 : Int) : Bool :=
  Q_in_j1 ((decide (p1x0 ≤ p0x0)) && (decide (p0x0 ≤ p2x0)))

noncomputable def Q_Key_j1 (c1 : Bool) : Option Bool :=
  some c1

noncomputable def Q_Key (p0x0 : Str) : Option Bool :=
  if (Q_in (p0x0.length : Int) (1 : Int) (40 : Int)) = true then
    (trimO p0x0 ([97, 98, 99, 100, 101, 102, 103, 104, 105, 106, 107, 108, 109, 110, 111, 112, 113, 114, 115, 116, 117, 118, 119, 120, 121, 122, 48, 49, 50, 51, 52, 53, 54, 55, 56, 57, 45, 95] : Str)).bind fun v2 =>
    if v2 = ([] : Str) then
      (idx p0x0 (0 : Int)).bind fun c3 =>
      Q_Key_j1 (decide ((0 : Int) ≤ (indexByteI ([97, 98, 99, 100, 101, 102, 103, 104, 105, 106, 107, 108, 109, 110, 111, 112, 113, 114, 115, 116, 117, 118, 119, 120, 121, 122] : Str) (c3.toNat : Int))))
    else
      Q_Key_j1 false
  else
    Q_Key_j1 false

noncomputable def Q_RulesFault_1x (p0x0 : Int) : Bool :=
  (Q_in p0x0 (-1000000000 : Int) (1000000000 : Int))

noncomputable def Q_RulesFault_j2 (n2 : Int) (v3 : Rule) (c9 : Bool) : Option (Int ⊕ Int) :=
  if c9 = true then
    Option.map .inr (some (1 : Int))
  else
    if (!(Q_in v3.Empty (0 : Int) (2 : Int))) = true then
      Option.map .inr (some (4 : Int))
    else
      some (.inl (w64 (n2 + (1 : Int))))

noncomputable def Q_RulesFault_j1 (n2 : Int) (v3 : Rule) (c6 : Bool) : Option (Int ⊕ Int) :=
  if c6 = true then
    Option.map .inr (some (7 : Int))
  else
    (Q_Key v3.Metric).bind fun v8 =>
    if (!v8) = true then
      Option.map .inr (some (5 : Int))
    else
      if (!(Q_in v3.Agg (1 : Int) (6 : Int))) = true then
        Option.map .inr (some (4 : Int))
      else
        Q_RulesFault_j2 n2 v3 ((!(Q_in v3.Long (1 : Int) (2592000000 : Int))) || ((!(Q_RulesFault_1x v3.On)) || ((!(Q_RulesFault_1x v3.Off)) || (if v3.Above = true then (decide (v3.On < v3.Off)) || (if (!v3.Above) = true then (decide (v3.Off < v3.On)) || ((!(Q_in v3.Hold (0 : Int) (2592000000 : Int))) || (!(Q_in v3.Rest (0 : Int) (2592000000 : Int)))) else (!(Q_in v3.Hold (0 : Int) (2592000000 : Int))) || (!(Q_in v3.Rest (0 : Int) (2592000000 : Int)))) else if (!v3.Above) = true then (decide (v3.Off < v3.On)) || ((!(Q_in v3.Hold (0 : Int) (2592000000 : Int))) || (!(Q_in v3.Rest (0 : Int) (2592000000 : Int)))) else (!(Q_in v3.Hold (0 : Int) (2592000000 : Int))) || (!(Q_in v3.Rest (0 : Int) (2592000000 : Int)))))))

noncomputable def Q_RulesFault_b1 (p0x0 : List Rule) (n2 : Int) : Option (Int ⊕ Int) :=
  if n2 < (p0x0.length : Int) then
    (idx p0x0 n2).bind fun v3 =>
    (Q_Key v3.Key).bind fun v5 =>
    if (!v5) = true then
      Option.map .inr (some (5 : Int))
    else
      if (0 : Int) < n2 then
        (idx p0x0 (w64 (n2 - (1 : Int)))).bind fun v7 =>
        Q_RulesFault_j1 n2 v3 (Op.bytesLess v3.Key v7.Key || v3.Key == v7.Key)
      else
        Q_RulesFault_j1 n2 v3 false
  else
    Option.map .inr (some (0 : Int))

noncomputable def Q_RulesFault_l1 (p0x0 : List Rule) (n2 : Int) : Option Int :=
  iter (fun x : Int => Q_RulesFault_b1 p0x0 x) n2

noncomputable def Q_RulesFault (p0x0 : List Rule) : Option Int :=
  if (100 : Int) < (p0x0.length : Int) then
    some (2 : Int)
  else
    Q_RulesFault_l1 p0x0 (0 : Int)

noncomputable def Q_aggs : (List Str) :=
  [([] : Str), ([108, 97, 115, 116] : Str), ([109, 105, 110] : Str), ([109, 97, 120] : Str), ([109, 101, 97, 110] : Str), ([99, 111, 117, 110, 116] : Str), ([99, 104, 97, 110, 103, 101] : Str)]

noncomputable def Q_empties : (List Str) :=
  [([107, 101, 101, 112] : Str), ([111, 102, 102] : Str), ([111, 110] : Str)]

noncomputable def Q_RuleLines_b1 (p0x0 : List Rule) (q5 : Str) (n7 : Int) : Option ((Str × Int) ⊕ Str) :=
  if n7 < (p0x0.length : Int) then
    (idx p0x0 n7).bind fun v8 =>
    (idx Q_aggs v8.Agg).bind fun v10 =>
    (itoaO v8.Long).bind fun v11 =>
    (mgetO ([(true, ([97, 98, 111, 118, 101] : Str)), (false, ([98, 101, 108, 111, 119] : Str))] : List (Bool × Str)) v8.Above []).bind fun v12 =>
    (itoaO v8.On).bind fun v13 =>
    (itoaO v8.Off).bind fun v14 =>
    (itoaO v8.Hold).bind fun v15 =>
    (itoaO v8.Rest).bind fun v16 =>
    (idx Q_empties v8.Empty).bind fun v17 =>
    (strings_Join [v8.Key, v8.Metric, v10, v11, v12, v13, v14, v15, v16, v17] ([32] : Str)).bind fun v19 =>
    (catO v19 ([10] : Str)).bind fun q20 =>
    (bldW q5 q20).bind fun q21 =>
    some (.inl (q21, w64 (n7 + (1 : Int))))
  else
    Option.map .inr (some q5)

noncomputable def Q_RuleLines_l1 (p0x0 : List Rule) (q5 : Str) (n7 : Int) : Option Str :=
  iter (fun x : Str × Int => Q_RuleLines_b1 p0x0 x.1 x.2) (q5, n7)

noncomputable def Q_RuleLines (p0x0 : List Rule) : Option Str :=
  Q_RuleLines_l1 p0x0 [] (0 : Int)

noncomputable def Stream_Changed_j1 (p0x0 : Fleetmake_Stream) (p1x0 : Str) (p2x0 : Str) (c1 : Bool) : Option (Str × Fleetmake_Stream) :=
  if c1 = true then
    some (p2x0, p0x0)
  else
    (Stream_Next p0x0 (p1x0.length : Int)).bind fun v2 =>
    (Stream_Next v2.2 (p2x0.length : Int)).bind fun v3 =>
    (idx p2x0 v3.1).bind fun c4 =>
    (Stream_Next v3.2 (3 : Int)).bind fun v5 =>
    if v5.1 = (0 : Int) then
      (slc p1x0 (0 : Int) v2.1).bind fun l6 =>
      (catO l6 (strR (IntKind.i32.wrap ((c4.toNat : Int))))).bind fun q7 =>
      (slc p1x0 (w64 (v2.1 + (1 : Int))) (p1x0.length : Int)).bind fun l8 =>
      (catO q7 l8).bind fun q9 =>
      some (q9, v5.2)
    else
      if v5.1 = (1 : Int) then
        (slc p1x0 (0 : Int) v2.1).bind fun l10 =>
        (catO l10 (strR (IntKind.i32.wrap ((c4.toNat : Int))))).bind fun q11 =>
        (slc p1x0 v2.1 (p1x0.length : Int)).bind fun l12 =>
        (catO q11 l12).bind fun q13 =>
        some (q13, v5.2)
      else
        (slc p1x0 (0 : Int) v2.1).bind fun l14 =>
        (slc p1x0 (w64 (v2.1 + (1 : Int))) (p1x0.length : Int)).bind fun l15 =>
        (catO l14 l15).bind fun q16 =>
        some (q16, v5.2)

noncomputable def Stream_Changed (p0x0 : Fleetmake_Stream) (p1x0 : Str) (p2x0 : Str) : Option (Str × Fleetmake_Stream) :=
  Stream_Changed_j1 p0x0 p1x0 p2x0 ((decide (p1x0 = ([] : Str))) || (decide (p2x0 = ([] : Str))))

noncomputable def Stream_RuleString_b1 (v6 : Int × Fleetmake_Stream) (l11 : List Int) (n12 : Int) (q13 : Str) (n14 : Int) : Option (((List Int) × Int × Str × Int) ⊕ (Str × Fleetmake_Stream)) :=
  if n14 < v6.1 then
    (Stream_Changed (⟨l11, n12⟩ : Fleetmake_Stream) q13 ([32, 10, 48, 49, 45, 97, 98, 111] : Str)).bind fun v15 =>
    some (.inl (v15.2.L, v15.2.at_, v15.1, w64 (n14 + (1 : Int))))
  else
    Option.map .inr (some (q13, (⟨l11, n12⟩ : Fleetmake_Stream)))

noncomputable def Stream_RuleString_l1 (v6 : Int × Fleetmake_Stream) (l11 : List Int) (n12 : Int) (q13 : Str) (n14 : Int) : Option (Str × Fleetmake_Stream) :=
  iter (fun x : (List Int) × Int × Str × Int => Stream_RuleString_b1 v6 x.1 x.2.1 x.2.2.1 x.2.2.2) (l11, n12, q13, n14)

noncomputable def Stream_RuleString_j1 (v1 : (List Rule) × Fleetmake_Stream) (q4 : Str) : Option (Str × Fleetmake_Stream) :=
  (Stream_Pick v1.2 [(0 : Int), (0 : Int), (1 : Int), (2 : Int)]).bind fun v6 =>
  Stream_RuleString_l1 v6 v6.2.L v6.2.at_ q4 (0 : Int)

noncomputable def Stream_RuleString (p0x0 : Fleetmake_Stream) : Option (Str × Fleetmake_Stream) :=
  (Stream_Rules p0x0).bind fun v1 =>
  (Q_RulesFault v1.1).bind fun v3 =>
  if v3 = (0 : Int) then
    (Q_RuleLines v1.1).bind fun v5 =>
    Stream_RuleString_j1 v1 v5
  else
    Stream_RuleString_j1 v1 ([114, 97, 32, 116, 32, 108, 97, 115, 116, 32, 49, 48, 48, 32, 97, 98, 111, 118, 101, 32, 53, 32, 51, 32, 49, 48, 32, 48, 32, 107, 101, 101, 112, 10] : Str)

noncomputable def base_Words_b1 (v1 : (List Str)) (n5 : Int) : Option (Int ⊕ ((List Str) × Bool)) :=
  if n5 < (v1.length : Int) then
    (idx v1 n5).bind fun v6 =>
    if v6 = ([] : Str) then
      Option.map .inr (some ([], false))
    else
      some (.inl (w64 (n5 + (1 : Int))))
  else
    Option.map .inr (some (v1, true))

noncomputable def base_Words_l1 (v1 : (List Str)) (n5 : Int) : Option ((List Str) × Bool) :=
  iter (fun x : Int => base_Words_b1 v1 x) n5

noncomputable def base_Words (p0x0 : Str) (p1x0 : Int) : Option ((List Str) × Bool) :=
  (splitO p0x0 ([32] : Str)).bind fun v1 =>
  if (v1.length : Int) ≠ p1x0 then
    some ([], false)
  else
    base_Words_l1 v1 (0 : Int)

noncomputable def slices_Index_string_string_b1 (p0x0 : List Str) (p1x0 : Str) (n2 : Int) : Option (Int ⊕ Int) :=
  if n2 < (p0x0.length : Int) then
    (idx p0x0 n2).bind fun v3 =>
    if p1x0 = v3 then
      Option.map .inr (some n2)
    else
      some (.inl (w64 (n2 + (1 : Int))))
  else
    Option.map .inr (some (-1 : Int))

noncomputable def slices_Index_string_string_l1 (p0x0 : List Str) (p1x0 : Str) (n2 : Int) : Option Int :=
  iter (fun x : Int => slices_Index_string_string_b1 p0x0 p1x0 x) n2

noncomputable def slices_Index_string_string (p0x0 : List Str) (p1x0 : Str) : Option Int :=
  slices_Index_string_string_l1 p0x0 p1x0 (0 : Int)

noncomputable def base_Number_j2 (n4 : Int) (c5 : Bool) : Option (Int ⊕ (Int × Bool)) :=
  if c5 = true then
    Option.map .inr (some ((0 : Int), false))
  else
    some (.inl (w64 (n4 + (1 : Int))))

noncomputable def base_Number_k3 (p0x0 : Str) : Option (Int × Bool) :=
  (atoiO p0x0).bind fun v8 =>
  some (v8.1, v8.2)

noncomputable def base_Number_b1 (p0x0 : Str) (n4 : Int) : Option (Int ⊕ (Int × Bool)) :=
  if n4 < ((Lib.trimPrefix p0x0 ([45] : Str)).length : Int) then
    (idx (Lib.trimPrefix p0x0 ([45] : Str)) n4).bind fun c6 =>
    if (c6.toNat : Int) < (48 : Int) then
      base_Number_j2 n4 true
    else
      (idx (Lib.trimPrefix p0x0 ([45] : Str)) n4).bind fun c7 =>
      base_Number_j2 n4 (decide ((57 : Int) < (c7.toNat : Int)))
  else
    Option.map .inr (base_Number_k3 p0x0)

noncomputable def base_Number_l1 (p0x0 : Str) (n4 : Int) : Option (Int × Bool) :=
  iter (fun x : Int => base_Number_b1 p0x0 x) n4

noncomputable def base_Number_j1 (p0x0 : Str) (c1 : Bool) : Option (Int × Bool) :=
  if c1 = true then
    some ((0 : Int), false)
  else
    base_Number_l1 p0x0 (0 : Int)

noncomputable def base_Number (p0x0 : Str) (p1x0 : Int) : Option (Int × Bool) :=
  if (Lib.trimPrefix p0x0 ([45] : Str)) = ([] : Str) then
    base_Number_j1 p0x0 true
  else
    if p1x0 < ((Lib.trimPrefix p0x0 ([45] : Str)).length : Int) then
      base_Number_j1 p0x0 true
    else
      (idx (Lib.trimPrefix p0x0 ([45] : Str)) (0 : Int)).bind fun c2 =>
      base_Number_j1 p0x0 ((decide ((c2.toNat : Int) = (48 : Int))) && ((decide ((1 : Int) < ((Lib.trimPrefix p0x0 ([45] : Str)).length : Int))) || (decide (((Lib.trimPrefix p0x0 ([45] : Str)).length : Int) < (p0x0.length : Int)))))

noncomputable def base_Numbers_b1 (p0x0 : List Str) (p1x0 : Int) (l5 : List Int) (n6 : Int) : Option (((List Int) × Int) ⊕ ((List Int) × Bool)) :=
  if n6 < (p0x0.length : Int) then
    (idx p0x0 n6).bind fun v8 =>
    (base_Number v8 p1x0).bind fun v9 =>
    if (!v9.2) = true then
      Option.map .inr (some ([], false))
    else
      (app l5 [v9.1]).bind fun l11 =>
      some (.inl (l11, w64 (n6 + (1 : Int))))
  else
    Option.map .inr (some (l5, true))

noncomputable def base_Numbers_l1 (p0x0 : List Str) (p1x0 : Int) (l5 : List Int) (n6 : Int) : Option ((List Int) × Bool) :=
  iter (fun x : (List Int) × Int => base_Numbers_b1 p0x0 p1x0 x.1 x.2) (l5, n6)

noncomputable def base_Numbers (p0x0 : List Str) (p1x0 : Int) : Option ((List Int) × Bool) :=
  base_Numbers_l1 p0x0 p1x0 [] (0 : Int)

noncomputable def rule_readRule_j1 (v2 : (List Str) × Bool) (v5 : Int) (v7 : Int) (v13 : (List Int) × Bool) (c18 : Bool) : Option (Rule × Bool) :=
  if c18 = true then
    some ((⟨[], [], (0 : Int), (0 : Int), false, (0 : Int), (0 : Int), (0 : Int), (0 : Int), (0 : Int)⟩ : Rule), false)
  else
    (idx v2.1 (0 : Int)).bind fun v21 =>
    (idx v2.1 (1 : Int)).bind fun v22 =>
    (idx v13.1 (0 : Int)).bind fun v23 =>
    (idx v2.1 (4 : Int)).bind fun v24 =>
    (idx v13.1 (1 : Int)).bind fun v25 =>
    (idx v13.1 (2 : Int)).bind fun v26 =>
    (idx v13.1 (3 : Int)).bind fun v27 =>
    (idx v13.1 (4 : Int)).bind fun v28 =>
    some ((⟨v21, v22, w64 ((1 : Int) + v5), v23, decide (v24 = (rule_side true)), v25, v26, v27, v28, v7⟩ : Rule), true)

noncomputable def rule_readRule (p0x0 : Str) : Option (Rule × Bool) :=
  (base_Words p0x0 (10 : Int)).bind fun v2 =>
  if (!v2.2) = true then
    some ((⟨[], [], (0 : Int), (0 : Int), false, (0 : Int), (0 : Int), (0 : Int), (0 : Int), (0 : Int)⟩ : Rule), false)
  else
    (idx v2.1 (2 : Int)).bind fun v4 =>
    (slices_Index_string_string rule_aggregates v4).bind fun v5 =>
    (idx v2.1 (9 : Int)).bind fun v6 =>
    (slices_Index_string_string rule_empties v6).bind fun v7 =>
    (idx v2.1 (3 : Int)).bind fun v8 =>
    (idx v2.1 (5 : Int)).bind fun v9 =>
    (idx v2.1 (6 : Int)).bind fun v10 =>
    (idx v2.1 (7 : Int)).bind fun v11 =>
    (idx v2.1 (8 : Int)).bind fun v12 =>
    (base_Numbers [v8, v9, v10, v11, v12] (10 : Int)).bind fun v13 =>
    if (!v13.2) = true then
      rule_readRule_j1 v2 v5 v7 v13 true
    else
      if v5 < (0 : Int) then
        rule_readRule_j1 v2 v5 v7 v13 true
      else
        if v7 < (0 : Int) then
          rule_readRule_j1 v2 v5 v7 v13 true
        else
          (idx v2.1 (4 : Int)).bind fun v19 =>
          if v19 ≠ (rule_side true) then
            (idx v2.1 (4 : Int)).bind fun v20 =>
            rule_readRule_j1 v2 v5 v7 v13 (decide (v20 ≠ (rule_side false)))
          else
            rule_readRule_j1 v2 v5 v7 v13 false

noncomputable def rule_Read_1x (p0x0 : Str) (p1x0 : List Rule) : Option (Bool × (List Rule)) :=
  (rule_readRule p0x0).bind fun v1 =>
  (app p1x0 [v1.1]).bind fun l3 =>
  some (v1.2, l3)

noncomputable def internal_stringslite_HasSuffix_j1 (c1 : Bool) : Option Bool :=
  some c1

noncomputable def internal_stringslite_HasSuffix (p0x0 : Str) (p1x0 : Str) : Option Bool :=
  if (p1x0.length : Int) ≤ (p0x0.length : Int) then
    (slc p0x0 (w64 ((p0x0.length : Int) - (p1x0.length : Int))) (p0x0.length : Int)).bind fun l2 =>
    internal_stringslite_HasSuffix_j1 (decide (l2 = p1x0))
  else
    internal_stringslite_HasSuffix_j1 false

noncomputable def internal_stringslite_CutSuffix (p0x0 : Str) (p1x0 : Str) : Option (Str × Bool) :=
  (internal_stringslite_HasSuffix p0x0 p1x0).bind fun v1 =>
  if (!v1) = true then
    some (p0x0, false)
  else
    (slc p0x0 (0 : Int) (w64 ((p0x0.length : Int) - (p1x0.length : Int)))).bind fun l2 =>
    some (l2, true)

noncomputable def strings_CutSuffix (p0x0 : Str) (p1x0 : Str) : Option (Str × Bool) :=
  (internal_stringslite_CutSuffix p0x0 p1x0).bind fun v1 =>
  some (v1.1, v1.2)

noncomputable def base_Lines (p0x0 : Str) : Option ((List Str) × Bool) :=
  if p0x0 = ([] : Str) then
    some ([], true)
  else
    (strings_CutSuffix p0x0 ([10] : Str)).bind fun v2 =>
    (splitO v2.1 ([10] : Str)).bind fun v3 =>
    some (v3, v2.2)

noncomputable def base_Each_f1x_rule_Read_1x_j1 (n8 : Int) (l11 : List Rule) (c12 : Bool) : Option (((List Rule) × Int) ⊕ (Int × Bool × (List Rule))) :=
  if c12 = true then
    Option.map .inr (some (n8, false, l11))
  else
    some (.inl (l11, w64 (n8 + (1 : Int))))

noncomputable def base_Each_f1x_rule_Read_1x_b1 (v1 : (List Str) × Bool) (l7 : List Rule) (n8 : Int) : Option (((List Rule) × Int) ⊕ (Int × Bool × (List Rule))) :=
  if n8 < (v1.1.length : Int) then
    (idx v1.1 n8).bind fun v9 =>
    if (!v1.2) = true then
      if n8 = (w64 ((v1.1.length : Int) - (1 : Int))) then
        base_Each_f1x_rule_Read_1x_j1 n8 l7 true
      else
        (rule_Read_1x v9 l7).bind fun v13 =>
        base_Each_f1x_rule_Read_1x_j1 n8 v13.2 (!v13.1)
    else
      (rule_Read_1x v9 l7).bind fun v15 =>
      base_Each_f1x_rule_Read_1x_j1 n8 v15.2 (!v15.1)
  else
    Option.map .inr (some ((0 : Int), true, l7))

noncomputable def base_Each_f1x_rule_Read_1x_l1 (v1 : (List Str) × Bool) (l7 : List Rule) (n8 : Int) : Option (Int × Bool × (List Rule)) :=
  iter (fun x : (List Rule) × Int => base_Each_f1x_rule_Read_1x_b1 v1 x.1 x.2) (l7, n8)

noncomputable def base_Each_f1x_rule_Read_1x (p0x0 : Str) (p2x0 : List Rule) : Option (Int × Bool × (List Rule)) :=
  (base_Lines p0x0).bind fun v1 =>
  base_Each_f1x_rule_Read_1x_l1 v1 p2x0 (0 : Int)

noncomputable def rule_Read (p0x0 : Str) : Option ((List Rule) × Int × Int) :=
  if (200000 : Int) < (p0x0.length : Int) then
    some ([], (0 : Int), (2 : Int))
  else
    (base_Each_f1x_rule_Read_1x p0x0 []).bind fun v3 =>
    if (!v3.2.1) = true then
      some ([], v3.1, (9 : Int))
    else
      (rule_CheckRules v3.2.2).bind fun v7 =>
      if v7 ≠ (0 : Int) then
        some ([], (0 : Int), v7)
      else
        some (v3.2.2, (0 : Int), (0 : Int))

noncomputable def slices_Contains_string_string (p0x0 : List Str) (p1x0 : Str) : Option Bool :=
  (slices_Index_string_string p0x0 p1x0).bind fun v1 =>
  some (decide ((0 : Int) ≤ v1))

noncomputable def Q_Number_j2 (v3 : Int × Bool) (c5 : Bool) : Option (Int × Bool) :=
  some (v3.1, c5)

noncomputable def Q_Number_j1 (p0x0 : Str) (c1 : Bool) : Option (Int × Bool) :=
  if c1 = true then
    some ((0 : Int), false)
  else
    (atoiO p0x0).bind fun v3 =>
    if v3.2 = true then
      (itoaO v3.1).bind fun v6 =>
      Q_Number_j2 v3 (decide (v6 = p0x0))
    else
      Q_Number_j2 v3 false

noncomputable def Q_Number (p0x0 : Str) (p1x0 : Int) : Option (Int × Bool) :=
  if (Lib.trimPrefix p0x0 ([45] : Str)) = ([] : Str) then
    Q_Number_j1 p0x0 true
  else
    if p1x0 < ((Lib.trimPrefix p0x0 ([45] : Str)).length : Int) then
      Q_Number_j1 p0x0 true
    else
      (trimO (Lib.trimPrefix p0x0 ([45] : Str)) ([48, 49, 50, 51, 52, 53, 54, 55, 56, 57] : Str)).bind fun v2 =>
      Q_Number_j1 p0x0 (decide (v2 ≠ ([] : Str)))

noncomputable def Q_RulesRead_1x_j2 (l28 : List Rule) (c30 : Bool) : Option (Bool × (List Rule)) :=
  some (c30, l28)

noncomputable def Q_RulesRead_1x_k3 (p1x0 : List Rule) (v1 : (List Str)) (l10 : List Int) : Option (Bool × (List Rule)) :=
  (idx v1 (2 : Int)).bind fun v16 =>
  (slices_Index_string_string Q_aggs v16).bind fun v17 =>
  (idx v1 (9 : Int)).bind fun v18 =>
  (slices_Index_string_string Q_empties v18).bind fun v19 =>
  (idx v1 (0 : Int)).bind fun v20 =>
  (idx v1 (1 : Int)).bind fun v21 =>
  (idxA 5 l10 (0 : Int)).bind fun v22 =>
  (idx v1 (4 : Int)).bind fun v23 =>
  (idxA 5 l10 (1 : Int)).bind fun v24 =>
  (idxA 5 l10 (2 : Int)).bind fun v25 =>
  (idxA 5 l10 (3 : Int)).bind fun v26 =>
  (idxA 5 l10 (4 : Int)).bind fun v27 =>
  (app p1x0 [(⟨v20, v21, v17, v22, decide (v23 = ([97, 98, 111, 118, 101] : Str)), v24, v25, v26, v27, v19⟩ : Rule)]).bind fun l28 =>
  Q_RulesRead_1x_j2 l28 ((decide ((0 : Int) < v17)) && (decide ((0 : Int) ≤ v19)))

noncomputable def Q_RulesRead_1x_b1 (p1x0 : List Rule) (v1 : (List Str)) (l10 : List Int) (n11 : Int) : Option (((List Int) × Int) ⊕ (Bool × (List Rule))) :=
  if n11 < ([(3 : Int), (5 : Int), (6 : Int), (7 : Int), (8 : Int)].length : Int) then
    (idx [(3 : Int), (5 : Int), (6 : Int), (7 : Int), (8 : Int)] n11).bind fun v12 =>
    (idx v1 v12).bind fun v13 =>
    (Q_Number v13 (10 : Int)).bind fun v14 =>
    (idxA 5 l10 n11).bind fun v15 =>
    if (!v14.2) = true then
      Option.map .inr (some (false, p1x0))
    else
      some (.inl (l10.set n11.toNat v14.1, w64 (n11 + (1 : Int))))
  else
    Option.map .inr (Q_RulesRead_1x_k3 p1x0 v1 l10)

noncomputable def Q_RulesRead_1x_l1 (p1x0 : List Rule) (v1 : (List Str)) (l10 : List Int) (n11 : Int) : Option (Bool × (List Rule)) :=
  iter (fun x : (List Int) × Int => Q_RulesRead_1x_b1 p1x0 v1 x.1 x.2) (l10, n11)

noncomputable def Q_RulesRead_1x_j1 (p1x0 : List Rule) (v1 : (List Str)) (c3 : Bool) : Option (Bool × (List Rule)) :=
  if c3 = true then
    some (false, p1x0)
  else
    Q_RulesRead_1x_l1 p1x0 v1 ([(0 : Int), (0 : Int), (0 : Int), (0 : Int), (0 : Int)] : List Int) (0 : Int)

noncomputable def Q_RulesRead_1x (p0x0 : Str) (p1x0 : List Rule) : Option (Bool × (List Rule)) :=
  (splitO p0x0 ([32] : Str)).bind fun v1 =>
  if (v1.length : Int) ≠ (10 : Int) then
    Q_RulesRead_1x_j1 p1x0 v1 true
  else
    (slices_Contains_string_string v1 ([] : Str)).bind fun v4 =>
    if v4 = true then
      Q_RulesRead_1x_j1 p1x0 v1 true
    else
      (idx v1 (4 : Int)).bind fun v5 =>
      if v5 ≠ ([97, 98, 111, 118, 101] : Str) then
        (idx v1 (4 : Int)).bind fun v6 =>
        Q_RulesRead_1x_j1 p1x0 v1 (decide (v6 ≠ ([98, 101, 108, 111, 119] : Str)))
      else
        Q_RulesRead_1x_j1 p1x0 v1 false

noncomputable def Q_Lines_f1x_Q_RulesRead_1x_j1 (n8 : Int) (v9 : Str × Str × Bool) (l11 : List Rule) (c12 : Bool) : Option (((List Rule) × Str × Int) ⊕ (Int × Bool × (List Rule))) :=
  if c12 = true then
    Option.map .inr (some (n8, false, l11))
  else
    some (.inl (l11, v9.2.1, w64 (n8 + (1 : Int))))

noncomputable def Q_Lines_f1x_Q_RulesRead_1x_b1 (l6 : List Rule) (q7 : Str) (n8 : Int) : Option (((List Rule) × Str × Int) ⊕ (Int × Bool × (List Rule))) :=
  if q7 ≠ ([] : Str) then
    (cutO q7 ([10] : Str)).bind fun v9 =>
    if (!v9.2.2) = true then
      Q_Lines_f1x_Q_RulesRead_1x_j1 n8 v9 l6 true
    else
      (Q_RulesRead_1x v9.1 l6).bind fun v13 =>
      Q_Lines_f1x_Q_RulesRead_1x_j1 n8 v9 v13.2 (!v13.1)
  else
    Option.map .inr (some ((0 : Int), true, l6))

noncomputable def Q_Lines_f1x_Q_RulesRead_1x_l1 (l6 : List Rule) (q7 : Str) (n8 : Int) : Option (Int × Bool × (List Rule)) :=
  iter (fun x : (List Rule) × Str × Int => Q_Lines_f1x_Q_RulesRead_1x_b1 x.1 x.2.1 x.2.2) (l6, q7, n8)

noncomputable def Q_Lines_f1x_Q_RulesRead_1x (p0x0 : Str) (p2x0 : List Rule) : Option (Int × Bool × (List Rule)) :=
  Q_Lines_f1x_Q_RulesRead_1x_l1 p2x0 p0x0 (0 : Int)

noncomputable def Q_RulesRead (p0x0 : Str) : Option ((List Rule) × Int × Int) :=
  if (200000 : Int) < (p0x0.length : Int) then
    some ([], (0 : Int), (2 : Int))
  else
    (Q_Lines_f1x_Q_RulesRead_1x p0x0 []).bind fun v3 =>
    if (!v3.2.1) = true then
      some ([], v3.1, (9 : Int))
    else
      (Q_RulesFault v3.2.2).bind fun v7 =>
      if v7 ≠ (0 : Int) then
        some ([], (0 : Int), v7)
      else
        some (v3.2.2, (0 : Int), (0 : Int))

noncomputable def slices_Equal_Rule_Rule_b1 (p0x0 : List Rule) (p1x0 : List Rule) (n2 : Int) : Option (Int ⊕ Bool) :=
  if n2 < (p0x0.length : Int) then
    (idx p0x0 n2).bind fun v3 =>
    (idx p1x0 n2).bind fun v4 =>
    if v3 ≠ v4 then
      Option.map .inr (some false)
    else
      some (.inl (w64 (n2 + (1 : Int))))
  else
    Option.map .inr (some true)

noncomputable def slices_Equal_Rule_Rule_l1 (p0x0 : List Rule) (p1x0 : List Rule) (n2 : Int) : Option Bool :=
  iter (fun x : Int => slices_Equal_Rule_Rule_b1 p0x0 p1x0 x) n2

noncomputable def slices_Equal_Rule_Rule (p0x0 : List Rule) (p1x0 : List Rule) : Option Bool :=
  if (p0x0.length : Int) ≠ (p1x0.length : Int) then
    some false
  else
    slices_Equal_Rule_Rule_l1 p0x0 p1x0 (0 : Int)

noncomputable def base_Moment (p0x0 : Int) : Bool :=
  !(base_Out p0x0 (0 : Int) (345686399999 : Int))

noncomputable def rule_sampleFault_j1 (p0x0 : Sample) (c2 : Bool) : Option Int :=
  if c2 = true then
    some (5 : Int)
  else
    if (base_Out p0x0.Value (-1000000000 : Int) (1000000000 : Int)) = true then
      some (1 : Int)
    else
      some (0 : Int)

noncomputable def rule_sampleFault (p0x0 : Sample) : Option Int :=
  if (!(base_Moment p0x0.At)) = true then
    some (1 : Int)
  else
    (base_Key p0x0.Device).bind fun v3 =>
    if (!v3) = true then
      rule_sampleFault_j1 p0x0 true
    else
      (base_Key p0x0.Metric).bind fun v4 =>
      rule_sampleFault_j1 p0x0 (!v4)

noncomputable def cmp_isNaN_int (p0x0 : Int) : Bool :=
  decide (p0x0 ≠ p0x0)

noncomputable def cmp_Compare_int (p0x0 : Int) (p1x0 : Int) : Int :=
  if (cmp_isNaN_int p0x0) = true then
    if (cmp_isNaN_int p1x0) = true then
      (0 : Int)
    else
      (-1 : Int)
  else
    if (cmp_isNaN_int p1x0) = true then
      (1 : Int)
    else
      if p0x0 < p1x0 then
        (-1 : Int)
      else
        if p1x0 < p0x0 then
          (1 : Int)
        else
          (0 : Int)

noncomputable def cmp_Or_int_b1 (p0x0 : List Int) (n2 : Int) : Option (Int ⊕ Int) :=
  if n2 < (p0x0.length : Int) then
    (idx p0x0 n2).bind fun v3 =>
    if v3 ≠ (0 : Int) then
      Option.map .inr (some v3)
    else
      some (.inl (w64 (n2 + (1 : Int))))
  else
    Option.map .inr (some (0 : Int))

noncomputable def cmp_Or_int_l1 (p0x0 : List Int) (n2 : Int) : Option Int :=
  iter (fun x : Int => cmp_Or_int_b1 p0x0 x) n2

noncomputable def cmp_Or_int (p0x0 : List Int) : Option Int :=
  cmp_Or_int_l1 p0x0 (0 : Int)

noncomputable def rule_byMoment (p0x0 : Sample) (p1x0 : Sample) : Option Int :=
  (cmp_Or_int [(cmp_Compare_int p0x0.At p1x0.At), (Lib.compareBytes p0x0.Device p1x0.Device), (Lib.compareBytes p0x0.Metric p1x0.Metric)]).bind fun v3 =>
  some v3

noncomputable def rule_CheckSamples_j1 (n2 : Int) (c6 : Bool) : Option (Int ⊕ Int) :=
  if c6 = true then
    Option.map .inr (some (7 : Int))
  else
    some (.inl (w64 (n2 + (1 : Int))))

noncomputable def rule_CheckSamples_b1 (p0x0 : List Sample) (n2 : Int) : Option (Int ⊕ Int) :=
  if n2 < (p0x0.length : Int) then
    (idx p0x0 n2).bind fun v3 =>
    (rule_sampleFault v3).bind fun v5 =>
    if v5 ≠ (0 : Int) then
      Option.map .inr (some v5)
    else
      if (0 : Int) < n2 then
        (idx p0x0 (w64 (n2 - (1 : Int)))).bind fun v7 =>
        (rule_byMoment v3 v7).bind fun v8 =>
        rule_CheckSamples_j1 n2 (decide (v8 ≤ (0 : Int)))
      else
        rule_CheckSamples_j1 n2 false
  else
    Option.map .inr (some (0 : Int))

noncomputable def rule_CheckSamples_l1 (p0x0 : List Sample) (n2 : Int) : Option Int :=
  iter (fun x : Int => rule_CheckSamples_b1 p0x0 x) n2

noncomputable def rule_CheckSamples (p0x0 : List Sample) : Option Int :=
  if (5000 : Int) < (p0x0.length : Int) then
    some (2 : Int)
  else
    rule_CheckSamples_l1 p0x0 (0 : Int)

noncomputable def base_First_b1 (p0x0 : List Int) (n2 : Int) : Option (Int ⊕ Int) :=
  if n2 < (p0x0.length : Int) then
    (idx p0x0 n2).bind fun v3 =>
    if v3 ≠ (0 : Int) then
      Option.map .inr (some v3)
    else
      some (.inl (w64 (n2 + (1 : Int))))
  else
    Option.map .inr (some (0 : Int))

noncomputable def base_First_l1 (p0x0 : List Int) (n2 : Int) : Option Int :=
  iter (fun x : Int => base_First_b1 p0x0 x) n2

noncomputable def base_First (p0x0 : List Int) : Option Int :=
  base_First_l1 p0x0 (0 : Int)

noncomputable def base_Window_j1 (c2 : Bool) : Bool :=
  c2

noncomputable def base_Window (p0x0 : Window) : Bool :=
  base_Window_j1 ((!(base_Out p0x0.From (0 : Int) p0x0.To)) && (decide (p0x0.To ≤ (345686400000 : Int))))

noncomputable def rule_fault_j2 (n6 : Int) : Option Int :=
  some n6

noncomputable def rule_fault_j1 (v4 : Int) (c5 : Bool) : Option Int :=
  if c5 = true then
    rule_fault_j2 (1 : Int)
  else
    rule_fault_j2 v4

noncomputable def rule_fault (p0x0 : List Rule) (p1x0 : List Sample) (p2x0 : Window) : Option Int :=
  (rule_CheckRules p0x0).bind fun v2 =>
  (rule_CheckSamples p1x0).bind fun v3 =>
  (base_First [v2, v3]).bind fun v4 =>
  rule_fault_j1 v4 ((decide (v4 = (0 : Int))) && (!(base_Window p2x0)))

/-- Sorted by Go. -/
noncomputable def slices_Sort_string_string (p0x0 : List Str) : Option (List Str) :=
  sort1 srtS p0x0

noncomputable def slices_Compact_string_string_j1 (n11 : Int) (l14 : List Str) (n15 : Int) : Option (((List Str) × Int × Int) ⊕ (Int ⊕ (List Str))) :=
  some (.inl (l14, n15, w64 (n11 + (1 : Int))))

noncomputable def slices_Compact_string_string_k2 (l9 : List Str) (n10 : Int) : Option (Int ⊕ (List Str)) :=
  (slc l9 n10 (l9.length : Int)).bind fun l18 =>
  (slc (clr l9 n10 l18.length []) (0 : Int) n10).bind fun l19 =>
  Option.map .inr (some l19)

noncomputable def slices_Compact_string_string_b2 (n2 : Int) (l5 : List Str) (l9 : List Str) (n10 : Int) (n11 : Int) : Option (((List Str) × Int × Int) ⊕ (Int ⊕ (List Str))) :=
  if n11 < (l5.length : Int) then
    (idxS l9 n2 l5.length n11).bind fun v12 =>
    (idxS l9 n2 l5.length (w64 (n11 - (1 : Int)))).bind fun v13 =>
    if v12 ≠ v13 then
      (idxS l9 n2 l5.length n11).bind fun v16 =>
      (idx l9 n10).bind fun v17 =>
      slices_Compact_string_string_j1 n11 (l9.set n10.toNat v16) (w64 (n10 + (1 : Int)))
    else
      slices_Compact_string_string_j1 n11 l9 n10
  else
    Option.map .inr (slices_Compact_string_string_k2 l9 n10)

noncomputable def slices_Compact_string_string_l2 (n2 : Int) (l5 : List Str) (l9 : List Str) (n10 : Int) (n11 : Int) : Option (Int ⊕ (List Str)) :=
  iter (fun x : (List Str) × Int × Int => slices_Compact_string_string_b2 n2 l5 x.1 x.2.1 x.2.2) (l9, n10, n11)

noncomputable def slices_Compact_string_string_b1 (p0x0 : List Str) (n2 : Int) : Option (Int ⊕ (List Str)) :=
  if n2 < (p0x0.length : Int) then
    (idx p0x0 n2).bind fun v3 =>
    (idx p0x0 (w64 (n2 - (1 : Int)))).bind fun v4 =>
    if v3 = v4 then
      (slc p0x0 n2 (p0x0.length : Int)).bind fun l5 =>
      slices_Compact_string_string_l2 n2 l5 p0x0 n2 (1 : Int)
    else
      some (.inl (w64 (n2 + (1 : Int))))
  else
    Option.map .inr (some p0x0)

noncomputable def slices_Compact_string_string_l1 (p0x0 : List Str) (n2 : Int) : Option (List Str) :=
  iter (fun x : Int => slices_Compact_string_string_b1 p0x0 x) n2

noncomputable def slices_Compact_string_string (p0x0 : List Str) : Option (List Str) :=
  if (p0x0.length : Int) < (2 : Int) then
    some p0x0
  else
    slices_Compact_string_string_l1 p0x0 (1 : Int)

noncomputable def rule_devices_j1 (n6 : Int) (l11 : List Str) : Option (((List Str) × Int) ⊕ (List Str)) :=
  some (.inl (l11, w64 (n6 + (1 : Int))))

noncomputable def rule_devices_k2 (l5 : List Str) : Option (List Str) :=
  (lenOk l5.length (fun r : (List Str) => r.length) (slices_Sort_string_string l5)).bind fun v14 =>
  (slices_Compact_string_string v14).bind fun v15 =>
  some v15

noncomputable def rule_devices_b1 (p0x0 : List Sample) (p1x0 : Str) (l5 : List Str) (n6 : Int) : Option (((List Str) × Int) ⊕ (List Str)) :=
  if n6 < (p0x0.length : Int) then
    (idx p0x0 n6).bind fun v8 =>
    if v8.Metric = p1x0 then
      (app l5 [v8.Device]).bind fun l12 =>
      rule_devices_j1 n6 l12
    else
      rule_devices_j1 n6 l5
  else
    Option.map .inr (rule_devices_k2 l5)

noncomputable def rule_devices_l1 (p0x0 : List Sample) (p1x0 : Str) (l5 : List Str) (n6 : Int) : Option (List Str) :=
  iter (fun x : (List Str) × Int => rule_devices_b1 p0x0 p1x0 x.1 x.2) (l5, n6)

noncomputable def rule_devices (p0x0 : List Sample) (p1x0 : Str) : Option (List Str) :=
  rule_devices_l1 p0x0 p1x0 [] (0 : Int)

noncomputable def rule_track_now_j8 (n18 : Int) (n19 : Int) (n20 : Int) : Option Int :=
  if n19 ≤ n18 then
    some (1 : Int)
  else
    if n18 < n20 then
      some (2 : Int)
    else
      some (0 : Int)

noncomputable def rule_track_now_j2 (p0x0 : Rule_track) (n3 : Int) (n4 : Int) : Option Int :=
  if (!p0x0.rule_.Above) = true then
    rule_track_now_j8 (w64 (-n3)) (w64 (-(w64 (p0x0.rule_.On * n4)))) (w64 (-(w64 (p0x0.rule_.Off * n4))))
  else
    rule_track_now_j8 n3 (w64 (p0x0.rule_.On * n4)) (w64 (p0x0.rule_.Off * n4))

noncomputable def rule_track_now_j3 (p0x0 : Rule_track) (n6 : Int) (n7 : Int) : Option Int :=
  rule_track_now_j2 p0x0 n6 n7

noncomputable def rule_track_now_j4 (p0x0 : Rule_track) (n9 : Int) (n10 : Int) : Option Int :=
  rule_track_now_j3 p0x0 n9 n10

noncomputable def rule_track_now_j5 (p0x0 : Rule_track) (n12 : Int) (n13 : Int) : Option Int :=
  rule_track_now_j4 p0x0 n12 n13

noncomputable def rule_track_now_j6 (p0x0 : Rule_track) (n14 : Int) : Option Int :=
  rule_track_now_j5 p0x0 n14 (1 : Int)

noncomputable def rule_track_now_j7 (p0x0 : Rule_track) (n15 : Int) : Option Int :=
  rule_track_now_j6 p0x0 n15

noncomputable def rule_track_now_j1 (p0x0 : Rule_track) (c1 : Bool) : Option Int :=
  if c1 = true then
    (idx [(0 : Int), (2 : Int), (1 : Int)] p0x0.rule_.Empty).bind fun v2 =>
    some v2
  else
    if p0x0.rule_.Agg = (1 : Int) then
      (idx p0x0.window_ (w64 ((p0x0.window_.length : Int) - (1 : Int)))).bind fun v5 =>
      rule_track_now_j2 p0x0 v5.value_ (1 : Int)
    else
      if p0x0.rule_.Agg = (2 : Int) then
        (idx p0x0.least_ (0 : Int)).bind fun v8 =>
        rule_track_now_j3 p0x0 v8.value_ (1 : Int)
      else
        if p0x0.rule_.Agg = (3 : Int) then
          (idx p0x0.most_ (0 : Int)).bind fun v11 =>
          rule_track_now_j4 p0x0 v11.value_ (1 : Int)
        else
          if p0x0.rule_.Agg = (4 : Int) then
            rule_track_now_j5 p0x0 p0x0.sum_ (p0x0.window_.length : Int)
          else
            if p0x0.rule_.Agg = (5 : Int) then
              rule_track_now_j6 p0x0 (p0x0.window_.length : Int)
            else
              if p0x0.rule_.Agg = (6 : Int) then
                (idx p0x0.window_ (w64 ((p0x0.window_.length : Int) - (1 : Int)))).bind fun v16 =>
                (idx p0x0.window_ (0 : Int)).bind fun v17 =>
                rule_track_now_j7 p0x0 (w64 (v16.value_ - v17.value_))
              else
                rule_track_now_j7 p0x0 (0 : Int)

noncomputable def rule_track_now (p0x0 : Rule_track) : Option Int :=
  rule_track_now_j1 p0x0 ((decide ((p0x0.window_.length : Int) = (0 : Int))) && (decide (p0x0.rule_.Agg ≠ (5 : Int))))

noncomputable def rule_newTrack (p0x0 : Rule) : Option Rule_track :=
  (rule_track_now (⟨p0x0, [], [], [], (0 : Int), (0 : Int), (0 : Int), false, (0 : Int)⟩ : Rule_track)).bind fun v2 =>
  some (⟨p0x0, [], [], [], (0 : Int), v2, (0 : Int), false, (0 : Int)⟩ : Rule_track)

noncomputable def rule_track_turn_j2 (p0x0 : Rule_track) (c2 : Bool) : Int :=
  if c2 = true then
    w64 (p0x0.since_ + p0x0.rule_.Rest)
  else
    (345686400000 : Int)

noncomputable def rule_track_turn_j1 (p0x0 : Rule_track) (c1 : Bool) : Int :=
  if c1 = true then
    w64 (p0x0.since_ + p0x0.rule_.Hold)
  else
    rule_track_turn_j2 p0x0 (p0x0.firing_ && (decide (p0x0.state_ = (2 : Int))))

noncomputable def rule_track_turn (p0x0 : Rule_track) : Int :=
  rule_track_turn_j1 p0x0 ((!p0x0.firing_) && (decide (p0x0.state_ = (1 : Int))))

noncomputable def rule_track_due_j1 (n1 : Int) : Option Int :=
  some n1

noncomputable def rule_track_due (p0x0 : Rule_track) : Option Int :=
  if (0 : Int) < (p0x0.window_.length : Int) then
    (idx p0x0.window_ (0 : Int)).bind fun v2 =>
    rule_track_due_j1 (min (min (rule_track_turn p0x0) (345686400000 : Int)) (w64 (v2.at_ + p0x0.rule_.Long)))
  else
    rule_track_due_j1 (min (rule_track_turn p0x0) (345686400000 : Int))

noncomputable def rule_track_drop_j3 (n14 : Int) (v17 : Rule_sample) (l19 : List Rule_sample) (l22 : List Rule_sample) (l27 : List Rule_sample) : Option (((List Rule_sample) × (List Rule_sample) × (List Rule_sample) × Int) ⊕ Rule_track) :=
  some (.inl (l19, l22, l27, w64 (n14 - v17.value_)))

noncomputable def rule_track_drop_j2 (l12 : List Rule_sample) (n14 : Int) (v17 : Rule_sample) (l19 : List Rule_sample) (l22 : List Rule_sample) : Option (((List Rule_sample) × (List Rule_sample) × (List Rule_sample) × Int) ⊕ Rule_track) :=
  (idx l12 (0 : Int)).bind fun v26 =>
  if v26 = v17 then
    (slc l12 (1 : Int) (l12.length : Int)).bind fun l29 =>
    rule_track_drop_j3 n14 v17 l19 l22 l29
  else
    rule_track_drop_j3 n14 v17 l19 l22 l12

noncomputable def rule_track_drop_j1 (p0x0 : Rule_track) (l8 : List Rule_sample) (l10 : List Rule_sample) (l12 : List Rule_sample) (n14 : Int) (c15 : Bool) : Option (((List Rule_sample) × (List Rule_sample) × (List Rule_sample) × Int) ⊕ Rule_track) :=
  if c15 = true then
    (idx l8 (0 : Int)).bind fun v17 =>
    (slc l8 (1 : Int) (l8.length : Int)).bind fun l19 =>
    (idx l10 (0 : Int)).bind fun v21 =>
    if v21 = v17 then
      (slc l10 (1 : Int) (l10.length : Int)).bind fun l24 =>
      rule_track_drop_j2 l12 n14 v17 l19 l24
    else
      rule_track_drop_j2 l12 n14 v17 l19 l10
  else
    Option.map .inr (some (⟨p0x0.rule_, l8, l10, l12, n14, p0x0.state_, p0x0.since_, p0x0.firing_, p0x0.began_⟩ : Rule_track))

noncomputable def rule_track_drop_b1 (p0x0 : Rule_track) (p1x0 : Int) (l8 : List Rule_sample) (l10 : List Rule_sample) (l12 : List Rule_sample) (n14 : Int) : Option (((List Rule_sample) × (List Rule_sample) × (List Rule_sample) × Int) ⊕ Rule_track) :=
  if (0 : Int) < (l8.length : Int) then
    (idx l8 (0 : Int)).bind fun v16 =>
    rule_track_drop_j1 p0x0 l8 l10 l12 n14 (decide ((w64 (v16.at_ + p0x0.rule_.Long)) ≤ p1x0))
  else
    rule_track_drop_j1 p0x0 l8 l10 l12 n14 false

noncomputable def rule_track_drop_l1 (p0x0 : Rule_track) (p1x0 : Int) (l8 : List Rule_sample) (l10 : List Rule_sample) (l12 : List Rule_sample) (n14 : Int) : Option Rule_track :=
  iter (fun x : (List Rule_sample) × (List Rule_sample) × (List Rule_sample) × Int => rule_track_drop_b1 p0x0 p1x0 x.1 x.2.1 x.2.2.1 x.2.2.2) (l8, l10, l12, n14)

noncomputable def rule_track_drop (p0x0 : Rule_track) (p1x0 : Int) : Option Rule_track :=
  rule_track_drop_l1 p0x0 p1x0 p0x0.window_ p0x0.least_ p0x0.most_ p0x0.sum_

noncomputable def rule_track_update_j1 (p0x0 : Rule_track) (n2 : Int) (n3 : Int) : Option Rule_track :=
  some (⟨p0x0.rule_, p0x0.window_, p0x0.least_, p0x0.most_, p0x0.sum_, n2, n3, p0x0.firing_, p0x0.began_⟩ : Rule_track)

noncomputable def rule_track_update (p0x0 : Rule_track) (p1x0 : Int) : Option Rule_track :=
  (rule_track_now p0x0).bind fun v1 =>
  if v1 ≠ p0x0.state_ then
    rule_track_update_j1 p0x0 v1 p1x0
  else
    rule_track_update_j1 p0x0 p0x0.state_ p0x0.since_

noncomputable def rule_spansOf_1x_j1 (l2 : List Rule_span) : Option (List Rule_span) :=
  some l2

noncomputable def rule_spansOf_1x (p0x0 : Int) (p1x0 : Bool) (p2x0 : List Rule_span) : Option (List Rule_span) :=
  if p1x0 = true then
    (app p2x0 [(⟨p0x0, (345686400000 : Int)⟩ : Rule_span)]).bind fun l3 =>
    rule_spansOf_1x_j1 l3
  else
    (idx p2x0 (w64 ((p2x0.length : Int) - (1 : Int)))).bind fun v5 =>
    rule_spansOf_1x_j1 (p2x0.set (w64 ((p2x0.length : Int) - (1 : Int))).toNat (⟨v5.from_, p0x0⟩ : Rule_span))

noncomputable def rule_track_advance_c0x9xrule_spansOf_1x_j1 (v41 : Rule_track) (c48 : Bool) (n49 : Int) (l51 : List Rule_span) : Option (((List Rule_sample) × (List Rule_sample) × (List Rule_sample) × Int × Int × Int × Bool × Int × (List Rule_span)) ⊕ (Rule_track × (List Rule_span))) :=
  some (.inl (v41.window_, v41.least_, v41.most_, v41.sum_, v41.state_, v41.since_, c48, n49, l51))

noncomputable def rule_track_advance_c0x9xrule_spansOf_1x_j2 (l32 : List Rule_span) (v33 : Int) (v41 : Rule_track) (n52 : Int) : Option (((List Rule_sample) × (List Rule_sample) × (List Rule_sample) × Int × Int × Int × Bool × Int × (List Rule_span)) ⊕ (Rule_track × (List Rule_span))) :=
  (rule_spansOf_1x v33 (!v41.firing_) l32).bind fun v53 =>
  rule_track_advance_c0x9xrule_spansOf_1x_j1 v41 (!v41.firing_) n52 v53

noncomputable def rule_track_advance_c0x9xrule_spansOf_1x_b1 (p0x0 : Rule_track) (p1x0 : Int) (l18 : List Rule_sample) (l21 : List Rule_sample) (l24 : List Rule_sample) (n26 : Int) (n27 : Int) (n28 : Int) (c29 : Bool) (n30 : Int) (l32 : List Rule_span) : Option (((List Rule_sample) × (List Rule_sample) × (List Rule_sample) × Int × Int × Int × Bool × Int × (List Rule_span)) ⊕ (Rule_track × (List Rule_span))) :=
  (rule_track_due (⟨p0x0.rule_, l18, l21, l24, n26, n27, n28, c29, n30⟩ : Rule_track)).bind fun v33 =>
  if (min p1x0 (345686400000 : Int)) ≤ v33 then
    Option.map .inr (some ((⟨p0x0.rule_, l18, l21, l24, n26, n27, n28, c29, n30⟩ : Rule_track), l32))
  else
    (rule_track_drop (⟨p0x0.rule_, l18, l21, l24, n26, n27, n28, c29, n30⟩ : Rule_track) v33).bind fun v34 =>
    (rule_track_update (⟨p0x0.rule_, v34.window_, v34.least_, v34.most_, v34.sum_, v34.state_, v34.since_, v34.firing_, v34.began_⟩ : Rule_track) v33).bind fun v41 =>
    if (rule_track_turn (⟨p0x0.rule_, v41.window_, v41.least_, v41.most_, v41.sum_, v41.state_, v41.since_, v41.firing_, v41.began_⟩ : Rule_track)) = v33 then
      if (!v41.firing_) = true then
        rule_track_advance_c0x9xrule_spansOf_1x_j2 l32 v33 v41 v33
      else
        rule_track_advance_c0x9xrule_spansOf_1x_j2 l32 v33 v41 v41.began_
    else
      rule_track_advance_c0x9xrule_spansOf_1x_j1 v41 v41.firing_ v41.began_ l32

noncomputable def rule_track_advance_c0x9xrule_spansOf_1x_l1 (p0x0 : Rule_track) (p1x0 : Int) (l18 : List Rule_sample) (l21 : List Rule_sample) (l24 : List Rule_sample) (n26 : Int) (n27 : Int) (n28 : Int) (c29 : Bool) (n30 : Int) (l32 : List Rule_span) : Option (Rule_track × (List Rule_span)) :=
  iter (fun x : (List Rule_sample) × (List Rule_sample) × (List Rule_sample) × Int × Int × Int × Bool × Int × (List Rule_span) => rule_track_advance_c0x9xrule_spansOf_1x_b1 p0x0 p1x0 x.1 x.2.1 x.2.2.1 x.2.2.2.1 x.2.2.2.2.1 x.2.2.2.2.2.1 x.2.2.2.2.2.2.1 x.2.2.2.2.2.2.2.1 x.2.2.2.2.2.2.2.2) (l18, l21, l24, n26, n27, n28, c29, n30, l32)

noncomputable def rule_track_advance_c0x9xrule_spansOf_1x (p0x0 : Rule_track) (p1x0 : Int) (p2x0 : List Rule_span) : Option (Rule_track × (List Rule_span)) :=
  rule_track_advance_c0x9xrule_spansOf_1x_l1 p0x0 p1x0 p0x0.window_ p0x0.least_ p0x0.most_ p0x0.sum_ p0x0.state_ p0x0.since_ p0x0.firing_ p0x0.began_ p2x0

noncomputable def rule_track_put_k3 (p0x0 : Rule_track) (p1x0 : Rule_sample) (v2 : Rule_track) (l9 : List Rule_sample) (l18 : List Rule_sample) (l22 : List Rule_sample) : Option Rule_track :=
  (app l22 [p1x0]).bind fun l27 =>
  (rule_track_update (⟨p0x0.rule_, l9, l18, l27, w64 (v2.sum_ + p1x0.value_), v2.state_, v2.since_, v2.firing_, v2.began_⟩ : Rule_track) p1x0.at_).bind fun v29 =>
  some (⟨p0x0.rule_, v29.window_, v29.least_, v29.most_, v29.sum_, v29.state_, v29.since_, v29.firing_, v29.began_⟩ : Rule_track)

noncomputable def rule_track_put_j2 (p0x0 : Rule_track) (p1x0 : Rule_sample) (v2 : Rule_track) (l9 : List Rule_sample) (l18 : List Rule_sample) (l22 : List Rule_sample) (n23 : Int) (c24 : Bool) : Option (((List Rule_sample) × Int) ⊕ Rule_track) :=
  if c24 = true then
    (slc l22 (0 : Int) (w64 (n23 - (1 : Int)))).bind fun l26 =>
    some (.inl (l26, w64 (n23 - (1 : Int))))
  else
    Option.map .inr (rule_track_put_k3 p0x0 p1x0 v2 l9 l18 l22)

noncomputable def rule_track_put_b2 (p0x0 : Rule_track) (p1x0 : Rule_sample) (v2 : Rule_track) (l9 : List Rule_sample) (l18 : List Rule_sample) (l22 : List Rule_sample) (n23 : Int) : Option (((List Rule_sample) × Int) ⊕ Rule_track) :=
  if (0 : Int) < n23 then
    (idx l22 (w64 (n23 - (1 : Int)))).bind fun v25 =>
    rule_track_put_j2 p0x0 p1x0 v2 l9 l18 l22 n23 (decide (v25.value_ ≤ p1x0.value_))
  else
    rule_track_put_j2 p0x0 p1x0 v2 l9 l18 l22 n23 false

noncomputable def rule_track_put_l2 (p0x0 : Rule_track) (p1x0 : Rule_sample) (v2 : Rule_track) (l9 : List Rule_sample) (l18 : List Rule_sample) (l22 : List Rule_sample) (n23 : Int) : Option Rule_track :=
  iter (fun x : (List Rule_sample) × Int => rule_track_put_b2 p0x0 p1x0 v2 l9 l18 x.1 x.2) (l22, n23)

noncomputable def rule_track_put_k4 (p0x0 : Rule_track) (p1x0 : Rule_sample) (v2 : Rule_track) (l9 : List Rule_sample) (l13 : List Rule_sample) : Option Rule_track :=
  (app l13 [p1x0]).bind fun l18 =>
  rule_track_put_l2 p0x0 p1x0 v2 l9 l18 v2.most_ (v2.most_.length : Int)

noncomputable def rule_track_put_j1 (p0x0 : Rule_track) (p1x0 : Rule_sample) (v2 : Rule_track) (l9 : List Rule_sample) (l13 : List Rule_sample) (n14 : Int) (c15 : Bool) : Option (((List Rule_sample) × Int) ⊕ Rule_track) :=
  if c15 = true then
    (slc l13 (0 : Int) (w64 (n14 - (1 : Int)))).bind fun l17 =>
    some (.inl (l17, w64 (n14 - (1 : Int))))
  else
    Option.map .inr (rule_track_put_k4 p0x0 p1x0 v2 l9 l13)

noncomputable def rule_track_put_b1 (p0x0 : Rule_track) (p1x0 : Rule_sample) (v2 : Rule_track) (l9 : List Rule_sample) (l13 : List Rule_sample) (n14 : Int) : Option (((List Rule_sample) × Int) ⊕ Rule_track) :=
  if (0 : Int) < n14 then
    (idx l13 (w64 (n14 - (1 : Int)))).bind fun v16 =>
    rule_track_put_j1 p0x0 p1x0 v2 l9 l13 n14 (decide (p1x0.value_ ≤ v16.value_))
  else
    rule_track_put_j1 p0x0 p1x0 v2 l9 l13 n14 false

noncomputable def rule_track_put_l1 (p0x0 : Rule_track) (p1x0 : Rule_sample) (v2 : Rule_track) (l9 : List Rule_sample) (l13 : List Rule_sample) (n14 : Int) : Option Rule_track :=
  iter (fun x : (List Rule_sample) × Int => rule_track_put_b1 p0x0 p1x0 v2 l9 x.1 x.2) (l13, n14)

noncomputable def rule_track_put (p0x0 : Rule_track) (p1x0 : Rule_sample) : Option Rule_track :=
  (rule_track_drop p0x0 p1x0.at_).bind fun v2 =>
  (app v2.window_ [p1x0]).bind fun l9 =>
  rule_track_put_l1 p0x0 p1x0 v2 l9 v2.least_ (v2.least_.length : Int)

noncomputable def rule_spansOf_k1 (p0x0 : Rule) (l28 : List Rule_span) (l30 : List Rule_sample) (l33 : List Rule_sample) (l36 : List Rule_sample) (n38 : Int) (n39 : Int) (n40 : Int) (c41 : Bool) (n42 : Int) : Option (List Rule_span) :=
  (rule_track_advance_c0x9xrule_spansOf_1x (⟨p0x0, l30, l33, l36, n38, n39, n40, c41, n42⟩ : Rule_track) (345686400000 : Int) l28).bind fun v62 =>
  some v62.2

noncomputable def rule_spansOf_b1 (p0x0 : Rule) (p1x0 : List Rule_sample) (l28 : List Rule_span) (l30 : List Rule_sample) (l33 : List Rule_sample) (l36 : List Rule_sample) (n38 : Int) (n39 : Int) (n40 : Int) (c41 : Bool) (n42 : Int) (n43 : Int) : Option (((List Rule_span) × (List Rule_sample) × (List Rule_sample) × (List Rule_sample) × Int × Int × Int × Bool × Int × Int) ⊕ (List Rule_span)) :=
  if n43 < (p1x0.length : Int) then
    (idx p1x0 n43).bind fun v45 =>
    (rule_track_advance_c0x9xrule_spansOf_1x (⟨p0x0, l30, l33, l36, n38, n39, n40, c41, n42⟩ : Rule_track) v45.at_ l28).bind fun v47 =>
    (rule_track_put (⟨p0x0, v47.1.window_, v47.1.least_, v47.1.most_, v47.1.sum_, v47.1.state_, v47.1.since_, v47.1.firing_, v47.1.began_⟩ : Rule_track) v45).bind fun v55 =>
    some (.inl (v47.2, v55.window_, v55.least_, v55.most_, v55.sum_, v55.state_, v55.since_, v55.firing_, v55.began_, w64 (n43 + (1 : Int))))
  else
    Option.map .inr (rule_spansOf_k1 p0x0 l28 l30 l33 l36 n38 n39 n40 c41 n42)

noncomputable def rule_spansOf_l1 (p0x0 : Rule) (p1x0 : List Rule_sample) (l28 : List Rule_span) (l30 : List Rule_sample) (l33 : List Rule_sample) (l36 : List Rule_sample) (n38 : Int) (n39 : Int) (n40 : Int) (c41 : Bool) (n42 : Int) (n43 : Int) : Option (List Rule_span) :=
  iter (fun x : (List Rule_span) × (List Rule_sample) × (List Rule_sample) × (List Rule_sample) × Int × Int × Int × Bool × Int × Int => rule_spansOf_b1 p0x0 p1x0 x.1 x.2.1 x.2.2.1 x.2.2.2.1 x.2.2.2.2.1 x.2.2.2.2.2.1 x.2.2.2.2.2.2.1 x.2.2.2.2.2.2.2.1 x.2.2.2.2.2.2.2.2.1 x.2.2.2.2.2.2.2.2.2) (l28, l30, l33, l36, n38, n39, n40, c41, n42, n43)

noncomputable def rule_spansOf (p0x0 : Rule) (p1x0 : List Rule_sample) : Option (List Rule_span) :=
  (rule_newTrack p0x0).bind fun v2 =>
  rule_spansOf_l1 p0x0 p1x0 [] v2.window_ v2.least_ v2.most_ v2.sum_ v2.state_ v2.since_ v2.firing_ v2.began_ (0 : Int)

noncomputable def rule_whole_j1 (n8 : Int) (l11 : List (Str × (List Rule_sample))) : Option (((List (Str × (List Rule_sample))) × Int) ⊕ (List Spell)) :=
  some (.inl (l11, w64 (n8 + (1 : Int))))

noncomputable def rule_whole_b3 (p0x0 : Rule) (n24 : Int) (v26 : Str) (v29 : (List Rule_span)) (l35 : List Spell) (n36 : Int) : Option (((List Spell) × Int) ⊕ (((List Spell) × Int) ⊕ (List Spell))) :=
  if n36 < (v29.length : Int) then
    (idx v29 n36).bind fun v37 =>
    (app l35 [(⟨v26, p0x0.Key, v37.from_, v37.to_⟩ : Spell)]).bind fun l39 =>
    some (.inl (l39, w64 (n36 + (1 : Int))))
  else
    Option.map .inr (some (.inl (l35, w64 (n24 + (1 : Int)))))

noncomputable def rule_whole_l3 (p0x0 : Rule) (n24 : Int) (v26 : Str) (v29 : (List Rule_span)) (l35 : List Spell) (n36 : Int) : Option (((List Spell) × Int) ⊕ (List Spell)) :=
  iter (fun x : (List Spell) × Int => rule_whole_b3 p0x0 n24 v26 v29 x.1 x.2) (l35, n36)

noncomputable def rule_whole_b2 (p0x0 : Rule) (l6 : List (Str × (List Rule_sample))) (v17 : (List Str)) (l23 : List Spell) (n24 : Int) : Option (((List Spell) × Int) ⊕ (List Spell)) :=
  if n24 < (v17.length : Int) then
    (idx v17 n24).bind fun v26 =>
    (mgetO l6 v26 []).bind fun v27 =>
    (rule_spansOf p0x0 v27).bind fun v29 =>
    rule_whole_l3 p0x0 n24 v26 v29 l23 (0 : Int)
  else
    Option.map .inr (some l23)

noncomputable def rule_whole_l2 (p0x0 : Rule) (l6 : List (Str × (List Rule_sample))) (v17 : (List Str)) (l23 : List Spell) (n24 : Int) : Option (List Spell) :=
  iter (fun x : (List Spell) × Int => rule_whole_b2 p0x0 l6 v17 x.1 x.2) (l23, n24)

noncomputable def rule_whole_k2 (p0x0 : Rule) (p1x0 : List Sample) (l6 : List (Str × (List Rule_sample))) : Option (List Spell) :=
  (rule_devices p1x0 p0x0.Metric).bind fun v17 =>
  rule_whole_l2 p0x0 l6 v17 [] (0 : Int)

noncomputable def rule_whole_b1 (p0x0 : Rule) (p1x0 : List Sample) (l6 : List (Str × (List Rule_sample))) (n8 : Int) : Option (((List (Str × (List Rule_sample))) × Int) ⊕ (List Spell)) :=
  if n8 < (p1x0.length : Int) then
    (idx p1x0 n8).bind fun v9 =>
    if v9.Metric = p0x0.Metric then
      (mgetO l6 v9.Device []).bind fun v13 =>
      (app v13 [(⟨v9.At, v9.Value⟩ : Rule_sample)]).bind fun l15 =>
      rule_whole_j1 n8 (mset l6 v9.Device l15)
    else
      rule_whole_j1 n8 l6
  else
    Option.map .inr (rule_whole_k2 p0x0 p1x0 l6)

noncomputable def rule_whole_l1 (p0x0 : Rule) (p1x0 : List Sample) (l6 : List (Str × (List Rule_sample))) (n8 : Int) : Option (List Spell) :=
  iter (fun x : (List (Str × (List Rule_sample))) × Int => rule_whole_b1 p0x0 p1x0 x.1 x.2) (l6, n8)

noncomputable def rule_whole (p0x0 : Rule) (p1x0 : List Sample) : Option (List Spell) :=
  rule_whole_l1 p0x0 p1x0 [] (0 : Int)

noncomputable def rule_cut_j1 (n7 : Int) (l12 : List Spell) : Option (((List Spell) × Int) ⊕ (List Spell)) :=
  some (.inl (l12, w64 (n7 + (1 : Int))))

noncomputable def rule_cut_b1 (p0x0 : List Spell) (p1x0 : Window) (l6 : List Spell) (n7 : Int) : Option (((List Spell) × Int) ⊕ (List Spell)) :=
  if n7 < (p0x0.length : Int) then
    (idx p0x0 n7).bind fun v9 =>
    if (max v9.From p1x0.From) < (min v9.To p1x0.To) then
      (app l6 [(⟨v9.Device, v9.Rule, max v9.From p1x0.From, min v9.To p1x0.To⟩ : Spell)]).bind fun l13 =>
      rule_cut_j1 n7 l13
    else
      rule_cut_j1 n7 l6
  else
    Option.map .inr (some l6)

noncomputable def rule_cut_l1 (p0x0 : List Spell) (p1x0 : Window) (l6 : List Spell) (n7 : Int) : Option (List Spell) :=
  iter (fun x : (List Spell) × Int => rule_cut_b1 p0x0 p1x0 x.1 x.2) (l6, n7)

noncomputable def rule_cut (p0x0 : List Spell) (p1x0 : Window) : Option (List Spell) :=
  rule_cut_l1 p0x0 p1x0 [] (0 : Int)

noncomputable def rule_byFrom (p0x0 : Spell) (p1x0 : Spell) : Option Int :=
  (cmp_Or_int [(cmp_Compare_int p0x0.From p1x0.From), (Lib.compareBytes p0x0.Device p1x0.Device), (Lib.compareBytes p0x0.Rule p1x0.Rule)]).bind fun v3 =>
  some v3

/-- Sorted by Go. -/
noncomputable def slices_SortFunc_Spell_Spell (p0x0 : List Spell) (fnb : Spell → Spell → Option Int) : Option (List Spell) :=
  sortO fnb p0x0

noncomputable def rule_Spells_k1 (l8 : List Spell) : Option ((List Spell) × Int) :=
  (lenOk l8.length (fun r : (List Spell) => r.length) (slices_SortFunc_Spell_Spell l8 (fun y0 y1 => rule_byFrom y0 y1))).bind fun v18 =>
  some (v18, (0 : Int))

noncomputable def rule_Spells_b1 (p0x0 : List Rule) (p1x0 : List Sample) (p2x0 : Window) (l8 : List Spell) (n9 : Int) : Option (((List Spell) × Int) ⊕ ((List Spell) × Int)) :=
  if n9 < (p0x0.length : Int) then
    (idx p0x0 n9).bind fun v11 =>
    (rule_whole v11 p1x0).bind fun v12 =>
    (rule_cut v12 p2x0).bind fun v14 =>
    (app l8 v14).bind fun l16 =>
    some (.inl (l16, w64 (n9 + (1 : Int))))
  else
    Option.map .inr (rule_Spells_k1 l8)

noncomputable def rule_Spells_l1 (p0x0 : List Rule) (p1x0 : List Sample) (p2x0 : Window) (l8 : List Spell) (n9 : Int) : Option ((List Spell) × Int) :=
  iter (fun x : (List Spell) × Int => rule_Spells_b1 p0x0 p1x0 p2x0 x.1 x.2) (l8, n9)

noncomputable def rule_Spells (p0x0 : List Rule) (p1x0 : List Sample) (p2x0 : Window) : Option ((List Spell) × Int) :=
  (rule_fault p0x0 p1x0 p2x0).bind fun v2 =>
  if v2 ≠ (0 : Int) then
    some ([], v2)
  else
    rule_Spells_l1 p0x0 p1x0 p2x0 [] (0 : Int)

noncomputable def slices_Equal_Spell_Spell_b1 (p0x0 : List Spell) (p1x0 : List Spell) (n2 : Int) : Option (Int ⊕ Bool) :=
  if n2 < (p0x0.length : Int) then
    (idx p0x0 n2).bind fun v3 =>
    (idx p1x0 n2).bind fun v4 =>
    if v3 ≠ v4 then
      Option.map .inr (some false)
    else
      some (.inl (w64 (n2 + (1 : Int))))
  else
    Option.map .inr (some true)

noncomputable def slices_Equal_Spell_Spell_l1 (p0x0 : List Spell) (p1x0 : List Spell) (n2 : Int) : Option Bool :=
  iter (fun x : Int => slices_Equal_Spell_Spell_b1 p0x0 p1x0 x) n2

noncomputable def slices_Equal_Spell_Spell (p0x0 : List Spell) (p1x0 : List Spell) : Option Bool :=
  if (p0x0.length : Int) ≠ (p1x0.length : Int) then
    some false
  else
    slices_Equal_Spell_Spell_l1 p0x0 p1x0 (0 : Int)

noncomputable def L_ruled_j1 (c4 : Bool) : Option Bool :=
  some c4

noncomputable def L_ruled : Option Bool :=
  (rule_Spells [(⟨([114] : Str), ([116] : Str), (1 : Int), (10 : Int), true, (1 : Int), (1 : Int), (0 : Int), (0 : Int), (0 : Int)⟩ : Rule)] [(⟨([100] : Str), ([116] : Str), (0 : Int), (1 : Int)⟩ : Sample)] (⟨(0 : Int), (5 : Int)⟩ : Window)).bind fun v2 =>
  if v2.2 = (0 : Int) then
    (slices_Equal_Spell_Spell v2.1 [(⟨([100] : Str), ([114] : Str), (0 : Int), (5 : Int)⟩ : Spell)]).bind fun v5 =>
    L_ruled_j1 v5
  else
    L_ruled_j1 false

noncomputable def L_RuleTexts_j2 (c13 : Bool) : Option Bool :=
  some c13

noncomputable def L_RuleTexts_j1 (v2 : (List Rule) × Fleetmake_Stream) (c6 : Bool) : Option Bool :=
  if c6 = true then
    some false
  else
    (Stream_RuleString v2.2).bind fun v8 =>
    (rule_Read v8.1).bind fun v9 =>
    (Q_RulesRead v8.1).bind fun v11 =>
    if v9.2.2 = v11.2.2 then
      if v9.2.1 = v11.2.1 then
        (slices_Equal_Rule_Rule v9.1 v11.1).bind fun v14 =>
        if v14 = true then
          (L_ruled).bind fun v15 =>
          L_RuleTexts_j2 v15
        else
          L_RuleTexts_j2 false
      else
        L_RuleTexts_j2 false
    else
      L_RuleTexts_j2 false

noncomputable def L_RuleTexts (p0x0 : List Int) : Option Bool :=
  (Stream_Rules (⟨p0x0, (0 : Int)⟩ : Fleetmake_Stream)).bind fun v2 =>
  (rule_Text v2.1).bind fun v4 =>
  (Q_RulesFault v2.1).bind fun v5 =>
  if v4.2 ≠ v5 then
    L_RuleTexts_j1 v2 true
  else
    if v5 = (0 : Int) then
      (Q_RuleLines v2.1).bind fun v7 =>
      L_RuleTexts_j1 v2 ((decide (v4.1 ≠ v7)) || ((decide (v5 ≠ (0 : Int))) && (decide (v4.1 ≠ ([] : Str)))))
    else
      L_RuleTexts_j1 v2 ((decide (v5 ≠ (0 : Int))) && (decide (v4.1 ≠ ([] : Str))))

end Go.Beacon

