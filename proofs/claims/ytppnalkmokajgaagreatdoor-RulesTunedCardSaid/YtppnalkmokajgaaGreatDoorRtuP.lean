/- Plain functions that the Go functions compute, written by shal.py. -/
import Derived.Test.YtppnalkmokajgaaGreatDoorCore
set_option linter.unusedVariables false
namespace Go.Beacon
open Go Go.Eng
structure Fleetmake_Stream where
  L : List Int
  at_ : Int
deriving DecidableEq, Inhabited
def Fleetmake_Stream.av (x : Fleetmake_Stream) : AV := .agg [.list 1 (x.L.map I), I x.at_]

structure Rule where
  Key : Str
  Metric : Str
  Agg : Int
  Long : Int
  Above : Bool
  On : Int
  Off : Int
  Hold : Int
  Rest : Int
  Empty : Int
deriving DecidableEq, Inhabited
def Rule.av (x : Rule) : AV := .agg [.str x.Key, .str x.Metric, I x.Agg, I x.Long, .bool x.Above, I x.On, I x.Off, I x.Hold, I x.Rest, I x.Empty]

structure Sample where
  Device : Str
  Metric : Str
  At : Int
  Value : Int
deriving DecidableEq, Inhabited
def Sample.av (x : Sample) : AV := .agg [.str x.Device, .str x.Metric, I x.At, I x.Value]

structure Window where
  From : Int
  To : Int
deriving DecidableEq, Inhabited
def Window.av (x : Window) : AV := .agg [I x.From, I x.To]

structure Spell where
  Device : Str
  Rule : Str
  From : Int
  To : Int
deriving DecidableEq, Inhabited
def Spell.av (x : Spell) : AV := .agg [.str x.Device, .str x.Rule, I x.From, I x.To]

structure Rule_span where
  from_ : Int
  to_ : Int
deriving DecidableEq, Inhabited
def Rule_span.av (x : Rule_span) : AV := .agg [I x.from_, I x.to_]

structure Rule_sample where
  at_ : Int
  value_ : Int
deriving DecidableEq, Inhabited
def Rule_sample.av (x : Rule_sample) : AV := .agg [I x.at_, I x.value_]

structure Rule_track where
  rule_ : Rule
  window_ : List Rule_sample
  least_ : List Rule_sample
  most_ : List Rule_sample
  sum_ : Int
  state_ : Int
  since_ : Int
  firing_ : Bool
  began_ : Int
deriving DecidableEq, Inhabited

structure Fraction where
  Num : Int
  Den : Int
deriving DecidableEq, Inhabited
def Fraction.av (x : Fraction) : AV := .agg [I x.Num, I x.Den]

structure Fleetref1_run where
  from_ : Int
  to_ : Int
  state_ : Int
deriving DecidableEq, Inhabited
def Fleetref1_run.av (x : Fleetref1_run) : AV := .agg [I x.from_, I x.to_, I x.state_]

noncomputable def Below_j1 (n2 : Int) : Option Int :=
  some n2

noncomputable def Below (p0x0 : Int) (p1x0 : Int) : Option Int :=
  if p1x0 < (1 : Int) then
    some (0 : Int)
  else
    (rem p0x0 p1x0).bind fun n1 =>
    if n1 < (0 : Int) then
      Below_j1 (w64 (n1 + p1x0))
    else
      Below_j1 n1

noncomputable def Stream_Next (p0x0 : Fleetmake_Stream) (p1x0 : Int) : Option (Int × Fleetmake_Stream) :=
  if (p0x0.L.length : Int) = (0 : Int) then
    (Below (w64 ((w64 (p0x0.at_ + (1 : Int))) * (7919 : Int))) p1x0).bind fun v1 =>
    some (v1, (⟨p0x0.L, w64 (p0x0.at_ + (1 : Int))⟩ : Fleetmake_Stream))
  else
    (rem (w64 ((w64 (p0x0.at_ + (1 : Int))) - (1 : Int))) (p0x0.L.length : Int)).bind fun n2 =>
    (quo (w64 ((w64 (p0x0.at_ + (1 : Int))) - (1 : Int))) (p0x0.L.length : Int)).bind fun n3 =>
    (idx p0x0.L n2).bind fun v4 =>
    (Below v4 (1073741824 : Int)).bind fun v5 =>
    (Below (w64 (v5 + (w64 (n3 * (w64 ((7919 : Int) + n2)))))) p1x0).bind fun v6 =>
    some (v6, (⟨p0x0.L, w64 (p0x0.at_ + (1 : Int))⟩ : Fleetmake_Stream))

noncomputable def Stream_Some (p0x0 : Fleetmake_Stream) (p1x0 : List Str) : Option (Str × Fleetmake_Stream) :=
  (Stream_Next p0x0 (p1x0.length : Int)).bind fun v1 =>
  (idx p1x0 v1.1).bind fun v2 =>
  some (v2, v1.2)

noncomputable def Stream_Range (p0x0 : Fleetmake_Stream) (p1x0 : Int) (p2x0 : Int) : Option (Int × Fleetmake_Stream) :=
  if p2x0 < p1x0 then
    some (p1x0, p0x0)
  else
    (Stream_Next p0x0 (w64 ((w64 (p2x0 - p1x0)) + (1 : Int)))).bind fun v1 =>
    some (w64 (p1x0 + v1.1), v1.2)

noncomputable def Stream_Pick (p0x0 : Fleetmake_Stream) (p1x0 : List Int) : Option (Int × Fleetmake_Stream) :=
  (Stream_Next p0x0 (p1x0.length : Int)).bind fun v1 =>
  (idx p1x0 v1.1).bind fun v2 =>
  some (v2, v1.2)

noncomputable def Stream_Flip (p0x0 : Fleetmake_Stream) (p1x0 : Int) : Option (Bool × Fleetmake_Stream) :=
  (Stream_Next p0x0 p1x0).bind fun v1 =>
  some (decide (v1.1 = (0 : Int)), v1.2)

noncomputable def Stream_RightRule_j1 (p1x0 : Str) (v2 : Str × Fleetmake_Stream) (v3 : Int × Fleetmake_Stream) (v4 : Int × Fleetmake_Stream) (v5 : Bool × Fleetmake_Stream) (v6 : Int × Fleetmake_Stream) (v7 : Int × Fleetmake_Stream) (v8 : Int × Fleetmake_Stream) (v9 : Int × Fleetmake_Stream) (v11 : Int × Fleetmake_Stream) (n12 : Int) : Option (Rule × Fleetmake_Stream) :=
  some ((⟨p1x0, v2.1, v3.1, v4.1, v5.1, v6.1, n12, v7.1, v8.1, v9.1⟩ : Rule), v11.2)

noncomputable def Stream_RightRule (p0x0 : Fleetmake_Stream) (p1x0 : Str) : Option (Rule × Fleetmake_Stream) :=
  (Stream_Some p0x0 [([116] : Str), ([116] : Str), ([117] : Str)]).bind fun v2 =>
  (Stream_Range v2.2 (1 : Int) (6 : Int)).bind fun v3 =>
  (Stream_Pick v3.2 [(5 : Int), (20 : Int), (50 : Int), (100 : Int)]).bind fun v4 =>
  (Stream_Flip v4.2 (2 : Int)).bind fun v5 =>
  (Stream_Pick v5.2 [(0 : Int), (2 : Int), (5 : Int), (8 : Int)]).bind fun v6 =>
  (Stream_Pick v6.2 [(0 : Int), (0 : Int), (5 : Int), (15 : Int)]).bind fun v7 =>
  (Stream_Pick v7.2 [(0 : Int), (0 : Int), (5 : Int), (15 : Int)]).bind fun v8 =>
  (Stream_Pick v8.2 [(0 : Int), (0 : Int), (1 : Int), (2 : Int)]).bind fun v9 =>
  (Stream_Pick v9.2 [(0 : Int), (0 : Int), (2 : Int), (4 : Int)]).bind fun v11 =>
  if (!v5.1) = true then
    Stream_RightRule_j1 p1x0 v2 v3 v4 v5 v6 v7 v8 v9 v11 (w64 ((w64 ((2 : Int) * v6.1)) - (w64 (v6.1 - v11.1))))
  else
    Stream_RightRule_j1 p1x0 v2 v3 v4 v5 v6 v7 v8 v9 v11 (w64 (v6.1 - v11.1))

noncomputable def Stream_Odd (p0x0 : Fleetmake_Stream) (p1x0 : Int) (p2x0 : Int) : Option (Int × Fleetmake_Stream) :=
  (Stream_Flip p0x0 (12 : Int)).bind fun v1 =>
  if v1.1 = true then
    (Stream_Pick v1.2 [w64 (p1x0 - (1 : Int)), w64 (p2x0 + (1 : Int)), p1x0, p2x0, (-1099511627776 : Int), (1099511627776 : Int)]).bind fun v2 =>
    some (v2.1, v2.2)
  else
    (Stream_Range v1.2 p1x0 p2x0).bind fun v3 =>
    some (v3.1, v3.2)

noncomputable def L_oneRule_j1 (v3 : Rule × Fleetmake_Stream) (l6 : List Int) (n7 : Int) (q8 : Str) (n9 : Int) (n10 : Int) : Option (Rule × Fleetmake_Stream) :=
  some ((⟨q8, v3.1.Metric, n9, n10, v3.1.Above, v3.1.On, v3.1.Off, v3.1.Hold, v3.1.Rest, v3.1.Empty⟩ : Rule), (⟨l6, n7⟩ : Fleetmake_Stream))

noncomputable def L_oneRule (p0x0 : Fleetmake_Stream) : Option (Rule × Fleetmake_Stream) :=
  (Stream_Some p0x0 [([114, 97] : Str), ([114, 97] : Str), ([114, 98] : Str)]).bind fun v2 =>
  (Stream_RightRule v2.2 v2.1).bind fun v3 =>
  (Stream_Flip v3.2 (20 : Int)).bind fun v5 =>
  if v5.1 = true then
    (Stream_Some v5.2 [([] : Str), ([114, 97] : Str)]).bind fun v11 =>
    (Stream_Odd v11.2 (1 : Int) (6 : Int)).bind fun v12 =>
    (Stream_Odd v12.2 (1 : Int) (100 : Int)).bind fun v13 =>
    L_oneRule_j1 v3 v13.2.L v13.2.at_ v11.1 v12.1 v13.1
  else
    L_oneRule_j1 v3 v5.2.L v5.2.at_ v3.1.Key v3.1.Agg v3.1.Long

noncomputable def Stream_Readings_j1 (n35 : Int) (l38 : List Int) (n39 : Int) (l41 : List Sample) : Option (((List Int) × Int × (List Sample) × Int) ⊕ (((List Int) × Int × (List Sample) × Int) ⊕ (((List Int) × Int × (List Sample) × Int × Int) ⊕ ((List Sample) × Fleetmake_Stream)))) :=
  some (.inl (l38, n39, l41, w64 (n35 + (1 : Int))))

noncomputable def Stream_Readings_b3 (n12 : Int) (n24 : Int) (v25 : Str) (l31 : List Int) (n32 : Int) (l34 : List Sample) (n35 : Int) : Option (((List Int) × Int × (List Sample) × Int) ⊕ (((List Int) × Int × (List Sample) × Int) ⊕ (((List Int) × Int × (List Sample) × Int × Int) ⊕ ((List Sample) × Fleetmake_Stream)))) :=
  if n35 < ([([116] : Str), ([117] : Str)].length : Int) then
    (idx [([116] : Str), ([117] : Str)] n35).bind fun v36 =>
    (Stream_Flip (⟨l31, n32⟩ : Fleetmake_Stream) (3 : Int)).bind fun v37 =>
    if v37.1 = true then
      (Stream_Pick v37.2 [(0 : Int), (1 : Int), (2 : Int), (4 : Int), (5 : Int), (6 : Int), (8 : Int), (9 : Int), (-3 : Int)]).bind fun v42 =>
      (app l34 [(⟨v25, v36, n12, v42.1⟩ : Sample)]).bind fun l43 =>
      Stream_Readings_j1 n35 v42.2.L v42.2.at_ l43
    else
      Stream_Readings_j1 n35 v37.2.L v37.2.at_ l34
  else
    Option.map .inr (some (.inl (l31, n32, l34, w64 (n24 + (1 : Int)))))

noncomputable def Stream_Readings_l3 (n12 : Int) (n24 : Int) (v25 : Str) (l31 : List Int) (n32 : Int) (l34 : List Sample) (n35 : Int) : Option (((List Int) × Int × (List Sample) × Int) ⊕ (((List Int) × Int × (List Sample) × Int × Int) ⊕ ((List Sample) × Fleetmake_Stream))) :=
  iter (fun x : (List Int) × Int × (List Sample) × Int => Stream_Readings_b3 n12 n24 v25 x.1 x.2.1 x.2.2.1 x.2.2.2) (l31, n32, l34, n35)

noncomputable def Stream_Readings_k2 (n12 : Int) (n13 : Int) (l20 : List Int) (n21 : Int) (l23 : List Sample) : Option (((List Int) × Int × (List Sample) × Int × Int) ⊕ ((List Sample) × Fleetmake_Stream)) :=
  (Stream_Pick (⟨l20, n21⟩ : Fleetmake_Stream) [(1 : Int), (3 : Int), (5 : Int), (10 : Int), (40 : Int)]).bind fun v45 =>
  some (.inl (v45.2.L, v45.2.at_, l23, w64 (n12 + v45.1), w64 (n13 + (1 : Int))))

noncomputable def Stream_Readings_b2 (n12 : Int) (n13 : Int) (l20 : List Int) (n21 : Int) (l23 : List Sample) (n24 : Int) : Option (((List Int) × Int × (List Sample) × Int) ⊕ (((List Int) × Int × (List Sample) × Int × Int) ⊕ ((List Sample) × Fleetmake_Stream))) :=
  if n24 < ([([100, 97] : Str), ([100, 98] : Str)].length : Int) then
    (idx [([100, 97] : Str), ([100, 98] : Str)] n24).bind fun v25 =>
    Stream_Readings_l3 n12 n24 v25 l20 n21 l23 (0 : Int)
  else
    Option.map .inr (Stream_Readings_k2 n12 n13 l20 n21 l23)

noncomputable def Stream_Readings_l2 (n12 : Int) (n13 : Int) (l20 : List Int) (n21 : Int) (l23 : List Sample) (n24 : Int) : Option (((List Int) × Int × (List Sample) × Int × Int) ⊕ ((List Sample) × Fleetmake_Stream)) :=
  iter (fun x : (List Int) × Int × (List Sample) × Int => Stream_Readings_b2 n12 n13 x.1 x.2.1 x.2.2.1 x.2.2.2) (l20, n21, l23, n24)

noncomputable def Stream_Readings_j4 (l50 : List Int) (n51 : Int) (l52 : List Sample) : Option ((List Sample) × Fleetmake_Stream) :=
  some (l52, (⟨l50, n51⟩ : Fleetmake_Stream))

noncomputable def Stream_Readings_j3 (l11 : List Sample) (l46 : List Int) (n47 : Int) (c48 : Bool) : Option ((List Sample) × Fleetmake_Stream) :=
  if c48 = true then
    (Stream_Next (⟨l46, n47⟩ : Fleetmake_Stream) (l11.length : Int)).bind fun v53 =>
    (idx l11 v53.1).bind fun v54 =>
    (Stream_Pick v53.2 [v54.At, (-1 : Int), (0 : Int), (345686400000 : Int)]).bind fun v55 =>
    (Stream_Some v55.2 [v54.Device, ([] : Str), ([65] : Str)]).bind fun v56 =>
    (Stream_Odd v56.2 (-1000000000 : Int) (1000000000 : Int)).bind fun v57 =>
    Stream_Readings_j4 v57.2.L v57.2.at_ (((l11.set v53.1.toNat (⟨v54.Device, v54.Metric, v55.1, v54.Value⟩ : Sample)).set v53.1.toNat (⟨v56.1, v54.Metric, v55.1, v54.Value⟩ : Sample)).set v53.1.toNat (⟨v56.1, v54.Metric, v55.1, v57.1⟩ : Sample))
  else
    Stream_Readings_j4 l46 n47 l11

noncomputable def Stream_Readings_k5 (l8 : List Int) (n9 : Int) (l11 : List Sample) : Option ((List Sample) × Fleetmake_Stream) :=
  if (0 : Int) < (l11.length : Int) then
    (Stream_Flip (⟨l8, n9⟩ : Fleetmake_Stream) (20 : Int)).bind fun v49 =>
    Stream_Readings_j3 l11 v49.2.L v49.2.at_ v49.1
  else
    Stream_Readings_j3 l11 l8 n9 false

noncomputable def Stream_Readings_b1 (p1x0 : Int) (l8 : List Int) (n9 : Int) (l11 : List Sample) (n12 : Int) (n13 : Int) : Option (((List Int) × Int × (List Sample) × Int × Int) ⊕ ((List Sample) × Fleetmake_Stream)) :=
  if n13 < p1x0 then
    Stream_Readings_l2 n12 n13 l8 n9 l11 (0 : Int)
  else
    Option.map .inr (Stream_Readings_k5 l8 n9 l11)

noncomputable def Stream_Readings_l1 (p1x0 : Int) (l8 : List Int) (n9 : Int) (l11 : List Sample) (n12 : Int) (n13 : Int) : Option ((List Sample) × Fleetmake_Stream) :=
  iter (fun x : (List Int) × Int × (List Sample) × Int × Int => Stream_Readings_b1 p1x0 x.1 x.2.1 x.2.2.1 x.2.2.2.1 x.2.2.2.2) (l8, n9, l11, n12, n13)

noncomputable def Stream_Readings (p0x0 : Fleetmake_Stream) (p1x0 : Int) : Option ((List Sample) × Fleetmake_Stream) :=
  (Stream_Next p0x0 (20 : Int)).bind fun v1 =>
  Stream_Readings_l1 p1x0 v1.2.L v1.2.at_ [] v1.1 (0 : Int)

noncomputable def Stream_Span_j1 (l6 : List Int) (n7 : Int) (n8 : Int) (n9 : Int) : Option (Window × Fleetmake_Stream) :=
  some ((⟨n8, n9⟩ : Window), (⟨l6, n7⟩ : Fleetmake_Stream))

noncomputable def Stream_Span (p0x0 : Fleetmake_Stream) : Option (Window × Fleetmake_Stream) :=
  (Stream_Pick p0x0 [(0 : Int), (5 : Int), (30 : Int), (100 : Int)]).bind fun v2 =>
  (Stream_Pick v2.2 [(30 : Int), (100 : Int), (250 : Int), (1000 : Int), (345686400000 : Int)]).bind fun v3 =>
  (Stream_Flip v3.2 (20 : Int)).bind fun v5 =>
  if v5.1 = true then
    (Stream_Pick v5.2 [(-1 : Int), (10 : Int)]).bind fun v10 =>
    (Stream_Pick v10.2 [(9 : Int), (345686400001 : Int)]).bind fun v11 =>
    Stream_Span_j1 v11.2.L v11.2.at_ v10.1 v11.1
  else
    Stream_Span_j1 v5.2.L v5.2.at_ v2.1 v3.1

noncomputable def base_Key_j2 (n5 : Int) (c7 : Bool) : Option (Int ⊕ Bool) :=
  if c7 = true then
    Option.map .inr (some false)
  else
    some (.inl (w64 (n5 + (1 : Int))))

noncomputable def base_Key_b1 (p0x0 : Str) (n5 : Int) : Option (Int ⊕ Bool) :=
  if n5 < (p0x0.length : Int) then
    (idx p0x0 n5).bind fun c6 =>
    base_Key_j2 n5 (if (97 : Int) ≤ (c6.toNat : Int) then if (c6.toNat : Int) ≤ (122 : Int) then !true else if (48 : Int) ≤ (c6.toNat : Int) then if (c6.toNat : Int) ≤ (57 : Int) then !true else if (c6.toNat : Int) = (45 : Int) then !true else decide (¬ ((c6.toNat : Int) = (95 : Int))) else if (c6.toNat : Int) = (45 : Int) then !true else decide (¬ ((c6.toNat : Int) = (95 : Int))) else if (48 : Int) ≤ (c6.toNat : Int) then if (c6.toNat : Int) ≤ (57 : Int) then !true else if (c6.toNat : Int) = (45 : Int) then !true else decide (¬ ((c6.toNat : Int) = (95 : Int))) else if (c6.toNat : Int) = (45 : Int) then !true else decide (¬ ((c6.toNat : Int) = (95 : Int))))
  else
    Option.map .inr (some true)

noncomputable def base_Key_l1 (p0x0 : Str) (n5 : Int) : Option Bool :=
  iter (fun x : Int => base_Key_b1 p0x0 x) n5

noncomputable def base_Key_j1 (p0x0 : Str) (c1 : Bool) : Option Bool :=
  if c1 = true then
    some false
  else
    base_Key_l1 p0x0 (0 : Int)

noncomputable def base_Key (p0x0 : Str) : Option Bool :=
  if p0x0 = ([] : Str) then
    base_Key_j1 p0x0 true
  else
    if (40 : Int) < (p0x0.length : Int) then
      base_Key_j1 p0x0 true
    else
      (idx p0x0 (0 : Int)).bind fun c2 =>
      if (c2.toNat : Int) < (97 : Int) then
        base_Key_j1 p0x0 true
      else
        (idx p0x0 (0 : Int)).bind fun c3 =>
        base_Key_j1 p0x0 (decide ((122 : Int) < (c3.toNat : Int)))

noncomputable def base_Out_j1 (c1 : Bool) : Bool :=
  c1

noncomputable def base_Out (p0x0 : Int) (p1x0 : Int) (p2x0 : Int) : Bool :=
  base_Out_j1 ((decide (p0x0 < p1x0)) || (decide (p2x0 < p0x0)))

noncomputable def rule_CheckRules_1x (p0x0 : Int) : Bool :=
  !(base_Out p0x0 (-1000000000 : Int) (1000000000 : Int))

noncomputable def rule_CheckRules_j8 (n2 : Int) (v3 : Rule) (c15 : Bool) : Option (Int ⊕ Int) :=
  if c15 = true then
    Option.map .inr (some (1 : Int))
  else
    if (base_Out v3.Empty (0 : Int) (2 : Int)) = true then
      Option.map .inr (some (4 : Int))
    else
      some (.inl (w64 (n2 + (1 : Int))))

noncomputable def rule_CheckRules_j2 (n2 : Int) (v3 : Rule) (c9 : Bool) : Option (Int ⊕ Int) :=
  if c9 = true then
    Option.map .inr (some (1 : Int))
  else
    if (base_Out v3.Hold (0 : Int) (2592000000 : Int)) = true then
      rule_CheckRules_j8 n2 v3 (base_Out v3.Hold (0 : Int) (2592000000 : Int))
    else
      rule_CheckRules_j8 n2 v3 (base_Out v3.Rest (0 : Int) (2592000000 : Int))

noncomputable def rule_CheckRules_j3 (n2 : Int) (v3 : Rule) (c10 : Bool) : Option (Int ⊕ Int) :=
  rule_CheckRules_j2 n2 v3 c10

noncomputable def rule_CheckRules_j4 (n2 : Int) (v3 : Rule) (c11 : Bool) : Option (Int ⊕ Int) :=
  rule_CheckRules_j3 n2 v3 c11

noncomputable def rule_CheckRules_j6 (n2 : Int) (v3 : Rule) (c13 : Bool) : Option (Int ⊕ Int) :=
  rule_CheckRules_j4 n2 v3 c13

noncomputable def rule_CheckRules_j7 (n2 : Int) (v3 : Rule) (c14 : Bool) : Option (Int ⊕ Int) :=
  rule_CheckRules_j6 n2 v3 c14

noncomputable def rule_CheckRules_j5 (n2 : Int) (v3 : Rule) (c12 : Bool) : Option (Int ⊕ Int) :=
  if c12 = true then
    rule_CheckRules_j6 n2 v3 c12
  else
    rule_CheckRules_j7 n2 v3 ((!v3.Above) && (decide (v3.Off < v3.On)))

noncomputable def rule_CheckRules_j1 (n2 : Int) (v3 : Rule) (c6 : Bool) : Option (Int ⊕ Int) :=
  if c6 = true then
    Option.map .inr (some (7 : Int))
  else
    (base_Key v3.Metric).bind fun v8 =>
    if (!v8) = true then
      Option.map .inr (some (5 : Int))
    else
      if (base_Out v3.Agg (1 : Int) (6 : Int)) = true then
        Option.map .inr (some (4 : Int))
      else
        if (base_Out v3.Long (1 : Int) (2592000000 : Int)) = true then
          rule_CheckRules_j2 n2 v3 (base_Out v3.Long (1 : Int) (2592000000 : Int))
        else
          if (!(rule_CheckRules_1x v3.On)) = true then
            rule_CheckRules_j3 n2 v3 (!(rule_CheckRules_1x v3.On))
          else
            if (!(rule_CheckRules_1x v3.Off)) = true then
              rule_CheckRules_j4 n2 v3 (!(rule_CheckRules_1x v3.Off))
            else
              rule_CheckRules_j5 n2 v3 (v3.Above && (decide (v3.On < v3.Off)))

noncomputable def rule_CheckRules_b1 (p0x0 : List Rule) (n2 : Int) : Option (Int ⊕ Int) :=
  if n2 < (p0x0.length : Int) then
    (idx p0x0 n2).bind fun v3 =>
    (base_Key v3.Key).bind fun v5 =>
    if (!v5) = true then
      Option.map .inr (some (5 : Int))
    else
      if (0 : Int) < n2 then
        (idx p0x0 (w64 (n2 - (1 : Int)))).bind fun v7 =>
        rule_CheckRules_j1 n2 v3 (Op.bytesLess v3.Key v7.Key || v3.Key == v7.Key)
      else
        rule_CheckRules_j1 n2 v3 false
  else
    Option.map .inr (some (0 : Int))

noncomputable def rule_CheckRules_l1 (p0x0 : List Rule) (n2 : Int) : Option Int :=
  iter (fun x : Int => rule_CheckRules_b1 p0x0 x) n2

noncomputable def rule_CheckRules (p0x0 : List Rule) : Option Int :=
  if (100 : Int) < (p0x0.length : Int) then
    some (2 : Int)
  else
    rule_CheckRules_l1 p0x0 (0 : Int)

noncomputable def base_Moment (p0x0 : Int) : Bool :=
  !(base_Out p0x0 (0 : Int) (345686399999 : Int))

noncomputable def rule_sampleFault_j1 (p0x0 : Sample) (c2 : Bool) : Option Int :=
  if c2 = true then
    some (5 : Int)
  else
    if (base_Out p0x0.Value (-1000000000 : Int) (1000000000 : Int)) = true then
      some (1 : Int)
    else
      some (0 : Int)

noncomputable def rule_sampleFault (p0x0 : Sample) : Option Int :=
  if (!(base_Moment p0x0.At)) = true then
    some (1 : Int)
  else
    (base_Key p0x0.Device).bind fun v3 =>
    if (!v3) = true then
      rule_sampleFault_j1 p0x0 true
    else
      (base_Key p0x0.Metric).bind fun v4 =>
      rule_sampleFault_j1 p0x0 (!v4)

noncomputable def cmp_isNaN_int (p0x0 : Int) : Bool :=
  decide (p0x0 ≠ p0x0)

noncomputable def cmp_Compare_int (p0x0 : Int) (p1x0 : Int) : Int :=
  if (cmp_isNaN_int p0x0) = true then
    if (cmp_isNaN_int p1x0) = true then
      (0 : Int)
    else
      (-1 : Int)
  else
    if (cmp_isNaN_int p1x0) = true then
      (1 : Int)
    else
      if p0x0 < p1x0 then
        (-1 : Int)
      else
        if p1x0 < p0x0 then
          (1 : Int)
        else
          (0 : Int)

noncomputable def cmp_Or_int_b1 (p0x0 : List Int) (n2 : Int) : Option (Int ⊕ Int) :=
  if n2 < (p0x0.length : Int) then
    (idx p0x0 n2).bind fun v3 =>
    if v3 ≠ (0 : Int) then
      Option.map .inr (some v3)
    else
      some (.inl (w64 (n2 + (1 : Int))))
  else
    Option.map .inr (some (0 : Int))

noncomputable def cmp_Or_int_l1 (p0x0 : List Int) (n2 : Int) : Option Int :=
  iter (fun x : Int => cmp_Or_int_b1 p0x0 x) n2

noncomputable def cmp_Or_int (p0x0 : List Int) : Option Int :=
  cmp_Or_int_l1 p0x0 (0 : Int)

noncomputable def rule_byMoment (p0x0 : Sample) (p1x0 : Sample) : Option Int :=
  (cmp_Or_int [(cmp_Compare_int p0x0.At p1x0.At), (Lib.compareBytes p0x0.Device p1x0.Device), (Lib.compareBytes p0x0.Metric p1x0.Metric)]).bind fun v3 =>
  some v3

noncomputable def rule_CheckSamples_j1 (n2 : Int) (c6 : Bool) : Option (Int ⊕ Int) :=
  if c6 = true then
    Option.map .inr (some (7 : Int))
  else
    some (.inl (w64 (n2 + (1 : Int))))

noncomputable def rule_CheckSamples_b1 (p0x0 : List Sample) (n2 : Int) : Option (Int ⊕ Int) :=
  if n2 < (p0x0.length : Int) then
    (idx p0x0 n2).bind fun v3 =>
    (rule_sampleFault v3).bind fun v5 =>
    if v5 ≠ (0 : Int) then
      Option.map .inr (some v5)
    else
      if (0 : Int) < n2 then
        (idx p0x0 (w64 (n2 - (1 : Int)))).bind fun v7 =>
        (rule_byMoment v3 v7).bind fun v8 =>
        rule_CheckSamples_j1 n2 (decide (v8 ≤ (0 : Int)))
      else
        rule_CheckSamples_j1 n2 false
  else
    Option.map .inr (some (0 : Int))

noncomputable def rule_CheckSamples_l1 (p0x0 : List Sample) (n2 : Int) : Option Int :=
  iter (fun x : Int => rule_CheckSamples_b1 p0x0 x) n2

noncomputable def rule_CheckSamples (p0x0 : List Sample) : Option Int :=
  if (5000 : Int) < (p0x0.length : Int) then
    some (2 : Int)
  else
    rule_CheckSamples_l1 p0x0 (0 : Int)

noncomputable def base_First_b1 (p0x0 : List Int) (n2 : Int) : Option (Int ⊕ Int) :=
  if n2 < (p0x0.length : Int) then
    (idx p0x0 n2).bind fun v3 =>
    if v3 ≠ (0 : Int) then
      Option.map .inr (some v3)
    else
      some (.inl (w64 (n2 + (1 : Int))))
  else
    Option.map .inr (some (0 : Int))

noncomputable def base_First_l1 (p0x0 : List Int) (n2 : Int) : Option Int :=
  iter (fun x : Int => base_First_b1 p0x0 x) n2

noncomputable def base_First (p0x0 : List Int) : Option Int :=
  base_First_l1 p0x0 (0 : Int)

noncomputable def base_Window_j1 (c2 : Bool) : Bool :=
  c2

noncomputable def base_Window (p0x0 : Window) : Bool :=
  base_Window_j1 ((!(base_Out p0x0.From (0 : Int) p0x0.To)) && (decide (p0x0.To ≤ (345686400000 : Int))))

/-- Sorted by Go. -/
noncomputable def slices_Sort_string_string (p0x0 : List Str) : Option (List Str) :=
  sort1 srtS p0x0

noncomputable def slices_Compact_string_string_j1 (n11 : Int) (l14 : List Str) (n15 : Int) : Option (((List Str) × Int × Int) ⊕ (Int ⊕ (List Str))) :=
  some (.inl (l14, n15, w64 (n11 + (1 : Int))))

noncomputable def slices_Compact_string_string_k2 (l9 : List Str) (n10 : Int) : Option (Int ⊕ (List Str)) :=
  (slc l9 n10 (l9.length : Int)).bind fun l18 =>
  (slc (clr l9 n10 l18.length []) (0 : Int) n10).bind fun l19 =>
  Option.map .inr (some l19)

noncomputable def slices_Compact_string_string_b2 (n2 : Int) (l5 : List Str) (l9 : List Str) (n10 : Int) (n11 : Int) : Option (((List Str) × Int × Int) ⊕ (Int ⊕ (List Str))) :=
  if n11 < (l5.length : Int) then
    (idxS l9 n2 l5.length n11).bind fun v12 =>
    (idxS l9 n2 l5.length (w64 (n11 - (1 : Int)))).bind fun v13 =>
    if v12 ≠ v13 then
      (idxS l9 n2 l5.length n11).bind fun v16 =>
      (idx l9 n10).bind fun v17 =>
      slices_Compact_string_string_j1 n11 (l9.set n10.toNat v16) (w64 (n10 + (1 : Int)))
    else
      slices_Compact_string_string_j1 n11 l9 n10
  else
    Option.map .inr (slices_Compact_string_string_k2 l9 n10)

noncomputable def slices_Compact_string_string_l2 (n2 : Int) (l5 : List Str) (l9 : List Str) (n10 : Int) (n11 : Int) : Option (Int ⊕ (List Str)) :=
  iter (fun x : (List Str) × Int × Int => slices_Compact_string_string_b2 n2 l5 x.1 x.2.1 x.2.2) (l9, n10, n11)

noncomputable def slices_Compact_string_string_b1 (p0x0 : List Str) (n2 : Int) : Option (Int ⊕ (List Str)) :=
  if n2 < (p0x0.length : Int) then
    (idx p0x0 n2).bind fun v3 =>
    (idx p0x0 (w64 (n2 - (1 : Int)))).bind fun v4 =>
    if v3 = v4 then
      (slc p0x0 n2 (p0x0.length : Int)).bind fun l5 =>
      slices_Compact_string_string_l2 n2 l5 p0x0 n2 (1 : Int)
    else
      some (.inl (w64 (n2 + (1 : Int))))
  else
    Option.map .inr (some p0x0)

noncomputable def slices_Compact_string_string_l1 (p0x0 : List Str) (n2 : Int) : Option (List Str) :=
  iter (fun x : Int => slices_Compact_string_string_b1 p0x0 x) n2

noncomputable def slices_Compact_string_string (p0x0 : List Str) : Option (List Str) :=
  if (p0x0.length : Int) < (2 : Int) then
    some p0x0
  else
    slices_Compact_string_string_l1 p0x0 (1 : Int)

noncomputable def rule_devices_j1 (n6 : Int) (l11 : List Str) : Option (((List Str) × Int) ⊕ (List Str)) :=
  some (.inl (l11, w64 (n6 + (1 : Int))))

noncomputable def rule_devices_k2 (l5 : List Str) : Option (List Str) :=
  (lenOk l5.length (fun r : (List Str) => r.length) (slices_Sort_string_string l5)).bind fun v14 =>
  (slices_Compact_string_string v14).bind fun v15 =>
  some v15

noncomputable def rule_devices_b1 (p0x0 : List Sample) (p1x0 : Str) (l5 : List Str) (n6 : Int) : Option (((List Str) × Int) ⊕ (List Str)) :=
  if n6 < (p0x0.length : Int) then
    (idx p0x0 n6).bind fun v8 =>
    if v8.Metric = p1x0 then
      (app l5 [v8.Device]).bind fun l12 =>
      rule_devices_j1 n6 l12
    else
      rule_devices_j1 n6 l5
  else
    Option.map .inr (rule_devices_k2 l5)

noncomputable def rule_devices_l1 (p0x0 : List Sample) (p1x0 : Str) (l5 : List Str) (n6 : Int) : Option (List Str) :=
  iter (fun x : (List Str) × Int => rule_devices_b1 p0x0 p1x0 x.1 x.2) (l5, n6)

noncomputable def rule_devices (p0x0 : List Sample) (p1x0 : Str) : Option (List Str) :=
  rule_devices_l1 p0x0 p1x0 [] (0 : Int)

noncomputable def rule_track_now_j8 (n18 : Int) (n19 : Int) (n20 : Int) : Option Int :=
  if n19 ≤ n18 then
    some (1 : Int)
  else
    if n18 < n20 then
      some (2 : Int)
    else
      some (0 : Int)

noncomputable def rule_track_now_j2 (p0x0 : Rule_track) (n3 : Int) (n4 : Int) : Option Int :=
  if (!p0x0.rule_.Above) = true then
    rule_track_now_j8 (w64 (-n3)) (w64 (-(w64 (p0x0.rule_.On * n4)))) (w64 (-(w64 (p0x0.rule_.Off * n4))))
  else
    rule_track_now_j8 n3 (w64 (p0x0.rule_.On * n4)) (w64 (p0x0.rule_.Off * n4))

noncomputable def rule_track_now_j3 (p0x0 : Rule_track) (n6 : Int) (n7 : Int) : Option Int :=
  rule_track_now_j2 p0x0 n6 n7

noncomputable def rule_track_now_j4 (p0x0 : Rule_track) (n9 : Int) (n10 : Int) : Option Int :=
  rule_track_now_j3 p0x0 n9 n10

noncomputable def rule_track_now_j5 (p0x0 : Rule_track) (n12 : Int) (n13 : Int) : Option Int :=
  rule_track_now_j4 p0x0 n12 n13

noncomputable def rule_track_now_j6 (p0x0 : Rule_track) (n14 : Int) : Option Int :=
  rule_track_now_j5 p0x0 n14 (1 : Int)

noncomputable def rule_track_now_j7 (p0x0 : Rule_track) (n15 : Int) : Option Int :=
  rule_track_now_j6 p0x0 n15

noncomputable def rule_track_now_j1 (p0x0 : Rule_track) (c1 : Bool) : Option Int :=
  if c1 = true then
    (idx [(0 : Int), (2 : Int), (1 : Int)] p0x0.rule_.Empty).bind fun v2 =>
    some v2
  else
    if p0x0.rule_.Agg = (1 : Int) then
      (idx p0x0.window_ (w64 ((p0x0.window_.length : Int) - (1 : Int)))).bind fun v5 =>
      rule_track_now_j2 p0x0 v5.value_ (1 : Int)
    else
      if p0x0.rule_.Agg = (2 : Int) then
        (idx p0x0.least_ (0 : Int)).bind fun v8 =>
        rule_track_now_j3 p0x0 v8.value_ (1 : Int)
      else
        if p0x0.rule_.Agg = (3 : Int) then
          (idx p0x0.most_ (0 : Int)).bind fun v11 =>
          rule_track_now_j4 p0x0 v11.value_ (1 : Int)
        else
          if p0x0.rule_.Agg = (4 : Int) then
            rule_track_now_j5 p0x0 p0x0.sum_ (p0x0.window_.length : Int)
          else
            if p0x0.rule_.Agg = (5 : Int) then
              rule_track_now_j6 p0x0 (p0x0.window_.length : Int)
            else
              if p0x0.rule_.Agg = (6 : Int) then
                (idx p0x0.window_ (w64 ((p0x0.window_.length : Int) - (1 : Int)))).bind fun v16 =>
                (idx p0x0.window_ (0 : Int)).bind fun v17 =>
                rule_track_now_j7 p0x0 (w64 (v16.value_ - v17.value_))
              else
                rule_track_now_j7 p0x0 (0 : Int)

noncomputable def rule_track_now (p0x0 : Rule_track) : Option Int :=
  rule_track_now_j1 p0x0 ((decide ((p0x0.window_.length : Int) = (0 : Int))) && (decide (p0x0.rule_.Agg ≠ (5 : Int))))

noncomputable def rule_newTrack (p0x0 : Rule) : Option Rule_track :=
  (rule_track_now (⟨p0x0, [], [], [], (0 : Int), (0 : Int), (0 : Int), false, (0 : Int)⟩ : Rule_track)).bind fun v2 =>
  some (⟨p0x0, [], [], [], (0 : Int), v2, (0 : Int), false, (0 : Int)⟩ : Rule_track)

noncomputable def rule_track_turn_j2 (p0x0 : Rule_track) (c2 : Bool) : Int :=
  if c2 = true then
    w64 (p0x0.since_ + p0x0.rule_.Rest)
  else
    (345686400000 : Int)

noncomputable def rule_track_turn_j1 (p0x0 : Rule_track) (c1 : Bool) : Int :=
  if c1 = true then
    w64 (p0x0.since_ + p0x0.rule_.Hold)
  else
    rule_track_turn_j2 p0x0 (p0x0.firing_ && (decide (p0x0.state_ = (2 : Int))))

noncomputable def rule_track_turn (p0x0 : Rule_track) : Int :=
  rule_track_turn_j1 p0x0 ((!p0x0.firing_) && (decide (p0x0.state_ = (1 : Int))))

noncomputable def rule_track_due_j1 (n1 : Int) : Option Int :=
  some n1

noncomputable def rule_track_due (p0x0 : Rule_track) : Option Int :=
  if (0 : Int) < (p0x0.window_.length : Int) then
    (idx p0x0.window_ (0 : Int)).bind fun v2 =>
    rule_track_due_j1 (min (min (rule_track_turn p0x0) (345686400000 : Int)) (w64 (v2.at_ + p0x0.rule_.Long)))
  else
    rule_track_due_j1 (min (rule_track_turn p0x0) (345686400000 : Int))

noncomputable def rule_track_drop_j3 (n14 : Int) (v17 : Rule_sample) (l19 : List Rule_sample) (l22 : List Rule_sample) (l27 : List Rule_sample) : Option (((List Rule_sample) × (List Rule_sample) × (List Rule_sample) × Int) ⊕ Rule_track) :=
  some (.inl (l19, l22, l27, w64 (n14 - v17.value_)))

noncomputable def rule_track_drop_j2 (l12 : List Rule_sample) (n14 : Int) (v17 : Rule_sample) (l19 : List Rule_sample) (l22 : List Rule_sample) : Option (((List Rule_sample) × (List Rule_sample) × (List Rule_sample) × Int) ⊕ Rule_track) :=
  (idx l12 (0 : Int)).bind fun v26 =>
  if v26 = v17 then
    (slc l12 (1 : Int) (l12.length : Int)).bind fun l29 =>
    rule_track_drop_j3 n14 v17 l19 l22 l29
  else
    rule_track_drop_j3 n14 v17 l19 l22 l12

noncomputable def rule_track_drop_j1 (p0x0 : Rule_track) (l8 : List Rule_sample) (l10 : List Rule_sample) (l12 : List Rule_sample) (n14 : Int) (c15 : Bool) : Option (((List Rule_sample) × (List Rule_sample) × (List Rule_sample) × Int) ⊕ Rule_track) :=
  if c15 = true then
    (idx l8 (0 : Int)).bind fun v17 =>
    (slc l8 (1 : Int) (l8.length : Int)).bind fun l19 =>
    (idx l10 (0 : Int)).bind fun v21 =>
    if v21 = v17 then
      (slc l10 (1 : Int) (l10.length : Int)).bind fun l24 =>
      rule_track_drop_j2 l12 n14 v17 l19 l24
    else
      rule_track_drop_j2 l12 n14 v17 l19 l10
  else
    Option.map .inr (some (⟨p0x0.rule_, l8, l10, l12, n14, p0x0.state_, p0x0.since_, p0x0.firing_, p0x0.began_⟩ : Rule_track))

noncomputable def rule_track_drop_b1 (p0x0 : Rule_track) (p1x0 : Int) (l8 : List Rule_sample) (l10 : List Rule_sample) (l12 : List Rule_sample) (n14 : Int) : Option (((List Rule_sample) × (List Rule_sample) × (List Rule_sample) × Int) ⊕ Rule_track) :=
  if (0 : Int) < (l8.length : Int) then
    (idx l8 (0 : Int)).bind fun v16 =>
    rule_track_drop_j1 p0x0 l8 l10 l12 n14 (decide ((w64 (v16.at_ + p0x0.rule_.Long)) ≤ p1x0))
  else
    rule_track_drop_j1 p0x0 l8 l10 l12 n14 false

noncomputable def rule_track_drop_l1 (p0x0 : Rule_track) (p1x0 : Int) (l8 : List Rule_sample) (l10 : List Rule_sample) (l12 : List Rule_sample) (n14 : Int) : Option Rule_track :=
  iter (fun x : (List Rule_sample) × (List Rule_sample) × (List Rule_sample) × Int => rule_track_drop_b1 p0x0 p1x0 x.1 x.2.1 x.2.2.1 x.2.2.2) (l8, l10, l12, n14)

noncomputable def rule_track_drop (p0x0 : Rule_track) (p1x0 : Int) : Option Rule_track :=
  rule_track_drop_l1 p0x0 p1x0 p0x0.window_ p0x0.least_ p0x0.most_ p0x0.sum_

noncomputable def rule_track_update_j1 (p0x0 : Rule_track) (n2 : Int) (n3 : Int) : Option Rule_track :=
  some (⟨p0x0.rule_, p0x0.window_, p0x0.least_, p0x0.most_, p0x0.sum_, n2, n3, p0x0.firing_, p0x0.began_⟩ : Rule_track)

noncomputable def rule_track_update (p0x0 : Rule_track) (p1x0 : Int) : Option Rule_track :=
  (rule_track_now p0x0).bind fun v1 =>
  if v1 ≠ p0x0.state_ then
    rule_track_update_j1 p0x0 v1 p1x0
  else
    rule_track_update_j1 p0x0 p0x0.state_ p0x0.since_

noncomputable def rule_spansOf_1x_j1 (l2 : List Rule_span) : Option (List Rule_span) :=
  some l2

noncomputable def rule_spansOf_1x (p0x0 : Int) (p1x0 : Bool) (p2x0 : List Rule_span) : Option (List Rule_span) :=
  if p1x0 = true then
    (app p2x0 [(⟨p0x0, (345686400000 : Int)⟩ : Rule_span)]).bind fun l3 =>
    rule_spansOf_1x_j1 l3
  else
    (idx p2x0 (w64 ((p2x0.length : Int) - (1 : Int)))).bind fun v5 =>
    rule_spansOf_1x_j1 (p2x0.set (w64 ((p2x0.length : Int) - (1 : Int))).toNat (⟨v5.from_, p0x0⟩ : Rule_span))

noncomputable def rule_track_advance_c0x9xrule_spansOf_1x_j1 (v41 : Rule_track) (c48 : Bool) (n49 : Int) (l51 : List Rule_span) : Option (((List Rule_sample) × (List Rule_sample) × (List Rule_sample) × Int × Int × Int × Bool × Int × (List Rule_span)) ⊕ (Rule_track × (List Rule_span))) :=
  some (.inl (v41.window_, v41.least_, v41.most_, v41.sum_, v41.state_, v41.since_, c48, n49, l51))

noncomputable def rule_track_advance_c0x9xrule_spansOf_1x_j2 (l32 : List Rule_span) (v33 : Int) (v41 : Rule_track) (n52 : Int) : Option (((List Rule_sample) × (List Rule_sample) × (List Rule_sample) × Int × Int × Int × Bool × Int × (List Rule_span)) ⊕ (Rule_track × (List Rule_span))) :=
  (rule_spansOf_1x v33 (!v41.firing_) l32).bind fun v53 =>
  rule_track_advance_c0x9xrule_spansOf_1x_j1 v41 (!v41.firing_) n52 v53

noncomputable def rule_track_advance_c0x9xrule_spansOf_1x_b1 (p0x0 : Rule_track) (p1x0 : Int) (l18 : List Rule_sample) (l21 : List Rule_sample) (l24 : List Rule_sample) (n26 : Int) (n27 : Int) (n28 : Int) (c29 : Bool) (n30 : Int) (l32 : List Rule_span) : Option (((List Rule_sample) × (List Rule_sample) × (List Rule_sample) × Int × Int × Int × Bool × Int × (List Rule_span)) ⊕ (Rule_track × (List Rule_span))) :=
  (rule_track_due (⟨p0x0.rule_, l18, l21, l24, n26, n27, n28, c29, n30⟩ : Rule_track)).bind fun v33 =>
  if (min p1x0 (345686400000 : Int)) ≤ v33 then
    Option.map .inr (some ((⟨p0x0.rule_, l18, l21, l24, n26, n27, n28, c29, n30⟩ : Rule_track), l32))
  else
    (rule_track_drop (⟨p0x0.rule_, l18, l21, l24, n26, n27, n28, c29, n30⟩ : Rule_track) v33).bind fun v34 =>
    (rule_track_update (⟨p0x0.rule_, v34.window_, v34.least_, v34.most_, v34.sum_, v34.state_, v34.since_, v34.firing_, v34.began_⟩ : Rule_track) v33).bind fun v41 =>
    if (rule_track_turn (⟨p0x0.rule_, v41.window_, v41.least_, v41.most_, v41.sum_, v41.state_, v41.since_, v41.firing_, v41.began_⟩ : Rule_track)) = v33 then
      if (!v41.firing_) = true then
        rule_track_advance_c0x9xrule_spansOf_1x_j2 l32 v33 v41 v33
      else
        rule_track_advance_c0x9xrule_spansOf_1x_j2 l32 v33 v41 v41.began_
    else
      rule_track_advance_c0x9xrule_spansOf_1x_j1 v41 v41.firing_ v41.began_ l32

noncomputable def rule_track_advance_c0x9xrule_spansOf_1x_l1 (p0x0 : Rule_track) (p1x0 : Int) (l18 : List Rule_sample) (l21 : List Rule_sample) (l24 : List Rule_sample) (n26 : Int) (n27 : Int) (n28 : Int) (c29 : Bool) (n30 : Int) (l32 : List Rule_span) : Option (Rule_track × (List Rule_span)) :=
  iter (fun x : (List Rule_sample) × (List Rule_sample) × (List Rule_sample) × Int × Int × Int × Bool × Int × (List Rule_span) => rule_track_advance_c0x9xrule_spansOf_1x_b1 p0x0 p1x0 x.1 x.2.1 x.2.2.1 x.2.2.2.1 x.2.2.2.2.1 x.2.2.2.2.2.1 x.2.2.2.2.2.2.1 x.2.2.2.2.2.2.2.1 x.2.2.2.2.2.2.2.2) (l18, l21, l24, n26, n27, n28, c29, n30, l32)

noncomputable def rule_track_advance_c0x9xrule_spansOf_1x (p0x0 : Rule_track) (p1x0 : Int) (p2x0 : List Rule_span) : Option (Rule_track × (List Rule_span)) :=
  rule_track_advance_c0x9xrule_spansOf_1x_l1 p0x0 p1x0 p0x0.window_ p0x0.least_ p0x0.most_ p0x0.sum_ p0x0.state_ p0x0.since_ p0x0.firing_ p0x0.began_ p2x0

noncomputable def rule_track_put_k3 (p0x0 : Rule_track) (p1x0 : Rule_sample) (v2 : Rule_track) (l9 : List Rule_sample) (l18 : List Rule_sample) (l22 : List Rule_sample) : Option Rule_track :=
  (app l22 [p1x0]).bind fun l27 =>
  (rule_track_update (⟨p0x0.rule_, l9, l18, l27, w64 (v2.sum_ + p1x0.value_), v2.state_, v2.since_, v2.firing_, v2.began_⟩ : Rule_track) p1x0.at_).bind fun v29 =>
  some (⟨p0x0.rule_, v29.window_, v29.least_, v29.most_, v29.sum_, v29.state_, v29.since_, v29.firing_, v29.began_⟩ : Rule_track)

noncomputable def rule_track_put_j2 (p0x0 : Rule_track) (p1x0 : Rule_sample) (v2 : Rule_track) (l9 : List Rule_sample) (l18 : List Rule_sample) (l22 : List Rule_sample) (n23 : Int) (c24 : Bool) : Option (((List Rule_sample) × Int) ⊕ Rule_track) :=
  if c24 = true then
    (slc l22 (0 : Int) (w64 (n23 - (1 : Int)))).bind fun l26 =>
    some (.inl (l26, w64 (n23 - (1 : Int))))
  else
    Option.map .inr (rule_track_put_k3 p0x0 p1x0 v2 l9 l18 l22)

noncomputable def rule_track_put_b2 (p0x0 : Rule_track) (p1x0 : Rule_sample) (v2 : Rule_track) (l9 : List Rule_sample) (l18 : List Rule_sample) (l22 : List Rule_sample) (n23 : Int) : Option (((List Rule_sample) × Int) ⊕ Rule_track) :=
  if (0 : Int) < n23 then
    (idx l22 (w64 (n23 - (1 : Int)))).bind fun v25 =>
    rule_track_put_j2 p0x0 p1x0 v2 l9 l18 l22 n23 (decide (v25.value_ ≤ p1x0.value_))
  else
    rule_track_put_j2 p0x0 p1x0 v2 l9 l18 l22 n23 false

noncomputable def rule_track_put_l2 (p0x0 : Rule_track) (p1x0 : Rule_sample) (v2 : Rule_track) (l9 : List Rule_sample) (l18 : List Rule_sample) (l22 : List Rule_sample) (n23 : Int) : Option Rule_track :=
  iter (fun x : (List Rule_sample) × Int => rule_track_put_b2 p0x0 p1x0 v2 l9 l18 x.1 x.2) (l22, n23)

noncomputable def rule_track_put_k4 (p0x0 : Rule_track) (p1x0 : Rule_sample) (v2 : Rule_track) (l9 : List Rule_sample) (l13 : List Rule_sample) : Option Rule_track :=
  (app l13 [p1x0]).bind fun l18 =>
  rule_track_put_l2 p0x0 p1x0 v2 l9 l18 v2.most_ (v2.most_.length : Int)

noncomputable def rule_track_put_j1 (p0x0 : Rule_track) (p1x0 : Rule_sample) (v2 : Rule_track) (l9 : List Rule_sample) (l13 : List Rule_sample) (n14 : Int) (c15 : Bool) : Option (((List Rule_sample) × Int) ⊕ Rule_track) :=
  if c15 = true then
    (slc l13 (0 : Int) (w64 (n14 - (1 : Int)))).bind fun l17 =>
    some (.inl (l17, w64 (n14 - (1 : Int))))
  else
    Option.map .inr (rule_track_put_k4 p0x0 p1x0 v2 l9 l13)

noncomputable def rule_track_put_b1 (p0x0 : Rule_track) (p1x0 : Rule_sample) (v2 : Rule_track) (l9 : List Rule_sample) (l13 : List Rule_sample) (n14 : Int) : Option (((List Rule_sample) × Int) ⊕ Rule_track) :=
  if (0 : Int) < n14 then
    (idx l13 (w64 (n14 - (1 : Int)))).bind fun v16 =>
    rule_track_put_j1 p0x0 p1x0 v2 l9 l13 n14 (decide (p1x0.value_ ≤ v16.value_))
  else
    rule_track_put_j1 p0x0 p1x0 v2 l9 l13 n14 false

noncomputable def rule_track_put_l1 (p0x0 : Rule_track) (p1x0 : Rule_sample) (v2 : Rule_track) (l9 : List Rule_sample) (l13 : List Rule_sample) (n14 : Int) : Option Rule_track :=
  iter (fun x : (List Rule_sample) × Int => rule_track_put_b1 p0x0 p1x0 v2 l9 x.1 x.2) (l13, n14)

noncomputable def rule_track_put (p0x0 : Rule_track) (p1x0 : Rule_sample) : Option Rule_track :=
  (rule_track_drop p0x0 p1x0.at_).bind fun v2 =>
  (app v2.window_ [p1x0]).bind fun l9 =>
  rule_track_put_l1 p0x0 p1x0 v2 l9 v2.least_ (v2.least_.length : Int)

noncomputable def rule_spansOf_k1 (p0x0 : Rule) (l28 : List Rule_span) (l30 : List Rule_sample) (l33 : List Rule_sample) (l36 : List Rule_sample) (n38 : Int) (n39 : Int) (n40 : Int) (c41 : Bool) (n42 : Int) : Option (List Rule_span) :=
  (rule_track_advance_c0x9xrule_spansOf_1x (⟨p0x0, l30, l33, l36, n38, n39, n40, c41, n42⟩ : Rule_track) (345686400000 : Int) l28).bind fun v62 =>
  some v62.2

noncomputable def rule_spansOf_b1 (p0x0 : Rule) (p1x0 : List Rule_sample) (l28 : List Rule_span) (l30 : List Rule_sample) (l33 : List Rule_sample) (l36 : List Rule_sample) (n38 : Int) (n39 : Int) (n40 : Int) (c41 : Bool) (n42 : Int) (n43 : Int) : Option (((List Rule_span) × (List Rule_sample) × (List Rule_sample) × (List Rule_sample) × Int × Int × Int × Bool × Int × Int) ⊕ (List Rule_span)) :=
  if n43 < (p1x0.length : Int) then
    (idx p1x0 n43).bind fun v45 =>
    (rule_track_advance_c0x9xrule_spansOf_1x (⟨p0x0, l30, l33, l36, n38, n39, n40, c41, n42⟩ : Rule_track) v45.at_ l28).bind fun v47 =>
    (rule_track_put (⟨p0x0, v47.1.window_, v47.1.least_, v47.1.most_, v47.1.sum_, v47.1.state_, v47.1.since_, v47.1.firing_, v47.1.began_⟩ : Rule_track) v45).bind fun v55 =>
    some (.inl (v47.2, v55.window_, v55.least_, v55.most_, v55.sum_, v55.state_, v55.since_, v55.firing_, v55.began_, w64 (n43 + (1 : Int))))
  else
    Option.map .inr (rule_spansOf_k1 p0x0 l28 l30 l33 l36 n38 n39 n40 c41 n42)

noncomputable def rule_spansOf_l1 (p0x0 : Rule) (p1x0 : List Rule_sample) (l28 : List Rule_span) (l30 : List Rule_sample) (l33 : List Rule_sample) (l36 : List Rule_sample) (n38 : Int) (n39 : Int) (n40 : Int) (c41 : Bool) (n42 : Int) (n43 : Int) : Option (List Rule_span) :=
  iter (fun x : (List Rule_span) × (List Rule_sample) × (List Rule_sample) × (List Rule_sample) × Int × Int × Int × Bool × Int × Int => rule_spansOf_b1 p0x0 p1x0 x.1 x.2.1 x.2.2.1 x.2.2.2.1 x.2.2.2.2.1 x.2.2.2.2.2.1 x.2.2.2.2.2.2.1 x.2.2.2.2.2.2.2.1 x.2.2.2.2.2.2.2.2.1 x.2.2.2.2.2.2.2.2.2) (l28, l30, l33, l36, n38, n39, n40, c41, n42, n43)

noncomputable def rule_spansOf (p0x0 : Rule) (p1x0 : List Rule_sample) : Option (List Rule_span) :=
  (rule_newTrack p0x0).bind fun v2 =>
  rule_spansOf_l1 p0x0 p1x0 [] v2.window_ v2.least_ v2.most_ v2.sum_ v2.state_ v2.since_ v2.firing_ v2.began_ (0 : Int)

noncomputable def rule_whole_j1 (n8 : Int) (l11 : List (Str × (List Rule_sample))) : Option (((List (Str × (List Rule_sample))) × Int) ⊕ (List Spell)) :=
  some (.inl (l11, w64 (n8 + (1 : Int))))

noncomputable def rule_whole_b3 (p0x0 : Rule) (n24 : Int) (v26 : Str) (v29 : (List Rule_span)) (l35 : List Spell) (n36 : Int) : Option (((List Spell) × Int) ⊕ (((List Spell) × Int) ⊕ (List Spell))) :=
  if n36 < (v29.length : Int) then
    (idx v29 n36).bind fun v37 =>
    (app l35 [(⟨v26, p0x0.Key, v37.from_, v37.to_⟩ : Spell)]).bind fun l39 =>
    some (.inl (l39, w64 (n36 + (1 : Int))))
  else
    Option.map .inr (some (.inl (l35, w64 (n24 + (1 : Int)))))

noncomputable def rule_whole_l3 (p0x0 : Rule) (n24 : Int) (v26 : Str) (v29 : (List Rule_span)) (l35 : List Spell) (n36 : Int) : Option (((List Spell) × Int) ⊕ (List Spell)) :=
  iter (fun x : (List Spell) × Int => rule_whole_b3 p0x0 n24 v26 v29 x.1 x.2) (l35, n36)

noncomputable def rule_whole_b2 (p0x0 : Rule) (l6 : List (Str × (List Rule_sample))) (v17 : (List Str)) (l23 : List Spell) (n24 : Int) : Option (((List Spell) × Int) ⊕ (List Spell)) :=
  if n24 < (v17.length : Int) then
    (idx v17 n24).bind fun v26 =>
    (mgetO l6 v26 []).bind fun v27 =>
    (rule_spansOf p0x0 v27).bind fun v29 =>
    rule_whole_l3 p0x0 n24 v26 v29 l23 (0 : Int)
  else
    Option.map .inr (some l23)

noncomputable def rule_whole_l2 (p0x0 : Rule) (l6 : List (Str × (List Rule_sample))) (v17 : (List Str)) (l23 : List Spell) (n24 : Int) : Option (List Spell) :=
  iter (fun x : (List Spell) × Int => rule_whole_b2 p0x0 l6 v17 x.1 x.2) (l23, n24)

noncomputable def rule_whole_k2 (p0x0 : Rule) (p1x0 : List Sample) (l6 : List (Str × (List Rule_sample))) : Option (List Spell) :=
  (rule_devices p1x0 p0x0.Metric).bind fun v17 =>
  rule_whole_l2 p0x0 l6 v17 [] (0 : Int)

noncomputable def rule_whole_b1 (p0x0 : Rule) (p1x0 : List Sample) (l6 : List (Str × (List Rule_sample))) (n8 : Int) : Option (((List (Str × (List Rule_sample))) × Int) ⊕ (List Spell)) :=
  if n8 < (p1x0.length : Int) then
    (idx p1x0 n8).bind fun v9 =>
    if v9.Metric = p0x0.Metric then
      (mgetO l6 v9.Device []).bind fun v13 =>
      (app v13 [(⟨v9.At, v9.Value⟩ : Rule_sample)]).bind fun l15 =>
      rule_whole_j1 n8 (mset l6 v9.Device l15)
    else
      rule_whole_j1 n8 l6
  else
    Option.map .inr (rule_whole_k2 p0x0 p1x0 l6)

noncomputable def rule_whole_l1 (p0x0 : Rule) (p1x0 : List Sample) (l6 : List (Str × (List Rule_sample))) (n8 : Int) : Option (List Spell) :=
  iter (fun x : (List (Str × (List Rule_sample))) × Int => rule_whole_b1 p0x0 p1x0 x.1 x.2) (l6, n8)

noncomputable def rule_whole (p0x0 : Rule) (p1x0 : List Sample) : Option (List Spell) :=
  rule_whole_l1 p0x0 p1x0 [] (0 : Int)

noncomputable def rule_begun_j2 (n7 : Int) (n11 : Int) : Option ((Int × Int) ⊕ Int) :=
  some (.inl (n11, w64 (n7 + (1 : Int))))

noncomputable def rule_begun_j1 (n6 : Int) (n7 : Int) (c10 : Bool) : Option ((Int × Int) ⊕ Int) :=
  if c10 = true then
    rule_begun_j2 n7 (w64 (n6 + (1 : Int)))
  else
    rule_begun_j2 n7 n6

noncomputable def rule_begun_b1 (p2x0 : Window) (v2 : (List Spell)) (n6 : Int) (n7 : Int) : Option ((Int × Int) ⊕ Int) :=
  if n7 < (v2.length : Int) then
    (idx v2 n7).bind fun v8 =>
    rule_begun_j1 n6 n7 ((decide (p2x0.From ≤ v8.From)) && (decide (v8.From < p2x0.To)))
  else
    Option.map .inr (some n6)

noncomputable def rule_begun_l1 (p2x0 : Window) (v2 : (List Spell)) (n6 : Int) (n7 : Int) : Option Int :=
  iter (fun x : Int × Int => rule_begun_b1 p2x0 v2 x.1 x.2) (n6, n7)

noncomputable def rule_begun (p0x0 : Rule) (p1x0 : List Sample) (p2x0 : Window) : Option Int :=
  (rule_whole p0x0 p1x0).bind fun v2 =>
  rule_begun_l1 p2x0 v2 (0 : Int) (0 : Int)

noncomputable def rule_Tune_b1 (p0x0 : Rule) (p1x0 : List Sample) (p2x0 : Window) (p3x0 : Int) (n7 : Int) (n11 : Int) (n12 : Int) (n13 : Int) : Option ((Int × Int × Int) ⊕ (Int × Int)) :=
  if n13 < (1001 : Int) then
    (rule_CheckRules [(⟨p0x0.Key, p0x0.Metric, p0x0.Agg, p0x0.Long, p0x0.Above, n11, n12, p0x0.Hold, p0x0.Rest, p0x0.Empty⟩ : Rule)]).bind fun v14 =>
    if v14 ≠ (0 : Int) then
      Option.map .inr (some ((0 : Int), (8 : Int)))
    else
      (rule_begun (⟨p0x0.Key, p0x0.Metric, p0x0.Agg, p0x0.Long, p0x0.Above, n11, n12, p0x0.Hold, p0x0.Rest, p0x0.Empty⟩ : Rule) p1x0 p2x0).bind fun v15 =>
      if v15 ≤ p3x0 then
        Option.map .inr (some (n11, (0 : Int)))
      else
        some (.inl (w64 (n11 + n7), w64 (n12 + n7), w64 (n13 + (1 : Int))))
  else
    Option.map .inr (some ((0 : Int), (8 : Int)))

noncomputable def rule_Tune_l1 (p0x0 : Rule) (p1x0 : List Sample) (p2x0 : Window) (p3x0 : Int) (n7 : Int) (n11 : Int) (n12 : Int) (n13 : Int) : Option (Int × Int) :=
  iter (fun x : Int × Int × Int => rule_Tune_b1 p0x0 p1x0 p2x0 p3x0 n7 x.1 x.2.1 x.2.2) (n11, n12, n13)

noncomputable def rule_Tune_j2 (p0x0 : Rule) (p1x0 : List Sample) (p2x0 : Window) (p3x0 : Int) (n7 : Int) : Option (Int × Int) :=
  rule_Tune_l1 p0x0 p1x0 p2x0 p3x0 n7 p0x0.On p0x0.Off (0 : Int)

noncomputable def rule_Tune_j1 (p0x0 : Rule) (p1x0 : List Sample) (p2x0 : Window) (p3x0 : Int) (c6 : Bool) : Option (Int × Int) :=
  if c6 = true then
    some ((0 : Int), (1 : Int))
  else
    if (!p0x0.Above) = true then
      rule_Tune_j2 p0x0 p1x0 p2x0 p3x0 (-1 : Int)
    else
      rule_Tune_j2 p0x0 p1x0 p2x0 p3x0 (1 : Int)

noncomputable def rule_Tune (p0x0 : Rule) (p1x0 : List Sample) (p2x0 : Window) (p3x0 : Int) : Option (Int × Int) :=
  (rule_CheckRules [p0x0]).bind fun v3 =>
  (rule_CheckSamples p1x0).bind fun v4 =>
  (base_First [v3, v4]).bind fun v5 =>
  if v5 ≠ (0 : Int) then
    some ((0 : Int), v5)
  else
    if (300 : Int) < (p1x0.length : Int) then
      some ((0 : Int), (2 : Int))
    else
      rule_Tune_j1 p0x0 p1x0 p2x0 p3x0 ((!(base_Window p2x0)) || (base_Out p3x0 (0 : Int) (5000 : Int)))

noncomputable def rule_Idle_j1 (n8 : Int) (n11 : Int) : Option ((Int × Int) ⊕ (Int × Int)) :=
  some (.inl (n11, w64 (n8 + (1 : Int))))

noncomputable def rule_Idle_b1 (p0x0 : Rule) (p1x0 : List Sample) (n7 : Int) (n8 : Int) : Option ((Int × Int) ⊕ (Int × Int)) :=
  if n8 < (p1x0.length : Int) then
    (idx p1x0 n8).bind fun v9 =>
    if v9.Metric ≠ p0x0.Metric then
      rule_Idle_j1 n8 (w64 (n7 + (1 : Int)))
    else
      rule_Idle_j1 n8 n7
  else
    Option.map .inr (some (n7, (0 : Int)))

noncomputable def rule_Idle_l1 (p0x0 : Rule) (p1x0 : List Sample) (n7 : Int) (n8 : Int) : Option (Int × Int) :=
  iter (fun x : Int × Int => rule_Idle_b1 p0x0 p1x0 x.1 x.2) (n7, n8)

noncomputable def rule_Idle (p0x0 : Rule) (p1x0 : List Sample) : Option (Int × Int) :=
  (rule_CheckRules [p0x0]).bind fun v2 =>
  (rule_CheckSamples p1x0).bind fun v3 =>
  (base_First [v2, v3]).bind fun v4 =>
  if v4 ≠ (0 : Int) then
    some ((0 : Int), v4)
  else
    rule_Idle_l1 p0x0 p1x0 (0 : Int) (0 : Int)

noncomputable def Q_in_j1 (c1 : Bool) : Bool :=
  c1

noncomputable def Q_in (p0x0 : Int) (p1x0 : Int) (p2x0 : Int) : Bool :=
  Q_in_j1 ((decide (p1x0 ≤ p0x0)) && (decide (p0x0 ≤ p2x0)))

noncomputable def Q_Key_j1 (c1 : Bool) : Option Bool :=
  some c1

noncomputable def Q_Key (p0x0 : Str) : Option Bool :=
  if (Q_in (p0x0.length : Int) (1 : Int) (40 : Int)) = true then
    (trimO p0x0 ([97, 98, 99, 100, 101, 102, 103, 104, 105, 106, 107, 108, 109, 110, 111, 112, 113, 114, 115, 116, 117, 118, 119, 120, 121, 122, 48, 49, 50, 51, 52, 53, 54, 55, 56, 57, 45, 95] : Str)).bind fun v2 =>
    if v2 = ([] : Str) then
      (idx p0x0 (0 : Int)).bind fun c3 =>
      Q_Key_j1 (decide ((0 : Int) ≤ (indexByteI ([97, 98, 99, 100, 101, 102, 103, 104, 105, 106, 107, 108, 109, 110, 111, 112, 113, 114, 115, 116, 117, 118, 119, 120, 121, 122] : Str) (c3.toNat : Int))))
    else
      Q_Key_j1 false
  else
    Q_Key_j1 false

noncomputable def Q_RulesFault_1x (p0x0 : Int) : Bool :=
  (Q_in p0x0 (-1000000000 : Int) (1000000000 : Int))

noncomputable def Q_RulesFault_j2 (n2 : Int) (v3 : Rule) (c9 : Bool) : Option (Int ⊕ Int) :=
  if c9 = true then
    Option.map .inr (some (1 : Int))
  else
    if (!(Q_in v3.Empty (0 : Int) (2 : Int))) = true then
      Option.map .inr (some (4 : Int))
    else
      some (.inl (w64 (n2 + (1 : Int))))

noncomputable def Q_RulesFault_j1 (n2 : Int) (v3 : Rule) (c6 : Bool) : Option (Int ⊕ Int) :=
  if c6 = true then
    Option.map .inr (some (7 : Int))
  else
    (Q_Key v3.Metric).bind fun v8 =>
    if (!v8) = true then
      Option.map .inr (some (5 : Int))
    else
      if (!(Q_in v3.Agg (1 : Int) (6 : Int))) = true then
        Option.map .inr (some (4 : Int))
      else
        Q_RulesFault_j2 n2 v3 ((!(Q_in v3.Long (1 : Int) (2592000000 : Int))) || ((!(Q_RulesFault_1x v3.On)) || ((!(Q_RulesFault_1x v3.Off)) || (if v3.Above = true then (decide (v3.On < v3.Off)) || (if (!v3.Above) = true then (decide (v3.Off < v3.On)) || ((!(Q_in v3.Hold (0 : Int) (2592000000 : Int))) || (!(Q_in v3.Rest (0 : Int) (2592000000 : Int)))) else (!(Q_in v3.Hold (0 : Int) (2592000000 : Int))) || (!(Q_in v3.Rest (0 : Int) (2592000000 : Int)))) else if (!v3.Above) = true then (decide (v3.Off < v3.On)) || ((!(Q_in v3.Hold (0 : Int) (2592000000 : Int))) || (!(Q_in v3.Rest (0 : Int) (2592000000 : Int)))) else (!(Q_in v3.Hold (0 : Int) (2592000000 : Int))) || (!(Q_in v3.Rest (0 : Int) (2592000000 : Int)))))))

noncomputable def Q_RulesFault_b1 (p0x0 : List Rule) (n2 : Int) : Option (Int ⊕ Int) :=
  if n2 < (p0x0.length : Int) then
    (idx p0x0 n2).bind fun v3 =>
    (Q_Key v3.Key).bind fun v5 =>
    if (!v5) = true then
      Option.map .inr (some (5 : Int))
    else
      if (0 : Int) < n2 then
        (idx p0x0 (w64 (n2 - (1 : Int)))).bind fun v7 =>
        Q_RulesFault_j1 n2 v3 (Op.bytesLess v3.Key v7.Key || v3.Key == v7.Key)
      else
        Q_RulesFault_j1 n2 v3 false
  else
    Option.map .inr (some (0 : Int))

noncomputable def Q_RulesFault_l1 (p0x0 : List Rule) (n2 : Int) : Option Int :=
  iter (fun x : Int => Q_RulesFault_b1 p0x0 x) n2

noncomputable def Q_RulesFault (p0x0 : List Rule) : Option Int :=
  if (100 : Int) < (p0x0.length : Int) then
    some (2 : Int)
  else
    Q_RulesFault_l1 p0x0 (0 : Int)

noncomputable def Q_MomentFault (p0x0 : Int) : Int :=
  if (!(Q_in p0x0 (0 : Int) (345686399999 : Int))) = true then
    (1 : Int)
  else
    (0 : Int)

noncomputable def Q_SampleFault_j1 (p0x0 : Sample) (c2 : Bool) : Option Int :=
  if c2 = true then
    some (5 : Int)
  else
    if (!(Q_in p0x0.Value (-1000000000 : Int) (1000000000 : Int))) = true then
      some (1 : Int)
    else
      some (0 : Int)

noncomputable def Q_SampleFault (p0x0 : Sample) : Option Int :=
  if (Q_MomentFault p0x0.At) ≠ (0 : Int) then
    some (1 : Int)
  else
    (Q_Key p0x0.Device).bind fun v3 =>
    if (!v3) = true then
      Q_SampleFault_j1 p0x0 true
    else
      (Q_Key p0x0.Metric).bind fun v4 =>
      Q_SampleFault_j1 p0x0 (!v4)

noncomputable def Q_SampleOrder (p0x0 : Sample) (p1x0 : Sample) : Option Int :=
  (cmp_Or_int [(cmp_Compare_int p0x0.At p1x0.At), (Lib.compareBytes p0x0.Device p1x0.Device), (Lib.compareBytes p0x0.Metric p1x0.Metric)]).bind fun v3 =>
  some v3

noncomputable def Q_SamplesFault_j1 (n2 : Int) (c6 : Bool) : Option (Int ⊕ Int) :=
  if c6 = true then
    Option.map .inr (some (7 : Int))
  else
    some (.inl (w64 (n2 + (1 : Int))))

noncomputable def Q_SamplesFault_b1 (p0x0 : List Sample) (n2 : Int) : Option (Int ⊕ Int) :=
  if n2 < (p0x0.length : Int) then
    (idx p0x0 n2).bind fun v3 =>
    (Q_SampleFault v3).bind fun v5 =>
    if v5 ≠ (0 : Int) then
      Option.map .inr (some v5)
    else
      if (0 : Int) < n2 then
        (idx p0x0 (w64 (n2 - (1 : Int)))).bind fun v7 =>
        (Q_SampleOrder v7 v3).bind fun v8 =>
        Q_SamplesFault_j1 n2 (decide ((0 : Int) ≤ v8))
      else
        Q_SamplesFault_j1 n2 false
  else
    Option.map .inr (some (0 : Int))

noncomputable def Q_SamplesFault_l1 (p0x0 : List Sample) (n2 : Int) : Option Int :=
  iter (fun x : Int => Q_SamplesFault_b1 p0x0 x) n2

noncomputable def Q_SamplesFault (p0x0 : List Sample) : Option Int :=
  if (5000 : Int) < (p0x0.length : Int) then
    some (2 : Int)
  else
    Q_SamplesFault_l1 p0x0 (0 : Int)

noncomputable def cmp_Or_Errno_b1 (p0x0 : List Int) (n2 : Int) : Option (Int ⊕ Int) :=
  if n2 < (p0x0.length : Int) then
    (idx p0x0 n2).bind fun v3 =>
    if v3 ≠ (0 : Int) then
      Option.map .inr (some v3)
    else
      some (.inl (w64 (n2 + (1 : Int))))
  else
    Option.map .inr (some (0 : Int))

noncomputable def cmp_Or_Errno_l1 (p0x0 : List Int) (n2 : Int) : Option Int :=
  iter (fun x : Int => cmp_Or_Errno_b1 p0x0 x) n2

noncomputable def cmp_Or_Errno (p0x0 : List Int) : Option Int :=
  cmp_Or_Errno_l1 p0x0 (0 : Int)

noncomputable def L_when (p0x0 : Bool) (p1x0 : Int) : Int :=
  if p0x0 = true then
    p1x0
  else
    (0 : Int)

noncomputable def Q_WindowFault_j1 (c2 : Bool) : Int :=
  if c2 = true then
    (1 : Int)
  else
    (0 : Int)

noncomputable def Q_WindowFault (p0x0 : Window) : Int :=
  Q_WindowFault_j1 ((!(Q_in p0x0.From (0 : Int) p0x0.To)) || (decide ((345686400000 : Int) < p0x0.To)))

/-- A copy of a list. -/
noncomputable def slices_Clone_string_string (p0x0 : List Str) : Option (List Str) :=
  app [] p0x0

noncomputable def Q_once (p0x0 : List Str) : Option (List Str) :=
  (slices_Clone_string_string p0x0).bind fun v1 =>
  (lenOk v1.length (fun r : (List Str) => r.length) (slices_Sort_string_string v1)).bind fun v3 =>
  (slices_Compact_string_string v3).bind fun v4 =>
  some v4

noncomputable def Q_devicesOf_j2 (n6 : Int) (l12 : List Str) : Option (((List Str) × Int) ⊕ (List Str)) :=
  some (.inl (l12, w64 (n6 + (1 : Int))))

noncomputable def Q_devicesOf_j1 (l5 : List Str) (n6 : Int) (v8 : Sample) (c10 : Bool) : Option (((List Str) × Int) ⊕ (List Str)) :=
  if c10 = true then
    (app l5 [v8.Device]).bind fun l13 =>
    Q_devicesOf_j2 n6 l13
  else
    Q_devicesOf_j2 n6 l5

noncomputable def Q_devicesOf_k3 (l5 : List Str) : Option (List Str) :=
  (Q_once l5).bind fun v15 =>
  some v15

noncomputable def Q_devicesOf_b1 (p0x0 : List Sample) (p1x0 : Str) (l5 : List Str) (n6 : Int) : Option (((List Str) × Int) ⊕ (List Str)) :=
  if n6 < (p0x0.length : Int) then
    (idx p0x0 n6).bind fun v8 =>
    Q_devicesOf_j1 l5 n6 v8 ((decide (p1x0 = ([] : Str))) || (decide (v8.Metric = p1x0)))
  else
    Option.map .inr (Q_devicesOf_k3 l5)

noncomputable def Q_devicesOf_l1 (p0x0 : List Sample) (p1x0 : Str) (l5 : List Str) (n6 : Int) : Option (List Str) :=
  iter (fun x : (List Str) × Int => Q_devicesOf_b1 p0x0 p1x0 x.1 x.2) (l5, n6)

noncomputable def Q_devicesOf (p0x0 : List Sample) (p1x0 : Str) : Option (List Str) :=
  Q_devicesOf_l1 p0x0 p1x0 [] (0 : Int)

/-- Sorted by Go. -/
noncomputable def slices_Sort_int_int (p0x0 : List Int) : Option (List Int) :=
  sort1 srtI p0x0

noncomputable def slices_Compact_int_int_j1 (n11 : Int) (l14 : List Int) (n15 : Int) : Option (((List Int) × Int × Int) ⊕ (Int ⊕ (List Int))) :=
  some (.inl (l14, n15, w64 (n11 + (1 : Int))))

noncomputable def slices_Compact_int_int_k2 (l9 : List Int) (n10 : Int) : Option (Int ⊕ (List Int)) :=
  (slc l9 n10 (l9.length : Int)).bind fun l18 =>
  (slc (clr l9 n10 l18.length (0 : Int)) (0 : Int) n10).bind fun l19 =>
  Option.map .inr (some l19)

noncomputable def slices_Compact_int_int_b2 (n2 : Int) (l5 : List Int) (l9 : List Int) (n10 : Int) (n11 : Int) : Option (((List Int) × Int × Int) ⊕ (Int ⊕ (List Int))) :=
  if n11 < (l5.length : Int) then
    (idxS l9 n2 l5.length n11).bind fun v12 =>
    (idxS l9 n2 l5.length (w64 (n11 - (1 : Int)))).bind fun v13 =>
    if v12 ≠ v13 then
      (idxS l9 n2 l5.length n11).bind fun v16 =>
      (idx l9 n10).bind fun v17 =>
      slices_Compact_int_int_j1 n11 (l9.set n10.toNat v16) (w64 (n10 + (1 : Int)))
    else
      slices_Compact_int_int_j1 n11 l9 n10
  else
    Option.map .inr (slices_Compact_int_int_k2 l9 n10)

noncomputable def slices_Compact_int_int_l2 (n2 : Int) (l5 : List Int) (l9 : List Int) (n10 : Int) (n11 : Int) : Option (Int ⊕ (List Int)) :=
  iter (fun x : (List Int) × Int × Int => slices_Compact_int_int_b2 n2 l5 x.1 x.2.1 x.2.2) (l9, n10, n11)

noncomputable def slices_Compact_int_int_b1 (p0x0 : List Int) (n2 : Int) : Option (Int ⊕ (List Int)) :=
  if n2 < (p0x0.length : Int) then
    (idx p0x0 n2).bind fun v3 =>
    (idx p0x0 (w64 (n2 - (1 : Int)))).bind fun v4 =>
    if v3 = v4 then
      (slc p0x0 n2 (p0x0.length : Int)).bind fun l5 =>
      slices_Compact_int_int_l2 n2 l5 p0x0 n2 (1 : Int)
    else
      some (.inl (w64 (n2 + (1 : Int))))
  else
    Option.map .inr (some p0x0)

noncomputable def slices_Compact_int_int_l1 (p0x0 : List Int) (n2 : Int) : Option (List Int) :=
  iter (fun x : Int => slices_Compact_int_int_b1 p0x0 x) n2

noncomputable def slices_Compact_int_int (p0x0 : List Int) : Option (List Int) :=
  if (p0x0.length : Int) < (2 : Int) then
    some p0x0
  else
    slices_Compact_int_int_l1 p0x0 (1 : Int)

noncomputable def Q_windowOf_j2 (n7 : Int) (l13 : List Int) : Option (((List Int) × Int) ⊕ (List Int)) :=
  some (.inl (l13, w64 (n7 + (1 : Int))))

noncomputable def Q_windowOf_j1 (l6 : List Int) (n7 : Int) (v9 : Sample) (c11 : Bool) : Option (((List Int) × Int) ⊕ (List Int)) :=
  if c11 = true then
    (app l6 [v9.Value]).bind fun l14 =>
    Q_windowOf_j2 n7 l14
  else
    Q_windowOf_j2 n7 l6

noncomputable def Q_windowOf_b1 (p0x0 : Rule) (p1x0 : List Sample) (p2x0 : Str) (p3x0 : Int) (l6 : List Int) (n7 : Int) : Option (((List Int) × Int) ⊕ (List Int)) :=
  if n7 < (p1x0.length : Int) then
    (idx p1x0 n7).bind fun v9 =>
    Q_windowOf_j1 l6 n7 v9 ((decide (v9.Device = p2x0)) && ((decide (v9.Metric = p0x0.Metric)) && ((decide ((w64 (p3x0 - p0x0.Long)) < v9.At)) && (decide (v9.At ≤ p3x0)))))
  else
    Option.map .inr (some l6)

noncomputable def Q_windowOf_l1 (p0x0 : Rule) (p1x0 : List Sample) (p2x0 : Str) (p3x0 : Int) (l6 : List Int) (n7 : Int) : Option (List Int) :=
  iter (fun x : (List Int) × Int => Q_windowOf_b1 p0x0 p1x0 p2x0 p3x0 x.1 x.2) (l6, n7)

noncomputable def Q_windowOf (p0x0 : Rule) (p1x0 : List Sample) (p2x0 : Str) (p3x0 : Int) : Option (List Int) :=
  Q_windowOf_l1 p0x0 p1x0 p2x0 p3x0 [] (0 : Int)

noncomputable def slices_Min_int_int_b1 (p0x0 : List Int) (n4 : Int) (n5 : Int) : Option ((Int × Int) ⊕ Int) :=
  if n5 < (p0x0.length : Int) then
    (idx p0x0 n5).bind fun v6 =>
    some (.inl (min n4 v6, w64 (n5 + (1 : Int))))
  else
    Option.map .inr (some n4)

noncomputable def slices_Min_int_int_l1 (p0x0 : List Int) (n4 : Int) (n5 : Int) : Option Int :=
  iter (fun x : Int × Int => slices_Min_int_int_b1 p0x0 x.1 x.2) (n4, n5)

noncomputable def slices_Min_int_int (p0x0 : List Int) : Option Int :=
  if (p0x0.length : Int) < (1 : Int) then
    none
  else
    (idx p0x0 (0 : Int)).bind fun v1 =>
    slices_Min_int_int_l1 p0x0 v1 (1 : Int)

noncomputable def slices_Max_int_int_b1 (p0x0 : List Int) (n4 : Int) (n5 : Int) : Option ((Int × Int) ⊕ Int) :=
  if n5 < (p0x0.length : Int) then
    (idx p0x0 n5).bind fun v6 =>
    some (.inl (max n4 v6, w64 (n5 + (1 : Int))))
  else
    Option.map .inr (some n4)

noncomputable def slices_Max_int_int_l1 (p0x0 : List Int) (n4 : Int) (n5 : Int) : Option Int :=
  iter (fun x : Int × Int => slices_Max_int_int_b1 p0x0 x.1 x.2) (n4, n5)

noncomputable def slices_Max_int_int (p0x0 : List Int) : Option Int :=
  if (p0x0.length : Int) < (1 : Int) then
    none
  else
    (idx p0x0 (0 : Int)).bind fun v1 =>
    slices_Max_int_int_l1 p0x0 v1 (1 : Int)

noncomputable def Q_lowest_k1 (p0x0 : Int) (p1x0 : Int) (n4 : Int) : Option Fraction :=
  (quo p0x0 n4).bind fun n7 =>
  (quo p1x0 n4).bind fun n8 =>
  some (⟨n7, n8⟩ : Fraction)

noncomputable def Q_lowest_b1 (p0x0 : Int) (p1x0 : Int) (n4 : Int) (n5 : Int) : Option ((Int × Int) ⊕ Fraction) :=
  if (0 : Int) < n5 then
    (rem n4 n5).bind fun n6 =>
    some (.inl (n5, n6))
  else
    Option.map .inr (Q_lowest_k1 p0x0 p1x0 n4)

noncomputable def Q_lowest_l1 (p0x0 : Int) (p1x0 : Int) (n4 : Int) (n5 : Int) : Option Fraction :=
  iter (fun x : Int × Int => Q_lowest_b1 p0x0 p1x0 x.1 x.2) (n4, n5)

noncomputable def Q_lowest (p0x0 : Int) (p1x0 : Int) : Option Fraction :=
  Q_lowest_l1 p0x0 p1x0 (max p0x0 (w64 (-p0x0))) p1x0

noncomputable def Q_ValueOf_k1 (v3 : (List Int)) (n9 : Int) : Option (Fraction × Bool) :=
  (Q_lowest n9 (v3.length : Int)).bind fun v12 =>
  some (v12, true)

noncomputable def Q_ValueOf_b1 (v3 : (List Int)) (n9 : Int) (n10 : Int) : Option ((Int × Int) ⊕ (Fraction × Bool)) :=
  if n10 < (v3.length : Int) then
    (idx v3 n10).bind fun v11 =>
    some (.inl (w64 (n9 + v11), w64 (n10 + (1 : Int))))
  else
    Option.map .inr (Q_ValueOf_k1 v3 n9)

noncomputable def Q_ValueOf_l1 (v3 : (List Int)) (n9 : Int) (n10 : Int) : Option (Fraction × Bool) :=
  iter (fun x : Int × Int => Q_ValueOf_b1 v3 x.1 x.2) (n9, n10)

noncomputable def Q_ValueOf (p0x0 : Rule) (p1x0 : List Sample) (p2x0 : Str) (p3x0 : Int) : Option (Fraction × Bool) :=
  (Q_windowOf p0x0 p1x0 p2x0 p3x0).bind fun v3 =>
  if p0x0.Agg = (5 : Int) then
    some ((⟨(v3.length : Int), (1 : Int)⟩ : Fraction), true)
  else
    if (v3.length : Int) = (0 : Int) then
      some ((⟨(0 : Int), (0 : Int)⟩ : Fraction), false)
    else
      if p0x0.Agg = (2 : Int) then
        (slices_Min_int_int v3).bind fun v5 =>
        some ((⟨v5, (1 : Int)⟩ : Fraction), true)
      else
        if p0x0.Agg = (3 : Int) then
          (slices_Max_int_int v3).bind fun v6 =>
          some ((⟨v6, (1 : Int)⟩ : Fraction), true)
        else
          if p0x0.Agg = (4 : Int) then
            Q_ValueOf_l1 v3 (0 : Int) (0 : Int)
          else
            if p0x0.Agg = (6 : Int) then
              (idx v3 (w64 ((v3.length : Int) - (1 : Int)))).bind fun v13 =>
              (idx v3 (0 : Int)).bind fun v14 =>
              some ((⟨w64 (v13 - v14), (1 : Int)⟩ : Fraction), true)
            else
              (idx v3 (w64 ((v3.length : Int) - (1 : Int)))).bind fun v15 =>
              some ((⟨v15, (1 : Int)⟩ : Fraction), true)

noncomputable def Q_StateOf_j1 (n5 : Int) (n6 : Int) : Option Int :=
  if (0 : Int) ≤ n5 then
    some (1 : Int)
  else
    if n6 < (0 : Int) then
      some (2 : Int)
    else
      some (0 : Int)

noncomputable def Q_StateOf (p0x0 : Rule) (p1x0 : List Sample) (p2x0 : Str) (p3x0 : Int) : Option Int :=
  (Q_ValueOf p0x0 p1x0 p2x0 p3x0).bind fun v2 =>
  if (!v2.2) = true then
    (idx [(0 : Int), (2 : Int), (1 : Int)] p0x0.Empty).bind fun v4 =>
    some v4
  else
    if (!p0x0.Above) = true then
      Q_StateOf_j1 (w64 (-(cmp_Compare_int v2.1.Num (w64 (p0x0.On * v2.1.Den))))) (w64 (-(cmp_Compare_int v2.1.Num (w64 (p0x0.Off * v2.1.Den)))))
    else
      Q_StateOf_j1 (cmp_Compare_int v2.1.Num (w64 (p0x0.On * v2.1.Den))) (cmp_Compare_int v2.1.Num (w64 (p0x0.Off * v2.1.Den)))

noncomputable def Q_runsOf_j2 (n8 : Int) (l13 : List Int) : Option (((List Int) × Int) ⊕ (List Fleetref1_run)) :=
  some (.inl (l13, w64 (n8 + (1 : Int))))

noncomputable def Q_runsOf_j1 (p0x0 : Rule) (l7 : List Int) (n8 : Int) (v9 : Sample) (c11 : Bool) : Option (((List Int) × Int) ⊕ (List Fleetref1_run)) :=
  if c11 = true then
    (app l7 [v9.At, min (w64 (v9.At + p0x0.Long)) (345686400000 : Int)]).bind fun l14 =>
    Q_runsOf_j2 n8 l14
  else
    Q_runsOf_j2 n8 l7

noncomputable def Q_runsOf_j4 (n24 : Int) (l34 : List Fleetref1_run) : Option (((List Fleetref1_run) × Int) ⊕ (List Fleetref1_run)) :=
  some (.inl (l34, w64 (n24 + (1 : Int))))

noncomputable def Q_runsOf_j3 (l23 : List Fleetref1_run) (n24 : Int) (v26 : Int) (v27 : Int) (v29 : Int) (c31 : Bool) : Option (((List Fleetref1_run) × Int) ⊕ (List Fleetref1_run)) :=
  if c31 = true then
    (idx l23 (w64 ((l23.length : Int) - (1 : Int)))).bind fun v35 =>
    Q_runsOf_j4 n24 (l23.set (w64 ((l23.length : Int) - (1 : Int))).toNat (⟨v35.from_, v27, v35.state_⟩ : Fleetref1_run))
  else
    (app l23 [(⟨v26, v27, v29⟩ : Fleetref1_run)]).bind fun l36 =>
    Q_runsOf_j4 n24 l36

noncomputable def Q_runsOf_b2 (p0x0 : Rule) (p1x0 : List Sample) (p2x0 : Str) (v17 : (List Int)) (l23 : List Fleetref1_run) (n24 : Int) : Option (((List Fleetref1_run) × Int) ⊕ (List Fleetref1_run)) :=
  if n24 < (w64 ((v17.length : Int) - (1 : Int))) then
    (idx v17 n24).bind fun v26 =>
    (idx v17 (w64 (n24 + (1 : Int)))).bind fun v27 =>
    (idx v17 n24).bind fun v28 =>
    (Q_StateOf p0x0 p1x0 p2x0 v28).bind fun v29 =>
    if (0 : Int) < (l23.length : Int) then
      (idx l23 (w64 ((l23.length : Int) - (1 : Int)))).bind fun v32 =>
      Q_runsOf_j3 l23 n24 v26 v27 v29 (decide (v32.state_ = v29))
    else
      Q_runsOf_j3 l23 n24 v26 v27 v29 false
  else
    Option.map .inr (some l23)

noncomputable def Q_runsOf_l2 (p0x0 : Rule) (p1x0 : List Sample) (p2x0 : Str) (v17 : (List Int)) (l23 : List Fleetref1_run) (n24 : Int) : Option (List Fleetref1_run) :=
  iter (fun x : (List Fleetref1_run) × Int => Q_runsOf_b2 p0x0 p1x0 p2x0 v17 x.1 x.2) (l23, n24)

noncomputable def Q_runsOf_k5 (p0x0 : Rule) (p1x0 : List Sample) (p2x0 : Str) (l7 : List Int) : Option (List Fleetref1_run) :=
  (lenOk l7.length (fun r : (List Int) => r.length) (slices_Sort_int_int l7)).bind fun v16 =>
  (slices_Compact_int_int v16).bind fun v17 =>
  Q_runsOf_l2 p0x0 p1x0 p2x0 v17 [] (0 : Int)

noncomputable def Q_runsOf_b1 (p0x0 : Rule) (p1x0 : List Sample) (p2x0 : Str) (l7 : List Int) (n8 : Int) : Option (((List Int) × Int) ⊕ (List Fleetref1_run)) :=
  if n8 < (p1x0.length : Int) then
    (idx p1x0 n8).bind fun v9 =>
    Q_runsOf_j1 p0x0 l7 n8 v9 ((decide (v9.Device = p2x0)) && (decide (v9.Metric = p0x0.Metric)))
  else
    Option.map .inr (Q_runsOf_k5 p0x0 p1x0 p2x0 l7)

noncomputable def Q_runsOf_l1 (p0x0 : Rule) (p1x0 : List Sample) (p2x0 : Str) (l7 : List Int) (n8 : Int) : Option (List Fleetref1_run) :=
  iter (fun x : (List Int) × Int => Q_runsOf_b1 p0x0 p1x0 p2x0 x.1 x.2) (l7, n8)

noncomputable def Q_runsOf (p0x0 : Rule) (p1x0 : List Sample) (p2x0 : Str) : Option (List Fleetref1_run) :=
  Q_runsOf_l1 p0x0 p1x0 p2x0 [(0 : Int), (345686400000 : Int)] (0 : Int)

noncomputable def Q_FiresIn_1x_j1 (p0x0 : Int) (p2x0 : Int) (n2 : Int) (v3 : Fleetref1_run) (c5 : Bool) : Option (Int ⊕ (Int × Bool)) :=
  if c5 = true then
    Option.map .inr (some (w64 ((max v3.from_ p0x0) + p2x0), true))
  else
    some (.inl (w64 (n2 + (1 : Int))))

noncomputable def Q_FiresIn_1x_b1 (p0x0 : Int) (p1x0 : Int) (p2x0 : Int) (p3x0 : List Fleetref1_run) (n2 : Int) : Option (Int ⊕ (Int × Bool)) :=
  if n2 < (p3x0.length : Int) then
    (idx p3x0 n2).bind fun v3 =>
    Q_FiresIn_1x_j1 p0x0 p2x0 n2 v3 ((decide (v3.state_ = p1x0)) && (decide ((w64 ((max v3.from_ p0x0) + p2x0)) < v3.to_)))
  else
    Option.map .inr (some ((0 : Int), false))

noncomputable def Q_FiresIn_1x_l1 (p0x0 : Int) (p1x0 : Int) (p2x0 : Int) (p3x0 : List Fleetref1_run) (n2 : Int) : Option (Int × Bool) :=
  iter (fun x : Int => Q_FiresIn_1x_b1 p0x0 p1x0 p2x0 p3x0 x) n2

noncomputable def Q_FiresIn_1x (p0x0 : Int) (p1x0 : Int) (p2x0 : Int) (p3x0 : List Fleetref1_run) : Option (Int × Bool) :=
  Q_FiresIn_1x_l1 p0x0 p1x0 p2x0 p3x0 (0 : Int)

noncomputable def Q_FiresIn_b1 (p0x0 : Rule) (v2 : (List Fleetref1_run)) (l9 : List Window) (n10 : Int) : Option (((List Window) × Int) ⊕ (List Window)) :=
  (Q_FiresIn_1x n10 (1 : Int) p0x0.Hold v2).bind fun v12 =>
  if (!v12.2) = true then
    Option.map .inr (some l9)
  else
    (Q_FiresIn_1x v12.1 (2 : Int) p0x0.Rest v2).bind fun v13 =>
    if (!v13.2) = true then
      (app l9 [(⟨v12.1, (345686400000 : Int)⟩ : Window)]).bind fun l14 =>
      Option.map .inr (some l14)
    else
      (app l9 [(⟨v12.1, v13.1⟩ : Window)]).bind fun l16 =>
      some (.inl (l16, v13.1))

noncomputable def Q_FiresIn_l1 (p0x0 : Rule) (v2 : (List Fleetref1_run)) (l9 : List Window) (n10 : Int) : Option (List Window) :=
  iter (fun x : (List Window) × Int => Q_FiresIn_b1 p0x0 v2 x.1 x.2) (l9, n10)

noncomputable def Q_FiresIn (p0x0 : Rule) (p1x0 : List Sample) (p2x0 : Str) : Option (List Window) :=
  (Q_runsOf p0x0 p1x0 p2x0).bind fun v2 =>
  Q_FiresIn_l1 p0x0 v2 [] (0 : Int)

noncomputable def Q_BegunIn_j1 (n15 : Int) (n18 : Int) : Option ((Int × Int) ⊕ ((Int × Int) ⊕ Int)) :=
  some (.inl (n18, w64 (n15 + (1 : Int))))

noncomputable def Q_BegunIn_b2 (p2x0 : Window) (n8 : Int) (v10 : (List Window)) (n14 : Int) (n15 : Int) : Option ((Int × Int) ⊕ ((Int × Int) ⊕ Int)) :=
  if n15 < (v10.length : Int) then
    (idx v10 n15).bind fun v16 =>
    if (Q_in v16.From p2x0.From (w64 (p2x0.To - (1 : Int)))) = true then
      Q_BegunIn_j1 n15 (w64 (n14 + (1 : Int)))
    else
      Q_BegunIn_j1 n15 n14
  else
    Option.map .inr (some (.inl (n14, w64 (n8 + (1 : Int)))))

noncomputable def Q_BegunIn_l2 (p2x0 : Window) (n8 : Int) (v10 : (List Window)) (n14 : Int) (n15 : Int) : Option ((Int × Int) ⊕ Int) :=
  iter (fun x : Int × Int => Q_BegunIn_b2 p2x0 n8 v10 x.1 x.2) (n14, n15)

noncomputable def Q_BegunIn_b1 (p0x0 : Rule) (p1x0 : List Sample) (p2x0 : Window) (v3 : (List Str)) (n7 : Int) (n8 : Int) : Option ((Int × Int) ⊕ Int) :=
  if n8 < (v3.length : Int) then
    (idx v3 n8).bind fun v9 =>
    (Q_FiresIn p0x0 p1x0 v9).bind fun v10 =>
    Q_BegunIn_l2 p2x0 n8 v10 n7 (0 : Int)
  else
    Option.map .inr (some n7)

noncomputable def Q_BegunIn_l1 (p0x0 : Rule) (p1x0 : List Sample) (p2x0 : Window) (v3 : (List Str)) (n7 : Int) (n8 : Int) : Option Int :=
  iter (fun x : Int × Int => Q_BegunIn_b1 p0x0 p1x0 p2x0 v3 x.1 x.2) (n7, n8)

noncomputable def Q_BegunIn (p0x0 : Rule) (p1x0 : List Sample) (p2x0 : Window) : Option Int :=
  (Q_devicesOf p1x0 p0x0.Metric).bind fun v3 =>
  Q_BegunIn_l1 p0x0 p1x0 p2x0 v3 (0 : Int) (0 : Int)

noncomputable def Q_TuneOf_j1 (p0x0 : Rule) (p1x0 : List Sample) (p2x0 : Window) (p3x0 : Int) (n4 : Int) (n6 : Int) (n7 : Int) : Option (Int ⊕ (Int × Bool)) :=
  (Q_RulesFault [(⟨p0x0.Key, p0x0.Metric, p0x0.Agg, p0x0.Long, p0x0.Above, n6, n7, p0x0.Hold, p0x0.Rest, p0x0.Empty⟩ : Rule)]).bind fun v8 =>
  if v8 ≠ (0 : Int) then
    Option.map .inr (some ((0 : Int), false))
  else
    (Q_BegunIn (⟨p0x0.Key, p0x0.Metric, p0x0.Agg, p0x0.Long, p0x0.Above, n6, n7, p0x0.Hold, p0x0.Rest, p0x0.Empty⟩ : Rule) p1x0 p2x0).bind fun v9 =>
    if v9 ≤ p3x0 then
      Option.map .inr (some (n6, true))
    else
      some (.inl (w64 (n4 + (1 : Int))))

noncomputable def Q_TuneOf_b1 (p0x0 : Rule) (p1x0 : List Sample) (p2x0 : Window) (p3x0 : Int) (n4 : Int) : Option (Int ⊕ (Int × Bool)) :=
  if n4 < (1001 : Int) then
    if (!p0x0.Above) = true then
      Q_TuneOf_j1 p0x0 p1x0 p2x0 p3x0 n4 (w64 (p0x0.On - n4)) (w64 (p0x0.Off - n4))
    else
      Q_TuneOf_j1 p0x0 p1x0 p2x0 p3x0 n4 (w64 (p0x0.On + n4)) (w64 (p0x0.Off + n4))
  else
    Option.map .inr (some ((0 : Int), false))

noncomputable def Q_TuneOf_l1 (p0x0 : Rule) (p1x0 : List Sample) (p2x0 : Window) (p3x0 : Int) (n4 : Int) : Option (Int × Bool) :=
  iter (fun x : Int => Q_TuneOf_b1 p0x0 p1x0 p2x0 p3x0 x) n4

noncomputable def Q_TuneOf (p0x0 : Rule) (p1x0 : List Sample) (p2x0 : Window) (p3x0 : Int) : Option (Int × Bool) :=
  Q_TuneOf_l1 p0x0 p1x0 p2x0 p3x0 (0 : Int)

noncomputable def rule_fault_j2 (n6 : Int) : Option Int :=
  some n6

noncomputable def rule_fault_j1 (v4 : Int) (c5 : Bool) : Option Int :=
  if c5 = true then
    rule_fault_j2 (1 : Int)
  else
    rule_fault_j2 v4

noncomputable def rule_fault (p0x0 : List Rule) (p1x0 : List Sample) (p2x0 : Window) : Option Int :=
  (rule_CheckRules p0x0).bind fun v2 =>
  (rule_CheckSamples p1x0).bind fun v3 =>
  (base_First [v2, v3]).bind fun v4 =>
  rule_fault_j1 v4 ((decide (v4 = (0 : Int))) && (!(base_Window p2x0)))

noncomputable def rule_cut_j1 (n7 : Int) (l12 : List Spell) : Option (((List Spell) × Int) ⊕ (List Spell)) :=
  some (.inl (l12, w64 (n7 + (1 : Int))))

noncomputable def rule_cut_b1 (p0x0 : List Spell) (p1x0 : Window) (l6 : List Spell) (n7 : Int) : Option (((List Spell) × Int) ⊕ (List Spell)) :=
  if n7 < (p0x0.length : Int) then
    (idx p0x0 n7).bind fun v9 =>
    if (max v9.From p1x0.From) < (min v9.To p1x0.To) then
      (app l6 [(⟨v9.Device, v9.Rule, max v9.From p1x0.From, min v9.To p1x0.To⟩ : Spell)]).bind fun l13 =>
      rule_cut_j1 n7 l13
    else
      rule_cut_j1 n7 l6
  else
    Option.map .inr (some l6)

noncomputable def rule_cut_l1 (p0x0 : List Spell) (p1x0 : Window) (l6 : List Spell) (n7 : Int) : Option (List Spell) :=
  iter (fun x : (List Spell) × Int => rule_cut_b1 p0x0 p1x0 x.1 x.2) (l6, n7)

noncomputable def rule_cut (p0x0 : List Spell) (p1x0 : Window) : Option (List Spell) :=
  rule_cut_l1 p0x0 p1x0 [] (0 : Int)

noncomputable def rule_byFrom (p0x0 : Spell) (p1x0 : Spell) : Option Int :=
  (cmp_Or_int [(cmp_Compare_int p0x0.From p1x0.From), (Lib.compareBytes p0x0.Device p1x0.Device), (Lib.compareBytes p0x0.Rule p1x0.Rule)]).bind fun v3 =>
  some v3

/-- Sorted by Go. -/
noncomputable def slices_SortFunc_Spell_Spell (p0x0 : List Spell) (fnb : Spell → Spell → Option Int) : Option (List Spell) :=
  sortO fnb p0x0

noncomputable def rule_Spells_k1 (l8 : List Spell) : Option ((List Spell) × Int) :=
  (lenOk l8.length (fun r : (List Spell) => r.length) (slices_SortFunc_Spell_Spell l8 (fun y0 y1 => rule_byFrom y0 y1))).bind fun v18 =>
  some (v18, (0 : Int))

noncomputable def rule_Spells_b1 (p0x0 : List Rule) (p1x0 : List Sample) (p2x0 : Window) (l8 : List Spell) (n9 : Int) : Option (((List Spell) × Int) ⊕ ((List Spell) × Int)) :=
  if n9 < (p0x0.length : Int) then
    (idx p0x0 n9).bind fun v11 =>
    (rule_whole v11 p1x0).bind fun v12 =>
    (rule_cut v12 p2x0).bind fun v14 =>
    (app l8 v14).bind fun l16 =>
    some (.inl (l16, w64 (n9 + (1 : Int))))
  else
    Option.map .inr (rule_Spells_k1 l8)

noncomputable def rule_Spells_l1 (p0x0 : List Rule) (p1x0 : List Sample) (p2x0 : Window) (l8 : List Spell) (n9 : Int) : Option ((List Spell) × Int) :=
  iter (fun x : (List Spell) × Int => rule_Spells_b1 p0x0 p1x0 p2x0 x.1 x.2) (l8, n9)

noncomputable def rule_Spells (p0x0 : List Rule) (p1x0 : List Sample) (p2x0 : Window) : Option ((List Spell) × Int) :=
  (rule_fault p0x0 p1x0 p2x0).bind fun v2 =>
  if v2 ≠ (0 : Int) then
    some ([], v2)
  else
    rule_Spells_l1 p0x0 p1x0 p2x0 [] (0 : Int)

noncomputable def slices_Equal_Spell_Spell_b1 (p0x0 : List Spell) (p1x0 : List Spell) (n2 : Int) : Option (Int ⊕ Bool) :=
  if n2 < (p0x0.length : Int) then
    (idx p0x0 n2).bind fun v3 =>
    (idx p1x0 n2).bind fun v4 =>
    if v3 ≠ v4 then
      Option.map .inr (some false)
    else
      some (.inl (w64 (n2 + (1 : Int))))
  else
    Option.map .inr (some true)

noncomputable def slices_Equal_Spell_Spell_l1 (p0x0 : List Spell) (p1x0 : List Spell) (n2 : Int) : Option Bool :=
  iter (fun x : Int => slices_Equal_Spell_Spell_b1 p0x0 p1x0 x) n2

noncomputable def slices_Equal_Spell_Spell (p0x0 : List Spell) (p1x0 : List Spell) : Option Bool :=
  if (p0x0.length : Int) ≠ (p1x0.length : Int) then
    some false
  else
    slices_Equal_Spell_Spell_l1 p0x0 p1x0 (0 : Int)

noncomputable def L_ruled_j1 (c4 : Bool) : Option Bool :=
  some c4

noncomputable def L_ruled : Option Bool :=
  (rule_Spells [(⟨([114] : Str), ([116] : Str), (1 : Int), (10 : Int), true, (1 : Int), (1 : Int), (0 : Int), (0 : Int), (0 : Int)⟩ : Rule)] [(⟨([100] : Str), ([116] : Str), (0 : Int), (1 : Int)⟩ : Sample)] (⟨(0 : Int), (5 : Int)⟩ : Window)).bind fun v2 =>
  if v2.2 = (0 : Int) then
    (slices_Equal_Spell_Spell v2.1 [(⟨([100] : Str), ([114] : Str), (0 : Int), (5 : Int)⟩ : Spell)]).bind fun v5 =>
    L_ruled_j1 v5
  else
    L_ruled_j1 false

noncomputable def L_RulesTuned_j1 (n18 : Int) (n21 : Int) : Option ((Int × Int) ⊕ Bool) :=
  some (.inl (n21, w64 (n18 + (1 : Int))))

noncomputable def L_RulesTuned_j5 (c29 : Bool) : Option Bool :=
  some c29

noncomputable def L_RulesTuned_j4 (v10 : Int × Int) (n26 : Int) (n27 : Int) : Option Bool :=
  if v10.2 = n26 then
    if v10.1 = n27 then
      (L_ruled).bind fun v30 =>
      L_RulesTuned_j5 v30
    else
      L_RulesTuned_j5 false
  else
    L_RulesTuned_j5 false

noncomputable def L_RulesTuned_j3 (v2 : Rule × Fleetmake_Stream) (v4 : (List Sample) × Fleetmake_Stream) (v6 : Window × Fleetmake_Stream) (v7 : Int × Fleetmake_Stream) (v10 : Int × Int) (n23 : Int) : Option Bool :=
  if n23 = (0 : Int) then
    (Q_TuneOf v2.1 v4.1 v6.1 v7.1).bind fun v28 =>
    L_RulesTuned_j4 v10 (L_when (!v28.2) (8 : Int)) v28.1
  else
    L_RulesTuned_j4 v10 n23 (0 : Int)

noncomputable def L_RulesTuned_j2 (v2 : Rule × Fleetmake_Stream) (v4 : (List Sample) × Fleetmake_Stream) (v6 : Window × Fleetmake_Stream) (v7 : Int × Fleetmake_Stream) (v10 : Int × Int) (v14 : Int) (c22 : Bool) : Option Bool :=
  if c22 = true then
    some false
  else
    if v7.1 < (0 : Int) then
      (cmp_Or_Errno [v14, (L_when (decide ((300 : Int) < (v4.1.length : Int))) (2 : Int)), (Q_WindowFault v6.1), (L_when true (1 : Int))]).bind fun v25 =>
      L_RulesTuned_j3 v2 v4 v6 v7 v10 v25
    else
      (cmp_Or_Errno [v14, (L_when (decide ((300 : Int) < (v4.1.length : Int))) (2 : Int)), (Q_WindowFault v6.1), (L_when (decide ((5000 : Int) < v7.1)) (1 : Int))]).bind fun v24 =>
      L_RulesTuned_j3 v2 v4 v6 v7 v10 v24

noncomputable def L_RulesTuned_b1 (v2 : Rule × Fleetmake_Stream) (v4 : (List Sample) × Fleetmake_Stream) (v6 : Window × Fleetmake_Stream) (v7 : Int × Fleetmake_Stream) (v10 : Int × Int) (v11 : Int × Int) (v14 : Int) (n17 : Int) (n18 : Int) : Option ((Int × Int) ⊕ Bool) :=
  if n18 < (v4.1.length : Int) then
    (idx v4.1 n18).bind fun v19 =>
    if v19.Metric ≠ v2.1.Metric then
      L_RulesTuned_j1 n18 (w64 (n17 + (1 : Int)))
    else
      L_RulesTuned_j1 n18 n17
  else
    Option.map .inr (L_RulesTuned_j2 v2 v4 v6 v7 v10 v14 ((decide (v11.2 ≠ v14)) || ((decide (v14 = (0 : Int))) && (decide (v11.1 ≠ n17)))))

noncomputable def L_RulesTuned_l1 (v2 : Rule × Fleetmake_Stream) (v4 : (List Sample) × Fleetmake_Stream) (v6 : Window × Fleetmake_Stream) (v7 : Int × Fleetmake_Stream) (v10 : Int × Int) (v11 : Int × Int) (v14 : Int) (n17 : Int) (n18 : Int) : Option Bool :=
  iter (fun x : Int × Int => L_RulesTuned_b1 v2 v4 v6 v7 v10 v11 v14 x.1 x.2) (n17, n18)

noncomputable def L_RulesTuned (p0x0 : List Int) : Option Bool :=
  (L_oneRule (⟨p0x0, (0 : Int)⟩ : Fleetmake_Stream)).bind fun v2 =>
  (Stream_Range v2.2 (0 : Int) (5 : Int)).bind fun v3 =>
  (Stream_Readings v3.2 v3.1).bind fun v4 =>
  (Stream_Span v4.2).bind fun v6 =>
  (Stream_Pick v6.2 [(0 : Int), (0 : Int), (1 : Int), (2 : Int), (-1 : Int), (5001 : Int)]).bind fun v7 =>
  (rule_Tune v2.1 v4.1 v6.1 v7.1).bind fun v10 =>
  (rule_Idle v2.1 v4.1).bind fun v11 =>
  (Q_RulesFault [v2.1]).bind fun v12 =>
  (Q_SamplesFault v4.1).bind fun v13 =>
  (cmp_Or_Errno [v12, v13]).bind fun v14 =>
  L_RulesTuned_l1 v2 v4 v6 v7 v10 v11 v14 (0 : Int) (0 : Int)

end Go.Beacon

