/- Plain functions that the Go functions compute, written by shal.py. -/
import Derived.Test.YtppnalkmokajgaaGreatDoorCore
set_option linter.unusedVariables false
namespace Go.Beacon
open Go Go.Eng
structure Fleetmake_Stream where
  L : List Int
  at_ : Int
deriving DecidableEq, Inhabited
def Fleetmake_Stream.av (x : Fleetmake_Stream) : AV := .agg [.list 1 (x.L.map I), I x.at_]

structure Rule where
  Key : Str
  Metric : Str
  Agg : Int
  Long : Int
  Above : Bool
  On : Int
  Off : Int
  Hold : Int
  Rest : Int
  Empty : Int
deriving DecidableEq, Inhabited
def Rule.av (x : Rule) : AV := .agg [.str x.Key, .str x.Metric, I x.Agg, I x.Long, .bool x.Above, I x.On, I x.Off, I x.Hold, I x.Rest, I x.Empty]

structure Sample where
  Device : Str
  Metric : Str
  At : Int
  Value : Int
deriving DecidableEq, Inhabited
def Sample.av (x : Sample) : AV := .agg [.str x.Device, .str x.Metric, I x.At, I x.Value]

structure Fraction where
  Num : Int
  Den : Int
deriving DecidableEq, Inhabited
def Fraction.av (x : Fraction) : AV := .agg [I x.Num, I x.Den]

structure Rule_sample where
  at_ : Int
  value_ : Int
deriving DecidableEq, Inhabited
def Rule_sample.av (x : Rule_sample) : AV := .agg [I x.at_, I x.value_]

structure Rule_track where
  rule_ : Rule
  window_ : List Rule_sample
  least_ : List Rule_sample
  most_ : List Rule_sample
  sum_ : Int
  state_ : Int
  since_ : Int
  firing_ : Bool
  began_ : Int
deriving DecidableEq, Inhabited

structure Window where
  From : Int
  To : Int
deriving DecidableEq, Inhabited
def Window.av (x : Window) : AV := .agg [I x.From, I x.To]

structure Spell where
  Device : Str
  Rule : Str
  From : Int
  To : Int
deriving DecidableEq, Inhabited
def Spell.av (x : Spell) : AV := .agg [.str x.Device, .str x.Rule, I x.From, I x.To]

structure Rule_span where
  from_ : Int
  to_ : Int
deriving DecidableEq, Inhabited
def Rule_span.av (x : Rule_span) : AV := .agg [I x.from_, I x.to_]

noncomputable def Below_j1 (n2 : Int) : Option Int :=
  some n2

noncomputable def Below (p0x0 : Int) (p1x0 : Int) : Option Int :=
  if p1x0 < (1 : Int) then
    some (0 : Int)
  else
    (rem p0x0 p1x0).bind fun n1 =>
    if n1 < (0 : Int) then
      Below_j1 (w64 (n1 + p1x0))
    else
      Below_j1 n1

noncomputable def Stream_Next (p0x0 : Fleetmake_Stream) (p1x0 : Int) : Option (Int × Fleetmake_Stream) :=
  if (p0x0.L.length : Int) = (0 : Int) then
    (Below (w64 ((w64 (p0x0.at_ + (1 : Int))) * (7919 : Int))) p1x0).bind fun v1 =>
    some (v1, (⟨p0x0.L, w64 (p0x0.at_ + (1 : Int))⟩ : Fleetmake_Stream))
  else
    (rem (w64 ((w64 (p0x0.at_ + (1 : Int))) - (1 : Int))) (p0x0.L.length : Int)).bind fun n2 =>
    (quo (w64 ((w64 (p0x0.at_ + (1 : Int))) - (1 : Int))) (p0x0.L.length : Int)).bind fun n3 =>
    (idx p0x0.L n2).bind fun v4 =>
    (Below v4 (1073741824 : Int)).bind fun v5 =>
    (Below (w64 (v5 + (w64 (n3 * (w64 ((7919 : Int) + n2)))))) p1x0).bind fun v6 =>
    some (v6, (⟨p0x0.L, w64 (p0x0.at_ + (1 : Int))⟩ : Fleetmake_Stream))

noncomputable def Stream_Flip (p0x0 : Fleetmake_Stream) (p1x0 : Int) : Option (Bool × Fleetmake_Stream) :=
  (Stream_Next p0x0 p1x0).bind fun v1 =>
  some (decide (v1.1 = (0 : Int)), v1.2)

noncomputable def Stream_Some (p0x0 : Fleetmake_Stream) (p1x0 : List Str) : Option (Str × Fleetmake_Stream) :=
  (Stream_Next p0x0 (p1x0.length : Int)).bind fun v1 =>
  (idx p1x0 v1.1).bind fun v2 =>
  some (v2, v1.2)

noncomputable def Stream_Range (p0x0 : Fleetmake_Stream) (p1x0 : Int) (p2x0 : Int) : Option (Int × Fleetmake_Stream) :=
  if p2x0 < p1x0 then
    some (p1x0, p0x0)
  else
    (Stream_Next p0x0 (w64 ((w64 (p2x0 - p1x0)) + (1 : Int)))).bind fun v1 =>
    some (w64 (p1x0 + v1.1), v1.2)

noncomputable def Stream_Pick (p0x0 : Fleetmake_Stream) (p1x0 : List Int) : Option (Int × Fleetmake_Stream) :=
  (Stream_Next p0x0 (p1x0.length : Int)).bind fun v1 =>
  (idx p1x0 v1.1).bind fun v2 =>
  some (v2, v1.2)

noncomputable def Stream_RightRule_j1 (p1x0 : Str) (v2 : Str × Fleetmake_Stream) (v3 : Int × Fleetmake_Stream) (v4 : Int × Fleetmake_Stream) (v5 : Bool × Fleetmake_Stream) (v6 : Int × Fleetmake_Stream) (v7 : Int × Fleetmake_Stream) (v8 : Int × Fleetmake_Stream) (v9 : Int × Fleetmake_Stream) (v11 : Int × Fleetmake_Stream) (n12 : Int) : Option (Rule × Fleetmake_Stream) :=
  some ((⟨p1x0, v2.1, v3.1, v4.1, v5.1, v6.1, n12, v7.1, v8.1, v9.1⟩ : Rule), v11.2)

noncomputable def Stream_RightRule (p0x0 : Fleetmake_Stream) (p1x0 : Str) : Option (Rule × Fleetmake_Stream) :=
  (Stream_Some p0x0 [([116] : Str), ([116] : Str), ([117] : Str)]).bind fun v2 =>
  (Stream_Range v2.2 (1 : Int) (6 : Int)).bind fun v3 =>
  (Stream_Pick v3.2 [(5 : Int), (20 : Int), (50 : Int), (100 : Int)]).bind fun v4 =>
  (Stream_Flip v4.2 (2 : Int)).bind fun v5 =>
  (Stream_Pick v5.2 [(0 : Int), (2 : Int), (5 : Int), (8 : Int)]).bind fun v6 =>
  (Stream_Pick v6.2 [(0 : Int), (0 : Int), (5 : Int), (15 : Int)]).bind fun v7 =>
  (Stream_Pick v7.2 [(0 : Int), (0 : Int), (5 : Int), (15 : Int)]).bind fun v8 =>
  (Stream_Pick v8.2 [(0 : Int), (0 : Int), (1 : Int), (2 : Int)]).bind fun v9 =>
  (Stream_Pick v9.2 [(0 : Int), (0 : Int), (2 : Int), (4 : Int)]).bind fun v11 =>
  if (!v5.1) = true then
    Stream_RightRule_j1 p1x0 v2 v3 v4 v5 v6 v7 v8 v9 v11 (w64 ((w64 ((2 : Int) * v6.1)) - (w64 (v6.1 - v11.1))))
  else
    Stream_RightRule_j1 p1x0 v2 v3 v4 v5 v6 v7 v8 v9 v11 (w64 (v6.1 - v11.1))

noncomputable def Stream_Odd (p0x0 : Fleetmake_Stream) (p1x0 : Int) (p2x0 : Int) : Option (Int × Fleetmake_Stream) :=
  (Stream_Flip p0x0 (12 : Int)).bind fun v1 =>
  if v1.1 = true then
    (Stream_Pick v1.2 [w64 (p1x0 - (1 : Int)), w64 (p2x0 + (1 : Int)), p1x0, p2x0, (-1099511627776 : Int), (1099511627776 : Int)]).bind fun v2 =>
    some (v2.1, v2.2)
  else
    (Stream_Range v1.2 p1x0 p2x0).bind fun v3 =>
    some (v3.1, v3.2)

noncomputable def Stream_Rules_j1 (n10 : Int) (l14 : List Int) (n15 : Int) (l17 : List Rule) : Option (((List Int) × Int × (List Rule) × Int) ⊕ ((List Rule) × Fleetmake_Stream)) :=
  some (.inl (l14, n15, l17, w64 (n10 + (1 : Int))))

noncomputable def Stream_Rules_j2 (l22 : List Int) (n23 : Int) (l25 : List Rule) : Option ((List Rule) × Fleetmake_Stream) :=
  some (l25, (⟨l22, n23⟩ : Fleetmake_Stream))

noncomputable def Stream_Rules_j3 (l9 : List Rule) (v27 : Rule × Fleetmake_Stream) (l30 : List Int) (n31 : Int) (q32 : Str) (n33 : Int) (n34 : Int) (n35 : Int) (n36 : Int) (n37 : Int) (n38 : Int) (n39 : Int) : Option ((List Rule) × Fleetmake_Stream) :=
  (app l9 [(⟨v27.1.Key, q32, n33, n34, v27.1.Above, n35, n36, n37, n38, n39⟩ : Rule)]).bind fun l61 =>
  Stream_Rules_j2 l30 n31 l61

noncomputable def Stream_Rules_j4 (l9 : List Rule) (v27 : Rule × Fleetmake_Stream) (l42 : List Int) (n43 : Int) (q44 : Str) (n45 : Int) (n46 : Int) (n47 : Int) (n48 : Int) (n49 : Int) : Option ((List Rule) × Fleetmake_Stream) :=
  Stream_Rules_j3 l9 v27 l42 n43 q44 v27.1.Agg n45 n46 n47 n48 n49 v27.1.Empty

noncomputable def Stream_Rules_j5 (l9 : List Rule) (v27 : Rule × Fleetmake_Stream) (l53 : List Int) (n54 : Int) (q55 : Str) (n56 : Int) (n57 : Int) : Option ((List Rule) × Fleetmake_Stream) :=
  Stream_Rules_j4 l9 v27 l53 n54 q55 v27.1.Long n56 n57 v27.1.Hold v27.1.Rest

noncomputable def Stream_Rules_k6 (l6 : List Int) (n7 : Int) (l9 : List Rule) : Option ((List Rule) × Fleetmake_Stream) :=
  (Stream_Flip (⟨l6, n7⟩ : Fleetmake_Stream) (15 : Int)).bind fun v21 =>
  if v21.1 = true then
    (Stream_Some v21.2 [([] : Str), ([114, 97] : Str), ([114, 122] : Str)]).bind fun v26 =>
    (Stream_RightRule v26.2 v26.1).bind fun v27 =>
    (Stream_Next v27.2 (4 : Int)).bind fun v29 =>
    if v29.1 = (0 : Int) then
      (Stream_Odd v29.2 (1 : Int) (6 : Int)).bind fun v40 =>
      (Stream_Odd v40.2 (0 : Int) (2 : Int)).bind fun v41 =>
      Stream_Rules_j3 l9 v27 v41.2.L v41.2.at_ v27.1.Metric v40.1 v27.1.Long v27.1.On v27.1.Off v27.1.Hold v27.1.Rest v41.1
    else
      if v29.1 = (1 : Int) then
        (Stream_Odd v29.2 (1 : Int) (2592000000 : Int)).bind fun v50 =>
        (Stream_Odd v50.2 (0 : Int) (2592000000 : Int)).bind fun v51 =>
        (Stream_Odd v51.2 (0 : Int) (2592000000 : Int)).bind fun v52 =>
        Stream_Rules_j4 l9 v27 v52.2.L v52.2.at_ v27.1.Metric v50.1 v27.1.On v27.1.Off v51.1 v52.1
      else
        if v29.1 = (2 : Int) then
          (Stream_Odd v29.2 (-1000000000 : Int) (1000000000 : Int)).bind fun v58 =>
          (Stream_Odd v58.2 (-3 : Int) (9 : Int)).bind fun v59 =>
          Stream_Rules_j5 l9 v27 v59.2.L v59.2.at_ v27.1.Metric v58.1 v59.1
        else
          (Stream_Some v29.2 [([] : Str), ([65] : Str), ([116] : Str)]).bind fun v60 =>
          Stream_Rules_j5 l9 v27 v60.2.L v60.2.at_ v60.1 v27.1.On v27.1.Off
  else
    Stream_Rules_j2 v21.2.L v21.2.at_ l9

noncomputable def Stream_Rules_b1 (l6 : List Int) (n7 : Int) (l9 : List Rule) (n10 : Int) : Option (((List Int) × Int × (List Rule) × Int) ⊕ ((List Rule) × Fleetmake_Stream)) :=
  if n10 < ([([114, 97] : Str), ([114, 98] : Str), ([114, 99] : Str)].length : Int) then
    (idx [([114, 97] : Str), ([114, 98] : Str), ([114, 99] : Str)] n10).bind fun v12 =>
    (Stream_Flip (⟨l6, n7⟩ : Fleetmake_Stream) (2 : Int)).bind fun v13 =>
    if v13.1 = true then
      (Stream_RightRule v13.2 v12).bind fun v18 =>
      (app l9 [v18.1]).bind fun l19 =>
      Stream_Rules_j1 n10 v18.2.L v18.2.at_ l19
    else
      Stream_Rules_j1 n10 v13.2.L v13.2.at_ l9
  else
    Option.map .inr (Stream_Rules_k6 l6 n7 l9)

noncomputable def Stream_Rules_l1 (l6 : List Int) (n7 : Int) (l9 : List Rule) (n10 : Int) : Option ((List Rule) × Fleetmake_Stream) :=
  iter (fun x : (List Int) × Int × (List Rule) × Int => Stream_Rules_b1 x.1 x.2.1 x.2.2.1 x.2.2.2) (l6, n7, l9, n10)

noncomputable def Stream_Rules (p0x0 : Fleetmake_Stream) : Option ((List Rule) × Fleetmake_Stream) :=
  Stream_Rules_l1 p0x0.L p0x0.at_ [] (0 : Int)

noncomputable def L_oneRule_j1 (v3 : Rule × Fleetmake_Stream) (l6 : List Int) (n7 : Int) (q8 : Str) (n9 : Int) (n10 : Int) : Option (Rule × Fleetmake_Stream) :=
  some ((⟨q8, v3.1.Metric, n9, n10, v3.1.Above, v3.1.On, v3.1.Off, v3.1.Hold, v3.1.Rest, v3.1.Empty⟩ : Rule), (⟨l6, n7⟩ : Fleetmake_Stream))

noncomputable def L_oneRule (p0x0 : Fleetmake_Stream) : Option (Rule × Fleetmake_Stream) :=
  (Stream_Some p0x0 [([114, 97] : Str), ([114, 97] : Str), ([114, 98] : Str)]).bind fun v2 =>
  (Stream_RightRule v2.2 v2.1).bind fun v3 =>
  (Stream_Flip v3.2 (20 : Int)).bind fun v5 =>
  if v5.1 = true then
    (Stream_Some v5.2 [([] : Str), ([114, 97] : Str)]).bind fun v11 =>
    (Stream_Odd v11.2 (1 : Int) (6 : Int)).bind fun v12 =>
    (Stream_Odd v12.2 (1 : Int) (100 : Int)).bind fun v13 =>
    L_oneRule_j1 v3 v13.2.L v13.2.at_ v11.1 v12.1 v13.1
  else
    L_oneRule_j1 v3 v5.2.L v5.2.at_ v3.1.Key v3.1.Agg v3.1.Long

noncomputable def Stream_Readings_j1 (n35 : Int) (l38 : List Int) (n39 : Int) (l41 : List Sample) : Option (((List Int) × Int × (List Sample) × Int) ⊕ (((List Int) × Int × (List Sample) × Int) ⊕ (((List Int) × Int × (List Sample) × Int × Int) ⊕ ((List Sample) × Fleetmake_Stream)))) :=
  some (.inl (l38, n39, l41, w64 (n35 + (1 : Int))))

noncomputable def Stream_Readings_b3 (n12 : Int) (n24 : Int) (v25 : Str) (l31 : List Int) (n32 : Int) (l34 : List Sample) (n35 : Int) : Option (((List Int) × Int × (List Sample) × Int) ⊕ (((List Int) × Int × (List Sample) × Int) ⊕ (((List Int) × Int × (List Sample) × Int × Int) ⊕ ((List Sample) × Fleetmake_Stream)))) :=
  if n35 < ([([116] : Str), ([117] : Str)].length : Int) then
    (idx [([116] : Str), ([117] : Str)] n35).bind fun v36 =>
    (Stream_Flip (⟨l31, n32⟩ : Fleetmake_Stream) (3 : Int)).bind fun v37 =>
    if v37.1 = true then
      (Stream_Pick v37.2 [(0 : Int), (1 : Int), (2 : Int), (4 : Int), (5 : Int), (6 : Int), (8 : Int), (9 : Int), (-3 : Int)]).bind fun v42 =>
      (app l34 [(⟨v25, v36, n12, v42.1⟩ : Sample)]).bind fun l43 =>
      Stream_Readings_j1 n35 v42.2.L v42.2.at_ l43
    else
      Stream_Readings_j1 n35 v37.2.L v37.2.at_ l34
  else
    Option.map .inr (some (.inl (l31, n32, l34, w64 (n24 + (1 : Int)))))

noncomputable def Stream_Readings_l3 (n12 : Int) (n24 : Int) (v25 : Str) (l31 : List Int) (n32 : Int) (l34 : List Sample) (n35 : Int) : Option (((List Int) × Int × (List Sample) × Int) ⊕ (((List Int) × Int × (List Sample) × Int × Int) ⊕ ((List Sample) × Fleetmake_Stream))) :=
  iter (fun x : (List Int) × Int × (List Sample) × Int => Stream_Readings_b3 n12 n24 v25 x.1 x.2.1 x.2.2.1 x.2.2.2) (l31, n32, l34, n35)

noncomputable def Stream_Readings_k2 (n12 : Int) (n13 : Int) (l20 : List Int) (n21 : Int) (l23 : List Sample) : Option (((List Int) × Int × (List Sample) × Int × Int) ⊕ ((List Sample) × Fleetmake_Stream)) :=
  (Stream_Pick (⟨l20, n21⟩ : Fleetmake_Stream) [(1 : Int), (3 : Int), (5 : Int), (10 : Int), (40 : Int)]).bind fun v45 =>
  some (.inl (v45.2.L, v45.2.at_, l23, w64 (n12 + v45.1), w64 (n13 + (1 : Int))))

noncomputable def Stream_Readings_b2 (n12 : Int) (n13 : Int) (l20 : List Int) (n21 : Int) (l23 : List Sample) (n24 : Int) : Option (((List Int) × Int × (List Sample) × Int) ⊕ (((List Int) × Int × (List Sample) × Int × Int) ⊕ ((List Sample) × Fleetmake_Stream))) :=
  if n24 < ([([100, 97] : Str), ([100, 98] : Str)].length : Int) then
    (idx [([100, 97] : Str), ([100, 98] : Str)] n24).bind fun v25 =>
    Stream_Readings_l3 n12 n24 v25 l20 n21 l23 (0 : Int)
  else
    Option.map .inr (Stream_Readings_k2 n12 n13 l20 n21 l23)

noncomputable def Stream_Readings_l2 (n12 : Int) (n13 : Int) (l20 : List Int) (n21 : Int) (l23 : List Sample) (n24 : Int) : Option (((List Int) × Int × (List Sample) × Int × Int) ⊕ ((List Sample) × Fleetmake_Stream)) :=
  iter (fun x : (List Int) × Int × (List Sample) × Int => Stream_Readings_b2 n12 n13 x.1 x.2.1 x.2.2.1 x.2.2.2) (l20, n21, l23, n24)

noncomputable def Stream_Readings_j4 (l50 : List Int) (n51 : Int) (l52 : List Sample) : Option ((List Sample) × Fleetmake_Stream) :=
  some (l52, (⟨l50, n51⟩ : Fleetmake_Stream))

noncomputable def Stream_Readings_j3 (l11 : List Sample) (l46 : List Int) (n47 : Int) (c48 : Bool) : Option ((List Sample) × Fleetmake_Stream) :=
  if c48 = true then
    (Stream_Next (⟨l46, n47⟩ : Fleetmake_Stream) (l11.length : Int)).bind fun v53 =>
    (idx l11 v53.1).bind fun v54 =>
    (Stream_Pick v53.2 [v54.At, (-1 : Int), (0 : Int), (345686400000 : Int)]).bind fun v55 =>
    (Stream_Some v55.2 [v54.Device, ([] : Str), ([65] : Str)]).bind fun v56 =>
    (Stream_Odd v56.2 (-1000000000 : Int) (1000000000 : Int)).bind fun v57 =>
    Stream_Readings_j4 v57.2.L v57.2.at_ (((l11.set v53.1.toNat (⟨v54.Device, v54.Metric, v55.1, v54.Value⟩ : Sample)).set v53.1.toNat (⟨v56.1, v54.Metric, v55.1, v54.Value⟩ : Sample)).set v53.1.toNat (⟨v56.1, v54.Metric, v55.1, v57.1⟩ : Sample))
  else
    Stream_Readings_j4 l46 n47 l11

noncomputable def Stream_Readings_k5 (l8 : List Int) (n9 : Int) (l11 : List Sample) : Option ((List Sample) × Fleetmake_Stream) :=
  if (0 : Int) < (l11.length : Int) then
    (Stream_Flip (⟨l8, n9⟩ : Fleetmake_Stream) (20 : Int)).bind fun v49 =>
    Stream_Readings_j3 l11 v49.2.L v49.2.at_ v49.1
  else
    Stream_Readings_j3 l11 l8 n9 false

noncomputable def Stream_Readings_b1 (p1x0 : Int) (l8 : List Int) (n9 : Int) (l11 : List Sample) (n12 : Int) (n13 : Int) : Option (((List Int) × Int × (List Sample) × Int × Int) ⊕ ((List Sample) × Fleetmake_Stream)) :=
  if n13 < p1x0 then
    Stream_Readings_l2 n12 n13 l8 n9 l11 (0 : Int)
  else
    Option.map .inr (Stream_Readings_k5 l8 n9 l11)

noncomputable def Stream_Readings_l1 (p1x0 : Int) (l8 : List Int) (n9 : Int) (l11 : List Sample) (n12 : Int) (n13 : Int) : Option ((List Sample) × Fleetmake_Stream) :=
  iter (fun x : (List Int) × Int × (List Sample) × Int × Int => Stream_Readings_b1 p1x0 x.1 x.2.1 x.2.2.1 x.2.2.2.1 x.2.2.2.2) (l8, n9, l11, n12, n13)

noncomputable def Stream_Readings (p0x0 : Fleetmake_Stream) (p1x0 : Int) : Option ((List Sample) × Fleetmake_Stream) :=
  (Stream_Next p0x0 (20 : Int)).bind fun v1 =>
  Stream_Readings_l1 p1x0 v1.2.L v1.2.at_ [] v1.1 (0 : Int)

noncomputable def Stream_Time (p0x0 : Fleetmake_Stream) : Option (Int × Fleetmake_Stream) :=
  (Stream_Next p0x0 (300 : Int)).bind fun v1 =>
  (Stream_Next v1.2 (300 : Int)).bind fun v2 =>
  (Stream_Pick v2.2 [(345686399999 : Int), (-1 : Int), (345686400000 : Int)]).bind fun v3 =>
  (Stream_Pick v3.2 [(0 : Int), (5 : Int), (20 : Int), (40 : Int), (60 : Int), (80 : Int), (120 : Int), v1.1, v2.1, v3.1]).bind fun v4 =>
  some (v4.1, v4.2)

/-- A copy of a list. -/
noncomputable def slices_Clone_Sample_Sample (p0x0 : List Sample) : Option (List Sample) :=
  app [] p0x0

noncomputable def base_Out_j1 (c1 : Bool) : Bool :=
  c1

noncomputable def base_Out (p0x0 : Int) (p1x0 : Int) (p2x0 : Int) : Bool :=
  base_Out_j1 ((decide (p0x0 < p1x0)) || (decide (p2x0 < p0x0)))

noncomputable def base_Moment (p0x0 : Int) : Bool :=
  !(base_Out p0x0 (0 : Int) (345686399999 : Int))

noncomputable def base_Key_j2 (n5 : Int) (c7 : Bool) : Option (Int ⊕ Bool) :=
  if c7 = true then
    Option.map .inr (some false)
  else
    some (.inl (w64 (n5 + (1 : Int))))

noncomputable def base_Key_b1 (p0x0 : Str) (n5 : Int) : Option (Int ⊕ Bool) :=
  if n5 < (p0x0.length : Int) then
    (idx p0x0 n5).bind fun c6 =>
    base_Key_j2 n5 (if (97 : Int) ≤ (c6.toNat : Int) then if (c6.toNat : Int) ≤ (122 : Int) then !true else if (48 : Int) ≤ (c6.toNat : Int) then if (c6.toNat : Int) ≤ (57 : Int) then !true else if (c6.toNat : Int) = (45 : Int) then !true else decide (¬ ((c6.toNat : Int) = (95 : Int))) else if (c6.toNat : Int) = (45 : Int) then !true else decide (¬ ((c6.toNat : Int) = (95 : Int))) else if (48 : Int) ≤ (c6.toNat : Int) then if (c6.toNat : Int) ≤ (57 : Int) then !true else if (c6.toNat : Int) = (45 : Int) then !true else decide (¬ ((c6.toNat : Int) = (95 : Int))) else if (c6.toNat : Int) = (45 : Int) then !true else decide (¬ ((c6.toNat : Int) = (95 : Int))))
  else
    Option.map .inr (some true)

noncomputable def base_Key_l1 (p0x0 : Str) (n5 : Int) : Option Bool :=
  iter (fun x : Int => base_Key_b1 p0x0 x) n5

noncomputable def base_Key_j1 (p0x0 : Str) (c1 : Bool) : Option Bool :=
  if c1 = true then
    some false
  else
    base_Key_l1 p0x0 (0 : Int)

noncomputable def base_Key (p0x0 : Str) : Option Bool :=
  if p0x0 = ([] : Str) then
    base_Key_j1 p0x0 true
  else
    if (40 : Int) < (p0x0.length : Int) then
      base_Key_j1 p0x0 true
    else
      (idx p0x0 (0 : Int)).bind fun c2 =>
      if (c2.toNat : Int) < (97 : Int) then
        base_Key_j1 p0x0 true
      else
        (idx p0x0 (0 : Int)).bind fun c3 =>
        base_Key_j1 p0x0 (decide ((122 : Int) < (c3.toNat : Int)))

noncomputable def rule_sampleFault_j1 (p0x0 : Sample) (c2 : Bool) : Option Int :=
  if c2 = true then
    some (5 : Int)
  else
    if (base_Out p0x0.Value (-1000000000 : Int) (1000000000 : Int)) = true then
      some (1 : Int)
    else
      some (0 : Int)

noncomputable def rule_sampleFault (p0x0 : Sample) : Option Int :=
  if (!(base_Moment p0x0.At)) = true then
    some (1 : Int)
  else
    (base_Key p0x0.Device).bind fun v3 =>
    if (!v3) = true then
      rule_sampleFault_j1 p0x0 true
    else
      (base_Key p0x0.Metric).bind fun v4 =>
      rule_sampleFault_j1 p0x0 (!v4)

noncomputable def cmp_isNaN_int (p0x0 : Int) : Bool :=
  decide (p0x0 ≠ p0x0)

noncomputable def cmp_Compare_int (p0x0 : Int) (p1x0 : Int) : Int :=
  if (cmp_isNaN_int p0x0) = true then
    if (cmp_isNaN_int p1x0) = true then
      (0 : Int)
    else
      (-1 : Int)
  else
    if (cmp_isNaN_int p1x0) = true then
      (1 : Int)
    else
      if p0x0 < p1x0 then
        (-1 : Int)
      else
        if p1x0 < p0x0 then
          (1 : Int)
        else
          (0 : Int)

noncomputable def cmp_Or_int_b1 (p0x0 : List Int) (n2 : Int) : Option (Int ⊕ Int) :=
  if n2 < (p0x0.length : Int) then
    (idx p0x0 n2).bind fun v3 =>
    if v3 ≠ (0 : Int) then
      Option.map .inr (some v3)
    else
      some (.inl (w64 (n2 + (1 : Int))))
  else
    Option.map .inr (some (0 : Int))

noncomputable def cmp_Or_int_l1 (p0x0 : List Int) (n2 : Int) : Option Int :=
  iter (fun x : Int => cmp_Or_int_b1 p0x0 x) n2

noncomputable def cmp_Or_int (p0x0 : List Int) : Option Int :=
  cmp_Or_int_l1 p0x0 (0 : Int)

noncomputable def rule_byMoment (p0x0 : Sample) (p1x0 : Sample) : Option Int :=
  (cmp_Or_int [(cmp_Compare_int p0x0.At p1x0.At), (Lib.compareBytes p0x0.Device p1x0.Device), (Lib.compareBytes p0x0.Metric p1x0.Metric)]).bind fun v3 =>
  some v3

noncomputable def rule_CheckSamples_j1 (n2 : Int) (c6 : Bool) : Option (Int ⊕ Int) :=
  if c6 = true then
    Option.map .inr (some (7 : Int))
  else
    some (.inl (w64 (n2 + (1 : Int))))

noncomputable def rule_CheckSamples_b1 (p0x0 : List Sample) (n2 : Int) : Option (Int ⊕ Int) :=
  if n2 < (p0x0.length : Int) then
    (idx p0x0 n2).bind fun v3 =>
    (rule_sampleFault v3).bind fun v5 =>
    if v5 ≠ (0 : Int) then
      Option.map .inr (some v5)
    else
      if (0 : Int) < n2 then
        (idx p0x0 (w64 (n2 - (1 : Int)))).bind fun v7 =>
        (rule_byMoment v3 v7).bind fun v8 =>
        rule_CheckSamples_j1 n2 (decide (v8 ≤ (0 : Int)))
      else
        rule_CheckSamples_j1 n2 false
  else
    Option.map .inr (some (0 : Int))

noncomputable def rule_CheckSamples_l1 (p0x0 : List Sample) (n2 : Int) : Option Int :=
  iter (fun x : Int => rule_CheckSamples_b1 p0x0 x) n2

noncomputable def rule_CheckSamples (p0x0 : List Sample) : Option Int :=
  if (5000 : Int) < (p0x0.length : Int) then
    some (2 : Int)
  else
    rule_CheckSamples_l1 p0x0 (0 : Int)

noncomputable def base_First_b1 (p0x0 : List Int) (n2 : Int) : Option (Int ⊕ Int) :=
  if n2 < (p0x0.length : Int) then
    (idx p0x0 n2).bind fun v3 =>
    if v3 ≠ (0 : Int) then
      Option.map .inr (some v3)
    else
      some (.inl (w64 (n2 + (1 : Int))))
  else
    Option.map .inr (some (0 : Int))

noncomputable def base_First_l1 (p0x0 : List Int) (n2 : Int) : Option Int :=
  iter (fun x : Int => base_First_b1 p0x0 x) n2

noncomputable def base_First (p0x0 : List Int) : Option Int :=
  base_First_l1 p0x0 (0 : Int)

noncomputable def slices_Grow_Sample_Sample_n0x_j1 (l2 : List Sample) : Option (List Sample) :=
  some l2

noncomputable def slices_Grow_Sample_Sample_n0x (p1x0 : Int) : Option (List Sample) :=
  if p1x0 < (0 : Int) then
    none
  else
    if (0 : Int) < (w64 (p1x0 - (w64 ((0 : Int) - (0 : Int))))) then
      (slc ([] : List Sample) (0 : Int) (0 : Int)).bind fun l3 =>
      (mkS (⟨[], [], (0 : Int), (0 : Int)⟩ : Sample) (w64 (p1x0 - (w64 ((0 : Int) - (0 : Int))))) (w64 (p1x0 - (w64 ((0 : Int) - (0 : Int)))))).bind fun l4 =>
      (slc l4 (0 : Int) (0 : Int)).bind fun l6 =>
      slices_Grow_Sample_Sample_n0x_j1 l6
    else
      slices_Grow_Sample_Sample_n0x_j1 []

noncomputable def slices_Concat_Sample_Sample_b2 (p0x0 : List (List Sample)) (l12 : List Sample) (n13 : Int) : Option (((List Sample) × Int) ⊕ (List Sample)) :=
  if n13 < (p0x0.length : Int) then
    (idx p0x0 n13).bind fun v14 =>
    (app l12 v14).bind fun l15 =>
    some (.inl (l15, w64 (n13 + (1 : Int))))
  else
    Option.map .inr (some l12)

noncomputable def slices_Concat_Sample_Sample_l2 (p0x0 : List (List Sample)) (l12 : List Sample) (n13 : Int) : Option (List Sample) :=
  iter (fun x : (List Sample) × Int => slices_Concat_Sample_Sample_b2 p0x0 x.1 x.2) (l12, n13)

noncomputable def slices_Concat_Sample_Sample_k1 (p0x0 : List (List Sample)) (n3 : Int) : Option (List Sample) :=
  (slices_Grow_Sample_Sample_n0x n3).bind fun v6 =>
  slices_Concat_Sample_Sample_l2 p0x0 v6 (0 : Int)

noncomputable def slices_Concat_Sample_Sample_b1 (p0x0 : List (List Sample)) (n3 : Int) (n4 : Int) : Option ((Int × Int) ⊕ (List Sample)) :=
  if n4 < (p0x0.length : Int) then
    (idx p0x0 n4).bind fun v5 =>
    if (w64 (n3 + (v5.length : Int))) < (0 : Int) then
      none
    else
      some (.inl (w64 (n3 + (v5.length : Int)), w64 (n4 + (1 : Int))))
  else
    Option.map .inr (slices_Concat_Sample_Sample_k1 p0x0 n3)

noncomputable def slices_Concat_Sample_Sample_l1 (p0x0 : List (List Sample)) (n3 : Int) (n4 : Int) : Option (List Sample) :=
  iter (fun x : Int × Int => slices_Concat_Sample_Sample_b1 p0x0 x.1 x.2) (n3, n4)

noncomputable def slices_Concat_Sample_Sample (p0x0 : List (List Sample)) : Option (List Sample) :=
  slices_Concat_Sample_Sample_l1 p0x0 (0 : Int) (0 : Int)

/-- Sorted by Go. -/
noncomputable def slices_SortFunc_Sample_Sample (p0x0 : List Sample) (fnb : Sample → Sample → Option Int) : Option (List Sample) :=
  sortO fnb p0x0

noncomputable def slices_Compact_Sample_Sample_j1 (n11 : Int) (l14 : List Sample) (n15 : Int) : Option (((List Sample) × Int × Int) ⊕ (Int ⊕ (List Sample))) :=
  some (.inl (l14, n15, w64 (n11 + (1 : Int))))

noncomputable def slices_Compact_Sample_Sample_k2 (l9 : List Sample) (n10 : Int) : Option (Int ⊕ (List Sample)) :=
  (slc l9 n10 (l9.length : Int)).bind fun l18 =>
  (slc (clr l9 n10 l18.length (⟨[], [], (0 : Int), (0 : Int)⟩ : Sample)) (0 : Int) n10).bind fun l19 =>
  Option.map .inr (some l19)

noncomputable def slices_Compact_Sample_Sample_b2 (n2 : Int) (l5 : List Sample) (l9 : List Sample) (n10 : Int) (n11 : Int) : Option (((List Sample) × Int × Int) ⊕ (Int ⊕ (List Sample))) :=
  if n11 < (l5.length : Int) then
    (idxS l9 n2 l5.length n11).bind fun v12 =>
    (idxS l9 n2 l5.length (w64 (n11 - (1 : Int)))).bind fun v13 =>
    if v12 ≠ v13 then
      (idxS l9 n2 l5.length n11).bind fun v16 =>
      (idx l9 n10).bind fun v17 =>
      slices_Compact_Sample_Sample_j1 n11 (l9.set n10.toNat v16) (w64 (n10 + (1 : Int)))
    else
      slices_Compact_Sample_Sample_j1 n11 l9 n10
  else
    Option.map .inr (slices_Compact_Sample_Sample_k2 l9 n10)

noncomputable def slices_Compact_Sample_Sample_l2 (n2 : Int) (l5 : List Sample) (l9 : List Sample) (n10 : Int) (n11 : Int) : Option (Int ⊕ (List Sample)) :=
  iter (fun x : (List Sample) × Int × Int => slices_Compact_Sample_Sample_b2 n2 l5 x.1 x.2.1 x.2.2) (l9, n10, n11)

noncomputable def slices_Compact_Sample_Sample_b1 (p0x0 : List Sample) (n2 : Int) : Option (Int ⊕ (List Sample)) :=
  if n2 < (p0x0.length : Int) then
    (idx p0x0 n2).bind fun v3 =>
    (idx p0x0 (w64 (n2 - (1 : Int)))).bind fun v4 =>
    if v3 = v4 then
      (slc p0x0 n2 (p0x0.length : Int)).bind fun l5 =>
      slices_Compact_Sample_Sample_l2 n2 l5 p0x0 n2 (1 : Int)
    else
      some (.inl (w64 (n2 + (1 : Int))))
  else
    Option.map .inr (some p0x0)

noncomputable def slices_Compact_Sample_Sample_l1 (p0x0 : List Sample) (n2 : Int) : Option (List Sample) :=
  iter (fun x : Int => slices_Compact_Sample_Sample_b1 p0x0 x) n2

noncomputable def slices_Compact_Sample_Sample (p0x0 : List Sample) : Option (List Sample) :=
  if (p0x0.length : Int) < (2 : Int) then
    some p0x0
  else
    slices_Compact_Sample_Sample_l1 p0x0 (1 : Int)

noncomputable def rule_Merge_k1 (v8 : (List Sample)) : Option ((List Sample) × Int) :=
  if (5000 : Int) < (v8.length : Int) then
    some ([], (2 : Int))
  else
    some (v8, (0 : Int))

noncomputable def rule_Merge_b1 (v8 : (List Sample)) (n11 : Int) : Option (Int ⊕ ((List Sample) × Int)) :=
  if n11 < (v8.length : Int) then
    (idx v8 (w64 (n11 - (1 : Int)))).bind fun v12 =>
    (idx v8 n11).bind fun v13 =>
    (rule_byMoment v12 v13).bind fun v14 =>
    if v14 = (0 : Int) then
      Option.map .inr (some ([], (13 : Int)))
    else
      some (.inl (w64 (n11 + (1 : Int))))
  else
    Option.map .inr (rule_Merge_k1 v8)

noncomputable def rule_Merge_l1 (v8 : (List Sample)) (n11 : Int) : Option ((List Sample) × Int) :=
  iter (fun x : Int => rule_Merge_b1 v8 x) n11

noncomputable def rule_Merge (p0x0 : List Sample) (p1x0 : List Sample) : Option ((List Sample) × Int) :=
  (rule_CheckSamples p0x0).bind fun v1 =>
  (rule_CheckSamples p1x0).bind fun v2 =>
  (base_First [v1, v2]).bind fun v3 =>
  if v3 ≠ (0 : Int) then
    some ([], v3)
  else
    (slices_Concat_Sample_Sample [p0x0, p1x0]).bind fun v5 =>
    (lenOk v5.length (fun r : (List Sample) => r.length) (slices_SortFunc_Sample_Sample v5 (fun y0 y1 => rule_byMoment y0 y1))).bind fun v7 =>
    (slices_Compact_Sample_Sample v7).bind fun v8 =>
    rule_Merge_l1 v8 (1 : Int)

noncomputable def rule_CheckRules_1x (p0x0 : Int) : Bool :=
  !(base_Out p0x0 (-1000000000 : Int) (1000000000 : Int))

noncomputable def rule_CheckRules_j8 (n2 : Int) (v3 : Rule) (c15 : Bool) : Option (Int ⊕ Int) :=
  if c15 = true then
    Option.map .inr (some (1 : Int))
  else
    if (base_Out v3.Empty (0 : Int) (2 : Int)) = true then
      Option.map .inr (some (4 : Int))
    else
      some (.inl (w64 (n2 + (1 : Int))))

noncomputable def rule_CheckRules_j2 (n2 : Int) (v3 : Rule) (c9 : Bool) : Option (Int ⊕ Int) :=
  if c9 = true then
    Option.map .inr (some (1 : Int))
  else
    if (base_Out v3.Hold (0 : Int) (2592000000 : Int)) = true then
      rule_CheckRules_j8 n2 v3 (base_Out v3.Hold (0 : Int) (2592000000 : Int))
    else
      rule_CheckRules_j8 n2 v3 (base_Out v3.Rest (0 : Int) (2592000000 : Int))

noncomputable def rule_CheckRules_j3 (n2 : Int) (v3 : Rule) (c10 : Bool) : Option (Int ⊕ Int) :=
  rule_CheckRules_j2 n2 v3 c10

noncomputable def rule_CheckRules_j4 (n2 : Int) (v3 : Rule) (c11 : Bool) : Option (Int ⊕ Int) :=
  rule_CheckRules_j3 n2 v3 c11

noncomputable def rule_CheckRules_j6 (n2 : Int) (v3 : Rule) (c13 : Bool) : Option (Int ⊕ Int) :=
  rule_CheckRules_j4 n2 v3 c13

noncomputable def rule_CheckRules_j7 (n2 : Int) (v3 : Rule) (c14 : Bool) : Option (Int ⊕ Int) :=
  rule_CheckRules_j6 n2 v3 c14

noncomputable def rule_CheckRules_j5 (n2 : Int) (v3 : Rule) (c12 : Bool) : Option (Int ⊕ Int) :=
  if c12 = true then
    rule_CheckRules_j6 n2 v3 c12
  else
    rule_CheckRules_j7 n2 v3 ((!v3.Above) && (decide (v3.Off < v3.On)))

noncomputable def rule_CheckRules_j1 (n2 : Int) (v3 : Rule) (c6 : Bool) : Option (Int ⊕ Int) :=
  if c6 = true then
    Option.map .inr (some (7 : Int))
  else
    (base_Key v3.Metric).bind fun v8 =>
    if (!v8) = true then
      Option.map .inr (some (5 : Int))
    else
      if (base_Out v3.Agg (1 : Int) (6 : Int)) = true then
        Option.map .inr (some (4 : Int))
      else
        if (base_Out v3.Long (1 : Int) (2592000000 : Int)) = true then
          rule_CheckRules_j2 n2 v3 (base_Out v3.Long (1 : Int) (2592000000 : Int))
        else
          if (!(rule_CheckRules_1x v3.On)) = true then
            rule_CheckRules_j3 n2 v3 (!(rule_CheckRules_1x v3.On))
          else
            if (!(rule_CheckRules_1x v3.Off)) = true then
              rule_CheckRules_j4 n2 v3 (!(rule_CheckRules_1x v3.Off))
            else
              rule_CheckRules_j5 n2 v3 (v3.Above && (decide (v3.On < v3.Off)))

noncomputable def rule_CheckRules_b1 (p0x0 : List Rule) (n2 : Int) : Option (Int ⊕ Int) :=
  if n2 < (p0x0.length : Int) then
    (idx p0x0 n2).bind fun v3 =>
    (base_Key v3.Key).bind fun v5 =>
    if (!v5) = true then
      Option.map .inr (some (5 : Int))
    else
      if (0 : Int) < n2 then
        (idx p0x0 (w64 (n2 - (1 : Int)))).bind fun v7 =>
        rule_CheckRules_j1 n2 v3 (Op.bytesLess v3.Key v7.Key || v3.Key == v7.Key)
      else
        rule_CheckRules_j1 n2 v3 false
  else
    Option.map .inr (some (0 : Int))

noncomputable def rule_CheckRules_l1 (p0x0 : List Rule) (n2 : Int) : Option Int :=
  iter (fun x : Int => rule_CheckRules_b1 p0x0 x) n2

noncomputable def rule_CheckRules (p0x0 : List Rule) : Option Int :=
  if (100 : Int) < (p0x0.length : Int) then
    some (2 : Int)
  else
    rule_CheckRules_l1 p0x0 (0 : Int)

noncomputable def rule_oneFault (p0x0 : Rule) (p1x0 : List Sample) (p2x0 : Str) (p3x0 : Int) : Option Int :=
  (rule_CheckRules [p0x0]).bind fun v2 =>
  (rule_CheckSamples p1x0).bind fun v3 =>
  (base_First [v2, v3]).bind fun v4 =>
  if v4 ≠ (0 : Int) then
    some v4
  else
    (base_Key p2x0).bind fun v5 =>
    if (!v5) = true then
      some (5 : Int)
    else
      if (!(base_Moment p3x0)) = true then
        some (1 : Int)
      else
        some (0 : Int)

noncomputable def rule_track_now_j8 (n18 : Int) (n19 : Int) (n20 : Int) : Option Int :=
  if n19 ≤ n18 then
    some (1 : Int)
  else
    if n18 < n20 then
      some (2 : Int)
    else
      some (0 : Int)

noncomputable def rule_track_now_j2 (p0x0 : Rule_track) (n3 : Int) (n4 : Int) : Option Int :=
  if (!p0x0.rule_.Above) = true then
    rule_track_now_j8 (w64 (-n3)) (w64 (-(w64 (p0x0.rule_.On * n4)))) (w64 (-(w64 (p0x0.rule_.Off * n4))))
  else
    rule_track_now_j8 n3 (w64 (p0x0.rule_.On * n4)) (w64 (p0x0.rule_.Off * n4))

noncomputable def rule_track_now_j3 (p0x0 : Rule_track) (n6 : Int) (n7 : Int) : Option Int :=
  rule_track_now_j2 p0x0 n6 n7

noncomputable def rule_track_now_j4 (p0x0 : Rule_track) (n9 : Int) (n10 : Int) : Option Int :=
  rule_track_now_j3 p0x0 n9 n10

noncomputable def rule_track_now_j5 (p0x0 : Rule_track) (n12 : Int) (n13 : Int) : Option Int :=
  rule_track_now_j4 p0x0 n12 n13

noncomputable def rule_track_now_j6 (p0x0 : Rule_track) (n14 : Int) : Option Int :=
  rule_track_now_j5 p0x0 n14 (1 : Int)

noncomputable def rule_track_now_j7 (p0x0 : Rule_track) (n15 : Int) : Option Int :=
  rule_track_now_j6 p0x0 n15

noncomputable def rule_track_now_j1 (p0x0 : Rule_track) (c1 : Bool) : Option Int :=
  if c1 = true then
    (idx [(0 : Int), (2 : Int), (1 : Int)] p0x0.rule_.Empty).bind fun v2 =>
    some v2
  else
    if p0x0.rule_.Agg = (1 : Int) then
      (idx p0x0.window_ (w64 ((p0x0.window_.length : Int) - (1 : Int)))).bind fun v5 =>
      rule_track_now_j2 p0x0 v5.value_ (1 : Int)
    else
      if p0x0.rule_.Agg = (2 : Int) then
        (idx p0x0.least_ (0 : Int)).bind fun v8 =>
        rule_track_now_j3 p0x0 v8.value_ (1 : Int)
      else
        if p0x0.rule_.Agg = (3 : Int) then
          (idx p0x0.most_ (0 : Int)).bind fun v11 =>
          rule_track_now_j4 p0x0 v11.value_ (1 : Int)
        else
          if p0x0.rule_.Agg = (4 : Int) then
            rule_track_now_j5 p0x0 p0x0.sum_ (p0x0.window_.length : Int)
          else
            if p0x0.rule_.Agg = (5 : Int) then
              rule_track_now_j6 p0x0 (p0x0.window_.length : Int)
            else
              if p0x0.rule_.Agg = (6 : Int) then
                (idx p0x0.window_ (w64 ((p0x0.window_.length : Int) - (1 : Int)))).bind fun v16 =>
                (idx p0x0.window_ (0 : Int)).bind fun v17 =>
                rule_track_now_j7 p0x0 (w64 (v16.value_ - v17.value_))
              else
                rule_track_now_j7 p0x0 (0 : Int)

noncomputable def rule_track_now (p0x0 : Rule_track) : Option Int :=
  rule_track_now_j1 p0x0 ((decide ((p0x0.window_.length : Int) = (0 : Int))) && (decide (p0x0.rule_.Agg ≠ (5 : Int))))

noncomputable def rule_newTrack (p0x0 : Rule) : Option Rule_track :=
  (rule_track_now (⟨p0x0, [], [], [], (0 : Int), (0 : Int), (0 : Int), false, (0 : Int)⟩ : Rule_track)).bind fun v2 =>
  some (⟨p0x0, [], [], [], (0 : Int), v2, (0 : Int), false, (0 : Int)⟩ : Rule_track)

noncomputable def rule_seen_j2 (n6 : Int) (l12 : List Rule_sample) : Option (((List Rule_sample) × Int) ⊕ (List Rule_sample)) :=
  some (.inl (l12, w64 (n6 + (1 : Int))))

noncomputable def rule_seen_j1 (l5 : List Rule_sample) (n6 : Int) (v8 : Sample) (c10 : Bool) : Option (((List Rule_sample) × Int) ⊕ (List Rule_sample)) :=
  if c10 = true then
    (app l5 [(⟨v8.At, v8.Value⟩ : Rule_sample)]).bind fun l13 =>
    rule_seen_j2 n6 l13
  else
    rule_seen_j2 n6 l5

noncomputable def rule_seen_b1 (p0x0 : List Sample) (p1x0 : Str) (p2x0 : Str) (l5 : List Rule_sample) (n6 : Int) : Option (((List Rule_sample) × Int) ⊕ (List Rule_sample)) :=
  if n6 < (p0x0.length : Int) then
    (idx p0x0 n6).bind fun v8 =>
    rule_seen_j1 l5 n6 v8 ((decide (v8.Metric = p1x0)) && (decide (v8.Device = p2x0)))
  else
    Option.map .inr (some l5)

noncomputable def rule_seen_l1 (p0x0 : List Sample) (p1x0 : Str) (p2x0 : Str) (l5 : List Rule_sample) (n6 : Int) : Option (List Rule_sample) :=
  iter (fun x : (List Rule_sample) × Int => rule_seen_b1 p0x0 p1x0 p2x0 x.1 x.2) (l5, n6)

noncomputable def rule_seen (p0x0 : List Sample) (p1x0 : Str) (p2x0 : Str) : Option (List Rule_sample) :=
  rule_seen_l1 p0x0 p1x0 p2x0 [] (0 : Int)

noncomputable def rule_track_turn_j2 (p0x0 : Rule_track) (c2 : Bool) : Int :=
  if c2 = true then
    w64 (p0x0.since_ + p0x0.rule_.Rest)
  else
    (345686400000 : Int)

noncomputable def rule_track_turn_j1 (p0x0 : Rule_track) (c1 : Bool) : Int :=
  if c1 = true then
    w64 (p0x0.since_ + p0x0.rule_.Hold)
  else
    rule_track_turn_j2 p0x0 (p0x0.firing_ && (decide (p0x0.state_ = (2 : Int))))

noncomputable def rule_track_turn (p0x0 : Rule_track) : Int :=
  rule_track_turn_j1 p0x0 ((!p0x0.firing_) && (decide (p0x0.state_ = (1 : Int))))

noncomputable def rule_track_due_j1 (n1 : Int) : Option Int :=
  some n1

noncomputable def rule_track_due (p0x0 : Rule_track) : Option Int :=
  if (0 : Int) < (p0x0.window_.length : Int) then
    (idx p0x0.window_ (0 : Int)).bind fun v2 =>
    rule_track_due_j1 (min (min (rule_track_turn p0x0) (345686400000 : Int)) (w64 (v2.at_ + p0x0.rule_.Long)))
  else
    rule_track_due_j1 (min (rule_track_turn p0x0) (345686400000 : Int))

noncomputable def rule_track_drop_j3 (n14 : Int) (v17 : Rule_sample) (l19 : List Rule_sample) (l22 : List Rule_sample) (l27 : List Rule_sample) : Option (((List Rule_sample) × (List Rule_sample) × (List Rule_sample) × Int) ⊕ Rule_track) :=
  some (.inl (l19, l22, l27, w64 (n14 - v17.value_)))

noncomputable def rule_track_drop_j2 (l12 : List Rule_sample) (n14 : Int) (v17 : Rule_sample) (l19 : List Rule_sample) (l22 : List Rule_sample) : Option (((List Rule_sample) × (List Rule_sample) × (List Rule_sample) × Int) ⊕ Rule_track) :=
  (idx l12 (0 : Int)).bind fun v26 =>
  if v26 = v17 then
    (slc l12 (1 : Int) (l12.length : Int)).bind fun l29 =>
    rule_track_drop_j3 n14 v17 l19 l22 l29
  else
    rule_track_drop_j3 n14 v17 l19 l22 l12

noncomputable def rule_track_drop_j1 (p0x0 : Rule_track) (l8 : List Rule_sample) (l10 : List Rule_sample) (l12 : List Rule_sample) (n14 : Int) (c15 : Bool) : Option (((List Rule_sample) × (List Rule_sample) × (List Rule_sample) × Int) ⊕ Rule_track) :=
  if c15 = true then
    (idx l8 (0 : Int)).bind fun v17 =>
    (slc l8 (1 : Int) (l8.length : Int)).bind fun l19 =>
    (idx l10 (0 : Int)).bind fun v21 =>
    if v21 = v17 then
      (slc l10 (1 : Int) (l10.length : Int)).bind fun l24 =>
      rule_track_drop_j2 l12 n14 v17 l19 l24
    else
      rule_track_drop_j2 l12 n14 v17 l19 l10
  else
    Option.map .inr (some (⟨p0x0.rule_, l8, l10, l12, n14, p0x0.state_, p0x0.since_, p0x0.firing_, p0x0.began_⟩ : Rule_track))

noncomputable def rule_track_drop_b1 (p0x0 : Rule_track) (p1x0 : Int) (l8 : List Rule_sample) (l10 : List Rule_sample) (l12 : List Rule_sample) (n14 : Int) : Option (((List Rule_sample) × (List Rule_sample) × (List Rule_sample) × Int) ⊕ Rule_track) :=
  if (0 : Int) < (l8.length : Int) then
    (idx l8 (0 : Int)).bind fun v16 =>
    rule_track_drop_j1 p0x0 l8 l10 l12 n14 (decide ((w64 (v16.at_ + p0x0.rule_.Long)) ≤ p1x0))
  else
    rule_track_drop_j1 p0x0 l8 l10 l12 n14 false

noncomputable def rule_track_drop_l1 (p0x0 : Rule_track) (p1x0 : Int) (l8 : List Rule_sample) (l10 : List Rule_sample) (l12 : List Rule_sample) (n14 : Int) : Option Rule_track :=
  iter (fun x : (List Rule_sample) × (List Rule_sample) × (List Rule_sample) × Int => rule_track_drop_b1 p0x0 p1x0 x.1 x.2.1 x.2.2.1 x.2.2.2) (l8, l10, l12, n14)

noncomputable def rule_track_drop (p0x0 : Rule_track) (p1x0 : Int) : Option Rule_track :=
  rule_track_drop_l1 p0x0 p1x0 p0x0.window_ p0x0.least_ p0x0.most_ p0x0.sum_

noncomputable def rule_track_update_j1 (p0x0 : Rule_track) (n2 : Int) (n3 : Int) : Option Rule_track :=
  some (⟨p0x0.rule_, p0x0.window_, p0x0.least_, p0x0.most_, p0x0.sum_, n2, n3, p0x0.firing_, p0x0.began_⟩ : Rule_track)

noncomputable def rule_track_update (p0x0 : Rule_track) (p1x0 : Int) : Option Rule_track :=
  (rule_track_now p0x0).bind fun v1 =>
  if v1 ≠ p0x0.state_ then
    rule_track_update_j1 p0x0 v1 p1x0
  else
    rule_track_update_j1 p0x0 p0x0.state_ p0x0.since_

noncomputable def rule_standing_1x (p0x0 : Int) (p1x0 : Bool) : Unit :=
  ()

noncomputable def rule_track_advance_c0x9xrule_standing_1x_j1 (v37 : Rule_track) (c44 : Bool) (n45 : Int) : Option (((List Rule_sample) × (List Rule_sample) × (List Rule_sample) × Int × Int × Int × Bool × Int) ⊕ Rule_track) :=
  some (.inl (v37.window_, v37.least_, v37.most_, v37.sum_, v37.state_, v37.since_, c44, n45))

noncomputable def rule_track_advance_c0x9xrule_standing_1x_j2 (v37 : Rule_track) (n46 : Int) : Option (((List Rule_sample) × (List Rule_sample) × (List Rule_sample) × Int × Int × Int × Bool × Int) ⊕ Rule_track) :=
  rule_track_advance_c0x9xrule_standing_1x_j1 v37 (!v37.firing_) n46

noncomputable def rule_track_advance_c0x9xrule_standing_1x_b1 (p0x0 : Rule_track) (p1x0 : Int) (l16 : List Rule_sample) (l19 : List Rule_sample) (l22 : List Rule_sample) (n24 : Int) (n25 : Int) (n26 : Int) (c27 : Bool) (n28 : Int) : Option (((List Rule_sample) × (List Rule_sample) × (List Rule_sample) × Int × Int × Int × Bool × Int) ⊕ Rule_track) :=
  (rule_track_due (⟨p0x0.rule_, l16, l19, l22, n24, n25, n26, c27, n28⟩ : Rule_track)).bind fun v29 =>
  if (min p1x0 (345686400000 : Int)) ≤ v29 then
    Option.map .inr (some (⟨p0x0.rule_, l16, l19, l22, n24, n25, n26, c27, n28⟩ : Rule_track))
  else
    (rule_track_drop (⟨p0x0.rule_, l16, l19, l22, n24, n25, n26, c27, n28⟩ : Rule_track) v29).bind fun v30 =>
    (rule_track_update (⟨p0x0.rule_, v30.window_, v30.least_, v30.most_, v30.sum_, v30.state_, v30.since_, v30.firing_, v30.began_⟩ : Rule_track) v29).bind fun v37 =>
    if (rule_track_turn (⟨p0x0.rule_, v37.window_, v37.least_, v37.most_, v37.sum_, v37.state_, v37.since_, v37.firing_, v37.began_⟩ : Rule_track)) = v29 then
      if (!v37.firing_) = true then
        rule_track_advance_c0x9xrule_standing_1x_j2 v37 v29
      else
        rule_track_advance_c0x9xrule_standing_1x_j2 v37 v37.began_
    else
      rule_track_advance_c0x9xrule_standing_1x_j1 v37 v37.firing_ v37.began_

noncomputable def rule_track_advance_c0x9xrule_standing_1x_l1 (p0x0 : Rule_track) (p1x0 : Int) (l16 : List Rule_sample) (l19 : List Rule_sample) (l22 : List Rule_sample) (n24 : Int) (n25 : Int) (n26 : Int) (c27 : Bool) (n28 : Int) : Option Rule_track :=
  iter (fun x : (List Rule_sample) × (List Rule_sample) × (List Rule_sample) × Int × Int × Int × Bool × Int => rule_track_advance_c0x9xrule_standing_1x_b1 p0x0 p1x0 x.1 x.2.1 x.2.2.1 x.2.2.2.1 x.2.2.2.2.1 x.2.2.2.2.2.1 x.2.2.2.2.2.2.1 x.2.2.2.2.2.2.2) (l16, l19, l22, n24, n25, n26, c27, n28)

noncomputable def rule_track_advance_c0x9xrule_standing_1x (p0x0 : Rule_track) (p1x0 : Int) : Option Rule_track :=
  rule_track_advance_c0x9xrule_standing_1x_l1 p0x0 p1x0 p0x0.window_ p0x0.least_ p0x0.most_ p0x0.sum_ p0x0.state_ p0x0.since_ p0x0.firing_ p0x0.began_

noncomputable def rule_track_put_k3 (p0x0 : Rule_track) (p1x0 : Rule_sample) (v2 : Rule_track) (l9 : List Rule_sample) (l18 : List Rule_sample) (l22 : List Rule_sample) : Option Rule_track :=
  (app l22 [p1x0]).bind fun l27 =>
  (rule_track_update (⟨p0x0.rule_, l9, l18, l27, w64 (v2.sum_ + p1x0.value_), v2.state_, v2.since_, v2.firing_, v2.began_⟩ : Rule_track) p1x0.at_).bind fun v29 =>
  some (⟨p0x0.rule_, v29.window_, v29.least_, v29.most_, v29.sum_, v29.state_, v29.since_, v29.firing_, v29.began_⟩ : Rule_track)

noncomputable def rule_track_put_j2 (p0x0 : Rule_track) (p1x0 : Rule_sample) (v2 : Rule_track) (l9 : List Rule_sample) (l18 : List Rule_sample) (l22 : List Rule_sample) (n23 : Int) (c24 : Bool) : Option (((List Rule_sample) × Int) ⊕ Rule_track) :=
  if c24 = true then
    (slc l22 (0 : Int) (w64 (n23 - (1 : Int)))).bind fun l26 =>
    some (.inl (l26, w64 (n23 - (1 : Int))))
  else
    Option.map .inr (rule_track_put_k3 p0x0 p1x0 v2 l9 l18 l22)

noncomputable def rule_track_put_b2 (p0x0 : Rule_track) (p1x0 : Rule_sample) (v2 : Rule_track) (l9 : List Rule_sample) (l18 : List Rule_sample) (l22 : List Rule_sample) (n23 : Int) : Option (((List Rule_sample) × Int) ⊕ Rule_track) :=
  if (0 : Int) < n23 then
    (idx l22 (w64 (n23 - (1 : Int)))).bind fun v25 =>
    rule_track_put_j2 p0x0 p1x0 v2 l9 l18 l22 n23 (decide (v25.value_ ≤ p1x0.value_))
  else
    rule_track_put_j2 p0x0 p1x0 v2 l9 l18 l22 n23 false

noncomputable def rule_track_put_l2 (p0x0 : Rule_track) (p1x0 : Rule_sample) (v2 : Rule_track) (l9 : List Rule_sample) (l18 : List Rule_sample) (l22 : List Rule_sample) (n23 : Int) : Option Rule_track :=
  iter (fun x : (List Rule_sample) × Int => rule_track_put_b2 p0x0 p1x0 v2 l9 l18 x.1 x.2) (l22, n23)

noncomputable def rule_track_put_k4 (p0x0 : Rule_track) (p1x0 : Rule_sample) (v2 : Rule_track) (l9 : List Rule_sample) (l13 : List Rule_sample) : Option Rule_track :=
  (app l13 [p1x0]).bind fun l18 =>
  rule_track_put_l2 p0x0 p1x0 v2 l9 l18 v2.most_ (v2.most_.length : Int)

noncomputable def rule_track_put_j1 (p0x0 : Rule_track) (p1x0 : Rule_sample) (v2 : Rule_track) (l9 : List Rule_sample) (l13 : List Rule_sample) (n14 : Int) (c15 : Bool) : Option (((List Rule_sample) × Int) ⊕ Rule_track) :=
  if c15 = true then
    (slc l13 (0 : Int) (w64 (n14 - (1 : Int)))).bind fun l17 =>
    some (.inl (l17, w64 (n14 - (1 : Int))))
  else
    Option.map .inr (rule_track_put_k4 p0x0 p1x0 v2 l9 l13)

noncomputable def rule_track_put_b1 (p0x0 : Rule_track) (p1x0 : Rule_sample) (v2 : Rule_track) (l9 : List Rule_sample) (l13 : List Rule_sample) (n14 : Int) : Option (((List Rule_sample) × Int) ⊕ Rule_track) :=
  if (0 : Int) < n14 then
    (idx l13 (w64 (n14 - (1 : Int)))).bind fun v16 =>
    rule_track_put_j1 p0x0 p1x0 v2 l9 l13 n14 (decide (p1x0.value_ ≤ v16.value_))
  else
    rule_track_put_j1 p0x0 p1x0 v2 l9 l13 n14 false

noncomputable def rule_track_put_l1 (p0x0 : Rule_track) (p1x0 : Rule_sample) (v2 : Rule_track) (l9 : List Rule_sample) (l13 : List Rule_sample) (n14 : Int) : Option Rule_track :=
  iter (fun x : (List Rule_sample) × Int => rule_track_put_b1 p0x0 p1x0 v2 l9 x.1 x.2) (l13, n14)

noncomputable def rule_track_put (p0x0 : Rule_track) (p1x0 : Rule_sample) : Option Rule_track :=
  (rule_track_drop p0x0 p1x0.at_).bind fun v2 =>
  (app v2.window_ [p1x0]).bind fun l9 =>
  rule_track_put_l1 p0x0 p1x0 v2 l9 v2.least_ (v2.least_.length : Int)

noncomputable def rule_standing_j1 (n40 : Int) (l44 : List Rule_sample) (l47 : List Rule_sample) (l50 : List Rule_sample) (n52 : Int) (n53 : Int) (n54 : Int) (c55 : Bool) (n56 : Int) : Option (((List Rule_sample) × (List Rule_sample) × (List Rule_sample) × Int × Int × Int × Bool × Int × Int) ⊕ Rule_track) :=
  some (.inl (l44, l47, l50, n52, n53, n54, c55, n56, w64 (n40 + (1 : Int))))

noncomputable def rule_standing_k2 (p0x0 : Rule) (p3x0 : Int) (l27 : List Rule_sample) (l30 : List Rule_sample) (l33 : List Rule_sample) (n35 : Int) (n36 : Int) (n37 : Int) (c38 : Bool) (n39 : Int) : Option Rule_track :=
  (rule_track_advance_c0x9xrule_standing_1x (⟨p0x0, l27, l30, l33, n35, n36, n37, c38, n39⟩ : Rule_track) p3x0).bind fun v71 =>
  (rule_track_drop (⟨p0x0, v71.window_, v71.least_, v71.most_, v71.sum_, v71.state_, v71.since_, v71.firing_, v71.began_⟩ : Rule_track) p3x0).bind fun v78 =>
  (rule_track_update (⟨p0x0, v78.window_, v78.least_, v78.most_, v78.sum_, v78.state_, v78.since_, v78.firing_, v78.began_⟩ : Rule_track) p3x0).bind fun v85 =>
  some (⟨p0x0, v85.window_, v85.least_, v85.most_, v85.sum_, v85.state_, v85.since_, v85.firing_, v85.began_⟩ : Rule_track)

noncomputable def rule_standing_b1 (p0x0 : Rule) (p3x0 : Int) (v9 : (List Rule_sample)) (l27 : List Rule_sample) (l30 : List Rule_sample) (l33 : List Rule_sample) (n35 : Int) (n36 : Int) (n37 : Int) (c38 : Bool) (n39 : Int) (n40 : Int) : Option (((List Rule_sample) × (List Rule_sample) × (List Rule_sample) × Int × Int × Int × Bool × Int × Int) ⊕ Rule_track) :=
  if n40 < (v9.length : Int) then
    (idx v9 n40).bind fun v41 =>
    if v41.at_ ≤ p3x0 then
      (rule_track_advance_c0x9xrule_standing_1x (⟨p0x0, l27, l30, l33, n35, n36, n37, c38, n39⟩ : Rule_track) v41.at_).bind fun v57 =>
      (rule_track_put (⟨p0x0, v57.window_, v57.least_, v57.most_, v57.sum_, v57.state_, v57.since_, v57.firing_, v57.began_⟩ : Rule_track) v41).bind fun v64 =>
      rule_standing_j1 n40 v64.window_ v64.least_ v64.most_ v64.sum_ v64.state_ v64.since_ v64.firing_ v64.began_
    else
      rule_standing_j1 n40 l27 l30 l33 n35 n36 n37 c38 n39
  else
    Option.map .inr (rule_standing_k2 p0x0 p3x0 l27 l30 l33 n35 n36 n37 c38 n39)

noncomputable def rule_standing_l1 (p0x0 : Rule) (p3x0 : Int) (v9 : (List Rule_sample)) (l27 : List Rule_sample) (l30 : List Rule_sample) (l33 : List Rule_sample) (n35 : Int) (n36 : Int) (n37 : Int) (c38 : Bool) (n39 : Int) (n40 : Int) : Option Rule_track :=
  iter (fun x : (List Rule_sample) × (List Rule_sample) × (List Rule_sample) × Int × Int × Int × Bool × Int × Int => rule_standing_b1 p0x0 p3x0 v9 x.1 x.2.1 x.2.2.1 x.2.2.2.1 x.2.2.2.2.1 x.2.2.2.2.2.1 x.2.2.2.2.2.2.1 x.2.2.2.2.2.2.2.1 x.2.2.2.2.2.2.2.2) (l27, l30, l33, n35, n36, n37, c38, n39, n40)

noncomputable def rule_standing (p0x0 : Rule) (p1x0 : List Sample) (p2x0 : Str) (p3x0 : Int) : Option Rule_track :=
  (rule_newTrack p0x0).bind fun v1 =>
  (rule_seen p1x0 p0x0.Metric p2x0).bind fun v9 =>
  rule_standing_l1 p0x0 p3x0 v9 v1.window_ v1.least_ v1.most_ v1.sum_ v1.state_ v1.since_ v1.firing_ v1.began_ (0 : Int)

noncomputable def rule_Value_1x (p0x0 : Int) : Fraction × Bool × Int :=
  ((⟨p0x0, (1 : Int)⟩ : Fraction), true, (0 : Int))

noncomputable def base_Gcd_b1 (n3 : Int) (n4 : Int) : Option ((Int × Int) ⊕ Int) :=
  if n4 ≠ (0 : Int) then
    (rem n3 n4).bind fun n5 =>
    some (.inl (n4, n5))
  else
    Option.map .inr (some n3)

noncomputable def base_Gcd_l1 (n3 : Int) (n4 : Int) : Option Int :=
  iter (fun x : Int × Int => base_Gcd_b1 x.1 x.2) (n3, n4)

noncomputable def base_Gcd (p0x0 : Int) (p1x0 : Int) : Option Int :=
  base_Gcd_l1 p0x0 p1x0

noncomputable def base_Fraction (p0x0 : Int) (p1x0 : Int) : Option Fraction :=
  (base_Gcd (max p0x0 (w64 (-p0x0))) p1x0).bind fun v2 =>
  (quo p0x0 v2).bind fun n3 =>
  (quo p1x0 v2).bind fun n4 =>
  some (⟨n3, n4⟩ : Fraction)

noncomputable def rule_Value (p0x0 : Rule) (p1x0 : List Sample) (p2x0 : Str) (p3x0 : Int) : Option (Fraction × Bool × Int) :=
  (rule_oneFault p0x0 p1x0 p2x0 p3x0).bind fun v3 =>
  if v3 ≠ (0 : Int) then
    some ((⟨(0 : Int), (0 : Int)⟩ : Fraction), false, v3)
  else
    (rule_standing p0x0 p1x0 p2x0 p3x0).bind fun v4 =>
    if p0x0.Agg = (5 : Int) then
      some (((rule_Value_1x (v4.window_.length : Int)).1), (rule_Value_1x (v4.window_.length : Int)).2.1, (rule_Value_1x (v4.window_.length : Int)).2.2)
    else
      if (v4.window_.length : Int) = (0 : Int) then
        some ((⟨(0 : Int), (0 : Int)⟩ : Fraction), false, (0 : Int))
      else
        if p0x0.Agg = (2 : Int) then
          (idx v4.least_ (0 : Int)).bind fun v12 =>
          some (((rule_Value_1x v12.value_).1), (rule_Value_1x v12.value_).2.1, (rule_Value_1x v12.value_).2.2)
        else
          if p0x0.Agg = (3 : Int) then
            (idx v4.most_ (0 : Int)).bind fun v13 =>
            some (((rule_Value_1x v13.value_).1), (rule_Value_1x v13.value_).2.1, (rule_Value_1x v13.value_).2.2)
          else
            if p0x0.Agg = (4 : Int) then
              (base_Fraction v4.sum_ (v4.window_.length : Int)).bind fun v14 =>
              some (v14, true, (0 : Int))
            else
              if p0x0.Agg = (6 : Int) then
                (idx v4.window_ (w64 ((v4.window_.length : Int) - (1 : Int)))).bind fun v15 =>
                (idx v4.window_ (0 : Int)).bind fun v16 =>
                some (((rule_Value_1x (w64 (v15.value_ - v16.value_))).1), (rule_Value_1x (w64 (v15.value_ - v16.value_))).2.1, (rule_Value_1x (w64 (v15.value_ - v16.value_))).2.2)
              else
                (idx v4.window_ (w64 ((v4.window_.length : Int) - (1 : Int)))).bind fun v17 =>
                some (((rule_Value_1x v17.value_).1), (rule_Value_1x v17.value_).2.1, (rule_Value_1x v17.value_).2.2)

noncomputable def rule_State (p0x0 : Rule) (p1x0 : List Sample) (p2x0 : Str) (p3x0 : Int) : Option (Int × Int) :=
  (rule_oneFault p0x0 p1x0 p2x0 p3x0).bind fun v2 =>
  if v2 ≠ (0 : Int) then
    some ((0 : Int), v2)
  else
    (rule_standing p0x0 p1x0 p2x0 p3x0).bind fun v3 =>
    some (v3.state_, (0 : Int))

noncomputable def Q_in_j1 (c1 : Bool) : Bool :=
  c1

noncomputable def Q_in (p0x0 : Int) (p1x0 : Int) (p2x0 : Int) : Bool :=
  Q_in_j1 ((decide (p1x0 ≤ p0x0)) && (decide (p0x0 ≤ p2x0)))

noncomputable def Q_MomentFault (p0x0 : Int) : Int :=
  if (!(Q_in p0x0 (0 : Int) (345686399999 : Int))) = true then
    (1 : Int)
  else
    (0 : Int)

noncomputable def Q_Key_j1 (c1 : Bool) : Option Bool :=
  some c1

noncomputable def Q_Key (p0x0 : Str) : Option Bool :=
  if (Q_in (p0x0.length : Int) (1 : Int) (40 : Int)) = true then
    (trimO p0x0 ([97, 98, 99, 100, 101, 102, 103, 104, 105, 106, 107, 108, 109, 110, 111, 112, 113, 114, 115, 116, 117, 118, 119, 120, 121, 122, 48, 49, 50, 51, 52, 53, 54, 55, 56, 57, 45, 95] : Str)).bind fun v2 =>
    if v2 = ([] : Str) then
      (idx p0x0 (0 : Int)).bind fun c3 =>
      Q_Key_j1 (decide ((0 : Int) ≤ (indexByteI ([97, 98, 99, 100, 101, 102, 103, 104, 105, 106, 107, 108, 109, 110, 111, 112, 113, 114, 115, 116, 117, 118, 119, 120, 121, 122] : Str) (c3.toNat : Int))))
    else
      Q_Key_j1 false
  else
    Q_Key_j1 false

noncomputable def Q_SampleFault_j1 (p0x0 : Sample) (c2 : Bool) : Option Int :=
  if c2 = true then
    some (5 : Int)
  else
    if (!(Q_in p0x0.Value (-1000000000 : Int) (1000000000 : Int))) = true then
      some (1 : Int)
    else
      some (0 : Int)

noncomputable def Q_SampleFault (p0x0 : Sample) : Option Int :=
  if (Q_MomentFault p0x0.At) ≠ (0 : Int) then
    some (1 : Int)
  else
    (Q_Key p0x0.Device).bind fun v3 =>
    if (!v3) = true then
      Q_SampleFault_j1 p0x0 true
    else
      (Q_Key p0x0.Metric).bind fun v4 =>
      Q_SampleFault_j1 p0x0 (!v4)

noncomputable def Q_SampleOrder (p0x0 : Sample) (p1x0 : Sample) : Option Int :=
  (cmp_Or_int [(cmp_Compare_int p0x0.At p1x0.At), (Lib.compareBytes p0x0.Device p1x0.Device), (Lib.compareBytes p0x0.Metric p1x0.Metric)]).bind fun v3 =>
  some v3

noncomputable def Q_SamplesFault_j1 (n2 : Int) (c6 : Bool) : Option (Int ⊕ Int) :=
  if c6 = true then
    Option.map .inr (some (7 : Int))
  else
    some (.inl (w64 (n2 + (1 : Int))))

noncomputable def Q_SamplesFault_b1 (p0x0 : List Sample) (n2 : Int) : Option (Int ⊕ Int) :=
  if n2 < (p0x0.length : Int) then
    (idx p0x0 n2).bind fun v3 =>
    (Q_SampleFault v3).bind fun v5 =>
    if v5 ≠ (0 : Int) then
      Option.map .inr (some v5)
    else
      if (0 : Int) < n2 then
        (idx p0x0 (w64 (n2 - (1 : Int)))).bind fun v7 =>
        (Q_SampleOrder v7 v3).bind fun v8 =>
        Q_SamplesFault_j1 n2 (decide ((0 : Int) ≤ v8))
      else
        Q_SamplesFault_j1 n2 false
  else
    Option.map .inr (some (0 : Int))

noncomputable def Q_SamplesFault_l1 (p0x0 : List Sample) (n2 : Int) : Option Int :=
  iter (fun x : Int => Q_SamplesFault_b1 p0x0 x) n2

noncomputable def Q_SamplesFault (p0x0 : List Sample) : Option Int :=
  if (5000 : Int) < (p0x0.length : Int) then
    some (2 : Int)
  else
    Q_SamplesFault_l1 p0x0 (0 : Int)

noncomputable def Q_RulesFault_1x (p0x0 : Int) : Bool :=
  (Q_in p0x0 (-1000000000 : Int) (1000000000 : Int))

noncomputable def Q_RulesFault_j2 (n2 : Int) (v3 : Rule) (c9 : Bool) : Option (Int ⊕ Int) :=
  if c9 = true then
    Option.map .inr (some (1 : Int))
  else
    if (!(Q_in v3.Empty (0 : Int) (2 : Int))) = true then
      Option.map .inr (some (4 : Int))
    else
      some (.inl (w64 (n2 + (1 : Int))))

noncomputable def Q_RulesFault_j1 (n2 : Int) (v3 : Rule) (c6 : Bool) : Option (Int ⊕ Int) :=
  if c6 = true then
    Option.map .inr (some (7 : Int))
  else
    (Q_Key v3.Metric).bind fun v8 =>
    if (!v8) = true then
      Option.map .inr (some (5 : Int))
    else
      if (!(Q_in v3.Agg (1 : Int) (6 : Int))) = true then
        Option.map .inr (some (4 : Int))
      else
        Q_RulesFault_j2 n2 v3 ((!(Q_in v3.Long (1 : Int) (2592000000 : Int))) || ((!(Q_RulesFault_1x v3.On)) || ((!(Q_RulesFault_1x v3.Off)) || (if v3.Above = true then (decide (v3.On < v3.Off)) || (if (!v3.Above) = true then (decide (v3.Off < v3.On)) || ((!(Q_in v3.Hold (0 : Int) (2592000000 : Int))) || (!(Q_in v3.Rest (0 : Int) (2592000000 : Int)))) else (!(Q_in v3.Hold (0 : Int) (2592000000 : Int))) || (!(Q_in v3.Rest (0 : Int) (2592000000 : Int)))) else if (!v3.Above) = true then (decide (v3.Off < v3.On)) || ((!(Q_in v3.Hold (0 : Int) (2592000000 : Int))) || (!(Q_in v3.Rest (0 : Int) (2592000000 : Int)))) else (!(Q_in v3.Hold (0 : Int) (2592000000 : Int))) || (!(Q_in v3.Rest (0 : Int) (2592000000 : Int)))))))

noncomputable def Q_RulesFault_b1 (p0x0 : List Rule) (n2 : Int) : Option (Int ⊕ Int) :=
  if n2 < (p0x0.length : Int) then
    (idx p0x0 n2).bind fun v3 =>
    (Q_Key v3.Key).bind fun v5 =>
    if (!v5) = true then
      Option.map .inr (some (5 : Int))
    else
      if (0 : Int) < n2 then
        (idx p0x0 (w64 (n2 - (1 : Int)))).bind fun v7 =>
        Q_RulesFault_j1 n2 v3 (Op.bytesLess v3.Key v7.Key || v3.Key == v7.Key)
      else
        Q_RulesFault_j1 n2 v3 false
  else
    Option.map .inr (some (0 : Int))

noncomputable def Q_RulesFault_l1 (p0x0 : List Rule) (n2 : Int) : Option Int :=
  iter (fun x : Int => Q_RulesFault_b1 p0x0 x) n2

noncomputable def Q_RulesFault (p0x0 : List Rule) : Option Int :=
  if (100 : Int) < (p0x0.length : Int) then
    some (2 : Int)
  else
    Q_RulesFault_l1 p0x0 (0 : Int)

noncomputable def cmp_Or_Errno_b1 (p0x0 : List Int) (n2 : Int) : Option (Int ⊕ Int) :=
  if n2 < (p0x0.length : Int) then
    (idx p0x0 n2).bind fun v3 =>
    if v3 ≠ (0 : Int) then
      Option.map .inr (some v3)
    else
      some (.inl (w64 (n2 + (1 : Int))))
  else
    Option.map .inr (some (0 : Int))

noncomputable def cmp_Or_Errno_l1 (p0x0 : List Int) (n2 : Int) : Option Int :=
  iter (fun x : Int => cmp_Or_Errno_b1 p0x0 x) n2

noncomputable def cmp_Or_Errno (p0x0 : List Int) : Option Int :=
  cmp_Or_Errno_l1 p0x0 (0 : Int)

noncomputable def slices_Index_Sample_Sample_b1 (p0x0 : List Sample) (p1x0 : Sample) (n3 : Int) : Option (Int ⊕ Int) :=
  if n3 < (p0x0.length : Int) then
    (idx p0x0 n3).bind fun v4 =>
    if p1x0 = v4 then
      Option.map .inr (some n3)
    else
      some (.inl (w64 (n3 + (1 : Int))))
  else
    Option.map .inr (some (-1 : Int))

noncomputable def slices_Index_Sample_Sample_l1 (p0x0 : List Sample) (p1x0 : Sample) (n3 : Int) : Option Int :=
  iter (fun x : Int => slices_Index_Sample_Sample_b1 p0x0 p1x0 x) n3

noncomputable def slices_Index_Sample_Sample (p0x0 : List Sample) (p1x0 : Sample) : Option Int :=
  slices_Index_Sample_Sample_l1 p0x0 p1x0 (0 : Int)

noncomputable def slices_Contains_Sample_Sample (p0x0 : List Sample) (p1x0 : Sample) : Option Bool :=
  (slices_Index_Sample_Sample p0x0 p1x0).bind fun v2 =>
  some (decide ((0 : Int) ≤ v2))

noncomputable def Q_merged_Sample_j1 (n8 : Int) (l13 : List Sample) : Option (((List Sample) × Int) ⊕ ((List Sample) × Bool)) :=
  some (.inl (l13, w64 (n8 + (1 : Int))))

noncomputable def Q_merged_Sample_b2 (fnc : Sample → Sample → Option Int) (v16 : (List Sample)) (n18 : Int) : Option (Int ⊕ ((List Sample) × Bool)) :=
  if n18 < (v16.length : Int) then
    (idx v16 (w64 (n18 - (1 : Int)))).bind fun v19 =>
    (idx v16 n18).bind fun v20 =>
    (fnc v19 v20).bind fun v21 =>
    if v21 = (0 : Int) then
      Option.map .inr (some ([], false))
    else
      some (.inl (w64 (n18 + (1 : Int))))
  else
    Option.map .inr (some (v16, true))

noncomputable def Q_merged_Sample_l2 (fnc : Sample → Sample → Option Int) (v16 : (List Sample)) (n18 : Int) : Option ((List Sample) × Bool) :=
  iter (fun x : Int => Q_merged_Sample_b2 fnc v16 x) n18

noncomputable def Q_merged_Sample_k2 (fnc : Sample → Sample → Option Int) (l7 : List Sample) : Option ((List Sample) × Bool) :=
  (lenOk l7.length (fun r : (List Sample) => r.length) (slices_SortFunc_Sample_Sample l7 fnc)).bind fun v16 =>
  Q_merged_Sample_l2 fnc v16 (1 : Int)

noncomputable def Q_merged_Sample_b1 (p1x0 : List Sample) (fnc : Sample → Sample → Option Int) (l7 : List Sample) (n8 : Int) : Option (((List Sample) × Int) ⊕ ((List Sample) × Bool)) :=
  if n8 < (p1x0.length : Int) then
    (idx p1x0 n8).bind fun v9 =>
    (slices_Contains_Sample_Sample l7 v9).bind fun v11 =>
    if (!v11) = true then
      (app l7 [v9]).bind fun l14 =>
      Q_merged_Sample_j1 n8 l14
    else
      Q_merged_Sample_j1 n8 l7
  else
    Option.map .inr (Q_merged_Sample_k2 fnc l7)

noncomputable def Q_merged_Sample_l1 (p1x0 : List Sample) (fnc : Sample → Sample → Option Int) (l7 : List Sample) (n8 : Int) : Option ((List Sample) × Bool) :=
  iter (fun x : (List Sample) × Int => Q_merged_Sample_b1 p1x0 fnc x.1 x.2) (l7, n8)

noncomputable def Q_merged_Sample (p0x0 : List Sample) (p1x0 : List Sample) (fnc : Sample → Sample → Option Int) : Option ((List Sample) × Bool) :=
  (slices_Clone_Sample_Sample p0x0).bind fun v1 =>
  Q_merged_Sample_l1 p1x0 fnc v1 (0 : Int)

noncomputable def Q_SamplesMerged (p0x0 : List Sample) (p1x0 : List Sample) : Option ((List Sample) × Int) :=
  (Q_merged_Sample p0x0 p1x0 (fun y0 y1 => Q_SampleOrder y0 y1)).bind fun v1 =>
  if (!v1.2) = true then
    some ([], (13 : Int))
  else
    if (5000 : Int) < (v1.1.length : Int) then
      some ([], (2 : Int))
    else
      some (v1.1, (0 : Int))

noncomputable def slices_Equal_Sample_Sample_b1 (p0x0 : List Sample) (p1x0 : List Sample) (n2 : Int) : Option (Int ⊕ Bool) :=
  if n2 < (p0x0.length : Int) then
    (idx p0x0 n2).bind fun v3 =>
    (idx p1x0 n2).bind fun v4 =>
    if v3 ≠ v4 then
      Option.map .inr (some false)
    else
      some (.inl (w64 (n2 + (1 : Int))))
  else
    Option.map .inr (some true)

noncomputable def slices_Equal_Sample_Sample_l1 (p0x0 : List Sample) (p1x0 : List Sample) (n2 : Int) : Option Bool :=
  iter (fun x : Int => slices_Equal_Sample_Sample_b1 p0x0 p1x0 x) n2

noncomputable def slices_Equal_Sample_Sample (p0x0 : List Sample) (p1x0 : List Sample) : Option Bool :=
  if (p0x0.length : Int) ≠ (p1x0.length : Int) then
    some false
  else
    slices_Equal_Sample_Sample_l1 p0x0 p1x0 (0 : Int)

noncomputable def Q_KeyFault (p0x0 : Str) : Option Int :=
  (Q_Key p0x0).bind fun v1 =>
  if (!v1) = true then
    some (5 : Int)
  else
    some (0 : Int)

noncomputable def base_Window_j1 (c2 : Bool) : Bool :=
  c2

noncomputable def base_Window (p0x0 : Window) : Bool :=
  base_Window_j1 ((!(base_Out p0x0.From (0 : Int) p0x0.To)) && (decide (p0x0.To ≤ (345686400000 : Int))))

noncomputable def rule_fault_j2 (n6 : Int) : Option Int :=
  some n6

noncomputable def rule_fault_j1 (v4 : Int) (c5 : Bool) : Option Int :=
  if c5 = true then
    rule_fault_j2 (1 : Int)
  else
    rule_fault_j2 v4

noncomputable def rule_fault (p0x0 : List Rule) (p1x0 : List Sample) (p2x0 : Window) : Option Int :=
  (rule_CheckRules p0x0).bind fun v2 =>
  (rule_CheckSamples p1x0).bind fun v3 =>
  (base_First [v2, v3]).bind fun v4 =>
  rule_fault_j1 v4 ((decide (v4 = (0 : Int))) && (!(base_Window p2x0)))

/-- Sorted by Go. -/
noncomputable def slices_Sort_string_string (p0x0 : List Str) : Option (List Str) :=
  sort1 srtS p0x0

noncomputable def slices_Compact_string_string_j1 (n11 : Int) (l14 : List Str) (n15 : Int) : Option (((List Str) × Int × Int) ⊕ (Int ⊕ (List Str))) :=
  some (.inl (l14, n15, w64 (n11 + (1 : Int))))

noncomputable def slices_Compact_string_string_k2 (l9 : List Str) (n10 : Int) : Option (Int ⊕ (List Str)) :=
  (slc l9 n10 (l9.length : Int)).bind fun l18 =>
  (slc (clr l9 n10 l18.length []) (0 : Int) n10).bind fun l19 =>
  Option.map .inr (some l19)

noncomputable def slices_Compact_string_string_b2 (n2 : Int) (l5 : List Str) (l9 : List Str) (n10 : Int) (n11 : Int) : Option (((List Str) × Int × Int) ⊕ (Int ⊕ (List Str))) :=
  if n11 < (l5.length : Int) then
    (idxS l9 n2 l5.length n11).bind fun v12 =>
    (idxS l9 n2 l5.length (w64 (n11 - (1 : Int)))).bind fun v13 =>
    if v12 ≠ v13 then
      (idxS l9 n2 l5.length n11).bind fun v16 =>
      (idx l9 n10).bind fun v17 =>
      slices_Compact_string_string_j1 n11 (l9.set n10.toNat v16) (w64 (n10 + (1 : Int)))
    else
      slices_Compact_string_string_j1 n11 l9 n10
  else
    Option.map .inr (slices_Compact_string_string_k2 l9 n10)

noncomputable def slices_Compact_string_string_l2 (n2 : Int) (l5 : List Str) (l9 : List Str) (n10 : Int) (n11 : Int) : Option (Int ⊕ (List Str)) :=
  iter (fun x : (List Str) × Int × Int => slices_Compact_string_string_b2 n2 l5 x.1 x.2.1 x.2.2) (l9, n10, n11)

noncomputable def slices_Compact_string_string_b1 (p0x0 : List Str) (n2 : Int) : Option (Int ⊕ (List Str)) :=
  if n2 < (p0x0.length : Int) then
    (idx p0x0 n2).bind fun v3 =>
    (idx p0x0 (w64 (n2 - (1 : Int)))).bind fun v4 =>
    if v3 = v4 then
      (slc p0x0 n2 (p0x0.length : Int)).bind fun l5 =>
      slices_Compact_string_string_l2 n2 l5 p0x0 n2 (1 : Int)
    else
      some (.inl (w64 (n2 + (1 : Int))))
  else
    Option.map .inr (some p0x0)

noncomputable def slices_Compact_string_string_l1 (p0x0 : List Str) (n2 : Int) : Option (List Str) :=
  iter (fun x : Int => slices_Compact_string_string_b1 p0x0 x) n2

noncomputable def slices_Compact_string_string (p0x0 : List Str) : Option (List Str) :=
  if (p0x0.length : Int) < (2 : Int) then
    some p0x0
  else
    slices_Compact_string_string_l1 p0x0 (1 : Int)

noncomputable def rule_devices_j1 (n6 : Int) (l11 : List Str) : Option (((List Str) × Int) ⊕ (List Str)) :=
  some (.inl (l11, w64 (n6 + (1 : Int))))

noncomputable def rule_devices_k2 (l5 : List Str) : Option (List Str) :=
  (lenOk l5.length (fun r : (List Str) => r.length) (slices_Sort_string_string l5)).bind fun v14 =>
  (slices_Compact_string_string v14).bind fun v15 =>
  some v15

noncomputable def rule_devices_b1 (p0x0 : List Sample) (p1x0 : Str) (l5 : List Str) (n6 : Int) : Option (((List Str) × Int) ⊕ (List Str)) :=
  if n6 < (p0x0.length : Int) then
    (idx p0x0 n6).bind fun v8 =>
    if v8.Metric = p1x0 then
      (app l5 [v8.Device]).bind fun l12 =>
      rule_devices_j1 n6 l12
    else
      rule_devices_j1 n6 l5
  else
    Option.map .inr (rule_devices_k2 l5)

noncomputable def rule_devices_l1 (p0x0 : List Sample) (p1x0 : Str) (l5 : List Str) (n6 : Int) : Option (List Str) :=
  iter (fun x : (List Str) × Int => rule_devices_b1 p0x0 p1x0 x.1 x.2) (l5, n6)

noncomputable def rule_devices (p0x0 : List Sample) (p1x0 : Str) : Option (List Str) :=
  rule_devices_l1 p0x0 p1x0 [] (0 : Int)

noncomputable def rule_spansOf_1x_j1 (l2 : List Rule_span) : Option (List Rule_span) :=
  some l2

noncomputable def rule_spansOf_1x (p0x0 : Int) (p1x0 : Bool) (p2x0 : List Rule_span) : Option (List Rule_span) :=
  if p1x0 = true then
    (app p2x0 [(⟨p0x0, (345686400000 : Int)⟩ : Rule_span)]).bind fun l3 =>
    rule_spansOf_1x_j1 l3
  else
    (idx p2x0 (w64 ((p2x0.length : Int) - (1 : Int)))).bind fun v5 =>
    rule_spansOf_1x_j1 (p2x0.set (w64 ((p2x0.length : Int) - (1 : Int))).toNat (⟨v5.from_, p0x0⟩ : Rule_span))

noncomputable def rule_track_advance_c0x9xrule_spansOf_1x_j1 (v41 : Rule_track) (c48 : Bool) (n49 : Int) (l51 : List Rule_span) : Option (((List Rule_sample) × (List Rule_sample) × (List Rule_sample) × Int × Int × Int × Bool × Int × (List Rule_span)) ⊕ (Rule_track × (List Rule_span))) :=
  some (.inl (v41.window_, v41.least_, v41.most_, v41.sum_, v41.state_, v41.since_, c48, n49, l51))

noncomputable def rule_track_advance_c0x9xrule_spansOf_1x_j2 (l32 : List Rule_span) (v33 : Int) (v41 : Rule_track) (n52 : Int) : Option (((List Rule_sample) × (List Rule_sample) × (List Rule_sample) × Int × Int × Int × Bool × Int × (List Rule_span)) ⊕ (Rule_track × (List Rule_span))) :=
  (rule_spansOf_1x v33 (!v41.firing_) l32).bind fun v53 =>
  rule_track_advance_c0x9xrule_spansOf_1x_j1 v41 (!v41.firing_) n52 v53

noncomputable def rule_track_advance_c0x9xrule_spansOf_1x_b1 (p0x0 : Rule_track) (p1x0 : Int) (l18 : List Rule_sample) (l21 : List Rule_sample) (l24 : List Rule_sample) (n26 : Int) (n27 : Int) (n28 : Int) (c29 : Bool) (n30 : Int) (l32 : List Rule_span) : Option (((List Rule_sample) × (List Rule_sample) × (List Rule_sample) × Int × Int × Int × Bool × Int × (List Rule_span)) ⊕ (Rule_track × (List Rule_span))) :=
  (rule_track_due (⟨p0x0.rule_, l18, l21, l24, n26, n27, n28, c29, n30⟩ : Rule_track)).bind fun v33 =>
  if (min p1x0 (345686400000 : Int)) ≤ v33 then
    Option.map .inr (some ((⟨p0x0.rule_, l18, l21, l24, n26, n27, n28, c29, n30⟩ : Rule_track), l32))
  else
    (rule_track_drop (⟨p0x0.rule_, l18, l21, l24, n26, n27, n28, c29, n30⟩ : Rule_track) v33).bind fun v34 =>
    (rule_track_update (⟨p0x0.rule_, v34.window_, v34.least_, v34.most_, v34.sum_, v34.state_, v34.since_, v34.firing_, v34.began_⟩ : Rule_track) v33).bind fun v41 =>
    if (rule_track_turn (⟨p0x0.rule_, v41.window_, v41.least_, v41.most_, v41.sum_, v41.state_, v41.since_, v41.firing_, v41.began_⟩ : Rule_track)) = v33 then
      if (!v41.firing_) = true then
        rule_track_advance_c0x9xrule_spansOf_1x_j2 l32 v33 v41 v33
      else
        rule_track_advance_c0x9xrule_spansOf_1x_j2 l32 v33 v41 v41.began_
    else
      rule_track_advance_c0x9xrule_spansOf_1x_j1 v41 v41.firing_ v41.began_ l32

noncomputable def rule_track_advance_c0x9xrule_spansOf_1x_l1 (p0x0 : Rule_track) (p1x0 : Int) (l18 : List Rule_sample) (l21 : List Rule_sample) (l24 : List Rule_sample) (n26 : Int) (n27 : Int) (n28 : Int) (c29 : Bool) (n30 : Int) (l32 : List Rule_span) : Option (Rule_track × (List Rule_span)) :=
  iter (fun x : (List Rule_sample) × (List Rule_sample) × (List Rule_sample) × Int × Int × Int × Bool × Int × (List Rule_span) => rule_track_advance_c0x9xrule_spansOf_1x_b1 p0x0 p1x0 x.1 x.2.1 x.2.2.1 x.2.2.2.1 x.2.2.2.2.1 x.2.2.2.2.2.1 x.2.2.2.2.2.2.1 x.2.2.2.2.2.2.2.1 x.2.2.2.2.2.2.2.2) (l18, l21, l24, n26, n27, n28, c29, n30, l32)

noncomputable def rule_track_advance_c0x9xrule_spansOf_1x (p0x0 : Rule_track) (p1x0 : Int) (p2x0 : List Rule_span) : Option (Rule_track × (List Rule_span)) :=
  rule_track_advance_c0x9xrule_spansOf_1x_l1 p0x0 p1x0 p0x0.window_ p0x0.least_ p0x0.most_ p0x0.sum_ p0x0.state_ p0x0.since_ p0x0.firing_ p0x0.began_ p2x0

noncomputable def rule_spansOf_k1 (p0x0 : Rule) (l28 : List Rule_span) (l30 : List Rule_sample) (l33 : List Rule_sample) (l36 : List Rule_sample) (n38 : Int) (n39 : Int) (n40 : Int) (c41 : Bool) (n42 : Int) : Option (List Rule_span) :=
  (rule_track_advance_c0x9xrule_spansOf_1x (⟨p0x0, l30, l33, l36, n38, n39, n40, c41, n42⟩ : Rule_track) (345686400000 : Int) l28).bind fun v62 =>
  some v62.2

noncomputable def rule_spansOf_b1 (p0x0 : Rule) (p1x0 : List Rule_sample) (l28 : List Rule_span) (l30 : List Rule_sample) (l33 : List Rule_sample) (l36 : List Rule_sample) (n38 : Int) (n39 : Int) (n40 : Int) (c41 : Bool) (n42 : Int) (n43 : Int) : Option (((List Rule_span) × (List Rule_sample) × (List Rule_sample) × (List Rule_sample) × Int × Int × Int × Bool × Int × Int) ⊕ (List Rule_span)) :=
  if n43 < (p1x0.length : Int) then
    (idx p1x0 n43).bind fun v45 =>
    (rule_track_advance_c0x9xrule_spansOf_1x (⟨p0x0, l30, l33, l36, n38, n39, n40, c41, n42⟩ : Rule_track) v45.at_ l28).bind fun v47 =>
    (rule_track_put (⟨p0x0, v47.1.window_, v47.1.least_, v47.1.most_, v47.1.sum_, v47.1.state_, v47.1.since_, v47.1.firing_, v47.1.began_⟩ : Rule_track) v45).bind fun v55 =>
    some (.inl (v47.2, v55.window_, v55.least_, v55.most_, v55.sum_, v55.state_, v55.since_, v55.firing_, v55.began_, w64 (n43 + (1 : Int))))
  else
    Option.map .inr (rule_spansOf_k1 p0x0 l28 l30 l33 l36 n38 n39 n40 c41 n42)

noncomputable def rule_spansOf_l1 (p0x0 : Rule) (p1x0 : List Rule_sample) (l28 : List Rule_span) (l30 : List Rule_sample) (l33 : List Rule_sample) (l36 : List Rule_sample) (n38 : Int) (n39 : Int) (n40 : Int) (c41 : Bool) (n42 : Int) (n43 : Int) : Option (List Rule_span) :=
  iter (fun x : (List Rule_span) × (List Rule_sample) × (List Rule_sample) × (List Rule_sample) × Int × Int × Int × Bool × Int × Int => rule_spansOf_b1 p0x0 p1x0 x.1 x.2.1 x.2.2.1 x.2.2.2.1 x.2.2.2.2.1 x.2.2.2.2.2.1 x.2.2.2.2.2.2.1 x.2.2.2.2.2.2.2.1 x.2.2.2.2.2.2.2.2.1 x.2.2.2.2.2.2.2.2.2) (l28, l30, l33, l36, n38, n39, n40, c41, n42, n43)

noncomputable def rule_spansOf (p0x0 : Rule) (p1x0 : List Rule_sample) : Option (List Rule_span) :=
  (rule_newTrack p0x0).bind fun v2 =>
  rule_spansOf_l1 p0x0 p1x0 [] v2.window_ v2.least_ v2.most_ v2.sum_ v2.state_ v2.since_ v2.firing_ v2.began_ (0 : Int)

noncomputable def rule_whole_j1 (n8 : Int) (l11 : List (Str × (List Rule_sample))) : Option (((List (Str × (List Rule_sample))) × Int) ⊕ (List Spell)) :=
  some (.inl (l11, w64 (n8 + (1 : Int))))

noncomputable def rule_whole_b3 (p0x0 : Rule) (n24 : Int) (v26 : Str) (v29 : (List Rule_span)) (l35 : List Spell) (n36 : Int) : Option (((List Spell) × Int) ⊕ (((List Spell) × Int) ⊕ (List Spell))) :=
  if n36 < (v29.length : Int) then
    (idx v29 n36).bind fun v37 =>
    (app l35 [(⟨v26, p0x0.Key, v37.from_, v37.to_⟩ : Spell)]).bind fun l39 =>
    some (.inl (l39, w64 (n36 + (1 : Int))))
  else
    Option.map .inr (some (.inl (l35, w64 (n24 + (1 : Int)))))

noncomputable def rule_whole_l3 (p0x0 : Rule) (n24 : Int) (v26 : Str) (v29 : (List Rule_span)) (l35 : List Spell) (n36 : Int) : Option (((List Spell) × Int) ⊕ (List Spell)) :=
  iter (fun x : (List Spell) × Int => rule_whole_b3 p0x0 n24 v26 v29 x.1 x.2) (l35, n36)

noncomputable def rule_whole_b2 (p0x0 : Rule) (l6 : List (Str × (List Rule_sample))) (v17 : (List Str)) (l23 : List Spell) (n24 : Int) : Option (((List Spell) × Int) ⊕ (List Spell)) :=
  if n24 < (v17.length : Int) then
    (idx v17 n24).bind fun v26 =>
    (mgetO l6 v26 []).bind fun v27 =>
    (rule_spansOf p0x0 v27).bind fun v29 =>
    rule_whole_l3 p0x0 n24 v26 v29 l23 (0 : Int)
  else
    Option.map .inr (some l23)

noncomputable def rule_whole_l2 (p0x0 : Rule) (l6 : List (Str × (List Rule_sample))) (v17 : (List Str)) (l23 : List Spell) (n24 : Int) : Option (List Spell) :=
  iter (fun x : (List Spell) × Int => rule_whole_b2 p0x0 l6 v17 x.1 x.2) (l23, n24)

noncomputable def rule_whole_k2 (p0x0 : Rule) (p1x0 : List Sample) (l6 : List (Str × (List Rule_sample))) : Option (List Spell) :=
  (rule_devices p1x0 p0x0.Metric).bind fun v17 =>
  rule_whole_l2 p0x0 l6 v17 [] (0 : Int)

noncomputable def rule_whole_b1 (p0x0 : Rule) (p1x0 : List Sample) (l6 : List (Str × (List Rule_sample))) (n8 : Int) : Option (((List (Str × (List Rule_sample))) × Int) ⊕ (List Spell)) :=
  if n8 < (p1x0.length : Int) then
    (idx p1x0 n8).bind fun v9 =>
    if v9.Metric = p0x0.Metric then
      (mgetO l6 v9.Device []).bind fun v13 =>
      (app v13 [(⟨v9.At, v9.Value⟩ : Rule_sample)]).bind fun l15 =>
      rule_whole_j1 n8 (mset l6 v9.Device l15)
    else
      rule_whole_j1 n8 l6
  else
    Option.map .inr (rule_whole_k2 p0x0 p1x0 l6)

noncomputable def rule_whole_l1 (p0x0 : Rule) (p1x0 : List Sample) (l6 : List (Str × (List Rule_sample))) (n8 : Int) : Option (List Spell) :=
  iter (fun x : (List (Str × (List Rule_sample))) × Int => rule_whole_b1 p0x0 p1x0 x.1 x.2) (l6, n8)

noncomputable def rule_whole (p0x0 : Rule) (p1x0 : List Sample) : Option (List Spell) :=
  rule_whole_l1 p0x0 p1x0 [] (0 : Int)

noncomputable def rule_cut_j1 (n7 : Int) (l12 : List Spell) : Option (((List Spell) × Int) ⊕ (List Spell)) :=
  some (.inl (l12, w64 (n7 + (1 : Int))))

noncomputable def rule_cut_b1 (p0x0 : List Spell) (p1x0 : Window) (l6 : List Spell) (n7 : Int) : Option (((List Spell) × Int) ⊕ (List Spell)) :=
  if n7 < (p0x0.length : Int) then
    (idx p0x0 n7).bind fun v9 =>
    if (max v9.From p1x0.From) < (min v9.To p1x0.To) then
      (app l6 [(⟨v9.Device, v9.Rule, max v9.From p1x0.From, min v9.To p1x0.To⟩ : Spell)]).bind fun l13 =>
      rule_cut_j1 n7 l13
    else
      rule_cut_j1 n7 l6
  else
    Option.map .inr (some l6)

noncomputable def rule_cut_l1 (p0x0 : List Spell) (p1x0 : Window) (l6 : List Spell) (n7 : Int) : Option (List Spell) :=
  iter (fun x : (List Spell) × Int => rule_cut_b1 p0x0 p1x0 x.1 x.2) (l6, n7)

noncomputable def rule_cut (p0x0 : List Spell) (p1x0 : Window) : Option (List Spell) :=
  rule_cut_l1 p0x0 p1x0 [] (0 : Int)

noncomputable def rule_byFrom (p0x0 : Spell) (p1x0 : Spell) : Option Int :=
  (cmp_Or_int [(cmp_Compare_int p0x0.From p1x0.From), (Lib.compareBytes p0x0.Device p1x0.Device), (Lib.compareBytes p0x0.Rule p1x0.Rule)]).bind fun v3 =>
  some v3

/-- Sorted by Go. -/
noncomputable def slices_SortFunc_Spell_Spell (p0x0 : List Spell) (fnb : Spell → Spell → Option Int) : Option (List Spell) :=
  sortO fnb p0x0

noncomputable def rule_Spells_k1 (l8 : List Spell) : Option ((List Spell) × Int) :=
  (lenOk l8.length (fun r : (List Spell) => r.length) (slices_SortFunc_Spell_Spell l8 (fun y0 y1 => rule_byFrom y0 y1))).bind fun v18 =>
  some (v18, (0 : Int))

noncomputable def rule_Spells_b1 (p0x0 : List Rule) (p1x0 : List Sample) (p2x0 : Window) (l8 : List Spell) (n9 : Int) : Option (((List Spell) × Int) ⊕ ((List Spell) × Int)) :=
  if n9 < (p0x0.length : Int) then
    (idx p0x0 n9).bind fun v11 =>
    (rule_whole v11 p1x0).bind fun v12 =>
    (rule_cut v12 p2x0).bind fun v14 =>
    (app l8 v14).bind fun l16 =>
    some (.inl (l16, w64 (n9 + (1 : Int))))
  else
    Option.map .inr (rule_Spells_k1 l8)

noncomputable def rule_Spells_l1 (p0x0 : List Rule) (p1x0 : List Sample) (p2x0 : Window) (l8 : List Spell) (n9 : Int) : Option ((List Spell) × Int) :=
  iter (fun x : (List Spell) × Int => rule_Spells_b1 p0x0 p1x0 p2x0 x.1 x.2) (l8, n9)

noncomputable def rule_Spells (p0x0 : List Rule) (p1x0 : List Sample) (p2x0 : Window) : Option ((List Spell) × Int) :=
  (rule_fault p0x0 p1x0 p2x0).bind fun v2 =>
  if v2 ≠ (0 : Int) then
    some ([], v2)
  else
    rule_Spells_l1 p0x0 p1x0 p2x0 [] (0 : Int)

noncomputable def slices_Equal_Spell_Spell_b1 (p0x0 : List Spell) (p1x0 : List Spell) (n2 : Int) : Option (Int ⊕ Bool) :=
  if n2 < (p0x0.length : Int) then
    (idx p0x0 n2).bind fun v3 =>
    (idx p1x0 n2).bind fun v4 =>
    if v3 ≠ v4 then
      Option.map .inr (some false)
    else
      some (.inl (w64 (n2 + (1 : Int))))
  else
    Option.map .inr (some true)

noncomputable def slices_Equal_Spell_Spell_l1 (p0x0 : List Spell) (p1x0 : List Spell) (n2 : Int) : Option Bool :=
  iter (fun x : Int => slices_Equal_Spell_Spell_b1 p0x0 p1x0 x) n2

noncomputable def slices_Equal_Spell_Spell (p0x0 : List Spell) (p1x0 : List Spell) : Option Bool :=
  if (p0x0.length : Int) ≠ (p1x0.length : Int) then
    some false
  else
    slices_Equal_Spell_Spell_l1 p0x0 p1x0 (0 : Int)

noncomputable def L_ruled_j1 (c4 : Bool) : Option Bool :=
  some c4

noncomputable def L_ruled : Option Bool :=
  (rule_Spells [(⟨([114] : Str), ([116] : Str), (1 : Int), (10 : Int), true, (1 : Int), (1 : Int), (0 : Int), (0 : Int), (0 : Int)⟩ : Rule)] [(⟨([100] : Str), ([116] : Str), (0 : Int), (1 : Int)⟩ : Sample)] (⟨(0 : Int), (5 : Int)⟩ : Window)).bind fun v2 =>
  if v2.2 = (0 : Int) then
    (slices_Equal_Spell_Spell v2.1 [(⟨([100] : Str), ([114] : Str), (0 : Int), (5 : Int)⟩ : Spell)]).bind fun v5 =>
    L_ruled_j1 v5
  else
    L_ruled_j1 false

noncomputable def Q_windowOf_j2 (n7 : Int) (l13 : List Int) : Option (((List Int) × Int) ⊕ (List Int)) :=
  some (.inl (l13, w64 (n7 + (1 : Int))))

noncomputable def Q_windowOf_j1 (l6 : List Int) (n7 : Int) (v9 : Sample) (c11 : Bool) : Option (((List Int) × Int) ⊕ (List Int)) :=
  if c11 = true then
    (app l6 [v9.Value]).bind fun l14 =>
    Q_windowOf_j2 n7 l14
  else
    Q_windowOf_j2 n7 l6

noncomputable def Q_windowOf_b1 (p0x0 : Rule) (p1x0 : List Sample) (p2x0 : Str) (p3x0 : Int) (l6 : List Int) (n7 : Int) : Option (((List Int) × Int) ⊕ (List Int)) :=
  if n7 < (p1x0.length : Int) then
    (idx p1x0 n7).bind fun v9 =>
    Q_windowOf_j1 l6 n7 v9 ((decide (v9.Device = p2x0)) && ((decide (v9.Metric = p0x0.Metric)) && ((decide ((w64 (p3x0 - p0x0.Long)) < v9.At)) && (decide (v9.At ≤ p3x0)))))
  else
    Option.map .inr (some l6)

noncomputable def Q_windowOf_l1 (p0x0 : Rule) (p1x0 : List Sample) (p2x0 : Str) (p3x0 : Int) (l6 : List Int) (n7 : Int) : Option (List Int) :=
  iter (fun x : (List Int) × Int => Q_windowOf_b1 p0x0 p1x0 p2x0 p3x0 x.1 x.2) (l6, n7)

noncomputable def Q_windowOf (p0x0 : Rule) (p1x0 : List Sample) (p2x0 : Str) (p3x0 : Int) : Option (List Int) :=
  Q_windowOf_l1 p0x0 p1x0 p2x0 p3x0 [] (0 : Int)

noncomputable def slices_Min_int_int_b1 (p0x0 : List Int) (n4 : Int) (n5 : Int) : Option ((Int × Int) ⊕ Int) :=
  if n5 < (p0x0.length : Int) then
    (idx p0x0 n5).bind fun v6 =>
    some (.inl (min n4 v6, w64 (n5 + (1 : Int))))
  else
    Option.map .inr (some n4)

noncomputable def slices_Min_int_int_l1 (p0x0 : List Int) (n4 : Int) (n5 : Int) : Option Int :=
  iter (fun x : Int × Int => slices_Min_int_int_b1 p0x0 x.1 x.2) (n4, n5)

noncomputable def slices_Min_int_int (p0x0 : List Int) : Option Int :=
  if (p0x0.length : Int) < (1 : Int) then
    none
  else
    (idx p0x0 (0 : Int)).bind fun v1 =>
    slices_Min_int_int_l1 p0x0 v1 (1 : Int)

noncomputable def slices_Max_int_int_b1 (p0x0 : List Int) (n4 : Int) (n5 : Int) : Option ((Int × Int) ⊕ Int) :=
  if n5 < (p0x0.length : Int) then
    (idx p0x0 n5).bind fun v6 =>
    some (.inl (max n4 v6, w64 (n5 + (1 : Int))))
  else
    Option.map .inr (some n4)

noncomputable def slices_Max_int_int_l1 (p0x0 : List Int) (n4 : Int) (n5 : Int) : Option Int :=
  iter (fun x : Int × Int => slices_Max_int_int_b1 p0x0 x.1 x.2) (n4, n5)

noncomputable def slices_Max_int_int (p0x0 : List Int) : Option Int :=
  if (p0x0.length : Int) < (1 : Int) then
    none
  else
    (idx p0x0 (0 : Int)).bind fun v1 =>
    slices_Max_int_int_l1 p0x0 v1 (1 : Int)

noncomputable def Q_lowest_k1 (p0x0 : Int) (p1x0 : Int) (n4 : Int) : Option Fraction :=
  (quo p0x0 n4).bind fun n7 =>
  (quo p1x0 n4).bind fun n8 =>
  some (⟨n7, n8⟩ : Fraction)

noncomputable def Q_lowest_b1 (p0x0 : Int) (p1x0 : Int) (n4 : Int) (n5 : Int) : Option ((Int × Int) ⊕ Fraction) :=
  if (0 : Int) < n5 then
    (rem n4 n5).bind fun n6 =>
    some (.inl (n5, n6))
  else
    Option.map .inr (Q_lowest_k1 p0x0 p1x0 n4)

noncomputable def Q_lowest_l1 (p0x0 : Int) (p1x0 : Int) (n4 : Int) (n5 : Int) : Option Fraction :=
  iter (fun x : Int × Int => Q_lowest_b1 p0x0 p1x0 x.1 x.2) (n4, n5)

noncomputable def Q_lowest (p0x0 : Int) (p1x0 : Int) : Option Fraction :=
  Q_lowest_l1 p0x0 p1x0 (max p0x0 (w64 (-p0x0))) p1x0

noncomputable def Q_ValueOf_k1 (v3 : (List Int)) (n9 : Int) : Option (Fraction × Bool) :=
  (Q_lowest n9 (v3.length : Int)).bind fun v12 =>
  some (v12, true)

noncomputable def Q_ValueOf_b1 (v3 : (List Int)) (n9 : Int) (n10 : Int) : Option ((Int × Int) ⊕ (Fraction × Bool)) :=
  if n10 < (v3.length : Int) then
    (idx v3 n10).bind fun v11 =>
    some (.inl (w64 (n9 + v11), w64 (n10 + (1 : Int))))
  else
    Option.map .inr (Q_ValueOf_k1 v3 n9)

noncomputable def Q_ValueOf_l1 (v3 : (List Int)) (n9 : Int) (n10 : Int) : Option (Fraction × Bool) :=
  iter (fun x : Int × Int => Q_ValueOf_b1 v3 x.1 x.2) (n9, n10)

noncomputable def Q_ValueOf (p0x0 : Rule) (p1x0 : List Sample) (p2x0 : Str) (p3x0 : Int) : Option (Fraction × Bool) :=
  (Q_windowOf p0x0 p1x0 p2x0 p3x0).bind fun v3 =>
  if p0x0.Agg = (5 : Int) then
    some ((⟨(v3.length : Int), (1 : Int)⟩ : Fraction), true)
  else
    if (v3.length : Int) = (0 : Int) then
      some ((⟨(0 : Int), (0 : Int)⟩ : Fraction), false)
    else
      if p0x0.Agg = (2 : Int) then
        (slices_Min_int_int v3).bind fun v5 =>
        some ((⟨v5, (1 : Int)⟩ : Fraction), true)
      else
        if p0x0.Agg = (3 : Int) then
          (slices_Max_int_int v3).bind fun v6 =>
          some ((⟨v6, (1 : Int)⟩ : Fraction), true)
        else
          if p0x0.Agg = (4 : Int) then
            Q_ValueOf_l1 v3 (0 : Int) (0 : Int)
          else
            if p0x0.Agg = (6 : Int) then
              (idx v3 (w64 ((v3.length : Int) - (1 : Int)))).bind fun v13 =>
              (idx v3 (0 : Int)).bind fun v14 =>
              some ((⟨w64 (v13 - v14), (1 : Int)⟩ : Fraction), true)
            else
              (idx v3 (w64 ((v3.length : Int) - (1 : Int)))).bind fun v15 =>
              some ((⟨v15, (1 : Int)⟩ : Fraction), true)

noncomputable def Q_StateOf_j1 (n5 : Int) (n6 : Int) : Option Int :=
  if (0 : Int) ≤ n5 then
    some (1 : Int)
  else
    if n6 < (0 : Int) then
      some (2 : Int)
    else
      some (0 : Int)

noncomputable def Q_StateOf (p0x0 : Rule) (p1x0 : List Sample) (p2x0 : Str) (p3x0 : Int) : Option Int :=
  (Q_ValueOf p0x0 p1x0 p2x0 p3x0).bind fun v2 =>
  if (!v2.2) = true then
    (idx [(0 : Int), (2 : Int), (1 : Int)] p0x0.Empty).bind fun v4 =>
    some v4
  else
    if (!p0x0.Above) = true then
      Q_StateOf_j1 (w64 (-(cmp_Compare_int v2.1.Num (w64 (p0x0.On * v2.1.Den))))) (w64 (-(cmp_Compare_int v2.1.Num (w64 (p0x0.Off * v2.1.Den)))))
    else
      Q_StateOf_j1 (cmp_Compare_int v2.1.Num (w64 (p0x0.On * v2.1.Den))) (cmp_Compare_int v2.1.Num (w64 (p0x0.Off * v2.1.Den)))

noncomputable def L_RulesLook_j7 (c46 : Bool) : Option Bool :=
  some c46

noncomputable def L_RulesLook_j8 (c50 : Bool) : Option Bool :=
  some c50

noncomputable def L_RulesLook_j6 (v4 : Rule × Fleetmake_Stream) (v6 : (List Sample) × Fleetmake_Stream) (v8 : Str × Fleetmake_Stream) (v9 : Int × Fleetmake_Stream) (v25 : Fraction × Bool × Int) (v27 : Int × Int) (v28 : Int) (c41 : Bool) : Option Bool :=
  if c41 = true then
    some false
  else
    (Q_RulesFault [v4.1]).bind fun v43 =>
    (Q_KeyFault v8.1).bind fun v44 =>
    (cmp_Or_Errno [v43, v28, v44, (Q_MomentFault v9.1)]).bind fun v45 =>
    if v45 ≠ (0 : Int) then
      if v25.2.2 = v45 then
        if v27.2 = v45 then
          if (!v25.2.1) = true then
            if v27.1 = (0 : Int) then
              (L_ruled).bind fun v47 =>
              L_RulesLook_j7 v47
            else
              L_RulesLook_j7 false
          else
            L_RulesLook_j7 false
        else
          L_RulesLook_j7 false
      else
        L_RulesLook_j7 false
    else
      (Q_ValueOf v4.1 v6.1 v8.1 v9.1).bind fun v48 =>
      if v25.2.2 = (0 : Int) then
        if v27.2 = (0 : Int) then
          if v25.1 = v48.1 then
            if (v25.2.1 == v48.2) = true then
              (Q_StateOf v4.1 v6.1 v8.1 v9.1).bind fun v51 =>
              if v27.1 = v51 then
                (L_ruled).bind fun v52 =>
                L_RulesLook_j8 v52
              else
                L_RulesLook_j8 false
            else
              L_RulesLook_j8 false
          else
            L_RulesLook_j8 false
        else
          L_RulesLook_j8 false
      else
        L_RulesLook_j8 false

noncomputable def L_RulesLook_j5 (v4 : Rule × Fleetmake_Stream) (v6 : (List Sample) × Fleetmake_Stream) (v8 : Str × Fleetmake_Stream) (v9 : Int × Fleetmake_Stream) (v23 : (List Sample) × Int) (v25 : Fraction × Bool × Int) (v27 : Int × Int) (v28 : Int) (n35 : Int) (l37 : List Sample) : Option Bool :=
  if v23.2 ≠ n35 then
    L_RulesLook_j6 v4 v6 v8 v9 v25 v27 v28 true
  else
    (slices_Equal_Sample_Sample v23.1 l37).bind fun v42 =>
    L_RulesLook_j6 v4 v6 v8 v9 v25 v27 v28 (!v42)

noncomputable def L_RulesLook_j4 (v4 : Rule × Fleetmake_Stream) (v6 : (List Sample) × Fleetmake_Stream) (v8 : Str × Fleetmake_Stream) (v9 : Int × Fleetmake_Stream) (l15 : List Sample) (v23 : (List Sample) × Int) (v25 : Fraction × Bool × Int) (v27 : Int × Int) (v28 : Int) (c29 : Bool) : Option Bool :=
  if c29 = true then
    some false
  else
    (Q_SamplesFault l15).bind fun v33 =>
    (cmp_Or_Errno [v28, v33]).bind fun v34 =>
    if v34 = (0 : Int) then
      (Q_SamplesMerged v6.1 l15).bind fun v38 =>
      L_RulesLook_j5 v4 v6 v8 v9 v23 v25 v27 v28 v38.2 v38.1
    else
      L_RulesLook_j5 v4 v6 v8 v9 v23 v25 v27 v28 v34 []

noncomputable def L_RulesLook_j1 (v2 : (List Rule) × Fleetmake_Stream) (v4 : Rule × Fleetmake_Stream) (v6 : (List Sample) × Fleetmake_Stream) (v8 : Str × Fleetmake_Stream) (v9 : Int × Fleetmake_Stream) (l15 : List Sample) : Option Bool :=
  (rule_Merge v6.1 l15).bind fun v23 =>
  (rule_Value v4.1 v6.1 v8.1 v9.1).bind fun v25 =>
  (rule_State v4.1 v6.1 v8.1 v9.1).bind fun v27 =>
  (Q_SamplesFault v6.1).bind fun v28 =>
  (rule_CheckRules v2.1).bind fun v30 =>
  (Q_RulesFault v2.1).bind fun v31 =>
  if v30 ≠ v31 then
    L_RulesLook_j4 v4 v6 v8 v9 l15 v23 v25 v27 v28 true
  else
    (rule_CheckSamples v6.1).bind fun v32 =>
    L_RulesLook_j4 v4 v6 v8 v9 l15 v23 v25 v27 v28 (decide (v32 ≠ v28))

noncomputable def L_RulesLook_j2 (v2 : (List Rule) × Fleetmake_Stream) (v4 : Rule × Fleetmake_Stream) (v6 : (List Sample) × Fleetmake_Stream) (v8 : Str × Fleetmake_Stream) (v9 : Int × Fleetmake_Stream) (l19 : List Sample) : Option Bool :=
  L_RulesLook_j1 v2 v4 v6 v8 v9 l19

noncomputable def L_RulesLook_j3 (v2 : (List Rule) × Fleetmake_Stream) (v4 : Rule × Fleetmake_Stream) (v6 : (List Sample) × Fleetmake_Stream) (v8 : Str × Fleetmake_Stream) (v9 : Int × Fleetmake_Stream) (l20 : List Sample) : Option Bool :=
  L_RulesLook_j2 v2 v4 v6 v8 v9 l20

noncomputable def L_RulesLook (p0x0 : List Int) : Option Bool :=
  (Stream_Rules (⟨p0x0, (0 : Int)⟩ : Fleetmake_Stream)).bind fun v2 =>
  (L_oneRule v2.2).bind fun v4 =>
  (Stream_Range v4.2 (0 : Int) (6 : Int)).bind fun v5 =>
  (Stream_Readings v5.2 v5.1).bind fun v6 =>
  (Stream_Some v6.2 [([100, 97] : Str), ([100, 97] : Str), ([100, 98] : Str), ([65] : Str)]).bind fun v8 =>
  (Stream_Time v8.2).bind fun v9 =>
  (slices_Clone_Sample_Sample v6.1).bind fun v11 =>
  (Stream_Next v9.2 (3 : Int)).bind fun v13 =>
  if v13.1 = (0 : Int) then
    (Stream_Range v13.2 (0 : Int) (3 : Int)).bind fun v16 =>
    (Stream_Readings v16.2 v16.1).bind fun v17 =>
    L_RulesLook_j1 v2 v4 v6 v8 v9 v17.1
  else
    if v13.1 = (1 : Int) then
      if (0 : Int) < (v11.length : Int) then
        (idx v11 (0 : Int)).bind fun v21 =>
        (idx v11 (0 : Int)).bind fun v22 =>
        L_RulesLook_j3 v2 v4 v6 v8 v9 (v11.set (0 : Int).toNat (⟨v22.Device, v22.Metric, v22.At, w64 (v21.Value + (1 : Int))⟩ : Sample))
      else
        L_RulesLook_j3 v2 v4 v6 v8 v9 v11
    else
      L_RulesLook_j2 v2 v4 v6 v8 v9 v11

end Go.Beacon

