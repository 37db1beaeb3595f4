/- Plain functions that the Go functions compute, written by shal.py. -/
import Derived.Test.YtnnljbpmkcefaaaCore
set_option linter.unusedVariables false
namespace Go.Beacon
open Go Go.Eng
structure Fleetmake_Stream where
  L : List Int
  at_ : Int
deriving DecidableEq, Inhabited
def Fleetmake_Stream.av (x : Fleetmake_Stream) : AV := .agg [.list 1 (x.L.map I), I x.at_]

structure Sample where
  Device : Str
  Metric : Str
  At : Int
  Value : Int
deriving DecidableEq, Inhabited
def Sample.av (x : Sample) : AV := .agg [.str x.Device, .str x.Metric, I x.At, I x.Value]

structure Window where
  From : Int
  To : Int
deriving DecidableEq, Inhabited
def Window.av (x : Window) : AV := .agg [I x.From, I x.To]

structure Fraction where
  Num : Int
  Den : Int
deriving DecidableEq, Inhabited
def Fraction.av (x : Fraction) : AV := .agg [I x.Num, I x.Den]

structure Series_span where
  from_ : Int
  to_ : Int
  value_ : Int
deriving DecidableEq, Inhabited
def Series_span.av (x : Series_span) : AV := .agg [I x.from_, I x.to_, I x.value_]

structure Fleetref2_stretch where
  from_ : Int
  to_ : Int
  value_ : Int
deriving DecidableEq, Inhabited
def Fleetref2_stretch.av (x : Fleetref2_stretch) : AV := .agg [I x.from_, I x.to_, I x.value_]

noncomputable def Below_j1 (n2 : Int) : Option Int :=
  some n2

noncomputable def Below (p0x0 : Int) (p1x0 : Int) : Option Int :=
  if p1x0 < (1 : Int) then
    some (0 : Int)
  else
    (rem p0x0 p1x0).bind fun n1 =>
    if n1 < (0 : Int) then
      Below_j1 (w64 (n1 + p1x0))
    else
      Below_j1 n1

noncomputable def Stream_Next (p0x0 : Fleetmake_Stream) (p1x0 : Int) : Option (Int × Fleetmake_Stream) :=
  if (p0x0.L.length : Int) = (0 : Int) then
    (Below (w64 ((w64 (p0x0.at_ + (1 : Int))) * (7919 : Int))) p1x0).bind fun v1 =>
    some (v1, (⟨p0x0.L, w64 (p0x0.at_ + (1 : Int))⟩ : Fleetmake_Stream))
  else
    (rem (w64 ((w64 (p0x0.at_ + (1 : Int))) - (1 : Int))) (p0x0.L.length : Int)).bind fun n2 =>
    (quo (w64 ((w64 (p0x0.at_ + (1 : Int))) - (1 : Int))) (p0x0.L.length : Int)).bind fun n3 =>
    (idx p0x0.L n2).bind fun v4 =>
    (Below v4 (1073741824 : Int)).bind fun v5 =>
    (Below (w64 (v5 + (w64 (n3 * (w64 ((7919 : Int) + n2)))))) p1x0).bind fun v6 =>
    some (v6, (⟨p0x0.L, w64 (p0x0.at_ + (1 : Int))⟩ : Fleetmake_Stream))

noncomputable def Stream_Pick (p0x0 : Fleetmake_Stream) (p1x0 : List Int) : Option (Int × Fleetmake_Stream) :=
  (Stream_Next p0x0 (p1x0.length : Int)).bind fun v1 =>
  (idx p1x0 v1.1).bind fun v2 =>
  some (v2, v1.2)

noncomputable def Stream_Range (p0x0 : Fleetmake_Stream) (p1x0 : Int) (p2x0 : Int) : Option (Int × Fleetmake_Stream) :=
  if p2x0 < p1x0 then
    some (p1x0, p0x0)
  else
    (Stream_Next p0x0 (w64 ((w64 (p2x0 - p1x0)) + (1 : Int)))).bind fun v1 =>
    some (w64 (p1x0 + v1.1), v1.2)

noncomputable def Stream_RightSeries_b1 (p2x0 : Int) (v1 : Int × Fleetmake_Stream) (l8 : List Int) (n9 : Int) (l11 : List Sample) (n12 : Int) (n13 : Int) : Option (((List Int) × Int × (List Sample) × Int × Int) ⊕ ((List Sample) × Fleetmake_Stream)) :=
  if n13 < v1.1 then
    (Stream_Pick (⟨l8, n9⟩ : Fleetmake_Stream) [(1 : Int), (1 : Int), (2 : Int), (5 : Int), (10 : Int), (10 : Int), (40 : Int), (127 : Int), (1000 : Int)]).bind fun v15 =>
    (Stream_Pick v15.2 [(0 : Int), (1 : Int), (2 : Int), (5 : Int), (7 : Int), (9 : Int), (-3 : Int), (-70 : Int), (100 : Int), (1000 : Int), (5 : Int)]).bind fun v16 =>
    (app l11 [(⟨([100] : Str), ([109] : Str), w64 (n12 + v15.1), max p2x0 v16.1⟩ : Sample)]).bind fun l17 =>
    some (.inl (v16.2.L, v16.2.at_, l17, w64 (n12 + v15.1), w64 (n13 + (1 : Int))))
  else
    Option.map .inr (some (l11, (⟨l8, n9⟩ : Fleetmake_Stream)))

noncomputable def Stream_RightSeries_l1 (p2x0 : Int) (v1 : Int × Fleetmake_Stream) (l8 : List Int) (n9 : Int) (l11 : List Sample) (n12 : Int) (n13 : Int) : Option ((List Sample) × Fleetmake_Stream) :=
  iter (fun x : (List Int) × Int × (List Sample) × Int × Int => Stream_RightSeries_b1 p2x0 v1 x.1 x.2.1 x.2.2.1 x.2.2.2.1 x.2.2.2.2) (l8, n9, l11, n12, n13)

noncomputable def Stream_RightSeries (p0x0 : Fleetmake_Stream) (p1x0 : Int) (p2x0 : Int) : Option ((List Sample) × Fleetmake_Stream) :=
  (Stream_Range p0x0 (0 : Int) p1x0).bind fun v1 =>
  Stream_RightSeries_l1 p2x0 v1 v1.2.L v1.2.at_ [] (0 : Int) (0 : Int)

noncomputable def Stream_Flip (p0x0 : Fleetmake_Stream) (p1x0 : Int) : Option (Bool × Fleetmake_Stream) :=
  (Stream_Next p0x0 p1x0).bind fun v1 =>
  some (decide (v1.1 = (0 : Int)), v1.2)

noncomputable def Stream_Some (p0x0 : Fleetmake_Stream) (p1x0 : List Str) : Option (Str × Fleetmake_Stream) :=
  (Stream_Next p0x0 (p1x0.length : Int)).bind fun v1 =>
  (idx p1x0 v1.1).bind fun v2 =>
  some (v2, v1.2)

noncomputable def Stream_Odd (p0x0 : Fleetmake_Stream) (p1x0 : Int) (p2x0 : Int) : Option (Int × Fleetmake_Stream) :=
  (Stream_Flip p0x0 (12 : Int)).bind fun v1 =>
  if v1.1 = true then
    (Stream_Pick v1.2 [w64 (p1x0 - (1 : Int)), w64 (p2x0 + (1 : Int)), p1x0, p2x0, (-1099511627776 : Int), (1099511627776 : Int)]).bind fun v2 =>
    some (v2.1, v2.2)
  else
    (Stream_Range v1.2 p1x0 p2x0).bind fun v3 =>
    some (v3.1, v3.2)

noncomputable def Stream_Series_j7 (l31 : List Int) (n32 : Int) (l33 : List Sample) : Option ((List Sample) × Fleetmake_Stream) :=
  some (l33, (⟨l31, n32⟩ : Fleetmake_Stream))

noncomputable def Stream_Series_j6 (l10 : List Sample) (l27 : List Int) (n28 : Int) (c29 : Bool) : Option ((List Sample) × Fleetmake_Stream) :=
  if c29 = true then
    (idx l10 (w64 ((l10.length : Int) - (1 : Int)))).bind fun v34 =>
    (Stream_Pick (⟨l27, n28⟩ : Fleetmake_Stream) [(345686399999 : Int), (3456000000 : Int), (950400000 : Int)]).bind fun v35 =>
    (Stream_Pick v35.2 [(1000000000 : Int), (-1000000000 : Int)]).bind fun v36 =>
    Stream_Series_j7 v36.2.L v36.2.at_ ((l10.set (w64 ((l10.length : Int) - (1 : Int))).toNat (⟨v34.Device, v34.Metric, v35.1, v34.Value⟩ : Sample)).set (w64 ((l10.length : Int) - (1 : Int))).toNat (⟨v34.Device, v34.Metric, v35.1, v36.1⟩ : Sample))
  else
    Stream_Series_j7 l27 n28 l10

noncomputable def Stream_Series_j2 (l8 : List Int) (n9 : Int) (l10 : List Sample) : Option ((List Sample) × Fleetmake_Stream) :=
  if (0 : Int) < (l10.length : Int) then
    (Stream_Flip (⟨l8, n9⟩ : Fleetmake_Stream) (25 : Int)).bind fun v30 =>
    Stream_Series_j6 l10 v30.2.L v30.2.at_ v30.1
  else
    Stream_Series_j6 l10 l8 n9 false

noncomputable def Stream_Series_j3 (l14 : List Int) (n15 : Int) (l16 : List Sample) : Option ((List Sample) × Fleetmake_Stream) :=
  Stream_Series_j2 l14 n15 l16

noncomputable def Stream_Series_j4 (l18 : List Int) (n19 : Int) (l20 : List Sample) : Option ((List Sample) × Fleetmake_Stream) :=
  Stream_Series_j3 l18 n19 l20

noncomputable def Stream_Series_j5 (l22 : List Int) (n23 : Int) (l24 : List Sample) : Option ((List Sample) × Fleetmake_Stream) :=
  Stream_Series_j4 l22 n23 l24

noncomputable def Stream_Series_j1 (v2 : (List Sample) × Fleetmake_Stream) (l4 : List Int) (n5 : Int) (c6 : Bool) : Option ((List Sample) × Fleetmake_Stream) :=
  if c6 = true then
    (Stream_Next (⟨l4, n5⟩ : Fleetmake_Stream) (v2.1.length : Int)).bind fun v11 =>
    (idx v2.1 v11.1).bind fun v12 =>
    (Stream_Next v11.2 (4 : Int)).bind fun v13 =>
    if v13.1 = (0 : Int) then
      (Stream_Some v13.2 [([] : Str), ([101] : Str), ([65] : Str)]).bind fun v17 =>
      Stream_Series_j3 v17.2.L v17.2.at_ (v2.1.set v11.1.toNat (⟨v17.1, v12.Metric, v12.At, v12.Value⟩ : Sample))
    else
      if v13.1 = (1 : Int) then
        (Stream_Some v13.2 [([] : Str), ([110] : Str)]).bind fun v21 =>
        Stream_Series_j4 v21.2.L v21.2.at_ (v2.1.set v11.1.toNat (⟨v12.Device, v21.1, v12.At, v12.Value⟩ : Sample))
      else
        if v13.1 = (2 : Int) then
          (Stream_Odd v13.2 (0 : Int) (100 : Int)).bind fun v25 =>
          Stream_Series_j5 v25.2.L v25.2.at_ (v2.1.set v11.1.toNat (⟨v12.Device, v12.Metric, v25.1, v12.Value⟩ : Sample))
        else
          (Stream_Odd v13.2 (-1000000000 : Int) (1000000000 : Int)).bind fun v26 =>
          Stream_Series_j5 v26.2.L v26.2.at_ (v2.1.set v11.1.toNat (⟨v12.Device, v12.Metric, v12.At, v26.1⟩ : Sample))
  else
    Stream_Series_j2 l4 n5 v2.1

noncomputable def Stream_Series (p0x0 : Fleetmake_Stream) (p1x0 : Int) : Option ((List Sample) × Fleetmake_Stream) :=
  (Stream_Pick p0x0 [(0 : Int), (-100 : Int)]).bind fun v1 =>
  (Stream_RightSeries v1.2 p1x0 v1.1).bind fun v2 =>
  if (0 : Int) < (v2.1.length : Int) then
    (Stream_Flip v2.2 (12 : Int)).bind fun v7 =>
    Stream_Series_j1 v2 v7.2.L v7.2.at_ v7.1
  else
    Stream_Series_j1 v2 v2.2.L v2.2.at_ false

noncomputable def Stream_Frame_j4 (l18 : List Int) (n19 : Int) (n20 : Int) (n21 : Int) : Option (Window × Fleetmake_Stream) :=
  some ((⟨n20, n21⟩ : Window), (⟨l18, n19⟩ : Fleetmake_Stream))

noncomputable def Stream_Frame_j3 (l11 : List Int) (n12 : Int) (n13 : Int) (n14 : Int) : Option (Window × Fleetmake_Stream) :=
  (Stream_Flip (⟨l11, n12⟩ : Fleetmake_Stream) (25 : Int)).bind fun v17 =>
  if v17.1 = true then
    (Stream_Pick v17.2 [(0 : Int), (5 : Int)]).bind fun v22 =>
    (Stream_Pick v22.2 [(345686400000 : Int), (345686400001 : Int), (7776000000 : Int), (7862400000 : Int)]).bind fun v23 =>
    Stream_Frame_j4 v23.2.L v23.2.at_ v22.1 v23.1
  else
    Stream_Frame_j4 v17.2.L v17.2.at_ n13 n14

noncomputable def Stream_Frame_j2 (v3 : Int × Fleetmake_Stream) (l5 : List Int) (n6 : Int) (n9 : Int) : Option (Window × Fleetmake_Stream) :=
  (Stream_Flip (⟨l5, n6⟩ : Fleetmake_Stream) (15 : Int)).bind fun v10 =>
  if v10.1 = true then
    (Stream_Odd v10.2 (0 : Int) (100 : Int)).bind fun v15 =>
    (Stream_Odd v15.2 (0 : Int) (1000 : Int)).bind fun v16 =>
    Stream_Frame_j3 v16.2.L v16.2.at_ v15.1 v16.1
  else
    Stream_Frame_j3 v10.2.L v10.2.at_ n9 v3.1

noncomputable def Stream_Frame_j1 (v2 : Int × Fleetmake_Stream) (v3 : Int × Fleetmake_Stream) (l5 : List Int) (n6 : Int) (c7 : Bool) : Option (Window × Fleetmake_Stream) :=
  if c7 = true then
    Stream_Frame_j2 v3 l5 n6 (0 : Int)
  else
    Stream_Frame_j2 v3 l5 n6 v2.1

noncomputable def Stream_Frame (p0x0 : Fleetmake_Stream) : Option (Window × Fleetmake_Stream) :=
  (Stream_Pick p0x0 [(0 : Int), (0 : Int), (1 : Int), (5 : Int), (10 : Int), (50 : Int)]).bind fun v2 =>
  (Stream_Pick v2.2 [(10 : Int), (50 : Int), (100 : Int), (300 : Int), (3000 : Int)]).bind fun v3 =>
  if v3.1 < v2.1 then
    (Stream_Flip v3.2 (3 : Int)).bind fun v8 =>
    Stream_Frame_j1 v2 v3 v8.2.L v8.2.at_ (!v8.1)
  else
    Stream_Frame_j1 v2 v3 v3.2.L v3.2.at_ false

noncomputable def base_Key_j2 (n5 : Int) (c7 : Bool) : Option (Int ⊕ Bool) :=
  if c7 = true then
    Option.map .inr (some false)
  else
    some (.inl (w64 (n5 + (1 : Int))))

noncomputable def base_Key_b1 (p0x0 : Str) (n5 : Int) : Option (Int ⊕ Bool) :=
  if n5 < (p0x0.length : Int) then
    (idx p0x0 n5).bind fun c6 =>
    base_Key_j2 n5 (if (97 : Int) ≤ (c6.toNat : Int) then if (c6.toNat : Int) ≤ (122 : Int) then !true else if (48 : Int) ≤ (c6.toNat : Int) then if (c6.toNat : Int) ≤ (57 : Int) then !true else if (c6.toNat : Int) = (45 : Int) then !true else decide (¬ ((c6.toNat : Int) = (95 : Int))) else if (c6.toNat : Int) = (45 : Int) then !true else decide (¬ ((c6.toNat : Int) = (95 : Int))) else if (48 : Int) ≤ (c6.toNat : Int) then if (c6.toNat : Int) ≤ (57 : Int) then !true else if (c6.toNat : Int) = (45 : Int) then !true else decide (¬ ((c6.toNat : Int) = (95 : Int))) else if (c6.toNat : Int) = (45 : Int) then !true else decide (¬ ((c6.toNat : Int) = (95 : Int))))
  else
    Option.map .inr (some true)

noncomputable def base_Key_l1 (p0x0 : Str) (n5 : Int) : Option Bool :=
  iter (fun x : Int => base_Key_b1 p0x0 x) n5

noncomputable def base_Key_j1 (p0x0 : Str) (c1 : Bool) : Option Bool :=
  if c1 = true then
    some false
  else
    base_Key_l1 p0x0 (0 : Int)

noncomputable def base_Key (p0x0 : Str) : Option Bool :=
  if p0x0 = ([] : Str) then
    base_Key_j1 p0x0 true
  else
    if (40 : Int) < (p0x0.length : Int) then
      base_Key_j1 p0x0 true
    else
      (idx p0x0 (0 : Int)).bind fun c2 =>
      if (c2.toNat : Int) < (97 : Int) then
        base_Key_j1 p0x0 true
      else
        (idx p0x0 (0 : Int)).bind fun c3 =>
        base_Key_j1 p0x0 (decide ((122 : Int) < (c3.toNat : Int)))

noncomputable def base_Out_j1 (c1 : Bool) : Bool :=
  c1

noncomputable def base_Out (p0x0 : Int) (p1x0 : Int) (p2x0 : Int) : Bool :=
  base_Out_j1 ((decide (p0x0 < p1x0)) || (decide (p2x0 < p0x0)))

noncomputable def base_Moment (p0x0 : Int) : Bool :=
  !(base_Out p0x0 (0 : Int) (345686399999 : Int))

noncomputable def cmp_isNaN_int (p0x0 : Int) : Bool :=
  decide (p0x0 ≠ p0x0)

noncomputable def cmp_Compare_int (p0x0 : Int) (p1x0 : Int) : Int :=
  if (cmp_isNaN_int p0x0) = true then
    if (cmp_isNaN_int p1x0) = true then
      (0 : Int)
    else
      (-1 : Int)
  else
    if (cmp_isNaN_int p1x0) = true then
      (1 : Int)
    else
      if p0x0 < p1x0 then
        (-1 : Int)
      else
        if p1x0 < p0x0 then
          (1 : Int)
        else
          (0 : Int)

noncomputable def cmp_Or_int_b1 (p0x0 : List Int) (n2 : Int) : Option (Int ⊕ Int) :=
  if n2 < (p0x0.length : Int) then
    (idx p0x0 n2).bind fun v3 =>
    if v3 ≠ (0 : Int) then
      Option.map .inr (some v3)
    else
      some (.inl (w64 (n2 + (1 : Int))))
  else
    Option.map .inr (some (0 : Int))

noncomputable def cmp_Or_int_l1 (p0x0 : List Int) (n2 : Int) : Option Int :=
  iter (fun x : Int => cmp_Or_int_b1 p0x0 x) n2

noncomputable def cmp_Or_int (p0x0 : List Int) : Option Int :=
  cmp_Or_int_l1 p0x0 (0 : Int)

noncomputable def series_byDevice (p0x0 : Sample) (p1x0 : Sample) : Option Int :=
  (cmp_Or_int [(Lib.compareBytes p0x0.Device p1x0.Device), (Lib.compareBytes p0x0.Metric p1x0.Metric), (cmp_Compare_int p0x0.At p1x0.At)]).bind fun v3 =>
  some v3

noncomputable def series_Check_j3 (n2 : Int) (c9 : Bool) : Option (Int ⊕ Int) :=
  if c9 = true then
    Option.map .inr (some (7 : Int))
  else
    some (.inl (w64 (n2 + (1 : Int))))

noncomputable def series_Check_j2 (p0x0 : List Sample) (n2 : Int) (v3 : Sample) (c8 : Bool) : Option (Int ⊕ Int) :=
  if c8 = true then
    Option.map .inr (some (1 : Int))
  else
    if (0 : Int) < n2 then
      (idx p0x0 (w64 (n2 - (1 : Int)))).bind fun v10 =>
      (series_byDevice v3 v10).bind fun v11 =>
      series_Check_j3 n2 (decide (v11 ≤ (0 : Int)))
    else
      series_Check_j3 n2 false

noncomputable def series_Check_j1 (p0x0 : List Sample) (n2 : Int) (v3 : Sample) (c5 : Bool) : Option (Int ⊕ Int) :=
  if c5 = true then
    Option.map .inr (some (5 : Int))
  else
    series_Check_j2 p0x0 n2 v3 ((!(base_Moment v3.At)) || (base_Out v3.Value (-1000000000 : Int) (1000000000 : Int)))

noncomputable def series_Check_b1 (p0x0 : List Sample) (n2 : Int) : Option (Int ⊕ Int) :=
  if n2 < (p0x0.length : Int) then
    (idx p0x0 n2).bind fun v3 =>
    (base_Key v3.Device).bind fun v6 =>
    if (!v6) = true then
      series_Check_j1 p0x0 n2 v3 true
    else
      (base_Key v3.Metric).bind fun v7 =>
      series_Check_j1 p0x0 n2 v3 (!v7)
  else
    Option.map .inr (some (0 : Int))

noncomputable def series_Check_l1 (p0x0 : List Sample) (n2 : Int) : Option Int :=
  iter (fun x : Int => series_Check_b1 p0x0 x) n2

noncomputable def series_Check (p0x0 : List Sample) : Option Int :=
  if (5000 : Int) < (p0x0.length : Int) then
    some (2 : Int)
  else
    series_Check_l1 p0x0 (0 : Int)

noncomputable def series_CheckSeries_1x_j1 (c2 : Bool) : Option Bool :=
  some c2

noncomputable def series_CheckSeries_1x (p0x0 : Sample) (p1x0 : List Sample) : Option Bool :=
  (idx p1x0 (0 : Int)).bind fun v3 =>
  if p0x0.Device ≠ v3.Device then
    series_CheckSeries_1x_j1 true
  else
    (idx p1x0 (0 : Int)).bind fun v4 =>
    series_CheckSeries_1x_j1 (decide (p0x0.Metric ≠ v4.Metric))

noncomputable def slices_IndexFunc_Sample_Sample_b1 (p0x0 : List Sample) (fnb : Sample → Option Bool) (n2 : Int) : Option (Int ⊕ Int) :=
  if n2 < (p0x0.length : Int) then
    (idx p0x0 n2).bind fun v3 =>
    (fnb v3).bind fun v4 =>
    if v4 = true then
      Option.map .inr (some n2)
    else
      some (.inl (w64 (n2 + (1 : Int))))
  else
    Option.map .inr (some (-1 : Int))

noncomputable def slices_IndexFunc_Sample_Sample_l1 (p0x0 : List Sample) (fnb : Sample → Option Bool) (n2 : Int) : Option Int :=
  iter (fun x : Int => slices_IndexFunc_Sample_Sample_b1 p0x0 fnb x) n2

noncomputable def slices_IndexFunc_Sample_Sample (p0x0 : List Sample) (fnb : Sample → Option Bool) : Option Int :=
  slices_IndexFunc_Sample_Sample_l1 p0x0 fnb (0 : Int)

noncomputable def slices_ContainsFunc_Sample_Sample (p0x0 : List Sample) (fnb : Sample → Option Bool) : Option Bool :=
  (slices_IndexFunc_Sample_Sample p0x0 fnb).bind fun v1 =>
  some (decide ((0 : Int) ≤ v1))

noncomputable def series_CheckSeries (p0x0 : List Sample) : Option Int :=
  (series_Check p0x0).bind fun v2 =>
  if v2 ≠ (0 : Int) then
    some v2
  else
    (slices_ContainsFunc_Sample_Sample p0x0 (fun y0 => series_CheckSeries_1x y0 p0x0)).bind fun v3 =>
    if v3 = true then
      some (13 : Int)
    else
      some (0 : Int)

noncomputable def base_Window_j1 (c2 : Bool) : Bool :=
  c2

noncomputable def base_Window (p0x0 : Window) : Bool :=
  base_Window_j1 ((!(base_Out p0x0.From (0 : Int) p0x0.To)) && (decide (p0x0.To ≤ (345686400000 : Int))))

noncomputable def series_fault_j2 (n4 : Int) : Option Int :=
  some n4

noncomputable def series_fault_j1 (v2 : Int) (c3 : Bool) : Option Int :=
  if c3 = true then
    series_fault_j2 (1 : Int)
  else
    series_fault_j2 v2

noncomputable def series_fault (p0x0 : List Sample) (p1x0 : Window) : Option Int :=
  (series_CheckSeries p0x0).bind fun v2 =>
  series_fault_j1 v2 ((decide (v2 = (0 : Int))) && (!(base_Window p1x0)))

noncomputable def series_spans_j2 (n7 : Int) (l14 : List Series_span) : Option (((List Series_span) × Int) ⊕ (List Series_span)) :=
  some (.inl (l14, w64 (n7 + (1 : Int))))

noncomputable def series_spans_j1 (p1x0 : Window) (l6 : List Series_span) (n7 : Int) (v9 : Sample) (n11 : Int) : Option (((List Series_span) × Int) ⊕ (List Series_span)) :=
  if (max v9.At p1x0.From) < n11 then
    (app l6 [(⟨max v9.At p1x0.From, n11, v9.Value⟩ : Series_span)]).bind fun l15 =>
    series_spans_j2 n7 l15
  else
    series_spans_j2 n7 l6

noncomputable def series_spans_b1 (p0x0 : List Sample) (p1x0 : Window) (l6 : List Series_span) (n7 : Int) : Option (((List Series_span) × Int) ⊕ (List Series_span)) :=
  if n7 < (p0x0.length : Int) then
    (idx p0x0 n7).bind fun v9 =>
    if (w64 (n7 + (1 : Int))) < (p0x0.length : Int) then
      (idx p0x0 (w64 (n7 + (1 : Int)))).bind fun v12 =>
      series_spans_j1 p1x0 l6 n7 v9 (min p1x0.To v12.At)
    else
      series_spans_j1 p1x0 l6 n7 v9 p1x0.To
  else
    Option.map .inr (some l6)

noncomputable def series_spans_l1 (p0x0 : List Sample) (p1x0 : Window) (l6 : List Series_span) (n7 : Int) : Option (List Series_span) :=
  iter (fun x : (List Series_span) × Int => series_spans_b1 p0x0 p1x0 x.1 x.2) (l6, n7)

noncomputable def series_spans (p0x0 : List Sample) (p1x0 : Window) : Option (List Series_span) :=
  series_spans_l1 p0x0 p1x0 [] (0 : Int)

noncomputable def base_Gcd_b1 (n3 : Int) (n4 : Int) : Option ((Int × Int) ⊕ Int) :=
  if n4 ≠ (0 : Int) then
    (rem n3 n4).bind fun n5 =>
    some (.inl (n4, n5))
  else
    Option.map .inr (some n3)

noncomputable def base_Gcd_l1 (n3 : Int) (n4 : Int) : Option Int :=
  iter (fun x : Int × Int => base_Gcd_b1 x.1 x.2) (n3, n4)

noncomputable def base_Gcd (p0x0 : Int) (p1x0 : Int) : Option Int :=
  base_Gcd_l1 p0x0 p1x0

noncomputable def base_Fraction (p0x0 : Int) (p1x0 : Int) : Option Fraction :=
  (base_Gcd (max p0x0 (w64 (-p0x0))) p1x0).bind fun v2 =>
  (quo p0x0 v2).bind fun n3 =>
  (quo p1x0 v2).bind fun n4 =>
  some (⟨n3, n4⟩ : Fraction)

noncomputable def series_Held_k1 (n9 : Int) (n10 : Int) : Option (Fraction × Int) :=
  if n10 = (0 : Int) then
    some ((⟨(0 : Int), (0 : Int)⟩ : Fraction), (8 : Int))
  else
    (base_Fraction n9 n10).bind fun v14 =>
    some (v14, (0 : Int))

noncomputable def series_Held_b1 (v4 : (List Series_span)) (n9 : Int) (n10 : Int) (n11 : Int) : Option ((Int × Int × Int) ⊕ (Fraction × Int)) :=
  if n11 < (v4.length : Int) then
    (idx v4 n11).bind fun v12 =>
    some (.inl (w64 (n9 + (w64 (v12.value_ * (w64 (v12.to_ - v12.from_))))), w64 (n10 + (w64 (v12.to_ - v12.from_))), w64 (n11 + (1 : Int))))
  else
    Option.map .inr (series_Held_k1 n9 n10)

noncomputable def series_Held_l1 (v4 : (List Series_span)) (n9 : Int) (n10 : Int) (n11 : Int) : Option (Fraction × Int) :=
  iter (fun x : Int × Int × Int => series_Held_b1 v4 x.1 x.2.1 x.2.2) (n9, n10, n11)

noncomputable def series_Held (p0x0 : List Sample) (p1x0 : Window) : Option (Fraction × Int) :=
  (series_fault p0x0 p1x0).bind fun v3 =>
  if v3 ≠ (0 : Int) then
    some ((⟨(0 : Int), (0 : Int)⟩ : Fraction), v3)
  else
    if (7776000000 : Int) < (w64 (p1x0.To - p1x0.From)) then
      some ((⟨(0 : Int), (0 : Int)⟩ : Fraction), (2 : Int))
    else
      (series_spans p0x0 p1x0).bind fun v4 =>
      series_Held_l1 v4 (0 : Int) (0 : Int) (0 : Int)

/-- Sorted by Go. -/
noncomputable def slices_Sort_int_int (p0x0 : List Int) : Option (List Int) :=
  sort1 srtI p0x0

noncomputable def series_Quantile_k1 (p1x0 : Int) (l6 : List Int) : Option (Int × Int) :=
  (lenOk l6.length (fun r : (List Int) => r.length) (slices_Sort_int_int l6)).bind fun v13 =>
  (idx v13 (w64 ((w64 ((w64 ((w64 (p1x0 * (v13.length : Int))) + (999 : Int))).tdiv (1000 : Int))) - (1 : Int)))).bind fun v14 =>
  some (v14, (0 : Int))

noncomputable def series_Quantile_b1 (p0x0 : List Sample) (p1x0 : Int) (l6 : List Int) (n7 : Int) : Option (((List Int) × Int) ⊕ (Int × Int)) :=
  if n7 < (p0x0.length : Int) then
    (idx p0x0 n7).bind fun v9 =>
    (app l6 [v9.Value]).bind fun l11 =>
    some (.inl (l11, w64 (n7 + (1 : Int))))
  else
    Option.map .inr (series_Quantile_k1 p1x0 l6)

noncomputable def series_Quantile_l1 (p0x0 : List Sample) (p1x0 : Int) (l6 : List Int) (n7 : Int) : Option (Int × Int) :=
  iter (fun x : (List Int) × Int => series_Quantile_b1 p0x0 p1x0 x.1 x.2) (l6, n7)

noncomputable def series_Quantile (p0x0 : List Sample) (p1x0 : Int) : Option (Int × Int) :=
  (series_CheckSeries p0x0).bind fun v1 =>
  if v1 ≠ (0 : Int) then
    some ((0 : Int), v1)
  else
    if (base_Out p1x0 (1 : Int) (1000 : Int)) = true then
      some ((0 : Int), (1 : Int))
    else
      if (p0x0.length : Int) = (0 : Int) then
        some ((0 : Int), (8 : Int))
      else
        series_Quantile_l1 p0x0 p1x0 [] (0 : Int)

noncomputable def series_Beyond_j1 (n12 : Int) (l17 : List Window) : Option (((List Window) × Int) ⊕ ((List Window) × Int)) :=
  some (.inl (l17, w64 (n12 + (1 : Int))))

noncomputable def series_Beyond_j3 (n12 : Int) (l21 : List Window) : Option (((List Window) × Int) ⊕ ((List Window) × Int)) :=
  series_Beyond_j1 n12 l21

noncomputable def series_Beyond_j2 (l11 : List Window) (n12 : Int) (v14 : Series_span) (c18 : Bool) : Option (((List Window) × Int) ⊕ ((List Window) × Int)) :=
  if c18 = true then
    (idx l11 (w64 ((l11.length : Int) - (1 : Int)))).bind fun v22 =>
    series_Beyond_j3 n12 (l11.set (w64 ((l11.length : Int) - (1 : Int))).toNat (⟨v22.From, v14.to_⟩ : Window))
  else
    (app l11 [(⟨v14.from_, v14.to_⟩ : Window)]).bind fun l23 =>
    series_Beyond_j3 n12 l23

noncomputable def series_Beyond_b1 (p2x0 : Int) (p3x0 : Int) (v5 : (List Series_span)) (l11 : List Window) (n12 : Int) : Option (((List Window) × Int) ⊕ ((List Window) × Int)) :=
  if n12 < (v5.length : Int) then
    (idx v5 n12).bind fun v14 =>
    if (!(base_Out v14.value_ p2x0 p3x0)) = true then
      series_Beyond_j1 n12 l11
    else
      if (0 : Int) ≤ (w64 ((l11.length : Int) - (1 : Int))) then
        (idx l11 (w64 ((l11.length : Int) - (1 : Int)))).bind fun v19 =>
        series_Beyond_j2 l11 n12 v14 (decide (v19.To = v14.from_))
      else
        series_Beyond_j2 l11 n12 v14 false
  else
    Option.map .inr (some (l11, (0 : Int)))

noncomputable def series_Beyond_l1 (p2x0 : Int) (p3x0 : Int) (v5 : (List Series_span)) (l11 : List Window) (n12 : Int) : Option ((List Window) × Int) :=
  iter (fun x : (List Window) × Int => series_Beyond_b1 p2x0 p3x0 v5 x.1 x.2) (l11, n12)

noncomputable def series_Beyond (p0x0 : List Sample) (p1x0 : Window) (p2x0 : Int) (p3x0 : Int) : Option ((List Window) × Int) :=
  (series_fault p0x0 p1x0).bind fun v2 =>
  if v2 ≠ (0 : Int) then
    some ([], v2)
  else
    if p3x0 < p2x0 then
      some ([], (1 : Int))
    else
      (series_spans p0x0 p1x0).bind fun v5 =>
      series_Beyond_l1 p2x0 p3x0 v5 [] (0 : Int)

noncomputable def Q_in_j1 (c1 : Bool) : Bool :=
  c1

noncomputable def Q_in (p0x0 : Int) (p1x0 : Int) (p2x0 : Int) : Bool :=
  Q_in_j1 ((decide (p1x0 ≤ p0x0)) && (decide (p0x0 ≤ p2x0)))

noncomputable def Q_only_b1 (p0x0 : Str) (p1x0 : Str) (n2 : Int) : Option (Int ⊕ Bool) :=
  if n2 < (p0x0.length : Int) then
    (idx p0x0 n2).bind fun c3 =>
    if (indexByteI p1x0 (c3.toNat : Int)) < (0 : Int) then
      Option.map .inr (some false)
    else
      some (.inl (w64 (n2 + (1 : Int))))
  else
    Option.map .inr (some true)

noncomputable def Q_only_l1 (p0x0 : Str) (p1x0 : Str) (n2 : Int) : Option Bool :=
  iter (fun x : Int => Q_only_b1 p0x0 p1x0 x) n2

noncomputable def Q_only (p0x0 : Str) (p1x0 : Str) : Option Bool :=
  Q_only_l1 p0x0 p1x0 (0 : Int)

noncomputable def Q_Key_j1 (c1 : Bool) : Option Bool :=
  some c1

noncomputable def Q_Key (p0x0 : Str) : Option Bool :=
  if (Q_in (p0x0.length : Int) (1 : Int) (40 : Int)) = true then
    (slc p0x0 (0 : Int) (1 : Int)).bind fun l2 =>
    (Q_only l2 ([97, 98, 99, 100, 101, 102, 103, 104, 105, 106, 107, 108, 109, 110, 111, 112, 113, 114, 115, 116, 117, 118, 119, 120, 121, 122] : Str)).bind fun v3 =>
    if v3 = true then
      (Q_only p0x0 ([97, 98, 99, 100, 101, 102, 103, 104, 105, 106, 107, 108, 109, 110, 111, 112, 113, 114, 115, 116, 117, 118, 119, 120, 121, 122, 48, 49, 50, 51, 52, 53, 54, 55, 56, 57, 45, 95] : Str)).bind fun v4 =>
      Q_Key_j1 v4
    else
      Q_Key_j1 false
  else
    Q_Key_j1 false

noncomputable def Q_Moment (p0x0 : Int) : Bool :=
  (Q_in p0x0 (0 : Int) (345686399999 : Int))

noncomputable def cmp_isNaN_string (p0x0 : Str) : Bool :=
  decide (p0x0 ≠ p0x0)

noncomputable def cmp_Compare_string (p0x0 : Str) (p1x0 : Str) : Int :=
  if (cmp_isNaN_string p0x0) = true then
    if (cmp_isNaN_string p1x0) = true then
      (0 : Int)
    else
      (-1 : Int)
  else
    if (cmp_isNaN_string p1x0) = true then
      (1 : Int)
    else
      if (Op.bytesLess p0x0 p1x0) = true then
        (-1 : Int)
      else
        if (!(Op.bytesLess p0x0 p1x0 || p0x0 == p1x0)) = true then
          (1 : Int)
        else
          (0 : Int)

noncomputable def slices_Compare_string_string_k1 (p0x0 : List Str) (p1x0 : List Str) : Option Int :=
  if (p0x0.length : Int) < (p1x0.length : Int) then
    some (-1 : Int)
  else
    some (0 : Int)

noncomputable def slices_Compare_string_string_b1 (p0x0 : List Str) (p1x0 : List Str) (n2 : Int) : Option (Int ⊕ Int) :=
  if n2 < (p0x0.length : Int) then
    (idx p0x0 n2).bind fun v3 =>
    if (p1x0.length : Int) ≤ n2 then
      Option.map .inr (some (1 : Int))
    else
      (idx p1x0 n2).bind fun v4 =>
      if (cmp_Compare_string v3 v4) ≠ (0 : Int) then
        Option.map .inr (some (cmp_Compare_string v3 v4))
      else
        some (.inl (w64 (n2 + (1 : Int))))
  else
    Option.map .inr (slices_Compare_string_string_k1 p0x0 p1x0)

noncomputable def slices_Compare_string_string_l1 (p0x0 : List Str) (p1x0 : List Str) (n2 : Int) : Option Int :=
  iter (fun x : Int => slices_Compare_string_string_b1 p0x0 p1x0 x) n2

noncomputable def slices_Compare_string_string (p0x0 : List Str) (p1x0 : List Str) : Option Int :=
  slices_Compare_string_string_l1 p0x0 p1x0 (0 : Int)

noncomputable def Q_sign (p0x0 : Int) : Int :=
  if p0x0 < (0 : Int) then
    (-1 : Int)
  else
    if (0 : Int) < p0x0 then
      (1 : Int)
    else
      (0 : Int)

noncomputable def Q_SampleOrder (p0x0 : Sample) (p1x0 : Sample) : Option Int :=
  (slices_Compare_string_string [p0x0.Device, p0x0.Metric] [p1x0.Device, p1x0.Metric]).bind fun v3 =>
  if v3 ≠ (0 : Int) then
    some v3
  else
    some (Q_sign (w64 (p0x0.At - p1x0.At)))

noncomputable def Q_SamplesFault_j3 (n2 : Int) (c9 : Bool) : Option (Int ⊕ Int) :=
  if c9 = true then
    Option.map .inr (some (7 : Int))
  else
    some (.inl (w64 (n2 + (1 : Int))))

noncomputable def Q_SamplesFault_j2 (p0x0 : List Sample) (n2 : Int) (v3 : Sample) (c8 : Bool) : Option (Int ⊕ Int) :=
  if c8 = true then
    Option.map .inr (some (1 : Int))
  else
    if (0 : Int) < n2 then
      (idx p0x0 (w64 (n2 - (1 : Int)))).bind fun v10 =>
      (Q_SampleOrder v10 v3).bind fun v11 =>
      Q_SamplesFault_j3 n2 (decide ((0 : Int) ≤ v11))
    else
      Q_SamplesFault_j3 n2 false

noncomputable def Q_SamplesFault_j1 (p0x0 : List Sample) (n2 : Int) (v3 : Sample) (c5 : Bool) : Option (Int ⊕ Int) :=
  if c5 = true then
    Option.map .inr (some (5 : Int))
  else
    Q_SamplesFault_j2 p0x0 n2 v3 ((!(Q_Moment v3.At)) || (!(Q_in v3.Value (-1000000000 : Int) (1000000000 : Int))))

noncomputable def Q_SamplesFault_b1 (p0x0 : List Sample) (n2 : Int) : Option (Int ⊕ Int) :=
  if n2 < (p0x0.length : Int) then
    (idx p0x0 n2).bind fun v3 =>
    (Q_Key v3.Device).bind fun v6 =>
    if (!v6) = true then
      Q_SamplesFault_j1 p0x0 n2 v3 true
    else
      (Q_Key v3.Metric).bind fun v7 =>
      Q_SamplesFault_j1 p0x0 n2 v3 (!v7)
  else
    Option.map .inr (some (0 : Int))

noncomputable def Q_SamplesFault_l1 (p0x0 : List Sample) (n2 : Int) : Option Int :=
  iter (fun x : Int => Q_SamplesFault_b1 p0x0 x) n2

noncomputable def Q_SamplesFault (p0x0 : List Sample) : Option Int :=
  if (5000 : Int) < (p0x0.length : Int) then
    some (2 : Int)
  else
    Q_SamplesFault_l1 p0x0 (0 : Int)

noncomputable def Q_SeriesFault_1x_j1 (c2 : Bool) : Option Bool :=
  some c2

noncomputable def Q_SeriesFault_1x (p0x0 : Sample) (p1x0 : List Sample) : Option Bool :=
  (idx p1x0 (0 : Int)).bind fun v3 =>
  if p0x0.Device ≠ v3.Device then
    Q_SeriesFault_1x_j1 true
  else
    (idx p1x0 (0 : Int)).bind fun v4 =>
    Q_SeriesFault_1x_j1 (decide (p0x0.Metric ≠ v4.Metric))

noncomputable def Q_SeriesFault (p0x0 : List Sample) : Option Int :=
  (Q_SamplesFault p0x0).bind fun v2 =>
  if v2 ≠ (0 : Int) then
    some v2
  else
    (slices_ContainsFunc_Sample_Sample p0x0 (fun y0 => Q_SeriesFault_1x y0 p0x0)).bind fun v3 =>
    if v3 = true then
      some (13 : Int)
    else
      some (0 : Int)

noncomputable def Q_WindowFault_j1 (c2 : Bool) : Int :=
  if c2 = true then
    (1 : Int)
  else
    (0 : Int)

noncomputable def Q_WindowFault (p0x0 : Window) : Int :=
  Q_WindowFault_j1 ((!(Q_in p0x0.From (0 : Int) p0x0.To)) || (decide ((345686400000 : Int) < p0x0.To)))

noncomputable def L_errs_b1 (p0x0 : List Int) (n2 : Int) : Option (Int ⊕ Int) :=
  if n2 < (p0x0.length : Int) then
    (idx p0x0 n2).bind fun v3 =>
    if v3 ≠ (0 : Int) then
      Option.map .inr (some v3)
    else
      some (.inl (w64 (n2 + (1 : Int))))
  else
    Option.map .inr (some (0 : Int))

noncomputable def L_errs_l1 (p0x0 : List Int) (n2 : Int) : Option Int :=
  iter (fun x : Int => L_errs_b1 p0x0 x) n2

noncomputable def L_errs (p0x0 : List Int) : Option Int :=
  L_errs_l1 p0x0 (0 : Int)

noncomputable def L_when (p0x0 : Bool) (p1x0 : Int) : Int :=
  if p0x0 = true then
    p1x0
  else
    (0 : Int)

noncomputable def Q_stretches_j2 (n7 : Int) (l14 : List Fleetref2_stretch) : Option (((List Fleetref2_stretch) × Int) ⊕ (List Fleetref2_stretch)) :=
  some (.inl (l14, w64 (n7 + (1 : Int))))

noncomputable def Q_stretches_j1 (p1x0 : Window) (l6 : List Fleetref2_stretch) (n7 : Int) (v9 : Sample) (n11 : Int) : Option (((List Fleetref2_stretch) × Int) ⊕ (List Fleetref2_stretch)) :=
  if (max v9.At p1x0.From) < n11 then
    (app l6 [(⟨max v9.At p1x0.From, n11, v9.Value⟩ : Fleetref2_stretch)]).bind fun l15 =>
    Q_stretches_j2 n7 l15
  else
    Q_stretches_j2 n7 l6

noncomputable def Q_stretches_b1 (p0x0 : List Sample) (p1x0 : Window) (l6 : List Fleetref2_stretch) (n7 : Int) : Option (((List Fleetref2_stretch) × Int) ⊕ (List Fleetref2_stretch)) :=
  if n7 < (p0x0.length : Int) then
    (idx p0x0 n7).bind fun v9 =>
    if (w64 (n7 + (1 : Int))) < (p0x0.length : Int) then
      (idx p0x0 (w64 (n7 + (1 : Int)))).bind fun v12 =>
      Q_stretches_j1 p1x0 l6 n7 v9 (min p1x0.To v12.At)
    else
      Q_stretches_j1 p1x0 l6 n7 v9 p1x0.To
  else
    Option.map .inr (some l6)

noncomputable def Q_stretches_l1 (p0x0 : List Sample) (p1x0 : Window) (l6 : List Fleetref2_stretch) (n7 : Int) : Option (List Fleetref2_stretch) :=
  iter (fun x : (List Fleetref2_stretch) × Int => Q_stretches_b1 p0x0 p1x0 x.1 x.2) (l6, n7)

noncomputable def Q_stretches (p0x0 : List Sample) (p1x0 : Window) : Option (List Fleetref2_stretch) :=
  Q_stretches_l1 p0x0 p1x0 [] (0 : Int)

noncomputable def Q_Lowest_j1 (p0x0 : Int) (p1x0 : Int) (n7 : Int) : Option Fraction :=
  (quo p0x0 n7).bind fun n8 =>
  (quo p1x0 n7).bind fun n9 =>
  some (⟨n8, n9⟩ : Fraction)

noncomputable def Q_Lowest_k2 (p0x0 : Int) (p1x0 : Int) (n4 : Int) : Option Fraction :=
  if n4 < (0 : Int) then
    Q_Lowest_j1 p0x0 p1x0 (w64 (-n4))
  else
    Q_Lowest_j1 p0x0 p1x0 n4

noncomputable def Q_Lowest_b1 (p0x0 : Int) (p1x0 : Int) (n4 : Int) (n5 : Int) : Option ((Int × Int) ⊕ Fraction) :=
  if n5 ≠ (0 : Int) then
    (rem n4 n5).bind fun n6 =>
    some (.inl (n5, n6))
  else
    Option.map .inr (Q_Lowest_k2 p0x0 p1x0 n4)

noncomputable def Q_Lowest_l1 (p0x0 : Int) (p1x0 : Int) (n4 : Int) (n5 : Int) : Option Fraction :=
  iter (fun x : Int × Int => Q_Lowest_b1 p0x0 p1x0 x.1 x.2) (n4, n5)

noncomputable def Q_Lowest (p0x0 : Int) (p1x0 : Int) : Option Fraction :=
  Q_Lowest_l1 p0x0 p1x0 p0x0 p1x0

noncomputable def Q_HeldOf_k1 (n8 : Int) (n9 : Int) : Option (Fraction × Bool) :=
  if n9 = (0 : Int) then
    some ((⟨(0 : Int), (0 : Int)⟩ : Fraction), false)
  else
    (Q_Lowest n8 n9).bind fun v13 =>
    some (v13, true)

noncomputable def Q_HeldOf_b1 (v3 : (List Fleetref2_stretch)) (n8 : Int) (n9 : Int) (n10 : Int) : Option ((Int × Int × Int) ⊕ (Fraction × Bool)) :=
  if n10 < (v3.length : Int) then
    (idx v3 n10).bind fun v11 =>
    some (.inl (w64 (n8 + (w64 (v11.value_ * (w64 (v11.to_ - v11.from_))))), w64 (n9 + (w64 (v11.to_ - v11.from_))), w64 (n10 + (1 : Int))))
  else
    Option.map .inr (Q_HeldOf_k1 n8 n9)

noncomputable def Q_HeldOf_l1 (v3 : (List Fleetref2_stretch)) (n8 : Int) (n9 : Int) (n10 : Int) : Option (Fraction × Bool) :=
  iter (fun x : Int × Int × Int => Q_HeldOf_b1 v3 x.1 x.2.1 x.2.2) (n8, n9, n10)

noncomputable def Q_HeldOf (p0x0 : List Sample) (p1x0 : Window) : Option (Fraction × Bool) :=
  (Q_stretches p0x0 p1x0).bind fun v3 =>
  Q_HeldOf_l1 v3 (0 : Int) (0 : Int) (0 : Int)

noncomputable def Q_QuantileOf_b2 (p1x0 : Int) (v12 : (List Int)) (n14 : Int) : Option (Int ⊕ Int) :=
  if n14 < (v12.length : Int) then
    (idx v12 n14).bind fun v15 =>
    if (w64 (p1x0 * (v12.length : Int))) ≤ (w64 ((w64 (n14 + (1 : Int))) * (1000 : Int))) then
      Option.map .inr (some v15)
    else
      some (.inl (w64 (n14 + (1 : Int))))
  else
    Option.map .inr (some (0 : Int))

noncomputable def Q_QuantileOf_l2 (p1x0 : Int) (v12 : (List Int)) (n14 : Int) : Option Int :=
  iter (fun x : Int => Q_QuantileOf_b2 p1x0 v12 x) n14

noncomputable def Q_QuantileOf_k1 (p1x0 : Int) (l5 : List Int) : Option Int :=
  (lenOk l5.length (fun r : (List Int) => r.length) (slices_Sort_int_int l5)).bind fun v12 =>
  Q_QuantileOf_l2 p1x0 v12 (0 : Int)

noncomputable def Q_QuantileOf_b1 (p0x0 : List Sample) (p1x0 : Int) (l5 : List Int) (n6 : Int) : Option (((List Int) × Int) ⊕ Int) :=
  if n6 < (p0x0.length : Int) then
    (idx p0x0 n6).bind fun v8 =>
    (app l5 [v8.Value]).bind fun l10 =>
    some (.inl (l10, w64 (n6 + (1 : Int))))
  else
    Option.map .inr (Q_QuantileOf_k1 p1x0 l5)

noncomputable def Q_QuantileOf_l1 (p0x0 : List Sample) (p1x0 : Int) (l5 : List Int) (n6 : Int) : Option Int :=
  iter (fun x : (List Int) × Int => Q_QuantileOf_b1 p0x0 p1x0 x.1 x.2) (l5, n6)

noncomputable def Q_QuantileOf (p0x0 : List Sample) (p1x0 : Int) : Option Int :=
  Q_QuantileOf_l1 p0x0 p1x0 [] (0 : Int)

noncomputable def Q_BeyondOf_j1 (n9 : Int) (l12 : List Window) : Option (((List Window) × Int) ⊕ (List Window)) :=
  some (.inl (l12, w64 (n9 + (1 : Int))))

noncomputable def Q_BeyondOf_j2 (l8 : List Window) (n9 : Int) (v13 : Fleetref2_stretch) (c15 : Bool) : Option (((List Window) × Int) ⊕ (List Window)) :=
  if c15 = true then
    (idx l8 (w64 ((l8.length : Int) - (1 : Int)))).bind fun v17 =>
    Q_BeyondOf_j1 n9 (l8.set (w64 ((l8.length : Int) - (1 : Int))).toNat (⟨v17.From, v13.to_⟩ : Window))
  else
    (app l8 [(⟨v13.from_, v13.to_⟩ : Window)]).bind fun l18 =>
    Q_BeyondOf_j1 n9 l18

noncomputable def Q_BeyondOf_b1 (p2x0 : Int) (p3x0 : Int) (v2 : (List Fleetref2_stretch)) (l8 : List Window) (n9 : Int) : Option (((List Window) × Int) ⊕ (List Window)) :=
  if n9 < (v2.length : Int) then
    (idx v2 n9).bind fun v13 =>
    if (Q_in v13.value_ p2x0 p3x0) = true then
      Q_BeyondOf_j1 n9 l8
    else
      if (0 : Int) ≤ (w64 ((l8.length : Int) - (1 : Int))) then
        (idx l8 (w64 ((l8.length : Int) - (1 : Int)))).bind fun v16 =>
        Q_BeyondOf_j2 l8 n9 v13 (decide (v16.To = v13.from_))
      else
        Q_BeyondOf_j2 l8 n9 v13 false
  else
    Option.map .inr (some l8)

noncomputable def Q_BeyondOf_l1 (p2x0 : Int) (p3x0 : Int) (v2 : (List Fleetref2_stretch)) (l8 : List Window) (n9 : Int) : Option (List Window) :=
  iter (fun x : (List Window) × Int => Q_BeyondOf_b1 p2x0 p3x0 v2 x.1 x.2) (l8, n9)

noncomputable def Q_BeyondOf (p0x0 : List Sample) (p1x0 : Window) (p2x0 : Int) (p3x0 : Int) : Option (List Window) :=
  (Q_stretches p0x0 p1x0).bind fun v2 =>
  Q_BeyondOf_l1 p2x0 p3x0 v2 [] (0 : Int)

noncomputable def slices_Equal_Window_Window_b1 (p0x0 : List Window) (p1x0 : List Window) (n2 : Int) : Option (Int ⊕ Bool) :=
  if n2 < (p0x0.length : Int) then
    (idx p0x0 n2).bind fun v3 =>
    (idx p1x0 n2).bind fun v4 =>
    if v3 ≠ v4 then
      Option.map .inr (some false)
    else
      some (.inl (w64 (n2 + (1 : Int))))
  else
    Option.map .inr (some true)

noncomputable def slices_Equal_Window_Window_l1 (p0x0 : List Window) (p1x0 : List Window) (n2 : Int) : Option Bool :=
  iter (fun x : Int => slices_Equal_Window_Window_b1 p0x0 p1x0 x) n2

noncomputable def slices_Equal_Window_Window (p0x0 : List Window) (p1x0 : List Window) : Option Bool :=
  if (p0x0.length : Int) ≠ (p1x0.length : Int) then
    some false
  else
    slices_Equal_Window_Window_l1 p0x0 p1x0 (0 : Int)

noncomputable def series_seven_n0x_k1 (l5 : List Int) (n6 : Int) : Option (List Int) :=
  (app l5 [IntKind.u8.wrap (n6)]).bind fun l10 =>
  some l10

noncomputable def series_seven_n0x_b1 (l5 : List Int) (n6 : Int) : Option (((List Int) × Int) ⊕ (List Int)) :=
  if (128 : Int) ≤ n6 then
    (app l5 [orI .u8 (IntKind.u8.wrap (andI .u64 n6 (127 : Int))) (128 : Int)]).bind fun l8 =>
    some (.inl (l8, shrI .u64 n6 (7 : Int)))
  else
    Option.map .inr (series_seven_n0x_k1 l5 n6)

noncomputable def series_seven_n0x_l1 (l5 : List Int) (n6 : Int) : Option (List Int) :=
  iter (fun x : (List Int) × Int => series_seven_n0x_b1 x.1 x.2) (l5, n6)

noncomputable def series_seven_n0x (p1x0 : Int) : Option (List Int) :=
  series_seven_n0x_l1 [] p1x0

noncomputable def series_doubled (p0x0 : Int) : Int :=
  if p0x0 < (0 : Int) then
    IntKind.u64.wrap (w64 ((w64 ((-2 : Int) * p0x0)) - (1 : Int)))
  else
    IntKind.u64.wrap (w64 ((2 : Int) * p0x0))

noncomputable def series_seven_o0x_k1 (l5 : List Int) (n6 : Int) : Option (List Int) :=
  (app l5 [IntKind.u8.wrap (n6)]).bind fun l9 =>
  some l9

noncomputable def series_seven_o0x_b1 (l5 : List Int) (n6 : Int) : Option (((List Int) × Int) ⊕ (List Int)) :=
  if (128 : Int) ≤ n6 then
    (app l5 [orI .u8 (IntKind.u8.wrap (andI .u64 n6 (127 : Int))) (128 : Int)]).bind fun l7 =>
    some (.inl (l7, shrI .u64 n6 (7 : Int)))
  else
    Option.map .inr (series_seven_o0x_k1 l5 n6)

noncomputable def series_seven_o0x_l1 (l5 : List Int) (n6 : Int) : Option (List Int) :=
  iter (fun x : (List Int) × Int => series_seven_o0x_b1 x.1 x.2) (l5, n6)

noncomputable def series_seven_o0x (p0x0 : List Int) (p1x0 : Int) : Option (List Int) :=
  series_seven_o0x_l1 p0x0 p1x0

noncomputable def series_pack_j1 (n14 : Int) (v15 : Sample) (v19 : (List Int)) (n21 : Int) : Option (((List Int) × Int × Int × Int × Int) ⊕ (List Int)) :=
  some (.inl (v19, v15.At, n21, v15.Value, w64 (n14 + (1 : Int))))

noncomputable def series_pack_b1 (p0x0 : List Sample) (l10 : List Int) (n11 : Int) (n12 : Int) (n13 : Int) (n14 : Int) : Option (((List Int) × Int × Int × Int × Int) ⊕ (List Int)) :=
  if n14 < (p0x0.length : Int) then
    (idx p0x0 n14).bind fun v15 =>
    (series_seven_o0x l10 (series_doubled (w64 ((w64 (v15.At - n11)) - n12)))).bind fun v17 =>
    (series_seven_o0x v17 (series_doubled (w64 (v15.Value - n13)))).bind fun v19 =>
    if (0 : Int) < n14 then
      series_pack_j1 n14 v15 v19 (w64 (v15.At - n11))
    else
      series_pack_j1 n14 v15 v19 n12
  else
    Option.map .inr (some l10)

noncomputable def series_pack_l1 (p0x0 : List Sample) (l10 : List Int) (n11 : Int) (n12 : Int) (n13 : Int) (n14 : Int) : Option (List Int) :=
  iter (fun x : (List Int) × Int × Int × Int × Int => series_pack_b1 p0x0 x.1 x.2.1 x.2.2.1 x.2.2.2.1 x.2.2.2.2) (l10, n11, n12, n13, n14)

noncomputable def series_pack (p0x0 : List Sample) : Option (List Int) :=
  (series_seven_n0x (IntKind.u64.wrap ((p0x0.length : Int)))).bind fun v1 =>
  series_pack_l1 p0x0 v1 (0 : Int) (0 : Int) (0 : Int) (0 : Int)

noncomputable def series_Pack (p0x0 : List Sample) : Option ((List Int) × Int) :=
  (series_CheckSeries p0x0).bind fun v1 =>
  if v1 ≠ (0 : Int) then
    some ([], v1)
  else
    (series_pack p0x0).bind fun v3 =>
    some (v3, (0 : Int))

noncomputable def slices_Equal_byte_byte_b1 (p0x0 : List Int) (p1x0 : List Int) (n2 : Int) : Option (Int ⊕ Bool) :=
  if n2 < (p0x0.length : Int) then
    (idx p0x0 n2).bind fun v3 =>
    (idx p1x0 n2).bind fun v4 =>
    if v3 ≠ v4 then
      Option.map .inr (some false)
    else
      some (.inl (w64 (n2 + (1 : Int))))
  else
    Option.map .inr (some true)

noncomputable def slices_Equal_byte_byte_l1 (p0x0 : List Int) (p1x0 : List Int) (n2 : Int) : Option Bool :=
  iter (fun x : Int => slices_Equal_byte_byte_b1 p0x0 p1x0 x) n2

noncomputable def slices_Equal_byte_byte (p0x0 : List Int) (p1x0 : List Int) : Option Bool :=
  if (p0x0.length : Int) ≠ (p1x0.length : Int) then
    some false
  else
    slices_Equal_byte_byte_l1 p0x0 p1x0 (0 : Int)

noncomputable def L_measured_j1 (c3 : Bool) : Option Bool :=
  some c3

noncomputable def L_measured : Option Bool :=
  (series_Pack [(⟨([100] : Str), ([109] : Str), (1 : Int), (1 : Int)⟩ : Sample)]).bind fun v1 =>
  if v1.2 = (0 : Int) then
    (slices_Equal_byte_byte v1.1 [(1 : Int), (2 : Int), (2 : Int)]).bind fun v4 =>
    L_measured_j1 v4
  else
    L_measured_j1 false

noncomputable def L_ValuesHeld_j5 (c34 : Bool) : Option Bool :=
  some c34

noncomputable def L_ValuesHeld_j4 (v9 : Fraction × Int) (v11 : Int × Int) (v12 : (List Window) × Int) (n17 : Int) (v20 : Int) (n22 : Int) (n23 : Int) (n24 : Int) (n27 : Int) (l30 : List Window) : Option Bool :=
  if v9.2 = n22 then
    if v9.1 = (⟨n23, n24⟩ : Fraction) then
      if v11.2 = n17 then
        if v11.1 = n27 then
          if v12.2 = v20 then
            (slices_Equal_Window_Window v12.1 l30).bind fun v35 =>
            if v35 = true then
              (L_measured).bind fun v36 =>
              L_ValuesHeld_j5 v36
            else
              L_ValuesHeld_j5 false
          else
            L_ValuesHeld_j5 false
        else
          L_ValuesHeld_j5 false
      else
        L_ValuesHeld_j5 false
    else
      L_ValuesHeld_j5 false
  else
    L_ValuesHeld_j5 false

noncomputable def L_ValuesHeld_j3 (v2 : (List Sample) × Fleetmake_Stream) (v4 : Window × Fleetmake_Stream) (v7 : Int × Fleetmake_Stream) (v8 : Int × Fleetmake_Stream) (v9 : Fraction × Int) (v11 : Int × Int) (v12 : (List Window) × Int) (n17 : Int) (v20 : Int) (n22 : Int) (n23 : Int) (n24 : Int) (n27 : Int) : Option Bool :=
  if v20 = (0 : Int) then
    (Q_BeyondOf v2.1 v4.1 v7.1 v8.1).bind fun v31 =>
    L_ValuesHeld_j4 v9 v11 v12 n17 v20 n22 n23 n24 n27 v31
  else
    L_ValuesHeld_j4 v9 v11 v12 n17 v20 n22 n23 n24 n27 []

noncomputable def L_ValuesHeld_j2 (v2 : (List Sample) × Fleetmake_Stream) (v4 : Window × Fleetmake_Stream) (v5 : Int × Fleetmake_Stream) (v7 : Int × Fleetmake_Stream) (v8 : Int × Fleetmake_Stream) (v9 : Fraction × Int) (v11 : Int × Int) (v12 : (List Window) × Int) (n17 : Int) (v20 : Int) (n22 : Int) (n23 : Int) (n24 : Int) : Option Bool :=
  if n17 = (0 : Int) then
    (Q_QuantileOf v2.1 v5.1).bind fun v28 =>
    L_ValuesHeld_j3 v2 v4 v7 v8 v9 v11 v12 n17 v20 n22 n23 n24 v28
  else
    L_ValuesHeld_j3 v2 v4 v7 v8 v9 v11 v12 n17 v20 n22 n23 n24 (0 : Int)

noncomputable def L_ValuesHeld_j1 (v2 : (List Sample) × Fleetmake_Stream) (v4 : Window × Fleetmake_Stream) (v5 : Int × Fleetmake_Stream) (v7 : Int × Fleetmake_Stream) (v8 : Int × Fleetmake_Stream) (v9 : Fraction × Int) (v11 : Int × Int) (v12 : (List Window) × Int) (v15 : Int) (v16 : Int) (n17 : Int) : Option Bool :=
  (L_errs [v15, (L_when (decide (v8.1 < v7.1)) (1 : Int))]).bind fun v20 =>
  if v16 = (0 : Int) then
    (Q_HeldOf v2.1 v4.1).bind fun v25 =>
    L_ValuesHeld_j2 v2 v4 v5 v7 v8 v9 v11 v12 n17 v20 (L_when (!v25.2) (8 : Int)) v25.1.Num v25.1.Den
  else
    L_ValuesHeld_j2 v2 v4 v5 v7 v8 v9 v11 v12 n17 v20 v16 (0 : Int) (0 : Int)

noncomputable def L_ValuesHeld (p0x0 : List Int) : Option Bool :=
  (Stream_Series (⟨p0x0, (0 : Int)⟩ : Fleetmake_Stream) (9 : Int)).bind fun v2 =>
  (Stream_Frame v2.2).bind fun v4 =>
  (Stream_Pick v4.2 [(1 : Int), (250 : Int), (500 : Int), (501 : Int), (999 : Int), (1000 : Int), (0 : Int), (1001 : Int)]).bind fun v5 =>
  (Stream_Pick v5.2 [(0 : Int), (1 : Int), (-5 : Int), (9 : Int)]).bind fun v7 =>
  (Stream_Pick v7.2 [(0 : Int), (5 : Int), (7 : Int), (9 : Int)]).bind fun v8 =>
  (series_Held v2.1 v4.1).bind fun v9 =>
  (series_Quantile v2.1 v5.1).bind fun v11 =>
  (series_Beyond v2.1 v4.1 v7.1 v8.1).bind fun v12 =>
  (Q_SeriesFault v2.1).bind fun v14 =>
  (L_errs [v14, (Q_WindowFault v4.1)]).bind fun v15 =>
  (L_errs [v15, (L_when (decide ((7776000000 : Int) < (w64 (v4.1.To - v4.1.From)))) (2 : Int))]).bind fun v16 =>
  if v5.1 < (1 : Int) then
    (L_errs [v14, (L_when true (1 : Int)), (L_when (decide ((v2.1.length : Int) = (0 : Int))) (8 : Int))]).bind fun v19 =>
    L_ValuesHeld_j1 v2 v4 v5 v7 v8 v9 v11 v12 v15 v16 v19
  else
    (L_errs [v14, (L_when (decide ((1000 : Int) < v5.1)) (1 : Int)), (L_when (decide ((v2.1.length : Int) = (0 : Int))) (8 : Int))]).bind fun v18 =>
    L_ValuesHeld_j1 v2 v4 v5 v7 v8 v9 v11 v12 v15 v16 v18

end Go.Beacon
