/- Plain functions that the Go functions compute, written by shal.py. -/
import Derived.Test.YtblakecmhjcdmaaCore
set_option linter.unusedVariables false
namespace Go.Beacon
open Go Go.Eng
structure Fleetmake_Stream where
  L : List Int
  at_ : Int
deriving DecidableEq, Inhabited
def Fleetmake_Stream.av (x : Fleetmake_Stream) : AV := .agg [.list 1 (x.L.map I), I x.at_]

structure Sample where
  Device : Str
  Metric : Str
  At : Int
  Value : Int
deriving DecidableEq, Inhabited
def Sample.av (x : Sample) : AV := .agg [.str x.Device, .str x.Metric, I x.At, I x.Value]

structure Window where
  From : Int
  To : Int
deriving DecidableEq, Inhabited
def Window.av (x : Window) : AV := .agg [I x.From, I x.To]

structure Bucket where
  Time : Window
  Count : Int
  Sum : Int
  Min : Int
  Max : Int
  First : Int
  Last : Int
deriving DecidableEq, Inhabited
def Bucket.av (x : Bucket) : AV := .agg [I x.Time.From, I x.Time.To, I x.Count, I x.Sum, I x.Min, I x.Max, I x.First, I x.Last]

structure Fraction where
  Num : Int
  Den : Int
deriving DecidableEq, Inhabited
def Fraction.av (x : Fraction) : AV := .agg [I x.Num, I x.Den]

noncomputable def Below_j1 (n2 : Int) : Option Int :=
  some n2

noncomputable def Below (p0x0 : Int) (p1x0 : Int) : Option Int :=
  if p1x0 < (1 : Int) then
    some (0 : Int)
  else
    (rem p0x0 p1x0).bind fun n1 =>
    if n1 < (0 : Int) then
      Below_j1 (w64 (n1 + p1x0))
    else
      Below_j1 n1

noncomputable def Stream_Next (p0x0 : Fleetmake_Stream) (p1x0 : Int) : Option (Int × Fleetmake_Stream) :=
  if (p0x0.L.length : Int) = (0 : Int) then
    (Below (w64 ((w64 (p0x0.at_ + (1 : Int))) * (7919 : Int))) p1x0).bind fun v1 =>
    some (v1, (⟨p0x0.L, w64 (p0x0.at_ + (1 : Int))⟩ : Fleetmake_Stream))
  else
    (rem (w64 ((w64 (p0x0.at_ + (1 : Int))) - (1 : Int))) (p0x0.L.length : Int)).bind fun n2 =>
    (quo (w64 ((w64 (p0x0.at_ + (1 : Int))) - (1 : Int))) (p0x0.L.length : Int)).bind fun n3 =>
    (idx p0x0.L n2).bind fun v4 =>
    (Below v4 (1073741824 : Int)).bind fun v5 =>
    (Below (w64 (v5 + (w64 (n3 * (w64 ((7919 : Int) + n2)))))) p1x0).bind fun v6 =>
    some (v6, (⟨p0x0.L, w64 (p0x0.at_ + (1 : Int))⟩ : Fleetmake_Stream))

noncomputable def Stream_Pick (p0x0 : Fleetmake_Stream) (p1x0 : List Int) : Option (Int × Fleetmake_Stream) :=
  (Stream_Next p0x0 (p1x0.length : Int)).bind fun v1 =>
  (idx p1x0 v1.1).bind fun v2 =>
  some (v2, v1.2)

noncomputable def Stream_Range (p0x0 : Fleetmake_Stream) (p1x0 : Int) (p2x0 : Int) : Option (Int × Fleetmake_Stream) :=
  if p2x0 < p1x0 then
    some (p1x0, p0x0)
  else
    (Stream_Next p0x0 (w64 ((w64 (p2x0 - p1x0)) + (1 : Int)))).bind fun v1 =>
    some (w64 (p1x0 + v1.1), v1.2)

noncomputable def Stream_RightSeries_b1 (p2x0 : Int) (v1 : Int × Fleetmake_Stream) (l8 : List Int) (n9 : Int) (l11 : List Sample) (n12 : Int) (n13 : Int) : Option (((List Int) × Int × (List Sample) × Int × Int) ⊕ ((List Sample) × Fleetmake_Stream)) :=
  if n13 < v1.1 then
    (Stream_Pick (⟨l8, n9⟩ : Fleetmake_Stream) [(1 : Int), (1 : Int), (2 : Int), (5 : Int), (10 : Int), (10 : Int), (40 : Int), (127 : Int), (1000 : Int)]).bind fun v15 =>
    (Stream_Pick v15.2 [(0 : Int), (1 : Int), (2 : Int), (5 : Int), (7 : Int), (9 : Int), (-3 : Int), (-70 : Int), (100 : Int), (1000 : Int), (5 : Int)]).bind fun v16 =>
    (app l11 [(⟨([100] : Str), ([109] : Str), w64 (n12 + v15.1), max p2x0 v16.1⟩ : Sample)]).bind fun l17 =>
    some (.inl (v16.2.L, v16.2.at_, l17, w64 (n12 + v15.1), w64 (n13 + (1 : Int))))
  else
    Option.map .inr (some (l11, (⟨l8, n9⟩ : Fleetmake_Stream)))

noncomputable def Stream_RightSeries_l1 (p2x0 : Int) (v1 : Int × Fleetmake_Stream) (l8 : List Int) (n9 : Int) (l11 : List Sample) (n12 : Int) (n13 : Int) : Option ((List Sample) × Fleetmake_Stream) :=
  iter (fun x : (List Int) × Int × (List Sample) × Int × Int => Stream_RightSeries_b1 p2x0 v1 x.1 x.2.1 x.2.2.1 x.2.2.2.1 x.2.2.2.2) (l8, n9, l11, n12, n13)

noncomputable def Stream_RightSeries (p0x0 : Fleetmake_Stream) (p1x0 : Int) (p2x0 : Int) : Option ((List Sample) × Fleetmake_Stream) :=
  (Stream_Range p0x0 (0 : Int) p1x0).bind fun v1 =>
  Stream_RightSeries_l1 p2x0 v1 v1.2.L v1.2.at_ [] (0 : Int) (0 : Int)

noncomputable def Stream_Flip (p0x0 : Fleetmake_Stream) (p1x0 : Int) : Option (Bool × Fleetmake_Stream) :=
  (Stream_Next p0x0 p1x0).bind fun v1 =>
  some (decide (v1.1 = (0 : Int)), v1.2)

noncomputable def Stream_Some (p0x0 : Fleetmake_Stream) (p1x0 : List Str) : Option (Str × Fleetmake_Stream) :=
  (Stream_Next p0x0 (p1x0.length : Int)).bind fun v1 =>
  (idx p1x0 v1.1).bind fun v2 =>
  some (v2, v1.2)

noncomputable def Stream_Odd (p0x0 : Fleetmake_Stream) (p1x0 : Int) (p2x0 : Int) : Option (Int × Fleetmake_Stream) :=
  (Stream_Flip p0x0 (12 : Int)).bind fun v1 =>
  if v1.1 = true then
    (Stream_Pick v1.2 [w64 (p1x0 - (1 : Int)), w64 (p2x0 + (1 : Int)), p1x0, p2x0, (-1099511627776 : Int), (1099511627776 : Int)]).bind fun v2 =>
    some (v2.1, v2.2)
  else
    (Stream_Range v1.2 p1x0 p2x0).bind fun v3 =>
    some (v3.1, v3.2)

noncomputable def Stream_Series_j7 (l31 : List Int) (n32 : Int) (l33 : List Sample) : Option ((List Sample) × Fleetmake_Stream) :=
  some (l33, (⟨l31, n32⟩ : Fleetmake_Stream))

noncomputable def Stream_Series_j6 (l10 : List Sample) (l27 : List Int) (n28 : Int) (c29 : Bool) : Option ((List Sample) × Fleetmake_Stream) :=
  if c29 = true then
    (idx l10 (w64 ((l10.length : Int) - (1 : Int)))).bind fun v34 =>
    (Stream_Pick (⟨l27, n28⟩ : Fleetmake_Stream) [(345686399999 : Int), (3456000000 : Int), (950400000 : Int)]).bind fun v35 =>
    (Stream_Pick v35.2 [(1000000000 : Int), (-1000000000 : Int)]).bind fun v36 =>
    Stream_Series_j7 v36.2.L v36.2.at_ ((l10.set (w64 ((l10.length : Int) - (1 : Int))).toNat (⟨v34.Device, v34.Metric, v35.1, v34.Value⟩ : Sample)).set (w64 ((l10.length : Int) - (1 : Int))).toNat (⟨v34.Device, v34.Metric, v35.1, v36.1⟩ : Sample))
  else
    Stream_Series_j7 l27 n28 l10

noncomputable def Stream_Series_j2 (l8 : List Int) (n9 : Int) (l10 : List Sample) : Option ((List Sample) × Fleetmake_Stream) :=
  if (0 : Int) < (l10.length : Int) then
    (Stream_Flip (⟨l8, n9⟩ : Fleetmake_Stream) (25 : Int)).bind fun v30 =>
    Stream_Series_j6 l10 v30.2.L v30.2.at_ v30.1
  else
    Stream_Series_j6 l10 l8 n9 false

noncomputable def Stream_Series_j3 (l14 : List Int) (n15 : Int) (l16 : List Sample) : Option ((List Sample) × Fleetmake_Stream) :=
  Stream_Series_j2 l14 n15 l16

noncomputable def Stream_Series_j4 (l18 : List Int) (n19 : Int) (l20 : List Sample) : Option ((List Sample) × Fleetmake_Stream) :=
  Stream_Series_j3 l18 n19 l20

noncomputable def Stream_Series_j5 (l22 : List Int) (n23 : Int) (l24 : List Sample) : Option ((List Sample) × Fleetmake_Stream) :=
  Stream_Series_j4 l22 n23 l24

noncomputable def Stream_Series_j1 (v2 : (List Sample) × Fleetmake_Stream) (l4 : List Int) (n5 : Int) (c6 : Bool) : Option ((List Sample) × Fleetmake_Stream) :=
  if c6 = true then
    (Stream_Next (⟨l4, n5⟩ : Fleetmake_Stream) (v2.1.length : Int)).bind fun v11 =>
    (idx v2.1 v11.1).bind fun v12 =>
    (Stream_Next v11.2 (4 : Int)).bind fun v13 =>
    if v13.1 = (0 : Int) then
      (Stream_Some v13.2 [([] : Str), ([101] : Str), ([65] : Str)]).bind fun v17 =>
      Stream_Series_j3 v17.2.L v17.2.at_ (v2.1.set v11.1.toNat (⟨v17.1, v12.Metric, v12.At, v12.Value⟩ : Sample))
    else
      if v13.1 = (1 : Int) then
        (Stream_Some v13.2 [([] : Str), ([110] : Str)]).bind fun v21 =>
        Stream_Series_j4 v21.2.L v21.2.at_ (v2.1.set v11.1.toNat (⟨v12.Device, v21.1, v12.At, v12.Value⟩ : Sample))
      else
        if v13.1 = (2 : Int) then
          (Stream_Odd v13.2 (0 : Int) (100 : Int)).bind fun v25 =>
          Stream_Series_j5 v25.2.L v25.2.at_ (v2.1.set v11.1.toNat (⟨v12.Device, v12.Metric, v25.1, v12.Value⟩ : Sample))
        else
          (Stream_Odd v13.2 (-1000000000 : Int) (1000000000 : Int)).bind fun v26 =>
          Stream_Series_j5 v26.2.L v26.2.at_ (v2.1.set v11.1.toNat (⟨v12.Device, v12.Metric, v12.At, v26.1⟩ : Sample))
  else
    Stream_Series_j2 l4 n5 v2.1

noncomputable def Stream_Series (p0x0 : Fleetmake_Stream) (p1x0 : Int) : Option ((List Sample) × Fleetmake_Stream) :=
  (Stream_Pick p0x0 [(0 : Int), (-100 : Int)]).bind fun v1 =>
  (Stream_RightSeries v1.2 p1x0 v1.1).bind fun v2 =>
  if (0 : Int) < (v2.1.length : Int) then
    (Stream_Flip v2.2 (12 : Int)).bind fun v7 =>
    Stream_Series_j1 v2 v7.2.L v7.2.at_ v7.1
  else
    Stream_Series_j1 v2 v2.2.L v2.2.at_ false

noncomputable def Stream_Frame_j4 (l18 : List Int) (n19 : Int) (n20 : Int) (n21 : Int) : Option (Window × Fleetmake_Stream) :=
  some ((⟨n20, n21⟩ : Window), (⟨l18, n19⟩ : Fleetmake_Stream))

noncomputable def Stream_Frame_j3 (l11 : List Int) (n12 : Int) (n13 : Int) (n14 : Int) : Option (Window × Fleetmake_Stream) :=
  (Stream_Flip (⟨l11, n12⟩ : Fleetmake_Stream) (25 : Int)).bind fun v17 =>
  if v17.1 = true then
    (Stream_Pick v17.2 [(0 : Int), (5 : Int)]).bind fun v22 =>
    (Stream_Pick v22.2 [(345686400000 : Int), (345686400001 : Int), (7776000000 : Int), (7862400000 : Int)]).bind fun v23 =>
    Stream_Frame_j4 v23.2.L v23.2.at_ v22.1 v23.1
  else
    Stream_Frame_j4 v17.2.L v17.2.at_ n13 n14

noncomputable def Stream_Frame_j2 (v3 : Int × Fleetmake_Stream) (l5 : List Int) (n6 : Int) (n9 : Int) : Option (Window × Fleetmake_Stream) :=
  (Stream_Flip (⟨l5, n6⟩ : Fleetmake_Stream) (15 : Int)).bind fun v10 =>
  if v10.1 = true then
    (Stream_Odd v10.2 (0 : Int) (100 : Int)).bind fun v15 =>
    (Stream_Odd v15.2 (0 : Int) (1000 : Int)).bind fun v16 =>
    Stream_Frame_j3 v16.2.L v16.2.at_ v15.1 v16.1
  else
    Stream_Frame_j3 v10.2.L v10.2.at_ n9 v3.1

noncomputable def Stream_Frame_j1 (v2 : Int × Fleetmake_Stream) (v3 : Int × Fleetmake_Stream) (l5 : List Int) (n6 : Int) (c7 : Bool) : Option (Window × Fleetmake_Stream) :=
  if c7 = true then
    Stream_Frame_j2 v3 l5 n6 (0 : Int)
  else
    Stream_Frame_j2 v3 l5 n6 v2.1

noncomputable def Stream_Frame (p0x0 : Fleetmake_Stream) : Option (Window × Fleetmake_Stream) :=
  (Stream_Pick p0x0 [(0 : Int), (0 : Int), (1 : Int), (5 : Int), (10 : Int), (50 : Int)]).bind fun v2 =>
  (Stream_Pick v2.2 [(10 : Int), (50 : Int), (100 : Int), (300 : Int), (3000 : Int)]).bind fun v3 =>
  if v3.1 < v2.1 then
    (Stream_Flip v3.2 (3 : Int)).bind fun v8 =>
    Stream_Frame_j1 v2 v3 v8.2.L v8.2.at_ (!v8.1)
  else
    Stream_Frame_j1 v2 v3 v3.2.L v3.2.at_ false

noncomputable def base_Key_j2 (n5 : Int) (c7 : Bool) : Option (Int ⊕ Bool) :=
  if c7 = true then
    Option.map .inr (some false)
  else
    some (.inl (w64 (n5 + (1 : Int))))

noncomputable def base_Key_b1 (p0x0 : Str) (n5 : Int) : Option (Int ⊕ Bool) :=
  if n5 < (p0x0.length : Int) then
    (idx p0x0 n5).bind fun c6 =>
    base_Key_j2 n5 (if (97 : Int) ≤ (c6.toNat : Int) then if (c6.toNat : Int) ≤ (122 : Int) then !true else if (48 : Int) ≤ (c6.toNat : Int) then if (c6.toNat : Int) ≤ (57 : Int) then !true else if (c6.toNat : Int) = (45 : Int) then !true else decide (¬ ((c6.toNat : Int) = (95 : Int))) else if (c6.toNat : Int) = (45 : Int) then !true else decide (¬ ((c6.toNat : Int) = (95 : Int))) else if (48 : Int) ≤ (c6.toNat : Int) then if (c6.toNat : Int) ≤ (57 : Int) then !true else if (c6.toNat : Int) = (45 : Int) then !true else decide (¬ ((c6.toNat : Int) = (95 : Int))) else if (c6.toNat : Int) = (45 : Int) then !true else decide (¬ ((c6.toNat : Int) = (95 : Int))))
  else
    Option.map .inr (some true)

noncomputable def base_Key_l1 (p0x0 : Str) (n5 : Int) : Option Bool :=
  iter (fun x : Int => base_Key_b1 p0x0 x) n5

noncomputable def base_Key_j1 (p0x0 : Str) (c1 : Bool) : Option Bool :=
  if c1 = true then
    some false
  else
    base_Key_l1 p0x0 (0 : Int)

noncomputable def base_Key (p0x0 : Str) : Option Bool :=
  if p0x0 = ([] : Str) then
    base_Key_j1 p0x0 true
  else
    if (40 : Int) < (p0x0.length : Int) then
      base_Key_j1 p0x0 true
    else
      (idx p0x0 (0 : Int)).bind fun c2 =>
      if (c2.toNat : Int) < (97 : Int) then
        base_Key_j1 p0x0 true
      else
        (idx p0x0 (0 : Int)).bind fun c3 =>
        base_Key_j1 p0x0 (decide ((122 : Int) < (c3.toNat : Int)))

noncomputable def base_Out_j1 (c1 : Bool) : Bool :=
  c1

noncomputable def base_Out (p0x0 : Int) (p1x0 : Int) (p2x0 : Int) : Bool :=
  base_Out_j1 ((decide (p0x0 < p1x0)) || (decide (p2x0 < p0x0)))

noncomputable def base_Moment (p0x0 : Int) : Bool :=
  !(base_Out p0x0 (0 : Int) (345686399999 : Int))

noncomputable def cmp_isNaN_int (p0x0 : Int) : Bool :=
  decide (p0x0 ≠ p0x0)

noncomputable def cmp_Compare_int (p0x0 : Int) (p1x0 : Int) : Int :=
  if (cmp_isNaN_int p0x0) = true then
    if (cmp_isNaN_int p1x0) = true then
      (0 : Int)
    else
      (-1 : Int)
  else
    if (cmp_isNaN_int p1x0) = true then
      (1 : Int)
    else
      if p0x0 < p1x0 then
        (-1 : Int)
      else
        if p1x0 < p0x0 then
          (1 : Int)
        else
          (0 : Int)

noncomputable def cmp_Or_int_b1 (p0x0 : List Int) (n2 : Int) : Option (Int ⊕ Int) :=
  if n2 < (p0x0.length : Int) then
    (idx p0x0 n2).bind fun v3 =>
    if v3 ≠ (0 : Int) then
      Option.map .inr (some v3)
    else
      some (.inl (w64 (n2 + (1 : Int))))
  else
    Option.map .inr (some (0 : Int))

noncomputable def cmp_Or_int_l1 (p0x0 : List Int) (n2 : Int) : Option Int :=
  iter (fun x : Int => cmp_Or_int_b1 p0x0 x) n2

noncomputable def cmp_Or_int (p0x0 : List Int) : Option Int :=
  cmp_Or_int_l1 p0x0 (0 : Int)

noncomputable def series_byDevice (p0x0 : Sample) (p1x0 : Sample) : Option Int :=
  (cmp_Or_int [(Lib.compareBytes p0x0.Device p1x0.Device), (Lib.compareBytes p0x0.Metric p1x0.Metric), (cmp_Compare_int p0x0.At p1x0.At)]).bind fun v3 =>
  some v3

noncomputable def series_Check_j3 (n2 : Int) (c9 : Bool) : Option (Int ⊕ Int) :=
  if c9 = true then
    Option.map .inr (some (7 : Int))
  else
    some (.inl (w64 (n2 + (1 : Int))))

noncomputable def series_Check_j2 (p0x0 : List Sample) (n2 : Int) (v3 : Sample) (c8 : Bool) : Option (Int ⊕ Int) :=
  if c8 = true then
    Option.map .inr (some (1 : Int))
  else
    if (0 : Int) < n2 then
      (idx p0x0 (w64 (n2 - (1 : Int)))).bind fun v10 =>
      (series_byDevice v3 v10).bind fun v11 =>
      series_Check_j3 n2 (decide (v11 ≤ (0 : Int)))
    else
      series_Check_j3 n2 false

noncomputable def series_Check_j1 (p0x0 : List Sample) (n2 : Int) (v3 : Sample) (c5 : Bool) : Option (Int ⊕ Int) :=
  if c5 = true then
    Option.map .inr (some (5 : Int))
  else
    series_Check_j2 p0x0 n2 v3 ((!(base_Moment v3.At)) || (base_Out v3.Value (-1000000000 : Int) (1000000000 : Int)))

noncomputable def series_Check_b1 (p0x0 : List Sample) (n2 : Int) : Option (Int ⊕ Int) :=
  if n2 < (p0x0.length : Int) then
    (idx p0x0 n2).bind fun v3 =>
    (base_Key v3.Device).bind fun v6 =>
    if (!v6) = true then
      series_Check_j1 p0x0 n2 v3 true
    else
      (base_Key v3.Metric).bind fun v7 =>
      series_Check_j1 p0x0 n2 v3 (!v7)
  else
    Option.map .inr (some (0 : Int))

noncomputable def series_Check_l1 (p0x0 : List Sample) (n2 : Int) : Option Int :=
  iter (fun x : Int => series_Check_b1 p0x0 x) n2

noncomputable def series_Check (p0x0 : List Sample) : Option Int :=
  if (5000 : Int) < (p0x0.length : Int) then
    some (2 : Int)
  else
    series_Check_l1 p0x0 (0 : Int)

noncomputable def series_CheckSeries_1x_j1 (c2 : Bool) : Option Bool :=
  some c2

noncomputable def series_CheckSeries_1x (p0x0 : Sample) (p1x0 : List Sample) : Option Bool :=
  (idx p1x0 (0 : Int)).bind fun v3 =>
  if p0x0.Device ≠ v3.Device then
    series_CheckSeries_1x_j1 true
  else
    (idx p1x0 (0 : Int)).bind fun v4 =>
    series_CheckSeries_1x_j1 (decide (p0x0.Metric ≠ v4.Metric))

noncomputable def slices_IndexFunc_Sample_Sample_b1 (p0x0 : List Sample) (fnb : Sample → Option Bool) (n2 : Int) : Option (Int ⊕ Int) :=
  if n2 < (p0x0.length : Int) then
    (idx p0x0 n2).bind fun v3 =>
    (fnb v3).bind fun v4 =>
    if v4 = true then
      Option.map .inr (some n2)
    else
      some (.inl (w64 (n2 + (1 : Int))))
  else
    Option.map .inr (some (-1 : Int))

noncomputable def slices_IndexFunc_Sample_Sample_l1 (p0x0 : List Sample) (fnb : Sample → Option Bool) (n2 : Int) : Option Int :=
  iter (fun x : Int => slices_IndexFunc_Sample_Sample_b1 p0x0 fnb x) n2

noncomputable def slices_IndexFunc_Sample_Sample (p0x0 : List Sample) (fnb : Sample → Option Bool) : Option Int :=
  slices_IndexFunc_Sample_Sample_l1 p0x0 fnb (0 : Int)

noncomputable def slices_ContainsFunc_Sample_Sample (p0x0 : List Sample) (fnb : Sample → Option Bool) : Option Bool :=
  (slices_IndexFunc_Sample_Sample p0x0 fnb).bind fun v1 =>
  some (decide ((0 : Int) ≤ v1))

noncomputable def series_CheckSeries (p0x0 : List Sample) : Option Int :=
  (series_Check p0x0).bind fun v2 =>
  if v2 ≠ (0 : Int) then
    some v2
  else
    (slices_ContainsFunc_Sample_Sample p0x0 (fun y0 => series_CheckSeries_1x y0 p0x0)).bind fun v3 =>
    if v3 = true then
      some (13 : Int)
    else
      some (0 : Int)

noncomputable def base_Window_j1 (c2 : Bool) : Bool :=
  c2

noncomputable def base_Window (p0x0 : Window) : Bool :=
  base_Window_j1 ((!(base_Out p0x0.From (0 : Int) p0x0.To)) && (decide (p0x0.To ≤ (345686400000 : Int))))

noncomputable def series_fault_j2 (n4 : Int) : Option Int :=
  some n4

noncomputable def series_fault_j1 (v2 : Int) (c3 : Bool) : Option Int :=
  if c3 = true then
    series_fault_j2 (1 : Int)
  else
    series_fault_j2 v2

noncomputable def series_fault (p0x0 : List Sample) (p1x0 : Window) : Option Int :=
  (series_CheckSeries p0x0).bind fun v2 =>
  series_fault_j1 v2 ((decide (v2 = (0 : Int))) && (!(base_Window p1x0)))

noncomputable def series_in_j1 (c2 : Bool) : Bool :=
  c2

noncomputable def series_in (p0x0 : Window) (p1x0 : Int) : Bool :=
  series_in_j1 ((decide (p0x0.From ≤ p1x0)) && (decide (p1x0 < p0x0.To)))

noncomputable def series_added_n0x (p1x0 : Bucket) : Option (List Bucket) :=
  if (w64 ((0 : Int) - (1 : Int))) < (0 : Int) then
    (app ([] : List Bucket) [p1x0]).bind fun l3 =>
    some l3
  else
    (idx ([] : List Bucket) (w64 ((0 : Int) - (1 : Int)))).bind fun v2 =>
    none

noncomputable def series_added_o0x_j1 (p0x0 : List Bucket) (p1x0 : Bucket) (c2 : Bool) : Option (List Bucket) :=
  if c2 = true then
    (app p0x0 [p1x0]).bind fun l4 =>
    some l4
  else
    (idx p0x0 (w64 ((p0x0.length : Int) - (1 : Int)))).bind fun v6 =>
    some (((((p0x0.set (w64 ((p0x0.length : Int) - (1 : Int))).toNat (⟨v6.Time, w64 (v6.Count + p1x0.Count), v6.Sum, v6.Min, v6.Max, v6.First, v6.Last⟩ : Bucket)).set (w64 ((p0x0.length : Int) - (1 : Int))).toNat (⟨v6.Time, w64 (v6.Count + p1x0.Count), w64 (v6.Sum + p1x0.Sum), v6.Min, v6.Max, v6.First, v6.Last⟩ : Bucket)).set (w64 ((p0x0.length : Int) - (1 : Int))).toNat (⟨v6.Time, w64 (v6.Count + p1x0.Count), w64 (v6.Sum + p1x0.Sum), min v6.Min p1x0.Min, v6.Max, v6.First, v6.Last⟩ : Bucket)).set (w64 ((p0x0.length : Int) - (1 : Int))).toNat (⟨v6.Time, w64 (v6.Count + p1x0.Count), w64 (v6.Sum + p1x0.Sum), min v6.Min p1x0.Min, max v6.Max p1x0.Max, v6.First, v6.Last⟩ : Bucket)).set (w64 ((p0x0.length : Int) - (1 : Int))).toNat (⟨v6.Time, w64 (v6.Count + p1x0.Count), w64 (v6.Sum + p1x0.Sum), min v6.Min p1x0.Min, max v6.Max p1x0.Max, v6.First, p1x0.Last⟩ : Bucket))

noncomputable def series_added_o0x (p0x0 : List Bucket) (p1x0 : Bucket) : Option (List Bucket) :=
  if (w64 ((p0x0.length : Int) - (1 : Int))) < (0 : Int) then
    series_added_o0x_j1 p0x0 p1x0 true
  else
    (idx p0x0 (w64 ((p0x0.length : Int) - (1 : Int)))).bind fun v3 =>
    series_added_o0x_j1 p0x0 p1x0 (decide (v3.Time ≠ p1x0.Time))

noncomputable def series_Buckets_j1 (n10 : Int) (l15 : List Bucket) : Option (((List Bucket) × Int) ⊕ ((List Bucket) × Int)) :=
  some (.inl (l15, w64 (n10 + (1 : Int))))

noncomputable def series_Buckets_b1 (p0x0 : List Sample) (p1x0 : Window) (p2x0 : Int) (l9 : List Bucket) (n10 : Int) : Option (((List Bucket) × Int) ⊕ ((List Bucket) × Int)) :=
  if n10 < (p0x0.length : Int) then
    (idx p0x0 n10).bind fun v12 =>
    if (series_in p1x0 v12.At) = true then
      (quo v12.At p2x0).bind fun n16 =>
      (series_added_o0x l9 (⟨(⟨w64 (n16 * p2x0), w64 ((w64 (n16 * p2x0)) + p2x0)⟩ : Window), (1 : Int), v12.Value, v12.Value, v12.Value, v12.Value, v12.Value⟩ : Bucket)).bind fun v17 =>
      series_Buckets_j1 n10 v17
    else
      series_Buckets_j1 n10 l9
  else
    Option.map .inr (some (l9, (0 : Int)))

noncomputable def series_Buckets_l1 (p0x0 : List Sample) (p1x0 : Window) (p2x0 : Int) (l9 : List Bucket) (n10 : Int) : Option ((List Bucket) × Int) :=
  iter (fun x : (List Bucket) × Int => series_Buckets_b1 p0x0 p1x0 p2x0 x.1 x.2) (l9, n10)

noncomputable def series_Buckets (p0x0 : List Sample) (p1x0 : Window) (p2x0 : Int) : Option ((List Bucket) × Int) :=
  (series_fault p0x0 p1x0).bind fun v2 =>
  if v2 ≠ (0 : Int) then
    some ([], v2)
  else
    if (base_Out p2x0 (1 : Int) (345686400000 : Int)) = true then
      some ([], (1 : Int))
    else
      series_Buckets_l1 p0x0 p1x0 p2x0 [] (0 : Int)

noncomputable def Q_in_j1 (c1 : Bool) : Bool :=
  c1

noncomputable def Q_in (p0x0 : Int) (p1x0 : Int) (p2x0 : Int) : Bool :=
  Q_in_j1 ((decide (p1x0 ≤ p0x0)) && (decide (p0x0 ≤ p2x0)))

noncomputable def Q_only_b1 (p0x0 : Str) (p1x0 : Str) (n2 : Int) : Option (Int ⊕ Bool) :=
  if n2 < (p0x0.length : Int) then
    (idx p0x0 n2).bind fun c3 =>
    if (indexByteI p1x0 (c3.toNat : Int)) < (0 : Int) then
      Option.map .inr (some false)
    else
      some (.inl (w64 (n2 + (1 : Int))))
  else
    Option.map .inr (some true)

noncomputable def Q_only_l1 (p0x0 : Str) (p1x0 : Str) (n2 : Int) : Option Bool :=
  iter (fun x : Int => Q_only_b1 p0x0 p1x0 x) n2

noncomputable def Q_only (p0x0 : Str) (p1x0 : Str) : Option Bool :=
  Q_only_l1 p0x0 p1x0 (0 : Int)

noncomputable def Q_Key_j1 (c1 : Bool) : Option Bool :=
  some c1

noncomputable def Q_Key (p0x0 : Str) : Option Bool :=
  if (Q_in (p0x0.length : Int) (1 : Int) (40 : Int)) = true then
    (slc p0x0 (0 : Int) (1 : Int)).bind fun l2 =>
    (Q_only l2 ([97, 98, 99, 100, 101, 102, 103, 104, 105, 106, 107, 108, 109, 110, 111, 112, 113, 114, 115, 116, 117, 118, 119, 120, 121, 122] : Str)).bind fun v3 =>
    if v3 = true then
      (Q_only p0x0 ([97, 98, 99, 100, 101, 102, 103, 104, 105, 106, 107, 108, 109, 110, 111, 112, 113, 114, 115, 116, 117, 118, 119, 120, 121, 122, 48, 49, 50, 51, 52, 53, 54, 55, 56, 57, 45, 95] : Str)).bind fun v4 =>
      Q_Key_j1 v4
    else
      Q_Key_j1 false
  else
    Q_Key_j1 false

noncomputable def Q_Moment (p0x0 : Int) : Bool :=
  (Q_in p0x0 (0 : Int) (345686399999 : Int))

noncomputable def cmp_isNaN_string (p0x0 : Str) : Bool :=
  decide (p0x0 ≠ p0x0)

noncomputable def cmp_Compare_string (p0x0 : Str) (p1x0 : Str) : Int :=
  if (cmp_isNaN_string p0x0) = true then
    if (cmp_isNaN_string p1x0) = true then
      (0 : Int)
    else
      (-1 : Int)
  else
    if (cmp_isNaN_string p1x0) = true then
      (1 : Int)
    else
      if (Op.bytesLess p0x0 p1x0) = true then
        (-1 : Int)
      else
        if (!(Op.bytesLess p0x0 p1x0 || p0x0 == p1x0)) = true then
          (1 : Int)
        else
          (0 : Int)

noncomputable def slices_Compare_string_string_k1 (p0x0 : List Str) (p1x0 : List Str) : Option Int :=
  if (p0x0.length : Int) < (p1x0.length : Int) then
    some (-1 : Int)
  else
    some (0 : Int)

noncomputable def slices_Compare_string_string_b1 (p0x0 : List Str) (p1x0 : List Str) (n2 : Int) : Option (Int ⊕ Int) :=
  if n2 < (p0x0.length : Int) then
    (idx p0x0 n2).bind fun v3 =>
    if (p1x0.length : Int) ≤ n2 then
      Option.map .inr (some (1 : Int))
    else
      (idx p1x0 n2).bind fun v4 =>
      if (cmp_Compare_string v3 v4) ≠ (0 : Int) then
        Option.map .inr (some (cmp_Compare_string v3 v4))
      else
        some (.inl (w64 (n2 + (1 : Int))))
  else
    Option.map .inr (slices_Compare_string_string_k1 p0x0 p1x0)

noncomputable def slices_Compare_string_string_l1 (p0x0 : List Str) (p1x0 : List Str) (n2 : Int) : Option Int :=
  iter (fun x : Int => slices_Compare_string_string_b1 p0x0 p1x0 x) n2

noncomputable def slices_Compare_string_string (p0x0 : List Str) (p1x0 : List Str) : Option Int :=
  slices_Compare_string_string_l1 p0x0 p1x0 (0 : Int)

noncomputable def Q_sign (p0x0 : Int) : Int :=
  if p0x0 < (0 : Int) then
    (-1 : Int)
  else
    if (0 : Int) < p0x0 then
      (1 : Int)
    else
      (0 : Int)

noncomputable def Q_SampleOrder (p0x0 : Sample) (p1x0 : Sample) : Option Int :=
  (slices_Compare_string_string [p0x0.Device, p0x0.Metric] [p1x0.Device, p1x0.Metric]).bind fun v3 =>
  if v3 ≠ (0 : Int) then
    some v3
  else
    some (Q_sign (w64 (p0x0.At - p1x0.At)))

noncomputable def Q_SamplesFault_j3 (n2 : Int) (c9 : Bool) : Option (Int ⊕ Int) :=
  if c9 = true then
    Option.map .inr (some (7 : Int))
  else
    some (.inl (w64 (n2 + (1 : Int))))

noncomputable def Q_SamplesFault_j2 (p0x0 : List Sample) (n2 : Int) (v3 : Sample) (c8 : Bool) : Option (Int ⊕ Int) :=
  if c8 = true then
    Option.map .inr (some (1 : Int))
  else
    if (0 : Int) < n2 then
      (idx p0x0 (w64 (n2 - (1 : Int)))).bind fun v10 =>
      (Q_SampleOrder v10 v3).bind fun v11 =>
      Q_SamplesFault_j3 n2 (decide ((0 : Int) ≤ v11))
    else
      Q_SamplesFault_j3 n2 false

noncomputable def Q_SamplesFault_j1 (p0x0 : List Sample) (n2 : Int) (v3 : Sample) (c5 : Bool) : Option (Int ⊕ Int) :=
  if c5 = true then
    Option.map .inr (some (5 : Int))
  else
    Q_SamplesFault_j2 p0x0 n2 v3 ((!(Q_Moment v3.At)) || (!(Q_in v3.Value (-1000000000 : Int) (1000000000 : Int))))

noncomputable def Q_SamplesFault_b1 (p0x0 : List Sample) (n2 : Int) : Option (Int ⊕ Int) :=
  if n2 < (p0x0.length : Int) then
    (idx p0x0 n2).bind fun v3 =>
    (Q_Key v3.Device).bind fun v6 =>
    if (!v6) = true then
      Q_SamplesFault_j1 p0x0 n2 v3 true
    else
      (Q_Key v3.Metric).bind fun v7 =>
      Q_SamplesFault_j1 p0x0 n2 v3 (!v7)
  else
    Option.map .inr (some (0 : Int))

noncomputable def Q_SamplesFault_l1 (p0x0 : List Sample) (n2 : Int) : Option Int :=
  iter (fun x : Int => Q_SamplesFault_b1 p0x0 x) n2

noncomputable def Q_SamplesFault (p0x0 : List Sample) : Option Int :=
  if (5000 : Int) < (p0x0.length : Int) then
    some (2 : Int)
  else
    Q_SamplesFault_l1 p0x0 (0 : Int)

noncomputable def Q_SeriesFault_1x_j1 (c2 : Bool) : Option Bool :=
  some c2

noncomputable def Q_SeriesFault_1x (p0x0 : Sample) (p1x0 : List Sample) : Option Bool :=
  (idx p1x0 (0 : Int)).bind fun v3 =>
  if p0x0.Device ≠ v3.Device then
    Q_SeriesFault_1x_j1 true
  else
    (idx p1x0 (0 : Int)).bind fun v4 =>
    Q_SeriesFault_1x_j1 (decide (p0x0.Metric ≠ v4.Metric))

noncomputable def Q_SeriesFault (p0x0 : List Sample) : Option Int :=
  (Q_SamplesFault p0x0).bind fun v2 =>
  if v2 ≠ (0 : Int) then
    some v2
  else
    (slices_ContainsFunc_Sample_Sample p0x0 (fun y0 => Q_SeriesFault_1x y0 p0x0)).bind fun v3 =>
    if v3 = true then
      some (13 : Int)
    else
      some (0 : Int)

noncomputable def Q_WindowFault_j1 (c2 : Bool) : Int :=
  if c2 = true then
    (1 : Int)
  else
    (0 : Int)

noncomputable def Q_WindowFault (p0x0 : Window) : Int :=
  Q_WindowFault_j1 ((!(Q_in p0x0.From (0 : Int) p0x0.To)) || (decide ((345686400000 : Int) < p0x0.To)))

noncomputable def L_when (p0x0 : Bool) (p1x0 : Int) : Int :=
  if p0x0 = true then
    p1x0
  else
    (0 : Int)

noncomputable def L_errs_b1 (p0x0 : List Int) (n2 : Int) : Option (Int ⊕ Int) :=
  if n2 < (p0x0.length : Int) then
    (idx p0x0 n2).bind fun v3 =>
    if v3 ≠ (0 : Int) then
      Option.map .inr (some v3)
    else
      some (.inl (w64 (n2 + (1 : Int))))
  else
    Option.map .inr (some (0 : Int))

noncomputable def L_errs_l1 (p0x0 : List Int) (n2 : Int) : Option Int :=
  iter (fun x : Int => L_errs_b1 p0x0 x) n2

noncomputable def L_errs (p0x0 : List Int) : Option Int :=
  L_errs_l1 p0x0 (0 : Int)

noncomputable def Q_within_j1 (c2 : Bool) : Bool :=
  c2

noncomputable def Q_within (p0x0 : Int) (p1x0 : Window) : Bool :=
  Q_within_j1 ((decide (p1x0.From ≤ p0x0)) && (decide (p0x0 < p1x0.To)))

noncomputable def slices_Min_int_int_b1 (p0x0 : List Int) (n4 : Int) (n5 : Int) : Option ((Int × Int) ⊕ Int) :=
  if n5 < (p0x0.length : Int) then
    (idx p0x0 n5).bind fun v6 =>
    some (.inl (min n4 v6, w64 (n5 + (1 : Int))))
  else
    Option.map .inr (some n4)

noncomputable def slices_Min_int_int_l1 (p0x0 : List Int) (n4 : Int) (n5 : Int) : Option Int :=
  iter (fun x : Int × Int => slices_Min_int_int_b1 p0x0 x.1 x.2) (n4, n5)

noncomputable def slices_Min_int_int (p0x0 : List Int) : Option Int :=
  if (p0x0.length : Int) < (1 : Int) then
    none
  else
    (idx p0x0 (0 : Int)).bind fun v1 =>
    slices_Min_int_int_l1 p0x0 v1 (1 : Int)

noncomputable def slices_Max_int_int_b1 (p0x0 : List Int) (n4 : Int) (n5 : Int) : Option ((Int × Int) ⊕ Int) :=
  if n5 < (p0x0.length : Int) then
    (idx p0x0 n5).bind fun v6 =>
    some (.inl (max n4 v6, w64 (n5 + (1 : Int))))
  else
    Option.map .inr (some n4)

noncomputable def slices_Max_int_int_l1 (p0x0 : List Int) (n4 : Int) (n5 : Int) : Option Int :=
  iter (fun x : Int × Int => slices_Max_int_int_b1 p0x0 x.1 x.2) (n4, n5)

noncomputable def slices_Max_int_int (p0x0 : List Int) : Option Int :=
  if (p0x0.length : Int) < (1 : Int) then
    none
  else
    (idx p0x0 (0 : Int)).bind fun v1 =>
    slices_Max_int_int_l1 p0x0 v1 (1 : Int)

noncomputable def Q_bucketOf_b1 (p0x0 : Window) (p1x0 : List Int) (v3 : Int) (v4 : Int) (v5 : Int) (v6 : Int) (n10 : Int) (n11 : Int) : Option ((Int × Int) ⊕ Bucket) :=
  if n11 < (p1x0.length : Int) then
    (idx p1x0 n11).bind fun v12 =>
    some (.inl (w64 (n10 + v12), w64 (n11 + (1 : Int))))
  else
    Option.map .inr (some (⟨p0x0, (p1x0.length : Int), n10, v3, v4, v5, v6⟩ : Bucket))

noncomputable def Q_bucketOf_l1 (p0x0 : Window) (p1x0 : List Int) (v3 : Int) (v4 : Int) (v5 : Int) (v6 : Int) (n10 : Int) (n11 : Int) : Option Bucket :=
  iter (fun x : Int × Int => Q_bucketOf_b1 p0x0 p1x0 v3 v4 v5 v6 x.1 x.2) (n10, n11)

noncomputable def Q_bucketOf (p0x0 : Window) (p1x0 : List Int) : Option Bucket :=
  (slices_Min_int_int p1x0).bind fun v3 =>
  (slices_Max_int_int p1x0).bind fun v4 =>
  (idx p1x0 (0 : Int)).bind fun v5 =>
  (idx p1x0 (w64 ((p1x0.length : Int) - (1 : Int)))).bind fun v6 =>
  Q_bucketOf_l1 p0x0 p1x0 v3 v4 v5 v6 (0 : Int) (0 : Int)

noncomputable def Q_BucketsOf_j1 (n13 : Int) (l15 : List (Int × (List Int))) (l18 : List Int) : Option (((List (Int × (List Int))) × (List Int) × Int) ⊕ (List Bucket)) :=
  some (.inl (l15, l18, w64 (n13 + (1 : Int))))

noncomputable def Q_BucketsOf_j2 (l9 : List (Int × (List Int))) (n13 : Int) (v19 : Sample) (n21 : Int) (l25 : List Int) : Option (((List (Int × (List Int))) × (List Int) × Int) ⊕ (List Bucket)) :=
  (mgetO l9 n21 []).bind fun v28 =>
  (app v28 [v19.Value]).bind fun l30 =>
  Q_BucketsOf_j1 n13 (mset l9 n21 l30) l25

noncomputable def Q_BucketsOf_b2 (p2x0 : Int) (l9 : List (Int × (List Int))) (l12 : List Int) (l36 : List Bucket) (n37 : Int) : Option (((List Bucket) × Int) ⊕ (List Bucket)) :=
  if n37 < (l12.length : Int) then
    (idx l12 n37).bind fun v39 =>
    (mgetO l9 v39 []).bind fun v40 =>
    (Q_bucketOf (⟨w64 (v39 * p2x0), w64 ((w64 (v39 + (1 : Int))) * p2x0)⟩ : Window) v40).bind fun v42 =>
    (app l36 [v42]).bind fun l43 =>
    some (.inl (l43, w64 (n37 + (1 : Int))))
  else
    Option.map .inr (some l36)

noncomputable def Q_BucketsOf_l2 (p2x0 : Int) (l9 : List (Int × (List Int))) (l12 : List Int) (l36 : List Bucket) (n37 : Int) : Option (List Bucket) :=
  iter (fun x : (List Bucket) × Int => Q_BucketsOf_b2 p2x0 l9 l12 x.1 x.2) (l36, n37)

noncomputable def Q_BucketsOf_b1 (p0x0 : List Sample) (p1x0 : Window) (p2x0 : Int) (l9 : List (Int × (List Int))) (l12 : List Int) (n13 : Int) : Option (((List (Int × (List Int))) × (List Int) × Int) ⊕ (List Bucket)) :=
  if n13 < (p0x0.length : Int) then
    (idx p0x0 n13).bind fun v19 =>
    if (!(Q_within v19.At p1x0)) = true then
      Q_BucketsOf_j1 n13 l9 l12
    else
      (quo v19.At p2x0).bind fun n21 =>
      (mgetO l9 n21 []).bind fun v22 =>
      if (v22.length : Int) = (0 : Int) then
        (app l12 [n21]).bind fun l26 =>
        Q_BucketsOf_j2 l9 n13 v19 n21 l26
      else
        Q_BucketsOf_j2 l9 n13 v19 n21 l12
  else
    Option.map .inr (Q_BucketsOf_l2 p2x0 l9 l12 [] (0 : Int))

noncomputable def Q_BucketsOf_l1 (p0x0 : List Sample) (p1x0 : Window) (p2x0 : Int) (l9 : List (Int × (List Int))) (l12 : List Int) (n13 : Int) : Option (List Bucket) :=
  iter (fun x : (List (Int × (List Int))) × (List Int) × Int => Q_BucketsOf_b1 p0x0 p1x0 p2x0 x.1 x.2.1 x.2.2) (l9, l12, n13)

noncomputable def Q_BucketsOf (p0x0 : List Sample) (p1x0 : Window) (p2x0 : Int) : Option (List Bucket) :=
  Q_BucketsOf_l1 p0x0 p1x0 p2x0 [] [] (0 : Int)

noncomputable def slices_Equal_Bucket_Bucket_b1 (p0x0 : List Bucket) (p1x0 : List Bucket) (n2 : Int) : Option (Int ⊕ Bool) :=
  if n2 < (p0x0.length : Int) then
    (idx p0x0 n2).bind fun v3 =>
    (idx p1x0 n2).bind fun v4 =>
    if v3 ≠ v4 then
      Option.map .inr (some false)
    else
      some (.inl (w64 (n2 + (1 : Int))))
  else
    Option.map .inr (some true)

noncomputable def slices_Equal_Bucket_Bucket_l1 (p0x0 : List Bucket) (p1x0 : List Bucket) (n2 : Int) : Option Bool :=
  iter (fun x : Int => slices_Equal_Bucket_Bucket_b1 p0x0 p1x0 x) n2

noncomputable def slices_Equal_Bucket_Bucket (p0x0 : List Bucket) (p1x0 : List Bucket) : Option Bool :=
  if (p0x0.length : Int) ≠ (p1x0.length : Int) then
    some false
  else
    slices_Equal_Bucket_Bucket_l1 p0x0 p1x0 (0 : Int)

noncomputable def Stream_RightBuckets (p0x0 : Fleetmake_Stream) (p1x0 : Int) : Option ((List Bucket) × Fleetmake_Stream) :=
  (Stream_RightSeries p0x0 (10 : Int) (-100 : Int)).bind fun v1 =>
  (Q_BucketsOf v1.1 (⟨(0 : Int), (5000 : Int)⟩ : Window) p1x0).bind fun v3 =>
  some (v3, v1.2)

noncomputable def Stream_SpoiltBuckets_j1 (l4 : List Int) (n5 : Int) (l6 : List Bucket) : Option ((List Bucket) × Fleetmake_Stream) :=
  some (l6, (⟨l4, n5⟩ : Fleetmake_Stream))

noncomputable def Stream_SpoiltBuckets_j2 (l8 : List Int) (n9 : Int) (l10 : List Bucket) : Option ((List Bucket) × Fleetmake_Stream) :=
  Stream_SpoiltBuckets_j1 l8 n9 l10

noncomputable def Stream_SpoiltBuckets_j3 (l12 : List Int) (n13 : Int) (l14 : List Bucket) : Option ((List Bucket) × Fleetmake_Stream) :=
  Stream_SpoiltBuckets_j2 l12 n13 l14

noncomputable def Stream_SpoiltBuckets_j4 (l16 : List Int) (n17 : Int) (l18 : List Bucket) : Option ((List Bucket) × Fleetmake_Stream) :=
  Stream_SpoiltBuckets_j3 l16 n17 l18

noncomputable def Stream_SpoiltBuckets_j5 (l20 : List Int) (n21 : Int) (l22 : List Bucket) : Option ((List Bucket) × Fleetmake_Stream) :=
  Stream_SpoiltBuckets_j4 l20 n21 l22

noncomputable def Stream_SpoiltBuckets (p0x0 : Fleetmake_Stream) (p1x0 : List Bucket) : Option ((List Bucket) × Fleetmake_Stream) :=
  if (p1x0.length : Int) = (0 : Int) then
    some (p1x0, p0x0)
  else
    (Stream_Next p0x0 (p1x0.length : Int)).bind fun v1 =>
    (idx p1x0 v1.1).bind fun v2 =>
    (Stream_Next v1.2 (6 : Int)).bind fun v3 =>
    if v3.1 = (0 : Int) then
      (Stream_Odd v3.2 (0 : Int) (100 : Int)).bind fun v7 =>
      Stream_SpoiltBuckets_j1 v7.2.L v7.2.at_ (p1x0.set v1.1.toNat (⟨(⟨v7.1, v2.Time.To⟩ : Window), v2.Count, v2.Sum, v2.Min, v2.Max, v2.First, v2.Last⟩ : Bucket))
    else
      if v3.1 = (1 : Int) then
        (Stream_Odd v3.2 (0 : Int) (100 : Int)).bind fun v11 =>
        Stream_SpoiltBuckets_j2 v11.2.L v11.2.at_ (p1x0.set v1.1.toNat (⟨(⟨v2.Time.From, v11.1⟩ : Window), v2.Count, v2.Sum, v2.Min, v2.Max, v2.First, v2.Last⟩ : Bucket))
      else
        if v3.1 = (2 : Int) then
          (Stream_Odd v3.2 (1 : Int) (5000 : Int)).bind fun v15 =>
          Stream_SpoiltBuckets_j3 v15.2.L v15.2.at_ (p1x0.set v1.1.toNat (⟨v2.Time, v15.1, v2.Sum, v2.Min, v2.Max, v2.First, v2.Last⟩ : Bucket))
        else
          if v3.1 = (3 : Int) then
            (Stream_Odd v3.2 (-100 : Int) (1000 : Int)).bind fun v19 =>
            Stream_SpoiltBuckets_j4 v19.2.L v19.2.at_ (p1x0.set v1.1.toNat (⟨v2.Time, v2.Count, v19.1, v2.Min, v2.Max, v2.First, v2.Last⟩ : Bucket))
          else
            if v3.1 = (4 : Int) then
              (Stream_Odd v3.2 (-100 : Int) (9 : Int)).bind fun v23 =>
              (Stream_Odd v23.2 (-100 : Int) (9 : Int)).bind fun v24 =>
              Stream_SpoiltBuckets_j5 v24.2.L v24.2.at_ ((p1x0.set v1.1.toNat (⟨v2.Time, v2.Count, v2.Sum, v23.1, v2.Max, v2.First, v2.Last⟩ : Bucket)).set v1.1.toNat (⟨v2.Time, v2.Count, v2.Sum, v23.1, v24.1, v2.First, v2.Last⟩ : Bucket))
            else
              (Stream_Odd v3.2 (-100 : Int) (100 : Int)).bind fun v25 =>
              (Stream_Odd v25.2 (-100 : Int) (100 : Int)).bind fun v26 =>
              Stream_SpoiltBuckets_j5 v26.2.L v26.2.at_ ((p1x0.set v1.1.toNat (⟨v2.Time, v2.Count, v2.Sum, v2.Min, v2.Max, v25.1, v2.Last⟩ : Bucket)).set v1.1.toNat (⟨v2.Time, v2.Count, v2.Sum, v2.Min, v2.Max, v25.1, v26.1⟩ : Bucket))

noncomputable def series_CheckBuckets_j5 (n2 : Int) (c13 : Bool) : Option (Int ⊕ Int) :=
  if c13 = true then
    Option.map .inr (some (7 : Int))
  else
    some (.inl (w64 (n2 + (1 : Int))))

noncomputable def series_CheckBuckets_j4 (p0x0 : List Bucket) (n2 : Int) (v3 : Bucket) (c12 : Bool) : Option (Int ⊕ Int) :=
  if c12 = true then
    Option.map .inr (some (1 : Int))
  else
    if (base_Out v3.Sum (w64 (v3.Count * v3.Min)) (w64 (v3.Count * v3.Max))) = true then
      Option.map .inr (some (3 : Int))
    else
      if (0 : Int) < n2 then
        (idx p0x0 (w64 (n2 - (1 : Int)))).bind fun v14 =>
        series_CheckBuckets_j5 n2 (decide (v3.Time.From ≤ v14.Time.From))
      else
        series_CheckBuckets_j5 n2 false

noncomputable def series_CheckBuckets_j3 (p0x0 : List Bucket) (n2 : Int) (v3 : Bucket) (c11 : Bool) : Option (Int ⊕ Int) :=
  if c11 = true then
    Option.map .inr (some (3 : Int))
  else
    series_CheckBuckets_j4 p0x0 n2 v3 ((decide (v3.Min < (-1000000000 : Int))) || (decide ((1000000000 : Int) < v3.Max)))

noncomputable def series_CheckBuckets_j2 (p0x0 : List Bucket) (n2 : Int) (v3 : Bucket) (c7 : Bool) : Option (Int ⊕ Int) :=
  if c7 = true then
    Option.map .inr (some (3 : Int))
  else
    if (base_Out v3.Count (1 : Int) (5000 : Int)) = true then
      Option.map .inr (some (1 : Int))
    else
      series_CheckBuckets_j3 p0x0 n2 v3 ((decide (v3.Max < v3.Min)) || ((base_Out v3.First v3.Min v3.Max) || (base_Out v3.Last v3.Min v3.Max)))

noncomputable def series_CheckBuckets_j1 (p0x0 : List Bucket) (n2 : Int) (v3 : Bucket) (c6 : Bool) : Option (Int ⊕ Int) :=
  if c6 = true then
    Option.map .inr (some (1 : Int))
  else
    (idx p0x0 (0 : Int)).bind fun v8 =>
    (idx p0x0 (0 : Int)).bind fun v9 =>
    if (w64 (v3.Time.To - v3.Time.From)) ≠ (w64 (v8.Time.To - v9.Time.From)) then
      series_CheckBuckets_j2 p0x0 n2 v3 true
    else
      (rem v3.Time.From (w64 (v3.Time.To - v3.Time.From))).bind fun n10 =>
      series_CheckBuckets_j2 p0x0 n2 v3 (decide (n10 ≠ (0 : Int)))

noncomputable def series_CheckBuckets_b1 (p0x0 : List Bucket) (n2 : Int) : Option (Int ⊕ Int) :=
  if n2 < (p0x0.length : Int) then
    (idx p0x0 n2).bind fun v3 =>
    series_CheckBuckets_j1 p0x0 n2 v3 ((decide (v3.Time.From < (0 : Int))) || ((decide (v3.Time.To ≤ v3.Time.From)) || (decide ((691372800000 : Int) < v3.Time.To))))
  else
    Option.map .inr (some (0 : Int))

noncomputable def series_CheckBuckets_l1 (p0x0 : List Bucket) (n2 : Int) : Option Int :=
  iter (fun x : Int => series_CheckBuckets_b1 p0x0 x) n2

noncomputable def series_CheckBuckets (p0x0 : List Bucket) : Option Int :=
  if (5000 : Int) < (p0x0.length : Int) then
    some (2 : Int)
  else
    series_CheckBuckets_l1 p0x0 (0 : Int)

noncomputable def Q_BucketsFault_j5 (n2 : Int) (c12 : Bool) : Option (Int ⊕ Int) :=
  if c12 = true then
    Option.map .inr (some (7 : Int))
  else
    some (.inl (w64 (n2 + (1 : Int))))

noncomputable def Q_BucketsFault_j4 (p0x0 : List Bucket) (n2 : Int) (v3 : Bucket) (c11 : Bool) : Option (Int ⊕ Int) :=
  if c11 = true then
    Option.map .inr (some (1 : Int))
  else
    if (!(Q_in v3.Sum (w64 (v3.Count * v3.Min)) (w64 (v3.Count * v3.Max)))) = true then
      Option.map .inr (some (3 : Int))
    else
      if (0 : Int) < n2 then
        (idx p0x0 (w64 (n2 - (1 : Int)))).bind fun v13 =>
        Q_BucketsFault_j5 n2 (decide (v3.Time.From ≤ v13.Time.From))
      else
        Q_BucketsFault_j5 n2 false

noncomputable def Q_BucketsFault_j3 (p0x0 : List Bucket) (n2 : Int) (v3 : Bucket) (c10 : Bool) : Option (Int ⊕ Int) :=
  if c10 = true then
    Option.map .inr (some (3 : Int))
  else
    Q_BucketsFault_j4 p0x0 n2 v3 ((decide (v3.Min < (-1000000000 : Int))) || (decide ((1000000000 : Int) < v3.Max)))

noncomputable def Q_BucketsFault_j2 (p0x0 : List Bucket) (n2 : Int) (v3 : Bucket) (c6 : Bool) : Option (Int ⊕ Int) :=
  if c6 = true then
    Option.map .inr (some (3 : Int))
  else
    if (!(Q_in v3.Count (1 : Int) (5000 : Int))) = true then
      Option.map .inr (some (1 : Int))
    else
      Q_BucketsFault_j3 p0x0 n2 v3 ((decide (v3.Max < v3.Min)) || ((!(Q_in v3.First v3.Min v3.Max)) || (!(Q_in v3.Last v3.Min v3.Max))))

noncomputable def Q_BucketsFault_j1 (p0x0 : List Bucket) (n2 : Int) (v3 : Bucket) (c5 : Bool) : Option (Int ⊕ Int) :=
  if c5 = true then
    Option.map .inr (some (1 : Int))
  else
    (idx p0x0 (0 : Int)).bind fun v7 =>
    (idx p0x0 (0 : Int)).bind fun v8 =>
    if (w64 (v3.Time.To - v3.Time.From)) ≠ (w64 (v7.Time.To - v8.Time.From)) then
      Q_BucketsFault_j2 p0x0 n2 v3 true
    else
      (rem v3.Time.From (w64 (v3.Time.To - v3.Time.From))).bind fun n9 =>
      Q_BucketsFault_j2 p0x0 n2 v3 (decide (n9 ≠ (0 : Int)))

noncomputable def Q_BucketsFault_b1 (p0x0 : List Bucket) (n2 : Int) : Option (Int ⊕ Int) :=
  if n2 < (p0x0.length : Int) then
    (idx p0x0 n2).bind fun v3 =>
    Q_BucketsFault_j1 p0x0 n2 v3 ((decide (v3.Time.From < (0 : Int))) || ((decide (v3.Time.To ≤ v3.Time.From)) || (decide ((691372800000 : Int) < v3.Time.To))))
  else
    Option.map .inr (some (0 : Int))

noncomputable def Q_BucketsFault_l1 (p0x0 : List Bucket) (n2 : Int) : Option Int :=
  iter (fun x : Int => Q_BucketsFault_b1 p0x0 x) n2

noncomputable def Q_BucketsFault (p0x0 : List Bucket) : Option Int :=
  if (5000 : Int) < (p0x0.length : Int) then
    some (2 : Int)
  else
    Q_BucketsFault_l1 p0x0 (0 : Int)

noncomputable def base_Gcd_b1 (n3 : Int) (n4 : Int) : Option ((Int × Int) ⊕ Int) :=
  if n4 ≠ (0 : Int) then
    (rem n3 n4).bind fun n5 =>
    some (.inl (n4, n5))
  else
    Option.map .inr (some n3)

noncomputable def base_Gcd_l1 (n3 : Int) (n4 : Int) : Option Int :=
  iter (fun x : Int × Int => base_Gcd_b1 x.1 x.2) (n3, n4)

noncomputable def base_Gcd (p0x0 : Int) (p1x0 : Int) : Option Int :=
  base_Gcd_l1 p0x0 p1x0

noncomputable def base_Fraction (p0x0 : Int) (p1x0 : Int) : Option Fraction :=
  (base_Gcd (max p0x0 (w64 (-p0x0))) p1x0).bind fun v2 =>
  (quo p0x0 v2).bind fun n3 =>
  (quo p1x0 v2).bind fun n4 =>
  some (⟨n3, n4⟩ : Fraction)

noncomputable def series_Mean (p0x0 : Bucket) : Option (Fraction × Int) :=
  (series_CheckBuckets [p0x0]).bind fun v3 =>
  if v3 ≠ (0 : Int) then
    some ((⟨(0 : Int), (0 : Int)⟩ : Fraction), v3)
  else
    (base_Fraction p0x0.Sum p0x0.Count).bind fun v4 =>
    some (v4, (0 : Int))

noncomputable def Q_Lowest_j1 (p0x0 : Int) (p1x0 : Int) (n7 : Int) : Option Fraction :=
  (quo p0x0 n7).bind fun n8 =>
  (quo p1x0 n7).bind fun n9 =>
  some (⟨n8, n9⟩ : Fraction)

noncomputable def Q_Lowest_k2 (p0x0 : Int) (p1x0 : Int) (n4 : Int) : Option Fraction :=
  if n4 < (0 : Int) then
    Q_Lowest_j1 p0x0 p1x0 (w64 (-n4))
  else
    Q_Lowest_j1 p0x0 p1x0 n4

noncomputable def Q_Lowest_b1 (p0x0 : Int) (p1x0 : Int) (n4 : Int) (n5 : Int) : Option ((Int × Int) ⊕ Fraction) :=
  if n5 ≠ (0 : Int) then
    (rem n4 n5).bind fun n6 =>
    some (.inl (n5, n6))
  else
    Option.map .inr (Q_Lowest_k2 p0x0 p1x0 n4)

noncomputable def Q_Lowest_l1 (p0x0 : Int) (p1x0 : Int) (n4 : Int) (n5 : Int) : Option Fraction :=
  iter (fun x : Int × Int => Q_Lowest_b1 p0x0 p1x0 x.1 x.2) (n4, n5)

noncomputable def Q_Lowest (p0x0 : Int) (p1x0 : Int) : Option Fraction :=
  Q_Lowest_l1 p0x0 p1x0 p0x0 p1x0

noncomputable def series_seven_n0x_k1 (l5 : List Int) (n6 : Int) : Option (List Int) :=
  (app l5 [IntKind.u8.wrap (n6)]).bind fun l10 =>
  some l10

noncomputable def series_seven_n0x_b1 (l5 : List Int) (n6 : Int) : Option (((List Int) × Int) ⊕ (List Int)) :=
  if (128 : Int) ≤ n6 then
    (app l5 [orI .u8 (IntKind.u8.wrap (andI .u64 n6 (127 : Int))) (128 : Int)]).bind fun l8 =>
    some (.inl (l8, shrI .u64 n6 (7 : Int)))
  else
    Option.map .inr (series_seven_n0x_k1 l5 n6)

noncomputable def series_seven_n0x_l1 (l5 : List Int) (n6 : Int) : Option (List Int) :=
  iter (fun x : (List Int) × Int => series_seven_n0x_b1 x.1 x.2) (l5, n6)

noncomputable def series_seven_n0x (p1x0 : Int) : Option (List Int) :=
  series_seven_n0x_l1 [] p1x0

noncomputable def series_doubled (p0x0 : Int) : Int :=
  if p0x0 < (0 : Int) then
    IntKind.u64.wrap (w64 ((w64 ((-2 : Int) * p0x0)) - (1 : Int)))
  else
    IntKind.u64.wrap (w64 ((2 : Int) * p0x0))

noncomputable def series_seven_o0x_k1 (l5 : List Int) (n6 : Int) : Option (List Int) :=
  (app l5 [IntKind.u8.wrap (n6)]).bind fun l9 =>
  some l9

noncomputable def series_seven_o0x_b1 (l5 : List Int) (n6 : Int) : Option (((List Int) × Int) ⊕ (List Int)) :=
  if (128 : Int) ≤ n6 then
    (app l5 [orI .u8 (IntKind.u8.wrap (andI .u64 n6 (127 : Int))) (128 : Int)]).bind fun l7 =>
    some (.inl (l7, shrI .u64 n6 (7 : Int)))
  else
    Option.map .inr (series_seven_o0x_k1 l5 n6)

noncomputable def series_seven_o0x_l1 (l5 : List Int) (n6 : Int) : Option (List Int) :=
  iter (fun x : (List Int) × Int => series_seven_o0x_b1 x.1 x.2) (l5, n6)

noncomputable def series_seven_o0x (p0x0 : List Int) (p1x0 : Int) : Option (List Int) :=
  series_seven_o0x_l1 p0x0 p1x0

noncomputable def series_pack_j1 (n14 : Int) (v15 : Sample) (v19 : (List Int)) (n21 : Int) : Option (((List Int) × Int × Int × Int × Int) ⊕ (List Int)) :=
  some (.inl (v19, v15.At, n21, v15.Value, w64 (n14 + (1 : Int))))

noncomputable def series_pack_b1 (p0x0 : List Sample) (l10 : List Int) (n11 : Int) (n12 : Int) (n13 : Int) (n14 : Int) : Option (((List Int) × Int × Int × Int × Int) ⊕ (List Int)) :=
  if n14 < (p0x0.length : Int) then
    (idx p0x0 n14).bind fun v15 =>
    (series_seven_o0x l10 (series_doubled (w64 ((w64 (v15.At - n11)) - n12)))).bind fun v17 =>
    (series_seven_o0x v17 (series_doubled (w64 (v15.Value - n13)))).bind fun v19 =>
    if (0 : Int) < n14 then
      series_pack_j1 n14 v15 v19 (w64 (v15.At - n11))
    else
      series_pack_j1 n14 v15 v19 n12
  else
    Option.map .inr (some l10)

noncomputable def series_pack_l1 (p0x0 : List Sample) (l10 : List Int) (n11 : Int) (n12 : Int) (n13 : Int) (n14 : Int) : Option (List Int) :=
  iter (fun x : (List Int) × Int × Int × Int × Int => series_pack_b1 p0x0 x.1 x.2.1 x.2.2.1 x.2.2.2.1 x.2.2.2.2) (l10, n11, n12, n13, n14)

noncomputable def series_pack (p0x0 : List Sample) : Option (List Int) :=
  (series_seven_n0x (IntKind.u64.wrap ((p0x0.length : Int)))).bind fun v1 =>
  series_pack_l1 p0x0 v1 (0 : Int) (0 : Int) (0 : Int) (0 : Int)

noncomputable def series_Pack (p0x0 : List Sample) : Option ((List Int) × Int) :=
  (series_CheckSeries p0x0).bind fun v1 =>
  if v1 ≠ (0 : Int) then
    some ([], v1)
  else
    (series_pack p0x0).bind fun v3 =>
    some (v3, (0 : Int))

noncomputable def slices_Equal_byte_byte_b1 (p0x0 : List Int) (p1x0 : List Int) (n2 : Int) : Option (Int ⊕ Bool) :=
  if n2 < (p0x0.length : Int) then
    (idx p0x0 n2).bind fun v3 =>
    (idx p1x0 n2).bind fun v4 =>
    if v3 ≠ v4 then
      Option.map .inr (some false)
    else
      some (.inl (w64 (n2 + (1 : Int))))
  else
    Option.map .inr (some true)

noncomputable def slices_Equal_byte_byte_l1 (p0x0 : List Int) (p1x0 : List Int) (n2 : Int) : Option Bool :=
  iter (fun x : Int => slices_Equal_byte_byte_b1 p0x0 p1x0 x) n2

noncomputable def slices_Equal_byte_byte (p0x0 : List Int) (p1x0 : List Int) : Option Bool :=
  if (p0x0.length : Int) ≠ (p1x0.length : Int) then
    some false
  else
    slices_Equal_byte_byte_l1 p0x0 p1x0 (0 : Int)

noncomputable def L_measured_j1 (c3 : Bool) : Option Bool :=
  some c3

noncomputable def L_measured : Option Bool :=
  (series_Pack [(⟨([100] : Str), ([109] : Str), (1 : Int), (1 : Int)⟩ : Sample)]).bind fun v1 =>
  if v1.2 = (0 : Int) then
    (slices_Equal_byte_byte v1.1 [(1 : Int), (2 : Int), (2 : Int)]).bind fun v4 =>
    L_measured_j1 v4
  else
    L_measured_j1 false

noncomputable def L_BucketsMade_j5 (n31 : Int) (c37 : Bool) : Option (Int ⊕ Bool) :=
  if c37 = true then
    Option.map .inr (some false)
  else
    some (.inl (w64 (n31 + (1 : Int))))

noncomputable def L_BucketsMade_k6 : Option Bool :=
  (L_measured).bind fun v39 =>
  some v39

noncomputable def L_BucketsMade_b1 (l25 : List Bucket) (n31 : Int) : Option (Int ⊕ Bool) :=
  if n31 < (l25.length : Int) then
    (idx l25 n31).bind fun v32 =>
    (series_Mean v32).bind fun v34 =>
    (Q_BucketsFault [v32]).bind fun v36 =>
    if v34.2 ≠ v36 then
      L_BucketsMade_j5 n31 true
    else
      if v36 = (0 : Int) then
        (Q_Lowest v32.Sum v32.Count).bind fun v38 =>
        L_BucketsMade_j5 n31 ((decide (v34.1 ≠ v38)) || ((decide (v36 ≠ (0 : Int))) && (decide (v34.1 ≠ (⟨(0 : Int), (0 : Int)⟩ : Fraction)))))
      else
        L_BucketsMade_j5 n31 ((decide (v36 ≠ (0 : Int))) && (decide (v34.1 ≠ (⟨(0 : Int), (0 : Int)⟩ : Fraction))))
  else
    Option.map .inr (L_BucketsMade_k6)

noncomputable def L_BucketsMade_l1 (l25 : List Bucket) (n31 : Int) : Option Bool :=
  iter (fun x : Int => L_BucketsMade_b1 l25 x) n31

noncomputable def L_BucketsMade_j4 (l25 : List Bucket) : Option Bool :=
  (series_CheckBuckets l25).bind fun v28 =>
  (Q_BucketsFault l25).bind fun v29 =>
  if v28 ≠ v29 then
    some false
  else
    L_BucketsMade_l1 l25 (0 : Int)

noncomputable def L_BucketsMade_j3 (v5 : Int × Fleetmake_Stream) (c18 : Bool) : Option Bool :=
  if c18 = true then
    some false
  else
    (Stream_Pick v5.2 [(1 : Int), (7 : Int), (10 : Int), (100 : Int)]).bind fun v20 =>
    (Stream_RightBuckets v20.2 v20.1).bind fun v21 =>
    (Stream_Flip v21.2 (2 : Int)).bind fun v23 =>
    if v23.1 = true then
      (Stream_SpoiltBuckets v23.2 v21.1).bind fun v26 =>
      L_BucketsMade_j4 v26.1
    else
      L_BucketsMade_j4 v21.1

noncomputable def L_BucketsMade_j2 (v5 : Int × Fleetmake_Stream) (v7 : (List Bucket) × Int) (n9 : Int) (l14 : List Bucket) : Option Bool :=
  if v7.2 ≠ n9 then
    L_BucketsMade_j3 v5 true
  else
    (slices_Equal_Bucket_Bucket v7.1 l14).bind fun v19 =>
    L_BucketsMade_j3 v5 (!v19)

noncomputable def L_BucketsMade_j1 (v2 : (List Sample) × Fleetmake_Stream) (v4 : Window × Fleetmake_Stream) (v5 : Int × Fleetmake_Stream) (v7 : (List Bucket) × Int) (n9 : Int) : Option Bool :=
  if n9 = (0 : Int) then
    (Q_BucketsOf v2.1 v4.1 v5.1).bind fun v15 =>
    L_BucketsMade_j2 v5 v7 n9 v15
  else
    L_BucketsMade_j2 v5 v7 n9 []

noncomputable def L_BucketsMade (p0x0 : List Int) : Option Bool :=
  (Stream_Series (⟨p0x0, (0 : Int)⟩ : Fleetmake_Stream) (10 : Int)).bind fun v2 =>
  (Stream_Frame v2.2).bind fun v4 =>
  (Stream_Pick v4.2 [(1 : Int), (7 : Int), (10 : Int), (100 : Int), (1000 : Int), (345686400000 : Int), (0 : Int), (345686400001 : Int)]).bind fun v5 =>
  (series_Buckets v2.1 v4.1 v5.1).bind fun v7 =>
  (Q_SeriesFault v2.1).bind fun v10 =>
  if v5.1 < (1 : Int) then
    (L_errs [v10, (Q_WindowFault v4.1), (L_when true (1 : Int))]).bind fun v12 =>
    L_BucketsMade_j1 v2 v4 v5 v7 v12
  else
    (L_errs [v10, (Q_WindowFault v4.1), (L_when (decide ((345686400000 : Int) < v5.1)) (1 : Int))]).bind fun v11 =>
    L_BucketsMade_j1 v2 v4 v5 v7 v11

end Go.Beacon
