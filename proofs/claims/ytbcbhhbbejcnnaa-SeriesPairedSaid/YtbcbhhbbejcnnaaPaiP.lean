/- Plain functions that the Go functions compute, written by shal.py. -/
import Derived.Test.YtbcbhhbbejcnnaaCore
set_option linter.unusedVariables false
namespace Go.Beacon
open Go Go.Eng
structure Fleetmake_Stream where
  L : List Int
  at_ : Int
deriving DecidableEq, Inhabited
def Fleetmake_Stream.av (x : Fleetmake_Stream) : AV := .agg [.list 1 (x.L.map I), I x.at_]

structure Sample where
  Device : Str
  Metric : Str
  At : Int
  Value : Int
deriving DecidableEq, Inhabited
def Sample.av (x : Sample) : AV := .agg [.str x.Device, .str x.Metric, I x.At, I x.Value]

structure Pairing where
  A : Sample
  B : Sample
deriving DecidableEq, Inhabited
def Pairing.av (x : Pairing) : AV := .agg [.str x.A.Device, .str x.A.Metric, I x.A.At, I x.A.Value, .str x.B.Device, .str x.B.Metric, I x.B.At, I x.B.Value]

noncomputable def Below_j1 (n2 : Int) : Option Int :=
  some n2

noncomputable def Below (p0x0 : Int) (p1x0 : Int) : Option Int :=
  if p1x0 < (1 : Int) then
    some (0 : Int)
  else
    (rem p0x0 p1x0).bind fun n1 =>
    if n1 < (0 : Int) then
      Below_j1 (w64 (n1 + p1x0))
    else
      Below_j1 n1

noncomputable def Stream_Next (p0x0 : Fleetmake_Stream) (p1x0 : Int) : Option (Int × Fleetmake_Stream) :=
  if (p0x0.L.length : Int) = (0 : Int) then
    (Below (w64 ((w64 (p0x0.at_ + (1 : Int))) * (7919 : Int))) p1x0).bind fun v1 =>
    some (v1, (⟨p0x0.L, w64 (p0x0.at_ + (1 : Int))⟩ : Fleetmake_Stream))
  else
    (rem (w64 ((w64 (p0x0.at_ + (1 : Int))) - (1 : Int))) (p0x0.L.length : Int)).bind fun n2 =>
    (quo (w64 ((w64 (p0x0.at_ + (1 : Int))) - (1 : Int))) (p0x0.L.length : Int)).bind fun n3 =>
    (idx p0x0.L n2).bind fun v4 =>
    (Below v4 (1073741824 : Int)).bind fun v5 =>
    (Below (w64 (v5 + (w64 (n3 * (w64 ((7919 : Int) + n2)))))) p1x0).bind fun v6 =>
    some (v6, (⟨p0x0.L, w64 (p0x0.at_ + (1 : Int))⟩ : Fleetmake_Stream))

noncomputable def Stream_Pick (p0x0 : Fleetmake_Stream) (p1x0 : List Int) : Option (Int × Fleetmake_Stream) :=
  (Stream_Next p0x0 (p1x0.length : Int)).bind fun v1 =>
  (idx p1x0 v1.1).bind fun v2 =>
  some (v2, v1.2)

noncomputable def Stream_Range (p0x0 : Fleetmake_Stream) (p1x0 : Int) (p2x0 : Int) : Option (Int × Fleetmake_Stream) :=
  if p2x0 < p1x0 then
    some (p1x0, p0x0)
  else
    (Stream_Next p0x0 (w64 ((w64 (p2x0 - p1x0)) + (1 : Int)))).bind fun v1 =>
    some (w64 (p1x0 + v1.1), v1.2)

noncomputable def Stream_RightSeries_b1 (p2x0 : Int) (v1 : Int × Fleetmake_Stream) (l8 : List Int) (n9 : Int) (l11 : List Sample) (n12 : Int) (n13 : Int) : Option (((List Int) × Int × (List Sample) × Int × Int) ⊕ ((List Sample) × Fleetmake_Stream)) :=
  if n13 < v1.1 then
    (Stream_Pick (⟨l8, n9⟩ : Fleetmake_Stream) [(1 : Int), (1 : Int), (2 : Int), (5 : Int), (10 : Int), (10 : Int), (40 : Int), (127 : Int), (1000 : Int)]).bind fun v15 =>
    (Stream_Pick v15.2 [(0 : Int), (1 : Int), (2 : Int), (5 : Int), (7 : Int), (9 : Int), (-3 : Int), (-70 : Int), (100 : Int), (1000 : Int), (5 : Int)]).bind fun v16 =>
    (app l11 [(⟨([100] : Str), ([109] : Str), w64 (n12 + v15.1), max p2x0 v16.1⟩ : Sample)]).bind fun l17 =>
    some (.inl (v16.2.L, v16.2.at_, l17, w64 (n12 + v15.1), w64 (n13 + (1 : Int))))
  else
    Option.map .inr (some (l11, (⟨l8, n9⟩ : Fleetmake_Stream)))

noncomputable def Stream_RightSeries_l1 (p2x0 : Int) (v1 : Int × Fleetmake_Stream) (l8 : List Int) (n9 : Int) (l11 : List Sample) (n12 : Int) (n13 : Int) : Option ((List Sample) × Fleetmake_Stream) :=
  iter (fun x : (List Int) × Int × (List Sample) × Int × Int => Stream_RightSeries_b1 p2x0 v1 x.1 x.2.1 x.2.2.1 x.2.2.2.1 x.2.2.2.2) (l8, n9, l11, n12, n13)

noncomputable def Stream_RightSeries (p0x0 : Fleetmake_Stream) (p1x0 : Int) (p2x0 : Int) : Option ((List Sample) × Fleetmake_Stream) :=
  (Stream_Range p0x0 (0 : Int) p1x0).bind fun v1 =>
  Stream_RightSeries_l1 p2x0 v1 v1.2.L v1.2.at_ [] (0 : Int) (0 : Int)

noncomputable def Stream_Flip (p0x0 : Fleetmake_Stream) (p1x0 : Int) : Option (Bool × Fleetmake_Stream) :=
  (Stream_Next p0x0 p1x0).bind fun v1 =>
  some (decide (v1.1 = (0 : Int)), v1.2)

noncomputable def Stream_Some (p0x0 : Fleetmake_Stream) (p1x0 : List Str) : Option (Str × Fleetmake_Stream) :=
  (Stream_Next p0x0 (p1x0.length : Int)).bind fun v1 =>
  (idx p1x0 v1.1).bind fun v2 =>
  some (v2, v1.2)

noncomputable def Stream_Odd (p0x0 : Fleetmake_Stream) (p1x0 : Int) (p2x0 : Int) : Option (Int × Fleetmake_Stream) :=
  (Stream_Flip p0x0 (12 : Int)).bind fun v1 =>
  if v1.1 = true then
    (Stream_Pick v1.2 [w64 (p1x0 - (1 : Int)), w64 (p2x0 + (1 : Int)), p1x0, p2x0, (-1099511627776 : Int), (1099511627776 : Int)]).bind fun v2 =>
    some (v2.1, v2.2)
  else
    (Stream_Range v1.2 p1x0 p2x0).bind fun v3 =>
    some (v3.1, v3.2)

noncomputable def Stream_Series_j7 (l31 : List Int) (n32 : Int) (l33 : List Sample) : Option ((List Sample) × Fleetmake_Stream) :=
  some (l33, (⟨l31, n32⟩ : Fleetmake_Stream))

noncomputable def Stream_Series_j6 (l10 : List Sample) (l27 : List Int) (n28 : Int) (c29 : Bool) : Option ((List Sample) × Fleetmake_Stream) :=
  if c29 = true then
    (idx l10 (w64 ((l10.length : Int) - (1 : Int)))).bind fun v34 =>
    (Stream_Pick (⟨l27, n28⟩ : Fleetmake_Stream) [(345686399999 : Int), (3456000000 : Int), (950400000 : Int)]).bind fun v35 =>
    (Stream_Pick v35.2 [(1000000000 : Int), (-1000000000 : Int)]).bind fun v36 =>
    Stream_Series_j7 v36.2.L v36.2.at_ ((l10.set (w64 ((l10.length : Int) - (1 : Int))).toNat (⟨v34.Device, v34.Metric, v35.1, v34.Value⟩ : Sample)).set (w64 ((l10.length : Int) - (1 : Int))).toNat (⟨v34.Device, v34.Metric, v35.1, v36.1⟩ : Sample))
  else
    Stream_Series_j7 l27 n28 l10

noncomputable def Stream_Series_j2 (l8 : List Int) (n9 : Int) (l10 : List Sample) : Option ((List Sample) × Fleetmake_Stream) :=
  if (0 : Int) < (l10.length : Int) then
    (Stream_Flip (⟨l8, n9⟩ : Fleetmake_Stream) (25 : Int)).bind fun v30 =>
    Stream_Series_j6 l10 v30.2.L v30.2.at_ v30.1
  else
    Stream_Series_j6 l10 l8 n9 false

noncomputable def Stream_Series_j3 (l14 : List Int) (n15 : Int) (l16 : List Sample) : Option ((List Sample) × Fleetmake_Stream) :=
  Stream_Series_j2 l14 n15 l16

noncomputable def Stream_Series_j4 (l18 : List Int) (n19 : Int) (l20 : List Sample) : Option ((List Sample) × Fleetmake_Stream) :=
  Stream_Series_j3 l18 n19 l20

noncomputable def Stream_Series_j5 (l22 : List Int) (n23 : Int) (l24 : List Sample) : Option ((List Sample) × Fleetmake_Stream) :=
  Stream_Series_j4 l22 n23 l24

noncomputable def Stream_Series_j1 (v2 : (List Sample) × Fleetmake_Stream) (l4 : List Int) (n5 : Int) (c6 : Bool) : Option ((List Sample) × Fleetmake_Stream) :=
  if c6 = true then
    (Stream_Next (⟨l4, n5⟩ : Fleetmake_Stream) (v2.1.length : Int)).bind fun v11 =>
    (idx v2.1 v11.1).bind fun v12 =>
    (Stream_Next v11.2 (4 : Int)).bind fun v13 =>
    if v13.1 = (0 : Int) then
      (Stream_Some v13.2 [([] : Str), ([101] : Str), ([65] : Str)]).bind fun v17 =>
      Stream_Series_j3 v17.2.L v17.2.at_ (v2.1.set v11.1.toNat (⟨v17.1, v12.Metric, v12.At, v12.Value⟩ : Sample))
    else
      if v13.1 = (1 : Int) then
        (Stream_Some v13.2 [([] : Str), ([110] : Str)]).bind fun v21 =>
        Stream_Series_j4 v21.2.L v21.2.at_ (v2.1.set v11.1.toNat (⟨v12.Device, v21.1, v12.At, v12.Value⟩ : Sample))
      else
        if v13.1 = (2 : Int) then
          (Stream_Odd v13.2 (0 : Int) (100 : Int)).bind fun v25 =>
          Stream_Series_j5 v25.2.L v25.2.at_ (v2.1.set v11.1.toNat (⟨v12.Device, v12.Metric, v25.1, v12.Value⟩ : Sample))
        else
          (Stream_Odd v13.2 (-1000000000 : Int) (1000000000 : Int)).bind fun v26 =>
          Stream_Series_j5 v26.2.L v26.2.at_ (v2.1.set v11.1.toNat (⟨v12.Device, v12.Metric, v12.At, v26.1⟩ : Sample))
  else
    Stream_Series_j2 l4 n5 v2.1

noncomputable def Stream_Series (p0x0 : Fleetmake_Stream) (p1x0 : Int) : Option ((List Sample) × Fleetmake_Stream) :=
  (Stream_Pick p0x0 [(0 : Int), (-100 : Int)]).bind fun v1 =>
  (Stream_RightSeries v1.2 p1x0 v1.1).bind fun v2 =>
  if (0 : Int) < (v2.1.length : Int) then
    (Stream_Flip v2.2 (12 : Int)).bind fun v7 =>
    Stream_Series_j1 v2 v7.2.L v7.2.at_ v7.1
  else
    Stream_Series_j1 v2 v2.2.L v2.2.at_ false

noncomputable def base_Key_j2 (n5 : Int) (c7 : Bool) : Option (Int ⊕ Bool) :=
  if c7 = true then
    Option.map .inr (some false)
  else
    some (.inl (w64 (n5 + (1 : Int))))

noncomputable def base_Key_b1 (p0x0 : Str) (n5 : Int) : Option (Int ⊕ Bool) :=
  if n5 < (p0x0.length : Int) then
    (idx p0x0 n5).bind fun c6 =>
    base_Key_j2 n5 (if (97 : Int) ≤ (c6.toNat : Int) then if (c6.toNat : Int) ≤ (122 : Int) then !true else if (48 : Int) ≤ (c6.toNat : Int) then if (c6.toNat : Int) ≤ (57 : Int) then !true else if (c6.toNat : Int) = (45 : Int) then !true else decide (¬ ((c6.toNat : Int) = (95 : Int))) else if (c6.toNat : Int) = (45 : Int) then !true else decide (¬ ((c6.toNat : Int) = (95 : Int))) else if (48 : Int) ≤ (c6.toNat : Int) then if (c6.toNat : Int) ≤ (57 : Int) then !true else if (c6.toNat : Int) = (45 : Int) then !true else decide (¬ ((c6.toNat : Int) = (95 : Int))) else if (c6.toNat : Int) = (45 : Int) then !true else decide (¬ ((c6.toNat : Int) = (95 : Int))))
  else
    Option.map .inr (some true)

noncomputable def base_Key_l1 (p0x0 : Str) (n5 : Int) : Option Bool :=
  iter (fun x : Int => base_Key_b1 p0x0 x) n5

noncomputable def base_Key_j1 (p0x0 : Str) (c1 : Bool) : Option Bool :=
  if c1 = true then
    some false
  else
    base_Key_l1 p0x0 (0 : Int)

noncomputable def base_Key (p0x0 : Str) : Option Bool :=
  if p0x0 = ([] : Str) then
    base_Key_j1 p0x0 true
  else
    if (40 : Int) < (p0x0.length : Int) then
      base_Key_j1 p0x0 true
    else
      (idx p0x0 (0 : Int)).bind fun c2 =>
      if (c2.toNat : Int) < (97 : Int) then
        base_Key_j1 p0x0 true
      else
        (idx p0x0 (0 : Int)).bind fun c3 =>
        base_Key_j1 p0x0 (decide ((122 : Int) < (c3.toNat : Int)))

noncomputable def base_Out_j1 (c1 : Bool) : Bool :=
  c1

noncomputable def base_Out (p0x0 : Int) (p1x0 : Int) (p2x0 : Int) : Bool :=
  base_Out_j1 ((decide (p0x0 < p1x0)) || (decide (p2x0 < p0x0)))

noncomputable def base_Moment (p0x0 : Int) : Bool :=
  !(base_Out p0x0 (0 : Int) (345686399999 : Int))

noncomputable def cmp_isNaN_int (p0x0 : Int) : Bool :=
  decide (p0x0 ≠ p0x0)

noncomputable def cmp_Compare_int (p0x0 : Int) (p1x0 : Int) : Int :=
  if (cmp_isNaN_int p0x0) = true then
    if (cmp_isNaN_int p1x0) = true then
      (0 : Int)
    else
      (-1 : Int)
  else
    if (cmp_isNaN_int p1x0) = true then
      (1 : Int)
    else
      if p0x0 < p1x0 then
        (-1 : Int)
      else
        if p1x0 < p0x0 then
          (1 : Int)
        else
          (0 : Int)

noncomputable def cmp_Or_int_b1 (p0x0 : List Int) (n2 : Int) : Option (Int ⊕ Int) :=
  if n2 < (p0x0.length : Int) then
    (idx p0x0 n2).bind fun v3 =>
    if v3 ≠ (0 : Int) then
      Option.map .inr (some v3)
    else
      some (.inl (w64 (n2 + (1 : Int))))
  else
    Option.map .inr (some (0 : Int))

noncomputable def cmp_Or_int_l1 (p0x0 : List Int) (n2 : Int) : Option Int :=
  iter (fun x : Int => cmp_Or_int_b1 p0x0 x) n2

noncomputable def cmp_Or_int (p0x0 : List Int) : Option Int :=
  cmp_Or_int_l1 p0x0 (0 : Int)

noncomputable def series_byDevice (p0x0 : Sample) (p1x0 : Sample) : Option Int :=
  (cmp_Or_int [(Lib.compareBytes p0x0.Device p1x0.Device), (Lib.compareBytes p0x0.Metric p1x0.Metric), (cmp_Compare_int p0x0.At p1x0.At)]).bind fun v3 =>
  some v3

noncomputable def series_Check_j3 (n2 : Int) (c9 : Bool) : Option (Int ⊕ Int) :=
  if c9 = true then
    Option.map .inr (some (7 : Int))
  else
    some (.inl (w64 (n2 + (1 : Int))))

noncomputable def series_Check_j2 (p0x0 : List Sample) (n2 : Int) (v3 : Sample) (c8 : Bool) : Option (Int ⊕ Int) :=
  if c8 = true then
    Option.map .inr (some (1 : Int))
  else
    if (0 : Int) < n2 then
      (idx p0x0 (w64 (n2 - (1 : Int)))).bind fun v10 =>
      (series_byDevice v3 v10).bind fun v11 =>
      series_Check_j3 n2 (decide (v11 ≤ (0 : Int)))
    else
      series_Check_j3 n2 false

noncomputable def series_Check_j1 (p0x0 : List Sample) (n2 : Int) (v3 : Sample) (c5 : Bool) : Option (Int ⊕ Int) :=
  if c5 = true then
    Option.map .inr (some (5 : Int))
  else
    series_Check_j2 p0x0 n2 v3 ((!(base_Moment v3.At)) || (base_Out v3.Value (-1000000000 : Int) (1000000000 : Int)))

noncomputable def series_Check_b1 (p0x0 : List Sample) (n2 : Int) : Option (Int ⊕ Int) :=
  if n2 < (p0x0.length : Int) then
    (idx p0x0 n2).bind fun v3 =>
    (base_Key v3.Device).bind fun v6 =>
    if (!v6) = true then
      series_Check_j1 p0x0 n2 v3 true
    else
      (base_Key v3.Metric).bind fun v7 =>
      series_Check_j1 p0x0 n2 v3 (!v7)
  else
    Option.map .inr (some (0 : Int))

noncomputable def series_Check_l1 (p0x0 : List Sample) (n2 : Int) : Option Int :=
  iter (fun x : Int => series_Check_b1 p0x0 x) n2

noncomputable def series_Check (p0x0 : List Sample) : Option Int :=
  if (5000 : Int) < (p0x0.length : Int) then
    some (2 : Int)
  else
    series_Check_l1 p0x0 (0 : Int)

noncomputable def series_CheckSeries_1x_j1 (c2 : Bool) : Option Bool :=
  some c2

noncomputable def series_CheckSeries_1x (p0x0 : Sample) (p1x0 : List Sample) : Option Bool :=
  (idx p1x0 (0 : Int)).bind fun v3 =>
  if p0x0.Device ≠ v3.Device then
    series_CheckSeries_1x_j1 true
  else
    (idx p1x0 (0 : Int)).bind fun v4 =>
    series_CheckSeries_1x_j1 (decide (p0x0.Metric ≠ v4.Metric))

noncomputable def slices_IndexFunc_Sample_Sample_b1 (p0x0 : List Sample) (fnb : Sample → Option Bool) (n2 : Int) : Option (Int ⊕ Int) :=
  if n2 < (p0x0.length : Int) then
    (idx p0x0 n2).bind fun v3 =>
    (fnb v3).bind fun v4 =>
    if v4 = true then
      Option.map .inr (some n2)
    else
      some (.inl (w64 (n2 + (1 : Int))))
  else
    Option.map .inr (some (-1 : Int))

noncomputable def slices_IndexFunc_Sample_Sample_l1 (p0x0 : List Sample) (fnb : Sample → Option Bool) (n2 : Int) : Option Int :=
  iter (fun x : Int => slices_IndexFunc_Sample_Sample_b1 p0x0 fnb x) n2

noncomputable def slices_IndexFunc_Sample_Sample (p0x0 : List Sample) (fnb : Sample → Option Bool) : Option Int :=
  slices_IndexFunc_Sample_Sample_l1 p0x0 fnb (0 : Int)

noncomputable def slices_ContainsFunc_Sample_Sample (p0x0 : List Sample) (fnb : Sample → Option Bool) : Option Bool :=
  (slices_IndexFunc_Sample_Sample p0x0 fnb).bind fun v1 =>
  some (decide ((0 : Int) ≤ v1))

noncomputable def series_CheckSeries (p0x0 : List Sample) : Option Int :=
  (series_Check p0x0).bind fun v2 =>
  if v2 ≠ (0 : Int) then
    some v2
  else
    (slices_ContainsFunc_Sample_Sample p0x0 (fun y0 => series_CheckSeries_1x y0 p0x0)).bind fun v3 =>
    if v3 = true then
      some (13 : Int)
    else
      some (0 : Int)

noncomputable def base_First_b1 (p0x0 : List Int) (n2 : Int) : Option (Int ⊕ Int) :=
  if n2 < (p0x0.length : Int) then
    (idx p0x0 n2).bind fun v3 =>
    if v3 ≠ (0 : Int) then
      Option.map .inr (some v3)
    else
      some (.inl (w64 (n2 + (1 : Int))))
  else
    Option.map .inr (some (0 : Int))

noncomputable def base_First_l1 (p0x0 : List Int) (n2 : Int) : Option Int :=
  iter (fun x : Int => base_First_b1 p0x0 x) n2

noncomputable def base_First (p0x0 : List Int) : Option Int :=
  base_First_l1 p0x0 (0 : Int)

noncomputable def series_Pair_1x (p0x0 : Sample) (p1x0 : Int) : Int :=
  (cmp_Compare_int p0x0.At p1x0)

noncomputable def slices_BinarySearchFunc_Sample_Sample_int_j1 (n7 : Int) (n8 : Int) : Option ((Int × Int) ⊕ (Int × Bool)) :=
  some (.inl (n7, n8))

noncomputable def slices_BinarySearchFunc_Sample_Sample_int_j2 (n3 : Int) (c9 : Bool) : Option (Int × Bool) :=
  some (n3, c9)

noncomputable def slices_BinarySearchFunc_Sample_Sample_int_k3 (p0x0 : List Sample) (p1x0 : Int) (fnc : Sample → Int → Option Int) (n3 : Int) : Option (Int × Bool) :=
  if n3 < (p0x0.length : Int) then
    (idx p0x0 n3).bind fun v10 =>
    (fnc v10 p1x0).bind fun v11 =>
    slices_BinarySearchFunc_Sample_Sample_int_j2 n3 (decide (v11 = (0 : Int)))
  else
    slices_BinarySearchFunc_Sample_Sample_int_j2 n3 false

noncomputable def slices_BinarySearchFunc_Sample_Sample_int_b1 (p0x0 : List Sample) (p1x0 : Int) (fnc : Sample → Int → Option Int) (n3 : Int) (n4 : Int) : Option ((Int × Int) ⊕ (Int × Bool)) :=
  if n3 < n4 then
    (idx p0x0 (w64 (shrI .u64 (IntKind.u64.wrap (w64 (n3 + n4))) (1 : Int)))).bind fun v5 =>
    (fnc v5 p1x0).bind fun v6 =>
    if v6 < (0 : Int) then
      slices_BinarySearchFunc_Sample_Sample_int_j1 (w64 ((w64 (shrI .u64 (IntKind.u64.wrap (w64 (n3 + n4))) (1 : Int))) + (1 : Int))) n4
    else
      slices_BinarySearchFunc_Sample_Sample_int_j1 n3 (w64 (shrI .u64 (IntKind.u64.wrap (w64 (n3 + n4))) (1 : Int)))
  else
    Option.map .inr (slices_BinarySearchFunc_Sample_Sample_int_k3 p0x0 p1x0 fnc n3)

noncomputable def slices_BinarySearchFunc_Sample_Sample_int_l1 (p0x0 : List Sample) (p1x0 : Int) (fnc : Sample → Int → Option Int) (n3 : Int) (n4 : Int) : Option (Int × Bool) :=
  iter (fun x : Int × Int => slices_BinarySearchFunc_Sample_Sample_int_b1 p0x0 p1x0 fnc x.1 x.2) (n3, n4)

noncomputable def slices_BinarySearchFunc_Sample_Sample_int (p0x0 : List Sample) (p1x0 : Int) (fnc : Sample → Int → Option Int) : Option (Int × Bool) :=
  slices_BinarySearchFunc_Sample_Sample_int_l1 p0x0 p1x0 fnc (0 : Int) (p0x0.length : Int)

noncomputable def series_Pair_j2 (n21 : Int) (n26 : Int) (n27 : Int) : Option ((Int × Int × Int) ⊕ (((List Pairing) × Int) ⊕ ((List Pairing) × Int))) :=
  some (.inl (n26, n27, w64 (n21 + (1 : Int))))

noncomputable def series_Pair_j1 (p1x0 : List Sample) (v13 : Sample) (n19 : Int) (n20 : Int) (n21 : Int) (v22 : Int) (c23 : Bool) : Option ((Int × Int × Int) ⊕ (((List Pairing) × Int) ⊕ ((List Pairing) × Int))) :=
  if c23 = true then
    (idx p1x0 v22).bind fun v28 =>
    (idx p1x0 v22).bind fun v29 =>
    series_Pair_j2 n21 v22 (max (w64 (v13.At - v28.At)) (w64 (v29.At - v13.At)))
  else
    series_Pair_j2 n21 n19 n20

noncomputable def series_Pair_j3 (n11 : Int) (l31 : List Pairing) : Option (((List Pairing) × Int) ⊕ ((List Pairing) × Int)) :=
  some (.inl (l31, w64 (n11 + (1 : Int))))

noncomputable def series_Pair_k4 (p1x0 : List Sample) (l10 : List Pairing) (n11 : Int) (v13 : Sample) (n19 : Int) : Option (((List Pairing) × Int) ⊕ ((List Pairing) × Int)) :=
  if (0 : Int) ≤ n19 then
    (idx p1x0 n19).bind fun v32 =>
    (app l10 [(⟨v13, v32⟩ : Pairing)]).bind fun l33 =>
    series_Pair_j3 n11 l33
  else
    series_Pair_j3 n11 l10

noncomputable def series_Pair_b2 (p1x0 : List Sample) (l10 : List Pairing) (n11 : Int) (v13 : Sample) (v15 : Int × Bool) (n19 : Int) (n20 : Int) (n21 : Int) : Option ((Int × Int × Int) ⊕ (((List Pairing) × Int) ⊕ ((List Pairing) × Int))) :=
  if n21 < ([w64 (v15.1 - (1 : Int)), v15.1].length : Int) then
    (idx [w64 (v15.1 - (1 : Int)), v15.1] n21).bind fun v22 =>
    if (0 : Int) ≤ v22 then
      if v22 < (p1x0.length : Int) then
        (idx p1x0 v22).bind fun v24 =>
        (idx p1x0 v22).bind fun v25 =>
        series_Pair_j1 p1x0 v13 n19 n20 n21 v22 (decide ((max (w64 (v13.At - v24.At)) (w64 (v25.At - v13.At))) < n20))
      else
        series_Pair_j1 p1x0 v13 n19 n20 n21 v22 false
    else
      series_Pair_j1 p1x0 v13 n19 n20 n21 v22 false
  else
    Option.map .inr (series_Pair_k4 p1x0 l10 n11 v13 n19)

noncomputable def series_Pair_l2 (p1x0 : List Sample) (l10 : List Pairing) (n11 : Int) (v13 : Sample) (v15 : Int × Bool) (n19 : Int) (n20 : Int) (n21 : Int) : Option (((List Pairing) × Int) ⊕ ((List Pairing) × Int)) :=
  iter (fun x : Int × Int × Int => series_Pair_b2 p1x0 l10 n11 v13 v15 x.1 x.2.1 x.2.2) (n19, n20, n21)

noncomputable def series_Pair_b1 (p0x0 : List Sample) (p1x0 : List Sample) (p2x0 : Int) (l10 : List Pairing) (n11 : Int) : Option (((List Pairing) × Int) ⊕ ((List Pairing) × Int)) :=
  if n11 < (p0x0.length : Int) then
    (idx p0x0 n11).bind fun v13 =>
    (slices_BinarySearchFunc_Sample_Sample_int p1x0 v13.At (fun y0 y1 => some (series_Pair_1x y0 y1))).bind fun v15 =>
    series_Pair_l2 p1x0 l10 n11 v13 v15 (-1 : Int) (w64 (p2x0 + (1 : Int))) (0 : Int)
  else
    Option.map .inr (some (l10, (0 : Int)))

noncomputable def series_Pair_l1 (p0x0 : List Sample) (p1x0 : List Sample) (p2x0 : Int) (l10 : List Pairing) (n11 : Int) : Option ((List Pairing) × Int) :=
  iter (fun x : (List Pairing) × Int => series_Pair_b1 p0x0 p1x0 p2x0 x.1 x.2) (l10, n11)

noncomputable def series_Pair (p0x0 : List Sample) (p1x0 : List Sample) (p2x0 : Int) : Option ((List Pairing) × Int) :=
  (series_CheckSeries p0x0).bind fun v1 =>
  (series_CheckSeries p1x0).bind fun v2 =>
  (base_First [v1, v2]).bind fun v3 =>
  if v3 ≠ (0 : Int) then
    some ([], v3)
  else
    if (base_Out p2x0 (0 : Int) (345686400000 : Int)) = true then
      some ([], (1 : Int))
    else
      series_Pair_l1 p0x0 p1x0 p2x0 [] (0 : Int)

/-- A copy of a list. -/
noncomputable def slices_Clone_Sample_Sample (p0x0 : List Sample) : Option (List Sample) :=
  app [] p0x0

noncomputable def series_Thin_1x (p0x0 : Int) (p1x0 : Int) (p2x0 : List Sample) (p3x0 : Int) : Option (List Sample) :=
  if (w64 (p1x0 - (3 : Int))) < p0x0 then
    (slc p2x0 (w64 (p3x0 - (1 : Int))) (p2x0.length : Int)).bind fun l1 =>
    some l1
  else
    (quo (w64 (p0x0 * (w64 (p3x0 - (2 : Int))))) (w64 (p1x0 - (2 : Int)))).bind fun n2 =>
    (quo (w64 ((w64 (p0x0 + (1 : Int))) * (w64 (p3x0 - (2 : Int))))) (w64 (p1x0 - (2 : Int)))).bind fun n3 =>
    (slc p2x0 (w64 ((1 : Int) + n2)) (w64 ((1 : Int) + n3))).bind fun l4 =>
    some l4

noncomputable def base_Down_j1 (n3 : Int) : Option Int :=
  some n3

noncomputable def base_Down (p0x0 : Int) (p1x0 : Int) : Option Int :=
  (quo p0x0 p1x0).bind fun n1 =>
  (rem p0x0 p1x0).bind fun n2 =>
  if n2 < (0 : Int) then
    base_Down_j1 (w64 (n1 - (1 : Int)))
  else
    base_Down_j1 n1

noncomputable def series_middle_k1 (p0x0 : List Sample) (n6 : Int) (n7 : Int) : Option Sample :=
  (quo n6 (p0x0.length : Int)).bind fun n11 =>
  (base_Down n7 (p0x0.length : Int)).bind fun v12 =>
  some (⟨[], [], n11, v12⟩ : Sample)

noncomputable def series_middle_b1 (p0x0 : List Sample) (n6 : Int) (n7 : Int) (n8 : Int) : Option ((Int × Int × Int) ⊕ Sample) :=
  if n8 < (p0x0.length : Int) then
    (idx p0x0 n8).bind fun v9 =>
    some (.inl (w64 (n6 + v9.At), w64 (n7 + v9.Value), w64 (n8 + (1 : Int))))
  else
    Option.map .inr (series_middle_k1 p0x0 n6 n7)

noncomputable def series_middle_l1 (p0x0 : List Sample) (n6 : Int) (n7 : Int) (n8 : Int) : Option Sample :=
  iter (fun x : Int × Int × Int => series_middle_b1 p0x0 x.1 x.2.1 x.2.2) (n6, n7, n8)

noncomputable def series_middle (p0x0 : List Sample) : Option Sample :=
  series_middle_l1 p0x0 (0 : Int) (0 : Int) (0 : Int)

noncomputable def series_area (p0x0 : Sample) (p1x0 : Sample) (p2x0 : Sample) : Int :=
  max (w64 ((w64 ((w64 (p1x0.At - p0x0.At)) * (w64 (p2x0.Value - p0x0.Value)))) - (w64 ((w64 (p2x0.At - p0x0.At)) * (w64 (p1x0.Value - p0x0.Value)))))) (w64 (-(w64 ((w64 ((w64 (p1x0.At - p0x0.At)) * (w64 (p2x0.Value - p0x0.Value)))) - (w64 ((w64 (p2x0.At - p0x0.At)) * (w64 (p1x0.Value - p0x0.Value))))))))

noncomputable def series_Thin_j1 (n38 : Int) (q41 : Str) (q42 : Str) (n43 : Int) (n44 : Int) (n45 : Int) : Option ((Str × Str × Int × Int × Int × Int) ⊕ (((List Sample) × Int) ⊕ ((List Sample) × Int))) :=
  some (.inl (q41, q42, n43, n44, n45, w64 (n38 + (1 : Int))))

noncomputable def series_Thin_k2 (l18 : List Sample) (n19 : Int) (q33 : Str) (q34 : Str) (n35 : Int) (n36 : Int) : Option (((List Sample) × Int) ⊕ ((List Sample) × Int)) :=
  (app l18 [(⟨q33, q34, n35, n36⟩ : Sample)]).bind fun l46 =>
  some (.inl (l46, w64 (n19 + (1 : Int))))

noncomputable def series_Thin_b2 (l18 : List Sample) (n19 : Int) (v20 : Sample) (v22 : Sample) (v26 : (List Sample)) (q33 : Str) (q34 : Str) (n35 : Int) (n36 : Int) (n37 : Int) (n38 : Int) : Option ((Str × Str × Int × Int × Int × Int) ⊕ (((List Sample) × Int) ⊕ ((List Sample) × Int))) :=
  if n38 < (v26.length : Int) then
    (idx v26 n38).bind fun v39 =>
    if n37 < (series_area v20 v39 v22) then
      series_Thin_j1 n38 v39.Device v39.Metric v39.At v39.Value (series_area v20 v39 v22)
    else
      series_Thin_j1 n38 q33 q34 n35 n36 n37
  else
    Option.map .inr (series_Thin_k2 l18 n19 q33 q34 n35 n36)

noncomputable def series_Thin_l2 (l18 : List Sample) (n19 : Int) (v20 : Sample) (v22 : Sample) (v26 : (List Sample)) (q33 : Str) (q34 : Str) (n35 : Int) (n36 : Int) (n37 : Int) (n38 : Int) : Option (((List Sample) × Int) ⊕ ((List Sample) × Int)) :=
  iter (fun x : Str × Str × Int × Int × Int × Int => series_Thin_b2 l18 n19 v20 v22 v26 x.1 x.2.1 x.2.2.1 x.2.2.2.1 x.2.2.2.2.1 x.2.2.2.2.2) (q33, q34, n35, n36, n37, n38)

noncomputable def series_Thin_k3 (p0x0 : List Sample) (l18 : List Sample) : Option ((List Sample) × Int) :=
  (idx p0x0 (w64 ((p0x0.length : Int) - (1 : Int)))).bind fun v48 =>
  (app l18 [v48]).bind fun l49 =>
  some (l49, (0 : Int))

noncomputable def series_Thin_b1 (p0x0 : List Sample) (p1x0 : Int) (l18 : List Sample) (n19 : Int) : Option (((List Sample) × Int) ⊕ ((List Sample) × Int)) :=
  if n19 < (w64 (p1x0 - (2 : Int))) then
    (idx l18 (w64 ((l18.length : Int) - (1 : Int)))).bind fun v20 =>
    (series_Thin_1x (w64 (n19 + (1 : Int))) p1x0 p0x0 (p0x0.length : Int)).bind fun v21 =>
    (series_middle v21).bind fun v22 =>
    (series_Thin_1x n19 p1x0 p0x0 (p0x0.length : Int)).bind fun v26 =>
    series_Thin_l2 l18 n19 v20 v22 v26 [] [] (0 : Int) (0 : Int) (-1 : Int) (0 : Int)
  else
    Option.map .inr (series_Thin_k3 p0x0 l18)

noncomputable def series_Thin_l1 (p0x0 : List Sample) (p1x0 : Int) (l18 : List Sample) (n19 : Int) : Option ((List Sample) × Int) :=
  iter (fun x : (List Sample) × Int => series_Thin_b1 p0x0 p1x0 x.1 x.2) (l18, n19)

noncomputable def series_Thin (p0x0 : List Sample) (p1x0 : Int) : Option ((List Sample) × Int) :=
  (series_CheckSeries p0x0).bind fun v3 =>
  if v3 ≠ (0 : Int) then
    some ([], v3)
  else
    if (base_Out p1x0 (3 : Int) (5000 : Int)) = true then
      some ([], (1 : Int))
    else
      if (p0x0.length : Int) ≤ p1x0 then
        (slices_Clone_Sample_Sample p0x0).bind fun v7 =>
        some (v7, (0 : Int))
      else
        (idx p0x0 (w64 ((p0x0.length : Int) - (1 : Int)))).bind fun v9 =>
        (idx p0x0 (0 : Int)).bind fun v10 =>
        if (864000000 : Int) < (w64 (v9.At - v10.At)) then
          some ([], (2 : Int))
        else
          (idx p0x0 (0 : Int)).bind fun v12 =>
          series_Thin_l1 p0x0 p1x0 [v12] (0 : Int)

noncomputable def Q_in_j1 (c1 : Bool) : Bool :=
  c1

noncomputable def Q_in (p0x0 : Int) (p1x0 : Int) (p2x0 : Int) : Bool :=
  Q_in_j1 ((decide (p1x0 ≤ p0x0)) && (decide (p0x0 ≤ p2x0)))

noncomputable def Q_only_b1 (p0x0 : Str) (p1x0 : Str) (n2 : Int) : Option (Int ⊕ Bool) :=
  if n2 < (p0x0.length : Int) then
    (idx p0x0 n2).bind fun c3 =>
    if (indexByteI p1x0 (c3.toNat : Int)) < (0 : Int) then
      Option.map .inr (some false)
    else
      some (.inl (w64 (n2 + (1 : Int))))
  else
    Option.map .inr (some true)

noncomputable def Q_only_l1 (p0x0 : Str) (p1x0 : Str) (n2 : Int) : Option Bool :=
  iter (fun x : Int => Q_only_b1 p0x0 p1x0 x) n2

noncomputable def Q_only (p0x0 : Str) (p1x0 : Str) : Option Bool :=
  Q_only_l1 p0x0 p1x0 (0 : Int)

noncomputable def Q_Key_j1 (c1 : Bool) : Option Bool :=
  some c1

noncomputable def Q_Key (p0x0 : Str) : Option Bool :=
  if (Q_in (p0x0.length : Int) (1 : Int) (40 : Int)) = true then
    (slc p0x0 (0 : Int) (1 : Int)).bind fun l2 =>
    (Q_only l2 ([97, 98, 99, 100, 101, 102, 103, 104, 105, 106, 107, 108, 109, 110, 111, 112, 113, 114, 115, 116, 117, 118, 119, 120, 121, 122] : Str)).bind fun v3 =>
    if v3 = true then
      (Q_only p0x0 ([97, 98, 99, 100, 101, 102, 103, 104, 105, 106, 107, 108, 109, 110, 111, 112, 113, 114, 115, 116, 117, 118, 119, 120, 121, 122, 48, 49, 50, 51, 52, 53, 54, 55, 56, 57, 45, 95] : Str)).bind fun v4 =>
      Q_Key_j1 v4
    else
      Q_Key_j1 false
  else
    Q_Key_j1 false

noncomputable def Q_Moment (p0x0 : Int) : Bool :=
  (Q_in p0x0 (0 : Int) (345686399999 : Int))

noncomputable def cmp_isNaN_string (p0x0 : Str) : Bool :=
  decide (p0x0 ≠ p0x0)

noncomputable def cmp_Compare_string (p0x0 : Str) (p1x0 : Str) : Int :=
  if (cmp_isNaN_string p0x0) = true then
    if (cmp_isNaN_string p1x0) = true then
      (0 : Int)
    else
      (-1 : Int)
  else
    if (cmp_isNaN_string p1x0) = true then
      (1 : Int)
    else
      if (Op.bytesLess p0x0 p1x0) = true then
        (-1 : Int)
      else
        if (!(Op.bytesLess p0x0 p1x0 || p0x0 == p1x0)) = true then
          (1 : Int)
        else
          (0 : Int)

noncomputable def slices_Compare_string_string_k1 (p0x0 : List Str) (p1x0 : List Str) : Option Int :=
  if (p0x0.length : Int) < (p1x0.length : Int) then
    some (-1 : Int)
  else
    some (0 : Int)

noncomputable def slices_Compare_string_string_b1 (p0x0 : List Str) (p1x0 : List Str) (n2 : Int) : Option (Int ⊕ Int) :=
  if n2 < (p0x0.length : Int) then
    (idx p0x0 n2).bind fun v3 =>
    if (p1x0.length : Int) ≤ n2 then
      Option.map .inr (some (1 : Int))
    else
      (idx p1x0 n2).bind fun v4 =>
      if (cmp_Compare_string v3 v4) ≠ (0 : Int) then
        Option.map .inr (some (cmp_Compare_string v3 v4))
      else
        some (.inl (w64 (n2 + (1 : Int))))
  else
    Option.map .inr (slices_Compare_string_string_k1 p0x0 p1x0)

noncomputable def slices_Compare_string_string_l1 (p0x0 : List Str) (p1x0 : List Str) (n2 : Int) : Option Int :=
  iter (fun x : Int => slices_Compare_string_string_b1 p0x0 p1x0 x) n2

noncomputable def slices_Compare_string_string (p0x0 : List Str) (p1x0 : List Str) : Option Int :=
  slices_Compare_string_string_l1 p0x0 p1x0 (0 : Int)

noncomputable def Q_sign (p0x0 : Int) : Int :=
  if p0x0 < (0 : Int) then
    (-1 : Int)
  else
    if (0 : Int) < p0x0 then
      (1 : Int)
    else
      (0 : Int)

noncomputable def Q_SampleOrder (p0x0 : Sample) (p1x0 : Sample) : Option Int :=
  (slices_Compare_string_string [p0x0.Device, p0x0.Metric] [p1x0.Device, p1x0.Metric]).bind fun v3 =>
  if v3 ≠ (0 : Int) then
    some v3
  else
    some (Q_sign (w64 (p0x0.At - p1x0.At)))

noncomputable def Q_SamplesFault_j3 (n2 : Int) (c9 : Bool) : Option (Int ⊕ Int) :=
  if c9 = true then
    Option.map .inr (some (7 : Int))
  else
    some (.inl (w64 (n2 + (1 : Int))))

noncomputable def Q_SamplesFault_j2 (p0x0 : List Sample) (n2 : Int) (v3 : Sample) (c8 : Bool) : Option (Int ⊕ Int) :=
  if c8 = true then
    Option.map .inr (some (1 : Int))
  else
    if (0 : Int) < n2 then
      (idx p0x0 (w64 (n2 - (1 : Int)))).bind fun v10 =>
      (Q_SampleOrder v10 v3).bind fun v11 =>
      Q_SamplesFault_j3 n2 (decide ((0 : Int) ≤ v11))
    else
      Q_SamplesFault_j3 n2 false

noncomputable def Q_SamplesFault_j1 (p0x0 : List Sample) (n2 : Int) (v3 : Sample) (c5 : Bool) : Option (Int ⊕ Int) :=
  if c5 = true then
    Option.map .inr (some (5 : Int))
  else
    Q_SamplesFault_j2 p0x0 n2 v3 ((!(Q_Moment v3.At)) || (!(Q_in v3.Value (-1000000000 : Int) (1000000000 : Int))))

noncomputable def Q_SamplesFault_b1 (p0x0 : List Sample) (n2 : Int) : Option (Int ⊕ Int) :=
  if n2 < (p0x0.length : Int) then
    (idx p0x0 n2).bind fun v3 =>
    (Q_Key v3.Device).bind fun v6 =>
    if (!v6) = true then
      Q_SamplesFault_j1 p0x0 n2 v3 true
    else
      (Q_Key v3.Metric).bind fun v7 =>
      Q_SamplesFault_j1 p0x0 n2 v3 (!v7)
  else
    Option.map .inr (some (0 : Int))

noncomputable def Q_SamplesFault_l1 (p0x0 : List Sample) (n2 : Int) : Option Int :=
  iter (fun x : Int => Q_SamplesFault_b1 p0x0 x) n2

noncomputable def Q_SamplesFault (p0x0 : List Sample) : Option Int :=
  if (5000 : Int) < (p0x0.length : Int) then
    some (2 : Int)
  else
    Q_SamplesFault_l1 p0x0 (0 : Int)

noncomputable def Q_SeriesFault_1x_j1 (c2 : Bool) : Option Bool :=
  some c2

noncomputable def Q_SeriesFault_1x (p0x0 : Sample) (p1x0 : List Sample) : Option Bool :=
  (idx p1x0 (0 : Int)).bind fun v3 =>
  if p0x0.Device ≠ v3.Device then
    Q_SeriesFault_1x_j1 true
  else
    (idx p1x0 (0 : Int)).bind fun v4 =>
    Q_SeriesFault_1x_j1 (decide (p0x0.Metric ≠ v4.Metric))

noncomputable def Q_SeriesFault (p0x0 : List Sample) : Option Int :=
  (Q_SamplesFault p0x0).bind fun v2 =>
  if v2 ≠ (0 : Int) then
    some v2
  else
    (slices_ContainsFunc_Sample_Sample p0x0 (fun y0 => Q_SeriesFault_1x y0 p0x0)).bind fun v3 =>
    if v3 = true then
      some (13 : Int)
    else
      some (0 : Int)

noncomputable def L_when (p0x0 : Bool) (p1x0 : Int) : Int :=
  if p0x0 = true then
    p1x0
  else
    (0 : Int)

noncomputable def L_errs_b1 (p0x0 : List Int) (n2 : Int) : Option (Int ⊕ Int) :=
  if n2 < (p0x0.length : Int) then
    (idx p0x0 n2).bind fun v3 =>
    if v3 ≠ (0 : Int) then
      Option.map .inr (some v3)
    else
      some (.inl (w64 (n2 + (1 : Int))))
  else
    Option.map .inr (some (0 : Int))

noncomputable def L_errs_l1 (p0x0 : List Int) (n2 : Int) : Option Int :=
  iter (fun x : Int => L_errs_b1 p0x0 x) n2

noncomputable def L_errs (p0x0 : List Int) : Option Int :=
  L_errs_l1 p0x0 (0 : Int)

noncomputable def Q_PairsOf_j2 (n13 : Int) (n19 : Int) : Option ((Int × Int) ⊕ (((List Pairing) × Int) ⊕ (List Pairing))) :=
  some (.inl (n19, w64 (n13 + (1 : Int))))

noncomputable def Q_PairsOf_j1 (n12 : Int) (n13 : Int) (c16 : Bool) : Option ((Int × Int) ⊕ (((List Pairing) × Int) ⊕ (List Pairing))) :=
  if c16 = true then
    Q_PairsOf_j2 n13 n13
  else
    Q_PairsOf_j2 n13 n12

noncomputable def Q_PairsOf_j3 (n6 : Int) (l21 : List Pairing) : Option (((List Pairing) × Int) ⊕ (List Pairing)) :=
  some (.inl (l21, w64 (n6 + (1 : Int))))

noncomputable def Q_PairsOf_k4 (p1x0 : List Sample) (l5 : List Pairing) (n6 : Int) (v8 : Sample) (n12 : Int) : Option (((List Pairing) × Int) ⊕ (List Pairing)) :=
  if (0 : Int) ≤ n12 then
    (idx p1x0 n12).bind fun v22 =>
    (app l5 [(⟨v8, v22⟩ : Pairing)]).bind fun l23 =>
    Q_PairsOf_j3 n6 l23
  else
    Q_PairsOf_j3 n6 l5

noncomputable def Q_PairsOf_b2 (p1x0 : List Sample) (p2x0 : Int) (l5 : List Pairing) (n6 : Int) (v8 : Sample) (n12 : Int) (n13 : Int) : Option ((Int × Int) ⊕ (((List Pairing) × Int) ⊕ (List Pairing))) :=
  if n13 < (p1x0.length : Int) then
    (idx p1x0 n13).bind fun v14 =>
    if (max (w64 (v8.At - v14.At)) (w64 (v14.At - v8.At))) ≤ p2x0 then
      if n12 < (0 : Int) then
        Q_PairsOf_j1 n12 n13 true
      else
        (idx p1x0 n12).bind fun v17 =>
        (idx p1x0 n12).bind fun v18 =>
        Q_PairsOf_j1 n12 n13 (decide ((max (w64 (v8.At - v14.At)) (w64 (v14.At - v8.At))) < (max (w64 (v8.At - v17.At)) (w64 (v18.At - v8.At)))))
    else
      Q_PairsOf_j1 n12 n13 false
  else
    Option.map .inr (Q_PairsOf_k4 p1x0 l5 n6 v8 n12)

noncomputable def Q_PairsOf_l2 (p1x0 : List Sample) (p2x0 : Int) (l5 : List Pairing) (n6 : Int) (v8 : Sample) (n12 : Int) (n13 : Int) : Option (((List Pairing) × Int) ⊕ (List Pairing)) :=
  iter (fun x : Int × Int => Q_PairsOf_b2 p1x0 p2x0 l5 n6 v8 x.1 x.2) (n12, n13)

noncomputable def Q_PairsOf_b1 (p0x0 : List Sample) (p1x0 : List Sample) (p2x0 : Int) (l5 : List Pairing) (n6 : Int) : Option (((List Pairing) × Int) ⊕ (List Pairing)) :=
  if n6 < (p0x0.length : Int) then
    (idx p0x0 n6).bind fun v8 =>
    Q_PairsOf_l2 p1x0 p2x0 l5 n6 v8 (-1 : Int) (0 : Int)
  else
    Option.map .inr (some l5)

noncomputable def Q_PairsOf_l1 (p0x0 : List Sample) (p1x0 : List Sample) (p2x0 : Int) (l5 : List Pairing) (n6 : Int) : Option (List Pairing) :=
  iter (fun x : (List Pairing) × Int => Q_PairsOf_b1 p0x0 p1x0 p2x0 x.1 x.2) (l5, n6)

noncomputable def Q_PairsOf (p0x0 : List Sample) (p1x0 : List Sample) (p2x0 : Int) : Option (List Pairing) :=
  Q_PairsOf_l1 p0x0 p1x0 p2x0 [] (0 : Int)

noncomputable def Q_ThinOf_1x (p0x0 : Int) (p1x0 : Int) (p2x0 : Int) : Option Int :=
  (quo (w64 (p0x0 * (w64 (p1x0 - (2 : Int))))) (w64 (p2x0 - (2 : Int)))).bind fun n1 =>
  some (w64 ((1 : Int) + n1))

noncomputable def Q_floor (p0x0 : Int) (p1x0 : Int) : Option Int :=
  (rem p0x0 p1x0).bind fun n1 =>
  if n1 < (0 : Int) then
    (quo p0x0 p1x0).bind fun n2 =>
    some (w64 (n2 - (1 : Int)))
  else
    (quo p0x0 p1x0).bind fun n3 =>
    some n3

noncomputable def Q_ThinOf_j3 (n41 : Int) (n45 : Int) (n46 : Int) : Option ((Int × Int × Int) ⊕ (((List Sample) × Int) ⊕ ((List Sample) × Int))) :=
  some (.inl (n45, n46, w64 (n41 + (1 : Int))))

noncomputable def Q_ThinOf_k4 (p0x0 : List Sample) (l14 : List Sample) (n15 : Int) (n39 : Int) : Option (((List Sample) × Int) ⊕ ((List Sample) × Int)) :=
  (idx p0x0 n39).bind fun v47 =>
  (app l14 [v47]).bind fun l48 =>
  some (.inl (l48, w64 (n15 + (1 : Int))))

noncomputable def Q_ThinOf_b3 (p0x0 : List Sample) (p1x0 : Int) (l14 : List Sample) (n15 : Int) (n18 : Int) (n19 : Int) (v33 : Sample) (n39 : Int) (n40 : Int) (n41 : Int) : Option ((Int × Int × Int) ⊕ (((List Sample) × Int) ⊕ ((List Sample) × Int))) :=
  (Q_ThinOf_1x (w64 (n15 + (1 : Int))) (p0x0.length : Int) p1x0).bind fun v42 =>
  if n41 < v42 then
    (idx p0x0 n41).bind fun v43 =>
    (idx p0x0 n41).bind fun v44 =>
    if n40 < (max (w64 ((w64 ((w64 (v43.At - v33.At)) * (w64 (n19 - v33.Value)))) - (w64 ((w64 (v44.Value - v33.Value)) * (w64 (n18 - v33.At)))))) (w64 (-(w64 ((w64 ((w64 (v43.At - v33.At)) * (w64 (n19 - v33.Value)))) - (w64 ((w64 (v44.Value - v33.Value)) * (w64 (n18 - v33.At))))))))) then
      Q_ThinOf_j3 n41 n41 (max (w64 ((w64 ((w64 (v43.At - v33.At)) * (w64 (n19 - v33.Value)))) - (w64 ((w64 (v44.Value - v33.Value)) * (w64 (n18 - v33.At)))))) (w64 (-(w64 ((w64 ((w64 (v43.At - v33.At)) * (w64 (n19 - v33.Value)))) - (w64 ((w64 (v44.Value - v33.Value)) * (w64 (n18 - v33.At)))))))))
    else
      Q_ThinOf_j3 n41 n39 n40
  else
    Option.map .inr (Q_ThinOf_k4 p0x0 l14 n15 n39)

noncomputable def Q_ThinOf_l3 (p0x0 : List Sample) (p1x0 : Int) (l14 : List Sample) (n15 : Int) (n18 : Int) (n19 : Int) (v33 : Sample) (n39 : Int) (n40 : Int) (n41 : Int) : Option (((List Sample) × Int) ⊕ ((List Sample) × Int)) :=
  iter (fun x : Int × Int × Int => Q_ThinOf_b3 p0x0 p1x0 l14 n15 n18 n19 v33 x.1 x.2.1 x.2.2) (n39, n40, n41)

noncomputable def Q_ThinOf_j1 (p0x0 : List Sample) (p1x0 : Int) (l14 : List Sample) (n15 : Int) (n18 : Int) (n19 : Int) : Option (((List Sample) × Int) ⊕ ((List Sample) × Int)) :=
  (idx l14 (w64 ((l14.length : Int) - (1 : Int)))).bind fun v33 =>
  (Q_ThinOf_1x n15 (p0x0.length : Int) p1x0).bind fun v35 =>
  Q_ThinOf_l3 p0x0 p1x0 l14 n15 n18 n19 v33 (-1 : Int) (-1 : Int) v35

noncomputable def Q_ThinOf_k2 (p0x0 : List Sample) (p1x0 : Int) (l14 : List Sample) (n15 : Int) (l22 : List Sample) (n26 : Int) (n27 : Int) : Option (((List Sample) × Int) ⊕ ((List Sample) × Int)) :=
  (Q_floor n26 (l22.length : Int)).bind fun v31 =>
  (Q_floor n27 (l22.length : Int)).bind fun v32 =>
  Q_ThinOf_j1 p0x0 p1x0 l14 n15 v31 v32

noncomputable def Q_ThinOf_b2 (p0x0 : List Sample) (p1x0 : Int) (l14 : List Sample) (n15 : Int) (l22 : List Sample) (n26 : Int) (n27 : Int) (n28 : Int) : Option ((Int × Int × Int) ⊕ (((List Sample) × Int) ⊕ ((List Sample) × Int))) :=
  if n28 < (l22.length : Int) then
    (idx l22 n28).bind fun v29 =>
    some (.inl (w64 (n26 + v29.At), w64 (n27 + v29.Value), w64 (n28 + (1 : Int))))
  else
    Option.map .inr (Q_ThinOf_k2 p0x0 p1x0 l14 n15 l22 n26 n27)

noncomputable def Q_ThinOf_l2 (p0x0 : List Sample) (p1x0 : Int) (l14 : List Sample) (n15 : Int) (l22 : List Sample) (n26 : Int) (n27 : Int) (n28 : Int) : Option (((List Sample) × Int) ⊕ ((List Sample) × Int)) :=
  iter (fun x : Int × Int × Int => Q_ThinOf_b2 p0x0 p1x0 l14 n15 l22 x.1 x.2.1 x.2.2) (n26, n27, n28)

noncomputable def Q_ThinOf_k5 (p0x0 : List Sample) (l14 : List Sample) : Option ((List Sample) × Int) :=
  (idx p0x0 (w64 ((p0x0.length : Int) - (1 : Int)))).bind fun v50 =>
  (app l14 [v50]).bind fun l51 =>
  some (l51, (0 : Int))

noncomputable def Q_ThinOf_b1 (p0x0 : List Sample) (p1x0 : Int) (l14 : List Sample) (n15 : Int) : Option (((List Sample) × Int) ⊕ ((List Sample) × Int)) :=
  if n15 < (w64 (p1x0 - (2 : Int))) then
    (idx p0x0 (w64 ((p0x0.length : Int) - (1 : Int)))).bind fun v16 =>
    if n15 < (w64 (p1x0 - (3 : Int))) then
      (Q_ThinOf_1x (w64 (n15 + (1 : Int))) (p0x0.length : Int) p1x0).bind fun v20 =>
      (Q_ThinOf_1x (w64 (n15 + (2 : Int))) (p0x0.length : Int) p1x0).bind fun v21 =>
      (slc p0x0 v20 v21).bind fun l22 =>
      Q_ThinOf_l2 p0x0 p1x0 l14 n15 l22 (0 : Int) (0 : Int) (0 : Int)
    else
      Q_ThinOf_j1 p0x0 p1x0 l14 n15 v16.At v16.Value
  else
    Option.map .inr (Q_ThinOf_k5 p0x0 l14)

noncomputable def Q_ThinOf_l1 (p0x0 : List Sample) (p1x0 : Int) (l14 : List Sample) (n15 : Int) : Option ((List Sample) × Int) :=
  iter (fun x : (List Sample) × Int => Q_ThinOf_b1 p0x0 p1x0 x.1 x.2) (l14, n15)

noncomputable def Q_ThinOf (p0x0 : List Sample) (p1x0 : Int) : Option ((List Sample) × Int) :=
  if (p0x0.length : Int) ≤ p1x0 then
    (slices_Clone_Sample_Sample p0x0).bind fun v3 =>
    some (v3, (0 : Int))
  else
    (idx p0x0 (w64 ((p0x0.length : Int) - (1 : Int)))).bind fun v5 =>
    (idx p0x0 (0 : Int)).bind fun v6 =>
    if (864000000 : Int) < (w64 (v5.At - v6.At)) then
      some ([], (2 : Int))
    else
      (idx p0x0 (0 : Int)).bind fun v8 =>
      Q_ThinOf_l1 p0x0 p1x0 [v8] (0 : Int)

noncomputable def slices_Equal_Pairing_Pairing_b1 (p0x0 : List Pairing) (p1x0 : List Pairing) (n2 : Int) : Option (Int ⊕ Bool) :=
  if n2 < (p0x0.length : Int) then
    (idx p0x0 n2).bind fun v3 =>
    (idx p1x0 n2).bind fun v4 =>
    if v3 ≠ v4 then
      Option.map .inr (some false)
    else
      some (.inl (w64 (n2 + (1 : Int))))
  else
    Option.map .inr (some true)

noncomputable def slices_Equal_Pairing_Pairing_l1 (p0x0 : List Pairing) (p1x0 : List Pairing) (n2 : Int) : Option Bool :=
  iter (fun x : Int => slices_Equal_Pairing_Pairing_b1 p0x0 p1x0 x) n2

noncomputable def slices_Equal_Pairing_Pairing (p0x0 : List Pairing) (p1x0 : List Pairing) : Option Bool :=
  if (p0x0.length : Int) ≠ (p1x0.length : Int) then
    some false
  else
    slices_Equal_Pairing_Pairing_l1 p0x0 p1x0 (0 : Int)

noncomputable def slices_Equal_Sample_Sample_b1 (p0x0 : List Sample) (p1x0 : List Sample) (n2 : Int) : Option (Int ⊕ Bool) :=
  if n2 < (p0x0.length : Int) then
    (idx p0x0 n2).bind fun v3 =>
    (idx p1x0 n2).bind fun v4 =>
    if v3 ≠ v4 then
      Option.map .inr (some false)
    else
      some (.inl (w64 (n2 + (1 : Int))))
  else
    Option.map .inr (some true)

noncomputable def slices_Equal_Sample_Sample_l1 (p0x0 : List Sample) (p1x0 : List Sample) (n2 : Int) : Option Bool :=
  iter (fun x : Int => slices_Equal_Sample_Sample_b1 p0x0 p1x0 x) n2

noncomputable def slices_Equal_Sample_Sample (p0x0 : List Sample) (p1x0 : List Sample) : Option Bool :=
  if (p0x0.length : Int) ≠ (p1x0.length : Int) then
    some false
  else
    slices_Equal_Sample_Sample_l1 p0x0 p1x0 (0 : Int)

noncomputable def series_seven_n0x_k1 (l5 : List Int) (n6 : Int) : Option (List Int) :=
  (app l5 [IntKind.u8.wrap (n6)]).bind fun l10 =>
  some l10

noncomputable def series_seven_n0x_b1 (l5 : List Int) (n6 : Int) : Option (((List Int) × Int) ⊕ (List Int)) :=
  if (128 : Int) ≤ n6 then
    (app l5 [orI .u8 (IntKind.u8.wrap (andI .u64 n6 (127 : Int))) (128 : Int)]).bind fun l8 =>
    some (.inl (l8, shrI .u64 n6 (7 : Int)))
  else
    Option.map .inr (series_seven_n0x_k1 l5 n6)

noncomputable def series_seven_n0x_l1 (l5 : List Int) (n6 : Int) : Option (List Int) :=
  iter (fun x : (List Int) × Int => series_seven_n0x_b1 x.1 x.2) (l5, n6)

noncomputable def series_seven_n0x (p1x0 : Int) : Option (List Int) :=
  series_seven_n0x_l1 [] p1x0

noncomputable def series_doubled (p0x0 : Int) : Int :=
  if p0x0 < (0 : Int) then
    IntKind.u64.wrap (w64 ((w64 ((-2 : Int) * p0x0)) - (1 : Int)))
  else
    IntKind.u64.wrap (w64 ((2 : Int) * p0x0))

noncomputable def series_seven_o0x_k1 (l5 : List Int) (n6 : Int) : Option (List Int) :=
  (app l5 [IntKind.u8.wrap (n6)]).bind fun l9 =>
  some l9

noncomputable def series_seven_o0x_b1 (l5 : List Int) (n6 : Int) : Option (((List Int) × Int) ⊕ (List Int)) :=
  if (128 : Int) ≤ n6 then
    (app l5 [orI .u8 (IntKind.u8.wrap (andI .u64 n6 (127 : Int))) (128 : Int)]).bind fun l7 =>
    some (.inl (l7, shrI .u64 n6 (7 : Int)))
  else
    Option.map .inr (series_seven_o0x_k1 l5 n6)

noncomputable def series_seven_o0x_l1 (l5 : List Int) (n6 : Int) : Option (List Int) :=
  iter (fun x : (List Int) × Int => series_seven_o0x_b1 x.1 x.2) (l5, n6)

noncomputable def series_seven_o0x (p0x0 : List Int) (p1x0 : Int) : Option (List Int) :=
  series_seven_o0x_l1 p0x0 p1x0

noncomputable def series_pack_j1 (n14 : Int) (v15 : Sample) (v19 : (List Int)) (n21 : Int) : Option (((List Int) × Int × Int × Int × Int) ⊕ (List Int)) :=
  some (.inl (v19, v15.At, n21, v15.Value, w64 (n14 + (1 : Int))))

noncomputable def series_pack_b1 (p0x0 : List Sample) (l10 : List Int) (n11 : Int) (n12 : Int) (n13 : Int) (n14 : Int) : Option (((List Int) × Int × Int × Int × Int) ⊕ (List Int)) :=
  if n14 < (p0x0.length : Int) then
    (idx p0x0 n14).bind fun v15 =>
    (series_seven_o0x l10 (series_doubled (w64 ((w64 (v15.At - n11)) - n12)))).bind fun v17 =>
    (series_seven_o0x v17 (series_doubled (w64 (v15.Value - n13)))).bind fun v19 =>
    if (0 : Int) < n14 then
      series_pack_j1 n14 v15 v19 (w64 (v15.At - n11))
    else
      series_pack_j1 n14 v15 v19 n12
  else
    Option.map .inr (some l10)

noncomputable def series_pack_l1 (p0x0 : List Sample) (l10 : List Int) (n11 : Int) (n12 : Int) (n13 : Int) (n14 : Int) : Option (List Int) :=
  iter (fun x : (List Int) × Int × Int × Int × Int => series_pack_b1 p0x0 x.1 x.2.1 x.2.2.1 x.2.2.2.1 x.2.2.2.2) (l10, n11, n12, n13, n14)

noncomputable def series_pack (p0x0 : List Sample) : Option (List Int) :=
  (series_seven_n0x (IntKind.u64.wrap ((p0x0.length : Int)))).bind fun v1 =>
  series_pack_l1 p0x0 v1 (0 : Int) (0 : Int) (0 : Int) (0 : Int)

noncomputable def series_Pack (p0x0 : List Sample) : Option ((List Int) × Int) :=
  (series_CheckSeries p0x0).bind fun v1 =>
  if v1 ≠ (0 : Int) then
    some ([], v1)
  else
    (series_pack p0x0).bind fun v3 =>
    some (v3, (0 : Int))

noncomputable def slices_Equal_byte_byte_b1 (p0x0 : List Int) (p1x0 : List Int) (n2 : Int) : Option (Int ⊕ Bool) :=
  if n2 < (p0x0.length : Int) then
    (idx p0x0 n2).bind fun v3 =>
    (idx p1x0 n2).bind fun v4 =>
    if v3 ≠ v4 then
      Option.map .inr (some false)
    else
      some (.inl (w64 (n2 + (1 : Int))))
  else
    Option.map .inr (some true)

noncomputable def slices_Equal_byte_byte_l1 (p0x0 : List Int) (p1x0 : List Int) (n2 : Int) : Option Bool :=
  iter (fun x : Int => slices_Equal_byte_byte_b1 p0x0 p1x0 x) n2

noncomputable def slices_Equal_byte_byte (p0x0 : List Int) (p1x0 : List Int) : Option Bool :=
  if (p0x0.length : Int) ≠ (p1x0.length : Int) then
    some false
  else
    slices_Equal_byte_byte_l1 p0x0 p1x0 (0 : Int)

noncomputable def L_measured_j1 (c3 : Bool) : Option Bool :=
  some c3

noncomputable def L_measured : Option Bool :=
  (series_Pack [(⟨([100] : Str), ([109] : Str), (1 : Int), (1 : Int)⟩ : Sample)]).bind fun v1 =>
  if v1.2 = (0 : Int) then
    (slices_Equal_byte_byte v1.1 [(1 : Int), (2 : Int), (2 : Int)]).bind fun v4 =>
    L_measured_j1 v4
  else
    L_measured_j1 false

noncomputable def L_SeriesPaired_j5 (c32 : Bool) : Option Bool :=
  some c32

noncomputable def L_SeriesPaired_j4 (v8 : (List Pairing) × Int) (v10 : (List Sample) × Int) (n12 : Int) (l22 : List Pairing) (n26 : Int) (l28 : List Sample) : Option Bool :=
  if v8.2 = n12 then
    (slices_Equal_Pairing_Pairing v8.1 l22).bind fun v33 =>
    if v33 = true then
      if v10.2 = n26 then
        (slices_Equal_Sample_Sample v10.1 l28).bind fun v34 =>
        if v34 = true then
          (L_measured).bind fun v35 =>
          L_SeriesPaired_j5 v35
        else
          L_SeriesPaired_j5 false
      else
        L_SeriesPaired_j5 false
    else
      L_SeriesPaired_j5 false
  else
    L_SeriesPaired_j5 false

noncomputable def L_SeriesPaired_j3 (v2 : (List Sample) × Fleetmake_Stream) (v7 : Int × Fleetmake_Stream) (v8 : (List Pairing) × Int) (v10 : (List Sample) × Int) (n12 : Int) (n17 : Int) (l22 : List Pairing) : Option Bool :=
  if n17 = (0 : Int) then
    (Q_ThinOf v2.1 v7.1).bind fun v29 =>
    L_SeriesPaired_j4 v8 v10 n12 l22 v29.2 v29.1
  else
    L_SeriesPaired_j4 v8 v10 n12 l22 n17 []

noncomputable def L_SeriesPaired_j2 (v2 : (List Sample) × Fleetmake_Stream) (v4 : (List Sample) × Fleetmake_Stream) (v6 : Int × Fleetmake_Stream) (v7 : Int × Fleetmake_Stream) (v8 : (List Pairing) × Int) (v10 : (List Sample) × Int) (n12 : Int) (n17 : Int) : Option Bool :=
  if n12 = (0 : Int) then
    (Q_PairsOf v2.1 v4.1 v6.1).bind fun v23 =>
    L_SeriesPaired_j3 v2 v7 v8 v10 n12 n17 v23
  else
    L_SeriesPaired_j3 v2 v7 v8 v10 n12 n17 []

noncomputable def L_SeriesPaired_j1 (v2 : (List Sample) × Fleetmake_Stream) (v4 : (List Sample) × Fleetmake_Stream) (v6 : Int × Fleetmake_Stream) (v7 : Int × Fleetmake_Stream) (v8 : (List Pairing) × Int) (v10 : (List Sample) × Int) (n12 : Int) : Option Bool :=
  (Q_SeriesFault v2.1).bind fun v18 =>
  if v7.1 < (3 : Int) then
    (L_errs [v18, (L_when true (1 : Int))]).bind fun v20 =>
    L_SeriesPaired_j2 v2 v4 v6 v7 v8 v10 n12 v20
  else
    (L_errs [v18, (L_when (decide ((5000 : Int) < v7.1)) (1 : Int))]).bind fun v19 =>
    L_SeriesPaired_j2 v2 v4 v6 v7 v8 v10 n12 v19

noncomputable def L_SeriesPaired (p0x0 : List Int) : Option Bool :=
  (Stream_Series (⟨p0x0, (0 : Int)⟩ : Fleetmake_Stream) (14 : Int)).bind fun v2 =>
  (Stream_Series v2.2 (6 : Int)).bind fun v4 =>
  (Stream_Pick v4.2 [(0 : Int), (1 : Int), (5 : Int), (20 : Int), (345686400000 : Int), (-1 : Int), (345686400001 : Int)]).bind fun v6 =>
  (Stream_Pick v6.2 [(3 : Int), (4 : Int), (5 : Int), (8 : Int), (5000 : Int), (2 : Int), (5001 : Int)]).bind fun v7 =>
  (series_Pair v2.1 v4.1 v6.1).bind fun v8 =>
  (series_Thin v2.1 v7.1).bind fun v10 =>
  (Q_SeriesFault v2.1).bind fun v13 =>
  (Q_SeriesFault v4.1).bind fun v14 =>
  if v6.1 < (0 : Int) then
    (L_errs [v13, v14, (L_when true (1 : Int))]).bind fun v16 =>
    L_SeriesPaired_j1 v2 v4 v6 v7 v8 v10 v16
  else
    (L_errs [v13, v14, (L_when (decide ((345686400000 : Int) < v6.1)) (1 : Int))]).bind fun v15 =>
    L_SeriesPaired_j1 v2 v4 v6 v7 v8 v10 v15

end Go.Beacon
