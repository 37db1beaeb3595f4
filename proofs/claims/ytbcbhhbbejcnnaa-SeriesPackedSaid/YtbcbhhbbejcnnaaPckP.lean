/- Plain functions that the Go functions compute, written by shal.py. -/
import Derived.Test.YtbcbhhbbejcnnaaCore
set_option linter.unusedVariables false
namespace Go.Beacon
open Go Go.Eng
structure Fleetmake_Stream where
  L : List Int
  at_ : Int
deriving DecidableEq, Inhabited
def Fleetmake_Stream.av (x : Fleetmake_Stream) : AV := .agg [.list 1 (x.L.map I), I x.at_]

structure Sample where
  Device : Str
  Metric : Str
  At : Int
  Value : Int
deriving DecidableEq, Inhabited
def Sample.av (x : Sample) : AV := .agg [.str x.Device, .str x.Metric, I x.At, I x.Value]

noncomputable def Below_j1 (n2 : Int) : Option Int :=
  some n2

noncomputable def Below (p0x0 : Int) (p1x0 : Int) : Option Int :=
  if p1x0 < (1 : Int) then
    some (0 : Int)
  else
    (rem p0x0 p1x0).bind fun n1 =>
    if n1 < (0 : Int) then
      Below_j1 (w64 (n1 + p1x0))
    else
      Below_j1 n1

noncomputable def Stream_Next (p0x0 : Fleetmake_Stream) (p1x0 : Int) : Option (Int × Fleetmake_Stream) :=
  if (p0x0.L.length : Int) = (0 : Int) then
    (Below (w64 ((w64 (p0x0.at_ + (1 : Int))) * (7919 : Int))) p1x0).bind fun v1 =>
    some (v1, (⟨p0x0.L, w64 (p0x0.at_ + (1 : Int))⟩ : Fleetmake_Stream))
  else
    (rem (w64 ((w64 (p0x0.at_ + (1 : Int))) - (1 : Int))) (p0x0.L.length : Int)).bind fun n2 =>
    (quo (w64 ((w64 (p0x0.at_ + (1 : Int))) - (1 : Int))) (p0x0.L.length : Int)).bind fun n3 =>
    (idx p0x0.L n2).bind fun v4 =>
    (Below v4 (1073741824 : Int)).bind fun v5 =>
    (Below (w64 (v5 + (w64 (n3 * (w64 ((7919 : Int) + n2)))))) p1x0).bind fun v6 =>
    some (v6, (⟨p0x0.L, w64 (p0x0.at_ + (1 : Int))⟩ : Fleetmake_Stream))

noncomputable def Stream_Pick (p0x0 : Fleetmake_Stream) (p1x0 : List Int) : Option (Int × Fleetmake_Stream) :=
  (Stream_Next p0x0 (p1x0.length : Int)).bind fun v1 =>
  (idx p1x0 v1.1).bind fun v2 =>
  some (v2, v1.2)

noncomputable def Stream_Range (p0x0 : Fleetmake_Stream) (p1x0 : Int) (p2x0 : Int) : Option (Int × Fleetmake_Stream) :=
  if p2x0 < p1x0 then
    some (p1x0, p0x0)
  else
    (Stream_Next p0x0 (w64 ((w64 (p2x0 - p1x0)) + (1 : Int)))).bind fun v1 =>
    some (w64 (p1x0 + v1.1), v1.2)

noncomputable def Stream_RightSeries_b1 (p2x0 : Int) (v1 : Int × Fleetmake_Stream) (l8 : List Int) (n9 : Int) (l11 : List Sample) (n12 : Int) (n13 : Int) : Option (((List Int) × Int × (List Sample) × Int × Int) ⊕ ((List Sample) × Fleetmake_Stream)) :=
  if n13 < v1.1 then
    (Stream_Pick (⟨l8, n9⟩ : Fleetmake_Stream) [(1 : Int), (1 : Int), (2 : Int), (5 : Int), (10 : Int), (10 : Int), (40 : Int), (127 : Int), (1000 : Int)]).bind fun v15 =>
    (Stream_Pick v15.2 [(0 : Int), (1 : Int), (2 : Int), (5 : Int), (7 : Int), (9 : Int), (-3 : Int), (-70 : Int), (100 : Int), (1000 : Int), (5 : Int)]).bind fun v16 =>
    (app l11 [(⟨([100] : Str), ([109] : Str), w64 (n12 + v15.1), max p2x0 v16.1⟩ : Sample)]).bind fun l17 =>
    some (.inl (v16.2.L, v16.2.at_, l17, w64 (n12 + v15.1), w64 (n13 + (1 : Int))))
  else
    Option.map .inr (some (l11, (⟨l8, n9⟩ : Fleetmake_Stream)))

noncomputable def Stream_RightSeries_l1 (p2x0 : Int) (v1 : Int × Fleetmake_Stream) (l8 : List Int) (n9 : Int) (l11 : List Sample) (n12 : Int) (n13 : Int) : Option ((List Sample) × Fleetmake_Stream) :=
  iter (fun x : (List Int) × Int × (List Sample) × Int × Int => Stream_RightSeries_b1 p2x0 v1 x.1 x.2.1 x.2.2.1 x.2.2.2.1 x.2.2.2.2) (l8, n9, l11, n12, n13)

noncomputable def Stream_RightSeries (p0x0 : Fleetmake_Stream) (p1x0 : Int) (p2x0 : Int) : Option ((List Sample) × Fleetmake_Stream) :=
  (Stream_Range p0x0 (0 : Int) p1x0).bind fun v1 =>
  Stream_RightSeries_l1 p2x0 v1 v1.2.L v1.2.at_ [] (0 : Int) (0 : Int)

noncomputable def Stream_Flip (p0x0 : Fleetmake_Stream) (p1x0 : Int) : Option (Bool × Fleetmake_Stream) :=
  (Stream_Next p0x0 p1x0).bind fun v1 =>
  some (decide (v1.1 = (0 : Int)), v1.2)

noncomputable def Stream_Some (p0x0 : Fleetmake_Stream) (p1x0 : List Str) : Option (Str × Fleetmake_Stream) :=
  (Stream_Next p0x0 (p1x0.length : Int)).bind fun v1 =>
  (idx p1x0 v1.1).bind fun v2 =>
  some (v2, v1.2)

noncomputable def Stream_Odd (p0x0 : Fleetmake_Stream) (p1x0 : Int) (p2x0 : Int) : Option (Int × Fleetmake_Stream) :=
  (Stream_Flip p0x0 (12 : Int)).bind fun v1 =>
  if v1.1 = true then
    (Stream_Pick v1.2 [w64 (p1x0 - (1 : Int)), w64 (p2x0 + (1 : Int)), p1x0, p2x0, (-1099511627776 : Int), (1099511627776 : Int)]).bind fun v2 =>
    some (v2.1, v2.2)
  else
    (Stream_Range v1.2 p1x0 p2x0).bind fun v3 =>
    some (v3.1, v3.2)

noncomputable def Stream_Series_j7 (l31 : List Int) (n32 : Int) (l33 : List Sample) : Option ((List Sample) × Fleetmake_Stream) :=
  some (l33, (⟨l31, n32⟩ : Fleetmake_Stream))

noncomputable def Stream_Series_j6 (l10 : List Sample) (l27 : List Int) (n28 : Int) (c29 : Bool) : Option ((List Sample) × Fleetmake_Stream) :=
  if c29 = true then
    (idx l10 (w64 ((l10.length : Int) - (1 : Int)))).bind fun v34 =>
    (Stream_Pick (⟨l27, n28⟩ : Fleetmake_Stream) [(345686399999 : Int), (3456000000 : Int), (950400000 : Int)]).bind fun v35 =>
    (Stream_Pick v35.2 [(1000000000 : Int), (-1000000000 : Int)]).bind fun v36 =>
    Stream_Series_j7 v36.2.L v36.2.at_ ((l10.set (w64 ((l10.length : Int) - (1 : Int))).toNat (⟨v34.Device, v34.Metric, v35.1, v34.Value⟩ : Sample)).set (w64 ((l10.length : Int) - (1 : Int))).toNat (⟨v34.Device, v34.Metric, v35.1, v36.1⟩ : Sample))
  else
    Stream_Series_j7 l27 n28 l10

noncomputable def Stream_Series_j2 (l8 : List Int) (n9 : Int) (l10 : List Sample) : Option ((List Sample) × Fleetmake_Stream) :=
  if (0 : Int) < (l10.length : Int) then
    (Stream_Flip (⟨l8, n9⟩ : Fleetmake_Stream) (25 : Int)).bind fun v30 =>
    Stream_Series_j6 l10 v30.2.L v30.2.at_ v30.1
  else
    Stream_Series_j6 l10 l8 n9 false

noncomputable def Stream_Series_j3 (l14 : List Int) (n15 : Int) (l16 : List Sample) : Option ((List Sample) × Fleetmake_Stream) :=
  Stream_Series_j2 l14 n15 l16

noncomputable def Stream_Series_j4 (l18 : List Int) (n19 : Int) (l20 : List Sample) : Option ((List Sample) × Fleetmake_Stream) :=
  Stream_Series_j3 l18 n19 l20

noncomputable def Stream_Series_j5 (l22 : List Int) (n23 : Int) (l24 : List Sample) : Option ((List Sample) × Fleetmake_Stream) :=
  Stream_Series_j4 l22 n23 l24

noncomputable def Stream_Series_j1 (v2 : (List Sample) × Fleetmake_Stream) (l4 : List Int) (n5 : Int) (c6 : Bool) : Option ((List Sample) × Fleetmake_Stream) :=
  if c6 = true then
    (Stream_Next (⟨l4, n5⟩ : Fleetmake_Stream) (v2.1.length : Int)).bind fun v11 =>
    (idx v2.1 v11.1).bind fun v12 =>
    (Stream_Next v11.2 (4 : Int)).bind fun v13 =>
    if v13.1 = (0 : Int) then
      (Stream_Some v13.2 [([] : Str), ([101] : Str), ([65] : Str)]).bind fun v17 =>
      Stream_Series_j3 v17.2.L v17.2.at_ (v2.1.set v11.1.toNat (⟨v17.1, v12.Metric, v12.At, v12.Value⟩ : Sample))
    else
      if v13.1 = (1 : Int) then
        (Stream_Some v13.2 [([] : Str), ([110] : Str)]).bind fun v21 =>
        Stream_Series_j4 v21.2.L v21.2.at_ (v2.1.set v11.1.toNat (⟨v12.Device, v21.1, v12.At, v12.Value⟩ : Sample))
      else
        if v13.1 = (2 : Int) then
          (Stream_Odd v13.2 (0 : Int) (100 : Int)).bind fun v25 =>
          Stream_Series_j5 v25.2.L v25.2.at_ (v2.1.set v11.1.toNat (⟨v12.Device, v12.Metric, v25.1, v12.Value⟩ : Sample))
        else
          (Stream_Odd v13.2 (-1000000000 : Int) (1000000000 : Int)).bind fun v26 =>
          Stream_Series_j5 v26.2.L v26.2.at_ (v2.1.set v11.1.toNat (⟨v12.Device, v12.Metric, v12.At, v26.1⟩ : Sample))
  else
    Stream_Series_j2 l4 n5 v2.1

noncomputable def Stream_Series (p0x0 : Fleetmake_Stream) (p1x0 : Int) : Option ((List Sample) × Fleetmake_Stream) :=
  (Stream_Pick p0x0 [(0 : Int), (-100 : Int)]).bind fun v1 =>
  (Stream_RightSeries v1.2 p1x0 v1.1).bind fun v2 =>
  if (0 : Int) < (v2.1.length : Int) then
    (Stream_Flip v2.2 (12 : Int)).bind fun v7 =>
    Stream_Series_j1 v2 v7.2.L v7.2.at_ v7.1
  else
    Stream_Series_j1 v2 v2.2.L v2.2.at_ false

noncomputable def Q_sevens_bd (self : Int → Option (List Int)) (p0x0 : Int) : Option (List Int) :=
  if p0x0 < (128 : Int) then
    some [IntKind.u8.wrap (p0x0)]
  else
    (self (w64 (p0x0.tdiv (128 : Int)))).bind fun v3 =>
    (app [IntKind.u8.wrap (w64 ((p0x0.tmod (128 : Int)) + (128 : Int)))] v3).bind fun l5 =>
    some l5

/-- The function, to some depth. -/
noncomputable def Q_sevens_r : Nat → Int → Option (List Int)
  | 0 => fun _ => none
  | k + 1 => Q_sevens_bd (Q_sevens_r k)

noncomputable def Q_sevens (p0x0 : Int) : Option (List Int) :=
  Q_sevens_r depth p0x0

noncomputable def Q_turned (p0x0 : Int) : Int :=
  if p0x0 < (0 : Int) then
    w64 ((w64 ((-2 : Int) * p0x0)) - (1 : Int))
  else
    w64 ((2 : Int) * p0x0)

noncomputable def Q_PackOf_j1 (n14 : Int) (v15 : Sample) (l23 : List Int) (n25 : Int) : Option (((List Int) × Int × Int × Int × Int) ⊕ (List Int)) :=
  some (.inl (l23, v15.At, n25, v15.Value, w64 (n14 + (1 : Int))))

noncomputable def Q_PackOf_b1 (p0x0 : List Sample) (l10 : List Int) (n11 : Int) (n12 : Int) (n13 : Int) (n14 : Int) : Option (((List Int) × Int × Int × Int × Int) ⊕ (List Int)) :=
  if n14 < (p0x0.length : Int) then
    (idx p0x0 n14).bind fun v15 =>
    (Q_sevens (Q_turned (w64 ((w64 (v15.At - n11)) - n12)))).bind fun v17 =>
    (app l10 v17).bind fun l19 =>
    (Q_sevens (Q_turned (w64 (v15.Value - n13)))).bind fun v21 =>
    (app l19 v21).bind fun l23 =>
    if n14 = (0 : Int) then
      Q_PackOf_j1 n14 v15 l23 (0 : Int)
    else
      Q_PackOf_j1 n14 v15 l23 (w64 (v15.At - n11))
  else
    Option.map .inr (some l10)

noncomputable def Q_PackOf_l1 (p0x0 : List Sample) (l10 : List Int) (n11 : Int) (n12 : Int) (n13 : Int) (n14 : Int) : Option (List Int) :=
  iter (fun x : (List Int) × Int × Int × Int × Int => Q_PackOf_b1 p0x0 x.1 x.2.1 x.2.2.1 x.2.2.2.1 x.2.2.2.2) (l10, n11, n12, n13, n14)

noncomputable def Q_PackOf (p0x0 : List Sample) : Option (List Int) :=
  (Q_sevens (p0x0.length : Int)).bind fun v1 =>
  Q_PackOf_l1 p0x0 v1 (0 : Int) (0 : Int) (0 : Int) (0 : Int)

noncomputable def Stream_Bytes_j1 (n13 : Int) (l19 : List Int) (n20 : Int) (l22 : List Int) : Option (((List Int) × Int × (List Int) × Int) ⊕ ((List Int) × Fleetmake_Stream)) :=
  some (.inl (l19, n20, l22, w64 (n13 + (1 : Int))))

noncomputable def Stream_Bytes_j2 (n13 : Int) (l27 : List Int) (n28 : Int) (l30 : List Int) : Option (((List Int) × Int × (List Int) × Int) ⊕ ((List Int) × Fleetmake_Stream)) :=
  Stream_Bytes_j1 n13 l27 n28 l30

noncomputable def Stream_Bytes_j3 (n13 : Int) (l35 : List Int) (n36 : Int) (l37 : List Int) : Option (((List Int) × Int × (List Int) × Int) ⊕ ((List Int) × Fleetmake_Stream)) :=
  Stream_Bytes_j2 n13 l35 n36 l37

noncomputable def Stream_Bytes_b1 (v3 : Int × Fleetmake_Stream) (l9 : List Int) (n10 : Int) (l12 : List Int) (n13 : Int) : Option (((List Int) × Int × (List Int) × Int) ⊕ ((List Int) × Fleetmake_Stream)) :=
  if n13 < v3.1 then
    if (l12.length : Int) = (0 : Int) then
      (Stream_Next (⟨l9, n10⟩ : Fleetmake_Stream) (256 : Int)).bind fun v14 =>
      (app l12 [IntKind.u8.wrap (v14.1)]).bind fun l15 =>
      Option.map .inr (some (l15, v14.2))
    else
      (Stream_Next (⟨l9, n10⟩ : Fleetmake_Stream) (l12.length : Int)).bind fun v17 =>
      (Stream_Next v17.2 (4 : Int)).bind fun v18 =>
      if v18.1 = (0 : Int) then
        (slc l12 (0 : Int) v17.1).bind fun l23 =>
        (slc l12 (w64 (v17.1 + (1 : Int))) (l12.length : Int)).bind fun l24 =>
        (app l23 l24).bind fun l25 =>
        Stream_Bytes_j1 n13 v18.2.L v18.2.at_ l25
      else
        if v18.1 = (1 : Int) then
          (slc l12 (0 : Int) (w64 (v17.1 + (1 : Int)))).bind fun l31 =>
          (slc l12 v17.1 (l12.length : Int)).bind fun l32 =>
          (app l31 l32).bind fun l33 =>
          Stream_Bytes_j2 n13 v18.2.L v18.2.at_ l33
        else
          if v18.1 = (2 : Int) then
            (slc l12 (0 : Int) v17.1).bind fun l38 =>
            Stream_Bytes_j3 n13 v18.2.L v18.2.at_ l38
          else
            (idx l12 v17.1).bind fun v39 =>
            (Stream_Next v18.2 (8 : Int)).bind fun v40 =>
            (shlO .u8 (1 : Int) v40.1).bind fun n41 =>
            (idx l12 v17.1).bind fun v42 =>
            Stream_Bytes_j3 n13 v40.2.L v40.2.at_ (l12.set v17.1.toNat (xorI .u8 v39 n41))
  else
    Option.map .inr (some (l12, (⟨l9, n10⟩ : Fleetmake_Stream)))

noncomputable def Stream_Bytes_l1 (v3 : Int × Fleetmake_Stream) (l9 : List Int) (n10 : Int) (l12 : List Int) (n13 : Int) : Option ((List Int) × Fleetmake_Stream) :=
  iter (fun x : (List Int) × Int × (List Int) × Int => Stream_Bytes_b1 v3 x.1 x.2.1 x.2.2.1 x.2.2.2) (l9, n10, l12, n13)

noncomputable def Stream_Bytes (p0x0 : Fleetmake_Stream) (p1x0 : List Int) : Option ((List Int) × Fleetmake_Stream) :=
  (app ([] : List Int) p1x0).bind fun l1 =>
  (Stream_Range p0x0 (1 : Int) (2 : Int)).bind fun v3 =>
  Stream_Bytes_l1 v3 v3.2.L v3.2.at_ l1 (0 : Int)

noncomputable def Stream_Packed_j2 (l13 : List Int) (n14 : Int) (l15 : List Int) : Option ((List Int) × Fleetmake_Stream) :=
  some (l15, (⟨l13, n14⟩ : Fleetmake_Stream))

noncomputable def Stream_Packed_j1 (l6 : List Int) (n7 : Int) (l9 : List Int) : Option ((List Int) × Fleetmake_Stream) :=
  (Stream_Flip (⟨l6, n7⟩ : Fleetmake_Stream) (25 : Int)).bind fun v12 =>
  if v12.1 = true then
    (Stream_Next v12.2 (6 : Int)).bind fun v16 =>
    (idx [[], [(0 : Int)], [(0 : Int), (0 : Int)], [(128 : Int), (0 : Int)], [(1 : Int), (128 : Int), (0 : Int), (0 : Int)], [(255 : Int), (255 : Int), (255 : Int), (255 : Int), (255 : Int), (255 : Int), (255 : Int), (255 : Int), (255 : Int), (1 : Int)]] v16.1).bind fun v17 =>
    Stream_Packed_j2 v16.2.L v16.2.at_ v17
  else
    Stream_Packed_j2 v12.2.L v12.2.at_ l9

noncomputable def Stream_Packed (p0x0 : Fleetmake_Stream) : Option ((List Int) × Fleetmake_Stream) :=
  (Stream_RightSeries p0x0 (8 : Int) (-100 : Int)).bind fun v1 =>
  (Q_PackOf v1.1).bind fun v3 =>
  (Stream_Flip v1.2 (3 : Int)).bind fun v5 =>
  if v5.1 = true then
    (Stream_Bytes v5.2 v3).bind fun v10 =>
    Stream_Packed_j1 v10.2.L v10.2.at_ v10.1
  else
    Stream_Packed_j1 v5.2.L v5.2.at_ v3

noncomputable def base_Key_j2 (n5 : Int) (c7 : Bool) : Option (Int ⊕ Bool) :=
  if c7 = true then
    Option.map .inr (some false)
  else
    some (.inl (w64 (n5 + (1 : Int))))

noncomputable def base_Key_b1 (p0x0 : Str) (n5 : Int) : Option (Int ⊕ Bool) :=
  if n5 < (p0x0.length : Int) then
    (idx p0x0 n5).bind fun c6 =>
    base_Key_j2 n5 (if (97 : Int) ≤ (c6.toNat : Int) then if (c6.toNat : Int) ≤ (122 : Int) then !true else if (48 : Int) ≤ (c6.toNat : Int) then if (c6.toNat : Int) ≤ (57 : Int) then !true else if (c6.toNat : Int) = (45 : Int) then !true else decide (¬ ((c6.toNat : Int) = (95 : Int))) else if (c6.toNat : Int) = (45 : Int) then !true else decide (¬ ((c6.toNat : Int) = (95 : Int))) else if (48 : Int) ≤ (c6.toNat : Int) then if (c6.toNat : Int) ≤ (57 : Int) then !true else if (c6.toNat : Int) = (45 : Int) then !true else decide (¬ ((c6.toNat : Int) = (95 : Int))) else if (c6.toNat : Int) = (45 : Int) then !true else decide (¬ ((c6.toNat : Int) = (95 : Int))))
  else
    Option.map .inr (some true)

noncomputable def base_Key_l1 (p0x0 : Str) (n5 : Int) : Option Bool :=
  iter (fun x : Int => base_Key_b1 p0x0 x) n5

noncomputable def base_Key_j1 (p0x0 : Str) (c1 : Bool) : Option Bool :=
  if c1 = true then
    some false
  else
    base_Key_l1 p0x0 (0 : Int)

noncomputable def base_Key (p0x0 : Str) : Option Bool :=
  if p0x0 = ([] : Str) then
    base_Key_j1 p0x0 true
  else
    if (40 : Int) < (p0x0.length : Int) then
      base_Key_j1 p0x0 true
    else
      (idx p0x0 (0 : Int)).bind fun c2 =>
      if (c2.toNat : Int) < (97 : Int) then
        base_Key_j1 p0x0 true
      else
        (idx p0x0 (0 : Int)).bind fun c3 =>
        base_Key_j1 p0x0 (decide ((122 : Int) < (c3.toNat : Int)))

noncomputable def base_Out_j1 (c1 : Bool) : Bool :=
  c1

noncomputable def base_Out (p0x0 : Int) (p1x0 : Int) (p2x0 : Int) : Bool :=
  base_Out_j1 ((decide (p0x0 < p1x0)) || (decide (p2x0 < p0x0)))

noncomputable def base_Moment (p0x0 : Int) : Bool :=
  !(base_Out p0x0 (0 : Int) (345686399999 : Int))

noncomputable def cmp_isNaN_int (p0x0 : Int) : Bool :=
  decide (p0x0 ≠ p0x0)

noncomputable def cmp_Compare_int (p0x0 : Int) (p1x0 : Int) : Int :=
  if (cmp_isNaN_int p0x0) = true then
    if (cmp_isNaN_int p1x0) = true then
      (0 : Int)
    else
      (-1 : Int)
  else
    if (cmp_isNaN_int p1x0) = true then
      (1 : Int)
    else
      if p0x0 < p1x0 then
        (-1 : Int)
      else
        if p1x0 < p0x0 then
          (1 : Int)
        else
          (0 : Int)

noncomputable def cmp_Or_int_b1 (p0x0 : List Int) (n2 : Int) : Option (Int ⊕ Int) :=
  if n2 < (p0x0.length : Int) then
    (idx p0x0 n2).bind fun v3 =>
    if v3 ≠ (0 : Int) then
      Option.map .inr (some v3)
    else
      some (.inl (w64 (n2 + (1 : Int))))
  else
    Option.map .inr (some (0 : Int))

noncomputable def cmp_Or_int_l1 (p0x0 : List Int) (n2 : Int) : Option Int :=
  iter (fun x : Int => cmp_Or_int_b1 p0x0 x) n2

noncomputable def cmp_Or_int (p0x0 : List Int) : Option Int :=
  cmp_Or_int_l1 p0x0 (0 : Int)

noncomputable def series_byDevice (p0x0 : Sample) (p1x0 : Sample) : Option Int :=
  (cmp_Or_int [(Lib.compareBytes p0x0.Device p1x0.Device), (Lib.compareBytes p0x0.Metric p1x0.Metric), (cmp_Compare_int p0x0.At p1x0.At)]).bind fun v3 =>
  some v3

noncomputable def series_Check_j3 (n2 : Int) (c9 : Bool) : Option (Int ⊕ Int) :=
  if c9 = true then
    Option.map .inr (some (7 : Int))
  else
    some (.inl (w64 (n2 + (1 : Int))))

noncomputable def series_Check_j2 (p0x0 : List Sample) (n2 : Int) (v3 : Sample) (c8 : Bool) : Option (Int ⊕ Int) :=
  if c8 = true then
    Option.map .inr (some (1 : Int))
  else
    if (0 : Int) < n2 then
      (idx p0x0 (w64 (n2 - (1 : Int)))).bind fun v10 =>
      (series_byDevice v3 v10).bind fun v11 =>
      series_Check_j3 n2 (decide (v11 ≤ (0 : Int)))
    else
      series_Check_j3 n2 false

noncomputable def series_Check_j1 (p0x0 : List Sample) (n2 : Int) (v3 : Sample) (c5 : Bool) : Option (Int ⊕ Int) :=
  if c5 = true then
    Option.map .inr (some (5 : Int))
  else
    series_Check_j2 p0x0 n2 v3 ((!(base_Moment v3.At)) || (base_Out v3.Value (-1000000000 : Int) (1000000000 : Int)))

noncomputable def series_Check_b1 (p0x0 : List Sample) (n2 : Int) : Option (Int ⊕ Int) :=
  if n2 < (p0x0.length : Int) then
    (idx p0x0 n2).bind fun v3 =>
    (base_Key v3.Device).bind fun v6 =>
    if (!v6) = true then
      series_Check_j1 p0x0 n2 v3 true
    else
      (base_Key v3.Metric).bind fun v7 =>
      series_Check_j1 p0x0 n2 v3 (!v7)
  else
    Option.map .inr (some (0 : Int))

noncomputable def series_Check_l1 (p0x0 : List Sample) (n2 : Int) : Option Int :=
  iter (fun x : Int => series_Check_b1 p0x0 x) n2

noncomputable def series_Check (p0x0 : List Sample) : Option Int :=
  if (5000 : Int) < (p0x0.length : Int) then
    some (2 : Int)
  else
    series_Check_l1 p0x0 (0 : Int)

noncomputable def series_CheckSeries_1x_j1 (c2 : Bool) : Option Bool :=
  some c2

noncomputable def series_CheckSeries_1x (p0x0 : Sample) (p1x0 : List Sample) : Option Bool :=
  (idx p1x0 (0 : Int)).bind fun v3 =>
  if p0x0.Device ≠ v3.Device then
    series_CheckSeries_1x_j1 true
  else
    (idx p1x0 (0 : Int)).bind fun v4 =>
    series_CheckSeries_1x_j1 (decide (p0x0.Metric ≠ v4.Metric))

noncomputable def slices_IndexFunc_Sample_Sample_b1 (p0x0 : List Sample) (fnb : Sample → Option Bool) (n2 : Int) : Option (Int ⊕ Int) :=
  if n2 < (p0x0.length : Int) then
    (idx p0x0 n2).bind fun v3 =>
    (fnb v3).bind fun v4 =>
    if v4 = true then
      Option.map .inr (some n2)
    else
      some (.inl (w64 (n2 + (1 : Int))))
  else
    Option.map .inr (some (-1 : Int))

noncomputable def slices_IndexFunc_Sample_Sample_l1 (p0x0 : List Sample) (fnb : Sample → Option Bool) (n2 : Int) : Option Int :=
  iter (fun x : Int => slices_IndexFunc_Sample_Sample_b1 p0x0 fnb x) n2

noncomputable def slices_IndexFunc_Sample_Sample (p0x0 : List Sample) (fnb : Sample → Option Bool) : Option Int :=
  slices_IndexFunc_Sample_Sample_l1 p0x0 fnb (0 : Int)

noncomputable def slices_ContainsFunc_Sample_Sample (p0x0 : List Sample) (fnb : Sample → Option Bool) : Option Bool :=
  (slices_IndexFunc_Sample_Sample p0x0 fnb).bind fun v1 =>
  some (decide ((0 : Int) ≤ v1))

noncomputable def series_CheckSeries (p0x0 : List Sample) : Option Int :=
  (series_Check p0x0).bind fun v2 =>
  if v2 ≠ (0 : Int) then
    some v2
  else
    (slices_ContainsFunc_Sample_Sample p0x0 (fun y0 => series_CheckSeries_1x y0 p0x0)).bind fun v3 =>
    if v3 = true then
      some (13 : Int)
    else
      some (0 : Int)

noncomputable def series_seven_n0x_k1 (l5 : List Int) (n6 : Int) : Option (List Int) :=
  (app l5 [IntKind.u8.wrap (n6)]).bind fun l10 =>
  some l10

noncomputable def series_seven_n0x_b1 (l5 : List Int) (n6 : Int) : Option (((List Int) × Int) ⊕ (List Int)) :=
  if (128 : Int) ≤ n6 then
    (app l5 [orI .u8 (IntKind.u8.wrap (andI .u64 n6 (127 : Int))) (128 : Int)]).bind fun l8 =>
    some (.inl (l8, shrI .u64 n6 (7 : Int)))
  else
    Option.map .inr (series_seven_n0x_k1 l5 n6)

noncomputable def series_seven_n0x_l1 (l5 : List Int) (n6 : Int) : Option (List Int) :=
  iter (fun x : (List Int) × Int => series_seven_n0x_b1 x.1 x.2) (l5, n6)

noncomputable def series_seven_n0x (p1x0 : Int) : Option (List Int) :=
  series_seven_n0x_l1 [] p1x0

noncomputable def series_doubled (p0x0 : Int) : Int :=
  if p0x0 < (0 : Int) then
    IntKind.u64.wrap (w64 ((w64 ((-2 : Int) * p0x0)) - (1 : Int)))
  else
    IntKind.u64.wrap (w64 ((2 : Int) * p0x0))

noncomputable def series_seven_o0x_k1 (l5 : List Int) (n6 : Int) : Option (List Int) :=
  (app l5 [IntKind.u8.wrap (n6)]).bind fun l9 =>
  some l9

noncomputable def series_seven_o0x_b1 (l5 : List Int) (n6 : Int) : Option (((List Int) × Int) ⊕ (List Int)) :=
  if (128 : Int) ≤ n6 then
    (app l5 [orI .u8 (IntKind.u8.wrap (andI .u64 n6 (127 : Int))) (128 : Int)]).bind fun l7 =>
    some (.inl (l7, shrI .u64 n6 (7 : Int)))
  else
    Option.map .inr (series_seven_o0x_k1 l5 n6)

noncomputable def series_seven_o0x_l1 (l5 : List Int) (n6 : Int) : Option (List Int) :=
  iter (fun x : (List Int) × Int => series_seven_o0x_b1 x.1 x.2) (l5, n6)

noncomputable def series_seven_o0x (p0x0 : List Int) (p1x0 : Int) : Option (List Int) :=
  series_seven_o0x_l1 p0x0 p1x0

noncomputable def series_pack_j1 (n14 : Int) (v15 : Sample) (v19 : (List Int)) (n21 : Int) : Option (((List Int) × Int × Int × Int × Int) ⊕ (List Int)) :=
  some (.inl (v19, v15.At, n21, v15.Value, w64 (n14 + (1 : Int))))

noncomputable def series_pack_b1 (p0x0 : List Sample) (l10 : List Int) (n11 : Int) (n12 : Int) (n13 : Int) (n14 : Int) : Option (((List Int) × Int × Int × Int × Int) ⊕ (List Int)) :=
  if n14 < (p0x0.length : Int) then
    (idx p0x0 n14).bind fun v15 =>
    (series_seven_o0x l10 (series_doubled (w64 ((w64 (v15.At - n11)) - n12)))).bind fun v17 =>
    (series_seven_o0x v17 (series_doubled (w64 (v15.Value - n13)))).bind fun v19 =>
    if (0 : Int) < n14 then
      series_pack_j1 n14 v15 v19 (w64 (v15.At - n11))
    else
      series_pack_j1 n14 v15 v19 n12
  else
    Option.map .inr (some l10)

noncomputable def series_pack_l1 (p0x0 : List Sample) (l10 : List Int) (n11 : Int) (n12 : Int) (n13 : Int) (n14 : Int) : Option (List Int) :=
  iter (fun x : (List Int) × Int × Int × Int × Int => series_pack_b1 p0x0 x.1 x.2.1 x.2.2.1 x.2.2.2.1 x.2.2.2.2) (l10, n11, n12, n13, n14)

noncomputable def series_pack (p0x0 : List Sample) : Option (List Int) :=
  (series_seven_n0x (IntKind.u64.wrap ((p0x0.length : Int)))).bind fun v1 =>
  series_pack_l1 p0x0 v1 (0 : Int) (0 : Int) (0 : Int) (0 : Int)

noncomputable def series_Pack (p0x0 : List Sample) : Option ((List Int) × Int) :=
  (series_CheckSeries p0x0).bind fun v1 =>
  if v1 ≠ (0 : Int) then
    some ([], v1)
  else
    (series_pack p0x0).bind fun v3 =>
    some (v3, (0 : Int))

noncomputable def series_unseven_b1 (p0x0 : List Int) (n3 : Int) (n4 : Int) : Option ((Int × Int) ⊕ (Int × (List Int) × Bool)) :=
  if n4 < (p0x0.length : Int) then
    (idx p0x0 n4).bind fun v5 =>
    if n4 = (9 : Int) then
      Option.map .inr (some ((0 : Int), [], false))
    else
      (shlO .u64 (IntKind.u64.wrap (andI .u8 v5 (127 : Int))) (w64 ((7 : Int) * n4))).bind fun n6 =>
      if v5 < (128 : Int) then
        (slc p0x0 (w64 (n4 + (1 : Int))) (p0x0.length : Int)).bind fun l7 =>
        Option.map .inr (some (orI .u64 n3 n6, l7, true))
      else
        some (.inl (orI .u64 n3 n6, w64 (n4 + (1 : Int))))
  else
    Option.map .inr (some ((0 : Int), [], false))

noncomputable def series_unseven_l1 (p0x0 : List Int) (n3 : Int) (n4 : Int) : Option (Int × (List Int) × Bool) :=
  iter (fun x : Int × Int => series_unseven_b1 p0x0 x.1 x.2) (n3, n4)

noncomputable def series_unseven (p0x0 : List Int) : Option (Int × (List Int) × Bool) :=
  series_unseven_l1 p0x0 (0 : Int) (0 : Int)

noncomputable def series_halved (p0x0 : Int) : Int :=
  if (p0x0.tmod (2 : Int)) = (1 : Int) then
    w64 ((w64 (-(w64 (IntKind.u64.wrap (p0x0.tdiv (2 : Int)))))) - (1 : Int))
  else
    w64 (IntKind.u64.wrap (p0x0.tdiv (2 : Int)))

noncomputable def slices_Equal_byte_byte_b1 (p0x0 : List Int) (p1x0 : List Int) (n2 : Int) : Option (Int ⊕ Bool) :=
  if n2 < (p0x0.length : Int) then
    (idx p0x0 n2).bind fun v3 =>
    (idx p1x0 n2).bind fun v4 =>
    if v3 ≠ v4 then
      Option.map .inr (some false)
    else
      some (.inl (w64 (n2 + (1 : Int))))
  else
    Option.map .inr (some true)

noncomputable def slices_Equal_byte_byte_l1 (p0x0 : List Int) (p1x0 : List Int) (n2 : Int) : Option Bool :=
  iter (fun x : Int => slices_Equal_byte_byte_b1 p0x0 p1x0 x) n2

noncomputable def slices_Equal_byte_byte (p0x0 : List Int) (p1x0 : List Int) : Option Bool :=
  if (p0x0.length : Int) ≠ (p1x0.length : Int) then
    some false
  else
    slices_Equal_byte_byte_l1 p0x0 p1x0 (0 : Int)

noncomputable def series_Unpack_j5 (p1x0 : Str) (p2x0 : Str) (l15 : List Sample) (n16 : Int) (n17 : Int) (n18 : Int) (n19 : Int) (v21 : Int × (List Int) × Bool) (l22 : List Int) (n24 : Int) (n27 : Int) : Option (((List Int) × (List Sample) × Int × Int × Int × Int) ⊕ ((List Sample) × Int)) :=
  (app l15 [(⟨p1x0, p2x0, w64 (n16 + (w64 (n17 + (series_halved v21.1)))), w64 (n18 + (series_halved n24))⟩ : Sample)]).bind fun l28 =>
  some (.inl (l22, l28, w64 (n16 + (w64 (n17 + (series_halved v21.1)))), n27, w64 (n18 + (series_halved n24)), w64 (n19 + (1 : Int))))

noncomputable def series_Unpack_j4 (p1x0 : Str) (p2x0 : Str) (l15 : List Sample) (n16 : Int) (n17 : Int) (n18 : Int) (n19 : Int) (v21 : Int × (List Int) × Bool) (l22 : List Int) (n24 : Int) (c26 : Bool) : Option (((List Int) × (List Sample) × Int × Int × Int × Int) ⊕ ((List Sample) × Int)) :=
  if c26 = true then
    Option.map .inr (some ([], (9 : Int)))
  else
    if (0 : Int) < n19 then
      series_Unpack_j5 p1x0 p2x0 l15 n16 n17 n18 n19 v21 l22 n24 (w64 (n17 + (series_halved v21.1)))
    else
      series_Unpack_j5 p1x0 p2x0 l15 n16 n17 n18 n19 v21 l22 n24 n17

noncomputable def series_Unpack_j3 (p1x0 : Str) (p2x0 : Str) (l15 : List Sample) (n16 : Int) (n17 : Int) (n18 : Int) (n19 : Int) (v21 : Int × (List Int) × Bool) (l22 : List Int) (c23 : Bool) (n24 : Int) : Option (((List Int) × (List Sample) × Int × Int × Int × Int) ⊕ ((List Sample) × Int)) :=
  if (!c23) = true then
    Option.map .inr (some ([], (9 : Int)))
  else
    series_Unpack_j4 p1x0 p2x0 l15 n16 n17 n18 n19 v21 l22 n24 ((base_Out (w64 (n18 + (series_halved n24))) (-1000000000 : Int) (1000000000 : Int)) || (!(base_Moment (w64 (n16 + (w64 (n17 + (series_halved v21.1))))))))

noncomputable def series_Unpack_j6 (l15 : List Sample) (c30 : Bool) : Option ((List Sample) × Int) :=
  if c30 = true then
    some ([], (9 : Int))
  else
    some (l15, (0 : Int))

noncomputable def series_Unpack_k7 (p0x0 : List Int) (l15 : List Sample) : Option ((List Sample) × Int) :=
  (series_CheckSeries l15).bind fun v31 =>
  if v31 ≠ (0 : Int) then
    series_Unpack_j6 l15 true
  else
    (series_pack l15).bind fun v32 =>
    (slices_Equal_byte_byte v32 p0x0).bind fun v34 =>
    series_Unpack_j6 l15 (!v34)

noncomputable def series_Unpack_b1 (p0x0 : List Int) (p1x0 : Str) (p2x0 : Str) (v4 : Int × (List Int) × Bool) (l13 : List Int) (l15 : List Sample) (n16 : Int) (n17 : Int) (n18 : Int) (n19 : Int) : Option (((List Int) × (List Sample) × Int × Int × Int × Int) ⊕ ((List Sample) × Int)) :=
  if n19 < (w64 (v4.1)) then
    (series_unseven l13).bind fun v21 =>
    if v21.2.2 = true then
      (series_unseven v21.2.1).bind fun v25 =>
      series_Unpack_j3 p1x0 p2x0 l15 n16 n17 n18 n19 v21 v25.2.1 v25.2.2 v25.1
    else
      series_Unpack_j3 p1x0 p2x0 l15 n16 n17 n18 n19 v21 v21.2.1 v21.2.2 (0 : Int)
  else
    Option.map .inr (series_Unpack_k7 p0x0 l15)

noncomputable def series_Unpack_l1 (p0x0 : List Int) (p1x0 : Str) (p2x0 : Str) (v4 : Int × (List Int) × Bool) (l13 : List Int) (l15 : List Sample) (n16 : Int) (n17 : Int) (n18 : Int) (n19 : Int) : Option ((List Sample) × Int) :=
  iter (fun x : (List Int) × (List Sample) × Int × Int × Int × Int => series_Unpack_b1 p0x0 p1x0 p2x0 v4 x.1 x.2.1 x.2.2.1 x.2.2.2.1 x.2.2.2.2.1 x.2.2.2.2.2) (l13, l15, n16, n17, n18, n19)

noncomputable def series_Unpack_j2 (p0x0 : List Int) (p1x0 : Str) (p2x0 : Str) (v4 : Int × (List Int) × Bool) (c5 : Bool) : Option ((List Sample) × Int) :=
  if c5 = true then
    some ([], (9 : Int))
  else
    series_Unpack_l1 p0x0 p1x0 p2x0 v4 v4.2.1 [] (0 : Int) (0 : Int) (0 : Int) (0 : Int)

noncomputable def series_Unpack_j1 (p0x0 : List Int) (p1x0 : Str) (p2x0 : Str) (c1 : Bool) : Option ((List Sample) × Int) :=
  if c1 = true then
    some ([], (5 : Int))
  else
    if (100000 : Int) < (p0x0.length : Int) then
      some ([], (2 : Int))
    else
      (series_unseven p0x0).bind fun v4 =>
      series_Unpack_j2 p0x0 p1x0 p2x0 v4 ((!v4.2.2) || (decide ((5000 : Int) < v4.1)))

noncomputable def series_Unpack (p0x0 : List Int) (p1x0 : Str) (p2x0 : Str) : Option ((List Sample) × Int) :=
  (base_Key p1x0).bind fun v2 =>
  if (!v2) = true then
    series_Unpack_j1 p0x0 p1x0 p2x0 true
  else
    (base_Key p2x0).bind fun v3 =>
    series_Unpack_j1 p0x0 p1x0 p2x0 (!v3)

noncomputable def Q_in_j1 (c1 : Bool) : Bool :=
  c1

noncomputable def Q_in (p0x0 : Int) (p1x0 : Int) (p2x0 : Int) : Bool :=
  Q_in_j1 ((decide (p1x0 ≤ p0x0)) && (decide (p0x0 ≤ p2x0)))

noncomputable def Q_only_b1 (p0x0 : Str) (p1x0 : Str) (n2 : Int) : Option (Int ⊕ Bool) :=
  if n2 < (p0x0.length : Int) then
    (idx p0x0 n2).bind fun c3 =>
    if (indexByteI p1x0 (c3.toNat : Int)) < (0 : Int) then
      Option.map .inr (some false)
    else
      some (.inl (w64 (n2 + (1 : Int))))
  else
    Option.map .inr (some true)

noncomputable def Q_only_l1 (p0x0 : Str) (p1x0 : Str) (n2 : Int) : Option Bool :=
  iter (fun x : Int => Q_only_b1 p0x0 p1x0 x) n2

noncomputable def Q_only (p0x0 : Str) (p1x0 : Str) : Option Bool :=
  Q_only_l1 p0x0 p1x0 (0 : Int)

noncomputable def Q_Key_j1 (c1 : Bool) : Option Bool :=
  some c1

noncomputable def Q_Key (p0x0 : Str) : Option Bool :=
  if (Q_in (p0x0.length : Int) (1 : Int) (40 : Int)) = true then
    (slc p0x0 (0 : Int) (1 : Int)).bind fun l2 =>
    (Q_only l2 ([97, 98, 99, 100, 101, 102, 103, 104, 105, 106, 107, 108, 109, 110, 111, 112, 113, 114, 115, 116, 117, 118, 119, 120, 121, 122] : Str)).bind fun v3 =>
    if v3 = true then
      (Q_only p0x0 ([97, 98, 99, 100, 101, 102, 103, 104, 105, 106, 107, 108, 109, 110, 111, 112, 113, 114, 115, 116, 117, 118, 119, 120, 121, 122, 48, 49, 50, 51, 52, 53, 54, 55, 56, 57, 45, 95] : Str)).bind fun v4 =>
      Q_Key_j1 v4
    else
      Q_Key_j1 false
  else
    Q_Key_j1 false

noncomputable def Q_Moment (p0x0 : Int) : Bool :=
  (Q_in p0x0 (0 : Int) (345686399999 : Int))

noncomputable def cmp_isNaN_string (p0x0 : Str) : Bool :=
  decide (p0x0 ≠ p0x0)

noncomputable def cmp_Compare_string (p0x0 : Str) (p1x0 : Str) : Int :=
  if (cmp_isNaN_string p0x0) = true then
    if (cmp_isNaN_string p1x0) = true then
      (0 : Int)
    else
      (-1 : Int)
  else
    if (cmp_isNaN_string p1x0) = true then
      (1 : Int)
    else
      if (Op.bytesLess p0x0 p1x0) = true then
        (-1 : Int)
      else
        if (!(Op.bytesLess p0x0 p1x0 || p0x0 == p1x0)) = true then
          (1 : Int)
        else
          (0 : Int)

noncomputable def slices_Compare_string_string_k1 (p0x0 : List Str) (p1x0 : List Str) : Option Int :=
  if (p0x0.length : Int) < (p1x0.length : Int) then
    some (-1 : Int)
  else
    some (0 : Int)

noncomputable def slices_Compare_string_string_b1 (p0x0 : List Str) (p1x0 : List Str) (n2 : Int) : Option (Int ⊕ Int) :=
  if n2 < (p0x0.length : Int) then
    (idx p0x0 n2).bind fun v3 =>
    if (p1x0.length : Int) ≤ n2 then
      Option.map .inr (some (1 : Int))
    else
      (idx p1x0 n2).bind fun v4 =>
      if (cmp_Compare_string v3 v4) ≠ (0 : Int) then
        Option.map .inr (some (cmp_Compare_string v3 v4))
      else
        some (.inl (w64 (n2 + (1 : Int))))
  else
    Option.map .inr (slices_Compare_string_string_k1 p0x0 p1x0)

noncomputable def slices_Compare_string_string_l1 (p0x0 : List Str) (p1x0 : List Str) (n2 : Int) : Option Int :=
  iter (fun x : Int => slices_Compare_string_string_b1 p0x0 p1x0 x) n2

noncomputable def slices_Compare_string_string (p0x0 : List Str) (p1x0 : List Str) : Option Int :=
  slices_Compare_string_string_l1 p0x0 p1x0 (0 : Int)

noncomputable def Q_sign (p0x0 : Int) : Int :=
  if p0x0 < (0 : Int) then
    (-1 : Int)
  else
    if (0 : Int) < p0x0 then
      (1 : Int)
    else
      (0 : Int)

noncomputable def Q_SampleOrder (p0x0 : Sample) (p1x0 : Sample) : Option Int :=
  (slices_Compare_string_string [p0x0.Device, p0x0.Metric] [p1x0.Device, p1x0.Metric]).bind fun v3 =>
  if v3 ≠ (0 : Int) then
    some v3
  else
    some (Q_sign (w64 (p0x0.At - p1x0.At)))

noncomputable def Q_SamplesFault_j3 (n2 : Int) (c9 : Bool) : Option (Int ⊕ Int) :=
  if c9 = true then
    Option.map .inr (some (7 : Int))
  else
    some (.inl (w64 (n2 + (1 : Int))))

noncomputable def Q_SamplesFault_j2 (p0x0 : List Sample) (n2 : Int) (v3 : Sample) (c8 : Bool) : Option (Int ⊕ Int) :=
  if c8 = true then
    Option.map .inr (some (1 : Int))
  else
    if (0 : Int) < n2 then
      (idx p0x0 (w64 (n2 - (1 : Int)))).bind fun v10 =>
      (Q_SampleOrder v10 v3).bind fun v11 =>
      Q_SamplesFault_j3 n2 (decide ((0 : Int) ≤ v11))
    else
      Q_SamplesFault_j3 n2 false

noncomputable def Q_SamplesFault_j1 (p0x0 : List Sample) (n2 : Int) (v3 : Sample) (c5 : Bool) : Option (Int ⊕ Int) :=
  if c5 = true then
    Option.map .inr (some (5 : Int))
  else
    Q_SamplesFault_j2 p0x0 n2 v3 ((!(Q_Moment v3.At)) || (!(Q_in v3.Value (-1000000000 : Int) (1000000000 : Int))))

noncomputable def Q_SamplesFault_b1 (p0x0 : List Sample) (n2 : Int) : Option (Int ⊕ Int) :=
  if n2 < (p0x0.length : Int) then
    (idx p0x0 n2).bind fun v3 =>
    (Q_Key v3.Device).bind fun v6 =>
    if (!v6) = true then
      Q_SamplesFault_j1 p0x0 n2 v3 true
    else
      (Q_Key v3.Metric).bind fun v7 =>
      Q_SamplesFault_j1 p0x0 n2 v3 (!v7)
  else
    Option.map .inr (some (0 : Int))

noncomputable def Q_SamplesFault_l1 (p0x0 : List Sample) (n2 : Int) : Option Int :=
  iter (fun x : Int => Q_SamplesFault_b1 p0x0 x) n2

noncomputable def Q_SamplesFault (p0x0 : List Sample) : Option Int :=
  if (5000 : Int) < (p0x0.length : Int) then
    some (2 : Int)
  else
    Q_SamplesFault_l1 p0x0 (0 : Int)

noncomputable def Q_SeriesFault_1x_j1 (c2 : Bool) : Option Bool :=
  some c2

noncomputable def Q_SeriesFault_1x (p0x0 : Sample) (p1x0 : List Sample) : Option Bool :=
  (idx p1x0 (0 : Int)).bind fun v3 =>
  if p0x0.Device ≠ v3.Device then
    Q_SeriesFault_1x_j1 true
  else
    (idx p1x0 (0 : Int)).bind fun v4 =>
    Q_SeriesFault_1x_j1 (decide (p0x0.Metric ≠ v4.Metric))

noncomputable def Q_SeriesFault (p0x0 : List Sample) : Option Int :=
  (Q_SamplesFault p0x0).bind fun v2 =>
  if v2 ≠ (0 : Int) then
    some v2
  else
    (slices_ContainsFunc_Sample_Sample p0x0 (fun y0 => Q_SeriesFault_1x y0 p0x0)).bind fun v3 =>
    if v3 = true then
      some (13 : Int)
    else
      some (0 : Int)

noncomputable def L_when (p0x0 : Bool) (p1x0 : Int) : Int :=
  if p0x0 = true then
    p1x0
  else
    (0 : Int)

noncomputable def L_errs_b1 (p0x0 : List Int) (n2 : Int) : Option (Int ⊕ Int) :=
  if n2 < (p0x0.length : Int) then
    (idx p0x0 n2).bind fun v3 =>
    if v3 ≠ (0 : Int) then
      Option.map .inr (some v3)
    else
      some (.inl (w64 (n2 + (1 : Int))))
  else
    Option.map .inr (some (0 : Int))

noncomputable def L_errs_l1 (p0x0 : List Int) (n2 : Int) : Option Int :=
  iter (fun x : Int => L_errs_b1 p0x0 x) n2

noncomputable def L_errs (p0x0 : List Int) : Option Int :=
  L_errs_l1 p0x0 (0 : Int)

noncomputable def Q_takeSeven_b1 (p0x0 : List Int) (n3 : Int) (n4 : Int) : Option ((Int × Int) ⊕ (Int × (List Int) × Bool)) :=
  if n4 < (p0x0.length : Int) then
    (idx p0x0 n4).bind fun v5 =>
    if (7 : Int) < n4 then
      Option.map .inr (some ((0 : Int), [], false))
    else
      (shlO .i64 (w64 (andI .u8 v5 (127 : Int))) (w64 ((7 : Int) * n4))).bind fun n6 =>
      if v5 < (128 : Int) then
        (slc p0x0 (w64 (n4 + (1 : Int))) (p0x0.length : Int)).bind fun l7 =>
        Option.map .inr (some (w64 (n3 + n6), l7, true))
      else
        some (.inl (w64 (n3 + n6), w64 (n4 + (1 : Int))))
  else
    Option.map .inr (some ((0 : Int), [], false))

noncomputable def Q_takeSeven_l1 (p0x0 : List Int) (n3 : Int) (n4 : Int) : Option (Int × (List Int) × Bool) :=
  iter (fun x : Int × Int => Q_takeSeven_b1 p0x0 x.1 x.2) (n3, n4)

noncomputable def Q_takeSeven (p0x0 : List Int) : Option (Int × (List Int) × Bool) :=
  Q_takeSeven_l1 p0x0 (0 : Int) (0 : Int)

noncomputable def Q_back (p0x0 : Int) : Int :=
  if (p0x0.tmod (2 : Int)) = (1 : Int) then
    w64 ((w64 (-(w64 (p0x0 + (1 : Int))))).tdiv (2 : Int))
  else
    w64 (p0x0.tdiv (2 : Int))

noncomputable def Q_UnpackOf_j5 (l4 : List Sample) (c29 : Bool) : Option ((List Sample) × Int) :=
  if c29 = true then
    some ([], (9 : Int))
  else
    some (l4, (0 : Int))

noncomputable def Q_UnpackOf_j1 (p0x0 : List Int) (c2 : Bool) (l4 : List Sample) : Option ((List Sample) × Int) :=
  if (!c2) = true then
    Q_UnpackOf_j5 l4 true
  else
    (Q_SeriesFault l4).bind fun v30 =>
    if v30 ≠ (0 : Int) then
      Q_UnpackOf_j5 l4 true
    else
      (Q_PackOf l4).bind fun v31 =>
      (slices_Equal_byte_byte v31 p0x0).bind fun v33 =>
      Q_UnpackOf_j5 l4 (!v33)

noncomputable def Q_UnpackOf_j4 (n17 : Int) (n18 : Int) (n19 : Int) (n20 : Int) (v23 : Int × (List Int) × Bool) (v24 : Int × (List Int) × Bool) (n25 : Int) (l26 : List Sample) (c28 : Bool) : Option (((List Int) × Bool × (List Sample) × Int × Int × Int × Int) ⊕ ((List Sample) × Int)) :=
  some (.inl (v24.2.1, c28, l26, w64 (n17 + (w64 ((Q_back v23.1) + n18))), n25, w64 (n19 + (Q_back v24.1)), w64 (n20 + (1 : Int))))

noncomputable def Q_UnpackOf_j3 (p1x0 : Str) (p2x0 : Str) (l16 : List Sample) (n17 : Int) (n18 : Int) (n19 : Int) (n20 : Int) (v23 : Int × (List Int) × Bool) (v24 : Int × (List Int) × Bool) (n25 : Int) : Option (((List Int) × Bool × (List Sample) × Int × Int × Int × Int) ⊕ ((List Sample) × Int)) :=
  (app l16 [(⟨p1x0, p2x0, w64 (n17 + (w64 ((Q_back v23.1) + n18))), w64 (n19 + (Q_back v24.1))⟩ : Sample)]).bind fun l26 =>
  Q_UnpackOf_j4 n17 n18 n19 n20 v23 v24 n25 l26 ((Q_Moment (w64 (n17 + (w64 ((Q_back v23.1) + n18))))) && (Q_in (w64 (n19 + (Q_back v24.1))) (-1000000000 : Int) (1000000000 : Int)))

noncomputable def Q_UnpackOf_j2 (p0x0 : List Int) (p1x0 : Str) (p2x0 : Str) (l13 : List Int) (c14 : Bool) (l16 : List Sample) (n17 : Int) (n18 : Int) (n19 : Int) (n20 : Int) (c22 : Bool) : Option (((List Int) × Bool × (List Sample) × Int × Int × Int × Int) ⊕ ((List Sample) × Int)) :=
  if c22 = true then
    (Q_takeSeven l13).bind fun v23 =>
    if (!v23.2.2) = true then
      Option.map .inr (Q_UnpackOf_j1 p0x0 v23.2.2 l16)
    else
      (Q_takeSeven v23.2.1).bind fun v24 =>
      if (!v24.2.2) = true then
        Option.map .inr (Q_UnpackOf_j1 p0x0 v24.2.2 l16)
      else
        if n20 = (0 : Int) then
          Q_UnpackOf_j3 p1x0 p2x0 l16 n17 n18 n19 n20 v23 v24 (0 : Int)
        else
          Q_UnpackOf_j3 p1x0 p2x0 l16 n17 n18 n19 n20 v23 v24 (w64 ((Q_back v23.1) + n18))
  else
    Option.map .inr (Q_UnpackOf_j1 p0x0 c14 l16)

noncomputable def Q_UnpackOf_b1 (p0x0 : List Int) (p1x0 : Str) (p2x0 : Str) (v1 : Int × (List Int) × Bool) (l13 : List Int) (c14 : Bool) (l16 : List Sample) (n17 : Int) (n18 : Int) (n19 : Int) (n20 : Int) : Option (((List Int) × Bool × (List Sample) × Int × Int × Int × Int) ⊕ ((List Sample) × Int)) :=
  Q_UnpackOf_j2 p0x0 p1x0 p2x0 l13 c14 l16 n17 n18 n19 n20 (c14 && ((decide (n20 < v1.1)) && (decide (n20 ≤ (5000 : Int)))))

noncomputable def Q_UnpackOf_l1 (p0x0 : List Int) (p1x0 : Str) (p2x0 : Str) (v1 : Int × (List Int) × Bool) (l13 : List Int) (c14 : Bool) (l16 : List Sample) (n17 : Int) (n18 : Int) (n19 : Int) (n20 : Int) : Option ((List Sample) × Int) :=
  iter (fun x : (List Int) × Bool × (List Sample) × Int × Int × Int × Int => Q_UnpackOf_b1 p0x0 p1x0 p2x0 v1 x.1 x.2.1 x.2.2.1 x.2.2.2.1 x.2.2.2.2.1 x.2.2.2.2.2.1 x.2.2.2.2.2.2) (l13, c14, l16, n17, n18, n19, n20)

noncomputable def Q_UnpackOf (p0x0 : List Int) (p1x0 : Str) (p2x0 : Str) : Option ((List Sample) × Int) :=
  (Q_takeSeven p0x0).bind fun v1 =>
  Q_UnpackOf_l1 p0x0 p1x0 p2x0 v1 v1.2.1 v1.2.2 [] (0 : Int) (0 : Int) (0 : Int) (0 : Int)

noncomputable def slices_Equal_Sample_Sample_b1 (p0x0 : List Sample) (p1x0 : List Sample) (n2 : Int) : Option (Int ⊕ Bool) :=
  if n2 < (p0x0.length : Int) then
    (idx p0x0 n2).bind fun v3 =>
    (idx p1x0 n2).bind fun v4 =>
    if v3 ≠ v4 then
      Option.map .inr (some false)
    else
      some (.inl (w64 (n2 + (1 : Int))))
  else
    Option.map .inr (some true)

noncomputable def slices_Equal_Sample_Sample_l1 (p0x0 : List Sample) (p1x0 : List Sample) (n2 : Int) : Option Bool :=
  iter (fun x : Int => slices_Equal_Sample_Sample_b1 p0x0 p1x0 x) n2

noncomputable def slices_Equal_Sample_Sample (p0x0 : List Sample) (p1x0 : List Sample) : Option Bool :=
  if (p0x0.length : Int) ≠ (p1x0.length : Int) then
    some false
  else
    slices_Equal_Sample_Sample_l1 p0x0 p1x0 (0 : Int)

noncomputable def L_measured_j1 (c3 : Bool) : Option Bool :=
  some c3

noncomputable def L_measured : Option Bool :=
  (series_Pack [(⟨([100] : Str), ([109] : Str), (1 : Int), (1 : Int)⟩ : Sample)]).bind fun v1 =>
  if v1.2 = (0 : Int) then
    (slices_Equal_byte_byte v1.1 [(1 : Int), (2 : Int), (2 : Int)]).bind fun v4 =>
    L_measured_j1 v4
  else
    L_measured_j1 false

noncomputable def L_SeriesPacked_j5 (c28 : Bool) : Option Bool :=
  some c28

noncomputable def L_SeriesPacked_j4 (v11 : (List Int) × Int) (v13 : (List Sample) × Int) (v14 : Int) (l21 : List Int) (n25 : Int) (l26 : List Sample) : Option Bool :=
  if v11.2 = v14 then
    (slices_Equal_byte_byte v11.1 l21).bind fun v29 =>
    if v29 = true then
      if v13.2 = n25 then
        (slices_Equal_Sample_Sample v13.1 l26).bind fun v30 =>
        if v30 = true then
          (L_measured).bind fun v31 =>
          L_SeriesPacked_j5 v31
        else
          L_SeriesPacked_j5 false
      else
        L_SeriesPacked_j5 false
    else
      L_SeriesPacked_j5 false
  else
    L_SeriesPacked_j5 false

noncomputable def L_SeriesPacked_j3 (v5 : Str × Fleetmake_Stream) (v6 : Str × Fleetmake_Stream) (l8 : List Int) (v11 : (List Int) × Int) (v13 : (List Sample) × Int) (v14 : Int) (n15 : Int) (l21 : List Int) : Option Bool :=
  if n15 = (0 : Int) then
    (Q_UnpackOf l8 v5.1 v6.1).bind fun v27 =>
    L_SeriesPacked_j4 v11 v13 v14 l21 v27.2 v27.1
  else
    L_SeriesPacked_j4 v11 v13 v14 l21 n15 []

noncomputable def L_SeriesPacked_j2 (v2 : (List Sample) × Fleetmake_Stream) (v5 : Str × Fleetmake_Stream) (v6 : Str × Fleetmake_Stream) (l8 : List Int) (v11 : (List Int) × Int) (v13 : (List Sample) × Int) (v14 : Int) (n15 : Int) : Option Bool :=
  if v14 = (0 : Int) then
    (Q_PackOf v2.1).bind fun v22 =>
    L_SeriesPacked_j3 v5 v6 l8 v11 v13 v14 n15 v22
  else
    L_SeriesPacked_j3 v5 v6 l8 v11 v13 v14 n15 []

noncomputable def L_SeriesPacked_j1 (v2 : (List Sample) × Fleetmake_Stream) (v5 : Str × Fleetmake_Stream) (v6 : Str × Fleetmake_Stream) (l8 : List Int) : Option Bool :=
  (series_Pack v2.1).bind fun v11 =>
  (series_Unpack l8 v5.1 v6.1).bind fun v13 =>
  (Q_SeriesFault v2.1).bind fun v14 =>
  (Q_Key v5.1).bind fun v16 =>
  if (!v16) = true then
    (L_errs [(L_when true (5 : Int)), (L_when (decide ((100000 : Int) < (l8.length : Int))) (2 : Int))]).bind fun v19 =>
    L_SeriesPacked_j2 v2 v5 v6 l8 v11 v13 v14 v19
  else
    (Q_Key v6.1).bind fun v17 =>
    (L_errs [(L_when (!v17) (5 : Int)), (L_when (decide ((100000 : Int) < (l8.length : Int))) (2 : Int))]).bind fun v18 =>
    L_SeriesPacked_j2 v2 v5 v6 l8 v11 v13 v14 v18

noncomputable def L_SeriesPacked (p0x0 : List Int) : Option Bool :=
  (Stream_Series (⟨p0x0, (0 : Int)⟩ : Fleetmake_Stream) (9 : Int)).bind fun v2 =>
  (Stream_Packed v2.2).bind fun v4 =>
  (Stream_Some v4.2 [([100] : Str), ([100] : Str), ([] : Str), ([65] : Str)]).bind fun v5 =>
  (Stream_Some v5.2 [([109] : Str), ([109] : Str), ([109] : Str), ([] : Str)]).bind fun v6 =>
  (Stream_Flip v6.2 (60 : Int)).bind fun v7 =>
  if v7.1 = true then
    (mkS (0 : Int) (100001 : Int) (100001 : Int)).bind fun l9 =>
    L_SeriesPacked_j1 v2 v5 v6 l9
  else
    L_SeriesPacked_j1 v2 v5 v6 v4.1

end Go.Beacon
