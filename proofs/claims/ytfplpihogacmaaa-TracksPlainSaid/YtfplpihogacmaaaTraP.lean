/- Plain functions that the Go functions compute, written by shal.py. -/
import Derived.Test.YtfplpihogacmaaaCore
set_option linter.unusedVariables false
namespace Go.Beacon
open Go Go.Eng
structure Fleetmake_Stream where
  L : List Int
  at_ : Int
deriving DecidableEq, Inhabited
def Fleetmake_Stream.av (x : Fleetmake_Stream) : AV := .agg [.list 1 (x.L.map I), I x.at_]

structure Spot where
  X : Int
  Y : Int
deriving DecidableEq, Inhabited
def Spot.av (x : Spot) : AV := .agg [I x.X, I x.Y]

structure Fix where
  Device : Str
  At : Int
  X : Int
  Y : Int
  Error : Int
deriving DecidableEq, Inhabited
def Fix.av (x : Fix) : AV := .agg [.str x.Device, I x.At, I x.X, I x.Y, I x.Error]

structure Place_wide where
  high_ : Int
  low_ : Int
deriving DecidableEq, Inhabited
def Place_wide.av (x : Place_wide) : AV := .agg [.int .u64 x.high_, .int .u64 x.low_]

structure Fraction where
  Num : Int
  Den : Int
deriving DecidableEq, Inhabited
def Fraction.av (x : Fraction) : AV := .agg [I x.Num, I x.Den]

noncomputable def Below_j1 (n2 : Int) : Option Int :=
  some n2

noncomputable def Below (p0x0 : Int) (p1x0 : Int) : Option Int :=
  if p1x0 < (1 : Int) then
    some (0 : Int)
  else
    (rem p0x0 p1x0).bind fun n1 =>
    if n1 < (0 : Int) then
      Below_j1 (w64 (n1 + p1x0))
    else
      Below_j1 n1

noncomputable def Stream_Next (p0x0 : Fleetmake_Stream) (p1x0 : Int) : Option (Int × Fleetmake_Stream) :=
  if (p0x0.L.length : Int) = (0 : Int) then
    (Below (w64 ((w64 (p0x0.at_ + (1 : Int))) * (7919 : Int))) p1x0).bind fun v1 =>
    some (v1, (⟨p0x0.L, w64 (p0x0.at_ + (1 : Int))⟩ : Fleetmake_Stream))
  else
    (rem (w64 ((w64 (p0x0.at_ + (1 : Int))) - (1 : Int))) (p0x0.L.length : Int)).bind fun n2 =>
    (quo (w64 ((w64 (p0x0.at_ + (1 : Int))) - (1 : Int))) (p0x0.L.length : Int)).bind fun n3 =>
    (idx p0x0.L n2).bind fun v4 =>
    (Below v4 (1073741824 : Int)).bind fun v5 =>
    (Below (w64 (v5 + (w64 (n3 * (w64 ((7919 : Int) + n2)))))) p1x0).bind fun v6 =>
    some (v6, (⟨p0x0.L, w64 (p0x0.at_ + (1 : Int))⟩ : Fleetmake_Stream))

noncomputable def Stream_Pick (p0x0 : Fleetmake_Stream) (p1x0 : List Int) : Option (Int × Fleetmake_Stream) :=
  (Stream_Next p0x0 (p1x0.length : Int)).bind fun v1 =>
  (idx p1x0 v1.1).bind fun v2 =>
  some (v2, v1.2)

noncomputable def Stream_Place (p0x0 : Fleetmake_Stream) : Option (Spot × Fleetmake_Stream) :=
  (Stream_Pick p0x0 [(0 : Int), (1 : Int), (2 : Int), (3 : Int), (4 : Int), (5 : Int), (6 : Int), (8 : Int), (10 : Int), (-1 : Int), (-5 : Int), (20 : Int)]).bind fun v2 =>
  (Stream_Pick v2.2 [(0 : Int), (1 : Int), (2 : Int), (3 : Int), (4 : Int), (5 : Int), (6 : Int), (8 : Int), (10 : Int), (-1 : Int), (-5 : Int), (20 : Int)]).bind fun v3 =>
  some ((⟨v2.1, v3.1⟩ : Spot), v3.2)

noncomputable def Stream_Range (p0x0 : Fleetmake_Stream) (p1x0 : Int) (p2x0 : Int) : Option (Int × Fleetmake_Stream) :=
  if p2x0 < p1x0 then
    some (p1x0, p0x0)
  else
    (Stream_Next p0x0 (w64 ((w64 (p2x0 - p1x0)) + (1 : Int)))).bind fun v1 =>
    some (w64 (p1x0 + v1.1), v1.2)

noncomputable def Stream_Flip (p0x0 : Fleetmake_Stream) (p1x0 : Int) : Option (Bool × Fleetmake_Stream) :=
  (Stream_Next p0x0 p1x0).bind fun v1 =>
  some (decide (v1.1 = (0 : Int)), v1.2)

noncomputable def Stream_RightTrack_j2 (l15 : List Fix) (n16 : Int) (n19 : Int) (v21 : Int × Fleetmake_Stream) (n25 : Int) (n26 : Int) (v30 : Int × Fleetmake_Stream) (l33 : List Int) (n34 : Int) (n35 : Int) : Option (((List Int) × Int × (List Fix) × Int × Int × Int × Int) ⊕ ((List Fix) × Fleetmake_Stream)) :=
  (app l15 [(⟨([100] : Str), w64 (n16 + v21.1), n35, n26, v30.1⟩ : Fix)]).bind fun l37 =>
  some (.inl (l33, n34, l37, w64 (n16 + v21.1), n25, n26, w64 (n19 + (1 : Int))))

noncomputable def Stream_RightTrack_j1 (l15 : List Fix) (n16 : Int) (n19 : Int) (v21 : Int × Fleetmake_Stream) (l23 : List Int) (n24 : Int) (n25 : Int) (n26 : Int) : Option (((List Int) × Int × (List Fix) × Int × Int × Int × Int) ⊕ ((List Fix) × Fleetmake_Stream)) :=
  (Stream_Pick (⟨l23, n24⟩ : Fleetmake_Stream) [(0 : Int), (0 : Int), (1 : Int), (2 : Int), (5 : Int)]).bind fun v30 =>
  (Stream_Flip v30.2 (10 : Int)).bind fun v32 =>
  if v32.1 = true then
    (Stream_Pick v32.2 [(5000 : Int), (-10000 : Int), (300 : Int)]).bind fun v36 =>
    Stream_RightTrack_j2 l15 n16 n19 v21 n25 n26 v30 v36.2.L v36.2.at_ v36.1
  else
    Stream_RightTrack_j2 l15 n16 n19 v21 n25 n26 v30 v32.2.L v32.2.at_ n25

noncomputable def Stream_RightTrack_b1 (v3 : Int × Fleetmake_Stream) (l12 : List Int) (n13 : Int) (l15 : List Fix) (n16 : Int) (n17 : Int) (n18 : Int) (n19 : Int) : Option (((List Int) × Int × (List Fix) × Int × Int × Int × Int) ⊕ ((List Fix) × Fleetmake_Stream)) :=
  if n19 < v3.1 then
    (Stream_Pick (⟨l12, n13⟩ : Fleetmake_Stream) [(1 : Int), (10 : Int), (100 : Int), (1000 : Int), (1000 : Int)]).bind fun v21 =>
    (Stream_Flip v21.2 (6 : Int)).bind fun v22 =>
    if v22.1 = true then
      (Stream_Place v22.2).bind fun v27 =>
      Stream_RightTrack_j1 l15 n16 n19 v21 v27.2.L v27.2.at_ v27.1.X v27.1.Y
    else
      (Stream_Range v22.2 (-2 : Int) (2 : Int)).bind fun v28 =>
      (Stream_Range v28.2 (-2 : Int) (2 : Int)).bind fun v29 =>
      Stream_RightTrack_j1 l15 n16 n19 v21 v29.2.L v29.2.at_ (w64 (n17 + v28.1)) (w64 (n18 + v29.1))
  else
    Option.map .inr (some (l15, (⟨l12, n13⟩ : Fleetmake_Stream)))

noncomputable def Stream_RightTrack_l1 (v3 : Int × Fleetmake_Stream) (l12 : List Int) (n13 : Int) (l15 : List Fix) (n16 : Int) (n17 : Int) (n18 : Int) (n19 : Int) : Option ((List Fix) × Fleetmake_Stream) :=
  iter (fun x : (List Int) × Int × (List Fix) × Int × Int × Int × Int => Stream_RightTrack_b1 v3 x.1 x.2.1 x.2.2.1 x.2.2.2.1 x.2.2.2.2.1 x.2.2.2.2.2.1 x.2.2.2.2.2.2) (l12, n13, l15, n16, n17, n18, n19)

noncomputable def Stream_RightTrack (p0x0 : Fleetmake_Stream) (p1x0 : Int) : Option ((List Fix) × Fleetmake_Stream) :=
  (Stream_Place p0x0).bind fun v1 =>
  (Stream_Range v1.2 (0 : Int) p1x0).bind fun v3 =>
  Stream_RightTrack_l1 v3 v3.2.L v3.2.at_ [] (0 : Int) v1.1.X v1.1.Y (0 : Int)

noncomputable def Stream_Some (p0x0 : Fleetmake_Stream) (p1x0 : List Str) : Option (Str × Fleetmake_Stream) :=
  (Stream_Next p0x0 (p1x0.length : Int)).bind fun v1 =>
  (idx p1x0 v1.1).bind fun v2 =>
  some (v2, v1.2)

noncomputable def Stream_Odd (p0x0 : Fleetmake_Stream) (p1x0 : Int) (p2x0 : Int) : Option (Int × Fleetmake_Stream) :=
  (Stream_Flip p0x0 (12 : Int)).bind fun v1 =>
  if v1.1 = true then
    (Stream_Pick v1.2 [w64 (p1x0 - (1 : Int)), w64 (p2x0 + (1 : Int)), p1x0, p2x0, (-1099511627776 : Int), (1099511627776 : Int)]).bind fun v2 =>
    some (v2.1, v2.2)
  else
    (Stream_Range v1.2 p1x0 p2x0).bind fun v3 =>
    some (v3.1, v3.2)

noncomputable def Stream_Track_j2 (l7 : List Int) (n8 : Int) (l9 : List Fix) : Option ((List Fix) × Fleetmake_Stream) :=
  some (l9, (⟨l7, n8⟩ : Fleetmake_Stream))

noncomputable def Stream_Track_j3 (l13 : List Int) (n14 : Int) (l15 : List Fix) : Option ((List Fix) × Fleetmake_Stream) :=
  Stream_Track_j2 l13 n14 l15

noncomputable def Stream_Track_j4 (l17 : List Int) (n18 : Int) (l19 : List Fix) : Option ((List Fix) × Fleetmake_Stream) :=
  Stream_Track_j3 l17 n18 l19

noncomputable def Stream_Track_j5 (l21 : List Int) (n22 : Int) (l23 : List Fix) : Option ((List Fix) × Fleetmake_Stream) :=
  Stream_Track_j4 l21 n22 l23

noncomputable def Stream_Track_j1 (v1 : (List Fix) × Fleetmake_Stream) (l3 : List Int) (n4 : Int) (c5 : Bool) : Option ((List Fix) × Fleetmake_Stream) :=
  if c5 = true then
    (Stream_Next (⟨l3, n4⟩ : Fleetmake_Stream) (v1.1.length : Int)).bind fun v10 =>
    (idx v1.1 v10.1).bind fun v11 =>
    (Stream_Next v10.2 (4 : Int)).bind fun v12 =>
    if v12.1 = (0 : Int) then
      (Stream_Some v12.2 [([] : Str), ([101] : Str), ([65] : Str)]).bind fun v16 =>
      Stream_Track_j3 v16.2.L v16.2.at_ (v1.1.set v10.1.toNat (⟨v16.1, v11.At, v11.X, v11.Y, v11.Error⟩ : Fix))
    else
      if v12.1 = (1 : Int) then
        (Stream_Odd v12.2 (0 : Int) (100 : Int)).bind fun v20 =>
        Stream_Track_j4 v20.2.L v20.2.at_ (v1.1.set v10.1.toNat (⟨v11.Device, v20.1, v11.X, v11.Y, v11.Error⟩ : Fix))
      else
        if v12.1 = (2 : Int) then
          (Stream_Odd v12.2 (-10000 : Int) (10000 : Int)).bind fun v24 =>
          Stream_Track_j5 v24.2.L v24.2.at_ (v1.1.set v10.1.toNat (⟨v11.Device, v11.At, v24.1, v11.Y, v11.Error⟩ : Fix))
        else
          (Stream_Odd v12.2 (0 : Int) (10000 : Int)).bind fun v25 =>
          Stream_Track_j5 v25.2.L v25.2.at_ (v1.1.set v10.1.toNat (⟨v11.Device, v11.At, v11.X, v11.Y, v25.1⟩ : Fix))
  else
    Stream_Track_j2 l3 n4 v1.1

noncomputable def Stream_Track (p0x0 : Fleetmake_Stream) (p1x0 : Int) : Option ((List Fix) × Fleetmake_Stream) :=
  (Stream_RightTrack p0x0 p1x0).bind fun v1 =>
  if (0 : Int) < (v1.1.length : Int) then
    (Stream_Flip v1.2 (12 : Int)).bind fun v6 =>
    Stream_Track_j1 v1 v6.2.L v6.2.at_ v6.1
  else
    Stream_Track_j1 v1 v1.2.L v1.2.at_ false

noncomputable def base_Key_j2 (n5 : Int) (c7 : Bool) : Option (Int ⊕ Bool) :=
  if c7 = true then
    Option.map .inr (some false)
  else
    some (.inl (w64 (n5 + (1 : Int))))

noncomputable def base_Key_b1 (p0x0 : Str) (n5 : Int) : Option (Int ⊕ Bool) :=
  if n5 < (p0x0.length : Int) then
    (idx p0x0 n5).bind fun c6 =>
    base_Key_j2 n5 (if (97 : Int) ≤ (c6.toNat : Int) then if (c6.toNat : Int) ≤ (122 : Int) then !true else if (48 : Int) ≤ (c6.toNat : Int) then if (c6.toNat : Int) ≤ (57 : Int) then !true else if (c6.toNat : Int) = (45 : Int) then !true else decide (¬ ((c6.toNat : Int) = (95 : Int))) else if (c6.toNat : Int) = (45 : Int) then !true else decide (¬ ((c6.toNat : Int) = (95 : Int))) else if (48 : Int) ≤ (c6.toNat : Int) then if (c6.toNat : Int) ≤ (57 : Int) then !true else if (c6.toNat : Int) = (45 : Int) then !true else decide (¬ ((c6.toNat : Int) = (95 : Int))) else if (c6.toNat : Int) = (45 : Int) then !true else decide (¬ ((c6.toNat : Int) = (95 : Int))))
  else
    Option.map .inr (some true)

noncomputable def base_Key_l1 (p0x0 : Str) (n5 : Int) : Option Bool :=
  iter (fun x : Int => base_Key_b1 p0x0 x) n5

noncomputable def base_Key_j1 (p0x0 : Str) (c1 : Bool) : Option Bool :=
  if c1 = true then
    some false
  else
    base_Key_l1 p0x0 (0 : Int)

noncomputable def base_Key (p0x0 : Str) : Option Bool :=
  if p0x0 = ([] : Str) then
    base_Key_j1 p0x0 true
  else
    if (40 : Int) < (p0x0.length : Int) then
      base_Key_j1 p0x0 true
    else
      (idx p0x0 (0 : Int)).bind fun c2 =>
      if (c2.toNat : Int) < (97 : Int) then
        base_Key_j1 p0x0 true
      else
        (idx p0x0 (0 : Int)).bind fun c3 =>
        base_Key_j1 p0x0 (decide ((122 : Int) < (c3.toNat : Int)))

noncomputable def base_Out_j1 (c1 : Bool) : Bool :=
  c1

noncomputable def base_Out (p0x0 : Int) (p1x0 : Int) (p2x0 : Int) : Bool :=
  base_Out_j1 ((decide (p0x0 < p1x0)) || (decide (p2x0 < p0x0)))

noncomputable def base_Moment (p0x0 : Int) : Bool :=
  !(base_Out p0x0 (0 : Int) (345686399999 : Int))

noncomputable def place_spot (p0x0 : Fix) : Spot :=
  (⟨p0x0.X, p0x0.Y⟩ : Spot)

noncomputable def place_isSpot_j1 (c2 : Bool) : Bool :=
  c2

noncomputable def place_isSpot (p0x0 : Spot) : Bool :=
  place_isSpot_j1 ((!(base_Out p0x0.X (-10000 : Int) (10000 : Int))) && (!(base_Out p0x0.Y (-10000 : Int) (10000 : Int))))

noncomputable def cmp_isNaN_int (p0x0 : Int) : Bool :=
  decide (p0x0 ≠ p0x0)

noncomputable def cmp_Compare_int (p0x0 : Int) (p1x0 : Int) : Int :=
  if (cmp_isNaN_int p0x0) = true then
    if (cmp_isNaN_int p1x0) = true then
      (0 : Int)
    else
      (-1 : Int)
  else
    if (cmp_isNaN_int p1x0) = true then
      (1 : Int)
    else
      if p0x0 < p1x0 then
        (-1 : Int)
      else
        if p1x0 < p0x0 then
          (1 : Int)
        else
          (0 : Int)

noncomputable def cmp_Or_int_b1 (p0x0 : List Int) (n2 : Int) : Option (Int ⊕ Int) :=
  if n2 < (p0x0.length : Int) then
    (idx p0x0 n2).bind fun v3 =>
    if v3 ≠ (0 : Int) then
      Option.map .inr (some v3)
    else
      some (.inl (w64 (n2 + (1 : Int))))
  else
    Option.map .inr (some (0 : Int))

noncomputable def cmp_Or_int_l1 (p0x0 : List Int) (n2 : Int) : Option Int :=
  iter (fun x : Int => cmp_Or_int_b1 p0x0 x) n2

noncomputable def cmp_Or_int (p0x0 : List Int) : Option Int :=
  cmp_Or_int_l1 p0x0 (0 : Int)

noncomputable def place_byDevice (p0x0 : Fix) (p1x0 : Fix) : Option Int :=
  (cmp_Or_int [(Lib.compareBytes p0x0.Device p1x0.Device), (cmp_Compare_int p0x0.At p1x0.At)]).bind fun v3 =>
  some v3

noncomputable def place_CheckFixes_j2 (n2 : Int) (c7 : Bool) : Option (Int ⊕ Int) :=
  if c7 = true then
    Option.map .inr (some (7 : Int))
  else
    some (.inl (w64 (n2 + (1 : Int))))

noncomputable def place_CheckFixes_j1 (p0x0 : List Fix) (n2 : Int) (v3 : Fix) (c6 : Bool) : Option (Int ⊕ Int) :=
  if c6 = true then
    Option.map .inr (some (1 : Int))
  else
    if (0 : Int) < n2 then
      (idx p0x0 (w64 (n2 - (1 : Int)))).bind fun v8 =>
      (place_byDevice v3 v8).bind fun v9 =>
      place_CheckFixes_j2 n2 (decide (v9 ≤ (0 : Int)))
    else
      place_CheckFixes_j2 n2 false

noncomputable def place_CheckFixes_b1 (p0x0 : List Fix) (n2 : Int) : Option (Int ⊕ Int) :=
  if n2 < (p0x0.length : Int) then
    (idx p0x0 n2).bind fun v3 =>
    (base_Key v3.Device).bind fun v5 =>
    if (!v5) = true then
      Option.map .inr (some (5 : Int))
    else
      place_CheckFixes_j1 p0x0 n2 v3 ((!(base_Moment v3.At)) || ((!(place_isSpot (place_spot v3))) || (base_Out v3.Error (0 : Int) (10000 : Int))))
  else
    Option.map .inr (some (0 : Int))

noncomputable def place_CheckFixes_l1 (p0x0 : List Fix) (n2 : Int) : Option Int :=
  iter (fun x : Int => place_CheckFixes_b1 p0x0 x) n2

noncomputable def place_CheckFixes (p0x0 : List Fix) : Option Int :=
  if (2000 : Int) < (p0x0.length : Int) then
    some (2 : Int)
  else
    place_CheckFixes_l1 p0x0 (0 : Int)

noncomputable def place_trackFault_1x (p0x0 : Fix) (p1x0 : List Fix) : Option Bool :=
  (idx p1x0 (0 : Int)).bind fun v2 =>
  some (decide (p0x0.Device ≠ v2.Device))

noncomputable def slices_IndexFunc_Fix_Fix_b1 (p0x0 : List Fix) (fnb : Fix → Option Bool) (n2 : Int) : Option (Int ⊕ Int) :=
  if n2 < (p0x0.length : Int) then
    (idx p0x0 n2).bind fun v3 =>
    (fnb v3).bind fun v4 =>
    if v4 = true then
      Option.map .inr (some n2)
    else
      some (.inl (w64 (n2 + (1 : Int))))
  else
    Option.map .inr (some (-1 : Int))

noncomputable def slices_IndexFunc_Fix_Fix_l1 (p0x0 : List Fix) (fnb : Fix → Option Bool) (n2 : Int) : Option Int :=
  iter (fun x : Int => slices_IndexFunc_Fix_Fix_b1 p0x0 fnb x) n2

noncomputable def slices_IndexFunc_Fix_Fix (p0x0 : List Fix) (fnb : Fix → Option Bool) : Option Int :=
  slices_IndexFunc_Fix_Fix_l1 p0x0 fnb (0 : Int)

noncomputable def slices_ContainsFunc_Fix_Fix (p0x0 : List Fix) (fnb : Fix → Option Bool) : Option Bool :=
  (slices_IndexFunc_Fix_Fix p0x0 fnb).bind fun v1 =>
  some (decide ((0 : Int) ≤ v1))

noncomputable def place_trackFault (p0x0 : List Fix) : Option Int :=
  (place_CheckFixes p0x0).bind fun v2 =>
  if v2 ≠ (0 : Int) then
    some v2
  else
    (slices_ContainsFunc_Fix_Fix p0x0 (fun y0 => place_trackFault_1x y0 p0x0)).bind fun v3 =>
    if v3 = true then
      some (13 : Int)
    else
      some (0 : Int)

noncomputable def place_square (p0x0 : Spot) (p1x0 : Spot) : Int :=
  w64 ((w64 ((w64 (p0x0.X - p1x0.X)) * (w64 (p0x0.X - p1x0.X)))) + (w64 ((w64 (p0x0.Y - p1x0.Y)) * (w64 (p0x0.Y - p1x0.Y)))))

noncomputable def math_bits_Mul64x (p0x0 : Int) (p1x0 : Int) : Int × Int :=
  (IntKind.u64.wrap ((IntKind.u64.wrap ((IntKind.u64.wrap ((shrI .u64 p0x0 (32 : Int)) * (shrI .u64 p1x0 (32 : Int)))) + (shrI .u64 (IntKind.u64.wrap ((IntKind.u64.wrap ((shrI .u64 p0x0 (32 : Int)) * (andI .u64 p1x0 (4294967295 : Int)))) + (shrI .u64 (IntKind.u64.wrap ((andI .u64 p0x0 (4294967295 : Int)) * (andI .u64 p1x0 (4294967295 : Int)))) (32 : Int)))) (32 : Int)))) + (shrI .u64 (IntKind.u64.wrap ((andI .u64 (IntKind.u64.wrap ((IntKind.u64.wrap ((shrI .u64 p0x0 (32 : Int)) * (andI .u64 p1x0 (4294967295 : Int)))) + (shrI .u64 (IntKind.u64.wrap ((andI .u64 p0x0 (4294967295 : Int)) * (andI .u64 p1x0 (4294967295 : Int)))) (32 : Int)))) (4294967295 : Int)) + (IntKind.u64.wrap ((andI .u64 p0x0 (4294967295 : Int)) * (shrI .u64 p1x0 (32 : Int)))))) (32 : Int))), IntKind.u64.wrap (p0x0 * p1x0))

noncomputable def place_product (p0x0 : Int) (p1x0 : Int) : Place_wide :=
  (⟨(math_bits_Mul64x (IntKind.u64.wrap (p0x0)) (IntKind.u64.wrap (p1x0))).1, (math_bits_Mul64x (IntKind.u64.wrap (p0x0)) (IntKind.u64.wrap (p1x0))).2⟩ : Place_wide)

noncomputable def place_wide_over_j1 (c3 : Bool) : Bool :=
  c3

noncomputable def place_wide_over (p0x0 : Place_wide) (p1x0 : Place_wide) : Bool :=
  place_wide_over_j1 ((decide (p1x0.high_ < p0x0.high_)) || ((decide (p0x0.high_ = p1x0.high_)) && (decide (p1x0.low_ < p0x0.low_))))

noncomputable def place_Jumps_j1 (n13 : Int) (l16 : List Int) (n17 : Int) (n18 : Int) : Option (((List Int) × Int × Int × Int) ⊕ ((List Int) × Int)) :=
  some (.inl (l16, n17, n18, w64 (n13 + (1 : Int))))

noncomputable def place_Jumps_j2 (l10 : List Int) (n11 : Int) (n12 : Int) (n13 : Int) (c21 : Bool) : Option (((List Int) × Int × Int × Int) ⊕ ((List Int) × Int)) :=
  if c21 = true then
    (app l10 [n13]).bind fun l24 =>
    place_Jumps_j1 n13 l24 n11 (w64 (n12 + (1 : Int)))
  else
    place_Jumps_j1 n13 l10 n13 (0 : Int)

noncomputable def place_Jumps_b1 (p0x0 : List Fix) (p1x0 : Int) (l10 : List Int) (n11 : Int) (n12 : Int) (n13 : Int) : Option (((List Int) × Int × Int × Int) ⊕ ((List Int) × Int)) :=
  if n13 < (p0x0.length : Int) then
    (idx p0x0 n13).bind fun v19 =>
    (idx p0x0 n11).bind fun v20 =>
    (idx p0x0 n13).bind fun v22 =>
    (idx p0x0 n11).bind fun v23 =>
    place_Jumps_j2 l10 n11 n12 n13 ((place_wide_over (place_product (place_square (place_spot v22) (place_spot v23)) (1000000 : Int)) (place_product (w64 (p1x0 * (w64 (v19.At - v20.At)))) (w64 (p1x0 * (w64 (v19.At - v20.At)))))) && (decide (n12 < (2 : Int))))
  else
    Option.map .inr (some (l10, (0 : Int)))

noncomputable def place_Jumps_l1 (p0x0 : List Fix) (p1x0 : Int) (l10 : List Int) (n11 : Int) (n12 : Int) (n13 : Int) : Option ((List Int) × Int) :=
  iter (fun x : (List Int) × Int × Int × Int => place_Jumps_b1 p0x0 p1x0 x.1 x.2.1 x.2.2.1 x.2.2.2) (l10, n11, n12, n13)

noncomputable def place_Jumps (p0x0 : List Fix) (p1x0 : Int) : Option ((List Int) × Int) :=
  (place_trackFault p0x0).bind fun v1 =>
  if v1 ≠ (0 : Int) then
    some ([], v1)
  else
    if (base_Out p1x0 (1 : Int) (10000 : Int)) = true then
      some ([], (1 : Int))
    else
      place_Jumps_l1 p0x0 p1x0 [] (0 : Int) (0 : Int) (1 : Int)

noncomputable def place_side (p0x0 : Spot) (p1x0 : Spot) (p2x0 : Spot) : Int :=
  w64 ((w64 ((w64 (p1x0.X - p0x0.X)) * (w64 (p2x0.Y - p0x0.Y)))) - (w64 ((w64 (p1x0.Y - p0x0.Y)) * (w64 (p2x0.X - p0x0.X)))))

noncomputable def base_Gcd_b1 (n3 : Int) (n4 : Int) : Option ((Int × Int) ⊕ Int) :=
  if n4 ≠ (0 : Int) then
    (rem n3 n4).bind fun n5 =>
    some (.inl (n4, n5))
  else
    Option.map .inr (some n3)

noncomputable def base_Gcd_l1 (n3 : Int) (n4 : Int) : Option Int :=
  iter (fun x : Int × Int => base_Gcd_b1 x.1 x.2) (n3, n4)

noncomputable def base_Gcd (p0x0 : Int) (p1x0 : Int) : Option Int :=
  base_Gcd_l1 p0x0 p1x0

noncomputable def base_Fraction (p0x0 : Int) (p1x0 : Int) : Option Fraction :=
  (base_Gcd (max p0x0 (w64 (-p0x0))) p1x0).bind fun v2 =>
  (quo p0x0 v2).bind fun n3 =>
  (quo p1x0 v2).bind fun n4 =>
  some (⟨n3, n4⟩ : Fraction)

noncomputable def place_far (p0x0 : Spot) (p1x0 : Spot) (p2x0 : Spot) : Option Fraction :=
  if (w64 ((w64 ((w64 (p2x0.X - p0x0.X)) * (w64 (p1x0.X - p0x0.X)))) + (w64 ((w64 (p2x0.Y - p0x0.Y)) * (w64 (p1x0.Y - p0x0.Y)))))) ≤ (0 : Int) then
    some (⟨(place_square p0x0 p2x0), (1 : Int)⟩ : Fraction)
  else
    if (place_square p0x0 p1x0) ≤ (w64 ((w64 ((w64 (p2x0.X - p0x0.X)) * (w64 (p1x0.X - p0x0.X)))) + (w64 ((w64 (p2x0.Y - p0x0.Y)) * (w64 (p1x0.Y - p0x0.Y)))))) then
      some (⟨(place_square p1x0 p2x0), (1 : Int)⟩ : Fraction)
    else
      (base_Fraction (w64 ((place_side p0x0 p1x0 p2x0) * (place_side p0x0 p1x0 p2x0))) (place_square p0x0 p1x0)).bind fun v5 =>
      some v5

noncomputable def base_CompareProducts_j4 (c4 : Bool) : Int :=
  if c4 = true then
    (0 : Int)
  else
    (1 : Int)

noncomputable def base_CompareProducts_j2 (p0x0 : Int) (p1x0 : Int) (p2x0 : Int) (p3x0 : Int) (c2 : Bool) : Int :=
  if c2 = true then
    (-1 : Int)
  else
    base_CompareProducts_j4 ((decide (((math_bits_Mul64x (IntKind.u64.wrap (p0x0)) (IntKind.u64.wrap (p1x0))).1) = ((math_bits_Mul64x (IntKind.u64.wrap (p2x0)) (IntKind.u64.wrap (p3x0))).1))) && (decide (((math_bits_Mul64x (IntKind.u64.wrap (p0x0)) (IntKind.u64.wrap (p1x0))).2) = ((math_bits_Mul64x (IntKind.u64.wrap (p2x0)) (IntKind.u64.wrap (p3x0))).2))))

noncomputable def base_CompareProducts_j3 (p0x0 : Int) (p1x0 : Int) (p2x0 : Int) (p3x0 : Int) (c3 : Bool) : Int :=
  base_CompareProducts_j2 p0x0 p1x0 p2x0 p3x0 c3

noncomputable def base_CompareProducts_j1 (p0x0 : Int) (p1x0 : Int) (p2x0 : Int) (p3x0 : Int) (c1 : Bool) : Int :=
  if c1 = true then
    base_CompareProducts_j2 p0x0 p1x0 p2x0 p3x0 c1
  else
    base_CompareProducts_j3 p0x0 p1x0 p2x0 p3x0 ((decide (((math_bits_Mul64x (IntKind.u64.wrap (p0x0)) (IntKind.u64.wrap (p1x0))).1) = ((math_bits_Mul64x (IntKind.u64.wrap (p2x0)) (IntKind.u64.wrap (p3x0))).1))) && (decide (((math_bits_Mul64x (IntKind.u64.wrap (p0x0)) (IntKind.u64.wrap (p1x0))).2) < ((math_bits_Mul64x (IntKind.u64.wrap (p2x0)) (IntKind.u64.wrap (p3x0))).2))))

noncomputable def base_CompareProducts (p0x0 : Int) (p1x0 : Int) (p2x0 : Int) (p3x0 : Int) : Int :=
  base_CompareProducts_j1 p0x0 p1x0 p2x0 p3x0 ((decide (((math_bits_Mul64x (IntKind.u64.wrap (p0x0)) (IntKind.u64.wrap (p1x0))).1) ≠ ((math_bits_Mul64x (IntKind.u64.wrap (p2x0)) (IntKind.u64.wrap (p3x0))).1))) && (decide (((math_bits_Mul64x (IntKind.u64.wrap (p0x0)) (IntKind.u64.wrap (p1x0))).1) < ((math_bits_Mul64x (IntKind.u64.wrap (p2x0)) (IntKind.u64.wrap (p3x0))).1))))

noncomputable def place_less (p0x0 : Fraction) (p1x0 : Fraction) : Bool :=
  decide ((base_CompareProducts p0x0.Num p1x0.Den p1x0.Num p0x0.Den) < (0 : Int))

noncomputable def place_Plain_1x_j1 (n11 : Int) (n17 : Int) (n18 : Int) (n19 : Int) : Option ((Int × Int × Int × Int) ⊕ (List Bool)) :=
  some (.inl (n17, n18, n19, w64 (n11 + (1 : Int))))

noncomputable def place_Plain_1x_j2 (l21 : List Bool) : Option (List Bool) :=
  some l21

noncomputable def place_Plain_1x_k3 (self : Int → Int → (List Bool) → Int → (List Fix) → Option (List Bool)) (p0x0 : Int) (p1x0 : Int) (p2x0 : List Bool) (p3x0 : Int) (p4x0 : List Fix) (n8 : Int) : Option (List Bool) :=
  if (0 : Int) ≤ n8 then
    (self p0x0 n8 ((p2x0.set p0x0.toNat true).set p1x0.toNat true) p3x0 p4x0).bind fun v22 =>
    (self n8 p1x0 v22 p3x0 p4x0).bind fun v24 =>
    place_Plain_1x_j2 v24
  else
    place_Plain_1x_j2 ((p2x0.set p0x0.toNat true).set p1x0.toNat true)

noncomputable def place_Plain_1x_b1 (self : Int → Int → (List Bool) → Int → (List Fix) → Option (List Bool)) (p0x0 : Int) (p1x0 : Int) (p2x0 : List Bool) (p3x0 : Int) (p4x0 : List Fix) (n8 : Int) (n9 : Int) (n10 : Int) (n11 : Int) : Option ((Int × Int × Int × Int) ⊕ (List Bool)) :=
  if n11 < p1x0 then
    (idx p4x0 p0x0).bind fun v12 =>
    (idx p4x0 p1x0).bind fun v13 =>
    (idx p4x0 n11).bind fun v14 =>
    (place_far (place_spot v12) (place_spot v13) (place_spot v14)).bind fun v15 =>
    if (place_less (⟨n9, n10⟩ : Fraction) v15) = true then
      place_Plain_1x_j1 n11 n11 v15.Num v15.Den
    else
      place_Plain_1x_j1 n11 n8 n9 n10
  else
    Option.map .inr (place_Plain_1x_k3 self p0x0 p1x0 p2x0 p3x0 p4x0 n8)

noncomputable def place_Plain_1x_l1 (self : Int → Int → (List Bool) → Int → (List Fix) → Option (List Bool)) (p0x0 : Int) (p1x0 : Int) (p2x0 : List Bool) (p3x0 : Int) (p4x0 : List Fix) (n8 : Int) (n9 : Int) (n10 : Int) (n11 : Int) : Option (List Bool) :=
  iter (fun x : Int × Int × Int × Int => place_Plain_1x_b1 self p0x0 p1x0 p2x0 p3x0 p4x0 x.1 x.2.1 x.2.2.1 x.2.2.2) (n8, n9, n10, n11)

noncomputable def place_Plain_1x_bd (self : Int → Int → (List Bool) → Int → (List Fix) → Option (List Bool)) (p0x0 : Int) (p1x0 : Int) (p2x0 : List Bool) (p3x0 : Int) (p4x0 : List Fix) : Option (List Bool) :=
  (idx p2x0 p0x0).bind fun v1 =>
  (idx (p2x0.set p0x0.toNat true) p1x0).bind fun v2 =>
  place_Plain_1x_l1 self p0x0 p1x0 p2x0 p3x0 p4x0 (-1 : Int) (w64 (p3x0 * p3x0)) (1 : Int) (w64 (p0x0 + (1 : Int)))

/-- The function, to some depth. -/
noncomputable def place_Plain_1x_r : Nat → Int → Int → (List Bool) → Int → (List Fix) → Option (List Bool)
  | 0 => fun _ _ _ _ _ => none
  | k + 1 => place_Plain_1x_bd (place_Plain_1x_r k)

noncomputable def place_Plain_1x (p0x0 : Int) (p1x0 : Int) (p2x0 : List Bool) (p3x0 : Int) (p4x0 : List Fix) : Option (List Bool) :=
  place_Plain_1x_r depth p0x0 p1x0 p2x0 p3x0 p4x0

noncomputable def place_Plain_j2 (n19 : Int) (l23 : List Int) : Option (((List Int) × Int) ⊕ ((List Int) × Int)) :=
  some (.inl (l23, w64 (n19 + (1 : Int))))

noncomputable def place_Plain_b1 (l11 : List Bool) (l18 : List Int) (n19 : Int) : Option (((List Int) × Int) ⊕ ((List Int) × Int)) :=
  if n19 < (l11.length : Int) then
    (idx l11 n19).bind fun v21 =>
    if v21 = true then
      (app l18 [n19]).bind fun l24 =>
      place_Plain_j2 n19 l24
    else
      place_Plain_j2 n19 l18
  else
    Option.map .inr (some (l18, (0 : Int)))

noncomputable def place_Plain_l1 (l11 : List Bool) (l18 : List Int) (n19 : Int) : Option ((List Int) × Int) :=
  iter (fun x : (List Int) × Int => place_Plain_b1 l11 x.1 x.2) (l18, n19)

noncomputable def place_Plain_j1 (l11 : List Bool) : Option ((List Int) × Int) :=
  place_Plain_l1 l11 [] (0 : Int)

noncomputable def place_Plain (p0x0 : List Fix) (p1x0 : Int) : Option ((List Int) × Int) :=
  (place_trackFault p0x0).bind fun v3 =>
  if v3 ≠ (0 : Int) then
    some ([], v3)
  else
    if (base_Out p1x0 (0 : Int) (10000 : Int)) = true then
      some ([], (1 : Int))
    else
      (mkS false (p0x0.length : Int) (p0x0.length : Int)).bind fun l6 =>
      if (0 : Int) < (p0x0.length : Int) then
        (place_Plain_1x (0 : Int) (w64 ((p0x0.length : Int) - (1 : Int))) l6 p1x0 p0x0).bind fun v12 =>
        place_Plain_j1 v12
      else
        place_Plain_j1 l6

noncomputable def Q_in_j1 (c1 : Bool) : Bool :=
  c1

noncomputable def Q_in (p0x0 : Int) (p1x0 : Int) (p2x0 : Int) : Bool :=
  Q_in_j1 ((decide (p1x0 ≤ p0x0)) && (decide (p0x0 ≤ p2x0)))

noncomputable def Q_only_b1 (p0x0 : Str) (p1x0 : Str) (n2 : Int) : Option (Int ⊕ Bool) :=
  if n2 < (p0x0.length : Int) then
    (idx p0x0 n2).bind fun c3 =>
    if (indexByteI p1x0 (c3.toNat : Int)) < (0 : Int) then
      Option.map .inr (some false)
    else
      some (.inl (w64 (n2 + (1 : Int))))
  else
    Option.map .inr (some true)

noncomputable def Q_only_l1 (p0x0 : Str) (p1x0 : Str) (n2 : Int) : Option Bool :=
  iter (fun x : Int => Q_only_b1 p0x0 p1x0 x) n2

noncomputable def Q_only (p0x0 : Str) (p1x0 : Str) : Option Bool :=
  Q_only_l1 p0x0 p1x0 (0 : Int)

noncomputable def Q_Key_j1 (c1 : Bool) : Option Bool :=
  some c1

noncomputable def Q_Key (p0x0 : Str) : Option Bool :=
  if (Q_in (p0x0.length : Int) (1 : Int) (40 : Int)) = true then
    (slc p0x0 (0 : Int) (1 : Int)).bind fun l2 =>
    (Q_only l2 ([97, 98, 99, 100, 101, 102, 103, 104, 105, 106, 107, 108, 109, 110, 111, 112, 113, 114, 115, 116, 117, 118, 119, 120, 121, 122] : Str)).bind fun v3 =>
    if v3 = true then
      (Q_only p0x0 ([97, 98, 99, 100, 101, 102, 103, 104, 105, 106, 107, 108, 109, 110, 111, 112, 113, 114, 115, 116, 117, 118, 119, 120, 121, 122, 48, 49, 50, 51, 52, 53, 54, 55, 56, 57, 45, 95] : Str)).bind fun v4 =>
      Q_Key_j1 v4
    else
      Q_Key_j1 false
  else
    Q_Key_j1 false

noncomputable def Q_Moment (p0x0 : Int) : Bool :=
  (Q_in p0x0 (0 : Int) (345686399999 : Int))

noncomputable def Q_spotOf (p0x0 : Fix) : Spot :=
  (⟨p0x0.X, p0x0.Y⟩ : Spot)

noncomputable def Q_SpotFault_j1 (c2 : Bool) : Int :=
  if c2 = true then
    (1 : Int)
  else
    (0 : Int)

noncomputable def Q_SpotFault (p0x0 : Spot) : Int :=
  Q_SpotFault_j1 ((!(Q_in p0x0.X (-10000 : Int) (10000 : Int))) || (!(Q_in p0x0.Y (-10000 : Int) (10000 : Int))))

noncomputable def Q_sign (p0x0 : Int) : Int :=
  if p0x0 < (0 : Int) then
    (-1 : Int)
  else
    if (0 : Int) < p0x0 then
      (1 : Int)
    else
      (0 : Int)

noncomputable def Q_FixOrder (p0x0 : Fix) (p1x0 : Fix) : Int :=
  if p0x0.Device ≠ p1x0.Device then
    (Lib.compareBytes p0x0.Device p1x0.Device)
  else
    (Q_sign (w64 (p0x0.At - p1x0.At)))

noncomputable def Q_FixesFault_j2 (n2 : Int) (c7 : Bool) : Option (Int ⊕ Int) :=
  if c7 = true then
    Option.map .inr (some (7 : Int))
  else
    some (.inl (w64 (n2 + (1 : Int))))

noncomputable def Q_FixesFault_j1 (p0x0 : List Fix) (n2 : Int) (v3 : Fix) (c6 : Bool) : Option (Int ⊕ Int) :=
  if c6 = true then
    Option.map .inr (some (1 : Int))
  else
    if (0 : Int) < n2 then
      (idx p0x0 (w64 (n2 - (1 : Int)))).bind fun v8 =>
      Q_FixesFault_j2 n2 (decide ((0 : Int) ≤ (Q_FixOrder v8 v3)))
    else
      Q_FixesFault_j2 n2 false

noncomputable def Q_FixesFault_b1 (p0x0 : List Fix) (n2 : Int) : Option (Int ⊕ Int) :=
  if n2 < (p0x0.length : Int) then
    (idx p0x0 n2).bind fun v3 =>
    (Q_Key v3.Device).bind fun v5 =>
    if (!v5) = true then
      Option.map .inr (some (5 : Int))
    else
      Q_FixesFault_j1 p0x0 n2 v3 ((!(Q_Moment v3.At)) || ((decide ((Q_SpotFault (Q_spotOf v3)) ≠ (0 : Int))) || (!(Q_in v3.Error (0 : Int) (10000 : Int)))))
  else
    Option.map .inr (some (0 : Int))

noncomputable def Q_FixesFault_l1 (p0x0 : List Fix) (n2 : Int) : Option Int :=
  iter (fun x : Int => Q_FixesFault_b1 p0x0 x) n2

noncomputable def Q_FixesFault (p0x0 : List Fix) : Option Int :=
  if (2000 : Int) < (p0x0.length : Int) then
    some (2 : Int)
  else
    Q_FixesFault_l1 p0x0 (0 : Int)

noncomputable def Q_TrackFault_1x (p0x0 : Fix) (p1x0 : List Fix) : Option Bool :=
  (idx p1x0 (0 : Int)).bind fun v2 =>
  some (decide (p0x0.Device ≠ v2.Device))

noncomputable def Q_TrackFault (p0x0 : List Fix) : Option Int :=
  (Q_FixesFault p0x0).bind fun v2 =>
  if v2 ≠ (0 : Int) then
    some v2
  else
    (slices_ContainsFunc_Fix_Fix p0x0 (fun y0 => Q_TrackFault_1x y0 p0x0)).bind fun v3 =>
    if v3 = true then
      some (13 : Int)
    else
      some (0 : Int)

noncomputable def L_when (p0x0 : Bool) (p1x0 : Int) : Int :=
  if p0x0 = true then
    p1x0
  else
    (0 : Int)

noncomputable def L_errs_b1 (p0x0 : List Int) (n2 : Int) : Option (Int ⊕ Int) :=
  if n2 < (p0x0.length : Int) then
    (idx p0x0 n2).bind fun v3 =>
    if v3 ≠ (0 : Int) then
      Option.map .inr (some v3)
    else
      some (.inl (w64 (n2 + (1 : Int))))
  else
    Option.map .inr (some (0 : Int))

noncomputable def L_errs_l1 (p0x0 : List Int) (n2 : Int) : Option Int :=
  iter (fun x : Int => L_errs_b1 p0x0 x) n2

noncomputable def L_errs (p0x0 : List Int) : Option Int :=
  L_errs_l1 p0x0 (0 : Int)

noncomputable def Q_minus (p0x0 : Spot) (p1x0 : Spot) : Spot :=
  (⟨w64 (p0x0.X - p1x0.X), w64 (p0x0.Y - p1x0.Y)⟩ : Spot)

noncomputable def Q_dot (p0x0 : Spot) (p1x0 : Spot) : Int :=
  w64 ((w64 (p0x0.X * p1x0.X)) + (w64 (p0x0.Y * p1x0.Y)))

noncomputable def Q_square (p0x0 : Fix) (p1x0 : Fix) : Int :=
  (Q_dot (Q_minus (Q_spotOf p0x0) (Q_spotOf p1x0)) (Q_minus (Q_spotOf p0x0) (Q_spotOf p1x0)))

noncomputable def Q_JumpsOf_j1 (n10 : Int) (l13 : List Int) (n14 : Int) (n15 : Int) : Option (((List Int) × Int × Int × Int) ⊕ (List Int)) :=
  some (.inl (l13, n14, n15, w64 (n10 + (1 : Int))))

noncomputable def Q_JumpsOf_j2 (l7 : List Int) (n8 : Int) (n9 : Int) (n10 : Int) (c18 : Bool) : Option (((List Int) × Int × Int × Int) ⊕ (List Int)) :=
  if c18 = true then
    Q_JumpsOf_j1 n10 l7 n10 (0 : Int)
  else
    (app l7 [n10]).bind fun l21 =>
    Q_JumpsOf_j1 n10 l21 n8 (w64 (n9 + (1 : Int)))

noncomputable def Q_JumpsOf_b1 (p0x0 : List Fix) (p1x0 : Int) (l7 : List Int) (n8 : Int) (n9 : Int) (n10 : Int) : Option (((List Int) × Int × Int × Int) ⊕ (List Int)) :=
  if n10 < (p0x0.length : Int) then
    (idx p0x0 n10).bind fun v16 =>
    (idx p0x0 n8).bind fun v17 =>
    if (100000000 : Int) ≤ (w64 (p1x0 * (min (w64 (v16.At - v17.At)) (100000000 : Int)))) then
      Q_JumpsOf_j2 l7 n8 n9 n10 true
    else
      (idx p0x0 n10).bind fun v19 =>
      (idx p0x0 n8).bind fun v20 =>
      Q_JumpsOf_j2 l7 n8 n9 n10 ((decide ((w64 ((Q_square v19 v20) * (1000000 : Int))) ≤ (w64 ((w64 (p1x0 * (min (w64 (v16.At - v17.At)) (100000000 : Int)))) * (w64 (p1x0 * (min (w64 (v16.At - v17.At)) (100000000 : Int)))))))) || (decide (n9 = (2 : Int))))
  else
    Option.map .inr (some l7)

noncomputable def Q_JumpsOf_l1 (p0x0 : List Fix) (p1x0 : Int) (l7 : List Int) (n8 : Int) (n9 : Int) (n10 : Int) : Option (List Int) :=
  iter (fun x : (List Int) × Int × Int × Int => Q_JumpsOf_b1 p0x0 p1x0 x.1 x.2.1 x.2.2.1 x.2.2.2) (l7, n8, n9, n10)

noncomputable def Q_JumpsOf (p0x0 : List Fix) (p1x0 : Int) : Option (List Int) :=
  Q_JumpsOf_l1 p0x0 p1x0 [] (0 : Int) (0 : Int) (1 : Int)

noncomputable def Q_cross (p0x0 : Spot) (p1x0 : Spot) : Int :=
  w64 ((w64 (p0x0.X * p1x0.Y)) - (w64 (p0x0.Y * p1x0.X)))

noncomputable def Q_Lowest_j1 (p0x0 : Int) (p1x0 : Int) (n7 : Int) : Option Fraction :=
  (quo p0x0 n7).bind fun n8 =>
  (quo p1x0 n7).bind fun n9 =>
  some (⟨n8, n9⟩ : Fraction)

noncomputable def Q_Lowest_k2 (p0x0 : Int) (p1x0 : Int) (n4 : Int) : Option Fraction :=
  if n4 < (0 : Int) then
    Q_Lowest_j1 p0x0 p1x0 (w64 (-n4))
  else
    Q_Lowest_j1 p0x0 p1x0 n4

noncomputable def Q_Lowest_b1 (p0x0 : Int) (p1x0 : Int) (n4 : Int) (n5 : Int) : Option ((Int × Int) ⊕ Fraction) :=
  if n5 ≠ (0 : Int) then
    (rem n4 n5).bind fun n6 =>
    some (.inl (n5, n6))
  else
    Option.map .inr (Q_Lowest_k2 p0x0 p1x0 n4)

noncomputable def Q_Lowest_l1 (p0x0 : Int) (p1x0 : Int) (n4 : Int) (n5 : Int) : Option Fraction :=
  iter (fun x : Int × Int => Q_Lowest_b1 p0x0 p1x0 x.1 x.2) (n4, n5)

noncomputable def Q_Lowest (p0x0 : Int) (p1x0 : Int) : Option Fraction :=
  Q_Lowest_l1 p0x0 p1x0 p0x0 p1x0

noncomputable def Q_farWay (p0x0 : Spot) (p1x0 : Spot) (p2x0 : Spot) : Option Fraction :=
  if (Q_dot (Q_minus p2x0 p0x0) (Q_minus p1x0 p0x0)) ≤ (0 : Int) then
    some (⟨(Q_dot (Q_minus p2x0 p0x0) (Q_minus p2x0 p0x0)), (1 : Int)⟩ : Fraction)
  else
    if (0 : Int) ≤ (Q_dot (Q_minus p2x0 p1x0) (Q_minus p1x0 p0x0)) then
      some (⟨(Q_dot (Q_minus p2x0 p1x0) (Q_minus p2x0 p1x0)), (1 : Int)⟩ : Fraction)
    else
      (Q_Lowest (w64 ((Q_cross (Q_minus p1x0 p0x0) (Q_minus p2x0 p0x0)) * (Q_cross (Q_minus p1x0 p0x0) (Q_minus p2x0 p0x0)))) (Q_dot (Q_minus p1x0 p0x0) (Q_minus p1x0 p0x0))).bind fun v6 =>
      some v6

noncomputable def Q_floor (p0x0 : Int) (p1x0 : Int) : Option Int :=
  (rem p0x0 p1x0).bind fun n1 =>
  if n1 < (0 : Int) then
    (quo p0x0 p1x0).bind fun n2 =>
    some (w64 (n2 - (1 : Int)))
  else
    (quo p0x0 p1x0).bind fun n3 =>
    some n3

noncomputable def Q_less_j2 (c14 : Bool) : Option ((Int × Int × Int × Int) ⊕ Bool) :=
  Option.map .inr (some c14)

noncomputable def Q_less_j1 (n7 : Int) (n8 : Int) (n9 : Int) (n10 : Int) (v11 : Int) (v12 : Int) (c13 : Bool) : Option ((Int × Int × Int × Int) ⊕ Bool) :=
  if c13 = true then
    Q_less_j2 ((decide ((w64 (n7 - (w64 (v11 * n8)))) = (0 : Int))) && (decide ((w64 (n9 - (w64 (v12 * n10)))) ≠ (0 : Int))))
  else
    some (.inl (n10, w64 (n9 - (w64 (v12 * n10))), n8, w64 (n7 - (w64 (v11 * n8)))))

noncomputable def Q_less_b1 (n7 : Int) (n8 : Int) (n9 : Int) (n10 : Int) : Option ((Int × Int × Int × Int) ⊕ Bool) :=
  (Q_floor n7 n8).bind fun v11 =>
  (Q_floor n9 n10).bind fun v12 =>
  if v11 ≠ v12 then
    Option.map .inr (some (decide (v11 < v12)))
  else
    Q_less_j1 n7 n8 n9 n10 v11 v12 ((decide ((w64 (n7 - (w64 (v11 * n8)))) = (0 : Int))) || (decide ((w64 (n9 - (w64 (v12 * n10)))) = (0 : Int))))

noncomputable def Q_less_l1 (n7 : Int) (n8 : Int) (n9 : Int) (n10 : Int) : Option Bool :=
  iter (fun x : Int × Int × Int × Int => Q_less_b1 x.1 x.2.1 x.2.2.1 x.2.2.2) (n7, n8, n9, n10)

noncomputable def Q_less (p0x0 : Fraction) (p1x0 : Fraction) : Option Bool :=
  Q_less_l1 p0x0.Num p0x0.Den p1x0.Num p1x0.Den

/-- Sorted by Go. -/
noncomputable def slices_Sort_int_int (p0x0 : List Int) : Option (List Int) :=
  sort1 srtI p0x0

noncomputable def Q_PlainOf_b1 (p0x0 : List Fix) (l5 : List Int) (n6 : Int) : Option (((List Int) × Int) ⊕ (List Int)) :=
  if n6 < (p0x0.length : Int) then
    (app l5 [n6]).bind fun l8 =>
    some (.inl (l8, w64 (n6 + (1 : Int))))
  else
    Option.map .inr (some l5)

noncomputable def Q_PlainOf_l1 (p0x0 : List Fix) (l5 : List Int) (n6 : Int) : Option (List Int) :=
  iter (fun x : (List Int) × Int => Q_PlainOf_b1 p0x0 x.1 x.2) (l5, n6)

noncomputable def Q_PlainOf_j2 (n30 : Int) (n37 : Int) (n38 : Int) (n39 : Int) : Option ((Int × Int × Int × Int) ⊕ ((Int × Int) ⊕ ((List Int) ⊕ (List Int)))) :=
  some (.inl (n37, n38, n39, w64 (n30 + (1 : Int))))

noncomputable def Q_PlainOf_b4 (p0x0 : List Fix) (n18 : Int) (v20 : Int) (v21 : Int) (n27 : Int) (n28 : Int) (n29 : Int) (n30 : Int) : Option ((Int × Int × Int × Int) ⊕ ((Int × Int) ⊕ ((List Int) ⊕ (List Int)))) :=
  if n30 < v21 then
    (idx p0x0 v20).bind fun v31 =>
    (idx p0x0 v21).bind fun v32 =>
    (idx p0x0 n30).bind fun v33 =>
    (Q_farWay (Q_spotOf v31) (Q_spotOf v32) (Q_spotOf v33)).bind fun v34 =>
    (Q_less (⟨n28, n29⟩ : Fraction) v34).bind fun v36 =>
    if v36 = true then
      Q_PlainOf_j2 n30 n30 v34.Num v34.Den
    else
      Q_PlainOf_j2 n30 n27 n28 n29
  else
    Option.map .inr (some (.inl (n27, w64 (n18 + (1 : Int)))))

noncomputable def Q_PlainOf_l4 (p0x0 : List Fix) (n18 : Int) (v20 : Int) (v21 : Int) (n27 : Int) (n28 : Int) (n29 : Int) (n30 : Int) : Option ((Int × Int) ⊕ ((List Int) ⊕ (List Int))) :=
  iter (fun x : Int × Int × Int × Int => Q_PlainOf_b4 p0x0 n18 v20 v21 x.1 x.2.1 x.2.2.1 x.2.2.2) (n27, n28, n29, n30)

noncomputable def Q_PlainOf_k3 (l14 : List Int) (n17 : Int) : Option ((List Int) ⊕ (List Int)) :=
  if n17 < (0 : Int) then
    Option.map .inr (some l14)
  else
    (app l14 [n17]).bind fun l40 =>
    (lenOk l40.length (fun r : (List Int) => r.length) (slices_Sort_int_int l40)).bind fun v42 =>
    some (.inl v42)

noncomputable def Q_PlainOf_j1 (p0x0 : List Fix) (p1x0 : Int) (l14 : List Int) (n17 : Int) (n18 : Int) (c19 : Bool) : Option ((Int × Int) ⊕ ((List Int) ⊕ (List Int))) :=
  if c19 = true then
    (idx l14 (w64 (n18 - (1 : Int)))).bind fun v20 =>
    (idx l14 n18).bind fun v21 =>
    Q_PlainOf_l4 p0x0 n18 v20 v21 n17 (w64 (p1x0 * p1x0)) (1 : Int) (w64 (v20 + (1 : Int)))
  else
    Option.map .inr (Q_PlainOf_k3 l14 n17)

noncomputable def Q_PlainOf_b3 (p0x0 : List Fix) (p1x0 : Int) (l14 : List Int) (n17 : Int) (n18 : Int) : Option ((Int × Int) ⊕ ((List Int) ⊕ (List Int))) :=
  Q_PlainOf_j1 p0x0 p1x0 l14 n17 n18 ((decide (n18 < (l14.length : Int))) && (decide (n17 < (0 : Int))))

noncomputable def Q_PlainOf_l3 (p0x0 : List Fix) (p1x0 : Int) (l14 : List Int) (n17 : Int) (n18 : Int) : Option ((List Int) ⊕ (List Int)) :=
  iter (fun x : Int × Int => Q_PlainOf_b3 p0x0 p1x0 l14 x.1 x.2) (n17, n18)

noncomputable def Q_PlainOf_b2 (p0x0 : List Fix) (p1x0 : Int) (l14 : List Int) : Option ((List Int) ⊕ (List Int)) :=
  Q_PlainOf_l3 p0x0 p1x0 l14 (-1 : Int) (1 : Int)

noncomputable def Q_PlainOf_l2 (p0x0 : List Fix) (p1x0 : Int) (l14 : List Int) : Option (List Int) :=
  iter (fun x : (List Int) => Q_PlainOf_b2 p0x0 p1x0 x) l14

noncomputable def Q_PlainOf (p0x0 : List Fix) (p1x0 : Int) : Option (List Int) :=
  if (p0x0.length : Int) < (2 : Int) then
    Q_PlainOf_l1 p0x0 [] (0 : Int)
  else
    Q_PlainOf_l2 p0x0 p1x0 [(0 : Int), w64 ((p0x0.length : Int) - (1 : Int))]

noncomputable def slices_Equal_int_int_b1 (p0x0 : List Int) (p1x0 : List Int) (n2 : Int) : Option (Int ⊕ Bool) :=
  if n2 < (p0x0.length : Int) then
    (idx p0x0 n2).bind fun v3 =>
    (idx p1x0 n2).bind fun v4 =>
    if v3 ≠ v4 then
      Option.map .inr (some false)
    else
      some (.inl (w64 (n2 + (1 : Int))))
  else
    Option.map .inr (some true)

noncomputable def slices_Equal_int_int_l1 (p0x0 : List Int) (p1x0 : List Int) (n2 : Int) : Option Bool :=
  iter (fun x : Int => slices_Equal_int_int_b1 p0x0 p1x0 x) n2

noncomputable def slices_Equal_int_int (p0x0 : List Int) (p1x0 : List Int) : Option Bool :=
  if (p0x0.length : Int) ≠ (p1x0.length : Int) then
    some false
  else
    slices_Equal_int_int_l1 p0x0 p1x0 (0 : Int)

noncomputable def place_Cell_b1 (p0x0 : Spot) (p1x0 : Int) (l8 : List Int) (n9 : Int) (n10 : Int) : Option (((List Int) × Int × Int) ⊕ (Str × Int)) :=
  if n10 < p1x0 then
    (quo (w64 (p0x0.X - (-16384 : Int))) (w64 (n9.tdiv (2 : Int)))).bind fun n12 =>
    (quo (w64 (p0x0.Y - (-16384 : Int))) (w64 (n9.tdiv (2 : Int)))).bind fun n13 =>
    (app l8 [IntKind.u8.wrap ((IntKind.u8.wrap ((48 : Int) + (IntKind.u8.wrap (n12.tmod (2 : Int))))) + (IntKind.u8.wrap ((2 : Int) * (IntKind.u8.wrap (n13.tmod (2 : Int))))))]).bind fun l14 =>
    some (.inl (l14, w64 (n9.tdiv (2 : Int)), w64 (n10 + (1 : Int))))
  else
    Option.map .inr (some (strB l8, (0 : Int)))

noncomputable def place_Cell_l1 (p0x0 : Spot) (p1x0 : Int) (l8 : List Int) (n9 : Int) (n10 : Int) : Option (Str × Int) :=
  iter (fun x : (List Int) × Int × Int => place_Cell_b1 p0x0 p1x0 x.1 x.2.1 x.2.2) (l8, n9, n10)

noncomputable def place_Cell_j1 (p0x0 : Spot) (p1x0 : Int) (c2 : Bool) : Option (Str × Int) :=
  if c2 = true then
    some (([] : Str), (1 : Int))
  else
    place_Cell_l1 p0x0 p1x0 [] (32768 : Int) (0 : Int)

noncomputable def place_Cell (p0x0 : Spot) (p1x0 : Int) : Option (Str × Int) :=
  place_Cell_j1 p0x0 p1x0 ((!(place_isSpot p0x0)) || (base_Out p1x0 (0 : Int) (15 : Int)))

noncomputable def L_placed_j1 (c2 : Bool) : Option Bool :=
  some c2

noncomputable def L_placed : Option Bool :=
  (place_Cell (⟨(0 : Int), (0 : Int)⟩ : Spot) (1 : Int)).bind fun v1 =>
  L_placed_j1 ((decide (v1.2 = (0 : Int))) && (decide (v1.1 = ([51] : Str))))

noncomputable def L_TracksPlain_j7 (c31 : Bool) : Option Bool :=
  some c31

noncomputable def L_TracksPlain_j6 (v10 : (List Int) × Int) (v12 : (List Int) × Int) (n15 : Int) (n18 : Int) (l22 : List Int) (l27 : List Int) : Option Bool :=
  if v10.2 = n15 then
    (slices_Equal_int_int v10.1 l22).bind fun v32 =>
    if v32 = true then
      if v12.2 = n18 then
        (slices_Equal_int_int v12.1 l27).bind fun v33 =>
        if v33 = true then
          (L_placed).bind fun v34 =>
          L_TracksPlain_j7 v34
        else
          L_TracksPlain_j7 false
      else
        L_TracksPlain_j7 false
    else
      L_TracksPlain_j7 false
  else
    L_TracksPlain_j7 false

noncomputable def L_TracksPlain_j5 (v5 : Int × Fleetmake_Stream) (l8 : List Fix) (v10 : (List Int) × Int) (v12 : (List Int) × Int) (n15 : Int) (n18 : Int) (l22 : List Int) : Option Bool :=
  if n18 = (0 : Int) then
    (Q_PlainOf l8 v5.1).bind fun v28 =>
    L_TracksPlain_j6 v10 v12 n15 n18 l22 v28
  else
    L_TracksPlain_j6 v10 v12 n15 n18 l22 []

noncomputable def L_TracksPlain_j4 (v4 : Int × Fleetmake_Stream) (v5 : Int × Fleetmake_Stream) (l8 : List Fix) (v10 : (List Int) × Int) (v12 : (List Int) × Int) (n15 : Int) (n18 : Int) : Option Bool :=
  if n15 = (0 : Int) then
    (Q_JumpsOf l8 v4.1).bind fun v23 =>
    L_TracksPlain_j5 v5 l8 v10 v12 n15 n18 v23
  else
    L_TracksPlain_j5 v5 l8 v10 v12 n15 n18 []

noncomputable def L_TracksPlain_j3 (v4 : Int × Fleetmake_Stream) (v5 : Int × Fleetmake_Stream) (l8 : List Fix) (v10 : (List Int) × Int) (v12 : (List Int) × Int) (v14 : Int) (n15 : Int) : Option Bool :=
  if v5.1 < (0 : Int) then
    (L_errs [v14, (L_when true (1 : Int))]).bind fun v20 =>
    L_TracksPlain_j4 v4 v5 l8 v10 v12 n15 v20
  else
    (L_errs [v14, (L_when (decide ((10000 : Int) < v5.1)) (1 : Int))]).bind fun v19 =>
    L_TracksPlain_j4 v4 v5 l8 v10 v12 n15 v19

noncomputable def L_TracksPlain_j2 (v4 : Int × Fleetmake_Stream) (v5 : Int × Fleetmake_Stream) (l8 : List Fix) : Option Bool :=
  (place_Jumps l8 v4.1).bind fun v10 =>
  (place_Plain l8 v5.1).bind fun v12 =>
  (Q_TrackFault l8).bind fun v14 =>
  if v4.1 < (1 : Int) then
    (L_errs [v14, (L_when true (1 : Int))]).bind fun v17 =>
    L_TracksPlain_j3 v4 v5 l8 v10 v12 v14 v17
  else
    (L_errs [v14, (L_when (decide ((10000 : Int) < v4.1)) (1 : Int))]).bind fun v16 =>
    L_TracksPlain_j3 v4 v5 l8 v10 v12 v14 v16

noncomputable def L_TracksPlain_j1 (v2 : (List Fix) × Fleetmake_Stream) (v4 : Int × Fleetmake_Stream) (v5 : Int × Fleetmake_Stream) (c6 : Bool) : Option Bool :=
  if c6 = true then
    (idx v2.1 (w64 ((v2.1.length : Int) - (1 : Int)))).bind fun v9 =>
    L_TracksPlain_j2 v4 v5 (v2.1.set (w64 ((v2.1.length : Int) - (1 : Int))).toNat (⟨v9.Device, (345686399999 : Int), v9.X, v9.Y, v9.Error⟩ : Fix))
  else
    L_TracksPlain_j2 v4 v5 v2.1

noncomputable def L_TracksPlain (p0x0 : List Int) : Option Bool :=
  (Stream_Track (⟨p0x0, (0 : Int)⟩ : Fleetmake_Stream) (12 : Int)).bind fun v2 =>
  (Stream_Pick v2.2 [(1 : Int), (2 : Int), (5 : Int), (10000 : Int), (0 : Int), (10001 : Int)]).bind fun v4 =>
  (Stream_Pick v4.2 [(0 : Int), (1 : Int), (2 : Int), (5 : Int), (10000 : Int), (-1 : Int), (10001 : Int)]).bind fun v5 =>
  if (0 : Int) < (v2.1.length : Int) then
    (Stream_Flip v5.2 (20 : Int)).bind fun v7 =>
    L_TracksPlain_j1 v2 v4 v5 v7.1
  else
    L_TracksPlain_j1 v2 v4 v5 false

end Go.Beacon
