/- Plain functions that the Go functions compute, written by shal.py. -/
import Derived.Test.YtjelgjkccklfaaaGreatDoorCore
set_option linter.unusedVariables false
namespace Go.Beacon
open Go Go.Eng
structure Fleetmake_Stream where
  L : List Int
  at_ : Int
deriving DecidableEq, Inhabited
def Fleetmake_Stream.av (x : Fleetmake_Stream) : AV := .agg [.list 1 (x.L.map I), I x.at_]

structure Version where
  Major : Int
  Minor : Int
  Patch : Int
deriving DecidableEq, Inhabited
def Version.av (x : Version) : AV := .agg [I x.Major, I x.Minor, I x.Patch]
instance : KLt Version := ⟨fun a b => (KLt.lt a.Major b.Major || (decide (a.Major = b.Major) && (KLt.lt a.Minor b.Minor || (decide (a.Minor = b.Minor) && (KLt.lt a.Patch b.Patch || (decide (a.Patch = b.Patch) && false))))))⟩

structure Range where
  Low : Version
  High : Version
deriving DecidableEq, Inhabited
def Range.av (x : Range) : AV := .agg [I x.Low.Major, I x.Low.Minor, I x.Low.Patch, I x.High.Major, I x.High.Minor, I x.High.Patch]

structure Image where
  Version : Version
  Models : List Str
  From : List Range
  Size : Int
deriving DecidableEq, Inhabited
def Image.av (x : Image) : AV := .agg [I x.Version.Major, I x.Version.Minor, I x.Version.Patch, .list 1 (x.Models.map AV.str), .list 6 (x.From.map Range.av), I x.Size]

structure Campaign_cost where
  steps_ : Int
  size_ : Int
deriving DecidableEq, Inhabited
def Campaign_cost.av (x : Campaign_cost) : AV := .agg [I x.steps_, I x.size_]

structure Fleetref2_trip where
  way_ : List Version
  size_ : Int
deriving DecidableEq, Inhabited
def Fleetref2_trip.av (x : Fleetref2_trip) : AV := .agg [.list 3 (x.way_.map Version.av), I x.size_]

noncomputable def Below_j1 (n2 : Int) : Option Int :=
  some n2

noncomputable def Below (p0x0 : Int) (p1x0 : Int) : Option Int :=
  if p1x0 < (1 : Int) then
    some (0 : Int)
  else
    (rem p0x0 p1x0).bind fun n1 =>
    if n1 < (0 : Int) then
      Below_j1 (w64 (n1 + p1x0))
    else
      Below_j1 n1

noncomputable def Stream_Next (p0x0 : Fleetmake_Stream) (p1x0 : Int) : Option (Int × Fleetmake_Stream) :=
  if (p0x0.L.length : Int) = (0 : Int) then
    (Below (w64 ((w64 (p0x0.at_ + (1 : Int))) * (7919 : Int))) p1x0).bind fun v1 =>
    some (v1, (⟨p0x0.L, w64 (p0x0.at_ + (1 : Int))⟩ : Fleetmake_Stream))
  else
    (rem (w64 ((w64 (p0x0.at_ + (1 : Int))) - (1 : Int))) (p0x0.L.length : Int)).bind fun n2 =>
    (quo (w64 ((w64 (p0x0.at_ + (1 : Int))) - (1 : Int))) (p0x0.L.length : Int)).bind fun n3 =>
    (idx p0x0.L n2).bind fun v4 =>
    (Below v4 (1073741824 : Int)).bind fun v5 =>
    (Below (w64 (v5 + (w64 (n3 * (w64 ((7919 : Int) + n2)))))) p1x0).bind fun v6 =>
    some (v6, (⟨p0x0.L, w64 (p0x0.at_ + (1 : Int))⟩ : Fleetmake_Stream))

noncomputable def Stream_Flip (p0x0 : Fleetmake_Stream) (p1x0 : Int) : Option (Bool × Fleetmake_Stream) :=
  (Stream_Next p0x0 p1x0).bind fun v1 =>
  some (decide (v1.1 = (0 : Int)), v1.2)

noncomputable def Stream_Pick (p0x0 : Fleetmake_Stream) (p1x0 : List Int) : Option (Int × Fleetmake_Stream) :=
  (Stream_Next p0x0 (p1x0.length : Int)).bind fun v1 =>
  (idx p1x0 v1.1).bind fun v2 =>
  some (v2, v1.2)

noncomputable def Stream_Range (p0x0 : Fleetmake_Stream) (p1x0 : Int) (p2x0 : Int) : Option (Int × Fleetmake_Stream) :=
  if p2x0 < p1x0 then
    some (p1x0, p0x0)
  else
    (Stream_Next p0x0 (w64 ((w64 (p2x0 - p1x0)) + (1 : Int)))).bind fun v1 =>
    some (w64 (p1x0 + v1.1), v1.2)

noncomputable def whole (p0x0 : Int) : Version :=
  (⟨p0x0, (0 : Int), (0 : Int)⟩ : Version)

noncomputable def cmp_isNaN_int (p0x0 : Int) : Bool :=
  decide (p0x0 ≠ p0x0)

noncomputable def cmp_Compare_int (p0x0 : Int) (p1x0 : Int) : Int :=
  if (cmp_isNaN_int p0x0) = true then
    if (cmp_isNaN_int p1x0) = true then
      (0 : Int)
    else
      (-1 : Int)
  else
    if (cmp_isNaN_int p1x0) = true then
      (1 : Int)
    else
      if p0x0 < p1x0 then
        (-1 : Int)
      else
        if p1x0 < p0x0 then
          (1 : Int)
        else
          (0 : Int)

noncomputable def slices_Compare_int_int_k1 (p0x0 : List Int) (p1x0 : List Int) : Option Int :=
  if (p0x0.length : Int) < (p1x0.length : Int) then
    some (-1 : Int)
  else
    some (0 : Int)

noncomputable def slices_Compare_int_int_b1 (p0x0 : List Int) (p1x0 : List Int) (n2 : Int) : Option (Int ⊕ Int) :=
  if n2 < (p0x0.length : Int) then
    (idx p0x0 n2).bind fun v3 =>
    if (p1x0.length : Int) ≤ n2 then
      Option.map .inr (some (1 : Int))
    else
      (idx p1x0 n2).bind fun v4 =>
      if (cmp_Compare_int v3 v4) ≠ (0 : Int) then
        Option.map .inr (some (cmp_Compare_int v3 v4))
      else
        some (.inl (w64 (n2 + (1 : Int))))
  else
    Option.map .inr (slices_Compare_int_int_k1 p0x0 p1x0)

noncomputable def slices_Compare_int_int_l1 (p0x0 : List Int) (p1x0 : List Int) (n2 : Int) : Option Int :=
  iter (fun x : Int => slices_Compare_int_int_b1 p0x0 p1x0 x) n2

noncomputable def slices_Compare_int_int (p0x0 : List Int) (p1x0 : List Int) : Option Int :=
  slices_Compare_int_int_l1 p0x0 p1x0 (0 : Int)

noncomputable def Q_VersionOrder (p0x0 : Version) (p1x0 : Version) : Option Int :=
  (slices_Compare_int_int [p0x0.Major, p0x0.Minor, p0x0.Patch] [p1x0.Major, p1x0.Minor, p1x0.Patch]).bind fun v3 =>
  some v3

noncomputable def Stream_RightImages_j1 (n21 : Int) (l22 : List Int) (n23 : Int) (l25 : List Image) : Option (((List Int) × Int × (List Image) × Int) ⊕ (((List Int) × Int × (List Image) × Int) ⊕ ((List Image) × Fleetmake_Stream))) :=
  some (.inl (l22, n23, l25, w64 (n21 + (1 : Int))))

noncomputable def Stream_RightImages_j5 (n10 : Int) (l20 : List Image) (n21 : Int) (v26 : Int) (v29 : List Str) (v30 : Int × Fleetmake_Stream) (l35 : List Int) (n36 : Int) (l53 : List Range) : Option (((List Int) × Int × (List Image) × Int) ⊕ (((List Int) × Int × (List Image) × Int) ⊕ ((List Image) × Fleetmake_Stream))) :=
  (app l20 [(⟨(⟨n10, v26, (0 : Int)⟩ : Version), v29, l53, v30.1⟩ : Image)]).bind fun l56 =>
  Stream_RightImages_j1 n21 l35 n36 l56

noncomputable def Stream_RightImages_j4 (n10 : Int) (l20 : List Image) (n21 : Int) (v26 : Int) (v29 : List Str) (v30 : Int × Fleetmake_Stream) (l35 : List Int) (n36 : Int) (l40 : List Range) (n41 : Int) (n42 : Int) (n43 : Int) (n44 : Int) (n45 : Int) (c49 : Bool) : Option (((List Int) × Int × (List Image) × Int) ⊕ (((List Int) × Int × (List Image) × Int) ⊕ ((List Image) × Fleetmake_Stream))) :=
  if c49 = true then
    (app l40 [(⟨(⟨n41, n42, n43⟩ : Version), (⟨n44, n45, (9999 : Int)⟩ : Version)⟩ : Range)]).bind fun l54 =>
    Stream_RightImages_j5 n10 l20 n21 v26 v29 v30 l35 n36 l54
  else
    Stream_RightImages_j5 n10 l20 n21 v26 v29 v30 l35 n36 l40

noncomputable def Stream_RightImages_j3 (n10 : Int) (l20 : List Image) (n21 : Int) (v26 : Int) (v29 : List Str) (v30 : Int × Fleetmake_Stream) (l35 : List Int) (n36 : Int) (l40 : List Range) (n41 : Int) (n42 : Int) (n43 : Int) (n44 : Int) (n45 : Int) : Option (((List Int) × Int × (List Image) × Int) ⊕ (((List Int) × Int × (List Image) × Int) ⊕ ((List Image) × Fleetmake_Stream))) :=
  if (l40.length : Int) = (0 : Int) then
    Stream_RightImages_j4 n10 l20 n21 v26 v29 v30 l35 n36 l40 n41 n42 n43 n44 n45 true
  else
    (idx l40 (0 : Int)).bind fun v50 =>
    (Q_VersionOrder v50.High (⟨n41, n42, n43⟩ : Version)).bind fun v51 =>
    Stream_RightImages_j4 n10 l20 n21 v26 v29 v30 l35 n36 l40 n41 n42 n43 n44 n45 (decide (v51 < (0 : Int)))

noncomputable def Stream_RightImages_j2 (n10 : Int) (l20 : List Image) (n21 : Int) (v26 : Int) (v29 : List Str) (v30 : Int × Fleetmake_Stream) (v32 : Int × Fleetmake_Stream) (v33 : Int × Fleetmake_Stream) (l35 : List Int) (n36 : Int) (c37 : Bool) : Option (((List Int) × Int × (List Image) × Int) ⊕ (((List Int) × Int × (List Image) × Int) ⊕ ((List Image) × Fleetmake_Stream))) :=
  if c37 = true then
    (app ([] : List Range) [(⟨(whole v32.1), (whole v32.1)⟩ : Range)]).bind fun l46 =>
    Stream_RightImages_j3 n10 l20 n21 v26 v29 v30 l35 n36 l46 ((whole n10).Major) ((whole n10).Minor) ((whole n10).Patch) n10 (4 : Int)
  else
    Stream_RightImages_j3 n10 l20 n21 v26 v29 v30 l35 n36 [] ((whole v32.1).Major) ((whole v32.1).Minor) ((whole v32.1).Patch) (w64 (n10 - (1 : Int))) v33.1

noncomputable def Stream_RightImages_b2 (n10 : Int) (l17 : List Int) (n18 : Int) (l20 : List Image) (n21 : Int) : Option (((List Int) × Int × (List Image) × Int) ⊕ (((List Int) × Int × (List Image) × Int) ⊕ ((List Image) × Fleetmake_Stream))) :=
  if n21 < ([(0 : Int), (5 : Int)].length : Int) then
    (idx [(0 : Int), (5 : Int)] n21).bind fun v26 =>
    (Stream_Flip (⟨l17, n18⟩ : Fleetmake_Stream) (2 : Int)).bind fun v27 =>
    if v27.1 = true then
      Stream_RightImages_j1 n21 v27.2.L v27.2.at_ l20
    else
      (Stream_Next v27.2 (4 : Int)).bind fun v28 =>
      (idx [[([109] : Str)], [([109] : Str)], [([109] : Str), ([110] : Str)], [([110] : Str)]] v28.1).bind fun v29 =>
      (Stream_Pick v28.2 [(1 : Int), (5 : Int), (5 : Int), (10 : Int)]).bind fun v30 =>
      (Stream_Range v30.2 (1 : Int) (w64 (n10 - (1 : Int)))).bind fun v32 =>
      (Stream_Pick v32.2 [(0 : Int), (5 : Int), (9999 : Int)]).bind fun v33 =>
      (Stream_Flip v33.2 (4 : Int)).bind fun v38 =>
      Stream_RightImages_j2 n10 l20 n21 v26 v29 v30 v32 v33 v38.2.L v38.2.at_ (v38.1 && (decide (v26 = (5 : Int))))
  else
    Option.map .inr (some (.inl (l17, n18, l20, w64 (n10 + (1 : Int)))))

noncomputable def Stream_RightImages_l2 (n10 : Int) (l17 : List Int) (n18 : Int) (l20 : List Image) (n21 : Int) : Option (((List Int) × Int × (List Image) × Int) ⊕ ((List Image) × Fleetmake_Stream)) :=
  iter (fun x : (List Int) × Int × (List Image) × Int => Stream_RightImages_b2 n10 x.1 x.2.1 x.2.2.1 x.2.2.2) (l17, n18, l20, n21)

noncomputable def Stream_RightImages_b1 (l6 : List Int) (n7 : Int) (l9 : List Image) (n10 : Int) : Option (((List Int) × Int × (List Image) × Int) ⊕ ((List Image) × Fleetmake_Stream)) :=
  if n10 ≤ (5 : Int) then
    Stream_RightImages_l2 n10 l6 n7 l9 (0 : Int)
  else
    Option.map .inr (some (l9, (⟨l6, n7⟩ : Fleetmake_Stream)))

noncomputable def Stream_RightImages_l1 (l6 : List Int) (n7 : Int) (l9 : List Image) (n10 : Int) : Option ((List Image) × Fleetmake_Stream) :=
  iter (fun x : (List Int) × Int × (List Image) × Int => Stream_RightImages_b1 x.1 x.2.1 x.2.2.1 x.2.2.2) (l6, n7, l9, n10)

noncomputable def Stream_RightImages (p0x0 : Fleetmake_Stream) : Option ((List Image) × Fleetmake_Stream) :=
  Stream_RightImages_l1 p0x0.L p0x0.at_ [] (2 : Int)

noncomputable def Stream_RightVersion (p0x0 : Fleetmake_Stream) : Option (Version × Fleetmake_Stream) :=
  (Stream_Range p0x0 (1 : Int) (4 : Int)).bind fun v2 =>
  (Stream_Pick v2.2 [(0 : Int), (0 : Int), (1 : Int), (5 : Int), (9999 : Int)]).bind fun v3 =>
  (Stream_Pick v3.2 [(0 : Int), (0 : Int), (0 : Int), (3 : Int), (9999 : Int)]).bind fun v4 =>
  some ((⟨v2.1, v3.1, v4.1⟩ : Version), v4.2)

noncomputable def Stream_Odd (p0x0 : Fleetmake_Stream) (p1x0 : Int) (p2x0 : Int) : Option (Int × Fleetmake_Stream) :=
  (Stream_Flip p0x0 (12 : Int)).bind fun v1 =>
  if v1.1 = true then
    (Stream_Pick v1.2 [w64 (p1x0 - (1 : Int)), w64 (p2x0 + (1 : Int)), p1x0, p2x0, (-1099511627776 : Int), (1099511627776 : Int)]).bind fun v2 =>
    some (v2.1, v2.2)
  else
    (Stream_Range v1.2 p1x0 p2x0).bind fun v3 =>
    some (v3.1, v3.2)

noncomputable def Stream_Version_j1 (v2 : Version × Fleetmake_Stream) (l5 : List Int) (n6 : Int) (n7 : Int) (n8 : Int) : Option (Version × Fleetmake_Stream) :=
  some ((⟨v2.1.Major, n7, n8⟩ : Version), (⟨l5, n6⟩ : Fleetmake_Stream))

noncomputable def Stream_Version (p0x0 : Fleetmake_Stream) : Option (Version × Fleetmake_Stream) :=
  (Stream_RightVersion p0x0).bind fun v2 =>
  (Stream_Flip v2.2 (30 : Int)).bind fun v4 =>
  if v4.1 = true then
    (Stream_Odd v4.2 (0 : Int) (9999 : Int)).bind fun v9 =>
    (Stream_Odd v9.2 (0 : Int) (9999 : Int)).bind fun v10 =>
    Stream_Version_j1 v2 v10.2.L v10.2.at_ v10.1 v9.1
  else
    Stream_Version_j1 v2 v4.2.L v4.2.at_ v2.1.Minor v2.1.Patch

/-- A copy of a list. -/
noncomputable def slices_Clone_Range_Range (p0x0 : List Range) : Option (List Range) :=
  app [] p0x0

noncomputable def Stream_Images_j2 (l7 : List Int) (n8 : Int) (l9 : List Image) : Option ((List Image) × Fleetmake_Stream) :=
  some (l9, (⟨l7, n8⟩ : Fleetmake_Stream))

noncomputable def Stream_Images_j3 (l13 : List Int) (n14 : Int) (l15 : List Image) : Option ((List Image) × Fleetmake_Stream) :=
  Stream_Images_j2 l13 n14 l15

noncomputable def Stream_Images_j4 (l17 : List Int) (n18 : Int) (l19 : List Image) : Option ((List Image) × Fleetmake_Stream) :=
  Stream_Images_j3 l17 n18 l19

noncomputable def Stream_Images_j5 (l22 : List Int) (n23 : Int) (l24 : List Image) : Option ((List Image) × Fleetmake_Stream) :=
  Stream_Images_j4 l22 n23 l24

noncomputable def Stream_Images_j6 (l31 : List Int) (n32 : Int) (l33 : List Image) : Option ((List Image) × Fleetmake_Stream) :=
  Stream_Images_j5 l31 n32 l33

noncomputable def Stream_Images_j1 (v1 : (List Image) × Fleetmake_Stream) (l3 : List Int) (n4 : Int) (c5 : Bool) : Option ((List Image) × Fleetmake_Stream) :=
  if c5 = true then
    (Stream_Next (⟨l3, n4⟩ : Fleetmake_Stream) (v1.1.length : Int)).bind fun v10 =>
    (idx v1.1 v10.1).bind fun v11 =>
    (Stream_Next v10.2 (5 : Int)).bind fun v12 =>
    if v12.1 = (0 : Int) then
      (Stream_Version v12.2).bind fun v16 =>
      Stream_Images_j3 v16.2.L v16.2.at_ (v1.1.set v10.1.toNat (⟨v16.1, v11.Models, v11.From, v11.Size⟩ : Image))
    else
      if v12.1 = (1 : Int) then
        (Stream_Next v12.2 (4 : Int)).bind fun v20 =>
        (idx [[], [([110] : Str), ([109] : Str)], [([] : Str)], [([109] : Str), ([109] : Str)]] v20.1).bind fun v21 =>
        Stream_Images_j4 v20.2.L v20.2.at_ (v1.1.set v10.1.toNat (⟨v11.Version, v21, v11.From, v11.Size⟩ : Image))
      else
        if v12.1 = (2 : Int) then
          (slices_Clone_Range_Range v11.From).bind fun v25 =>
          (Stream_Version v12.2).bind fun v27 =>
          (Stream_Version v27.2).bind fun v28 =>
          (app v25 [(⟨v27.1, v28.1⟩ : Range)]).bind fun l29 =>
          Stream_Images_j5 v28.2.L v28.2.at_ (v1.1.set v10.1.toNat (⟨v11.Version, v11.Models, l29, v11.Size⟩ : Image))
        else
          if v12.1 = (3 : Int) then
            Stream_Images_j6 v12.2.L v12.2.at_ (v1.1.set v10.1.toNat (⟨v11.Version, v11.Models, [(⟨v11.Version, v11.Version⟩ : Range)], v11.Size⟩ : Image))
          else
            (Stream_Odd v12.2 (1 : Int) (100 : Int)).bind fun v34 =>
            Stream_Images_j6 v34.2.L v34.2.at_ (v1.1.set v10.1.toNat (⟨v11.Version, v11.Models, v11.From, v34.1⟩ : Image))
  else
    Stream_Images_j2 l3 n4 v1.1

noncomputable def Stream_Images (p0x0 : Fleetmake_Stream) : Option ((List Image) × Fleetmake_Stream) :=
  (Stream_RightImages p0x0).bind fun v1 =>
  if (0 : Int) < (v1.1.length : Int) then
    (Stream_Flip v1.2 (10 : Int)).bind fun v6 =>
    Stream_Images_j1 v1 v6.2.L v6.2.at_ v6.1
  else
    Stream_Images_j1 v1 v1.2.L v1.2.at_ false

noncomputable def Stream_Some (p0x0 : Fleetmake_Stream) (p1x0 : List Str) : Option (Str × Fleetmake_Stream) :=
  (Stream_Next p0x0 (p1x0.length : Int)).bind fun v1 =>
  (idx p1x0 v1.1).bind fun v2 =>
  some (v2, v1.2)

noncomputable def base_Out_j1 (c1 : Bool) : Bool :=
  c1

noncomputable def base_Out (p0x0 : Int) (p1x0 : Int) (p2x0 : Int) : Bool :=
  base_Out_j1 ((decide (p0x0 < p1x0)) || (decide (p2x0 < p0x0)))

noncomputable def base_Version_j1 (c2 : Bool) : Bool :=
  c2

noncomputable def base_Version (p0x0 : Version) : Bool :=
  base_Version_j1 ((!(base_Out p0x0.Major (0 : Int) (9999 : Int))) && ((!(base_Out p0x0.Minor (0 : Int) (9999 : Int))) && (!(base_Out p0x0.Patch (0 : Int) (9999 : Int)))))

noncomputable def cmp_Or_int_b1 (p0x0 : List Int) (n2 : Int) : Option (Int ⊕ Int) :=
  if n2 < (p0x0.length : Int) then
    (idx p0x0 n2).bind fun v3 =>
    if v3 ≠ (0 : Int) then
      Option.map .inr (some v3)
    else
      some (.inl (w64 (n2 + (1 : Int))))
  else
    Option.map .inr (some (0 : Int))

noncomputable def cmp_Or_int_l1 (p0x0 : List Int) (n2 : Int) : Option Int :=
  iter (fun x : Int => cmp_Or_int_b1 p0x0 x) n2

noncomputable def cmp_Or_int (p0x0 : List Int) : Option Int :=
  cmp_Or_int_l1 p0x0 (0 : Int)

noncomputable def campaign_Compare (p0x0 : Version) (p1x0 : Version) : Option Int :=
  (cmp_Or_int [(cmp_Compare_int p0x0.Major p1x0.Major), (cmp_Compare_int p0x0.Minor p1x0.Minor), (cmp_Compare_int p0x0.Patch p1x0.Patch)]).bind fun v3 =>
  some v3

noncomputable def base_Key_j2 (n5 : Int) (c7 : Bool) : Option (Int ⊕ Bool) :=
  if c7 = true then
    Option.map .inr (some false)
  else
    some (.inl (w64 (n5 + (1 : Int))))

noncomputable def base_Key_b1 (p0x0 : Str) (n5 : Int) : Option (Int ⊕ Bool) :=
  if n5 < (p0x0.length : Int) then
    (idx p0x0 n5).bind fun c6 =>
    base_Key_j2 n5 (if (97 : Int) ≤ (c6.toNat : Int) then if (c6.toNat : Int) ≤ (122 : Int) then !true else if (48 : Int) ≤ (c6.toNat : Int) then if (c6.toNat : Int) ≤ (57 : Int) then !true else if (c6.toNat : Int) = (45 : Int) then !true else decide (¬ ((c6.toNat : Int) = (95 : Int))) else if (c6.toNat : Int) = (45 : Int) then !true else decide (¬ ((c6.toNat : Int) = (95 : Int))) else if (48 : Int) ≤ (c6.toNat : Int) then if (c6.toNat : Int) ≤ (57 : Int) then !true else if (c6.toNat : Int) = (45 : Int) then !true else decide (¬ ((c6.toNat : Int) = (95 : Int))) else if (c6.toNat : Int) = (45 : Int) then !true else decide (¬ ((c6.toNat : Int) = (95 : Int))))
  else
    Option.map .inr (some true)

noncomputable def base_Key_l1 (p0x0 : Str) (n5 : Int) : Option Bool :=
  iter (fun x : Int => base_Key_b1 p0x0 x) n5

noncomputable def base_Key_j1 (p0x0 : Str) (c1 : Bool) : Option Bool :=
  if c1 = true then
    some false
  else
    base_Key_l1 p0x0 (0 : Int)

noncomputable def base_Key (p0x0 : Str) : Option Bool :=
  if p0x0 = ([] : Str) then
    base_Key_j1 p0x0 true
  else
    if (40 : Int) < (p0x0.length : Int) then
      base_Key_j1 p0x0 true
    else
      (idx p0x0 (0 : Int)).bind fun c2 =>
      if (c2.toNat : Int) < (97 : Int) then
        base_Key_j1 p0x0 true
      else
        (idx p0x0 (0 : Int)).bind fun c3 =>
        base_Key_j1 p0x0 (decide ((122 : Int) < (c3.toNat : Int)))

noncomputable def campaign_covers_1x_j1 (c2 : Bool) : Option Bool :=
  some c2

noncomputable def campaign_covers_1x (p0x0 : Range) (p1x0 : Version) : Option Bool :=
  (campaign_Compare p0x0.Low p1x0).bind fun v3 =>
  if v3 ≤ (0 : Int) then
    (campaign_Compare p1x0 p0x0.High).bind fun v4 =>
    campaign_covers_1x_j1 (decide (v4 ≤ (0 : Int)))
  else
    campaign_covers_1x_j1 false

noncomputable def slices_IndexFunc_Range_Range_b1 (p0x0 : List Range) (fnb : Range → Option Bool) (n2 : Int) : Option (Int ⊕ Int) :=
  if n2 < (p0x0.length : Int) then
    (idx p0x0 n2).bind fun v3 =>
    (fnb v3).bind fun v4 =>
    if v4 = true then
      Option.map .inr (some n2)
    else
      some (.inl (w64 (n2 + (1 : Int))))
  else
    Option.map .inr (some (-1 : Int))

noncomputable def slices_IndexFunc_Range_Range_l1 (p0x0 : List Range) (fnb : Range → Option Bool) (n2 : Int) : Option Int :=
  iter (fun x : Int => slices_IndexFunc_Range_Range_b1 p0x0 fnb x) n2

noncomputable def slices_IndexFunc_Range_Range (p0x0 : List Range) (fnb : Range → Option Bool) : Option Int :=
  slices_IndexFunc_Range_Range_l1 p0x0 fnb (0 : Int)

noncomputable def slices_ContainsFunc_Range_Range (p0x0 : List Range) (fnb : Range → Option Bool) : Option Bool :=
  (slices_IndexFunc_Range_Range p0x0 fnb).bind fun v1 =>
  some (decide ((0 : Int) ≤ v1))

noncomputable def campaign_covers (p0x0 : Image) (p1x0 : Version) : Option Bool :=
  (slices_ContainsFunc_Range_Range p0x0.From (fun y0 => campaign_covers_1x y0 p1x0)).bind fun v3 =>
  some v3

noncomputable def campaign_rangesFault_j2 (n3 : Int) (c8 : Bool) : Option (Int ⊕ Int) :=
  if c8 = true then
    Option.map .inr (some (7 : Int))
  else
    some (.inl (w64 (n3 + (1 : Int))))

noncomputable def campaign_rangesFault_j1 (p0x0 : Image) (n3 : Int) (v4 : Range) (c6 : Bool) : Option (Int ⊕ Int) :=
  if c6 = true then
    Option.map .inr (some (1 : Int))
  else
    if (0 : Int) < n3 then
      (idx p0x0.From (w64 (n3 - (1 : Int)))).bind fun v9 =>
      (campaign_Compare v4.Low v9.High).bind fun v10 =>
      campaign_rangesFault_j2 n3 (decide (v10 ≤ (0 : Int)))
    else
      campaign_rangesFault_j2 n3 false

noncomputable def campaign_rangesFault_k3 (p0x0 : Image) : Option Int :=
  (campaign_covers p0x0 p0x0.Version).bind fun v11 =>
  if v11 = true then
    some (14 : Int)
  else
    some (0 : Int)

noncomputable def campaign_rangesFault_b1 (p0x0 : Image) (n3 : Int) : Option (Int ⊕ Int) :=
  if n3 < (p0x0.From.length : Int) then
    (idx p0x0.From n3).bind fun v4 =>
    if (!(base_Version v4.Low)) = true then
      campaign_rangesFault_j1 p0x0 n3 v4 true
    else
      if (!(base_Version v4.High)) = true then
        campaign_rangesFault_j1 p0x0 n3 v4 true
      else
        (campaign_Compare v4.Low v4.High).bind fun v7 =>
        campaign_rangesFault_j1 p0x0 n3 v4 (decide ((0 : Int) < v7))
  else
    Option.map .inr (campaign_rangesFault_k3 p0x0)

noncomputable def campaign_rangesFault_l1 (p0x0 : Image) (n3 : Int) : Option Int :=
  iter (fun x : Int => campaign_rangesFault_b1 p0x0 x) n3

noncomputable def campaign_rangesFault (p0x0 : Image) : Option Int :=
  if (20 : Int) < (p0x0.From.length : Int) then
    some (2 : Int)
  else
    campaign_rangesFault_l1 p0x0 (0 : Int)

noncomputable def campaign_CheckImages_j2 (n9 : Int) (c12 : Bool) : Option (Int ⊕ (Int ⊕ Int)) :=
  if c12 = true then
    Option.map .inr (Option.map .inr (some (7 : Int)))
  else
    some (.inl (w64 (n9 + (1 : Int))))

noncomputable def campaign_CheckImages_k3 (n2 : Int) (v3 : Image) : Option (Int ⊕ Int) :=
  (campaign_rangesFault v3).bind fun v14 =>
  if v14 ≠ (0 : Int) then
    Option.map .inr (some v14)
  else
    if (base_Out v3.Size (1 : Int) (1000000000 : Int)) = true then
      Option.map .inr (some (1 : Int))
    else
      some (.inl (w64 (n2 + (1 : Int))))

noncomputable def campaign_CheckImages_b2 (n2 : Int) (v3 : Image) (n9 : Int) : Option (Int ⊕ (Int ⊕ Int)) :=
  if n9 < (v3.Models.length : Int) then
    (idx v3.Models n9).bind fun v10 =>
    (base_Key v10).bind fun v11 =>
    if (!v11) = true then
      Option.map .inr (Option.map .inr (some (5 : Int)))
    else
      if (0 : Int) < n9 then
        (idx v3.Models (w64 (n9 - (1 : Int)))).bind fun v13 =>
        campaign_CheckImages_j2 n9 (Op.bytesLess v10 v13 || v10 == v13)
      else
        campaign_CheckImages_j2 n9 false
  else
    Option.map .inr (campaign_CheckImages_k3 n2 v3)

noncomputable def campaign_CheckImages_l2 (n2 : Int) (v3 : Image) (n9 : Int) : Option (Int ⊕ Int) :=
  iter (fun x : Int => campaign_CheckImages_b2 n2 v3 x) n9

noncomputable def campaign_CheckImages_j1 (n2 : Int) (v3 : Image) (c5 : Bool) : Option (Int ⊕ Int) :=
  if c5 = true then
    Option.map .inr (some (7 : Int))
  else
    if (v3.Models.length : Int) = (0 : Int) then
      Option.map .inr (some (3 : Int))
    else
      if (20 : Int) < (v3.Models.length : Int) then
        Option.map .inr (some (2 : Int))
      else
        campaign_CheckImages_l2 n2 v3 (0 : Int)

noncomputable def campaign_CheckImages_b1 (p0x0 : List Image) (n2 : Int) : Option (Int ⊕ Int) :=
  if n2 < (p0x0.length : Int) then
    (idx p0x0 n2).bind fun v3 =>
    if (!(base_Version v3.Version)) = true then
      Option.map .inr (some (1 : Int))
    else
      if (0 : Int) < n2 then
        (idx p0x0 (w64 (n2 - (1 : Int)))).bind fun v6 =>
        (campaign_Compare v3.Version v6.Version).bind fun v7 =>
        campaign_CheckImages_j1 n2 v3 (decide (v7 ≤ (0 : Int)))
      else
        campaign_CheckImages_j1 n2 v3 false
  else
    Option.map .inr (some (0 : Int))

noncomputable def campaign_CheckImages_l1 (p0x0 : List Image) (n2 : Int) : Option Int :=
  iter (fun x : Int => campaign_CheckImages_b1 p0x0 x) n2

noncomputable def campaign_CheckImages (p0x0 : List Image) : Option Int :=
  if (200 : Int) < (p0x0.length : Int) then
    some (2 : Int)
  else
    campaign_CheckImages_l1 p0x0 (0 : Int)

noncomputable def campaign_versionFault (p0x0 : Version) : Int :=
  if (!(base_Version p0x0)) = true then
    (1 : Int)
  else
    (0 : Int)

noncomputable def campaign_modelFault_b1 (p2x0 : List Version) (n4 : Int) : Option (Int ⊕ Int) :=
  if n4 < (p2x0.length : Int) then
    (idx p2x0 n4).bind fun v5 =>
    if (campaign_versionFault v5) ≠ (0 : Int) then
      Option.map .inr (some (campaign_versionFault v5))
    else
      some (.inl (w64 (n4 + (1 : Int))))
  else
    Option.map .inr (some (0 : Int))

noncomputable def campaign_modelFault_l1 (p2x0 : List Version) (n4 : Int) : Option Int :=
  iter (fun x : Int => campaign_modelFault_b1 p2x0 x) n4

noncomputable def campaign_modelFault (p0x0 : List Image) (p1x0 : Str) (p2x0 : List Version) : Option Int :=
  (campaign_CheckImages p0x0).bind fun v1 =>
  if v1 ≠ (0 : Int) then
    some v1
  else
    (base_Key p1x0).bind fun v2 =>
    if (!v2) = true then
      some (5 : Int)
    else
      campaign_modelFault_l1 p2x0 (0 : Int)

noncomputable def slices_Index_string_string_b1 (p0x0 : List Str) (p1x0 : Str) (n2 : Int) : Option (Int ⊕ Int) :=
  if n2 < (p0x0.length : Int) then
    (idx p0x0 n2).bind fun v3 =>
    if p1x0 = v3 then
      Option.map .inr (some n2)
    else
      some (.inl (w64 (n2 + (1 : Int))))
  else
    Option.map .inr (some (-1 : Int))

noncomputable def slices_Index_string_string_l1 (p0x0 : List Str) (p1x0 : Str) (n2 : Int) : Option Int :=
  iter (fun x : Int => slices_Index_string_string_b1 p0x0 p1x0 x) n2

noncomputable def slices_Index_string_string (p0x0 : List Str) (p1x0 : Str) : Option Int :=
  slices_Index_string_string_l1 p0x0 p1x0 (0 : Int)

noncomputable def slices_Contains_string_string (p0x0 : List Str) (p1x0 : Str) : Option Bool :=
  (slices_Index_string_string p0x0 p1x0).bind fun v1 =>
  some (decide ((0 : Int) ≤ v1))

noncomputable def campaign_taken_j2 (n7 : Int) (l15 : List Image) : Option (((List Image) × Int) ⊕ (List Image)) :=
  some (.inl (l15, w64 (n7 + (1 : Int))))

noncomputable def campaign_taken_j1 (l6 : List Image) (n7 : Int) (v9 : Image) (c11 : Bool) : Option (((List Image) × Int) ⊕ (List Image)) :=
  if c11 = true then
    (app l6 [v9]).bind fun l16 =>
    campaign_taken_j2 n7 l16
  else
    campaign_taken_j2 n7 l6

noncomputable def campaign_taken_b1 (p0x0 : List Image) (p1x0 : Str) (p2x0 : Version) (l6 : List Image) (n7 : Int) : Option (((List Image) × Int) ⊕ (List Image)) :=
  if n7 < (p0x0.length : Int) then
    (idx p0x0 n7).bind fun v9 =>
    (slices_Contains_string_string v9.Models p1x0).bind fun v12 =>
    if v12 = true then
      (campaign_covers v9 p2x0).bind fun v13 =>
      campaign_taken_j1 l6 n7 v9 v13
    else
      campaign_taken_j1 l6 n7 v9 false
  else
    Option.map .inr (some l6)

noncomputable def campaign_taken_l1 (p0x0 : List Image) (p1x0 : Str) (p2x0 : Version) (l6 : List Image) (n7 : Int) : Option (List Image) :=
  iter (fun x : (List Image) × Int => campaign_taken_b1 p0x0 p1x0 p2x0 x.1 x.2) (l6, n7)

noncomputable def campaign_taken (p0x0 : List Image) (p1x0 : Str) (p2x0 : Version) : Option (List Image) :=
  campaign_taken_l1 p0x0 p1x0 p2x0 [] (0 : Int)

noncomputable def campaign_Next_b1 (v4 : (List Image)) (l10 : List Version) (n11 : Int) : Option (((List Version) × Int) ⊕ ((List Version) × Int)) :=
  if n11 < (v4.length : Int) then
    (idx v4 n11).bind fun v13 =>
    (app l10 [v13.Version]).bind fun l15 =>
    some (.inl (l15, w64 (n11 + (1 : Int))))
  else
    Option.map .inr (some (l10, (0 : Int)))

noncomputable def campaign_Next_l1 (v4 : (List Image)) (l10 : List Version) (n11 : Int) : Option ((List Version) × Int) :=
  iter (fun x : (List Version) × Int => campaign_Next_b1 v4 x.1 x.2) (l10, n11)

noncomputable def campaign_Next (p0x0 : List Image) (p1x0 : Str) (p2x0 : Version) : Option ((List Version) × Int) :=
  (campaign_modelFault p0x0 p1x0 [p2x0]).bind fun v2 =>
  if v2 ≠ (0 : Int) then
    some ([], v2)
  else
    (campaign_taken p0x0 p1x0 p2x0).bind fun v4 =>
    campaign_Next_l1 v4 [] (0 : Int)

noncomputable def campaign_byCost (p0x0 : Campaign_cost) (p1x0 : Campaign_cost) : Option Int :=
  (cmp_Or_int [(cmp_Compare_int p0x0.steps_ p1x0.steps_), (cmp_Compare_int p0x0.size_ p1x0.size_)]).bind fun v3 =>
  some v3

noncomputable def campaign_costs_j1 (n7 : Int) (l13 : List Image) : Option (((List Image) × Int) ⊕ (List (Version × Campaign_cost))) :=
  some (.inl (l13, w64 (n7 + (1 : Int))))

noncomputable def campaign_costs_j3 (n52 : Int) (c59 : Bool) (n60 : Int) (n61 : Int) (c62 : Bool) : Option ((Bool × Int × Int × Bool × Int) ⊕ (((List (Version × Campaign_cost)) × Bool × Int) ⊕ (((List (Version × Campaign_cost)) × Bool) ⊕ (List (Version × Campaign_cost))))) :=
  some (.inl (c59, n60, n61, c62, w64 (n52 + (1 : Int))))

noncomputable def campaign_costs_j2 (c48 : Bool) (n49 : Int) (n50 : Int) (c51 : Bool) (n52 : Int) (v53 : Image) (v55 : Campaign_cost × Bool) (c57 : Bool) : Option ((Bool × Int × Int × Bool × Int) ⊕ (((List (Version × Campaign_cost)) × Bool × Int) ⊕ (((List (Version × Campaign_cost)) × Bool) ⊕ (List (Version × Campaign_cost))))) :=
  if c57 = true then
    campaign_costs_j3 n52 true (w64 (v55.1.steps_ + (1 : Int))) (w64 (v55.1.size_ + v53.Size)) true
  else
    campaign_costs_j3 n52 c48 n49 n50 c51

noncomputable def campaign_costs_j4 (n37 : Int) (c48 : Bool) (l63 : List (Version × Campaign_cost)) : Option (((List (Version × Campaign_cost)) × Bool × Int) ⊕ (((List (Version × Campaign_cost)) × Bool) ⊕ (List (Version × Campaign_cost)))) :=
  some (.inl (l63, c48, w64 (n37 + (1 : Int))))

noncomputable def campaign_costs_k5 (l35 : List (Version × Campaign_cost)) (n37 : Int) (v38 : Image) (c48 : Bool) (n49 : Int) (n50 : Int) (c51 : Bool) : Option (((List (Version × Campaign_cost)) × Bool × Int) ⊕ (((List (Version × Campaign_cost)) × Bool) ⊕ (List (Version × Campaign_cost)))) :=
  if c51 = true then
    campaign_costs_j4 n37 c48 (mset l35 v38.Version (⟨n49, n50⟩ : Campaign_cost))
  else
    campaign_costs_j4 n37 c48 l35

noncomputable def campaign_costs_b5 (l35 : List (Version × Campaign_cost)) (n37 : Int) (v38 : Image) (v42 : List Image) (c48 : Bool) (n49 : Int) (n50 : Int) (c51 : Bool) (n52 : Int) : Option ((Bool × Int × Int × Bool × Int) ⊕ (((List (Version × Campaign_cost)) × Bool × Int) ⊕ (((List (Version × Campaign_cost)) × Bool) ⊕ (List (Version × Campaign_cost))))) :=
  if n52 < (v42.length : Int) then
    (idx v42 n52).bind fun v53 =>
    (mget2 l35 v53.Version (⟨(0 : Int), (0 : Int)⟩ : Campaign_cost)).bind fun v55 =>
    if v55.2 = true then
      if (!c51) = true then
        campaign_costs_j2 c48 n49 n50 c51 n52 v53 v55 true
      else
        (campaign_byCost (⟨w64 (v55.1.steps_ + (1 : Int)), w64 (v55.1.size_ + v53.Size)⟩ : Campaign_cost) (⟨n49, n50⟩ : Campaign_cost)).bind fun v58 =>
        campaign_costs_j2 c48 n49 n50 c51 n52 v53 v55 (decide (v58 < (0 : Int)))
    else
      campaign_costs_j2 c48 n49 n50 c51 n52 v53 v55 false
  else
    Option.map .inr (campaign_costs_k5 l35 n37 v38 c48 n49 n50 c51)

noncomputable def campaign_costs_l5 (l35 : List (Version × Campaign_cost)) (n37 : Int) (v38 : Image) (v42 : List Image) (c48 : Bool) (n49 : Int) (n50 : Int) (c51 : Bool) (n52 : Int) : Option (((List (Version × Campaign_cost)) × Bool × Int) ⊕ (((List (Version × Campaign_cost)) × Bool) ⊕ (List (Version × Campaign_cost)))) :=
  iter (fun x : Bool × Int × Int × Bool × Int => campaign_costs_b5 l35 n37 v38 v42 x.1 x.2.1 x.2.2.1 x.2.2.2.1 x.2.2.2.2) (c48, n49, n50, c51, n52)

noncomputable def campaign_costs_b4 (l6 : List Image) (l20 : List (List Image)) (l35 : List (Version × Campaign_cost)) (c36 : Bool) (n37 : Int) : Option (((List (Version × Campaign_cost)) × Bool × Int) ⊕ (((List (Version × Campaign_cost)) × Bool) ⊕ (List (Version × Campaign_cost)))) :=
  if n37 < (l6.length : Int) then
    (idx l6 n37).bind fun v38 =>
    (mget2 l35 v38.Version (⟨(0 : Int), (0 : Int)⟩ : Campaign_cost)).bind fun v40 =>
    (idx l20 n37).bind fun v42 =>
    campaign_costs_l5 l35 n37 v38 v42 c36 v40.1.steps_ v40.1.size_ v40.2 (0 : Int)
  else
    Option.map .inr (some (.inl (l35, c36)))

noncomputable def campaign_costs_l4 (l6 : List Image) (l20 : List (List Image)) (l35 : List (Version × Campaign_cost)) (c36 : Bool) (n37 : Int) : Option (((List (Version × Campaign_cost)) × Bool) ⊕ (List (Version × Campaign_cost))) :=
  iter (fun x : (List (Version × Campaign_cost)) × Bool × Int => campaign_costs_b4 l6 l20 x.1 x.2.1 x.2.2) (l35, c36, n37)

noncomputable def campaign_costs_b3 (l6 : List Image) (l20 : List (List Image)) (l30 : List (Version × Campaign_cost)) (c31 : Bool) : Option (((List (Version × Campaign_cost)) × Bool) ⊕ (List (Version × Campaign_cost))) :=
  if c31 = true then
    campaign_costs_l4 l6 l20 l30 false (0 : Int)
  else
    Option.map .inr (some l30)

noncomputable def campaign_costs_l3 (l6 : List Image) (l20 : List (List Image)) (l30 : List (Version × Campaign_cost)) (c31 : Bool) : Option (List (Version × Campaign_cost)) :=
  iter (fun x : (List (Version × Campaign_cost)) × Bool => campaign_costs_b3 l6 l20 x.1 x.2) (l30, c31)

noncomputable def campaign_costs_b2 (p1x0 : Str) (p2x0 : Version) (l6 : List Image) (l20 : List (List Image)) (n21 : Int) : Option (((List (List Image)) × Int) ⊕ (List (Version × Campaign_cost))) :=
  if n21 < (l6.length : Int) then
    (idx l6 n21).bind fun v22 =>
    (campaign_taken l6 p1x0 v22.Version).bind fun v24 =>
    (idx l20 n21).bind fun v26 =>
    some (.inl (l20.set n21.toNat v24, w64 (n21 + (1 : Int))))
  else
    Option.map .inr (campaign_costs_l3 l6 l20 (mset ([] : List (Version × Campaign_cost)) p2x0 (⟨(0 : Int), (0 : Int)⟩ : Campaign_cost)) true)

noncomputable def campaign_costs_l2 (p1x0 : Str) (p2x0 : Version) (l6 : List Image) (l20 : List (List Image)) (n21 : Int) : Option (List (Version × Campaign_cost)) :=
  iter (fun x : (List (List Image)) × Int => campaign_costs_b2 p1x0 p2x0 l6 x.1 x.2) (l20, n21)

noncomputable def campaign_costs_k6 (p1x0 : Str) (p2x0 : Version) (l6 : List Image) : Option (List (Version × Campaign_cost)) :=
  (mkS ([] : List Image) (l6.length : Int) (l6.length : Int)).bind fun l16 =>
  campaign_costs_l2 p1x0 p2x0 l6 l16 (0 : Int)

noncomputable def campaign_costs_b1 (p0x0 : List Image) (p1x0 : Str) (p2x0 : Version) (l6 : List Image) (n7 : Int) : Option (((List Image) × Int) ⊕ (List (Version × Campaign_cost))) :=
  if n7 < (p0x0.length : Int) then
    (idx p0x0 n7).bind fun v9 =>
    (slices_Contains_string_string v9.Models p1x0).bind fun v11 =>
    if v11 = true then
      (app l6 [v9]).bind fun l14 =>
      campaign_costs_j1 n7 l14
    else
      campaign_costs_j1 n7 l6
  else
    Option.map .inr (campaign_costs_k6 p1x0 p2x0 l6)

noncomputable def campaign_costs_l1 (p0x0 : List Image) (p1x0 : Str) (p2x0 : Version) (l6 : List Image) (n7 : Int) : Option (List (Version × Campaign_cost)) :=
  iter (fun x : (List Image) × Int => campaign_costs_b1 p0x0 p1x0 p2x0 x.1 x.2) (l6, n7)

noncomputable def campaign_costs (p0x0 : List Image) (p1x0 : Str) (p2x0 : Version) : Option (List (Version × Campaign_cost)) :=
  campaign_costs_l1 p0x0 p1x0 p2x0 [] (0 : Int)

noncomputable def campaign_way_j2 (n34 : Int) (n41 : Int) (n42 : Int) (n43 : Int) (n44 : Int) (n45 : Int) (c46 : Bool) : Option ((Int × Int × Int × Int × Int × Bool × Int) ⊕ (((List Version) × Int × Int × Int) ⊕ ((List Version) × Bool))) :=
  some (.inl (n41, n42, n43, n44, n45, c46, w64 (n34 + (1 : Int))))

noncomputable def campaign_way_j1 (n28 : Int) (n29 : Int) (n30 : Int) (n31 : Int) (n32 : Int) (c33 : Bool) (n34 : Int) (v35 : Image) (v37 : Campaign_cost × Bool) (c39 : Bool) : Option ((Int × Int × Int × Int × Int × Bool × Int) ⊕ (((List Version) × Int × Int × Int) ⊕ ((List Version) × Bool))) :=
  if c39 = true then
    campaign_way_j2 n34 v35.Version.Major v35.Version.Minor v35.Version.Patch (w64 (v37.1.steps_ + (1 : Int))) (w64 (v37.1.size_ + v35.Size)) true
  else
    campaign_way_j2 n34 n28 n29 n30 n31 n32 c33

noncomputable def campaign_way_k3 (l11 : List Version) (n28 : Int) (n29 : Int) (n30 : Int) (c33 : Bool) : Option (((List Version) × Int × Int × Int) ⊕ ((List Version) × Bool)) :=
  if (!c33) = true then
    Option.map .inr (some ([], false))
  else
    (app l11 [(⟨n28, n29, n30⟩ : Version)]).bind fun l48 =>
    some (.inl (l48, n28, n29, n30))

noncomputable def campaign_way_b2 (p4x0 : List (Version × Campaign_cost)) (l11 : List Version) (v19 : (List Image)) (n28 : Int) (n29 : Int) (n30 : Int) (n31 : Int) (n32 : Int) (c33 : Bool) (n34 : Int) : Option ((Int × Int × Int × Int × Int × Bool × Int) ⊕ (((List Version) × Int × Int × Int) ⊕ ((List Version) × Bool))) :=
  if n34 < (v19.length : Int) then
    (idx v19 n34).bind fun v35 =>
    (mget2 p4x0 v35.Version (⟨(0 : Int), (0 : Int)⟩ : Campaign_cost)).bind fun v37 =>
    if v37.2 = true then
      if (!c33) = true then
        campaign_way_j1 n28 n29 n30 n31 n32 c33 n34 v35 v37 true
      else
        (campaign_byCost (⟨w64 (v37.1.steps_ + (1 : Int)), w64 (v37.1.size_ + v35.Size)⟩ : Campaign_cost) (⟨n31, n32⟩ : Campaign_cost)).bind fun v40 =>
        campaign_way_j1 n28 n29 n30 n31 n32 c33 n34 v35 v37 (decide (v40 < (0 : Int)))
    else
      campaign_way_j1 n28 n29 n30 n31 n32 c33 n34 v35 v37 false
  else
    Option.map .inr (campaign_way_k3 l11 n28 n29 n30 c33)

noncomputable def campaign_way_l2 (p4x0 : List (Version × Campaign_cost)) (l11 : List Version) (v19 : (List Image)) (n28 : Int) (n29 : Int) (n30 : Int) (n31 : Int) (n32 : Int) (c33 : Bool) (n34 : Int) : Option (((List Version) × Int × Int × Int) ⊕ ((List Version) × Bool)) :=
  iter (fun x : Int × Int × Int × Int × Int × Bool × Int => campaign_way_b2 p4x0 l11 v19 x.1 x.2.1 x.2.2.1 x.2.2.2.1 x.2.2.2.2.1 x.2.2.2.2.2.1 x.2.2.2.2.2.2) (n28, n29, n30, n31, n32, c33, n34)

noncomputable def campaign_way_b1 (p0x0 : List Image) (p1x0 : Str) (p3x0 : Version) (p4x0 : List (Version × Campaign_cost)) (l11 : List Version) (n13 : Int) (n14 : Int) (n15 : Int) : Option (((List Version) × Int × Int × Int) ⊕ ((List Version) × Bool)) :=
  if (⟨n13, n14, n15⟩ : Version) ≠ p3x0 then
    (campaign_taken p0x0 p1x0 (⟨n13, n14, n15⟩ : Version)).bind fun v19 =>
    campaign_way_l2 p4x0 l11 v19 (0 : Int) (0 : Int) (0 : Int) (0 : Int) (0 : Int) false (0 : Int)
  else
    Option.map .inr (some (l11, true))

noncomputable def campaign_way_l1 (p0x0 : List Image) (p1x0 : Str) (p3x0 : Version) (p4x0 : List (Version × Campaign_cost)) (l11 : List Version) (n13 : Int) (n14 : Int) (n15 : Int) : Option ((List Version) × Bool) :=
  iter (fun x : (List Version) × Int × Int × Int => campaign_way_b1 p0x0 p1x0 p3x0 p4x0 x.1 x.2.1 x.2.2.1 x.2.2.2) (l11, n13, n14, n15)

noncomputable def campaign_way (p0x0 : List Image) (p1x0 : Str) (p2x0 : Version) (p3x0 : Version) (p4x0 : List (Version × Campaign_cost)) : Option ((List Version) × Bool) :=
  campaign_way_l1 p0x0 p1x0 p3x0 p4x0 [] p2x0.Major p2x0.Minor p2x0.Patch

noncomputable def campaign_Way (p0x0 : List Image) (p1x0 : Str) (p2x0 : Version) (p3x0 : Version) : Option ((List Version) × Int) :=
  (campaign_modelFault p0x0 p1x0 [p2x0, p3x0]).bind fun v3 =>
  if v3 ≠ (0 : Int) then
    some ([], v3)
  else
    (campaign_costs p0x0 p1x0 p3x0).bind fun v5 =>
    (campaign_way p0x0 p1x0 p2x0 p3x0 v5).bind fun v7 =>
    if (!v7.2) = true then
      some ([], (8 : Int))
    else
      some (v7.1, (0 : Int))

noncomputable def campaign_Reach_1x (p0x0 : Range) (p1x0 : Range) : Option Int :=
  (campaign_Compare p0x0.Low p1x0.Low).bind fun v3 =>
  some v3

/-- Sorted by Go. -/
noncomputable def slices_SortFunc_Range_Range (p0x0 : List Range) (fnb : Range → Range → Option Int) : Option (List Range) :=
  sortO fnb p0x0

noncomputable def campaign_number (p0x0 : Version) : Int :=
  w64 ((w64 ((w64 ((w64 (p0x0.Major * (10000 : Int))) + p0x0.Minor)) * (10000 : Int))) + p0x0.Patch)

noncomputable def campaign_numbered (p0x0 : Int) : Version :=
  (⟨w64 ((w64 (p0x0.tdiv (10000 : Int))).tdiv (10000 : Int)), (w64 (p0x0.tdiv (10000 : Int))).tmod (10000 : Int), p0x0.tmod (10000 : Int)⟩ : Version)

noncomputable def campaign_Reach_j2 (n12 : Int) (l20 : List Range) : Option (((List Range) × Int) ⊕ ((List Range) × Int)) :=
  some (.inl (l20, w64 (n12 + (1 : Int))))

noncomputable def campaign_Reach_j1 (l11 : List Range) (n12 : Int) (v13 : Image) (c17 : Bool) : Option (((List Range) × Int) ⊕ ((List Range) × Int)) :=
  if c17 = true then
    (app l11 v13.From).bind fun l21 =>
    campaign_Reach_j2 n12 l21
  else
    campaign_Reach_j2 n12 l11

noncomputable def campaign_Reach_j4 (n29 : Int) (l36 : List Range) : Option (((List Range) × Int) ⊕ ((List Range) × Int)) :=
  some (.inl (l36, w64 (n29 + (1 : Int))))

noncomputable def campaign_Reach_j3 (l28 : List Range) (n29 : Int) (v31 : Range) (c33 : Bool) : Option (((List Range) × Int) ⊕ ((List Range) × Int)) :=
  if c33 = true then
    (idx l28 (w64 ((l28.length : Int) - (1 : Int)))).bind fun v37 =>
    (idx l28 (w64 ((l28.length : Int) - (1 : Int)))).bind fun v38 =>
    campaign_Reach_j4 n29 (l28.set (w64 ((l28.length : Int) - (1 : Int))).toNat (⟨v38.Low, (campaign_numbered (max (campaign_number v37.High) (campaign_number v31.High)))⟩ : Range))
  else
    (app l28 [v31]).bind fun l39 =>
    campaign_Reach_j4 n29 l39

noncomputable def campaign_Reach_b2 (v23 : (List Range)) (l28 : List Range) (n29 : Int) : Option (((List Range) × Int) ⊕ ((List Range) × Int)) :=
  if n29 < (v23.length : Int) then
    (idx v23 n29).bind fun v31 =>
    if (0 : Int) ≤ (w64 ((l28.length : Int) - (1 : Int))) then
      (idx l28 (w64 ((l28.length : Int) - (1 : Int)))).bind fun v34 =>
      campaign_Reach_j3 l28 n29 v31 (decide ((campaign_number v31.Low) ≤ (w64 ((campaign_number v34.High) + (1 : Int)))))
    else
      campaign_Reach_j3 l28 n29 v31 false
  else
    Option.map .inr (some (l28, (0 : Int)))

noncomputable def campaign_Reach_l2 (v23 : (List Range)) (l28 : List Range) (n29 : Int) : Option ((List Range) × Int) :=
  iter (fun x : (List Range) × Int => campaign_Reach_b2 v23 x.1 x.2) (l28, n29)

noncomputable def campaign_Reach_k5 (l11 : List Range) : Option ((List Range) × Int) :=
  (lenOk l11.length (fun r : (List Range) => r.length) (slices_SortFunc_Range_Range l11 (fun y0 y1 => campaign_Reach_1x y0 y1))).bind fun v23 =>
  campaign_Reach_l2 v23 [] (0 : Int)

noncomputable def campaign_Reach_b1 (p0x0 : List Image) (p1x0 : Str) (v4 : (List (Version × Campaign_cost))) (l11 : List Range) (n12 : Int) : Option (((List Range) × Int) ⊕ ((List Range) × Int)) :=
  if n12 < (p0x0.length : Int) then
    (idx p0x0 n12).bind fun v13 =>
    (mget2 v4 v13.Version (⟨(0 : Int), (0 : Int)⟩ : Campaign_cost)).bind fun v15 =>
    if v15.2 = true then
      (slices_Contains_string_string v13.Models p1x0).bind fun v18 =>
      campaign_Reach_j1 l11 n12 v13 v18
    else
      campaign_Reach_j1 l11 n12 v13 false
  else
    Option.map .inr (campaign_Reach_k5 l11)

noncomputable def campaign_Reach_l1 (p0x0 : List Image) (p1x0 : Str) (v4 : (List (Version × Campaign_cost))) (l11 : List Range) (n12 : Int) : Option ((List Range) × Int) :=
  iter (fun x : (List Range) × Int => campaign_Reach_b1 p0x0 p1x0 v4 x.1 x.2) (l11, n12)

noncomputable def campaign_Reach (p0x0 : List Image) (p1x0 : Str) (p2x0 : Version) : Option ((List Range) × Int) :=
  (campaign_modelFault p0x0 p1x0 [p2x0]).bind fun v2 =>
  if v2 ≠ (0 : Int) then
    some ([], v2)
  else
    (campaign_costs p0x0 p1x0 p2x0).bind fun v4 =>
    campaign_Reach_l1 p0x0 p1x0 v4 [(⟨p2x0, p2x0⟩ : Range)] (0 : Int)

noncomputable def Q_in_j1 (c1 : Bool) : Bool :=
  c1

noncomputable def Q_in (p0x0 : Int) (p1x0 : Int) (p2x0 : Int) : Bool :=
  Q_in_j1 ((decide (p1x0 ≤ p0x0)) && (decide (p0x0 ≤ p2x0)))

noncomputable def Q_versionFault_j1 (c2 : Bool) : Int :=
  if c2 = true then
    (1 : Int)
  else
    (0 : Int)

noncomputable def Q_versionFault (p0x0 : Version) : Int :=
  Q_versionFault_j1 ((!(Q_in p0x0.Major (0 : Int) (9999 : Int))) || ((!(Q_in p0x0.Minor (0 : Int) (9999 : Int))) || (!(Q_in p0x0.Patch (0 : Int) (9999 : Int)))))

noncomputable def Q_only_b1 (p0x0 : Str) (p1x0 : Str) (n2 : Int) : Option (Int ⊕ Bool) :=
  if n2 < (p0x0.length : Int) then
    (idx p0x0 n2).bind fun c3 =>
    if (indexByteI p1x0 (c3.toNat : Int)) < (0 : Int) then
      Option.map .inr (some false)
    else
      some (.inl (w64 (n2 + (1 : Int))))
  else
    Option.map .inr (some true)

noncomputable def Q_only_l1 (p0x0 : Str) (p1x0 : Str) (n2 : Int) : Option Bool :=
  iter (fun x : Int => Q_only_b1 p0x0 p1x0 x) n2

noncomputable def Q_only (p0x0 : Str) (p1x0 : Str) : Option Bool :=
  Q_only_l1 p0x0 p1x0 (0 : Int)

noncomputable def Q_Key_j1 (c1 : Bool) : Option Bool :=
  some c1

noncomputable def Q_Key (p0x0 : Str) : Option Bool :=
  if (Q_in (p0x0.length : Int) (1 : Int) (40 : Int)) = true then
    (slc p0x0 (0 : Int) (1 : Int)).bind fun l2 =>
    (Q_only l2 ([97, 98, 99, 100, 101, 102, 103, 104, 105, 106, 107, 108, 109, 110, 111, 112, 113, 114, 115, 116, 117, 118, 119, 120, 121, 122] : Str)).bind fun v3 =>
    if v3 = true then
      (Q_only p0x0 ([97, 98, 99, 100, 101, 102, 103, 104, 105, 106, 107, 108, 109, 110, 111, 112, 113, 114, 115, 116, 117, 118, 119, 120, 121, 122, 48, 49, 50, 51, 52, 53, 54, 55, 56, 57, 45, 95] : Str)).bind fun v4 =>
      Q_Key_j1 v4
    else
      Q_Key_j1 false
  else
    Q_Key_j1 false

noncomputable def Q_fits_1x_j1 (c2 : Bool) : Option Bool :=
  some c2

noncomputable def Q_fits_1x (p0x0 : Range) (p1x0 : Version) : Option Bool :=
  (Q_VersionOrder p0x0.Low p1x0).bind fun v3 =>
  if v3 ≤ (0 : Int) then
    (Q_VersionOrder p1x0 p0x0.High).bind fun v4 =>
    Q_fits_1x_j1 (decide (v4 ≤ (0 : Int)))
  else
    Q_fits_1x_j1 false

noncomputable def Q_fits (p0x0 : Image) (p1x0 : Version) : Option Bool :=
  (slices_ContainsFunc_Range_Range p0x0.From (fun y0 => Q_fits_1x y0 p1x0)).bind fun v3 =>
  some v3

noncomputable def Q_rangesFault_j1 (n3 : Int) (c11 : Bool) : Option (Int ⊕ Int) :=
  if c11 = true then
    Option.map .inr (some (7 : Int))
  else
    some (.inl (w64 (n3 + (1 : Int))))

noncomputable def Q_rangesFault_k2 (p0x0 : Image) (n3 : Int) (v4 : Range) : Option (Int ⊕ Int) :=
  (Q_VersionOrder v4.Low v4.High).bind fun v10 =>
  if (0 : Int) < v10 then
    Option.map .inr (some (1 : Int))
  else
    if (0 : Int) < n3 then
      (idx p0x0.From (w64 (n3 - (1 : Int)))).bind fun v12 =>
      (Q_VersionOrder v4.Low v12.High).bind fun v13 =>
      Q_rangesFault_j1 n3 (decide (v13 ≤ (0 : Int)))
    else
      Q_rangesFault_j1 n3 false

noncomputable def Q_rangesFault_b2 (p0x0 : Image) (n3 : Int) (v4 : Range) (n7 : Int) : Option (Int ⊕ (Int ⊕ Int)) :=
  if n7 < ([v4.Low, v4.High].length : Int) then
    (idx [v4.Low, v4.High] n7).bind fun v8 =>
    if (Q_versionFault v8) ≠ (0 : Int) then
      Option.map .inr (Option.map .inr (some (Q_versionFault v8)))
    else
      some (.inl (w64 (n7 + (1 : Int))))
  else
    Option.map .inr (Q_rangesFault_k2 p0x0 n3 v4)

noncomputable def Q_rangesFault_l2 (p0x0 : Image) (n3 : Int) (v4 : Range) (n7 : Int) : Option (Int ⊕ Int) :=
  iter (fun x : Int => Q_rangesFault_b2 p0x0 n3 v4 x) n7

noncomputable def Q_rangesFault_k3 (p0x0 : Image) : Option Int :=
  (Q_fits p0x0 p0x0.Version).bind fun v14 =>
  if v14 = true then
    some (14 : Int)
  else
    some (0 : Int)

noncomputable def Q_rangesFault_b1 (p0x0 : Image) (n3 : Int) : Option (Int ⊕ Int) :=
  if n3 < (p0x0.From.length : Int) then
    (idx p0x0.From n3).bind fun v4 =>
    Q_rangesFault_l2 p0x0 n3 v4 (0 : Int)
  else
    Option.map .inr (Q_rangesFault_k3 p0x0)

noncomputable def Q_rangesFault_l1 (p0x0 : Image) (n3 : Int) : Option Int :=
  iter (fun x : Int => Q_rangesFault_b1 p0x0 x) n3

noncomputable def Q_rangesFault (p0x0 : Image) : Option Int :=
  if (20 : Int) < (p0x0.From.length : Int) then
    some (2 : Int)
  else
    Q_rangesFault_l1 p0x0 (0 : Int)

noncomputable def Q_ImagesFault_j2 (n9 : Int) (c12 : Bool) : Option (Int ⊕ (Int ⊕ Int)) :=
  if c12 = true then
    Option.map .inr (Option.map .inr (some (7 : Int)))
  else
    some (.inl (w64 (n9 + (1 : Int))))

noncomputable def Q_ImagesFault_k3 (n2 : Int) (v3 : Image) : Option (Int ⊕ Int) :=
  (Q_rangesFault v3).bind fun v14 =>
  if v14 ≠ (0 : Int) then
    Option.map .inr (some v14)
  else
    if (!(Q_in v3.Size (1 : Int) (1000000000 : Int))) = true then
      Option.map .inr (some (1 : Int))
    else
      some (.inl (w64 (n2 + (1 : Int))))

noncomputable def Q_ImagesFault_b2 (n2 : Int) (v3 : Image) (n9 : Int) : Option (Int ⊕ (Int ⊕ Int)) :=
  if n9 < (v3.Models.length : Int) then
    (idx v3.Models n9).bind fun v10 =>
    (Q_Key v10).bind fun v11 =>
    if (!v11) = true then
      Option.map .inr (Option.map .inr (some (5 : Int)))
    else
      if (0 : Int) < n9 then
        (idx v3.Models (w64 (n9 - (1 : Int)))).bind fun v13 =>
        Q_ImagesFault_j2 n9 (Op.bytesLess v10 v13 || v10 == v13)
      else
        Q_ImagesFault_j2 n9 false
  else
    Option.map .inr (Q_ImagesFault_k3 n2 v3)

noncomputable def Q_ImagesFault_l2 (n2 : Int) (v3 : Image) (n9 : Int) : Option (Int ⊕ Int) :=
  iter (fun x : Int => Q_ImagesFault_b2 n2 v3 x) n9

noncomputable def Q_ImagesFault_j1 (n2 : Int) (v3 : Image) (c5 : Bool) : Option (Int ⊕ Int) :=
  if c5 = true then
    Option.map .inr (some (7 : Int))
  else
    if (v3.Models.length : Int) = (0 : Int) then
      Option.map .inr (some (3 : Int))
    else
      if (20 : Int) < (v3.Models.length : Int) then
        Option.map .inr (some (2 : Int))
      else
        Q_ImagesFault_l2 n2 v3 (0 : Int)

noncomputable def Q_ImagesFault_b1 (p0x0 : List Image) (n2 : Int) : Option (Int ⊕ Int) :=
  if n2 < (p0x0.length : Int) then
    (idx p0x0 n2).bind fun v3 =>
    if (Q_versionFault v3.Version) ≠ (0 : Int) then
      Option.map .inr (some (Q_versionFault v3.Version))
    else
      if (0 : Int) < n2 then
        (idx p0x0 (w64 (n2 - (1 : Int)))).bind fun v6 =>
        (Q_VersionOrder v6.Version v3.Version).bind fun v7 =>
        Q_ImagesFault_j1 n2 v3 (decide ((0 : Int) ≤ v7))
      else
        Q_ImagesFault_j1 n2 v3 false
  else
    Option.map .inr (some (0 : Int))

noncomputable def Q_ImagesFault_l1 (p0x0 : List Image) (n2 : Int) : Option Int :=
  iter (fun x : Int => Q_ImagesFault_b1 p0x0 x) n2

noncomputable def Q_ImagesFault (p0x0 : List Image) : Option Int :=
  if (200 : Int) < (p0x0.length : Int) then
    some (2 : Int)
  else
    Q_ImagesFault_l1 p0x0 (0 : Int)

noncomputable def L_when (p0x0 : Bool) (p1x0 : Int) : Int :=
  if p0x0 = true then
    p1x0
  else
    (0 : Int)

noncomputable def L_errs_b1 (p0x0 : List Int) (n2 : Int) : Option (Int ⊕ Int) :=
  if n2 < (p0x0.length : Int) then
    (idx p0x0 n2).bind fun v3 =>
    if v3 ≠ (0 : Int) then
      Option.map .inr (some v3)
    else
      some (.inl (w64 (n2 + (1 : Int))))
  else
    Option.map .inr (some (0 : Int))

noncomputable def L_errs_l1 (p0x0 : List Int) (n2 : Int) : Option Int :=
  iter (fun x : Int => L_errs_b1 p0x0 x) n2

noncomputable def L_errs (p0x0 : List Int) : Option Int :=
  L_errs_l1 p0x0 (0 : Int)

noncomputable def Q_VersionFault (p0x0 : Version) : Int :=
  (Q_versionFault p0x0)

/-- A copy of a list. -/
noncomputable def slices_Clone_Image_Image (p0x0 : List Image) : Option (List Image) :=
  app [] p0x0

noncomputable def Q_nextImages_1x_j1 (c2 : Bool) : Option Bool :=
  some c2

noncomputable def Q_nextImages_1x (p0x0 : Image) (p1x0 : Str) (p2x0 : Version) : Option Bool :=
  (slices_Contains_string_string p0x0.Models p1x0).bind fun v3 =>
  if (!v3) = true then
    Q_nextImages_1x_j1 true
  else
    (Q_fits p0x0 p2x0).bind fun v4 =>
    Q_nextImages_1x_j1 (!v4)

noncomputable def slices_IndexFunc_Image_Image_b1 (p0x0 : List Image) (fnb : Image → Option Bool) (n2 : Int) : Option (Int ⊕ Int) :=
  if n2 < (p0x0.length : Int) then
    (idx p0x0 n2).bind fun v3 =>
    (fnb v3).bind fun v4 =>
    if v4 = true then
      Option.map .inr (some n2)
    else
      some (.inl (w64 (n2 + (1 : Int))))
  else
    Option.map .inr (some (-1 : Int))

noncomputable def slices_IndexFunc_Image_Image_l1 (p0x0 : List Image) (fnb : Image → Option Bool) (n2 : Int) : Option Int :=
  iter (fun x : Int => slices_IndexFunc_Image_Image_b1 p0x0 fnb x) n2

noncomputable def slices_IndexFunc_Image_Image (p0x0 : List Image) (fnb : Image → Option Bool) : Option Int :=
  slices_IndexFunc_Image_Image_l1 p0x0 fnb (0 : Int)

noncomputable def slices_DeleteFunc_Image_Image_j1 (n7 : Int) (l11 : List Image) (n12 : Int) : Option (((List Image) × Int × Int) ⊕ (List Image)) :=
  some (.inl (l11, n12, w64 (n7 + (1 : Int))))

noncomputable def slices_DeleteFunc_Image_Image_k2 (l5 : List Image) (n6 : Int) : Option (List Image) :=
  (slc l5 n6 (l5.length : Int)).bind fun l14 =>
  (slc (clr l5 n6 l14.length (⟨(⟨(0 : Int), (0 : Int), (0 : Int)⟩ : Version), [], [], (0 : Int)⟩ : Image)) (0 : Int) n6).bind fun l15 =>
  some l15

noncomputable def slices_DeleteFunc_Image_Image_b1 (fnb : Image → Option Bool) (l5 : List Image) (n6 : Int) (n7 : Int) : Option (((List Image) × Int × Int) ⊕ (List Image)) :=
  if n7 < (l5.length : Int) then
    (idx l5 n7).bind fun v8 =>
    (fnb v8).bind fun v10 =>
    if (!v10) = true then
      (idx l5 n6).bind fun v13 =>
      slices_DeleteFunc_Image_Image_j1 n7 (l5.set n6.toNat v8) (w64 (n6 + (1 : Int)))
    else
      slices_DeleteFunc_Image_Image_j1 n7 l5 n6
  else
    Option.map .inr (slices_DeleteFunc_Image_Image_k2 l5 n6)

noncomputable def slices_DeleteFunc_Image_Image_l1 (fnb : Image → Option Bool) (l5 : List Image) (n6 : Int) (n7 : Int) : Option (List Image) :=
  iter (fun x : (List Image) × Int × Int => slices_DeleteFunc_Image_Image_b1 fnb x.1 x.2.1 x.2.2) (l5, n6, n7)

noncomputable def slices_DeleteFunc_Image_Image (p0x0 : List Image) (fnb : Image → Option Bool) : Option (List Image) :=
  (slices_IndexFunc_Image_Image p0x0 fnb).bind fun v1 =>
  if v1 = (-1 : Int) then
    some p0x0
  else
    slices_DeleteFunc_Image_Image_l1 fnb p0x0 v1 (w64 (v1 + (1 : Int)))

noncomputable def Q_nextImages (p0x0 : List Image) (p1x0 : Str) (p2x0 : Version) : Option (List Image) :=
  (slices_Clone_Image_Image p0x0).bind fun v3 =>
  (slices_DeleteFunc_Image_Image v3 (fun y0 => Q_nextImages_1x y0 p1x0 p2x0)).bind fun v5 =>
  some v5

noncomputable def Q_NextOf_b1 (v2 : (List Image)) (l8 : List Version) (n9 : Int) : Option (((List Version) × Int) ⊕ (List Version)) :=
  if n9 < (v2.length : Int) then
    (idx v2 n9).bind fun v11 =>
    (app l8 [v11.Version]).bind fun l13 =>
    some (.inl (l13, w64 (n9 + (1 : Int))))
  else
    Option.map .inr (some l8)

noncomputable def Q_NextOf_l1 (v2 : (List Image)) (l8 : List Version) (n9 : Int) : Option (List Version) :=
  iter (fun x : (List Version) × Int => Q_NextOf_b1 v2 x.1 x.2) (l8, n9)

noncomputable def Q_NextOf (p0x0 : List Image) (p1x0 : Str) (p2x0 : Version) : Option (List Version) :=
  (Q_nextImages p0x0 p1x0 p2x0).bind fun v2 =>
  Q_NextOf_l1 v2 [] (0 : Int)

/-- A copy of a list. -/
noncomputable def slices_Clone_Version_Version (p0x0 : List Version) : Option (List Version) :=
  app [] p0x0

noncomputable def slices_CompareFunc_Version_LVersion_Version_Version_k1 (p0x0 : List Version) (p1x0 : List Version) : Option Int :=
  if (p0x0.length : Int) < (p1x0.length : Int) then
    some (-1 : Int)
  else
    some (0 : Int)

noncomputable def slices_CompareFunc_Version_LVersion_Version_Version_b1 (p0x0 : List Version) (p1x0 : List Version) (fnc : Version → Version → Option Int) (n2 : Int) : Option (Int ⊕ Int) :=
  if n2 < (p0x0.length : Int) then
    (idx p0x0 n2).bind fun v3 =>
    if (p1x0.length : Int) ≤ n2 then
      Option.map .inr (some (1 : Int))
    else
      (idx p1x0 n2).bind fun v5 =>
      (fnc v3 v5).bind fun v7 =>
      if v7 ≠ (0 : Int) then
        Option.map .inr (some v7)
      else
        some (.inl (w64 (n2 + (1 : Int))))
  else
    Option.map .inr (slices_CompareFunc_Version_LVersion_Version_Version_k1 p0x0 p1x0)

noncomputable def slices_CompareFunc_Version_LVersion_Version_Version_l1 (p0x0 : List Version) (p1x0 : List Version) (fnc : Version → Version → Option Int) (n2 : Int) : Option Int :=
  iter (fun x : Int => slices_CompareFunc_Version_LVersion_Version_Version_b1 p0x0 p1x0 fnc x) n2

noncomputable def slices_CompareFunc_Version_LVersion_Version_Version (p0x0 : List Version) (p1x0 : List Version) (fnc : Version → Version → Option Int) : Option Int :=
  slices_CompareFunc_Version_LVersion_Version_Version_l1 p0x0 p1x0 fnc (0 : Int)

noncomputable def Q_WayOf_j2 (n23 : Int) (l36 : List (Version × Fleetref2_trip)) : Option (((List (Version × Fleetref2_trip)) × Int) ⊕ ((List (Version × Fleetref2_trip)) ⊕ (((List (Version × Fleetref2_trip)) × Int) ⊕ ((List Version) × Bool)))) :=
  some (.inl (l36, w64 (n23 + (1 : Int))))

noncomputable def Q_WayOf_j1 (v2m : Version × Fleetref2_trip) (l22 : List (Version × Fleetref2_trip)) (n23 : Int) (v24 : Image) (l28 : List Version) (c34 : Bool) : Option (((List (Version × Fleetref2_trip)) × Int) ⊕ ((List (Version × Fleetref2_trip)) ⊕ (((List (Version × Fleetref2_trip)) × Int) ⊕ ((List Version) × Bool)))) :=
  if c34 = true then
    Q_WayOf_j2 n23 (mset l22 v24.Version (⟨l28, w64 (v2m.2.size_ + v24.Size)⟩ : Fleetref2_trip))
  else
    Q_WayOf_j2 n23 l22

noncomputable def Q_WayOf_b3 (v2m : Version × Fleetref2_trip) (v18 : (List Image)) (l22 : List (Version × Fleetref2_trip)) (n23 : Int) : Option (((List (Version × Fleetref2_trip)) × Int) ⊕ ((List (Version × Fleetref2_trip)) ⊕ (((List (Version × Fleetref2_trip)) × Int) ⊕ ((List Version) × Bool)))) :=
  if n23 < (v18.length : Int) then
    (idx v18 n23).bind fun v24 =>
    (slices_Clone_Version_Version v2m.2.way_).bind fun v26 =>
    (app v26 [v24.Version]).bind fun l28 =>
    (mget2 l22 v24.Version (⟨[], (0 : Int)⟩ : Fleetref2_trip)).bind fun v32 =>
    if (!v32.2) = true then
      Q_WayOf_j1 v2m l22 n23 v24 l28 true
    else
      if (w64 (v2m.2.size_ + v24.Size)) < v32.1.size_ then
        Q_WayOf_j1 v2m l22 n23 v24 l28 true
      else
        if (w64 (v2m.2.size_ + v24.Size)) = v32.1.size_ then
          (slices_CompareFunc_Version_LVersion_Version_Version l28 v32.1.way_ (fun y0 y1 => Q_VersionOrder y0 y1)).bind fun v35 =>
          Q_WayOf_j1 v2m l22 n23 v24 l28 (decide (v35 < (0 : Int)))
        else
          Q_WayOf_j1 v2m l22 n23 v24 l28 false
  else
    Option.map .inr (some (.inl l22))

noncomputable def Q_WayOf_l3 (v2m : Version × Fleetref2_trip) (v18 : (List Image)) (l22 : List (Version × Fleetref2_trip)) (n23 : Int) : Option ((List (Version × Fleetref2_trip)) ⊕ (((List (Version × Fleetref2_trip)) × Int) ⊕ ((List Version) × Bool))) :=
  iter (fun x : (List (Version × Fleetref2_trip)) × Int => Q_WayOf_b3 v2m v18 x.1 x.2) (l22, n23)

noncomputable def Q_WayOf_b2 (p0x0 : List Image) (p1x0 : Str) (v2m : Version × Fleetref2_trip) (l15 : List (Version × Fleetref2_trip)) : Option ((List (Version × Fleetref2_trip)) ⊕ (((List (Version × Fleetref2_trip)) × Int) ⊕ ((List Version) × Bool))) :=
  (Q_nextImages p0x0 p1x0 v2m.1).bind fun v18 =>
  Q_WayOf_l3 v2m v18 l15 (0 : Int)

noncomputable def Q_WayOf_f2 (n9 : Int) (l15 : List (Version × Fleetref2_trip)) : Option (((List (Version × Fleetref2_trip)) × Int) ⊕ ((List Version) × Bool)) :=
  some (.inl (l15, w64 (n9 + (1 : Int))))

noncomputable def Q_WayOf_l2 (p0x0 : List Image) (p1x0 : Str) (l8 : List (Version × Fleetref2_trip)) (n9 : Int) (l15 : List (Version × Fleetref2_trip)) : Option (((List (Version × Fleetref2_trip)) × Int) ⊕ ((List Version) × Bool)) :=
  overP l8 (fun p => loopL (fun e (x : (List (Version × Fleetref2_trip))) => Q_WayOf_b2 p0x0 p1x0 e x) (fun x : (List (Version × Fleetref2_trip)) => Q_WayOf_f2 n9 x) p l15)

noncomputable def Q_WayOf_b1 (p0x0 : List Image) (p1x0 : Str) (p3x0 : Version) (l8 : List (Version × Fleetref2_trip)) (n9 : Int) : Option (((List (Version × Fleetref2_trip)) × Int) ⊕ ((List Version) × Bool)) :=
  if n9 < (w64 ((p0x0.length : Int) + (1 : Int))) then
    (mget2 l8 p3x0 (⟨[], (0 : Int)⟩ : Fleetref2_trip)).bind fun v10 =>
    if v10.2 = true then
      Option.map .inr (some (v10.1.way_, true))
    else
      Q_WayOf_l2 p0x0 p1x0 l8 n9 []
  else
    Option.map .inr (some ([], false))

noncomputable def Q_WayOf_l1 (p0x0 : List Image) (p1x0 : Str) (p3x0 : Version) (l8 : List (Version × Fleetref2_trip)) (n9 : Int) : Option ((List Version) × Bool) :=
  iter (fun x : (List (Version × Fleetref2_trip)) × Int => Q_WayOf_b1 p0x0 p1x0 p3x0 x.1 x.2) (l8, n9)

noncomputable def Q_WayOf (p0x0 : List Image) (p1x0 : Str) (p2x0 : Version) (p3x0 : Version) : Option ((List Version) × Bool) :=
  Q_WayOf_l1 p0x0 p1x0 p3x0 (mset ([] : List (Version × Fleetref2_trip)) p2x0 (⟨[], (0 : Int)⟩ : Fleetref2_trip)) (0 : Int)

noncomputable def slices_Index_Version_Version_b1 (p0x0 : List Version) (p1x0 : Version) (n3 : Int) : Option (Int ⊕ Int) :=
  if n3 < (p0x0.length : Int) then
    (idx p0x0 n3).bind fun v4 =>
    if p1x0 = v4 then
      Option.map .inr (some n3)
    else
      some (.inl (w64 (n3 + (1 : Int))))
  else
    Option.map .inr (some (-1 : Int))

noncomputable def slices_Index_Version_Version_l1 (p0x0 : List Version) (p1x0 : Version) (n3 : Int) : Option Int :=
  iter (fun x : Int => slices_Index_Version_Version_b1 p0x0 p1x0 x) n3

noncomputable def slices_Index_Version_Version (p0x0 : List Version) (p1x0 : Version) : Option Int :=
  slices_Index_Version_Version_l1 p0x0 p1x0 (0 : Int)

noncomputable def slices_Contains_Version_Version (p0x0 : List Version) (p1x0 : Version) : Option Bool :=
  (slices_Index_Version_Version p0x0 p1x0).bind fun v2 =>
  some (decide ((0 : Int) ≤ v2))

noncomputable def Q_ReachOf_1x (p0x0 : Range) (p1x0 : Range) : Option Int :=
  (Q_VersionOrder p0x0.Low p1x0.Low).bind fun v3 =>
  some v3

noncomputable def Q_rank (p0x0 : Version) : Int :=
  w64 ((w64 ((w64 ((w64 (p0x0.Major * (10000 : Int))) + p0x0.Minor)) * (10000 : Int))) + p0x0.Patch)

noncomputable def Q_ranked (p0x0 : Int) : Version :=
  (⟨w64 ((w64 (p0x0.tdiv (10000 : Int))).tdiv (10000 : Int)), (w64 (p0x0.tdiv (10000 : Int))).tmod (10000 : Int), p0x0.tmod (10000 : Int)⟩ : Version)

noncomputable def Q_ReachOf_j1 (n25 : Int) (l27 : List Version) (l29 : List Range) (c30 : Bool) : Option (((List Version) × (List Range) × Bool × Int) ⊕ (((List Version) × (List Range) × Bool) ⊕ (List Range))) :=
  some (.inl (l27, l29, c30, w64 (n25 + (1 : Int))))

noncomputable def Q_ReachOf_j4 (n45 : Int) (l52 : List Version) (c53 : Bool) : Option (((List Version) × Bool × Int) ⊕ (((List Version) × (List Range) × Bool × Int) ⊕ (((List Version) × (List Range) × Bool) ⊕ (List Range)))) :=
  some (.inl (l52, c53, w64 (n45 + (1 : Int))))

noncomputable def Q_ReachOf_j3 (l43 : List Version) (c44 : Bool) (n45 : Int) (v46 : Image) (c48 : Bool) : Option (((List Version) × Bool × Int) ⊕ (((List Version) × (List Range) × Bool × Int) ⊕ (((List Version) × (List Range) × Bool) ⊕ (List Range)))) :=
  if c48 = true then
    (app l43 [v46.Version]).bind fun l54 =>
    Q_ReachOf_j4 n45 l54 true
  else
    Q_ReachOf_j4 n45 l43 c44

noncomputable def Q_ReachOf_b3 (p0x0 : List Image) (n25 : Int) (v31 : Image) (l36 : List Range) (l43 : List Version) (c44 : Bool) (n45 : Int) : Option (((List Version) × Bool × Int) ⊕ (((List Version) × (List Range) × Bool × Int) ⊕ (((List Version) × (List Range) × Bool) ⊕ (List Range)))) :=
  if n45 < (p0x0.length : Int) then
    (idx p0x0 n45).bind fun v46 =>
    (Q_fits v31 v46.Version).bind fun v49 =>
    if v49 = true then
      (slices_Contains_Version_Version l43 v46.Version).bind fun v50 =>
      Q_ReachOf_j3 l43 c44 n45 v46 (!v50)
    else
      Q_ReachOf_j3 l43 c44 n45 v46 false
  else
    Option.map .inr (Q_ReachOf_j1 n25 l43 l36 c44)

noncomputable def Q_ReachOf_l3 (p0x0 : List Image) (n25 : Int) (v31 : Image) (l36 : List Range) (l43 : List Version) (c44 : Bool) (n45 : Int) : Option (((List Version) × (List Range) × Bool × Int) ⊕ (((List Version) × (List Range) × Bool) ⊕ (List Range))) :=
  iter (fun x : (List Version) × Bool × Int => Q_ReachOf_b3 p0x0 n25 v31 l36 x.1 x.2.1 x.2.2) (l43, c44, n45)

noncomputable def Q_ReachOf_j2 (p0x0 : List Image) (l21 : List Version) (l23 : List Range) (c24 : Bool) (n25 : Int) (v31 : Image) (c33 : Bool) : Option (((List Version) × (List Range) × Bool × Int) ⊕ (((List Version) × (List Range) × Bool) ⊕ (List Range))) :=
  if c33 = true then
    Q_ReachOf_j1 n25 l21 l23 c24
  else
    (app l23 v31.From).bind fun l36 =>
    Q_ReachOf_l3 p0x0 n25 v31 l36 l21 c24 (0 : Int)

noncomputable def Q_ReachOf_b2 (p0x0 : List Image) (p1x0 : Str) (l21 : List Version) (l23 : List Range) (c24 : Bool) (n25 : Int) : Option (((List Version) × (List Range) × Bool × Int) ⊕ (((List Version) × (List Range) × Bool) ⊕ (List Range))) :=
  if n25 < (p0x0.length : Int) then
    (idx p0x0 n25).bind fun v31 =>
    (slices_Contains_string_string v31.Models p1x0).bind fun v34 =>
    if (!v34) = true then
      Q_ReachOf_j2 p0x0 l21 l23 c24 n25 v31 true
    else
      (slices_Contains_Version_Version l21 v31.Version).bind fun v35 =>
      Q_ReachOf_j2 p0x0 l21 l23 c24 n25 v31 (!v35)
  else
    Option.map .inr (some (.inl (l21, l23, c24)))

noncomputable def Q_ReachOf_l2 (p0x0 : List Image) (p1x0 : Str) (l21 : List Version) (l23 : List Range) (c24 : Bool) (n25 : Int) : Option (((List Version) × (List Range) × Bool) ⊕ (List Range)) :=
  iter (fun x : (List Version) × (List Range) × Bool × Int => Q_ReachOf_b2 p0x0 p1x0 x.1 x.2.1 x.2.2.1 x.2.2.2) (l21, l23, c24, n25)

noncomputable def Q_ReachOf_j5 (n62 : Int) (l65 : List Range) : Option (((List Range) × Int) ⊕ (List Range)) :=
  some (.inl (l65, w64 (n62 + (1 : Int))))

noncomputable def Q_ReachOf_j6 (l61 : List Range) (n62 : Int) (v66 : Range) (c68 : Bool) : Option (((List Range) × Int) ⊕ (List Range)) :=
  if c68 = true then
    (idx l61 (w64 ((l61.length : Int) - (1 : Int)))).bind fun v70 =>
    (idx l61 (w64 ((l61.length : Int) - (1 : Int)))).bind fun v71 =>
    Q_ReachOf_j5 n62 (l61.set (w64 ((l61.length : Int) - (1 : Int))).toNat (⟨v71.Low, (Q_ranked (max (Q_rank v70.High) (Q_rank v66.High)))⟩ : Range))
  else
    (app l61 [v66]).bind fun l72 =>
    Q_ReachOf_j5 n62 l72

noncomputable def Q_ReachOf_b4 (v56 : (List Range)) (l61 : List Range) (n62 : Int) : Option (((List Range) × Int) ⊕ (List Range)) :=
  if n62 < (v56.length : Int) then
    (idx v56 n62).bind fun v66 =>
    if (0 : Int) ≤ (w64 ((l61.length : Int) - (1 : Int))) then
      (idx l61 (w64 ((l61.length : Int) - (1 : Int)))).bind fun v69 =>
      Q_ReachOf_j6 l61 n62 v66 (decide ((Q_rank v66.Low) ≤ (w64 ((Q_rank v69.High) + (1 : Int)))))
    else
      Q_ReachOf_j6 l61 n62 v66 false
  else
    Option.map .inr (some l61)

noncomputable def Q_ReachOf_l4 (v56 : (List Range)) (l61 : List Range) (n62 : Int) : Option (List Range) :=
  iter (fun x : (List Range) × Int => Q_ReachOf_b4 v56 x.1 x.2) (l61, n62)

noncomputable def Q_ReachOf_k7 (l12 : List Range) : Option (List Range) :=
  (lenOk l12.length (fun r : (List Range) => r.length) (slices_SortFunc_Range_Range l12 (fun y0 y1 => Q_ReachOf_1x y0 y1))).bind fun v56 =>
  Q_ReachOf_l4 v56 [] (0 : Int)

noncomputable def Q_ReachOf_b1 (p0x0 : List Image) (p1x0 : Str) (l10 : List Version) (l12 : List Range) (c13 : Bool) : Option (((List Version) × (List Range) × Bool) ⊕ (List Range)) :=
  if c13 = true then
    Q_ReachOf_l2 p0x0 p1x0 l10 l12 false (0 : Int)
  else
    Option.map .inr (Q_ReachOf_k7 l12)

noncomputable def Q_ReachOf_l1 (p0x0 : List Image) (p1x0 : Str) (l10 : List Version) (l12 : List Range) (c13 : Bool) : Option (List Range) :=
  iter (fun x : (List Version) × (List Range) × Bool => Q_ReachOf_b1 p0x0 p1x0 x.1 x.2.1 x.2.2) (l10, l12, c13)

noncomputable def Q_ReachOf (p0x0 : List Image) (p1x0 : Str) (p2x0 : Version) : Option (List Range) :=
  Q_ReachOf_l1 p0x0 p1x0 [p2x0] [(⟨p2x0, p2x0⟩ : Range)] true

noncomputable def slices_Equal_Version_Version_b1 (p0x0 : List Version) (p1x0 : List Version) (n2 : Int) : Option (Int ⊕ Bool) :=
  if n2 < (p0x0.length : Int) then
    (idx p0x0 n2).bind fun v3 =>
    (idx p1x0 n2).bind fun v4 =>
    if v3 ≠ v4 then
      Option.map .inr (some false)
    else
      some (.inl (w64 (n2 + (1 : Int))))
  else
    Option.map .inr (some true)

noncomputable def slices_Equal_Version_Version_l1 (p0x0 : List Version) (p1x0 : List Version) (n2 : Int) : Option Bool :=
  iter (fun x : Int => slices_Equal_Version_Version_b1 p0x0 p1x0 x) n2

noncomputable def slices_Equal_Version_Version (p0x0 : List Version) (p1x0 : List Version) : Option Bool :=
  if (p0x0.length : Int) ≠ (p1x0.length : Int) then
    some false
  else
    slices_Equal_Version_Version_l1 p0x0 p1x0 (0 : Int)

noncomputable def slices_Equal_Range_Range_b1 (p0x0 : List Range) (p1x0 : List Range) (n2 : Int) : Option (Int ⊕ Bool) :=
  if n2 < (p0x0.length : Int) then
    (idx p0x0 n2).bind fun v3 =>
    (idx p1x0 n2).bind fun v4 =>
    if v3 ≠ v4 then
      Option.map .inr (some false)
    else
      some (.inl (w64 (n2 + (1 : Int))))
  else
    Option.map .inr (some true)

noncomputable def slices_Equal_Range_Range_l1 (p0x0 : List Range) (p1x0 : List Range) (n2 : Int) : Option Bool :=
  iter (fun x : Int => slices_Equal_Range_Range_b1 p0x0 p1x0 x) n2

noncomputable def slices_Equal_Range_Range (p0x0 : List Range) (p1x0 : List Range) : Option Bool :=
  if (p0x0.length : Int) ≠ (p1x0.length : Int) then
    some false
  else
    slices_Equal_Range_Range_l1 p0x0 p1x0 (0 : Int)

noncomputable def base_Number_j2 (n4 : Int) (c5 : Bool) : Option (Int ⊕ (Int × Bool)) :=
  if c5 = true then
    Option.map .inr (some ((0 : Int), false))
  else
    some (.inl (w64 (n4 + (1 : Int))))

noncomputable def base_Number_k3 (p0x0 : Str) : Option (Int × Bool) :=
  (atoiO p0x0).bind fun v8 =>
  some (v8.1, v8.2)

noncomputable def base_Number_b1 (p0x0 : Str) (n4 : Int) : Option (Int ⊕ (Int × Bool)) :=
  if n4 < ((Lib.trimPrefix p0x0 ([45] : Str)).length : Int) then
    (idx (Lib.trimPrefix p0x0 ([45] : Str)) n4).bind fun c6 =>
    if (c6.toNat : Int) < (48 : Int) then
      base_Number_j2 n4 true
    else
      (idx (Lib.trimPrefix p0x0 ([45] : Str)) n4).bind fun c7 =>
      base_Number_j2 n4 (decide ((57 : Int) < (c7.toNat : Int)))
  else
    Option.map .inr (base_Number_k3 p0x0)

noncomputable def base_Number_l1 (p0x0 : Str) (n4 : Int) : Option (Int × Bool) :=
  iter (fun x : Int => base_Number_b1 p0x0 x) n4

noncomputable def base_Number_j1 (p0x0 : Str) (c1 : Bool) : Option (Int × Bool) :=
  if c1 = true then
    some ((0 : Int), false)
  else
    base_Number_l1 p0x0 (0 : Int)

noncomputable def base_Number (p0x0 : Str) (p1x0 : Int) : Option (Int × Bool) :=
  if (Lib.trimPrefix p0x0 ([45] : Str)) = ([] : Str) then
    base_Number_j1 p0x0 true
  else
    if p1x0 < ((Lib.trimPrefix p0x0 ([45] : Str)).length : Int) then
      base_Number_j1 p0x0 true
    else
      (idx (Lib.trimPrefix p0x0 ([45] : Str)) (0 : Int)).bind fun c2 =>
      base_Number_j1 p0x0 ((decide ((c2.toNat : Int) = (48 : Int))) && ((decide ((1 : Int) < ((Lib.trimPrefix p0x0 ([45] : Str)).length : Int))) || (decide (((Lib.trimPrefix p0x0 ([45] : Str)).length : Int) < (p0x0.length : Int)))))

noncomputable def base_Numbers_b1 (p0x0 : List Str) (p1x0 : Int) (l5 : List Int) (n6 : Int) : Option (((List Int) × Int) ⊕ ((List Int) × Bool)) :=
  if n6 < (p0x0.length : Int) then
    (idx p0x0 n6).bind fun v8 =>
    (base_Number v8 p1x0).bind fun v9 =>
    if (!v9.2) = true then
      Option.map .inr (some ([], false))
    else
      (app l5 [v9.1]).bind fun l11 =>
      some (.inl (l11, w64 (n6 + (1 : Int))))
  else
    Option.map .inr (some (l5, true))

noncomputable def base_Numbers_l1 (p0x0 : List Str) (p1x0 : Int) (l5 : List Int) (n6 : Int) : Option ((List Int) × Bool) :=
  iter (fun x : (List Int) × Int => base_Numbers_b1 p0x0 p1x0 x.1 x.2) (l5, n6)

noncomputable def base_Numbers (p0x0 : List Str) (p1x0 : Int) : Option ((List Int) × Bool) :=
  base_Numbers_l1 p0x0 p1x0 [] (0 : Int)

noncomputable def campaign_ParseVersion_j1 (v4 : (List Int) × Bool) (c6 : Bool) : Option (Version × Int) :=
  if c6 = true then
    some ((⟨(0 : Int), (0 : Int), (0 : Int)⟩ : Version), (9 : Int))
  else
    (idx v4.1 (0 : Int)).bind fun v7 =>
    (idx v4.1 (1 : Int)).bind fun v8 =>
    (idx v4.1 (2 : Int)).bind fun v9 =>
    if (!(base_Version (⟨v7, v8, v9⟩ : Version))) = true then
      some ((⟨(0 : Int), (0 : Int), (0 : Int)⟩ : Version), (9 : Int))
    else
      some ((⟨v7, v8, v9⟩ : Version), (0 : Int))

noncomputable def campaign_ParseVersion (p0x0 : Str) : Option (Version × Int) :=
  (splitO p0x0 ([46] : Str)).bind fun v2 =>
  (base_Numbers v2 (4 : Int)).bind fun v4 =>
  campaign_ParseVersion_j1 v4 ((!v4.2) || (decide ((v4.1.length : Int) ≠ (3 : Int))))

noncomputable def L_versioned_j1 (c3 : Bool) : Option Bool :=
  some c3

noncomputable def L_versioned : Option Bool :=
  (campaign_ParseVersion ([49, 46, 50, 46, 51] : Str)).bind fun v1 =>
  L_versioned_j1 ((decide (v1.2 = (0 : Int))) && (decide (v1.1 = (⟨(1 : Int), (2 : Int), (3 : Int)⟩ : Version))))

noncomputable def L_WaysFound_j5 (c44 : Bool) : Option Bool :=
  some c44

noncomputable def L_WaysFound_j4 (v19 : (List Version) × Int) (v21 : (List Version) × Int) (v23 : (List Range) × Int) (v28 : Int) (v30 : Int) (l32 : List Version) (n36 : Int) (l37 : List Version) (l40 : List Range) : Option Bool :=
  if v19.2 = v28 then
    (slices_Equal_Version_Version v19.1 l32).bind fun v45 =>
    if v45 = true then
      if v21.2 = n36 then
        (slices_Equal_Version_Version v21.1 l37).bind fun v46 =>
        if v46 = true then
          if v23.2 = v30 then
            (slices_Equal_Range_Range v23.1 l40).bind fun v47 =>
            if v47 = true then
              (L_versioned).bind fun v48 =>
              L_WaysFound_j5 v48
            else
              L_WaysFound_j5 false
          else
            L_WaysFound_j5 false
        else
          L_WaysFound_j5 false
      else
        L_WaysFound_j5 false
    else
      L_WaysFound_j5 false
  else
    L_WaysFound_j5 false

noncomputable def L_WaysFound_j3 (v2 : (List Image) × Fleetmake_Stream) (v4 : Str × Fleetmake_Stream) (n13 : Int) (n14 : Int) (n15 : Int) (v19 : (List Version) × Int) (v21 : (List Version) × Int) (v23 : (List Range) × Int) (v28 : Int) (v30 : Int) (l32 : List Version) (n36 : Int) (l37 : List Version) : Option Bool :=
  if v30 = (0 : Int) then
    (Q_ReachOf v2.1 v4.1 (⟨n13, n14, n15⟩ : Version)).bind fun v41 =>
    L_WaysFound_j4 v19 v21 v23 v28 v30 l32 n36 l37 v41
  else
    L_WaysFound_j4 v19 v21 v23 v28 v30 l32 n36 l37 []

noncomputable def L_WaysFound_j2 (v2 : (List Image) × Fleetmake_Stream) (v4 : Str × Fleetmake_Stream) (n10 : Int) (n11 : Int) (n12 : Int) (n13 : Int) (n14 : Int) (n15 : Int) (v19 : (List Version) × Int) (v21 : (List Version) × Int) (v23 : (List Range) × Int) (v28 : Int) (v29 : Int) (v30 : Int) (l32 : List Version) : Option Bool :=
  if v29 = (0 : Int) then
    (Q_WayOf v2.1 v4.1 (⟨n10, n11, n12⟩ : Version) (⟨n13, n14, n15⟩ : Version)).bind fun v38 =>
    L_WaysFound_j3 v2 v4 n13 n14 n15 v19 v21 v23 v28 v30 l32 (L_when (!v38.2) (8 : Int)) v38.1
  else
    L_WaysFound_j3 v2 v4 n13 n14 n15 v19 v21 v23 v28 v30 l32 v29 []

noncomputable def L_WaysFound_j1 (v2 : (List Image) × Fleetmake_Stream) (v4 : Str × Fleetmake_Stream) (n10 : Int) (n11 : Int) (n12 : Int) (n13 : Int) (n14 : Int) (n15 : Int) : Option Bool :=
  (campaign_Next v2.1 v4.1 (⟨n10, n11, n12⟩ : Version)).bind fun v19 =>
  (campaign_Way v2.1 v4.1 (⟨n10, n11, n12⟩ : Version) (⟨n13, n14, n15⟩ : Version)).bind fun v21 =>
  (campaign_Reach v2.1 v4.1 (⟨n13, n14, n15⟩ : Version)).bind fun v23 =>
  (Q_ImagesFault v2.1).bind fun v25 =>
  (Q_Key v4.1).bind fun v26 =>
  (L_errs [v25, (L_when (!v26) (5 : Int))]).bind fun v27 =>
  (L_errs [v27, (Q_VersionFault (⟨n10, n11, n12⟩ : Version))]).bind fun v28 =>
  (L_errs [v27, (Q_VersionFault (⟨n10, n11, n12⟩ : Version)), (Q_VersionFault (⟨n13, n14, n15⟩ : Version))]).bind fun v29 =>
  (L_errs [v27, (Q_VersionFault (⟨n13, n14, n15⟩ : Version))]).bind fun v30 =>
  if v28 = (0 : Int) then
    (Q_NextOf v2.1 v4.1 (⟨n10, n11, n12⟩ : Version)).bind fun v33 =>
    L_WaysFound_j2 v2 v4 n10 n11 n12 n13 n14 n15 v19 v21 v23 v28 v29 v30 v33
  else
    L_WaysFound_j2 v2 v4 n10 n11 n12 n13 n14 n15 v19 v21 v23 v28 v29 v30 []

noncomputable def L_WaysFound (p0x0 : List Int) : Option Bool :=
  (Stream_Images (⟨p0x0, (0 : Int)⟩ : Fleetmake_Stream)).bind fun v2 =>
  (Stream_Some v2.2 [([109] : Str), ([109] : Str), ([109] : Str), ([110] : Str), ([120] : Str), ([] : Str)]).bind fun v4 =>
  (Stream_Version v4.2).bind fun v5 =>
  (Stream_Version v5.2).bind fun v6 =>
  (Stream_Flip v6.2 (2 : Int)).bind fun v9 =>
  if v9.1 = true then
    (Stream_Range v9.2 (1 : Int) (3 : Int)).bind fun v16 =>
    (Stream_Range v16.2 (2 : Int) (5 : Int)).bind fun v17 =>
    (Stream_Pick v17.2 [(0 : Int), (5 : Int)]).bind fun v18 =>
    L_WaysFound_j1 v2 v4 v16.1 (0 : Int) (0 : Int) v17.1 v18.1 (0 : Int)
  else
    L_WaysFound_j1 v2 v4 v5.1.Major v5.1.Minor v5.1.Patch v6.1.Major v6.1.Minor v6.1.Patch

end Go.Beacon

