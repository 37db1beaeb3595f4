/- Plain functions that the Go functions compute, written by shal.py. -/
import Derived.Test.YtibjdfdmkahocaaDoorCore
set_option linter.unusedVariables false
namespace Go.Beacon
open Go Go.Eng
structure Fleetmake_Stream where
  L : List Int
  at_ : Int
deriving DecidableEq, Inhabited
def Fleetmake_Stream.av (x : Fleetmake_Stream) : AV := .agg [.list 1 (x.L.map I), I x.at_]

structure Version where
  Major : Int
  Minor : Int
  Patch : Int
deriving DecidableEq, Inhabited
def Version.av (x : Version) : AV := .agg [I x.Major, I x.Minor, I x.Patch]

structure Range where
  Low : Version
  High : Version
deriving DecidableEq, Inhabited
def Range.av (x : Range) : AV := .agg [I x.Low.Major, I x.Low.Minor, I x.Low.Patch, I x.High.Major, I x.High.Minor, I x.High.Patch]

structure Image where
  Version : Version
  Models : List Str
  From : List Range
  Size : Int
deriving DecidableEq, Inhabited
def Image.av (x : Image) : AV := .agg [I x.Version.Major, I x.Version.Minor, I x.Version.Patch, .list 1 (x.Models.map AV.str), .list 6 (x.From.map Range.av), I x.Size]

noncomputable def Below_j1 (n2 : Int) : Option Int :=
  some n2

noncomputable def Below (p0x0 : Int) (p1x0 : Int) : Option Int :=
  if p1x0 < (1 : Int) then
    some (0 : Int)
  else
    (rem p0x0 p1x0).bind fun n1 =>
    if n1 < (0 : Int) then
      Below_j1 (w64 (n1 + p1x0))
    else
      Below_j1 n1

noncomputable def Stream_Next (p0x0 : Fleetmake_Stream) (p1x0 : Int) : Option (Int × Fleetmake_Stream) :=
  if (p0x0.L.length : Int) = (0 : Int) then
    (Below (w64 ((w64 (p0x0.at_ + (1 : Int))) * (7919 : Int))) p1x0).bind fun v1 =>
    some (v1, (⟨p0x0.L, w64 (p0x0.at_ + (1 : Int))⟩ : Fleetmake_Stream))
  else
    (rem (w64 ((w64 (p0x0.at_ + (1 : Int))) - (1 : Int))) (p0x0.L.length : Int)).bind fun n2 =>
    (quo (w64 ((w64 (p0x0.at_ + (1 : Int))) - (1 : Int))) (p0x0.L.length : Int)).bind fun n3 =>
    (idx p0x0.L n2).bind fun v4 =>
    (Below v4 (1073741824 : Int)).bind fun v5 =>
    (Below (w64 (v5 + (w64 (n3 * (w64 ((7919 : Int) + n2)))))) p1x0).bind fun v6 =>
    some (v6, (⟨p0x0.L, w64 (p0x0.at_ + (1 : Int))⟩ : Fleetmake_Stream))

noncomputable def Stream_Range (p0x0 : Fleetmake_Stream) (p1x0 : Int) (p2x0 : Int) : Option (Int × Fleetmake_Stream) :=
  if p2x0 < p1x0 then
    some (p1x0, p0x0)
  else
    (Stream_Next p0x0 (w64 ((w64 (p2x0 - p1x0)) + (1 : Int)))).bind fun v1 =>
    some (w64 (p1x0 + v1.1), v1.2)

noncomputable def Stream_Pick (p0x0 : Fleetmake_Stream) (p1x0 : List Int) : Option (Int × Fleetmake_Stream) :=
  (Stream_Next p0x0 (p1x0.length : Int)).bind fun v1 =>
  (idx p1x0 v1.1).bind fun v2 =>
  some (v2, v1.2)

noncomputable def Stream_RightVersion (p0x0 : Fleetmake_Stream) : Option (Version × Fleetmake_Stream) :=
  (Stream_Range p0x0 (1 : Int) (4 : Int)).bind fun v2 =>
  (Stream_Pick v2.2 [(0 : Int), (0 : Int), (1 : Int), (5 : Int), (9999 : Int)]).bind fun v3 =>
  (Stream_Pick v3.2 [(0 : Int), (0 : Int), (0 : Int), (3 : Int), (9999 : Int)]).bind fun v4 =>
  some ((⟨v2.1, v3.1, v4.1⟩ : Version), v4.2)

noncomputable def Stream_Flip (p0x0 : Fleetmake_Stream) (p1x0 : Int) : Option (Bool × Fleetmake_Stream) :=
  (Stream_Next p0x0 p1x0).bind fun v1 =>
  some (decide (v1.1 = (0 : Int)), v1.2)

noncomputable def Stream_Odd (p0x0 : Fleetmake_Stream) (p1x0 : Int) (p2x0 : Int) : Option (Int × Fleetmake_Stream) :=
  (Stream_Flip p0x0 (12 : Int)).bind fun v1 =>
  if v1.1 = true then
    (Stream_Pick v1.2 [w64 (p1x0 - (1 : Int)), w64 (p2x0 + (1 : Int)), p1x0, p2x0, (-1099511627776 : Int), (1099511627776 : Int)]).bind fun v2 =>
    some (v2.1, v2.2)
  else
    (Stream_Range v1.2 p1x0 p2x0).bind fun v3 =>
    some (v3.1, v3.2)

noncomputable def Stream_Version_j1 (v2 : Version × Fleetmake_Stream) (l5 : List Int) (n6 : Int) (n7 : Int) (n8 : Int) : Option (Version × Fleetmake_Stream) :=
  some ((⟨v2.1.Major, n7, n8⟩ : Version), (⟨l5, n6⟩ : Fleetmake_Stream))

noncomputable def Stream_Version (p0x0 : Fleetmake_Stream) : Option (Version × Fleetmake_Stream) :=
  (Stream_RightVersion p0x0).bind fun v2 =>
  (Stream_Flip v2.2 (30 : Int)).bind fun v4 =>
  if v4.1 = true then
    (Stream_Odd v4.2 (0 : Int) (9999 : Int)).bind fun v9 =>
    (Stream_Odd v9.2 (0 : Int) (9999 : Int)).bind fun v10 =>
    Stream_Version_j1 v2 v10.2.L v10.2.at_ v10.1 v9.1
  else
    Stream_Version_j1 v2 v4.2.L v4.2.at_ v2.1.Minor v2.1.Patch

noncomputable def Q_VersionLine (p0x0 : Version) : Option Str :=
  (itoaO p0x0.Major).bind fun v2 =>
  (catO v2 ([46] : Str)).bind fun q3 =>
  (itoaO p0x0.Minor).bind fun v4 =>
  (catO q3 v4).bind fun q5 =>
  (catO q5 ([46] : Str)).bind fun q6 =>
  (itoaO p0x0.Patch).bind fun v7 =>
  (catO q6 v7).bind fun q8 =>
  some q8

noncomputable def Stream_Some (p0x0 : Fleetmake_Stream) (p1x0 : List Str) : Option (Str × Fleetmake_Stream) :=
  (Stream_Next p0x0 (p1x0.length : Int)).bind fun v1 =>
  (idx p1x0 v1.1).bind fun v2 =>
  some (v2, v1.2)

noncomputable def Stream_Changed_j1 (p0x0 : Fleetmake_Stream) (p1x0 : Str) (p2x0 : Str) (c1 : Bool) : Option (Str × Fleetmake_Stream) :=
  if c1 = true then
    some (p2x0, p0x0)
  else
    (Stream_Next p0x0 (p1x0.length : Int)).bind fun v2 =>
    (Stream_Next v2.2 (p2x0.length : Int)).bind fun v3 =>
    (idx p2x0 v3.1).bind fun c4 =>
    (Stream_Next v3.2 (3 : Int)).bind fun v5 =>
    if v5.1 = (0 : Int) then
      (slc p1x0 (0 : Int) v2.1).bind fun l6 =>
      (catO l6 (strR (IntKind.i32.wrap ((c4.toNat : Int))))).bind fun q7 =>
      (slc p1x0 (w64 (v2.1 + (1 : Int))) (p1x0.length : Int)).bind fun l8 =>
      (catO q7 l8).bind fun q9 =>
      some (q9, v5.2)
    else
      if v5.1 = (1 : Int) then
        (slc p1x0 (0 : Int) v2.1).bind fun l10 =>
        (catO l10 (strR (IntKind.i32.wrap ((c4.toNat : Int))))).bind fun q11 =>
        (slc p1x0 v2.1 (p1x0.length : Int)).bind fun l12 =>
        (catO q11 l12).bind fun q13 =>
        some (q13, v5.2)
      else
        (slc p1x0 (0 : Int) v2.1).bind fun l14 =>
        (slc p1x0 (w64 (v2.1 + (1 : Int))) (p1x0.length : Int)).bind fun l15 =>
        (catO l14 l15).bind fun q16 =>
        some (q16, v5.2)

noncomputable def Stream_Changed (p0x0 : Fleetmake_Stream) (p1x0 : Str) (p2x0 : Str) : Option (Str × Fleetmake_Stream) :=
  Stream_Changed_j1 p0x0 p1x0 p2x0 ((decide (p1x0 = ([] : Str))) || (decide (p2x0 = ([] : Str))))

noncomputable def Stream_VersionText_b1 (v8 : Int × Fleetmake_Stream) (l13 : List Int) (n14 : Int) (q15 : Str) (n16 : Int) : Option (((List Int) × Int × Str × Int) ⊕ (Str × Fleetmake_Stream)) :=
  if n16 < v8.1 then
    (Stream_Changed (⟨l13, n14⟩ : Fleetmake_Stream) q15 ([48, 49, 50, 51, 46] : Str)).bind fun v17 =>
    some (.inl (v17.2.L, v17.2.at_, v17.1, w64 (n16 + (1 : Int))))
  else
    Option.map .inr (some (q15, (⟨l13, n14⟩ : Fleetmake_Stream)))

noncomputable def Stream_VersionText_l1 (v8 : Int × Fleetmake_Stream) (l13 : List Int) (n14 : Int) (q15 : Str) (n16 : Int) : Option (Str × Fleetmake_Stream) :=
  iter (fun x : (List Int) × Int × Str × Int => Stream_VersionText_b1 v8 x.1 x.2.1 x.2.2.1 x.2.2.2) (l13, n14, q15, n16)

noncomputable def Stream_VersionText_j1 (l4 : List Int) (n5 : Int) (q6 : Str) : Option (Str × Fleetmake_Stream) :=
  (Stream_Pick (⟨l4, n5⟩ : Fleetmake_Stream) [(0 : Int), (0 : Int), (0 : Int), (1 : Int)]).bind fun v8 =>
  Stream_VersionText_l1 v8 v8.2.L v8.2.at_ q6 (0 : Int)

noncomputable def Stream_VersionText (p0x0 : Fleetmake_Stream) : Option (Str × Fleetmake_Stream) :=
  (Stream_RightVersion p0x0).bind fun v1 =>
  (Q_VersionLine v1.1).bind fun v2 =>
  (Stream_Flip v1.2 (6 : Int)).bind fun v3 =>
  if v3.1 = true then
    (Stream_Some v3.2 [([49, 46, 50] : Str), ([49, 46, 50, 46, 51, 46, 52] : Str), ([48, 49, 46, 50, 46, 51] : Str), ([49, 46, 50, 46, 49, 48, 48, 48, 48] : Str), ([49, 46, 46, 50] : Str), ([] : Str), ([45, 49, 46, 48, 46, 48] : Str), ([49, 46, 50, 46, 120] : Str)]).bind fun v7 =>
    Stream_VersionText_j1 v7.2.L v7.2.at_ v7.1
  else
    Stream_VersionText_j1 v3.2.L v3.2.at_ v2

noncomputable def whole (p0x0 : Int) : Version :=
  (⟨p0x0, (0 : Int), (0 : Int)⟩ : Version)

noncomputable def cmp_isNaN_int (p0x0 : Int) : Bool :=
  decide (p0x0 ≠ p0x0)

noncomputable def cmp_Compare_int (p0x0 : Int) (p1x0 : Int) : Int :=
  if (cmp_isNaN_int p0x0) = true then
    if (cmp_isNaN_int p1x0) = true then
      (0 : Int)
    else
      (-1 : Int)
  else
    if (cmp_isNaN_int p1x0) = true then
      (1 : Int)
    else
      if p0x0 < p1x0 then
        (-1 : Int)
      else
        if p1x0 < p0x0 then
          (1 : Int)
        else
          (0 : Int)

noncomputable def slices_Compare_int_int_k1 (p0x0 : List Int) (p1x0 : List Int) : Option Int :=
  if (p0x0.length : Int) < (p1x0.length : Int) then
    some (-1 : Int)
  else
    some (0 : Int)

noncomputable def slices_Compare_int_int_b1 (p0x0 : List Int) (p1x0 : List Int) (n2 : Int) : Option (Int ⊕ Int) :=
  if n2 < (p0x0.length : Int) then
    (idx p0x0 n2).bind fun v3 =>
    if (p1x0.length : Int) ≤ n2 then
      Option.map .inr (some (1 : Int))
    else
      (idx p1x0 n2).bind fun v4 =>
      if (cmp_Compare_int v3 v4) ≠ (0 : Int) then
        Option.map .inr (some (cmp_Compare_int v3 v4))
      else
        some (.inl (w64 (n2 + (1 : Int))))
  else
    Option.map .inr (slices_Compare_int_int_k1 p0x0 p1x0)

noncomputable def slices_Compare_int_int_l1 (p0x0 : List Int) (p1x0 : List Int) (n2 : Int) : Option Int :=
  iter (fun x : Int => slices_Compare_int_int_b1 p0x0 p1x0 x) n2

noncomputable def slices_Compare_int_int (p0x0 : List Int) (p1x0 : List Int) : Option Int :=
  slices_Compare_int_int_l1 p0x0 p1x0 (0 : Int)

noncomputable def Q_VersionOrder (p0x0 : Version) (p1x0 : Version) : Option Int :=
  (slices_Compare_int_int [p0x0.Major, p0x0.Minor, p0x0.Patch] [p1x0.Major, p1x0.Minor, p1x0.Patch]).bind fun v3 =>
  some v3

noncomputable def Stream_RightImages_j1 (n21 : Int) (l22 : List Int) (n23 : Int) (l25 : List Image) : Option (((List Int) × Int × (List Image) × Int) ⊕ (((List Int) × Int × (List Image) × Int) ⊕ ((List Image) × Fleetmake_Stream))) :=
  some (.inl (l22, n23, l25, w64 (n21 + (1 : Int))))

noncomputable def Stream_RightImages_j5 (n10 : Int) (l20 : List Image) (n21 : Int) (v26 : Int) (v29 : List Str) (v30 : Int × Fleetmake_Stream) (l35 : List Int) (n36 : Int) (l53 : List Range) : Option (((List Int) × Int × (List Image) × Int) ⊕ (((List Int) × Int × (List Image) × Int) ⊕ ((List Image) × Fleetmake_Stream))) :=
  (app l20 [(⟨(⟨n10, v26, (0 : Int)⟩ : Version), v29, l53, v30.1⟩ : Image)]).bind fun l56 =>
  Stream_RightImages_j1 n21 l35 n36 l56

noncomputable def Stream_RightImages_j4 (n10 : Int) (l20 : List Image) (n21 : Int) (v26 : Int) (v29 : List Str) (v30 : Int × Fleetmake_Stream) (l35 : List Int) (n36 : Int) (l40 : List Range) (n41 : Int) (n42 : Int) (n43 : Int) (n44 : Int) (n45 : Int) (c49 : Bool) : Option (((List Int) × Int × (List Image) × Int) ⊕ (((List Int) × Int × (List Image) × Int) ⊕ ((List Image) × Fleetmake_Stream))) :=
  if c49 = true then
    (app l40 [(⟨(⟨n41, n42, n43⟩ : Version), (⟨n44, n45, (9999 : Int)⟩ : Version)⟩ : Range)]).bind fun l54 =>
    Stream_RightImages_j5 n10 l20 n21 v26 v29 v30 l35 n36 l54
  else
    Stream_RightImages_j5 n10 l20 n21 v26 v29 v30 l35 n36 l40

noncomputable def Stream_RightImages_j3 (n10 : Int) (l20 : List Image) (n21 : Int) (v26 : Int) (v29 : List Str) (v30 : Int × Fleetmake_Stream) (l35 : List Int) (n36 : Int) (l40 : List Range) (n41 : Int) (n42 : Int) (n43 : Int) (n44 : Int) (n45 : Int) : Option (((List Int) × Int × (List Image) × Int) ⊕ (((List Int) × Int × (List Image) × Int) ⊕ ((List Image) × Fleetmake_Stream))) :=
  if (l40.length : Int) = (0 : Int) then
    Stream_RightImages_j4 n10 l20 n21 v26 v29 v30 l35 n36 l40 n41 n42 n43 n44 n45 true
  else
    (idx l40 (0 : Int)).bind fun v50 =>
    (Q_VersionOrder v50.High (⟨n41, n42, n43⟩ : Version)).bind fun v51 =>
    Stream_RightImages_j4 n10 l20 n21 v26 v29 v30 l35 n36 l40 n41 n42 n43 n44 n45 (decide (v51 < (0 : Int)))

noncomputable def Stream_RightImages_j2 (n10 : Int) (l20 : List Image) (n21 : Int) (v26 : Int) (v29 : List Str) (v30 : Int × Fleetmake_Stream) (v32 : Int × Fleetmake_Stream) (v33 : Int × Fleetmake_Stream) (l35 : List Int) (n36 : Int) (c37 : Bool) : Option (((List Int) × Int × (List Image) × Int) ⊕ (((List Int) × Int × (List Image) × Int) ⊕ ((List Image) × Fleetmake_Stream))) :=
  if c37 = true then
    (app ([] : List Range) [(⟨(whole v32.1), (whole v32.1)⟩ : Range)]).bind fun l46 =>
    Stream_RightImages_j3 n10 l20 n21 v26 v29 v30 l35 n36 l46 ((whole n10).Major) ((whole n10).Minor) ((whole n10).Patch) n10 (4 : Int)
  else
    Stream_RightImages_j3 n10 l20 n21 v26 v29 v30 l35 n36 [] ((whole v32.1).Major) ((whole v32.1).Minor) ((whole v32.1).Patch) (w64 (n10 - (1 : Int))) v33.1

noncomputable def Stream_RightImages_b2 (n10 : Int) (l17 : List Int) (n18 : Int) (l20 : List Image) (n21 : Int) : Option (((List Int) × Int × (List Image) × Int) ⊕ (((List Int) × Int × (List Image) × Int) ⊕ ((List Image) × Fleetmake_Stream))) :=
  if n21 < ([(0 : Int), (5 : Int)].length : Int) then
    (idx [(0 : Int), (5 : Int)] n21).bind fun v26 =>
    (Stream_Flip (⟨l17, n18⟩ : Fleetmake_Stream) (2 : Int)).bind fun v27 =>
    if v27.1 = true then
      Stream_RightImages_j1 n21 v27.2.L v27.2.at_ l20
    else
      (Stream_Next v27.2 (4 : Int)).bind fun v28 =>
      (idx [[([109] : Str)], [([109] : Str)], [([109] : Str), ([110] : Str)], [([110] : Str)]] v28.1).bind fun v29 =>
      (Stream_Pick v28.2 [(1 : Int), (5 : Int), (5 : Int), (10 : Int)]).bind fun v30 =>
      (Stream_Range v30.2 (1 : Int) (w64 (n10 - (1 : Int)))).bind fun v32 =>
      (Stream_Pick v32.2 [(0 : Int), (5 : Int), (9999 : Int)]).bind fun v33 =>
      (Stream_Flip v33.2 (4 : Int)).bind fun v38 =>
      Stream_RightImages_j2 n10 l20 n21 v26 v29 v30 v32 v33 v38.2.L v38.2.at_ (v38.1 && (decide (v26 = (5 : Int))))
  else
    Option.map .inr (some (.inl (l17, n18, l20, w64 (n10 + (1 : Int)))))

noncomputable def Stream_RightImages_l2 (n10 : Int) (l17 : List Int) (n18 : Int) (l20 : List Image) (n21 : Int) : Option (((List Int) × Int × (List Image) × Int) ⊕ ((List Image) × Fleetmake_Stream)) :=
  iter (fun x : (List Int) × Int × (List Image) × Int => Stream_RightImages_b2 n10 x.1 x.2.1 x.2.2.1 x.2.2.2) (l17, n18, l20, n21)

noncomputable def Stream_RightImages_b1 (l6 : List Int) (n7 : Int) (l9 : List Image) (n10 : Int) : Option (((List Int) × Int × (List Image) × Int) ⊕ ((List Image) × Fleetmake_Stream)) :=
  if n10 ≤ (5 : Int) then
    Stream_RightImages_l2 n10 l6 n7 l9 (0 : Int)
  else
    Option.map .inr (some (l9, (⟨l6, n7⟩ : Fleetmake_Stream)))

noncomputable def Stream_RightImages_l1 (l6 : List Int) (n7 : Int) (l9 : List Image) (n10 : Int) : Option ((List Image) × Fleetmake_Stream) :=
  iter (fun x : (List Int) × Int × (List Image) × Int => Stream_RightImages_b1 x.1 x.2.1 x.2.2.1 x.2.2.2) (l6, n7, l9, n10)

noncomputable def Stream_RightImages (p0x0 : Fleetmake_Stream) : Option ((List Image) × Fleetmake_Stream) :=
  Stream_RightImages_l1 p0x0.L p0x0.at_ [] (2 : Int)

/-- A copy of a list. -/
noncomputable def slices_Clone_Range_Range (p0x0 : List Range) : Option (List Range) :=
  app [] p0x0

noncomputable def Stream_Images_j2 (l7 : List Int) (n8 : Int) (l9 : List Image) : Option ((List Image) × Fleetmake_Stream) :=
  some (l9, (⟨l7, n8⟩ : Fleetmake_Stream))

noncomputable def Stream_Images_j3 (l13 : List Int) (n14 : Int) (l15 : List Image) : Option ((List Image) × Fleetmake_Stream) :=
  Stream_Images_j2 l13 n14 l15

noncomputable def Stream_Images_j4 (l17 : List Int) (n18 : Int) (l19 : List Image) : Option ((List Image) × Fleetmake_Stream) :=
  Stream_Images_j3 l17 n18 l19

noncomputable def Stream_Images_j5 (l22 : List Int) (n23 : Int) (l24 : List Image) : Option ((List Image) × Fleetmake_Stream) :=
  Stream_Images_j4 l22 n23 l24

noncomputable def Stream_Images_j6 (l31 : List Int) (n32 : Int) (l33 : List Image) : Option ((List Image) × Fleetmake_Stream) :=
  Stream_Images_j5 l31 n32 l33

noncomputable def Stream_Images_j1 (v1 : (List Image) × Fleetmake_Stream) (l3 : List Int) (n4 : Int) (c5 : Bool) : Option ((List Image) × Fleetmake_Stream) :=
  if c5 = true then
    (Stream_Next (⟨l3, n4⟩ : Fleetmake_Stream) (v1.1.length : Int)).bind fun v10 =>
    (idx v1.1 v10.1).bind fun v11 =>
    (Stream_Next v10.2 (5 : Int)).bind fun v12 =>
    if v12.1 = (0 : Int) then
      (Stream_Version v12.2).bind fun v16 =>
      Stream_Images_j3 v16.2.L v16.2.at_ (v1.1.set v10.1.toNat (⟨v16.1, v11.Models, v11.From, v11.Size⟩ : Image))
    else
      if v12.1 = (1 : Int) then
        (Stream_Next v12.2 (4 : Int)).bind fun v20 =>
        (idx [[], [([110] : Str), ([109] : Str)], [([] : Str)], [([109] : Str), ([109] : Str)]] v20.1).bind fun v21 =>
        Stream_Images_j4 v20.2.L v20.2.at_ (v1.1.set v10.1.toNat (⟨v11.Version, v21, v11.From, v11.Size⟩ : Image))
      else
        if v12.1 = (2 : Int) then
          (slices_Clone_Range_Range v11.From).bind fun v25 =>
          (Stream_Version v12.2).bind fun v27 =>
          (Stream_Version v27.2).bind fun v28 =>
          (app v25 [(⟨v27.1, v28.1⟩ : Range)]).bind fun l29 =>
          Stream_Images_j5 v28.2.L v28.2.at_ (v1.1.set v10.1.toNat (⟨v11.Version, v11.Models, l29, v11.Size⟩ : Image))
        else
          if v12.1 = (3 : Int) then
            Stream_Images_j6 v12.2.L v12.2.at_ (v1.1.set v10.1.toNat (⟨v11.Version, v11.Models, [(⟨v11.Version, v11.Version⟩ : Range)], v11.Size⟩ : Image))
          else
            (Stream_Odd v12.2 (1 : Int) (100 : Int)).bind fun v34 =>
            Stream_Images_j6 v34.2.L v34.2.at_ (v1.1.set v10.1.toNat (⟨v11.Version, v11.Models, v11.From, v34.1⟩ : Image))
  else
    Stream_Images_j2 l3 n4 v1.1

noncomputable def Stream_Images (p0x0 : Fleetmake_Stream) : Option ((List Image) × Fleetmake_Stream) :=
  (Stream_RightImages p0x0).bind fun v1 =>
  if (0 : Int) < (v1.1.length : Int) then
    (Stream_Flip v1.2 (10 : Int)).bind fun v6 =>
    Stream_Images_j1 v1 v6.2.L v6.2.at_ v6.1
  else
    Stream_Images_j1 v1 v1.2.L v1.2.at_ false

noncomputable def base_Out_j1 (c1 : Bool) : Bool :=
  c1

noncomputable def base_Out (p0x0 : Int) (p1x0 : Int) (p2x0 : Int) : Bool :=
  base_Out_j1 ((decide (p0x0 < p1x0)) || (decide (p2x0 < p0x0)))

noncomputable def base_Version_j1 (c2 : Bool) : Bool :=
  c2

noncomputable def base_Version (p0x0 : Version) : Bool :=
  base_Version_j1 ((!(base_Out p0x0.Major (0 : Int) (9999 : Int))) && ((!(base_Out p0x0.Minor (0 : Int) (9999 : Int))) && (!(base_Out p0x0.Patch (0 : Int) (9999 : Int)))))

noncomputable def campaign_versionFault (p0x0 : Version) : Int :=
  if (!(base_Version p0x0)) = true then
    (1 : Int)
  else
    (0 : Int)

noncomputable def campaign_VersionText (p0x0 : Version) : Option (Str × Int) :=
  if (campaign_versionFault p0x0) ≠ (0 : Int) then
    some (([] : Str), (campaign_versionFault p0x0))
  else
    (itoaO p0x0.Major).bind fun v2 =>
    (catO v2 ([46] : Str)).bind fun q3 =>
    (itoaO p0x0.Minor).bind fun v4 =>
    (catO q3 v4).bind fun q5 =>
    (catO q5 ([46] : Str)).bind fun q6 =>
    (itoaO p0x0.Patch).bind fun v7 =>
    (catO q6 v7).bind fun q8 =>
    some (q8, (0 : Int))

noncomputable def Q_in_j1 (c1 : Bool) : Bool :=
  c1

noncomputable def Q_in (p0x0 : Int) (p1x0 : Int) (p2x0 : Int) : Bool :=
  Q_in_j1 ((decide (p1x0 ≤ p0x0)) && (decide (p0x0 ≤ p2x0)))

noncomputable def Q_versionFault_j1 (c2 : Bool) : Int :=
  if c2 = true then
    (1 : Int)
  else
    (0 : Int)

noncomputable def Q_versionFault (p0x0 : Version) : Int :=
  Q_versionFault_j1 ((!(Q_in p0x0.Major (0 : Int) (9999 : Int))) || ((!(Q_in p0x0.Minor (0 : Int) (9999 : Int))) || (!(Q_in p0x0.Patch (0 : Int) (9999 : Int)))))

noncomputable def Q_VersionFault (p0x0 : Version) : Int :=
  (Q_versionFault p0x0)

noncomputable def base_Number_j2 (n4 : Int) (c5 : Bool) : Option (Int ⊕ (Int × Bool)) :=
  if c5 = true then
    Option.map .inr (some ((0 : Int), false))
  else
    some (.inl (w64 (n4 + (1 : Int))))

noncomputable def base_Number_k3 (p0x0 : Str) : Option (Int × Bool) :=
  (atoiO p0x0).bind fun v8 =>
  some (v8.1, v8.2)

noncomputable def base_Number_b1 (p0x0 : Str) (n4 : Int) : Option (Int ⊕ (Int × Bool)) :=
  if n4 < ((Lib.trimPrefix p0x0 ([45] : Str)).length : Int) then
    (idx (Lib.trimPrefix p0x0 ([45] : Str)) n4).bind fun c6 =>
    if (c6.toNat : Int) < (48 : Int) then
      base_Number_j2 n4 true
    else
      (idx (Lib.trimPrefix p0x0 ([45] : Str)) n4).bind fun c7 =>
      base_Number_j2 n4 (decide ((57 : Int) < (c7.toNat : Int)))
  else
    Option.map .inr (base_Number_k3 p0x0)

noncomputable def base_Number_l1 (p0x0 : Str) (n4 : Int) : Option (Int × Bool) :=
  iter (fun x : Int => base_Number_b1 p0x0 x) n4

noncomputable def base_Number_j1 (p0x0 : Str) (c1 : Bool) : Option (Int × Bool) :=
  if c1 = true then
    some ((0 : Int), false)
  else
    base_Number_l1 p0x0 (0 : Int)

noncomputable def base_Number (p0x0 : Str) (p1x0 : Int) : Option (Int × Bool) :=
  if (Lib.trimPrefix p0x0 ([45] : Str)) = ([] : Str) then
    base_Number_j1 p0x0 true
  else
    if p1x0 < ((Lib.trimPrefix p0x0 ([45] : Str)).length : Int) then
      base_Number_j1 p0x0 true
    else
      (idx (Lib.trimPrefix p0x0 ([45] : Str)) (0 : Int)).bind fun c2 =>
      base_Number_j1 p0x0 ((decide ((c2.toNat : Int) = (48 : Int))) && ((decide ((1 : Int) < ((Lib.trimPrefix p0x0 ([45] : Str)).length : Int))) || (decide (((Lib.trimPrefix p0x0 ([45] : Str)).length : Int) < (p0x0.length : Int)))))

noncomputable def base_Numbers_b1 (p0x0 : List Str) (p1x0 : Int) (l5 : List Int) (n6 : Int) : Option (((List Int) × Int) ⊕ ((List Int) × Bool)) :=
  if n6 < (p0x0.length : Int) then
    (idx p0x0 n6).bind fun v8 =>
    (base_Number v8 p1x0).bind fun v9 =>
    if (!v9.2) = true then
      Option.map .inr (some ([], false))
    else
      (app l5 [v9.1]).bind fun l11 =>
      some (.inl (l11, w64 (n6 + (1 : Int))))
  else
    Option.map .inr (some (l5, true))

noncomputable def base_Numbers_l1 (p0x0 : List Str) (p1x0 : Int) (l5 : List Int) (n6 : Int) : Option ((List Int) × Bool) :=
  iter (fun x : (List Int) × Int => base_Numbers_b1 p0x0 p1x0 x.1 x.2) (l5, n6)

noncomputable def base_Numbers (p0x0 : List Str) (p1x0 : Int) : Option ((List Int) × Bool) :=
  base_Numbers_l1 p0x0 p1x0 [] (0 : Int)

noncomputable def campaign_ParseVersion_j1 (v4 : (List Int) × Bool) (c6 : Bool) : Option (Version × Int) :=
  if c6 = true then
    some ((⟨(0 : Int), (0 : Int), (0 : Int)⟩ : Version), (9 : Int))
  else
    (idx v4.1 (0 : Int)).bind fun v7 =>
    (idx v4.1 (1 : Int)).bind fun v8 =>
    (idx v4.1 (2 : Int)).bind fun v9 =>
    if (!(base_Version (⟨v7, v8, v9⟩ : Version))) = true then
      some ((⟨(0 : Int), (0 : Int), (0 : Int)⟩ : Version), (9 : Int))
    else
      some ((⟨v7, v8, v9⟩ : Version), (0 : Int))

noncomputable def campaign_ParseVersion (p0x0 : Str) : Option (Version × Int) :=
  (splitO p0x0 ([46] : Str)).bind fun v2 =>
  (base_Numbers v2 (4 : Int)).bind fun v4 =>
  campaign_ParseVersion_j1 v4 ((!v4.2) || (decide ((v4.1.length : Int) ≠ (3 : Int))))

noncomputable def Q_only_b1 (p0x0 : Str) (p1x0 : Str) (n2 : Int) : Option (Int ⊕ Bool) :=
  if n2 < (p0x0.length : Int) then
    (idx p0x0 n2).bind fun c3 =>
    if (indexByteI p1x0 (c3.toNat : Int)) < (0 : Int) then
      Option.map .inr (some false)
    else
      some (.inl (w64 (n2 + (1 : Int))))
  else
    Option.map .inr (some true)

noncomputable def Q_only_l1 (p0x0 : Str) (p1x0 : Str) (n2 : Int) : Option Bool :=
  iter (fun x : Int => Q_only_b1 p0x0 p1x0 x) n2

noncomputable def Q_only (p0x0 : Str) (p1x0 : Str) : Option Bool :=
  Q_only_l1 p0x0 p1x0 (0 : Int)

noncomputable def Q_Number_j2 (v3 : Int × Bool) (c5 : Bool) : Option (Int × Bool) :=
  some (v3.1, c5)

noncomputable def Q_Number_j1 (p0x0 : Str) (c1 : Bool) : Option (Int × Bool) :=
  if c1 = true then
    some ((0 : Int), false)
  else
    (atoiO p0x0).bind fun v3 =>
    if v3.2 = true then
      (itoaO v3.1).bind fun v6 =>
      Q_Number_j2 v3 (decide (v6 = p0x0))
    else
      Q_Number_j2 v3 false

noncomputable def Q_Number (p0x0 : Str) (p1x0 : Int) : Option (Int × Bool) :=
  if (Lib.trimPrefix p0x0 ([45] : Str)) = ([] : Str) then
    Q_Number_j1 p0x0 true
  else
    if p1x0 < ((Lib.trimPrefix p0x0 ([45] : Str)).length : Int) then
      Q_Number_j1 p0x0 true
    else
      (Q_only (Lib.trimPrefix p0x0 ([45] : Str)) ([48, 49, 50, 51, 52, 53, 54, 55, 56, 57] : Str)).bind fun v2 =>
      Q_Number_j1 p0x0 (!v2)

noncomputable def Q_VersionOf_j1 (l7 : List Int) (n8 : Int) (v10 : Int × Bool) (c12 : Bool) : Option (((List Int) × Int) ⊕ (Version × Int)) :=
  if c12 = true then
    Option.map .inr (some ((⟨(0 : Int), (0 : Int), (0 : Int)⟩ : Version), (9 : Int)))
  else
    some (.inl (l7.set n8.toNat v10.1, w64 (n8 + (1 : Int))))

noncomputable def Q_VersionOf_k2 (l7 : List Int) : Option (Version × Int) :=
  (idxA 3 l7 (0 : Int)).bind fun v14 =>
  (idxA 3 l7 (1 : Int)).bind fun v15 =>
  (idxA 3 l7 (2 : Int)).bind fun v16 =>
  some ((⟨v14, v15, v16⟩ : Version), (0 : Int))

noncomputable def Q_VersionOf_b1 (v2 : (List Str)) (l7 : List Int) (n8 : Int) : Option (((List Int) × Int) ⊕ (Version × Int)) :=
  if n8 < (v2.length : Int) then
    (idx v2 n8).bind fun v9 =>
    (Q_Number v9 (4 : Int)).bind fun v10 =>
    (idxA 3 l7 n8).bind fun v11 =>
    if (!v10.2) = true then
      Q_VersionOf_j1 l7 n8 v10 true
    else
      (idxA 3 (l7.set n8.toNat v10.1) n8).bind fun v13 =>
      Q_VersionOf_j1 l7 n8 v10 (decide (v13 < (0 : Int)))
  else
    Option.map .inr (Q_VersionOf_k2 l7)

noncomputable def Q_VersionOf_l1 (v2 : (List Str)) (l7 : List Int) (n8 : Int) : Option (Version × Int) :=
  iter (fun x : (List Int) × Int => Q_VersionOf_b1 v2 x.1 x.2) (l7, n8)

noncomputable def Q_VersionOf (p0x0 : Str) : Option (Version × Int) :=
  (splitO p0x0 ([46] : Str)).bind fun v2 =>
  if (v2.length : Int) ≠ (3 : Int) then
    some ((⟨(0 : Int), (0 : Int), (0 : Int)⟩ : Version), (9 : Int))
  else
    Q_VersionOf_l1 v2 ([(0 : Int), (0 : Int), (0 : Int)] : List Int) (0 : Int)

noncomputable def cmp_Or_int_b1 (p0x0 : List Int) (n2 : Int) : Option (Int ⊕ Int) :=
  if n2 < (p0x0.length : Int) then
    (idx p0x0 n2).bind fun v3 =>
    if v3 ≠ (0 : Int) then
      Option.map .inr (some v3)
    else
      some (.inl (w64 (n2 + (1 : Int))))
  else
    Option.map .inr (some (0 : Int))

noncomputable def cmp_Or_int_l1 (p0x0 : List Int) (n2 : Int) : Option Int :=
  iter (fun x : Int => cmp_Or_int_b1 p0x0 x) n2

noncomputable def cmp_Or_int (p0x0 : List Int) : Option Int :=
  cmp_Or_int_l1 p0x0 (0 : Int)

noncomputable def campaign_Compare (p0x0 : Version) (p1x0 : Version) : Option Int :=
  (cmp_Or_int [(cmp_Compare_int p0x0.Major p1x0.Major), (cmp_Compare_int p0x0.Minor p1x0.Minor), (cmp_Compare_int p0x0.Patch p1x0.Patch)]).bind fun v3 =>
  some v3

noncomputable def base_Key_j2 (n5 : Int) (c7 : Bool) : Option (Int ⊕ Bool) :=
  if c7 = true then
    Option.map .inr (some false)
  else
    some (.inl (w64 (n5 + (1 : Int))))

noncomputable def base_Key_b1 (p0x0 : Str) (n5 : Int) : Option (Int ⊕ Bool) :=
  if n5 < (p0x0.length : Int) then
    (idx p0x0 n5).bind fun c6 =>
    base_Key_j2 n5 (if (97 : Int) ≤ (c6.toNat : Int) then if (c6.toNat : Int) ≤ (122 : Int) then !true else if (48 : Int) ≤ (c6.toNat : Int) then if (c6.toNat : Int) ≤ (57 : Int) then !true else if (c6.toNat : Int) = (45 : Int) then !true else decide (¬ ((c6.toNat : Int) = (95 : Int))) else if (c6.toNat : Int) = (45 : Int) then !true else decide (¬ ((c6.toNat : Int) = (95 : Int))) else if (48 : Int) ≤ (c6.toNat : Int) then if (c6.toNat : Int) ≤ (57 : Int) then !true else if (c6.toNat : Int) = (45 : Int) then !true else decide (¬ ((c6.toNat : Int) = (95 : Int))) else if (c6.toNat : Int) = (45 : Int) then !true else decide (¬ ((c6.toNat : Int) = (95 : Int))))
  else
    Option.map .inr (some true)

noncomputable def base_Key_l1 (p0x0 : Str) (n5 : Int) : Option Bool :=
  iter (fun x : Int => base_Key_b1 p0x0 x) n5

noncomputable def base_Key_j1 (p0x0 : Str) (c1 : Bool) : Option Bool :=
  if c1 = true then
    some false
  else
    base_Key_l1 p0x0 (0 : Int)

noncomputable def base_Key (p0x0 : Str) : Option Bool :=
  if p0x0 = ([] : Str) then
    base_Key_j1 p0x0 true
  else
    if (40 : Int) < (p0x0.length : Int) then
      base_Key_j1 p0x0 true
    else
      (idx p0x0 (0 : Int)).bind fun c2 =>
      if (c2.toNat : Int) < (97 : Int) then
        base_Key_j1 p0x0 true
      else
        (idx p0x0 (0 : Int)).bind fun c3 =>
        base_Key_j1 p0x0 (decide ((122 : Int) < (c3.toNat : Int)))

noncomputable def campaign_covers_1x_j1 (c2 : Bool) : Option Bool :=
  some c2

noncomputable def campaign_covers_1x (p0x0 : Range) (p1x0 : Version) : Option Bool :=
  (campaign_Compare p0x0.Low p1x0).bind fun v3 =>
  if v3 ≤ (0 : Int) then
    (campaign_Compare p1x0 p0x0.High).bind fun v4 =>
    campaign_covers_1x_j1 (decide (v4 ≤ (0 : Int)))
  else
    campaign_covers_1x_j1 false

noncomputable def slices_IndexFunc_Range_Range_b1 (p0x0 : List Range) (fnb : Range → Option Bool) (n2 : Int) : Option (Int ⊕ Int) :=
  if n2 < (p0x0.length : Int) then
    (idx p0x0 n2).bind fun v3 =>
    (fnb v3).bind fun v4 =>
    if v4 = true then
      Option.map .inr (some n2)
    else
      some (.inl (w64 (n2 + (1 : Int))))
  else
    Option.map .inr (some (-1 : Int))

noncomputable def slices_IndexFunc_Range_Range_l1 (p0x0 : List Range) (fnb : Range → Option Bool) (n2 : Int) : Option Int :=
  iter (fun x : Int => slices_IndexFunc_Range_Range_b1 p0x0 fnb x) n2

noncomputable def slices_IndexFunc_Range_Range (p0x0 : List Range) (fnb : Range → Option Bool) : Option Int :=
  slices_IndexFunc_Range_Range_l1 p0x0 fnb (0 : Int)

noncomputable def slices_ContainsFunc_Range_Range (p0x0 : List Range) (fnb : Range → Option Bool) : Option Bool :=
  (slices_IndexFunc_Range_Range p0x0 fnb).bind fun v1 =>
  some (decide ((0 : Int) ≤ v1))

noncomputable def campaign_covers (p0x0 : Image) (p1x0 : Version) : Option Bool :=
  (slices_ContainsFunc_Range_Range p0x0.From (fun y0 => campaign_covers_1x y0 p1x0)).bind fun v3 =>
  some v3

noncomputable def campaign_rangesFault_j2 (n3 : Int) (c8 : Bool) : Option (Int ⊕ Int) :=
  if c8 = true then
    Option.map .inr (some (7 : Int))
  else
    some (.inl (w64 (n3 + (1 : Int))))

noncomputable def campaign_rangesFault_j1 (p0x0 : Image) (n3 : Int) (v4 : Range) (c6 : Bool) : Option (Int ⊕ Int) :=
  if c6 = true then
    Option.map .inr (some (1 : Int))
  else
    if (0 : Int) < n3 then
      (idx p0x0.From (w64 (n3 - (1 : Int)))).bind fun v9 =>
      (campaign_Compare v4.Low v9.High).bind fun v10 =>
      campaign_rangesFault_j2 n3 (decide (v10 ≤ (0 : Int)))
    else
      campaign_rangesFault_j2 n3 false

noncomputable def campaign_rangesFault_k3 (p0x0 : Image) : Option Int :=
  (campaign_covers p0x0 p0x0.Version).bind fun v11 =>
  if v11 = true then
    some (14 : Int)
  else
    some (0 : Int)

noncomputable def campaign_rangesFault_b1 (p0x0 : Image) (n3 : Int) : Option (Int ⊕ Int) :=
  if n3 < (p0x0.From.length : Int) then
    (idx p0x0.From n3).bind fun v4 =>
    if (!(base_Version v4.Low)) = true then
      campaign_rangesFault_j1 p0x0 n3 v4 true
    else
      if (!(base_Version v4.High)) = true then
        campaign_rangesFault_j1 p0x0 n3 v4 true
      else
        (campaign_Compare v4.Low v4.High).bind fun v7 =>
        campaign_rangesFault_j1 p0x0 n3 v4 (decide ((0 : Int) < v7))
  else
    Option.map .inr (campaign_rangesFault_k3 p0x0)

noncomputable def campaign_rangesFault_l1 (p0x0 : Image) (n3 : Int) : Option Int :=
  iter (fun x : Int => campaign_rangesFault_b1 p0x0 x) n3

noncomputable def campaign_rangesFault (p0x0 : Image) : Option Int :=
  if (20 : Int) < (p0x0.From.length : Int) then
    some (2 : Int)
  else
    campaign_rangesFault_l1 p0x0 (0 : Int)

noncomputable def campaign_CheckImages_j2 (n9 : Int) (c12 : Bool) : Option (Int ⊕ (Int ⊕ Int)) :=
  if c12 = true then
    Option.map .inr (Option.map .inr (some (7 : Int)))
  else
    some (.inl (w64 (n9 + (1 : Int))))

noncomputable def campaign_CheckImages_k3 (n2 : Int) (v3 : Image) : Option (Int ⊕ Int) :=
  (campaign_rangesFault v3).bind fun v14 =>
  if v14 ≠ (0 : Int) then
    Option.map .inr (some v14)
  else
    if (base_Out v3.Size (1 : Int) (1000000000 : Int)) = true then
      Option.map .inr (some (1 : Int))
    else
      some (.inl (w64 (n2 + (1 : Int))))

noncomputable def campaign_CheckImages_b2 (n2 : Int) (v3 : Image) (n9 : Int) : Option (Int ⊕ (Int ⊕ Int)) :=
  if n9 < (v3.Models.length : Int) then
    (idx v3.Models n9).bind fun v10 =>
    (base_Key v10).bind fun v11 =>
    if (!v11) = true then
      Option.map .inr (Option.map .inr (some (5 : Int)))
    else
      if (0 : Int) < n9 then
        (idx v3.Models (w64 (n9 - (1 : Int)))).bind fun v13 =>
        campaign_CheckImages_j2 n9 (Op.bytesLess v10 v13 || v10 == v13)
      else
        campaign_CheckImages_j2 n9 false
  else
    Option.map .inr (campaign_CheckImages_k3 n2 v3)

noncomputable def campaign_CheckImages_l2 (n2 : Int) (v3 : Image) (n9 : Int) : Option (Int ⊕ Int) :=
  iter (fun x : Int => campaign_CheckImages_b2 n2 v3 x) n9

noncomputable def campaign_CheckImages_j1 (n2 : Int) (v3 : Image) (c5 : Bool) : Option (Int ⊕ Int) :=
  if c5 = true then
    Option.map .inr (some (7 : Int))
  else
    if (v3.Models.length : Int) = (0 : Int) then
      Option.map .inr (some (3 : Int))
    else
      if (20 : Int) < (v3.Models.length : Int) then
        Option.map .inr (some (2 : Int))
      else
        campaign_CheckImages_l2 n2 v3 (0 : Int)

noncomputable def campaign_CheckImages_b1 (p0x0 : List Image) (n2 : Int) : Option (Int ⊕ Int) :=
  if n2 < (p0x0.length : Int) then
    (idx p0x0 n2).bind fun v3 =>
    if (!(base_Version v3.Version)) = true then
      Option.map .inr (some (1 : Int))
    else
      if (0 : Int) < n2 then
        (idx p0x0 (w64 (n2 - (1 : Int)))).bind fun v6 =>
        (campaign_Compare v3.Version v6.Version).bind fun v7 =>
        campaign_CheckImages_j1 n2 v3 (decide (v7 ≤ (0 : Int)))
      else
        campaign_CheckImages_j1 n2 v3 false
  else
    Option.map .inr (some (0 : Int))

noncomputable def campaign_CheckImages_l1 (p0x0 : List Image) (n2 : Int) : Option Int :=
  iter (fun x : Int => campaign_CheckImages_b1 p0x0 x) n2

noncomputable def campaign_CheckImages (p0x0 : List Image) : Option Int :=
  if (200 : Int) < (p0x0.length : Int) then
    some (2 : Int)
  else
    campaign_CheckImages_l1 p0x0 (0 : Int)

noncomputable def Q_Key_j1 (c1 : Bool) : Option Bool :=
  some c1

noncomputable def Q_Key (p0x0 : Str) : Option Bool :=
  if (Q_in (p0x0.length : Int) (1 : Int) (40 : Int)) = true then
    (slc p0x0 (0 : Int) (1 : Int)).bind fun l2 =>
    (Q_only l2 ([97, 98, 99, 100, 101, 102, 103, 104, 105, 106, 107, 108, 109, 110, 111, 112, 113, 114, 115, 116, 117, 118, 119, 120, 121, 122] : Str)).bind fun v3 =>
    if v3 = true then
      (Q_only p0x0 ([97, 98, 99, 100, 101, 102, 103, 104, 105, 106, 107, 108, 109, 110, 111, 112, 113, 114, 115, 116, 117, 118, 119, 120, 121, 122, 48, 49, 50, 51, 52, 53, 54, 55, 56, 57, 45, 95] : Str)).bind fun v4 =>
      Q_Key_j1 v4
    else
      Q_Key_j1 false
  else
    Q_Key_j1 false

noncomputable def Q_fits_1x_j1 (c2 : Bool) : Option Bool :=
  some c2

noncomputable def Q_fits_1x (p0x0 : Range) (p1x0 : Version) : Option Bool :=
  (Q_VersionOrder p0x0.Low p1x0).bind fun v3 =>
  if v3 ≤ (0 : Int) then
    (Q_VersionOrder p1x0 p0x0.High).bind fun v4 =>
    Q_fits_1x_j1 (decide (v4 ≤ (0 : Int)))
  else
    Q_fits_1x_j1 false

noncomputable def Q_fits (p0x0 : Image) (p1x0 : Version) : Option Bool :=
  (slices_ContainsFunc_Range_Range p0x0.From (fun y0 => Q_fits_1x y0 p1x0)).bind fun v3 =>
  some v3

noncomputable def Q_rangesFault_j1 (n3 : Int) (c11 : Bool) : Option (Int ⊕ Int) :=
  if c11 = true then
    Option.map .inr (some (7 : Int))
  else
    some (.inl (w64 (n3 + (1 : Int))))

noncomputable def Q_rangesFault_k2 (p0x0 : Image) (n3 : Int) (v4 : Range) : Option (Int ⊕ Int) :=
  (Q_VersionOrder v4.Low v4.High).bind fun v10 =>
  if (0 : Int) < v10 then
    Option.map .inr (some (1 : Int))
  else
    if (0 : Int) < n3 then
      (idx p0x0.From (w64 (n3 - (1 : Int)))).bind fun v12 =>
      (Q_VersionOrder v4.Low v12.High).bind fun v13 =>
      Q_rangesFault_j1 n3 (decide (v13 ≤ (0 : Int)))
    else
      Q_rangesFault_j1 n3 false

noncomputable def Q_rangesFault_b2 (p0x0 : Image) (n3 : Int) (v4 : Range) (n7 : Int) : Option (Int ⊕ (Int ⊕ Int)) :=
  if n7 < ([v4.Low, v4.High].length : Int) then
    (idx [v4.Low, v4.High] n7).bind fun v8 =>
    if (Q_versionFault v8) ≠ (0 : Int) then
      Option.map .inr (Option.map .inr (some (Q_versionFault v8)))
    else
      some (.inl (w64 (n7 + (1 : Int))))
  else
    Option.map .inr (Q_rangesFault_k2 p0x0 n3 v4)

noncomputable def Q_rangesFault_l2 (p0x0 : Image) (n3 : Int) (v4 : Range) (n7 : Int) : Option (Int ⊕ Int) :=
  iter (fun x : Int => Q_rangesFault_b2 p0x0 n3 v4 x) n7

noncomputable def Q_rangesFault_k3 (p0x0 : Image) : Option Int :=
  (Q_fits p0x0 p0x0.Version).bind fun v14 =>
  if v14 = true then
    some (14 : Int)
  else
    some (0 : Int)

noncomputable def Q_rangesFault_b1 (p0x0 : Image) (n3 : Int) : Option (Int ⊕ Int) :=
  if n3 < (p0x0.From.length : Int) then
    (idx p0x0.From n3).bind fun v4 =>
    Q_rangesFault_l2 p0x0 n3 v4 (0 : Int)
  else
    Option.map .inr (Q_rangesFault_k3 p0x0)

noncomputable def Q_rangesFault_l1 (p0x0 : Image) (n3 : Int) : Option Int :=
  iter (fun x : Int => Q_rangesFault_b1 p0x0 x) n3

noncomputable def Q_rangesFault (p0x0 : Image) : Option Int :=
  if (20 : Int) < (p0x0.From.length : Int) then
    some (2 : Int)
  else
    Q_rangesFault_l1 p0x0 (0 : Int)

noncomputable def Q_ImagesFault_j2 (n9 : Int) (c12 : Bool) : Option (Int ⊕ (Int ⊕ Int)) :=
  if c12 = true then
    Option.map .inr (Option.map .inr (some (7 : Int)))
  else
    some (.inl (w64 (n9 + (1 : Int))))

noncomputable def Q_ImagesFault_k3 (n2 : Int) (v3 : Image) : Option (Int ⊕ Int) :=
  (Q_rangesFault v3).bind fun v14 =>
  if v14 ≠ (0 : Int) then
    Option.map .inr (some v14)
  else
    if (!(Q_in v3.Size (1 : Int) (1000000000 : Int))) = true then
      Option.map .inr (some (1 : Int))
    else
      some (.inl (w64 (n2 + (1 : Int))))

noncomputable def Q_ImagesFault_b2 (n2 : Int) (v3 : Image) (n9 : Int) : Option (Int ⊕ (Int ⊕ Int)) :=
  if n9 < (v3.Models.length : Int) then
    (idx v3.Models n9).bind fun v10 =>
    (Q_Key v10).bind fun v11 =>
    if (!v11) = true then
      Option.map .inr (Option.map .inr (some (5 : Int)))
    else
      if (0 : Int) < n9 then
        (idx v3.Models (w64 (n9 - (1 : Int)))).bind fun v13 =>
        Q_ImagesFault_j2 n9 (Op.bytesLess v10 v13 || v10 == v13)
      else
        Q_ImagesFault_j2 n9 false
  else
    Option.map .inr (Q_ImagesFault_k3 n2 v3)

noncomputable def Q_ImagesFault_l2 (n2 : Int) (v3 : Image) (n9 : Int) : Option (Int ⊕ Int) :=
  iter (fun x : Int => Q_ImagesFault_b2 n2 v3 x) n9

noncomputable def Q_ImagesFault_j1 (n2 : Int) (v3 : Image) (c5 : Bool) : Option (Int ⊕ Int) :=
  if c5 = true then
    Option.map .inr (some (7 : Int))
  else
    if (v3.Models.length : Int) = (0 : Int) then
      Option.map .inr (some (3 : Int))
    else
      if (20 : Int) < (v3.Models.length : Int) then
        Option.map .inr (some (2 : Int))
      else
        Q_ImagesFault_l2 n2 v3 (0 : Int)

noncomputable def Q_ImagesFault_b1 (p0x0 : List Image) (n2 : Int) : Option (Int ⊕ Int) :=
  if n2 < (p0x0.length : Int) then
    (idx p0x0 n2).bind fun v3 =>
    if (Q_versionFault v3.Version) ≠ (0 : Int) then
      Option.map .inr (some (Q_versionFault v3.Version))
    else
      if (0 : Int) < n2 then
        (idx p0x0 (w64 (n2 - (1 : Int)))).bind fun v6 =>
        (Q_VersionOrder v6.Version v3.Version).bind fun v7 =>
        Q_ImagesFault_j1 n2 v3 (decide ((0 : Int) ≤ v7))
      else
        Q_ImagesFault_j1 n2 v3 false
  else
    Option.map .inr (some (0 : Int))

noncomputable def Q_ImagesFault_l1 (p0x0 : List Image) (n2 : Int) : Option Int :=
  iter (fun x : Int => Q_ImagesFault_b1 p0x0 x) n2

noncomputable def Q_ImagesFault (p0x0 : List Image) : Option Int :=
  if (200 : Int) < (p0x0.length : Int) then
    some (2 : Int)
  else
    Q_ImagesFault_l1 p0x0 (0 : Int)

noncomputable def L_versioned_j1 (c3 : Bool) : Option Bool :=
  some c3

noncomputable def L_versioned : Option Bool :=
  (campaign_ParseVersion ([49, 46, 50, 46, 51] : Str)).bind fun v1 =>
  L_versioned_j1 ((decide (v1.2 = (0 : Int))) && (decide (v1.1 = (⟨(1 : Int), (2 : Int), (3 : Int)⟩ : Version))))

noncomputable def L_VersionsRead_j2 (c16 : Bool) : Option Bool :=
  some c16

noncomputable def L_VersionsRead_j1 (v2 : Version × Fleetmake_Stream) (v3 : Version × Fleetmake_Stream) (v4 : Str × Fleetmake_Stream) (v5 : (List Image) × Fleetmake_Stream) (v9 : Str × Int) (q10 : Str) : Option Bool :=
  (campaign_ParseVersion v4.1).bind fun v12 =>
  (Q_VersionOf v4.1).bind fun v14 =>
  if v9.1 = q10 then
    if v9.2 = (Q_VersionFault v2.1) then
      if v12.1 = v14.1 then
        if v12.2 = v14.2 then
          (campaign_Compare v2.1 v3.1).bind fun v17 =>
          (Q_VersionOrder v2.1 v3.1).bind fun v18 =>
          if v17 = v18 then
            (campaign_CheckImages v5.1).bind fun v19 =>
            (Q_ImagesFault v5.1).bind fun v20 =>
            if v19 = v20 then
              (L_versioned).bind fun v21 =>
              L_VersionsRead_j2 v21
            else
              L_VersionsRead_j2 false
          else
            L_VersionsRead_j2 false
        else
          L_VersionsRead_j2 false
      else
        L_VersionsRead_j2 false
    else
      L_VersionsRead_j2 false
  else
    L_VersionsRead_j2 false

noncomputable def L_VersionsRead (p0x0 : List Int) : Option Bool :=
  (Stream_Version (⟨p0x0, (0 : Int)⟩ : Fleetmake_Stream)).bind fun v2 =>
  (Stream_Version v2.2).bind fun v3 =>
  (Stream_VersionText v3.2).bind fun v4 =>
  (Stream_Images v4.2).bind fun v5 =>
  (campaign_VersionText v2.1).bind fun v9 =>
  if (Q_VersionFault v2.1) = (0 : Int) then
    (Q_VersionLine v2.1).bind fun v11 =>
    L_VersionsRead_j1 v2 v3 v4 v5 v9 v11
  else
    L_VersionsRead_j1 v2 v3 v4 v5 v9 ([] : Str)

end Go.Beacon
