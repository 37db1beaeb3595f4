/- Plain functions that the Go functions compute, written by shal.py. -/
import Derived.Test.YtohbdmanojgegaaDoorCore
set_option linter.unusedVariables false
namespace Go.Beacon
open Go Go.Eng
structure Fleetmake_Stream where
  L : List Int
  at_ : Int
deriving DecidableEq, Inhabited
def Fleetmake_Stream.av (x : Fleetmake_Stream) : AV := .agg [.list 1 (x.L.map I), I x.at_]

structure Spot where
  X : Int
  Y : Int
deriving DecidableEq, Inhabited
def Spot.av (x : Spot) : AV := .agg [I x.X, I x.Y]

structure FenceS where
  Key : Str
  Corners : List Spot
deriving DecidableEq, Inhabited
def FenceS.av (x : FenceS) : AV := .agg [.str x.Key, .list 2 (x.Corners.map Spot.av)]

noncomputable def Below_j1 (n2 : Int) : Option Int :=
  some n2

noncomputable def Below (p0x0 : Int) (p1x0 : Int) : Option Int :=
  if p1x0 < (1 : Int) then
    some (0 : Int)
  else
    (rem p0x0 p1x0).bind fun n1 =>
    if n1 < (0 : Int) then
      Below_j1 (w64 (n1 + p1x0))
    else
      Below_j1 n1

noncomputable def Stream_Next (p0x0 : Fleetmake_Stream) (p1x0 : Int) : Option (Int × Fleetmake_Stream) :=
  if (p0x0.L.length : Int) = (0 : Int) then
    (Below (w64 ((w64 (p0x0.at_ + (1 : Int))) * (7919 : Int))) p1x0).bind fun v1 =>
    some (v1, (⟨p0x0.L, w64 (p0x0.at_ + (1 : Int))⟩ : Fleetmake_Stream))
  else
    (rem (w64 ((w64 (p0x0.at_ + (1 : Int))) - (1 : Int))) (p0x0.L.length : Int)).bind fun n2 =>
    (quo (w64 ((w64 (p0x0.at_ + (1 : Int))) - (1 : Int))) (p0x0.L.length : Int)).bind fun n3 =>
    (idx p0x0.L n2).bind fun v4 =>
    (Below v4 (1073741824 : Int)).bind fun v5 =>
    (Below (w64 (v5 + (w64 (n3 * (w64 ((7919 : Int) + n2)))))) p1x0).bind fun v6 =>
    some (v6, (⟨p0x0.L, w64 (p0x0.at_ + (1 : Int))⟩ : Fleetmake_Stream))

noncomputable def Stream_Pick (p0x0 : Fleetmake_Stream) (p1x0 : List Int) : Option (Int × Fleetmake_Stream) :=
  (Stream_Next p0x0 (p1x0.length : Int)).bind fun v1 =>
  (idx p1x0 v1.1).bind fun v2 =>
  some (v2, v1.2)

noncomputable def Stream_Place (p0x0 : Fleetmake_Stream) : Option (Spot × Fleetmake_Stream) :=
  (Stream_Pick p0x0 [(0 : Int), (1 : Int), (2 : Int), (3 : Int), (4 : Int), (5 : Int), (6 : Int), (8 : Int), (10 : Int), (-1 : Int), (-5 : Int), (20 : Int)]).bind fun v2 =>
  (Stream_Pick v2.2 [(0 : Int), (1 : Int), (2 : Int), (3 : Int), (4 : Int), (5 : Int), (6 : Int), (8 : Int), (10 : Int), (-1 : Int), (-5 : Int), (20 : Int)]).bind fun v3 =>
  some ((⟨v2.1, v3.1⟩ : Spot), v3.2)

noncomputable def Stream_Flip (p0x0 : Fleetmake_Stream) (p1x0 : Int) : Option (Bool × Fleetmake_Stream) :=
  (Stream_Next p0x0 p1x0).bind fun v1 =>
  some (decide (v1.1 = (0 : Int)), v1.2)

noncomputable def Stream_Range (p0x0 : Fleetmake_Stream) (p1x0 : Int) (p2x0 : Int) : Option (Int × Fleetmake_Stream) :=
  if p2x0 < p1x0 then
    some (p1x0, p0x0)
  else
    (Stream_Next p0x0 (w64 ((w64 (p2x0 - p1x0)) + (1 : Int)))).bind fun v1 =>
    some (w64 (p1x0 + v1.1), v1.2)

noncomputable def Stream_Odd (p0x0 : Fleetmake_Stream) (p1x0 : Int) (p2x0 : Int) : Option (Int × Fleetmake_Stream) :=
  (Stream_Flip p0x0 (12 : Int)).bind fun v1 =>
  if v1.1 = true then
    (Stream_Pick v1.2 [w64 (p1x0 - (1 : Int)), w64 (p2x0 + (1 : Int)), p1x0, p2x0, (-1099511627776 : Int), (1099511627776 : Int)]).bind fun v2 =>
    some (v2.1, v2.2)
  else
    (Stream_Range v1.2 p1x0 p2x0).bind fun v3 =>
    some (v3.1, v3.2)

noncomputable def Stream_Spot_j1 (v2 : Spot × Fleetmake_Stream) (l5 : List Int) (n6 : Int) (n7 : Int) : Option (Spot × Fleetmake_Stream) :=
  some ((⟨n7, v2.1.Y⟩ : Spot), (⟨l5, n6⟩ : Fleetmake_Stream))

noncomputable def Stream_Spot (p0x0 : Fleetmake_Stream) : Option (Spot × Fleetmake_Stream) :=
  (Stream_Place p0x0).bind fun v2 =>
  (Stream_Flip v2.2 (15 : Int)).bind fun v4 =>
  if v4.1 = true then
    (Stream_Odd v4.2 (-10000 : Int) (10000 : Int)).bind fun v8 =>
    Stream_Spot_j1 v2 v8.2.L v8.2.at_ v8.1
  else
    Stream_Spot_j1 v2 v4.2.L v4.2.at_ v2.1.X

noncomputable def Stream_Some (p0x0 : Fleetmake_Stream) (p1x0 : List Str) : Option (Str × Fleetmake_Stream) :=
  (Stream_Next p0x0 (p1x0.length : Int)).bind fun v1 =>
  (idx p1x0 v1.1).bind fun v2 =>
  some (v2, v1.2)

noncomputable def Stream_CellKey_j1 (l13 : List Int) (n14 : Int) (q15 : Str) : Option (Str × Fleetmake_Stream) :=
  some (q15, (⟨l13, n14⟩ : Fleetmake_Stream))

noncomputable def Stream_CellKey_k2 (l6 : List Int) (n7 : Int) (q8 : Str) : Option (Str × Fleetmake_Stream) :=
  (Stream_Flip (⟨l6, n7⟩ : Fleetmake_Stream) (10 : Int)).bind fun v12 =>
  if v12.1 = true then
    (Stream_Some v12.2 [([52] : Str), ([48, 49, 32] : Str), ([48, 49, 50, 51, 48, 49, 50, 51, 48, 49, 50, 51, 48, 49, 50, 51] : Str), ([97] : Str)]).bind fun v16 =>
    Stream_CellKey_j1 v16.2.L v16.2.at_ v16.1
  else
    Stream_CellKey_j1 v12.2.L v12.2.at_ q8

noncomputable def Stream_CellKey_b1 (v1 : Int × Fleetmake_Stream) (l6 : List Int) (n7 : Int) (q8 : Str) (n9 : Int) : Option (((List Int) × Int × Str × Int) ⊕ (Str × Fleetmake_Stream)) :=
  if n9 < v1.1 then
    (Stream_Some (⟨l6, n7⟩ : Fleetmake_Stream) [([48] : Str), ([49] : Str), ([50] : Str), ([51] : Str)]).bind fun v10 =>
    (catO q8 v10.1).bind fun q11 =>
    some (.inl (v10.2.L, v10.2.at_, q11, w64 (n9 + (1 : Int))))
  else
    Option.map .inr (Stream_CellKey_k2 l6 n7 q8)

noncomputable def Stream_CellKey_l1 (v1 : Int × Fleetmake_Stream) (l6 : List Int) (n7 : Int) (q8 : Str) (n9 : Int) : Option (Str × Fleetmake_Stream) :=
  iter (fun x : (List Int) × Int × Str × Int => Stream_CellKey_b1 v1 x.1 x.2.1 x.2.2.1 x.2.2.2) (l6, n7, q8, n9)

noncomputable def Stream_CellKey (p0x0 : Fleetmake_Stream) : Option (Str × Fleetmake_Stream) :=
  (Stream_Range p0x0 (0 : Int) (15 : Int)).bind fun v1 =>
  Stream_CellKey_l1 v1 v1.2.L v1.2.at_ ([] : Str) (0 : Int)

noncomputable def Q_in_j1 (c1 : Bool) : Bool :=
  c1

noncomputable def Q_in (p0x0 : Int) (p1x0 : Int) (p2x0 : Int) : Bool :=
  Q_in_j1 ((decide (p1x0 ≤ p0x0)) && (decide (p0x0 ≤ p2x0)))

noncomputable def Q_SpotFault_j1 (c2 : Bool) : Int :=
  if c2 = true then
    (1 : Int)
  else
    (0 : Int)

noncomputable def Q_SpotFault (p0x0 : Spot) : Int :=
  Q_SpotFault_j1 ((!(Q_in p0x0.X (-10000 : Int) (10000 : Int))) || (!(Q_in p0x0.Y (-10000 : Int) (10000 : Int))))

noncomputable def slices_Index_Spot_Spot_b1 (p0x0 : List Spot) (p1x0 : Spot) (n3 : Int) : Option (Int ⊕ Int) :=
  if n3 < (p0x0.length : Int) then
    (idx p0x0 n3).bind fun v4 =>
    if p1x0 = v4 then
      Option.map .inr (some n3)
    else
      some (.inl (w64 (n3 + (1 : Int))))
  else
    Option.map .inr (some (-1 : Int))

noncomputable def slices_Index_Spot_Spot_l1 (p0x0 : List Spot) (p1x0 : Spot) (n3 : Int) : Option Int :=
  iter (fun x : Int => slices_Index_Spot_Spot_b1 p0x0 p1x0 x) n3

noncomputable def slices_Index_Spot_Spot (p0x0 : List Spot) (p1x0 : Spot) : Option Int :=
  slices_Index_Spot_Spot_l1 p0x0 p1x0 (0 : Int)

noncomputable def slices_Contains_Spot_Spot (p0x0 : List Spot) (p1x0 : Spot) : Option Bool :=
  (slices_Index_Spot_Spot p0x0 p1x0).bind fun v2 =>
  some (decide ((0 : Int) ≤ v2))

noncomputable def Q_edge (p0x0 : List Spot) (p1x0 : Int) : Option (Spot × Spot) :=
  (idx p0x0 p1x0).bind fun v3 =>
  (rem (w64 (p1x0 + (1 : Int))) (p0x0.length : Int)).bind fun n4 =>
  (idx p0x0 n4).bind fun v5 =>
  some (v3, v5)

noncomputable def Q_minus (p0x0 : Spot) (p1x0 : Spot) : Spot :=
  (⟨w64 (p0x0.X - p1x0.X), w64 (p0x0.Y - p1x0.Y)⟩ : Spot)

noncomputable def Q_cross (p0x0 : Spot) (p1x0 : Spot) : Int :=
  w64 ((w64 (p0x0.X * p1x0.Y)) - (w64 (p0x0.Y * p1x0.X)))

noncomputable def Q_sign (p0x0 : Int) : Int :=
  if p0x0 < (0 : Int) then
    (-1 : Int)
  else
    if (0 : Int) < p0x0 then
      (1 : Int)
    else
      (0 : Int)

noncomputable def Q_side (p0x0 : Spot) (p1x0 : Spot) (p2x0 : Spot) : Int :=
  (Q_sign (Q_cross (Q_minus p1x0 p0x0) (Q_minus p2x0 p0x0)))

noncomputable def Q_dot (p0x0 : Spot) (p1x0 : Spot) : Int :=
  w64 ((w64 (p0x0.X * p1x0.X)) + (w64 (p0x0.Y * p1x0.Y)))

noncomputable def Q_onWay_j1 (c4 : Bool) : Bool :=
  c4

noncomputable def Q_onWay (p0x0 : Spot) (p1x0 : Spot) (p2x0 : Spot) : Bool :=
  Q_onWay_j1 ((decide ((Q_side p0x0 p1x0 p2x0) = (0 : Int))) && (decide ((Q_dot (Q_minus p0x0 p2x0) (Q_minus p1x0 p2x0)) ≤ (0 : Int))))

noncomputable def Q_touches_j2 (c6 : Bool) : Bool :=
  c6

noncomputable def Q_touches_j1 (p0x0 : Spot) (p1x0 : Spot) (p2x0 : Spot) (p3x0 : Spot) (c5 : Bool) : Bool :=
  if c5 = true then
    true
  else
    Q_touches_j2 ((decide ((w64 ((Q_side p0x0 p1x0 p2x0) * (Q_side p0x0 p1x0 p3x0))) < (0 : Int))) && (decide ((w64 ((Q_side p2x0 p3x0 p0x0) * (Q_side p2x0 p3x0 p1x0))) < (0 : Int))))

noncomputable def Q_touches (p0x0 : Spot) (p1x0 : Spot) (p2x0 : Spot) (p3x0 : Spot) : Bool :=
  Q_touches_j1 p0x0 p1x0 p2x0 p3x0 ((Q_onWay p0x0 p1x0 p2x0) || ((Q_onWay p0x0 p1x0 p3x0) || ((Q_onWay p2x0 p3x0 p0x0) || (Q_onWay p2x0 p3x0 p1x0))))

noncomputable def Q_CornersFault_j1 (n13 : Int) : Option (Int ⊕ (Int ⊕ Int)) :=
  some (.inl (w64 (n13 + (1 : Int))))

noncomputable def Q_CornersFault_j2 (n13 : Int) : Option (Int ⊕ (Int ⊕ Int)) :=
  Q_CornersFault_j1 n13

noncomputable def Q_CornersFault_j3 (n13 : Int) (c17 : Bool) : Option (Int ⊕ (Int ⊕ Int)) :=
  if c17 = true then
    Option.map .inr (Option.map .inr (some (13 : Int)))
  else
    Q_CornersFault_j2 n13

noncomputable def Q_CornersFault_j4 (n13 : Int) : Option (Int ⊕ (Int ⊕ Int)) :=
  Q_CornersFault_j2 n13

noncomputable def Q_CornersFault_b3 (p0x0 : List Spot) (n8 : Int) (v9 : Spot × Spot) (n13 : Int) : Option (Int ⊕ (Int ⊕ Int)) :=
  if n13 < (p0x0.length : Int) then
    (Q_edge p0x0 n13).bind fun v14 =>
    if n13 = n8 then
      Q_CornersFault_j1 n13
    else
      if v9.2 = v14.1 then
        Q_CornersFault_j3 n13 ((Q_onWay v9.1 v9.2 v14.2) || (Q_onWay v14.1 v14.2 v9.1))
      else
        if v14.2 = v9.1 then
          Q_CornersFault_j4 n13
        else
          if (Q_touches v9.1 v9.2 v14.1 v14.2) = true then
            Option.map .inr (Option.map .inr (some (13 : Int)))
          else
            Q_CornersFault_j4 n13
  else
    Option.map .inr (some (.inl (w64 (n8 + (1 : Int)))))

noncomputable def Q_CornersFault_l3 (p0x0 : List Spot) (n8 : Int) (v9 : Spot × Spot) (n13 : Int) : Option (Int ⊕ Int) :=
  iter (fun x : Int => Q_CornersFault_b3 p0x0 n8 v9 x) n13

noncomputable def Q_CornersFault_b2 (p0x0 : List Spot) (n8 : Int) : Option (Int ⊕ Int) :=
  if n8 < (p0x0.length : Int) then
    (Q_edge p0x0 n8).bind fun v9 =>
    Q_CornersFault_l3 p0x0 n8 v9 (0 : Int)
  else
    Option.map .inr (some (0 : Int))

noncomputable def Q_CornersFault_l2 (p0x0 : List Spot) (n8 : Int) : Option Int :=
  iter (fun x : Int => Q_CornersFault_b2 p0x0 x) n8

noncomputable def Q_CornersFault_b1 (p0x0 : List Spot) (n2 : Int) : Option (Int ⊕ Int) :=
  if n2 < (p0x0.length : Int) then
    (idx p0x0 n2).bind fun v3 =>
    if (Q_SpotFault v3) ≠ (0 : Int) then
      Option.map .inr (some (Q_SpotFault v3))
    else
      (slc p0x0 (0 : Int) n2).bind fun l5 =>
      (slices_Contains_Spot_Spot l5 v3).bind fun v6 =>
      if v6 = true then
        Option.map .inr (some (6 : Int))
      else
        some (.inl (w64 (n2 + (1 : Int))))
  else
    Option.map .inr (Q_CornersFault_l2 p0x0 (0 : Int))

noncomputable def Q_CornersFault_l1 (p0x0 : List Spot) (n2 : Int) : Option Int :=
  iter (fun x : Int => Q_CornersFault_b1 p0x0 x) n2

noncomputable def Q_CornersFault (p0x0 : List Spot) : Option Int :=
  if (p0x0.length : Int) < (3 : Int) then
    some (3 : Int)
  else
    if (200 : Int) < (p0x0.length : Int) then
      some (2 : Int)
    else
      Q_CornersFault_l1 p0x0 (0 : Int)

noncomputable def Stream_RightFence_j1 (n8 : Int) (l25 : List Int) (n26 : Int) (l27 : List Spot) : Option (((List Int) × Int × Int) ⊕ (FenceS × Fleetmake_Stream)) :=
  (Q_CornersFault l27).bind fun v39 =>
  if v39 = (0 : Int) then
    Option.map .inr (some ((⟨([102] : Str), l27⟩ : FenceS), (⟨l25, n26⟩ : Fleetmake_Stream)))
  else
    some (.inl (l25, n26, w64 (n8 + (1 : Int))))

noncomputable def Stream_RightFence_b3 (n8 : Int) (l18 : List Spot) (l32 : List Int) (n33 : Int) (l34 : List Spot) (n35 : Int) : Option (((List Int) × Int × (List Spot) × Int) ⊕ (((List Int) × Int × Int) ⊕ (FenceS × Fleetmake_Stream))) :=
  if n35 < (l18.length : Int) then
    (idx l34 n35).bind fun v36 =>
    (Stream_Pick (⟨l32, n33⟩ : Fleetmake_Stream) [(1 : Int), (100 : Int), (-400 : Int)]).bind fun v37 =>
    (idx l34 n35).bind fun v38 =>
    some (.inl (v37.2.L, v37.2.at_, l34.set n35.toNat (⟨w64 (v36.X * v37.1), v38.Y⟩ : Spot), w64 (n35 + (1 : Int))))
  else
    Option.map .inr (Stream_RightFence_j1 n8 l32 n33 l34)

noncomputable def Stream_RightFence_l3 (n8 : Int) (l18 : List Spot) (l32 : List Int) (n33 : Int) (l34 : List Spot) (n35 : Int) : Option (((List Int) × Int × Int) ⊕ (FenceS × Fleetmake_Stream)) :=
  iter (fun x : (List Int) × Int × (List Spot) × Int => Stream_RightFence_b3 n8 l18 x.1 x.2.1 x.2.2.1 x.2.2.2) (l32, n33, l34, n35)

noncomputable def Stream_RightFence_k2 (n8 : Int) (l15 : List Int) (n16 : Int) (l18 : List Spot) : Option (((List Int) × Int × Int) ⊕ (FenceS × Fleetmake_Stream)) :=
  (Stream_Flip (⟨l15, n16⟩ : Fleetmake_Stream) (6 : Int)).bind fun v24 =>
  if v24.1 = true then
    Stream_RightFence_l3 n8 l18 v24.2.L v24.2.at_ l18 (0 : Int)
  else
    Stream_RightFence_j1 n8 v24.2.L v24.2.at_ l18

noncomputable def Stream_RightFence_b2 (n8 : Int) (v9 : Int × Fleetmake_Stream) (l15 : List Int) (n16 : Int) (l18 : List Spot) (n19 : Int) : Option (((List Int) × Int × (List Spot) × Int) ⊕ (((List Int) × Int × Int) ⊕ (FenceS × Fleetmake_Stream))) :=
  if n19 < v9.1 then
    (Stream_Place (⟨l15, n16⟩ : Fleetmake_Stream)).bind fun v21 =>
    (app l18 [v21.1]).bind fun l22 =>
    some (.inl (v21.2.L, v21.2.at_, l22, w64 (n19 + (1 : Int))))
  else
    Option.map .inr (Stream_RightFence_k2 n8 l15 n16 l18)

noncomputable def Stream_RightFence_l2 (n8 : Int) (v9 : Int × Fleetmake_Stream) (l15 : List Int) (n16 : Int) (l18 : List Spot) (n19 : Int) : Option (((List Int) × Int × Int) ⊕ (FenceS × Fleetmake_Stream)) :=
  iter (fun x : (List Int) × Int × (List Spot) × Int => Stream_RightFence_b2 n8 v9 x.1 x.2.1 x.2.2.1 x.2.2.2) (l15, n16, l18, n19)

noncomputable def Stream_RightFence_j3 (v40 : Int × Fleetmake_Stream) (l41 : List Spot) : Option (FenceS × Fleetmake_Stream) :=
  some ((⟨([102] : Str), l41⟩ : FenceS), v40.2)

noncomputable def Stream_RightFence_j4 (v40 : Int × Fleetmake_Stream) (l42 : List Spot) : Option (FenceS × Fleetmake_Stream) :=
  Stream_RightFence_j3 v40 l42

noncomputable def Stream_RightFence_j5 (v40 : Int × Fleetmake_Stream) (l43 : List Spot) : Option (FenceS × Fleetmake_Stream) :=
  Stream_RightFence_j4 v40 l43

noncomputable def Stream_RightFence_k6 (l6 : List Int) (n7 : Int) : Option (FenceS × Fleetmake_Stream) :=
  (Stream_Next (⟨l6, n7⟩ : Fleetmake_Stream) (4 : Int)).bind fun v40 =>
  if v40.1 = (0 : Int) then
    Stream_RightFence_j3 v40 [(⟨(0 : Int), (0 : Int)⟩ : Spot), (⟨(10 : Int), (0 : Int)⟩ : Spot), (⟨(10 : Int), (10 : Int)⟩ : Spot), (⟨(5 : Int), (3 : Int)⟩ : Spot), (⟨(0 : Int), (10 : Int)⟩ : Spot)]
  else
    if v40.1 = (1 : Int) then
      Stream_RightFence_j4 v40 [(⟨(0 : Int), (10 : Int)⟩ : Spot), (⟨(10 : Int), (10 : Int)⟩ : Spot), (⟨(10 : Int), (0 : Int)⟩ : Spot), (⟨(0 : Int), (0 : Int)⟩ : Spot)]
    else
      if v40.1 = (2 : Int) then
        Stream_RightFence_j5 v40 [(⟨(0 : Int), (0 : Int)⟩ : Spot), (⟨(8 : Int), (0 : Int)⟩ : Spot), (⟨(8 : Int), (2 : Int)⟩ : Spot), (⟨(2 : Int), (2 : Int)⟩ : Spot), (⟨(2 : Int), (6 : Int)⟩ : Spot), (⟨(8 : Int), (6 : Int)⟩ : Spot), (⟨(8 : Int), (8 : Int)⟩ : Spot), (⟨(0 : Int), (8 : Int)⟩ : Spot)]
      else
        Stream_RightFence_j5 v40 [(⟨(0 : Int), (0 : Int)⟩ : Spot), (⟨(10 : Int), (0 : Int)⟩ : Spot), (⟨(10 : Int), (10 : Int)⟩ : Spot), (⟨(0 : Int), (10 : Int)⟩ : Spot)]

noncomputable def Stream_RightFence_b1 (l6 : List Int) (n7 : Int) (n8 : Int) : Option (((List Int) × Int × Int) ⊕ (FenceS × Fleetmake_Stream)) :=
  if n8 < (4 : Int) then
    (Stream_Range (⟨l6, n7⟩ : Fleetmake_Stream) (3 : Int) (6 : Int)).bind fun v9 =>
    Stream_RightFence_l2 n8 v9 v9.2.L v9.2.at_ [] (0 : Int)
  else
    Option.map .inr (Stream_RightFence_k6 l6 n7)

noncomputable def Stream_RightFence_l1 (l6 : List Int) (n7 : Int) (n8 : Int) : Option (FenceS × Fleetmake_Stream) :=
  iter (fun x : (List Int) × Int × Int => Stream_RightFence_b1 x.1 x.2.1 x.2.2) (l6, n7, n8)

noncomputable def Stream_RightFence (p0x0 : Fleetmake_Stream) : Option (FenceS × Fleetmake_Stream) :=
  Stream_RightFence_l1 p0x0.L p0x0.at_ (0 : Int)

/-- A copy of a list. -/
noncomputable def slices_Clone_Spot_Spot (p0x0 : List Spot) : Option (List Spot) :=
  app [] p0x0

noncomputable def Stream_Fence_j1 (l5 : List Int) (n6 : Int) (q7 : Str) (l8 : List Spot) : Option (FenceS × Fleetmake_Stream) :=
  some ((⟨q7, l8⟩ : FenceS), (⟨l5, n6⟩ : Fleetmake_Stream))

noncomputable def Stream_Fence_j2 (l10 : List Int) (n11 : Int) (q12 : Str) (l13 : List Spot) : Option (FenceS × Fleetmake_Stream) :=
  Stream_Fence_j1 l10 n11 q12 l13

noncomputable def Stream_Fence_j3 (v2 : FenceS × Fleetmake_Stream) (l15 : List Int) (n16 : Int) (l17 : List Spot) : Option (FenceS × Fleetmake_Stream) :=
  Stream_Fence_j2 l15 n16 v2.1.Key l17

noncomputable def Stream_Fence_j4 (v2 : FenceS × Fleetmake_Stream) (l20 : List Int) (n21 : Int) (l23 : List Spot) : Option (FenceS × Fleetmake_Stream) :=
  Stream_Fence_j3 v2 l20 n21 l23

noncomputable def Stream_Fence (p0x0 : Fleetmake_Stream) : Option (FenceS × Fleetmake_Stream) :=
  (Stream_RightFence p0x0).bind fun v2 =>
  (Stream_Flip v2.2 (8 : Int)).bind fun v4 =>
  if v4.1 = true then
    (Stream_Next v4.2 (4 : Int)).bind fun v9 =>
    if v9.1 = (0 : Int) then
      (Stream_Some v9.2 [([] : Str), ([65] : Str)]).bind fun v14 =>
      Stream_Fence_j2 v14.2.L v14.2.at_ v14.1 v2.1.Corners
    else
      if v9.1 = (1 : Int) then
        (Stream_Next v9.2 (3 : Int)).bind fun v18 =>
        (slc v2.1.Corners (0 : Int) v18.1).bind fun l19 =>
        Stream_Fence_j3 v2 v18.2.L v18.2.at_ l19
      else
        if v9.1 = (2 : Int) then
          (slices_Clone_Spot_Spot v2.1.Corners).bind fun v24 =>
          (Stream_Spot v9.2).bind fun v26 =>
          (app v24 [v26.1]).bind fun l27 =>
          Stream_Fence_j4 v2 v26.2.L v26.2.at_ l27
        else
          (Stream_Place v9.2).bind fun v29 =>
          (Stream_Place v29.2).bind fun v30 =>
          (Stream_Place v30.2).bind fun v31 =>
          (Stream_Place v31.2).bind fun v32 =>
          Stream_Fence_j4 v2 v32.2.L v32.2.at_ [v29.1, v30.1, v31.1, v32.1]
  else
    Stream_Fence_j1 v4.2.L v4.2.at_ v2.1.Key v2.1.Corners

noncomputable def base_Out_j1 (c1 : Bool) : Bool :=
  c1

noncomputable def base_Out (p0x0 : Int) (p1x0 : Int) (p2x0 : Int) : Bool :=
  base_Out_j1 ((decide (p0x0 < p1x0)) || (decide (p2x0 < p0x0)))

noncomputable def place_isSpot_j1 (c2 : Bool) : Bool :=
  c2

noncomputable def place_isSpot (p0x0 : Spot) : Bool :=
  place_isSpot_j1 ((!(base_Out p0x0.X (-10000 : Int) (10000 : Int))) && (!(base_Out p0x0.Y (-10000 : Int) (10000 : Int))))

noncomputable def place_Cell_b1 (p0x0 : Spot) (p1x0 : Int) (l8 : List Int) (n9 : Int) (n10 : Int) : Option (((List Int) × Int × Int) ⊕ (Str × Int)) :=
  if n10 < p1x0 then
    (quo (w64 (p0x0.X - (-16384 : Int))) (w64 (n9.tdiv (2 : Int)))).bind fun n12 =>
    (quo (w64 (p0x0.Y - (-16384 : Int))) (w64 (n9.tdiv (2 : Int)))).bind fun n13 =>
    (app l8 [IntKind.u8.wrap ((IntKind.u8.wrap ((48 : Int) + (IntKind.u8.wrap (n12.tmod (2 : Int))))) + (IntKind.u8.wrap ((2 : Int) * (IntKind.u8.wrap (n13.tmod (2 : Int))))))]).bind fun l14 =>
    some (.inl (l14, w64 (n9.tdiv (2 : Int)), w64 (n10 + (1 : Int))))
  else
    Option.map .inr (some (strB l8, (0 : Int)))

noncomputable def place_Cell_l1 (p0x0 : Spot) (p1x0 : Int) (l8 : List Int) (n9 : Int) (n10 : Int) : Option (Str × Int) :=
  iter (fun x : (List Int) × Int × Int => place_Cell_b1 p0x0 p1x0 x.1 x.2.1 x.2.2) (l8, n9, n10)

noncomputable def place_Cell_j1 (p0x0 : Spot) (p1x0 : Int) (c2 : Bool) : Option (Str × Int) :=
  if c2 = true then
    some (([] : Str), (1 : Int))
  else
    place_Cell_l1 p0x0 p1x0 [] (32768 : Int) (0 : Int)

noncomputable def place_Cell (p0x0 : Spot) (p1x0 : Int) : Option (Str × Int) :=
  place_Cell_j1 p0x0 p1x0 ((!(place_isSpot p0x0)) || (base_Out p1x0 (0 : Int) (15 : Int)))

noncomputable def place_cellBox_b1 (p0x0 : Str) (n7 : Int) (n8 : Int) (n9 : Int) (n10 : Int) : Option ((Int × Int × Int × Int) ⊕ (Spot × Int)) :=
  if n10 < (p0x0.length : Int) then
    (idx p0x0 n10).bind fun c11 =>
    (idx p0x0 n10).bind fun c12 =>
    some (.inl (w64 (n7 + (w64 (((w64 (IntKind.u8.wrap ((c11.toNat : Int) - (48 : Int)))).tmod (2 : Int)) * (w64 (n9.tdiv (2 : Int)))))), w64 (n8 + (w64 ((w64 ((w64 (IntKind.u8.wrap ((c12.toNat : Int) - (48 : Int)))).tdiv (2 : Int))) * (w64 (n9.tdiv (2 : Int)))))), w64 (n9.tdiv (2 : Int)), w64 (n10 + (1 : Int))))
  else
    Option.map .inr (some ((⟨n7, n8⟩ : Spot), n9))

noncomputable def place_cellBox_l1 (p0x0 : Str) (n7 : Int) (n8 : Int) (n9 : Int) (n10 : Int) : Option (Spot × Int) :=
  iter (fun x : Int × Int × Int × Int => place_cellBox_b1 p0x0 x.1 x.2.1 x.2.2.1 x.2.2.2) (n7, n8, n9, n10)

noncomputable def place_cellBox (p0x0 : Str) : Option (Spot × Int) :=
  place_cellBox_l1 p0x0 (-16384 : Int) (-16384 : Int) (32768 : Int) (0 : Int)

noncomputable def place_CellBox_j1 (p0x0 : Str) (c2 : Bool) : Option (Spot × Int × Int) :=
  if c2 = true then
    some ((⟨(0 : Int), (0 : Int)⟩ : Spot), (0 : Int), (9 : Int))
  else
    (place_cellBox p0x0).bind fun v4 =>
    some (v4.1, v4.2, (0 : Int))

noncomputable def place_CellBox (p0x0 : Str) : Option (Spot × Int × Int) :=
  if (15 : Int) < (p0x0.length : Int) then
    place_CellBox_j1 p0x0 true
  else
    (trimO p0x0 ([48, 49, 50, 51] : Str)).bind fun v3 =>
    place_CellBox_j1 p0x0 (decide (v3 ≠ ([] : Str)))

noncomputable def base_Key_j2 (n5 : Int) (c7 : Bool) : Option (Int ⊕ Bool) :=
  if c7 = true then
    Option.map .inr (some false)
  else
    some (.inl (w64 (n5 + (1 : Int))))

noncomputable def base_Key_b1 (p0x0 : Str) (n5 : Int) : Option (Int ⊕ Bool) :=
  if n5 < (p0x0.length : Int) then
    (idx p0x0 n5).bind fun c6 =>
    base_Key_j2 n5 (if (97 : Int) ≤ (c6.toNat : Int) then if (c6.toNat : Int) ≤ (122 : Int) then !true else if (48 : Int) ≤ (c6.toNat : Int) then if (c6.toNat : Int) ≤ (57 : Int) then !true else if (c6.toNat : Int) = (45 : Int) then !true else decide (¬ ((c6.toNat : Int) = (95 : Int))) else if (c6.toNat : Int) = (45 : Int) then !true else decide (¬ ((c6.toNat : Int) = (95 : Int))) else if (48 : Int) ≤ (c6.toNat : Int) then if (c6.toNat : Int) ≤ (57 : Int) then !true else if (c6.toNat : Int) = (45 : Int) then !true else decide (¬ ((c6.toNat : Int) = (95 : Int))) else if (c6.toNat : Int) = (45 : Int) then !true else decide (¬ ((c6.toNat : Int) = (95 : Int))))
  else
    Option.map .inr (some true)

noncomputable def base_Key_l1 (p0x0 : Str) (n5 : Int) : Option Bool :=
  iter (fun x : Int => base_Key_b1 p0x0 x) n5

noncomputable def base_Key_j1 (p0x0 : Str) (c1 : Bool) : Option Bool :=
  if c1 = true then
    some false
  else
    base_Key_l1 p0x0 (0 : Int)

noncomputable def base_Key (p0x0 : Str) : Option Bool :=
  if p0x0 = ([] : Str) then
    base_Key_j1 p0x0 true
  else
    if (40 : Int) < (p0x0.length : Int) then
      base_Key_j1 p0x0 true
    else
      (idx p0x0 (0 : Int)).bind fun c2 =>
      if (c2.toNat : Int) < (97 : Int) then
        base_Key_j1 p0x0 true
      else
        (idx p0x0 (0 : Int)).bind fun c3 =>
        base_Key_j1 p0x0 (decide ((122 : Int) < (c3.toNat : Int)))

noncomputable def place_side (p0x0 : Spot) (p1x0 : Spot) (p2x0 : Spot) : Int :=
  w64 ((w64 ((w64 (p1x0.X - p0x0.X)) * (w64 (p2x0.Y - p0x0.Y)))) - (w64 ((w64 (p1x0.Y - p0x0.Y)) * (w64 (p2x0.X - p0x0.X)))))

noncomputable def place_on_j1 (c4 : Bool) : Bool :=
  c4

noncomputable def place_on (p0x0 : Spot) (p1x0 : Spot) (p2x0 : Spot) : Bool :=
  place_on_j1 ((decide ((place_side p0x0 p1x0 p2x0) = (0 : Int))) && ((decide ((min p0x0.X p1x0.X) ≤ p2x0.X)) && ((decide (p2x0.X ≤ (max p0x0.X p1x0.X))) && ((decide ((min p0x0.Y p1x0.Y) ≤ p2x0.Y)) && (decide (p2x0.Y ≤ (max p0x0.Y p1x0.Y)))))))

noncomputable def cmp_isNaN_int (p0x0 : Int) : Bool :=
  decide (p0x0 ≠ p0x0)

noncomputable def cmp_Compare_int (p0x0 : Int) (p1x0 : Int) : Int :=
  if (cmp_isNaN_int p0x0) = true then
    if (cmp_isNaN_int p1x0) = true then
      (0 : Int)
    else
      (-1 : Int)
  else
    if (cmp_isNaN_int p1x0) = true then
      (1 : Int)
    else
      if p0x0 < p1x0 then
        (-1 : Int)
      else
        if p1x0 < p0x0 then
          (1 : Int)
        else
          (0 : Int)

noncomputable def place_meets_j2 (c6 : Bool) : Bool :=
  c6

noncomputable def place_meets_j1 (p0x0 : Spot) (p1x0 : Spot) (p2x0 : Spot) (p3x0 : Spot) (c5 : Bool) : Bool :=
  if c5 = true then
    true
  else
    place_meets_j2 ((decide ((w64 ((cmp_Compare_int (place_side p0x0 p1x0 p2x0) (0 : Int)) * (cmp_Compare_int (place_side p0x0 p1x0 p3x0) (0 : Int)))) < (0 : Int))) && (decide ((w64 ((cmp_Compare_int (place_side p2x0 p3x0 p0x0) (0 : Int)) * (cmp_Compare_int (place_side p2x0 p3x0 p1x0) (0 : Int)))) < (0 : Int))))

noncomputable def place_meets (p0x0 : Spot) (p1x0 : Spot) (p2x0 : Spot) (p3x0 : Spot) : Bool :=
  place_meets_j1 p0x0 p1x0 p2x0 p3x0 ((place_on p0x0 p1x0 p2x0) || ((place_on p0x0 p1x0 p3x0) || ((place_on p2x0 p3x0 p0x0) || (place_on p2x0 p3x0 p1x0))))

noncomputable def place_crossed_j3 (n9 : Int) (c18 : Bool) : Option (Int ⊕ (Int ⊕ Bool)) :=
  if c18 = true then
    Option.map .inr (Option.map .inr (some true))
  else
    some (.inl (w64 (n9 + (1 : Int))))

noncomputable def place_crossed_j2 (n2 : Int) (v3 : Spot) (v6 : Spot) (n9 : Int) (v10 : Spot) (v12 : Spot) (n15 : Int) (c17 : Bool) : Option (Int ⊕ (Int ⊕ Bool)) :=
  if c17 = true then
    Option.map .inr (Option.map .inr (some true))
  else
    place_crossed_j3 n9 ((decide (n15 = n2)) && ((place_on v3 v6 v10) || (place_on v10 v12 v6)))

noncomputable def place_crossed_j1 (n2 : Int) (v3 : Spot) (v6 : Spot) (n9 : Int) (v10 : Spot) (v12 : Spot) (n15 : Int) (c16 : Bool) : Option (Int ⊕ (Int ⊕ Bool)) :=
  if c16 = true then
    Option.map .inr (Option.map .inr (some true))
  else
    place_crossed_j2 n2 v3 v6 n9 v10 v12 n15 ((decide (n9 = (w64 (n2 + (1 : Int))))) && ((place_on v3 v6 v12) || (place_on v10 v12 v3)))

noncomputable def place_crossed_b2 (p0x0 : List Spot) (n2 : Int) (v3 : Spot) (v6 : Spot) (n9 : Int) : Option (Int ⊕ (Int ⊕ Bool)) :=
  if n9 < (p0x0.length : Int) then
    (idx p0x0 n9).bind fun v10 =>
    (rem (w64 (n9 + (1 : Int))) (p0x0.length : Int)).bind fun n11 =>
    (idx p0x0 n11).bind fun v12 =>
    (rem (w64 (n9 + (1 : Int))) (p0x0.length : Int)).bind fun n15 =>
    place_crossed_j1 n2 v3 v6 n9 v10 v12 n15 ((decide (¬ (n9 = (w64 (n2 + (1 : Int)))))) && ((decide (¬ (n15 = n2))) && (place_meets v3 v6 v10 v12)))
  else
    Option.map .inr (some (.inl (w64 (n2 + (1 : Int)))))

noncomputable def place_crossed_l2 (p0x0 : List Spot) (n2 : Int) (v3 : Spot) (v6 : Spot) (n9 : Int) : Option (Int ⊕ Bool) :=
  iter (fun x : Int => place_crossed_b2 p0x0 n2 v3 v6 x) n9

noncomputable def place_crossed_b1 (p0x0 : List Spot) (n2 : Int) : Option (Int ⊕ Bool) :=
  if n2 < (p0x0.length : Int) then
    (idx p0x0 n2).bind fun v3 =>
    (rem (w64 (n2 + (1 : Int))) (p0x0.length : Int)).bind fun n5 =>
    (idx p0x0 n5).bind fun v6 =>
    place_crossed_l2 p0x0 n2 v3 v6 (w64 (n2 + (1 : Int)))
  else
    Option.map .inr (some false)

noncomputable def place_crossed_l1 (p0x0 : List Spot) (n2 : Int) : Option Bool :=
  iter (fun x : Int => place_crossed_b1 p0x0 x) n2

noncomputable def place_crossed (p0x0 : List Spot) : Option Bool :=
  place_crossed_l1 p0x0 (0 : Int)

noncomputable def place_CheckFence_k1 (p0x0 : FenceS) : Option Int :=
  (place_crossed p0x0.Corners).bind fun v9 =>
  if v9 = true then
    some (13 : Int)
  else
    some (0 : Int)

noncomputable def place_CheckFence_b1 (p0x0 : FenceS) (n4 : Int) : Option (Int ⊕ Int) :=
  if n4 < (p0x0.Corners.length : Int) then
    (idx p0x0.Corners n4).bind fun v5 =>
    if (!(place_isSpot v5)) = true then
      Option.map .inr (some (1 : Int))
    else
      (slc p0x0.Corners (0 : Int) n4).bind fun l7 =>
      (slices_Contains_Spot_Spot l7 v5).bind fun v8 =>
      if v8 = true then
        Option.map .inr (some (6 : Int))
      else
        some (.inl (w64 (n4 + (1 : Int))))
  else
    Option.map .inr (place_CheckFence_k1 p0x0)

noncomputable def place_CheckFence_l1 (p0x0 : FenceS) (n4 : Int) : Option Int :=
  iter (fun x : Int => place_CheckFence_b1 p0x0 x) n4

noncomputable def place_CheckFence (p0x0 : FenceS) : Option Int :=
  (base_Key p0x0.Key).bind fun v2 =>
  if (!v2) = true then
    some (5 : Int)
  else
    if (p0x0.Corners.length : Int) < (3 : Int) then
      some (3 : Int)
    else
      if (200 : Int) < (p0x0.Corners.length : Int) then
        some (2 : Int)
      else
        place_CheckFence_l1 p0x0 (0 : Int)

noncomputable def place_where_1x (p0x0 : Spot) (p1x0 : Spot) (p2x0 : Spot) : Bool :=
  (place_on p0x0 p1x0 p2x0)

noncomputable def place_edges_b1 (p0x0 : List Spot) (fnb : Spot → Spot → Option Bool) (n2 : Int) : Option (Int ⊕ Bool) :=
  if n2 < (p0x0.length : Int) then
    (idx p0x0 n2).bind fun v3 =>
    (rem (w64 (n2 + (1 : Int))) (p0x0.length : Int)).bind fun n5 =>
    (idx p0x0 n5).bind fun v6 =>
    (fnb v3 v6).bind fun v7 =>
    if v7 = true then
      Option.map .inr (some true)
    else
      some (.inl (w64 (n2 + (1 : Int))))
  else
    Option.map .inr (some false)

noncomputable def place_edges_l1 (p0x0 : List Spot) (fnb : Spot → Spot → Option Bool) (n2 : Int) : Option Bool :=
  iter (fun x : Int => place_edges_b1 p0x0 fnb x) n2

noncomputable def place_edges (p0x0 : List Spot) (fnb : Spot → Spot → Option Bool) : Option Bool :=
  place_edges_l1 p0x0 fnb (0 : Int)

noncomputable def place_where_2x_j3 (c8 : Bool) : Bool × Bool :=
  (false, c8)

noncomputable def place_where_2x_j2 (p3x0 : Bool) (c7 : Bool) : Bool × Bool :=
  if c7 = true then
    place_where_2x_j3 (!p3x0)
  else
    place_where_2x_j3 p3x0

noncomputable def place_where_2x_j1 (p2x0 : Spot) (p3x0 : Bool) (n3 : Int) (n4 : Int) (n5 : Int) (n6 : Int) : Bool × Bool :=
  place_where_2x_j2 p3x0 ((decide (n4 ≤ p2x0.Y)) && ((decide (p2x0.Y < n6)) && (decide ((0 : Int) < (place_side (⟨n3, n4⟩ : Spot) (⟨n5, n6⟩ : Spot) p2x0)))))

noncomputable def place_where_2x (p0x0 : Spot) (p1x0 : Spot) (p2x0 : Spot) (p3x0 : Bool) : Bool × Bool :=
  if p1x0.Y < p0x0.Y then
    place_where_2x_j1 p2x0 p3x0 p1x0.X p1x0.Y p0x0.X p0x0.Y
  else
    place_where_2x_j1 p2x0 p3x0 p0x0.X p0x0.Y p1x0.X p1x0.Y

noncomputable def place_edges_f1x_place_where_2x_b1 (p0x0 : List Spot) (p2x0 : Spot) (c3 : Bool) (n4 : Int) : Option ((Bool × Int) ⊕ (Bool × Bool)) :=
  if n4 < (p0x0.length : Int) then
    (idx p0x0 n4).bind fun v5 =>
    (rem (w64 (n4 + (1 : Int))) (p0x0.length : Int)).bind fun n7 =>
    (idx p0x0 n7).bind fun v8 =>
    if ((place_where_2x v5 v8 p2x0 c3).1) = true then
      Option.map .inr (some (true, (place_where_2x v5 v8 p2x0 c3).2))
    else
      some (.inl ((place_where_2x v5 v8 p2x0 c3).2, w64 (n4 + (1 : Int))))
  else
    Option.map .inr (some (false, c3))

noncomputable def place_edges_f1x_place_where_2x_l1 (p0x0 : List Spot) (p2x0 : Spot) (c3 : Bool) (n4 : Int) : Option (Bool × Bool) :=
  iter (fun x : Bool × Int => place_edges_f1x_place_where_2x_b1 p0x0 p2x0 x.1 x.2) (c3, n4)

noncomputable def place_edges_f1x_place_where_2x (p0x0 : List Spot) (p2x0 : Spot) (p3x0 : Bool) : Option (Bool × Bool) :=
  place_edges_f1x_place_where_2x_l1 p0x0 p2x0 p3x0 (0 : Int)

noncomputable def place_where (p0x0 : List Spot) (p1x0 : Spot) : Option Int :=
  (place_edges p0x0 (fun y0 y1 => some (place_where_1x y0 y1 p1x0))).bind fun v2 =>
  if v2 = true then
    some (1 : Int)
  else
    (place_edges_f1x_place_where_2x p0x0 p1x0 false).bind fun v4 =>
    if v4.2 = true then
      some (2 : Int)
    else
      some (0 : Int)

noncomputable def place_touch_1x_1x (p0x0 : Spot) (p1x0 : Spot) (p2x0 : Spot) (p3x0 : Spot) : Bool :=
  (place_meets p2x0 p3x0 p0x0 p1x0)

noncomputable def place_touch_1x (p0x0 : Spot) (p1x0 : Spot) (p2x0 : List Spot) : Option Bool :=
  (place_edges p2x0 (fun y0 y1 => some (place_touch_1x_1x y0 y1 p0x0 p1x0))).bind fun v3 =>
  some v3

noncomputable def place_touch_j1 (c2 : Bool) : Option Bool :=
  some c2

noncomputable def place_touch (p0x0 : List Spot) (p1x0 : List Spot) : Option Bool :=
  (idx p1x0 (0 : Int)).bind fun v3 =>
  (place_where p0x0 v3).bind fun v4 =>
  if v4 ≠ (0 : Int) then
    place_touch_j1 true
  else
    (idx p0x0 (0 : Int)).bind fun v5 =>
    (place_where p1x0 v5).bind fun v6 =>
    if v6 ≠ (0 : Int) then
      place_touch_j1 true
    else
      (place_edges p0x0 (fun y0 y1 => place_touch_1x y0 y1 p1x0)).bind fun v7 =>
      place_touch_j1 v7

noncomputable def place_cells_b1 (self : (List Spot) → Str → Int → (List Str) → Option (List Str)) (p0x0 : List Spot) (p1x0 : Str) (p2x0 : Int) (l11 : List Str) (n12 : Int) : Option (((List Str) × Int) ⊕ (List Str)) :=
  if n12 < ([([48] : Str), ([49] : Str), ([50] : Str), ([51] : Str)].length : Int) then
    (idx [([48] : Str), ([49] : Str), ([50] : Str), ([51] : Str)] n12).bind fun v13 =>
    (catO p1x0 v13).bind fun q14 =>
    (self p0x0 q14 p2x0 l11).bind fun v15 =>
    some (.inl (v15, w64 (n12 + (1 : Int))))
  else
    Option.map .inr (some l11)

noncomputable def place_cells_l1 (self : (List Spot) → Str → Int → (List Str) → Option (List Str)) (p0x0 : List Spot) (p1x0 : Str) (p2x0 : Int) (l11 : List Str) (n12 : Int) : Option (List Str) :=
  iter (fun x : (List Str) × Int => place_cells_b1 self p0x0 p1x0 p2x0 x.1 x.2) (l11, n12)

noncomputable def place_cells_j1 (self : (List Spot) → Str → Int → (List Str) → Option (List Str)) (p0x0 : List Spot) (p1x0 : Str) (p2x0 : Int) (p3x0 : List Str) (c3 : Bool) : Option (List Str) :=
  if c3 = true then
    some p3x0
  else
    if (p1x0.length : Int) = p2x0 then
      (app p3x0 [p1x0]).bind fun l5 =>
      some l5
    else
      place_cells_l1 self p0x0 p1x0 p2x0 p3x0 (0 : Int)

noncomputable def place_cells_bd (self : (List Spot) → Str → Int → (List Str) → Option (List Str)) (p0x0 : List Spot) (p1x0 : Str) (p2x0 : Int) (p3x0 : List Str) : Option (List Str) :=
  (place_cellBox p1x0).bind fun v1 =>
  if (1000 : Int) < (p3x0.length : Int) then
    place_cells_j1 self p0x0 p1x0 p2x0 p3x0 true
  else
    (place_touch p0x0 [v1.1, (⟨w64 (v1.1.X + v1.2), v1.1.Y⟩ : Spot), (⟨w64 (v1.1.X + v1.2), w64 (v1.1.Y + v1.2)⟩ : Spot), (⟨v1.1.X, w64 (v1.1.Y + v1.2)⟩ : Spot)]).bind fun v4 =>
    place_cells_j1 self p0x0 p1x0 p2x0 p3x0 (!v4)

/-- The function, to some depth. -/
noncomputable def place_cells_r : Nat → (List Spot) → Str → Int → (List Str) → Option (List Str)
  | 0 => fun _ _ _ _ => none
  | k + 1 => place_cells_bd (place_cells_r k)

noncomputable def place_cells (p0x0 : List Spot) (p1x0 : Str) (p2x0 : Int) (p3x0 : List Str) : Option (List Str) :=
  place_cells_r depth p0x0 p1x0 p2x0 p3x0

noncomputable def place_cells_n3x_b1 (p0x0 : List Spot) (p1x0 : Str) (p2x0 : Int) (l12 : List Str) (n13 : Int) : Option (((List Str) × Int) ⊕ (List Str)) :=
  if n13 < ([([48] : Str), ([49] : Str), ([50] : Str), ([51] : Str)].length : Int) then
    (idx [([48] : Str), ([49] : Str), ([50] : Str), ([51] : Str)] n13).bind fun v15 =>
    (catO p1x0 v15).bind fun q16 =>
    (place_cells p0x0 q16 p2x0 l12).bind fun v17 =>
    some (.inl (v17, w64 (n13 + (1 : Int))))
  else
    Option.map .inr (some l12)

noncomputable def place_cells_n3x_l1 (p0x0 : List Spot) (p1x0 : Str) (p2x0 : Int) (l12 : List Str) (n13 : Int) : Option (List Str) :=
  iter (fun x : (List Str) × Int => place_cells_n3x_b1 p0x0 p1x0 p2x0 x.1 x.2) (l12, n13)

noncomputable def place_cells_n3x_j1 (p0x0 : List Spot) (p1x0 : Str) (p2x0 : Int) (c3 : Bool) : Option (List Str) :=
  if c3 = true then
    some []
  else
    if (p1x0.length : Int) = p2x0 then
      (app ([] : List Str) [p1x0]).bind fun l6 =>
      some l6
    else
      place_cells_n3x_l1 p0x0 p1x0 p2x0 [] (0 : Int)

noncomputable def place_cells_n3x (p0x0 : List Spot) (p1x0 : Str) (p2x0 : Int) : Option (List Str) :=
  (place_cellBox p1x0).bind fun v1 =>
  if (1000 : Int) < (0 : Int) then
    place_cells_n3x_j1 p0x0 p1x0 p2x0 true
  else
    (place_touch p0x0 [v1.1, (⟨w64 (v1.1.X + v1.2), v1.1.Y⟩ : Spot), (⟨w64 (v1.1.X + v1.2), w64 (v1.1.Y + v1.2)⟩ : Spot), (⟨v1.1.X, w64 (v1.1.Y + v1.2)⟩ : Spot)]).bind fun v4 =>
    place_cells_n3x_j1 p0x0 p1x0 p2x0 (!v4)

noncomputable def place_Cells (p0x0 : FenceS) (p1x0 : Int) : Option ((List Str) × Int) :=
  (place_CheckFence p0x0).bind fun v2 =>
  if v2 ≠ (0 : Int) then
    some ([], v2)
  else
    if (base_Out p1x0 (0 : Int) (15 : Int)) = true then
      some ([], (1 : Int))
    else
      (place_cells_n3x p0x0.Corners ([] : Str) p1x0).bind fun v5 =>
      if (1000 : Int) < (v5.length : Int) then
        some ([], (2 : Int))
      else
        some (v5, (0 : Int))

noncomputable def L_when (p0x0 : Bool) (p1x0 : Int) : Int :=
  if p0x0 = true then
    p1x0
  else
    (0 : Int)

noncomputable def L_errs_b1 (p0x0 : List Int) (n2 : Int) : Option (Int ⊕ Int) :=
  if n2 < (p0x0.length : Int) then
    (idx p0x0 n2).bind fun v3 =>
    if v3 ≠ (0 : Int) then
      Option.map .inr (some v3)
    else
      some (.inl (w64 (n2 + (1 : Int))))
  else
    Option.map .inr (some (0 : Int))

noncomputable def L_errs_l1 (p0x0 : List Int) (n2 : Int) : Option Int :=
  iter (fun x : Int => L_errs_b1 p0x0 x) n2

noncomputable def L_errs (p0x0 : List Int) : Option Int :=
  L_errs_l1 p0x0 (0 : Int)

noncomputable def Q_only_b1 (p0x0 : Str) (p1x0 : Str) (n2 : Int) : Option (Int ⊕ Bool) :=
  if n2 < (p0x0.length : Int) then
    (idx p0x0 n2).bind fun c3 =>
    if (indexByteI p1x0 (c3.toNat : Int)) < (0 : Int) then
      Option.map .inr (some false)
    else
      some (.inl (w64 (n2 + (1 : Int))))
  else
    Option.map .inr (some true)

noncomputable def Q_only_l1 (p0x0 : Str) (p1x0 : Str) (n2 : Int) : Option Bool :=
  iter (fun x : Int => Q_only_b1 p0x0 p1x0 x) n2

noncomputable def Q_only (p0x0 : Str) (p1x0 : Str) : Option Bool :=
  Q_only_l1 p0x0 p1x0 (0 : Int)

noncomputable def Q_CellFault_j1 (c1 : Bool) : Option Int :=
  if c1 = true then
    some (9 : Int)
  else
    some (0 : Int)

noncomputable def Q_CellFault (p0x0 : Str) : Option Int :=
  if (15 : Int) < (p0x0.length : Int) then
    Q_CellFault_j1 true
  else
    (Q_only p0x0 ([48, 49, 50, 51] : Str)).bind fun v2 =>
    Q_CellFault_j1 (!v2)

noncomputable def Q_Key_j1 (c1 : Bool) : Option Bool :=
  some c1

noncomputable def Q_Key (p0x0 : Str) : Option Bool :=
  if (Q_in (p0x0.length : Int) (1 : Int) (40 : Int)) = true then
    (slc p0x0 (0 : Int) (1 : Int)).bind fun l2 =>
    (Q_only l2 ([97, 98, 99, 100, 101, 102, 103, 104, 105, 106, 107, 108, 109, 110, 111, 112, 113, 114, 115, 116, 117, 118, 119, 120, 121, 122] : Str)).bind fun v3 =>
    if v3 = true then
      (Q_only p0x0 ([97, 98, 99, 100, 101, 102, 103, 104, 105, 106, 107, 108, 109, 110, 111, 112, 113, 114, 115, 116, 117, 118, 119, 120, 121, 122, 48, 49, 50, 51, 52, 53, 54, 55, 56, 57, 45, 95] : Str)).bind fun v4 =>
      Q_Key_j1 v4
    else
      Q_Key_j1 false
  else
    Q_Key_j1 false

noncomputable def Q_FenceFault (p0x0 : FenceS) : Option Int :=
  (Q_Key p0x0.Key).bind fun v2 =>
  if (!v2) = true then
    some (5 : Int)
  else
    (Q_CornersFault p0x0.Corners).bind fun v3 =>
    some v3

noncomputable def Q_CellOf_b1 (p0x0 : Spot) (p1x0 : Int) (q4 : Str) (n5 : Int) : Option ((Str × Int) ⊕ Str) :=
  if n5 < p1x0 then
    (shrO .i64 (w64 (p0x0.X + (16384 : Int))) (w64 ((14 : Int) - n5))).bind fun n6 =>
    (shrO .i64 (w64 (p0x0.Y + (16384 : Int))) (w64 ((14 : Int) - n5))).bind fun n7 =>
    (itoaO (w64 ((w64 ((2 : Int) * (andI .i64 n7 (1 : Int)))) + (andI .i64 n6 (1 : Int))))).bind fun v8 =>
    (catO q4 v8).bind fun q9 =>
    some (.inl (q9, w64 (n5 + (1 : Int))))
  else
    Option.map .inr (some q4)

noncomputable def Q_CellOf_l1 (p0x0 : Spot) (p1x0 : Int) (q4 : Str) (n5 : Int) : Option Str :=
  iter (fun x : Str × Int => Q_CellOf_b1 p0x0 p1x0 x.1 x.2) (q4, n5)

noncomputable def Q_CellOf (p0x0 : Spot) (p1x0 : Int) : Option Str :=
  Q_CellOf_l1 p0x0 p1x0 ([] : Str) (0 : Int)

noncomputable def Q_CellBoxOf_j1 (n7 : Int) (n9 : Int) (n10 : Int) (n12 : Int) (n13 : Int) : Option ((Int × Int × Int × Int) ⊕ (Spot × Int)) :=
  some (.inl (w64 (n7 + n12), n13, w64 (n9.tdiv (2 : Int)), w64 (n10 + (1 : Int))))

noncomputable def Q_CellBoxOf_b1 (p0x0 : Str) (n7 : Int) (n8 : Int) (n9 : Int) (n10 : Int) : Option ((Int × Int × Int × Int) ⊕ (Spot × Int)) :=
  if n10 < ((bytesI p0x0).length : Int) then
    (idx (bytesI p0x0) n10).bind fun v11 =>
    (rem (w64 ((w64 (n9.tdiv (2 : Int))) * (w64 (IntKind.u8.wrap (v11 - (48 : Int)))))) (w64 ((2 : Int) * (w64 (n9.tdiv (2 : Int)))))).bind fun n12 =>
    if (50 : Int) ≤ v11 then
      Q_CellBoxOf_j1 n7 n9 n10 n12 (w64 (n8 + (w64 (n9.tdiv (2 : Int)))))
    else
      Q_CellBoxOf_j1 n7 n9 n10 n12 n8
  else
    Option.map .inr (some ((⟨n7, n8⟩ : Spot), n9))

noncomputable def Q_CellBoxOf_l1 (p0x0 : Str) (n7 : Int) (n8 : Int) (n9 : Int) (n10 : Int) : Option (Spot × Int) :=
  iter (fun x : Int × Int × Int × Int => Q_CellBoxOf_b1 p0x0 x.1 x.2.1 x.2.2.1 x.2.2.2) (n7, n8, n9, n10)

noncomputable def Q_CellBoxOf (p0x0 : Str) : Option (Spot × Int) :=
  Q_CellBoxOf_l1 p0x0 (-16384 : Int) (-16384 : Int) (32768 : Int) (0 : Int)

noncomputable def Q_WhereOf_j2 (n5 : Int) (n10 : Int) : Option ((Int × Int) ⊕ Int) :=
  some (.inl (n10, w64 (n5 + (1 : Int))))

noncomputable def Q_WhereOf_j4 (n5 : Int) (n12 : Int) : Option ((Int × Int) ⊕ Int) :=
  Q_WhereOf_j2 n5 n12

noncomputable def Q_WhereOf_j3 (n4 : Int) (n5 : Int) (c11 : Bool) : Option ((Int × Int) ⊕ Int) :=
  if c11 = true then
    Q_WhereOf_j4 n5 (w64 (n4 - (1 : Int)))
  else
    Q_WhereOf_j4 n5 n4

noncomputable def Q_WhereOf_j1 (p1x0 : Spot) (n4 : Int) (n5 : Int) (v6 : Spot × Spot) (c9 : Bool) : Option ((Int × Int) ⊕ Int) :=
  if c9 = true then
    Q_WhereOf_j2 n5 (w64 (n4 + (1 : Int)))
  else
    Q_WhereOf_j3 n4 n5 ((decide (p1x0.Y < v6.1.Y)) && ((decide (v6.2.Y ≤ p1x0.Y)) && (decide ((Q_side v6.1 v6.2 p1x0) < (0 : Int)))))

noncomputable def Q_WhereOf_k5 (n4 : Int) : Option Int :=
  if n4 ≠ (0 : Int) then
    some (2 : Int)
  else
    some (0 : Int)

noncomputable def Q_WhereOf_b1 (p0x0 : List Spot) (p1x0 : Spot) (n4 : Int) (n5 : Int) : Option ((Int × Int) ⊕ Int) :=
  if n5 < (p0x0.length : Int) then
    (Q_edge p0x0 n5).bind fun v6 =>
    if (Q_onWay v6.1 v6.2 p1x0) = true then
      Option.map .inr (some (1 : Int))
    else
      Q_WhereOf_j1 p1x0 n4 n5 v6 ((decide (v6.1.Y ≤ p1x0.Y)) && ((decide (p1x0.Y < v6.2.Y)) && (decide ((0 : Int) < (Q_side v6.1 v6.2 p1x0)))))
  else
    Option.map .inr (Q_WhereOf_k5 n4)

noncomputable def Q_WhereOf_l1 (p0x0 : List Spot) (p1x0 : Spot) (n4 : Int) (n5 : Int) : Option Int :=
  iter (fun x : Int × Int => Q_WhereOf_b1 p0x0 p1x0 x.1 x.2) (n4, n5)

noncomputable def Q_WhereOf (p0x0 : List Spot) (p1x0 : Spot) : Option Int :=
  Q_WhereOf_l1 p0x0 p1x0 (0 : Int) (0 : Int)

noncomputable def Q_MeetOf_b2 (p1x0 : List Spot) (n2 : Int) (v3 : Spot × Spot) (n7 : Int) : Option (Int ⊕ (Int ⊕ Bool)) :=
  if n7 < (p1x0.length : Int) then
    (Q_edge p1x0 n7).bind fun v8 =>
    if (Q_touches v3.1 v3.2 v8.1 v8.2) = true then
      Option.map .inr (Option.map .inr (some true))
    else
      some (.inl (w64 (n7 + (1 : Int))))
  else
    Option.map .inr (some (.inl (w64 (n2 + (1 : Int)))))

noncomputable def Q_MeetOf_l2 (p1x0 : List Spot) (n2 : Int) (v3 : Spot × Spot) (n7 : Int) : Option (Int ⊕ Bool) :=
  iter (fun x : Int => Q_MeetOf_b2 p1x0 n2 v3 x) n7

noncomputable def Q_MeetOf_j1 (c11 : Bool) : Option Bool :=
  some c11

noncomputable def Q_MeetOf_k2 (p0x0 : List Spot) (p1x0 : List Spot) : Option Bool :=
  (idx p1x0 (0 : Int)).bind fun v12 =>
  (Q_WhereOf p0x0 v12).bind fun v13 =>
  if v13 ≠ (0 : Int) then
    Q_MeetOf_j1 true
  else
    (idx p0x0 (0 : Int)).bind fun v14 =>
    (Q_WhereOf p1x0 v14).bind fun v15 =>
    Q_MeetOf_j1 (decide (v15 ≠ (0 : Int)))

noncomputable def Q_MeetOf_b1 (p0x0 : List Spot) (p1x0 : List Spot) (n2 : Int) : Option (Int ⊕ Bool) :=
  if n2 < (p0x0.length : Int) then
    (Q_edge p0x0 n2).bind fun v3 =>
    Q_MeetOf_l2 p1x0 n2 v3 (0 : Int)
  else
    Option.map .inr (Q_MeetOf_k2 p0x0 p1x0)

noncomputable def Q_MeetOf_l1 (p0x0 : List Spot) (p1x0 : List Spot) (n2 : Int) : Option Bool :=
  iter (fun x : Int => Q_MeetOf_b1 p0x0 p1x0 x) n2

noncomputable def Q_MeetOf (p0x0 : List Spot) (p1x0 : List Spot) : Option Bool :=
  Q_MeetOf_l1 p0x0 p1x0 (0 : Int)

noncomputable def Q_CellsOf_j1 (n21 : Int) (l28 : List Str) : Option (((List Str) × Int) ⊕ (((List Str) × Int) ⊕ (((List Str) × Int) ⊕ ((List Str) × Int)))) :=
  some (.inl (l28, w64 (n21 + (1 : Int))))

noncomputable def Q_CellsOf_b3 (p0x0 : List Spot) (n13 : Int) (v15 : Str) (l20 : List Str) (n21 : Int) : Option (((List Str) × Int) ⊕ (((List Str) × Int) ⊕ (((List Str) × Int) ⊕ ((List Str) × Int)))) :=
  if n21 < ([([48] : Str), ([49] : Str), ([50] : Str), ([51] : Str)].length : Int) then
    (idx [([48] : Str), ([49] : Str), ([50] : Str), ([51] : Str)] n21).bind fun v22 =>
    (catO v15 v22).bind fun q23 =>
    (Q_CellBoxOf q23).bind fun v24 =>
    (Q_MeetOf [v24.1, (⟨w64 (v24.1.X + v24.2), v24.1.Y⟩ : Spot), (⟨w64 (v24.1.X + v24.2), w64 (v24.1.Y + v24.2)⟩ : Spot), (⟨v24.1.X, w64 (v24.1.Y + v24.2)⟩ : Spot)] p0x0).bind fun v26 =>
    if v26 = true then
      (catO v15 v22).bind fun q29 =>
      (app l20 [q29]).bind fun l30 =>
      Q_CellsOf_j1 n21 l30
    else
      Q_CellsOf_j1 n21 l20
  else
    Option.map .inr (some (.inl (l20, w64 (n13 + (1 : Int)))))

noncomputable def Q_CellsOf_l3 (p0x0 : List Spot) (n13 : Int) (v15 : Str) (l20 : List Str) (n21 : Int) : Option (((List Str) × Int) ⊕ (((List Str) × Int) ⊕ ((List Str) × Int))) :=
  iter (fun x : (List Str) × Int => Q_CellsOf_b3 p0x0 n13 v15 x.1 x.2) (l20, n21)

noncomputable def Q_CellsOf_k2 (n7 : Int) (l12 : List Str) : Option (((List Str) × Int) ⊕ ((List Str) × Int)) :=
  if (1000 : Int) < (l12.length : Int) then
    Option.map .inr (some ([], (2 : Int)))
  else
    some (.inl (l12, w64 (n7 + (1 : Int))))

noncomputable def Q_CellsOf_b2 (p0x0 : List Spot) (l6 : List Str) (n7 : Int) (l12 : List Str) (n13 : Int) : Option (((List Str) × Int) ⊕ (((List Str) × Int) ⊕ ((List Str) × Int))) :=
  if n13 < (l6.length : Int) then
    (idx l6 n13).bind fun v15 =>
    Q_CellsOf_l3 p0x0 n13 v15 l12 (0 : Int)
  else
    Option.map .inr (Q_CellsOf_k2 n7 l12)

noncomputable def Q_CellsOf_l2 (p0x0 : List Spot) (l6 : List Str) (n7 : Int) (l12 : List Str) (n13 : Int) : Option (((List Str) × Int) ⊕ ((List Str) × Int)) :=
  iter (fun x : (List Str) × Int => Q_CellsOf_b2 p0x0 l6 n7 x.1 x.2) (l12, n13)

noncomputable def Q_CellsOf_b1 (p0x0 : List Spot) (p1x0 : Int) (l6 : List Str) (n7 : Int) : Option (((List Str) × Int) ⊕ ((List Str) × Int)) :=
  if n7 < p1x0 then
    Q_CellsOf_l2 p0x0 l6 n7 [] (0 : Int)
  else
    Option.map .inr (some (l6, (0 : Int)))

noncomputable def Q_CellsOf_l1 (p0x0 : List Spot) (p1x0 : Int) (l6 : List Str) (n7 : Int) : Option ((List Str) × Int) :=
  iter (fun x : (List Str) × Int => Q_CellsOf_b1 p0x0 p1x0 x.1 x.2) (l6, n7)

noncomputable def Q_CellsOf (p0x0 : List Spot) (p1x0 : Int) : Option ((List Str) × Int) :=
  Q_CellsOf_l1 p0x0 p1x0 [([] : Str)] (0 : Int)

noncomputable def slices_Equal_string_string_b1 (p0x0 : List Str) (p1x0 : List Str) (n2 : Int) : Option (Int ⊕ Bool) :=
  if n2 < (p0x0.length : Int) then
    (idx p0x0 n2).bind fun v3 =>
    (idx p1x0 n2).bind fun v4 =>
    if v3 ≠ v4 then
      Option.map .inr (some false)
    else
      some (.inl (w64 (n2 + (1 : Int))))
  else
    Option.map .inr (some true)

noncomputable def slices_Equal_string_string_l1 (p0x0 : List Str) (p1x0 : List Str) (n2 : Int) : Option Bool :=
  iter (fun x : Int => slices_Equal_string_string_b1 p0x0 p1x0 x) n2

noncomputable def slices_Equal_string_string (p0x0 : List Str) (p1x0 : List Str) : Option Bool :=
  if (p0x0.length : Int) ≠ (p1x0.length : Int) then
    some false
  else
    slices_Equal_string_string_l1 p0x0 p1x0 (0 : Int)

noncomputable def L_placed_j1 (c2 : Bool) : Option Bool :=
  some c2

noncomputable def L_placed : Option Bool :=
  (place_Cell (⟨(0 : Int), (0 : Int)⟩ : Spot) (1 : Int)).bind fun v1 =>
  L_placed_j1 ((decide (v1.2 = (0 : Int))) && (decide (v1.1 = ([51] : Str))))

noncomputable def L_CellsNamed_j7 (c42 : Bool) : Option Bool :=
  some c42

noncomputable def L_CellsNamed_j6 (v16 : Str × Int) (v17 : Spot × Int × Int) (v19 : (List Str) × Int) (n21 : Int) (v24 : Int) (q30 : Str) (n32 : Int) (n33 : Int) (n34 : Int) (n36 : Int) (l38 : List Str) : Option Bool :=
  if v16.2 = n21 then
    if v16.1 = q30 then
      if v17.2.2 = v24 then
        if v17.1 = (⟨n32, n33⟩ : Spot) then
          if v17.2.1 = n34 then
            if v19.2 = n36 then
              (slices_Equal_string_string v19.1 l38).bind fun v43 =>
              if v43 = true then
                (L_placed).bind fun v44 =>
                L_CellsNamed_j7 v44
              else
                L_CellsNamed_j7 false
            else
              L_CellsNamed_j7 false
          else
            L_CellsNamed_j7 false
        else
          L_CellsNamed_j7 false
      else
        L_CellsNamed_j7 false
    else
      L_CellsNamed_j7 false
  else
    L_CellsNamed_j7 false

noncomputable def L_CellsNamed_j5 (v5 : FenceS × Fleetmake_Stream) (v15 : Int × Fleetmake_Stream) (v16 : Str × Int) (v17 : Spot × Int × Int) (v19 : (List Str) × Int) (n21 : Int) (v24 : Int) (n25 : Int) (q30 : Str) (n32 : Int) (n33 : Int) (n34 : Int) : Option Bool :=
  if n25 = (0 : Int) then
    (Q_CellsOf v5.1.Corners v15.1).bind fun v39 =>
    L_CellsNamed_j6 v16 v17 v19 n21 v24 q30 n32 n33 n34 v39.2 v39.1
  else
    L_CellsNamed_j6 v16 v17 v19 n21 v24 q30 n32 n33 n34 n25 []

noncomputable def L_CellsNamed_j4 (v4 : Str × Fleetmake_Stream) (v5 : FenceS × Fleetmake_Stream) (v15 : Int × Fleetmake_Stream) (v16 : Str × Int) (v17 : Spot × Int × Int) (v19 : (List Str) × Int) (n21 : Int) (v24 : Int) (n25 : Int) (q30 : Str) : Option Bool :=
  if v24 = (0 : Int) then
    (Q_CellBoxOf v4.1).bind fun v35 =>
    L_CellsNamed_j5 v5 v15 v16 v17 v19 n21 v24 n25 q30 v35.1.X v35.1.Y v35.2
  else
    L_CellsNamed_j5 v5 v15 v16 v17 v19 n21 v24 n25 q30 (0 : Int) (0 : Int) (0 : Int)

noncomputable def L_CellsNamed_j3 (v3 : Int × Fleetmake_Stream) (v4 : Str × Fleetmake_Stream) (v5 : FenceS × Fleetmake_Stream) (n11 : Int) (n12 : Int) (v15 : Int × Fleetmake_Stream) (v16 : Str × Int) (v17 : Spot × Int × Int) (v19 : (List Str) × Int) (n21 : Int) (v24 : Int) (n25 : Int) : Option Bool :=
  if n21 = (0 : Int) then
    (Q_CellOf (⟨n11, n12⟩ : Spot) v3.1).bind fun v31 =>
    L_CellsNamed_j4 v4 v5 v15 v16 v17 v19 n21 v24 n25 v31
  else
    L_CellsNamed_j4 v4 v5 v15 v16 v17 v19 n21 v24 n25 ([] : Str)

noncomputable def L_CellsNamed_j2 (v3 : Int × Fleetmake_Stream) (v4 : Str × Fleetmake_Stream) (v5 : FenceS × Fleetmake_Stream) (n11 : Int) (n12 : Int) (v15 : Int × Fleetmake_Stream) (v16 : Str × Int) (v17 : Spot × Int × Int) (v19 : (List Str) × Int) (n21 : Int) : Option Bool :=
  (Q_CellFault v4.1).bind fun v24 =>
  (Q_FenceFault v5.1).bind fun v26 =>
  if v15.1 < (0 : Int) then
    (L_errs [v26, (L_when true (1 : Int))]).bind fun v28 =>
    L_CellsNamed_j3 v3 v4 v5 n11 n12 v15 v16 v17 v19 n21 v24 v28
  else
    (L_errs [v26, (L_when (decide ((15 : Int) < v15.1)) (1 : Int))]).bind fun v27 =>
    L_CellsNamed_j3 v3 v4 v5 n11 n12 v15 v16 v17 v19 n21 v24 v27

noncomputable def L_CellsNamed_j1 (v3 : Int × Fleetmake_Stream) (v4 : Str × Fleetmake_Stream) (v5 : FenceS × Fleetmake_Stream) (l9 : List Int) (n10 : Int) (n11 : Int) (n12 : Int) : Option Bool :=
  (Stream_Pick (⟨l9, n10⟩ : Fleetmake_Stream) [(0 : Int), (1 : Int), (5 : Int), (10 : Int), (12 : Int), (13 : Int), (-1 : Int), (16 : Int)]).bind fun v15 =>
  (place_Cell (⟨n11, n12⟩ : Spot) v3.1).bind fun v16 =>
  (place_CellBox v4.1).bind fun v17 =>
  (place_Cells v5.1 v15.1).bind fun v19 =>
  if v3.1 < (0 : Int) then
    (L_errs [(Q_SpotFault (⟨n11, n12⟩ : Spot)), (L_when true (1 : Int))]).bind fun v23 =>
    L_CellsNamed_j2 v3 v4 v5 n11 n12 v15 v16 v17 v19 v23
  else
    (L_errs [(Q_SpotFault (⟨n11, n12⟩ : Spot)), (L_when (decide ((15 : Int) < v3.1)) (1 : Int))]).bind fun v22 =>
    L_CellsNamed_j2 v3 v4 v5 n11 n12 v15 v16 v17 v19 v22

noncomputable def L_CellsNamed (p0x0 : List Int) : Option Bool :=
  (Stream_Spot (⟨p0x0, (0 : Int)⟩ : Fleetmake_Stream)).bind fun v2 =>
  (Stream_Pick v2.2 [(0 : Int), (1 : Int), (2 : Int), (13 : Int), (14 : Int), (15 : Int), (-1 : Int), (16 : Int)]).bind fun v3 =>
  (Stream_CellKey v3.2).bind fun v4 =>
  (Stream_Fence v4.2).bind fun v5 =>
  (Stream_Flip v5.2 (3 : Int)).bind fun v8 =>
  if v8.1 = true then
    (Stream_Range v8.2 (-10000 : Int) (10000 : Int)).bind fun v13 =>
    (Stream_Range v13.2 (-10000 : Int) (10000 : Int)).bind fun v14 =>
    L_CellsNamed_j1 v3 v4 v5 v14.2.L v14.2.at_ v13.1 v14.1
  else
    L_CellsNamed_j1 v3 v4 v5 v8.2.L v8.2.at_ v2.1.X v2.1.Y

end Go.Beacon

