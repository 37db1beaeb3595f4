/- Plain functions that the Go functions compute, written by shal.py. -/
import Derived.Test.YtlhoigimdehaeaaGreatDoorCore
set_option linter.unusedVariables false
namespace Go.Beacon
open Go Go.Eng
structure Fleetmake_Stream where
  L : List Int
  at_ : Int
deriving DecidableEq, Inhabited
def Fleetmake_Stream.av (x : Fleetmake_Stream) : AV := .agg [.list 1 (x.L.map I), I x.at_]

structure Fix where
  Device : Str
  At : Int
  X : Int
  Y : Int
  Error : Int
deriving DecidableEq, Inhabited
def Fix.av (x : Fix) : AV := .agg [.str x.Device, I x.At, I x.X, I x.Y, I x.Error]

structure Spot where
  X : Int
  Y : Int
deriving DecidableEq, Inhabited
def Spot.av (x : Spot) : AV := .agg [I x.X, I x.Y]

noncomputable def Below_j1 (n2 : Int) : Option Int :=
  some n2

noncomputable def Below (p0x0 : Int) (p1x0 : Int) : Option Int :=
  if p1x0 < (1 : Int) then
    some (0 : Int)
  else
    (rem p0x0 p1x0).bind fun n1 =>
    if n1 < (0 : Int) then
      Below_j1 (w64 (n1 + p1x0))
    else
      Below_j1 n1

noncomputable def Stream_Next (p0x0 : Fleetmake_Stream) (p1x0 : Int) : Option (Int × Fleetmake_Stream) :=
  if (p0x0.L.length : Int) = (0 : Int) then
    (Below (w64 ((w64 (p0x0.at_ + (1 : Int))) * (7919 : Int))) p1x0).bind fun v1 =>
    some (v1, (⟨p0x0.L, w64 (p0x0.at_ + (1 : Int))⟩ : Fleetmake_Stream))
  else
    (rem (w64 ((w64 (p0x0.at_ + (1 : Int))) - (1 : Int))) (p0x0.L.length : Int)).bind fun n2 =>
    (quo (w64 ((w64 (p0x0.at_ + (1 : Int))) - (1 : Int))) (p0x0.L.length : Int)).bind fun n3 =>
    (idx p0x0.L n2).bind fun v4 =>
    (Below v4 (1073741824 : Int)).bind fun v5 =>
    (Below (w64 (v5 + (w64 (n3 * (w64 ((7919 : Int) + n2)))))) p1x0).bind fun v6 =>
    some (v6, (⟨p0x0.L, w64 (p0x0.at_ + (1 : Int))⟩ : Fleetmake_Stream))

noncomputable def Stream_Range (p0x0 : Fleetmake_Stream) (p1x0 : Int) (p2x0 : Int) : Option (Int × Fleetmake_Stream) :=
  if p2x0 < p1x0 then
    some (p1x0, p0x0)
  else
    (Stream_Next p0x0 (w64 ((w64 (p2x0 - p1x0)) + (1 : Int)))).bind fun v1 =>
    some (w64 (p1x0 + v1.1), v1.2)

noncomputable def Stream_Some (p0x0 : Fleetmake_Stream) (p1x0 : List Str) : Option (Str × Fleetmake_Stream) :=
  (Stream_Next p0x0 (p1x0.length : Int)).bind fun v1 =>
  (idx p1x0 v1.1).bind fun v2 =>
  some (v2, v1.2)

noncomputable def Stream_Pick (p0x0 : Fleetmake_Stream) (p1x0 : List Int) : Option (Int × Fleetmake_Stream) :=
  (Stream_Next p0x0 (p1x0.length : Int)).bind fun v1 =>
  (idx p1x0 v1.1).bind fun v2 =>
  some (v2, v1.2)

noncomputable def Q_sign (p0x0 : Int) : Int :=
  if p0x0 < (0 : Int) then
    (-1 : Int)
  else
    if (0 : Int) < p0x0 then
      (1 : Int)
    else
      (0 : Int)

noncomputable def Q_FixOrder (p0x0 : Fix) (p1x0 : Fix) : Int :=
  if p0x0.Device ≠ p1x0.Device then
    (Lib.compareBytes p0x0.Device p1x0.Device)
  else
    (Q_sign (w64 (p0x0.At - p1x0.At)))

noncomputable def slices_insertionSortCmpFunc_Fix_j1 (n4 : Int) (l7 : List Fix) (n8 : Int) (c9 : Bool) : Option (((List Fix) × Int) ⊕ (((List Fix) × Int) ⊕ (List Fix))) :=
  if c9 = true then
    (idx l7 (w64 (n8 - (1 : Int)))).bind fun v13 =>
    (idx l7 n8).bind fun v14 =>
    (idx l7 n8).bind fun v15 =>
    (idx (l7.set n8.toNat v13) (w64 (n8 - (1 : Int)))).bind fun v16 =>
    some (.inl ((l7.set n8.toNat v13).set (w64 (n8 - (1 : Int))).toNat v14, w64 (n8 - (1 : Int))))
  else
    Option.map .inr (some (.inl (l7, w64 (n4 + (1 : Int)))))

noncomputable def slices_insertionSortCmpFunc_Fix_b2 (p1x0 : Int) (fnd : Fix → Fix → Option Int) (n4 : Int) (l7 : List Fix) (n8 : Int) : Option (((List Fix) × Int) ⊕ (((List Fix) × Int) ⊕ (List Fix))) :=
  if p1x0 < n8 then
    (idx l7 n8).bind fun v10 =>
    (idx l7 (w64 (n8 - (1 : Int)))).bind fun v11 =>
    (fnd v10 v11).bind fun v12 =>
    slices_insertionSortCmpFunc_Fix_j1 n4 l7 n8 (decide (v12 < (0 : Int)))
  else
    slices_insertionSortCmpFunc_Fix_j1 n4 l7 n8 false

noncomputable def slices_insertionSortCmpFunc_Fix_l2 (p1x0 : Int) (fnd : Fix → Fix → Option Int) (n4 : Int) (l7 : List Fix) (n8 : Int) : Option (((List Fix) × Int) ⊕ (List Fix)) :=
  iter (fun x : (List Fix) × Int => slices_insertionSortCmpFunc_Fix_b2 p1x0 fnd n4 x.1 x.2) (l7, n8)

noncomputable def slices_insertionSortCmpFunc_Fix_b1 (p1x0 : Int) (p2x0 : Int) (fnd : Fix → Fix → Option Int) (l3 : List Fix) (n4 : Int) : Option (((List Fix) × Int) ⊕ (List Fix)) :=
  if n4 < p2x0 then
    slices_insertionSortCmpFunc_Fix_l2 p1x0 fnd n4 l3 n4
  else
    Option.map .inr (some l3)

noncomputable def slices_insertionSortCmpFunc_Fix_l1 (p1x0 : Int) (p2x0 : Int) (fnd : Fix → Fix → Option Int) (l3 : List Fix) (n4 : Int) : Option (List Fix) :=
  iter (fun x : (List Fix) × Int => slices_insertionSortCmpFunc_Fix_b1 p1x0 p2x0 fnd x.1 x.2) (l3, n4)

noncomputable def slices_insertionSortCmpFunc_Fix (p0x0 : List Fix) (p1x0 : Int) (p2x0 : Int) (fnd : Fix → Fix → Option Int) : Option (List Fix) :=
  slices_insertionSortCmpFunc_Fix_l1 p1x0 p2x0 fnd p0x0 (w64 (p1x0 + (1 : Int)))

noncomputable def slices_swapRangeCmpFunc_Fix_b1 (p1x0 : Int) (p2x0 : Int) (p3x0 : Int) (l3 : List Fix) (n4 : Int) : Option (((List Fix) × Int) ⊕ (List Fix)) :=
  if n4 < p3x0 then
    (idx l3 (w64 (p2x0 + n4))).bind fun v5 =>
    (idx l3 (w64 (p1x0 + n4))).bind fun v6 =>
    (idx l3 (w64 (p1x0 + n4))).bind fun v7 =>
    (idx (l3.set (w64 (p1x0 + n4)).toNat v5) (w64 (p2x0 + n4))).bind fun v8 =>
    some (.inl ((l3.set (w64 (p1x0 + n4)).toNat v5).set (w64 (p2x0 + n4)).toNat v6, w64 (n4 + (1 : Int))))
  else
    Option.map .inr (some l3)

noncomputable def slices_swapRangeCmpFunc_Fix_l1 (p1x0 : Int) (p2x0 : Int) (p3x0 : Int) (l3 : List Fix) (n4 : Int) : Option (List Fix) :=
  iter (fun x : (List Fix) × Int => slices_swapRangeCmpFunc_Fix_b1 p1x0 p2x0 p3x0 x.1 x.2) (l3, n4)

noncomputable def slices_swapRangeCmpFunc_Fix (p0x0 : List Fix) (p1x0 : Int) (p2x0 : Int) (p3x0 : Int) (fne : Fix → Fix → Option Int) : Option (List Fix) :=
  slices_swapRangeCmpFunc_Fix_l1 p1x0 p2x0 p3x0 p0x0 (0 : Int)

noncomputable def slices_rotateCmpFunc_Fix_j1 (l7 : List Fix) (n8 : Int) (n9 : Int) : Option (((List Fix) × Int × Int) ⊕ (List Fix)) :=
  some (.inl (l7, n8, n9))

noncomputable def slices_rotateCmpFunc_Fix_k2 (p2x0 : Int) (fne : Fix → Fix → Option Int) (l4 : List Fix) (n5 : Int) : Option (List Fix) :=
  (lenOk l4.length (fun r : (List Fix) => r.length) (slices_swapRangeCmpFunc_Fix l4 (w64 (p2x0 - n5)) p2x0 n5 fne)).bind fun v12 =>
  some v12

noncomputable def slices_rotateCmpFunc_Fix_b1 (p2x0 : Int) (fne : Fix → Fix → Option Int) (l4 : List Fix) (n5 : Int) (n6 : Int) : Option (((List Fix) × Int × Int) ⊕ (List Fix)) :=
  if n5 ≠ n6 then
    if n6 < n5 then
      (lenOk l4.length (fun r : (List Fix) => r.length) (slices_swapRangeCmpFunc_Fix l4 (w64 (p2x0 - n5)) p2x0 n6 fne)).bind fun v10 =>
      slices_rotateCmpFunc_Fix_j1 v10 (w64 (n5 - n6)) n6
    else
      (lenOk l4.length (fun r : (List Fix) => r.length) (slices_swapRangeCmpFunc_Fix l4 (w64 (p2x0 - n5)) (w64 ((w64 (p2x0 + n6)) - n5)) n5 fne)).bind fun v11 =>
      slices_rotateCmpFunc_Fix_j1 v11 n5 (w64 (n6 - n5))
  else
    Option.map .inr (slices_rotateCmpFunc_Fix_k2 p2x0 fne l4 n5)

noncomputable def slices_rotateCmpFunc_Fix_l1 (p2x0 : Int) (fne : Fix → Fix → Option Int) (l4 : List Fix) (n5 : Int) (n6 : Int) : Option (List Fix) :=
  iter (fun x : (List Fix) × Int × Int => slices_rotateCmpFunc_Fix_b1 p2x0 fne x.1 x.2.1 x.2.2) (l4, n5, n6)

noncomputable def slices_rotateCmpFunc_Fix (p0x0 : List Fix) (p1x0 : Int) (p2x0 : Int) (p3x0 : Int) (fne : Fix → Fix → Option Int) : Option (List Fix) :=
  slices_rotateCmpFunc_Fix_l1 p2x0 fne p0x0 (w64 (p2x0 - p1x0)) (w64 (p3x0 - p2x0))

noncomputable def slices_symMergeCmpFunc_Fix_j1 (n8 : Int) (n9 : Int) : Option ((Int × Int) ⊕ (List Fix)) :=
  some (.inl (n8, n9))

noncomputable def slices_symMergeCmpFunc_Fix_b2 (n3 : Int) (l12 : List Fix) (n13 : Int) : Option (((List Fix) × Int) ⊕ (List Fix)) :=
  if n13 < (w64 (n3 - (1 : Int))) then
    (idx l12 (w64 (n13 + (1 : Int)))).bind fun v14 =>
    (idx l12 n13).bind fun v15 =>
    (idx l12 n13).bind fun v16 =>
    (idx (l12.set n13.toNat v14) (w64 (n13 + (1 : Int)))).bind fun v17 =>
    some (.inl ((l12.set n13.toNat v14).set (w64 (n13 + (1 : Int))).toNat v15, w64 (n13 + (1 : Int))))
  else
    Option.map .inr (some l12)

noncomputable def slices_symMergeCmpFunc_Fix_l2 (n3 : Int) (l12 : List Fix) (n13 : Int) : Option (List Fix) :=
  iter (fun x : (List Fix) × Int => slices_symMergeCmpFunc_Fix_b2 n3 x.1 x.2) (l12, n13)

noncomputable def slices_symMergeCmpFunc_Fix_b1 (p0x0 : List Fix) (p1x0 : Int) (fne : Fix → Fix → Option Int) (n3 : Int) (n4 : Int) : Option ((Int × Int) ⊕ (List Fix)) :=
  if n3 < n4 then
    (idx p0x0 (w64 (shrI .u64 (IntKind.u64.wrap (w64 (n3 + n4))) (1 : Int)))).bind fun v5 =>
    (idx p0x0 p1x0).bind fun v6 =>
    (fne v5 v6).bind fun v7 =>
    if v7 < (0 : Int) then
      slices_symMergeCmpFunc_Fix_j1 (w64 ((w64 (shrI .u64 (IntKind.u64.wrap (w64 (n3 + n4))) (1 : Int))) + (1 : Int))) n4
    else
      slices_symMergeCmpFunc_Fix_j1 n3 (w64 (shrI .u64 (IntKind.u64.wrap (w64 (n3 + n4))) (1 : Int)))
  else
    Option.map .inr (slices_symMergeCmpFunc_Fix_l2 n3 p0x0 p1x0)

noncomputable def slices_symMergeCmpFunc_Fix_l1 (p0x0 : List Fix) (p1x0 : Int) (fne : Fix → Fix → Option Int) (n3 : Int) (n4 : Int) : Option (List Fix) :=
  iter (fun x : Int × Int => slices_symMergeCmpFunc_Fix_b1 p0x0 p1x0 fne x.1 x.2) (n3, n4)

noncomputable def slices_symMergeCmpFunc_Fix_j2 (n25 : Int) (n26 : Int) : Option ((Int × Int) ⊕ (List Fix)) :=
  some (.inl (n25, n26))

noncomputable def slices_symMergeCmpFunc_Fix_b4 (n20 : Int) (l29 : List Fix) (n30 : Int) : Option (((List Fix) × Int) ⊕ (List Fix)) :=
  if n20 < n30 then
    (idx l29 (w64 (n30 - (1 : Int)))).bind fun v31 =>
    (idx l29 n30).bind fun v32 =>
    (idx l29 n30).bind fun v33 =>
    (idx (l29.set n30.toNat v31) (w64 (n30 - (1 : Int)))).bind fun v34 =>
    some (.inl ((l29.set n30.toNat v31).set (w64 (n30 - (1 : Int))).toNat v32, w64 (n30 - (1 : Int))))
  else
    Option.map .inr (some l29)

noncomputable def slices_symMergeCmpFunc_Fix_l4 (n20 : Int) (l29 : List Fix) (n30 : Int) : Option (List Fix) :=
  iter (fun x : (List Fix) × Int => slices_symMergeCmpFunc_Fix_b4 n20 x.1 x.2) (l29, n30)

noncomputable def slices_symMergeCmpFunc_Fix_b3 (p0x0 : List Fix) (p2x0 : Int) (fne : Fix → Fix → Option Int) (n20 : Int) (n21 : Int) : Option ((Int × Int) ⊕ (List Fix)) :=
  if n20 < n21 then
    (idx p0x0 p2x0).bind fun v22 =>
    (idx p0x0 (w64 (shrI .u64 (IntKind.u64.wrap (w64 (n20 + n21))) (1 : Int)))).bind fun v23 =>
    (fne v22 v23).bind fun v24 =>
    if ¬ (v24 < (0 : Int)) then
      slices_symMergeCmpFunc_Fix_j2 (w64 ((w64 (shrI .u64 (IntKind.u64.wrap (w64 (n20 + n21))) (1 : Int))) + (1 : Int))) n21
    else
      slices_symMergeCmpFunc_Fix_j2 n20 (w64 (shrI .u64 (IntKind.u64.wrap (w64 (n20 + n21))) (1 : Int)))
  else
    Option.map .inr (slices_symMergeCmpFunc_Fix_l4 n20 p0x0 p2x0)

noncomputable def slices_symMergeCmpFunc_Fix_l3 (p0x0 : List Fix) (p2x0 : Int) (fne : Fix → Fix → Option Int) (n20 : Int) (n21 : Int) : Option (List Fix) :=
  iter (fun x : Int × Int => slices_symMergeCmpFunc_Fix_b3 p0x0 p2x0 fne x.1 x.2) (n20, n21)

noncomputable def slices_symMergeCmpFunc_Fix_j4 (n44 : Int) (n45 : Int) : Option ((Int × Int) ⊕ (List Fix)) :=
  some (.inl (n44, n45))

noncomputable def slices_symMergeCmpFunc_Fix_j10 (l53 : List Fix) : Option (List Fix) :=
  some l53

noncomputable def slices_symMergeCmpFunc_Fix_j9 (self : (List Fix) → Int → Int → Int → (Fix → Fix → Option Int) → Option (List Fix)) (p1x0 : Int) (p2x0 : Int) (p3x0 : Int) (fne : Fix → Fix → Option Int) (n39 : Int) (l50 : List Fix) (c52 : Bool) : Option (List Fix) :=
  if c52 = true then
    (lenOk l50.length (fun r : (List Fix) => r.length) (self l50 (w64 (shrI .u64 (IntKind.u64.wrap (w64 (p1x0 + p3x0))) (1 : Int))) (w64 ((w64 ((w64 (shrI .u64 (IntKind.u64.wrap (w64 (p1x0 + p3x0))) (1 : Int))) + p2x0)) - n39)) p3x0 fne)).bind fun v54 =>
    slices_symMergeCmpFunc_Fix_j10 v54
  else
    slices_symMergeCmpFunc_Fix_j10 l50

noncomputable def slices_symMergeCmpFunc_Fix_j8 (self : (List Fix) → Int → Int → Int → (Fix → Fix → Option Int) → Option (List Fix)) (p1x0 : Int) (p2x0 : Int) (p3x0 : Int) (fne : Fix → Fix → Option Int) (n39 : Int) (l50 : List Fix) : Option (List Fix) :=
  slices_symMergeCmpFunc_Fix_j9 self p1x0 p2x0 p3x0 fne n39 l50 ((decide ((w64 (shrI .u64 (IntKind.u64.wrap (w64 (p1x0 + p3x0))) (1 : Int))) < (w64 ((w64 ((w64 (shrI .u64 (IntKind.u64.wrap (w64 (p1x0 + p3x0))) (1 : Int))) + p2x0)) - n39)))) && (decide ((w64 ((w64 ((w64 (shrI .u64 (IntKind.u64.wrap (w64 (p1x0 + p3x0))) (1 : Int))) + p2x0)) - n39)) < p3x0)))

noncomputable def slices_symMergeCmpFunc_Fix_j7 (self : (List Fix) → Int → Int → Int → (Fix → Fix → Option Int) → Option (List Fix)) (p1x0 : Int) (p2x0 : Int) (p3x0 : Int) (fne : Fix → Fix → Option Int) (n39 : Int) (l47 : List Fix) (c49 : Bool) : Option (List Fix) :=
  if c49 = true then
    (lenOk l47.length (fun r : (List Fix) => r.length) (self l47 p1x0 n39 (w64 (shrI .u64 (IntKind.u64.wrap (w64 (p1x0 + p3x0))) (1 : Int))) fne)).bind fun v51 =>
    slices_symMergeCmpFunc_Fix_j8 self p1x0 p2x0 p3x0 fne n39 v51
  else
    slices_symMergeCmpFunc_Fix_j8 self p1x0 p2x0 p3x0 fne n39 l47

noncomputable def slices_symMergeCmpFunc_Fix_j6 (self : (List Fix) → Int → Int → Int → (Fix → Fix → Option Int) → Option (List Fix)) (p1x0 : Int) (p2x0 : Int) (p3x0 : Int) (fne : Fix → Fix → Option Int) (n39 : Int) (l47 : List Fix) : Option (List Fix) :=
  slices_symMergeCmpFunc_Fix_j7 self p1x0 p2x0 p3x0 fne n39 l47 ((decide (p1x0 < n39)) && (decide (n39 < (w64 (shrI .u64 (IntKind.u64.wrap (w64 (p1x0 + p3x0))) (1 : Int))))))

noncomputable def slices_symMergeCmpFunc_Fix_j5 (self : (List Fix) → Int → Int → Int → (Fix → Fix → Option Int) → Option (List Fix)) (p0x0 : List Fix) (p1x0 : Int) (p2x0 : Int) (p3x0 : Int) (fne : Fix → Fix → Option Int) (n39 : Int) (c46 : Bool) : Option (List Fix) :=
  if c46 = true then
    (lenOk p0x0.length (fun r : (List Fix) => r.length) (slices_rotateCmpFunc_Fix p0x0 n39 p2x0 (w64 ((w64 ((w64 (shrI .u64 (IntKind.u64.wrap (w64 (p1x0 + p3x0))) (1 : Int))) + p2x0)) - n39)) fne)).bind fun v48 =>
    slices_symMergeCmpFunc_Fix_j6 self p1x0 p2x0 p3x0 fne n39 v48
  else
    slices_symMergeCmpFunc_Fix_j6 self p1x0 p2x0 p3x0 fne n39 p0x0

noncomputable def slices_symMergeCmpFunc_Fix_b5 (self : (List Fix) → Int → Int → Int → (Fix → Fix → Option Int) → Option (List Fix)) (p0x0 : List Fix) (p1x0 : Int) (p2x0 : Int) (p3x0 : Int) (fne : Fix → Fix → Option Int) (n39 : Int) (n40 : Int) : Option ((Int × Int) ⊕ (List Fix)) :=
  if n39 < n40 then
    (idx p0x0 (w64 ((w64 ((w64 ((w64 (shrI .u64 (IntKind.u64.wrap (w64 (p1x0 + p3x0))) (1 : Int))) + p2x0)) - (1 : Int))) - (w64 (shrI .u64 (IntKind.u64.wrap (w64 (n39 + n40))) (1 : Int)))))).bind fun v41 =>
    (idx p0x0 (w64 (shrI .u64 (IntKind.u64.wrap (w64 (n39 + n40))) (1 : Int)))).bind fun v42 =>
    (fne v41 v42).bind fun v43 =>
    if ¬ (v43 < (0 : Int)) then
      slices_symMergeCmpFunc_Fix_j4 (w64 ((w64 (shrI .u64 (IntKind.u64.wrap (w64 (n39 + n40))) (1 : Int))) + (1 : Int))) n40
    else
      slices_symMergeCmpFunc_Fix_j4 n39 (w64 (shrI .u64 (IntKind.u64.wrap (w64 (n39 + n40))) (1 : Int)))
  else
    Option.map .inr (slices_symMergeCmpFunc_Fix_j5 self p0x0 p1x0 p2x0 p3x0 fne n39 ((decide (n39 < p2x0)) && (decide (p2x0 < (w64 ((w64 ((w64 (shrI .u64 (IntKind.u64.wrap (w64 (p1x0 + p3x0))) (1 : Int))) + p2x0)) - n39))))))

noncomputable def slices_symMergeCmpFunc_Fix_l5 (self : (List Fix) → Int → Int → Int → (Fix → Fix → Option Int) → Option (List Fix)) (p0x0 : List Fix) (p1x0 : Int) (p2x0 : Int) (p3x0 : Int) (fne : Fix → Fix → Option Int) (n39 : Int) (n40 : Int) : Option (List Fix) :=
  iter (fun x : Int × Int => slices_symMergeCmpFunc_Fix_b5 self p0x0 p1x0 p2x0 p3x0 fne x.1 x.2) (n39, n40)

noncomputable def slices_symMergeCmpFunc_Fix_j3 (self : (List Fix) → Int → Int → Int → (Fix → Fix → Option Int) → Option (List Fix)) (p0x0 : List Fix) (p1x0 : Int) (p2x0 : Int) (p3x0 : Int) (fne : Fix → Fix → Option Int) (n35 : Int) (n36 : Int) : Option (List Fix) :=
  slices_symMergeCmpFunc_Fix_l5 self p0x0 p1x0 p2x0 p3x0 fne n35 n36

noncomputable def slices_symMergeCmpFunc_Fix_bd (self : (List Fix) → Int → Int → Int → (Fix → Fix → Option Int) → Option (List Fix)) (p0x0 : List Fix) (p1x0 : Int) (p2x0 : Int) (p3x0 : Int) (fne : Fix → Fix → Option Int) : Option (List Fix) :=
  if (w64 (p2x0 - p1x0)) = (1 : Int) then
    slices_symMergeCmpFunc_Fix_l1 p0x0 p1x0 fne p2x0 p3x0
  else
    if (w64 (p3x0 - p2x0)) = (1 : Int) then
      slices_symMergeCmpFunc_Fix_l3 p0x0 p2x0 fne p1x0 p2x0
    else
      if (w64 (shrI .u64 (IntKind.u64.wrap (w64 (p1x0 + p3x0))) (1 : Int))) < p2x0 then
        slices_symMergeCmpFunc_Fix_j3 self p0x0 p1x0 p2x0 p3x0 fne (w64 ((w64 ((w64 (shrI .u64 (IntKind.u64.wrap (w64 (p1x0 + p3x0))) (1 : Int))) + p2x0)) - p3x0)) (w64 (shrI .u64 (IntKind.u64.wrap (w64 (p1x0 + p3x0))) (1 : Int)))
      else
        slices_symMergeCmpFunc_Fix_j3 self p0x0 p1x0 p2x0 p3x0 fne p1x0 p2x0

/-- The function, to some depth. -/
noncomputable def slices_symMergeCmpFunc_Fix_r : Nat → (List Fix) → Int → Int → Int → (Fix → Fix → Option Int) → Option (List Fix)
  | 0 => fun _ _ _ _ _ => none
  | k + 1 => slices_symMergeCmpFunc_Fix_bd (slices_symMergeCmpFunc_Fix_r k)

noncomputable def slices_symMergeCmpFunc_Fix (p0x0 : List Fix) (p1x0 : Int) (p2x0 : Int) (p3x0 : Int) (fne : Fix → Fix → Option Int) : Option (List Fix) :=
  slices_symMergeCmpFunc_Fix_r depth p0x0 p1x0 p2x0 p3x0 fne

noncomputable def slices_stableCmpFunc_Fix_j1 (n12 : Int) (l20 : List Fix) : Option (((List Fix) × Int) ⊕ (List Fix)) :=
  some (.inl (l20, w64 (n12 * (2 : Int))))

noncomputable def slices_stableCmpFunc_Fix_k2 (p1x0 : Int) (fnc : Fix → Fix → Option Int) (n12 : Int) (l16 : List Fix) (n17 : Int) : Option (((List Fix) × Int) ⊕ (List Fix)) :=
  if (w64 (n17 + n12)) < p1x0 then
    (lenOk l16.length (fun r : (List Fix) => r.length) (slices_symMergeCmpFunc_Fix l16 n17 (w64 (n17 + n12)) p1x0 fnc)).bind fun v21 =>
    slices_stableCmpFunc_Fix_j1 n12 v21
  else
    slices_stableCmpFunc_Fix_j1 n12 l16

noncomputable def slices_stableCmpFunc_Fix_b3 (p1x0 : Int) (fnc : Fix → Fix → Option Int) (n12 : Int) (l16 : List Fix) (n17 : Int) (n18 : Int) : Option (((List Fix) × Int × Int) ⊕ (((List Fix) × Int) ⊕ (List Fix))) :=
  if n18 ≤ p1x0 then
    (lenOk l16.length (fun r : (List Fix) => r.length) (slices_symMergeCmpFunc_Fix l16 n17 (w64 (n17 + n12)) n18 fnc)).bind fun v19 =>
    some (.inl (v19, n18, w64 (n18 + (w64 ((2 : Int) * n12)))))
  else
    Option.map .inr (slices_stableCmpFunc_Fix_k2 p1x0 fnc n12 l16 n17)

noncomputable def slices_stableCmpFunc_Fix_l3 (p1x0 : Int) (fnc : Fix → Fix → Option Int) (n12 : Int) (l16 : List Fix) (n17 : Int) (n18 : Int) : Option (((List Fix) × Int) ⊕ (List Fix)) :=
  iter (fun x : (List Fix) × Int × Int => slices_stableCmpFunc_Fix_b3 p1x0 fnc n12 x.1 x.2.1 x.2.2) (l16, n17, n18)

noncomputable def slices_stableCmpFunc_Fix_b2 (p1x0 : Int) (fnc : Fix → Fix → Option Int) (l11 : List Fix) (n12 : Int) : Option (((List Fix) × Int) ⊕ (List Fix)) :=
  if n12 < p1x0 then
    slices_stableCmpFunc_Fix_l3 p1x0 fnc n12 l11 (0 : Int) (w64 ((2 : Int) * n12))
  else
    Option.map .inr (some l11)

noncomputable def slices_stableCmpFunc_Fix_l2 (p1x0 : Int) (fnc : Fix → Fix → Option Int) (l11 : List Fix) (n12 : Int) : Option (List Fix) :=
  iter (fun x : (List Fix) × Int => slices_stableCmpFunc_Fix_b2 p1x0 fnc x.1 x.2) (l11, n12)

noncomputable def slices_stableCmpFunc_Fix_k3 (p1x0 : Int) (fnc : Fix → Fix → Option Int) (l4 : List Fix) (n5 : Int) : Option (List Fix) :=
  (lenOk l4.length (fun r : (List Fix) => r.length) (slices_insertionSortCmpFunc_Fix l4 n5 p1x0 fnc)).bind fun v8 =>
  slices_stableCmpFunc_Fix_l2 p1x0 fnc v8 (20 : Int)

noncomputable def slices_stableCmpFunc_Fix_b1 (p1x0 : Int) (fnc : Fix → Fix → Option Int) (l4 : List Fix) (n5 : Int) (n6 : Int) : Option (((List Fix) × Int × Int) ⊕ (List Fix)) :=
  if n6 ≤ p1x0 then
    (lenOk l4.length (fun r : (List Fix) => r.length) (slices_insertionSortCmpFunc_Fix l4 n5 n6 fnc)).bind fun v7 =>
    some (.inl (v7, n6, w64 (n6 + (20 : Int))))
  else
    Option.map .inr (slices_stableCmpFunc_Fix_k3 p1x0 fnc l4 n5)

noncomputable def slices_stableCmpFunc_Fix_l1 (p1x0 : Int) (fnc : Fix → Fix → Option Int) (l4 : List Fix) (n5 : Int) (n6 : Int) : Option (List Fix) :=
  iter (fun x : (List Fix) × Int × Int => slices_stableCmpFunc_Fix_b1 p1x0 fnc x.1 x.2.1 x.2.2) (l4, n5, n6)

noncomputable def slices_stableCmpFunc_Fix (p0x0 : List Fix) (p1x0 : Int) (fnc : Fix → Fix → Option Int) : Option (List Fix) :=
  slices_stableCmpFunc_Fix_l1 p1x0 fnc p0x0 (0 : Int) (20 : Int)

noncomputable def slices_SortStableFunc_Fix_Fix (p0x0 : List Fix) (fnb : Fix → Fix → Option Int) : Option (List Fix) :=
  (lenOk p0x0.length (fun r : (List Fix) => r.length) (slices_stableCmpFunc_Fix p0x0 (p0x0.length : Int) fnb)).bind fun v1 =>
  some v1

noncomputable def Stream_Flip (p0x0 : Fleetmake_Stream) (p1x0 : Int) : Option (Bool × Fleetmake_Stream) :=
  (Stream_Next p0x0 p1x0).bind fun v1 =>
  some (decide (v1.1 = (0 : Int)), v1.2)

noncomputable def Stream_Fixes_1x (p0x0 : Fix) (p1x0 : Fix) : Bool :=
  decide ((Q_FixOrder p0x0 p1x0) = (0 : Int))

noncomputable def slices_CompactFunc_Fix_Fix_j1 (n12 : Int) (l16 : List Fix) (n17 : Int) : Option (((List Fix) × Int × Int) ⊕ (Int ⊕ (List Fix))) :=
  some (.inl (l16, n17, w64 (n12 + (1 : Int))))

noncomputable def slices_CompactFunc_Fix_Fix_k2 (l10 : List Fix) (n11 : Int) : Option (Int ⊕ (List Fix)) :=
  (slc l10 n11 (l10.length : Int)).bind fun l20 =>
  (slc (clr l10 n11 l20.length (⟨[], (0 : Int), (0 : Int), (0 : Int), (0 : Int)⟩ : Fix)) (0 : Int) n11).bind fun l21 =>
  Option.map .inr (some l21)

noncomputable def slices_CompactFunc_Fix_Fix_b2 (fnb : Fix → Fix → Option Bool) (n2 : Int) (l6 : List Fix) (l10 : List Fix) (n11 : Int) (n12 : Int) : Option (((List Fix) × Int × Int) ⊕ (Int ⊕ (List Fix))) :=
  if n12 < (l6.length : Int) then
    (idxS l10 n2 l6.length n12).bind fun v13 =>
    (idxS l10 n2 l6.length (w64 (n12 - (1 : Int)))).bind fun v14 =>
    (fnb v13 v14).bind fun v15 =>
    if (!v15) = true then
      (idxS l10 n2 l6.length n12).bind fun v18 =>
      (idx l10 n11).bind fun v19 =>
      slices_CompactFunc_Fix_Fix_j1 n12 (l10.set n11.toNat v18) (w64 (n11 + (1 : Int)))
    else
      slices_CompactFunc_Fix_Fix_j1 n12 l10 n11
  else
    Option.map .inr (slices_CompactFunc_Fix_Fix_k2 l10 n11)

noncomputable def slices_CompactFunc_Fix_Fix_l2 (fnb : Fix → Fix → Option Bool) (n2 : Int) (l6 : List Fix) (l10 : List Fix) (n11 : Int) (n12 : Int) : Option (Int ⊕ (List Fix)) :=
  iter (fun x : (List Fix) × Int × Int => slices_CompactFunc_Fix_Fix_b2 fnb n2 l6 x.1 x.2.1 x.2.2) (l10, n11, n12)

noncomputable def slices_CompactFunc_Fix_Fix_b1 (p0x0 : List Fix) (fnb : Fix → Fix → Option Bool) (n2 : Int) : Option (Int ⊕ (List Fix)) :=
  if n2 < (p0x0.length : Int) then
    (idx p0x0 n2).bind fun v3 =>
    (idx p0x0 (w64 (n2 - (1 : Int)))).bind fun v4 =>
    (fnb v3 v4).bind fun v5 =>
    if v5 = true then
      (slc p0x0 n2 (p0x0.length : Int)).bind fun l6 =>
      slices_CompactFunc_Fix_Fix_l2 fnb n2 l6 p0x0 n2 (1 : Int)
    else
      some (.inl (w64 (n2 + (1 : Int))))
  else
    Option.map .inr (some p0x0)

noncomputable def slices_CompactFunc_Fix_Fix_l1 (p0x0 : List Fix) (fnb : Fix → Fix → Option Bool) (n2 : Int) : Option (List Fix) :=
  iter (fun x : Int => slices_CompactFunc_Fix_Fix_b1 p0x0 fnb x) n2

noncomputable def slices_CompactFunc_Fix_Fix (p0x0 : List Fix) (fnb : Fix → Fix → Option Bool) : Option (List Fix) :=
  if (p0x0.length : Int) < (2 : Int) then
    some p0x0
  else
    slices_CompactFunc_Fix_Fix_l1 p0x0 fnb (1 : Int)

noncomputable def Stream_Odd (p0x0 : Fleetmake_Stream) (p1x0 : Int) (p2x0 : Int) : Option (Int × Fleetmake_Stream) :=
  (Stream_Flip p0x0 (12 : Int)).bind fun v1 =>
  if v1.1 = true then
    (Stream_Pick v1.2 [w64 (p1x0 - (1 : Int)), w64 (p2x0 + (1 : Int)), p1x0, p2x0, (-1099511627776 : Int), (1099511627776 : Int)]).bind fun v2 =>
    some (v2.1, v2.2)
  else
    (Stream_Range v1.2 p1x0 p2x0).bind fun v3 =>
    some (v3.1, v3.2)

noncomputable def Stream_Fixes_j3 (l28 : List Int) (n29 : Int) (l30 : List Fix) : Option ((List Fix) × Fleetmake_Stream) :=
  some (l30, (⟨l28, n29⟩ : Fleetmake_Stream))

noncomputable def Stream_Fixes_j2 (l21 : List Fix) (l24 : List Int) (n25 : Int) (c26 : Bool) : Option ((List Fix) × Fleetmake_Stream) :=
  if c26 = true then
    (Stream_Next (⟨l24, n25⟩ : Fleetmake_Stream) (l21.length : Int)).bind fun v31 =>
    (idx l21 v31.1).bind fun v32 =>
    (Stream_Some v31.2 [v32.Device, ([] : Str), ([65] : Str)]).bind fun v33 =>
    (Stream_Odd v33.2 (0 : Int) (10 : Int)).bind fun v34 =>
    (Stream_Odd v34.2 (-10000 : Int) (10000 : Int)).bind fun v35 =>
    Stream_Fixes_j3 v35.2.L v35.2.at_ (((l21.set v31.1.toNat (⟨v33.1, v32.At, v32.X, v32.Y, v32.Error⟩ : Fix)).set v31.1.toNat (⟨v33.1, v34.1, v32.X, v32.Y, v32.Error⟩ : Fix)).set v31.1.toNat (⟨v33.1, v34.1, v32.X, v35.1, v32.Error⟩ : Fix))
  else
    Stream_Fixes_j3 l24 n25 l21

noncomputable def Stream_Fixes_j1 (v19 : Bool × Fleetmake_Stream) (l21 : List Fix) : Option ((List Fix) × Fleetmake_Stream) :=
  if (0 : Int) < (l21.length : Int) then
    (Stream_Flip v19.2 (20 : Int)).bind fun v27 =>
    Stream_Fixes_j2 l21 v27.2.L v27.2.at_ v27.1
  else
    Stream_Fixes_j2 l21 v19.2.L v19.2.at_ false

noncomputable def Stream_Fixes_k4 (l6 : List Int) (n7 : Int) (l9 : List Fix) : Option ((List Fix) × Fleetmake_Stream) :=
  (lenOk l9.length (fun r : (List Fix) => r.length) (slices_SortStableFunc_Fix_Fix l9 (fun y0 y1 => some (Q_FixOrder y0 y1)))).bind fun v18 =>
  (Stream_Flip (⟨l6, n7⟩ : Fleetmake_Stream) (40 : Int)).bind fun v19 =>
  if (!v19.1) = true then
    (slices_CompactFunc_Fix_Fix v18 (fun y0 y1 => some (Stream_Fixes_1x y0 y1))).bind fun v22 =>
    Stream_Fixes_j1 v19 v22
  else
    Stream_Fixes_j1 v19 v18

noncomputable def Stream_Fixes_b1 (p1x0 : Int) (l6 : List Int) (n7 : Int) (l9 : List Fix) (n10 : Int) : Option (((List Int) × Int × (List Fix) × Int) ⊕ ((List Fix) × Fleetmake_Stream)) :=
  if n10 < p1x0 then
    (Stream_Some (⟨l6, n7⟩ : Fleetmake_Stream) [([100] : Str), ([100] : Str), ([101] : Str)]).bind fun v12 =>
    (Stream_Pick v12.2 [(0 : Int), (1 : Int), (5 : Int), (10 : Int)]).bind fun v13 =>
    (Stream_Pick v13.2 [(0 : Int), (1 : Int)]).bind fun v14 =>
    (Stream_Pick v14.2 [(0 : Int), (1 : Int), (2 : Int)]).bind fun v15 =>
    (app l9 [(⟨v12.1, v13.1, v14.1, v15.1, (0 : Int)⟩ : Fix)]).bind fun l16 =>
    some (.inl (v15.2.L, v15.2.at_, l16, w64 (n10 + (1 : Int))))
  else
    Option.map .inr (Stream_Fixes_k4 l6 n7 l9)

noncomputable def Stream_Fixes_l1 (p1x0 : Int) (l6 : List Int) (n7 : Int) (l9 : List Fix) (n10 : Int) : Option ((List Fix) × Fleetmake_Stream) :=
  iter (fun x : (List Int) × Int × (List Fix) × Int => Stream_Fixes_b1 p1x0 x.1 x.2.1 x.2.2.1 x.2.2.2) (l6, n7, l9, n10)

noncomputable def Stream_Fixes (p0x0 : Fleetmake_Stream) (p1x0 : Int) : Option ((List Fix) × Fleetmake_Stream) :=
  Stream_Fixes_l1 p1x0 p0x0.L p0x0.at_ [] (0 : Int)

noncomputable def Q_in_j1 (c1 : Bool) : Bool :=
  c1

noncomputable def Q_in (p0x0 : Int) (p1x0 : Int) (p2x0 : Int) : Bool :=
  Q_in_j1 ((decide (p1x0 ≤ p0x0)) && (decide (p0x0 ≤ p2x0)))

noncomputable def Q_only_b1 (p0x0 : Str) (p1x0 : Str) (n2 : Int) : Option (Int ⊕ Bool) :=
  if n2 < (p0x0.length : Int) then
    (idx p0x0 n2).bind fun c3 =>
    if (indexByteI p1x0 (c3.toNat : Int)) < (0 : Int) then
      Option.map .inr (some false)
    else
      some (.inl (w64 (n2 + (1 : Int))))
  else
    Option.map .inr (some true)

noncomputable def Q_only_l1 (p0x0 : Str) (p1x0 : Str) (n2 : Int) : Option Bool :=
  iter (fun x : Int => Q_only_b1 p0x0 p1x0 x) n2

noncomputable def Q_only (p0x0 : Str) (p1x0 : Str) : Option Bool :=
  Q_only_l1 p0x0 p1x0 (0 : Int)

noncomputable def Q_Key_j1 (c1 : Bool) : Option Bool :=
  some c1

noncomputable def Q_Key (p0x0 : Str) : Option Bool :=
  if (Q_in (p0x0.length : Int) (1 : Int) (40 : Int)) = true then
    (slc p0x0 (0 : Int) (1 : Int)).bind fun l2 =>
    (Q_only l2 ([97, 98, 99, 100, 101, 102, 103, 104, 105, 106, 107, 108, 109, 110, 111, 112, 113, 114, 115, 116, 117, 118, 119, 120, 121, 122] : Str)).bind fun v3 =>
    if v3 = true then
      (Q_only p0x0 ([97, 98, 99, 100, 101, 102, 103, 104, 105, 106, 107, 108, 109, 110, 111, 112, 113, 114, 115, 116, 117, 118, 119, 120, 121, 122, 48, 49, 50, 51, 52, 53, 54, 55, 56, 57, 45, 95] : Str)).bind fun v4 =>
      Q_Key_j1 v4
    else
      Q_Key_j1 false
  else
    Q_Key_j1 false

noncomputable def Q_Moment (p0x0 : Int) : Bool :=
  (Q_in p0x0 (0 : Int) (345686399999 : Int))

noncomputable def Q_spotOf (p0x0 : Fix) : Spot :=
  (⟨p0x0.X, p0x0.Y⟩ : Spot)

noncomputable def Q_SpotFault_j1 (c2 : Bool) : Int :=
  if c2 = true then
    (1 : Int)
  else
    (0 : Int)

noncomputable def Q_SpotFault (p0x0 : Spot) : Int :=
  Q_SpotFault_j1 ((!(Q_in p0x0.X (-10000 : Int) (10000 : Int))) || (!(Q_in p0x0.Y (-10000 : Int) (10000 : Int))))

noncomputable def Q_FixesFault_j2 (n2 : Int) (c7 : Bool) : Option (Int ⊕ Int) :=
  if c7 = true then
    Option.map .inr (some (7 : Int))
  else
    some (.inl (w64 (n2 + (1 : Int))))

noncomputable def Q_FixesFault_j1 (p0x0 : List Fix) (n2 : Int) (v3 : Fix) (c6 : Bool) : Option (Int ⊕ Int) :=
  if c6 = true then
    Option.map .inr (some (1 : Int))
  else
    if (0 : Int) < n2 then
      (idx p0x0 (w64 (n2 - (1 : Int)))).bind fun v8 =>
      Q_FixesFault_j2 n2 (decide ((0 : Int) ≤ (Q_FixOrder v8 v3)))
    else
      Q_FixesFault_j2 n2 false

noncomputable def Q_FixesFault_b1 (p0x0 : List Fix) (n2 : Int) : Option (Int ⊕ Int) :=
  if n2 < (p0x0.length : Int) then
    (idx p0x0 n2).bind fun v3 =>
    (Q_Key v3.Device).bind fun v5 =>
    if (!v5) = true then
      Option.map .inr (some (5 : Int))
    else
      Q_FixesFault_j1 p0x0 n2 v3 ((!(Q_Moment v3.At)) || ((decide ((Q_SpotFault (Q_spotOf v3)) ≠ (0 : Int))) || (!(Q_in v3.Error (0 : Int) (10000 : Int)))))
  else
    Option.map .inr (some (0 : Int))

noncomputable def Q_FixesFault_l1 (p0x0 : List Fix) (n2 : Int) : Option Int :=
  iter (fun x : Int => Q_FixesFault_b1 p0x0 x) n2

noncomputable def Q_FixesFault (p0x0 : List Fix) : Option Int :=
  if (2000 : Int) < (p0x0.length : Int) then
    some (2 : Int)
  else
    Q_FixesFault_l1 p0x0 (0 : Int)

noncomputable def strings_Join_b2 (p1x0 : Str) (l15 : List Str) (q19 : Str) (n21 : Int) : Option ((Str × Int) ⊕ Str) :=
  if n21 < (l15.length : Int) then
    (idx l15 n21).bind fun v22 =>
    (bldW q19 p1x0).bind fun q23 =>
    (bldW q23 v22).bind fun q25 =>
    some (.inl (q25, w64 (n21 + (1 : Int))))
  else
    Option.map .inr (some q19)

noncomputable def strings_Join_l2 (p1x0 : Str) (l15 : List Str) (q19 : Str) (n21 : Int) : Option Str :=
  iter (fun x : Str × Int => strings_Join_b2 p1x0 l15 x.1 x.2) (q19, n21)

noncomputable def strings_Join_k2 (p0x0 : List Str) (p1x0 : Str) (n6 : Int) : Option Str :=
  (bldG n6).bind fun v10 =>
  (idx p0x0 (0 : Int)).bind fun v12 =>
  (bldW ([] : Str) v12).bind fun q13 =>
  (slc p0x0 (1 : Int) (p0x0.length : Int)).bind fun l15 =>
  strings_Join_l2 p1x0 l15 q13 (0 : Int)

noncomputable def strings_Join_b1 (p0x0 : List Str) (p1x0 : Str) (n6 : Int) (n7 : Int) : Option ((Int × Int) ⊕ Str) :=
  if n7 < (p0x0.length : Int) then
    (idx p0x0 n7).bind fun v8 =>
    if (w64 ((9223372036854775807 : Int) - n6)) < (v8.length : Int) then
      none
    else
      some (.inl (w64 (n6 + (v8.length : Int)), w64 (n7 + (1 : Int))))
  else
    Option.map .inr (strings_Join_k2 p0x0 p1x0 n6)

noncomputable def strings_Join_l1 (p0x0 : List Str) (p1x0 : Str) (n6 : Int) (n7 : Int) : Option Str :=
  iter (fun x : Int × Int => strings_Join_b1 p0x0 p1x0 x.1 x.2) (n6, n7)

noncomputable def strings_Join_j1 (p0x0 : List Str) (p1x0 : Str) (n2 : Int) : Option Str :=
  strings_Join_l1 p0x0 p1x0 n2 (0 : Int)

noncomputable def strings_Join (p0x0 : List Str) (p1x0 : Str) : Option Str :=
  if (p0x0.length : Int) = (0 : Int) then
    some ([] : Str)
  else
    if (p0x0.length : Int) = (1 : Int) then
      (idx p0x0 (0 : Int)).bind fun v1 =>
      some v1
    else
      if (0 : Int) < (p1x0.length : Int) then
        (quo (9223372036854775807 : Int) (w64 ((p0x0.length : Int) - (1 : Int)))).bind fun n3 =>
        if n3 ≤ (p1x0.length : Int) then
          none
        else
          strings_Join_j1 p0x0 p1x0 (w64 ((0 : Int) + (w64 ((p1x0.length : Int) * (w64 ((p0x0.length : Int) - (1 : Int)))))))
      else
        strings_Join_j1 p0x0 p1x0 (0 : Int)

noncomputable def Q_FixLines_k1 (q3 : Str) (n4 : Int) (l12 : List Str) : Option ((Str × Int) ⊕ Str) :=
  (strings_Join l12 ([32] : Str)).bind fun v18 =>
  (catO v18 ([10] : Str)).bind fun q19 =>
  (catO q3 q19).bind fun q20 =>
  some (.inl (q20, w64 (n4 + (1 : Int))))

noncomputable def Q_FixLines_b2 (q3 : Str) (n4 : Int) (v5 : Fix) (l12 : List Str) (n13 : Int) : Option (((List Str) × Int) ⊕ ((Str × Int) ⊕ Str)) :=
  if n13 < ([v5.At, v5.X, v5.Y, v5.Error].length : Int) then
    (idx [v5.At, v5.X, v5.Y, v5.Error] n13).bind fun v14 =>
    (itoaO v14).bind fun v15 =>
    (app l12 [v15]).bind fun l16 =>
    some (.inl (l16, w64 (n13 + (1 : Int))))
  else
    Option.map .inr (Q_FixLines_k1 q3 n4 l12)

noncomputable def Q_FixLines_l2 (q3 : Str) (n4 : Int) (v5 : Fix) (l12 : List Str) (n13 : Int) : Option ((Str × Int) ⊕ Str) :=
  iter (fun x : (List Str) × Int => Q_FixLines_b2 q3 n4 v5 x.1 x.2) (l12, n13)

noncomputable def Q_FixLines_b1 (p0x0 : List Fix) (q3 : Str) (n4 : Int) : Option ((Str × Int) ⊕ Str) :=
  if n4 < (p0x0.length : Int) then
    (idx p0x0 n4).bind fun v5 =>
    Q_FixLines_l2 q3 n4 v5 [v5.Device] (0 : Int)
  else
    Option.map .inr (some q3)

noncomputable def Q_FixLines_l1 (p0x0 : List Fix) (q3 : Str) (n4 : Int) : Option Str :=
  iter (fun x : Str × Int => Q_FixLines_b1 p0x0 x.1 x.2) (q3, n4)

noncomputable def Q_FixLines (p0x0 : List Fix) : Option Str :=
  Q_FixLines_l1 p0x0 ([] : Str) (0 : Int)

noncomputable def Stream_Changed_j1 (p0x0 : Fleetmake_Stream) (p1x0 : Str) (p2x0 : Str) (c1 : Bool) : Option (Str × Fleetmake_Stream) :=
  if c1 = true then
    some (p2x0, p0x0)
  else
    (Stream_Next p0x0 (p1x0.length : Int)).bind fun v2 =>
    (Stream_Next v2.2 (p2x0.length : Int)).bind fun v3 =>
    (idx p2x0 v3.1).bind fun c4 =>
    (Stream_Next v3.2 (3 : Int)).bind fun v5 =>
    if v5.1 = (0 : Int) then
      (slc p1x0 (0 : Int) v2.1).bind fun l6 =>
      (catO l6 (strR (IntKind.i32.wrap ((c4.toNat : Int))))).bind fun q7 =>
      (slc p1x0 (w64 (v2.1 + (1 : Int))) (p1x0.length : Int)).bind fun l8 =>
      (catO q7 l8).bind fun q9 =>
      some (q9, v5.2)
    else
      if v5.1 = (1 : Int) then
        (slc p1x0 (0 : Int) v2.1).bind fun l10 =>
        (catO l10 (strR (IntKind.i32.wrap ((c4.toNat : Int))))).bind fun q11 =>
        (slc p1x0 v2.1 (p1x0.length : Int)).bind fun l12 =>
        (catO q11 l12).bind fun q13 =>
        some (q13, v5.2)
      else
        (slc p1x0 (0 : Int) v2.1).bind fun l14 =>
        (slc p1x0 (w64 (v2.1 + (1 : Int))) (p1x0.length : Int)).bind fun l15 =>
        (catO l14 l15).bind fun q16 =>
        some (q16, v5.2)

noncomputable def Stream_Changed (p0x0 : Fleetmake_Stream) (p1x0 : Str) (p2x0 : Str) : Option (Str × Fleetmake_Stream) :=
  Stream_Changed_j1 p0x0 p1x0 p2x0 ((decide (p1x0 = ([] : Str))) || (decide (p2x0 = ([] : Str))))

noncomputable def Stream_FixText_b1 (v7 : Int × Fleetmake_Stream) (l12 : List Int) (n13 : Int) (q14 : Str) (n15 : Int) : Option (((List Int) × Int × Str × Int) ⊕ (Str × Fleetmake_Stream)) :=
  if n15 < v7.1 then
    (Stream_Changed (⟨l12, n13⟩ : Fleetmake_Stream) q14 ([32, 10, 48, 45, 57, 100] : Str)).bind fun v16 =>
    some (.inl (v16.2.L, v16.2.at_, v16.1, w64 (n15 + (1 : Int))))
  else
    Option.map .inr (some (q14, (⟨l12, n13⟩ : Fleetmake_Stream)))

noncomputable def Stream_FixText_l1 (v7 : Int × Fleetmake_Stream) (l12 : List Int) (n13 : Int) (q14 : Str) (n15 : Int) : Option (Str × Fleetmake_Stream) :=
  iter (fun x : (List Int) × Int × Str × Int => Stream_FixText_b1 v7 x.1 x.2.1 x.2.2.1 x.2.2.2) (l12, n13, q14, n15)

noncomputable def Stream_FixText_j1 (v2 : (List Fix) × Fleetmake_Stream) (q5 : Str) : Option (Str × Fleetmake_Stream) :=
  (Stream_Pick v2.2 [(0 : Int), (0 : Int), (1 : Int), (2 : Int)]).bind fun v7 =>
  Stream_FixText_l1 v7 v7.2.L v7.2.at_ q5 (0 : Int)

noncomputable def Stream_FixText (p0x0 : Fleetmake_Stream) : Option (Str × Fleetmake_Stream) :=
  (Stream_Range p0x0 (0 : Int) (4 : Int)).bind fun v1 =>
  (Stream_Fixes v1.2 v1.1).bind fun v2 =>
  (Q_FixesFault v2.1).bind fun v4 =>
  if v4 = (0 : Int) then
    (Q_FixLines v2.1).bind fun v6 =>
    Stream_FixText_j1 v2 v6
  else
    Stream_FixText_j1 v2 ([] : Str)

noncomputable def base_Key_j2 (n5 : Int) (c7 : Bool) : Option (Int ⊕ Bool) :=
  if c7 = true then
    Option.map .inr (some false)
  else
    some (.inl (w64 (n5 + (1 : Int))))

noncomputable def base_Key_b1 (p0x0 : Str) (n5 : Int) : Option (Int ⊕ Bool) :=
  if n5 < (p0x0.length : Int) then
    (idx p0x0 n5).bind fun c6 =>
    base_Key_j2 n5 (if (97 : Int) ≤ (c6.toNat : Int) then if (c6.toNat : Int) ≤ (122 : Int) then !true else if (48 : Int) ≤ (c6.toNat : Int) then if (c6.toNat : Int) ≤ (57 : Int) then !true else if (c6.toNat : Int) = (45 : Int) then !true else decide (¬ ((c6.toNat : Int) = (95 : Int))) else if (c6.toNat : Int) = (45 : Int) then !true else decide (¬ ((c6.toNat : Int) = (95 : Int))) else if (48 : Int) ≤ (c6.toNat : Int) then if (c6.toNat : Int) ≤ (57 : Int) then !true else if (c6.toNat : Int) = (45 : Int) then !true else decide (¬ ((c6.toNat : Int) = (95 : Int))) else if (c6.toNat : Int) = (45 : Int) then !true else decide (¬ ((c6.toNat : Int) = (95 : Int))))
  else
    Option.map .inr (some true)

noncomputable def base_Key_l1 (p0x0 : Str) (n5 : Int) : Option Bool :=
  iter (fun x : Int => base_Key_b1 p0x0 x) n5

noncomputable def base_Key_j1 (p0x0 : Str) (c1 : Bool) : Option Bool :=
  if c1 = true then
    some false
  else
    base_Key_l1 p0x0 (0 : Int)

noncomputable def base_Key (p0x0 : Str) : Option Bool :=
  if p0x0 = ([] : Str) then
    base_Key_j1 p0x0 true
  else
    if (40 : Int) < (p0x0.length : Int) then
      base_Key_j1 p0x0 true
    else
      (idx p0x0 (0 : Int)).bind fun c2 =>
      if (c2.toNat : Int) < (97 : Int) then
        base_Key_j1 p0x0 true
      else
        (idx p0x0 (0 : Int)).bind fun c3 =>
        base_Key_j1 p0x0 (decide ((122 : Int) < (c3.toNat : Int)))

noncomputable def base_Out_j1 (c1 : Bool) : Bool :=
  c1

noncomputable def base_Out (p0x0 : Int) (p1x0 : Int) (p2x0 : Int) : Bool :=
  base_Out_j1 ((decide (p0x0 < p1x0)) || (decide (p2x0 < p0x0)))

noncomputable def base_Moment (p0x0 : Int) : Bool :=
  !(base_Out p0x0 (0 : Int) (345686399999 : Int))

noncomputable def place_spot (p0x0 : Fix) : Spot :=
  (⟨p0x0.X, p0x0.Y⟩ : Spot)

noncomputable def place_isSpot_j1 (c2 : Bool) : Bool :=
  c2

noncomputable def place_isSpot (p0x0 : Spot) : Bool :=
  place_isSpot_j1 ((!(base_Out p0x0.X (-10000 : Int) (10000 : Int))) && (!(base_Out p0x0.Y (-10000 : Int) (10000 : Int))))

noncomputable def cmp_isNaN_int (p0x0 : Int) : Bool :=
  decide (p0x0 ≠ p0x0)

noncomputable def cmp_Compare_int (p0x0 : Int) (p1x0 : Int) : Int :=
  if (cmp_isNaN_int p0x0) = true then
    if (cmp_isNaN_int p1x0) = true then
      (0 : Int)
    else
      (-1 : Int)
  else
    if (cmp_isNaN_int p1x0) = true then
      (1 : Int)
    else
      if p0x0 < p1x0 then
        (-1 : Int)
      else
        if p1x0 < p0x0 then
          (1 : Int)
        else
          (0 : Int)

noncomputable def cmp_Or_int_b1 (p0x0 : List Int) (n2 : Int) : Option (Int ⊕ Int) :=
  if n2 < (p0x0.length : Int) then
    (idx p0x0 n2).bind fun v3 =>
    if v3 ≠ (0 : Int) then
      Option.map .inr (some v3)
    else
      some (.inl (w64 (n2 + (1 : Int))))
  else
    Option.map .inr (some (0 : Int))

noncomputable def cmp_Or_int_l1 (p0x0 : List Int) (n2 : Int) : Option Int :=
  iter (fun x : Int => cmp_Or_int_b1 p0x0 x) n2

noncomputable def cmp_Or_int (p0x0 : List Int) : Option Int :=
  cmp_Or_int_l1 p0x0 (0 : Int)

noncomputable def place_byDevice (p0x0 : Fix) (p1x0 : Fix) : Option Int :=
  (cmp_Or_int [(Lib.compareBytes p0x0.Device p1x0.Device), (cmp_Compare_int p0x0.At p1x0.At)]).bind fun v3 =>
  some v3

noncomputable def place_CheckFixes_j2 (n2 : Int) (c7 : Bool) : Option (Int ⊕ Int) :=
  if c7 = true then
    Option.map .inr (some (7 : Int))
  else
    some (.inl (w64 (n2 + (1 : Int))))

noncomputable def place_CheckFixes_j1 (p0x0 : List Fix) (n2 : Int) (v3 : Fix) (c6 : Bool) : Option (Int ⊕ Int) :=
  if c6 = true then
    Option.map .inr (some (1 : Int))
  else
    if (0 : Int) < n2 then
      (idx p0x0 (w64 (n2 - (1 : Int)))).bind fun v8 =>
      (place_byDevice v3 v8).bind fun v9 =>
      place_CheckFixes_j2 n2 (decide (v9 ≤ (0 : Int)))
    else
      place_CheckFixes_j2 n2 false

noncomputable def place_CheckFixes_b1 (p0x0 : List Fix) (n2 : Int) : Option (Int ⊕ Int) :=
  if n2 < (p0x0.length : Int) then
    (idx p0x0 n2).bind fun v3 =>
    (base_Key v3.Device).bind fun v5 =>
    if (!v5) = true then
      Option.map .inr (some (5 : Int))
    else
      place_CheckFixes_j1 p0x0 n2 v3 ((!(base_Moment v3.At)) || ((!(place_isSpot (place_spot v3))) || (base_Out v3.Error (0 : Int) (10000 : Int))))
  else
    Option.map .inr (some (0 : Int))

noncomputable def place_CheckFixes_l1 (p0x0 : List Fix) (n2 : Int) : Option Int :=
  iter (fun x : Int => place_CheckFixes_b1 p0x0 x) n2

noncomputable def place_CheckFixes (p0x0 : List Fix) : Option Int :=
  if (2000 : Int) < (p0x0.length : Int) then
    some (2 : Int)
  else
    place_CheckFixes_l1 p0x0 (0 : Int)

noncomputable def place_Text_k1 (n8 : Int) (q16 : Str) : Option ((Str × Int) ⊕ (Str × Int)) :=
  (bldW q16 ([10] : Str)).bind fun q24 =>
  some (.inl (q24, w64 (n8 + (1 : Int))))

noncomputable def place_Text_b2 (n8 : Int) (v9 : Fix) (q16 : Str) (n18 : Int) : Option ((Str × Int) ⊕ ((Str × Int) ⊕ (Str × Int))) :=
  if n18 < ([v9.At, v9.X, v9.Y, v9.Error].length : Int) then
    (idx [v9.At, v9.X, v9.Y, v9.Error] n18).bind fun v19 =>
    (itoaO v19).bind fun v20 =>
    (catO ([32] : Str) v20).bind fun q21 =>
    (bldW q16 q21).bind fun q22 =>
    some (.inl (q22, w64 (n18 + (1 : Int))))
  else
    Option.map .inr (place_Text_k1 n8 q16)

noncomputable def place_Text_l2 (n8 : Int) (v9 : Fix) (q16 : Str) (n18 : Int) : Option ((Str × Int) ⊕ (Str × Int)) :=
  iter (fun x : Str × Int => place_Text_b2 n8 v9 x.1 x.2) (q16, n18)

noncomputable def place_Text_k2 (q6 : Str) : Option (Str × Int) :=
  if (200000 : Int) < (q6.length : Int) then
    some (([] : Str), (2 : Int))
  else
    some (q6, (0 : Int))

noncomputable def place_Text_b1 (p0x0 : List Fix) (q6 : Str) (n8 : Int) : Option ((Str × Int) ⊕ (Str × Int)) :=
  if n8 < (p0x0.length : Int) then
    (idx p0x0 n8).bind fun v9 =>
    (bldW q6 v9.Device).bind fun q11 =>
    place_Text_l2 n8 v9 q11 (0 : Int)
  else
    Option.map .inr (place_Text_k2 q6)

noncomputable def place_Text_l1 (p0x0 : List Fix) (q6 : Str) (n8 : Int) : Option (Str × Int) :=
  iter (fun x : Str × Int => place_Text_b1 p0x0 x.1 x.2) (q6, n8)

noncomputable def place_Text (p0x0 : List Fix) : Option (Str × Int) :=
  (place_CheckFixes p0x0).bind fun v1 =>
  if v1 ≠ (0 : Int) then
    some (([] : Str), v1)
  else
    place_Text_l1 p0x0 [] (0 : Int)

noncomputable def base_Words_b1 (v1 : (List Str)) (n5 : Int) : Option (Int ⊕ ((List Str) × Bool)) :=
  if n5 < (v1.length : Int) then
    (idx v1 n5).bind fun v6 =>
    if v6 = ([] : Str) then
      Option.map .inr (some ([], false))
    else
      some (.inl (w64 (n5 + (1 : Int))))
  else
    Option.map .inr (some (v1, true))

noncomputable def base_Words_l1 (v1 : (List Str)) (n5 : Int) : Option ((List Str) × Bool) :=
  iter (fun x : Int => base_Words_b1 v1 x) n5

noncomputable def base_Words (p0x0 : Str) (p1x0 : Int) : Option ((List Str) × Bool) :=
  (splitO p0x0 ([32] : Str)).bind fun v1 =>
  if (v1.length : Int) ≠ p1x0 then
    some ([], false)
  else
    base_Words_l1 v1 (0 : Int)

noncomputable def base_Number_j2 (n4 : Int) (c5 : Bool) : Option (Int ⊕ (Int × Bool)) :=
  if c5 = true then
    Option.map .inr (some ((0 : Int), false))
  else
    some (.inl (w64 (n4 + (1 : Int))))

noncomputable def base_Number_k3 (p0x0 : Str) : Option (Int × Bool) :=
  (atoiO p0x0).bind fun v8 =>
  some (v8.1, v8.2)

noncomputable def base_Number_b1 (p0x0 : Str) (n4 : Int) : Option (Int ⊕ (Int × Bool)) :=
  if n4 < ((Lib.trimPrefix p0x0 ([45] : Str)).length : Int) then
    (idx (Lib.trimPrefix p0x0 ([45] : Str)) n4).bind fun c6 =>
    if (c6.toNat : Int) < (48 : Int) then
      base_Number_j2 n4 true
    else
      (idx (Lib.trimPrefix p0x0 ([45] : Str)) n4).bind fun c7 =>
      base_Number_j2 n4 (decide ((57 : Int) < (c7.toNat : Int)))
  else
    Option.map .inr (base_Number_k3 p0x0)

noncomputable def base_Number_l1 (p0x0 : Str) (n4 : Int) : Option (Int × Bool) :=
  iter (fun x : Int => base_Number_b1 p0x0 x) n4

noncomputable def base_Number_j1 (p0x0 : Str) (c1 : Bool) : Option (Int × Bool) :=
  if c1 = true then
    some ((0 : Int), false)
  else
    base_Number_l1 p0x0 (0 : Int)

noncomputable def base_Number (p0x0 : Str) (p1x0 : Int) : Option (Int × Bool) :=
  if (Lib.trimPrefix p0x0 ([45] : Str)) = ([] : Str) then
    base_Number_j1 p0x0 true
  else
    if p1x0 < ((Lib.trimPrefix p0x0 ([45] : Str)).length : Int) then
      base_Number_j1 p0x0 true
    else
      (idx (Lib.trimPrefix p0x0 ([45] : Str)) (0 : Int)).bind fun c2 =>
      base_Number_j1 p0x0 ((decide ((c2.toNat : Int) = (48 : Int))) && ((decide ((1 : Int) < ((Lib.trimPrefix p0x0 ([45] : Str)).length : Int))) || (decide (((Lib.trimPrefix p0x0 ([45] : Str)).length : Int) < (p0x0.length : Int)))))

noncomputable def base_Numbers_b1 (p0x0 : List Str) (p1x0 : Int) (l5 : List Int) (n6 : Int) : Option (((List Int) × Int) ⊕ ((List Int) × Bool)) :=
  if n6 < (p0x0.length : Int) then
    (idx p0x0 n6).bind fun v8 =>
    (base_Number v8 p1x0).bind fun v9 =>
    if (!v9.2) = true then
      Option.map .inr (some ([], false))
    else
      (app l5 [v9.1]).bind fun l11 =>
      some (.inl (l11, w64 (n6 + (1 : Int))))
  else
    Option.map .inr (some (l5, true))

noncomputable def base_Numbers_l1 (p0x0 : List Str) (p1x0 : Int) (l5 : List Int) (n6 : Int) : Option ((List Int) × Bool) :=
  iter (fun x : (List Int) × Int => base_Numbers_b1 p0x0 p1x0 x.1 x.2) (l5, n6)

noncomputable def base_Numbers (p0x0 : List Str) (p1x0 : Int) : Option ((List Int) × Bool) :=
  base_Numbers_l1 p0x0 p1x0 [] (0 : Int)

noncomputable def place_Read_1x_j1 (v4 : (List Int) × Bool) (l7 : List Fix) : Option (Bool × (List Fix)) :=
  some (v4.2, l7)

noncomputable def place_Read_1x (p0x0 : Str) (p1x0 : List Fix) : Option (Bool × (List Fix)) :=
  (base_Words p0x0 (5 : Int)).bind fun v1 =>
  if (!v1.2) = true then
    some (false, p1x0)
  else
    (slc v1.1 (1 : Int) (v1.1.length : Int)).bind fun l3 =>
    (base_Numbers l3 (15 : Int)).bind fun v4 =>
    if v4.2 = true then
      (idx v1.1 (0 : Int)).bind fun v8 =>
      (idx v4.1 (0 : Int)).bind fun v9 =>
      (idx v4.1 (1 : Int)).bind fun v10 =>
      (idx v4.1 (2 : Int)).bind fun v11 =>
      (idx v4.1 (3 : Int)).bind fun v12 =>
      (app p1x0 [(⟨v8, v9, v10, v11, v12⟩ : Fix)]).bind fun l13 =>
      place_Read_1x_j1 v4 l13
    else
      place_Read_1x_j1 v4 p1x0

noncomputable def internal_stringslite_HasSuffix_j1 (c1 : Bool) : Option Bool :=
  some c1

noncomputable def internal_stringslite_HasSuffix (p0x0 : Str) (p1x0 : Str) : Option Bool :=
  if (p1x0.length : Int) ≤ (p0x0.length : Int) then
    (slc p0x0 (w64 ((p0x0.length : Int) - (p1x0.length : Int))) (p0x0.length : Int)).bind fun l2 =>
    internal_stringslite_HasSuffix_j1 (decide (l2 = p1x0))
  else
    internal_stringslite_HasSuffix_j1 false

noncomputable def internal_stringslite_CutSuffix (p0x0 : Str) (p1x0 : Str) : Option (Str × Bool) :=
  (internal_stringslite_HasSuffix p0x0 p1x0).bind fun v1 =>
  if (!v1) = true then
    some (p0x0, false)
  else
    (slc p0x0 (0 : Int) (w64 ((p0x0.length : Int) - (p1x0.length : Int)))).bind fun l2 =>
    some (l2, true)

noncomputable def strings_CutSuffix (p0x0 : Str) (p1x0 : Str) : Option (Str × Bool) :=
  (internal_stringslite_CutSuffix p0x0 p1x0).bind fun v1 =>
  some (v1.1, v1.2)

noncomputable def base_Lines (p0x0 : Str) : Option ((List Str) × Bool) :=
  if p0x0 = ([] : Str) then
    some ([], true)
  else
    (strings_CutSuffix p0x0 ([10] : Str)).bind fun v2 =>
    (splitO v2.1 ([10] : Str)).bind fun v3 =>
    some (v3, v2.2)

noncomputable def base_Each_f1x_place_Read_1x_j1 (n8 : Int) (l11 : List Fix) (c12 : Bool) : Option (((List Fix) × Int) ⊕ (Int × Bool × (List Fix))) :=
  if c12 = true then
    Option.map .inr (some (n8, false, l11))
  else
    some (.inl (l11, w64 (n8 + (1 : Int))))

noncomputable def base_Each_f1x_place_Read_1x_b1 (v1 : (List Str) × Bool) (l7 : List Fix) (n8 : Int) : Option (((List Fix) × Int) ⊕ (Int × Bool × (List Fix))) :=
  if n8 < (v1.1.length : Int) then
    (idx v1.1 n8).bind fun v9 =>
    if (!v1.2) = true then
      if n8 = (w64 ((v1.1.length : Int) - (1 : Int))) then
        base_Each_f1x_place_Read_1x_j1 n8 l7 true
      else
        (place_Read_1x v9 l7).bind fun v13 =>
        base_Each_f1x_place_Read_1x_j1 n8 v13.2 (!v13.1)
    else
      (place_Read_1x v9 l7).bind fun v15 =>
      base_Each_f1x_place_Read_1x_j1 n8 v15.2 (!v15.1)
  else
    Option.map .inr (some ((0 : Int), true, l7))

noncomputable def base_Each_f1x_place_Read_1x_l1 (v1 : (List Str) × Bool) (l7 : List Fix) (n8 : Int) : Option (Int × Bool × (List Fix)) :=
  iter (fun x : (List Fix) × Int => base_Each_f1x_place_Read_1x_b1 v1 x.1 x.2) (l7, n8)

noncomputable def base_Each_f1x_place_Read_1x (p0x0 : Str) (p2x0 : List Fix) : Option (Int × Bool × (List Fix)) :=
  (base_Lines p0x0).bind fun v1 =>
  base_Each_f1x_place_Read_1x_l1 v1 p2x0 (0 : Int)

noncomputable def place_Read (p0x0 : Str) : Option ((List Fix) × Int × Int) :=
  if (200000 : Int) < (p0x0.length : Int) then
    some ([], (0 : Int), (2 : Int))
  else
    (base_Each_f1x_place_Read_1x p0x0 []).bind fun v3 =>
    if (!v3.2.1) = true then
      some ([], v3.1, (9 : Int))
    else
      (place_CheckFixes v3.2.2).bind fun v7 =>
      if v7 ≠ (0 : Int) then
        some ([], (0 : Int), v7)
      else
        some (v3.2.2, (0 : Int), (0 : Int))

noncomputable def slices_Index_string_string_b1 (p0x0 : List Str) (p1x0 : Str) (n2 : Int) : Option (Int ⊕ Int) :=
  if n2 < (p0x0.length : Int) then
    (idx p0x0 n2).bind fun v3 =>
    if p1x0 = v3 then
      Option.map .inr (some n2)
    else
      some (.inl (w64 (n2 + (1 : Int))))
  else
    Option.map .inr (some (-1 : Int))

noncomputable def slices_Index_string_string_l1 (p0x0 : List Str) (p1x0 : Str) (n2 : Int) : Option Int :=
  iter (fun x : Int => slices_Index_string_string_b1 p0x0 p1x0 x) n2

noncomputable def slices_Index_string_string (p0x0 : List Str) (p1x0 : Str) : Option Int :=
  slices_Index_string_string_l1 p0x0 p1x0 (0 : Int)

noncomputable def slices_Contains_string_string (p0x0 : List Str) (p1x0 : Str) : Option Bool :=
  (slices_Index_string_string p0x0 p1x0).bind fun v1 =>
  some (decide ((0 : Int) ≤ v1))

noncomputable def Q_Number_j2 (v3 : Int × Bool) (c5 : Bool) : Option (Int × Bool) :=
  some (v3.1, c5)

noncomputable def Q_Number_j1 (p0x0 : Str) (c1 : Bool) : Option (Int × Bool) :=
  if c1 = true then
    some ((0 : Int), false)
  else
    (atoiO p0x0).bind fun v3 =>
    if v3.2 = true then
      (itoaO v3.1).bind fun v6 =>
      Q_Number_j2 v3 (decide (v6 = p0x0))
    else
      Q_Number_j2 v3 false

noncomputable def Q_Number (p0x0 : Str) (p1x0 : Int) : Option (Int × Bool) :=
  if (Lib.trimPrefix p0x0 ([45] : Str)) = ([] : Str) then
    Q_Number_j1 p0x0 true
  else
    if p1x0 < ((Lib.trimPrefix p0x0 ([45] : Str)).length : Int) then
      Q_Number_j1 p0x0 true
    else
      (Q_only (Lib.trimPrefix p0x0 ([45] : Str)) ([48, 49, 50, 51, 52, 53, 54, 55, 56, 57] : Str)).bind fun v2 =>
      Q_Number_j1 p0x0 (!v2)

noncomputable def Q_FixesRead_1x_k2 (p1x0 : List Fix) (v1 : (List Str)) (l8 : List Int) : Option (Bool × (List Fix)) :=
  (idx v1 (0 : Int)).bind fun v13 =>
  (idxA 4 l8 (0 : Int)).bind fun v14 =>
  (idxA 4 l8 (1 : Int)).bind fun v15 =>
  (idxA 4 l8 (2 : Int)).bind fun v16 =>
  (idxA 4 l8 (3 : Int)).bind fun v17 =>
  (app p1x0 [(⟨v13, v14, v15, v16, v17⟩ : Fix)]).bind fun l18 =>
  some (true, l18)

noncomputable def Q_FixesRead_1x_b1 (p1x0 : List Fix) (v1 : (List Str)) (l8 : List Int) (n9 : Int) : Option (((List Int) × Int) ⊕ (Bool × (List Fix))) :=
  if n9 < (4 : Int) then
    (idx v1 (w64 ((1 : Int) + n9))).bind fun v10 =>
    (Q_Number v10 (15 : Int)).bind fun v11 =>
    (idxA 4 l8 n9).bind fun v12 =>
    if (!v11.2) = true then
      Option.map .inr (some (false, p1x0))
    else
      some (.inl (l8.set n9.toNat v11.1, w64 (n9 + (1 : Int))))
  else
    Option.map .inr (Q_FixesRead_1x_k2 p1x0 v1 l8)

noncomputable def Q_FixesRead_1x_l1 (p1x0 : List Fix) (v1 : (List Str)) (l8 : List Int) (n9 : Int) : Option (Bool × (List Fix)) :=
  iter (fun x : (List Int) × Int => Q_FixesRead_1x_b1 p1x0 v1 x.1 x.2) (l8, n9)

noncomputable def Q_FixesRead_1x_j1 (p1x0 : List Fix) (v1 : (List Str)) (c3 : Bool) : Option (Bool × (List Fix)) :=
  if c3 = true then
    some (false, p1x0)
  else
    Q_FixesRead_1x_l1 p1x0 v1 ([(0 : Int), (0 : Int), (0 : Int), (0 : Int)] : List Int) (0 : Int)

noncomputable def Q_FixesRead_1x (p0x0 : Str) (p1x0 : List Fix) : Option (Bool × (List Fix)) :=
  (splitO p0x0 ([32] : Str)).bind fun v1 =>
  if (v1.length : Int) ≠ (5 : Int) then
    Q_FixesRead_1x_j1 p1x0 v1 true
  else
    (slices_Contains_string_string v1 ([] : Str)).bind fun v4 =>
    Q_FixesRead_1x_j1 p1x0 v1 v4

noncomputable def Q_Lines_f1x_Q_FixesRead_1x_j1 (n8 : Int) (v9 : Str × Str × Bool) (l11 : List Fix) (c12 : Bool) : Option (((List Fix) × Str × Int) ⊕ (Int × Bool × (List Fix))) :=
  if c12 = true then
    Option.map .inr (some (n8, false, l11))
  else
    some (.inl (l11, v9.2.1, w64 (n8 + (1 : Int))))

noncomputable def Q_Lines_f1x_Q_FixesRead_1x_b1 (l6 : List Fix) (q7 : Str) (n8 : Int) : Option (((List Fix) × Str × Int) ⊕ (Int × Bool × (List Fix))) :=
  if q7 ≠ ([] : Str) then
    (cutO q7 ([10] : Str)).bind fun v9 =>
    if (!v9.2.2) = true then
      Q_Lines_f1x_Q_FixesRead_1x_j1 n8 v9 l6 true
    else
      (Q_FixesRead_1x v9.1 l6).bind fun v13 =>
      Q_Lines_f1x_Q_FixesRead_1x_j1 n8 v9 v13.2 (!v13.1)
  else
    Option.map .inr (some ((0 : Int), true, l6))

noncomputable def Q_Lines_f1x_Q_FixesRead_1x_l1 (l6 : List Fix) (q7 : Str) (n8 : Int) : Option (Int × Bool × (List Fix)) :=
  iter (fun x : (List Fix) × Str × Int => Q_Lines_f1x_Q_FixesRead_1x_b1 x.1 x.2.1 x.2.2) (l6, q7, n8)

noncomputable def Q_Lines_f1x_Q_FixesRead_1x (p0x0 : Str) (p2x0 : List Fix) : Option (Int × Bool × (List Fix)) :=
  Q_Lines_f1x_Q_FixesRead_1x_l1 p2x0 p0x0 (0 : Int)

noncomputable def Q_FixesRead (p0x0 : Str) : Option ((List Fix) × Int × Int) :=
  if (200000 : Int) < (p0x0.length : Int) then
    some ([], (0 : Int), (2 : Int))
  else
    (Q_Lines_f1x_Q_FixesRead_1x p0x0 []).bind fun v3 =>
    if (!v3.2.1) = true then
      some ([], v3.1, (9 : Int))
    else
      (Q_FixesFault v3.2.2).bind fun v7 =>
      if v7 ≠ (0 : Int) then
        some ([], (0 : Int), v7)
      else
        some (v3.2.2, (0 : Int), (0 : Int))

noncomputable def slices_Equal_Fix_Fix_b1 (p0x0 : List Fix) (p1x0 : List Fix) (n2 : Int) : Option (Int ⊕ Bool) :=
  if n2 < (p0x0.length : Int) then
    (idx p0x0 n2).bind fun v3 =>
    (idx p1x0 n2).bind fun v4 =>
    if v3 ≠ v4 then
      Option.map .inr (some false)
    else
      some (.inl (w64 (n2 + (1 : Int))))
  else
    Option.map .inr (some true)

noncomputable def slices_Equal_Fix_Fix_l1 (p0x0 : List Fix) (p1x0 : List Fix) (n2 : Int) : Option Bool :=
  iter (fun x : Int => slices_Equal_Fix_Fix_b1 p0x0 p1x0 x) n2

noncomputable def slices_Equal_Fix_Fix (p0x0 : List Fix) (p1x0 : List Fix) : Option Bool :=
  if (p0x0.length : Int) ≠ (p1x0.length : Int) then
    some false
  else
    slices_Equal_Fix_Fix_l1 p0x0 p1x0 (0 : Int)

noncomputable def place_Cell_b1 (p0x0 : Spot) (p1x0 : Int) (l8 : List Int) (n9 : Int) (n10 : Int) : Option (((List Int) × Int × Int) ⊕ (Str × Int)) :=
  if n10 < p1x0 then
    (quo (w64 (p0x0.X - (-16384 : Int))) (w64 (n9.tdiv (2 : Int)))).bind fun n12 =>
    (quo (w64 (p0x0.Y - (-16384 : Int))) (w64 (n9.tdiv (2 : Int)))).bind fun n13 =>
    (app l8 [IntKind.u8.wrap ((IntKind.u8.wrap ((48 : Int) + (IntKind.u8.wrap (n12.tmod (2 : Int))))) + (IntKind.u8.wrap ((2 : Int) * (IntKind.u8.wrap (n13.tmod (2 : Int))))))]).bind fun l14 =>
    some (.inl (l14, w64 (n9.tdiv (2 : Int)), w64 (n10 + (1 : Int))))
  else
    Option.map .inr (some (strB l8, (0 : Int)))

noncomputable def place_Cell_l1 (p0x0 : Spot) (p1x0 : Int) (l8 : List Int) (n9 : Int) (n10 : Int) : Option (Str × Int) :=
  iter (fun x : (List Int) × Int × Int => place_Cell_b1 p0x0 p1x0 x.1 x.2.1 x.2.2) (l8, n9, n10)

noncomputable def place_Cell_j1 (p0x0 : Spot) (p1x0 : Int) (c2 : Bool) : Option (Str × Int) :=
  if c2 = true then
    some (([] : Str), (1 : Int))
  else
    place_Cell_l1 p0x0 p1x0 [] (32768 : Int) (0 : Int)

noncomputable def place_Cell (p0x0 : Spot) (p1x0 : Int) : Option (Str × Int) :=
  place_Cell_j1 p0x0 p1x0 ((!(place_isSpot p0x0)) || (base_Out p1x0 (0 : Int) (15 : Int)))

noncomputable def L_placed_j1 (c2 : Bool) : Option Bool :=
  some c2

noncomputable def L_placed : Option Bool :=
  (place_Cell (⟨(0 : Int), (0 : Int)⟩ : Spot) (1 : Int)).bind fun v1 =>
  L_placed_j1 ((decide (v1.2 = (0 : Int))) && (decide (v1.1 = ([51] : Str))))

noncomputable def L_FixTexts_j2 (c14 : Bool) : Option Bool :=
  some c14

noncomputable def L_FixTexts_j1 (v5 : Str × Fleetmake_Stream) (v6 : Str × Int) (v7 : Int) (q8 : Str) : Option Bool :=
  (place_Read v5.1).bind fun v10 =>
  (Q_FixesRead v5.1).bind fun v12 =>
  if v6.2 = v7 then
    if v6.1 = q8 then
      (slices_Equal_Fix_Fix v10.1 v12.1).bind fun v15 =>
      if v15 = true then
        if v10.2.1 = v12.2.1 then
          if v10.2.2 = v12.2.2 then
            (L_placed).bind fun v16 =>
            L_FixTexts_j2 v16
          else
            L_FixTexts_j2 false
        else
          L_FixTexts_j2 false
      else
        L_FixTexts_j2 false
    else
      L_FixTexts_j2 false
  else
    L_FixTexts_j2 false

noncomputable def L_FixTexts (p0x0 : List Int) : Option Bool :=
  (Stream_Range (⟨p0x0, (0 : Int)⟩ : Fleetmake_Stream) (0 : Int) (6 : Int)).bind fun v2 =>
  (Stream_Fixes v2.2 v2.1).bind fun v3 =>
  (Stream_FixText v3.2).bind fun v5 =>
  (place_Text v3.1).bind fun v6 =>
  (Q_FixesFault v3.1).bind fun v7 =>
  if v7 = (0 : Int) then
    (Q_FixLines v3.1).bind fun v9 =>
    L_FixTexts_j1 v5 v6 v7 v9
  else
    L_FixTexts_j1 v5 v6 v7 ([] : Str)

end Go.Beacon

