/- Plain functions that the Go functions compute, written by shal.py. -/
import Derived.Test.YtnnljbpmkcefaaaCore
set_option linter.unusedVariables false
namespace Go.Beacon
open Go Go.Eng
structure Fleetmake_Stream where
  L : List Int
  at_ : Int
deriving DecidableEq, Inhabited
def Fleetmake_Stream.av (x : Fleetmake_Stream) : AV := .agg [.list 1 (x.L.map I), I x.at_]

structure Fix where
  Device : Str
  At : Int
  X : Int
  Y : Int
  Error : Int
deriving DecidableEq, Inhabited
def Fix.av (x : Fix) : AV := .agg [.str x.Device, I x.At, I x.X, I x.Y, I x.Error]

structure Spot where
  X : Int
  Y : Int
deriving DecidableEq, Inhabited
def Spot.av (x : Spot) : AV := .agg [I x.X, I x.Y]

noncomputable def Below_j1 (n2 : Int) : Option Int :=
  some n2

noncomputable def Below (p0x0 : Int) (p1x0 : Int) : Option Int :=
  if p1x0 < (1 : Int) then
    some (0 : Int)
  else
    (rem p0x0 p1x0).bind fun n1 =>
    if n1 < (0 : Int) then
      Below_j1 (w64 (n1 + p1x0))
    else
      Below_j1 n1

noncomputable def Stream_Next (p0x0 : Fleetmake_Stream) (p1x0 : Int) : Option (Int × Fleetmake_Stream) :=
  if (p0x0.L.length : Int) = (0 : Int) then
    (Below (w64 ((w64 (p0x0.at_ + (1 : Int))) * (7919 : Int))) p1x0).bind fun v1 =>
    some (v1, (⟨p0x0.L, w64 (p0x0.at_ + (1 : Int))⟩ : Fleetmake_Stream))
  else
    (rem (w64 ((w64 (p0x0.at_ + (1 : Int))) - (1 : Int))) (p0x0.L.length : Int)).bind fun n2 =>
    (quo (w64 ((w64 (p0x0.at_ + (1 : Int))) - (1 : Int))) (p0x0.L.length : Int)).bind fun n3 =>
    (idx p0x0.L n2).bind fun v4 =>
    (Below v4 (1073741824 : Int)).bind fun v5 =>
    (Below (w64 (v5 + (w64 (n3 * (w64 ((7919 : Int) + n2)))))) p1x0).bind fun v6 =>
    some (v6, (⟨p0x0.L, w64 (p0x0.at_ + (1 : Int))⟩ : Fleetmake_Stream))

noncomputable def Stream_Range (p0x0 : Fleetmake_Stream) (p1x0 : Int) (p2x0 : Int) : Option (Int × Fleetmake_Stream) :=
  if p2x0 < p1x0 then
    some (p1x0, p0x0)
  else
    (Stream_Next p0x0 (w64 ((w64 (p2x0 - p1x0)) + (1 : Int)))).bind fun v1 =>
    some (w64 (p1x0 + v1.1), v1.2)

noncomputable def Stream_Some (p0x0 : Fleetmake_Stream) (p1x0 : List Str) : Option (Str × Fleetmake_Stream) :=
  (Stream_Next p0x0 (p1x0.length : Int)).bind fun v1 =>
  (idx p1x0 v1.1).bind fun v2 =>
  some (v2, v1.2)

noncomputable def Stream_Pick (p0x0 : Fleetmake_Stream) (p1x0 : List Int) : Option (Int × Fleetmake_Stream) :=
  (Stream_Next p0x0 (p1x0.length : Int)).bind fun v1 =>
  (idx p1x0 v1.1).bind fun v2 =>
  some (v2, v1.2)

noncomputable def Q_sign (p0x0 : Int) : Int :=
  if p0x0 < (0 : Int) then
    (-1 : Int)
  else
    if (0 : Int) < p0x0 then
      (1 : Int)
    else
      (0 : Int)

noncomputable def Q_FixOrder (p0x0 : Fix) (p1x0 : Fix) : Int :=
  if p0x0.Device ≠ p1x0.Device then
    (Lib.compareBytes p0x0.Device p1x0.Device)
  else
    (Q_sign (w64 (p0x0.At - p1x0.At)))

noncomputable def slices_insertionSortCmpFunc_Fix_j1 (n4 : Int) (l7 : List Fix) (n8 : Int) (c9 : Bool) : Option (((List Fix) × Int) ⊕ (((List Fix) × Int) ⊕ (List Fix))) :=
  if c9 = true then
    (idx l7 (w64 (n8 - (1 : Int)))).bind fun v13 =>
    (idx l7 n8).bind fun v14 =>
    (idx l7 n8).bind fun v15 =>
    (idx (l7.set n8.toNat v13) (w64 (n8 - (1 : Int)))).bind fun v16 =>
    some (.inl ((l7.set n8.toNat v13).set (w64 (n8 - (1 : Int))).toNat v14, w64 (n8 - (1 : Int))))
  else
    Option.map .inr (some (.inl (l7, w64 (n4 + (1 : Int)))))

noncomputable def slices_insertionSortCmpFunc_Fix_b2 (p1x0 : Int) (fnd : Fix → Fix → Option Int) (n4 : Int) (l7 : List Fix) (n8 : Int) : Option (((List Fix) × Int) ⊕ (((List Fix) × Int) ⊕ (List Fix))) :=
  if p1x0 < n8 then
    (idx l7 n8).bind fun v10 =>
    (idx l7 (w64 (n8 - (1 : Int)))).bind fun v11 =>
    (fnd v10 v11).bind fun v12 =>
    slices_insertionSortCmpFunc_Fix_j1 n4 l7 n8 (decide (v12 < (0 : Int)))
  else
    slices_insertionSortCmpFunc_Fix_j1 n4 l7 n8 false

noncomputable def slices_insertionSortCmpFunc_Fix_l2 (p1x0 : Int) (fnd : Fix → Fix → Option Int) (n4 : Int) (l7 : List Fix) (n8 : Int) : Option (((List Fix) × Int) ⊕ (List Fix)) :=
  iter (fun x : (List Fix) × Int => slices_insertionSortCmpFunc_Fix_b2 p1x0 fnd n4 x.1 x.2) (l7, n8)

noncomputable def slices_insertionSortCmpFunc_Fix_b1 (p1x0 : Int) (p2x0 : Int) (fnd : Fix → Fix → Option Int) (l3 : List Fix) (n4 : Int) : Option (((List Fix) × Int) ⊕ (List Fix)) :=
  if n4 < p2x0 then
    slices_insertionSortCmpFunc_Fix_l2 p1x0 fnd n4 l3 n4
  else
    Option.map .inr (some l3)

noncomputable def slices_insertionSortCmpFunc_Fix_l1 (p1x0 : Int) (p2x0 : Int) (fnd : Fix → Fix → Option Int) (l3 : List Fix) (n4 : Int) : Option (List Fix) :=
  iter (fun x : (List Fix) × Int => slices_insertionSortCmpFunc_Fix_b1 p1x0 p2x0 fnd x.1 x.2) (l3, n4)

noncomputable def slices_insertionSortCmpFunc_Fix (p0x0 : List Fix) (p1x0 : Int) (p2x0 : Int) (fnd : Fix → Fix → Option Int) : Option (List Fix) :=
  slices_insertionSortCmpFunc_Fix_l1 p1x0 p2x0 fnd p0x0 (w64 (p1x0 + (1 : Int)))

noncomputable def slices_swapRangeCmpFunc_Fix_b1 (p1x0 : Int) (p2x0 : Int) (p3x0 : Int) (l3 : List Fix) (n4 : Int) : Option (((List Fix) × Int) ⊕ (List Fix)) :=
  if n4 < p3x0 then
    (idx l3 (w64 (p2x0 + n4))).bind fun v5 =>
    (idx l3 (w64 (p1x0 + n4))).bind fun v6 =>
    (idx l3 (w64 (p1x0 + n4))).bind fun v7 =>
    (idx (l3.set (w64 (p1x0 + n4)).toNat v5) (w64 (p2x0 + n4))).bind fun v8 =>
    some (.inl ((l3.set (w64 (p1x0 + n4)).toNat v5).set (w64 (p2x0 + n4)).toNat v6, w64 (n4 + (1 : Int))))
  else
    Option.map .inr (some l3)

noncomputable def slices_swapRangeCmpFunc_Fix_l1 (p1x0 : Int) (p2x0 : Int) (p3x0 : Int) (l3 : List Fix) (n4 : Int) : Option (List Fix) :=
  iter (fun x : (List Fix) × Int => slices_swapRangeCmpFunc_Fix_b1 p1x0 p2x0 p3x0 x.1 x.2) (l3, n4)

noncomputable def slices_swapRangeCmpFunc_Fix (p0x0 : List Fix) (p1x0 : Int) (p2x0 : Int) (p3x0 : Int) (fne : Fix → Fix → Option Int) : Option (List Fix) :=
  slices_swapRangeCmpFunc_Fix_l1 p1x0 p2x0 p3x0 p0x0 (0 : Int)

noncomputable def slices_rotateCmpFunc_Fix_j1 (l7 : List Fix) (n8 : Int) (n9 : Int) : Option (((List Fix) × Int × Int) ⊕ (List Fix)) :=
  some (.inl (l7, n8, n9))

noncomputable def slices_rotateCmpFunc_Fix_k2 (p2x0 : Int) (fne : Fix → Fix → Option Int) (l4 : List Fix) (n5 : Int) : Option (List Fix) :=
  (lenOk l4.length (fun r : (List Fix) => r.length) (slices_swapRangeCmpFunc_Fix l4 (w64 (p2x0 - n5)) p2x0 n5 fne)).bind fun v12 =>
  some v12

noncomputable def slices_rotateCmpFunc_Fix_b1 (p2x0 : Int) (fne : Fix → Fix → Option Int) (l4 : List Fix) (n5 : Int) (n6 : Int) : Option (((List Fix) × Int × Int) ⊕ (List Fix)) :=
  if n5 ≠ n6 then
    if n6 < n5 then
      (lenOk l4.length (fun r : (List Fix) => r.length) (slices_swapRangeCmpFunc_Fix l4 (w64 (p2x0 - n5)) p2x0 n6 fne)).bind fun v10 =>
      slices_rotateCmpFunc_Fix_j1 v10 (w64 (n5 - n6)) n6
    else
      (lenOk l4.length (fun r : (List Fix) => r.length) (slices_swapRangeCmpFunc_Fix l4 (w64 (p2x0 - n5)) (w64 ((w64 (p2x0 + n6)) - n5)) n5 fne)).bind fun v11 =>
      slices_rotateCmpFunc_Fix_j1 v11 n5 (w64 (n6 - n5))
  else
    Option.map .inr (slices_rotateCmpFunc_Fix_k2 p2x0 fne l4 n5)

noncomputable def slices_rotateCmpFunc_Fix_l1 (p2x0 : Int) (fne : Fix → Fix → Option Int) (l4 : List Fix) (n5 : Int) (n6 : Int) : Option (List Fix) :=
  iter (fun x : (List Fix) × Int × Int => slices_rotateCmpFunc_Fix_b1 p2x0 fne x.1 x.2.1 x.2.2) (l4, n5, n6)

noncomputable def slices_rotateCmpFunc_Fix (p0x0 : List Fix) (p1x0 : Int) (p2x0 : Int) (p3x0 : Int) (fne : Fix → Fix → Option Int) : Option (List Fix) :=
  slices_rotateCmpFunc_Fix_l1 p2x0 fne p0x0 (w64 (p2x0 - p1x0)) (w64 (p3x0 - p2x0))

noncomputable def slices_symMergeCmpFunc_Fix_j1 (n8 : Int) (n9 : Int) : Option ((Int × Int) ⊕ (List Fix)) :=
  some (.inl (n8, n9))

noncomputable def slices_symMergeCmpFunc_Fix_b2 (n3 : Int) (l12 : List Fix) (n13 : Int) : Option (((List Fix) × Int) ⊕ (List Fix)) :=
  if n13 < (w64 (n3 - (1 : Int))) then
    (idx l12 (w64 (n13 + (1 : Int)))).bind fun v14 =>
    (idx l12 n13).bind fun v15 =>
    (idx l12 n13).bind fun v16 =>
    (idx (l12.set n13.toNat v14) (w64 (n13 + (1 : Int)))).bind fun v17 =>
    some (.inl ((l12.set n13.toNat v14).set (w64 (n13 + (1 : Int))).toNat v15, w64 (n13 + (1 : Int))))
  else
    Option.map .inr (some l12)

noncomputable def slices_symMergeCmpFunc_Fix_l2 (n3 : Int) (l12 : List Fix) (n13 : Int) : Option (List Fix) :=
  iter (fun x : (List Fix) × Int => slices_symMergeCmpFunc_Fix_b2 n3 x.1 x.2) (l12, n13)

noncomputable def slices_symMergeCmpFunc_Fix_b1 (p0x0 : List Fix) (p1x0 : Int) (fne : Fix → Fix → Option Int) (n3 : Int) (n4 : Int) : Option ((Int × Int) ⊕ (List Fix)) :=
  if n3 < n4 then
    (idx p0x0 (w64 (shrI .u64 (IntKind.u64.wrap (w64 (n3 + n4))) (1 : Int)))).bind fun v5 =>
    (idx p0x0 p1x0).bind fun v6 =>
    (fne v5 v6).bind fun v7 =>
    if v7 < (0 : Int) then
      slices_symMergeCmpFunc_Fix_j1 (w64 ((w64 (shrI .u64 (IntKind.u64.wrap (w64 (n3 + n4))) (1 : Int))) + (1 : Int))) n4
    else
      slices_symMergeCmpFunc_Fix_j1 n3 (w64 (shrI .u64 (IntKind.u64.wrap (w64 (n3 + n4))) (1 : Int)))
  else
    Option.map .inr (slices_symMergeCmpFunc_Fix_l2 n3 p0x0 p1x0)

noncomputable def slices_symMergeCmpFunc_Fix_l1 (p0x0 : List Fix) (p1x0 : Int) (fne : Fix → Fix → Option Int) (n3 : Int) (n4 : Int) : Option (List Fix) :=
  iter (fun x : Int × Int => slices_symMergeCmpFunc_Fix_b1 p0x0 p1x0 fne x.1 x.2) (n3, n4)

noncomputable def slices_symMergeCmpFunc_Fix_j2 (n25 : Int) (n26 : Int) : Option ((Int × Int) ⊕ (List Fix)) :=
  some (.inl (n25, n26))

noncomputable def slices_symMergeCmpFunc_Fix_b4 (n20 : Int) (l29 : List Fix) (n30 : Int) : Option (((List Fix) × Int) ⊕ (List Fix)) :=
  if n20 < n30 then
    (idx l29 (w64 (n30 - (1 : Int)))).bind fun v31 =>
    (idx l29 n30).bind fun v32 =>
    (idx l29 n30).bind fun v33 =>
    (idx (l29.set n30.toNat v31) (w64 (n30 - (1 : Int)))).bind fun v34 =>
    some (.inl ((l29.set n30.toNat v31).set (w64 (n30 - (1 : Int))).toNat v32, w64 (n30 - (1 : Int))))
  else
    Option.map .inr (some l29)

noncomputable def slices_symMergeCmpFunc_Fix_l4 (n20 : Int) (l29 : List Fix) (n30 : Int) : Option (List Fix) :=
  iter (fun x : (List Fix) × Int => slices_symMergeCmpFunc_Fix_b4 n20 x.1 x.2) (l29, n30)

noncomputable def slices_symMergeCmpFunc_Fix_b3 (p0x0 : List Fix) (p2x0 : Int) (fne : Fix → Fix → Option Int) (n20 : Int) (n21 : Int) : Option ((Int × Int) ⊕ (List Fix)) :=
  if n20 < n21 then
    (idx p0x0 p2x0).bind fun v22 =>
    (idx p0x0 (w64 (shrI .u64 (IntKind.u64.wrap (w64 (n20 + n21))) (1 : Int)))).bind fun v23 =>
    (fne v22 v23).bind fun v24 =>
    if ¬ (v24 < (0 : Int)) then
      slices_symMergeCmpFunc_Fix_j2 (w64 ((w64 (shrI .u64 (IntKind.u64.wrap (w64 (n20 + n21))) (1 : Int))) + (1 : Int))) n21
    else
      slices_symMergeCmpFunc_Fix_j2 n20 (w64 (shrI .u64 (IntKind.u64.wrap (w64 (n20 + n21))) (1 : Int)))
  else
    Option.map .inr (slices_symMergeCmpFunc_Fix_l4 n20 p0x0 p2x0)

noncomputable def slices_symMergeCmpFunc_Fix_l3 (p0x0 : List Fix) (p2x0 : Int) (fne : Fix → Fix → Option Int) (n20 : Int) (n21 : Int) : Option (List Fix) :=
  iter (fun x : Int × Int => slices_symMergeCmpFunc_Fix_b3 p0x0 p2x0 fne x.1 x.2) (n20, n21)

noncomputable def slices_symMergeCmpFunc_Fix_j4 (n44 : Int) (n45 : Int) : Option ((Int × Int) ⊕ (List Fix)) :=
  some (.inl (n44, n45))

noncomputable def slices_symMergeCmpFunc_Fix_j10 (l53 : List Fix) : Option (List Fix) :=
  some l53

noncomputable def slices_symMergeCmpFunc_Fix_j9 (self : (List Fix) → Int → Int → Int → (Fix → Fix → Option Int) → Option (List Fix)) (p1x0 : Int) (p2x0 : Int) (p3x0 : Int) (fne : Fix → Fix → Option Int) (n39 : Int) (l50 : List Fix) (c52 : Bool) : Option (List Fix) :=
  if c52 = true then
    (lenOk l50.length (fun r : (List Fix) => r.length) (self l50 (w64 (shrI .u64 (IntKind.u64.wrap (w64 (p1x0 + p3x0))) (1 : Int))) (w64 ((w64 ((w64 (shrI .u64 (IntKind.u64.wrap (w64 (p1x0 + p3x0))) (1 : Int))) + p2x0)) - n39)) p3x0 fne)).bind fun v54 =>
    slices_symMergeCmpFunc_Fix_j10 v54
  else
    slices_symMergeCmpFunc_Fix_j10 l50

noncomputable def slices_symMergeCmpFunc_Fix_j8 (self : (List Fix) → Int → Int → Int → (Fix → Fix → Option Int) → Option (List Fix)) (p1x0 : Int) (p2x0 : Int) (p3x0 : Int) (fne : Fix → Fix → Option Int) (n39 : Int) (l50 : List Fix) : Option (List Fix) :=
  slices_symMergeCmpFunc_Fix_j9 self p1x0 p2x0 p3x0 fne n39 l50 ((decide ((w64 (shrI .u64 (IntKind.u64.wrap (w64 (p1x0 + p3x0))) (1 : Int))) < (w64 ((w64 ((w64 (shrI .u64 (IntKind.u64.wrap (w64 (p1x0 + p3x0))) (1 : Int))) + p2x0)) - n39)))) && (decide ((w64 ((w64 ((w64 (shrI .u64 (IntKind.u64.wrap (w64 (p1x0 + p3x0))) (1 : Int))) + p2x0)) - n39)) < p3x0)))

noncomputable def slices_symMergeCmpFunc_Fix_j7 (self : (List Fix) → Int → Int → Int → (Fix → Fix → Option Int) → Option (List Fix)) (p1x0 : Int) (p2x0 : Int) (p3x0 : Int) (fne : Fix → Fix → Option Int) (n39 : Int) (l47 : List Fix) (c49 : Bool) : Option (List Fix) :=
  if c49 = true then
    (lenOk l47.length (fun r : (List Fix) => r.length) (self l47 p1x0 n39 (w64 (shrI .u64 (IntKind.u64.wrap (w64 (p1x0 + p3x0))) (1 : Int))) fne)).bind fun v51 =>
    slices_symMergeCmpFunc_Fix_j8 self p1x0 p2x0 p3x0 fne n39 v51
  else
    slices_symMergeCmpFunc_Fix_j8 self p1x0 p2x0 p3x0 fne n39 l47

noncomputable def slices_symMergeCmpFunc_Fix_j6 (self : (List Fix) → Int → Int → Int → (Fix → Fix → Option Int) → Option (List Fix)) (p1x0 : Int) (p2x0 : Int) (p3x0 : Int) (fne : Fix → Fix → Option Int) (n39 : Int) (l47 : List Fix) : Option (List Fix) :=
  slices_symMergeCmpFunc_Fix_j7 self p1x0 p2x0 p3x0 fne n39 l47 ((decide (p1x0 < n39)) && (decide (n39 < (w64 (shrI .u64 (IntKind.u64.wrap (w64 (p1x0 + p3x0))) (1 : Int))))))

noncomputable def slices_symMergeCmpFunc_Fix_j5 (self : (List Fix) → Int → Int → Int → (Fix → Fix → Option Int) → Option (List Fix)) (p0x0 : List Fix) (p1x0 : Int) (p2x0 : Int) (p3x0 : Int) (fne : Fix → Fix → Option Int) (n39 : Int) (c46 : Bool) : Option (List Fix) :=
  if c46 = true then
    (lenOk p0x0.length (fun r : (List Fix) => r.length) (slices_rotateCmpFunc_Fix p0x0 n39 p2x0 (w64 ((w64 ((w64 (shrI .u64 (IntKind.u64.wrap (w64 (p1x0 + p3x0))) (1 : Int))) + p2x0)) - n39)) fne)).bind fun v48 =>
    slices_symMergeCmpFunc_Fix_j6 self p1x0 p2x0 p3x0 fne n39 v48
  else
    slices_symMergeCmpFunc_Fix_j6 self p1x0 p2x0 p3x0 fne n39 p0x0

noncomputable def slices_symMergeCmpFunc_Fix_b5 (self : (List Fix) → Int → Int → Int → (Fix → Fix → Option Int) → Option (List Fix)) (p0x0 : List Fix) (p1x0 : Int) (p2x0 : Int) (p3x0 : Int) (fne : Fix → Fix → Option Int) (n39 : Int) (n40 : Int) : Option ((Int × Int) ⊕ (List Fix)) :=
  if n39 < n40 then
    (idx p0x0 (w64 ((w64 ((w64 ((w64 (shrI .u64 (IntKind.u64.wrap (w64 (p1x0 + p3x0))) (1 : Int))) + p2x0)) - (1 : Int))) - (w64 (shrI .u64 (IntKind.u64.wrap (w64 (n39 + n40))) (1 : Int)))))).bind fun v41 =>
    (idx p0x0 (w64 (shrI .u64 (IntKind.u64.wrap (w64 (n39 + n40))) (1 : Int)))).bind fun v42 =>
    (fne v41 v42).bind fun v43 =>
    if ¬ (v43 < (0 : Int)) then
      slices_symMergeCmpFunc_Fix_j4 (w64 ((w64 (shrI .u64 (IntKind.u64.wrap (w64 (n39 + n40))) (1 : Int))) + (1 : Int))) n40
    else
      slices_symMergeCmpFunc_Fix_j4 n39 (w64 (shrI .u64 (IntKind.u64.wrap (w64 (n39 + n40))) (1 : Int)))
  else
    Option.map .inr (slices_symMergeCmpFunc_Fix_j5 self p0x0 p1x0 p2x0 p3x0 fne n39 ((decide (n39 < p2x0)) && (decide (p2x0 < (w64 ((w64 ((w64 (shrI .u64 (IntKind.u64.wrap (w64 (p1x0 + p3x0))) (1 : Int))) + p2x0)) - n39))))))

noncomputable def slices_symMergeCmpFunc_Fix_l5 (self : (List Fix) → Int → Int → Int → (Fix → Fix → Option Int) → Option (List Fix)) (p0x0 : List Fix) (p1x0 : Int) (p2x0 : Int) (p3x0 : Int) (fne : Fix → Fix → Option Int) (n39 : Int) (n40 : Int) : Option (List Fix) :=
  iter (fun x : Int × Int => slices_symMergeCmpFunc_Fix_b5 self p0x0 p1x0 p2x0 p3x0 fne x.1 x.2) (n39, n40)

noncomputable def slices_symMergeCmpFunc_Fix_j3 (self : (List Fix) → Int → Int → Int → (Fix → Fix → Option Int) → Option (List Fix)) (p0x0 : List Fix) (p1x0 : Int) (p2x0 : Int) (p3x0 : Int) (fne : Fix → Fix → Option Int) (n35 : Int) (n36 : Int) : Option (List Fix) :=
  slices_symMergeCmpFunc_Fix_l5 self p0x0 p1x0 p2x0 p3x0 fne n35 n36

noncomputable def slices_symMergeCmpFunc_Fix_bd (self : (List Fix) → Int → Int → Int → (Fix → Fix → Option Int) → Option (List Fix)) (p0x0 : List Fix) (p1x0 : Int) (p2x0 : Int) (p3x0 : Int) (fne : Fix → Fix → Option Int) : Option (List Fix) :=
  if (w64 (p2x0 - p1x0)) = (1 : Int) then
    slices_symMergeCmpFunc_Fix_l1 p0x0 p1x0 fne p2x0 p3x0
  else
    if (w64 (p3x0 - p2x0)) = (1 : Int) then
      slices_symMergeCmpFunc_Fix_l3 p0x0 p2x0 fne p1x0 p2x0
    else
      if (w64 (shrI .u64 (IntKind.u64.wrap (w64 (p1x0 + p3x0))) (1 : Int))) < p2x0 then
        slices_symMergeCmpFunc_Fix_j3 self p0x0 p1x0 p2x0 p3x0 fne (w64 ((w64 ((w64 (shrI .u64 (IntKind.u64.wrap (w64 (p1x0 + p3x0))) (1 : Int))) + p2x0)) - p3x0)) (w64 (shrI .u64 (IntKind.u64.wrap (w64 (p1x0 + p3x0))) (1 : Int)))
      else
        slices_symMergeCmpFunc_Fix_j3 self p0x0 p1x0 p2x0 p3x0 fne p1x0 p2x0

/-- The function, to some depth. -/
noncomputable def slices_symMergeCmpFunc_Fix_r : Nat → (List Fix) → Int → Int → Int → (Fix → Fix → Option Int) → Option (List Fix)
  | 0 => fun _ _ _ _ _ => none
  | k + 1 => slices_symMergeCmpFunc_Fix_bd (slices_symMergeCmpFunc_Fix_r k)

noncomputable def slices_symMergeCmpFunc_Fix (p0x0 : List Fix) (p1x0 : Int) (p2x0 : Int) (p3x0 : Int) (fne : Fix → Fix → Option Int) : Option (List Fix) :=
  slices_symMergeCmpFunc_Fix_r depth p0x0 p1x0 p2x0 p3x0 fne

noncomputable def slices_stableCmpFunc_Fix_j1 (n12 : Int) (l20 : List Fix) : Option (((List Fix) × Int) ⊕ (List Fix)) :=
  some (.inl (l20, w64 (n12 * (2 : Int))))

noncomputable def slices_stableCmpFunc_Fix_k2 (p1x0 : Int) (fnc : Fix → Fix → Option Int) (n12 : Int) (l16 : List Fix) (n17 : Int) : Option (((List Fix) × Int) ⊕ (List Fix)) :=
  if (w64 (n17 + n12)) < p1x0 then
    (lenOk l16.length (fun r : (List Fix) => r.length) (slices_symMergeCmpFunc_Fix l16 n17 (w64 (n17 + n12)) p1x0 fnc)).bind fun v21 =>
    slices_stableCmpFunc_Fix_j1 n12 v21
  else
    slices_stableCmpFunc_Fix_j1 n12 l16

noncomputable def slices_stableCmpFunc_Fix_b3 (p1x0 : Int) (fnc : Fix → Fix → Option Int) (n12 : Int) (l16 : List Fix) (n17 : Int) (n18 : Int) : Option (((List Fix) × Int × Int) ⊕ (((List Fix) × Int) ⊕ (List Fix))) :=
  if n18 ≤ p1x0 then
    (lenOk l16.length (fun r : (List Fix) => r.length) (slices_symMergeCmpFunc_Fix l16 n17 (w64 (n17 + n12)) n18 fnc)).bind fun v19 =>
    some (.inl (v19, n18, w64 (n18 + (w64 ((2 : Int) * n12)))))
  else
    Option.map .inr (slices_stableCmpFunc_Fix_k2 p1x0 fnc n12 l16 n17)

noncomputable def slices_stableCmpFunc_Fix_l3 (p1x0 : Int) (fnc : Fix → Fix → Option Int) (n12 : Int) (l16 : List Fix) (n17 : Int) (n18 : Int) : Option (((List Fix) × Int) ⊕ (List Fix)) :=
  iter (fun x : (List Fix) × Int × Int => slices_stableCmpFunc_Fix_b3 p1x0 fnc n12 x.1 x.2.1 x.2.2) (l16, n17, n18)

noncomputable def slices_stableCmpFunc_Fix_b2 (p1x0 : Int) (fnc : Fix → Fix → Option Int) (l11 : List Fix) (n12 : Int) : Option (((List Fix) × Int) ⊕ (List Fix)) :=
  if n12 < p1x0 then
    slices_stableCmpFunc_Fix_l3 p1x0 fnc n12 l11 (0 : Int) (w64 ((2 : Int) * n12))
  else
    Option.map .inr (some l11)

noncomputable def slices_stableCmpFunc_Fix_l2 (p1x0 : Int) (fnc : Fix → Fix → Option Int) (l11 : List Fix) (n12 : Int) : Option (List Fix) :=
  iter (fun x : (List Fix) × Int => slices_stableCmpFunc_Fix_b2 p1x0 fnc x.1 x.2) (l11, n12)

noncomputable def slices_stableCmpFunc_Fix_k3 (p1x0 : Int) (fnc : Fix → Fix → Option Int) (l4 : List Fix) (n5 : Int) : Option (List Fix) :=
  (lenOk l4.length (fun r : (List Fix) => r.length) (slices_insertionSortCmpFunc_Fix l4 n5 p1x0 fnc)).bind fun v8 =>
  slices_stableCmpFunc_Fix_l2 p1x0 fnc v8 (20 : Int)

noncomputable def slices_stableCmpFunc_Fix_b1 (p1x0 : Int) (fnc : Fix → Fix → Option Int) (l4 : List Fix) (n5 : Int) (n6 : Int) : Option (((List Fix) × Int × Int) ⊕ (List Fix)) :=
  if n6 ≤ p1x0 then
    (lenOk l4.length (fun r : (List Fix) => r.length) (slices_insertionSortCmpFunc_Fix l4 n5 n6 fnc)).bind fun v7 =>
    some (.inl (v7, n6, w64 (n6 + (20 : Int))))
  else
    Option.map .inr (slices_stableCmpFunc_Fix_k3 p1x0 fnc l4 n5)

noncomputable def slices_stableCmpFunc_Fix_l1 (p1x0 : Int) (fnc : Fix → Fix → Option Int) (l4 : List Fix) (n5 : Int) (n6 : Int) : Option (List Fix) :=
  iter (fun x : (List Fix) × Int × Int => slices_stableCmpFunc_Fix_b1 p1x0 fnc x.1 x.2.1 x.2.2) (l4, n5, n6)

noncomputable def slices_stableCmpFunc_Fix (p0x0 : List Fix) (p1x0 : Int) (fnc : Fix → Fix → Option Int) : Option (List Fix) :=
  slices_stableCmpFunc_Fix_l1 p1x0 fnc p0x0 (0 : Int) (20 : Int)

noncomputable def slices_SortStableFunc_Fix_Fix (p0x0 : List Fix) (fnb : Fix → Fix → Option Int) : Option (List Fix) :=
  (lenOk p0x0.length (fun r : (List Fix) => r.length) (slices_stableCmpFunc_Fix p0x0 (p0x0.length : Int) fnb)).bind fun v1 =>
  some v1

noncomputable def Stream_Flip (p0x0 : Fleetmake_Stream) (p1x0 : Int) : Option (Bool × Fleetmake_Stream) :=
  (Stream_Next p0x0 p1x0).bind fun v1 =>
  some (decide (v1.1 = (0 : Int)), v1.2)

noncomputable def Stream_Fixes_1x (p0x0 : Fix) (p1x0 : Fix) : Bool :=
  decide ((Q_FixOrder p0x0 p1x0) = (0 : Int))

noncomputable def slices_CompactFunc_Fix_Fix_j1 (n12 : Int) (l16 : List Fix) (n17 : Int) : Option (((List Fix) × Int × Int) ⊕ (Int ⊕ (List Fix))) :=
  some (.inl (l16, n17, w64 (n12 + (1 : Int))))

noncomputable def slices_CompactFunc_Fix_Fix_k2 (l10 : List Fix) (n11 : Int) : Option (Int ⊕ (List Fix)) :=
  (slc l10 n11 (l10.length : Int)).bind fun l20 =>
  (slc (clr l10 n11 l20.length (⟨[], (0 : Int), (0 : Int), (0 : Int), (0 : Int)⟩ : Fix)) (0 : Int) n11).bind fun l21 =>
  Option.map .inr (some l21)

noncomputable def slices_CompactFunc_Fix_Fix_b2 (fnb : Fix → Fix → Option Bool) (n2 : Int) (l6 : List Fix) (l10 : List Fix) (n11 : Int) (n12 : Int) : Option (((List Fix) × Int × Int) ⊕ (Int ⊕ (List Fix))) :=
  if n12 < (l6.length : Int) then
    (idxS l10 n2 l6.length n12).bind fun v13 =>
    (idxS l10 n2 l6.length (w64 (n12 - (1 : Int)))).bind fun v14 =>
    (fnb v13 v14).bind fun v15 =>
    if (!v15) = true then
      (idxS l10 n2 l6.length n12).bind fun v18 =>
      (idx l10 n11).bind fun v19 =>
      slices_CompactFunc_Fix_Fix_j1 n12 (l10.set n11.toNat v18) (w64 (n11 + (1 : Int)))
    else
      slices_CompactFunc_Fix_Fix_j1 n12 l10 n11
  else
    Option.map .inr (slices_CompactFunc_Fix_Fix_k2 l10 n11)

noncomputable def slices_CompactFunc_Fix_Fix_l2 (fnb : Fix → Fix → Option Bool) (n2 : Int) (l6 : List Fix) (l10 : List Fix) (n11 : Int) (n12 : Int) : Option (Int ⊕ (List Fix)) :=
  iter (fun x : (List Fix) × Int × Int => slices_CompactFunc_Fix_Fix_b2 fnb n2 l6 x.1 x.2.1 x.2.2) (l10, n11, n12)

noncomputable def slices_CompactFunc_Fix_Fix_b1 (p0x0 : List Fix) (fnb : Fix → Fix → Option Bool) (n2 : Int) : Option (Int ⊕ (List Fix)) :=
  if n2 < (p0x0.length : Int) then
    (idx p0x0 n2).bind fun v3 =>
    (idx p0x0 (w64 (n2 - (1 : Int)))).bind fun v4 =>
    (fnb v3 v4).bind fun v5 =>
    if v5 = true then
      (slc p0x0 n2 (p0x0.length : Int)).bind fun l6 =>
      slices_CompactFunc_Fix_Fix_l2 fnb n2 l6 p0x0 n2 (1 : Int)
    else
      some (.inl (w64 (n2 + (1 : Int))))
  else
    Option.map .inr (some p0x0)

noncomputable def slices_CompactFunc_Fix_Fix_l1 (p0x0 : List Fix) (fnb : Fix → Fix → Option Bool) (n2 : Int) : Option (List Fix) :=
  iter (fun x : Int => slices_CompactFunc_Fix_Fix_b1 p0x0 fnb x) n2

noncomputable def slices_CompactFunc_Fix_Fix (p0x0 : List Fix) (fnb : Fix → Fix → Option Bool) : Option (List Fix) :=
  if (p0x0.length : Int) < (2 : Int) then
    some p0x0
  else
    slices_CompactFunc_Fix_Fix_l1 p0x0 fnb (1 : Int)

noncomputable def Stream_Odd (p0x0 : Fleetmake_Stream) (p1x0 : Int) (p2x0 : Int) : Option (Int × Fleetmake_Stream) :=
  (Stream_Flip p0x0 (12 : Int)).bind fun v1 =>
  if v1.1 = true then
    (Stream_Pick v1.2 [w64 (p1x0 - (1 : Int)), w64 (p2x0 + (1 : Int)), p1x0, p2x0, (-1099511627776 : Int), (1099511627776 : Int)]).bind fun v2 =>
    some (v2.1, v2.2)
  else
    (Stream_Range v1.2 p1x0 p2x0).bind fun v3 =>
    some (v3.1, v3.2)

noncomputable def Stream_Fixes_j3 (l28 : List Int) (n29 : Int) (l30 : List Fix) : Option ((List Fix) × Fleetmake_Stream) :=
  some (l30, (⟨l28, n29⟩ : Fleetmake_Stream))

noncomputable def Stream_Fixes_j2 (l21 : List Fix) (l24 : List Int) (n25 : Int) (c26 : Bool) : Option ((List Fix) × Fleetmake_Stream) :=
  if c26 = true then
    (Stream_Next (⟨l24, n25⟩ : Fleetmake_Stream) (l21.length : Int)).bind fun v31 =>
    (idx l21 v31.1).bind fun v32 =>
    (Stream_Some v31.2 [v32.Device, ([] : Str), ([65] : Str)]).bind fun v33 =>
    (Stream_Odd v33.2 (0 : Int) (10 : Int)).bind fun v34 =>
    (Stream_Odd v34.2 (-10000 : Int) (10000 : Int)).bind fun v35 =>
    Stream_Fixes_j3 v35.2.L v35.2.at_ (((l21.set v31.1.toNat (⟨v33.1, v32.At, v32.X, v32.Y, v32.Error⟩ : Fix)).set v31.1.toNat (⟨v33.1, v34.1, v32.X, v32.Y, v32.Error⟩ : Fix)).set v31.1.toNat (⟨v33.1, v34.1, v32.X, v35.1, v32.Error⟩ : Fix))
  else
    Stream_Fixes_j3 l24 n25 l21

noncomputable def Stream_Fixes_j1 (v19 : Bool × Fleetmake_Stream) (l21 : List Fix) : Option ((List Fix) × Fleetmake_Stream) :=
  if (0 : Int) < (l21.length : Int) then
    (Stream_Flip v19.2 (20 : Int)).bind fun v27 =>
    Stream_Fixes_j2 l21 v27.2.L v27.2.at_ v27.1
  else
    Stream_Fixes_j2 l21 v19.2.L v19.2.at_ false

noncomputable def Stream_Fixes_k4 (l6 : List Int) (n7 : Int) (l9 : List Fix) : Option ((List Fix) × Fleetmake_Stream) :=
  (lenOk l9.length (fun r : (List Fix) => r.length) (slices_SortStableFunc_Fix_Fix l9 (fun y0 y1 => some (Q_FixOrder y0 y1)))).bind fun v18 =>
  (Stream_Flip (⟨l6, n7⟩ : Fleetmake_Stream) (40 : Int)).bind fun v19 =>
  if (!v19.1) = true then
    (slices_CompactFunc_Fix_Fix v18 (fun y0 y1 => some (Stream_Fixes_1x y0 y1))).bind fun v22 =>
    Stream_Fixes_j1 v19 v22
  else
    Stream_Fixes_j1 v19 v18

noncomputable def Stream_Fixes_b1 (p1x0 : Int) (l6 : List Int) (n7 : Int) (l9 : List Fix) (n10 : Int) : Option (((List Int) × Int × (List Fix) × Int) ⊕ ((List Fix) × Fleetmake_Stream)) :=
  if n10 < p1x0 then
    (Stream_Some (⟨l6, n7⟩ : Fleetmake_Stream) [([100] : Str), ([100] : Str), ([101] : Str)]).bind fun v12 =>
    (Stream_Pick v12.2 [(0 : Int), (1 : Int), (5 : Int), (10 : Int)]).bind fun v13 =>
    (Stream_Pick v13.2 [(0 : Int), (1 : Int)]).bind fun v14 =>
    (Stream_Pick v14.2 [(0 : Int), (1 : Int), (2 : Int)]).bind fun v15 =>
    (app l9 [(⟨v12.1, v13.1, v14.1, v15.1, (0 : Int)⟩ : Fix)]).bind fun l16 =>
    some (.inl (v15.2.L, v15.2.at_, l16, w64 (n10 + (1 : Int))))
  else
    Option.map .inr (Stream_Fixes_k4 l6 n7 l9)

noncomputable def Stream_Fixes_l1 (p1x0 : Int) (l6 : List Int) (n7 : Int) (l9 : List Fix) (n10 : Int) : Option ((List Fix) × Fleetmake_Stream) :=
  iter (fun x : (List Int) × Int × (List Fix) × Int => Stream_Fixes_b1 p1x0 x.1 x.2.1 x.2.2.1 x.2.2.2) (l6, n7, l9, n10)

noncomputable def Stream_Fixes (p0x0 : Fleetmake_Stream) (p1x0 : Int) : Option ((List Fix) × Fleetmake_Stream) :=
  Stream_Fixes_l1 p1x0 p0x0.L p0x0.at_ [] (0 : Int)

/-- A copy of a list. -/
noncomputable def slices_Clone_Fix_Fix (p0x0 : List Fix) : Option (List Fix) :=
  app [] p0x0

noncomputable def base_Key_j2 (n5 : Int) (c7 : Bool) : Option (Int ⊕ Bool) :=
  if c7 = true then
    Option.map .inr (some false)
  else
    some (.inl (w64 (n5 + (1 : Int))))

noncomputable def base_Key_b1 (p0x0 : Str) (n5 : Int) : Option (Int ⊕ Bool) :=
  if n5 < (p0x0.length : Int) then
    (idx p0x0 n5).bind fun c6 =>
    base_Key_j2 n5 (if (97 : Int) ≤ (c6.toNat : Int) then if (c6.toNat : Int) ≤ (122 : Int) then !true else if (48 : Int) ≤ (c6.toNat : Int) then if (c6.toNat : Int) ≤ (57 : Int) then !true else if (c6.toNat : Int) = (45 : Int) then !true else decide (¬ ((c6.toNat : Int) = (95 : Int))) else if (c6.toNat : Int) = (45 : Int) then !true else decide (¬ ((c6.toNat : Int) = (95 : Int))) else if (48 : Int) ≤ (c6.toNat : Int) then if (c6.toNat : Int) ≤ (57 : Int) then !true else if (c6.toNat : Int) = (45 : Int) then !true else decide (¬ ((c6.toNat : Int) = (95 : Int))) else if (c6.toNat : Int) = (45 : Int) then !true else decide (¬ ((c6.toNat : Int) = (95 : Int))))
  else
    Option.map .inr (some true)

noncomputable def base_Key_l1 (p0x0 : Str) (n5 : Int) : Option Bool :=
  iter (fun x : Int => base_Key_b1 p0x0 x) n5

noncomputable def base_Key_j1 (p0x0 : Str) (c1 : Bool) : Option Bool :=
  if c1 = true then
    some false
  else
    base_Key_l1 p0x0 (0 : Int)

noncomputable def base_Key (p0x0 : Str) : Option Bool :=
  if p0x0 = ([] : Str) then
    base_Key_j1 p0x0 true
  else
    if (40 : Int) < (p0x0.length : Int) then
      base_Key_j1 p0x0 true
    else
      (idx p0x0 (0 : Int)).bind fun c2 =>
      if (c2.toNat : Int) < (97 : Int) then
        base_Key_j1 p0x0 true
      else
        (idx p0x0 (0 : Int)).bind fun c3 =>
        base_Key_j1 p0x0 (decide ((122 : Int) < (c3.toNat : Int)))

noncomputable def base_Out_j1 (c1 : Bool) : Bool :=
  c1

noncomputable def base_Out (p0x0 : Int) (p1x0 : Int) (p2x0 : Int) : Bool :=
  base_Out_j1 ((decide (p0x0 < p1x0)) || (decide (p2x0 < p0x0)))

noncomputable def base_Moment (p0x0 : Int) : Bool :=
  !(base_Out p0x0 (0 : Int) (345686399999 : Int))

noncomputable def place_spot (p0x0 : Fix) : Spot :=
  (⟨p0x0.X, p0x0.Y⟩ : Spot)

noncomputable def place_isSpot_j1 (c2 : Bool) : Bool :=
  c2

noncomputable def place_isSpot (p0x0 : Spot) : Bool :=
  place_isSpot_j1 ((!(base_Out p0x0.X (-10000 : Int) (10000 : Int))) && (!(base_Out p0x0.Y (-10000 : Int) (10000 : Int))))

noncomputable def cmp_isNaN_int (p0x0 : Int) : Bool :=
  decide (p0x0 ≠ p0x0)

noncomputable def cmp_Compare_int (p0x0 : Int) (p1x0 : Int) : Int :=
  if (cmp_isNaN_int p0x0) = true then
    if (cmp_isNaN_int p1x0) = true then
      (0 : Int)
    else
      (-1 : Int)
  else
    if (cmp_isNaN_int p1x0) = true then
      (1 : Int)
    else
      if p0x0 < p1x0 then
        (-1 : Int)
      else
        if p1x0 < p0x0 then
          (1 : Int)
        else
          (0 : Int)

noncomputable def cmp_Or_int_b1 (p0x0 : List Int) (n2 : Int) : Option (Int ⊕ Int) :=
  if n2 < (p0x0.length : Int) then
    (idx p0x0 n2).bind fun v3 =>
    if v3 ≠ (0 : Int) then
      Option.map .inr (some v3)
    else
      some (.inl (w64 (n2 + (1 : Int))))
  else
    Option.map .inr (some (0 : Int))

noncomputable def cmp_Or_int_l1 (p0x0 : List Int) (n2 : Int) : Option Int :=
  iter (fun x : Int => cmp_Or_int_b1 p0x0 x) n2

noncomputable def cmp_Or_int (p0x0 : List Int) : Option Int :=
  cmp_Or_int_l1 p0x0 (0 : Int)

noncomputable def place_byDevice (p0x0 : Fix) (p1x0 : Fix) : Option Int :=
  (cmp_Or_int [(Lib.compareBytes p0x0.Device p1x0.Device), (cmp_Compare_int p0x0.At p1x0.At)]).bind fun v3 =>
  some v3

noncomputable def place_CheckFixes_j2 (n2 : Int) (c7 : Bool) : Option (Int ⊕ Int) :=
  if c7 = true then
    Option.map .inr (some (7 : Int))
  else
    some (.inl (w64 (n2 + (1 : Int))))

noncomputable def place_CheckFixes_j1 (p0x0 : List Fix) (n2 : Int) (v3 : Fix) (c6 : Bool) : Option (Int ⊕ Int) :=
  if c6 = true then
    Option.map .inr (some (1 : Int))
  else
    if (0 : Int) < n2 then
      (idx p0x0 (w64 (n2 - (1 : Int)))).bind fun v8 =>
      (place_byDevice v3 v8).bind fun v9 =>
      place_CheckFixes_j2 n2 (decide (v9 ≤ (0 : Int)))
    else
      place_CheckFixes_j2 n2 false

noncomputable def place_CheckFixes_b1 (p0x0 : List Fix) (n2 : Int) : Option (Int ⊕ Int) :=
  if n2 < (p0x0.length : Int) then
    (idx p0x0 n2).bind fun v3 =>
    (base_Key v3.Device).bind fun v5 =>
    if (!v5) = true then
      Option.map .inr (some (5 : Int))
    else
      place_CheckFixes_j1 p0x0 n2 v3 ((!(base_Moment v3.At)) || ((!(place_isSpot (place_spot v3))) || (base_Out v3.Error (0 : Int) (10000 : Int))))
  else
    Option.map .inr (some (0 : Int))

noncomputable def place_CheckFixes_l1 (p0x0 : List Fix) (n2 : Int) : Option Int :=
  iter (fun x : Int => place_CheckFixes_b1 p0x0 x) n2

noncomputable def place_CheckFixes (p0x0 : List Fix) : Option Int :=
  if (2000 : Int) < (p0x0.length : Int) then
    some (2 : Int)
  else
    place_CheckFixes_l1 p0x0 (0 : Int)

noncomputable def base_First_b1 (p0x0 : List Int) (n2 : Int) : Option (Int ⊕ Int) :=
  if n2 < (p0x0.length : Int) then
    (idx p0x0 n2).bind fun v3 =>
    if v3 ≠ (0 : Int) then
      Option.map .inr (some v3)
    else
      some (.inl (w64 (n2 + (1 : Int))))
  else
    Option.map .inr (some (0 : Int))

noncomputable def base_First_l1 (p0x0 : List Int) (n2 : Int) : Option Int :=
  iter (fun x : Int => base_First_b1 p0x0 x) n2

noncomputable def base_First (p0x0 : List Int) : Option Int :=
  base_First_l1 p0x0 (0 : Int)

noncomputable def slices_Grow_Fix_Fix_n0x_j1 (l2 : List Fix) : Option (List Fix) :=
  some l2

noncomputable def slices_Grow_Fix_Fix_n0x (p1x0 : Int) : Option (List Fix) :=
  if p1x0 < (0 : Int) then
    none
  else
    if (0 : Int) < (w64 (p1x0 - (w64 ((0 : Int) - (0 : Int))))) then
      (slc ([] : List Fix) (0 : Int) (0 : Int)).bind fun l3 =>
      (mkS (⟨[], (0 : Int), (0 : Int), (0 : Int), (0 : Int)⟩ : Fix) (w64 (p1x0 - (w64 ((0 : Int) - (0 : Int))))) (w64 (p1x0 - (w64 ((0 : Int) - (0 : Int)))))).bind fun l4 =>
      (slc l4 (0 : Int) (0 : Int)).bind fun l6 =>
      slices_Grow_Fix_Fix_n0x_j1 l6
    else
      slices_Grow_Fix_Fix_n0x_j1 []

noncomputable def slices_Concat_Fix_Fix_b2 (p0x0 : List (List Fix)) (l12 : List Fix) (n13 : Int) : Option (((List Fix) × Int) ⊕ (List Fix)) :=
  if n13 < (p0x0.length : Int) then
    (idx p0x0 n13).bind fun v14 =>
    (app l12 v14).bind fun l15 =>
    some (.inl (l15, w64 (n13 + (1 : Int))))
  else
    Option.map .inr (some l12)

noncomputable def slices_Concat_Fix_Fix_l2 (p0x0 : List (List Fix)) (l12 : List Fix) (n13 : Int) : Option (List Fix) :=
  iter (fun x : (List Fix) × Int => slices_Concat_Fix_Fix_b2 p0x0 x.1 x.2) (l12, n13)

noncomputable def slices_Concat_Fix_Fix_k1 (p0x0 : List (List Fix)) (n3 : Int) : Option (List Fix) :=
  (slices_Grow_Fix_Fix_n0x n3).bind fun v6 =>
  slices_Concat_Fix_Fix_l2 p0x0 v6 (0 : Int)

noncomputable def slices_Concat_Fix_Fix_b1 (p0x0 : List (List Fix)) (n3 : Int) (n4 : Int) : Option ((Int × Int) ⊕ (List Fix)) :=
  if n4 < (p0x0.length : Int) then
    (idx p0x0 n4).bind fun v5 =>
    if (w64 (n3 + (v5.length : Int))) < (0 : Int) then
      none
    else
      some (.inl (w64 (n3 + (v5.length : Int)), w64 (n4 + (1 : Int))))
  else
    Option.map .inr (slices_Concat_Fix_Fix_k1 p0x0 n3)

noncomputable def slices_Concat_Fix_Fix_l1 (p0x0 : List (List Fix)) (n3 : Int) (n4 : Int) : Option (List Fix) :=
  iter (fun x : Int × Int => slices_Concat_Fix_Fix_b1 p0x0 x.1 x.2) (n3, n4)

noncomputable def slices_Concat_Fix_Fix (p0x0 : List (List Fix)) : Option (List Fix) :=
  slices_Concat_Fix_Fix_l1 p0x0 (0 : Int) (0 : Int)

noncomputable def slices_Compact_Fix_Fix_j1 (n11 : Int) (l14 : List Fix) (n15 : Int) : Option (((List Fix) × Int × Int) ⊕ (Int ⊕ (List Fix))) :=
  some (.inl (l14, n15, w64 (n11 + (1 : Int))))

noncomputable def slices_Compact_Fix_Fix_k2 (l9 : List Fix) (n10 : Int) : Option (Int ⊕ (List Fix)) :=
  (slc l9 n10 (l9.length : Int)).bind fun l18 =>
  (slc (clr l9 n10 l18.length (⟨[], (0 : Int), (0 : Int), (0 : Int), (0 : Int)⟩ : Fix)) (0 : Int) n10).bind fun l19 =>
  Option.map .inr (some l19)

noncomputable def slices_Compact_Fix_Fix_b2 (n2 : Int) (l5 : List Fix) (l9 : List Fix) (n10 : Int) (n11 : Int) : Option (((List Fix) × Int × Int) ⊕ (Int ⊕ (List Fix))) :=
  if n11 < (l5.length : Int) then
    (idxS l9 n2 l5.length n11).bind fun v12 =>
    (idxS l9 n2 l5.length (w64 (n11 - (1 : Int)))).bind fun v13 =>
    if v12 ≠ v13 then
      (idxS l9 n2 l5.length n11).bind fun v16 =>
      (idx l9 n10).bind fun v17 =>
      slices_Compact_Fix_Fix_j1 n11 (l9.set n10.toNat v16) (w64 (n10 + (1 : Int)))
    else
      slices_Compact_Fix_Fix_j1 n11 l9 n10
  else
    Option.map .inr (slices_Compact_Fix_Fix_k2 l9 n10)

noncomputable def slices_Compact_Fix_Fix_l2 (n2 : Int) (l5 : List Fix) (l9 : List Fix) (n10 : Int) (n11 : Int) : Option (Int ⊕ (List Fix)) :=
  iter (fun x : (List Fix) × Int × Int => slices_Compact_Fix_Fix_b2 n2 l5 x.1 x.2.1 x.2.2) (l9, n10, n11)

noncomputable def slices_Compact_Fix_Fix_b1 (p0x0 : List Fix) (n2 : Int) : Option (Int ⊕ (List Fix)) :=
  if n2 < (p0x0.length : Int) then
    (idx p0x0 n2).bind fun v3 =>
    (idx p0x0 (w64 (n2 - (1 : Int)))).bind fun v4 =>
    if v3 = v4 then
      (slc p0x0 n2 (p0x0.length : Int)).bind fun l5 =>
      slices_Compact_Fix_Fix_l2 n2 l5 p0x0 n2 (1 : Int)
    else
      some (.inl (w64 (n2 + (1 : Int))))
  else
    Option.map .inr (some p0x0)

noncomputable def slices_Compact_Fix_Fix_l1 (p0x0 : List Fix) (n2 : Int) : Option (List Fix) :=
  iter (fun x : Int => slices_Compact_Fix_Fix_b1 p0x0 x) n2

noncomputable def slices_Compact_Fix_Fix (p0x0 : List Fix) : Option (List Fix) :=
  if (p0x0.length : Int) < (2 : Int) then
    some p0x0
  else
    slices_Compact_Fix_Fix_l1 p0x0 (1 : Int)

noncomputable def place_Merge_k1 (v8 : (List Fix)) : Option ((List Fix) × Int) :=
  if (2000 : Int) < (v8.length : Int) then
    some ([], (2 : Int))
  else
    some (v8, (0 : Int))

noncomputable def place_Merge_b1 (v8 : (List Fix)) (n11 : Int) : Option (Int ⊕ ((List Fix) × Int)) :=
  if n11 < (v8.length : Int) then
    (idx v8 (w64 (n11 - (1 : Int)))).bind fun v12 =>
    (idx v8 n11).bind fun v13 =>
    (place_byDevice v12 v13).bind fun v14 =>
    if v14 = (0 : Int) then
      Option.map .inr (some ([], (13 : Int)))
    else
      some (.inl (w64 (n11 + (1 : Int))))
  else
    Option.map .inr (place_Merge_k1 v8)

noncomputable def place_Merge_l1 (v8 : (List Fix)) (n11 : Int) : Option ((List Fix) × Int) :=
  iter (fun x : Int => place_Merge_b1 v8 x) n11

noncomputable def place_Merge (p0x0 : List Fix) (p1x0 : List Fix) : Option ((List Fix) × Int) :=
  (place_CheckFixes p0x0).bind fun v1 =>
  (place_CheckFixes p1x0).bind fun v2 =>
  (base_First [v1, v2]).bind fun v3 =>
  if v3 ≠ (0 : Int) then
    some ([], v3)
  else
    (slices_Concat_Fix_Fix [p0x0, p1x0]).bind fun v5 =>
    (lenOk v5.length (fun r : (List Fix) => r.length) (slices_SortStableFunc_Fix_Fix v5 (fun y0 y1 => place_byDevice y0 y1))).bind fun v7 =>
    (slices_Compact_Fix_Fix v7).bind fun v8 =>
    place_Merge_l1 v8 (1 : Int)

noncomputable def place_Of_j1 (n10 : Int) (l15 : List Fix) : Option (((List Fix) × Int) ⊕ ((List Fix) × Int)) :=
  some (.inl (l15, w64 (n10 + (1 : Int))))

noncomputable def place_Of_b1 (p0x0 : List Fix) (p1x0 : Str) (l9 : List Fix) (n10 : Int) : Option (((List Fix) × Int) ⊕ ((List Fix) × Int)) :=
  if n10 < (p0x0.length : Int) then
    (idx p0x0 n10).bind fun v12 =>
    if v12.Device = p1x0 then
      (app l9 [v12]).bind fun l16 =>
      place_Of_j1 n10 l16
    else
      place_Of_j1 n10 l9
  else
    Option.map .inr (some (l9, (0 : Int)))

noncomputable def place_Of_l1 (p0x0 : List Fix) (p1x0 : Str) (l9 : List Fix) (n10 : Int) : Option ((List Fix) × Int) :=
  iter (fun x : (List Fix) × Int => place_Of_b1 p0x0 p1x0 x.1 x.2) (l9, n10)

noncomputable def place_Of (p0x0 : List Fix) (p1x0 : Str) : Option ((List Fix) × Int) :=
  (place_CheckFixes p0x0).bind fun v1 =>
  if v1 ≠ (0 : Int) then
    some ([], v1)
  else
    (base_Key p1x0).bind fun v3 =>
    if (!v3) = true then
      some ([], (5 : Int))
    else
      place_Of_l1 p0x0 p1x0 [] (0 : Int)

noncomputable def Q_in_j1 (c1 : Bool) : Bool :=
  c1

noncomputable def Q_in (p0x0 : Int) (p1x0 : Int) (p2x0 : Int) : Bool :=
  Q_in_j1 ((decide (p1x0 ≤ p0x0)) && (decide (p0x0 ≤ p2x0)))

noncomputable def Q_only_b1 (p0x0 : Str) (p1x0 : Str) (n2 : Int) : Option (Int ⊕ Bool) :=
  if n2 < (p0x0.length : Int) then
    (idx p0x0 n2).bind fun c3 =>
    if (indexByteI p1x0 (c3.toNat : Int)) < (0 : Int) then
      Option.map .inr (some false)
    else
      some (.inl (w64 (n2 + (1 : Int))))
  else
    Option.map .inr (some true)

noncomputable def Q_only_l1 (p0x0 : Str) (p1x0 : Str) (n2 : Int) : Option Bool :=
  iter (fun x : Int => Q_only_b1 p0x0 p1x0 x) n2

noncomputable def Q_only (p0x0 : Str) (p1x0 : Str) : Option Bool :=
  Q_only_l1 p0x0 p1x0 (0 : Int)

noncomputable def Q_Key_j1 (c1 : Bool) : Option Bool :=
  some c1

noncomputable def Q_Key (p0x0 : Str) : Option Bool :=
  if (Q_in (p0x0.length : Int) (1 : Int) (40 : Int)) = true then
    (slc p0x0 (0 : Int) (1 : Int)).bind fun l2 =>
    (Q_only l2 ([97, 98, 99, 100, 101, 102, 103, 104, 105, 106, 107, 108, 109, 110, 111, 112, 113, 114, 115, 116, 117, 118, 119, 120, 121, 122] : Str)).bind fun v3 =>
    if v3 = true then
      (Q_only p0x0 ([97, 98, 99, 100, 101, 102, 103, 104, 105, 106, 107, 108, 109, 110, 111, 112, 113, 114, 115, 116, 117, 118, 119, 120, 121, 122, 48, 49, 50, 51, 52, 53, 54, 55, 56, 57, 45, 95] : Str)).bind fun v4 =>
      Q_Key_j1 v4
    else
      Q_Key_j1 false
  else
    Q_Key_j1 false

noncomputable def Q_Moment (p0x0 : Int) : Bool :=
  (Q_in p0x0 (0 : Int) (345686399999 : Int))

noncomputable def Q_spotOf (p0x0 : Fix) : Spot :=
  (⟨p0x0.X, p0x0.Y⟩ : Spot)

noncomputable def Q_SpotFault_j1 (c2 : Bool) : Int :=
  if c2 = true then
    (1 : Int)
  else
    (0 : Int)

noncomputable def Q_SpotFault (p0x0 : Spot) : Int :=
  Q_SpotFault_j1 ((!(Q_in p0x0.X (-10000 : Int) (10000 : Int))) || (!(Q_in p0x0.Y (-10000 : Int) (10000 : Int))))

noncomputable def Q_FixesFault_j2 (n2 : Int) (c7 : Bool) : Option (Int ⊕ Int) :=
  if c7 = true then
    Option.map .inr (some (7 : Int))
  else
    some (.inl (w64 (n2 + (1 : Int))))

noncomputable def Q_FixesFault_j1 (p0x0 : List Fix) (n2 : Int) (v3 : Fix) (c6 : Bool) : Option (Int ⊕ Int) :=
  if c6 = true then
    Option.map .inr (some (1 : Int))
  else
    if (0 : Int) < n2 then
      (idx p0x0 (w64 (n2 - (1 : Int)))).bind fun v8 =>
      Q_FixesFault_j2 n2 (decide ((0 : Int) ≤ (Q_FixOrder v8 v3)))
    else
      Q_FixesFault_j2 n2 false

noncomputable def Q_FixesFault_b1 (p0x0 : List Fix) (n2 : Int) : Option (Int ⊕ Int) :=
  if n2 < (p0x0.length : Int) then
    (idx p0x0 n2).bind fun v3 =>
    (Q_Key v3.Device).bind fun v5 =>
    if (!v5) = true then
      Option.map .inr (some (5 : Int))
    else
      Q_FixesFault_j1 p0x0 n2 v3 ((!(Q_Moment v3.At)) || ((decide ((Q_SpotFault (Q_spotOf v3)) ≠ (0 : Int))) || (!(Q_in v3.Error (0 : Int) (10000 : Int)))))
  else
    Option.map .inr (some (0 : Int))

noncomputable def Q_FixesFault_l1 (p0x0 : List Fix) (n2 : Int) : Option Int :=
  iter (fun x : Int => Q_FixesFault_b1 p0x0 x) n2

noncomputable def Q_FixesFault (p0x0 : List Fix) : Option Int :=
  if (2000 : Int) < (p0x0.length : Int) then
    some (2 : Int)
  else
    Q_FixesFault_l1 p0x0 (0 : Int)

noncomputable def L_when (p0x0 : Bool) (p1x0 : Int) : Int :=
  if p0x0 = true then
    p1x0
  else
    (0 : Int)

noncomputable def L_errs_b1 (p0x0 : List Int) (n2 : Int) : Option (Int ⊕ Int) :=
  if n2 < (p0x0.length : Int) then
    (idx p0x0 n2).bind fun v3 =>
    if v3 ≠ (0 : Int) then
      Option.map .inr (some v3)
    else
      some (.inl (w64 (n2 + (1 : Int))))
  else
    Option.map .inr (some (0 : Int))

noncomputable def L_errs_l1 (p0x0 : List Int) (n2 : Int) : Option Int :=
  iter (fun x : Int => L_errs_b1 p0x0 x) n2

noncomputable def L_errs (p0x0 : List Int) : Option Int :=
  L_errs_l1 p0x0 (0 : Int)

noncomputable def Q_FixesOf_j1 (n7 : Int) (c8 : Bool) : Option (Int ⊕ ((List Fix) × Int)) :=
  if c8 = true then
    Option.map .inr (some ([], (13 : Int)))
  else
    some (.inl (w64 (n7 + (1 : Int))))

noncomputable def Q_FixesOf_k2 (v4 : (List Fix)) : Option ((List Fix) × Int) :=
  if (2000 : Int) < (v4.length : Int) then
    some ([], (2 : Int))
  else
    some (v4, (0 : Int))

noncomputable def Q_FixesOf_b1 (v4 : (List Fix)) (n7 : Int) : Option (Int ⊕ ((List Fix) × Int)) :=
  if n7 < (v4.length : Int) then
    if (0 : Int) < n7 then
      (idx v4 (w64 (n7 - (1 : Int)))).bind fun v9 =>
      (idx v4 n7).bind fun v10 =>
      Q_FixesOf_j1 n7 (decide ((Q_FixOrder v9 v10) = (0 : Int)))
    else
      Q_FixesOf_j1 n7 false
  else
    Option.map .inr (Q_FixesOf_k2 v4)

noncomputable def Q_FixesOf_l1 (v4 : (List Fix)) (n7 : Int) : Option ((List Fix) × Int) :=
  iter (fun x : Int => Q_FixesOf_b1 v4 x) n7

noncomputable def Q_FixesOf (p0x0 : List Fix) (p1x0 : List Fix) : Option ((List Fix) × Int) :=
  (slices_Concat_Fix_Fix [p0x0, p1x0]).bind fun v1 =>
  (lenOk v1.length (fun r : (List Fix) => r.length) (slices_SortStableFunc_Fix_Fix v1 (fun y0 y1 => some (Q_FixOrder y0 y1)))).bind fun v3 =>
  (slices_Compact_Fix_Fix v3).bind fun v4 =>
  Q_FixesOf_l1 v4 (0 : Int)

noncomputable def L_FixesMerge_1x (p0x0 : Fix) (p1x0 : Str) : Bool :=
  decide (p0x0.Device ≠ p1x0)

noncomputable def slices_IndexFunc_Fix_Fix_b1 (p0x0 : List Fix) (fnb : Fix → Option Bool) (n2 : Int) : Option (Int ⊕ Int) :=
  if n2 < (p0x0.length : Int) then
    (idx p0x0 n2).bind fun v3 =>
    (fnb v3).bind fun v4 =>
    if v4 = true then
      Option.map .inr (some n2)
    else
      some (.inl (w64 (n2 + (1 : Int))))
  else
    Option.map .inr (some (-1 : Int))

noncomputable def slices_IndexFunc_Fix_Fix_l1 (p0x0 : List Fix) (fnb : Fix → Option Bool) (n2 : Int) : Option Int :=
  iter (fun x : Int => slices_IndexFunc_Fix_Fix_b1 p0x0 fnb x) n2

noncomputable def slices_IndexFunc_Fix_Fix (p0x0 : List Fix) (fnb : Fix → Option Bool) : Option Int :=
  slices_IndexFunc_Fix_Fix_l1 p0x0 fnb (0 : Int)

noncomputable def slices_DeleteFunc_Fix_Fix_j1 (n7 : Int) (l11 : List Fix) (n12 : Int) : Option (((List Fix) × Int × Int) ⊕ (List Fix)) :=
  some (.inl (l11, n12, w64 (n7 + (1 : Int))))

noncomputable def slices_DeleteFunc_Fix_Fix_k2 (l5 : List Fix) (n6 : Int) : Option (List Fix) :=
  (slc l5 n6 (l5.length : Int)).bind fun l14 =>
  (slc (clr l5 n6 l14.length (⟨[], (0 : Int), (0 : Int), (0 : Int), (0 : Int)⟩ : Fix)) (0 : Int) n6).bind fun l15 =>
  some l15

noncomputable def slices_DeleteFunc_Fix_Fix_b1 (fnb : Fix → Option Bool) (l5 : List Fix) (n6 : Int) (n7 : Int) : Option (((List Fix) × Int × Int) ⊕ (List Fix)) :=
  if n7 < (l5.length : Int) then
    (idx l5 n7).bind fun v8 =>
    (fnb v8).bind fun v10 =>
    if (!v10) = true then
      (idx l5 n6).bind fun v13 =>
      slices_DeleteFunc_Fix_Fix_j1 n7 (l5.set n6.toNat v8) (w64 (n6 + (1 : Int)))
    else
      slices_DeleteFunc_Fix_Fix_j1 n7 l5 n6
  else
    Option.map .inr (slices_DeleteFunc_Fix_Fix_k2 l5 n6)

noncomputable def slices_DeleteFunc_Fix_Fix_l1 (fnb : Fix → Option Bool) (l5 : List Fix) (n6 : Int) (n7 : Int) : Option (List Fix) :=
  iter (fun x : (List Fix) × Int × Int => slices_DeleteFunc_Fix_Fix_b1 fnb x.1 x.2.1 x.2.2) (l5, n6, n7)

noncomputable def slices_DeleteFunc_Fix_Fix (p0x0 : List Fix) (fnb : Fix → Option Bool) : Option (List Fix) :=
  (slices_IndexFunc_Fix_Fix p0x0 fnb).bind fun v1 =>
  if v1 = (-1 : Int) then
    some p0x0
  else
    slices_DeleteFunc_Fix_Fix_l1 fnb p0x0 v1 (w64 (v1 + (1 : Int)))

noncomputable def slices_Equal_Fix_Fix_b1 (p0x0 : List Fix) (p1x0 : List Fix) (n2 : Int) : Option (Int ⊕ Bool) :=
  if n2 < (p0x0.length : Int) then
    (idx p0x0 n2).bind fun v3 =>
    (idx p1x0 n2).bind fun v4 =>
    if v3 ≠ v4 then
      Option.map .inr (some false)
    else
      some (.inl (w64 (n2 + (1 : Int))))
  else
    Option.map .inr (some true)

noncomputable def slices_Equal_Fix_Fix_l1 (p0x0 : List Fix) (p1x0 : List Fix) (n2 : Int) : Option Bool :=
  iter (fun x : Int => slices_Equal_Fix_Fix_b1 p0x0 p1x0 x) n2

noncomputable def slices_Equal_Fix_Fix (p0x0 : List Fix) (p1x0 : List Fix) : Option Bool :=
  if (p0x0.length : Int) ≠ (p1x0.length : Int) then
    some false
  else
    slices_Equal_Fix_Fix_l1 p0x0 p1x0 (0 : Int)

noncomputable def place_Cell_b1 (p0x0 : Spot) (p1x0 : Int) (l8 : List Int) (n9 : Int) (n10 : Int) : Option (((List Int) × Int × Int) ⊕ (Str × Int)) :=
  if n10 < p1x0 then
    (quo (w64 (p0x0.X - (-16384 : Int))) (w64 (n9.tdiv (2 : Int)))).bind fun n12 =>
    (quo (w64 (p0x0.Y - (-16384 : Int))) (w64 (n9.tdiv (2 : Int)))).bind fun n13 =>
    (app l8 [IntKind.u8.wrap ((IntKind.u8.wrap ((48 : Int) + (IntKind.u8.wrap (n12.tmod (2 : Int))))) + (IntKind.u8.wrap ((2 : Int) * (IntKind.u8.wrap (n13.tmod (2 : Int))))))]).bind fun l14 =>
    some (.inl (l14, w64 (n9.tdiv (2 : Int)), w64 (n10 + (1 : Int))))
  else
    Option.map .inr (some (strB l8, (0 : Int)))

noncomputable def place_Cell_l1 (p0x0 : Spot) (p1x0 : Int) (l8 : List Int) (n9 : Int) (n10 : Int) : Option (Str × Int) :=
  iter (fun x : (List Int) × Int × Int => place_Cell_b1 p0x0 p1x0 x.1 x.2.1 x.2.2) (l8, n9, n10)

noncomputable def place_Cell_j1 (p0x0 : Spot) (p1x0 : Int) (c2 : Bool) : Option (Str × Int) :=
  if c2 = true then
    some (([] : Str), (1 : Int))
  else
    place_Cell_l1 p0x0 p1x0 [] (32768 : Int) (0 : Int)

noncomputable def place_Cell (p0x0 : Spot) (p1x0 : Int) : Option (Str × Int) :=
  place_Cell_j1 p0x0 p1x0 ((!(place_isSpot p0x0)) || (base_Out p1x0 (0 : Int) (15 : Int)))

noncomputable def L_placed_j1 (c2 : Bool) : Option Bool :=
  some c2

noncomputable def L_placed : Option Bool :=
  (place_Cell (⟨(0 : Int), (0 : Int)⟩ : Spot) (1 : Int)).bind fun v1 =>
  L_placed_j1 ((decide (v1.2 = (0 : Int))) && (decide (v1.1 = ([51] : Str))))

noncomputable def L_FixesMerge_j5 (c43 : Bool) : Option Bool :=
  some c43

noncomputable def L_FixesMerge_j4 (v20 : (List Fix) × Int) (v22 : (List Fix) × Int) (v27 : Int) (n30 : Int) (l32 : List Fix) (l37 : List Fix) : Option Bool :=
  if v20.2 = n30 then
    (slices_Equal_Fix_Fix v20.1 l32).bind fun v44 =>
    if v44 = true then
      if v22.2 = v27 then
        (slices_Equal_Fix_Fix v22.1 l37).bind fun v45 =>
        if v45 = true then
          (L_placed).bind fun v46 =>
          L_FixesMerge_j5 v46
        else
          L_FixesMerge_j5 false
      else
        L_FixesMerge_j5 false
    else
      L_FixesMerge_j5 false
  else
    L_FixesMerge_j5 false

noncomputable def L_FixesMerge_j3 (v3 : (List Fix) × Fleetmake_Stream) (v8 : Str × Fleetmake_Stream) (v20 : (List Fix) × Int) (v22 : (List Fix) × Int) (v27 : Int) (n30 : Int) (l32 : List Fix) : Option Bool :=
  if v27 = (0 : Int) then
    (slices_Clone_Fix_Fix v3.1).bind fun v38 =>
    (slices_DeleteFunc_Fix_Fix v38 (fun y0 => some (L_FixesMerge_1x y0 v8.1))).bind fun v40 =>
    L_FixesMerge_j4 v20 v22 v27 n30 l32 v40
  else
    L_FixesMerge_j4 v20 v22 v27 n30 l32 []

noncomputable def L_FixesMerge_j2 (v3 : (List Fix) × Fleetmake_Stream) (v8 : Str × Fleetmake_Stream) (l15 : List Fix) : Option Bool :=
  (place_Merge v3.1 l15).bind fun v20 =>
  (place_Of v3.1 v8.1).bind fun v22 =>
  (Q_FixesFault v3.1).bind fun v24 =>
  (place_CheckFixes v3.1).bind fun v25 =>
  if v25 ≠ v24 then
    some false
  else
    (Q_Key v8.1).bind fun v26 =>
    (L_errs [v24, (L_when (!v26) (5 : Int))]).bind fun v27 =>
    (Q_FixesFault l15).bind fun v28 =>
    (L_errs [v24, v28]).bind fun v29 =>
    if v29 = (0 : Int) then
      (Q_FixesOf v3.1 l15).bind fun v33 =>
      L_FixesMerge_j3 v3 v8 v20 v22 v27 v33.2 v33.1
    else
      L_FixesMerge_j3 v3 v8 v20 v22 v27 v29 []

noncomputable def L_FixesMerge_j1 (v3 : (List Fix) × Fleetmake_Stream) (v6 : (List Fix) × Fleetmake_Stream) (v8 : Str × Fleetmake_Stream) (l10 : List Int) (n11 : Int) (c12 : Bool) : Option Bool :=
  if c12 = true then
    (Stream_Next (⟨l10, n11⟩ : Fleetmake_Stream) (v3.1.length : Int)).bind fun v16 =>
    (slc v3.1 v16.1 (v3.1.length : Int)).bind fun l17 =>
    (slices_Clone_Fix_Fix l17).bind fun v18 =>
    L_FixesMerge_j2 v3 v8 v18
  else
    L_FixesMerge_j2 v3 v8 v6.1

noncomputable def L_FixesMerge (p0x0 : List Int) : Option Bool :=
  (Stream_Range (⟨p0x0, (0 : Int)⟩ : Fleetmake_Stream) (0 : Int) (6 : Int)).bind fun v2 =>
  (Stream_Fixes v2.2 v2.1).bind fun v3 =>
  (Stream_Range v3.2 (0 : Int) (5 : Int)).bind fun v5 =>
  (Stream_Fixes v5.2 v5.1).bind fun v6 =>
  (Stream_Some v6.2 [([100] : Str), ([101] : Str), ([120] : Str), ([] : Str), ([65] : Str)]).bind fun v8 =>
  if (0 : Int) < (v3.1.length : Int) then
    (Stream_Flip v8.2 (2 : Int)).bind fun v13 =>
    L_FixesMerge_j1 v3 v6 v8 v13.2.L v13.2.at_ v13.1
  else
    L_FixesMerge_j1 v3 v6 v8 v8.2.L v8.2.at_ false

end Go.Beacon
