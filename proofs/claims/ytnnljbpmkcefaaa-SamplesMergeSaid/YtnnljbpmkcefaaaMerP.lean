/- Plain functions that the Go functions compute, written by shal.py. -/
import Derived.Test.YtnnljbpmkcefaaaCore
set_option linter.unusedVariables false
namespace Go.Beacon
open Go Go.Eng
structure Fleetmake_Stream where
  L : List Int
  at_ : Int
deriving DecidableEq, Inhabited
def Fleetmake_Stream.av (x : Fleetmake_Stream) : AV := .agg [.list 1 (x.L.map I), I x.at_]

structure Sample where
  Device : Str
  Metric : Str
  At : Int
  Value : Int
deriving DecidableEq, Inhabited
def Sample.av (x : Sample) : AV := .agg [.str x.Device, .str x.Metric, I x.At, I x.Value]

structure Window where
  From : Int
  To : Int
deriving DecidableEq, Inhabited
def Window.av (x : Window) : AV := .agg [I x.From, I x.To]

noncomputable def Below_j1 (n2 : Int) : Option Int :=
  some n2

noncomputable def Below (p0x0 : Int) (p1x0 : Int) : Option Int :=
  if p1x0 < (1 : Int) then
    some (0 : Int)
  else
    (rem p0x0 p1x0).bind fun n1 =>
    if n1 < (0 : Int) then
      Below_j1 (w64 (n1 + p1x0))
    else
      Below_j1 n1

noncomputable def Stream_Next (p0x0 : Fleetmake_Stream) (p1x0 : Int) : Option (Int × Fleetmake_Stream) :=
  if (p0x0.L.length : Int) = (0 : Int) then
    (Below (w64 ((w64 (p0x0.at_ + (1 : Int))) * (7919 : Int))) p1x0).bind fun v1 =>
    some (v1, (⟨p0x0.L, w64 (p0x0.at_ + (1 : Int))⟩ : Fleetmake_Stream))
  else
    (rem (w64 ((w64 (p0x0.at_ + (1 : Int))) - (1 : Int))) (p0x0.L.length : Int)).bind fun n2 =>
    (quo (w64 ((w64 (p0x0.at_ + (1 : Int))) - (1 : Int))) (p0x0.L.length : Int)).bind fun n3 =>
    (idx p0x0.L n2).bind fun v4 =>
    (Below v4 (1073741824 : Int)).bind fun v5 =>
    (Below (w64 (v5 + (w64 (n3 * (w64 ((7919 : Int) + n2)))))) p1x0).bind fun v6 =>
    some (v6, (⟨p0x0.L, w64 (p0x0.at_ + (1 : Int))⟩ : Fleetmake_Stream))

noncomputable def Stream_Range (p0x0 : Fleetmake_Stream) (p1x0 : Int) (p2x0 : Int) : Option (Int × Fleetmake_Stream) :=
  if p2x0 < p1x0 then
    some (p1x0, p0x0)
  else
    (Stream_Next p0x0 (w64 ((w64 (p2x0 - p1x0)) + (1 : Int)))).bind fun v1 =>
    some (w64 (p1x0 + v1.1), v1.2)

noncomputable def Stream_Some (p0x0 : Fleetmake_Stream) (p1x0 : List Str) : Option (Str × Fleetmake_Stream) :=
  (Stream_Next p0x0 (p1x0.length : Int)).bind fun v1 =>
  (idx p1x0 v1.1).bind fun v2 =>
  some (v2, v1.2)

noncomputable def Stream_Pick (p0x0 : Fleetmake_Stream) (p1x0 : List Int) : Option (Int × Fleetmake_Stream) :=
  (Stream_Next p0x0 (p1x0.length : Int)).bind fun v1 =>
  (idx p1x0 v1.1).bind fun v2 =>
  some (v2, v1.2)

noncomputable def cmp_isNaN_string (p0x0 : Str) : Bool :=
  decide (p0x0 ≠ p0x0)

noncomputable def cmp_Compare_string (p0x0 : Str) (p1x0 : Str) : Int :=
  if (cmp_isNaN_string p0x0) = true then
    if (cmp_isNaN_string p1x0) = true then
      (0 : Int)
    else
      (-1 : Int)
  else
    if (cmp_isNaN_string p1x0) = true then
      (1 : Int)
    else
      if (Op.bytesLess p0x0 p1x0) = true then
        (-1 : Int)
      else
        if (!(Op.bytesLess p0x0 p1x0 || p0x0 == p1x0)) = true then
          (1 : Int)
        else
          (0 : Int)

noncomputable def slices_Compare_string_string_k1 (p0x0 : List Str) (p1x0 : List Str) : Option Int :=
  if (p0x0.length : Int) < (p1x0.length : Int) then
    some (-1 : Int)
  else
    some (0 : Int)

noncomputable def slices_Compare_string_string_b1 (p0x0 : List Str) (p1x0 : List Str) (n2 : Int) : Option (Int ⊕ Int) :=
  if n2 < (p0x0.length : Int) then
    (idx p0x0 n2).bind fun v3 =>
    if (p1x0.length : Int) ≤ n2 then
      Option.map .inr (some (1 : Int))
    else
      (idx p1x0 n2).bind fun v4 =>
      if (cmp_Compare_string v3 v4) ≠ (0 : Int) then
        Option.map .inr (some (cmp_Compare_string v3 v4))
      else
        some (.inl (w64 (n2 + (1 : Int))))
  else
    Option.map .inr (slices_Compare_string_string_k1 p0x0 p1x0)

noncomputable def slices_Compare_string_string_l1 (p0x0 : List Str) (p1x0 : List Str) (n2 : Int) : Option Int :=
  iter (fun x : Int => slices_Compare_string_string_b1 p0x0 p1x0 x) n2

noncomputable def slices_Compare_string_string (p0x0 : List Str) (p1x0 : List Str) : Option Int :=
  slices_Compare_string_string_l1 p0x0 p1x0 (0 : Int)

noncomputable def Q_sign (p0x0 : Int) : Int :=
  if p0x0 < (0 : Int) then
    (-1 : Int)
  else
    if (0 : Int) < p0x0 then
      (1 : Int)
    else
      (0 : Int)

noncomputable def Q_SampleOrder (p0x0 : Sample) (p1x0 : Sample) : Option Int :=
  (slices_Compare_string_string [p0x0.Device, p0x0.Metric] [p1x0.Device, p1x0.Metric]).bind fun v3 =>
  if v3 ≠ (0 : Int) then
    some v3
  else
    some (Q_sign (w64 (p0x0.At - p1x0.At)))

noncomputable def slices_insertionSortCmpFunc_Sample_j1 (n4 : Int) (l7 : List Sample) (n8 : Int) (c9 : Bool) : Option (((List Sample) × Int) ⊕ (((List Sample) × Int) ⊕ (List Sample))) :=
  if c9 = true then
    (idx l7 (w64 (n8 - (1 : Int)))).bind fun v13 =>
    (idx l7 n8).bind fun v14 =>
    (idx l7 n8).bind fun v15 =>
    (idx (l7.set n8.toNat v13) (w64 (n8 - (1 : Int)))).bind fun v16 =>
    some (.inl ((l7.set n8.toNat v13).set (w64 (n8 - (1 : Int))).toNat v14, w64 (n8 - (1 : Int))))
  else
    Option.map .inr (some (.inl (l7, w64 (n4 + (1 : Int)))))

noncomputable def slices_insertionSortCmpFunc_Sample_b2 (p1x0 : Int) (fnd : Sample → Sample → Option Int) (n4 : Int) (l7 : List Sample) (n8 : Int) : Option (((List Sample) × Int) ⊕ (((List Sample) × Int) ⊕ (List Sample))) :=
  if p1x0 < n8 then
    (idx l7 n8).bind fun v10 =>
    (idx l7 (w64 (n8 - (1 : Int)))).bind fun v11 =>
    (fnd v10 v11).bind fun v12 =>
    slices_insertionSortCmpFunc_Sample_j1 n4 l7 n8 (decide (v12 < (0 : Int)))
  else
    slices_insertionSortCmpFunc_Sample_j1 n4 l7 n8 false

noncomputable def slices_insertionSortCmpFunc_Sample_l2 (p1x0 : Int) (fnd : Sample → Sample → Option Int) (n4 : Int) (l7 : List Sample) (n8 : Int) : Option (((List Sample) × Int) ⊕ (List Sample)) :=
  iter (fun x : (List Sample) × Int => slices_insertionSortCmpFunc_Sample_b2 p1x0 fnd n4 x.1 x.2) (l7, n8)

noncomputable def slices_insertionSortCmpFunc_Sample_b1 (p1x0 : Int) (p2x0 : Int) (fnd : Sample → Sample → Option Int) (l3 : List Sample) (n4 : Int) : Option (((List Sample) × Int) ⊕ (List Sample)) :=
  if n4 < p2x0 then
    slices_insertionSortCmpFunc_Sample_l2 p1x0 fnd n4 l3 n4
  else
    Option.map .inr (some l3)

noncomputable def slices_insertionSortCmpFunc_Sample_l1 (p1x0 : Int) (p2x0 : Int) (fnd : Sample → Sample → Option Int) (l3 : List Sample) (n4 : Int) : Option (List Sample) :=
  iter (fun x : (List Sample) × Int => slices_insertionSortCmpFunc_Sample_b1 p1x0 p2x0 fnd x.1 x.2) (l3, n4)

noncomputable def slices_insertionSortCmpFunc_Sample (p0x0 : List Sample) (p1x0 : Int) (p2x0 : Int) (fnd : Sample → Sample → Option Int) : Option (List Sample) :=
  slices_insertionSortCmpFunc_Sample_l1 p1x0 p2x0 fnd p0x0 (w64 (p1x0 + (1 : Int)))

noncomputable def slices_swapRangeCmpFunc_Sample_b1 (p1x0 : Int) (p2x0 : Int) (p3x0 : Int) (l3 : List Sample) (n4 : Int) : Option (((List Sample) × Int) ⊕ (List Sample)) :=
  if n4 < p3x0 then
    (idx l3 (w64 (p2x0 + n4))).bind fun v5 =>
    (idx l3 (w64 (p1x0 + n4))).bind fun v6 =>
    (idx l3 (w64 (p1x0 + n4))).bind fun v7 =>
    (idx (l3.set (w64 (p1x0 + n4)).toNat v5) (w64 (p2x0 + n4))).bind fun v8 =>
    some (.inl ((l3.set (w64 (p1x0 + n4)).toNat v5).set (w64 (p2x0 + n4)).toNat v6, w64 (n4 + (1 : Int))))
  else
    Option.map .inr (some l3)

noncomputable def slices_swapRangeCmpFunc_Sample_l1 (p1x0 : Int) (p2x0 : Int) (p3x0 : Int) (l3 : List Sample) (n4 : Int) : Option (List Sample) :=
  iter (fun x : (List Sample) × Int => slices_swapRangeCmpFunc_Sample_b1 p1x0 p2x0 p3x0 x.1 x.2) (l3, n4)

noncomputable def slices_swapRangeCmpFunc_Sample (p0x0 : List Sample) (p1x0 : Int) (p2x0 : Int) (p3x0 : Int) (fne : Sample → Sample → Option Int) : Option (List Sample) :=
  slices_swapRangeCmpFunc_Sample_l1 p1x0 p2x0 p3x0 p0x0 (0 : Int)

noncomputable def slices_rotateCmpFunc_Sample_j1 (l7 : List Sample) (n8 : Int) (n9 : Int) : Option (((List Sample) × Int × Int) ⊕ (List Sample)) :=
  some (.inl (l7, n8, n9))

noncomputable def slices_rotateCmpFunc_Sample_k2 (p2x0 : Int) (fne : Sample → Sample → Option Int) (l4 : List Sample) (n5 : Int) : Option (List Sample) :=
  (lenOk l4.length (fun r : (List Sample) => r.length) (slices_swapRangeCmpFunc_Sample l4 (w64 (p2x0 - n5)) p2x0 n5 fne)).bind fun v12 =>
  some v12

noncomputable def slices_rotateCmpFunc_Sample_b1 (p2x0 : Int) (fne : Sample → Sample → Option Int) (l4 : List Sample) (n5 : Int) (n6 : Int) : Option (((List Sample) × Int × Int) ⊕ (List Sample)) :=
  if n5 ≠ n6 then
    if n6 < n5 then
      (lenOk l4.length (fun r : (List Sample) => r.length) (slices_swapRangeCmpFunc_Sample l4 (w64 (p2x0 - n5)) p2x0 n6 fne)).bind fun v10 =>
      slices_rotateCmpFunc_Sample_j1 v10 (w64 (n5 - n6)) n6
    else
      (lenOk l4.length (fun r : (List Sample) => r.length) (slices_swapRangeCmpFunc_Sample l4 (w64 (p2x0 - n5)) (w64 ((w64 (p2x0 + n6)) - n5)) n5 fne)).bind fun v11 =>
      slices_rotateCmpFunc_Sample_j1 v11 n5 (w64 (n6 - n5))
  else
    Option.map .inr (slices_rotateCmpFunc_Sample_k2 p2x0 fne l4 n5)

noncomputable def slices_rotateCmpFunc_Sample_l1 (p2x0 : Int) (fne : Sample → Sample → Option Int) (l4 : List Sample) (n5 : Int) (n6 : Int) : Option (List Sample) :=
  iter (fun x : (List Sample) × Int × Int => slices_rotateCmpFunc_Sample_b1 p2x0 fne x.1 x.2.1 x.2.2) (l4, n5, n6)

noncomputable def slices_rotateCmpFunc_Sample (p0x0 : List Sample) (p1x0 : Int) (p2x0 : Int) (p3x0 : Int) (fne : Sample → Sample → Option Int) : Option (List Sample) :=
  slices_rotateCmpFunc_Sample_l1 p2x0 fne p0x0 (w64 (p2x0 - p1x0)) (w64 (p3x0 - p2x0))

noncomputable def slices_symMergeCmpFunc_Sample_j1 (n8 : Int) (n9 : Int) : Option ((Int × Int) ⊕ (List Sample)) :=
  some (.inl (n8, n9))

noncomputable def slices_symMergeCmpFunc_Sample_b2 (n3 : Int) (l12 : List Sample) (n13 : Int) : Option (((List Sample) × Int) ⊕ (List Sample)) :=
  if n13 < (w64 (n3 - (1 : Int))) then
    (idx l12 (w64 (n13 + (1 : Int)))).bind fun v14 =>
    (idx l12 n13).bind fun v15 =>
    (idx l12 n13).bind fun v16 =>
    (idx (l12.set n13.toNat v14) (w64 (n13 + (1 : Int)))).bind fun v17 =>
    some (.inl ((l12.set n13.toNat v14).set (w64 (n13 + (1 : Int))).toNat v15, w64 (n13 + (1 : Int))))
  else
    Option.map .inr (some l12)

noncomputable def slices_symMergeCmpFunc_Sample_l2 (n3 : Int) (l12 : List Sample) (n13 : Int) : Option (List Sample) :=
  iter (fun x : (List Sample) × Int => slices_symMergeCmpFunc_Sample_b2 n3 x.1 x.2) (l12, n13)

noncomputable def slices_symMergeCmpFunc_Sample_b1 (p0x0 : List Sample) (p1x0 : Int) (fne : Sample → Sample → Option Int) (n3 : Int) (n4 : Int) : Option ((Int × Int) ⊕ (List Sample)) :=
  if n3 < n4 then
    (idx p0x0 (w64 (shrI .u64 (IntKind.u64.wrap (w64 (n3 + n4))) (1 : Int)))).bind fun v5 =>
    (idx p0x0 p1x0).bind fun v6 =>
    (fne v5 v6).bind fun v7 =>
    if v7 < (0 : Int) then
      slices_symMergeCmpFunc_Sample_j1 (w64 ((w64 (shrI .u64 (IntKind.u64.wrap (w64 (n3 + n4))) (1 : Int))) + (1 : Int))) n4
    else
      slices_symMergeCmpFunc_Sample_j1 n3 (w64 (shrI .u64 (IntKind.u64.wrap (w64 (n3 + n4))) (1 : Int)))
  else
    Option.map .inr (slices_symMergeCmpFunc_Sample_l2 n3 p0x0 p1x0)

noncomputable def slices_symMergeCmpFunc_Sample_l1 (p0x0 : List Sample) (p1x0 : Int) (fne : Sample → Sample → Option Int) (n3 : Int) (n4 : Int) : Option (List Sample) :=
  iter (fun x : Int × Int => slices_symMergeCmpFunc_Sample_b1 p0x0 p1x0 fne x.1 x.2) (n3, n4)

noncomputable def slices_symMergeCmpFunc_Sample_j2 (n25 : Int) (n26 : Int) : Option ((Int × Int) ⊕ (List Sample)) :=
  some (.inl (n25, n26))

noncomputable def slices_symMergeCmpFunc_Sample_b4 (n20 : Int) (l29 : List Sample) (n30 : Int) : Option (((List Sample) × Int) ⊕ (List Sample)) :=
  if n20 < n30 then
    (idx l29 (w64 (n30 - (1 : Int)))).bind fun v31 =>
    (idx l29 n30).bind fun v32 =>
    (idx l29 n30).bind fun v33 =>
    (idx (l29.set n30.toNat v31) (w64 (n30 - (1 : Int)))).bind fun v34 =>
    some (.inl ((l29.set n30.toNat v31).set (w64 (n30 - (1 : Int))).toNat v32, w64 (n30 - (1 : Int))))
  else
    Option.map .inr (some l29)

noncomputable def slices_symMergeCmpFunc_Sample_l4 (n20 : Int) (l29 : List Sample) (n30 : Int) : Option (List Sample) :=
  iter (fun x : (List Sample) × Int => slices_symMergeCmpFunc_Sample_b4 n20 x.1 x.2) (l29, n30)

noncomputable def slices_symMergeCmpFunc_Sample_b3 (p0x0 : List Sample) (p2x0 : Int) (fne : Sample → Sample → Option Int) (n20 : Int) (n21 : Int) : Option ((Int × Int) ⊕ (List Sample)) :=
  if n20 < n21 then
    (idx p0x0 p2x0).bind fun v22 =>
    (idx p0x0 (w64 (shrI .u64 (IntKind.u64.wrap (w64 (n20 + n21))) (1 : Int)))).bind fun v23 =>
    (fne v22 v23).bind fun v24 =>
    if ¬ (v24 < (0 : Int)) then
      slices_symMergeCmpFunc_Sample_j2 (w64 ((w64 (shrI .u64 (IntKind.u64.wrap (w64 (n20 + n21))) (1 : Int))) + (1 : Int))) n21
    else
      slices_symMergeCmpFunc_Sample_j2 n20 (w64 (shrI .u64 (IntKind.u64.wrap (w64 (n20 + n21))) (1 : Int)))
  else
    Option.map .inr (slices_symMergeCmpFunc_Sample_l4 n20 p0x0 p2x0)

noncomputable def slices_symMergeCmpFunc_Sample_l3 (p0x0 : List Sample) (p2x0 : Int) (fne : Sample → Sample → Option Int) (n20 : Int) (n21 : Int) : Option (List Sample) :=
  iter (fun x : Int × Int => slices_symMergeCmpFunc_Sample_b3 p0x0 p2x0 fne x.1 x.2) (n20, n21)

noncomputable def slices_symMergeCmpFunc_Sample_j4 (n44 : Int) (n45 : Int) : Option ((Int × Int) ⊕ (List Sample)) :=
  some (.inl (n44, n45))

noncomputable def slices_symMergeCmpFunc_Sample_j10 (l53 : List Sample) : Option (List Sample) :=
  some l53

noncomputable def slices_symMergeCmpFunc_Sample_j9 (self : (List Sample) → Int → Int → Int → (Sample → Sample → Option Int) → Option (List Sample)) (p1x0 : Int) (p2x0 : Int) (p3x0 : Int) (fne : Sample → Sample → Option Int) (n39 : Int) (l50 : List Sample) (c52 : Bool) : Option (List Sample) :=
  if c52 = true then
    (lenOk l50.length (fun r : (List Sample) => r.length) (self l50 (w64 (shrI .u64 (IntKind.u64.wrap (w64 (p1x0 + p3x0))) (1 : Int))) (w64 ((w64 ((w64 (shrI .u64 (IntKind.u64.wrap (w64 (p1x0 + p3x0))) (1 : Int))) + p2x0)) - n39)) p3x0 fne)).bind fun v54 =>
    slices_symMergeCmpFunc_Sample_j10 v54
  else
    slices_symMergeCmpFunc_Sample_j10 l50

noncomputable def slices_symMergeCmpFunc_Sample_j8 (self : (List Sample) → Int → Int → Int → (Sample → Sample → Option Int) → Option (List Sample)) (p1x0 : Int) (p2x0 : Int) (p3x0 : Int) (fne : Sample → Sample → Option Int) (n39 : Int) (l50 : List Sample) : Option (List Sample) :=
  slices_symMergeCmpFunc_Sample_j9 self p1x0 p2x0 p3x0 fne n39 l50 ((decide ((w64 (shrI .u64 (IntKind.u64.wrap (w64 (p1x0 + p3x0))) (1 : Int))) < (w64 ((w64 ((w64 (shrI .u64 (IntKind.u64.wrap (w64 (p1x0 + p3x0))) (1 : Int))) + p2x0)) - n39)))) && (decide ((w64 ((w64 ((w64 (shrI .u64 (IntKind.u64.wrap (w64 (p1x0 + p3x0))) (1 : Int))) + p2x0)) - n39)) < p3x0)))

noncomputable def slices_symMergeCmpFunc_Sample_j7 (self : (List Sample) → Int → Int → Int → (Sample → Sample → Option Int) → Option (List Sample)) (p1x0 : Int) (p2x0 : Int) (p3x0 : Int) (fne : Sample → Sample → Option Int) (n39 : Int) (l47 : List Sample) (c49 : Bool) : Option (List Sample) :=
  if c49 = true then
    (lenOk l47.length (fun r : (List Sample) => r.length) (self l47 p1x0 n39 (w64 (shrI .u64 (IntKind.u64.wrap (w64 (p1x0 + p3x0))) (1 : Int))) fne)).bind fun v51 =>
    slices_symMergeCmpFunc_Sample_j8 self p1x0 p2x0 p3x0 fne n39 v51
  else
    slices_symMergeCmpFunc_Sample_j8 self p1x0 p2x0 p3x0 fne n39 l47

noncomputable def slices_symMergeCmpFunc_Sample_j6 (self : (List Sample) → Int → Int → Int → (Sample → Sample → Option Int) → Option (List Sample)) (p1x0 : Int) (p2x0 : Int) (p3x0 : Int) (fne : Sample → Sample → Option Int) (n39 : Int) (l47 : List Sample) : Option (List Sample) :=
  slices_symMergeCmpFunc_Sample_j7 self p1x0 p2x0 p3x0 fne n39 l47 ((decide (p1x0 < n39)) && (decide (n39 < (w64 (shrI .u64 (IntKind.u64.wrap (w64 (p1x0 + p3x0))) (1 : Int))))))

noncomputable def slices_symMergeCmpFunc_Sample_j5 (self : (List Sample) → Int → Int → Int → (Sample → Sample → Option Int) → Option (List Sample)) (p0x0 : List Sample) (p1x0 : Int) (p2x0 : Int) (p3x0 : Int) (fne : Sample → Sample → Option Int) (n39 : Int) (c46 : Bool) : Option (List Sample) :=
  if c46 = true then
    (lenOk p0x0.length (fun r : (List Sample) => r.length) (slices_rotateCmpFunc_Sample p0x0 n39 p2x0 (w64 ((w64 ((w64 (shrI .u64 (IntKind.u64.wrap (w64 (p1x0 + p3x0))) (1 : Int))) + p2x0)) - n39)) fne)).bind fun v48 =>
    slices_symMergeCmpFunc_Sample_j6 self p1x0 p2x0 p3x0 fne n39 v48
  else
    slices_symMergeCmpFunc_Sample_j6 self p1x0 p2x0 p3x0 fne n39 p0x0

noncomputable def slices_symMergeCmpFunc_Sample_b5 (self : (List Sample) → Int → Int → Int → (Sample → Sample → Option Int) → Option (List Sample)) (p0x0 : List Sample) (p1x0 : Int) (p2x0 : Int) (p3x0 : Int) (fne : Sample → Sample → Option Int) (n39 : Int) (n40 : Int) : Option ((Int × Int) ⊕ (List Sample)) :=
  if n39 < n40 then
    (idx p0x0 (w64 ((w64 ((w64 ((w64 (shrI .u64 (IntKind.u64.wrap (w64 (p1x0 + p3x0))) (1 : Int))) + p2x0)) - (1 : Int))) - (w64 (shrI .u64 (IntKind.u64.wrap (w64 (n39 + n40))) (1 : Int)))))).bind fun v41 =>
    (idx p0x0 (w64 (shrI .u64 (IntKind.u64.wrap (w64 (n39 + n40))) (1 : Int)))).bind fun v42 =>
    (fne v41 v42).bind fun v43 =>
    if ¬ (v43 < (0 : Int)) then
      slices_symMergeCmpFunc_Sample_j4 (w64 ((w64 (shrI .u64 (IntKind.u64.wrap (w64 (n39 + n40))) (1 : Int))) + (1 : Int))) n40
    else
      slices_symMergeCmpFunc_Sample_j4 n39 (w64 (shrI .u64 (IntKind.u64.wrap (w64 (n39 + n40))) (1 : Int)))
  else
    Option.map .inr (slices_symMergeCmpFunc_Sample_j5 self p0x0 p1x0 p2x0 p3x0 fne n39 ((decide (n39 < p2x0)) && (decide (p2x0 < (w64 ((w64 ((w64 (shrI .u64 (IntKind.u64.wrap (w64 (p1x0 + p3x0))) (1 : Int))) + p2x0)) - n39))))))

noncomputable def slices_symMergeCmpFunc_Sample_l5 (self : (List Sample) → Int → Int → Int → (Sample → Sample → Option Int) → Option (List Sample)) (p0x0 : List Sample) (p1x0 : Int) (p2x0 : Int) (p3x0 : Int) (fne : Sample → Sample → Option Int) (n39 : Int) (n40 : Int) : Option (List Sample) :=
  iter (fun x : Int × Int => slices_symMergeCmpFunc_Sample_b5 self p0x0 p1x0 p2x0 p3x0 fne x.1 x.2) (n39, n40)

noncomputable def slices_symMergeCmpFunc_Sample_j3 (self : (List Sample) → Int → Int → Int → (Sample → Sample → Option Int) → Option (List Sample)) (p0x0 : List Sample) (p1x0 : Int) (p2x0 : Int) (p3x0 : Int) (fne : Sample → Sample → Option Int) (n35 : Int) (n36 : Int) : Option (List Sample) :=
  slices_symMergeCmpFunc_Sample_l5 self p0x0 p1x0 p2x0 p3x0 fne n35 n36

noncomputable def slices_symMergeCmpFunc_Sample_bd (self : (List Sample) → Int → Int → Int → (Sample → Sample → Option Int) → Option (List Sample)) (p0x0 : List Sample) (p1x0 : Int) (p2x0 : Int) (p3x0 : Int) (fne : Sample → Sample → Option Int) : Option (List Sample) :=
  if (w64 (p2x0 - p1x0)) = (1 : Int) then
    slices_symMergeCmpFunc_Sample_l1 p0x0 p1x0 fne p2x0 p3x0
  else
    if (w64 (p3x0 - p2x0)) = (1 : Int) then
      slices_symMergeCmpFunc_Sample_l3 p0x0 p2x0 fne p1x0 p2x0
    else
      if (w64 (shrI .u64 (IntKind.u64.wrap (w64 (p1x0 + p3x0))) (1 : Int))) < p2x0 then
        slices_symMergeCmpFunc_Sample_j3 self p0x0 p1x0 p2x0 p3x0 fne (w64 ((w64 ((w64 (shrI .u64 (IntKind.u64.wrap (w64 (p1x0 + p3x0))) (1 : Int))) + p2x0)) - p3x0)) (w64 (shrI .u64 (IntKind.u64.wrap (w64 (p1x0 + p3x0))) (1 : Int)))
      else
        slices_symMergeCmpFunc_Sample_j3 self p0x0 p1x0 p2x0 p3x0 fne p1x0 p2x0

/-- The function, to some depth. -/
noncomputable def slices_symMergeCmpFunc_Sample_r : Nat → (List Sample) → Int → Int → Int → (Sample → Sample → Option Int) → Option (List Sample)
  | 0 => fun _ _ _ _ _ => none
  | k + 1 => slices_symMergeCmpFunc_Sample_bd (slices_symMergeCmpFunc_Sample_r k)

noncomputable def slices_symMergeCmpFunc_Sample (p0x0 : List Sample) (p1x0 : Int) (p2x0 : Int) (p3x0 : Int) (fne : Sample → Sample → Option Int) : Option (List Sample) :=
  slices_symMergeCmpFunc_Sample_r depth p0x0 p1x0 p2x0 p3x0 fne

noncomputable def slices_stableCmpFunc_Sample_j1 (n12 : Int) (l20 : List Sample) : Option (((List Sample) × Int) ⊕ (List Sample)) :=
  some (.inl (l20, w64 (n12 * (2 : Int))))

noncomputable def slices_stableCmpFunc_Sample_k2 (p1x0 : Int) (fnc : Sample → Sample → Option Int) (n12 : Int) (l16 : List Sample) (n17 : Int) : Option (((List Sample) × Int) ⊕ (List Sample)) :=
  if (w64 (n17 + n12)) < p1x0 then
    (lenOk l16.length (fun r : (List Sample) => r.length) (slices_symMergeCmpFunc_Sample l16 n17 (w64 (n17 + n12)) p1x0 fnc)).bind fun v21 =>
    slices_stableCmpFunc_Sample_j1 n12 v21
  else
    slices_stableCmpFunc_Sample_j1 n12 l16

noncomputable def slices_stableCmpFunc_Sample_b3 (p1x0 : Int) (fnc : Sample → Sample → Option Int) (n12 : Int) (l16 : List Sample) (n17 : Int) (n18 : Int) : Option (((List Sample) × Int × Int) ⊕ (((List Sample) × Int) ⊕ (List Sample))) :=
  if n18 ≤ p1x0 then
    (lenOk l16.length (fun r : (List Sample) => r.length) (slices_symMergeCmpFunc_Sample l16 n17 (w64 (n17 + n12)) n18 fnc)).bind fun v19 =>
    some (.inl (v19, n18, w64 (n18 + (w64 ((2 : Int) * n12)))))
  else
    Option.map .inr (slices_stableCmpFunc_Sample_k2 p1x0 fnc n12 l16 n17)

noncomputable def slices_stableCmpFunc_Sample_l3 (p1x0 : Int) (fnc : Sample → Sample → Option Int) (n12 : Int) (l16 : List Sample) (n17 : Int) (n18 : Int) : Option (((List Sample) × Int) ⊕ (List Sample)) :=
  iter (fun x : (List Sample) × Int × Int => slices_stableCmpFunc_Sample_b3 p1x0 fnc n12 x.1 x.2.1 x.2.2) (l16, n17, n18)

noncomputable def slices_stableCmpFunc_Sample_b2 (p1x0 : Int) (fnc : Sample → Sample → Option Int) (l11 : List Sample) (n12 : Int) : Option (((List Sample) × Int) ⊕ (List Sample)) :=
  if n12 < p1x0 then
    slices_stableCmpFunc_Sample_l3 p1x0 fnc n12 l11 (0 : Int) (w64 ((2 : Int) * n12))
  else
    Option.map .inr (some l11)

noncomputable def slices_stableCmpFunc_Sample_l2 (p1x0 : Int) (fnc : Sample → Sample → Option Int) (l11 : List Sample) (n12 : Int) : Option (List Sample) :=
  iter (fun x : (List Sample) × Int => slices_stableCmpFunc_Sample_b2 p1x0 fnc x.1 x.2) (l11, n12)

noncomputable def slices_stableCmpFunc_Sample_k3 (p1x0 : Int) (fnc : Sample → Sample → Option Int) (l4 : List Sample) (n5 : Int) : Option (List Sample) :=
  (lenOk l4.length (fun r : (List Sample) => r.length) (slices_insertionSortCmpFunc_Sample l4 n5 p1x0 fnc)).bind fun v8 =>
  slices_stableCmpFunc_Sample_l2 p1x0 fnc v8 (20 : Int)

noncomputable def slices_stableCmpFunc_Sample_b1 (p1x0 : Int) (fnc : Sample → Sample → Option Int) (l4 : List Sample) (n5 : Int) (n6 : Int) : Option (((List Sample) × Int × Int) ⊕ (List Sample)) :=
  if n6 ≤ p1x0 then
    (lenOk l4.length (fun r : (List Sample) => r.length) (slices_insertionSortCmpFunc_Sample l4 n5 n6 fnc)).bind fun v7 =>
    some (.inl (v7, n6, w64 (n6 + (20 : Int))))
  else
    Option.map .inr (slices_stableCmpFunc_Sample_k3 p1x0 fnc l4 n5)

noncomputable def slices_stableCmpFunc_Sample_l1 (p1x0 : Int) (fnc : Sample → Sample → Option Int) (l4 : List Sample) (n5 : Int) (n6 : Int) : Option (List Sample) :=
  iter (fun x : (List Sample) × Int × Int => slices_stableCmpFunc_Sample_b1 p1x0 fnc x.1 x.2.1 x.2.2) (l4, n5, n6)

noncomputable def slices_stableCmpFunc_Sample (p0x0 : List Sample) (p1x0 : Int) (fnc : Sample → Sample → Option Int) : Option (List Sample) :=
  slices_stableCmpFunc_Sample_l1 p1x0 fnc p0x0 (0 : Int) (20 : Int)

noncomputable def slices_SortStableFunc_Sample_Sample (p0x0 : List Sample) (fnb : Sample → Sample → Option Int) : Option (List Sample) :=
  (lenOk p0x0.length (fun r : (List Sample) => r.length) (slices_stableCmpFunc_Sample p0x0 (p0x0.length : Int) fnb)).bind fun v1 =>
  some v1

noncomputable def Stream_Flip (p0x0 : Fleetmake_Stream) (p1x0 : Int) : Option (Bool × Fleetmake_Stream) :=
  (Stream_Next p0x0 p1x0).bind fun v1 =>
  some (decide (v1.1 = (0 : Int)), v1.2)

noncomputable def Stream_Samples_1x (p0x0 : Sample) (p1x0 : Sample) : Option Bool :=
  (Q_SampleOrder p0x0 p1x0).bind fun v3 =>
  some (decide (v3 = (0 : Int)))

noncomputable def slices_CompactFunc_Sample_Sample_j1 (n12 : Int) (l16 : List Sample) (n17 : Int) : Option (((List Sample) × Int × Int) ⊕ (Int ⊕ (List Sample))) :=
  some (.inl (l16, n17, w64 (n12 + (1 : Int))))

noncomputable def slices_CompactFunc_Sample_Sample_k2 (l10 : List Sample) (n11 : Int) : Option (Int ⊕ (List Sample)) :=
  (slc l10 n11 (l10.length : Int)).bind fun l20 =>
  (slc (clr l10 n11 l20.length (⟨[], [], (0 : Int), (0 : Int)⟩ : Sample)) (0 : Int) n11).bind fun l21 =>
  Option.map .inr (some l21)

noncomputable def slices_CompactFunc_Sample_Sample_b2 (fnb : Sample → Sample → Option Bool) (n2 : Int) (l6 : List Sample) (l10 : List Sample) (n11 : Int) (n12 : Int) : Option (((List Sample) × Int × Int) ⊕ (Int ⊕ (List Sample))) :=
  if n12 < (l6.length : Int) then
    (idxS l10 n2 l6.length n12).bind fun v13 =>
    (idxS l10 n2 l6.length (w64 (n12 - (1 : Int)))).bind fun v14 =>
    (fnb v13 v14).bind fun v15 =>
    if (!v15) = true then
      (idxS l10 n2 l6.length n12).bind fun v18 =>
      (idx l10 n11).bind fun v19 =>
      slices_CompactFunc_Sample_Sample_j1 n12 (l10.set n11.toNat v18) (w64 (n11 + (1 : Int)))
    else
      slices_CompactFunc_Sample_Sample_j1 n12 l10 n11
  else
    Option.map .inr (slices_CompactFunc_Sample_Sample_k2 l10 n11)

noncomputable def slices_CompactFunc_Sample_Sample_l2 (fnb : Sample → Sample → Option Bool) (n2 : Int) (l6 : List Sample) (l10 : List Sample) (n11 : Int) (n12 : Int) : Option (Int ⊕ (List Sample)) :=
  iter (fun x : (List Sample) × Int × Int => slices_CompactFunc_Sample_Sample_b2 fnb n2 l6 x.1 x.2.1 x.2.2) (l10, n11, n12)

noncomputable def slices_CompactFunc_Sample_Sample_b1 (p0x0 : List Sample) (fnb : Sample → Sample → Option Bool) (n2 : Int) : Option (Int ⊕ (List Sample)) :=
  if n2 < (p0x0.length : Int) then
    (idx p0x0 n2).bind fun v3 =>
    (idx p0x0 (w64 (n2 - (1 : Int)))).bind fun v4 =>
    (fnb v3 v4).bind fun v5 =>
    if v5 = true then
      (slc p0x0 n2 (p0x0.length : Int)).bind fun l6 =>
      slices_CompactFunc_Sample_Sample_l2 fnb n2 l6 p0x0 n2 (1 : Int)
    else
      some (.inl (w64 (n2 + (1 : Int))))
  else
    Option.map .inr (some p0x0)

noncomputable def slices_CompactFunc_Sample_Sample_l1 (p0x0 : List Sample) (fnb : Sample → Sample → Option Bool) (n2 : Int) : Option (List Sample) :=
  iter (fun x : Int => slices_CompactFunc_Sample_Sample_b1 p0x0 fnb x) n2

noncomputable def slices_CompactFunc_Sample_Sample (p0x0 : List Sample) (fnb : Sample → Sample → Option Bool) : Option (List Sample) :=
  if (p0x0.length : Int) < (2 : Int) then
    some p0x0
  else
    slices_CompactFunc_Sample_Sample_l1 p0x0 fnb (1 : Int)

noncomputable def Stream_Odd (p0x0 : Fleetmake_Stream) (p1x0 : Int) (p2x0 : Int) : Option (Int × Fleetmake_Stream) :=
  (Stream_Flip p0x0 (12 : Int)).bind fun v1 =>
  if v1.1 = true then
    (Stream_Pick v1.2 [w64 (p1x0 - (1 : Int)), w64 (p2x0 + (1 : Int)), p1x0, p2x0, (-1099511627776 : Int), (1099511627776 : Int)]).bind fun v2 =>
    some (v2.1, v2.2)
  else
    (Stream_Range v1.2 p1x0 p2x0).bind fun v3 =>
    some (v3.1, v3.2)

noncomputable def Stream_Samples_j3 (l28 : List Int) (n29 : Int) (l30 : List Sample) : Option ((List Sample) × Fleetmake_Stream) :=
  some (l30, (⟨l28, n29⟩ : Fleetmake_Stream))

noncomputable def Stream_Samples_j2 (l21 : List Sample) (l24 : List Int) (n25 : Int) (c26 : Bool) : Option ((List Sample) × Fleetmake_Stream) :=
  if c26 = true then
    (Stream_Next (⟨l24, n25⟩ : Fleetmake_Stream) (l21.length : Int)).bind fun v31 =>
    (idx l21 v31.1).bind fun v32 =>
    (Stream_Some v31.2 [v32.Device, ([] : Str), ([65] : Str)]).bind fun v33 =>
    (Stream_Odd v33.2 (0 : Int) (20 : Int)).bind fun v34 =>
    (Stream_Odd v34.2 (-1000000000 : Int) (1000000000 : Int)).bind fun v35 =>
    Stream_Samples_j3 v35.2.L v35.2.at_ (((l21.set v31.1.toNat (⟨v33.1, v32.Metric, v32.At, v32.Value⟩ : Sample)).set v31.1.toNat (⟨v33.1, v32.Metric, v34.1, v32.Value⟩ : Sample)).set v31.1.toNat (⟨v33.1, v32.Metric, v34.1, v35.1⟩ : Sample))
  else
    Stream_Samples_j3 l24 n25 l21

noncomputable def Stream_Samples_j1 (v19 : Bool × Fleetmake_Stream) (l21 : List Sample) : Option ((List Sample) × Fleetmake_Stream) :=
  if (0 : Int) < (l21.length : Int) then
    (Stream_Flip v19.2 (15 : Int)).bind fun v27 =>
    Stream_Samples_j2 l21 v27.2.L v27.2.at_ v27.1
  else
    Stream_Samples_j2 l21 v19.2.L v19.2.at_ false

noncomputable def Stream_Samples_k4 (l6 : List Int) (n7 : Int) (l9 : List Sample) : Option ((List Sample) × Fleetmake_Stream) :=
  (lenOk l9.length (fun r : (List Sample) => r.length) (slices_SortStableFunc_Sample_Sample l9 (fun y0 y1 => Q_SampleOrder y0 y1))).bind fun v18 =>
  (Stream_Flip (⟨l6, n7⟩ : Fleetmake_Stream) (40 : Int)).bind fun v19 =>
  if (!v19.1) = true then
    (slices_CompactFunc_Sample_Sample v18 (fun y0 y1 => Stream_Samples_1x y0 y1)).bind fun v22 =>
    Stream_Samples_j1 v19 v22
  else
    Stream_Samples_j1 v19 v18

noncomputable def Stream_Samples_b1 (p1x0 : Int) (l6 : List Int) (n7 : Int) (l9 : List Sample) (n10 : Int) : Option (((List Int) × Int × (List Sample) × Int) ⊕ ((List Sample) × Fleetmake_Stream)) :=
  if n10 < p1x0 then
    (Stream_Some (⟨l6, n7⟩ : Fleetmake_Stream) [([100] : Str), ([100] : Str), ([101] : Str)]).bind fun v12 =>
    (Stream_Some v12.2 [([109] : Str), ([109] : Str), ([110] : Str)]).bind fun v13 =>
    (Stream_Pick v13.2 [(0 : Int), (1 : Int), (5 : Int), (10 : Int), (20 : Int)]).bind fun v14 =>
    (Stream_Pick v14.2 [(1 : Int), (1 : Int), (2 : Int), (-3 : Int)]).bind fun v15 =>
    (app l9 [(⟨v12.1, v13.1, v14.1, v15.1⟩ : Sample)]).bind fun l16 =>
    some (.inl (v15.2.L, v15.2.at_, l16, w64 (n10 + (1 : Int))))
  else
    Option.map .inr (Stream_Samples_k4 l6 n7 l9)

noncomputable def Stream_Samples_l1 (p1x0 : Int) (l6 : List Int) (n7 : Int) (l9 : List Sample) (n10 : Int) : Option ((List Sample) × Fleetmake_Stream) :=
  iter (fun x : (List Int) × Int × (List Sample) × Int => Stream_Samples_b1 p1x0 x.1 x.2.1 x.2.2.1 x.2.2.2) (l6, n7, l9, n10)

noncomputable def Stream_Samples (p0x0 : Fleetmake_Stream) (p1x0 : Int) : Option ((List Sample) × Fleetmake_Stream) :=
  Stream_Samples_l1 p1x0 p0x0.L p0x0.at_ [] (0 : Int)

/-- A copy of a list. -/
noncomputable def slices_Clone_Sample_Sample (p0x0 : List Sample) : Option (List Sample) :=
  app [] p0x0

noncomputable def Stream_Frame_j4 (l18 : List Int) (n19 : Int) (n20 : Int) (n21 : Int) : Option (Window × Fleetmake_Stream) :=
  some ((⟨n20, n21⟩ : Window), (⟨l18, n19⟩ : Fleetmake_Stream))

noncomputable def Stream_Frame_j3 (l11 : List Int) (n12 : Int) (n13 : Int) (n14 : Int) : Option (Window × Fleetmake_Stream) :=
  (Stream_Flip (⟨l11, n12⟩ : Fleetmake_Stream) (25 : Int)).bind fun v17 =>
  if v17.1 = true then
    (Stream_Pick v17.2 [(0 : Int), (5 : Int)]).bind fun v22 =>
    (Stream_Pick v22.2 [(345686400000 : Int), (345686400001 : Int), (7776000000 : Int), (7862400000 : Int)]).bind fun v23 =>
    Stream_Frame_j4 v23.2.L v23.2.at_ v22.1 v23.1
  else
    Stream_Frame_j4 v17.2.L v17.2.at_ n13 n14

noncomputable def Stream_Frame_j2 (v3 : Int × Fleetmake_Stream) (l5 : List Int) (n6 : Int) (n9 : Int) : Option (Window × Fleetmake_Stream) :=
  (Stream_Flip (⟨l5, n6⟩ : Fleetmake_Stream) (15 : Int)).bind fun v10 =>
  if v10.1 = true then
    (Stream_Odd v10.2 (0 : Int) (100 : Int)).bind fun v15 =>
    (Stream_Odd v15.2 (0 : Int) (1000 : Int)).bind fun v16 =>
    Stream_Frame_j3 v16.2.L v16.2.at_ v15.1 v16.1
  else
    Stream_Frame_j3 v10.2.L v10.2.at_ n9 v3.1

noncomputable def Stream_Frame_j1 (v2 : Int × Fleetmake_Stream) (v3 : Int × Fleetmake_Stream) (l5 : List Int) (n6 : Int) (c7 : Bool) : Option (Window × Fleetmake_Stream) :=
  if c7 = true then
    Stream_Frame_j2 v3 l5 n6 (0 : Int)
  else
    Stream_Frame_j2 v3 l5 n6 v2.1

noncomputable def Stream_Frame (p0x0 : Fleetmake_Stream) : Option (Window × Fleetmake_Stream) :=
  (Stream_Pick p0x0 [(0 : Int), (0 : Int), (1 : Int), (5 : Int), (10 : Int), (50 : Int)]).bind fun v2 =>
  (Stream_Pick v2.2 [(10 : Int), (50 : Int), (100 : Int), (300 : Int), (3000 : Int)]).bind fun v3 =>
  if v3.1 < v2.1 then
    (Stream_Flip v3.2 (3 : Int)).bind fun v8 =>
    Stream_Frame_j1 v2 v3 v8.2.L v8.2.at_ (!v8.1)
  else
    Stream_Frame_j1 v2 v3 v3.2.L v3.2.at_ false

noncomputable def Stream_RightSeries_b1 (p2x0 : Int) (v1 : Int × Fleetmake_Stream) (l8 : List Int) (n9 : Int) (l11 : List Sample) (n12 : Int) (n13 : Int) : Option (((List Int) × Int × (List Sample) × Int × Int) ⊕ ((List Sample) × Fleetmake_Stream)) :=
  if n13 < v1.1 then
    (Stream_Pick (⟨l8, n9⟩ : Fleetmake_Stream) [(1 : Int), (1 : Int), (2 : Int), (5 : Int), (10 : Int), (10 : Int), (40 : Int), (127 : Int), (1000 : Int)]).bind fun v15 =>
    (Stream_Pick v15.2 [(0 : Int), (1 : Int), (2 : Int), (5 : Int), (7 : Int), (9 : Int), (-3 : Int), (-70 : Int), (100 : Int), (1000 : Int), (5 : Int)]).bind fun v16 =>
    (app l11 [(⟨([100] : Str), ([109] : Str), w64 (n12 + v15.1), max p2x0 v16.1⟩ : Sample)]).bind fun l17 =>
    some (.inl (v16.2.L, v16.2.at_, l17, w64 (n12 + v15.1), w64 (n13 + (1 : Int))))
  else
    Option.map .inr (some (l11, (⟨l8, n9⟩ : Fleetmake_Stream)))

noncomputable def Stream_RightSeries_l1 (p2x0 : Int) (v1 : Int × Fleetmake_Stream) (l8 : List Int) (n9 : Int) (l11 : List Sample) (n12 : Int) (n13 : Int) : Option ((List Sample) × Fleetmake_Stream) :=
  iter (fun x : (List Int) × Int × (List Sample) × Int × Int => Stream_RightSeries_b1 p2x0 v1 x.1 x.2.1 x.2.2.1 x.2.2.2.1 x.2.2.2.2) (l8, n9, l11, n12, n13)

noncomputable def Stream_RightSeries (p0x0 : Fleetmake_Stream) (p1x0 : Int) (p2x0 : Int) : Option ((List Sample) × Fleetmake_Stream) :=
  (Stream_Range p0x0 (0 : Int) p1x0).bind fun v1 =>
  Stream_RightSeries_l1 p2x0 v1 v1.2.L v1.2.at_ [] (0 : Int) (0 : Int)

noncomputable def Stream_Series_j7 (l31 : List Int) (n32 : Int) (l33 : List Sample) : Option ((List Sample) × Fleetmake_Stream) :=
  some (l33, (⟨l31, n32⟩ : Fleetmake_Stream))

noncomputable def Stream_Series_j6 (l10 : List Sample) (l27 : List Int) (n28 : Int) (c29 : Bool) : Option ((List Sample) × Fleetmake_Stream) :=
  if c29 = true then
    (idx l10 (w64 ((l10.length : Int) - (1 : Int)))).bind fun v34 =>
    (Stream_Pick (⟨l27, n28⟩ : Fleetmake_Stream) [(345686399999 : Int), (3456000000 : Int), (950400000 : Int)]).bind fun v35 =>
    (Stream_Pick v35.2 [(1000000000 : Int), (-1000000000 : Int)]).bind fun v36 =>
    Stream_Series_j7 v36.2.L v36.2.at_ ((l10.set (w64 ((l10.length : Int) - (1 : Int))).toNat (⟨v34.Device, v34.Metric, v35.1, v34.Value⟩ : Sample)).set (w64 ((l10.length : Int) - (1 : Int))).toNat (⟨v34.Device, v34.Metric, v35.1, v36.1⟩ : Sample))
  else
    Stream_Series_j7 l27 n28 l10

noncomputable def Stream_Series_j2 (l8 : List Int) (n9 : Int) (l10 : List Sample) : Option ((List Sample) × Fleetmake_Stream) :=
  if (0 : Int) < (l10.length : Int) then
    (Stream_Flip (⟨l8, n9⟩ : Fleetmake_Stream) (25 : Int)).bind fun v30 =>
    Stream_Series_j6 l10 v30.2.L v30.2.at_ v30.1
  else
    Stream_Series_j6 l10 l8 n9 false

noncomputable def Stream_Series_j3 (l14 : List Int) (n15 : Int) (l16 : List Sample) : Option ((List Sample) × Fleetmake_Stream) :=
  Stream_Series_j2 l14 n15 l16

noncomputable def Stream_Series_j4 (l18 : List Int) (n19 : Int) (l20 : List Sample) : Option ((List Sample) × Fleetmake_Stream) :=
  Stream_Series_j3 l18 n19 l20

noncomputable def Stream_Series_j5 (l22 : List Int) (n23 : Int) (l24 : List Sample) : Option ((List Sample) × Fleetmake_Stream) :=
  Stream_Series_j4 l22 n23 l24

noncomputable def Stream_Series_j1 (v2 : (List Sample) × Fleetmake_Stream) (l4 : List Int) (n5 : Int) (c6 : Bool) : Option ((List Sample) × Fleetmake_Stream) :=
  if c6 = true then
    (Stream_Next (⟨l4, n5⟩ : Fleetmake_Stream) (v2.1.length : Int)).bind fun v11 =>
    (idx v2.1 v11.1).bind fun v12 =>
    (Stream_Next v11.2 (4 : Int)).bind fun v13 =>
    if v13.1 = (0 : Int) then
      (Stream_Some v13.2 [([] : Str), ([101] : Str), ([65] : Str)]).bind fun v17 =>
      Stream_Series_j3 v17.2.L v17.2.at_ (v2.1.set v11.1.toNat (⟨v17.1, v12.Metric, v12.At, v12.Value⟩ : Sample))
    else
      if v13.1 = (1 : Int) then
        (Stream_Some v13.2 [([] : Str), ([110] : Str)]).bind fun v21 =>
        Stream_Series_j4 v21.2.L v21.2.at_ (v2.1.set v11.1.toNat (⟨v12.Device, v21.1, v12.At, v12.Value⟩ : Sample))
      else
        if v13.1 = (2 : Int) then
          (Stream_Odd v13.2 (0 : Int) (100 : Int)).bind fun v25 =>
          Stream_Series_j5 v25.2.L v25.2.at_ (v2.1.set v11.1.toNat (⟨v12.Device, v12.Metric, v25.1, v12.Value⟩ : Sample))
        else
          (Stream_Odd v13.2 (-1000000000 : Int) (1000000000 : Int)).bind fun v26 =>
          Stream_Series_j5 v26.2.L v26.2.at_ (v2.1.set v11.1.toNat (⟨v12.Device, v12.Metric, v12.At, v26.1⟩ : Sample))
  else
    Stream_Series_j2 l4 n5 v2.1

noncomputable def Stream_Series (p0x0 : Fleetmake_Stream) (p1x0 : Int) : Option ((List Sample) × Fleetmake_Stream) :=
  (Stream_Pick p0x0 [(0 : Int), (-100 : Int)]).bind fun v1 =>
  (Stream_RightSeries v1.2 p1x0 v1.1).bind fun v2 =>
  if (0 : Int) < (v2.1.length : Int) then
    (Stream_Flip v2.2 (12 : Int)).bind fun v7 =>
    Stream_Series_j1 v2 v7.2.L v7.2.at_ v7.1
  else
    Stream_Series_j1 v2 v2.2.L v2.2.at_ false

noncomputable def base_Key_j2 (n5 : Int) (c7 : Bool) : Option (Int ⊕ Bool) :=
  if c7 = true then
    Option.map .inr (some false)
  else
    some (.inl (w64 (n5 + (1 : Int))))

noncomputable def base_Key_b1 (p0x0 : Str) (n5 : Int) : Option (Int ⊕ Bool) :=
  if n5 < (p0x0.length : Int) then
    (idx p0x0 n5).bind fun c6 =>
    base_Key_j2 n5 (if (97 : Int) ≤ (c6.toNat : Int) then if (c6.toNat : Int) ≤ (122 : Int) then !true else if (48 : Int) ≤ (c6.toNat : Int) then if (c6.toNat : Int) ≤ (57 : Int) then !true else if (c6.toNat : Int) = (45 : Int) then !true else decide (¬ ((c6.toNat : Int) = (95 : Int))) else if (c6.toNat : Int) = (45 : Int) then !true else decide (¬ ((c6.toNat : Int) = (95 : Int))) else if (48 : Int) ≤ (c6.toNat : Int) then if (c6.toNat : Int) ≤ (57 : Int) then !true else if (c6.toNat : Int) = (45 : Int) then !true else decide (¬ ((c6.toNat : Int) = (95 : Int))) else if (c6.toNat : Int) = (45 : Int) then !true else decide (¬ ((c6.toNat : Int) = (95 : Int))))
  else
    Option.map .inr (some true)

noncomputable def base_Key_l1 (p0x0 : Str) (n5 : Int) : Option Bool :=
  iter (fun x : Int => base_Key_b1 p0x0 x) n5

noncomputable def base_Key_j1 (p0x0 : Str) (c1 : Bool) : Option Bool :=
  if c1 = true then
    some false
  else
    base_Key_l1 p0x0 (0 : Int)

noncomputable def base_Key (p0x0 : Str) : Option Bool :=
  if p0x0 = ([] : Str) then
    base_Key_j1 p0x0 true
  else
    if (40 : Int) < (p0x0.length : Int) then
      base_Key_j1 p0x0 true
    else
      (idx p0x0 (0 : Int)).bind fun c2 =>
      if (c2.toNat : Int) < (97 : Int) then
        base_Key_j1 p0x0 true
      else
        (idx p0x0 (0 : Int)).bind fun c3 =>
        base_Key_j1 p0x0 (decide ((122 : Int) < (c3.toNat : Int)))

noncomputable def base_Out_j1 (c1 : Bool) : Bool :=
  c1

noncomputable def base_Out (p0x0 : Int) (p1x0 : Int) (p2x0 : Int) : Bool :=
  base_Out_j1 ((decide (p0x0 < p1x0)) || (decide (p2x0 < p0x0)))

noncomputable def base_Moment (p0x0 : Int) : Bool :=
  !(base_Out p0x0 (0 : Int) (345686399999 : Int))

noncomputable def cmp_isNaN_int (p0x0 : Int) : Bool :=
  decide (p0x0 ≠ p0x0)

noncomputable def cmp_Compare_int (p0x0 : Int) (p1x0 : Int) : Int :=
  if (cmp_isNaN_int p0x0) = true then
    if (cmp_isNaN_int p1x0) = true then
      (0 : Int)
    else
      (-1 : Int)
  else
    if (cmp_isNaN_int p1x0) = true then
      (1 : Int)
    else
      if p0x0 < p1x0 then
        (-1 : Int)
      else
        if p1x0 < p0x0 then
          (1 : Int)
        else
          (0 : Int)

noncomputable def cmp_Or_int_b1 (p0x0 : List Int) (n2 : Int) : Option (Int ⊕ Int) :=
  if n2 < (p0x0.length : Int) then
    (idx p0x0 n2).bind fun v3 =>
    if v3 ≠ (0 : Int) then
      Option.map .inr (some v3)
    else
      some (.inl (w64 (n2 + (1 : Int))))
  else
    Option.map .inr (some (0 : Int))

noncomputable def cmp_Or_int_l1 (p0x0 : List Int) (n2 : Int) : Option Int :=
  iter (fun x : Int => cmp_Or_int_b1 p0x0 x) n2

noncomputable def cmp_Or_int (p0x0 : List Int) : Option Int :=
  cmp_Or_int_l1 p0x0 (0 : Int)

noncomputable def series_byDevice (p0x0 : Sample) (p1x0 : Sample) : Option Int :=
  (cmp_Or_int [(Lib.compareBytes p0x0.Device p1x0.Device), (Lib.compareBytes p0x0.Metric p1x0.Metric), (cmp_Compare_int p0x0.At p1x0.At)]).bind fun v3 =>
  some v3

noncomputable def series_Check_j3 (n2 : Int) (c9 : Bool) : Option (Int ⊕ Int) :=
  if c9 = true then
    Option.map .inr (some (7 : Int))
  else
    some (.inl (w64 (n2 + (1 : Int))))

noncomputable def series_Check_j2 (p0x0 : List Sample) (n2 : Int) (v3 : Sample) (c8 : Bool) : Option (Int ⊕ Int) :=
  if c8 = true then
    Option.map .inr (some (1 : Int))
  else
    if (0 : Int) < n2 then
      (idx p0x0 (w64 (n2 - (1 : Int)))).bind fun v10 =>
      (series_byDevice v3 v10).bind fun v11 =>
      series_Check_j3 n2 (decide (v11 ≤ (0 : Int)))
    else
      series_Check_j3 n2 false

noncomputable def series_Check_j1 (p0x0 : List Sample) (n2 : Int) (v3 : Sample) (c5 : Bool) : Option (Int ⊕ Int) :=
  if c5 = true then
    Option.map .inr (some (5 : Int))
  else
    series_Check_j2 p0x0 n2 v3 ((!(base_Moment v3.At)) || (base_Out v3.Value (-1000000000 : Int) (1000000000 : Int)))

noncomputable def series_Check_b1 (p0x0 : List Sample) (n2 : Int) : Option (Int ⊕ Int) :=
  if n2 < (p0x0.length : Int) then
    (idx p0x0 n2).bind fun v3 =>
    (base_Key v3.Device).bind fun v6 =>
    if (!v6) = true then
      series_Check_j1 p0x0 n2 v3 true
    else
      (base_Key v3.Metric).bind fun v7 =>
      series_Check_j1 p0x0 n2 v3 (!v7)
  else
    Option.map .inr (some (0 : Int))

noncomputable def series_Check_l1 (p0x0 : List Sample) (n2 : Int) : Option Int :=
  iter (fun x : Int => series_Check_b1 p0x0 x) n2

noncomputable def series_Check (p0x0 : List Sample) : Option Int :=
  if (5000 : Int) < (p0x0.length : Int) then
    some (2 : Int)
  else
    series_Check_l1 p0x0 (0 : Int)

noncomputable def base_First_b1 (p0x0 : List Int) (n2 : Int) : Option (Int ⊕ Int) :=
  if n2 < (p0x0.length : Int) then
    (idx p0x0 n2).bind fun v3 =>
    if v3 ≠ (0 : Int) then
      Option.map .inr (some v3)
    else
      some (.inl (w64 (n2 + (1 : Int))))
  else
    Option.map .inr (some (0 : Int))

noncomputable def base_First_l1 (p0x0 : List Int) (n2 : Int) : Option Int :=
  iter (fun x : Int => base_First_b1 p0x0 x) n2

noncomputable def base_First (p0x0 : List Int) : Option Int :=
  base_First_l1 p0x0 (0 : Int)

noncomputable def slices_Grow_Sample_Sample_n0x_j1 (l2 : List Sample) : Option (List Sample) :=
  some l2

noncomputable def slices_Grow_Sample_Sample_n0x (p1x0 : Int) : Option (List Sample) :=
  if p1x0 < (0 : Int) then
    none
  else
    if (0 : Int) < (w64 (p1x0 - (w64 ((0 : Int) - (0 : Int))))) then
      (slc ([] : List Sample) (0 : Int) (0 : Int)).bind fun l3 =>
      (mkS (⟨[], [], (0 : Int), (0 : Int)⟩ : Sample) (w64 (p1x0 - (w64 ((0 : Int) - (0 : Int))))) (w64 (p1x0 - (w64 ((0 : Int) - (0 : Int)))))).bind fun l4 =>
      (slc l4 (0 : Int) (0 : Int)).bind fun l6 =>
      slices_Grow_Sample_Sample_n0x_j1 l6
    else
      slices_Grow_Sample_Sample_n0x_j1 []

noncomputable def slices_Concat_Sample_Sample_b2 (p0x0 : List (List Sample)) (l12 : List Sample) (n13 : Int) : Option (((List Sample) × Int) ⊕ (List Sample)) :=
  if n13 < (p0x0.length : Int) then
    (idx p0x0 n13).bind fun v14 =>
    (app l12 v14).bind fun l15 =>
    some (.inl (l15, w64 (n13 + (1 : Int))))
  else
    Option.map .inr (some l12)

noncomputable def slices_Concat_Sample_Sample_l2 (p0x0 : List (List Sample)) (l12 : List Sample) (n13 : Int) : Option (List Sample) :=
  iter (fun x : (List Sample) × Int => slices_Concat_Sample_Sample_b2 p0x0 x.1 x.2) (l12, n13)

noncomputable def slices_Concat_Sample_Sample_k1 (p0x0 : List (List Sample)) (n3 : Int) : Option (List Sample) :=
  (slices_Grow_Sample_Sample_n0x n3).bind fun v6 =>
  slices_Concat_Sample_Sample_l2 p0x0 v6 (0 : Int)

noncomputable def slices_Concat_Sample_Sample_b1 (p0x0 : List (List Sample)) (n3 : Int) (n4 : Int) : Option ((Int × Int) ⊕ (List Sample)) :=
  if n4 < (p0x0.length : Int) then
    (idx p0x0 n4).bind fun v5 =>
    if (w64 (n3 + (v5.length : Int))) < (0 : Int) then
      none
    else
      some (.inl (w64 (n3 + (v5.length : Int)), w64 (n4 + (1 : Int))))
  else
    Option.map .inr (slices_Concat_Sample_Sample_k1 p0x0 n3)

noncomputable def slices_Concat_Sample_Sample_l1 (p0x0 : List (List Sample)) (n3 : Int) (n4 : Int) : Option (List Sample) :=
  iter (fun x : Int × Int => slices_Concat_Sample_Sample_b1 p0x0 x.1 x.2) (n3, n4)

noncomputable def slices_Concat_Sample_Sample (p0x0 : List (List Sample)) : Option (List Sample) :=
  slices_Concat_Sample_Sample_l1 p0x0 (0 : Int) (0 : Int)

/-- Sorted by Go. -/
noncomputable def slices_SortFunc_Sample_Sample (p0x0 : List Sample) (fnb : Sample → Sample → Option Int) : Option (List Sample) :=
  sortO fnb p0x0

noncomputable def slices_Compact_Sample_Sample_j1 (n11 : Int) (l14 : List Sample) (n15 : Int) : Option (((List Sample) × Int × Int) ⊕ (Int ⊕ (List Sample))) :=
  some (.inl (l14, n15, w64 (n11 + (1 : Int))))

noncomputable def slices_Compact_Sample_Sample_k2 (l9 : List Sample) (n10 : Int) : Option (Int ⊕ (List Sample)) :=
  (slc l9 n10 (l9.length : Int)).bind fun l18 =>
  (slc (clr l9 n10 l18.length (⟨[], [], (0 : Int), (0 : Int)⟩ : Sample)) (0 : Int) n10).bind fun l19 =>
  Option.map .inr (some l19)

noncomputable def slices_Compact_Sample_Sample_b2 (n2 : Int) (l5 : List Sample) (l9 : List Sample) (n10 : Int) (n11 : Int) : Option (((List Sample) × Int × Int) ⊕ (Int ⊕ (List Sample))) :=
  if n11 < (l5.length : Int) then
    (idxS l9 n2 l5.length n11).bind fun v12 =>
    (idxS l9 n2 l5.length (w64 (n11 - (1 : Int)))).bind fun v13 =>
    if v12 ≠ v13 then
      (idxS l9 n2 l5.length n11).bind fun v16 =>
      (idx l9 n10).bind fun v17 =>
      slices_Compact_Sample_Sample_j1 n11 (l9.set n10.toNat v16) (w64 (n10 + (1 : Int)))
    else
      slices_Compact_Sample_Sample_j1 n11 l9 n10
  else
    Option.map .inr (slices_Compact_Sample_Sample_k2 l9 n10)

noncomputable def slices_Compact_Sample_Sample_l2 (n2 : Int) (l5 : List Sample) (l9 : List Sample) (n10 : Int) (n11 : Int) : Option (Int ⊕ (List Sample)) :=
  iter (fun x : (List Sample) × Int × Int => slices_Compact_Sample_Sample_b2 n2 l5 x.1 x.2.1 x.2.2) (l9, n10, n11)

noncomputable def slices_Compact_Sample_Sample_b1 (p0x0 : List Sample) (n2 : Int) : Option (Int ⊕ (List Sample)) :=
  if n2 < (p0x0.length : Int) then
    (idx p0x0 n2).bind fun v3 =>
    (idx p0x0 (w64 (n2 - (1 : Int)))).bind fun v4 =>
    if v3 = v4 then
      (slc p0x0 n2 (p0x0.length : Int)).bind fun l5 =>
      slices_Compact_Sample_Sample_l2 n2 l5 p0x0 n2 (1 : Int)
    else
      some (.inl (w64 (n2 + (1 : Int))))
  else
    Option.map .inr (some p0x0)

noncomputable def slices_Compact_Sample_Sample_l1 (p0x0 : List Sample) (n2 : Int) : Option (List Sample) :=
  iter (fun x : Int => slices_Compact_Sample_Sample_b1 p0x0 x) n2

noncomputable def slices_Compact_Sample_Sample (p0x0 : List Sample) : Option (List Sample) :=
  if (p0x0.length : Int) < (2 : Int) then
    some p0x0
  else
    slices_Compact_Sample_Sample_l1 p0x0 (1 : Int)

noncomputable def series_Merge_k1 (v8 : (List Sample)) : Option ((List Sample) × Int) :=
  if (5000 : Int) < (v8.length : Int) then
    some ([], (2 : Int))
  else
    some (v8, (0 : Int))

noncomputable def series_Merge_b1 (v8 : (List Sample)) (n11 : Int) : Option (Int ⊕ ((List Sample) × Int)) :=
  if n11 < (v8.length : Int) then
    (idx v8 (w64 (n11 - (1 : Int)))).bind fun v12 =>
    (idx v8 n11).bind fun v13 =>
    (series_byDevice v12 v13).bind fun v14 =>
    if v14 = (0 : Int) then
      Option.map .inr (some ([], (13 : Int)))
    else
      some (.inl (w64 (n11 + (1 : Int))))
  else
    Option.map .inr (series_Merge_k1 v8)

noncomputable def series_Merge_l1 (v8 : (List Sample)) (n11 : Int) : Option ((List Sample) × Int) :=
  iter (fun x : Int => series_Merge_b1 v8 x) n11

noncomputable def series_Merge (p0x0 : List Sample) (p1x0 : List Sample) : Option ((List Sample) × Int) :=
  (series_Check p0x0).bind fun v1 =>
  (series_Check p1x0).bind fun v2 =>
  (base_First [v1, v2]).bind fun v3 =>
  if v3 ≠ (0 : Int) then
    some ([], v3)
  else
    (slices_Concat_Sample_Sample [p0x0, p1x0]).bind fun v5 =>
    (lenOk v5.length (fun r : (List Sample) => r.length) (slices_SortFunc_Sample_Sample v5 (fun y0 y1 => series_byDevice y0 y1))).bind fun v7 =>
    (slices_Compact_Sample_Sample v7).bind fun v8 =>
    series_Merge_l1 v8 (1 : Int)

noncomputable def base_Window_j1 (c2 : Bool) : Bool :=
  c2

noncomputable def base_Window (p0x0 : Window) : Bool :=
  base_Window_j1 ((!(base_Out p0x0.From (0 : Int) p0x0.To)) && (decide (p0x0.To ≤ (345686400000 : Int))))

noncomputable def series_in_j1 (c2 : Bool) : Bool :=
  c2

noncomputable def series_in (p0x0 : Window) (p1x0 : Int) : Bool :=
  series_in_j1 ((decide (p0x0.From ≤ p1x0)) && (decide (p1x0 < p0x0.To)))

noncomputable def series_Of_j3 (n14 : Int) (l20 : List Sample) : Option (((List Sample) × Int) ⊕ ((List Sample) × Int)) :=
  some (.inl (l20, w64 (n14 + (1 : Int))))

noncomputable def series_Of_j2 (l13 : List Sample) (n14 : Int) (v16 : Sample) (c18 : Bool) : Option (((List Sample) × Int) ⊕ ((List Sample) × Int)) :=
  if c18 = true then
    (app l13 [v16]).bind fun l21 =>
    series_Of_j3 n14 l21
  else
    series_Of_j3 n14 l13

noncomputable def series_Of_b1 (p0x0 : List Sample) (p1x0 : Str) (p2x0 : Str) (p3x0 : Window) (l13 : List Sample) (n14 : Int) : Option (((List Sample) × Int) ⊕ ((List Sample) × Int)) :=
  if n14 < (p0x0.length : Int) then
    (idx p0x0 n14).bind fun v16 =>
    series_Of_j2 l13 n14 v16 ((decide (v16.Device = p1x0)) && ((decide (v16.Metric = p2x0)) && (series_in p3x0 v16.At)))
  else
    Option.map .inr (some (l13, (0 : Int)))

noncomputable def series_Of_l1 (p0x0 : List Sample) (p1x0 : Str) (p2x0 : Str) (p3x0 : Window) (l13 : List Sample) (n14 : Int) : Option ((List Sample) × Int) :=
  iter (fun x : (List Sample) × Int => series_Of_b1 p0x0 p1x0 p2x0 p3x0 x.1 x.2) (l13, n14)

noncomputable def series_Of_j1 (p0x0 : List Sample) (p1x0 : Str) (p2x0 : Str) (p3x0 : Window) (c4 : Bool) : Option ((List Sample) × Int) :=
  if c4 = true then
    some ([], (5 : Int))
  else
    if (!(base_Window p3x0)) = true then
      some ([], (1 : Int))
    else
      series_Of_l1 p0x0 p1x0 p2x0 p3x0 [] (0 : Int)

noncomputable def series_Of (p0x0 : List Sample) (p1x0 : Str) (p2x0 : Str) (p3x0 : Window) : Option ((List Sample) × Int) :=
  (series_Check p0x0).bind fun v2 =>
  if v2 ≠ (0 : Int) then
    some ([], v2)
  else
    (base_Key p1x0).bind fun v5 =>
    if (!v5) = true then
      series_Of_j1 p0x0 p1x0 p2x0 p3x0 true
    else
      (base_Key p2x0).bind fun v6 =>
      series_Of_j1 p0x0 p1x0 p2x0 p3x0 (!v6)

noncomputable def Q_in_j1 (c1 : Bool) : Bool :=
  c1

noncomputable def Q_in (p0x0 : Int) (p1x0 : Int) (p2x0 : Int) : Bool :=
  Q_in_j1 ((decide (p1x0 ≤ p0x0)) && (decide (p0x0 ≤ p2x0)))

noncomputable def Q_only_b1 (p0x0 : Str) (p1x0 : Str) (n2 : Int) : Option (Int ⊕ Bool) :=
  if n2 < (p0x0.length : Int) then
    (idx p0x0 n2).bind fun c3 =>
    if (indexByteI p1x0 (c3.toNat : Int)) < (0 : Int) then
      Option.map .inr (some false)
    else
      some (.inl (w64 (n2 + (1 : Int))))
  else
    Option.map .inr (some true)

noncomputable def Q_only_l1 (p0x0 : Str) (p1x0 : Str) (n2 : Int) : Option Bool :=
  iter (fun x : Int => Q_only_b1 p0x0 p1x0 x) n2

noncomputable def Q_only (p0x0 : Str) (p1x0 : Str) : Option Bool :=
  Q_only_l1 p0x0 p1x0 (0 : Int)

noncomputable def Q_Key_j1 (c1 : Bool) : Option Bool :=
  some c1

noncomputable def Q_Key (p0x0 : Str) : Option Bool :=
  if (Q_in (p0x0.length : Int) (1 : Int) (40 : Int)) = true then
    (slc p0x0 (0 : Int) (1 : Int)).bind fun l2 =>
    (Q_only l2 ([97, 98, 99, 100, 101, 102, 103, 104, 105, 106, 107, 108, 109, 110, 111, 112, 113, 114, 115, 116, 117, 118, 119, 120, 121, 122] : Str)).bind fun v3 =>
    if v3 = true then
      (Q_only p0x0 ([97, 98, 99, 100, 101, 102, 103, 104, 105, 106, 107, 108, 109, 110, 111, 112, 113, 114, 115, 116, 117, 118, 119, 120, 121, 122, 48, 49, 50, 51, 52, 53, 54, 55, 56, 57, 45, 95] : Str)).bind fun v4 =>
      Q_Key_j1 v4
    else
      Q_Key_j1 false
  else
    Q_Key_j1 false

noncomputable def Q_Moment (p0x0 : Int) : Bool :=
  (Q_in p0x0 (0 : Int) (345686399999 : Int))

noncomputable def Q_SamplesFault_j3 (n2 : Int) (c9 : Bool) : Option (Int ⊕ Int) :=
  if c9 = true then
    Option.map .inr (some (7 : Int))
  else
    some (.inl (w64 (n2 + (1 : Int))))

noncomputable def Q_SamplesFault_j2 (p0x0 : List Sample) (n2 : Int) (v3 : Sample) (c8 : Bool) : Option (Int ⊕ Int) :=
  if c8 = true then
    Option.map .inr (some (1 : Int))
  else
    if (0 : Int) < n2 then
      (idx p0x0 (w64 (n2 - (1 : Int)))).bind fun v10 =>
      (Q_SampleOrder v10 v3).bind fun v11 =>
      Q_SamplesFault_j3 n2 (decide ((0 : Int) ≤ v11))
    else
      Q_SamplesFault_j3 n2 false

noncomputable def Q_SamplesFault_j1 (p0x0 : List Sample) (n2 : Int) (v3 : Sample) (c5 : Bool) : Option (Int ⊕ Int) :=
  if c5 = true then
    Option.map .inr (some (5 : Int))
  else
    Q_SamplesFault_j2 p0x0 n2 v3 ((!(Q_Moment v3.At)) || (!(Q_in v3.Value (-1000000000 : Int) (1000000000 : Int))))

noncomputable def Q_SamplesFault_b1 (p0x0 : List Sample) (n2 : Int) : Option (Int ⊕ Int) :=
  if n2 < (p0x0.length : Int) then
    (idx p0x0 n2).bind fun v3 =>
    (Q_Key v3.Device).bind fun v6 =>
    if (!v6) = true then
      Q_SamplesFault_j1 p0x0 n2 v3 true
    else
      (Q_Key v3.Metric).bind fun v7 =>
      Q_SamplesFault_j1 p0x0 n2 v3 (!v7)
  else
    Option.map .inr (some (0 : Int))

noncomputable def Q_SamplesFault_l1 (p0x0 : List Sample) (n2 : Int) : Option Int :=
  iter (fun x : Int => Q_SamplesFault_b1 p0x0 x) n2

noncomputable def Q_SamplesFault (p0x0 : List Sample) : Option Int :=
  if (5000 : Int) < (p0x0.length : Int) then
    some (2 : Int)
  else
    Q_SamplesFault_l1 p0x0 (0 : Int)

noncomputable def series_CheckSeries_1x_j1 (c2 : Bool) : Option Bool :=
  some c2

noncomputable def series_CheckSeries_1x (p0x0 : Sample) (p1x0 : List Sample) : Option Bool :=
  (idx p1x0 (0 : Int)).bind fun v3 =>
  if p0x0.Device ≠ v3.Device then
    series_CheckSeries_1x_j1 true
  else
    (idx p1x0 (0 : Int)).bind fun v4 =>
    series_CheckSeries_1x_j1 (decide (p0x0.Metric ≠ v4.Metric))

noncomputable def slices_IndexFunc_Sample_Sample_b1 (p0x0 : List Sample) (fnb : Sample → Option Bool) (n2 : Int) : Option (Int ⊕ Int) :=
  if n2 < (p0x0.length : Int) then
    (idx p0x0 n2).bind fun v3 =>
    (fnb v3).bind fun v4 =>
    if v4 = true then
      Option.map .inr (some n2)
    else
      some (.inl (w64 (n2 + (1 : Int))))
  else
    Option.map .inr (some (-1 : Int))

noncomputable def slices_IndexFunc_Sample_Sample_l1 (p0x0 : List Sample) (fnb : Sample → Option Bool) (n2 : Int) : Option Int :=
  iter (fun x : Int => slices_IndexFunc_Sample_Sample_b1 p0x0 fnb x) n2

noncomputable def slices_IndexFunc_Sample_Sample (p0x0 : List Sample) (fnb : Sample → Option Bool) : Option Int :=
  slices_IndexFunc_Sample_Sample_l1 p0x0 fnb (0 : Int)

noncomputable def slices_ContainsFunc_Sample_Sample (p0x0 : List Sample) (fnb : Sample → Option Bool) : Option Bool :=
  (slices_IndexFunc_Sample_Sample p0x0 fnb).bind fun v1 =>
  some (decide ((0 : Int) ≤ v1))

noncomputable def series_CheckSeries (p0x0 : List Sample) : Option Int :=
  (series_Check p0x0).bind fun v2 =>
  if v2 ≠ (0 : Int) then
    some v2
  else
    (slices_ContainsFunc_Sample_Sample p0x0 (fun y0 => series_CheckSeries_1x y0 p0x0)).bind fun v3 =>
    if v3 = true then
      some (13 : Int)
    else
      some (0 : Int)

noncomputable def Q_SeriesFault_1x_j1 (c2 : Bool) : Option Bool :=
  some c2

noncomputable def Q_SeriesFault_1x (p0x0 : Sample) (p1x0 : List Sample) : Option Bool :=
  (idx p1x0 (0 : Int)).bind fun v3 =>
  if p0x0.Device ≠ v3.Device then
    Q_SeriesFault_1x_j1 true
  else
    (idx p1x0 (0 : Int)).bind fun v4 =>
    Q_SeriesFault_1x_j1 (decide (p0x0.Metric ≠ v4.Metric))

noncomputable def Q_SeriesFault (p0x0 : List Sample) : Option Int :=
  (Q_SamplesFault p0x0).bind fun v2 =>
  if v2 ≠ (0 : Int) then
    some v2
  else
    (slices_ContainsFunc_Sample_Sample p0x0 (fun y0 => Q_SeriesFault_1x y0 p0x0)).bind fun v3 =>
    if v3 = true then
      some (13 : Int)
    else
      some (0 : Int)

noncomputable def L_when (p0x0 : Bool) (p1x0 : Int) : Int :=
  if p0x0 = true then
    p1x0
  else
    (0 : Int)

noncomputable def Q_WindowFault_j1 (c2 : Bool) : Int :=
  if c2 = true then
    (1 : Int)
  else
    (0 : Int)

noncomputable def Q_WindowFault (p0x0 : Window) : Int :=
  Q_WindowFault_j1 ((!(Q_in p0x0.From (0 : Int) p0x0.To)) || (decide ((345686400000 : Int) < p0x0.To)))

noncomputable def L_errs_b1 (p0x0 : List Int) (n2 : Int) : Option (Int ⊕ Int) :=
  if n2 < (p0x0.length : Int) then
    (idx p0x0 n2).bind fun v3 =>
    if v3 ≠ (0 : Int) then
      Option.map .inr (some v3)
    else
      some (.inl (w64 (n2 + (1 : Int))))
  else
    Option.map .inr (some (0 : Int))

noncomputable def L_errs_l1 (p0x0 : List Int) (n2 : Int) : Option Int :=
  iter (fun x : Int => L_errs_b1 p0x0 x) n2

noncomputable def L_errs (p0x0 : List Int) : Option Int :=
  L_errs_l1 p0x0 (0 : Int)

noncomputable def Q_SamplesOf_j1 (n7 : Int) (c8 : Bool) : Option (Int ⊕ ((List Sample) × Int)) :=
  if c8 = true then
    Option.map .inr (some ([], (13 : Int)))
  else
    some (.inl (w64 (n7 + (1 : Int))))

noncomputable def Q_SamplesOf_k2 (v4 : (List Sample)) : Option ((List Sample) × Int) :=
  if (5000 : Int) < (v4.length : Int) then
    some ([], (2 : Int))
  else
    some (v4, (0 : Int))

noncomputable def Q_SamplesOf_b1 (v4 : (List Sample)) (n7 : Int) : Option (Int ⊕ ((List Sample) × Int)) :=
  if n7 < (v4.length : Int) then
    if (0 : Int) < n7 then
      (idx v4 (w64 (n7 - (1 : Int)))).bind fun v9 =>
      (idx v4 n7).bind fun v10 =>
      (Q_SampleOrder v9 v10).bind fun v11 =>
      Q_SamplesOf_j1 n7 (decide (v11 = (0 : Int)))
    else
      Q_SamplesOf_j1 n7 false
  else
    Option.map .inr (Q_SamplesOf_k2 v4)

noncomputable def Q_SamplesOf_l1 (v4 : (List Sample)) (n7 : Int) : Option ((List Sample) × Int) :=
  iter (fun x : Int => Q_SamplesOf_b1 v4 x) n7

noncomputable def Q_SamplesOf (p0x0 : List Sample) (p1x0 : List Sample) : Option ((List Sample) × Int) :=
  (slices_Concat_Sample_Sample [p0x0, p1x0]).bind fun v1 =>
  (lenOk v1.length (fun r : (List Sample) => r.length) (slices_SortStableFunc_Sample_Sample v1 (fun y0 y1 => Q_SampleOrder y0 y1))).bind fun v3 =>
  (slices_Compact_Sample_Sample v3).bind fun v4 =>
  Q_SamplesOf_l1 v4 (0 : Int)

noncomputable def Q_within_j1 (c2 : Bool) : Bool :=
  c2

noncomputable def Q_within (p0x0 : Int) (p1x0 : Window) : Bool :=
  Q_within_j1 ((decide (p1x0.From ≤ p0x0)) && (decide (p0x0 < p1x0.To)))

noncomputable def Q_PickedOf_1x_j1 (c2 : Bool) : Bool :=
  c2

noncomputable def Q_PickedOf_1x (p0x0 : Sample) (p1x0 : Str) (p2x0 : Str) (p3x0 : Window) : Bool :=
  Q_PickedOf_1x_j1 ((decide (p0x0.Device ≠ p1x0)) || ((decide (p0x0.Metric ≠ p2x0)) || (!(Q_within p0x0.At p3x0))))

noncomputable def slices_DeleteFunc_Sample_Sample_j1 (n7 : Int) (l11 : List Sample) (n12 : Int) : Option (((List Sample) × Int × Int) ⊕ (List Sample)) :=
  some (.inl (l11, n12, w64 (n7 + (1 : Int))))

noncomputable def slices_DeleteFunc_Sample_Sample_k2 (l5 : List Sample) (n6 : Int) : Option (List Sample) :=
  (slc l5 n6 (l5.length : Int)).bind fun l14 =>
  (slc (clr l5 n6 l14.length (⟨[], [], (0 : Int), (0 : Int)⟩ : Sample)) (0 : Int) n6).bind fun l15 =>
  some l15

noncomputable def slices_DeleteFunc_Sample_Sample_b1 (fnb : Sample → Option Bool) (l5 : List Sample) (n6 : Int) (n7 : Int) : Option (((List Sample) × Int × Int) ⊕ (List Sample)) :=
  if n7 < (l5.length : Int) then
    (idx l5 n7).bind fun v8 =>
    (fnb v8).bind fun v10 =>
    if (!v10) = true then
      (idx l5 n6).bind fun v13 =>
      slices_DeleteFunc_Sample_Sample_j1 n7 (l5.set n6.toNat v8) (w64 (n6 + (1 : Int)))
    else
      slices_DeleteFunc_Sample_Sample_j1 n7 l5 n6
  else
    Option.map .inr (slices_DeleteFunc_Sample_Sample_k2 l5 n6)

noncomputable def slices_DeleteFunc_Sample_Sample_l1 (fnb : Sample → Option Bool) (l5 : List Sample) (n6 : Int) (n7 : Int) : Option (List Sample) :=
  iter (fun x : (List Sample) × Int × Int => slices_DeleteFunc_Sample_Sample_b1 fnb x.1 x.2.1 x.2.2) (l5, n6, n7)

noncomputable def slices_DeleteFunc_Sample_Sample (p0x0 : List Sample) (fnb : Sample → Option Bool) : Option (List Sample) :=
  (slices_IndexFunc_Sample_Sample p0x0 fnb).bind fun v1 =>
  if v1 = (-1 : Int) then
    some p0x0
  else
    slices_DeleteFunc_Sample_Sample_l1 fnb p0x0 v1 (w64 (v1 + (1 : Int)))

noncomputable def Q_PickedOf (p0x0 : List Sample) (p1x0 : Str) (p2x0 : Str) (p3x0 : Window) : Option (List Sample) :=
  (slices_Clone_Sample_Sample p0x0).bind fun v4 =>
  (slices_DeleteFunc_Sample_Sample v4 (fun y0 => some (Q_PickedOf_1x y0 p1x0 p2x0 p3x0))).bind fun v6 =>
  some v6

noncomputable def slices_Equal_Sample_Sample_b1 (p0x0 : List Sample) (p1x0 : List Sample) (n2 : Int) : Option (Int ⊕ Bool) :=
  if n2 < (p0x0.length : Int) then
    (idx p0x0 n2).bind fun v3 =>
    (idx p1x0 n2).bind fun v4 =>
    if v3 ≠ v4 then
      Option.map .inr (some false)
    else
      some (.inl (w64 (n2 + (1 : Int))))
  else
    Option.map .inr (some true)

noncomputable def slices_Equal_Sample_Sample_l1 (p0x0 : List Sample) (p1x0 : List Sample) (n2 : Int) : Option Bool :=
  iter (fun x : Int => slices_Equal_Sample_Sample_b1 p0x0 p1x0 x) n2

noncomputable def slices_Equal_Sample_Sample (p0x0 : List Sample) (p1x0 : List Sample) : Option Bool :=
  if (p0x0.length : Int) ≠ (p1x0.length : Int) then
    some false
  else
    slices_Equal_Sample_Sample_l1 p0x0 p1x0 (0 : Int)

noncomputable def series_seven_n0x_k1 (l5 : List Int) (n6 : Int) : Option (List Int) :=
  (app l5 [IntKind.u8.wrap (n6)]).bind fun l10 =>
  some l10

noncomputable def series_seven_n0x_b1 (l5 : List Int) (n6 : Int) : Option (((List Int) × Int) ⊕ (List Int)) :=
  if (128 : Int) ≤ n6 then
    (app l5 [orI .u8 (IntKind.u8.wrap (andI .u64 n6 (127 : Int))) (128 : Int)]).bind fun l8 =>
    some (.inl (l8, shrI .u64 n6 (7 : Int)))
  else
    Option.map .inr (series_seven_n0x_k1 l5 n6)

noncomputable def series_seven_n0x_l1 (l5 : List Int) (n6 : Int) : Option (List Int) :=
  iter (fun x : (List Int) × Int => series_seven_n0x_b1 x.1 x.2) (l5, n6)

noncomputable def series_seven_n0x (p1x0 : Int) : Option (List Int) :=
  series_seven_n0x_l1 [] p1x0

noncomputable def series_doubled (p0x0 : Int) : Int :=
  if p0x0 < (0 : Int) then
    IntKind.u64.wrap (w64 ((w64 ((-2 : Int) * p0x0)) - (1 : Int)))
  else
    IntKind.u64.wrap (w64 ((2 : Int) * p0x0))

noncomputable def series_seven_o0x_k1 (l5 : List Int) (n6 : Int) : Option (List Int) :=
  (app l5 [IntKind.u8.wrap (n6)]).bind fun l9 =>
  some l9

noncomputable def series_seven_o0x_b1 (l5 : List Int) (n6 : Int) : Option (((List Int) × Int) ⊕ (List Int)) :=
  if (128 : Int) ≤ n6 then
    (app l5 [orI .u8 (IntKind.u8.wrap (andI .u64 n6 (127 : Int))) (128 : Int)]).bind fun l7 =>
    some (.inl (l7, shrI .u64 n6 (7 : Int)))
  else
    Option.map .inr (series_seven_o0x_k1 l5 n6)

noncomputable def series_seven_o0x_l1 (l5 : List Int) (n6 : Int) : Option (List Int) :=
  iter (fun x : (List Int) × Int => series_seven_o0x_b1 x.1 x.2) (l5, n6)

noncomputable def series_seven_o0x (p0x0 : List Int) (p1x0 : Int) : Option (List Int) :=
  series_seven_o0x_l1 p0x0 p1x0

noncomputable def series_pack_j1 (n14 : Int) (v15 : Sample) (v19 : (List Int)) (n21 : Int) : Option (((List Int) × Int × Int × Int × Int) ⊕ (List Int)) :=
  some (.inl (v19, v15.At, n21, v15.Value, w64 (n14 + (1 : Int))))

noncomputable def series_pack_b1 (p0x0 : List Sample) (l10 : List Int) (n11 : Int) (n12 : Int) (n13 : Int) (n14 : Int) : Option (((List Int) × Int × Int × Int × Int) ⊕ (List Int)) :=
  if n14 < (p0x0.length : Int) then
    (idx p0x0 n14).bind fun v15 =>
    (series_seven_o0x l10 (series_doubled (w64 ((w64 (v15.At - n11)) - n12)))).bind fun v17 =>
    (series_seven_o0x v17 (series_doubled (w64 (v15.Value - n13)))).bind fun v19 =>
    if (0 : Int) < n14 then
      series_pack_j1 n14 v15 v19 (w64 (v15.At - n11))
    else
      series_pack_j1 n14 v15 v19 n12
  else
    Option.map .inr (some l10)

noncomputable def series_pack_l1 (p0x0 : List Sample) (l10 : List Int) (n11 : Int) (n12 : Int) (n13 : Int) (n14 : Int) : Option (List Int) :=
  iter (fun x : (List Int) × Int × Int × Int × Int => series_pack_b1 p0x0 x.1 x.2.1 x.2.2.1 x.2.2.2.1 x.2.2.2.2) (l10, n11, n12, n13, n14)

noncomputable def series_pack (p0x0 : List Sample) : Option (List Int) :=
  (series_seven_n0x (IntKind.u64.wrap ((p0x0.length : Int)))).bind fun v1 =>
  series_pack_l1 p0x0 v1 (0 : Int) (0 : Int) (0 : Int) (0 : Int)

noncomputable def series_Pack (p0x0 : List Sample) : Option ((List Int) × Int) :=
  (series_CheckSeries p0x0).bind fun v1 =>
  if v1 ≠ (0 : Int) then
    some ([], v1)
  else
    (series_pack p0x0).bind fun v3 =>
    some (v3, (0 : Int))

noncomputable def slices_Equal_byte_byte_b1 (p0x0 : List Int) (p1x0 : List Int) (n2 : Int) : Option (Int ⊕ Bool) :=
  if n2 < (p0x0.length : Int) then
    (idx p0x0 n2).bind fun v3 =>
    (idx p1x0 n2).bind fun v4 =>
    if v3 ≠ v4 then
      Option.map .inr (some false)
    else
      some (.inl (w64 (n2 + (1 : Int))))
  else
    Option.map .inr (some true)

noncomputable def slices_Equal_byte_byte_l1 (p0x0 : List Int) (p1x0 : List Int) (n2 : Int) : Option Bool :=
  iter (fun x : Int => slices_Equal_byte_byte_b1 p0x0 p1x0 x) n2

noncomputable def slices_Equal_byte_byte (p0x0 : List Int) (p1x0 : List Int) : Option Bool :=
  if (p0x0.length : Int) ≠ (p1x0.length : Int) then
    some false
  else
    slices_Equal_byte_byte_l1 p0x0 p1x0 (0 : Int)

noncomputable def L_measured_j1 (c3 : Bool) : Option Bool :=
  some c3

noncomputable def L_measured : Option Bool :=
  (series_Pack [(⟨([100] : Str), ([109] : Str), (1 : Int), (1 : Int)⟩ : Sample)]).bind fun v1 =>
  if v1.2 = (0 : Int) then
    (slices_Equal_byte_byte v1.1 [(1 : Int), (2 : Int), (2 : Int)]).bind fun v4 =>
    L_measured_j1 v4
  else
    L_measured_j1 false

noncomputable def L_SamplesMerge_j7 (c55 : Bool) : Option Bool :=
  some c55

noncomputable def L_SamplesMerge_j6 (v26 : (List Sample) × Int) (v28 : (List Sample) × Int) (n37 : Int) (n44 : Int) (l46 : List Sample) (l51 : List Sample) : Option Bool :=
  if v26.2 = n44 then
    (slices_Equal_Sample_Sample v26.1 l46).bind fun v56 =>
    if v56 = true then
      if v28.2 = n37 then
        (slices_Equal_Sample_Sample v28.1 l51).bind fun v57 =>
        if v57 = true then
          (L_measured).bind fun v58 =>
          L_SamplesMerge_j7 v58
        else
          L_SamplesMerge_j7 false
      else
        L_SamplesMerge_j7 false
    else
      L_SamplesMerge_j7 false
  else
    L_SamplesMerge_j7 false

noncomputable def L_SamplesMerge_j5 (v3 : (List Sample) × Fleetmake_Stream) (v20 : Str × Fleetmake_Stream) (v21 : Str × Fleetmake_Stream) (v22 : Window × Fleetmake_Stream) (v26 : (List Sample) × Int) (v28 : (List Sample) × Int) (n37 : Int) (n44 : Int) (l46 : List Sample) : Option Bool :=
  if n37 = (0 : Int) then
    (Q_PickedOf v3.1 v20.1 v21.1 v22.1).bind fun v52 =>
    L_SamplesMerge_j6 v26 v28 n37 n44 l46 v52
  else
    L_SamplesMerge_j6 v26 v28 n37 n44 l46 []

noncomputable def L_SamplesMerge_j4 (v3 : (List Sample) × Fleetmake_Stream) (l15 : List Sample) (v20 : Str × Fleetmake_Stream) (v21 : Str × Fleetmake_Stream) (v22 : Window × Fleetmake_Stream) (v26 : (List Sample) × Int) (v28 : (List Sample) × Int) (v30 : Int) (n37 : Int) : Option Bool :=
  (Q_SamplesFault l15).bind fun v42 =>
  (L_errs [v30, v42]).bind fun v43 =>
  if v43 = (0 : Int) then
    (Q_SamplesOf v3.1 l15).bind fun v47 =>
    L_SamplesMerge_j5 v3 v20 v21 v22 v26 v28 n37 v47.2 v47.1
  else
    L_SamplesMerge_j5 v3 v20 v21 v22 v26 v28 n37 v43 []

noncomputable def L_SamplesMerge_j3 (v3 : (List Sample) × Fleetmake_Stream) (l15 : List Sample) (v20 : Str × Fleetmake_Stream) (v21 : Str × Fleetmake_Stream) (v22 : Window × Fleetmake_Stream) (v26 : (List Sample) × Int) (v28 : (List Sample) × Int) (v30 : Int) (c31 : Bool) : Option Bool :=
  if c31 = true then
    some false
  else
    (Q_Key v20.1).bind fun v38 =>
    if (!v38) = true then
      (L_errs [v30, (L_when true (5 : Int)), (Q_WindowFault v22.1)]).bind fun v41 =>
      L_SamplesMerge_j4 v3 l15 v20 v21 v22 v26 v28 v30 v41
    else
      (Q_Key v21.1).bind fun v39 =>
      (L_errs [v30, (L_when (!v39) (5 : Int)), (Q_WindowFault v22.1)]).bind fun v40 =>
      L_SamplesMerge_j4 v3 l15 v20 v21 v22 v26 v28 v30 v40

noncomputable def L_SamplesMerge_j2 (v3 : (List Sample) × Fleetmake_Stream) (l12 : List Int) (n13 : Int) (l15 : List Sample) : Option Bool :=
  (Stream_Some (⟨l12, n13⟩ : Fleetmake_Stream) [([100] : Str), ([101] : Str), ([120] : Str), ([] : Str), ([65] : Str)]).bind fun v20 =>
  (Stream_Some v20.2 [([109] : Str), ([110] : Str), ([] : Str)]).bind fun v21 =>
  (Stream_Frame v21.2).bind fun v22 =>
  (Stream_Series v22.2 (6 : Int)).bind fun v23 =>
  (series_Merge v3.1 l15).bind fun v26 =>
  (series_Of v3.1 v20.1 v21.1 v22.1).bind fun v28 =>
  (Q_SamplesFault v3.1).bind fun v30 =>
  (series_Check v3.1).bind fun v32 =>
  if v32 ≠ v30 then
    L_SamplesMerge_j3 v3 l15 v20 v21 v22 v26 v28 v30 true
  else
    (series_CheckSeries v23.1).bind fun v33 =>
    (Q_SeriesFault v23.1).bind fun v34 =>
    if v33 ≠ v34 then
      L_SamplesMerge_j3 v3 l15 v20 v21 v22 v26 v28 v30 true
    else
      (series_CheckSeries v3.1).bind fun v35 =>
      (Q_SeriesFault v3.1).bind fun v36 =>
      L_SamplesMerge_j3 v3 l15 v20 v21 v22 v26 v28 v30 (decide (v35 ≠ v36))

noncomputable def L_SamplesMerge_j1 (v3 : (List Sample) × Fleetmake_Stream) (v6 : (List Sample) × Fleetmake_Stream) (l8 : List Int) (n9 : Int) (c10 : Bool) : Option Bool :=
  if c10 = true then
    (Stream_Next (⟨l8, n9⟩ : Fleetmake_Stream) (v3.1.length : Int)).bind fun v16 =>
    (slc v3.1 v16.1 (v3.1.length : Int)).bind fun l17 =>
    (slices_Clone_Sample_Sample l17).bind fun v18 =>
    L_SamplesMerge_j2 v3 v16.2.L v16.2.at_ v18
  else
    L_SamplesMerge_j2 v3 l8 n9 v6.1

noncomputable def L_SamplesMerge (p0x0 : List Int) : Option Bool :=
  (Stream_Range (⟨p0x0, (0 : Int)⟩ : Fleetmake_Stream) (0 : Int) (8 : Int)).bind fun v2 =>
  (Stream_Samples v2.2 v2.1).bind fun v3 =>
  (Stream_Range v3.2 (0 : Int) (6 : Int)).bind fun v5 =>
  (Stream_Samples v5.2 v5.1).bind fun v6 =>
  if (0 : Int) < (v3.1.length : Int) then
    (Stream_Flip v6.2 (2 : Int)).bind fun v11 =>
    L_SamplesMerge_j1 v3 v6 v11.2.L v11.2.at_ v11.1
  else
    L_SamplesMerge_j1 v3 v6 v6.2.L v6.2.at_ false

end Go.Beacon
