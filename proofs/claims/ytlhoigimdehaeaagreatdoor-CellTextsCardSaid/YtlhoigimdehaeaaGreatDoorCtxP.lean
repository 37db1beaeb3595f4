/- Plain functions that the Go functions compute, written by shal.py. -/
import Derived.Test.YtlhoigimdehaeaaGreatDoorCore
set_option linter.unusedVariables false
namespace Go.Beacon
open Go Go.Eng
structure Fleetmake_Stream where
  L : List Int
  at_ : Int
deriving DecidableEq, Inhabited
def Fleetmake_Stream.av (x : Fleetmake_Stream) : AV := .agg [.list 1 (x.L.map I), I x.at_]

structure ValueS where
  Kind : Int
  Flag : Bool
  Number : Int
  Words : Str
deriving DecidableEq, Inhabited
def ValueS.av (x : ValueS) : AV := .agg [I x.Kind, .bool x.Flag, I x.Number, .str x.Words]

structure PropS where
  Name : Str
  Value : ValueS
deriving DecidableEq, Inhabited
def PropS.av (x : PropS) : AV := .agg [.str x.Name, I x.Value.Kind, .bool x.Value.Flag, I x.Value.Number, .str x.Value.Words]

structure Stamp where
  At : Int
  By : Str
  No : Int
deriving DecidableEq, Inhabited
def Stamp.av (x : Stamp) : AV := .agg [I x.At, .str x.By, I x.No]

structure Cell where
  Prop_ : PropS
  Stamp : Stamp
deriving DecidableEq, Inhabited
def Cell.av (x : Cell) : AV := .agg [.str x.Prop_.Name, I x.Prop_.Value.Kind, .bool x.Prop_.Value.Flag, I x.Prop_.Value.Number, .str x.Prop_.Value.Words, I x.Stamp.At, .str x.Stamp.By, I x.Stamp.No]

structure Change where
  Name : Str
  From : ValueS
  To : ValueS
deriving DecidableEq, Inhabited
def Change.av (x : Change) : AV := .agg [.str x.Name, I x.From.Kind, .bool x.From.Flag, I x.From.Number, .str x.From.Words, I x.To.Kind, .bool x.To.Flag, I x.To.Number, .str x.To.Words]

noncomputable def Below_j1 (n2 : Int) : Option Int :=
  some n2

noncomputable def Below (p0x0 : Int) (p1x0 : Int) : Option Int :=
  if p1x0 < (1 : Int) then
    some (0 : Int)
  else
    (rem p0x0 p1x0).bind fun n1 =>
    if n1 < (0 : Int) then
      Below_j1 (w64 (n1 + p1x0))
    else
      Below_j1 n1

noncomputable def Stream_Next (p0x0 : Fleetmake_Stream) (p1x0 : Int) : Option (Int × Fleetmake_Stream) :=
  if (p0x0.L.length : Int) = (0 : Int) then
    (Below (w64 ((w64 (p0x0.at_ + (1 : Int))) * (7919 : Int))) p1x0).bind fun v1 =>
    some (v1, (⟨p0x0.L, w64 (p0x0.at_ + (1 : Int))⟩ : Fleetmake_Stream))
  else
    (rem (w64 ((w64 (p0x0.at_ + (1 : Int))) - (1 : Int))) (p0x0.L.length : Int)).bind fun n2 =>
    (quo (w64 ((w64 (p0x0.at_ + (1 : Int))) - (1 : Int))) (p0x0.L.length : Int)).bind fun n3 =>
    (idx p0x0.L n2).bind fun v4 =>
    (Below v4 (1073741824 : Int)).bind fun v5 =>
    (Below (w64 (v5 + (w64 (n3 * (w64 ((7919 : Int) + n2)))))) p1x0).bind fun v6 =>
    some (v6, (⟨p0x0.L, w64 (p0x0.at_ + (1 : Int))⟩ : Fleetmake_Stream))

noncomputable def Stream_Range (p0x0 : Fleetmake_Stream) (p1x0 : Int) (p2x0 : Int) : Option (Int × Fleetmake_Stream) :=
  if p2x0 < p1x0 then
    some (p1x0, p0x0)
  else
    (Stream_Next p0x0 (w64 ((w64 (p2x0 - p1x0)) + (1 : Int)))).bind fun v1 =>
    some (w64 (p1x0 + v1.1), v1.2)

noncomputable def Stream_Some (p0x0 : Fleetmake_Stream) (p1x0 : List Str) : Option (Str × Fleetmake_Stream) :=
  (Stream_Next p0x0 (p1x0.length : Int)).bind fun v1 =>
  (idx p1x0 v1.1).bind fun v2 =>
  some (v2, v1.2)

noncomputable def Stream_Flip (p0x0 : Fleetmake_Stream) (p1x0 : Int) : Option (Bool × Fleetmake_Stream) :=
  (Stream_Next p0x0 p1x0).bind fun v1 =>
  some (decide (v1.1 = (0 : Int)), v1.2)

noncomputable def Stream_Pick (p0x0 : Fleetmake_Stream) (p1x0 : List Int) : Option (Int × Fleetmake_Stream) :=
  (Stream_Next p0x0 (p1x0.length : Int)).bind fun v1 =>
  (idx p1x0 v1.1).bind fun v2 =>
  some (v2, v1.2)

noncomputable def Stream_RightValue (p0x0 : Fleetmake_Stream) : Option (ValueS × Fleetmake_Stream) :=
  (Stream_Next p0x0 (4 : Int)).bind fun v2 =>
  if v2.1 = (0 : Int) then
    (Stream_Flip v2.2 (2 : Int)).bind fun v3 =>
    some ((⟨(1 : Int), v3.1, (0 : Int), []⟩ : ValueS), v3.2)
  else
    if v2.1 = (1 : Int) then
      (Stream_Some v2.2 [([] : Str), ([120] : Str), ([97, 32, 34, 98, 34] : Str), ([92] : Str), ([195, 169] : Str), ([45, 32, 49] : Str)]).bind fun v4 =>
      some ((⟨(3 : Int), false, (0 : Int), v4.1⟩ : ValueS), v4.2)
    else
      (Stream_Pick v2.2 [(1 : Int), (2 : Int), (2 : Int), (3 : Int), (0 : Int), (-5 : Int), (1000000000 : Int)]).bind fun v5 =>
      some ((⟨(2 : Int), false, v5.1, []⟩ : ValueS), v5.2)

noncomputable def Stream_RightStamp (p0x0 : Fleetmake_Stream) : Option (Stamp × Fleetmake_Stream) :=
  (Stream_Range p0x0 (0 : Int) (9 : Int)).bind fun v2 =>
  (Stream_Some v2.2 [([104] : Str), ([104] : Str), ([107] : Str)]).bind fun v3 =>
  (Stream_Pick v3.2 [(0 : Int), (0 : Int), (1 : Int)]).bind fun v4 =>
  some ((⟨v2.1, v3.1, v4.1⟩ : Stamp), v4.2)

noncomputable def cellOrder (p0x0 : Cell) (p1x0 : Cell) : Int :=
  (Lib.compareBytes p0x0.Prop_.Name p1x0.Prop_.Name)

noncomputable def slices_insertionSortCmpFunc_Cell_j1 (n4 : Int) (l7 : List Cell) (n8 : Int) (c9 : Bool) : Option (((List Cell) × Int) ⊕ (((List Cell) × Int) ⊕ (List Cell))) :=
  if c9 = true then
    (idx l7 (w64 (n8 - (1 : Int)))).bind fun v13 =>
    (idx l7 n8).bind fun v14 =>
    (idx l7 n8).bind fun v15 =>
    (idx (l7.set n8.toNat v13) (w64 (n8 - (1 : Int)))).bind fun v16 =>
    some (.inl ((l7.set n8.toNat v13).set (w64 (n8 - (1 : Int))).toNat v14, w64 (n8 - (1 : Int))))
  else
    Option.map .inr (some (.inl (l7, w64 (n4 + (1 : Int)))))

noncomputable def slices_insertionSortCmpFunc_Cell_b2 (p1x0 : Int) (fnd : Cell → Cell → Option Int) (n4 : Int) (l7 : List Cell) (n8 : Int) : Option (((List Cell) × Int) ⊕ (((List Cell) × Int) ⊕ (List Cell))) :=
  if p1x0 < n8 then
    (idx l7 n8).bind fun v10 =>
    (idx l7 (w64 (n8 - (1 : Int)))).bind fun v11 =>
    (fnd v10 v11).bind fun v12 =>
    slices_insertionSortCmpFunc_Cell_j1 n4 l7 n8 (decide (v12 < (0 : Int)))
  else
    slices_insertionSortCmpFunc_Cell_j1 n4 l7 n8 false

noncomputable def slices_insertionSortCmpFunc_Cell_l2 (p1x0 : Int) (fnd : Cell → Cell → Option Int) (n4 : Int) (l7 : List Cell) (n8 : Int) : Option (((List Cell) × Int) ⊕ (List Cell)) :=
  iter (fun x : (List Cell) × Int => slices_insertionSortCmpFunc_Cell_b2 p1x0 fnd n4 x.1 x.2) (l7, n8)

noncomputable def slices_insertionSortCmpFunc_Cell_b1 (p1x0 : Int) (p2x0 : Int) (fnd : Cell → Cell → Option Int) (l3 : List Cell) (n4 : Int) : Option (((List Cell) × Int) ⊕ (List Cell)) :=
  if n4 < p2x0 then
    slices_insertionSortCmpFunc_Cell_l2 p1x0 fnd n4 l3 n4
  else
    Option.map .inr (some l3)

noncomputable def slices_insertionSortCmpFunc_Cell_l1 (p1x0 : Int) (p2x0 : Int) (fnd : Cell → Cell → Option Int) (l3 : List Cell) (n4 : Int) : Option (List Cell) :=
  iter (fun x : (List Cell) × Int => slices_insertionSortCmpFunc_Cell_b1 p1x0 p2x0 fnd x.1 x.2) (l3, n4)

noncomputable def slices_insertionSortCmpFunc_Cell (p0x0 : List Cell) (p1x0 : Int) (p2x0 : Int) (fnd : Cell → Cell → Option Int) : Option (List Cell) :=
  slices_insertionSortCmpFunc_Cell_l1 p1x0 p2x0 fnd p0x0 (w64 (p1x0 + (1 : Int)))

noncomputable def slices_swapRangeCmpFunc_Cell_b1 (p1x0 : Int) (p2x0 : Int) (p3x0 : Int) (l3 : List Cell) (n4 : Int) : Option (((List Cell) × Int) ⊕ (List Cell)) :=
  if n4 < p3x0 then
    (idx l3 (w64 (p2x0 + n4))).bind fun v5 =>
    (idx l3 (w64 (p1x0 + n4))).bind fun v6 =>
    (idx l3 (w64 (p1x0 + n4))).bind fun v7 =>
    (idx (l3.set (w64 (p1x0 + n4)).toNat v5) (w64 (p2x0 + n4))).bind fun v8 =>
    some (.inl ((l3.set (w64 (p1x0 + n4)).toNat v5).set (w64 (p2x0 + n4)).toNat v6, w64 (n4 + (1 : Int))))
  else
    Option.map .inr (some l3)

noncomputable def slices_swapRangeCmpFunc_Cell_l1 (p1x0 : Int) (p2x0 : Int) (p3x0 : Int) (l3 : List Cell) (n4 : Int) : Option (List Cell) :=
  iter (fun x : (List Cell) × Int => slices_swapRangeCmpFunc_Cell_b1 p1x0 p2x0 p3x0 x.1 x.2) (l3, n4)

noncomputable def slices_swapRangeCmpFunc_Cell (p0x0 : List Cell) (p1x0 : Int) (p2x0 : Int) (p3x0 : Int) (fne : Cell → Cell → Option Int) : Option (List Cell) :=
  slices_swapRangeCmpFunc_Cell_l1 p1x0 p2x0 p3x0 p0x0 (0 : Int)

noncomputable def slices_rotateCmpFunc_Cell_j1 (l7 : List Cell) (n8 : Int) (n9 : Int) : Option (((List Cell) × Int × Int) ⊕ (List Cell)) :=
  some (.inl (l7, n8, n9))

noncomputable def slices_rotateCmpFunc_Cell_k2 (p2x0 : Int) (fne : Cell → Cell → Option Int) (l4 : List Cell) (n5 : Int) : Option (List Cell) :=
  (lenOk l4.length (fun r : (List Cell) => r.length) (slices_swapRangeCmpFunc_Cell l4 (w64 (p2x0 - n5)) p2x0 n5 fne)).bind fun v12 =>
  some v12

noncomputable def slices_rotateCmpFunc_Cell_b1 (p2x0 : Int) (fne : Cell → Cell → Option Int) (l4 : List Cell) (n5 : Int) (n6 : Int) : Option (((List Cell) × Int × Int) ⊕ (List Cell)) :=
  if n5 ≠ n6 then
    if n6 < n5 then
      (lenOk l4.length (fun r : (List Cell) => r.length) (slices_swapRangeCmpFunc_Cell l4 (w64 (p2x0 - n5)) p2x0 n6 fne)).bind fun v10 =>
      slices_rotateCmpFunc_Cell_j1 v10 (w64 (n5 - n6)) n6
    else
      (lenOk l4.length (fun r : (List Cell) => r.length) (slices_swapRangeCmpFunc_Cell l4 (w64 (p2x0 - n5)) (w64 ((w64 (p2x0 + n6)) - n5)) n5 fne)).bind fun v11 =>
      slices_rotateCmpFunc_Cell_j1 v11 n5 (w64 (n6 - n5))
  else
    Option.map .inr (slices_rotateCmpFunc_Cell_k2 p2x0 fne l4 n5)

noncomputable def slices_rotateCmpFunc_Cell_l1 (p2x0 : Int) (fne : Cell → Cell → Option Int) (l4 : List Cell) (n5 : Int) (n6 : Int) : Option (List Cell) :=
  iter (fun x : (List Cell) × Int × Int => slices_rotateCmpFunc_Cell_b1 p2x0 fne x.1 x.2.1 x.2.2) (l4, n5, n6)

noncomputable def slices_rotateCmpFunc_Cell (p0x0 : List Cell) (p1x0 : Int) (p2x0 : Int) (p3x0 : Int) (fne : Cell → Cell → Option Int) : Option (List Cell) :=
  slices_rotateCmpFunc_Cell_l1 p2x0 fne p0x0 (w64 (p2x0 - p1x0)) (w64 (p3x0 - p2x0))

noncomputable def slices_symMergeCmpFunc_Cell_j1 (n8 : Int) (n9 : Int) : Option ((Int × Int) ⊕ (List Cell)) :=
  some (.inl (n8, n9))

noncomputable def slices_symMergeCmpFunc_Cell_b2 (n3 : Int) (l12 : List Cell) (n13 : Int) : Option (((List Cell) × Int) ⊕ (List Cell)) :=
  if n13 < (w64 (n3 - (1 : Int))) then
    (idx l12 (w64 (n13 + (1 : Int)))).bind fun v14 =>
    (idx l12 n13).bind fun v15 =>
    (idx l12 n13).bind fun v16 =>
    (idx (l12.set n13.toNat v14) (w64 (n13 + (1 : Int)))).bind fun v17 =>
    some (.inl ((l12.set n13.toNat v14).set (w64 (n13 + (1 : Int))).toNat v15, w64 (n13 + (1 : Int))))
  else
    Option.map .inr (some l12)

noncomputable def slices_symMergeCmpFunc_Cell_l2 (n3 : Int) (l12 : List Cell) (n13 : Int) : Option (List Cell) :=
  iter (fun x : (List Cell) × Int => slices_symMergeCmpFunc_Cell_b2 n3 x.1 x.2) (l12, n13)

noncomputable def slices_symMergeCmpFunc_Cell_b1 (p0x0 : List Cell) (p1x0 : Int) (fne : Cell → Cell → Option Int) (n3 : Int) (n4 : Int) : Option ((Int × Int) ⊕ (List Cell)) :=
  if n3 < n4 then
    (idx p0x0 (w64 (shrI .u64 (IntKind.u64.wrap (w64 (n3 + n4))) (1 : Int)))).bind fun v5 =>
    (idx p0x0 p1x0).bind fun v6 =>
    (fne v5 v6).bind fun v7 =>
    if v7 < (0 : Int) then
      slices_symMergeCmpFunc_Cell_j1 (w64 ((w64 (shrI .u64 (IntKind.u64.wrap (w64 (n3 + n4))) (1 : Int))) + (1 : Int))) n4
    else
      slices_symMergeCmpFunc_Cell_j1 n3 (w64 (shrI .u64 (IntKind.u64.wrap (w64 (n3 + n4))) (1 : Int)))
  else
    Option.map .inr (slices_symMergeCmpFunc_Cell_l2 n3 p0x0 p1x0)

noncomputable def slices_symMergeCmpFunc_Cell_l1 (p0x0 : List Cell) (p1x0 : Int) (fne : Cell → Cell → Option Int) (n3 : Int) (n4 : Int) : Option (List Cell) :=
  iter (fun x : Int × Int => slices_symMergeCmpFunc_Cell_b1 p0x0 p1x0 fne x.1 x.2) (n3, n4)

noncomputable def slices_symMergeCmpFunc_Cell_j2 (n25 : Int) (n26 : Int) : Option ((Int × Int) ⊕ (List Cell)) :=
  some (.inl (n25, n26))

noncomputable def slices_symMergeCmpFunc_Cell_b4 (n20 : Int) (l29 : List Cell) (n30 : Int) : Option (((List Cell) × Int) ⊕ (List Cell)) :=
  if n20 < n30 then
    (idx l29 (w64 (n30 - (1 : Int)))).bind fun v31 =>
    (idx l29 n30).bind fun v32 =>
    (idx l29 n30).bind fun v33 =>
    (idx (l29.set n30.toNat v31) (w64 (n30 - (1 : Int)))).bind fun v34 =>
    some (.inl ((l29.set n30.toNat v31).set (w64 (n30 - (1 : Int))).toNat v32, w64 (n30 - (1 : Int))))
  else
    Option.map .inr (some l29)

noncomputable def slices_symMergeCmpFunc_Cell_l4 (n20 : Int) (l29 : List Cell) (n30 : Int) : Option (List Cell) :=
  iter (fun x : (List Cell) × Int => slices_symMergeCmpFunc_Cell_b4 n20 x.1 x.2) (l29, n30)

noncomputable def slices_symMergeCmpFunc_Cell_b3 (p0x0 : List Cell) (p2x0 : Int) (fne : Cell → Cell → Option Int) (n20 : Int) (n21 : Int) : Option ((Int × Int) ⊕ (List Cell)) :=
  if n20 < n21 then
    (idx p0x0 p2x0).bind fun v22 =>
    (idx p0x0 (w64 (shrI .u64 (IntKind.u64.wrap (w64 (n20 + n21))) (1 : Int)))).bind fun v23 =>
    (fne v22 v23).bind fun v24 =>
    if ¬ (v24 < (0 : Int)) then
      slices_symMergeCmpFunc_Cell_j2 (w64 ((w64 (shrI .u64 (IntKind.u64.wrap (w64 (n20 + n21))) (1 : Int))) + (1 : Int))) n21
    else
      slices_symMergeCmpFunc_Cell_j2 n20 (w64 (shrI .u64 (IntKind.u64.wrap (w64 (n20 + n21))) (1 : Int)))
  else
    Option.map .inr (slices_symMergeCmpFunc_Cell_l4 n20 p0x0 p2x0)

noncomputable def slices_symMergeCmpFunc_Cell_l3 (p0x0 : List Cell) (p2x0 : Int) (fne : Cell → Cell → Option Int) (n20 : Int) (n21 : Int) : Option (List Cell) :=
  iter (fun x : Int × Int => slices_symMergeCmpFunc_Cell_b3 p0x0 p2x0 fne x.1 x.2) (n20, n21)

noncomputable def slices_symMergeCmpFunc_Cell_j4 (n44 : Int) (n45 : Int) : Option ((Int × Int) ⊕ (List Cell)) :=
  some (.inl (n44, n45))

noncomputable def slices_symMergeCmpFunc_Cell_j10 (l53 : List Cell) : Option (List Cell) :=
  some l53

noncomputable def slices_symMergeCmpFunc_Cell_j9 (self : (List Cell) → Int → Int → Int → (Cell → Cell → Option Int) → Option (List Cell)) (p1x0 : Int) (p2x0 : Int) (p3x0 : Int) (fne : Cell → Cell → Option Int) (n39 : Int) (l50 : List Cell) (c52 : Bool) : Option (List Cell) :=
  if c52 = true then
    (lenOk l50.length (fun r : (List Cell) => r.length) (self l50 (w64 (shrI .u64 (IntKind.u64.wrap (w64 (p1x0 + p3x0))) (1 : Int))) (w64 ((w64 ((w64 (shrI .u64 (IntKind.u64.wrap (w64 (p1x0 + p3x0))) (1 : Int))) + p2x0)) - n39)) p3x0 fne)).bind fun v54 =>
    slices_symMergeCmpFunc_Cell_j10 v54
  else
    slices_symMergeCmpFunc_Cell_j10 l50

noncomputable def slices_symMergeCmpFunc_Cell_j8 (self : (List Cell) → Int → Int → Int → (Cell → Cell → Option Int) → Option (List Cell)) (p1x0 : Int) (p2x0 : Int) (p3x0 : Int) (fne : Cell → Cell → Option Int) (n39 : Int) (l50 : List Cell) : Option (List Cell) :=
  slices_symMergeCmpFunc_Cell_j9 self p1x0 p2x0 p3x0 fne n39 l50 ((decide ((w64 (shrI .u64 (IntKind.u64.wrap (w64 (p1x0 + p3x0))) (1 : Int))) < (w64 ((w64 ((w64 (shrI .u64 (IntKind.u64.wrap (w64 (p1x0 + p3x0))) (1 : Int))) + p2x0)) - n39)))) && (decide ((w64 ((w64 ((w64 (shrI .u64 (IntKind.u64.wrap (w64 (p1x0 + p3x0))) (1 : Int))) + p2x0)) - n39)) < p3x0)))

noncomputable def slices_symMergeCmpFunc_Cell_j7 (self : (List Cell) → Int → Int → Int → (Cell → Cell → Option Int) → Option (List Cell)) (p1x0 : Int) (p2x0 : Int) (p3x0 : Int) (fne : Cell → Cell → Option Int) (n39 : Int) (l47 : List Cell) (c49 : Bool) : Option (List Cell) :=
  if c49 = true then
    (lenOk l47.length (fun r : (List Cell) => r.length) (self l47 p1x0 n39 (w64 (shrI .u64 (IntKind.u64.wrap (w64 (p1x0 + p3x0))) (1 : Int))) fne)).bind fun v51 =>
    slices_symMergeCmpFunc_Cell_j8 self p1x0 p2x0 p3x0 fne n39 v51
  else
    slices_symMergeCmpFunc_Cell_j8 self p1x0 p2x0 p3x0 fne n39 l47

noncomputable def slices_symMergeCmpFunc_Cell_j6 (self : (List Cell) → Int → Int → Int → (Cell → Cell → Option Int) → Option (List Cell)) (p1x0 : Int) (p2x0 : Int) (p3x0 : Int) (fne : Cell → Cell → Option Int) (n39 : Int) (l47 : List Cell) : Option (List Cell) :=
  slices_symMergeCmpFunc_Cell_j7 self p1x0 p2x0 p3x0 fne n39 l47 ((decide (p1x0 < n39)) && (decide (n39 < (w64 (shrI .u64 (IntKind.u64.wrap (w64 (p1x0 + p3x0))) (1 : Int))))))

noncomputable def slices_symMergeCmpFunc_Cell_j5 (self : (List Cell) → Int → Int → Int → (Cell → Cell → Option Int) → Option (List Cell)) (p0x0 : List Cell) (p1x0 : Int) (p2x0 : Int) (p3x0 : Int) (fne : Cell → Cell → Option Int) (n39 : Int) (c46 : Bool) : Option (List Cell) :=
  if c46 = true then
    (lenOk p0x0.length (fun r : (List Cell) => r.length) (slices_rotateCmpFunc_Cell p0x0 n39 p2x0 (w64 ((w64 ((w64 (shrI .u64 (IntKind.u64.wrap (w64 (p1x0 + p3x0))) (1 : Int))) + p2x0)) - n39)) fne)).bind fun v48 =>
    slices_symMergeCmpFunc_Cell_j6 self p1x0 p2x0 p3x0 fne n39 v48
  else
    slices_symMergeCmpFunc_Cell_j6 self p1x0 p2x0 p3x0 fne n39 p0x0

noncomputable def slices_symMergeCmpFunc_Cell_b5 (self : (List Cell) → Int → Int → Int → (Cell → Cell → Option Int) → Option (List Cell)) (p0x0 : List Cell) (p1x0 : Int) (p2x0 : Int) (p3x0 : Int) (fne : Cell → Cell → Option Int) (n39 : Int) (n40 : Int) : Option ((Int × Int) ⊕ (List Cell)) :=
  if n39 < n40 then
    (idx p0x0 (w64 ((w64 ((w64 ((w64 (shrI .u64 (IntKind.u64.wrap (w64 (p1x0 + p3x0))) (1 : Int))) + p2x0)) - (1 : Int))) - (w64 (shrI .u64 (IntKind.u64.wrap (w64 (n39 + n40))) (1 : Int)))))).bind fun v41 =>
    (idx p0x0 (w64 (shrI .u64 (IntKind.u64.wrap (w64 (n39 + n40))) (1 : Int)))).bind fun v42 =>
    (fne v41 v42).bind fun v43 =>
    if ¬ (v43 < (0 : Int)) then
      slices_symMergeCmpFunc_Cell_j4 (w64 ((w64 (shrI .u64 (IntKind.u64.wrap (w64 (n39 + n40))) (1 : Int))) + (1 : Int))) n40
    else
      slices_symMergeCmpFunc_Cell_j4 n39 (w64 (shrI .u64 (IntKind.u64.wrap (w64 (n39 + n40))) (1 : Int)))
  else
    Option.map .inr (slices_symMergeCmpFunc_Cell_j5 self p0x0 p1x0 p2x0 p3x0 fne n39 ((decide (n39 < p2x0)) && (decide (p2x0 < (w64 ((w64 ((w64 (shrI .u64 (IntKind.u64.wrap (w64 (p1x0 + p3x0))) (1 : Int))) + p2x0)) - n39))))))

noncomputable def slices_symMergeCmpFunc_Cell_l5 (self : (List Cell) → Int → Int → Int → (Cell → Cell → Option Int) → Option (List Cell)) (p0x0 : List Cell) (p1x0 : Int) (p2x0 : Int) (p3x0 : Int) (fne : Cell → Cell → Option Int) (n39 : Int) (n40 : Int) : Option (List Cell) :=
  iter (fun x : Int × Int => slices_symMergeCmpFunc_Cell_b5 self p0x0 p1x0 p2x0 p3x0 fne x.1 x.2) (n39, n40)

noncomputable def slices_symMergeCmpFunc_Cell_j3 (self : (List Cell) → Int → Int → Int → (Cell → Cell → Option Int) → Option (List Cell)) (p0x0 : List Cell) (p1x0 : Int) (p2x0 : Int) (p3x0 : Int) (fne : Cell → Cell → Option Int) (n35 : Int) (n36 : Int) : Option (List Cell) :=
  slices_symMergeCmpFunc_Cell_l5 self p0x0 p1x0 p2x0 p3x0 fne n35 n36

noncomputable def slices_symMergeCmpFunc_Cell_bd (self : (List Cell) → Int → Int → Int → (Cell → Cell → Option Int) → Option (List Cell)) (p0x0 : List Cell) (p1x0 : Int) (p2x0 : Int) (p3x0 : Int) (fne : Cell → Cell → Option Int) : Option (List Cell) :=
  if (w64 (p2x0 - p1x0)) = (1 : Int) then
    slices_symMergeCmpFunc_Cell_l1 p0x0 p1x0 fne p2x0 p3x0
  else
    if (w64 (p3x0 - p2x0)) = (1 : Int) then
      slices_symMergeCmpFunc_Cell_l3 p0x0 p2x0 fne p1x0 p2x0
    else
      if (w64 (shrI .u64 (IntKind.u64.wrap (w64 (p1x0 + p3x0))) (1 : Int))) < p2x0 then
        slices_symMergeCmpFunc_Cell_j3 self p0x0 p1x0 p2x0 p3x0 fne (w64 ((w64 ((w64 (shrI .u64 (IntKind.u64.wrap (w64 (p1x0 + p3x0))) (1 : Int))) + p2x0)) - p3x0)) (w64 (shrI .u64 (IntKind.u64.wrap (w64 (p1x0 + p3x0))) (1 : Int)))
      else
        slices_symMergeCmpFunc_Cell_j3 self p0x0 p1x0 p2x0 p3x0 fne p1x0 p2x0

/-- The function, to some depth. -/
noncomputable def slices_symMergeCmpFunc_Cell_r : Nat → (List Cell) → Int → Int → Int → (Cell → Cell → Option Int) → Option (List Cell)
  | 0 => fun _ _ _ _ _ => none
  | k + 1 => slices_symMergeCmpFunc_Cell_bd (slices_symMergeCmpFunc_Cell_r k)

noncomputable def slices_symMergeCmpFunc_Cell (p0x0 : List Cell) (p1x0 : Int) (p2x0 : Int) (p3x0 : Int) (fne : Cell → Cell → Option Int) : Option (List Cell) :=
  slices_symMergeCmpFunc_Cell_r depth p0x0 p1x0 p2x0 p3x0 fne

noncomputable def slices_stableCmpFunc_Cell_j1 (n12 : Int) (l20 : List Cell) : Option (((List Cell) × Int) ⊕ (List Cell)) :=
  some (.inl (l20, w64 (n12 * (2 : Int))))

noncomputable def slices_stableCmpFunc_Cell_k2 (p1x0 : Int) (fnc : Cell → Cell → Option Int) (n12 : Int) (l16 : List Cell) (n17 : Int) : Option (((List Cell) × Int) ⊕ (List Cell)) :=
  if (w64 (n17 + n12)) < p1x0 then
    (lenOk l16.length (fun r : (List Cell) => r.length) (slices_symMergeCmpFunc_Cell l16 n17 (w64 (n17 + n12)) p1x0 fnc)).bind fun v21 =>
    slices_stableCmpFunc_Cell_j1 n12 v21
  else
    slices_stableCmpFunc_Cell_j1 n12 l16

noncomputable def slices_stableCmpFunc_Cell_b3 (p1x0 : Int) (fnc : Cell → Cell → Option Int) (n12 : Int) (l16 : List Cell) (n17 : Int) (n18 : Int) : Option (((List Cell) × Int × Int) ⊕ (((List Cell) × Int) ⊕ (List Cell))) :=
  if n18 ≤ p1x0 then
    (lenOk l16.length (fun r : (List Cell) => r.length) (slices_symMergeCmpFunc_Cell l16 n17 (w64 (n17 + n12)) n18 fnc)).bind fun v19 =>
    some (.inl (v19, n18, w64 (n18 + (w64 ((2 : Int) * n12)))))
  else
    Option.map .inr (slices_stableCmpFunc_Cell_k2 p1x0 fnc n12 l16 n17)

noncomputable def slices_stableCmpFunc_Cell_l3 (p1x0 : Int) (fnc : Cell → Cell → Option Int) (n12 : Int) (l16 : List Cell) (n17 : Int) (n18 : Int) : Option (((List Cell) × Int) ⊕ (List Cell)) :=
  iter (fun x : (List Cell) × Int × Int => slices_stableCmpFunc_Cell_b3 p1x0 fnc n12 x.1 x.2.1 x.2.2) (l16, n17, n18)

noncomputable def slices_stableCmpFunc_Cell_b2 (p1x0 : Int) (fnc : Cell → Cell → Option Int) (l11 : List Cell) (n12 : Int) : Option (((List Cell) × Int) ⊕ (List Cell)) :=
  if n12 < p1x0 then
    slices_stableCmpFunc_Cell_l3 p1x0 fnc n12 l11 (0 : Int) (w64 ((2 : Int) * n12))
  else
    Option.map .inr (some l11)

noncomputable def slices_stableCmpFunc_Cell_l2 (p1x0 : Int) (fnc : Cell → Cell → Option Int) (l11 : List Cell) (n12 : Int) : Option (List Cell) :=
  iter (fun x : (List Cell) × Int => slices_stableCmpFunc_Cell_b2 p1x0 fnc x.1 x.2) (l11, n12)

noncomputable def slices_stableCmpFunc_Cell_k3 (p1x0 : Int) (fnc : Cell → Cell → Option Int) (l4 : List Cell) (n5 : Int) : Option (List Cell) :=
  (lenOk l4.length (fun r : (List Cell) => r.length) (slices_insertionSortCmpFunc_Cell l4 n5 p1x0 fnc)).bind fun v8 =>
  slices_stableCmpFunc_Cell_l2 p1x0 fnc v8 (20 : Int)

noncomputable def slices_stableCmpFunc_Cell_b1 (p1x0 : Int) (fnc : Cell → Cell → Option Int) (l4 : List Cell) (n5 : Int) (n6 : Int) : Option (((List Cell) × Int × Int) ⊕ (List Cell)) :=
  if n6 ≤ p1x0 then
    (lenOk l4.length (fun r : (List Cell) => r.length) (slices_insertionSortCmpFunc_Cell l4 n5 n6 fnc)).bind fun v7 =>
    some (.inl (v7, n6, w64 (n6 + (20 : Int))))
  else
    Option.map .inr (slices_stableCmpFunc_Cell_k3 p1x0 fnc l4 n5)

noncomputable def slices_stableCmpFunc_Cell_l1 (p1x0 : Int) (fnc : Cell → Cell → Option Int) (l4 : List Cell) (n5 : Int) (n6 : Int) : Option (List Cell) :=
  iter (fun x : (List Cell) × Int × Int => slices_stableCmpFunc_Cell_b1 p1x0 fnc x.1 x.2.1 x.2.2) (l4, n5, n6)

noncomputable def slices_stableCmpFunc_Cell (p0x0 : List Cell) (p1x0 : Int) (fnc : Cell → Cell → Option Int) : Option (List Cell) :=
  slices_stableCmpFunc_Cell_l1 p1x0 fnc p0x0 (0 : Int) (20 : Int)

noncomputable def slices_SortStableFunc_Cell_Cell (p0x0 : List Cell) (fnb : Cell → Cell → Option Int) : Option (List Cell) :=
  (lenOk p0x0.length (fun r : (List Cell) => r.length) (slices_stableCmpFunc_Cell p0x0 (p0x0.length : Int) fnb)).bind fun v1 =>
  some v1

noncomputable def Stream_RightCells_1x (p0x0 : Cell) (p1x0 : Cell) : Bool :=
  decide (p0x0.Prop_.Name = p1x0.Prop_.Name)

noncomputable def slices_CompactFunc_Cell_Cell_j1 (n12 : Int) (l16 : List Cell) (n17 : Int) : Option (((List Cell) × Int × Int) ⊕ (Int ⊕ (List Cell))) :=
  some (.inl (l16, n17, w64 (n12 + (1 : Int))))

noncomputable def slices_CompactFunc_Cell_Cell_k2 (l10 : List Cell) (n11 : Int) : Option (Int ⊕ (List Cell)) :=
  (slc l10 n11 (l10.length : Int)).bind fun l20 =>
  (slc (clr l10 n11 l20.length (⟨(⟨[], (⟨(0 : Int), false, (0 : Int), []⟩ : ValueS)⟩ : PropS), (⟨(0 : Int), [], (0 : Int)⟩ : Stamp)⟩ : Cell)) (0 : Int) n11).bind fun l21 =>
  Option.map .inr (some l21)

noncomputable def slices_CompactFunc_Cell_Cell_b2 (fnb : Cell → Cell → Option Bool) (n2 : Int) (l6 : List Cell) (l10 : List Cell) (n11 : Int) (n12 : Int) : Option (((List Cell) × Int × Int) ⊕ (Int ⊕ (List Cell))) :=
  if n12 < (l6.length : Int) then
    (idxS l10 n2 l6.length n12).bind fun v13 =>
    (idxS l10 n2 l6.length (w64 (n12 - (1 : Int)))).bind fun v14 =>
    (fnb v13 v14).bind fun v15 =>
    if (!v15) = true then
      (idxS l10 n2 l6.length n12).bind fun v18 =>
      (idx l10 n11).bind fun v19 =>
      slices_CompactFunc_Cell_Cell_j1 n12 (l10.set n11.toNat v18) (w64 (n11 + (1 : Int)))
    else
      slices_CompactFunc_Cell_Cell_j1 n12 l10 n11
  else
    Option.map .inr (slices_CompactFunc_Cell_Cell_k2 l10 n11)

noncomputable def slices_CompactFunc_Cell_Cell_l2 (fnb : Cell → Cell → Option Bool) (n2 : Int) (l6 : List Cell) (l10 : List Cell) (n11 : Int) (n12 : Int) : Option (Int ⊕ (List Cell)) :=
  iter (fun x : (List Cell) × Int × Int => slices_CompactFunc_Cell_Cell_b2 fnb n2 l6 x.1 x.2.1 x.2.2) (l10, n11, n12)

noncomputable def slices_CompactFunc_Cell_Cell_b1 (p0x0 : List Cell) (fnb : Cell → Cell → Option Bool) (n2 : Int) : Option (Int ⊕ (List Cell)) :=
  if n2 < (p0x0.length : Int) then
    (idx p0x0 n2).bind fun v3 =>
    (idx p0x0 (w64 (n2 - (1 : Int)))).bind fun v4 =>
    (fnb v3 v4).bind fun v5 =>
    if v5 = true then
      (slc p0x0 n2 (p0x0.length : Int)).bind fun l6 =>
      slices_CompactFunc_Cell_Cell_l2 fnb n2 l6 p0x0 n2 (1 : Int)
    else
      some (.inl (w64 (n2 + (1 : Int))))
  else
    Option.map .inr (some p0x0)

noncomputable def slices_CompactFunc_Cell_Cell_l1 (p0x0 : List Cell) (fnb : Cell → Cell → Option Bool) (n2 : Int) : Option (List Cell) :=
  iter (fun x : Int => slices_CompactFunc_Cell_Cell_b1 p0x0 fnb x) n2

noncomputable def slices_CompactFunc_Cell_Cell (p0x0 : List Cell) (fnb : Cell → Cell → Option Bool) : Option (List Cell) :=
  if (p0x0.length : Int) < (2 : Int) then
    some p0x0
  else
    slices_CompactFunc_Cell_Cell_l1 p0x0 fnb (1 : Int)

noncomputable def Stream_RightCells_j1 (l10 : List Cell) (n11 : Int) (v13 : Str × Fleetmake_Stream) (v15 : Stamp × Fleetmake_Stream) (v17 : Bool × Fleetmake_Stream) (n18 : Int) (c19 : Bool) (n20 : Int) (q21 : Str) : Option (((List Int) × Int × (List Cell) × Int) ⊕ ((List Cell) × Fleetmake_Stream)) :=
  (app l10 [(⟨(⟨v13.1, (⟨n18, c19, n20, q21⟩ : ValueS)⟩ : PropS), v15.1⟩ : Cell)]).bind fun l22 =>
  some (.inl (v17.2.L, v17.2.at_, l22, w64 (n11 + (1 : Int))))

noncomputable def Stream_RightCells_k2 (l7 : List Int) (n8 : Int) (l10 : List Cell) : Option ((List Cell) × Fleetmake_Stream) :=
  (lenOk l10.length (fun r : (List Cell) => r.length) (slices_SortStableFunc_Cell_Cell l10 (fun y0 y1 => some (cellOrder y0 y1)))).bind fun v24 =>
  (slices_CompactFunc_Cell_Cell v24 (fun y0 y1 => some (Stream_RightCells_1x y0 y1))).bind fun v25 =>
  some (v25, (⟨l7, n8⟩ : Fleetmake_Stream))

noncomputable def Stream_RightCells_b1 (v1 : Int × Fleetmake_Stream) (l7 : List Int) (n8 : Int) (l10 : List Cell) (n11 : Int) : Option (((List Int) × Int × (List Cell) × Int) ⊕ ((List Cell) × Fleetmake_Stream)) :=
  if n11 < v1.1 then
    (Stream_Some (⟨l7, n8⟩ : Fleetmake_Stream) [([97] : Str), ([97] : Str), ([97, 46, 120] : Str), ([97, 46, 121] : Str), ([97, 46, 120, 46, 112] : Str), ([98] : Str), ([98, 46, 122] : Str), ([97, 98] : Str)]).bind fun v13 =>
    (Stream_RightValue v13.2).bind fun v14 =>
    (Stream_RightStamp v14.2).bind fun v15 =>
    (Stream_Flip v15.2 (3 : Int)).bind fun v17 =>
    if v17.1 = true then
      Stream_RightCells_j1 l10 n11 v13 v15 v17 (0 : Int) false (0 : Int) []
    else
      Stream_RightCells_j1 l10 n11 v13 v15 v17 v14.1.Kind v14.1.Flag v14.1.Number v14.1.Words
  else
    Option.map .inr (Stream_RightCells_k2 l7 n8 l10)

noncomputable def Stream_RightCells_l1 (v1 : Int × Fleetmake_Stream) (l7 : List Int) (n8 : Int) (l10 : List Cell) (n11 : Int) : Option ((List Cell) × Fleetmake_Stream) :=
  iter (fun x : (List Int) × Int × (List Cell) × Int => Stream_RightCells_b1 v1 x.1 x.2.1 x.2.2.1 x.2.2.2) (l7, n8, l10, n11)

noncomputable def Stream_RightCells (p0x0 : Fleetmake_Stream) : Option ((List Cell) × Fleetmake_Stream) :=
  (Stream_Range p0x0 (0 : Int) (6 : Int)).bind fun v1 =>
  Stream_RightCells_l1 v1 v1.2.L v1.2.at_ [] (0 : Int)

noncomputable def Stream_PropName (p0x0 : Fleetmake_Stream) : Option (Str × Fleetmake_Stream) :=
  (Stream_Flip p0x0 (25 : Int)).bind fun v1 =>
  if v1.1 = true then
    (repeatO ([97] : Str) (41 : Int)).bind fun v2 =>
    (Stream_Some v1.2 [([] : Str), ([65] : Str), ([97, 46] : Str), ([46, 97] : Str), ([97, 46, 46, 98] : Str), ([97, 46, 98, 46, 99, 46, 100, 46, 101, 46, 102, 46, 103, 46, 104, 46, 105] : Str), ([97, 32, 98] : Str), v2]).bind fun v3 =>
    some (v3.1, v3.2)
  else
    (Stream_Some v1.2 [([97] : Str), ([97] : Str), ([97, 46, 120] : Str), ([97, 46, 120] : Str), ([97, 46, 121] : Str), ([97, 46, 120, 46, 112] : Str), ([98] : Str), ([98, 46, 122] : Str), ([97, 98] : Str), ([97, 45, 49] : Str)]).bind fun v4 =>
    some (v4.1, v4.2)

noncomputable def Stream_Odd (p0x0 : Fleetmake_Stream) (p1x0 : Int) (p2x0 : Int) : Option (Int × Fleetmake_Stream) :=
  (Stream_Flip p0x0 (12 : Int)).bind fun v1 =>
  if v1.1 = true then
    (Stream_Pick v1.2 [w64 (p1x0 - (1 : Int)), w64 (p2x0 + (1 : Int)), p1x0, p2x0, (-1099511627776 : Int), (1099511627776 : Int)]).bind fun v2 =>
    some (v2.1, v2.2)
  else
    (Stream_Range v1.2 p1x0 p2x0).bind fun v3 =>
    some (v3.1, v3.2)

noncomputable def Stream_Value_j1 (l6 : List Int) (n7 : Int) (n8 : Int) (c9 : Bool) (n10 : Int) (q11 : Str) : Option (ValueS × Fleetmake_Stream) :=
  some ((⟨n8, c9, n10, q11⟩ : ValueS), (⟨l6, n7⟩ : Fleetmake_Stream))

noncomputable def Stream_Value_j2 (l13 : List Int) (n14 : Int) (n15 : Int) (c16 : Bool) (n17 : Int) (q18 : Str) : Option (ValueS × Fleetmake_Stream) :=
  Stream_Value_j1 l13 n14 n15 c16 n17 q18

noncomputable def Stream_Value_j3 (l20 : List Int) (n21 : Int) (n22 : Int) (c23 : Bool) (n24 : Int) (q25 : Str) : Option (ValueS × Fleetmake_Stream) :=
  Stream_Value_j2 l20 n21 n22 c23 n24 q25

noncomputable def Stream_Value_j4 (l26 : List Int) (n27 : Int) (n28 : Int) (c29 : Bool) (n30 : Int) (q31 : Str) : Option (ValueS × Fleetmake_Stream) :=
  Stream_Value_j3 l26 n27 n28 c29 n30 q31

noncomputable def Stream_Value_j5 (l33 : List Int) (n34 : Int) (n35 : Int) (c36 : Bool) (n37 : Int) (q38 : Str) : Option (ValueS × Fleetmake_Stream) :=
  Stream_Value_j4 l33 n34 n35 c36 n37 q38

noncomputable def Stream_Value (p0x0 : Fleetmake_Stream) : Option (ValueS × Fleetmake_Stream) :=
  (Stream_RightValue p0x0).bind fun v2 =>
  (Stream_Flip v2.2 (6 : Int)).bind fun v4 =>
  if v4.1 = true then
    some ((⟨(0 : Int), false, (0 : Int), []⟩ : ValueS), v4.2)
  else
    (Stream_Flip v4.2 (25 : Int)).bind fun v5 =>
    if v5.1 = true then
      (Stream_Next v5.2 (5 : Int)).bind fun v12 =>
      if v12.1 = (0 : Int) then
        (Stream_Pick v12.2 [(-1 : Int), (4 : Int), (0 : Int)]).bind fun v19 =>
        Stream_Value_j2 v19.2.L v19.2.at_ v19.1 v2.1.Flag v2.1.Number v2.1.Words
      else
        if v12.1 = (1 : Int) then
          Stream_Value_j3 v12.2.L v12.2.at_ v2.1.Kind (!v2.1.Flag) v2.1.Number v2.1.Words
        else
          if v12.1 = (2 : Int) then
            (Stream_Odd v12.2 (-1000000000 : Int) (1000000000 : Int)).bind fun v32 =>
            Stream_Value_j4 v32.2.L v32.2.at_ v2.1.Kind v2.1.Flag v32.1 v2.1.Words
          else
            if v12.1 = (3 : Int) then
              (repeatO ([119] : Str) (1001 : Int)).bind fun v39 =>
              (Stream_Some v12.2 [([10] : Str), ([127] : Str), ([255] : Str), v39]).bind fun v40 =>
              Stream_Value_j5 v40.2.L v40.2.at_ (3 : Int) false (0 : Int) v40.1
            else
              Stream_Value_j5 v12.2.L v12.2.at_ v2.1.Kind v2.1.Flag v2.1.Number ([122] : Str)
    else
      Stream_Value_j1 v5.2.L v5.2.at_ v2.1.Kind v2.1.Flag v2.1.Number v2.1.Words

noncomputable def Stream_Stamp_j1 (l5 : List Int) (n6 : Int) (n7 : Int) (q8 : Str) (n9 : Int) : Option (Stamp × Fleetmake_Stream) :=
  some ((⟨n7, q8, n9⟩ : Stamp), (⟨l5, n6⟩ : Fleetmake_Stream))

noncomputable def Stream_Stamp (p0x0 : Fleetmake_Stream) : Option (Stamp × Fleetmake_Stream) :=
  (Stream_RightStamp p0x0).bind fun v2 =>
  (Stream_Flip v2.2 (25 : Int)).bind fun v4 =>
  if v4.1 = true then
    (Stream_Odd v4.2 (0 : Int) (9 : Int)).bind fun v10 =>
    (Stream_Some v10.2 [([104] : Str), ([] : Str), ([65] : Str)]).bind fun v11 =>
    (Stream_Odd v11.2 (0 : Int) (9 : Int)).bind fun v12 =>
    Stream_Stamp_j1 v12.2.L v12.2.at_ v10.1 v11.1 v12.1
  else
    Stream_Stamp_j1 v4.2.L v4.2.at_ v2.1.At v2.1.By v2.1.No

noncomputable def Stream_Cells_j1 (l4 : List Int) (n5 : Int) (l7 : List Cell) : Option ((List Cell) × Fleetmake_Stream) :=
  some (l7, (⟨l4, n5⟩ : Fleetmake_Stream))

noncomputable def Stream_Cells_j2 (v13 : Bool × Fleetmake_Stream) (l14 : List Cell) : Option ((List Cell) × Fleetmake_Stream) :=
  Stream_Cells_j1 v13.2.L v13.2.at_ l14

noncomputable def Stream_Cells (p0x0 : Fleetmake_Stream) : Option ((List Cell) × Fleetmake_Stream) :=
  (Stream_RightCells p0x0).bind fun v1 =>
  (Stream_Flip v1.2 (10 : Int)).bind fun v3 =>
  if v3.1 = true then
    (Stream_PropName v3.2).bind fun v8 =>
    (Stream_Value v8.2).bind fun v9 =>
    (Stream_Stamp v9.2).bind fun v10 =>
    (app v1.1 [(⟨(⟨v8.1, v9.1⟩ : PropS), v10.1⟩ : Cell)]).bind fun l11 =>
    (Stream_Flip v10.2 (2 : Int)).bind fun v13 =>
    if v13.1 = true then
      (lenOk l11.length (fun r : (List Cell) => r.length) (slices_SortStableFunc_Cell_Cell l11 (fun y0 y1 => some (cellOrder y0 y1)))).bind fun v15 =>
      Stream_Cells_j2 v13 v15
    else
      Stream_Cells_j2 v13 l11
  else
    Stream_Cells_j1 v3.2.L v3.2.at_ v1.1

noncomputable def strings_Replace_j4 (p0x0 : Str) (q8 : Str) (n10 : Int) : Option Str :=
  (slc p0x0 n10 (p0x0.length : Int)).bind fun l43 =>
  (bldW q8 l43).bind fun q44 =>
  some q44

noncomputable def strings_Replace_b1 (p0x0 : Str) (p1x0 : Str) (p2x0 : Str) (n4 : Int) (q15 : Str) (n17 : Int) (n18 : Int) : Option ((Str × Int × Int) ⊕ Str) :=
  if n18 < n4 then
    (slc p0x0 n17 (p0x0.length : Int)).bind fun l19 =>
    (indexO l19 p1x0).bind fun v20 =>
    (slc p0x0 n17 (w64 (n17 + v20))).bind fun l21 =>
    (bldW q15 l21).bind fun q22 =>
    (bldW q22 p2x0).bind fun q24 =>
    some (.inl (q24, w64 ((w64 (n17 + v20)) + (p1x0.length : Int)), w64 (n18 + (1 : Int))))
  else
    Option.map .inr (strings_Replace_j4 p0x0 q15 n17)

noncomputable def strings_Replace_l1 (p0x0 : Str) (p1x0 : Str) (p2x0 : Str) (n4 : Int) (q15 : Str) (n17 : Int) (n18 : Int) : Option Str :=
  iter (fun x : Str × Int × Int => strings_Replace_b1 p0x0 p1x0 p2x0 n4 x.1 x.2.1 x.2.2) (q15, n17, n18)

noncomputable def strings_Replace_b2 (p0x0 : Str) (p2x0 : Str) (n4 : Int) (q32 : Str) (n34 : Int) (n35 : Int) : Option ((Str × Int × Int) ⊕ Str) :=
  if n35 < (w64 (n4 - (1 : Int))) then
    (slc p0x0 n34 (p0x0.length : Int)).bind fun l36 =>
    (noRune l36).bind fun v37 =>
    (slc p0x0 n34 (w64 (n34 + v37.2))).bind fun l38 =>
    (bldW q32 l38).bind fun q39 =>
    (bldW q39 p2x0).bind fun q41 =>
    some (.inl (q41, w64 (n34 + v37.2), w64 (n35 + (1 : Int))))
  else
    Option.map .inr (strings_Replace_j4 p0x0 q32 n34)

noncomputable def strings_Replace_l2 (p0x0 : Str) (p2x0 : Str) (n4 : Int) (q32 : Str) (n34 : Int) (n35 : Int) : Option Str :=
  iter (fun x : Str × Int × Int => strings_Replace_b2 p0x0 p2x0 n4 x.1 x.2.1 x.2.2) (q32, n34, n35)

noncomputable def strings_Replace_j3 (p0x0 : Str) (p1x0 : Str) (p2x0 : Str) (n4 : Int) : Option Str :=
  (bldG (w64 ((p0x0.length : Int) + (w64 (n4 * (w64 ((p2x0.length : Int) - (p1x0.length : Int)))))))).bind fun v6 =>
  if (0 : Int) < (p1x0.length : Int) then
    strings_Replace_l1 p0x0 p1x0 p2x0 n4 [] (0 : Int) (0 : Int)
  else
    (bldW ([] : Str) p2x0).bind fun q26 =>
    strings_Replace_l2 p0x0 p2x0 n4 q26 (0 : Int) (0 : Int)

noncomputable def strings_Replace_j2 (p0x0 : Str) (p1x0 : Str) (p2x0 : Str) (p3x0 : Int) (v2 : Int) (c3 : Bool) : Option Str :=
  if c3 = true then
    strings_Replace_j3 p0x0 p1x0 p2x0 v2
  else
    strings_Replace_j3 p0x0 p1x0 p2x0 p3x0

noncomputable def strings_Replace_j1 (p0x0 : Str) (p1x0 : Str) (p2x0 : Str) (p3x0 : Int) (c1 : Bool) : Option Str :=
  if c1 = true then
    some p0x0
  else
    (countO p0x0 p1x0).bind fun v2 =>
    if v2 = (0 : Int) then
      some p0x0
    else
      strings_Replace_j2 p0x0 p1x0 p2x0 p3x0 v2 ((decide (p3x0 < (0 : Int))) || (decide (v2 < p3x0)))

noncomputable def strings_Replace (p0x0 : Str) (p1x0 : Str) (p2x0 : Str) (p3x0 : Int) : Option Str :=
  strings_Replace_j1 p0x0 p1x0 p2x0 p3x0 ((decide (p1x0 = p2x0)) || (decide (p3x0 = (0 : Int))))

noncomputable def strings_ReplaceAll (p0x0 : Str) (p1x0 : Str) (p2x0 : Str) : Option Str :=
  (strings_Replace p0x0 p1x0 p2x0 (-1 : Int)).bind fun v1 =>
  some v1

noncomputable def Q_Quoted (p0x0 : Str) : Option Str :=
  (strings_ReplaceAll p0x0 ([92] : Str) ([92, 92] : Str)).bind fun v1 =>
  (strings_ReplaceAll v1 ([34] : Str) ([92, 34] : Str)).bind fun v2 =>
  (catO ([34] : Str) v2).bind fun q3 =>
  (catO q3 ([34] : Str)).bind fun q4 =>
  some q4

noncomputable def Q_ValueText (p0x0 : ValueS) : Option Str :=
  if p0x0.Kind = (1 : Int) then
    if p0x0.Flag = true then
      some ([121, 101, 115] : Str)
    else
      some ([110, 111] : Str)
  else
    if p0x0.Kind = (2 : Int) then
      (itoaO p0x0.Number).bind fun v2 =>
      some v2
    else
      if p0x0.Kind = (3 : Int) then
        (Q_Quoted p0x0.Words).bind fun v3 =>
        some v3
      else
        some ([45] : Str)

noncomputable def strings_Join_b2 (p1x0 : Str) (l15 : List Str) (q19 : Str) (n21 : Int) : Option ((Str × Int) ⊕ Str) :=
  if n21 < (l15.length : Int) then
    (idx l15 n21).bind fun v22 =>
    (bldW q19 p1x0).bind fun q23 =>
    (bldW q23 v22).bind fun q25 =>
    some (.inl (q25, w64 (n21 + (1 : Int))))
  else
    Option.map .inr (some q19)

noncomputable def strings_Join_l2 (p1x0 : Str) (l15 : List Str) (q19 : Str) (n21 : Int) : Option Str :=
  iter (fun x : Str × Int => strings_Join_b2 p1x0 l15 x.1 x.2) (q19, n21)

noncomputable def strings_Join_k2 (p0x0 : List Str) (p1x0 : Str) (n6 : Int) : Option Str :=
  (bldG n6).bind fun v10 =>
  (idx p0x0 (0 : Int)).bind fun v12 =>
  (bldW ([] : Str) v12).bind fun q13 =>
  (slc p0x0 (1 : Int) (p0x0.length : Int)).bind fun l15 =>
  strings_Join_l2 p1x0 l15 q13 (0 : Int)

noncomputable def strings_Join_b1 (p0x0 : List Str) (p1x0 : Str) (n6 : Int) (n7 : Int) : Option ((Int × Int) ⊕ Str) :=
  if n7 < (p0x0.length : Int) then
    (idx p0x0 n7).bind fun v8 =>
    if (w64 ((9223372036854775807 : Int) - n6)) < (v8.length : Int) then
      none
    else
      some (.inl (w64 (n6 + (v8.length : Int)), w64 (n7 + (1 : Int))))
  else
    Option.map .inr (strings_Join_k2 p0x0 p1x0 n6)

noncomputable def strings_Join_l1 (p0x0 : List Str) (p1x0 : Str) (n6 : Int) (n7 : Int) : Option Str :=
  iter (fun x : Int × Int => strings_Join_b1 p0x0 p1x0 x.1 x.2) (n6, n7)

noncomputable def strings_Join_j1 (p0x0 : List Str) (p1x0 : Str) (n2 : Int) : Option Str :=
  strings_Join_l1 p0x0 p1x0 n2 (0 : Int)

noncomputable def strings_Join (p0x0 : List Str) (p1x0 : Str) : Option Str :=
  if (p0x0.length : Int) = (0 : Int) then
    some ([] : Str)
  else
    if (p0x0.length : Int) = (1 : Int) then
      (idx p0x0 (0 : Int)).bind fun v1 =>
      some v1
    else
      if (0 : Int) < (p1x0.length : Int) then
        (quo (9223372036854775807 : Int) (w64 ((p0x0.length : Int) - (1 : Int)))).bind fun n3 =>
        if n3 ≤ (p1x0.length : Int) then
          none
        else
          strings_Join_j1 p0x0 p1x0 (w64 ((0 : Int) + (w64 ((p1x0.length : Int) * (w64 ((p0x0.length : Int) - (1 : Int)))))))
      else
        strings_Join_j1 p0x0 p1x0 (0 : Int)

noncomputable def Q_CellLines_b1 (p0x0 : List Cell) (q3 : Str) (n4 : Int) : Option ((Str × Int) ⊕ Str) :=
  if n4 < (p0x0.length : Int) then
    (idx p0x0 n4).bind fun v5 =>
    (itoaO v5.Stamp.At).bind fun v7 =>
    (itoaO v5.Stamp.No).bind fun v8 =>
    (Q_ValueText v5.Prop_.Value).bind fun v9 =>
    (strings_Join [v5.Prop_.Name, v7, v5.Stamp.By, v8, v9] ([32] : Str)).bind fun v10 =>
    (catO v10 ([10] : Str)).bind fun q11 =>
    (catO q3 q11).bind fun q12 =>
    some (.inl (q12, w64 (n4 + (1 : Int))))
  else
    Option.map .inr (some q3)

noncomputable def Q_CellLines_l1 (p0x0 : List Cell) (q3 : Str) (n4 : Int) : Option Str :=
  iter (fun x : Str × Int => Q_CellLines_b1 p0x0 x.1 x.2) (q3, n4)

noncomputable def Q_CellLines (p0x0 : List Cell) : Option Str :=
  Q_CellLines_l1 p0x0 ([] : Str) (0 : Int)

noncomputable def Stream_Changed_j1 (p0x0 : Fleetmake_Stream) (p1x0 : Str) (p2x0 : Str) (c1 : Bool) : Option (Str × Fleetmake_Stream) :=
  if c1 = true then
    some (p2x0, p0x0)
  else
    (Stream_Next p0x0 (p1x0.length : Int)).bind fun v2 =>
    (Stream_Next v2.2 (p2x0.length : Int)).bind fun v3 =>
    (idx p2x0 v3.1).bind fun c4 =>
    (Stream_Next v3.2 (3 : Int)).bind fun v5 =>
    if v5.1 = (0 : Int) then
      (slc p1x0 (0 : Int) v2.1).bind fun l6 =>
      (catO l6 (strR (IntKind.i32.wrap ((c4.toNat : Int))))).bind fun q7 =>
      (slc p1x0 (w64 (v2.1 + (1 : Int))) (p1x0.length : Int)).bind fun l8 =>
      (catO q7 l8).bind fun q9 =>
      some (q9, v5.2)
    else
      if v5.1 = (1 : Int) then
        (slc p1x0 (0 : Int) v2.1).bind fun l10 =>
        (catO l10 (strR (IntKind.i32.wrap ((c4.toNat : Int))))).bind fun q11 =>
        (slc p1x0 v2.1 (p1x0.length : Int)).bind fun l12 =>
        (catO q11 l12).bind fun q13 =>
        some (q13, v5.2)
      else
        (slc p1x0 (0 : Int) v2.1).bind fun l14 =>
        (slc p1x0 (w64 (v2.1 + (1 : Int))) (p1x0.length : Int)).bind fun l15 =>
        (catO l14 l15).bind fun q16 =>
        some (q16, v5.2)

noncomputable def Stream_Changed (p0x0 : Fleetmake_Stream) (p1x0 : Str) (p2x0 : Str) : Option (Str × Fleetmake_Stream) :=
  Stream_Changed_j1 p0x0 p1x0 p2x0 ((decide (p1x0 = ([] : Str))) || (decide (p2x0 = ([] : Str))))

noncomputable def Stream_CellText_b1 (v4 : Int × Fleetmake_Stream) (l9 : List Int) (n10 : Int) (q11 : Str) (n12 : Int) : Option (((List Int) × Int × Str × Int) ⊕ (Str × Fleetmake_Stream)) :=
  if n12 < v4.1 then
    (Stream_Changed (⟨l9, n10⟩ : Fleetmake_Stream) q11 ([32, 10, 34, 92, 48, 45, 57, 46, 97, 121] : Str)).bind fun v13 =>
    some (.inl (v13.2.L, v13.2.at_, v13.1, w64 (n12 + (1 : Int))))
  else
    Option.map .inr (some (q11, (⟨l9, n10⟩ : Fleetmake_Stream)))

noncomputable def Stream_CellText_l1 (v4 : Int × Fleetmake_Stream) (l9 : List Int) (n10 : Int) (q11 : Str) (n12 : Int) : Option (Str × Fleetmake_Stream) :=
  iter (fun x : (List Int) × Int × Str × Int => Stream_CellText_b1 v4 x.1 x.2.1 x.2.2.1 x.2.2.2) (l9, n10, q11, n12)

noncomputable def Stream_CellText (p0x0 : Fleetmake_Stream) : Option (Str × Fleetmake_Stream) :=
  (Stream_RightCells p0x0).bind fun v1 =>
  (Q_CellLines v1.1).bind fun v3 =>
  (Stream_Pick v1.2 [(0 : Int), (0 : Int), (1 : Int), (2 : Int)]).bind fun v4 =>
  Stream_CellText_l1 v4 v4.2.L v4.2.at_ v3 (0 : Int)

noncomputable def base_Key_j2 (n5 : Int) (c7 : Bool) : Option (Int ⊕ Bool) :=
  if c7 = true then
    Option.map .inr (some false)
  else
    some (.inl (w64 (n5 + (1 : Int))))

noncomputable def base_Key_b1 (p0x0 : Str) (n5 : Int) : Option (Int ⊕ Bool) :=
  if n5 < (p0x0.length : Int) then
    (idx p0x0 n5).bind fun c6 =>
    base_Key_j2 n5 (if (97 : Int) ≤ (c6.toNat : Int) then if (c6.toNat : Int) ≤ (122 : Int) then !true else if (48 : Int) ≤ (c6.toNat : Int) then if (c6.toNat : Int) ≤ (57 : Int) then !true else if (c6.toNat : Int) = (45 : Int) then !true else decide (¬ ((c6.toNat : Int) = (95 : Int))) else if (c6.toNat : Int) = (45 : Int) then !true else decide (¬ ((c6.toNat : Int) = (95 : Int))) else if (48 : Int) ≤ (c6.toNat : Int) then if (c6.toNat : Int) ≤ (57 : Int) then !true else if (c6.toNat : Int) = (45 : Int) then !true else decide (¬ ((c6.toNat : Int) = (95 : Int))) else if (c6.toNat : Int) = (45 : Int) then !true else decide (¬ ((c6.toNat : Int) = (95 : Int))))
  else
    Option.map .inr (some true)

noncomputable def base_Key_l1 (p0x0 : Str) (n5 : Int) : Option Bool :=
  iter (fun x : Int => base_Key_b1 p0x0 x) n5

noncomputable def base_Key_j1 (p0x0 : Str) (c1 : Bool) : Option Bool :=
  if c1 = true then
    some false
  else
    base_Key_l1 p0x0 (0 : Int)

noncomputable def base_Key (p0x0 : Str) : Option Bool :=
  if p0x0 = ([] : Str) then
    base_Key_j1 p0x0 true
  else
    if (40 : Int) < (p0x0.length : Int) then
      base_Key_j1 p0x0 true
    else
      (idx p0x0 (0 : Int)).bind fun c2 =>
      if (c2.toNat : Int) < (97 : Int) then
        base_Key_j1 p0x0 true
      else
        (idx p0x0 (0 : Int)).bind fun c3 =>
        base_Key_j1 p0x0 (decide ((122 : Int) < (c3.toNat : Int)))

noncomputable def base_Dotted_b1 (p1x0 : Int) (q3 : Str) (n4 : Int) : Option ((Str × Int) ⊕ Bool) :=
  if n4 < p1x0 then
    (cutO q3 ([46] : Str)).bind fun v5 =>
    (base_Key v5.1).bind fun v6 =>
    if (!v6) = true then
      Option.map .inr (some false)
    else
      if (!v5.2.2) = true then
        Option.map .inr (some true)
      else
        some (.inl (v5.2.1, w64 (n4 + (1 : Int))))
  else
    Option.map .inr (some false)

noncomputable def base_Dotted_l1 (p1x0 : Int) (q3 : Str) (n4 : Int) : Option Bool :=
  iter (fun x : Str × Int => base_Dotted_b1 p1x0 x.1 x.2) (q3, n4)

noncomputable def base_Dotted (p0x0 : Str) (p1x0 : Int) : Option Bool :=
  base_Dotted_l1 p1x0 p0x0 (0 : Int)

noncomputable def twin_isName (p0x0 : Str) : Option Bool :=
  (base_Dotted p0x0 (8 : Int)).bind fun v1 =>
  some v1

noncomputable def base_Out_j1 (c1 : Bool) : Bool :=
  c1

noncomputable def base_Out (p0x0 : Int) (p1x0 : Int) (p2x0 : Int) : Bool :=
  base_Out_j1 ((decide (p0x0 < p1x0)) || (decide (p2x0 < p0x0)))

noncomputable def base_Unmarked_j1 (n2 : Int) (c3 : Bool) : Option (Int ⊕ Bool) :=
  if c3 = true then
    Option.map .inr (some false)
  else
    some (.inl (w64 (n2 + (1 : Int))))

noncomputable def base_Unmarked_k2 (p0x0 : Str) : Option Bool :=
  (validO p0x0).bind fun v6 =>
  some v6

noncomputable def base_Unmarked_b1 (p0x0 : Str) (n2 : Int) : Option (Int ⊕ Bool) :=
  if n2 < (p0x0.length : Int) then
    (idx p0x0 n2).bind fun c4 =>
    if (c4.toNat : Int) < (32 : Int) then
      base_Unmarked_j1 n2 true
    else
      (idx p0x0 n2).bind fun c5 =>
      base_Unmarked_j1 n2 (decide ((c5.toNat : Int) = (127 : Int)))
  else
    Option.map .inr (base_Unmarked_k2 p0x0)

noncomputable def base_Unmarked_l1 (p0x0 : Str) (n2 : Int) : Option Bool :=
  iter (fun x : Int => base_Unmarked_b1 p0x0 x) n2

noncomputable def base_Unmarked (p0x0 : Str) : Option Bool :=
  base_Unmarked_l1 p0x0 (0 : Int)

noncomputable def twin_valueFault_j1 (p0x0 : ValueS) (c3 : Bool) (n4 : Int) (q5 : Str) : Option Int :=
  if p0x0 ≠ (⟨p0x0.Kind, c3, n4, q5⟩ : ValueS) then
    some (3 : Int)
  else
    if (base_Out p0x0.Number (-1000000000 : Int) (1000000000 : Int)) = true then
      some (1 : Int)
    else
      if (1000 : Int) < (p0x0.Words.length : Int) then
        some (2 : Int)
      else
        (base_Unmarked p0x0.Words).bind fun v11 =>
        if (!v11) = true then
          some (3 : Int)
        else
          some (0 : Int)

noncomputable def twin_valueFault_j2 (p0x0 : ValueS) (c6 : Bool) (n7 : Int) (q8 : Str) : Option Int :=
  twin_valueFault_j1 p0x0 c6 n7 q8

noncomputable def twin_valueFault_j3 (p0x0 : ValueS) (n9 : Int) (q10 : Str) : Option Int :=
  twin_valueFault_j2 p0x0 false n9 q10

noncomputable def twin_valueFault (p0x0 : ValueS) : Option Int :=
  if p0x0.Kind = (0 : Int) then
    twin_valueFault_j1 p0x0 false (0 : Int) []
  else
    if p0x0.Kind = (1 : Int) then
      twin_valueFault_j2 p0x0 p0x0.Flag (0 : Int) []
    else
      if p0x0.Kind = (2 : Int) then
        twin_valueFault_j3 p0x0 p0x0.Number []
      else
        if p0x0.Kind = (3 : Int) then
          twin_valueFault_j3 p0x0 (0 : Int) p0x0.Words
        else
          some (4 : Int)

noncomputable def base_Moment (p0x0 : Int) : Bool :=
  !(base_Out p0x0 (0 : Int) (345686399999 : Int))

noncomputable def twin_stampFault (p0x0 : Stamp) : Option Int :=
  if (!(base_Moment p0x0.At)) = true then
    some (1 : Int)
  else
    (base_Key p0x0.By).bind fun v2 =>
    if (!v2) = true then
      some (5 : Int)
    else
      if (base_Out p0x0.No (0 : Int) (1000000000 : Int)) = true then
        some (1 : Int)
      else
        some (0 : Int)

noncomputable def base_First_b1 (p0x0 : List Int) (n2 : Int) : Option (Int ⊕ Int) :=
  if n2 < (p0x0.length : Int) then
    (idx p0x0 n2).bind fun v3 =>
    if v3 ≠ (0 : Int) then
      Option.map .inr (some v3)
    else
      some (.inl (w64 (n2 + (1 : Int))))
  else
    Option.map .inr (some (0 : Int))

noncomputable def base_First_l1 (p0x0 : List Int) (n2 : Int) : Option Int :=
  iter (fun x : Int => base_First_b1 p0x0 x) n2

noncomputable def base_First (p0x0 : List Int) : Option Int :=
  base_First_l1 p0x0 (0 : Int)

noncomputable def twin_CheckCells_j1 (n2 : Int) (c9 : Bool) : Option (Int ⊕ Int) :=
  if c9 = true then
    Option.map .inr (some (7 : Int))
  else
    some (.inl (w64 (n2 + (1 : Int))))

noncomputable def twin_CheckCells_b1 (p0x0 : List Cell) (n2 : Int) : Option (Int ⊕ Int) :=
  if n2 < (p0x0.length : Int) then
    (idx p0x0 n2).bind fun v3 =>
    (twin_isName v3.Prop_.Name).bind fun v5 =>
    if (!v5) = true then
      Option.map .inr (some (5 : Int))
    else
      (twin_valueFault v3.Prop_.Value).bind fun v6 =>
      (twin_stampFault v3.Stamp).bind fun v7 =>
      (base_First [v6, v7]).bind fun v8 =>
      if v8 ≠ (0 : Int) then
        Option.map .inr (some v8)
      else
        if (0 : Int) < n2 then
          (idx p0x0 (w64 (n2 - (1 : Int)))).bind fun v10 =>
          twin_CheckCells_j1 n2 (Op.bytesLess v3.Prop_.Name v10.Prop_.Name || v3.Prop_.Name == v10.Prop_.Name)
        else
          twin_CheckCells_j1 n2 false
  else
    Option.map .inr (some (0 : Int))

noncomputable def twin_CheckCells_l1 (p0x0 : List Cell) (n2 : Int) : Option Int :=
  iter (fun x : Int => twin_CheckCells_b1 p0x0 x) n2

noncomputable def twin_CheckCells (p0x0 : List Cell) : Option Int :=
  if (500 : Int) < (p0x0.length : Int) then
    some (2 : Int)
  else
    twin_CheckCells_l1 p0x0 (0 : Int)

noncomputable def base_Quote (p0x0 : Str) : Option Str :=
  (strings_ReplaceAll p0x0 ([92] : Str) ([92, 92] : Str)).bind fun v1 =>
  (strings_ReplaceAll v1 ([34] : Str) ([92, 34] : Str)).bind fun v2 =>
  (catO ([34] : Str) v2).bind fun q3 =>
  (catO q3 ([34] : Str)).bind fun q4 =>
  some q4

noncomputable def twin_valueText (p0x0 : ValueS) : Option Str :=
  if p0x0.Kind = (1 : Int) then
    if p0x0.Flag = true then
      some ([121, 101, 115] : Str)
    else
      some ([110, 111] : Str)
  else
    if p0x0.Kind = (2 : Int) then
      (itoaO p0x0.Number).bind fun v2 =>
      some v2
    else
      if p0x0.Kind = (3 : Int) then
        (base_Quote p0x0.Words).bind fun v3 =>
        some v3
      else
        some ([45] : Str)

noncomputable def twin_Text_k1 (q6 : Str) : Option (Str × Int) :=
  if (200000 : Int) < (q6.length : Int) then
    some (([] : Str), (2 : Int))
  else
    some (q6, (0 : Int))

noncomputable def twin_Text_b1 (p0x0 : List Cell) (q6 : Str) (n8 : Int) : Option ((Str × Int) ⊕ (Str × Int)) :=
  if n8 < (p0x0.length : Int) then
    (idx p0x0 n8).bind fun v9 =>
    (catO v9.Prop_.Name ([32] : Str)).bind fun q11 =>
    (itoaO v9.Stamp.At).bind fun v12 =>
    (catO q11 v12).bind fun q13 =>
    (catO q13 ([32] : Str)).bind fun q14 =>
    (catO q14 v9.Stamp.By).bind fun q15 =>
    (catO q15 ([32] : Str)).bind fun q16 =>
    (itoaO v9.Stamp.No).bind fun v17 =>
    (catO q16 v17).bind fun q18 =>
    (catO q18 ([32] : Str)).bind fun q19 =>
    (twin_valueText v9.Prop_.Value).bind fun v20 =>
    (catO q19 v20).bind fun q21 =>
    (catO q21 ([10] : Str)).bind fun q22 =>
    (bldW q6 q22).bind fun q23 =>
    some (.inl (q23, w64 (n8 + (1 : Int))))
  else
    Option.map .inr (twin_Text_k1 q6)

noncomputable def twin_Text_l1 (p0x0 : List Cell) (q6 : Str) (n8 : Int) : Option (Str × Int) :=
  iter (fun x : Str × Int => twin_Text_b1 p0x0 x.1 x.2) (q6, n8)

noncomputable def twin_Text (p0x0 : List Cell) : Option (Str × Int) :=
  (twin_CheckCells p0x0).bind fun v1 =>
  if v1 ≠ (0 : Int) then
    some (([] : Str), v1)
  else
    twin_Text_l1 p0x0 [] (0 : Int)

noncomputable def Q_in_j1 (c1 : Bool) : Bool :=
  c1

noncomputable def Q_in (p0x0 : Int) (p1x0 : Int) (p2x0 : Int) : Bool :=
  Q_in_j1 ((decide (p1x0 ≤ p0x0)) && (decide (p0x0 ≤ p2x0)))

noncomputable def Q_only_b1 (p0x0 : Str) (p1x0 : Str) (n2 : Int) : Option (Int ⊕ Bool) :=
  if n2 < (p0x0.length : Int) then
    (idx p0x0 n2).bind fun c3 =>
    if (indexByteI p1x0 (c3.toNat : Int)) < (0 : Int) then
      Option.map .inr (some false)
    else
      some (.inl (w64 (n2 + (1 : Int))))
  else
    Option.map .inr (some true)

noncomputable def Q_only_l1 (p0x0 : Str) (p1x0 : Str) (n2 : Int) : Option Bool :=
  iter (fun x : Int => Q_only_b1 p0x0 p1x0 x) n2

noncomputable def Q_only (p0x0 : Str) (p1x0 : Str) : Option Bool :=
  Q_only_l1 p0x0 p1x0 (0 : Int)

noncomputable def Q_Key_j1 (c1 : Bool) : Option Bool :=
  some c1

noncomputable def Q_Key (p0x0 : Str) : Option Bool :=
  if (Q_in (p0x0.length : Int) (1 : Int) (40 : Int)) = true then
    (slc p0x0 (0 : Int) (1 : Int)).bind fun l2 =>
    (Q_only l2 ([97, 98, 99, 100, 101, 102, 103, 104, 105, 106, 107, 108, 109, 110, 111, 112, 113, 114, 115, 116, 117, 118, 119, 120, 121, 122] : Str)).bind fun v3 =>
    if v3 = true then
      (Q_only p0x0 ([97, 98, 99, 100, 101, 102, 103, 104, 105, 106, 107, 108, 109, 110, 111, 112, 113, 114, 115, 116, 117, 118, 119, 120, 121, 122, 48, 49, 50, 51, 52, 53, 54, 55, 56, 57, 45, 95] : Str)).bind fun v4 =>
      Q_Key_j1 v4
    else
      Q_Key_j1 false
  else
    Q_Key_j1 false

noncomputable def Q_PropName_1x (p0x0 : Str) : Option Bool :=
  (Q_Key p0x0).bind fun v1 =>
  some (!v1)

noncomputable def slices_IndexFunc_string_string_b1 (p0x0 : List Str) (fnb : Str → Option Bool) (n2 : Int) : Option (Int ⊕ Int) :=
  if n2 < (p0x0.length : Int) then
    (idx p0x0 n2).bind fun v3 =>
    (fnb v3).bind fun v4 =>
    if v4 = true then
      Option.map .inr (some n2)
    else
      some (.inl (w64 (n2 + (1 : Int))))
  else
    Option.map .inr (some (-1 : Int))

noncomputable def slices_IndexFunc_string_string_l1 (p0x0 : List Str) (fnb : Str → Option Bool) (n2 : Int) : Option Int :=
  iter (fun x : Int => slices_IndexFunc_string_string_b1 p0x0 fnb x) n2

noncomputable def slices_IndexFunc_string_string (p0x0 : List Str) (fnb : Str → Option Bool) : Option Int :=
  slices_IndexFunc_string_string_l1 p0x0 fnb (0 : Int)

noncomputable def slices_ContainsFunc_string_string (p0x0 : List Str) (fnb : Str → Option Bool) : Option Bool :=
  (slices_IndexFunc_string_string p0x0 fnb).bind fun v1 =>
  some (decide ((0 : Int) ≤ v1))

noncomputable def Q_PropName_j1 (c3 : Bool) : Option Bool :=
  some c3

noncomputable def Q_PropName (p0x0 : Str) : Option Bool :=
  (splitO p0x0 ([46] : Str)).bind fun v1 =>
  if (v1.length : Int) ≤ (8 : Int) then
    (slices_ContainsFunc_string_string v1 (fun y0 => Q_PropName_1x y0)).bind fun v4 =>
    Q_PropName_j1 (!v4)
  else
    Q_PropName_j1 false

noncomputable def Q_Printed_1x_j1 (c1 : Bool) : Bool :=
  c1

noncomputable def Q_Printed_1x (p0x0 : Int) : Bool :=
  Q_Printed_1x_j1 ((decide (p0x0 < (32 : Int))) || (decide (p0x0 = (127 : Int))))

noncomputable def Q_Printed_j1 (c1 : Bool) : Option Bool :=
  some c1

noncomputable def Q_Printed (p0x0 : Str) : Option Bool :=
  (validO p0x0).bind fun v2 =>
  if v2 = true then
    (containsF p0x0 (fun y0 => some (Q_Printed_1x y0))).bind fun v3 =>
    Q_Printed_j1 (!v3)
  else
    Q_Printed_j1 false

noncomputable def Q_ValueFault_j1 (p0x0 : ValueS) (c3 : Bool) (n4 : Int) (q5 : Str) : Option Int :=
  if (⟨p0x0.Kind, c3, n4, q5⟩ : ValueS) ≠ p0x0 then
    some (3 : Int)
  else
    if (!(Q_in p0x0.Number (-1000000000 : Int) (1000000000 : Int))) = true then
      some (1 : Int)
    else
      if (1000 : Int) < (p0x0.Words.length : Int) then
        some (2 : Int)
      else
        (Q_Printed p0x0.Words).bind fun v9 =>
        if (!v9) = true then
          some (3 : Int)
        else
          some (0 : Int)

noncomputable def Q_ValueFault_j2 (p0x0 : ValueS) (n6 : Int) (q7 : Str) : Option Int :=
  Q_ValueFault_j1 p0x0 false n6 q7

noncomputable def Q_ValueFault_j3 (p0x0 : ValueS) (q8 : Str) : Option Int :=
  Q_ValueFault_j2 p0x0 (0 : Int) q8

noncomputable def Q_ValueFault (p0x0 : ValueS) : Option Int :=
  if (!(Q_in p0x0.Kind (0 : Int) (3 : Int))) = true then
    some (4 : Int)
  else
    if p0x0.Kind = (1 : Int) then
      Q_ValueFault_j1 p0x0 p0x0.Flag (0 : Int) []
    else
      if p0x0.Kind = (2 : Int) then
        Q_ValueFault_j2 p0x0 p0x0.Number []
      else
        if p0x0.Kind = (3 : Int) then
          Q_ValueFault_j3 p0x0 p0x0.Words
        else
          Q_ValueFault_j3 p0x0 []

noncomputable def Q_Moment (p0x0 : Int) : Bool :=
  (Q_in p0x0 (0 : Int) (345686399999 : Int))

noncomputable def Q_StampFault (p0x0 : Stamp) : Option Int :=
  if (!(Q_Moment p0x0.At)) = true then
    some (1 : Int)
  else
    (Q_Key p0x0.By).bind fun v2 =>
    if (!v2) = true then
      some (5 : Int)
    else
      if (!(Q_in p0x0.No (0 : Int) (1000000000 : Int))) = true then
        some (1 : Int)
      else
        some (0 : Int)

noncomputable def Q_CellsFault_j1 (n2 : Int) (c11 : Bool) : Option (Int ⊕ Int) :=
  if c11 = true then
    Option.map .inr (some (7 : Int))
  else
    some (.inl (w64 (n2 + (1 : Int))))

noncomputable def Q_CellsFault_k2 (p0x0 : List Cell) (n2 : Int) (v3 : Cell) : Option (Int ⊕ Int) :=
  if (0 : Int) < n2 then
    (idx p0x0 (w64 (n2 - (1 : Int)))).bind fun v12 =>
    Q_CellsFault_j1 n2 (Op.bytesLess v3.Prop_.Name v12.Prop_.Name || v3.Prop_.Name == v12.Prop_.Name)
  else
    Q_CellsFault_j1 n2 false

noncomputable def Q_CellsFault_b2 (p0x0 : List Cell) (n2 : Int) (v3 : Cell) (v6 : Int) (v7 : Int) (n9 : Int) : Option (Int ⊕ (Int ⊕ Int)) :=
  if n9 < ([v6, v7].length : Int) then
    (idx [v6, v7] n9).bind fun v10 =>
    if v10 ≠ (0 : Int) then
      Option.map .inr (Option.map .inr (some v10))
    else
      some (.inl (w64 (n9 + (1 : Int))))
  else
    Option.map .inr (Q_CellsFault_k2 p0x0 n2 v3)

noncomputable def Q_CellsFault_l2 (p0x0 : List Cell) (n2 : Int) (v3 : Cell) (v6 : Int) (v7 : Int) (n9 : Int) : Option (Int ⊕ Int) :=
  iter (fun x : Int => Q_CellsFault_b2 p0x0 n2 v3 v6 v7 x) n9

noncomputable def Q_CellsFault_b1 (p0x0 : List Cell) (n2 : Int) : Option (Int ⊕ Int) :=
  if n2 < (p0x0.length : Int) then
    (idx p0x0 n2).bind fun v3 =>
    (Q_PropName v3.Prop_.Name).bind fun v5 =>
    if (!v5) = true then
      Option.map .inr (some (5 : Int))
    else
      (Q_ValueFault v3.Prop_.Value).bind fun v6 =>
      (Q_StampFault v3.Stamp).bind fun v7 =>
      Q_CellsFault_l2 p0x0 n2 v3 v6 v7 (0 : Int)
  else
    Option.map .inr (some (0 : Int))

noncomputable def Q_CellsFault_l1 (p0x0 : List Cell) (n2 : Int) : Option Int :=
  iter (fun x : Int => Q_CellsFault_b1 p0x0 x) n2

noncomputable def Q_CellsFault (p0x0 : List Cell) : Option Int :=
  if (500 : Int) < (p0x0.length : Int) then
    some (2 : Int)
  else
    Q_CellsFault_l1 p0x0 (0 : Int)

noncomputable def strings_genSplit_j2 (q8 : Str) (l9 : List Str) (n10 : Int) : Option (List Str) :=
  (idx l9 n10).bind fun v21 =>
  (slc (l9.set n10.toNat q8) (0 : Int) (w64 (n10 + (1 : Int)))).bind fun l22 =>
  some l22

noncomputable def strings_genSplit_b1 (p0x0 : Str) (p1x0 : Str) (p2x0 : Int) (n4 : Int) (q14 : Str) (l15 : List Str) (n16 : Int) : Option ((Str × (List Str) × Int) ⊕ (List Str)) :=
  if n16 < (w64 ((min n4 (w64 ((p0x0.length : Int) + (1 : Int)))) - (1 : Int))) then
    (indexO q14 p1x0).bind fun v17 =>
    if v17 < (0 : Int) then
      Option.map .inr (strings_genSplit_j2 q14 l15 n16)
    else
      (slc q14 (0 : Int) (w64 (v17 + p2x0))).bind fun l18 =>
      (idx l15 n16).bind fun v19 =>
      (slc q14 (w64 (v17 + (p1x0.length : Int))) (q14.length : Int)).bind fun l20 =>
      some (.inl (l20, l15.set n16.toNat l18, w64 (n16 + (1 : Int))))
  else
    Option.map .inr (strings_genSplit_j2 q14 l15 n16)

noncomputable def strings_genSplit_l1 (p0x0 : Str) (p1x0 : Str) (p2x0 : Int) (n4 : Int) (q14 : Str) (l15 : List Str) (n16 : Int) : Option (List Str) :=
  iter (fun x : Str × (List Str) × Int => strings_genSplit_b1 p0x0 p1x0 p2x0 n4 x.1 x.2.1 x.2.2) (q14, l15, n16)

noncomputable def strings_genSplit_j1 (p0x0 : Str) (p1x0 : Str) (p2x0 : Int) (n4 : Int) : Option (List Str) :=
  (mkS [] (min n4 (w64 ((p0x0.length : Int) + (1 : Int)))) (min n4 (w64 ((p0x0.length : Int) + (1 : Int))))).bind fun l6 =>
  strings_genSplit_l1 p0x0 p1x0 p2x0 n4 p0x0 l6 (0 : Int)

noncomputable def strings_genSplit (p0x0 : Str) (p1x0 : Str) (p2x0 : Int) (p3x0 : Int) : Option (List Str) :=
  if p3x0 = (0 : Int) then
    some []
  else
    if p1x0 = ([] : Str) then
      (noExpl p0x0 p3x0).bind fun v2 =>
      some v2
    else
      if p3x0 < (0 : Int) then
        (countO p0x0 p1x0).bind fun v5 =>
        strings_genSplit_j1 p0x0 p1x0 p2x0 (w64 (v5 + (1 : Int)))
      else
        strings_genSplit_j1 p0x0 p1x0 p2x0 p3x0

noncomputable def strings_SplitN (p0x0 : Str) (p1x0 : Str) (p2x0 : Int) : Option (List Str) :=
  (strings_genSplit p0x0 p1x0 (0 : Int) p2x0).bind fun v1 =>
  some v1

noncomputable def base_Number_j2 (n4 : Int) (c5 : Bool) : Option (Int ⊕ (Int × Bool)) :=
  if c5 = true then
    Option.map .inr (some ((0 : Int), false))
  else
    some (.inl (w64 (n4 + (1 : Int))))

noncomputable def base_Number_k3 (p0x0 : Str) : Option (Int × Bool) :=
  (atoiO p0x0).bind fun v8 =>
  some (v8.1, v8.2)

noncomputable def base_Number_b1 (p0x0 : Str) (n4 : Int) : Option (Int ⊕ (Int × Bool)) :=
  if n4 < ((Lib.trimPrefix p0x0 ([45] : Str)).length : Int) then
    (idx (Lib.trimPrefix p0x0 ([45] : Str)) n4).bind fun c6 =>
    if (c6.toNat : Int) < (48 : Int) then
      base_Number_j2 n4 true
    else
      (idx (Lib.trimPrefix p0x0 ([45] : Str)) n4).bind fun c7 =>
      base_Number_j2 n4 (decide ((57 : Int) < (c7.toNat : Int)))
  else
    Option.map .inr (base_Number_k3 p0x0)

noncomputable def base_Number_l1 (p0x0 : Str) (n4 : Int) : Option (Int × Bool) :=
  iter (fun x : Int => base_Number_b1 p0x0 x) n4

noncomputable def base_Number_j1 (p0x0 : Str) (c1 : Bool) : Option (Int × Bool) :=
  if c1 = true then
    some ((0 : Int), false)
  else
    base_Number_l1 p0x0 (0 : Int)

noncomputable def base_Number (p0x0 : Str) (p1x0 : Int) : Option (Int × Bool) :=
  if (Lib.trimPrefix p0x0 ([45] : Str)) = ([] : Str) then
    base_Number_j1 p0x0 true
  else
    if p1x0 < ((Lib.trimPrefix p0x0 ([45] : Str)).length : Int) then
      base_Number_j1 p0x0 true
    else
      (idx (Lib.trimPrefix p0x0 ([45] : Str)) (0 : Int)).bind fun c2 =>
      base_Number_j1 p0x0 ((decide ((c2.toNat : Int) = (48 : Int))) && ((decide ((1 : Int) < ((Lib.trimPrefix p0x0 ([45] : Str)).length : Int))) || (decide (((Lib.trimPrefix p0x0 ([45] : Str)).length : Int) < (p0x0.length : Int)))))

noncomputable def base_Unquote_j2 (l4 : Str) (l9 : List Int) (n13 : Int) : Option (((List Int) × Int) ⊕ (Str × Bool)) :=
  (idx l4 n13).bind fun c17 =>
  (app l9 [(c17.toNat : Int)]).bind fun l18 =>
  some (.inl (l18, w64 (n13 + (1 : Int))))

noncomputable def base_Unquote_j3 (l4 : Str) (l9 : List Int) (n10 : Int) (c14 : Bool) : Option (((List Int) × Int) ⊕ (Str × Bool)) :=
  if c14 = true then
    Option.map .inr (some (([] : Str), false))
  else
    base_Unquote_j2 l4 l9 (w64 (n10 + (1 : Int)))

noncomputable def base_Unquote_b1 (l4 : Str) (l9 : List Int) (n10 : Int) : Option (((List Int) × Int) ⊕ (Str × Bool)) :=
  if n10 < (l4.length : Int) then
    (idx l4 n10).bind fun c12 =>
    if (c12.toNat : Int) = (34 : Int) then
      Option.map .inr (some (([] : Str), false))
    else
      if (c12.toNat : Int) = (92 : Int) then
        if (w64 (n10 + (1 : Int))) = (l4.length : Int) then
          base_Unquote_j3 l4 l9 n10 true
        else
          (idx l4 (w64 (n10 + (1 : Int)))).bind fun c15 =>
          if (c15.toNat : Int) ≠ (34 : Int) then
            (idx l4 (w64 (n10 + (1 : Int)))).bind fun c16 =>
            base_Unquote_j3 l4 l9 n10 (decide ((c16.toNat : Int) ≠ (92 : Int)))
          else
            base_Unquote_j3 l4 l9 n10 false
      else
        base_Unquote_j2 l4 l9 n10
  else
    Option.map .inr (some (strB l9, true))

noncomputable def base_Unquote_l1 (l4 : Str) (l9 : List Int) (n10 : Int) : Option (Str × Bool) :=
  iter (fun x : (List Int) × Int => base_Unquote_b1 l4 x.1 x.2) (l9, n10)

noncomputable def base_Unquote_j1 (p0x0 : Str) (c1 : Bool) : Option (Str × Bool) :=
  if c1 = true then
    some (([] : Str), false)
  else
    (slc p0x0 (1 : Int) (w64 ((p0x0.length : Int) - (1 : Int)))).bind fun l4 =>
    base_Unquote_l1 l4 [] (0 : Int)

noncomputable def base_Unquote (p0x0 : Str) : Option (Str × Bool) :=
  if (p0x0.length : Int) < (2 : Int) then
    base_Unquote_j1 p0x0 true
  else
    (idx p0x0 (0 : Int)).bind fun c2 =>
    if (c2.toNat : Int) ≠ (34 : Int) then
      base_Unquote_j1 p0x0 true
    else
      (idx p0x0 (w64 ((p0x0.length : Int) - (1 : Int)))).bind fun c3 =>
      base_Unquote_j1 p0x0 (decide ((c3.toNat : Int) ≠ (34 : Int)))

noncomputable def twin_readValue_j1 (p0x0 : Str) (c2 : Bool) : Option (ValueS × Bool) :=
  if c2 = true then
    some ((⟨(1 : Int), decide (p0x0 = ([121, 101, 115] : Str)), (0 : Int), []⟩ : ValueS), true)
  else
    (base_Number p0x0 (15 : Int)).bind fun v3 =>
    if v3.2 = true then
      some ((⟨(2 : Int), false, v3.1, []⟩ : ValueS), true)
    else
      (base_Unquote p0x0).bind fun v4 =>
      some ((⟨(3 : Int), false, (0 : Int), v4.1⟩ : ValueS), v4.2)

noncomputable def twin_readValue (p0x0 : Str) : Option (ValueS × Bool) :=
  if p0x0 = ([45] : Str) then
    some ((⟨(0 : Int), false, (0 : Int), []⟩ : ValueS), true)
  else
    if p0x0 = ([121, 101, 115] : Str) then
      twin_readValue_j1 p0x0 (decide (p0x0 = ([121, 101, 115] : Str)))
    else
      twin_readValue_j1 p0x0 (decide (p0x0 = ([110, 111] : Str)))

noncomputable def twin_readCell_j1 (v2 : (List Str)) (c4 : Bool) : Option (Cell × Bool) :=
  if c4 = true then
    some ((⟨(⟨[], (⟨(0 : Int), false, (0 : Int), []⟩ : ValueS)⟩ : PropS), (⟨(0 : Int), [], (0 : Int)⟩ : Stamp)⟩ : Cell), false)
  else
    (idx v2 (1 : Int)).bind fun v7 =>
    (base_Number v7 (15 : Int)).bind fun v8 =>
    (idx v2 (3 : Int)).bind fun v9 =>
    (base_Number v9 (15 : Int)).bind fun v10 =>
    (idx v2 (4 : Int)).bind fun v11 =>
    (twin_readValue v11).bind fun v12 =>
    (idx v2 (0 : Int)).bind fun v14 =>
    (idx v2 (2 : Int)).bind fun v15 =>
    some ((⟨(⟨v14, v12.1⟩ : PropS), (⟨v8.1, v15, v10.1⟩ : Stamp)⟩ : Cell), (v8.2 && v10.2) && v12.2)

noncomputable def twin_readCell (p0x0 : Str) : Option (Cell × Bool) :=
  (strings_SplitN p0x0 ([32] : Str) (5 : Int)).bind fun v2 =>
  if (v2.length : Int) ≠ (5 : Int) then
    twin_readCell_j1 v2 true
  else
    (idx v2 (0 : Int)).bind fun v5 =>
    if v5 = ([] : Str) then
      twin_readCell_j1 v2 true
    else
      (idx v2 (2 : Int)).bind fun v6 =>
      twin_readCell_j1 v2 (decide (v6 = ([] : Str)))

noncomputable def twin_Read_1x (p0x0 : Str) (p1x0 : List Cell) : Option (Bool × (List Cell)) :=
  (twin_readCell p0x0).bind fun v1 =>
  (app p1x0 [v1.1]).bind fun l3 =>
  some (v1.2, l3)

noncomputable def internal_stringslite_HasSuffix_j1 (c1 : Bool) : Option Bool :=
  some c1

noncomputable def internal_stringslite_HasSuffix (p0x0 : Str) (p1x0 : Str) : Option Bool :=
  if (p1x0.length : Int) ≤ (p0x0.length : Int) then
    (slc p0x0 (w64 ((p0x0.length : Int) - (p1x0.length : Int))) (p0x0.length : Int)).bind fun l2 =>
    internal_stringslite_HasSuffix_j1 (decide (l2 = p1x0))
  else
    internal_stringslite_HasSuffix_j1 false

noncomputable def internal_stringslite_CutSuffix (p0x0 : Str) (p1x0 : Str) : Option (Str × Bool) :=
  (internal_stringslite_HasSuffix p0x0 p1x0).bind fun v1 =>
  if (!v1) = true then
    some (p0x0, false)
  else
    (slc p0x0 (0 : Int) (w64 ((p0x0.length : Int) - (p1x0.length : Int)))).bind fun l2 =>
    some (l2, true)

noncomputable def strings_CutSuffix (p0x0 : Str) (p1x0 : Str) : Option (Str × Bool) :=
  (internal_stringslite_CutSuffix p0x0 p1x0).bind fun v1 =>
  some (v1.1, v1.2)

noncomputable def base_Lines (p0x0 : Str) : Option ((List Str) × Bool) :=
  if p0x0 = ([] : Str) then
    some ([], true)
  else
    (strings_CutSuffix p0x0 ([10] : Str)).bind fun v2 =>
    (splitO v2.1 ([10] : Str)).bind fun v3 =>
    some (v3, v2.2)

noncomputable def base_Each_f1x_twin_Read_1x_j1 (n8 : Int) (l11 : List Cell) (c12 : Bool) : Option (((List Cell) × Int) ⊕ (Int × Bool × (List Cell))) :=
  if c12 = true then
    Option.map .inr (some (n8, false, l11))
  else
    some (.inl (l11, w64 (n8 + (1 : Int))))

noncomputable def base_Each_f1x_twin_Read_1x_b1 (v1 : (List Str) × Bool) (l7 : List Cell) (n8 : Int) : Option (((List Cell) × Int) ⊕ (Int × Bool × (List Cell))) :=
  if n8 < (v1.1.length : Int) then
    (idx v1.1 n8).bind fun v9 =>
    if (!v1.2) = true then
      if n8 = (w64 ((v1.1.length : Int) - (1 : Int))) then
        base_Each_f1x_twin_Read_1x_j1 n8 l7 true
      else
        (twin_Read_1x v9 l7).bind fun v13 =>
        base_Each_f1x_twin_Read_1x_j1 n8 v13.2 (!v13.1)
    else
      (twin_Read_1x v9 l7).bind fun v15 =>
      base_Each_f1x_twin_Read_1x_j1 n8 v15.2 (!v15.1)
  else
    Option.map .inr (some ((0 : Int), true, l7))

noncomputable def base_Each_f1x_twin_Read_1x_l1 (v1 : (List Str) × Bool) (l7 : List Cell) (n8 : Int) : Option (Int × Bool × (List Cell)) :=
  iter (fun x : (List Cell) × Int => base_Each_f1x_twin_Read_1x_b1 v1 x.1 x.2) (l7, n8)

noncomputable def base_Each_f1x_twin_Read_1x (p0x0 : Str) (p2x0 : List Cell) : Option (Int × Bool × (List Cell)) :=
  (base_Lines p0x0).bind fun v1 =>
  base_Each_f1x_twin_Read_1x_l1 v1 p2x0 (0 : Int)

noncomputable def twin_Read (p0x0 : Str) : Option ((List Cell) × Int × Int) :=
  if (200000 : Int) < (p0x0.length : Int) then
    some ([], (0 : Int), (2 : Int))
  else
    (base_Each_f1x_twin_Read_1x p0x0 []).bind fun v3 =>
    if (!v3.2.1) = true then
      some ([], v3.1, (9 : Int))
    else
      (twin_CheckCells v3.2.2).bind fun v7 =>
      if v7 ≠ (0 : Int) then
        some ([], (0 : Int), v7)
      else
        some (v3.2.2, (0 : Int), (0 : Int))

noncomputable def slices_Index_string_string_b1 (p0x0 : List Str) (p1x0 : Str) (n2 : Int) : Option (Int ⊕ Int) :=
  if n2 < (p0x0.length : Int) then
    (idx p0x0 n2).bind fun v3 =>
    if p1x0 = v3 then
      Option.map .inr (some n2)
    else
      some (.inl (w64 (n2 + (1 : Int))))
  else
    Option.map .inr (some (-1 : Int))

noncomputable def slices_Index_string_string_l1 (p0x0 : List Str) (p1x0 : Str) (n2 : Int) : Option Int :=
  iter (fun x : Int => slices_Index_string_string_b1 p0x0 p1x0 x) n2

noncomputable def slices_Index_string_string (p0x0 : List Str) (p1x0 : Str) : Option Int :=
  slices_Index_string_string_l1 p0x0 p1x0 (0 : Int)

noncomputable def slices_Contains_string_string (p0x0 : List Str) (p1x0 : Str) : Option Bool :=
  (slices_Index_string_string p0x0 p1x0).bind fun v1 =>
  some (decide ((0 : Int) ≤ v1))

noncomputable def Q_Number_j2 (v3 : Int × Bool) (c5 : Bool) : Option (Int × Bool) :=
  some (v3.1, c5)

noncomputable def Q_Number_j1 (p0x0 : Str) (c1 : Bool) : Option (Int × Bool) :=
  if c1 = true then
    some ((0 : Int), false)
  else
    (atoiO p0x0).bind fun v3 =>
    if v3.2 = true then
      (itoaO v3.1).bind fun v6 =>
      Q_Number_j2 v3 (decide (v6 = p0x0))
    else
      Q_Number_j2 v3 false

noncomputable def Q_Number (p0x0 : Str) (p1x0 : Int) : Option (Int × Bool) :=
  if (Lib.trimPrefix p0x0 ([45] : Str)) = ([] : Str) then
    Q_Number_j1 p0x0 true
  else
    if p1x0 < ((Lib.trimPrefix p0x0 ([45] : Str)).length : Int) then
      Q_Number_j1 p0x0 true
    else
      (Q_only (Lib.trimPrefix p0x0 ([45] : Str)) ([48, 49, 50, 51, 52, 53, 54, 55, 56, 57] : Str)).bind fun v2 =>
      Q_Number_j1 p0x0 (!v2)

noncomputable def Q_Unquoted_j1 (p0x0 : Str) (l5 : List Int) (n9 : Int) : Option (((List Int) × Int) ⊕ (Str × Bool)) :=
  (idx p0x0 n9).bind fun c10 =>
  (app l5 [(c10.toNat : Int)]).bind fun l11 =>
  some (.inl (l11, w64 (n9 + (1 : Int))))

noncomputable def Q_Unquoted_j2 (l5 : List Int) (c13 : Bool) : Option (Str × Bool) :=
  some (strB l5, c13)

noncomputable def Q_Unquoted_k3 (p0x0 : Str) (l5 : List Int) : Option (Str × Bool) :=
  if (2 : Int) ≤ (p0x0.length : Int) then
    (Q_Quoted (strB l5)).bind fun v14 =>
    Q_Unquoted_j2 l5 (decide (v14 = p0x0))
  else
    Q_Unquoted_j2 l5 false

noncomputable def Q_Unquoted_b1 (p0x0 : Str) (l5 : List Int) (n6 : Int) : Option (((List Int) × Int) ⊕ (Str × Bool)) :=
  if n6 < (w64 ((p0x0.length : Int) - (1 : Int))) then
    (idx p0x0 n6).bind fun c8 =>
    if (c8.toNat : Int) = (92 : Int) then
      Q_Unquoted_j1 p0x0 l5 (w64 (n6 + (1 : Int)))
    else
      Q_Unquoted_j1 p0x0 l5 n6
  else
    Option.map .inr (Q_Unquoted_k3 p0x0 l5)

noncomputable def Q_Unquoted_l1 (p0x0 : Str) (l5 : List Int) (n6 : Int) : Option (Str × Bool) :=
  iter (fun x : (List Int) × Int => Q_Unquoted_b1 p0x0 x.1 x.2) (l5, n6)

noncomputable def Q_Unquoted (p0x0 : Str) : Option (Str × Bool) :=
  Q_Unquoted_l1 p0x0 [] (1 : Int)

noncomputable def Q_readValue_j1 (p0x0 : Str) (c2 : Bool) : Option (ValueS × Bool) :=
  if c2 = true then
    some ((⟨(1 : Int), decide (p0x0 = ([121, 101, 115] : Str)), (0 : Int), []⟩ : ValueS), true)
  else
    (Q_Number p0x0 (15 : Int)).bind fun v3 =>
    if v3.2 = true then
      some ((⟨(2 : Int), false, v3.1, []⟩ : ValueS), true)
    else
      (Q_Unquoted p0x0).bind fun v4 =>
      some ((⟨(3 : Int), false, (0 : Int), v4.1⟩ : ValueS), v4.2)

noncomputable def Q_readValue (p0x0 : Str) : Option (ValueS × Bool) :=
  if p0x0 = ([45] : Str) then
    some ((⟨(0 : Int), false, (0 : Int), []⟩ : ValueS), true)
  else
    Q_readValue_j1 p0x0 ((decide (p0x0 = ([121, 101, 115] : Str))) || (decide (p0x0 = ([110, 111] : Str))))

noncomputable def Q_CellsRead_1x_j2 (l15 : List Cell) (c17 : Bool) : Option (Bool × (List Cell)) :=
  some (c17, l15)

noncomputable def Q_CellsRead_1x_j1 (p1x0 : List Cell) (v1 : (List Str)) (c3 : Bool) : Option (Bool × (List Cell)) :=
  if c3 = true then
    some (false, p1x0)
  else
    (idx v1 (1 : Int)).bind fun v6 =>
    (Q_Number v6 (15 : Int)).bind fun v7 =>
    (idx v1 (3 : Int)).bind fun v8 =>
    (Q_Number v8 (15 : Int)).bind fun v9 =>
    (idx v1 (4 : Int)).bind fun v10 =>
    (Q_readValue v10).bind fun v11 =>
    (idx v1 (0 : Int)).bind fun v13 =>
    (idx v1 (2 : Int)).bind fun v14 =>
    (app p1x0 [(⟨(⟨v13, v11.1⟩ : PropS), (⟨v7.1, v14, v9.1⟩ : Stamp)⟩ : Cell)]).bind fun l15 =>
    Q_CellsRead_1x_j2 l15 (v7.2 && (v9.2 && v11.2))

noncomputable def Q_CellsRead_1x (p0x0 : Str) (p1x0 : List Cell) : Option (Bool × (List Cell)) :=
  (strings_SplitN p0x0 ([32] : Str) (5 : Int)).bind fun v1 =>
  if (v1.length : Int) ≠ (5 : Int) then
    Q_CellsRead_1x_j1 p1x0 v1 true
  else
    (slc v1 (0 : Int) (4 : Int)).bind fun l4 =>
    (slices_Contains_string_string l4 ([] : Str)).bind fun v5 =>
    Q_CellsRead_1x_j1 p1x0 v1 v5

noncomputable def Q_Lines_f1x_Q_CellsRead_1x_j1 (n8 : Int) (v9 : Str × Str × Bool) (l11 : List Cell) (c12 : Bool) : Option (((List Cell) × Str × Int) ⊕ (Int × Bool × (List Cell))) :=
  if c12 = true then
    Option.map .inr (some (n8, false, l11))
  else
    some (.inl (l11, v9.2.1, w64 (n8 + (1 : Int))))

noncomputable def Q_Lines_f1x_Q_CellsRead_1x_b1 (l6 : List Cell) (q7 : Str) (n8 : Int) : Option (((List Cell) × Str × Int) ⊕ (Int × Bool × (List Cell))) :=
  if q7 ≠ ([] : Str) then
    (cutO q7 ([10] : Str)).bind fun v9 =>
    if (!v9.2.2) = true then
      Q_Lines_f1x_Q_CellsRead_1x_j1 n8 v9 l6 true
    else
      (Q_CellsRead_1x v9.1 l6).bind fun v13 =>
      Q_Lines_f1x_Q_CellsRead_1x_j1 n8 v9 v13.2 (!v13.1)
  else
    Option.map .inr (some ((0 : Int), true, l6))

noncomputable def Q_Lines_f1x_Q_CellsRead_1x_l1 (l6 : List Cell) (q7 : Str) (n8 : Int) : Option (Int × Bool × (List Cell)) :=
  iter (fun x : (List Cell) × Str × Int => Q_Lines_f1x_Q_CellsRead_1x_b1 x.1 x.2.1 x.2.2) (l6, q7, n8)

noncomputable def Q_Lines_f1x_Q_CellsRead_1x (p0x0 : Str) (p2x0 : List Cell) : Option (Int × Bool × (List Cell)) :=
  Q_Lines_f1x_Q_CellsRead_1x_l1 p2x0 p0x0 (0 : Int)

noncomputable def Q_CellsRead (p0x0 : Str) : Option ((List Cell) × Int × Int) :=
  if (200000 : Int) < (p0x0.length : Int) then
    some ([], (0 : Int), (2 : Int))
  else
    (Q_Lines_f1x_Q_CellsRead_1x p0x0 []).bind fun v3 =>
    if (!v3.2.1) = true then
      some ([], v3.1, (9 : Int))
    else
      (Q_CellsFault v3.2.2).bind fun v7 =>
      if v7 ≠ (0 : Int) then
        some ([], (0 : Int), v7)
      else
        some (v3.2.2, (0 : Int), (0 : Int))

noncomputable def slices_Equal_Cell_Cell_b1 (p0x0 : List Cell) (p1x0 : List Cell) (n2 : Int) : Option (Int ⊕ Bool) :=
  if n2 < (p0x0.length : Int) then
    (idx p0x0 n2).bind fun v3 =>
    (idx p1x0 n2).bind fun v4 =>
    if v3 ≠ v4 then
      Option.map .inr (some false)
    else
      some (.inl (w64 (n2 + (1 : Int))))
  else
    Option.map .inr (some true)

noncomputable def slices_Equal_Cell_Cell_l1 (p0x0 : List Cell) (p1x0 : List Cell) (n2 : Int) : Option Bool :=
  iter (fun x : Int => slices_Equal_Cell_Cell_b1 p0x0 p1x0 x) n2

noncomputable def slices_Equal_Cell_Cell (p0x0 : List Cell) (p1x0 : List Cell) : Option Bool :=
  if (p0x0.length : Int) ≠ (p1x0.length : Int) then
    some false
  else
    slices_Equal_Cell_Cell_l1 p0x0 p1x0 (0 : Int)

noncomputable def twin_find_1x (p0x0 : PropS) (p1x0 : Str) : Int :=
  (Lib.compareBytes p0x0.Name p1x0)

noncomputable def slices_BinarySearchFunc_Prop_Prop_string_j1 (n7 : Int) (n8 : Int) : Option ((Int × Int) ⊕ (Int × Bool)) :=
  some (.inl (n7, n8))

noncomputable def slices_BinarySearchFunc_Prop_Prop_string_j2 (n3 : Int) (c9 : Bool) : Option (Int × Bool) :=
  some (n3, c9)

noncomputable def slices_BinarySearchFunc_Prop_Prop_string_k3 (p0x0 : List PropS) (p1x0 : Str) (fnc : PropS → Str → Option Int) (n3 : Int) : Option (Int × Bool) :=
  if n3 < (p0x0.length : Int) then
    (idx p0x0 n3).bind fun v10 =>
    (fnc v10 p1x0).bind fun v11 =>
    slices_BinarySearchFunc_Prop_Prop_string_j2 n3 (decide (v11 = (0 : Int)))
  else
    slices_BinarySearchFunc_Prop_Prop_string_j2 n3 false

noncomputable def slices_BinarySearchFunc_Prop_Prop_string_b1 (p0x0 : List PropS) (p1x0 : Str) (fnc : PropS → Str → Option Int) (n3 : Int) (n4 : Int) : Option ((Int × Int) ⊕ (Int × Bool)) :=
  if n3 < n4 then
    (idx p0x0 (w64 (shrI .u64 (IntKind.u64.wrap (w64 (n3 + n4))) (1 : Int)))).bind fun v5 =>
    (fnc v5 p1x0).bind fun v6 =>
    if v6 < (0 : Int) then
      slices_BinarySearchFunc_Prop_Prop_string_j1 (w64 ((w64 (shrI .u64 (IntKind.u64.wrap (w64 (n3 + n4))) (1 : Int))) + (1 : Int))) n4
    else
      slices_BinarySearchFunc_Prop_Prop_string_j1 n3 (w64 (shrI .u64 (IntKind.u64.wrap (w64 (n3 + n4))) (1 : Int)))
  else
    Option.map .inr (slices_BinarySearchFunc_Prop_Prop_string_k3 p0x0 p1x0 fnc n3)

noncomputable def slices_BinarySearchFunc_Prop_Prop_string_l1 (p0x0 : List PropS) (p1x0 : Str) (fnc : PropS → Str → Option Int) (n3 : Int) (n4 : Int) : Option (Int × Bool) :=
  iter (fun x : Int × Int => slices_BinarySearchFunc_Prop_Prop_string_b1 p0x0 p1x0 fnc x.1 x.2) (n3, n4)

noncomputable def slices_BinarySearchFunc_Prop_Prop_string (p0x0 : List PropS) (p1x0 : Str) (fnc : PropS → Str → Option Int) : Option (Int × Bool) :=
  slices_BinarySearchFunc_Prop_Prop_string_l1 p0x0 p1x0 fnc (0 : Int) (p0x0.length : Int)

noncomputable def twin_find (p0x0 : List PropS) (p1x0 : Str) : Option Int :=
  (slices_BinarySearchFunc_Prop_Prop_string p0x0 p1x0 (fun y0 y1 => some (twin_find_1x y0 y1))).bind fun v1 =>
  if (!v1.2) = true then
    some (-1 : Int)
  else
    some v1.1

noncomputable def twin_CheckProps_1x (p0x0 : Str) (p1x0 : List PropS) : Option Bool :=
  (twin_find p1x0 p0x0).bind fun v1 =>
  some (decide ((0 : Int) ≤ v1))

noncomputable def twin_above_j1 (n2 : Int) (c3 : Bool) : Option (Int ⊕ Bool) :=
  if c3 = true then
    Option.map .inr (some true)
  else
    some (.inl (w64 (n2 + (1 : Int))))

noncomputable def twin_above_b1 (p0x0 : Str) (fnb : Str → Option Bool) (n2 : Int) : Option (Int ⊕ Bool) :=
  if n2 < (p0x0.length : Int) then
    (idx p0x0 n2).bind fun c4 =>
    if (c4.toNat : Int) = (46 : Int) then
      (slc p0x0 (0 : Int) n2).bind fun l5 =>
      (fnb l5).bind fun v6 =>
      twin_above_j1 n2 v6
    else
      twin_above_j1 n2 false
  else
    Option.map .inr (some false)

noncomputable def twin_above_l1 (p0x0 : Str) (fnb : Str → Option Bool) (n2 : Int) : Option Bool :=
  iter (fun x : Int => twin_above_b1 p0x0 fnb x) n2

noncomputable def twin_above (p0x0 : Str) (fnb : Str → Option Bool) : Option Bool :=
  twin_above_l1 p0x0 fnb (0 : Int)

noncomputable def twin_CheckProps_j1 (n3 : Int) (c8 : Bool) : Option (Int ⊕ Int) :=
  if c8 = true then
    Option.map .inr (some (7 : Int))
  else
    some (.inl (w64 (n3 + (1 : Int))))

noncomputable def twin_CheckProps_b2 (p0x0 : List PropS) (n11 : Int) : Option (Int ⊕ Int) :=
  if n11 < (p0x0.length : Int) then
    (idx p0x0 n11).bind fun v12 =>
    (twin_above v12.Name (fun y0 => twin_CheckProps_1x y0 p0x0)).bind fun v14 =>
    if v14 = true then
      Option.map .inr (some (13 : Int))
    else
      some (.inl (w64 (n11 + (1 : Int))))
  else
    Option.map .inr (some (0 : Int))

noncomputable def twin_CheckProps_l2 (p0x0 : List PropS) (n11 : Int) : Option Int :=
  iter (fun x : Int => twin_CheckProps_b2 p0x0 x) n11

noncomputable def twin_CheckProps_b1 (p0x0 : List PropS) (n3 : Int) : Option (Int ⊕ Int) :=
  if n3 < (p0x0.length : Int) then
    (idx p0x0 n3).bind fun v4 =>
    (twin_isName v4.Name).bind fun v6 =>
    if (!v6) = true then
      Option.map .inr (some (5 : Int))
    else
      (twin_valueFault v4.Value).bind fun v7 =>
      if v7 ≠ (0 : Int) then
        Option.map .inr (some v7)
      else
        if v4.Value.Kind = (0 : Int) then
          Option.map .inr (some (4 : Int))
        else
          if (0 : Int) < n3 then
            (idx p0x0 (w64 (n3 - (1 : Int)))).bind fun v9 =>
            twin_CheckProps_j1 n3 (Op.bytesLess v4.Name v9.Name || v4.Name == v9.Name)
          else
            twin_CheckProps_j1 n3 false
  else
    Option.map .inr (twin_CheckProps_l2 p0x0 (0 : Int))

noncomputable def twin_CheckProps_l1 (p0x0 : List PropS) (n3 : Int) : Option Int :=
  iter (fun x : Int => twin_CheckProps_b1 p0x0 x) n3

noncomputable def twin_CheckProps (p0x0 : List PropS) : Option Int :=
  if (500 : Int) < (p0x0.length : Int) then
    some (2 : Int)
  else
    twin_CheckProps_l1 p0x0 (0 : Int)

/-- Sorted by Go. -/
noncomputable def slices_Sort_string_string (p0x0 : List Str) : Option (List Str) :=
  sort1 srtS p0x0

noncomputable def slices_Compact_string_string_j1 (n11 : Int) (l14 : List Str) (n15 : Int) : Option (((List Str) × Int × Int) ⊕ (Int ⊕ (List Str))) :=
  some (.inl (l14, n15, w64 (n11 + (1 : Int))))

noncomputable def slices_Compact_string_string_k2 (l9 : List Str) (n10 : Int) : Option (Int ⊕ (List Str)) :=
  (slc l9 n10 (l9.length : Int)).bind fun l18 =>
  (slc (clr l9 n10 l18.length []) (0 : Int) n10).bind fun l19 =>
  Option.map .inr (some l19)

noncomputable def slices_Compact_string_string_b2 (n2 : Int) (l5 : List Str) (l9 : List Str) (n10 : Int) (n11 : Int) : Option (((List Str) × Int × Int) ⊕ (Int ⊕ (List Str))) :=
  if n11 < (l5.length : Int) then
    (idxS l9 n2 l5.length n11).bind fun v12 =>
    (idxS l9 n2 l5.length (w64 (n11 - (1 : Int)))).bind fun v13 =>
    if v12 ≠ v13 then
      (idxS l9 n2 l5.length n11).bind fun v16 =>
      (idx l9 n10).bind fun v17 =>
      slices_Compact_string_string_j1 n11 (l9.set n10.toNat v16) (w64 (n10 + (1 : Int)))
    else
      slices_Compact_string_string_j1 n11 l9 n10
  else
    Option.map .inr (slices_Compact_string_string_k2 l9 n10)

noncomputable def slices_Compact_string_string_l2 (n2 : Int) (l5 : List Str) (l9 : List Str) (n10 : Int) (n11 : Int) : Option (Int ⊕ (List Str)) :=
  iter (fun x : (List Str) × Int × Int => slices_Compact_string_string_b2 n2 l5 x.1 x.2.1 x.2.2) (l9, n10, n11)

noncomputable def slices_Compact_string_string_b1 (p0x0 : List Str) (n2 : Int) : Option (Int ⊕ (List Str)) :=
  if n2 < (p0x0.length : Int) then
    (idx p0x0 n2).bind fun v3 =>
    (idx p0x0 (w64 (n2 - (1 : Int)))).bind fun v4 =>
    if v3 = v4 then
      (slc p0x0 n2 (p0x0.length : Int)).bind fun l5 =>
      slices_Compact_string_string_l2 n2 l5 p0x0 n2 (1 : Int)
    else
      some (.inl (w64 (n2 + (1 : Int))))
  else
    Option.map .inr (some p0x0)

noncomputable def slices_Compact_string_string_l1 (p0x0 : List Str) (n2 : Int) : Option (List Str) :=
  iter (fun x : Int => slices_Compact_string_string_b1 p0x0 x) n2

noncomputable def slices_Compact_string_string (p0x0 : List Str) : Option (List Str) :=
  if (p0x0.length : Int) < (2 : Int) then
    some p0x0
  else
    slices_Compact_string_string_l1 p0x0 (1 : Int)

noncomputable def twin_names_b2 (n6 : Int) (v8 : List PropS) (l13 : List Str) (n14 : Int) : Option (((List Str) × Int) ⊕ (((List Str) × Int) ⊕ (List Str))) :=
  if n14 < (v8.length : Int) then
    (idx v8 n14).bind fun v15 =>
    (app l13 [v15.Name]).bind fun l17 =>
    some (.inl (l17, w64 (n14 + (1 : Int))))
  else
    Option.map .inr (some (.inl (l13, w64 (n6 + (1 : Int)))))

noncomputable def twin_names_l2 (n6 : Int) (v8 : List PropS) (l13 : List Str) (n14 : Int) : Option (((List Str) × Int) ⊕ (List Str)) :=
  iter (fun x : (List Str) × Int => twin_names_b2 n6 v8 x.1 x.2) (l13, n14)

noncomputable def twin_names_k1 (l5 : List Str) : Option (List Str) :=
  (lenOk l5.length (fun r : (List Str) => r.length) (slices_Sort_string_string l5)).bind fun v19 =>
  (slices_Compact_string_string v19).bind fun v20 =>
  some v20

noncomputable def twin_names_b1 (p0x0 : List (List PropS)) (l5 : List Str) (n6 : Int) : Option (((List Str) × Int) ⊕ (List Str)) :=
  if n6 < (p0x0.length : Int) then
    (idx p0x0 n6).bind fun v8 =>
    twin_names_l2 n6 v8 l5 (0 : Int)
  else
    Option.map .inr (twin_names_k1 l5)

noncomputable def twin_names_l1 (p0x0 : List (List PropS)) (l5 : List Str) (n6 : Int) : Option (List Str) :=
  iter (fun x : (List Str) × Int => twin_names_b1 p0x0 x.1 x.2) (l5, n6)

noncomputable def twin_names (p0x0 : List (List PropS)) : Option (List Str) :=
  twin_names_l1 p0x0 [] (0 : Int)

noncomputable def twin_valueOf (p0x0 : List PropS) (p1x0 : Str) : Option ValueS :=
  (twin_find p0x0 p1x0).bind fun v2 =>
  if (0 : Int) ≤ v2 then
    (idx p0x0 v2).bind fun v3 =>
    some v3.Value
  else
    some (⟨(0 : Int), false, (0 : Int), []⟩ : ValueS)

noncomputable def twin_Differ_j1 (n12 : Int) (l20 : List Change) : Option (((List Change) × Int) ⊕ ((List Change) × Int)) :=
  some (.inl (l20, w64 (n12 + (1 : Int))))

noncomputable def twin_Differ_b1 (p0x0 : List PropS) (p1x0 : List PropS) (v5 : (List Str)) (l11 : List Change) (n12 : Int) : Option (((List Change) × Int) ⊕ ((List Change) × Int)) :=
  if n12 < (v5.length : Int) then
    (idx v5 n12).bind fun v14 =>
    (twin_valueOf p0x0 v14).bind fun v15 =>
    (twin_valueOf p1x0 v14).bind fun v16 =>
    if v15 ≠ v16 then
      (app l11 [(⟨v14, v15, v16⟩ : Change)]).bind fun l21 =>
      twin_Differ_j1 n12 l21
    else
      twin_Differ_j1 n12 l11
  else
    Option.map .inr (some (l11, (0 : Int)))

noncomputable def twin_Differ_l1 (p0x0 : List PropS) (p1x0 : List PropS) (v5 : (List Str)) (l11 : List Change) (n12 : Int) : Option ((List Change) × Int) :=
  iter (fun x : (List Change) × Int => twin_Differ_b1 p0x0 p1x0 v5 x.1 x.2) (l11, n12)

noncomputable def twin_Differ (p0x0 : List PropS) (p1x0 : List PropS) : Option ((List Change) × Int) :=
  (twin_CheckProps p0x0).bind fun v1 =>
  (twin_CheckProps p1x0).bind fun v2 =>
  (base_First [v1, v2]).bind fun v3 =>
  if v3 ≠ (0 : Int) then
    some ([], v3)
  else
    (twin_names [p0x0, p1x0]).bind fun v5 =>
    twin_Differ_l1 p0x0 p1x0 v5 [] (0 : Int)

noncomputable def L_twinned_j1 (c3 : Bool) : Option Bool :=
  some c3

noncomputable def L_twinned : Option Bool :=
  (twin_Differ ([] : List PropS) [(⟨([97] : Str), (⟨(1 : Int), false, (0 : Int), []⟩ : ValueS)⟩ : PropS)]).bind fun v1 =>
  if v1.2 = (0 : Int) then
    if (v1.1.length : Int) = (1 : Int) then
      (idx v1.1 (0 : Int)).bind fun v4 =>
      L_twinned_j1 (decide (v4.Name = ([97] : Str)))
    else
      L_twinned_j1 false
  else
    L_twinned_j1 false

noncomputable def L_CellTexts_j2 (c13 : Bool) : Option Bool :=
  some c13

noncomputable def L_CellTexts_j1 (v4 : Str × Fleetmake_Stream) (v5 : Str × Int) (v6 : Int) (q7 : Str) : Option Bool :=
  (twin_Read v4.1).bind fun v9 =>
  (Q_CellsRead v4.1).bind fun v11 =>
  if v5.2 = v6 then
    if v5.1 = q7 then
      (slices_Equal_Cell_Cell v9.1 v11.1).bind fun v14 =>
      if v14 = true then
        if v9.2.1 = v11.2.1 then
          if v9.2.2 = v11.2.2 then
            (L_twinned).bind fun v15 =>
            L_CellTexts_j2 v15
          else
            L_CellTexts_j2 false
        else
          L_CellTexts_j2 false
      else
        L_CellTexts_j2 false
    else
      L_CellTexts_j2 false
  else
    L_CellTexts_j2 false

noncomputable def L_CellTexts (p0x0 : List Int) : Option Bool :=
  (Stream_Cells (⟨p0x0, (0 : Int)⟩ : Fleetmake_Stream)).bind fun v2 =>
  (Stream_CellText v2.2).bind fun v4 =>
  (twin_Text v2.1).bind fun v5 =>
  (Q_CellsFault v2.1).bind fun v6 =>
  if v6 = (0 : Int) then
    (Q_CellLines v2.1).bind fun v8 =>
    L_CellTexts_j1 v4 v5 v6 v8
  else
    L_CellTexts_j1 v4 v5 v6 ([] : Str)

end Go.Beacon

