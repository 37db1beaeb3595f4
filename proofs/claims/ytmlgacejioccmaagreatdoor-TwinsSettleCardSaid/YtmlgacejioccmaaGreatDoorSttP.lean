/- Plain functions that the Go functions compute, written by shal.py. -/
import Derived.Test.YtmlgacejioccmaaGreatDoorCore
set_option linter.unusedVariables false
namespace Go.Beacon
open Go Go.Eng
structure Fleetmake_Stream where
  L : List Int
  at_ : Int
deriving DecidableEq, Inhabited
def Fleetmake_Stream.av (x : Fleetmake_Stream) : AV := .agg [.list 1 (x.L.map I), I x.at_]

structure ValueS where
  Kind : Int
  Flag : Bool
  Number : Int
  Words : Str
deriving DecidableEq, Inhabited
def ValueS.av (x : ValueS) : AV := .agg [I x.Kind, .bool x.Flag, I x.Number, .str x.Words]

structure PropS where
  Name : Str
  Value : ValueS
deriving DecidableEq, Inhabited
def PropS.av (x : PropS) : AV := .agg [.str x.Name, I x.Value.Kind, .bool x.Value.Flag, I x.Value.Number, .str x.Value.Words]

structure Stamp where
  At : Int
  By : Str
  No : Int
deriving DecidableEq, Inhabited
def Stamp.av (x : Stamp) : AV := .agg [I x.At, .str x.By, I x.No]

structure Cell where
  Prop_ : PropS
  Stamp : Stamp
deriving DecidableEq, Inhabited
def Cell.av (x : Cell) : AV := .agg [.str x.Prop_.Name, I x.Prop_.Value.Kind, .bool x.Prop_.Value.Flag, I x.Prop_.Value.Number, .str x.Prop_.Value.Words, I x.Stamp.At, .str x.Stamp.By, I x.Stamp.No]

structure TwinS where
  Desired : List Cell
  Reported : List Cell
deriving DecidableEq, Inhabited
def TwinS.av (x : TwinS) : AV := .agg [.list 8 (x.Desired.map Cell.av), .list 8 (x.Reported.map Cell.av)]

structure Change where
  Name : Str
  From : ValueS
  To : ValueS
deriving DecidableEq, Inhabited
def Change.av (x : Change) : AV := .agg [.str x.Name, I x.From.Kind, .bool x.From.Flag, I x.From.Number, .str x.From.Words, I x.To.Kind, .bool x.To.Flag, I x.To.Number, .str x.To.Words]

noncomputable def Below_j1 (n2 : Int) : Option Int :=
  some n2

noncomputable def Below (p0x0 : Int) (p1x0 : Int) : Option Int :=
  if p1x0 < (1 : Int) then
    some (0 : Int)
  else
    (rem p0x0 p1x0).bind fun n1 =>
    if n1 < (0 : Int) then
      Below_j1 (w64 (n1 + p1x0))
    else
      Below_j1 n1

noncomputable def Stream_Next (p0x0 : Fleetmake_Stream) (p1x0 : Int) : Option (Int × Fleetmake_Stream) :=
  if (p0x0.L.length : Int) = (0 : Int) then
    (Below (w64 ((w64 (p0x0.at_ + (1 : Int))) * (7919 : Int))) p1x0).bind fun v1 =>
    some (v1, (⟨p0x0.L, w64 (p0x0.at_ + (1 : Int))⟩ : Fleetmake_Stream))
  else
    (rem (w64 ((w64 (p0x0.at_ + (1 : Int))) - (1 : Int))) (p0x0.L.length : Int)).bind fun n2 =>
    (quo (w64 ((w64 (p0x0.at_ + (1 : Int))) - (1 : Int))) (p0x0.L.length : Int)).bind fun n3 =>
    (idx p0x0.L n2).bind fun v4 =>
    (Below v4 (1073741824 : Int)).bind fun v5 =>
    (Below (w64 (v5 + (w64 (n3 * (w64 ((7919 : Int) + n2)))))) p1x0).bind fun v6 =>
    some (v6, (⟨p0x0.L, w64 (p0x0.at_ + (1 : Int))⟩ : Fleetmake_Stream))

noncomputable def Stream_Range (p0x0 : Fleetmake_Stream) (p1x0 : Int) (p2x0 : Int) : Option (Int × Fleetmake_Stream) :=
  if p2x0 < p1x0 then
    some (p1x0, p0x0)
  else
    (Stream_Next p0x0 (w64 ((w64 (p2x0 - p1x0)) + (1 : Int)))).bind fun v1 =>
    some (w64 (p1x0 + v1.1), v1.2)

noncomputable def Stream_Some (p0x0 : Fleetmake_Stream) (p1x0 : List Str) : Option (Str × Fleetmake_Stream) :=
  (Stream_Next p0x0 (p1x0.length : Int)).bind fun v1 =>
  (idx p1x0 v1.1).bind fun v2 =>
  some (v2, v1.2)

noncomputable def Stream_Flip (p0x0 : Fleetmake_Stream) (p1x0 : Int) : Option (Bool × Fleetmake_Stream) :=
  (Stream_Next p0x0 p1x0).bind fun v1 =>
  some (decide (v1.1 = (0 : Int)), v1.2)

noncomputable def Stream_Pick (p0x0 : Fleetmake_Stream) (p1x0 : List Int) : Option (Int × Fleetmake_Stream) :=
  (Stream_Next p0x0 (p1x0.length : Int)).bind fun v1 =>
  (idx p1x0 v1.1).bind fun v2 =>
  some (v2, v1.2)

noncomputable def Stream_RightValue (p0x0 : Fleetmake_Stream) : Option (ValueS × Fleetmake_Stream) :=
  (Stream_Next p0x0 (4 : Int)).bind fun v2 =>
  if v2.1 = (0 : Int) then
    (Stream_Flip v2.2 (2 : Int)).bind fun v3 =>
    some ((⟨(1 : Int), v3.1, (0 : Int), []⟩ : ValueS), v3.2)
  else
    if v2.1 = (1 : Int) then
      (Stream_Some v2.2 [([] : Str), ([120] : Str), ([97, 32, 34, 98, 34] : Str), ([92] : Str), ([195, 169] : Str), ([45, 32, 49] : Str)]).bind fun v4 =>
      some ((⟨(3 : Int), false, (0 : Int), v4.1⟩ : ValueS), v4.2)
    else
      (Stream_Pick v2.2 [(1 : Int), (2 : Int), (2 : Int), (3 : Int), (0 : Int), (-5 : Int), (1000000000 : Int)]).bind fun v5 =>
      some ((⟨(2 : Int), false, v5.1, []⟩ : ValueS), v5.2)

noncomputable def Stream_RightStamp (p0x0 : Fleetmake_Stream) : Option (Stamp × Fleetmake_Stream) :=
  (Stream_Range p0x0 (0 : Int) (9 : Int)).bind fun v2 =>
  (Stream_Some v2.2 [([104] : Str), ([104] : Str), ([107] : Str)]).bind fun v3 =>
  (Stream_Pick v3.2 [(0 : Int), (0 : Int), (1 : Int)]).bind fun v4 =>
  some ((⟨v2.1, v3.1, v4.1⟩ : Stamp), v4.2)

noncomputable def cellOrder (p0x0 : Cell) (p1x0 : Cell) : Int :=
  (Lib.compareBytes p0x0.Prop_.Name p1x0.Prop_.Name)

noncomputable def slices_insertionSortCmpFunc_Cell_j1 (n4 : Int) (l7 : List Cell) (n8 : Int) (c9 : Bool) : Option (((List Cell) × Int) ⊕ (((List Cell) × Int) ⊕ (List Cell))) :=
  if c9 = true then
    (idx l7 (w64 (n8 - (1 : Int)))).bind fun v13 =>
    (idx l7 n8).bind fun v14 =>
    (idx l7 n8).bind fun v15 =>
    (idx (l7.set n8.toNat v13) (w64 (n8 - (1 : Int)))).bind fun v16 =>
    some (.inl ((l7.set n8.toNat v13).set (w64 (n8 - (1 : Int))).toNat v14, w64 (n8 - (1 : Int))))
  else
    Option.map .inr (some (.inl (l7, w64 (n4 + (1 : Int)))))

noncomputable def slices_insertionSortCmpFunc_Cell_b2 (p1x0 : Int) (fnd : Cell → Cell → Option Int) (n4 : Int) (l7 : List Cell) (n8 : Int) : Option (((List Cell) × Int) ⊕ (((List Cell) × Int) ⊕ (List Cell))) :=
  if p1x0 < n8 then
    (idx l7 n8).bind fun v10 =>
    (idx l7 (w64 (n8 - (1 : Int)))).bind fun v11 =>
    (fnd v10 v11).bind fun v12 =>
    slices_insertionSortCmpFunc_Cell_j1 n4 l7 n8 (decide (v12 < (0 : Int)))
  else
    slices_insertionSortCmpFunc_Cell_j1 n4 l7 n8 false

noncomputable def slices_insertionSortCmpFunc_Cell_l2 (p1x0 : Int) (fnd : Cell → Cell → Option Int) (n4 : Int) (l7 : List Cell) (n8 : Int) : Option (((List Cell) × Int) ⊕ (List Cell)) :=
  iter (fun x : (List Cell) × Int => slices_insertionSortCmpFunc_Cell_b2 p1x0 fnd n4 x.1 x.2) (l7, n8)

noncomputable def slices_insertionSortCmpFunc_Cell_b1 (p1x0 : Int) (p2x0 : Int) (fnd : Cell → Cell → Option Int) (l3 : List Cell) (n4 : Int) : Option (((List Cell) × Int) ⊕ (List Cell)) :=
  if n4 < p2x0 then
    slices_insertionSortCmpFunc_Cell_l2 p1x0 fnd n4 l3 n4
  else
    Option.map .inr (some l3)

noncomputable def slices_insertionSortCmpFunc_Cell_l1 (p1x0 : Int) (p2x0 : Int) (fnd : Cell → Cell → Option Int) (l3 : List Cell) (n4 : Int) : Option (List Cell) :=
  iter (fun x : (List Cell) × Int => slices_insertionSortCmpFunc_Cell_b1 p1x0 p2x0 fnd x.1 x.2) (l3, n4)

noncomputable def slices_insertionSortCmpFunc_Cell (p0x0 : List Cell) (p1x0 : Int) (p2x0 : Int) (fnd : Cell → Cell → Option Int) : Option (List Cell) :=
  slices_insertionSortCmpFunc_Cell_l1 p1x0 p2x0 fnd p0x0 (w64 (p1x0 + (1 : Int)))

noncomputable def slices_swapRangeCmpFunc_Cell_b1 (p1x0 : Int) (p2x0 : Int) (p3x0 : Int) (l3 : List Cell) (n4 : Int) : Option (((List Cell) × Int) ⊕ (List Cell)) :=
  if n4 < p3x0 then
    (idx l3 (w64 (p2x0 + n4))).bind fun v5 =>
    (idx l3 (w64 (p1x0 + n4))).bind fun v6 =>
    (idx l3 (w64 (p1x0 + n4))).bind fun v7 =>
    (idx (l3.set (w64 (p1x0 + n4)).toNat v5) (w64 (p2x0 + n4))).bind fun v8 =>
    some (.inl ((l3.set (w64 (p1x0 + n4)).toNat v5).set (w64 (p2x0 + n4)).toNat v6, w64 (n4 + (1 : Int))))
  else
    Option.map .inr (some l3)

noncomputable def slices_swapRangeCmpFunc_Cell_l1 (p1x0 : Int) (p2x0 : Int) (p3x0 : Int) (l3 : List Cell) (n4 : Int) : Option (List Cell) :=
  iter (fun x : (List Cell) × Int => slices_swapRangeCmpFunc_Cell_b1 p1x0 p2x0 p3x0 x.1 x.2) (l3, n4)

noncomputable def slices_swapRangeCmpFunc_Cell (p0x0 : List Cell) (p1x0 : Int) (p2x0 : Int) (p3x0 : Int) (fne : Cell → Cell → Option Int) : Option (List Cell) :=
  slices_swapRangeCmpFunc_Cell_l1 p1x0 p2x0 p3x0 p0x0 (0 : Int)

noncomputable def slices_rotateCmpFunc_Cell_j1 (l7 : List Cell) (n8 : Int) (n9 : Int) : Option (((List Cell) × Int × Int) ⊕ (List Cell)) :=
  some (.inl (l7, n8, n9))

noncomputable def slices_rotateCmpFunc_Cell_k2 (p2x0 : Int) (fne : Cell → Cell → Option Int) (l4 : List Cell) (n5 : Int) : Option (List Cell) :=
  (lenOk l4.length (fun r : (List Cell) => r.length) (slices_swapRangeCmpFunc_Cell l4 (w64 (p2x0 - n5)) p2x0 n5 fne)).bind fun v12 =>
  some v12

noncomputable def slices_rotateCmpFunc_Cell_b1 (p2x0 : Int) (fne : Cell → Cell → Option Int) (l4 : List Cell) (n5 : Int) (n6 : Int) : Option (((List Cell) × Int × Int) ⊕ (List Cell)) :=
  if n5 ≠ n6 then
    if n6 < n5 then
      (lenOk l4.length (fun r : (List Cell) => r.length) (slices_swapRangeCmpFunc_Cell l4 (w64 (p2x0 - n5)) p2x0 n6 fne)).bind fun v10 =>
      slices_rotateCmpFunc_Cell_j1 v10 (w64 (n5 - n6)) n6
    else
      (lenOk l4.length (fun r : (List Cell) => r.length) (slices_swapRangeCmpFunc_Cell l4 (w64 (p2x0 - n5)) (w64 ((w64 (p2x0 + n6)) - n5)) n5 fne)).bind fun v11 =>
      slices_rotateCmpFunc_Cell_j1 v11 n5 (w64 (n6 - n5))
  else
    Option.map .inr (slices_rotateCmpFunc_Cell_k2 p2x0 fne l4 n5)

noncomputable def slices_rotateCmpFunc_Cell_l1 (p2x0 : Int) (fne : Cell → Cell → Option Int) (l4 : List Cell) (n5 : Int) (n6 : Int) : Option (List Cell) :=
  iter (fun x : (List Cell) × Int × Int => slices_rotateCmpFunc_Cell_b1 p2x0 fne x.1 x.2.1 x.2.2) (l4, n5, n6)

noncomputable def slices_rotateCmpFunc_Cell (p0x0 : List Cell) (p1x0 : Int) (p2x0 : Int) (p3x0 : Int) (fne : Cell → Cell → Option Int) : Option (List Cell) :=
  slices_rotateCmpFunc_Cell_l1 p2x0 fne p0x0 (w64 (p2x0 - p1x0)) (w64 (p3x0 - p2x0))

noncomputable def slices_symMergeCmpFunc_Cell_j1 (n8 : Int) (n9 : Int) : Option ((Int × Int) ⊕ (List Cell)) :=
  some (.inl (n8, n9))

noncomputable def slices_symMergeCmpFunc_Cell_b2 (n3 : Int) (l12 : List Cell) (n13 : Int) : Option (((List Cell) × Int) ⊕ (List Cell)) :=
  if n13 < (w64 (n3 - (1 : Int))) then
    (idx l12 (w64 (n13 + (1 : Int)))).bind fun v14 =>
    (idx l12 n13).bind fun v15 =>
    (idx l12 n13).bind fun v16 =>
    (idx (l12.set n13.toNat v14) (w64 (n13 + (1 : Int)))).bind fun v17 =>
    some (.inl ((l12.set n13.toNat v14).set (w64 (n13 + (1 : Int))).toNat v15, w64 (n13 + (1 : Int))))
  else
    Option.map .inr (some l12)

noncomputable def slices_symMergeCmpFunc_Cell_l2 (n3 : Int) (l12 : List Cell) (n13 : Int) : Option (List Cell) :=
  iter (fun x : (List Cell) × Int => slices_symMergeCmpFunc_Cell_b2 n3 x.1 x.2) (l12, n13)

noncomputable def slices_symMergeCmpFunc_Cell_b1 (p0x0 : List Cell) (p1x0 : Int) (fne : Cell → Cell → Option Int) (n3 : Int) (n4 : Int) : Option ((Int × Int) ⊕ (List Cell)) :=
  if n3 < n4 then
    (idx p0x0 (w64 (shrI .u64 (IntKind.u64.wrap (w64 (n3 + n4))) (1 : Int)))).bind fun v5 =>
    (idx p0x0 p1x0).bind fun v6 =>
    (fne v5 v6).bind fun v7 =>
    if v7 < (0 : Int) then
      slices_symMergeCmpFunc_Cell_j1 (w64 ((w64 (shrI .u64 (IntKind.u64.wrap (w64 (n3 + n4))) (1 : Int))) + (1 : Int))) n4
    else
      slices_symMergeCmpFunc_Cell_j1 n3 (w64 (shrI .u64 (IntKind.u64.wrap (w64 (n3 + n4))) (1 : Int)))
  else
    Option.map .inr (slices_symMergeCmpFunc_Cell_l2 n3 p0x0 p1x0)

noncomputable def slices_symMergeCmpFunc_Cell_l1 (p0x0 : List Cell) (p1x0 : Int) (fne : Cell → Cell → Option Int) (n3 : Int) (n4 : Int) : Option (List Cell) :=
  iter (fun x : Int × Int => slices_symMergeCmpFunc_Cell_b1 p0x0 p1x0 fne x.1 x.2) (n3, n4)

noncomputable def slices_symMergeCmpFunc_Cell_j2 (n25 : Int) (n26 : Int) : Option ((Int × Int) ⊕ (List Cell)) :=
  some (.inl (n25, n26))

noncomputable def slices_symMergeCmpFunc_Cell_b4 (n20 : Int) (l29 : List Cell) (n30 : Int) : Option (((List Cell) × Int) ⊕ (List Cell)) :=
  if n20 < n30 then
    (idx l29 (w64 (n30 - (1 : Int)))).bind fun v31 =>
    (idx l29 n30).bind fun v32 =>
    (idx l29 n30).bind fun v33 =>
    (idx (l29.set n30.toNat v31) (w64 (n30 - (1 : Int)))).bind fun v34 =>
    some (.inl ((l29.set n30.toNat v31).set (w64 (n30 - (1 : Int))).toNat v32, w64 (n30 - (1 : Int))))
  else
    Option.map .inr (some l29)

noncomputable def slices_symMergeCmpFunc_Cell_l4 (n20 : Int) (l29 : List Cell) (n30 : Int) : Option (List Cell) :=
  iter (fun x : (List Cell) × Int => slices_symMergeCmpFunc_Cell_b4 n20 x.1 x.2) (l29, n30)

noncomputable def slices_symMergeCmpFunc_Cell_b3 (p0x0 : List Cell) (p2x0 : Int) (fne : Cell → Cell → Option Int) (n20 : Int) (n21 : Int) : Option ((Int × Int) ⊕ (List Cell)) :=
  if n20 < n21 then
    (idx p0x0 p2x0).bind fun v22 =>
    (idx p0x0 (w64 (shrI .u64 (IntKind.u64.wrap (w64 (n20 + n21))) (1 : Int)))).bind fun v23 =>
    (fne v22 v23).bind fun v24 =>
    if ¬ (v24 < (0 : Int)) then
      slices_symMergeCmpFunc_Cell_j2 (w64 ((w64 (shrI .u64 (IntKind.u64.wrap (w64 (n20 + n21))) (1 : Int))) + (1 : Int))) n21
    else
      slices_symMergeCmpFunc_Cell_j2 n20 (w64 (shrI .u64 (IntKind.u64.wrap (w64 (n20 + n21))) (1 : Int)))
  else
    Option.map .inr (slices_symMergeCmpFunc_Cell_l4 n20 p0x0 p2x0)

noncomputable def slices_symMergeCmpFunc_Cell_l3 (p0x0 : List Cell) (p2x0 : Int) (fne : Cell → Cell → Option Int) (n20 : Int) (n21 : Int) : Option (List Cell) :=
  iter (fun x : Int × Int => slices_symMergeCmpFunc_Cell_b3 p0x0 p2x0 fne x.1 x.2) (n20, n21)

noncomputable def slices_symMergeCmpFunc_Cell_j4 (n44 : Int) (n45 : Int) : Option ((Int × Int) ⊕ (List Cell)) :=
  some (.inl (n44, n45))

noncomputable def slices_symMergeCmpFunc_Cell_j10 (l53 : List Cell) : Option (List Cell) :=
  some l53

noncomputable def slices_symMergeCmpFunc_Cell_j9 (self : (List Cell) → Int → Int → Int → (Cell → Cell → Option Int) → Option (List Cell)) (p1x0 : Int) (p2x0 : Int) (p3x0 : Int) (fne : Cell → Cell → Option Int) (n39 : Int) (l50 : List Cell) (c52 : Bool) : Option (List Cell) :=
  if c52 = true then
    (lenOk l50.length (fun r : (List Cell) => r.length) (self l50 (w64 (shrI .u64 (IntKind.u64.wrap (w64 (p1x0 + p3x0))) (1 : Int))) (w64 ((w64 ((w64 (shrI .u64 (IntKind.u64.wrap (w64 (p1x0 + p3x0))) (1 : Int))) + p2x0)) - n39)) p3x0 fne)).bind fun v54 =>
    slices_symMergeCmpFunc_Cell_j10 v54
  else
    slices_symMergeCmpFunc_Cell_j10 l50

noncomputable def slices_symMergeCmpFunc_Cell_j8 (self : (List Cell) → Int → Int → Int → (Cell → Cell → Option Int) → Option (List Cell)) (p1x0 : Int) (p2x0 : Int) (p3x0 : Int) (fne : Cell → Cell → Option Int) (n39 : Int) (l50 : List Cell) : Option (List Cell) :=
  slices_symMergeCmpFunc_Cell_j9 self p1x0 p2x0 p3x0 fne n39 l50 ((decide ((w64 (shrI .u64 (IntKind.u64.wrap (w64 (p1x0 + p3x0))) (1 : Int))) < (w64 ((w64 ((w64 (shrI .u64 (IntKind.u64.wrap (w64 (p1x0 + p3x0))) (1 : Int))) + p2x0)) - n39)))) && (decide ((w64 ((w64 ((w64 (shrI .u64 (IntKind.u64.wrap (w64 (p1x0 + p3x0))) (1 : Int))) + p2x0)) - n39)) < p3x0)))

noncomputable def slices_symMergeCmpFunc_Cell_j7 (self : (List Cell) → Int → Int → Int → (Cell → Cell → Option Int) → Option (List Cell)) (p1x0 : Int) (p2x0 : Int) (p3x0 : Int) (fne : Cell → Cell → Option Int) (n39 : Int) (l47 : List Cell) (c49 : Bool) : Option (List Cell) :=
  if c49 = true then
    (lenOk l47.length (fun r : (List Cell) => r.length) (self l47 p1x0 n39 (w64 (shrI .u64 (IntKind.u64.wrap (w64 (p1x0 + p3x0))) (1 : Int))) fne)).bind fun v51 =>
    slices_symMergeCmpFunc_Cell_j8 self p1x0 p2x0 p3x0 fne n39 v51
  else
    slices_symMergeCmpFunc_Cell_j8 self p1x0 p2x0 p3x0 fne n39 l47

noncomputable def slices_symMergeCmpFunc_Cell_j6 (self : (List Cell) → Int → Int → Int → (Cell → Cell → Option Int) → Option (List Cell)) (p1x0 : Int) (p2x0 : Int) (p3x0 : Int) (fne : Cell → Cell → Option Int) (n39 : Int) (l47 : List Cell) : Option (List Cell) :=
  slices_symMergeCmpFunc_Cell_j7 self p1x0 p2x0 p3x0 fne n39 l47 ((decide (p1x0 < n39)) && (decide (n39 < (w64 (shrI .u64 (IntKind.u64.wrap (w64 (p1x0 + p3x0))) (1 : Int))))))

noncomputable def slices_symMergeCmpFunc_Cell_j5 (self : (List Cell) → Int → Int → Int → (Cell → Cell → Option Int) → Option (List Cell)) (p0x0 : List Cell) (p1x0 : Int) (p2x0 : Int) (p3x0 : Int) (fne : Cell → Cell → Option Int) (n39 : Int) (c46 : Bool) : Option (List Cell) :=
  if c46 = true then
    (lenOk p0x0.length (fun r : (List Cell) => r.length) (slices_rotateCmpFunc_Cell p0x0 n39 p2x0 (w64 ((w64 ((w64 (shrI .u64 (IntKind.u64.wrap (w64 (p1x0 + p3x0))) (1 : Int))) + p2x0)) - n39)) fne)).bind fun v48 =>
    slices_symMergeCmpFunc_Cell_j6 self p1x0 p2x0 p3x0 fne n39 v48
  else
    slices_symMergeCmpFunc_Cell_j6 self p1x0 p2x0 p3x0 fne n39 p0x0

noncomputable def slices_symMergeCmpFunc_Cell_b5 (self : (List Cell) → Int → Int → Int → (Cell → Cell → Option Int) → Option (List Cell)) (p0x0 : List Cell) (p1x0 : Int) (p2x0 : Int) (p3x0 : Int) (fne : Cell → Cell → Option Int) (n39 : Int) (n40 : Int) : Option ((Int × Int) ⊕ (List Cell)) :=
  if n39 < n40 then
    (idx p0x0 (w64 ((w64 ((w64 ((w64 (shrI .u64 (IntKind.u64.wrap (w64 (p1x0 + p3x0))) (1 : Int))) + p2x0)) - (1 : Int))) - (w64 (shrI .u64 (IntKind.u64.wrap (w64 (n39 + n40))) (1 : Int)))))).bind fun v41 =>
    (idx p0x0 (w64 (shrI .u64 (IntKind.u64.wrap (w64 (n39 + n40))) (1 : Int)))).bind fun v42 =>
    (fne v41 v42).bind fun v43 =>
    if ¬ (v43 < (0 : Int)) then
      slices_symMergeCmpFunc_Cell_j4 (w64 ((w64 (shrI .u64 (IntKind.u64.wrap (w64 (n39 + n40))) (1 : Int))) + (1 : Int))) n40
    else
      slices_symMergeCmpFunc_Cell_j4 n39 (w64 (shrI .u64 (IntKind.u64.wrap (w64 (n39 + n40))) (1 : Int)))
  else
    Option.map .inr (slices_symMergeCmpFunc_Cell_j5 self p0x0 p1x0 p2x0 p3x0 fne n39 ((decide (n39 < p2x0)) && (decide (p2x0 < (w64 ((w64 ((w64 (shrI .u64 (IntKind.u64.wrap (w64 (p1x0 + p3x0))) (1 : Int))) + p2x0)) - n39))))))

noncomputable def slices_symMergeCmpFunc_Cell_l5 (self : (List Cell) → Int → Int → Int → (Cell → Cell → Option Int) → Option (List Cell)) (p0x0 : List Cell) (p1x0 : Int) (p2x0 : Int) (p3x0 : Int) (fne : Cell → Cell → Option Int) (n39 : Int) (n40 : Int) : Option (List Cell) :=
  iter (fun x : Int × Int => slices_symMergeCmpFunc_Cell_b5 self p0x0 p1x0 p2x0 p3x0 fne x.1 x.2) (n39, n40)

noncomputable def slices_symMergeCmpFunc_Cell_j3 (self : (List Cell) → Int → Int → Int → (Cell → Cell → Option Int) → Option (List Cell)) (p0x0 : List Cell) (p1x0 : Int) (p2x0 : Int) (p3x0 : Int) (fne : Cell → Cell → Option Int) (n35 : Int) (n36 : Int) : Option (List Cell) :=
  slices_symMergeCmpFunc_Cell_l5 self p0x0 p1x0 p2x0 p3x0 fne n35 n36

noncomputable def slices_symMergeCmpFunc_Cell_bd (self : (List Cell) → Int → Int → Int → (Cell → Cell → Option Int) → Option (List Cell)) (p0x0 : List Cell) (p1x0 : Int) (p2x0 : Int) (p3x0 : Int) (fne : Cell → Cell → Option Int) : Option (List Cell) :=
  if (w64 (p2x0 - p1x0)) = (1 : Int) then
    slices_symMergeCmpFunc_Cell_l1 p0x0 p1x0 fne p2x0 p3x0
  else
    if (w64 (p3x0 - p2x0)) = (1 : Int) then
      slices_symMergeCmpFunc_Cell_l3 p0x0 p2x0 fne p1x0 p2x0
    else
      if (w64 (shrI .u64 (IntKind.u64.wrap (w64 (p1x0 + p3x0))) (1 : Int))) < p2x0 then
        slices_symMergeCmpFunc_Cell_j3 self p0x0 p1x0 p2x0 p3x0 fne (w64 ((w64 ((w64 (shrI .u64 (IntKind.u64.wrap (w64 (p1x0 + p3x0))) (1 : Int))) + p2x0)) - p3x0)) (w64 (shrI .u64 (IntKind.u64.wrap (w64 (p1x0 + p3x0))) (1 : Int)))
      else
        slices_symMergeCmpFunc_Cell_j3 self p0x0 p1x0 p2x0 p3x0 fne p1x0 p2x0

/-- The function, to some depth. -/
noncomputable def slices_symMergeCmpFunc_Cell_r : Nat → (List Cell) → Int → Int → Int → (Cell → Cell → Option Int) → Option (List Cell)
  | 0 => fun _ _ _ _ _ => none
  | k + 1 => slices_symMergeCmpFunc_Cell_bd (slices_symMergeCmpFunc_Cell_r k)

noncomputable def slices_symMergeCmpFunc_Cell (p0x0 : List Cell) (p1x0 : Int) (p2x0 : Int) (p3x0 : Int) (fne : Cell → Cell → Option Int) : Option (List Cell) :=
  slices_symMergeCmpFunc_Cell_r depth p0x0 p1x0 p2x0 p3x0 fne

noncomputable def slices_stableCmpFunc_Cell_j1 (n12 : Int) (l20 : List Cell) : Option (((List Cell) × Int) ⊕ (List Cell)) :=
  some (.inl (l20, w64 (n12 * (2 : Int))))

noncomputable def slices_stableCmpFunc_Cell_k2 (p1x0 : Int) (fnc : Cell → Cell → Option Int) (n12 : Int) (l16 : List Cell) (n17 : Int) : Option (((List Cell) × Int) ⊕ (List Cell)) :=
  if (w64 (n17 + n12)) < p1x0 then
    (lenOk l16.length (fun r : (List Cell) => r.length) (slices_symMergeCmpFunc_Cell l16 n17 (w64 (n17 + n12)) p1x0 fnc)).bind fun v21 =>
    slices_stableCmpFunc_Cell_j1 n12 v21
  else
    slices_stableCmpFunc_Cell_j1 n12 l16

noncomputable def slices_stableCmpFunc_Cell_b3 (p1x0 : Int) (fnc : Cell → Cell → Option Int) (n12 : Int) (l16 : List Cell) (n17 : Int) (n18 : Int) : Option (((List Cell) × Int × Int) ⊕ (((List Cell) × Int) ⊕ (List Cell))) :=
  if n18 ≤ p1x0 then
    (lenOk l16.length (fun r : (List Cell) => r.length) (slices_symMergeCmpFunc_Cell l16 n17 (w64 (n17 + n12)) n18 fnc)).bind fun v19 =>
    some (.inl (v19, n18, w64 (n18 + (w64 ((2 : Int) * n12)))))
  else
    Option.map .inr (slices_stableCmpFunc_Cell_k2 p1x0 fnc n12 l16 n17)

noncomputable def slices_stableCmpFunc_Cell_l3 (p1x0 : Int) (fnc : Cell → Cell → Option Int) (n12 : Int) (l16 : List Cell) (n17 : Int) (n18 : Int) : Option (((List Cell) × Int) ⊕ (List Cell)) :=
  iter (fun x : (List Cell) × Int × Int => slices_stableCmpFunc_Cell_b3 p1x0 fnc n12 x.1 x.2.1 x.2.2) (l16, n17, n18)

noncomputable def slices_stableCmpFunc_Cell_b2 (p1x0 : Int) (fnc : Cell → Cell → Option Int) (l11 : List Cell) (n12 : Int) : Option (((List Cell) × Int) ⊕ (List Cell)) :=
  if n12 < p1x0 then
    slices_stableCmpFunc_Cell_l3 p1x0 fnc n12 l11 (0 : Int) (w64 ((2 : Int) * n12))
  else
    Option.map .inr (some l11)

noncomputable def slices_stableCmpFunc_Cell_l2 (p1x0 : Int) (fnc : Cell → Cell → Option Int) (l11 : List Cell) (n12 : Int) : Option (List Cell) :=
  iter (fun x : (List Cell) × Int => slices_stableCmpFunc_Cell_b2 p1x0 fnc x.1 x.2) (l11, n12)

noncomputable def slices_stableCmpFunc_Cell_k3 (p1x0 : Int) (fnc : Cell → Cell → Option Int) (l4 : List Cell) (n5 : Int) : Option (List Cell) :=
  (lenOk l4.length (fun r : (List Cell) => r.length) (slices_insertionSortCmpFunc_Cell l4 n5 p1x0 fnc)).bind fun v8 =>
  slices_stableCmpFunc_Cell_l2 p1x0 fnc v8 (20 : Int)

noncomputable def slices_stableCmpFunc_Cell_b1 (p1x0 : Int) (fnc : Cell → Cell → Option Int) (l4 : List Cell) (n5 : Int) (n6 : Int) : Option (((List Cell) × Int × Int) ⊕ (List Cell)) :=
  if n6 ≤ p1x0 then
    (lenOk l4.length (fun r : (List Cell) => r.length) (slices_insertionSortCmpFunc_Cell l4 n5 n6 fnc)).bind fun v7 =>
    some (.inl (v7, n6, w64 (n6 + (20 : Int))))
  else
    Option.map .inr (slices_stableCmpFunc_Cell_k3 p1x0 fnc l4 n5)

noncomputable def slices_stableCmpFunc_Cell_l1 (p1x0 : Int) (fnc : Cell → Cell → Option Int) (l4 : List Cell) (n5 : Int) (n6 : Int) : Option (List Cell) :=
  iter (fun x : (List Cell) × Int × Int => slices_stableCmpFunc_Cell_b1 p1x0 fnc x.1 x.2.1 x.2.2) (l4, n5, n6)

noncomputable def slices_stableCmpFunc_Cell (p0x0 : List Cell) (p1x0 : Int) (fnc : Cell → Cell → Option Int) : Option (List Cell) :=
  slices_stableCmpFunc_Cell_l1 p1x0 fnc p0x0 (0 : Int) (20 : Int)

noncomputable def slices_SortStableFunc_Cell_Cell (p0x0 : List Cell) (fnb : Cell → Cell → Option Int) : Option (List Cell) :=
  (lenOk p0x0.length (fun r : (List Cell) => r.length) (slices_stableCmpFunc_Cell p0x0 (p0x0.length : Int) fnb)).bind fun v1 =>
  some v1

noncomputable def Stream_RightCells_1x (p0x0 : Cell) (p1x0 : Cell) : Bool :=
  decide (p0x0.Prop_.Name = p1x0.Prop_.Name)

noncomputable def slices_CompactFunc_Cell_Cell_j1 (n12 : Int) (l16 : List Cell) (n17 : Int) : Option (((List Cell) × Int × Int) ⊕ (Int ⊕ (List Cell))) :=
  some (.inl (l16, n17, w64 (n12 + (1 : Int))))

noncomputable def slices_CompactFunc_Cell_Cell_k2 (l10 : List Cell) (n11 : Int) : Option (Int ⊕ (List Cell)) :=
  (slc l10 n11 (l10.length : Int)).bind fun l20 =>
  (slc (clr l10 n11 l20.length (⟨(⟨[], (⟨(0 : Int), false, (0 : Int), []⟩ : ValueS)⟩ : PropS), (⟨(0 : Int), [], (0 : Int)⟩ : Stamp)⟩ : Cell)) (0 : Int) n11).bind fun l21 =>
  Option.map .inr (some l21)

noncomputable def slices_CompactFunc_Cell_Cell_b2 (fnb : Cell → Cell → Option Bool) (n2 : Int) (l6 : List Cell) (l10 : List Cell) (n11 : Int) (n12 : Int) : Option (((List Cell) × Int × Int) ⊕ (Int ⊕ (List Cell))) :=
  if n12 < (l6.length : Int) then
    (idxS l10 n2 l6.length n12).bind fun v13 =>
    (idxS l10 n2 l6.length (w64 (n12 - (1 : Int)))).bind fun v14 =>
    (fnb v13 v14).bind fun v15 =>
    if (!v15) = true then
      (idxS l10 n2 l6.length n12).bind fun v18 =>
      (idx l10 n11).bind fun v19 =>
      slices_CompactFunc_Cell_Cell_j1 n12 (l10.set n11.toNat v18) (w64 (n11 + (1 : Int)))
    else
      slices_CompactFunc_Cell_Cell_j1 n12 l10 n11
  else
    Option.map .inr (slices_CompactFunc_Cell_Cell_k2 l10 n11)

noncomputable def slices_CompactFunc_Cell_Cell_l2 (fnb : Cell → Cell → Option Bool) (n2 : Int) (l6 : List Cell) (l10 : List Cell) (n11 : Int) (n12 : Int) : Option (Int ⊕ (List Cell)) :=
  iter (fun x : (List Cell) × Int × Int => slices_CompactFunc_Cell_Cell_b2 fnb n2 l6 x.1 x.2.1 x.2.2) (l10, n11, n12)

noncomputable def slices_CompactFunc_Cell_Cell_b1 (p0x0 : List Cell) (fnb : Cell → Cell → Option Bool) (n2 : Int) : Option (Int ⊕ (List Cell)) :=
  if n2 < (p0x0.length : Int) then
    (idx p0x0 n2).bind fun v3 =>
    (idx p0x0 (w64 (n2 - (1 : Int)))).bind fun v4 =>
    (fnb v3 v4).bind fun v5 =>
    if v5 = true then
      (slc p0x0 n2 (p0x0.length : Int)).bind fun l6 =>
      slices_CompactFunc_Cell_Cell_l2 fnb n2 l6 p0x0 n2 (1 : Int)
    else
      some (.inl (w64 (n2 + (1 : Int))))
  else
    Option.map .inr (some p0x0)

noncomputable def slices_CompactFunc_Cell_Cell_l1 (p0x0 : List Cell) (fnb : Cell → Cell → Option Bool) (n2 : Int) : Option (List Cell) :=
  iter (fun x : Int => slices_CompactFunc_Cell_Cell_b1 p0x0 fnb x) n2

noncomputable def slices_CompactFunc_Cell_Cell (p0x0 : List Cell) (fnb : Cell → Cell → Option Bool) : Option (List Cell) :=
  if (p0x0.length : Int) < (2 : Int) then
    some p0x0
  else
    slices_CompactFunc_Cell_Cell_l1 p0x0 fnb (1 : Int)

noncomputable def Stream_RightCells_j1 (l10 : List Cell) (n11 : Int) (v13 : Str × Fleetmake_Stream) (v15 : Stamp × Fleetmake_Stream) (v17 : Bool × Fleetmake_Stream) (n18 : Int) (c19 : Bool) (n20 : Int) (q21 : Str) : Option (((List Int) × Int × (List Cell) × Int) ⊕ ((List Cell) × Fleetmake_Stream)) :=
  (app l10 [(⟨(⟨v13.1, (⟨n18, c19, n20, q21⟩ : ValueS)⟩ : PropS), v15.1⟩ : Cell)]).bind fun l22 =>
  some (.inl (v17.2.L, v17.2.at_, l22, w64 (n11 + (1 : Int))))

noncomputable def Stream_RightCells_k2 (l7 : List Int) (n8 : Int) (l10 : List Cell) : Option ((List Cell) × Fleetmake_Stream) :=
  (lenOk l10.length (fun r : (List Cell) => r.length) (slices_SortStableFunc_Cell_Cell l10 (fun y0 y1 => some (cellOrder y0 y1)))).bind fun v24 =>
  (slices_CompactFunc_Cell_Cell v24 (fun y0 y1 => some (Stream_RightCells_1x y0 y1))).bind fun v25 =>
  some (v25, (⟨l7, n8⟩ : Fleetmake_Stream))

noncomputable def Stream_RightCells_b1 (v1 : Int × Fleetmake_Stream) (l7 : List Int) (n8 : Int) (l10 : List Cell) (n11 : Int) : Option (((List Int) × Int × (List Cell) × Int) ⊕ ((List Cell) × Fleetmake_Stream)) :=
  if n11 < v1.1 then
    (Stream_Some (⟨l7, n8⟩ : Fleetmake_Stream) [([97] : Str), ([97] : Str), ([97, 46, 120] : Str), ([97, 46, 121] : Str), ([97, 46, 120, 46, 112] : Str), ([98] : Str), ([98, 46, 122] : Str), ([97, 98] : Str)]).bind fun v13 =>
    (Stream_RightValue v13.2).bind fun v14 =>
    (Stream_RightStamp v14.2).bind fun v15 =>
    (Stream_Flip v15.2 (3 : Int)).bind fun v17 =>
    if v17.1 = true then
      Stream_RightCells_j1 l10 n11 v13 v15 v17 (0 : Int) false (0 : Int) []
    else
      Stream_RightCells_j1 l10 n11 v13 v15 v17 v14.1.Kind v14.1.Flag v14.1.Number v14.1.Words
  else
    Option.map .inr (Stream_RightCells_k2 l7 n8 l10)

noncomputable def Stream_RightCells_l1 (v1 : Int × Fleetmake_Stream) (l7 : List Int) (n8 : Int) (l10 : List Cell) (n11 : Int) : Option ((List Cell) × Fleetmake_Stream) :=
  iter (fun x : (List Int) × Int × (List Cell) × Int => Stream_RightCells_b1 v1 x.1 x.2.1 x.2.2.1 x.2.2.2) (l7, n8, l10, n11)

noncomputable def Stream_RightCells (p0x0 : Fleetmake_Stream) : Option ((List Cell) × Fleetmake_Stream) :=
  (Stream_Range p0x0 (0 : Int) (6 : Int)).bind fun v1 =>
  Stream_RightCells_l1 v1 v1.2.L v1.2.at_ [] (0 : Int)

noncomputable def Stream_PropName (p0x0 : Fleetmake_Stream) : Option (Str × Fleetmake_Stream) :=
  (Stream_Flip p0x0 (25 : Int)).bind fun v1 =>
  if v1.1 = true then
    (repeatO ([97] : Str) (41 : Int)).bind fun v2 =>
    (Stream_Some v1.2 [([] : Str), ([65] : Str), ([97, 46] : Str), ([46, 97] : Str), ([97, 46, 46, 98] : Str), ([97, 46, 98, 46, 99, 46, 100, 46, 101, 46, 102, 46, 103, 46, 104, 46, 105] : Str), ([97, 32, 98] : Str), v2]).bind fun v3 =>
    some (v3.1, v3.2)
  else
    (Stream_Some v1.2 [([97] : Str), ([97] : Str), ([97, 46, 120] : Str), ([97, 46, 120] : Str), ([97, 46, 121] : Str), ([97, 46, 120, 46, 112] : Str), ([98] : Str), ([98, 46, 122] : Str), ([97, 98] : Str), ([97, 45, 49] : Str)]).bind fun v4 =>
    some (v4.1, v4.2)

noncomputable def Stream_Odd (p0x0 : Fleetmake_Stream) (p1x0 : Int) (p2x0 : Int) : Option (Int × Fleetmake_Stream) :=
  (Stream_Flip p0x0 (12 : Int)).bind fun v1 =>
  if v1.1 = true then
    (Stream_Pick v1.2 [w64 (p1x0 - (1 : Int)), w64 (p2x0 + (1 : Int)), p1x0, p2x0, (-1099511627776 : Int), (1099511627776 : Int)]).bind fun v2 =>
    some (v2.1, v2.2)
  else
    (Stream_Range v1.2 p1x0 p2x0).bind fun v3 =>
    some (v3.1, v3.2)

noncomputable def Stream_Value_j1 (l6 : List Int) (n7 : Int) (n8 : Int) (c9 : Bool) (n10 : Int) (q11 : Str) : Option (ValueS × Fleetmake_Stream) :=
  some ((⟨n8, c9, n10, q11⟩ : ValueS), (⟨l6, n7⟩ : Fleetmake_Stream))

noncomputable def Stream_Value_j2 (l13 : List Int) (n14 : Int) (n15 : Int) (c16 : Bool) (n17 : Int) (q18 : Str) : Option (ValueS × Fleetmake_Stream) :=
  Stream_Value_j1 l13 n14 n15 c16 n17 q18

noncomputable def Stream_Value_j3 (l20 : List Int) (n21 : Int) (n22 : Int) (c23 : Bool) (n24 : Int) (q25 : Str) : Option (ValueS × Fleetmake_Stream) :=
  Stream_Value_j2 l20 n21 n22 c23 n24 q25

noncomputable def Stream_Value_j4 (l26 : List Int) (n27 : Int) (n28 : Int) (c29 : Bool) (n30 : Int) (q31 : Str) : Option (ValueS × Fleetmake_Stream) :=
  Stream_Value_j3 l26 n27 n28 c29 n30 q31

noncomputable def Stream_Value_j5 (l33 : List Int) (n34 : Int) (n35 : Int) (c36 : Bool) (n37 : Int) (q38 : Str) : Option (ValueS × Fleetmake_Stream) :=
  Stream_Value_j4 l33 n34 n35 c36 n37 q38

noncomputable def Stream_Value (p0x0 : Fleetmake_Stream) : Option (ValueS × Fleetmake_Stream) :=
  (Stream_RightValue p0x0).bind fun v2 =>
  (Stream_Flip v2.2 (6 : Int)).bind fun v4 =>
  if v4.1 = true then
    some ((⟨(0 : Int), false, (0 : Int), []⟩ : ValueS), v4.2)
  else
    (Stream_Flip v4.2 (25 : Int)).bind fun v5 =>
    if v5.1 = true then
      (Stream_Next v5.2 (5 : Int)).bind fun v12 =>
      if v12.1 = (0 : Int) then
        (Stream_Pick v12.2 [(-1 : Int), (4 : Int), (0 : Int)]).bind fun v19 =>
        Stream_Value_j2 v19.2.L v19.2.at_ v19.1 v2.1.Flag v2.1.Number v2.1.Words
      else
        if v12.1 = (1 : Int) then
          Stream_Value_j3 v12.2.L v12.2.at_ v2.1.Kind (!v2.1.Flag) v2.1.Number v2.1.Words
        else
          if v12.1 = (2 : Int) then
            (Stream_Odd v12.2 (-1000000000 : Int) (1000000000 : Int)).bind fun v32 =>
            Stream_Value_j4 v32.2.L v32.2.at_ v2.1.Kind v2.1.Flag v32.1 v2.1.Words
          else
            if v12.1 = (3 : Int) then
              (repeatO ([119] : Str) (1001 : Int)).bind fun v39 =>
              (Stream_Some v12.2 [([10] : Str), ([127] : Str), ([255] : Str), v39]).bind fun v40 =>
              Stream_Value_j5 v40.2.L v40.2.at_ (3 : Int) false (0 : Int) v40.1
            else
              Stream_Value_j5 v12.2.L v12.2.at_ v2.1.Kind v2.1.Flag v2.1.Number ([122] : Str)
    else
      Stream_Value_j1 v5.2.L v5.2.at_ v2.1.Kind v2.1.Flag v2.1.Number v2.1.Words

noncomputable def Stream_Stamp_j1 (l5 : List Int) (n6 : Int) (n7 : Int) (q8 : Str) (n9 : Int) : Option (Stamp × Fleetmake_Stream) :=
  some ((⟨n7, q8, n9⟩ : Stamp), (⟨l5, n6⟩ : Fleetmake_Stream))

noncomputable def Stream_Stamp (p0x0 : Fleetmake_Stream) : Option (Stamp × Fleetmake_Stream) :=
  (Stream_RightStamp p0x0).bind fun v2 =>
  (Stream_Flip v2.2 (25 : Int)).bind fun v4 =>
  if v4.1 = true then
    (Stream_Odd v4.2 (0 : Int) (9 : Int)).bind fun v10 =>
    (Stream_Some v10.2 [([104] : Str), ([] : Str), ([65] : Str)]).bind fun v11 =>
    (Stream_Odd v11.2 (0 : Int) (9 : Int)).bind fun v12 =>
    Stream_Stamp_j1 v12.2.L v12.2.at_ v10.1 v11.1 v12.1
  else
    Stream_Stamp_j1 v4.2.L v4.2.at_ v2.1.At v2.1.By v2.1.No

noncomputable def Stream_Cells_j1 (l4 : List Int) (n5 : Int) (l7 : List Cell) : Option ((List Cell) × Fleetmake_Stream) :=
  some (l7, (⟨l4, n5⟩ : Fleetmake_Stream))

noncomputable def Stream_Cells_j2 (v13 : Bool × Fleetmake_Stream) (l14 : List Cell) : Option ((List Cell) × Fleetmake_Stream) :=
  Stream_Cells_j1 v13.2.L v13.2.at_ l14

noncomputable def Stream_Cells (p0x0 : Fleetmake_Stream) : Option ((List Cell) × Fleetmake_Stream) :=
  (Stream_RightCells p0x0).bind fun v1 =>
  (Stream_Flip v1.2 (10 : Int)).bind fun v3 =>
  if v3.1 = true then
    (Stream_PropName v3.2).bind fun v8 =>
    (Stream_Value v8.2).bind fun v9 =>
    (Stream_Stamp v9.2).bind fun v10 =>
    (app v1.1 [(⟨(⟨v8.1, v9.1⟩ : PropS), v10.1⟩ : Cell)]).bind fun l11 =>
    (Stream_Flip v10.2 (2 : Int)).bind fun v13 =>
    if v13.1 = true then
      (lenOk l11.length (fun r : (List Cell) => r.length) (slices_SortStableFunc_Cell_Cell l11 (fun y0 y1 => some (cellOrder y0 y1)))).bind fun v15 =>
      Stream_Cells_j2 v13 v15
    else
      Stream_Cells_j2 v13 l11
  else
    Stream_Cells_j1 v3.2.L v3.2.at_ v1.1

noncomputable def Stream_Twin (p0x0 : Fleetmake_Stream) : Option (TwinS × Fleetmake_Stream) :=
  (Stream_Cells p0x0).bind fun v2 =>
  (Stream_Cells v2.2).bind fun v4 =>
  some ((⟨v2.1, v4.1⟩ : TwinS), v4.2)

noncomputable def base_Key_j2 (n5 : Int) (c7 : Bool) : Option (Int ⊕ Bool) :=
  if c7 = true then
    Option.map .inr (some false)
  else
    some (.inl (w64 (n5 + (1 : Int))))

noncomputable def base_Key_b1 (p0x0 : Str) (n5 : Int) : Option (Int ⊕ Bool) :=
  if n5 < (p0x0.length : Int) then
    (idx p0x0 n5).bind fun c6 =>
    base_Key_j2 n5 (if (97 : Int) ≤ (c6.toNat : Int) then if (c6.toNat : Int) ≤ (122 : Int) then !true else if (48 : Int) ≤ (c6.toNat : Int) then if (c6.toNat : Int) ≤ (57 : Int) then !true else if (c6.toNat : Int) = (45 : Int) then !true else decide (¬ ((c6.toNat : Int) = (95 : Int))) else if (c6.toNat : Int) = (45 : Int) then !true else decide (¬ ((c6.toNat : Int) = (95 : Int))) else if (48 : Int) ≤ (c6.toNat : Int) then if (c6.toNat : Int) ≤ (57 : Int) then !true else if (c6.toNat : Int) = (45 : Int) then !true else decide (¬ ((c6.toNat : Int) = (95 : Int))) else if (c6.toNat : Int) = (45 : Int) then !true else decide (¬ ((c6.toNat : Int) = (95 : Int))))
  else
    Option.map .inr (some true)

noncomputable def base_Key_l1 (p0x0 : Str) (n5 : Int) : Option Bool :=
  iter (fun x : Int => base_Key_b1 p0x0 x) n5

noncomputable def base_Key_j1 (p0x0 : Str) (c1 : Bool) : Option Bool :=
  if c1 = true then
    some false
  else
    base_Key_l1 p0x0 (0 : Int)

noncomputable def base_Key (p0x0 : Str) : Option Bool :=
  if p0x0 = ([] : Str) then
    base_Key_j1 p0x0 true
  else
    if (40 : Int) < (p0x0.length : Int) then
      base_Key_j1 p0x0 true
    else
      (idx p0x0 (0 : Int)).bind fun c2 =>
      if (c2.toNat : Int) < (97 : Int) then
        base_Key_j1 p0x0 true
      else
        (idx p0x0 (0 : Int)).bind fun c3 =>
        base_Key_j1 p0x0 (decide ((122 : Int) < (c3.toNat : Int)))

noncomputable def base_Dotted_b1 (p1x0 : Int) (q3 : Str) (n4 : Int) : Option ((Str × Int) ⊕ Bool) :=
  if n4 < p1x0 then
    (cutO q3 ([46] : Str)).bind fun v5 =>
    (base_Key v5.1).bind fun v6 =>
    if (!v6) = true then
      Option.map .inr (some false)
    else
      if (!v5.2.2) = true then
        Option.map .inr (some true)
      else
        some (.inl (v5.2.1, w64 (n4 + (1 : Int))))
  else
    Option.map .inr (some false)

noncomputable def base_Dotted_l1 (p1x0 : Int) (q3 : Str) (n4 : Int) : Option Bool :=
  iter (fun x : Str × Int => base_Dotted_b1 p1x0 x.1 x.2) (q3, n4)

noncomputable def base_Dotted (p0x0 : Str) (p1x0 : Int) : Option Bool :=
  base_Dotted_l1 p1x0 p0x0 (0 : Int)

noncomputable def twin_isName (p0x0 : Str) : Option Bool :=
  (base_Dotted p0x0 (8 : Int)).bind fun v1 =>
  some v1

noncomputable def base_Out_j1 (c1 : Bool) : Bool :=
  c1

noncomputable def base_Out (p0x0 : Int) (p1x0 : Int) (p2x0 : Int) : Bool :=
  base_Out_j1 ((decide (p0x0 < p1x0)) || (decide (p2x0 < p0x0)))

noncomputable def base_Unmarked_j1 (n2 : Int) (c3 : Bool) : Option (Int ⊕ Bool) :=
  if c3 = true then
    Option.map .inr (some false)
  else
    some (.inl (w64 (n2 + (1 : Int))))

noncomputable def base_Unmarked_k2 (p0x0 : Str) : Option Bool :=
  (validO p0x0).bind fun v6 =>
  some v6

noncomputable def base_Unmarked_b1 (p0x0 : Str) (n2 : Int) : Option (Int ⊕ Bool) :=
  if n2 < (p0x0.length : Int) then
    (idx p0x0 n2).bind fun c4 =>
    if (c4.toNat : Int) < (32 : Int) then
      base_Unmarked_j1 n2 true
    else
      (idx p0x0 n2).bind fun c5 =>
      base_Unmarked_j1 n2 (decide ((c5.toNat : Int) = (127 : Int)))
  else
    Option.map .inr (base_Unmarked_k2 p0x0)

noncomputable def base_Unmarked_l1 (p0x0 : Str) (n2 : Int) : Option Bool :=
  iter (fun x : Int => base_Unmarked_b1 p0x0 x) n2

noncomputable def base_Unmarked (p0x0 : Str) : Option Bool :=
  base_Unmarked_l1 p0x0 (0 : Int)

noncomputable def twin_valueFault_j1 (p0x0 : ValueS) (c3 : Bool) (n4 : Int) (q5 : Str) : Option Int :=
  if p0x0 ≠ (⟨p0x0.Kind, c3, n4, q5⟩ : ValueS) then
    some (3 : Int)
  else
    if (base_Out p0x0.Number (-1000000000 : Int) (1000000000 : Int)) = true then
      some (1 : Int)
    else
      if (1000 : Int) < (p0x0.Words.length : Int) then
        some (2 : Int)
      else
        (base_Unmarked p0x0.Words).bind fun v11 =>
        if (!v11) = true then
          some (3 : Int)
        else
          some (0 : Int)

noncomputable def twin_valueFault_j2 (p0x0 : ValueS) (c6 : Bool) (n7 : Int) (q8 : Str) : Option Int :=
  twin_valueFault_j1 p0x0 c6 n7 q8

noncomputable def twin_valueFault_j3 (p0x0 : ValueS) (n9 : Int) (q10 : Str) : Option Int :=
  twin_valueFault_j2 p0x0 false n9 q10

noncomputable def twin_valueFault (p0x0 : ValueS) : Option Int :=
  if p0x0.Kind = (0 : Int) then
    twin_valueFault_j1 p0x0 false (0 : Int) []
  else
    if p0x0.Kind = (1 : Int) then
      twin_valueFault_j2 p0x0 p0x0.Flag (0 : Int) []
    else
      if p0x0.Kind = (2 : Int) then
        twin_valueFault_j3 p0x0 p0x0.Number []
      else
        if p0x0.Kind = (3 : Int) then
          twin_valueFault_j3 p0x0 (0 : Int) p0x0.Words
        else
          some (4 : Int)

noncomputable def base_Moment (p0x0 : Int) : Bool :=
  !(base_Out p0x0 (0 : Int) (345686399999 : Int))

noncomputable def twin_stampFault (p0x0 : Stamp) : Option Int :=
  if (!(base_Moment p0x0.At)) = true then
    some (1 : Int)
  else
    (base_Key p0x0.By).bind fun v2 =>
    if (!v2) = true then
      some (5 : Int)
    else
      if (base_Out p0x0.No (0 : Int) (1000000000 : Int)) = true then
        some (1 : Int)
      else
        some (0 : Int)

noncomputable def base_First_b1 (p0x0 : List Int) (n2 : Int) : Option (Int ⊕ Int) :=
  if n2 < (p0x0.length : Int) then
    (idx p0x0 n2).bind fun v3 =>
    if v3 ≠ (0 : Int) then
      Option.map .inr (some v3)
    else
      some (.inl (w64 (n2 + (1 : Int))))
  else
    Option.map .inr (some (0 : Int))

noncomputable def base_First_l1 (p0x0 : List Int) (n2 : Int) : Option Int :=
  iter (fun x : Int => base_First_b1 p0x0 x) n2

noncomputable def base_First (p0x0 : List Int) : Option Int :=
  base_First_l1 p0x0 (0 : Int)

noncomputable def twin_CheckCells_j1 (n2 : Int) (c9 : Bool) : Option (Int ⊕ Int) :=
  if c9 = true then
    Option.map .inr (some (7 : Int))
  else
    some (.inl (w64 (n2 + (1 : Int))))

noncomputable def twin_CheckCells_b1 (p0x0 : List Cell) (n2 : Int) : Option (Int ⊕ Int) :=
  if n2 < (p0x0.length : Int) then
    (idx p0x0 n2).bind fun v3 =>
    (twin_isName v3.Prop_.Name).bind fun v5 =>
    if (!v5) = true then
      Option.map .inr (some (5 : Int))
    else
      (twin_valueFault v3.Prop_.Value).bind fun v6 =>
      (twin_stampFault v3.Stamp).bind fun v7 =>
      (base_First [v6, v7]).bind fun v8 =>
      if v8 ≠ (0 : Int) then
        Option.map .inr (some v8)
      else
        if (0 : Int) < n2 then
          (idx p0x0 (w64 (n2 - (1 : Int)))).bind fun v10 =>
          twin_CheckCells_j1 n2 (Op.bytesLess v3.Prop_.Name v10.Prop_.Name || v3.Prop_.Name == v10.Prop_.Name)
        else
          twin_CheckCells_j1 n2 false
  else
    Option.map .inr (some (0 : Int))

noncomputable def twin_CheckCells_l1 (p0x0 : List Cell) (n2 : Int) : Option Int :=
  iter (fun x : Int => twin_CheckCells_b1 p0x0 x) n2

noncomputable def twin_CheckCells (p0x0 : List Cell) : Option Int :=
  if (500 : Int) < (p0x0.length : Int) then
    some (2 : Int)
  else
    twin_CheckCells_l1 p0x0 (0 : Int)

noncomputable def twin_twinFault (p0x0 : TwinS) : Option Int :=
  (twin_CheckCells p0x0.Desired).bind fun v2 =>
  (twin_CheckCells p0x0.Reported).bind fun v3 =>
  (base_First [v2, v3]).bind fun v4 =>
  some v4

noncomputable def twin_every (p0x0 : Cell) : Bool :=
  true

noncomputable def base_Below_j1 (c1 : Bool) : Option Bool :=
  some c1

noncomputable def base_Below (p0x0 : Str) (p1x0 : Str) : Option Bool :=
  if (p1x0.length : Int) < (p0x0.length : Int) then
    (idx p0x0 (p1x0.length : Int)).bind fun c2 =>
    if (c2.toNat : Int) = (46 : Int) then
      (slc p0x0 (0 : Int) (p1x0.length : Int)).bind fun l3 =>
      base_Below_j1 (decide (l3 = p1x0))
    else
      base_Below_j1 false
  else
    base_Below_j1 false

noncomputable def cmp_isNaN_int (p0x0 : Int) : Bool :=
  decide (p0x0 ≠ p0x0)

noncomputable def cmp_Compare_int (p0x0 : Int) (p1x0 : Int) : Int :=
  if (cmp_isNaN_int p0x0) = true then
    if (cmp_isNaN_int p1x0) = true then
      (0 : Int)
    else
      (-1 : Int)
  else
    if (cmp_isNaN_int p1x0) = true then
      (1 : Int)
    else
      if p0x0 < p1x0 then
        (-1 : Int)
      else
        if p1x0 < p0x0 then
          (1 : Int)
        else
          (0 : Int)

noncomputable def cmp_Or_int_b1 (p0x0 : List Int) (n2 : Int) : Option (Int ⊕ Int) :=
  if n2 < (p0x0.length : Int) then
    (idx p0x0 n2).bind fun v3 =>
    if v3 ≠ (0 : Int) then
      Option.map .inr (some v3)
    else
      some (.inl (w64 (n2 + (1 : Int))))
  else
    Option.map .inr (some (0 : Int))

noncomputable def cmp_Or_int_l1 (p0x0 : List Int) (n2 : Int) : Option Int :=
  iter (fun x : Int => cmp_Or_int_b1 p0x0 x) n2

noncomputable def cmp_Or_int (p0x0 : List Int) : Option Int :=
  cmp_Or_int_l1 p0x0 (0 : Int)

noncomputable def twin_byStamp (p0x0 : Stamp) (p1x0 : Stamp) : Option Int :=
  (cmp_Or_int [(cmp_Compare_int p0x0.At p1x0.At), (Lib.compareBytes p0x0.By p1x0.By), (cmp_Compare_int p0x0.No p1x0.No)]).bind fun v3 =>
  some v3

noncomputable def twin_hides_j1 (c6 : Bool) : Option Bool :=
  some c6

noncomputable def twin_hides_j2 (c7 : Bool) : Option Bool :=
  some c7

noncomputable def twin_hides (p0x0 : Cell) (p1x0 : Cell) : Option Bool :=
  (base_Below p1x0.Prop_.Name p0x0.Prop_.Name).bind fun v3 =>
  (base_Below p0x0.Prop_.Name p1x0.Prop_.Name).bind fun v4 =>
  (twin_byStamp p0x0.Stamp p1x0.Stamp).bind fun v5 =>
  if (0 : Int) < v5 then
    twin_hides_j1 (v3 || (v4 && (decide (p1x0.Prop_.Value.Kind ≠ (0 : Int)))))
  else
    if v5 = (0 : Int) then
      twin_hides_j2 (v3 && ((decide (p0x0.Prop_.Value.Kind ≠ (0 : Int))) && (decide (p1x0.Prop_.Value.Kind ≠ (0 : Int)))))
    else
      some false

noncomputable def twin_hidden_1x_j1 (c2 : Bool) : Option Bool :=
  some c2

noncomputable def twin_hidden_1x (p0x0 : Cell) (p1x0 : Cell) (fnc : Cell → Option Bool) : Option Bool :=
  (twin_hides p0x0 p1x0).bind fun v3 =>
  if v3 = true then
    (fnc p0x0).bind fun v4 =>
    twin_hidden_1x_j1 v4
  else
    twin_hidden_1x_j1 false

noncomputable def slices_IndexFunc_Cell_Cell_b1 (p0x0 : List Cell) (fnb : Cell → Option Bool) (n2 : Int) : Option (Int ⊕ Int) :=
  if n2 < (p0x0.length : Int) then
    (idx p0x0 n2).bind fun v3 =>
    (fnb v3).bind fun v4 =>
    if v4 = true then
      Option.map .inr (some n2)
    else
      some (.inl (w64 (n2 + (1 : Int))))
  else
    Option.map .inr (some (-1 : Int))

noncomputable def slices_IndexFunc_Cell_Cell_l1 (p0x0 : List Cell) (fnb : Cell → Option Bool) (n2 : Int) : Option Int :=
  iter (fun x : Int => slices_IndexFunc_Cell_Cell_b1 p0x0 fnb x) n2

noncomputable def slices_IndexFunc_Cell_Cell (p0x0 : List Cell) (fnb : Cell → Option Bool) : Option Int :=
  slices_IndexFunc_Cell_Cell_l1 p0x0 fnb (0 : Int)

noncomputable def slices_ContainsFunc_Cell_Cell (p0x0 : List Cell) (fnb : Cell → Option Bool) : Option Bool :=
  (slices_IndexFunc_Cell_Cell p0x0 fnb).bind fun v1 =>
  some (decide ((0 : Int) ≤ v1))

noncomputable def twin_hidden (p0x0 : List Cell) (p1x0 : Cell) (fnc : Cell → Option Bool) : Option Bool :=
  (slices_ContainsFunc_Cell_Cell p0x0 (fun y0 => twin_hidden_1x y0 p1x0 fnc)).bind fun v3 =>
  some v3

noncomputable def twin_visible_j2 (n6 : Int) (l13 : List PropS) : Option (((List PropS) × Int) ⊕ (List PropS)) :=
  some (.inl (l13, w64 (n6 + (1 : Int))))

noncomputable def twin_visible_j1 (l5 : List PropS) (n6 : Int) (v8 : Cell) (c10 : Bool) : Option (((List PropS) × Int) ⊕ (List PropS)) :=
  if c10 = true then
    (app l5 [v8.Prop_]).bind fun l14 =>
    twin_visible_j2 n6 l14
  else
    twin_visible_j2 n6 l5

noncomputable def twin_visible_b1 (p0x0 : List Cell) (l5 : List PropS) (n6 : Int) : Option (((List PropS) × Int) ⊕ (List PropS)) :=
  if n6 < (p0x0.length : Int) then
    (idx p0x0 n6).bind fun v8 =>
    if v8.Prop_.Value.Kind ≠ (0 : Int) then
      (twin_hidden p0x0 v8 (fun y0 => some (twin_every y0))).bind fun v11 =>
      twin_visible_j1 l5 n6 v8 (!v11)
    else
      twin_visible_j1 l5 n6 v8 false
  else
    Option.map .inr (some l5)

noncomputable def twin_visible_l1 (p0x0 : List Cell) (l5 : List PropS) (n6 : Int) : Option (List PropS) :=
  iter (fun x : (List PropS) × Int => twin_visible_b1 p0x0 x.1 x.2) (l5, n6)

noncomputable def twin_visible (p0x0 : List Cell) : Option (List PropS) :=
  twin_visible_l1 p0x0 [] (0 : Int)

/-- Sorted by Go. -/
noncomputable def slices_Sort_string_string (p0x0 : List Str) : Option (List Str) :=
  sort1 srtS p0x0

noncomputable def slices_Compact_string_string_j1 (n11 : Int) (l14 : List Str) (n15 : Int) : Option (((List Str) × Int × Int) ⊕ (Int ⊕ (List Str))) :=
  some (.inl (l14, n15, w64 (n11 + (1 : Int))))

noncomputable def slices_Compact_string_string_k2 (l9 : List Str) (n10 : Int) : Option (Int ⊕ (List Str)) :=
  (slc l9 n10 (l9.length : Int)).bind fun l18 =>
  (slc (clr l9 n10 l18.length []) (0 : Int) n10).bind fun l19 =>
  Option.map .inr (some l19)

noncomputable def slices_Compact_string_string_b2 (n2 : Int) (l5 : List Str) (l9 : List Str) (n10 : Int) (n11 : Int) : Option (((List Str) × Int × Int) ⊕ (Int ⊕ (List Str))) :=
  if n11 < (l5.length : Int) then
    (idxS l9 n2 l5.length n11).bind fun v12 =>
    (idxS l9 n2 l5.length (w64 (n11 - (1 : Int)))).bind fun v13 =>
    if v12 ≠ v13 then
      (idxS l9 n2 l5.length n11).bind fun v16 =>
      (idx l9 n10).bind fun v17 =>
      slices_Compact_string_string_j1 n11 (l9.set n10.toNat v16) (w64 (n10 + (1 : Int)))
    else
      slices_Compact_string_string_j1 n11 l9 n10
  else
    Option.map .inr (slices_Compact_string_string_k2 l9 n10)

noncomputable def slices_Compact_string_string_l2 (n2 : Int) (l5 : List Str) (l9 : List Str) (n10 : Int) (n11 : Int) : Option (Int ⊕ (List Str)) :=
  iter (fun x : (List Str) × Int × Int => slices_Compact_string_string_b2 n2 l5 x.1 x.2.1 x.2.2) (l9, n10, n11)

noncomputable def slices_Compact_string_string_b1 (p0x0 : List Str) (n2 : Int) : Option (Int ⊕ (List Str)) :=
  if n2 < (p0x0.length : Int) then
    (idx p0x0 n2).bind fun v3 =>
    (idx p0x0 (w64 (n2 - (1 : Int)))).bind fun v4 =>
    if v3 = v4 then
      (slc p0x0 n2 (p0x0.length : Int)).bind fun l5 =>
      slices_Compact_string_string_l2 n2 l5 p0x0 n2 (1 : Int)
    else
      some (.inl (w64 (n2 + (1 : Int))))
  else
    Option.map .inr (some p0x0)

noncomputable def slices_Compact_string_string_l1 (p0x0 : List Str) (n2 : Int) : Option (List Str) :=
  iter (fun x : Int => slices_Compact_string_string_b1 p0x0 x) n2

noncomputable def slices_Compact_string_string (p0x0 : List Str) : Option (List Str) :=
  if (p0x0.length : Int) < (2 : Int) then
    some p0x0
  else
    slices_Compact_string_string_l1 p0x0 (1 : Int)

noncomputable def twin_names_b2 (n6 : Int) (v8 : List PropS) (l13 : List Str) (n14 : Int) : Option (((List Str) × Int) ⊕ (((List Str) × Int) ⊕ (List Str))) :=
  if n14 < (v8.length : Int) then
    (idx v8 n14).bind fun v15 =>
    (app l13 [v15.Name]).bind fun l17 =>
    some (.inl (l17, w64 (n14 + (1 : Int))))
  else
    Option.map .inr (some (.inl (l13, w64 (n6 + (1 : Int)))))

noncomputable def twin_names_l2 (n6 : Int) (v8 : List PropS) (l13 : List Str) (n14 : Int) : Option (((List Str) × Int) ⊕ (List Str)) :=
  iter (fun x : (List Str) × Int => twin_names_b2 n6 v8 x.1 x.2) (l13, n14)

noncomputable def twin_names_k1 (l5 : List Str) : Option (List Str) :=
  (lenOk l5.length (fun r : (List Str) => r.length) (slices_Sort_string_string l5)).bind fun v19 =>
  (slices_Compact_string_string v19).bind fun v20 =>
  some v20

noncomputable def twin_names_b1 (p0x0 : List (List PropS)) (l5 : List Str) (n6 : Int) : Option (((List Str) × Int) ⊕ (List Str)) :=
  if n6 < (p0x0.length : Int) then
    (idx p0x0 n6).bind fun v8 =>
    twin_names_l2 n6 v8 l5 (0 : Int)
  else
    Option.map .inr (twin_names_k1 l5)

noncomputable def twin_names_l1 (p0x0 : List (List PropS)) (l5 : List Str) (n6 : Int) : Option (List Str) :=
  iter (fun x : (List Str) × Int => twin_names_b1 p0x0 x.1 x.2) (l5, n6)

noncomputable def twin_names (p0x0 : List (List PropS)) : Option (List Str) :=
  twin_names_l1 p0x0 [] (0 : Int)

noncomputable def twin_find_1x (p0x0 : PropS) (p1x0 : Str) : Int :=
  (Lib.compareBytes p0x0.Name p1x0)

noncomputable def slices_BinarySearchFunc_Prop_Prop_string_j1 (n7 : Int) (n8 : Int) : Option ((Int × Int) ⊕ (Int × Bool)) :=
  some (.inl (n7, n8))

noncomputable def slices_BinarySearchFunc_Prop_Prop_string_j2 (n3 : Int) (c9 : Bool) : Option (Int × Bool) :=
  some (n3, c9)

noncomputable def slices_BinarySearchFunc_Prop_Prop_string_k3 (p0x0 : List PropS) (p1x0 : Str) (fnc : PropS → Str → Option Int) (n3 : Int) : Option (Int × Bool) :=
  if n3 < (p0x0.length : Int) then
    (idx p0x0 n3).bind fun v10 =>
    (fnc v10 p1x0).bind fun v11 =>
    slices_BinarySearchFunc_Prop_Prop_string_j2 n3 (decide (v11 = (0 : Int)))
  else
    slices_BinarySearchFunc_Prop_Prop_string_j2 n3 false

noncomputable def slices_BinarySearchFunc_Prop_Prop_string_b1 (p0x0 : List PropS) (p1x0 : Str) (fnc : PropS → Str → Option Int) (n3 : Int) (n4 : Int) : Option ((Int × Int) ⊕ (Int × Bool)) :=
  if n3 < n4 then
    (idx p0x0 (w64 (shrI .u64 (IntKind.u64.wrap (w64 (n3 + n4))) (1 : Int)))).bind fun v5 =>
    (fnc v5 p1x0).bind fun v6 =>
    if v6 < (0 : Int) then
      slices_BinarySearchFunc_Prop_Prop_string_j1 (w64 ((w64 (shrI .u64 (IntKind.u64.wrap (w64 (n3 + n4))) (1 : Int))) + (1 : Int))) n4
    else
      slices_BinarySearchFunc_Prop_Prop_string_j1 n3 (w64 (shrI .u64 (IntKind.u64.wrap (w64 (n3 + n4))) (1 : Int)))
  else
    Option.map .inr (slices_BinarySearchFunc_Prop_Prop_string_k3 p0x0 p1x0 fnc n3)

noncomputable def slices_BinarySearchFunc_Prop_Prop_string_l1 (p0x0 : List PropS) (p1x0 : Str) (fnc : PropS → Str → Option Int) (n3 : Int) (n4 : Int) : Option (Int × Bool) :=
  iter (fun x : Int × Int => slices_BinarySearchFunc_Prop_Prop_string_b1 p0x0 p1x0 fnc x.1 x.2) (n3, n4)

noncomputable def slices_BinarySearchFunc_Prop_Prop_string (p0x0 : List PropS) (p1x0 : Str) (fnc : PropS → Str → Option Int) : Option (Int × Bool) :=
  slices_BinarySearchFunc_Prop_Prop_string_l1 p0x0 p1x0 fnc (0 : Int) (p0x0.length : Int)

noncomputable def twin_find (p0x0 : List PropS) (p1x0 : Str) : Option Int :=
  (slices_BinarySearchFunc_Prop_Prop_string p0x0 p1x0 (fun y0 y1 => some (twin_find_1x y0 y1))).bind fun v1 =>
  if (!v1.2) = true then
    some (-1 : Int)
  else
    some v1.1

noncomputable def twin_valueOf (p0x0 : List PropS) (p1x0 : Str) : Option ValueS :=
  (twin_find p0x0 p1x0).bind fun v2 =>
  if (0 : Int) ≤ v2 then
    (idx p0x0 v2).bind fun v3 =>
    some v3.Value
  else
    some (⟨(0 : Int), false, (0 : Int), []⟩ : ValueS)

noncomputable def twin_Owed_1x_j1 (c1 : Bool) : Option Bool :=
  some c1

noncomputable def twin_Owed_1x (p0x0 : Str) (p1x0 : Str) : Option Bool :=
  if p0x0 = p1x0 then
    twin_Owed_1x_j1 true
  else
    (base_Below p1x0 p0x0).bind fun v2 =>
    twin_Owed_1x_j1 v2

noncomputable def slices_IndexFunc_string_string_b1 (p0x0 : List Str) (fnb : Str → Option Bool) (n2 : Int) : Option (Int ⊕ Int) :=
  if n2 < (p0x0.length : Int) then
    (idx p0x0 n2).bind fun v3 =>
    (fnb v3).bind fun v4 =>
    if v4 = true then
      Option.map .inr (some n2)
    else
      some (.inl (w64 (n2 + (1 : Int))))
  else
    Option.map .inr (some (-1 : Int))

noncomputable def slices_IndexFunc_string_string_l1 (p0x0 : List Str) (fnb : Str → Option Bool) (n2 : Int) : Option Int :=
  iter (fun x : Int => slices_IndexFunc_string_string_b1 p0x0 fnb x) n2

noncomputable def slices_IndexFunc_string_string (p0x0 : List Str) (fnb : Str → Option Bool) : Option Int :=
  slices_IndexFunc_string_string_l1 p0x0 fnb (0 : Int)

noncomputable def slices_ContainsFunc_string_string (p0x0 : List Str) (fnb : Str → Option Bool) : Option Bool :=
  (slices_IndexFunc_string_string p0x0 fnb).bind fun v1 =>
  some (decide ((0 : Int) ≤ v1))

noncomputable def twin_Owed_2x (p0x0 : PropS) (p1x0 : Str) : Option Bool :=
  (base_Below p0x0.Name p1x0).bind fun v2 =>
  some v2

noncomputable def slices_IndexFunc_Prop_Prop_b1 (p0x0 : List PropS) (fnb : PropS → Option Bool) (n2 : Int) : Option (Int ⊕ Int) :=
  if n2 < (p0x0.length : Int) then
    (idx p0x0 n2).bind fun v3 =>
    (fnb v3).bind fun v4 =>
    if v4 = true then
      Option.map .inr (some n2)
    else
      some (.inl (w64 (n2 + (1 : Int))))
  else
    Option.map .inr (some (-1 : Int))

noncomputable def slices_IndexFunc_Prop_Prop_l1 (p0x0 : List PropS) (fnb : PropS → Option Bool) (n2 : Int) : Option Int :=
  iter (fun x : Int => slices_IndexFunc_Prop_Prop_b1 p0x0 fnb x) n2

noncomputable def slices_IndexFunc_Prop_Prop (p0x0 : List PropS) (fnb : PropS → Option Bool) : Option Int :=
  slices_IndexFunc_Prop_Prop_l1 p0x0 fnb (0 : Int)

noncomputable def slices_ContainsFunc_Prop_Prop (p0x0 : List PropS) (fnb : PropS → Option Bool) : Option Bool :=
  (slices_IndexFunc_Prop_Prop p0x0 fnb).bind fun v1 =>
  some (decide ((0 : Int) ≤ v1))

noncomputable def twin_Owed_j2 (n13 : Int) (l20 : List Str) : Option (((List Str) × Int) ⊕ ((List Change) × Int)) :=
  some (.inl (l20, w64 (n13 + (1 : Int))))

noncomputable def twin_Owed_j1 (l12 : List Str) (n13 : Int) (v15 : Cell) (c17 : Bool) : Option (((List Str) × Int) ⊕ ((List Change) × Int)) :=
  if c17 = true then
    (app l12 [v15.Prop_.Name]).bind fun l21 =>
    twin_Owed_j2 n13 l21
  else
    twin_Owed_j2 n13 l12

noncomputable def twin_Owed_j3 (n30 : Int) (l33 : List Change) : Option (((List Change) × Int) ⊕ ((List Change) × Int)) :=
  some (.inl (l33, w64 (n30 + (1 : Int))))

noncomputable def twin_Owed_j5 (n30 : Int) (l44 : List Change) : Option (((List Change) × Int) ⊕ ((List Change) × Int)) :=
  twin_Owed_j3 n30 l44

noncomputable def twin_Owed_j4 (l29 : List Change) (n30 : Int) (v34 : Str) (v36 : ValueS) (v37 : ValueS) (c40 : Bool) : Option (((List Change) × Int) ⊕ ((List Change) × Int)) :=
  if c40 = true then
    twin_Owed_j3 n30 l29
  else
    if v36 ≠ v37 then
      (app l29 [(⟨v34, v36, v37⟩ : Change)]).bind fun l45 =>
      twin_Owed_j5 n30 l45
    else
      twin_Owed_j5 n30 l29

noncomputable def twin_Owed_b2 (v4 : (List PropS)) (v6 : (List PropS)) (l12 : List Str) (v23 : (List Str)) (l29 : List Change) (n30 : Int) : Option (((List Change) × Int) ⊕ ((List Change) × Int)) :=
  if n30 < (v23.length : Int) then
    (idx v23 n30).bind fun v34 =>
    (twin_valueOf v6 v34).bind fun v36 =>
    (twin_valueOf v4 v34).bind fun v37 =>
    if v37.Kind = (0 : Int) then
      (slices_ContainsFunc_string_string l12 (fun y0 => twin_Owed_1x y0 v34)).bind fun v41 =>
      if (!v41) = true then
        (slices_ContainsFunc_Prop_Prop v4 (fun y0 => twin_Owed_2x y0 v34)).bind fun v42 =>
        twin_Owed_j4 l29 n30 v34 v36 v37 (!v42)
      else
        twin_Owed_j4 l29 n30 v34 v36 v37 false
    else
      twin_Owed_j4 l29 n30 v34 v36 v37 false
  else
    Option.map .inr (some (l29, (0 : Int)))

noncomputable def twin_Owed_l2 (v4 : (List PropS)) (v6 : (List PropS)) (l12 : List Str) (v23 : (List Str)) (l29 : List Change) (n30 : Int) : Option ((List Change) × Int) :=
  iter (fun x : (List Change) × Int => twin_Owed_b2 v4 v6 l12 v23 x.1 x.2) (l29, n30)

noncomputable def twin_Owed_k6 (v4 : (List PropS)) (v6 : (List PropS)) (l12 : List Str) : Option ((List Change) × Int) :=
  (twin_names [v4, v6]).bind fun v23 =>
  twin_Owed_l2 v4 v6 l12 v23 [] (0 : Int)

noncomputable def twin_Owed_b1 (p0x0 : TwinS) (v4 : (List PropS)) (v6 : (List PropS)) (l12 : List Str) (n13 : Int) : Option (((List Str) × Int) ⊕ ((List Change) × Int)) :=
  if n13 < (p0x0.Desired.length : Int) then
    (idx p0x0.Desired n13).bind fun v15 =>
    if v15.Prop_.Value.Kind = (0 : Int) then
      (twin_hidden p0x0.Desired v15 (fun y0 => some (twin_every y0))).bind fun v18 =>
      twin_Owed_j1 l12 n13 v15 (!v18)
    else
      twin_Owed_j1 l12 n13 v15 false
  else
    Option.map .inr (twin_Owed_k6 v4 v6 l12)

noncomputable def twin_Owed_l1 (p0x0 : TwinS) (v4 : (List PropS)) (v6 : (List PropS)) (l12 : List Str) (n13 : Int) : Option ((List Change) × Int) :=
  iter (fun x : (List Str) × Int => twin_Owed_b1 p0x0 v4 v6 x.1 x.2) (l12, n13)

noncomputable def twin_Owed (p0x0 : TwinS) : Option ((List Change) × Int) :=
  (twin_twinFault p0x0).bind fun v2 =>
  if v2 ≠ (0 : Int) then
    some ([], v2)
  else
    (twin_visible p0x0.Desired).bind fun v4 =>
    (twin_visible p0x0.Reported).bind fun v6 =>
    twin_Owed_l1 p0x0 v4 v6 [] (0 : Int)

noncomputable def twin_Settled_j1 (v2 : (List Change) × Int) (c4 : Bool) : Option (Bool × Int) :=
  some (c4, v2.2)

noncomputable def twin_Settled (p0x0 : TwinS) : Option (Bool × Int) :=
  (twin_Owed p0x0).bind fun v2 =>
  twin_Settled_j1 v2 ((decide (v2.2 = (0 : Int))) && (decide ((v2.1.length : Int) = (0 : Int))))

noncomputable def Q_in_j1 (c1 : Bool) : Bool :=
  c1

noncomputable def Q_in (p0x0 : Int) (p1x0 : Int) (p2x0 : Int) : Bool :=
  Q_in_j1 ((decide (p1x0 ≤ p0x0)) && (decide (p0x0 ≤ p2x0)))

noncomputable def Q_only_b1 (p0x0 : Str) (p1x0 : Str) (n2 : Int) : Option (Int ⊕ Bool) :=
  if n2 < (p0x0.length : Int) then
    (idx p0x0 n2).bind fun c3 =>
    if (indexByteI p1x0 (c3.toNat : Int)) < (0 : Int) then
      Option.map .inr (some false)
    else
      some (.inl (w64 (n2 + (1 : Int))))
  else
    Option.map .inr (some true)

noncomputable def Q_only_l1 (p0x0 : Str) (p1x0 : Str) (n2 : Int) : Option Bool :=
  iter (fun x : Int => Q_only_b1 p0x0 p1x0 x) n2

noncomputable def Q_only (p0x0 : Str) (p1x0 : Str) : Option Bool :=
  Q_only_l1 p0x0 p1x0 (0 : Int)

noncomputable def Q_Key_j1 (c1 : Bool) : Option Bool :=
  some c1

noncomputable def Q_Key (p0x0 : Str) : Option Bool :=
  if (Q_in (p0x0.length : Int) (1 : Int) (40 : Int)) = true then
    (slc p0x0 (0 : Int) (1 : Int)).bind fun l2 =>
    (Q_only l2 ([97, 98, 99, 100, 101, 102, 103, 104, 105, 106, 107, 108, 109, 110, 111, 112, 113, 114, 115, 116, 117, 118, 119, 120, 121, 122] : Str)).bind fun v3 =>
    if v3 = true then
      (Q_only p0x0 ([97, 98, 99, 100, 101, 102, 103, 104, 105, 106, 107, 108, 109, 110, 111, 112, 113, 114, 115, 116, 117, 118, 119, 120, 121, 122, 48, 49, 50, 51, 52, 53, 54, 55, 56, 57, 45, 95] : Str)).bind fun v4 =>
      Q_Key_j1 v4
    else
      Q_Key_j1 false
  else
    Q_Key_j1 false

noncomputable def Q_PropName_1x (p0x0 : Str) : Option Bool :=
  (Q_Key p0x0).bind fun v1 =>
  some (!v1)

noncomputable def Q_PropName_j1 (c3 : Bool) : Option Bool :=
  some c3

noncomputable def Q_PropName (p0x0 : Str) : Option Bool :=
  (splitO p0x0 ([46] : Str)).bind fun v1 =>
  if (v1.length : Int) ≤ (8 : Int) then
    (slices_ContainsFunc_string_string v1 (fun y0 => Q_PropName_1x y0)).bind fun v4 =>
    Q_PropName_j1 (!v4)
  else
    Q_PropName_j1 false

noncomputable def Q_Printed_1x_j1 (c1 : Bool) : Bool :=
  c1

noncomputable def Q_Printed_1x (p0x0 : Int) : Bool :=
  Q_Printed_1x_j1 ((decide (p0x0 < (32 : Int))) || (decide (p0x0 = (127 : Int))))

noncomputable def Q_Printed_j1 (c1 : Bool) : Option Bool :=
  some c1

noncomputable def Q_Printed (p0x0 : Str) : Option Bool :=
  (validO p0x0).bind fun v2 =>
  if v2 = true then
    (containsF p0x0 (fun y0 => some (Q_Printed_1x y0))).bind fun v3 =>
    Q_Printed_j1 (!v3)
  else
    Q_Printed_j1 false

noncomputable def Q_ValueFault_j1 (p0x0 : ValueS) (c3 : Bool) (n4 : Int) (q5 : Str) : Option Int :=
  if (⟨p0x0.Kind, c3, n4, q5⟩ : ValueS) ≠ p0x0 then
    some (3 : Int)
  else
    if (!(Q_in p0x0.Number (-1000000000 : Int) (1000000000 : Int))) = true then
      some (1 : Int)
    else
      if (1000 : Int) < (p0x0.Words.length : Int) then
        some (2 : Int)
      else
        (Q_Printed p0x0.Words).bind fun v9 =>
        if (!v9) = true then
          some (3 : Int)
        else
          some (0 : Int)

noncomputable def Q_ValueFault_j2 (p0x0 : ValueS) (n6 : Int) (q7 : Str) : Option Int :=
  Q_ValueFault_j1 p0x0 false n6 q7

noncomputable def Q_ValueFault_j3 (p0x0 : ValueS) (q8 : Str) : Option Int :=
  Q_ValueFault_j2 p0x0 (0 : Int) q8

noncomputable def Q_ValueFault (p0x0 : ValueS) : Option Int :=
  if (!(Q_in p0x0.Kind (0 : Int) (3 : Int))) = true then
    some (4 : Int)
  else
    if p0x0.Kind = (1 : Int) then
      Q_ValueFault_j1 p0x0 p0x0.Flag (0 : Int) []
    else
      if p0x0.Kind = (2 : Int) then
        Q_ValueFault_j2 p0x0 p0x0.Number []
      else
        if p0x0.Kind = (3 : Int) then
          Q_ValueFault_j3 p0x0 p0x0.Words
        else
          Q_ValueFault_j3 p0x0 []

noncomputable def Q_Moment (p0x0 : Int) : Bool :=
  (Q_in p0x0 (0 : Int) (345686399999 : Int))

noncomputable def Q_StampFault (p0x0 : Stamp) : Option Int :=
  if (!(Q_Moment p0x0.At)) = true then
    some (1 : Int)
  else
    (Q_Key p0x0.By).bind fun v2 =>
    if (!v2) = true then
      some (5 : Int)
    else
      if (!(Q_in p0x0.No (0 : Int) (1000000000 : Int))) = true then
        some (1 : Int)
      else
        some (0 : Int)

noncomputable def Q_CellsFault_j1 (n2 : Int) (c11 : Bool) : Option (Int ⊕ Int) :=
  if c11 = true then
    Option.map .inr (some (7 : Int))
  else
    some (.inl (w64 (n2 + (1 : Int))))

noncomputable def Q_CellsFault_k2 (p0x0 : List Cell) (n2 : Int) (v3 : Cell) : Option (Int ⊕ Int) :=
  if (0 : Int) < n2 then
    (idx p0x0 (w64 (n2 - (1 : Int)))).bind fun v12 =>
    Q_CellsFault_j1 n2 (Op.bytesLess v3.Prop_.Name v12.Prop_.Name || v3.Prop_.Name == v12.Prop_.Name)
  else
    Q_CellsFault_j1 n2 false

noncomputable def Q_CellsFault_b2 (p0x0 : List Cell) (n2 : Int) (v3 : Cell) (v6 : Int) (v7 : Int) (n9 : Int) : Option (Int ⊕ (Int ⊕ Int)) :=
  if n9 < ([v6, v7].length : Int) then
    (idx [v6, v7] n9).bind fun v10 =>
    if v10 ≠ (0 : Int) then
      Option.map .inr (Option.map .inr (some v10))
    else
      some (.inl (w64 (n9 + (1 : Int))))
  else
    Option.map .inr (Q_CellsFault_k2 p0x0 n2 v3)

noncomputable def Q_CellsFault_l2 (p0x0 : List Cell) (n2 : Int) (v3 : Cell) (v6 : Int) (v7 : Int) (n9 : Int) : Option (Int ⊕ Int) :=
  iter (fun x : Int => Q_CellsFault_b2 p0x0 n2 v3 v6 v7 x) n9

noncomputable def Q_CellsFault_b1 (p0x0 : List Cell) (n2 : Int) : Option (Int ⊕ Int) :=
  if n2 < (p0x0.length : Int) then
    (idx p0x0 n2).bind fun v3 =>
    (Q_PropName v3.Prop_.Name).bind fun v5 =>
    if (!v5) = true then
      Option.map .inr (some (5 : Int))
    else
      (Q_ValueFault v3.Prop_.Value).bind fun v6 =>
      (Q_StampFault v3.Stamp).bind fun v7 =>
      Q_CellsFault_l2 p0x0 n2 v3 v6 v7 (0 : Int)
  else
    Option.map .inr (some (0 : Int))

noncomputable def Q_CellsFault_l1 (p0x0 : List Cell) (n2 : Int) : Option Int :=
  iter (fun x : Int => Q_CellsFault_b1 p0x0 x) n2

noncomputable def Q_CellsFault (p0x0 : List Cell) : Option Int :=
  if (500 : Int) < (p0x0.length : Int) then
    some (2 : Int)
  else
    Q_CellsFault_l1 p0x0 (0 : Int)

noncomputable def Q_TwinFault (p0x0 : TwinS) : Option Int :=
  (Q_CellsFault p0x0.Desired).bind fun v2 =>
  if v2 ≠ (0 : Int) then
    some v2
  else
    (Q_CellsFault p0x0.Reported).bind fun v3 =>
    some v3

noncomputable def Q_valued (p0x0 : Cell) : Bool :=
  decide (p0x0.Prop_.Value.Kind ≠ (0 : Int))

noncomputable def Q_sign (p0x0 : Int) : Int :=
  if p0x0 < (0 : Int) then
    (-1 : Int)
  else
    if (0 : Int) < p0x0 then
      (1 : Int)
    else
      (0 : Int)

noncomputable def Q_StampOrder (p0x0 : Stamp) (p1x0 : Stamp) : Int :=
  if p0x0.At ≠ p1x0.At then
    (Q_sign (w64 (p0x0.At - p1x0.At)))
  else
    if p0x0.By ≠ p1x0.By then
      (Lib.compareBytes p0x0.By p1x0.By)
    else
      (Q_sign (w64 (p0x0.No - p1x0.No)))

noncomputable def internal_stringslite_HasPrefix_j1 (c1 : Bool) : Option Bool :=
  some c1

noncomputable def internal_stringslite_HasPrefix (p0x0 : Str) (p1x0 : Str) : Option Bool :=
  if (p1x0.length : Int) ≤ (p0x0.length : Int) then
    (slc p0x0 (0 : Int) (p1x0.length : Int)).bind fun l2 =>
    internal_stringslite_HasPrefix_j1 (decide (l2 = p1x0))
  else
    internal_stringslite_HasPrefix_j1 false

noncomputable def strings_HasPrefix (p0x0 : Str) (p1x0 : Str) : Option Bool :=
  (internal_stringslite_HasPrefix p0x0 p1x0).bind fun v1 =>
  some v1

noncomputable def Q_above (p0x0 : Str) (p1x0 : Str) : Option Bool :=
  (catO p0x0 ([46] : Str)).bind fun q1 =>
  (strings_HasPrefix p1x0 q1).bind fun v2 =>
  some v2

noncomputable def Q_hides_j1 (c4 : Bool) : Option Bool :=
  some c4

noncomputable def Q_hides_j2 (c6 : Bool) : Option Bool :=
  some c6

noncomputable def Q_hides (p0x0 : Cell) (p1x0 : Cell) : Option Bool :=
  (Q_above p0x0.Prop_.Name p1x0.Prop_.Name).bind fun v3 =>
  if v3 = true then
    Q_hides_j1 ((decide ((0 : Int) < (Q_StampOrder p0x0.Stamp p1x0.Stamp))) || ((decide ((Q_StampOrder p0x0.Stamp p1x0.Stamp) = (0 : Int))) && ((Q_valued p0x0) && (Q_valued p1x0))))
  else
    (Q_above p1x0.Prop_.Name p0x0.Prop_.Name).bind fun v5 =>
    if v5 = true then
      Q_hides_j2 ((decide ((0 : Int) < (Q_StampOrder p0x0.Stamp p1x0.Stamp))) && (Q_valued p1x0))
    else
      some false

noncomputable def Q_hidden_1x (p0x0 : Cell) (p1x0 : Cell) : Option Bool :=
  (Q_hides p0x0 p1x0).bind fun v2 =>
  some v2

noncomputable def Q_hidden (p0x0 : List Cell) (p1x0 : Cell) : Option Bool :=
  (slices_ContainsFunc_Cell_Cell p0x0 (fun y0 => Q_hidden_1x y0 p1x0)).bind fun v2 =>
  some v2

noncomputable def Q_VisibleOf_j2 (n6 : Int) (l13 : List PropS) : Option (((List PropS) × Int) ⊕ (List PropS)) :=
  some (.inl (l13, w64 (n6 + (1 : Int))))

noncomputable def Q_VisibleOf_j1 (l5 : List PropS) (n6 : Int) (v8 : Cell) (c10 : Bool) : Option (((List PropS) × Int) ⊕ (List PropS)) :=
  if c10 = true then
    (app l5 [v8.Prop_]).bind fun l14 =>
    Q_VisibleOf_j2 n6 l14
  else
    Q_VisibleOf_j2 n6 l5

noncomputable def Q_VisibleOf_b1 (p0x0 : List Cell) (l5 : List PropS) (n6 : Int) : Option (((List PropS) × Int) ⊕ (List PropS)) :=
  if n6 < (p0x0.length : Int) then
    (idx p0x0 n6).bind fun v8 =>
    if (Q_valued v8) = true then
      (Q_hidden p0x0 v8).bind fun v11 =>
      Q_VisibleOf_j1 l5 n6 v8 (!v11)
    else
      Q_VisibleOf_j1 l5 n6 v8 false
  else
    Option.map .inr (some l5)

noncomputable def Q_VisibleOf_l1 (p0x0 : List Cell) (l5 : List PropS) (n6 : Int) : Option (List PropS) :=
  iter (fun x : (List PropS) × Int => Q_VisibleOf_b1 p0x0 x.1 x.2) (l5, n6)

noncomputable def Q_VisibleOf (p0x0 : List Cell) : Option (List PropS) :=
  Q_VisibleOf_l1 p0x0 [] (0 : Int)

noncomputable def Q_namesOf_b2 (n6 : Int) (v8 : List PropS) (l13 : List Str) (n14 : Int) : Option (((List Str) × Int) ⊕ (((List Str) × Int) ⊕ (List Str))) :=
  if n14 < (v8.length : Int) then
    (idx v8 n14).bind fun v15 =>
    (app l13 [v15.Name]).bind fun l17 =>
    some (.inl (l17, w64 (n14 + (1 : Int))))
  else
    Option.map .inr (some (.inl (l13, w64 (n6 + (1 : Int)))))

noncomputable def Q_namesOf_l2 (n6 : Int) (v8 : List PropS) (l13 : List Str) (n14 : Int) : Option (((List Str) × Int) ⊕ (List Str)) :=
  iter (fun x : (List Str) × Int => Q_namesOf_b2 n6 v8 x.1 x.2) (l13, n14)

noncomputable def Q_namesOf_k1 (l5 : List Str) : Option (List Str) :=
  (lenOk l5.length (fun r : (List Str) => r.length) (slices_Sort_string_string l5)).bind fun v19 =>
  (slices_Compact_string_string v19).bind fun v20 =>
  some v20

noncomputable def Q_namesOf_b1 (p0x0 : List (List PropS)) (l5 : List Str) (n6 : Int) : Option (((List Str) × Int) ⊕ (List Str)) :=
  if n6 < (p0x0.length : Int) then
    (idx p0x0 n6).bind fun v8 =>
    Q_namesOf_l2 n6 v8 l5 (0 : Int)
  else
    Option.map .inr (Q_namesOf_k1 l5)

noncomputable def Q_namesOf_l1 (p0x0 : List (List PropS)) (l5 : List Str) (n6 : Int) : Option (List Str) :=
  iter (fun x : (List Str) × Int => Q_namesOf_b1 p0x0 x.1 x.2) (l5, n6)

noncomputable def Q_namesOf (p0x0 : List (List PropS)) : Option (List Str) :=
  Q_namesOf_l1 p0x0 [] (0 : Int)

noncomputable def Q_ValueOf_b1 (p0x0 : List PropS) (p1x0 : Str) (n3 : Int) : Option (Int ⊕ ValueS) :=
  if n3 < (p0x0.length : Int) then
    (idx p0x0 n3).bind fun v4 =>
    if v4.Name = p1x0 then
      Option.map .inr (some v4.Value)
    else
      some (.inl (w64 (n3 + (1 : Int))))
  else
    Option.map .inr (some (⟨(0 : Int), false, (0 : Int), []⟩ : ValueS))

noncomputable def Q_ValueOf_l1 (p0x0 : List PropS) (p1x0 : Str) (n3 : Int) : Option ValueS :=
  iter (fun x : Int => Q_ValueOf_b1 p0x0 p1x0 x) n3

noncomputable def Q_ValueOf (p0x0 : List PropS) (p1x0 : Str) : Option ValueS :=
  Q_ValueOf_l1 p0x0 p1x0 (0 : Int)

noncomputable def Q_OwedOf_j2 (n16 : Int) (l22 : List (Str × ValueS)) : Option (((List (Str × ValueS)) × Int) ⊕ (((List (Str × ValueS)) × Int) ⊕ (List Change))) :=
  some (.inl (l22, w64 (n16 + (1 : Int))))

noncomputable def Q_OwedOf_j1 (v11 : PropS) (l15 : List (Str × ValueS)) (n16 : Int) (c19 : Bool) : Option (((List (Str × ValueS)) × Int) ⊕ (((List (Str × ValueS)) × Int) ⊕ (List Change))) :=
  if c19 = true then
    Q_OwedOf_j2 n16 (mset l15 v11.Name (⟨(0 : Int), false, (0 : Int), []⟩ : ValueS))
  else
    Q_OwedOf_j2 n16 l15

noncomputable def Q_OwedOf_j3 (n26 : Int) (l30 : List (Str × ValueS)) : Option (((List (Str × ValueS)) × Int) ⊕ (((List (Str × ValueS)) × Int) ⊕ (List Change))) :=
  some (.inl (l30, w64 (n26 + (1 : Int))))

noncomputable def Q_OwedOf_b3 (v2 : (List PropS)) (n10 : Int) (v11 : PropS) (l25 : List (Str × ValueS)) (n26 : Int) : Option (((List (Str × ValueS)) × Int) ⊕ (((List (Str × ValueS)) × Int) ⊕ (List Change))) :=
  if n26 < (v2.length : Int) then
    (idx v2 n26).bind fun v27 =>
    (Q_above v11.Name v27.Name).bind fun v29 =>
    if v29 = true then
      Q_OwedOf_j3 n26 (mset l25 v11.Name (⟨(0 : Int), false, (0 : Int), []⟩ : ValueS))
    else
      Q_OwedOf_j3 n26 l25
  else
    Option.map .inr (some (.inl (l25, w64 (n10 + (1 : Int)))))

noncomputable def Q_OwedOf_l3 (v2 : (List PropS)) (n10 : Int) (v11 : PropS) (l25 : List (Str × ValueS)) (n26 : Int) : Option (((List (Str × ValueS)) × Int) ⊕ (List Change)) :=
  iter (fun x : (List (Str × ValueS)) × Int => Q_OwedOf_b3 v2 n10 v11 x.1 x.2) (l25, n26)

noncomputable def Q_OwedOf_b2 (p0x0 : TwinS) (v2 : (List PropS)) (n10 : Int) (v11 : PropS) (l15 : List (Str × ValueS)) (n16 : Int) : Option (((List (Str × ValueS)) × Int) ⊕ (((List (Str × ValueS)) × Int) ⊕ (List Change))) :=
  if n16 < (p0x0.Desired.length : Int) then
    (idx p0x0.Desired n16).bind fun v17 =>
    if (!(Q_valued v17)) = true then
      (Q_hidden p0x0.Desired v17).bind fun v20 =>
      if (!v20) = true then
        if v17.Prop_.Name = v11.Name then
          Q_OwedOf_j1 v11 l15 n16 true
        else
          (Q_above v17.Prop_.Name v11.Name).bind fun v21 =>
          Q_OwedOf_j1 v11 l15 n16 v21
      else
        Q_OwedOf_j1 v11 l15 n16 false
    else
      Q_OwedOf_j1 v11 l15 n16 false
  else
    Option.map .inr (Q_OwedOf_l3 v2 n10 v11 l15 (0 : Int))

noncomputable def Q_OwedOf_l2 (p0x0 : TwinS) (v2 : (List PropS)) (n10 : Int) (v11 : PropS) (l15 : List (Str × ValueS)) (n16 : Int) : Option (((List (Str × ValueS)) × Int) ⊕ (List Change)) :=
  iter (fun x : (List (Str × ValueS)) × Int => Q_OwedOf_b2 p0x0 v2 n10 v11 x.1 x.2) (l15, n16)

noncomputable def Q_OwedOf_j4 (n44 : Int) (l51 : List Change) : Option (((List Change) × Int) ⊕ (List Change)) :=
  some (.inl (l51, w64 (n44 + (1 : Int))))

noncomputable def Q_OwedOf_b5 (v4 : (List PropS)) (l33 : List (Str × ValueS)) (v37 : (List Str)) (l43 : List Change) (n44 : Int) : Option (((List Change) × Int) ⊕ (List Change)) :=
  if n44 < (v37.length : Int) then
    (idx v37 n44).bind fun v46 =>
    (mgetO l33 v46 (⟨(0 : Int), false, (0 : Int), []⟩ : ValueS)).bind fun v47 =>
    (Q_ValueOf v4 v46).bind fun v49 =>
    if v47 ≠ v49 then
      (Q_ValueOf v4 v46).bind fun v52 =>
      (app l43 [(⟨v46, v52, v47⟩ : Change)]).bind fun l53 =>
      Q_OwedOf_j4 n44 l53
    else
      Q_OwedOf_j4 n44 l43
  else
    Option.map .inr (some l43)

noncomputable def Q_OwedOf_l5 (v4 : (List PropS)) (l33 : List (Str × ValueS)) (v37 : (List Str)) (l43 : List Change) (n44 : Int) : Option (List Change) :=
  iter (fun x : (List Change) × Int => Q_OwedOf_b5 v4 l33 v37 x.1 x.2) (l43, n44)

noncomputable def Q_OwedOf_k5 (v2 : (List PropS)) (v4 : (List PropS)) (l33 : List (Str × ValueS)) : Option (List Change) :=
  (Q_namesOf [v2, v4]).bind fun v37 =>
  Q_OwedOf_l5 v4 l33 v37 [] (0 : Int)

noncomputable def Q_OwedOf_b4 (v2 : (List PropS)) (v4 : (List PropS)) (l33 : List (Str × ValueS)) (n34 : Int) : Option (((List (Str × ValueS)) × Int) ⊕ (List Change)) :=
  if n34 < (v2.length : Int) then
    (idx v2 n34).bind fun v35 =>
    some (.inl (mset l33 v35.Name v35.Value, w64 (n34 + (1 : Int))))
  else
    Option.map .inr (Q_OwedOf_k5 v2 v4 l33)

noncomputable def Q_OwedOf_l4 (v2 : (List PropS)) (v4 : (List PropS)) (l33 : List (Str × ValueS)) (n34 : Int) : Option (List Change) :=
  iter (fun x : (List (Str × ValueS)) × Int => Q_OwedOf_b4 v2 v4 x.1 x.2) (l33, n34)

noncomputable def Q_OwedOf_b1 (p0x0 : TwinS) (v2 : (List PropS)) (v4 : (List PropS)) (l9 : List (Str × ValueS)) (n10 : Int) : Option (((List (Str × ValueS)) × Int) ⊕ (List Change)) :=
  if n10 < (v4.length : Int) then
    (idx v4 n10).bind fun v11 =>
    Q_OwedOf_l2 p0x0 v2 n10 v11 (mset l9 v11.Name v11.Value) (0 : Int)
  else
    Option.map .inr (Q_OwedOf_l4 v2 v4 l9 (0 : Int))

noncomputable def Q_OwedOf_l1 (p0x0 : TwinS) (v2 : (List PropS)) (v4 : (List PropS)) (l9 : List (Str × ValueS)) (n10 : Int) : Option (List Change) :=
  iter (fun x : (List (Str × ValueS)) × Int => Q_OwedOf_b1 p0x0 v2 v4 x.1 x.2) (l9, n10)

noncomputable def Q_OwedOf (p0x0 : TwinS) : Option (List Change) :=
  (Q_VisibleOf p0x0.Desired).bind fun v2 =>
  (Q_VisibleOf p0x0.Reported).bind fun v4 =>
  Q_OwedOf_l1 p0x0 v2 v4 [] (0 : Int)

noncomputable def slices_Equal_Change_Change_b1 (p0x0 : List Change) (p1x0 : List Change) (n2 : Int) : Option (Int ⊕ Bool) :=
  if n2 < (p0x0.length : Int) then
    (idx p0x0 n2).bind fun v3 =>
    (idx p1x0 n2).bind fun v4 =>
    if v3 ≠ v4 then
      Option.map .inr (some false)
    else
      some (.inl (w64 (n2 + (1 : Int))))
  else
    Option.map .inr (some true)

noncomputable def slices_Equal_Change_Change_l1 (p0x0 : List Change) (p1x0 : List Change) (n2 : Int) : Option Bool :=
  iter (fun x : Int => slices_Equal_Change_Change_b1 p0x0 p1x0 x) n2

noncomputable def slices_Equal_Change_Change (p0x0 : List Change) (p1x0 : List Change) : Option Bool :=
  if (p0x0.length : Int) ≠ (p1x0.length : Int) then
    some false
  else
    slices_Equal_Change_Change_l1 p0x0 p1x0 (0 : Int)

/-- A copy of a list. -/
noncomputable def slices_Clone_Prop_Prop (p0x0 : List PropS) : Option (List PropS) :=
  app [] p0x0

noncomputable def propOrder (p0x0 : PropS) (p1x0 : PropS) : Int :=
  (Lib.compareBytes p0x0.Name p1x0.Name)

/-- Sorted by Go. -/
noncomputable def slices_SortFunc_Prop_Prop (p0x0 : List PropS) (fnb : PropS → PropS → Option Int) : Option (List PropS) :=
  sortO fnb p0x0

noncomputable def Q_PropsFault_1x (p0x0 : PropS) (p1x0 : PropS) : Option Bool :=
  (Q_above p0x0.Name p1x0.Name).bind fun v2 =>
  some v2

noncomputable def Q_PropsFault_j1 (n2 : Int) (c7 : Bool) : Option (Int ⊕ Int) :=
  if c7 = true then
    Option.map .inr (some (7 : Int))
  else
    some (.inl (w64 (n2 + (1 : Int))))

noncomputable def Q_PropsFault_b2 (p0x0 : List PropS) (n10 : Int) : Option (Int ⊕ Int) :=
  if n10 < (p0x0.length : Int) then
    (idx p0x0 n10).bind fun v11 =>
    (slices_ContainsFunc_Prop_Prop p0x0 (fun y0 => Q_PropsFault_1x y0 v11)).bind fun v13 =>
    if v13 = true then
      Option.map .inr (some (13 : Int))
    else
      some (.inl (w64 (n10 + (1 : Int))))
  else
    Option.map .inr (some (0 : Int))

noncomputable def Q_PropsFault_l2 (p0x0 : List PropS) (n10 : Int) : Option Int :=
  iter (fun x : Int => Q_PropsFault_b2 p0x0 x) n10

noncomputable def Q_PropsFault_b1 (p0x0 : List PropS) (n2 : Int) : Option (Int ⊕ Int) :=
  if n2 < (p0x0.length : Int) then
    (idx p0x0 n2).bind fun v3 =>
    (Q_PropName v3.Name).bind fun v5 =>
    if (!v5) = true then
      Option.map .inr (some (5 : Int))
    else
      (Q_ValueFault v3.Value).bind fun v6 =>
      if v6 ≠ (0 : Int) then
        Option.map .inr (some v6)
      else
        if v3.Value.Kind = (0 : Int) then
          Option.map .inr (some (4 : Int))
        else
          if (0 : Int) < n2 then
            (idx p0x0 (w64 (n2 - (1 : Int)))).bind fun v8 =>
            Q_PropsFault_j1 n2 (Op.bytesLess v3.Name v8.Name || v3.Name == v8.Name)
          else
            Q_PropsFault_j1 n2 false
  else
    Option.map .inr (Q_PropsFault_l2 p0x0 (0 : Int))

noncomputable def Q_PropsFault_l1 (p0x0 : List PropS) (n2 : Int) : Option Int :=
  iter (fun x : Int => Q_PropsFault_b1 p0x0 x) n2

noncomputable def Q_PropsFault (p0x0 : List PropS) : Option Int :=
  if (500 : Int) < (p0x0.length : Int) then
    some (2 : Int)
  else
    Q_PropsFault_l1 p0x0 (0 : Int)

noncomputable def Stream_RightProps_j1 (n11 : Int) (v16 : ValueS × Fleetmake_Stream) (l22 : List PropS) : Option (((List Int) × Int × (List PropS) × Int) ⊕ ((List PropS) × Fleetmake_Stream)) :=
  some (.inl (v16.2.L, v16.2.at_, l22, w64 (n11 + (1 : Int))))

noncomputable def Stream_RightProps_b1 (v1 : Int × Fleetmake_Stream) (l7 : List Int) (n8 : Int) (l10 : List PropS) (n11 : Int) : Option (((List Int) × Int × (List PropS) × Int) ⊕ ((List PropS) × Fleetmake_Stream)) :=
  if n11 < v1.1 then
    (slices_Clone_Prop_Prop l10).bind fun v13 =>
    (Stream_Some (⟨l7, n8⟩ : Fleetmake_Stream) [([97] : Str), ([97, 46, 120] : Str), ([97, 46, 121] : Str), ([97, 46, 120, 46, 112] : Str), ([98] : Str), ([98, 46, 122] : Str), ([97, 98] : Str)]).bind fun v15 =>
    (Stream_RightValue v15.2).bind fun v16 =>
    (app v13 [(⟨v15.1, v16.1⟩ : PropS)]).bind fun l17 =>
    (lenOk l17.length (fun r : (List PropS) => r.length) (slices_SortFunc_Prop_Prop l17 (fun y0 y1 => some (propOrder y0 y1)))).bind fun v19 =>
    (Q_PropsFault v19).bind fun v20 =>
    if v20 = (0 : Int) then
      Stream_RightProps_j1 n11 v16 v19
    else
      Stream_RightProps_j1 n11 v16 l10
  else
    Option.map .inr (some (l10, (⟨l7, n8⟩ : Fleetmake_Stream)))

noncomputable def Stream_RightProps_l1 (v1 : Int × Fleetmake_Stream) (l7 : List Int) (n8 : Int) (l10 : List PropS) (n11 : Int) : Option ((List PropS) × Fleetmake_Stream) :=
  iter (fun x : (List Int) × Int × (List PropS) × Int => Stream_RightProps_b1 v1 x.1 x.2.1 x.2.2.1 x.2.2.2) (l7, n8, l10, n11)

noncomputable def Stream_RightProps (p0x0 : Fleetmake_Stream) : Option ((List PropS) × Fleetmake_Stream) :=
  (Stream_Range p0x0 (0 : Int) (5 : Int)).bind fun v1 =>
  Stream_RightProps_l1 v1 v1.2.L v1.2.at_ [] (0 : Int)

noncomputable def Q_DifferOf_j1 (n8 : Int) (l16 : List Change) : Option (((List Change) × Int) ⊕ (List Change)) :=
  some (.inl (l16, w64 (n8 + (1 : Int))))

noncomputable def Q_DifferOf_b1 (p0x0 : List PropS) (p1x0 : List PropS) (v1 : (List Str)) (l7 : List Change) (n8 : Int) : Option (((List Change) × Int) ⊕ (List Change)) :=
  if n8 < (v1.length : Int) then
    (idx v1 n8).bind fun v10 =>
    (Q_ValueOf p0x0 v10).bind fun v11 =>
    (Q_ValueOf p1x0 v10).bind fun v12 =>
    if v11 ≠ v12 then
      (app l7 [(⟨v10, v11, v12⟩ : Change)]).bind fun l17 =>
      Q_DifferOf_j1 n8 l17
    else
      Q_DifferOf_j1 n8 l7
  else
    Option.map .inr (some l7)

noncomputable def Q_DifferOf_l1 (p0x0 : List PropS) (p1x0 : List PropS) (v1 : (List Str)) (l7 : List Change) (n8 : Int) : Option (List Change) :=
  iter (fun x : (List Change) × Int => Q_DifferOf_b1 p0x0 p1x0 v1 x.1 x.2) (l7, n8)

noncomputable def Q_DifferOf (p0x0 : List PropS) (p1x0 : List PropS) : Option (List Change) :=
  (Q_namesOf [p0x0, p1x0]).bind fun v1 =>
  Q_DifferOf_l1 p0x0 p1x0 v1 [] (0 : Int)

noncomputable def Stream_Changes_j2 (l9 : List Int) (n10 : Int) (l11 : List Change) : Option ((List Change) × Fleetmake_Stream) :=
  some (l11, (⟨l9, n10⟩ : Fleetmake_Stream))

noncomputable def Stream_Changes_j3 (l15 : List Int) (n16 : Int) (l17 : List Change) : Option ((List Change) × Fleetmake_Stream) :=
  Stream_Changes_j2 l15 n16 l17

noncomputable def Stream_Changes_j4 (l19 : List Int) (n20 : Int) (l21 : List Change) : Option ((List Change) × Fleetmake_Stream) :=
  Stream_Changes_j3 l19 n20 l21

noncomputable def Stream_Changes_j5 (l23 : List Int) (n24 : Int) (l25 : List Change) : Option ((List Change) × Fleetmake_Stream) :=
  Stream_Changes_j4 l23 n24 l25

noncomputable def Stream_Changes_j1 (v3 : (List Change)) (l5 : List Int) (n6 : Int) (c7 : Bool) : Option ((List Change) × Fleetmake_Stream) :=
  if c7 = true then
    (Stream_Next (⟨l5, n6⟩ : Fleetmake_Stream) (v3.length : Int)).bind fun v12 =>
    (idx v3 v12.1).bind fun v13 =>
    (Stream_Next v12.2 (4 : Int)).bind fun v14 =>
    if v14.1 = (0 : Int) then
      (Stream_PropName v14.2).bind fun v18 =>
      Stream_Changes_j3 v18.2.L v18.2.at_ (v3.set v12.1.toNat (⟨v18.1, v13.From, v13.To⟩ : Change))
    else
      if v14.1 = (1 : Int) then
        (Stream_Value v14.2).bind fun v22 =>
        Stream_Changes_j4 v22.2.L v22.2.at_ (v3.set v12.1.toNat (⟨v13.Name, v22.1, v13.To⟩ : Change))
      else
        if v14.1 = (2 : Int) then
          (Stream_Value v14.2).bind fun v26 =>
          Stream_Changes_j5 v26.2.L v26.2.at_ (v3.set v12.1.toNat (⟨v13.Name, v13.From, v26.1⟩ : Change))
        else
          Stream_Changes_j5 v14.2.L v14.2.at_ (v3.set v12.1.toNat (⟨v13.Name, v13.To, v13.To⟩ : Change))
  else
    Stream_Changes_j2 l5 n6 v3

noncomputable def Stream_Changes (p0x0 : Fleetmake_Stream) (p1x0 : List PropS) : Option ((List Change) × Fleetmake_Stream) :=
  (Stream_RightProps p0x0).bind fun v1 =>
  (Q_DifferOf p1x0 v1.1).bind fun v3 =>
  if (0 : Int) < (v3.length : Int) then
    (Stream_Flip v1.2 (5 : Int)).bind fun v8 =>
    Stream_Changes_j1 v3 v8.2.L v8.2.at_ v8.1
  else
    Stream_Changes_j1 v3 v1.2.L v1.2.at_ false

noncomputable def twin_CheckChanges_j1 (n2 : Int) (c9 : Bool) : Option (Int ⊕ Int) :=
  if c9 = true then
    Option.map .inr (some (7 : Int))
  else
    some (.inl (w64 (n2 + (1 : Int))))

noncomputable def twin_CheckChanges_b1 (p0x0 : List Change) (n2 : Int) : Option (Int ⊕ Int) :=
  if n2 < (p0x0.length : Int) then
    (idx p0x0 n2).bind fun v3 =>
    (twin_isName v3.Name).bind fun v5 =>
    if (!v5) = true then
      Option.map .inr (some (5 : Int))
    else
      (twin_valueFault v3.From).bind fun v6 =>
      (twin_valueFault v3.To).bind fun v7 =>
      (base_First [v6, v7]).bind fun v8 =>
      if v8 ≠ (0 : Int) then
        Option.map .inr (some v8)
      else
        if v3.From = v3.To then
          Option.map .inr (some (3 : Int))
        else
          if (0 : Int) < n2 then
            (idx p0x0 (w64 (n2 - (1 : Int)))).bind fun v10 =>
            twin_CheckChanges_j1 n2 (Op.bytesLess v3.Name v10.Name || v3.Name == v10.Name)
          else
            twin_CheckChanges_j1 n2 false
  else
    Option.map .inr (some (0 : Int))

noncomputable def twin_CheckChanges_l1 (p0x0 : List Change) (n2 : Int) : Option Int :=
  iter (fun x : Int => twin_CheckChanges_b1 p0x0 x) n2

noncomputable def twin_CheckChanges (p0x0 : List Change) : Option Int :=
  if (1000 : Int) < (p0x0.length : Int) then
    some (2 : Int)
  else
    twin_CheckChanges_l1 p0x0 (0 : Int)

noncomputable def twin_Take_1x (p0x0 : Cell) (p1x0 : Stamp) : Option Bool :=
  (twin_byStamp p0x0.Stamp p1x0).bind fun v2 =>
  some (decide ((0 : Int) ≤ v2))

noncomputable def slices_Grow_Cell_Cell_n0x_j1 (l2 : List Cell) : Option (List Cell) :=
  some l2

noncomputable def slices_Grow_Cell_Cell_n0x (p1x0 : Int) : Option (List Cell) :=
  if p1x0 < (0 : Int) then
    none
  else
    if (0 : Int) < (w64 (p1x0 - (w64 ((0 : Int) - (0 : Int))))) then
      (slc ([] : List Cell) (0 : Int) (0 : Int)).bind fun l3 =>
      (mkS (⟨(⟨[], (⟨(0 : Int), false, (0 : Int), []⟩ : ValueS)⟩ : PropS), (⟨(0 : Int), [], (0 : Int)⟩ : Stamp)⟩ : Cell) (w64 (p1x0 - (w64 ((0 : Int) - (0 : Int))))) (w64 (p1x0 - (w64 ((0 : Int) - (0 : Int)))))).bind fun l4 =>
      (slc l4 (0 : Int) (0 : Int)).bind fun l6 =>
      slices_Grow_Cell_Cell_n0x_j1 l6
    else
      slices_Grow_Cell_Cell_n0x_j1 []

noncomputable def slices_Concat_Cell_Cell_b2 (p0x0 : List (List Cell)) (l12 : List Cell) (n13 : Int) : Option (((List Cell) × Int) ⊕ (List Cell)) :=
  if n13 < (p0x0.length : Int) then
    (idx p0x0 n13).bind fun v14 =>
    (app l12 v14).bind fun l15 =>
    some (.inl (l15, w64 (n13 + (1 : Int))))
  else
    Option.map .inr (some l12)

noncomputable def slices_Concat_Cell_Cell_l2 (p0x0 : List (List Cell)) (l12 : List Cell) (n13 : Int) : Option (List Cell) :=
  iter (fun x : (List Cell) × Int => slices_Concat_Cell_Cell_b2 p0x0 x.1 x.2) (l12, n13)

noncomputable def slices_Concat_Cell_Cell_k1 (p0x0 : List (List Cell)) (n3 : Int) : Option (List Cell) :=
  (slices_Grow_Cell_Cell_n0x n3).bind fun v6 =>
  slices_Concat_Cell_Cell_l2 p0x0 v6 (0 : Int)

noncomputable def slices_Concat_Cell_Cell_b1 (p0x0 : List (List Cell)) (n3 : Int) (n4 : Int) : Option ((Int × Int) ⊕ (List Cell)) :=
  if n4 < (p0x0.length : Int) then
    (idx p0x0 n4).bind fun v5 =>
    if (w64 (n3 + (v5.length : Int))) < (0 : Int) then
      none
    else
      some (.inl (w64 (n3 + (v5.length : Int)), w64 (n4 + (1 : Int))))
  else
    Option.map .inr (slices_Concat_Cell_Cell_k1 p0x0 n3)

noncomputable def slices_Concat_Cell_Cell_l1 (p0x0 : List (List Cell)) (n3 : Int) (n4 : Int) : Option (List Cell) :=
  iter (fun x : Int × Int => slices_Concat_Cell_Cell_b1 p0x0 x.1 x.2) (n3, n4)

noncomputable def slices_Concat_Cell_Cell (p0x0 : List (List Cell)) : Option (List Cell) :=
  slices_Concat_Cell_Cell_l1 p0x0 (0 : Int) (0 : Int)

noncomputable def twin_joined_j2 (l11 : List Cell) (l12 : List Cell) (l14 : List Cell) : Option (((List Cell) × (List Cell) × (List Cell)) ⊕ ((List Cell) × Int)) :=
  some (.inl (l11, l12, l14))

noncomputable def twin_joined_j4 (l5 : List Cell) (l6 : List Cell) (l35 : List Cell) : Option (((List Cell) × (List Cell) × (List Cell)) ⊕ ((List Cell) × Int)) :=
  (slc l5 (1 : Int) (l5.length : Int)).bind fun l42 =>
  (slc l6 (1 : Int) (l6.length : Int)).bind fun l43 =>
  twin_joined_j2 l42 l43 l35

noncomputable def twin_joined_j3 (l5 : List Cell) (l6 : List Cell) (l8 : List Cell) (v29 : Int) (c30 : Bool) : Option (((List Cell) × (List Cell) × (List Cell)) ⊕ ((List Cell) × Int)) :=
  if c30 = true then
    Option.map .inr (some ([], (13 : Int)))
  else
    if (0 : Int) ≤ v29 then
      (idx l5 (0 : Int)).bind fun v36 =>
      (app l8 [v36]).bind fun l37 =>
      twin_joined_j4 l5 l6 l37
    else
      (idx l6 (0 : Int)).bind fun v39 =>
      (app l8 [v39]).bind fun l40 =>
      twin_joined_j4 l5 l6 l40

noncomputable def twin_joined_k5 (l5 : List Cell) (l6 : List Cell) (l8 : List Cell) : Option ((List Cell) × Int) :=
  (slices_Concat_Cell_Cell [l8, l5, l6]).bind fun v44 =>
  some (v44, (0 : Int))

noncomputable def twin_joined_j1 (l5 : List Cell) (l6 : List Cell) (l8 : List Cell) (c10 : Bool) : Option (((List Cell) × (List Cell) × (List Cell)) ⊕ ((List Cell) × Int)) :=
  if c10 = true then
    (idx l5 (0 : Int)).bind fun v15 =>
    (idx l6 (0 : Int)).bind fun v16 =>
    if (Lib.compareBytes v15.Prop_.Name v16.Prop_.Name) < (0 : Int) then
      (idx l5 (0 : Int)).bind fun v17 =>
      (app l8 [v17]).bind fun l18 =>
      (slc l5 (1 : Int) (l5.length : Int)).bind fun l20 =>
      twin_joined_j2 l20 l6 l18
    else
      if (0 : Int) < (Lib.compareBytes v15.Prop_.Name v16.Prop_.Name) then
        (idx l6 (0 : Int)).bind fun v22 =>
        (app l8 [v22]).bind fun l23 =>
        (slc l6 (1 : Int) (l6.length : Int)).bind fun l25 =>
        twin_joined_j2 l5 l25 l23
      else
        (idx l5 (0 : Int)).bind fun v27 =>
        (idx l6 (0 : Int)).bind fun v28 =>
        (twin_byStamp v27.Stamp v28.Stamp).bind fun v29 =>
        if v29 = (0 : Int) then
          (idx l5 (0 : Int)).bind fun v31 =>
          (idx l6 (0 : Int)).bind fun v32 =>
          twin_joined_j3 l5 l6 l8 v29 (decide (v31.Prop_.Value ≠ v32.Prop_.Value))
        else
          twin_joined_j3 l5 l6 l8 v29 false
  else
    Option.map .inr (twin_joined_k5 l5 l6 l8)

noncomputable def twin_joined_b1 (l5 : List Cell) (l6 : List Cell) (l8 : List Cell) : Option (((List Cell) × (List Cell) × (List Cell)) ⊕ ((List Cell) × Int)) :=
  twin_joined_j1 l5 l6 l8 ((decide ((0 : Int) < (l5.length : Int))) && (decide ((0 : Int) < (l6.length : Int))))

noncomputable def twin_joined_l1 (l5 : List Cell) (l6 : List Cell) (l8 : List Cell) : Option ((List Cell) × Int) :=
  iter (fun x : (List Cell) × (List Cell) × (List Cell) => twin_joined_b1 x.1 x.2.1 x.2.2) (l5, l6, l8)

noncomputable def twin_joined (p0x0 : List Cell) (p1x0 : List Cell) : Option ((List Cell) × Int) :=
  twin_joined_l1 p0x0 p1x0 []

noncomputable def twin_merged_j2 (v1 : (List Cell) × Int) (n4 : Int) : Option ((List Cell) × Int) :=
  if n4 ≠ (0 : Int) then
    some ([], n4)
  else
    some (v1.1, (0 : Int))

noncomputable def twin_merged_j1 (v1 : (List Cell) × Int) (c3 : Bool) : Option ((List Cell) × Int) :=
  if c3 = true then
    twin_merged_j2 v1 (2 : Int)
  else
    twin_merged_j2 v1 v1.2

noncomputable def twin_merged (p0x0 : List Cell) (p1x0 : List Cell) : Option ((List Cell) × Int) :=
  (twin_joined p0x0 p1x0).bind fun v1 =>
  twin_merged_j1 v1 ((decide (v1.2 = (0 : Int))) && (decide ((500 : Int) < (v1.1.length : Int))))

/-- A copy of a list. -/
noncomputable def slices_Clone_Cell_Cell (p0x0 : List Cell) : Option (List Cell) :=
  app [] p0x0

noncomputable def twin_Take_k1 (p0x0 : TwinS) (l13 : List Cell) : Option (TwinS × Int) :=
  (twin_merged p0x0.Reported l13).bind fun v20 =>
  if v20.2 ≠ (0 : Int) then
    some ((⟨[], []⟩ : TwinS), v20.2)
  else
    (slices_Clone_Cell_Cell p0x0.Desired).bind fun v22 =>
    some ((⟨v22, v20.1⟩ : TwinS), (0 : Int))

noncomputable def twin_Take_b1 (p0x0 : TwinS) (p1x0 : List Change) (p2x0 : Stamp) (l13 : List Cell) (n14 : Int) : Option (((List Cell) × Int) ⊕ (TwinS × Int)) :=
  if n14 < (p1x0.length : Int) then
    (idx p1x0 n14).bind fun v16 =>
    (app l13 [(⟨(⟨v16.Name, v16.To⟩ : PropS), p2x0⟩ : Cell)]).bind fun l18 =>
    some (.inl (l18, w64 (n14 + (1 : Int))))
  else
    Option.map .inr (twin_Take_k1 p0x0 l13)

noncomputable def twin_Take_l1 (p0x0 : TwinS) (p1x0 : List Change) (p2x0 : Stamp) (l13 : List Cell) (n14 : Int) : Option (TwinS × Int) :=
  iter (fun x : (List Cell) × Int => twin_Take_b1 p0x0 p1x0 p2x0 x.1 x.2) (l13, n14)

noncomputable def twin_Take (p0x0 : TwinS) (p1x0 : List Change) (p2x0 : Stamp) : Option (TwinS × Int) :=
  (twin_twinFault p0x0).bind fun v4 =>
  (twin_CheckChanges p1x0).bind fun v5 =>
  (twin_stampFault p2x0).bind fun v6 =>
  (base_First [v4, v5, v6]).bind fun v7 =>
  if v7 ≠ (0 : Int) then
    some ((⟨[], []⟩ : TwinS), v7)
  else
    (slices_ContainsFunc_Cell_Cell p0x0.Reported (fun y0 => twin_Take_1x y0 p2x0)).bind fun v8 =>
    if v8 = true then
      some ((⟨[], []⟩ : TwinS), (7 : Int))
    else
      twin_Take_l1 p0x0 p1x0 p2x0 [] (0 : Int)

noncomputable def Q_ChangesFault_j1 (n2 : Int) (c11 : Bool) : Option (Int ⊕ Int) :=
  if c11 = true then
    Option.map .inr (some (7 : Int))
  else
    some (.inl (w64 (n2 + (1 : Int))))

noncomputable def Q_ChangesFault_k2 (p0x0 : List Change) (n2 : Int) (v3 : Change) : Option (Int ⊕ Int) :=
  if v3.From = v3.To then
    Option.map .inr (some (3 : Int))
  else
    if (0 : Int) < n2 then
      (idx p0x0 (w64 (n2 - (1 : Int)))).bind fun v12 =>
      Q_ChangesFault_j1 n2 (Op.bytesLess v3.Name v12.Name || v3.Name == v12.Name)
    else
      Q_ChangesFault_j1 n2 false

noncomputable def Q_ChangesFault_b2 (p0x0 : List Change) (n2 : Int) (v3 : Change) (v6 : Int) (v7 : Int) (n9 : Int) : Option (Int ⊕ (Int ⊕ Int)) :=
  if n9 < ([v6, v7].length : Int) then
    (idx [v6, v7] n9).bind fun v10 =>
    if v10 ≠ (0 : Int) then
      Option.map .inr (Option.map .inr (some v10))
    else
      some (.inl (w64 (n9 + (1 : Int))))
  else
    Option.map .inr (Q_ChangesFault_k2 p0x0 n2 v3)

noncomputable def Q_ChangesFault_l2 (p0x0 : List Change) (n2 : Int) (v3 : Change) (v6 : Int) (v7 : Int) (n9 : Int) : Option (Int ⊕ Int) :=
  iter (fun x : Int => Q_ChangesFault_b2 p0x0 n2 v3 v6 v7 x) n9

noncomputable def Q_ChangesFault_b1 (p0x0 : List Change) (n2 : Int) : Option (Int ⊕ Int) :=
  if n2 < (p0x0.length : Int) then
    (idx p0x0 n2).bind fun v3 =>
    (Q_PropName v3.Name).bind fun v5 =>
    if (!v5) = true then
      Option.map .inr (some (5 : Int))
    else
      (Q_ValueFault v3.From).bind fun v6 =>
      (Q_ValueFault v3.To).bind fun v7 =>
      Q_ChangesFault_l2 p0x0 n2 v3 v6 v7 (0 : Int)
  else
    Option.map .inr (some (0 : Int))

noncomputable def Q_ChangesFault_l1 (p0x0 : List Change) (n2 : Int) : Option Int :=
  iter (fun x : Int => Q_ChangesFault_b1 p0x0 x) n2

noncomputable def Q_ChangesFault (p0x0 : List Change) : Option Int :=
  if (1000 : Int) < (p0x0.length : Int) then
    some (2 : Int)
  else
    Q_ChangesFault_l1 p0x0 (0 : Int)

noncomputable def L_errs_b1 (p0x0 : List Int) (n2 : Int) : Option (Int ⊕ Int) :=
  if n2 < (p0x0.length : Int) then
    (idx p0x0 n2).bind fun v3 =>
    if v3 ≠ (0 : Int) then
      Option.map .inr (some v3)
    else
      some (.inl (w64 (n2 + (1 : Int))))
  else
    Option.map .inr (some (0 : Int))

noncomputable def L_errs_l1 (p0x0 : List Int) (n2 : Int) : Option Int :=
  iter (fun x : Int => L_errs_b1 p0x0 x) n2

noncomputable def L_errs (p0x0 : List Int) : Option Int :=
  L_errs_l1 p0x0 (0 : Int)

noncomputable def Q_TakeOf_1x (p0x0 : Cell) (p1x0 : Stamp) : Bool :=
  decide ((0 : Int) ≤ (Q_StampOrder p0x0.Stamp p1x0))

noncomputable def Q_MergeOf_1x (p0x0 : Cell) (p1x0 : Cell) : Int :=
  (Q_StampOrder p0x0.Stamp p1x0.Stamp)

noncomputable def Q_MergeOf_2x (p0x0 : Cell) (p1x0 : Cell) : Int :=
  (Lib.compareBytes p0x0.Prop_.Name p1x0.Prop_.Name)

/-- Sorted by Go. -/
noncomputable def slices_SortFunc_Cell_Cell (p0x0 : List Cell) (fnb : Cell → Cell → Option Int) : Option (List Cell) :=
  sortO fnb p0x0

noncomputable def Q_MergeOf_j1 (l7 : List (Str × Cell)) (n8 : Int) (v9 : Cell) (c13 : Bool) : Option (((List (Str × Cell)) × Int) ⊕ ((List Cell) × Int)) :=
  if c13 = true then
    Option.map .inr (some ([], (13 : Int)))
  else
    some (.inl (mset l7 v9.Prop_.Name v9, w64 (n8 + (1 : Int))))

noncomputable def Q_MergeOf_b2 (v2m : Str × Cell) (l19 : List Cell) : Option ((List Cell) ⊕ ((List Cell) × Int)) :=
  (app l19 [v2m.2]).bind fun l24 =>
  some (.inl l24)

noncomputable def Q_MergeOf_f2 (l19 : List Cell) : Option ((List Cell) × Int) :=
  (lenOk l19.length (fun r : (List Cell) => r.length) (slices_SortFunc_Cell_Cell l19 (fun y0 y1 => some (Q_MergeOf_2x y0 y1)))).bind fun v21 =>
  if (500 : Int) < (v21.length : Int) then
    some ([], (2 : Int))
  else
    some (v21, (0 : Int))

noncomputable def Q_MergeOf_l2 (l7 : List (Str × Cell)) (l19 : List Cell) : Option ((List Cell) × Int) :=
  overP l7 (fun p => loopL (fun e (x : (List Cell)) => Q_MergeOf_b2 e x) (fun x : (List Cell) => Q_MergeOf_f2 x) p l19)

noncomputable def Q_MergeOf_b1 (v3 : (List Cell)) (l7 : List (Str × Cell)) (n8 : Int) : Option (((List (Str × Cell)) × Int) ⊕ ((List Cell) × Int)) :=
  if n8 < (v3.length : Int) then
    (idx v3 n8).bind fun v9 =>
    (mget2 l7 v9.Prop_.Name (⟨(⟨[], (⟨(0 : Int), false, (0 : Int), []⟩ : ValueS)⟩ : PropS), (⟨(0 : Int), [], (0 : Int)⟩ : Stamp)⟩ : Cell)).bind fun v11 =>
    Q_MergeOf_j1 l7 n8 v9 (v11.2 && ((decide ((Q_StampOrder v11.1.Stamp v9.Stamp) = (0 : Int))) && (decide (v11.1 ≠ v9))))
  else
    Option.map .inr (Q_MergeOf_l2 l7 [])

noncomputable def Q_MergeOf_l1 (v3 : (List Cell)) (l7 : List (Str × Cell)) (n8 : Int) : Option ((List Cell) × Int) :=
  iter (fun x : (List (Str × Cell)) × Int => Q_MergeOf_b1 v3 x.1 x.2) (l7, n8)

noncomputable def Q_MergeOf (p0x0 : List Cell) (p1x0 : List Cell) : Option ((List Cell) × Int) :=
  (slices_Concat_Cell_Cell [p0x0, p1x0]).bind fun v1 =>
  (lenOk v1.length (fun r : (List Cell) => r.length) (slices_SortStableFunc_Cell_Cell v1 (fun y0 y1 => some (Q_MergeOf_1x y0 y1)))).bind fun v3 =>
  Q_MergeOf_l1 v3 [] (0 : Int)

noncomputable def Q_TakeOf_k1 (p0x0 : TwinS) (l9 : List Cell) : Option (TwinS × Int) :=
  (Q_MergeOf p0x0.Reported l9).bind fun v16 =>
  if v16.2 ≠ (0 : Int) then
    some ((⟨[], []⟩ : TwinS), v16.2)
  else
    (slices_Clone_Cell_Cell p0x0.Desired).bind fun v18 =>
    some ((⟨v18, v16.1⟩ : TwinS), (0 : Int))

noncomputable def Q_TakeOf_b1 (p0x0 : TwinS) (p1x0 : List Change) (p2x0 : Stamp) (l9 : List Cell) (n10 : Int) : Option (((List Cell) × Int) ⊕ (TwinS × Int)) :=
  if n10 < (p1x0.length : Int) then
    (idx p1x0 n10).bind fun v12 =>
    (app l9 [(⟨(⟨v12.Name, v12.To⟩ : PropS), p2x0⟩ : Cell)]).bind fun l14 =>
    some (.inl (l14, w64 (n10 + (1 : Int))))
  else
    Option.map .inr (Q_TakeOf_k1 p0x0 l9)

noncomputable def Q_TakeOf_l1 (p0x0 : TwinS) (p1x0 : List Change) (p2x0 : Stamp) (l9 : List Cell) (n10 : Int) : Option (TwinS × Int) :=
  iter (fun x : (List Cell) × Int => Q_TakeOf_b1 p0x0 p1x0 p2x0 x.1 x.2) (l9, n10)

noncomputable def Q_TakeOf (p0x0 : TwinS) (p1x0 : List Change) (p2x0 : Stamp) : Option (TwinS × Int) :=
  (slices_ContainsFunc_Cell_Cell p0x0.Reported (fun y0 => some (Q_TakeOf_1x y0 p2x0))).bind fun v4 =>
  if v4 = true then
    some ((⟨[], []⟩ : TwinS), (7 : Int))
  else
    Q_TakeOf_l1 p0x0 p1x0 p2x0 [] (0 : Int)

noncomputable def slices_Equal_Cell_Cell_b1 (p0x0 : List Cell) (p1x0 : List Cell) (n2 : Int) : Option (Int ⊕ Bool) :=
  if n2 < (p0x0.length : Int) then
    (idx p0x0 n2).bind fun v3 =>
    (idx p1x0 n2).bind fun v4 =>
    if v3 ≠ v4 then
      Option.map .inr (some false)
    else
      some (.inl (w64 (n2 + (1 : Int))))
  else
    Option.map .inr (some true)

noncomputable def slices_Equal_Cell_Cell_l1 (p0x0 : List Cell) (p1x0 : List Cell) (n2 : Int) : Option Bool :=
  iter (fun x : Int => slices_Equal_Cell_Cell_b1 p0x0 p1x0 x) n2

noncomputable def slices_Equal_Cell_Cell (p0x0 : List Cell) (p1x0 : List Cell) : Option Bool :=
  if (p0x0.length : Int) ≠ (p1x0.length : Int) then
    some false
  else
    slices_Equal_Cell_Cell_l1 p0x0 p1x0 (0 : Int)

noncomputable def Q_SameTwin_j1 (c3 : Bool) : Option Bool :=
  some c3

noncomputable def Q_SameTwin (p0x0 : TwinS) (p1x0 : TwinS) : Option Bool :=
  (slices_Equal_Cell_Cell p0x0.Desired p1x0.Desired).bind fun v4 =>
  if v4 = true then
    (slices_Equal_Cell_Cell p0x0.Reported p1x0.Reported).bind fun v5 =>
    Q_SameTwin_j1 v5
  else
    Q_SameTwin_j1 false

noncomputable def twin_CheckProps_1x (p0x0 : Str) (p1x0 : List PropS) : Option Bool :=
  (twin_find p1x0 p0x0).bind fun v1 =>
  some (decide ((0 : Int) ≤ v1))

noncomputable def twin_above_j1 (n2 : Int) (c3 : Bool) : Option (Int ⊕ Bool) :=
  if c3 = true then
    Option.map .inr (some true)
  else
    some (.inl (w64 (n2 + (1 : Int))))

noncomputable def twin_above_b1 (p0x0 : Str) (fnb : Str → Option Bool) (n2 : Int) : Option (Int ⊕ Bool) :=
  if n2 < (p0x0.length : Int) then
    (idx p0x0 n2).bind fun c4 =>
    if (c4.toNat : Int) = (46 : Int) then
      (slc p0x0 (0 : Int) n2).bind fun l5 =>
      (fnb l5).bind fun v6 =>
      twin_above_j1 n2 v6
    else
      twin_above_j1 n2 false
  else
    Option.map .inr (some false)

noncomputable def twin_above_l1 (p0x0 : Str) (fnb : Str → Option Bool) (n2 : Int) : Option Bool :=
  iter (fun x : Int => twin_above_b1 p0x0 fnb x) n2

noncomputable def twin_above (p0x0 : Str) (fnb : Str → Option Bool) : Option Bool :=
  twin_above_l1 p0x0 fnb (0 : Int)

noncomputable def twin_CheckProps_j1 (n3 : Int) (c8 : Bool) : Option (Int ⊕ Int) :=
  if c8 = true then
    Option.map .inr (some (7 : Int))
  else
    some (.inl (w64 (n3 + (1 : Int))))

noncomputable def twin_CheckProps_b2 (p0x0 : List PropS) (n11 : Int) : Option (Int ⊕ Int) :=
  if n11 < (p0x0.length : Int) then
    (idx p0x0 n11).bind fun v12 =>
    (twin_above v12.Name (fun y0 => twin_CheckProps_1x y0 p0x0)).bind fun v14 =>
    if v14 = true then
      Option.map .inr (some (13 : Int))
    else
      some (.inl (w64 (n11 + (1 : Int))))
  else
    Option.map .inr (some (0 : Int))

noncomputable def twin_CheckProps_l2 (p0x0 : List PropS) (n11 : Int) : Option Int :=
  iter (fun x : Int => twin_CheckProps_b2 p0x0 x) n11

noncomputable def twin_CheckProps_b1 (p0x0 : List PropS) (n3 : Int) : Option (Int ⊕ Int) :=
  if n3 < (p0x0.length : Int) then
    (idx p0x0 n3).bind fun v4 =>
    (twin_isName v4.Name).bind fun v6 =>
    if (!v6) = true then
      Option.map .inr (some (5 : Int))
    else
      (twin_valueFault v4.Value).bind fun v7 =>
      if v7 ≠ (0 : Int) then
        Option.map .inr (some v7)
      else
        if v4.Value.Kind = (0 : Int) then
          Option.map .inr (some (4 : Int))
        else
          if (0 : Int) < n3 then
            (idx p0x0 (w64 (n3 - (1 : Int)))).bind fun v9 =>
            twin_CheckProps_j1 n3 (Op.bytesLess v4.Name v9.Name || v4.Name == v9.Name)
          else
            twin_CheckProps_j1 n3 false
  else
    Option.map .inr (twin_CheckProps_l2 p0x0 (0 : Int))

noncomputable def twin_CheckProps_l1 (p0x0 : List PropS) (n3 : Int) : Option Int :=
  iter (fun x : Int => twin_CheckProps_b1 p0x0 x) n3

noncomputable def twin_CheckProps (p0x0 : List PropS) : Option Int :=
  if (500 : Int) < (p0x0.length : Int) then
    some (2 : Int)
  else
    twin_CheckProps_l1 p0x0 (0 : Int)

noncomputable def twin_Differ_j1 (n12 : Int) (l20 : List Change) : Option (((List Change) × Int) ⊕ ((List Change) × Int)) :=
  some (.inl (l20, w64 (n12 + (1 : Int))))

noncomputable def twin_Differ_b1 (p0x0 : List PropS) (p1x0 : List PropS) (v5 : (List Str)) (l11 : List Change) (n12 : Int) : Option (((List Change) × Int) ⊕ ((List Change) × Int)) :=
  if n12 < (v5.length : Int) then
    (idx v5 n12).bind fun v14 =>
    (twin_valueOf p0x0 v14).bind fun v15 =>
    (twin_valueOf p1x0 v14).bind fun v16 =>
    if v15 ≠ v16 then
      (app l11 [(⟨v14, v15, v16⟩ : Change)]).bind fun l21 =>
      twin_Differ_j1 n12 l21
    else
      twin_Differ_j1 n12 l11
  else
    Option.map .inr (some (l11, (0 : Int)))

noncomputable def twin_Differ_l1 (p0x0 : List PropS) (p1x0 : List PropS) (v5 : (List Str)) (l11 : List Change) (n12 : Int) : Option ((List Change) × Int) :=
  iter (fun x : (List Change) × Int => twin_Differ_b1 p0x0 p1x0 v5 x.1 x.2) (l11, n12)

noncomputable def twin_Differ (p0x0 : List PropS) (p1x0 : List PropS) : Option ((List Change) × Int) :=
  (twin_CheckProps p0x0).bind fun v1 =>
  (twin_CheckProps p1x0).bind fun v2 =>
  (base_First [v1, v2]).bind fun v3 =>
  if v3 ≠ (0 : Int) then
    some ([], v3)
  else
    (twin_names [p0x0, p1x0]).bind fun v5 =>
    twin_Differ_l1 p0x0 p1x0 v5 [] (0 : Int)

noncomputable def L_twinned_j1 (c3 : Bool) : Option Bool :=
  some c3

noncomputable def L_twinned : Option Bool :=
  (twin_Differ ([] : List PropS) [(⟨([97] : Str), (⟨(1 : Int), false, (0 : Int), []⟩ : ValueS)⟩ : PropS)]).bind fun v1 =>
  if v1.2 = (0 : Int) then
    if (v1.1.length : Int) = (1 : Int) then
      (idx v1.1 (0 : Int)).bind fun v4 =>
      L_twinned_j1 (decide (v4.Name = ([97] : Str)))
    else
      L_twinned_j1 false
  else
    L_twinned_j1 false

noncomputable def L_TwinsSettle_j6 (c41 : Bool) : Option Bool :=
  some c41

noncomputable def L_TwinsSettle_j5 (v31 : TwinS × Int) (n37 : Int) (l38 : List Cell) (l39 : List Cell) : Option Bool :=
  if v31.2 = n37 then
    (Q_SameTwin v31.1 (⟨l38, l39⟩ : TwinS)).bind fun v42 =>
    if v42 = true then
      (L_twinned).bind fun v43 =>
      L_TwinsSettle_j6 v43
    else
      L_TwinsSettle_j6 false
  else
    L_TwinsSettle_j6 false

noncomputable def L_TwinsSettle_j4 (v2 : TwinS × Fleetmake_Stream) (n11 : Int) (q12 : Str) (n13 : Int) (v18 : Int) (l28 : List Change) : Option Bool :=
  (twin_Take v2.1 l28 (⟨n11, q12, n13⟩ : Stamp)).bind fun v31 =>
  (Q_ChangesFault l28).bind fun v34 =>
  (Q_StampFault (⟨n11, q12, n13⟩ : Stamp)).bind fun v35 =>
  (L_errs [v18, v34, v35]).bind fun v36 =>
  if v36 = (0 : Int) then
    (Q_TakeOf v2.1 l28 (⟨n11, q12, n13⟩ : Stamp)).bind fun v40 =>
    L_TwinsSettle_j5 v31 v40.2 v40.1.Desired v40.1.Reported
  else
    L_TwinsSettle_j5 v31 v36 [] []

noncomputable def L_TwinsSettle_j3 (v2 : TwinS × Fleetmake_Stream) (l9 : List Int) (n10 : Int) (n11 : Int) (q12 : Str) (n13 : Int) (v15 : (List Change) × Int) (v18 : Int) (c24 : Bool) : Option Bool :=
  if c24 = true then
    some false
  else
    (Stream_Flip (⟨l9, n10⟩ : Fleetmake_Stream) (3 : Int)).bind fun v26 =>
    if v26.1 = true then
      (Stream_Changes v26.2 ([] : List PropS)).bind fun v29 =>
      L_TwinsSettle_j4 v2 n11 q12 n13 v18 v29.1
    else
      L_TwinsSettle_j4 v2 n11 q12 n13 v18 v15.1

noncomputable def L_TwinsSettle_j2 (v2 : TwinS × Fleetmake_Stream) (l9 : List Int) (n10 : Int) (n11 : Int) (q12 : Str) (n13 : Int) (v15 : (List Change) × Int) (v17 : Bool × Int) (v18 : Int) (l20 : List Change) : Option Bool :=
  if v15.2 ≠ v18 then
    L_TwinsSettle_j3 v2 l9 n10 n11 q12 n13 v15 v18 true
  else
    if v17.2 ≠ v18 then
      L_TwinsSettle_j3 v2 l9 n10 n11 q12 n13 v15 v18 true
    else
      (slices_Equal_Change_Change v15.1 l20).bind fun v25 =>
      L_TwinsSettle_j3 v2 l9 n10 n11 q12 n13 v15 v18 ((!v25) || (if v18 = (0 : Int) then v17.1 != (decide ((l20.length : Int) = (0 : Int))) else v17.1 != false))

noncomputable def L_TwinsSettle_j1 (v2 : TwinS × Fleetmake_Stream) (l9 : List Int) (n10 : Int) (n11 : Int) (q12 : Str) (n13 : Int) : Option Bool :=
  (twin_Owed v2.1).bind fun v15 =>
  (twin_Settled v2.1).bind fun v17 =>
  (Q_TwinFault v2.1).bind fun v18 =>
  if v18 = (0 : Int) then
    (Q_OwedOf v2.1).bind fun v21 =>
    L_TwinsSettle_j2 v2 l9 n10 n11 q12 n13 v15 v17 v18 v21
  else
    L_TwinsSettle_j2 v2 l9 n10 n11 q12 n13 v15 v17 v18 []

noncomputable def L_TwinsSettle (p0x0 : List Int) : Option Bool :=
  (Stream_Twin (⟨p0x0, (0 : Int)⟩ : Fleetmake_Stream)).bind fun v2 =>
  (Stream_Pick v2.2 [(9 : Int), (10 : Int), (10 : Int), (10 : Int)]).bind fun v3 =>
  (Stream_Some v3.2 [([100] : Str), ([107] : Str)]).bind fun v4 =>
  (Stream_Pick v4.2 [(0 : Int), (1 : Int)]).bind fun v5 =>
  (Stream_Flip v5.2 (15 : Int)).bind fun v8 =>
  if v8.1 = true then
    (Stream_Stamp v8.2).bind fun v14 =>
    L_TwinsSettle_j1 v2 v14.2.L v14.2.at_ v14.1.At v14.1.By v14.1.No
  else
    L_TwinsSettle_j1 v2 v8.2.L v8.2.at_ v3.1 v4.1 v5.1

end Go.Beacon

