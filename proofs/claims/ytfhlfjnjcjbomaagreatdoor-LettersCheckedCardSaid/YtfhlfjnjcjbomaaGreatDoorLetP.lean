/- Plain functions that the Go functions compute, written by shal.py. -/
import Derived.Test.YtfhlfjnjcjbomaaGreatDoorCore
set_option linter.unusedVariables false
namespace Go.Beacon
open Go Go.Eng
structure Fleetmake_Stream where
  L : List Int
  at_ : Int
deriving DecidableEq, Inhabited
def Fleetmake_Stream.av (x : Fleetmake_Stream) : AV := .agg [.list 1 (x.L.map I), I x.at_]

structure Letter where
  Id : Str
  Slot : Str
  Body : Str
  Prio : Int
  At : Int
  Until : Int
deriving DecidableEq, Inhabited
def Letter.av (x : Letter) : AV := .agg [.str x.Id, .str x.Slot, .str x.Body, I x.Prio, I x.At, I x.Until]

structure Post where
  Room : Int
  Timeout : Int
  Tries : Int
  Kept : Int
deriving DecidableEq, Inhabited
def Post.av (x : Post) : AV := .agg [I x.Room, I x.Timeout, I x.Tries, I x.Kept]

structure Note where
  Letter : Letter
  State : Int
  Tries : Int
  Since : Int
deriving DecidableEq, Inhabited
def Note.av (x : Note) : AV := .agg [.str x.Letter.Id, .str x.Letter.Slot, .str x.Letter.Body, I x.Letter.Prio, I x.Letter.At, I x.Letter.Until, I x.State, I x.Tries, I x.Since]

structure Command_Office where
  post_ : Post
  notes_ : List (Str × Note)
  time_ : Int
deriving DecidableEq, Inhabited

noncomputable def Below_j1 (n2 : Int) : Option Int :=
  some n2

noncomputable def Below (p0x0 : Int) (p1x0 : Int) : Option Int :=
  if p1x0 < (1 : Int) then
    some (0 : Int)
  else
    (rem p0x0 p1x0).bind fun n1 =>
    if n1 < (0 : Int) then
      Below_j1 (w64 (n1 + p1x0))
    else
      Below_j1 n1

noncomputable def Stream_Next (p0x0 : Fleetmake_Stream) (p1x0 : Int) : Option (Int × Fleetmake_Stream) :=
  if (p0x0.L.length : Int) = (0 : Int) then
    (Below (w64 ((w64 (p0x0.at_ + (1 : Int))) * (7919 : Int))) p1x0).bind fun v1 =>
    some (v1, (⟨p0x0.L, w64 (p0x0.at_ + (1 : Int))⟩ : Fleetmake_Stream))
  else
    (rem (w64 ((w64 (p0x0.at_ + (1 : Int))) - (1 : Int))) (p0x0.L.length : Int)).bind fun n2 =>
    (quo (w64 ((w64 (p0x0.at_ + (1 : Int))) - (1 : Int))) (p0x0.L.length : Int)).bind fun n3 =>
    (idx p0x0.L n2).bind fun v4 =>
    (Below v4 (1073741824 : Int)).bind fun v5 =>
    (Below (w64 (v5 + (w64 (n3 * (w64 ((7919 : Int) + n2)))))) p1x0).bind fun v6 =>
    some (v6, (⟨p0x0.L, w64 (p0x0.at_ + (1 : Int))⟩ : Fleetmake_Stream))

noncomputable def Stream_Some (p0x0 : Fleetmake_Stream) (p1x0 : List Str) : Option (Str × Fleetmake_Stream) :=
  (Stream_Next p0x0 (p1x0.length : Int)).bind fun v1 =>
  (idx p1x0 v1.1).bind fun v2 =>
  some (v2, v1.2)

noncomputable def Stream_Pick (p0x0 : Fleetmake_Stream) (p1x0 : List Int) : Option (Int × Fleetmake_Stream) :=
  (Stream_Next p0x0 (p1x0.length : Int)).bind fun v1 =>
  (idx p1x0 v1.1).bind fun v2 =>
  some (v2, v1.2)

noncomputable def Stream_RightLetter (p0x0 : Fleetmake_Stream) (p1x0 : Int) : Option (Letter × Fleetmake_Stream) :=
  (Stream_Some p0x0 [([108, 97] : Str), ([108, 98] : Str), ([108, 99] : Str), ([108, 100] : Str), ([108, 101] : Str), ([108, 102] : Str)]).bind fun v2 =>
  (Stream_Some v2.2 [([] : Str), ([] : Str), ([115, 97] : Str), ([115, 98] : Str)]).bind fun v3 =>
  (Stream_Some v3.2 [([100, 111] : Str), ([] : Str), ([97, 32, 34, 98, 34] : Str)]).bind fun v4 =>
  (Stream_Pick v4.2 [(0 : Int), (0 : Int), (1 : Int), (5 : Int), (9 : Int)]).bind fun v5 =>
  (Stream_Pick v5.2 [(1 : Int), (5 : Int), (10 : Int), (20 : Int), (50 : Int), (1000 : Int)]).bind fun v6 =>
  some ((⟨v2.1, v3.1, v4.1, v5.1, p1x0, w64 (p1x0 + v6.1)⟩ : Letter), v6.2)

noncomputable def Stream_Flip (p0x0 : Fleetmake_Stream) (p1x0 : Int) : Option (Bool × Fleetmake_Stream) :=
  (Stream_Next p0x0 p1x0).bind fun v1 =>
  some (decide (v1.1 = (0 : Int)), v1.2)

noncomputable def Stream_Range (p0x0 : Fleetmake_Stream) (p1x0 : Int) (p2x0 : Int) : Option (Int × Fleetmake_Stream) :=
  if p2x0 < p1x0 then
    some (p1x0, p0x0)
  else
    (Stream_Next p0x0 (w64 ((w64 (p2x0 - p1x0)) + (1 : Int)))).bind fun v1 =>
    some (w64 (p1x0 + v1.1), v1.2)

noncomputable def Stream_Odd (p0x0 : Fleetmake_Stream) (p1x0 : Int) (p2x0 : Int) : Option (Int × Fleetmake_Stream) :=
  (Stream_Flip p0x0 (12 : Int)).bind fun v1 =>
  if v1.1 = true then
    (Stream_Pick v1.2 [w64 (p1x0 - (1 : Int)), w64 (p2x0 + (1 : Int)), p1x0, p2x0, (-1099511627776 : Int), (1099511627776 : Int)]).bind fun v2 =>
    some (v2.1, v2.2)
  else
    (Stream_Range v1.2 p1x0 p2x0).bind fun v3 =>
    some (v3.1, v3.2)

noncomputable def Stream_Letter_j1 (l5 : List Int) (n6 : Int) (q7 : Str) (q8 : Str) (q9 : Str) (n10 : Int) (n11 : Int) (n12 : Int) : Option (Letter × Fleetmake_Stream) :=
  some ((⟨q7, q8, q9, n10, n11, n12⟩ : Letter), (⟨l5, n6⟩ : Fleetmake_Stream))

noncomputable def Stream_Letter_j2 (l14 : List Int) (n15 : Int) (q16 : Str) (q17 : Str) (q18 : Str) (n19 : Int) (n20 : Int) (n21 : Int) : Option (Letter × Fleetmake_Stream) :=
  Stream_Letter_j1 l14 n15 q16 q17 q18 n19 n20 n21

noncomputable def Stream_Letter_j3 (v2 : Letter × Fleetmake_Stream) (l23 : List Int) (n24 : Int) (q25 : Str) (q26 : Str) (n27 : Int) (n28 : Int) (n29 : Int) : Option (Letter × Fleetmake_Stream) :=
  Stream_Letter_j2 l23 n24 v2.1.Id q25 q26 n27 n28 n29

noncomputable def Stream_Letter_j4 (v2 : Letter × Fleetmake_Stream) (l31 : List Int) (n32 : Int) (q33 : Str) (n34 : Int) (n35 : Int) (n36 : Int) : Option (Letter × Fleetmake_Stream) :=
  Stream_Letter_j3 v2 l31 n32 v2.1.Slot q33 n34 n35 n36

noncomputable def Stream_Letter_j5 (v2 : Letter × Fleetmake_Stream) (l39 : List Int) (n40 : Int) (n41 : Int) (n42 : Int) (n43 : Int) : Option (Letter × Fleetmake_Stream) :=
  Stream_Letter_j4 v2 l39 n40 v2.1.Body n41 n42 n43

noncomputable def Stream_Letter (p0x0 : Fleetmake_Stream) (p1x0 : Int) : Option (Letter × Fleetmake_Stream) :=
  (Stream_RightLetter p0x0 p1x0).bind fun v2 =>
  (Stream_Flip v2.2 (15 : Int)).bind fun v4 =>
  if v4.1 = true then
    (Stream_Next v4.2 (5 : Int)).bind fun v13 =>
    if v13.1 = (0 : Int) then
      (Stream_Some v13.2 [([] : Str), ([65] : Str)]).bind fun v22 =>
      Stream_Letter_j2 v22.2.L v22.2.at_ v22.1 v2.1.Slot v2.1.Body v2.1.Prio v2.1.At v2.1.Until
    else
      if v13.1 = (1 : Int) then
        (Stream_Some v13.2 [([65] : Str), ([45] : Str)]).bind fun v30 =>
        Stream_Letter_j3 v2 v30.2.L v30.2.at_ v30.1 v2.1.Body v2.1.Prio v2.1.At v2.1.Until
      else
        if v13.1 = (2 : Int) then
          (repeatO ([98] : Str) (1001 : Int)).bind fun v37 =>
          (Stream_Some v13.2 [([10] : Str), ([127] : Str), ([255] : Str), v37]).bind fun v38 =>
          Stream_Letter_j4 v2 v38.2.L v38.2.at_ v38.1 v2.1.Prio v2.1.At v2.1.Until
        else
          if v13.1 = (3 : Int) then
            (Stream_Odd v13.2 (0 : Int) (9 : Int)).bind fun v44 =>
            Stream_Letter_j5 v2 v44.2.L v44.2.at_ v44.1 v2.1.At v2.1.Until
          else
            (Stream_Odd v13.2 (0 : Int) (50 : Int)).bind fun v45 =>
            (Stream_Odd v45.2 (0 : Int) (100 : Int)).bind fun v46 =>
            Stream_Letter_j5 v2 v46.2.L v46.2.at_ v2.1.Prio v45.1 v46.1
  else
    Stream_Letter_j1 v4.2.L v4.2.at_ v2.1.Id v2.1.Slot v2.1.Body v2.1.Prio v2.1.At v2.1.Until

noncomputable def Stream_RightPost (p0x0 : Fleetmake_Stream) : Option (Post × Fleetmake_Stream) :=
  (Stream_Pick p0x0 [(1 : Int), (2 : Int), (3 : Int), (5 : Int)]).bind fun v2 =>
  (Stream_Pick v2.2 [(1 : Int), (5 : Int), (10 : Int)]).bind fun v3 =>
  (Stream_Pick v3.2 [(1 : Int), (2 : Int), (3 : Int)]).bind fun v4 =>
  (Stream_Pick v4.2 [(0 : Int), (1 : Int), (2 : Int), (10 : Int)]).bind fun v5 =>
  some ((⟨v2.1, v3.1, v4.1, v5.1⟩ : Post), v5.2)

noncomputable def Stream_Post_j1 (l5 : List Int) (n6 : Int) (n7 : Int) (n8 : Int) (n9 : Int) (n10 : Int) : Option (Post × Fleetmake_Stream) :=
  some ((⟨n7, n8, n9, n10⟩ : Post), (⟨l5, n6⟩ : Fleetmake_Stream))

noncomputable def Stream_Post (p0x0 : Fleetmake_Stream) : Option (Post × Fleetmake_Stream) :=
  (Stream_RightPost p0x0).bind fun v2 =>
  (Stream_Flip v2.2 (15 : Int)).bind fun v4 =>
  if v4.1 = true then
    (Stream_Odd v4.2 (1 : Int) (500 : Int)).bind fun v11 =>
    (Stream_Odd v11.2 (1 : Int) (86400000 : Int)).bind fun v12 =>
    (Stream_Odd v12.2 (1 : Int) (20 : Int)).bind fun v13 =>
    (Stream_Odd v13.2 (0 : Int) (1000 : Int)).bind fun v14 =>
    Stream_Post_j1 v14.2.L v14.2.at_ v11.1 v12.1 v13.1 v14.1
  else
    Stream_Post_j1 v4.2.L v4.2.at_ v2.1.Room v2.1.Timeout v2.1.Tries v2.1.Kept

noncomputable def Stream_Letters_1x (p0x0 : Letter) (p1x0 : Letter) : Int :=
  (Lib.compareBytes p0x0.Id p1x0.Id)

noncomputable def slices_insertionSortCmpFunc_Letter_j1 (n4 : Int) (l7 : List Letter) (n8 : Int) (c9 : Bool) : Option (((List Letter) × Int) ⊕ (((List Letter) × Int) ⊕ (List Letter))) :=
  if c9 = true then
    (idx l7 (w64 (n8 - (1 : Int)))).bind fun v13 =>
    (idx l7 n8).bind fun v14 =>
    (idx l7 n8).bind fun v15 =>
    (idx (l7.set n8.toNat v13) (w64 (n8 - (1 : Int)))).bind fun v16 =>
    some (.inl ((l7.set n8.toNat v13).set (w64 (n8 - (1 : Int))).toNat v14, w64 (n8 - (1 : Int))))
  else
    Option.map .inr (some (.inl (l7, w64 (n4 + (1 : Int)))))

noncomputable def slices_insertionSortCmpFunc_Letter_b2 (p1x0 : Int) (fnd : Letter → Letter → Option Int) (n4 : Int) (l7 : List Letter) (n8 : Int) : Option (((List Letter) × Int) ⊕ (((List Letter) × Int) ⊕ (List Letter))) :=
  if p1x0 < n8 then
    (idx l7 n8).bind fun v10 =>
    (idx l7 (w64 (n8 - (1 : Int)))).bind fun v11 =>
    (fnd v10 v11).bind fun v12 =>
    slices_insertionSortCmpFunc_Letter_j1 n4 l7 n8 (decide (v12 < (0 : Int)))
  else
    slices_insertionSortCmpFunc_Letter_j1 n4 l7 n8 false

noncomputable def slices_insertionSortCmpFunc_Letter_l2 (p1x0 : Int) (fnd : Letter → Letter → Option Int) (n4 : Int) (l7 : List Letter) (n8 : Int) : Option (((List Letter) × Int) ⊕ (List Letter)) :=
  iter (fun x : (List Letter) × Int => slices_insertionSortCmpFunc_Letter_b2 p1x0 fnd n4 x.1 x.2) (l7, n8)

noncomputable def slices_insertionSortCmpFunc_Letter_b1 (p1x0 : Int) (p2x0 : Int) (fnd : Letter → Letter → Option Int) (l3 : List Letter) (n4 : Int) : Option (((List Letter) × Int) ⊕ (List Letter)) :=
  if n4 < p2x0 then
    slices_insertionSortCmpFunc_Letter_l2 p1x0 fnd n4 l3 n4
  else
    Option.map .inr (some l3)

noncomputable def slices_insertionSortCmpFunc_Letter_l1 (p1x0 : Int) (p2x0 : Int) (fnd : Letter → Letter → Option Int) (l3 : List Letter) (n4 : Int) : Option (List Letter) :=
  iter (fun x : (List Letter) × Int => slices_insertionSortCmpFunc_Letter_b1 p1x0 p2x0 fnd x.1 x.2) (l3, n4)

noncomputable def slices_insertionSortCmpFunc_Letter (p0x0 : List Letter) (p1x0 : Int) (p2x0 : Int) (fnd : Letter → Letter → Option Int) : Option (List Letter) :=
  slices_insertionSortCmpFunc_Letter_l1 p1x0 p2x0 fnd p0x0 (w64 (p1x0 + (1 : Int)))

noncomputable def slices_swapRangeCmpFunc_Letter_b1 (p1x0 : Int) (p2x0 : Int) (p3x0 : Int) (l3 : List Letter) (n4 : Int) : Option (((List Letter) × Int) ⊕ (List Letter)) :=
  if n4 < p3x0 then
    (idx l3 (w64 (p2x0 + n4))).bind fun v5 =>
    (idx l3 (w64 (p1x0 + n4))).bind fun v6 =>
    (idx l3 (w64 (p1x0 + n4))).bind fun v7 =>
    (idx (l3.set (w64 (p1x0 + n4)).toNat v5) (w64 (p2x0 + n4))).bind fun v8 =>
    some (.inl ((l3.set (w64 (p1x0 + n4)).toNat v5).set (w64 (p2x0 + n4)).toNat v6, w64 (n4 + (1 : Int))))
  else
    Option.map .inr (some l3)

noncomputable def slices_swapRangeCmpFunc_Letter_l1 (p1x0 : Int) (p2x0 : Int) (p3x0 : Int) (l3 : List Letter) (n4 : Int) : Option (List Letter) :=
  iter (fun x : (List Letter) × Int => slices_swapRangeCmpFunc_Letter_b1 p1x0 p2x0 p3x0 x.1 x.2) (l3, n4)

noncomputable def slices_swapRangeCmpFunc_Letter (p0x0 : List Letter) (p1x0 : Int) (p2x0 : Int) (p3x0 : Int) (fne : Letter → Letter → Option Int) : Option (List Letter) :=
  slices_swapRangeCmpFunc_Letter_l1 p1x0 p2x0 p3x0 p0x0 (0 : Int)

noncomputable def slices_rotateCmpFunc_Letter_j1 (l7 : List Letter) (n8 : Int) (n9 : Int) : Option (((List Letter) × Int × Int) ⊕ (List Letter)) :=
  some (.inl (l7, n8, n9))

noncomputable def slices_rotateCmpFunc_Letter_k2 (p2x0 : Int) (fne : Letter → Letter → Option Int) (l4 : List Letter) (n5 : Int) : Option (List Letter) :=
  (lenOk l4.length (fun r : (List Letter) => r.length) (slices_swapRangeCmpFunc_Letter l4 (w64 (p2x0 - n5)) p2x0 n5 fne)).bind fun v12 =>
  some v12

noncomputable def slices_rotateCmpFunc_Letter_b1 (p2x0 : Int) (fne : Letter → Letter → Option Int) (l4 : List Letter) (n5 : Int) (n6 : Int) : Option (((List Letter) × Int × Int) ⊕ (List Letter)) :=
  if n5 ≠ n6 then
    if n6 < n5 then
      (lenOk l4.length (fun r : (List Letter) => r.length) (slices_swapRangeCmpFunc_Letter l4 (w64 (p2x0 - n5)) p2x0 n6 fne)).bind fun v10 =>
      slices_rotateCmpFunc_Letter_j1 v10 (w64 (n5 - n6)) n6
    else
      (lenOk l4.length (fun r : (List Letter) => r.length) (slices_swapRangeCmpFunc_Letter l4 (w64 (p2x0 - n5)) (w64 ((w64 (p2x0 + n6)) - n5)) n5 fne)).bind fun v11 =>
      slices_rotateCmpFunc_Letter_j1 v11 n5 (w64 (n6 - n5))
  else
    Option.map .inr (slices_rotateCmpFunc_Letter_k2 p2x0 fne l4 n5)

noncomputable def slices_rotateCmpFunc_Letter_l1 (p2x0 : Int) (fne : Letter → Letter → Option Int) (l4 : List Letter) (n5 : Int) (n6 : Int) : Option (List Letter) :=
  iter (fun x : (List Letter) × Int × Int => slices_rotateCmpFunc_Letter_b1 p2x0 fne x.1 x.2.1 x.2.2) (l4, n5, n6)

noncomputable def slices_rotateCmpFunc_Letter (p0x0 : List Letter) (p1x0 : Int) (p2x0 : Int) (p3x0 : Int) (fne : Letter → Letter → Option Int) : Option (List Letter) :=
  slices_rotateCmpFunc_Letter_l1 p2x0 fne p0x0 (w64 (p2x0 - p1x0)) (w64 (p3x0 - p2x0))

noncomputable def slices_symMergeCmpFunc_Letter_j1 (n8 : Int) (n9 : Int) : Option ((Int × Int) ⊕ (List Letter)) :=
  some (.inl (n8, n9))

noncomputable def slices_symMergeCmpFunc_Letter_b2 (n3 : Int) (l12 : List Letter) (n13 : Int) : Option (((List Letter) × Int) ⊕ (List Letter)) :=
  if n13 < (w64 (n3 - (1 : Int))) then
    (idx l12 (w64 (n13 + (1 : Int)))).bind fun v14 =>
    (idx l12 n13).bind fun v15 =>
    (idx l12 n13).bind fun v16 =>
    (idx (l12.set n13.toNat v14) (w64 (n13 + (1 : Int)))).bind fun v17 =>
    some (.inl ((l12.set n13.toNat v14).set (w64 (n13 + (1 : Int))).toNat v15, w64 (n13 + (1 : Int))))
  else
    Option.map .inr (some l12)

noncomputable def slices_symMergeCmpFunc_Letter_l2 (n3 : Int) (l12 : List Letter) (n13 : Int) : Option (List Letter) :=
  iter (fun x : (List Letter) × Int => slices_symMergeCmpFunc_Letter_b2 n3 x.1 x.2) (l12, n13)

noncomputable def slices_symMergeCmpFunc_Letter_b1 (p0x0 : List Letter) (p1x0 : Int) (fne : Letter → Letter → Option Int) (n3 : Int) (n4 : Int) : Option ((Int × Int) ⊕ (List Letter)) :=
  if n3 < n4 then
    (idx p0x0 (w64 (shrI .u64 (IntKind.u64.wrap (w64 (n3 + n4))) (1 : Int)))).bind fun v5 =>
    (idx p0x0 p1x0).bind fun v6 =>
    (fne v5 v6).bind fun v7 =>
    if v7 < (0 : Int) then
      slices_symMergeCmpFunc_Letter_j1 (w64 ((w64 (shrI .u64 (IntKind.u64.wrap (w64 (n3 + n4))) (1 : Int))) + (1 : Int))) n4
    else
      slices_symMergeCmpFunc_Letter_j1 n3 (w64 (shrI .u64 (IntKind.u64.wrap (w64 (n3 + n4))) (1 : Int)))
  else
    Option.map .inr (slices_symMergeCmpFunc_Letter_l2 n3 p0x0 p1x0)

noncomputable def slices_symMergeCmpFunc_Letter_l1 (p0x0 : List Letter) (p1x0 : Int) (fne : Letter → Letter → Option Int) (n3 : Int) (n4 : Int) : Option (List Letter) :=
  iter (fun x : Int × Int => slices_symMergeCmpFunc_Letter_b1 p0x0 p1x0 fne x.1 x.2) (n3, n4)

noncomputable def slices_symMergeCmpFunc_Letter_j2 (n25 : Int) (n26 : Int) : Option ((Int × Int) ⊕ (List Letter)) :=
  some (.inl (n25, n26))

noncomputable def slices_symMergeCmpFunc_Letter_b4 (n20 : Int) (l29 : List Letter) (n30 : Int) : Option (((List Letter) × Int) ⊕ (List Letter)) :=
  if n20 < n30 then
    (idx l29 (w64 (n30 - (1 : Int)))).bind fun v31 =>
    (idx l29 n30).bind fun v32 =>
    (idx l29 n30).bind fun v33 =>
    (idx (l29.set n30.toNat v31) (w64 (n30 - (1 : Int)))).bind fun v34 =>
    some (.inl ((l29.set n30.toNat v31).set (w64 (n30 - (1 : Int))).toNat v32, w64 (n30 - (1 : Int))))
  else
    Option.map .inr (some l29)

noncomputable def slices_symMergeCmpFunc_Letter_l4 (n20 : Int) (l29 : List Letter) (n30 : Int) : Option (List Letter) :=
  iter (fun x : (List Letter) × Int => slices_symMergeCmpFunc_Letter_b4 n20 x.1 x.2) (l29, n30)

noncomputable def slices_symMergeCmpFunc_Letter_b3 (p0x0 : List Letter) (p2x0 : Int) (fne : Letter → Letter → Option Int) (n20 : Int) (n21 : Int) : Option ((Int × Int) ⊕ (List Letter)) :=
  if n20 < n21 then
    (idx p0x0 p2x0).bind fun v22 =>
    (idx p0x0 (w64 (shrI .u64 (IntKind.u64.wrap (w64 (n20 + n21))) (1 : Int)))).bind fun v23 =>
    (fne v22 v23).bind fun v24 =>
    if ¬ (v24 < (0 : Int)) then
      slices_symMergeCmpFunc_Letter_j2 (w64 ((w64 (shrI .u64 (IntKind.u64.wrap (w64 (n20 + n21))) (1 : Int))) + (1 : Int))) n21
    else
      slices_symMergeCmpFunc_Letter_j2 n20 (w64 (shrI .u64 (IntKind.u64.wrap (w64 (n20 + n21))) (1 : Int)))
  else
    Option.map .inr (slices_symMergeCmpFunc_Letter_l4 n20 p0x0 p2x0)

noncomputable def slices_symMergeCmpFunc_Letter_l3 (p0x0 : List Letter) (p2x0 : Int) (fne : Letter → Letter → Option Int) (n20 : Int) (n21 : Int) : Option (List Letter) :=
  iter (fun x : Int × Int => slices_symMergeCmpFunc_Letter_b3 p0x0 p2x0 fne x.1 x.2) (n20, n21)

noncomputable def slices_symMergeCmpFunc_Letter_j4 (n44 : Int) (n45 : Int) : Option ((Int × Int) ⊕ (List Letter)) :=
  some (.inl (n44, n45))

noncomputable def slices_symMergeCmpFunc_Letter_j10 (l53 : List Letter) : Option (List Letter) :=
  some l53

noncomputable def slices_symMergeCmpFunc_Letter_j9 (self : (List Letter) → Int → Int → Int → (Letter → Letter → Option Int) → Option (List Letter)) (p1x0 : Int) (p2x0 : Int) (p3x0 : Int) (fne : Letter → Letter → Option Int) (n39 : Int) (l50 : List Letter) (c52 : Bool) : Option (List Letter) :=
  if c52 = true then
    (lenOk l50.length (fun r : (List Letter) => r.length) (self l50 (w64 (shrI .u64 (IntKind.u64.wrap (w64 (p1x0 + p3x0))) (1 : Int))) (w64 ((w64 ((w64 (shrI .u64 (IntKind.u64.wrap (w64 (p1x0 + p3x0))) (1 : Int))) + p2x0)) - n39)) p3x0 fne)).bind fun v54 =>
    slices_symMergeCmpFunc_Letter_j10 v54
  else
    slices_symMergeCmpFunc_Letter_j10 l50

noncomputable def slices_symMergeCmpFunc_Letter_j8 (self : (List Letter) → Int → Int → Int → (Letter → Letter → Option Int) → Option (List Letter)) (p1x0 : Int) (p2x0 : Int) (p3x0 : Int) (fne : Letter → Letter → Option Int) (n39 : Int) (l50 : List Letter) : Option (List Letter) :=
  slices_symMergeCmpFunc_Letter_j9 self p1x0 p2x0 p3x0 fne n39 l50 ((decide ((w64 (shrI .u64 (IntKind.u64.wrap (w64 (p1x0 + p3x0))) (1 : Int))) < (w64 ((w64 ((w64 (shrI .u64 (IntKind.u64.wrap (w64 (p1x0 + p3x0))) (1 : Int))) + p2x0)) - n39)))) && (decide ((w64 ((w64 ((w64 (shrI .u64 (IntKind.u64.wrap (w64 (p1x0 + p3x0))) (1 : Int))) + p2x0)) - n39)) < p3x0)))

noncomputable def slices_symMergeCmpFunc_Letter_j7 (self : (List Letter) → Int → Int → Int → (Letter → Letter → Option Int) → Option (List Letter)) (p1x0 : Int) (p2x0 : Int) (p3x0 : Int) (fne : Letter → Letter → Option Int) (n39 : Int) (l47 : List Letter) (c49 : Bool) : Option (List Letter) :=
  if c49 = true then
    (lenOk l47.length (fun r : (List Letter) => r.length) (self l47 p1x0 n39 (w64 (shrI .u64 (IntKind.u64.wrap (w64 (p1x0 + p3x0))) (1 : Int))) fne)).bind fun v51 =>
    slices_symMergeCmpFunc_Letter_j8 self p1x0 p2x0 p3x0 fne n39 v51
  else
    slices_symMergeCmpFunc_Letter_j8 self p1x0 p2x0 p3x0 fne n39 l47

noncomputable def slices_symMergeCmpFunc_Letter_j6 (self : (List Letter) → Int → Int → Int → (Letter → Letter → Option Int) → Option (List Letter)) (p1x0 : Int) (p2x0 : Int) (p3x0 : Int) (fne : Letter → Letter → Option Int) (n39 : Int) (l47 : List Letter) : Option (List Letter) :=
  slices_symMergeCmpFunc_Letter_j7 self p1x0 p2x0 p3x0 fne n39 l47 ((decide (p1x0 < n39)) && (decide (n39 < (w64 (shrI .u64 (IntKind.u64.wrap (w64 (p1x0 + p3x0))) (1 : Int))))))

noncomputable def slices_symMergeCmpFunc_Letter_j5 (self : (List Letter) → Int → Int → Int → (Letter → Letter → Option Int) → Option (List Letter)) (p0x0 : List Letter) (p1x0 : Int) (p2x0 : Int) (p3x0 : Int) (fne : Letter → Letter → Option Int) (n39 : Int) (c46 : Bool) : Option (List Letter) :=
  if c46 = true then
    (lenOk p0x0.length (fun r : (List Letter) => r.length) (slices_rotateCmpFunc_Letter p0x0 n39 p2x0 (w64 ((w64 ((w64 (shrI .u64 (IntKind.u64.wrap (w64 (p1x0 + p3x0))) (1 : Int))) + p2x0)) - n39)) fne)).bind fun v48 =>
    slices_symMergeCmpFunc_Letter_j6 self p1x0 p2x0 p3x0 fne n39 v48
  else
    slices_symMergeCmpFunc_Letter_j6 self p1x0 p2x0 p3x0 fne n39 p0x0

noncomputable def slices_symMergeCmpFunc_Letter_b5 (self : (List Letter) → Int → Int → Int → (Letter → Letter → Option Int) → Option (List Letter)) (p0x0 : List Letter) (p1x0 : Int) (p2x0 : Int) (p3x0 : Int) (fne : Letter → Letter → Option Int) (n39 : Int) (n40 : Int) : Option ((Int × Int) ⊕ (List Letter)) :=
  if n39 < n40 then
    (idx p0x0 (w64 ((w64 ((w64 ((w64 (shrI .u64 (IntKind.u64.wrap (w64 (p1x0 + p3x0))) (1 : Int))) + p2x0)) - (1 : Int))) - (w64 (shrI .u64 (IntKind.u64.wrap (w64 (n39 + n40))) (1 : Int)))))).bind fun v41 =>
    (idx p0x0 (w64 (shrI .u64 (IntKind.u64.wrap (w64 (n39 + n40))) (1 : Int)))).bind fun v42 =>
    (fne v41 v42).bind fun v43 =>
    if ¬ (v43 < (0 : Int)) then
      slices_symMergeCmpFunc_Letter_j4 (w64 ((w64 (shrI .u64 (IntKind.u64.wrap (w64 (n39 + n40))) (1 : Int))) + (1 : Int))) n40
    else
      slices_symMergeCmpFunc_Letter_j4 n39 (w64 (shrI .u64 (IntKind.u64.wrap (w64 (n39 + n40))) (1 : Int)))
  else
    Option.map .inr (slices_symMergeCmpFunc_Letter_j5 self p0x0 p1x0 p2x0 p3x0 fne n39 ((decide (n39 < p2x0)) && (decide (p2x0 < (w64 ((w64 ((w64 (shrI .u64 (IntKind.u64.wrap (w64 (p1x0 + p3x0))) (1 : Int))) + p2x0)) - n39))))))

noncomputable def slices_symMergeCmpFunc_Letter_l5 (self : (List Letter) → Int → Int → Int → (Letter → Letter → Option Int) → Option (List Letter)) (p0x0 : List Letter) (p1x0 : Int) (p2x0 : Int) (p3x0 : Int) (fne : Letter → Letter → Option Int) (n39 : Int) (n40 : Int) : Option (List Letter) :=
  iter (fun x : Int × Int => slices_symMergeCmpFunc_Letter_b5 self p0x0 p1x0 p2x0 p3x0 fne x.1 x.2) (n39, n40)

noncomputable def slices_symMergeCmpFunc_Letter_j3 (self : (List Letter) → Int → Int → Int → (Letter → Letter → Option Int) → Option (List Letter)) (p0x0 : List Letter) (p1x0 : Int) (p2x0 : Int) (p3x0 : Int) (fne : Letter → Letter → Option Int) (n35 : Int) (n36 : Int) : Option (List Letter) :=
  slices_symMergeCmpFunc_Letter_l5 self p0x0 p1x0 p2x0 p3x0 fne n35 n36

noncomputable def slices_symMergeCmpFunc_Letter_bd (self : (List Letter) → Int → Int → Int → (Letter → Letter → Option Int) → Option (List Letter)) (p0x0 : List Letter) (p1x0 : Int) (p2x0 : Int) (p3x0 : Int) (fne : Letter → Letter → Option Int) : Option (List Letter) :=
  if (w64 (p2x0 - p1x0)) = (1 : Int) then
    slices_symMergeCmpFunc_Letter_l1 p0x0 p1x0 fne p2x0 p3x0
  else
    if (w64 (p3x0 - p2x0)) = (1 : Int) then
      slices_symMergeCmpFunc_Letter_l3 p0x0 p2x0 fne p1x0 p2x0
    else
      if (w64 (shrI .u64 (IntKind.u64.wrap (w64 (p1x0 + p3x0))) (1 : Int))) < p2x0 then
        slices_symMergeCmpFunc_Letter_j3 self p0x0 p1x0 p2x0 p3x0 fne (w64 ((w64 ((w64 (shrI .u64 (IntKind.u64.wrap (w64 (p1x0 + p3x0))) (1 : Int))) + p2x0)) - p3x0)) (w64 (shrI .u64 (IntKind.u64.wrap (w64 (p1x0 + p3x0))) (1 : Int)))
      else
        slices_symMergeCmpFunc_Letter_j3 self p0x0 p1x0 p2x0 p3x0 fne p1x0 p2x0

/-- The function, to some depth. -/
noncomputable def slices_symMergeCmpFunc_Letter_r : Nat → (List Letter) → Int → Int → Int → (Letter → Letter → Option Int) → Option (List Letter)
  | 0 => fun _ _ _ _ _ => none
  | k + 1 => slices_symMergeCmpFunc_Letter_bd (slices_symMergeCmpFunc_Letter_r k)

noncomputable def slices_symMergeCmpFunc_Letter (p0x0 : List Letter) (p1x0 : Int) (p2x0 : Int) (p3x0 : Int) (fne : Letter → Letter → Option Int) : Option (List Letter) :=
  slices_symMergeCmpFunc_Letter_r depth p0x0 p1x0 p2x0 p3x0 fne

noncomputable def slices_stableCmpFunc_Letter_j1 (n12 : Int) (l20 : List Letter) : Option (((List Letter) × Int) ⊕ (List Letter)) :=
  some (.inl (l20, w64 (n12 * (2 : Int))))

noncomputable def slices_stableCmpFunc_Letter_k2 (p1x0 : Int) (fnc : Letter → Letter → Option Int) (n12 : Int) (l16 : List Letter) (n17 : Int) : Option (((List Letter) × Int) ⊕ (List Letter)) :=
  if (w64 (n17 + n12)) < p1x0 then
    (lenOk l16.length (fun r : (List Letter) => r.length) (slices_symMergeCmpFunc_Letter l16 n17 (w64 (n17 + n12)) p1x0 fnc)).bind fun v21 =>
    slices_stableCmpFunc_Letter_j1 n12 v21
  else
    slices_stableCmpFunc_Letter_j1 n12 l16

noncomputable def slices_stableCmpFunc_Letter_b3 (p1x0 : Int) (fnc : Letter → Letter → Option Int) (n12 : Int) (l16 : List Letter) (n17 : Int) (n18 : Int) : Option (((List Letter) × Int × Int) ⊕ (((List Letter) × Int) ⊕ (List Letter))) :=
  if n18 ≤ p1x0 then
    (lenOk l16.length (fun r : (List Letter) => r.length) (slices_symMergeCmpFunc_Letter l16 n17 (w64 (n17 + n12)) n18 fnc)).bind fun v19 =>
    some (.inl (v19, n18, w64 (n18 + (w64 ((2 : Int) * n12)))))
  else
    Option.map .inr (slices_stableCmpFunc_Letter_k2 p1x0 fnc n12 l16 n17)

noncomputable def slices_stableCmpFunc_Letter_l3 (p1x0 : Int) (fnc : Letter → Letter → Option Int) (n12 : Int) (l16 : List Letter) (n17 : Int) (n18 : Int) : Option (((List Letter) × Int) ⊕ (List Letter)) :=
  iter (fun x : (List Letter) × Int × Int => slices_stableCmpFunc_Letter_b3 p1x0 fnc n12 x.1 x.2.1 x.2.2) (l16, n17, n18)

noncomputable def slices_stableCmpFunc_Letter_b2 (p1x0 : Int) (fnc : Letter → Letter → Option Int) (l11 : List Letter) (n12 : Int) : Option (((List Letter) × Int) ⊕ (List Letter)) :=
  if n12 < p1x0 then
    slices_stableCmpFunc_Letter_l3 p1x0 fnc n12 l11 (0 : Int) (w64 ((2 : Int) * n12))
  else
    Option.map .inr (some l11)

noncomputable def slices_stableCmpFunc_Letter_l2 (p1x0 : Int) (fnc : Letter → Letter → Option Int) (l11 : List Letter) (n12 : Int) : Option (List Letter) :=
  iter (fun x : (List Letter) × Int => slices_stableCmpFunc_Letter_b2 p1x0 fnc x.1 x.2) (l11, n12)

noncomputable def slices_stableCmpFunc_Letter_k3 (p1x0 : Int) (fnc : Letter → Letter → Option Int) (l4 : List Letter) (n5 : Int) : Option (List Letter) :=
  (lenOk l4.length (fun r : (List Letter) => r.length) (slices_insertionSortCmpFunc_Letter l4 n5 p1x0 fnc)).bind fun v8 =>
  slices_stableCmpFunc_Letter_l2 p1x0 fnc v8 (20 : Int)

noncomputable def slices_stableCmpFunc_Letter_b1 (p1x0 : Int) (fnc : Letter → Letter → Option Int) (l4 : List Letter) (n5 : Int) (n6 : Int) : Option (((List Letter) × Int × Int) ⊕ (List Letter)) :=
  if n6 ≤ p1x0 then
    (lenOk l4.length (fun r : (List Letter) => r.length) (slices_insertionSortCmpFunc_Letter l4 n5 n6 fnc)).bind fun v7 =>
    some (.inl (v7, n6, w64 (n6 + (20 : Int))))
  else
    Option.map .inr (slices_stableCmpFunc_Letter_k3 p1x0 fnc l4 n5)

noncomputable def slices_stableCmpFunc_Letter_l1 (p1x0 : Int) (fnc : Letter → Letter → Option Int) (l4 : List Letter) (n5 : Int) (n6 : Int) : Option (List Letter) :=
  iter (fun x : (List Letter) × Int × Int => slices_stableCmpFunc_Letter_b1 p1x0 fnc x.1 x.2.1 x.2.2) (l4, n5, n6)

noncomputable def slices_stableCmpFunc_Letter (p0x0 : List Letter) (p1x0 : Int) (fnc : Letter → Letter → Option Int) : Option (List Letter) :=
  slices_stableCmpFunc_Letter_l1 p1x0 fnc p0x0 (0 : Int) (20 : Int)

noncomputable def slices_SortStableFunc_Letter_Letter (p0x0 : List Letter) (fnb : Letter → Letter → Option Int) : Option (List Letter) :=
  (lenOk p0x0.length (fun r : (List Letter) => r.length) (slices_stableCmpFunc_Letter p0x0 (p0x0.length : Int) fnb)).bind fun v1 =>
  some v1

noncomputable def Stream_Letters_2x (p0x0 : Letter) (p1x0 : Letter) : Bool :=
  decide (p0x0.Id = p1x0.Id)

noncomputable def slices_CompactFunc_Letter_Letter_j1 (n12 : Int) (l16 : List Letter) (n17 : Int) : Option (((List Letter) × Int × Int) ⊕ (Int ⊕ (List Letter))) :=
  some (.inl (l16, n17, w64 (n12 + (1 : Int))))

noncomputable def slices_CompactFunc_Letter_Letter_k2 (l10 : List Letter) (n11 : Int) : Option (Int ⊕ (List Letter)) :=
  (slc l10 n11 (l10.length : Int)).bind fun l20 =>
  (slc (clr l10 n11 l20.length (⟨[], [], [], (0 : Int), (0 : Int), (0 : Int)⟩ : Letter)) (0 : Int) n11).bind fun l21 =>
  Option.map .inr (some l21)

noncomputable def slices_CompactFunc_Letter_Letter_b2 (fnb : Letter → Letter → Option Bool) (n2 : Int) (l6 : List Letter) (l10 : List Letter) (n11 : Int) (n12 : Int) : Option (((List Letter) × Int × Int) ⊕ (Int ⊕ (List Letter))) :=
  if n12 < (l6.length : Int) then
    (idxS l10 n2 l6.length n12).bind fun v13 =>
    (idxS l10 n2 l6.length (w64 (n12 - (1 : Int)))).bind fun v14 =>
    (fnb v13 v14).bind fun v15 =>
    if (!v15) = true then
      (idxS l10 n2 l6.length n12).bind fun v18 =>
      (idx l10 n11).bind fun v19 =>
      slices_CompactFunc_Letter_Letter_j1 n12 (l10.set n11.toNat v18) (w64 (n11 + (1 : Int)))
    else
      slices_CompactFunc_Letter_Letter_j1 n12 l10 n11
  else
    Option.map .inr (slices_CompactFunc_Letter_Letter_k2 l10 n11)

noncomputable def slices_CompactFunc_Letter_Letter_l2 (fnb : Letter → Letter → Option Bool) (n2 : Int) (l6 : List Letter) (l10 : List Letter) (n11 : Int) (n12 : Int) : Option (Int ⊕ (List Letter)) :=
  iter (fun x : (List Letter) × Int × Int => slices_CompactFunc_Letter_Letter_b2 fnb n2 l6 x.1 x.2.1 x.2.2) (l10, n11, n12)

noncomputable def slices_CompactFunc_Letter_Letter_b1 (p0x0 : List Letter) (fnb : Letter → Letter → Option Bool) (n2 : Int) : Option (Int ⊕ (List Letter)) :=
  if n2 < (p0x0.length : Int) then
    (idx p0x0 n2).bind fun v3 =>
    (idx p0x0 (w64 (n2 - (1 : Int)))).bind fun v4 =>
    (fnb v3 v4).bind fun v5 =>
    if v5 = true then
      (slc p0x0 n2 (p0x0.length : Int)).bind fun l6 =>
      slices_CompactFunc_Letter_Letter_l2 fnb n2 l6 p0x0 n2 (1 : Int)
    else
      some (.inl (w64 (n2 + (1 : Int))))
  else
    Option.map .inr (some p0x0)

noncomputable def slices_CompactFunc_Letter_Letter_l1 (p0x0 : List Letter) (fnb : Letter → Letter → Option Bool) (n2 : Int) : Option (List Letter) :=
  iter (fun x : Int => slices_CompactFunc_Letter_Letter_b1 p0x0 fnb x) n2

noncomputable def slices_CompactFunc_Letter_Letter (p0x0 : List Letter) (fnb : Letter → Letter → Option Bool) : Option (List Letter) :=
  if (p0x0.length : Int) < (2 : Int) then
    some p0x0
  else
    slices_CompactFunc_Letter_Letter_l1 p0x0 fnb (1 : Int)

noncomputable def Stream_Letters_j1 (v16 : Bool × Fleetmake_Stream) (l18 : List Letter) : Option ((List Letter) × Fleetmake_Stream) :=
  some (l18, v16.2)

noncomputable def Stream_Letters_k2 (l6 : List Int) (n7 : Int) (l9 : List Letter) : Option ((List Letter) × Fleetmake_Stream) :=
  (Stream_Flip (⟨l6, n7⟩ : Fleetmake_Stream) (8 : Int)).bind fun v16 =>
  if (!v16.1) = true then
    (lenOk l9.length (fun r : (List Letter) => r.length) (slices_SortStableFunc_Letter_Letter l9 (fun y0 y1 => some (Stream_Letters_1x y0 y1)))).bind fun v19 =>
    (slices_CompactFunc_Letter_Letter v19 (fun y0 y1 => some (Stream_Letters_2x y0 y1))).bind fun v20 =>
    Stream_Letters_j1 v16 v20
  else
    Stream_Letters_j1 v16 l9

noncomputable def Stream_Letters_b1 (p1x0 : Int) (l6 : List Int) (n7 : Int) (l9 : List Letter) (n10 : Int) : Option (((List Int) × Int × (List Letter) × Int) ⊕ ((List Letter) × Fleetmake_Stream)) :=
  if n10 < p1x0 then
    (Stream_Pick (⟨l6, n7⟩ : Fleetmake_Stream) [(0 : Int), (5 : Int), (5 : Int), (9 : Int)]).bind fun v12 =>
    (Stream_Letter v12.2 v12.1).bind fun v13 =>
    (app l9 [v13.1]).bind fun l14 =>
    some (.inl (v13.2.L, v13.2.at_, l14, w64 (n10 + (1 : Int))))
  else
    Option.map .inr (Stream_Letters_k2 l6 n7 l9)

noncomputable def Stream_Letters_l1 (p1x0 : Int) (l6 : List Int) (n7 : Int) (l9 : List Letter) (n10 : Int) : Option ((List Letter) × Fleetmake_Stream) :=
  iter (fun x : (List Int) × Int × (List Letter) × Int => Stream_Letters_b1 p1x0 x.1 x.2.1 x.2.2.1 x.2.2.2) (l6, n7, l9, n10)

noncomputable def Stream_Letters (p0x0 : Fleetmake_Stream) (p1x0 : Int) : Option ((List Letter) × Fleetmake_Stream) :=
  Stream_Letters_l1 p1x0 p0x0.L p0x0.at_ [] (0 : Int)

noncomputable def base_Key_j2 (n5 : Int) (c7 : Bool) : Option (Int ⊕ Bool) :=
  if c7 = true then
    Option.map .inr (some false)
  else
    some (.inl (w64 (n5 + (1 : Int))))

noncomputable def base_Key_b1 (p0x0 : Str) (n5 : Int) : Option (Int ⊕ Bool) :=
  if n5 < (p0x0.length : Int) then
    (idx p0x0 n5).bind fun c6 =>
    base_Key_j2 n5 (if (97 : Int) ≤ (c6.toNat : Int) then if (c6.toNat : Int) ≤ (122 : Int) then !true else if (48 : Int) ≤ (c6.toNat : Int) then if (c6.toNat : Int) ≤ (57 : Int) then !true else if (c6.toNat : Int) = (45 : Int) then !true else decide (¬ ((c6.toNat : Int) = (95 : Int))) else if (c6.toNat : Int) = (45 : Int) then !true else decide (¬ ((c6.toNat : Int) = (95 : Int))) else if (48 : Int) ≤ (c6.toNat : Int) then if (c6.toNat : Int) ≤ (57 : Int) then !true else if (c6.toNat : Int) = (45 : Int) then !true else decide (¬ ((c6.toNat : Int) = (95 : Int))) else if (c6.toNat : Int) = (45 : Int) then !true else decide (¬ ((c6.toNat : Int) = (95 : Int))))
  else
    Option.map .inr (some true)

noncomputable def base_Key_l1 (p0x0 : Str) (n5 : Int) : Option Bool :=
  iter (fun x : Int => base_Key_b1 p0x0 x) n5

noncomputable def base_Key_j1 (p0x0 : Str) (c1 : Bool) : Option Bool :=
  if c1 = true then
    some false
  else
    base_Key_l1 p0x0 (0 : Int)

noncomputable def base_Key (p0x0 : Str) : Option Bool :=
  if p0x0 = ([] : Str) then
    base_Key_j1 p0x0 true
  else
    if (40 : Int) < (p0x0.length : Int) then
      base_Key_j1 p0x0 true
    else
      (idx p0x0 (0 : Int)).bind fun c2 =>
      if (c2.toNat : Int) < (97 : Int) then
        base_Key_j1 p0x0 true
      else
        (idx p0x0 (0 : Int)).bind fun c3 =>
        base_Key_j1 p0x0 (decide ((122 : Int) < (c3.toNat : Int)))

noncomputable def base_Unmarked_j1 (n2 : Int) (c3 : Bool) : Option (Int ⊕ Bool) :=
  if c3 = true then
    Option.map .inr (some false)
  else
    some (.inl (w64 (n2 + (1 : Int))))

noncomputable def base_Unmarked_k2 (p0x0 : Str) : Option Bool :=
  (validO p0x0).bind fun v6 =>
  some v6

noncomputable def base_Unmarked_b1 (p0x0 : Str) (n2 : Int) : Option (Int ⊕ Bool) :=
  if n2 < (p0x0.length : Int) then
    (idx p0x0 n2).bind fun c4 =>
    if (c4.toNat : Int) < (32 : Int) then
      base_Unmarked_j1 n2 true
    else
      (idx p0x0 n2).bind fun c5 =>
      base_Unmarked_j1 n2 (decide ((c5.toNat : Int) = (127 : Int)))
  else
    Option.map .inr (base_Unmarked_k2 p0x0)

noncomputable def base_Unmarked_l1 (p0x0 : Str) (n2 : Int) : Option Bool :=
  iter (fun x : Int => base_Unmarked_b1 p0x0 x) n2

noncomputable def base_Unmarked (p0x0 : Str) : Option Bool :=
  base_Unmarked_l1 p0x0 (0 : Int)

noncomputable def base_Out_j1 (c1 : Bool) : Bool :=
  c1

noncomputable def base_Out (p0x0 : Int) (p1x0 : Int) (p2x0 : Int) : Bool :=
  base_Out_j1 ((decide (p0x0 < p1x0)) || (decide (p2x0 < p0x0)))

noncomputable def base_Moment (p0x0 : Int) : Bool :=
  !(base_Out p0x0 (0 : Int) (345686399999 : Int))

noncomputable def command_CheckLetter_j2 (c6 : Bool) : Option Int :=
  if c6 = true then
    some (1 : Int)
  else
    some (0 : Int)

noncomputable def command_CheckLetter_j1 (p0x0 : Letter) (c2 : Bool) : Option Int :=
  if c2 = true then
    some (5 : Int)
  else
    if (1000 : Int) < (p0x0.Body.length : Int) then
      some (2 : Int)
    else
      (base_Unmarked p0x0.Body).bind fun v5 =>
      if (!v5) = true then
        some (3 : Int)
      else
        command_CheckLetter_j2 ((base_Out p0x0.Prio (0 : Int) (9 : Int)) || ((!(base_Moment p0x0.At)) || ((decide (p0x0.Until ≤ p0x0.At)) || (decide ((345686400000 : Int) < p0x0.Until)))))

noncomputable def command_CheckLetter (p0x0 : Letter) : Option Int :=
  (base_Key p0x0.Id).bind fun v3 =>
  if (!v3) = true then
    command_CheckLetter_j1 p0x0 true
  else
    if p0x0.Slot ≠ ([] : Str) then
      (base_Key p0x0.Slot).bind fun v4 =>
      command_CheckLetter_j1 p0x0 (!v4)
    else
      command_CheckLetter_j1 p0x0 false

noncomputable def command_Order_1x (p0x0 : Letter) (p1x0 : Letter) : Bool :=
  decide (p0x0.Id = p1x0.Id)

noncomputable def slices_IndexFunc_Letter_Letter_b1 (p0x0 : List Letter) (fnb : Letter → Option Bool) (n2 : Int) : Option (Int ⊕ Int) :=
  if n2 < (p0x0.length : Int) then
    (idx p0x0 n2).bind fun v3 =>
    (fnb v3).bind fun v4 =>
    if v4 = true then
      Option.map .inr (some n2)
    else
      some (.inl (w64 (n2 + (1 : Int))))
  else
    Option.map .inr (some (-1 : Int))

noncomputable def slices_IndexFunc_Letter_Letter_l1 (p0x0 : List Letter) (fnb : Letter → Option Bool) (n2 : Int) : Option Int :=
  iter (fun x : Int => slices_IndexFunc_Letter_Letter_b1 p0x0 fnb x) n2

noncomputable def slices_IndexFunc_Letter_Letter (p0x0 : List Letter) (fnb : Letter → Option Bool) : Option Int :=
  slices_IndexFunc_Letter_Letter_l1 p0x0 fnb (0 : Int)

noncomputable def slices_ContainsFunc_Letter_Letter (p0x0 : List Letter) (fnb : Letter → Option Bool) : Option Bool :=
  (slices_IndexFunc_Letter_Letter p0x0 fnb).bind fun v1 =>
  some (decide ((0 : Int) ≤ v1))

/-- A copy of a list. -/
noncomputable def slices_Clone_Letter_Letter (p0x0 : List Letter) : Option (List Letter) :=
  app [] p0x0

noncomputable def cmp_isNaN_int (p0x0 : Int) : Bool :=
  decide (p0x0 ≠ p0x0)

noncomputable def cmp_Compare_int (p0x0 : Int) (p1x0 : Int) : Int :=
  if (cmp_isNaN_int p0x0) = true then
    if (cmp_isNaN_int p1x0) = true then
      (0 : Int)
    else
      (-1 : Int)
  else
    if (cmp_isNaN_int p1x0) = true then
      (1 : Int)
    else
      if p0x0 < p1x0 then
        (-1 : Int)
      else
        if p1x0 < p0x0 then
          (1 : Int)
        else
          (0 : Int)

noncomputable def cmp_Or_int_b1 (p0x0 : List Int) (n2 : Int) : Option (Int ⊕ Int) :=
  if n2 < (p0x0.length : Int) then
    (idx p0x0 n2).bind fun v3 =>
    if v3 ≠ (0 : Int) then
      Option.map .inr (some v3)
    else
      some (.inl (w64 (n2 + (1 : Int))))
  else
    Option.map .inr (some (0 : Int))

noncomputable def cmp_Or_int_l1 (p0x0 : List Int) (n2 : Int) : Option Int :=
  iter (fun x : Int => cmp_Or_int_b1 p0x0 x) n2

noncomputable def cmp_Or_int (p0x0 : List Int) : Option Int :=
  cmp_Or_int_l1 p0x0 (0 : Int)

noncomputable def command_byOrder (p0x0 : Letter) (p1x0 : Letter) : Option Int :=
  (cmp_Or_int [(cmp_Compare_int p1x0.Prio p0x0.Prio), (cmp_Compare_int p0x0.At p1x0.At), (Lib.compareBytes p0x0.Id p1x0.Id)]).bind fun v3 =>
  some v3

/-- Sorted by Go. -/
noncomputable def slices_SortFunc_Letter_Letter (p0x0 : List Letter) (fnb : Letter → Letter → Option Int) : Option (List Letter) :=
  sortO fnb p0x0

noncomputable def command_Order_k1 (p0x0 : List Letter) : Option ((List Letter) × Int) :=
  (slices_Clone_Letter_Letter p0x0).bind fun v11 =>
  (lenOk v11.length (fun r : (List Letter) => r.length) (slices_SortFunc_Letter_Letter v11 (fun y0 y1 => command_byOrder y0 y1))).bind fun v13 =>
  some (v13, (0 : Int))

noncomputable def command_Order_b1 (p0x0 : List Letter) (n3 : Int) : Option (Int ⊕ ((List Letter) × Int)) :=
  if n3 < (p0x0.length : Int) then
    (idx p0x0 n3).bind fun v4 =>
    (command_CheckLetter v4).bind fun v6 =>
    if v6 ≠ (0 : Int) then
      Option.map .inr (some ([], v6))
    else
      (slc p0x0 (0 : Int) n3).bind fun l8 =>
      (slices_ContainsFunc_Letter_Letter l8 (fun y0 => some (command_Order_1x y0 v4))).bind fun v9 =>
      if v9 = true then
        Option.map .inr (some ([], (6 : Int)))
      else
        some (.inl (w64 (n3 + (1 : Int))))
  else
    Option.map .inr (command_Order_k1 p0x0)

noncomputable def command_Order_l1 (p0x0 : List Letter) (n3 : Int) : Option ((List Letter) × Int) :=
  iter (fun x : Int => command_Order_b1 p0x0 x) n3

noncomputable def command_Order (p0x0 : List Letter) : Option ((List Letter) × Int) :=
  if (500 : Int) < (p0x0.length : Int) then
    some ([], (2 : Int))
  else
    command_Order_l1 p0x0 (0 : Int)

noncomputable def Q_in_j1 (c1 : Bool) : Bool :=
  c1

noncomputable def Q_in (p0x0 : Int) (p1x0 : Int) (p2x0 : Int) : Bool :=
  Q_in_j1 ((decide (p1x0 ≤ p0x0)) && (decide (p0x0 ≤ p2x0)))

noncomputable def Q_only_b1 (p0x0 : Str) (p1x0 : Str) (n2 : Int) : Option (Int ⊕ Bool) :=
  if n2 < (p0x0.length : Int) then
    (idx p0x0 n2).bind fun c3 =>
    if (indexByteI p1x0 (c3.toNat : Int)) < (0 : Int) then
      Option.map .inr (some false)
    else
      some (.inl (w64 (n2 + (1 : Int))))
  else
    Option.map .inr (some true)

noncomputable def Q_only_l1 (p0x0 : Str) (p1x0 : Str) (n2 : Int) : Option Bool :=
  iter (fun x : Int => Q_only_b1 p0x0 p1x0 x) n2

noncomputable def Q_only (p0x0 : Str) (p1x0 : Str) : Option Bool :=
  Q_only_l1 p0x0 p1x0 (0 : Int)

noncomputable def Q_Key_j1 (c1 : Bool) : Option Bool :=
  some c1

noncomputable def Q_Key (p0x0 : Str) : Option Bool :=
  if (Q_in (p0x0.length : Int) (1 : Int) (40 : Int)) = true then
    (slc p0x0 (0 : Int) (1 : Int)).bind fun l2 =>
    (Q_only l2 ([97, 98, 99, 100, 101, 102, 103, 104, 105, 106, 107, 108, 109, 110, 111, 112, 113, 114, 115, 116, 117, 118, 119, 120, 121, 122] : Str)).bind fun v3 =>
    if v3 = true then
      (Q_only p0x0 ([97, 98, 99, 100, 101, 102, 103, 104, 105, 106, 107, 108, 109, 110, 111, 112, 113, 114, 115, 116, 117, 118, 119, 120, 121, 122, 48, 49, 50, 51, 52, 53, 54, 55, 56, 57, 45, 95] : Str)).bind fun v4 =>
      Q_Key_j1 v4
    else
      Q_Key_j1 false
  else
    Q_Key_j1 false

noncomputable def Q_Printed_1x_j1 (c1 : Bool) : Bool :=
  c1

noncomputable def Q_Printed_1x (p0x0 : Int) : Bool :=
  Q_Printed_1x_j1 ((decide (p0x0 < (32 : Int))) || (decide (p0x0 = (127 : Int))))

noncomputable def Q_Printed_j1 (c1 : Bool) : Option Bool :=
  some c1

noncomputable def Q_Printed (p0x0 : Str) : Option Bool :=
  (validO p0x0).bind fun v2 =>
  if v2 = true then
    (containsF p0x0 (fun y0 => some (Q_Printed_1x y0))).bind fun v3 =>
    Q_Printed_j1 (!v3)
  else
    Q_Printed_j1 false

noncomputable def Q_Moment (p0x0 : Int) : Bool :=
  (Q_in p0x0 (0 : Int) (345686399999 : Int))

noncomputable def Q_LetterFault_j2 (c6 : Bool) : Option Int :=
  if c6 = true then
    some (1 : Int)
  else
    some (0 : Int)

noncomputable def Q_LetterFault_j1 (p0x0 : Letter) (c2 : Bool) : Option Int :=
  if c2 = true then
    some (5 : Int)
  else
    if (1000 : Int) < (p0x0.Body.length : Int) then
      some (2 : Int)
    else
      (Q_Printed p0x0.Body).bind fun v5 =>
      if (!v5) = true then
        some (3 : Int)
      else
        Q_LetterFault_j2 ((!(Q_in p0x0.Prio (0 : Int) (9 : Int))) || ((!(Q_Moment p0x0.At)) || ((decide (p0x0.Until ≤ p0x0.At)) || (decide ((345686400000 : Int) < p0x0.Until)))))

noncomputable def Q_LetterFault (p0x0 : Letter) : Option Int :=
  (Q_Key p0x0.Id).bind fun v3 =>
  if (!v3) = true then
    Q_LetterFault_j1 p0x0 true
  else
    if p0x0.Slot ≠ ([] : Str) then
      (Q_Key p0x0.Slot).bind fun v4 =>
      Q_LetterFault_j1 p0x0 (!v4)
    else
      Q_LetterFault_j1 p0x0 false

noncomputable def Q_LettersFault_1x (p0x0 : Letter) (p1x0 : Letter) : Bool :=
  decide (p0x0.Id = p1x0.Id)

noncomputable def Q_LettersFault_b1 (p0x0 : List Letter) (n2 : Int) : Option (Int ⊕ Int) :=
  if n2 < (p0x0.length : Int) then
    (idx p0x0 n2).bind fun v3 =>
    (Q_LetterFault v3).bind fun v5 =>
    if v5 ≠ (0 : Int) then
      Option.map .inr (some v5)
    else
      (slc p0x0 (0 : Int) n2).bind fun l6 =>
      (slices_ContainsFunc_Letter_Letter l6 (fun y0 => some (Q_LettersFault_1x y0 v3))).bind fun v7 =>
      if v7 = true then
        Option.map .inr (some (6 : Int))
      else
        some (.inl (w64 (n2 + (1 : Int))))
  else
    Option.map .inr (some (0 : Int))

noncomputable def Q_LettersFault_l1 (p0x0 : List Letter) (n2 : Int) : Option Int :=
  iter (fun x : Int => Q_LettersFault_b1 p0x0 x) n2

noncomputable def Q_LettersFault (p0x0 : List Letter) : Option Int :=
  if (500 : Int) < (p0x0.length : Int) then
    some (2 : Int)
  else
    Q_LettersFault_l1 p0x0 (0 : Int)

noncomputable def command_CheckPost_j1 (c2 : Bool) : Int :=
  if c2 = true then
    (1 : Int)
  else
    (0 : Int)

noncomputable def command_CheckPost (p0x0 : Post) : Int :=
  command_CheckPost_j1 ((base_Out p0x0.Room (1 : Int) (500 : Int)) || ((base_Out p0x0.Timeout (1 : Int) (86400000 : Int)) || ((base_Out p0x0.Tries (1 : Int) (20 : Int)) || (base_Out p0x0.Kept (0 : Int) (1000 : Int)))))

noncomputable def Q_PostFault_j1 (c2 : Bool) : Int :=
  if c2 = true then
    (1 : Int)
  else
    (0 : Int)

noncomputable def Q_PostFault (p0x0 : Post) : Int :=
  Q_PostFault_j1 ((!(Q_in p0x0.Room (1 : Int) (500 : Int))) || ((!(Q_in p0x0.Timeout (1 : Int) (86400000 : Int))) || ((!(Q_in p0x0.Tries (1 : Int) (20 : Int))) || (!(Q_in p0x0.Kept (0 : Int) (1000 : Int))))))

noncomputable def Q_sign (p0x0 : Int) : Int :=
  if p0x0 < (0 : Int) then
    (-1 : Int)
  else
    if (0 : Int) < p0x0 then
      (1 : Int)
    else
      (0 : Int)

noncomputable def Q_LetterOrder (p0x0 : Letter) (p1x0 : Letter) : Int :=
  if p0x0.Prio ≠ p1x0.Prio then
    (Q_sign (w64 (p1x0.Prio - p0x0.Prio)))
  else
    if p0x0.At ≠ p1x0.At then
      (Q_sign (w64 (p0x0.At - p1x0.At)))
    else
      (Lib.compareBytes p0x0.Id p1x0.Id)

noncomputable def slices_Equal_Letter_Letter_b1 (p0x0 : List Letter) (p1x0 : List Letter) (n2 : Int) : Option (Int ⊕ Bool) :=
  if n2 < (p0x0.length : Int) then
    (idx p0x0 n2).bind fun v3 =>
    (idx p1x0 n2).bind fun v4 =>
    if v3 ≠ v4 then
      Option.map .inr (some false)
    else
      some (.inl (w64 (n2 + (1 : Int))))
  else
    Option.map .inr (some true)

noncomputable def slices_Equal_Letter_Letter_l1 (p0x0 : List Letter) (p1x0 : List Letter) (n2 : Int) : Option Bool :=
  iter (fun x : Int => slices_Equal_Letter_Letter_b1 p0x0 p1x0 x) n2

noncomputable def slices_Equal_Letter_Letter (p0x0 : List Letter) (p1x0 : List Letter) : Option Bool :=
  if (p0x0.length : Int) ≠ (p1x0.length : Int) then
    some false
  else
    slices_Equal_Letter_Letter_l1 p0x0 p1x0 (0 : Int)

noncomputable def command_New (p0x0 : Post) : (Option Command_Office) × Int :=
  if (command_CheckPost p0x0) ≠ (0 : Int) then
    (none, (command_CheckPost p0x0))
  else
    (some (⟨p0x0, [], (0 : Int)⟩ : Command_Office), (0 : Int))

noncomputable def command_Office_timeFault (p0x0 : Command_Office) (p1x0 : Int) : Int :=
  if (!(base_Moment p1x0)) = true then
    (1 : Int)
  else
    if p1x0 < p0x0.time_ then
      (7 : Int)
    else
      (0 : Int)

noncomputable def base_First_b1 (p0x0 : List Int) (n2 : Int) : Option (Int ⊕ Int) :=
  if n2 < (p0x0.length : Int) then
    (idx p0x0 n2).bind fun v3 =>
    if v3 ≠ (0 : Int) then
      Option.map .inr (some v3)
    else
      some (.inl (w64 (n2 + (1 : Int))))
  else
    Option.map .inr (some (0 : Int))

noncomputable def base_First_l1 (p0x0 : List Int) (n2 : Int) : Option Int :=
  iter (fun x : Int => base_First_b1 p0x0 x) n2

noncomputable def base_First (p0x0 : List Int) : Option Int :=
  base_First_l1 p0x0 (0 : Int)

noncomputable def command_ended (p0x0 : Int) : Bool :=
  decide ((3 : Int) ≤ p0x0)

noncomputable def command_Office_turn (p0x0 : Command_Office) (p1x0 : Note) : Int :=
  if p1x0.State = (2 : Int) then
    min p1x0.Letter.Until (w64 (p1x0.Since + p0x0.post_.Timeout))
  else
    p1x0.Letter.Until

noncomputable def command_Office_grown_j1 (p1x0 : Note) (n3 : Int) (n4 : Int) : Option Note :=
  some (⟨p1x0.Letter, n3, p1x0.Tries, n4⟩ : Note)

noncomputable def command_Office_grown_j2 (p0x0 : Command_Office) (p1x0 : Note) (n7 : Int) (n8 : Int) (n9 : Int) : Option ((Int × Int) ⊕ Note) :=
  some (.inl (n9, (command_Office_turn p0x0 (⟨p1x0.Letter, n7, p1x0.Tries, n8⟩ : Note))))

noncomputable def command_Office_grown_j3 (p0x0 : Command_Office) (p1x0 : Note) (n7 : Int) (n8 : Int) (n10 : Int) : Option ((Int × Int) ⊕ Note) :=
  command_Office_grown_j2 p0x0 p1x0 n7 n8 n10

noncomputable def command_Office_grown_b1 (p0x0 : Command_Office) (p1x0 : Note) (p2x0 : Int) (n7 : Int) (n8 : Int) : Option ((Int × Int) ⊕ Note) :=
  if (!(command_ended n7)) = true then
    if p2x0 < (command_Office_turn p0x0 (⟨p1x0.Letter, n7, p1x0.Tries, n8⟩ : Note)) then
      Option.map .inr (command_Office_grown_j1 p1x0 n7 n8)
    else
      if (command_Office_turn p0x0 (⟨p1x0.Letter, n7, p1x0.Tries, n8⟩ : Note)) = p1x0.Letter.Until then
        command_Office_grown_j2 p0x0 p1x0 n7 n8 (5 : Int)
      else
        if p1x0.Tries = p0x0.post_.Tries then
          command_Office_grown_j3 p0x0 p1x0 n7 n8 (7 : Int)
        else
          command_Office_grown_j3 p0x0 p1x0 n7 n8 (1 : Int)
  else
    Option.map .inr (command_Office_grown_j1 p1x0 n7 n8)

noncomputable def command_Office_grown_l1 (p0x0 : Command_Office) (p1x0 : Note) (p2x0 : Int) (n7 : Int) (n8 : Int) : Option Note :=
  iter (fun x : Int × Int => command_Office_grown_b1 p0x0 p1x0 p2x0 x.1 x.2) (n7, n8)

noncomputable def command_Office_grown (p0x0 : Command_Office) (p1x0 : Note) (p2x0 : Int) : Option Note :=
  command_Office_grown_l1 p0x0 p1x0 p2x0 p1x0.State p1x0.Since

noncomputable def command_Office_aged_1x (p0x0 : Note) (p1x0 : Note) : Option Int :=
  (cmp_Or_int [(cmp_Compare_int p0x0.Since p1x0.Since), (Lib.compareBytes p0x0.Letter.Id p1x0.Letter.Id)]).bind fun v3 =>
  some v3

/-- Sorted by Go. -/
noncomputable def slices_SortFunc_Note_Note (p0x0 : List Note) (fnb : Note → Note → Option Int) : Option (List Note) :=
  sortO fnb p0x0

noncomputable def command_Office_aged_j1 (l6 : List (Str × Note)) (v1m : Str × Note) (v19 : Note) (l21 : List Note) : Option (((List (Str × Note)) × (List Note)) ⊕ (List (Str × Note))) :=
  some (.inl (mset l6 v1m.1 v19, l21))

noncomputable def command_Office_aged_b1 (p0x0 : Command_Office) (p1x0 : Int) (v1m : Str × Note) (l6 : List (Str × Note)) (l8 : List Note) : Option (((List (Str × Note)) × (List Note)) ⊕ (List (Str × Note))) :=
  (command_Office_grown p0x0 v1m.2 p1x0).bind fun v19 =>
  if (command_ended v19.State) = true then
    (app l8 [v19]).bind fun l22 =>
    command_Office_aged_j1 l6 v1m v19 l22
  else
    command_Office_aged_j1 l6 v1m v19 l8

noncomputable def command_Office_aged_b2 (v10 : (List Note)) (l11 : List Note) (l14 : List (Str × Note)) (n15 : Int) : Option (((List (Str × Note)) × Int) ⊕ (List (Str × Note))) :=
  if n15 < (l11.length : Int) then
    (idxS v10 (0 : Int) l11.length n15).bind fun v16 =>
    some (.inl (mdel l14 v16.Letter.Id, w64 (n15 + (1 : Int))))
  else
    Option.map .inr (some l14)

noncomputable def command_Office_aged_l2 (v10 : (List Note)) (l11 : List Note) (l14 : List (Str × Note)) (n15 : Int) : Option (List (Str × Note)) :=
  iter (fun x : (List (Str × Note)) × Int => command_Office_aged_b2 v10 l11 x.1 x.2) (l14, n15)

noncomputable def command_Office_aged_f1 (p0x0 : Command_Office) (l6 : List (Str × Note)) (l8 : List Note) : Option (List (Str × Note)) :=
  (lenOk l8.length (fun r : (List Note) => r.length) (slices_SortFunc_Note_Note l8 (fun y0 y1 => command_Office_aged_1x y0 y1))).bind fun v10 =>
  (slc v10 (0 : Int) (max (0 : Int) (w64 ((v10.length : Int) - p0x0.post_.Kept)))).bind fun l11 =>
  command_Office_aged_l2 v10 l11 l6 (0 : Int)

noncomputable def command_Office_aged_l1 (p0x0 : Command_Office) (p1x0 : Int) (l6 : List (Str × Note)) (l8 : List Note) : Option (List (Str × Note)) :=
  overP p0x0.notes_ (fun p => loopL (fun e (x : (List (Str × Note)) × (List Note)) => command_Office_aged_b1 p0x0 p1x0 e x.1 x.2) (fun x : (List (Str × Note)) × (List Note) => command_Office_aged_f1 p0x0 x.1 x.2) p (l6, l8))

noncomputable def command_Office_aged (p0x0 : Command_Office) (p1x0 : Int) : Option (List (Str × Note)) :=
  command_Office_aged_l1 p0x0 p1x0 [] []

noncomputable def command_pending_j1 (n5 : Int) : Option (Int ⊕ Int) :=
  some (.inl n5)

noncomputable def command_pending_b1 (v1m : Str × Note) (n3 : Int) : Option (Int ⊕ Int) :=
  if (!(command_ended v1m.2.State)) = true then
    command_pending_j1 (w64 (n3 + (1 : Int)))
  else
    command_pending_j1 n3

noncomputable def command_pending_f1 (n3 : Int) : Option Int :=
  some n3

noncomputable def command_pending_l1 (p0x0 : List (Str × Note)) (n3 : Int) : Option Int :=
  overP p0x0 (fun p => loopL (fun e (x : Int) => command_pending_b1 e x) (fun x : Int => command_pending_f1 x) p n3)

noncomputable def command_pending (p0x0 : List (Str × Note)) : Option Int :=
  command_pending_l1 p0x0 (0 : Int)

noncomputable def command_Office_keep (p0x0 : Command_Office) (p1x0 : List (Str × Note)) (p2x0 : Int) : Command_Office :=
  (⟨p0x0.post_, p1x0, p2x0⟩ : Command_Office)

noncomputable def command_Office_Put_j4 (q19 : Str) : Option (Str ⊕ (Int × Command_Office)) :=
  some (.inl q19)

noncomputable def command_Office_Put_j3 (q10 : Str) (v1m : Str × Note) (c18 : Bool) : Option (Str ⊕ (Int × Command_Office)) :=
  if c18 = true then
    command_Office_Put_j4 v1m.1
  else
    command_Office_Put_j4 q10

noncomputable def command_Office_Put_b1 (p1x0 : Letter) (v1m : Str × Note) (q10 : Str) : Option (Str ⊕ (Int × Command_Office)) :=
  command_Office_Put_j3 q10 v1m ((decide (p1x0.Slot ≠ ([] : Str))) && ((decide (v1m.2.Letter.Slot = p1x0.Slot)) && ((decide (v1m.2.State = (1 : Int))) && (decide (v1m.2.Tries = (0 : Int))))))

noncomputable def command_Office_Put_j2 (p0x0 : Command_Office) (p1x0 : Letter) (l13 : List (Str × Note)) : Option (Int × Command_Office) :=
  some ((0 : Int), (command_Office_keep p0x0 (mset l13 p1x0.Id (⟨p1x0, (1 : Int), (0 : Int), p1x0.At⟩ : Note)) p1x0.At))

noncomputable def command_Office_Put_j1 (p0x0 : Command_Office) (p1x0 : Letter) (v4 : (List (Str × Note))) (q10 : Str) (n11 : Int) : Option (Int × Command_Office) :=
  (command_pending v4).bind fun v12 =>
  if n11 ≤ v12 then
    some ((12 : Int), p0x0)
  else
    if q10 ≠ ([] : Str) then
      (mgetO v4 q10 (⟨(⟨[], [], [], (0 : Int), (0 : Int), (0 : Int)⟩ : Letter), (0 : Int), (0 : Int), (0 : Int)⟩ : Note)).bind fun v14 =>
      command_Office_Put_j2 p0x0 p1x0 (mset v4 q10 (⟨v14.Letter, (6 : Int), v14.Tries, p1x0.At⟩ : Note))
    else
      command_Office_Put_j2 p0x0 p1x0 v4

noncomputable def command_Office_Put_f1 (p0x0 : Command_Office) (p1x0 : Letter) (v4 : (List (Str × Note))) (q10 : Str) : Option (Int × Command_Office) :=
  if q10 ≠ ([] : Str) then
    command_Office_Put_j1 p0x0 p1x0 v4 q10 (w64 (p0x0.post_.Room + (1 : Int)))
  else
    command_Office_Put_j1 p0x0 p1x0 v4 q10 p0x0.post_.Room

noncomputable def command_Office_Put_l1 (p0x0 : Command_Office) (p1x0 : Letter) (v4 : (List (Str × Note))) (q10 : Str) : Option (Int × Command_Office) :=
  overP v4 (fun p => loopL (fun e (x : Str) => command_Office_Put_b1 p1x0 e x) (fun x : Str => command_Office_Put_f1 p0x0 p1x0 v4 x) p q10)

noncomputable def command_Office_Put (p0x0 : Command_Office) (p1x0 : Letter) : Option (Int × Command_Office) :=
  (command_CheckLetter p1x0).bind fun v2 =>
  (base_First [v2, (command_Office_timeFault p0x0 p1x0.At)]).bind fun v3 =>
  if v3 ≠ (0 : Int) then
    some (v3, p0x0)
  else
    (command_Office_aged p0x0 p1x0.At).bind fun v4 =>
    (mget2 v4 p1x0.Id (⟨(⟨[], [], [], (0 : Int), (0 : Int), (0 : Int)⟩ : Letter), (0 : Int), (0 : Int), (0 : Int)⟩ : Note)).bind fun v6 =>
    if v6.2 = true then
      some ((6 : Int), p0x0)
    else
      command_Office_Put_l1 p0x0 p1x0 v4 ([] : Str)

noncomputable def command_Office_Waiting (p0x0 : Command_Office) (p1x0 : Int) : Option (Int × Int × Command_Office) :=
  if (command_Office_timeFault p0x0 p1x0) ≠ (0 : Int) then
    some ((0 : Int), (command_Office_timeFault p0x0 p1x0), p0x0)
  else
    (command_Office_aged p0x0 p1x0).bind fun v1 =>
    (command_pending ((command_Office_keep p0x0 v1 p1x0).notes_)).bind fun v4 =>
    some (v4, (0 : Int), (command_Office_keep p0x0 v1 p1x0))

noncomputable def L_posted_j1 : Option Bool :=
  some false

noncomputable def L_posted_j3 (c16 : Bool) : Option Bool :=
  some c16

noncomputable def L_posted_j2 (n4 : Int) (n5 : Int) (n6 : Int) (n7 : Int) (l9 : List (Str × Note)) (n10 : Int) (c11 : Bool) : Option Bool :=
  if c11 = true then
    some false
  else
    (command_Office_Waiting (⟨(⟨n4, n5, n6, n7⟩ : Post), l9, n10⟩ : Command_Office) (0 : Int)).bind fun v14 =>
    L_posted_j3 ((decide (v14.2.1 = (0 : Int))) && (decide (v14.1 = (1 : Int))))

noncomputable def L_posted : Option Bool :=
  casesO ((command_New (⟨(1 : Int), (1 : Int), (1 : Int), (0 : Int)⟩ : Post)).1) (
    if ((command_New (⟨(1 : Int), (1 : Int), (1 : Int), (0 : Int)⟩ : Post)).2) ≠ (0 : Int) then
      L_posted_j1
    else
      L_posted_j1) (fun x1 =>
    if ((command_New (⟨(1 : Int), (1 : Int), (1 : Int), (0 : Int)⟩ : Post)).2) ≠ (0 : Int) then
      L_posted_j2 x1.post_.Room x1.post_.Timeout x1.post_.Tries x1.post_.Kept x1.notes_ x1.time_ true
    else
      (command_Office_Put x1 (⟨([97] : Str), [], [], (0 : Int), (0 : Int), (5 : Int)⟩ : Letter)).bind fun v12 =>
      L_posted_j2 v12.2.post_.Room v12.2.post_.Timeout v12.2.post_.Tries v12.2.post_.Kept v12.2.notes_ v12.2.time_ (decide (v12.1 ≠ (0 : Int))))

noncomputable def L_LettersChecked_j2 (c18 : Bool) : Option Bool :=
  some c18

noncomputable def L_LettersChecked_j1 (v5 : (List Letter) × Fleetmake_Stream) (v9 : (List Letter) × Int) (v11 : Int) (c12 : Bool) : Option Bool :=
  if c12 = true then
    some false
  else
    (slices_Clone_Letter_Letter v5.1).bind fun v15 =>
    (lenOk v15.length (fun r : (List Letter) => r.length) (slices_SortFunc_Letter_Letter v15 (fun y0 y1 => some (Q_LetterOrder y0 y1)))).bind fun v17 =>
    if v11 = (0 : Int) then
      (slices_Equal_Letter_Letter v9.1 v17).bind fun v19 =>
      if v19 = true then
        (L_posted).bind fun v21 =>
        L_LettersChecked_j2 v21
      else
        if v11 ≠ (0 : Int) then
          if (v9.1.length : Int) = (0 : Int) then
            (L_posted).bind fun v20 =>
            L_LettersChecked_j2 v20
          else
            L_LettersChecked_j2 false
        else
          L_LettersChecked_j2 false
    else
      if v11 ≠ (0 : Int) then
        if (v9.1.length : Int) = (0 : Int) then
          (L_posted).bind fun v22 =>
          L_LettersChecked_j2 v22
        else
          L_LettersChecked_j2 false
      else
        L_LettersChecked_j2 false

noncomputable def L_LettersChecked (p0x0 : List Int) : Option Bool :=
  (Stream_Letter (⟨p0x0, (0 : Int)⟩ : Fleetmake_Stream) (5 : Int)).bind fun v2 =>
  (Stream_Post v2.2).bind fun v3 =>
  (Stream_Range v3.2 (0 : Int) (6 : Int)).bind fun v4 =>
  (Stream_Letters v4.2 v4.1).bind fun v5 =>
  (command_Order v5.1).bind fun v9 =>
  (Q_LettersFault v5.1).bind fun v11 =>
  (command_CheckLetter v2.1).bind fun v13 =>
  (Q_LetterFault v2.1).bind fun v14 =>
  L_LettersChecked_j1 v5 v9 v11 ((decide (v13 ≠ v14)) || ((decide ((command_CheckPost v3.1) ≠ (Q_PostFault v3.1))) || (decide (v9.2 ≠ v11))))

end Go.Beacon
