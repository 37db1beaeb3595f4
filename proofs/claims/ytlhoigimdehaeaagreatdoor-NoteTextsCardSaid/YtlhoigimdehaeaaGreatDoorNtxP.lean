/- Plain functions that the Go functions compute, written by shal.py. -/
import Derived.Test.YtlhoigimdehaeaaGreatDoorCore
set_option linter.unusedVariables false
namespace Go.Beacon
open Go Go.Eng
structure Fleetmake_Stream where
  L : List Int
  at_ : Int
deriving DecidableEq, Inhabited
def Fleetmake_Stream.av (x : Fleetmake_Stream) : AV := .agg [.list 1 (x.L.map I), I x.at_]

structure Letter where
  Id : Str
  Slot : Str
  Body : Str
  Prio : Int
  At : Int
  Until : Int
deriving DecidableEq, Inhabited
def Letter.av (x : Letter) : AV := .agg [.str x.Id, .str x.Slot, .str x.Body, I x.Prio, I x.At, I x.Until]

structure Note where
  Letter : Letter
  State : Int
  Tries : Int
  Since : Int
deriving DecidableEq, Inhabited
def Note.av (x : Note) : AV := .agg [.str x.Letter.Id, .str x.Letter.Slot, .str x.Letter.Body, I x.Letter.Prio, I x.Letter.At, I x.Letter.Until, I x.State, I x.Tries, I x.Since]

structure Post where
  Room : Int
  Timeout : Int
  Tries : Int
  Kept : Int
deriving DecidableEq, Inhabited
def Post.av (x : Post) : AV := .agg [I x.Room, I x.Timeout, I x.Tries, I x.Kept]

structure Command_Office where
  post_ : Post
  notes_ : List (Str × Note)
  time_ : Int
deriving DecidableEq, Inhabited

noncomputable def Below_j1 (n2 : Int) : Option Int :=
  some n2

noncomputable def Below (p0x0 : Int) (p1x0 : Int) : Option Int :=
  if p1x0 < (1 : Int) then
    some (0 : Int)
  else
    (rem p0x0 p1x0).bind fun n1 =>
    if n1 < (0 : Int) then
      Below_j1 (w64 (n1 + p1x0))
    else
      Below_j1 n1

noncomputable def Stream_Next (p0x0 : Fleetmake_Stream) (p1x0 : Int) : Option (Int × Fleetmake_Stream) :=
  if (p0x0.L.length : Int) = (0 : Int) then
    (Below (w64 ((w64 (p0x0.at_ + (1 : Int))) * (7919 : Int))) p1x0).bind fun v1 =>
    some (v1, (⟨p0x0.L, w64 (p0x0.at_ + (1 : Int))⟩ : Fleetmake_Stream))
  else
    (rem (w64 ((w64 (p0x0.at_ + (1 : Int))) - (1 : Int))) (p0x0.L.length : Int)).bind fun n2 =>
    (quo (w64 ((w64 (p0x0.at_ + (1 : Int))) - (1 : Int))) (p0x0.L.length : Int)).bind fun n3 =>
    (idx p0x0.L n2).bind fun v4 =>
    (Below v4 (1073741824 : Int)).bind fun v5 =>
    (Below (w64 (v5 + (w64 (n3 * (w64 ((7919 : Int) + n2)))))) p1x0).bind fun v6 =>
    some (v6, (⟨p0x0.L, w64 (p0x0.at_ + (1 : Int))⟩ : Fleetmake_Stream))

noncomputable def Stream_Flip (p0x0 : Fleetmake_Stream) (p1x0 : Int) : Option (Bool × Fleetmake_Stream) :=
  (Stream_Next p0x0 p1x0).bind fun v1 =>
  some (decide (v1.1 = (0 : Int)), v1.2)

noncomputable def Stream_Some (p0x0 : Fleetmake_Stream) (p1x0 : List Str) : Option (Str × Fleetmake_Stream) :=
  (Stream_Next p0x0 (p1x0.length : Int)).bind fun v1 =>
  (idx p1x0 v1.1).bind fun v2 =>
  some (v2, v1.2)

noncomputable def Stream_Pick (p0x0 : Fleetmake_Stream) (p1x0 : List Int) : Option (Int × Fleetmake_Stream) :=
  (Stream_Next p0x0 (p1x0.length : Int)).bind fun v1 =>
  (idx p1x0 v1.1).bind fun v2 =>
  some (v2, v1.2)

noncomputable def Stream_Range (p0x0 : Fleetmake_Stream) (p1x0 : Int) (p2x0 : Int) : Option (Int × Fleetmake_Stream) :=
  if p2x0 < p1x0 then
    some (p1x0, p0x0)
  else
    (Stream_Next p0x0 (w64 ((w64 (p2x0 - p1x0)) + (1 : Int)))).bind fun v1 =>
    some (w64 (p1x0 + v1.1), v1.2)

noncomputable def Stream_Odd (p0x0 : Fleetmake_Stream) (p1x0 : Int) (p2x0 : Int) : Option (Int × Fleetmake_Stream) :=
  (Stream_Flip p0x0 (12 : Int)).bind fun v1 =>
  if v1.1 = true then
    (Stream_Pick v1.2 [w64 (p1x0 - (1 : Int)), w64 (p2x0 + (1 : Int)), p1x0, p2x0, (-1099511627776 : Int), (1099511627776 : Int)]).bind fun v2 =>
    some (v2.1, v2.2)
  else
    (Stream_Range v1.2 p1x0 p2x0).bind fun v3 =>
    some (v3.1, v3.2)

noncomputable def Stream_Notes_j1 (n10 : Int) (l12 : List Int) (n13 : Int) (l15 : List Note) : Option (((List Int) × Int × (List Note) × Int) ⊕ ((List Note) × Fleetmake_Stream)) :=
  some (.inl (l12, n13, l15, w64 (n10 + (1 : Int))))

noncomputable def Stream_Notes_j2 (l9 : List Note) (n10 : Int) (v18 : Str × Fleetmake_Stream) (v19 : Str × Fleetmake_Stream) (v20 : Int × Fleetmake_Stream) (l26 : List Int) (n27 : Int) (q28 : Str) (n29 : Int) (n30 : Int) (n31 : Int) : Option (((List Int) × Int × (List Note) × Int) ⊕ ((List Note) × Fleetmake_Stream)) :=
  (app l9 [(⟨(⟨q28, v18.1, v19.1, v20.1, (0 : Int), (100 : Int)⟩ : Letter), n29, n30, n31⟩ : Note)]).bind fun l36 =>
  Stream_Notes_j1 n10 l26 n27 l36

noncomputable def Stream_Notes_b1 (l6 : List Int) (n7 : Int) (l9 : List Note) (n10 : Int) : Option (((List Int) × Int × (List Note) × Int) ⊕ ((List Note) × Fleetmake_Stream)) :=
  if n10 < ([([108, 97] : Str), ([108, 98] : Str), ([108, 99] : Str), ([108, 100] : Str)].length : Int) then
    (idx [([108, 97] : Str), ([108, 98] : Str), ([108, 99] : Str), ([108, 100] : Str)] n10).bind fun v16 =>
    (Stream_Flip (⟨l6, n7⟩ : Fleetmake_Stream) (3 : Int)).bind fun v17 =>
    if v17.1 = true then
      Stream_Notes_j1 n10 v17.2.L v17.2.at_ l9
    else
      (Stream_Some v17.2 [([] : Str), ([115, 97] : Str)]).bind fun v18 =>
      (Stream_Some v18.2 [([100, 111] : Str), ([100, 111] : Str), ([120, 32, 34, 121, 34] : Str)]).bind fun v19 =>
      (Stream_Pick v19.2 [(0 : Int), (0 : Int), (0 : Int), (5 : Int)]).bind fun v20 =>
      (Stream_Range v20.2 (1 : Int) (7 : Int)).bind fun v21 =>
      (Stream_Pick v21.2 [(0 : Int), (1 : Int), (1 : Int), (2 : Int)]).bind fun v22 =>
      (Stream_Pick v22.2 [(0 : Int), (5 : Int), (5 : Int), (9 : Int)]).bind fun v23 =>
      (Stream_Flip v23.2 (40 : Int)).bind fun v25 =>
      if v25.1 = true then
        (Stream_Some v25.2 [v16, ([] : Str), ([108, 97] : Str)]).bind fun v32 =>
        (Stream_Odd v32.2 (1 : Int) (7 : Int)).bind fun v33 =>
        (Stream_Odd v33.2 (0 : Int) (20 : Int)).bind fun v34 =>
        (Stream_Odd v34.2 (0 : Int) (50 : Int)).bind fun v35 =>
        Stream_Notes_j2 l9 n10 v18 v19 v20 v35.2.L v35.2.at_ v32.1 v33.1 v34.1 v35.1
      else
        Stream_Notes_j2 l9 n10 v18 v19 v20 v25.2.L v25.2.at_ v16 v21.1 v22.1 v23.1
  else
    Option.map .inr (some (l9, (⟨l6, n7⟩ : Fleetmake_Stream)))

noncomputable def Stream_Notes_l1 (l6 : List Int) (n7 : Int) (l9 : List Note) (n10 : Int) : Option ((List Note) × Fleetmake_Stream) :=
  iter (fun x : (List Int) × Int × (List Note) × Int => Stream_Notes_b1 x.1 x.2.1 x.2.2.1 x.2.2.2) (l6, n7, l9, n10)

noncomputable def Stream_Notes (p0x0 : Fleetmake_Stream) : Option ((List Note) × Fleetmake_Stream) :=
  Stream_Notes_l1 p0x0.L p0x0.at_ [] (0 : Int)

noncomputable def Q_in_j1 (c1 : Bool) : Bool :=
  c1

noncomputable def Q_in (p0x0 : Int) (p1x0 : Int) (p2x0 : Int) : Bool :=
  Q_in_j1 ((decide (p1x0 ≤ p0x0)) && (decide (p0x0 ≤ p2x0)))

noncomputable def Q_only_b1 (p0x0 : Str) (p1x0 : Str) (n2 : Int) : Option (Int ⊕ Bool) :=
  if n2 < (p0x0.length : Int) then
    (idx p0x0 n2).bind fun c3 =>
    if (indexByteI p1x0 (c3.toNat : Int)) < (0 : Int) then
      Option.map .inr (some false)
    else
      some (.inl (w64 (n2 + (1 : Int))))
  else
    Option.map .inr (some true)

noncomputable def Q_only_l1 (p0x0 : Str) (p1x0 : Str) (n2 : Int) : Option Bool :=
  iter (fun x : Int => Q_only_b1 p0x0 p1x0 x) n2

noncomputable def Q_only (p0x0 : Str) (p1x0 : Str) : Option Bool :=
  Q_only_l1 p0x0 p1x0 (0 : Int)

noncomputable def Q_Key_j1 (c1 : Bool) : Option Bool :=
  some c1

noncomputable def Q_Key (p0x0 : Str) : Option Bool :=
  if (Q_in (p0x0.length : Int) (1 : Int) (40 : Int)) = true then
    (slc p0x0 (0 : Int) (1 : Int)).bind fun l2 =>
    (Q_only l2 ([97, 98, 99, 100, 101, 102, 103, 104, 105, 106, 107, 108, 109, 110, 111, 112, 113, 114, 115, 116, 117, 118, 119, 120, 121, 122] : Str)).bind fun v3 =>
    if v3 = true then
      (Q_only p0x0 ([97, 98, 99, 100, 101, 102, 103, 104, 105, 106, 107, 108, 109, 110, 111, 112, 113, 114, 115, 116, 117, 118, 119, 120, 121, 122, 48, 49, 50, 51, 52, 53, 54, 55, 56, 57, 45, 95] : Str)).bind fun v4 =>
      Q_Key_j1 v4
    else
      Q_Key_j1 false
  else
    Q_Key_j1 false

noncomputable def Q_Printed_1x_j1 (c1 : Bool) : Bool :=
  c1

noncomputable def Q_Printed_1x (p0x0 : Int) : Bool :=
  Q_Printed_1x_j1 ((decide (p0x0 < (32 : Int))) || (decide (p0x0 = (127 : Int))))

noncomputable def Q_Printed_j1 (c1 : Bool) : Option Bool :=
  some c1

noncomputable def Q_Printed (p0x0 : Str) : Option Bool :=
  (validO p0x0).bind fun v2 =>
  if v2 = true then
    (containsF p0x0 (fun y0 => some (Q_Printed_1x y0))).bind fun v3 =>
    Q_Printed_j1 (!v3)
  else
    Q_Printed_j1 false

noncomputable def Q_Moment (p0x0 : Int) : Bool :=
  (Q_in p0x0 (0 : Int) (345686399999 : Int))

noncomputable def Q_LetterFault_j2 (c6 : Bool) : Option Int :=
  if c6 = true then
    some (1 : Int)
  else
    some (0 : Int)

noncomputable def Q_LetterFault_j1 (p0x0 : Letter) (c2 : Bool) : Option Int :=
  if c2 = true then
    some (5 : Int)
  else
    if (1000 : Int) < (p0x0.Body.length : Int) then
      some (2 : Int)
    else
      (Q_Printed p0x0.Body).bind fun v5 =>
      if (!v5) = true then
        some (3 : Int)
      else
        Q_LetterFault_j2 ((!(Q_in p0x0.Prio (0 : Int) (9 : Int))) || ((!(Q_Moment p0x0.At)) || ((decide (p0x0.Until ≤ p0x0.At)) || (decide ((345686400000 : Int) < p0x0.Until)))))

noncomputable def Q_LetterFault (p0x0 : Letter) : Option Int :=
  (Q_Key p0x0.Id).bind fun v3 =>
  if (!v3) = true then
    Q_LetterFault_j1 p0x0 true
  else
    if p0x0.Slot ≠ ([] : Str) then
      (Q_Key p0x0.Slot).bind fun v4 =>
      Q_LetterFault_j1 p0x0 (!v4)
    else
      Q_LetterFault_j1 p0x0 false

noncomputable def Q_NotesFault_j1 (q3 : Str) (n4 : Int) (v5 : Note) (c8 : Bool) : Option ((Str × Int) ⊕ Int) :=
  if c8 = true then
    Option.map .inr (some (1 : Int))
  else
    if (Op.bytesLess v5.Letter.Id q3 || v5.Letter.Id == q3) = true then
      Option.map .inr (some (7 : Int))
    else
      some (.inl (v5.Letter.Id, w64 (n4 + (1 : Int))))

noncomputable def Q_NotesFault_b1 (p0x0 : List Note) (q3 : Str) (n4 : Int) : Option ((Str × Int) ⊕ Int) :=
  if n4 < (p0x0.length : Int) then
    (idx p0x0 n4).bind fun v5 =>
    (Q_LetterFault v5.Letter).bind fun v7 =>
    if v7 ≠ (0 : Int) then
      Option.map .inr (some v7)
    else
      if (!(Q_in v5.State (1 : Int) (7 : Int))) = true then
        Option.map .inr (some (4 : Int))
      else
        Q_NotesFault_j1 q3 n4 v5 ((!(Q_in v5.Tries (0 : Int) (20 : Int))) || (!(Q_Moment v5.Since)))
  else
    Option.map .inr (some (0 : Int))

noncomputable def Q_NotesFault_l1 (p0x0 : List Note) (q3 : Str) (n4 : Int) : Option Int :=
  iter (fun x : Str × Int => Q_NotesFault_b1 p0x0 x.1 x.2) (q3, n4)

noncomputable def Q_NotesFault (p0x0 : List Note) : Option Int :=
  if (1500 : Int) < (p0x0.length : Int) then
    some (2 : Int)
  else
    Q_NotesFault_l1 p0x0 ([] : Str) (0 : Int)

noncomputable def strings_Replace_j4 (p0x0 : Str) (q8 : Str) (n10 : Int) : Option Str :=
  (slc p0x0 n10 (p0x0.length : Int)).bind fun l43 =>
  (bldW q8 l43).bind fun q44 =>
  some q44

noncomputable def strings_Replace_b1 (p0x0 : Str) (p1x0 : Str) (p2x0 : Str) (n4 : Int) (q15 : Str) (n17 : Int) (n18 : Int) : Option ((Str × Int × Int) ⊕ Str) :=
  if n18 < n4 then
    (slc p0x0 n17 (p0x0.length : Int)).bind fun l19 =>
    (indexO l19 p1x0).bind fun v20 =>
    (slc p0x0 n17 (w64 (n17 + v20))).bind fun l21 =>
    (bldW q15 l21).bind fun q22 =>
    (bldW q22 p2x0).bind fun q24 =>
    some (.inl (q24, w64 ((w64 (n17 + v20)) + (p1x0.length : Int)), w64 (n18 + (1 : Int))))
  else
    Option.map .inr (strings_Replace_j4 p0x0 q15 n17)

noncomputable def strings_Replace_l1 (p0x0 : Str) (p1x0 : Str) (p2x0 : Str) (n4 : Int) (q15 : Str) (n17 : Int) (n18 : Int) : Option Str :=
  iter (fun x : Str × Int × Int => strings_Replace_b1 p0x0 p1x0 p2x0 n4 x.1 x.2.1 x.2.2) (q15, n17, n18)

noncomputable def strings_Replace_b2 (p0x0 : Str) (p2x0 : Str) (n4 : Int) (q32 : Str) (n34 : Int) (n35 : Int) : Option ((Str × Int × Int) ⊕ Str) :=
  if n35 < (w64 (n4 - (1 : Int))) then
    (slc p0x0 n34 (p0x0.length : Int)).bind fun l36 =>
    (noRune l36).bind fun v37 =>
    (slc p0x0 n34 (w64 (n34 + v37.2))).bind fun l38 =>
    (bldW q32 l38).bind fun q39 =>
    (bldW q39 p2x0).bind fun q41 =>
    some (.inl (q41, w64 (n34 + v37.2), w64 (n35 + (1 : Int))))
  else
    Option.map .inr (strings_Replace_j4 p0x0 q32 n34)

noncomputable def strings_Replace_l2 (p0x0 : Str) (p2x0 : Str) (n4 : Int) (q32 : Str) (n34 : Int) (n35 : Int) : Option Str :=
  iter (fun x : Str × Int × Int => strings_Replace_b2 p0x0 p2x0 n4 x.1 x.2.1 x.2.2) (q32, n34, n35)

noncomputable def strings_Replace_j3 (p0x0 : Str) (p1x0 : Str) (p2x0 : Str) (n4 : Int) : Option Str :=
  (bldG (w64 ((p0x0.length : Int) + (w64 (n4 * (w64 ((p2x0.length : Int) - (p1x0.length : Int)))))))).bind fun v6 =>
  if (0 : Int) < (p1x0.length : Int) then
    strings_Replace_l1 p0x0 p1x0 p2x0 n4 [] (0 : Int) (0 : Int)
  else
    (bldW ([] : Str) p2x0).bind fun q26 =>
    strings_Replace_l2 p0x0 p2x0 n4 q26 (0 : Int) (0 : Int)

noncomputable def strings_Replace_j2 (p0x0 : Str) (p1x0 : Str) (p2x0 : Str) (p3x0 : Int) (v2 : Int) (c3 : Bool) : Option Str :=
  if c3 = true then
    strings_Replace_j3 p0x0 p1x0 p2x0 v2
  else
    strings_Replace_j3 p0x0 p1x0 p2x0 p3x0

noncomputable def strings_Replace_j1 (p0x0 : Str) (p1x0 : Str) (p2x0 : Str) (p3x0 : Int) (c1 : Bool) : Option Str :=
  if c1 = true then
    some p0x0
  else
    (countO p0x0 p1x0).bind fun v2 =>
    if v2 = (0 : Int) then
      some p0x0
    else
      strings_Replace_j2 p0x0 p1x0 p2x0 p3x0 v2 ((decide (p3x0 < (0 : Int))) || (decide (v2 < p3x0)))

noncomputable def strings_Replace (p0x0 : Str) (p1x0 : Str) (p2x0 : Str) (p3x0 : Int) : Option Str :=
  strings_Replace_j1 p0x0 p1x0 p2x0 p3x0 ((decide (p1x0 = p2x0)) || (decide (p3x0 = (0 : Int))))

noncomputable def strings_ReplaceAll (p0x0 : Str) (p1x0 : Str) (p2x0 : Str) : Option Str :=
  (strings_Replace p0x0 p1x0 p2x0 (-1 : Int)).bind fun v1 =>
  some v1

noncomputable def Q_Quoted (p0x0 : Str) : Option Str :=
  (strings_ReplaceAll p0x0 ([92] : Str) ([92, 92] : Str)).bind fun v1 =>
  (strings_ReplaceAll v1 ([34] : Str) ([92, 34] : Str)).bind fun v2 =>
  (catO ([34] : Str) v2).bind fun q3 =>
  (catO q3 ([34] : Str)).bind fun q4 =>
  some q4

noncomputable def strings_Join_b2 (p1x0 : Str) (l15 : List Str) (q19 : Str) (n21 : Int) : Option ((Str × Int) ⊕ Str) :=
  if n21 < (l15.length : Int) then
    (idx l15 n21).bind fun v22 =>
    (bldW q19 p1x0).bind fun q23 =>
    (bldW q23 v22).bind fun q25 =>
    some (.inl (q25, w64 (n21 + (1 : Int))))
  else
    Option.map .inr (some q19)

noncomputable def strings_Join_l2 (p1x0 : Str) (l15 : List Str) (q19 : Str) (n21 : Int) : Option Str :=
  iter (fun x : Str × Int => strings_Join_b2 p1x0 l15 x.1 x.2) (q19, n21)

noncomputable def strings_Join_k2 (p0x0 : List Str) (p1x0 : Str) (n6 : Int) : Option Str :=
  (bldG n6).bind fun v10 =>
  (idx p0x0 (0 : Int)).bind fun v12 =>
  (bldW ([] : Str) v12).bind fun q13 =>
  (slc p0x0 (1 : Int) (p0x0.length : Int)).bind fun l15 =>
  strings_Join_l2 p1x0 l15 q13 (0 : Int)

noncomputable def strings_Join_b1 (p0x0 : List Str) (p1x0 : Str) (n6 : Int) (n7 : Int) : Option ((Int × Int) ⊕ Str) :=
  if n7 < (p0x0.length : Int) then
    (idx p0x0 n7).bind fun v8 =>
    if (w64 ((9223372036854775807 : Int) - n6)) < (v8.length : Int) then
      none
    else
      some (.inl (w64 (n6 + (v8.length : Int)), w64 (n7 + (1 : Int))))
  else
    Option.map .inr (strings_Join_k2 p0x0 p1x0 n6)

noncomputable def strings_Join_l1 (p0x0 : List Str) (p1x0 : Str) (n6 : Int) (n7 : Int) : Option Str :=
  iter (fun x : Int × Int => strings_Join_b1 p0x0 p1x0 x.1 x.2) (n6, n7)

noncomputable def strings_Join_j1 (p0x0 : List Str) (p1x0 : Str) (n2 : Int) : Option Str :=
  strings_Join_l1 p0x0 p1x0 n2 (0 : Int)

noncomputable def strings_Join (p0x0 : List Str) (p1x0 : Str) : Option Str :=
  if (p0x0.length : Int) = (0 : Int) then
    some ([] : Str)
  else
    if (p0x0.length : Int) = (1 : Int) then
      (idx p0x0 (0 : Int)).bind fun v1 =>
      some v1
    else
      if (0 : Int) < (p1x0.length : Int) then
        (quo (9223372036854775807 : Int) (w64 ((p0x0.length : Int) - (1 : Int)))).bind fun n3 =>
        if n3 ≤ (p1x0.length : Int) then
          none
        else
          strings_Join_j1 p0x0 p1x0 (w64 ((0 : Int) + (w64 ((p1x0.length : Int) * (w64 ((p0x0.length : Int) - (1 : Int)))))))
      else
        strings_Join_j1 p0x0 p1x0 (0 : Int)

noncomputable def Q_NoteLines_k2 (q3 : Str) (n4 : Int) (v5 : Note) (l13 : List Str) : Option ((Str × Int) ⊕ Str) :=
  (Q_Quoted v5.Letter.Body).bind fun v19 =>
  (app l13 [v19]).bind fun l20 =>
  (strings_Join l20 ([32] : Str)).bind fun v22 =>
  (catO v22 ([10] : Str)).bind fun q23 =>
  (catO q3 q23).bind fun q24 =>
  some (.inl (q24, w64 (n4 + (1 : Int))))

noncomputable def Q_NoteLines_b2 (q3 : Str) (n4 : Int) (v5 : Note) (l13 : List Str) (n14 : Int) : Option (((List Str) × Int) ⊕ ((Str × Int) ⊕ Str)) :=
  if n14 < ([v5.Letter.Prio, v5.Letter.At, v5.Letter.Until, v5.State, v5.Tries, v5.Since].length : Int) then
    (idx [v5.Letter.Prio, v5.Letter.At, v5.Letter.Until, v5.State, v5.Tries, v5.Since] n14).bind fun v15 =>
    (itoaO v15).bind fun v16 =>
    (app l13 [v16]).bind fun l17 =>
    some (.inl (l17, w64 (n14 + (1 : Int))))
  else
    Option.map .inr (Q_NoteLines_k2 q3 n4 v5 l13)

noncomputable def Q_NoteLines_l2 (q3 : Str) (n4 : Int) (v5 : Note) (l13 : List Str) (n14 : Int) : Option ((Str × Int) ⊕ Str) :=
  iter (fun x : (List Str) × Int => Q_NoteLines_b2 q3 n4 v5 x.1 x.2) (l13, n14)

noncomputable def Q_NoteLines_j1 (q3 : Str) (n4 : Int) (v5 : Note) (q7 : Str) : Option ((Str × Int) ⊕ Str) :=
  Q_NoteLines_l2 q3 n4 v5 [v5.Letter.Id, q7] (0 : Int)

noncomputable def Q_NoteLines_b1 (p0x0 : List Note) (q3 : Str) (n4 : Int) : Option ((Str × Int) ⊕ Str) :=
  if n4 < (p0x0.length : Int) then
    (idx p0x0 n4).bind fun v5 =>
    if v5.Letter.Slot = ([] : Str) then
      Q_NoteLines_j1 q3 n4 v5 ([45] : Str)
    else
      Q_NoteLines_j1 q3 n4 v5 v5.Letter.Slot
  else
    Option.map .inr (some q3)

noncomputable def Q_NoteLines_l1 (p0x0 : List Note) (q3 : Str) (n4 : Int) : Option Str :=
  iter (fun x : Str × Int => Q_NoteLines_b1 p0x0 x.1 x.2) (q3, n4)

noncomputable def Q_NoteLines (p0x0 : List Note) : Option Str :=
  Q_NoteLines_l1 p0x0 ([] : Str) (0 : Int)

noncomputable def Stream_Changed_j1 (p0x0 : Fleetmake_Stream) (p1x0 : Str) (p2x0 : Str) (c1 : Bool) : Option (Str × Fleetmake_Stream) :=
  if c1 = true then
    some (p2x0, p0x0)
  else
    (Stream_Next p0x0 (p1x0.length : Int)).bind fun v2 =>
    (Stream_Next v2.2 (p2x0.length : Int)).bind fun v3 =>
    (idx p2x0 v3.1).bind fun c4 =>
    (Stream_Next v3.2 (3 : Int)).bind fun v5 =>
    if v5.1 = (0 : Int) then
      (slc p1x0 (0 : Int) v2.1).bind fun l6 =>
      (catO l6 (strR (IntKind.i32.wrap ((c4.toNat : Int))))).bind fun q7 =>
      (slc p1x0 (w64 (v2.1 + (1 : Int))) (p1x0.length : Int)).bind fun l8 =>
      (catO q7 l8).bind fun q9 =>
      some (q9, v5.2)
    else
      if v5.1 = (1 : Int) then
        (slc p1x0 (0 : Int) v2.1).bind fun l10 =>
        (catO l10 (strR (IntKind.i32.wrap ((c4.toNat : Int))))).bind fun q11 =>
        (slc p1x0 v2.1 (p1x0.length : Int)).bind fun l12 =>
        (catO q11 l12).bind fun q13 =>
        some (q13, v5.2)
      else
        (slc p1x0 (0 : Int) v2.1).bind fun l14 =>
        (slc p1x0 (w64 (v2.1 + (1 : Int))) (p1x0.length : Int)).bind fun l15 =>
        (catO l14 l15).bind fun q16 =>
        some (q16, v5.2)

noncomputable def Stream_Changed (p0x0 : Fleetmake_Stream) (p1x0 : Str) (p2x0 : Str) : Option (Str × Fleetmake_Stream) :=
  Stream_Changed_j1 p0x0 p1x0 p2x0 ((decide (p1x0 = ([] : Str))) || (decide (p2x0 = ([] : Str))))

noncomputable def Stream_NoteText_b1 (v6 : Int × Fleetmake_Stream) (l11 : List Int) (n12 : Int) (q13 : Str) (n14 : Int) : Option (((List Int) × Int × Str × Int) ⊕ (Str × Fleetmake_Stream)) :=
  if n14 < v6.1 then
    (Stream_Changed (⟨l11, n12⟩ : Fleetmake_Stream) q13 ([32, 10, 34, 92, 48, 45, 57, 108] : Str)).bind fun v15 =>
    some (.inl (v15.2.L, v15.2.at_, v15.1, w64 (n14 + (1 : Int))))
  else
    Option.map .inr (some (q13, (⟨l11, n12⟩ : Fleetmake_Stream)))

noncomputable def Stream_NoteText_l1 (v6 : Int × Fleetmake_Stream) (l11 : List Int) (n12 : Int) (q13 : Str) (n14 : Int) : Option (Str × Fleetmake_Stream) :=
  iter (fun x : (List Int) × Int × Str × Int => Stream_NoteText_b1 v6 x.1 x.2.1 x.2.2.1 x.2.2.2) (l11, n12, q13, n14)

noncomputable def Stream_NoteText_j1 (v1 : (List Note) × Fleetmake_Stream) (q4 : Str) : Option (Str × Fleetmake_Stream) :=
  (Stream_Pick v1.2 [(0 : Int), (0 : Int), (1 : Int), (2 : Int)]).bind fun v6 =>
  Stream_NoteText_l1 v6 v6.2.L v6.2.at_ q4 (0 : Int)

noncomputable def Stream_NoteText (p0x0 : Fleetmake_Stream) : Option (Str × Fleetmake_Stream) :=
  (Stream_Notes p0x0).bind fun v1 =>
  (Q_NotesFault v1.1).bind fun v3 =>
  if v3 = (0 : Int) then
    (Q_NoteLines v1.1).bind fun v5 =>
    Stream_NoteText_j1 v1 v5
  else
    Stream_NoteText_j1 v1 ([] : Str)

noncomputable def base_Key_j2 (n5 : Int) (c7 : Bool) : Option (Int ⊕ Bool) :=
  if c7 = true then
    Option.map .inr (some false)
  else
    some (.inl (w64 (n5 + (1 : Int))))

noncomputable def base_Key_b1 (p0x0 : Str) (n5 : Int) : Option (Int ⊕ Bool) :=
  if n5 < (p0x0.length : Int) then
    (idx p0x0 n5).bind fun c6 =>
    base_Key_j2 n5 (if (97 : Int) ≤ (c6.toNat : Int) then if (c6.toNat : Int) ≤ (122 : Int) then !true else if (48 : Int) ≤ (c6.toNat : Int) then if (c6.toNat : Int) ≤ (57 : Int) then !true else if (c6.toNat : Int) = (45 : Int) then !true else decide (¬ ((c6.toNat : Int) = (95 : Int))) else if (c6.toNat : Int) = (45 : Int) then !true else decide (¬ ((c6.toNat : Int) = (95 : Int))) else if (48 : Int) ≤ (c6.toNat : Int) then if (c6.toNat : Int) ≤ (57 : Int) then !true else if (c6.toNat : Int) = (45 : Int) then !true else decide (¬ ((c6.toNat : Int) = (95 : Int))) else if (c6.toNat : Int) = (45 : Int) then !true else decide (¬ ((c6.toNat : Int) = (95 : Int))))
  else
    Option.map .inr (some true)

noncomputable def base_Key_l1 (p0x0 : Str) (n5 : Int) : Option Bool :=
  iter (fun x : Int => base_Key_b1 p0x0 x) n5

noncomputable def base_Key_j1 (p0x0 : Str) (c1 : Bool) : Option Bool :=
  if c1 = true then
    some false
  else
    base_Key_l1 p0x0 (0 : Int)

noncomputable def base_Key (p0x0 : Str) : Option Bool :=
  if p0x0 = ([] : Str) then
    base_Key_j1 p0x0 true
  else
    if (40 : Int) < (p0x0.length : Int) then
      base_Key_j1 p0x0 true
    else
      (idx p0x0 (0 : Int)).bind fun c2 =>
      if (c2.toNat : Int) < (97 : Int) then
        base_Key_j1 p0x0 true
      else
        (idx p0x0 (0 : Int)).bind fun c3 =>
        base_Key_j1 p0x0 (decide ((122 : Int) < (c3.toNat : Int)))

noncomputable def base_Unmarked_j1 (n2 : Int) (c3 : Bool) : Option (Int ⊕ Bool) :=
  if c3 = true then
    Option.map .inr (some false)
  else
    some (.inl (w64 (n2 + (1 : Int))))

noncomputable def base_Unmarked_k2 (p0x0 : Str) : Option Bool :=
  (validO p0x0).bind fun v6 =>
  some v6

noncomputable def base_Unmarked_b1 (p0x0 : Str) (n2 : Int) : Option (Int ⊕ Bool) :=
  if n2 < (p0x0.length : Int) then
    (idx p0x0 n2).bind fun c4 =>
    if (c4.toNat : Int) < (32 : Int) then
      base_Unmarked_j1 n2 true
    else
      (idx p0x0 n2).bind fun c5 =>
      base_Unmarked_j1 n2 (decide ((c5.toNat : Int) = (127 : Int)))
  else
    Option.map .inr (base_Unmarked_k2 p0x0)

noncomputable def base_Unmarked_l1 (p0x0 : Str) (n2 : Int) : Option Bool :=
  iter (fun x : Int => base_Unmarked_b1 p0x0 x) n2

noncomputable def base_Unmarked (p0x0 : Str) : Option Bool :=
  base_Unmarked_l1 p0x0 (0 : Int)

noncomputable def base_Out_j1 (c1 : Bool) : Bool :=
  c1

noncomputable def base_Out (p0x0 : Int) (p1x0 : Int) (p2x0 : Int) : Bool :=
  base_Out_j1 ((decide (p0x0 < p1x0)) || (decide (p2x0 < p0x0)))

noncomputable def base_Moment (p0x0 : Int) : Bool :=
  !(base_Out p0x0 (0 : Int) (345686399999 : Int))

noncomputable def command_CheckLetter_j2 (c6 : Bool) : Option Int :=
  if c6 = true then
    some (1 : Int)
  else
    some (0 : Int)

noncomputable def command_CheckLetter_j1 (p0x0 : Letter) (c2 : Bool) : Option Int :=
  if c2 = true then
    some (5 : Int)
  else
    if (1000 : Int) < (p0x0.Body.length : Int) then
      some (2 : Int)
    else
      (base_Unmarked p0x0.Body).bind fun v5 =>
      if (!v5) = true then
        some (3 : Int)
      else
        command_CheckLetter_j2 ((base_Out p0x0.Prio (0 : Int) (9 : Int)) || ((!(base_Moment p0x0.At)) || ((decide (p0x0.Until ≤ p0x0.At)) || (decide ((345686400000 : Int) < p0x0.Until)))))

noncomputable def command_CheckLetter (p0x0 : Letter) : Option Int :=
  (base_Key p0x0.Id).bind fun v3 =>
  if (!v3) = true then
    command_CheckLetter_j1 p0x0 true
  else
    if p0x0.Slot ≠ ([] : Str) then
      (base_Key p0x0.Slot).bind fun v4 =>
      command_CheckLetter_j1 p0x0 (!v4)
    else
      command_CheckLetter_j1 p0x0 false

noncomputable def command_CheckNotes_j2 (n2 : Int) (c7 : Bool) : Option (Int ⊕ Int) :=
  if c7 = true then
    Option.map .inr (some (7 : Int))
  else
    some (.inl (w64 (n2 + (1 : Int))))

noncomputable def command_CheckNotes_j1 (p0x0 : List Note) (n2 : Int) (v3 : Note) (c6 : Bool) : Option (Int ⊕ Int) :=
  if c6 = true then
    Option.map .inr (some (1 : Int))
  else
    if (0 : Int) < n2 then
      (idx p0x0 (w64 (n2 - (1 : Int)))).bind fun v8 =>
      command_CheckNotes_j2 n2 (Op.bytesLess v3.Letter.Id v8.Letter.Id || v3.Letter.Id == v8.Letter.Id)
    else
      command_CheckNotes_j2 n2 false

noncomputable def command_CheckNotes_b1 (p0x0 : List Note) (n2 : Int) : Option (Int ⊕ Int) :=
  if n2 < (p0x0.length : Int) then
    (idx p0x0 n2).bind fun v3 =>
    (command_CheckLetter v3.Letter).bind fun v5 =>
    if v5 ≠ (0 : Int) then
      Option.map .inr (some v5)
    else
      if (base_Out v3.State (1 : Int) (7 : Int)) = true then
        Option.map .inr (some (4 : Int))
      else
        command_CheckNotes_j1 p0x0 n2 v3 ((base_Out v3.Tries (0 : Int) (20 : Int)) || (!(base_Moment v3.Since)))
  else
    Option.map .inr (some (0 : Int))

noncomputable def command_CheckNotes_l1 (p0x0 : List Note) (n2 : Int) : Option Int :=
  iter (fun x : Int => command_CheckNotes_b1 p0x0 x) n2

noncomputable def command_CheckNotes (p0x0 : List Note) : Option Int :=
  if (1500 : Int) < (p0x0.length : Int) then
    some (2 : Int)
  else
    command_CheckNotes_l1 p0x0 (0 : Int)

noncomputable def cmp_Or_string_b1 (p0x0 : List Str) (n2 : Int) : Option (Int ⊕ Str) :=
  if n2 < (p0x0.length : Int) then
    (idx p0x0 n2).bind fun v3 =>
    if v3 ≠ ([] : Str) then
      Option.map .inr (some v3)
    else
      some (.inl (w64 (n2 + (1 : Int))))
  else
    Option.map .inr (some ([] : Str))

noncomputable def cmp_Or_string_l1 (p0x0 : List Str) (n2 : Int) : Option Str :=
  iter (fun x : Int => cmp_Or_string_b1 p0x0 x) n2

noncomputable def cmp_Or_string (p0x0 : List Str) : Option Str :=
  cmp_Or_string_l1 p0x0 (0 : Int)

noncomputable def base_Quote (p0x0 : Str) : Option Str :=
  (strings_ReplaceAll p0x0 ([92] : Str) ([92, 92] : Str)).bind fun v1 =>
  (strings_ReplaceAll v1 ([34] : Str) ([92, 34] : Str)).bind fun v2 =>
  (catO ([34] : Str) v2).bind fun q3 =>
  (catO q3 ([34] : Str)).bind fun q4 =>
  some q4

noncomputable def command_Text_k1 (n8 : Int) (v9 : Note) (q19 : Str) : Option ((Str × Int) ⊕ (Str × Int)) :=
  (base_Quote v9.Letter.Body).bind fun v27 =>
  (catO ([32] : Str) v27).bind fun q28 =>
  (catO q28 ([10] : Str)).bind fun q29 =>
  (bldW q19 q29).bind fun q30 =>
  some (.inl (q30, w64 (n8 + (1 : Int))))

noncomputable def command_Text_b2 (n8 : Int) (v9 : Note) (q19 : Str) (n21 : Int) : Option ((Str × Int) ⊕ ((Str × Int) ⊕ (Str × Int))) :=
  if n21 < ([v9.Letter.Prio, v9.Letter.At, v9.Letter.Until, v9.State, v9.Tries, v9.Since].length : Int) then
    (idx [v9.Letter.Prio, v9.Letter.At, v9.Letter.Until, v9.State, v9.Tries, v9.Since] n21).bind fun v22 =>
    (itoaO v22).bind fun v23 =>
    (catO ([32] : Str) v23).bind fun q24 =>
    (bldW q19 q24).bind fun q25 =>
    some (.inl (q25, w64 (n21 + (1 : Int))))
  else
    Option.map .inr (command_Text_k1 n8 v9 q19)

noncomputable def command_Text_l2 (n8 : Int) (v9 : Note) (q19 : Str) (n21 : Int) : Option ((Str × Int) ⊕ (Str × Int)) :=
  iter (fun x : Str × Int => command_Text_b2 n8 v9 x.1 x.2) (q19, n21)

noncomputable def command_Text_k2 (q6 : Str) : Option (Str × Int) :=
  if (200000 : Int) < (q6.length : Int) then
    some (([] : Str), (2 : Int))
  else
    some (q6, (0 : Int))

noncomputable def command_Text_b1 (p0x0 : List Note) (q6 : Str) (n8 : Int) : Option ((Str × Int) ⊕ (Str × Int)) :=
  if n8 < (p0x0.length : Int) then
    (idx p0x0 n8).bind fun v9 =>
    (catO v9.Letter.Id ([32] : Str)).bind fun q11 =>
    (cmp_Or_string [v9.Letter.Slot, ([45] : Str)]).bind fun v12 =>
    (catO q11 v12).bind fun q13 =>
    (bldW q6 q13).bind fun q14 =>
    command_Text_l2 n8 v9 q14 (0 : Int)
  else
    Option.map .inr (command_Text_k2 q6)

noncomputable def command_Text_l1 (p0x0 : List Note) (q6 : Str) (n8 : Int) : Option (Str × Int) :=
  iter (fun x : Str × Int => command_Text_b1 p0x0 x.1 x.2) (q6, n8)

noncomputable def command_Text (p0x0 : List Note) : Option (Str × Int) :=
  (command_CheckNotes p0x0).bind fun v1 =>
  if v1 ≠ (0 : Int) then
    some (([] : Str), v1)
  else
    command_Text_l1 p0x0 [] (0 : Int)

noncomputable def strings_genSplit_j2 (q8 : Str) (l9 : List Str) (n10 : Int) : Option (List Str) :=
  (idx l9 n10).bind fun v21 =>
  (slc (l9.set n10.toNat q8) (0 : Int) (w64 (n10 + (1 : Int)))).bind fun l22 =>
  some l22

noncomputable def strings_genSplit_b1 (p0x0 : Str) (p1x0 : Str) (p2x0 : Int) (n4 : Int) (q14 : Str) (l15 : List Str) (n16 : Int) : Option ((Str × (List Str) × Int) ⊕ (List Str)) :=
  if n16 < (w64 ((min n4 (w64 ((p0x0.length : Int) + (1 : Int)))) - (1 : Int))) then
    (indexO q14 p1x0).bind fun v17 =>
    if v17 < (0 : Int) then
      Option.map .inr (strings_genSplit_j2 q14 l15 n16)
    else
      (slc q14 (0 : Int) (w64 (v17 + p2x0))).bind fun l18 =>
      (idx l15 n16).bind fun v19 =>
      (slc q14 (w64 (v17 + (p1x0.length : Int))) (q14.length : Int)).bind fun l20 =>
      some (.inl (l20, l15.set n16.toNat l18, w64 (n16 + (1 : Int))))
  else
    Option.map .inr (strings_genSplit_j2 q14 l15 n16)

noncomputable def strings_genSplit_l1 (p0x0 : Str) (p1x0 : Str) (p2x0 : Int) (n4 : Int) (q14 : Str) (l15 : List Str) (n16 : Int) : Option (List Str) :=
  iter (fun x : Str × (List Str) × Int => strings_genSplit_b1 p0x0 p1x0 p2x0 n4 x.1 x.2.1 x.2.2) (q14, l15, n16)

noncomputable def strings_genSplit_j1 (p0x0 : Str) (p1x0 : Str) (p2x0 : Int) (n4 : Int) : Option (List Str) :=
  (mkS [] (min n4 (w64 ((p0x0.length : Int) + (1 : Int)))) (min n4 (w64 ((p0x0.length : Int) + (1 : Int))))).bind fun l6 =>
  strings_genSplit_l1 p0x0 p1x0 p2x0 n4 p0x0 l6 (0 : Int)

noncomputable def strings_genSplit (p0x0 : Str) (p1x0 : Str) (p2x0 : Int) (p3x0 : Int) : Option (List Str) :=
  if p3x0 = (0 : Int) then
    some []
  else
    if p1x0 = ([] : Str) then
      (noExpl p0x0 p3x0).bind fun v2 =>
      some v2
    else
      if p3x0 < (0 : Int) then
        (countO p0x0 p1x0).bind fun v5 =>
        strings_genSplit_j1 p0x0 p1x0 p2x0 (w64 (v5 + (1 : Int)))
      else
        strings_genSplit_j1 p0x0 p1x0 p2x0 p3x0

noncomputable def strings_SplitN (p0x0 : Str) (p1x0 : Str) (p2x0 : Int) : Option (List Str) :=
  (strings_genSplit p0x0 p1x0 (0 : Int) p2x0).bind fun v1 =>
  some v1

noncomputable def base_Number_j2 (n4 : Int) (c5 : Bool) : Option (Int ⊕ (Int × Bool)) :=
  if c5 = true then
    Option.map .inr (some ((0 : Int), false))
  else
    some (.inl (w64 (n4 + (1 : Int))))

noncomputable def base_Number_k3 (p0x0 : Str) : Option (Int × Bool) :=
  (atoiO p0x0).bind fun v8 =>
  some (v8.1, v8.2)

noncomputable def base_Number_b1 (p0x0 : Str) (n4 : Int) : Option (Int ⊕ (Int × Bool)) :=
  if n4 < ((Lib.trimPrefix p0x0 ([45] : Str)).length : Int) then
    (idx (Lib.trimPrefix p0x0 ([45] : Str)) n4).bind fun c6 =>
    if (c6.toNat : Int) < (48 : Int) then
      base_Number_j2 n4 true
    else
      (idx (Lib.trimPrefix p0x0 ([45] : Str)) n4).bind fun c7 =>
      base_Number_j2 n4 (decide ((57 : Int) < (c7.toNat : Int)))
  else
    Option.map .inr (base_Number_k3 p0x0)

noncomputable def base_Number_l1 (p0x0 : Str) (n4 : Int) : Option (Int × Bool) :=
  iter (fun x : Int => base_Number_b1 p0x0 x) n4

noncomputable def base_Number_j1 (p0x0 : Str) (c1 : Bool) : Option (Int × Bool) :=
  if c1 = true then
    some ((0 : Int), false)
  else
    base_Number_l1 p0x0 (0 : Int)

noncomputable def base_Number (p0x0 : Str) (p1x0 : Int) : Option (Int × Bool) :=
  if (Lib.trimPrefix p0x0 ([45] : Str)) = ([] : Str) then
    base_Number_j1 p0x0 true
  else
    if p1x0 < ((Lib.trimPrefix p0x0 ([45] : Str)).length : Int) then
      base_Number_j1 p0x0 true
    else
      (idx (Lib.trimPrefix p0x0 ([45] : Str)) (0 : Int)).bind fun c2 =>
      base_Number_j1 p0x0 ((decide ((c2.toNat : Int) = (48 : Int))) && ((decide ((1 : Int) < ((Lib.trimPrefix p0x0 ([45] : Str)).length : Int))) || (decide (((Lib.trimPrefix p0x0 ([45] : Str)).length : Int) < (p0x0.length : Int)))))

noncomputable def base_Numbers_b1 (p0x0 : List Str) (p1x0 : Int) (l5 : List Int) (n6 : Int) : Option (((List Int) × Int) ⊕ ((List Int) × Bool)) :=
  if n6 < (p0x0.length : Int) then
    (idx p0x0 n6).bind fun v8 =>
    (base_Number v8 p1x0).bind fun v9 =>
    if (!v9.2) = true then
      Option.map .inr (some ([], false))
    else
      (app l5 [v9.1]).bind fun l11 =>
      some (.inl (l11, w64 (n6 + (1 : Int))))
  else
    Option.map .inr (some (l5, true))

noncomputable def base_Numbers_l1 (p0x0 : List Str) (p1x0 : Int) (l5 : List Int) (n6 : Int) : Option ((List Int) × Bool) :=
  iter (fun x : (List Int) × Int => base_Numbers_b1 p0x0 p1x0 x.1 x.2) (l5, n6)

noncomputable def base_Numbers (p0x0 : List Str) (p1x0 : Int) : Option ((List Int) × Bool) :=
  base_Numbers_l1 p0x0 p1x0 [] (0 : Int)

noncomputable def base_Unquote_j2 (l4 : Str) (l9 : List Int) (n13 : Int) : Option (((List Int) × Int) ⊕ (Str × Bool)) :=
  (idx l4 n13).bind fun c17 =>
  (app l9 [(c17.toNat : Int)]).bind fun l18 =>
  some (.inl (l18, w64 (n13 + (1 : Int))))

noncomputable def base_Unquote_j3 (l4 : Str) (l9 : List Int) (n10 : Int) (c14 : Bool) : Option (((List Int) × Int) ⊕ (Str × Bool)) :=
  if c14 = true then
    Option.map .inr (some (([] : Str), false))
  else
    base_Unquote_j2 l4 l9 (w64 (n10 + (1 : Int)))

noncomputable def base_Unquote_b1 (l4 : Str) (l9 : List Int) (n10 : Int) : Option (((List Int) × Int) ⊕ (Str × Bool)) :=
  if n10 < (l4.length : Int) then
    (idx l4 n10).bind fun c12 =>
    if (c12.toNat : Int) = (34 : Int) then
      Option.map .inr (some (([] : Str), false))
    else
      if (c12.toNat : Int) = (92 : Int) then
        if (w64 (n10 + (1 : Int))) = (l4.length : Int) then
          base_Unquote_j3 l4 l9 n10 true
        else
          (idx l4 (w64 (n10 + (1 : Int)))).bind fun c15 =>
          if (c15.toNat : Int) ≠ (34 : Int) then
            (idx l4 (w64 (n10 + (1 : Int)))).bind fun c16 =>
            base_Unquote_j3 l4 l9 n10 (decide ((c16.toNat : Int) ≠ (92 : Int)))
          else
            base_Unquote_j3 l4 l9 n10 false
      else
        base_Unquote_j2 l4 l9 n10
  else
    Option.map .inr (some (strB l9, true))

noncomputable def base_Unquote_l1 (l4 : Str) (l9 : List Int) (n10 : Int) : Option (Str × Bool) :=
  iter (fun x : (List Int) × Int => base_Unquote_b1 l4 x.1 x.2) (l9, n10)

noncomputable def base_Unquote_j1 (p0x0 : Str) (c1 : Bool) : Option (Str × Bool) :=
  if c1 = true then
    some (([] : Str), false)
  else
    (slc p0x0 (1 : Int) (w64 ((p0x0.length : Int) - (1 : Int)))).bind fun l4 =>
    base_Unquote_l1 l4 [] (0 : Int)

noncomputable def base_Unquote (p0x0 : Str) : Option (Str × Bool) :=
  if (p0x0.length : Int) < (2 : Int) then
    base_Unquote_j1 p0x0 true
  else
    (idx p0x0 (0 : Int)).bind fun c2 =>
    if (c2.toNat : Int) ≠ (34 : Int) then
      base_Unquote_j1 p0x0 true
    else
      (idx p0x0 (w64 ((p0x0.length : Int) - (1 : Int)))).bind fun c3 =>
      base_Unquote_j1 p0x0 (decide ((c3.toNat : Int) ≠ (34 : Int)))

noncomputable def command_readNote_j3 (v8 : (List Int) × Bool) (v11 : Str × Bool) (v13 : Str) (v15 : Int) (v16 : Int) (v17 : Int) (q19 : Str) : Option (Note × Bool) :=
  (idx v8.1 (3 : Int)).bind fun v20 =>
  (idx v8.1 (4 : Int)).bind fun v21 =>
  (idx v8.1 (5 : Int)).bind fun v22 =>
  some ((⟨(⟨v13, q19, v11.1, v15, v16, v17⟩ : Letter), v20, v21, v22⟩ : Note), true)

noncomputable def command_readNote_j2 (v2 : (List Str)) (v8 : (List Int) × Bool) (v11 : Str × Bool) (c12 : Bool) : Option (Note × Bool) :=
  if c12 = true then
    some ((⟨(⟨[], [], [], (0 : Int), (0 : Int), (0 : Int)⟩ : Letter), (0 : Int), (0 : Int), (0 : Int)⟩ : Note), false)
  else
    (idx v2 (0 : Int)).bind fun v13 =>
    (idx v2 (1 : Int)).bind fun v14 =>
    (idx v8.1 (0 : Int)).bind fun v15 =>
    (idx v8.1 (1 : Int)).bind fun v16 =>
    (idx v8.1 (2 : Int)).bind fun v17 =>
    if v14 = ([45] : Str) then
      command_readNote_j3 v8 v11 v13 v15 v16 v17 ([] : Str)
    else
      command_readNote_j3 v8 v11 v13 v15 v16 v17 v14

noncomputable def command_readNote_j1 (v2 : (List Str)) (c4 : Bool) : Option (Note × Bool) :=
  if c4 = true then
    some ((⟨(⟨[], [], [], (0 : Int), (0 : Int), (0 : Int)⟩ : Letter), (0 : Int), (0 : Int), (0 : Int)⟩ : Note), false)
  else
    (slc v2 (2 : Int) (8 : Int)).bind fun l7 =>
    (base_Numbers l7 (15 : Int)).bind fun v8 =>
    (idx v2 (8 : Int)).bind fun v10 =>
    (base_Unquote v10).bind fun v11 =>
    command_readNote_j2 v2 v8 v11 ((!v8.2) || (!v11.2))

noncomputable def command_readNote (p0x0 : Str) : Option (Note × Bool) :=
  (strings_SplitN p0x0 ([32] : Str) (9 : Int)).bind fun v2 =>
  if (v2.length : Int) ≠ (9 : Int) then
    command_readNote_j1 v2 true
  else
    (idx v2 (0 : Int)).bind fun v5 =>
    if v5 = ([] : Str) then
      command_readNote_j1 v2 true
    else
      (idx v2 (1 : Int)).bind fun v6 =>
      command_readNote_j1 v2 (decide (v6 = ([] : Str)))

noncomputable def command_Read_1x (p0x0 : Str) (p1x0 : List Note) : Option (Bool × (List Note)) :=
  (command_readNote p0x0).bind fun v1 =>
  (app p1x0 [v1.1]).bind fun l3 =>
  some (v1.2, l3)

noncomputable def internal_stringslite_HasSuffix_j1 (c1 : Bool) : Option Bool :=
  some c1

noncomputable def internal_stringslite_HasSuffix (p0x0 : Str) (p1x0 : Str) : Option Bool :=
  if (p1x0.length : Int) ≤ (p0x0.length : Int) then
    (slc p0x0 (w64 ((p0x0.length : Int) - (p1x0.length : Int))) (p0x0.length : Int)).bind fun l2 =>
    internal_stringslite_HasSuffix_j1 (decide (l2 = p1x0))
  else
    internal_stringslite_HasSuffix_j1 false

noncomputable def internal_stringslite_CutSuffix (p0x0 : Str) (p1x0 : Str) : Option (Str × Bool) :=
  (internal_stringslite_HasSuffix p0x0 p1x0).bind fun v1 =>
  if (!v1) = true then
    some (p0x0, false)
  else
    (slc p0x0 (0 : Int) (w64 ((p0x0.length : Int) - (p1x0.length : Int)))).bind fun l2 =>
    some (l2, true)

noncomputable def strings_CutSuffix (p0x0 : Str) (p1x0 : Str) : Option (Str × Bool) :=
  (internal_stringslite_CutSuffix p0x0 p1x0).bind fun v1 =>
  some (v1.1, v1.2)

noncomputable def base_Lines (p0x0 : Str) : Option ((List Str) × Bool) :=
  if p0x0 = ([] : Str) then
    some ([], true)
  else
    (strings_CutSuffix p0x0 ([10] : Str)).bind fun v2 =>
    (splitO v2.1 ([10] : Str)).bind fun v3 =>
    some (v3, v2.2)

noncomputable def base_Each_f1x_command_Read_1x_j1 (n8 : Int) (l11 : List Note) (c12 : Bool) : Option (((List Note) × Int) ⊕ (Int × Bool × (List Note))) :=
  if c12 = true then
    Option.map .inr (some (n8, false, l11))
  else
    some (.inl (l11, w64 (n8 + (1 : Int))))

noncomputable def base_Each_f1x_command_Read_1x_b1 (v1 : (List Str) × Bool) (l7 : List Note) (n8 : Int) : Option (((List Note) × Int) ⊕ (Int × Bool × (List Note))) :=
  if n8 < (v1.1.length : Int) then
    (idx v1.1 n8).bind fun v9 =>
    if (!v1.2) = true then
      if n8 = (w64 ((v1.1.length : Int) - (1 : Int))) then
        base_Each_f1x_command_Read_1x_j1 n8 l7 true
      else
        (command_Read_1x v9 l7).bind fun v13 =>
        base_Each_f1x_command_Read_1x_j1 n8 v13.2 (!v13.1)
    else
      (command_Read_1x v9 l7).bind fun v15 =>
      base_Each_f1x_command_Read_1x_j1 n8 v15.2 (!v15.1)
  else
    Option.map .inr (some ((0 : Int), true, l7))

noncomputable def base_Each_f1x_command_Read_1x_l1 (v1 : (List Str) × Bool) (l7 : List Note) (n8 : Int) : Option (Int × Bool × (List Note)) :=
  iter (fun x : (List Note) × Int => base_Each_f1x_command_Read_1x_b1 v1 x.1 x.2) (l7, n8)

noncomputable def base_Each_f1x_command_Read_1x (p0x0 : Str) (p2x0 : List Note) : Option (Int × Bool × (List Note)) :=
  (base_Lines p0x0).bind fun v1 =>
  base_Each_f1x_command_Read_1x_l1 v1 p2x0 (0 : Int)

noncomputable def command_Read (p0x0 : Str) : Option ((List Note) × Int × Int) :=
  if (200000 : Int) < (p0x0.length : Int) then
    some ([], (0 : Int), (2 : Int))
  else
    (base_Each_f1x_command_Read_1x p0x0 []).bind fun v3 =>
    if (!v3.2.1) = true then
      some ([], v3.1, (9 : Int))
    else
      (command_CheckNotes v3.2.2).bind fun v7 =>
      if v7 ≠ (0 : Int) then
        some ([], (0 : Int), v7)
      else
        some (v3.2.2, (0 : Int), (0 : Int))

noncomputable def slices_Index_string_string_b1 (p0x0 : List Str) (p1x0 : Str) (n2 : Int) : Option (Int ⊕ Int) :=
  if n2 < (p0x0.length : Int) then
    (idx p0x0 n2).bind fun v3 =>
    if p1x0 = v3 then
      Option.map .inr (some n2)
    else
      some (.inl (w64 (n2 + (1 : Int))))
  else
    Option.map .inr (some (-1 : Int))

noncomputable def slices_Index_string_string_l1 (p0x0 : List Str) (p1x0 : Str) (n2 : Int) : Option Int :=
  iter (fun x : Int => slices_Index_string_string_b1 p0x0 p1x0 x) n2

noncomputable def slices_Index_string_string (p0x0 : List Str) (p1x0 : Str) : Option Int :=
  slices_Index_string_string_l1 p0x0 p1x0 (0 : Int)

noncomputable def slices_Contains_string_string (p0x0 : List Str) (p1x0 : Str) : Option Bool :=
  (slices_Index_string_string p0x0 p1x0).bind fun v1 =>
  some (decide ((0 : Int) ≤ v1))

noncomputable def Q_Number_j2 (v3 : Int × Bool) (c5 : Bool) : Option (Int × Bool) :=
  some (v3.1, c5)

noncomputable def Q_Number_j1 (p0x0 : Str) (c1 : Bool) : Option (Int × Bool) :=
  if c1 = true then
    some ((0 : Int), false)
  else
    (atoiO p0x0).bind fun v3 =>
    if v3.2 = true then
      (itoaO v3.1).bind fun v6 =>
      Q_Number_j2 v3 (decide (v6 = p0x0))
    else
      Q_Number_j2 v3 false

noncomputable def Q_Number (p0x0 : Str) (p1x0 : Int) : Option (Int × Bool) :=
  if (Lib.trimPrefix p0x0 ([45] : Str)) = ([] : Str) then
    Q_Number_j1 p0x0 true
  else
    if p1x0 < ((Lib.trimPrefix p0x0 ([45] : Str)).length : Int) then
      Q_Number_j1 p0x0 true
    else
      (Q_only (Lib.trimPrefix p0x0 ([45] : Str)) ([48, 49, 50, 51, 52, 53, 54, 55, 56, 57] : Str)).bind fun v2 =>
      Q_Number_j1 p0x0 (!v2)

noncomputable def Q_Unquoted_j1 (p0x0 : Str) (l5 : List Int) (n9 : Int) : Option (((List Int) × Int) ⊕ (Str × Bool)) :=
  (idx p0x0 n9).bind fun c10 =>
  (app l5 [(c10.toNat : Int)]).bind fun l11 =>
  some (.inl (l11, w64 (n9 + (1 : Int))))

noncomputable def Q_Unquoted_j2 (l5 : List Int) (c13 : Bool) : Option (Str × Bool) :=
  some (strB l5, c13)

noncomputable def Q_Unquoted_k3 (p0x0 : Str) (l5 : List Int) : Option (Str × Bool) :=
  if (2 : Int) ≤ (p0x0.length : Int) then
    (Q_Quoted (strB l5)).bind fun v14 =>
    Q_Unquoted_j2 l5 (decide (v14 = p0x0))
  else
    Q_Unquoted_j2 l5 false

noncomputable def Q_Unquoted_b1 (p0x0 : Str) (l5 : List Int) (n6 : Int) : Option (((List Int) × Int) ⊕ (Str × Bool)) :=
  if n6 < (w64 ((p0x0.length : Int) - (1 : Int))) then
    (idx p0x0 n6).bind fun c8 =>
    if (c8.toNat : Int) = (92 : Int) then
      Q_Unquoted_j1 p0x0 l5 (w64 (n6 + (1 : Int)))
    else
      Q_Unquoted_j1 p0x0 l5 n6
  else
    Option.map .inr (Q_Unquoted_k3 p0x0 l5)

noncomputable def Q_Unquoted_l1 (p0x0 : Str) (l5 : List Int) (n6 : Int) : Option (Str × Bool) :=
  iter (fun x : (List Int) × Int => Q_Unquoted_b1 p0x0 x.1 x.2) (l5, n6)

noncomputable def Q_Unquoted (p0x0 : Str) : Option (Str × Bool) :=
  Q_Unquoted_l1 p0x0 [] (1 : Int)

noncomputable def Q_NotesRead_1x_j2 (p1x0 : List Note) (l9 : List Int) (v15 : Str × Bool) (l17 : List Str) : Option (Bool × (List Note)) :=
  (idx l17 (0 : Int)).bind fun v19 =>
  (idx l17 (1 : Int)).bind fun v20 =>
  (idxA 6 l9 (0 : Int)).bind fun v21 =>
  (idxA 6 l9 (1 : Int)).bind fun v22 =>
  (idxA 6 l9 (2 : Int)).bind fun v23 =>
  (idxA 6 l9 (3 : Int)).bind fun v24 =>
  (idxA 6 l9 (4 : Int)).bind fun v25 =>
  (idxA 6 l9 (5 : Int)).bind fun v26 =>
  (app p1x0 [(⟨(⟨v19, v20, v15.1, v21, v22, v23⟩ : Letter), v24, v25, v26⟩ : Note)]).bind fun l27 =>
  some (v15.2, l27)

noncomputable def Q_NotesRead_1x_k3 (p1x0 : List Note) (v1 : (List Str)) (l9 : List Int) : Option (Bool × (List Note)) :=
  (idx v1 (8 : Int)).bind fun v14 =>
  (Q_Unquoted v14).bind fun v15 =>
  (idx v1 (1 : Int)).bind fun v16 =>
  if v16 = ([45] : Str) then
    (idx v1 (1 : Int)).bind fun v18 =>
    Q_NotesRead_1x_j2 p1x0 l9 v15 (v1.set (1 : Int).toNat ([] : Str))
  else
    Q_NotesRead_1x_j2 p1x0 l9 v15 v1

noncomputable def Q_NotesRead_1x_b1 (p1x0 : List Note) (v1 : (List Str)) (l9 : List Int) (n10 : Int) : Option (((List Int) × Int) ⊕ (Bool × (List Note))) :=
  if n10 < (6 : Int) then
    (idx v1 (w64 ((2 : Int) + n10))).bind fun v11 =>
    (Q_Number v11 (15 : Int)).bind fun v12 =>
    (idxA 6 l9 n10).bind fun v13 =>
    if (!v12.2) = true then
      Option.map .inr (some (false, p1x0))
    else
      some (.inl (l9.set n10.toNat v12.1, w64 (n10 + (1 : Int))))
  else
    Option.map .inr (Q_NotesRead_1x_k3 p1x0 v1 l9)

noncomputable def Q_NotesRead_1x_l1 (p1x0 : List Note) (v1 : (List Str)) (l9 : List Int) (n10 : Int) : Option (Bool × (List Note)) :=
  iter (fun x : (List Int) × Int => Q_NotesRead_1x_b1 p1x0 v1 x.1 x.2) (l9, n10)

noncomputable def Q_NotesRead_1x_j1 (p1x0 : List Note) (v1 : (List Str)) (c3 : Bool) : Option (Bool × (List Note)) :=
  if c3 = true then
    some (false, p1x0)
  else
    Q_NotesRead_1x_l1 p1x0 v1 ([(0 : Int), (0 : Int), (0 : Int), (0 : Int), (0 : Int), (0 : Int)] : List Int) (0 : Int)

noncomputable def Q_NotesRead_1x (p0x0 : Str) (p1x0 : List Note) : Option (Bool × (List Note)) :=
  (strings_SplitN p0x0 ([32] : Str) (9 : Int)).bind fun v1 =>
  if (v1.length : Int) ≠ (9 : Int) then
    Q_NotesRead_1x_j1 p1x0 v1 true
  else
    (slc v1 (0 : Int) (8 : Int)).bind fun l4 =>
    (slices_Contains_string_string l4 ([] : Str)).bind fun v5 =>
    Q_NotesRead_1x_j1 p1x0 v1 v5

noncomputable def Q_Lines_f1x_Q_NotesRead_1x_j1 (n8 : Int) (v9 : Str × Str × Bool) (l11 : List Note) (c12 : Bool) : Option (((List Note) × Str × Int) ⊕ (Int × Bool × (List Note))) :=
  if c12 = true then
    Option.map .inr (some (n8, false, l11))
  else
    some (.inl (l11, v9.2.1, w64 (n8 + (1 : Int))))

noncomputable def Q_Lines_f1x_Q_NotesRead_1x_b1 (l6 : List Note) (q7 : Str) (n8 : Int) : Option (((List Note) × Str × Int) ⊕ (Int × Bool × (List Note))) :=
  if q7 ≠ ([] : Str) then
    (cutO q7 ([10] : Str)).bind fun v9 =>
    if (!v9.2.2) = true then
      Q_Lines_f1x_Q_NotesRead_1x_j1 n8 v9 l6 true
    else
      (Q_NotesRead_1x v9.1 l6).bind fun v13 =>
      Q_Lines_f1x_Q_NotesRead_1x_j1 n8 v9 v13.2 (!v13.1)
  else
    Option.map .inr (some ((0 : Int), true, l6))

noncomputable def Q_Lines_f1x_Q_NotesRead_1x_l1 (l6 : List Note) (q7 : Str) (n8 : Int) : Option (Int × Bool × (List Note)) :=
  iter (fun x : (List Note) × Str × Int => Q_Lines_f1x_Q_NotesRead_1x_b1 x.1 x.2.1 x.2.2) (l6, q7, n8)

noncomputable def Q_Lines_f1x_Q_NotesRead_1x (p0x0 : Str) (p2x0 : List Note) : Option (Int × Bool × (List Note)) :=
  Q_Lines_f1x_Q_NotesRead_1x_l1 p2x0 p0x0 (0 : Int)

noncomputable def Q_NotesRead (p0x0 : Str) : Option ((List Note) × Int × Int) :=
  if (200000 : Int) < (p0x0.length : Int) then
    some ([], (0 : Int), (2 : Int))
  else
    (Q_Lines_f1x_Q_NotesRead_1x p0x0 []).bind fun v3 =>
    if (!v3.2.1) = true then
      some ([], v3.1, (9 : Int))
    else
      (Q_NotesFault v3.2.2).bind fun v7 =>
      if v7 ≠ (0 : Int) then
        some ([], (0 : Int), v7)
      else
        some (v3.2.2, (0 : Int), (0 : Int))

noncomputable def slices_Equal_Note_Note_b1 (p0x0 : List Note) (p1x0 : List Note) (n2 : Int) : Option (Int ⊕ Bool) :=
  if n2 < (p0x0.length : Int) then
    (idx p0x0 n2).bind fun v3 =>
    (idx p1x0 n2).bind fun v4 =>
    if v3 ≠ v4 then
      Option.map .inr (some false)
    else
      some (.inl (w64 (n2 + (1 : Int))))
  else
    Option.map .inr (some true)

noncomputable def slices_Equal_Note_Note_l1 (p0x0 : List Note) (p1x0 : List Note) (n2 : Int) : Option Bool :=
  iter (fun x : Int => slices_Equal_Note_Note_b1 p0x0 p1x0 x) n2

noncomputable def slices_Equal_Note_Note (p0x0 : List Note) (p1x0 : List Note) : Option Bool :=
  if (p0x0.length : Int) ≠ (p1x0.length : Int) then
    some false
  else
    slices_Equal_Note_Note_l1 p0x0 p1x0 (0 : Int)

noncomputable def command_CheckPost_j1 (c2 : Bool) : Int :=
  if c2 = true then
    (1 : Int)
  else
    (0 : Int)

noncomputable def command_CheckPost (p0x0 : Post) : Int :=
  command_CheckPost_j1 ((base_Out p0x0.Room (1 : Int) (500 : Int)) || ((base_Out p0x0.Timeout (1 : Int) (86400000 : Int)) || ((base_Out p0x0.Tries (1 : Int) (20 : Int)) || (base_Out p0x0.Kept (0 : Int) (1000 : Int)))))

noncomputable def command_New (p0x0 : Post) : (Option Command_Office) × Int :=
  if (command_CheckPost p0x0) ≠ (0 : Int) then
    (none, (command_CheckPost p0x0))
  else
    (some (⟨p0x0, [], (0 : Int)⟩ : Command_Office), (0 : Int))

noncomputable def command_Office_timeFault (p0x0 : Command_Office) (p1x0 : Int) : Int :=
  if (!(base_Moment p1x0)) = true then
    (1 : Int)
  else
    if p1x0 < p0x0.time_ then
      (7 : Int)
    else
      (0 : Int)

noncomputable def base_First_b1 (p0x0 : List Int) (n2 : Int) : Option (Int ⊕ Int) :=
  if n2 < (p0x0.length : Int) then
    (idx p0x0 n2).bind fun v3 =>
    if v3 ≠ (0 : Int) then
      Option.map .inr (some v3)
    else
      some (.inl (w64 (n2 + (1 : Int))))
  else
    Option.map .inr (some (0 : Int))

noncomputable def base_First_l1 (p0x0 : List Int) (n2 : Int) : Option Int :=
  iter (fun x : Int => base_First_b1 p0x0 x) n2

noncomputable def base_First (p0x0 : List Int) : Option Int :=
  base_First_l1 p0x0 (0 : Int)

noncomputable def command_ended (p0x0 : Int) : Bool :=
  decide ((3 : Int) ≤ p0x0)

noncomputable def command_Office_turn (p0x0 : Command_Office) (p1x0 : Note) : Int :=
  if p1x0.State = (2 : Int) then
    min p1x0.Letter.Until (w64 (p1x0.Since + p0x0.post_.Timeout))
  else
    p1x0.Letter.Until

noncomputable def command_Office_grown_j1 (p1x0 : Note) (n3 : Int) (n4 : Int) : Option Note :=
  some (⟨p1x0.Letter, n3, p1x0.Tries, n4⟩ : Note)

noncomputable def command_Office_grown_j2 (p0x0 : Command_Office) (p1x0 : Note) (n7 : Int) (n8 : Int) (n9 : Int) : Option ((Int × Int) ⊕ Note) :=
  some (.inl (n9, (command_Office_turn p0x0 (⟨p1x0.Letter, n7, p1x0.Tries, n8⟩ : Note))))

noncomputable def command_Office_grown_j3 (p0x0 : Command_Office) (p1x0 : Note) (n7 : Int) (n8 : Int) (n10 : Int) : Option ((Int × Int) ⊕ Note) :=
  command_Office_grown_j2 p0x0 p1x0 n7 n8 n10

noncomputable def command_Office_grown_b1 (p0x0 : Command_Office) (p1x0 : Note) (p2x0 : Int) (n7 : Int) (n8 : Int) : Option ((Int × Int) ⊕ Note) :=
  if (!(command_ended n7)) = true then
    if p2x0 < (command_Office_turn p0x0 (⟨p1x0.Letter, n7, p1x0.Tries, n8⟩ : Note)) then
      Option.map .inr (command_Office_grown_j1 p1x0 n7 n8)
    else
      if (command_Office_turn p0x0 (⟨p1x0.Letter, n7, p1x0.Tries, n8⟩ : Note)) = p1x0.Letter.Until then
        command_Office_grown_j2 p0x0 p1x0 n7 n8 (5 : Int)
      else
        if p1x0.Tries = p0x0.post_.Tries then
          command_Office_grown_j3 p0x0 p1x0 n7 n8 (7 : Int)
        else
          command_Office_grown_j3 p0x0 p1x0 n7 n8 (1 : Int)
  else
    Option.map .inr (command_Office_grown_j1 p1x0 n7 n8)

noncomputable def command_Office_grown_l1 (p0x0 : Command_Office) (p1x0 : Note) (p2x0 : Int) (n7 : Int) (n8 : Int) : Option Note :=
  iter (fun x : Int × Int => command_Office_grown_b1 p0x0 p1x0 p2x0 x.1 x.2) (n7, n8)

noncomputable def command_Office_grown (p0x0 : Command_Office) (p1x0 : Note) (p2x0 : Int) : Option Note :=
  command_Office_grown_l1 p0x0 p1x0 p2x0 p1x0.State p1x0.Since

noncomputable def cmp_isNaN_int (p0x0 : Int) : Bool :=
  decide (p0x0 ≠ p0x0)

noncomputable def cmp_Compare_int (p0x0 : Int) (p1x0 : Int) : Int :=
  if (cmp_isNaN_int p0x0) = true then
    if (cmp_isNaN_int p1x0) = true then
      (0 : Int)
    else
      (-1 : Int)
  else
    if (cmp_isNaN_int p1x0) = true then
      (1 : Int)
    else
      if p0x0 < p1x0 then
        (-1 : Int)
      else
        if p1x0 < p0x0 then
          (1 : Int)
        else
          (0 : Int)

noncomputable def cmp_Or_int_b1 (p0x0 : List Int) (n2 : Int) : Option (Int ⊕ Int) :=
  if n2 < (p0x0.length : Int) then
    (idx p0x0 n2).bind fun v3 =>
    if v3 ≠ (0 : Int) then
      Option.map .inr (some v3)
    else
      some (.inl (w64 (n2 + (1 : Int))))
  else
    Option.map .inr (some (0 : Int))

noncomputable def cmp_Or_int_l1 (p0x0 : List Int) (n2 : Int) : Option Int :=
  iter (fun x : Int => cmp_Or_int_b1 p0x0 x) n2

noncomputable def cmp_Or_int (p0x0 : List Int) : Option Int :=
  cmp_Or_int_l1 p0x0 (0 : Int)

noncomputable def command_Office_aged_1x (p0x0 : Note) (p1x0 : Note) : Option Int :=
  (cmp_Or_int [(cmp_Compare_int p0x0.Since p1x0.Since), (Lib.compareBytes p0x0.Letter.Id p1x0.Letter.Id)]).bind fun v3 =>
  some v3

/-- Sorted by Go. -/
noncomputable def slices_SortFunc_Note_Note (p0x0 : List Note) (fnb : Note → Note → Option Int) : Option (List Note) :=
  sortO fnb p0x0

noncomputable def command_Office_aged_j1 (l6 : List (Str × Note)) (v1m : Str × Note) (v19 : Note) (l21 : List Note) : Option (((List (Str × Note)) × (List Note)) ⊕ (List (Str × Note))) :=
  some (.inl (mset l6 v1m.1 v19, l21))

noncomputable def command_Office_aged_b1 (p0x0 : Command_Office) (p1x0 : Int) (v1m : Str × Note) (l6 : List (Str × Note)) (l8 : List Note) : Option (((List (Str × Note)) × (List Note)) ⊕ (List (Str × Note))) :=
  (command_Office_grown p0x0 v1m.2 p1x0).bind fun v19 =>
  if (command_ended v19.State) = true then
    (app l8 [v19]).bind fun l22 =>
    command_Office_aged_j1 l6 v1m v19 l22
  else
    command_Office_aged_j1 l6 v1m v19 l8

noncomputable def command_Office_aged_b2 (v10 : (List Note)) (l11 : List Note) (l14 : List (Str × Note)) (n15 : Int) : Option (((List (Str × Note)) × Int) ⊕ (List (Str × Note))) :=
  if n15 < (l11.length : Int) then
    (idxS v10 (0 : Int) l11.length n15).bind fun v16 =>
    some (.inl (mdel l14 v16.Letter.Id, w64 (n15 + (1 : Int))))
  else
    Option.map .inr (some l14)

noncomputable def command_Office_aged_l2 (v10 : (List Note)) (l11 : List Note) (l14 : List (Str × Note)) (n15 : Int) : Option (List (Str × Note)) :=
  iter (fun x : (List (Str × Note)) × Int => command_Office_aged_b2 v10 l11 x.1 x.2) (l14, n15)

noncomputable def command_Office_aged_f1 (p0x0 : Command_Office) (l6 : List (Str × Note)) (l8 : List Note) : Option (List (Str × Note)) :=
  (lenOk l8.length (fun r : (List Note) => r.length) (slices_SortFunc_Note_Note l8 (fun y0 y1 => command_Office_aged_1x y0 y1))).bind fun v10 =>
  (slc v10 (0 : Int) (max (0 : Int) (w64 ((v10.length : Int) - p0x0.post_.Kept)))).bind fun l11 =>
  command_Office_aged_l2 v10 l11 l6 (0 : Int)

noncomputable def command_Office_aged_l1 (p0x0 : Command_Office) (p1x0 : Int) (l6 : List (Str × Note)) (l8 : List Note) : Option (List (Str × Note)) :=
  overP p0x0.notes_ (fun p => loopL (fun e (x : (List (Str × Note)) × (List Note)) => command_Office_aged_b1 p0x0 p1x0 e x.1 x.2) (fun x : (List (Str × Note)) × (List Note) => command_Office_aged_f1 p0x0 x.1 x.2) p (l6, l8))

noncomputable def command_Office_aged (p0x0 : Command_Office) (p1x0 : Int) : Option (List (Str × Note)) :=
  command_Office_aged_l1 p0x0 p1x0 [] []

noncomputable def command_pending_j1 (n5 : Int) : Option (Int ⊕ Int) :=
  some (.inl n5)

noncomputable def command_pending_b1 (v1m : Str × Note) (n3 : Int) : Option (Int ⊕ Int) :=
  if (!(command_ended v1m.2.State)) = true then
    command_pending_j1 (w64 (n3 + (1 : Int)))
  else
    command_pending_j1 n3

noncomputable def command_pending_f1 (n3 : Int) : Option Int :=
  some n3

noncomputable def command_pending_l1 (p0x0 : List (Str × Note)) (n3 : Int) : Option Int :=
  overP p0x0 (fun p => loopL (fun e (x : Int) => command_pending_b1 e x) (fun x : Int => command_pending_f1 x) p n3)

noncomputable def command_pending (p0x0 : List (Str × Note)) : Option Int :=
  command_pending_l1 p0x0 (0 : Int)

noncomputable def command_Office_keep (p0x0 : Command_Office) (p1x0 : List (Str × Note)) (p2x0 : Int) : Command_Office :=
  (⟨p0x0.post_, p1x0, p2x0⟩ : Command_Office)

noncomputable def command_Office_Put_j4 (q19 : Str) : Option (Str ⊕ (Int × Command_Office)) :=
  some (.inl q19)

noncomputable def command_Office_Put_j3 (q10 : Str) (v1m : Str × Note) (c18 : Bool) : Option (Str ⊕ (Int × Command_Office)) :=
  if c18 = true then
    command_Office_Put_j4 v1m.1
  else
    command_Office_Put_j4 q10

noncomputable def command_Office_Put_b1 (p1x0 : Letter) (v1m : Str × Note) (q10 : Str) : Option (Str ⊕ (Int × Command_Office)) :=
  command_Office_Put_j3 q10 v1m ((decide (p1x0.Slot ≠ ([] : Str))) && ((decide (v1m.2.Letter.Slot = p1x0.Slot)) && ((decide (v1m.2.State = (1 : Int))) && (decide (v1m.2.Tries = (0 : Int))))))

noncomputable def command_Office_Put_j2 (p0x0 : Command_Office) (p1x0 : Letter) (l13 : List (Str × Note)) : Option (Int × Command_Office) :=
  some ((0 : Int), (command_Office_keep p0x0 (mset l13 p1x0.Id (⟨p1x0, (1 : Int), (0 : Int), p1x0.At⟩ : Note)) p1x0.At))

noncomputable def command_Office_Put_j1 (p0x0 : Command_Office) (p1x0 : Letter) (v4 : (List (Str × Note))) (q10 : Str) (n11 : Int) : Option (Int × Command_Office) :=
  (command_pending v4).bind fun v12 =>
  if n11 ≤ v12 then
    some ((12 : Int), p0x0)
  else
    if q10 ≠ ([] : Str) then
      (mgetO v4 q10 (⟨(⟨[], [], [], (0 : Int), (0 : Int), (0 : Int)⟩ : Letter), (0 : Int), (0 : Int), (0 : Int)⟩ : Note)).bind fun v14 =>
      command_Office_Put_j2 p0x0 p1x0 (mset v4 q10 (⟨v14.Letter, (6 : Int), v14.Tries, p1x0.At⟩ : Note))
    else
      command_Office_Put_j2 p0x0 p1x0 v4

noncomputable def command_Office_Put_f1 (p0x0 : Command_Office) (p1x0 : Letter) (v4 : (List (Str × Note))) (q10 : Str) : Option (Int × Command_Office) :=
  if q10 ≠ ([] : Str) then
    command_Office_Put_j1 p0x0 p1x0 v4 q10 (w64 (p0x0.post_.Room + (1 : Int)))
  else
    command_Office_Put_j1 p0x0 p1x0 v4 q10 p0x0.post_.Room

noncomputable def command_Office_Put_l1 (p0x0 : Command_Office) (p1x0 : Letter) (v4 : (List (Str × Note))) (q10 : Str) : Option (Int × Command_Office) :=
  overP v4 (fun p => loopL (fun e (x : Str) => command_Office_Put_b1 p1x0 e x) (fun x : Str => command_Office_Put_f1 p0x0 p1x0 v4 x) p q10)

noncomputable def command_Office_Put (p0x0 : Command_Office) (p1x0 : Letter) : Option (Int × Command_Office) :=
  (command_CheckLetter p1x0).bind fun v2 =>
  (base_First [v2, (command_Office_timeFault p0x0 p1x0.At)]).bind fun v3 =>
  if v3 ≠ (0 : Int) then
    some (v3, p0x0)
  else
    (command_Office_aged p0x0 p1x0.At).bind fun v4 =>
    (mget2 v4 p1x0.Id (⟨(⟨[], [], [], (0 : Int), (0 : Int), (0 : Int)⟩ : Letter), (0 : Int), (0 : Int), (0 : Int)⟩ : Note)).bind fun v6 =>
    if v6.2 = true then
      some ((6 : Int), p0x0)
    else
      command_Office_Put_l1 p0x0 p1x0 v4 ([] : Str)

noncomputable def command_Office_Waiting (p0x0 : Command_Office) (p1x0 : Int) : Option (Int × Int × Command_Office) :=
  if (command_Office_timeFault p0x0 p1x0) ≠ (0 : Int) then
    some ((0 : Int), (command_Office_timeFault p0x0 p1x0), p0x0)
  else
    (command_Office_aged p0x0 p1x0).bind fun v1 =>
    (command_pending ((command_Office_keep p0x0 v1 p1x0).notes_)).bind fun v4 =>
    some (v4, (0 : Int), (command_Office_keep p0x0 v1 p1x0))

noncomputable def L_posted_j1 : Option Bool :=
  some false

noncomputable def L_posted_j3 (c16 : Bool) : Option Bool :=
  some c16

noncomputable def L_posted_j2 (n4 : Int) (n5 : Int) (n6 : Int) (n7 : Int) (l9 : List (Str × Note)) (n10 : Int) (c11 : Bool) : Option Bool :=
  if c11 = true then
    some false
  else
    (command_Office_Waiting (⟨(⟨n4, n5, n6, n7⟩ : Post), l9, n10⟩ : Command_Office) (0 : Int)).bind fun v14 =>
    L_posted_j3 ((decide (v14.2.1 = (0 : Int))) && (decide (v14.1 = (1 : Int))))

noncomputable def L_posted : Option Bool :=
  casesO ((command_New (⟨(1 : Int), (1 : Int), (1 : Int), (0 : Int)⟩ : Post)).1) (
    if ((command_New (⟨(1 : Int), (1 : Int), (1 : Int), (0 : Int)⟩ : Post)).2) ≠ (0 : Int) then
      L_posted_j1
    else
      L_posted_j1) (fun x1 =>
    if ((command_New (⟨(1 : Int), (1 : Int), (1 : Int), (0 : Int)⟩ : Post)).2) ≠ (0 : Int) then
      L_posted_j2 x1.post_.Room x1.post_.Timeout x1.post_.Tries x1.post_.Kept x1.notes_ x1.time_ true
    else
      (command_Office_Put x1 (⟨([97] : Str), [], [], (0 : Int), (0 : Int), (5 : Int)⟩ : Letter)).bind fun v12 =>
      L_posted_j2 v12.2.post_.Room v12.2.post_.Timeout v12.2.post_.Tries v12.2.post_.Kept v12.2.notes_ v12.2.time_ (decide (v12.1 ≠ (0 : Int))))

noncomputable def L_NoteTexts_j2 (c13 : Bool) : Option Bool :=
  some c13

noncomputable def L_NoteTexts_j1 (v4 : Str × Fleetmake_Stream) (v5 : Str × Int) (v6 : Int) (q7 : Str) : Option Bool :=
  (command_Read v4.1).bind fun v9 =>
  (Q_NotesRead v4.1).bind fun v11 =>
  if v5.2 = v6 then
    if v5.1 = q7 then
      (slices_Equal_Note_Note v9.1 v11.1).bind fun v14 =>
      if v14 = true then
        if v9.2.1 = v11.2.1 then
          if v9.2.2 = v11.2.2 then
            (L_posted).bind fun v15 =>
            L_NoteTexts_j2 v15
          else
            L_NoteTexts_j2 false
        else
          L_NoteTexts_j2 false
      else
        L_NoteTexts_j2 false
    else
      L_NoteTexts_j2 false
  else
    L_NoteTexts_j2 false

noncomputable def L_NoteTexts (p0x0 : List Int) : Option Bool :=
  (Stream_Notes (⟨p0x0, (0 : Int)⟩ : Fleetmake_Stream)).bind fun v2 =>
  (Stream_NoteText v2.2).bind fun v4 =>
  (command_Text v2.1).bind fun v5 =>
  (Q_NotesFault v2.1).bind fun v6 =>
  if v6 = (0 : Int) then
    (Q_NoteLines v2.1).bind fun v8 =>
    L_NoteTexts_j1 v4 v5 v6 v8
  else
    L_NoteTexts_j1 v4 v5 v6 ([] : Str)

end Go.Beacon

