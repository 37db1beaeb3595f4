/- Plain functions that the Go functions compute, written by shal.py. -/
import Derived.Test.YtfplpihogacmaaaDoorCore
set_option linter.unusedVariables false
namespace Go.Beacon
open Go Go.Eng
structure Fleetmake_Stream where
  L : List Int
  at_ : Int
deriving DecidableEq, Inhabited
def Fleetmake_Stream.av (x : Fleetmake_Stream) : AV := .agg [.list 1 (x.L.map I), I x.at_]

structure Letter where
  Id : Str
  Slot : Str
  Body : Str
  Prio : Int
  At : Int
  Until : Int
deriving DecidableEq, Inhabited
def Letter.av (x : Letter) : AV := .agg [.str x.Id, .str x.Slot, .str x.Body, I x.Prio, I x.At, I x.Until]

structure Note where
  Letter : Letter
  State : Int
  Tries : Int
  Since : Int
deriving DecidableEq, Inhabited
def Note.av (x : Note) : AV := .agg [.str x.Letter.Id, .str x.Letter.Slot, .str x.Letter.Body, I x.Letter.Prio, I x.Letter.At, I x.Letter.Until, I x.State, I x.Tries, I x.Since]

structure Post where
  Room : Int
  Timeout : Int
  Tries : Int
  Kept : Int
deriving DecidableEq, Inhabited
def Post.av (x : Post) : AV := .agg [I x.Room, I x.Timeout, I x.Tries, I x.Kept]

structure Command_Office where
  post_ : Post
  notes_ : List (Str × Note)
  time_ : Int
deriving DecidableEq, Inhabited

noncomputable def Below_j1 (n2 : Int) : Option Int :=
  some n2

noncomputable def Below (p0x0 : Int) (p1x0 : Int) : Option Int :=
  if p1x0 < (1 : Int) then
    some (0 : Int)
  else
    (rem p0x0 p1x0).bind fun n1 =>
    if n1 < (0 : Int) then
      Below_j1 (w64 (n1 + p1x0))
    else
      Below_j1 n1

noncomputable def Stream_Next (p0x0 : Fleetmake_Stream) (p1x0 : Int) : Option (Int × Fleetmake_Stream) :=
  if (p0x0.L.length : Int) = (0 : Int) then
    (Below (w64 ((w64 (p0x0.at_ + (1 : Int))) * (7919 : Int))) p1x0).bind fun v1 =>
    some (v1, (⟨p0x0.L, w64 (p0x0.at_ + (1 : Int))⟩ : Fleetmake_Stream))
  else
    (rem (w64 ((w64 (p0x0.at_ + (1 : Int))) - (1 : Int))) (p0x0.L.length : Int)).bind fun n2 =>
    (quo (w64 ((w64 (p0x0.at_ + (1 : Int))) - (1 : Int))) (p0x0.L.length : Int)).bind fun n3 =>
    (idx p0x0.L n2).bind fun v4 =>
    (Below v4 (1073741824 : Int)).bind fun v5 =>
    (Below (w64 (v5 + (w64 (n3 * (w64 ((7919 : Int) + n2)))))) p1x0).bind fun v6 =>
    some (v6, (⟨p0x0.L, w64 (p0x0.at_ + (1 : Int))⟩ : Fleetmake_Stream))

noncomputable def Stream_Flip (p0x0 : Fleetmake_Stream) (p1x0 : Int) : Option (Bool × Fleetmake_Stream) :=
  (Stream_Next p0x0 p1x0).bind fun v1 =>
  some (decide (v1.1 = (0 : Int)), v1.2)

noncomputable def Stream_Some (p0x0 : Fleetmake_Stream) (p1x0 : List Str) : Option (Str × Fleetmake_Stream) :=
  (Stream_Next p0x0 (p1x0.length : Int)).bind fun v1 =>
  (idx p1x0 v1.1).bind fun v2 =>
  some (v2, v1.2)

noncomputable def Stream_Pick (p0x0 : Fleetmake_Stream) (p1x0 : List Int) : Option (Int × Fleetmake_Stream) :=
  (Stream_Next p0x0 (p1x0.length : Int)).bind fun v1 =>
  (idx p1x0 v1.1).bind fun v2 =>
  some (v2, v1.2)

noncomputable def Stream_Range (p0x0 : Fleetmake_Stream) (p1x0 : Int) (p2x0 : Int) : Option (Int × Fleetmake_Stream) :=
  if p2x0 < p1x0 then
    some (p1x0, p0x0)
  else
    (Stream_Next p0x0 (w64 ((w64 (p2x0 - p1x0)) + (1 : Int)))).bind fun v1 =>
    some (w64 (p1x0 + v1.1), v1.2)

noncomputable def Stream_Odd (p0x0 : Fleetmake_Stream) (p1x0 : Int) (p2x0 : Int) : Option (Int × Fleetmake_Stream) :=
  (Stream_Flip p0x0 (12 : Int)).bind fun v1 =>
  if v1.1 = true then
    (Stream_Pick v1.2 [w64 (p1x0 - (1 : Int)), w64 (p2x0 + (1 : Int)), p1x0, p2x0, (-1099511627776 : Int), (1099511627776 : Int)]).bind fun v2 =>
    some (v2.1, v2.2)
  else
    (Stream_Range v1.2 p1x0 p2x0).bind fun v3 =>
    some (v3.1, v3.2)

noncomputable def Stream_Notes_j1 (n10 : Int) (l12 : List Int) (n13 : Int) (l15 : List Note) : Option (((List Int) × Int × (List Note) × Int) ⊕ ((List Note) × Fleetmake_Stream)) :=
  some (.inl (l12, n13, l15, w64 (n10 + (1 : Int))))

noncomputable def Stream_Notes_j2 (l9 : List Note) (n10 : Int) (v18 : Str × Fleetmake_Stream) (v19 : Str × Fleetmake_Stream) (v20 : Int × Fleetmake_Stream) (l26 : List Int) (n27 : Int) (q28 : Str) (n29 : Int) (n30 : Int) (n31 : Int) : Option (((List Int) × Int × (List Note) × Int) ⊕ ((List Note) × Fleetmake_Stream)) :=
  (app l9 [(⟨(⟨q28, v18.1, v19.1, v20.1, (0 : Int), (100 : Int)⟩ : Letter), n29, n30, n31⟩ : Note)]).bind fun l36 =>
  Stream_Notes_j1 n10 l26 n27 l36

noncomputable def Stream_Notes_b1 (l6 : List Int) (n7 : Int) (l9 : List Note) (n10 : Int) : Option (((List Int) × Int × (List Note) × Int) ⊕ ((List Note) × Fleetmake_Stream)) :=
  if n10 < ([([108, 97] : Str), ([108, 98] : Str), ([108, 99] : Str), ([108, 100] : Str)].length : Int) then
    (idx [([108, 97] : Str), ([108, 98] : Str), ([108, 99] : Str), ([108, 100] : Str)] n10).bind fun v16 =>
    (Stream_Flip (⟨l6, n7⟩ : Fleetmake_Stream) (3 : Int)).bind fun v17 =>
    if v17.1 = true then
      Stream_Notes_j1 n10 v17.2.L v17.2.at_ l9
    else
      (Stream_Some v17.2 [([] : Str), ([115, 97] : Str)]).bind fun v18 =>
      (Stream_Some v18.2 [([100, 111] : Str), ([100, 111] : Str), ([120, 32, 34, 121, 34] : Str)]).bind fun v19 =>
      (Stream_Pick v19.2 [(0 : Int), (0 : Int), (0 : Int), (5 : Int)]).bind fun v20 =>
      (Stream_Range v20.2 (1 : Int) (7 : Int)).bind fun v21 =>
      (Stream_Pick v21.2 [(0 : Int), (1 : Int), (1 : Int), (2 : Int)]).bind fun v22 =>
      (Stream_Pick v22.2 [(0 : Int), (5 : Int), (5 : Int), (9 : Int)]).bind fun v23 =>
      (Stream_Flip v23.2 (40 : Int)).bind fun v25 =>
      if v25.1 = true then
        (Stream_Some v25.2 [v16, ([] : Str), ([108, 97] : Str)]).bind fun v32 =>
        (Stream_Odd v32.2 (1 : Int) (7 : Int)).bind fun v33 =>
        (Stream_Odd v33.2 (0 : Int) (20 : Int)).bind fun v34 =>
        (Stream_Odd v34.2 (0 : Int) (50 : Int)).bind fun v35 =>
        Stream_Notes_j2 l9 n10 v18 v19 v20 v35.2.L v35.2.at_ v32.1 v33.1 v34.1 v35.1
      else
        Stream_Notes_j2 l9 n10 v18 v19 v20 v25.2.L v25.2.at_ v16 v21.1 v22.1 v23.1
  else
    Option.map .inr (some (l9, (⟨l6, n7⟩ : Fleetmake_Stream)))

noncomputable def Stream_Notes_l1 (l6 : List Int) (n7 : Int) (l9 : List Note) (n10 : Int) : Option ((List Note) × Fleetmake_Stream) :=
  iter (fun x : (List Int) × Int × (List Note) × Int => Stream_Notes_b1 x.1 x.2.1 x.2.2.1 x.2.2.2) (l6, n7, l9, n10)

noncomputable def Stream_Notes (p0x0 : Fleetmake_Stream) : Option ((List Note) × Fleetmake_Stream) :=
  Stream_Notes_l1 p0x0.L p0x0.at_ [] (0 : Int)

/-- A copy of a list. -/
noncomputable def slices_Clone_Note_Note (p0x0 : List Note) : Option (List Note) :=
  app [] p0x0

noncomputable def base_Key_j2 (n5 : Int) (c7 : Bool) : Option (Int ⊕ Bool) :=
  if c7 = true then
    Option.map .inr (some false)
  else
    some (.inl (w64 (n5 + (1 : Int))))

noncomputable def base_Key_b1 (p0x0 : Str) (n5 : Int) : Option (Int ⊕ Bool) :=
  if n5 < (p0x0.length : Int) then
    (idx p0x0 n5).bind fun c6 =>
    base_Key_j2 n5 (if (97 : Int) ≤ (c6.toNat : Int) then if (c6.toNat : Int) ≤ (122 : Int) then !true else if (48 : Int) ≤ (c6.toNat : Int) then if (c6.toNat : Int) ≤ (57 : Int) then !true else if (c6.toNat : Int) = (45 : Int) then !true else decide (¬ ((c6.toNat : Int) = (95 : Int))) else if (c6.toNat : Int) = (45 : Int) then !true else decide (¬ ((c6.toNat : Int) = (95 : Int))) else if (48 : Int) ≤ (c6.toNat : Int) then if (c6.toNat : Int) ≤ (57 : Int) then !true else if (c6.toNat : Int) = (45 : Int) then !true else decide (¬ ((c6.toNat : Int) = (95 : Int))) else if (c6.toNat : Int) = (45 : Int) then !true else decide (¬ ((c6.toNat : Int) = (95 : Int))))
  else
    Option.map .inr (some true)

noncomputable def base_Key_l1 (p0x0 : Str) (n5 : Int) : Option Bool :=
  iter (fun x : Int => base_Key_b1 p0x0 x) n5

noncomputable def base_Key_j1 (p0x0 : Str) (c1 : Bool) : Option Bool :=
  if c1 = true then
    some false
  else
    base_Key_l1 p0x0 (0 : Int)

noncomputable def base_Key (p0x0 : Str) : Option Bool :=
  if p0x0 = ([] : Str) then
    base_Key_j1 p0x0 true
  else
    if (40 : Int) < (p0x0.length : Int) then
      base_Key_j1 p0x0 true
    else
      (idx p0x0 (0 : Int)).bind fun c2 =>
      if (c2.toNat : Int) < (97 : Int) then
        base_Key_j1 p0x0 true
      else
        (idx p0x0 (0 : Int)).bind fun c3 =>
        base_Key_j1 p0x0 (decide ((122 : Int) < (c3.toNat : Int)))

noncomputable def base_Unmarked_j1 (n2 : Int) (c3 : Bool) : Option (Int ⊕ Bool) :=
  if c3 = true then
    Option.map .inr (some false)
  else
    some (.inl (w64 (n2 + (1 : Int))))

noncomputable def base_Unmarked_k2 (p0x0 : Str) : Option Bool :=
  (validO p0x0).bind fun v6 =>
  some v6

noncomputable def base_Unmarked_b1 (p0x0 : Str) (n2 : Int) : Option (Int ⊕ Bool) :=
  if n2 < (p0x0.length : Int) then
    (idx p0x0 n2).bind fun c4 =>
    if (c4.toNat : Int) < (32 : Int) then
      base_Unmarked_j1 n2 true
    else
      (idx p0x0 n2).bind fun c5 =>
      base_Unmarked_j1 n2 (decide ((c5.toNat : Int) = (127 : Int)))
  else
    Option.map .inr (base_Unmarked_k2 p0x0)

noncomputable def base_Unmarked_l1 (p0x0 : Str) (n2 : Int) : Option Bool :=
  iter (fun x : Int => base_Unmarked_b1 p0x0 x) n2

noncomputable def base_Unmarked (p0x0 : Str) : Option Bool :=
  base_Unmarked_l1 p0x0 (0 : Int)

noncomputable def base_Out_j1 (c1 : Bool) : Bool :=
  c1

noncomputable def base_Out (p0x0 : Int) (p1x0 : Int) (p2x0 : Int) : Bool :=
  base_Out_j1 ((decide (p0x0 < p1x0)) || (decide (p2x0 < p0x0)))

noncomputable def base_Moment (p0x0 : Int) : Bool :=
  !(base_Out p0x0 (0 : Int) (345686399999 : Int))

noncomputable def command_CheckLetter_j2 (c6 : Bool) : Option Int :=
  if c6 = true then
    some (1 : Int)
  else
    some (0 : Int)

noncomputable def command_CheckLetter_j1 (p0x0 : Letter) (c2 : Bool) : Option Int :=
  if c2 = true then
    some (5 : Int)
  else
    if (1000 : Int) < (p0x0.Body.length : Int) then
      some (2 : Int)
    else
      (base_Unmarked p0x0.Body).bind fun v5 =>
      if (!v5) = true then
        some (3 : Int)
      else
        command_CheckLetter_j2 ((base_Out p0x0.Prio (0 : Int) (9 : Int)) || ((!(base_Moment p0x0.At)) || ((decide (p0x0.Until ≤ p0x0.At)) || (decide ((345686400000 : Int) < p0x0.Until)))))

noncomputable def command_CheckLetter (p0x0 : Letter) : Option Int :=
  (base_Key p0x0.Id).bind fun v3 =>
  if (!v3) = true then
    command_CheckLetter_j1 p0x0 true
  else
    if p0x0.Slot ≠ ([] : Str) then
      (base_Key p0x0.Slot).bind fun v4 =>
      command_CheckLetter_j1 p0x0 (!v4)
    else
      command_CheckLetter_j1 p0x0 false

noncomputable def command_CheckNotes_j2 (n2 : Int) (c7 : Bool) : Option (Int ⊕ Int) :=
  if c7 = true then
    Option.map .inr (some (7 : Int))
  else
    some (.inl (w64 (n2 + (1 : Int))))

noncomputable def command_CheckNotes_j1 (p0x0 : List Note) (n2 : Int) (v3 : Note) (c6 : Bool) : Option (Int ⊕ Int) :=
  if c6 = true then
    Option.map .inr (some (1 : Int))
  else
    if (0 : Int) < n2 then
      (idx p0x0 (w64 (n2 - (1 : Int)))).bind fun v8 =>
      command_CheckNotes_j2 n2 (Op.bytesLess v3.Letter.Id v8.Letter.Id || v3.Letter.Id == v8.Letter.Id)
    else
      command_CheckNotes_j2 n2 false

noncomputable def command_CheckNotes_b1 (p0x0 : List Note) (n2 : Int) : Option (Int ⊕ Int) :=
  if n2 < (p0x0.length : Int) then
    (idx p0x0 n2).bind fun v3 =>
    (command_CheckLetter v3.Letter).bind fun v5 =>
    if v5 ≠ (0 : Int) then
      Option.map .inr (some v5)
    else
      if (base_Out v3.State (1 : Int) (7 : Int)) = true then
        Option.map .inr (some (4 : Int))
      else
        command_CheckNotes_j1 p0x0 n2 v3 ((base_Out v3.Tries (0 : Int) (20 : Int)) || (!(base_Moment v3.Since)))
  else
    Option.map .inr (some (0 : Int))

noncomputable def command_CheckNotes_l1 (p0x0 : List Note) (n2 : Int) : Option Int :=
  iter (fun x : Int => command_CheckNotes_b1 p0x0 x) n2

noncomputable def command_CheckNotes (p0x0 : List Note) : Option Int :=
  if (1500 : Int) < (p0x0.length : Int) then
    some (2 : Int)
  else
    command_CheckNotes_l1 p0x0 (0 : Int)

noncomputable def base_First_b1 (p0x0 : List Int) (n2 : Int) : Option (Int ⊕ Int) :=
  if n2 < (p0x0.length : Int) then
    (idx p0x0 n2).bind fun v3 =>
    if v3 ≠ (0 : Int) then
      Option.map .inr (some v3)
    else
      some (.inl (w64 (n2 + (1 : Int))))
  else
    Option.map .inr (some (0 : Int))

noncomputable def base_First_l1 (p0x0 : List Int) (n2 : Int) : Option Int :=
  iter (fun x : Int => base_First_b1 p0x0 x) n2

noncomputable def base_First (p0x0 : List Int) : Option Int :=
  base_First_l1 p0x0 (0 : Int)

noncomputable def slices_Index_int_int_b1 (p0x0 : List Int) (p1x0 : Int) (n2 : Int) : Option (Int ⊕ Int) :=
  if n2 < (p0x0.length : Int) then
    (idx p0x0 n2).bind fun v3 =>
    if p1x0 = v3 then
      Option.map .inr (some n2)
    else
      some (.inl (w64 (n2 + (1 : Int))))
  else
    Option.map .inr (some (-1 : Int))

noncomputable def slices_Index_int_int_l1 (p0x0 : List Int) (p1x0 : Int) (n2 : Int) : Option Int :=
  iter (fun x : Int => slices_Index_int_int_b1 p0x0 p1x0 x) n2

noncomputable def slices_Index_int_int (p0x0 : List Int) (p1x0 : Int) : Option Int :=
  slices_Index_int_int_l1 p0x0 p1x0 (0 : Int)

noncomputable def command_rank (p0x0 : Int) : Option Int :=
  (slices_Index_int_int [(6 : Int), (5 : Int), (7 : Int), (4 : Int), (3 : Int)] p0x0).bind fun v1 =>
  some (w64 ((1 : Int) + v1))

noncomputable def cmp_isNaN_int (p0x0 : Int) : Bool :=
  decide (p0x0 ≠ p0x0)

noncomputable def cmp_Compare_int (p0x0 : Int) (p1x0 : Int) : Int :=
  if (cmp_isNaN_int p0x0) = true then
    if (cmp_isNaN_int p1x0) = true then
      (0 : Int)
    else
      (-1 : Int)
  else
    if (cmp_isNaN_int p1x0) = true then
      (1 : Int)
    else
      if p0x0 < p1x0 then
        (-1 : Int)
      else
        if p1x0 < p0x0 then
          (1 : Int)
        else
          (0 : Int)

noncomputable def cmp_Or_int_b1 (p0x0 : List Int) (n2 : Int) : Option (Int ⊕ Int) :=
  if n2 < (p0x0.length : Int) then
    (idx p0x0 n2).bind fun v3 =>
    if v3 ≠ (0 : Int) then
      Option.map .inr (some v3)
    else
      some (.inl (w64 (n2 + (1 : Int))))
  else
    Option.map .inr (some (0 : Int))

noncomputable def cmp_Or_int_l1 (p0x0 : List Int) (n2 : Int) : Option Int :=
  iter (fun x : Int => cmp_Or_int_b1 p0x0 x) n2

noncomputable def cmp_Or_int (p0x0 : List Int) : Option Int :=
  cmp_Or_int_l1 p0x0 (0 : Int)

noncomputable def command_further (p0x0 : Note) (p1x0 : Note) : Option Int :=
  (command_rank p0x0.State).bind fun v3 =>
  (command_rank p1x0.State).bind fun v4 =>
  (cmp_Or_int [(cmp_Compare_int v3 v4), (cmp_Compare_int p0x0.Tries p1x0.Tries), (cmp_Compare_int p1x0.Since p0x0.Since), (cmp_Compare_int p1x0.State p0x0.State)]).bind fun v5 =>
  some v5

noncomputable def slices_Grow_Note_Note_n0x_j1 (l2 : List Note) : Option (List Note) :=
  some l2

noncomputable def slices_Grow_Note_Note_n0x (p1x0 : Int) : Option (List Note) :=
  if p1x0 < (0 : Int) then
    none
  else
    if (0 : Int) < (w64 (p1x0 - (w64 ((0 : Int) - (0 : Int))))) then
      (slc ([] : List Note) (0 : Int) (0 : Int)).bind fun l3 =>
      (mkS (⟨(⟨[], [], [], (0 : Int), (0 : Int), (0 : Int)⟩ : Letter), (0 : Int), (0 : Int), (0 : Int)⟩ : Note) (w64 (p1x0 - (w64 ((0 : Int) - (0 : Int))))) (w64 (p1x0 - (w64 ((0 : Int) - (0 : Int)))))).bind fun l4 =>
      (slc l4 (0 : Int) (0 : Int)).bind fun l6 =>
      slices_Grow_Note_Note_n0x_j1 l6
    else
      slices_Grow_Note_Note_n0x_j1 []

noncomputable def slices_Concat_Note_Note_b2 (p0x0 : List (List Note)) (l12 : List Note) (n13 : Int) : Option (((List Note) × Int) ⊕ (List Note)) :=
  if n13 < (p0x0.length : Int) then
    (idx p0x0 n13).bind fun v14 =>
    (app l12 v14).bind fun l15 =>
    some (.inl (l15, w64 (n13 + (1 : Int))))
  else
    Option.map .inr (some l12)

noncomputable def slices_Concat_Note_Note_l2 (p0x0 : List (List Note)) (l12 : List Note) (n13 : Int) : Option (List Note) :=
  iter (fun x : (List Note) × Int => slices_Concat_Note_Note_b2 p0x0 x.1 x.2) (l12, n13)

noncomputable def slices_Concat_Note_Note_k1 (p0x0 : List (List Note)) (n3 : Int) : Option (List Note) :=
  (slices_Grow_Note_Note_n0x n3).bind fun v6 =>
  slices_Concat_Note_Note_l2 p0x0 v6 (0 : Int)

noncomputable def slices_Concat_Note_Note_b1 (p0x0 : List (List Note)) (n3 : Int) (n4 : Int) : Option ((Int × Int) ⊕ (List Note)) :=
  if n4 < (p0x0.length : Int) then
    (idx p0x0 n4).bind fun v5 =>
    if (w64 (n3 + (v5.length : Int))) < (0 : Int) then
      none
    else
      some (.inl (w64 (n3 + (v5.length : Int)), w64 (n4 + (1 : Int))))
  else
    Option.map .inr (slices_Concat_Note_Note_k1 p0x0 n3)

noncomputable def slices_Concat_Note_Note_l1 (p0x0 : List (List Note)) (n3 : Int) (n4 : Int) : Option (List Note) :=
  iter (fun x : Int × Int => slices_Concat_Note_Note_b1 p0x0 x.1 x.2) (n3, n4)

noncomputable def slices_Concat_Note_Note (p0x0 : List (List Note)) : Option (List Note) :=
  slices_Concat_Note_Note_l1 p0x0 (0 : Int) (0 : Int)

noncomputable def command_Merge_j2 (l17 : List Note) (l18 : List Note) (l20 : List Note) : Option (((List Note) × (List Note) × (List Note)) ⊕ ((List Note) × Int)) :=
  some (.inl (l17, l18, l20))

noncomputable def command_Merge_j3 (l26 : List Note) (l27 : List Note) (l29 : List Note) : Option (((List Note) × (List Note) × (List Note)) ⊕ ((List Note) × Int)) :=
  command_Merge_j2 l26 l27 l29

noncomputable def command_Merge_j4 (l9 : List Note) (l10 : List Note) (l12 : List Note) (q42 : Str) (q43 : Str) (q44 : Str) (n45 : Int) (n46 : Int) (n47 : Int) (n48 : Int) (n49 : Int) (n50 : Int) : Option (((List Note) × (List Note) × (List Note)) ⊕ ((List Note) × Int)) :=
  (app l12 [(⟨(⟨q42, q43, q44, n45, n46, n47⟩ : Letter), n48, n49, n50⟩ : Note)]).bind fun l52 =>
  (slc l9 (1 : Int) (l9.length : Int)).bind fun l54 =>
  (slc l10 (1 : Int) (l10.length : Int)).bind fun l55 =>
  command_Merge_j3 l54 l55 l52

noncomputable def command_Merge_k5 (l9 : List Note) (l10 : List Note) (l12 : List Note) : Option ((List Note) × Int) :=
  (slices_Concat_Note_Note [l12, l9, l10]).bind fun v57 =>
  if (1500 : Int) < (v57.length : Int) then
    some ([], (2 : Int))
  else
    some (v57, (0 : Int))

noncomputable def command_Merge_j1 (l9 : List Note) (l10 : List Note) (l12 : List Note) (c14 : Bool) : Option (((List Note) × (List Note) × (List Note)) ⊕ ((List Note) × Int)) :=
  if c14 = true then
    (idx l9 (0 : Int)).bind fun v15 =>
    (idx l10 (0 : Int)).bind fun v16 =>
    if (Lib.compareBytes v15.Letter.Id v16.Letter.Id) < (0 : Int) then
      (idx l9 (0 : Int)).bind fun v21 =>
      (app l12 [v21]).bind fun l22 =>
      (slc l9 (1 : Int) (l9.length : Int)).bind fun l24 =>
      command_Merge_j2 l24 l10 l22
    else
      if (0 : Int) < (Lib.compareBytes v15.Letter.Id v16.Letter.Id) then
        (idx l10 (0 : Int)).bind fun v30 =>
        (app l12 [v30]).bind fun l31 =>
        (slc l10 (1 : Int) (l10.length : Int)).bind fun l33 =>
        command_Merge_j3 l9 l33 l31
      else
        (idx l9 (0 : Int)).bind fun v35 =>
        (idx l10 (0 : Int)).bind fun v36 =>
        if v35.Letter ≠ v36.Letter then
          Option.map .inr (some ([], (13 : Int)))
        else
          (idx l9 (0 : Int)).bind fun v38 =>
          (idx l10 (0 : Int)).bind fun v40 =>
          (command_further v40 v38).bind fun v41 =>
          if (0 : Int) < v41 then
            (idx l10 (0 : Int)).bind fun v51 =>
            command_Merge_j4 l9 l10 l12 v51.Letter.Id v51.Letter.Slot v51.Letter.Body v51.Letter.Prio v51.Letter.At v51.Letter.Until v51.State v51.Tries v51.Since
          else
            command_Merge_j4 l9 l10 l12 v38.Letter.Id v38.Letter.Slot v38.Letter.Body v38.Letter.Prio v38.Letter.At v38.Letter.Until v38.State v38.Tries v38.Since
  else
    Option.map .inr (command_Merge_k5 l9 l10 l12)

noncomputable def command_Merge_b1 (l9 : List Note) (l10 : List Note) (l12 : List Note) : Option (((List Note) × (List Note) × (List Note)) ⊕ ((List Note) × Int)) :=
  command_Merge_j1 l9 l10 l12 ((decide ((0 : Int) < (l9.length : Int))) && (decide ((0 : Int) < (l10.length : Int))))

noncomputable def command_Merge_l1 (l9 : List Note) (l10 : List Note) (l12 : List Note) : Option ((List Note) × Int) :=
  iter (fun x : (List Note) × (List Note) × (List Note) => command_Merge_b1 x.1 x.2.1 x.2.2) (l9, l10, l12)

noncomputable def command_Merge (p0x0 : List Note) (p1x0 : List Note) : Option ((List Note) × Int) :=
  (command_CheckNotes p0x0).bind fun v1 =>
  (command_CheckNotes p1x0).bind fun v2 =>
  (base_First [v1, v2]).bind fun v3 =>
  if v3 ≠ (0 : Int) then
    some ([], v3)
  else
    command_Merge_l1 p0x0 p1x0 []

noncomputable def Q_in_j1 (c1 : Bool) : Bool :=
  c1

noncomputable def Q_in (p0x0 : Int) (p1x0 : Int) (p2x0 : Int) : Bool :=
  Q_in_j1 ((decide (p1x0 ≤ p0x0)) && (decide (p0x0 ≤ p2x0)))

noncomputable def Q_only_b1 (p0x0 : Str) (p1x0 : Str) (n2 : Int) : Option (Int ⊕ Bool) :=
  if n2 < (p0x0.length : Int) then
    (idx p0x0 n2).bind fun c3 =>
    if (indexByteI p1x0 (c3.toNat : Int)) < (0 : Int) then
      Option.map .inr (some false)
    else
      some (.inl (w64 (n2 + (1 : Int))))
  else
    Option.map .inr (some true)

noncomputable def Q_only_l1 (p0x0 : Str) (p1x0 : Str) (n2 : Int) : Option Bool :=
  iter (fun x : Int => Q_only_b1 p0x0 p1x0 x) n2

noncomputable def Q_only (p0x0 : Str) (p1x0 : Str) : Option Bool :=
  Q_only_l1 p0x0 p1x0 (0 : Int)

noncomputable def Q_Key_j1 (c1 : Bool) : Option Bool :=
  some c1

noncomputable def Q_Key (p0x0 : Str) : Option Bool :=
  if (Q_in (p0x0.length : Int) (1 : Int) (40 : Int)) = true then
    (slc p0x0 (0 : Int) (1 : Int)).bind fun l2 =>
    (Q_only l2 ([97, 98, 99, 100, 101, 102, 103, 104, 105, 106, 107, 108, 109, 110, 111, 112, 113, 114, 115, 116, 117, 118, 119, 120, 121, 122] : Str)).bind fun v3 =>
    if v3 = true then
      (Q_only p0x0 ([97, 98, 99, 100, 101, 102, 103, 104, 105, 106, 107, 108, 109, 110, 111, 112, 113, 114, 115, 116, 117, 118, 119, 120, 121, 122, 48, 49, 50, 51, 52, 53, 54, 55, 56, 57, 45, 95] : Str)).bind fun v4 =>
      Q_Key_j1 v4
    else
      Q_Key_j1 false
  else
    Q_Key_j1 false

noncomputable def Q_Printed_1x_j1 (c1 : Bool) : Bool :=
  c1

noncomputable def Q_Printed_1x (p0x0 : Int) : Bool :=
  Q_Printed_1x_j1 ((decide (p0x0 < (32 : Int))) || (decide (p0x0 = (127 : Int))))

noncomputable def Q_Printed_j1 (c1 : Bool) : Option Bool :=
  some c1

noncomputable def Q_Printed (p0x0 : Str) : Option Bool :=
  (validO p0x0).bind fun v2 =>
  if v2 = true then
    (containsF p0x0 (fun y0 => some (Q_Printed_1x y0))).bind fun v3 =>
    Q_Printed_j1 (!v3)
  else
    Q_Printed_j1 false

noncomputable def Q_Moment (p0x0 : Int) : Bool :=
  (Q_in p0x0 (0 : Int) (345686399999 : Int))

noncomputable def Q_LetterFault_j2 (c6 : Bool) : Option Int :=
  if c6 = true then
    some (1 : Int)
  else
    some (0 : Int)

noncomputable def Q_LetterFault_j1 (p0x0 : Letter) (c2 : Bool) : Option Int :=
  if c2 = true then
    some (5 : Int)
  else
    if (1000 : Int) < (p0x0.Body.length : Int) then
      some (2 : Int)
    else
      (Q_Printed p0x0.Body).bind fun v5 =>
      if (!v5) = true then
        some (3 : Int)
      else
        Q_LetterFault_j2 ((!(Q_in p0x0.Prio (0 : Int) (9 : Int))) || ((!(Q_Moment p0x0.At)) || ((decide (p0x0.Until ≤ p0x0.At)) || (decide ((345686400000 : Int) < p0x0.Until)))))

noncomputable def Q_LetterFault (p0x0 : Letter) : Option Int :=
  (Q_Key p0x0.Id).bind fun v3 =>
  if (!v3) = true then
    Q_LetterFault_j1 p0x0 true
  else
    if p0x0.Slot ≠ ([] : Str) then
      (Q_Key p0x0.Slot).bind fun v4 =>
      Q_LetterFault_j1 p0x0 (!v4)
    else
      Q_LetterFault_j1 p0x0 false

noncomputable def Q_NotesFault_j1 (q3 : Str) (n4 : Int) (v5 : Note) (c8 : Bool) : Option ((Str × Int) ⊕ Int) :=
  if c8 = true then
    Option.map .inr (some (1 : Int))
  else
    if (Op.bytesLess v5.Letter.Id q3 || v5.Letter.Id == q3) = true then
      Option.map .inr (some (7 : Int))
    else
      some (.inl (v5.Letter.Id, w64 (n4 + (1 : Int))))

noncomputable def Q_NotesFault_b1 (p0x0 : List Note) (q3 : Str) (n4 : Int) : Option ((Str × Int) ⊕ Int) :=
  if n4 < (p0x0.length : Int) then
    (idx p0x0 n4).bind fun v5 =>
    (Q_LetterFault v5.Letter).bind fun v7 =>
    if v7 ≠ (0 : Int) then
      Option.map .inr (some v7)
    else
      if (!(Q_in v5.State (1 : Int) (7 : Int))) = true then
        Option.map .inr (some (4 : Int))
      else
        Q_NotesFault_j1 q3 n4 v5 ((!(Q_in v5.Tries (0 : Int) (20 : Int))) || (!(Q_Moment v5.Since)))
  else
    Option.map .inr (some (0 : Int))

noncomputable def Q_NotesFault_l1 (p0x0 : List Note) (q3 : Str) (n4 : Int) : Option Int :=
  iter (fun x : Str × Int => Q_NotesFault_b1 p0x0 x.1 x.2) (q3, n4)

noncomputable def Q_NotesFault (p0x0 : List Note) : Option Int :=
  if (1500 : Int) < (p0x0.length : Int) then
    some (2 : Int)
  else
    Q_NotesFault_l1 p0x0 ([] : Str) (0 : Int)

noncomputable def L_errs_b1 (p0x0 : List Int) (n2 : Int) : Option (Int ⊕ Int) :=
  if n2 < (p0x0.length : Int) then
    (idx p0x0 n2).bind fun v3 =>
    if v3 ≠ (0 : Int) then
      Option.map .inr (some v3)
    else
      some (.inl (w64 (n2 + (1 : Int))))
  else
    Option.map .inr (some (0 : Int))

noncomputable def L_errs_l1 (p0x0 : List Int) (n2 : Int) : Option Int :=
  iter (fun x : Int => L_errs_b1 p0x0 x) n2

noncomputable def L_errs (p0x0 : List Int) : Option Int :=
  L_errs_l1 p0x0 (0 : Int)

noncomputable def Q_NotesOf_1x (p0x0 : Note) (p1x0 : Note) : Bool :=
  decide (p0x0.Letter.Id = p1x0.Letter.Id)

noncomputable def slices_IndexFunc_Note_Note_b1 (p0x0 : List Note) (fnb : Note → Option Bool) (n2 : Int) : Option (Int ⊕ Int) :=
  if n2 < (p0x0.length : Int) then
    (idx p0x0 n2).bind fun v3 =>
    (fnb v3).bind fun v4 =>
    if v4 = true then
      Option.map .inr (some n2)
    else
      some (.inl (w64 (n2 + (1 : Int))))
  else
    Option.map .inr (some (-1 : Int))

noncomputable def slices_IndexFunc_Note_Note_l1 (p0x0 : List Note) (fnb : Note → Option Bool) (n2 : Int) : Option Int :=
  iter (fun x : Int => slices_IndexFunc_Note_Note_b1 p0x0 fnb x) n2

noncomputable def slices_IndexFunc_Note_Note (p0x0 : List Note) (fnb : Note → Option Bool) : Option Int :=
  slices_IndexFunc_Note_Note_l1 p0x0 fnb (0 : Int)

noncomputable def Q_gone (p0x0 : Note) : Option (List Int) :=
  (mgetO (mset (mset (mset (mset (mset ([] : List (Int × Int)) (3 : Int) (5 : Int)) (4 : Int) (4 : Int)) (7 : Int) (3 : Int)) (5 : Int) (2 : Int)) (6 : Int) (1 : Int)) p0x0.State (0 : Int)).bind fun v3 =>
  some [v3, p0x0.Tries, w64 (-p0x0.Since), w64 (-p0x0.State)]

noncomputable def slices_Compare_int_int_k1 (p0x0 : List Int) (p1x0 : List Int) : Option Int :=
  if (p0x0.length : Int) < (p1x0.length : Int) then
    some (-1 : Int)
  else
    some (0 : Int)

noncomputable def slices_Compare_int_int_b1 (p0x0 : List Int) (p1x0 : List Int) (n2 : Int) : Option (Int ⊕ Int) :=
  if n2 < (p0x0.length : Int) then
    (idx p0x0 n2).bind fun v3 =>
    if (p1x0.length : Int) ≤ n2 then
      Option.map .inr (some (1 : Int))
    else
      (idx p1x0 n2).bind fun v4 =>
      if (cmp_Compare_int v3 v4) ≠ (0 : Int) then
        Option.map .inr (some (cmp_Compare_int v3 v4))
      else
        some (.inl (w64 (n2 + (1 : Int))))
  else
    Option.map .inr (slices_Compare_int_int_k1 p0x0 p1x0)

noncomputable def slices_Compare_int_int_l1 (p0x0 : List Int) (p1x0 : List Int) (n2 : Int) : Option Int :=
  iter (fun x : Int => slices_Compare_int_int_b1 p0x0 p1x0 x) n2

noncomputable def slices_Compare_int_int (p0x0 : List Int) (p1x0 : List Int) : Option Int :=
  slices_Compare_int_int_l1 p0x0 p1x0 (0 : Int)

noncomputable def Q_NotesOf_2x (p0x0 : Note) (p1x0 : Note) : Int :=
  (Lib.compareBytes p0x0.Letter.Id p1x0.Letter.Id)

/-- Sorted by Go. -/
noncomputable def slices_SortFunc_Note_Note (p0x0 : List Note) (fnb : Note → Note → Option Int) : Option (List Note) :=
  sortO fnb p0x0

noncomputable def Q_NotesOf_j1 (n8 : Int) (l13 : List Note) : Option (((List Note) × Int) ⊕ ((List Note) × Int)) :=
  some (.inl (l13, w64 (n8 + (1 : Int))))

noncomputable def Q_NotesOf_j2 (n8 : Int) (l24 : List Note) : Option (((List Note) × Int) ⊕ ((List Note) × Int)) :=
  Q_NotesOf_j1 n8 l24

noncomputable def Q_NotesOf_k3 (l7 : List Note) : Option ((List Note) × Int) :=
  (lenOk l7.length (fun r : (List Note) => r.length) (slices_SortFunc_Note_Note l7 (fun y0 y1 => some (Q_NotesOf_2x y0 y1)))).bind fun v26 =>
  if (1500 : Int) < (v26.length : Int) then
    some ([], (2 : Int))
  else
    some (v26, (0 : Int))

noncomputable def Q_NotesOf_b1 (p1x0 : List Note) (l7 : List Note) (n8 : Int) : Option (((List Note) × Int) ⊕ ((List Note) × Int)) :=
  if n8 < (p1x0.length : Int) then
    (idx p1x0 n8).bind fun v9 =>
    (slices_IndexFunc_Note_Note l7 (fun y0 => some (Q_NotesOf_1x y0 v9))).bind fun v11 =>
    if v11 < (0 : Int) then
      (app l7 [v9]).bind fun l14 =>
      Q_NotesOf_j1 n8 l14
    else
      (idx l7 v11).bind fun v16 =>
      if v16.Letter ≠ v9.Letter then
        Option.map .inr (some ([], (13 : Int)))
      else
        (Q_gone v9).bind fun v18 =>
        (idx l7 v11).bind fun v20 =>
        (Q_gone v20).bind fun v21 =>
        (slices_Compare_int_int v18 v21).bind fun v23 =>
        if (0 : Int) < v23 then
          (idx l7 v11).bind fun v25 =>
          Q_NotesOf_j2 n8 (l7.set v11.toNat v9)
        else
          Q_NotesOf_j2 n8 l7
  else
    Option.map .inr (Q_NotesOf_k3 l7)

noncomputable def Q_NotesOf_l1 (p1x0 : List Note) (l7 : List Note) (n8 : Int) : Option ((List Note) × Int) :=
  iter (fun x : (List Note) × Int => Q_NotesOf_b1 p1x0 x.1 x.2) (l7, n8)

noncomputable def Q_NotesOf (p0x0 : List Note) (p1x0 : List Note) : Option ((List Note) × Int) :=
  (slices_Clone_Note_Note p0x0).bind fun v1 =>
  Q_NotesOf_l1 p1x0 v1 (0 : Int)

noncomputable def slices_Equal_Note_Note_b1 (p0x0 : List Note) (p1x0 : List Note) (n2 : Int) : Option (Int ⊕ Bool) :=
  if n2 < (p0x0.length : Int) then
    (idx p0x0 n2).bind fun v3 =>
    (idx p1x0 n2).bind fun v4 =>
    if v3 ≠ v4 then
      Option.map .inr (some false)
    else
      some (.inl (w64 (n2 + (1 : Int))))
  else
    Option.map .inr (some true)

noncomputable def slices_Equal_Note_Note_l1 (p0x0 : List Note) (p1x0 : List Note) (n2 : Int) : Option Bool :=
  iter (fun x : Int => slices_Equal_Note_Note_b1 p0x0 p1x0 x) n2

noncomputable def slices_Equal_Note_Note (p0x0 : List Note) (p1x0 : List Note) : Option Bool :=
  if (p0x0.length : Int) ≠ (p1x0.length : Int) then
    some false
  else
    slices_Equal_Note_Note_l1 p0x0 p1x0 (0 : Int)

noncomputable def command_CheckPost_j1 (c2 : Bool) : Int :=
  if c2 = true then
    (1 : Int)
  else
    (0 : Int)

noncomputable def command_CheckPost (p0x0 : Post) : Int :=
  command_CheckPost_j1 ((base_Out p0x0.Room (1 : Int) (500 : Int)) || ((base_Out p0x0.Timeout (1 : Int) (86400000 : Int)) || ((base_Out p0x0.Tries (1 : Int) (20 : Int)) || (base_Out p0x0.Kept (0 : Int) (1000 : Int)))))

noncomputable def command_New (p0x0 : Post) : (Option Command_Office) × Int :=
  if (command_CheckPost p0x0) ≠ (0 : Int) then
    (none, (command_CheckPost p0x0))
  else
    (some (⟨p0x0, [], (0 : Int)⟩ : Command_Office), (0 : Int))

noncomputable def command_Office_timeFault (p0x0 : Command_Office) (p1x0 : Int) : Int :=
  if (!(base_Moment p1x0)) = true then
    (1 : Int)
  else
    if p1x0 < p0x0.time_ then
      (7 : Int)
    else
      (0 : Int)

noncomputable def command_ended (p0x0 : Int) : Bool :=
  decide ((3 : Int) ≤ p0x0)

noncomputable def command_Office_turn (p0x0 : Command_Office) (p1x0 : Note) : Int :=
  if p1x0.State = (2 : Int) then
    min p1x0.Letter.Until (w64 (p1x0.Since + p0x0.post_.Timeout))
  else
    p1x0.Letter.Until

noncomputable def command_Office_grown_j1 (p1x0 : Note) (n3 : Int) (n4 : Int) : Option Note :=
  some (⟨p1x0.Letter, n3, p1x0.Tries, n4⟩ : Note)

noncomputable def command_Office_grown_j2 (p0x0 : Command_Office) (p1x0 : Note) (n7 : Int) (n8 : Int) (n9 : Int) : Option ((Int × Int) ⊕ Note) :=
  some (.inl (n9, (command_Office_turn p0x0 (⟨p1x0.Letter, n7, p1x0.Tries, n8⟩ : Note))))

noncomputable def command_Office_grown_j3 (p0x0 : Command_Office) (p1x0 : Note) (n7 : Int) (n8 : Int) (n10 : Int) : Option ((Int × Int) ⊕ Note) :=
  command_Office_grown_j2 p0x0 p1x0 n7 n8 n10

noncomputable def command_Office_grown_b1 (p0x0 : Command_Office) (p1x0 : Note) (p2x0 : Int) (n7 : Int) (n8 : Int) : Option ((Int × Int) ⊕ Note) :=
  if (!(command_ended n7)) = true then
    if p2x0 < (command_Office_turn p0x0 (⟨p1x0.Letter, n7, p1x0.Tries, n8⟩ : Note)) then
      Option.map .inr (command_Office_grown_j1 p1x0 n7 n8)
    else
      if (command_Office_turn p0x0 (⟨p1x0.Letter, n7, p1x0.Tries, n8⟩ : Note)) = p1x0.Letter.Until then
        command_Office_grown_j2 p0x0 p1x0 n7 n8 (5 : Int)
      else
        if p1x0.Tries = p0x0.post_.Tries then
          command_Office_grown_j3 p0x0 p1x0 n7 n8 (7 : Int)
        else
          command_Office_grown_j3 p0x0 p1x0 n7 n8 (1 : Int)
  else
    Option.map .inr (command_Office_grown_j1 p1x0 n7 n8)

noncomputable def command_Office_grown_l1 (p0x0 : Command_Office) (p1x0 : Note) (p2x0 : Int) (n7 : Int) (n8 : Int) : Option Note :=
  iter (fun x : Int × Int => command_Office_grown_b1 p0x0 p1x0 p2x0 x.1 x.2) (n7, n8)

noncomputable def command_Office_grown (p0x0 : Command_Office) (p1x0 : Note) (p2x0 : Int) : Option Note :=
  command_Office_grown_l1 p0x0 p1x0 p2x0 p1x0.State p1x0.Since

noncomputable def command_Office_aged_1x (p0x0 : Note) (p1x0 : Note) : Option Int :=
  (cmp_Or_int [(cmp_Compare_int p0x0.Since p1x0.Since), (Lib.compareBytes p0x0.Letter.Id p1x0.Letter.Id)]).bind fun v3 =>
  some v3

noncomputable def command_Office_aged_j1 (l6 : List (Str × Note)) (v1m : Str × Note) (v19 : Note) (l21 : List Note) : Option (((List (Str × Note)) × (List Note)) ⊕ (List (Str × Note))) :=
  some (.inl (mset l6 v1m.1 v19, l21))

noncomputable def command_Office_aged_b1 (p0x0 : Command_Office) (p1x0 : Int) (v1m : Str × Note) (l6 : List (Str × Note)) (l8 : List Note) : Option (((List (Str × Note)) × (List Note)) ⊕ (List (Str × Note))) :=
  (command_Office_grown p0x0 v1m.2 p1x0).bind fun v19 =>
  if (command_ended v19.State) = true then
    (app l8 [v19]).bind fun l22 =>
    command_Office_aged_j1 l6 v1m v19 l22
  else
    command_Office_aged_j1 l6 v1m v19 l8

noncomputable def command_Office_aged_b2 (v10 : (List Note)) (l11 : List Note) (l14 : List (Str × Note)) (n15 : Int) : Option (((List (Str × Note)) × Int) ⊕ (List (Str × Note))) :=
  if n15 < (l11.length : Int) then
    (idxS v10 (0 : Int) l11.length n15).bind fun v16 =>
    some (.inl (mdel l14 v16.Letter.Id, w64 (n15 + (1 : Int))))
  else
    Option.map .inr (some l14)

noncomputable def command_Office_aged_l2 (v10 : (List Note)) (l11 : List Note) (l14 : List (Str × Note)) (n15 : Int) : Option (List (Str × Note)) :=
  iter (fun x : (List (Str × Note)) × Int => command_Office_aged_b2 v10 l11 x.1 x.2) (l14, n15)

noncomputable def command_Office_aged_f1 (p0x0 : Command_Office) (l6 : List (Str × Note)) (l8 : List Note) : Option (List (Str × Note)) :=
  (lenOk l8.length (fun r : (List Note) => r.length) (slices_SortFunc_Note_Note l8 (fun y0 y1 => command_Office_aged_1x y0 y1))).bind fun v10 =>
  (slc v10 (0 : Int) (max (0 : Int) (w64 ((v10.length : Int) - p0x0.post_.Kept)))).bind fun l11 =>
  command_Office_aged_l2 v10 l11 l6 (0 : Int)

noncomputable def command_Office_aged_l1 (p0x0 : Command_Office) (p1x0 : Int) (l6 : List (Str × Note)) (l8 : List Note) : Option (List (Str × Note)) :=
  overP p0x0.notes_ (fun p => loopL (fun e (x : (List (Str × Note)) × (List Note)) => command_Office_aged_b1 p0x0 p1x0 e x.1 x.2) (fun x : (List (Str × Note)) × (List Note) => command_Office_aged_f1 p0x0 x.1 x.2) p (l6, l8))

noncomputable def command_Office_aged (p0x0 : Command_Office) (p1x0 : Int) : Option (List (Str × Note)) :=
  command_Office_aged_l1 p0x0 p1x0 [] []

noncomputable def command_pending_j1 (n5 : Int) : Option (Int ⊕ Int) :=
  some (.inl n5)

noncomputable def command_pending_b1 (v1m : Str × Note) (n3 : Int) : Option (Int ⊕ Int) :=
  if (!(command_ended v1m.2.State)) = true then
    command_pending_j1 (w64 (n3 + (1 : Int)))
  else
    command_pending_j1 n3

noncomputable def command_pending_f1 (n3 : Int) : Option Int :=
  some n3

noncomputable def command_pending_l1 (p0x0 : List (Str × Note)) (n3 : Int) : Option Int :=
  overP p0x0 (fun p => loopL (fun e (x : Int) => command_pending_b1 e x) (fun x : Int => command_pending_f1 x) p n3)

noncomputable def command_pending (p0x0 : List (Str × Note)) : Option Int :=
  command_pending_l1 p0x0 (0 : Int)

noncomputable def command_Office_keep (p0x0 : Command_Office) (p1x0 : List (Str × Note)) (p2x0 : Int) : Command_Office :=
  (⟨p0x0.post_, p1x0, p2x0⟩ : Command_Office)

noncomputable def command_Office_Put_j4 (q19 : Str) : Option (Str ⊕ (Int × Command_Office)) :=
  some (.inl q19)

noncomputable def command_Office_Put_j3 (q10 : Str) (v1m : Str × Note) (c18 : Bool) : Option (Str ⊕ (Int × Command_Office)) :=
  if c18 = true then
    command_Office_Put_j4 v1m.1
  else
    command_Office_Put_j4 q10

noncomputable def command_Office_Put_b1 (p1x0 : Letter) (v1m : Str × Note) (q10 : Str) : Option (Str ⊕ (Int × Command_Office)) :=
  command_Office_Put_j3 q10 v1m ((decide (p1x0.Slot ≠ ([] : Str))) && ((decide (v1m.2.Letter.Slot = p1x0.Slot)) && ((decide (v1m.2.State = (1 : Int))) && (decide (v1m.2.Tries = (0 : Int))))))

noncomputable def command_Office_Put_j2 (p0x0 : Command_Office) (p1x0 : Letter) (l13 : List (Str × Note)) : Option (Int × Command_Office) :=
  some ((0 : Int), (command_Office_keep p0x0 (mset l13 p1x0.Id (⟨p1x0, (1 : Int), (0 : Int), p1x0.At⟩ : Note)) p1x0.At))

noncomputable def command_Office_Put_j1 (p0x0 : Command_Office) (p1x0 : Letter) (v4 : (List (Str × Note))) (q10 : Str) (n11 : Int) : Option (Int × Command_Office) :=
  (command_pending v4).bind fun v12 =>
  if n11 ≤ v12 then
    some ((12 : Int), p0x0)
  else
    if q10 ≠ ([] : Str) then
      (mgetO v4 q10 (⟨(⟨[], [], [], (0 : Int), (0 : Int), (0 : Int)⟩ : Letter), (0 : Int), (0 : Int), (0 : Int)⟩ : Note)).bind fun v14 =>
      command_Office_Put_j2 p0x0 p1x0 (mset v4 q10 (⟨v14.Letter, (6 : Int), v14.Tries, p1x0.At⟩ : Note))
    else
      command_Office_Put_j2 p0x0 p1x0 v4

noncomputable def command_Office_Put_f1 (p0x0 : Command_Office) (p1x0 : Letter) (v4 : (List (Str × Note))) (q10 : Str) : Option (Int × Command_Office) :=
  if q10 ≠ ([] : Str) then
    command_Office_Put_j1 p0x0 p1x0 v4 q10 (w64 (p0x0.post_.Room + (1 : Int)))
  else
    command_Office_Put_j1 p0x0 p1x0 v4 q10 p0x0.post_.Room

noncomputable def command_Office_Put_l1 (p0x0 : Command_Office) (p1x0 : Letter) (v4 : (List (Str × Note))) (q10 : Str) : Option (Int × Command_Office) :=
  overP v4 (fun p => loopL (fun e (x : Str) => command_Office_Put_b1 p1x0 e x) (fun x : Str => command_Office_Put_f1 p0x0 p1x0 v4 x) p q10)

noncomputable def command_Office_Put (p0x0 : Command_Office) (p1x0 : Letter) : Option (Int × Command_Office) :=
  (command_CheckLetter p1x0).bind fun v2 =>
  (base_First [v2, (command_Office_timeFault p0x0 p1x0.At)]).bind fun v3 =>
  if v3 ≠ (0 : Int) then
    some (v3, p0x0)
  else
    (command_Office_aged p0x0 p1x0.At).bind fun v4 =>
    (mget2 v4 p1x0.Id (⟨(⟨[], [], [], (0 : Int), (0 : Int), (0 : Int)⟩ : Letter), (0 : Int), (0 : Int), (0 : Int)⟩ : Note)).bind fun v6 =>
    if v6.2 = true then
      some ((6 : Int), p0x0)
    else
      command_Office_Put_l1 p0x0 p1x0 v4 ([] : Str)

noncomputable def command_Office_Waiting (p0x0 : Command_Office) (p1x0 : Int) : Option (Int × Int × Command_Office) :=
  if (command_Office_timeFault p0x0 p1x0) ≠ (0 : Int) then
    some ((0 : Int), (command_Office_timeFault p0x0 p1x0), p0x0)
  else
    (command_Office_aged p0x0 p1x0).bind fun v1 =>
    (command_pending ((command_Office_keep p0x0 v1 p1x0).notes_)).bind fun v4 =>
    some (v4, (0 : Int), (command_Office_keep p0x0 v1 p1x0))

noncomputable def L_posted_j1 : Option Bool :=
  some false

noncomputable def L_posted_j3 (c16 : Bool) : Option Bool :=
  some c16

noncomputable def L_posted_j2 (n4 : Int) (n5 : Int) (n6 : Int) (n7 : Int) (l9 : List (Str × Note)) (n10 : Int) (c11 : Bool) : Option Bool :=
  if c11 = true then
    some false
  else
    (command_Office_Waiting (⟨(⟨n4, n5, n6, n7⟩ : Post), l9, n10⟩ : Command_Office) (0 : Int)).bind fun v14 =>
    L_posted_j3 ((decide (v14.2.1 = (0 : Int))) && (decide (v14.1 = (1 : Int))))

noncomputable def L_posted : Option Bool :=
  casesO ((command_New (⟨(1 : Int), (1 : Int), (1 : Int), (0 : Int)⟩ : Post)).1) (
    if ((command_New (⟨(1 : Int), (1 : Int), (1 : Int), (0 : Int)⟩ : Post)).2) ≠ (0 : Int) then
      L_posted_j1
    else
      L_posted_j1) (fun x1 =>
    if ((command_New (⟨(1 : Int), (1 : Int), (1 : Int), (0 : Int)⟩ : Post)).2) ≠ (0 : Int) then
      L_posted_j2 x1.post_.Room x1.post_.Timeout x1.post_.Tries x1.post_.Kept x1.notes_ x1.time_ true
    else
      (command_Office_Put x1 (⟨([97] : Str), [], [], (0 : Int), (0 : Int), (5 : Int)⟩ : Letter)).bind fun v12 =>
      L_posted_j2 v12.2.post_.Room v12.2.post_.Timeout v12.2.post_.Tries v12.2.post_.Kept v12.2.notes_ v12.2.time_ (decide (v12.1 ≠ (0 : Int))))

noncomputable def L_NotesMerge_j3 (c37 : Bool) : Option Bool :=
  some c37

noncomputable def L_NotesMerge_j2 (v25 : (List Note) × Int) (n31 : Int) (l33 : List Note) : Option Bool :=
  if v25.2 = n31 then
    (slices_Equal_Note_Note v25.1 l33).bind fun v38 =>
    if v38 = true then
      (L_posted).bind fun v39 =>
      L_NotesMerge_j3 v39
    else
      L_NotesMerge_j3 false
  else
    L_NotesMerge_j3 false

noncomputable def L_NotesMerge_j1 (v2 : (List Note) × Fleetmake_Stream) (l8 : List Note) : Option Bool :=
  (command_Merge v2.1 l8).bind fun v25 =>
  (Q_NotesFault v2.1).bind fun v27 =>
  (command_CheckNotes v2.1).bind fun v28 =>
  if v28 ≠ v27 then
    some false
  else
    (Q_NotesFault l8).bind fun v29 =>
    (L_errs [v27, v29]).bind fun v30 =>
    if v30 = (0 : Int) then
      (Q_NotesOf v2.1 l8).bind fun v34 =>
      L_NotesMerge_j2 v25 v34.2 v34.1
    else
      L_NotesMerge_j2 v25 v30 []

noncomputable def L_NotesMerge_b1 (v2 : (List Note) × Fleetmake_Stream) (v9 : (List Note)) (l15 : List Int) (n16 : Int) (l17 : List Note) (n18 : Int) : Option (((List Int) × Int × (List Note) × Int) ⊕ Bool) :=
  if n18 < (v9.length : Int) then
    (Stream_Range (⟨l15, n16⟩ : Fleetmake_Stream) (1 : Int) (7 : Int)).bind fun v19 =>
    (Stream_Pick v19.2 [(0 : Int), (1 : Int), (2 : Int)]).bind fun v20 =>
    (Stream_Pick v20.2 [(0 : Int), (5 : Int), (9 : Int)]).bind fun v21 =>
    (idx l17 n18).bind fun v22 =>
    (idx (l17.set n18.toNat (⟨v22.Letter, v19.1, v22.Tries, v22.Since⟩ : Note)) n18).bind fun v23 =>
    (idx ((l17.set n18.toNat (⟨v22.Letter, v19.1, v22.Tries, v22.Since⟩ : Note)).set n18.toNat (⟨v23.Letter, v23.State, v20.1, v23.Since⟩ : Note)) n18).bind fun v24 =>
    some (.inl (v21.2.L, v21.2.at_, ((l17.set n18.toNat (⟨v22.Letter, v19.1, v22.Tries, v22.Since⟩ : Note)).set n18.toNat (⟨v23.Letter, v23.State, v20.1, v23.Since⟩ : Note)).set n18.toNat (⟨v24.Letter, v24.State, v24.Tries, v21.1⟩ : Note), w64 (n18 + (1 : Int))))
  else
    Option.map .inr (L_NotesMerge_j1 v2 l17)

noncomputable def L_NotesMerge_l1 (v2 : (List Note) × Fleetmake_Stream) (v9 : (List Note)) (l15 : List Int) (n16 : Int) (l17 : List Note) (n18 : Int) : Option Bool :=
  iter (fun x : (List Int) × Int × (List Note) × Int => L_NotesMerge_b1 v2 v9 x.1 x.2.1 x.2.2.1 x.2.2.2) (l15, n16, l17, n18)

noncomputable def L_NotesMerge (p0x0 : List Int) : Option Bool :=
  (Stream_Notes (⟨p0x0, (0 : Int)⟩ : Fleetmake_Stream)).bind fun v2 =>
  (Stream_Notes v2.2).bind fun v4 =>
  (Stream_Flip v4.2 (2 : Int)).bind fun v6 =>
  if v6.1 = true then
    (slices_Clone_Note_Note v2.1).bind fun v9 =>
    L_NotesMerge_l1 v2 v9 v6.2.L v6.2.at_ v9 (0 : Int)
  else
    L_NotesMerge_j1 v2 v4.1

end Go.Beacon
