/- Plain functions that the Go functions compute, written by shal.py. -/
import Derived.Test.YtibjdfdmkahocaaGreatDoorCore
set_option linter.unusedVariables false
namespace Go.Beacon
open Go Go.Eng
structure Fleetmake_Stream where
  L : List Int
  at_ : Int
deriving DecidableEq, Inhabited
def Fleetmake_Stream.av (x : Fleetmake_Stream) : AV := .agg [.list 1 (x.L.map I), I x.at_]

structure Post where
  Room : Int
  Timeout : Int
  Tries : Int
  Kept : Int
deriving DecidableEq, Inhabited
def Post.av (x : Post) : AV := .agg [I x.Room, I x.Timeout, I x.Tries, I x.Kept]

structure Letter where
  Id : Str
  Slot : Str
  Body : Str
  Prio : Int
  At : Int
  Until : Int
deriving DecidableEq, Inhabited
def Letter.av (x : Letter) : AV := .agg [.str x.Id, .str x.Slot, .str x.Body, I x.Prio, I x.At, I x.Until]

structure Note where
  Letter : Letter
  State : Int
  Tries : Int
  Since : Int
deriving DecidableEq, Inhabited
def Note.av (x : Note) : AV := .agg [.str x.Letter.Id, .str x.Letter.Slot, .str x.Letter.Body, I x.Letter.Prio, I x.Letter.At, I x.Letter.Until, I x.State, I x.Tries, I x.Since]

structure Command_Office where
  post_ : Post
  notes_ : List (Str × Note)
  time_ : Int
deriving DecidableEq, Inhabited

structure Fleetref2_Desk where
  P : Post
  L : List Note
  time_ : Int
deriving DecidableEq, Inhabited
def Fleetref2_Desk.av (x : Fleetref2_Desk) : AV := .agg [I x.P.Room, I x.P.Timeout, I x.P.Tries, I x.P.Kept, .list 9 (x.L.map Note.av), I x.time_]

noncomputable def Below_j1 (n2 : Int) : Option Int :=
  some n2

noncomputable def Below (p0x0 : Int) (p1x0 : Int) : Option Int :=
  if p1x0 < (1 : Int) then
    some (0 : Int)
  else
    (rem p0x0 p1x0).bind fun n1 =>
    if n1 < (0 : Int) then
      Below_j1 (w64 (n1 + p1x0))
    else
      Below_j1 n1

noncomputable def Stream_Next (p0x0 : Fleetmake_Stream) (p1x0 : Int) : Option (Int × Fleetmake_Stream) :=
  if (p0x0.L.length : Int) = (0 : Int) then
    (Below (w64 ((w64 (p0x0.at_ + (1 : Int))) * (7919 : Int))) p1x0).bind fun v1 =>
    some (v1, (⟨p0x0.L, w64 (p0x0.at_ + (1 : Int))⟩ : Fleetmake_Stream))
  else
    (rem (w64 ((w64 (p0x0.at_ + (1 : Int))) - (1 : Int))) (p0x0.L.length : Int)).bind fun n2 =>
    (quo (w64 ((w64 (p0x0.at_ + (1 : Int))) - (1 : Int))) (p0x0.L.length : Int)).bind fun n3 =>
    (idx p0x0.L n2).bind fun v4 =>
    (Below v4 (1073741824 : Int)).bind fun v5 =>
    (Below (w64 (v5 + (w64 (n3 * (w64 ((7919 : Int) + n2)))))) p1x0).bind fun v6 =>
    some (v6, (⟨p0x0.L, w64 (p0x0.at_ + (1 : Int))⟩ : Fleetmake_Stream))

noncomputable def Stream_Pick (p0x0 : Fleetmake_Stream) (p1x0 : List Int) : Option (Int × Fleetmake_Stream) :=
  (Stream_Next p0x0 (p1x0.length : Int)).bind fun v1 =>
  (idx p1x0 v1.1).bind fun v2 =>
  some (v2, v1.2)

noncomputable def Stream_RightPost (p0x0 : Fleetmake_Stream) : Option (Post × Fleetmake_Stream) :=
  (Stream_Pick p0x0 [(1 : Int), (2 : Int), (3 : Int), (5 : Int)]).bind fun v2 =>
  (Stream_Pick v2.2 [(1 : Int), (5 : Int), (10 : Int)]).bind fun v3 =>
  (Stream_Pick v3.2 [(1 : Int), (2 : Int), (3 : Int)]).bind fun v4 =>
  (Stream_Pick v4.2 [(0 : Int), (1 : Int), (2 : Int), (10 : Int)]).bind fun v5 =>
  some ((⟨v2.1, v3.1, v4.1, v5.1⟩ : Post), v5.2)

noncomputable def Stream_Flip (p0x0 : Fleetmake_Stream) (p1x0 : Int) : Option (Bool × Fleetmake_Stream) :=
  (Stream_Next p0x0 p1x0).bind fun v1 =>
  some (decide (v1.1 = (0 : Int)), v1.2)

noncomputable def Stream_Range (p0x0 : Fleetmake_Stream) (p1x0 : Int) (p2x0 : Int) : Option (Int × Fleetmake_Stream) :=
  if p2x0 < p1x0 then
    some (p1x0, p0x0)
  else
    (Stream_Next p0x0 (w64 ((w64 (p2x0 - p1x0)) + (1 : Int)))).bind fun v1 =>
    some (w64 (p1x0 + v1.1), v1.2)

noncomputable def Stream_Odd (p0x0 : Fleetmake_Stream) (p1x0 : Int) (p2x0 : Int) : Option (Int × Fleetmake_Stream) :=
  (Stream_Flip p0x0 (12 : Int)).bind fun v1 =>
  if v1.1 = true then
    (Stream_Pick v1.2 [w64 (p1x0 - (1 : Int)), w64 (p2x0 + (1 : Int)), p1x0, p2x0, (-1099511627776 : Int), (1099511627776 : Int)]).bind fun v2 =>
    some (v2.1, v2.2)
  else
    (Stream_Range v1.2 p1x0 p2x0).bind fun v3 =>
    some (v3.1, v3.2)

noncomputable def Stream_Post_j1 (l5 : List Int) (n6 : Int) (n7 : Int) (n8 : Int) (n9 : Int) (n10 : Int) : Option (Post × Fleetmake_Stream) :=
  some ((⟨n7, n8, n9, n10⟩ : Post), (⟨l5, n6⟩ : Fleetmake_Stream))

noncomputable def Stream_Post (p0x0 : Fleetmake_Stream) : Option (Post × Fleetmake_Stream) :=
  (Stream_RightPost p0x0).bind fun v2 =>
  (Stream_Flip v2.2 (15 : Int)).bind fun v4 =>
  if v4.1 = true then
    (Stream_Odd v4.2 (1 : Int) (500 : Int)).bind fun v11 =>
    (Stream_Odd v11.2 (1 : Int) (86400000 : Int)).bind fun v12 =>
    (Stream_Odd v12.2 (1 : Int) (20 : Int)).bind fun v13 =>
    (Stream_Odd v13.2 (0 : Int) (1000 : Int)).bind fun v14 =>
    Stream_Post_j1 v14.2.L v14.2.at_ v11.1 v12.1 v13.1 v14.1
  else
    Stream_Post_j1 v4.2.L v4.2.at_ v2.1.Room v2.1.Timeout v2.1.Tries v2.1.Kept

noncomputable def base_Out_j1 (c1 : Bool) : Bool :=
  c1

noncomputable def base_Out (p0x0 : Int) (p1x0 : Int) (p2x0 : Int) : Bool :=
  base_Out_j1 ((decide (p0x0 < p1x0)) || (decide (p2x0 < p0x0)))

noncomputable def command_CheckPost_j1 (c2 : Bool) : Int :=
  if c2 = true then
    (1 : Int)
  else
    (0 : Int)

noncomputable def command_CheckPost (p0x0 : Post) : Int :=
  command_CheckPost_j1 ((base_Out p0x0.Room (1 : Int) (500 : Int)) || ((base_Out p0x0.Timeout (1 : Int) (86400000 : Int)) || ((base_Out p0x0.Tries (1 : Int) (20 : Int)) || (base_Out p0x0.Kept (0 : Int) (1000 : Int)))))

noncomputable def command_New (p0x0 : Post) : (Option Command_Office) × Int :=
  if (command_CheckPost p0x0) ≠ (0 : Int) then
    (none, (command_CheckPost p0x0))
  else
    (some (⟨p0x0, [], (0 : Int)⟩ : Command_Office), (0 : Int))

noncomputable def Q_in_j1 (c1 : Bool) : Bool :=
  c1

noncomputable def Q_in (p0x0 : Int) (p1x0 : Int) (p2x0 : Int) : Bool :=
  Q_in_j1 ((decide (p1x0 ≤ p0x0)) && (decide (p0x0 ≤ p2x0)))

noncomputable def Q_PostFault_j1 (c2 : Bool) : Int :=
  if c2 = true then
    (1 : Int)
  else
    (0 : Int)

noncomputable def Q_PostFault (p0x0 : Post) : Int :=
  Q_PostFault_j1 ((!(Q_in p0x0.Room (1 : Int) (500 : Int))) || ((!(Q_in p0x0.Timeout (1 : Int) (86400000 : Int))) || ((!(Q_in p0x0.Tries (1 : Int) (20 : Int))) || (!(Q_in p0x0.Kept (0 : Int) (1000 : Int))))))

noncomputable def base_Key_j2 (n5 : Int) (c7 : Bool) : Option (Int ⊕ Bool) :=
  if c7 = true then
    Option.map .inr (some false)
  else
    some (.inl (w64 (n5 + (1 : Int))))

noncomputable def base_Key_b1 (p0x0 : Str) (n5 : Int) : Option (Int ⊕ Bool) :=
  if n5 < (p0x0.length : Int) then
    (idx p0x0 n5).bind fun c6 =>
    base_Key_j2 n5 (if (97 : Int) ≤ (c6.toNat : Int) then if (c6.toNat : Int) ≤ (122 : Int) then !true else if (48 : Int) ≤ (c6.toNat : Int) then if (c6.toNat : Int) ≤ (57 : Int) then !true else if (c6.toNat : Int) = (45 : Int) then !true else decide (¬ ((c6.toNat : Int) = (95 : Int))) else if (c6.toNat : Int) = (45 : Int) then !true else decide (¬ ((c6.toNat : Int) = (95 : Int))) else if (48 : Int) ≤ (c6.toNat : Int) then if (c6.toNat : Int) ≤ (57 : Int) then !true else if (c6.toNat : Int) = (45 : Int) then !true else decide (¬ ((c6.toNat : Int) = (95 : Int))) else if (c6.toNat : Int) = (45 : Int) then !true else decide (¬ ((c6.toNat : Int) = (95 : Int))))
  else
    Option.map .inr (some true)

noncomputable def base_Key_l1 (p0x0 : Str) (n5 : Int) : Option Bool :=
  iter (fun x : Int => base_Key_b1 p0x0 x) n5

noncomputable def base_Key_j1 (p0x0 : Str) (c1 : Bool) : Option Bool :=
  if c1 = true then
    some false
  else
    base_Key_l1 p0x0 (0 : Int)

noncomputable def base_Key (p0x0 : Str) : Option Bool :=
  if p0x0 = ([] : Str) then
    base_Key_j1 p0x0 true
  else
    if (40 : Int) < (p0x0.length : Int) then
      base_Key_j1 p0x0 true
    else
      (idx p0x0 (0 : Int)).bind fun c2 =>
      if (c2.toNat : Int) < (97 : Int) then
        base_Key_j1 p0x0 true
      else
        (idx p0x0 (0 : Int)).bind fun c3 =>
        base_Key_j1 p0x0 (decide ((122 : Int) < (c3.toNat : Int)))

noncomputable def base_Unmarked_j1 (n2 : Int) (c3 : Bool) : Option (Int ⊕ Bool) :=
  if c3 = true then
    Option.map .inr (some false)
  else
    some (.inl (w64 (n2 + (1 : Int))))

noncomputable def base_Unmarked_k2 (p0x0 : Str) : Option Bool :=
  (validO p0x0).bind fun v6 =>
  some v6

noncomputable def base_Unmarked_b1 (p0x0 : Str) (n2 : Int) : Option (Int ⊕ Bool) :=
  if n2 < (p0x0.length : Int) then
    (idx p0x0 n2).bind fun c4 =>
    if (c4.toNat : Int) < (32 : Int) then
      base_Unmarked_j1 n2 true
    else
      (idx p0x0 n2).bind fun c5 =>
      base_Unmarked_j1 n2 (decide ((c5.toNat : Int) = (127 : Int)))
  else
    Option.map .inr (base_Unmarked_k2 p0x0)

noncomputable def base_Unmarked_l1 (p0x0 : Str) (n2 : Int) : Option Bool :=
  iter (fun x : Int => base_Unmarked_b1 p0x0 x) n2

noncomputable def base_Unmarked (p0x0 : Str) : Option Bool :=
  base_Unmarked_l1 p0x0 (0 : Int)

noncomputable def base_Moment (p0x0 : Int) : Bool :=
  !(base_Out p0x0 (0 : Int) (345686399999 : Int))

noncomputable def command_CheckLetter_j2 (c6 : Bool) : Option Int :=
  if c6 = true then
    some (1 : Int)
  else
    some (0 : Int)

noncomputable def command_CheckLetter_j1 (p0x0 : Letter) (c2 : Bool) : Option Int :=
  if c2 = true then
    some (5 : Int)
  else
    if (1000 : Int) < (p0x0.Body.length : Int) then
      some (2 : Int)
    else
      (base_Unmarked p0x0.Body).bind fun v5 =>
      if (!v5) = true then
        some (3 : Int)
      else
        command_CheckLetter_j2 ((base_Out p0x0.Prio (0 : Int) (9 : Int)) || ((!(base_Moment p0x0.At)) || ((decide (p0x0.Until ≤ p0x0.At)) || (decide ((345686400000 : Int) < p0x0.Until)))))

noncomputable def command_CheckLetter (p0x0 : Letter) : Option Int :=
  (base_Key p0x0.Id).bind fun v3 =>
  if (!v3) = true then
    command_CheckLetter_j1 p0x0 true
  else
    if p0x0.Slot ≠ ([] : Str) then
      (base_Key p0x0.Slot).bind fun v4 =>
      command_CheckLetter_j1 p0x0 (!v4)
    else
      command_CheckLetter_j1 p0x0 false

noncomputable def command_Office_timeFault (p0x0 : Command_Office) (p1x0 : Int) : Int :=
  if (!(base_Moment p1x0)) = true then
    (1 : Int)
  else
    if p1x0 < p0x0.time_ then
      (7 : Int)
    else
      (0 : Int)

noncomputable def base_First_b1 (p0x0 : List Int) (n2 : Int) : Option (Int ⊕ Int) :=
  if n2 < (p0x0.length : Int) then
    (idx p0x0 n2).bind fun v3 =>
    if v3 ≠ (0 : Int) then
      Option.map .inr (some v3)
    else
      some (.inl (w64 (n2 + (1 : Int))))
  else
    Option.map .inr (some (0 : Int))

noncomputable def base_First_l1 (p0x0 : List Int) (n2 : Int) : Option Int :=
  iter (fun x : Int => base_First_b1 p0x0 x) n2

noncomputable def base_First (p0x0 : List Int) : Option Int :=
  base_First_l1 p0x0 (0 : Int)

noncomputable def command_ended (p0x0 : Int) : Bool :=
  decide ((3 : Int) ≤ p0x0)

noncomputable def command_Office_turn (p0x0 : Command_Office) (p1x0 : Note) : Int :=
  if p1x0.State = (2 : Int) then
    min p1x0.Letter.Until (w64 (p1x0.Since + p0x0.post_.Timeout))
  else
    p1x0.Letter.Until

noncomputable def command_Office_grown_j1 (p1x0 : Note) (n3 : Int) (n4 : Int) : Option Note :=
  some (⟨p1x0.Letter, n3, p1x0.Tries, n4⟩ : Note)

noncomputable def command_Office_grown_j2 (p0x0 : Command_Office) (p1x0 : Note) (n7 : Int) (n8 : Int) (n9 : Int) : Option ((Int × Int) ⊕ Note) :=
  some (.inl (n9, (command_Office_turn p0x0 (⟨p1x0.Letter, n7, p1x0.Tries, n8⟩ : Note))))

noncomputable def command_Office_grown_j3 (p0x0 : Command_Office) (p1x0 : Note) (n7 : Int) (n8 : Int) (n10 : Int) : Option ((Int × Int) ⊕ Note) :=
  command_Office_grown_j2 p0x0 p1x0 n7 n8 n10

noncomputable def command_Office_grown_b1 (p0x0 : Command_Office) (p1x0 : Note) (p2x0 : Int) (n7 : Int) (n8 : Int) : Option ((Int × Int) ⊕ Note) :=
  if (!(command_ended n7)) = true then
    if p2x0 < (command_Office_turn p0x0 (⟨p1x0.Letter, n7, p1x0.Tries, n8⟩ : Note)) then
      Option.map .inr (command_Office_grown_j1 p1x0 n7 n8)
    else
      if (command_Office_turn p0x0 (⟨p1x0.Letter, n7, p1x0.Tries, n8⟩ : Note)) = p1x0.Letter.Until then
        command_Office_grown_j2 p0x0 p1x0 n7 n8 (5 : Int)
      else
        if p1x0.Tries = p0x0.post_.Tries then
          command_Office_grown_j3 p0x0 p1x0 n7 n8 (7 : Int)
        else
          command_Office_grown_j3 p0x0 p1x0 n7 n8 (1 : Int)
  else
    Option.map .inr (command_Office_grown_j1 p1x0 n7 n8)

noncomputable def command_Office_grown_l1 (p0x0 : Command_Office) (p1x0 : Note) (p2x0 : Int) (n7 : Int) (n8 : Int) : Option Note :=
  iter (fun x : Int × Int => command_Office_grown_b1 p0x0 p1x0 p2x0 x.1 x.2) (n7, n8)

noncomputable def command_Office_grown (p0x0 : Command_Office) (p1x0 : Note) (p2x0 : Int) : Option Note :=
  command_Office_grown_l1 p0x0 p1x0 p2x0 p1x0.State p1x0.Since

noncomputable def cmp_isNaN_int (p0x0 : Int) : Bool :=
  decide (p0x0 ≠ p0x0)

noncomputable def cmp_Compare_int (p0x0 : Int) (p1x0 : Int) : Int :=
  if (cmp_isNaN_int p0x0) = true then
    if (cmp_isNaN_int p1x0) = true then
      (0 : Int)
    else
      (-1 : Int)
  else
    if (cmp_isNaN_int p1x0) = true then
      (1 : Int)
    else
      if p0x0 < p1x0 then
        (-1 : Int)
      else
        if p1x0 < p0x0 then
          (1 : Int)
        else
          (0 : Int)

noncomputable def cmp_Or_int_b1 (p0x0 : List Int) (n2 : Int) : Option (Int ⊕ Int) :=
  if n2 < (p0x0.length : Int) then
    (idx p0x0 n2).bind fun v3 =>
    if v3 ≠ (0 : Int) then
      Option.map .inr (some v3)
    else
      some (.inl (w64 (n2 + (1 : Int))))
  else
    Option.map .inr (some (0 : Int))

noncomputable def cmp_Or_int_l1 (p0x0 : List Int) (n2 : Int) : Option Int :=
  iter (fun x : Int => cmp_Or_int_b1 p0x0 x) n2

noncomputable def cmp_Or_int (p0x0 : List Int) : Option Int :=
  cmp_Or_int_l1 p0x0 (0 : Int)

noncomputable def command_Office_aged_1x (p0x0 : Note) (p1x0 : Note) : Option Int :=
  (cmp_Or_int [(cmp_Compare_int p0x0.Since p1x0.Since), (Lib.compareBytes p0x0.Letter.Id p1x0.Letter.Id)]).bind fun v3 =>
  some v3

/-- Sorted by Go. -/
noncomputable def slices_SortFunc_Note_Note (p0x0 : List Note) (fnb : Note → Note → Option Int) : Option (List Note) :=
  sortO fnb p0x0

noncomputable def command_Office_aged_j1 (l6 : List (Str × Note)) (v1m : Str × Note) (v19 : Note) (l21 : List Note) : Option (((List (Str × Note)) × (List Note)) ⊕ (List (Str × Note))) :=
  some (.inl (mset l6 v1m.1 v19, l21))

noncomputable def command_Office_aged_b1 (p0x0 : Command_Office) (p1x0 : Int) (v1m : Str × Note) (l6 : List (Str × Note)) (l8 : List Note) : Option (((List (Str × Note)) × (List Note)) ⊕ (List (Str × Note))) :=
  (command_Office_grown p0x0 v1m.2 p1x0).bind fun v19 =>
  if (command_ended v19.State) = true then
    (app l8 [v19]).bind fun l22 =>
    command_Office_aged_j1 l6 v1m v19 l22
  else
    command_Office_aged_j1 l6 v1m v19 l8

noncomputable def command_Office_aged_b2 (v10 : (List Note)) (l11 : List Note) (l14 : List (Str × Note)) (n15 : Int) : Option (((List (Str × Note)) × Int) ⊕ (List (Str × Note))) :=
  if n15 < (l11.length : Int) then
    (idxS v10 (0 : Int) l11.length n15).bind fun v16 =>
    some (.inl (mdel l14 v16.Letter.Id, w64 (n15 + (1 : Int))))
  else
    Option.map .inr (some l14)

noncomputable def command_Office_aged_l2 (v10 : (List Note)) (l11 : List Note) (l14 : List (Str × Note)) (n15 : Int) : Option (List (Str × Note)) :=
  iter (fun x : (List (Str × Note)) × Int => command_Office_aged_b2 v10 l11 x.1 x.2) (l14, n15)

noncomputable def command_Office_aged_f1 (p0x0 : Command_Office) (l6 : List (Str × Note)) (l8 : List Note) : Option (List (Str × Note)) :=
  (lenOk l8.length (fun r : (List Note) => r.length) (slices_SortFunc_Note_Note l8 (fun y0 y1 => command_Office_aged_1x y0 y1))).bind fun v10 =>
  (slc v10 (0 : Int) (max (0 : Int) (w64 ((v10.length : Int) - p0x0.post_.Kept)))).bind fun l11 =>
  command_Office_aged_l2 v10 l11 l6 (0 : Int)

noncomputable def command_Office_aged_l1 (p0x0 : Command_Office) (p1x0 : Int) (l6 : List (Str × Note)) (l8 : List Note) : Option (List (Str × Note)) :=
  overP p0x0.notes_ (fun p => loopL (fun e (x : (List (Str × Note)) × (List Note)) => command_Office_aged_b1 p0x0 p1x0 e x.1 x.2) (fun x : (List (Str × Note)) × (List Note) => command_Office_aged_f1 p0x0 x.1 x.2) p (l6, l8))

noncomputable def command_Office_aged (p0x0 : Command_Office) (p1x0 : Int) : Option (List (Str × Note)) :=
  command_Office_aged_l1 p0x0 p1x0 [] []

noncomputable def command_pending_j1 (n5 : Int) : Option (Int ⊕ Int) :=
  some (.inl n5)

noncomputable def command_pending_b1 (v1m : Str × Note) (n3 : Int) : Option (Int ⊕ Int) :=
  if (!(command_ended v1m.2.State)) = true then
    command_pending_j1 (w64 (n3 + (1 : Int)))
  else
    command_pending_j1 n3

noncomputable def command_pending_f1 (n3 : Int) : Option Int :=
  some n3

noncomputable def command_pending_l1 (p0x0 : List (Str × Note)) (n3 : Int) : Option Int :=
  overP p0x0 (fun p => loopL (fun e (x : Int) => command_pending_b1 e x) (fun x : Int => command_pending_f1 x) p n3)

noncomputable def command_pending (p0x0 : List (Str × Note)) : Option Int :=
  command_pending_l1 p0x0 (0 : Int)

noncomputable def command_Office_keep (p0x0 : Command_Office) (p1x0 : List (Str × Note)) (p2x0 : Int) : Command_Office :=
  (⟨p0x0.post_, p1x0, p2x0⟩ : Command_Office)

noncomputable def command_Office_Put_j4 (q19 : Str) : Option (Str ⊕ (Int × Command_Office)) :=
  some (.inl q19)

noncomputable def command_Office_Put_j3 (q10 : Str) (v1m : Str × Note) (c18 : Bool) : Option (Str ⊕ (Int × Command_Office)) :=
  if c18 = true then
    command_Office_Put_j4 v1m.1
  else
    command_Office_Put_j4 q10

noncomputable def command_Office_Put_b1 (p1x0 : Letter) (v1m : Str × Note) (q10 : Str) : Option (Str ⊕ (Int × Command_Office)) :=
  command_Office_Put_j3 q10 v1m ((decide (p1x0.Slot ≠ ([] : Str))) && ((decide (v1m.2.Letter.Slot = p1x0.Slot)) && ((decide (v1m.2.State = (1 : Int))) && (decide (v1m.2.Tries = (0 : Int))))))

noncomputable def command_Office_Put_j2 (p0x0 : Command_Office) (p1x0 : Letter) (l13 : List (Str × Note)) : Option (Int × Command_Office) :=
  some ((0 : Int), (command_Office_keep p0x0 (mset l13 p1x0.Id (⟨p1x0, (1 : Int), (0 : Int), p1x0.At⟩ : Note)) p1x0.At))

noncomputable def command_Office_Put_j1 (p0x0 : Command_Office) (p1x0 : Letter) (v4 : (List (Str × Note))) (q10 : Str) (n11 : Int) : Option (Int × Command_Office) :=
  (command_pending v4).bind fun v12 =>
  if n11 ≤ v12 then
    some ((12 : Int), p0x0)
  else
    if q10 ≠ ([] : Str) then
      (mgetO v4 q10 (⟨(⟨[], [], [], (0 : Int), (0 : Int), (0 : Int)⟩ : Letter), (0 : Int), (0 : Int), (0 : Int)⟩ : Note)).bind fun v14 =>
      command_Office_Put_j2 p0x0 p1x0 (mset v4 q10 (⟨v14.Letter, (6 : Int), v14.Tries, p1x0.At⟩ : Note))
    else
      command_Office_Put_j2 p0x0 p1x0 v4

noncomputable def command_Office_Put_f1 (p0x0 : Command_Office) (p1x0 : Letter) (v4 : (List (Str × Note))) (q10 : Str) : Option (Int × Command_Office) :=
  if q10 ≠ ([] : Str) then
    command_Office_Put_j1 p0x0 p1x0 v4 q10 (w64 (p0x0.post_.Room + (1 : Int)))
  else
    command_Office_Put_j1 p0x0 p1x0 v4 q10 p0x0.post_.Room

noncomputable def command_Office_Put_l1 (p0x0 : Command_Office) (p1x0 : Letter) (v4 : (List (Str × Note))) (q10 : Str) : Option (Int × Command_Office) :=
  overP v4 (fun p => loopL (fun e (x : Str) => command_Office_Put_b1 p1x0 e x) (fun x : Str => command_Office_Put_f1 p0x0 p1x0 v4 x) p q10)

noncomputable def command_Office_Put (p0x0 : Command_Office) (p1x0 : Letter) : Option (Int × Command_Office) :=
  (command_CheckLetter p1x0).bind fun v2 =>
  (base_First [v2, (command_Office_timeFault p0x0 p1x0.At)]).bind fun v3 =>
  if v3 ≠ (0 : Int) then
    some (v3, p0x0)
  else
    (command_Office_aged p0x0 p1x0.At).bind fun v4 =>
    (mget2 v4 p1x0.Id (⟨(⟨[], [], [], (0 : Int), (0 : Int), (0 : Int)⟩ : Letter), (0 : Int), (0 : Int), (0 : Int)⟩ : Note)).bind fun v6 =>
    if v6.2 = true then
      some ((6 : Int), p0x0)
    else
      command_Office_Put_l1 p0x0 p1x0 v4 ([] : Str)

noncomputable def command_Office_Waiting (p0x0 : Command_Office) (p1x0 : Int) : Option (Int × Int × Command_Office) :=
  if (command_Office_timeFault p0x0 p1x0) ≠ (0 : Int) then
    some ((0 : Int), (command_Office_timeFault p0x0 p1x0), p0x0)
  else
    (command_Office_aged p0x0 p1x0).bind fun v1 =>
    (command_pending ((command_Office_keep p0x0 v1 p1x0).notes_)).bind fun v4 =>
    some (v4, (0 : Int), (command_Office_keep p0x0 v1 p1x0))

noncomputable def L_posted_j1 : Option Bool :=
  some false

noncomputable def L_posted_j3 (c16 : Bool) : Option Bool :=
  some c16

noncomputable def L_posted_j2 (n4 : Int) (n5 : Int) (n6 : Int) (n7 : Int) (l9 : List (Str × Note)) (n10 : Int) (c11 : Bool) : Option Bool :=
  if c11 = true then
    some false
  else
    (command_Office_Waiting (⟨(⟨n4, n5, n6, n7⟩ : Post), l9, n10⟩ : Command_Office) (0 : Int)).bind fun v14 =>
    L_posted_j3 ((decide (v14.2.1 = (0 : Int))) && (decide (v14.1 = (1 : Int))))

noncomputable def L_posted : Option Bool :=
  casesO ((command_New (⟨(1 : Int), (1 : Int), (1 : Int), (0 : Int)⟩ : Post)).1) (
    if ((command_New (⟨(1 : Int), (1 : Int), (1 : Int), (0 : Int)⟩ : Post)).2) ≠ (0 : Int) then
      L_posted_j1
    else
      L_posted_j1) (fun x1 =>
    if ((command_New (⟨(1 : Int), (1 : Int), (1 : Int), (0 : Int)⟩ : Post)).2) ≠ (0 : Int) then
      L_posted_j2 x1.post_.Room x1.post_.Timeout x1.post_.Tries x1.post_.Kept x1.notes_ x1.time_ true
    else
      (command_Office_Put x1 (⟨([97] : Str), [], [], (0 : Int), (0 : Int), (5 : Int)⟩ : Letter)).bind fun v12 =>
      L_posted_j2 v12.2.post_.Room v12.2.post_.Timeout v12.2.post_.Tries v12.2.post_.Kept v12.2.notes_ v12.2.time_ (decide (v12.1 ≠ (0 : Int))))

noncomputable def Stream_Some (p0x0 : Fleetmake_Stream) (p1x0 : List Str) : Option (Str × Fleetmake_Stream) :=
  (Stream_Next p0x0 (p1x0.length : Int)).bind fun v1 =>
  (idx p1x0 v1.1).bind fun v2 =>
  some (v2, v1.2)

noncomputable def Stream_RightLetter (p0x0 : Fleetmake_Stream) (p1x0 : Int) : Option (Letter × Fleetmake_Stream) :=
  (Stream_Some p0x0 [([108, 97] : Str), ([108, 98] : Str), ([108, 99] : Str), ([108, 100] : Str), ([108, 101] : Str), ([108, 102] : Str)]).bind fun v2 =>
  (Stream_Some v2.2 [([] : Str), ([] : Str), ([115, 97] : Str), ([115, 98] : Str)]).bind fun v3 =>
  (Stream_Some v3.2 [([100, 111] : Str), ([] : Str), ([97, 32, 34, 98, 34] : Str)]).bind fun v4 =>
  (Stream_Pick v4.2 [(0 : Int), (0 : Int), (1 : Int), (5 : Int), (9 : Int)]).bind fun v5 =>
  (Stream_Pick v5.2 [(1 : Int), (5 : Int), (10 : Int), (20 : Int), (50 : Int), (1000 : Int)]).bind fun v6 =>
  some ((⟨v2.1, v3.1, v4.1, v5.1, p1x0, w64 (p1x0 + v6.1)⟩ : Letter), v6.2)

noncomputable def Stream_Letter_j1 (l5 : List Int) (n6 : Int) (q7 : Str) (q8 : Str) (q9 : Str) (n10 : Int) (n11 : Int) (n12 : Int) : Option (Letter × Fleetmake_Stream) :=
  some ((⟨q7, q8, q9, n10, n11, n12⟩ : Letter), (⟨l5, n6⟩ : Fleetmake_Stream))

noncomputable def Stream_Letter_j2 (l14 : List Int) (n15 : Int) (q16 : Str) (q17 : Str) (q18 : Str) (n19 : Int) (n20 : Int) (n21 : Int) : Option (Letter × Fleetmake_Stream) :=
  Stream_Letter_j1 l14 n15 q16 q17 q18 n19 n20 n21

noncomputable def Stream_Letter_j3 (v2 : Letter × Fleetmake_Stream) (l23 : List Int) (n24 : Int) (q25 : Str) (q26 : Str) (n27 : Int) (n28 : Int) (n29 : Int) : Option (Letter × Fleetmake_Stream) :=
  Stream_Letter_j2 l23 n24 v2.1.Id q25 q26 n27 n28 n29

noncomputable def Stream_Letter_j4 (v2 : Letter × Fleetmake_Stream) (l31 : List Int) (n32 : Int) (q33 : Str) (n34 : Int) (n35 : Int) (n36 : Int) : Option (Letter × Fleetmake_Stream) :=
  Stream_Letter_j3 v2 l31 n32 v2.1.Slot q33 n34 n35 n36

noncomputable def Stream_Letter_j5 (v2 : Letter × Fleetmake_Stream) (l39 : List Int) (n40 : Int) (n41 : Int) (n42 : Int) (n43 : Int) : Option (Letter × Fleetmake_Stream) :=
  Stream_Letter_j4 v2 l39 n40 v2.1.Body n41 n42 n43

noncomputable def Stream_Letter (p0x0 : Fleetmake_Stream) (p1x0 : Int) : Option (Letter × Fleetmake_Stream) :=
  (Stream_RightLetter p0x0 p1x0).bind fun v2 =>
  (Stream_Flip v2.2 (15 : Int)).bind fun v4 =>
  if v4.1 = true then
    (Stream_Next v4.2 (5 : Int)).bind fun v13 =>
    if v13.1 = (0 : Int) then
      (Stream_Some v13.2 [([] : Str), ([65] : Str)]).bind fun v22 =>
      Stream_Letter_j2 v22.2.L v22.2.at_ v22.1 v2.1.Slot v2.1.Body v2.1.Prio v2.1.At v2.1.Until
    else
      if v13.1 = (1 : Int) then
        (Stream_Some v13.2 [([65] : Str), ([45] : Str)]).bind fun v30 =>
        Stream_Letter_j3 v2 v30.2.L v30.2.at_ v30.1 v2.1.Body v2.1.Prio v2.1.At v2.1.Until
      else
        if v13.1 = (2 : Int) then
          (repeatO ([98] : Str) (1001 : Int)).bind fun v37 =>
          (Stream_Some v13.2 [([10] : Str), ([127] : Str), ([255] : Str), v37]).bind fun v38 =>
          Stream_Letter_j4 v2 v38.2.L v38.2.at_ v38.1 v2.1.Prio v2.1.At v2.1.Until
        else
          if v13.1 = (3 : Int) then
            (Stream_Odd v13.2 (0 : Int) (9 : Int)).bind fun v44 =>
            Stream_Letter_j5 v2 v44.2.L v44.2.at_ v44.1 v2.1.At v2.1.Until
          else
            (Stream_Odd v13.2 (0 : Int) (50 : Int)).bind fun v45 =>
            (Stream_Odd v45.2 (0 : Int) (100 : Int)).bind fun v46 =>
            Stream_Letter_j5 v2 v46.2.L v46.2.at_ v2.1.Prio v45.1 v46.1
  else
    Stream_Letter_j1 v4.2.L v4.2.at_ v2.1.Id v2.1.Slot v2.1.Body v2.1.Prio v2.1.At v2.1.Until

noncomputable def Q_only_b1 (p0x0 : Str) (p1x0 : Str) (n2 : Int) : Option (Int ⊕ Bool) :=
  if n2 < (p0x0.length : Int) then
    (idx p0x0 n2).bind fun c3 =>
    if (indexByteI p1x0 (c3.toNat : Int)) < (0 : Int) then
      Option.map .inr (some false)
    else
      some (.inl (w64 (n2 + (1 : Int))))
  else
    Option.map .inr (some true)

noncomputable def Q_only_l1 (p0x0 : Str) (p1x0 : Str) (n2 : Int) : Option Bool :=
  iter (fun x : Int => Q_only_b1 p0x0 p1x0 x) n2

noncomputable def Q_only (p0x0 : Str) (p1x0 : Str) : Option Bool :=
  Q_only_l1 p0x0 p1x0 (0 : Int)

noncomputable def Q_Key_j1 (c1 : Bool) : Option Bool :=
  some c1

noncomputable def Q_Key (p0x0 : Str) : Option Bool :=
  if (Q_in (p0x0.length : Int) (1 : Int) (40 : Int)) = true then
    (slc p0x0 (0 : Int) (1 : Int)).bind fun l2 =>
    (Q_only l2 ([97, 98, 99, 100, 101, 102, 103, 104, 105, 106, 107, 108, 109, 110, 111, 112, 113, 114, 115, 116, 117, 118, 119, 120, 121, 122] : Str)).bind fun v3 =>
    if v3 = true then
      (Q_only p0x0 ([97, 98, 99, 100, 101, 102, 103, 104, 105, 106, 107, 108, 109, 110, 111, 112, 113, 114, 115, 116, 117, 118, 119, 120, 121, 122, 48, 49, 50, 51, 52, 53, 54, 55, 56, 57, 45, 95] : Str)).bind fun v4 =>
      Q_Key_j1 v4
    else
      Q_Key_j1 false
  else
    Q_Key_j1 false

noncomputable def Q_Printed_1x_j1 (c1 : Bool) : Bool :=
  c1

noncomputable def Q_Printed_1x (p0x0 : Int) : Bool :=
  Q_Printed_1x_j1 ((decide (p0x0 < (32 : Int))) || (decide (p0x0 = (127 : Int))))

noncomputable def Q_Printed_j1 (c1 : Bool) : Option Bool :=
  some c1

noncomputable def Q_Printed (p0x0 : Str) : Option Bool :=
  (validO p0x0).bind fun v2 =>
  if v2 = true then
    (containsF p0x0 (fun y0 => some (Q_Printed_1x y0))).bind fun v3 =>
    Q_Printed_j1 (!v3)
  else
    Q_Printed_j1 false

noncomputable def Q_Moment (p0x0 : Int) : Bool :=
  (Q_in p0x0 (0 : Int) (345686399999 : Int))

noncomputable def Q_LetterFault_j2 (c6 : Bool) : Option Int :=
  if c6 = true then
    some (1 : Int)
  else
    some (0 : Int)

noncomputable def Q_LetterFault_j1 (p0x0 : Letter) (c2 : Bool) : Option Int :=
  if c2 = true then
    some (5 : Int)
  else
    if (1000 : Int) < (p0x0.Body.length : Int) then
      some (2 : Int)
    else
      (Q_Printed p0x0.Body).bind fun v5 =>
      if (!v5) = true then
        some (3 : Int)
      else
        Q_LetterFault_j2 ((!(Q_in p0x0.Prio (0 : Int) (9 : Int))) || ((!(Q_Moment p0x0.At)) || ((decide (p0x0.Until ≤ p0x0.At)) || (decide ((345686400000 : Int) < p0x0.Until)))))

noncomputable def Q_LetterFault (p0x0 : Letter) : Option Int :=
  (Q_Key p0x0.Id).bind fun v3 =>
  if (!v3) = true then
    Q_LetterFault_j1 p0x0 true
  else
    if p0x0.Slot ≠ ([] : Str) then
      (Q_Key p0x0.Slot).bind fun v4 =>
      Q_LetterFault_j1 p0x0 (!v4)
    else
      Q_LetterFault_j1 p0x0 false

/-- A copy of a list. -/
noncomputable def slices_Clone_Note_Note (p0x0 : List Note) : Option (List Note) :=
  app [] p0x0

noncomputable def Q_open_j1 (c2 : Bool) : Bool :=
  c2

noncomputable def Q_open (p0x0 : Note) : Bool :=
  Q_open_j1 ((decide (p0x0.State = (1 : Int))) || (decide (p0x0.State = (2 : Int))))

noncomputable def Q_Desk_due (p0x0 : Fleetref2_Desk) (p1x0 : Note) : Int :=
  if p1x0.State = (1 : Int) then
    p1x0.Letter.Until
  else
    if p1x0.State = (2 : Int) then
      min p1x0.Letter.Until (w64 (p1x0.Since + p0x0.P.Timeout))
    else
      (-1 : Int)

/-- A list without some elements. -/
noncomputable def slices_Delete_Note_Note (p0x0 : List Note) (p1x0 : Int) (p2x0 : Int) : Option (List Note) :=
  delO p0x0 p1x0 p2x0

noncomputable def Q_Desk_forget_j1 (n10 : Int) (n11 : Int) (n12 : Int) : Option ((Int × Int × Int) ⊕ ((List Note) ⊕ Fleetref2_Desk)) :=
  some (.inl (n11, n12, w64 (n10 + (1 : Int))))

noncomputable def Q_Desk_forget_j3 (n9 : Int) (n10 : Int) (n17 : Int) : Option ((Int × Int × Int) ⊕ ((List Note) ⊕ Fleetref2_Desk)) :=
  Q_Desk_forget_j1 n10 n17 (w64 (n9 + (1 : Int)))

noncomputable def Q_Desk_forget_j2 (n8 : Int) (n9 : Int) (n10 : Int) (c15 : Bool) : Option ((Int × Int × Int) ⊕ ((List Note) ⊕ Fleetref2_Desk)) :=
  if c15 = true then
    Q_Desk_forget_j3 n9 n10 n10
  else
    Q_Desk_forget_j3 n9 n10 n8

noncomputable def Q_Desk_forget_k4 (p0x0 : Fleetref2_Desk) (l4 : List Note) (n8 : Int) (n9 : Int) : Option ((List Note) ⊕ Fleetref2_Desk) :=
  if n9 ≤ p0x0.P.Kept then
    Option.map .inr (some (⟨p0x0.P, l4, p0x0.time_⟩ : Fleetref2_Desk))
  else
    (slices_Delete_Note_Note l4 n8 (w64 (n8 + (1 : Int)))).bind fun v18 =>
    some (.inl v18)

noncomputable def Q_Desk_forget_b2 (p0x0 : Fleetref2_Desk) (l4 : List Note) (n8 : Int) (n9 : Int) (n10 : Int) : Option ((Int × Int × Int) ⊕ ((List Note) ⊕ Fleetref2_Desk)) :=
  if n10 < (l4.length : Int) then
    (idx l4 n10).bind fun v13 =>
    if (Q_open v13) = true then
      Q_Desk_forget_j1 n10 n8 n9
    else
      if n8 < (0 : Int) then
        Q_Desk_forget_j2 n8 n9 n10 true
      else
        (idx l4 n8).bind fun v16 =>
        Q_Desk_forget_j2 n8 n9 n10 (decide (v13.Since < v16.Since))
  else
    Option.map .inr (Q_Desk_forget_k4 p0x0 l4 n8 n9)

noncomputable def Q_Desk_forget_l2 (p0x0 : Fleetref2_Desk) (l4 : List Note) (n8 : Int) (n9 : Int) (n10 : Int) : Option ((List Note) ⊕ Fleetref2_Desk) :=
  iter (fun x : Int × Int × Int => Q_Desk_forget_b2 p0x0 l4 x.1 x.2.1 x.2.2) (n8, n9, n10)

noncomputable def Q_Desk_forget_b1 (p0x0 : Fleetref2_Desk) (l4 : List Note) : Option ((List Note) ⊕ Fleetref2_Desk) :=
  Q_Desk_forget_l2 p0x0 l4 (-1 : Int) (0 : Int) (0 : Int)

noncomputable def Q_Desk_forget_l1 (p0x0 : Fleetref2_Desk) (l4 : List Note) : Option Fleetref2_Desk :=
  iter (fun x : (List Note) => Q_Desk_forget_b1 p0x0 x) l4

noncomputable def Q_Desk_forget (p0x0 : Fleetref2_Desk) : Option Fleetref2_Desk :=
  Q_Desk_forget_l1 p0x0 p0x0.L

noncomputable def Q_Desk_age_j2 (p0x0 : Fleetref2_Desk) (n4 : Int) (l7 : List Note) (v10 : Note) (l11 : List Note) : Option ((List Note) ⊕ (((List Note) × Int) ⊕ Fleetref2_Desk)) :=
  (idx l11 n4).bind fun v13 =>
  some (.inl (l11.set n4.toNat (⟨v13.Letter, v13.State, v13.Tries, (Q_Desk_due (⟨p0x0.P, l7, p0x0.time_⟩ : Fleetref2_Desk) v10)⟩ : Note)))

noncomputable def Q_Desk_age_j3 (p0x0 : Fleetref2_Desk) (n4 : Int) (l7 : List Note) (v10 : Note) (l12 : List Note) : Option ((List Note) ⊕ (((List Note) × Int) ⊕ Fleetref2_Desk)) :=
  Q_Desk_age_j2 p0x0 n4 l7 v10 l12

noncomputable def Q_Desk_age_j1 (p0x0 : Fleetref2_Desk) (n4 : Int) (l7 : List Note) (c8 : Bool) : Option ((List Note) ⊕ (((List Note) × Int) ⊕ Fleetref2_Desk)) :=
  if c8 = true then
    (idx l7 n4).bind fun v10 =>
    if (Q_Desk_due (⟨p0x0.P, l7, p0x0.time_⟩ : Fleetref2_Desk) v10) = v10.Letter.Until then
      Q_Desk_age_j2 p0x0 n4 l7 v10 (l7.set n4.toNat (⟨v10.Letter, (5 : Int), v10.Tries, v10.Since⟩ : Note))
    else
      if p0x0.P.Tries ≤ v10.Tries then
        Q_Desk_age_j3 p0x0 n4 l7 v10 (l7.set n4.toNat (⟨v10.Letter, (7 : Int), v10.Tries, v10.Since⟩ : Note))
      else
        Q_Desk_age_j3 p0x0 n4 l7 v10 (l7.set n4.toNat (⟨v10.Letter, (1 : Int), v10.Tries, v10.Since⟩ : Note))
  else
    Option.map .inr (some (.inl (l7, w64 (n4 + (1 : Int)))))

noncomputable def Q_Desk_age_b2 (p0x0 : Fleetref2_Desk) (p1x0 : Int) (n4 : Int) (l7 : List Note) : Option ((List Note) ⊕ (((List Note) × Int) ⊕ Fleetref2_Desk)) :=
  (idx l7 n4).bind fun v9 =>
  Q_Desk_age_j1 p0x0 n4 l7 ((Q_open v9) && (decide ((Q_Desk_due (⟨p0x0.P, l7, p0x0.time_⟩ : Fleetref2_Desk) v9) ≤ p1x0)))

noncomputable def Q_Desk_age_l2 (p0x0 : Fleetref2_Desk) (p1x0 : Int) (n4 : Int) (l7 : List Note) : Option (((List Note) × Int) ⊕ Fleetref2_Desk) :=
  iter (fun x : (List Note) => Q_Desk_age_b2 p0x0 p1x0 n4 x) l7

noncomputable def Q_Desk_age_k4 (p0x0 : Fleetref2_Desk) (l3 : List Note) : Option Fleetref2_Desk :=
  (Q_Desk_forget (⟨p0x0.P, l3, p0x0.time_⟩ : Fleetref2_Desk)).bind fun v14 =>
  some v14

noncomputable def Q_Desk_age_b1 (p0x0 : Fleetref2_Desk) (p1x0 : Int) (l3 : List Note) (n4 : Int) : Option (((List Note) × Int) ⊕ Fleetref2_Desk) :=
  if n4 < (p0x0.L.length : Int) then
    (idx l3 n4).bind fun v5 =>
    Q_Desk_age_l2 p0x0 p1x0 n4 l3
  else
    Option.map .inr (Q_Desk_age_k4 p0x0 l3)

noncomputable def Q_Desk_age_l1 (p0x0 : Fleetref2_Desk) (p1x0 : Int) (l3 : List Note) (n4 : Int) : Option Fleetref2_Desk :=
  iter (fun x : (List Note) × Int => Q_Desk_age_b1 p0x0 p1x0 x.1 x.2) (l3, n4)

noncomputable def Q_Desk_age (p0x0 : Fleetref2_Desk) (p1x0 : Int) : Option Fleetref2_Desk :=
  Q_Desk_age_l1 p0x0 p1x0 p0x0.L (0 : Int)

noncomputable def Q_Desk_turn (p0x0 : Fleetref2_Desk) (p1x0 : Int) : Option ((Option Fleetref2_Desk) × Int) :=
  if (!(Q_Moment p1x0)) = true then
    some (none, (1 : Int))
  else
    if p1x0 < p0x0.time_ then
      some (none, (7 : Int))
    else
      (slices_Clone_Note_Note p0x0.L).bind fun v1 =>
      (Q_Desk_age (⟨p0x0.P, v1, p1x0⟩ : Fleetref2_Desk) p1x0).bind fun v4 =>
      some (some v4, (0 : Int))

noncomputable def Q_Desk_Put_1x_j1 (c2 : Bool) : Bool :=
  c2

noncomputable def Q_Desk_Put_1x (p0x0 : Note) (p1x0 : Letter) : Bool :=
  Q_Desk_Put_1x_j1 ((decide (p1x0.Slot ≠ ([] : Str))) && ((decide (p0x0.Letter.Slot = p1x0.Slot)) && ((decide (p0x0.State = (1 : Int))) && (decide (p0x0.Tries = (0 : Int))))))

noncomputable def slices_IndexFunc_Note_Note_b1 (p0x0 : List Note) (fnb : Note → Option Bool) (n2 : Int) : Option (Int ⊕ Int) :=
  if n2 < (p0x0.length : Int) then
    (idx p0x0 n2).bind fun v3 =>
    (fnb v3).bind fun v4 =>
    if v4 = true then
      Option.map .inr (some n2)
    else
      some (.inl (w64 (n2 + (1 : Int))))
  else
    Option.map .inr (some (-1 : Int))

noncomputable def slices_IndexFunc_Note_Note_l1 (p0x0 : List Note) (fnb : Note → Option Bool) (n2 : Int) : Option Int :=
  iter (fun x : Int => slices_IndexFunc_Note_Note_b1 p0x0 fnb x) n2

noncomputable def slices_IndexFunc_Note_Note (p0x0 : List Note) (fnb : Note → Option Bool) : Option Int :=
  slices_IndexFunc_Note_Note_l1 p0x0 fnb (0 : Int)

noncomputable def Q_Desk_at_1x (p0x0 : Note) (p1x0 : Str) : Bool :=
  decide (p0x0.Letter.Id = p1x0)

noncomputable def Q_Desk_at (p0x0 : Fleetref2_Desk) (p1x0 : Str) : Option Int :=
  (slices_IndexFunc_Note_Note p0x0.L (fun y0 => some (Q_Desk_at_1x y0 p1x0))).bind fun v2 =>
  some v2

noncomputable def Q_Desk_many_j1 (n4 : Int) (n7 : Int) : Option ((Int × Int) ⊕ Int) :=
  some (.inl (n7, w64 (n4 + (1 : Int))))

noncomputable def Q_Desk_many_b1 (p0x0 : Fleetref2_Desk) (n3 : Int) (n4 : Int) : Option ((Int × Int) ⊕ Int) :=
  if n4 < (p0x0.L.length : Int) then
    (idx p0x0.L n4).bind fun v5 =>
    if (Q_open v5) = true then
      Q_Desk_many_j1 n4 (w64 (n3 + (1 : Int)))
    else
      Q_Desk_many_j1 n4 n3
  else
    Option.map .inr (some n3)

noncomputable def Q_Desk_many_l1 (p0x0 : Fleetref2_Desk) (n3 : Int) (n4 : Int) : Option Int :=
  iter (fun x : Int × Int => Q_Desk_many_b1 p0x0 x.1 x.2) (n3, n4)

noncomputable def Q_Desk_many (p0x0 : Fleetref2_Desk) : Option Int :=
  Q_Desk_many_l1 p0x0 (0 : Int) (0 : Int)

noncomputable def Q_Desk_Put_2x (p0x0 : Note) (p1x0 : Note) : Int :=
  (Lib.compareBytes p0x0.Letter.Id p1x0.Letter.Id)

noncomputable def Q_Desk_turn_c0x4x (p0x0 : Fleetref2_Desk) (p1x0 : Int) : Option ((Option Fleetref2_Desk) × Int) :=
  if (!(Q_Moment p1x0)) = true then
    some (none, (1 : Int))
  else
    if p1x0 < p0x0.time_ then
      some (none, (7 : Int))
    else
      (slices_Clone_Note_Note p0x0.L).bind fun v1 =>
      (Q_Desk_age (⟨p0x0.P, v1, p1x0⟩ : Fleetref2_Desk) p1x0).bind fun v4 =>
      some (some v4, (0 : Int))

noncomputable def Q_Desk_Put_j2 (p1x0 : Letter) (x4 : Fleetref2_Desk) (l11 : List Note) : Option (Int × Fleetref2_Desk) :=
  (app l11 [(⟨p1x0, (1 : Int), (0 : Int), p1x0.At⟩ : Note)]).bind fun l14 =>
  (lenOk l14.length (fun r : (List Note) => r.length) (slices_SortFunc_Note_Note l14 (fun y0 y1 => some (Q_Desk_Put_2x y0 y1)))).bind fun v16 =>
  (Q_Desk_forget (⟨x4.P, v16, x4.time_⟩ : Fleetref2_Desk)).bind fun v17 =>
  some ((0 : Int), v17)

noncomputable def Q_Desk_Put_j1 (p0x0 : Fleetref2_Desk) (p1x0 : Letter) (x4 : Fleetref2_Desk) (v7 : Int) (n8 : Int) : Option (Int × Fleetref2_Desk) :=
  (Q_Desk_at x4 p1x0.Id).bind fun v9 =>
  if (0 : Int) ≤ v9 then
    some ((6 : Int), p0x0)
  else
    (Q_Desk_many x4).bind fun v10 =>
    if n8 ≤ v10 then
      some ((12 : Int), p0x0)
    else
      if (0 : Int) ≤ v7 then
        (idx x4.L v7).bind fun v12 =>
        (idx (x4.L.set v7.toNat (⟨v12.Letter, (6 : Int), v12.Tries, v12.Since⟩ : Note)) v7).bind fun v13 =>
        Q_Desk_Put_j2 p1x0 x4 ((x4.L.set v7.toNat (⟨v12.Letter, (6 : Int), v12.Tries, v12.Since⟩ : Note)).set v7.toNat (⟨v13.Letter, v13.State, v13.Tries, p1x0.At⟩ : Note))
      else
        Q_Desk_Put_j2 p1x0 x4 x4.L

noncomputable def Q_Desk_Put (p0x0 : Fleetref2_Desk) (p1x0 : Letter) : Option (Int × Fleetref2_Desk) :=
  (Q_LetterFault p1x0).bind fun v2 =>
  if v2 ≠ (0 : Int) then
    some (v2, p0x0)
  else
    (Q_Desk_turn_c0x4x p0x0 p1x0.At).bind fun v3 =>
    casesO v3.1 (
      if v3.2 ≠ (0 : Int) then
        some (v3.2, p0x0)
      else
        none) (fun x4 =>
      if v3.2 ≠ (0 : Int) then
        some (v3.2, p0x0)
      else
        (slices_IndexFunc_Note_Note x4.L (fun y0 => some (Q_Desk_Put_1x y0 p1x0))).bind fun v7 =>
        if (0 : Int) ≤ v7 then
          Q_Desk_Put_j1 p0x0 p1x0 x4 v7 (w64 (x4.P.Room + (1 : Int)))
        else
          Q_Desk_Put_j1 p0x0 p1x0 x4 v7 x4.P.Room)

noncomputable def command_byOrder (p0x0 : Letter) (p1x0 : Letter) : Option Int :=
  (cmp_Or_int [(cmp_Compare_int p1x0.Prio p0x0.Prio), (cmp_Compare_int p0x0.At p1x0.At), (Lib.compareBytes p0x0.Id p1x0.Id)]).bind fun v3 =>
  some v3

/-- Sorted by Go. -/
noncomputable def slices_SortFunc_Letter_Letter (p0x0 : List Letter) (fnb : Letter → Letter → Option Int) : Option (List Letter) :=
  sortO fnb p0x0

/-- A copy of a list. -/
noncomputable def slices_Clone_Letter_Letter (p0x0 : List Letter) : Option (List Letter) :=
  app [] p0x0

noncomputable def command_Office_Fetch_j1 (l26 : List Letter) : Option ((List Letter) ⊕ ((List Letter) × Int × Command_Office)) :=
  some (.inl l26)

noncomputable def command_Office_Fetch_b1 (v1m : Str × Note) (l9 : List Letter) : Option ((List Letter) ⊕ ((List Letter) × Int × Command_Office)) :=
  if v1m.2.State = (1 : Int) then
    (app l9 [v1m.2.Letter]).bind fun l27 =>
    command_Office_Fetch_j1 l27
  else
    command_Office_Fetch_j1 l9

noncomputable def command_Office_Fetch_b2 (p0x0 : Command_Office) (p1x0 : Int) (v13 : (List Letter)) (l17 : List (Str × Note)) (n18 : Int) : Option (((List (Str × Note)) × Int) ⊕ ((List Letter) × Int × Command_Office)) :=
  if n18 < (v13.length : Int) then
    (idx v13 n18).bind fun v19 =>
    (mgetO l17 v19.Id (⟨(⟨[], [], [], (0 : Int), (0 : Int), (0 : Int)⟩ : Letter), (0 : Int), (0 : Int), (0 : Int)⟩ : Note)).bind fun v21 =>
    some (.inl (mset l17 v19.Id (⟨v21.Letter, (2 : Int), w64 (v21.Tries + (1 : Int)), p1x0⟩ : Note), w64 (n18 + (1 : Int))))
  else
    Option.map .inr (some (v13, (0 : Int), (command_Office_keep p0x0 l17 p1x0)))

noncomputable def command_Office_Fetch_l2 (p0x0 : Command_Office) (p1x0 : Int) (v13 : (List Letter)) (l17 : List (Str × Note)) (n18 : Int) : Option ((List Letter) × Int × Command_Office) :=
  iter (fun x : (List (Str × Note)) × Int => command_Office_Fetch_b2 p0x0 p1x0 v13 x.1 x.2) (l17, n18)

noncomputable def command_Office_Fetch_f1 (p0x0 : Command_Office) (p1x0 : Int) (p2x0 : Int) (v3 : (List (Str × Note))) (l9 : List Letter) : Option ((List Letter) × Int × Command_Office) :=
  (lenOk l9.length (fun r : (List Letter) => r.length) (slices_SortFunc_Letter_Letter l9 (fun y0 y1 => command_byOrder y0 y1))).bind fun v11 =>
  (slc v11 (0 : Int) (min p2x0 (v11.length : Int))).bind fun l12 =>
  (slices_Clone_Letter_Letter l12).bind fun v13 =>
  command_Office_Fetch_l2 p0x0 p1x0 v13 v3 (0 : Int)

noncomputable def command_Office_Fetch_l1 (p0x0 : Command_Office) (p1x0 : Int) (p2x0 : Int) (v3 : (List (Str × Note))) (l9 : List Letter) : Option ((List Letter) × Int × Command_Office) :=
  overP v3 (fun p => loopL (fun e (x : (List Letter)) => command_Office_Fetch_b1 e x) (fun x : (List Letter) => command_Office_Fetch_f1 p0x0 p1x0 p2x0 v3 x) p l9)

noncomputable def command_Office_Fetch (p0x0 : Command_Office) (p1x0 : Int) (p2x0 : Int) : Option ((List Letter) × Int × Command_Office) :=
  if (command_Office_timeFault p0x0 p1x0) ≠ (0 : Int) then
    some ([], (command_Office_timeFault p0x0 p1x0), p0x0)
  else
    if (base_Out p2x0 (0 : Int) (500 : Int)) = true then
      some ([], (1 : Int), p0x0)
    else
      (command_Office_aged p0x0 p1x0).bind fun v3 =>
      command_Office_Fetch_l1 p0x0 p1x0 p2x0 v3 []

noncomputable def Q_sign (p0x0 : Int) : Int :=
  if p0x0 < (0 : Int) then
    (-1 : Int)
  else
    if (0 : Int) < p0x0 then
      (1 : Int)
    else
      (0 : Int)

noncomputable def Q_LetterOrder (p0x0 : Letter) (p1x0 : Letter) : Int :=
  if p0x0.Prio ≠ p1x0.Prio then
    (Q_sign (w64 (p1x0.Prio - p0x0.Prio)))
  else
    if p0x0.At ≠ p1x0.At then
      (Q_sign (w64 (p0x0.At - p1x0.At)))
    else
      (Lib.compareBytes p0x0.Id p1x0.Id)

noncomputable def Q_Desk_Fetch_j1 (n14 : Int) (l19 : List Letter) : Option (((List Letter) × Int) ⊕ ((List Letter) × Int × Fleetref2_Desk)) :=
  some (.inl (l19, w64 (n14 + (1 : Int))))

noncomputable def Q_Desk_Fetch_b2 (p1x0 : Int) (x2 : Fleetref2_Desk) (l23 : List Letter) (l26 : List Note) (n27 : Int) : Option (((List Note) × Int) ⊕ ((List Letter) × Int × Fleetref2_Desk)) :=
  if n27 < (l23.length : Int) then
    (idx l23 n27).bind fun v28 =>
    (Q_Desk_at (⟨x2.P, l26, x2.time_⟩ : Fleetref2_Desk) v28.Id).bind fun v30 =>
    (idx l26 v30).bind fun v31 =>
    some (.inl (((l26.set v30.toNat (⟨v31.Letter, (2 : Int), v31.Tries, v31.Since⟩ : Note)).set v30.toNat (⟨v31.Letter, (2 : Int), v31.Tries, p1x0⟩ : Note)).set v30.toNat (⟨v31.Letter, (2 : Int), w64 (v31.Tries + (1 : Int)), p1x0⟩ : Note), w64 (n27 + (1 : Int))))
  else
    Option.map .inr (some (l23, (0 : Int), (⟨x2.P, l26, x2.time_⟩ : Fleetref2_Desk)))

noncomputable def Q_Desk_Fetch_l2 (p1x0 : Int) (x2 : Fleetref2_Desk) (l23 : List Letter) (l26 : List Note) (n27 : Int) : Option ((List Letter) × Int × Fleetref2_Desk) :=
  iter (fun x : (List Note) × Int => Q_Desk_Fetch_b2 p1x0 x2 l23 x.1 x.2) (l26, n27)

noncomputable def Q_Desk_Fetch_k2 (p1x0 : Int) (p2x0 : Int) (x2 : Fleetref2_Desk) (l13 : List Letter) : Option ((List Letter) × Int × Fleetref2_Desk) :=
  (lenOk l13.length (fun r : (List Letter) => r.length) (slices_SortFunc_Letter_Letter l13 (fun y0 y1 => some (Q_LetterOrder y0 y1)))).bind fun v22 =>
  (slc v22 (0 : Int) (min p2x0 (v22.length : Int))).bind fun l23 =>
  Q_Desk_Fetch_l2 p1x0 x2 l23 x2.L (0 : Int)

noncomputable def Q_Desk_Fetch_b1 (p1x0 : Int) (p2x0 : Int) (x2 : Fleetref2_Desk) (l13 : List Letter) (n14 : Int) : Option (((List Letter) × Int) ⊕ ((List Letter) × Int × Fleetref2_Desk)) :=
  if n14 < (x2.L.length : Int) then
    (idx x2.L n14).bind fun v16 =>
    if v16.State = (1 : Int) then
      (app l13 [v16.Letter]).bind fun l20 =>
      Q_Desk_Fetch_j1 n14 l20
    else
      Q_Desk_Fetch_j1 n14 l13
  else
    Option.map .inr (Q_Desk_Fetch_k2 p1x0 p2x0 x2 l13)

noncomputable def Q_Desk_Fetch_l1 (p1x0 : Int) (p2x0 : Int) (x2 : Fleetref2_Desk) (l13 : List Letter) (n14 : Int) : Option ((List Letter) × Int × Fleetref2_Desk) :=
  iter (fun x : (List Letter) × Int => Q_Desk_Fetch_b1 p1x0 p2x0 x2 x.1 x.2) (l13, n14)

noncomputable def Q_Desk_Fetch (p0x0 : Fleetref2_Desk) (p1x0 : Int) (p2x0 : Int) : Option ((List Letter) × Int × Fleetref2_Desk) :=
  (Q_Desk_turn_c0x4x p0x0 p1x0).bind fun v1 =>
  casesO v1.1 (
    if v1.2 ≠ (0 : Int) then
      some ([], v1.2, p0x0)
    else
      if (!(Q_in p2x0 (0 : Int) (500 : Int))) = true then
        some ([], (1 : Int), p0x0)
      else
        none) (fun x2 =>
    if v1.2 ≠ (0 : Int) then
      some ([], v1.2, p0x0)
    else
      if (!(Q_in p2x0 (0 : Int) (500 : Int))) = true then
        some ([], (1 : Int), p0x0)
      else
        Q_Desk_Fetch_l1 p1x0 p2x0 x2 [] (0 : Int))

noncomputable def slices_Equal_Letter_Letter_b1 (p0x0 : List Letter) (p1x0 : List Letter) (n2 : Int) : Option (Int ⊕ Bool) :=
  if n2 < (p0x0.length : Int) then
    (idx p0x0 n2).bind fun v3 =>
    (idx p1x0 n2).bind fun v4 =>
    if v3 ≠ v4 then
      Option.map .inr (some false)
    else
      some (.inl (w64 (n2 + (1 : Int))))
  else
    Option.map .inr (some true)

noncomputable def slices_Equal_Letter_Letter_l1 (p0x0 : List Letter) (p1x0 : List Letter) (n2 : Int) : Option Bool :=
  iter (fun x : Int => slices_Equal_Letter_Letter_b1 p0x0 p1x0 x) n2

noncomputable def slices_Equal_Letter_Letter (p0x0 : List Letter) (p1x0 : List Letter) : Option Bool :=
  if (p0x0.length : Int) ≠ (p1x0.length : Int) then
    some false
  else
    slices_Equal_Letter_Letter_l1 p0x0 p1x0 (0 : Int)

noncomputable def command_Office_Answer_j2 (p0x0 : Command_Office) (p1x0 : Str) (p2x0 : Int) (v1 : (List (Str × Note))) (v3 : Note × Bool) (n6 : Int) : Option (Int × Command_Office) :=
  some ((0 : Int), (command_Office_keep p0x0 (mset v1 p1x0 (⟨v3.1.Letter, n6, v3.1.Tries, p2x0⟩ : Note)) p2x0))

noncomputable def command_Office_Answer_j1 (p0x0 : Command_Office) (p1x0 : Str) (p2x0 : Int) (p3x0 : Bool) (v1 : (List (Str × Note))) (v3 : Note × Bool) (c5 : Bool) : Option (Int × Command_Office) :=
  if c5 = true then
    some ((11 : Int), p0x0)
  else
    if p3x0 = true then
      command_Office_Answer_j2 p0x0 p1x0 p2x0 v1 v3 (3 : Int)
    else
      command_Office_Answer_j2 p0x0 p1x0 p2x0 v1 v3 (4 : Int)

noncomputable def command_Office_Answer (p0x0 : Command_Office) (p1x0 : Str) (p2x0 : Int) (p3x0 : Bool) : Option (Int × Command_Office) :=
  if (command_Office_timeFault p0x0 p2x0) ≠ (0 : Int) then
    some ((command_Office_timeFault p0x0 p2x0), p0x0)
  else
    (command_Office_aged p0x0 p2x0).bind fun v1 =>
    (mget2 v1 p1x0 (⟨(⟨[], [], [], (0 : Int), (0 : Int), (0 : Int)⟩ : Letter), (0 : Int), (0 : Int), (0 : Int)⟩ : Note)).bind fun v3 =>
    if (!v3.2) = true then
      some ((8 : Int), p0x0)
    else
      command_Office_Answer_j1 p0x0 p1x0 p2x0 p3x0 v1 v3 ((decide (v3.1.Tries = (0 : Int))) || (command_ended v3.1.State))

noncomputable def Q_Desk_Answer_j2 (x2 : Fleetref2_Desk) (l11 : List Note) : Option (Int × Fleetref2_Desk) :=
  (Q_Desk_forget (⟨x2.P, l11, x2.time_⟩ : Fleetref2_Desk)).bind fun v13 =>
  some ((0 : Int), v13)

noncomputable def Q_Desk_Answer_j1 (p0x0 : Fleetref2_Desk) (p2x0 : Int) (p3x0 : Bool) (x2 : Fleetref2_Desk) (v5 : Int) (c6 : Bool) : Option (Int × Fleetref2_Desk) :=
  if c6 = true then
    some ((11 : Int), p0x0)
  else
    (idx x2.L v5).bind fun v9 =>
    (idx (x2.L.set v5.toNat (⟨v9.Letter, (4 : Int), v9.Tries, v9.Since⟩ : Note)) v5).bind fun v10 =>
    if p3x0 = true then
      (idx ((x2.L.set v5.toNat (⟨v9.Letter, (4 : Int), v9.Tries, v9.Since⟩ : Note)).set v5.toNat (⟨v10.Letter, v10.State, v10.Tries, p2x0⟩ : Note)) v5).bind fun v12 =>
      Q_Desk_Answer_j2 x2 (((x2.L.set v5.toNat (⟨v9.Letter, (4 : Int), v9.Tries, v9.Since⟩ : Note)).set v5.toNat (⟨v10.Letter, v10.State, v10.Tries, p2x0⟩ : Note)).set v5.toNat (⟨v12.Letter, (3 : Int), v12.Tries, v12.Since⟩ : Note))
    else
      Q_Desk_Answer_j2 x2 ((x2.L.set v5.toNat (⟨v9.Letter, (4 : Int), v9.Tries, v9.Since⟩ : Note)).set v5.toNat (⟨v10.Letter, v10.State, v10.Tries, p2x0⟩ : Note))

noncomputable def Q_Desk_Answer (p0x0 : Fleetref2_Desk) (p1x0 : Str) (p2x0 : Int) (p3x0 : Bool) : Option (Int × Fleetref2_Desk) :=
  (Q_Desk_turn_c0x4x p0x0 p2x0).bind fun v1 =>
  casesO v1.1 (
    if v1.2 ≠ (0 : Int) then
      some (v1.2, p0x0)
    else
      none) (fun x2 =>
    if v1.2 ≠ (0 : Int) then
      some (v1.2, p0x0)
    else
      (Q_Desk_at x2 p1x0).bind fun v5 =>
      if v5 < (0 : Int) then
        some ((8 : Int), p0x0)
      else
        (idx x2.L v5).bind fun v7 =>
        if (!(Q_open v7)) = true then
          Q_Desk_Answer_j1 p0x0 p2x0 p3x0 x2 v5 true
        else
          (idx x2.L v5).bind fun v8 =>
          Q_Desk_Answer_j1 p0x0 p2x0 p3x0 x2 v5 (decide (v8.Tries = (0 : Int))))

noncomputable def command_Office_Withdraw_j1 (p0x0 : Command_Office) (p1x0 : Str) (p2x0 : Int) (v1 : (List (Str × Note))) (c5 : Bool) : Option (Int × Command_Office) :=
  if c5 = true then
    some ((11 : Int), p0x0)
  else
    some ((0 : Int), (command_Office_keep p0x0 (mdel v1 p1x0) p2x0))

noncomputable def command_Office_Withdraw (p0x0 : Command_Office) (p1x0 : Str) (p2x0 : Int) : Option (Int × Command_Office) :=
  if (command_Office_timeFault p0x0 p2x0) ≠ (0 : Int) then
    some ((command_Office_timeFault p0x0 p2x0), p0x0)
  else
    (command_Office_aged p0x0 p2x0).bind fun v1 =>
    (mget2 v1 p1x0 (⟨(⟨[], [], [], (0 : Int), (0 : Int), (0 : Int)⟩ : Letter), (0 : Int), (0 : Int), (0 : Int)⟩ : Note)).bind fun v3 =>
    if (!v3.2) = true then
      some ((8 : Int), p0x0)
    else
      command_Office_Withdraw_j1 p0x0 p1x0 p2x0 v1 ((decide ((0 : Int) < v3.1.Tries)) || (command_ended v3.1.State))

noncomputable def Q_Desk_Withdraw_j1 (p0x0 : Fleetref2_Desk) (x2 : Fleetref2_Desk) (v5 : Int) (c6 : Bool) : Option (Int × Fleetref2_Desk) :=
  if c6 = true then
    some ((11 : Int), p0x0)
  else
    (slices_Delete_Note_Note x2.L v5 (w64 (v5 + (1 : Int)))).bind fun v9 =>
    some ((0 : Int), (⟨x2.P, v9, x2.time_⟩ : Fleetref2_Desk))

noncomputable def Q_Desk_Withdraw (p0x0 : Fleetref2_Desk) (p1x0 : Str) (p2x0 : Int) : Option (Int × Fleetref2_Desk) :=
  (Q_Desk_turn_c0x4x p0x0 p2x0).bind fun v1 =>
  casesO v1.1 (
    if v1.2 ≠ (0 : Int) then
      some (v1.2, p0x0)
    else
      none) (fun x2 =>
    if v1.2 ≠ (0 : Int) then
      some (v1.2, p0x0)
    else
      (Q_Desk_at x2 p1x0).bind fun v5 =>
      if v5 < (0 : Int) then
        some ((8 : Int), p0x0)
      else
        (idx x2.L v5).bind fun v7 =>
        if (!(Q_open v7)) = true then
          Q_Desk_Withdraw_j1 p0x0 x2 v5 true
        else
          (idx x2.L v5).bind fun v8 =>
          Q_Desk_Withdraw_j1 p0x0 x2 v5 (decide ((0 : Int) < v8.Tries)))

noncomputable def command_Office_Note (p0x0 : Command_Office) (p1x0 : Str) (p2x0 : Int) : Option (Note × Int × Command_Office) :=
  if (command_Office_timeFault p0x0 p2x0) ≠ (0 : Int) then
    some ((⟨(⟨[], [], [], (0 : Int), (0 : Int), (0 : Int)⟩ : Letter), (0 : Int), (0 : Int), (0 : Int)⟩ : Note), (command_Office_timeFault p0x0 p2x0), p0x0)
  else
    (command_Office_aged p0x0 p2x0).bind fun v2 =>
    (mget2 v2 p1x0 (⟨(⟨[], [], [], (0 : Int), (0 : Int), (0 : Int)⟩ : Letter), (0 : Int), (0 : Int), (0 : Int)⟩ : Note)).bind fun v4 =>
    if (!v4.2) = true then
      some ((⟨(⟨[], [], [], (0 : Int), (0 : Int), (0 : Int)⟩ : Letter), (0 : Int), (0 : Int), (0 : Int)⟩ : Note), (8 : Int), p0x0)
    else
      some (v4.1, (0 : Int), (command_Office_keep p0x0 v2 p2x0))

noncomputable def Q_Desk_Note (p0x0 : Fleetref2_Desk) (p1x0 : Str) (p2x0 : Int) : Option (Note × Int × Fleetref2_Desk) :=
  (Q_Desk_turn_c0x4x p0x0 p2x0).bind fun v2 =>
  casesO v2.1 (
    if v2.2 ≠ (0 : Int) then
      some ((⟨(⟨[], [], [], (0 : Int), (0 : Int), (0 : Int)⟩ : Letter), (0 : Int), (0 : Int), (0 : Int)⟩ : Note), v2.2, p0x0)
    else
      none) (fun x3 =>
    if v2.2 ≠ (0 : Int) then
      some ((⟨(⟨[], [], [], (0 : Int), (0 : Int), (0 : Int)⟩ : Letter), (0 : Int), (0 : Int), (0 : Int)⟩ : Note), v2.2, p0x0)
    else
      (Q_Desk_at x3 p1x0).bind fun v6 =>
      if v6 < (0 : Int) then
        some ((⟨(⟨[], [], [], (0 : Int), (0 : Int), (0 : Int)⟩ : Letter), (0 : Int), (0 : Int), (0 : Int)⟩ : Note), (8 : Int), p0x0)
      else
        (idx x3.L v6).bind fun v7 =>
        some (v7, (0 : Int), x3))

noncomputable def Q_Desk_Waiting (p0x0 : Fleetref2_Desk) (p1x0 : Int) : Option (Int × Int × Fleetref2_Desk) :=
  (Q_Desk_turn_c0x4x p0x0 p1x0).bind fun v1 =>
  casesO v1.1 (
    if v1.2 ≠ (0 : Int) then
      some ((0 : Int), v1.2, p0x0)
    else
      none) (fun x2 =>
    if v1.2 ≠ (0 : Int) then
      some ((0 : Int), v1.2, p0x0)
    else
      (Q_Desk_many x2).bind fun v5 =>
      some (v5, (0 : Int), x2))

noncomputable def command_Office_Wake_j2 (n9 : Int) : Option (Int ⊕ (Int × Int × Command_Office)) :=
  some (.inl n9)

noncomputable def command_Office_Wake_j1 (p0x0 : Command_Office) (p1x0 : Int) (v1 : (List (Str × Note))) (n6 : Int) (v1m : Str × Note) (c8 : Bool) : Option (Int ⊕ (Int × Int × Command_Office)) :=
  if c8 = true then
    command_Office_Wake_j2 (command_Office_turn (command_Office_keep p0x0 v1 p1x0) v1m.2)
  else
    command_Office_Wake_j2 n6

noncomputable def command_Office_Wake_b1 (p0x0 : Command_Office) (p1x0 : Int) (v1 : (List (Str × Note))) (v1m : Str × Note) (n6 : Int) : Option (Int ⊕ (Int × Int × Command_Office)) :=
  command_Office_Wake_j1 p0x0 p1x0 v1 n6 v1m ((!(command_ended v1m.2.State)) && ((decide (n6 < (0 : Int))) || (decide ((command_Office_turn (command_Office_keep p0x0 v1 p1x0) v1m.2) < n6))))

noncomputable def command_Office_Wake_f1 (p0x0 : Command_Office) (p1x0 : Int) (v1 : (List (Str × Note))) (n6 : Int) : Option (Int × Int × Command_Office) :=
  some (n6, (0 : Int), (command_Office_keep p0x0 v1 p1x0))

noncomputable def command_Office_Wake_l1 (p0x0 : Command_Office) (p1x0 : Int) (v1 : (List (Str × Note))) (n6 : Int) : Option (Int × Int × Command_Office) :=
  overP ((command_Office_keep p0x0 v1 p1x0).notes_) (fun p => loopL (fun e (x : Int) => command_Office_Wake_b1 p0x0 p1x0 v1 e x) (fun x : Int => command_Office_Wake_f1 p0x0 p1x0 v1 x) p n6)

noncomputable def command_Office_Wake (p0x0 : Command_Office) (p1x0 : Int) : Option (Int × Int × Command_Office) :=
  if (command_Office_timeFault p0x0 p1x0) ≠ (0 : Int) then
    some ((0 : Int), (command_Office_timeFault p0x0 p1x0), p0x0)
  else
    (command_Office_aged p0x0 p1x0).bind fun v1 =>
    command_Office_Wake_l1 p0x0 p1x0 v1 (-1 : Int)

noncomputable def Q_Desk_Wake_j2 (n8 : Int) (n12 : Int) : Option ((Int × Int) ⊕ (Int × Int × Fleetref2_Desk)) :=
  some (.inl (n12, w64 (n8 + (1 : Int))))

noncomputable def Q_Desk_Wake_j1 (x2 : Fleetref2_Desk) (n7 : Int) (n8 : Int) (v9 : Note) (c11 : Bool) : Option ((Int × Int) ⊕ (Int × Int × Fleetref2_Desk)) :=
  if c11 = true then
    Q_Desk_Wake_j2 n8 (Q_Desk_due x2 v9)
  else
    Q_Desk_Wake_j2 n8 n7

noncomputable def Q_Desk_Wake_b1 (x2 : Fleetref2_Desk) (n7 : Int) (n8 : Int) : Option ((Int × Int) ⊕ (Int × Int × Fleetref2_Desk)) :=
  if n8 < (x2.L.length : Int) then
    (idx x2.L n8).bind fun v9 =>
    Q_Desk_Wake_j1 x2 n7 n8 v9 ((decide ((0 : Int) ≤ (Q_Desk_due x2 v9))) && ((decide (n7 < (0 : Int))) || (decide ((Q_Desk_due x2 v9) < n7))))
  else
    Option.map .inr (some (n7, (0 : Int), x2))

noncomputable def Q_Desk_Wake_l1 (x2 : Fleetref2_Desk) (n7 : Int) (n8 : Int) : Option (Int × Int × Fleetref2_Desk) :=
  iter (fun x : Int × Int => Q_Desk_Wake_b1 x2 x.1 x.2) (n7, n8)

noncomputable def Q_Desk_Wake (p0x0 : Fleetref2_Desk) (p1x0 : Int) : Option (Int × Int × Fleetref2_Desk) :=
  (Q_Desk_turn_c0x4x p0x0 p1x0).bind fun v1 =>
  casesO v1.1 (
    if v1.2 ≠ (0 : Int) then
      some ((0 : Int), v1.2, p0x0)
    else
      none) (fun x2 =>
    if v1.2 ≠ (0 : Int) then
      some ((0 : Int), v1.2, p0x0)
    else
      Q_Desk_Wake_l1 x2 (-1 : Int) (0 : Int))

noncomputable def L_officeStep_j4 (v11 : Int × Fleetmake_Stream) (v12 : (List Letter) × Int × Command_Office) (v15 : (List Letter) × Int × Fleetref2_Desk) (c18 : Bool) : Option (Bool × Fleetmake_Stream × Command_Office × Fleetref2_Desk) :=
  some (c18, v11.2, v12.2.2, v15.2.2)

noncomputable def L_officeStep_j6 (v1 : Int × Fleetmake_Stream) (v40 : Int × Int × Command_Office) (v42 : Int × Int × Fleetref2_Desk) (c44 : Bool) : Option (Bool × Fleetmake_Stream × Command_Office × Fleetref2_Desk) :=
  some (c44, v1.2, v40.2.2, v42.2.2)

noncomputable def L_officeStep_j5 (p1x0 : Command_Office) (p2x0 : Fleetref2_Desk) (p3x0 : Int) (p4x0 : Str) (v1 : Int × Fleetmake_Stream) (c20 : Bool) : Option (Bool × Fleetmake_Stream × Command_Office × Fleetref2_Desk) :=
  if c20 = true then
    (Stream_Flip v1.2 (2 : Int)).bind fun v21 =>
    (command_Office_Answer p1x0 p4x0 p3x0 v21.1).bind fun v22 =>
    (Q_Desk_Answer p2x0 p4x0 p3x0 v21.1).bind fun v24 =>
    some (decide (v22.1 = v24.1), v21.2, v22.2, v24.2)
  else
    if v1.1 = (7 : Int) then
      (command_Office_Withdraw p1x0 p4x0 p3x0).bind fun v26 =>
      (Q_Desk_Withdraw p2x0 p4x0 p3x0).bind fun v28 =>
      some (decide (v26.1 = v28.1), v1.2, v26.2, v28.2)
    else
      (command_Office_Note p1x0 p4x0 p3x0).bind fun v30 =>
      (Q_Desk_Note p2x0 p4x0 p3x0).bind fun v33 =>
      (command_Office_Waiting v30.2.2 p3x0).bind fun v36 =>
      (Q_Desk_Waiting v33.2.2 p3x0).bind fun v38 =>
      (command_Office_Wake v36.2.2 p3x0).bind fun v40 =>
      (Q_Desk_Wake v38.2.2 p3x0).bind fun v42 =>
      L_officeStep_j6 v1 v40 v42 ((decide (v30.1 = v33.1)) && ((decide (v30.2.1 = v33.2.1)) && ((decide (v36.1 = v38.1)) && ((decide (v36.2.1 = v38.2.1)) && ((decide (v40.1 = v42.1)) && (decide (v40.2.1 = v42.2.1)))))))

noncomputable def L_officeStep_j3 (p1x0 : Command_Office) (p2x0 : Fleetref2_Desk) (p3x0 : Int) (p4x0 : Str) (v1 : Int × Fleetmake_Stream) (c10 : Bool) : Option (Bool × Fleetmake_Stream × Command_Office × Fleetref2_Desk) :=
  if c10 = true then
    (Stream_Pick v1.2 [(1 : Int), (1 : Int), (2 : Int), (9 : Int), (0 : Int), (-1 : Int), (501 : Int)]).bind fun v11 =>
    (command_Office_Fetch p1x0 p3x0 v11.1).bind fun v12 =>
    (Q_Desk_Fetch p2x0 p3x0 v11.1).bind fun v15 =>
    if v12.2.1 = v15.2.1 then
      (slices_Equal_Letter_Letter v12.1 v15.1).bind fun v19 =>
      L_officeStep_j4 v11 v12 v15 v19
    else
      L_officeStep_j4 v11 v12 v15 false
  else
    if v1.1 = (5 : Int) then
      L_officeStep_j5 p1x0 p2x0 p3x0 p4x0 v1 (decide (v1.1 = (5 : Int)))
    else
      L_officeStep_j5 p1x0 p2x0 p3x0 p4x0 v1 (decide (v1.1 = (6 : Int)))

noncomputable def L_officeStep_j1 (p1x0 : Command_Office) (p2x0 : Fleetref2_Desk) (p3x0 : Int) (p4x0 : Str) (v1 : Int × Fleetmake_Stream) (c2 : Bool) : Option (Bool × Fleetmake_Stream × Command_Office × Fleetref2_Desk) :=
  if c2 = true then
    (Stream_Letter v1.2 p3x0).bind fun v4 =>
    (command_Office_Put p1x0 v4.1).bind fun v6 =>
    (Q_Desk_Put p2x0 v4.1).bind fun v8 =>
    some (decide (v6.1 = v8.1), v4.2, v6.2, v8.2)
  else
    if v1.1 = (3 : Int) then
      L_officeStep_j3 p1x0 p2x0 p3x0 p4x0 v1 (decide (v1.1 = (3 : Int)))
    else
      L_officeStep_j3 p1x0 p2x0 p3x0 p4x0 v1 (decide (v1.1 = (4 : Int)))

noncomputable def L_officeStep_j2 (p1x0 : Command_Office) (p2x0 : Fleetref2_Desk) (p3x0 : Int) (p4x0 : Str) (v1 : Int × Fleetmake_Stream) (c3 : Bool) : Option (Bool × Fleetmake_Stream × Command_Office × Fleetref2_Desk) :=
  L_officeStep_j1 p1x0 p2x0 p3x0 p4x0 v1 c3

noncomputable def L_officeStep (p0x0 : Fleetmake_Stream) (p1x0 : Command_Office) (p2x0 : Fleetref2_Desk) (p3x0 : Int) (p4x0 : Str) : Option (Bool × Fleetmake_Stream × Command_Office × Fleetref2_Desk) :=
  (Stream_Next p0x0 (9 : Int)).bind fun v1 =>
  if v1.1 = (0 : Int) then
    L_officeStep_j1 p1x0 p2x0 p3x0 p4x0 v1 (decide (v1.1 = (0 : Int)))
  else
    if v1.1 = (1 : Int) then
      L_officeStep_j2 p1x0 p2x0 p3x0 p4x0 v1 (decide (v1.1 = (1 : Int)))
    else
      L_officeStep_j2 p1x0 p2x0 p3x0 p4x0 v1 (decide (v1.1 = (2 : Int)))

noncomputable def command_Office_Notes_1x (p0x0 : Note) (p1x0 : Note) : Int :=
  (Lib.compareBytes p0x0.Letter.Id p1x0.Letter.Id)

noncomputable def command_Office_Notes_b1 (v1m : Str × Note) (l9 : List Note) : Option ((List Note) ⊕ ((List Note) × Int × Command_Office)) :=
  (app l9 [v1m.2]).bind fun l13 =>
  some (.inl l13)

noncomputable def command_Office_Notes_f1 (p0x0 : Command_Office) (p1x0 : Int) (v2 : (List (Str × Note))) (l9 : List Note) : Option ((List Note) × Int × Command_Office) :=
  (lenOk l9.length (fun r : (List Note) => r.length) (slices_SortFunc_Note_Note l9 (fun y0 y1 => some (command_Office_Notes_1x y0 y1)))).bind fun v11 =>
  some (v11, (0 : Int), (command_Office_keep p0x0 v2 p1x0))

noncomputable def command_Office_Notes_l1 (p0x0 : Command_Office) (p1x0 : Int) (v2 : (List (Str × Note))) (l9 : List Note) : Option ((List Note) × Int × Command_Office) :=
  overP ((command_Office_keep p0x0 v2 p1x0).notes_) (fun p => loopL (fun e (x : (List Note)) => command_Office_Notes_b1 e x) (fun x : (List Note) => command_Office_Notes_f1 p0x0 p1x0 v2 x) p l9)

noncomputable def command_Office_Notes (p0x0 : Command_Office) (p1x0 : Int) : Option ((List Note) × Int × Command_Office) :=
  if (command_Office_timeFault p0x0 p1x0) ≠ (0 : Int) then
    some ([], (command_Office_timeFault p0x0 p1x0), p0x0)
  else
    (command_Office_aged p0x0 p1x0).bind fun v2 =>
    command_Office_Notes_l1 p0x0 p1x0 v2 []

noncomputable def Q_Desk_Notes (p0x0 : Fleetref2_Desk) (p1x0 : Int) : Option ((List Note) × Int × Fleetref2_Desk) :=
  (Q_Desk_turn_c0x4x p0x0 p1x0).bind fun v1 =>
  casesO v1.1 (
    if v1.2 ≠ (0 : Int) then
      some ([], v1.2, p0x0)
    else
      none) (fun x2 =>
    if v1.2 ≠ (0 : Int) then
      some ([], v1.2, p0x0)
    else
      (slices_Clone_Note_Note x2.L).bind fun v7 =>
      some (v7, (0 : Int), x2))

noncomputable def slices_Equal_Note_Note_b1 (p0x0 : List Note) (p1x0 : List Note) (n2 : Int) : Option (Int ⊕ Bool) :=
  if n2 < (p0x0.length : Int) then
    (idx p0x0 n2).bind fun v3 =>
    (idx p1x0 n2).bind fun v4 =>
    if v3 ≠ v4 then
      Option.map .inr (some false)
    else
      some (.inl (w64 (n2 + (1 : Int))))
  else
    Option.map .inr (some true)

noncomputable def slices_Equal_Note_Note_l1 (p0x0 : List Note) (p1x0 : List Note) (n2 : Int) : Option Bool :=
  iter (fun x : Int => slices_Equal_Note_Note_b1 p0x0 p1x0 x) n2

noncomputable def slices_Equal_Note_Note (p0x0 : List Note) (p1x0 : List Note) : Option Bool :=
  if (p0x0.length : Int) ≠ (p1x0.length : Int) then
    some false
  else
    slices_Equal_Note_Note_l1 p0x0 p1x0 (0 : Int)

noncomputable def L_OfficesKeep_j2 (c6 : Bool) : Option Bool :=
  some c6

noncomputable def L_OfficesKeep_j1 (v2 : Post × Fleetmake_Stream) (c5 : Bool) : Option Bool :=
  if c5 = true then
    if ((command_New v2.1).2) = (Q_PostFault v2.1) then
      (L_posted).bind fun v7 =>
      L_OfficesKeep_j2 v7
    else
      L_OfficesKeep_j2 false
  else
    some false

noncomputable def L_OfficesKeep_j4 : Option Bool :=
  some false

noncomputable def L_OfficesKeep_j6 (n47 : Int) (n48 : Int) (v50 : Int × Fleetmake_Stream) (v57 : Bool × Fleetmake_Stream × Command_Office × Fleetref2_Desk) (v60 : (List Note) × Int × Command_Office) (v63 : (List Note) × Int × Fleetref2_Desk) (c66 : Bool) : Option (((List Int) × Int × Int × Int × Int × Int × (List (Str × Note)) × Int × Int × Int × Int × Int × (List Note) × Int × Int × Int) ⊕ Bool) :=
  if c66 = true then
    Option.map .inr (some false)
  else
    some (.inl (v57.2.1.L, v57.2.1.at_, v60.2.2.post_.Room, v60.2.2.post_.Timeout, v60.2.2.post_.Tries, v60.2.2.post_.Kept, v60.2.2.notes_, v60.2.2.time_, v63.2.2.P.Room, v63.2.2.P.Timeout, v63.2.2.P.Tries, v63.2.2.P.Kept, v63.2.2.L, v63.2.2.time_, w64 (n47 + v50.1), w64 (n48 + (1 : Int))))

noncomputable def L_OfficesKeep_j5 (n33 : Int) (n34 : Int) (n35 : Int) (n36 : Int) (l38 : List (Str × Note)) (n39 : Int) (n40 : Int) (n41 : Int) (n42 : Int) (n43 : Int) (l45 : List Note) (n46 : Int) (n47 : Int) (n48 : Int) (v50 : Int × Fleetmake_Stream) (v51 : Str × Fleetmake_Stream) (l53 : List Int) (n54 : Int) (n55 : Int) : Option (((List Int) × Int × Int × Int × Int × Int × (List (Str × Note)) × Int × Int × Int × Int × Int × (List Note) × Int × Int × Int) ⊕ Bool) :=
  (L_officeStep (⟨l53, n54⟩ : Fleetmake_Stream) (⟨(⟨n33, n34, n35, n36⟩ : Post), l38, n39⟩ : Command_Office) (⟨(⟨n40, n41, n42, n43⟩ : Post), l45, n46⟩ : Fleetref2_Desk) n55 v51.1).bind fun v57 =>
  if (!v57.1) = true then
    Option.map .inr (some false)
  else
    (command_Office_Notes v57.2.2.1 n55).bind fun v60 =>
    (Q_Desk_Notes v57.2.2.2 n55).bind fun v63 =>
    if v60.2.1 ≠ v63.2.1 then
      L_OfficesKeep_j6 n47 n48 v50 v57 v60 v63 true
    else
      (slices_Equal_Note_Note v60.1 v63.1).bind fun v67 =>
      L_OfficesKeep_j6 n47 n48 v50 v57 v60 v63 (!v67)

noncomputable def L_OfficesKeep_k7 : Option Bool :=
  (L_posted).bind fun v68 =>
  some v68

noncomputable def L_OfficesKeep_b1 (v12 : Int × Fleetmake_Stream) (l31 : List Int) (n32 : Int) (n33 : Int) (n34 : Int) (n35 : Int) (n36 : Int) (l38 : List (Str × Note)) (n39 : Int) (n40 : Int) (n41 : Int) (n42 : Int) (n43 : Int) (l45 : List Note) (n46 : Int) (n47 : Int) (n48 : Int) : Option (((List Int) × Int × Int × Int × Int × Int × (List (Str × Note)) × Int × Int × Int × Int × Int × (List Note) × Int × Int × Int) ⊕ Bool) :=
  if n48 < v12.1 then
    (Stream_Pick (⟨l31, n32⟩ : Fleetmake_Stream) [(0 : Int), (0 : Int), (1 : Int), (2 : Int), (5 : Int), (10 : Int)]).bind fun v50 =>
    (Stream_Some v50.2 [([108, 97] : Str), ([108, 98] : Str), ([108, 99] : Str), ([108, 100] : Str), ([110, 111, 110, 101] : Str)]).bind fun v51 =>
    (Stream_Flip v51.2 (25 : Int)).bind fun v52 =>
    if v52.1 = true then
      (Stream_Pick v52.2 [(-1 : Int), (345686400000 : Int), w64 ((w64 (n47 + v50.1)) - (1 : Int))]).bind fun v56 =>
      L_OfficesKeep_j5 n33 n34 n35 n36 l38 n39 n40 n41 n42 n43 l45 n46 n47 n48 v50 v51 v56.2.L v56.2.at_ v56.1
    else
      L_OfficesKeep_j5 n33 n34 n35 n36 l38 n39 n40 n41 n42 n43 l45 n46 n47 n48 v50 v51 v52.2.L v52.2.at_ (w64 (n47 + v50.1))
  else
    Option.map .inr (L_OfficesKeep_k7)

noncomputable def L_OfficesKeep_l1 (v12 : Int × Fleetmake_Stream) (l31 : List Int) (n32 : Int) (n33 : Int) (n34 : Int) (n35 : Int) (n36 : Int) (l38 : List (Str × Note)) (n39 : Int) (n40 : Int) (n41 : Int) (n42 : Int) (n43 : Int) (l45 : List Note) (n46 : Int) (n47 : Int) (n48 : Int) : Option Bool :=
  iter (fun x : (List Int) × Int × Int × Int × Int × Int × (List (Str × Note)) × Int × Int × Int × Int × Int × (List Note) × Int × Int × Int => L_OfficesKeep_b1 v12 x.1 x.2.1 x.2.2.1 x.2.2.2.1 x.2.2.2.2.1 x.2.2.2.2.2.1 x.2.2.2.2.2.2.1 x.2.2.2.2.2.2.2.1 x.2.2.2.2.2.2.2.2.1 x.2.2.2.2.2.2.2.2.2.1 x.2.2.2.2.2.2.2.2.2.2.1 x.2.2.2.2.2.2.2.2.2.2.2.1 x.2.2.2.2.2.2.2.2.2.2.2.2.1 x.2.2.2.2.2.2.2.2.2.2.2.2.2.1 x.2.2.2.2.2.2.2.2.2.2.2.2.2.2.1 x.2.2.2.2.2.2.2.2.2.2.2.2.2.2.2) (l31, n32, n33, n34, n35, n36, l38, n39, n40, n41, n42, n43, l45, n46, n47, n48)

noncomputable def L_OfficesKeep_j3 (v2 : Post × Fleetmake_Stream) (x4 : Command_Office) (c10 : Bool) : Option Bool :=
  if c10 = true then
    if ((command_New v2.1).2) = (Q_PostFault v2.1) then
      L_OfficesKeep_j4
    else
      L_OfficesKeep_j4
  else
    (Stream_Range v2.2 (1 : Int) (18 : Int)).bind fun v12 =>
    L_OfficesKeep_l1 v12 v12.2.L v12.2.at_ x4.post_.Room x4.post_.Timeout x4.post_.Tries x4.post_.Kept x4.notes_ x4.time_ v2.1.Room v2.1.Timeout v2.1.Tries v2.1.Kept [] (0 : Int) (0 : Int) (0 : Int)

noncomputable def L_OfficesKeep (p0x0 : List Int) : Option Bool :=
  (Stream_Post (⟨p0x0, (0 : Int)⟩ : Fleetmake_Stream)).bind fun v2 =>
  casesO ((command_New v2.1).1) (
    L_OfficesKeep_j1 v2 ((decide (((command_New v2.1).2) ≠ (Q_PostFault v2.1))) || (decide ((Q_PostFault v2.1) ≠ (0 : Int))))) (fun x4 =>
    L_OfficesKeep_j3 v2 x4 ((decide (((command_New v2.1).2) ≠ (Q_PostFault v2.1))) || (decide ((Q_PostFault v2.1) ≠ (0 : Int)))))

end Go.Beacon
