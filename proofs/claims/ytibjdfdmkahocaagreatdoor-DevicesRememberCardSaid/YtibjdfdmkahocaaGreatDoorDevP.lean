/- Plain functions that the Go functions compute, written by shal.py. -/
import Derived.Test.YtibjdfdmkahocaaGreatDoorCore
set_option linter.unusedVariables false
namespace Go.Beacon
open Go Go.Eng
structure Fleetmake_Stream where
  L : List Int
  at_ : Int
deriving DecidableEq, Inhabited
def Fleetmake_Stream.av (x : Fleetmake_Stream) : AV := .agg [.list 1 (x.L.map I), I x.at_]

structure Command_done where
  id_ : Str
  until_ : Int
deriving DecidableEq, Inhabited
def Command_done.av (x : Command_done) : AV := .agg [.str x.id_, I x.until_]

structure Command_Doer where
  most_ : Int
  l_ : List Command_done
  time_ : Int
deriving DecidableEq, Inhabited
def Command_Doer.av (x : Command_Doer) : AV := .agg [I x.most_, .list 2 (x.l_.map Command_done.av), I x.time_]

structure Post where
  Room : Int
  Timeout : Int
  Tries : Int
  Kept : Int
deriving DecidableEq, Inhabited
def Post.av (x : Post) : AV := .agg [I x.Room, I x.Timeout, I x.Tries, I x.Kept]

structure Letter where
  Id : Str
  Slot : Str
  Body : Str
  Prio : Int
  At : Int
  Until : Int
deriving DecidableEq, Inhabited
def Letter.av (x : Letter) : AV := .agg [.str x.Id, .str x.Slot, .str x.Body, I x.Prio, I x.At, I x.Until]

structure Note where
  Letter : Letter
  State : Int
  Tries : Int
  Since : Int
deriving DecidableEq, Inhabited
def Note.av (x : Note) : AV := .agg [.str x.Letter.Id, .str x.Letter.Slot, .str x.Letter.Body, I x.Letter.Prio, I x.Letter.At, I x.Letter.Until, I x.State, I x.Tries, I x.Since]

structure Command_Office where
  post_ : Post
  notes_ : List (Str × Note)
  time_ : Int
deriving DecidableEq, Inhabited

structure Fleetref2_Hand where
  Most : Int
  L : List Letter
  time_ : Int
deriving DecidableEq, Inhabited
def Fleetref2_Hand.av (x : Fleetref2_Hand) : AV := .agg [I x.Most, .list 6 (x.L.map Letter.av), I x.time_]

noncomputable def Below_j1 (n2 : Int) : Option Int :=
  some n2

noncomputable def Below (p0x0 : Int) (p1x0 : Int) : Option Int :=
  if p1x0 < (1 : Int) then
    some (0 : Int)
  else
    (rem p0x0 p1x0).bind fun n1 =>
    if n1 < (0 : Int) then
      Below_j1 (w64 (n1 + p1x0))
    else
      Below_j1 n1

noncomputable def Stream_Next (p0x0 : Fleetmake_Stream) (p1x0 : Int) : Option (Int × Fleetmake_Stream) :=
  if (p0x0.L.length : Int) = (0 : Int) then
    (Below (w64 ((w64 (p0x0.at_ + (1 : Int))) * (7919 : Int))) p1x0).bind fun v1 =>
    some (v1, (⟨p0x0.L, w64 (p0x0.at_ + (1 : Int))⟩ : Fleetmake_Stream))
  else
    (rem (w64 ((w64 (p0x0.at_ + (1 : Int))) - (1 : Int))) (p0x0.L.length : Int)).bind fun n2 =>
    (quo (w64 ((w64 (p0x0.at_ + (1 : Int))) - (1 : Int))) (p0x0.L.length : Int)).bind fun n3 =>
    (idx p0x0.L n2).bind fun v4 =>
    (Below v4 (1073741824 : Int)).bind fun v5 =>
    (Below (w64 (v5 + (w64 (n3 * (w64 ((7919 : Int) + n2)))))) p1x0).bind fun v6 =>
    some (v6, (⟨p0x0.L, w64 (p0x0.at_ + (1 : Int))⟩ : Fleetmake_Stream))

noncomputable def Stream_Pick (p0x0 : Fleetmake_Stream) (p1x0 : List Int) : Option (Int × Fleetmake_Stream) :=
  (Stream_Next p0x0 (p1x0.length : Int)).bind fun v1 =>
  (idx p1x0 v1.1).bind fun v2 =>
  some (v2, v1.2)

noncomputable def base_Out_j1 (c1 : Bool) : Bool :=
  c1

noncomputable def base_Out (p0x0 : Int) (p1x0 : Int) (p2x0 : Int) : Bool :=
  base_Out_j1 ((decide (p0x0 < p1x0)) || (decide (p2x0 < p0x0)))

noncomputable def command_NewDoer (p0x0 : Int) : (Option Command_Doer) × Int :=
  if (base_Out p0x0 (1 : Int) (1000 : Int)) = true then
    (none, (1 : Int))
  else
    (some (⟨p0x0, [], (0 : Int)⟩ : Command_Doer), (0 : Int))

noncomputable def L_when (p0x0 : Bool) (p1x0 : Int) : Int :=
  if p0x0 = true then
    p1x0
  else
    (0 : Int)

noncomputable def command_CheckPost_j1 (c2 : Bool) : Int :=
  if c2 = true then
    (1 : Int)
  else
    (0 : Int)

noncomputable def command_CheckPost (p0x0 : Post) : Int :=
  command_CheckPost_j1 ((base_Out p0x0.Room (1 : Int) (500 : Int)) || ((base_Out p0x0.Timeout (1 : Int) (86400000 : Int)) || ((base_Out p0x0.Tries (1 : Int) (20 : Int)) || (base_Out p0x0.Kept (0 : Int) (1000 : Int)))))

noncomputable def command_New (p0x0 : Post) : (Option Command_Office) × Int :=
  if (command_CheckPost p0x0) ≠ (0 : Int) then
    (none, (command_CheckPost p0x0))
  else
    (some (⟨p0x0, [], (0 : Int)⟩ : Command_Office), (0 : Int))

noncomputable def base_Key_j2 (n5 : Int) (c7 : Bool) : Option (Int ⊕ Bool) :=
  if c7 = true then
    Option.map .inr (some false)
  else
    some (.inl (w64 (n5 + (1 : Int))))

noncomputable def base_Key_b1 (p0x0 : Str) (n5 : Int) : Option (Int ⊕ Bool) :=
  if n5 < (p0x0.length : Int) then
    (idx p0x0 n5).bind fun c6 =>
    base_Key_j2 n5 (if (97 : Int) ≤ (c6.toNat : Int) then if (c6.toNat : Int) ≤ (122 : Int) then !true else if (48 : Int) ≤ (c6.toNat : Int) then if (c6.toNat : Int) ≤ (57 : Int) then !true else if (c6.toNat : Int) = (45 : Int) then !true else decide (¬ ((c6.toNat : Int) = (95 : Int))) else if (c6.toNat : Int) = (45 : Int) then !true else decide (¬ ((c6.toNat : Int) = (95 : Int))) else if (48 : Int) ≤ (c6.toNat : Int) then if (c6.toNat : Int) ≤ (57 : Int) then !true else if (c6.toNat : Int) = (45 : Int) then !true else decide (¬ ((c6.toNat : Int) = (95 : Int))) else if (c6.toNat : Int) = (45 : Int) then !true else decide (¬ ((c6.toNat : Int) = (95 : Int))))
  else
    Option.map .inr (some true)

noncomputable def base_Key_l1 (p0x0 : Str) (n5 : Int) : Option Bool :=
  iter (fun x : Int => base_Key_b1 p0x0 x) n5

noncomputable def base_Key_j1 (p0x0 : Str) (c1 : Bool) : Option Bool :=
  if c1 = true then
    some false
  else
    base_Key_l1 p0x0 (0 : Int)

noncomputable def base_Key (p0x0 : Str) : Option Bool :=
  if p0x0 = ([] : Str) then
    base_Key_j1 p0x0 true
  else
    if (40 : Int) < (p0x0.length : Int) then
      base_Key_j1 p0x0 true
    else
      (idx p0x0 (0 : Int)).bind fun c2 =>
      if (c2.toNat : Int) < (97 : Int) then
        base_Key_j1 p0x0 true
      else
        (idx p0x0 (0 : Int)).bind fun c3 =>
        base_Key_j1 p0x0 (decide ((122 : Int) < (c3.toNat : Int)))

noncomputable def base_Unmarked_j1 (n2 : Int) (c3 : Bool) : Option (Int ⊕ Bool) :=
  if c3 = true then
    Option.map .inr (some false)
  else
    some (.inl (w64 (n2 + (1 : Int))))

noncomputable def base_Unmarked_k2 (p0x0 : Str) : Option Bool :=
  (validO p0x0).bind fun v6 =>
  some v6

noncomputable def base_Unmarked_b1 (p0x0 : Str) (n2 : Int) : Option (Int ⊕ Bool) :=
  if n2 < (p0x0.length : Int) then
    (idx p0x0 n2).bind fun c4 =>
    if (c4.toNat : Int) < (32 : Int) then
      base_Unmarked_j1 n2 true
    else
      (idx p0x0 n2).bind fun c5 =>
      base_Unmarked_j1 n2 (decide ((c5.toNat : Int) = (127 : Int)))
  else
    Option.map .inr (base_Unmarked_k2 p0x0)

noncomputable def base_Unmarked_l1 (p0x0 : Str) (n2 : Int) : Option Bool :=
  iter (fun x : Int => base_Unmarked_b1 p0x0 x) n2

noncomputable def base_Unmarked (p0x0 : Str) : Option Bool :=
  base_Unmarked_l1 p0x0 (0 : Int)

noncomputable def base_Moment (p0x0 : Int) : Bool :=
  !(base_Out p0x0 (0 : Int) (345686399999 : Int))

noncomputable def command_CheckLetter_j2 (c6 : Bool) : Option Int :=
  if c6 = true then
    some (1 : Int)
  else
    some (0 : Int)

noncomputable def command_CheckLetter_j1 (p0x0 : Letter) (c2 : Bool) : Option Int :=
  if c2 = true then
    some (5 : Int)
  else
    if (1000 : Int) < (p0x0.Body.length : Int) then
      some (2 : Int)
    else
      (base_Unmarked p0x0.Body).bind fun v5 =>
      if (!v5) = true then
        some (3 : Int)
      else
        command_CheckLetter_j2 ((base_Out p0x0.Prio (0 : Int) (9 : Int)) || ((!(base_Moment p0x0.At)) || ((decide (p0x0.Until ≤ p0x0.At)) || (decide ((345686400000 : Int) < p0x0.Until)))))

noncomputable def command_CheckLetter (p0x0 : Letter) : Option Int :=
  (base_Key p0x0.Id).bind fun v3 =>
  if (!v3) = true then
    command_CheckLetter_j1 p0x0 true
  else
    if p0x0.Slot ≠ ([] : Str) then
      (base_Key p0x0.Slot).bind fun v4 =>
      command_CheckLetter_j1 p0x0 (!v4)
    else
      command_CheckLetter_j1 p0x0 false

noncomputable def command_Office_timeFault (p0x0 : Command_Office) (p1x0 : Int) : Int :=
  if (!(base_Moment p1x0)) = true then
    (1 : Int)
  else
    if p1x0 < p0x0.time_ then
      (7 : Int)
    else
      (0 : Int)

noncomputable def base_First_b1 (p0x0 : List Int) (n2 : Int) : Option (Int ⊕ Int) :=
  if n2 < (p0x0.length : Int) then
    (idx p0x0 n2).bind fun v3 =>
    if v3 ≠ (0 : Int) then
      Option.map .inr (some v3)
    else
      some (.inl (w64 (n2 + (1 : Int))))
  else
    Option.map .inr (some (0 : Int))

noncomputable def base_First_l1 (p0x0 : List Int) (n2 : Int) : Option Int :=
  iter (fun x : Int => base_First_b1 p0x0 x) n2

noncomputable def base_First (p0x0 : List Int) : Option Int :=
  base_First_l1 p0x0 (0 : Int)

noncomputable def command_ended (p0x0 : Int) : Bool :=
  decide ((3 : Int) ≤ p0x0)

noncomputable def command_Office_turn (p0x0 : Command_Office) (p1x0 : Note) : Int :=
  if p1x0.State = (2 : Int) then
    min p1x0.Letter.Until (w64 (p1x0.Since + p0x0.post_.Timeout))
  else
    p1x0.Letter.Until

noncomputable def command_Office_grown_j1 (p1x0 : Note) (n3 : Int) (n4 : Int) : Option Note :=
  some (⟨p1x0.Letter, n3, p1x0.Tries, n4⟩ : Note)

noncomputable def command_Office_grown_j2 (p0x0 : Command_Office) (p1x0 : Note) (n7 : Int) (n8 : Int) (n9 : Int) : Option ((Int × Int) ⊕ Note) :=
  some (.inl (n9, (command_Office_turn p0x0 (⟨p1x0.Letter, n7, p1x0.Tries, n8⟩ : Note))))

noncomputable def command_Office_grown_j3 (p0x0 : Command_Office) (p1x0 : Note) (n7 : Int) (n8 : Int) (n10 : Int) : Option ((Int × Int) ⊕ Note) :=
  command_Office_grown_j2 p0x0 p1x0 n7 n8 n10

noncomputable def command_Office_grown_b1 (p0x0 : Command_Office) (p1x0 : Note) (p2x0 : Int) (n7 : Int) (n8 : Int) : Option ((Int × Int) ⊕ Note) :=
  if (!(command_ended n7)) = true then
    if p2x0 < (command_Office_turn p0x0 (⟨p1x0.Letter, n7, p1x0.Tries, n8⟩ : Note)) then
      Option.map .inr (command_Office_grown_j1 p1x0 n7 n8)
    else
      if (command_Office_turn p0x0 (⟨p1x0.Letter, n7, p1x0.Tries, n8⟩ : Note)) = p1x0.Letter.Until then
        command_Office_grown_j2 p0x0 p1x0 n7 n8 (5 : Int)
      else
        if p1x0.Tries = p0x0.post_.Tries then
          command_Office_grown_j3 p0x0 p1x0 n7 n8 (7 : Int)
        else
          command_Office_grown_j3 p0x0 p1x0 n7 n8 (1 : Int)
  else
    Option.map .inr (command_Office_grown_j1 p1x0 n7 n8)

noncomputable def command_Office_grown_l1 (p0x0 : Command_Office) (p1x0 : Note) (p2x0 : Int) (n7 : Int) (n8 : Int) : Option Note :=
  iter (fun x : Int × Int => command_Office_grown_b1 p0x0 p1x0 p2x0 x.1 x.2) (n7, n8)

noncomputable def command_Office_grown (p0x0 : Command_Office) (p1x0 : Note) (p2x0 : Int) : Option Note :=
  command_Office_grown_l1 p0x0 p1x0 p2x0 p1x0.State p1x0.Since

noncomputable def cmp_isNaN_int (p0x0 : Int) : Bool :=
  decide (p0x0 ≠ p0x0)

noncomputable def cmp_Compare_int (p0x0 : Int) (p1x0 : Int) : Int :=
  if (cmp_isNaN_int p0x0) = true then
    if (cmp_isNaN_int p1x0) = true then
      (0 : Int)
    else
      (-1 : Int)
  else
    if (cmp_isNaN_int p1x0) = true then
      (1 : Int)
    else
      if p0x0 < p1x0 then
        (-1 : Int)
      else
        if p1x0 < p0x0 then
          (1 : Int)
        else
          (0 : Int)

noncomputable def cmp_Or_int_b1 (p0x0 : List Int) (n2 : Int) : Option (Int ⊕ Int) :=
  if n2 < (p0x0.length : Int) then
    (idx p0x0 n2).bind fun v3 =>
    if v3 ≠ (0 : Int) then
      Option.map .inr (some v3)
    else
      some (.inl (w64 (n2 + (1 : Int))))
  else
    Option.map .inr (some (0 : Int))

noncomputable def cmp_Or_int_l1 (p0x0 : List Int) (n2 : Int) : Option Int :=
  iter (fun x : Int => cmp_Or_int_b1 p0x0 x) n2

noncomputable def cmp_Or_int (p0x0 : List Int) : Option Int :=
  cmp_Or_int_l1 p0x0 (0 : Int)

noncomputable def command_Office_aged_1x (p0x0 : Note) (p1x0 : Note) : Option Int :=
  (cmp_Or_int [(cmp_Compare_int p0x0.Since p1x0.Since), (Lib.compareBytes p0x0.Letter.Id p1x0.Letter.Id)]).bind fun v3 =>
  some v3

/-- Sorted by Go. -/
noncomputable def slices_SortFunc_Note_Note (p0x0 : List Note) (fnb : Note → Note → Option Int) : Option (List Note) :=
  sortO fnb p0x0

noncomputable def command_Office_aged_j1 (l6 : List (Str × Note)) (v1m : Str × Note) (v19 : Note) (l21 : List Note) : Option (((List (Str × Note)) × (List Note)) ⊕ (List (Str × Note))) :=
  some (.inl (mset l6 v1m.1 v19, l21))

noncomputable def command_Office_aged_b1 (p0x0 : Command_Office) (p1x0 : Int) (v1m : Str × Note) (l6 : List (Str × Note)) (l8 : List Note) : Option (((List (Str × Note)) × (List Note)) ⊕ (List (Str × Note))) :=
  (command_Office_grown p0x0 v1m.2 p1x0).bind fun v19 =>
  if (command_ended v19.State) = true then
    (app l8 [v19]).bind fun l22 =>
    command_Office_aged_j1 l6 v1m v19 l22
  else
    command_Office_aged_j1 l6 v1m v19 l8

noncomputable def command_Office_aged_b2 (v10 : (List Note)) (l11 : List Note) (l14 : List (Str × Note)) (n15 : Int) : Option (((List (Str × Note)) × Int) ⊕ (List (Str × Note))) :=
  if n15 < (l11.length : Int) then
    (idxS v10 (0 : Int) l11.length n15).bind fun v16 =>
    some (.inl (mdel l14 v16.Letter.Id, w64 (n15 + (1 : Int))))
  else
    Option.map .inr (some l14)

noncomputable def command_Office_aged_l2 (v10 : (List Note)) (l11 : List Note) (l14 : List (Str × Note)) (n15 : Int) : Option (List (Str × Note)) :=
  iter (fun x : (List (Str × Note)) × Int => command_Office_aged_b2 v10 l11 x.1 x.2) (l14, n15)

noncomputable def command_Office_aged_f1 (p0x0 : Command_Office) (l6 : List (Str × Note)) (l8 : List Note) : Option (List (Str × Note)) :=
  (lenOk l8.length (fun r : (List Note) => r.length) (slices_SortFunc_Note_Note l8 (fun y0 y1 => command_Office_aged_1x y0 y1))).bind fun v10 =>
  (slc v10 (0 : Int) (max (0 : Int) (w64 ((v10.length : Int) - p0x0.post_.Kept)))).bind fun l11 =>
  command_Office_aged_l2 v10 l11 l6 (0 : Int)

noncomputable def command_Office_aged_l1 (p0x0 : Command_Office) (p1x0 : Int) (l6 : List (Str × Note)) (l8 : List Note) : Option (List (Str × Note)) :=
  overP p0x0.notes_ (fun p => loopL (fun e (x : (List (Str × Note)) × (List Note)) => command_Office_aged_b1 p0x0 p1x0 e x.1 x.2) (fun x : (List (Str × Note)) × (List Note) => command_Office_aged_f1 p0x0 x.1 x.2) p (l6, l8))

noncomputable def command_Office_aged (p0x0 : Command_Office) (p1x0 : Int) : Option (List (Str × Note)) :=
  command_Office_aged_l1 p0x0 p1x0 [] []

noncomputable def command_pending_j1 (n5 : Int) : Option (Int ⊕ Int) :=
  some (.inl n5)

noncomputable def command_pending_b1 (v1m : Str × Note) (n3 : Int) : Option (Int ⊕ Int) :=
  if (!(command_ended v1m.2.State)) = true then
    command_pending_j1 (w64 (n3 + (1 : Int)))
  else
    command_pending_j1 n3

noncomputable def command_pending_f1 (n3 : Int) : Option Int :=
  some n3

noncomputable def command_pending_l1 (p0x0 : List (Str × Note)) (n3 : Int) : Option Int :=
  overP p0x0 (fun p => loopL (fun e (x : Int) => command_pending_b1 e x) (fun x : Int => command_pending_f1 x) p n3)

noncomputable def command_pending (p0x0 : List (Str × Note)) : Option Int :=
  command_pending_l1 p0x0 (0 : Int)

noncomputable def command_Office_keep (p0x0 : Command_Office) (p1x0 : List (Str × Note)) (p2x0 : Int) : Command_Office :=
  (⟨p0x0.post_, p1x0, p2x0⟩ : Command_Office)

noncomputable def command_Office_Put_j4 (q19 : Str) : Option (Str ⊕ (Int × Command_Office)) :=
  some (.inl q19)

noncomputable def command_Office_Put_j3 (q10 : Str) (v1m : Str × Note) (c18 : Bool) : Option (Str ⊕ (Int × Command_Office)) :=
  if c18 = true then
    command_Office_Put_j4 v1m.1
  else
    command_Office_Put_j4 q10

noncomputable def command_Office_Put_b1 (p1x0 : Letter) (v1m : Str × Note) (q10 : Str) : Option (Str ⊕ (Int × Command_Office)) :=
  command_Office_Put_j3 q10 v1m ((decide (p1x0.Slot ≠ ([] : Str))) && ((decide (v1m.2.Letter.Slot = p1x0.Slot)) && ((decide (v1m.2.State = (1 : Int))) && (decide (v1m.2.Tries = (0 : Int))))))

noncomputable def command_Office_Put_j2 (p0x0 : Command_Office) (p1x0 : Letter) (l13 : List (Str × Note)) : Option (Int × Command_Office) :=
  some ((0 : Int), (command_Office_keep p0x0 (mset l13 p1x0.Id (⟨p1x0, (1 : Int), (0 : Int), p1x0.At⟩ : Note)) p1x0.At))

noncomputable def command_Office_Put_j1 (p0x0 : Command_Office) (p1x0 : Letter) (v4 : (List (Str × Note))) (q10 : Str) (n11 : Int) : Option (Int × Command_Office) :=
  (command_pending v4).bind fun v12 =>
  if n11 ≤ v12 then
    some ((12 : Int), p0x0)
  else
    if q10 ≠ ([] : Str) then
      (mgetO v4 q10 (⟨(⟨[], [], [], (0 : Int), (0 : Int), (0 : Int)⟩ : Letter), (0 : Int), (0 : Int), (0 : Int)⟩ : Note)).bind fun v14 =>
      command_Office_Put_j2 p0x0 p1x0 (mset v4 q10 (⟨v14.Letter, (6 : Int), v14.Tries, p1x0.At⟩ : Note))
    else
      command_Office_Put_j2 p0x0 p1x0 v4

noncomputable def command_Office_Put_f1 (p0x0 : Command_Office) (p1x0 : Letter) (v4 : (List (Str × Note))) (q10 : Str) : Option (Int × Command_Office) :=
  if q10 ≠ ([] : Str) then
    command_Office_Put_j1 p0x0 p1x0 v4 q10 (w64 (p0x0.post_.Room + (1 : Int)))
  else
    command_Office_Put_j1 p0x0 p1x0 v4 q10 p0x0.post_.Room

noncomputable def command_Office_Put_l1 (p0x0 : Command_Office) (p1x0 : Letter) (v4 : (List (Str × Note))) (q10 : Str) : Option (Int × Command_Office) :=
  overP v4 (fun p => loopL (fun e (x : Str) => command_Office_Put_b1 p1x0 e x) (fun x : Str => command_Office_Put_f1 p0x0 p1x0 v4 x) p q10)

noncomputable def command_Office_Put (p0x0 : Command_Office) (p1x0 : Letter) : Option (Int × Command_Office) :=
  (command_CheckLetter p1x0).bind fun v2 =>
  (base_First [v2, (command_Office_timeFault p0x0 p1x0.At)]).bind fun v3 =>
  if v3 ≠ (0 : Int) then
    some (v3, p0x0)
  else
    (command_Office_aged p0x0 p1x0.At).bind fun v4 =>
    (mget2 v4 p1x0.Id (⟨(⟨[], [], [], (0 : Int), (0 : Int), (0 : Int)⟩ : Letter), (0 : Int), (0 : Int), (0 : Int)⟩ : Note)).bind fun v6 =>
    if v6.2 = true then
      some ((6 : Int), p0x0)
    else
      command_Office_Put_l1 p0x0 p1x0 v4 ([] : Str)

noncomputable def command_Office_Waiting (p0x0 : Command_Office) (p1x0 : Int) : Option (Int × Int × Command_Office) :=
  if (command_Office_timeFault p0x0 p1x0) ≠ (0 : Int) then
    some ((0 : Int), (command_Office_timeFault p0x0 p1x0), p0x0)
  else
    (command_Office_aged p0x0 p1x0).bind fun v1 =>
    (command_pending ((command_Office_keep p0x0 v1 p1x0).notes_)).bind fun v4 =>
    some (v4, (0 : Int), (command_Office_keep p0x0 v1 p1x0))

noncomputable def L_posted_j1 : Option Bool :=
  some false

noncomputable def L_posted_j3 (c16 : Bool) : Option Bool :=
  some c16

noncomputable def L_posted_j2 (n4 : Int) (n5 : Int) (n6 : Int) (n7 : Int) (l9 : List (Str × Note)) (n10 : Int) (c11 : Bool) : Option Bool :=
  if c11 = true then
    some false
  else
    (command_Office_Waiting (⟨(⟨n4, n5, n6, n7⟩ : Post), l9, n10⟩ : Command_Office) (0 : Int)).bind fun v14 =>
    L_posted_j3 ((decide (v14.2.1 = (0 : Int))) && (decide (v14.1 = (1 : Int))))

noncomputable def L_posted : Option Bool :=
  casesO ((command_New (⟨(1 : Int), (1 : Int), (1 : Int), (0 : Int)⟩ : Post)).1) (
    if ((command_New (⟨(1 : Int), (1 : Int), (1 : Int), (0 : Int)⟩ : Post)).2) ≠ (0 : Int) then
      L_posted_j1
    else
      L_posted_j1) (fun x1 =>
    if ((command_New (⟨(1 : Int), (1 : Int), (1 : Int), (0 : Int)⟩ : Post)).2) ≠ (0 : Int) then
      L_posted_j2 x1.post_.Room x1.post_.Timeout x1.post_.Tries x1.post_.Kept x1.notes_ x1.time_ true
    else
      (command_Office_Put x1 (⟨([97] : Str), [], [], (0 : Int), (0 : Int), (5 : Int)⟩ : Letter)).bind fun v12 =>
      L_posted_j2 v12.2.post_.Room v12.2.post_.Timeout v12.2.post_.Tries v12.2.post_.Kept v12.2.notes_ v12.2.time_ (decide (v12.1 ≠ (0 : Int))))

noncomputable def Stream_Range (p0x0 : Fleetmake_Stream) (p1x0 : Int) (p2x0 : Int) : Option (Int × Fleetmake_Stream) :=
  if p2x0 < p1x0 then
    some (p1x0, p0x0)
  else
    (Stream_Next p0x0 (w64 ((w64 (p2x0 - p1x0)) + (1 : Int)))).bind fun v1 =>
    some (w64 (p1x0 + v1.1), v1.2)

noncomputable def Stream_Flip (p0x0 : Fleetmake_Stream) (p1x0 : Int) : Option (Bool × Fleetmake_Stream) :=
  (Stream_Next p0x0 p1x0).bind fun v1 =>
  some (decide (v1.1 = (0 : Int)), v1.2)

noncomputable def Stream_Some (p0x0 : Fleetmake_Stream) (p1x0 : List Str) : Option (Str × Fleetmake_Stream) :=
  (Stream_Next p0x0 (p1x0.length : Int)).bind fun v1 =>
  (idx p1x0 v1.1).bind fun v2 =>
  some (v2, v1.2)

noncomputable def Stream_RightLetter (p0x0 : Fleetmake_Stream) (p1x0 : Int) : Option (Letter × Fleetmake_Stream) :=
  (Stream_Some p0x0 [([108, 97] : Str), ([108, 98] : Str), ([108, 99] : Str), ([108, 100] : Str), ([108, 101] : Str), ([108, 102] : Str)]).bind fun v2 =>
  (Stream_Some v2.2 [([] : Str), ([] : Str), ([115, 97] : Str), ([115, 98] : Str)]).bind fun v3 =>
  (Stream_Some v3.2 [([100, 111] : Str), ([] : Str), ([97, 32, 34, 98, 34] : Str)]).bind fun v4 =>
  (Stream_Pick v4.2 [(0 : Int), (0 : Int), (1 : Int), (5 : Int), (9 : Int)]).bind fun v5 =>
  (Stream_Pick v5.2 [(1 : Int), (5 : Int), (10 : Int), (20 : Int), (50 : Int), (1000 : Int)]).bind fun v6 =>
  some ((⟨v2.1, v3.1, v4.1, v5.1, p1x0, w64 (p1x0 + v6.1)⟩ : Letter), v6.2)

noncomputable def Stream_Odd (p0x0 : Fleetmake_Stream) (p1x0 : Int) (p2x0 : Int) : Option (Int × Fleetmake_Stream) :=
  (Stream_Flip p0x0 (12 : Int)).bind fun v1 =>
  if v1.1 = true then
    (Stream_Pick v1.2 [w64 (p1x0 - (1 : Int)), w64 (p2x0 + (1 : Int)), p1x0, p2x0, (-1099511627776 : Int), (1099511627776 : Int)]).bind fun v2 =>
    some (v2.1, v2.2)
  else
    (Stream_Range v1.2 p1x0 p2x0).bind fun v3 =>
    some (v3.1, v3.2)

noncomputable def Stream_Letter_j1 (l5 : List Int) (n6 : Int) (q7 : Str) (q8 : Str) (q9 : Str) (n10 : Int) (n11 : Int) (n12 : Int) : Option (Letter × Fleetmake_Stream) :=
  some ((⟨q7, q8, q9, n10, n11, n12⟩ : Letter), (⟨l5, n6⟩ : Fleetmake_Stream))

noncomputable def Stream_Letter_j2 (l14 : List Int) (n15 : Int) (q16 : Str) (q17 : Str) (q18 : Str) (n19 : Int) (n20 : Int) (n21 : Int) : Option (Letter × Fleetmake_Stream) :=
  Stream_Letter_j1 l14 n15 q16 q17 q18 n19 n20 n21

noncomputable def Stream_Letter_j3 (v2 : Letter × Fleetmake_Stream) (l23 : List Int) (n24 : Int) (q25 : Str) (q26 : Str) (n27 : Int) (n28 : Int) (n29 : Int) : Option (Letter × Fleetmake_Stream) :=
  Stream_Letter_j2 l23 n24 v2.1.Id q25 q26 n27 n28 n29

noncomputable def Stream_Letter_j4 (v2 : Letter × Fleetmake_Stream) (l31 : List Int) (n32 : Int) (q33 : Str) (n34 : Int) (n35 : Int) (n36 : Int) : Option (Letter × Fleetmake_Stream) :=
  Stream_Letter_j3 v2 l31 n32 v2.1.Slot q33 n34 n35 n36

noncomputable def Stream_Letter_j5 (v2 : Letter × Fleetmake_Stream) (l39 : List Int) (n40 : Int) (n41 : Int) (n42 : Int) (n43 : Int) : Option (Letter × Fleetmake_Stream) :=
  Stream_Letter_j4 v2 l39 n40 v2.1.Body n41 n42 n43

noncomputable def Stream_Letter (p0x0 : Fleetmake_Stream) (p1x0 : Int) : Option (Letter × Fleetmake_Stream) :=
  (Stream_RightLetter p0x0 p1x0).bind fun v2 =>
  (Stream_Flip v2.2 (15 : Int)).bind fun v4 =>
  if v4.1 = true then
    (Stream_Next v4.2 (5 : Int)).bind fun v13 =>
    if v13.1 = (0 : Int) then
      (Stream_Some v13.2 [([] : Str), ([65] : Str)]).bind fun v22 =>
      Stream_Letter_j2 v22.2.L v22.2.at_ v22.1 v2.1.Slot v2.1.Body v2.1.Prio v2.1.At v2.1.Until
    else
      if v13.1 = (1 : Int) then
        (Stream_Some v13.2 [([65] : Str), ([45] : Str)]).bind fun v30 =>
        Stream_Letter_j3 v2 v30.2.L v30.2.at_ v30.1 v2.1.Body v2.1.Prio v2.1.At v2.1.Until
      else
        if v13.1 = (2 : Int) then
          (repeatO ([98] : Str) (1001 : Int)).bind fun v37 =>
          (Stream_Some v13.2 [([10] : Str), ([127] : Str), ([255] : Str), v37]).bind fun v38 =>
          Stream_Letter_j4 v2 v38.2.L v38.2.at_ v38.1 v2.1.Prio v2.1.At v2.1.Until
        else
          if v13.1 = (3 : Int) then
            (Stream_Odd v13.2 (0 : Int) (9 : Int)).bind fun v44 =>
            Stream_Letter_j5 v2 v44.2.L v44.2.at_ v44.1 v2.1.At v2.1.Until
          else
            (Stream_Odd v13.2 (0 : Int) (50 : Int)).bind fun v45 =>
            (Stream_Odd v45.2 (0 : Int) (100 : Int)).bind fun v46 =>
            Stream_Letter_j5 v2 v46.2.L v46.2.at_ v2.1.Prio v45.1 v46.1
  else
    Stream_Letter_j1 v4.2.L v4.2.at_ v2.1.Id v2.1.Slot v2.1.Body v2.1.Prio v2.1.At v2.1.Until

noncomputable def command_Doer_Do_1x (p0x0 : Command_done) (p1x0 : Letter) : Bool :=
  decide (p0x0.id_ = p1x0.Id)

noncomputable def slices_IndexFunc_command_done_command_done_b1 (p0x0 : List Command_done) (fnb : Command_done → Option Bool) (n2 : Int) : Option (Int ⊕ Int) :=
  if n2 < (p0x0.length : Int) then
    (idx p0x0 n2).bind fun v3 =>
    (fnb v3).bind fun v4 =>
    if v4 = true then
      Option.map .inr (some n2)
    else
      some (.inl (w64 (n2 + (1 : Int))))
  else
    Option.map .inr (some (-1 : Int))

noncomputable def slices_IndexFunc_command_done_command_done_l1 (p0x0 : List Command_done) (fnb : Command_done → Option Bool) (n2 : Int) : Option Int :=
  iter (fun x : Int => slices_IndexFunc_command_done_command_done_b1 p0x0 fnb x) n2

noncomputable def slices_IndexFunc_command_done_command_done (p0x0 : List Command_done) (fnb : Command_done → Option Bool) : Option Int :=
  slices_IndexFunc_command_done_command_done_l1 p0x0 fnb (0 : Int)

noncomputable def slices_ContainsFunc_command_done_command_done (p0x0 : List Command_done) (fnb : Command_done → Option Bool) : Option Bool :=
  (slices_IndexFunc_command_done_command_done p0x0 fnb).bind fun v1 =>
  some (decide ((0 : Int) ≤ v1))

/-- A copy of a list. -/
noncomputable def slices_Clone_command_done_command_done (p0x0 : List Command_done) : Option (List Command_done) :=
  app [] p0x0

/-- A list without some elements. -/
noncomputable def slices_Delete_command_done_command_done (p0x0 : List Command_done) (p1x0 : Int) (p2x0 : Int) : Option (List Command_done) :=
  delO p0x0 p1x0 p2x0

noncomputable def command_Doer_Do_j2 (n17 : Int) (n21 : Int) : Option ((Int × Int) ⊕ ((List Command_done) ⊕ (Bool × Int × Command_Doer))) :=
  some (.inl (n21, w64 (n17 + (1 : Int))))

noncomputable def command_Doer_Do_k3 (p0x0 : Command_Doer) (p2x0 : Int) (l12 : List Command_done) (n16 : Int) : Option ((List Command_done) ⊕ (Bool × Int × Command_Doer)) :=
  (idx l12 n16).bind fun v22 =>
  if p2x0 < v22.until_ then
    Option.map .inr (some (false, (12 : Int), p0x0))
  else
    (slices_Delete_command_done_command_done l12 n16 (w64 (n16 + (1 : Int)))).bind fun v23 =>
    some (.inl v23)

noncomputable def command_Doer_Do_b2 (p0x0 : Command_Doer) (p2x0 : Int) (l12 : List Command_done) (n16 : Int) (n17 : Int) : Option ((Int × Int) ⊕ ((List Command_done) ⊕ (Bool × Int × Command_Doer))) :=
  if n17 < (l12.length : Int) then
    (idx l12 n17).bind fun v18 =>
    (idx l12 n16).bind fun v20 =>
    if v18.until_ < v20.until_ then
      command_Doer_Do_j2 n17 n17
    else
      command_Doer_Do_j2 n17 n16
  else
    Option.map .inr (command_Doer_Do_k3 p0x0 p2x0 l12 n16)

noncomputable def command_Doer_Do_l2 (p0x0 : Command_Doer) (p2x0 : Int) (l12 : List Command_done) (n16 : Int) (n17 : Int) : Option ((List Command_done) ⊕ (Bool × Int × Command_Doer)) :=
  iter (fun x : Int × Int => command_Doer_Do_b2 p0x0 p2x0 l12 x.1 x.2) (n16, n17)

noncomputable def command_Doer_Do_b1 (p0x0 : Command_Doer) (p2x0 : Int) (l12 : List Command_done) : Option ((List Command_done) ⊕ (Bool × Int × Command_Doer)) :=
  if p0x0.most_ < (l12.length : Int) then
    command_Doer_Do_l2 p0x0 p2x0 l12 (0 : Int) (0 : Int)
  else
    Option.map .inr (some (true, (0 : Int), (⟨p0x0.most_, l12, p2x0⟩ : Command_Doer)))

noncomputable def command_Doer_Do_l1 (p0x0 : Command_Doer) (p2x0 : Int) (l12 : List Command_done) : Option (Bool × Int × Command_Doer) :=
  iter (fun x : (List Command_done) => command_Doer_Do_b1 p0x0 p2x0 x) l12

noncomputable def command_Doer_Do_j1 (p0x0 : Command_Doer) (p1x0 : Letter) (p2x0 : Int) (c3 : Bool) : Option (Bool × Int × Command_Doer) :=
  if c3 = true then
    some (false, (0 : Int), (⟨p0x0.most_, p0x0.l_, p2x0⟩ : Command_Doer))
  else
    (slices_Clone_command_done_command_done p0x0.l_).bind fun v5 =>
    (app v5 [(⟨p1x0.Id, p1x0.Until⟩ : Command_done)]).bind fun l7 =>
    command_Doer_Do_l1 p0x0 p2x0 l7

noncomputable def command_Doer_Do (p0x0 : Command_Doer) (p1x0 : Letter) (p2x0 : Int) : Option (Bool × Int × Command_Doer) :=
  (command_CheckLetter p1x0).bind fun v2 =>
  if v2 ≠ (0 : Int) then
    some (false, v2, p0x0)
  else
    if (!(base_Moment p2x0)) = true then
      some (false, (1 : Int), p0x0)
    else
      if p2x0 < p0x0.time_ then
        some (false, (7 : Int), p0x0)
      else
        if p1x0.Until ≤ p2x0 then
          command_Doer_Do_j1 p0x0 p1x0 p2x0 true
        else
          (slices_ContainsFunc_command_done_command_done p0x0.l_ (fun y0 => some (command_Doer_Do_1x y0 p1x0))).bind fun v4 =>
          command_Doer_Do_j1 p0x0 p1x0 p2x0 v4

noncomputable def Q_in_j1 (c1 : Bool) : Bool :=
  c1

noncomputable def Q_in (p0x0 : Int) (p1x0 : Int) (p2x0 : Int) : Bool :=
  Q_in_j1 ((decide (p1x0 ≤ p0x0)) && (decide (p0x0 ≤ p2x0)))

noncomputable def Q_only_b1 (p0x0 : Str) (p1x0 : Str) (n2 : Int) : Option (Int ⊕ Bool) :=
  if n2 < (p0x0.length : Int) then
    (idx p0x0 n2).bind fun c3 =>
    if (indexByteI p1x0 (c3.toNat : Int)) < (0 : Int) then
      Option.map .inr (some false)
    else
      some (.inl (w64 (n2 + (1 : Int))))
  else
    Option.map .inr (some true)

noncomputable def Q_only_l1 (p0x0 : Str) (p1x0 : Str) (n2 : Int) : Option Bool :=
  iter (fun x : Int => Q_only_b1 p0x0 p1x0 x) n2

noncomputable def Q_only (p0x0 : Str) (p1x0 : Str) : Option Bool :=
  Q_only_l1 p0x0 p1x0 (0 : Int)

noncomputable def Q_Key_j1 (c1 : Bool) : Option Bool :=
  some c1

noncomputable def Q_Key (p0x0 : Str) : Option Bool :=
  if (Q_in (p0x0.length : Int) (1 : Int) (40 : Int)) = true then
    (slc p0x0 (0 : Int) (1 : Int)).bind fun l2 =>
    (Q_only l2 ([97, 98, 99, 100, 101, 102, 103, 104, 105, 106, 107, 108, 109, 110, 111, 112, 113, 114, 115, 116, 117, 118, 119, 120, 121, 122] : Str)).bind fun v3 =>
    if v3 = true then
      (Q_only p0x0 ([97, 98, 99, 100, 101, 102, 103, 104, 105, 106, 107, 108, 109, 110, 111, 112, 113, 114, 115, 116, 117, 118, 119, 120, 121, 122, 48, 49, 50, 51, 52, 53, 54, 55, 56, 57, 45, 95] : Str)).bind fun v4 =>
      Q_Key_j1 v4
    else
      Q_Key_j1 false
  else
    Q_Key_j1 false

noncomputable def Q_Printed_1x_j1 (c1 : Bool) : Bool :=
  c1

noncomputable def Q_Printed_1x (p0x0 : Int) : Bool :=
  Q_Printed_1x_j1 ((decide (p0x0 < (32 : Int))) || (decide (p0x0 = (127 : Int))))

noncomputable def Q_Printed_j1 (c1 : Bool) : Option Bool :=
  some c1

noncomputable def Q_Printed (p0x0 : Str) : Option Bool :=
  (validO p0x0).bind fun v2 =>
  if v2 = true then
    (containsF p0x0 (fun y0 => some (Q_Printed_1x y0))).bind fun v3 =>
    Q_Printed_j1 (!v3)
  else
    Q_Printed_j1 false

noncomputable def Q_Moment (p0x0 : Int) : Bool :=
  (Q_in p0x0 (0 : Int) (345686399999 : Int))

noncomputable def Q_LetterFault_j2 (c6 : Bool) : Option Int :=
  if c6 = true then
    some (1 : Int)
  else
    some (0 : Int)

noncomputable def Q_LetterFault_j1 (p0x0 : Letter) (c2 : Bool) : Option Int :=
  if c2 = true then
    some (5 : Int)
  else
    if (1000 : Int) < (p0x0.Body.length : Int) then
      some (2 : Int)
    else
      (Q_Printed p0x0.Body).bind fun v5 =>
      if (!v5) = true then
        some (3 : Int)
      else
        Q_LetterFault_j2 ((!(Q_in p0x0.Prio (0 : Int) (9 : Int))) || ((!(Q_Moment p0x0.At)) || ((decide (p0x0.Until ≤ p0x0.At)) || (decide ((345686400000 : Int) < p0x0.Until)))))

noncomputable def Q_LetterFault (p0x0 : Letter) : Option Int :=
  (Q_Key p0x0.Id).bind fun v3 =>
  if (!v3) = true then
    Q_LetterFault_j1 p0x0 true
  else
    if p0x0.Slot ≠ ([] : Str) then
      (Q_Key p0x0.Slot).bind fun v4 =>
      Q_LetterFault_j1 p0x0 (!v4)
    else
      Q_LetterFault_j1 p0x0 false

noncomputable def Q_Hand_Do_1x (p0x0 : Letter) (p1x0 : Letter) : Bool :=
  decide (p0x0.Id = p1x0.Id)

noncomputable def slices_IndexFunc_Letter_Letter_b1 (p0x0 : List Letter) (fnb : Letter → Option Bool) (n2 : Int) : Option (Int ⊕ Int) :=
  if n2 < (p0x0.length : Int) then
    (idx p0x0 n2).bind fun v3 =>
    (fnb v3).bind fun v4 =>
    if v4 = true then
      Option.map .inr (some n2)
    else
      some (.inl (w64 (n2 + (1 : Int))))
  else
    Option.map .inr (some (-1 : Int))

noncomputable def slices_IndexFunc_Letter_Letter_l1 (p0x0 : List Letter) (fnb : Letter → Option Bool) (n2 : Int) : Option Int :=
  iter (fun x : Int => slices_IndexFunc_Letter_Letter_b1 p0x0 fnb x) n2

noncomputable def slices_IndexFunc_Letter_Letter (p0x0 : List Letter) (fnb : Letter → Option Bool) : Option Int :=
  slices_IndexFunc_Letter_Letter_l1 p0x0 fnb (0 : Int)

noncomputable def slices_ContainsFunc_Letter_Letter (p0x0 : List Letter) (fnb : Letter → Option Bool) : Option Bool :=
  (slices_IndexFunc_Letter_Letter p0x0 fnb).bind fun v1 =>
  some (decide ((0 : Int) ≤ v1))

/-- A copy of a list. -/
noncomputable def slices_Clone_Letter_Letter (p0x0 : List Letter) : Option (List Letter) :=
  app [] p0x0

/-- A list without some elements. -/
noncomputable def slices_Delete_Letter_Letter (p0x0 : List Letter) (p1x0 : Int) (p2x0 : Int) : Option (List Letter) :=
  delO p0x0 p1x0 p2x0

noncomputable def Q_Hand_Do_j2 (n17 : Int) (n21 : Int) : Option ((Int × Int) ⊕ ((List Letter) ⊕ (Bool × Int × Fleetref2_Hand))) :=
  some (.inl (n21, w64 (n17 + (1 : Int))))

noncomputable def Q_Hand_Do_k3 (p0x0 : Fleetref2_Hand) (p2x0 : Int) (l12 : List Letter) (n16 : Int) : Option ((List Letter) ⊕ (Bool × Int × Fleetref2_Hand)) :=
  (idx l12 n16).bind fun v22 =>
  if p2x0 < v22.Until then
    Option.map .inr (some (false, (12 : Int), p0x0))
  else
    (slices_Delete_Letter_Letter l12 n16 (w64 (n16 + (1 : Int)))).bind fun v23 =>
    some (.inl v23)

noncomputable def Q_Hand_Do_b2 (p0x0 : Fleetref2_Hand) (p2x0 : Int) (l12 : List Letter) (n16 : Int) (n17 : Int) : Option ((Int × Int) ⊕ ((List Letter) ⊕ (Bool × Int × Fleetref2_Hand))) :=
  if n17 < (l12.length : Int) then
    (idx l12 n17).bind fun v18 =>
    (idx l12 n16).bind fun v20 =>
    if v18.Until < v20.Until then
      Q_Hand_Do_j2 n17 n17
    else
      Q_Hand_Do_j2 n17 n16
  else
    Option.map .inr (Q_Hand_Do_k3 p0x0 p2x0 l12 n16)

noncomputable def Q_Hand_Do_l2 (p0x0 : Fleetref2_Hand) (p2x0 : Int) (l12 : List Letter) (n16 : Int) (n17 : Int) : Option ((List Letter) ⊕ (Bool × Int × Fleetref2_Hand)) :=
  iter (fun x : Int × Int => Q_Hand_Do_b2 p0x0 p2x0 l12 x.1 x.2) (n16, n17)

noncomputable def Q_Hand_Do_b1 (p0x0 : Fleetref2_Hand) (p2x0 : Int) (l12 : List Letter) : Option ((List Letter) ⊕ (Bool × Int × Fleetref2_Hand)) :=
  if p0x0.Most < (l12.length : Int) then
    Q_Hand_Do_l2 p0x0 p2x0 l12 (0 : Int) (0 : Int)
  else
    Option.map .inr (some (true, (0 : Int), (⟨p0x0.Most, l12, p2x0⟩ : Fleetref2_Hand)))

noncomputable def Q_Hand_Do_l1 (p0x0 : Fleetref2_Hand) (p2x0 : Int) (l12 : List Letter) : Option (Bool × Int × Fleetref2_Hand) :=
  iter (fun x : (List Letter) => Q_Hand_Do_b1 p0x0 p2x0 x) l12

noncomputable def Q_Hand_Do_j1 (p0x0 : Fleetref2_Hand) (p1x0 : Letter) (p2x0 : Int) (c4 : Bool) : Option (Bool × Int × Fleetref2_Hand) :=
  if c4 = true then
    some (false, (0 : Int), (⟨p0x0.Most, p0x0.L, p2x0⟩ : Fleetref2_Hand))
  else
    (slices_Clone_Letter_Letter p0x0.L).bind fun v5 =>
    (app v5 [p1x0]).bind fun l7 =>
    Q_Hand_Do_l1 p0x0 p2x0 l7

noncomputable def Q_Hand_Do (p0x0 : Fleetref2_Hand) (p1x0 : Letter) (p2x0 : Int) : Option (Bool × Int × Fleetref2_Hand) :=
  (Q_LetterFault p1x0).bind fun v2 =>
  if v2 ≠ (0 : Int) then
    some (false, v2, p0x0)
  else
    if (!(Q_Moment p2x0)) = true then
      some (false, (1 : Int), p0x0)
    else
      if p2x0 < p0x0.time_ then
        some (false, (7 : Int), p0x0)
      else
        (slices_ContainsFunc_Letter_Letter p0x0.L (fun y0 => some (Q_Hand_Do_1x y0 p1x0))).bind fun v3 =>
        Q_Hand_Do_j1 p0x0 p1x0 p2x0 (v3 || (decide (p1x0.Until ≤ p2x0)))

noncomputable def command_Doer_Done_b1 (p0x0 : Command_Doer) (l5 : List Str) (n6 : Int) : Option (((List Str) × Int) ⊕ (List Str)) :=
  if n6 < (p0x0.l_.length : Int) then
    (idx p0x0.l_ n6).bind fun v8 =>
    (app l5 [v8.id_]).bind fun l10 =>
    some (.inl (l10, w64 (n6 + (1 : Int))))
  else
    Option.map .inr (some l5)

noncomputable def command_Doer_Done_l1 (p0x0 : Command_Doer) (l5 : List Str) (n6 : Int) : Option (List Str) :=
  iter (fun x : (List Str) × Int => command_Doer_Done_b1 p0x0 x.1 x.2) (l5, n6)

noncomputable def command_Doer_Done (p0x0 : Command_Doer) : Option (List Str) :=
  command_Doer_Done_l1 p0x0 [] (0 : Int)

noncomputable def command_Doer_Done_c0x1x_b1 (p0x0 : Command_Doer) (l5 : List Str) (n6 : Int) : Option (((List Str) × Int) ⊕ (List Str)) :=
  if n6 < (p0x0.l_.length : Int) then
    (idx p0x0.l_ n6).bind fun v8 =>
    (app l5 [v8.id_]).bind fun l10 =>
    some (.inl (l10, w64 (n6 + (1 : Int))))
  else
    Option.map .inr (some l5)

noncomputable def command_Doer_Done_c0x1x_l1 (p0x0 : Command_Doer) (l5 : List Str) (n6 : Int) : Option (List Str) :=
  iter (fun x : (List Str) × Int => command_Doer_Done_c0x1x_b1 p0x0 x.1 x.2) (l5, n6)

noncomputable def command_Doer_Done_c0x1x (p0x0 : Command_Doer) : Option (List Str) :=
  command_Doer_Done_c0x1x_l1 p0x0 [] (0 : Int)

noncomputable def Q_Hand_Done_b1 (p0x0 : Fleetref2_Hand) (l5 : List Str) (n6 : Int) : Option (((List Str) × Int) ⊕ (List Str)) :=
  if n6 < (p0x0.L.length : Int) then
    (idx p0x0.L n6).bind fun v8 =>
    (app l5 [v8.Id]).bind fun l10 =>
    some (.inl (l10, w64 (n6 + (1 : Int))))
  else
    Option.map .inr (some l5)

noncomputable def Q_Hand_Done_l1 (p0x0 : Fleetref2_Hand) (l5 : List Str) (n6 : Int) : Option (List Str) :=
  iter (fun x : (List Str) × Int => Q_Hand_Done_b1 p0x0 x.1 x.2) (l5, n6)

noncomputable def Q_Hand_Done (p0x0 : Fleetref2_Hand) : Option (List Str) :=
  Q_Hand_Done_l1 p0x0 [] (0 : Int)

noncomputable def Q_Hand_Done_c0x1x_b1 (p0x0 : Fleetref2_Hand) (l5 : List Str) (n6 : Int) : Option (((List Str) × Int) ⊕ (List Str)) :=
  if n6 < (p0x0.L.length : Int) then
    (idx p0x0.L n6).bind fun v8 =>
    (app l5 [v8.Id]).bind fun l10 =>
    some (.inl (l10, w64 (n6 + (1 : Int))))
  else
    Option.map .inr (some l5)

noncomputable def Q_Hand_Done_c0x1x_l1 (p0x0 : Fleetref2_Hand) (l5 : List Str) (n6 : Int) : Option (List Str) :=
  iter (fun x : (List Str) × Int => Q_Hand_Done_c0x1x_b1 p0x0 x.1 x.2) (l5, n6)

noncomputable def Q_Hand_Done_c0x1x (p0x0 : Fleetref2_Hand) : Option (List Str) :=
  Q_Hand_Done_c0x1x_l1 p0x0 [] (0 : Int)

noncomputable def slices_Equal_string_string_b1 (p0x0 : List Str) (p1x0 : List Str) (n2 : Int) : Option (Int ⊕ Bool) :=
  if n2 < (p0x0.length : Int) then
    (idx p0x0 n2).bind fun v3 =>
    (idx p1x0 n2).bind fun v4 =>
    if v3 ≠ v4 then
      Option.map .inr (some false)
    else
      some (.inl (w64 (n2 + (1 : Int))))
  else
    Option.map .inr (some true)

noncomputable def slices_Equal_string_string_l1 (p0x0 : List Str) (p1x0 : List Str) (n2 : Int) : Option Bool :=
  iter (fun x : Int => slices_Equal_string_string_b1 p0x0 p1x0 x) n2

noncomputable def slices_Equal_string_string (p0x0 : List Str) (p1x0 : List Str) : Option Bool :=
  if (p0x0.length : Int) ≠ (p1x0.length : Int) then
    some false
  else
    slices_Equal_string_string_l1 p0x0 p1x0 (0 : Int)

noncomputable def L_DevicesRemember_j3 (c6 : Bool) : Option Bool :=
  some c6

noncomputable def L_DevicesRemember_j2 (v2 : Int × Fleetmake_Stream) (n4 : Int) (c5 : Bool) : Option Bool :=
  if c5 = true then
    if ((command_NewDoer v2.1).2) = n4 then
      (L_posted).bind fun v7 =>
      L_DevicesRemember_j3 v7
    else
      L_DevicesRemember_j3 false
  else
    some false

noncomputable def L_DevicesRemember_j1 (v2 : Int × Fleetmake_Stream) (n4 : Int) : Option Bool :=
  L_DevicesRemember_j2 v2 n4 ((decide (((command_NewDoer v2.1).2) ≠ n4)) || (decide (n4 ≠ (0 : Int))))

noncomputable def L_DevicesRemember_j6 : Option Bool :=
  some false

noncomputable def L_DevicesRemember_j8 (n36 : Int) (n37 : Int) (v39 : Int × Fleetmake_Stream) (v46 : Letter × Fleetmake_Stream) (v48 : Bool × Int × Command_Doer) (v50 : Bool × Int × Fleetref2_Hand) (c52 : Bool) : Option (((List Int) × Int × Int × (List Command_done) × Int × Int × (List Letter) × Int × Int × Int) ⊕ Bool) :=
  if c52 = true then
    Option.map .inr (some false)
  else
    some (.inl (v46.2.L, v46.2.at_, v48.2.2.most_, v48.2.2.l_, v48.2.2.time_, v50.2.2.Most, v50.2.2.L, v50.2.2.time_, w64 (n36 + v39.1), w64 (n37 + (1 : Int))))

noncomputable def L_DevicesRemember_j7 (n28 : Int) (l30 : List Command_done) (n31 : Int) (n32 : Int) (l34 : List Letter) (n35 : Int) (n36 : Int) (n37 : Int) (v39 : Int × Fleetmake_Stream) (l41 : List Int) (n42 : Int) (n43 : Int) : Option (((List Int) × Int × Int × (List Command_done) × Int × Int × (List Letter) × Int × Int × Int) ⊕ Bool) :=
  (Stream_Pick (⟨l41, n42⟩ : Fleetmake_Stream) [(0 : Int), (0 : Int), (5 : Int), (20 : Int)]).bind fun v45 =>
  (Stream_Letter v45.2 (max (0 : Int) (w64 ((w64 (n36 + v39.1)) - v45.1)))).bind fun v46 =>
  (command_Doer_Do (⟨n28, l30, n31⟩ : Command_Doer) v46.1 n43).bind fun v48 =>
  (Q_Hand_Do (⟨n32, l34, n35⟩ : Fleetref2_Hand) v46.1 n43).bind fun v50 =>
  if (v48.1 != v50.1) = true then
    L_DevicesRemember_j8 n36 n37 v39 v46 v48 v50 true
  else
    if v48.2.1 ≠ v50.2.1 then
      L_DevicesRemember_j8 n36 n37 v39 v46 v48 v50 true
    else
      (command_Doer_Done_c0x1x v48.2.2).bind fun v53 =>
      (Q_Hand_Done_c0x1x v50.2.2).bind fun v55 =>
      (slices_Equal_string_string v53 v55).bind fun v57 =>
      L_DevicesRemember_j8 n36 n37 v39 v46 v48 v50 (!v57)

noncomputable def L_DevicesRemember_k9 : Option Bool :=
  (L_posted).bind fun v58 =>
  some v58

noncomputable def L_DevicesRemember_b1 (v13 : Int × Fleetmake_Stream) (l26 : List Int) (n27 : Int) (n28 : Int) (l30 : List Command_done) (n31 : Int) (n32 : Int) (l34 : List Letter) (n35 : Int) (n36 : Int) (n37 : Int) : Option (((List Int) × Int × Int × (List Command_done) × Int × Int × (List Letter) × Int × Int × Int) ⊕ Bool) :=
  if n37 < v13.1 then
    (Stream_Pick (⟨l26, n27⟩ : Fleetmake_Stream) [(0 : Int), (1 : Int), (2 : Int), (5 : Int), (10 : Int)]).bind fun v39 =>
    (Stream_Flip v39.2 (25 : Int)).bind fun v40 =>
    if v40.1 = true then
      (Stream_Pick v40.2 [(-1 : Int), (345686400000 : Int), w64 ((w64 (n36 + v39.1)) - (1 : Int))]).bind fun v44 =>
      L_DevicesRemember_j7 n28 l30 n31 n32 l34 n35 n36 n37 v39 v44.2.L v44.2.at_ v44.1
    else
      L_DevicesRemember_j7 n28 l30 n31 n32 l34 n35 n36 n37 v39 v40.2.L v40.2.at_ (w64 (n36 + v39.1))
  else
    Option.map .inr (L_DevicesRemember_k9)

noncomputable def L_DevicesRemember_l1 (v13 : Int × Fleetmake_Stream) (l26 : List Int) (n27 : Int) (n28 : Int) (l30 : List Command_done) (n31 : Int) (n32 : Int) (l34 : List Letter) (n35 : Int) (n36 : Int) (n37 : Int) : Option Bool :=
  iter (fun x : (List Int) × Int × Int × (List Command_done) × Int × Int × (List Letter) × Int × Int × Int => L_DevicesRemember_b1 v13 x.1 x.2.1 x.2.2.1 x.2.2.2.1 x.2.2.2.2.1 x.2.2.2.2.2.1 x.2.2.2.2.2.2.1 x.2.2.2.2.2.2.2.1 x.2.2.2.2.2.2.2.2.1 x.2.2.2.2.2.2.2.2.2) (l26, n27, n28, l30, n31, n32, l34, n35, n36, n37)

noncomputable def L_DevicesRemember_j5 (v2 : Int × Fleetmake_Stream) (x3 : Command_Doer) (n10 : Int) (c11 : Bool) : Option Bool :=
  if c11 = true then
    if ((command_NewDoer v2.1).2) = n10 then
      L_DevicesRemember_j6
    else
      L_DevicesRemember_j6
  else
    (Stream_Range v2.2 (1 : Int) (14 : Int)).bind fun v13 =>
    L_DevicesRemember_l1 v13 v13.2.L v13.2.at_ x3.most_ x3.l_ x3.time_ v2.1 [] (0 : Int) (0 : Int) (0 : Int)

noncomputable def L_DevicesRemember_j4 (v2 : Int × Fleetmake_Stream) (x3 : Command_Doer) (n10 : Int) : Option Bool :=
  L_DevicesRemember_j5 v2 x3 n10 ((decide (((command_NewDoer v2.1).2) ≠ n10)) || (decide (n10 ≠ (0 : Int))))

noncomputable def L_DevicesRemember (p0x0 : List Int) : Option Bool :=
  (Stream_Pick (⟨p0x0, (0 : Int)⟩ : Fleetmake_Stream) [(1 : Int), (2 : Int), (3 : Int), (1000 : Int), (0 : Int), (1001 : Int)]).bind fun v2 =>
  casesO ((command_NewDoer v2.1).1) (
    if v2.1 < (1 : Int) then
      L_DevicesRemember_j1 v2 (L_when true (1 : Int))
    else
      L_DevicesRemember_j1 v2 (L_when (decide ((1000 : Int) < v2.1)) (1 : Int))) (fun x3 =>
    if v2.1 < (1 : Int) then
      L_DevicesRemember_j4 v2 x3 (L_when true (1 : Int))
    else
      L_DevicesRemember_j4 v2 x3 (L_when (decide ((1000 : Int) < v2.1)) (1 : Int)))

end Go.Beacon
