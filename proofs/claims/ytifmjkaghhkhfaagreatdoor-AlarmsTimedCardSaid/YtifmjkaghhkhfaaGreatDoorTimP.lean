/- Plain functions that the Go functions compute, written by shal.py. -/
import Derived.Test.YtifmjkaghhkhfaaGreatDoorCore
set_option linter.unusedVariables false
namespace Go.Beacon
open Go Go.Eng
structure Fleetmake_Stream where
  L : List Int
  at_ : Int
deriving DecidableEq, Inhabited
def Fleetmake_Stream.av (x : Fleetmake_Stream) : AV := .agg [.list 1 (x.L.map I), I x.at_]

structure Signal where
  At : Int
  Kind : Int
  Device : Str
  Rule : Str
  By : Str
  Until : Int
deriving DecidableEq, Inhabited
def Signal.av (x : Signal) : AV := .agg [I x.At, I x.Kind, .str x.Device, .str x.Rule, .str x.By, I x.Until]

structure Flap where
  Many : Int
  Window : Int
  Calm : Int
deriving DecidableEq, Inhabited
def Flap.av (x : Flap) : AV := .agg [I x.Many, I x.Window, I x.Calm]

structure Alarm_name where
  device_ : Str
  rule_ : Str
deriving DecidableEq, Inhabited
def Alarm_name.av (x : Alarm_name) : AV := .agg [.str x.device_, .str x.rule_]
instance : KLt Alarm_name := ⟨fun a b => (KLt.lt a.device_ b.device_ || (decide (a.device_ = b.device_) && (KLt.lt a.rule_ b.rule_ || (decide (a.rule_ = b.rule_) && false))))⟩

structure Window where
  From : Int
  To : Int
deriving DecidableEq, Inhabited
def Window.av (x : Window) : AV := .agg [I x.From, I x.To]

structure Alarm_life where
  name_ : Alarm_name
  state_ : Int
  since_ : Int
  raises_ : List Int
  shelved_ : Int
  up_ : List Window
  fresh_ : List Window
  aside_ : List Window
  acks_ : List Int
  waits_ : List Int
deriving DecidableEq, Inhabited
def Alarm_life.av (x : Alarm_life) : AV := .agg [.str x.name_.device_, .str x.name_.rule_, I x.state_, I x.since_, .list 1 (x.raises_.map I), I x.shelved_, .list 2 (x.up_.map Window.av), .list 2 (x.fresh_.map Window.av), .list 2 (x.aside_.map Window.av), .list 1 (x.acks_.map I), .list 1 (x.waits_.map I)]

structure Alarm_house where
  all_ : List (Alarm_name × Int)
  order_ : List Int
  ar0 : List Alarm_life
deriving DecidableEq, Inhabited

structure Alarm where
  Device : Str
  Rule : Str
  State : Int
  Since : Int
  Raised : Int
  Shelved : Int
deriving DecidableEq, Inhabited
def Alarm.av (x : Alarm) : AV := .agg [.str x.Device, .str x.Rule, I x.State, I x.Since, I x.Raised, I x.Shelved]

structure Fleetref1_track where
  device_ : Str
  rule_ : Str
  done_ : List Signal
  state_ : Int
  shelved_ : Window
deriving DecidableEq, Inhabited
def Fleetref1_track.av (x : Fleetref1_track) : AV := .agg [.str x.device_, .str x.rule_, .list 6 (x.done_.map Signal.av), I x.state_, I x.shelved_.From, I x.shelved_.To]

structure Refused where
  Event : Int
  Why : Int
deriving DecidableEq, Inhabited
def Refused.av (x : Refused) : AV := .agg [I x.Event, I x.Why]

structure Alarm_seen where
  alarm_ : Alarm
  is_ : Bool
deriving DecidableEq, Inhabited
def Alarm_seen.av (x : Alarm_seen) : AV := .agg [.str x.alarm_.Device, .str x.alarm_.Rule, I x.alarm_.State, I x.alarm_.Since, I x.alarm_.Raised, I x.alarm_.Shelved, .bool x.is_]

noncomputable def Below_j1 (n2 : Int) : Option Int :=
  some n2

noncomputable def Below (p0x0 : Int) (p1x0 : Int) : Option Int :=
  if p1x0 < (1 : Int) then
    some (0 : Int)
  else
    (rem p0x0 p1x0).bind fun n1 =>
    if n1 < (0 : Int) then
      Below_j1 (w64 (n1 + p1x0))
    else
      Below_j1 n1

noncomputable def Stream_Next (p0x0 : Fleetmake_Stream) (p1x0 : Int) : Option (Int × Fleetmake_Stream) :=
  if (p0x0.L.length : Int) = (0 : Int) then
    (Below (w64 ((w64 (p0x0.at_ + (1 : Int))) * (7919 : Int))) p1x0).bind fun v1 =>
    some (v1, (⟨p0x0.L, w64 (p0x0.at_ + (1 : Int))⟩ : Fleetmake_Stream))
  else
    (rem (w64 ((w64 (p0x0.at_ + (1 : Int))) - (1 : Int))) (p0x0.L.length : Int)).bind fun n2 =>
    (quo (w64 ((w64 (p0x0.at_ + (1 : Int))) - (1 : Int))) (p0x0.L.length : Int)).bind fun n3 =>
    (idx p0x0.L n2).bind fun v4 =>
    (Below v4 (1073741824 : Int)).bind fun v5 =>
    (Below (w64 (v5 + (w64 (n3 * (w64 ((7919 : Int) + n2)))))) p1x0).bind fun v6 =>
    some (v6, (⟨p0x0.L, w64 (p0x0.at_ + (1 : Int))⟩ : Fleetmake_Stream))

noncomputable def Stream_Range (p0x0 : Fleetmake_Stream) (p1x0 : Int) (p2x0 : Int) : Option (Int × Fleetmake_Stream) :=
  if p2x0 < p1x0 then
    some (p1x0, p0x0)
  else
    (Stream_Next p0x0 (w64 ((w64 (p2x0 - p1x0)) + (1 : Int)))).bind fun v1 =>
    some (w64 (p1x0 + v1.1), v1.2)

noncomputable def Stream_Pick (p0x0 : Fleetmake_Stream) (p1x0 : List Int) : Option (Int × Fleetmake_Stream) :=
  (Stream_Next p0x0 (p1x0.length : Int)).bind fun v1 =>
  (idx p1x0 v1.1).bind fun v2 =>
  some (v2, v1.2)

noncomputable def Stream_Some (p0x0 : Fleetmake_Stream) (p1x0 : List Str) : Option (Str × Fleetmake_Stream) :=
  (Stream_Next p0x0 (p1x0.length : Int)).bind fun v1 =>
  (idx p1x0 v1.1).bind fun v2 =>
  some (v2, v1.2)

noncomputable def cmp_isNaN_int (p0x0 : Int) : Bool :=
  decide (p0x0 ≠ p0x0)

noncomputable def cmp_Compare_int (p0x0 : Int) (p1x0 : Int) : Int :=
  if (cmp_isNaN_int p0x0) = true then
    if (cmp_isNaN_int p1x0) = true then
      (0 : Int)
    else
      (-1 : Int)
  else
    if (cmp_isNaN_int p1x0) = true then
      (1 : Int)
    else
      if p0x0 < p1x0 then
        (-1 : Int)
      else
        if p1x0 < p0x0 then
          (1 : Int)
        else
          (0 : Int)

noncomputable def cmp_Or_int_b1 (p0x0 : List Int) (n2 : Int) : Option (Int ⊕ Int) :=
  if n2 < (p0x0.length : Int) then
    (idx p0x0 n2).bind fun v3 =>
    if v3 ≠ (0 : Int) then
      Option.map .inr (some v3)
    else
      some (.inl (w64 (n2 + (1 : Int))))
  else
    Option.map .inr (some (0 : Int))

noncomputable def cmp_Or_int_l1 (p0x0 : List Int) (n2 : Int) : Option Int :=
  iter (fun x : Int => cmp_Or_int_b1 p0x0 x) n2

noncomputable def cmp_Or_int (p0x0 : List Int) : Option Int :=
  cmp_Or_int_l1 p0x0 (0 : Int)

noncomputable def Q_SignalOrder (p0x0 : Signal) (p1x0 : Signal) : Option Int :=
  (cmp_Or_int [(cmp_Compare_int p0x0.At p1x0.At), (Lib.compareBytes p0x0.Device p1x0.Device), (Lib.compareBytes p0x0.Rule p1x0.Rule), (cmp_Compare_int p0x0.Kind p1x0.Kind)]).bind fun v3 =>
  some v3

noncomputable def slices_insertionSortCmpFunc_Signal_j1 (n4 : Int) (l7 : List Signal) (n8 : Int) (c9 : Bool) : Option (((List Signal) × Int) ⊕ (((List Signal) × Int) ⊕ (List Signal))) :=
  if c9 = true then
    (idx l7 (w64 (n8 - (1 : Int)))).bind fun v13 =>
    (idx l7 n8).bind fun v14 =>
    (idx l7 n8).bind fun v15 =>
    (idx (l7.set n8.toNat v13) (w64 (n8 - (1 : Int)))).bind fun v16 =>
    some (.inl ((l7.set n8.toNat v13).set (w64 (n8 - (1 : Int))).toNat v14, w64 (n8 - (1 : Int))))
  else
    Option.map .inr (some (.inl (l7, w64 (n4 + (1 : Int)))))

noncomputable def slices_insertionSortCmpFunc_Signal_b2 (p1x0 : Int) (fnd : Signal → Signal → Option Int) (n4 : Int) (l7 : List Signal) (n8 : Int) : Option (((List Signal) × Int) ⊕ (((List Signal) × Int) ⊕ (List Signal))) :=
  if p1x0 < n8 then
    (idx l7 n8).bind fun v10 =>
    (idx l7 (w64 (n8 - (1 : Int)))).bind fun v11 =>
    (fnd v10 v11).bind fun v12 =>
    slices_insertionSortCmpFunc_Signal_j1 n4 l7 n8 (decide (v12 < (0 : Int)))
  else
    slices_insertionSortCmpFunc_Signal_j1 n4 l7 n8 false

noncomputable def slices_insertionSortCmpFunc_Signal_l2 (p1x0 : Int) (fnd : Signal → Signal → Option Int) (n4 : Int) (l7 : List Signal) (n8 : Int) : Option (((List Signal) × Int) ⊕ (List Signal)) :=
  iter (fun x : (List Signal) × Int => slices_insertionSortCmpFunc_Signal_b2 p1x0 fnd n4 x.1 x.2) (l7, n8)

noncomputable def slices_insertionSortCmpFunc_Signal_b1 (p1x0 : Int) (p2x0 : Int) (fnd : Signal → Signal → Option Int) (l3 : List Signal) (n4 : Int) : Option (((List Signal) × Int) ⊕ (List Signal)) :=
  if n4 < p2x0 then
    slices_insertionSortCmpFunc_Signal_l2 p1x0 fnd n4 l3 n4
  else
    Option.map .inr (some l3)

noncomputable def slices_insertionSortCmpFunc_Signal_l1 (p1x0 : Int) (p2x0 : Int) (fnd : Signal → Signal → Option Int) (l3 : List Signal) (n4 : Int) : Option (List Signal) :=
  iter (fun x : (List Signal) × Int => slices_insertionSortCmpFunc_Signal_b1 p1x0 p2x0 fnd x.1 x.2) (l3, n4)

noncomputable def slices_insertionSortCmpFunc_Signal (p0x0 : List Signal) (p1x0 : Int) (p2x0 : Int) (fnd : Signal → Signal → Option Int) : Option (List Signal) :=
  slices_insertionSortCmpFunc_Signal_l1 p1x0 p2x0 fnd p0x0 (w64 (p1x0 + (1 : Int)))

noncomputable def slices_swapRangeCmpFunc_Signal_b1 (p1x0 : Int) (p2x0 : Int) (p3x0 : Int) (l3 : List Signal) (n4 : Int) : Option (((List Signal) × Int) ⊕ (List Signal)) :=
  if n4 < p3x0 then
    (idx l3 (w64 (p2x0 + n4))).bind fun v5 =>
    (idx l3 (w64 (p1x0 + n4))).bind fun v6 =>
    (idx l3 (w64 (p1x0 + n4))).bind fun v7 =>
    (idx (l3.set (w64 (p1x0 + n4)).toNat v5) (w64 (p2x0 + n4))).bind fun v8 =>
    some (.inl ((l3.set (w64 (p1x0 + n4)).toNat v5).set (w64 (p2x0 + n4)).toNat v6, w64 (n4 + (1 : Int))))
  else
    Option.map .inr (some l3)

noncomputable def slices_swapRangeCmpFunc_Signal_l1 (p1x0 : Int) (p2x0 : Int) (p3x0 : Int) (l3 : List Signal) (n4 : Int) : Option (List Signal) :=
  iter (fun x : (List Signal) × Int => slices_swapRangeCmpFunc_Signal_b1 p1x0 p2x0 p3x0 x.1 x.2) (l3, n4)

noncomputable def slices_swapRangeCmpFunc_Signal (p0x0 : List Signal) (p1x0 : Int) (p2x0 : Int) (p3x0 : Int) (fne : Signal → Signal → Option Int) : Option (List Signal) :=
  slices_swapRangeCmpFunc_Signal_l1 p1x0 p2x0 p3x0 p0x0 (0 : Int)

noncomputable def slices_rotateCmpFunc_Signal_j1 (l7 : List Signal) (n8 : Int) (n9 : Int) : Option (((List Signal) × Int × Int) ⊕ (List Signal)) :=
  some (.inl (l7, n8, n9))

noncomputable def slices_rotateCmpFunc_Signal_k2 (p2x0 : Int) (fne : Signal → Signal → Option Int) (l4 : List Signal) (n5 : Int) : Option (List Signal) :=
  (lenOk l4.length (fun r : (List Signal) => r.length) (slices_swapRangeCmpFunc_Signal l4 (w64 (p2x0 - n5)) p2x0 n5 fne)).bind fun v12 =>
  some v12

noncomputable def slices_rotateCmpFunc_Signal_b1 (p2x0 : Int) (fne : Signal → Signal → Option Int) (l4 : List Signal) (n5 : Int) (n6 : Int) : Option (((List Signal) × Int × Int) ⊕ (List Signal)) :=
  if n5 ≠ n6 then
    if n6 < n5 then
      (lenOk l4.length (fun r : (List Signal) => r.length) (slices_swapRangeCmpFunc_Signal l4 (w64 (p2x0 - n5)) p2x0 n6 fne)).bind fun v10 =>
      slices_rotateCmpFunc_Signal_j1 v10 (w64 (n5 - n6)) n6
    else
      (lenOk l4.length (fun r : (List Signal) => r.length) (slices_swapRangeCmpFunc_Signal l4 (w64 (p2x0 - n5)) (w64 ((w64 (p2x0 + n6)) - n5)) n5 fne)).bind fun v11 =>
      slices_rotateCmpFunc_Signal_j1 v11 n5 (w64 (n6 - n5))
  else
    Option.map .inr (slices_rotateCmpFunc_Signal_k2 p2x0 fne l4 n5)

noncomputable def slices_rotateCmpFunc_Signal_l1 (p2x0 : Int) (fne : Signal → Signal → Option Int) (l4 : List Signal) (n5 : Int) (n6 : Int) : Option (List Signal) :=
  iter (fun x : (List Signal) × Int × Int => slices_rotateCmpFunc_Signal_b1 p2x0 fne x.1 x.2.1 x.2.2) (l4, n5, n6)

noncomputable def slices_rotateCmpFunc_Signal (p0x0 : List Signal) (p1x0 : Int) (p2x0 : Int) (p3x0 : Int) (fne : Signal → Signal → Option Int) : Option (List Signal) :=
  slices_rotateCmpFunc_Signal_l1 p2x0 fne p0x0 (w64 (p2x0 - p1x0)) (w64 (p3x0 - p2x0))

noncomputable def slices_symMergeCmpFunc_Signal_j1 (n8 : Int) (n9 : Int) : Option ((Int × Int) ⊕ (List Signal)) :=
  some (.inl (n8, n9))

noncomputable def slices_symMergeCmpFunc_Signal_b2 (n3 : Int) (l12 : List Signal) (n13 : Int) : Option (((List Signal) × Int) ⊕ (List Signal)) :=
  if n13 < (w64 (n3 - (1 : Int))) then
    (idx l12 (w64 (n13 + (1 : Int)))).bind fun v14 =>
    (idx l12 n13).bind fun v15 =>
    (idx l12 n13).bind fun v16 =>
    (idx (l12.set n13.toNat v14) (w64 (n13 + (1 : Int)))).bind fun v17 =>
    some (.inl ((l12.set n13.toNat v14).set (w64 (n13 + (1 : Int))).toNat v15, w64 (n13 + (1 : Int))))
  else
    Option.map .inr (some l12)

noncomputable def slices_symMergeCmpFunc_Signal_l2 (n3 : Int) (l12 : List Signal) (n13 : Int) : Option (List Signal) :=
  iter (fun x : (List Signal) × Int => slices_symMergeCmpFunc_Signal_b2 n3 x.1 x.2) (l12, n13)

noncomputable def slices_symMergeCmpFunc_Signal_b1 (p0x0 : List Signal) (p1x0 : Int) (fne : Signal → Signal → Option Int) (n3 : Int) (n4 : Int) : Option ((Int × Int) ⊕ (List Signal)) :=
  if n3 < n4 then
    (idx p0x0 (w64 (shrI .u64 (IntKind.u64.wrap (w64 (n3 + n4))) (1 : Int)))).bind fun v5 =>
    (idx p0x0 p1x0).bind fun v6 =>
    (fne v5 v6).bind fun v7 =>
    if v7 < (0 : Int) then
      slices_symMergeCmpFunc_Signal_j1 (w64 ((w64 (shrI .u64 (IntKind.u64.wrap (w64 (n3 + n4))) (1 : Int))) + (1 : Int))) n4
    else
      slices_symMergeCmpFunc_Signal_j1 n3 (w64 (shrI .u64 (IntKind.u64.wrap (w64 (n3 + n4))) (1 : Int)))
  else
    Option.map .inr (slices_symMergeCmpFunc_Signal_l2 n3 p0x0 p1x0)

noncomputable def slices_symMergeCmpFunc_Signal_l1 (p0x0 : List Signal) (p1x0 : Int) (fne : Signal → Signal → Option Int) (n3 : Int) (n4 : Int) : Option (List Signal) :=
  iter (fun x : Int × Int => slices_symMergeCmpFunc_Signal_b1 p0x0 p1x0 fne x.1 x.2) (n3, n4)

noncomputable def slices_symMergeCmpFunc_Signal_j2 (n25 : Int) (n26 : Int) : Option ((Int × Int) ⊕ (List Signal)) :=
  some (.inl (n25, n26))

noncomputable def slices_symMergeCmpFunc_Signal_b4 (n20 : Int) (l29 : List Signal) (n30 : Int) : Option (((List Signal) × Int) ⊕ (List Signal)) :=
  if n20 < n30 then
    (idx l29 (w64 (n30 - (1 : Int)))).bind fun v31 =>
    (idx l29 n30).bind fun v32 =>
    (idx l29 n30).bind fun v33 =>
    (idx (l29.set n30.toNat v31) (w64 (n30 - (1 : Int)))).bind fun v34 =>
    some (.inl ((l29.set n30.toNat v31).set (w64 (n30 - (1 : Int))).toNat v32, w64 (n30 - (1 : Int))))
  else
    Option.map .inr (some l29)

noncomputable def slices_symMergeCmpFunc_Signal_l4 (n20 : Int) (l29 : List Signal) (n30 : Int) : Option (List Signal) :=
  iter (fun x : (List Signal) × Int => slices_symMergeCmpFunc_Signal_b4 n20 x.1 x.2) (l29, n30)

noncomputable def slices_symMergeCmpFunc_Signal_b3 (p0x0 : List Signal) (p2x0 : Int) (fne : Signal → Signal → Option Int) (n20 : Int) (n21 : Int) : Option ((Int × Int) ⊕ (List Signal)) :=
  if n20 < n21 then
    (idx p0x0 p2x0).bind fun v22 =>
    (idx p0x0 (w64 (shrI .u64 (IntKind.u64.wrap (w64 (n20 + n21))) (1 : Int)))).bind fun v23 =>
    (fne v22 v23).bind fun v24 =>
    if ¬ (v24 < (0 : Int)) then
      slices_symMergeCmpFunc_Signal_j2 (w64 ((w64 (shrI .u64 (IntKind.u64.wrap (w64 (n20 + n21))) (1 : Int))) + (1 : Int))) n21
    else
      slices_symMergeCmpFunc_Signal_j2 n20 (w64 (shrI .u64 (IntKind.u64.wrap (w64 (n20 + n21))) (1 : Int)))
  else
    Option.map .inr (slices_symMergeCmpFunc_Signal_l4 n20 p0x0 p2x0)

noncomputable def slices_symMergeCmpFunc_Signal_l3 (p0x0 : List Signal) (p2x0 : Int) (fne : Signal → Signal → Option Int) (n20 : Int) (n21 : Int) : Option (List Signal) :=
  iter (fun x : Int × Int => slices_symMergeCmpFunc_Signal_b3 p0x0 p2x0 fne x.1 x.2) (n20, n21)

noncomputable def slices_symMergeCmpFunc_Signal_j4 (n44 : Int) (n45 : Int) : Option ((Int × Int) ⊕ (List Signal)) :=
  some (.inl (n44, n45))

noncomputable def slices_symMergeCmpFunc_Signal_j10 (l53 : List Signal) : Option (List Signal) :=
  some l53

noncomputable def slices_symMergeCmpFunc_Signal_j9 (self : (List Signal) → Int → Int → Int → (Signal → Signal → Option Int) → Option (List Signal)) (p1x0 : Int) (p2x0 : Int) (p3x0 : Int) (fne : Signal → Signal → Option Int) (n39 : Int) (l50 : List Signal) (c52 : Bool) : Option (List Signal) :=
  if c52 = true then
    (lenOk l50.length (fun r : (List Signal) => r.length) (self l50 (w64 (shrI .u64 (IntKind.u64.wrap (w64 (p1x0 + p3x0))) (1 : Int))) (w64 ((w64 ((w64 (shrI .u64 (IntKind.u64.wrap (w64 (p1x0 + p3x0))) (1 : Int))) + p2x0)) - n39)) p3x0 fne)).bind fun v54 =>
    slices_symMergeCmpFunc_Signal_j10 v54
  else
    slices_symMergeCmpFunc_Signal_j10 l50

noncomputable def slices_symMergeCmpFunc_Signal_j8 (self : (List Signal) → Int → Int → Int → (Signal → Signal → Option Int) → Option (List Signal)) (p1x0 : Int) (p2x0 : Int) (p3x0 : Int) (fne : Signal → Signal → Option Int) (n39 : Int) (l50 : List Signal) : Option (List Signal) :=
  slices_symMergeCmpFunc_Signal_j9 self p1x0 p2x0 p3x0 fne n39 l50 ((decide ((w64 (shrI .u64 (IntKind.u64.wrap (w64 (p1x0 + p3x0))) (1 : Int))) < (w64 ((w64 ((w64 (shrI .u64 (IntKind.u64.wrap (w64 (p1x0 + p3x0))) (1 : Int))) + p2x0)) - n39)))) && (decide ((w64 ((w64 ((w64 (shrI .u64 (IntKind.u64.wrap (w64 (p1x0 + p3x0))) (1 : Int))) + p2x0)) - n39)) < p3x0)))

noncomputable def slices_symMergeCmpFunc_Signal_j7 (self : (List Signal) → Int → Int → Int → (Signal → Signal → Option Int) → Option (List Signal)) (p1x0 : Int) (p2x0 : Int) (p3x0 : Int) (fne : Signal → Signal → Option Int) (n39 : Int) (l47 : List Signal) (c49 : Bool) : Option (List Signal) :=
  if c49 = true then
    (lenOk l47.length (fun r : (List Signal) => r.length) (self l47 p1x0 n39 (w64 (shrI .u64 (IntKind.u64.wrap (w64 (p1x0 + p3x0))) (1 : Int))) fne)).bind fun v51 =>
    slices_symMergeCmpFunc_Signal_j8 self p1x0 p2x0 p3x0 fne n39 v51
  else
    slices_symMergeCmpFunc_Signal_j8 self p1x0 p2x0 p3x0 fne n39 l47

noncomputable def slices_symMergeCmpFunc_Signal_j6 (self : (List Signal) → Int → Int → Int → (Signal → Signal → Option Int) → Option (List Signal)) (p1x0 : Int) (p2x0 : Int) (p3x0 : Int) (fne : Signal → Signal → Option Int) (n39 : Int) (l47 : List Signal) : Option (List Signal) :=
  slices_symMergeCmpFunc_Signal_j7 self p1x0 p2x0 p3x0 fne n39 l47 ((decide (p1x0 < n39)) && (decide (n39 < (w64 (shrI .u64 (IntKind.u64.wrap (w64 (p1x0 + p3x0))) (1 : Int))))))

noncomputable def slices_symMergeCmpFunc_Signal_j5 (self : (List Signal) → Int → Int → Int → (Signal → Signal → Option Int) → Option (List Signal)) (p0x0 : List Signal) (p1x0 : Int) (p2x0 : Int) (p3x0 : Int) (fne : Signal → Signal → Option Int) (n39 : Int) (c46 : Bool) : Option (List Signal) :=
  if c46 = true then
    (lenOk p0x0.length (fun r : (List Signal) => r.length) (slices_rotateCmpFunc_Signal p0x0 n39 p2x0 (w64 ((w64 ((w64 (shrI .u64 (IntKind.u64.wrap (w64 (p1x0 + p3x0))) (1 : Int))) + p2x0)) - n39)) fne)).bind fun v48 =>
    slices_symMergeCmpFunc_Signal_j6 self p1x0 p2x0 p3x0 fne n39 v48
  else
    slices_symMergeCmpFunc_Signal_j6 self p1x0 p2x0 p3x0 fne n39 p0x0

noncomputable def slices_symMergeCmpFunc_Signal_b5 (self : (List Signal) → Int → Int → Int → (Signal → Signal → Option Int) → Option (List Signal)) (p0x0 : List Signal) (p1x0 : Int) (p2x0 : Int) (p3x0 : Int) (fne : Signal → Signal → Option Int) (n39 : Int) (n40 : Int) : Option ((Int × Int) ⊕ (List Signal)) :=
  if n39 < n40 then
    (idx p0x0 (w64 ((w64 ((w64 ((w64 (shrI .u64 (IntKind.u64.wrap (w64 (p1x0 + p3x0))) (1 : Int))) + p2x0)) - (1 : Int))) - (w64 (shrI .u64 (IntKind.u64.wrap (w64 (n39 + n40))) (1 : Int)))))).bind fun v41 =>
    (idx p0x0 (w64 (shrI .u64 (IntKind.u64.wrap (w64 (n39 + n40))) (1 : Int)))).bind fun v42 =>
    (fne v41 v42).bind fun v43 =>
    if ¬ (v43 < (0 : Int)) then
      slices_symMergeCmpFunc_Signal_j4 (w64 ((w64 (shrI .u64 (IntKind.u64.wrap (w64 (n39 + n40))) (1 : Int))) + (1 : Int))) n40
    else
      slices_symMergeCmpFunc_Signal_j4 n39 (w64 (shrI .u64 (IntKind.u64.wrap (w64 (n39 + n40))) (1 : Int)))
  else
    Option.map .inr (slices_symMergeCmpFunc_Signal_j5 self p0x0 p1x0 p2x0 p3x0 fne n39 ((decide (n39 < p2x0)) && (decide (p2x0 < (w64 ((w64 ((w64 (shrI .u64 (IntKind.u64.wrap (w64 (p1x0 + p3x0))) (1 : Int))) + p2x0)) - n39))))))

noncomputable def slices_symMergeCmpFunc_Signal_l5 (self : (List Signal) → Int → Int → Int → (Signal → Signal → Option Int) → Option (List Signal)) (p0x0 : List Signal) (p1x0 : Int) (p2x0 : Int) (p3x0 : Int) (fne : Signal → Signal → Option Int) (n39 : Int) (n40 : Int) : Option (List Signal) :=
  iter (fun x : Int × Int => slices_symMergeCmpFunc_Signal_b5 self p0x0 p1x0 p2x0 p3x0 fne x.1 x.2) (n39, n40)

noncomputable def slices_symMergeCmpFunc_Signal_j3 (self : (List Signal) → Int → Int → Int → (Signal → Signal → Option Int) → Option (List Signal)) (p0x0 : List Signal) (p1x0 : Int) (p2x0 : Int) (p3x0 : Int) (fne : Signal → Signal → Option Int) (n35 : Int) (n36 : Int) : Option (List Signal) :=
  slices_symMergeCmpFunc_Signal_l5 self p0x0 p1x0 p2x0 p3x0 fne n35 n36

noncomputable def slices_symMergeCmpFunc_Signal_bd (self : (List Signal) → Int → Int → Int → (Signal → Signal → Option Int) → Option (List Signal)) (p0x0 : List Signal) (p1x0 : Int) (p2x0 : Int) (p3x0 : Int) (fne : Signal → Signal → Option Int) : Option (List Signal) :=
  if (w64 (p2x0 - p1x0)) = (1 : Int) then
    slices_symMergeCmpFunc_Signal_l1 p0x0 p1x0 fne p2x0 p3x0
  else
    if (w64 (p3x0 - p2x0)) = (1 : Int) then
      slices_symMergeCmpFunc_Signal_l3 p0x0 p2x0 fne p1x0 p2x0
    else
      if (w64 (shrI .u64 (IntKind.u64.wrap (w64 (p1x0 + p3x0))) (1 : Int))) < p2x0 then
        slices_symMergeCmpFunc_Signal_j3 self p0x0 p1x0 p2x0 p3x0 fne (w64 ((w64 ((w64 (shrI .u64 (IntKind.u64.wrap (w64 (p1x0 + p3x0))) (1 : Int))) + p2x0)) - p3x0)) (w64 (shrI .u64 (IntKind.u64.wrap (w64 (p1x0 + p3x0))) (1 : Int)))
      else
        slices_symMergeCmpFunc_Signal_j3 self p0x0 p1x0 p2x0 p3x0 fne p1x0 p2x0

/-- The function, to some depth. -/
noncomputable def slices_symMergeCmpFunc_Signal_r : Nat → (List Signal) → Int → Int → Int → (Signal → Signal → Option Int) → Option (List Signal)
  | 0 => fun _ _ _ _ _ => none
  | k + 1 => slices_symMergeCmpFunc_Signal_bd (slices_symMergeCmpFunc_Signal_r k)

noncomputable def slices_symMergeCmpFunc_Signal (p0x0 : List Signal) (p1x0 : Int) (p2x0 : Int) (p3x0 : Int) (fne : Signal → Signal → Option Int) : Option (List Signal) :=
  slices_symMergeCmpFunc_Signal_r depth p0x0 p1x0 p2x0 p3x0 fne

noncomputable def slices_stableCmpFunc_Signal_j1 (n12 : Int) (l20 : List Signal) : Option (((List Signal) × Int) ⊕ (List Signal)) :=
  some (.inl (l20, w64 (n12 * (2 : Int))))

noncomputable def slices_stableCmpFunc_Signal_k2 (p1x0 : Int) (fnc : Signal → Signal → Option Int) (n12 : Int) (l16 : List Signal) (n17 : Int) : Option (((List Signal) × Int) ⊕ (List Signal)) :=
  if (w64 (n17 + n12)) < p1x0 then
    (lenOk l16.length (fun r : (List Signal) => r.length) (slices_symMergeCmpFunc_Signal l16 n17 (w64 (n17 + n12)) p1x0 fnc)).bind fun v21 =>
    slices_stableCmpFunc_Signal_j1 n12 v21
  else
    slices_stableCmpFunc_Signal_j1 n12 l16

noncomputable def slices_stableCmpFunc_Signal_b3 (p1x0 : Int) (fnc : Signal → Signal → Option Int) (n12 : Int) (l16 : List Signal) (n17 : Int) (n18 : Int) : Option (((List Signal) × Int × Int) ⊕ (((List Signal) × Int) ⊕ (List Signal))) :=
  if n18 ≤ p1x0 then
    (lenOk l16.length (fun r : (List Signal) => r.length) (slices_symMergeCmpFunc_Signal l16 n17 (w64 (n17 + n12)) n18 fnc)).bind fun v19 =>
    some (.inl (v19, n18, w64 (n18 + (w64 ((2 : Int) * n12)))))
  else
    Option.map .inr (slices_stableCmpFunc_Signal_k2 p1x0 fnc n12 l16 n17)

noncomputable def slices_stableCmpFunc_Signal_l3 (p1x0 : Int) (fnc : Signal → Signal → Option Int) (n12 : Int) (l16 : List Signal) (n17 : Int) (n18 : Int) : Option (((List Signal) × Int) ⊕ (List Signal)) :=
  iter (fun x : (List Signal) × Int × Int => slices_stableCmpFunc_Signal_b3 p1x0 fnc n12 x.1 x.2.1 x.2.2) (l16, n17, n18)

noncomputable def slices_stableCmpFunc_Signal_b2 (p1x0 : Int) (fnc : Signal → Signal → Option Int) (l11 : List Signal) (n12 : Int) : Option (((List Signal) × Int) ⊕ (List Signal)) :=
  if n12 < p1x0 then
    slices_stableCmpFunc_Signal_l3 p1x0 fnc n12 l11 (0 : Int) (w64 ((2 : Int) * n12))
  else
    Option.map .inr (some l11)

noncomputable def slices_stableCmpFunc_Signal_l2 (p1x0 : Int) (fnc : Signal → Signal → Option Int) (l11 : List Signal) (n12 : Int) : Option (List Signal) :=
  iter (fun x : (List Signal) × Int => slices_stableCmpFunc_Signal_b2 p1x0 fnc x.1 x.2) (l11, n12)

noncomputable def slices_stableCmpFunc_Signal_k3 (p1x0 : Int) (fnc : Signal → Signal → Option Int) (l4 : List Signal) (n5 : Int) : Option (List Signal) :=
  (lenOk l4.length (fun r : (List Signal) => r.length) (slices_insertionSortCmpFunc_Signal l4 n5 p1x0 fnc)).bind fun v8 =>
  slices_stableCmpFunc_Signal_l2 p1x0 fnc v8 (20 : Int)

noncomputable def slices_stableCmpFunc_Signal_b1 (p1x0 : Int) (fnc : Signal → Signal → Option Int) (l4 : List Signal) (n5 : Int) (n6 : Int) : Option (((List Signal) × Int × Int) ⊕ (List Signal)) :=
  if n6 ≤ p1x0 then
    (lenOk l4.length (fun r : (List Signal) => r.length) (slices_insertionSortCmpFunc_Signal l4 n5 n6 fnc)).bind fun v7 =>
    some (.inl (v7, n6, w64 (n6 + (20 : Int))))
  else
    Option.map .inr (slices_stableCmpFunc_Signal_k3 p1x0 fnc l4 n5)

noncomputable def slices_stableCmpFunc_Signal_l1 (p1x0 : Int) (fnc : Signal → Signal → Option Int) (l4 : List Signal) (n5 : Int) (n6 : Int) : Option (List Signal) :=
  iter (fun x : (List Signal) × Int × Int => slices_stableCmpFunc_Signal_b1 p1x0 fnc x.1 x.2.1 x.2.2) (l4, n5, n6)

noncomputable def slices_stableCmpFunc_Signal (p0x0 : List Signal) (p1x0 : Int) (fnc : Signal → Signal → Option Int) : Option (List Signal) :=
  slices_stableCmpFunc_Signal_l1 p1x0 fnc p0x0 (0 : Int) (20 : Int)

noncomputable def slices_SortStableFunc_Signal_Signal (p0x0 : List Signal) (fnb : Signal → Signal → Option Int) : Option (List Signal) :=
  (lenOk p0x0.length (fun r : (List Signal) => r.length) (slices_stableCmpFunc_Signal p0x0 (p0x0.length : Int) fnb)).bind fun v1 =>
  some v1

noncomputable def Stream_Flip (p0x0 : Fleetmake_Stream) (p1x0 : Int) : Option (Bool × Fleetmake_Stream) :=
  (Stream_Next p0x0 p1x0).bind fun v1 =>
  some (decide (v1.1 = (0 : Int)), v1.2)

noncomputable def Stream_Signals_1x (p0x0 : Signal) (p1x0 : Signal) : Option Bool :=
  (Q_SignalOrder p0x0 p1x0).bind fun v3 =>
  some (decide (v3 = (0 : Int)))

noncomputable def slices_CompactFunc_Signal_Signal_j1 (n12 : Int) (l16 : List Signal) (n17 : Int) : Option (((List Signal) × Int × Int) ⊕ (Int ⊕ (List Signal))) :=
  some (.inl (l16, n17, w64 (n12 + (1 : Int))))

noncomputable def slices_CompactFunc_Signal_Signal_k2 (l10 : List Signal) (n11 : Int) : Option (Int ⊕ (List Signal)) :=
  (slc l10 n11 (l10.length : Int)).bind fun l20 =>
  (slc (clr l10 n11 l20.length (⟨(0 : Int), (0 : Int), [], [], [], (0 : Int)⟩ : Signal)) (0 : Int) n11).bind fun l21 =>
  Option.map .inr (some l21)

noncomputable def slices_CompactFunc_Signal_Signal_b2 (fnb : Signal → Signal → Option Bool) (n2 : Int) (l6 : List Signal) (l10 : List Signal) (n11 : Int) (n12 : Int) : Option (((List Signal) × Int × Int) ⊕ (Int ⊕ (List Signal))) :=
  if n12 < (l6.length : Int) then
    (idxS l10 n2 l6.length n12).bind fun v13 =>
    (idxS l10 n2 l6.length (w64 (n12 - (1 : Int)))).bind fun v14 =>
    (fnb v13 v14).bind fun v15 =>
    if (!v15) = true then
      (idxS l10 n2 l6.length n12).bind fun v18 =>
      (idx l10 n11).bind fun v19 =>
      slices_CompactFunc_Signal_Signal_j1 n12 (l10.set n11.toNat v18) (w64 (n11 + (1 : Int)))
    else
      slices_CompactFunc_Signal_Signal_j1 n12 l10 n11
  else
    Option.map .inr (slices_CompactFunc_Signal_Signal_k2 l10 n11)

noncomputable def slices_CompactFunc_Signal_Signal_l2 (fnb : Signal → Signal → Option Bool) (n2 : Int) (l6 : List Signal) (l10 : List Signal) (n11 : Int) (n12 : Int) : Option (Int ⊕ (List Signal)) :=
  iter (fun x : (List Signal) × Int × Int => slices_CompactFunc_Signal_Signal_b2 fnb n2 l6 x.1 x.2.1 x.2.2) (l10, n11, n12)

noncomputable def slices_CompactFunc_Signal_Signal_b1 (p0x0 : List Signal) (fnb : Signal → Signal → Option Bool) (n2 : Int) : Option (Int ⊕ (List Signal)) :=
  if n2 < (p0x0.length : Int) then
    (idx p0x0 n2).bind fun v3 =>
    (idx p0x0 (w64 (n2 - (1 : Int)))).bind fun v4 =>
    (fnb v3 v4).bind fun v5 =>
    if v5 = true then
      (slc p0x0 n2 (p0x0.length : Int)).bind fun l6 =>
      slices_CompactFunc_Signal_Signal_l2 fnb n2 l6 p0x0 n2 (1 : Int)
    else
      some (.inl (w64 (n2 + (1 : Int))))
  else
    Option.map .inr (some p0x0)

noncomputable def slices_CompactFunc_Signal_Signal_l1 (p0x0 : List Signal) (fnb : Signal → Signal → Option Bool) (n2 : Int) : Option (List Signal) :=
  iter (fun x : Int => slices_CompactFunc_Signal_Signal_b1 p0x0 fnb x) n2

noncomputable def slices_CompactFunc_Signal_Signal (p0x0 : List Signal) (fnb : Signal → Signal → Option Bool) : Option (List Signal) :=
  if (p0x0.length : Int) < (2 : Int) then
    some p0x0
  else
    slices_CompactFunc_Signal_Signal_l1 p0x0 fnb (1 : Int)

noncomputable def Stream_Odd (p0x0 : Fleetmake_Stream) (p1x0 : Int) (p2x0 : Int) : Option (Int × Fleetmake_Stream) :=
  (Stream_Flip p0x0 (12 : Int)).bind fun v1 =>
  if v1.1 = true then
    (Stream_Pick v1.2 [w64 (p1x0 - (1 : Int)), w64 (p2x0 + (1 : Int)), p1x0, p2x0, (-1099511627776 : Int), (1099511627776 : Int)]).bind fun v2 =>
    some (v2.1, v2.2)
  else
    (Stream_Range v1.2 p1x0 p2x0).bind fun v3 =>
    some (v3.1, v3.2)

noncomputable def Stream_Signals_j3 (l11 : List Signal) (n12 : Int) (n13 : Int) (v16 : Str × Fleetmake_Stream) (v17 : Str × Fleetmake_Stream) (n21 : Int) (q25 : Str) (l27 : List Int) (n28 : Int) (n29 : Int) : Option (((List Int) × Int × (List Signal) × Int × Int) ⊕ ((List Signal) × Fleetmake_Stream)) :=
  (app l11 [(⟨n12, n21, v16.1, v17.1, q25, n29⟩ : Signal)]).bind fun l31 =>
  (Stream_Pick (⟨l27, n28⟩ : Fleetmake_Stream) [(0 : Int), (1 : Int), (3 : Int), (10 : Int), (40 : Int)]).bind fun v33 =>
  some (.inl (v33.2.L, v33.2.at_, l31, w64 (n12 + v33.1), w64 (n13 + (1 : Int))))

noncomputable def Stream_Signals_j2 (l11 : List Signal) (n12 : Int) (n13 : Int) (v16 : Str × Fleetmake_Stream) (v17 : Str × Fleetmake_Stream) (n21 : Int) (l23 : List Int) (n24 : Int) (q25 : Str) : Option (((List Int) × Int × (List Signal) × Int × Int) ⊕ ((List Signal) × Fleetmake_Stream)) :=
  if n21 = (4 : Int) then
    (Stream_Pick (⟨l23, n24⟩ : Fleetmake_Stream) [(1 : Int), (10 : Int), (50 : Int)]).bind fun v30 =>
    Stream_Signals_j3 l11 n12 n13 v16 v17 n21 q25 v30.2.L v30.2.at_ (w64 (n12 + v30.1))
  else
    Stream_Signals_j3 l11 n12 n13 v16 v17 n21 q25 l23 n24 (0 : Int)

noncomputable def Stream_Signals_j1 (l11 : List Signal) (n12 : Int) (n13 : Int) (v16 : Str × Fleetmake_Stream) (v17 : Str × Fleetmake_Stream) (l19 : List Int) (n20 : Int) (n21 : Int) : Option (((List Int) × Int × (List Signal) × Int × Int) ⊕ ((List Signal) × Fleetmake_Stream)) :=
  if (3 : Int) ≤ n21 then
    (Stream_Some (⟨l19, n20⟩ : Fleetmake_Stream) [([97, 110, 110] : Str), ([98, 111, 98] : Str)]).bind fun v26 =>
    Stream_Signals_j2 l11 n12 n13 v16 v17 n21 v26.2.L v26.2.at_ v26.1
  else
    Stream_Signals_j2 l11 n12 n13 v16 v17 n21 l19 n20 []

noncomputable def Stream_Signals_j6 (l44 : List Int) (n45 : Int) (l46 : List Signal) : Option ((List Signal) × Fleetmake_Stream) :=
  some (l46, (⟨l44, n45⟩ : Fleetmake_Stream))

noncomputable def Stream_Signals_j5 (l37 : List Signal) (l40 : List Int) (n41 : Int) (c42 : Bool) : Option ((List Signal) × Fleetmake_Stream) :=
  if c42 = true then
    (Stream_Next (⟨l40, n41⟩ : Fleetmake_Stream) (l37.length : Int)).bind fun v47 =>
    (idx l37 v47.1).bind fun v48 =>
    (Stream_Pick v47.2 [v48.At, (-1 : Int), (345686400000 : Int)]).bind fun v49 =>
    (Stream_Odd v49.2 (1 : Int) (5 : Int)).bind fun v50 =>
    (Stream_Some v50.2 [v48.By, ([] : Str), ([65] : Str)]).bind fun v51 =>
    (Stream_Pick v51.2 [v48.Until, (0 : Int), v48.At, w64 ((w64 (v48.At + (2592000000 : Int))) + (1 : Int))]).bind fun v52 =>
    Stream_Signals_j6 v52.2.L v52.2.at_ ((((l37.set v47.1.toNat (⟨v49.1, v48.Kind, v48.Device, v48.Rule, v48.By, v48.Until⟩ : Signal)).set v47.1.toNat (⟨v49.1, v50.1, v48.Device, v48.Rule, v48.By, v48.Until⟩ : Signal)).set v47.1.toNat (⟨v49.1, v50.1, v48.Device, v48.Rule, v51.1, v48.Until⟩ : Signal)).set v47.1.toNat (⟨v49.1, v50.1, v48.Device, v48.Rule, v51.1, v52.1⟩ : Signal))
  else
    Stream_Signals_j6 l40 n41 l37

noncomputable def Stream_Signals_j4 (v35 : Bool × Fleetmake_Stream) (l37 : List Signal) : Option ((List Signal) × Fleetmake_Stream) :=
  if (0 : Int) < (l37.length : Int) then
    (Stream_Flip v35.2 (20 : Int)).bind fun v43 =>
    Stream_Signals_j5 l37 v43.2.L v43.2.at_ v43.1
  else
    Stream_Signals_j5 l37 v35.2.L v35.2.at_ false

noncomputable def Stream_Signals_k7 (l8 : List Int) (n9 : Int) (l11 : List Signal) : Option ((List Signal) × Fleetmake_Stream) :=
  (lenOk l11.length (fun r : (List Signal) => r.length) (slices_SortStableFunc_Signal_Signal l11 (fun y0 y1 => Q_SignalOrder y0 y1))).bind fun v34 =>
  (Stream_Flip (⟨l8, n9⟩ : Fleetmake_Stream) (20 : Int)).bind fun v35 =>
  if (!v35.1) = true then
    (slices_CompactFunc_Signal_Signal v34 (fun y0 y1 => Stream_Signals_1x y0 y1)).bind fun v38 =>
    Stream_Signals_j4 v35 v38
  else
    Stream_Signals_j4 v35 v34

noncomputable def Stream_Signals_b1 (p1x0 : Int) (p2x0 : Bool) (l8 : List Int) (n9 : Int) (l11 : List Signal) (n12 : Int) (n13 : Int) : Option (((List Int) × Int × (List Signal) × Int × Int) ⊕ ((List Signal) × Fleetmake_Stream)) :=
  if n13 < p1x0 then
    (Stream_Pick (⟨l8, n9⟩ : Fleetmake_Stream) [(1 : Int), (1 : Int), (2 : Int), (2 : Int), (3 : Int), (3 : Int), (4 : Int), (5 : Int)]).bind fun v15 =>
    (Stream_Some v15.2 [([100, 97] : Str), ([100, 97] : Str), ([100, 98] : Str), ([100, 103] : Str)]).bind fun v16 =>
    (Stream_Some v16.2 [([114, 97] : Str), ([114, 97] : Str), ([114, 98] : Str)]).bind fun v17 =>
    if p2x0 = true then
      (Stream_Pick v17.2 [(3 : Int), (3 : Int), (4 : Int), (5 : Int)]).bind fun v22 =>
      Stream_Signals_j1 l11 n12 n13 v16 v17 v22.2.L v22.2.at_ v22.1
    else
      Stream_Signals_j1 l11 n12 n13 v16 v17 v17.2.L v17.2.at_ v15.1
  else
    Option.map .inr (Stream_Signals_k7 l8 n9 l11)

noncomputable def Stream_Signals_l1 (p1x0 : Int) (p2x0 : Bool) (l8 : List Int) (n9 : Int) (l11 : List Signal) (n12 : Int) (n13 : Int) : Option ((List Signal) × Fleetmake_Stream) :=
  iter (fun x : (List Int) × Int × (List Signal) × Int × Int => Stream_Signals_b1 p1x0 p2x0 x.1 x.2.1 x.2.2.1 x.2.2.2.1 x.2.2.2.2) (l8, n9, l11, n12, n13)

noncomputable def Stream_Signals (p0x0 : Fleetmake_Stream) (p1x0 : Int) (p2x0 : Bool) : Option ((List Signal) × Fleetmake_Stream) :=
  (Stream_Next p0x0 (20 : Int)).bind fun v1 =>
  Stream_Signals_l1 p1x0 p2x0 v1.2.L v1.2.at_ [] v1.1 (0 : Int)

noncomputable def Stream_Flap_j1 (l7 : List Int) (n8 : Int) (n9 : Int) (n10 : Int) (n11 : Int) : Option (Flap × Fleetmake_Stream) :=
  some ((⟨n9, n10, n11⟩ : Flap), (⟨l7, n8⟩ : Fleetmake_Stream))

noncomputable def Stream_Flap (p0x0 : Fleetmake_Stream) : Option (Flap × Fleetmake_Stream) :=
  (Stream_Pick p0x0 [(2 : Int), (2 : Int), (3 : Int)]).bind fun v2 =>
  (Stream_Pick v2.2 [(10 : Int), (30 : Int), (100 : Int)]).bind fun v3 =>
  (Stream_Pick v3.2 [(5 : Int), (20 : Int), (60 : Int)]).bind fun v4 =>
  (Stream_Flip v4.2 (25 : Int)).bind fun v6 =>
  if v6.1 = true then
    (Stream_Odd v6.2 (2 : Int) (1000 : Int)).bind fun v12 =>
    (Stream_Odd v12.2 (1 : Int) (2592000000 : Int)).bind fun v13 =>
    (Stream_Odd v13.2 (1 : Int) (2592000000 : Int)).bind fun v14 =>
    Stream_Flap_j1 v14.2.L v14.2.at_ v12.1 v13.1 v14.1
  else
    Stream_Flap_j1 v6.2.L v6.2.at_ v2.1 v3.1 v4.1

noncomputable def Stream_Time (p0x0 : Fleetmake_Stream) : Option (Int × Fleetmake_Stream) :=
  (Stream_Next p0x0 (300 : Int)).bind fun v1 =>
  (Stream_Next v1.2 (300 : Int)).bind fun v2 =>
  (Stream_Pick v2.2 [(345686399999 : Int), (-1 : Int), (345686400000 : Int)]).bind fun v3 =>
  (Stream_Pick v3.2 [(0 : Int), (5 : Int), (20 : Int), (40 : Int), (60 : Int), (80 : Int), (120 : Int), v1.1, v2.1, v3.1]).bind fun v4 =>
  some (v4.1, v4.2)

noncomputable def Q_in_j1 (c1 : Bool) : Bool :=
  c1

noncomputable def Q_in (p0x0 : Int) (p1x0 : Int) (p2x0 : Int) : Bool :=
  Q_in_j1 ((decide (p1x0 ≤ p0x0)) && (decide (p0x0 ≤ p2x0)))

noncomputable def Q_MomentFault (p0x0 : Int) : Int :=
  if (!(Q_in p0x0 (0 : Int) (345686399999 : Int))) = true then
    (1 : Int)
  else
    (0 : Int)

noncomputable def Q_Key_j1 (c1 : Bool) : Option Bool :=
  some c1

noncomputable def Q_Key (p0x0 : Str) : Option Bool :=
  if (Q_in (p0x0.length : Int) (1 : Int) (40 : Int)) = true then
    (trimO p0x0 ([97, 98, 99, 100, 101, 102, 103, 104, 105, 106, 107, 108, 109, 110, 111, 112, 113, 114, 115, 116, 117, 118, 119, 120, 121, 122, 48, 49, 50, 51, 52, 53, 54, 55, 56, 57, 45, 95] : Str)).bind fun v2 =>
    if v2 = ([] : Str) then
      (idx p0x0 (0 : Int)).bind fun c3 =>
      Q_Key_j1 (decide ((0 : Int) ≤ (indexByteI ([97, 98, 99, 100, 101, 102, 103, 104, 105, 106, 107, 108, 109, 110, 111, 112, 113, 114, 115, 116, 117, 118, 119, 120, 121, 122] : Str) (c3.toNat : Int))))
    else
      Q_Key_j1 false
  else
    Q_Key_j1 false

noncomputable def Q_SignalsFault_j6 (n2 : Int) (c13 : Bool) : Option (Int ⊕ Int) :=
  if c13 = true then
    Option.map .inr (some (7 : Int))
  else
    some (.inl (w64 (n2 + (1 : Int))))

noncomputable def Q_SignalsFault_j5 (p0x0 : List Signal) (n2 : Int) (v3 : Signal) (c12 : Bool) : Option (Int ⊕ Int) :=
  if c12 = true then
    Option.map .inr (some (3 : Int))
  else
    if (0 : Int) < n2 then
      (idx p0x0 (w64 (n2 - (1 : Int)))).bind fun v14 =>
      (Q_SignalOrder v14 v3).bind fun v15 =>
      Q_SignalsFault_j6 n2 (decide ((0 : Int) ≤ v15))
    else
      Q_SignalsFault_j6 n2 false

noncomputable def Q_SignalsFault_j4 (p0x0 : List Signal) (n2 : Int) (v3 : Signal) (c11 : Bool) : Option (Int ⊕ Int) :=
  if c11 = true then
    Option.map .inr (some (1 : Int))
  else
    Q_SignalsFault_j5 p0x0 n2 v3 ((decide (¬ (v3.Kind = (4 : Int)))) && (decide (v3.Until ≠ (0 : Int))))

noncomputable def Q_SignalsFault_j3 (p0x0 : List Signal) (n2 : Int) (v3 : Signal) (c10 : Bool) : Option (Int ⊕ Int) :=
  if c10 = true then
    Option.map .inr (some (3 : Int))
  else
    Q_SignalsFault_j4 p0x0 n2 v3 ((decide (v3.Kind = (4 : Int))) && (!(Q_in v3.Until (w64 (v3.At + (1 : Int))) (min (w64 (v3.At + (2592000000 : Int))) (345686400000 : Int)))))

noncomputable def Q_SignalsFault_j2 (p0x0 : List Signal) (n2 : Int) (v3 : Signal) (c8 : Bool) : Option (Int ⊕ Int) :=
  if c8 = true then
    Option.map .inr (some (5 : Int))
  else
    Q_SignalsFault_j3 p0x0 n2 v3 ((decide (¬ ((3 : Int) ≤ v3.Kind))) && (decide (v3.By ≠ ([] : Str))))

noncomputable def Q_SignalsFault_j1 (p0x0 : List Signal) (n2 : Int) (v3 : Signal) (c5 : Bool) : Option (Int ⊕ Int) :=
  if c5 = true then
    Option.map .inr (some (5 : Int))
  else
    if (!(Q_in v3.Kind (1 : Int) (5 : Int))) = true then
      Option.map .inr (some (4 : Int))
    else
      if (3 : Int) ≤ v3.Kind then
        (Q_Key v3.By).bind fun v9 =>
        Q_SignalsFault_j2 p0x0 n2 v3 (!v9)
      else
        Q_SignalsFault_j2 p0x0 n2 v3 false

noncomputable def Q_SignalsFault_b1 (p0x0 : List Signal) (n2 : Int) : Option (Int ⊕ Int) :=
  if n2 < (p0x0.length : Int) then
    (idx p0x0 n2).bind fun v3 =>
    if (Q_MomentFault v3.At) ≠ (0 : Int) then
      Option.map .inr (some (1 : Int))
    else
      (Q_Key v3.Device).bind fun v6 =>
      if (!v6) = true then
        Q_SignalsFault_j1 p0x0 n2 v3 true
      else
        (Q_Key v3.Rule).bind fun v7 =>
        Q_SignalsFault_j1 p0x0 n2 v3 (!v7)
  else
    Option.map .inr (some (0 : Int))

noncomputable def Q_SignalsFault_l1 (p0x0 : List Signal) (n2 : Int) : Option Int :=
  iter (fun x : Int => Q_SignalsFault_b1 p0x0 x) n2

noncomputable def Q_SignalsFault (p0x0 : List Signal) : Option Int :=
  if (5000 : Int) < (p0x0.length : Int) then
    some (2 : Int)
  else
    Q_SignalsFault_l1 p0x0 (0 : Int)

noncomputable def Q_KeyFault (p0x0 : Str) : Option Int :=
  (Q_Key p0x0).bind fun v1 =>
  if (!v1) = true then
    some (5 : Int)
  else
    some (0 : Int)

noncomputable def cmp_Or_Errno_b1 (p0x0 : List Int) (n2 : Int) : Option (Int ⊕ Int) :=
  if n2 < (p0x0.length : Int) then
    (idx p0x0 n2).bind fun v3 =>
    if v3 ≠ (0 : Int) then
      Option.map .inr (some v3)
    else
      some (.inl (w64 (n2 + (1 : Int))))
  else
    Option.map .inr (some (0 : Int))

noncomputable def cmp_Or_Errno_l1 (p0x0 : List Int) (n2 : Int) : Option Int :=
  iter (fun x : Int => cmp_Or_Errno_b1 p0x0 x) n2

noncomputable def cmp_Or_Errno (p0x0 : List Int) : Option Int :=
  cmp_Or_Errno_l1 p0x0 (0 : Int)

noncomputable def base_Out_j1 (c1 : Bool) : Bool :=
  c1

noncomputable def base_Out (p0x0 : Int) (p1x0 : Int) (p2x0 : Int) : Bool :=
  base_Out_j1 ((decide (p0x0 < p1x0)) || (decide (p2x0 < p0x0)))

noncomputable def base_Moment (p0x0 : Int) : Bool :=
  !(base_Out p0x0 (0 : Int) (345686399999 : Int))

noncomputable def base_Key_j2 (n5 : Int) (c7 : Bool) : Option (Int ⊕ Bool) :=
  if c7 = true then
    Option.map .inr (some false)
  else
    some (.inl (w64 (n5 + (1 : Int))))

noncomputable def base_Key_b1 (p0x0 : Str) (n5 : Int) : Option (Int ⊕ Bool) :=
  if n5 < (p0x0.length : Int) then
    (idx p0x0 n5).bind fun c6 =>
    base_Key_j2 n5 (if (97 : Int) ≤ (c6.toNat : Int) then if (c6.toNat : Int) ≤ (122 : Int) then !true else if (48 : Int) ≤ (c6.toNat : Int) then if (c6.toNat : Int) ≤ (57 : Int) then !true else if (c6.toNat : Int) = (45 : Int) then !true else decide (¬ ((c6.toNat : Int) = (95 : Int))) else if (c6.toNat : Int) = (45 : Int) then !true else decide (¬ ((c6.toNat : Int) = (95 : Int))) else if (48 : Int) ≤ (c6.toNat : Int) then if (c6.toNat : Int) ≤ (57 : Int) then !true else if (c6.toNat : Int) = (45 : Int) then !true else decide (¬ ((c6.toNat : Int) = (95 : Int))) else if (c6.toNat : Int) = (45 : Int) then !true else decide (¬ ((c6.toNat : Int) = (95 : Int))))
  else
    Option.map .inr (some true)

noncomputable def base_Key_l1 (p0x0 : Str) (n5 : Int) : Option Bool :=
  iter (fun x : Int => base_Key_b1 p0x0 x) n5

noncomputable def base_Key_j1 (p0x0 : Str) (c1 : Bool) : Option Bool :=
  if c1 = true then
    some false
  else
    base_Key_l1 p0x0 (0 : Int)

noncomputable def base_Key (p0x0 : Str) : Option Bool :=
  if p0x0 = ([] : Str) then
    base_Key_j1 p0x0 true
  else
    if (40 : Int) < (p0x0.length : Int) then
      base_Key_j1 p0x0 true
    else
      (idx p0x0 (0 : Int)).bind fun c2 =>
      if (c2.toNat : Int) < (97 : Int) then
        base_Key_j1 p0x0 true
      else
        (idx p0x0 (0 : Int)).bind fun c3 =>
        base_Key_j1 p0x0 (decide ((122 : Int) < (c3.toNat : Int)))

noncomputable def alarm_signalFault_j5 (c9 : Bool) : Option Int :=
  if c9 = true then
    some (3 : Int)
  else
    some (0 : Int)

noncomputable def alarm_signalFault_j4 (p0x0 : Signal) (c8 : Bool) : Option Int :=
  if c8 = true then
    some (1 : Int)
  else
    alarm_signalFault_j5 ((decide (¬ (p0x0.Kind = (4 : Int)))) && (decide (p0x0.Until ≠ (0 : Int))))

noncomputable def alarm_signalFault_j3 (p0x0 : Signal) (c7 : Bool) : Option Int :=
  if c7 = true then
    some (3 : Int)
  else
    alarm_signalFault_j4 p0x0 ((decide (p0x0.Kind = (4 : Int))) && ((base_Out p0x0.Until (w64 (p0x0.At + (1 : Int))) (w64 (p0x0.At + (2592000000 : Int)))) || (decide ((345686400000 : Int) < p0x0.Until))))

noncomputable def alarm_signalFault_j2 (p0x0 : Signal) (c5 : Bool) : Option Int :=
  if c5 = true then
    some (5 : Int)
  else
    alarm_signalFault_j3 p0x0 ((decide (¬ ((3 : Int) ≤ p0x0.Kind))) && (decide (p0x0.By ≠ ([] : Str))))

noncomputable def alarm_signalFault_j1 (p0x0 : Signal) (c2 : Bool) : Option Int :=
  if c2 = true then
    some (5 : Int)
  else
    if (base_Out p0x0.Kind (1 : Int) (5 : Int)) = true then
      some (4 : Int)
    else
      if (3 : Int) ≤ p0x0.Kind then
        (base_Key p0x0.By).bind fun v6 =>
        alarm_signalFault_j2 p0x0 (!v6)
      else
        alarm_signalFault_j2 p0x0 false

noncomputable def alarm_signalFault (p0x0 : Signal) : Option Int :=
  if (!(base_Moment p0x0.At)) = true then
    some (1 : Int)
  else
    (base_Key p0x0.Device).bind fun v3 =>
    if (!v3) = true then
      alarm_signalFault_j1 p0x0 true
    else
      (base_Key p0x0.Rule).bind fun v4 =>
      alarm_signalFault_j1 p0x0 (!v4)

noncomputable def alarm_byMoment (p0x0 : Signal) (p1x0 : Signal) : Option Int :=
  (cmp_Or_int [(cmp_Compare_int p0x0.At p1x0.At), (Lib.compareBytes p0x0.Device p1x0.Device), (Lib.compareBytes p0x0.Rule p1x0.Rule), (cmp_Compare_int p0x0.Kind p1x0.Kind)]).bind fun v3 =>
  some v3

noncomputable def alarm_CheckSignals_j1 (n2 : Int) (c6 : Bool) : Option (Int ⊕ Int) :=
  if c6 = true then
    Option.map .inr (some (7 : Int))
  else
    some (.inl (w64 (n2 + (1 : Int))))

noncomputable def alarm_CheckSignals_b1 (p0x0 : List Signal) (n2 : Int) : Option (Int ⊕ Int) :=
  if n2 < (p0x0.length : Int) then
    (idx p0x0 n2).bind fun v3 =>
    (alarm_signalFault v3).bind fun v5 =>
    if v5 ≠ (0 : Int) then
      Option.map .inr (some v5)
    else
      if (0 : Int) < n2 then
        (idx p0x0 (w64 (n2 - (1 : Int)))).bind fun v7 =>
        (alarm_byMoment v3 v7).bind fun v8 =>
        alarm_CheckSignals_j1 n2 (decide (v8 ≤ (0 : Int)))
      else
        alarm_CheckSignals_j1 n2 false
  else
    Option.map .inr (some (0 : Int))

noncomputable def alarm_CheckSignals_l1 (p0x0 : List Signal) (n2 : Int) : Option Int :=
  iter (fun x : Int => alarm_CheckSignals_b1 p0x0 x) n2

noncomputable def alarm_CheckSignals (p0x0 : List Signal) : Option Int :=
  if (5000 : Int) < (p0x0.length : Int) then
    some (2 : Int)
  else
    alarm_CheckSignals_l1 p0x0 (0 : Int)

noncomputable def alarm_nameFault_j1 (c2 : Bool) : Option Int :=
  if c2 = true then
    some (5 : Int)
  else
    some (0 : Int)

noncomputable def alarm_nameFault (p0x0 : List Signal) (p1x0 : Str) (p2x0 : Str) : Option Int :=
  (alarm_CheckSignals p0x0).bind fun v1 =>
  if v1 ≠ (0 : Int) then
    some v1
  else
    (base_Key p1x0).bind fun v3 =>
    if (!v3) = true then
      alarm_nameFault_j1 true
    else
      (base_Key p2x0).bind fun v4 =>
      alarm_nameFault_j1 (!v4)

noncomputable def alarm_byName (p0x0 : Alarm_name) (p1x0 : Alarm_name) : Option Int :=
  (cmp_Or_int [(Lib.compareBytes p0x0.device_ p1x0.device_), (Lib.compareBytes p0x0.rule_ p1x0.rule_)]).bind fun v3 =>
  some v3

noncomputable def alarm_newHouse_1x (p0x0 : Alarm_life) (p1x0 : Alarm_life) : Option Int :=
  (alarm_byName p0x0.name_ p1x0.name_).bind fun v1 =>
  some v1

noncomputable def alarm_newHouse_j1 (n19 : Int) (l21 : List (Alarm_name × Int)) (l22 : List Alarm_life) (l26 : List Int) : Option (((List (Alarm_name × Int)) × (List Alarm_life) × (List Int) × Int) ⊕ Alarm_house) :=
  some (.inl (l21, l22, l26, w64 (n19 + (1 : Int))))

noncomputable def alarm_newHouse_k2 (l13 : List (Alarm_name × Int)) (l14 : List Alarm_life) (l18 : List Int) : Option Alarm_house :=
  (sortA (fun y0 y1 => alarm_newHouse_1x y0 y1) l14 l18).bind fun l43 =>
  some (⟨l13, l43, l14⟩ : Alarm_house)

noncomputable def alarm_newHouse_b1 (p0x0 : List Signal) (l13 : List (Alarm_name × Int)) (l14 : List Alarm_life) (l18 : List Int) (n19 : Int) : Option (((List (Alarm_name × Int)) × (List Alarm_life) × (List Int) × Int) ⊕ Alarm_house) :=
  if n19 < (p0x0.length : Int) then
    (idx p0x0 n19).bind fun v27 =>
    casesO (mget? l13 (⟨v27.Device, v27.Rule⟩ : Alarm_name)) (
      (inB l14.length ((l13.map Prod.snd) ++ l18)).bind fun u38 =>
      (app l18 [(l14.length : Int)]).bind fun l41 =>
      alarm_newHouse_j1 n19 (mset l13 (⟨v27.Device, v27.Rule⟩ : Alarm_name) (l14.length : Int)) (l14 ++ [(⟨(⟨v27.Device, v27.Rule⟩ : Alarm_name), (0 : Int), (0 : Int), [], (0 : Int), [], [], [], [], []⟩ : Alarm_life)]) l41) (fun n30 =>
      alarm_newHouse_j1 n19 l13 l14 l18)
  else
    Option.map .inr (alarm_newHouse_k2 l13 l14 l18)

noncomputable def alarm_newHouse_l1 (p0x0 : List Signal) (l13 : List (Alarm_name × Int)) (l14 : List Alarm_life) (l18 : List Int) (n19 : Int) : Option Alarm_house :=
  iter (fun x : (List (Alarm_name × Int)) × (List Alarm_life) × (List Int) × Int => alarm_newHouse_b1 p0x0 x.1 x.2.1 x.2.2.1 x.2.2.2) (l13, l14, l18, n19)

noncomputable def alarm_newHouse (p0x0 : List Signal) : Option Alarm_house :=
  alarm_newHouse_l1 p0x0 [] [] [] (0 : Int)

noncomputable def alarm_life_turn_1x (p0x0 : List Window) : Option Int :=
  (idx p0x0 (w64 ((p0x0.length : Int) - (1 : Int)))).bind fun v1 =>
  some (w64 ((p0x0.length : Int) - (1 : Int)))

noncomputable def alarm_life_turn_j7 (p0x0 : Alarm_life) (p1x0 : Int) (p2x0 : Int) (l11 : List Window) (l16 : List Window) : Option Alarm_life :=
  some (⟨p0x0.name_, p1x0, p2x0, p0x0.raises_, p0x0.shelved_, l16, l11, p0x0.aside_, p0x0.acks_, p0x0.waits_⟩ : Alarm_life)

noncomputable def alarm_life_turn_j6 (p0x0 : Alarm_life) (p1x0 : Int) (p2x0 : Int) (l7 : List Window) (l11 : List Window) (c14 : Bool) : Option Alarm_life :=
  if c14 = true then
    (app l7 [(⟨p2x0, (345686400000 : Int)⟩ : Window)]).bind fun l17 =>
    alarm_life_turn_j7 p0x0 p1x0 p2x0 l11 l17
  else
    alarm_life_turn_j7 p0x0 p1x0 p2x0 l11 l7

noncomputable def alarm_life_turn_j5 (p0x0 : Alarm_life) (p1x0 : Int) (p2x0 : Int) (c1 : Bool) (c2 : Bool) (l7 : List Window) (l11 : List Window) : Option Alarm_life :=
  alarm_life_turn_j6 p0x0 p1x0 p2x0 l7 l11 (c2 && (!c1))

noncomputable def alarm_life_turn_j4 (p0x0 : Alarm_life) (p1x0 : Int) (p2x0 : Int) (c1 : Bool) (c2 : Bool) (l3 : List Window) (l7 : List Window) : Option Alarm_life :=
  if p1x0 = (1 : Int) then
    (app l3 [(⟨p2x0, (345686400000 : Int)⟩ : Window)]).bind fun l12 =>
    alarm_life_turn_j5 p0x0 p1x0 p2x0 c1 c2 l7 l12
  else
    alarm_life_turn_j5 p0x0 p1x0 p2x0 c1 c2 l7 l3

noncomputable def alarm_life_turn_j3 (p0x0 : Alarm_life) (p1x0 : Int) (p2x0 : Int) (c1 : Bool) (c2 : Bool) (l3 : List Window) (c6 : Bool) : Option Alarm_life :=
  if c6 = true then
    (alarm_life_turn_1x p0x0.up_).bind fun v8 =>
    (idx p0x0.up_ v8).bind fun v9 =>
    alarm_life_turn_j4 p0x0 p1x0 p2x0 c1 c2 l3 (p0x0.up_.set v8.toNat (⟨v9.From, p2x0⟩ : Window))
  else
    alarm_life_turn_j4 p0x0 p1x0 p2x0 c1 c2 l3 p0x0.up_

noncomputable def alarm_life_turn_j2 (p0x0 : Alarm_life) (p1x0 : Int) (p2x0 : Int) (c1 : Bool) (c2 : Bool) (l3 : List Window) : Option Alarm_life :=
  alarm_life_turn_j3 p0x0 p1x0 p2x0 c1 c2 l3 (c1 && (!c2))

noncomputable def alarm_life_turn_j1 (p0x0 : Alarm_life) (p1x0 : Int) (p2x0 : Int) (c1 : Bool) (c2 : Bool) : Option Alarm_life :=
  if p0x0.state_ = (1 : Int) then
    (alarm_life_turn_1x p0x0.fresh_).bind fun v4 =>
    (idx p0x0.fresh_ v4).bind fun v5 =>
    alarm_life_turn_j2 p0x0 p1x0 p2x0 c1 c2 (p0x0.fresh_.set v4.toNat (⟨v5.From, p2x0⟩ : Window))
  else
    alarm_life_turn_j2 p0x0 p1x0 p2x0 c1 c2 p0x0.fresh_

noncomputable def alarm_life_turn (p0x0 : Alarm_life) (p1x0 : Int) (p2x0 : Int) : Option Alarm_life :=
  alarm_life_turn_j1 p0x0 p1x0 p2x0 ((decide (p0x0.state_ = (1 : Int))) || (decide (p0x0.state_ = (2 : Int)))) ((decide (p1x0 = (1 : Int))) || (decide (p1x0 = (2 : Int))))

noncomputable def alarm_life_lower_j8 (q3 : Str) (q4 : Str) (n5 : Int) (n6 : Int) (l8 : List Int) (n9 : Int) (l11 : List Window) (l13 : List Window) (l15 : List Window) (l63 : List Int) (l65 : List Int) : Option (Int × Alarm_life) :=
  some ((0 : Int), (⟨(⟨q3, q4⟩ : Alarm_name), n5, n6, l8, n9, l11, l13, l15, l63, l65⟩ : Alarm_life))

noncomputable def alarm_life_lower_j2 (p1x0 : Signal) (q3 : Str) (q4 : Str) (n5 : Int) (n6 : Int) (l8 : List Int) (n9 : Int) (l11 : List Window) (l13 : List Window) (l15 : List Window) (l17 : List Int) (l19 : List Int) : Option (Int × Alarm_life) :=
  if ¬ (p1x0.Kind = (2 : Int)) then
    (app l17 [p1x0.At]).bind fun l66 =>
    (idx l8 (w64 ((l8.length : Int) - (1 : Int)))).bind fun v68 =>
    (app l19 [w64 (p1x0.At - v68)]).bind fun l69 =>
    alarm_life_lower_j8 q3 q4 n5 n6 l8 n9 l11 l13 l15 l66 l69
  else
    alarm_life_lower_j8 q3 q4 n5 n6 l8 n9 l11 l13 l15 l17 l19

noncomputable def alarm_life_lower_j6 (p1x0 : Signal) (q30 : Str) (q31 : Str) (n32 : Int) (n33 : Int) (l35 : List Int) (n36 : Int) (l38 : List Window) (l40 : List Window) (l42 : List Window) (l44 : List Int) (l46 : List Int) : Option (Int × Alarm_life) :=
  alarm_life_lower_j2 p1x0 q30 q31 n32 n33 l35 n36 l38 l40 l42 l44 l46

noncomputable def alarm_life_lower_j7 (p0x0 : Alarm_life) (p1x0 : Signal) (c54 : Bool) : Option (Int × Alarm_life) :=
  if c54 = true then
    (alarm_life_turn p0x0 (2 : Int) p1x0.At).bind fun v55 =>
    alarm_life_lower_j6 p1x0 v55.name_.device_ v55.name_.rule_ v55.state_ v55.since_ v55.raises_ v55.shelved_ v55.up_ v55.fresh_ v55.aside_ v55.acks_ v55.waits_
  else
    some ((11 : Int), p0x0)

noncomputable def alarm_life_lower_j4 (p0x0 : Alarm_life) (p1x0 : Signal) (c28 : Bool) : Option (Int × Alarm_life) :=
  if c28 = true then
    (alarm_life_turn p0x0 (0 : Int) p1x0.At).bind fun v47 =>
    alarm_life_lower_j6 p1x0 v47.name_.device_ v47.name_.rule_ v47.state_ v47.since_ v47.raises_ v47.shelved_ v47.up_ v47.fresh_ v47.aside_ v47.acks_ v47.waits_
  else
    alarm_life_lower_j7 p0x0 p1x0 ((decide (¬ (p1x0.Kind = (2 : Int)))) && (decide (p0x0.state_ = (1 : Int))))

noncomputable def alarm_life_lower_j5 (p0x0 : Alarm_life) (p1x0 : Signal) (c29 : Bool) : Option (Int × Alarm_life) :=
  alarm_life_lower_j4 p0x0 p1x0 c29

noncomputable def alarm_life_lower_j3 (p0x0 : Alarm_life) (p1x0 : Signal) (c27 : Bool) : Option (Int × Alarm_life) :=
  if c27 = true then
    alarm_life_lower_j4 p0x0 p1x0 c27
  else
    alarm_life_lower_j5 p0x0 p1x0 ((decide (¬ (p1x0.Kind = (2 : Int)))) && (decide (p0x0.state_ = (3 : Int))))

noncomputable def alarm_life_lower_j1 (p0x0 : Alarm_life) (p1x0 : Signal) (c2 : Bool) : Option (Int × Alarm_life) :=
  if c2 = true then
    (alarm_life_turn p0x0 (3 : Int) p1x0.At).bind fun v20 =>
    alarm_life_lower_j2 p1x0 v20.name_.device_ v20.name_.rule_ v20.state_ v20.since_ v20.raises_ v20.shelved_ v20.up_ v20.fresh_ v20.aside_ v20.acks_ v20.waits_
  else
    alarm_life_lower_j3 p0x0 p1x0 ((decide (p1x0.Kind = (2 : Int))) && (decide (p0x0.state_ = (2 : Int))))

noncomputable def alarm_life_lower (p0x0 : Alarm_life) (p1x0 : Signal) : Option (Int × Alarm_life) :=
  alarm_life_lower_j1 p0x0 p1x0 ((decide (p1x0.Kind = (2 : Int))) && (decide (p0x0.state_ = (1 : Int))))

noncomputable def alarm_life_follow_j1 (p0x0 : Alarm_life) (p1x0 : Signal) (c2 : Bool) : Option (Int × Alarm_life) :=
  if c2 = true then
    some ((6 : Int), p0x0)
  else
    (alarm_life_turn p0x0 (1 : Int) p1x0.At).bind fun v3 =>
    (app v3.raises_ [p1x0.At]).bind fun l10 =>
    some ((0 : Int), (⟨v3.name_, v3.state_, v3.since_, l10, v3.shelved_, v3.up_, v3.fresh_, v3.aside_, v3.acks_, v3.waits_⟩ : Alarm_life))

noncomputable def alarm_life_follow_j2 (p0x0 : Alarm_life) (p1x0 : Signal) (c12 : Bool) : Option (Int × Alarm_life) :=
  if c12 = true then
    (alarm_life_lower p0x0 p1x0).bind fun v13 =>
    some (v13.1, v13.2)
  else
    if p1x0.Kind = (4 : Int) then
      if p1x0.At < p0x0.shelved_ then
        some ((11 : Int), p0x0)
      else
        (app p0x0.aside_ [(⟨p1x0.At, p1x0.Until⟩ : Window)]).bind fun l20 =>
        some ((0 : Int), (⟨p0x0.name_, p0x0.state_, p0x0.since_, p0x0.raises_, p1x0.Until, p0x0.up_, p0x0.fresh_, l20, p0x0.acks_, p0x0.waits_⟩ : Alarm_life))
    else
      if p0x0.shelved_ ≤ p1x0.At then
        some ((11 : Int), p0x0)
      else
        (idx p0x0.aside_ (w64 ((p0x0.aside_.length : Int) - (1 : Int)))).bind fun v22 =>
        some ((0 : Int), (⟨p0x0.name_, p0x0.state_, p0x0.since_, p0x0.raises_, p1x0.At, p0x0.up_, p0x0.fresh_, p0x0.aside_.set (w64 ((p0x0.aside_.length : Int) - (1 : Int))).toNat (⟨v22.From, p1x0.At⟩ : Window), p0x0.acks_, p0x0.waits_⟩ : Alarm_life))

noncomputable def alarm_life_follow (p0x0 : Alarm_life) (p1x0 : Signal) : Option (Int × Alarm_life) :=
  if p1x0.Kind = (1 : Int) then
    alarm_life_follow_j1 p0x0 p1x0 ((decide (p0x0.state_ = (1 : Int))) || (decide (p0x0.state_ = (2 : Int))))
  else
    if p1x0.Kind = (2 : Int) then
      alarm_life_follow_j2 p0x0 p1x0 (decide (p1x0.Kind = (2 : Int)))
    else
      alarm_life_follow_j2 p0x0 p1x0 (decide (p1x0.Kind = (3 : Int)))

noncomputable def alarm_house_follow_c0x1x (p0x0 : Alarm_house) (p1x0 : Signal) : Option (Int × Alarm_house) :=
  casesO (mget? p0x0.all_ (⟨p1x0.Device, p1x0.Rule⟩ : Alarm_name)) (
    none) (fun n2 =>
    (idx p0x0.ar0 n2).bind fun v3 =>
    (alarm_life_follow v3 p1x0).bind fun v4 =>
    some (v4.1, (⟨p0x0.all_, p0x0.order_, p0x0.ar0.set n2.toNat v4.2⟩ : Alarm_house)))

noncomputable def alarm_at_j1 (n19 : Int) (l22 : List (Alarm_name × Int)) (l23 : List Alarm_life) (l26 : List Int) : Option (((List (Alarm_name × Int)) × (List Alarm_life) × (List Int) × Int) ⊕ Alarm_house) :=
  some (.inl (l22, l23, l26, w64 (n19 + (1 : Int))))

noncomputable def alarm_at_b1 (p0x0 : List Signal) (p1x0 : Int) (l14 : List (Alarm_name × Int)) (l15 : List Alarm_life) (l18 : List Int) (n19 : Int) : Option (((List (Alarm_name × Int)) × (List Alarm_life) × (List Int) × Int) ⊕ Alarm_house) :=
  if n19 < (p0x0.length : Int) then
    (idx p0x0 n19).bind fun v20 =>
    if v20.At ≤ p1x0 then
      (alarm_house_follow_c0x1x (⟨l14, l18, l15⟩ : Alarm_house) v20).bind fun v27 =>
      alarm_at_j1 n19 v27.2.all_ v27.2.ar0 v27.2.order_
    else
      alarm_at_j1 n19 l14 l15 l18
  else
    Option.map .inr (some (⟨l14, l18, l15⟩ : Alarm_house))

noncomputable def alarm_at_l1 (p0x0 : List Signal) (p1x0 : Int) (l14 : List (Alarm_name × Int)) (l15 : List Alarm_life) (l18 : List Int) (n19 : Int) : Option Alarm_house :=
  iter (fun x : (List (Alarm_name × Int)) × (List Alarm_life) × (List Int) × Int => alarm_at_b1 p0x0 p1x0 x.1 x.2.1 x.2.2.1 x.2.2.2) (l14, l15, l18, n19)

noncomputable def alarm_at (p0x0 : List Signal) (p1x0 : Int) : Option Alarm_house :=
  (alarm_newHouse p0x0).bind fun v1 =>
  alarm_at_l1 p0x0 p1x0 v1.all_ v1.ar0 v1.order_ (0 : Int)

/-- A copy of a list. -/
noncomputable def slices_Clone_Window_Window (p0x0 : List Window) : Option (List Window) :=
  app [] p0x0

noncomputable def alarm_lasting_1x (p0x0 : Window) : Bool :=
  decide (p0x0.To ≤ p0x0.From)

noncomputable def slices_IndexFunc_Window_Window_b1 (p0x0 : List Window) (fnb : Window → Option Bool) (n2 : Int) : Option (Int ⊕ Int) :=
  if n2 < (p0x0.length : Int) then
    (idx p0x0 n2).bind fun v3 =>
    (fnb v3).bind fun v4 =>
    if v4 = true then
      Option.map .inr (some n2)
    else
      some (.inl (w64 (n2 + (1 : Int))))
  else
    Option.map .inr (some (-1 : Int))

noncomputable def slices_IndexFunc_Window_Window_l1 (p0x0 : List Window) (fnb : Window → Option Bool) (n2 : Int) : Option Int :=
  iter (fun x : Int => slices_IndexFunc_Window_Window_b1 p0x0 fnb x) n2

noncomputable def slices_IndexFunc_Window_Window (p0x0 : List Window) (fnb : Window → Option Bool) : Option Int :=
  slices_IndexFunc_Window_Window_l1 p0x0 fnb (0 : Int)

noncomputable def slices_DeleteFunc_Window_Window_j1 (n7 : Int) (l11 : List Window) (n12 : Int) : Option (((List Window) × Int × Int) ⊕ (List Window)) :=
  some (.inl (l11, n12, w64 (n7 + (1 : Int))))

noncomputable def slices_DeleteFunc_Window_Window_k2 (l5 : List Window) (n6 : Int) : Option (List Window) :=
  (slc l5 n6 (l5.length : Int)).bind fun l14 =>
  (slc (clr l5 n6 l14.length (⟨(0 : Int), (0 : Int)⟩ : Window)) (0 : Int) n6).bind fun l15 =>
  some l15

noncomputable def slices_DeleteFunc_Window_Window_b1 (fnb : Window → Option Bool) (l5 : List Window) (n6 : Int) (n7 : Int) : Option (((List Window) × Int × Int) ⊕ (List Window)) :=
  if n7 < (l5.length : Int) then
    (idx l5 n7).bind fun v8 =>
    (fnb v8).bind fun v10 =>
    if (!v10) = true then
      (idx l5 n6).bind fun v13 =>
      slices_DeleteFunc_Window_Window_j1 n7 (l5.set n6.toNat v8) (w64 (n6 + (1 : Int)))
    else
      slices_DeleteFunc_Window_Window_j1 n7 l5 n6
  else
    Option.map .inr (slices_DeleteFunc_Window_Window_k2 l5 n6)

noncomputable def slices_DeleteFunc_Window_Window_l1 (fnb : Window → Option Bool) (l5 : List Window) (n6 : Int) (n7 : Int) : Option (List Window) :=
  iter (fun x : (List Window) × Int × Int => slices_DeleteFunc_Window_Window_b1 fnb x.1 x.2.1 x.2.2) (l5, n6, n7)

noncomputable def slices_DeleteFunc_Window_Window (p0x0 : List Window) (fnb : Window → Option Bool) : Option (List Window) :=
  (slices_IndexFunc_Window_Window p0x0 fnb).bind fun v1 =>
  if v1 = (-1 : Int) then
    some p0x0
  else
    slices_DeleteFunc_Window_Window_l1 fnb p0x0 v1 (w64 (v1 + (1 : Int)))

noncomputable def alarm_lasting (p0x0 : List Window) : Option (List Window) :=
  (slices_Clone_Window_Window p0x0).bind fun v1 =>
  (slices_DeleteFunc_Window_Window v1 (fun y0 => some (alarm_lasting_1x y0))).bind fun v3 =>
  some v3

noncomputable def alarm_Active (p0x0 : List Signal) (p1x0 : Str) (p2x0 : Str) : Option ((List Window) × Int) :=
  (alarm_nameFault p0x0 p1x0 p2x0).bind fun v1 =>
  if v1 ≠ (0 : Int) then
    some ([], v1)
  else
    (alarm_at p0x0 (345686400000 : Int)).bind fun v3 =>
    casesO (mget? v3.all_ (⟨p1x0, p2x0⟩ : Alarm_name)) (
      some ([], (0 : Int))) (fun n10 =>
      (idx v3.ar0 n10).bind fun v12 =>
      (alarm_lasting v12.up_).bind fun v13 =>
      some (v13, (0 : Int)))

noncomputable def Q_isUp_j1 (c2 : Bool) : Bool :=
  c2

noncomputable def Q_isUp (p0x0 : Alarm) : Bool :=
  Q_isUp_j1 ((decide (p0x0.State = (1 : Int))) || (decide (p0x0.State = (2 : Int))))

/-- Sorted by Go. -/
noncomputable def slices_Sort_int_int (p0x0 : List Int) : Option (List Int) :=
  sort1 srtI p0x0

noncomputable def slices_Compact_int_int_j1 (n11 : Int) (l14 : List Int) (n15 : Int) : Option (((List Int) × Int × Int) ⊕ (Int ⊕ (List Int))) :=
  some (.inl (l14, n15, w64 (n11 + (1 : Int))))

noncomputable def slices_Compact_int_int_k2 (l9 : List Int) (n10 : Int) : Option (Int ⊕ (List Int)) :=
  (slc l9 n10 (l9.length : Int)).bind fun l18 =>
  (slc (clr l9 n10 l18.length (0 : Int)) (0 : Int) n10).bind fun l19 =>
  Option.map .inr (some l19)

noncomputable def slices_Compact_int_int_b2 (n2 : Int) (l5 : List Int) (l9 : List Int) (n10 : Int) (n11 : Int) : Option (((List Int) × Int × Int) ⊕ (Int ⊕ (List Int))) :=
  if n11 < (l5.length : Int) then
    (idxS l9 n2 l5.length n11).bind fun v12 =>
    (idxS l9 n2 l5.length (w64 (n11 - (1 : Int)))).bind fun v13 =>
    if v12 ≠ v13 then
      (idxS l9 n2 l5.length n11).bind fun v16 =>
      (idx l9 n10).bind fun v17 =>
      slices_Compact_int_int_j1 n11 (l9.set n10.toNat v16) (w64 (n10 + (1 : Int)))
    else
      slices_Compact_int_int_j1 n11 l9 n10
  else
    Option.map .inr (slices_Compact_int_int_k2 l9 n10)

noncomputable def slices_Compact_int_int_l2 (n2 : Int) (l5 : List Int) (l9 : List Int) (n10 : Int) (n11 : Int) : Option (Int ⊕ (List Int)) :=
  iter (fun x : (List Int) × Int × Int => slices_Compact_int_int_b2 n2 l5 x.1 x.2.1 x.2.2) (l9, n10, n11)

noncomputable def slices_Compact_int_int_b1 (p0x0 : List Int) (n2 : Int) : Option (Int ⊕ (List Int)) :=
  if n2 < (p0x0.length : Int) then
    (idx p0x0 n2).bind fun v3 =>
    (idx p0x0 (w64 (n2 - (1 : Int)))).bind fun v4 =>
    if v3 = v4 then
      (slc p0x0 n2 (p0x0.length : Int)).bind fun l5 =>
      slices_Compact_int_int_l2 n2 l5 p0x0 n2 (1 : Int)
    else
      some (.inl (w64 (n2 + (1 : Int))))
  else
    Option.map .inr (some p0x0)

noncomputable def slices_Compact_int_int_l1 (p0x0 : List Int) (n2 : Int) : Option (List Int) :=
  iter (fun x : Int => slices_Compact_int_int_b1 p0x0 x) n2

noncomputable def slices_Compact_int_int (p0x0 : List Int) : Option (List Int) :=
  if (p0x0.length : Int) < (2 : Int) then
    some p0x0
  else
    slices_Compact_int_int_l1 p0x0 (1 : Int)

noncomputable def Q_signalMoments_j1 (n7 : Int) (l13 : List Int) : Option (((List Int) × Int) ⊕ (List Int)) :=
  some (.inl (l13, w64 (n7 + (1 : Int))))

noncomputable def Q_signalMoments_k2 (l6 : List Int) : Option (List Int) :=
  (lenOk l6.length (fun r : (List Int) => r.length) (slices_Sort_int_int l6)).bind fun v16 =>
  (slices_Compact_int_int v16).bind fun v17 =>
  some v17

noncomputable def Q_signalMoments_b1 (p0x0 : List Signal) (l6 : List Int) (n7 : Int) : Option (((List Int) × Int) ⊕ (List Int)) :=
  if n7 < (p0x0.length : Int) then
    (idx p0x0 n7).bind fun v8 =>
    (app l6 [v8.At]).bind fun l10 =>
    if v8.Kind = (4 : Int) then
      (app l10 [v8.Until]).bind fun l14 =>
      Q_signalMoments_j1 n7 l14
    else
      Q_signalMoments_j1 n7 l10
  else
    Option.map .inr (Q_signalMoments_k2 l6)

noncomputable def Q_signalMoments_l1 (p0x0 : List Signal) (l6 : List Int) (n7 : Int) : Option (List Int) :=
  iter (fun x : (List Int) × Int => Q_signalMoments_b1 p0x0 x.1 x.2) (l6, n7)

noncomputable def Q_signalMoments (p0x0 : List Signal) : Option (List Int) :=
  Q_signalMoments_l1 p0x0 [(0 : Int), (345686400000 : Int)] (0 : Int)

noncomputable def Q_tracksAt_1x_j1 (c1 : Bool) : Bool :=
  c1

noncomputable def Q_tracksAt_1x (p0x0 : Fleetref1_track) (p1x0 : Signal) : Bool :=
  Q_tracksAt_1x_j1 ((decide (p0x0.device_ = p1x0.Device)) && (decide (p0x0.rule_ = p1x0.Rule)))

noncomputable def slices_IndexFunc__Q_track_Q_track_b1 (p0x0 : List Fleetref1_track) (fnb : Fleetref1_track → Option Bool) (n2 : Int) : Option (Int ⊕ Int) :=
  if n2 < (p0x0.length : Int) then
    (idx p0x0 n2).bind fun v3 =>
    (fnb v3).bind fun v4 =>
    if v4 = true then
      Option.map .inr (some n2)
    else
      some (.inl (w64 (n2 + (1 : Int))))
  else
    Option.map .inr (some (-1 : Int))

noncomputable def slices_IndexFunc__Q_track_Q_track_l1 (p0x0 : List Fleetref1_track) (fnb : Fleetref1_track → Option Bool) (n2 : Int) : Option Int :=
  iter (fun x : Int => slices_IndexFunc__Q_track_Q_track_b1 p0x0 fnb x) n2

noncomputable def slices_IndexFunc__Q_track_Q_track (p0x0 : List Fleetref1_track) (fnb : Fleetref1_track → Option Bool) : Option Int :=
  slices_IndexFunc__Q_track_Q_track_l1 p0x0 fnb (0 : Int)

noncomputable def Q_track_step_j3 (p0x0 : Fleetref1_track) (p1x0 : Signal) (n4 : Int) (n5 : Int) (n6 : Int) : Option (Int × Fleetref1_track) :=
  (app p0x0.done_ [p1x0]).bind fun l20 =>
  some ((0 : Int), (⟨p0x0.device_, p0x0.rule_, l20, n4, (⟨n5, n6⟩ : Window)⟩ : Fleetref1_track))

noncomputable def Q_track_step_j4 (p0x0 : Fleetref1_track) (p1x0 : Signal) (n7 : Int) (n8 : Int) (n9 : Int) : Option (Int × Fleetref1_track) :=
  Q_track_step_j3 p0x0 p1x0 n7 n8 n9

noncomputable def Q_track_step_j5 (p0x0 : Fleetref1_track) (p1x0 : Signal) (n12 : Int) (n13 : Int) (n14 : Int) : Option (Int × Fleetref1_track) :=
  Q_track_step_j4 p0x0 p1x0 n12 n13 n14

noncomputable def Q_track_step_j6 (p0x0 : Fleetref1_track) (p1x0 : Signal) (c15 : Bool) : Option (Int × Fleetref1_track) :=
  if c15 = true then
    some ((11 : Int), p0x0)
  else
    (mgetO (mset (mset ([] : List (Int × Int)) (1 : Int) (2 : Int)) (3 : Int) (0 : Int)) p0x0.state_ (0 : Int)).bind fun v17 =>
    Q_track_step_j5 p0x0 p1x0 v17 p0x0.shelved_.From p0x0.shelved_.To

noncomputable def Q_track_step_j7 (p0x0 : Fleetref1_track) (p1x0 : Signal) (n18 : Int) (n19 : Int) : Option (Int × Fleetref1_track) :=
  Q_track_step_j5 p0x0 p1x0 p0x0.state_ n18 n19

noncomputable def Q_track_step_j2 (p0x0 : Fleetref1_track) (p1x0 : Signal) (c2 : Bool) (c3 : Bool) : Option (Int × Fleetref1_track) :=
  if p1x0.Kind = (1 : Int) then
    if c2 = true then
      some ((6 : Int), p0x0)
    else
      Q_track_step_j3 p0x0 p1x0 (1 : Int) p0x0.shelved_.From p0x0.shelved_.To
  else
    if p1x0.Kind = (2 : Int) then
      if (!c2) = true then
        some ((11 : Int), p0x0)
      else
        (mgetO (mset (mset ([] : List (Int × Int)) (1 : Int) (3 : Int)) (2 : Int) (0 : Int)) p0x0.state_ (0 : Int)).bind fun v11 =>
        Q_track_step_j4 p0x0 p1x0 v11 p0x0.shelved_.From p0x0.shelved_.To
    else
      if p1x0.Kind = (3 : Int) then
        Q_track_step_j6 p0x0 p1x0 ((decide (p0x0.state_ ≠ (1 : Int))) && (decide (p0x0.state_ ≠ (3 : Int))))
      else
        if p1x0.Kind = (4 : Int) then
          if c3 = true then
            some ((11 : Int), p0x0)
          else
            Q_track_step_j7 p0x0 p1x0 p1x0.At p1x0.Until
        else
          if (!c3) = true then
            some ((11 : Int), p0x0)
          else
            Q_track_step_j7 p0x0 p1x0 (0 : Int) (0 : Int)

noncomputable def Q_track_step_j1 (p0x0 : Fleetref1_track) (p1x0 : Signal) (c2 : Bool) : Option (Int × Fleetref1_track) :=
  Q_track_step_j2 p0x0 p1x0 c2 ((decide (p0x0.shelved_.From ≤ p1x0.At)) && (decide (p1x0.At < p0x0.shelved_.To)))

noncomputable def Q_track_step (p0x0 : Fleetref1_track) (p1x0 : Signal) : Option (Int × Fleetref1_track) :=
  Q_track_step_j1 p0x0 p1x0 ((decide (p0x0.state_ = (1 : Int))) || (decide (p0x0.state_ = (2 : Int))))

noncomputable def Q_tracksAt_2x (p0x0 : Fleetref1_track) (p1x0 : Fleetref1_track) : Option Int :=
  (cmp_Or_int [(Lib.compareBytes p0x0.device_ p1x0.device_), (Lib.compareBytes p0x0.rule_ p1x0.rule_)]).bind fun v1 =>
  some v1

noncomputable def Q_tracksAt_j1 (l4 : List Fleetref1_track) (l8 : List Int) (l10 : List Refused) : Option ((List Fleetref1_track) × (List Refused)) :=
  (sortA (fun y0 y1 => Q_tracksAt_2x y0 y1) l4 l8).bind fun l55 =>
  (idxs l4 l55).bind fun l56 =>
  some (l56, l10)

noncomputable def Q_tracksAt_j3 (n26 : Int) (l33 : List Fleetref1_track) (l37 : List Int) (v46 : Int) (v48 : Int × Fleetref1_track) (l52 : List Refused) : Option (((List Fleetref1_track) × (List Int) × (List Refused) × Int) ⊕ ((List Fleetref1_track) × (List Refused))) :=
  some (.inl (l33.set v46.toNat v48.2, l37, l52, w64 (n26 + (1 : Int))))

noncomputable def Q_tracksAt_j2 (l25 : List Refused) (n26 : Int) (v29 : Signal) (l33 : List Fleetref1_track) (l37 : List Int) (n38 : Int) : Option (((List Fleetref1_track) × (List Int) × (List Refused) × Int) ⊕ ((List Fleetref1_track) × (List Refused))) :=
  (idx l37 n38).bind fun v46 =>
  (idx l33 v46).bind fun v47 =>
  (Q_track_step v47 v29).bind fun v48 =>
  if v48.1 ≠ (0 : Int) then
    (app l25 [(⟨n26, v48.1⟩ : Refused)]).bind fun l53 =>
    Q_tracksAt_j3 n26 l33 l37 v46 v48 l53
  else
    Q_tracksAt_j3 n26 l33 l37 v46 v48 l25

noncomputable def Q_tracksAt_b1 (p0x0 : List Signal) (p1x0 : Int) (l19 : List Fleetref1_track) (l23 : List Int) (l25 : List Refused) (n26 : Int) : Option (((List Fleetref1_track) × (List Int) × (List Refused) × Int) ⊕ ((List Fleetref1_track) × (List Refused))) :=
  if n26 < (p0x0.length : Int) then
    (idx p0x0 n26).bind fun v29 =>
    if p1x0 < v29.At then
      Option.map .inr (Q_tracksAt_j1 l19 l23 l25)
    else
      (idxs l19 l23).bind fun l31 =>
      (slices_IndexFunc__Q_track_Q_track l31 (fun y0 => some (Q_tracksAt_1x y0 v29))).bind fun v32 =>
      if v32 < (0 : Int) then
        (inB l19.length l23).bind fun u41 =>
        (app l23 [(l19.length : Int)]).bind fun l44 =>
        Q_tracksAt_j2 l25 n26 v29 (l19 ++ [(⟨v29.Device, v29.Rule, [], (0 : Int), (⟨(0 : Int), (0 : Int)⟩ : Window)⟩ : Fleetref1_track)]) l44 (l23.length : Int)
      else
        Q_tracksAt_j2 l25 n26 v29 l19 l23 v32
  else
    Option.map .inr (Q_tracksAt_j1 l19 l23 l25)

noncomputable def Q_tracksAt_l1 (p0x0 : List Signal) (p1x0 : Int) (l19 : List Fleetref1_track) (l23 : List Int) (l25 : List Refused) (n26 : Int) : Option ((List Fleetref1_track) × (List Refused)) :=
  iter (fun x : (List Fleetref1_track) × (List Int) × (List Refused) × Int => Q_tracksAt_b1 p0x0 p1x0 x.1 x.2.1 x.2.2.1 x.2.2.2) (l19, l23, l25, n26)

noncomputable def Q_tracksAt (p0x0 : List Signal) (p1x0 : Int) : Option ((List Fleetref1_track) × (List Refused)) :=
  Q_tracksAt_l1 p0x0 p1x0 [] [] [] (0 : Int)

noncomputable def Q_track_alarm_j2 (n8 : Int) (n11 : Int) (n12 : Int) : Option ((Int × Int × Int) ⊕ Alarm) :=
  some (.inl (n11, n12, w64 (n8 + (1 : Int))))

noncomputable def Q_track_alarm_j1 (n7 : Int) (n8 : Int) (v9 : Signal) (n11 : Int) : Option ((Int × Int × Int) ⊕ Alarm) :=
  if v9.Kind = (1 : Int) then
    Q_track_alarm_j2 n8 n11 (w64 (n7 + (1 : Int)))
  else
    Q_track_alarm_j2 n8 n11 n7

noncomputable def Q_track_alarm_j4 (p0x0 : Fleetref1_track) (n6 : Int) (n7 : Int) (n14 : Int) : Option Alarm :=
  some (⟨p0x0.device_, p0x0.rule_, p0x0.state_, n6, n7, n14⟩ : Alarm)

noncomputable def Q_track_alarm_j3 (p0x0 : Fleetref1_track) (n6 : Int) (n7 : Int) (c13 : Bool) : Option Alarm :=
  if c13 = true then
    Q_track_alarm_j4 p0x0 n6 n7 p0x0.shelved_.To
  else
    Q_track_alarm_j4 p0x0 n6 n7 (0 : Int)

noncomputable def Q_track_alarm_b1 (p0x0 : Fleetref1_track) (p1x0 : Int) (n6 : Int) (n7 : Int) (n8 : Int) : Option ((Int × Int × Int) ⊕ Alarm) :=
  if n8 < (p0x0.done_.length : Int) then
    (idx p0x0.done_ n8).bind fun v9 =>
    if v9.Kind ≤ (3 : Int) then
      Q_track_alarm_j1 n7 n8 v9 v9.At
    else
      Q_track_alarm_j1 n7 n8 v9 n6
  else
    Option.map .inr (Q_track_alarm_j3 p0x0 n6 n7 ((decide (p0x0.shelved_.From ≤ p1x0)) && (decide (p1x0 < p0x0.shelved_.To))))

noncomputable def Q_track_alarm_l1 (p0x0 : Fleetref1_track) (p1x0 : Int) (n6 : Int) (n7 : Int) (n8 : Int) : Option Alarm :=
  iter (fun x : Int × Int × Int => Q_track_alarm_b1 p0x0 p1x0 x.1 x.2.1 x.2.2) (n6, n7, n8)

noncomputable def Q_track_alarm (p0x0 : Fleetref1_track) (p1x0 : Int) : Option Alarm :=
  Q_track_alarm_l1 p0x0 p1x0 (0 : Int) (0 : Int) (0 : Int)

noncomputable def Q_AlarmAt_j1 (p3x0 : Int) (n5 : Int) (v6 : Fleetref1_track) (c7 : Bool) : Option (Int ⊕ Alarm) :=
  if c7 = true then
    (Q_track_alarm v6 p3x0).bind fun v8 =>
    Option.map .inr (some v8)
  else
    some (.inl (w64 (n5 + (1 : Int))))

noncomputable def Q_AlarmAt_b1 (p1x0 : Str) (p2x0 : Str) (p3x0 : Int) (v2 : (List Fleetref1_track) × (List Refused)) (n5 : Int) : Option (Int ⊕ Alarm) :=
  if n5 < (v2.1.length : Int) then
    (idx v2.1 n5).bind fun v6 =>
    Q_AlarmAt_j1 p3x0 n5 v6 ((decide (v6.device_ = p1x0)) && (decide (v6.rule_ = p2x0)))
  else
    Option.map .inr (some (⟨p1x0, p2x0, (0 : Int), (0 : Int), (0 : Int), (0 : Int)⟩ : Alarm))

noncomputable def Q_AlarmAt_l1 (p1x0 : Str) (p2x0 : Str) (p3x0 : Int) (v2 : (List Fleetref1_track) × (List Refused)) (n5 : Int) : Option Alarm :=
  iter (fun x : Int => Q_AlarmAt_b1 p1x0 p2x0 p3x0 v2 x) n5

noncomputable def Q_AlarmAt (p0x0 : List Signal) (p1x0 : Str) (p2x0 : Str) (p3x0 : Int) : Option Alarm :=
  (Q_tracksAt p0x0 p3x0).bind fun v2 =>
  Q_AlarmAt_l1 p1x0 p2x0 p3x0 v2 (0 : Int)

noncomputable def Q_timesOf_j1 (n8 : Int) (l11 : List Window) : Option (((List Window) × Int) ⊕ (List Window)) :=
  some (.inl (l11, w64 (n8 + (1 : Int))))

noncomputable def Q_timesOf_j3 (n8 : Int) (l19 : List Window) : Option (((List Window) × Int) ⊕ (List Window)) :=
  Q_timesOf_j1 n8 l19

noncomputable def Q_timesOf_j2 (v1 : (List Int)) (l7 : List Window) (n8 : Int) (c15 : Bool) : Option (((List Window) × Int) ⊕ (List Window)) :=
  if c15 = true then
    (idx v1 (w64 (n8 + (1 : Int)))).bind fun v20 =>
    (idx l7 (w64 ((l7.length : Int) - (1 : Int)))).bind fun v21 =>
    Q_timesOf_j3 n8 (l7.set (w64 ((l7.length : Int) - (1 : Int))).toNat (⟨v21.From, v20⟩ : Window))
  else
    (idx v1 n8).bind fun v22 =>
    (idx v1 (w64 (n8 + (1 : Int)))).bind fun v23 =>
    (app l7 [(⟨v22, v23⟩ : Window)]).bind fun l24 =>
    Q_timesOf_j3 n8 l24

noncomputable def Q_timesOf_b1 (p0x0 : List Signal) (p1x0 : Str) (p2x0 : Str) (fnd : Alarm → Option Bool) (v1 : (List Int)) (l7 : List Window) (n8 : Int) : Option (((List Window) × Int) ⊕ (List Window)) :=
  if n8 < (w64 ((v1.length : Int) - (1 : Int))) then
    (idx v1 n8).bind fun v12 =>
    (Q_AlarmAt p0x0 p1x0 p2x0 v12).bind fun v13 =>
    (fnd v13).bind fun v14 =>
    if (!v14) = true then
      Q_timesOf_j1 n8 l7
    else
      if (0 : Int) < (l7.length : Int) then
        (idx l7 (w64 ((l7.length : Int) - (1 : Int)))).bind fun v16 =>
        (idx v1 n8).bind fun v17 =>
        Q_timesOf_j2 v1 l7 n8 (decide (v16.To = v17))
      else
        Q_timesOf_j2 v1 l7 n8 false
  else
    Option.map .inr (some l7)

noncomputable def Q_timesOf_l1 (p0x0 : List Signal) (p1x0 : Str) (p2x0 : Str) (fnd : Alarm → Option Bool) (v1 : (List Int)) (l7 : List Window) (n8 : Int) : Option (List Window) :=
  iter (fun x : (List Window) × Int => Q_timesOf_b1 p0x0 p1x0 p2x0 fnd v1 x.1 x.2) (l7, n8)

noncomputable def Q_timesOf (p0x0 : List Signal) (p1x0 : Str) (p2x0 : Str) (fnd : Alarm → Option Bool) : Option (List Window) :=
  (Q_signalMoments p0x0).bind fun v1 =>
  Q_timesOf_l1 p0x0 p1x0 p2x0 fnd v1 [] (0 : Int)

noncomputable def Q_ActiveTimes (p0x0 : List Signal) (p1x0 : Str) (p2x0 : Str) : Option (List Window) :=
  (Q_timesOf p0x0 p1x0 p2x0 (fun y0 => some (Q_isUp y0))).bind fun v1 =>
  some v1

noncomputable def slices_Equal_Window_Window_b1 (p0x0 : List Window) (p1x0 : List Window) (n2 : Int) : Option (Int ⊕ Bool) :=
  if n2 < (p0x0.length : Int) then
    (idx p0x0 n2).bind fun v3 =>
    (idx p1x0 n2).bind fun v4 =>
    if v3 ≠ v4 then
      Option.map .inr (some false)
    else
      some (.inl (w64 (n2 + (1 : Int))))
  else
    Option.map .inr (some true)

noncomputable def slices_Equal_Window_Window_l1 (p0x0 : List Window) (p1x0 : List Window) (n2 : Int) : Option Bool :=
  iter (fun x : Int => slices_Equal_Window_Window_b1 p0x0 p1x0 x) n2

noncomputable def slices_Equal_Window_Window (p0x0 : List Window) (p1x0 : List Window) : Option Bool :=
  if (p0x0.length : Int) ≠ (p1x0.length : Int) then
    some false
  else
    slices_Equal_Window_Window_l1 p0x0 p1x0 (0 : Int)

noncomputable def alarm_NextChange_1x (p0x0 : Signal) (p1x0 : Int) : Bool :=
  decide (p1x0 < p0x0.At)

noncomputable def slices_IndexFunc_Signal_Signal_b1 (p0x0 : List Signal) (fnb : Signal → Option Bool) (n2 : Int) : Option (Int ⊕ Int) :=
  if n2 < (p0x0.length : Int) then
    (idx p0x0 n2).bind fun v3 =>
    (fnb v3).bind fun v4 =>
    if v4 = true then
      Option.map .inr (some n2)
    else
      some (.inl (w64 (n2 + (1 : Int))))
  else
    Option.map .inr (some (-1 : Int))

noncomputable def slices_IndexFunc_Signal_Signal_l1 (p0x0 : List Signal) (fnb : Signal → Option Bool) (n2 : Int) : Option Int :=
  iter (fun x : Int => slices_IndexFunc_Signal_Signal_b1 p0x0 fnb x) n2

noncomputable def slices_IndexFunc_Signal_Signal (p0x0 : List Signal) (fnb : Signal → Option Bool) : Option Int :=
  slices_IndexFunc_Signal_Signal_l1 p0x0 fnb (0 : Int)

noncomputable def alarm_life_view_j2 (p0x0 : Alarm_life) (n3 : Int) (c4 : Bool) : Alarm × Bool :=
  ((⟨p0x0.name_.device_, p0x0.name_.rule_, p0x0.state_, p0x0.since_, (p0x0.raises_.length : Int), n3⟩ : Alarm), c4)

noncomputable def alarm_life_view_j1 (p0x0 : Alarm_life) (n3 : Int) : Alarm × Bool :=
  if p0x0.state_ ≠ (0 : Int) then
    alarm_life_view_j2 p0x0 n3 true
  else
    alarm_life_view_j2 p0x0 n3 (decide ((0 : Int) < n3))

noncomputable def alarm_life_view (p0x0 : Alarm_life) (p1x0 : Int) : Alarm × Bool :=
  if p1x0 < p0x0.shelved_ then
    alarm_life_view_j1 p0x0 p0x0.shelved_
  else
    alarm_life_view_j1 p0x0 (0 : Int)

noncomputable def alarm_house_changes_1x_j1 (p0x0 : Alarm_life) (p1x0 : Int) (q3 : Str) (q4 : Str) (n5 : Int) (n6 : Int) (n7 : Int) (n8 : Int) : Alarm_seen :=
  (⟨(⟨q3, q4, n5, n6, n7, n8⟩ : Alarm), (alarm_life_view p0x0 p1x0).2⟩ : Alarm_seen)

noncomputable def alarm_house_changes_1x (p0x0 : Alarm_life) (p1x0 : Int) : Alarm_seen :=
  if (!((alarm_life_view p0x0 p1x0).2)) = true then
    alarm_house_changes_1x_j1 p0x0 p1x0 [] [] (0 : Int) (0 : Int) (0 : Int) (0 : Int)
  else
    alarm_house_changes_1x_j1 p0x0 p1x0 (((alarm_life_view p0x0 p1x0).1).Device) (((alarm_life_view p0x0 p1x0).1).Rule) (((alarm_life_view p0x0 p1x0).1).State) (((alarm_life_view p0x0 p1x0).1).Since) (((alarm_life_view p0x0 p1x0).1).Raised) (((alarm_life_view p0x0 p1x0).1).Shelved)

noncomputable def alarm_house_changes_c0x1x_b3 (p2x0 : Int) (l5 : List Alarm_seen) (l18 : List (Alarm_name × Int)) (l19 : List Alarm_life) (l22 : List Int) (n30 : Int) : Option (Int ⊕ (Bool × Alarm_house)) :=
  if n30 < (l22.length : Int) then
    (idx l22 n30).bind fun v31 =>
    (idx l19 v31).bind fun v32 =>
    (idx l5 n30).bind fun v33 =>
    if (alarm_house_changes_1x v32 p2x0) ≠ v33 then
      Option.map .inr (some (true, (⟨l18, l22, l19⟩ : Alarm_house)))
    else
      some (.inl (w64 (n30 + (1 : Int))))
  else
    Option.map .inr (some (false, (⟨l18, l22, l19⟩ : Alarm_house)))

noncomputable def alarm_house_changes_c0x1x_l3 (p2x0 : Int) (l5 : List Alarm_seen) (l18 : List (Alarm_name × Int)) (l19 : List Alarm_life) (l22 : List Int) (n30 : Int) : Option (Bool × Alarm_house) :=
  iter (fun x : Int => alarm_house_changes_c0x1x_b3 p2x0 l5 l18 l19 l22 x) n30

noncomputable def alarm_house_changes_c0x1x_b2 (p1x0 : List Signal) (p2x0 : Int) (l5 : List Alarm_seen) (l18 : List (Alarm_name × Int)) (l19 : List Alarm_life) (l22 : List Int) (n23 : Int) : Option (((List (Alarm_name × Int)) × (List Alarm_life) × (List Int) × Int) ⊕ (Bool × Alarm_house)) :=
  if n23 < (p1x0.length : Int) then
    (idx p1x0 n23).bind fun v24 =>
    (alarm_house_follow_c0x1x (⟨l18, l22, l19⟩ : Alarm_house) v24).bind fun v26 =>
    some (.inl (v26.2.all_, v26.2.ar0, v26.2.order_, w64 (n23 + (1 : Int))))
  else
    Option.map .inr (alarm_house_changes_c0x1x_l3 p2x0 l5 l18 l19 l22 (0 : Int))

noncomputable def alarm_house_changes_c0x1x_l2 (p1x0 : List Signal) (p2x0 : Int) (l5 : List Alarm_seen) (l18 : List (Alarm_name × Int)) (l19 : List Alarm_life) (l22 : List Int) (n23 : Int) : Option (Bool × Alarm_house) :=
  iter (fun x : (List (Alarm_name × Int)) × (List Alarm_life) × (List Int) × Int => alarm_house_changes_c0x1x_b2 p1x0 p2x0 l5 x.1 x.2.1 x.2.2.1 x.2.2.2) (l18, l19, l22, n23)

noncomputable def alarm_house_changes_c0x1x_b1 (p0x0 : Alarm_house) (p1x0 : List Signal) (p2x0 : Int) (l5 : List Alarm_seen) (n6 : Int) : Option (((List Alarm_seen) × Int) ⊕ (Bool × Alarm_house)) :=
  if n6 < (p0x0.order_.length : Int) then
    (idx p0x0.order_ n6).bind fun v8 =>
    (idx p0x0.ar0 v8).bind fun v9 =>
    (app l5 [(alarm_house_changes_1x v9 (w64 (p2x0 - (1 : Int))))]).bind fun l10 =>
    some (.inl (l10, w64 (n6 + (1 : Int))))
  else
    Option.map .inr (alarm_house_changes_c0x1x_l2 p1x0 p2x0 l5 p0x0.all_ p0x0.ar0 p0x0.order_ (0 : Int))

noncomputable def alarm_house_changes_c0x1x_l1 (p0x0 : Alarm_house) (p1x0 : List Signal) (p2x0 : Int) (l5 : List Alarm_seen) (n6 : Int) : Option (Bool × Alarm_house) :=
  iter (fun x : (List Alarm_seen) × Int => alarm_house_changes_c0x1x_b1 p0x0 p1x0 p2x0 x.1 x.2) (l5, n6)

noncomputable def alarm_house_changes_c0x1x (p0x0 : Alarm_house) (p1x0 : List Signal) (p2x0 : Int) : Option (Bool × Alarm_house) :=
  alarm_house_changes_c0x1x_l1 p0x0 p1x0 p2x0 [] (0 : Int)

noncomputable def alarm_NextChange_j3 (n31 : Int) (n34 : Int) : Option ((Int × Int) ⊕ (((List (Alarm_name × Int)) × (List Alarm_life) × (List Int) × Int × Int) ⊕ (Int × Bool × Int))) :=
  some (.inl (n34, w64 (n31 + (1 : Int))))

noncomputable def alarm_NextChange_k5 (p0x0 : List Signal) (l19 : List (Alarm_name × Int)) (l20 : List Alarm_life) (l23 : List Int) (n24 : Int) (n30 : Int) (n36 : Int) : Option (((List (Alarm_name × Int)) × (List Alarm_life) × (List Int) × Int × Int) ⊕ (Int × Bool × Int)) :=
  (slc p0x0 n24 n36).bind fun l39 =>
  (alarm_house_changes_c0x1x (⟨l19, l23, l20⟩ : Alarm_house) l39 n30).bind fun v40 =>
  if v40.1 = true then
    Option.map .inr (some (n30, true, (0 : Int)))
  else
    some (.inl (v40.2.all_, v40.2.ar0, v40.2.order_, n36, n30))

noncomputable def alarm_NextChange_j4 (p0x0 : List Signal) (l19 : List (Alarm_name × Int)) (l20 : List Alarm_life) (l23 : List Int) (n24 : Int) (n30 : Int) (n36 : Int) (c37 : Bool) : Option (Int ⊕ (((List (Alarm_name × Int)) × (List Alarm_life) × (List Int) × Int × Int) ⊕ (Int × Bool × Int))) :=
  if c37 = true then
    some (.inl (w64 (n36 + (1 : Int))))
  else
    Option.map .inr (alarm_NextChange_k5 p0x0 l19 l20 l23 n24 n30 n36)

noncomputable def alarm_NextChange_b3 (p0x0 : List Signal) (l19 : List (Alarm_name × Int)) (l20 : List Alarm_life) (l23 : List Int) (n24 : Int) (n30 : Int) (n36 : Int) : Option (Int ⊕ (((List (Alarm_name × Int)) × (List Alarm_life) × (List Int) × Int × Int) ⊕ (Int × Bool × Int))) :=
  if n36 < (p0x0.length : Int) then
    (idx p0x0 n36).bind fun v38 =>
    alarm_NextChange_j4 p0x0 l19 l20 l23 n24 n30 n36 (decide (v38.At = n30))
  else
    alarm_NextChange_j4 p0x0 l19 l20 l23 n24 n30 n36 false

noncomputable def alarm_NextChange_l3 (p0x0 : List Signal) (l19 : List (Alarm_name × Int)) (l20 : List Alarm_life) (l23 : List Int) (n24 : Int) (n30 : Int) (n36 : Int) : Option (((List (Alarm_name × Int)) × (List Alarm_life) × (List Int) × Int × Int) ⊕ (Int × Bool × Int)) :=
  iter (fun x : Int => alarm_NextChange_b3 p0x0 l19 l20 l23 n24 n30 x) n36

noncomputable def alarm_NextChange_k6 (p0x0 : List Signal) (l19 : List (Alarm_name × Int)) (l20 : List Alarm_life) (l23 : List Int) (n24 : Int) (n30 : Int) : Option (((List (Alarm_name × Int)) × (List Alarm_life) × (List Int) × Int × Int) ⊕ (Int × Bool × Int)) :=
  if (345686400000 : Int) ≤ n30 then
    Option.map .inr (some ((0 : Int), false, (0 : Int)))
  else
    alarm_NextChange_l3 p0x0 l19 l20 l23 n24 n30 n24

noncomputable def alarm_NextChange_b2 (p0x0 : List Signal) (l19 : List (Alarm_name × Int)) (l20 : List Alarm_life) (l23 : List Int) (n24 : Int) (n25 : Int) (n30 : Int) (n31 : Int) : Option ((Int × Int) ⊕ (((List (Alarm_name × Int)) × (List Alarm_life) × (List Int) × Int × Int) ⊕ (Int × Bool × Int))) :=
  if n31 < (l23.length : Int) then
    (idx l23 n31).bind fun v32 =>
    (idx l20 v32).bind fun v33 =>
    if n25 < v33.shelved_ then
      alarm_NextChange_j3 n31 (min n30 v33.shelved_)
    else
      alarm_NextChange_j3 n31 n30
  else
    Option.map .inr (alarm_NextChange_k6 p0x0 l19 l20 l23 n24 n30)

noncomputable def alarm_NextChange_l2 (p0x0 : List Signal) (l19 : List (Alarm_name × Int)) (l20 : List Alarm_life) (l23 : List Int) (n24 : Int) (n25 : Int) (n30 : Int) (n31 : Int) : Option (((List (Alarm_name × Int)) × (List Alarm_life) × (List Int) × Int × Int) ⊕ (Int × Bool × Int)) :=
  iter (fun x : Int × Int => alarm_NextChange_b2 p0x0 l19 l20 l23 n24 n25 x.1 x.2) (n30, n31)

noncomputable def alarm_NextChange_j2 (p0x0 : List Signal) (l19 : List (Alarm_name × Int)) (l20 : List Alarm_life) (l23 : List Int) (n24 : Int) (n25 : Int) (n26 : Int) : Option (((List (Alarm_name × Int)) × (List Alarm_life) × (List Int) × Int × Int) ⊕ (Int × Bool × Int)) :=
  alarm_NextChange_l2 p0x0 l19 l20 l23 n24 n25 n26 (0 : Int)

noncomputable def alarm_NextChange_b1 (p0x0 : List Signal) (l19 : List (Alarm_name × Int)) (l20 : List Alarm_life) (l23 : List Int) (n24 : Int) (n25 : Int) : Option (((List (Alarm_name × Int)) × (List Alarm_life) × (List Int) × Int × Int) ⊕ (Int × Bool × Int)) :=
  if n24 < (p0x0.length : Int) then
    (idx p0x0 n24).bind fun v27 =>
    alarm_NextChange_j2 p0x0 l19 l20 l23 n24 n25 v27.At
  else
    alarm_NextChange_j2 p0x0 l19 l20 l23 n24 n25 (345686400000 : Int)

noncomputable def alarm_NextChange_l1 (p0x0 : List Signal) (l19 : List (Alarm_name × Int)) (l20 : List Alarm_life) (l23 : List Int) (n24 : Int) (n25 : Int) : Option (Int × Bool × Int) :=
  iter (fun x : (List (Alarm_name × Int)) × (List Alarm_life) × (List Int) × Int × Int => alarm_NextChange_b1 p0x0 x.1 x.2.1 x.2.2.1 x.2.2.2.1 x.2.2.2.2) (l19, l20, l23, n24, n25)

noncomputable def alarm_NextChange_j1 (p0x0 : List Signal) (p1x0 : Int) (v3 : Alarm_house) (n11 : Int) : Option (Int × Bool × Int) :=
  alarm_NextChange_l1 p0x0 v3.all_ v3.ar0 v3.order_ n11 p1x0

noncomputable def alarm_NextChange (p0x0 : List Signal) (p1x0 : Int) : Option (Int × Bool × Int) :=
  (alarm_CheckSignals p0x0).bind fun v2 =>
  if v2 ≠ (0 : Int) then
    some ((0 : Int), false, v2)
  else
    if (!(base_Moment p1x0)) = true then
      some ((0 : Int), false, (1 : Int))
    else
      (alarm_at p0x0 p1x0).bind fun v3 =>
      (slices_IndexFunc_Signal_Signal p0x0 (fun y0 => some (alarm_NextChange_1x y0 p1x0))).bind fun v10 =>
      if v10 < (0 : Int) then
        alarm_NextChange_j1 p0x0 p1x0 v3 (p0x0.length : Int)
      else
        alarm_NextChange_j1 p0x0 p1x0 v3 v10

noncomputable def Q_AlarmsAt_j2 (n8 : Int) (l15 : List Alarm) : Option (((List Alarm) × Int) ⊕ (List Alarm)) :=
  some (.inl (l15, w64 (n8 + (1 : Int))))

noncomputable def Q_AlarmsAt_j1 (l7 : List Alarm) (n8 : Int) (v11 : Alarm) (c13 : Bool) : Option (((List Alarm) × Int) ⊕ (List Alarm)) :=
  if c13 = true then
    (app l7 [v11]).bind fun l16 =>
    Q_AlarmsAt_j2 n8 l16
  else
    Q_AlarmsAt_j2 n8 l7

noncomputable def Q_AlarmsAt_b1 (p1x0 : Int) (v1 : (List Fleetref1_track) × (List Refused)) (l7 : List Alarm) (n8 : Int) : Option (((List Alarm) × Int) ⊕ (List Alarm)) :=
  if n8 < (v1.1.length : Int) then
    (idx v1.1 n8).bind fun v10 =>
    (Q_track_alarm v10 p1x0).bind fun v11 =>
    Q_AlarmsAt_j1 l7 n8 v11 ((decide (v11.State ≠ (0 : Int))) || (decide ((0 : Int) < v11.Shelved)))
  else
    Option.map .inr (some l7)

noncomputable def Q_AlarmsAt_l1 (p1x0 : Int) (v1 : (List Fleetref1_track) × (List Refused)) (l7 : List Alarm) (n8 : Int) : Option (List Alarm) :=
  iter (fun x : (List Alarm) × Int => Q_AlarmsAt_b1 p1x0 v1 x.1 x.2) (l7, n8)

noncomputable def Q_AlarmsAt (p0x0 : List Signal) (p1x0 : Int) : Option (List Alarm) :=
  (Q_tracksAt p0x0 p1x0).bind fun v1 =>
  Q_AlarmsAt_l1 p1x0 v1 [] (0 : Int)

noncomputable def slices_Equal_Alarm_Alarm_b1 (p0x0 : List Alarm) (p1x0 : List Alarm) (n2 : Int) : Option (Int ⊕ Bool) :=
  if n2 < (p0x0.length : Int) then
    (idx p0x0 n2).bind fun v3 =>
    (idx p1x0 n2).bind fun v4 =>
    if v3 ≠ v4 then
      Option.map .inr (some false)
    else
      some (.inl (w64 (n2 + (1 : Int))))
  else
    Option.map .inr (some true)

noncomputable def slices_Equal_Alarm_Alarm_l1 (p0x0 : List Alarm) (p1x0 : List Alarm) (n2 : Int) : Option Bool :=
  iter (fun x : Int => slices_Equal_Alarm_Alarm_b1 p0x0 p1x0 x) n2

noncomputable def slices_Equal_Alarm_Alarm (p0x0 : List Alarm) (p1x0 : List Alarm) : Option Bool :=
  if (p0x0.length : Int) ≠ (p1x0.length : Int) then
    some false
  else
    slices_Equal_Alarm_Alarm_l1 p0x0 p1x0 (0 : Int)

noncomputable def Q_NextAlarms_j1 (n4 : Int) (v5 : Int) (c6 : Bool) : Option (Int ⊕ (Int × Bool)) :=
  if c6 = true then
    Option.map .inr (some (v5, true))
  else
    some (.inl (w64 (n4 + (1 : Int))))

noncomputable def Q_NextAlarms_b1 (p0x0 : List Signal) (p1x0 : Int) (v1 : (List Int)) (n4 : Int) : Option (Int ⊕ (Int × Bool)) :=
  if n4 < (v1.length : Int) then
    (idx v1 n4).bind fun v5 =>
    if p1x0 < v5 then
      if v5 < (345686400000 : Int) then
        (Q_AlarmsAt p0x0 v5).bind fun v7 =>
        (Q_AlarmsAt p0x0 (w64 (v5 - (1 : Int)))).bind fun v9 =>
        (slices_Equal_Alarm_Alarm v7 v9).bind fun v11 =>
        Q_NextAlarms_j1 n4 v5 (!v11)
      else
        Q_NextAlarms_j1 n4 v5 false
    else
      Q_NextAlarms_j1 n4 v5 false
  else
    Option.map .inr (some ((0 : Int), false))

noncomputable def Q_NextAlarms_l1 (p0x0 : List Signal) (p1x0 : Int) (v1 : (List Int)) (n4 : Int) : Option (Int × Bool) :=
  iter (fun x : Int => Q_NextAlarms_b1 p0x0 p1x0 v1 x) n4

noncomputable def Q_NextAlarms (p0x0 : List Signal) (p1x0 : Int) : Option (Int × Bool) :=
  (Q_signalMoments p0x0).bind fun v1 =>
  Q_NextAlarms_l1 p0x0 p1x0 v1 (0 : Int)

noncomputable def alarm_flapFault_j1 (c2 : Bool) : Int :=
  if c2 = true then
    (1 : Int)
  else
    (0 : Int)

noncomputable def alarm_flapFault (p0x0 : Flap) : Int :=
  alarm_flapFault_j1 ((base_Out p0x0.Many (2 : Int) (1000 : Int)) || ((base_Out p0x0.Window (1 : Int) (2592000000 : Int)) || (base_Out p0x0.Calm (1 : Int) (2592000000 : Int))))

noncomputable def base_First_b1 (p0x0 : List Int) (n2 : Int) : Option (Int ⊕ Int) :=
  if n2 < (p0x0.length : Int) then
    (idx p0x0 n2).bind fun v3 =>
    if v3 ≠ (0 : Int) then
      Option.map .inr (some v3)
    else
      some (.inl (w64 (n2 + (1 : Int))))
  else
    Option.map .inr (some (0 : Int))

noncomputable def base_First_l1 (p0x0 : List Int) (n2 : Int) : Option Int :=
  iter (fun x : Int => base_First_b1 p0x0 x) n2

noncomputable def base_First (p0x0 : List Int) : Option Int :=
  base_First_l1 p0x0 (0 : Int)

noncomputable def alarm_flaps_j2 (n9 : Int) (n13 : Int) (l18 : List Window) : Option (((List Window) × Int × Int) ⊕ (List Window)) :=
  some (.inl (l18, n13, w64 (n9 + (1 : Int))))

noncomputable def alarm_flaps_j3 (n9 : Int) (n13 : Int) (l21 : List Window) : Option (((List Window) × Int × Int) ⊕ (List Window)) :=
  alarm_flaps_j2 n9 n13 l21

noncomputable def alarm_flaps_j1 (p0x0 : Flap) (l7 : List Window) (n9 : Int) (v11 : Int) (n13 : Int) (c15 : Bool) : Option (((List Window) × Int × Int) ⊕ (List Window)) :=
  if c15 = true then
    (idx l7 (w64 ((l7.length : Int) - (1 : Int)))).bind fun v19 =>
    alarm_flaps_j2 n9 n13 (l7.set (w64 ((l7.length : Int) - (1 : Int))).toNat (⟨v19.From, w64 (v11 + p0x0.Calm)⟩ : Window))
  else
    if p0x0.Many ≤ (w64 ((w64 (n9 - n13)) + (1 : Int))) then
      (app l7 [(⟨v11, w64 (v11 + p0x0.Calm)⟩ : Window)]).bind fun l22 =>
      alarm_flaps_j3 n9 n13 l22
    else
      alarm_flaps_j3 n9 n13 l7

noncomputable def alarm_flaps_k4 (p0x0 : Flap) (l7 : List Window) (n9 : Int) (v11 : Int) (n13 : Int) : Option (((List Window) × Int × Int) ⊕ (List Window)) :=
  if (0 : Int) ≤ (w64 ((l7.length : Int) - (1 : Int))) then
    (idx l7 (w64 ((l7.length : Int) - (1 : Int)))).bind fun v16 =>
    alarm_flaps_j1 p0x0 l7 n9 v11 n13 (decide (v11 ≤ v16.To))
  else
    alarm_flaps_j1 p0x0 l7 n9 v11 n13 false

noncomputable def alarm_flaps_b2 (p0x0 : Flap) (p1x0 : List Int) (l7 : List Window) (n9 : Int) (v11 : Int) (n13 : Int) : Option (Int ⊕ (((List Window) × Int × Int) ⊕ (List Window))) :=
  (idx p1x0 n13).bind fun v14 =>
  if v14 ≤ (w64 (v11 - p0x0.Window)) then
    some (.inl (w64 (n13 + (1 : Int))))
  else
    Option.map .inr (alarm_flaps_k4 p0x0 l7 n9 v11 n13)

noncomputable def alarm_flaps_l2 (p0x0 : Flap) (p1x0 : List Int) (l7 : List Window) (n9 : Int) (v11 : Int) (n13 : Int) : Option (((List Window) × Int × Int) ⊕ (List Window)) :=
  iter (fun x : Int => alarm_flaps_b2 p0x0 p1x0 l7 n9 v11 x) n13

noncomputable def alarm_flaps_b3 (l7 : List Window) (l26 : List Window) (n27 : Int) : Option (((List Window) × Int) ⊕ (List Window)) :=
  if n27 < (l7.length : Int) then
    (idx l26 n27).bind fun v28 =>
    (idx l26 n27).bind fun v29 =>
    some (.inl (l26.set n27.toNat (⟨v29.From, min v28.To (345686400000 : Int)⟩ : Window), w64 (n27 + (1 : Int))))
  else
    Option.map .inr (some l26)

noncomputable def alarm_flaps_l3 (l7 : List Window) (l26 : List Window) (n27 : Int) : Option (List Window) :=
  iter (fun x : (List Window) × Int => alarm_flaps_b3 l7 x.1 x.2) (l26, n27)

noncomputable def alarm_flaps_b1 (p0x0 : Flap) (p1x0 : List Int) (l7 : List Window) (n8 : Int) (n9 : Int) : Option (((List Window) × Int × Int) ⊕ (List Window)) :=
  if n9 < (p1x0.length : Int) then
    (idx p1x0 n9).bind fun v11 =>
    alarm_flaps_l2 p0x0 p1x0 l7 n9 v11 n8
  else
    Option.map .inr (alarm_flaps_l3 l7 l7 (0 : Int))

noncomputable def alarm_flaps_l1 (p0x0 : Flap) (p1x0 : List Int) (l7 : List Window) (n8 : Int) (n9 : Int) : Option (List Window) :=
  iter (fun x : (List Window) × Int × Int => alarm_flaps_b1 p0x0 p1x0 x.1 x.2.1 x.2.2) (l7, n8, n9)

noncomputable def alarm_flaps (p0x0 : Flap) (p1x0 : List Int) : Option (List Window) :=
  alarm_flaps_l1 p0x0 p1x0 [] (0 : Int) (0 : Int)

noncomputable def alarm_Flapping (p0x0 : Flap) (p1x0 : List Signal) (p2x0 : Str) (p3x0 : Str) : Option ((List Window) × Int) :=
  (alarm_nameFault p1x0 p2x0 p3x0).bind fun v2 =>
  (base_First [(alarm_flapFault p0x0), v2]).bind fun v3 =>
  if v3 ≠ (0 : Int) then
    some ([], v3)
  else
    (alarm_at p1x0 (345686400000 : Int)).bind fun v5 =>
    casesO (mget? v5.all_ (⟨p2x0, p3x0⟩ : Alarm_name)) (
      some ([], (0 : Int))) (fun n12 =>
      (idx v5.ar0 n12).bind fun v14 =>
      (alarm_flaps p0x0 v14.raises_).bind fun v15 =>
      some (v15, (0 : Int)))

noncomputable def Q_FlapFault_j1 (c2 : Bool) : Int :=
  if c2 = true then
    (1 : Int)
  else
    (0 : Int)

noncomputable def Q_FlapFault (p0x0 : Flap) : Int :=
  Q_FlapFault_j1 ((!(Q_in p0x0.Many (2 : Int) (1000 : Int))) || ((!(Q_in p0x0.Window (1 : Int) (2592000000 : Int))) || (!(Q_in p0x0.Calm (1 : Int) (2592000000 : Int)))))

noncomputable def Q_raisesOf_j2 (n16 : Int) (l21 : List Int) : Option (((List Int) × Int) ⊕ (((List Int) × Int) ⊕ (List Int))) :=
  some (.inl (l21, w64 (n16 + (1 : Int))))

noncomputable def Q_raisesOf_j1 (l15 : List Int) (n16 : Int) (v17 : Signal) (c19 : Bool) : Option (((List Int) × Int) ⊕ (((List Int) × Int) ⊕ (List Int))) :=
  if c19 = true then
    (app l15 [v17.At]).bind fun l22 =>
    Q_raisesOf_j2 n16 l22
  else
    Q_raisesOf_j2 n16 l15

noncomputable def Q_raisesOf_b2 (p1x0 : Str) (p2x0 : Str) (n8 : Int) (v10 : Fleetref1_track) (l15 : List Int) (n16 : Int) : Option (((List Int) × Int) ⊕ (((List Int) × Int) ⊕ (List Int))) :=
  if n16 < (v10.done_.length : Int) then
    (idx v10.done_ n16).bind fun v17 =>
    Q_raisesOf_j1 l15 n16 v17 ((decide (v10.device_ = p1x0)) && ((decide (v10.rule_ = p2x0)) && (decide (v17.Kind = (1 : Int)))))
  else
    Option.map .inr (some (.inl (l15, w64 (n8 + (1 : Int)))))

noncomputable def Q_raisesOf_l2 (p1x0 : Str) (p2x0 : Str) (n8 : Int) (v10 : Fleetref1_track) (l15 : List Int) (n16 : Int) : Option (((List Int) × Int) ⊕ (List Int)) :=
  iter (fun x : (List Int) × Int => Q_raisesOf_b2 p1x0 p2x0 n8 v10 x.1 x.2) (l15, n16)

noncomputable def Q_raisesOf_b1 (p1x0 : Str) (p2x0 : Str) (v1 : (List Fleetref1_track) × (List Refused)) (l7 : List Int) (n8 : Int) : Option (((List Int) × Int) ⊕ (List Int)) :=
  if n8 < (v1.1.length : Int) then
    (idx v1.1 n8).bind fun v10 =>
    Q_raisesOf_l2 p1x0 p2x0 n8 v10 l7 (0 : Int)
  else
    Option.map .inr (some l7)

noncomputable def Q_raisesOf_l1 (p1x0 : Str) (p2x0 : Str) (v1 : (List Fleetref1_track) × (List Refused)) (l7 : List Int) (n8 : Int) : Option (List Int) :=
  iter (fun x : (List Int) × Int => Q_raisesOf_b1 p1x0 p2x0 v1 x.1 x.2) (l7, n8)

noncomputable def Q_raisesOf (p0x0 : List Signal) (p1x0 : Str) (p2x0 : Str) : Option (List Int) :=
  (Q_tracksAt p0x0 (345686400000 : Int)).bind fun v1 =>
  Q_raisesOf_l1 p1x0 p2x0 v1 [] (0 : Int)

noncomputable def Q_FlapTimes_j1 (n16 : Int) (n18 : Int) : Option ((Int × Int) ⊕ (((List Window) × Int) ⊕ (List Window))) :=
  some (.inl (n18, w64 (n16 + (1 : Int))))

noncomputable def Q_FlapTimes_j3 (n9 : Int) (l22 : List Window) : Option (((List Window) × Int) ⊕ (List Window)) :=
  some (.inl (l22, w64 (n9 + (1 : Int))))

noncomputable def Q_FlapTimes_j4 (n9 : Int) (l25 : List Window) : Option (((List Window) × Int) ⊕ (List Window)) :=
  Q_FlapTimes_j3 n9 l25

noncomputable def Q_FlapTimes_j2 (p0x0 : Flap) (l8 : List Window) (n9 : Int) (v11 : Int) (n15 : Int) (c19 : Bool) : Option (((List Window) × Int) ⊕ (List Window)) :=
  if c19 = true then
    (idx l8 (w64 ((l8.length : Int) - (1 : Int)))).bind fun v23 =>
    Q_FlapTimes_j3 n9 (l8.set (w64 ((l8.length : Int) - (1 : Int))).toNat (⟨v23.From, min (w64 (v11 + p0x0.Calm)) (345686400000 : Int)⟩ : Window))
  else
    if p0x0.Many ≤ n15 then
      (app l8 [(⟨v11, min (w64 (v11 + p0x0.Calm)) (345686400000 : Int)⟩ : Window)]).bind fun l26 =>
      Q_FlapTimes_j4 n9 l26
    else
      Q_FlapTimes_j4 n9 l8

noncomputable def Q_FlapTimes_k5 (p0x0 : Flap) (l8 : List Window) (n9 : Int) (v11 : Int) (n15 : Int) : Option (((List Window) × Int) ⊕ (List Window)) :=
  if (0 : Int) < (l8.length : Int) then
    (idx l8 (w64 ((l8.length : Int) - (1 : Int)))).bind fun v20 =>
    Q_FlapTimes_j2 p0x0 l8 n9 v11 n15 (decide (v11 ≤ v20.To))
  else
    Q_FlapTimes_j2 p0x0 l8 n9 v11 n15 false

noncomputable def Q_FlapTimes_b2 (p0x0 : Flap) (v2 : (List Int)) (l8 : List Window) (n9 : Int) (v11 : Int) (l12 : List Int) (n15 : Int) (n16 : Int) : Option ((Int × Int) ⊕ (((List Window) × Int) ⊕ (List Window))) :=
  if n16 < (l12.length : Int) then
    (idxS v2 (0 : Int) l12.length n16).bind fun v17 =>
    if (w64 (v11 - p0x0.Window)) < v17 then
      Q_FlapTimes_j1 n16 (w64 (n15 + (1 : Int)))
    else
      Q_FlapTimes_j1 n16 n15
  else
    Option.map .inr (Q_FlapTimes_k5 p0x0 l8 n9 v11 n15)

noncomputable def Q_FlapTimes_l2 (p0x0 : Flap) (v2 : (List Int)) (l8 : List Window) (n9 : Int) (v11 : Int) (l12 : List Int) (n15 : Int) (n16 : Int) : Option (((List Window) × Int) ⊕ (List Window)) :=
  iter (fun x : Int × Int => Q_FlapTimes_b2 p0x0 v2 l8 n9 v11 l12 x.1 x.2) (n15, n16)

noncomputable def Q_FlapTimes_b1 (p0x0 : Flap) (v2 : (List Int)) (l8 : List Window) (n9 : Int) : Option (((List Window) × Int) ⊕ (List Window)) :=
  if n9 < (v2.length : Int) then
    (idx v2 n9).bind fun v11 =>
    (slc v2 (0 : Int) (w64 (n9 + (1 : Int)))).bind fun l12 =>
    Q_FlapTimes_l2 p0x0 v2 l8 n9 v11 l12 (0 : Int) (0 : Int)
  else
    Option.map .inr (some l8)

noncomputable def Q_FlapTimes_l1 (p0x0 : Flap) (v2 : (List Int)) (l8 : List Window) (n9 : Int) : Option (List Window) :=
  iter (fun x : (List Window) × Int => Q_FlapTimes_b1 p0x0 v2 x.1 x.2) (l8, n9)

noncomputable def Q_FlapTimes (p0x0 : Flap) (p1x0 : List Signal) (p2x0 : Str) (p3x0 : Str) : Option (List Window) :=
  (Q_raisesOf p1x0 p2x0 p3x0).bind fun v2 =>
  Q_FlapTimes_l1 p0x0 v2 [] (0 : Int)

noncomputable def alarm_AlarmOf (p0x0 : List Signal) (p1x0 : Str) (p2x0 : Str) (p3x0 : Int) : Option (Alarm × Int) :=
  (alarm_nameFault p0x0 p1x0 p2x0).bind fun v2 =>
  if v2 ≠ (0 : Int) then
    some ((⟨[], [], (0 : Int), (0 : Int), (0 : Int), (0 : Int)⟩ : Alarm), v2)
  else
    if (!(base_Moment p3x0)) = true then
      some ((⟨[], [], (0 : Int), (0 : Int), (0 : Int), (0 : Int)⟩ : Alarm), (1 : Int))
    else
      (alarm_at p0x0 p3x0).bind fun v3 =>
      casesO (mget? v3.all_ (⟨p1x0, p2x0⟩ : Alarm_name)) (
        some ((⟨p1x0, p2x0, (0 : Int), (0 : Int), (0 : Int), (0 : Int)⟩ : Alarm), (0 : Int))) (fun n10 =>
        (idx v3.ar0 n10).bind fun v11 =>
        some (((alarm_life_view v11 p3x0).1), (0 : Int)))

noncomputable def L_alarmed_j1 (c3 : Bool) : Option Bool :=
  some c3

noncomputable def L_alarmed : Option Bool :=
  (alarm_AlarmOf [(⟨(1 : Int), (1 : Int), ([100] : Str), ([114] : Str), [], (0 : Int)⟩ : Signal)] ([100] : Str) ([114] : Str) (1 : Int)).bind fun v1 =>
  L_alarmed_j1 ((decide (v1.2 = (0 : Int))) && (decide (v1.1.State = (1 : Int))))

noncomputable def L_AlarmsTimed_j4 (c30 : Bool) : Option Bool :=
  some c30

noncomputable def L_AlarmsTimed_j3 (v3 : (List Signal) × Fleetmake_Stream) (v5 : Flap × Fleetmake_Stream) (v7 : Str × Fleetmake_Stream) (v8 : Str × Fleetmake_Stream) (v10 : Int) (v13 : Int) (c26 : Bool) : Option Bool :=
  if c26 = true then
    some false
  else
    (alarm_Flapping v5.1 v3.1 v7.1 v8.1).bind fun v27 =>
    (cmp_Or_Errno [(Q_FlapFault v5.1), v10, v13]).bind fun v29 =>
    if v27.2 = v29 then
      if v29 ≠ (0 : Int) then
        (L_alarmed).bind fun v35 =>
        L_AlarmsTimed_j4 v35
      else
        (Q_FlapTimes v5.1 v3.1 v7.1 v8.1).bind fun v31 =>
        (slices_Equal_Window_Window v27.1 v31).bind fun v33 =>
        if v33 = true then
          (L_alarmed).bind fun v34 =>
          L_AlarmsTimed_j4 v34
        else
          L_AlarmsTimed_j4 false
    else
      L_AlarmsTimed_j4 false

noncomputable def L_AlarmsTimed_j2 (v3 : (List Signal) × Fleetmake_Stream) (v5 : Flap × Fleetmake_Stream) (v7 : Str × Fleetmake_Stream) (v8 : Str × Fleetmake_Stream) (v10 : Int) (v13 : Int) (v21 : Int × Bool × Int) (v22 : Int) (n23 : Int) (c24 : Bool) : Option Bool :=
  L_AlarmsTimed_j3 v3 v5 v7 v8 v10 v13 ((decide (v21.2.2 ≠ v22)) || ((decide (v21.1 ≠ n23)) || (v21.2.1 != c24)))

noncomputable def L_AlarmsTimed_j1 (v3 : (List Signal) × Fleetmake_Stream) (v5 : Flap × Fleetmake_Stream) (v6 : Int × Fleetmake_Stream) (v7 : Str × Fleetmake_Stream) (v8 : Str × Fleetmake_Stream) (v10 : Int) (v13 : Int) (c17 : Bool) : Option Bool :=
  if c17 = true then
    some false
  else
    (alarm_NextChange v3.1 v6.1).bind fun v21 =>
    (cmp_Or_Errno [v10, (Q_MomentFault v6.1)]).bind fun v22 =>
    if v22 = (0 : Int) then
      (Q_NextAlarms v3.1 v6.1).bind fun v25 =>
      L_AlarmsTimed_j2 v3 v5 v7 v8 v10 v13 v21 v22 v25.1 v25.2
    else
      L_AlarmsTimed_j2 v3 v5 v7 v8 v10 v13 v21 v22 (0 : Int) false

noncomputable def L_AlarmsTimed (p0x0 : List Int) : Option Bool :=
  (Stream_Range (⟨p0x0, (0 : Int)⟩ : Fleetmake_Stream) (0 : Int) (14 : Int)).bind fun v2 =>
  (Stream_Signals v2.2 v2.1 false).bind fun v3 =>
  (Stream_Flap v3.2).bind fun v5 =>
  (Stream_Time v5.2).bind fun v6 =>
  (Stream_Some v6.2 [([100, 97] : Str), ([100, 97] : Str), ([100, 98] : Str), ([65] : Str)]).bind fun v7 =>
  (Stream_Some v7.2 [([114, 97] : Str), ([114, 97] : Str), ([114, 98] : Str), ([] : Str)]).bind fun v8 =>
  (Q_SignalsFault v3.1).bind fun v10 =>
  (Q_KeyFault v7.1).bind fun v11 =>
  (Q_KeyFault v8.1).bind fun v12 =>
  (cmp_Or_Errno [v11, v12]).bind fun v13 =>
  (alarm_Active v3.1 v7.1 v8.1).bind fun v14 =>
  (cmp_Or_Errno [v10, v13]).bind fun v16 =>
  if v14.2 ≠ v16 then
    L_AlarmsTimed_j1 v3 v5 v6 v7 v8 v10 v13 true
  else
    if v16 = (0 : Int) then
      (Q_ActiveTimes v3.1 v7.1 v8.1).bind fun v18 =>
      (slices_Equal_Window_Window v14.1 v18).bind fun v20 =>
      L_AlarmsTimed_j1 v3 v5 v6 v7 v8 v10 v13 (!v20)
    else
      L_AlarmsTimed_j1 v3 v5 v6 v7 v8 v10 v13 false

end Go.Beacon

