/- Plain functions that the Go functions compute, written by shal.py. -/
import Derived.Test.YtblakecmhjcdmaaDoorCore
set_option linter.unusedVariables false
namespace Go.Beacon
open Go Go.Eng
structure Fleetmake_Stream where
  L : List Int
  at_ : Int
deriving DecidableEq, Inhabited
def Fleetmake_Stream.av (x : Fleetmake_Stream) : AV := .agg [.list 1 (x.L.map I), I x.at_]

structure Ping where
  Hub : Str
  Sent : Int
  Got : Int
  Back : Int
deriving DecidableEq, Inhabited
def Ping.av (x : Ping) : AV := .agg [.str x.Hub, I x.Sent, I x.Got, I x.Back]

structure Offset where
  Low : Int
  High : Int
  Many : Int
deriving DecidableEq, Inhabited
def Offset.av (x : Offset) : AV := .agg [I x.Low, I x.High, I x.Many]

structure Hub_edge where
  at_ : Int
  by_ : Int
deriving DecidableEq, Inhabited
def Hub_edge.av (x : Hub_edge) : AV := .agg [I x.at_, I x.by_]

structure Hub_clocks where
  pings_ : List Ping
  ahead_ : List (Str × Int)
deriving DecidableEq, Inhabited

noncomputable def Below_j1 (n2 : Int) : Option Int :=
  some n2

noncomputable def Below (p0x0 : Int) (p1x0 : Int) : Option Int :=
  if p1x0 < (1 : Int) then
    some (0 : Int)
  else
    (rem p0x0 p1x0).bind fun n1 =>
    if n1 < (0 : Int) then
      Below_j1 (w64 (n1 + p1x0))
    else
      Below_j1 n1

noncomputable def Stream_Next (p0x0 : Fleetmake_Stream) (p1x0 : Int) : Option (Int × Fleetmake_Stream) :=
  if (p0x0.L.length : Int) = (0 : Int) then
    (Below (w64 ((w64 (p0x0.at_ + (1 : Int))) * (7919 : Int))) p1x0).bind fun v1 =>
    some (v1, (⟨p0x0.L, w64 (p0x0.at_ + (1 : Int))⟩ : Fleetmake_Stream))
  else
    (rem (w64 ((w64 (p0x0.at_ + (1 : Int))) - (1 : Int))) (p0x0.L.length : Int)).bind fun n2 =>
    (quo (w64 ((w64 (p0x0.at_ + (1 : Int))) - (1 : Int))) (p0x0.L.length : Int)).bind fun n3 =>
    (idx p0x0.L n2).bind fun v4 =>
    (Below v4 (1073741824 : Int)).bind fun v5 =>
    (Below (w64 (v5 + (w64 (n3 * (w64 ((7919 : Int) + n2)))))) p1x0).bind fun v6 =>
    some (v6, (⟨p0x0.L, w64 (p0x0.at_ + (1 : Int))⟩ : Fleetmake_Stream))

noncomputable def Stream_Pick (p0x0 : Fleetmake_Stream) (p1x0 : List Int) : Option (Int × Fleetmake_Stream) :=
  (Stream_Next p0x0 (p1x0.length : Int)).bind fun v1 =>
  (idx p1x0 v1.1).bind fun v2 =>
  some (v2, v1.2)

noncomputable def Stream_Flip (p0x0 : Fleetmake_Stream) (p1x0 : Int) : Option (Bool × Fleetmake_Stream) :=
  (Stream_Next p0x0 p1x0).bind fun v1 =>
  some (decide (v1.1 = (0 : Int)), v1.2)

noncomputable def Stream_Some (p0x0 : Fleetmake_Stream) (p1x0 : List Str) : Option (Str × Fleetmake_Stream) :=
  (Stream_Next p0x0 (p1x0.length : Int)).bind fun v1 =>
  (idx p1x0 v1.1).bind fun v2 =>
  some (v2, v1.2)

noncomputable def Stream_Pings_b2 (n10 : Int) (v12 : Str) (v14 : Int × Fleetmake_Stream) (l21 : List Int) (n22 : Int) (l24 : List Ping) (n25 : Int) (n26 : Int) : Option (((List Int) × Int × (List Ping) × Int × Int) ⊕ (((List Int) × Int × (List Ping) × Int) ⊕ ((List Ping) × Fleetmake_Stream))) :=
  if n26 < v14.1 then
    (Stream_Pick (⟨l21, n22⟩ : Fleetmake_Stream) [(0 : Int), (5 : Int), (10 : Int), (30 : Int)]).bind fun v27 =>
    (Stream_Pick v27.2 [(0 : Int), (3 : Int), (5 : Int), (20 : Int), (-10 : Int), (40 : Int)]).bind fun v28 =>
    (app l24 [(⟨v12, n25, max (0 : Int) (w64 (n25 + v28.1)), w64 (n25 + v27.1)⟩ : Ping)]).bind fun l29 =>
    (Stream_Pick v28.2 [(1 : Int), (10 : Int)]).bind fun v31 =>
    some (.inl (v31.2.L, v31.2.at_, l29, w64 ((w64 (n25 + v27.1)) + v31.1), w64 (n26 + (1 : Int))))
  else
    Option.map .inr (some (.inl (l21, n22, l24, w64 (n10 + (1 : Int)))))

noncomputable def Stream_Pings_l2 (n10 : Int) (v12 : Str) (v14 : Int × Fleetmake_Stream) (l21 : List Int) (n22 : Int) (l24 : List Ping) (n25 : Int) (n26 : Int) : Option (((List Int) × Int × (List Ping) × Int) ⊕ ((List Ping) × Fleetmake_Stream)) :=
  iter (fun x : (List Int) × Int × (List Ping) × Int × Int => Stream_Pings_b2 n10 v12 v14 x.1 x.2.1 x.2.2.1 x.2.2.2.1 x.2.2.2.2) (l21, n22, l24, n25, n26)

noncomputable def Stream_Pings_j2 (l36 : List Int) (n37 : Int) (l38 : List Ping) : Option ((List Ping) × Fleetmake_Stream) :=
  some (l38, (⟨l36, n37⟩ : Fleetmake_Stream))

noncomputable def Stream_Pings_j1 (l9 : List Ping) (l32 : List Int) (n33 : Int) (c34 : Bool) : Option ((List Ping) × Fleetmake_Stream) :=
  if c34 = true then
    (Stream_Next (⟨l32, n33⟩ : Fleetmake_Stream) (l9.length : Int)).bind fun v39 =>
    (idx l9 v39.1).bind fun v40 =>
    (Stream_Some v39.2 [v40.Hub, ([] : Str), ([65] : Str)]).bind fun v41 =>
    (Stream_Pick v41.2 [v40.Got, (-1 : Int), (345686400000 : Int)]).bind fun v42 =>
    (Stream_Pick v42.2 [v40.Back, w64 (v40.Sent - (1 : Int))]).bind fun v43 =>
    Stream_Pings_j2 v43.2.L v43.2.at_ (((l9.set v39.1.toNat (⟨v41.1, v40.Sent, v40.Got, v40.Back⟩ : Ping)).set v39.1.toNat (⟨v41.1, v40.Sent, v42.1, v40.Back⟩ : Ping)).set v39.1.toNat (⟨v41.1, v40.Sent, v42.1, v43.1⟩ : Ping))
  else
    Stream_Pings_j2 l32 n33 l9

noncomputable def Stream_Pings_k3 (l6 : List Int) (n7 : Int) (l9 : List Ping) : Option ((List Ping) × Fleetmake_Stream) :=
  if (0 : Int) < (l9.length : Int) then
    (Stream_Flip (⟨l6, n7⟩ : Fleetmake_Stream) (15 : Int)).bind fun v35 =>
    Stream_Pings_j1 l9 v35.2.L v35.2.at_ v35.1
  else
    Stream_Pings_j1 l9 l6 n7 false

noncomputable def Stream_Pings_b1 (l6 : List Int) (n7 : Int) (l9 : List Ping) (n10 : Int) : Option (((List Int) × Int × (List Ping) × Int) ⊕ ((List Ping) × Fleetmake_Stream)) :=
  if n10 < ([([104, 97] : Str), ([104, 98] : Str)].length : Int) then
    (idx [([104, 97] : Str), ([104, 98] : Str)] n10).bind fun v12 =>
    (Stream_Next (⟨l6, n7⟩ : Fleetmake_Stream) (20 : Int)).bind fun v13 =>
    (Stream_Next v13.2 (5 : Int)).bind fun v14 =>
    Stream_Pings_l2 n10 v12 v14 v14.2.L v14.2.at_ l9 v13.1 (0 : Int)
  else
    Option.map .inr (Stream_Pings_k3 l6 n7 l9)

noncomputable def Stream_Pings_l1 (l6 : List Int) (n7 : Int) (l9 : List Ping) (n10 : Int) : Option ((List Ping) × Fleetmake_Stream) :=
  iter (fun x : (List Int) × Int × (List Ping) × Int => Stream_Pings_b1 x.1 x.2.1 x.2.2.1 x.2.2.2) (l6, n7, l9, n10)

noncomputable def Stream_Pings (p0x0 : Fleetmake_Stream) : Option ((List Ping) × Fleetmake_Stream) :=
  Stream_Pings_l1 p0x0.L p0x0.at_ [] (0 : Int)

noncomputable def Stream_Time (p0x0 : Fleetmake_Stream) : Option (Int × Fleetmake_Stream) :=
  (Stream_Next p0x0 (300 : Int)).bind fun v1 =>
  (Stream_Next v1.2 (300 : Int)).bind fun v2 =>
  (Stream_Pick v2.2 [(345686399999 : Int), (-1 : Int), (345686400000 : Int)]).bind fun v3 =>
  (Stream_Pick v3.2 [(0 : Int), (5 : Int), (20 : Int), (40 : Int), (60 : Int), (80 : Int), (120 : Int), v1.1, v2.1, v3.1]).bind fun v4 =>
  some (v4.1, v4.2)

noncomputable def base_Key_j2 (n5 : Int) (c7 : Bool) : Option (Int ⊕ Bool) :=
  if c7 = true then
    Option.map .inr (some false)
  else
    some (.inl (w64 (n5 + (1 : Int))))

noncomputable def base_Key_b1 (p0x0 : Str) (n5 : Int) : Option (Int ⊕ Bool) :=
  if n5 < (p0x0.length : Int) then
    (idx p0x0 n5).bind fun c6 =>
    base_Key_j2 n5 (if (97 : Int) ≤ (c6.toNat : Int) then if (c6.toNat : Int) ≤ (122 : Int) then !true else if (48 : Int) ≤ (c6.toNat : Int) then if (c6.toNat : Int) ≤ (57 : Int) then !true else if (c6.toNat : Int) = (45 : Int) then !true else decide (¬ ((c6.toNat : Int) = (95 : Int))) else if (c6.toNat : Int) = (45 : Int) then !true else decide (¬ ((c6.toNat : Int) = (95 : Int))) else if (48 : Int) ≤ (c6.toNat : Int) then if (c6.toNat : Int) ≤ (57 : Int) then !true else if (c6.toNat : Int) = (45 : Int) then !true else decide (¬ ((c6.toNat : Int) = (95 : Int))) else if (c6.toNat : Int) = (45 : Int) then !true else decide (¬ ((c6.toNat : Int) = (95 : Int))))
  else
    Option.map .inr (some true)

noncomputable def base_Key_l1 (p0x0 : Str) (n5 : Int) : Option Bool :=
  iter (fun x : Int => base_Key_b1 p0x0 x) n5

noncomputable def base_Key_j1 (p0x0 : Str) (c1 : Bool) : Option Bool :=
  if c1 = true then
    some false
  else
    base_Key_l1 p0x0 (0 : Int)

noncomputable def base_Key (p0x0 : Str) : Option Bool :=
  if p0x0 = ([] : Str) then
    base_Key_j1 p0x0 true
  else
    if (40 : Int) < (p0x0.length : Int) then
      base_Key_j1 p0x0 true
    else
      (idx p0x0 (0 : Int)).bind fun c2 =>
      if (c2.toNat : Int) < (97 : Int) then
        base_Key_j1 p0x0 true
      else
        (idx p0x0 (0 : Int)).bind fun c3 =>
        base_Key_j1 p0x0 (decide ((122 : Int) < (c3.toNat : Int)))

noncomputable def base_Out_j1 (c1 : Bool) : Bool :=
  c1

noncomputable def base_Out (p0x0 : Int) (p1x0 : Int) (p2x0 : Int) : Bool :=
  base_Out_j1 ((decide (p0x0 < p1x0)) || (decide (p2x0 < p0x0)))

noncomputable def base_Moment (p0x0 : Int) : Bool :=
  !(base_Out p0x0 (0 : Int) (345686399999 : Int))

noncomputable def cmp_isNaN_int (p0x0 : Int) : Bool :=
  decide (p0x0 ≠ p0x0)

noncomputable def cmp_Compare_int (p0x0 : Int) (p1x0 : Int) : Int :=
  if (cmp_isNaN_int p0x0) = true then
    if (cmp_isNaN_int p1x0) = true then
      (0 : Int)
    else
      (-1 : Int)
  else
    if (cmp_isNaN_int p1x0) = true then
      (1 : Int)
    else
      if p0x0 < p1x0 then
        (-1 : Int)
      else
        if p1x0 < p0x0 then
          (1 : Int)
        else
          (0 : Int)

noncomputable def cmp_Or_int_b1 (p0x0 : List Int) (n2 : Int) : Option (Int ⊕ Int) :=
  if n2 < (p0x0.length : Int) then
    (idx p0x0 n2).bind fun v3 =>
    if v3 ≠ (0 : Int) then
      Option.map .inr (some v3)
    else
      some (.inl (w64 (n2 + (1 : Int))))
  else
    Option.map .inr (some (0 : Int))

noncomputable def cmp_Or_int_l1 (p0x0 : List Int) (n2 : Int) : Option Int :=
  iter (fun x : Int => cmp_Or_int_b1 p0x0 x) n2

noncomputable def cmp_Or_int (p0x0 : List Int) : Option Int :=
  cmp_Or_int_l1 p0x0 (0 : Int)

noncomputable def hub_byPing (p0x0 : Ping) (p1x0 : Ping) : Option Int :=
  (cmp_Or_int [(Lib.compareBytes p0x0.Hub p1x0.Hub), (cmp_Compare_int p0x0.Sent p1x0.Sent), (cmp_Compare_int p0x0.Got p1x0.Got), (cmp_Compare_int p0x0.Back p1x0.Back)]).bind fun v3 =>
  some v3

noncomputable def hub_CheckPings_j2 (n2 : Int) (c7 : Bool) : Option (Int ⊕ Int) :=
  if c7 = true then
    Option.map .inr (some (7 : Int))
  else
    some (.inl (w64 (n2 + (1 : Int))))

noncomputable def hub_CheckPings_j1 (p0x0 : List Ping) (n2 : Int) (v3 : Ping) (c6 : Bool) : Option (Int ⊕ Int) :=
  if c6 = true then
    Option.map .inr (some (1 : Int))
  else
    if (0 : Int) < n2 then
      (idx p0x0 (w64 (n2 - (1 : Int)))).bind fun v8 =>
      (hub_byPing v3 v8).bind fun v9 =>
      hub_CheckPings_j2 n2 (decide (v9 ≤ (0 : Int)))
    else
      hub_CheckPings_j2 n2 false

noncomputable def hub_CheckPings_b1 (p0x0 : List Ping) (n2 : Int) : Option (Int ⊕ Int) :=
  if n2 < (p0x0.length : Int) then
    (idx p0x0 n2).bind fun v3 =>
    (base_Key v3.Hub).bind fun v5 =>
    if (!v5) = true then
      Option.map .inr (some (5 : Int))
    else
      hub_CheckPings_j1 p0x0 n2 v3 ((!(base_Moment v3.Sent)) || ((!(base_Moment v3.Got)) || ((!(base_Moment v3.Back)) || (decide (v3.Back < v3.Sent)))))
  else
    Option.map .inr (some (0 : Int))

noncomputable def hub_CheckPings_l1 (p0x0 : List Ping) (n2 : Int) : Option Int :=
  iter (fun x : Int => hub_CheckPings_b1 p0x0 x) n2

noncomputable def hub_CheckPings (p0x0 : List Ping) : Option Int :=
  if (1000 : Int) < (p0x0.length : Int) then
    some (2 : Int)
  else
    hub_CheckPings_l1 p0x0 (0 : Int)

noncomputable def hub_hubFault (p0x0 : List Ping) (p1x0 : Str) : Option Int :=
  (hub_CheckPings p0x0).bind fun v1 =>
  if v1 ≠ (0 : Int) then
    some v1
  else
    (base_Key p1x0).bind fun v2 =>
    if (!v2) = true then
      some (5 : Int)
    else
      some (0 : Int)

noncomputable def hub_offset_1x (p0x0 : Hub_edge) (p1x0 : Hub_edge) : Int :=
  (cmp_Compare_int p0x0.at_ p1x0.at_)

/-- Sorted by Go. -/
noncomputable def slices_SortFunc_hub_edge_hub_edge (p0x0 : List Hub_edge) (fnb : Hub_edge → Hub_edge → Option Int) : Option (List Hub_edge) :=
  sortO fnb p0x0

noncomputable def hub_offset_j1 (n7 : Int) (l12 : List Hub_edge) : Option (((List Hub_edge) × Int) ⊕ (Offset × Bool)) :=
  some (.inl (l12, w64 (n7 + (1 : Int))))

noncomputable def hub_offset_j2 (n17 : Int) (n18 : Int) (n19 : Int) : Option (Offset × Bool) :=
  some ((⟨n17, n18, n19⟩ : Offset), decide ((0 : Int) < n19))

noncomputable def hub_offset_j4 (n33 : Int) (n34 : Int) (n39 : Int) (n40 : Int) (n41 : Int) : Option ((Int × Int × Int × Int × Int) ⊕ (Offset × Bool)) :=
  some (.inl (n39, n40, n41, n33, n34))

noncomputable def hub_offset_j6 (n25 : Int) (n27 : Int) (n33 : Int) (n34 : Int) (n43 : Int) : Option ((Int × Int × Int × Int × Int) ⊕ (Offset × Bool)) :=
  hub_offset_j4 n33 n34 n25 n43 n27

noncomputable def hub_offset_j5 (n25 : Int) (n26 : Int) (n27 : Int) (n33 : Int) (n34 : Int) (v38 : Hub_edge) (c42 : Bool) : Option ((Int × Int × Int × Int × Int) ⊕ (Offset × Bool)) :=
  if c42 = true then
    hub_offset_j6 n25 n27 n33 n34 (w64 (v38.at_ - (1 : Int)))
  else
    hub_offset_j6 n25 n27 n33 n34 n26

noncomputable def hub_offset_k7 (v15 : (List Hub_edge)) (n25 : Int) (n26 : Int) (n27 : Int) (v30 : Hub_edge) (n33 : Int) (n34 : Int) : Option ((Int × Int × Int × Int × Int) ⊕ (Offset × Bool)) :=
  if n34 = (v15.length : Int) then
    Option.map .inr (hub_offset_j2 n25 n26 n27)
  else
    (idx v15 n34).bind fun v38 =>
    if n27 < n33 then
      hub_offset_j4 n33 n34 v30.at_ (w64 (v38.at_ - (1 : Int))) n33
    else
      hub_offset_j5 n25 n26 n27 n33 n34 v38 ((decide (n33 = n27)) && (decide (n26 = (w64 (v30.at_ - (1 : Int))))))

noncomputable def hub_offset_j3 (v15 : (List Hub_edge)) (n25 : Int) (n26 : Int) (n27 : Int) (v30 : Hub_edge) (n33 : Int) (n34 : Int) (c35 : Bool) : Option ((Int × Int) ⊕ ((Int × Int × Int × Int × Int) ⊕ (Offset × Bool))) :=
  if c35 = true then
    (idx v15 n34).bind fun v37 =>
    some (.inl (w64 (n33 + v37.by_), w64 (n34 + (1 : Int))))
  else
    Option.map .inr (hub_offset_k7 v15 n25 n26 n27 v30 n33 n34)

noncomputable def hub_offset_b3 (v15 : (List Hub_edge)) (n25 : Int) (n26 : Int) (n27 : Int) (v30 : Hub_edge) (n33 : Int) (n34 : Int) : Option ((Int × Int) ⊕ ((Int × Int × Int × Int × Int) ⊕ (Offset × Bool))) :=
  if n34 < (v15.length : Int) then
    (idx v15 n34).bind fun v36 =>
    hub_offset_j3 v15 n25 n26 n27 v30 n33 n34 (decide (v36.at_ = v30.at_))
  else
    hub_offset_j3 v15 n25 n26 n27 v30 n33 n34 false

noncomputable def hub_offset_l3 (v15 : (List Hub_edge)) (n25 : Int) (n26 : Int) (n27 : Int) (v30 : Hub_edge) (n33 : Int) (n34 : Int) : Option ((Int × Int × Int × Int × Int) ⊕ (Offset × Bool)) :=
  iter (fun x : Int × Int => hub_offset_b3 v15 n25 n26 n27 v30 x.1 x.2) (n33, n34)

noncomputable def hub_offset_b2 (v15 : (List Hub_edge)) (n25 : Int) (n26 : Int) (n27 : Int) (n28 : Int) (n29 : Int) : Option ((Int × Int × Int × Int × Int) ⊕ (Offset × Bool)) :=
  if n29 < (v15.length : Int) then
    (idx v15 n29).bind fun v30 =>
    hub_offset_l3 v15 n25 n26 n27 v30 n28 n29
  else
    Option.map .inr (hub_offset_j2 n25 n26 n27)

noncomputable def hub_offset_l2 (v15 : (List Hub_edge)) (n25 : Int) (n26 : Int) (n27 : Int) (n28 : Int) (n29 : Int) : Option (Offset × Bool) :=
  iter (fun x : Int × Int × Int × Int × Int => hub_offset_b2 v15 x.1 x.2.1 x.2.2.1 x.2.2.2.1 x.2.2.2.2) (n25, n26, n27, n28, n29)

noncomputable def hub_offset_k8 (l6 : List Hub_edge) : Option (Offset × Bool) :=
  (lenOk l6.length (fun r : (List Hub_edge) => r.length) (slices_SortFunc_hub_edge_hub_edge l6 (fun y0 y1 => some (hub_offset_1x y0 y1)))).bind fun v15 =>
  hub_offset_l2 v15 (0 : Int) (0 : Int) (0 : Int) (0 : Int) (0 : Int)

noncomputable def hub_offset_b1 (p0x0 : List Ping) (p1x0 : Str) (l6 : List Hub_edge) (n7 : Int) : Option (((List Hub_edge) × Int) ⊕ (Offset × Bool)) :=
  if n7 < (p0x0.length : Int) then
    (idx p0x0 n7).bind fun v9 =>
    if v9.Hub = p1x0 then
      (app l6 [(⟨w64 (v9.Got - v9.Back), (1 : Int)⟩ : Hub_edge), (⟨w64 ((w64 (v9.Got - v9.Sent)) + (1 : Int)), (-1 : Int)⟩ : Hub_edge)]).bind fun l13 =>
      hub_offset_j1 n7 l13
    else
      hub_offset_j1 n7 l6
  else
    Option.map .inr (hub_offset_k8 l6)

noncomputable def hub_offset_l1 (p0x0 : List Ping) (p1x0 : Str) (l6 : List Hub_edge) (n7 : Int) : Option (Offset × Bool) :=
  iter (fun x : (List Hub_edge) × Int => hub_offset_b1 p0x0 p1x0 x.1 x.2) (l6, n7)

noncomputable def hub_offset (p0x0 : List Ping) (p1x0 : Str) : Option (Offset × Bool) :=
  hub_offset_l1 p0x0 p1x0 [] (0 : Int)

noncomputable def hub_Offset (p0x0 : List Ping) (p1x0 : Str) : Option (Offset × Bool × Int) :=
  (hub_hubFault p0x0 p1x0).bind fun v2 =>
  if v2 ≠ (0 : Int) then
    some ((⟨(0 : Int), (0 : Int), (0 : Int)⟩ : Offset), false, v2)
  else
    (hub_offset p0x0 p1x0).bind fun v3 =>
    some (v3.1, v3.2, (0 : Int))

noncomputable def hub_newClocks (p0x0 : List Ping) : Hub_clocks :=
  (⟨p0x0, []⟩ : Hub_clocks)

noncomputable def base_Down_j1 (n3 : Int) : Option Int :=
  some n3

noncomputable def base_Down (p0x0 : Int) (p1x0 : Int) : Option Int :=
  (quo p0x0 p1x0).bind fun n1 =>
  (rem p0x0 p1x0).bind fun n2 =>
  if n2 < (0 : Int) then
    base_Down_j1 (w64 (n1 - (1 : Int)))
  else
    base_Down_j1 n1

noncomputable def hub_clocks_repair_j1 (p0x0 : Hub_clocks) (p2x0 : Int) (l2 : List (Str × Int)) (n3 : Int) : Option (Int × Hub_clocks) :=
  some (min (max (w64 (p2x0 - n3)) (0 : Int)) (345686399999 : Int), (⟨p0x0.pings_, l2⟩ : Hub_clocks))

noncomputable def hub_clocks_repair (p0x0 : Hub_clocks) (p1x0 : Str) (p2x0 : Int) : Option (Int × Hub_clocks) :=
  (mget2 p0x0.ahead_ p1x0 (0 : Int)).bind fun v1 =>
  if (!v1.2) = true then
    (hub_offset p0x0.pings_ p1x0).bind fun v4 =>
    (base_Down (w64 (v4.1.Low + v4.1.High)) (2 : Int)).bind fun v6 =>
    hub_clocks_repair_j1 p0x0 p2x0 (mset p0x0.ahead_ p1x0 v6) v6
  else
    hub_clocks_repair_j1 p0x0 p2x0 p0x0.ahead_ v1.1

noncomputable def hub_Repair (p0x0 : List Ping) (p1x0 : Str) (p2x0 : Int) : Option (Int × Int) :=
  (hub_hubFault p0x0 p1x0).bind fun v1 =>
  if v1 ≠ (0 : Int) then
    some ((0 : Int), v1)
  else
    if (!(base_Moment p2x0)) = true then
      some ((0 : Int), (1 : Int))
    else
      (hub_clocks_repair (hub_newClocks p0x0) p1x0 p2x0).bind fun v4 =>
      some (v4.1, (0 : Int))

noncomputable def Q_in_j1 (c1 : Bool) : Bool :=
  c1

noncomputable def Q_in (p0x0 : Int) (p1x0 : Int) (p2x0 : Int) : Bool :=
  Q_in_j1 ((decide (p1x0 ≤ p0x0)) && (decide (p0x0 ≤ p2x0)))

noncomputable def Q_Key_j1 (c1 : Bool) : Option Bool :=
  some c1

noncomputable def Q_Key (p0x0 : Str) : Option Bool :=
  if (Q_in (p0x0.length : Int) (1 : Int) (40 : Int)) = true then
    (trimO p0x0 ([97, 98, 99, 100, 101, 102, 103, 104, 105, 106, 107, 108, 109, 110, 111, 112, 113, 114, 115, 116, 117, 118, 119, 120, 121, 122, 48, 49, 50, 51, 52, 53, 54, 55, 56, 57, 45, 95] : Str)).bind fun v2 =>
    if v2 = ([] : Str) then
      (idx p0x0 (0 : Int)).bind fun c3 =>
      Q_Key_j1 (decide ((0 : Int) ≤ (indexByteI ([97, 98, 99, 100, 101, 102, 103, 104, 105, 106, 107, 108, 109, 110, 111, 112, 113, 114, 115, 116, 117, 118, 119, 120, 121, 122] : Str) (c3.toNat : Int))))
    else
      Q_Key_j1 false
  else
    Q_Key_j1 false

noncomputable def Q_MomentFault (p0x0 : Int) : Int :=
  if (!(Q_in p0x0 (0 : Int) (345686399999 : Int))) = true then
    (1 : Int)
  else
    (0 : Int)

noncomputable def Q_pingOrder (p0x0 : Ping) (p1x0 : Ping) : Option Int :=
  (cmp_Or_int [(Lib.compareBytes p0x0.Hub p1x0.Hub), (cmp_Compare_int p0x0.Sent p1x0.Sent), (cmp_Compare_int p0x0.Got p1x0.Got), (cmp_Compare_int p0x0.Back p1x0.Back)]).bind fun v3 =>
  some v3

noncomputable def Q_PingsFault_j2 (n2 : Int) (c7 : Bool) : Option (Int ⊕ Int) :=
  if c7 = true then
    Option.map .inr (some (7 : Int))
  else
    some (.inl (w64 (n2 + (1 : Int))))

noncomputable def Q_PingsFault_j1 (p0x0 : List Ping) (n2 : Int) (v3 : Ping) (c6 : Bool) : Option (Int ⊕ Int) :=
  if c6 = true then
    Option.map .inr (some (1 : Int))
  else
    if (0 : Int) < n2 then
      (idx p0x0 (w64 (n2 - (1 : Int)))).bind fun v8 =>
      (Q_pingOrder v8 v3).bind fun v9 =>
      Q_PingsFault_j2 n2 (decide ((0 : Int) ≤ v9))
    else
      Q_PingsFault_j2 n2 false

noncomputable def Q_PingsFault_b1 (p0x0 : List Ping) (n2 : Int) : Option (Int ⊕ Int) :=
  if n2 < (p0x0.length : Int) then
    (idx p0x0 n2).bind fun v3 =>
    (Q_Key v3.Hub).bind fun v5 =>
    if (!v5) = true then
      Option.map .inr (some (5 : Int))
    else
      Q_PingsFault_j1 p0x0 n2 v3 ((decide ((Q_MomentFault v3.Sent) ≠ (0 : Int))) || ((decide ((Q_MomentFault v3.Got) ≠ (0 : Int))) || ((decide ((Q_MomentFault v3.Back) ≠ (0 : Int))) || (decide (v3.Back < v3.Sent)))))
  else
    Option.map .inr (some (0 : Int))

noncomputable def Q_PingsFault_l1 (p0x0 : List Ping) (n2 : Int) : Option Int :=
  iter (fun x : Int => Q_PingsFault_b1 p0x0 x) n2

noncomputable def Q_PingsFault (p0x0 : List Ping) : Option Int :=
  if (1000 : Int) < (p0x0.length : Int) then
    some (2 : Int)
  else
    Q_PingsFault_l1 p0x0 (0 : Int)

noncomputable def Q_KeyFault (p0x0 : Str) : Option Int :=
  (Q_Key p0x0).bind fun v1 =>
  if (!v1) = true then
    some (5 : Int)
  else
    some (0 : Int)

noncomputable def cmp_Or_Errno_b1 (p0x0 : List Int) (n2 : Int) : Option (Int ⊕ Int) :=
  if n2 < (p0x0.length : Int) then
    (idx p0x0 n2).bind fun v3 =>
    if v3 ≠ (0 : Int) then
      Option.map .inr (some v3)
    else
      some (.inl (w64 (n2 + (1 : Int))))
  else
    Option.map .inr (some (0 : Int))

noncomputable def cmp_Or_Errno_l1 (p0x0 : List Int) (n2 : Int) : Option Int :=
  iter (fun x : Int => cmp_Or_Errno_b1 p0x0 x) n2

noncomputable def cmp_Or_Errno (p0x0 : List Int) : Option Int :=
  cmp_Or_Errno_l1 p0x0 (0 : Int)

/-- A copy of a list. -/
noncomputable def slices_Clone_Ping_Ping (p0x0 : List Ping) : Option (List Ping) :=
  app [] p0x0

noncomputable def Q_OffsetOf_1x (p0x0 : Ping) (p1x0 : Str) : Bool :=
  decide (p0x0.Hub ≠ p1x0)

noncomputable def slices_IndexFunc_Ping_Ping_b1 (p0x0 : List Ping) (fnb : Ping → Option Bool) (n2 : Int) : Option (Int ⊕ Int) :=
  if n2 < (p0x0.length : Int) then
    (idx p0x0 n2).bind fun v3 =>
    (fnb v3).bind fun v4 =>
    if v4 = true then
      Option.map .inr (some n2)
    else
      some (.inl (w64 (n2 + (1 : Int))))
  else
    Option.map .inr (some (-1 : Int))

noncomputable def slices_IndexFunc_Ping_Ping_l1 (p0x0 : List Ping) (fnb : Ping → Option Bool) (n2 : Int) : Option Int :=
  iter (fun x : Int => slices_IndexFunc_Ping_Ping_b1 p0x0 fnb x) n2

noncomputable def slices_IndexFunc_Ping_Ping (p0x0 : List Ping) (fnb : Ping → Option Bool) : Option Int :=
  slices_IndexFunc_Ping_Ping_l1 p0x0 fnb (0 : Int)

noncomputable def slices_DeleteFunc_Ping_Ping_j1 (n7 : Int) (l11 : List Ping) (n12 : Int) : Option (((List Ping) × Int × Int) ⊕ (List Ping)) :=
  some (.inl (l11, n12, w64 (n7 + (1 : Int))))

noncomputable def slices_DeleteFunc_Ping_Ping_k2 (l5 : List Ping) (n6 : Int) : Option (List Ping) :=
  (slc l5 n6 (l5.length : Int)).bind fun l14 =>
  (slc (clr l5 n6 l14.length (⟨[], (0 : Int), (0 : Int), (0 : Int)⟩ : Ping)) (0 : Int) n6).bind fun l15 =>
  some l15

noncomputable def slices_DeleteFunc_Ping_Ping_b1 (fnb : Ping → Option Bool) (l5 : List Ping) (n6 : Int) (n7 : Int) : Option (((List Ping) × Int × Int) ⊕ (List Ping)) :=
  if n7 < (l5.length : Int) then
    (idx l5 n7).bind fun v8 =>
    (fnb v8).bind fun v10 =>
    if (!v10) = true then
      (idx l5 n6).bind fun v13 =>
      slices_DeleteFunc_Ping_Ping_j1 n7 (l5.set n6.toNat v8) (w64 (n6 + (1 : Int)))
    else
      slices_DeleteFunc_Ping_Ping_j1 n7 l5 n6
  else
    Option.map .inr (slices_DeleteFunc_Ping_Ping_k2 l5 n6)

noncomputable def slices_DeleteFunc_Ping_Ping_l1 (fnb : Ping → Option Bool) (l5 : List Ping) (n6 : Int) (n7 : Int) : Option (List Ping) :=
  iter (fun x : (List Ping) × Int × Int => slices_DeleteFunc_Ping_Ping_b1 fnb x.1 x.2.1 x.2.2) (l5, n6, n7)

noncomputable def slices_DeleteFunc_Ping_Ping (p0x0 : List Ping) (fnb : Ping → Option Bool) : Option (List Ping) :=
  (slices_IndexFunc_Ping_Ping p0x0 fnb).bind fun v1 =>
  if v1 = (-1 : Int) then
    some p0x0
  else
    slices_DeleteFunc_Ping_Ping_l1 fnb p0x0 v1 (w64 (v1 + (1 : Int)))

/-- Sorted by Go. -/
noncomputable def slices_Sort_int_int (p0x0 : List Int) : Option (List Int) :=
  sort1 srtI p0x0

noncomputable def Q_OffsetOf_2x_j1 (n4 : Int) (n7 : Int) : Option ((Int × Int) ⊕ Int) :=
  some (.inl (n7, w64 (n4 + (1 : Int))))

noncomputable def Q_OffsetOf_2x_b1 (p0x0 : Int) (p1x0 : List Ping) (n3 : Int) (n4 : Int) : Option ((Int × Int) ⊕ Int) :=
  if n4 < (p1x0.length : Int) then
    (idx p1x0 n4).bind fun v5 =>
    if (Q_in p0x0 (w64 (v5.Got - v5.Back)) (w64 (v5.Got - v5.Sent))) = true then
      Q_OffsetOf_2x_j1 n4 (w64 (n3 + (1 : Int)))
    else
      Q_OffsetOf_2x_j1 n4 n3
  else
    Option.map .inr (some n3)

noncomputable def Q_OffsetOf_2x_l1 (p0x0 : Int) (p1x0 : List Ping) (n3 : Int) (n4 : Int) : Option Int :=
  iter (fun x : Int × Int => Q_OffsetOf_2x_b1 p0x0 p1x0 x.1 x.2) (n3, n4)

noncomputable def Q_OffsetOf_2x (p0x0 : Int) (p1x0 : List Ping) : Option Int :=
  Q_OffsetOf_2x_l1 p0x0 p1x0 (0 : Int) (0 : Int)

noncomputable def Q_OffsetOf_j1 (n28 : Int) (n29 : Int) (n30 : Int) (n31 : Int) : Option ((Int × Int × Int × Int) ⊕ (Offset × Bool)) :=
  some (.inl (n29, n30, n31, w64 (n28 + (1 : Int))))

noncomputable def Q_OffsetOf_j2 (n28 : Int) (v32 : Int) (v33 : Int) (n35 : Int) : Option ((Int × Int × Int × Int) ⊕ (Offset × Bool)) :=
  Q_OffsetOf_j1 n28 v32 n35 v33

noncomputable def Q_OffsetOf_b3 (v6 : (List Ping)) (v19 : (List Int)) (n28 : Int) (v32 : Int) (v33 : Int) (l34 : List Int) (n38 : Int) (n39 : Int) : Option ((Int × Int) ⊕ ((Int × Int × Int × Int) ⊕ (Offset × Bool))) :=
  if n39 < (l34.length : Int) then
    (idxS v19 n28 l34.length n39).bind fun v40 =>
    (Q_OffsetOf_2x v40 v6).bind fun v41 =>
    if v41 ≠ v33 then
      Option.map .inr (Q_OffsetOf_j2 n28 v32 v33 (max n38 (w64 (v40 - (1 : Int)))))
    else
      some (.inl (max n38 (w64 (v40 - (1 : Int))), w64 (n39 + (1 : Int))))
  else
    Option.map .inr (Q_OffsetOf_j2 n28 v32 v33 n38)

noncomputable def Q_OffsetOf_l3 (v6 : (List Ping)) (v19 : (List Int)) (n28 : Int) (v32 : Int) (v33 : Int) (l34 : List Int) (n38 : Int) (n39 : Int) : Option ((Int × Int × Int × Int) ⊕ (Offset × Bool)) :=
  iter (fun x : Int × Int => Q_OffsetOf_b3 v6 v19 n28 v32 v33 l34 x.1 x.2) (n38, n39)

noncomputable def Q_OffsetOf_b2 (v6 : (List Ping)) (v19 : (List Int)) (n25 : Int) (n26 : Int) (n27 : Int) (n28 : Int) : Option ((Int × Int × Int × Int) ⊕ (Offset × Bool)) :=
  if n28 < (v19.length : Int) then
    (idx v19 n28).bind fun v32 =>
    (Q_OffsetOf_2x v32 v6).bind fun v33 =>
    if v33 ≤ n27 then
      Q_OffsetOf_j1 n28 n25 n26 n27
    else
      (slc v19 n28 (v19.length : Int)).bind fun l34 =>
      Q_OffsetOf_l3 v6 v19 n28 v32 v33 l34 v32 (0 : Int)
  else
    Option.map .inr (some ((⟨n25, n26, n27⟩ : Offset), true))

noncomputable def Q_OffsetOf_l2 (v6 : (List Ping)) (v19 : (List Int)) (n25 : Int) (n26 : Int) (n27 : Int) (n28 : Int) : Option (Offset × Bool) :=
  iter (fun x : Int × Int × Int × Int => Q_OffsetOf_b2 v6 v19 x.1 x.2.1 x.2.2.1 x.2.2.2) (n25, n26, n27, n28)

noncomputable def Q_OffsetOf_k3 (v6 : (List Ping)) (l12 : List Int) : Option (Offset × Bool) :=
  (lenOk l12.length (fun r : (List Int) => r.length) (slices_Sort_int_int l12)).bind fun v19 =>
  Q_OffsetOf_l2 v6 v19 (0 : Int) (0 : Int) (0 : Int) (0 : Int)

noncomputable def Q_OffsetOf_b1 (v6 : (List Ping)) (l12 : List Int) (n13 : Int) : Option (((List Int) × Int) ⊕ (Offset × Bool)) :=
  if n13 < (v6.length : Int) then
    (idx v6 n13).bind fun v15 =>
    (app l12 [w64 (v15.Got - v15.Back), w64 ((w64 (v15.Got - v15.Sent)) + (1 : Int))]).bind fun l17 =>
    some (.inl (l17, w64 (n13 + (1 : Int))))
  else
    Option.map .inr (Q_OffsetOf_k3 v6 l12)

noncomputable def Q_OffsetOf_l1 (v6 : (List Ping)) (l12 : List Int) (n13 : Int) : Option (Offset × Bool) :=
  iter (fun x : (List Int) × Int => Q_OffsetOf_b1 v6 x.1 x.2) (l12, n13)

noncomputable def Q_OffsetOf (p0x0 : List Ping) (p1x0 : Str) : Option (Offset × Bool) :=
  (slices_Clone_Ping_Ping p0x0).bind fun v4 =>
  (slices_DeleteFunc_Ping_Ping v4 (fun y0 => some (Q_OffsetOf_1x y0 p1x0))).bind fun v6 =>
  if (v6.length : Int) = (0 : Int) then
    some ((⟨(0 : Int), (0 : Int), (0 : Int)⟩ : Offset), false)
  else
    Q_OffsetOf_l1 v6 [] (0 : Int)

noncomputable def L_hubbed_j1 (c2 : Bool) : Option Bool :=
  some c2

noncomputable def L_hubbed : Option Bool :=
  (hub_Repair [(⟨([104] : Str), (10 : Int), (15 : Int), (10 : Int)⟩ : Ping)] ([104] : Str) (20 : Int)).bind fun v1 =>
  L_hubbed_j1 ((decide (v1.2 = (0 : Int))) && (decide (v1.1 = (15 : Int))))

noncomputable def Q_RepairOf_j2 (p2x0 : Int) (n4 : Int) : Option Int :=
  some (min (max (w64 (p2x0 - n4)) (0 : Int)) (345686399999 : Int))

noncomputable def Q_RepairOf_j1 (p2x0 : Int) (v1 : Offset × Bool) (c3 : Bool) : Option Int :=
  if c3 = true then
    Q_RepairOf_j2 p2x0 (w64 ((w64 ((w64 (v1.1.Low + v1.1.High)).tdiv (2 : Int))) - (1 : Int)))
  else
    Q_RepairOf_j2 p2x0 (w64 ((w64 (v1.1.Low + v1.1.High)).tdiv (2 : Int)))

noncomputable def Q_RepairOf (p0x0 : List Ping) (p1x0 : Str) (p2x0 : Int) : Option Int :=
  (Q_OffsetOf p0x0 p1x0).bind fun v1 =>
  if (!v1.2) = true then
    some p2x0
  else
    Q_RepairOf_j1 p2x0 v1 ((decide ((w64 (v1.1.Low + v1.1.High)) < (0 : Int))) && (decide (((w64 (v1.1.Low + v1.1.High)).tmod (2 : Int)) ≠ (0 : Int))))

noncomputable def L_ClocksRepaired_j4 (c23 : Bool) : Option Bool :=
  some c23

noncomputable def L_ClocksRepaired_j5 (c25 : Bool) : Option Bool :=
  some c25

noncomputable def L_ClocksRepaired_j3 (v2 : (List Ping) × Fleetmake_Stream) (v4 : Str × Fleetmake_Stream) (v5 : Int × Fleetmake_Stream) (v8 : Int × Int) (v11 : Int) (c21 : Bool) : Option Bool :=
  if c21 = true then
    some false
  else
    (cmp_Or_Errno [v11, (Q_MomentFault v5.1)]).bind fun v22 =>
    if v22 ≠ (0 : Int) then
      if v8.2 = v22 then
        if v8.1 = (0 : Int) then
          (L_hubbed).bind fun v24 =>
          L_ClocksRepaired_j4 v24
        else
          L_ClocksRepaired_j4 false
      else
        L_ClocksRepaired_j4 false
    else
      if v8.2 = (0 : Int) then
        (Q_RepairOf v2.1 v4.1 v5.1).bind fun v26 =>
        if v8.1 = v26 then
          (L_hubbed).bind fun v27 =>
          L_ClocksRepaired_j5 v27
        else
          L_ClocksRepaired_j5 false
      else
        L_ClocksRepaired_j5 false

noncomputable def L_ClocksRepaired_j2 (v2 : (List Ping) × Fleetmake_Stream) (v4 : Str × Fleetmake_Stream) (v5 : Int × Fleetmake_Stream) (v6 : Offset × Bool × Int) (v8 : Int × Int) (v11 : Int) (n16 : Int) (n17 : Int) (n18 : Int) (c19 : Bool) : Option Bool :=
  L_ClocksRepaired_j3 v2 v4 v5 v8 v11 ((decide (v6.1 ≠ (⟨n16, n17, n18⟩ : Offset))) || (v6.2.1 != c19))

noncomputable def L_ClocksRepaired_j1 (v2 : (List Ping) × Fleetmake_Stream) (v4 : Str × Fleetmake_Stream) (v5 : Int × Fleetmake_Stream) (v6 : Offset × Bool × Int) (v8 : Int × Int) (v11 : Int) (c12 : Bool) : Option Bool :=
  if c12 = true then
    some false
  else
    if v11 = (0 : Int) then
      (Q_OffsetOf v2.1 v4.1).bind fun v20 =>
      L_ClocksRepaired_j2 v2 v4 v5 v6 v8 v11 v20.1.Low v20.1.High v20.1.Many v20.2
    else
      L_ClocksRepaired_j2 v2 v4 v5 v6 v8 v11 (0 : Int) (0 : Int) (0 : Int) false

noncomputable def L_ClocksRepaired (p0x0 : List Int) : Option Bool :=
  (Stream_Pings (⟨p0x0, (0 : Int)⟩ : Fleetmake_Stream)).bind fun v2 =>
  (Stream_Some v2.2 [([104, 97] : Str), ([104, 97] : Str), ([104, 98] : Str), ([104, 99] : Str), ([65] : Str)]).bind fun v4 =>
  (Stream_Time v4.2).bind fun v5 =>
  (hub_Offset v2.1 v4.1).bind fun v6 =>
  (hub_Repair v2.1 v4.1 v5.1).bind fun v8 =>
  (Q_PingsFault v2.1).bind fun v9 =>
  (Q_KeyFault v4.1).bind fun v10 =>
  (cmp_Or_Errno [v9, v10]).bind fun v11 =>
  (hub_CheckPings v2.1).bind fun v13 =>
  (Q_PingsFault v2.1).bind fun v14 =>
  L_ClocksRepaired_j1 v2 v4 v5 v6 v8 v11 ((decide (v13 ≠ v14)) || (decide (v6.2.2 ≠ v11)))

end Go.Beacon
