/- Plain functions that the Go functions compute, written by shal.py. -/
import Derived.Test.YtpibecbdhjbanaaGreatDoorCore
set_option linter.unusedVariables false
namespace Go.Beacon
open Go Go.Eng
structure Fleetmake_Stream where
  L : List Int
  at_ : Int
deriving DecidableEq, Inhabited
structure Version where
  Major : Int
  Minor : Int
  Patch : Int
deriving DecidableEq, Inhabited
def Version.av (x : Version) : AV := .agg [I x.Major, I x.Minor, I x.Patch]

structure Wave where
  Part : Int
  Wait : Int
  Least : Int
  Fails : Int
deriving DecidableEq, Inhabited
def Wave.av (x : Wave) : AV := .agg [I x.Part, I x.Wait, I x.Least, I x.Fails]

structure Window where
  From : Int
  To : Int
deriving DecidableEq, Inhabited
structure Campaign where
  Key : Str
  Target : Version
  At : Int
  Waves : List Wave
  Hours : Window
  Room : Int
deriving DecidableEq, Inhabited
def Campaign.av (x : Campaign) : AV := .agg [.str x.Key, I x.Target.Major, I x.Target.Minor, I x.Target.Patch, I x.At, .list 4 (x.Waves.map Wave.av), I x.Hours.From, I x.Hours.To, I x.Room]

structure Pair where
  Name : Str
  Value : Str
deriving DecidableEq, Inhabited
def Pair.av (x : Pair) : AV := .agg [.str x.Name, .str x.Value]

structure DeviceS where
  Key : Str
  Model : Str
  Tenant : Str
  Firmware : Version
  Tags : List Pair
deriving DecidableEq, Inhabited
def DeviceS.av (x : DeviceS) : AV := .agg [.str x.Key, .str x.Model, .str x.Tenant, I x.Firmware.Major, I x.Firmware.Minor, I x.Firmware.Patch, .list 2 (x.Tags.map Pair.av)]

structure MarkS where
  At : Int
  Device : Str
  Kind : Int
  Version : Version
deriving DecidableEq, Inhabited
def MarkS.av (x : MarkS) : AV := .agg [I x.At, .str x.Device, I x.Kind, I x.Version.Major, I x.Version.Minor, I x.Version.Patch]

structure Standing where
  Kind : Int
  Since : Int
  Version : Version
  Fails : Int
deriving DecidableEq, Inhabited
def Standing.av (x : Standing) : AV := .agg [I x.Kind, I x.Since, I x.Version.Major, I x.Version.Minor, I x.Version.Patch, I x.Fails]

structure Campaign_course where
  Standing : Standing
  offered_ : Version
deriving DecidableEq, Inhabited
structure Campaign_state where
  c_ : Campaign
  of_ : List (Str × Int)
  wave_ : List (Str × Int)
  open_ : List Int
  ends_ : List Int
  fails_ : List Int
  begins_ : List Int
  stopped_ : Int
  next_ : Int
  ar0 : List Campaign_course
deriving DecidableEq, Inhabited

noncomputable def Below_j1 (n2 : Int) : Option Int :=
  some n2

noncomputable def Below (p0x0 : Int) (p1x0 : Int) : Option Int :=
  if p1x0 < (1 : Int) then
    some (0 : Int)
  else
    (rem p0x0 p1x0).bind fun n1 =>
    if n1 < (0 : Int) then
      Below_j1 (w64 (n1 + p1x0))
    else
      Below_j1 n1

noncomputable def Stream_Next (p0x0 : Fleetmake_Stream) (p1x0 : Int) : Option (Int × Fleetmake_Stream) :=
  if (p0x0.L.length : Int) = (0 : Int) then
    (Below (w64 ((w64 (p0x0.at_ + (1 : Int))) * (7919 : Int))) p1x0).bind fun v1 =>
    some (v1, (⟨p0x0.L, w64 (p0x0.at_ + (1 : Int))⟩ : Fleetmake_Stream))
  else
    (rem (w64 ((w64 (p0x0.at_ + (1 : Int))) - (1 : Int))) (p0x0.L.length : Int)).bind fun n2 =>
    (quo (w64 ((w64 (p0x0.at_ + (1 : Int))) - (1 : Int))) (p0x0.L.length : Int)).bind fun n3 =>
    (idx p0x0.L n2).bind fun v4 =>
    (Below v4 (1073741824 : Int)).bind fun v5 =>
    (Below (w64 (v5 + (w64 (n3 * (w64 ((7919 : Int) + n2)))))) p1x0).bind fun v6 =>
    some (v6, (⟨p0x0.L, w64 (p0x0.at_ + (1 : Int))⟩ : Fleetmake_Stream))

noncomputable def Stream_Some (p0x0 : Fleetmake_Stream) (p1x0 : List Str) : Option (Str × Fleetmake_Stream) :=
  (Stream_Next p0x0 (p1x0.length : Int)).bind fun v1 =>
  (idx p1x0 v1.1).bind fun v2 =>
  some (v2, v1.2)

noncomputable def Stream_Pick (p0x0 : Fleetmake_Stream) (p1x0 : List Int) : Option (Int × Fleetmake_Stream) :=
  (Stream_Next p0x0 (p1x0.length : Int)).bind fun v1 =>
  (idx p1x0 v1.1).bind fun v2 =>
  some (v2, v1.2)

noncomputable def whole (p0x0 : Int) : Version :=
  (⟨p0x0, (0 : Int), (0 : Int)⟩ : Version)

noncomputable def Stream_Flip (p0x0 : Fleetmake_Stream) (p1x0 : Int) : Option (Bool × Fleetmake_Stream) :=
  (Stream_Next p0x0 p1x0).bind fun v1 =>
  some (decide (v1.1 = (0 : Int)), v1.2)

noncomputable def Stream_RightCampaign_j1 (v2 : Str × Fleetmake_Stream) (v3 : Int × Fleetmake_Stream) (v4 : Int × Fleetmake_Stream) (v5 : Int × Fleetmake_Stream) (l17 : List Wave) (l27 : List Int) (n28 : Int) (n29 : Int) (n30 : Int) : Option (Campaign × Fleetmake_Stream) :=
  some ((⟨v2.1, (whole v3.1), v4.1, l17, (⟨n29, n30⟩ : Window), v5.1⟩ : Campaign), (⟨l27, n28⟩ : Fleetmake_Stream))

noncomputable def Stream_RightCampaign_k2 (v2 : Str × Fleetmake_Stream) (v3 : Int × Fleetmake_Stream) (v4 : Int × Fleetmake_Stream) (v5 : Int × Fleetmake_Stream) (l14 : List Int) (n15 : Int) (l17 : List Wave) : Option (Campaign × Fleetmake_Stream) :=
  (Stream_Flip (⟨l14, n15⟩ : Fleetmake_Stream) (3 : Int)).bind fun v26 =>
  if v26.1 = true then
    (Stream_Pick v26.2 [(0 : Int), (50 : Int), (3600000 : Int)]).bind fun v31 =>
    (Stream_Pick v31.2 [(0 : Int), (40 : Int), (200 : Int), (86400000 : Int)]).bind fun v32 =>
    Stream_RightCampaign_j1 v2 v3 v4 v5 l17 v32.2.L v32.2.at_ v31.1 v32.1
  else
    Stream_RightCampaign_j1 v2 v3 v4 v5 l17 v26.2.L v26.2.at_ (0 : Int) (0 : Int)

noncomputable def Stream_RightCampaign_b1 (v2 : Str × Fleetmake_Stream) (v3 : Int × Fleetmake_Stream) (v4 : Int × Fleetmake_Stream) (v5 : Int × Fleetmake_Stream) (v8 : List Int) (l14 : List Int) (n15 : Int) (l17 : List Wave) (n18 : Int) : Option (((List Int) × Int × (List Wave) × Int) ⊕ (Campaign × Fleetmake_Stream)) :=
  if n18 < (v8.length : Int) then
    (idx v8 n18).bind fun v20 =>
    (Stream_Pick (⟨l14, n15⟩ : Fleetmake_Stream) [(0 : Int), (0 : Int), (10 : Int), (30 : Int)]).bind fun v21 =>
    (Stream_Pick v21.2 [(1 : Int), (1 : Int), (2 : Int), (3 : Int)]).bind fun v22 =>
    (Stream_Pick v22.2 [(0 : Int), (300 : Int), (500 : Int), (1000 : Int)]).bind fun v23 =>
    (app l17 [(⟨v20, v21.1, v22.1, v23.1⟩ : Wave)]).bind fun l24 =>
    some (.inl (v23.2.L, v23.2.at_, l24, w64 (n18 + (1 : Int))))
  else
    Option.map .inr (Stream_RightCampaign_k2 v2 v3 v4 v5 l14 n15 l17)

noncomputable def Stream_RightCampaign_l1 (v2 : Str × Fleetmake_Stream) (v3 : Int × Fleetmake_Stream) (v4 : Int × Fleetmake_Stream) (v5 : Int × Fleetmake_Stream) (v8 : List Int) (l14 : List Int) (n15 : Int) (l17 : List Wave) (n18 : Int) : Option (Campaign × Fleetmake_Stream) :=
  iter (fun x : (List Int) × Int × (List Wave) × Int => Stream_RightCampaign_b1 v2 v3 v4 v5 v8 x.1 x.2.1 x.2.2.1 x.2.2.2) (l14, n15, l17, n18)

noncomputable def Stream_RightCampaign (p0x0 : Fleetmake_Stream) : Option (Campaign × Fleetmake_Stream) :=
  (Stream_Some p0x0 [([99] : Str), ([107] : Str), ([122, 57] : Str)]).bind fun v2 =>
  (Stream_Pick v2.2 [(2 : Int), (3 : Int), (4 : Int)]).bind fun v3 =>
  (Stream_Pick v3.2 [(0 : Int), (10 : Int), (100 : Int)]).bind fun v4 =>
  (Stream_Pick v4.2 [(1 : Int), (2 : Int), (5 : Int)]).bind fun v5 =>
  (Stream_Next v5.2 (4 : Int)).bind fun v7 =>
  (idx [[(1000 : Int)], [(500 : Int), (500 : Int)], [(200 : Int), (300 : Int), (500 : Int)], [(100 : Int), (900 : Int)]] v7.1).bind fun v8 =>
  Stream_RightCampaign_l1 v2 v3 v4 v5 v8 v7.2.L v7.2.at_ [] (0 : Int)

noncomputable def Stream_Range (p0x0 : Fleetmake_Stream) (p1x0 : Int) (p2x0 : Int) : Option (Int × Fleetmake_Stream) :=
  if p2x0 < p1x0 then
    some (p1x0, p0x0)
  else
    (Stream_Next p0x0 (w64 ((w64 (p2x0 - p1x0)) + (1 : Int)))).bind fun v1 =>
    some (w64 (p1x0 + v1.1), v1.2)

noncomputable def Stream_RightVersion (p0x0 : Fleetmake_Stream) : Option (Version × Fleetmake_Stream) :=
  (Stream_Range p0x0 (1 : Int) (4 : Int)).bind fun v2 =>
  (Stream_Pick v2.2 [(0 : Int), (0 : Int), (1 : Int), (5 : Int), (9999 : Int)]).bind fun v3 =>
  (Stream_Pick v3.2 [(0 : Int), (0 : Int), (0 : Int), (3 : Int), (9999 : Int)]).bind fun v4 =>
  some ((⟨v2.1, v3.1, v4.1⟩ : Version), v4.2)

noncomputable def Stream_Odd (p0x0 : Fleetmake_Stream) (p1x0 : Int) (p2x0 : Int) : Option (Int × Fleetmake_Stream) :=
  (Stream_Flip p0x0 (12 : Int)).bind fun v1 =>
  if v1.1 = true then
    (Stream_Pick v1.2 [w64 (p1x0 - (1 : Int)), w64 (p2x0 + (1 : Int)), p1x0, p2x0, (-1099511627776 : Int), (1099511627776 : Int)]).bind fun v2 =>
    some (v2.1, v2.2)
  else
    (Stream_Range v1.2 p1x0 p2x0).bind fun v3 =>
    some (v3.1, v3.2)

noncomputable def Stream_Version_j1 (v2 : Version × Fleetmake_Stream) (l5 : List Int) (n6 : Int) (n7 : Int) (n8 : Int) : Option (Version × Fleetmake_Stream) :=
  some ((⟨v2.1.Major, n7, n8⟩ : Version), (⟨l5, n6⟩ : Fleetmake_Stream))

noncomputable def Stream_Version (p0x0 : Fleetmake_Stream) : Option (Version × Fleetmake_Stream) :=
  (Stream_RightVersion p0x0).bind fun v2 =>
  (Stream_Flip v2.2 (30 : Int)).bind fun v4 =>
  if v4.1 = true then
    (Stream_Odd v4.2 (0 : Int) (9999 : Int)).bind fun v9 =>
    (Stream_Odd v9.2 (0 : Int) (9999 : Int)).bind fun v10 =>
    Stream_Version_j1 v2 v10.2.L v10.2.at_ v10.1 v9.1
  else
    Stream_Version_j1 v2 v4.2.L v4.2.at_ v2.1.Minor v2.1.Patch

noncomputable def Stream_Campaign_j1 (l6 : List Int) (n7 : Int) (q8 : Str) (n9 : Int) (n10 : Int) (n11 : Int) (n12 : Int) (l14 : List Wave) (n15 : Int) (n16 : Int) (n17 : Int) : Option (Campaign × Fleetmake_Stream) :=
  some ((⟨q8, (⟨n9, n10, n11⟩ : Version), n12, l14, (⟨n15, n16⟩ : Window), n17⟩ : Campaign), (⟨l6, n7⟩ : Fleetmake_Stream))

noncomputable def Stream_Campaign_j2 (l19 : List Int) (n20 : Int) (q21 : Str) (n22 : Int) (n23 : Int) (n24 : Int) (n25 : Int) (l27 : List Wave) (n28 : Int) (n29 : Int) (n30 : Int) : Option (Campaign × Fleetmake_Stream) :=
  Stream_Campaign_j1 l19 n20 q21 n22 n23 n24 n25 l27 n28 n29 n30

noncomputable def Stream_Campaign_j3 (v2 : Campaign × Fleetmake_Stream) (l32 : List Int) (n33 : Int) (n34 : Int) (n35 : Int) (n36 : Int) (n37 : Int) (l39 : List Wave) (n40 : Int) (n41 : Int) (n42 : Int) : Option (Campaign × Fleetmake_Stream) :=
  Stream_Campaign_j2 l32 n33 v2.1.Key n34 n35 n36 n37 l39 n40 n41 n42

noncomputable def Stream_Campaign_j4 (v2 : Campaign × Fleetmake_Stream) (l44 : List Int) (n45 : Int) (n46 : Int) (l48 : List Wave) (n49 : Int) (n50 : Int) (n51 : Int) : Option (Campaign × Fleetmake_Stream) :=
  Stream_Campaign_j3 v2 l44 n45 v2.1.Target.Major v2.1.Target.Minor v2.1.Target.Patch n46 l48 n49 n50 n51

noncomputable def Stream_Campaign_j5 (v2 : Campaign × Fleetmake_Stream) (l53 : List Int) (n54 : Int) (l56 : List Wave) (n57 : Int) (n58 : Int) (n59 : Int) : Option (Campaign × Fleetmake_Stream) :=
  Stream_Campaign_j4 v2 l53 n54 v2.1.At l56 n57 n58 n59

noncomputable def Stream_Campaign_j6 (v2 : Campaign × Fleetmake_Stream) (l66 : List Int) (n67 : Int) (n68 : Int) (n69 : Int) (n70 : Int) : Option (Campaign × Fleetmake_Stream) :=
  Stream_Campaign_j5 v2 l66 n67 v2.1.Waves n68 n69 n70

noncomputable def Stream_Campaign (p0x0 : Fleetmake_Stream) : Option (Campaign × Fleetmake_Stream) :=
  (Stream_RightCampaign p0x0).bind fun v2 =>
  (Stream_Flip v2.2 (12 : Int)).bind fun v5 =>
  if v5.1 = true then
    (Stream_Next v5.2 (6 : Int)).bind fun v18 =>
    if v18.1 = (0 : Int) then
      (Stream_Some v18.2 [([] : Str), ([65] : Str)]).bind fun v31 =>
      Stream_Campaign_j2 v31.2.L v31.2.at_ v31.1 v2.1.Target.Major v2.1.Target.Minor v2.1.Target.Patch v2.1.At v2.1.Waves v2.1.Hours.From v2.1.Hours.To v2.1.Room
    else
      if v18.1 = (1 : Int) then
        (Stream_Version v18.2).bind fun v43 =>
        Stream_Campaign_j3 v2 v43.2.L v43.2.at_ v43.1.Major v43.1.Minor v43.1.Patch v2.1.At v2.1.Waves v2.1.Hours.From v2.1.Hours.To v2.1.Room
      else
        if v18.1 = (2 : Int) then
          (Stream_Odd v18.2 (0 : Int) (100 : Int)).bind fun v52 =>
          Stream_Campaign_j4 v2 v52.2.L v52.2.at_ v52.1 v2.1.Waves v2.1.Hours.From v2.1.Hours.To v2.1.Room
        else
          if v18.1 = (3 : Int) then
            (Stream_Odd v18.2 (1 : Int) (1000 : Int)).bind fun v60 =>
            (Stream_Odd v60.2 (0 : Int) (10 : Int)).bind fun v61 =>
            (Stream_Odd v61.2 (1 : Int) (500 : Int)).bind fun v62 =>
            (Stream_Odd v62.2 (0 : Int) (1000 : Int)).bind fun v63 =>
            (app v2.1.Waves [(⟨v60.1, v61.1, v62.1, v63.1⟩ : Wave)]).bind fun l64 =>
            Stream_Campaign_j5 v2 v63.2.L v63.2.at_ l64 v2.1.Hours.From v2.1.Hours.To v2.1.Room
          else
            if v18.1 = (4 : Int) then
              (Stream_Odd v18.2 (0 : Int) (86400000 : Int)).bind fun v71 =>
              (Stream_Odd v71.2 (0 : Int) (86400000 : Int)).bind fun v72 =>
              Stream_Campaign_j6 v2 v72.2.L v72.2.at_ v71.1 v72.1 v2.1.Room
            else
              (Stream_Odd v18.2 (1 : Int) (500 : Int)).bind fun v73 =>
              Stream_Campaign_j6 v2 v73.2.L v73.2.at_ v2.1.Hours.From v2.1.Hours.To v73.1
  else
    Stream_Campaign_j1 v5.2.L v5.2.at_ v2.1.Key v2.1.Target.Major v2.1.Target.Minor v2.1.Target.Patch v2.1.At v2.1.Waves v2.1.Hours.From v2.1.Hours.To v2.1.Room

noncomputable def Stream_RightFleet_j1 (n11 : Int) (l15 : List Int) (n16 : Int) (l18 : List DeviceS) : Option (((List Int) × Int × (List DeviceS) × Int) ⊕ ((List DeviceS) × Fleetmake_Stream)) :=
  some (.inl (l15, n16, l18, w64 (n11 + (1 : Int))))

noncomputable def Stream_RightFleet_b1 (l1 : List Str) (l7 : List Int) (n8 : Int) (l10 : List DeviceS) (n11 : Int) : Option (((List Int) × Int × (List DeviceS) × Int) ⊕ ((List DeviceS) × Fleetmake_Stream)) :=
  if n11 < (l1.length : Int) then
    (idx l1 n11).bind fun v13 =>
    (Stream_Flip (⟨l7, n8⟩ : Fleetmake_Stream) (5 : Int)).bind fun v14 =>
    if (!v14.1) = true then
      (Stream_Some v14.2 [([109] : Str), ([109] : Str), ([109] : Str), ([110] : Str)]).bind fun v19 =>
      (Stream_Pick v19.2 [(1 : Int), (1 : Int), (1 : Int), (2 : Int), (3 : Int)]).bind fun v20 =>
      (Stream_Pick v20.2 [(0 : Int), (0 : Int), (5 : Int)]).bind fun v21 =>
      (app l10 [(⟨v13, v19.1, ([116] : Str), (⟨v20.1, v21.1, (0 : Int)⟩ : Version), []⟩ : DeviceS)]).bind fun l22 =>
      Stream_RightFleet_j1 n11 v21.2.L v21.2.at_ l22
    else
      Stream_RightFleet_j1 n11 v14.2.L v14.2.at_ l10
  else
    Option.map .inr (some (l10, (⟨l7, n8⟩ : Fleetmake_Stream)))

noncomputable def Stream_RightFleet_l1 (l1 : List Str) (l7 : List Int) (n8 : Int) (l10 : List DeviceS) (n11 : Int) : Option ((List DeviceS) × Fleetmake_Stream) :=
  iter (fun x : (List Int) × Int × (List DeviceS) × Int => Stream_RightFleet_b1 l1 x.1 x.2.1 x.2.2.1 x.2.2.2) (l7, n8, l10, n11)

noncomputable def Stream_RightFleet (p0x0 : Fleetmake_Stream) (p1x0 : Int) : Option ((List DeviceS) × Fleetmake_Stream) :=
  (slc [([100, 49] : Str), ([100, 50] : Str), ([100, 51] : Str), ([100, 52] : Str), ([100, 53] : Str), ([100, 54] : Str)] (0 : Int) p1x0).bind fun l1 =>
  Stream_RightFleet_l1 l1 p0x0.L p0x0.at_ [] (0 : Int)

noncomputable def Stream_Fleet_j2 (l7 : List Int) (n8 : Int) (l9 : List DeviceS) : Option ((List DeviceS) × Fleetmake_Stream) :=
  some (l9, (⟨l7, n8⟩ : Fleetmake_Stream))

noncomputable def Stream_Fleet_j1 (v1 : (List DeviceS) × Fleetmake_Stream) (l3 : List Int) (n4 : Int) (c5 : Bool) : Option ((List DeviceS) × Fleetmake_Stream) :=
  if c5 = true then
    (Stream_Next (⟨l3, n4⟩ : Fleetmake_Stream) (v1.1.length : Int)).bind fun v10 =>
    (idx v1.1 v10.1).bind fun v11 =>
    (Stream_Some v10.2 [v11.Key, ([] : Str), ([100, 49] : Str)]).bind fun v12 =>
    (Stream_Some v12.2 [([109] : Str), ([] : Str)]).bind fun v13 =>
    (Stream_Version v13.2).bind fun v14 =>
    Stream_Fleet_j2 v14.2.L v14.2.at_ (((v1.1.set v10.1.toNat (⟨v12.1, v11.Model, v11.Tenant, v11.Firmware, v11.Tags⟩ : DeviceS)).set v10.1.toNat (⟨v12.1, v13.1, v11.Tenant, v11.Firmware, v11.Tags⟩ : DeviceS)).set v10.1.toNat (⟨v12.1, v13.1, v11.Tenant, v14.1, v11.Tags⟩ : DeviceS))
  else
    Stream_Fleet_j2 l3 n4 v1.1

noncomputable def Stream_Fleet (p0x0 : Fleetmake_Stream) (p1x0 : Int) : Option ((List DeviceS) × Fleetmake_Stream) :=
  (Stream_RightFleet p0x0 p1x0).bind fun v1 =>
  if (0 : Int) < (v1.1.length : Int) then
    (Stream_Flip v1.2 (15 : Int)).bind fun v6 =>
    Stream_Fleet_j1 v1 v6.2.L v6.2.at_ v6.1
  else
    Stream_Fleet_j1 v1 v1.2.L v1.2.at_ false

noncomputable def Q_sign (p0x0 : Int) : Int :=
  if p0x0 < (0 : Int) then
    (-1 : Int)
  else
    if (0 : Int) < p0x0 then
      (1 : Int)
    else
      (0 : Int)

noncomputable def Q_MarkOrder (p0x0 : MarkS) (p1x0 : MarkS) : Int :=
  if p0x0.At ≠ p1x0.At then
    (Q_sign (w64 (p0x0.At - p1x0.At)))
  else
    (Lib.compareBytes p0x0.Device p1x0.Device)

noncomputable def slices_insertionSortCmpFunc_Mark_j1 (n4 : Int) (l7 : List MarkS) (n8 : Int) (c9 : Bool) : Option (((List MarkS) × Int) ⊕ (((List MarkS) × Int) ⊕ (List MarkS))) :=
  if c9 = true then
    (idx l7 (w64 (n8 - (1 : Int)))).bind fun v13 =>
    (idx l7 n8).bind fun v14 =>
    (idx l7 n8).bind fun v15 =>
    (idx (l7.set n8.toNat v13) (w64 (n8 - (1 : Int)))).bind fun v16 =>
    some (.inl ((l7.set n8.toNat v13).set (w64 (n8 - (1 : Int))).toNat v14, w64 (n8 - (1 : Int))))
  else
    Option.map .inr (some (.inl (l7, w64 (n4 + (1 : Int)))))

noncomputable def slices_insertionSortCmpFunc_Mark_b2 (p1x0 : Int) (fnd : MarkS → MarkS → Option Int) (n4 : Int) (l7 : List MarkS) (n8 : Int) : Option (((List MarkS) × Int) ⊕ (((List MarkS) × Int) ⊕ (List MarkS))) :=
  if p1x0 < n8 then
    (idx l7 n8).bind fun v10 =>
    (idx l7 (w64 (n8 - (1 : Int)))).bind fun v11 =>
    (fnd v10 v11).bind fun v12 =>
    slices_insertionSortCmpFunc_Mark_j1 n4 l7 n8 (decide (v12 < (0 : Int)))
  else
    slices_insertionSortCmpFunc_Mark_j1 n4 l7 n8 false

noncomputable def slices_insertionSortCmpFunc_Mark_l2 (p1x0 : Int) (fnd : MarkS → MarkS → Option Int) (n4 : Int) (l7 : List MarkS) (n8 : Int) : Option (((List MarkS) × Int) ⊕ (List MarkS)) :=
  iter (fun x : (List MarkS) × Int => slices_insertionSortCmpFunc_Mark_b2 p1x0 fnd n4 x.1 x.2) (l7, n8)

noncomputable def slices_insertionSortCmpFunc_Mark_b1 (p1x0 : Int) (p2x0 : Int) (fnd : MarkS → MarkS → Option Int) (l3 : List MarkS) (n4 : Int) : Option (((List MarkS) × Int) ⊕ (List MarkS)) :=
  if n4 < p2x0 then
    slices_insertionSortCmpFunc_Mark_l2 p1x0 fnd n4 l3 n4
  else
    Option.map .inr (some l3)

noncomputable def slices_insertionSortCmpFunc_Mark_l1 (p1x0 : Int) (p2x0 : Int) (fnd : MarkS → MarkS → Option Int) (l3 : List MarkS) (n4 : Int) : Option (List MarkS) :=
  iter (fun x : (List MarkS) × Int => slices_insertionSortCmpFunc_Mark_b1 p1x0 p2x0 fnd x.1 x.2) (l3, n4)

noncomputable def slices_insertionSortCmpFunc_Mark (p0x0 : List MarkS) (p1x0 : Int) (p2x0 : Int) (fnd : MarkS → MarkS → Option Int) : Option (List MarkS) :=
  slices_insertionSortCmpFunc_Mark_l1 p1x0 p2x0 fnd p0x0 (w64 (p1x0 + (1 : Int)))

noncomputable def slices_swapRangeCmpFunc_Mark_b1 (p1x0 : Int) (p2x0 : Int) (p3x0 : Int) (l3 : List MarkS) (n4 : Int) : Option (((List MarkS) × Int) ⊕ (List MarkS)) :=
  if n4 < p3x0 then
    (idx l3 (w64 (p2x0 + n4))).bind fun v5 =>
    (idx l3 (w64 (p1x0 + n4))).bind fun v6 =>
    (idx l3 (w64 (p1x0 + n4))).bind fun v7 =>
    (idx (l3.set (w64 (p1x0 + n4)).toNat v5) (w64 (p2x0 + n4))).bind fun v8 =>
    some (.inl ((l3.set (w64 (p1x0 + n4)).toNat v5).set (w64 (p2x0 + n4)).toNat v6, w64 (n4 + (1 : Int))))
  else
    Option.map .inr (some l3)

noncomputable def slices_swapRangeCmpFunc_Mark_l1 (p1x0 : Int) (p2x0 : Int) (p3x0 : Int) (l3 : List MarkS) (n4 : Int) : Option (List MarkS) :=
  iter (fun x : (List MarkS) × Int => slices_swapRangeCmpFunc_Mark_b1 p1x0 p2x0 p3x0 x.1 x.2) (l3, n4)

noncomputable def slices_swapRangeCmpFunc_Mark (p0x0 : List MarkS) (p1x0 : Int) (p2x0 : Int) (p3x0 : Int) (fne : MarkS → MarkS → Option Int) : Option (List MarkS) :=
  slices_swapRangeCmpFunc_Mark_l1 p1x0 p2x0 p3x0 p0x0 (0 : Int)

noncomputable def slices_rotateCmpFunc_Mark_j1 (l7 : List MarkS) (n8 : Int) (n9 : Int) : Option (((List MarkS) × Int × Int) ⊕ (List MarkS)) :=
  some (.inl (l7, n8, n9))

noncomputable def slices_rotateCmpFunc_Mark_k2 (p2x0 : Int) (fne : MarkS → MarkS → Option Int) (l4 : List MarkS) (n5 : Int) : Option (List MarkS) :=
  (lenOk l4.length (fun r : (List MarkS) => r.length) (slices_swapRangeCmpFunc_Mark l4 (w64 (p2x0 - n5)) p2x0 n5 fne)).bind fun v12 =>
  some v12

noncomputable def slices_rotateCmpFunc_Mark_b1 (p2x0 : Int) (fne : MarkS → MarkS → Option Int) (l4 : List MarkS) (n5 : Int) (n6 : Int) : Option (((List MarkS) × Int × Int) ⊕ (List MarkS)) :=
  if n5 ≠ n6 then
    if n6 < n5 then
      (lenOk l4.length (fun r : (List MarkS) => r.length) (slices_swapRangeCmpFunc_Mark l4 (w64 (p2x0 - n5)) p2x0 n6 fne)).bind fun v10 =>
      slices_rotateCmpFunc_Mark_j1 v10 (w64 (n5 - n6)) n6
    else
      (lenOk l4.length (fun r : (List MarkS) => r.length) (slices_swapRangeCmpFunc_Mark l4 (w64 (p2x0 - n5)) (w64 ((w64 (p2x0 + n6)) - n5)) n5 fne)).bind fun v11 =>
      slices_rotateCmpFunc_Mark_j1 v11 n5 (w64 (n6 - n5))
  else
    Option.map .inr (slices_rotateCmpFunc_Mark_k2 p2x0 fne l4 n5)

noncomputable def slices_rotateCmpFunc_Mark_l1 (p2x0 : Int) (fne : MarkS → MarkS → Option Int) (l4 : List MarkS) (n5 : Int) (n6 : Int) : Option (List MarkS) :=
  iter (fun x : (List MarkS) × Int × Int => slices_rotateCmpFunc_Mark_b1 p2x0 fne x.1 x.2.1 x.2.2) (l4, n5, n6)

noncomputable def slices_rotateCmpFunc_Mark (p0x0 : List MarkS) (p1x0 : Int) (p2x0 : Int) (p3x0 : Int) (fne : MarkS → MarkS → Option Int) : Option (List MarkS) :=
  slices_rotateCmpFunc_Mark_l1 p2x0 fne p0x0 (w64 (p2x0 - p1x0)) (w64 (p3x0 - p2x0))

noncomputable def slices_symMergeCmpFunc_Mark_j1 (n8 : Int) (n9 : Int) : Option ((Int × Int) ⊕ (List MarkS)) :=
  some (.inl (n8, n9))

noncomputable def slices_symMergeCmpFunc_Mark_b2 (n3 : Int) (l12 : List MarkS) (n13 : Int) : Option (((List MarkS) × Int) ⊕ (List MarkS)) :=
  if n13 < (w64 (n3 - (1 : Int))) then
    (idx l12 (w64 (n13 + (1 : Int)))).bind fun v14 =>
    (idx l12 n13).bind fun v15 =>
    (idx l12 n13).bind fun v16 =>
    (idx (l12.set n13.toNat v14) (w64 (n13 + (1 : Int)))).bind fun v17 =>
    some (.inl ((l12.set n13.toNat v14).set (w64 (n13 + (1 : Int))).toNat v15, w64 (n13 + (1 : Int))))
  else
    Option.map .inr (some l12)

noncomputable def slices_symMergeCmpFunc_Mark_l2 (n3 : Int) (l12 : List MarkS) (n13 : Int) : Option (List MarkS) :=
  iter (fun x : (List MarkS) × Int => slices_symMergeCmpFunc_Mark_b2 n3 x.1 x.2) (l12, n13)

noncomputable def slices_symMergeCmpFunc_Mark_b1 (p0x0 : List MarkS) (p1x0 : Int) (fne : MarkS → MarkS → Option Int) (n3 : Int) (n4 : Int) : Option ((Int × Int) ⊕ (List MarkS)) :=
  if n3 < n4 then
    (idx p0x0 (w64 (shrI .u64 (IntKind.u64.wrap (w64 (n3 + n4))) (1 : Int)))).bind fun v5 =>
    (idx p0x0 p1x0).bind fun v6 =>
    (fne v5 v6).bind fun v7 =>
    if v7 < (0 : Int) then
      slices_symMergeCmpFunc_Mark_j1 (w64 ((w64 (shrI .u64 (IntKind.u64.wrap (w64 (n3 + n4))) (1 : Int))) + (1 : Int))) n4
    else
      slices_symMergeCmpFunc_Mark_j1 n3 (w64 (shrI .u64 (IntKind.u64.wrap (w64 (n3 + n4))) (1 : Int)))
  else
    Option.map .inr (slices_symMergeCmpFunc_Mark_l2 n3 p0x0 p1x0)

noncomputable def slices_symMergeCmpFunc_Mark_l1 (p0x0 : List MarkS) (p1x0 : Int) (fne : MarkS → MarkS → Option Int) (n3 : Int) (n4 : Int) : Option (List MarkS) :=
  iter (fun x : Int × Int => slices_symMergeCmpFunc_Mark_b1 p0x0 p1x0 fne x.1 x.2) (n3, n4)

noncomputable def slices_symMergeCmpFunc_Mark_j2 (n25 : Int) (n26 : Int) : Option ((Int × Int) ⊕ (List MarkS)) :=
  some (.inl (n25, n26))

noncomputable def slices_symMergeCmpFunc_Mark_b4 (n20 : Int) (l29 : List MarkS) (n30 : Int) : Option (((List MarkS) × Int) ⊕ (List MarkS)) :=
  if n20 < n30 then
    (idx l29 (w64 (n30 - (1 : Int)))).bind fun v31 =>
    (idx l29 n30).bind fun v32 =>
    (idx l29 n30).bind fun v33 =>
    (idx (l29.set n30.toNat v31) (w64 (n30 - (1 : Int)))).bind fun v34 =>
    some (.inl ((l29.set n30.toNat v31).set (w64 (n30 - (1 : Int))).toNat v32, w64 (n30 - (1 : Int))))
  else
    Option.map .inr (some l29)

noncomputable def slices_symMergeCmpFunc_Mark_l4 (n20 : Int) (l29 : List MarkS) (n30 : Int) : Option (List MarkS) :=
  iter (fun x : (List MarkS) × Int => slices_symMergeCmpFunc_Mark_b4 n20 x.1 x.2) (l29, n30)

noncomputable def slices_symMergeCmpFunc_Mark_b3 (p0x0 : List MarkS) (p2x0 : Int) (fne : MarkS → MarkS → Option Int) (n20 : Int) (n21 : Int) : Option ((Int × Int) ⊕ (List MarkS)) :=
  if n20 < n21 then
    (idx p0x0 p2x0).bind fun v22 =>
    (idx p0x0 (w64 (shrI .u64 (IntKind.u64.wrap (w64 (n20 + n21))) (1 : Int)))).bind fun v23 =>
    (fne v22 v23).bind fun v24 =>
    if ¬ (v24 < (0 : Int)) then
      slices_symMergeCmpFunc_Mark_j2 (w64 ((w64 (shrI .u64 (IntKind.u64.wrap (w64 (n20 + n21))) (1 : Int))) + (1 : Int))) n21
    else
      slices_symMergeCmpFunc_Mark_j2 n20 (w64 (shrI .u64 (IntKind.u64.wrap (w64 (n20 + n21))) (1 : Int)))
  else
    Option.map .inr (slices_symMergeCmpFunc_Mark_l4 n20 p0x0 p2x0)

noncomputable def slices_symMergeCmpFunc_Mark_l3 (p0x0 : List MarkS) (p2x0 : Int) (fne : MarkS → MarkS → Option Int) (n20 : Int) (n21 : Int) : Option (List MarkS) :=
  iter (fun x : Int × Int => slices_symMergeCmpFunc_Mark_b3 p0x0 p2x0 fne x.1 x.2) (n20, n21)

noncomputable def slices_symMergeCmpFunc_Mark_j4 (n44 : Int) (n45 : Int) : Option ((Int × Int) ⊕ (List MarkS)) :=
  some (.inl (n44, n45))

noncomputable def slices_symMergeCmpFunc_Mark_j10 (l53 : List MarkS) : Option (List MarkS) :=
  some l53

noncomputable def slices_symMergeCmpFunc_Mark_j9 (self : (List MarkS) → Int → Int → Int → (MarkS → MarkS → Option Int) → Option (List MarkS)) (p1x0 : Int) (p2x0 : Int) (p3x0 : Int) (fne : MarkS → MarkS → Option Int) (n39 : Int) (l50 : List MarkS) (c52 : Bool) : Option (List MarkS) :=
  if c52 = true then
    (lenOk l50.length (fun r : (List MarkS) => r.length) (self l50 (w64 (shrI .u64 (IntKind.u64.wrap (w64 (p1x0 + p3x0))) (1 : Int))) (w64 ((w64 ((w64 (shrI .u64 (IntKind.u64.wrap (w64 (p1x0 + p3x0))) (1 : Int))) + p2x0)) - n39)) p3x0 fne)).bind fun v54 =>
    slices_symMergeCmpFunc_Mark_j10 v54
  else
    slices_symMergeCmpFunc_Mark_j10 l50

noncomputable def slices_symMergeCmpFunc_Mark_j8 (self : (List MarkS) → Int → Int → Int → (MarkS → MarkS → Option Int) → Option (List MarkS)) (p1x0 : Int) (p2x0 : Int) (p3x0 : Int) (fne : MarkS → MarkS → Option Int) (n39 : Int) (l50 : List MarkS) : Option (List MarkS) :=
  slices_symMergeCmpFunc_Mark_j9 self p1x0 p2x0 p3x0 fne n39 l50 ((decide ((w64 (shrI .u64 (IntKind.u64.wrap (w64 (p1x0 + p3x0))) (1 : Int))) < (w64 ((w64 ((w64 (shrI .u64 (IntKind.u64.wrap (w64 (p1x0 + p3x0))) (1 : Int))) + p2x0)) - n39)))) && (decide ((w64 ((w64 ((w64 (shrI .u64 (IntKind.u64.wrap (w64 (p1x0 + p3x0))) (1 : Int))) + p2x0)) - n39)) < p3x0)))

noncomputable def slices_symMergeCmpFunc_Mark_j7 (self : (List MarkS) → Int → Int → Int → (MarkS → MarkS → Option Int) → Option (List MarkS)) (p1x0 : Int) (p2x0 : Int) (p3x0 : Int) (fne : MarkS → MarkS → Option Int) (n39 : Int) (l47 : List MarkS) (c49 : Bool) : Option (List MarkS) :=
  if c49 = true then
    (lenOk l47.length (fun r : (List MarkS) => r.length) (self l47 p1x0 n39 (w64 (shrI .u64 (IntKind.u64.wrap (w64 (p1x0 + p3x0))) (1 : Int))) fne)).bind fun v51 =>
    slices_symMergeCmpFunc_Mark_j8 self p1x0 p2x0 p3x0 fne n39 v51
  else
    slices_symMergeCmpFunc_Mark_j8 self p1x0 p2x0 p3x0 fne n39 l47

noncomputable def slices_symMergeCmpFunc_Mark_j6 (self : (List MarkS) → Int → Int → Int → (MarkS → MarkS → Option Int) → Option (List MarkS)) (p1x0 : Int) (p2x0 : Int) (p3x0 : Int) (fne : MarkS → MarkS → Option Int) (n39 : Int) (l47 : List MarkS) : Option (List MarkS) :=
  slices_symMergeCmpFunc_Mark_j7 self p1x0 p2x0 p3x0 fne n39 l47 ((decide (p1x0 < n39)) && (decide (n39 < (w64 (shrI .u64 (IntKind.u64.wrap (w64 (p1x0 + p3x0))) (1 : Int))))))

noncomputable def slices_symMergeCmpFunc_Mark_j5 (self : (List MarkS) → Int → Int → Int → (MarkS → MarkS → Option Int) → Option (List MarkS)) (p0x0 : List MarkS) (p1x0 : Int) (p2x0 : Int) (p3x0 : Int) (fne : MarkS → MarkS → Option Int) (n39 : Int) (c46 : Bool) : Option (List MarkS) :=
  if c46 = true then
    (lenOk p0x0.length (fun r : (List MarkS) => r.length) (slices_rotateCmpFunc_Mark p0x0 n39 p2x0 (w64 ((w64 ((w64 (shrI .u64 (IntKind.u64.wrap (w64 (p1x0 + p3x0))) (1 : Int))) + p2x0)) - n39)) fne)).bind fun v48 =>
    slices_symMergeCmpFunc_Mark_j6 self p1x0 p2x0 p3x0 fne n39 v48
  else
    slices_symMergeCmpFunc_Mark_j6 self p1x0 p2x0 p3x0 fne n39 p0x0

noncomputable def slices_symMergeCmpFunc_Mark_b5 (self : (List MarkS) → Int → Int → Int → (MarkS → MarkS → Option Int) → Option (List MarkS)) (p0x0 : List MarkS) (p1x0 : Int) (p2x0 : Int) (p3x0 : Int) (fne : MarkS → MarkS → Option Int) (n39 : Int) (n40 : Int) : Option ((Int × Int) ⊕ (List MarkS)) :=
  if n39 < n40 then
    (idx p0x0 (w64 ((w64 ((w64 ((w64 (shrI .u64 (IntKind.u64.wrap (w64 (p1x0 + p3x0))) (1 : Int))) + p2x0)) - (1 : Int))) - (w64 (shrI .u64 (IntKind.u64.wrap (w64 (n39 + n40))) (1 : Int)))))).bind fun v41 =>
    (idx p0x0 (w64 (shrI .u64 (IntKind.u64.wrap (w64 (n39 + n40))) (1 : Int)))).bind fun v42 =>
    (fne v41 v42).bind fun v43 =>
    if ¬ (v43 < (0 : Int)) then
      slices_symMergeCmpFunc_Mark_j4 (w64 ((w64 (shrI .u64 (IntKind.u64.wrap (w64 (n39 + n40))) (1 : Int))) + (1 : Int))) n40
    else
      slices_symMergeCmpFunc_Mark_j4 n39 (w64 (shrI .u64 (IntKind.u64.wrap (w64 (n39 + n40))) (1 : Int)))
  else
    Option.map .inr (slices_symMergeCmpFunc_Mark_j5 self p0x0 p1x0 p2x0 p3x0 fne n39 ((decide (n39 < p2x0)) && (decide (p2x0 < (w64 ((w64 ((w64 (shrI .u64 (IntKind.u64.wrap (w64 (p1x0 + p3x0))) (1 : Int))) + p2x0)) - n39))))))

noncomputable def slices_symMergeCmpFunc_Mark_l5 (self : (List MarkS) → Int → Int → Int → (MarkS → MarkS → Option Int) → Option (List MarkS)) (p0x0 : List MarkS) (p1x0 : Int) (p2x0 : Int) (p3x0 : Int) (fne : MarkS → MarkS → Option Int) (n39 : Int) (n40 : Int) : Option (List MarkS) :=
  iter (fun x : Int × Int => slices_symMergeCmpFunc_Mark_b5 self p0x0 p1x0 p2x0 p3x0 fne x.1 x.2) (n39, n40)

noncomputable def slices_symMergeCmpFunc_Mark_j3 (self : (List MarkS) → Int → Int → Int → (MarkS → MarkS → Option Int) → Option (List MarkS)) (p0x0 : List MarkS) (p1x0 : Int) (p2x0 : Int) (p3x0 : Int) (fne : MarkS → MarkS → Option Int) (n35 : Int) (n36 : Int) : Option (List MarkS) :=
  slices_symMergeCmpFunc_Mark_l5 self p0x0 p1x0 p2x0 p3x0 fne n35 n36

noncomputable def slices_symMergeCmpFunc_Mark_bd (self : (List MarkS) → Int → Int → Int → (MarkS → MarkS → Option Int) → Option (List MarkS)) (p0x0 : List MarkS) (p1x0 : Int) (p2x0 : Int) (p3x0 : Int) (fne : MarkS → MarkS → Option Int) : Option (List MarkS) :=
  if (w64 (p2x0 - p1x0)) = (1 : Int) then
    slices_symMergeCmpFunc_Mark_l1 p0x0 p1x0 fne p2x0 p3x0
  else
    if (w64 (p3x0 - p2x0)) = (1 : Int) then
      slices_symMergeCmpFunc_Mark_l3 p0x0 p2x0 fne p1x0 p2x0
    else
      if (w64 (shrI .u64 (IntKind.u64.wrap (w64 (p1x0 + p3x0))) (1 : Int))) < p2x0 then
        slices_symMergeCmpFunc_Mark_j3 self p0x0 p1x0 p2x0 p3x0 fne (w64 ((w64 ((w64 (shrI .u64 (IntKind.u64.wrap (w64 (p1x0 + p3x0))) (1 : Int))) + p2x0)) - p3x0)) (w64 (shrI .u64 (IntKind.u64.wrap (w64 (p1x0 + p3x0))) (1 : Int)))
      else
        slices_symMergeCmpFunc_Mark_j3 self p0x0 p1x0 p2x0 p3x0 fne p1x0 p2x0

/-- The function, to some depth. -/
noncomputable def slices_symMergeCmpFunc_Mark_r : Nat → (List MarkS) → Int → Int → Int → (MarkS → MarkS → Option Int) → Option (List MarkS)
  | 0 => fun _ _ _ _ _ => none
  | k + 1 => slices_symMergeCmpFunc_Mark_bd (slices_symMergeCmpFunc_Mark_r k)

noncomputable def slices_symMergeCmpFunc_Mark (p0x0 : List MarkS) (p1x0 : Int) (p2x0 : Int) (p3x0 : Int) (fne : MarkS → MarkS → Option Int) : Option (List MarkS) :=
  slices_symMergeCmpFunc_Mark_r depth p0x0 p1x0 p2x0 p3x0 fne

noncomputable def slices_stableCmpFunc_Mark_j1 (n12 : Int) (l20 : List MarkS) : Option (((List MarkS) × Int) ⊕ (List MarkS)) :=
  some (.inl (l20, w64 (n12 * (2 : Int))))

noncomputable def slices_stableCmpFunc_Mark_k2 (p1x0 : Int) (fnc : MarkS → MarkS → Option Int) (n12 : Int) (l16 : List MarkS) (n17 : Int) : Option (((List MarkS) × Int) ⊕ (List MarkS)) :=
  if (w64 (n17 + n12)) < p1x0 then
    (lenOk l16.length (fun r : (List MarkS) => r.length) (slices_symMergeCmpFunc_Mark l16 n17 (w64 (n17 + n12)) p1x0 fnc)).bind fun v21 =>
    slices_stableCmpFunc_Mark_j1 n12 v21
  else
    slices_stableCmpFunc_Mark_j1 n12 l16

noncomputable def slices_stableCmpFunc_Mark_b3 (p1x0 : Int) (fnc : MarkS → MarkS → Option Int) (n12 : Int) (l16 : List MarkS) (n17 : Int) (n18 : Int) : Option (((List MarkS) × Int × Int) ⊕ (((List MarkS) × Int) ⊕ (List MarkS))) :=
  if n18 ≤ p1x0 then
    (lenOk l16.length (fun r : (List MarkS) => r.length) (slices_symMergeCmpFunc_Mark l16 n17 (w64 (n17 + n12)) n18 fnc)).bind fun v19 =>
    some (.inl (v19, n18, w64 (n18 + (w64 ((2 : Int) * n12)))))
  else
    Option.map .inr (slices_stableCmpFunc_Mark_k2 p1x0 fnc n12 l16 n17)

noncomputable def slices_stableCmpFunc_Mark_l3 (p1x0 : Int) (fnc : MarkS → MarkS → Option Int) (n12 : Int) (l16 : List MarkS) (n17 : Int) (n18 : Int) : Option (((List MarkS) × Int) ⊕ (List MarkS)) :=
  iter (fun x : (List MarkS) × Int × Int => slices_stableCmpFunc_Mark_b3 p1x0 fnc n12 x.1 x.2.1 x.2.2) (l16, n17, n18)

noncomputable def slices_stableCmpFunc_Mark_b2 (p1x0 : Int) (fnc : MarkS → MarkS → Option Int) (l11 : List MarkS) (n12 : Int) : Option (((List MarkS) × Int) ⊕ (List MarkS)) :=
  if n12 < p1x0 then
    slices_stableCmpFunc_Mark_l3 p1x0 fnc n12 l11 (0 : Int) (w64 ((2 : Int) * n12))
  else
    Option.map .inr (some l11)

noncomputable def slices_stableCmpFunc_Mark_l2 (p1x0 : Int) (fnc : MarkS → MarkS → Option Int) (l11 : List MarkS) (n12 : Int) : Option (List MarkS) :=
  iter (fun x : (List MarkS) × Int => slices_stableCmpFunc_Mark_b2 p1x0 fnc x.1 x.2) (l11, n12)

noncomputable def slices_stableCmpFunc_Mark_k3 (p1x0 : Int) (fnc : MarkS → MarkS → Option Int) (l4 : List MarkS) (n5 : Int) : Option (List MarkS) :=
  (lenOk l4.length (fun r : (List MarkS) => r.length) (slices_insertionSortCmpFunc_Mark l4 n5 p1x0 fnc)).bind fun v8 =>
  slices_stableCmpFunc_Mark_l2 p1x0 fnc v8 (20 : Int)

noncomputable def slices_stableCmpFunc_Mark_b1 (p1x0 : Int) (fnc : MarkS → MarkS → Option Int) (l4 : List MarkS) (n5 : Int) (n6 : Int) : Option (((List MarkS) × Int × Int) ⊕ (List MarkS)) :=
  if n6 ≤ p1x0 then
    (lenOk l4.length (fun r : (List MarkS) => r.length) (slices_insertionSortCmpFunc_Mark l4 n5 n6 fnc)).bind fun v7 =>
    some (.inl (v7, n6, w64 (n6 + (20 : Int))))
  else
    Option.map .inr (slices_stableCmpFunc_Mark_k3 p1x0 fnc l4 n5)

noncomputable def slices_stableCmpFunc_Mark_l1 (p1x0 : Int) (fnc : MarkS → MarkS → Option Int) (l4 : List MarkS) (n5 : Int) (n6 : Int) : Option (List MarkS) :=
  iter (fun x : (List MarkS) × Int × Int => slices_stableCmpFunc_Mark_b1 p1x0 fnc x.1 x.2.1 x.2.2) (l4, n5, n6)

noncomputable def slices_stableCmpFunc_Mark (p0x0 : List MarkS) (p1x0 : Int) (fnc : MarkS → MarkS → Option Int) : Option (List MarkS) :=
  slices_stableCmpFunc_Mark_l1 p1x0 fnc p0x0 (0 : Int) (20 : Int)

noncomputable def slices_SortStableFunc_Mark_Mark (p0x0 : List MarkS) (fnb : MarkS → MarkS → Option Int) : Option (List MarkS) :=
  (lenOk p0x0.length (fun r : (List MarkS) => r.length) (slices_stableCmpFunc_Mark p0x0 (p0x0.length : Int) fnb)).bind fun v1 =>
  some v1

noncomputable def Stream_Marks_1x (p0x0 : MarkS) (p1x0 : MarkS) : Bool :=
  decide ((Q_MarkOrder p0x0 p1x0) = (0 : Int))

noncomputable def slices_CompactFunc_Mark_Mark_j1 (n12 : Int) (l16 : List MarkS) (n17 : Int) : Option (((List MarkS) × Int × Int) ⊕ (Int ⊕ (List MarkS))) :=
  some (.inl (l16, n17, w64 (n12 + (1 : Int))))

noncomputable def slices_CompactFunc_Mark_Mark_k2 (l10 : List MarkS) (n11 : Int) : Option (Int ⊕ (List MarkS)) :=
  (slc l10 n11 (l10.length : Int)).bind fun l20 =>
  (slc (clr l10 n11 l20.length (⟨(0 : Int), [], (0 : Int), (⟨(0 : Int), (0 : Int), (0 : Int)⟩ : Version)⟩ : MarkS)) (0 : Int) n11).bind fun l21 =>
  Option.map .inr (some l21)

noncomputable def slices_CompactFunc_Mark_Mark_b2 (fnb : MarkS → MarkS → Option Bool) (n2 : Int) (l6 : List MarkS) (l10 : List MarkS) (n11 : Int) (n12 : Int) : Option (((List MarkS) × Int × Int) ⊕ (Int ⊕ (List MarkS))) :=
  if n12 < (l6.length : Int) then
    (idxS l10 n2 l6.length n12).bind fun v13 =>
    (idxS l10 n2 l6.length (w64 (n12 - (1 : Int)))).bind fun v14 =>
    (fnb v13 v14).bind fun v15 =>
    if (!v15) = true then
      (idxS l10 n2 l6.length n12).bind fun v18 =>
      (idx l10 n11).bind fun v19 =>
      slices_CompactFunc_Mark_Mark_j1 n12 (l10.set n11.toNat v18) (w64 (n11 + (1 : Int)))
    else
      slices_CompactFunc_Mark_Mark_j1 n12 l10 n11
  else
    Option.map .inr (slices_CompactFunc_Mark_Mark_k2 l10 n11)

noncomputable def slices_CompactFunc_Mark_Mark_l2 (fnb : MarkS → MarkS → Option Bool) (n2 : Int) (l6 : List MarkS) (l10 : List MarkS) (n11 : Int) (n12 : Int) : Option (Int ⊕ (List MarkS)) :=
  iter (fun x : (List MarkS) × Int × Int => slices_CompactFunc_Mark_Mark_b2 fnb n2 l6 x.1 x.2.1 x.2.2) (l10, n11, n12)

noncomputable def slices_CompactFunc_Mark_Mark_b1 (p0x0 : List MarkS) (fnb : MarkS → MarkS → Option Bool) (n2 : Int) : Option (Int ⊕ (List MarkS)) :=
  if n2 < (p0x0.length : Int) then
    (idx p0x0 n2).bind fun v3 =>
    (idx p0x0 (w64 (n2 - (1 : Int)))).bind fun v4 =>
    (fnb v3 v4).bind fun v5 =>
    if v5 = true then
      (slc p0x0 n2 (p0x0.length : Int)).bind fun l6 =>
      slices_CompactFunc_Mark_Mark_l2 fnb n2 l6 p0x0 n2 (1 : Int)
    else
      some (.inl (w64 (n2 + (1 : Int))))
  else
    Option.map .inr (some p0x0)

noncomputable def slices_CompactFunc_Mark_Mark_l1 (p0x0 : List MarkS) (fnb : MarkS → MarkS → Option Bool) (n2 : Int) : Option (List MarkS) :=
  iter (fun x : Int => slices_CompactFunc_Mark_Mark_b1 p0x0 fnb x) n2

noncomputable def slices_CompactFunc_Mark_Mark (p0x0 : List MarkS) (fnb : MarkS → MarkS → Option Bool) : Option (List MarkS) :=
  if (p0x0.length : Int) < (2 : Int) then
    some p0x0
  else
    slices_CompactFunc_Mark_Mark_l1 p0x0 fnb (1 : Int)

noncomputable def Stream_Marks_j4 (n50 : Int) (n53 : Int) (q54 : Str) (n55 : Int) (n56 : Int) (n57 : Int) (n58 : Int) : Option ((Int × Str × Int × Int × Int × Int × Int) ⊕ (((List Int) × Int × (List MarkS) × Int × Int) ⊕ ((List MarkS) × Fleetmake_Stream))) :=
  some (.inl (n53, q54, n55, n56, n57, n58, w64 (n50 + (1 : Int))))

noncomputable def Stream_Marks_j8 (l11 : List MarkS) (n12 : Int) (n13 : Int) (v15 : Int × Fleetmake_Stream) (n33 : Int) (n34 : Int) (n35 : Int) (l74 : List Int) (n75 : Int) (n76 : Int) (q77 : Str) (n78 : Int) : Option (((List Int) × Int × (List MarkS) × Int × Int) ⊕ ((List MarkS) × Fleetmake_Stream)) :=
  (app l11 [(⟨n76, q77, n78, (⟨n33, n34, n35⟩ : Version)⟩ : MarkS)]).bind fun l82 =>
  some (.inl (l74, n75, l82, w64 (n12 + v15.1), w64 (n13 + (1 : Int))))

noncomputable def Stream_Marks_j3 (l11 : List MarkS) (n12 : Int) (n13 : Int) (v15 : Int × Fleetmake_Stream) (q26 : Str) (l30 : List Int) (n31 : Int) (n32 : Int) (n33 : Int) (n34 : Int) (n35 : Int) : Option (((List Int) × Int × (List MarkS) × Int × Int) ⊕ ((List MarkS) × Fleetmake_Stream)) :=
  (Stream_Flip (⟨l30, n31⟩ : Fleetmake_Stream) (80 : Int)).bind fun v73 =>
  if v73.1 = true then
    (Stream_Odd v73.2 (0 : Int) (50 : Int)).bind fun v79 =>
    (Stream_Some v79.2 [([100, 49] : Str), ([] : Str)]).bind fun v80 =>
    (Stream_Odd v80.2 (1 : Int) (5 : Int)).bind fun v81 =>
    Stream_Marks_j8 l11 n12 n13 v15 n33 n34 n35 v81.2.L v81.2.at_ v79.1 v80.1 v81.1
  else
    Stream_Marks_j8 l11 n12 n13 v15 n33 n34 n35 v73.2.L v73.2.at_ (w64 (n12 + v15.1)) q26 n32

noncomputable def Stream_Marks_j5 (l11 : List MarkS) (n12 : Int) (n13 : Int) (v15 : Int × Fleetmake_Stream) (q26 : Str) (l59 : List Int) (n60 : Int) (n61 : Int) (n62 : Int) (n63 : Int) (n64 : Int) : Option (((List Int) × Int × (List MarkS) × Int × Int) ⊕ ((List MarkS) × Fleetmake_Stream)) :=
  Stream_Marks_j3 l11 n12 n13 v15 q26 l59 n60 n61 n62 n63 n64

noncomputable def Stream_Marks_j6 (l11 : List MarkS) (n12 : Int) (n13 : Int) (v15 : Int × Fleetmake_Stream) (q26 : Str) (l66 : List Int) (n67 : Int) (n68 : Int) (n69 : Int) (n70 : Int) (n71 : Int) : Option (((List Int) × Int × (List MarkS) × Int × Int) ⊕ ((List MarkS) × Fleetmake_Stream)) :=
  Stream_Marks_j5 l11 n12 n13 v15 q26 l66 n67 n68 n69 n70 n71

noncomputable def Stream_Marks_k7 (l11 : List MarkS) (n12 : Int) (n13 : Int) (v15 : Int × Fleetmake_Stream) (v18 : Int × Fleetmake_Stream) (q26 : Str) (v29 : Bool × Fleetmake_Stream) (n46 : Int) (n47 : Int) (n48 : Int) (n49 : Int) : Option (((List Int) × Int × (List MarkS) × Int × Int) ⊕ ((List MarkS) × Fleetmake_Stream)) :=
  if n46 = (1 : Int) then
    (Stream_Pick v29.2 [(2 : Int), (2 : Int), (2 : Int), (5 : Int)]).bind fun v65 =>
    Stream_Marks_j5 l11 n12 n13 v15 q26 v65.2.L v65.2.at_ v65.1 n47 n48 n49
  else
    if n46 = (2 : Int) then
      (Stream_Pick v29.2 [(3 : Int), (3 : Int), (4 : Int)]).bind fun v72 =>
      Stream_Marks_j6 l11 n12 n13 v15 q26 v72.2.L v72.2.at_ v72.1 n47 n48 n49
    else
      Stream_Marks_j6 l11 n12 n13 v15 q26 v29.2.L v29.2.at_ (1 : Int) ((whole v18.1).Major) ((whole v18.1).Minor) ((whole v18.1).Patch)

noncomputable def Stream_Marks_b2 (l11 : List MarkS) (n12 : Int) (n13 : Int) (v15 : Int × Fleetmake_Stream) (v18 : Int × Fleetmake_Stream) (q26 : Str) (v29 : Bool × Fleetmake_Stream) (n44 : Int) (q45 : Str) (n46 : Int) (n47 : Int) (n48 : Int) (n49 : Int) (n50 : Int) : Option ((Int × Str × Int × Int × Int × Int × Int) ⊕ (((List Int) × Int × (List MarkS) × Int × Int) ⊕ ((List MarkS) × Fleetmake_Stream))) :=
  if n50 < (l11.length : Int) then
    (idx l11 n50).bind fun v51 =>
    if v51.Device = q26 then
      Stream_Marks_j4 n50 v51.At v51.Device v51.Kind v51.Version.Major v51.Version.Minor v51.Version.Patch
    else
      Stream_Marks_j4 n50 n44 q45 n46 n47 n48 n49
  else
    Option.map .inr (Stream_Marks_k7 l11 n12 n13 v15 v18 q26 v29 n46 n47 n48 n49)

noncomputable def Stream_Marks_l2 (l11 : List MarkS) (n12 : Int) (n13 : Int) (v15 : Int × Fleetmake_Stream) (v18 : Int × Fleetmake_Stream) (q26 : Str) (v29 : Bool × Fleetmake_Stream) (n44 : Int) (q45 : Str) (n46 : Int) (n47 : Int) (n48 : Int) (n49 : Int) (n50 : Int) : Option (((List Int) × Int × (List MarkS) × Int × Int) ⊕ ((List MarkS) × Fleetmake_Stream)) :=
  iter (fun x : Int × Str × Int × Int × Int × Int × Int => Stream_Marks_b2 l11 n12 n13 v15 v18 q26 v29 x.1 x.2.1 x.2.2.1 x.2.2.2.1 x.2.2.2.2.1 x.2.2.2.2.2.1 x.2.2.2.2.2.2) (n44, q45, n46, n47, n48, n49, n50)

noncomputable def Stream_Marks_j2 (l11 : List MarkS) (n12 : Int) (n13 : Int) (v15 : Int × Fleetmake_Stream) (v17 : Int × Fleetmake_Stream) (v18 : Int × Fleetmake_Stream) (l24 : List Int) (n25 : Int) (q26 : Str) : Option (((List Int) × Int × (List MarkS) × Int × Int) ⊕ ((List MarkS) × Fleetmake_Stream)) :=
  (Stream_Flip (⟨l24, n25⟩ : Fleetmake_Stream) (5 : Int)).bind fun v29 =>
  if (!v29.1) = true then
    Stream_Marks_l2 l11 n12 n13 v15 v18 q26 v29 (0 : Int) [] (0 : Int) (0 : Int) (0 : Int) (0 : Int) (0 : Int)
  else
    Stream_Marks_j3 l11 n12 n13 v15 q26 v29.2.L v29.2.at_ v17.1 ((whole v18.1).Major) ((whole v18.1).Minor) ((whole v18.1).Patch)

noncomputable def Stream_Marks_j1 (p2x0 : List DeviceS) (l11 : List MarkS) (n12 : Int) (n13 : Int) (v15 : Int × Fleetmake_Stream) (v16 : Str × Fleetmake_Stream) (v17 : Int × Fleetmake_Stream) (v18 : Int × Fleetmake_Stream) (l20 : List Int) (n21 : Int) (c22 : Bool) : Option (((List Int) × Int × (List MarkS) × Int × Int) ⊕ ((List MarkS) × Fleetmake_Stream)) :=
  if c22 = true then
    (Stream_Next (⟨l20, n21⟩ : Fleetmake_Stream) (p2x0.length : Int)).bind fun v27 =>
    (idx p2x0 v27.1).bind fun v28 =>
    Stream_Marks_j2 l11 n12 n13 v15 v17 v18 v27.2.L v27.2.at_ v28.Key
  else
    Stream_Marks_j2 l11 n12 n13 v15 v17 v18 l20 n21 v16.1

noncomputable def Stream_Marks_k9 (l8 : List Int) (n9 : Int) (l11 : List MarkS) : Option ((List MarkS) × Fleetmake_Stream) :=
  (lenOk l11.length (fun r : (List MarkS) => r.length) (slices_SortStableFunc_Mark_Mark l11 (fun y0 y1 => some (Q_MarkOrder y0 y1)))).bind fun v84 =>
  (Stream_Flip (⟨l8, n9⟩ : Fleetmake_Stream) (60 : Int)).bind fun v85 =>
  if v85.1 = true then
    some (v84, v85.2)
  else
    (slices_CompactFunc_Mark_Mark v84 (fun y0 y1 => some (Stream_Marks_1x y0 y1))).bind fun v86 =>
    some (v86, v85.2)

noncomputable def Stream_Marks_b1 (p2x0 : List DeviceS) (p3x0 : Int) (l8 : List Int) (n9 : Int) (l11 : List MarkS) (n12 : Int) (n13 : Int) : Option (((List Int) × Int × (List MarkS) × Int × Int) ⊕ ((List MarkS) × Fleetmake_Stream)) :=
  if n13 < p3x0 then
    (Stream_Pick (⟨l8, n9⟩ : Fleetmake_Stream) [(0 : Int), (1 : Int), (5 : Int), (10 : Int), (10 : Int)]).bind fun v15 =>
    (Stream_Some v15.2 [([100, 49] : Str), ([100, 50] : Str), ([100, 51] : Str), ([100, 52] : Str), ([100, 53] : Str)]).bind fun v16 =>
    (Stream_Range v16.2 (1 : Int) (5 : Int)).bind fun v17 =>
    (Stream_Pick v17.2 [(2 : Int), (2 : Int), (3 : Int), (4 : Int)]).bind fun v18 =>
    if (0 : Int) < (p2x0.length : Int) then
      (Stream_Flip v18.2 (12 : Int)).bind fun v23 =>
      Stream_Marks_j1 p2x0 l11 n12 n13 v15 v16 v17 v18 v23.2.L v23.2.at_ (!v23.1)
    else
      Stream_Marks_j1 p2x0 l11 n12 n13 v15 v16 v17 v18 v18.2.L v18.2.at_ false
  else
    Option.map .inr (Stream_Marks_k9 l8 n9 l11)

noncomputable def Stream_Marks_l1 (p2x0 : List DeviceS) (p3x0 : Int) (l8 : List Int) (n9 : Int) (l11 : List MarkS) (n12 : Int) (n13 : Int) : Option ((List MarkS) × Fleetmake_Stream) :=
  iter (fun x : (List Int) × Int × (List MarkS) × Int × Int => Stream_Marks_b1 p2x0 p3x0 x.1 x.2.1 x.2.2.1 x.2.2.2.1 x.2.2.2.2) (l8, n9, l11, n12, n13)

noncomputable def Stream_Marks (p0x0 : Fleetmake_Stream) (p1x0 : Campaign) (p2x0 : List DeviceS) (p3x0 : Int) : Option ((List MarkS) × Fleetmake_Stream) :=
  Stream_Marks_l1 p2x0 p3x0 p0x0.L p0x0.at_ [] p1x0.At (0 : Int)

noncomputable def base_Key_j2 (n5 : Int) (c7 : Bool) : Option (Int ⊕ Bool) :=
  if c7 = true then
    Option.map .inr (some false)
  else
    some (.inl (w64 (n5 + (1 : Int))))

noncomputable def base_Key_b1 (p0x0 : Str) (n5 : Int) : Option (Int ⊕ Bool) :=
  if n5 < (p0x0.length : Int) then
    (idx p0x0 n5).bind fun c6 =>
    base_Key_j2 n5 (if (97 : Int) ≤ (c6.toNat : Int) then if (c6.toNat : Int) ≤ (122 : Int) then !true else if (48 : Int) ≤ (c6.toNat : Int) then if (c6.toNat : Int) ≤ (57 : Int) then !true else if (c6.toNat : Int) = (45 : Int) then !true else decide (¬ ((c6.toNat : Int) = (95 : Int))) else if (c6.toNat : Int) = (45 : Int) then !true else decide (¬ ((c6.toNat : Int) = (95 : Int))) else if (48 : Int) ≤ (c6.toNat : Int) then if (c6.toNat : Int) ≤ (57 : Int) then !true else if (c6.toNat : Int) = (45 : Int) then !true else decide (¬ ((c6.toNat : Int) = (95 : Int))) else if (c6.toNat : Int) = (45 : Int) then !true else decide (¬ ((c6.toNat : Int) = (95 : Int))))
  else
    Option.map .inr (some true)

noncomputable def base_Key_l1 (p0x0 : Str) (n5 : Int) : Option Bool :=
  iter (fun x : Int => base_Key_b1 p0x0 x) n5

noncomputable def base_Key_j1 (p0x0 : Str) (c1 : Bool) : Option Bool :=
  if c1 = true then
    some false
  else
    base_Key_l1 p0x0 (0 : Int)

noncomputable def base_Key (p0x0 : Str) : Option Bool :=
  if p0x0 = ([] : Str) then
    base_Key_j1 p0x0 true
  else
    if (40 : Int) < (p0x0.length : Int) then
      base_Key_j1 p0x0 true
    else
      (idx p0x0 (0 : Int)).bind fun c2 =>
      if (c2.toNat : Int) < (97 : Int) then
        base_Key_j1 p0x0 true
      else
        (idx p0x0 (0 : Int)).bind fun c3 =>
        base_Key_j1 p0x0 (decide ((122 : Int) < (c3.toNat : Int)))

noncomputable def base_Out_j1 (c1 : Bool) : Bool :=
  c1

noncomputable def base_Out (p0x0 : Int) (p1x0 : Int) (p2x0 : Int) : Bool :=
  base_Out_j1 ((decide (p0x0 < p1x0)) || (decide (p2x0 < p0x0)))

noncomputable def base_Version_j1 (c2 : Bool) : Bool :=
  c2

noncomputable def base_Version (p0x0 : Version) : Bool :=
  base_Version_j1 ((!(base_Out p0x0.Major (0 : Int) (9999 : Int))) && ((!(base_Out p0x0.Minor (0 : Int) (9999 : Int))) && (!(base_Out p0x0.Patch (0 : Int) (9999 : Int)))))

noncomputable def base_Moment (p0x0 : Int) : Bool :=
  !(base_Out p0x0 (0 : Int) (345686399999 : Int))

noncomputable def campaign_CheckCampaign_j2 (n6 : Int) (n7 : Int) (v8 : Wave) (c10 : Bool) : Option ((Int × Int) ⊕ Int) :=
  if c10 = true then
    Option.map .inr (some (1 : Int))
  else
    some (.inl (w64 (n6 + v8.Part), w64 (n7 + (1 : Int))))

noncomputable def campaign_CheckCampaign_j3 (c11 : Bool) : Option Int :=
  if c11 = true then
    some (1 : Int)
  else
    some (0 : Int)

noncomputable def campaign_CheckCampaign_k4 (p0x0 : Campaign) (n6 : Int) : Option Int :=
  if n6 ≠ (1000 : Int) then
    some (15 : Int)
  else
    campaign_CheckCampaign_j3 ((base_Out p0x0.Hours.From (0 : Int) (86400000 : Int)) || ((base_Out p0x0.Hours.To (0 : Int) (86400000 : Int)) || (base_Out p0x0.Room (1 : Int) (500 : Int))))

noncomputable def campaign_CheckCampaign_b1 (p0x0 : Campaign) (n6 : Int) (n7 : Int) : Option ((Int × Int) ⊕ Int) :=
  if n7 < (p0x0.Waves.length : Int) then
    (idx p0x0.Waves n7).bind fun v8 =>
    campaign_CheckCampaign_j2 n6 n7 v8 ((base_Out v8.Part (1 : Int) (1000 : Int)) || ((base_Out v8.Wait (0 : Int) (2592000000 : Int)) || ((base_Out v8.Least (1 : Int) (500 : Int)) || (base_Out v8.Fails (0 : Int) (1000 : Int)))))
  else
    Option.map .inr (campaign_CheckCampaign_k4 p0x0 n6)

noncomputable def campaign_CheckCampaign_l1 (p0x0 : Campaign) (n6 : Int) (n7 : Int) : Option Int :=
  iter (fun x : Int × Int => campaign_CheckCampaign_b1 p0x0 x.1 x.2) (n6, n7)

noncomputable def campaign_CheckCampaign_j1 (p0x0 : Campaign) (c3 : Bool) : Option Int :=
  if c3 = true then
    some (1 : Int)
  else
    if (p0x0.Waves.length : Int) = (0 : Int) then
      some (3 : Int)
    else
      if (20 : Int) < (p0x0.Waves.length : Int) then
        some (2 : Int)
      else
        campaign_CheckCampaign_l1 p0x0 (0 : Int) (0 : Int)

noncomputable def campaign_CheckCampaign (p0x0 : Campaign) : Option Int :=
  (base_Key p0x0.Key).bind fun v2 =>
  if (!v2) = true then
    some (5 : Int)
  else
    campaign_CheckCampaign_j1 p0x0 ((!(base_Version p0x0.Target)) || (!(base_Moment p0x0.At)))

noncomputable def campaign_CheckFleet_j2 (n2 : Int) (v3 : DeviceS) (c9 : Bool) : Option (Int ⊕ Int) :=
  if c9 = true then
    Option.map .inr (some (7 : Int))
  else
    if (!(base_Version v3.Firmware)) = true then
      Option.map .inr (some (1 : Int))
    else
      if (20 : Int) < (v3.Tags.length : Int) then
        Option.map .inr (some (2 : Int))
      else
        some (.inl (w64 (n2 + (1 : Int))))

noncomputable def campaign_CheckFleet_j1 (p0x0 : List DeviceS) (n2 : Int) (v3 : DeviceS) (c5 : Bool) : Option (Int ⊕ Int) :=
  if c5 = true then
    Option.map .inr (some (5 : Int))
  else
    if (0 : Int) < n2 then
      (idx p0x0 (w64 (n2 - (1 : Int)))).bind fun v10 =>
      campaign_CheckFleet_j2 n2 v3 (Op.bytesLess v3.Key v10.Key || v3.Key == v10.Key)
    else
      campaign_CheckFleet_j2 n2 v3 false

noncomputable def campaign_CheckFleet_b1 (p0x0 : List DeviceS) (n2 : Int) : Option (Int ⊕ Int) :=
  if n2 < (p0x0.length : Int) then
    (idx p0x0 n2).bind fun v3 =>
    (base_Key v3.Key).bind fun v6 =>
    if (!v6) = true then
      campaign_CheckFleet_j1 p0x0 n2 v3 true
    else
      (base_Key v3.Model).bind fun v7 =>
      if (!v7) = true then
        campaign_CheckFleet_j1 p0x0 n2 v3 true
      else
        (base_Key v3.Tenant).bind fun v8 =>
        campaign_CheckFleet_j1 p0x0 n2 v3 (!v8)
  else
    Option.map .inr (some (0 : Int))

noncomputable def campaign_CheckFleet_l1 (p0x0 : List DeviceS) (n2 : Int) : Option Int :=
  iter (fun x : Int => campaign_CheckFleet_b1 p0x0 x) n2

noncomputable def campaign_CheckFleet (p0x0 : List DeviceS) : Option Int :=
  if (500 : Int) < (p0x0.length : Int) then
    some (2 : Int)
  else
    campaign_CheckFleet_l1 p0x0 (0 : Int)

noncomputable def cmp_isNaN_int (p0x0 : Int) : Bool :=
  decide (p0x0 ≠ p0x0)

noncomputable def cmp_Compare_int (p0x0 : Int) (p1x0 : Int) : Int :=
  if (cmp_isNaN_int p0x0) = true then
    if (cmp_isNaN_int p1x0) = true then
      (0 : Int)
    else
      (-1 : Int)
  else
    if (cmp_isNaN_int p1x0) = true then
      (1 : Int)
    else
      if p0x0 < p1x0 then
        (-1 : Int)
      else
        if p1x0 < p0x0 then
          (1 : Int)
        else
          (0 : Int)

noncomputable def cmp_Or_int_b1 (p0x0 : List Int) (n2 : Int) : Option (Int ⊕ Int) :=
  if n2 < (p0x0.length : Int) then
    (idx p0x0 n2).bind fun v3 =>
    if v3 ≠ (0 : Int) then
      Option.map .inr (some v3)
    else
      some (.inl (w64 (n2 + (1 : Int))))
  else
    Option.map .inr (some (0 : Int))

noncomputable def cmp_Or_int_l1 (p0x0 : List Int) (n2 : Int) : Option Int :=
  iter (fun x : Int => cmp_Or_int_b1 p0x0 x) n2

noncomputable def cmp_Or_int (p0x0 : List Int) : Option Int :=
  cmp_Or_int_l1 p0x0 (0 : Int)

noncomputable def campaign_byMoment (p0x0 : MarkS) (p1x0 : MarkS) : Option Int :=
  (cmp_Or_int [(cmp_Compare_int p0x0.At p1x0.At), (Lib.compareBytes p0x0.Device p1x0.Device)]).bind fun v3 =>
  some v3

noncomputable def campaign_CheckMarks_j1 (n2 : Int) (c6 : Bool) : Option (Int ⊕ Int) :=
  if c6 = true then
    Option.map .inr (some (7 : Int))
  else
    some (.inl (w64 (n2 + (1 : Int))))

noncomputable def campaign_CheckMarks_b1 (p0x0 : List MarkS) (n2 : Int) : Option (Int ⊕ Int) :=
  if n2 < (p0x0.length : Int) then
    (idx p0x0 n2).bind fun v3 =>
    if (!(base_Moment v3.At)) = true then
      Option.map .inr (some (1 : Int))
    else
      (base_Key v3.Device).bind fun v5 =>
      if (!v5) = true then
        Option.map .inr (some (5 : Int))
      else
        if (base_Out v3.Kind (1 : Int) (5 : Int)) = true then
          Option.map .inr (some (4 : Int))
        else
          if (!(base_Version v3.Version)) = true then
            Option.map .inr (some (1 : Int))
          else
            if (0 : Int) < n2 then
              (idx p0x0 (w64 (n2 - (1 : Int)))).bind fun v7 =>
              (campaign_byMoment v3 v7).bind fun v8 =>
              campaign_CheckMarks_j1 n2 (decide (v8 ≤ (0 : Int)))
            else
              campaign_CheckMarks_j1 n2 false
  else
    Option.map .inr (some (0 : Int))

noncomputable def campaign_CheckMarks_l1 (p0x0 : List MarkS) (n2 : Int) : Option Int :=
  iter (fun x : Int => campaign_CheckMarks_b1 p0x0 x) n2

noncomputable def campaign_CheckMarks (p0x0 : List MarkS) : Option Int :=
  if (3000 : Int) < (p0x0.length : Int) then
    some (2 : Int)
  else
    campaign_CheckMarks_l1 p0x0 (0 : Int)

noncomputable def base_First_b1 (p0x0 : List Int) (n2 : Int) : Option (Int ⊕ Int) :=
  if n2 < (p0x0.length : Int) then
    (idx p0x0 n2).bind fun v3 =>
    if v3 ≠ (0 : Int) then
      Option.map .inr (some v3)
    else
      some (.inl (w64 (n2 + (1 : Int))))
  else
    Option.map .inr (some (0 : Int))

noncomputable def base_First_l1 (p0x0 : List Int) (n2 : Int) : Option Int :=
  iter (fun x : Int => base_First_b1 p0x0 x) n2

noncomputable def base_First (p0x0 : List Int) : Option Int :=
  base_First_l1 p0x0 (0 : Int)

noncomputable def campaign_fault_j2 (n6 : Int) : Option Int :=
  some n6

noncomputable def campaign_fault_j1 (v4 : Int) (c5 : Bool) : Option Int :=
  if c5 = true then
    campaign_fault_j2 (1 : Int)
  else
    campaign_fault_j2 v4

noncomputable def campaign_fault (p0x0 : Campaign) (p1x0 : List DeviceS) (p2x0 : List MarkS) (p3x0 : Int) : Option Int :=
  (campaign_CheckCampaign p0x0).bind fun v1 =>
  (campaign_CheckFleet p1x0).bind fun v2 =>
  (campaign_CheckMarks p2x0).bind fun v3 =>
  (base_First [v1, v2, v3]).bind fun v4 =>
  campaign_fault_j1 v4 ((decide (v4 = (0 : Int))) && (!(base_Moment p3x0)))

noncomputable def base_Hash_b2 (n4 : Int) (v5 : Str) (n9 : Int) (n10 : Int) : Option ((Int × Int) ⊕ ((Int × Int) ⊕ Int)) :=
  if n10 < (v5.length : Int) then
    (idx v5 n10).bind fun c11 =>
    some (.inl (IntKind.u64.wrap ((xorI .u64 n9 (IntKind.u64.wrap ((c11.toNat : Int)))) * (1099511628211 : Int)), w64 (n10 + (1 : Int))))
  else
    Option.map .inr (some (.inl (n9, w64 (n4 + (1 : Int)))))

noncomputable def base_Hash_l2 (n4 : Int) (v5 : Str) (n9 : Int) (n10 : Int) : Option ((Int × Int) ⊕ Int) :=
  iter (fun x : Int × Int => base_Hash_b2 n4 v5 x.1 x.2) (n9, n10)

noncomputable def base_Hash_j1 (n4 : Int) (v5 : Str) (n6 : Int) : Option ((Int × Int) ⊕ Int) :=
  base_Hash_l2 n4 v5 n6 (0 : Int)

noncomputable def base_Hash_b1 (p0x0 : List Str) (n3 : Int) (n4 : Int) : Option ((Int × Int) ⊕ Int) :=
  if n4 < (p0x0.length : Int) then
    (idx p0x0 n4).bind fun v5 =>
    if (0 : Int) < n4 then
      base_Hash_j1 n4 v5 (IntKind.u64.wrap (n3 * (1099511628211 : Int)))
    else
      base_Hash_j1 n4 v5 n3
  else
    Option.map .inr (some n3)

noncomputable def base_Hash_l1 (p0x0 : List Str) (n3 : Int) (n4 : Int) : Option Int :=
  iter (fun x : Int × Int => base_Hash_b1 p0x0 x.1 x.2) (n3, n4)

noncomputable def base_Hash (p0x0 : List Str) : Option Int :=
  base_Hash_l1 p0x0 (14695981039346656037 : Int) (0 : Int)

noncomputable def campaign_lot (p0x0 : Campaign) (p1x0 : Str) : Option Int :=
  (base_Hash [p0x0.Key, p1x0]).bind fun v1 =>
  some (w64 ((xorI .u64 v1 (shrI .u64 v1 (32 : Int))).tmod (1000 : Int)))

noncomputable def campaign_waveOf_b1 (p0x0 : Campaign) (v1 : Int) (n4 : Int) (n5 : Int) : Option ((Int × Int) ⊕ Int) :=
  if n5 < (p0x0.Waves.length : Int) then
    (idx p0x0.Waves n5).bind fun v6 =>
    if v1 < (w64 (n4 + v6.Part)) then
      Option.map .inr (some n5)
    else
      some (.inl (w64 (n4 + v6.Part), w64 (n5 + (1 : Int))))
  else
    Option.map .inr (some (w64 ((p0x0.Waves.length : Int) - (1 : Int))))

noncomputable def campaign_waveOf_l1 (p0x0 : Campaign) (v1 : Int) (n4 : Int) (n5 : Int) : Option Int :=
  iter (fun x : Int × Int => campaign_waveOf_b1 p0x0 v1 x.1 x.2) (n4, n5)

noncomputable def campaign_waveOf (p0x0 : Campaign) (p1x0 : Str) : Option Int :=
  (campaign_lot p0x0 p1x0).bind fun v1 =>
  campaign_waveOf_l1 p0x0 v1 (0 : Int) (0 : Int)

noncomputable def campaign_state_ready (p0x0 : Campaign_state) (p1x0 : Campaign_course) : Bool :=
  decide (p1x0.Standing.Version = p0x0.c_.Target)

noncomputable def campaign_newState_j1 (l20 : List Campaign_course) (l23 : List (Str × Int)) (l24 : List (Str × Int)) (n26 : Int) (v27 : DeviceS) (v33 : Int) (l35 : List Int) : Option (((List Campaign_course) × (List (Str × Int)) × (List (Str × Int)) × (List Int) × Int) ⊕ Campaign_state) :=
  some (.inl (l20 ++ [(⟨(⟨(0 : Int), (0 : Int), v27.Firmware, (0 : Int)⟩ : Standing), (⟨(0 : Int), (0 : Int), (0 : Int)⟩ : Version)⟩ : Campaign_course)], mset l23 v27.Key (l20.length : Int), mset l24 v27.Key v33, l35, w64 (n26 + (1 : Int))))

noncomputable def campaign_newState_b1 (p0x0 : Campaign) (p1x0 : List DeviceS) (l8 : List Int) (l10 : List Int) (l20 : List Campaign_course) (l23 : List (Str × Int)) (l24 : List (Str × Int)) (l25 : List Int) (n26 : Int) : Option (((List Campaign_course) × (List (Str × Int)) × (List (Str × Int)) × (List Int) × Int) ⊕ Campaign_state) :=
  if n26 < (p1x0.length : Int) then
    (idx p1x0 n26).bind fun v27 =>
    (inB l20.length (l23.map Prod.snd)).bind fun u30 =>
    (campaign_waveOf p0x0 v27.Key).bind fun v33 =>
    (mgetO l24 v27.Key (0 : Int)).bind fun v34 =>
    if (!(campaign_state_ready (⟨p0x0, mset l23 v27.Key (l20.length : Int), mset l24 v27.Key v33, l25, l8, l10, [], (-1 : Int), p0x0.At, l20 ++ [(⟨(⟨(0 : Int), (0 : Int), v27.Firmware, (0 : Int)⟩ : Standing), (⟨(0 : Int), (0 : Int), (0 : Int)⟩ : Version)⟩ : Campaign_course)]⟩ : Campaign_state) (⟨(⟨(0 : Int), (0 : Int), v27.Firmware, (0 : Int)⟩ : Standing), (⟨(0 : Int), (0 : Int), (0 : Int)⟩ : Version)⟩ : Campaign_course))) = true then
      (mgetO (mset l24 v27.Key v33) v27.Key (0 : Int)).bind fun v36 =>
      (idx l25 v36).bind fun v37 =>
      (idx l25 v36).bind fun v38 =>
      campaign_newState_j1 l20 l23 l24 n26 v27 v33 (l25.set v36.toNat (w64 (v37 + (1 : Int))))
    else
      campaign_newState_j1 l20 l23 l24 n26 v27 v33 l25
  else
    Option.map .inr (some (⟨p0x0, l23, l24, l25, l8, l10, [], (-1 : Int), p0x0.At, l20⟩ : Campaign_state))

noncomputable def campaign_newState_l1 (p0x0 : Campaign) (p1x0 : List DeviceS) (l8 : List Int) (l10 : List Int) (l20 : List Campaign_course) (l23 : List (Str × Int)) (l24 : List (Str × Int)) (l25 : List Int) (n26 : Int) : Option Campaign_state :=
  iter (fun x : (List Campaign_course) × (List (Str × Int)) × (List (Str × Int)) × (List Int) × Int => campaign_newState_b1 p0x0 p1x0 l8 l10 x.1 x.2.1 x.2.2.1 x.2.2.2.1 x.2.2.2.2) (l20, l23, l24, l25, n26)

noncomputable def campaign_newState (p0x0 : Campaign) (p1x0 : List DeviceS) : Option Campaign_state :=
  (mkS (0 : Int) (p0x0.Waves.length : Int) (p0x0.Waves.length : Int)).bind fun l6 =>
  (mkS (0 : Int) (p0x0.Waves.length : Int) (p0x0.Waves.length : Int)).bind fun l8 =>
  (mkS (0 : Int) (p0x0.Waves.length : Int) (p0x0.Waves.length : Int)).bind fun l10 =>
  campaign_newState_l1 p0x0 p1x0 l8 l10 [] [] [] l6 (0 : Int)

noncomputable def campaign_state_begin_j5 (l13 : List Int) (n17 : Int) : Option (((List Int) × Int) ⊕ Campaign_state) :=
  some (.inl (l13, n17))

noncomputable def campaign_state_begin_j4 (p0x0 : Campaign_state) (l5 : List Int) (n10 : Int) (l13 : List Int) (c15 : Bool) : Option (((List Int) × Int) ⊕ Campaign_state) :=
  if c15 = true then
    (idx p0x0.c_.Waves (w64 ((l5.length : Int) + (1 : Int)))).bind fun v18 =>
    campaign_state_begin_j5 l13 (w64 (n10 + v18.Wait))
  else
    campaign_state_begin_j5 l13 (-1 : Int)

noncomputable def campaign_state_begin_j3 (p0x0 : Campaign_state) (l5 : List Int) (n10 : Int) (c12 : Bool) : Option (((List Int) × Int) ⊕ Campaign_state) :=
  if c12 = true then
    Option.map .inr (some (⟨p0x0.c_, p0x0.of_, p0x0.wave_, p0x0.open_, p0x0.ends_, p0x0.fails_, l5, p0x0.stopped_, n10, p0x0.ar0⟩ : Campaign_state))
  else
    (app l5 [n10]).bind fun l13 =>
    if (w64 ((l5.length : Int) + (1 : Int))) < (p0x0.c_.Waves.length : Int) then
      (idx p0x0.open_ (l5.length : Int)).bind fun v16 =>
      campaign_state_begin_j4 p0x0 l5 n10 l13 (decide (v16 = (0 : Int)))
    else
      campaign_state_begin_j4 p0x0 l5 n10 l13 false

noncomputable def campaign_state_begin_j2 (p0x0 : Campaign_state) (p1x0 : Int) (l5 : List Int) (n10 : Int) : Option (((List Int) × Int) ⊕ Campaign_state) :=
  campaign_state_begin_j3 p0x0 l5 n10 ((decide (n10 < (0 : Int))) || ((decide (p1x0 < n10)) || ((decide ((0 : Int) < (l5.length : Int))) && ((decide ((0 : Int) ≤ p0x0.stopped_)) && (decide (p0x0.stopped_ ≤ n10))))))

noncomputable def campaign_state_begin_j1 (p0x0 : Campaign_state) (p1x0 : Int) (l5 : List Int) (n6 : Int) (c7 : Bool) : Option (((List Int) × Int) ⊕ Campaign_state) :=
  if c7 = true then
    (idx p0x0.c_.Waves (l5.length : Int)).bind fun v11 =>
    campaign_state_begin_j2 p0x0 p1x0 l5 (w64 (p1x0 + v11.Wait))
  else
    campaign_state_begin_j2 p0x0 p1x0 l5 n6

noncomputable def campaign_state_begin_b1 (p0x0 : Campaign_state) (p1x0 : Int) (l5 : List Int) (n6 : Int) : Option (((List Int) × Int) ⊕ Campaign_state) :=
  if n6 < (0 : Int) then
    if (0 : Int) < (l5.length : Int) then
      if (l5.length : Int) < (p0x0.c_.Waves.length : Int) then
        (idx p0x0.open_ (w64 ((l5.length : Int) - (1 : Int)))).bind fun v8 =>
        if v8 = (0 : Int) then
          (idx l5 (w64 ((l5.length : Int) - (1 : Int)))).bind fun v9 =>
          campaign_state_begin_j1 p0x0 p1x0 l5 n6 (decide (v9 ≤ p1x0))
        else
          campaign_state_begin_j1 p0x0 p1x0 l5 n6 false
      else
        campaign_state_begin_j1 p0x0 p1x0 l5 n6 false
    else
      campaign_state_begin_j1 p0x0 p1x0 l5 n6 false
  else
    campaign_state_begin_j1 p0x0 p1x0 l5 n6 false

noncomputable def campaign_state_begin_l1 (p0x0 : Campaign_state) (p1x0 : Int) (l5 : List Int) (n6 : Int) : Option Campaign_state :=
  iter (fun x : (List Int) × Int => campaign_state_begin_b1 p0x0 p1x0 x.1 x.2) (l5, n6)

noncomputable def campaign_state_begin (p0x0 : Campaign_state) (p1x0 : Int) : Option Campaign_state :=
  campaign_state_begin_l1 p0x0 p1x0 p0x0.begins_ p0x0.next_

noncomputable def campaign_state_out_j1 (c1 : Bool) : Bool :=
  c1

noncomputable def campaign_state_out (p0x0 : Campaign_state) (p1x0 : Campaign_course) : Bool :=
  campaign_state_out_j1 ((!(campaign_state_ready p0x0 p1x0)) && ((decide ((3 : Int) ≤ p1x0.Standing.Fails)) || (decide (p1x0.Standing.Kind = (5 : Int)))))

noncomputable def campaign_course_follow_j7 (p1x0 : MarkS) (n8 : Int) (n9 : Int) (n10 : Int) (n11 : Int) : Bool × Campaign_course :=
  (true, (⟨(⟨p1x0.Kind, p1x0.At, (⟨n8, n9, n10⟩ : Version), n11⟩ : Standing), p1x0.Version⟩ : Campaign_course))

noncomputable def campaign_course_follow_j8 (p0x0 : Campaign_course) (p1x0 : MarkS) (n12 : Int) : Bool × Campaign_course :=
  campaign_course_follow_j7 p1x0 p0x0.Standing.Version.Major p0x0.Standing.Version.Minor p0x0.Standing.Version.Patch n12

noncomputable def campaign_course_follow_j1 (p0x0 : Campaign_course) (p1x0 : MarkS) (c2 : Bool) : Bool × Campaign_course :=
  if (!c2) = true then
    (false, p0x0)
  else
    if p1x0.Kind = (3 : Int) then
      campaign_course_follow_j7 p1x0 p1x0.Version.Major p1x0.Version.Minor p1x0.Version.Patch p0x0.Standing.Fails
    else
      if p1x0.Kind = (4 : Int) then
        campaign_course_follow_j8 p0x0 p1x0 (w64 (p0x0.Standing.Fails + (1 : Int)))
      else
        campaign_course_follow_j8 p0x0 p1x0 p0x0.Standing.Fails

noncomputable def campaign_course_follow_j2 (p0x0 : Campaign_course) (p1x0 : MarkS) (c3 : Bool) : Bool × Campaign_course :=
  campaign_course_follow_j1 p0x0 p1x0 c3

noncomputable def campaign_course_follow_j4 (p0x0 : Campaign_course) (p1x0 : MarkS) (c5 : Bool) : Bool × Campaign_course :=
  campaign_course_follow_j1 p0x0 p1x0 c5

noncomputable def campaign_course_follow_j5 (p0x0 : Campaign_course) (p1x0 : MarkS) (c6 : Bool) : Bool × Campaign_course :=
  campaign_course_follow_j4 p0x0 p1x0 c6

noncomputable def campaign_course_follow_j6 (p0x0 : Campaign_course) (p1x0 : MarkS) (c7 : Bool) : Bool × Campaign_course :=
  campaign_course_follow_j4 p0x0 p1x0 c7

noncomputable def campaign_course_follow_j3 (p0x0 : Campaign_course) (p1x0 : MarkS) (c4 : Bool) : Bool × Campaign_course :=
  if c4 = true then
    campaign_course_follow_j5 p0x0 p1x0 ((decide (p0x0.Standing.Kind = (1 : Int))) && (decide (p1x0.Version = p0x0.offered_)))
  else
    campaign_course_follow_j6 p0x0 p1x0 ((decide (p0x0.Standing.Kind = (2 : Int))) && (decide (p1x0.Version = p0x0.offered_)))

noncomputable def campaign_course_follow (p0x0 : Campaign_course) (p1x0 : MarkS) : Bool × Campaign_course :=
  if p1x0.Kind = (1 : Int) then
    campaign_course_follow_j2 p0x0 p1x0 ((decide (p0x0.Standing.Kind = (0 : Int))) || ((decide (p0x0.Standing.Kind = (3 : Int))) || (decide (p0x0.Standing.Kind = (4 : Int)))))
  else
    if p1x0.Kind = (2 : Int) then
      campaign_course_follow_j3 p0x0 p1x0 (decide (p1x0.Kind = (2 : Int)))
    else
      campaign_course_follow_j3 p0x0 p1x0 (decide (p1x0.Kind = (5 : Int)))

noncomputable def campaign_state_mark_j1 (p0x0 : Campaign_state) (p1x0 : MarkS) (c3 : Bool) : Option Campaign_state :=
  if c3 = true then
    some p0x0
  else
    (mgetO p0x0.wave_ p1x0.Device (0 : Int)).bind fun v4 =>
    none

noncomputable def campaign_state_mark_j10 (p0x0 : Campaign_state) (p1x0 : MarkS) (n2 : Int) (v6 : Int) (v9 : Campaign_course) (l12 : List Int) (v19 : Int) (l21 : List Int) (n30 : Int) : Option Campaign_state :=
  some (⟨p0x0.c_, p0x0.of_, p0x0.wave_, l12, p0x0.ends_.set v6.toNat (w64 (v19 + (1 : Int))), l21, p0x0.begins_, n30, p0x0.next_, p0x0.ar0.set n2.toNat ((campaign_course_follow v9 p1x0).2)⟩ : Campaign_state)

noncomputable def campaign_state_mark_j9 (p0x0 : Campaign_state) (p1x0 : MarkS) (n2 : Int) (v6 : Int) (v9 : Campaign_course) (l12 : List Int) (v19 : Int) (l21 : List Int) (c26 : Bool) : Option Campaign_state :=
  if c26 = true then
    campaign_state_mark_j10 p0x0 p1x0 n2 v6 v9 l12 v19 l21 p1x0.At
  else
    campaign_state_mark_j10 p0x0 p1x0 n2 v6 v9 l12 v19 l21 p0x0.stopped_

noncomputable def campaign_state_mark_j8 (p0x0 : Campaign_state) (p1x0 : MarkS) (n2 : Int) (v6 : Int) (v9 : Campaign_course) (l12 : List Int) (v19 : Int) (l21 : List Int) : Option Campaign_state :=
  (idx p0x0.c_.Waves v6).bind fun v24 =>
  if p0x0.stopped_ < (0 : Int) then
    (idx (p0x0.ends_.set v6.toNat (w64 (v19 + (1 : Int)))) v6).bind fun v27 =>
    if v24.Least ≤ v27 then
      (idx l21 v6).bind fun v28 =>
      (idx (p0x0.ends_.set v6.toNat (w64 (v19 + (1 : Int)))) v6).bind fun v29 =>
      campaign_state_mark_j9 p0x0 p1x0 n2 v6 v9 l12 v19 l21 (decide ((w64 (v24.Fails * v29)) < (w64 ((1000 : Int) * v28))))
    else
      campaign_state_mark_j9 p0x0 p1x0 n2 v6 v9 l12 v19 l21 false
  else
    campaign_state_mark_j9 p0x0 p1x0 n2 v6 v9 l12 v19 l21 false

noncomputable def campaign_state_mark_j7 (p0x0 : Campaign_state) (p1x0 : MarkS) (n2 : Int) (v6 : Int) (v9 : Campaign_course) (l12 : List Int) (c18 : Bool) : Option Campaign_state :=
  if c18 = true then
    some (⟨p0x0.c_, p0x0.of_, p0x0.wave_, l12, p0x0.ends_, p0x0.fails_, p0x0.begins_, p0x0.stopped_, p0x0.next_, p0x0.ar0.set n2.toNat ((campaign_course_follow v9 p1x0).2)⟩ : Campaign_state)
  else
    (idx p0x0.ends_ v6).bind fun v19 =>
    (idx p0x0.ends_ v6).bind fun v20 =>
    if p1x0.Kind = (4 : Int) then
      (idx p0x0.fails_ v6).bind fun v22 =>
      (idx p0x0.fails_ v6).bind fun v23 =>
      campaign_state_mark_j8 p0x0 p1x0 n2 v6 v9 l12 v19 (p0x0.fails_.set v6.toNat (w64 (v22 + (1 : Int))))
    else
      campaign_state_mark_j8 p0x0 p1x0 n2 v6 v9 l12 v19 p0x0.fails_

noncomputable def campaign_state_mark_j5 (p0x0 : Campaign_state) (p1x0 : MarkS) (n2 : Int) (v6 : Int) (v9 : Campaign_course) (l12 : List Int) : Option Campaign_state :=
  campaign_state_mark_j7 p0x0 p1x0 n2 v6 v9 l12 ((decide (p1x0.Kind ≠ (3 : Int))) && (decide (p1x0.Kind ≠ (4 : Int))))

noncomputable def campaign_state_mark_j6 (p0x0 : Campaign_state) (p1x0 : MarkS) (n2 : Int) (v6 : Int) (v9 : Campaign_course) (l13 : List Int) : Option Campaign_state :=
  campaign_state_mark_j5 p0x0 p1x0 n2 v6 v9 l13

noncomputable def campaign_state_mark_j4 (p0x0 : Campaign_state) (p1x0 : MarkS) (n2 : Int) (v6 : Int) (c7 : Bool) (v9 : Campaign_course) (c11 : Bool) : Option Campaign_state :=
  if (c11 != c7) = true then
    if c11 = true then
      (idx p0x0.open_ v6).bind fun v14 =>
      (idx p0x0.open_ v6).bind fun v15 =>
      campaign_state_mark_j6 p0x0 p1x0 n2 v6 v9 (p0x0.open_.set v6.toNat (w64 (v14 - (1 : Int))))
    else
      (idx p0x0.open_ v6).bind fun v16 =>
      (idx p0x0.open_ v6).bind fun v17 =>
      campaign_state_mark_j6 p0x0 p1x0 n2 v6 v9 (p0x0.open_.set v6.toNat (w64 (v16 + (1 : Int))))
  else
    campaign_state_mark_j5 p0x0 p1x0 n2 v6 v9 p0x0.open_

noncomputable def campaign_state_mark_j3 (p0x0 : Campaign_state) (p1x0 : MarkS) (n2 : Int) (v6 : Int) (c7 : Bool) : Option Campaign_state :=
  (idx p0x0.ar0 n2).bind fun v9 =>
  if (!((campaign_course_follow v9 p1x0).1)) = true then
    some (⟨p0x0.c_, p0x0.of_, p0x0.wave_, p0x0.open_, p0x0.ends_, p0x0.fails_, p0x0.begins_, p0x0.stopped_, p0x0.next_, p0x0.ar0.set n2.toNat ((campaign_course_follow v9 p1x0).2)⟩ : Campaign_state)
  else
    campaign_state_mark_j4 p0x0 p1x0 n2 v6 c7 v9 ((campaign_state_ready (⟨p0x0.c_, p0x0.of_, p0x0.wave_, p0x0.open_, p0x0.ends_, p0x0.fails_, p0x0.begins_, p0x0.stopped_, p0x0.next_, p0x0.ar0.set n2.toNat ((campaign_course_follow v9 p1x0).2)⟩ : Campaign_state) ((campaign_course_follow v9 p1x0).2)) || (campaign_state_out (⟨p0x0.c_, p0x0.of_, p0x0.wave_, p0x0.open_, p0x0.ends_, p0x0.fails_, p0x0.begins_, p0x0.stopped_, p0x0.next_, p0x0.ar0.set n2.toNat ((campaign_course_follow v9 p1x0).2)⟩ : Campaign_state) ((campaign_course_follow v9 p1x0).2)))

noncomputable def campaign_state_mark_j2 (p0x0 : Campaign_state) (p1x0 : MarkS) (n2 : Int) (c5 : Bool) : Option Campaign_state :=
  if c5 = true then
    some p0x0
  else
    (mgetO p0x0.wave_ p1x0.Device (0 : Int)).bind fun v6 =>
    (idx p0x0.ar0 n2).bind fun v8 =>
    campaign_state_mark_j3 p0x0 p1x0 n2 v6 ((campaign_state_ready p0x0 v8) || (campaign_state_out p0x0 v8))

noncomputable def campaign_state_mark (p0x0 : Campaign_state) (p1x0 : MarkS) : Option Campaign_state :=
  casesO (mget? p0x0.of_ p1x0.Device) (
    campaign_state_mark_j1 p0x0 p1x0 ((!false) || (decide (p1x0.At < p0x0.c_.At)))) (fun n2 =>
    campaign_state_mark_j2 p0x0 p1x0 n2 ((!true) || (decide (p1x0.At < p0x0.c_.At))))

noncomputable def campaign_state_until_k3 (p0x0 : Campaign_state) (v33 : MarkS) (l54 : List (Str × Int)) (l55 : List Campaign_course) (l57 : List (Str × Int)) (l59 : List Int) (l61 : List Int) (l63 : List Int) (l65 : List Int) (n66 : Int) (n67 : Int) (n68 : Int) : Option (((List (Str × Int)) × (List Campaign_course) × (List (Str × Int)) × (List Int) × (List Int) × (List Int) × (List Int) × Int × Int × Int) ⊕ Campaign_state) :=
  (campaign_state_begin (⟨p0x0.c_, l54, l57, l59, l61, l63, l65, n66, n67, l55⟩ : Campaign_state) v33.At).bind fun v78 =>
  some (.inl (l54, l55, l57, v78.open_, v78.ends_, v78.fails_, v78.begins_, v78.stopped_, v78.next_, n68))

noncomputable def campaign_state_until_j2 (p0x0 : Campaign_state) (p1x0 : List MarkS) (v33 : MarkS) (l54 : List (Str × Int)) (l55 : List Campaign_course) (l57 : List (Str × Int)) (l59 : List Int) (l61 : List Int) (l63 : List Int) (l65 : List Int) (n66 : Int) (n67 : Int) (n68 : Int) (c69 : Bool) : Option (((List (Str × Int)) × (List Campaign_course) × (List (Str × Int)) × (List Int) × (List Int) × (List Int) × (List Int) × Int × Int × Int) ⊕ (((List (Str × Int)) × (List Campaign_course) × (List (Str × Int)) × (List Int) × (List Int) × (List Int) × (List Int) × Int × Int × Int) ⊕ Campaign_state)) :=
  if c69 = true then
    (idx p1x0 n68).bind fun v71 =>
    (campaign_state_mark (⟨p0x0.c_, l54, l57, l59, l61, l63, l65, n66, n67, l55⟩ : Campaign_state) v71).bind fun v72 =>
    some (.inl (v72.of_, v72.ar0, v72.wave_, v72.open_, v72.ends_, v72.fails_, v72.begins_, v72.stopped_, v72.next_, w64 (n68 + (1 : Int))))
  else
    Option.map .inr (campaign_state_until_k3 p0x0 v33 l54 l55 l57 l59 l61 l63 l65 n66 n67 n68)

noncomputable def campaign_state_until_b2 (p0x0 : Campaign_state) (p1x0 : List MarkS) (v33 : MarkS) (l54 : List (Str × Int)) (l55 : List Campaign_course) (l57 : List (Str × Int)) (l59 : List Int) (l61 : List Int) (l63 : List Int) (l65 : List Int) (n66 : Int) (n67 : Int) (n68 : Int) : Option (((List (Str × Int)) × (List Campaign_course) × (List (Str × Int)) × (List Int) × (List Int) × (List Int) × (List Int) × Int × Int × Int) ⊕ (((List (Str × Int)) × (List Campaign_course) × (List (Str × Int)) × (List Int) × (List Int) × (List Int) × (List Int) × Int × Int × Int) ⊕ Campaign_state)) :=
  if n68 < (p1x0.length : Int) then
    (idx p1x0 n68).bind fun v70 =>
    campaign_state_until_j2 p0x0 p1x0 v33 l54 l55 l57 l59 l61 l63 l65 n66 n67 n68 (decide (v70.At = v33.At))
  else
    campaign_state_until_j2 p0x0 p1x0 v33 l54 l55 l57 l59 l61 l63 l65 n66 n67 n68 false

noncomputable def campaign_state_until_l2 (p0x0 : Campaign_state) (p1x0 : List MarkS) (v33 : MarkS) (l54 : List (Str × Int)) (l55 : List Campaign_course) (l57 : List (Str × Int)) (l59 : List Int) (l61 : List Int) (l63 : List Int) (l65 : List Int) (n66 : Int) (n67 : Int) (n68 : Int) : Option (((List (Str × Int)) × (List Campaign_course) × (List (Str × Int)) × (List Int) × (List Int) × (List Int) × (List Int) × Int × Int × Int) ⊕ Campaign_state) :=
  iter (fun x : (List (Str × Int)) × (List Campaign_course) × (List (Str × Int)) × (List Int) × (List Int) × (List Int) × (List Int) × Int × Int × Int => campaign_state_until_b2 p0x0 p1x0 v33 x.1 x.2.1 x.2.2.1 x.2.2.2.1 x.2.2.2.2.1 x.2.2.2.2.2.1 x.2.2.2.2.2.2.1 x.2.2.2.2.2.2.2.1 x.2.2.2.2.2.2.2.2.1 x.2.2.2.2.2.2.2.2.2) (l54, l55, l57, l59, l61, l63, l65, n66, n67, n68)

noncomputable def campaign_state_until_k4 (p0x0 : Campaign_state) (p2x0 : Int) (l16 : List (Str × Int)) (l17 : List Campaign_course) (l19 : List (Str × Int)) (l21 : List Int) (l23 : List Int) (l25 : List Int) (l27 : List Int) (n28 : Int) (n29 : Int) : Option Campaign_state :=
  (campaign_state_begin (⟨p0x0.c_, l16, l19, l21, l23, l25, l27, n28, n29, l17⟩ : Campaign_state) p2x0).bind fun v83 =>
  some (⟨p0x0.c_, l16, l19, v83.open_, v83.ends_, v83.fails_, v83.begins_, v83.stopped_, v83.next_, l17⟩ : Campaign_state)

noncomputable def campaign_state_until_j1 (p0x0 : Campaign_state) (p1x0 : List MarkS) (p2x0 : Int) (l16 : List (Str × Int)) (l17 : List Campaign_course) (l19 : List (Str × Int)) (l21 : List Int) (l23 : List Int) (l25 : List Int) (l27 : List Int) (n28 : Int) (n29 : Int) (n30 : Int) (c31 : Bool) : Option (((List (Str × Int)) × (List Campaign_course) × (List (Str × Int)) × (List Int) × (List Int) × (List Int) × (List Int) × Int × Int × Int) ⊕ Campaign_state) :=
  if c31 = true then
    (idx p1x0 n30).bind fun v33 =>
    (campaign_state_begin (⟨p0x0.c_, l16, l19, l21, l23, l25, l27, n28, n29, l17⟩ : Campaign_state) (w64 (v33.At - (1 : Int)))).bind fun v34 =>
    campaign_state_until_l2 p0x0 p1x0 v33 l16 l17 l19 v34.open_ v34.ends_ v34.fails_ v34.begins_ v34.stopped_ v34.next_ n30
  else
    Option.map .inr (campaign_state_until_k4 p0x0 p2x0 l16 l17 l19 l21 l23 l25 l27 n28 n29)

noncomputable def campaign_state_until_b1 (p0x0 : Campaign_state) (p1x0 : List MarkS) (p2x0 : Int) (l16 : List (Str × Int)) (l17 : List Campaign_course) (l19 : List (Str × Int)) (l21 : List Int) (l23 : List Int) (l25 : List Int) (l27 : List Int) (n28 : Int) (n29 : Int) (n30 : Int) : Option (((List (Str × Int)) × (List Campaign_course) × (List (Str × Int)) × (List Int) × (List Int) × (List Int) × (List Int) × Int × Int × Int) ⊕ Campaign_state) :=
  if n30 < (p1x0.length : Int) then
    (idx p1x0 n30).bind fun v32 =>
    campaign_state_until_j1 p0x0 p1x0 p2x0 l16 l17 l19 l21 l23 l25 l27 n28 n29 n30 (decide (v32.At ≤ p2x0))
  else
    campaign_state_until_j1 p0x0 p1x0 p2x0 l16 l17 l19 l21 l23 l25 l27 n28 n29 n30 false

noncomputable def campaign_state_until_l1 (p0x0 : Campaign_state) (p1x0 : List MarkS) (p2x0 : Int) (l16 : List (Str × Int)) (l17 : List Campaign_course) (l19 : List (Str × Int)) (l21 : List Int) (l23 : List Int) (l25 : List Int) (l27 : List Int) (n28 : Int) (n29 : Int) (n30 : Int) : Option Campaign_state :=
  iter (fun x : (List (Str × Int)) × (List Campaign_course) × (List (Str × Int)) × (List Int) × (List Int) × (List Int) × (List Int) × Int × Int × Int => campaign_state_until_b1 p0x0 p1x0 p2x0 x.1 x.2.1 x.2.2.1 x.2.2.2.1 x.2.2.2.2.1 x.2.2.2.2.2.1 x.2.2.2.2.2.2.1 x.2.2.2.2.2.2.2.1 x.2.2.2.2.2.2.2.2.1 x.2.2.2.2.2.2.2.2.2) (l16, l17, l19, l21, l23, l25, l27, n28, n29, n30)

noncomputable def campaign_state_until (p0x0 : Campaign_state) (p1x0 : List MarkS) (p2x0 : Int) : Option Campaign_state :=
  campaign_state_until_l1 p0x0 p1x0 p2x0 p0x0.of_ p0x0.ar0 p0x0.wave_ p0x0.open_ p0x0.ends_ p0x0.fails_ p0x0.begins_ p0x0.stopped_ p0x0.next_ (0 : Int)

noncomputable def campaign_Begins (p0x0 : Campaign) (p1x0 : List DeviceS) (p2x0 : List MarkS) (p3x0 : Int) : Option ((List Int) × Int) :=
  (campaign_fault p0x0 p1x0 p2x0 p3x0).bind fun v2 =>
  if v2 ≠ (0 : Int) then
    some ([], v2)
  else
    (campaign_newState p0x0 p1x0).bind fun v4 =>
    (campaign_state_until (⟨p0x0, v4.of_, v4.wave_, v4.open_, v4.ends_, v4.fails_, v4.begins_, v4.stopped_, v4.next_, v4.ar0⟩ : Campaign_state) p2x0 p3x0).bind fun v15 =>
    some (v15.begins_, (0 : Int))

noncomputable def campaign_Stopped (p0x0 : Campaign) (p1x0 : List DeviceS) (p2x0 : List MarkS) (p3x0 : Int) : Option (Int × Int) :=
  (campaign_fault p0x0 p1x0 p2x0 p3x0).bind fun v2 =>
  if v2 ≠ (0 : Int) then
    some ((0 : Int), v2)
  else
    (campaign_newState p0x0 p1x0).bind fun v3 =>
    (campaign_state_until (⟨p0x0, v3.of_, v3.wave_, v3.open_, v3.ends_, v3.fails_, v3.begins_, v3.stopped_, v3.next_, v3.ar0⟩ : Campaign_state) p2x0 p3x0).bind fun v14 =>
    some (v14.stopped_, (0 : Int))

noncomputable def Q_in_j1 (c1 : Bool) : Bool :=
  c1

noncomputable def Q_in (p0x0 : Int) (p1x0 : Int) (p2x0 : Int) : Bool :=
  Q_in_j1 ((decide (p1x0 ≤ p0x0)) && (decide (p0x0 ≤ p2x0)))

noncomputable def Q_only_b1 (p0x0 : Str) (p1x0 : Str) (n2 : Int) : Option (Int ⊕ Bool) :=
  if n2 < (p0x0.length : Int) then
    (idx p0x0 n2).bind fun c3 =>
    if (indexByteI p1x0 (c3.toNat : Int)) < (0 : Int) then
      Option.map .inr (some false)
    else
      some (.inl (w64 (n2 + (1 : Int))))
  else
    Option.map .inr (some true)

noncomputable def Q_only_l1 (p0x0 : Str) (p1x0 : Str) (n2 : Int) : Option Bool :=
  iter (fun x : Int => Q_only_b1 p0x0 p1x0 x) n2

noncomputable def Q_only (p0x0 : Str) (p1x0 : Str) : Option Bool :=
  Q_only_l1 p0x0 p1x0 (0 : Int)

noncomputable def Q_Key_j1 (c1 : Bool) : Option Bool :=
  some c1

noncomputable def Q_Key (p0x0 : Str) : Option Bool :=
  if (Q_in (p0x0.length : Int) (1 : Int) (40 : Int)) = true then
    (slc p0x0 (0 : Int) (1 : Int)).bind fun l2 =>
    (Q_only l2 ([97, 98, 99, 100, 101, 102, 103, 104, 105, 106, 107, 108, 109, 110, 111, 112, 113, 114, 115, 116, 117, 118, 119, 120, 121, 122] : Str)).bind fun v3 =>
    if v3 = true then
      (Q_only p0x0 ([97, 98, 99, 100, 101, 102, 103, 104, 105, 106, 107, 108, 109, 110, 111, 112, 113, 114, 115, 116, 117, 118, 119, 120, 121, 122, 48, 49, 50, 51, 52, 53, 54, 55, 56, 57, 45, 95] : Str)).bind fun v4 =>
      Q_Key_j1 v4
    else
      Q_Key_j1 false
  else
    Q_Key_j1 false

noncomputable def Q_versionFault_j1 (c2 : Bool) : Int :=
  if c2 = true then
    (1 : Int)
  else
    (0 : Int)

noncomputable def Q_versionFault (p0x0 : Version) : Int :=
  Q_versionFault_j1 ((!(Q_in p0x0.Major (0 : Int) (9999 : Int))) || ((!(Q_in p0x0.Minor (0 : Int) (9999 : Int))) || (!(Q_in p0x0.Patch (0 : Int) (9999 : Int)))))

noncomputable def Q_Moment (p0x0 : Int) : Bool :=
  (Q_in p0x0 (0 : Int) (345686399999 : Int))

noncomputable def Q_CampaignFault_j1 (n5 : Int) (n6 : Int) (v7 : Wave) (c9 : Bool) : Option ((Int × Int) ⊕ Int) :=
  if c9 = true then
    Option.map .inr (some (1 : Int))
  else
    some (.inl (w64 (n5 + v7.Part), w64 (n6 + (1 : Int))))

noncomputable def Q_CampaignFault_j2 (c10 : Bool) : Option Int :=
  if c10 = true then
    some (1 : Int)
  else
    some (0 : Int)

noncomputable def Q_CampaignFault_k3 (p0x0 : Campaign) (n5 : Int) : Option Int :=
  if n5 ≠ (1000 : Int) then
    some (15 : Int)
  else
    Q_CampaignFault_j2 ((!(Q_in p0x0.Hours.From (0 : Int) (86400000 : Int))) || ((!(Q_in p0x0.Hours.To (0 : Int) (86400000 : Int))) || (!(Q_in p0x0.Room (1 : Int) (500 : Int)))))

noncomputable def Q_CampaignFault_b1 (p0x0 : Campaign) (n5 : Int) (n6 : Int) : Option ((Int × Int) ⊕ Int) :=
  if n6 < (p0x0.Waves.length : Int) then
    (idx p0x0.Waves n6).bind fun v7 =>
    Q_CampaignFault_j1 n5 n6 v7 ((!(Q_in v7.Part (1 : Int) (1000 : Int))) || ((!(Q_in v7.Wait (0 : Int) (2592000000 : Int))) || ((!(Q_in v7.Least (1 : Int) (500 : Int))) || (!(Q_in v7.Fails (0 : Int) (1000 : Int))))))
  else
    Option.map .inr (Q_CampaignFault_k3 p0x0 n5)

noncomputable def Q_CampaignFault_l1 (p0x0 : Campaign) (n5 : Int) (n6 : Int) : Option Int :=
  iter (fun x : Int × Int => Q_CampaignFault_b1 p0x0 x.1 x.2) (n5, n6)

noncomputable def Q_CampaignFault (p0x0 : Campaign) : Option Int :=
  (Q_Key p0x0.Key).bind fun v2 =>
  if (!v2) = true then
    some (5 : Int)
  else
    if (Q_versionFault p0x0.Target) ≠ (0 : Int) then
      some (Q_versionFault p0x0.Target)
    else
      if (!(Q_Moment p0x0.At)) = true then
        some (1 : Int)
      else
        if (p0x0.Waves.length : Int) = (0 : Int) then
          some (3 : Int)
        else
          if (20 : Int) < (p0x0.Waves.length : Int) then
            some (2 : Int)
          else
            Q_CampaignFault_l1 p0x0 (0 : Int) (0 : Int)

noncomputable def Q_FleetFault_j1 (q3 : Str) (n4 : Int) (v5 : DeviceS) (c7 : Bool) : Option ((Str × Int) ⊕ Int) :=
  if c7 = true then
    Option.map .inr (some (5 : Int))
  else
    if (Op.bytesLess v5.Key q3 || v5.Key == q3) = true then
      Option.map .inr (some (7 : Int))
    else
      if (Q_versionFault v5.Firmware) ≠ (0 : Int) then
        Option.map .inr (some (Q_versionFault v5.Firmware))
      else
        if (20 : Int) < (v5.Tags.length : Int) then
          Option.map .inr (some (2 : Int))
        else
          some (.inl (v5.Key, w64 (n4 + (1 : Int))))

noncomputable def Q_FleetFault_b1 (p0x0 : List DeviceS) (q3 : Str) (n4 : Int) : Option ((Str × Int) ⊕ Int) :=
  if n4 < (p0x0.length : Int) then
    (idx p0x0 n4).bind fun v5 =>
    (Q_Key v5.Key).bind fun v8 =>
    if (!v8) = true then
      Q_FleetFault_j1 q3 n4 v5 true
    else
      (Q_Key v5.Model).bind fun v9 =>
      if (!v9) = true then
        Q_FleetFault_j1 q3 n4 v5 true
      else
        (Q_Key v5.Tenant).bind fun v10 =>
        Q_FleetFault_j1 q3 n4 v5 (!v10)
  else
    Option.map .inr (some (0 : Int))

noncomputable def Q_FleetFault_l1 (p0x0 : List DeviceS) (q3 : Str) (n4 : Int) : Option Int :=
  iter (fun x : Str × Int => Q_FleetFault_b1 p0x0 x.1 x.2) (q3, n4)

noncomputable def Q_FleetFault (p0x0 : List DeviceS) : Option Int :=
  if (500 : Int) < (p0x0.length : Int) then
    some (2 : Int)
  else
    Q_FleetFault_l1 p0x0 ([] : Str) (0 : Int)

noncomputable def Q_MarksFault_j1 (n2 : Int) (c6 : Bool) : Option (Int ⊕ Int) :=
  if c6 = true then
    Option.map .inr (some (7 : Int))
  else
    some (.inl (w64 (n2 + (1 : Int))))

noncomputable def Q_MarksFault_b1 (p0x0 : List MarkS) (n2 : Int) : Option (Int ⊕ Int) :=
  if n2 < (p0x0.length : Int) then
    (idx p0x0 n2).bind fun v3 =>
    if (!(Q_Moment v3.At)) = true then
      Option.map .inr (some (1 : Int))
    else
      (Q_Key v3.Device).bind fun v5 =>
      if (!v5) = true then
        Option.map .inr (some (5 : Int))
      else
        if (!(Q_in v3.Kind (1 : Int) (5 : Int))) = true then
          Option.map .inr (some (4 : Int))
        else
          if (Q_versionFault v3.Version) ≠ (0 : Int) then
            Option.map .inr (some (Q_versionFault v3.Version))
          else
            if (0 : Int) < n2 then
              (idx p0x0 (w64 (n2 - (1 : Int)))).bind fun v7 =>
              Q_MarksFault_j1 n2 (decide ((0 : Int) ≤ (Q_MarkOrder v7 v3)))
            else
              Q_MarksFault_j1 n2 false
  else
    Option.map .inr (some (0 : Int))

noncomputable def Q_MarksFault_l1 (p0x0 : List MarkS) (n2 : Int) : Option Int :=
  iter (fun x : Int => Q_MarksFault_b1 p0x0 x) n2

noncomputable def Q_MarksFault (p0x0 : List MarkS) : Option Int :=
  if (3000 : Int) < (p0x0.length : Int) then
    some (2 : Int)
  else
    Q_MarksFault_l1 p0x0 (0 : Int)

noncomputable def L_when (p0x0 : Bool) (p1x0 : Int) : Int :=
  if p0x0 = true then
    p1x0
  else
    (0 : Int)

noncomputable def L_momentFault (p0x0 : Int) : Int :=
  (L_when (!(Q_Moment p0x0)) (1 : Int))

noncomputable def L_errs_b1 (p0x0 : List Int) (n2 : Int) : Option (Int ⊕ Int) :=
  if n2 < (p0x0.length : Int) then
    (idx p0x0 n2).bind fun v3 =>
    if v3 ≠ (0 : Int) then
      Option.map .inr (some v3)
    else
      some (.inl (w64 (n2 + (1 : Int))))
  else
    Option.map .inr (some (0 : Int))

noncomputable def L_errs_l1 (p0x0 : List Int) (n2 : Int) : Option Int :=
  iter (fun x : Int => L_errs_b1 p0x0 x) n2

noncomputable def L_errs (p0x0 : List Int) : Option Int :=
  L_errs_l1 p0x0 (0 : Int)

noncomputable def base_Number_j2 (n4 : Int) (c5 : Bool) : Option (Int ⊕ (Int × Bool)) :=
  if c5 = true then
    Option.map .inr (some ((0 : Int), false))
  else
    some (.inl (w64 (n4 + (1 : Int))))

noncomputable def base_Number_k3 (p0x0 : Str) : Option (Int × Bool) :=
  (atoiO p0x0).bind fun v8 =>
  some (v8.1, v8.2)

noncomputable def base_Number_b1 (p0x0 : Str) (n4 : Int) : Option (Int ⊕ (Int × Bool)) :=
  if n4 < ((Lib.trimPrefix p0x0 ([45] : Str)).length : Int) then
    (idx (Lib.trimPrefix p0x0 ([45] : Str)) n4).bind fun c6 =>
    if (c6.toNat : Int) < (48 : Int) then
      base_Number_j2 n4 true
    else
      (idx (Lib.trimPrefix p0x0 ([45] : Str)) n4).bind fun c7 =>
      base_Number_j2 n4 (decide ((57 : Int) < (c7.toNat : Int)))
  else
    Option.map .inr (base_Number_k3 p0x0)

noncomputable def base_Number_l1 (p0x0 : Str) (n4 : Int) : Option (Int × Bool) :=
  iter (fun x : Int => base_Number_b1 p0x0 x) n4

noncomputable def base_Number_j1 (p0x0 : Str) (c1 : Bool) : Option (Int × Bool) :=
  if c1 = true then
    some ((0 : Int), false)
  else
    base_Number_l1 p0x0 (0 : Int)

noncomputable def base_Number (p0x0 : Str) (p1x0 : Int) : Option (Int × Bool) :=
  if (Lib.trimPrefix p0x0 ([45] : Str)) = ([] : Str) then
    base_Number_j1 p0x0 true
  else
    if p1x0 < ((Lib.trimPrefix p0x0 ([45] : Str)).length : Int) then
      base_Number_j1 p0x0 true
    else
      (idx (Lib.trimPrefix p0x0 ([45] : Str)) (0 : Int)).bind fun c2 =>
      base_Number_j1 p0x0 ((decide ((c2.toNat : Int) = (48 : Int))) && ((decide ((1 : Int) < ((Lib.trimPrefix p0x0 ([45] : Str)).length : Int))) || (decide (((Lib.trimPrefix p0x0 ([45] : Str)).length : Int) < (p0x0.length : Int)))))

noncomputable def base_Numbers_b1 (p0x0 : List Str) (p1x0 : Int) (l5 : List Int) (n6 : Int) : Option (((List Int) × Int) ⊕ ((List Int) × Bool)) :=
  if n6 < (p0x0.length : Int) then
    (idx p0x0 n6).bind fun v8 =>
    (base_Number v8 p1x0).bind fun v9 =>
    if (!v9.2) = true then
      Option.map .inr (some ([], false))
    else
      (app l5 [v9.1]).bind fun l11 =>
      some (.inl (l11, w64 (n6 + (1 : Int))))
  else
    Option.map .inr (some (l5, true))

noncomputable def base_Numbers_l1 (p0x0 : List Str) (p1x0 : Int) (l5 : List Int) (n6 : Int) : Option ((List Int) × Bool) :=
  iter (fun x : (List Int) × Int => base_Numbers_b1 p0x0 p1x0 x.1 x.2) (l5, n6)

noncomputable def base_Numbers (p0x0 : List Str) (p1x0 : Int) : Option ((List Int) × Bool) :=
  base_Numbers_l1 p0x0 p1x0 [] (0 : Int)

noncomputable def campaign_ParseVersion_j1 (v4 : (List Int) × Bool) (c6 : Bool) : Option (Version × Int) :=
  if c6 = true then
    some ((⟨(0 : Int), (0 : Int), (0 : Int)⟩ : Version), (9 : Int))
  else
    (idx v4.1 (0 : Int)).bind fun v7 =>
    (idx v4.1 (1 : Int)).bind fun v8 =>
    (idx v4.1 (2 : Int)).bind fun v9 =>
    if (!(base_Version (⟨v7, v8, v9⟩ : Version))) = true then
      some ((⟨(0 : Int), (0 : Int), (0 : Int)⟩ : Version), (9 : Int))
    else
      some ((⟨v7, v8, v9⟩ : Version), (0 : Int))

noncomputable def campaign_ParseVersion (p0x0 : Str) : Option (Version × Int) :=
  (splitO p0x0 ([46] : Str)).bind fun v2 =>
  (base_Numbers v2 (4 : Int)).bind fun v4 =>
  campaign_ParseVersion_j1 v4 ((!v4.2) || (decide ((v4.1.length : Int) ≠ (3 : Int))))

noncomputable def L_versioned_j1 (c3 : Bool) : Option Bool :=
  some c3

noncomputable def L_versioned : Option Bool :=
  (campaign_ParseVersion ([49, 46, 50, 46, 51] : Str)).bind fun v1 =>
  L_versioned_j1 ((decide (v1.2 = (0 : Int))) && (decide (v1.1 = (⟨(1 : Int), (2 : Int), (3 : Int)⟩ : Version))))

noncomputable def Q_lot_b1 (q3 : Str) (n6 : Int) (n7 : Int) : Option ((Int × Int) ⊕ Int) :=
  if n7 < ((bytesI q3).length : Int) then
    (idx (bytesI q3) n7).bind fun v8 =>
    some (.inl (IntKind.u64.wrap ((xorI .u64 n6 (IntKind.u64.wrap (v8))) * (1099511628211 : Int)), w64 (n7 + (1 : Int))))
  else
    Option.map .inr (some (w64 ((xorI .u64 n6 (shrI .u64 n6 (32 : Int))).tmod (1000 : Int))))

noncomputable def Q_lot_l1 (q3 : Str) (n6 : Int) (n7 : Int) : Option Int :=
  iter (fun x : Int × Int => Q_lot_b1 q3 x.1 x.2) (n6, n7)

noncomputable def Q_lot (p0x0 : Campaign) (p1x0 : Str) : Option Int :=
  (catO p0x0.Key ([0] : Str)).bind fun q2 =>
  (catO q2 p1x0).bind fun q3 =>
  Q_lot_l1 q3 (14695981039346656037 : Int) (0 : Int)

noncomputable def Q_WaveOf_b1 (p0x0 : Campaign) (n5 : Int) (n6 : Int) : Option ((Int × Int) ⊕ Int) :=
  if n6 < (p0x0.Waves.length : Int) then
    (idx p0x0.Waves n6).bind fun v7 =>
    if (w64 (n5 - v7.Part)) < (0 : Int) then
      Option.map .inr (some n6)
    else
      some (.inl (w64 (n5 - v7.Part), w64 (n6 + (1 : Int))))
  else
    Option.map .inr (some (0 : Int))

noncomputable def Q_WaveOf_l1 (p0x0 : Campaign) (n5 : Int) (n6 : Int) : Option Int :=
  iter (fun x : Int × Int => Q_WaveOf_b1 p0x0 x.1 x.2) (n5, n6)

noncomputable def Q_WaveOf (p0x0 : Campaign) (p1x0 : Str) : Option Int :=
  (Q_lot p0x0 p1x0).bind fun v2 =>
  Q_WaveOf_l1 p0x0 v2 (0 : Int)

noncomputable def slices_Index_int_int_b1 (p0x0 : List Int) (p1x0 : Int) (n2 : Int) : Option (Int ⊕ Int) :=
  if n2 < (p0x0.length : Int) then
    (idx p0x0 n2).bind fun v3 =>
    if p1x0 = v3 then
      Option.map .inr (some n2)
    else
      some (.inl (w64 (n2 + (1 : Int))))
  else
    Option.map .inr (some (-1 : Int))

noncomputable def slices_Index_int_int_l1 (p0x0 : List Int) (p1x0 : Int) (n2 : Int) : Option Int :=
  iter (fun x : Int => slices_Index_int_int_b1 p0x0 p1x0 x) n2

noncomputable def slices_Index_int_int (p0x0 : List Int) (p1x0 : Int) : Option Int :=
  slices_Index_int_int_l1 p0x0 p1x0 (0 : Int)

noncomputable def slices_Contains_int_int (p0x0 : List Int) (p1x0 : Int) : Option Bool :=
  (slices_Index_int_int p0x0 p1x0).bind fun v1 =>
  some (decide ((0 : Int) ≤ v1))

noncomputable def Q_followed_j1 (n7 : Int) (l10 : List MarkS) : Option (((List MarkS) × Int) ⊕ (List MarkS)) :=
  some (.inl (l10, w64 (n7 + (1 : Int))))

noncomputable def Q_followed_j5 (n7 : Int) (l34 : List MarkS) : Option (((List MarkS) × Int) ⊕ (List MarkS)) :=
  Q_followed_j1 n7 l34

noncomputable def Q_followed_j4 (l6 : List MarkS) (n7 : Int) (v11 : MarkS) (c31 : Bool) : Option (((List MarkS) × Int) ⊕ (List MarkS)) :=
  if c31 = true then
    (app l6 [v11]).bind fun l35 =>
    Q_followed_j5 n7 l35
  else
    Q_followed_j5 n7 l6

noncomputable def Q_followed_j3 (l6 : List MarkS) (n7 : Int) (v11 : MarkS) (n15 : Int) (q16 : Str) (n17 : Int) (n18 : Int) (n19 : Int) (n20 : Int) : Option (((List MarkS) × Int) ⊕ (List MarkS)) :=
  (mgetO (mset (mset (mset (mset (mset ([] : List (Int × (List Int))) (1 : Int) [(0 : Int), (3 : Int), (4 : Int)]) (2 : Int) [(1 : Int)]) (5 : Int) [(1 : Int)]) (3 : Int) [(2 : Int)]) (4 : Int) [(2 : Int)]) v11.Kind []).bind fun v29 =>
  (slices_Contains_int_int v29 n17).bind fun v32 =>
  Q_followed_j4 l6 n7 v11 (v32 && ((decide (v11.Kind = (1 : Int))) || (decide (v11.Version = (⟨n18, n19, n20⟩ : Version)))))

noncomputable def Q_followed_j2 (l6 : List MarkS) (n7 : Int) (v11 : MarkS) (c13 : Bool) : Option (((List MarkS) × Int) ⊕ (List MarkS)) :=
  if c13 = true then
    Q_followed_j1 n7 l6
  else
    if (0 : Int) ≤ (w64 ((l6.length : Int) - (1 : Int))) then
      (idx l6 (w64 ((l6.length : Int) - (1 : Int)))).bind fun v21 =>
      Q_followed_j3 l6 n7 v11 v21.At v21.Device v21.Kind v21.Version.Major v21.Version.Minor v21.Version.Patch
    else
      Q_followed_j3 l6 n7 v11 (0 : Int) [] (0 : Int) (0 : Int) (0 : Int) (0 : Int)

noncomputable def Q_followed_b1 (p0x0 : Campaign) (p1x0 : Str) (p2x0 : List MarkS) (p3x0 : Int) (l6 : List MarkS) (n7 : Int) : Option (((List MarkS) × Int) ⊕ (List MarkS)) :=
  if n7 < (p2x0.length : Int) then
    (idx p2x0 n7).bind fun v11 =>
    Q_followed_j2 l6 n7 v11 ((decide (v11.Device ≠ p1x0)) || ((decide (v11.At < p0x0.At)) || (decide (p3x0 < v11.At))))
  else
    Option.map .inr (some l6)

noncomputable def Q_followed_l1 (p0x0 : Campaign) (p1x0 : Str) (p2x0 : List MarkS) (p3x0 : Int) (l6 : List MarkS) (n7 : Int) : Option (List MarkS) :=
  iter (fun x : (List MarkS) × Int => Q_followed_b1 p0x0 p1x0 p2x0 p3x0 x.1 x.2) (l6, n7)

noncomputable def Q_followed (p0x0 : Campaign) (p1x0 : Str) (p2x0 : List MarkS) (p3x0 : Int) : Option (List MarkS) :=
  Q_followed_l1 p0x0 p1x0 p2x0 p3x0 [] (0 : Int)

noncomputable def Q_stopOf_1x_j1 (c2 : Bool) : Bool :=
  c2

noncomputable def Q_stopOf_1x (p0x0 : MarkS) : Bool :=
  Q_stopOf_1x_j1 ((decide (p0x0.Kind ≠ (3 : Int))) && (decide (p0x0.Kind ≠ (4 : Int))))

noncomputable def slices_IndexFunc_Mark_Mark_b1 (p0x0 : List MarkS) (fnb : MarkS → Option Bool) (n2 : Int) : Option (Int ⊕ Int) :=
  if n2 < (p0x0.length : Int) then
    (idx p0x0 n2).bind fun v3 =>
    (fnb v3).bind fun v4 =>
    if v4 = true then
      Option.map .inr (some n2)
    else
      some (.inl (w64 (n2 + (1 : Int))))
  else
    Option.map .inr (some (-1 : Int))

noncomputable def slices_IndexFunc_Mark_Mark_l1 (p0x0 : List MarkS) (fnb : MarkS → Option Bool) (n2 : Int) : Option Int :=
  iter (fun x : Int => slices_IndexFunc_Mark_Mark_b1 p0x0 fnb x) n2

noncomputable def slices_IndexFunc_Mark_Mark (p0x0 : List MarkS) (fnb : MarkS → Option Bool) : Option Int :=
  slices_IndexFunc_Mark_Mark_l1 p0x0 fnb (0 : Int)

noncomputable def slices_DeleteFunc_Mark_Mark_j1 (n7 : Int) (l11 : List MarkS) (n12 : Int) : Option (((List MarkS) × Int × Int) ⊕ (List MarkS)) :=
  some (.inl (l11, n12, w64 (n7 + (1 : Int))))

noncomputable def slices_DeleteFunc_Mark_Mark_k2 (l5 : List MarkS) (n6 : Int) : Option (List MarkS) :=
  (slc l5 n6 (l5.length : Int)).bind fun l14 =>
  (slc (clr l5 n6 l14.length (⟨(0 : Int), [], (0 : Int), (⟨(0 : Int), (0 : Int), (0 : Int)⟩ : Version)⟩ : MarkS)) (0 : Int) n6).bind fun l15 =>
  some l15

noncomputable def slices_DeleteFunc_Mark_Mark_b1 (fnb : MarkS → Option Bool) (l5 : List MarkS) (n6 : Int) (n7 : Int) : Option (((List MarkS) × Int × Int) ⊕ (List MarkS)) :=
  if n7 < (l5.length : Int) then
    (idx l5 n7).bind fun v8 =>
    (fnb v8).bind fun v10 =>
    if (!v10) = true then
      (idx l5 n6).bind fun v13 =>
      slices_DeleteFunc_Mark_Mark_j1 n7 (l5.set n6.toNat v8) (w64 (n6 + (1 : Int)))
    else
      slices_DeleteFunc_Mark_Mark_j1 n7 l5 n6
  else
    Option.map .inr (slices_DeleteFunc_Mark_Mark_k2 l5 n6)

noncomputable def slices_DeleteFunc_Mark_Mark_l1 (fnb : MarkS → Option Bool) (l5 : List MarkS) (n6 : Int) (n7 : Int) : Option (List MarkS) :=
  iter (fun x : (List MarkS) × Int × Int => slices_DeleteFunc_Mark_Mark_b1 fnb x.1 x.2.1 x.2.2) (l5, n6, n7)

noncomputable def slices_DeleteFunc_Mark_Mark (p0x0 : List MarkS) (fnb : MarkS → Option Bool) : Option (List MarkS) :=
  (slices_IndexFunc_Mark_Mark p0x0 fnb).bind fun v1 =>
  if v1 = (-1 : Int) then
    some p0x0
  else
    slices_DeleteFunc_Mark_Mark_l1 fnb p0x0 v1 (w64 (v1 + (1 : Int)))

/-- Sorted by Go. -/
noncomputable def slices_SortFunc_Mark_Mark (p0x0 : List MarkS) (fnb : MarkS → MarkS → Option Int) : Option (List MarkS) :=
  sortO fnb p0x0

noncomputable def Q_stopOf_j1 (n7 : Int) (l13 : List MarkS) : Option (((List MarkS) × Int) ⊕ Int) :=
  some (.inl (l13, w64 (n7 + (1 : Int))))

noncomputable def Q_stopOf_j3 (n24 : Int) (v25 : MarkS) (n27 : Int) (c30 : Bool) : Option ((Int × Int) ⊕ Int) :=
  if c30 = true then
    Option.map .inr (some v25.At)
  else
    some (.inl (n27, w64 (n24 + (1 : Int))))

noncomputable def Q_stopOf_j2 (p0x0 : Campaign) (p1x0 : Int) (n24 : Int) (v25 : MarkS) (n27 : Int) : Option ((Int × Int) ⊕ Int) :=
  (idx p0x0.Waves p1x0).bind fun v28 =>
  Q_stopOf_j3 n24 v25 n27 ((decide (v28.Least ≤ (w64 (n24 + (1 : Int))))) && (decide ((w64 (v28.Fails * (w64 (n24 + (1 : Int))))) < (w64 (n27 * (1000 : Int))))))

noncomputable def Q_stopOf_b2 (p0x0 : Campaign) (p1x0 : Int) (v20 : (List MarkS)) (n23 : Int) (n24 : Int) : Option ((Int × Int) ⊕ Int) :=
  if n24 < (v20.length : Int) then
    (idx v20 n24).bind fun v25 =>
    if v25.Kind = (4 : Int) then
      Q_stopOf_j2 p0x0 p1x0 n24 v25 (w64 (n23 + (1 : Int)))
    else
      Q_stopOf_j2 p0x0 p1x0 n24 v25 n23
  else
    Option.map .inr (some (-1 : Int))

noncomputable def Q_stopOf_l2 (p0x0 : Campaign) (p1x0 : Int) (v20 : (List MarkS)) (n23 : Int) (n24 : Int) : Option Int :=
  iter (fun x : Int × Int => Q_stopOf_b2 p0x0 p1x0 v20 x.1 x.2) (n23, n24)

noncomputable def Q_stopOf_k4 (p0x0 : Campaign) (p1x0 : Int) (l6 : List MarkS) : Option Int :=
  (slices_DeleteFunc_Mark_Mark l6 (fun y0 => some (Q_stopOf_1x y0))).bind fun v18 =>
  (lenOk v18.length (fun r : (List MarkS) => r.length) (slices_SortFunc_Mark_Mark v18 (fun y0 y1 => some (Q_MarkOrder y0 y1)))).bind fun v20 =>
  Q_stopOf_l2 p0x0 p1x0 v20 (0 : Int) (0 : Int)

noncomputable def Q_stopOf_b1 (p0x0 : Campaign) (p1x0 : Int) (p2x0 : List DeviceS) (p3x0 : List MarkS) (p4x0 : Int) (l6 : List MarkS) (n7 : Int) : Option (((List MarkS) × Int) ⊕ Int) :=
  if n7 < (p2x0.length : Int) then
    (idx p2x0 n7).bind fun v9 =>
    (Q_WaveOf p0x0 v9.Key).bind fun v11 =>
    if v11 = p1x0 then
      (Q_followed p0x0 v9.Key p3x0 p4x0).bind fun v14 =>
      (app l6 v14).bind fun l16 =>
      Q_stopOf_j1 n7 l16
    else
      Q_stopOf_j1 n7 l6
  else
    Option.map .inr (Q_stopOf_k4 p0x0 p1x0 l6)

noncomputable def Q_stopOf_l1 (p0x0 : Campaign) (p1x0 : Int) (p2x0 : List DeviceS) (p3x0 : List MarkS) (p4x0 : Int) (l6 : List MarkS) (n7 : Int) : Option Int :=
  iter (fun x : (List MarkS) × Int => Q_stopOf_b1 p0x0 p1x0 p2x0 p3x0 p4x0 x.1 x.2) (l6, n7)

noncomputable def Q_stopOf (p0x0 : Campaign) (p1x0 : Int) (p2x0 : List DeviceS) (p3x0 : List MarkS) (p4x0 : Int) : Option Int :=
  Q_stopOf_l1 p0x0 p1x0 p2x0 p3x0 p4x0 [] (0 : Int)

noncomputable def Q_StoppedOf_j2 (n5 : Int) (n8 : Int) : Option ((Int × Int) ⊕ Int) :=
  some (.inl (n8, w64 (n5 + (1 : Int))))

noncomputable def Q_StoppedOf_j1 (n4 : Int) (n5 : Int) (v6 : Int) (c7 : Bool) : Option ((Int × Int) ⊕ Int) :=
  if c7 = true then
    Q_StoppedOf_j2 n5 v6
  else
    Q_StoppedOf_j2 n5 n4

noncomputable def Q_StoppedOf_b1 (p0x0 : Campaign) (p1x0 : List DeviceS) (p2x0 : List MarkS) (p3x0 : Int) (n4 : Int) (n5 : Int) : Option ((Int × Int) ⊕ Int) :=
  if n5 < (p0x0.Waves.length : Int) then
    (Q_stopOf p0x0 n5 p1x0 p2x0 p3x0).bind fun v6 =>
    Q_StoppedOf_j1 n4 n5 v6 ((decide ((0 : Int) ≤ v6)) && ((decide (n4 < (0 : Int))) || (decide (v6 < n4))))
  else
    Option.map .inr (some n4)

noncomputable def Q_StoppedOf_l1 (p0x0 : Campaign) (p1x0 : List DeviceS) (p2x0 : List MarkS) (p3x0 : Int) (n4 : Int) (n5 : Int) : Option Int :=
  iter (fun x : Int × Int => Q_StoppedOf_b1 p0x0 p1x0 p2x0 p3x0 x.1 x.2) (n4, n5)

noncomputable def Q_StoppedOf (p0x0 : Campaign) (p1x0 : List DeviceS) (p2x0 : List MarkS) (p3x0 : Int) : Option Int :=
  Q_StoppedOf_l1 p0x0 p1x0 p2x0 p3x0 (-1 : Int) (0 : Int)

/-- Sorted by Go. -/
noncomputable def slices_Sort_int_int (p0x0 : List Int) : Option (List Int) :=
  sort1 srtI p0x0

noncomputable def Q_StandsOf_j1 (n20 : Int) (v21 : MarkS) (n23 : Int) (n24 : Int) (n25 : Int) (n26 : Int) : Option ((Int × Int × Int × Int × Int × Int × Int) ⊕ Standing) :=
  some (.inl (v21.Kind, v21.At, n23, n24, n25, n26, w64 (n20 + (1 : Int))))

noncomputable def Q_StandsOf_j2 (n16 : Int) (n17 : Int) (n18 : Int) (n20 : Int) (v21 : MarkS) (n27 : Int) : Option ((Int × Int × Int × Int × Int × Int × Int) ⊕ Standing) :=
  Q_StandsOf_j1 n20 v21 n16 n17 n18 n27

noncomputable def Q_StandsOf_b1 (v5 : (List MarkS)) (n14 : Int) (n15 : Int) (n16 : Int) (n17 : Int) (n18 : Int) (n19 : Int) (n20 : Int) : Option ((Int × Int × Int × Int × Int × Int × Int) ⊕ Standing) :=
  if n20 < (v5.length : Int) then
    (idx v5 n20).bind fun v21 =>
    if v21.Kind = (3 : Int) then
      Q_StandsOf_j1 n20 v21 v21.Version.Major v21.Version.Minor v21.Version.Patch n19
    else
      if v21.Kind = (4 : Int) then
        Q_StandsOf_j2 n16 n17 n18 n20 v21 (w64 (n19 + (1 : Int)))
      else
        Q_StandsOf_j2 n16 n17 n18 n20 v21 n19
  else
    Option.map .inr (some (⟨n14, n15, (⟨n16, n17, n18⟩ : Version), n19⟩ : Standing))

noncomputable def Q_StandsOf_l1 (v5 : (List MarkS)) (n14 : Int) (n15 : Int) (n16 : Int) (n17 : Int) (n18 : Int) (n19 : Int) (n20 : Int) : Option Standing :=
  iter (fun x : Int × Int × Int × Int × Int × Int × Int => Q_StandsOf_b1 v5 x.1 x.2.1 x.2.2.1 x.2.2.2.1 x.2.2.2.2.1 x.2.2.2.2.2.1 x.2.2.2.2.2.2) (n14, n15, n16, n17, n18, n19, n20)

noncomputable def Q_StandsOf (p0x0 : Campaign) (p1x0 : DeviceS) (p2x0 : List MarkS) (p3x0 : Int) : Option Standing :=
  (Q_followed p0x0 p1x0.Key p2x0 p3x0).bind fun v5 =>
  Q_StandsOf_l1 v5 (0 : Int) (0 : Int) p1x0.Firmware.Major p1x0.Firmware.Minor p1x0.Firmware.Patch (0 : Int) (0 : Int)

noncomputable def Q_over_j1 (c5 : Bool) : Option Bool :=
  some c5

noncomputable def Q_over (p0x0 : Campaign) (p1x0 : DeviceS) (p2x0 : List MarkS) (p3x0 : Int) : Option Bool :=
  (Q_StandsOf p0x0 p1x0 p2x0 p3x0).bind fun v3 =>
  Q_over_j1 ((decide (v3.Version = p0x0.Target)) || ((decide ((3 : Int) ≤ v3.Fails)) || (decide (v3.Kind = (5 : Int)))))

noncomputable def Q_BeginsOf_1x_1x_j1 (c2 : Bool) : Option Bool :=
  some c2

noncomputable def Q_BeginsOf_1x_1x (p0x0 : DeviceS) (p1x0 : Campaign) (p2x0 : Int) (p3x0 : List MarkS) (p4x0 : Int) : Option Bool :=
  (Q_WaveOf p1x0 p0x0.Key).bind fun v3 =>
  if v3 = (w64 (p2x0 - (1 : Int))) then
    (Q_over p1x0 p0x0 p3x0 p4x0).bind fun v4 =>
    Q_BeginsOf_1x_1x_j1 (!v4)
  else
    Q_BeginsOf_1x_1x_j1 false

noncomputable def slices_IndexFunc_Device_Device_b1 (p0x0 : List DeviceS) (fnb : DeviceS → Option Bool) (n2 : Int) : Option (Int ⊕ Int) :=
  if n2 < (p0x0.length : Int) then
    (idx p0x0 n2).bind fun v3 =>
    (fnb v3).bind fun v4 =>
    if v4 = true then
      Option.map .inr (some n2)
    else
      some (.inl (w64 (n2 + (1 : Int))))
  else
    Option.map .inr (some (-1 : Int))

noncomputable def slices_IndexFunc_Device_Device_l1 (p0x0 : List DeviceS) (fnb : DeviceS → Option Bool) (n2 : Int) : Option Int :=
  iter (fun x : Int => slices_IndexFunc_Device_Device_b1 p0x0 fnb x) n2

noncomputable def slices_IndexFunc_Device_Device (p0x0 : List DeviceS) (fnb : DeviceS → Option Bool) : Option Int :=
  slices_IndexFunc_Device_Device_l1 p0x0 fnb (0 : Int)

noncomputable def slices_ContainsFunc_Device_Device (p0x0 : List DeviceS) (fnb : DeviceS → Option Bool) : Option Bool :=
  (slices_IndexFunc_Device_Device p0x0 fnb).bind fun v1 =>
  some (decide ((0 : Int) ≤ v1))

noncomputable def Q_BeginsOf_1x (p0x0 : Int) (p1x0 : List DeviceS) (p2x0 : Campaign) (p3x0 : Int) (p4x0 : List MarkS) : Option Bool :=
  (slices_ContainsFunc_Device_Device p1x0 (fun y0 => Q_BeginsOf_1x_1x y0 p2x0 p3x0 p4x0 p0x0)).bind fun v2 =>
  some (!v2)

noncomputable def slices_IndexFunc_int_int_b1 (p0x0 : List Int) (fnb : Int → Option Bool) (n2 : Int) : Option (Int ⊕ Int) :=
  if n2 < (p0x0.length : Int) then
    (idx p0x0 n2).bind fun v3 =>
    (fnb v3).bind fun v4 =>
    if v4 = true then
      Option.map .inr (some n2)
    else
      some (.inl (w64 (n2 + (1 : Int))))
  else
    Option.map .inr (some (-1 : Int))

noncomputable def slices_IndexFunc_int_int_l1 (p0x0 : List Int) (fnb : Int → Option Bool) (n2 : Int) : Option Int :=
  iter (fun x : Int => slices_IndexFunc_int_int_b1 p0x0 fnb x) n2

noncomputable def slices_IndexFunc_int_int (p0x0 : List Int) (fnb : Int → Option Bool) : Option Int :=
  slices_IndexFunc_int_int_l1 p0x0 fnb (0 : Int)

noncomputable def Q_BeginsOf_j2 (n26 : Int) (l30 : List Int) : Option (((List Int) × Int) ⊕ (((List Int) × Int × Int) ⊕ (List Int))) :=
  some (.inl (l30, w64 (n26 + (1 : Int))))

noncomputable def Q_BeginsOf_j4 (l13 : List Int) (n15 : Int) (n18 : Int) (c37 : Bool) : Option (((List Int) × Int × Int) ⊕ (List Int)) :=
  if c37 = true then
    Option.map .inr (some l13)
  else
    (app l13 [n18]).bind fun l38 =>
    some (.inl (l38, n18, w64 (n15 + (1 : Int))))

noncomputable def Q_BeginsOf_j1 (p3x0 : Int) (v4 : Int) (l13 : List Int) (n15 : Int) (n18 : Int) : Option (((List Int) × Int × Int) ⊕ (List Int)) :=
  Q_BeginsOf_j4 l13 n15 n18 ((decide (p3x0 < n18)) || ((decide ((0 : Int) ≤ v4)) && (decide (v4 ≤ n18))))

noncomputable def Q_BeginsOf_k3 (p0x0 : Campaign) (p1x0 : List DeviceS) (p2x0 : List MarkS) (p3x0 : Int) (v4 : Int) (l13 : List Int) (n15 : Int) (l25 : List Int) : Option (((List Int) × Int × Int) ⊕ (List Int)) :=
  (lenOk l25.length (fun r : (List Int) => r.length) (slices_Sort_int_int l25)).bind fun v33 =>
  (slices_IndexFunc_int_int v33 (fun y0 => Q_BeginsOf_1x y0 p1x0 p0x0 n15 p2x0)).bind fun v34 =>
  if v34 < (0 : Int) then
    Option.map .inr (some l13)
  else
    (idx v33 v34).bind fun v35 =>
    (idx p0x0.Waves n15).bind fun v36 =>
    Q_BeginsOf_j1 p3x0 v4 l13 n15 (w64 (v35 + v36.Wait))

noncomputable def Q_BeginsOf_b2 (p0x0 : Campaign) (p1x0 : List DeviceS) (p2x0 : List MarkS) (p3x0 : Int) (v4 : Int) (l13 : List Int) (n15 : Int) (v19 : Int) (l25 : List Int) (n26 : Int) : Option (((List Int) × Int) ⊕ (((List Int) × Int × Int) ⊕ (List Int))) :=
  if n26 < (p2x0.length : Int) then
    (idx p2x0 n26).bind fun v27 =>
    if (Q_in v27.At v19 p3x0) = true then
      (app l25 [v27.At]).bind fun l31 =>
      Q_BeginsOf_j2 n26 l31
    else
      Q_BeginsOf_j2 n26 l25
  else
    Option.map .inr (Q_BeginsOf_k3 p0x0 p1x0 p2x0 p3x0 v4 l13 n15 l25)

noncomputable def Q_BeginsOf_l2 (p0x0 : Campaign) (p1x0 : List DeviceS) (p2x0 : List MarkS) (p3x0 : Int) (v4 : Int) (l13 : List Int) (n15 : Int) (v19 : Int) (l25 : List Int) (n26 : Int) : Option (((List Int) × Int × Int) ⊕ (List Int)) :=
  iter (fun x : (List Int) × Int => Q_BeginsOf_b2 p0x0 p1x0 p2x0 p3x0 v4 l13 n15 v19 x.1 x.2) (l25, n26)

noncomputable def Q_BeginsOf_b1 (p0x0 : Campaign) (p1x0 : List DeviceS) (p2x0 : List MarkS) (p3x0 : Int) (v4 : Int) (l13 : List Int) (n14 : Int) (n15 : Int) : Option (((List Int) × Int × Int) ⊕ (List Int)) :=
  if n15 < (p0x0.Waves.length : Int) then
    if (0 : Int) < n15 then
      (idx l13 (w64 (n15 - (1 : Int)))).bind fun v19 =>
      Q_BeginsOf_l2 p0x0 p1x0 p2x0 p3x0 v4 l13 n15 v19 [v19] (0 : Int)
    else
      Q_BeginsOf_j1 p3x0 v4 l13 n15 n14
  else
    Option.map .inr (some l13)

noncomputable def Q_BeginsOf_l1 (p0x0 : Campaign) (p1x0 : List DeviceS) (p2x0 : List MarkS) (p3x0 : Int) (v4 : Int) (l13 : List Int) (n14 : Int) (n15 : Int) : Option (List Int) :=
  iter (fun x : (List Int) × Int × Int => Q_BeginsOf_b1 p0x0 p1x0 p2x0 p3x0 v4 x.1 x.2.1 x.2.2) (l13, n14, n15)

noncomputable def Q_BeginsOf (p0x0 : Campaign) (p1x0 : List DeviceS) (p2x0 : List MarkS) (p3x0 : Int) : Option (List Int) :=
  (Q_StoppedOf p0x0 p1x0 p2x0 p3x0).bind fun v4 =>
  Q_BeginsOf_l1 p0x0 p1x0 p2x0 p3x0 v4 [] p0x0.At (0 : Int)

noncomputable def slices_Equal_int_int_b1 (p0x0 : List Int) (p1x0 : List Int) (n2 : Int) : Option (Int ⊕ Bool) :=
  if n2 < (p0x0.length : Int) then
    (idx p0x0 n2).bind fun v3 =>
    (idx p1x0 n2).bind fun v4 =>
    if v3 ≠ v4 then
      Option.map .inr (some false)
    else
      some (.inl (w64 (n2 + (1 : Int))))
  else
    Option.map .inr (some true)

noncomputable def slices_Equal_int_int_l1 (p0x0 : List Int) (p1x0 : List Int) (n2 : Int) : Option Bool :=
  iter (fun x : Int => slices_Equal_int_int_b1 p0x0 p1x0 x) n2

noncomputable def slices_Equal_int_int (p0x0 : List Int) (p1x0 : List Int) : Option Bool :=
  if (p0x0.length : Int) ≠ (p1x0.length : Int) then
    some false
  else
    slices_Equal_int_int_l1 p0x0 p1x0 (0 : Int)

noncomputable def L_WavesBegin_j1 (c17 : Bool) : Option Bool :=
  some c17

noncomputable def L_WavesBegin_j2 (c19 : Bool) : Option Bool :=
  some c19

noncomputable def L_WavesBegin (p0x0 : List Int) : Option Bool :=
  (Stream_Campaign (⟨p0x0, (0 : Int)⟩ : Fleetmake_Stream)).bind fun v2 =>
  (Stream_Fleet v2.2 (5 : Int)).bind fun v3 =>
  (Stream_Pick v3.2 [(0 : Int), (10 : Int), (50 : Int), (100 : Int), (150 : Int), (300 : Int), (300 : Int), (-1 : Int)]).bind fun v5 =>
  (Stream_Range v5.2 (0 : Int) (20 : Int)).bind fun v7 =>
  (Stream_Marks v7.2 v2.1 v3.1 v7.1).bind fun v8 =>
  (campaign_Begins v2.1 v3.1 v8.1 v5.1).bind fun v10 =>
  (campaign_Stopped v2.1 v3.1 v8.1 v5.1).bind fun v12 =>
  (Q_CampaignFault v2.1).bind fun v13 =>
  (Q_FleetFault v3.1).bind fun v14 =>
  (Q_MarksFault v8.1).bind fun v15 =>
  (L_errs [v13, v14, v15, (L_momentFault v5.1)]).bind fun v16 =>
  if v16 ≠ (0 : Int) then
    if v10.2 = v16 then
      if v12.2 = v16 then
        if (v10.1.length : Int) = (0 : Int) then
          if v12.1 = (0 : Int) then
            (L_versioned).bind fun v18 =>
            L_WavesBegin_j1 v18
          else
            L_WavesBegin_j1 false
        else
          L_WavesBegin_j1 false
      else
        L_WavesBegin_j1 false
    else
      L_WavesBegin_j1 false
  else
    if v10.2 = (0 : Int) then
      if v12.2 = (0 : Int) then
        (Q_BeginsOf v2.1 v3.1 v8.1 v5.1).bind fun v20 =>
        (slices_Equal_int_int v10.1 v20).bind fun v22 =>
        if v22 = true then
          (Q_StoppedOf v2.1 v3.1 v8.1 v5.1).bind fun v23 =>
          if v12.1 = v23 then
            (L_versioned).bind fun v24 =>
            L_WavesBegin_j2 v24
          else
            L_WavesBegin_j2 false
        else
          L_WavesBegin_j2 false
      else
        L_WavesBegin_j2 false
    else
      L_WavesBegin_j2 false

end Go.Beacon

