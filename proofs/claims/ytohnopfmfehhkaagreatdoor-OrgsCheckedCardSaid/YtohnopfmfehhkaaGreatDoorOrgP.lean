/- Plain functions that the Go functions compute, written by shal.py. -/
import Derived.Test.YtohnopfmfehhkaaGreatDoorCore
set_option linter.unusedVariables false
namespace Go.Beacon
open Go Go.Eng
structure Fleetmake_Stream where
  L : List Int
  at_ : Int
deriving DecidableEq, Inhabited
def Fleetmake_Stream.av (x : Fleetmake_Stream) : AV := .agg [.list 1 (x.L.map I), I x.at_]

structure Tenant where
  Key : Str
  Parent : Str
deriving DecidableEq, Inhabited
def Tenant.av (x : Tenant) : AV := .agg [.str x.Key, .str x.Parent]

structure Role where
  Key : Str
  Acts : List Str
deriving DecidableEq, Inhabited
def Role.av (x : Role) : AV := .agg [.str x.Key, .list 1 (x.Acts.map AV.str)]

structure Member where
  User : Str
  Tenant : Str
  Role : Str
deriving DecidableEq, Inhabited
def Member.av (x : Member) : AV := .agg [.str x.User, .str x.Tenant, .str x.Role]

structure ValueS where
  Kind : Int
  Flag : Bool
  Number : Int
  Words : Str
deriving DecidableEq, Inhabited
def ValueS.av (x : ValueS) : AV := .agg [I x.Kind, .bool x.Flag, I x.Number, .str x.Words]

structure Version where
  Major : Int
  Minor : Int
  Patch : Int
deriving DecidableEq, Inhabited
def Version.av (x : Version) : AV := .agg [I x.Major, I x.Minor, I x.Patch]

structure Query where
  Kind : Int
  Field : Str
  Op : Str
  Value : ValueS
  Version : Version
  Kids : List Query
instance : Inhabited Query := ⟨⟨default, default, default, default, default, []⟩⟩
mutual
def Query.av : Query → AV
  | ⟨a_Kind, a_Field, a_Op, a_Value, a_Version, a_Kids⟩ => .agg [I a_Kind, .str a_Field, .str a_Op, I a_Value.Kind, .bool a_Value.Flag, I a_Value.Number, .str a_Value.Words, I a_Version.Major, I a_Version.Minor, I a_Version.Patch, .list 11 (Query.avs a_Kids)]
def Query.avs : List Query → List AV
  | [] => []
  | x :: r => Query.av x :: Query.avs r
end
theorem Query.avs_eq : ∀ l : List Query, Query.avs l = l.map Query.av
  | [] => by simp [Query.avs]
  | x :: r => by rw [Query.avs, Query.avs_eq r, List.map_cons]
theorem Query.av_eq (x : Query) : Query.av x = .agg [I x.Kind, .str x.Field, .str x.Op, I x.Value.Kind, .bool x.Value.Flag, I x.Value.Number, .str x.Value.Words, I x.Version.Major, I x.Version.Minor, I x.Version.Patch, .list 11 (x.Kids.map Query.av)] := by
  obtain ⟨a_Kind, a_Field, a_Op, a_Value, a_Version, a_Kids⟩ := x
  rw [Query.av, Query.avs_eq]

structure Window where
  From : Int
  To : Int
deriving DecidableEq, Inhabited
def Window.av (x : Window) : AV := .agg [I x.From, I x.To]

structure Share where
  Key : Str
  From : Str
  To : Str
  Query : Query
  Acts : List Str
  Time : Window
deriving Inhabited
def Share.av (x : Share) : AV := .agg [.str x.Key, .str x.From, .str x.To, I x.Query.Kind, .str x.Query.Field, .str x.Query.Op, I x.Query.Value.Kind, .bool x.Query.Value.Flag, I x.Query.Value.Number, .str x.Query.Value.Words, I x.Query.Version.Major, I x.Query.Version.Minor, I x.Query.Version.Patch, .list 11 (x.Query.Kids.map Query.av), .list 1 (x.Acts.map AV.str), I x.Time.From, I x.Time.To]

structure Org where
  Tenants : List Tenant
  Roles : List Role
  Members : List Member
  Shares : List Share
deriving Inhabited
def Org.av (x : Org) : AV := .agg [.list 2 (x.Tenants.map Tenant.av), .list 2 (x.Roles.map Role.av), .list 3 (x.Members.map Member.av), .list 17 (x.Shares.map Share.av)]

structure Tenant_asks where
  a_ : Str
  b_ : Str
deriving DecidableEq, Inhabited
def Tenant_asks.av (x : Tenant_asks) : AV := .agg [.str x.a_, .str x.b_]
instance : KLt Tenant_asks := ⟨fun a b => (KLt.lt a.a_ b.a_ || (decide (a.a_ = b.a_) && (KLt.lt a.b_ b.b_ || (decide (a.b_ = b.b_) && false))))⟩

structure Tenant_view where
  Org : Org
  parent_ : List (Str × Str)
  acts_ : List (Str × (List Str))
  at_ : List (Str × (List Int))
  found_ : List (Tenant_asks × (List Int))
  wider_ : List (Tenant_asks × Bool)
deriving Inhabited

noncomputable def Below_j1 (n2 : Int) : Option Int :=
  some n2

noncomputable def Below (p0x0 : Int) (p1x0 : Int) : Option Int :=
  if p1x0 < (1 : Int) then
    some (0 : Int)
  else
    (rem p0x0 p1x0).bind fun n1 =>
    if n1 < (0 : Int) then
      Below_j1 (w64 (n1 + p1x0))
    else
      Below_j1 n1

noncomputable def Stream_Next (p0x0 : Fleetmake_Stream) (p1x0 : Int) : Option (Int × Fleetmake_Stream) :=
  if (p0x0.L.length : Int) = (0 : Int) then
    (Below (w64 ((w64 (p0x0.at_ + (1 : Int))) * (7919 : Int))) p1x0).bind fun v1 =>
    some (v1, (⟨p0x0.L, w64 (p0x0.at_ + (1 : Int))⟩ : Fleetmake_Stream))
  else
    (rem (w64 ((w64 (p0x0.at_ + (1 : Int))) - (1 : Int))) (p0x0.L.length : Int)).bind fun n2 =>
    (quo (w64 ((w64 (p0x0.at_ + (1 : Int))) - (1 : Int))) (p0x0.L.length : Int)).bind fun n3 =>
    (idx p0x0.L n2).bind fun v4 =>
    (Below v4 (1073741824 : Int)).bind fun v5 =>
    (Below (w64 (v5 + (w64 (n3 * (w64 ((7919 : Int) + n2)))))) p1x0).bind fun v6 =>
    some (v6, (⟨p0x0.L, w64 (p0x0.at_ + (1 : Int))⟩ : Fleetmake_Stream))

noncomputable def Stream_Some (p0x0 : Fleetmake_Stream) (p1x0 : List Str) : Option (Str × Fleetmake_Stream) :=
  (Stream_Next p0x0 (p1x0.length : Int)).bind fun v1 =>
  (idx p1x0 v1.1).bind fun v2 =>
  some (v2, v1.2)

noncomputable def Stream_acts (p0x0 : Fleetmake_Stream) : Option ((List Str) × Fleetmake_Stream) :=
  (Stream_Next p0x0 (5 : Int)).bind fun v1 =>
  (idx [[([42] : Str)], [([100, 101, 118, 105, 99, 101, 46, 42] : Str)], [([100, 101, 118, 105, 99, 101, 46, 114, 101, 97, 100] : Str)], [([100, 101, 118, 105, 99, 101, 46, 114, 101, 97, 100] : Str), ([111, 114, 103, 46, 42] : Str)], [([100, 101, 118, 105, 99, 101, 46, 114, 101, 97, 100] : Str), ([100, 101, 118, 105, 99, 101, 46, 119, 114, 105, 116, 101] : Str)]] v1.1).bind fun v2 =>
  some (v2, v1.2)

noncomputable def Stream_Flip (p0x0 : Fleetmake_Stream) (p1x0 : Int) : Option (Bool × Fleetmake_Stream) :=
  (Stream_Next p0x0 p1x0).bind fun v1 =>
  some (decide (v1.1 = (0 : Int)), v1.2)

noncomputable def Stream_Pick (p0x0 : Fleetmake_Stream) (p1x0 : List Int) : Option (Int × Fleetmake_Stream) :=
  (Stream_Next p0x0 (p1x0.length : Int)).bind fun v1 =>
  (idx p1x0 v1.1).bind fun v2 =>
  some (v2, v1.2)

noncomputable def Stream_leaf_1x (p0x0 : Fleetmake_Stream) : Option (Str × Fleetmake_Stream) :=
  (Stream_Some p0x0 [([61, 61] : Str), ([61, 61] : Str), ([33, 61] : Str)]).bind fun v1 =>
  some (v1.1, v1.2)

noncomputable def Stream_leaf_2x (p0x0 : List Str) (p1x0 : Fleetmake_Stream) : Option (ValueS × Fleetmake_Stream) :=
  (Stream_Some p1x0 p0x0).bind fun v2 =>
  some ((⟨(3 : Int), false, (0 : Int), v2.1⟩ : ValueS), v2.2)

noncomputable def Q_Ops : (List Str) :=
  [([61, 61] : Str), ([33, 61] : Str), ([60, 61] : Str), ([62, 61] : Str), ([60] : Str), ([62] : Str)]

noncomputable def Stream_leaf (p0x0 : Fleetmake_Stream) : Option (Query × Fleetmake_Stream) :=
  (Stream_Next p0x0 (8 : Int)).bind fun v3 =>
  if v3.1 = (0 : Int) then
    (Stream_Some v3.2 [([116, 97, 103, 46, 115, 105, 116, 101] : Str), ([116, 97, 103, 46, 111, 112, 101, 110] : Str), ([112, 114, 111, 112, 46, 97] : Str), ([112, 114, 111, 112, 46, 102, 97, 110, 46, 111, 110] : Str)]).bind fun v4 =>
    some ((⟨(2 : Int), v4.1, [], (⟨(0 : Int), false, (0 : Int), []⟩ : ValueS), (⟨(0 : Int), (0 : Int), (0 : Int)⟩ : Version), []⟩ : Query), v4.2)
  else
    if v3.1 = (1 : Int) then
      (Stream_leaf_1x v3.2).bind fun v5 =>
      (Stream_leaf_2x [([100, 97] : Str), ([100, 98] : Str), ([102, 114, 101, 115, 104] : Str)] v5.2).bind fun v6 =>
      some ((⟨(1 : Int), ([107, 101, 121] : Str), v5.1, v6.1, (⟨(0 : Int), (0 : Int), (0 : Int)⟩ : Version), []⟩ : Query), v6.2)
    else
      if v3.1 = (2 : Int) then
        (Stream_Some v3.2 [([109, 111, 100, 101, 108] : Str), ([116, 101, 110, 97, 110, 116] : Str)]).bind fun v7 =>
        (Stream_leaf_1x v7.2).bind fun v8 =>
        (Stream_leaf_2x [([109, 97] : Str), ([116, 97] : Str), ([] : Str), ([81] : Str)] v8.2).bind fun v9 =>
        some ((⟨(1 : Int), v7.1, v8.1, v9.1, (⟨(0 : Int), (0 : Int), (0 : Int)⟩ : Version), []⟩ : Query), v9.2)
      else
        if v3.1 = (3 : Int) then
          (Stream_Some v3.2 Q_Ops).bind fun v10 =>
          (Stream_Next v10.2 (2 : Int)).bind fun v11 =>
          (Stream_Pick v11.2 [(0 : Int), (2 : Int)]).bind fun v12 =>
          (Stream_Pick v12.2 [(0 : Int), (0 : Int), (9999 : Int)]).bind fun v13 =>
          some ((⟨(1 : Int), ([102, 105, 114, 109, 119, 97, 114, 101] : Str), v10.1, (⟨(0 : Int), false, (0 : Int), []⟩ : ValueS), (⟨v11.1, v12.1, v13.1⟩ : Version), []⟩ : Query), v13.2)
        else
          if v3.1 = (4 : Int) then
            (Stream_leaf_1x v3.2).bind fun v14 =>
            (Stream_leaf_2x [([120] : Str), ([121] : Str), ([97, 34, 98, 92, 99] : Str), ([] : Str)] v14.2).bind fun v15 =>
            some ((⟨(1 : Int), ([116, 97, 103, 46, 115, 105, 116, 101] : Str), v14.1, v15.1, (⟨(0 : Int), (0 : Int), (0 : Int)⟩ : Version), []⟩ : Query), v15.2)
          else
            if v3.1 = (5 : Int) then
              (Stream_leaf_1x v3.2).bind fun v16 =>
              (Stream_Flip v16.2 (2 : Int)).bind fun v17 =>
              some ((⟨(1 : Int), ([112, 114, 111, 112, 46, 102, 97, 110, 46, 111, 110] : Str), v16.1, (⟨(1 : Int), v17.1, (0 : Int), []⟩ : ValueS), (⟨(0 : Int), (0 : Int), (0 : Int)⟩ : Version), []⟩ : Query), v17.2)
            else
              if v3.1 = (6 : Int) then
                (Stream_leaf_1x v3.2).bind fun v18 =>
                (Stream_leaf_2x [([120] : Str), ([] : Str)] v18.2).bind fun v19 =>
                some ((⟨(1 : Int), ([112, 114, 111, 112, 46, 97] : Str), v18.1, v19.1, (⟨(0 : Int), (0 : Int), (0 : Int)⟩ : Version), []⟩ : Query), v19.2)
              else
                (Stream_Some v3.2 Q_Ops).bind fun v20 =>
                (Stream_Pick v20.2 [(0 : Int), (5 : Int), (6 : Int), (-5 : Int)]).bind fun v21 =>
                some ((⟨(1 : Int), ([112, 114, 111, 112, 46, 97] : Str), v20.1, (⟨(2 : Int), false, v21.1, []⟩ : ValueS), (⟨(0 : Int), (0 : Int), (0 : Int)⟩ : Version), []⟩ : Query), v21.2)

noncomputable def Stream_RightQuery_j4 (n22 : Int) (v24 : Query × Fleetmake_Stream) (l28 : List Query) : Option (((List Int) × Int × (List Query) × Int) ⊕ (Query × Fleetmake_Stream)) :=
  some (.inl (v24.2.L, v24.2.at_, l28, w64 (n22 + (1 : Int))))

noncomputable def Stream_RightQuery_j3 (l21 : List Query) (n22 : Int) (v24 : Query × Fleetmake_Stream) (c26 : Bool) : Option (((List Int) × Int × (List Query) × Int) ⊕ (Query × Fleetmake_Stream)) :=
  if c26 = true then
    (app l21 v24.1.Kids).bind fun l29 =>
    Stream_RightQuery_j4 n22 v24 l29
  else
    (app l21 [v24.1]).bind fun l31 =>
    Stream_RightQuery_j4 n22 v24 l31

noncomputable def Stream_RightQuery_b1 (self : Fleetmake_Stream → Int → Option (Query × Fleetmake_Stream)) (p1x0 : Int) (v7 : Int × Fleetmake_Stream) (n11 : Int) (l18 : List Int) (n19 : Int) (l21 : List Query) (n22 : Int) : Option (((List Int) × Int × (List Query) × Int) ⊕ (Query × Fleetmake_Stream)) :=
  if n22 < n11 then
    (self (⟨l18, n19⟩ : Fleetmake_Stream) (w64 (p1x0 - (1 : Int)))).bind fun v24 =>
    Stream_RightQuery_j3 l21 n22 v24 ((decide (v24.1.Kind = v7.1)) && (decide (v7.1 ≠ (3 : Int))))
  else
    Option.map .inr (some ((⟨v7.1, [], [], (⟨(0 : Int), false, (0 : Int), []⟩ : ValueS), (⟨(0 : Int), (0 : Int), (0 : Int)⟩ : Version), l21⟩ : Query), (⟨l18, n19⟩ : Fleetmake_Stream)))

noncomputable def Stream_RightQuery_l1 (self : Fleetmake_Stream → Int → Option (Query × Fleetmake_Stream)) (p1x0 : Int) (v7 : Int × Fleetmake_Stream) (n11 : Int) (l18 : List Int) (n19 : Int) (l21 : List Query) (n22 : Int) : Option (Query × Fleetmake_Stream) :=
  iter (fun x : (List Int) × Int × (List Query) × Int => Stream_RightQuery_b1 self p1x0 v7 n11 x.1 x.2.1 x.2.2.1 x.2.2.2) (l18, n19, l21, n22)

noncomputable def Stream_RightQuery_j2 (self : Fleetmake_Stream → Int → Option (Query × Fleetmake_Stream)) (p1x0 : Int) (v7 : Int × Fleetmake_Stream) (l9 : List Int) (n10 : Int) (n11 : Int) : Option (Query × Fleetmake_Stream) :=
  Stream_RightQuery_l1 self p1x0 v7 n11 l9 n10 [] (0 : Int)

noncomputable def Stream_RightQuery_j1 (self : Fleetmake_Stream → Int → Option (Query × Fleetmake_Stream)) (p1x0 : Int) (l2 : List Int) (n3 : Int) (c4 : Bool) : Option (Query × Fleetmake_Stream) :=
  if c4 = true then
    (Stream_leaf (⟨l2, n3⟩ : Fleetmake_Stream)).bind fun v6 =>
    some (v6.1, v6.2)
  else
    (Stream_Pick (⟨l2, n3⟩ : Fleetmake_Stream) [(3 : Int), (4 : Int), (5 : Int)]).bind fun v7 =>
    if v7.1 ≠ (3 : Int) then
      (Stream_Pick v7.2 [(2 : Int), (2 : Int), (3 : Int)]).bind fun v12 =>
      Stream_RightQuery_j2 self p1x0 v7 v12.2.L v12.2.at_ v12.1
    else
      Stream_RightQuery_j2 self p1x0 v7 v7.2.L v7.2.at_ (1 : Int)

noncomputable def Stream_RightQuery_bd (self : Fleetmake_Stream → Int → Option (Query × Fleetmake_Stream)) (p0x0 : Fleetmake_Stream) (p1x0 : Int) : Option (Query × Fleetmake_Stream) :=
  if p1x0 = (0 : Int) then
    Stream_RightQuery_j1 self p1x0 p0x0.L p0x0.at_ true
  else
    (Stream_Flip p0x0 (3 : Int)).bind fun v5 =>
    Stream_RightQuery_j1 self p1x0 v5.2.L v5.2.at_ v5.1

/-- The function, to some depth. -/
noncomputable def Stream_RightQuery_r : Nat → Fleetmake_Stream → Int → Option (Query × Fleetmake_Stream)
  | 0 => fun _ _ => none
  | k + 1 => Stream_RightQuery_bd (Stream_RightQuery_r k)

noncomputable def Stream_RightQuery (p0x0 : Fleetmake_Stream) (p1x0 : Int) : Option (Query × Fleetmake_Stream) :=
  Stream_RightQuery_r depth p0x0 p1x0

noncomputable def Stream_RightOrg_j1 (n39 : Int) (v41 : Bool × Fleetmake_Stream) (l43 : List Member) : Option (((List Int) × Int × (List Member) × Int) ⊕ (((List Int) × Int × (List Member) × Int) ⊕ (((List Int) × Int × (List Member) × Int) ⊕ (Org × Fleetmake_Stream)))) :=
  some (.inl (v41.2.L, v41.2.at_, l43, w64 (n39 + (1 : Int))))

noncomputable def Stream_RightOrg_b3 (v18 : Str) (n28 : Int) (v29 : Str) (l35 : List Int) (n36 : Int) (l38 : List Member) (n39 : Int) : Option (((List Int) × Int × (List Member) × Int) ⊕ (((List Int) × Int × (List Member) × Int) ⊕ (((List Int) × Int × (List Member) × Int) ⊕ (Org × Fleetmake_Stream)))) :=
  if n39 < ([([97, 100, 109, 105, 110] : Str), ([101, 100, 105, 116] : Str), ([114, 101, 97, 100] : Str)].length : Int) then
    (idx [([97, 100, 109, 105, 110] : Str), ([101, 100, 105, 116] : Str), ([114, 101, 97, 100] : Str)] n39).bind fun v40 =>
    (Stream_Flip (⟨l35, n36⟩ : Fleetmake_Stream) (7 : Int)).bind fun v41 =>
    if v41.1 = true then
      (app l38 [(⟨v18, v29, v40⟩ : Member)]).bind fun l44 =>
      Stream_RightOrg_j1 n39 v41 l44
    else
      Stream_RightOrg_j1 n39 v41 l38
  else
    Option.map .inr (some (.inl (l35, n36, l38, w64 (n28 + (1 : Int)))))

noncomputable def Stream_RightOrg_l3 (v18 : Str) (n28 : Int) (v29 : Str) (l35 : List Int) (n36 : Int) (l38 : List Member) (n39 : Int) : Option (((List Int) × Int × (List Member) × Int) ⊕ (((List Int) × Int × (List Member) × Int) ⊕ (Org × Fleetmake_Stream))) :=
  iter (fun x : (List Int) × Int × (List Member) × Int => Stream_RightOrg_b3 v18 n28 v29 x.1 x.2.1 x.2.2.1 x.2.2.2) (l35, n36, l38, n39)

noncomputable def Stream_RightOrg_b2 (n16 : Int) (v18 : Str) (l24 : List Int) (n25 : Int) (l27 : List Member) (n28 : Int) : Option (((List Int) × Int × (List Member) × Int) ⊕ (((List Int) × Int × (List Member) × Int) ⊕ (Org × Fleetmake_Stream))) :=
  if n28 < ([([116, 97] : Str), ([116, 98] : Str), ([116, 99] : Str), ([116, 100] : Str)].length : Int) then
    (idx [([116, 97] : Str), ([116, 98] : Str), ([116, 99] : Str), ([116, 100] : Str)] n28).bind fun v29 =>
    Stream_RightOrg_l3 v18 n28 v29 l24 n25 l27 (0 : Int)
  else
    Option.map .inr (some (.inl (l24, n25, l27, w64 (n16 + (1 : Int)))))

noncomputable def Stream_RightOrg_l2 (n16 : Int) (v18 : Str) (l24 : List Int) (n25 : Int) (l27 : List Member) (n28 : Int) : Option (((List Int) × Int × (List Member) × Int) ⊕ (Org × Fleetmake_Stream)) :=
  iter (fun x : (List Int) × Int × (List Member) × Int => Stream_RightOrg_b2 n16 v18 x.1 x.2.1 x.2.2.1 x.2.2.2) (l24, n25, l27, n28)

noncomputable def Stream_RightOrg_j2 (n55 : Int) (l59 : List Int) (n60 : Int) (l62 : List Share) : Option (((List Int) × Int × (List Share) × Int) ⊕ (Org × Fleetmake_Stream)) :=
  some (.inl (l59, n60, l62, w64 (n55 + (1 : Int))))

noncomputable def Stream_RightOrg_j3 (l54 : List Share) (n55 : Int) (v57 : Str) (v63 : Int × Fleetmake_Stream) (v66 : Query × Fleetmake_Stream) (v67 : (List Str) × Fleetmake_Stream) (v68 : Int × Fleetmake_Stream) (v70 : Bool × Fleetmake_Stream) (q71 : Str) (q72 : Str) : Option (((List Int) × Int × (List Share) × Int) ⊕ (Org × Fleetmake_Stream)) :=
  (app l54 [(⟨v57, q71, q72, v66.1, v67.1, (⟨v63.1, w64 (v63.1 + v68.1)⟩ : Window)⟩ : Share)]).bind fun l73 =>
  Stream_RightOrg_j2 n55 v70.2.L v70.2.at_ l73

noncomputable def Stream_RightOrg_b4 (v2 : Str × Fleetmake_Stream) (v5 : (List Str) × Fleetmake_Stream) (l15 : List Member) (l51 : List Int) (n52 : Int) (l54 : List Share) (n55 : Int) : Option (((List Int) × Int × (List Share) × Int) ⊕ (Org × Fleetmake_Stream)) :=
  if n55 < ([([115, 97] : Str), ([115, 98] : Str)].length : Int) then
    (idx [([115, 97] : Str), ([115, 98] : Str)] n55).bind fun v57 =>
    (Stream_Flip (⟨l51, n52⟩ : Fleetmake_Stream) (2 : Int)).bind fun v58 =>
    if v58.1 = true then
      (Stream_Pick v58.2 [(0 : Int), (20 : Int), (50 : Int)]).bind fun v63 =>
      (Stream_Some v63.2 [([116, 97] : Str), ([116, 98] : Str)]).bind fun v64 =>
      (Stream_Pick v64.2 [(0 : Int), (1 : Int)]).bind fun v65 =>
      (Stream_RightQuery v65.2 v65.1).bind fun v66 =>
      (Stream_acts v66.2).bind fun v67 =>
      (Stream_Pick v67.2 [(0 : Int), (30 : Int), (100 : Int)]).bind fun v68 =>
      (Stream_Flip v68.2 (3 : Int)).bind fun v70 =>
      if v70.1 = true then
        Stream_RightOrg_j3 l54 n55 v57 v63 v66 v67 v68 v70 ([116, 100] : Str) v64.1
      else
        Stream_RightOrg_j3 l54 n55 v57 v63 v66 v67 v68 v70 v64.1 ([116, 100] : Str)
    else
      Stream_RightOrg_j2 n55 v58.2.L v58.2.at_ l54
  else
    Option.map .inr (some ((⟨[(⟨([116, 97] : Str), []⟩ : Tenant), (⟨([116, 98] : Str), ([116, 97] : Str)⟩ : Tenant), (⟨([116, 99] : Str), v2.1⟩ : Tenant), (⟨([116, 100] : Str), []⟩ : Tenant)], [(⟨([97, 100, 109, 105, 110] : Str), [([42] : Str)]⟩ : Role), (⟨([101, 100, 105, 116] : Str), v5.1⟩ : Role), (⟨([114, 101, 97, 100] : Str), [([100, 101, 118, 105, 99, 101, 46, 114, 101, 97, 100] : Str)]⟩ : Role)], l15, l54⟩ : Org), (⟨l51, n52⟩ : Fleetmake_Stream)))

noncomputable def Stream_RightOrg_l4 (v2 : Str × Fleetmake_Stream) (v5 : (List Str) × Fleetmake_Stream) (l15 : List Member) (l51 : List Int) (n52 : Int) (l54 : List Share) (n55 : Int) : Option (Org × Fleetmake_Stream) :=
  iter (fun x : (List Int) × Int × (List Share) × Int => Stream_RightOrg_b4 v2 v5 l15 x.1 x.2.1 x.2.2.1 x.2.2.2) (l51, n52, l54, n55)

noncomputable def Stream_RightOrg_b1 (v2 : Str × Fleetmake_Stream) (v5 : (List Str) × Fleetmake_Stream) (l12 : List Int) (n13 : Int) (l15 : List Member) (n16 : Int) : Option (((List Int) × Int × (List Member) × Int) ⊕ (Org × Fleetmake_Stream)) :=
  if n16 < ([([97, 110, 110] : Str), ([98, 111, 98] : Str)].length : Int) then
    (idx [([97, 110, 110] : Str), ([98, 111, 98] : Str)] n16).bind fun v18 =>
    Stream_RightOrg_l2 n16 v18 l12 n13 l15 (0 : Int)
  else
    Option.map .inr (Stream_RightOrg_l4 v2 v5 l15 l12 n13 [] (0 : Int))

noncomputable def Stream_RightOrg_l1 (v2 : Str × Fleetmake_Stream) (v5 : (List Str) × Fleetmake_Stream) (l12 : List Int) (n13 : Int) (l15 : List Member) (n16 : Int) : Option (Org × Fleetmake_Stream) :=
  iter (fun x : (List Int) × Int × (List Member) × Int => Stream_RightOrg_b1 v2 v5 x.1 x.2.1 x.2.2.1 x.2.2.2) (l12, n13, l15, n16)

noncomputable def Stream_RightOrg (p0x0 : Fleetmake_Stream) : Option (Org × Fleetmake_Stream) :=
  (Stream_Some p0x0 [([116, 98] : Str), ([116, 97] : Str), ([] : Str)]).bind fun v2 =>
  (Stream_acts v2.2).bind fun v5 =>
  Stream_RightOrg_l1 v2 v5 v5.2.L v5.2.at_ [] (0 : Int)

noncomputable def Stream_Range (p0x0 : Fleetmake_Stream) (p1x0 : Int) (p2x0 : Int) : Option (Int × Fleetmake_Stream) :=
  if p2x0 < p1x0 then
    some (p1x0, p0x0)
  else
    (Stream_Next p0x0 (w64 ((w64 (p2x0 - p1x0)) + (1 : Int)))).bind fun v1 =>
    some (w64 (p1x0 + v1.1), v1.2)

noncomputable def Stream_Odd (p0x0 : Fleetmake_Stream) (p1x0 : Int) (p2x0 : Int) : Option (Int × Fleetmake_Stream) :=
  (Stream_Flip p0x0 (12 : Int)).bind fun v1 =>
  if v1.1 = true then
    (Stream_Pick v1.2 [w64 (p1x0 - (1 : Int)), w64 (p2x0 + (1 : Int)), p1x0, p2x0, (-1099511627776 : Int), (1099511627776 : Int)]).bind fun v2 =>
    some (v2.1, v2.2)
  else
    (Stream_Range v1.2 p1x0 p2x0).bind fun v3 =>
    some (v3.1, v3.2)

/-- A copy of a list. -/
noncomputable def slices_Clone_Query_Query (p0x0 : List Query) : Option (List Query) :=
  app [] p0x0

noncomputable def Stream_Query_j1 (l6 : List Int) (n7 : Int) (n8 : Int) (q9 : Str) (q10 : Str) (n11 : Int) (c12 : Bool) (n13 : Int) (q14 : Str) (n15 : Int) (n16 : Int) (n17 : Int) (l18 : List Query) : Option (Query × Fleetmake_Stream) :=
  some ((⟨n8, q9, q10, (⟨n11, c12, n13, q14⟩ : ValueS), (⟨n15, n16, n17⟩ : Version), l18⟩ : Query), (⟨l6, n7⟩ : Fleetmake_Stream))

noncomputable def Stream_Query_j2 (l20 : List Int) (n21 : Int) (n22 : Int) (q23 : Str) (q24 : Str) (n25 : Int) (c26 : Bool) (n27 : Int) (q28 : Str) (n29 : Int) (n30 : Int) (n31 : Int) (l32 : List Query) : Option (Query × Fleetmake_Stream) :=
  Stream_Query_j1 l20 n21 n22 q23 q24 n25 c26 n27 q28 n29 n30 n31 l32

noncomputable def Stream_Query_j3 (l34 : List Int) (n35 : Int) (n36 : Int) (q37 : Str) (q38 : Str) (n39 : Int) (c40 : Bool) (n41 : Int) (q42 : Str) (n43 : Int) (n44 : Int) (n45 : Int) (l46 : List Query) : Option (Query × Fleetmake_Stream) :=
  Stream_Query_j2 l34 n35 n36 q37 q38 n39 c40 n41 q42 n43 n44 n45 l46

noncomputable def Stream_Query_j4 (l48 : List Int) (n49 : Int) (n50 : Int) (q51 : Str) (q52 : Str) (n53 : Int) (c54 : Bool) (n55 : Int) (q56 : Str) (n57 : Int) (n58 : Int) (n59 : Int) (l60 : List Query) : Option (Query × Fleetmake_Stream) :=
  Stream_Query_j3 l48 n49 n50 q51 q52 n53 c54 n55 q56 n57 n58 n59 l60

noncomputable def Stream_Query_j5 (l62 : List Int) (n63 : Int) (n64 : Int) (q65 : Str) (q66 : Str) (n67 : Int) (c68 : Bool) (n69 : Int) (q70 : Str) (n71 : Int) (n72 : Int) (n73 : Int) (l74 : List Query) : Option (Query × Fleetmake_Stream) :=
  Stream_Query_j4 l62 n63 n64 q65 q66 n67 c68 n69 q70 n71 n72 n73 l74

noncomputable def Stream_Query_j6 (l77 : List Int) (n78 : Int) (n79 : Int) (q80 : Str) (q81 : Str) (n82 : Int) (c83 : Bool) (n84 : Int) (q85 : Str) (n86 : Int) (n87 : Int) (n88 : Int) (l89 : List Query) : Option (Query × Fleetmake_Stream) :=
  Stream_Query_j5 l77 n78 n79 q80 q81 n82 c83 n84 q85 n86 n87 n88 l89

noncomputable def Stream_Query_b1 (v95 : Int × Fleetmake_Stream) (n108 : Int) (q109 : Str) (q110 : Str) (n111 : Int) (c112 : Bool) (n113 : Int) (q114 : Str) (n115 : Int) (n116 : Int) (n117 : Int) (l118 : List Query) (n119 : Int) : Option ((Int × Str × Str × Int × Bool × Int × Str × Int × Int × Int × (List Query) × Int) ⊕ (Query × Fleetmake_Stream)) :=
  if n119 < v95.1 then
    some (.inl ((3 : Int), [], [], (0 : Int), false, (0 : Int), [], (0 : Int), (0 : Int), (0 : Int), [(⟨n108, q109, q110, (⟨n111, c112, n113, q114⟩ : ValueS), (⟨n115, n116, n117⟩ : Version), l118⟩ : Query)], w64 (n119 + (1 : Int))))
  else
    Option.map .inr (Stream_Query_j6 v95.2.L v95.2.at_ n108 q109 q110 n111 c112 n113 q114 n115 n116 n117 l118)

noncomputable def Stream_Query_l1 (v95 : Int × Fleetmake_Stream) (n108 : Int) (q109 : Str) (q110 : Str) (n111 : Int) (c112 : Bool) (n113 : Int) (q114 : Str) (n115 : Int) (n116 : Int) (n117 : Int) (l118 : List Query) (n119 : Int) : Option (Query × Fleetmake_Stream) :=
  iter (fun x : Int × Str × Str × Int × Bool × Int × Str × Int × Int × Int × (List Query) × Int => Stream_Query_b1 v95 x.1 x.2.1 x.2.2.1 x.2.2.2.1 x.2.2.2.2.1 x.2.2.2.2.2.1 x.2.2.2.2.2.2.1 x.2.2.2.2.2.2.2.1 x.2.2.2.2.2.2.2.2.1 x.2.2.2.2.2.2.2.2.2.1 x.2.2.2.2.2.2.2.2.2.2.1 x.2.2.2.2.2.2.2.2.2.2.2) (n108, q109, q110, n111, c112, n113, q114, n115, n116, n117, l118, n119)

noncomputable def Stream_Query (p0x0 : Fleetmake_Stream) : Option (Query × Fleetmake_Stream) :=
  (Stream_Pick p0x0 [(0 : Int), (1 : Int), (1 : Int), (2 : Int)]).bind fun v2 =>
  (Stream_RightQuery v2.2 v2.1).bind fun v3 =>
  (Stream_Flip v3.2 (12 : Int)).bind fun v5 =>
  if v5.1 = true then
    (Stream_Next v5.2 (6 : Int)).bind fun v19 =>
    if v19.1 = (0 : Int) then
      (Stream_Odd v19.2 (1 : Int) (5 : Int)).bind fun v33 =>
      Stream_Query_j2 v33.2.L v33.2.at_ v33.1 v3.1.Field v3.1.Op v3.1.Value.Kind v3.1.Value.Flag v3.1.Value.Number v3.1.Value.Words v3.1.Version.Major v3.1.Version.Minor v3.1.Version.Patch v3.1.Kids
    else
      if v19.1 = (1 : Int) then
        (Stream_Some v19.2 [([] : Str), ([110, 111, 112, 101] : Str), ([116, 97, 103, 46] : Str), ([116, 97, 103, 46, 65] : Str), ([112, 114, 111, 112, 46, 97, 46] : Str), ([107, 101, 121] : Str), ([102, 105, 114, 109, 119, 97, 114, 101] : Str)]).bind fun v47 =>
        Stream_Query_j3 v47.2.L v47.2.at_ v3.1.Kind v47.1 v3.1.Op v3.1.Value.Kind v3.1.Value.Flag v3.1.Value.Number v3.1.Value.Words v3.1.Version.Major v3.1.Version.Minor v3.1.Version.Patch v3.1.Kids
      else
        if v19.1 = (2 : Int) then
          (Stream_Some v19.2 [([] : Str), ([61] : Str), ([60] : Str), ([61, 61] : Str)]).bind fun v61 =>
          Stream_Query_j4 v61.2.L v61.2.at_ v3.1.Kind v3.1.Field v61.1 v3.1.Value.Kind v3.1.Value.Flag v3.1.Value.Number v3.1.Value.Words v3.1.Version.Major v3.1.Version.Minor v3.1.Version.Patch v3.1.Kids
        else
          if v19.1 = (3 : Int) then
            (Stream_Next v19.2 (5 : Int)).bind fun v75 =>
            (idx [(⟨(0 : Int), false, (0 : Int), []⟩ : ValueS), (⟨(9 : Int), false, (0 : Int), []⟩ : ValueS), (⟨(1 : Int), false, (1 : Int), []⟩ : ValueS), (⟨(3 : Int), false, (0 : Int), ([255] : Str)⟩ : ValueS), (⟨(2 : Int), false, (1000000001 : Int), []⟩ : ValueS)] v75.1).bind fun v76 =>
            Stream_Query_j5 v75.2.L v75.2.at_ v3.1.Kind v3.1.Field v3.1.Op v76.Kind v76.Flag v76.Number v76.Words v3.1.Version.Major v3.1.Version.Minor v3.1.Version.Patch v3.1.Kids
          else
            if v19.1 = (4 : Int) then
              (slices_Clone_Query_Query v3.1.Kids).bind fun v90 =>
              (Stream_leaf v19.2).bind fun v92 =>
              (app v90 [v92.1]).bind fun l93 =>
              Stream_Query_j6 v92.2.L v92.2.at_ v3.1.Kind v3.1.Field v3.1.Op v3.1.Value.Kind v3.1.Value.Flag v3.1.Value.Number v3.1.Value.Words v3.1.Version.Major v3.1.Version.Minor v3.1.Version.Patch l93
            else
              (Stream_Pick v19.2 [(18 : Int), (19 : Int), (20 : Int)]).bind fun v95 =>
              Stream_Query_l1 v95 v3.1.Kind v3.1.Field v3.1.Op v3.1.Value.Kind v3.1.Value.Flag v3.1.Value.Number v3.1.Value.Words v3.1.Version.Major v3.1.Version.Minor v3.1.Version.Patch v3.1.Kids (0 : Int)
  else
    Stream_Query_j1 v5.2.L v5.2.at_ v3.1.Kind v3.1.Field v3.1.Op v3.1.Value.Kind v3.1.Value.Flag v3.1.Value.Number v3.1.Value.Words v3.1.Version.Major v3.1.Version.Minor v3.1.Version.Patch v3.1.Kids

noncomputable def Stream_Span_j1 (l6 : List Int) (n7 : Int) (n8 : Int) (n9 : Int) : Option (Window × Fleetmake_Stream) :=
  some ((⟨n8, n9⟩ : Window), (⟨l6, n7⟩ : Fleetmake_Stream))

noncomputable def Stream_Span (p0x0 : Fleetmake_Stream) : Option (Window × Fleetmake_Stream) :=
  (Stream_Pick p0x0 [(0 : Int), (5 : Int), (30 : Int), (100 : Int)]).bind fun v2 =>
  (Stream_Pick v2.2 [(30 : Int), (100 : Int), (250 : Int), (1000 : Int), (345686400000 : Int)]).bind fun v3 =>
  (Stream_Flip v3.2 (20 : Int)).bind fun v5 =>
  if v5.1 = true then
    (Stream_Pick v5.2 [(-1 : Int), (10 : Int)]).bind fun v10 =>
    (Stream_Pick v10.2 [(9 : Int), (345686400001 : Int)]).bind fun v11 =>
    Stream_Span_j1 v11.2.L v11.2.at_ v10.1 v11.1
  else
    Stream_Span_j1 v5.2.L v5.2.at_ v2.1 v3.1

noncomputable def Stream_Org_j1 (l9 : List Int) (n10 : Int) (l12 : List Tenant) (l14 : List Role) (l16 : List Member) (l18 : List Share) : Option (Org × Fleetmake_Stream) :=
  some ((⟨l12, l14, l16, l18⟩ : Org), (⟨l9, n10⟩ : Fleetmake_Stream))

noncomputable def Stream_Org_j2 (l20 : List Int) (n21 : Int) (l23 : List Tenant) (l25 : List Role) (l27 : List Member) (l29 : List Share) : Option (Org × Fleetmake_Stream) :=
  Stream_Org_j1 l20 n21 l23 l25 l27 l29

noncomputable def Stream_Org_j3 (l33 : List Int) (n34 : Int) (l36 : List Tenant) (l38 : List Role) (l40 : List Member) (l42 : List Share) : Option (Org × Fleetmake_Stream) :=
  Stream_Org_j2 l33 n34 l36 l38 l40 l42

noncomputable def Stream_Org_j4 (v2 : Org × Fleetmake_Stream) (l47 : List Int) (n48 : Int) (l50 : List Role) (l52 : List Member) (l54 : List Share) : Option (Org × Fleetmake_Stream) :=
  Stream_Org_j3 l47 n48 v2.1.Tenants l50 l52 l54

noncomputable def Stream_Org_j5 (v2 : Org × Fleetmake_Stream) (l60 : List Int) (n61 : Int) (l63 : List Member) (l65 : List Share) : Option (Org × Fleetmake_Stream) :=
  Stream_Org_j4 v2 l60 n61 v2.1.Roles l63 l65

noncomputable def Stream_Org_j6 (v2 : Org × Fleetmake_Stream) (l71 : List Int) (n72 : Int) (l74 : List Share) : Option (Org × Fleetmake_Stream) :=
  Stream_Org_j5 v2 l71 n72 v2.1.Members l74

noncomputable def Stream_Org_j7 (v2 : Org × Fleetmake_Stream) (l83 : List Int) (n84 : Int) (l85 : List Share) : Option (Org × Fleetmake_Stream) :=
  Stream_Org_j6 v2 l83 n84 l85

noncomputable def Stream_Org (p0x0 : Fleetmake_Stream) : Option (Org × Fleetmake_Stream) :=
  (Stream_RightOrg p0x0).bind fun v2 =>
  (Stream_Flip v2.2 (10 : Int)).bind fun v8 =>
  if v8.1 = true then
    (Stream_Next v8.2 (6 : Int)).bind fun v19 =>
    if v19.1 = (0 : Int) then
      (Stream_Next v19.2 (4 : Int)).bind fun v30 =>
      (Stream_Some v30.2 [([116, 99] : Str), ([116, 97] : Str), ([110, 111, 110, 101] : Str), ([116, 98] : Str)]).bind fun v31 =>
      (idx v2.1.Tenants v30.1).bind fun v32 =>
      Stream_Org_j2 v31.2.L v31.2.at_ (v2.1.Tenants.set v30.1.toNat (⟨v32.Key, v31.1⟩ : Tenant)) v2.1.Roles v2.1.Members v2.1.Shares
    else
      if v19.1 = (1 : Int) then
        (Stream_Some v19.2 [([] : Str), ([116, 97] : Str), ([116, 122] : Str)]).bind fun v43 =>
        (Stream_Some v43.2 [([] : Str), ([116, 100] : Str)]).bind fun v44 =>
        (app v2.1.Tenants [(⟨v43.1, v44.1⟩ : Tenant)]).bind fun l45 =>
        Stream_Org_j3 v44.2.L v44.2.at_ l45 v2.1.Roles v2.1.Members v2.1.Shares
      else
        if v19.1 = (2 : Int) then
          (Stream_Some v19.2 [([] : Str), ([114, 101, 97, 100] : Str), ([122, 122] : Str)]).bind fun v55 =>
          (Stream_Next v55.2 (6 : Int)).bind fun v56 =>
          (idx [[], [([97, 42] : Str)], [([42, 46, 97] : Str)], [([98] : Str), ([97] : Str)], [([97, 46, 98, 46, 99, 46, 100, 46, 101, 46, 102] : Str)], [([97, 46, 42] : Str)]] v56.1).bind fun v57 =>
          (app v2.1.Roles [(⟨v55.1, v57⟩ : Role)]).bind fun l58 =>
          Stream_Org_j4 v2 v56.2.L v56.2.at_ l58 v2.1.Members v2.1.Shares
        else
          if v19.1 = (3 : Int) then
            (Stream_Some v19.2 [([] : Str), ([97, 110, 110] : Str), ([122, 101, 100] : Str)]).bind fun v66 =>
            (Stream_Some v66.2 [([116, 97] : Str), ([110, 111, 110, 101] : Str)]).bind fun v67 =>
            (Stream_Some v67.2 [([114, 101, 97, 100] : Str), ([110, 111, 110, 101] : Str)]).bind fun v68 =>
            (app v2.1.Members [(⟨v66.1, v67.1, v68.1⟩ : Member)]).bind fun l69 =>
            Stream_Org_j5 v2 v68.2.L v68.2.at_ l69 v2.1.Shares
          else
            if v19.1 = (4 : Int) then
              (Stream_Some v19.2 [([] : Str), ([115, 97] : Str), ([115, 122] : Str)]).bind fun v75 =>
              (Stream_Some v75.2 [([116, 97] : Str), ([110, 111, 110, 101] : Str), ([116, 100] : Str)]).bind fun v76 =>
              (Stream_Some v76.2 [([116, 100] : Str), ([116, 98] : Str), ([110, 111, 110, 101] : Str)]).bind fun v77 =>
              (Stream_Query v77.2).bind fun v78 =>
              (Stream_acts v78.2).bind fun v79 =>
              (Stream_Span v79.2).bind fun v80 =>
              (app v2.1.Shares [(⟨v75.1, v76.1, v77.1, v78.1, v79.1, v80.1⟩ : Share)]).bind fun l81 =>
              Stream_Org_j6 v2 v80.2.L v80.2.at_ l81
            else
              if (0 : Int) < (v2.1.Shares.length : Int) then
                (Stream_Next v19.2 (3 : Int)).bind fun v86 =>
                (idx [[], [([65] : Str)], [([98] : Str), ([97] : Str)]] v86.1).bind fun v87 =>
                (idx v2.1.Shares (0 : Int)).bind fun v88 =>
                Stream_Org_j7 v2 v86.2.L v86.2.at_ (v2.1.Shares.set (0 : Int).toNat (⟨v88.Key, v88.From, v88.To, v88.Query, v87, v88.Time⟩ : Share))
              else
                Stream_Org_j7 v2 v19.2.L v19.2.at_ v2.1.Shares
  else
    Stream_Org_j1 v8.2.L v8.2.at_ v2.1.Tenants v2.1.Roles v2.1.Members v2.1.Shares

noncomputable def L_OrgsChecked_1x (p0x0 : Fleetmake_Stream) : Option (Str × Fleetmake_Stream) :=
  (Stream_Some p0x0 [([42] : Str), ([97, 46, 42] : Str), ([97, 46, 98, 46, 42] : Str), ([97] : Str), ([97, 46, 98] : Str), ([97, 46, 98, 46, 99] : Str), ([97, 98] : Str), ([65] : Str), ([97, 46] : Str), ([42, 46, 97] : Str), ([97, 46, 98, 46, 99, 46, 100, 46, 101] : Str), ([97, 46, 98, 46, 99, 46, 100, 46, 101, 46, 102] : Str), ([97, 46, 98, 46, 99, 46, 100, 46, 42] : Str)]).bind fun v1 =>
  some (v1.1, v1.2)

noncomputable def slices_Grow_string_string_n0x_j1 (l2 : List Str) : Option (List Str) :=
  some l2

noncomputable def slices_Grow_string_string_n0x (p1x0 : Int) : Option (List Str) :=
  if p1x0 < (0 : Int) then
    none
  else
    if (0 : Int) < (w64 (p1x0 - (w64 ((0 : Int) - (0 : Int))))) then
      (slc ([] : List Str) (0 : Int) (0 : Int)).bind fun l3 =>
      (mkS [] (w64 (p1x0 - (w64 ((0 : Int) - (0 : Int))))) (w64 (p1x0 - (w64 ((0 : Int) - (0 : Int)))))).bind fun l4 =>
      (slc l4 (0 : Int) (0 : Int)).bind fun l6 =>
      slices_Grow_string_string_n0x_j1 l6
    else
      slices_Grow_string_string_n0x_j1 []

noncomputable def slices_Concat_string_string_b2 (p0x0 : List (List Str)) (l12 : List Str) (n13 : Int) : Option (((List Str) × Int) ⊕ (List Str)) :=
  if n13 < (p0x0.length : Int) then
    (idx p0x0 n13).bind fun v14 =>
    (app l12 v14).bind fun l15 =>
    some (.inl (l15, w64 (n13 + (1 : Int))))
  else
    Option.map .inr (some l12)

noncomputable def slices_Concat_string_string_l2 (p0x0 : List (List Str)) (l12 : List Str) (n13 : Int) : Option (List Str) :=
  iter (fun x : (List Str) × Int => slices_Concat_string_string_b2 p0x0 x.1 x.2) (l12, n13)

noncomputable def slices_Concat_string_string_k1 (p0x0 : List (List Str)) (n3 : Int) : Option (List Str) :=
  (slices_Grow_string_string_n0x n3).bind fun v6 =>
  slices_Concat_string_string_l2 p0x0 v6 (0 : Int)

noncomputable def slices_Concat_string_string_b1 (p0x0 : List (List Str)) (n3 : Int) (n4 : Int) : Option ((Int × Int) ⊕ (List Str)) :=
  if n4 < (p0x0.length : Int) then
    (idx p0x0 n4).bind fun v5 =>
    if (w64 (n3 + (v5.length : Int))) < (0 : Int) then
      none
    else
      some (.inl (w64 (n3 + (v5.length : Int)), w64 (n4 + (1 : Int))))
  else
    Option.map .inr (slices_Concat_string_string_k1 p0x0 n3)

noncomputable def slices_Concat_string_string_l1 (p0x0 : List (List Str)) (n3 : Int) (n4 : Int) : Option (List Str) :=
  iter (fun x : Int × Int => slices_Concat_string_string_b1 p0x0 x.1 x.2) (n3, n4)

noncomputable def slices_Concat_string_string (p0x0 : List (List Str)) : Option (List Str) :=
  slices_Concat_string_string_l1 p0x0 (0 : Int) (0 : Int)

noncomputable def internal_stringslite_HasSuffix_j1 (c1 : Bool) : Option Bool :=
  some c1

noncomputable def internal_stringslite_HasSuffix (p0x0 : Str) (p1x0 : Str) : Option Bool :=
  if (p1x0.length : Int) ≤ (p0x0.length : Int) then
    (slc p0x0 (w64 ((p0x0.length : Int) - (p1x0.length : Int))) (p0x0.length : Int)).bind fun l2 =>
    internal_stringslite_HasSuffix_j1 (decide (l2 = p1x0))
  else
    internal_stringslite_HasSuffix_j1 false

noncomputable def internal_stringslite_CutSuffix (p0x0 : Str) (p1x0 : Str) : Option (Str × Bool) :=
  (internal_stringslite_HasSuffix p0x0 p1x0).bind fun v1 =>
  if (!v1) = true then
    some (p0x0, false)
  else
    (slc p0x0 (0 : Int) (w64 ((p0x0.length : Int) - (p1x0.length : Int)))).bind fun l2 =>
    some (l2, true)

noncomputable def strings_CutSuffix (p0x0 : Str) (p1x0 : Str) : Option (Str × Bool) :=
  (internal_stringslite_CutSuffix p0x0 p1x0).bind fun v1 =>
  some (v1.1, v1.2)

noncomputable def base_Key_j2 (n5 : Int) (c7 : Bool) : Option (Int ⊕ Bool) :=
  if c7 = true then
    Option.map .inr (some false)
  else
    some (.inl (w64 (n5 + (1 : Int))))

noncomputable def base_Key_b1 (p0x0 : Str) (n5 : Int) : Option (Int ⊕ Bool) :=
  if n5 < (p0x0.length : Int) then
    (idx p0x0 n5).bind fun c6 =>
    base_Key_j2 n5 (if (97 : Int) ≤ (c6.toNat : Int) then if (c6.toNat : Int) ≤ (122 : Int) then !true else if (48 : Int) ≤ (c6.toNat : Int) then if (c6.toNat : Int) ≤ (57 : Int) then !true else if (c6.toNat : Int) = (45 : Int) then !true else decide (¬ ((c6.toNat : Int) = (95 : Int))) else if (c6.toNat : Int) = (45 : Int) then !true else decide (¬ ((c6.toNat : Int) = (95 : Int))) else if (48 : Int) ≤ (c6.toNat : Int) then if (c6.toNat : Int) ≤ (57 : Int) then !true else if (c6.toNat : Int) = (45 : Int) then !true else decide (¬ ((c6.toNat : Int) = (95 : Int))) else if (c6.toNat : Int) = (45 : Int) then !true else decide (¬ ((c6.toNat : Int) = (95 : Int))))
  else
    Option.map .inr (some true)

noncomputable def base_Key_l1 (p0x0 : Str) (n5 : Int) : Option Bool :=
  iter (fun x : Int => base_Key_b1 p0x0 x) n5

noncomputable def base_Key_j1 (p0x0 : Str) (c1 : Bool) : Option Bool :=
  if c1 = true then
    some false
  else
    base_Key_l1 p0x0 (0 : Int)

noncomputable def base_Key (p0x0 : Str) : Option Bool :=
  if p0x0 = ([] : Str) then
    base_Key_j1 p0x0 true
  else
    if (40 : Int) < (p0x0.length : Int) then
      base_Key_j1 p0x0 true
    else
      (idx p0x0 (0 : Int)).bind fun c2 =>
      if (c2.toNat : Int) < (97 : Int) then
        base_Key_j1 p0x0 true
      else
        (idx p0x0 (0 : Int)).bind fun c3 =>
        base_Key_j1 p0x0 (decide ((122 : Int) < (c3.toNat : Int)))

noncomputable def base_Dotted_b1 (p1x0 : Int) (q3 : Str) (n4 : Int) : Option ((Str × Int) ⊕ Bool) :=
  if n4 < p1x0 then
    (cutO q3 ([46] : Str)).bind fun v5 =>
    (base_Key v5.1).bind fun v6 =>
    if (!v6) = true then
      Option.map .inr (some false)
    else
      if (!v5.2.2) = true then
        Option.map .inr (some true)
      else
        some (.inl (v5.2.1, w64 (n4 + (1 : Int))))
  else
    Option.map .inr (some false)

noncomputable def base_Dotted_l1 (p1x0 : Int) (q3 : Str) (n4 : Int) : Option Bool :=
  iter (fun x : Str × Int => base_Dotted_b1 p1x0 x.1 x.2) (q3, n4)

noncomputable def base_Dotted (p0x0 : Str) (p1x0 : Int) : Option Bool :=
  base_Dotted_l1 p1x0 p0x0 (0 : Int)

noncomputable def tenant_isPlain (p0x0 : Str) : Option Bool :=
  (base_Dotted p0x0 (5 : Int)).bind fun v1 =>
  some v1

noncomputable def tenant_isAct_j1 (c4 : Bool) : Option Bool :=
  some c4

noncomputable def tenant_isAct (p0x0 : Str) : Option Bool :=
  (strings_CutSuffix p0x0 ([42] : Str)).bind fun v1 =>
  if (!v1.2) = true then
    (tenant_isPlain p0x0).bind fun v2 =>
    some v2
  else
    if v1.1 = ([] : Str) then
      some true
    else
      (strings_CutSuffix v1.1 ([46] : Str)).bind fun v3 =>
      if v3.2 = true then
        (base_Dotted v3.1 (4 : Int)).bind fun v5 =>
        tenant_isAct_j1 v5
      else
        tenant_isAct_j1 false

noncomputable def tenant_Covers_1x (p0x0 : Str) : Option Bool :=
  (tenant_isAct p0x0).bind fun v1 =>
  some (!v1)

noncomputable def slices_IndexFunc_string_string_b1 (p0x0 : List Str) (fnb : Str → Option Bool) (n2 : Int) : Option (Int ⊕ Int) :=
  if n2 < (p0x0.length : Int) then
    (idx p0x0 n2).bind fun v3 =>
    (fnb v3).bind fun v4 =>
    if v4 = true then
      Option.map .inr (some n2)
    else
      some (.inl (w64 (n2 + (1 : Int))))
  else
    Option.map .inr (some (-1 : Int))

noncomputable def slices_IndexFunc_string_string_l1 (p0x0 : List Str) (fnb : Str → Option Bool) (n2 : Int) : Option Int :=
  iter (fun x : Int => slices_IndexFunc_string_string_b1 p0x0 fnb x) n2

noncomputable def slices_IndexFunc_string_string (p0x0 : List Str) (fnb : Str → Option Bool) : Option Int :=
  slices_IndexFunc_string_string_l1 p0x0 fnb (0 : Int)

noncomputable def slices_ContainsFunc_string_string (p0x0 : List Str) (fnb : Str → Option Bool) : Option Bool :=
  (slices_IndexFunc_string_string p0x0 fnb).bind fun v1 =>
  some (decide ((0 : Int) ≤ v1))

noncomputable def internal_stringslite_HasPrefix_j1 (c1 : Bool) : Option Bool :=
  some c1

noncomputable def internal_stringslite_HasPrefix (p0x0 : Str) (p1x0 : Str) : Option Bool :=
  if (p1x0.length : Int) ≤ (p0x0.length : Int) then
    (slc p0x0 (0 : Int) (p1x0.length : Int)).bind fun l2 =>
    internal_stringslite_HasPrefix_j1 (decide (l2 = p1x0))
  else
    internal_stringslite_HasPrefix_j1 false

noncomputable def strings_HasPrefix (p0x0 : Str) (p1x0 : Str) : Option Bool :=
  (internal_stringslite_HasPrefix p0x0 p1x0).bind fun v1 =>
  some v1

noncomputable def tenant_covers_j1 (c2 : Bool) : Option Bool :=
  some c2

noncomputable def tenant_covers (p0x0 : Str) (p1x0 : Str) : Option Bool :=
  (strings_CutSuffix p0x0 ([42] : Str)).bind fun v1 =>
  if p0x0 = p1x0 then
    tenant_covers_j1 true
  else
    if v1.2 = true then
      (strings_HasPrefix p1x0 v1.1).bind fun v3 =>
      tenant_covers_j1 v3
    else
      tenant_covers_j1 false

noncomputable def tenant_covered_1x (p0x0 : Str) (p1x0 : Str) : Option Bool :=
  (tenant_covers p0x0 p1x0).bind fun v1 =>
  some v1

noncomputable def tenant_covered (p0x0 : List Str) (p1x0 : Str) : Option Bool :=
  (slices_ContainsFunc_string_string p0x0 (fun y0 => tenant_covered_1x y0 p1x0)).bind fun v2 =>
  some v2

noncomputable def tenant_allCovered_1x (p0x0 : Str) (p1x0 : List Str) : Option Bool :=
  (tenant_covered p1x0 p0x0).bind fun v1 =>
  some (!v1)

noncomputable def tenant_allCovered (p0x0 : List Str) (p1x0 : List Str) : Option Bool :=
  (slices_ContainsFunc_string_string p1x0 (fun y0 => tenant_allCovered_1x y0 p0x0)).bind fun v2 =>
  some (!v2)

noncomputable def tenant_Covers_j1 (p0x0 : List Str) (p1x0 : List Str) (c4 : Bool) : Option (Bool × Int) :=
  if c4 = true then
    some (false, (2 : Int))
  else
    (tenant_allCovered p0x0 p1x0).bind fun v5 =>
    some (v5, (0 : Int))

noncomputable def tenant_Covers (p0x0 : List Str) (p1x0 : List Str) : Option (Bool × Int) :=
  (slices_Concat_string_string [p0x0, p1x0]).bind fun v1 =>
  (slices_ContainsFunc_string_string v1 (fun y0 => tenant_Covers_1x y0)).bind fun v3 =>
  if v3 = true then
    some (false, (5 : Int))
  else
    tenant_Covers_j1 p0x0 p1x0 ((decide ((50 : Int) < (p0x0.length : Int))) || (decide ((50 : Int) < (p1x0.length : Int))))

noncomputable def Q_in_j1 (c1 : Bool) : Bool :=
  c1

noncomputable def Q_in (p0x0 : Int) (p1x0 : Int) (p2x0 : Int) : Bool :=
  Q_in_j1 ((decide (p1x0 ≤ p0x0)) && (decide (p0x0 ≤ p2x0)))

noncomputable def Q_Key_j1 (c1 : Bool) : Option Bool :=
  some c1

noncomputable def Q_Key (p0x0 : Str) : Option Bool :=
  if (Q_in (p0x0.length : Int) (1 : Int) (40 : Int)) = true then
    (trimO p0x0 ([97, 98, 99, 100, 101, 102, 103, 104, 105, 106, 107, 108, 109, 110, 111, 112, 113, 114, 115, 116, 117, 118, 119, 120, 121, 122, 48, 49, 50, 51, 52, 53, 54, 55, 56, 57, 45, 95] : Str)).bind fun v2 =>
    if v2 = ([] : Str) then
      (idx p0x0 (0 : Int)).bind fun c3 =>
      Q_Key_j1 (decide ((0 : Int) ≤ (indexByteI ([97, 98, 99, 100, 101, 102, 103, 104, 105, 106, 107, 108, 109, 110, 111, 112, 113, 114, 115, 116, 117, 118, 119, 120, 121, 122] : Str) (c3.toNat : Int))))
    else
      Q_Key_j1 false
  else
    Q_Key_j1 false

noncomputable def Q_ActRight_1x (p0x0 : Str) : Option Bool :=
  (Q_Key p0x0).bind fun v1 =>
  some (!v1)

noncomputable def Q_ActRight_j3 (c9 : Bool) : Option Bool :=
  some c9

noncomputable def Q_ActRight_j2 (p0x0 : Str) (l5 : List Str) : Option Bool :=
  (splitO p0x0 ([46] : Str)).bind fun v10 =>
  if (v10.length : Int) ≤ (5 : Int) then
    (slices_ContainsFunc_string_string l5 (fun y0 => Q_ActRight_1x y0)).bind fun v12 =>
    Q_ActRight_j3 (!v12)
  else
    Q_ActRight_j3 false

noncomputable def Q_ActRight_j1 (p0x0 : Str) (v1 : (List Str)) (c3 : Bool) : Option Bool :=
  if c3 = true then
    (slc v1 (0 : Int) (w64 ((v1.length : Int) - (1 : Int)))).bind fun l6 =>
    Q_ActRight_j2 p0x0 l6
  else
    (idx v1 (w64 ((v1.length : Int) - (1 : Int)))).bind fun v7 =>
    (Q_Key v7).bind fun v8 =>
    if (!v8) = true then
      some false
    else
      Q_ActRight_j2 p0x0 v1

noncomputable def Q_ActRight (p0x0 : Str) (p1x0 : Bool) : Option Bool :=
  (splitO p0x0 ([46] : Str)).bind fun v1 =>
  if (!p1x0) = true then
    (idx v1 (w64 ((v1.length : Int) - (1 : Int)))).bind fun v4 =>
    Q_ActRight_j1 p0x0 v1 (decide (v4 = ([42] : Str)))
  else
    Q_ActRight_j1 p0x0 v1 false

noncomputable def Q_CoversFault_j1 (c7 : Bool) : Option Int :=
  if c7 = true then
    some (2 : Int)
  else
    some (0 : Int)

noncomputable def Q_CoversFault_b1 (p0x0 : List Str) (p1x0 : List Str) (v1 : (List Str)) (n4 : Int) : Option (Int ⊕ Int) :=
  if n4 < (v1.length : Int) then
    (idx v1 n4).bind fun v5 =>
    (Q_ActRight v5 false).bind fun v6 =>
    if (!v6) = true then
      Option.map .inr (some (5 : Int))
    else
      some (.inl (w64 (n4 + (1 : Int))))
  else
    Option.map .inr (Q_CoversFault_j1 ((decide ((50 : Int) < (p0x0.length : Int))) || (decide ((50 : Int) < (p1x0.length : Int)))))

noncomputable def Q_CoversFault_l1 (p0x0 : List Str) (p1x0 : List Str) (v1 : (List Str)) (n4 : Int) : Option Int :=
  iter (fun x : Int => Q_CoversFault_b1 p0x0 p1x0 v1 x) n4

noncomputable def Q_CoversFault (p0x0 : List Str) (p1x0 : List Str) : Option Int :=
  (slices_Concat_string_string [p0x0, p1x0]).bind fun v1 =>
  Q_CoversFault_l1 p0x0 p1x0 v1 (0 : Int)

noncomputable def Q_covered_j1 (c2 : Bool) : Option Bool :=
  some c2

noncomputable def Q_covered (p0x0 : Str) (p1x0 : Str) : Option Bool :=
  (strings_CutSuffix p0x0 ([42] : Str)).bind fun v1 =>
  if p0x0 = p1x0 then
    Q_covered_j1 true
  else
    if v1.2 = true then
      (strings_HasPrefix p1x0 v1.1).bind fun v3 =>
      Q_covered_j1 v3
    else
      Q_covered_j1 false

noncomputable def Q_CoversAll_1x_1x (p0x0 : Str) (p1x0 : Str) : Option Bool :=
  (Q_covered p0x0 p1x0).bind fun v1 =>
  some v1

noncomputable def Q_CoversAll_1x (p0x0 : Str) (p1x0 : List Str) : Option Bool :=
  (slices_ContainsFunc_string_string p1x0 (fun y0 => Q_CoversAll_1x_1x y0 p0x0)).bind fun v2 =>
  some (!v2)

noncomputable def Q_CoversAll (p0x0 : List Str) (p1x0 : List Str) : Option Bool :=
  (slices_ContainsFunc_string_string p1x0 (fun y0 => Q_CoversAll_1x y0 p0x0)).bind fun v2 =>
  some (!v2)

noncomputable def Q_tenantAt_1x (p0x0 : Tenant) (p1x0 : Str) : Bool :=
  decide (p0x0.Key = p1x0)

noncomputable def slices_IndexFunc_Tenant_Tenant_b1 (p0x0 : List Tenant) (fnb : Tenant → Option Bool) (n2 : Int) : Option (Int ⊕ Int) :=
  if n2 < (p0x0.length : Int) then
    (idx p0x0 n2).bind fun v3 =>
    (fnb v3).bind fun v4 =>
    if v4 = true then
      Option.map .inr (some n2)
    else
      some (.inl (w64 (n2 + (1 : Int))))
  else
    Option.map .inr (some (-1 : Int))

noncomputable def slices_IndexFunc_Tenant_Tenant_l1 (p0x0 : List Tenant) (fnb : Tenant → Option Bool) (n2 : Int) : Option Int :=
  iter (fun x : Int => slices_IndexFunc_Tenant_Tenant_b1 p0x0 fnb x) n2

noncomputable def slices_IndexFunc_Tenant_Tenant (p0x0 : List Tenant) (fnb : Tenant → Option Bool) : Option Int :=
  slices_IndexFunc_Tenant_Tenant_l1 p0x0 fnb (0 : Int)

noncomputable def Q_tenantAt (p0x0 : Org) (p1x0 : Str) : Option Int :=
  (slices_IndexFunc_Tenant_Tenant p0x0.Tenants (fun y0 => some (Q_tenantAt_1x y0 p1x0))).bind fun v3 =>
  some v3

noncomputable def slices_Index_string_string_b1 (p0x0 : List Str) (p1x0 : Str) (n2 : Int) : Option (Int ⊕ Int) :=
  if n2 < (p0x0.length : Int) then
    (idx p0x0 n2).bind fun v3 =>
    if p1x0 = v3 then
      Option.map .inr (some n2)
    else
      some (.inl (w64 (n2 + (1 : Int))))
  else
    Option.map .inr (some (-1 : Int))

noncomputable def slices_Index_string_string_l1 (p0x0 : List Str) (p1x0 : Str) (n2 : Int) : Option Int :=
  iter (fun x : Int => slices_Index_string_string_b1 p0x0 p1x0 x) n2

noncomputable def slices_Index_string_string (p0x0 : List Str) (p1x0 : Str) : Option Int :=
  slices_Index_string_string_l1 p0x0 p1x0 (0 : Int)

noncomputable def slices_Contains_string_string (p0x0 : List Str) (p1x0 : Str) : Option Bool :=
  (slices_Index_string_string p0x0 p1x0).bind fun v1 =>
  some (decide ((0 : Int) ≤ v1))

noncomputable def Q_pathOf_b1 (p0x0 : Org) (q5 : Str) (l7 : List Str) : Option ((Str × (List Str)) ⊕ (List Str)) :=
  if q5 ≠ ([] : Str) then
    (slices_Contains_string_string l7 q5).bind fun v9 =>
    if v9 = true then
      Option.map .inr (some [])
    else
      (app l7 [q5]).bind fun l10 =>
      (Q_tenantAt p0x0 q5).bind fun v12 =>
      (idx p0x0.Tenants v12).bind fun v13 =>
      some (.inl (v13.Parent, l10))
  else
    Option.map .inr (some l7)

noncomputable def Q_pathOf_l1 (p0x0 : Org) (q5 : Str) (l7 : List Str) : Option (List Str) :=
  iter (fun x : Str × (List Str) => Q_pathOf_b1 p0x0 x.1 x.2) (q5, l7)

noncomputable def Q_pathOf (p0x0 : Org) (p1x0 : Str) : Option (List Str) :=
  Q_pathOf_l1 p0x0 p1x0 []

noncomputable def Q_pathOf_nil_b1 (p0x0 : Org) (q5 : Str) (l7 : List Str) : Option ((Str × (List Str)) ⊕ (Option (List Str))) :=
  if q5 ≠ ([] : Str) then
    (slices_Contains_string_string l7 q5).bind fun v9 =>
    if v9 = true then
      Option.map .inr (some none)
    else
      (app l7 [q5]).bind fun l10 =>
      (Q_tenantAt p0x0 q5).bind fun v12 =>
      (idx p0x0.Tenants v12).bind fun v13 =>
      some (.inl (v13.Parent, l10))
  else
    Option.map .inr (some (some l7))

noncomputable def Q_pathOf_nil_l1 (p0x0 : Org) (q5 : Str) (l7 : List Str) : Option (Option (List Str)) :=
  iter (fun x : Str × (List Str) => Q_pathOf_nil_b1 p0x0 x.1 x.2) (q5, l7)

noncomputable def Q_pathOf_nil (p0x0 : Org) (p1x0 : Str) : Option (Option (List Str)) :=
  Q_pathOf_nil_l1 p0x0 p1x0 []

noncomputable def Q_tenantsFault_j1 (n3 : Int) (c7 : Bool) : Option (Int ⊕ Int) :=
  if c7 = true then
    Option.map .inr (some (7 : Int))
  else
    some (.inl (w64 (n3 + (1 : Int))))

noncomputable def Q_tenantsFault_j2 (n10 : Int) (c13 : Bool) : Option (Int ⊕ Int) :=
  if c13 = true then
    Option.map .inr (some (8 : Int))
  else
    some (.inl (w64 (n10 + (1 : Int))))

noncomputable def Q_tenantsFault_b4 (p0x0 : Org) (n24 : Int) : Option (Int ⊕ Int) :=
  if n24 < (p0x0.Tenants.length : Int) then
    (idx p0x0.Tenants n24).bind fun v25 =>
    (Q_pathOf p0x0 v25.Key).bind fun v27 =>
    if (11 : Int) < (v27.length : Int) then
      Option.map .inr (some (2 : Int))
    else
      some (.inl (w64 (n24 + (1 : Int))))
  else
    Option.map .inr (some (0 : Int))

noncomputable def Q_tenantsFault_l4 (p0x0 : Org) (n24 : Int) : Option Int :=
  iter (fun x : Int => Q_tenantsFault_b4 p0x0 x) n24

noncomputable def Q_tenantsFault_b3 (p0x0 : Org) (n16 : Int) : Option (Int ⊕ Int) :=
  if n16 < (p0x0.Tenants.length : Int) then
    (idx p0x0.Tenants n16).bind fun v17 =>
    (Q_pathOf_nil p0x0 v17.Key).bind fun v19 =>
    casesO v19 (
      Option.map .inr (some (14 : Int))) (fun x20 =>
      (neNil x20).bind fun v22 =>
      some (.inl (w64 (n16 + (1 : Int)))))
  else
    Option.map .inr (Q_tenantsFault_l4 p0x0 (0 : Int))

noncomputable def Q_tenantsFault_l3 (p0x0 : Org) (n16 : Int) : Option Int :=
  iter (fun x : Int => Q_tenantsFault_b3 p0x0 x) n16

noncomputable def Q_tenantsFault_b2 (p0x0 : Org) (n10 : Int) : Option (Int ⊕ Int) :=
  if n10 < (p0x0.Tenants.length : Int) then
    (idx p0x0.Tenants n10).bind fun v11 =>
    if v11.Parent ≠ ([] : Str) then
      (Q_tenantAt p0x0 v11.Parent).bind fun v14 =>
      Q_tenantsFault_j2 n10 (decide (v14 < (0 : Int)))
    else
      Q_tenantsFault_j2 n10 false
  else
    Option.map .inr (Q_tenantsFault_l3 p0x0 (0 : Int))

noncomputable def Q_tenantsFault_l2 (p0x0 : Org) (n10 : Int) : Option Int :=
  iter (fun x : Int => Q_tenantsFault_b2 p0x0 x) n10

noncomputable def Q_tenantsFault_b1 (p0x0 : Org) (n3 : Int) : Option (Int ⊕ Int) :=
  if n3 < (p0x0.Tenants.length : Int) then
    (idx p0x0.Tenants n3).bind fun v4 =>
    (Q_Key v4.Key).bind fun v6 =>
    if (!v6) = true then
      Option.map .inr (some (5 : Int))
    else
      if (0 : Int) < n3 then
        (idx p0x0.Tenants (w64 (n3 - (1 : Int)))).bind fun v8 =>
        Q_tenantsFault_j1 n3 (Op.bytesLess v4.Key v8.Key || v4.Key == v8.Key)
      else
        Q_tenantsFault_j1 n3 false
  else
    Option.map .inr (Q_tenantsFault_l2 p0x0 (0 : Int))

noncomputable def Q_tenantsFault_l1 (p0x0 : Org) (n3 : Int) : Option Int :=
  iter (fun x : Int => Q_tenantsFault_b1 p0x0 x) n3

noncomputable def Q_tenantsFault (p0x0 : Org) : Option Int :=
  if (200 : Int) < (p0x0.Tenants.length : Int) then
    some (2 : Int)
  else
    Q_tenantsFault_l1 p0x0 (0 : Int)

noncomputable def Q_actsFault_j1 (n2 : Int) (c5 : Bool) : Option (Int ⊕ Int) :=
  if c5 = true then
    Option.map .inr (some (7 : Int))
  else
    some (.inl (w64 (n2 + (1 : Int))))

noncomputable def Q_actsFault_b1 (p0x0 : List Str) (p1x0 : Bool) (n2 : Int) : Option (Int ⊕ Int) :=
  if n2 < (p0x0.length : Int) then
    (idx p0x0 n2).bind fun v3 =>
    (Q_ActRight v3 p1x0).bind fun v4 =>
    if (!v4) = true then
      Option.map .inr (some (5 : Int))
    else
      if (0 : Int) < n2 then
        (idx p0x0 (w64 (n2 - (1 : Int)))).bind fun v6 =>
        Q_actsFault_j1 n2 (Op.bytesLess v3 v6 || v3 == v6)
      else
        Q_actsFault_j1 n2 false
  else
    Option.map .inr (some (0 : Int))

noncomputable def Q_actsFault_l1 (p0x0 : List Str) (p1x0 : Bool) (n2 : Int) : Option Int :=
  iter (fun x : Int => Q_actsFault_b1 p0x0 p1x0 x) n2

noncomputable def Q_actsFault (p0x0 : List Str) (p1x0 : Bool) : Option Int :=
  Q_actsFault_l1 p0x0 p1x0 (0 : Int)

noncomputable def Q_someActs (p0x0 : List Str) : Option Int :=
  if (p0x0.length : Int) = (0 : Int) then
    some (8 : Int)
  else
    if (50 : Int) < (p0x0.length : Int) then
      some (2 : Int)
    else
      (Q_actsFault p0x0 false).bind fun v1 =>
      some v1

noncomputable def Q_roleAt_1x (p0x0 : Role) (p1x0 : Str) : Bool :=
  decide (p0x0.Key = p1x0)

noncomputable def slices_IndexFunc_Role_Role_b1 (p0x0 : List Role) (fnb : Role → Option Bool) (n2 : Int) : Option (Int ⊕ Int) :=
  if n2 < (p0x0.length : Int) then
    (idx p0x0 n2).bind fun v3 =>
    (fnb v3).bind fun v4 =>
    if v4 = true then
      Option.map .inr (some n2)
    else
      some (.inl (w64 (n2 + (1 : Int))))
  else
    Option.map .inr (some (-1 : Int))

noncomputable def slices_IndexFunc_Role_Role_l1 (p0x0 : List Role) (fnb : Role → Option Bool) (n2 : Int) : Option Int :=
  iter (fun x : Int => slices_IndexFunc_Role_Role_b1 p0x0 fnb x) n2

noncomputable def slices_IndexFunc_Role_Role (p0x0 : List Role) (fnb : Role → Option Bool) : Option Int :=
  slices_IndexFunc_Role_Role_l1 p0x0 fnb (0 : Int)

noncomputable def Q_roleAt (p0x0 : Org) (p1x0 : Str) : Option Int :=
  (slices_IndexFunc_Role_Role p0x0.Roles (fun y0 => some (Q_roleAt_1x y0 p1x0))).bind fun v3 =>
  some v3

noncomputable def cmp_Or_int_b1 (p0x0 : List Int) (n2 : Int) : Option (Int ⊕ Int) :=
  if n2 < (p0x0.length : Int) then
    (idx p0x0 n2).bind fun v3 =>
    if v3 ≠ (0 : Int) then
      Option.map .inr (some v3)
    else
      some (.inl (w64 (n2 + (1 : Int))))
  else
    Option.map .inr (some (0 : Int))

noncomputable def cmp_Or_int_l1 (p0x0 : List Int) (n2 : Int) : Option Int :=
  iter (fun x : Int => cmp_Or_int_b1 p0x0 x) n2

noncomputable def cmp_Or_int (p0x0 : List Int) : Option Int :=
  cmp_Or_int_l1 p0x0 (0 : Int)

noncomputable def Q_rolesFault_j1 (n3 : Int) (v4 : Role) (c7 : Bool) : Option (Int ⊕ Int) :=
  if c7 = true then
    Option.map .inr (some (7 : Int))
  else
    (Q_someActs v4.Acts).bind fun v9 =>
    if v9 ≠ (0 : Int) then
      Option.map .inr (some v9)
    else
      some (.inl (w64 (n3 + (1 : Int))))

noncomputable def Q_rolesFault_j3 (n11 : Int) (c18 : Bool) : Option (Int ⊕ Int) :=
  if c18 = true then
    Option.map .inr (some (7 : Int))
  else
    some (.inl (w64 (n11 + (1 : Int))))

noncomputable def Q_rolesFault_j2 (p0x0 : Org) (n11 : Int) (v12 : Member) (c15 : Bool) : Option (Int ⊕ Int) :=
  if c15 = true then
    Option.map .inr (some (8 : Int))
  else
    if (0 : Int) < n11 then
      (idx p0x0.Members (w64 (n11 - (1 : Int)))).bind fun v19 =>
      (idx p0x0.Members (w64 (n11 - (1 : Int)))).bind fun v20 =>
      (idx p0x0.Members (w64 (n11 - (1 : Int)))).bind fun v21 =>
      (cmp_Or_int [(Lib.compareBytes v19.User v12.User), (Lib.compareBytes v20.Tenant v12.Tenant), (Lib.compareBytes v21.Role v12.Role)]).bind fun v22 =>
      Q_rolesFault_j3 n11 (decide ((0 : Int) ≤ v22))
    else
      Q_rolesFault_j3 n11 false

noncomputable def Q_rolesFault_b2 (p0x0 : Org) (n11 : Int) : Option (Int ⊕ Int) :=
  if n11 < (p0x0.Members.length : Int) then
    (idx p0x0.Members n11).bind fun v12 =>
    (Q_Key v12.User).bind fun v14 =>
    if (!v14) = true then
      Option.map .inr (some (5 : Int))
    else
      (Q_tenantAt p0x0 v12.Tenant).bind fun v16 =>
      if v16 < (0 : Int) then
        Q_rolesFault_j2 p0x0 n11 v12 true
      else
        (Q_roleAt p0x0 v12.Role).bind fun v17 =>
        Q_rolesFault_j2 p0x0 n11 v12 (decide (v17 < (0 : Int)))
  else
    Option.map .inr (some (0 : Int))

noncomputable def Q_rolesFault_l2 (p0x0 : Org) (n11 : Int) : Option Int :=
  iter (fun x : Int => Q_rolesFault_b2 p0x0 x) n11

noncomputable def Q_rolesFault_k4 (p0x0 : Org) : Option Int :=
  if (500 : Int) < (p0x0.Members.length : Int) then
    some (2 : Int)
  else
    Q_rolesFault_l2 p0x0 (0 : Int)

noncomputable def Q_rolesFault_b1 (p0x0 : Org) (n3 : Int) : Option (Int ⊕ Int) :=
  if n3 < (p0x0.Roles.length : Int) then
    (idx p0x0.Roles n3).bind fun v4 =>
    (Q_Key v4.Key).bind fun v6 =>
    if (!v6) = true then
      Option.map .inr (some (5 : Int))
    else
      if (0 : Int) < n3 then
        (idx p0x0.Roles (w64 (n3 - (1 : Int)))).bind fun v8 =>
        Q_rolesFault_j1 n3 v4 (Op.bytesLess v4.Key v8.Key || v4.Key == v8.Key)
      else
        Q_rolesFault_j1 n3 v4 false
  else
    Option.map .inr (Q_rolesFault_k4 p0x0)

noncomputable def Q_rolesFault_l1 (p0x0 : Org) (n3 : Int) : Option Int :=
  iter (fun x : Int => Q_rolesFault_b1 p0x0 x) n3

noncomputable def Q_rolesFault (p0x0 : Org) : Option Int :=
  if (50 : Int) < (p0x0.Roles.length : Int) then
    some (2 : Int)
  else
    Q_rolesFault_l1 p0x0 (0 : Int)

noncomputable def Q_leaves_b1 (self : Query → Option (List Query)) (p0x0 : Query) (l12 : List Query) (n13 : Int) : Option (((List Query) × Int) ⊕ (List Query)) :=
  if n13 < (p0x0.Kids.length : Int) then
    (idx p0x0.Kids n13).bind fun v14 =>
    (self v14).bind fun v16 =>
    (app l12 v16).bind fun l18 =>
    some (.inl (l18, w64 (n13 + (1 : Int))))
  else
    Option.map .inr (some l12)

noncomputable def Q_leaves_l1 (self : Query → Option (List Query)) (p0x0 : Query) (l12 : List Query) (n13 : Int) : Option (List Query) :=
  iter (fun x : (List Query) × Int => Q_leaves_b1 self p0x0 x.1 x.2) (l12, n13)

noncomputable def Q_leaves_j2 (self : Query → Option (List Query)) (p0x0 : Query) (l4 : List Query) : Option (List Query) :=
  Q_leaves_l1 self p0x0 l4 (0 : Int)

noncomputable def Q_leaves_j1 (self : Query → Option (List Query)) (p0x0 : Query) (c2 : Bool) : Option (List Query) :=
  if c2 = true then
    (app ([] : List Query) [p0x0]).bind fun l5 =>
    Q_leaves_j2 self p0x0 l5
  else
    Q_leaves_j2 self p0x0 []

noncomputable def Q_leaves_bd (self : Query → Option (List Query)) (p0x0 : Query) : Option (List Query) :=
  Q_leaves_j1 self p0x0 ((decide (p0x0.Kind = (1 : Int))) || (decide (p0x0.Kind = (2 : Int))))

/-- The function, to some depth. -/
noncomputable def Q_leaves_r : Nat → Query → Option (List Query)
  | 0 => fun _ => none
  | k + 1 => Q_leaves_bd (Q_leaves_r k)

noncomputable def Q_leaves (p0x0 : Query) : Option (List Query) :=
  Q_leaves_r depth p0x0

noncomputable def Q_deep_b1 (self : Query → Option Int) (p0x0 : Query) (n4 : Int) (n5 : Int) : Option ((Int × Int) ⊕ Int) :=
  if n5 < (p0x0.Kids.length : Int) then
    (idx p0x0.Kids n5).bind fun v6 =>
    (self v6).bind fun v8 =>
    some (.inl (max n4 v8, w64 (n5 + (1 : Int))))
  else
    Option.map .inr (some (w64 (n4 + (1 : Int))))

noncomputable def Q_deep_l1 (self : Query → Option Int) (p0x0 : Query) (n4 : Int) (n5 : Int) : Option Int :=
  iter (fun x : Int × Int => Q_deep_b1 self p0x0 x.1 x.2) (n4, n5)

noncomputable def Q_deep_bd (self : Query → Option Int) (p0x0 : Query) : Option Int :=
  Q_deep_l1 self p0x0 (0 : Int) (0 : Int)

/-- The function, to some depth. -/
noncomputable def Q_deep_r : Nat → Query → Option Int
  | 0 => fun _ => none
  | k + 1 => Q_deep_bd (Q_deep_r k)

noncomputable def Q_deep (p0x0 : Query) : Option Int :=
  Q_deep_r depth p0x0

noncomputable def Q_oneQuery_1x (p0x0 : Query) (p1x0 : Query) : Bool :=
  decide (p0x0.Kind = p1x0.Kind)

noncomputable def slices_IndexFunc_Query_Query_b1 (p0x0 : List Query) (fnb : Query → Option Bool) (n2 : Int) : Option (Int ⊕ Int) :=
  if n2 < (p0x0.length : Int) then
    (idx p0x0 n2).bind fun v3 =>
    (fnb v3).bind fun v4 =>
    if v4 = true then
      Option.map .inr (some n2)
    else
      some (.inl (w64 (n2 + (1 : Int))))
  else
    Option.map .inr (some (-1 : Int))

noncomputable def slices_IndexFunc_Query_Query_l1 (p0x0 : List Query) (fnb : Query → Option Bool) (n2 : Int) : Option Int :=
  iter (fun x : Int => slices_IndexFunc_Query_Query_b1 p0x0 fnb x) n2

noncomputable def slices_IndexFunc_Query_Query (p0x0 : List Query) (fnb : Query → Option Bool) : Option Int :=
  slices_IndexFunc_Query_Query_l1 p0x0 fnb (0 : Int)

noncomputable def slices_ContainsFunc_Query_Query (p0x0 : List Query) (fnb : Query → Option Bool) : Option Bool :=
  (slices_IndexFunc_Query_Query p0x0 fnb).bind fun v1 =>
  some (decide ((0 : Int) ≤ v1))

noncomputable def internal_stringslite_CutPrefix (p0x0 : Str) (p1x0 : Str) : Option (Str × Bool) :=
  (internal_stringslite_HasPrefix p0x0 p1x0).bind fun v1 =>
  if (!v1) = true then
    some (p0x0, false)
  else
    (slc p0x0 (p1x0.length : Int) (p0x0.length : Int)).bind fun l2 =>
    some (l2, true)

noncomputable def strings_CutPrefix (p0x0 : Str) (p1x0 : Str) : Option (Str × Bool) :=
  (internal_stringslite_CutPrefix p0x0 p1x0).bind fun v1 =>
  some (v1.1, v1.2)

noncomputable def Q_PropName_1x (p0x0 : Str) : Option Bool :=
  (Q_Key p0x0).bind fun v1 =>
  some (!v1)

noncomputable def Q_PropName_j1 (c3 : Bool) : Option Bool :=
  some c3

noncomputable def Q_PropName (p0x0 : Str) : Option Bool :=
  (splitO p0x0 ([46] : Str)).bind fun v1 =>
  if (p0x0.length : Int) ≤ (40 : Int) then
    if (v1.length : Int) ≤ (5 : Int) then
      (slices_ContainsFunc_string_string v1 (fun y0 => Q_PropName_1x y0)).bind fun v4 =>
      Q_PropName_j1 (!v4)
    else
      Q_PropName_j1 false
  else
    Q_PropName_j1 false

noncomputable def Q_FieldRight_j3 (c7 : Bool) : Option Bool :=
  some c7

noncomputable def Q_FieldRight_j2 (p0x0 : Str) (p1x0 : Bool) (c5 : Bool) : Option Bool :=
  if c5 = true then
    some true
  else
    if (!p1x0) = true then
      (slices_Contains_string_string [([107, 101, 121] : Str), ([109, 111, 100, 101, 108] : Str), ([116, 101, 110, 97, 110, 116] : Str), ([102, 105, 114, 109, 119, 97, 114, 101] : Str)] p0x0).bind fun v8 =>
      Q_FieldRight_j3 v8
    else
      Q_FieldRight_j3 false

noncomputable def Q_FieldRight_j1 (p0x0 : Str) (p1x0 : Bool) (c2 : Bool) : Option Bool :=
  if c2 = true then
    some true
  else
    (strings_CutPrefix p0x0 ([112, 114, 111, 112, 46] : Str)).bind fun v4 =>
    if v4.2 = true then
      (Q_PropName v4.1).bind fun v6 =>
      Q_FieldRight_j2 p0x0 p1x0 v6
    else
      Q_FieldRight_j2 p0x0 p1x0 false

noncomputable def Q_FieldRight (p0x0 : Str) (p1x0 : Bool) : Option Bool :=
  (strings_CutPrefix p0x0 ([116, 97, 103, 46] : Str)).bind fun v1 =>
  if v1.2 = true then
    (Q_Key v1.1).bind fun v3 =>
    Q_FieldRight_j1 p0x0 p1x0 v3
  else
    Q_FieldRight_j1 p0x0 p1x0 false

noncomputable def Q_versionRight_j1 (c2 : Bool) : Bool :=
  c2

noncomputable def Q_versionRight (p0x0 : Version) : Bool :=
  Q_versionRight_j1 ((Q_in p0x0.Major (0 : Int) (9999 : Int)) && ((Q_in p0x0.Minor (0 : Int) (9999 : Int)) && (Q_in p0x0.Patch (0 : Int) (9999 : Int))))

noncomputable def Q_RightValue_j1 (n3 : Int) (c5 : Bool) : Option (Int ⊕ Bool) :=
  if c5 = true then
    Option.map .inr (some false)
  else
    some (.inl (w64 (n3 + (1 : Int))))

noncomputable def Q_RightValue_j2 (c6 : Bool) : Option Bool :=
  some c6

noncomputable def Q_RightValue_k3 (p0x0 : ValueS) : Option Bool :=
  if (Q_in p0x0.Kind (0 : Int) (3 : Int)) = true then
    if (Q_in p0x0.Number (-1000000000 : Int) (1000000000 : Int)) = true then
      (validO p0x0.Words).bind fun v7 =>
      Q_RightValue_j2 (v7 && (decide ((p0x0.Words.length : Int) ≤ (100 : Int))))
    else
      Q_RightValue_j2 false
  else
    Q_RightValue_j2 false

noncomputable def Q_RightValue_b1 (p0x0 : ValueS) (n3 : Int) : Option (Int ⊕ Bool) :=
  if n3 < ([p0x0.Flag, decide (p0x0.Number ≠ (0 : Int)), decide (p0x0.Words ≠ ([] : Str))].length : Int) then
    (idx [p0x0.Flag, decide (p0x0.Number ≠ (0 : Int)), decide (p0x0.Words ≠ ([] : Str))] n3).bind fun v4 =>
    Q_RightValue_j1 n3 (v4 && (decide (p0x0.Kind ≠ (w64 (n3 + (1 : Int))))))
  else
    Option.map .inr (Q_RightValue_k3 p0x0)

noncomputable def Q_RightValue_l1 (p0x0 : ValueS) (n3 : Int) : Option Bool :=
  iter (fun x : Int => Q_RightValue_b1 p0x0 x) n3

noncomputable def Q_RightValue (p0x0 : ValueS) : Option Bool :=
  Q_RightValue_l1 p0x0 (0 : Int)

noncomputable def Q_isFault_j7 (c12 : Bool) : Option Int :=
  if c12 = true then
    some (10 : Int)
  else
    some (0 : Int)

noncomputable def Q_isFault_j8 (c13 : Bool) : Option Int :=
  Q_isFault_j7 c13

noncomputable def Q_isFault_j6 (p0x0 : Query) (c3 : Bool) (c10 : Bool) : Option Int :=
  if c10 = true then
    Q_isFault_j7 c10
  else
    Q_isFault_j8 ((decide (p0x0.Value.Kind ≠ (2 : Int))) && (!c3))

noncomputable def Q_isFault_j4 (p0x0 : Query) (c3 : Bool) (c7 : Bool) : Option Int :=
  if c7 = true then
    some (3 : Int)
  else
    if p0x0.Value.Kind ≠ (3 : Int) then
      (strings_HasPrefix p0x0.Field ([112, 114, 111, 112, 46] : Str)).bind fun v11 =>
      Q_isFault_j6 p0x0 c3 (!v11)
    else
      Q_isFault_j6 p0x0 c3 false

noncomputable def Q_isFault_j5 (p0x0 : Query) (c3 : Bool) (c9 : Bool) : Option Int :=
  Q_isFault_j4 p0x0 c3 c9

noncomputable def Q_isFault_j3 (p0x0 : Query) (c3 : Bool) (c6 : Bool) : Option Int :=
  if c6 = true then
    some (1 : Int)
  else
    if p0x0.Field = ([102, 105, 114, 109, 119, 97, 114, 101] : Str) then
      some (0 : Int)
    else
      if p0x0.Version ≠ (⟨(0 : Int), (0 : Int), (0 : Int)⟩ : Version) then
        Q_isFault_j4 p0x0 c3 (decide (p0x0.Version ≠ (⟨(0 : Int), (0 : Int), (0 : Int)⟩ : Version)))
      else
        (Q_RightValue p0x0.Value).bind fun v8 =>
        if (!v8) = true then
          Q_isFault_j5 p0x0 c3 (!v8)
        else
          Q_isFault_j5 p0x0 c3 (decide (p0x0.Value.Kind = (0 : Int)))

noncomputable def Q_isFault_j2 (p0x0 : Query) (c3 : Bool) (c5 : Bool) : Option Int :=
  if c5 = true then
    some (3 : Int)
  else
    Q_isFault_j3 p0x0 c3 ((decide (p0x0.Field = ([102, 105, 114, 109, 119, 97, 114, 101] : Str))) && (!(Q_versionRight p0x0.Version)))

noncomputable def Q_isFault_j1 (p0x0 : Query) (c3 : Bool) : Option Int :=
  (slices_Contains_string_string Q_Ops p0x0.Op).bind fun v4 =>
  if (!v4) = true then
    some (10 : Int)
  else
    Q_isFault_j2 p0x0 c3 ((decide (p0x0.Field = ([102, 105, 114, 109, 119, 97, 114, 101] : Str))) && (decide (p0x0.Value ≠ (⟨(0 : Int), false, (0 : Int), []⟩ : ValueS))))

noncomputable def Q_isFault (p0x0 : Query) : Option Int :=
  (Q_FieldRight p0x0.Field (decide (p0x0.Kind = (2 : Int)))).bind fun v2 =>
  if (!v2) = true then
    some (5 : Int)
  else
    if p0x0.Kind = (2 : Int) then
      some (0 : Int)
    else
      Q_isFault_j1 p0x0 ((decide (p0x0.Op = ([61, 61] : Str))) || (decide (p0x0.Op = ([33, 61] : Str))))

noncomputable def Q_oneQuery_b1 (self : Query → Option Int) (p0x0 : Query) (n15 : Int) : Option (Int ⊕ Int) :=
  if n15 < (p0x0.Kids.length : Int) then
    (idx p0x0.Kids n15).bind fun v16 =>
    (self v16).bind fun v18 =>
    if v18 ≠ (0 : Int) then
      Option.map .inr (some v18)
    else
      some (.inl (w64 (n15 + (1 : Int))))
  else
    Option.map .inr (some (0 : Int))

noncomputable def Q_oneQuery_l1 (self : Query → Option Int) (p0x0 : Query) (n15 : Int) : Option Int :=
  iter (fun x : Int => Q_oneQuery_b1 self p0x0 x) n15

noncomputable def Q_oneQuery_j9 (self : Query → Option Int) (p0x0 : Query) (c11 : Bool) : Option Int :=
  if c11 = true then
    some (3 : Int)
  else
    if p0x0.Kind ≤ (2 : Int) then
      (Q_isFault p0x0).bind fun v13 =>
      some v13
    else
      Q_oneQuery_l1 self p0x0 (0 : Int)

noncomputable def Q_oneQuery_j10 (self : Query → Option Int) (p0x0 : Query) (c12 : Bool) : Option Int :=
  Q_oneQuery_j9 self p0x0 c12

noncomputable def Q_oneQuery_j8 (self : Query → Option Int) (p0x0 : Query) (c10 : Bool) : Option Int :=
  if c10 = true then
    Q_oneQuery_j9 self p0x0 c10
  else
    Q_oneQuery_j10 self p0x0 ((decide ((2 : Int) < p0x0.Kind)) && (decide (p0x0.Field ≠ ([] : Str))))

noncomputable def Q_oneQuery_j7 (self : Query → Option Int) (p0x0 : Query) (c8 : Bool) : Option Int :=
  if c8 = true then
    some (3 : Int)
  else
    Q_oneQuery_j8 self p0x0 ((decide (p0x0.Kind ≠ (1 : Int))) && ((decide (p0x0.Op ≠ ([] : Str))) || ((decide (p0x0.Value ≠ (⟨(0 : Int), false, (0 : Int), []⟩ : ValueS))) || (decide (p0x0.Version ≠ (⟨(0 : Int), (0 : Int), (0 : Int)⟩ : Version))))))

noncomputable def Q_oneQuery_j3 (self : Query → Option Int) (p0x0 : Query) (c2 : Bool) (c4 : Bool) : Option Int :=
  if c4 = true then
    some (3 : Int)
  else
    if c2 = true then
      (slices_ContainsFunc_Query_Query p0x0.Kids (fun y0 => some (Q_oneQuery_1x y0 p0x0))).bind fun v9 =>
      Q_oneQuery_j7 self p0x0 v9
    else
      Q_oneQuery_j7 self p0x0 false

noncomputable def Q_oneQuery_j5 (self : Query → Option Int) (p0x0 : Query) (c2 : Bool) (c6 : Bool) : Option Int :=
  Q_oneQuery_j3 self p0x0 c2 c6

noncomputable def Q_oneQuery_j6 (self : Query → Option Int) (p0x0 : Query) (c2 : Bool) (c7 : Bool) : Option Int :=
  Q_oneQuery_j5 self p0x0 c2 c7

noncomputable def Q_oneQuery_j4 (self : Query → Option Int) (p0x0 : Query) (c2 : Bool) (c5 : Bool) : Option Int :=
  if c5 = true then
    Q_oneQuery_j5 self p0x0 c2 c5
  else
    Q_oneQuery_j6 self p0x0 c2 (c2 && (decide ((p0x0.Kids.length : Int) < (2 : Int))))

noncomputable def Q_oneQuery_j2 (self : Query → Option Int) (p0x0 : Query) (c2 : Bool) (c3 : Bool) : Option Int :=
  if c3 = true then
    Q_oneQuery_j3 self p0x0 c2 c3
  else
    Q_oneQuery_j4 self p0x0 c2 ((decide (p0x0.Kind = (3 : Int))) && (decide ((p0x0.Kids.length : Int) ≠ (1 : Int))))

noncomputable def Q_oneQuery_j1 (self : Query → Option Int) (p0x0 : Query) (c2 : Bool) : Option Int :=
  Q_oneQuery_j2 self p0x0 c2 ((decide (p0x0.Kind ≤ (2 : Int))) && (decide ((0 : Int) < (p0x0.Kids.length : Int))))

noncomputable def Q_oneQuery_bd (self : Query → Option Int) (p0x0 : Query) : Option Int :=
  if (!(Q_in p0x0.Kind (1 : Int) (5 : Int))) = true then
    some (4 : Int)
  else
    Q_oneQuery_j1 self p0x0 ((decide (p0x0.Kind = (4 : Int))) || (decide (p0x0.Kind = (5 : Int))))

/-- The function, to some depth. -/
noncomputable def Q_oneQuery_r : Nat → Query → Option Int
  | 0 => fun _ => none
  | k + 1 => Q_oneQuery_bd (Q_oneQuery_r k)

noncomputable def Q_oneQuery (p0x0 : Query) : Option Int :=
  Q_oneQuery_r depth p0x0

noncomputable def Q_QueryFault_j1 (p0x0 : Query) (c2 : Bool) : Option Int :=
  if c2 = true then
    some (2 : Int)
  else
    (Q_oneQuery p0x0).bind fun v6 =>
    some v6

noncomputable def Q_QueryFault (p0x0 : Query) : Option Int :=
  (Q_leaves p0x0).bind fun v3 =>
  if (40 : Int) < (v3.length : Int) then
    Q_QueryFault_j1 p0x0 true
  else
    (Q_deep p0x0).bind fun v5 =>
    Q_QueryFault_j1 p0x0 (decide ((20 : Int) < v5))

noncomputable def Q_WindowFault_j1 (c2 : Bool) : Int :=
  if c2 = true then
    (1 : Int)
  else
    (0 : Int)

noncomputable def Q_WindowFault (p0x0 : Window) : Int :=
  Q_WindowFault_j1 ((!(Q_in p0x0.From (0 : Int) p0x0.To)) || (decide ((345686400000 : Int) < p0x0.To)))

noncomputable def cmp_Or_Errno_b1 (p0x0 : List Int) (n2 : Int) : Option (Int ⊕ Int) :=
  if n2 < (p0x0.length : Int) then
    (idx p0x0 n2).bind fun v3 =>
    if v3 ≠ (0 : Int) then
      Option.map .inr (some v3)
    else
      some (.inl (w64 (n2 + (1 : Int))))
  else
    Option.map .inr (some (0 : Int))

noncomputable def cmp_Or_Errno_l1 (p0x0 : List Int) (n2 : Int) : Option Int :=
  iter (fun x : Int => cmp_Or_Errno_b1 p0x0 x) n2

noncomputable def cmp_Or_Errno (p0x0 : List Int) : Option Int :=
  cmp_Or_Errno_l1 p0x0 (0 : Int)

noncomputable def Q_OrgFault_j3 (n5 : Int) (v6 : Share) (c14 : Bool) : Option (Int ⊕ Int) :=
  if c14 = true then
    Option.map .inr (some (13 : Int))
  else
    (Q_QueryFault v6.Query).bind fun v19 =>
    (Q_someActs v6.Acts).bind fun v20 =>
    (cmp_Or_Errno [v19, v20, (Q_WindowFault v6.Time)]).bind fun v21 =>
    if v21 ≠ (0 : Int) then
      Option.map .inr (some v21)
    else
      some (.inl (w64 (n5 + (1 : Int))))

noncomputable def Q_OrgFault_j2 (p0x0 : Org) (n5 : Int) (v6 : Share) (c11 : Bool) : Option (Int ⊕ Int) :=
  if c11 = true then
    Option.map .inr (some (8 : Int))
  else
    (Q_pathOf p0x0 v6.From).bind fun v15 =>
    (slices_Contains_string_string v15 v6.To).bind fun v16 =>
    if v16 = true then
      Q_OrgFault_j3 n5 v6 true
    else
      (Q_pathOf p0x0 v6.To).bind fun v17 =>
      (slices_Contains_string_string v17 v6.From).bind fun v18 =>
      Q_OrgFault_j3 n5 v6 v18

noncomputable def Q_OrgFault_j1 (p0x0 : Org) (n5 : Int) (v6 : Share) (c9 : Bool) : Option (Int ⊕ Int) :=
  if c9 = true then
    Option.map .inr (some (7 : Int))
  else
    (Q_tenantAt p0x0 v6.From).bind fun v12 =>
    if v12 < (0 : Int) then
      Q_OrgFault_j2 p0x0 n5 v6 true
    else
      (Q_tenantAt p0x0 v6.To).bind fun v13 =>
      Q_OrgFault_j2 p0x0 n5 v6 (decide (v13 < (0 : Int)))

noncomputable def Q_OrgFault_b1 (p0x0 : Org) (n5 : Int) : Option (Int ⊕ Int) :=
  if n5 < (p0x0.Shares.length : Int) then
    (idx p0x0.Shares n5).bind fun v6 =>
    (Q_Key v6.Key).bind fun v8 =>
    if (!v8) = true then
      Option.map .inr (some (5 : Int))
    else
      if (0 : Int) < n5 then
        (idx p0x0.Shares (w64 (n5 - (1 : Int)))).bind fun v10 =>
        Q_OrgFault_j1 p0x0 n5 v6 (Op.bytesLess v6.Key v10.Key || v6.Key == v10.Key)
      else
        Q_OrgFault_j1 p0x0 n5 v6 false
  else
    Option.map .inr (some (0 : Int))

noncomputable def Q_OrgFault_l1 (p0x0 : Org) (n5 : Int) : Option Int :=
  iter (fun x : Int => Q_OrgFault_b1 p0x0 x) n5

noncomputable def Q_OrgFault (p0x0 : Org) : Option Int :=
  (Q_tenantsFault p0x0).bind fun v2 =>
  if v2 ≠ (0 : Int) then
    some v2
  else
    (Q_rolesFault p0x0).bind fun v3 =>
    if v3 ≠ (0 : Int) then
      some v3
    else
      if (200 : Int) < (p0x0.Shares.length : Int) then
        some (2 : Int)
      else
        Q_OrgFault_l1 p0x0 (0 : Int)

noncomputable def tenant_newView_b3 (p0x0 : Org) (l11 : List (Str × Str)) (l17 : List (Str × (List Str))) (l24 : List (Str × (List Int))) (n26 : Int) : Option (((List (Str × (List Int))) × Int) ⊕ Tenant_view) :=
  if n26 < (p0x0.Members.length : Int) then
    (idx p0x0.Members n26).bind fun v27 =>
    (mgetO l24 v27.Tenant []).bind fun v29 =>
    (app v29 [n26]).bind fun l31 =>
    some (.inl (mset l24 v27.Tenant l31, w64 (n26 + (1 : Int))))
  else
    Option.map .inr (some (⟨p0x0, l11, l17, l24, [], []⟩ : Tenant_view))

noncomputable def tenant_newView_l3 (p0x0 : Org) (l11 : List (Str × Str)) (l17 : List (Str × (List Str))) (l24 : List (Str × (List Int))) (n26 : Int) : Option Tenant_view :=
  iter (fun x : (List (Str × (List Int))) × Int => tenant_newView_b3 p0x0 l11 l17 x.1 x.2) (l24, n26)

noncomputable def tenant_newView_b2 (p0x0 : Org) (l11 : List (Str × Str)) (l17 : List (Str × (List Str))) (n18 : Int) : Option (((List (Str × (List Str))) × Int) ⊕ Tenant_view) :=
  if n18 < (p0x0.Roles.length : Int) then
    (idx p0x0.Roles n18).bind fun v19 =>
    some (.inl (mset l17 v19.Key v19.Acts, w64 (n18 + (1 : Int))))
  else
    Option.map .inr (tenant_newView_l3 p0x0 l11 l17 [] (0 : Int))

noncomputable def tenant_newView_l2 (p0x0 : Org) (l11 : List (Str × Str)) (l17 : List (Str × (List Str))) (n18 : Int) : Option Tenant_view :=
  iter (fun x : (List (Str × (List Str))) × Int => tenant_newView_b2 p0x0 l11 x.1 x.2) (l17, n18)

noncomputable def tenant_newView_b1 (p0x0 : Org) (l11 : List (Str × Str)) (n12 : Int) : Option (((List (Str × Str)) × Int) ⊕ Tenant_view) :=
  if n12 < (p0x0.Tenants.length : Int) then
    (idx p0x0.Tenants n12).bind fun v13 =>
    some (.inl (mset l11 v13.Key v13.Parent, w64 (n12 + (1 : Int))))
  else
    Option.map .inr (tenant_newView_l2 p0x0 l11 [] (0 : Int))

noncomputable def tenant_newView_l1 (p0x0 : Org) (l11 : List (Str × Str)) (n12 : Int) : Option Tenant_view :=
  iter (fun x : (List (Str × Str)) × Int => tenant_newView_b1 p0x0 x.1 x.2) (l11, n12)

noncomputable def tenant_newView (p0x0 : Org) : Option Tenant_view :=
  tenant_newView_l1 p0x0 [] (0 : Int)

noncomputable def tenant_view_is (p0x0 : Tenant_view) (p1x0 : Str) : Option Bool :=
  (mget2 p0x0.parent_ p1x0 []).bind fun v1 =>
  some v1.2

noncomputable def tenant_view_path_j1 (p0x0 : Tenant_view) (q4 : Str) (l6 : List Str) (c8 : Bool) : Option ((Str × (List Str)) ⊕ (List Str)) :=
  if c8 = true then
    (app l6 [q4]).bind fun l10 =>
    (mgetO p0x0.parent_ q4 []).bind fun v12 =>
    some (.inl (v12, l10))
  else
    Option.map .inr (some l6)

noncomputable def tenant_view_path_b1 (p0x0 : Tenant_view) (q4 : Str) (l6 : List Str) : Option ((Str × (List Str)) ⊕ (List Str)) :=
  (tenant_view_is p0x0 q4).bind fun v9 =>
  tenant_view_path_j1 p0x0 q4 l6 (v9 && (decide ((l6.length : Int) ≤ (p0x0.parent_.length : Int))))

noncomputable def tenant_view_path_l1 (p0x0 : Tenant_view) (q4 : Str) (l6 : List Str) : Option (List Str) :=
  iter (fun x : Str × (List Str) => tenant_view_path_b1 p0x0 x.1 x.2) (q4, l6)

noncomputable def tenant_view_path (p0x0 : Tenant_view) (p1x0 : Str) : Option (List Str) :=
  tenant_view_path_l1 p0x0 p1x0 []

noncomputable def tenant_view_treeFault_j1 (n2 : Int) (c6 : Bool) : Option (Int ⊕ Int) :=
  if c6 = true then
    Option.map .inr (some (7 : Int))
  else
    some (.inl (w64 (n2 + (1 : Int))))

noncomputable def tenant_view_treeFault_j2 (n9 : Int) (c12 : Bool) : Option (Int ⊕ Int) :=
  if c12 = true then
    Option.map .inr (some (8 : Int))
  else
    some (.inl (w64 (n9 + (1 : Int))))

noncomputable def tenant_view_treeFault_j3 (n17 : Int) (c24 : Bool) : Option ((Bool × Int) ⊕ Int) :=
  some (.inl (c24, w64 (n17 + (1 : Int))))

noncomputable def tenant_view_treeFault_k4 (c16 : Bool) : Option Int :=
  if c16 = true then
    some (2 : Int)
  else
    some (0 : Int)

noncomputable def tenant_view_treeFault_b3 (p0x0 : Tenant_view) (c16 : Bool) (n17 : Int) : Option ((Bool × Int) ⊕ Int) :=
  if n17 < (p0x0.Org.Tenants.length : Int) then
    (idx p0x0.Org.Tenants n17).bind fun v18 =>
    (tenant_view_path p0x0 v18.Key).bind fun v20 =>
    (slc v20 (1 : Int) (v20.length : Int)).bind fun l22 =>
    (slices_Contains_string_string l22 v18.Key).bind fun v23 =>
    if v23 = true then
      Option.map .inr (some (14 : Int))
    else
      tenant_view_treeFault_j3 n17 (c16 || (decide ((11 : Int) < (v20.length : Int))))
  else
    Option.map .inr (tenant_view_treeFault_k4 c16)

noncomputable def tenant_view_treeFault_l3 (p0x0 : Tenant_view) (c16 : Bool) (n17 : Int) : Option Int :=
  iter (fun x : Bool × Int => tenant_view_treeFault_b3 p0x0 x.1 x.2) (c16, n17)

noncomputable def tenant_view_treeFault_b2 (p0x0 : Tenant_view) (n9 : Int) : Option (Int ⊕ Int) :=
  if n9 < (p0x0.Org.Tenants.length : Int) then
    (idx p0x0.Org.Tenants n9).bind fun v10 =>
    if v10.Parent ≠ ([] : Str) then
      (tenant_view_is p0x0 v10.Parent).bind fun v13 =>
      tenant_view_treeFault_j2 n9 (!v13)
    else
      tenant_view_treeFault_j2 n9 false
  else
    Option.map .inr (tenant_view_treeFault_l3 p0x0 false (0 : Int))

noncomputable def tenant_view_treeFault_l2 (p0x0 : Tenant_view) (n9 : Int) : Option Int :=
  iter (fun x : Int => tenant_view_treeFault_b2 p0x0 x) n9

noncomputable def tenant_view_treeFault_b1 (p0x0 : Tenant_view) (n2 : Int) : Option (Int ⊕ Int) :=
  if n2 < (p0x0.Org.Tenants.length : Int) then
    (idx p0x0.Org.Tenants n2).bind fun v3 =>
    (base_Key v3.Key).bind fun v5 =>
    if (!v5) = true then
      Option.map .inr (some (5 : Int))
    else
      if (0 : Int) < n2 then
        (idx p0x0.Org.Tenants (w64 (n2 - (1 : Int)))).bind fun v7 =>
        tenant_view_treeFault_j1 n2 (Op.bytesLess v3.Key v7.Key || v3.Key == v7.Key)
      else
        tenant_view_treeFault_j1 n2 false
  else
    Option.map .inr (tenant_view_treeFault_l2 p0x0 (0 : Int))

noncomputable def tenant_view_treeFault_l1 (p0x0 : Tenant_view) (n2 : Int) : Option Int :=
  iter (fun x : Int => tenant_view_treeFault_b1 p0x0 x) n2

noncomputable def tenant_view_treeFault (p0x0 : Tenant_view) : Option Int :=
  if (200 : Int) < (p0x0.Org.Tenants.length : Int) then
    some (2 : Int)
  else
    tenant_view_treeFault_l1 p0x0 (0 : Int)

noncomputable def tenant_actsFault_j1 (n2 : Int) (c5 : Bool) : Option (Int ⊕ Int) :=
  if c5 = true then
    Option.map .inr (some (7 : Int))
  else
    some (.inl (w64 (n2 + (1 : Int))))

noncomputable def tenant_actsFault_b1 (p0x0 : List Str) (n2 : Int) : Option (Int ⊕ Int) :=
  if n2 < (p0x0.length : Int) then
    (idx p0x0 n2).bind fun v3 =>
    (tenant_isAct v3).bind fun v4 =>
    if (!v4) = true then
      Option.map .inr (some (5 : Int))
    else
      if (0 : Int) < n2 then
        (idx p0x0 (w64 (n2 - (1 : Int)))).bind fun v6 =>
        tenant_actsFault_j1 n2 (Op.bytesLess v3 v6 || v3 == v6)
      else
        tenant_actsFault_j1 n2 false
  else
    Option.map .inr (some (0 : Int))

noncomputable def tenant_actsFault_l1 (p0x0 : List Str) (n2 : Int) : Option Int :=
  iter (fun x : Int => tenant_actsFault_b1 p0x0 x) n2

noncomputable def tenant_actsFault (p0x0 : List Str) : Option Int :=
  if (p0x0.length : Int) = (0 : Int) then
    some (8 : Int)
  else
    if (50 : Int) < (p0x0.length : Int) then
      some (2 : Int)
    else
      tenant_actsFault_l1 p0x0 (0 : Int)

noncomputable def tenant_view_rolesFault_j1 (n2 : Int) (v3 : Role) (c6 : Bool) : Option (Int ⊕ Int) :=
  if c6 = true then
    Option.map .inr (some (7 : Int))
  else
    (tenant_actsFault v3.Acts).bind fun v8 =>
    if v8 ≠ (0 : Int) then
      Option.map .inr (some v8)
    else
      some (.inl (w64 (n2 + (1 : Int))))

noncomputable def tenant_view_rolesFault_b1 (p0x0 : Tenant_view) (n2 : Int) : Option (Int ⊕ Int) :=
  if n2 < (p0x0.Org.Roles.length : Int) then
    (idx p0x0.Org.Roles n2).bind fun v3 =>
    (base_Key v3.Key).bind fun v5 =>
    if (!v5) = true then
      Option.map .inr (some (5 : Int))
    else
      if (0 : Int) < n2 then
        (idx p0x0.Org.Roles (w64 (n2 - (1 : Int)))).bind fun v7 =>
        tenant_view_rolesFault_j1 n2 v3 (Op.bytesLess v3.Key v7.Key || v3.Key == v7.Key)
      else
        tenant_view_rolesFault_j1 n2 v3 false
  else
    Option.map .inr (some (0 : Int))

noncomputable def tenant_view_rolesFault_l1 (p0x0 : Tenant_view) (n2 : Int) : Option Int :=
  iter (fun x : Int => tenant_view_rolesFault_b1 p0x0 x) n2

noncomputable def tenant_view_rolesFault (p0x0 : Tenant_view) : Option Int :=
  if (50 : Int) < (p0x0.Org.Roles.length : Int) then
    some (2 : Int)
  else
    tenant_view_rolesFault_l1 p0x0 (0 : Int)

noncomputable def tenant_byMember (p0x0 : Member) (p1x0 : Member) : Option Int :=
  (cmp_Or_int [(Lib.compareBytes p0x0.User p1x0.User), (Lib.compareBytes p0x0.Tenant p1x0.Tenant), (Lib.compareBytes p0x0.Role p1x0.Role)]).bind fun v3 =>
  some v3

noncomputable def tenant_view_membersFault_j2 (n2 : Int) (c9 : Bool) : Option (Int ⊕ Int) :=
  if c9 = true then
    Option.map .inr (some (7 : Int))
  else
    some (.inl (w64 (n2 + (1 : Int))))

noncomputable def tenant_view_membersFault_j1 (p0x0 : Tenant_view) (n2 : Int) (v3 : Member) (c7 : Bool) : Option (Int ⊕ Int) :=
  if c7 = true then
    Option.map .inr (some (8 : Int))
  else
    if (0 : Int) < n2 then
      (idx p0x0.Org.Members (w64 (n2 - (1 : Int)))).bind fun v10 =>
      (tenant_byMember v3 v10).bind fun v11 =>
      tenant_view_membersFault_j2 n2 (decide (v11 ≤ (0 : Int)))
    else
      tenant_view_membersFault_j2 n2 false

noncomputable def tenant_view_membersFault_b1 (p0x0 : Tenant_view) (n2 : Int) : Option (Int ⊕ Int) :=
  if n2 < (p0x0.Org.Members.length : Int) then
    (idx p0x0.Org.Members n2).bind fun v3 =>
    (mget2 p0x0.acts_ v3.Role []).bind fun v5 =>
    (base_Key v3.User).bind fun v6 =>
    if (!v6) = true then
      Option.map .inr (some (5 : Int))
    else
      (tenant_view_is p0x0 v3.Tenant).bind fun v8 =>
      tenant_view_membersFault_j1 p0x0 n2 v3 ((!v8) || (!v5.2))
  else
    Option.map .inr (some (0 : Int))

noncomputable def tenant_view_membersFault_l1 (p0x0 : Tenant_view) (n2 : Int) : Option Int :=
  iter (fun x : Int => tenant_view_membersFault_b1 p0x0 x) n2

noncomputable def tenant_view_membersFault (p0x0 : Tenant_view) : Option Int :=
  if (500 : Int) < (p0x0.Org.Members.length : Int) then
    some (2 : Int)
  else
    tenant_view_membersFault_l1 p0x0 (0 : Int)

noncomputable def tenant_view_belongs_j1 (c1 : Bool) : Option Bool :=
  some c1

noncomputable def tenant_view_belongs (p0x0 : Tenant_view) (p1x0 : Str) (p2x0 : Str) : Option Bool :=
  if p1x0 ≠ p2x0 then
    (tenant_view_path p0x0 p1x0).bind fun v2 =>
    (slices_Contains_string_string v2 p2x0).bind fun v4 =>
    tenant_view_belongs_j1 v4
  else
    tenant_view_belongs_j1 false

noncomputable def item_Measure_b1 (self : Query → Option (Int × Int)) (p0x0 : Query) (n7 : Int) (n8 : Int) (n9 : Int) : Option ((Int × Int × Int) ⊕ (Int × Int)) :=
  if n9 < (p0x0.Kids.length : Int) then
    (idx p0x0.Kids n9).bind fun v10 =>
    (self v10).bind fun v12 =>
    some (.inl (w64 (n7 + v12.1), max n8 v12.2, w64 (n9 + (1 : Int))))
  else
    Option.map .inr (some (n7, w64 (n8 + (1 : Int))))

noncomputable def item_Measure_l1 (self : Query → Option (Int × Int)) (p0x0 : Query) (n7 : Int) (n8 : Int) (n9 : Int) : Option (Int × Int) :=
  iter (fun x : Int × Int × Int => item_Measure_b1 self p0x0 x.1 x.2.1 x.2.2) (n7, n8, n9)

noncomputable def item_Measure_j2 (self : Query → Option (Int × Int)) (p0x0 : Query) (n3 : Int) : Option (Int × Int) :=
  item_Measure_l1 self p0x0 n3 (0 : Int) (0 : Int)

noncomputable def item_Measure_j1 (self : Query → Option (Int × Int)) (p0x0 : Query) (c2 : Bool) : Option (Int × Int) :=
  if c2 = true then
    item_Measure_j2 self p0x0 (1 : Int)
  else
    item_Measure_j2 self p0x0 (0 : Int)

noncomputable def item_Measure_bd (self : Query → Option (Int × Int)) (p0x0 : Query) : Option (Int × Int) :=
  item_Measure_j1 self p0x0 ((decide (p0x0.Kind = (1 : Int))) || (decide (p0x0.Kind = (2 : Int))))

/-- The function, to some depth. -/
noncomputable def item_Measure_r : Nat → Query → Option (Int × Int)
  | 0 => fun _ => none
  | k + 1 => item_Measure_bd (item_Measure_r k)

noncomputable def item_Measure (p0x0 : Query) : Option (Int × Int) :=
  item_Measure_r depth p0x0

noncomputable def base_Out_j1 (c1 : Bool) : Bool :=
  c1

noncomputable def base_Out (p0x0 : Int) (p1x0 : Int) (p2x0 : Int) : Bool :=
  base_Out_j1 ((decide (p0x0 < p1x0)) || (decide (p2x0 < p0x0)))

noncomputable def item_formFault_1x (p0x0 : Query) (p1x0 : Query) : Bool :=
  decide (p0x0.Kind = p1x0.Kind)

noncomputable def item_formFault_j5 (c18 : Bool) : Option Int :=
  if c18 = true then
    some (3 : Int)
  else
    some (0 : Int)

noncomputable def item_formFault_j1 (p0x0 : Query) (c3 : Bool) (q4 : Str) (q5 : Str) (n6 : Int) (c7 : Bool) (n8 : Int) (q9 : Str) (n10 : Int) (n11 : Int) (n12 : Int) : Option Int :=
  item_formFault_j5 (c3 || ((decide (q4 ≠ p0x0.Field)) || ((decide (q5 ≠ p0x0.Op)) || ((decide ((⟨n6, c7, n8, q9⟩ : ValueS) ≠ p0x0.Value)) || (decide ((⟨n10, n11, n12⟩ : Version) ≠ p0x0.Version))))))

noncomputable def item_formFault_j2 (p0x0 : Query) (c13 : Bool) (q14 : Str) : Option Int :=
  item_formFault_j1 p0x0 c13 q14 [] (0 : Int) false (0 : Int) [] (0 : Int) (0 : Int) (0 : Int)

noncomputable def item_formFault_j3 (p0x0 : Query) (c15 : Bool) : Option Int :=
  item_formFault_j2 p0x0 c15 []

noncomputable def item_formFault_j4 (p0x0 : Query) (c16 : Bool) : Option Int :=
  item_formFault_j3 p0x0 c16

noncomputable def item_formFault (p0x0 : Query) : Option Int :=
  if (base_Out p0x0.Kind (1 : Int) (5 : Int)) = true then
    some (4 : Int)
  else
    if p0x0.Kind = (1 : Int) then
      item_formFault_j1 p0x0 (decide ((p0x0.Kids.length : Int) ≠ (0 : Int))) p0x0.Field p0x0.Op p0x0.Value.Kind p0x0.Value.Flag p0x0.Value.Number p0x0.Value.Words p0x0.Version.Major p0x0.Version.Minor p0x0.Version.Patch
    else
      if p0x0.Kind = (2 : Int) then
        item_formFault_j2 p0x0 (decide ((p0x0.Kids.length : Int) ≠ (0 : Int))) p0x0.Field
      else
        if p0x0.Kind = (3 : Int) then
          item_formFault_j3 p0x0 (decide ((p0x0.Kids.length : Int) ≠ (1 : Int)))
        else
          if (p0x0.Kids.length : Int) < (2 : Int) then
            item_formFault_j4 p0x0 true
          else
            (slices_ContainsFunc_Query_Query p0x0.Kids (fun y0 => some (item_formFault_1x y0 p0x0))).bind fun v17 =>
            item_formFault_j4 p0x0 v17

noncomputable def item_isTag_j1 (c2 : Bool) : Option Bool :=
  some c2

noncomputable def item_isTag (p0x0 : Str) : Option Bool :=
  (strings_CutPrefix p0x0 ([116, 97, 103, 46] : Str)).bind fun v1 =>
  if v1.2 = true then
    (base_Key v1.1).bind fun v3 =>
    item_isTag_j1 v3
  else
    item_isTag_j1 false

noncomputable def item_Property_j1 (c1 : Bool) : Option Bool :=
  some c1

noncomputable def item_Property (p0x0 : Str) : Option Bool :=
  if (p0x0.length : Int) ≤ (40 : Int) then
    (base_Dotted p0x0 (5 : Int)).bind fun v2 =>
    item_Property_j1 v2
  else
    item_Property_j1 false

noncomputable def item_isProp_j1 (c2 : Bool) : Option Bool :=
  some c2

noncomputable def item_isProp (p0x0 : Str) : Option Bool :=
  (strings_CutPrefix p0x0 ([112, 114, 111, 112, 46] : Str)).bind fun v1 =>
  if v1.2 = true then
    (item_Property v1.1).bind fun v3 =>
    item_isProp_j1 v3
  else
    item_isProp_j1 false

noncomputable def item_Field_j1 (c1 : Bool) : Option Bool :=
  some c1

noncomputable def item_Field (p0x0 : Str) : Option Bool :=
  if p0x0 = ([107, 101, 121] : Str) then
    item_Field_j1 true
  else
    if p0x0 = ([109, 111, 100, 101, 108] : Str) then
      item_Field_j1 true
    else
      if p0x0 = ([116, 101, 110, 97, 110, 116] : Str) then
        item_Field_j1 true
      else
        if p0x0 = ([102, 105, 114, 109, 119, 97, 114, 101] : Str) then
          item_Field_j1 true
        else
          (item_isTag p0x0).bind fun v2 =>
          if v2 = true then
            item_Field_j1 true
          else
            (item_isProp p0x0).bind fun v3 =>
            item_Field_j1 v3

noncomputable def item_Operations : (List Str) :=
  [([61, 61] : Str), ([33, 61] : Str), ([60] : Str), ([60, 61] : Str), ([62] : Str), ([62, 61] : Str)]

noncomputable def base_Version_j1 (c2 : Bool) : Bool :=
  c2

noncomputable def base_Version (p0x0 : Version) : Bool :=
  base_Version_j1 ((!(base_Out p0x0.Major (0 : Int) (9999 : Int))) && ((!(base_Out p0x0.Minor (0 : Int) (9999 : Int))) && (!(base_Out p0x0.Patch (0 : Int) (9999 : Int)))))

noncomputable def item_Right_j4 (c11 : Bool) : Option Bool :=
  some c11

noncomputable def item_Right_j1 (p0x0 : ValueS) (c3 : Bool) (n4 : Int) (q5 : Str) : Option Bool :=
  if p0x0 = (⟨p0x0.Kind, c3, n4, q5⟩ : ValueS) then
    if (!(base_Out p0x0.Number (-1000000000 : Int) (1000000000 : Int))) = true then
      if (p0x0.Words.length : Int) ≤ (100 : Int) then
        (validO p0x0.Words).bind fun v12 =>
        item_Right_j4 v12
      else
        item_Right_j4 false
    else
      item_Right_j4 false
  else
    item_Right_j4 false

noncomputable def item_Right_j2 (p0x0 : ValueS) (c6 : Bool) (n7 : Int) (q8 : Str) : Option Bool :=
  item_Right_j1 p0x0 c6 n7 q8

noncomputable def item_Right_j3 (p0x0 : ValueS) (n9 : Int) (q10 : Str) : Option Bool :=
  item_Right_j2 p0x0 false n9 q10

noncomputable def item_Right (p0x0 : ValueS) : Option Bool :=
  if p0x0.Kind = (0 : Int) then
    item_Right_j1 p0x0 false (0 : Int) []
  else
    if p0x0.Kind = (1 : Int) then
      item_Right_j2 p0x0 p0x0.Flag (0 : Int) []
    else
      if p0x0.Kind = (2 : Int) then
        item_Right_j3 p0x0 p0x0.Number []
      else
        if p0x0.Kind = (3 : Int) then
          item_Right_j3 p0x0 (0 : Int) p0x0.Words
        else
          some false

noncomputable def item_leafFault_j6 (c14 : Bool) : Option Int :=
  if c14 = true then
    some (10 : Int)
  else
    some (0 : Int)

noncomputable def item_leafFault_j5 (p0x0 : Query) (c12 : Bool) : Option Int :=
  if c12 = true then
    some (10 : Int)
  else
    item_leafFault_j6 ((decide (p0x0.Value.Kind ≠ (2 : Int))) && ((decide (p0x0.Op ≠ ([61, 61] : Str))) && (decide (p0x0.Op ≠ ([33, 61] : Str)))))

noncomputable def item_leafFault_j4 (p0x0 : Query) (c10 : Bool) : Option Int :=
  if c10 = true then
    some (3 : Int)
  else
    if p0x0.Value.Kind ≠ (3 : Int) then
      (item_isProp p0x0.Field).bind fun v13 =>
      item_leafFault_j5 p0x0 (!v13)
    else
      item_leafFault_j5 p0x0 false

noncomputable def item_leafFault_j3 (p0x0 : Query) (c9 : Bool) : Option Int :=
  if c9 = true then
    some (1 : Int)
  else
    if p0x0.Field = ([102, 105, 114, 109, 119, 97, 114, 101] : Str) then
      some (0 : Int)
    else
      if p0x0.Version ≠ (⟨(0 : Int), (0 : Int), (0 : Int)⟩ : Version) then
        item_leafFault_j4 p0x0 true
      else
        (item_Right p0x0.Value).bind fun v11 =>
        item_leafFault_j4 p0x0 ((!v11) || (decide (p0x0.Value.Kind = (0 : Int))))

noncomputable def item_leafFault_j2 (p0x0 : Query) (c8 : Bool) : Option Int :=
  if c8 = true then
    some (3 : Int)
  else
    item_leafFault_j3 p0x0 ((decide (p0x0.Field = ([102, 105, 114, 109, 119, 97, 114, 101] : Str))) && (!(base_Version p0x0.Version)))

noncomputable def item_leafFault_j1 (p0x0 : Query) (c2 : Bool) : Option Int :=
  if c2 = true then
    some (5 : Int)
  else
    if p0x0.Kind = (2 : Int) then
      some (0 : Int)
    else
      (slices_Contains_string_string item_Operations p0x0.Op).bind fun v7 =>
      if (!v7) = true then
        some (10 : Int)
      else
        item_leafFault_j2 p0x0 ((decide (p0x0.Field = ([102, 105, 114, 109, 119, 97, 114, 101] : Str))) && (decide (p0x0.Value ≠ (⟨(0 : Int), false, (0 : Int), []⟩ : ValueS))))

noncomputable def item_leafFault (p0x0 : Query) : Option Int :=
  (item_Field p0x0.Field).bind fun v3 =>
  if (!v3) = true then
    item_leafFault_j1 p0x0 true
  else
    if p0x0.Kind = (2 : Int) then
      (item_isTag p0x0.Field).bind fun v4 =>
      if (!v4) = true then
        (item_isProp p0x0.Field).bind fun v5 =>
        item_leafFault_j1 p0x0 (!v5)
      else
        item_leafFault_j1 p0x0 false
    else
      item_leafFault_j1 p0x0 false

noncomputable def item_partFault_b1 (self : Query → Option Int) (p0x0 : Query) (n6 : Int) : Option (Int ⊕ Int) :=
  if n6 < (p0x0.Kids.length : Int) then
    (idx p0x0.Kids n6).bind fun v7 =>
    (self v7).bind fun v9 =>
    if v9 ≠ (0 : Int) then
      Option.map .inr (some v9)
    else
      some (.inl (w64 (n6 + (1 : Int))))
  else
    Option.map .inr (some (0 : Int))

noncomputable def item_partFault_l1 (self : Query → Option Int) (p0x0 : Query) (n6 : Int) : Option Int :=
  iter (fun x : Int => item_partFault_b1 self p0x0 x) n6

noncomputable def item_partFault_j1 (self : Query → Option Int) (p0x0 : Query) (c3 : Bool) : Option Int :=
  if c3 = true then
    (item_leafFault p0x0).bind fun v4 =>
    some v4
  else
    item_partFault_l1 self p0x0 (0 : Int)

noncomputable def item_partFault_bd (self : Query → Option Int) (p0x0 : Query) : Option Int :=
  (item_formFault p0x0).bind fun v2 =>
  if v2 ≠ (0 : Int) then
    some v2
  else
    item_partFault_j1 self p0x0 ((decide (p0x0.Kind = (1 : Int))) || (decide (p0x0.Kind = (2 : Int))))

/-- The function, to some depth. -/
noncomputable def item_partFault_r : Nat → Query → Option Int
  | 0 => fun _ => none
  | k + 1 => item_partFault_bd (item_partFault_r k)

noncomputable def item_partFault (p0x0 : Query) : Option Int :=
  item_partFault_r depth p0x0

noncomputable def item_QueryFault_j1 (p0x0 : Query) (c3 : Bool) : Option Int :=
  if c3 = true then
    some (2 : Int)
  else
    (item_partFault p0x0).bind fun v4 =>
    some v4

noncomputable def item_QueryFault (p0x0 : Query) : Option Int :=
  (item_Measure p0x0).bind fun v2 =>
  item_QueryFault_j1 p0x0 ((decide ((40 : Int) < v2.1)) || (decide ((20 : Int) < v2.2)))

noncomputable def base_First_b1 (p0x0 : List Int) (n2 : Int) : Option (Int ⊕ Int) :=
  if n2 < (p0x0.length : Int) then
    (idx p0x0 n2).bind fun v3 =>
    if v3 ≠ (0 : Int) then
      Option.map .inr (some v3)
    else
      some (.inl (w64 (n2 + (1 : Int))))
  else
    Option.map .inr (some (0 : Int))

noncomputable def base_First_l1 (p0x0 : List Int) (n2 : Int) : Option Int :=
  iter (fun x : Int => base_First_b1 p0x0 x) n2

noncomputable def base_First (p0x0 : List Int) : Option Int :=
  base_First_l1 p0x0 (0 : Int)

noncomputable def base_Window_j1 (c2 : Bool) : Bool :=
  c2

noncomputable def base_Window (p0x0 : Window) : Bool :=
  base_Window_j1 ((!(base_Out p0x0.From (0 : Int) p0x0.To)) && (decide (p0x0.To ≤ (345686400000 : Int))))

noncomputable def tenant_view_sharesFault_j3 (n2 : Int) (v3 : Share) (c11 : Bool) : Option (Int ⊕ Int) :=
  if c11 = true then
    Option.map .inr (some (13 : Int))
  else
    (item_QueryFault v3.Query).bind fun v14 =>
    (tenant_actsFault v3.Acts).bind fun v15 =>
    (base_First [v14, v15]).bind fun v16 =>
    if v16 ≠ (0 : Int) then
      Option.map .inr (some v16)
    else
      if (!(base_Window v3.Time)) = true then
        Option.map .inr (some (1 : Int))
      else
        some (.inl (w64 (n2 + (1 : Int))))

noncomputable def tenant_view_sharesFault_j2 (p0x0 : Tenant_view) (n2 : Int) (v3 : Share) (c8 : Bool) : Option (Int ⊕ Int) :=
  if c8 = true then
    Option.map .inr (some (8 : Int))
  else
    if v3.From = v3.To then
      tenant_view_sharesFault_j3 n2 v3 true
    else
      (tenant_view_belongs p0x0 v3.From v3.To).bind fun v12 =>
      if v12 = true then
        tenant_view_sharesFault_j3 n2 v3 true
      else
        (tenant_view_belongs p0x0 v3.To v3.From).bind fun v13 =>
        tenant_view_sharesFault_j3 n2 v3 v13

noncomputable def tenant_view_sharesFault_j1 (p0x0 : Tenant_view) (n2 : Int) (v3 : Share) (c6 : Bool) : Option (Int ⊕ Int) :=
  if c6 = true then
    Option.map .inr (some (7 : Int))
  else
    (tenant_view_is p0x0 v3.From).bind fun v9 =>
    if (!v9) = true then
      tenant_view_sharesFault_j2 p0x0 n2 v3 true
    else
      (tenant_view_is p0x0 v3.To).bind fun v10 =>
      tenant_view_sharesFault_j2 p0x0 n2 v3 (!v10)

noncomputable def tenant_view_sharesFault_b1 (p0x0 : Tenant_view) (n2 : Int) : Option (Int ⊕ Int) :=
  if n2 < (p0x0.Org.Shares.length : Int) then
    (idx p0x0.Org.Shares n2).bind fun v3 =>
    (base_Key v3.Key).bind fun v5 =>
    if (!v5) = true then
      Option.map .inr (some (5 : Int))
    else
      if (0 : Int) < n2 then
        (idx p0x0.Org.Shares (w64 (n2 - (1 : Int)))).bind fun v7 =>
        tenant_view_sharesFault_j1 p0x0 n2 v3 (Op.bytesLess v3.Key v7.Key || v3.Key == v7.Key)
      else
        tenant_view_sharesFault_j1 p0x0 n2 v3 false
  else
    Option.map .inr (some (0 : Int))

noncomputable def tenant_view_sharesFault_l1 (p0x0 : Tenant_view) (n2 : Int) : Option Int :=
  iter (fun x : Int => tenant_view_sharesFault_b1 p0x0 x) n2

noncomputable def tenant_view_sharesFault (p0x0 : Tenant_view) : Option Int :=
  if (200 : Int) < (p0x0.Org.Shares.length : Int) then
    some (2 : Int)
  else
    tenant_view_sharesFault_l1 p0x0 (0 : Int)

noncomputable def tenant_checked (p0x0 : Org) : Option ((Option Tenant_view) × Int) :=
  (tenant_newView p0x0).bind fun v2 =>
  (tenant_view_treeFault v2).bind fun v9 =>
  if v9 ≠ (0 : Int) then
    some (none, v9)
  else
    (tenant_view_rolesFault v2).bind fun v10 =>
    if v10 ≠ (0 : Int) then
      some (none, v10)
    else
      (tenant_view_membersFault v2).bind fun v11 =>
      if v11 ≠ (0 : Int) then
        some (none, v11)
      else
        (tenant_view_sharesFault v2).bind fun v12 =>
        if v12 ≠ (0 : Int) then
          some (none, v12)
        else
          some (some v2, (0 : Int))

noncomputable def tenant_CheckOrg (p0x0 : Org) : Option Int :=
  (tenant_checked p0x0).bind fun v2 =>
  casesO v2.1 (
    some v2.2) (fun x3 =>
    some v2.2)

noncomputable def tenant_view_covers_j1 (p0x0 : Tenant_view) (l2 : List (Tenant_asks × Bool)) (c3 : Bool) : Option (Bool × Tenant_view) :=
  some (c3, (⟨p0x0.Org, p0x0.parent_, p0x0.acts_, p0x0.at_, p0x0.found_, l2⟩ : Tenant_view))

noncomputable def tenant_view_covers (p0x0 : Tenant_view) (p1x0 : Str) (p2x0 : Str) : Option (Bool × Tenant_view) :=
  (mget2 p0x0.wider_ (⟨p1x0, p2x0⟩ : Tenant_asks) false).bind fun v1 =>
  if (!v1.2) = true then
    (mgetO p0x0.acts_ p1x0 []).bind fun v4 =>
    (mgetO p0x0.acts_ p2x0 []).bind fun v5 =>
    (tenant_allCovered v4 v5).bind fun v6 =>
    tenant_view_covers_j1 p0x0 (mset p0x0.wider_ (⟨p1x0, p2x0⟩ : Tenant_asks) v6) v6
  else
    tenant_view_covers_j1 p0x0 p0x0.wider_ v1.1

noncomputable def tenant_Spare_1x_j1 (p3x0 : Tenant_view) (l5 : List Tenant) (l6 : List Role) (l7 : List Member) (l8 : List Share) (l10 : List (Str × (List Str))) (l12 : List (Tenant_asks × Bool)) (c13 : Bool) : Option (Bool × Tenant_view) :=
  some (c13, (⟨(⟨l5, l6, l7, l8⟩ : Org), p3x0.parent_, l10, p3x0.at_, p3x0.found_, l12⟩ : Tenant_view))

noncomputable def tenant_Spare_1x (p0x0 : Int) (p1x0 : Int) (p2x0 : Org) (p3x0 : Tenant_view) : Option (Bool × Tenant_view) :=
  (idx p2x0.Members p0x0).bind fun v1 =>
  (idx p2x0.Members p1x0).bind fun v2 =>
  if v1.User = v2.User then
    (tenant_view_path p3x0 v1.Tenant).bind fun v14 =>
    (slices_Contains_string_string v14 v2.Tenant).bind fun v16 =>
    if v16 = true then
      (tenant_view_covers p3x0 v2.Role v1.Role).bind fun v18 =>
      tenant_Spare_1x_j1 p3x0 v18.2.Org.Tenants v18.2.Org.Roles v18.2.Org.Members v18.2.Org.Shares v18.2.acts_ v18.2.wider_ v18.1
    else
      tenant_Spare_1x_j1 p3x0 p3x0.Org.Tenants p3x0.Org.Roles p3x0.Org.Members p3x0.Org.Shares p3x0.acts_ p3x0.wider_ false
  else
    tenant_Spare_1x_j1 p3x0 p3x0.Org.Tenants p3x0.Org.Roles p3x0.Org.Members p3x0.Org.Shares p3x0.acts_ p3x0.wider_ false

noncomputable def tenant_Spare_j1 (n39 : Int) (l41 : List Tenant) (l42 : List Role) (l43 : List Member) (l44 : List Share) (l46 : List (Str × Str)) (l48 : List (Str × (List Str))) (l50 : List (Tenant_asks × Bool)) (l52 : List Int) : Option (((List Tenant) × (List Role) × (List Member) × (List Share) × (List (Str × Str)) × (List (Str × (List Str))) × (List (Tenant_asks × Bool)) × (List Int) × Int) ⊕ ((List Int) × Int)) :=
  some (.inl (l41, l42, l43, l44, l46, l48, l50, l52, w64 (n39 + (1 : Int))))

noncomputable def tenant_Spare_j2 (l38 : List Int) (n39 : Int) (n74 : Int) (l75 : List Tenant) (l76 : List Role) (l77 : List Member) (l78 : List Share) (l80 : List (Str × Str)) (l82 : List (Str × (List Str))) (l84 : List (Tenant_asks × Bool)) (c85 : Bool) : Option (((List Tenant) × (List Role) × (List Member) × (List Share) × (List (Str × Str)) × (List (Str × (List Str))) × (List (Tenant_asks × Bool)) × Int) ⊕ (((List Tenant) × (List Role) × (List Member) × (List Share) × (List (Str × Str)) × (List (Str × (List Str))) × (List (Tenant_asks × Bool)) × (List Int) × Int) ⊕ ((List Int) × Int))) :=
  if c85 = true then
    (app l38 [n39]).bind fun l94 =>
    Option.map .inr (tenant_Spare_j1 n39 l75 l76 l77 l78 l80 l82 l84 l94)
  else
    some (.inl (l75, l76, l77, l78, l80, l82, l84, w64 (n74 + (1 : Int))))

noncomputable def tenant_Spare_b2 (p0x0 : Org) (x3 : Tenant_view) (l38 : List Int) (n39 : Int) (l64 : List Tenant) (l65 : List Role) (l66 : List Member) (l67 : List Share) (l69 : List (Str × Str)) (l71 : List (Str × (List Str))) (l73 : List (Tenant_asks × Bool)) (n74 : Int) : Option (((List Tenant) × (List Role) × (List Member) × (List Share) × (List (Str × Str)) × (List (Str × (List Str))) × (List (Tenant_asks × Bool)) × Int) ⊕ (((List Tenant) × (List Role) × (List Member) × (List Share) × (List (Str × Str)) × (List (Str × (List Str))) × (List (Tenant_asks × Bool)) × (List Int) × Int) ⊕ ((List Int) × Int))) :=
  if n74 < (p0x0.Members.length : Int) then
    if n39 ≠ n74 then
      (tenant_Spare_1x n39 n74 p0x0 (⟨(⟨l64, l65, l66, l67⟩ : Org), l69, l71, x3.at_, x3.found_, l73⟩ : Tenant_view)).bind fun v86 =>
      if v86.1 = true then
        if n39 < n74 then
          (tenant_Spare_1x n74 n39 p0x0 (⟨v86.2.Org, v86.2.parent_, v86.2.acts_, x3.at_, x3.found_, v86.2.wider_⟩ : Tenant_view)).bind fun v90 =>
          tenant_Spare_j2 l38 n39 n74 v90.2.Org.Tenants v90.2.Org.Roles v90.2.Org.Members v90.2.Org.Shares v90.2.parent_ v90.2.acts_ v90.2.wider_ (!v90.1)
        else
          tenant_Spare_j2 l38 n39 n74 v86.2.Org.Tenants v86.2.Org.Roles v86.2.Org.Members v86.2.Org.Shares v86.2.parent_ v86.2.acts_ v86.2.wider_ (!false)
      else
        tenant_Spare_j2 l38 n39 n74 v86.2.Org.Tenants v86.2.Org.Roles v86.2.Org.Members v86.2.Org.Shares v86.2.parent_ v86.2.acts_ v86.2.wider_ false
    else
      tenant_Spare_j2 l38 n39 n74 l64 l65 l66 l67 l69 l71 l73 false
  else
    Option.map .inr (tenant_Spare_j1 n39 l64 l65 l66 l67 l69 l71 l73 l38)

noncomputable def tenant_Spare_l2 (p0x0 : Org) (x3 : Tenant_view) (l38 : List Int) (n39 : Int) (l64 : List Tenant) (l65 : List Role) (l66 : List Member) (l67 : List Share) (l69 : List (Str × Str)) (l71 : List (Str × (List Str))) (l73 : List (Tenant_asks × Bool)) (n74 : Int) : Option (((List Tenant) × (List Role) × (List Member) × (List Share) × (List (Str × Str)) × (List (Str × (List Str))) × (List (Tenant_asks × Bool)) × (List Int) × Int) ⊕ ((List Int) × Int)) :=
  iter (fun x : (List Tenant) × (List Role) × (List Member) × (List Share) × (List (Str × Str)) × (List (Str × (List Str))) × (List (Tenant_asks × Bool)) × Int => tenant_Spare_b2 p0x0 x3 l38 n39 x.1 x.2.1 x.2.2.1 x.2.2.2.1 x.2.2.2.2.1 x.2.2.2.2.2.1 x.2.2.2.2.2.2.1 x.2.2.2.2.2.2.2) (l64, l65, l66, l67, l69, l71, l73, n74)

noncomputable def tenant_Spare_b1 (p0x0 : Org) (x3 : Tenant_view) (l27 : List Tenant) (l28 : List Role) (l29 : List Member) (l30 : List Share) (l32 : List (Str × Str)) (l34 : List (Str × (List Str))) (l36 : List (Tenant_asks × Bool)) (l38 : List Int) (n39 : Int) : Option (((List Tenant) × (List Role) × (List Member) × (List Share) × (List (Str × Str)) × (List (Str × (List Str))) × (List (Tenant_asks × Bool)) × (List Int) × Int) ⊕ ((List Int) × Int)) :=
  if n39 < (p0x0.Members.length : Int) then
    tenant_Spare_l2 p0x0 x3 l38 n39 l27 l28 l29 l30 l32 l34 l36 (0 : Int)
  else
    Option.map .inr (some (l38, (0 : Int)))

noncomputable def tenant_Spare_l1 (p0x0 : Org) (x3 : Tenant_view) (l27 : List Tenant) (l28 : List Role) (l29 : List Member) (l30 : List Share) (l32 : List (Str × Str)) (l34 : List (Str × (List Str))) (l36 : List (Tenant_asks × Bool)) (l38 : List Int) (n39 : Int) : Option ((List Int) × Int) :=
  iter (fun x : (List Tenant) × (List Role) × (List Member) × (List Share) × (List (Str × Str)) × (List (Str × (List Str))) × (List (Tenant_asks × Bool)) × (List Int) × Int => tenant_Spare_b1 p0x0 x3 x.1 x.2.1 x.2.2.1 x.2.2.2.1 x.2.2.2.2.1 x.2.2.2.2.2.1 x.2.2.2.2.2.2.1 x.2.2.2.2.2.2.2.1 x.2.2.2.2.2.2.2.2) (l27, l28, l29, l30, l32, l34, l36, l38, n39)

noncomputable def tenant_Spare (p0x0 : Org) : Option ((List Int) × Int) :=
  (tenant_checked p0x0).bind fun v2 =>
  casesO v2.1 (
    if v2.2 ≠ (0 : Int) then
      some ([], v2.2)
    else
      none) (fun x3 =>
    if v2.2 ≠ (0 : Int) then
      some ([], v2.2)
    else
      tenant_Spare_l1 p0x0 x3 x3.Org.Tenants x3.Org.Roles x3.Org.Members x3.Org.Shares x3.parent_ x3.acts_ x3.wider_ [] (0 : Int))

noncomputable def Q_SpareOf_1x_j1 (c5 : Bool) : Option Bool :=
  some c5

noncomputable def Q_SpareOf_1x (p0x0 : Int) (p1x0 : Int) (p2x0 : Org) : Option Bool :=
  (idx p2x0.Members p0x0).bind fun v1 =>
  (idx p2x0.Members p1x0).bind fun v2 =>
  if p0x0 ≠ p1x0 then
    if v1.User = v2.User then
      (Q_pathOf p2x0 v2.Tenant).bind fun v6 =>
      (slices_Contains_string_string v6 v1.Tenant).bind fun v7 =>
      if v7 = true then
        (Q_roleAt p2x0 v1.Role).bind fun v8 =>
        (idx p2x0.Roles v8).bind fun v9 =>
        (Q_roleAt p2x0 v2.Role).bind fun v10 =>
        (idx p2x0.Roles v10).bind fun v11 =>
        (Q_CoversAll v9.Acts v11.Acts).bind fun v12 =>
        Q_SpareOf_1x_j1 v12
      else
        Q_SpareOf_1x_j1 false
    else
      Q_SpareOf_1x_j1 false
  else
    Q_SpareOf_1x_j1 false

noncomputable def Q_SpareOf_j1 (n12 : Int) (c13 : Bool) : Option ((Bool × Int) ⊕ (((List Int) × Int) ⊕ (List Int))) :=
  some (.inl (c13, w64 (n12 + (1 : Int))))

noncomputable def Q_SpareOf_j2 (n7 : Int) (l17 : List Int) : Option (((List Int) × Int) ⊕ (List Int)) :=
  some (.inl (l17, w64 (n7 + (1 : Int))))

noncomputable def Q_SpareOf_k3 (l6 : List Int) (n7 : Int) (c11 : Bool) : Option (((List Int) × Int) ⊕ (List Int)) :=
  if c11 = true then
    (app l6 [n7]).bind fun l18 =>
    Q_SpareOf_j2 n7 l18
  else
    Q_SpareOf_j2 n7 l6

noncomputable def Q_SpareOf_b2 (p0x0 : Org) (l6 : List Int) (n7 : Int) (c11 : Bool) (n12 : Int) : Option ((Bool × Int) ⊕ (((List Int) × Int) ⊕ (List Int))) :=
  if n12 < (p0x0.Members.length : Int) then
    if c11 = true then
      Q_SpareOf_j1 n12 true
    else
      (Q_SpareOf_1x n12 n7 p0x0).bind fun v14 =>
      if v14 = true then
        (Q_SpareOf_1x n7 n12 p0x0).bind fun v15 =>
        Q_SpareOf_j1 n12 ((!v15) || (decide (n12 < n7)))
      else
        Q_SpareOf_j1 n12 false
  else
    Option.map .inr (Q_SpareOf_k3 l6 n7 c11)

noncomputable def Q_SpareOf_l2 (p0x0 : Org) (l6 : List Int) (n7 : Int) (c11 : Bool) (n12 : Int) : Option (((List Int) × Int) ⊕ (List Int)) :=
  iter (fun x : Bool × Int => Q_SpareOf_b2 p0x0 l6 n7 x.1 x.2) (c11, n12)

noncomputable def Q_SpareOf_b1 (p0x0 : Org) (l6 : List Int) (n7 : Int) : Option (((List Int) × Int) ⊕ (List Int)) :=
  if n7 < (p0x0.Members.length : Int) then
    Q_SpareOf_l2 p0x0 l6 n7 false (0 : Int)
  else
    Option.map .inr (some l6)

noncomputable def Q_SpareOf_l1 (p0x0 : Org) (l6 : List Int) (n7 : Int) : Option (List Int) :=
  iter (fun x : (List Int) × Int => Q_SpareOf_b1 p0x0 x.1 x.2) (l6, n7)

noncomputable def Q_SpareOf (p0x0 : Org) : Option (List Int) :=
  Q_SpareOf_l1 p0x0 [] (0 : Int)

noncomputable def slices_Equal_int_int_b1 (p0x0 : List Int) (p1x0 : List Int) (n2 : Int) : Option (Int ⊕ Bool) :=
  if n2 < (p0x0.length : Int) then
    (idx p0x0 n2).bind fun v3 =>
    (idx p1x0 n2).bind fun v4 =>
    if v3 ≠ v4 then
      Option.map .inr (some false)
    else
      some (.inl (w64 (n2 + (1 : Int))))
  else
    Option.map .inr (some true)

noncomputable def slices_Equal_int_int_l1 (p0x0 : List Int) (p1x0 : List Int) (n2 : Int) : Option Bool :=
  iter (fun x : Int => slices_Equal_int_int_b1 p0x0 p1x0 x) n2

noncomputable def slices_Equal_int_int (p0x0 : List Int) (p1x0 : List Int) : Option Bool :=
  if (p0x0.length : Int) ≠ (p1x0.length : Int) then
    some false
  else
    slices_Equal_int_int_l1 p0x0 p1x0 (0 : Int)

noncomputable def tenant_Path (p0x0 : Org) (p1x0 : Str) : Option ((List Str) × Int) :=
  (tenant_checked p0x0).bind fun v2 =>
  casesO v2.1 (
    if v2.2 ≠ (0 : Int) then
      some ([], v2.2)
    else
      none) (fun x3 =>
    if v2.2 ≠ (0 : Int) then
      some ([], v2.2)
    else
      (tenant_view_is x3 p1x0).bind fun v12 =>
      if (!v12) = true then
        some ([], (8 : Int))
      else
        (tenant_view_path x3 p1x0).bind fun v14 =>
        some (v14, (0 : Int)))

noncomputable def tenant_Below_j1 (n19 : Int) (l25 : List Str) : Option (((List Str) × Int) ⊕ ((List Str) × Int)) :=
  some (.inl (l25, w64 (n19 + (1 : Int))))

noncomputable def tenant_Below_b1 (p0x0 : Org) (p1x0 : Str) (x3 : Tenant_view) (l18 : List Str) (n19 : Int) : Option (((List Str) × Int) ⊕ ((List Str) × Int)) :=
  if n19 < (p0x0.Tenants.length : Int) then
    (idx p0x0.Tenants n19).bind fun v21 =>
    (tenant_view_belongs x3 v21.Key p1x0).bind fun v23 =>
    if v23 = true then
      (app l18 [v21.Key]).bind fun l26 =>
      tenant_Below_j1 n19 l26
    else
      tenant_Below_j1 n19 l18
  else
    Option.map .inr (some (l18, (0 : Int)))

noncomputable def tenant_Below_l1 (p0x0 : Org) (p1x0 : Str) (x3 : Tenant_view) (l18 : List Str) (n19 : Int) : Option ((List Str) × Int) :=
  iter (fun x : (List Str) × Int => tenant_Below_b1 p0x0 p1x0 x3 x.1 x.2) (l18, n19)

noncomputable def tenant_Below (p0x0 : Org) (p1x0 : Str) : Option ((List Str) × Int) :=
  (tenant_checked p0x0).bind fun v2 =>
  casesO v2.1 (
    if v2.2 ≠ (0 : Int) then
      some ([], v2.2)
    else
      none) (fun x3 =>
    if v2.2 ≠ (0 : Int) then
      some ([], v2.2)
    else
      (tenant_view_is x3 p1x0).bind fun v12 =>
      if (!v12) = true then
        some ([], (8 : Int))
      else
        tenant_Below_l1 p0x0 p1x0 x3 [] (0 : Int))

noncomputable def Q_PathTo (p0x0 : Org) (p1x0 : Str) : Option (List Str) :=
  (Q_tenantAt p0x0 p1x0).bind fun v2 =>
  if v2 < (0 : Int) then
    some []
  else
    (Q_pathOf p0x0 p1x0).bind fun v3 =>
    some v3

noncomputable def Q_PathTo_nil (p0x0 : Org) (p1x0 : Str) : Option (Option (List Str)) :=
  (Q_tenantAt p0x0 p1x0).bind fun v2 =>
  if v2 < (0 : Int) then
    some none
  else
    (Q_pathOf_nil p0x0 p1x0).bind fun v3 =>
    casesO v3 (
      some none) (fun x4 =>
      some (some x4))

noncomputable def L_when (p0x0 : Bool) (p1x0 : Int) : Int :=
  if p0x0 = true then
    p1x0
  else
    (0 : Int)

noncomputable def slices_Equal_string_string_b1 (p0x0 : List Str) (p1x0 : List Str) (n2 : Int) : Option (Int ⊕ Bool) :=
  if n2 < (p0x0.length : Int) then
    (idx p0x0 n2).bind fun v3 =>
    (idx p1x0 n2).bind fun v4 =>
    if v3 ≠ v4 then
      Option.map .inr (some false)
    else
      some (.inl (w64 (n2 + (1 : Int))))
  else
    Option.map .inr (some true)

noncomputable def slices_Equal_string_string_l1 (p0x0 : List Str) (p1x0 : List Str) (n2 : Int) : Option Bool :=
  iter (fun x : Int => slices_Equal_string_string_b1 p0x0 p1x0 x) n2

noncomputable def slices_Equal_string_string (p0x0 : List Str) (p1x0 : List Str) : Option Bool :=
  if (p0x0.length : Int) ≠ (p1x0.length : Int) then
    some false
  else
    slices_Equal_string_string_l1 p0x0 p1x0 (0 : Int)

noncomputable def Q_BelowOf_j2 (n7 : Int) (l15 : List Str) : Option (((List Str) × Int) ⊕ (List Str)) :=
  some (.inl (l15, w64 (n7 + (1 : Int))))

noncomputable def Q_BelowOf_j1 (l6 : List Str) (n7 : Int) (v9 : Tenant) (c11 : Bool) : Option (((List Str) × Int) ⊕ (List Str)) :=
  if c11 = true then
    (app l6 [v9.Key]).bind fun l16 =>
    Q_BelowOf_j2 n7 l16
  else
    Q_BelowOf_j2 n7 l6

noncomputable def Q_BelowOf_b1 (p0x0 : Org) (p1x0 : Str) (l6 : List Str) (n7 : Int) : Option (((List Str) × Int) ⊕ (List Str)) :=
  if n7 < (p0x0.Tenants.length : Int) then
    (idx p0x0.Tenants n7).bind fun v9 =>
    if v9.Key ≠ p1x0 then
      (Q_pathOf p0x0 v9.Key).bind fun v12 =>
      (slices_Contains_string_string v12 p1x0).bind fun v13 =>
      Q_BelowOf_j1 l6 n7 v9 v13
    else
      Q_BelowOf_j1 l6 n7 v9 false
  else
    Option.map .inr (some l6)

noncomputable def Q_BelowOf_l1 (p0x0 : Org) (p1x0 : Str) (l6 : List Str) (n7 : Int) : Option (List Str) :=
  iter (fun x : (List Str) × Int => Q_BelowOf_b1 p0x0 p1x0 x.1 x.2) (l6, n7)

noncomputable def Q_BelowOf (p0x0 : Org) (p1x0 : Str) : Option (List Str) :=
  Q_BelowOf_l1 p0x0 p1x0 [] (0 : Int)

noncomputable def L_tenanted_j1 (c2 : Bool) : Option Bool :=
  some c2

noncomputable def L_tenanted : Option Bool :=
  (tenant_Covers [([97, 46, 42] : Str)] [([97, 46, 98] : Str)]).bind fun v1 =>
  L_tenanted_j1 ((decide (v1.2 = (0 : Int))) && v1.1)

noncomputable def L_OrgsChecked_j4 (c35 : Bool) : Option Bool :=
  some c35

noncomputable def L_OrgsChecked_j3 (v3 : Org × Fleetmake_Stream) (v4 : Str × Fleetmake_Stream) (v26 : (List Str) × Int) (v28 : (List Str) × Int) (n30 : Int) : Option Bool :=
  if v26.2 = n30 then
    if v28.2 = n30 then
      if n30 ≠ (0 : Int) then
        (L_tenanted).bind fun v42 =>
        L_OrgsChecked_j4 v42
      else
        (Q_PathTo v3.1 v4.1).bind fun v36 =>
        (slices_Equal_string_string v26.1 v36).bind fun v37 =>
        if v37 = true then
          (Q_BelowOf v3.1 v4.1).bind fun v38 =>
          (slices_Equal_string_string v28.1 v38).bind fun v40 =>
          if v40 = true then
            (L_tenanted).bind fun v41 =>
            L_OrgsChecked_j4 v41
          else
            L_OrgsChecked_j4 false
        else
          L_OrgsChecked_j4 false
    else
      L_OrgsChecked_j4 false
  else
    L_OrgsChecked_j4 false

noncomputable def L_OrgsChecked_j2 (v3 : Org × Fleetmake_Stream) (v4 : Str × Fleetmake_Stream) (v18 : Int) (c22 : Bool) : Option Bool :=
  if c22 = true then
    some false
  else
    (tenant_Path v3.1 v4.1).bind fun v26 =>
    (tenant_Below v3.1 v4.1).bind fun v28 =>
    if v18 = (0 : Int) then
      (Q_PathTo_nil v3.1 v4.1).bind fun v31 =>
      casesO v31 (
        L_OrgsChecked_j3 v3 v4 v26 v28 (L_when true (8 : Int))) (fun x32 =>
        (neNil x32).bind fun v34 =>
        L_OrgsChecked_j3 v3 v4 v26 v28 (L_when false (8 : Int)))
    else
      L_OrgsChecked_j3 v3 v4 v26 v28 v18

noncomputable def L_OrgsChecked_j1 (v3 : Org × Fleetmake_Stream) (v4 : Str × Fleetmake_Stream) (c16 : Bool) : Option Bool :=
  if c16 = true then
    some false
  else
    (Q_OrgFault v3.1).bind fun v18 =>
    (tenant_CheckOrg v3.1).bind fun v19 =>
    if v19 ≠ v18 then
      some false
    else
      (tenant_Spare v3.1).bind fun v20 =>
      if v20.2 ≠ v18 then
        L_OrgsChecked_j2 v3 v4 v18 true
      else
        if v18 = (0 : Int) then
          (Q_SpareOf v3.1).bind fun v23 =>
          (slices_Equal_int_int v20.1 v23).bind fun v25 =>
          L_OrgsChecked_j2 v3 v4 v18 (!v25)
        else
          L_OrgsChecked_j2 v3 v4 v18 false

noncomputable def L_OrgsChecked (p0x0 : List Int) : Option Bool :=
  (Stream_Org (⟨p0x0, (0 : Int)⟩ : Fleetmake_Stream)).bind fun v3 =>
  (Stream_Some v3.2 [([116, 97] : Str), ([116, 98] : Str), ([116, 99] : Str), ([110, 111, 110, 101] : Str)]).bind fun v4 =>
  (L_OrgsChecked_1x v4.2).bind fun v6 =>
  (L_OrgsChecked_1x v6.2).bind fun v7 =>
  (Stream_Next v7.2 (3 : Int)).bind fun v8 =>
  (slc [v6.1, v7.1] (0 : Int) v8.1).bind fun l9 =>
  (L_OrgsChecked_1x v8.2).bind fun v10 =>
  (L_OrgsChecked_1x v10.2).bind fun v11 =>
  (Stream_Next v11.2 (3 : Int)).bind fun v12 =>
  (slc [v10.1, v11.1] (0 : Int) v12.1).bind fun l13 =>
  (tenant_Covers l9 l13).bind fun v14 =>
  (Q_CoversFault l9 l13).bind fun v15 =>
  if v14.2 ≠ v15 then
    L_OrgsChecked_j1 v3 v4 true
  else
    if v15 = (0 : Int) then
      (Q_CoversAll l9 l13).bind fun v17 =>
      L_OrgsChecked_j1 v3 v4 (v14.1 != v17)
    else
      L_OrgsChecked_j1 v3 v4 (v14.1 != false)

end Go.Beacon

