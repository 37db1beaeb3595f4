/- The law ClocksRepaired as a plain statement. No program in sight. -/
import Derived.Test.YtblakecmhjcdmaaDoorClkPky1
import Derived.Test.YtblakecmhjcdmaaDoorClkPgk
import Derived.Test.YtblakecmhjcdmaaDoorPclk
set_option linter.unusedVariables false
set_option linter.unusedSimpArgs false
namespace Go.Beacon
open Go Go.Eng

/-! checks -/
def pngC (a b : Ping) : Int := if Lib.compareBytes a.Hub b.Hub ≠ 0 then Lib.compareBytes a.Hub b.Hub else if cmpI a.Sent b.Sent ≠ 0 then cmpI a.Sent b.Sent else if cmpI a.Got b.Got ≠ 0 then cmpI a.Got b.Got else cmpI a.Back b.Back
theorem pngC_3 : Cmp3 pngC := Cmp3.lex (cmpB_3.on Ping.Hub) (Cmp3.lex (cmpI_3.on Ping.Sent) (Cmp3.lex (cmpI_3.on Ping.Got) (cmpI_3.on Ping.Back)))
theorem orL4 (x y z w : Int) : orL [x, y, z, w] = if x ≠ 0 then x else if y ≠ 0 then y else if z ≠ 0 then z else w := by
  by_cases h1 : x = 0 <;> by_cases h2 : y = 0 <;> by_cases h3 : z = 0 <;> by_cases h4 : w = 0 <;> simp [orL, h1, h2, h3, h4]
theorem byPing_eq (a b : Ping) : hub_byPing a b = some (pngC a b) := by
  unfold hub_byPing
  rw [CompareI_eq, CompareI_eq, CompareI_eq, show cmp_Or_int [Lib.compareBytes a.Hub b.Hub, cmpI a.Sent b.Sent, cmpI a.Got b.Got, cmpI a.Back b.Back] = some (orL [Lib.compareBytes a.Hub b.Hub, cmpI a.Sent b.Sent, cmpI a.Got b.Got, cmpI a.Back b.Back]) from gOr_eq _ (by simp), orL4]
  rfl
theorem pingOrder_eq (a b : Ping) : Q_pingOrder a b = some (pngC a b) := byPing_eq a b
def ordP (o : Option Ping) (p : Ping) : Bool := match o with
  | none => false
  | some q => decide (pngC p q ≤ 0)
def pngStep (o : Option Ping) (p : Ping) : Int :=
  if keyB p.Hub = false then 5
  else if p.Sent < 0 ∨ 345686399999 < p.Sent ∨ p.Got < 0 ∨ 345686399999 < p.Got ∨ p.Back < 0 ∨ 345686399999 < p.Back ∨ p.Back < p.Sent then 1
  else if ordP o p = true then 7 else 0
def chkP (xs : List Ping) : Int := if (1000 : Int) < xs.length then 2 else scanC pngStep none xs
theorem CheckPings_eq (xs : List Ping) : hub_CheckPings xs = some (chkP xs) := by
  unfold hub_CheckPings chkP
  split
  · rfl
  · rename_i hl
    unfold hub_CheckPings_l1
    refine scan_all pngStep xs _ (fun {i s} h0 h1 hs => ?_) (by show hub_CheckPings_b1 xs _ = _; rw [hub_CheckPings_b1, if_neg (by omega)]; rfl)
    show hub_CheckPings_b1 xs i = _
    rw [hub_CheckPings_b1, if_pos h1, hs]
    simp only [Option.bind_some, Key_eq]
    unfold pngStep
    cases hk : keyB s.Hub with
    | false => simp
    | true =>
      simp only [Bool.not_true, Bool.false_eq_true, if_false, Bool.true_eq_false]
      unfold hub_CheckPings_j1
      have e : (!base_Moment s.Sent || (!base_Moment s.Got || (!base_Moment s.Back || decide (s.Back < s.Sent)))) = true ↔ (s.Sent < 0 ∨ 345686399999 < s.Sent ∨ s.Got < 0 ∨ 345686399999 < s.Got ∨ s.Back < 0 ∨ 345686399999 < s.Back ∨ s.Back < s.Sent) := by
        rw [Moment_eq, Moment_eq, Moment_eq]
        simp only [Bool.or_eq_true, Bool.not_eq_true', Bool.and_eq_false_iff, decide_eq_true_eq, decide_eq_false_iff_not]
        omega
      by_cases c : s.Sent < 0 ∨ 345686399999 < s.Sent ∨ s.Got < 0 ∨ 345686399999 < s.Got ∨ s.Back < 0 ∨ 345686399999 < s.Back ∨ s.Back < s.Sent
      · rw [if_pos (e.2 c), if_pos c]; rfl
      · rw [if_neg (fun h => c (e.1 h)), if_neg c]
        unfold hub_CheckPings_j2
        rw [w64_in (x := i + 1) (by omega) (by omega)]
        by_cases hi : 0 < i
        · obtain ⟨p, hp, _, _⟩ := idx_lt xs (i := i - 1) (by omega) (by omega)
          have hpa : prevOf xs i = some p := by unfold prevOf; rw [if_neg (by omega), hp]
          rw [hpa, if_pos hi, w64_in (by omega) (by omega), hp]
          simp only [Option.bind_some, byPing_eq]
          show (if ordP (some p) s = true then _ else _) = _
          cases ordP (some p) s <;> rfl
        · have hpa : prevOf xs i = none := by unfold prevOf; rw [if_pos (by omega)]
          rw [hpa, if_neg hi]; rfl
theorem PingsFault_eq (xs : List Ping) : Q_PingsFault xs = some (chkP xs) := by
  unfold Q_PingsFault chkP
  split
  · rfl
  · rename_i hl
    unfold Q_PingsFault_l1
    refine scan_all pngStep xs _ (fun {i s} h0 h1 hs => ?_) (by show Q_PingsFault_b1 xs _ = _; rw [Q_PingsFault_b1, if_neg (by omega)]; rfl)
    show Q_PingsFault_b1 xs i = _
    rw [Q_PingsFault_b1, if_pos h1, hs]
    simp only [Option.bind_some, QKeyT_eq]
    unfold pngStep
    cases hk : keyB s.Hub with
    | false => simp
    | true =>
      simp only [Bool.not_true, Bool.false_eq_true, if_false, Bool.true_eq_false]
      unfold Q_PingsFault_j1
      have e : (decide (Q_MomentFault s.Sent ≠ 0) || (decide (Q_MomentFault s.Got ≠ 0) || (decide (Q_MomentFault s.Back ≠ 0) || decide (s.Back < s.Sent)))) = true ↔ (s.Sent < 0 ∨ 345686399999 < s.Sent ∨ s.Got < 0 ∨ 345686399999 < s.Got ∨ s.Back < 0 ∨ 345686399999 < s.Back ∨ s.Back < s.Sent) := by
        rw [QMomentF_eq, QMomentF_eq, QMomentF_eq]
        have h : ∀ n : Int, (if 0 ≤ n ∧ n ≤ 345686399999 then (0 : Int) else 1) ≠ 0 ↔ (n < 0 ∨ 345686399999 < n) := fun n => by
          split
          · simp; omega
          · simp; omega
        simp only [Bool.or_eq_true, decide_eq_true_eq, h]
        omega
      by_cases c : s.Sent < 0 ∨ 345686399999 < s.Sent ∨ s.Got < 0 ∨ 345686399999 < s.Got ∨ s.Back < 0 ∨ 345686399999 < s.Back ∨ s.Back < s.Sent
      · rw [if_pos (e.2 c), if_pos c]; rfl
      · rw [if_neg (fun h => c (e.1 h)), if_neg c]
        unfold Q_PingsFault_j2
        rw [w64_in (x := i + 1) (by omega) (by omega)]
        by_cases hi : 0 < i
        · obtain ⟨p, hp, _, _⟩ := idx_lt xs (i := i - 1) (by omega) (by omega)
          have hpa : prevOf xs i = some p := by unfold prevOf; rw [if_neg (by omega), hp]
          rw [hpa, if_pos hi, w64_in (by omega) (by omega), hp]
          simp only [Option.bind_some, pingOrder_eq]
          have he : decide ((0 : Int) ≤ pngC p s) = ordP (some p) s := by
            unfold ordP
            rw [decide_eq_decide]
            have := pngC_3.neg p s; omega
          rw [he]
          cases ordP (some p) s <;> rfl
        · have hpa : prevOf xs i = none := by unfold prevOf; rw [if_pos (by omega)]
          rw [hpa, if_neg hi]; rfl
def PB (p : Ping) : Prop := 0 ≤ p.Sent ∧ p.Sent ≤ p.Back ∧ p.Back ≤ 345686399999 ∧ 0 ≤ p.Got ∧ p.Got ≤ 345686399999
theorem scanP_R : ∀ {xs : List Ping} {o : Option Ping}, scanC pngStep o xs = 0 → ∀ p ∈ xs, PB p
  | [], _, _, p, hp => by simp at hp
  | x :: r, o, h, p, hp => by
    simp only [scanC] at h
    by_cases h0 : pngStep o x = 0
    · rw [if_pos h0] at h
      rcases List.mem_cons.1 hp with rfl | hp
      · unfold pngStep at h0
        split at h0
        · cases h0
        · split at h0
          · cases h0
          · unfold PB; omega
      · exact scanP_R h p hp
    · rw [if_neg h0] at h; exact absurd h h0
theorem chkP_R {xs : List Ping} (h : chkP xs = 0) : (∀ p ∈ xs, PB p) ∧ xs.length ≤ 1000 := by
  unfold chkP at h
  split at h
  · cases h
  · exact ⟨scanP_R h, by omega⟩
/-! how many agree -/
def loP (p : Ping) : Int := p.Got - p.Back
def hiP (p : Ping) : Int := p.Got - p.Sent
def cov (x : Int) (p : Ping) : Bool := decide (loP p ≤ x) && decide (x ≤ hiP p)
def manyP (I : List Ping) (x : Int) : Int := ((I.countP (cov x) : Nat) : Int)
theorem many_loop (x : Int) (I : List Ping) (hI : ∀ p ∈ I, PB p) (hl : I.length ≤ 1000) : ∀ (m : Nat) (n i : Int), 0 ≤ i → i + m = I.length → 0 ≤ n → n ≤ i → Q_OffsetOf_2x_l1 x I n i = some (n + manyP (I.drop i.toNat) x) := by
  intro m
  induction m with
  | zero =>
    intro n i h0 hi hn hn2
    unfold Q_OffsetOf_2x_l1
    rw [iter_eq, Q_OffsetOf_2x_b1, if_neg (by simp only; omega), map_inr_after, List.drop_of_length_le (by omega)]
    simp [manyP]
  | succ m ih =>
    intro n i h0 hi hn hn2
    obtain ⟨p, hp, hpm, hd⟩ := idx_lt I (i := i) h0 (by omega)
    obtain ⟨b1, b2, b3, b4, b5⟩ := hI p hpm
    have i1 := ih (n + 1) (i + 1) (by omega) (by omega) (by omega) (by omega)
    have i2 := ih n (i + 1) (by omega) (by omega) (by omega) (by omega)
    unfold Q_OffsetOf_2x_l1 at i1 i2 ⊢
    rw [iter_eq, Q_OffsetOf_2x_b1, if_pos (by simp only; omega)]
    simp only [hp, Option.bind_some]
    rw [w64_in (x := p.Got - p.Back) (by omega) (by omega), w64_in (x := p.Got - p.Sent) (by omega) (by omega), show Q_in x (p.Got - p.Back) (p.Got - p.Sent) = cov x p from rfl, hd]
    unfold Q_OffsetOf_2x_j1 manyP at *
    rw [List.countP_cons, w64_in (x := i + 1) (by omega) (by omega)]
    cases hc : cov x p with
    | true =>
      simp only [if_true, Option.bind_some, after_inl]
      rw [w64_in (x := n + 1) (by omega) (by omega), i1]
      congr 1; omega
    | false =>
      simp only [Bool.false_eq_true, if_false, Option.bind_some, after_inl]
      rw [i2]; congr 1
theorem many_eq (x : Int) (I : List Ping) (hI : ∀ p ∈ I, PB p) (hl : I.length ≤ 1000) : Q_OffsetOf_2x x I = some (manyP I x) := by
  unfold Q_OffsetOf_2x
  rw [many_loop x I hI hl I.length 0 0 (by omega) (by omega) (by omega) (by omega)]
  simp
/-! ends -/
def edgesP (I : List Ping) : List Hub_edge := I.flatMap (fun p => [⟨loP p, 1⟩, ⟨hiP p + 1, -1⟩])
def cutsP (I : List Ping) : List Int := I.flatMap (fun p => [loP p, hiP p + 1])
theorem edges_at (I : List Ping) : (edgesP I).map Hub_edge.at_ = cutsP I := by
  unfold edgesP cutsP
  rw [List.map_flatMap]; rfl
def sumLe (x : Int) : List Hub_edge → Int
  | [] => 0
  | e :: r => (if e.at_ ≤ x then e.by_ else 0) + sumLe x r
def sumA : List Hub_edge → Int
  | [] => 0
  | e :: r => e.by_ + sumA r
theorem sumLe_perm {x : Int} {A B : List Hub_edge} (h : A.Perm B) : sumLe x A = sumLe x B := by
  induction h with
  | nil => rfl
  | cons a _ ih => simp only [sumLe, ih]
  | swap a b l => simp only [sumLe]; omega
  | trans _ _ i1 i2 => exact i1.trans i2
theorem sumLe_app (x : Int) : ∀ A B : List Hub_edge, sumLe x (A ++ B) = sumLe x A + sumLe x B
  | [], B => by simp [sumLe]
  | a :: A, B => by simp only [List.cons_append, sumLe, sumLe_app x A B]; omega
theorem sumA_app : ∀ A B : List Hub_edge, sumA (A ++ B) = sumA A + sumA B
  | [], B => by simp [sumA]
  | a :: A, B => by simp only [List.cons_append, sumA, sumA_app A B]; omega
theorem sumLe_all {x : Int} : ∀ {A : List Hub_edge}, (∀ e ∈ A, e.at_ ≤ x) → sumLe x A = sumA A
  | [], _ => rfl
  | a :: A, h => by simp only [sumLe, sumA]; rw [if_pos (h a (by simp)), sumLe_all (fun e he => h e (by simp [he]))]
theorem sumLe_none {x : Int} : ∀ {A : List Hub_edge}, (∀ e ∈ A, x < e.at_) → sumLe x A = 0
  | [], _ => rfl
  | a :: A, h => by simp only [sumLe]; rw [if_neg (by have := h a (by simp); omega), sumLe_none (fun e he => h e (by simp [he]))]; rfl
theorem sum_many (x : Int) : ∀ (I : List Ping), (∀ p ∈ I, PB p) → sumLe x (edgesP I) = manyP I x
  | [], _ => rfl
  | p :: I, h => by
    have ih := sum_many x I (fun q hq => h q (by simp [hq]))
    have hp := h p (by simp)
    show sumLe x ([⟨loP p, 1⟩, ⟨hiP p + 1, -1⟩] ++ edgesP I) = _
    rw [sumLe_app, ih]
    unfold manyP
    rw [List.countP_cons]
    have hle : loP p ≤ hiP p := by unfold loP hiP; unfold PB at hp; omega
    simp only [sumLe]
    unfold cov
    by_cases h1 : loP p ≤ x <;> by_cases h2 : x ≤ hiP p
    · rw [if_pos h1, if_neg (by omega)]; simp [h1, h2]; omega
    · rw [if_pos h1, if_pos (by omega)]; simp [h1, h2]
    · rw [if_neg h1, if_neg (by omega)]; simp [h1, h2]
    · omega
theorem edges_len (I : List Ping) : (edgesP I).length = 2 * I.length := by
  induction I with
  | nil => rfl
  | cons p I ih => show ([_, _] ++ edgesP I).length = _; simp [ih]; omega
theorem edges_bd {I : List Ping} (h : ∀ p ∈ I, PB p) : ∀ e ∈ edgesP I, (-1000000000000 ≤ e.at_ ∧ e.at_ ≤ 1000000000000) ∧ (-1 ≤ e.by_ ∧ e.by_ ≤ 1) := fun e he => by
  obtain ⟨p, hp, hep⟩ := List.mem_flatMap.1 he
  have := h p hp
  unfold PB at this
  simp only [List.mem_cons, List.not_mem_nil, or_false] at hep
  rcases hep with rfl | rfl
  · simp only [loP]; omega
  · simp only [hiP]; omega
theorem allc {α : Type} {p : α → Prop} {a : α} {l : List α} (h0 : p a) (h : ∀ x ∈ l, p x) : ∀ x ∈ a :: l, p x := fun x hx => (List.mem_cons.1 hx).elim (fun e => e ▸ h0) (h x)
/-! the program's sweep -/
def toO (B : Best) : Offset := ⟨B.low, B.high, B.many⟩
theorem inner (Z : List Hub_edge) (hZ : ∀ e ∈ Z, -1 ≤ e.by_ ∧ e.by_ ≤ 1) (hl : Z.length ≤ 2000) (B : Best) (e : Hub_edge) : ∀ (m : Nat) (T R : List Hub_edge) (n i : Int), T.length = m → 0 ≤ i → i ≤ Z.length → Z.drop i.toNat = T ++ R → (∀ x ∈ T, x.at_ = e.at_) → (∀ x r, R = x :: r → x.at_ ≠ e.at_) → -i ≤ n ∧ n ≤ i → hub_offset_l3 Z B.low B.high B.many e n i = hub_offset_k7 Z B.low B.high B.many e (n + sumA T) (i + T.length) := by
  intro m
  induction m with
  | zero =>
    intro T R n i hT h0 hi hd hT2 hR hn
    obtain rfl := List.length_eq_zero_iff.1 hT
    unfold hub_offset_l3
    rw [iter_eq, hub_offset_b3]
    simp only [List.nil_append] at hd
    cases hc : R with
    | nil =>
      have : ¬ i < (Z.length : Int) := fun h => by
        obtain ⟨y, _, _, hd2⟩ := idx_lt Z (i := i) h0 h
        rw [hd, hc] at hd2; cases hd2
      rw [if_neg this]
      unfold hub_offset_j3
      rw [if_neg (by simp), map_inr_after]
      simp [sumA]
    | cons x r =>
      have hlt : i < (Z.length : Int) := by
        have h1 : (Z.drop i.toNat).length = (x :: r).length := by rw [hd, hc]
        simp at h1; omega
      obtain ⟨y, hy, _, hd2⟩ := idx_lt Z (i := i) h0 hlt
      rw [hd, hc] at hd2
      obtain ⟨rfl, _⟩ := List.cons.inj hd2
      rw [if_pos hlt, hy]
      simp only [Option.bind_some]
      unfold hub_offset_j3
      rw [if_neg (by simpa using hR x r hc), map_inr_after]
      simp [sumA]
  | succ m ih =>
    intro T R n i hT h0 hi hd hT2 hR hn
    obtain ⟨x, T', rfl⟩ : ∃ x T', T = x :: T' := by cases T with | nil => simp at hT | cons x T' => exact ⟨x, T', rfl⟩
    have hlt : i < (Z.length : Int) := by
      have h1 : (Z.drop i.toNat).length = (x :: T' ++ R).length := by rw [hd]
      simp at h1; omega
    obtain ⟨y, hy, hym, hd2⟩ := idx_lt Z (i := i) h0 hlt
    rw [hd, List.cons_append] at hd2
    obtain ⟨rfl, hd3⟩ := List.cons.inj hd2
    have hb := hZ x hym
    have ih' := ih T' R (n + x.by_) (i + 1) (by simpa using hT) (by omega) (by omega) hd3.symm (fun z hz => hT2 z (by simp [hz])) hR (by omega)
    unfold hub_offset_l3 at ih' ⊢
    rw [iter_eq, hub_offset_b3, if_pos hlt, hy]
    simp only [Option.bind_some]
    unfold hub_offset_j3
    rw [if_pos (by simpa using hT2 x (by simp)), hy]
    simp only [Option.bind_some, after_inl]
    rw [w64_in (by omega) (by omega), w64_in (by omega) (by omega), ih']
    simp only [sumA, List.length_cons]
    congr 1 <;> omega
theorem same_cut (e : Int) : ∀ (T : List Hub_edge), (∀ x ∈ T, x.at_ = e) → T.map Hub_edge.at_ = List.replicate T.length e
  | [], _ => rfl
  | x :: T, h => by
    rw [List.map_cons, h x (by simp), same_cut e T (fun y hy => h y (by simp [hy]))]; rfl
theorem outer (Z : List Hub_edge) (hZ : ∀ e ∈ Z, (-1000000000000 ≤ e.at_ ∧ e.at_ ≤ 1000000000000) ∧ (-1 ≤ e.by_ ∧ e.by_ ≤ 1)) (hl : Z.length ≤ 2000) (hs : Z.Pairwise (fun a b => a.at_ ≤ b.at_)) (hend : ∀ e, Z.getLast? = some e → sumLe e.at_ Z = 0) : ∀ (k : Nat) (B : Best) (i : Int), 0 ≤ i → i ≤ Z.length → Z.length - i.toNat ≤ k → 0 ≤ B.many → (∀ x ∈ Z.take i.toNat, ∀ y ∈ Z.drop i.toNat, x.at_ < y.at_) →
    hub_offset_l2 Z B.low B.high B.many (sumA (Z.take i.toNat)) i = some (toO (progC (fun x => sumLe x Z) ((Z.drop i.toNat).map Hub_edge.at_) B), decide (0 < (progC (fun x => sumLe x Z) ((Z.drop i.toNat).map Hub_edge.at_) B).many)) := by
  have hsum : ∀ A : List Hub_edge, (∀ x ∈ A, -1 ≤ x.by_ ∧ x.by_ ≤ 1) → -(A.length : Int) ≤ sumA A ∧ sumA A ≤ A.length := by
    intro A
    induction A with
    | nil => intro _; simp [sumA]
    | cons a A ih =>
      intro h
      have h1 := h a (by simp)
      have h2 := ih (fun x hx => h x (by simp [hx]))
      simp only [sumA, List.length_cons]; omega
  intro k
  induction k with
  | zero =>
    intro B i h0 hi hk hB hsep
    unfold hub_offset_l2
    rw [iter_eq, hub_offset_b2, if_neg (by simp only; omega), map_inr_after, List.drop_of_length_le (by omega)]
    rfl
  | succ k ih =>
    intro B i h0 hi hk hB hsep
    by_cases hlt : i < (Z.length : Int)
    · obtain ⟨e, he, hem, hd⟩ := idx_lt Z (i := i) h0 hlt
      -- the group
      have hsplit : ∃ T R, Z.drop (i + 1).toNat = T ++ R ∧ (∀ x ∈ T, x.at_ = e.at_) ∧ (∀ x r, R = x :: r → x.at_ ≠ e.at_) := by
        have key : ∀ L : List Hub_edge, ∃ T R, L = T ++ R ∧ (∀ x ∈ T, x.at_ = e.at_) ∧ (∀ x r, R = x :: r → x.at_ ≠ e.at_) := by
          intro L
          induction L with
          | nil => exact ⟨[], [], rfl, by simp, by simp⟩
          | cons y L ihL =>
            by_cases hy : y.at_ = e.at_
            · obtain ⟨T, R, h1, h2, h3⟩ := ihL
              exact ⟨y :: T, R, by rw [h1]; rfl, allc (p := fun x : Hub_edge => x.at_ = e.at_) hy h2, h3⟩
            · exact ⟨[], y :: L, rfl, by simp, fun x r hxr => by obtain ⟨rfl, _⟩ := List.cons.inj hxr; exact hy⟩
        exact key _
      obtain ⟨T, R, hTR, hT, hR⟩ := hsplit
      have hd' : Z.drop i.toNat = (e :: T) ++ R := by rw [hd, hTR]; rfl
      have hdl : (Z.drop i.toNat).length = T.length + 1 + R.length := by rw [hd']; simp; omega
      have hdl2 : (Z.drop i.toNat).length = Z.length - i.toNat := List.length_drop
      have hZs := hs.sublist (List.drop_sublist i.toNat Z)
      rw [hd'] at hZs
      have hZs' := List.pairwise_append.1 hZs
      have htk : Z.take (i + (e :: T).length).toNat = Z.take i.toNat ++ (e :: T) := by
        rw [show (i + ((e :: T).length : Nat)).toNat = i.toNat + (e :: T).length by omega, List.take_add, hd', List.take_left]
      have hdr : Z.drop (i + (e :: T).length).toNat = R := by
        rw [show (i + ((e :: T).length : Nat)).toNat = i.toNat + (e :: T).length by omega, ← List.drop_drop, hd', List.drop_left]
      have hRlt : ∀ y ∈ R, e.at_ < y.at_ := fun y hy => by
        have h1 := hZs'.2.2 e (by simp) y hy
        cases hRc : R with
        | nil => rw [hRc] at hy; simp at hy
        | cons x r =>
          have h2 := hR x r hRc
          have h3 := hZs'.2.2 e (by simp) x (by rw [hRc]; simp)
          rw [hRc] at hy
          rcases List.mem_cons.1 hy with rfl | hy
          · omega
          · have h4 := hZs'.2.1; rw [hRc] at h4
            have := (List.pairwise_cons.1 h4).1 y hy
            omega
      have hmany : sumA (Z.take i.toNat) + sumA (e :: T) = sumLe e.at_ Z := by
        have h1 : Z = Z.take i.toNat ++ ((e :: T) ++ R) := by rw [← hd', List.take_append_drop]
        have h2 : sumLe e.at_ Z = sumLe e.at_ (Z.take i.toNat ++ ((e :: T) ++ R)) := by rw [← h1]
        rw [h2, sumLe_app, sumLe_app, sumLe_all (A := Z.take i.toNat) (fun x hx => Int.le_of_lt (hsep x hx e (by rw [hd']; simp))), sumLe_all (A := e :: T) (allc (p := fun x : Hub_edge => x.at_ ≤ e.at_) (Int.le_refl _) (fun x hx => by rw [hT x hx]; exact Int.le_refl _)), sumLe_none hRlt]
        omega
      have hb := hsum (Z.take i.toNat) (fun x hx => (hZ x (List.mem_of_mem_take hx)).2)
      have hbl : ((Z.take i.toNat).length : Int) ≤ i := by simp; omega
      have hin := inner Z (fun x hx => (hZ x hx).2) hl B e (T.length + 1) (e :: T) R (sumA (Z.take i.toNat)) i rfl h0 hi hd' (allc (p := fun x : Hub_edge => x.at_ = e.at_) rfl hT) hR (by omega)
      have hmb := hsum Z (fun x hx => (hZ x hx).2)
      unfold hub_offset_l2 at ih ⊢
      rw [iter_eq, hub_offset_b2, if_pos hlt, he]
      simp only [Option.bind_some]
      rw [hin, hmany, hd', List.map_append, List.map_cons, same_cut e.at_ T hT]
      unfold hub_offset_k7
      cases hRc : R with
      | nil =>
        rw [hRc] at hdl
        rw [if_pos (by simp at hdl ⊢; omega), map_inr_after]
        have hlast : Z.getLast? = some e ∨ ∃ z, Z.getLast? = some z ∧ z.at_ = e.at_ := by
          have h1 : Z = Z.take i.toNat ++ (e :: T) := by
            have := (List.take_append_drop i.toNat Z).symm
            rw [hd', hRc, List.append_nil] at this; exact this
          right
          rw [h1, List.getLast?_append]
          cases hg : (e :: T).getLast? with
          | none => simp at hg
          | some z =>
            refine ⟨z, rfl, ?_⟩
            rcases List.mem_cons.1 (List.mem_of_getLast? hg) with rfl | h
            · rfl
            · exact hT z h
        have hz0 : sumLe e.at_ Z = 0 := by
          rcases hlast with h | ⟨z, h, hz⟩
          · exact hend e h
          · rw [← hz]; exact hend z h
        simp only [List.map_nil, List.append_nil]
        rw [show e.at_ :: List.replicate T.length e.at_ = e.at_ :: List.replicate T.length e.at_ from rfl, progC_end _ _ hz0 _ _ hB]
        rfl
      | cons g r =>
        have hgi : idx Z (i + ((e :: T).length : Nat)) = some g := by
          unfold idx
          rw [if_pos (by omega)]
          have : (Z.drop (i + (e :: T).length).toNat)[0]? = some g := by rw [hdr, hRc]; rfl
          rw [List.getElem?_drop] at this
          simpa using this
        rw [hRc] at hdl
        rw [if_neg (by simp at hdl ⊢; omega), hgi]
        simp only [Option.bind_some]
        have hgm : g ∈ Z := List.mem_of_mem_drop (i := i.toNat) (by rw [hd', hRc]; simp)
        have hgB := hZ g hgm
        have heB := hZ e hem
        have heg : e.at_ < g.at_ := hRlt g (by rw [hRc]; simp)
        rw [w64_in (x := g.at_ - 1) (by omega) (by omega)]
        have hcut : progC (fun x => sumLe x Z) (e.at_ :: List.replicate T.length e.at_ ++ List.map Hub_edge.at_ (g :: r)) B = progC (fun x => sumLe x Z) (List.map Hub_edge.at_ R) (stepW (fun x => sumLe x Z) B e.at_ g.at_) := by
          rw [hRc, List.map_cons, List.cons_append]
          exact progC_same (fun x => sumLe x Z) e.at_ T.length g.at_ (r.map Hub_edge.at_) B
        rw [hcut]
        have next : ∀ B' : Best, 0 ≤ B'.many → iter (fun x : Int × Int × Int × Int × Int => hub_offset_b2 Z x.1 x.2.1 x.2.2.1 x.2.2.2.1 x.2.2.2.2) (B'.low, B'.high, B'.many, sumLe e.at_ Z, i + ((e :: T).length : Nat)) = some (toO (progC (fun x => sumLe x Z) (List.map Hub_edge.at_ R) B'), decide (0 < (progC (fun x => sumLe x Z) (List.map Hub_edge.at_ R) B').many)) := by
          intro B' hB'
          have h1 := ih B' (i + ((e :: T).length : Nat)) (by omega) (by simp at hdl ⊢; omega) (by simp at hdl ⊢; omega) hB' (fun x hx y hy => by
            rw [htk] at hx
            rw [hdr] at hy
            rcases List.mem_append.1 hx with hx | hx
            · exact hsep x hx y (by rw [hd']; simp [hy])
            · have : x.at_ = e.at_ := allc (p := fun x : Hub_edge => x.at_ = e.at_) rfl hT x hx
              rw [this]; exact hRlt y hy)
          rw [htk, hdr, sumA_app, hmany] at h1
          exact h1
        by_cases c1 : B.many < sumLe e.at_ Z
        · rw [if_pos c1]
          unfold hub_offset_j4
          rw [Option.bind_some, after_inl]
          have e1 : stepW (fun x => sumLe x Z) B e.at_ g.at_ = ⟨e.at_, g.at_ - 1, sumLe e.at_ Z⟩ := by unfold stepW; rw [if_pos c1]
          rw [e1]
          exact next ⟨e.at_, g.at_ - 1, sumLe e.at_ Z⟩ (by simp only; omega)
        · rw [if_neg c1]
          unfold hub_offset_j5 hub_offset_j6 hub_offset_j4
          rw [w64_in (x := e.at_ - 1) (by omega) (by omega)]
          by_cases c2 : sumLe e.at_ Z = B.many ∧ B.high = e.at_ - 1
          · rw [if_pos (by simp [c2.1, c2.2]), Option.bind_some, after_inl]
            have e1 : stepW (fun x => sumLe x Z) B e.at_ g.at_ = ⟨B.low, g.at_ - 1, B.many⟩ := by unfold stepW; rw [if_neg c1, if_pos c2]
            rw [e1]
            rw [w64_in (x := g.at_ - 1) (by omega) (by omega)]
            exact next ⟨B.low, g.at_ - 1, B.many⟩ hB
          · rw [if_neg (by simp; intro h1 h2; exact c2 ⟨h1, h2⟩), Option.bind_some, after_inl]
            have e1 : stepW (fun x => sumLe x Z) B e.at_ g.at_ = B := by unfold stepW; rw [if_neg c1, if_neg c2]
            rw [e1]
            exact next B hB
    · unfold hub_offset_l2
      rw [iter_eq, hub_offset_b2, if_neg hlt, map_inr_after, List.drop_of_length_le (by omega)]
      rfl
end Go.Beacon
