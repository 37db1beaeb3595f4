/- Numbers in their one spelling: what both readers of numbers take. No program in sight. -/
import Derived.Test.YtibjdfdmkahocaaDoorVerPspl
import Derived.Lib.AtoiTie
import Derived.Lib.AtoiBound
set_option linter.unusedVariables false
set_option linter.unusedSimpArgs false
namespace Go.Beacon
open Go Go.Eng

def isDig (c : UInt8) : Bool := decide (48 ≤ c.toNat) && decide (c.toNat ≤ 57)
theorem isDig_val {c : UInt8} (h : isDig c = true) : Lib.digitVal c = some (c.toNat - 48) := by
  unfold isDig at h; simp at h
  unfold Lib.digitVal; rw [if_pos h]
theorem val_dig {c : UInt8} {d : Nat} (h : Lib.digitVal c = some d) : isDig c = true ∧ d = c.toNat - 48 ∧ UInt8.ofNat (48 + d) = c := by
  obtain ⟨h1, h2, h3⟩ := Lib.digitVal_eq h
  refine ⟨by unfold isDig; simp; omega, h3, ?_⟩
  apply UInt8.toNat_inj.1
  rw [UInt8.toNat_ofNat']
  omega
theorem decFrom_all : ∀ (l : Str) (acc : Nat), l.all isDig = true → ∃ m, Lib.decFrom acc l = some m
  | [], acc, _ => ⟨acc, rfl⟩
  | b :: r, acc, h => by
    simp only [List.all_cons, Bool.and_eq_true] at h
    obtain ⟨m, hm⟩ := decFrom_all r (acc * 10 + (b.toNat - 48)) h.2
    exact ⟨m, by rw [Lib.decFrom, isDig_val h.1]; exact hm⟩
theorem all_decFrom : ∀ (l : Str) (acc m : Nat), Lib.decFrom acc l = some m → l.all isDig = true
  | [], _, _, _ => rfl
  | b :: r, acc, m, h => by
    rw [Lib.decFrom] at h
    cases hd : Lib.digitVal b with
    | none => rw [hd] at h; simp at h
    | some d =>
      rw [hd] at h
      simp only [List.all_cons, (val_dig hd).1, Bool.true_and]
      exact all_decFrom r _ m h
theorem dec_grow : ∀ (l : Str) (acc m : Nat), 0 < acc → Lib.decFrom acc l = some m → Lib.decDigits m = Lib.decDigits acc ++ l
  | [], acc, m, _, h => by simp only [Lib.decFrom, Option.some.injEq] at h; simp [h]
  | b :: r, acc, m, ha, h => by
    rw [Lib.decFrom] at h
    cases hd : Lib.digitVal b with
    | none => rw [hd] at h; simp at h
    | some d =>
      rw [hd] at h
      obtain ⟨h1, h2, h3⟩ := Lib.digitVal_eq hd
      have ih := dec_grow r (acc * 10 + d) m (by omega) h
      rw [ih, Lib.decDigits, dif_neg (by omega)]
      rw [show (acc * 10 + d) / 10 = acc by omega, show (acc * 10 + d) % 10 = d by omega, (val_dig hd).2.2]
      simp
theorem dec_head {m : Nat} (h : 0 < m) : ∃ b r, Lib.decDigits m = b :: r ∧ b ≠ 48 := by
  induction m using Nat.strongRecOn with
  | _ m ih =>
    rw [Lib.decDigits]
    split
    · refine ⟨_, _, rfl, ?_⟩
      intro e
      have := congrArg UInt8.toNat e
      rw [UInt8.toNat_ofNat'] at this
      simp at this; omega
    · obtain ⟨b, r, h1, h2⟩ := ih (m / 10) (by omega) (by omega)
      exact ⟨b, r ++ _, by rw [h1]; rfl, h2⟩
theorem dec_zero : Lib.decDigits 0 = [48] := by rw [Lib.decDigits, dif_pos (by omega)]; rfl
/-- Digits without a 0 ahead: the one spelling. -/
theorem dec_spelled {l : Str} {m : Nat} (h : Lib.decFrom 0 l = some m) (hl : l ≠ []) : Lib.decDigits m = l ↔ (l.head? ≠ some 48 ∨ l.length = 1) := by
  cases l with
  | nil => exact absurd rfl hl
  | cons b r =>
    rw [Lib.decFrom] at h
    cases hd : Lib.digitVal b with
    | none => rw [hd] at h; simp at h
    | some d =>
      rw [hd] at h
      simp only [Nat.zero_mul, Nat.zero_add] at h
      obtain ⟨h1, h2, h3⟩ := Lib.digitVal_eq hd
      by_cases hz : d = 0
      · subst hz
        have hb : b = 48 := by rw [← (val_dig hd).2.2]; rfl
        subst hb
        constructor
        · intro e
          right
          by_cases hm : m = 0
          · subst hm; rw [dec_zero] at e
            have := congrArg List.length e; simpa using this.symm
          · obtain ⟨b, r', h4, h5⟩ := dec_head (m := m) (by omega)
            rw [h4] at e; simp at e; exact absurd e.1 h5
        · rintro (e | e)
          · simp at e
          · have : r = [] := by cases r with
              | nil => rfl
              | cons _ _ => simp at e
            subst this
            simp only [Lib.decFrom, Option.some.injEq] at h
            subst h; exact dec_zero
      · have hg := dec_grow r d m (by omega) h
        have hd1 : Lib.decDigits d = [UInt8.ofNat (48 + d)] := by rw [Lib.decDigits, dif_pos (by omega)]
        rw [hd1, (val_dig hd).2.2] at hg
        constructor
        · intro _; left
          intro e; simp at e
          have e2 := (val_dig hd).2.1
          rw [e] at e2; simp at e2; omega
        · intro _; exact hg
theorem dec_digs (m : Nat) : (Lib.decDigits m).all isDig = true := by
  induction m using Nat.strongRecOn with
  | _ m ih =>
    rw [Lib.decDigits]
    have key : ∀ d, d < 10 → isDig (UInt8.ofNat (48 + d)) = true := by
      intro d hd
      unfold isDig; rw [UInt8.toNat_ofNat']; simp; omega
    split
    · rename_i h; rw [List.all_cons, key m h]; rfl
    · rw [List.all_append, ih (m / 10) (by omega), List.all_cons, key (m % 10) (by omega)]; rfl
theorem decFrom_append : ∀ (l r : Str) (acc : Nat), Lib.decFrom acc (l ++ r) = (Lib.decFrom acc l).bind fun a => Lib.decFrom a r
  | [], r, acc => rfl
  | b :: l, r, acc => by
    rw [List.cons_append, Lib.decFrom, Lib.decFrom]
    cases Lib.digitVal b with
    | none => rfl
    | some d => exact decFrom_append l r _
theorem decFrom_digs (m : Nat) : Lib.decFrom 0 (Lib.decDigits m) = some m := by
  induction m using Nat.strongRecOn with
  | _ m ih =>
    have key : ∀ d, d < 10 → Lib.digitVal (UInt8.ofNat (48 + d)) = some d := by
      intro d hd
      unfold Lib.digitVal; rw [UInt8.toNat_ofNat']
      rw [if_pos (by omega)]; congr 1; omega
    rw [Lib.decDigits]
    split
    · rename_i h; rw [Lib.decFrom, key m h]; simp [Lib.decFrom]
    · rw [decFrom_append, ih (m / 10) (by omega)]
      simp only [Option.bind_some]
      rw [Lib.decFrom, key (m % 10) (by omega)]
      simp only [Lib.decFrom]
      congr 1; omega
theorem dec_ne (m : Nat) : Lib.decDigits m ≠ [] := by
  rw [Lib.decDigits]; split
  · simp
  · simp
/-- What is written is read. -/
theorem atoi_itoa (n : Int) : Lib.atoi (Lib.itoa n) = some n := by
  unfold Lib.itoa
  have hN : ∀ m, Lib.decNat (Lib.decDigits m) = some m := by
    intro m; unfold Lib.decNat
    rw [if_neg (by simpa using dec_ne m), decFrom_digs]
  split
  · rw [Lib.atoi]; simp [hN]; omega
  · obtain ⟨b, r, e⟩ := List.exists_cons_of_ne_nil (dec_ne n.toNat)
    have hd := dec_digs n.toNat
    rw [e] at hd ⊢
    simp only [List.all_cons, Bool.and_eq_true] at hd
    have hb := hd.1
    unfold isDig at hb; simp at hb
    have n45 : b ≠ 45 := fun h => by subst h; simp at hb
    have n43 : b ≠ 43 := fun h => by subst h; simp at hb
    rw [Lib.atoi]
    simp only [beq_iff_eq, n45, n43, if_false]
    rw [← e, hN]; simp; omega

/-- The number that a string of at most so many digits spells, in its one spelling. -/
def numT (s : Str) (k : Int) : Option Int :=
  if (Lib.trimPrefix s [45] = [] ∨ k < (Lib.trimPrefix s [45]).length) ∨ (Lib.trimPrefix s [45]).all isDig = false then none
  else match Lib.atoi s with
    | some n => if Lib.itoa n = s then some n else none
    | none => none
theorem digits_fin : ∀ n : Fin 256, decide (UInt8.ofNat n.val ∈ ([48, 49, 50, 51, 52, 53, 54, 55, 56, 57] : List UInt8)) = (decide (48 ≤ n.val) && decide (n.val ≤ 57)) := by decide +kernel
theorem mem_dig (c : UInt8) : decide (c ∈ ([48, 49, 50, 51, 52, 53, 54, 55, 56, 57] : List UInt8)) = isDig c :=
  u8_fin (p := fun c => decide (c ∈ ([48, 49, 50, 51, 52, 53, 54, 55, 56, 57] : List UInt8))) (q := fun n => decide (48 ≤ n) && decide (n ≤ 57)) digits_fin c
theorem trimP_cases (s : Str) : (∃ d, s = 45 :: d ∧ Lib.trimPrefix s [45] = d) ∨ (Lib.trimPrefix s [45] = s ∧ s.head? ≠ some 45) := by
  cases s with
  | nil => right; exact ⟨rfl, by simp⟩
  | cons b r =>
    unfold Lib.trimPrefix
    by_cases h : b = 45
    · subst h; left; exact ⟨r, rfl, by simp [Lib.hasPrefix, List.isPrefixOf]⟩
    · right
      have hp : Lib.hasPrefix (b :: r) [45] = false := by simp [Lib.hasPrefix, List.isPrefixOf, Ne.symm h]
      rw [hp]; exact ⟨by simp, by simpa using h⟩
theorem trimP_length (s : Str) : (Lib.trimPrefix s [45]).length ≤ s.length ∧ s.length ≤ (Lib.trimPrefix s [45]).length + 1 := by
  rcases trimP_cases s with ⟨d, h1, h2⟩ | ⟨h1, _⟩
  · rw [h2, h1]; simp
  · rw [h1]; omega
theorem atoiAll_of {s : Str} {n : Int} (hl : s.length ≤ 18) (h : Lib.atoi s = some n) : Lib.atoiAll s = .ok n := by
  rw [Lib.atoiAll_short s hl, h]; rfl
/-- Digits behind an optional sign spell a number. -/
theorem atoi_digs {s : Str} (h1 : Lib.trimPrefix s [45] ≠ []) (h2 : (Lib.trimPrefix s [45]).all isDig = true) : ∃ n, Lib.atoi s = some n ∧ (Lib.itoa n = s ↔ ¬((Lib.trimPrefix s [45]).head? = some 48 ∧ (1 < (Lib.trimPrefix s [45]).length ∨ (Lib.trimPrefix s [45]).length < s.length))) := by
  rcases trimP_cases s with ⟨d, e1, e2⟩ | ⟨e1, e2⟩
  · rw [e2] at h1 h2 ⊢
    subst e1
    obtain ⟨m, hm⟩ := decFrom_all d 0 h2
    have hN : Lib.decNat d = some m := by unfold Lib.decNat; rw [if_neg (by simpa using h1), hm]
    refine ⟨-(m : Int), by rw [Lib.atoi]; simp [hN], ?_⟩
    have hs := dec_spelled hm h1
    have hlen : d.length < (45 :: d).length := by simp
    constructor
    · rintro e ⟨hh, _⟩
      unfold Lib.itoa at e
      split at e
      · have e' : Lib.decDigits m = d := by simpa using e
        rename_i hneg
        obtain ⟨b, r, h4, h5⟩ := dec_head (m := m) (by omega)
        rw [e'] at h4; rw [h4] at hh; simp at hh; exact h5 hh
      · have := dec_digs (-(m : Int)).toNat
        rw [e] at this; simp [isDig] at this
    · intro hn
      have hh : d.head? ≠ some 48 := fun hh => hn ⟨hh, .inr hlen⟩
      have e' := hs.2 (.inl hh)
      have hm0 : m ≠ 0 := by
        intro h0; subst h0; rw [dec_zero] at e'; subst e'; simp at hh
      unfold Lib.itoa
      rw [if_pos (by omega)]
      simp [e']
  · rw [e1] at h1 h2 ⊢
    obtain ⟨m, hm⟩ := decFrom_all s 0 h2
    have hN : Lib.decNat s = some m := by unfold Lib.decNat; rw [if_neg (by simpa using h1), hm]
    have hs := dec_spelled hm h1
    cases s with
    | nil => exact absurd rfl h1
    | cons b r =>
      have n45 : b ≠ 45 := by simpa using e2
      have hb : isDig b = true := by simp only [List.all_cons, Bool.and_eq_true] at h2; exact h2.1
      have n43 : b ≠ 43 := fun h => by subst h; simp [isDig] at hb
      refine ⟨m, by rw [Lib.atoi]; simp only [beq_iff_eq, n45, n43, if_false]; rw [hN]; rfl, ?_⟩
      have hi : Lib.itoa (m : Int) = Lib.decDigits m := by unfold Lib.itoa; rw [if_neg (by omega)]; simp
      rw [hi, hs]
      constructor
      · rintro (h | h) ⟨h3, h4⟩
        · exact h h3
        · omega
      · intro h
        by_cases hh : (b :: r).head? = some 48
        · right
          have : ¬ (1 < (b :: r).length) := fun h5 => h ⟨hh, .inl h5⟩
          simp at this ⊢; omega
        · exact .inl hh
theorem numT_bound {s : Str} {k : Nat} {n : Int} (h : numT s k = some n) : -(10 ^ k : Nat) < n ∧ n < (10 ^ k : Nat) := by
  unfold numT at h
  split at h
  · cases h
  · rename_i hc
    cases ha : Lib.atoi s with
    | none => rw [ha] at h; cases h
    | some n' =>
      rw [ha] at h
      simp only at h
      split at h
      · obtain rfl := Option.some.inj h
        simp only [not_or] at hc
        have hall : (Lib.trimPrefix s [45]).all isDig = true := by simpa using hc.2
        have hlen : (Lib.trimPrefix s [45]).length ≤ k := by have := hc.1.2; omega
        obtain ⟨m, hm⟩ := decFrom_all _ 0 hall
        have hb := Lib.decFrom_lt _ 0 m hm
        have hp : (10 : Nat) ^ (Lib.trimPrefix s [45]).length ≤ 10 ^ k := Nat.pow_le_pow_right (by omega) hlen
        have hmk : m < 10 ^ k := by omega
        have hnm : n' = m ∨ n' = -(m : Int) := by
          have hN : Lib.decNat (Lib.trimPrefix s [45]) = some m := by unfold Lib.decNat; rw [if_neg (by simpa using hc.1.1), hm]
          rcases trimP_cases s with ⟨d, e1, e2⟩ | ⟨e1, e2⟩
          · rw [e2] at hN; rw [e1, Lib.atoi] at ha; simp [hN] at ha; right; omega
          · rw [e1] at hN hall
            cases s with
            | nil => simp [Lib.atoi] at ha
            | cons b r =>
              have n45 : b ≠ 45 := by simpa using e2
              have hb : isDig b = true := by simp only [List.all_cons, Bool.and_eq_true] at hall; exact hall.1
              have n43 : b ≠ 43 := fun h => by subst h; simp [isDig] at hb
              rw [Lib.atoi] at ha
              simp only [beq_iff_eq, n45, n43, if_false] at ha
              rw [hN] at ha; simp at ha; left; omega
        omega
      · cases h
theorem numT_itoa {n : Int} {k : Int} (h : ((Lib.decDigits n.natAbs).length : Int) ≤ k) : numT (Lib.itoa n) k = some n := by
  have ht : Lib.trimPrefix (Lib.itoa n) [45] = Lib.decDigits n.natAbs := by
    unfold Lib.itoa
    split
    · unfold Lib.trimPrefix; simp [Lib.hasPrefix, List.isPrefixOf]
    · rename_i h0
      rw [show n.toNat = n.natAbs by omega]
      rcases trimP_cases (Lib.decDigits n.natAbs) with ⟨d, e1, e2⟩ | ⟨e1, e2⟩
      · have := dec_digs n.natAbs; rw [e1] at this; simp [isDig] at this
      · exact e1
  unfold numT
  rw [ht, if_neg (by
    rintro ((h1 | h1) | h1)
    · exact dec_ne _ h1
    · omega
    · rw [dec_digs] at h1; cases h1), atoi_itoa]
  simp
theorem Number_loop (s : Str) (hl : s.length ≤ 18) : base_Number_l1 s 0 = if (Lib.trimPrefix s [45]).all isDig = true then base_Number_k3 s else some (0, false) := by
  unfold base_Number_l1
  have hd : ((Lib.trimPrefix s [45]).length : Int) ≤ 4611686018427387904 := by have := trimP_length s; omega
  refine iter_to (fun x : Int => base_Number_b1 s x) (fun i => (Lib.trimPrefix s [45]).length + 1 - i.toNat) (fun i => 0 ≤ i ∧ i ≤ (Lib.trimPrefix s [45]).length ∧ ((Lib.trimPrefix s [45]).take i.toNat).all isDig = true) _ ?_ 0 ⟨by omega, by omega, by simp⟩
  rintro i ⟨h0, h1, h2⟩
  by_cases hi : i < (Lib.trimPrefix s [45]).length
  · obtain ⟨c, hc, _, hdr⟩ := idx_lt (Lib.trimPrefix s [45]) h0 hi
    have hg := (idx_some hc).2.2
    have hmem : c ∈ Lib.trimPrefix s [45] := idx_mem hc
    have hB : base_Number_b1 s i = if isDig c = true then some (.inl (w64 (i + 1))) else Option.map .inr (some ((0 : Int), false)) := by
      unfold base_Number_b1
      rw [if_pos hi, hc]
      simp only [Option.bind_some]
      unfold base_Number_j2 isDig
      by_cases a1 : (c.toNat : Int) < 48
      · rw [if_pos a1, if_pos rfl, if_neg (by simp; omega)]
      · rw [if_neg a1]
        by_cases a2 : (57 : Int) < c.toNat
        · rw [if_pos (by simpa using a2), if_neg (by simp; omega)]
        · rw [if_neg (by simpa using a2), if_pos (by simp; omega)]
    by_cases hdg : isDig c = true
    · left
      refine ⟨i + 1, ?_, ⟨by omega, by omega, ?_⟩, by omega⟩
      · show base_Number_b1 s i = _
        rw [hB, if_pos hdg, w64_in (by omega) (by omega)]
      · rw [show (i + 1).toNat = i.toNat + 1 by omega, List.take_add_one, List.all_append, h2, hg]; simp [hdg]
    · right
      show base_Number_b1 s i = _
      rw [hB, if_neg hdg, if_neg (fun h => hdg (List.all_eq_true.1 h c hmem))]
  · right
    show base_Number_b1 s i = _
    unfold base_Number_b1
    rw [if_neg hi]
    rw [List.take_of_length_le (by omega)] at h2
    rw [if_pos h2]
theorem atoiO_eq {s : Str} {n : Int} (hl : s.length ≤ 18) (h : Lib.atoi s = some n) : atoiO s = some (n, true) := by
  unfold atoiO; rw [if_pos (by omega), atoiAll_of hl h]
theorem itoa_in {n : Int} (h1 : -9223372036854775808 ≤ n) (h2 : n ≤ 9223372036854775807) : itoaO n = some (Lib.itoa n) := by unfold itoaO; rw [if_pos ⟨h1, h2⟩]
/-- The program's reader of numbers. -/
theorem Number_eq (s : Str) (k : Nat) (hk : k ≤ 17) : base_Number s k = some (match numT s k with | some n => (n, true) | none => (0, false)) := by
  have hln := trimP_length s
  unfold base_Number base_Number_j1
  by_cases h1 : Lib.trimPrefix s [45] = []
  · rw [if_pos h1, if_pos rfl]; unfold numT; rw [if_pos (.inl (.inl h1))]
  · rw [if_neg h1]
    by_cases h2 : (k : Int) < (Lib.trimPrefix s [45]).length
    · rw [if_pos h2, if_pos rfl]; unfold numT; rw [if_pos (.inl (.inr h2))]
    · rw [if_neg h2]
      have hpos : 0 < (Lib.trimPrefix s [45]).length := List.length_pos_iff.2 h1
      obtain ⟨c, hc, _, _⟩ := idx_lt (Lib.trimPrefix s [45]) (i := 0) (by omega) (by omega)
      have hh : (Lib.trimPrefix s [45]).head? = some c := by
        have := (idx_some hc).2.2
        rw [List.head?_eq_getElem?]; simpa using this
      rw [hc]
      simp only [Option.bind_some]
      rw [Number_loop s (by omega)]
      by_cases hall : (Lib.trimPrefix s [45]).all isDig = true
      · obtain ⟨n, hn, hiff⟩ := atoi_digs h1 hall
        have hnT : numT s k = if Lib.itoa n = s then some n else none := by
          unfold numT; rw [if_neg (by rintro ((h | h) | h)
                                      · exact h1 h
                                      · exact h2 h
                                      · rw [hall] at h; cases h), hn]
        have hcond : (decide ((c.toNat : Int) = 48) && (decide ((1 : Int) < (Lib.trimPrefix s [45]).length) || decide (((Lib.trimPrefix s [45]).length : Int) < s.length))) = true ↔ ¬ Lib.itoa n = s := by
          rw [hiff, hh]
          simp only [Bool.and_eq_true, decide_eq_true_eq, Bool.or_eq_true, Option.some.injEq, Classical.not_not]
          constructor
          · rintro ⟨a, b⟩; exact ⟨UInt8.toNat_inj.1 (by simpa using (by omega : c.toNat = 48)), by omega⟩
          · rintro ⟨a, b⟩; exact ⟨by rw [a]; rfl, by omega⟩
        by_cases hi : Lib.itoa n = s
        · rw [if_neg (fun h => hcond.1 h hi), if_pos hall, hnT, if_pos hi]
          unfold base_Number_k3
          rw [atoiO_eq (by omega) hn]; rfl
        · rw [if_pos (hcond.2 hi), hnT, if_neg hi]
      · have hnT : numT s k = none := by unfold numT; rw [if_pos (.inr (by simpa using hall))]
        rw [hnT, if_neg hall]; simp
/-- The reference's reader of numbers. -/
theorem QNumber_eq (s : Str) (k : Nat) (hk : k ≤ 17) : ∃ m, Q_Number s k = some (m, (numT s k).isSome) ∧ ∀ n, numT s k = some n → m = n := by
  have hln := trimP_length s
  unfold Q_Number Q_Number_j1 Q_Number_j2
  by_cases h1 : Lib.trimPrefix s [45] = []
  · have hn : numT s k = none := by unfold numT; rw [if_pos (.inl (.inl h1))]
    rw [if_pos h1, if_pos rfl, hn]; exact ⟨0, rfl, fun n h => by cases h⟩
  · rw [if_neg h1]
    by_cases h2 : (k : Int) < (Lib.trimPrefix s [45]).length
    · have hn : numT s k = none := by unfold numT; rw [if_pos (.inl (.inr h2))]
      rw [if_pos h2, if_pos rfl, hn]; exact ⟨0, rfl, fun n h => by cases h⟩
    · rw [if_neg h2, only_eq _ _ (by omega)]
      simp only [Option.bind_some]
      rw [show (fun c => decide (c ∈ ([48, 49, 50, 51, 52, 53, 54, 55, 56, 57] : List UInt8))) = isDig from funext mem_dig]
      by_cases hall : (Lib.trimPrefix s [45]).all isDig = true
      · obtain ⟨n, hn, hiff⟩ := atoi_digs h1 hall
        have hb := Lib.atoi_bound hn (by omega)
        have hnT : numT s k = if Lib.itoa n = s then some n else none := by
          unfold numT; rw [if_neg (by rintro ((h | h) | h)
                                      · exact h1 h
                                      · exact h2 h
                                      · rw [hall] at h; cases h), hn]
        rw [hall, if_neg (by simp), atoiO_eq (by omega) hn]
        simp only [Option.bind_some, if_true]
        rw [itoa_in (by omega) (by omega)]
        simp only [Option.bind_some]
        refine ⟨n, ?_, ?_⟩
        · rw [hnT]; by_cases hi : Lib.itoa n = s <;> simp [hi]
        · intro n' h'; rw [hnT] at h'; split at h'
          · exact Option.some.inj h'
          · cases h'
      · have hnT : numT s k = none := by unfold numT; rw [if_pos (.inr (by simpa using hall))]
        have hf : (Lib.trimPrefix s [45]).all isDig = false := by simpa using hall
        rw [hf, hnT]; exact ⟨0, rfl, fun n h => by cases h⟩
end Go.Beacon
