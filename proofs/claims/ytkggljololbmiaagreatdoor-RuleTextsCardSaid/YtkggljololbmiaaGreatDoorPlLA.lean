/- Plain facts on what the functions compute. No program in sight. -/
import Derived.Test.YtkggljololbmiaaGreatDoorRteP
import Derived.Test.YtkggljololbmiaaGreatDoorPlBA
import Derived.Lib.ItoaLen
import Derived.Lib.AtoiTie
import Derived.Lib.AtoiBound
/- Plain facts of the streams that make inputs: each ends, and what it hands out is within bounds. No program in sight. -/
set_option linter.unusedVariables false
set_option linter.unusedSimpArgs false
namespace Go.Beacon
open Go Go.Eng

abbrev Stm := Fleetmake_Stream
/-- At least k more numbers can be drawn. -/
def SOk (s : Stm) (k : Int) : Prop := 0 ≤ s.at_ ∧ s.at_ + k ≤ 4611686018427387904
theorem SOk.less {s : Stm} {k k' : Int} (h : SOk s k) (hk : k' ≤ k) : SOk s k' := ⟨h.1, by have := h.2; omega⟩
def Gen {α : Type} (m : Option (α × Stm)) (k : Int) (P : α → Prop) : Prop := ∃ v s', m = some (v, s') ∧ P v ∧ SOk s' k
theorem Gen.bind {α β : Type} {m : Option (α × Stm)} {k k' : Int} {P : α → Prop} {Q : β → Prop} {f : α × Stm → Option (β × Stm)} (h : Gen m k P) (hf : ∀ v s', P v → SOk s' k → Gen (f (v, s')) k' Q) : Gen (m.bind f) k' Q := by
  obtain ⟨v, s', rfl, h1, h2⟩ := h
  exact hf v s' h1 h2
theorem Gen.ret {α : Type} {v : α} {s : Stm} {k : Int} {P : α → Prop} (h1 : P v) (h2 : SOk s k) : Gen (some (v, s)) k P := ⟨v, s, rfl, h1, h2⟩
theorem Gen.mono {α : Type} {m : Option (α × Stm)} {k k' : Int} {P Q : α → Prop} (h : Gen m k P) (hk : k' ≤ k) (hp : ∀ v, P v → Q v) : Gen m k' Q := by
  obtain ⟨v, s', e, h1, h2⟩ := h
  exact ⟨v, s', e, hp v h1, h2.less hk⟩

theorem Below_ok (x : Int) {n : Int} (h1 : 1 ≤ n) (h2 : n ≤ 4611686018427387904) : ∃ v, Below x n = some v ∧ 0 ≤ v ∧ v < n := by
  unfold Below Below_j1
  rw [if_neg (by omega), rem_ne (by omega)]
  have a1 := Int.lt_tmod_of_pos x (show 0 < n by omega)
  have a2 := Int.tmod_lt_of_pos x (show 0 < n by omega)
  simp only [Option.bind_some]
  split
  · exact ⟨_, rfl, by rw [w64_in] <;> omega, by rw [w64_in] <;> omega⟩
  · exact ⟨_, rfl, by omega, by omega⟩

theorem Next_ok {s : Stm} {n k : Int} (hs : SOk s (k + 1)) (h1 : 1 ≤ n) (h2 : n ≤ 4611686018427387904) (hk : 0 ≤ k) : Gen (Stream_Next s n) k (fun v => 0 ≤ v ∧ v < n) := by
  obtain ⟨a1, a2⟩ := hs
  have e1 : w64 (s.at_ + 1) = s.at_ + 1 := by rw [w64_in] <;> omega
  have e2 : w64 (s.at_ + 1 - 1) = s.at_ := by rw [w64_in] <;> omega
  unfold Stream_Next
  split
  · obtain ⟨v, hv, h3, h4⟩ := Below_ok (w64 (w64 (s.at_ + 1) * 7919)) h1 h2
    rw [hv]
    exact Gen.ret ⟨h3, h4⟩ ⟨by show 0 ≤ w64 (s.at_ + 1); omega, by show w64 (s.at_ + 1) + k ≤ _; omega⟩
  · rename_i hl
    have hl' : (0 : Int) < s.L.length := by omega
    rw [e1, e2, rem_pos hl' a1, quo_ne (by omega)]
    simp only [Option.bind_some]
    obtain ⟨x, hx, _, _⟩ := idx_lt s.L (i := s.at_ % s.L.length) (Int.emod_nonneg _ (by omega)) (Int.emod_lt_of_pos _ hl')
    rw [hx]
    simp only [Option.bind_some]
    obtain ⟨u, hu, _, _⟩ := Below_ok x (n := 1073741824) (by omega) (by omega)
    rw [hu]
    simp only [Option.bind_some]
    obtain ⟨v, hv, h3, h4⟩ := Below_ok (w64 (u + w64 (w64 (s.at_.tdiv s.L.length) * w64 (7919 + s.at_ % s.L.length)))) h1 h2
    rw [hv]
    exact Gen.ret ⟨h3, h4⟩ ⟨by simp only; omega, by simp only; omega⟩

theorem Pick_ok {s : Stm} {l : List Int} {k : Int} (hs : SOk s (k + 1)) (h1 : l ≠ []) (h2 : l.length ≤ 1000) (hk : 0 ≤ k) : Gen (Stream_Pick s l) k (fun v => v ∈ l) := by
  unfold Stream_Pick
  have hl : 0 < l.length := List.length_pos_iff.2 h1
  refine Gen.bind (Next_ok hs (by omega) (by omega) hk) (fun v s' hv hs' => ?_)
  obtain ⟨x, hx, hm, _⟩ := idx_lt l hv.1 hv.2
  simp only [hx, Option.bind_some]
  exact Gen.ret hm hs'
theorem Range_ok {s : Stm} {a b k : Int} (hs : SOk s (k + 1)) (hab : a ≤ b) (ha : -1152921504606846976 ≤ a) (hb : b ≤ 1152921504606846976) (hk : 0 ≤ k) : Gen (Stream_Range s a b) k (fun v => a ≤ v ∧ v ≤ b) := by
  unfold Stream_Range
  have e1 : w64 (b - a) = b - a := by rw [w64_in] <;> omega
  have e2 : w64 (b - a + 1) = b - a + 1 := by rw [w64_in] <;> omega
  rw [if_neg (by omega), e1, e2]
  refine Gen.bind (Next_ok hs (by omega) (by omega) hk) (fun v s' hv hs' => ?_)
  refine Gen.ret ?_ hs'
  simp only
  rw [w64_in] <;> omega
theorem Flip_ok {s : Stm} {n k : Int} (hs : SOk s (k + 1)) (h1 : 1 ≤ n) (h2 : n ≤ 4611686018427387904) (hk : 0 ≤ k) : Gen (Stream_Flip s n) k (fun _ => True) := by
  unfold Stream_Flip
  exact Gen.bind (Next_ok hs h1 h2 hk) (fun v s' hv hs' => Gen.ret trivial hs')
theorem Some_ok {s : Stm} {l : List Str} {k : Int} (hs : SOk s (k + 1)) (h1 : l ≠ []) (h2 : l.length ≤ 1000) (hk : 0 ≤ k) : Gen (Stream_Some s l) k (fun v => v ∈ l) := by
  unfold Stream_Some
  have hl : 0 < l.length := List.length_pos_iff.2 h1
  refine Gen.bind (Next_ok hs (by omega) (by omega) hk) (fun v s' hv hs' => ?_)
  obtain ⟨x, hx, hm, _⟩ := idx_lt l hv.1 hv.2
  simp only [hx, Option.bind_some]
  exact Gen.ret hm hs'
theorem Odd_ok {s : Stm} {a b k : Int} (hs : SOk s (k + 2)) (hab : a ≤ b) (ha : -1099511627776 ≤ a) (hb : b ≤ 1099511627776) (hk : 0 ≤ k) : Gen (Stream_Odd s a b) k (fun v => -1099511627777 ≤ v ∧ v ≤ 1099511627777) := by
  unfold Stream_Odd
  refine Gen.bind (Flip_ok (k := k + 1) (hs.less (by omega)) (by omega) (by omega) (by omega)) (fun v s' hv hs' => ?_)
  simp only
  split
  · refine Gen.bind (Pick_ok hs' (by simp) (by simp) hk) (fun v s' hv hs' => Gen.ret ?_ hs')
    have e1 : w64 (a - 1) = a - 1 := by rw [w64_in] <;> omega
    have e2 : w64 (b + 1) = b + 1 := by rw [w64_in] <;> omega
    rw [e1, e2] at hv
    simp only [List.mem_cons, List.not_mem_nil, or_false] at hv
    simp only; omega
  · refine Gen.bind (Range_ok hs' hab (by omega) (by omega) hk) (fun v s' hv hs' => Gen.ret ?_ hs')
    simp only; omega
end Go.Beacon

/- Plain facts of keys: the program's check and the reference's. No program in sight. -/
set_option linter.unusedVariables false
set_option linter.unusedSimpArgs false
namespace Go.Beacon
open Go Go.Eng

theorem Out_eq (n lo hi : Int) : base_Out n lo hi = (decide (n < lo) || decide (hi < n)) := rfl
theorem Qin_eq (n lo hi : Int) : Q_in n lo hi = (decide (lo ≤ n) && decide (n ≤ hi)) := rfl
/-! keys -/
def okN (n : Nat) : Bool := (decide (97 ≤ n) && decide (n ≤ 122)) || (decide (48 ≤ n) && decide (n ≤ 57)) || decide (n = 45) || decide (n = 95)
def keyB : Str → Bool
  | [] => false
  | c :: r => decide ((c :: r).length ≤ 40) && (decide (97 ≤ c.toNat) && decide (c.toNat ≤ 122)) && (c :: r).all (fun c => okN c.toNat)
theorem keyB_cons (c : UInt8) (r : Str) : keyB (c :: r) = (decide ((c :: r).length ≤ 40) && (decide (97 ≤ c.toNat) && decide (c.toNat ≤ 122)) && (c :: r).all (fun c => okN c.toNat)) := rfl
theorem Key_loop (s : Str) (hl : s.length ≤ 40) : base_Key_l1 s 0 = some (s.all (fun c => okN c.toNat)) := by
  unfold base_Key_l1
  rw [iter_find s (fun x : Int => base_Key_b1 s x) (fun c => if okN c.toNat = true then none else some false) true (by omega), findE_bool]
  · intro i c h0 h1 hc
    have hB : (if (97 : Int) ≤ (c.toNat : Int) then if (c.toNat : Int) ≤ (122 : Int) then !true else if (48 : Int) ≤ (c.toNat : Int) then if (c.toNat : Int) ≤ (57 : Int) then !true else if (c.toNat : Int) = (45 : Int) then !true else decide (¬ ((c.toNat : Int) = (95 : Int))) else if (c.toNat : Int) = (45 : Int) then !true else decide (¬ ((c.toNat : Int) = (95 : Int))) else if (48 : Int) ≤ (c.toNat : Int) then if (c.toNat : Int) ≤ (57 : Int) then !true else if (c.toNat : Int) = (45 : Int) then !true else decide (¬ ((c.toNat : Int) = (95 : Int))) else if (c.toNat : Int) = (45 : Int) then !true else decide (¬ ((c.toNat : Int) = (95 : Int)))) = !okN c.toNat := by
      unfold okN
      rw [Bool.eq_iff_iff]
      repeat' split
      all_goals simp
      all_goals omega
    rw [base_Key_b1, if_pos h1, hc]
    simp only [Option.bind_some]
    rw [hB]
    unfold base_Key_j2
    rw [w64_in (by omega) (by omega)]
    cases okN c.toNat <;> rfl
  · rw [base_Key_b1, if_neg (by omega)]; rfl
theorem Key_eq (s : Str) : base_Key s = some (keyB s) := by
  unfold base_Key base_Key_j1
  cases s with
  | nil => simp [keyB]
  | cons c r =>
    rw [if_neg (by simp)]
    have hc : idx (c :: r) 0 = some c := rfl
    rw [hc]
    simp only [Option.bind_some]
    by_cases hl : (c :: r).length ≤ 40
    · rw [if_neg (by omega), Key_loop _ hl, keyB_cons]
      by_cases h1 : (c.toNat : Int) < 97
      · rw [if_pos h1]
        have : decide (97 ≤ c.toNat) = false := by simp; omega
        rw [this]; simp
      · rw [if_neg h1]
        have e1 : decide (97 ≤ c.toNat) = true := by simp; omega
        by_cases h2 : (122 : Int) < c.toNat
        · rw [if_pos (by simpa using h2)]
          have : decide (c.toNat ≤ 122) = false := by simp; omega
          rw [this]; simp
        · rw [if_neg (by simpa using h2)]
          have : decide (c.toNat ≤ 122) = true := by simp; omega
          rw [e1, this, decide_eq_true hl]; simp
    · rw [if_pos (by omega), keyB_cons, decide_eq_false hl]; simp
theorem chars_fin : ∀ n : Fin 256, decide (UInt8.ofNat n.val ∈ ([97, 98, 99, 100, 101, 102, 103, 104, 105, 106, 107, 108, 109, 110, 111, 112, 113, 114, 115, 116, 117, 118, 119, 120, 121, 122, 48, 49, 50, 51, 52, 53, 54, 55, 56, 57, 45, 95] : List UInt8)) = okN n.val := by decide +kernel
theorem low_fin : ∀ n : Fin 256, decide (UInt8.ofNat n.val ∈ ([97, 98, 99, 100, 101, 102, 103, 104, 105, 106, 107, 108, 109, 110, 111, 112, 113, 114, 115, 116, 117, 118, 119, 120, 121, 122] : List UInt8)) = (decide (97 ≤ n.val) && decide (n.val ≤ 122)) := by decide +kernel
theorem u8_fin {p : UInt8 → Bool} {q : Nat → Bool} (h : ∀ n : Fin 256, p (UInt8.ofNat n.val) = q n.val) (c : UInt8) : p c = q c.toNat := by
  have := h ⟨c.toNat, c.toNat_lt⟩
  simpa using this
theorem CompareI_eq (a b : Int) : cmp_Compare_int a b = cmpI a b := by
  unfold cmp_Compare_int cmp_isNaN_int cmpI; simp
theorem Moment_eq (n : Int) : base_Moment n = (decide (0 ≤ n) && decide (n ≤ 345686399999)) := by
  unfold base_Moment
  rw [Out_eq, Bool.eq_iff_iff]
  simp
end Go.Beacon

/- Plain facts: loops by a measure, products within bounds, quotients rounded down. No program in sight. -/
set_option linter.unusedVariables false
set_option linter.unusedSimpArgs false
namespace Go.Beacon
open Go Go.Eng

/-- A loop whose rounds keep something and make a number smaller ends; what its last round tells holds. -/
theorem iter_inv {S A : Type} (f : S → Option (S ⊕ A)) (m : S → Nat) (Inv : S → Prop) (R : A → Prop)
    (h : ∀ s, Inv s → (∃ s', f s = some (.inl s') ∧ Inv s' ∧ m s' < m s) ∨ (∃ a, f s = some (.inr a) ∧ R a)) : ∀ s, Inv s → ∃ a, iter f s = some a ∧ R a := by
  have key : ∀ (n : Nat) s, m s ≤ n → Inv s → ∃ a, iter f s = some a ∧ R a := by
    intro n
    induction n with
    | zero =>
      intro s hm hi
      rcases h s hi with ⟨s', _, _, h3⟩ | ⟨a, h1, h2⟩
      · omega
      · exact ⟨a, by rw [iter_eq, h1]; rfl, h2⟩
    | succ n ih =>
      intro s hm hi
      rcases h s hi with ⟨s', h1, h2, h3⟩ | ⟨a, h1, h2⟩
      · obtain ⟨a, h4, h5⟩ := ih s' (by omega) h2
        exact ⟨a, by rw [iter_eq, h1]; simpa using h4, h5⟩
      · exact ⟨a, by rw [iter_eq, h1]; rfl, h2⟩
  exact fun s hi => key (m s) s (Nat.le_refl _) hi
/-- The same, for a result that may be missing. -/
theorem iter_to {S A : Type} (f : S → Option (S ⊕ A)) (m : S → Nat) (Inv : S → Prop) (r : Option A)
    (h : ∀ s, Inv s → (∃ s', f s = some (.inl s') ∧ Inv s' ∧ m s' < m s) ∨ f s = r.map .inr) : ∀ s, Inv s → iter f s = r := by
  have key : ∀ (n : Nat) s, m s ≤ n → Inv s → iter f s = r := by
    intro n
    induction n with
    | zero =>
      intro s hm hi
      rcases h s hi with ⟨s', _, _, h3⟩ | h1
      · omega
      · rw [iter_eq, h1, map_inr_after]
    | succ n ih =>
      intro s hm hi
      rcases h s hi with ⟨s', h1, h2, h3⟩ | h1
      · rw [iter_eq, h1]; simpa using ih s' (by omega) h2
      · rw [iter_eq, h1, map_inr_after]
  exact fun s hi => key (m s) s (Nat.le_refl _) hi
end Go.Beacon

/- Strings cut at one byte. No program in sight. -/
set_option linter.unusedVariables false
set_option linter.unusedSimpArgs false
namespace Go.Beacon
open Go Go.Eng

/-- A string cut at each byte c. -/
def splitC (c : UInt8) : Str → List Str
  | [] => [[]]
  | b :: r => if b = c then [] :: splitC c r else match splitC c r with
    | [] => [[b]]
    | h :: t => (b :: h) :: t
theorem splitC_ne (c : UInt8) : ∀ s, splitC c s ≠ []
  | [] => by simp [splitC]
  | b :: r => by
    unfold splitC
    split
    · simp
    · split <;> simp
theorem splitC_length (c : UInt8) : ∀ s, (splitC c s).length ≤ s.length + 1
  | [] => by simp [splitC]
  | b :: r => by
    have ih := splitC_length c r
    unfold splitC
    split
    · simp; omega
    · split
      · simp
      · rename_i h t e; rw [e] at ih; simp at ih ⊢; omega
theorem splitC_part (c : UInt8) : ∀ s, ∀ x ∈ splitC c s, x.length ≤ s.length ∧ c ∉ x
  | [] => by simp [splitC]
  | b :: r => by
    have ih := splitC_part c r
    intro x hx
    unfold splitC at hx
    split at hx
    · rcases List.mem_cons.1 hx with rfl | hx
      · simp
      · have := ih x hx; simp; exact ⟨by omega, this.2⟩
    · rename_i hb
      split at hx
      · rename_i e; exact absurd e (splitC_ne c r)
      · rename_i h t e
        rw [e] at ih
        rcases List.mem_cons.1 hx with rfl | hx
        · have := ih h (by simp); simp; exact ⟨this.1, fun e => hb e.symm, this.2⟩
        · have := ih x (by simp [hx]); simp; exact ⟨by omega, this.2⟩
theorem split_C (c : UInt8) : ∀ s, Lib.split s [c] = splitC c s
  | [] => rfl
  | b :: r => by
    have ih := split_C c r
    unfold Lib.split at ih ⊢
    unfold splitC
    by_cases hb : b = c
    · subst hb
      have hix : Lib.index (b :: r) [b] = 0 := by rw [Lib.index]; simp [List.isPrefixOf]
      rw [if_pos rfl, Lib.count_cons_eq, Nat.add_comm, Lib.splitK, hix, ← ih]
      simp
    · rw [if_neg hb, Lib.count_cons_ne b c r hb, ← ih]
      have hp : ([c] : List UInt8).isPrefixOf (b :: r) = false := by simp [List.isPrefixOf, Ne.symm hb]
      have hix : Lib.index (b :: r) [c] = if Lib.index r [c] == -1 then -1 else Lib.index r [c] + 1 := by rw [Lib.index, hp]; simp
      by_cases hm : Lib.index r [c] = -1
      · rw [Lib.count_miss hm]; rfl
      · have hge := Lib.index_ge r [c]
        obtain ⟨j, hj⟩ : ∃ j : Nat, Lib.index r [c] = j := ⟨(Lib.index r [c]).toNat, by omega⟩
        have hix' : Lib.index (b :: r) [c] = ((j + 1 : Nat) : Int) := by rw [hix, if_neg (fun e => hm (beq_iff_eq.1 e)), hj]; omega
        rw [Lib.count_hit (by simp) hj, Nat.add_comm]
        have n1 : ¬ ((((j + 1 : Nat) : Int) == -1) = true) := fun h => by have := beq_iff_eq.1 h; omega
        have n2 : ¬ ((((j : Nat) : Int) == -1) = true) := fun h => by have := beq_iff_eq.1 h; omega
        simp only [Lib.splitK, hix', hj, if_neg n1, if_neg n2]
        simp [List.take_succ_cons]
/-- strings.Split at one byte. -/
theorem splitO_eq {s : Str} {c : UInt8} (h : s.length ≤ 1000000000) : splitO s [c] = some (splitC c s) := by
  unfold splitO
  rw [if_pos ⟨by omega, by simp⟩]
  congr 1
  have h1 := Lib.splitB_data ⟨#[c]⟩ 0 (Lib.countB ⟨s.toArray⟩ ⟨#[c]⟩) ⟨s.toArray⟩
  rw [← split_C]
  exact h1
theorem splitC_none (c : UInt8) : ∀ s, c ∉ s → splitC c s = [s]
  | [], _ => rfl
  | b :: r, h => by
    simp only [List.mem_cons, not_or] at h
    unfold splitC
    rw [if_neg (fun e => h.1 e.symm), splitC_none c r h.2]
theorem splitC_cons (c : UInt8) : ∀ (x r : Str), c ∉ x → splitC c (x ++ c :: r) = x :: splitC c r
  | [], r, _ => by simp [splitC]
  | b :: x, r, h => by
    simp only [List.mem_cons, not_or] at h
    rw [List.cons_append, splitC, if_neg (fun e => h.1 e.symm), splitC_cons c x r h.2]
end Go.Beacon

/- Names: keys with points between. No program in sight. -/
set_option linter.unusedVariables false
set_option linter.unusedSimpArgs false
namespace Go.Beacon
open Go Go.Eng

/-- A string cut at the first byte c. -/
def cut1 (c : UInt8) : Str → Str × Str × Bool
  | [] => ([], [], false)
  | b :: r => if b = c then ([], r, true) else (b :: (cut1 c r).1, (cut1 c r).2.1, (cut1 c r).2.2)
theorem cut_C (c : UInt8) : ∀ s, Lib.cut s [c] = cut1 c s
  | [] => rfl
  | b :: r => by
    have ih := cut_C c r
    unfold Lib.cut at ih ⊢
    unfold cut1
    by_cases hb : b = c
    · subst hb
      have hix : Lib.index (b :: r) [b] = 0 := by rw [Lib.index]; simp [List.isPrefixOf]
      rw [if_pos rfl, hix]; simp
    · rw [if_neg hb, ← ih]
      have hp : ([c] : List UInt8).isPrefixOf (b :: r) = false := by simp [List.isPrefixOf, Ne.symm hb]
      have hix : Lib.index (b :: r) [c] = if Lib.index r [c] == -1 then -1 else Lib.index r [c] + 1 := by rw [Lib.index, hp]; simp
      by_cases hm : Lib.index r [c] = -1
      · rw [hix, hm]; simp
      · have hge := Lib.index_ge r [c]
        have hn : ¬ ((Lib.index r [c] == -1) = true) := fun e => hm (beq_iff_eq.1 e)
        obtain ⟨j, hj⟩ : ∃ j : Nat, Lib.index r [c] = j := ⟨(Lib.index r [c]).toNat, by omega⟩
        have hix' : Lib.index (b :: r) [c] = ((j + 1 : Nat) : Int) := by rw [hix, if_neg hn, hj]; omega
        rw [hix', hj, if_pos (by omega), if_pos (by omega)]
        simp
theorem cutO_eq {s : Str} {c : UInt8} (h : s.length ≤ 1000000000) : cutO s [c] = some (cut1 c s) := by
  unfold cutO
  rw [if_pos (by omega), cut_C]
theorem cut1_len (c : UInt8) : ∀ s, (cut1 c s).1.length ≤ s.length ∧ (cut1 c s).2.1.length ≤ s.length
  | [] => ⟨Nat.le_refl _, Nat.le_refl _⟩
  | b :: r => by
    have ih := cut1_len c r
    unfold cut1
    split
    · simp
    · simp; omega
end Go.Beacon

/- Streams, in the form that is stepped by one text: what can still be drawn is counted down. No program in sight. -/
set_option linter.unusedVariables false
set_option linter.unusedSimpArgs false
namespace Go.Beacon
open Go Go.Eng

theorem Next_k {s : Stm} {n K : Int} (hs : SOk s K) (hK : 1 ≤ K) (h1 : 1 ≤ n) (h2 : n ≤ 4611686018427387904) : Gen (Stream_Next s n) (K - 1) (fun v => 0 ≤ v ∧ v < n) :=
  Next_ok (hs.less (by omega)) h1 h2 (by omega)
theorem Flip_k {s : Stm} {n K : Int} (hs : SOk s K) (hK : 1 ≤ K) (h1 : 1 ≤ n) (h2 : n ≤ 4611686018427387904) : Gen (Stream_Flip s n) (K - 1) (fun _ => True) :=
  Flip_ok (hs.less (by omega)) h1 h2 (by omega)
theorem Pick_k {s : Stm} {l : List Int} {K : Int} (hs : SOk s K) (hK : 1 ≤ K) (h1 : l ≠ []) (h2 : l.length ≤ 1000) : Gen (Stream_Pick s l) (K - 1) (fun v => v ∈ l) :=
  Pick_ok (hs.less (by omega)) h1 h2 (by omega)
theorem Range_k {s : Stm} {a b K : Int} (hs : SOk s K) (hK : 1 ≤ K) (hab : a ≤ b) (ha : -1152921504606846976 ≤ a) (hb : b ≤ 1152921504606846976) : Gen (Stream_Range s a b) (K - 1) (fun v => a ≤ v ∧ v ≤ b) :=
  Range_ok (hs.less (by omega)) hab ha hb (by omega)
theorem Some_k {s : Stm} {l : List Str} {K : Int} (hs : SOk s K) (hK : 1 ≤ K) (h1 : l ≠ []) (h2 : l.length ≤ 1000) : Gen (Stream_Some s l) (K - 1) (fun v => v ∈ l) :=
  Some_ok (hs.less (by omega)) h1 h2 (by omega)
theorem Odd_k {s : Stm} {a b K : Int} (hs : SOk s K) (hK : 2 ≤ K) (hab : a ≤ b) (ha : -1099511627776 ≤ a) (hb : b ≤ 1099511627776) : Gen (Stream_Odd s a b) (K - 2) (fun v => -1099511627777 ≤ v ∧ v ≤ 1099511627777) :=
  Odd_ok (hs.less (by omega)) hab ha hb (by omega)
end Go.Beacon

/- Plain functions that end, and what their results are like: one lemma for each step. No program in sight. -/
set_option linter.unusedVariables false
set_option linter.unusedSimpArgs false
namespace Go.Beacon
open Go Go.Eng

/-- It ends, and its result is so. -/
def Ok {α : Type} (m : Option α) (Q : α → Prop) : Prop := ∃ r, m = some r ∧ Q r
theorem Ok.ret {α : Type} {v : α} {Q : α → Prop} (h : Q v) : Ok (some v) Q := ⟨v, rfl, h⟩
theorem Ok.mono {α : Type} {m : Option α} {P Q : α → Prop} (h : Ok m P) (hp : ∀ v, P v → Q v) : Ok m Q := by
  obtain ⟨r, h1, h2⟩ := h; exact ⟨r, h1, hp r h2⟩
theorem Ok.bind {α β : Type} {m : Option α} {f : α → Option β} {P : α → Prop} {Q : β → Prop} (h : Ok m P) (hf : ∀ v, P v → Ok (f v) Q) : Ok (m.bind f) Q := by
  obtain ⟨r, rfl, h2⟩ := h; exact hf r h2
theorem Ok.is {α β : Type} {m : Option α} {v : α} {f : α → Option β} {Q : β → Prop} (h : m = some v) (hf : Ok (f v) Q) : Ok (m.bind f) Q := by rw [h]; exact hf
theorem Ok.inr {α β : Type} {m : Option β} {Q : α ⊕ β → Prop} (h : Ok m (fun r => Q (.inr r))) : Ok (Option.map .inr m) Q := by
  obtain ⟨r, rfl, h2⟩ := h; exact ⟨_, rfl, h2⟩
theorem Ok.gen {α β : Type} {m : Option (α × Stm)} {k : Int} {P : α → Prop} {f : α × Stm → Option β} {Q : β → Prop} (h : Gen m k P) (hf : ∀ v s', P v → SOk s' k → Ok (f (v, s')) Q) : Ok (m.bind f) Q := by
  obtain ⟨v, s', rfl, h1, h2⟩ := h; exact hf v s' h1 h2
theorem Gen.of {α : Type} {m : Option (α × Stm)} {k : Int} {P : α → Prop} (h : Ok m (fun r => P r.1 ∧ SOk r.2 k)) : Gen m k P := by
  obtain ⟨⟨v, s⟩, h1, h2, h3⟩ := h; exact ⟨v, s, h1, h2, h3⟩
theorem Ok.of {α : Type} {m : Option (α × Stm)} {k : Int} {P : α → Prop} (h : Gen m k P) : Ok m (fun r => P r.1 ∧ SOk r.2 k) := by
  obtain ⟨v, s, h1, h2, h3⟩ := h; exact ⟨(v, s), h1, h2, h3⟩
theorem Ok.idx {α β : Type} {xs : List α} {i : Int} {f : α → Option β} {Q : β → Prop} (h0 : 0 ≤ i) (h1 : i < xs.length) (hf : ∀ x, idx xs i = some x → x ∈ xs → Ok (f x) Q) : Ok ((idx xs i).bind f) Q := by
  obtain ⟨x, hx, hm, _⟩ := idx_lt xs h0 h1
  rw [hx]; exact hf x hx hm
theorem Ok.app {α β : Type} {xs ys : List α} {f : List α → Option β} {Q : β → Prop} (h : xs.length + ys.length ≤ 1000000000) (hf : Ok (f (xs ++ ys)) Q) : Ok ((app xs ys).bind f) Q := by
  rw [app_le h]; exact hf
theorem Ok.slc {α β : Type} {xs : List α} {a b : Int} {f : List α → Option β} {Q : β → Prop} (h0 : 0 ≤ a) (h1 : a ≤ b) (h2 : b ≤ xs.length) (hf : ∀ ys : List α, ys = (xs.drop a.toNat).take (b.toNat - a.toNat) → (ys.length : Int) = b - a → Ok (f ys) Q) : Ok ((slc xs a b).bind f) Q := by
  rw [slc_in h0 h1 h2]; exact hf _ rfl (by simp; omega)
theorem cat_le {a b : Str} (h : a.length + b.length ≤ 9223372036854775807) : catO a b = some (a ++ b) := by unfold catO; rw [if_pos h]
theorem Ok.cat {β : Type} {a b : Str} {f : Str → Option β} {Q : β → Prop} (h : a.length + b.length ≤ 9223372036854775807) (hf : Ok (f (a ++ b)) Q) : Ok ((catO a b).bind f) Q := by
  rw [cat_le h]; exact hf
/-- What a round of a loop may tell: it keeps something and makes a number smaller, or it is the last. -/
abbrev Stp {S A : Type} (m : S → Nat) (Inv : S → Prop) (R : A → Prop) (s : S) : S ⊕ A → Prop
  | .inl s' => Inv s' ∧ m s' < m s
  | .inr a => R a
theorem Ok.iter {S A : Type} {f : S → Option (S ⊕ A)} {R : A → Prop} (m : S → Nat) (Inv : S → Prop)
    (h : ∀ s, Inv s → Ok (f s) (Stp m Inv R s)) (s : S) (hs : Inv s) : Ok (iter f s) R := by
  refine iter_inv f m Inv R (fun s hi => ?_) s hs
  obtain ⟨r, h1, h2⟩ := h s hi
  cases r with
  | inl s' => exact .inl ⟨s', h1, h2.1, h2.2⟩
  | inr a => exact .inr ⟨a, h1, h2⟩
/-- A round of a loop over the places of a list. -/
abbrev Rng {A : Type} (N : Nat) (R : A → Prop) (i : Int) : Int ⊕ A → Prop
  | .inl j => j = i + 1 ∧ i < N
  | .inr a => R a
theorem Ok.range {A : Type} {f : Int → Option (Int ⊕ A)} {R : A → Prop} (N : Nat) (h : ∀ i : Int, 0 ≤ i → i ≤ N → Ok (f i) (Rng N R i)) : Ok (Eng.iter f 0) R := by
  refine Ok.iter (fun i : Int => N + 1 - i.toNat) (fun i : Int => 0 ≤ i ∧ i ≤ N) (fun i hi => ?_) 0 ⟨by omega, by omega⟩
  refine (h i hi.1 hi.2).mono (fun r hr => ?_)
  cases r with
  | inl j => simp only [Rng, Stp] at hr ⊢; omega
  | inr a => exact hr
theorem strR_len (n : Int) : (strR n).length ≤ 4 := by
  unfold strR Utf8.encode
  simp only
  repeat' split
  all_goals simp
end Go.Beacon

/- Reading a text line by line: the program's way and the reference's. No program in sight. -/
set_option linter.unusedVariables false
set_option linter.unusedSimpArgs false
namespace Go.Beacon
open Go Go.Eng

/-- The lines of a text, and whether the last one is ended. -/
def lineL (t : Str) : List Str × Bool := if t = [] then ([], true) else if t.getLast? = some 10 then (splitC 10 t.dropLast, true) else (splitC 10 t, false)
theorem snoc_of {t : Str} (h : t ≠ []) : ∃ b c, t = b ++ [c] := ⟨t.dropLast, t.getLast h, (List.dropLast_concat_getLast h).symm⟩
theorem Lines_eq (t : Str) (h : t.length ≤ 1000000) : base_Lines t = some (lineL t) := by
  unfold base_Lines lineL
  by_cases h0 : t = []
  · rw [if_pos h0, if_pos h0]
  · rw [if_neg h0, if_neg h0]
    obtain ⟨b, c, rfl⟩ := snoc_of h0
    have hl : ((b ++ [c]).length : Int) = b.length + 1 := by simp
    have hb : b.length ≤ 1000000 := by simp at h; omega
    have hlast : (b ++ [c]).getLast? = some c := by simp
    have hdl : (b ++ [c]).dropLast = b := by simp
    have h1 : w64 (((b ++ [c]).length : Int) - ((([10] : Str).length : Nat) : Int)) = (b.length : Int) := by
      rw [hl]
      simp only [List.length_cons, List.length_nil]
      rw [w64_in (by omega) (by omega)]; omega
    have hs : internal_stringslite_HasSuffix (b ++ [c]) [10] = some (decide (c = 10)) := by
      unfold internal_stringslite_HasSuffix internal_stringslite_HasSuffix_j1
      rw [if_pos (by rw [hl]; simp; omega), h1, slc_in (by omega) (by omega) (by omega)]
      simp only [Option.bind_some]
      have : ((b ++ [c]).drop (b.length : Int).toNat).take (((b ++ [c]).length : Int).toNat - (b.length : Int).toNat) = [c] := by simp
      rw [this]
      simp
    have hc : strings_CutSuffix (b ++ [c]) [10] = some (if c = 10 then (b, true) else (b ++ [c], false)) := by
      unfold strings_CutSuffix internal_stringslite_CutSuffix
      rw [hs]
      simp only [Option.bind_some]
      by_cases e : c = 10
      · rw [decide_eq_true e, if_neg (by simp), h1, slc_in (by omega) (by omega) (by omega), if_pos e]
        simp
      · rw [decide_eq_false e, if_pos (by simp), if_neg e]; rfl
    rw [hc, hlast, hdl]
    simp only [Option.bind_some]
    by_cases e : c = 10
    · rw [if_pos e, if_pos (by rw [e])]
      simp only
      rw [splitO_eq (by omega)]; rfl
    · rw [if_neg e, if_neg (fun h => e (Option.some.inj h))]
      simp only
      rw [splitO_eq (by simp; omega)]; rfl
theorem cut1_hit (c : UInt8) : ∀ s : Str, (cut1 c s).2.2 = true → s = (cut1 c s).1 ++ c :: (cut1 c s).2.1 ∧ c ∉ (cut1 c s).1
  | [] => fun h => by cases h
  | b :: r => by
    have ih := cut1_hit c r
    unfold cut1
    by_cases hb : b = c
    · rw [if_pos hb]; subst hb; intro _; exact ⟨rfl, by simp⟩
    · rw [if_neg hb]
      intro h
      obtain ⟨h1, h2⟩ := ih h
      refine ⟨?_, ?_⟩
      · simp only [List.cons_append]
        rw [← h1]
      · simp only [List.mem_cons, not_or]
        exact ⟨fun e => hb e.symm, h2⟩
theorem cut1_miss2 (c : UInt8) : ∀ s : Str, (cut1 c s).2.2 = false → c ∉ s
  | [] => fun _ => by simp
  | b :: r => by
    have ih := cut1_miss2 c r
    unfold cut1
    by_cases hb : b = c
    · rw [if_pos hb]; intro h; cases h
    · rw [if_neg hb]
      intro h
      simp only [List.mem_cons, not_or]
      exact ⟨fun e => hb e.symm, ih h⟩
theorem lineL_miss {t : Str} (h0 : t ≠ []) (h : (cut1 10 t).2.2 = false) : lineL t = ([t], false) := by
  have hn := cut1_miss2 10 t h
  unfold lineL
  rw [if_neg h0, if_neg (fun e => hn (List.mem_of_getLast? e)), splitC_none 10 t hn]
theorem lineL_hit {t : Str} (h : (cut1 10 t).2.2 = true) : lineL t = ((cut1 10 t).1 :: (lineL (cut1 10 t).2.1).1, (lineL (cut1 10 t).2.1).2) := by
  obtain ⟨h1, h2⟩ := cut1_hit 10 t h
  generalize (cut1 10 t).1 = a at h1 h2 ⊢
  generalize (cut1 10 t).2.1 = r at h1 ⊢
  subst h1
  unfold lineL
  rw [if_neg (by simp)]
  by_cases hr : r = []
  · subst hr
    rw [if_pos (by simp), if_pos rfl]
    have : (a ++ [10]).dropLast = a := by simp
    rw [this, splitC_none 10 a h2]
  · rw [if_neg hr]
    obtain ⟨b, c, rfl⟩ := snoc_of hr
    have e1 : (a ++ 10 :: (b ++ [c])).getLast? = some c := by
      rw [show a ++ 10 :: (b ++ [c]) = (a ++ 10 :: b) ++ [c] by simp]; exact List.getLast?_concat
    have e2 : (b ++ [c]).getLast? = some c := by simp
    have e3 : (a ++ 10 :: (b ++ [c])).dropLast = a ++ 10 :: b := by
      rw [show a ++ 10 :: (b ++ [c]) = (a ++ 10 :: b) ++ [c] by simp]; exact List.dropLast_concat
    have e4 : (b ++ [c]).dropLast = b := List.dropLast_concat
    rw [e1, e2, e3, e4]
    by_cases hc : c = 10
    · rw [if_pos (by rw [hc]), if_pos (by rw [hc]), splitC_cons 10 a b h2]
    · rw [if_neg (fun e => hc (Option.some.inj e)), if_neg (fun e => hc (Option.some.inj e)), splitC_cons 10 a _ h2]
theorem lineL_len (t : Str) : (lineL t).1.length ≤ t.length + 1 ∧ ∀ s ∈ (lineL t).1, s.length ≤ t.length := by
  unfold lineL
  split
  · simp
  · split
    · have h1 := splitC_length 10 t.dropLast
      have h2 : t.dropLast.length ≤ t.length := by simp
      refine ⟨by simp only; omega, fun s hs => ?_⟩
      have := (splitC_part 10 t.dropLast s hs).1
      omega
    · exact ⟨splitC_length 10 t, fun s hs => (splitC_part 10 t s hs).1⟩
section
variable {α : Type} (pl : Str → Option α)
/-- Reading lines one after another. -/
def eachS (ends : Bool) : List Str → Int → List α → Int × Bool × List α
  | [], _, X => (0, true, X)
  | s :: r, i, X => if ends = false ∧ r = [] then (i, false, X) else match pl s with
    | none => (i, false, X)
    | some x => eachS ends r (i + 1) (X ++ [x])
theorem eachS_len (ends : Bool) : ∀ (l : List Str) (i : Int) (X : List α), (eachS pl ends l i X).2.2.length ≤ X.length + l.length
  | [], i, X => by simp [eachS]
  | s :: r, i, X => by
    unfold eachS
    split
    · simp
    · cases hs : pl s with
      | none => simp
      | some x =>
        have := eachS_len ends r (i + 1) (X ++ [x])
        simp only [List.length_append, List.length_cons, List.length_nil] at this ⊢
        omega
theorem each_iter2 (rd : Str → List α → Option (Bool × List α)) (L : List Str) (ends : Bool) (hl : L.length ≤ 1000000) (hrd : ∀ s ∈ L, ∀ X : List α, X.length ≤ 1000000 → ∃ z, rd s X = some z ∧ z.1 = (pl s).isSome ∧ (∀ x, pl s = some x → z.2 = X ++ [x]))
    (b : List α → Int → Option ((List α × Int) ⊕ (Int × Bool × List α)))
    (hb : ∀ X n, b X n = if n < (L.length : Int) then (idx L n).bind fun v => if (!ends) = true then (if n = w64 ((L.length : Int) - 1) then some (.inr (n, false, X)) else (rd v X).bind fun z => if (!z.1) = true then some (.inr (n, false, z.2)) else some (.inl (z.2, w64 (n + 1)))) else (rd v X).bind fun z => if (!z.1) = true then some (.inr (n, false, z.2)) else some (.inl (z.2, w64 (n + 1))) else some (.inr (0, true, X))) :
    ∃ Y, iter (fun x : List α × Int => b x.1 x.2) ([], 0) = some ((eachS pl ends L 0 []).1, (eachS pl ends L 0 []).2.1, Y) ∧ ((eachS pl ends L 0 []).2.1 = true → Y = (eachS pl ends L 0 []).2.2) := by
  have key : ∀ (m : Nat) (n : Int) (X : List α), 0 ≤ n → n + m = L.length → X.length ≤ n.toNat → ∃ Y, iter (fun x : List α × Int => b x.1 x.2) (X, n) = some ((eachS pl ends (L.drop n.toNat) n X).1, (eachS pl ends (L.drop n.toNat) n X).2.1, Y) ∧ ((eachS pl ends (L.drop n.toNat) n X).2.1 = true → Y = (eachS pl ends (L.drop n.toNat) n X).2.2) := by
    intro m
    induction m with
    | zero =>
      intro n X h0 hn hX
      rw [iter_eq]
      simp only
      rw [hb, if_neg (by omega), List.drop_of_length_le (by omega)]
      exact ⟨X, rfl, fun _ => rfl⟩
    | succ m ih =>
      intro n X h0 hn hX
      obtain ⟨s, hs, hm, hd⟩ := idx_lt L h0 (by omega)
      obtain ⟨z, z1, z2, z3⟩ := hrd s hm X (by omega)
      have e : (n + 1).toNat = n.toNat + 1 := by omega
      rw [iter_eq]
      simp only
      rw [hb, if_pos (by omega), hs, hd]
      simp only [Option.bind_some]
      rw [z1, w64_in (x := (L.length : Int) - 1) (by omega) (by omega), w64_in (x := n + 1) (by omega) (by omega)]
      simp only [Option.bind_some]
      have hnil : L.drop (n + 1).toNat = [] ↔ n = (L.length : Int) - 1 := by
        rw [List.drop_eq_nil_iff]; omega
      have hgo : ∃ Y, (((if (!z.1) = true then some (.inr (n, false, z.2)) else some (.inl (z.2, n + 1))) : Option ((List α × Int) ⊕ (Int × Bool × List α))).bind (after (iter fun x : List α × Int => b x.1 x.2))) = some ((match pl s with | none => (n, false, X) | some x => eachS pl ends (L.drop (n + 1).toNat) (n + 1) (X ++ [x])).1, (match pl s with | none => (n, false, X) | some x => eachS pl ends (L.drop (n + 1).toNat) (n + 1) (X ++ [x])).2.1, Y) ∧ ((match pl s with | none => (n, false, X) | some x => eachS pl ends (L.drop (n + 1).toNat) (n + 1) (X ++ [x])).2.1 = true → Y = (match pl s with | none => (n, false, X) | some x => eachS pl ends (L.drop (n + 1).toNat) (n + 1) (X ++ [x])).2.2) := by
        cases hp : pl s with
        | none =>
          rw [hp] at z2
          have z2' : z.1 = false := z2
          rw [z2', if_pos (by simp)]
          exact ⟨z.2, rfl, fun h => by cases h⟩
        | some x =>
          rw [hp] at z2
          have z2' : z.1 = true := z2
          rw [z2', if_neg (by simp), z3 x hp]
          exact ih (n + 1) (X ++ [x]) (by omega) (by omega) (by simp; omega)
      unfold eachS
      by_cases hz : ends = false ∧ L.drop (n + 1).toNat = []
      · rw [if_pos hz, if_pos (by rw [hz.1]; rfl), if_pos (hnil.1 hz.2)]
        exact ⟨X, rfl, fun h => by cases h⟩
      · rw [if_neg hz]
        cases hend : ends with
        | true =>
          rw [hend] at hgo
          rw [if_neg (by simp)]; exact hgo
        | false =>
          rw [hend] at hgo
          rw [if_pos (by simp), if_neg (fun h => hz ⟨hend, hnil.2 h⟩)]; exact hgo
  have := key L.length 0 [] (by omega) (by omega) (by simp)
  simpa using this
theorem lines_iterB (B : Nat) (rd : Str → List α → Option (Bool × List α)) (hrd : ∀ s : Str, s.length ≤ B → ∀ X : List α, X.length ≤ 1000000 → ∃ z, rd s X = some z ∧ z.1 = (pl s).isSome ∧ (∀ x, pl s = some x → z.2 = X ++ [x]))
    (b : List α → Str → Int → Option ((List α × Str × Int) ⊕ (Int × Bool × List α)))
    (hb : ∀ X t n, b X t n = if t ≠ [] then (cutO t [10]).bind fun v => if (!v.2.2) = true then some (.inr (n, false, X)) else (rd v.1 X).bind fun z => if (!z.1) = true then some (.inr (n, false, z.2)) else some (.inl (z.2, v.2.1, w64 (n + 1))) else some (.inr (0, true, X))) :
    ∀ (m : Nat) (t : Str) (X : List α) (i : Int), t.length ≤ m → m ≤ B → X.length + t.length ≤ 1000000 → 0 ≤ i → i + t.length ≤ 1000000 →
      ∃ Y, iter (fun x : List α × Str × Int => b x.1 x.2.1 x.2.2) (X, t, i) = some ((eachS pl (lineL t).2 (lineL t).1 i X).1, (eachS pl (lineL t).2 (lineL t).1 i X).2.1, Y) ∧
        ((eachS pl (lineL t).2 (lineL t).1 i X).2.1 = true → Y = (eachS pl (lineL t).2 (lineL t).1 i X).2.2) := by
  have nil : ∀ (X : List α) (i : Int), ∃ Y, iter (fun x : List α × Str × Int => b x.1 x.2.1 x.2.2) (X, [], i) = some ((eachS pl (lineL []).2 (lineL []).1 i X).1, (eachS pl (lineL []).2 (lineL []).1 i X).2.1, Y) ∧
        ((eachS pl (lineL []).2 (lineL []).1 i X).2.1 = true → Y = (eachS pl (lineL []).2 (lineL []).1 i X).2.2) := by
    intro X i
    refine ⟨X, ?_, fun _ => rfl⟩
    rw [iter_eq]
    simp only
    rw [hb, if_neg (by simp)]; rfl
  intro m
  induction m with
  | zero =>
    intro t X i hm _ _ _ _
    obtain rfl : t = [] := List.length_eq_zero_iff.1 (by omega)
    exact nil X i
  | succ m ih =>
    intro t X i hm hB hX h0 hi
    by_cases ht : t = []
    · subst ht; exact nil X i
    · have hpos := List.length_pos_iff.2 ht
      have hlen := cut1_len 10 t
      rw [iter_eq]
      simp only
      rw [hb, if_pos ht, cutO_eq (by omega)]
      simp only [Option.bind_some]
      cases hc : (cut1 10 t).2.2 with
      | false =>
        rw [if_pos (by simp), lineL_miss ht hc]
        refine ⟨X, ?_, fun h => ?_⟩
        · simp [eachS]
        · simp [eachS] at h
      | true =>
        have hit := cut1_hit 10 t hc
        have hsum : t.length = (cut1 10 t).1.length + 1 + (cut1 10 t).2.1.length := by
          have := congrArg List.length hit.1
          simp at this; omega
        rw [if_neg (by simp), lineL_hit hc]
        obtain ⟨z, z1, z2, z3⟩ := hrd (cut1 10 t).1 (by omega) X (by omega)
        rw [z1]
        simp only [Option.bind_some]
        have hne : ¬ ((lineL (cut1 10 t).2.1).2 = false ∧ (lineL (cut1 10 t).2.1).1 = []) := by
          rintro ⟨e1, e2⟩
          unfold lineL at e1 e2
          split at e1
          · cases e1
          · rename_i hr
            rw [if_neg hr] at e2
            split at e2
            · exact splitC_ne 10 _ e2
            · exact splitC_ne 10 _ e2
        unfold eachS
        rw [if_neg hne]
        cases hp : pl (cut1 10 t).1 with
        | none =>
          rw [hp] at z2
          have z2' : z.1 = false := z2
          rw [z2', if_pos (by simp)]
          refine ⟨z.2, rfl, fun h => by cases h⟩
        | some x =>
          rw [hp] at z2
          have z2' : z.1 = true := z2
          rw [z2', if_neg (by simp), z3 x hp, w64_in (by omega) (by omega)]
          exact ih (cut1 10 t).2.1 (X ++ [x]) (i + 1) (by omega) (by omega) (by simp; omega) (by omega) (by omega)
end
/-! words of a line -/
theorem findE_empty {A : Type} (a d : A) : ∀ L : List Str, findE (fun s : Str => if s = [] then some a else none) d L = if ([] : Str) ∈ L then a else d
  | [] => rfl
  | x :: L => by
    rw [findE, findE_empty a d L]
    by_cases h : x = []
    · subst h
      have hm : ([] : Str) ∈ ([] : Str) :: L := by simp
      rw [if_pos rfl, if_pos hm]
    · rw [if_neg h]
      have : ([] : Str) ∈ x :: L ↔ ([] : Str) ∈ L := by simp [Ne.symm h]
      simp only [this]
theorem Words_eq (s : Str) (k : Int) (h : s.length ≤ 1000000) : base_Words s k = some (if ((splitC 32 s).length : Int) ≠ k ∨ ([] : Str) ∈ splitC 32 s then ([], false) else (splitC 32 s, true)) := by
  unfold base_Words
  rw [splitO_eq (by omega)]
  simp only [Option.bind_some]
  have hl := splitC_length 32 s
  by_cases hk : ((splitC 32 s).length : Int) ≠ k
  · rw [if_pos hk, if_pos (.inl hk)]
  · rw [if_neg hk]
    unfold base_Words_l1
    rw [iter_find (splitC 32 s) (fun x : Int => base_Words_b1 (splitC 32 s) x) (fun v : Str => if v = [] then some (([] : List Str), false) else none) (splitC 32 s, true) (by omega)
      (fun i x h0 h1 hx => by
        rw [base_Words_b1, if_pos h1, hx]
        simp only [Option.bind_some]
        by_cases c : x = []
        · rw [if_pos c, if_pos c]; rfl
        · rw [if_neg c, if_neg c, w64_in (by omega) (by omega)])
      (by rw [base_Words_b1, if_neg (by omega)]; rfl), findE_empty]
    by_cases he : ([] : Str) ∈ splitC 32 s
    · rw [if_pos he, if_pos (.inr he)]
    · rw [if_neg he, if_neg (by rintro (e | e); exact hk e; exact he e)]
theorem Contains_eq (L : List Str) (hl : L.length ≤ 10000000) : slices_Contains_string_string L [] = some (decide (([] : Str) ∈ L)) := by
  unfold slices_Contains_string_string slices_Index_string_string
  have key : ∀ (m : Nat) (n : Int), 0 ≤ n → n + m = L.length → ∃ j, slices_Index_string_string_l1 L [] n = some j ∧ (0 ≤ j ↔ ([] : Str) ∈ L.drop n.toNat) := by
    intro m
    induction m with
    | zero =>
      intro n h0 hn
      refine ⟨-1, ?_, ?_⟩
      · unfold slices_Index_string_string_l1
        rw [iter_eq, slices_Index_string_string_b1, if_neg (by omega), map_inr_after]
      · rw [List.drop_of_length_le (by omega)]; simp
    | succ m ih =>
      intro n h0 hn
      obtain ⟨s, hs, _, hd⟩ := idx_lt L h0 (by omega)
      unfold slices_Index_string_string_l1
      rw [iter_eq, slices_Index_string_string_b1, if_pos (by omega), hs]
      simp only [Option.bind_some]
      by_cases e : ([] : Str) = s
      · rw [if_pos e, map_inr_after]
        exact ⟨n, rfl, by rw [hd, ← e]; simp; omega⟩
      · rw [if_neg e, w64_in (by omega) (by omega)]
        simp only [Option.bind_some, after_inl]
        obtain ⟨j, j1, j2⟩ := ih (n + 1) (by omega) (by omega)
        exact ⟨j, j1, by rw [hd, j2]; simp [e]⟩
  obtain ⟨j, j1, j2⟩ := key L.length 0 (by omega) (by omega)
  rw [j1]
  simp only [Option.bind_some]
  congr 1
  rw [Bool.eq_iff_iff]
  simpa using j2
/-! a string that is changed -/
theorem Changed_g {s : Stm} {t w : Str} {K : Int} (hs : SOk s K) (hK : 3 ≤ K) (ht : t.length ≤ 1000000) (hw : w.length ≤ 1000) : Gen (Stream_Changed s t w) (K - 3) (fun r => r.length ≤ t.length + 4 + w.length) := by
  unfold Stream_Changed Stream_Changed_j1
  refine Gen.of ?_
  split
  · exact Ok.ret ⟨by show w.length ≤ _; omega, hs.less (by omega)⟩
  · rename_i hne
    simp only [Bool.or_eq_true, decide_eq_true_eq, not_or] at hne
    have l1 := List.length_pos_iff.2 hne.1
    have l2 := List.length_pos_iff.2 hne.2
    refine Ok.gen (Next_k hs (by omega) (by omega) (by omega)) (fun i s1 h1 q1 => ?_)
    refine Ok.gen (Next_k q1 (by omega) (by omega) (by omega)) (fun j s2 h2 q2 => ?_)
    refine Ok.idx h2.1 h2.2 (fun c hc hm => ?_)
    refine Ok.gen (Next_k q2 (by omega) (by omega) (by omega)) (fun k s3 h3 q3 => ?_)
    dsimp only at h1 h2 h3 ⊢
    have w1 : w64 (i + 1) = i + 1 := w64_in (by omega) (by omega)
    have lr := strR_len (IntKind.i32.wrap (c.toNat : Int))
    rw [w1]
    split
    · refine Ok.slc (by omega) (by omega) (by omega) (fun a ha la => ?_)
      refine Ok.cat (by omega) ?_
      refine Ok.slc (by omega) (by omega) (by omega) (fun b hb lb => ?_)
      refine Ok.cat (by simp; omega) ?_
      exact Ok.ret ⟨by simp; omega, q3.less (by omega)⟩
    · split
      · refine Ok.slc (by omega) (by omega) (by omega) (fun a ha la => ?_)
        refine Ok.cat (by omega) ?_
        refine Ok.slc (by omega) (by omega) (by omega) (fun b hb lb => ?_)
        refine Ok.cat (by simp; omega) ?_
        exact Ok.ret ⟨by simp; omega, q3.less (by omega)⟩
      · refine Ok.slc (by omega) (by omega) (by omega) (fun a ha la => ?_)
        refine Ok.slc (by omega) (by omega) (by omega) (fun b hb lb => ?_)
        refine Ok.cat (by omega) ?_
        exact Ok.ret ⟨by simp; omega, q3.less (by omega)⟩
end Go.Beacon

/- Numbers in their one spelling: what both readers of numbers take. No program in sight. -/
set_option linter.unusedVariables false
set_option linter.unusedSimpArgs false
namespace Go.Beacon
open Go Go.Eng

def isDig (c : UInt8) : Bool := decide (48 ≤ c.toNat) && decide (c.toNat ≤ 57)
theorem isDig_val {c : UInt8} (h : isDig c = true) : Lib.digitVal c = some (c.toNat - 48) := by
  unfold isDig at h; simp at h
  unfold Lib.digitVal; rw [if_pos h]
theorem val_dig {c : UInt8} {d : Nat} (h : Lib.digitVal c = some d) : isDig c = true ∧ d = c.toNat - 48 ∧ UInt8.ofNat (48 + d) = c := by
  obtain ⟨h1, h2, h3⟩ := Lib.digitVal_eq h
  refine ⟨by unfold isDig; simp; omega, h3, ?_⟩
  apply UInt8.toNat_inj.1
  rw [UInt8.toNat_ofNat']
  omega
theorem decFrom_all : ∀ (l : Str) (acc : Nat), l.all isDig = true → ∃ m, Lib.decFrom acc l = some m
  | [], acc, _ => ⟨acc, rfl⟩
  | b :: r, acc, h => by
    simp only [List.all_cons, Bool.and_eq_true] at h
    obtain ⟨m, hm⟩ := decFrom_all r (acc * 10 + (b.toNat - 48)) h.2
    exact ⟨m, by rw [Lib.decFrom, isDig_val h.1]; exact hm⟩
theorem dec_grow : ∀ (l : Str) (acc m : Nat), 0 < acc → Lib.decFrom acc l = some m → Lib.decDigits m = Lib.decDigits acc ++ l
  | [], acc, m, _, h => by simp only [Lib.decFrom, Option.some.injEq] at h; simp [h]
  | b :: r, acc, m, ha, h => by
    rw [Lib.decFrom] at h
    cases hd : Lib.digitVal b with
    | none => rw [hd] at h; simp at h
    | some d =>
      rw [hd] at h
      obtain ⟨h1, h2, h3⟩ := Lib.digitVal_eq hd
      have ih := dec_grow r (acc * 10 + d) m (by omega) h
      rw [ih, Lib.decDigits, dif_neg (by omega)]
      rw [show (acc * 10 + d) / 10 = acc by omega, show (acc * 10 + d) % 10 = d by omega, (val_dig hd).2.2]
      simp
theorem dec_head {m : Nat} (h : 0 < m) : ∃ b r, Lib.decDigits m = b :: r ∧ b ≠ 48 := by
  induction m using Nat.strongRecOn with
  | _ m ih =>
    rw [Lib.decDigits]
    split
    · refine ⟨_, _, rfl, ?_⟩
      intro e
      have := congrArg UInt8.toNat e
      rw [UInt8.toNat_ofNat'] at this
      simp at this; omega
    · obtain ⟨b, r, h1, h2⟩ := ih (m / 10) (by omega) (by omega)
      exact ⟨b, r ++ _, by rw [h1]; rfl, h2⟩
theorem dec_zero : Lib.decDigits 0 = [48] := by rw [Lib.decDigits, dif_pos (by omega)]; rfl
/-- Digits without a 0 ahead: the one spelling. -/
theorem dec_spelled {l : Str} {m : Nat} (h : Lib.decFrom 0 l = some m) (hl : l ≠ []) : Lib.decDigits m = l ↔ (l.head? ≠ some 48 ∨ l.length = 1) := by
  cases l with
  | nil => exact absurd rfl hl
  | cons b r =>
    rw [Lib.decFrom] at h
    cases hd : Lib.digitVal b with
    | none => rw [hd] at h; simp at h
    | some d =>
      rw [hd] at h
      simp only [Nat.zero_mul, Nat.zero_add] at h
      obtain ⟨h1, h2, h3⟩ := Lib.digitVal_eq hd
      by_cases hz : d = 0
      · subst hz
        have hb : b = 48 := by rw [← (val_dig hd).2.2]; rfl
        subst hb
        constructor
        · intro e
          right
          by_cases hm : m = 0
          · subst hm; rw [dec_zero] at e
            have := congrArg List.length e; simpa using this.symm
          · obtain ⟨b, r', h4, h5⟩ := dec_head (m := m) (by omega)
            rw [h4] at e; simp at e; exact absurd e.1 h5
        · rintro (e | e)
          · simp at e
          · have : r = [] := by cases r with
              | nil => rfl
              | cons _ _ => simp at e
            subst this
            simp only [Lib.decFrom, Option.some.injEq] at h
            subst h; exact dec_zero
      · have hg := dec_grow r d m (by omega) h
        have hd1 : Lib.decDigits d = [UInt8.ofNat (48 + d)] := by rw [Lib.decDigits, dif_pos (by omega)]
        rw [hd1, (val_dig hd).2.2] at hg
        constructor
        · intro _; left
          intro e; simp at e
          have e2 := (val_dig hd).2.1
          rw [e] at e2; simp at e2; omega
        · intro _; exact hg
theorem dec_digs (m : Nat) : (Lib.decDigits m).all isDig = true := by
  induction m using Nat.strongRecOn with
  | _ m ih =>
    rw [Lib.decDigits]
    have key : ∀ d, d < 10 → isDig (UInt8.ofNat (48 + d)) = true := by
      intro d hd
      unfold isDig; rw [UInt8.toNat_ofNat']; simp; omega
    split
    · rename_i h; rw [List.all_cons, key m h]; rfl
    · rw [List.all_append, ih (m / 10) (by omega), List.all_cons, key (m % 10) (by omega)]; rfl
/-- The number that a string of at most so many digits spells, in its one spelling. -/
def numT (s : Str) (k : Int) : Option Int :=
  if (Lib.trimPrefix s [45] = [] ∨ k < (Lib.trimPrefix s [45]).length) ∨ (Lib.trimPrefix s [45]).all isDig = false then none
  else match Lib.atoi s with
    | some n => if Lib.itoa n = s then some n else none
    | none => none
theorem digits_fin : ∀ n : Fin 256, decide (UInt8.ofNat n.val ∈ ([48, 49, 50, 51, 52, 53, 54, 55, 56, 57] : List UInt8)) = (decide (48 ≤ n.val) && decide (n.val ≤ 57)) := by decide +kernel
theorem mem_dig (c : UInt8) : decide (c ∈ ([48, 49, 50, 51, 52, 53, 54, 55, 56, 57] : List UInt8)) = isDig c :=
  u8_fin (p := fun c => decide (c ∈ ([48, 49, 50, 51, 52, 53, 54, 55, 56, 57] : List UInt8))) (q := fun n => decide (48 ≤ n) && decide (n ≤ 57)) digits_fin c
theorem trimP_cases (s : Str) : (∃ d, s = 45 :: d ∧ Lib.trimPrefix s [45] = d) ∨ (Lib.trimPrefix s [45] = s ∧ s.head? ≠ some 45) := by
  cases s with
  | nil => right; exact ⟨rfl, by simp⟩
  | cons b r =>
    unfold Lib.trimPrefix
    by_cases h : b = 45
    · subst h; left; exact ⟨r, rfl, by simp [Lib.hasPrefix, List.isPrefixOf]⟩
    · right
      have hp : Lib.hasPrefix (b :: r) [45] = false := by simp [Lib.hasPrefix, List.isPrefixOf, Ne.symm h]
      rw [hp]; exact ⟨by simp, by simpa using h⟩
theorem trimP_length (s : Str) : (Lib.trimPrefix s [45]).length ≤ s.length ∧ s.length ≤ (Lib.trimPrefix s [45]).length + 1 := by
  rcases trimP_cases s with ⟨d, h1, h2⟩ | ⟨h1, _⟩
  · rw [h2, h1]; simp
  · rw [h1]; omega
theorem atoiAll_of {s : Str} {n : Int} (hl : s.length ≤ 18) (h : Lib.atoi s = some n) : Lib.atoiAll s = .ok n := by
  rw [Lib.atoiAll_short s hl, h]; rfl
/-- Digits behind an optional sign spell a number. -/
theorem atoi_digs {s : Str} (h1 : Lib.trimPrefix s [45] ≠ []) (h2 : (Lib.trimPrefix s [45]).all isDig = true) : ∃ n, Lib.atoi s = some n ∧ (Lib.itoa n = s ↔ ¬((Lib.trimPrefix s [45]).head? = some 48 ∧ (1 < (Lib.trimPrefix s [45]).length ∨ (Lib.trimPrefix s [45]).length < s.length))) := by
  rcases trimP_cases s with ⟨d, e1, e2⟩ | ⟨e1, e2⟩
  · rw [e2] at h1 h2 ⊢
    subst e1
    obtain ⟨m, hm⟩ := decFrom_all d 0 h2
    have hN : Lib.decNat d = some m := by unfold Lib.decNat; rw [if_neg (by simpa using h1), hm]
    refine ⟨-(m : Int), by rw [Lib.atoi]; simp [hN], ?_⟩
    have hs := dec_spelled hm h1
    have hlen : d.length < (45 :: d).length := by simp
    constructor
    · rintro e ⟨hh, _⟩
      unfold Lib.itoa at e
      split at e
      · have e' : Lib.decDigits m = d := by simpa using e
        rename_i hneg
        obtain ⟨b, r, h4, h5⟩ := dec_head (m := m) (by omega)
        rw [e'] at h4; rw [h4] at hh; simp at hh; exact h5 hh
      · have := dec_digs (-(m : Int)).toNat
        rw [e] at this; simp [isDig] at this
    · intro hn
      have hh : d.head? ≠ some 48 := fun hh => hn ⟨hh, .inr hlen⟩
      have e' := hs.2 (.inl hh)
      have hm0 : m ≠ 0 := by
        intro h0; subst h0; rw [dec_zero] at e'; subst e'; simp at hh
      unfold Lib.itoa
      rw [if_pos (by omega)]
      simp [e']
  · rw [e1] at h1 h2 ⊢
    obtain ⟨m, hm⟩ := decFrom_all s 0 h2
    have hN : Lib.decNat s = some m := by unfold Lib.decNat; rw [if_neg (by simpa using h1), hm]
    have hs := dec_spelled hm h1
    cases s with
    | nil => exact absurd rfl h1
    | cons b r =>
      have n45 : b ≠ 45 := by simpa using e2
      have hb : isDig b = true := by simp only [List.all_cons, Bool.and_eq_true] at h2; exact h2.1
      have n43 : b ≠ 43 := fun h => by subst h; simp [isDig] at hb
      refine ⟨m, by rw [Lib.atoi]; simp only [beq_iff_eq, n45, n43, if_false]; rw [hN]; rfl, ?_⟩
      have hi : Lib.itoa (m : Int) = Lib.decDigits m := by unfold Lib.itoa; rw [if_neg (by omega)]; simp
      rw [hi, hs]
      constructor
      · rintro (h | h) ⟨h3, h4⟩
        · exact h h3
        · omega
      · intro h
        by_cases hh : (b :: r).head? = some 48
        · right
          have : ¬ (1 < (b :: r).length) := fun h5 => h ⟨hh, .inl h5⟩
          simp at this ⊢; omega
        · exact .inl hh
theorem Number_loop (s : Str) (hl : s.length ≤ 18) : base_Number_l1 s 0 = if (Lib.trimPrefix s [45]).all isDig = true then base_Number_k3 s else some (0, false) := by
  unfold base_Number_l1
  have hd : ((Lib.trimPrefix s [45]).length : Int) ≤ 4611686018427387904 := by have := trimP_length s; omega
  refine iter_to (fun x : Int => base_Number_b1 s x) (fun i => (Lib.trimPrefix s [45]).length + 1 - i.toNat) (fun i => 0 ≤ i ∧ i ≤ (Lib.trimPrefix s [45]).length ∧ ((Lib.trimPrefix s [45]).take i.toNat).all isDig = true) _ ?_ 0 ⟨by omega, by omega, by simp⟩
  rintro i ⟨h0, h1, h2⟩
  by_cases hi : i < (Lib.trimPrefix s [45]).length
  · obtain ⟨c, hc, _, hdr⟩ := idx_lt (Lib.trimPrefix s [45]) h0 hi
    have hg := (idx_some hc).2.2
    have hmem : c ∈ Lib.trimPrefix s [45] := idx_mem hc
    have hB : base_Number_b1 s i = if isDig c = true then some (.inl (w64 (i + 1))) else Option.map .inr (some ((0 : Int), false)) := by
      unfold base_Number_b1
      rw [if_pos hi, hc]
      simp only [Option.bind_some]
      unfold base_Number_j2 isDig
      by_cases a1 : (c.toNat : Int) < 48
      · rw [if_pos a1, if_pos rfl, if_neg (by simp; omega)]
      · rw [if_neg a1]
        by_cases a2 : (57 : Int) < c.toNat
        · rw [if_pos (by simpa using a2), if_neg (by simp; omega)]
        · rw [if_neg (by simpa using a2), if_pos (by simp; omega)]
    by_cases hdg : isDig c = true
    · left
      refine ⟨i + 1, ?_, ⟨by omega, by omega, ?_⟩, by omega⟩
      · show base_Number_b1 s i = _
        rw [hB, if_pos hdg, w64_in (by omega) (by omega)]
      · rw [show (i + 1).toNat = i.toNat + 1 by omega, List.take_add_one, List.all_append, h2, hg]; simp [hdg]
    · right
      show base_Number_b1 s i = _
      rw [hB, if_neg hdg, if_neg (fun h => hdg (List.all_eq_true.1 h c hmem))]
  · right
    show base_Number_b1 s i = _
    unfold base_Number_b1
    rw [if_neg hi]
    rw [List.take_of_length_le (by omega)] at h2
    rw [if_pos h2]
theorem atoiO_eq {s : Str} {n : Int} (hl : s.length ≤ 18) (h : Lib.atoi s = some n) : atoiO s = some (n, true) := by
  unfold atoiO; rw [if_pos (by omega), atoiAll_of hl h]
theorem itoa_in {n : Int} (h1 : -9223372036854775808 ≤ n) (h2 : n ≤ 9223372036854775807) : itoaO n = some (Lib.itoa n) := by unfold itoaO; rw [if_pos ⟨h1, h2⟩]
/-- The program's reader of numbers. -/
theorem Number_eq (s : Str) (k : Nat) (hk : k ≤ 17) : base_Number s k = some (match numT s k with | some n => (n, true) | none => (0, false)) := by
  have hln := trimP_length s
  unfold base_Number base_Number_j1
  by_cases h1 : Lib.trimPrefix s [45] = []
  · rw [if_pos h1, if_pos rfl]; unfold numT; rw [if_pos (.inl (.inl h1))]
  · rw [if_neg h1]
    by_cases h2 : (k : Int) < (Lib.trimPrefix s [45]).length
    · rw [if_pos h2, if_pos rfl]; unfold numT; rw [if_pos (.inl (.inr h2))]
    · rw [if_neg h2]
      have hpos : 0 < (Lib.trimPrefix s [45]).length := List.length_pos_iff.2 h1
      obtain ⟨c, hc, _, _⟩ := idx_lt (Lib.trimPrefix s [45]) (i := 0) (by omega) (by omega)
      have hh : (Lib.trimPrefix s [45]).head? = some c := by
        have := (idx_some hc).2.2
        rw [List.head?_eq_getElem?]; simpa using this
      rw [hc]
      simp only [Option.bind_some]
      rw [Number_loop s (by omega)]
      by_cases hall : (Lib.trimPrefix s [45]).all isDig = true
      · obtain ⟨n, hn, hiff⟩ := atoi_digs h1 hall
        have hnT : numT s k = if Lib.itoa n = s then some n else none := by
          unfold numT
          rw [if_neg (fun h => h.elim (fun h => h.elim h1 h2) (fun h => by rw [hall] at h; cases h)), hn]
        have hcond : (decide ((c.toNat : Int) = 48) && (decide ((1 : Int) < (Lib.trimPrefix s [45]).length) || decide (((Lib.trimPrefix s [45]).length : Int) < s.length))) = true ↔ ¬ Lib.itoa n = s := by
          rw [hiff, hh]
          simp only [Bool.and_eq_true, decide_eq_true_eq, Bool.or_eq_true, Option.some.injEq, Classical.not_not]
          constructor
          · rintro ⟨a, b⟩; exact ⟨UInt8.toNat_inj.1 (by simpa using (by omega : c.toNat = 48)), by omega⟩
          · rintro ⟨a, b⟩; exact ⟨by rw [a]; rfl, by omega⟩
        by_cases hi : Lib.itoa n = s
        · rw [if_neg (fun h => hcond.1 h hi), if_pos hall, hnT, if_pos hi]
          unfold base_Number_k3
          rw [atoiO_eq (by omega) hn]; rfl
        · rw [if_pos (hcond.2 hi), hnT, if_neg hi]
      · have hnT : numT s k = none := by unfold numT; rw [if_pos (.inr (by simpa using hall))]
        rw [hnT, if_neg hall]; simp
end Go.Beacon

/- Joining strings, reading several numbers. No program in sight. -/
set_option linter.unusedVariables false
set_option linter.unusedSimpArgs false
namespace Go.Beacon
open Go Go.Eng

/-- Strings with a string between. -/
def joinW (sep : Str) : List Str → Str
  | [] => []
  | x :: r => x ++ r.flatMap (fun y => sep ++ y)
theorem flatW_len (sep : Str) (hs : sep.length ≤ 100) : ∀ L : List Str, (∀ s ∈ L, s.length ≤ 100000) → (L.flatMap (fun y => sep ++ y)).length ≤ 100100 * L.length
  | [], _ => by simp
  | x :: L, h => by
    have h1 := flatW_len sep hs L (fun s hs => h s (List.mem_cons_of_mem _ hs))
    have h2 := h x (by simp)
    rw [List.flatMap_cons, List.length_append, List.length_append, List.length_cons]
    omega
theorem Join_l2 (sep : Str) (hs : sep.length ≤ 100) (L : List Str) (hL : L.length ≤ 1000) (hh : ∀ s ∈ L, s.length ≤ 100000) (q : Str) (hq : q.length ≤ 100000) : strings_Join_l2 sep L q 0 = some (q ++ L.flatMap (fun y => sep ++ y)) := by
  unfold strings_Join_l2
  refine iter_to _ (fun x : Str × Int => (L.length - x.2).toNat) (fun x : Str × Int => 0 ≤ x.2 ∧ x.2 ≤ L.length ∧ x.1 = q ++ (L.take x.2.toNat).flatMap (fun y => sep ++ y)) _ ?_ _ ⟨by simp, by simp, by simp⟩
  rintro ⟨X, n⟩ ⟨g0, g1, g2⟩
  simp only at g0 g1 g2 ⊢
  unfold strings_Join_b2
  by_cases hn : n < L.length
  · left
    obtain ⟨v, hv, hm, _⟩ := idx_lt L g0 hn
    obtain ⟨hn', hg'⟩ := List.getElem?_eq_some_iff.1 (idx_some hv).2.2
    have e : (n + 1).toNat = n.toNat + 1 := by omega
    have hX : X.length ≤ 100000 + 100100 * 1000 := by
      have h1 := flatW_len sep hs (L.take n.toNat) (fun s h => hh s (List.mem_of_mem_take h))
      rw [g2, List.length_append]
      simp only [List.length_take] at h1
      omega
    have hv' := hh v hm
    rw [if_pos hn, hv]
    simp only [Option.bind_some]
    unfold bldW
    rw [if_pos (by omega)]
    simp only [Option.bind_some]
    rw [if_pos (by simp only [List.length_append]; omega), w64_in (by omega) (by omega)]
    refine ⟨_, rfl, ⟨by simp only; omega, by simp only; omega, ?_⟩, by simp only; omega⟩
    simp only
    rw [e, List.take_succ_eq_append_getElem hn', g2, hg', List.flatMap_append]
    simp
  · right
    rw [if_neg hn, g2, List.take_of_length_le (by omega)]
theorem Join_l1 (sep : Str) (hs : sep.length ≤ 100) (x : Str) (L : List Str) (hL : L.length ≤ 999) (hh : ∀ s ∈ x :: L, s.length ≤ 100000) (n0 : Int) (h0 : 0 ≤ n0 ∧ n0 ≤ 1000000) : strings_Join_l1 (x :: L) sep n0 0 = some (joinW sep (x :: L)) := by
  unfold strings_Join_l1
  refine iter_to _ (fun z : Int × Int => ((x :: L).length - z.2).toNat) (fun z : Int × Int => 0 ≤ z.2 ∧ z.2 ≤ (x :: L).length ∧ 0 ≤ z.1 ∧ z.1 ≤ 1000000 + 100000 * z.2) _ ?_ _ ⟨by simp, by simp; omega, by simp only; omega, by simp only; omega⟩
  rintro ⟨m, n⟩ ⟨g0, g1, g2, g3⟩
  simp only at g0 g1 g2 g3 ⊢
  have hlen : (x :: L).length ≤ 1000 := by simp only [List.length_cons]; omega
  unfold strings_Join_b1
  by_cases hn : n < ((x :: L).length : Int)
  · left
    obtain ⟨v, hv, hm, _⟩ := idx_lt (x :: L) g0 hn
    have hv' := hh v hm
    rw [if_pos hn, hv]
    simp only [Option.bind_some]
    rw [w64_in (x := 9223372036854775807 - m) (by omega) (by omega), if_neg (by omega), w64_in (by omega) (by omega), w64_in (by omega) (by omega)]
    exact ⟨_, rfl, ⟨by simp only; omega, by simp only; omega, by simp only; omega, by simp only; omega⟩, by simp only; omega⟩
  · right
    rw [if_neg hn]
    unfold strings_Join_k2 bldG
    rw [if_pos (by omega)]
    simp only [Option.bind_some]
    rw [show idx (x :: L) 0 = some x from rfl]
    simp only [Option.bind_some]
    have hx := hh x (by simp)
    unfold bldW
    rw [if_pos (by simp; omega)]
    simp only [Option.bind_some, List.nil_append]
    have hsl : slc (x :: L) 1 ((x :: L).length : Int) = some L := by
      rw [slc_in (by omega) (by simp; omega) (by omega)]
      congr 1
      rw [show (1 : Int).toNat = 1 from rfl, List.drop_succ_cons, List.drop_zero]
      exact List.take_of_length_le (by simp)
    rw [hsl]
    simp only [Option.bind_some]
    rw [Join_l2 sep hs L (by omega) (fun s h => hh s (List.mem_cons_of_mem _ h)) x hx]
    rfl
theorem Join_eq (sep : Str) (hs : sep.length ≤ 100) (L : List Str) (hL : L.length ≤ 1000) (hh : ∀ s ∈ L, s.length ≤ 100000) : strings_Join L sep = some (joinW sep L) := by
  unfold strings_Join
  match L, hL, hh with
  | [], _, _ => rfl
  | [x], _, _ =>
    rw [if_neg (by simp), if_pos (by simp)]
    show some x = some (x ++ [])
    rw [List.append_nil]
  | x :: y :: L, hL, hh =>
    have hl2 : ((x :: y :: L).length : Int) = L.length + 2 := by simp only [List.length_cons]; omega
    simp only [List.length_cons] at hL
    rw [if_neg (by rw [hl2]; omega), if_neg (by rw [hl2]; omega), hl2]
    have w1 : w64 ((L.length : Int) + 2 - 1) = (L.length : Int) + 1 := by rw [w64_in (by omega) (by omega)]; omega
    rw [w1]
    by_cases h0 : (0 : Int) < (sep.length : Int)
    · rw [if_pos h0, quo_pos (by omega) (by omega) (by omega)]
      simp only [Option.bind_some]
      have hdiv : (1000000 : Int) ≤ 9223372036854775807 / ((L.length : Int) + 1) := by
        rw [Int.le_ediv_iff_mul_le (by omega)]
        omega
      have hmul : (sep.length : Int) * ((L.length : Int) + 1) ≤ 100 * 1000 := Int.mul_le_mul (by omega) (by omega) (by omega) (by omega)
      have hmul0 : 0 ≤ (sep.length : Int) * ((L.length : Int) + 1) := Int.mul_nonneg (by omega) (by omega)
      rw [if_neg (by omega), w64_in (x := (sep.length : Int) * ((L.length : Int) + 1)) (by omega) (by omega), w64_in (by omega) (by omega)]
      unfold strings_Join_j1
      exact Join_l1 sep hs x (y :: L) (by simp only [List.length_cons]; omega) hh _ (by omega)
    · rw [if_neg h0]
      unfold strings_Join_j1
      exact Join_l1 sep hs x (y :: L) (by simp only [List.length_cons]; omega) hh _ (by omega)
/-- Numbers that can be written. -/
def NB (n : Int) : Prop := -9000000000000000000 ≤ n ∧ n ≤ 9000000000000000000
theorem itoa_nb {n : Int} (h : NB n) : itoaO n = some (Lib.itoa n) ∧ (Lib.itoa n).length ≤ 21 :=
  ⟨itoa_in (by unfold NB at h; omega) (by unfold NB at h; omega), Lib.itoa_length_le n (by unfold NB at h; omega) (by unfold NB at h; omega)⟩
end Go.Beacon

/- Rules, the plain mathematics: the times in which a rule fires, told by runs of one state and told moment by moment. No program in sight. -/
set_option linter.unusedVariables false
set_option linter.unusedSimpArgs false
namespace Go.Beacon
open Go Go.Eng

/-- A state has been for so long at a moment, from another one on. -/
def Held (σ : Int → Int) (E st long c t : Int) : Prop := c + long ≤ t ∧ t < E ∧ ∀ u, t - long ≤ u → u ≤ t → σ u = st
def LeastH (σ : Int → Int) (E st long c t : Int) : Prop := Held σ E st long c t ∧ ∀ t', t' < t → ¬ Held σ E st long c t'
theorem LeastH.uniq {σ : Int → Int} {E st long c t t' : Int} (h : LeastH σ E st long c t) (h' : LeastH σ E st long c t') : t = t' := by
  rcases Int.lt_trichotomy t t' with k | k | k
  · exact (h'.2 t k h.1).elim
  · exact k
  · exact (h.2 t' k h'.1).elim
/-- The times in which it fires, from a change on. -/
inductive FF (σ : Int → Int) (E on H off R : Int) : Bool → Int → List (Int × Int) → Prop
  | never {c : Int} : (∀ t, ¬ Held σ E on H c t) → FF σ E on H off R false c []
  | up {c t : Int} {ws : List (Int × Int)} : LeastH σ E on H c t → FF σ E on H off R true t ws → FF σ E on H off R false c ws
  | stay {c : Int} : (∀ t, ¬ Held σ E off R c t) → FF σ E on H off R true c [(c, E)]
  | down {c t : Int} {ws : List (Int × Int)} : LeastH σ E off R c t → FF σ E on H off R false t ws → FF σ E on H off R true c ((c, t) :: ws)
theorem FF.uniq {σ : Int → Int} {E on H off R : Int} {f : Bool} {c : Int} {ws : List (Int × Int)} (h : FF σ E on H off R f c ws) : ∀ {ws' : List (Int × Int)}, FF σ E on H off R f c ws' → ws = ws' := by
  induction h with
  | never hn =>
    intro ws' h'
    cases h' with
    | never _ => rfl
    | up hl _ => exact (hn _ hl.1).elim
  | up hl _ ih =>
    intro ws' h'
    cases h' with
    | never hn => exact (hn _ hl.1).elim
    | up hl' k => obtain rfl := hl.uniq hl'; exact ih k
  | stay hn =>
    intro ws' h'
    cases h' with
    | stay _ => rfl
    | down hl _ => exact (hn _ hl.1).elim
  | down hl _ ih =>
    intro ws' h'
    cases h' with
    | stay hn => exact (hn _ hl.1).elim
    | down hl' k => obtain rfl := hl.uniq hl'; rw [ih k]

/-- Runs of one state each, up to the end. -/
inductive Runs (σ : Int → Int) (E : Int) : Int → List (Int × Int × Int) → Prop
  | nil : Runs σ E E []
  | cons {a b s : Int} {rs : List (Int × Int × Int)} : a < b → b ≤ E → (∀ u, a ≤ u → u < b → σ u = s) → (∀ x, rs.head? = some x → x.2.2 ≠ s) → Runs σ E b rs → Runs σ E a ((a, b, s) :: rs)
theorem Runs.ne {σ : Int → Int} {E a s : Int} {rs : List (Int × Int × Int)} (h : Runs σ E a rs) (hs : ∀ x, rs.head? = some x → x.2.2 ≠ s) (ha : a < E) : σ a ≠ s := by
  cases h with
  | nil => omega
  | cons h1 h2 h3 _ _ => rw [h3 _ (Int.le_refl _) h1]; exact hs _ rfl
/-- What is known of a walk through the moments: since z the state has been s; no change was missed before q. -/
structure Sim (σ : Int → Int) (E want long : Int) (c z s q : Int) : Prop where
  hz : 0 ≤ z ∧ (z ≤ q ∨ z = 0)
  st : ∀ u, z ≤ u → u ≤ q → σ u = s
  br : z = 0 ∨ σ (z - 1) ≠ s
  hc : 0 ≤ c ∧ (c ≤ q ∨ c = 0)
  cz : s = want → c ≤ z
  no : ∀ t, t < q → ¬ Held σ E want long c t
theorem Sim.none {σ : Int → Int} {E want long c z s q p : Int} (h : Sim σ E want long c z s q) (hl : 0 ≤ long) (hs : ∀ u, q ≤ u → u < p → σ u = s) (ht : s = want → p ≤ z + long) (t : Int) (hp : t < p) : ¬ Held σ E want long c t := by
  intro k
  by_cases hq : t < q
  · exact h.no t hq k
  · have e1 := k.2.2 t (by omega) (Int.le_refl _)
    rw [hs t (by omega) hp] at e1
    have := ht e1
    have k1 := k.1
    by_cases h0 : z = 0
    · have := h.hc.1; omega
    · rcases h.br with hz | hz
      · exact h0 hz
      · refine hz ?_
        rw [k.2.2 (z - 1) (by omega) (by have := h.hz.2; omega), e1]
theorem Sim.go {σ : Int → Int} {E want long c z s q p : Int} (h : Sim σ E want long c z s q) (hl : 0 ≤ long) (hp : q ≤ p) (hp0 : 0 ≤ p) (hs : ∀ u, q ≤ u → u < p → σ u = s) (ht : s = want → p ≤ z + long) :
    Sim σ E want long c (if σ p = s then z else p) (σ p) p := by
  have hz := h.hz
  have hc := h.hc
  have hall : ∀ u, z ≤ u → u < p → σ u = s := fun u h1 h2 => by
    by_cases hu : u ≤ q
    · exact h.st u h1 hu
    · exact hs u (by omega) h2
  refine ⟨?_, fun u h1 h2 => ?_, ?_, ⟨hc.1, by omega⟩, fun hw => ?_, fun t htp => h.none hl hs ht t htp⟩
  · split <;> omega
  · split at h1
    · rename_i he
      by_cases hu : u = p
      · rw [hu]
      · rw [he]; exact hall u h1 (by omega)
    · obtain rfl : u = p := by omega
      rfl
  · split
    · rename_i he; rw [he]; exact h.br
    · rename_i he
      by_cases h0 : p = 0
      · exact .inl h0
      · right
        by_cases hzp : z ≤ p - 1
        · rw [hall (p - 1) hzp (by omega)]; exact fun e => he e.symm
        · exfalso
          apply he
          have : p = z := by omega
          rw [this]; exact h.st z (Int.le_refl _) (by omega)
  · split
    · rename_i he; exact h.cz (by rw [← he, hw])
    · omega
theorem Sim.flip {σ : Int → Int} {E want long c z s q want' long' : Int} (h : Sim σ E want long c z s q) (hl : 0 ≤ long) (hl' : 0 ≤ long') (hE : q < E) (hs : s = want) (ht : z + long = q) (hw : want ≠ want') :
    LeastH σ E want long c q ∧ Sim σ E want' long' q z s q := by
  have hz := h.hz
  have hc := h.hc
  refine ⟨⟨⟨by have := h.cz hs; omega, hE, fun u h1 h2 => by rw [h.st u (by omega) h2, hs]⟩, fun t ht => h.no t ht⟩, hz, h.st, h.br, ⟨by omega, .inl (Int.le_refl _)⟩, fun e => (hw (hs.symm.trans e)).elim, fun t ht k => ?_⟩
  have := k.1; omega
/-- The last run goes on. -/
theorem Runs.ext {σ : Int → Int} {a0 b b' s : Int} (hb : b < b') (hs : ∀ u, b ≤ u → u < b' → σ u = s) : ∀ {rs : List (Int × Int × Int)} {a : Int}, Runs σ b a (rs ++ [(a0, b, s)]) → Runs σ b' a (rs ++ [(a0, b', s)]) := by
  intro rs
  induction rs with
  | nil =>
    intro a h
    cases h with
    | cons h1 h2 h3 h4 h5 =>
      refine .cons (by omega) (Int.le_refl _) (fun u h6 h7 => ?_) (fun x hx => by simp at hx) .nil
      by_cases hu : u < b
      · exact h3 u h6 hu
      · exact hs u (by omega) h7
  | cons x r ih =>
    intro a h
    cases h with
    | @cons _ b1 s1 _ h1 h2 h3 h4 h5 =>
      refine .cons h1 (by omega) h3 (fun x hx => ?_) (ih h5)
      cases r with
      | nil =>
        obtain rfl : (a0, b', s) = x := by simpa using hx
        exact h4 (a0, b, s) (by simp)
      | cons y r' => exact h4 x hx
theorem Runs.last {σ : Int → Int} {E : Int} {x : Int × Int × Int} : ∀ {rs : List (Int × Int × Int)} {a : Int}, Runs σ E a (rs ++ [x]) → x.2.1 = E
  | [], a, h => by cases h with | cons _ _ _ _ h5 => cases h5; rfl
  | y :: r, a, h => by cases h with | cons _ _ _ _ h5 => exact Runs.last h5
end Go.Beacon

/- Windows of samples that go on, with their sums and with those elements that can become the least one. No program in sight. -/
set_option linter.unusedVariables false
set_option linter.unusedSimpArgs false
namespace Go.Beacon
open Go Go.Eng

/-- Rising in time. -/
def RiseW {α : Type} (at_ : α → Int) (l : List α) : Prop := l.Pairwise (fun a b => at_ a < at_ b)
/-- The elements of which all later ones are greater. -/
def dqF {α : Type} (f : α → Int) : List α → List α
  | [] => []
  | x :: r => if r.all (fun y => decide (f x < f y)) then x :: dqF f r else dqF f r
theorem dqF_mem {α : Type} {f : α → Int} {x : α} : ∀ {l : List α}, x ∈ dqF f l → x ∈ l
  | [], h => h
  | y :: r, h => by
    simp only [dqF] at h
    split at h
    · rcases List.mem_cons.1 h with rfl | h
      · simp
      · exact List.mem_cons_of_mem _ (dqF_mem h)
    · exact List.mem_cons_of_mem _ (dqF_mem h)
theorem dqF_snoc {α : Type} (f : α → Int) (s : α) : ∀ (l : List α), dqF f (l ++ [s]) = (dqF f l).filter (fun x => decide (f x < f s)) ++ [s]
  | [] => by simp [dqF]
  | x :: r => by
    simp only [List.cons_append, dqF, List.all_append, List.all_cons, List.all_nil, Bool.and_true, dqF_snoc f s r]
    by_cases h1 : r.all (fun y => decide (f x < f y)) = true
    · by_cases h2 : f x < f s
      · simp [h1, h2]
      · have hr : (dqF f r).filter (fun x => decide (f x < f s)) = [] ∨ True := .inr trivial
        simp only [h1, h2, decide_false, Bool.and_false, Bool.false_eq_true, if_false, if_true, List.filter_cons]
    · simp [h1]
/-- They rise. -/
theorem dqF_rise {α : Type} (f : α → Int) : ∀ (l : List α), (dqF f l).Pairwise (fun a b => f a < f b)
  | [] => List.Pairwise.nil
  | x :: r => by
    simp only [dqF]
    split
    · rename_i h
      refine List.pairwise_cons.2 ⟨fun y hy => ?_, dqF_rise f r⟩
      simpa using List.all_eq_true.1 h y (dqF_mem hy)
    · exact dqF_rise f r
theorem dqF_ne {α : Type} (f : α → Int) : ∀ {l : List α}, l ≠ [] → dqF f l ≠ []
  | [], h => (h rfl).elim
  | [x], _ => by simp [dqF]
  | x :: y :: r, _ => by
    have := dqF_ne f (l := y :: r) (by simp)
    simp only [dqF] at this ⊢
    split
    · simp
    · exact this
/-- The first of them is a least one. -/
theorem dqF_head {α : Type} (f : α → Int) {x : α} : ∀ {l : List α}, (dqF f l).head? = some x → x ∈ l ∧ ∀ y ∈ l, f x ≤ f y
  | [], h => by simp [dqF] at h
  | z :: r, h => by
    simp only [dqF] at h
    split at h
    · rename_i ha
      obtain rfl : z = x := by simpa using h
      refine ⟨by simp, fun y hy => ?_⟩
      rcases List.mem_cons.1 hy with rfl | hy
      · exact Int.le_refl _
      · have := List.all_eq_true.1 ha y hy
        simp at this; omega
    · rename_i ha
      obtain ⟨h1, h2⟩ := dqF_head f h
      refine ⟨List.mem_cons_of_mem _ h1, fun y hy => ?_⟩
      rcases List.mem_cons.1 hy with rfl | hy
      · simp only [List.all_eq_true, decide_eq_true_eq] at ha
        have ⟨w, hw⟩ := Classical.not_forall.1 ha
        obtain ⟨hw1, hw2⟩ := Classical.not_imp.1 hw
        have := h2 w hw1
        omega
      · exact h2 y hy
/-- The front goes. -/
theorem dqF_tail {α : Type} [DecidableEq α] (f : α → Int) {at_ : α → Int} {x : α} {r : List α} (h : RiseW at_ (x :: r)) : dqF f r = if (dqF f (x :: r)).head? = some x then (dqF f (x :: r)).tail else dqF f (x :: r) := by
  simp only [dqF]
  split
  · simp
  · rw [if_neg]
    intro e
    have hx := (dqF_head f e).1
    have := List.rel_of_pairwise_cons h hx
    omega
/-- A rising list, cut at a bound from behind. -/
theorem filter_rise {α : Type} {f : α → Int} {b : Int} : ∀ {l : List α} {x : α}, (l ++ [x]).Pairwise (fun a b => f a < f b) → (l ++ [x]).filter (fun y => decide (f y < b)) = if f x < b then l ++ [x] else l.filter (fun y => decide (f y < b)) := by
  intro l x h
  rw [List.filter_append]
  split
  · rename_i hb
    have : l.filter (fun y => decide (f y < b)) = l := List.filter_eq_self.2 fun y hy => by
      have := (List.pairwise_append.1 h).2.2 y hy x (by simp)
      simp; omega
    rw [this]; simp [hb]
  · rename_i hb
    simp [hb]

/-- The samples that stand in the window at a moment. -/
def winAt {α : Type} (at_ : α → Int) (long t : Int) (l : List α) : List α := l.filter (fun x => decide (t - long < at_ x ∧ at_ x ≤ t))
/-- Old ones go. -/
def dropOld {α : Type} (at_ : α → Int) (long t : Int) : List α → List α
  | [] => []
  | x :: r => if at_ x + long ≤ t then dropOld at_ long t r else x :: r
theorem dropOld_suf {α : Type} (at_ : α → Int) (long t : Int) : ∀ (l : List α), (dropOld at_ long t l) <:+ l
  | [] => List.suffix_refl _
  | x :: r => by
    simp only [dropOld]
    split
    · exact (dropOld_suf at_ long t r).trans (List.suffix_cons _ _)
    · exact List.suffix_refl _
theorem dropOld_filter {α : Type} {at_ : α → Int} {long t : Int} : ∀ {l : List α}, RiseW at_ l → dropOld at_ long t l = l.filter (fun x => decide (t - long < at_ x))
  | [], _ => rfl
  | x :: r, h => by
    have hr := List.pairwise_cons.1 h
    simp only [dropOld]
    split
    · rename_i hx
      rw [List.filter_cons_of_neg (by simp; omega)]
      exact dropOld_filter hr.2
    · rename_i hx
      rw [List.filter_cons_of_pos (by simp; omega)]
      rw [List.filter_eq_self.2]
      intro y hy
      have := hr.1 y hy
      simp; omega
theorem winAt_split {α : Type} {at_ : α → Int} {long t : Int} {l1 l2 : List α} (h1 : ∀ x ∈ l1, at_ x ≤ t) (h2 : ∀ x ∈ l2, t < at_ x) : winAt at_ long t (l1 ++ l2) = l1.filter (fun x => decide (t - long < at_ x)) := by
  unfold winAt
  rw [List.filter_append]
  have e2 : l2.filter (fun x => decide (t - long < at_ x ∧ at_ x ≤ t)) = [] := List.filter_eq_nil_iff.2 fun x hx => by
    have := h2 x hx
    simp; omega
  rw [e2, List.append_nil]
  exact List.filter_congr fun x hx => by
    have := h1 x hx
    simp [this]
/-- The window that is kept goes from a moment to a later one. -/
theorem filter_later {α : Type} {at_ : α → Int} {long q t : Int} {l : List α} (h : q ≤ t) : (l.filter (fun x => decide (q - long < at_ x))).filter (fun x => decide (t - long < at_ x)) = l.filter (fun x => decide (t - long < at_ x)) := by
  rw [List.filter_filter]
  exact List.filter_congr fun x hx => by
    by_cases h1 : t - long < at_ x
    · have : q - long < at_ x := by omega
      simp [h1, this]
    · simp [h1]
/-- Nothing goes while the first one is not too old. -/
theorem filter_same {α : Type} {at_ : α → Int} {long t : Int} {l : List α} (h : ∀ x ∈ l, t - long < at_ x) : l.filter (fun x => decide (t - long < at_ x)) = l :=
  List.filter_eq_self.2 fun x hx => by simpa using h x hx
theorem RiseW.filter {α : Type} {at_ : α → Int} {l : List α} (h : RiseW at_ l) (p : α → Bool) : RiseW at_ (l.filter p) := List.Pairwise.filter p h
def sumV {α : Type} (f : α → Int) (l : List α) : Int := (l.map f).sum
theorem sumV_cons {α : Type} (f : α → Int) (x : α) (r : List α) : sumV f (x :: r) = f x + sumV f r := by simp [sumV]
theorem sumV_snoc {α : Type} (f : α → Int) (x : α) (r : List α) : sumV f (r ++ [x]) = sumV f r + f x := by simp [sumV]
theorem sumV_bound {α : Type} {f : α → Int} {B : Int} : ∀ {l : List α}, (∀ x ∈ l, -B ≤ f x ∧ f x ≤ B) → -(B * l.length) ≤ sumV f l ∧ sumV f l ≤ B * l.length
  | [], _ => by simp [sumV]
  | x :: r, h => by
    have h1 := h x (by simp)
    have h2 := sumV_bound (l := r) (fun y hy => h y (List.mem_cons_of_mem _ hy))
    rw [sumV_cons]
    simp only [List.length_cons, Int.natCast_add, Int.mul_add]
    omega
end Go.Beacon

/- Loops over lists: folds, invariants. No program in sight. -/
set_option linter.unusedVariables false
set_option linter.unusedSimpArgs false
namespace Go.Beacon
open Go Go.Eng
/-- A loop over a list that never ends early: a fold. -/
theorem iter_foldl {α σ A X : Type} (xs : List α) (mk : σ → Int → X) (f : X → Option (X ⊕ A)) (stp : σ → α → σ) (Inv : Int → σ → Prop) (E : σ → Option A)
    (h1 : ∀ s (i : Int) x, 0 ≤ i → i < xs.length → idx xs i = some x → Inv i s → f (mk s i) = some (.inl (mk (stp s x) (i + 1))) ∧ Inv (i + 1) (stp s x))
    (h2 : ∀ s, Inv xs.length s → f (mk s xs.length) = Option.map .inr (E s)) (s : σ) (h0 : Inv 0 s) : iter f (mk s 0) = E (xs.foldl stp s) := by
  have key : ∀ (n : Nat) (s : σ) (i : Int), 0 ≤ i → i + n = xs.length → Inv i s → iter f (mk s i) = E ((xs.drop i.toNat).foldl stp s) := by
    intro n
    induction n with
    | zero =>
      intro s i hi hn hv
      have : i = xs.length := by omega
      subst this
      rw [iter_eq, h2 s hv, map_inr_after]
      simp
    | succ n ih =>
      intro s i hi hn hv
      obtain ⟨x, hx, _, hd⟩ := idx_lt xs hi (by omega)
      obtain ⟨e1, e2⟩ := h1 s i x hi (by omega) hx hv
      rw [iter_eq, e1]
      simp only [Option.bind_some, after_inl]
      rw [ih _ _ (by omega) (by omega) e2, hd]
      rfl
  have := key xs.length s 0 (by omega) (by omega) h0
  simpa using this
theorem take_succ {α : Type} {xs : List α} {i : Int} {x : α} (h0 : 0 ≤ i) (h : idx xs i = some x) : xs.take (i + 1).toNat = xs.take i.toNat ++ [x] := by
  obtain ⟨_, h1, h2⟩ := idx_some h
  rw [show (i + 1).toNat = i.toNat + 1 by omega, List.take_add_one, h2]; rfl
end Go.Beacon

/- A rule followed moment by moment: what each step of a track computes. No program in sight. -/
set_option linter.unusedVariables false
set_option linter.unusedSimpArgs false
namespace Go.Beacon
open Go Go.Eng

abbrev EndM : Int := 345686400000
abbrev aS (x : Rule_sample) : Int := x.at_
abbrev vS (x : Rule_sample) : Int := x.value_
abbrev vN (x : Rule_sample) : Int := -x.value_
/-- A sample and a rule that are right. -/
def SmO (x : Rule_sample) : Prop := 0 ≤ x.at_ ∧ x.at_ ≤ 345686399999 ∧ -1000000000 ≤ x.value_ ∧ x.value_ ≤ 1000000000
structure RuO (r : Rule) : Prop where
  long : 1 ≤ r.Long ∧ r.Long ≤ 2592000000
  on : -1000000000 ≤ r.On ∧ r.On ≤ 1000000000
  off : -1000000000 ≤ r.Off ∧ r.Off ≤ 1000000000
  hold : 0 ≤ r.Hold ∧ r.Hold ≤ 2592000000
  rest : 0 ≤ r.Rest ∧ r.Rest ≤ 2592000000
  empty : 0 ≤ r.Empty ∧ r.Empty ≤ 2
  agg : 1 ≤ r.Agg ∧ r.Agg ≤ 6
def WiO (W : List Rule_sample) : Prop := RiseW aS W ∧ (∀ x ∈ W, SmO x) ∧ W.length ≤ 5000
theorem WiO.tail {x : Rule_sample} {W : List Rule_sample} (h : WiO (x :: W)) : WiO W := ⟨(List.pairwise_cons.1 h.1).2, fun y hy => h.2.1 y (List.mem_cons_of_mem _ hy), by have := h.2.2; simp at this; omega⟩
theorem WiO.suf {V W : List Rule_sample} (h : WiO W) (k : V <:+ W) : WiO V := ⟨h.1.sublist k.sublist, fun y hy => h.2.1 y (k.subset hy), Nat.le_trans k.length_le h.2.2⟩
theorem sum_B {W : List Rule_sample} (h : WiO W) : -5000000000000 ≤ sumV vS W ∧ sumV vS W ≤ 5000000000000 := by
  have h1 := sumV_bound (f := vS) (B := 1000000000) (l := W) (fun x hx => (h.2.1 x hx).2.2)
  have := h.2.2
  omega
def fstV (W : List Rule_sample) : Int := (W.head?.map vS).getD 0
def lstV (W : List Rule_sample) : Int := (W.getLast?.map vS).getD 0
def mnV (W : List Rule_sample) : Int := ((dqF vS W).head?.map vS).getD 0
def mxV (W : List Rule_sample) : Int := ((dqF vN W).head?.map vS).getD 0
def valW (r : Rule) (W : List Rule_sample) : Int := if r.Agg = 1 then lstV W else if r.Agg = 2 then mnV W else if r.Agg = 3 then mxV W else if r.Agg = 4 then sumV vS W else if r.Agg = 5 then W.length else if r.Agg = 6 then lstV W - fstV W else 0
def byW (r : Rule) (W : List Rule_sample) : Int := if r.Agg = 4 then W.length else 1
def cmpS (r : Rule) (v k : Int) : Int := if r.Above = true then (if r.On * k ≤ v then 1 else if v < r.Off * k then 2 else 0) else (if v ≤ r.On * k then 1 else if r.Off * k < v then 2 else 0)
def empS (r : Rule) : Int := if r.Empty = 0 then 0 else if r.Empty = 1 then 2 else 1
/-- How a rule is with a window. -/
def stW (r : Rule) (W : List Rule_sample) : Int := if W = [] ∧ r.Agg ≠ 5 then empS r else cmpS r (valW r W) (byW r W)
/-- A track with a window. -/
def mkT (r : Rule) (W : List Rule_sample) (s z : Int) (f : Bool) (b : Int) : Rule_track := ⟨r, W, dqF vS W, dqF vN W, sumV vS W, s, z, f, b⟩

theorem idx_hd {α : Type} (x : α) (l : List α) : idx (x :: l) (0 : Int) = some x := by unfold idx; simp
theorem idx_end {α : Type} (l : List α) (x : α) : idx (l ++ [x]) ((l ++ [x]).length - 1 : Int) = some x := by
  unfold idx
  rw [if_pos (by simp)]
  simp
theorem slc_tl {α : Type} (x : α) (l : List α) : slc (x :: l) (1 : Int) ((x :: l).length : Int) = some l := by
  rw [slc_in (by omega) (by simp; omega) (by omega)]
  simp
theorem slc_init {α : Type} (l : List α) (x : α) : slc (l ++ [x]) (0 : Int) ((l ++ [x]).length - 1 : Int) = some l := by
  rw [slc_in (by omega) (by simp) (by omega)]
  simp
theorem emp_idx {r : Rule} (h : RuO r) : idx [(0 : Int), (2 : Int), (1 : Int)] r.Empty = some (empS r) := by
  have := h.empty
  unfold empS
  rcases (show r.Empty = 0 ∨ r.Empty = 1 ∨ r.Empty = 2 by omega) with e | e | e <;> rw [e] <;> rfl
theorem now_cmp {p : Rule_track} (h : RuO p.rule_) {v k : Int} (hv : -100000000000000 ≤ v ∧ v ≤ 100000000000000) (hk : 0 ≤ k ∧ k ≤ 5000) : rule_track_now_j2 p v k = some (cmpS p.rule_ v k) := by
  have h1 := h.on
  have h2 := h.off
  have e1 : -5000000000000 ≤ p.rule_.On * k ∧ p.rule_.On * k ≤ 5000000000000 := by
    constructor
    · have := Int.mul_le_mul_of_nonneg_right h1.1 hk.1; omega
    · have := Int.mul_le_mul_of_nonneg_right h1.2 hk.1; omega
  have e2 : -5000000000000 ≤ p.rule_.Off * k ∧ p.rule_.Off * k ≤ 5000000000000 := by
    constructor
    · have := Int.mul_le_mul_of_nonneg_right h2.1 hk.1; omega
    · have := Int.mul_le_mul_of_nonneg_right h2.2 hk.1; omega
  unfold rule_track_now_j2 rule_track_now_j8 cmpS
  rw [w64_in (x := p.rule_.On * k) (by omega) (by omega), w64_in (x := p.rule_.Off * k) (by omega) (by omega)]
  by_cases ha : p.rule_.Above = true
  · simp only [ha, Bool.not_true, Bool.false_eq_true, if_false, if_true]
    split
    · rfl
    · split <;> rfl
  · rw [w64_in (by omega) (by omega), w64_in (by omega) (by omega), w64_in (by omega) (by omega)]
    simp only [Bool.not_eq_true] at ha
    simp only [ha, Bool.not_false, Bool.false_eq_true, if_false, if_true]
    by_cases c1 : v ≤ p.rule_.On * k
    · rw [if_pos (by omega), if_pos c1]
    · rw [if_neg (by omega), if_neg c1]
      by_cases c2 : p.rule_.Off * k < v
      · rw [if_pos (by omega), if_pos c2]
      · rw [if_neg (by omega), if_neg c2]
theorem dq_hd {f : Rule_sample → Int} {W : List Rule_sample} (h : W ≠ []) : ∃ x L, dqF f W = x :: L ∧ x ∈ W := by
  have := dqF_ne f h
  cases hd : dqF f W with
  | nil => exact (this hd).elim
  | cons x L => exact ⟨x, L, rfl, (dqF_head f (by rw [hd]; rfl)).1⟩
theorem val_B {r : Rule} {W : List Rule_sample} (h : WiO W) : -100000000000000 ≤ valW r W ∧ valW r W ≤ 100000000000000 := by
  have hs := sum_B h
  have hl := h.2.2
  have k1 : -1000000000 ≤ lstV W ∧ lstV W ≤ 1000000000 := by
    unfold lstV
    cases hg : W.getLast? with
    | none => simp
    | some x => have := (h.2.1 x (List.mem_of_getLast? hg)).2.2; simpa using this
  have k2 : -1000000000 ≤ fstV W ∧ fstV W ≤ 1000000000 := by
    unfold fstV
    cases hg : W.head? with
    | none => simp
    | some x => have := (h.2.1 x (List.mem_of_head? hg)).2.2; simpa using this
  have k3 : ∀ f : Rule_sample → Int, -1000000000 ≤ ((dqF f W).head?.map vS).getD 0 ∧ ((dqF f W).head?.map vS).getD 0 ≤ 1000000000 := by
    intro f
    cases hg : (dqF f W).head? with
    | none => simp
    | some x => have := (h.2.1 x (dqF_head f hg).1).2.2; simpa using this
  have k4 := k3 vS
  have k5 := k3 vN
  unfold valW mnV mxV
  repeat' split
  all_goals omega
theorem now_eq {r : Rule} (h : RuO r) {W : List Rule_sample} (hw : WiO W) (s z : Int) (f : Bool) (b : Int) : rule_track_now (mkT r W s z f b) = some (stW r W) := by
  have hB := val_B (r := r) hw
  have hl := hw.2.2
  unfold rule_track_now rule_track_now_j1 stW
  by_cases he : W = []
  · subst he
    by_cases h5 : r.Agg = 5
    · simp only [mkT, List.length_nil, Int.ofNat_zero, h5, ne_eq, not_true_eq_false, decide_true, decide_false, Bool.and_false, Bool.false_eq_true, if_false, and_false]
      simp only [show ¬ ((5 : Int) = 1) by decide, show ¬ ((5 : Int) = 2) by decide, show ¬ ((5 : Int) = 3) by decide, show ¬ ((5 : Int) = 4) by decide, if_false, if_true]
      unfold rule_track_now_j6 rule_track_now_j5 rule_track_now_j4 rule_track_now_j3
      rw [now_cmp (p := ⟨r, [], dqF vS [], dqF vN [], sumV vS [], s, z, f, b⟩) h (by simp) (by simp)]
      simp [valW, byW, h5]
    · simp only [mkT, List.length_nil, Int.ofNat_zero, h5, ne_eq, not_false_eq_true, decide_true, Bool.and_self, if_true, and_self, emp_idx h, Option.bind_some]
  · rw [show (if W = [] ∧ r.Agg ≠ 5 then empS r else cmpS r (valW r W) (byW r W)) = cmpS r (valW r W) (byW r W) from if_neg (fun c => he c.1)]
    have hpos : 0 < W.length := List.length_pos_iff.2 he
    rw [if_neg (by simp [mkT, he])]
    have hlast : ∃ l x, W = l ++ [x] := ⟨W.dropLast, W.getLast he, (List.dropLast_concat_getLast he).symm⟩
    obtain ⟨l, x, hx⟩ := hlast
    have hlv : lstV W = x.value_ := by rw [hx]; simp [lstV]
    have hli : idx W (w64 ((W.length : Int) - 1)) = some x := by
      rw [w64_in (by omega) (by omega), hx]; exact idx_end l x
    have ha := h.agg
    obtain ⟨y, W', hy⟩ : ∃ y W', W = y :: W' := by
      cases W with
      | nil => exact (he rfl).elim
      | cons y W' => exact ⟨y, W', rfl⟩
    have hfi : idx W (0 : Int) = some y := by rw [hy]; exact idx_hd y W'
    have hfv : fstV W = y.value_ := by rw [hy]; rfl
    have hxB := (hw.2.1 x (by rw [hx]; simp)).2.2
    have hyB := (hw.2.1 y (by rw [hy]; simp)).2.2
    rcases (show r.Agg = 1 ∨ r.Agg = 2 ∨ r.Agg = 3 ∨ r.Agg = 4 ∨ r.Agg = 5 ∨ r.Agg = 6 by omega) with e | e | e | e | e | e
    · simp only [mkT, e, if_true, hli, Option.bind_some]
      rw [now_cmp (p := ⟨r, W, dqF vS W, dqF vN W, sumV vS W, s, z, f, b⟩) h (by omega) (by simp)]
      simp [valW, byW, e, hlv]
    · obtain ⟨q, L, hq, hm⟩ := dq_hd (f := vS) he
      have hqB := (hw.2.1 q hm).2.2
      simp only [mkT, e, show ¬ ((2 : Int) = 1) by decide, if_false, if_true, hq, idx_hd, Option.bind_some]
      unfold rule_track_now_j3
      rw [now_cmp (p := ⟨r, W, q :: L, dqF vN W, sumV vS W, s, z, f, b⟩) h (by omega) (by simp)]
      simp [valW, byW, e, mnV, hq]
    · obtain ⟨q, L, hq, hm⟩ := dq_hd (f := vN) he
      have hqB := (hw.2.1 q hm).2.2
      simp only [mkT, e, show ¬ ((3 : Int) = 1) by decide, show ¬ ((3 : Int) = 2) by decide, if_false, if_true, hq, idx_hd, Option.bind_some]
      unfold rule_track_now_j4 rule_track_now_j3
      rw [now_cmp (p := ⟨r, W, dqF vS W, q :: L, sumV vS W, s, z, f, b⟩) h (by omega) (by simp)]
      simp [valW, byW, e, mxV, hq]
    · have hs := sum_B hw
      simp only [mkT, e, show ¬ ((4 : Int) = 1) by decide, show ¬ ((4 : Int) = 2) by decide, show ¬ ((4 : Int) = 3) by decide, if_false, if_true]
      unfold rule_track_now_j5 rule_track_now_j4 rule_track_now_j3
      rw [now_cmp (p := ⟨r, W, dqF vS W, dqF vN W, sumV vS W, s, z, f, b⟩) h (by omega) (by omega)]
      simp [valW, byW, e]
    · simp only [mkT, e, show ¬ ((5 : Int) = 1) by decide, show ¬ ((5 : Int) = 2) by decide, show ¬ ((5 : Int) = 3) by decide, show ¬ ((5 : Int) = 4) by decide, if_false, if_true]
      unfold rule_track_now_j6 rule_track_now_j5 rule_track_now_j4 rule_track_now_j3
      rw [now_cmp (p := ⟨r, W, dqF vS W, dqF vN W, sumV vS W, s, z, f, b⟩) h (by omega) (by omega)]
      simp [valW, byW, e]
    · simp only [mkT, e, show ¬ ((6 : Int) = 1) by decide, show ¬ ((6 : Int) = 2) by decide, show ¬ ((6 : Int) = 3) by decide, show ¬ ((6 : Int) = 4) by decide, show ¬ ((6 : Int) = 5) by decide, if_false, if_true, hli, hfi, Option.bind_some]
      unfold rule_track_now_j7 rule_track_now_j6 rule_track_now_j5 rule_track_now_j4 rule_track_now_j3
      rw [w64_in (by omega) (by omega), now_cmp (p := ⟨r, W, dqF vS W, dqF vN W, sumV vS W, s, z, f, b⟩) h (by omega) (by simp)]
      simp [valW, byW, e, hlv, hfv]
theorem dq_step {f : Rule_sample → Int} {x y : Rule_sample} {W L : List Rule_sample} (h : RiseW aS (x :: W)) (hd : dqF f (x :: W) = y :: L) : dqF f W = if y = x then L else y :: L := by
  rw [dqF_tail f h, hd]
  simp
theorem drop_loop (p : Rule_track) (hr : RuO p.rule_) {at_ : Int} : ∀ {W : List Rule_sample}, WiO W →
    rule_track_drop_l1 p at_ W (dqF vS W) (dqF vN W) (sumV vS W) = some (mkT p.rule_ (dropOld aS p.rule_.Long at_ W) p.state_ p.since_ p.firing_ p.began_) := by
  intro W
  induction W with
  | nil =>
    intro _
    unfold rule_track_drop_l1
    rw [iter_eq]
    unfold rule_track_drop_b1 rule_track_drop_j1
    simp [dropOld, mkT, map_inr_after]
  | cons x W ih =>
    intro hw
    have hx := hw.2.1 x (by simp)
    have hl := hr.long
    obtain ⟨hx1, hx2, hx3⟩ := hx
    have hb0 : rule_track_drop_b1 p at_ (x :: W) (dqF vS (x :: W)) (dqF vN (x :: W)) (sumV vS (x :: W)) = rule_track_drop_j1 p (x :: W) (dqF vS (x :: W)) (dqF vN (x :: W)) (sumV vS (x :: W)) (decide (x.at_ + p.rule_.Long ≤ at_)) := by
      unfold rule_track_drop_b1
      rw [if_pos (by simp), idx_hd]
      simp only [Option.bind_some]
      rw [w64_in (by omega) (by omega)]
    unfold rule_track_drop_l1
    rw [iter_eq]
    dsimp only
    rw [hb0]
    by_cases hd : x.at_ + p.rule_.Long ≤ at_
    · obtain ⟨y1, L1, e1, _⟩ := dq_hd (f := vS) (W := x :: W) (by simp)
      obtain ⟨y2, L2, e2, _⟩ := dq_hd (f := vN) (W := x :: W) (by simp)
      have s1 := dq_step hw.1 e1
      have s2 := dq_step hw.1 e2
      have hs1 := sum_B hw.tail
      have hs2 := sum_B hw
      have key : rule_track_drop_j2 (y2 :: L2) (sumV vS (x :: W)) x W (dqF vS W) = some (.inl (W, dqF vS W, dqF vN W, sumV vS W)) := by
        unfold rule_track_drop_j2 rule_track_drop_j3
        simp only [idx_hd, Option.bind_some, slc_tl]
        have hsum : w64 (sumV vS (x :: W) - x.value_) = sumV vS W := by
          rw [sumV_cons] at hs2 ⊢
          rw [w64_in (by simp only [vS] at *; omega) (by simp only [vS] at *; omega)]
          simp only [vS] <;> omega
        rw [hsum, s2]
        by_cases c : y2 = x
        · rw [if_pos c, if_pos c]
        · rw [if_neg c, if_neg c]
      have goal : (if y1 = x then rule_track_drop_j2 (y2 :: L2) (sumV vS (x :: W)) x W L1 else rule_track_drop_j2 (y2 :: L2) (sumV vS (x :: W)) x W (y1 :: L1)) = some (.inl (W, dqF vS W, dqF vN W, sumV vS W)) := by
        rw [← key, s1]
        by_cases c : y1 = x
        · rw [if_pos c, if_pos c]
        · rw [if_neg c, if_neg c]
      have hj : rule_track_drop_j1 p (x :: W) (dqF vS (x :: W)) (dqF vN (x :: W)) (sumV vS (x :: W)) (decide (x.at_ + p.rule_.Long ≤ at_)) = some (.inl (W, dqF vS W, dqF vN W, sumV vS W)) := by
        unfold rule_track_drop_j1
        rw [if_pos (by simpa using hd), e1, e2]
        simp only [idx_hd, Option.bind_some, slc_tl]
        exact goal
      rw [hj]
      simp only [Option.bind_some, after_inl]
      have := ih hw.tail
      unfold rule_track_drop_l1 at this
      rw [this]
      simp only [dropOld]
      rw [if_pos hd]
    · unfold rule_track_drop_j1
      rw [if_neg (by simpa using hd), map_inr_after]
      simp only [dropOld]
      rw [if_neg hd]; rfl
theorem drop_eq {r : Rule} (h : RuO r) {W : List Rule_sample} (hw : WiO W) (s z : Int) (f : Bool) (b at_ : Int) : rule_track_drop (mkT r W s z f b) at_ = some (mkT r (dropOld aS r.Long at_ W) s z f b) :=
  drop_loop (mkT r W s z f b) h hw
theorem update_eq {r : Rule} (h : RuO r) {W : List Rule_sample} (hw : WiO W) (s z : Int) (f : Bool) (b at_ : Int) : rule_track_update (mkT r W s z f b) at_ = some (mkT r W (stW r W) (if stW r W = s then z else at_) f b) := by
  unfold rule_track_update rule_track_update_j1
  rw [now_eq h hw]
  simp only [Option.bind_some]
  by_cases c : stW r W = s
  · rw [if_neg (by simpa [mkT] using c), if_pos c]; simp [mkT, c]
  · rw [if_pos (by simpa [mkT] using c), if_neg c]; rfl
theorem put_l2_eq (p : Rule_track) (x : Rule_sample) (v : Rule_track) (l9 l19 : List Rule_sample) : ∀ (n : Nat) (L : List Rule_sample), L.length = n → n ≤ 5000 → L.Pairwise (fun a b => vN a < vN b) → rule_track_put_l2 p x v l9 l19 L (L.length : Int) = rule_track_put_k3 p x v l9 l19 (L.filter (fun y => decide (vN y < vN x))) := by
  intro n
  induction n with
  | zero =>
    intro L hL _ _
    obtain rfl : L = [] := List.eq_nil_of_length_eq_zero hL
    have hb : rule_track_put_b2 p x v l9 l19 [] (([] : List Rule_sample).length : Int) = Option.map .inr (rule_track_put_k3 p x v l9 l19 []) := by
      unfold rule_track_put_b2 rule_track_put_j2
      rw [if_neg (by simp), if_neg (by simp)]
    unfold rule_track_put_l2
    rw [iter_eq]
    dsimp only
    rw [hb, map_inr_after]
    rfl
  | succ n ih =>
    intro L hL hn hp
    have hne : L ≠ [] := by intro e; rw [e] at hL; simp at hL
    obtain ⟨l, y, rfl⟩ : ∃ l y, L = l ++ [y] := ⟨L.dropLast, L.getLast hne, (List.dropLast_concat_getLast hne).symm⟩
    have hl : l.length = n := by simpa using hL
    have e1 : w64 (((l ++ [y]).length : Int) - 1) = ((l ++ [y]).length : Int) - 1 := w64_in (by omega) (by omega)
    have hb : rule_track_put_b2 p x v l9 l19 (l ++ [y]) ((l ++ [y]).length : Int) = rule_track_put_j2 p x v l9 l19 (l ++ [y]) ((l ++ [y]).length : Int) (decide (y.value_ ≤ x.value_)) := by
      unfold rule_track_put_b2
      rw [if_pos (by omega), e1, idx_end]
      simp only [Option.bind_some]
    unfold rule_track_put_l2
    rw [iter_eq]
    dsimp only
    rw [hb, filter_rise hp]
    by_cases c : y.value_ ≤ x.value_
    · have hj : rule_track_put_j2 p x v l9 l19 (l ++ [y]) ((l ++ [y]).length : Int) (decide (y.value_ ≤ x.value_)) = some (.inl (l, ((l ++ [y]).length : Int) - 1)) := by
        unfold rule_track_put_j2
        rw [if_pos (by simpa using c), e1, slc_init]
        rfl
      rw [hj]
      simp only [Option.bind_some, after_inl]
      have := ih l hl (by omega) (List.pairwise_append.1 hp).1
      unfold rule_track_put_l2 at this
      rw [show ((l ++ [y]).length : Int) - 1 = (l.length : Int) by simp, this, if_neg (by simp only [vN]; omega)]
    · have hj : rule_track_put_j2 p x v l9 l19 (l ++ [y]) ((l ++ [y]).length : Int) (decide (y.value_ ≤ x.value_)) = Option.map .inr (rule_track_put_k3 p x v l9 l19 (l ++ [y])) := by
        unfold rule_track_put_j2
        rw [if_neg (by simpa using c)]
      rw [hj, map_inr_after, if_pos (by simp only [vN]; omega)]
theorem put_l1_eq (p : Rule_track) (x : Rule_sample) (v : Rule_track) (l9 : List Rule_sample) : ∀ (n : Nat) (L : List Rule_sample), L.length = n → n ≤ 5000 → L.Pairwise (fun a b => vS a < vS b) → rule_track_put_l1 p x v l9 L (L.length : Int) = rule_track_put_k4 p x v l9 (L.filter (fun y => decide (vS y < vS x))) := by
  intro n
  induction n with
  | zero =>
    intro L hL _ _
    obtain rfl : L = [] := List.eq_nil_of_length_eq_zero hL
    have hb : rule_track_put_b1 p x v l9 [] (([] : List Rule_sample).length : Int) = Option.map .inr (rule_track_put_k4 p x v l9 []) := by
      unfold rule_track_put_b1 rule_track_put_j1
      rw [if_neg (by simp), if_neg (by simp)]
    unfold rule_track_put_l1
    rw [iter_eq]
    dsimp only
    rw [hb, map_inr_after]
    rfl
  | succ n ih =>
    intro L hL hn hp
    have hne : L ≠ [] := by intro e; rw [e] at hL; simp at hL
    obtain ⟨l, y, rfl⟩ : ∃ l y, L = l ++ [y] := ⟨L.dropLast, L.getLast hne, (List.dropLast_concat_getLast hne).symm⟩
    have hl : l.length = n := by simpa using hL
    have e1 : w64 (((l ++ [y]).length : Int) - 1) = ((l ++ [y]).length : Int) - 1 := w64_in (by omega) (by omega)
    have hb : rule_track_put_b1 p x v l9 (l ++ [y]) ((l ++ [y]).length : Int) = rule_track_put_j1 p x v l9 (l ++ [y]) ((l ++ [y]).length : Int) (decide (x.value_ ≤ y.value_)) := by
      unfold rule_track_put_b1
      rw [if_pos (by omega), e1, idx_end]
      simp only [Option.bind_some]
    unfold rule_track_put_l1
    rw [iter_eq]
    dsimp only
    rw [hb, filter_rise hp]
    by_cases c : x.value_ ≤ y.value_
    · have hj : rule_track_put_j1 p x v l9 (l ++ [y]) ((l ++ [y]).length : Int) (decide (x.value_ ≤ y.value_)) = some (.inl (l, ((l ++ [y]).length : Int) - 1)) := by
        unfold rule_track_put_j1
        rw [if_pos (by simpa using c), e1, slc_init]
        rfl
      rw [hj]
      simp only [Option.bind_some, after_inl]
      have := ih l hl (by omega) (List.pairwise_append.1 hp).1
      unfold rule_track_put_l1 at this
      rw [show ((l ++ [y]).length : Int) - 1 = (l.length : Int) by simp, this, if_neg (by simp only [vS]; omega)]
    · have hj : rule_track_put_j1 p x v l9 (l ++ [y]) ((l ++ [y]).length : Int) (decide (x.value_ ≤ y.value_)) = Option.map .inr (rule_track_put_k4 p x v l9 (l ++ [y])) := by
        unfold rule_track_put_j1
        rw [if_neg (by simpa using c)]
      rw [hj, map_inr_after, if_pos (by simp only [vS]; omega)]
theorem put_eq {r : Rule} (h : RuO r) {W : List Rule_sample} {x : Rule_sample} (hw : WiO (W ++ [x])) (hl : W.length ≤ 4999) (s z : Int) (f : Bool) (b : Int) :
    rule_track_put (mkT r W s z f b) x = some (let V := dropOld aS r.Long x.at_ W ++ [x]; mkT r V (stW r V) (if stW r V = s then z else x.at_) f b) := by
  have hw0 : WiO W := ⟨(List.pairwise_append.1 hw.1).1, fun y hy => hw.2.1 y (List.mem_append_left _ hy), by omega⟩
  have hD := dropOld_suf aS r.Long x.at_ W
  have hDl := hD.length_le
  have hV : WiO (dropOld aS r.Long x.at_ W ++ [x]) := by
    refine ⟨hw.1.sublist (hD.sublist.append (List.Sublist.refl _)), fun y hy => hw.2.1 y ?_, by simp; omega⟩
    rcases List.mem_append.1 hy with hy | hy
    · exact List.mem_append_left _ (hD.subset hy)
    · exact List.mem_append_right _ hy
  have hs := sum_B hV
  unfold rule_track_put
  rw [drop_eq h hw0]
  simp only [Option.bind_some]
  generalize dropOld aS r.Long x.at_ W = D at *
  rw [app_le (by simp [mkT]; omega)]
  simp only [Option.bind_some]
  have hlen : ∀ g : Rule_sample → Int, (dqF g D).length ≤ D.length := fun g => by
    clear hV hs hD
    induction D with
    | nil => simp [dqF]
    | cons a D ih =>
      simp only [dqF]
      split
      · simp; exact ih (by simp at hDl; omega)
      · simp; have := ih (by simp at hDl; omega); omega
  have e1 := put_l1_eq (mkT r W s z f b) x (mkT r D s z f b) (D ++ [x]) (dqF vS D).length (dqF vS D) rfl (by have := hlen vS; omega) (dqF_rise vS D)
  have e2 := put_l2_eq (mkT r W s z f b) x (mkT r D s z f b) (D ++ [x]) ((dqF vS D).filter (fun y => decide (vS y < vS x)) ++ [x]) (dqF vN D).length (dqF vN D) rfl (by have := hlen vN; omega) (dqF_rise vN D)
  rw [show (mkT r D s z f b).window_ ++ [x] = D ++ [x] from rfl]
  rw [show (mkT r D s z f b).least_ = dqF vS D from rfl, e1]
  unfold rule_track_put_k4
  have f1 := List.length_filter_le (fun y => decide (vS y < vS x)) (dqF vS D)
  have f2 := List.length_filter_le (fun y => decide (vN y < vN x)) (dqF vN D)
  have := hlen vS
  have := hlen vN
  rw [app_le (by simp only [List.length_singleton]; omega)]
  simp only [Option.bind_some]
  rw [show (mkT r D s z f b).most_ = dqF vN D from rfl, e2]
  unfold rule_track_put_k3
  rw [app_le (by simp only [List.length_singleton]; omega)]
  simp only [Option.bind_some]
  have hsum : w64 ((mkT r D s z f b).sum_ + x.value_) = sumV vS (D ++ [x]) := by
    rw [sumV_snoc] at hs ⊢
    exact w64_in (by simp only [mkT, vS] at *; omega) (by simp only [mkT, vS] at *; omega)
  rw [hsum, ← dqF_snoc, ← dqF_snoc]
  have e3 := update_eq h hV s z f b x.at_
  rw [show (⟨(mkT r W s z f b).rule_, D ++ [x], dqF vS (D ++ [x]), dqF vN (D ++ [x]), sumV vS (D ++ [x]), (mkT r D s z f b).state_, (mkT r D s z f b).since_, (mkT r D s z f b).firing_, (mkT r D s z f b).began_⟩ : Rule_track) = mkT r (D ++ [x]) s z f b from rfl, e3]
  rfl
/-- What it waits for. -/
def wantF (f : Bool) : Int := if f = true then 2 else 1
def lngF (r : Rule) (f : Bool) : Int := if f = true then r.Rest else r.Hold
def trnF (r : Rule) (s z : Int) (f : Bool) : Int := if s = wantF f then z + lngF r f else EndM
theorem lng_B {r : Rule} (h : RuO r) (f : Bool) : 0 ≤ lngF r f ∧ lngF r f ≤ 2592000000 := by
  unfold lngF
  have := h.hold
  have := h.rest
  split <;> omega
theorem turn_eq {r : Rule} (h : RuO r) (W : List Rule_sample) {s z : Int} (hz : 0 ≤ z ∧ z ≤ 345686400000) (f : Bool) (b : Int) : rule_track_turn (mkT r W s z f b) = trnF r s z f := by
  have := h.hold
  have := h.rest
  unfold rule_track_turn rule_track_turn_j1 rule_track_turn_j2 trnF wantF lngF mkT
  dsimp only
  rw [w64_in (x := z + r.Hold) (by omega) (by omega), w64_in (x := z + r.Rest) (by omega) (by omega)]
  cases f <;> by_cases h1 : s = 1 <;> by_cases h2 : s = 2 <;> simp [h1, h2] <;> omega
def dueF (r : Rule) (W : List Rule_sample) (s z : Int) (f : Bool) : Int := match W with
  | [] => min (trnF r s z f) EndM
  | x :: _ => min (min (trnF r s z f) EndM) (x.at_ + r.Long)
theorem due_eq {r : Rule} (h : RuO r) {W : List Rule_sample} (hw : WiO W) {s z : Int} (hz : 0 ≤ z ∧ z ≤ 345686400000) (f : Bool) (b : Int) : rule_track_due (mkT r W s z f b) = some (dueF r W s z f) := by
  have hl := h.long
  unfold rule_track_due rule_track_due_j1
  rw [turn_eq h W hz]
  cases W with
  | nil => simp [mkT, dueF]
  | cons x W =>
    have hx := hw.2.1 x (by simp)
    rw [if_pos (by simp [mkT]), show (mkT r (x :: W) s z f b).window_ = x :: W from rfl, idx_hd]
    simp only [Option.bind_some]
    rw [show (mkT r (x :: W) s z f b).rule_ = r from rfl, w64_in (by have := hx.1; omega) (by have := hx.2.1; omega)]
    rfl
end Go.Beacon

/- A rule followed moment by moment: the times in which it fires. No program in sight. -/
set_option linter.unusedVariables false
set_option linter.unusedSimpArgs false
namespace Go.Beacon
open Go Go.Eng

/-- How a rule is at a moment. -/
def sigW (r : Rule) (L : List Rule_sample) (t : Int) : Int := stW r (winAt aS r.Long t L)
def spW (w : Int × Int) : Rule_span := ⟨w.1, w.2⟩
def openW (f : Bool) (c : Int) : List (Int × Int) := if f = true then [(c, EndM)] else []
abbrev FR (r : Rule) (L : List Rule_sample) (f : Bool) (c : Int) (ws : List (Int × Int)) : Prop := FF (sigW r L) EndM 1 r.Hold 2 r.Rest f c ws
def potW (W : List Rule_sample) (s : Int) (f : Bool) : Nat := 2 * W.length + (if s = wantF f then 1 else 0)
/-- A walk through the samples: L1 have come, L2 have not; all up to q has come about. -/
structure AI (r : Rule) (L L1 L2 : List Rule_sample) (q : Int) (W : List Rule_sample) (s z : Int) (f : Bool) (c : Int) (hist : List (Int × Int)) (out : List Rule_span) : Prop where
  hL : L = L1 ++ L2
  h1 : ∀ x ∈ L1, x.at_ ≤ q
  h2 : ∀ x ∈ L2, q < x.at_
  hq : -1 ≤ q ∧ q < EndM
  st : s = stW r W
  hW : W = L1.filter (fun x => decide (q - r.Long < aS x))
  sim : Sim (sigW r L) EndM (wantF f) (lngF r f) c z s q
  pend : s = wantF f → q ≤ z + lngF r f
  ho : out = (hist ++ openW f c).map spW
  fut : ∀ ws, FR r L f c ws → FR r L false 0 (hist ++ ws)
  pot : out.length + potW W s f ≤ 4 * L1.length + 1
theorem AI.win {r : Rule} {L L1 L2 : List Rule_sample} {q : Int} {W : List Rule_sample} {s z : Int} {f : Bool} {c : Int} {hist : List (Int × Int)} {out : List Rule_span} (h : AI r L L1 L2 q W s z f c hist out) {u : Int} (hu : q ≤ u) (h2 : ∀ x ∈ L2, u < x.at_) :
    winAt aS r.Long u L = W.filter (fun x => decide (u - r.Long < aS x)) := by
  rw [h.hL, winAt_split (fun x hx => Int.le_trans (h.h1 x hx) hu) h2, h.hW, filter_later hu]
theorem AI.same {r : Rule} {L L1 L2 : List Rule_sample} {q : Int} {W : List Rule_sample} {s z : Int} {f : Bool} {c : Int} {hist : List (Int × Int)} {out : List Rule_span} (h : AI r L L1 L2 q W s z f c hist out) {u : Int} (hu : q ≤ u) (h2 : ∀ x ∈ L2, u < x.at_) (h3 : ∀ x ∈ W, u < x.at_ + r.Long) : sigW r L u = s := by
  rw [h.st]
  unfold sigW
  rw [h.win hu h2, filter_same (fun x hx => by have := h3 x hx; simp only [aS]; omega)]
theorem AI.wio {r : Rule} {L L1 L2 : List Rule_sample} {q : Int} {W : List Rule_sample} {s z : Int} {f : Bool} {c : Int} {hist : List (Int × Int)} {out : List Rule_span} (h : AI r L L1 L2 q W s z f c hist out) (hw : WiO L) : WiO L1 ∧ WiO W := by
  have h1 : WiO L1 := by
    rw [h.hL] at hw
    exact ⟨(List.pairwise_append.1 hw.1).1, fun x hx => hw.2.1 x (List.mem_append_left _ hx), by have := hw.2.2; rw [List.length_append] at this; omega⟩
  refine ⟨h1, ?_⟩
  rw [h.hW]
  exact ⟨h1.1.filter _, fun x hx => h1.2.1 x ((List.mem_filter.1 hx).1), Nat.le_trans (List.length_filter_le _ _) h1.2.2⟩
theorem due_le {r : Rule} {W : List Rule_sample} (hw : RiseW aS W) {s z : Int} {f : Bool} : (s = wantF f → dueF r W s z f ≤ z + lngF r f) ∧ dueF r W s z f ≤ EndM ∧ ∀ x ∈ W, dueF r W s z f ≤ x.at_ + r.Long := by
  have ht : s = wantF f → trnF r s z f = z + lngF r f := fun e => by unfold trnF; rw [if_pos e]
  cases W with
  | nil =>
    refine ⟨fun e => ?_, ?_, fun x hx => by simp at hx⟩
    · have := ht e; simp only [dueF]; omega
    · simp only [dueF]; omega
  | cons y W =>
    refine ⟨fun e => ?_, ?_, fun x hx => ?_⟩
    · have := ht e; simp only [dueF]; omega
    · simp only [dueF]; omega
    · have hy : y.at_ ≤ x.at_ := by
        rcases List.mem_cons.1 hx with rfl | hx
        · exact Int.le_refl _
        · exact Int.le_of_lt (List.rel_of_pairwise_cons hw hx)
      simp only [dueF]; omega
theorem due_ge {r : Rule} {L L1 L2 : List Rule_sample} {q : Int} {W : List Rule_sample} {s z : Int} {f : Bool} {c : Int} {hist : List (Int × Int)} {out : List Rule_span} (h : AI r L L1 L2 q W s z f c hist out) : q ≤ dueF r W s z f := by
  have hq := h.hq
  have ht : q ≤ trnF r s z f := by
    unfold trnF
    split
    · rename_i e; exact h.pend e
    · exact Int.le_of_lt hq.2
  have hW : ∀ x ∈ W, q < x.at_ + r.Long := fun x hx => by
    rw [h.hW] at hx
    have := (List.mem_filter.1 hx).2
    simp only [aS, decide_eq_true_eq] at this
    omega
  have h4 : (345686400000 : Int) = EndM := rfl
  cases W with
  | nil => simp only [dueF]; omega
  | cons y W => have := hW y (by simp); simp only [dueF]; omega
theorem OkIf_pos {α : Type} {c : Prop} [Decidable c] {a b : Option α} {Q : α → Prop} (h : c) (k : Ok a Q) : Ok (if c then a else b) Q := by rw [if_pos h]; exact k
theorem OkIf_neg {α : Type} {c : Prop} [Decidable c] {a b : Option α} {Q : α → Prop} (h : ¬ c) (k : Ok b Q) : Ok (if c then a else b) Q := by rw [if_neg h]; exact k
theorem due_ge0 {r : Rule} (hr : RuO r) {W : List Rule_sample} (hw : WiO W) {s z : Int} (hz : 0 ≤ z) (f : Bool) : 0 ≤ dueF r W s z f := by
  have hl := lng_B hr f
  have hll := hr.long
  have ht : 0 ≤ trnF r s z f := by unfold trnF; simp only [EndM]; split <;> omega
  cases W with
  | nil => simp only [dueF, EndM]; omega
  | cons y W => have := (hw.2.1 y (by simp)).1; simp only [dueF, EndM]; omega
theorem want_ne (f : Bool) : wantF f ≠ wantF (!f) := by cases f <;> simp [wantF]
/-- Nothing comes about any more before a moment. -/
def Quiet (r : Rule) (W : List Rule_sample) (s z : Int) (f : Bool) (p : Int) : Prop := (s = wantF f → p ≤ z + lngF r f) ∧ ∀ x ∈ W, p ≤ x.at_ + r.Long
theorem out_len {hist : List (Int × Int)} {f : Bool} {c : Int} {out : List Rule_span} (h : out = (hist ++ openW f c).map spW) : out.length = hist.length + (if f = true then 1 else 0) := by
  rw [h]
  cases f <;> simp [openW]
/-- One round: something comes about. -/
theorem AI.step {r : Rule} (hr : RuO r) {L : List Rule_sample} (hwL : WiO L) {L1 L2 : List Rule_sample} {q : Int} {W : List Rule_sample} {s z : Int} {f : Bool} {c : Int} {hist : List (Int × Int)} {out : List Rule_span} (h : AI r L L1 L2 q W s z f c hist out) {p : Int} (hp : p = dueF r W s z f) (hE : p < EndM) (h2 : ∀ x ∈ L2, p < x.at_) :
    ∃ W' s' z', W' = dropOld aS r.Long p W ∧ s' = stW r W' ∧ z' = (if s' = s then z else p) ∧
      (trnF r s' z' f = p → ∃ hist', AI r L L1 L2 p W' s' z' (!f) p hist' (if f = true then (hist ++ [(c, p)]).map spW else out ++ [⟨p, EndM⟩]) ∧ potW W' s' (!f) < potW W s f) ∧
      (trnF r s' z' f ≠ p → AI r L L1 L2 p W' s' z' f c hist out ∧ potW W' s' f < potW W s f) := by
  obtain ⟨hw1, hw⟩ := h.wio hwL
  have hq := h.hq
  have hl := lng_B hr f
  have hl' := lng_B hr (!f)
  have hge : q ≤ p := by rw [hp]; exact due_ge h
  obtain ⟨d1, d2, d3⟩ := due_le (r := r) (s := s) (z := z) (f := f) hw.1
  rw [← hp] at d1 d2 d3
  have hWf : dropOld aS r.Long p W = W.filter (fun x => decide (p - r.Long < aS x)) := dropOld_filter hw.1
  have hW' : dropOld aS r.Long p W = L1.filter (fun x => decide (p - r.Long < aS x)) := by rw [hWf, h.hW, filter_later hge]
  have hsig : sigW r L p = stW r (dropOld aS r.Long p W) := by
    unfold sigW; rw [h.win hge h2, hWf]
  have hcon : ∀ u, q ≤ u → u < p → sigW r L u = s := fun u h5 h6 => h.same h5 (fun x hx => by have := h2 x hx; omega) (fun x hx => by have := d3 x hx; omega)
  have hp0 : 0 ≤ p := by rw [hp]; exact due_ge0 hr hw h.sim.hz.1 f
  have hgo := h.sim.go hl.1 hge hp0 hcon d1
  rw [hsig] at hgo
  have hlen : (dropOld aS r.Long p W).length ≤ W.length := (dropOld_suf aS r.Long p W).length_le
  -- either the window grows smaller or a turn is due
  have hsmall : (dropOld aS r.Long p W).length < W.length ∨ (dropOld aS r.Long p W = W ∧ s = wantF f ∧ z + lngF r f = p) := by
    cases W with
    | nil =>
      right
      refine ⟨rfl, ?_⟩
      simp only [dueF, trnF] at hp
      by_cases e : s = wantF f
      · rw [if_pos e] at hp; exact ⟨e, by omega⟩
      · rw [if_neg e] at hp; omega
    | cons y W =>
      by_cases e : y.at_ + r.Long ≤ p
      · left
        simp only [dropOld]
        rw [if_pos e]
        have := (dropOld_suf aS r.Long p W).length_le
        simp only [List.length_cons]; omega
      · right
        refine ⟨by simp only [dropOld]; rw [if_neg e], ?_⟩
        simp only [dueF, trnF] at hp
        by_cases e2 : s = wantF f
        · rw [if_pos e2] at hp; exact ⟨e2, by omega⟩
        · rw [if_neg e2] at hp; omega
  have hst := h.st
  refine ⟨_, _, _, rfl, rfl, rfl, fun ht => ?_, fun ht => ?_⟩
  · have hs' : stW r (dropOld aS r.Long p W) = wantF f := by
      unfold trnF at ht
      by_cases e : stW r (dropOld aS r.Long p W) = wantF f
      · exact e
      · rw [if_neg e] at ht; omega
    unfold trnF at ht
    rw [if_pos hs'] at ht
    obtain ⟨k1, k2⟩ := hgo.flip hl.1 hl'.1 hE hs' ht (want_ne f)
    have hnw : ¬ stW r (dropOld aS r.Long p W) = wantF (!f) := by rw [hs']; exact want_ne f
    have hpot : potW (dropOld aS r.Long p W) (stW r (dropOld aS r.Long p W)) (!f) < potW W s f := by
      unfold potW
      rw [if_neg hnw]
      rcases hsmall with h7 | ⟨h7, h8, _⟩
      · split <;> omega
      · rw [h7, if_pos h8]; omega
    have h0 := h.pot
    have ho := out_len h.ho
    refine ⟨if f = true then hist ++ [(c, p)] else hist, ⟨h.hL, fun x hx => Int.le_trans (h.h1 x hx) hge, h2, ⟨by omega, hE⟩, rfl, hW', k2, fun e => (hnw e).elim, ?_, ?_, ?_⟩, hpot⟩
    · cases f with
      | true => simp [openW]
      | false => simp [openW, h.ho, spW]
    · intro ws hws
      cases f with
      | true =>
        simp only [if_true, Bool.not_true] at hws ⊢
        rw [List.append_assoc]
        exact h.fut _ (FF.down (by simpa [wantF, lngF] using k1) hws)
      | false =>
        simp only [Bool.false_eq_true, if_false, Bool.not_false] at hws ⊢
        exact h.fut _ (FF.up (by simpa [wantF, lngF] using k1) hws)
    · cases f with
      | true => simp only [if_true, List.length_map, List.length_append, List.length_singleton] at ho ⊢; omega
      | false => simp only [Bool.false_eq_true, if_false, List.length_append, List.length_singleton] at ho ⊢; omega
  · have hpend : stW r (dropOld aS r.Long p W) = wantF f → p ≤ (if stW r (dropOld aS r.Long p W) = s then z else p) + lngF r f := by
      intro e
      split
      · rename_i e2; exact d1 (by rw [← e2, e])
      · omega
    have hpot : potW (dropOld aS r.Long p W) (stW r (dropOld aS r.Long p W)) f < potW W s f := by
      unfold potW
      rcases hsmall with h7 | ⟨h7, h8, h9⟩
      · split <;> split <;> omega
      · exfalso
        apply ht
        unfold trnF
        rw [h7, ← hst, if_pos h8, if_pos rfl, h9]
    have h0 := h.pot
    exact ⟨⟨h.hL, fun x hx => Int.le_trans (h.h1 x hx) hge, h2, ⟨by omega, hE⟩, rfl, hW', hgo, hpend, h.ho, h.fut, by omega⟩, hpot⟩
theorem adv_out {hist : List (Int × Int)} {c p : Int} {out : List Rule_span} (h : out = (hist ++ openW true c).map spW) (hl : out.length ≤ 100000) : rule_spansOf_1x p false out = some ((hist ++ [(c, p)]).map spW) := by
  have e : out = hist.map spW ++ [⟨c, EndM⟩] := by rw [h]; simp [openW, spW]
  have hl2 : w64 ((out.length : Int) - 1) = (out.length : Int) - 1 := w64_in (by omega) (by omega)
  unfold rule_spansOf_1x rule_spansOf_1x_j1
  rw [if_neg (by simp), hl2]
  have hi : idx out ((out.length : Int) - 1) = some ⟨c, EndM⟩ := by rw [e]; exact idx_end _ _
  rw [hi]
  simp only [Option.bind_some]
  congr 1
  rw [e]
  simp [spW]
/-- All that comes about before a moment. -/
theorem advance_ok {r : Rule} (hr : RuO r) {L : List Rule_sample} (hwL : WiO L) {L1 L2 : List Rule_sample} {q : Int} {W : List Rule_sample} {s z : Int} {f : Bool} {c : Int} {hist : List (Int × Int)} {out : List Rule_span} (h : AI r L L1 L2 q W s z f c hist out) (b p : Int) (h2 : ∀ x ∈ L2, p ≤ x.at_) :
    Ok (rule_track_advance_c0x9xrule_spansOf_1x (mkT r W s z f b) p out) (fun res => ∃ q' W' s' z' f' b' c' hist', res.1 = mkT r W' s' z' f' b' ∧ AI r L L1 L2 q' W' s' z' f' c' hist' res.2 ∧ Quiet r W' s' z' f' (min p EndM)) := by
  unfold rule_track_advance_c0x9xrule_spansOf_1x rule_track_advance_c0x9xrule_spansOf_1x_l1
  refine Ok.iter (fun x => potW x.1 x.2.2.2.2.1 x.2.2.2.2.2.2.1) (fun x => ∃ q' W' s' z' f' b' c' hist' out', x = (W', dqF vS W', dqF vN W', sumV vS W', s', z', f', b', out') ∧ AI r L L1 L2 q' W' s' z' f' c' hist' out') (fun x hx => ?_) _ ⟨q, W, s, z, f, b, c, hist, out, rfl, h⟩
  obtain ⟨q, W, s, z, f, b, c, hist, out, rfl, h⟩ := hx
  obtain ⟨hw1, hw⟩ := h.wio hwL
  have hzq := h.sim.hz
  have hq := h.hq
  have hl1 : L1.length ≤ 5000 := hw1.2.2
  have ho := h.pot
  dsimp only
  unfold rule_track_advance_c0x9xrule_spansOf_1x_b1
  have e1 : (⟨(mkT r W s z f b).rule_, W, dqF vS W, dqF vN W, sumV vS W, s, z, f, b⟩ : Rule_track) = mkT r W s z f b := rfl
  have e0 : ∀ (W0 : List Rule_sample) (s0 z0 : Int) (f0 : Bool) (b0 : Int), (⟨(mkT r W0 s0 z0 f0 b0).rule_, W, dqF vS W, dqF vN W, sumV vS W, s, z, f, b⟩ : Rule_track) = mkT r W s z f b := fun _ _ _ _ _ => rfl
  simp only [e0]
  refine Ok.is (due_eq hr hw (by simp only [EndM] at hq; omega) f b) ?_
  obtain ⟨d1, d2, d3⟩ := due_le (r := r) (s := s) (z := z) (f := f) hw.1
  split
  · rename_i hle
    refine Ok.inr (Ok.ret ⟨q, W, s, z, f, b, c, hist, rfl, h, fun e => ?_, fun x hx => ?_⟩)
    · have := d1 e; simp only [EndM]; omega
    · have := d3 x hx; simp only [EndM]; omega
  · rename_i hle
    have hE : dueF r W s z f < EndM := by simp only [EndM]; omega
    have hpp : dueF r W s z f < p := by omega
    obtain ⟨W', s', z', hW', hs', hz', k1, k2⟩ := h.step hr hwL rfl hE (fun x hx => by have := h2 x hx; omega)
    have hwW' : WiO W' := by rw [hW']; exact hw.suf (dropOld_suf _ _ _ _)
    refine Ok.is (drop_eq hr hw s z f b _) ?_
    rw [← hW']
    refine Ok.is (v := mkT r W' s' z' f b) ?_ ?_
    · have := update_eq hr hwW' s z f b (dueF r W s z f)
      rw [← hs', ← hz'] at this
      exact this
    have hz2 : 0 ≤ z' ∧ z' ≤ 345686400000 := by
      have := due_ge0 hr hw hzq.1 f (s := s)
      simp only [EndM] at hE hq
      rw [hz']; split <;> omega
    have e2 : (⟨r, (mkT r W' s' z' f b).window_, (mkT r W' s' z' f b).least_, (mkT r W' s' z' f b).most_, (mkT r W' s' z' f b).sum_, (mkT r W' s' z' f b).state_, (mkT r W' s' z' f b).since_, (mkT r W' s' z' f b).firing_, (mkT r W' s' z' f b).began_⟩ : Rule_track) = mkT r W' s' z' f b := rfl
    have e3 : rule_track_turn (mkT r W' s' z' f b) = trnF r s' z' f := turn_eq hr W' hz2 f b
    by_cases ht : trnF r s' z' f = dueF r W s z f
    · obtain ⟨hist', a1, a2⟩ := k1 ht
      refine OkIf_pos (e3.trans ht) ?_
      cases f with
      | false =>
        rw [if_pos (by rfl)]
        unfold rule_track_advance_c0x9xrule_spansOf_1x_j2
        refine Ok.is (v := out ++ [⟨dueF r W s z false, EndM⟩]) ?_ ?_
        · unfold rule_spansOf_1x rule_spansOf_1x_j1
          rw [if_pos (by rfl), app_le (by simp; omega)]
          rfl
        · exact Ok.ret ⟨⟨_, _, _, _, _, _, _, _, _, rfl, a1⟩, a2⟩
      | true =>
        rw [if_neg (by simp [mkT])]
        unfold rule_track_advance_c0x9xrule_spansOf_1x_j2
        refine Ok.is (v := (hist ++ [(c, dueF r W s z true)]).map spW) ?_ ?_
        · exact adv_out h.ho (by omega)
        · exact Ok.ret ⟨⟨_, _, _, _, _, _, _, _, _, rfl, a1⟩, a2⟩
    · obtain ⟨a1, a2⟩ := k2 ht
      refine OkIf_neg (fun e => ht (e3.symm.trans e)) ?_
      unfold rule_track_advance_c0x9xrule_spansOf_1x_j1
      exact Ok.ret ⟨⟨_, _, _, _, _, _, _, _, _, rfl, a1⟩, a2⟩
/-- A sample comes. -/
theorem AI.put {r : Rule} (hr : RuO r) {L : List Rule_sample} (hwL : WiO L) {L1 L2 : List Rule_sample} {x : Rule_sample} {q : Int} {W : List Rule_sample} {s z : Int} {f : Bool} {c : Int} {hist : List (Int × Int)} {out : List Rule_span} (h : AI r L L1 (x :: L2) q W s z f c hist out) (hq : Quiet r W s z f x.at_) :
    ∃ V, V = dropOld aS r.Long x.at_ W ++ [x] ∧ AI r L (L1 ++ [x]) L2 x.at_ V (stW r V) (if stW r V = s then z else x.at_) f c hist out := by
  obtain ⟨hw1, hw⟩ := h.wio hwL
  have hqx : q < x.at_ := h.h2 x (by simp)
  have hx : SmO x := hwL.2.1 x (by rw [h.hL]; simp)
  have hl := lng_B hr f
  have hll := hr.long
  have hri : RiseW aS (L1 ++ (x :: L2)) := by rw [← h.hL]; exact hwL.1
  have h2' : ∀ y ∈ L2, x.at_ < y.at_ := fun y hy => List.rel_of_pairwise_cons (List.pairwise_append.1 hri).2.1 hy
  have hV : dropOld aS r.Long x.at_ W ++ [x] = (L1 ++ [x]).filter (fun y => decide (x.at_ - r.Long < aS y)) := by
    rw [dropOld_filter hw.1, h.hW, filter_later (Int.le_of_lt hqx), List.filter_append]
    congr 1
    rw [List.filter_cons_of_pos (by simp only [aS, decide_eq_true_eq]; omega)]; rfl
  have hL' : L = (L1 ++ [x]) ++ L2 := by rw [h.hL]; simp
  have h1' : ∀ y ∈ L1 ++ [x], y.at_ ≤ x.at_ := fun y hy => by
    rcases List.mem_append.1 hy with hy | hy
    · have := h.h1 y hy; omega
    · obtain rfl : y = x := by simpa using hy
      exact Int.le_refl _
  have hsig : sigW r L x.at_ = stW r (dropOld aS r.Long x.at_ W ++ [x]) := by
    unfold sigW
    rw [hL', winAt_split h1' h2', hV]
  have hgo := h.sim.go hl.1 (Int.le_of_lt hqx) hx.1 (fun u h5 h6 => h.same h5 (fun y hy => by
    rcases List.mem_cons.1 hy with rfl | hy
    · exact h6
    · have := h2' y hy; omega) (fun y hy => by have := hq.2 y hy; omega)) hq.1
  rw [hsig] at hgo
  refine ⟨_, rfl, hL', h1', h2', ⟨by have := hx.1; omega, by have := hx.2.1; simp only [EndM]; omega⟩, rfl, hV, hgo, fun e => ?_, h.ho, h.fut, ?_⟩
  · split
    · rename_i e2; exact hq.1 (by rw [← e2, e])
    · omega
  · have h0 := h.pot
    have hlen : (dropOld aS r.Long x.at_ W).length ≤ W.length := (dropOld_suf aS r.Long x.at_ W).length_le
    unfold potW at h0 ⊢
    simp only [List.length_append, List.length_singleton]
    split <;> split at h0 <;> omega
/-- The times in which a rule fires. -/
theorem spans_ok {r : Rule} (hr : RuO r) {L : List Rule_sample} (hwL : WiO L) : ∃ ws, FR r L false 0 ws ∧ ws.length ≤ 4 * L.length + 1 ∧ rule_spansOf r L = some (ws.map spW) := by
  have hl := hwL.2.2
  have key : Ok (rule_spansOf r L) (fun res => ∃ ws, FR r L false 0 ws ∧ ws.length ≤ 4 * L.length + 1 ∧ res = ws.map spW) := by
    unfold rule_spansOf
    have hn0 := now_eq hr (W := []) ⟨List.Pairwise.nil, by simp, by simp⟩ 0 0 false 0
    have hnew : rule_newTrack r = some (mkT r [] (stW r []) 0 false 0) := by
      unfold rule_newTrack
      rw [show (⟨r, [], [], [], 0, 0, 0, false, 0⟩ : Rule_track) = mkT r [] 0 0 false 0 from rfl, hn0]
      rfl
    refine Ok.is hnew ?_
    unfold rule_spansOf_l1
    have hsm1 : sigW r L (-1) = stW r [] := by
      unfold sigW winAt
      rw [List.filter_eq_nil_iff.2 fun x hx => by have := (hwL.2.1 x hx).1; simp only [aS, decide_eq_true_eq]; omega]
    have hai0 : AI r L [] L (-1) [] (stW r []) 0 false 0 [] [] := by
      have hlg := lng_B hr false
      refine ⟨rfl, by simp, fun x hx => by have := (hwL.2.1 x hx).1; omega, ⟨by omega, by simp [EndM]⟩, rfl, rfl, ⟨⟨Int.le_refl _, .inr rfl⟩, fun u h1 h2 => by omega, .inl rfl, ⟨Int.le_refl _, .inr rfl⟩, fun _ => Int.le_refl _, fun t ht k => ?_⟩, fun _ => by omega, rfl, fun ws h => by simpa using h, ?_⟩
      · have := k.1; omega
      · unfold potW; simp; split <;> omega
    refine Ok.iter (fun x => L.length + 1 - x.2.2.2.2.2.2.2.2.2.toNat) (fun x => ∃ (i : Nat) (q : Int) (W : List Rule_sample) (s z : Int) (f : Bool) (b c : Int) (hist : List (Int × Int)) (out : List Rule_span), x = (out, W, dqF vS W, dqF vN W, sumV vS W, s, z, f, b, (i : Int)) ∧ i ≤ L.length ∧ AI r L (L.take i) (L.drop i) q W s z f c hist out) (fun x hx => ?_) _ ⟨0, -1, [], stW r [], 0, false, 0, 0, [], [], rfl, Nat.zero_le _, by simpa using hai0⟩
    obtain ⟨i, q, W, s, z, f, b, c, hist, out, rfl, hi, h⟩ := hx
    dsimp only
    unfold rule_spansOf_b1
    by_cases hlt : i < L.length
    · rw [if_pos (by omega)]
      have hx : idx L (i : Int) = some L[i] := by unfold idx; simp [hlt]
      have hd : L.drop i = L[i] :: L.drop (i + 1) := List.drop_eq_getElem_cons hlt
      have ht : L.take (i + 1) = L.take i ++ [L[i]] := by rw [List.take_add_one]; simp [hlt]
      refine Ok.is hx ?_
      rw [hd] at h
      have hri : RiseW aS (L.take i ++ (L[i] :: L.drop (i + 1))) := by rw [← h.hL]; exact hwL.1
      have hadv := advance_ok hr hwL h b L[i].at_ (fun y hy => by
        rcases List.mem_cons.1 hy with rfl | hy
        · exact Int.le_refl _
        · exact Int.le_of_lt (List.rel_of_pairwise_cons (List.pairwise_append.1 hri).2.1 hy))
      rw [show (⟨r, W, dqF vS W, dqF vN W, sumV vS W, s, z, f, b⟩ : Rule_track) = mkT r W s z f b from rfl]
      refine Ok.bind hadv (fun res hres => ?_)
      obtain ⟨q', W', s', z', f', b', c', hist', e1, h', hq'⟩ := hres
      obtain ⟨t1, out'⟩ := res
      dsimp only at e1 h'
      subst e1
      have hxO : SmO L[i] := hwL.2.1 _ (List.getElem_mem hlt)
      have hq2 : Quiet r W' s' z' f' L[i].at_ := by
        have : min L[i].at_ EndM = L[i].at_ := by have := hxO.2.1; simp only [EndM]; omega
        rw [this] at hq'; exact hq'
      obtain ⟨V, hV, hp⟩ := h'.put hr hwL hq2
      obtain ⟨hw1, hw⟩ := h'.wio hwL
      have hWx : WiO (W' ++ [L[i]]) := by
        refine ⟨List.pairwise_append.2 ⟨hw.1, List.pairwise_singleton _ _, fun a ha b hb => ?_⟩, fun y hy => ?_, ?_⟩
        · obtain rfl : b = L[i] := by simpa using hb
          have h9 := h'.h1 a (by have := h'.hW; rw [this] at ha; exact (List.mem_filter.1 ha).1)
          have := h'.h2 L[i] (List.mem_cons_self ..)
          simp only [aS]; omega
        · rcases List.mem_append.1 hy with hy | hy
          · exact hw.2.1 y hy
          · obtain rfl : y = L[i] := by simpa using hy
            exact hxO
        · have : W'.length ≤ i := by
            rw [h'.hW]; exact Nat.le_trans (List.length_filter_le _ _) (by simp; omega)
          simp; omega
      have hl4 : W'.length ≤ 4999 := by have := hWx.2.2; simp at this; omega
      have hput := put_eq hr hWx hl4 s' z' f' b'
      rw [← hV] at hput
      refine Ok.is hput ?_
      have hi1 : w64 ((i : Int) + 1) = ((i + 1 : Nat) : Int) := by rw [w64_in (by omega) (by omega)]; omega
      refine Ok.ret ⟨⟨i + 1, L[i].at_, V, stW r V, (if stW r V = s' then z' else L[i].at_), f', b', c', hist', out', ?_, by omega, by rw [ht]; exact hp⟩, ?_⟩
      · rw [hi1]; rfl
      · simp only [hi1]; omega
    · rw [if_neg (by omega)]
      have hiL : i = L.length := by omega
      subst hiL
      refine Ok.inr ?_
      unfold rule_spansOf_k1
      rw [show (⟨r, W, dqF vS W, dqF vN W, sumV vS W, s, z, f, b⟩ : Rule_track) = mkT r W s z f b from rfl]
      rw [List.drop_length, List.take_length] at h
      refine Ok.bind (advance_ok hr hwL h b 345686400000 (by simp)) (fun res hres => ?_)
      obtain ⟨q', W', s', z', f', b', c', hist', e1, h', hq'⟩ := hres
      have hlg := lng_B hr f'
      have hno : ∀ t, ¬ Held (sigW r L) EndM (wantF f') (lngF r f') c' t := fun t k => by
        have hE : min (345686400000 : Int) EndM = EndM := by simp [EndM]
        rw [hE] at hq'
        exact h'.sim.none hlg.1 (fun u h5 h6 => h'.same h5 (by simp) (fun x hx => by have := hq'.2 x hx; omega)) hq'.1 t k.2.1 k
      have ho := h'.pot
      have hol := out_len h'.ho
      refine Ok.ret ⟨hist' ++ openW f' c', h'.fut _ ?_, ?_, h'.ho⟩
      · cases f' with
        | false => exact FF.never (by simpa [wantF, lngF] using hno)
        | true => exact FF.stay (by simpa [wantF, lngF] using hno)
      · rw [List.length_append]
        have : (openW f' c').length = if f' = true then 1 else 0 := by cases f' <;> rfl
        omega
  obtain ⟨res, h1, ws, h2, h3, rfl⟩ := key
  exact ⟨ws, h2, h3, h1⟩
end Go.Beacon

/- Trimming. No program in sight. -/
set_option linter.unusedVariables false
set_option linter.unusedSimpArgs false
namespace Go.Beacon
open Go Go.Eng

theorem dropW_nil {α : Type} (p : α → Bool) : ∀ l : List α, l.dropWhile p = [] ↔ l.all p = true
  | [] => by simp
  | x :: r => by
    rw [List.dropWhile_cons]
    cases h : p x with
    | true => simp only [if_true, List.all_cons, h, Bool.true_and]; exact dropW_nil p r
    | false => simp [h]
theorem trimS_nil (l cs : Str) : Lib.trimS l cs = [] ↔ l.all (fun c => decide (c ∈ cs)) = true := by
  have hc : ∀ c : UInt8, cs.contains c = decide (c ∈ cs) := fun c => by rw [Bool.eq_iff_iff]; simp
  unfold Lib.trimS Lib.trimLeftS Lib.trimRightS
  rw [dropW_nil, List.all_reverse]
  constructor
  · intro h
    have hd : (l.reverse.dropWhile (cs.contains ·)) = [] := by
      cases hh : l.reverse.dropWhile (cs.contains ·) with
      | nil => rfl
      | cons a b =>
        have h1 := List.head?_dropWhile_not (fun c => cs.contains c) l.reverse
        rw [hh] at h h1
        simp only [List.head?_cons] at h1
        simp only [List.all_cons, Bool.and_eq_true] at h
        rw [h.1] at h1; simp at h1
    rw [dropW_nil, List.all_reverse] at hd
    simpa [hc] using hd
  · intro h
    have hd : l.reverse.dropWhile (cs.contains ·) = [] := by
      rw [dropW_nil, List.all_reverse]; simpa [hc] using h
    rw [hd]; rfl
theorem trimO_eq {s cs : Str} (h1 : s.length ≤ 100000) (h2 : cs.length ≤ 100000) (h3 : cs.all (fun b => decide (b.toNat < 128)) = true) : trimO s cs = some (Lib.trimS s cs) := by
  unfold trimO; rw [if_pos ⟨by omega, by omega, h3⟩]
end Go.Beacon

/- Keys as the first reference tells them: by trimming. No program in sight. -/
set_option linter.unusedVariables false
set_option linter.unusedSimpArgs false
namespace Go.Beacon
open Go Go.Eng

theorem QKeyT_eq (s : Str) : Q_Key s = some (keyB s) := by
  unfold Q_Key Q_Key_j1
  rw [Qin_eq]
  cases s with
  | nil => rfl
  | cons c r =>
    by_cases hl : (c :: r).length ≤ 40
    · rw [if_pos (by simp; simp at hl; omega), trimO_eq (by omega) (by simp) (by decide)]
      simp only [Option.bind_some]
      have e : (c :: r).all (fun c => decide (c ∈ ([97, 98, 99, 100, 101, 102, 103, 104, 105, 106, 107, 108, 109, 110, 111, 112, 113, 114, 115, 116, 117, 118, 119, 120, 121, 122, 48, 49, 50, 51, 52, 53, 54, 55, 56, 57, 45, 95] : List UInt8))) = (c :: r).all (fun c => okN c.toNat) := by
        congr 1; funext c
        exact u8_fin (p := fun c => decide (c ∈ ([97, 98, 99, 100, 101, 102, 103, 104, 105, 106, 107, 108, 109, 110, 111, 112, 113, 114, 115, 116, 117, 118, 119, 120, 121, 122, 48, 49, 50, 51, 52, 53, 54, 55, 56, 57, 45, 95] : List UInt8))) chars_fin c
      have e2 := u8_fin (p := fun c => decide (c ∈ ([97, 98, 99, 100, 101, 102, 103, 104, 105, 106, 107, 108, 109, 110, 111, 112, 113, 114, 115, 116, 117, 118, 119, 120, 121, 122] : List UInt8))) (q := fun n => decide (97 ≤ n) && decide (n ≤ 122)) low_fin c
      rw [keyB_cons, decide_eq_true hl, Bool.true_and, ← e, ← e2]
      by_cases ht : Lib.trimS (c :: r) ([97, 98, 99, 100, 101, 102, 103, 104, 105, 106, 107, 108, 109, 110, 111, 112, 113, 114, 115, 116, 117, 118, 119, 120, 121, 122, 48, 49, 50, 51, 52, 53, 54, 55, 56, 57, 45, 95] : Str) = []
      · rw [if_pos ht, (trimS_nil _ _).1 ht, Bool.and_true]
        have i0 : idx (c :: r) 0 = some c := rfl
        rw [i0]
        simp only [Option.bind_some, indexByteI, toU8]
        congr 1
        have := indexByte_nonneg ([97, 98, 99, 100, 101, 102, 103, 104, 105, 106, 107, 108, 109, 110, 111, 112, 113, 114, 115, 116, 117, 118, 119, 120, 121, 122] : List UInt8) c
        rw [decide_eq_decide]
        constructor
        · intro h; exact Classical.byContradiction fun h' => by have := this.2 h'; omega
        · intro h; have h' := mt this.1 (fun h' => h' h); omega
      · rw [if_neg ht]
        have : (c :: r).all (fun c => decide (c ∈ ([97, 98, 99, 100, 101, 102, 103, 104, 105, 106, 107, 108, 109, 110, 111, 112, 113, 114, 115, 116, 117, 118, 119, 120, 121, 122, 48, 49, 50, 51, 52, 53, 54, 55, 56, 57, 45, 95] : List UInt8))) = false := by
          rw [← Bool.not_eq_true]; exact fun h => ht ((trimS_nil _ _).2 h)
        rw [this, Bool.and_false]
    · rw [if_neg (by simp; simp at hl; omega), keyB_cons, decide_eq_false hl]; rfl
end Go.Beacon

/- Sorted lists with the same elements; comparisons in a row. For any type. No program in sight. -/
set_option linter.unusedVariables false
set_option linter.unusedSimpArgs false
namespace Go.Beacon
open Go Go.Eng
theorem orL_cons (x : Int) (r : List Int) : orL (x :: r) = if x ≠ 0 then x else orL r := rfl
theorem Cmp3.or {α : Type} {c : α → α → Int} {f : α → α → List Int} (h : Cmp3 c) (k : Cmp3 fun a b => orL (f a b)) : Cmp3 fun a b => orL (c a b :: f a b) := h.lex k
theorem Cmp3.or0 {α : Type} : Cmp3 (fun (_ _ : α) => orL []) := ⟨fun _ _ => rfl, fun h _ => absurd h (by simp [orL]), fun _ h => absurd h (by simp [orL])⟩
/-- The checks of a list whose every element passes. -/
theorem scanC_zero {α : Type} {st : Option α → α → Int} : ∀ (xs : List α) (p : Option α), scanC st p xs = 0 → ∀ (i : Nat) x, xs[i]? = some x → st (if i = 0 then p else xs[i - 1]?) x = 0
  | [], _, _, i, x, h => by simp at h
  | s :: r, p, h, i, x, hx => by
    simp only [scanC] at h
    split at h
    · rename_i h0
      match i with
      | 0 => simp at hx; subst hx; exact h0
      | i + 1 =>
        have := scanC_zero r (some s) h i x (by simpa using hx)
        rw [if_neg (by omega)]
        match i with
        | 0 => simpa using this
        | i + 1 => simpa using this
    · exact absurd h ‹_›
end Go.Beacon

/- Rules and samples: their checks, the samples of a device. No program in sight. -/
set_option linter.unusedVariables false
set_option linter.unusedSimpArgs false
namespace Go.Beacon
open Go Go.Eng

/-! samples -/
def mO (a b : Sample) : Int := orL [cmpI a.At b.At, Lib.compareBytes a.Device b.Device, Lib.compareBytes a.Metric b.Metric]
theorem rbyMoment_eq (a b : Sample) : rule_byMoment a b = some (mO a b) := by
  unfold rule_byMoment
  rw [CompareI_eq]
  have h : cmp_Or_int [cmpI a.At b.At, Lib.compareBytes a.Device b.Device, Lib.compareBytes a.Metric b.Metric] = some (mO a b) := gOr_eq _ (by simp)
  rw [h]; rfl
def momM (n : Int) : Bool := decide (0 ≤ n) && decide (n ≤ 345686399999)
def smBad (s : Sample) : Int := if momM s.At = false then 1 else if (keyB s.Device && keyB s.Metric) = false then 5 else if s.Value < -1000000000 ∨ 1000000000 < s.Value then 1 else 0
def smStep (prev : Option Sample) (s : Sample) : Int := if smBad s ≠ 0 then smBad s else match prev with
  | none => 0
  | some p => if mO s p ≤ 0 then 7 else 0
def chkM (xs : List Sample) : Int := if (5000 : Int) < xs.length then 2 else scanC smStep none xs
theorem sampleFault_eq (s : Sample) : rule_sampleFault s = some (smBad s) := by
  unfold rule_sampleFault smBad
  rw [Moment_eq, show (decide (0 ≤ s.At) && decide (s.At ≤ 345686399999)) = momM s.At from rfl]
  simp only [Key_eq, Option.bind_some]
  cases hm : momM s.At
  · simp
  · simp only [Bool.not_true, Bool.false_eq_true, if_false, Bool.true_eq_false]
    have key : rule_sampleFault_j1 s (!(keyB s.Device && keyB s.Metric)) = some (if (keyB s.Device && keyB s.Metric) = false then 5 else if s.Value < -1000000000 ∨ 1000000000 < s.Value then 1 else 0) := by
      unfold rule_sampleFault_j1
      cases hk : (keyB s.Device && keyB s.Metric)
      · simp
      · simp only [Bool.not_true, Bool.false_eq_true, if_false, Bool.true_eq_false]
        rw [Out_eq]
        by_cases h3 : s.Value < -1000000000 ∨ 1000000000 < s.Value
        · rw [if_pos h3, if_pos (by simp only [Bool.or_eq_true, decide_eq_true_eq]; exact h3)]
        · rw [if_neg h3, if_neg (by simp only [Bool.or_eq_true, decide_eq_true_eq]; exact h3)]
    cases hd : keyB s.Device
    · rw [hd] at key; simpa using key
    · rw [hd] at key; simpa using key
theorem CheckSamples_eq (xs : List Sample) : rule_CheckSamples xs = some (chkM xs) := by
  unfold rule_CheckSamples chkM
  split
  · rfl
  · rename_i hl
    unfold rule_CheckSamples_l1
    refine scan_all smStep xs _ (fun {i s} h0 h1 hs => ?_) (by show rule_CheckSamples_b1 xs _ = _; rw [rule_CheckSamples_b1, if_neg (by omega)]; rfl)
    show rule_CheckSamples_b1 xs i = _
    rw [rule_CheckSamples_b1, if_pos h1, hs]
    simp only [Option.bind_some]
    rw [sampleFault_eq]
    unfold smStep
    simp only [Option.bind_some]
    by_cases hb : smBad s = 0
    · simp only [hb, ne_eq, not_true_eq_false, if_false]
      unfold rule_CheckSamples_j1
      rw [w64_in (x := i + 1) (by omega) (by omega)]
      by_cases hi : 0 < i
      · obtain ⟨p, hp, _, _⟩ := idx_lt xs (i := i - 1) (by omega) (by omega)
        have hpa : prevOf xs i = some p := by unfold prevOf; rw [if_neg (by omega), hp]
        rw [hpa, if_pos hi, w64_in (by omega) (by omega), hp]
        simp only [Option.bind_some, rbyMoment_eq]
        by_cases hb : mO s p ≤ 0
        · simp [hb]
        · simp [hb]
      · have hpa : prevOf xs i = none := by unfold prevOf; rw [if_pos (by omega)]
        rw [hpa, if_neg hi]; simp
    · rw [if_pos hb, if_pos hb, if_neg hb]; rfl
/-- Samples that are right. -/
structure SaO (xs : List Sample) : Prop where
  len : (xs.length : Int) ≤ 5000
  mom : ∀ x ∈ xs, 0 ≤ x.At ∧ x.At ≤ 345686399999
  val : ∀ x ∈ xs, -1000000000 ≤ x.Value ∧ x.Value ≤ 1000000000
  srt : xs.Pairwise (fun a b => mO a b < 0)
/-! the samples of a metric, of a device -/
def hitS (m d : Str) (x : Sample) : Bool := decide (x.Metric = m) && decide (x.Device = d)
def toSm (x : Sample) : Rule_sample := ⟨x.At, x.Value⟩
def seenL (l : List Sample) (m d : Str) : List Rule_sample := (l.filter (hitS m d)).map toSm
theorem seen_wio {l : List Sample} (h : SaO l) (m d : Str) : WiO (seenL l m d) := by
  refine ⟨?_, fun x hx => ?_, ?_⟩
  · unfold seenL RiseW
    rw [List.pairwise_map]
    refine (List.Pairwise.sublist List.filter_sublist h.srt).imp_of_mem (fun {a b} ha hb hab => ?_)
    have ka := (List.mem_filter.1 ha).2
    have kb := (List.mem_filter.1 hb).2
    unfold hitS at ka kb
    simp only [Bool.and_eq_true, decide_eq_true_eq] at ka kb
    unfold mO at hab
    rw [orL_cons] at hab
    show a.At < b.At
    have e1 : Lib.compareBytes a.Device b.Device = 0 := by rw [ka.2, kb.2]; exact cmpB_3.zero _
    have e2 : Lib.compareBytes a.Metric b.Metric = 0 := by rw [ka.1, kb.1]; exact cmpB_3.zero _
    rw [e1, e2] at hab
    unfold cmpI at hab
    by_cases c : a.At < b.At
    · exact c
    · exfalso
      rw [if_neg c] at hab
      by_cases c2 : b.At < a.At
      · rw [if_pos c2] at hab; simp at hab
      · rw [if_neg c2] at hab; simp [orL] at hab
  · obtain ⟨y, hy, rfl⟩ := List.mem_map.1 hx
    have hy' := (List.mem_filter.1 hy).1
    exact ⟨(h.mom y hy').1, (h.mom y hy').2, h.val y hy'⟩
  · have := h.len
    unfold seenL
    rw [List.length_map]
    have := List.length_filter_le (hitS m d) l
    omega
end Go.Beacon

/- The reference's rules: windows, values, states, runs, the times in which a rule fires. No program in sight. -/
set_option linter.unusedVariables false
set_option linter.unusedSimpArgs false
namespace Go.Beacon
open Go Go.Eng

end Go.Beacon

/- The reference's runs and the times in which a rule fires: the same as the program's. No program in sight. -/
set_option linter.unusedVariables false
set_option linter.unusedSimpArgs false
namespace Go.Beacon
open Go Go.Eng

/-- Moments that rise. -/
def RI (l : List Int) : Prop := l.Pairwise (fun a b => a < b)
theorem RI.idx_lt {M : List Int} (h : RI M) {i j a b : Int} (ha : idx M i = some a) (hb : idx M j = some b) (hij : i < j) : a < b := by
  obtain ⟨i0, i1, i2⟩ := idx_some ha
  obtain ⟨j0, j1, j2⟩ := idx_some hb
  have := List.pairwise_iff_getElem.1 h i.toNat j.toNat (by omega) (by omega) (by omega)
  rw [List.getElem?_eq_getElem (by omega)] at i2 j2
  rw [← Option.some.inj i2, ← Option.some.inj j2]; exact this
theorem RI.mem_idx {M : List Int} {t : Int} (ht : t ∈ M) : ∃ k : Nat, k < M.length ∧ idx M (k : Int) = some t := by
  obtain ⟨k, hk, rfl⟩ := List.getElem_of_mem ht
  refine ⟨k, hk, ?_⟩
  unfold idx
  rw [if_pos (by omega), show ((k : Int)).toNat = k by omega, List.getElem?_eq_getElem hk]
/-- Nothing lies between a moment and the next. -/
theorem RI.gap {M : List Int} (h : RI M) {i a b : Int} (ha : idx M i = some a) (hb : idx M (i + 1) = some b) {t : Int} (ht : t ∈ M) : t ≤ a ∨ b ≤ t := by
  obtain ⟨k, hk, hk'⟩ := RI.mem_idx ht
  by_cases h1 : (k : Int) ≤ i
  · left
    by_cases e : (k : Int) = i
    · rw [e] at hk'; rw [hk'] at ha; rw [Option.some.inj ha]; exact Int.le_refl _
    · have := h.idx_lt hk' ha (by omega); omega
  · right
    by_cases e : (k : Int) = i + 1
    · rw [e] at hk'; rw [hk'] at hb; rw [Option.some.inj hb]; exact Int.le_refl _
    · have := h.idx_lt hb hk' (by omega); omega
structure CutM (r : Rule) (L : List Rule_sample) (M : List Int) : Prop where
  srt : RI M
  mem : ∀ t, t ∈ M ↔ t = 0 ∨ t = EndM ∨ ∃ x ∈ L, t = x.at_ ∨ t = min (x.at_ + r.Long) EndM
  len : (M.length : Int) ≤ 10002
theorem CutM.bnd {r : Rule} (hr : RuO r) {L : List Rule_sample} (hw : WiO L) {M : List Int} (h : CutM r L M) {t : Int} (ht : t ∈ M) : 0 ≤ t ∧ t ≤ EndM := by
  have hl := hr.long
  rcases (h.mem t).1 ht with rfl | rfl | ⟨x, hx, rfl | rfl⟩
  · simp [EndM]
  · simp [EndM]
  · have := hw.2.1 x hx; unfold SmO at this; simp only [EndM]; omega
  · have := hw.2.1 x hx; unfold SmO at this; simp only [EndM]; omega
/-- Between two cuts the state does not change. -/
theorem CutM.same {r : Rule} (hr : RuO r) {L : List Rule_sample} (hw : WiO L) {M : List Int} (h : CutM r L M) {i a b : Int} (ha : idx M i = some a) (hb : idx M (i + 1) = some b) {u : Int} (h1 : a ≤ u) (h2 : u < b) : sigW r L u = sigW r L a := by
  unfold sigW winAt
  congr 1
  refine List.filter_congr fun x hx => ?_
  have hbE := (h.bnd hr hw (idx_mem hb)).2
  have k1 := h.srt.gap ha hb ((h.mem x.at_).2 (.inr (.inr ⟨x, hx, .inl rfl⟩)))
  have k2 := h.srt.gap ha hb ((h.mem (min (x.at_ + r.Long) EndM)).2 (.inr (.inr ⟨x, hx, .inr rfl⟩)))
  rw [decide_eq_decide]
  simp only [aS]
  omega
theorem CutM.first {r : Rule} (hr : RuO r) {L : List Rule_sample} (hw : WiO L) {M : List Int} (h : CutM r L M) : idx M 0 = some 0 ∧ idx M ((M.length : Int) - 1) = some EndM ∧ 2 ≤ (M.length : Int) := by
  obtain ⟨k, hk, hk'⟩ := RI.mem_idx ((h.mem 0).2 (.inl rfl))
  obtain ⟨j, hj, hj'⟩ := RI.mem_idx ((h.mem EndM).2 (.inr (.inl rfl)))
  have hkj : k < j := by
    rcases Nat.lt_trichotomy k j with c | c | c
    · exact c
    · subst c; rw [hk'] at hj'; simp [EndM] at hj'
    · have := h.srt.idx_lt hj' hk' (by omega); simp only [EndM] at this; omega
  refine ⟨?_, ?_, by omega⟩
  · by_cases e : k = 0
    · subst e; exact hk'
    · exfalso
      obtain ⟨x, hx, hxm, _⟩ := idx_lt M (i := 0) (by omega) (by omega)
      have := h.srt.idx_lt hx hk' (by omega)
      have := (h.bnd hr hw hxm).1
      omega
  · by_cases e : j = M.length - 1
    · rw [show ((M.length : Int) - 1) = (j : Int) by omega]; exact hj'
    · exfalso
      obtain ⟨x, hx, hxm, _⟩ := idx_lt M (i := (M.length : Int) - 1) (by omega) (by omega)
      have := h.srt.idx_lt hj' hx (by omega)
      have := (h.bnd hr hw hxm).2
      omega
/-! the next run that is long enough -/
theorem Runs.bnd {σ : Int → Int} {E : Int} : ∀ {rs : List (Int × Int × Int)} {a : Int}, Runs σ E a rs → ∀ x ∈ rs, a ≤ x.1 ∧ x.1 ≤ E
  | [], _, _ => by simp
  | y :: r, a, h => by
    cases h with
    | cons h1 h2 h3 h4 h5 =>
      intro x hx
      rcases List.mem_cons.1 hx with rfl | hx
      · exact ⟨Int.le_refl _, by simp only; omega⟩
      · have := Runs.bnd h5 x hx; omega
end Go.Beacon

/- Spells of rules: the program's are the reference's. Checks of rules. No program in sight. -/
set_option linter.unusedVariables false
set_option linter.unusedSimpArgs false
namespace Go.Beacon
open Go Go.Eng

/-- A loop over a list that lets a list grow. -/
theorem iter_grow {α β A X : Type} (xs : List α) (mk : List β → Int → X) (f : X → Option (X ⊕ A)) (g : α → List β) (B K : Int) (E : List β → Option A) (hB : ∀ x ∈ xs, ((g x).length : Int) ≤ B) (hB0 : 0 ≤ B)
    (h1 : ∀ s (i : Int) x, 0 ≤ i → i < xs.length → idx xs i = some x → (s.length : Int) ≤ K + B * xs.length → x ∈ xs → f (mk s i) = some (.inl (mk (s ++ g x) (i + 1))))
    (h2 : ∀ s, (s.length : Int) ≤ K + B * xs.length → f (mk s xs.length) = Option.map .inr (E s)) (s : List β) (h0 : (s.length : Int) ≤ K) : iter f (mk s 0) = E (s ++ xs.flatMap g) := by
  have hmono : ∀ i : Int, i ≤ xs.length → B * i ≤ B * xs.length := fun i hi => Int.mul_le_mul_of_nonneg_left hi hB0
  have main := iter_foldl (A := A) xs mk f (fun acc x => acc ++ g x) (fun i s => (s.length : Int) ≤ K + B * i) E
    (fun s i x i0 i1 hx hv => ⟨h1 s i x i0 i1 hx (by have := hmono i (by omega); omega) (idx_mem hx), by
      have := hB x (idx_mem hx)
      rw [List.length_append, Int.mul_add]; omega⟩)
    (fun s hv => h2 s hv) s (by simpa using h0)
  rw [main]
  congr 1
  have : ∀ (ys : List α) (acc : List β), ys.foldl (fun acc x => acc ++ g x) acc = acc ++ ys.flatMap g := by
    intro ys
    induction ys with
    | nil => intro acc; simp
    | cons y ys ih => intro acc; rw [List.foldl_cons, ih, List.flatMap_cons, List.append_assoc]
  exact this xs s
/-! devices -/
theorem rsrtS_perm (l : List Str) : (srtS l).Perm l := List.mergeSort_perm l _
def devL (l : List Sample) (m : Str) : List Str := l.flatMap (fun x => if x.Metric = m then [x.Device] else [])
theorem devL_len (m : Str) : ∀ l : List Sample, (devL l m).length ≤ l.length
  | [] => by simp [devL]
  | x :: r => by
    have := devL_len m r
    unfold devL at this ⊢
    rw [List.flatMap_cons, List.length_append, List.length_cons]
    have h : (if x.Metric = m then [x.Device] else []).length ≤ 1 := by split <;> simp
    omega
def devS (l : List Sample) (m : Str) : List Str := dd eqB (srtS (devL l m))
theorem devS_len (l : List Sample) (m : Str) : (devS l m).length ≤ l.length := by
  have h1 := dd_len eqB (srtS (devL l m))
  have h2 := (rsrtS_perm (devL l m)).length_eq
  have h3 := devL_len m l
  unfold devS; omega
theorem sortcpt (L : List Str) (hl : (L.length : Int) ≤ 5000) : (lenOk L.length (fun r : (List Str) => r.length) (slices_Sort_string_string L)).bind (fun v => slices_Compact_string_string v) = some (dd eqB (srtS L)) := by
  have hp := (rsrtS_perm L).length_eq
  unfold slices_Sort_string_string sort1 lenOk
  rw [if_pos (by omega)]
  simp only [Option.bind_some]
  rw [if_pos hp]
  simp only [Option.bind_some]
  exact gCpt_eq [] _ (by omega)
theorem devices_eq (l : List Sample) (hl : (l.length : Int) ≤ 5000) (m : Str) : rule_devices l m = some (devS l m) := by
  have hd := devL_len m l
  unfold rule_devices rule_devices_l1
  refine (iter_grow l (fun s i => (s, i)) (fun x : (List Str) × Int => rule_devices_b1 l m x.1 x.2) (fun x => if x.Metric = m then [x.Device] else []) 1 0 (rule_devices_k2) (fun x _ => by split <;> simp) (by omega) (fun s i x h0 h1 hx hs _ => ?_) (fun s hs => ?_) [] (by simp)).trans ?_
  · show rule_devices_b1 l m s i = _
    rw [rule_devices_b1, if_pos h1, hx]
    simp only [Option.bind_some]
    unfold rule_devices_j1
    rw [w64_in (x := i + 1) (by omega) (by omega)]
    by_cases h : x.Metric = m
    · rw [if_pos h, if_pos h, app_le (by simp; omega)]; rfl
    · rw [if_neg h, if_neg h, List.append_nil]
  · show rule_devices_b1 l m s l.length = _
    rw [rule_devices_b1, if_neg (by omega)]
  · rw [List.nil_append]
    show rule_devices_k2 (devL l m) = _
    unfold rule_devices_k2
    have := sortcpt (devL l m) (by omega)
    cases hx : lenOk (devL l m).length (fun r : (List Str) => r.length) (slices_Sort_string_string (devL l m)) with
    | none => rw [hx] at this; cases this
    | some v =>
      rw [hx] at this
      simp only [Option.bind_some] at this ⊢
      rw [this]; rfl
/-! the spells of a rule -/
/-- The times in which a rule fires, for each device. -/
structure FD (r : Rule) (l : List Sample) (f : Str → List (Int × Int)) : Prop where
  fr : ∀ d, FR r (seenL l r.Metric d) false 0 (f d)
  len : ∀ d, (f d).length ≤ 4 * l.length + 1
  sp : ∀ d, rule_spansOf r (seenL l r.Metric d) = some ((f d).map spW)
theorem FD_ok {r : Rule} (hr : RuO r) {l : List Sample} (hs : SaO l) : ∃ f, FD r l f := by
  obtain ⟨f, hf⟩ := Classical.skolem.1 (fun d => spans_ok hr (seen_wio hs r.Metric d))
  refine ⟨f, fun d => (hf d).1, fun d => ?_, fun d => (hf d).2.2⟩
  have h1 := (hf d).2.1
  have h2 : (seenL l r.Metric d).length ≤ l.length := by
    unfold seenL; rw [List.length_map]; exact List.length_filter_le _ _
  omega
def mkSp (d k : Str) (w : Int × Int) : Spell := ⟨d, k, w.1, w.2⟩
theorem seen_snoc (l : List Sample) (x : Sample) (m d : Str) : seenL (l ++ [x]) m d = seenL l m d ++ (if x.Metric = m ∧ x.Device = d then [toSm x] else []) := by
  unfold seenL
  rw [List.filter_append, List.map_append]
  congr 1
  unfold hitS
  by_cases h : x.Metric = m ∧ x.Device = d
  · rw [if_pos h]; simp [h.1, h.2]
  · rw [if_neg h]
    by_cases h1 : x.Metric = m
    · have h2 : ¬ x.Device = d := fun e => h ⟨h1, e⟩
      simp [h1, h2]
    · simp [h1]
theorem whole_eq {r : Rule} {l : List Sample} (hs : SaO l) {f : Str → List (Int × Int)} (hf : FD r l f) : rule_whole r l = some ((devS l r.Metric).flatMap fun d => (f d).map (mkSp d r.Key)) := by
  have hl := hs.len
  have hdl := devS_len l r.Metric
  have k2 : ∀ M : List (Str × List Rule_sample), (∀ d, mgetO M d [] = some (seenL l r.Metric d)) → rule_whole_k2 r l M = some ((devS l r.Metric).flatMap fun d => (f d).map (mkSp d r.Key)) := by
    intro M hM
    unfold rule_whole_k2
    rw [devices_eq l hl]
    simp only [Option.bind_some]
    unfold rule_whole_l2
    refine (iter_grow (devS l r.Metric) (fun s i => (s, i)) (fun x : (List Spell) × Int => rule_whole_b2 r M (devS l r.Metric) x.1 x.2) (fun d => (f d).map (mkSp d r.Key)) 20001 0 (fun s => some s) (fun d _ => by rw [List.length_map]; have := hf.len d; omega) (by omega) (fun s i d h0 h1 hd hsl _ => ?_) (fun s hsl => ?_) [] (by simp)).trans (by rw [List.nil_append])
    · show rule_whole_b2 r M (devS l r.Metric) s i = _
      rw [rule_whole_b2, if_pos h1, hd]
      simp only [Option.bind_some]
      rw [hM d]
      simp only [Option.bind_some]
      rw [hf.sp d]
      simp only [Option.bind_some]
      unfold rule_whole_l3
      have hfl := hf.len d
      refine (iter_grow ((f d).map spW) (fun s j => (s, j)) (fun x : (List Spell) × Int => rule_whole_b3 r i d ((f d).map spW) x.1 x.2) (fun w => [⟨d, r.Key, w.from_, w.to_⟩]) 1 500000000 (fun s => some (.inl (s, i + 1))) (fun _ _ => by simp) (by omega) (fun s j w j0 j1 hw hs2 _ => ?_) (fun s hs2 => ?_) s (by omega)).trans ?_
      · show rule_whole_b3 r i d ((f d).map spW) s j = _
        rw [List.length_map] at hs2
        rw [rule_whole_b3, if_pos j1, hw]
        simp only [Option.bind_some]
        rw [List.length_map] at j1
        rw [app_le (by simp; omega), w64_in (x := j + 1) (by omega) (by omega)]
        rfl
      · show rule_whole_b3 r i d ((f d).map spW) s ((f d).map spW).length = _
        rw [rule_whole_b3, if_neg (by omega), w64_in (x := i + 1) (by omega) (by omega)]
      · congr 3
        generalize f d = ws
        congr 1
        induction ws with
        | nil => rfl
        | cons w ws ih => simp only [List.map_cons, List.flatMap_cons, ih]; rfl
    · show rule_whole_b2 r M (devS l r.Metric) s (devS l r.Metric).length = _
      rw [rule_whole_b2, if_neg (by omega)]
  unfold rule_whole rule_whole_l1
  have key : ∀ (n : Nat) (i : Int) (M : List (Str × List Rule_sample)), 0 ≤ i → i + n = l.length → (∀ d, mgetO M d [] = some (seenL (l.take i.toNat) r.Metric d)) → iter (fun x : (List (Str × (List Rule_sample))) × Int => rule_whole_b1 r l x.1 x.2) (M, i) = some ((devS l r.Metric).flatMap fun d => (f d).map (mkSp d r.Key)) := by
    intro n
    induction n with
    | zero =>
      intro i M h0 hn hM
      rw [iter_eq]
      dsimp only
      rw [rule_whole_b1, if_neg (by omega), map_inr_after]
      refine k2 M fun d => ?_
      rw [hM d, List.take_of_length_le (by omega)]
    | succ n ih =>
      intro i M h0 hn hM
      obtain ⟨x, hx, _, _⟩ := idx_lt l (i := i) h0 (by omega)
      have hts := take_succ h0 hx
      have hseen : ∀ d, (seenL (l.take i.toNat) r.Metric d).length ≤ l.length := fun d => by
        unfold seenL
        rw [List.length_map]
        have h1 := List.length_filter_le (hitS r.Metric d) (l.take i.toNat)
        have h2 : (l.take i.toNat).length ≤ l.length := by rw [List.length_take]; omega
        omega
      rw [iter_eq]
      dsimp only
      rw [rule_whole_b1, if_pos (by omega), hx]
      simp only [Option.bind_some]
      by_cases hm : x.Metric = r.Metric
      · have hsl := hseen x.Device
        rw [if_pos hm, hM]
        simp only [Option.bind_some]
        rw [app_le (by simp; omega)]
        simp only [Option.bind_some]
        unfold rule_whole_j1
        rw [w64_in (x := i + 1) (by omega) (by omega)]
        simp only [Option.bind_some, after_inl]
        refine ih (i + 1) _ (by omega) (by omega) fun d => ?_
        rw [hts, seen_snoc]
        have hMd := hM d
        unfold mgetO at hMd ⊢
        rw [mget_mset]
        by_cases hd : x.Device = d
        · rw [if_pos hd, if_pos ⟨hm, hd⟩, hd]; rfl
        · rw [if_neg hd, if_neg (fun h => hd h.2), List.append_nil]; exact hMd
      · rw [if_neg hm]
        unfold rule_whole_j1
        rw [w64_in (x := i + 1) (by omega) (by omega)]
        simp only [Option.bind_some, after_inl]
        refine ih (i + 1) _ (by omega) (by omega) fun d => ?_
        rw [hts, seen_snoc, if_neg (fun h => hm h.1), List.append_nil]; exact hM d
  exact key l.length 0 [] (by omega) (by omega) (fun d => by simp [mgetO, mget_nil, seenL])
def cutS (w : Window) (s : Spell) : List Spell := if max s.From w.From < min s.To w.To then [⟨s.Device, s.Rule, max s.From w.From, min s.To w.To⟩] else []
theorem cut_eq (L : List Spell) (hl : (L.length : Int) ≤ 200000000) (w : Window) : rule_cut L w = some (L.flatMap (cutS w)) := by
  unfold rule_cut rule_cut_l1
  refine (iter_grow L (fun s i => (s, i)) (fun x : (List Spell) × Int => rule_cut_b1 L w x.1 x.2) (cutS w) 1 0 (fun s => some s) (fun x _ => by unfold cutS; split <;> simp) (by omega) (fun s i x h0 h1 hx hs _ => ?_) (fun s hs => ?_) [] (by simp)).trans (by rw [List.nil_append])
  · show rule_cut_b1 L w s i = _
    rw [rule_cut_b1, if_pos h1, hx]
    simp only [Option.bind_some]
    unfold rule_cut_j1 cutS
    rw [w64_in (x := i + 1) (by omega) (by omega)]
    by_cases h : max x.From w.From < min x.To w.To
    · rw [if_pos h, if_pos h, app_le (by simp; omega)]; rfl
    · rw [if_neg h, if_neg h, List.append_nil]
  · show rule_cut_b1 L w s L.length = _
    rw [rule_cut_b1, if_neg (by omega)]
/-- What a rule tells in a window. -/
def tellR (l : List Sample) (w : Window) (r : Rule) (f : Str → List (Int × Int)) : List Spell := (devS l r.Metric).flatMap fun d => (f d).flatMap fun t => cutS w (mkSp d r.Key t)
theorem flat_len {α β : Type} (g : α → List β) (B : Nat) : ∀ (l : List α), (∀ x ∈ l, (g x).length ≤ B) → (l.flatMap g).length ≤ B * l.length
  | [], _ => by simp
  | x :: r, h => by
    have h1 := h x (by simp)
    have h2 := flat_len g B r (fun y hy => h y (List.mem_cons_of_mem _ hy))
    rw [List.flatMap_cons, List.length_append, List.length_cons, Nat.mul_add]; omega
theorem tell_len {r : Rule} {l : List Sample} (hl : l.length ≤ 40) {f : Str → List (Int × Int)} (hf : FD r l f) (w : Window) : (tellR l w r f).length ≤ 8000 := by
  have hdl := devS_len l r.Metric
  have := flat_len (fun d => (f d).flatMap fun t => cutS w (mkSp d r.Key t)) 161 (devS l r.Metric) (fun d _ => by
    have h1 := flat_len (fun t => cutS w (mkSp d r.Key t)) 1 (f d) (fun t _ => by unfold cutS; split <;> simp)
    have h2 := hf.len d
    omega)
  unfold tellR
  have h3 := Nat.mul_le_mul_left 161 (Nat.le_trans hdl hl)
  omega
theorem whole_cut {r : Rule} {l : List Sample} (hs : SaO l) (hl : l.length ≤ 40) {f : Str → List (Int × Int)} (hf : FD r l f) (w : Window) : ∃ L, rule_whole r l = some L ∧ rule_cut L w = some (tellR l w r f) := by
  refine ⟨_, whole_eq hs hf, ?_⟩
  have hdl := devS_len l r.Metric
  have hlen := flat_len (fun d => (f d).map (mkSp d r.Key)) 161 (devS l r.Metric) (fun d _ => by
    rw [List.length_map]; have h2 := hf.len d; omega)
  have h3 := Nat.mul_le_mul_left 161 (Nat.le_trans hdl hl)
  rw [cut_eq _ (by omega)]
  congr 1
  unfold tellR
  generalize devS l r.Metric = D
  clear hlen h3 hdl
  induction D with
  | nil => rfl
  | cons d D ih =>
    rw [List.flatMap_cons, List.flatMap_append, ih, List.flatMap_cons]
    congr 1
    generalize f d = ws
    induction ws with
    | nil => rfl
    | cons t ws ih => rw [List.map_cons, List.flatMap_cons, List.flatMap_cons, ih]
def spO (a b : Spell) : Int := orL [cmpI a.From b.From, Lib.compareBytes a.Device b.Device, Lib.compareBytes a.Rule b.Rule]
theorem spO_3 : Cmp3 spO := (cmpI_3.on Spell.From).or ((cmpB_3.on Spell.Device).or ((cmpB_3.on Spell.Rule).or .or0))
theorem byFrom_eq (a b : Spell) : rule_byFrom a b = some (spO a b) := by
  unfold rule_byFrom
  rw [CompareI_eq]
  have h : cmp_Or_int [cmpI a.From b.From, Lib.compareBytes a.Device b.Device, Lib.compareBytes a.Rule b.Rule] = some (spO a b) := gOr_eq _ (by simp)
  rw [h]; rfl
theorem spsortP (L : List Spell) (hl : (L.length : Int) ≤ 100000) : ∃ Z, Z.Perm L ∧ lenOk L.length (fun r : (List Spell) => r.length) (slices_SortFunc_Spell_Spell L (fun y0 y1 => rule_byFrom y0 y1)) = some Z := by
  obtain ⟨Z, h1, h2, h3⟩ := sortO_eq (fun y0 y1 => rule_byFrom y0 y1) spO L (by omega) (fun a _ b _ => byFrom_eq a b) (spO_3.ord L)
  exact ⟨Z, h2, len_ok h1 h2.length_eq⟩
theorem Spells_prog {l : List Sample} (hs : SaO l) (hl : l.length ≤ 40) (w : Window) {rs : List Rule} (hr : ∀ r ∈ rs, RuO r ∧ r.Metric ≠ []) (hn : rs.length ≤ 10) : ∃ F : Rule → Str → List (Int × Int), (∀ r ∈ rs, FD r l (F r)) ∧ (∀ r ∈ rs, (tellR l w r (F r)).length ≤ 8000) ∧ ∃ Z, Z.length ≤ 80000 ∧ Z.Perm (rs.flatMap fun r => tellR l w r (F r)) ∧
    lenOk (rs.flatMap fun r => tellR l w r (F r)).length (fun r : (List Spell) => r.length) (slices_SortFunc_Spell_Spell (rs.flatMap fun r => tellR l w r (F r)) (fun y0 y1 => rule_byFrom y0 y1)) = some Z ∧ rule_Spells_l1 rs l w [] 0 = some (Z, 0) := by
  have hF : ∀ r : Rule, ∃ f, r ∈ rs → FD r l f := fun r => by
    by_cases h : r ∈ rs
    · obtain ⟨f, hf⟩ := FD_ok (hr r h).1 hs
      exact ⟨f, fun _ => hf⟩
    · exact ⟨fun _ => [], fun h' => (h h').elim⟩
  obtain ⟨F, hF⟩ := Classical.skolem.1 hF
  have hlen : ∀ r ∈ rs, (tellR l w r (F r)).length ≤ 8000 := fun r h => tell_len hl (hF r h) w
  have hall := flat_len (fun r => tellR l w r (F r)) 8000 rs hlen
  obtain ⟨Z, hz1, hz2⟩ := spsortP (rs.flatMap fun r => tellR l w r (F r)) (by omega)
  refine ⟨F, hF, hlen, Z, by rw [hz1.length_eq]; omega, hz1, hz2, ?_⟩
  unfold rule_Spells_l1
  refine (iter_grow rs (fun s i => (s, i)) (fun x : (List Spell) × Int => rule_Spells_b1 rs l w x.1 x.2) (fun r => tellR l w r (F r)) 8000 0 rule_Spells_k1 (fun r h => by have := hlen r h; omega) (by omega) (fun s i r h0 h1 hd hsl hrm => ?_) (fun s hsl => ?_) [] (by simp)).trans ?_
  · show rule_Spells_b1 rs l w s i = _
    rw [rule_Spells_b1, if_pos h1, hd]
    simp only [Option.bind_some]
    obtain ⟨L, e1, e2⟩ := whole_cut hs hl (hF r hrm) w
    have := hlen r hrm
    rw [e1]
    simp only [Option.bind_some]
    rw [e2]
    simp only [Option.bind_some]
    rw [app_le (by omega), w64_in (x := i + 1) (by omega) (by omega)]
    rfl
  · show rule_Spells_b1 rs l w s rs.length = _
    rw [rule_Spells_b1, if_neg (by omega)]
  · rw [List.nil_append]
    unfold rule_Spells_k1
    rw [hz2]; rfl
end Go.Beacon

/- Checks of rules, faults, the constant example. No program in sight. -/
set_option linter.unusedVariables false
set_option linter.unusedSimpArgs false
namespace Go.Beacon
open Go Go.Eng

/-! checks of rules -/
def leB (a b : Str) : Bool := Op.bytesLess a b || a == b
def ru3 (r : Rule) : Prop := (r.Long < 1 ∨ 2592000000 < r.Long) ∨ (r.On < -1000000000 ∨ 1000000000 < r.On) ∨ (r.Off < -1000000000 ∨ 1000000000 < r.Off) ∨ (r.Above = true ∧ r.On < r.Off) ∨ (r.Above = false ∧ r.Off < r.On) ∨ (r.Hold < 0 ∨ 2592000000 < r.Hold) ∨ (r.Rest < 0 ∨ 2592000000 < r.Rest)
instance (r : Rule) : Decidable (ru3 r) := by unfold ru3; infer_instance
def ru2 (r : Rule) : Int := if keyB r.Metric = false then 5 else if r.Agg < 1 ∨ 6 < r.Agg then 4 else if ru3 r then 1 else if r.Empty < 0 ∨ 2 < r.Empty then 4 else 0
def ordB (prev : Option Rule) (r : Rule) : Bool := match prev with | none => false | some p => leB r.Key p.Key
def ruStep (prev : Option Rule) (r : Rule) : Int := if keyB r.Key = false then 5 else if ordB prev r = true then 7 else ru2 r
def chkR (rs : List Rule) : Int := if (100 : Int) < rs.length then 2 else scanC ruStep none rs
theorem Out_iff (n lo hi : Int) : base_Out n lo hi = decide (n < lo ∨ hi < n) := by rw [Out_eq, Bool.decide_or]
theorem Qin_iff (n lo hi : Int) : (!(Q_in n lo hi)) = decide (n < lo ∨ hi < n) := by
  rw [Qin_eq, Bool.eq_iff_iff]
  simp only [Bool.not_eq_true', Bool.and_eq_false_iff, decide_eq_false_iff_not, decide_eq_true_eq]
  omega
abbrev stepR (n : Int) (e : Int) : Option (Int ⊕ Int) := some (if e = 0 then .inl (n + 1) else .inr e)
theorem cr_j8 {n : Int} (hn : 0 ≤ n ∧ n ≤ 1000) (r : Rule) (c : Bool) : rule_CheckRules_j8 n r c = stepR n (if c = true then 1 else if r.Empty < 0 ∨ 2 < r.Empty then 4 else 0) := by
  unfold rule_CheckRules_j8 stepR
  rw [w64_in (by omega) (by omega), Out_iff]
  cases c
  · by_cases h : r.Empty < 0 ∨ 2 < r.Empty
    · simp [h]
    · simp [h]
  · simp
theorem cr_j2 {n : Int} (hn : 0 ≤ n ∧ n ≤ 1000) (r : Rule) (c : Bool) : rule_CheckRules_j2 n r c = stepR n (if c = true ∨ (r.Hold < 0 ∨ 2592000000 < r.Hold) ∨ (r.Rest < 0 ∨ 2592000000 < r.Rest) then 1 else if r.Empty < 0 ∨ 2 < r.Empty then 4 else 0) := by
  unfold rule_CheckRules_j2
  rw [cr_j8 hn, cr_j8 hn, Out_iff, Out_iff]
  cases c
  · by_cases h : r.Hold < 0 ∨ 2592000000 < r.Hold
    · simp [h]
    · by_cases h2 : r.Rest < 0 ∨ 2592000000 < r.Rest
      · simp [h, h2]
      · simp [h, h2]
  · simp [stepR]
theorem cr_j1 {n : Int} (hn : 0 ≤ n ∧ n ≤ 1000) (r : Rule) (c : Bool) : rule_CheckRules_j1 n r c = stepR n (if c = true then 7 else ru2 r) := by
  unfold rule_CheckRules_j1 ru2
  cases c
  · rw [if_neg (by simp), Key_eq]
    simp only [Option.bind_some, Bool.false_eq_true, if_false]
    cases hk : keyB r.Metric
    · simp [stepR]
    · simp only [Bool.not_true, Bool.false_eq_true, if_false, Bool.true_eq_false]
      rw [Out_iff, Out_iff]
      by_cases ha : r.Agg < 1 ∨ 6 < r.Agg
      · simp [ha, stepR]
      · simp only [ha, decide_false, Bool.false_eq_true, if_false]
        unfold rule_CheckRules_j3 rule_CheckRules_j4 rule_CheckRules_j5 rule_CheckRules_j6 rule_CheckRules_j7 rule_CheckRules_1x ru3
        unfold rule_CheckRules_j4 rule_CheckRules_j6
        unfold rule_CheckRules_j3 rule_CheckRules_j4
        unfold rule_CheckRules_j3
        simp only [cr_j2 hn, Bool.not_not, Out_iff, decide_eq_true_eq]
        by_cases h1 : r.Long < 1 ∨ 2592000000 < r.Long
        · simp [h1]
        · by_cases h2 : r.On < -1000000000 ∨ 1000000000 < r.On
          · simp [h1, h2]
          · by_cases h3 : r.Off < -1000000000 ∨ 1000000000 < r.Off
            · simp [h1, h2, h3]
            · rcases Bool.eq_false_or_eq_true r.Above with hab | hab
              · by_cases h4 : r.On < r.Off
                · simp [h1, h2, h3, h4, hab]
                · simp [h1, h2, h3, h4, hab]
              · by_cases h5 : r.Off < r.On
                · simp [h1, h2, h3, h5, hab]
                · simp [h1, h2, h3, h5, hab]
  · simp [stepR]
theorem CheckRules_eq (rs : List Rule) : rule_CheckRules rs = some (chkR rs) := by
  unfold rule_CheckRules chkR
  split
  · rfl
  · rename_i hl
    unfold rule_CheckRules_l1
    refine scan_all ruStep rs _ (fun {i s} h0 h1 hs => ?_) (by show rule_CheckRules_b1 rs _ = _; rw [rule_CheckRules_b1, if_neg (by omega)]; rfl)
    show rule_CheckRules_b1 rs i = _
    rw [rule_CheckRules_b1, if_pos h1, hs]
    simp only [Option.bind_some, Key_eq]
    unfold ruStep
    cases hk : keyB s.Key
    · simp
    · simp only [Bool.not_true, Bool.false_eq_true, if_false, Bool.true_eq_false]
      by_cases hi : 0 < i
      · obtain ⟨p, hp, _, _⟩ := idx_lt rs (i := i - 1) (by omega) (by omega)
        have hpa : prevOf rs i = some p := by unfold prevOf; rw [if_neg (by omega), hp]
        rw [hpa, if_pos hi, w64_in (by omega) (by omega), hp]
        simp only [Option.bind_some]
        rw [cr_j1 ⟨h0, by omega⟩]
        rfl
      · have hpa : prevOf rs i = none := by unfold prevOf; rw [if_pos (by omega)]
        rw [hpa, if_neg hi, cr_j1 ⟨h0, by omega⟩]
        rfl
theorem qr_j2 {n : Int} (hn : 0 ≤ n ∧ n ≤ 1000) (r : Rule) (c : Bool) : Q_RulesFault_j2 n r c = stepR n (if c = true then 1 else if r.Empty < 0 ∨ 2 < r.Empty then 4 else 0) := by
  unfold Q_RulesFault_j2 stepR
  rw [w64_in (by omega) (by omega), Qin_iff]
  cases c
  · by_cases h : r.Empty < 0 ∨ 2 < r.Empty
    · simp [h]
    · simp [h]
  · simp
theorem qr_j1 {n : Int} (hn : 0 ≤ n ∧ n ≤ 1000) (r : Rule) (c : Bool) : Q_RulesFault_j1 n r c = stepR n (if c = true then 7 else ru2 r) := by
  unfold Q_RulesFault_j1 ru2
  cases c
  · rw [if_neg (by simp), QKeyT_eq]
    simp only [Option.bind_some, Bool.false_eq_true, if_false]
    cases hk : keyB r.Metric
    · simp [stepR]
    · simp only [Bool.not_true, Bool.false_eq_true, if_false, Bool.true_eq_false]
      rw [Qin_iff]
      by_cases ha : r.Agg < 1 ∨ 6 < r.Agg
      · simp [ha, stepR]
      · simp only [ha, decide_false, Bool.false_eq_true, if_false]
        rw [qr_j2 hn]
        congr 2
        have e : ∀ (a b : Bool) (P : Prop) [Decidable P], (a || b) = decide P → ((a || b) = true ↔ P) := fun a b P _ h => by rw [h]; simp
        have key : ((!(Q_in r.Long (1 : Int) (2592000000 : Int))) || ((!(Q_RulesFault_1x r.On)) || ((!(Q_RulesFault_1x r.Off)) || (if r.Above = true then (decide (r.On < r.Off)) || (if (!r.Above) = true then (decide (r.Off < r.On)) || ((!(Q_in r.Hold (0 : Int) (2592000000 : Int))) || (!(Q_in r.Rest (0 : Int) (2592000000 : Int)))) else (!(Q_in r.Hold (0 : Int) (2592000000 : Int))) || (!(Q_in r.Rest (0 : Int) (2592000000 : Int)))) else if (!r.Above) = true then (decide (r.Off < r.On)) || ((!(Q_in r.Hold (0 : Int) (2592000000 : Int))) || (!(Q_in r.Rest (0 : Int) (2592000000 : Int)))) else (!(Q_in r.Hold (0 : Int) (2592000000 : Int))) || (!(Q_in r.Rest (0 : Int) (2592000000 : Int))))))) = decide (ru3 r) := by
          unfold Q_RulesFault_1x ru3
          rw [Qin_iff, Qin_iff, Qin_iff, Qin_iff, Qin_iff]
          rw [Bool.eq_iff_iff]
          rcases Bool.eq_false_or_eq_true r.Above with hab | hab
          · simp only [hab, Bool.not_true, if_true, Bool.false_eq_true, if_false, Bool.true_eq_false, false_and, true_and, false_or, Bool.or_eq_true, decide_eq_true_eq]
          · simp only [hab, Bool.not_false, if_true, Bool.false_eq_true, if_false, false_and, true_and, false_or, Bool.or_eq_true, decide_eq_true_eq]
        rw [key]
        by_cases h : ru3 r
        · simp [h]
        · simp [h]
  · simp [stepR]
theorem RulesFault_eq (rs : List Rule) : Q_RulesFault rs = some (chkR rs) := by
  unfold Q_RulesFault chkR
  split
  · rfl
  · rename_i hl
    unfold Q_RulesFault_l1
    refine scan_all ruStep rs _ (fun {i s} h0 h1 hs => ?_) (by show Q_RulesFault_b1 rs _ = _; rw [Q_RulesFault_b1, if_neg (by omega)]; rfl)
    show Q_RulesFault_b1 rs i = _
    rw [Q_RulesFault_b1, if_pos h1, hs]
    simp only [Option.bind_some, QKeyT_eq]
    unfold ruStep
    cases hk : keyB s.Key
    · simp
    · simp only [Bool.not_true, Bool.false_eq_true, if_false, Bool.true_eq_false]
      by_cases hi : 0 < i
      · obtain ⟨p, hp, _, _⟩ := idx_lt rs (i := i - 1) (by omega) (by omega)
        have hpa : prevOf rs i = some p := by unfold prevOf; rw [if_neg (by omega), hp]
        rw [hpa, if_pos hi, w64_in (by omega) (by omega), hp]
        simp only [Option.bind_some]
        rw [qr_j1 ⟨h0, by omega⟩]
        rfl
      · have hpa : prevOf rs i = none := by unfold prevOf; rw [if_pos (by omega)]
        rw [hpa, if_neg hi, qr_j1 ⟨h0, by omega⟩]
        rfl
theorem ru2_zero {r : Rule} (h : ru2 r = 0) : RuO r ∧ r.Metric ≠ [] := by
  unfold ru2 at h
  split at h
  · cases h
  · rename_i hk
    split at h
    · cases h
    · rename_i ha
      split at h
      · cases h
      · rename_i h3
        split at h
        · cases h
        · rename_i he
          unfold ru3 at h3
          refine ⟨⟨by omega, by omega, by omega, by omega, by omega, by omega, by omega⟩, fun e => ?_⟩
          rw [e] at hk; exact hk rfl
theorem chkR_zero {rs : List Rule} (h : chkR rs = 0) : (∀ r ∈ rs, RuO r ∧ r.Metric ≠ []) ∧ rs.length ≤ 100 := by
  unfold chkR at h
  split at h
  · cases h
  · rename_i hl
    refine ⟨fun r hr => ?_, by omega⟩
    obtain ⟨i, hi, rfl⟩ := List.getElem_of_mem hr
    have h1 := scanC_zero rs none h i rs[i] (List.getElem?_eq_getElem hi)
    unfold ruStep at h1
    by_cases c1 : keyB rs[i].Key = false
    · rw [if_pos c1] at h1; cases h1
    · rw [if_neg c1] at h1
      by_cases c2 : ordB (if i = 0 then none else rs[i - 1]?) rs[i] = true
      · rw [if_pos c2] at h1; cases h1
      · rw [if_neg c2] at h1; exact ru2_zero h1
/-! faults -/
def winB (w : Window) : Bool := decide (0 ≤ w.From) && decide (w.From ≤ w.To) && decide (w.To ≤ 345686400000)
def winF (w : Window) : Int := if winB w = true then 0 else 1
theorem RWindow_eq (w : Window) : base_Window w = winB w := by
  unfold base_Window base_Window_j1 winB
  rw [Out_eq, Bool.eq_iff_iff]; simp
theorem RFirst2 (a b : Int) : base_First [a, b] = some (orL [a, b]) := gOr_eq _ (by simp)
theorem rfault_eq (rs : List Rule) (l : List Sample) (w : Window) : rule_fault rs l w = some (orL [chkR rs, chkM l, winF w]) := by
  unfold rule_fault rule_fault_j1 rule_fault_j2
  rw [CheckRules_eq, CheckSamples_eq]
  simp only [Option.bind_some, RFirst2, RWindow_eq]
  unfold winF
  by_cases h1 : chkR rs = 0
  · by_cases h2 : chkM l = 0
    · cases hw : winB w <;> simp [h1, h2, hw, orL]
    · simp [h1, h2, orL]
  · simp [h1, orL]
/-! the constant example -/
def exR : Rule := ⟨[114], [116], 1, 10, true, 1, 1, 0, 0, 0⟩
def exL : List Sample := [⟨[100], [116], 0, 1⟩]
theorem exR_ok : RuO exR := ⟨by decide, by decide, by decide, by decide, by decide, by decide, by decide⟩
theorem exL_ok : SaO exL := ⟨by decide, by decide, by decide, List.pairwise_singleton _ _⟩
theorem ex_sig (t : Int) (h : 0 ≤ t) : sigW exR (seenL exL [116] [100]) t = if t < 10 then 1 else 0 := by
  have hs : seenL exL [116] [100] = [⟨0, 1⟩] := by decide
  rw [hs]
  unfold sigW winAt
  by_cases c : t < 10
  · rw [if_pos c, List.filter_cons_of_pos (by simp only [decide_eq_true_eq]; exact ⟨by show t - 10 < (0 : Int); omega, h⟩), List.filter_nil]
    decide
  · rw [if_neg c, List.filter_cons_of_neg (by simp only [decide_eq_true_eq]; exact fun k => by have k1 : t - 10 < (0 : Int) := k.1; omega), List.filter_nil]
    decide
theorem ex_FR : FR exR (seenL exL exR.Metric [100]) false 0 [(0, EndM)] := by
  refine FF.up (t := 0) ⟨⟨by decide, by decide, fun u h1 h2 => ?_⟩, fun t' ht k => ?_⟩ (FF.stay fun t k => ?_)
  · rw [show u = 0 by simp [exR] at h1; omega]
    exact ex_sig 0 (by omega)
  · have := k.1; simp [exR] at this; omega
  · have h1 := k.1
    have h2 := k.2.2 t (by simp [exR]) (Int.le_refl _)
    rw [show exR.Metric = [116] from rfl, ex_sig t (by simp [exR] at h1; omega)] at h2
    split at h2 <;> omega
theorem ruled_eq : L_ruled = some true := by
  unfold L_ruled L_ruled_j1
  have hR : chkR [exR] = 0 := by decide
  have hM : chkM exL = 0 := by decide
  have hW : winF ⟨0, 5⟩ = 0 := by decide
  have h0 : orL [chkR [exR], chkM exL, winF ⟨0, 5⟩] = 0 := by rw [hR, hM, hW]; rfl
  obtain ⟨F, hF, _, Z, _, hp, _, z2⟩ := Spells_prog exL_ok (by decide) ⟨0, 5⟩ (rs := [exR]) (fun r hr => (show r = exR by simpa using hr) ▸ ⟨exR_ok, by decide⟩) (by decide)
  have hf := hF exR (by simp)
  rw [List.flatMap_cons, List.flatMap_nil, List.append_nil] at hp
  generalize F exR = f at *
  have hf1 : f [100] = [(0, EndM)] := (hf.fr [100]).uniq ex_FR
  have ht : tellR exL ⟨0, 5⟩ exR f = [⟨[100], [114], 0, 5⟩] := by
    unfold tellR
    rw [show devS exL exR.Metric = [[100]] by
      unfold devS
      rw [show devL exL exR.Metric = [[100]] by decide]
      simp [srtS, dd, ddA]]
    simp only [List.flatMap_cons, List.flatMap_nil, List.append_nil, hf1]
    decide
  rw [ht] at hp
  have hZ : Z = [⟨[100], [114], 0, 5⟩] := List.perm_singleton.1 hp
  have hS : rule_Spells [exR] exL ⟨0, 5⟩ = some (Z, 0) := by
    unfold rule_Spells
    rw [rfault_eq, h0]
    simp only [Option.bind_some]
    rw [if_neg (by simp)]
    exact z2
  rw [show rule_Spells [(⟨([114] : Str), ([116] : Str), (1 : Int), (10 : Int), true, (1 : Int), (1 : Int), (0 : Int), (0 : Int), (0 : Int)⟩ : Rule)] [(⟨([100] : Str), ([116] : Str), (0 : Int), (1 : Int)⟩ : Sample)] (⟨(0 : Int), (5 : Int)⟩ : Window) = some (Z, 0) from hS]
  simp only [Option.bind_some, if_true]
  rw [hZ, show slices_Equal_Spell_Spell [⟨[100], [114], 0, 5⟩] [⟨[100], [114], 0, 5⟩] = some true from (gEqual_eq _ _ (by simp)).trans (by simp)]
  rfl
/-! streams -/
theorem RightRule_k {s : Stm} {k : Str} {K : Int} (hs : SOk s K) (hK : 20 ≤ K) : Gen (Stream_RightRule s k) (K - 20) (fun _ => True) := by
  refine Gen.of ?_
  unfold Stream_RightRule Stream_RightRule_j1
  refine Ok.gen (Some_k hs (by omega) (by simp) (by simp)) (fun a s1 ha q1 => ?_)
  refine Ok.gen (Range_k q1 (by omega) (by omega) (by omega) (by omega)) (fun b s2 hb q2 => ?_)
  refine Ok.gen (Pick_k q2 (by omega) (by simp) (by simp)) (fun c s3 hc q3 => ?_)
  refine Ok.gen (Flip_k q3 (by omega) (by omega) (by omega)) (fun d s4 hd q4 => ?_)
  refine Ok.gen (Pick_k q4 (by omega) (by simp) (by simp)) (fun e s5 he q5 => ?_)
  refine Ok.gen (Pick_k q5 (by omega) (by simp) (by simp)) (fun f s6 hf q6 => ?_)
  refine Ok.gen (Pick_k q6 (by omega) (by simp) (by simp)) (fun g s7 hg q7 => ?_)
  refine Ok.gen (Pick_k q7 (by omega) (by simp) (by simp)) (fun h s8 hh q8 => ?_)
  refine Ok.gen (Pick_k q8 (by omega) (by simp) (by simp)) (fun i s9 hi q9 => ?_)
  split
  · exact Ok.ret ⟨trivial, q9.less (by omega)⟩
  · exact Ok.ret ⟨trivial, q9.less (by omega)⟩
theorem Rules_k {s : Stm} {K : Int} (hs : SOk s K) (hK : 200 ≤ K) : Gen (Stream_Rules s) (K - 200) (fun l => (l.length : Int) ≤ 4) := by
  refine Gen.of ?_
  unfold Stream_Rules Stream_Rules_l1
  refine Ok.iter (fun x : List Int × Int × List Rule × Int => (3 - x.2.2.2).toNat) (fun x : List Int × Int × List Rule × Int => 0 ≤ x.2.2.2 ∧ x.2.2.2 ≤ 3 ∧ SOk ⟨x.1, x.2.1⟩ (K - 100 + 30 * (3 - x.2.2.2)) ∧ (x.2.2.1.length : Int) ≤ x.2.2.2) ?_ _ ⟨by simp, by simp, hs.less (by simp; omega), by simp⟩
  rintro ⟨L, c, l, n⟩ ⟨g0, g1, g2, g3⟩
  simp only at g0 g1 g2 g3 ⊢
  unfold Stream_Rules_b1
  by_cases hn : n < 3
  · rw [if_pos (by simpa using hn)]
    refine Ok.idx g0 (by simpa using hn) (fun k hk _ => ?_)
    refine Ok.gen (Flip_k g2 (by omega) (by omega) (by omega)) (fun p4 s4 _ q4 => ?_)
    unfold Stream_Rules_j1
    rw [w64_in (x := n + 1) (by omega) (by omega)]
    split
    · refine Ok.gen (RightRule_k q4 (by omega)) (fun v s5 _ q5 => ?_)
      refine Ok.app (by simp; omega) ?_
      exact Ok.ret ⟨⟨by (try simp only); omega, by (try simp only); omega, q5.less (by (try simp only); omega), by simp; omega⟩, by (try simp only); omega⟩
    · exact Ok.ret ⟨⟨by (try simp only); omega, by (try simp only); omega, q4.less (by (try simp only); omega), by (try simp only); omega⟩, by (try simp only); omega⟩
  · rw [if_neg (by simpa using hn)]
    refine Ok.inr ?_
    unfold Stream_Rules_k6 Stream_Rules_j2
    refine Ok.gen (Flip_k g2 (by omega) (by omega) (by omega)) (fun p s1 _ q1 => ?_)
    split
    · refine Ok.gen (Some_k q1 (by omega) (by simp) (by simp)) (fun a s2 _ q2 => ?_)
      refine Ok.gen (RightRule_k q2 (by omega)) (fun v s3 _ q3 => ?_)
      refine Ok.gen (Next_k q3 (by omega) (by omega) (by omega)) (fun u s4 hu q4 => ?_)
      unfold Stream_Rules_j5 Stream_Rules_j4 Stream_Rules_j3 Stream_Rules_j2
      dsimp only
      split
      · refine Ok.gen (Odd_k q4 (by omega) (by omega) (by omega) (by omega)) (fun b s5 _ q5 => ?_)
        refine Ok.gen (Odd_k q5 (by omega) (by omega) (by omega) (by omega)) (fun b2 s6 _ q6 => ?_)
        refine Ok.app (by simp; omega) (Ok.ret ⟨by simp; omega, q6.less (by (try simp only); omega)⟩)
      · split
        · refine Ok.gen (Odd_k q4 (by omega) (by omega) (by omega) (by omega)) (fun b s5 _ q5 => ?_)
          refine Ok.gen (Odd_k q5 (by omega) (by omega) (by omega) (by omega)) (fun b2 s6 _ q6 => ?_)
          refine Ok.gen (Odd_k q6 (by omega) (by omega) (by omega) (by omega)) (fun b3 s7 _ q7 => ?_)
          refine Ok.app (by simp; omega) (Ok.ret ⟨by simp; omega, q7.less (by (try simp only); omega)⟩)
        · split
          · refine Ok.gen (Odd_k q4 (by omega) (by omega) (by omega) (by omega)) (fun b s5 _ q5 => ?_)
            refine Ok.gen (Odd_k q5 (by omega) (by omega) (by omega) (by omega)) (fun b2 s6 _ q6 => ?_)
            refine Ok.app (by simp; omega) (Ok.ret ⟨by simp; omega, q6.less (by (try simp only); omega)⟩)
          · refine Ok.gen (Some_k q4 (by omega) (by simp) (by simp)) (fun b s5 _ q5 => ?_)
            refine Ok.app (by simp; omega) (Ok.ret ⟨by simp; omega, q5.less (by (try simp only); omega)⟩)
    · exact Ok.ret ⟨by (try simp only); omega, q1.less (by (try simp only); omega)⟩
end Go.Beacon

/- RuleTexts: the law. No program in sight. -/
set_option linter.unusedVariables false
set_option linter.unusedSimpArgs false
namespace Go.Beacon
open Go Go.Eng

theorem keyB_len {s : Str} (h : keyB s = true) : s.length ≤ 40 := by
  cases s with
  | nil => simp
  | cons c r =>
    rw [keyB_cons] at h
    simp only [Bool.and_eq_true, decide_eq_true_eq] at h
    exact h.1.1
/-! words -/
theorem Index_eq (L : List Str) (x : Str) (h : L.length ≤ 1000000) : slices_Index_string_string L x = some (findI (fun y => decide (x = y)) L 0) := by
  unfold slices_Index_string_string
  have key : ∀ (m : Nat) (n : Int), 0 ≤ n → n + m = L.length → slices_Index_string_string_l1 L x n = some (findI (fun y => decide (x = y)) (L.drop n.toNat) n) := by
    intro m
    induction m with
    | zero =>
      intro n h0 hn
      unfold slices_Index_string_string_l1
      rw [iter_eq, slices_Index_string_string_b1, if_neg (by omega), map_inr_after, List.drop_of_length_le (by omega)]; rfl
    | succ m ih =>
      intro n h0 hn
      obtain ⟨s, hs, _, hd⟩ := idx_lt L h0 (by omega)
      unfold slices_Index_string_string_l1
      rw [iter_eq, slices_Index_string_string_b1, if_pos (by omega), hs]
      simp only [Option.bind_some]
      rw [hd]
      unfold findI
      by_cases e : x = s
      · rw [if_pos e, map_inr_after, if_pos (by simpa using e)]
      · rw [if_neg e, w64_in (by omega) (by omega), if_neg (by simpa using e)]
        simp only [Option.bind_some, after_inl]
        exact ih (n + 1) (by omega) (by omega)
  exact key L.length 0 (by omega) (by omega)
def aggI (w : Str) : Int := if w = [108, 97, 115, 116] then 1 else if w = [109, 105, 110] then 2 else if w = [109, 97, 120] then 3 else if w = [109, 101, 97, 110] then 4 else if w = [99, 111, 117, 110, 116] then 5 else if w = [99, 104, 97, 110, 103, 101] then 6 else 0
def empI (w : Str) : Int := if w = [107, 101, 101, 112] then 0 else if w = [111, 102, 102] then 1 else if w = [111, 110] then 2 else -1
theorem agg_ix (w : Str) : slices_Index_string_string rule_aggregates w = some (aggI w - 1) := by
  rw [Index_eq _ _ (by unfold rule_aggregates; simp)]
  congr 1
  unfold rule_aggregates aggI
  simp only [findI, decide_eq_true_eq]
  repeat' split
  all_goals rfl
theorem qagg_ix (w : Str) (hw : w ≠ []) : slices_Index_string_string Q_aggs w = some (if aggI w = 0 then -1 else aggI w) := by
  rw [Index_eq _ _ (by unfold Q_aggs; simp)]
  congr 1
  unfold Q_aggs aggI
  simp only [findI, decide_eq_true_eq]
  rw [if_neg hw]
  repeat' split
  all_goals first | rfl | (exfalso; simp_all; done) | simp_all
theorem aggI_pos (w : Str) : 0 ≤ aggI w ∧ aggI w ≤ 6 := by
  unfold aggI
  repeat' split
  all_goals omega
theorem emp_ix (w : Str) : slices_Index_string_string rule_empties w = some (empI w) ∧ slices_Index_string_string Q_empties w = some (empI w) := by
  constructor
  · rw [Index_eq _ _ (by unfold rule_empties; simp)]
    congr 1
    unfold rule_empties empI
    simp only [findI, decide_eq_true_eq]
    repeat' split
    all_goals rfl
  · rw [Index_eq _ _ (by unfold Q_empties; simp)]
    congr 1
    unfold Q_empties empI
    simp only [findI, decide_eq_true_eq]
    repeat' split
    all_goals rfl
/-! writing -/
noncomputable def aggW (n : Int) : Str := (rule_aggregates[(n - 1).toNat]?).getD []
noncomputable def empW (n : Int) : Str := (rule_empties[n.toNat]?).getD []
theorem aggW_ix {n : Int} (h : 1 ≤ n ∧ n ≤ 6) : idx rule_aggregates (w64 (n - 1)) = some (aggW n) ∧ idx Q_aggs n = some (aggW n) ∧ (aggW n).length ≤ 6 := by
  rw [w64_in (by omega) (by omega)]
  have : n = 1 ∨ n = 2 ∨ n = 3 ∨ n = 4 ∨ n = 5 ∨ n = 6 := by omega
  rcases this with e | e | e | e | e | e <;> subst e <;> exact ⟨rfl, rfl, by decide⟩
theorem empW_ix {n : Int} (h : 0 ≤ n ∧ n ≤ 2) : idx rule_empties n = some (empW n) ∧ idx Q_empties n = some (empW n) ∧ (empW n).length ≤ 4 := by
  have : n = 0 ∨ n = 1 ∨ n = 2 := by omega
  rcases this with e | e | e <;> subst e <;> exact ⟨rfl, rfl, by decide⟩
theorem side_len (b : Bool) : (rule_side b).length ≤ 5 := by cases b <;> decide
theorem side_get (b : Bool) : mgetO ([(true, ([97, 98, 111, 118, 101] : Str)), (false, ([98, 101, 108, 111, 119] : Str))] : List (Bool × Str)) b [] = some (rule_side b) := by cases b <;> rfl
noncomputable def rulW (r : Rule) : List Str := [r.Key, r.Metric, aggW r.Agg, Lib.itoa r.Long, rule_side r.Above, Lib.itoa r.On, Lib.itoa r.Off, Lib.itoa r.Hold, Lib.itoa r.Rest, empW r.Empty]
noncomputable def rulL (r : Rule) : Str := joinW [32] (rulW r) ++ [10]
noncomputable def rulT (l : List Rule) : Str := l.flatMap rulL
def RW (r : Rule) : Prop := RuO r ∧ r.Key.length ≤ 40 ∧ r.Metric.length ≤ 40
theorem RW.nb {r : Rule} (h : RW r) : NB r.Long ∧ NB r.On ∧ NB r.Off ∧ NB r.Hold ∧ NB r.Rest := by
  obtain ⟨⟨h1, h2, h3, h4, h5, _, _⟩, _⟩ := h
  unfold NB
  exact ⟨by omega, by omega, by omega, by omega, by omega⟩
theorem rulW_len {r : Rule} (h : RW r) : ∀ s ∈ rulW r, s.length ≤ 40 := by
  obtain ⟨n1, n2, n3, n4, n5⟩ := h.nb
  have a1 := (itoa_nb n1).2
  have a2 := (itoa_nb n2).2
  have a3 := (itoa_nb n3).2
  have a4 := (itoa_nb n4).2
  have a5 := (itoa_nb n5).2
  have a6 := (aggW_ix h.1.agg).2.2
  have a7 := (empW_ix h.1.empty).2.2
  have a8 := side_len r.Above
  have a9 := h.2
  intro s hs
  unfold rulW at hs
  simp only [List.mem_cons, List.not_mem_nil, or_false] at hs
  rcases hs with e | e | e | e | e | e | e | e | e | e <;> subst e <;> omega
theorem joinW_lenB : ∀ (L : List Str) (B : Nat), (∀ s ∈ L, s.length ≤ B) → (joinW [32] L).length ≤ (B + 1) * L.length
  | [], B, _ => by simp [joinW]
  | x :: L, B, h => by
    have key : ∀ M : List Str, (∀ s ∈ M, s.length ≤ B) → (M.flatMap (fun y => [32] ++ y)).length ≤ (B + 1) * M.length := by
      intro M
      induction M with
      | nil => intro _; simp
      | cons y M ih =>
        intro hM
        have h1 := hM y (by simp)
        have h2 := ih (fun s hs => hM s (List.mem_cons_of_mem _ hs))
        rw [List.flatMap_cons, List.length_append, List.length_cons, Nat.mul_add, Nat.mul_one]
        simp only [List.length_append, List.length_cons, List.length_nil]
        omega
    have h1 := h x (by simp)
    have h2 := key L (fun s hs => h s (List.mem_cons_of_mem _ hs))
    show (x ++ L.flatMap (fun y => [32] ++ y)).length ≤ _
    rw [List.length_append, List.length_cons, Nat.mul_add, Nat.mul_one]
    omega
theorem rulL_len {r : Rule} (h : RW r) : (rulL r).length ≤ 411 := by
  have := joinW_lenB (rulW r) 40 (rulW_len h)
  unfold rulL
  rw [List.length_append, List.length_singleton]
  have e : (rulW r).length = 10 := rfl
  rw [e] at this
  omega
theorem rulT_take {l : List Rule} (h : ∀ r ∈ l, RW r) (n : Nat) : (rulT (l.take n)).length ≤ 411 * n := by
  have key : ∀ k : List Rule, (∀ s ∈ k, s ∈ l) → (rulT k).length ≤ 411 * k.length := by
    intro k
    induction k with
    | nil => intro _; simp [rulT]
    | cons x k ih =>
      intro hk
      have h1 := rulL_len (h x (hk x (by simp)))
      have h2 := ih (fun s hs => hk s (List.mem_cons_of_mem _ hs))
      unfold rulT at h2 ⊢
      rw [List.flatMap_cons, List.length_append, List.length_cons]
      omega
  have := key (l.take n) (fun s hs => List.mem_of_mem_take hs)
  have h2 : (l.take n).length ≤ n := by simp; omega
  omega
theorem rulT_snoc {l : List Rule} {n : Nat} (h : n < l.length) : rulT (l.take (n + 1)) = rulT (l.take n) ++ rulL l[n] := by
  rw [List.take_succ_eq_append_getElem h]; unfold rulT; rw [List.flatMap_append]; simp
theorem RTx_l1 (l : List Rule) (hl : l.length ≤ 100) (h : ∀ r ∈ l, RW r) : rule_Text_l1 l [] 0 = some (rulT l, 0) := by
  unfold rule_Text_l1
  refine iter_to _ (fun x : Str × Int => (l.length - x.2).toNat) (fun x : Str × Int => 0 ≤ x.2 ∧ x.2 ≤ l.length ∧ x.1 = rulT (l.take x.2.toNat)) _ ?_ _ ⟨by simp, by simp, by simp [rulT]⟩
  rintro ⟨X, n⟩ ⟨g0, g1, g2⟩
  simp only at g0 g1 g2 ⊢
  unfold rule_Text_b1
  by_cases hn : n < l.length
  · left
    obtain ⟨v, hv, hm, _⟩ := idx_lt l g0 hn
    obtain ⟨hn', hg'⟩ := List.getElem?_eq_some_iff.1 (idx_some hv).2.2
    have e : (n + 1).toNat = n.toNat + 1 := by omega
    have hw := h v hm
    have hX := rulT_take h n.toNat
    rw [← g2] at hX
    obtain ⟨n1, n2, n3, n4, n5⟩ := hw.nb
    rw [if_pos hn, hv]
    simp only [Option.bind_some]
    rw [(aggW_ix hw.1.agg).1, (itoa_nb n1).1, (itoa_nb n2).1, (itoa_nb n3).1, (itoa_nb n4).1, (itoa_nb n5).1, (empW_ix hw.1.empty).1]
    simp only [Option.bind_some]
    rw [show strings_Join [v.Key, v.Metric, aggW v.Agg, Lib.itoa v.Long, rule_side v.Above, Lib.itoa v.On, Lib.itoa v.Off, Lib.itoa v.Hold, Lib.itoa v.Rest, empW v.Empty] [32] = some (joinW [32] (rulW v)) from Join_eq [32] (by simp) (rulW v) (by show 10 ≤ 1000; omega) (fun s hs => Nat.le_trans (rulW_len hw s hs) (by omega))]
    simp only [Option.bind_some]
    have hL := rulL_len hw
    unfold rulL at hL
    rw [List.length_append, List.length_singleton] at hL
    rw [cat_le (by simp only [List.length_cons, List.length_nil]; omega)]
    simp only [Option.bind_some]
    unfold bldW
    rw [if_pos (by simp only [List.length_append, List.length_cons, List.length_nil]; omega), w64_in (by omega) (by omega)]
    refine ⟨_, rfl, ⟨by simp only; omega, by simp only; omega, ?_⟩, by simp only; omega⟩
    simp only
    rw [e, rulT_snoc hn', g2, hg']
    rfl
  · right
    rw [if_neg hn, g2, List.take_of_length_le (by omega)]
    first | done | rfl
theorem RuleLines_eq (l : List Rule) (hl : l.length ≤ 100) (h : ∀ r ∈ l, RW r) : Q_RuleLines l = some (rulT l) := by
  unfold Q_RuleLines Q_RuleLines_l1
  refine iter_to _ (fun x : Str × Int => (l.length - x.2).toNat) (fun x : Str × Int => 0 ≤ x.2 ∧ x.2 ≤ l.length ∧ x.1 = rulT (l.take x.2.toNat)) _ ?_ _ ⟨by simp, by simp, by simp [rulT]⟩
  rintro ⟨X, n⟩ ⟨g0, g1, g2⟩
  simp only at g0 g1 g2 ⊢
  unfold Q_RuleLines_b1
  by_cases hn : n < l.length
  · left
    obtain ⟨v, hv, hm, _⟩ := idx_lt l g0 hn
    obtain ⟨hn', hg'⟩ := List.getElem?_eq_some_iff.1 (idx_some hv).2.2
    have e : (n + 1).toNat = n.toNat + 1 := by omega
    have hw := h v hm
    have hX := rulT_take h n.toNat
    rw [← g2] at hX
    obtain ⟨n1, n2, n3, n4, n5⟩ := hw.nb
    rw [if_pos hn, hv]
    simp only [Option.bind_some]
    rw [(aggW_ix hw.1.agg).2.1, (itoa_nb n1).1, (itoa_nb n2).1, (itoa_nb n3).1, (itoa_nb n4).1, (itoa_nb n5).1, (empW_ix hw.1.empty).2.1, side_get]
    simp only [Option.bind_some]
    rw [show strings_Join [v.Key, v.Metric, aggW v.Agg, Lib.itoa v.Long, rule_side v.Above, Lib.itoa v.On, Lib.itoa v.Off, Lib.itoa v.Hold, Lib.itoa v.Rest, empW v.Empty] [32] = some (joinW [32] (rulW v)) from Join_eq [32] (by simp) (rulW v) (by show 10 ≤ 1000; omega) (fun s hs => Nat.le_trans (rulW_len hw s hs) (by omega))]
    simp only [Option.bind_some]
    have hL := rulL_len hw
    unfold rulL at hL
    rw [List.length_append, List.length_singleton] at hL
    rw [cat_le (by simp only [List.length_cons, List.length_nil]; omega)]
    simp only [Option.bind_some]
    unfold bldW
    rw [if_pos (by simp only [List.length_append, List.length_cons, List.length_nil]; omega), w64_in (by omega) (by omega)]
    refine ⟨_, rfl, ⟨by simp only; omega, by simp only; omega, ?_⟩, by simp only; omega⟩
    simp only
    rw [e, rulT_snoc hn', g2, hg']
    rfl
  · right
    rw [if_neg hn, g2, List.take_of_length_le (by omega)]
    first | done | rfl
theorem chkR_RW {rs : List Rule} (h : chkR rs = 0) : ∀ r ∈ rs, RW r := by
  have h0 := chkR_zero h
  intro r hr
  refine ⟨(h0.1 r hr).1, ?_⟩
  unfold chkR at h
  rw [if_neg (by omega)] at h
  obtain ⟨i, hi, rfl⟩ := List.getElem_of_mem hr
  have h1 := scanC_zero rs none h i rs[i] (List.getElem?_eq_getElem hi)
  unfold ruStep at h1
  by_cases c1 : keyB rs[i].Key = false
  · rw [if_pos c1] at h1; cases h1
  · rw [if_neg c1] at h1
    by_cases c2 : ordB (if i = 0 then none else rs[i - 1]?) rs[i] = true
    · rw [if_pos c2] at h1; cases h1
    · rw [if_neg c2] at h1
      unfold ru2 at h1
      by_cases c3 : keyB rs[i].Metric = false
      · rw [if_pos c3] at h1; cases h1
      · exact ⟨keyB_len (by simpa using c1), keyB_len (by simpa using c3)⟩
/-! reading -/
def numsK (k : Int) : List Str → Option (List Int)
  | [] => some []
  | s :: r => match numT s k with
    | none => none
    | some n => (numsK k r).map (n :: ·)
theorem NumbersK_loop (k : Nat) (hk : k ≤ 17) : ∀ (m : Nat) (L : List Str) (n : Int) (X : List Int), 0 ≤ n → n + m = L.length → L.length ≤ 1000 → X.length ≤ 1000 + n.toNat → base_Numbers_l1 L k X n = some (match numsK k (L.drop n.toNat) with
    | none => ([], false)
    | some l => (X ++ l, true))
  | 0, L, n, X, h0, hn, hl, hX => by
    unfold base_Numbers_l1
    rw [iter_eq]
    show Option.bind (base_Numbers_b1 L k X n) _ = _
    unfold base_Numbers_b1
    rw [if_neg (by omega), List.drop_of_length_le (by omega)]
    simp [numsK]
  | m + 1, L, n, X, h0, hn, hl, hX => by
    have hN : ∀ s : Str, base_Number s k = some (match numT s k with | some n => (n, true) | none => (0, false)) := fun s => Number_eq s k hk
    obtain ⟨s, hs, _, hd⟩ := idx_lt L h0 (by omega)
    have ih := fun X hX => NumbersK_loop k hk m L (n + 1) X (by omega) (by omega) hl hX
    unfold base_Numbers_l1 at ih ⊢
    rw [iter_eq]
    show Option.bind (base_Numbers_b1 L k X n) _ = _
    rw [base_Numbers_b1, if_pos (by omega), hs]
    simp only [Option.bind_some]
    rw [hN s, hd]
    simp only [Option.bind_some]
    unfold numsK
    cases h1 : numT s k with
    | none => simp
    | some z =>
      simp only
      rw [if_neg (by simp), app_le (by simp; omega), w64_in (by omega) (by omega)]
      simp only [Option.bind_some, after_inl]
      rw [ih (X ++ [z]) (by simp; omega)]
      cases numsK k (L.drop (n + 1).toNat) <;> simp
theorem NumbersK_eq (k : Nat) (hk : k ≤ 17) (L : List Str) (h : L.length ≤ 1000) : base_Numbers L k = some (match numsK k L with
    | none => ([], false)
    | some l => (l, true)) := by
  unfold base_Numbers
  rw [NumbersK_loop k hk L.length L 0 [] (by omega) (by omega) h (by simp)]
  simp
theorem numsK_len (k : Int) : ∀ (L : List Str) {l : List Int}, numsK k L = some l → l.length = L.length
  | [], l, h => by obtain rfl := Option.some.inj h; rfl
  | s :: r, l, h => by
    unfold numsK at h
    cases h1 : numT s k with
    | none => rw [h1] at h; cases h
    | some z =>
      rw [h1] at h
      obtain ⟨l', h2, rfl⟩ := Option.map_eq_some_iff.1 h
      simp [numsK_len k r h2]
def rulP (s : Str) : Option Rule := match splitC 32 s with
  | [a, b, c, d, e, f, g, h, i, j] => if ([] : Str) ∈ [a, b, c, d, e, f, g, h, i, j] ∨ ¬(e = [97, 98, 111, 118, 101] ∨ e = [98, 101, 108, 111, 119]) ∨ aggI c = 0 ∨ empI j < 0 then none else match numsK 10 [d, f, g, h, i] with
    | some [n0, n1, n2, n3, n4] => some ⟨a, b, aggI c, n0, decide (e = [97, 98, 111, 118, 101]), n1, n2, n3, n4, empI j⟩
    | _ => none
  | _ => none
theorem ten_of {L : List Str} (h : L.length = 10) : ∃ a b c d e f g h i j, L = [a, b, c, d, e, f, g, h, i, j] := by
  match L, h with
  | [a, b, c, d, e, f, g, h, i, j], _ => exact ⟨a, b, c, d, e, f, g, h, i, j, rfl⟩
theorem five_int {L : List Int} (h : L.length = 5) : ∃ a b c d e, L = [a, b, c, d, e] := by
  match L, h with
  | [a, b, c, d, e], _ => exact ⟨a, b, c, d, e, rfl⟩
theorem rulP_not {s : Str} (h : (splitC 32 s).length ≠ 10) : rulP s = none := by
  unfold rulP
  split
  · rename_i e; rw [e] at h; exact absurd rfl h
  · rfl
theorem rulP_ten {s a b c d e f g h i j : Str} (q : splitC 32 s = [a, b, c, d, e, f, g, h, i, j]) : rulP s = if ([] : Str) ∈ [a, b, c, d, e, f, g, h, i, j] ∨ ¬(e = [97, 98, 111, 118, 101] ∨ e = [98, 101, 108, 111, 119]) ∨ aggI c = 0 ∨ empI j < 0 then none else match numsK 10 [d, f, g, h, i] with
    | some [n0, n1, n2, n3, n4] => some ⟨a, b, aggI c, n0, decide (e = [97, 98, 111, 118, 101]), n1, n2, n3, n4, empI j⟩
    | _ => none := by
  unfold rulP
  rw [q]
theorem readRule_eq (s : Str) (hs : s.length ≤ 1000000) : ∃ z, rule_readRule s = some z ∧ z.2 = (rulP s).isSome ∧ ∀ x, rulP s = some x → z.1 = x := by
  unfold rule_readRule
  rw [Words_eq s 10 hs]
  simp only [Option.bind_some]
  by_cases hl : (splitC 32 s).length = 10
  · obtain ⟨a, b, c, d, e, f, g, h, i, j, q⟩ := ten_of hl
    rw [rulP_ten q, q]
    by_cases hm : ([] : Str) ∈ [a, b, c, d, e, f, g, h, i, j]
    · have hW : ((([a, b, c, d, e, f, g, h, i, j] : List Str).length : Nat) : Int) ≠ 10 ∨ ([] : Str) ∈ [a, b, c, d, e, f, g, h, i, j] := .inr hm
      have hP : ([] : Str) ∈ [a, b, c, d, e, f, g, h, i, j] ∨ ¬(e = [97, 98, 111, 118, 101] ∨ e = [98, 101, 108, 111, 119]) ∨ aggI c = 0 ∨ empI j < 0 := .inl hm
      rw [if_pos hW, if_pos hP]
      exact ⟨_, rfl, rfl, fun x h => by cases h⟩
    · have hW : ¬ (((([a, b, c, d, e, f, g, h, i, j] : List Str).length : Nat) : Int) ≠ 10 ∨ ([] : Str) ∈ [a, b, c, d, e, f, g, h, i, j]) := by rintro (h | h); exact h rfl; exact hm h
      rw [if_neg hW, if_neg (by simp)]
      have i2 : idx [a, b, c, d, e, f, g, h, i, j] 2 = some c := rfl
      have i9 : idx [a, b, c, d, e, f, g, h, i, j] 9 = some j := rfl
      have i3 : idx [a, b, c, d, e, f, g, h, i, j] 3 = some d := rfl
      have i5 : idx [a, b, c, d, e, f, g, h, i, j] 5 = some f := rfl
      have i6 : idx [a, b, c, d, e, f, g, h, i, j] 6 = some g := rfl
      have i7 : idx [a, b, c, d, e, f, g, h, i, j] 7 = some h := rfl
      have i8 : idx [a, b, c, d, e, f, g, h, i, j] 8 = some i := rfl
      have i4 : idx [a, b, c, d, e, f, g, h, i, j] 4 = some e := rfl
      have i0 : idx [a, b, c, d, e, f, g, h, i, j] 0 = some a := rfl
      have i1 : idx [a, b, c, d, e, f, g, h, i, j] 1 = some b := rfl
      simp only [i2, i9, i3, i5, i6, i7, i8, i4, Option.bind_some, agg_ix, (emp_ix j).1]
      have hB : base_Numbers [d, f, g, h, i] 10 = some (match numsK 10 [d, f, g, h, i] with | none => ([], false) | some l => (l, true)) := NumbersK_eq 10 (by omega) [d, f, g, h, i] (by simp)
      rw [hB]
      simp only [Option.bind_some]
      have hj : ∀ v13 : (List Int) × Bool, rule_readRule_j1 ([a, b, c, d, e, f, g, h, i, j], true) (aggI c - 1) (empI j) v13 true = some (⟨[], [], 0, 0, false, 0, 0, 0, 0, 0⟩, false) := fun v => rfl
      cases hN : numsK 10 [d, f, g, h, i] with
      | none =>
        simp only
        rw [if_pos (by simp), hj]
        refine ⟨_, rfl, ?_, fun x hx => ?_⟩
        · split <;> rfl
        · split at hx <;> cases hx
      | some l =>
        obtain ⟨n0, n1, n2, n3, n4, rfl⟩ := five_int (numsK_len 10 _ hN)
        simp only
        rw [if_neg (by simp)]
        have ha := aggI_pos c
        by_cases c1 : aggI c = 0
        · have hP : ([] : Str) ∈ [a, b, c, d, e, f, g, h, i, j] ∨ ¬(e = [97, 98, 111, 118, 101] ∨ e = [98, 101, 108, 111, 119]) ∨ aggI c = 0 ∨ empI j < 0 := .inr (.inr (.inl c1))
          rw [if_pos (by omega), hj, if_pos hP]
          exact ⟨_, rfl, rfl, fun x h => by cases h⟩
        · rw [if_neg (by omega)]
          by_cases c2 : empI j < 0
          · have hP : ([] : Str) ∈ [a, b, c, d, e, f, g, h, i, j] ∨ ¬(e = [97, 98, 111, 118, 101] ∨ e = [98, 101, 108, 111, 119]) ∨ aggI c = 0 ∨ empI j < 0 := .inr (.inr (.inr c2))
            rw [if_pos c2, hj, if_pos hP]
            exact ⟨_, rfl, rfl, fun x h => by cases h⟩
          · rw [if_neg c2]
            have hok : rule_readRule_j1 ([a, b, c, d, e, f, g, h, i, j], true) (aggI c - 1) (empI j) ([n0, n1, n2, n3, n4], true) false = some (⟨a, b, aggI c, n0, decide (e = [97, 98, 111, 118, 101]), n1, n2, n3, n4, empI j⟩, true) := by
              unfold rule_readRule_j1
              rw [if_neg (by simp)]
              simp only [i0, i1, i4, Option.bind_some]
              rw [show idx [n0, n1, n2, n3, n4] 0 = some n0 from rfl, show idx [n0, n1, n2, n3, n4] 1 = some n1 from rfl, show idx [n0, n1, n2, n3, n4] 2 = some n2 from rfl, show idx [n0, n1, n2, n3, n4] 3 = some n3 from rfl, show idx [n0, n1, n2, n3, n4] 4 = some n4 from rfl, w64_in (by omega) (by omega)]
              simp only [Option.bind_some]
              rw [show (1 : Int) + (aggI c - 1) = aggI c by omega]
              rfl
            have st : rule_side true = [97, 98, 111, 118, 101] := rfl
            have sf : rule_side false = [98, 101, 108, 111, 119] := rfl
            rw [st, sf]
            by_cases c3 : e = [97, 98, 111, 118, 101]
            · have hP : ¬ (([] : Str) ∈ [a, b, c, d, e, f, g, h, i, j] ∨ ¬(e = [97, 98, 111, 118, 101] ∨ e = [98, 101, 108, 111, 119]) ∨ aggI c = 0 ∨ empI j < 0) := by
                rintro (h | h | h | h)
                · exact hm h
                · exact h (.inl c3)
                · exact c1 h
                · exact c2 h
              rw [if_neg (fun h => h c3), hok, if_neg hP]
              exact ⟨_, rfl, rfl, fun x h => Option.some.inj h⟩
            · rw [if_pos c3]
              by_cases c4 : e = [98, 101, 108, 111, 119]
              · have hP : ¬ (([] : Str) ∈ [a, b, c, d, e, f, g, h, i, j] ∨ ¬(e = [97, 98, 111, 118, 101] ∨ e = [98, 101, 108, 111, 119]) ∨ aggI c = 0 ∨ empI j < 0) := by
                  rintro (h | h | h | h)
                  · exact hm h
                  · exact h (.inr c4)
                  · exact c1 h
                  · exact c2 h
                rw [decide_eq_false (fun h => h c4), hok, if_neg hP]
                exact ⟨_, rfl, rfl, fun x h => Option.some.inj h⟩
              · have hP : (([] : Str) ∈ [a, b, c, d, e, f, g, h, i, j] ∨ ¬(e = [97, 98, 111, 118, 101] ∨ e = [98, 101, 108, 111, 119]) ∨ aggI c = 0 ∨ empI j < 0) := .inr (.inl (by rintro (h | h); exact c3 h; exact c4 h))
                rw [decide_eq_true c4, hj, if_pos hP]
                exact ⟨_, rfl, rfl, fun x h => by cases h⟩
  · have hW : ((splitC 32 s).length : Int) ≠ 10 ∨ ([] : Str) ∈ splitC 32 s := .inl (by omega)
    rw [if_pos hW, rulP_not hl]
    exact ⟨_, rfl, rfl, fun x h => by cases h⟩
theorem RRead_1x (s : Str) (hs : s.length ≤ 1000000) (X : List Rule) (hX : X.length ≤ 1000000) : ∃ z, rule_Read_1x s X = some z ∧ z.1 = (rulP s).isSome ∧ (∀ x, rulP s = some x → z.2 = X ++ [x]) := by
  unfold rule_Read_1x
  obtain ⟨z, z1, z2, z3⟩ := readRule_eq s hs
  rw [z1]
  simp only [Option.bind_some]
  rw [app_le (by simp; omega)]
  exact ⟨_, rfl, z2, fun x hx => by rw [← z3 x hx]⟩
/-- The reference's reader of numbers (its first package's). -/
theorem QNumT_eq (s : Str) (k : Nat) (hk : k ≤ 17) : ∃ m, Q_Number s k = some (m, (numT s k).isSome) ∧ ∀ n, numT s k = some n → m = n := by
  have hln := trimP_length s
  unfold Q_Number Q_Number_j1 Q_Number_j2
  by_cases h1 : Lib.trimPrefix s [45] = []
  · have hn : numT s k = none := by unfold numT; rw [if_pos (.inl (.inl h1))]
    rw [if_pos h1, if_pos rfl, hn]; exact ⟨0, rfl, fun n h => by cases h⟩
  · rw [if_neg h1]
    by_cases h2 : (k : Int) < (Lib.trimPrefix s [45]).length
    · have hn : numT s k = none := by unfold numT; rw [if_pos (.inl (.inr h2))]
      rw [if_pos h2, if_pos rfl, hn]; exact ⟨0, rfl, fun n h => by cases h⟩
    · rw [if_neg h2, trimO_eq (by omega) (by simp) (by decide)]
      simp only [Option.bind_some]
      have hT := trimS_nil (Lib.trimPrefix s [45]) [48, 49, 50, 51, 52, 53, 54, 55, 56, 57]
      rw [show (fun c => decide (c ∈ ([48, 49, 50, 51, 52, 53, 54, 55, 56, 57] : List UInt8))) = isDig from funext mem_dig] at hT
      by_cases hall : (Lib.trimPrefix s [45]).all isDig = true
      · obtain ⟨n, hn, hiff⟩ := atoi_digs h1 hall
        have hb := Lib.atoi_bound hn (by omega)
        have hnT : numT s k = if Lib.itoa n = s then some n else none := by
          unfold numT
          rw [if_neg (fun h => h.elim (fun h => h.elim h1 h2) (fun h => by rw [hall] at h; cases h)), hn]
        rw [decide_eq_false (fun h => h (hT.2 hall)), if_neg (by simp), atoiO_eq (by omega) hn]
        simp only [Option.bind_some, if_true]
        rw [itoa_in (by omega) (by omega)]
        simp only [Option.bind_some]
        refine ⟨n, ?_, ?_⟩
        · rw [hnT]; by_cases hi : Lib.itoa n = s <;> simp [hi]
        · intro n' h'; rw [hnT] at h'; split at h'
          · exact Option.some.inj h'
          · cases h'
      · have hnT : numT s k = none := by unfold numT; rw [if_pos (.inr (by simpa using hall))]
        have hne : Lib.trimS (Lib.trimPrefix s [45]) [48, 49, 50, 51, 52, 53, 54, 55, 56, 57] ≠ [] := fun h => hall (hT.1 h)
        rw [decide_eq_true hne, if_pos rfl, hnT]; exact ⟨0, rfl, fun n h => by cases h⟩
/-- Five numbers, one after another. -/
theorem q_b1 (X : List Rule) (W : List Str) (l : List Int) (hl : l.length = 5) (k : Nat) (hk : k < 5) (s : Str) (hs : idx W ([(3 : Int), 5, 6, 7, 8].getD k 0) = some s) : Q_RulesRead_1x_b1 X W l k = (Q_Number s 10).bind fun v => if (!v.2) = true then Option.map .inr (some (false, X)) else some (.inl (l.set k v.1, ((k + 1 : Nat) : Int))) := by
  obtain ⟨x0, x1, x2, x3, x4, rfl⟩ := five_int hl
  unfold Q_RulesRead_1x_b1
  match k, hk, hs with
  | 0, _, hs => rw [if_pos (by decide)]; simp only [List.getD_cons_zero] at hs; rw [show idx [(3 : Int), 5, 6, 7, 8] ((0 : Nat) : Int) = some 3 from rfl]; simp only [Option.bind_some]; rw [hs]; rfl
  | 1, _, hs => rw [if_pos (by decide)]; rw [show idx [(3 : Int), 5, 6, 7, 8] ((1 : Nat) : Int) = some 5 from rfl]; simp only [Option.bind_some]; rw [show idx W 5 = some s from hs]; rfl
  | 2, _, hs => rw [if_pos (by decide)]; rw [show idx [(3 : Int), 5, 6, 7, 8] ((2 : Nat) : Int) = some 6 from rfl]; simp only [Option.bind_some]; rw [show idx W 6 = some s from hs]; rfl
  | 3, _, hs => rw [if_pos (by decide)]; rw [show idx [(3 : Int), 5, 6, 7, 8] ((3 : Nat) : Int) = some 7 from rfl]; simp only [Option.bind_some]; rw [show idx W 7 = some s from hs]; rfl
  | 4, _, hs => rw [if_pos (by decide)]; rw [show idx [(3 : Int), 5, 6, 7, 8] ((4 : Nat) : Int) = some 8 from rfl]; simp only [Option.bind_some]; rw [show idx W 8 = some s from hs]; rfl
theorem q_step (X : List Rule) (W : List Str) (l : List Int) (hl : l.length = 5) (k : Nat) (hk : k < 5) (s : Str) (hs : idx W ([(3 : Int), 5, 6, 7, 8].getD k 0) = some s) : Q_RulesRead_1x_l1 X W l k = match numT s 10 with
    | none => some (false, X)
    | some n => Q_RulesRead_1x_l1 X W (l.set k n) ((k + 1 : Nat) : Int) := by
  unfold Q_RulesRead_1x_l1
  rw [iter_eq]
  show (Q_RulesRead_1x_b1 X W l k).bind _ = _
  rw [q_b1 X W l hl k hk s hs]
  obtain ⟨m, q1, q2⟩ := QNumT_eq s 10 (by omega)
  rw [show Q_Number s 10 = _ from q1]
  simp only [Option.bind_some]
  cases hn : numT s 10 with
  | none =>
    rfl
  | some n =>
    rw [q2 n hn]
    rfl
theorem q_five (X : List Rule) (a b c d e f g h i j : Str) : Q_RulesRead_1x_l1 X [a, b, c, d, e, f, g, h, i, j] [0, 0, 0, 0, 0] 0 = match numsK 10 [d, f, g, h, i] with
    | none => some (false, X)
    | some l => Q_RulesRead_1x_l1 X [a, b, c, d, e, f, g, h, i, j] l 5 := by
  rw [show (0 : Int) = ((0 : Nat) : Int) from rfl, q_step X _ _ rfl 0 (by omega) d rfl]
  simp only [numsK]
  cases numT d 10 with
  | none => rfl
  | some n0 =>
    simp only
    rw [q_step X _ _ rfl 1 (by omega) f rfl]
    cases numT f 10 with
    | none => rfl
    | some n1 =>
      simp only
      rw [q_step X _ _ rfl 2 (by omega) g rfl]
      cases numT g 10 with
      | none => rfl
      | some n2 =>
        simp only
        rw [q_step X _ _ rfl 3 (by omega) h rfl]
        cases numT h 10 with
        | none => rfl
        | some n3 =>
          simp only
          rw [q_step X _ _ rfl 4 (by omega) i rfl]
          cases numT i 10 with
          | none => rfl
          | some n4 => rfl
theorem q_end (X : List Rule) (W : List Str) (l : List Int) : Q_RulesRead_1x_l1 X W l 5 = Q_RulesRead_1x_k3 X W l := by
  unfold Q_RulesRead_1x_l1
  rw [iter_eq]
  show (Q_RulesRead_1x_b1 X W l 5).bind _ = _
  unfold Q_RulesRead_1x_b1
  rw [if_neg (by decide), map_inr_after]
theorem q_k3 (X : List Rule) (hX : X.length ≤ 1000000) (a b c d e f g h i j : Str) (hc : c ≠ []) (n0 n1 n2 n3 n4 : Int) : Q_RulesRead_1x_k3 X [a, b, c, d, e, f, g, h, i, j] [n0, n1, n2, n3, n4] = some (decide (0 < (if aggI c = 0 then -1 else aggI c)) && decide (0 ≤ empI j), X ++ [(⟨a, b, if aggI c = 0 then -1 else aggI c, n0, decide (e = [97, 98, 111, 118, 101]), n1, n2, n3, n4, empI j⟩ : Rule)]) := by
  unfold Q_RulesRead_1x_k3
  rw [show idx [a, b, c, d, e, f, g, h, i, j] 2 = some c from rfl]
  simp only [Option.bind_some]
  rw [qagg_ix c hc, show idx [a, b, c, d, e, f, g, h, i, j] 9 = some j from rfl]
  simp only [Option.bind_some]
  rw [(emp_ix j).2, show idx [a, b, c, d, e, f, g, h, i, j] 0 = some a from rfl, show idx [a, b, c, d, e, f, g, h, i, j] 1 = some b from rfl, show idx [a, b, c, d, e, f, g, h, i, j] 4 = some e from rfl, show idxA 5 [n0, n1, n2, n3, n4] 0 = some n0 from rfl, show idxA 5 [n0, n1, n2, n3, n4] 1 = some n1 from rfl, show idxA 5 [n0, n1, n2, n3, n4] 2 = some n2 from rfl, show idxA 5 [n0, n1, n2, n3, n4] 3 = some n3 from rfl, show idxA 5 [n0, n1, n2, n3, n4] 4 = some n4 from rfl]
  simp only [Option.bind_some]
  rw [app_le (by simp; omega)]
  rfl
theorem QRRead_1x (s : Str) (hs : s.length ≤ 300000) (X : List Rule) (hX : X.length ≤ 1000000) : ∃ z, Q_RulesRead_1x s X = some z ∧ z.1 = (rulP s).isSome ∧ (∀ x, rulP s = some x → z.2 = X ++ [x]) := by
  unfold Q_RulesRead_1x
  rw [splitO_eq (by omega)]
  simp only [Option.bind_some]
  have hj : ∀ W, Q_RulesRead_1x_j1 X W true = some (false, X) := fun W => rfl
  by_cases hl : (splitC 32 s).length = 10
  · obtain ⟨a, b, c, d, e, f, g, h, i, j, q⟩ := ten_of hl
    rw [rulP_ten q, q, if_neg (by simp), Contains_eq _ (by simp)]
    simp only [Option.bind_some]
    by_cases hm : ([] : Str) ∈ [a, b, c, d, e, f, g, h, i, j]
    · have hP : (([] : Str) ∈ [a, b, c, d, e, f, g, h, i, j] ∨ ¬(e = [97, 98, 111, 118, 101] ∨ e = [98, 101, 108, 111, 119]) ∨ aggI c = 0 ∨ empI j < 0) := .inl hm
      rw [if_pos (decide_eq_true hm), hj, if_pos hP]
      exact ⟨_, rfl, rfl, fun x h => by cases h⟩
    · rw [if_neg (by rw [decide_eq_false hm]; simp)]
      have i4 : idx [a, b, c, d, e, f, g, h, i, j] 4 = some e := rfl
      simp only [i4, Option.bind_some]
      have hc : c ≠ [] := fun e => hm (by rw [e]; simp)
      have ha := aggI_pos c
      have hj2 : Q_RulesRead_1x_j1 X [a, b, c, d, e, f, g, h, i, j] false = match numsK 10 [d, f, g, h, i] with
          | none => some (false, X)
          | some l => Q_RulesRead_1x_l1 X [a, b, c, d, e, f, g, h, i, j] l 5 := by
        unfold Q_RulesRead_1x_j1
        rw [if_neg (by simp), q_five]
      have hgo : ∀ E : Prop, [Decidable E] → ¬ E → ∃ z, Q_RulesRead_1x_j1 X [a, b, c, d, e, f, g, h, i, j] false = some z ∧ z.1 = (if ([] : Str) ∈ [a, b, c, d, e, f, g, h, i, j] ∨ E ∨ aggI c = 0 ∨ empI j < 0 then none else match numsK 10 [d, f, g, h, i] with
          | some [n0, n1, n2, n3, n4] => some (⟨a, b, aggI c, n0, decide (e = [97, 98, 111, 118, 101]), n1, n2, n3, n4, empI j⟩ : Rule)
          | _ => none).isSome ∧ ∀ x, (if ([] : Str) ∈ [a, b, c, d, e, f, g, h, i, j] ∨ E ∨ aggI c = 0 ∨ empI j < 0 then none else match numsK 10 [d, f, g, h, i] with
          | some [n0, n1, n2, n3, n4] => some (⟨a, b, aggI c, n0, decide (e = [97, 98, 111, 118, 101]), n1, n2, n3, n4, empI j⟩ : Rule)
          | _ => none) = some x → z.2 = X ++ [x] := by
        intro E _ hE
        rw [hj2]
        cases hN : numsK 10 [d, f, g, h, i] with
        | none =>
          refine ⟨_, rfl, ?_, fun x hx => ?_⟩
          · split <;> rfl
          · split at hx <;> cases hx
        | some l =>
          obtain ⟨n0, n1, n2, n3, n4, rfl⟩ := five_int (numsK_len 10 _ hN)
          simp only
          rw [q_end, q_k3 X hX a b c d e f g h i j hc]
          refine ⟨_, rfl, ?_, ?_⟩
          · by_cases c1 : aggI c = 0
            · have hP : ([] : Str) ∈ [a, b, c, d, e, f, g, h, i, j] ∨ E ∨ aggI c = 0 ∨ empI j < 0 := .inr (.inr (.inl c1))
              rw [if_pos hP, if_pos c1]; rfl
            · by_cases c2 : empI j < 0
              · have hP : ([] : Str) ∈ [a, b, c, d, e, f, g, h, i, j] ∨ E ∨ aggI c = 0 ∨ empI j < 0 := .inr (.inr (.inr c2))
                rw [if_pos hP, decide_eq_false (show ¬ 0 ≤ empI j by omega)]
                simp
              · have hP : ¬ (([] : Str) ∈ [a, b, c, d, e, f, g, h, i, j] ∨ E ∨ aggI c = 0 ∨ empI j < 0) := by rintro (h | h | h | h); exact hm h; exact hE h; exact c1 h; exact c2 h
                rw [if_neg hP, if_neg c1]
                simp only [Option.isSome_some, Bool.and_eq_true, decide_eq_true_eq]
                omega
          · intro x hx
            split at hx
            · cases hx
            · rename_i hno
              have c1 : aggI c ≠ 0 := fun h => hno (.inr (.inr (.inl h)))
              obtain rfl := Option.some.inj hx
              simp only [if_neg c1]
      by_cases c3 : e = [97, 98, 111, 118, 101]
      · rw [if_neg (fun h => h c3)]
        exact hgo _ (fun h => h (.inl c3))
      · rw [if_pos c3]
        by_cases c4 : e = [98, 101, 108, 111, 119]
        · rw [decide_eq_false (fun h => h c4)]
          exact hgo _ (fun h => h (.inr c4))
        · have hP : (([] : Str) ∈ [a, b, c, d, e, f, g, h, i, j] ∨ ¬(e = [97, 98, 111, 118, 101] ∨ e = [98, 101, 108, 111, 119]) ∨ aggI c = 0 ∨ empI j < 0) := .inr (.inl (by rintro (h | h); exact c3 h; exact c4 h))
          rw [decide_eq_true c4, hj, if_pos hP]
          exact ⟨_, rfl, rfl, fun x h => by cases h⟩
  · rw [if_pos (by omega), hj, rulP_not hl]
    exact ⟨_, rfl, rfl, fun x h => by cases h⟩
/-! the law -/
def esR (t : Str) : Int × Bool × List Rule := eachS rulP (lineL t).2 (lineL t).1 0 []
def rrR (t : Str) : List Rule × Int × Int :=
  if 200000 < t.length then ([], 0, 2)
  else if (esR t).2.1 = false then ([], (esR t).1, 9)
  else if chkR (esR t).2.2 ≠ 0 then ([], 0, chkR (esR t).2.2)
  else ((esR t).2.2, 0, 0)
theorem RRead_eq (t : Str) : rule_Read t = some (rrR t) := by
  unfold rule_Read rrR
  by_cases hl : 200000 < t.length
  · rw [if_pos (by omega), if_pos hl]
  · rw [if_neg (by omega), if_neg hl]
    unfold base_Each_f1x_rule_Read_1x
    rw [Lines_eq t (by omega)]
    simp only [Option.bind_some]
    have hll := lineL_len t
    unfold base_Each_f1x_rule_Read_1x_l1
    obtain ⟨Y, y1, y2⟩ := each_iter2 rulP rule_Read_1x (lineL t).1 (lineL t).2 (by omega) (fun s hs X hX => RRead_1x s (by have := hll.2 s hs; omega) X hX) (fun X n => base_Each_f1x_rule_Read_1x_b1 (lineL t) X n) (fun X n => rfl)
    rw [y1]
    unfold esR
    simp only [Option.bind_some]
    cases h : (eachS rulP (lineL t).2 (lineL t).1 0 []).2.1 with
    | false => rfl
    | true =>
      rw [if_neg (by simp), if_neg (by simp), y2 h, CheckRules_eq]
      simp only [Option.bind_some]
      split <;> rfl
theorem QRRead_eq (t : Str) : Q_RulesRead t = some (rrR t) := by
  unfold Q_RulesRead rrR
  by_cases hl : 200000 < t.length
  · rw [if_pos (by omega), if_pos hl]
  · rw [if_neg (by omega), if_neg hl]
    unfold Q_Lines_f1x_Q_RulesRead_1x Q_Lines_f1x_Q_RulesRead_1x_l1
    obtain ⟨Y, y1, y2⟩ := lines_iterB rulP 300000 Q_RulesRead_1x (fun s hs X hX => QRRead_1x s hs X hX) (fun X t n => Q_Lines_f1x_Q_RulesRead_1x_b1 X t n) (fun X t n => rfl) t.length t [] 0 (Nat.le_refl _) (by omega) (by simp; omega) (by omega) (by omega)
    rw [y1]
    unfold esR
    simp only [Option.bind_some]
    cases h : (eachS rulP (lineL t).2 (lineL t).1 0 []).2.1 with
    | false => rfl
    | true =>
      rw [if_neg (by simp), if_neg (by simp), y2 h, RulesFault_eq]
      simp only [Option.bind_some]
      split <;> rfl
theorem rrR_len (t : Str) : (rrR t).1.length ≤ 300000 := by
  unfold rrR
  by_cases hl : 200000 < t.length
  · rw [if_pos hl]; simp
  · rw [if_neg hl]
    have h1 := eachS_len rulP (lineL t).2 (lineL t).1 0 []
    have h2 := (lineL_len t).1
    split
    · simp
    · split
      · simp
      · unfold esR; simp at h1; simp only; omega
theorem RuleString_k {s : Stm} {K : Int} (hs : SOk s K) (hK : 220 ≤ K) : Gen (Stream_RuleString s) (K - 220) (fun _ => True) := by
  refine Gen.of ?_
  unfold Stream_RuleString
  refine Ok.gen (Rules_k hs (by omega)) (fun l s2 hl q2 => ?_)
  dsimp only
  rw [RulesFault_eq]
  simp only [Option.bind_some]
  have j1 : ∀ t : Str, t.length ≤ 100000 → Ok (Stream_RuleString_j1 (l, s2) t) (fun r => True ∧ SOk r.2 (K - 220)) := by
    intro t ht
    unfold Stream_RuleString_j1
    refine Ok.gen (Pick_k q2 (by omega) (by simp) (by simp)) (fun v s3 hv q3 => ?_)
    have hv' : v = 0 ∨ v = 1 ∨ v = 2 := by simp at hv; omega
    unfold Stream_RuleString_l1
    refine Ok.iter (fun x : (List Int) × Int × Str × Int => (v - x.2.2.2).toNat) (fun x => 0 ≤ x.2.2.2 ∧ SOk ⟨x.1, x.2.1⟩ (K - 201 - 3 * x.2.2.2) ∧ x.2.2.2 ≤ v ∧ (x.2.2.1.length : Int) ≤ 100000 + 100 * x.2.2.2) ?_ _ ⟨by simp, by simpa using q3.less (by omega), by simp only; omega, by simp only; omega⟩
    rintro ⟨L, a, t, i⟩ ⟨h0, h1, h2, h3⟩
    dsimp only at h0 h1 h2 h3 ⊢
    unfold Stream_RuleString_b1
    simp only
    by_cases hi : i < v
    · rw [if_pos hi]
      refine Ok.gen (Changed_g h1 (by omega) (by omega) (by simp)) (fun r s4 hr q4 => ?_)
      refine Ok.ret ?_
      simp only [List.length_cons, List.length_nil] at hr
      rw [w64_in (by omega) (by omega)]
      exact ⟨⟨by simp only; omega, q4.less (by simp only; omega), by simp only; omega, by simp only; omega⟩, by simp only; omega⟩
    · rw [if_neg hi]
      exact Ok.inr (Ok.ret ⟨trivial, h1.less (by omega)⟩)
  split
  · rename_i h0
    have hw := chkR_RW h0
    have ht := rulT_take hw l.length
    rw [List.take_length] at ht
    rw [RuleLines_eq l (by omega) hw]
    simp only [Option.bind_some]
    exact j1 _ (by omega)
  · exact j1 _ (by simp)
theorem rt_true {v2 : (List Rule) × Stm} (h : SOk v2.2 500) : L_RuleTexts_j1 v2 false = some true := by
  have key : Ok (L_RuleTexts_j1 v2 false) (fun r => r = true) := by
    unfold L_RuleTexts_j1
    rw [if_neg (by simp)]
    refine Ok.gen (RuleString_k h (by omega)) (fun t s3 _ q3 => ?_)
    dsimp only
    rw [RRead_eq, QRRead_eq]
    simp only [Option.bind_some, if_true]
    have hl := rrR_len t
    rw [show slices_Equal_Rule_Rule (rrR t).1 (rrR t).1 = some (decide ((rrR t).1 = (rrR t).1)) from gEqual_eq _ _ (by omega)]
    simp only [decide_true, Option.bind_some, if_true]
    rw [ruled_eq]
    exact ⟨true, rfl, rfl⟩
  obtain ⟨r, h1, rfl⟩ := key
  exact h1
theorem RuleTexts_plain (L : List Int) : L_RuleTexts L = some true := by
  have key : Ok (L_RuleTexts L) (fun r => r = true) := by
    unfold L_RuleTexts
    refine Ok.gen (Rules_k (s := ⟨L, 0⟩) (K := 1000) ⟨by simp, by simp⟩ (by omega)) (fun l s2 hl q2 => ?_)
    dsimp only
    unfold rule_Text
    rw [CheckRules_eq, RulesFault_eq]
    simp only [Option.bind_some]
    by_cases h : chkR l = 0
    · have hw := chkR_RW h
      rw [if_neg (fun h' => h' h), RTx_l1 l (by omega) hw]
      simp only [Option.bind_some]
      rw [if_neg (by rw [h]; simp), if_pos h, RuleLines_eq l (by omega) hw, h]
      simp only [Option.bind_some]
      have e : (decide (rulT l ≠ rulT l) || (decide ((0 : Int) ≠ 0) && decide (rulT l ≠ []))) = false := by simp
      rw [e]
      exact ⟨true, rt_true (q2.less (by omega)), rfl⟩
    · rw [if_pos h]
      simp only [Option.bind_some]
      rw [if_neg (by simp), if_neg h]
      have e : (decide (chkR l ≠ 0) && decide (([] : Str) ≠ [])) = false := by simp
      rw [e]
      exact ⟨true, rt_true (q2.less (by omega)), rfl⟩
  obtain ⟨r, h1, rfl⟩ := key
  exact h1
end Go.Beacon

