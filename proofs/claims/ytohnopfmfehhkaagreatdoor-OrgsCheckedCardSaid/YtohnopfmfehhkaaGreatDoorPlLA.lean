/- Plain facts on what the functions compute. No program in sight. -/
import Derived.Test.YtohnopfmfehhkaaGreatDoorOrgP
import Derived.Test.YtohnopfmfehhkaaGreatDoorPlBA
import Derived.Lib.MapLaws
import Derived.Lib.ValidLaws
import Derived.Lib.TrimUEq
/- Plain facts of the streams that make inputs: each ends, and what it hands out is within bounds. No program in sight. -/
set_option linter.unusedVariables false
set_option linter.unusedSimpArgs false
namespace Go.Beacon
open Go Go.Eng

abbrev Stm := Fleetmake_Stream
/-- At least k more numbers can be drawn. -/
def SOk (s : Stm) (k : Int) : Prop := 0 ≤ s.at_ ∧ s.at_ + k ≤ 4611686018427387904
theorem SOk.less {s : Stm} {k k' : Int} (h : SOk s k) (hk : k' ≤ k) : SOk s k' := ⟨h.1, by have := h.2; omega⟩
def Gen {α : Type} (m : Option (α × Stm)) (k : Int) (P : α → Prop) : Prop := ∃ v s', m = some (v, s') ∧ P v ∧ SOk s' k
theorem Gen.bind {α β : Type} {m : Option (α × Stm)} {k k' : Int} {P : α → Prop} {Q : β → Prop} {f : α × Stm → Option (β × Stm)} (h : Gen m k P) (hf : ∀ v s', P v → SOk s' k → Gen (f (v, s')) k' Q) : Gen (m.bind f) k' Q := by
  obtain ⟨v, s', rfl, h1, h2⟩ := h
  exact hf v s' h1 h2
theorem Gen.ret {α : Type} {v : α} {s : Stm} {k : Int} {P : α → Prop} (h1 : P v) (h2 : SOk s k) : Gen (some (v, s)) k P := ⟨v, s, rfl, h1, h2⟩
theorem Gen.mono {α : Type} {m : Option (α × Stm)} {k k' : Int} {P Q : α → Prop} (h : Gen m k P) (hk : k' ≤ k) (hp : ∀ v, P v → Q v) : Gen m k' Q := by
  obtain ⟨v, s', e, h1, h2⟩ := h
  exact ⟨v, s', e, hp v h1, h2.less hk⟩

theorem Below_ok (x : Int) {n : Int} (h1 : 1 ≤ n) (h2 : n ≤ 4611686018427387904) : ∃ v, Below x n = some v ∧ 0 ≤ v ∧ v < n := by
  unfold Below Below_j1
  rw [if_neg (by omega), rem_ne (by omega)]
  have a1 := Int.lt_tmod_of_pos x (show 0 < n by omega)
  have a2 := Int.tmod_lt_of_pos x (show 0 < n by omega)
  simp only [Option.bind_some]
  split
  · exact ⟨_, rfl, by rw [w64_in] <;> omega, by rw [w64_in] <;> omega⟩
  · exact ⟨_, rfl, by omega, by omega⟩

theorem Next_ok {s : Stm} {n k : Int} (hs : SOk s (k + 1)) (h1 : 1 ≤ n) (h2 : n ≤ 4611686018427387904) (hk : 0 ≤ k) : Gen (Stream_Next s n) k (fun v => 0 ≤ v ∧ v < n) := by
  obtain ⟨a1, a2⟩ := hs
  have e1 : w64 (s.at_ + 1) = s.at_ + 1 := by rw [w64_in] <;> omega
  have e2 : w64 (s.at_ + 1 - 1) = s.at_ := by rw [w64_in] <;> omega
  unfold Stream_Next
  split
  · obtain ⟨v, hv, h3, h4⟩ := Below_ok (w64 (w64 (s.at_ + 1) * 7919)) h1 h2
    rw [hv]
    exact Gen.ret ⟨h3, h4⟩ ⟨by show 0 ≤ w64 (s.at_ + 1); omega, by show w64 (s.at_ + 1) + k ≤ _; omega⟩
  · rename_i hl
    have hl' : (0 : Int) < s.L.length := by omega
    rw [e1, e2, rem_pos hl' a1, quo_ne (by omega)]
    simp only [Option.bind_some]
    obtain ⟨x, hx, _, _⟩ := idx_lt s.L (i := s.at_ % s.L.length) (Int.emod_nonneg _ (by omega)) (Int.emod_lt_of_pos _ hl')
    rw [hx]
    simp only [Option.bind_some]
    obtain ⟨u, hu, _, _⟩ := Below_ok x (n := 1073741824) (by omega) (by omega)
    rw [hu]
    simp only [Option.bind_some]
    obtain ⟨v, hv, h3, h4⟩ := Below_ok (w64 (u + w64 (w64 (s.at_.tdiv s.L.length) * w64 (7919 + s.at_ % s.L.length)))) h1 h2
    rw [hv]
    exact Gen.ret ⟨h3, h4⟩ ⟨by simp only; omega, by simp only; omega⟩

theorem Pick_ok {s : Stm} {l : List Int} {k : Int} (hs : SOk s (k + 1)) (h1 : l ≠ []) (h2 : l.length ≤ 1000) (hk : 0 ≤ k) : Gen (Stream_Pick s l) k (fun v => v ∈ l) := by
  unfold Stream_Pick
  have hl : 0 < l.length := List.length_pos_iff.2 h1
  refine Gen.bind (Next_ok hs (by omega) (by omega) hk) (fun v s' hv hs' => ?_)
  obtain ⟨x, hx, hm, _⟩ := idx_lt l hv.1 hv.2
  simp only [hx, Option.bind_some]
  exact Gen.ret hm hs'
theorem Range_ok {s : Stm} {a b k : Int} (hs : SOk s (k + 1)) (hab : a ≤ b) (ha : -1152921504606846976 ≤ a) (hb : b ≤ 1152921504606846976) (hk : 0 ≤ k) : Gen (Stream_Range s a b) k (fun v => a ≤ v ∧ v ≤ b) := by
  unfold Stream_Range
  have e1 : w64 (b - a) = b - a := by rw [w64_in] <;> omega
  have e2 : w64 (b - a + 1) = b - a + 1 := by rw [w64_in] <;> omega
  rw [if_neg (by omega), e1, e2]
  refine Gen.bind (Next_ok hs (by omega) (by omega) hk) (fun v s' hv hs' => ?_)
  refine Gen.ret ?_ hs'
  simp only
  rw [w64_in] <;> omega
theorem Flip_ok {s : Stm} {n k : Int} (hs : SOk s (k + 1)) (h1 : 1 ≤ n) (h2 : n ≤ 4611686018427387904) (hk : 0 ≤ k) : Gen (Stream_Flip s n) k (fun _ => True) := by
  unfold Stream_Flip
  exact Gen.bind (Next_ok hs h1 h2 hk) (fun v s' hv hs' => Gen.ret trivial hs')
theorem pick_le {l : List Int} {v lo hi : Int} (h : v ∈ l) (hl : l.all (fun x => decide (lo ≤ x ∧ x ≤ hi)) = true) : lo ≤ v ∧ v ≤ hi := by
  rw [List.all_eq_true] at hl
  simpa using hl v h
theorem Some_ok {s : Stm} {l : List Str} {k : Int} (hs : SOk s (k + 1)) (h1 : l ≠ []) (h2 : l.length ≤ 1000) (hk : 0 ≤ k) : Gen (Stream_Some s l) k (fun v => v ∈ l) := by
  unfold Stream_Some
  have hl : 0 < l.length := List.length_pos_iff.2 h1
  refine Gen.bind (Next_ok hs (by omega) (by omega) hk) (fun v s' hv hs' => ?_)
  obtain ⟨x, hx, hm, _⟩ := idx_lt l hv.1 hv.2
  simp only [hx, Option.bind_some]
  exact Gen.ret hm hs'
theorem Odd_ok {s : Stm} {a b k : Int} (hs : SOk s (k + 2)) (hab : a ≤ b) (ha : -1099511627776 ≤ a) (hb : b ≤ 1099511627776) (hk : 0 ≤ k) : Gen (Stream_Odd s a b) k (fun v => -1099511627777 ≤ v ∧ v ≤ 1099511627777) := by
  unfold Stream_Odd
  refine Gen.bind (Flip_ok (k := k + 1) (hs.less (by omega)) (by omega) (by omega) (by omega)) (fun v s' hv hs' => ?_)
  simp only
  split
  · refine Gen.bind (Pick_ok hs' (by simp) (by simp) hk) (fun v s' hv hs' => Gen.ret ?_ hs')
    have e1 : w64 (a - 1) = a - 1 := by rw [w64_in] <;> omega
    have e2 : w64 (b + 1) = b + 1 := by rw [w64_in] <;> omega
    rw [e1, e2] at hv
    simp only [List.mem_cons, List.not_mem_nil, or_false] at hv
    simp only; omega
  · refine Gen.bind (Range_ok hs' hab (by omega) (by omega) hk) (fun v s' hv hs' => Gen.ret ?_ hs')
    simp only; omega
end Go.Beacon

/- Plain facts of keys: the program's check and the reference's. No program in sight. -/
set_option linter.unusedVariables false
set_option linter.unusedSimpArgs false
namespace Go.Beacon
open Go Go.Eng

theorem Out_eq (n lo hi : Int) : base_Out n lo hi = (decide (n < lo) || decide (hi < n)) := rfl
theorem Qin_eq (n lo hi : Int) : Q_in n lo hi = (decide (lo ≤ n) && decide (n ≤ hi)) := rfl
/-! keys -/
def okN (n : Nat) : Bool := (decide (97 ≤ n) && decide (n ≤ 122)) || (decide (48 ≤ n) && decide (n ≤ 57)) || decide (n = 45) || decide (n = 95)
def keyB : Str → Bool
  | [] => false
  | c :: r => decide ((c :: r).length ≤ 40) && (decide (97 ≤ c.toNat) && decide (c.toNat ≤ 122)) && (c :: r).all (fun c => okN c.toNat)
theorem keyB_cons (c : UInt8) (r : Str) : keyB (c :: r) = (decide ((c :: r).length ≤ 40) && (decide (97 ≤ c.toNat) && decide (c.toNat ≤ 122)) && (c :: r).all (fun c => okN c.toNat)) := rfl
theorem Key_loop (s : Str) (hl : s.length ≤ 40) : base_Key_l1 s 0 = some (s.all (fun c => okN c.toNat)) := by
  unfold base_Key_l1
  rw [iter_find s (fun x : Int => base_Key_b1 s x) (fun c => if okN c.toNat = true then none else some false) true (by omega), findE_bool]
  · intro i c h0 h1 hc
    have hB : (if (97 : Int) ≤ (c.toNat : Int) then if (c.toNat : Int) ≤ (122 : Int) then !true else if (48 : Int) ≤ (c.toNat : Int) then if (c.toNat : Int) ≤ (57 : Int) then !true else if (c.toNat : Int) = (45 : Int) then !true else decide (¬ ((c.toNat : Int) = (95 : Int))) else if (c.toNat : Int) = (45 : Int) then !true else decide (¬ ((c.toNat : Int) = (95 : Int))) else if (48 : Int) ≤ (c.toNat : Int) then if (c.toNat : Int) ≤ (57 : Int) then !true else if (c.toNat : Int) = (45 : Int) then !true else decide (¬ ((c.toNat : Int) = (95 : Int))) else if (c.toNat : Int) = (45 : Int) then !true else decide (¬ ((c.toNat : Int) = (95 : Int)))) = !okN c.toNat := by
      unfold okN
      rw [Bool.eq_iff_iff]
      repeat' split
      all_goals simp
      all_goals omega
    rw [base_Key_b1, if_pos h1, hc]
    simp only [Option.bind_some]
    rw [hB]
    unfold base_Key_j2
    rw [w64_in (by omega) (by omega)]
    cases okN c.toNat <;> rfl
  · rw [base_Key_b1, if_neg (by omega)]; rfl
theorem Key_eq (s : Str) : base_Key s = some (keyB s) := by
  unfold base_Key base_Key_j1
  cases s with
  | nil => simp [keyB]
  | cons c r =>
    rw [if_neg (by simp)]
    have hc : idx (c :: r) 0 = some c := rfl
    rw [hc]
    simp only [Option.bind_some]
    by_cases hl : (c :: r).length ≤ 40
    · rw [if_neg (by omega), Key_loop _ hl, keyB_cons]
      by_cases h1 : (c.toNat : Int) < 97
      · rw [if_pos h1]
        have : decide (97 ≤ c.toNat) = false := by simp; omega
        rw [this]; simp
      · rw [if_neg h1]
        have e1 : decide (97 ≤ c.toNat) = true := by simp; omega
        by_cases h2 : (122 : Int) < c.toNat
        · rw [if_pos (by simpa using h2)]
          have : decide (c.toNat ≤ 122) = false := by simp; omega
          rw [this]; simp
        · rw [if_neg (by simpa using h2)]
          have : decide (c.toNat ≤ 122) = true := by simp; omega
          rw [e1, this, decide_eq_true hl]; simp
    · rw [if_pos (by omega), keyB_cons, decide_eq_false hl]; simp
theorem chars_fin : ∀ n : Fin 256, decide (UInt8.ofNat n.val ∈ ([97, 98, 99, 100, 101, 102, 103, 104, 105, 106, 107, 108, 109, 110, 111, 112, 113, 114, 115, 116, 117, 118, 119, 120, 121, 122, 48, 49, 50, 51, 52, 53, 54, 55, 56, 57, 45, 95] : List UInt8)) = okN n.val := by decide +kernel
theorem low_fin : ∀ n : Fin 256, decide (UInt8.ofNat n.val ∈ ([97, 98, 99, 100, 101, 102, 103, 104, 105, 106, 107, 108, 109, 110, 111, 112, 113, 114, 115, 116, 117, 118, 119, 120, 121, 122] : List UInt8)) = (decide (97 ≤ n.val) && decide (n.val ≤ 122)) := by decide +kernel
theorem u8_fin {p : UInt8 → Bool} {q : Nat → Bool} (h : ∀ n : Fin 256, p (UInt8.ofNat n.val) = q n.val) (c : UInt8) : p c = q c.toNat := by
  have := h ⟨c.toNat, c.toNat_lt⟩
  simpa using this
end Go.Beacon

/- Plain facts: loops by a measure, products within bounds, quotients rounded down. No program in sight. -/
set_option linter.unusedVariables false
set_option linter.unusedSimpArgs false
namespace Go.Beacon
open Go Go.Eng

/-- A loop whose rounds keep something and make a number smaller ends; what its last round tells holds. -/
theorem iter_inv {S A : Type} (f : S → Option (S ⊕ A)) (m : S → Nat) (Inv : S → Prop) (R : A → Prop)
    (h : ∀ s, Inv s → (∃ s', f s = some (.inl s') ∧ Inv s' ∧ m s' < m s) ∨ (∃ a, f s = some (.inr a) ∧ R a)) : ∀ s, Inv s → ∃ a, iter f s = some a ∧ R a := by
  have key : ∀ (n : Nat) s, m s ≤ n → Inv s → ∃ a, iter f s = some a ∧ R a := by
    intro n
    induction n with
    | zero =>
      intro s hm hi
      rcases h s hi with ⟨s', _, _, h3⟩ | ⟨a, h1, h2⟩
      · omega
      · exact ⟨a, by rw [iter_eq, h1]; rfl, h2⟩
    | succ n ih =>
      intro s hm hi
      rcases h s hi with ⟨s', h1, h2, h3⟩ | ⟨a, h1, h2⟩
      · obtain ⟨a, h4, h5⟩ := ih s' (by omega) h2
        exact ⟨a, by rw [iter_eq, h1]; simpa using h4, h5⟩
      · exact ⟨a, by rw [iter_eq, h1]; rfl, h2⟩
  exact fun s hi => key (m s) s (Nat.le_refl _) hi
theorem orL3 (x y z : Int) : orL [x, y, z] = if orL [x, y] ≠ 0 then orL [x, y] else z := by
  by_cases h1 : x = 0 <;> by_cases h2 : y = 0 <;> by_cases h3 : z = 0 <;> simp [orL, h1, h2, h3]
theorem orL2 (x y : Int) : orL [x, y] = if x ≠ 0 then x else y := by
  by_cases h1 : x = 0 <;> by_cases h2 : y = 0 <;> simp [orL, h1, h2]
end Go.Beacon

/- Strings cut at one byte. No program in sight. -/
set_option linter.unusedVariables false
set_option linter.unusedSimpArgs false
namespace Go.Beacon
open Go Go.Eng

/-- A string cut at each byte c. -/
def splitC (c : UInt8) : Str → List Str
  | [] => [[]]
  | b :: r => if b = c then [] :: splitC c r else match splitC c r with
    | [] => [[b]]
    | h :: t => (b :: h) :: t
theorem splitC_ne (c : UInt8) : ∀ s, splitC c s ≠ []
  | [] => by simp [splitC]
  | b :: r => by
    unfold splitC
    split
    · simp
    · split <;> simp
theorem splitC_length (c : UInt8) : ∀ s, (splitC c s).length ≤ s.length + 1
  | [] => by simp [splitC]
  | b :: r => by
    have ih := splitC_length c r
    unfold splitC
    split
    · simp; omega
    · split
      · simp
      · rename_i h t e; rw [e] at ih; simp at ih ⊢; omega
theorem split_C (c : UInt8) : ∀ s, Lib.split s [c] = splitC c s
  | [] => rfl
  | b :: r => by
    have ih := split_C c r
    unfold Lib.split at ih ⊢
    unfold splitC
    by_cases hb : b = c
    · subst hb
      have hix : Lib.index (b :: r) [b] = 0 := by rw [Lib.index]; simp [List.isPrefixOf]
      rw [if_pos rfl, Lib.count_cons_eq, Nat.add_comm, Lib.splitK, hix, ← ih]
      simp
    · rw [if_neg hb, Lib.count_cons_ne b c r hb, ← ih]
      have hp : ([c] : List UInt8).isPrefixOf (b :: r) = false := by simp [List.isPrefixOf, Ne.symm hb]
      have hix : Lib.index (b :: r) [c] = if Lib.index r [c] == -1 then -1 else Lib.index r [c] + 1 := by rw [Lib.index, hp]; simp
      by_cases hm : Lib.index r [c] = -1
      · rw [Lib.count_miss hm]; rfl
      · have hge := Lib.index_ge r [c]
        obtain ⟨j, hj⟩ : ∃ j : Nat, Lib.index r [c] = j := ⟨(Lib.index r [c]).toNat, by omega⟩
        have hix' : Lib.index (b :: r) [c] = ((j + 1 : Nat) : Int) := by rw [hix, if_neg (fun e => hm (beq_iff_eq.1 e)), hj]; omega
        rw [Lib.count_hit (by simp) hj, Nat.add_comm]
        have n1 : ¬ ((((j + 1 : Nat) : Int) == -1) = true) := fun h => by have := beq_iff_eq.1 h; omega
        have n2 : ¬ ((((j : Nat) : Int) == -1) = true) := fun h => by have := beq_iff_eq.1 h; omega
        simp only [Lib.splitK, hix', hj, if_neg n1, if_neg n2]
        simp [List.take_succ_cons]
/-- strings.Split at one byte. -/
theorem splitO_eq {s : Str} {c : UInt8} (h : s.length ≤ 1000000000) : splitO s [c] = some (splitC c s) := by
  unfold splitO
  rw [if_pos ⟨by omega, by simp⟩]
  congr 1
  have h1 := Lib.splitB_data ⟨#[c]⟩ 0 (Lib.countB ⟨s.toArray⟩ ⟨#[c]⟩) ⟨s.toArray⟩
  rw [← split_C]
  exact h1
end Go.Beacon

/- Names: keys with points between. No program in sight. -/
set_option linter.unusedVariables false
set_option linter.unusedSimpArgs false
namespace Go.Beacon
open Go Go.Eng

/-- A string cut at the first byte c. -/
def cut1 (c : UInt8) : Str → Str × Str × Bool
  | [] => ([], [], false)
  | b :: r => if b = c then ([], r, true) else (b :: (cut1 c r).1, (cut1 c r).2.1, (cut1 c r).2.2)
theorem cut1_miss (c : UInt8) : ∀ s, (cut1 c s).2.2 = false → (cut1 c s).1 = s ∧ (cut1 c s).2.1 = []
  | [] => fun _ => ⟨rfl, rfl⟩
  | b :: r => by
    have ih := cut1_miss c r
    unfold cut1
    split
    · intro h; cases h
    · intro h; have := ih h; simp [this]
theorem cut_C (c : UInt8) : ∀ s, Lib.cut s [c] = cut1 c s
  | [] => rfl
  | b :: r => by
    have ih := cut_C c r
    unfold Lib.cut at ih ⊢
    unfold cut1
    by_cases hb : b = c
    · subst hb
      have hix : Lib.index (b :: r) [b] = 0 := by rw [Lib.index]; simp [List.isPrefixOf]
      rw [if_pos rfl, hix]; simp
    · rw [if_neg hb, ← ih]
      have hp : ([c] : List UInt8).isPrefixOf (b :: r) = false := by simp [List.isPrefixOf, Ne.symm hb]
      have hix : Lib.index (b :: r) [c] = if Lib.index r [c] == -1 then -1 else Lib.index r [c] + 1 := by rw [Lib.index, hp]; simp
      by_cases hm : Lib.index r [c] = -1
      · rw [hix, hm]; simp
      · have hge := Lib.index_ge r [c]
        have hn : ¬ ((Lib.index r [c] == -1) = true) := fun e => hm (beq_iff_eq.1 e)
        obtain ⟨j, hj⟩ : ∃ j : Nat, Lib.index r [c] = j := ⟨(Lib.index r [c]).toNat, by omega⟩
        have hix' : Lib.index (b :: r) [c] = ((j + 1 : Nat) : Int) := by rw [hix, if_neg hn, hj]; omega
        rw [hix', hj, if_pos (by omega), if_pos (by omega)]
        simp
theorem cutO_eq {s : Str} {c : UInt8} (h : s.length ≤ 1000000000) : cutO s [c] = some (cut1 c s) := by
  unfold cutO
  rw [if_pos (by omega), cut_C]
theorem split_cut (c : UInt8) : ∀ s, splitC c s = if (cut1 c s).2.2 = true then (cut1 c s).1 :: splitC c (cut1 c s).2.1 else [s]
  | [] => rfl
  | b :: r => by
    have ih := split_cut c r
    have e1 : splitC c (b :: r) = (if b = c then [] :: splitC c r else match splitC c r with
      | [] => [[b]]
      | h :: t => (b :: h) :: t) := rfl
    rw [e1]
    unfold cut1
    by_cases hb : b = c
    · rw [if_pos hb, if_pos hb]; rfl
    · rw [if_neg hb, if_neg hb, ih]
      by_cases hc : (cut1 c r).2.2 = true
      · simp [hc]
      · simp [hc]
theorem cut1_len (c : UInt8) : ∀ s, (cut1 c s).1.length ≤ s.length ∧ (cut1 c s).2.1.length ≤ s.length
  | [] => ⟨Nat.le_refl _, Nat.le_refl _⟩
  | b :: r => by
    have ih := cut1_len c r
    unfold cut1
    split
    · simp
    · simp; omega
/-- A name: at most k keys with points between. -/
def dotB (k : Nat) (s : Str) : Bool := decide ((splitC 46 s).length ≤ k) && (splitC 46 s).all keyB
theorem Dotted_loop (most : Nat) (hm : most ≤ 1000) : ∀ (k : Nat) (s : Str) (n : Int), 0 ≤ n → n + k = most → s.length ≤ 1000000000 → base_Dotted_l1 most s n = some (dotB k s)
  | 0, s, n, h0, hn, hs => by
    have hne := splitC_ne 46 s
    have hp : 0 < (splitC 46 s).length := List.length_pos_iff.2 hne
    unfold base_Dotted_l1
    rw [iter_eq]
    show (match base_Dotted_b1 most s n with | _ => _) = _
    rw [base_Dotted_b1, if_neg (by omega)]
    simp only [Option.map_some, Option.bind_some]
    unfold dotB
    rw [decide_eq_false (by omega)]; rfl
  | k + 1, s, n, h0, hn, hs => by
    have ih := Dotted_loop most hm k (cut1 46 s).2.1 (n + 1) (by omega) (by omega) (by have := (cut1_len 46 s).2; omega)
    unfold base_Dotted_l1 at ih ⊢
    rw [iter_eq]
    show (match base_Dotted_b1 most s n with | _ => _) = _
    rw [base_Dotted_b1, if_pos (by omega), cutO_eq hs]
    simp only [Option.bind_some, Key_eq]
    unfold dotB
    rw [split_cut 46 s]
    by_cases hk : keyB (cut1 46 s).1 = true
    · by_cases hc : (cut1 46 s).2.2 = true
      · simp only [hk, hc, Bool.not_true, Bool.false_eq_true, if_false, if_true]
        rw [w64_in (by omega) (by omega)]
        refine ih.trans ?_
        unfold dotB
        simp [hk]
      · have hs' := cut1_miss 46 s (by simpa using hc)
        rw [hs'.1] at hk
        simp [hk, hc, hs'.1]
    · by_cases hc : (cut1 46 s).2.2 = true
      · simp [hk, hc]
      · have hs' := cut1_miss 46 s (by simpa using hc)
        rw [hs'.1] at hk
        simp [hk, hc, hs'.1]
end Go.Beacon

/- Strings without marks; letters: the checks of the program and of the reference. No program in sight. -/
set_option linter.unusedVariables false
set_option linter.unusedSimpArgs false
namespace Go.Beacon
open Go Go.Eng

/-! letters -/
end Go.Beacon

/- Trimming. No program in sight. -/
set_option linter.unusedVariables false
set_option linter.unusedSimpArgs false
namespace Go.Beacon
open Go Go.Eng

theorem dropW_nil {α : Type} (p : α → Bool) : ∀ l : List α, l.dropWhile p = [] ↔ l.all p = true
  | [] => by simp
  | x :: r => by
    rw [List.dropWhile_cons]
    cases h : p x with
    | true => simp only [if_true, List.all_cons, h, Bool.true_and]; exact dropW_nil p r
    | false => simp [h]
theorem trimS_nil (l cs : Str) : Lib.trimS l cs = [] ↔ l.all (fun c => decide (c ∈ cs)) = true := by
  have hc : ∀ c : UInt8, cs.contains c = decide (c ∈ cs) := fun c => by rw [Bool.eq_iff_iff]; simp
  unfold Lib.trimS Lib.trimLeftS Lib.trimRightS
  rw [dropW_nil, List.all_reverse]
  constructor
  · intro h
    have hd : (l.reverse.dropWhile (cs.contains ·)) = [] := by
      cases hh : l.reverse.dropWhile (cs.contains ·) with
      | nil => rfl
      | cons a b =>
        have h1 := List.head?_dropWhile_not (fun c => cs.contains c) l.reverse
        rw [hh] at h h1
        simp only [List.head?_cons] at h1
        simp only [List.all_cons, Bool.and_eq_true] at h
        rw [h.1] at h1; simp at h1
    rw [dropW_nil, List.all_reverse] at hd
    simpa [hc] using hd
  · intro h
    have hd : l.reverse.dropWhile (cs.contains ·) = [] := by
      rw [dropW_nil, List.all_reverse]; simpa [hc] using h
    rw [hd]; rfl
theorem trimO_eq {s cs : Str} (h1 : s.length ≤ 100000) (h2 : cs.length ≤ 100000) (h3 : cs.all (fun b => decide (b.toNat < 128)) = true) : trimO s cs = some (Lib.trimS s cs) := by
  unfold trimO; rw [if_pos ⟨by omega, by omega, h3⟩]
end Go.Beacon

/- Keys as the first reference tells them: by trimming. No program in sight. -/
set_option linter.unusedVariables false
set_option linter.unusedSimpArgs false
namespace Go.Beacon
open Go Go.Eng

theorem QKeyT_eq (s : Str) : Q_Key s = some (keyB s) := by
  unfold Q_Key Q_Key_j1
  rw [Qin_eq]
  cases s with
  | nil => rfl
  | cons c r =>
    by_cases hl : (c :: r).length ≤ 40
    · rw [if_pos (by simp; simp at hl; omega), trimO_eq (by omega) (by simp) (by decide)]
      simp only [Option.bind_some]
      have e : (c :: r).all (fun c => decide (c ∈ ([97, 98, 99, 100, 101, 102, 103, 104, 105, 106, 107, 108, 109, 110, 111, 112, 113, 114, 115, 116, 117, 118, 119, 120, 121, 122, 48, 49, 50, 51, 52, 53, 54, 55, 56, 57, 45, 95] : List UInt8))) = (c :: r).all (fun c => okN c.toNat) := by
        congr 1; funext c
        exact u8_fin (p := fun c => decide (c ∈ ([97, 98, 99, 100, 101, 102, 103, 104, 105, 106, 107, 108, 109, 110, 111, 112, 113, 114, 115, 116, 117, 118, 119, 120, 121, 122, 48, 49, 50, 51, 52, 53, 54, 55, 56, 57, 45, 95] : List UInt8))) chars_fin c
      have e2 := u8_fin (p := fun c => decide (c ∈ ([97, 98, 99, 100, 101, 102, 103, 104, 105, 106, 107, 108, 109, 110, 111, 112, 113, 114, 115, 116, 117, 118, 119, 120, 121, 122] : List UInt8))) (q := fun n => decide (97 ≤ n) && decide (n ≤ 122)) low_fin c
      rw [keyB_cons, decide_eq_true hl, Bool.true_and, ← e, ← e2]
      by_cases ht : Lib.trimS (c :: r) ([97, 98, 99, 100, 101, 102, 103, 104, 105, 106, 107, 108, 109, 110, 111, 112, 113, 114, 115, 116, 117, 118, 119, 120, 121, 122, 48, 49, 50, 51, 52, 53, 54, 55, 56, 57, 45, 95] : Str) = []
      · rw [if_pos ht, (trimS_nil _ _).1 ht, Bool.and_true]
        have i0 : idx (c :: r) 0 = some c := rfl
        rw [i0]
        simp only [Option.bind_some, indexByteI, toU8]
        congr 1
        have := indexByte_nonneg ([97, 98, 99, 100, 101, 102, 103, 104, 105, 106, 107, 108, 109, 110, 111, 112, 113, 114, 115, 116, 117, 118, 119, 120, 121, 122] : List UInt8) c
        rw [decide_eq_decide]
        constructor
        · intro h; exact Classical.byContradiction fun h' => by have := this.2 h'; omega
        · intro h; have h' := mt this.1 (fun h' => h' h); omega
      · rw [if_neg ht]
        have : (c :: r).all (fun c => decide (c ∈ ([97, 98, 99, 100, 101, 102, 103, 104, 105, 106, 107, 108, 109, 110, 111, 112, 113, 114, 115, 116, 117, 118, 119, 120, 121, 122, 48, 49, 50, 51, 52, 53, 54, 55, 56, 57, 45, 95] : List UInt8))) = false := by
          rw [← Bool.not_eq_true]; exact fun h => ht ((trimS_nil _ _).2 h)
        rw [this, Bool.and_false]
    · rw [if_neg (by simp; simp at hl; omega), keyB_cons, decide_eq_false hl]; rfl
end Go.Beacon

/- Parts of queries and items: both checks tell the same. No program in sight. -/
set_option linter.unusedVariables false
set_option linter.unusedSimpArgs false
namespace Go.Beacon
open Go Go.Eng

/-! a string that begins with another one -/
def preB (s p : Str) : Bool := decide (s.take p.length = p)
theorem preB_len {s p : Str} (h : preB s p = true) : p.length ≤ s.length := by
  have h : s.take p.length = p := of_decide_eq_true h
  have := congrArg List.length h
  simp at this; omega
theorem slHasPrefix_eq (s p : Str) (h : s.length ≤ 1000000000) : internal_stringslite_HasPrefix s p = some (preB s p) := by
  unfold internal_stringslite_HasPrefix internal_stringslite_HasPrefix_j1
  by_cases c : p.length ≤ s.length
  · rw [if_pos (by omega), slc_in (by omega) (by omega) (by omega)]
    simp only [Option.bind_some]
    unfold preB
    simp
  · rw [if_neg (by omega)]
    cases hp : preB s p with
    | false => rfl
    | true => exact absurd (preB_len hp) c
theorem CutPrefix_eq (s p : Str) (h : s.length ≤ 1000000000) : strings_CutPrefix s p = some (if preB s p = true then (s.drop p.length, true) else (s, false)) := by
  unfold strings_CutPrefix internal_stringslite_CutPrefix
  rw [slHasPrefix_eq s p h]
  simp only [Option.bind_some]
  cases hp : preB s p with
  | false => simp
  | true =>
    have := preB_len hp
    rw [if_neg (by simp), slc_in (by omega) (by omega) (by omega)]
    simp only [Option.bind_some, if_true]
    congr 2
    rw [List.take_of_length_le (by simp)]; simp
theorem HasPrefixQ_eq (s p : Str) (h : s.length ≤ 1000000000) : strings_HasPrefix s p = some (preB s p) := by
  unfold strings_HasPrefix
  rw [slHasPrefix_eq s p h]; rfl

/-! fields -/
abbrev sTag : Str := [116, 97, 103, 46]
abbrev sProp : Str := [112, 114, 111, 112, 46]
abbrev sFirm : Str := [102, 105, 114, 109, 119, 97, 114, 101]
def propB (s : Str) : Bool := decide (s.length ≤ 40) && dotB 5 s
theorem Property_eq {s : Str} (h : s.length ≤ 1000000000) : item_Property s = some (propB s) := by
  unfold item_Property item_Property_j1 propB
  by_cases c : s.length ≤ 40
  · rw [if_pos (by omega)]
    unfold base_Dotted
    rw [show (5 : Int) = ((5 : Nat) : Int) from rfl, Dotted_loop 5 (by omega) 5 s 0 (by omega) (by omega) h]
    simp [c]
  · rw [if_neg (by omega)]; simp [c]
theorem PropName_eq {s : Str} (h : s.length ≤ 1000000000) : Q_PropName s = some (propB s) := by
  unfold Q_PropName Q_PropName_j1 propB dotB
  rw [splitO_eq h]
  simp only [Option.bind_some]
  have hl := splitC_length 46 s
  by_cases c : s.length ≤ 40
  · rw [if_pos (by omega)]
    by_cases d : (splitC 46 s).length ≤ 5
    · rw [if_pos (by omega)]
      have hc : slices_ContainsFunc_string_string (splitC 46 s) (fun y0 => Q_PropName_1x y0) = some ((splitC 46 s).any (fun x => !keyB x)) :=
        gContainsFunc_eq _ _ _ (fun x _ => by unfold Q_PropName_1x; rw [QKeyT_eq]; rfl) (by omega)
      rw [hc]
      simp only [Option.bind_some, Option.some.injEq]
      simp [c, d, List.all_eq_not_any_not]
    · rw [if_neg (by omega)]; simp [d]
  · rw [if_neg (by omega)]; simp [c]
def tagF (s : Str) : Bool := preB s sTag && keyB (s.drop 4)
def propF (s : Str) : Bool := preB s sProp && propB (s.drop 5)
theorem isTag_eq {s : Str} (h : s.length ≤ 1000000000) : item_isTag s = some (tagF s) := by
  unfold item_isTag item_isTag_j1 tagF
  rw [CutPrefix_eq s _ h]
  simp only [Option.bind_some]
  cases hp : preB s sTag with
  | false => simp
  | true =>
    rw [if_pos rfl, if_pos rfl, Key_eq]
    simp
theorem isProp_eq {s : Str} (h : s.length ≤ 1000000000) : item_isProp s = some (propF s) := by
  unfold item_isProp item_isProp_j1 propF
  rw [CutPrefix_eq s _ h]
  simp only [Option.bind_some]
  cases hp : preB s sProp with
  | false => simp
  | true =>
    rw [if_pos rfl, if_pos rfl, Property_eq (by simp; omega)]
    simp
def plainF (s : Str) : Bool := decide (s = [107, 101, 121]) || (decide (s = [109, 111, 100, 101, 108]) || (decide (s = [116, 101, 110, 97, 110, 116]) || decide (s = sFirm)))
theorem Field_eq {s : Str} (h : s.length ≤ 1000000000) : item_Field s = some (plainF s || (tagF s || propF s)) := by
  unfold item_Field item_Field_j1 plainF
  by_cases c1 : s = [107, 101, 121]
  · rw [if_pos c1]; simp [c1]
  by_cases c2 : s = [109, 111, 100, 101, 108]
  · rw [if_neg c1, if_pos c2]; simp [c2]
  by_cases c3 : s = [116, 101, 110, 97, 110, 116]
  · rw [if_neg c1, if_neg c2, if_pos c3]; simp [c3]
  by_cases c4 : s = sFirm
  · rw [if_neg c1, if_neg c2, if_neg c3, if_pos c4]; simp [c4]
  rw [if_neg c1, if_neg c2, if_neg c3, if_neg c4, isTag_eq h]
  simp only [Option.bind_some]
  cases ht : tagF s with
  | true => simp
  | false =>
    rw [if_neg (by simp), isProp_eq h]
    simp [c1, c2, c3, c4]
theorem ContSq (L : List Str) (m : Str) (hl : L.length ≤ 10000000) : slices_Contains_string_string L m = some (decide (m ∈ L)) := by
  unfold slices_Contains_string_string slices_Index_string_string
  have key : ∀ (k : Nat) (n : Int), 0 ≤ n → n + k = L.length → ∃ j, slices_Index_string_string_l1 L m n = some j ∧ (0 ≤ j ↔ m ∈ L.drop n.toNat) := by
    intro k
    induction k with
    | zero =>
      intro n h0 hn
      refine ⟨-1, ?_, ?_⟩
      · unfold slices_Index_string_string_l1
        rw [iter_eq, slices_Index_string_string_b1, if_neg (by omega), map_inr_after]
      · rw [List.drop_of_length_le (by omega)]; simp
    | succ k ih =>
      intro n h0 hn
      obtain ⟨s, hs, _, hd⟩ := idx_lt L h0 (by omega)
      unfold slices_Index_string_string_l1
      rw [iter_eq, slices_Index_string_string_b1, if_pos (by omega), hs]
      simp only [Option.bind_some]
      by_cases e : m = s
      · rw [if_pos e, map_inr_after]
        exact ⟨n, rfl, by rw [hd, ← e]; simp; omega⟩
      · rw [if_neg e, w64_in (by omega) (by omega)]
        simp only [Option.bind_some, after_inl]
        obtain ⟨j, h1, h2⟩ := ih (n + 1) (by omega) (by omega)
        exact ⟨j, h1, by rw [h2, hd]; simp [e]⟩
  obtain ⟨j, h1, h2⟩ := key L.length 0 (by omega) (by omega)
  rw [h1]
  simp only [Option.bind_some, Option.some.injEq]
  rw [decide_eq_decide, h2]; simp
theorem FieldRight_eq {s : Str} (h : s.length ≤ 1000000000) (has : Bool) : Q_FieldRight s has = some (tagF s || (propF s || (!has && plainF s))) := by
  have j2 : ∀ c, Q_FieldRight_j2 s has c = some (c || (!has && plainF s)) := by
    intro c
    unfold Q_FieldRight_j2 Q_FieldRight_j3
    cases c with
    | true => simp
    | false =>
      rw [if_neg (by simp)]
      cases has with
      | true => simp
      | false =>
        rw [if_pos (by simp), ContSq _ _ (by simp)]
        simp only [Option.bind_some, Option.some.injEq]
        unfold plainF
        simp
  have j1 : ∀ c, Q_FieldRight_j1 s has c = some (c || (propF s || (!has && plainF s))) := by
    intro c
    unfold Q_FieldRight_j1
    cases c with
    | true => simp
    | false =>
      rw [if_neg (by simp), CutPrefix_eq s _ h]
      simp only [Option.bind_some]
      unfold propF
      cases hp : preB s sProp with
      | false => rw [if_neg (by simp), j2]; simp
      | true =>
        rw [if_pos rfl, if_pos rfl, PropName_eq (by simp; omega)]
        simp only [Option.bind_some]
        rw [j2]; simp
  unfold Q_FieldRight
  rw [CutPrefix_eq s _ h]
  simp only [Option.bind_some]
  unfold tagF
  cases hp : preB s sTag with
  | false => rw [if_neg (by simp), j1]; simp
  | true =>
    rw [if_pos rfl, if_pos rfl, QKeyT_eq]
    simp only [Option.bind_some]
    rw [j1]; simp

/-! values -/
def rightB (v : ValueS) : Bool := (decide (0 ≤ v.Kind) && decide (v.Kind ≤ 3)) && ((decide (v.Kind = 1) || !v.Flag) && ((decide (v.Kind = 2) || decide (v.Number = 0)) && (decide (v.Kind = 3) || decide (v.Words = []))) && ((decide (-1000000000 ≤ v.Number) && decide (v.Number ≤ 1000000000)) && (decide (v.Words.length ≤ 100) && Lib.validD v.Words)))
theorem Right_j1 (v : ValueS) (hw : v.Words.length ≤ 1000000) (c : Bool) (n : Int) (q : Str) : item_Right_j1 v c n q = some ((decide (v.Flag = c) && (decide (v.Number = n) && decide (v.Words = q))) && ((decide (-1000000000 ≤ v.Number) && decide (v.Number ≤ 1000000000)) && (decide (v.Words.length ≤ 100) && Lib.validD v.Words))) := by
  obtain ⟨k, f, m, w⟩ := v
  unfold item_Right_j1 item_Right_j4 validO base_Out base_Out_j1
  simp only [ValueS.mk.injEq, true_and]
  by_cases h1 : f = c ∧ m = n ∧ w = q
  · rw [if_pos h1]
    obtain ⟨rfl, rfl, rfl⟩ := h1
    by_cases h2 : -1000000000 ≤ m ∧ m ≤ 1000000000
    · rw [if_pos (by simp; omega)]
      by_cases h3 : w.length ≤ 100
      · rw [if_pos (by omega), if_pos (by simp only at hw; omega)]
        simp [h2, h3]
      · rw [if_neg (by omega)]; simp [h3]
    · rw [if_neg (by simp; omega)]
      rw [eq_comm]; simp; omega
  · rw [if_neg h1]
    rw [eq_comm]; simp
    intro a b c'
    exact absurd ⟨a, b, c'⟩ h1
theorem Right_eq (v : ValueS) (hw : v.Words.length ≤ 1000000) : item_Right v = some (rightB v) := by
  unfold item_Right item_Right_j3 item_Right_j2
  simp only [Right_j1 v hw]
  unfold rightB
  by_cases k0 : v.Kind = 0
  · rw [if_pos k0]; simp [k0]
  by_cases k1 : v.Kind = 1
  · rw [if_neg k0, if_pos k1]; simp [k1]
  by_cases k2 : v.Kind = 2
  · rw [if_neg k0, if_neg k1, if_pos k2]; simp [k2]
  by_cases k3 : v.Kind = 3
  · rw [if_neg k0, if_neg k1, if_neg k2, if_pos k3]; simp [k3]
  rw [if_neg k0, if_neg k1, if_neg k2, if_neg k3]
  rw [eq_comm]; simp; omega
theorem RightValue_eq (v : ValueS) (hw : v.Words.length ≤ 1000000) : Q_RightValue v = some (rightB v) := by
  unfold Q_RightValue Q_RightValue_l1
  have h := iter_find [v.Flag, decide (v.Number ≠ (0 : Int)), decide (v.Words ≠ ([] : Str))] (fun x : Int => Q_RightValue_b1 v x) (fun _ => none) false (by simp)
  clear h
  have k3 : Q_RightValue_k3 v = some ((decide (0 ≤ v.Kind) && decide (v.Kind ≤ 3)) && ((decide (-1000000000 ≤ v.Number) && decide (v.Number ≤ 1000000000)) && (Lib.validD v.Words && decide (v.Words.length ≤ 100)))) := by
    unfold Q_RightValue_k3 Q_RightValue_j2 validO Q_in Q_in_j1
    by_cases h1 : 0 ≤ v.Kind ∧ v.Kind ≤ 3
    · rw [if_pos (by simp; omega)]
      by_cases h2 : -1000000000 ≤ v.Number ∧ v.Number ≤ 1000000000
      · rw [if_pos (by simp; omega), if_pos (by omega)]
        have e : decide ((v.Words.length : Int) ≤ 100) = decide (v.Words.length ≤ 100) := by rw [decide_eq_decide]; omega
        simp [h1, h2, e]
      · rw [if_neg (by simp; omega)]
        rw [eq_comm]; simp; omega
    · rw [if_neg (by simp; omega)]
      rw [eq_comm]; simp; omega
  have w1 : w64 ((0 : Int) + 1) = 1 := w64_in (by omega) (by omega)
  have w2 : w64 ((1 : Int) + 1) = 2 := w64_in (by omega) (by omega)
  have w3 : w64 ((2 : Int) + 1) = 3 := w64_in (by omega) (by omega)
  have i0 : idx [v.Flag, decide (v.Number ≠ (0 : Int)), decide (v.Words ≠ ([] : Str))] 0 = some v.Flag := rfl
  have i1 : idx [v.Flag, decide (v.Number ≠ (0 : Int)), decide (v.Words ≠ ([] : Str))] 1 = some (decide (v.Number ≠ (0 : Int))) := rfl
  have i2 : idx [v.Flag, decide (v.Number ≠ (0 : Int)), decide (v.Words ≠ ([] : Str))] 2 = some (decide (v.Words ≠ ([] : Str))) := rfl
  have b3 : Q_RightValue_b1 v 3 = Option.map .inr (Q_RightValue_k3 v) := by unfold Q_RightValue_b1; rw [if_neg (by simp)]
  have b2 : Q_RightValue_b1 v 2 = if (decide (v.Words ≠ ([] : Str)) && decide (v.Kind ≠ 3)) = true then some (.inr false) else some (.inl 3) := by
    unfold Q_RightValue_b1 Q_RightValue_j1; rw [if_pos (by simp), i2, w3]; rfl
  have b1 : Q_RightValue_b1 v 1 = if (decide (v.Number ≠ (0 : Int)) && decide (v.Kind ≠ 2)) = true then some (.inr false) else some (.inl 2) := by
    unfold Q_RightValue_b1 Q_RightValue_j1; rw [if_pos (by simp), i1, w2]; rfl
  have b0 : Q_RightValue_b1 v 0 = if (v.Flag && decide (v.Kind ≠ 1)) = true then some (.inr false) else some (.inl 1) := by
    unfold Q_RightValue_b1 Q_RightValue_j1; rw [if_pos (by simp), i0, w1]; rfl
  have e3 : iter (fun x : Int => Q_RightValue_b1 v x) 3 = Q_RightValue_k3 v := by rw [iter_eq, b3, map_inr_after]
  have e2 : iter (fun x : Int => Q_RightValue_b1 v x) 2 = if (decide (v.Words ≠ ([] : Str)) && decide (v.Kind ≠ 3)) = true then some false else Q_RightValue_k3 v := by
    rw [iter_eq, b2]; split
    · rfl
    · simp only [Option.bind_some, after_inl]; exact e3
  have e1 : iter (fun x : Int => Q_RightValue_b1 v x) 1 = if (decide (v.Number ≠ (0 : Int)) && decide (v.Kind ≠ 2)) = true then some false else iter (fun x : Int => Q_RightValue_b1 v x) 2 := by
    rw [iter_eq, b1]; split
    · rfl
    · simp only [Option.bind_some, after_inl]
  have e0 : iter (fun x : Int => Q_RightValue_b1 v x) 0 = if (v.Flag && decide (v.Kind ≠ 1)) = true then some false else iter (fun x : Int => Q_RightValue_b1 v x) 1 := by
    rw [iter_eq, b0]; split
    · rfl
    · simp only [Option.bind_some, after_inl]
  rw [e0, e1, e2, k3]
  unfold rightB
  by_cases c0 : (v.Flag && decide (v.Kind ≠ 1)) = true
  · rw [if_pos c0]; rw [eq_comm]; simp at c0 ⊢; intro _ _ h; exact absurd (h.resolve_left c0.2) (by simp [c0.1])
  rw [if_neg c0]
  by_cases c1 : (decide (v.Number ≠ (0 : Int)) && decide (v.Kind ≠ 2)) = true
  · rw [if_pos c1]; rw [eq_comm]; simp at c1 ⊢; intro _ _ _ h; exact absurd (h.resolve_left c1.2) c1.1
  rw [if_neg c1]
  by_cases c2 : (decide (v.Words ≠ ([] : Str)) && decide (v.Kind ≠ 3)) = true
  · rw [if_pos c2]; rw [eq_comm]; simp at c2 ⊢; intro _ _ _ _ h; exact absurd (h.resolve_left c2.2) c2.1
  rw [if_neg c2]
  congr 1
  have d0 : (decide (v.Kind = 1) || !v.Flag) = true := by simp at c0 ⊢; cases hf : v.Flag <;> simp_all
  have d1 : (decide (v.Kind = 2) || decide (v.Number = 0)) = true := by simp at c1 ⊢; omega
  have d2 : (decide (v.Kind = 3) || decide (v.Words = [])) = true := by
    simp at c2 ⊢
    by_cases hw0 : v.Words = []
    · exact .inr hw0
    · exact .inl (c2 hw0)
  rw [d0, d1, d2]
  simp only [Bool.true_and, Bool.and_comm (Lib.validD v.Words)]
end Go.Beacon

/- Streams, in the form that is stepped by one text: what can still be drawn is counted down. No program in sight. -/
set_option linter.unusedVariables false
set_option linter.unusedSimpArgs false
namespace Go.Beacon
open Go Go.Eng

theorem Next_k {s : Stm} {n K : Int} (hs : SOk s K) (hK : 1 ≤ K) (h1 : 1 ≤ n) (h2 : n ≤ 4611686018427387904) : Gen (Stream_Next s n) (K - 1) (fun v => 0 ≤ v ∧ v < n) :=
  Next_ok (hs.less (by omega)) h1 h2 (by omega)
theorem Flip_k {s : Stm} {n K : Int} (hs : SOk s K) (hK : 1 ≤ K) (h1 : 1 ≤ n) (h2 : n ≤ 4611686018427387904) : Gen (Stream_Flip s n) (K - 1) (fun _ => True) :=
  Flip_ok (hs.less (by omega)) h1 h2 (by omega)
theorem Pick_k {s : Stm} {l : List Int} {K : Int} (hs : SOk s K) (hK : 1 ≤ K) (h1 : l ≠ []) (h2 : l.length ≤ 1000) : Gen (Stream_Pick s l) (K - 1) (fun v => v ∈ l) :=
  Pick_ok (hs.less (by omega)) h1 h2 (by omega)
theorem Some_k {s : Stm} {l : List Str} {K : Int} (hs : SOk s K) (hK : 1 ≤ K) (h1 : l ≠ []) (h2 : l.length ≤ 1000) : Gen (Stream_Some s l) (K - 1) (fun v => v ∈ l) :=
  Some_ok (hs.less (by omega)) h1 h2 (by omega)
theorem Odd_k {s : Stm} {a b K : Int} (hs : SOk s K) (hK : 2 ≤ K) (hab : a ≤ b) (ha : -1099511627776 ≤ a) (hb : b ≤ 1099511627776) : Gen (Stream_Odd s a b) (K - 2) (fun v => -1099511627777 ≤ v ∧ v ≤ 1099511627777) :=
  Odd_ok (hs.less (by omega)) hab ha hb (by omega)
end Go.Beacon

/- Plain functions that end, and what their results are like: one lemma for each step. No program in sight. -/
set_option linter.unusedVariables false
set_option linter.unusedSimpArgs false
namespace Go.Beacon
open Go Go.Eng

/-- It ends, and its result is so. -/
def Ok {α : Type} (m : Option α) (Q : α → Prop) : Prop := ∃ r, m = some r ∧ Q r
theorem Ok.ret {α : Type} {v : α} {Q : α → Prop} (h : Q v) : Ok (some v) Q := ⟨v, rfl, h⟩
theorem Ok.mono {α : Type} {m : Option α} {P Q : α → Prop} (h : Ok m P) (hp : ∀ v, P v → Q v) : Ok m Q := by
  obtain ⟨r, h1, h2⟩ := h; exact ⟨r, h1, hp r h2⟩
theorem Ok.bind {α β : Type} {m : Option α} {f : α → Option β} {P : α → Prop} {Q : β → Prop} (h : Ok m P) (hf : ∀ v, P v → Ok (f v) Q) : Ok (m.bind f) Q := by
  obtain ⟨r, rfl, h2⟩ := h; exact hf r h2
theorem Ok.is {α β : Type} {m : Option α} {v : α} {f : α → Option β} {Q : β → Prop} (h : m = some v) (hf : Ok (f v) Q) : Ok (m.bind f) Q := by rw [h]; exact hf
theorem Ok.inr {α β : Type} {m : Option β} {Q : α ⊕ β → Prop} (h : Ok m (fun r => Q (.inr r))) : Ok (Option.map .inr m) Q := by
  obtain ⟨r, rfl, h2⟩ := h; exact ⟨_, rfl, h2⟩
theorem Ok.gen {α β : Type} {m : Option (α × Stm)} {k : Int} {P : α → Prop} {f : α × Stm → Option β} {Q : β → Prop} (h : Gen m k P) (hf : ∀ v s', P v → SOk s' k → Ok (f (v, s')) Q) : Ok (m.bind f) Q := by
  obtain ⟨v, s', rfl, h1, h2⟩ := h; exact hf v s' h1 h2
theorem Gen.of {α : Type} {m : Option (α × Stm)} {k : Int} {P : α → Prop} (h : Ok m (fun r => P r.1 ∧ SOk r.2 k)) : Gen m k P := by
  obtain ⟨⟨v, s⟩, h1, h2, h3⟩ := h; exact ⟨v, s, h1, h2, h3⟩
theorem Ok.of {α : Type} {m : Option (α × Stm)} {k : Int} {P : α → Prop} (h : Gen m k P) : Ok m (fun r => P r.1 ∧ SOk r.2 k) := by
  obtain ⟨v, s, h1, h2, h3⟩ := h; exact ⟨(v, s), h1, h2, h3⟩
theorem Ok.idx {α β : Type} {xs : List α} {i : Int} {f : α → Option β} {Q : β → Prop} (h0 : 0 ≤ i) (h1 : i < xs.length) (hf : ∀ x, idx xs i = some x → x ∈ xs → Ok (f x) Q) : Ok ((idx xs i).bind f) Q := by
  obtain ⟨x, hx, hm, _⟩ := idx_lt xs h0 h1
  rw [hx]; exact hf x hx hm
theorem Ok.app {α β : Type} {xs ys : List α} {f : List α → Option β} {Q : β → Prop} (h : xs.length + ys.length ≤ 1000000000) (hf : Ok (f (xs ++ ys)) Q) : Ok ((app xs ys).bind f) Q := by
  rw [app_le h]; exact hf
theorem Ok.slc {α β : Type} {xs : List α} {a b : Int} {f : List α → Option β} {Q : β → Prop} (h0 : 0 ≤ a) (h1 : a ≤ b) (h2 : b ≤ xs.length) (hf : ∀ ys : List α, ys = (xs.drop a.toNat).take (b.toNat - a.toNat) → (ys.length : Int) = b - a → Ok (f ys) Q) : Ok ((slc xs a b).bind f) Q := by
  rw [slc_in h0 h1 h2]; exact hf _ rfl (by simp; omega)
/-- What a round of a loop may tell: it keeps something and makes a number smaller, or it is the last. -/
abbrev Stp {S A : Type} (m : S → Nat) (Inv : S → Prop) (R : A → Prop) (s : S) : S ⊕ A → Prop
  | .inl s' => Inv s' ∧ m s' < m s
  | .inr a => R a
theorem Ok.iter {S A : Type} {f : S → Option (S ⊕ A)} {R : A → Prop} (m : S → Nat) (Inv : S → Prop)
    (h : ∀ s, Inv s → Ok (f s) (Stp m Inv R s)) (s : S) (hs : Inv s) : Ok (iter f s) R := by
  refine iter_inv f m Inv R (fun s hi => ?_) s hs
  obtain ⟨r, h1, h2⟩ := h s hi
  cases r with
  | inl s' => exact .inl ⟨s', h1, h2.1, h2.2⟩
  | inr a => exact .inr ⟨a, h1, h2⟩
/-- A round of a loop over the places of a list. -/
abbrev Rng {A : Type} (N : Nat) (R : A → Prop) (i : Int) : Int ⊕ A → Prop
  | .inl j => j = i + 1 ∧ i < N
  | .inr a => R a
theorem Ok.range {A : Type} {f : Int → Option (Int ⊕ A)} {R : A → Prop} (N : Nat) (h : ∀ i : Int, 0 ≤ i → i ≤ N → Ok (f i) (Rng N R i)) : Ok (Eng.iter f 0) R := by
  refine Ok.iter (fun i : Int => N + 1 - i.toNat) (fun i : Int => 0 ≤ i ∧ i ≤ N) (fun i hi => ?_) 0 ⟨by omega, by omega⟩
  refine (h i hi.1 hi.2).mono (fun r hr => ?_)
  cases r with
  | inl j => simp only [Rng, Stp] at hr ⊢; omega
  | inr a => exact hr
/-- The same loops are the same. -/
theorem iter_same {S A : Type} {f g : S → Option (S ⊕ A)} (h : ∀ s, f s = g s) (s : S) : iter f s = iter g s := by rw [funext h]
end Go.Beacon

/- Loops over lists: folds, invariants. No program in sight. -/
set_option linter.unusedVariables false
set_option linter.unusedSimpArgs false
namespace Go.Beacon
open Go Go.Eng
/-- A loop over a list that never ends early: a fold. -/
theorem iter_foldl {α σ A X : Type} (xs : List α) (mk : σ → Int → X) (f : X → Option (X ⊕ A)) (stp : σ → α → σ) (Inv : Int → σ → Prop) (E : σ → Option A)
    (h1 : ∀ s (i : Int) x, 0 ≤ i → i < xs.length → idx xs i = some x → Inv i s → f (mk s i) = some (.inl (mk (stp s x) (i + 1))) ∧ Inv (i + 1) (stp s x))
    (h2 : ∀ s, Inv xs.length s → f (mk s xs.length) = Option.map .inr (E s)) (s : σ) (h0 : Inv 0 s) : iter f (mk s 0) = E (xs.foldl stp s) := by
  have key : ∀ (n : Nat) (s : σ) (i : Int), 0 ≤ i → i + n = xs.length → Inv i s → iter f (mk s i) = E ((xs.drop i.toNat).foldl stp s) := by
    intro n
    induction n with
    | zero =>
      intro s i hi hn hv
      have : i = xs.length := by omega
      subst this
      rw [iter_eq, h2 s hv, map_inr_after]
      simp
    | succ n ih =>
      intro s i hi hn hv
      obtain ⟨x, hx, _, hd⟩ := idx_lt xs hi (by omega)
      obtain ⟨e1, e2⟩ := h1 s i x hi (by omega) hx hv
      rw [iter_eq, e1]
      simp only [Option.bind_some, after_inl]
      rw [ih _ _ (by omega) (by omega) e2, hd]
      rfl
  have := key xs.length s 0 (by omega) (by omega) h0
  simpa using this
abbrev RngI {A : Type} (N : Nat) (Inv : Int → Prop) (R : A → Prop) (i : Int) : Int ⊕ A → Prop
  | .inl j => j = i + 1 ∧ i < N ∧ Inv (i + 1)
  | .inr a => R a
theorem Ok.rangeI {A : Type} {f : Int → Option (Int ⊕ A)} {R : A → Prop} (N : Nat) (Inv : Int → Prop) (h0 : Inv 0) (h : ∀ i : Int, 0 ≤ i → i ≤ N → Inv i → Ok (f i) (RngI N Inv R i)) : Ok (Eng.iter f 0) R := by
  refine Ok.iter (fun i : Int => N + 1 - i.toNat) (fun i : Int => (0 ≤ i ∧ i ≤ N) ∧ Inv i) (fun i hi => ?_) 0 ⟨⟨by omega, by omega⟩, h0⟩
  refine (h i hi.1.1 hi.1.2 hi.2).mono (fun r hr => ?_)
  cases r with
  | inl j =>
    simp only [Stp, RngI] at hr ⊢
    obtain ⟨rfl, h2, h3⟩ := hr
    exact ⟨⟨by omega, h3⟩, by omega⟩
  | inr a => exact hr
theorem take_succ {α : Type} {xs : List α} {i : Int} {x : α} (h0 : 0 ≤ i) (h : idx xs i = some x) : xs.take (i + 1).toNat = xs.take i.toNat ++ [x] := by
  obtain ⟨_, h1, h2⟩ := idx_some h
  rw [show (i + 1).toNat = i.toNat + 1 by omega, List.take_add_one, h2]; rfl
theorem Ok.rangeS {σ A X : Type} {f : X → Option (X ⊕ A)} {R : A → Prop} (N : Nat) (mk : σ → Int → X) (Inv : Int → σ → Prop)
    (h : ∀ s (i : Int), 0 ≤ i → i ≤ N → Inv i s → Ok (f (mk s i)) (fun r => (∃ s', r = .inl (mk s' (i + 1)) ∧ i < N ∧ Inv (i + 1) s') ∨ ∃ a, r = .inr a ∧ R a)) (s : σ) (h0 : Inv 0 s) : Ok (Eng.iter f (mk s 0)) R := by
  have key : ∀ (k : Nat) (s : σ) (i : Int), 0 ≤ i → i ≤ N → i + k = N + 1 → Inv i s → Ok (Eng.iter f (mk s i)) R := by
    intro k
    induction k with
    | zero =>
      intro s i hi hN hk hv
      omega
    | succ k ih =>
      intro s i hi hN hk hv
      obtain ⟨r, h1, h2⟩ := h s i hi hN hv
      rw [iter_eq, h1]
      rcases h2 with ⟨s', rfl, h3, h4⟩ | ⟨a, rfl, h3⟩
      · simp only [Option.bind_some, after_inl]
        exact ih s' (i + 1) (by omega) (by omega) (by omega) h4
      · exact ⟨a, rfl, h3⟩
  exact key (N + 1) s 0 (by omega) (by omega) (by omega) h0
end Go.Beacon

/- Queries: both checks tell the same. No program in sight. -/
set_option linter.unusedVariables false
set_option linter.unusedSimpArgs false
namespace Go.Beacon
open Go Go.Eng

/-! a query and all in it -/
mutual
def Query.subs : Query → List Query
  | ⟨a, b, c, d, e, kids⟩ => ⟨a, b, c, d, e, kids⟩ :: Query.subsL kids
def Query.subsL : List Query → List Query
  | [] => []
  | x :: r => Query.subs x ++ Query.subsL r
end
mutual
def Query.dep : Query → Nat
  | ⟨a, b, c, d, e, kids⟩ => Query.depL kids + 1
def Query.depL : List Query → Nat
  | [] => 0
  | x :: r => max (Query.dep x) (Query.depL r)
end
theorem Query.subs_eq (q : Query) : q.subs = q :: Query.subsL q.Kids := by obtain ⟨a, b, c, d, e, kids⟩ := q; rw [Query.subs]
theorem Query.dep_eq (q : Query) : q.dep = Query.depL q.Kids + 1 := by obtain ⟨a, b, c, d, e, kids⟩ := q; rw [Query.dep]
theorem Query.mem_self (q : Query) : q ∈ q.subs := by rw [q.subs_eq]; simp
theorem Query.pos (q : Query) : 0 < q.subs.length := by rw [q.subs_eq]; simp
theorem subsL_mem : ∀ {l : List Query} {c : Query}, c ∈ l → c.subs.length ≤ (Query.subsL l).length ∧ ∀ x ∈ c.subs, x ∈ Query.subsL l
  | x :: r, c, h => by
    rw [Query.subsL]
    rcases List.mem_cons.1 h with rfl | h
    · exact ⟨by simp, fun y hy => List.mem_append_left _ hy⟩
    · obtain ⟨h1, h2⟩ := subsL_mem h
      exact ⟨by rw [List.length_append]; omega, fun y hy => List.mem_append_right _ (h2 y hy)⟩
theorem subsL_len : ∀ l : List Query, l.length ≤ (Query.subsL l).length
  | [] => by simp
  | x :: r => by
    rw [Query.subsL]
    have := subsL_len r
    have := x.pos
    rw [List.length_append, List.length_cons]; omega
theorem depL_le : ∀ l : List Query, (∀ x ∈ l, x.dep ≤ x.subs.length) → Query.depL l ≤ (Query.subsL l).length
  | [], _ => by simp [Query.depL]
  | x :: r, h => by
    rw [Query.depL, Query.subsL, List.length_append]
    have h1 := h x List.mem_cons_self
    have h2 := depL_le r (fun y hy => h y (List.mem_cons_of_mem _ hy))
    omega
theorem dep_le : ∀ (n : Nat) (q : Query), q.subs.length ≤ n → q.dep ≤ q.subs.length
  | 0, q, h => by have := q.pos; omega
  | n + 1, q, h => by
    rw [q.dep_eq, q.subs_eq, List.length_cons]
    rw [q.subs_eq, List.length_cons] at h
    have := depL_le q.Kids (fun x hx => dep_le n x (by have := (subsL_mem hx).1; omega))
    omega
structure StrQ (q : Query) : Prop where
  field : q.Field.length ≤ 100000
  op : q.Op.length ≤ 100000
  words : q.Value.Words.length ≤ 100000
structure QB (q : Query) : Prop where
  len : q.subs.length ≤ 5000
  str : ∀ x ∈ q.subs, StrQ x
theorem QB.kid {q c : Query} (h : QB q) (hc : c ∈ q.Kids) : QB c ∧ c.subs.length < q.subs.length := by
  have h1 := subsL_mem hc
  have h2 := q.subs_eq
  refine ⟨⟨?_, fun x hx => h.str x (by rw [h2]; exact List.mem_cons_of_mem _ (h1.2 x hx))⟩, by rw [h2, List.length_cons]; omega⟩
  have := h.len
  rw [h2, List.length_cons] at this
  omega
theorem QB.kids {q : Query} (h : QB q) : q.Kids.length ≤ 5000 := by
  have := h.len
  rw [q.subs_eq, List.length_cons] at this
  have := subsL_len q.Kids
  omega
theorem QB.s {q : Query} (h : QB q) : StrQ q := h.str q q.mem_self
/-- What is shown of all queries. -/
theorem q_ind {C : Nat → Query → Prop} (h : ∀ n q, QB q → (∀ c ∈ q.Kids, C n c) → C (n + 1) q) : ∀ (n : Nat) (q : Query), QB q → q.subs.length ≤ n → C n q
  | 0, q, _, hl => by have := q.pos; omega
  | n + 1, q, hq, hl => h n q hq (fun c hc => q_ind h n c (hq.kid hc).1 (by have := (hq.kid hc).2; omega))

/-! sizes -/
def leafK (q : Query) : Bool := decide (q.Kind = 1) || decide (q.Kind = 2)
def cntL (l : List Query) : Nat := (Query.subsL l).countP leafK
theorem cntL_cons (x : Query) (r : List Query) : cntL (x :: r) = x.subs.countP leafK + cntL r := by
  unfold cntL; rw [Query.subsL, List.countP_append]
theorem meas_fold : ∀ (l : List Query) (s : Int × Int), l.foldl (fun s x => (s.1 + ((x.subs.countP leafK : Nat) : Int), max s.2 ((x.dep : Nat) : Int))) s = (s.1 + ((cntL l : Nat) : Int), max s.2 ((Query.depL l : Nat) : Int)) ∨ s.2 < 0
  | [], s => by
    by_cases h : s.2 < 0
    · exact .inr h
    · left
      simp [cntL, Query.subsL, Query.depL]
      refine Prod.ext rfl ?_
      simp only; omega
  | x :: r, s => by
    by_cases h : s.2 < 0
    · exact .inr h
    · left
      rw [List.foldl_cons]
      rcases meas_fold r (s.1 + ((x.subs.countP leafK : Nat) : Int), max s.2 ((x.dep : Nat) : Int)) with e | e
      · rw [e, cntL_cons, Query.depL]
        refine Prod.ext ?_ ?_
        · simp only; omega
        · simp only; omega
      · simp only at e; omega
theorem Measure_eq (n : Nat) (q : Query) (hq : QB q) (hn : q.subs.length ≤ n) : item_Measure_r n q = some (((q.subs.countP leafK : Nat) : Int), ((q.dep : Nat) : Int)) := by
  refine q_ind (C := fun n q => item_Measure_r n q = some (((q.subs.countP leafK : Nat) : Int), ((q.dep : Nat) : Int))) (fun n q hq ih => ?_) n q hq hn
  have hk := hq.kids
  have hl := hq.len
  have hd := dep_le _ q (Nat.le_refl _)
  have hc : q.subs.countP leafK ≤ q.subs.length := List.countP_le_length
  have e0 := q.subs_eq
  have e1 := q.dep_eq
  have e2 : q.subs.countP leafK = (if leafK q = true then 1 else 0) + cntL q.Kids := by
    rw [e0, List.countP_cons]; unfold cntL; omega
  have key : ∀ m : Int, 0 ≤ m → m ≤ 1 → item_Measure_l1 (item_Measure_r n) q m 0 0 = some (m + ((cntL q.Kids : Nat) : Int), ((q.dep : Nat) : Int)) := by
    intro m h0 h1
    unfold item_Measure_l1
    have h := iter_foldl q.Kids (fun (s : Int × Int) (i : Int) => (s.1, s.2, i)) (fun x : Int × Int × Int => item_Measure_b1 (item_Measure_r n) q x.1 x.2.1 x.2.2) (fun s x => (s.1 + ((x.subs.countP leafK : Nat) : Int), max s.2 ((x.dep : Nat) : Int))) (fun i s => (0 ≤ s.1 ∧ s.1 ≤ 1 + 5000 * i) ∧ 0 ≤ s.2 ∧ s.2 ≤ 5000) (fun s => some (s.1, w64 (s.2 + 1)))
      (fun s i x i0 i1 hi hs => by
        have hx := idx_mem hi
        have k := hq.kid hx
        have kl := k.1.len
        have kc : x.subs.countP leafK ≤ x.subs.length := List.countP_le_length
        have kd := dep_le _ x (Nat.le_refl _)
        refine ⟨?_, ?_⟩
        · show item_Measure_b1 (item_Measure_r n) q s.1 s.2 i = _
          unfold item_Measure_b1
          rw [if_pos i1, hi]
          simp only [Option.bind_some]
          rw [ih x hx]
          simp only [Option.bind_some]
          rw [w64_in (x := s.1 + _) (by omega) (by omega), w64_in (by omega) (by omega)]
        · simp only; omega)
      (fun s hs => by
        show item_Measure_b1 (item_Measure_r n) q s.1 s.2 q.Kids.length = _
        unfold item_Measure_b1
        rw [if_neg (by omega)]) (m, 0) ⟨⟨by simpa using h0, by simp; omega⟩, by simp, by simp⟩
    simp only at h
    rw [h]
    rcases meas_fold q.Kids (m, 0) with e | e
    · rw [e]
      simp only
      rw [w64_in (by omega) (by omega)]
      congr 2
      omega
    · simp at e
  show item_Measure_bd (item_Measure_r n) q = _
  unfold item_Measure_bd item_Measure_j1 item_Measure_j2
  have e3 : (decide (q.Kind = (1 : Int)) || decide (q.Kind = (2 : Int))) = leafK q := rfl
  rw [e3, e2]
  cases hlf : leafK q with
  | true => rw [if_pos rfl, key 1 (by omega) (by omega)]; simp
  | false => rw [if_neg (by simp), key 0 (by omega) (by omega)]; simp
theorem leaves_fold : ∀ (l : List Query) (s : List Query), l.foldl (fun s x => s ++ x.subs.filter leafK) s = s ++ (Query.subsL l).filter leafK
  | [], s => by simp [Query.subsL]
  | x :: r, s => by rw [List.foldl_cons, leaves_fold r, Query.subsL, List.filter_append, List.append_assoc]
theorem leaves_eq (n : Nat) (q : Query) (hq : QB q) (hn : q.subs.length ≤ n) : Q_leaves_r n q = some (q.subs.filter leafK) := by
  refine q_ind (C := fun n q => Q_leaves_r n q = some (q.subs.filter leafK)) (fun n q hq ih => ?_) n q hq hn
  have hk := hq.kids
  have hl := hq.len
  have e0 := q.subs_eq
  have key : ∀ m : List Query, m.length ≤ 1 → Q_leaves_l1 (Q_leaves_r n) q m 0 = some (m ++ (Query.subsL q.Kids).filter leafK) := by
    intro m h1
    unfold Q_leaves_l1
    have h := iter_foldl q.Kids (fun (s : List Query) (i : Int) => (s, i)) (fun x : List Query × Int => Q_leaves_b1 (Q_leaves_r n) q x.1 x.2) (fun s x => s ++ x.subs.filter leafK) (fun i s => (s.length : Int) ≤ 1 + 5000 * i) (fun s => some s)
      (fun s i x i0 i1 hi hs => by
        have hx := idx_mem hi
        have k := hq.kid hx
        have kl := k.1.len
        have kc : (x.subs.filter leafK).length ≤ x.subs.length := List.length_filter_le _ _
        refine ⟨?_, ?_⟩
        · show Q_leaves_b1 (Q_leaves_r n) q s i = _
          unfold Q_leaves_b1
          rw [if_pos i1, hi]
          simp only [Option.bind_some]
          rw [ih x hx]
          simp only [Option.bind_some]
          rw [app_le (by omega), w64_in (by omega) (by omega)]; rfl
        · rw [List.length_append]; omega)
      (fun s hs => by
        show Q_leaves_b1 (Q_leaves_r n) q s q.Kids.length = _
        unfold Q_leaves_b1
        rw [if_neg (by omega)]) m (by omega)
    rw [h, leaves_fold]
  show Q_leaves_bd (Q_leaves_r n) q = _
  unfold Q_leaves_bd Q_leaves_j1 Q_leaves_j2
  have e3 : (decide (q.Kind = (1 : Int)) || decide (q.Kind = (2 : Int))) = leafK q := rfl
  rw [e3, e0, List.filter_cons]
  cases hlf : leafK q with
  | true => rw [if_pos rfl, if_pos rfl, app_le (by simp)]; simp only [Option.bind_some, List.nil_append]; rw [key _ (by simp)]; rfl
  | false => rw [if_neg (by simp), if_neg (by simp), key _ (by simp)]; rfl
theorem deep_fold : ∀ (l : List Query) (s : Int), 0 ≤ s → l.foldl (fun s x => max s ((x.dep : Nat) : Int)) s = max s ((Query.depL l : Nat) : Int)
  | [], s, h => by simp [Query.depL]; omega
  | x :: r, s, h => by rw [List.foldl_cons, deep_fold r _ (by omega), Query.depL]; omega
theorem deep_eq (n : Nat) (q : Query) (hq : QB q) (hn : q.subs.length ≤ n) : Q_deep_r n q = some ((q.dep : Nat) : Int) := by
  refine q_ind (C := fun n q => Q_deep_r n q = some ((q.dep : Nat) : Int)) (fun n q hq ih => ?_) n q hq hn
  have hk := hq.kids
  have hl := hq.len
  have hd := dep_le _ q (Nat.le_refl _)
  have e1 := q.dep_eq
  show Q_deep_bd (Q_deep_r n) q = _
  unfold Q_deep_bd Q_deep_l1
  have h := iter_foldl q.Kids (fun (s : Int) (i : Int) => (s, i)) (fun x : Int × Int => Q_deep_b1 (Q_deep_r n) q x.1 x.2) (fun s x => max s ((x.dep : Nat) : Int)) (fun i s => 0 ≤ s ∧ s ≤ 5000) (fun s => some (w64 (s + 1)))
    (fun s i x i0 i1 hi hs => by
      have hx := idx_mem hi
      have k := hq.kid hx
      have kl := k.1.len
      have kd := dep_le _ x (Nat.le_refl _)
      refine ⟨?_, by omega⟩
      show Q_deep_b1 (Q_deep_r n) q s i = _
      unfold Q_deep_b1
      rw [if_pos i1, hi]
      simp only [Option.bind_some]
      rw [ih x hx]
      simp only [Option.bind_some]
      rw [w64_in (by omega) (by omega)])
    (fun s hs => by
      show Q_deep_b1 (Q_deep_r n) q s q.Kids.length = _
      unfold Q_deep_b1
      rw [if_neg (by omega)]) 0 (by omega)
  rw [h, deep_fold _ _ (by omega), w64_in (by omega) (by omega)]
  congr 1
  omega
end Go.Beacon

/- Queries: what is wrong with them, said twice. No program in sight. -/
set_option linter.unusedVariables false
set_option linter.unusedSimpArgs false
namespace Go.Beacon
open Go Go.Eng

abbrev zV : ValueS := ⟨0, false, 0, []⟩
abbrev zVer : Version := ⟨0, 0, 0⟩
def kidK (q : Query) : Bool := q.Kids.any (fun k => decide (k.Kind = q.Kind))
def badForm (q : Query) : Bool :=
  if q.Kind = 1 then decide (q.Kids.length ≠ 0)
  else if q.Kind = 2 then decide (q.Kids.length ≠ 0) || (decide (q.Op ≠ []) || (decide (q.Value ≠ zV) || decide (q.Version ≠ zVer)))
  else (if q.Kind = 3 then decide (q.Kids.length ≠ 1) else decide (q.Kids.length < 2) || kidK q) || (decide (q.Field ≠ []) || (decide (q.Op ≠ []) || (decide (q.Value ≠ zV) || decide (q.Version ≠ zVer))))
def outK (q : Query) : Bool := decide (q.Kind < 1) || decide (5 < q.Kind)
def fF (q : Query) : Int := if outK q = true then 4 else if badForm q = true then 3 else 0
theorem nb (b : Bool) : (if b = true then (some (3 : Int)) else some 0) = some (if b = true then 3 else 0) := by cases b <;> rfl
theorem neC {α : Type} [DecidableEq α] (a b : α) : decide (a ≠ b) = decide (b ≠ a) := by rw [decide_eq_decide]; exact ⟨fun h k => h k.symm, fun h k => h k.symm⟩
theorem ff_j1 (q : Query) (c : Bool) (f o : Str) (k : Int) (fl : Bool) (n : Int) (w : Str) (x y z : Int) : item_formFault_j1 q c f o k fl n w x y z = some (if (c || (decide (f ≠ q.Field) || (decide (o ≠ q.Op) || (decide ((⟨k, fl, n, w⟩ : ValueS) ≠ q.Value) || decide ((⟨x, y, z⟩ : Version) ≠ q.Version))))) = true then 3 else 0) := nb _
theorem ff_j3 (q : Query) (c : Bool) : item_formFault_j3 q c = some (if (c || (decide (q.Field ≠ []) || (decide (q.Op ≠ []) || (decide (q.Value ≠ zV) || decide (q.Version ≠ zVer))))) = true then 3 else 0) := by
  unfold item_formFault_j3 item_formFault_j2
  rw [ff_j1, neC [] q.Field, neC [] q.Op, neC _ q.Value, neC _ q.Version]
theorem lenC (q : Query) (m : Nat) : decide ((q.Kids.length : Int) ≠ (m : Nat)) = decide (q.Kids.length ≠ m) := by rw [decide_eq_decide]; omega
theorem formFault_eq (q : Query) (hq : QB q) : item_formFault q = some (fF q) := by
  have hk := hq.kids
  unfold item_formFault fF
  have ho : base_Out q.Kind 1 5 = outK q := rfl
  rw [ho]
  cases h : outK q with
  | true => rfl
  | false =>
    simp only [Bool.false_eq_true, if_false]
    unfold badForm
    by_cases k1 : q.Kind = 1
    · rw [if_pos k1, if_pos k1, ff_j1, show ((0 : Int)) = ((0 : Nat) : Int) from rfl, lenC]
      have e1 : decide (q.Field ≠ q.Field) = false := by simp
      have e2 : decide (q.Op ≠ q.Op) = false := by simp
      have e3 : decide ((⟨q.Value.Kind, q.Value.Flag, q.Value.Number, q.Value.Words⟩ : ValueS) ≠ q.Value) = false := by simp
      have e4 : decide ((⟨q.Version.Major, q.Version.Minor, q.Version.Patch⟩ : Version) ≠ q.Version) = false := by simp
      rw [e1, e2, e3, e4]; simp
    rw [if_neg k1, if_neg k1]
    by_cases k2 : q.Kind = 2
    · rw [if_pos k2, if_pos k2]
      unfold item_formFault_j2
      rw [ff_j1, show ((0 : Int)) = ((0 : Nat) : Int) from rfl, lenC, neC [] q.Op]
      have e1 : decide (q.Field ≠ q.Field) = false := by simp
      rw [e1, Bool.false_or]
      rw [neC _ q.Value, neC _ q.Version]; rfl
    rw [if_neg k2, if_neg k2]
    by_cases k3 : q.Kind = 3
    · rw [if_pos k3, if_pos k3, ff_j3, show ((1 : Int)) = ((1 : Nat) : Int) from rfl, lenC]
    rw [if_neg k3, if_neg k3]
    unfold item_formFault_j4
    by_cases c : q.Kids.length < 2
    · rw [if_pos (by omega), ff_j3]; simp [c]
    · rw [if_neg (by omega)]
      have hc : slices_ContainsFunc_Query_Query q.Kids (fun y0 => some (item_formFault_1x y0 q)) = some (kidK q) := gContainsFunc_eq _ _ _ (fun x _ => rfl) (by omega)
      rw [hc]
      simp only [Option.bind_some]
      rw [ff_j3]; simp [c]
/-! single parts -/
def opsL : List Str := [[61, 61], [33, 61], [60, 61], [62, 61], [60], [62]]
def firmB (q : Query) : Bool := decide (q.Field = sFirm)
noncomputable def lF (q : Query) : Int :=
  if (tagF q.Field || (propF q.Field || (!decide (q.Kind = 2) && plainF q.Field))) = false then 5
  else if q.Kind = 2 then 0
  else if ¬ q.Op ∈ opsL then 10
  else if firmB q = true ∧ q.Value ≠ zV then 3
  else if firmB q = true ∧ base_Version q.Version = false then 1
  else if firmB q = true then 0
  else if q.Version ≠ zVer ∨ (rightB q.Value = false ∨ q.Value.Kind = 0) then 3
  else if (q.Value.Kind ≠ 3 ∧ propF q.Field = false) ∨ (q.Value.Kind ≠ 2 ∧ q.Op ≠ [61, 61] ∧ q.Op ≠ [33, 61]) then 10
  else 0
theorem some_ite {α : Type} (p : Prop) [Decidable p] (a b : α) : (if p then some a else some b) = some (if p then a else b) := by split <;> rfl
theorem lf_j4 (q : Query) (hq : StrQ q) (c : Bool) : item_leafFault_j4 q c = some (if c = true then 3 else if (q.Value.Kind ≠ 3 ∧ propF q.Field = false) ∨ (q.Value.Kind ≠ 2 ∧ q.Op ≠ [61, 61] ∧ q.Op ≠ [33, 61]) then 10 else 0) := by
  have h5 : ∀ c, item_leafFault_j5 q c = some (if c = true ∨ (q.Value.Kind ≠ 2 ∧ q.Op ≠ [61, 61] ∧ q.Op ≠ [33, 61]) then 10 else 0) := by
    intro c
    unfold item_leafFault_j5 item_leafFault_j6
    cases c with
    | true => simp
    | false =>
      rw [if_neg (by simp), some_ite]
      congr 1
      simp
  unfold item_leafFault_j4
  cases c with
  | true => rfl
  | false =>
    simp only [Bool.false_eq_true, if_false]
    by_cases k : q.Value.Kind = 3
    · rw [if_neg (fun h => h k), h5]
      congr 1
      simp [k]
    · rw [if_pos k, isProp_eq (by have := hq.field; omega)]
      simp only [Option.bind_some]
      rw [h5]
      congr 1
      simp [k]
theorem leafFault_eq (q : Query) (hq : StrQ q) : item_leafFault q = some (lF q) := by
  have hf := hq.field
  have hw := hq.words
  have j1 : item_leafFault_j1 q false = some (if q.Kind = 2 then 0 else if ¬ q.Op ∈ opsL then 10 else if firmB q = true ∧ q.Value ≠ zV then 3 else if firmB q = true ∧ base_Version q.Version = false then 1 else if firmB q = true then 0 else if q.Version ≠ zVer ∨ (rightB q.Value = false ∨ q.Value.Kind = 0) then 3 else if (q.Value.Kind ≠ 3 ∧ propF q.Field = false) ∨ (q.Value.Kind ≠ 2 ∧ q.Op ≠ [61, 61] ∧ q.Op ≠ [33, 61]) then 10 else 0) := by
    unfold item_leafFault_j1
    rw [if_neg (by simp)]
    by_cases k2 : q.Kind = 2
    · rw [if_pos k2, if_pos k2]
    rw [if_neg k2, if_neg k2, ContSq _ _ (by unfold item_Operations; simp)]
    simp only [Option.bind_some]
    have ho : q.Op ∈ item_Operations ↔ q.Op ∈ opsL := by unfold item_Operations opsL; simp only [List.mem_cons, List.not_mem_nil, or_false]; constructor <;> (rintro (h | h | h | h | h | h) <;> simp [h])
    by_cases hop : q.Op ∈ opsL
    · rw [if_neg (by simp [ho, hop]), if_neg (fun k => k hop)]
      unfold item_leafFault_j2
      have hfb : decide (q.Field = ([102, 105, 114, 109, 119, 97, 114, 101] : Str)) = firmB q := rfl
      rw [hfb]
      by_cases c1 : firmB q = true ∧ q.Value ≠ zV
      · rw [if_pos c1, if_pos (by simp [c1.1]; exact c1.2)]
      rw [if_neg c1, if_neg (by simp; intro h; exact Classical.byContradiction fun k => c1 ⟨h, k⟩)]
      unfold item_leafFault_j3
      by_cases c2 : firmB q = true ∧ base_Version q.Version = false
      · rw [if_pos c2, if_pos (by simp [c2.1, c2.2])]
      rw [if_neg c2, if_neg (by simp; intro h; cases hb : base_Version q.Version with | true => rfl | false => exact absurd ⟨h, hb⟩ c2)]
      by_cases c3 : firmB q = true
      · rw [if_pos c3, if_pos (of_decide_eq_true c3)]
      rw [if_neg c3, if_neg (fun k => c3 (decide_eq_true k))]
      by_cases c4 : q.Version ≠ zVer
      · rw [if_pos c4, lf_j4 q hq, if_pos rfl, if_pos (.inl c4)]
      · rw [if_neg c4, Right_eq _ (by omega)]
        simp only [Option.bind_some]
        rw [lf_j4 q hq]
        by_cases c5 : rightB q.Value = false ∨ q.Value.Kind = 0
        · rw [if_pos (by rcases c5 with h | h <;> simp [h]), if_pos (.inr c5)]
        · rw [not_or] at c5
          rw [if_neg (by simp [c5.2]; simpa using c5.1), if_neg (show ¬ (q.Version ≠ zVer ∨ (rightB q.Value = false ∨ q.Value.Kind = 0)) from fun k => k.elim c4 (fun k => k.elim c5.1 c5.2))]
    · rw [if_pos (by simp [ho, hop]), if_pos hop]
  unfold item_leafFault lF
  rw [Field_eq (by omega)]
  simp only [Option.bind_some]
  have bad : item_leafFault_j1 q true = some 5 := rfl
  cases ht : tagF q.Field <;> cases hp : propF q.Field <;> cases hpl : plainF q.Field <;> by_cases k2 : q.Kind = 2
  all_goals simp only [ht, hp, hpl, k2, Bool.or_false, Bool.or_true, Bool.false_or, Bool.true_or, Bool.not_true, Bool.not_false, Bool.false_eq_true, if_false, if_true, decide_true, decide_false, Bool.true_and, Bool.false_and, bad]
  all_goals first
    | rfl
    | (rw [isTag_eq (by omega), ht]; simp only [Option.bind_some, Bool.not_true, Bool.not_false, Bool.false_eq_true, if_false, if_true]; first | (rw [isProp_eq (by omega), hp]; simp only [Option.bind_some, Bool.not_true, Bool.not_false]; first | exact bad | (rw [j1]; simp [k2])) | (rw [j1]; simp [k2]))
    | (rw [j1]; simp [k2, hp])
/-! the reference -/
theorem versionRight_eq (v : Version) : Q_versionRight v = base_Version v := by
  unfold Q_versionRight Q_versionRight_j1 base_Version base_Version_j1 Q_in Q_in_j1 base_Out base_Out_j1
  rw [Bool.eq_iff_iff]; simp
theorem pre_two {s a b : Str} (ha : preB s a = true) (hb : preB s b = true) : ∀ i, i < a.length → i < b.length → a[i]? = b[i]? := by
  intro i h1 h2
  have h3 : s.take a.length = a := of_decide_eq_true ha
  have h4 : s.take b.length = b := of_decide_eq_true hb
  have e1 : a[i]? = s[i]? := by rw [← h3, List.getElem?_take]; simp [h1]
  have e2 : b[i]? = s[i]? := by rw [← h4, List.getElem?_take]; simp [h2]
  rw [e1, e2]
theorem not_tag_prop {s : Str} (h : preB s sTag = true) : preB s sProp = false := by
  cases hp : preB s sProp with
  | false => rfl
  | true => have := pre_two h hp 0 (by simp) (by simp); simp at this
theorem plain_pre {s : Str} (h : plainF s = true) : preB s sTag = false ∧ preB s sProp = false := by
  unfold plainF at h
  simp only [Bool.or_eq_true, decide_eq_true_eq] at h
  rcases h with rfl | rfl | rfl | rfl <;> exact ⟨rfl, rfl⟩
theorem prop_pre {s : Str} (h : (tagF s || (propF s || plainF s)) = true) : preB s sProp = propF s := by
  simp only [Bool.or_eq_true] at h
  rcases h with h | h | h
  · have h1 : preB s sTag = true := by unfold tagF at h; simp at h; exact h.1
    have h2 := not_tag_prop h1
    unfold propF; rw [h2]; rfl
  · rw [h]; unfold propF at h; simp at h; exact h.1
  · have h2 := (plain_pre h).2
    unfold propF; rw [h2]; rfl
theorem isFault_eq (q : Query) (hq : StrQ q) : Q_isFault q = some (lF q) := by
  have hf := hq.field
  have hw := hq.words
  have h7 : ∀ c, Q_isFault_j7 c = some (if c = true then 10 else 0) := fun c => by unfold Q_isFault_j7; cases c <;> rfl
  unfold Q_isFault lF
  rw [FieldRight_eq (by omega)]
  simp only [Option.bind_some]
  cases hfr : (tagF q.Field || (propF q.Field || (!decide (q.Kind = 2) && plainF q.Field))) with
  | false => rfl
  | true =>
    simp only [Bool.not_true, Bool.false_eq_true, if_false, Bool.true_eq_false]
    by_cases k2 : q.Kind = 2
    · rw [if_pos k2, if_pos k2]
    rw [if_neg k2, if_neg k2]
    have hpp : preB q.Field sProp = propF q.Field := prop_pre (by
      simp only [k2, decide_false, Bool.not_false, Bool.true_and] at hfr
      exact hfr)
    unfold Q_isFault_j1
    rw [ContSq _ _ (by unfold Q_Ops; simp)]
    simp only [Option.bind_some]
    have ho : q.Op ∈ Q_Ops ↔ q.Op ∈ opsL := Iff.rfl
    by_cases hno : ¬ q.Op ∈ opsL
    · rw [if_pos (by simp [ho, hno]), if_pos hno]
    have hop : q.Op ∈ opsL := Classical.byContradiction hno
    rw [if_neg (by simp [ho, hop]), if_neg (fun k => k hop)]
    unfold Q_isFault_j2
    have hfb : decide (q.Field = ([102, 105, 114, 109, 119, 97, 114, 101] : Str)) = firmB q := rfl
    rw [hfb, versionRight_eq]
    by_cases c1 : firmB q = true ∧ q.Value ≠ zV
    · rw [if_pos c1, if_pos (by simp [c1.1]; exact c1.2)]
    rw [if_neg c1, if_neg (by simp; intro h; exact Classical.byContradiction fun k => c1 ⟨h, k⟩)]
    unfold Q_isFault_j3
    by_cases c2 : firmB q = true ∧ base_Version q.Version = false
    · rw [if_pos c2, if_pos (by simp [c2.1, c2.2])]
    rw [if_neg c2, if_neg (by simp; intro h; cases hb : base_Version q.Version with | true => rfl | false => exact absurd ⟨h, hb⟩ c2)]
    by_cases c3 : firmB q = true
    · rw [if_pos c3, if_pos (of_decide_eq_true c3)]
    rw [if_neg c3, if_neg (fun k => c3 (decide_eq_true k))]
    have j4 : ∀ (c3 : Bool) (c : Bool), c3 = (decide (q.Op = [61, 61]) || decide (q.Op = [33, 61])) → Q_isFault_j4 q c3 c = some (if c = true then 3 else if (q.Value.Kind ≠ 3 ∧ propF q.Field = false) ∨ (q.Value.Kind ≠ 2 ∧ q.Op ≠ [61, 61] ∧ q.Op ≠ [33, 61]) then 10 else 0) := by
      intro c3 c hc3
      subst hc3
      unfold Q_isFault_j4
      cases c with
      | true => rfl
      | false =>
        simp only [Bool.false_eq_true, if_false]
        have j6 : ∀ c, Q_isFault_j6 q (decide (q.Op = [61, 61]) || decide (q.Op = [33, 61])) c = some (if c = true ∨ (q.Value.Kind ≠ 2 ∧ q.Op ≠ [61, 61] ∧ q.Op ≠ [33, 61]) then 10 else 0) := by
          intro c
          unfold Q_isFault_j6 Q_isFault_j8
          cases c with
          | true => simp [h7]
          | false =>
            simp only [Bool.false_eq_true, if_false, false_or]
            rw [h7]
            congr 1
            simp
        by_cases k : q.Value.Kind = 3
        · rw [if_neg (fun h => h k), j6]
          congr 1
          simp [k]
        · rw [if_pos k, HasPrefixQ_eq _ _ (by omega), hpp]
          simp only [Option.bind_some]
          rw [j6]
          congr 1
          simp [k]
    by_cases c4 : q.Version ≠ zVer
    · rw [if_pos c4, j4 _ _ rfl, if_pos (decide_eq_true c4), if_pos (.inl c4)]
    · rw [if_neg c4, RightValue_eq _ (by omega)]
      simp only [Option.bind_some]
      unfold Q_isFault_j5
      rw [j4 _ _ rfl, j4 _ _ rfl]
      cases hr : rightB q.Value with
      | false => rw [if_pos (by simp), if_pos (by simp), if_pos (.inr (.inl rfl))]
      | true =>
        rw [if_neg (by simp)]
        by_cases c5 : q.Value.Kind = 0
        · rw [if_pos (by simpa using c5), if_pos (.inr (.inr c5))]
        · rw [if_neg (by simpa using c5), if_neg (show ¬ (q.Version ≠ zVer ∨ (true = false ∨ q.Value.Kind = 0)) from fun k => k.elim c4 (fun k => k.elim (fun h => by cases h) c5))]
theorem oneForm_eq (self : Query → Option Int) (q : Query) (hq : QB q) : Q_oneQuery_bd self q = if outK q = true then some 4 else if badForm q = true then some 3 else if q.Kind ≤ 2 then Q_isFault q else Q_oneQuery_l1 self q 0 := by
  have hk := hq.kids
  have ho : (!Q_in q.Kind 1 5) = outK q := by
    unfold Q_in Q_in_j1 outK; rw [Bool.eq_iff_iff]; simp
  unfold Q_oneQuery_bd
  rw [ho]
  cases hok : outK q with
  | true => rfl
  | false =>
    simp only [Bool.false_eq_true, if_false]
    have hr : 1 ≤ q.Kind ∧ q.Kind ≤ 5 := by unfold outK at hok; simp at hok; omega
    have tail : ∀ c : Bool, Q_oneQuery_j9 self q c = if c = true then some 3 else if q.Kind ≤ 2 then Q_isFault q else Q_oneQuery_l1 self q 0 := by
      intro c
      unfold Q_oneQuery_j9
      cases c with
      | true => rfl
      | false =>
        simp only [Bool.false_eq_true, if_false]
        split
        · cases Q_isFault q <;> rfl
        · rfl
    have j8 : ∀ c : Bool, Q_oneQuery_j8 self q c = if (c || (decide (2 < q.Kind) && decide (q.Field ≠ []))) = true then some 3 else if q.Kind ≤ 2 then Q_isFault q else Q_oneQuery_l1 self q 0 := by
      intro c
      unfold Q_oneQuery_j8 Q_oneQuery_j10
      cases c with
      | true => rw [if_pos rfl, tail]; rfl
      | false => rw [if_neg (by simp), tail, Bool.false_or]
    have j7 : ∀ c : Bool, Q_oneQuery_j7 self q c = if (c || ((decide (q.Kind ≠ 1) && (decide (q.Op ≠ []) || (decide (q.Value ≠ zV) || decide (q.Version ≠ zVer)))) || (decide (2 < q.Kind) && decide (q.Field ≠ [])))) = true then some 3 else if q.Kind ≤ 2 then Q_isFault q else Q_oneQuery_l1 self q 0 := by
      intro c
      unfold Q_oneQuery_j7
      cases c with
      | true => rfl
      | false => simp only [Bool.false_eq_true, if_false, Bool.false_or]; rw [j8]
    have hc : slices_ContainsFunc_Query_Query q.Kids (fun y0 => some (Q_oneQuery_1x y0 q)) = some (kidK q) := gContainsFunc_eq _ _ _ (fun x _ => rfl) (by omega)
    have j3 : ∀ c2 c : Bool, Q_oneQuery_j3 self q c2 c = if c = true then some 3 else Q_oneQuery_j7 self q (c2 && kidK q) := by
      intro c2 c
      unfold Q_oneQuery_j3
      cases c with
      | true => rfl
      | false =>
        simp only [Bool.false_eq_true, if_false]
        cases c2 with
        | true => rw [if_pos rfl, hc]; rfl
        | false => rfl
    have all : Q_oneQuery_j1 self q (decide (q.Kind = 4) || decide (q.Kind = 5)) = if ((decide (q.Kind ≤ 2) && decide ((0 : Int) < q.Kids.length)) || ((decide (q.Kind = 3) && decide ((q.Kids.length : Int) ≠ 1)) || ((decide (q.Kind = 4) || decide (q.Kind = 5)) && decide ((q.Kids.length : Int) < 2)))) = true then some 3 else Q_oneQuery_j7 self q ((decide (q.Kind = 4) || decide (q.Kind = 5)) && kidK q) := by
      unfold Q_oneQuery_j1 Q_oneQuery_j2 Q_oneQuery_j4 Q_oneQuery_j6 Q_oneQuery_j5
      simp only [j3]
      cases decide (q.Kind ≤ 2) && decide ((0 : Int) < q.Kids.length) <;> cases decide (q.Kind = 3) && decide ((q.Kids.length : Int) ≠ 1) <;> simp
    rw [all, j7]
    have e : ((decide (q.Kind ≤ 2) && decide ((0 : Int) < q.Kids.length)) || ((decide (q.Kind = 3) && decide ((q.Kids.length : Int) ≠ 1)) || ((decide (q.Kind = 4) || decide (q.Kind = 5)) && decide ((q.Kids.length : Int) < 2))) || (((decide (q.Kind = 4) || decide (q.Kind = 5)) && kidK q) || ((decide (q.Kind ≠ 1) && (decide (q.Op ≠ []) || (decide (q.Value ≠ zV) || decide (q.Version ≠ zVer)))) || (decide (2 < q.Kind) && decide (q.Field ≠ []))))) = badForm q := by
      unfold badForm
      have e1 : decide ((q.Kids.length : Int) < 2) = decide (q.Kids.length < 2) := by rw [decide_eq_decide]; omega
      have e2 : decide ((0 : Int) < q.Kids.length) = decide (q.Kids.length ≠ 0) := by rw [decide_eq_decide]; omega
      have e3 : decide ((q.Kids.length : Int) ≠ 1) = decide (q.Kids.length ≠ 1) := by rw [decide_eq_decide]; omega
      rw [e1, e2, e3]
      generalize (decide (q.Op ≠ []) || (decide (q.Value ≠ zV) || decide (q.Version ≠ zVer))) = ob
      generalize decide (q.Field ≠ []) = fb
      generalize kidK q = kb
      generalize decide (q.Kids.length < 2) = l2
      generalize decide (q.Kids.length ≠ 0) = l0
      generalize decide (q.Kids.length ≠ 1) = l1
      have hcase : q.Kind = 1 ∨ q.Kind = 2 ∨ q.Kind = 3 ∨ q.Kind = 4 ∨ q.Kind = 5 := by omega
      rcases hcase with k | k | k | k | k <;> rw [k] <;> cases ob <;> cases fb <;> cases kb <;> cases l2 <;> cases l0 <;> cases l1 <;> rfl
    rw [← e]
    split
    · rename_i h; simp only [h, Bool.true_or, if_true]
    · rename_i h
      have h : ((decide (q.Kind ≤ 2) && decide ((0 : Int) < q.Kids.length)) || ((decide (q.Kind = 3) && decide ((q.Kids.length : Int) ≠ 1)) || ((decide (q.Kind = 4) || decide (q.Kind = 5)) && decide ((q.Kids.length : Int) < 2)))) = false := by simpa using h
      rw [h, Bool.false_or]
end Go.Beacon

/- Items: what is wrong with them, said twice. No program in sight. -/
set_option linter.unusedVariables false
set_option linter.unusedSimpArgs false
namespace Go.Beacon
open Go Go.Eng

/-! plain words -/
def sufB (s p : Str) : Bool := decide (p.length ≤ s.length) && decide (s.drop (s.length - p.length) = p)
theorem slHasSuffix_eq (s p : Str) (h : s.length ≤ 1000000000) : internal_stringslite_HasSuffix s p = some (sufB s p) := by
  unfold internal_stringslite_HasSuffix internal_stringslite_HasSuffix_j1 sufB
  by_cases c : p.length ≤ s.length
  · rw [if_pos (by omega), w64_in (by omega) (by omega), slc_in (by omega) (by omega) (by omega)]
    simp only [Option.bind_some, Option.some.injEq]
    rw [show ((s.length : Int) - p.length).toNat = s.length - p.length by omega, List.take_of_length_le (by simp)]
    simp [c]
  · rw [if_neg (by omega)]; simp [c]
/-! one item -/
/-! lists of items -/
end Go.Beacon

/- Acts: which are right, and which cover which. No program in sight. -/
set_option linter.unusedVariables false
set_option linter.unusedSimpArgs false
namespace Go.Beacon
open Go Go.Eng

theorem splitC_step (c b : UInt8) (r : Str) : splitC c (b :: r) = if b = c then [] :: splitC c r else match splitC c r with
    | [] => [[b]]
    | h :: t => (b :: h) :: t := rfl
theorem splitC_app (c : UInt8) : ∀ a b : Str, splitC c (a ++ c :: b) = splitC c a ++ splitC c b
  | [], b => by simp [splitC]
  | x :: a, b => by
    have ih := splitC_app c a b
    rw [List.cons_append, splitC_step c x (a ++ c :: b), splitC_step c x a]
    by_cases hx : x = c
    · rw [if_pos hx, if_pos hx, ih, List.cons_append]
    · rw [if_neg hx, if_neg hx, ih]
      cases e : splitC c a with
      | nil => exact absurd e (splitC_ne c a)
      | cons h t => rfl
theorem splitC_snoc (c x : UInt8) (hx : x ≠ c) : ∀ a : Str, ∃ l e, splitC c a = l ++ [e] ∧ splitC c (a ++ [x]) = l ++ [e ++ [x]]
  | [] => ⟨[], [], by simp [splitC], by simp [splitC, hx]⟩
  | y :: a => by
    obtain ⟨l, e, h1, h2⟩ := splitC_snoc c x hx a
    rw [List.cons_append, splitC_step c y (a ++ [x]), splitC_step c y a]
    by_cases hy : y = c
    · rw [if_pos hy, if_pos hy, h1, h2]
      exact ⟨[] :: l, e, rfl, rfl⟩
    · rw [if_neg hy, if_neg hy, h1, h2]
      cases l with
      | nil => exact ⟨[], y :: e, rfl, rfl⟩
      | cons z l => exact ⟨(y :: z) :: l, e, rfl, rfl⟩
/-- A right act: the last of its words may be a star. -/
def actB (s : Str) : Bool := decide ((splitC 46 s).length ≤ 5) && (if (splitC 46 s).getLast? = some [42] then (splitC 46 s).dropLast.all keyB else (splitC 46 s).all keyB)
theorem sufB_snoc (a : Str) (x c : UInt8) : sufB (a ++ [x]) [c] = decide (x = c) := by
  unfold sufB
  rw [List.length_append, List.length_singleton, List.length_singleton, show a.length + 1 - 1 = a.length by omega, List.drop_left]
  simp
theorem sufB_nil (c : UInt8) : sufB [] [c] = false := by simp [sufB]
theorem snoc_cases (s : Str) : s = [] ∨ ∃ a x, s = a ++ [x] := by
  cases h : s.reverse with
  | nil => exact .inl (by simpa using h)
  | cons x r => exact .inr ⟨r.reverse, x, by have := congrArg List.reverse h; simpa using this⟩
theorem star_keyB (a : Str) : keyB (a ++ [42]) = false := by
  cases a with
  | nil => decide
  | cons c r =>
    rw [List.cons_append, keyB_cons]
    have : (c :: (r ++ [42])).all (fun c => okN c.toNat) = false := by
      rw [List.all_eq_false]; exact ⟨42, by simp, by decide⟩
    rw [this, Bool.and_false]
theorem CutS_eq (s : Str) (c : UInt8) (h : s.length ≤ 1000000000) : strings_CutSuffix s [c] = some (if sufB s [c] = true then (s.take (s.length - 1), true) else (s, false)) := by
  unfold strings_CutSuffix internal_stringslite_CutSuffix
  rw [slHasSuffix_eq s [c] h]
  simp only [Option.bind_some]
  cases e : sufB s [c] with
  | false => simp
  | true =>
    have hl : 1 ≤ s.length := by
      unfold sufB at e
      simp at e; exact e.1
    rw [if_neg (by simp), w64_in (by simp; omega) (by simp; omega), slc_in (by omega) (by simp; omega) (by simp; omega)]
    simp only [Option.bind_some, if_true]
    have e0 : ((s.length : Int) - (([c] : Str).length : Int)).toNat - Int.toNat 0 = s.length - 1 := by simp
    rw [e0]; rfl
theorem CutS_t {s : Str} {c : UInt8} (h : s.length ≤ 1000000000) (e : sufB s [c] = true) : strings_CutSuffix s [c] = some (s.take (s.length - 1), true) := by rw [CutS_eq s c h, if_pos e]
theorem CutS_f {s : Str} {c : UInt8} (h : s.length ≤ 1000000000) (e : sufB s [c] = false) : strings_CutSuffix s [c] = some (s, false) := by rw [CutS_eq s c h, if_neg (by simp [e])]
theorem Dotted_eq (s : Str) (k : Nat) (hk : k ≤ 1000) (h : s.length ≤ 1000000000) : base_Dotted s (k : Int) = some (dotB k s) := by
  unfold base_Dotted
  rw [Dotted_loop k hk k s 0 (by omega) (by omega) h]
/-- A plain act. -/
theorem isPlain_eq (s : Str) (h : s.length ≤ 1000000000) : tenant_isPlain s = some (dotB 5 s) := by
  unfold tenant_isPlain
  rw [show (5 : Int) = ((5 : Nat) : Int) from rfl, Dotted_eq s 5 (by omega) h]; rfl
theorem isAct_eq (s : Str) (h : s.length ≤ 100000000) : tenant_isAct s = some (actB s) := by
  unfold tenant_isAct tenant_isAct_j1
  rcases snoc_cases s with rfl | ⟨a, x, rfl⟩
  · rw [CutS_f (by simp) (sufB_nil 42)]
    simp only [Option.bind_some]
    rw [if_pos (by simp), isPlain_eq _ (by simp)]
    decide
  by_cases hx : x = 42
  · subst hx
    rw [CutS_t (by omega) (by rw [sufB_snoc]; simp)]
    simp only [Option.bind_some]
    rw [if_neg (by simp)]
    have ht : (a ++ [(42 : UInt8)]).take ((a ++ [(42 : UInt8)]).length - 1) = a := by simp
    rw [ht]
    by_cases ha : a = []
    · subst ha; rw [if_pos rfl]; decide
    rw [if_neg ha]
    rcases snoc_cases a with rfl | ⟨g, y, rfl⟩
    · exact absurd rfl ha
    have hg : g.length ≤ 1000000000 := by simp at h; omega
    have hgy : (g ++ [y]).length ≤ 1000000000 := by simp at h ⊢; omega
    by_cases hy : y = 46
    · subst hy
      rw [CutS_t hgy (by rw [sufB_snoc]; simp)]
      simp only [Option.bind_some]
      rw [if_pos trivial]
      have ht : (g ++ [(46 : UInt8)]).take ((g ++ [(46 : UInt8)]).length - 1) = g := by simp
      rw [ht, show (4 : Int) = ((4 : Nat) : Int) from rfl, Dotted_eq g 4 (by omega) hg]
      simp only [Option.bind_some]
      have hs : splitC 46 (g ++ [46] ++ [42]) = splitC 46 g ++ [[42]] := by
        rw [List.append_assoc]; exact splitC_app 46 g [42]
      unfold actB dotB
      rw [hs]
      simp only [List.length_append, List.length_singleton, List.getLast?_append, List.getLast?_singleton, Option.some_or, if_true, List.dropLast_concat]
      congr 1
      rw [Bool.eq_iff_iff]; simp
    · rw [CutS_f hgy (by rw [sufB_snoc]; simpa using hy)]
      simp only [Option.bind_some]
      rw [if_neg (by simp)]
      obtain ⟨l, e, h1, h2⟩ := splitC_snoc 46 y hy g
      obtain ⟨l', e', h3, h4⟩ := splitC_snoc 46 42 (by decide) (g ++ [y])
      rw [h2] at h3
      obtain ⟨rfl, h5⟩ := List.append_inj' h3 rfl
      obtain rfl := List.singleton_inj.1 h5
      unfold actB
      rw [h4]
      simp only [List.getLast?_append, List.getLast?_singleton, Option.some_or, List.all_append, List.all_cons, List.all_nil, Bool.and_true]
      rw [star_keyB, if_neg (by
        intro k
        have := congrArg List.length (Option.some.inj k)
        simp at this)]
      simp
  · rw [CutS_f (by omega) (by rw [sufB_snoc]; simpa using hx)]
    simp only [Option.bind_some]
    rw [if_pos (by simp), isPlain_eq _ (by omega)]
    simp only [Option.bind_some]
    unfold actB dotB
    have hl : (splitC 46 (a ++ [x])).getLast? ≠ some [42] := by
      by_cases hp : x = 46
      · subst hp
        rw [show a ++ [(46 : UInt8)] = a ++ 46 :: [] from rfl, splitC_app]
        simp [splitC]
      · obtain ⟨l, e, h1, h2⟩ := splitC_snoc 46 x hp a
        rw [h2]
        simp only [List.getLast?_append, List.getLast?_singleton, Option.some_or, ne_eq, Option.some.injEq]
        intro he
        have := congrArg List.getLast? he
        simp at this
        exact hx this
    rw [if_neg hl]
theorem idx_last {α : Type} (l : List α) (x : α) : idx (l ++ [x]) (w64 (((l ++ [x]).length : Int) - 1)) = if ((l ++ [x]).length : Int) ≤ 9223372036854775807 then some x else idx (l ++ [x]) (w64 (((l ++ [x]).length : Int) - 1)) := by
  split
  · rw [w64_in (by simp) (by omega)]
    unfold idx
    rw [if_pos (by simp)]
    rw [List.length_append, List.length_singleton, show (((l.length + 1 : Nat) : Int) - 1).toNat = l.length by omega]
    simp
  · rfl
theorem ActRight_eq (s : Str) (h : s.length ≤ 100000000) : Q_ActRight s false = some (actB s) := by
  unfold Q_ActRight
  rw [splitO_eq (by omega)]
  simp only [Option.bind_some]
  have hlen := splitC_length 46 s
  have hne := splitC_ne 46 s
  have j2 : ∀ l : List Str, l.length ≤ 1000000000 → Q_ActRight_j2 s l = some (decide ((splitC 46 s).length ≤ 5) && l.all keyB) := by
    intro l hl
    unfold Q_ActRight_j2 Q_ActRight_j3
    rw [splitO_eq (by omega)]
    simp only [Option.bind_some]
    by_cases c : (splitC 46 s).length ≤ 5
    · rw [if_pos (by omega)]
      rw [show slices_ContainsFunc_string_string l (fun y0 => Q_ActRight_1x y0) = some (l.any (fun y => !keyB y)) from gContainsFunc_eq l _ _ (fun x _ => by show Q_ActRight_1x x = _; unfold Q_ActRight_1x; rw [QKeyT_eq]; rfl) (by omega)]
      simp only [Option.bind_some, Option.some.injEq]
      rw [decide_eq_true c, Bool.true_and, List.not_any_eq_all_not]
      congr 1; funext x; simp
    · rw [if_neg (by omega), decide_eq_false c]; simp
  rcases List.eq_nil_or_concat (splitC 46 s) with e | ⟨l, x, e⟩
  · exact absurd e hne
  rw [List.concat_eq_append] at e
  rw [if_pos (by simp)]
  have hx : idx (splitC 46 s) (w64 (((splitC 46 s).length : Int) - 1)) = some x := by rw [e, idx_last, if_pos (by rw [← e]; omega)]
  rw [hx]
  simp only [Option.bind_some]
  unfold Q_ActRight_j1 actB
  rw [hx]
  simp only [Option.bind_some]
  have hll : l.length ≤ 1000000000 := by
    have := congrArg List.length e
    simp at this; omega
  have hg : (splitC 46 s).getLast? = some x := by rw [e]; simp
  have hd : (splitC 46 s).dropLast = l := by rw [e]; simp
  rw [hg, hd]
  have hpos : 1 ≤ (splitC 46 s).length := by rw [e]; simp
  by_cases c : x = [42]
  · rw [if_pos (by simpa using c), if_pos (by rw [c]), w64_in (by omega) (by omega), slc_in (by omega) (by omega) (by omega)]
    simp only [Option.bind_some]
    have ht : ((splitC 46 s).drop (0 : Int).toNat).take ((((splitC 46 s).length : Int) - 1).toNat - (0 : Int).toNat) = l := by
      rw [e]; simp
    rw [ht, j2 l hll]
  · rw [if_neg (by simpa using c), if_neg (fun k => c (Option.some.inj k)), QKeyT_eq]
    simp only [Option.bind_some]
    cases hk : keyB x with
    | false => rw [if_pos (by simp), e]; simp [hk]
    | true => rw [if_neg (by simp), j2 _ (by omega)]
/-! which acts cover which -/
def covB (a b : Str) : Bool := decide (a = b) || (sufB a [42] && preB b (a.take (a.length - 1)))
theorem covers_eq (a b : Str) (ha : a.length ≤ 1000000000) (hb : b.length ≤ 1000000000) : tenant_covers a b = some (covB a b) := by
  unfold tenant_covers tenant_covers_j1 covB
  cases e : sufB a [42] with
  | false =>
    rw [CutS_f ha e]
    simp only [Option.bind_some]
    by_cases c : a = b
    · rw [if_pos c, decide_eq_true c]; rfl
    rw [if_neg c, decide_eq_false c, if_neg (by simp)]
    rfl
  | true =>
    rw [CutS_t ha e]
    simp only [Option.bind_some]
    by_cases c : a = b
    · rw [if_pos c, decide_eq_true c]; rfl
    rw [if_neg c, decide_eq_false c, if_pos trivial]
    rw [HasPrefixQ_eq b _ hb]; simp
theorem Qcovered_same (a b : Str) : Q_covered a b = tenant_covers a b := rfl
def coverB (have_ : List Str) (w : Str) : Bool := have_.any (fun h => covB h w)
def coversB (have_ want : List Str) : Bool := want.all (coverB have_)
def SB8 (l : List Str) : Prop := l.length ≤ 1000000 ∧ ∀ x ∈ l, x.length ≤ 1000000
theorem covered_eq (l : List Str) (w : Str) (hl : SB8 l) (hw : w.length ≤ 1000000) : tenant_covered l w = some (coverB l w) := by
  unfold tenant_covered
  rw [show slices_ContainsFunc_string_string l (fun y0 => tenant_covered_1x y0 w) = some (l.any (fun h => covB h w)) from gContainsFunc_eq l _ _ (fun x hx => by
    show tenant_covered_1x x w = _
    unfold tenant_covered_1x
    rw [covers_eq x w (by have := hl.2 x hx; omega) (by omega)]; rfl) (by have := hl.1; omega)]
  rfl
theorem allCovered_eq (l m : List Str) (hl : SB8 l) (hm : SB8 m) : tenant_allCovered l m = some (coversB l m) := by
  unfold tenant_allCovered
  rw [show slices_ContainsFunc_string_string m (fun y0 => tenant_allCovered_1x y0 l) = some (m.any (fun w => !coverB l w)) from gContainsFunc_eq m _ _ (fun x hx => by
    show tenant_allCovered_1x x l = _
    unfold tenant_allCovered_1x
    rw [covered_eq l x hl (hm.2 x hx)]; rfl) (by have := hm.1; omega)]
  simp only [Option.bind_some, Option.some.injEq]
  rw [List.not_any_eq_all_not]
  unfold coversB
  congr 1; funext x; simp
theorem CoversAll_eq (l m : List Str) (hl : SB8 l) (hm : SB8 m) : Q_CoversAll l m = some (coversB l m) := by
  unfold Q_CoversAll
  rw [show slices_ContainsFunc_string_string m (fun y0 => Q_CoversAll_1x y0 l) = some (m.any (fun w => !coverB l w)) from gContainsFunc_eq m _ _ (fun x hx => by
    show Q_CoversAll_1x x l = _
    unfold Q_CoversAll_1x
    rw [show slices_ContainsFunc_string_string l (fun y0 => Q_CoversAll_1x_1x y0 x) = some (l.any (fun h => covB h x)) from gContainsFunc_eq l _ _ (fun z hz => by
      show Q_CoversAll_1x_1x z x = _
      unfold Q_CoversAll_1x_1x
      rw [Qcovered_same, covers_eq z x (by have := hl.2 z hz; omega) (by have := hm.2 x hx; omega)]; rfl) (by have := hl.1; omega)]
    rfl) (by have := hm.1; omega)]
  simp only [Option.bind_some, Option.some.injEq]
  rw [List.not_any_eq_all_not]
  unfold coversB
  congr 1; funext x; simp
theorem actsFault_same (l : List Str) (hl : SB8 l) : tenant_actsFault l = Q_someActs l ∧ ∃ r, Q_someActs l = some r := by
  unfold tenant_actsFault Q_someActs Q_actsFault
  have hb : ∀ i, tenant_actsFault_b1 l i = Q_actsFault_b1 l false i := by
    intro i
    unfold tenant_actsFault_b1 Q_actsFault_b1 tenant_actsFault_j1 Q_actsFault_j1
    by_cases c : i < (l.length : Int)
    · rw [if_pos c, if_pos c]
      cases hx : idx l i with
      | none => rfl
      | some x =>
        simp only [Option.bind_some]
        have := hl.2 x (idx_mem hx)
        rw [isAct_eq x (by omega), ActRight_eq x (by omega)]
    · rw [if_neg c, if_neg c]
  have hloop : tenant_actsFault_l1 l 0 = Q_actsFault_l1 l false 0 := iter_same (fun i => hb i) 0
  have htot : Ok (Q_actsFault_l1 l false 0) (fun _ => True) := by
    unfold Q_actsFault_l1
    refine Ok.range l.length (fun i h0 h1 => ?_)
    have w1 : w64 (i + 1) = i + 1 := w64_in (by omega) (by have := hl.1; omega)
    unfold Q_actsFault_b1
    split
    · rename_i hi
      refine Ok.idx h0 (by simpa using hi) (fun x hx hm => ?_)
      have := hl.2 x hm
      rw [ActRight_eq x (by omega)]
      simp only [Option.bind_some]
      have j1 : ∀ c, Ok (Q_actsFault_j1 i c) (Rng l.length (fun _ => True) i) := by
        intro c
        unfold Q_actsFault_j1
        split
        · exact Ok.inr (Ok.ret trivial)
        · rw [w1]; exact Ok.ret ⟨rfl, by simpa using hi⟩
      split
      · exact Ok.inr (Ok.ret trivial)
      · split
        · rw [w64_in (by omega) (by have := hl.1; omega)]
          exact Ok.idx (by omega) (by omega) (fun y _ _ => j1 _)
        · exact j1 _
    · exact Ok.inr (Ok.ret trivial)
  obtain ⟨r, hr, _⟩ := htot
  rw [hloop, hr]
  refine ⟨rfl, ?_⟩
  split
  · exact ⟨_, rfl⟩
  · split
    · exact ⟨_, rfl⟩
    · exact ⟨_, rfl⟩
end Go.Beacon

/- Tenants: who belongs to whom. No program in sight. -/
set_option linter.unusedVariables false
set_option linter.unusedSimpArgs false
namespace Go.Beacon
open Go Go.Eng

/-- Two loops over the places of a list that do the same while something holds. -/
theorem iter_sameR {A : Type} {f g : Int → Option (Int ⊕ A)} (N : Nat) (Inv : Int → Prop)
    (h : ∀ i : Int, 0 ≤ i → i ≤ N → Inv i → f i = g i ∧ ∀ j, f i = some (.inl j) → j = i + 1 ∧ i < N ∧ Inv j) (h0 : Inv 0) : Eng.iter f 0 = Eng.iter g 0 := by
  have key : ∀ (k : Nat) (i : Int), 0 ≤ i → i ≤ N → i + k = N + 1 → Inv i → Eng.iter f i = Eng.iter g i := by
    intro k
    induction k with
    | zero => intro i hi hN hk hv; omega
    | succ k ih =>
      intro i hi hN hk hv
      obtain ⟨e, hn⟩ := h i hi hN hv
      rw [iter_eq (f := f), iter_eq (f := g), ← e]
      cases hf : f i with
      | none => rfl
      | some r =>
        cases r with
        | inr a => rfl
        | inl j =>
          obtain ⟨rfl, h1, h2⟩ := hn j hf
          simp only [Option.bind_some, after_inl]
          exact ih (i + 1) (by omega) (by omega) (by omega) h2
  exact key (N + 1) 0 (by omega) (by omega) (by omega) h0
theorem findI_idx {α : Type} (p : α → Bool) : ∀ (xs pre : List α) (x : α), xs.find? p = some x → idx (pre ++ xs) (findI p xs pre.length) = some x
  | [], _, _, h => by cases h
  | y :: r, pre, x, h => by
    rw [List.find?_cons] at h
    unfold findI
    cases hp : p y with
    | true =>
      rw [hp] at h
      obtain rfl := Option.some.inj h
      rw [if_pos rfl]
      unfold idx
      rw [if_pos (by omega)]; simp
    | false =>
      rw [hp] at h
      rw [if_neg (by simp)]
      have := findI_idx p r (pre ++ [y]) x h
      rw [List.append_assoc, List.length_append, List.length_singleton] at this
      exact_mod_cast this
theorem nodup_lenS : ∀ {l L : List Str}, l.Nodup → (∀ x ∈ l, x ∈ L) → l.length ≤ L.length
  | [], L, _, _ => Nat.zero_le _
  | x :: l, L, h, hs => by
    have h1 := List.nodup_cons.1 h
    have hx := hs x (by simp)
    have ih := nodup_lenS (l := l) (L := L.erase x) h1.2 (fun y hy => by
      have hne : y ≠ x := fun e => h1.1 (e ▸ hy)
      exact (List.mem_erase_of_ne hne).2 (hs y (List.mem_cons_of_mem _ hy)))
    rw [List.length_erase_of_mem hx] at ih
    have : 0 < L.length := List.length_pos_of_mem hx
    simp only [List.length_cons]
    omega
/-! the tree -/
def atT (T : List Tenant) (k : Str) : Option Tenant := T.find? (fun t => decide (t.Key = k))
def up (T : List Tenant) (k : Str) : Option Str := (atT T k).map (·.Parent)
/-- A tenant and those to which it belongs, so many at most. -/
def walk (T : List Tenant) : Nat → Str → List Str
  | 0, _ => []
  | n + 1, q => match up T q with
    | none => []
    | some r => q :: walk T n r
structure TreeR (T : List Tenant) : Prop where
  key : ∀ t ∈ T, t.Key ≠ []
  nd : T.Pairwise (fun a b => a.Key ≠ b.Key)
  cl : ∀ t ∈ T, t.Parent ≠ [] → ∃ u ∈ T, u.Key = t.Parent
theorem atT_some {T : List Tenant} {k : Str} {t : Tenant} (h : atT T k = some t) : t ∈ T ∧ t.Key = k :=
  ⟨List.mem_of_find?_eq_some h, by simpa using List.find?_some h⟩
theorem atT_none {T : List Tenant} {k : Str} : atT T k = none ↔ ∀ t ∈ T, t.Key ≠ k := by
  unfold atT; rw [List.find?_eq_none]; simp
theorem atT_has {T : List Tenant} {k : Str} (h : ∃ t ∈ T, t.Key = k) : ∃ t, atT T k = some t := by
  cases e : atT T k with
  | some t => exact ⟨t, rfl⟩
  | none => obtain ⟨t, ht, hk⟩ := h; exact absurd hk (atT_none.1 e t ht)
theorem up_some {T : List Tenant} {k r : Str} (h : up T k = some r) : ∃ t ∈ T, t.Key = k ∧ t.Parent = r := by
  unfold up at h
  obtain ⟨t, h1, h2⟩ := Option.map_eq_some_iff.1 h
  exact ⟨t, (atT_some h1).1, (atT_some h1).2, h2⟩
theorem up_has {T : List Tenant} {k : Str} (h : ∃ t ∈ T, t.Key = k) : ∃ r, up T k = some r := by
  obtain ⟨t, ht⟩ := atT_has h
  exact ⟨t.Parent, by unfold up; rw [ht]; rfl⟩
theorem up_nil {T : List Tenant} (h : TreeR T) : up T [] = none := by
  unfold up
  rw [atT_none.2 (fun t ht => h.key t ht)]; rfl
theorem up_cl {T : List Tenant} (h : TreeR T) {q r : Str} (e : up T q = some r) : r = [] ∨ ∃ r', up T r = some r' := by
  obtain ⟨t, ht, _, rfl⟩ := up_some e
  by_cases c : t.Parent = []
  · exact .inl c
  · exact .inr (up_has (h.cl t ht c))
theorem walk_none {T : List Tenant} {q : Str} (h : up T q = none) : ∀ n, walk T n q = []
  | 0 => rfl
  | n + 1 => by unfold walk; rw [h]
theorem walk_some {T : List Tenant} {q r : Str} (h : up T q = some r) (n : Nat) : walk T (n + 1) q = q :: walk T n r := by
  rw [walk, h]
theorem walk_len {T : List Tenant} : ∀ (n : Nat) (q : Str), (walk T n q).length ≤ n
  | 0, _ => Nat.le_refl _
  | n + 1, q => by
    cases e : up T q with
    | none => rw [walk_none e]; exact Nat.zero_le _
    | some r => rw [walk_some e]; exact Nat.succ_le_succ (walk_len n r)
theorem walk_mono {T : List Tenant} : ∀ (n : Nat) (q x : Str), x ∈ walk T n q → x ∈ walk T (n + 1) q
  | 0, _, _, h => by cases h
  | n + 1, q, x, h => by
    cases e : up T q with
    | none => rw [walk_none e] at h; cases h
    | some r =>
      rw [walk_some e] at h ⊢
      rcases List.mem_cons.1 h with rfl | h
      · exact List.mem_cons_self
      · exact List.mem_cons_of_mem _ (walk_mono n r x h)
theorem walk_tail_mono {T : List Tenant} (n : Nat) (q x : Str) (h : x ∈ (walk T n q).tail) : x ∈ (walk T (n + 1) q).tail := by
  cases n with
  | zero => cases h
  | succ n =>
    cases e : up T q with
    | none => rw [walk_none e] at h; cases h
    | some r =>
      rw [walk_some e] at h ⊢
      exact walk_mono n r x h
/-- A path that comes again: somebody belongs to himself. -/
theorem walk_loop {T : List Tenant} : ∀ (n : Nat) (q : Str), ¬ (walk T n q).Nodup → ∃ t ∈ T, t.Key ∈ (walk T n t.Key).tail
  | 0, _, h => absurd List.nodup_nil h
  | n + 1, q, h => by
    cases e : up T q with
    | none => rw [walk_none e] at h; exact absurd List.nodup_nil h
    | some r =>
      rw [walk_some e, List.nodup_cons] at h
      by_cases c : q ∈ walk T n r
      · obtain ⟨t, ht, rfl, _⟩ := up_some e
        exact ⟨t, ht, by rw [walk_some e]; exact c⟩
      · obtain ⟨t, ht, h2⟩ := walk_loop n r (fun k => h ⟨c, k⟩)
        exact ⟨t, ht, walk_tail_mono n _ _ h2⟩
theorem walk_self {T : List Tenant} {n : Nat} {q : Str} (h : q ∈ (walk T n q).tail) : ¬ (walk T n q).Nodup := by
  cases n with
  | zero => cases h
  | succ n =>
    cases e : up T q with
    | none => rw [walk_none e] at h; cases h
    | some r =>
      rw [walk_some e] at h ⊢
      rw [List.nodup_cons]
      exact fun k => k.1 h
/-! as the reference walks -/
theorem tenantAt_eq (o : Org) (k : Str) (hl : o.Tenants.length ≤ 1000000) : Q_tenantAt o k = some (findI (fun t => decide (t.Key = k)) o.Tenants 0) := by
  unfold Q_tenantAt
  rw [show slices_IndexFunc_Tenant_Tenant o.Tenants (fun y0 => some (Q_tenantAt_1x y0 k)) = some (findI (fun t => decide (t.Key = k)) o.Tenants 0) from gIndexFunc_eq o.Tenants _ _ (fun x _ => rfl) (by omega)]
  rfl
theorem tenantAt_neg (T : List Tenant) (k : Str) : findI (fun t => decide (t.Key = k)) T 0 < 0 ↔ up T k = none := by
  have h := findI_any (fun t : Tenant => decide (t.Key = k)) T 0 (by omega)
  have h2 : up T k = none ↔ ¬ (T.any (fun t => decide (t.Key = k)) = true) := by
    unfold up
    rw [Option.map_eq_none_iff, atT_none]; simp
  rw [h2, ← h]; omega
theorem tenant_idx {T : List Tenant} {k : Str} {t : Tenant} (h : atT T k = some t) : idx T (findI (fun t => decide (t.Key = k)) T 0) = some t := by
  have := findI_idx (fun t : Tenant => decide (t.Key = k)) T [] t h
  simpa using this
theorem path_step {o : Org} (hl : o.Tenants.length ≤ 1000000) {q r : Str} (e : up o.Tenants q = some r) {β : Type} (f : Str → Option β) : ((Q_tenantAt o q).bind fun v12 => (idx o.Tenants v12).bind fun v13 => f v13.Parent) = f r := by
  rw [tenantAt_eq o q hl]
  simp only [Option.bind_some]
  unfold up at e
  obtain ⟨t, h1, h2⟩ := Option.map_eq_some_iff.1 e
  rw [tenant_idx h1]
  simp only [Option.bind_some, h2]
section
variable {o : Org} (h : TreeR o.Tenants) (hl : o.Tenants.length ≤ 1000000)
theorem no_room {l : List Str} (hn : l.Nodup) (hm : ∀ x ∈ l, ∃ t ∈ o.Tenants, t.Key = x) : l.length ≤ o.Tenants.length := by
  have := nodup_lenS (L := o.Tenants.map (·.Key)) hn (fun x hx => by
    obtain ⟨t, ht, hk⟩ := hm x hx
    exact List.mem_map.2 ⟨t, ht, hk⟩)
  simpa using this
include h hl
theorem pathN : ∀ (m : Nat) (q : Str) (l : List Str), l.Nodup → (∀ x ∈ l, ∃ t ∈ o.Tenants, t.Key = x) → l.length + m = o.Tenants.length + 1 → (q = [] ∨ ∃ r, up o.Tenants q = some r) →
    Q_pathOf_nil_l1 o q l = some (if (l ++ walk o.Tenants m q).Nodup then some (l ++ walk o.Tenants m q) else none) ∧ Q_pathOf_l1 o q l = some (if (l ++ walk o.Tenants m q).Nodup then l ++ walk o.Tenants m q else [])
  | 0, q, l, hn, hm, hlen, hq => by
    have := no_room hn hm
    omega
  | m + 1, q, l, hn, hm, hlen, hq => by
    have hll : l.length ≤ 1000000 := by have := no_room hn hm; omega
    by_cases c : q = []
    · subst c
      rw [walk_none (up_nil h), List.append_nil, if_pos hn, if_pos hn]
      unfold Q_pathOf_nil_l1 Q_pathOf_l1
      constructor
      · rw [iter_eq, Q_pathOf_nil_b1, if_neg (by simp), map_inr_after]
      · rw [iter_eq, Q_pathOf_b1, if_neg (by simp), map_inr_after]
    · obtain ⟨r, hr⟩ : ∃ r, up o.Tenants q = some r := hq.resolve_left c
      rw [walk_some hr]
      by_cases c2 : q ∈ l
      · have hnn : ¬ (l ++ q :: walk o.Tenants m r).Nodup := fun k => (List.nodup_append.1 k).2.2 q c2 q (by simp) rfl
        rw [if_neg hnn, if_neg hnn]
        unfold Q_pathOf_nil_l1 Q_pathOf_l1
        constructor
        · rw [iter_eq, Q_pathOf_nil_b1, if_pos c, ContSq l q (by omega)]
          simp only [Option.bind_some]
          rw [if_pos (by simpa using c2), map_inr_after]
        · rw [iter_eq, Q_pathOf_b1, if_pos c, ContSq l q (by omega)]
          simp only [Option.bind_some]
          rw [if_pos (by simpa using c2), map_inr_after]
      · obtain ⟨t, ht, hk, _⟩ := up_some hr
        have hn' : (l ++ [q]).Nodup := by
          rw [List.nodup_append]
          exact ⟨hn, by simp, fun a ha b hb => by rw [List.mem_singleton.1 hb]; exact fun e => c2 (e ▸ ha)⟩
        obtain ⟨i1, i2⟩ := pathN m r (l ++ [q]) hn' (fun x hx => by
          rcases List.mem_append.1 hx with k | k
          · exact hm x k
          · rw [List.mem_singleton.1 k]; exact ⟨t, ht, hk⟩) (by simp; omega) (up_cl h hr)
        rw [List.append_assoc, List.singleton_append] at i1 i2
        rw [← i1, ← i2]
        unfold Q_pathOf_nil_l1 Q_pathOf_l1
        constructor
        · rw [iter_eq, Q_pathOf_nil_b1, if_pos c, ContSq l q (by omega)]
          simp only [Option.bind_some]
          rw [if_neg (by simpa using c2), app_le (by simp; omega)]
          simp only [Option.bind_some]
          have hs : ((Q_tenantAt o q).bind fun v12 => (idx o.Tenants v12).bind fun v13 => (some (Sum.inl (v13.Parent, l ++ [q])) : Option ((Str × (List Str)) ⊕ (Option (List Str))))) = some (.inl (r, l ++ [q])) := path_step hl hr (fun p => some (Sum.inl (p, l ++ [q])))
          rw [hs]; rfl
        · rw [iter_eq, Q_pathOf_b1, if_pos c, ContSq l q (by omega)]
          simp only [Option.bind_some]
          rw [if_neg (by simpa using c2), app_le (by simp; omega)]
          simp only [Option.bind_some]
          have hs : ((Q_tenantAt o q).bind fun v12 => (idx o.Tenants v12).bind fun v13 => (some (Sum.inl (v13.Parent, l ++ [q])) : Option ((Str × (List Str)) ⊕ (List Str)))) = some (.inl (r, l ++ [q])) := path_step hl hr (fun p => some (Sum.inl (p, l ++ [q])))
          rw [hs]; rfl
abbrev wk (o : Org) (k : Str) : List Str := walk o.Tenants (o.Tenants.length + 1) k
theorem pathOf_eq {k : Str} (hk : k = [] ∨ ∃ r, up o.Tenants k = some r) : Q_pathOf_nil o k = some (if (wk o k).Nodup then some (wk o k) else none) ∧ Q_pathOf o k = some (if (wk o k).Nodup then wk o k else []) := by
  have := pathN h hl (o.Tenants.length + 1) k [] List.nodup_nil (fun x hx => by cases hx) (by simp) hk
  simp only [List.nil_append] at this
  exact this
end
/-! as the view walks -/
structure ViewR (v : Tenant_view) (o : Org) : Prop where
  org : v.Org = o
  par : ∀ k, mget? v.parent_ k = up o.Tenants k
  len : v.parent_.length = o.Tenants.length
theorem is_eq {v : Tenant_view} {o : Org} (h : ViewR v o) (k : Str) : tenant_view_is v k = some (up o.Tenants k).isSome := by
  unfold tenant_view_is mget2
  rw [h.par k]; rfl
theorem vpathN {v : Tenant_view} {o : Org} (h : ViewR v o) (hl : o.Tenants.length ≤ 1000000) : ∀ (m : Nat) (q : Str) (l : List Str), l.length + m = o.Tenants.length + 1 → tenant_view_path_l1 v q l = some (l ++ walk o.Tenants m q)
  | 0, q, l, hlen => by
    unfold tenant_view_path_l1
    rw [iter_eq, tenant_view_path_b1, is_eq h]
    simp only [Option.bind_some]
    unfold tenant_view_path_j1
    rw [if_neg (by rw [h.len]; simp; omega), map_inr_after]
    simp [walk]
  | m + 1, q, l, hlen => by
    unfold tenant_view_path_l1
    rw [iter_eq, tenant_view_path_b1, is_eq h]
    simp only [Option.bind_some]
    unfold tenant_view_path_j1
    cases e : up o.Tenants q with
    | none => rw [if_neg (by simp), map_inr_after, walk_none e]; simp
    | some r =>
      rw [if_pos (by rw [h.len]; simp; omega), app_le (by simp; omega)]
      simp only [Option.bind_some]
      unfold mgetO
      rw [h.par q, e]
      simp only [Option.bind_some, Option.getD_some, after_inl]
      have := vpathN h hl m r (l ++ [q]) (by simp; omega)
      unfold tenant_view_path_l1 at this
      rw [this, walk_some e]; simp
theorem vpath_eq {v : Tenant_view} {o : Org} (h : ViewR v o) (hl : o.Tenants.length ≤ 1000000) (k : Str) : tenant_view_path v k = some (wk o k) := by
  unfold tenant_view_path
  rw [vpathN h hl (o.Tenants.length + 1) k [] (by simp)]; rfl
theorem wk_len (o : Org) (k : Str) : (wk o k).length ≤ o.Tenants.length + 1 := walk_len _ _
end Go.Beacon

/- The view of an organisation, and what is wrong with its tenants. No program in sight. -/
set_option linter.unusedVariables false
set_option linter.unusedSimpArgs false
namespace Go.Beacon
open Go Go.Eng

theorem iter_both {A : Type} {f g : Int → Option (Int ⊕ A)} (N : Nat) (Inv : Int → Prop) (R : A → Prop) (h0 : Inv 0)
    (h : ∀ i : Int, 0 ≤ i → i ≤ N → Inv i → f i = g i ∧ Ok (f i) (RngI N Inv R i)) : Eng.iter f 0 = Eng.iter g 0 ∧ Ok (Eng.iter f 0) R := by
  refine ⟨iter_sameR N Inv (fun i h1 h2 h3 => ⟨(h i h1 h2 h3).1, fun j hj => ?_⟩) h0, Ok.rangeI N Inv h0 (fun i h1 h2 h3 => (h i h1 h2 h3).2)⟩
  obtain ⟨r, e1, e2⟩ := (h i h1 h2 h3).2
  rw [hj] at e1
  obtain rfl := Option.some.inj e1
  obtain ⟨rfl, e3, e4⟩ := e2
  exact ⟨rfl, e3, e4⟩
theorem findE_anyI {α A : Type} (p : α → Bool) (a e : A) : ∀ xs : List α, findE (fun x => if p x = true then some a else none) e xs = if xs.any p = true then a else e
  | [] => rfl
  | x :: r => by
    unfold findE
    rw [List.any_cons]
    cases hp : p x with
    | true => simp
    | false => simp [findE_anyI p a e r]
/-- A search that finds something. -/
theorem iter_findS {α A : Type} (xs : List α) (f : Int → Option (Int ⊕ A)) (p : α → Bool) (a : A) (hlen : xs.length ≤ 1000000)
    (h1 : ∀ (i : Int) x, 0 ≤ i → i < xs.length → idx xs i = some x → f i = if p x = true then some (.inr a) else some (.inl (i + 1))) (hp : xs.any p = true) : iter f 0 = some a := by
  have key : ∀ (k : Nat) (i : Int), 0 ≤ i → i + k = xs.length → (xs.drop i.toNat).any p = true → iter f i = some a := by
    intro k
    induction k with
    | zero => intro i h0 hi h; rw [List.drop_of_length_le (by omega)] at h; cases h
    | succ k ih =>
      intro i h0 hi h
      obtain ⟨x, hx, _, hd⟩ := idx_lt xs h0 (by omega)
      rw [iter_eq, h1 i x h0 (by omega) hx]
      rw [hd, List.any_cons] at h
      cases hpx : p x with
      | true => rfl
      | false =>
        rw [if_neg (by simp)]
        simp only [Option.bind_some, after_inl]
        exact ih (i + 1) (by omega) (by omega) (by rw [hpx, Bool.false_or] at h; exact h)
  exact key xs.length 0 (by omega) (by omega) (by simpa using hp)
theorem neNil_ok {α : Type} {l : List α} (h : l ≠ []) : neNil l = some () := by
  cases l with
  | nil => exact absurd rfl h
  | cons x r => rfl
/-! maps out of lists -/
section
variable {α V : Type} (key : α → Str) (val : α → V)
def foldM (m : List (Str × V)) (xs : List α) : List (Str × V) := xs.foldl (fun m x => mset m (key x) (val x)) m
theorem foldM_cons (m : List (Str × V)) (x : α) (xs : List α) : foldM key val m (x :: xs) = foldM key val (mset m (key x) (val x)) xs := rfl
theorem foldM_some (k : Str) : ∀ (xs : List α) (m : List (Str × V)), (mget? (foldM key val m xs) k).isSome = (xs.any (fun x => decide (key x = k)) || (mget? m k).isSome)
  | [], m => by simp [foldM]
  | x :: r, m => by
    rw [foldM_cons, foldM_some k r, mget_mset, List.any_cons]
    by_cases c : key x = k
    · simp [c]
    · simp [c]
theorem foldM_get (k : Str) : ∀ (xs : List α) (m : List (Str × V)), xs.Pairwise (fun a b => key a ≠ key b) → mget? (foldM key val m xs) k = ((xs.find? (fun x => decide (key x = k))).map val).or (mget? m k)
  | [], m, _ => by simp [foldM]
  | x :: r, m, h => by
    rw [List.pairwise_cons] at h
    rw [foldM_cons, foldM_get k r _ h.2, mget_mset, List.find?_cons]
    by_cases c : key x = k
    · have : r.find? (fun x => decide (key x = k)) = none := by
        rw [List.find?_eq_none]
        intro y hy
        simpa using fun e => h.1 y hy (by rw [c, e])
      rw [this]; simp [c]
    · simp [c]
theorem foldM_len : ∀ (xs : List α) (m : List (Str × V)), xs.Pairwise (fun a b => key a ≠ key b) → (∀ x ∈ xs, mget? m (key x) = none) → (foldM key val m xs).length = m.length + xs.length
  | [], m, _, _ => rfl
  | x :: r, m, h, hn => by
    rw [List.pairwise_cons] at h
    rw [foldM_cons, foldM_len r _ h.2 (fun y hy => by
      rw [mget_mset, if_neg (h.1 y hy)]; exact hn y (by simp [hy])), mset_new_len (hn x (by simp)), List.length_cons]
    omega
end
theorem newView_eq (o : Org) (h1 : o.Tenants.length ≤ 100000) (h2 : o.Roles.length ≤ 100000) (h3 : o.Members.length ≤ 100000) : ∃ at_, tenant_newView o = some ⟨o, foldM (·.Key) (·.Parent) [] o.Tenants, foldM (·.Key) (·.Acts) [] o.Roles, at_, [], []⟩ := by
  unfold tenant_newView
  have e1 : ∀ m, tenant_newView_l1 o m 0 = tenant_newView_l2 o (foldM (·.Key) (·.Parent) m o.Tenants) [] 0 := by
    intro m
    unfold tenant_newView_l1
    exact iter_foldl o.Tenants (fun (s : List (Str × Str)) (i : Int) => (s, i)) (fun x => tenant_newView_b1 o x.1 x.2) (fun s t => mset s t.Key t.Parent) (fun _ _ => True) (fun s => tenant_newView_l2 o s [] 0)
      (fun s i x g0 g1 hi _ => ⟨by
        show tenant_newView_b1 o s i = _
        unfold tenant_newView_b1
        rw [if_pos g1, hi, w64_in (by omega) (by omega)]; rfl, trivial⟩)
      (fun s _ => by
        show tenant_newView_b1 o s o.Tenants.length = _
        unfold tenant_newView_b1
        rw [if_neg (by omega)]) m trivial
  have e2 : ∀ p m, tenant_newView_l2 o p m 0 = tenant_newView_l3 o p (foldM (·.Key) (·.Acts) m o.Roles) [] 0 := by
    intro p m
    unfold tenant_newView_l2
    exact iter_foldl o.Roles (fun (s : List (Str × List Str)) (i : Int) => (s, i)) (fun x => tenant_newView_b2 o p x.1 x.2) (fun s t => mset s t.Key t.Acts) (fun _ _ => True) (fun s => tenant_newView_l3 o p s [] 0)
      (fun s i x g0 g1 hi _ => ⟨by
        show tenant_newView_b2 o p s i = _
        unfold tenant_newView_b2
        rw [if_pos g1, hi, w64_in (by omega) (by omega)]; rfl, trivial⟩)
      (fun s _ => by
        show tenant_newView_b2 o p s o.Roles.length = _
        unfold tenant_newView_b2
        rw [if_neg (by omega)]) m trivial
  have e3 : ∀ p m, Ok (tenant_newView_l3 o p m [] 0) (fun v => ∃ a, v = ⟨o, p, m, a, [], []⟩) := by
    intro p m
    unfold tenant_newView_l3
    refine Ok.rangeS o.Members.length (fun (s : List (Str × List Int)) (i : Int) => (s, i)) (fun i s => ∀ k v, mget? s k = some v → (v.length : Int) ≤ i) (fun s i g0 g1 hv => ?_) [] (fun k v hk => by cases hk)
    show Ok (tenant_newView_b3 o p m s i) _
    unfold tenant_newView_b3
    split
    · rename_i hi
      refine Ok.idx g0 hi (fun x _ _ => ?_)
      unfold mgetO
      simp only [Option.bind_some]
      have hb : (((mget? s x.Tenant).getD []).length : Int) ≤ i := by
        cases hk : mget? s x.Tenant with
        | none => simpa using g0
        | some v => exact hv _ v hk
      refine Ok.app (by simp; omega) ?_
      rw [w64_in (by omega) (by omega)]
      refine Ok.ret (.inl ⟨_, rfl, hi, fun k v hk => ?_⟩)
      rw [mget_mset] at hk
      split at hk
      · obtain rfl := Option.some.inj hk
        simp; omega
      · have := hv k v hk; omega
    · exact Ok.inr (Ok.ret (.inr ⟨_, rfl, _, rfl⟩))
  rw [e1, e2]
  obtain ⟨v, hv, a, rfl⟩ := e3 (foldM (·.Key) (·.Parent) [] o.Tenants) (foldM (·.Key) (·.Acts) [] o.Roles)
  exact ⟨a, hv⟩
theorem view_R (o : Org) (hn : o.Tenants.Pairwise (fun a b => a.Key ≠ b.Key)) (a : List (Str × (List Str))) (b : List (Str × (List Int))) (c : List (Tenant_asks × (List Int))) (d : List (Tenant_asks × Bool)) : ViewR ⟨o, foldM (·.Key) (·.Parent) [] o.Tenants, a, b, c, d⟩ o where
  org := rfl
  par k := by
    show mget? (foldM (·.Key) (·.Parent) [] o.Tenants) k = _
    rw [foldM_get (·.Key) (·.Parent) k o.Tenants [] hn, mget_nil, Option.or_none]; rfl
  len := by
    show (foldM (·.Key) (·.Parent) [] o.Tenants).length = _
    rw [foldM_len (·.Key) (·.Parent) o.Tenants [] hn (fun x _ => rfl)]; simp
theorem less_not {a b : Str} (h : (Op.bytesLess a b || a == b) = false) : Lib.compareBytes b a < 0 := by
  rw [less_iff, beq_cmp, Bool.or_eq_false_iff, decide_eq_false_iff_not, decide_eq_false_iff_not] at h
  have := cmpB_neg a b
  rcases cmpB_vals a b with k | k | k <;> omega
/-- One more at the end of a rising list. -/
theorem asc_snoc {α : Type} (key : α → Str) {xs : List α} {i : Int} {x y : α} (h0 : 0 < i) (hx : idx xs i = some x) (hy : idx xs (i - 1) = some y) (hl : Lib.compareBytes (key y) (key x) < 0) (h : (xs.take i.toNat).Pairwise (fun a b => Lib.compareBytes (key a) (key b) < 0)) : (xs.take (i + 1).toNat).Pairwise (fun a b => Lib.compareBytes (key a) (key b) < 0) := by
  rw [take_succ (by omega) hx, List.pairwise_append]
  refine ⟨h, List.pairwise_singleton _ _, fun a ha b hb => ?_⟩
  rw [List.mem_singleton.1 hb]
  have e := take_succ (xs := xs) (i := i - 1) (by omega) hy
  rw [show i - 1 + 1 = i by omega] at e
  rw [e] at ha h
  rcases List.mem_append.1 ha with k | k
  · exact cmpB_tr ((List.pairwise_append.1 h).2.2 a k y (by simp)) hl
  · rw [List.mem_singleton.1 k]; exact hl
theorem asc_one {α : Type} (key : α → Str) {xs : List α} {x : α} (hx : idx xs 0 = some x) : (xs.take ((0 : Int) + 1).toNat).Pairwise (fun a b => Lib.compareBytes (key a) (key b) < 0) := by
  rw [take_succ (by omega) hx]; simp
theorem cmp_ne {a b : Str} (h : Lib.compareBytes a b < 0) : a ≠ b := fun e => by rw [e, cmpB_self] at h; omega
theorem keyB_ne {s : Str} (h : keyB s = true) : s ≠ [] := fun e => by rw [e] at h; cases h
section
variable {v : Tenant_view} {o : Org} (hl : o.Tenants.length ≤ 100000)
def loopB (o : Org) (t : Tenant) : Bool := decide (t.Key ∈ (wk o t.Key).tail)
def longB (o : Org) (t : Tenant) : Bool := decide (11 < (wk o t.Key).length)
include hl
theorem tree_l3 (h : TreeR o.Tenants) (hv : ViewR v o) : ∀ (k : Nat) (c : Bool) (i : Int), 0 ≤ i → i + k = o.Tenants.length → tenant_view_treeFault_l3 v c i = some (if (o.Tenants.drop i.toNat).any (loopB o) = true then 14 else if (c || (o.Tenants.drop i.toNat).any (longB o)) = true then 2 else 0)
  | 0, c, i, h0, hi => by
    unfold tenant_view_treeFault_l3
    rw [iter_eq, tenant_view_treeFault_b3, hv.org, if_neg (by simp; omega), map_inr_after, List.drop_of_length_le (by omega)]
    unfold tenant_view_treeFault_k4
    cases c <;> rfl
  | k + 1, c, i, h0, hi => by
    obtain ⟨t, ht, hm, hd⟩ := idx_lt o.Tenants h0 (by omega)
    unfold tenant_view_treeFault_l3
    rw [iter_eq, tenant_view_treeFault_b3, hv.org, if_pos (by simp; omega), hd, List.any_cons, List.any_cons]
    dsimp only
    rw [ht]
    simp only [Option.bind_some]
    rw [vpath_eq hv (by omega)]
    simp only [Option.bind_some]
    obtain ⟨r, hr⟩ := up_has (T := o.Tenants) ⟨t, hm, rfl⟩
    have hw := wk_len o t.Key
    have hpos : 1 ≤ (wk o t.Key).length := by unfold wk; rw [walk_some hr]; simp
    have htl : ((wk o t.Key).drop (1 : Int).toNat).take (((wk o t.Key).length : Int).toNat - (1 : Int).toNat) = (wk o t.Key).tail := by
      rw [List.take_of_length_le (by simp)]; simp
    rw [slc_in (by omega) (by omega) (by omega), htl]
    simp only [Option.bind_some]
    rw [ContSq _ t.Key (by simp; omega)]
    simp only [Option.bind_some]
    by_cases cc : t.Key ∈ (wk o t.Key).tail
    · rw [if_pos (by simpa using cc), map_inr_after]
      have : loopB o t = true := by unfold loopB; exact decide_eq_true cc
      rw [this]; rfl
    · rw [if_neg (by simpa using cc)]
      unfold tenant_view_treeFault_j3
      simp only [Option.bind_some, after_inl]
      rw [w64_in (by omega) (by omega)]
      have := tree_l3 h hv k (c || decide ((11 : Int) < ((wk o t.Key).length : Int))) (i + 1) (by omega) (by omega)
      unfold tenant_view_treeFault_l3 at this
      rw [this]
      have e1 : loopB o t = false := by unfold loopB; exact decide_eq_false cc
      have e2 : longB o t = decide ((11 : Int) < ((wk o t.Key).length : Int)) := by unfold longB; rw [decide_eq_decide]; omega
      rw [e1, e2, Bool.false_or, Bool.or_assoc]
theorem Q_l4 (h : TreeR o.Tenants) (hn : ∀ q, (wk o q).Nodup) : Q_tenantsFault_l4 o 0 = some (if o.Tenants.any (longB o) = true then 2 else 0) := by
  unfold Q_tenantsFault_l4
  rw [iter_find o.Tenants (fun x : Int => Q_tenantsFault_b4 o x) (fun t => if longB o t = true then some 2 else none) 0 (by omega), findE_anyI]
  · intro i t h0 h1 ht
    unfold Q_tenantsFault_b4
    rw [if_pos h1, ht]
    simp only [Option.bind_some]
    rw [(pathOf_eq h (by omega) (k := t.Key) (.inr (up_has ⟨t, idx_mem ht, rfl⟩))).2, if_pos (hn _)]
    simp only [Option.bind_some]
    unfold longB
    by_cases c : 11 < (wk o t.Key).length
    · rw [if_pos (by omega), decide_eq_true c]; rfl
    · rw [if_neg (by omega), decide_eq_false c, w64_in (by omega) (by omega)]; rfl
  · unfold Q_tenantsFault_b4
    rw [if_neg (by omega)]; rfl
theorem tree_last (h : TreeR o.Tenants) (hv : ViewR v o) : tenant_view_treeFault_l3 v false 0 = Q_tenantsFault_l3 o 0 ∧ Ok (tenant_view_treeFault_l3 v false 0) (fun r => r = 0 → ∀ q, (wk o q).Nodup) := by
  rw [tree_l3 hl h hv o.Tenants.length false 0 (by omega) (by omega)]
  simp only [Int.toNat_zero, List.drop_zero, Bool.false_or]
  have hpo : ∀ t ∈ o.Tenants, Q_pathOf_nil o t.Key = some (if (wk o t.Key).Nodup then some (wk o t.Key) else none) := fun t ht => (pathOf_eq h (by omega) (.inr (up_has ⟨t, ht, rfl⟩))).1
  have hq3 : ∀ e, Q_tenantsFault_l4 o 0 = some e → Q_tenantsFault_l3 o 0 = some (if o.Tenants.any (fun t => decide (¬ (wk o t.Key).Nodup)) = true then 14 else e) := by
    intro e he
    unfold Q_tenantsFault_l3
    rw [iter_find o.Tenants (fun x : Int => Q_tenantsFault_b3 o x) (fun t => if decide (¬ (wk o t.Key).Nodup) = true then some 14 else none) e (by omega), findE_anyI]
    · intro i t h0 h1 ht
      unfold Q_tenantsFault_b3
      rw [if_pos h1, ht]
      simp only [Option.bind_some]
      rw [hpo t (idx_mem ht)]
      simp only [Option.bind_some]
      by_cases c : (wk o t.Key).Nodup
      · rw [if_pos c, if_neg (by simpa using c)]
        show ((neNil (wk o t.Key)).bind fun v22 => (some (Sum.inl (w64 (i + (1 : Int)))) : Option (Int ⊕ Int))) = _
        obtain ⟨r, hr⟩ := up_has (T := o.Tenants) ⟨t, idx_mem ht, rfl⟩
        have hne : wk o t.Key ≠ [] := by unfold wk; rw [walk_some hr]; simp
        rw [neNil_ok hne, w64_in (by omega) (by omega)]
        rfl
      · rw [if_neg c, if_pos (by simpa using c)]; rfl
    · unfold Q_tenantsFault_b3
      rw [if_neg (by omega), he]; rfl
  by_cases hb : o.Tenants.any (loopB o) = true
  · rw [if_pos hb]
    refine ⟨?_, 14, rfl, fun k => by omega⟩
    obtain ⟨t, ht, hlt⟩ := List.any_eq_true.1 hb
    -- somebody belongs to himself: the reference finds it before it measures
    have hne : o.Tenants.any (fun t => decide (¬ (wk o t.Key).Nodup)) = true := List.any_eq_true.2 ⟨t, ht, by
      simpa using walk_self (by simpa [loopB] using hlt)⟩
    have : Q_tenantsFault_l3 o 0 = some 14 := by
      unfold Q_tenantsFault_l3
      rw [iter_findS o.Tenants (fun x : Int => Q_tenantsFault_b3 o x) (fun t => decide (¬ (wk o t.Key).Nodup)) 14 (by omega) ?_ hne]
      intro i t h0 h1 ht
      unfold Q_tenantsFault_b3
      rw [if_pos h1, ht]
      simp only [Option.bind_some]
      rw [hpo t (idx_mem ht)]
      simp only [Option.bind_some]
      by_cases c : (wk o t.Key).Nodup
      · rw [if_pos c, if_neg (by simpa using c)]
        show ((neNil (wk o t.Key)).bind fun v22 => (some (Sum.inl (w64 (i + (1 : Int)))) : Option (Int ⊕ Int))) = _
        obtain ⟨r, hr⟩ := up_has (T := o.Tenants) ⟨t, idx_mem ht, rfl⟩
        have hne : wk o t.Key ≠ [] := by unfold wk; rw [walk_some hr]; simp
        rw [neNil_ok hne, w64_in (by omega) (by omega)]
        rfl
      · rw [if_neg c, if_pos (by simpa using c)]; rfl
    rw [this]
  · rw [if_neg hb]
    have hn : ∀ q, (wk o q).Nodup := fun q => by
      apply Classical.byContradiction
      intro k
      obtain ⟨t, ht, h2⟩ := walk_loop _ q k
      exact hb (List.any_eq_true.2 ⟨t, ht, by unfold loopB; exact decide_eq_true h2⟩)
    have hno : o.Tenants.any (fun t => decide (¬ (wk o t.Key).Nodup)) = false := by simp [hn]
    rw [hq3 _ (Q_l4 hl h hn), hno]
    exact ⟨rfl, _, rfl, fun _ => hn⟩
end
end Go.Beacon

/- What is wrong with the tenants: said twice. No program in sight. -/
set_option linter.unusedVariables false
set_option linter.unusedSimpArgs false
namespace Go.Beacon
open Go Go.Eng

theorem take_all {α : Type} (xs : List α) : xs.take ((xs.length : Int)).toNat = xs := by simp
theorem mem_take_succ {α : Type} {xs : List α} {i : Int} {x y : α} (h0 : 0 ≤ i) (h : idx xs i = some x) (hy : y ∈ xs.take (i + 1).toNat) : y ∈ xs.take i.toNat ∨ y = x := by
  rw [take_succ h0 h] at hy
  rcases List.mem_append.1 hy with k | k
  · exact .inl k
  · exact .inr (List.mem_singleton.1 k)
theorem at_or (o : Org) (k : Str) : decide (findI (fun t : Tenant => decide (t.Key = k)) o.Tenants 0 < 0) = !(up o.Tenants k).isSome := by
  cases e : up o.Tenants k with
  | none => rw [decide_eq_true ((tenantAt_neg _ _).2 e)]; rfl
  | some r => rw [decide_eq_false (fun k2 => by rw [(tenantAt_neg _ _).1 k2] at e; cases e)]; rfl
section
variable {v : Tenant_view} {o : Org} (hl : o.Tenants.length ≤ 100000)
include hl
theorem tree_l2 (hk : ∀ t ∈ o.Tenants, t.Key ≠ []) (hn : o.Tenants.Pairwise (fun a b => a.Key ≠ b.Key)) (hv : ViewR v o) :
    tenant_view_treeFault_l2 v 0 = Q_tenantsFault_l2 o 0 ∧ Ok (tenant_view_treeFault_l2 v 0) (fun r => r = 0 → TreeR o.Tenants ∧ ∀ q, (wk o q).Nodup) := by
  unfold tenant_view_treeFault_l2 Q_tenantsFault_l2
  refine iter_both o.Tenants.length (fun i => ∀ t ∈ o.Tenants.take i.toNat, t.Parent ≠ [] → ∃ r, up o.Tenants t.Parent = some r) _ (fun t ht => by simp at ht) (fun i h0 h1 hI => ?_)
  unfold tenant_view_treeFault_b2 Q_tenantsFault_b2
  rw [hv.org]
  by_cases hi : i < (o.Tenants.length : Int)
  · rw [if_pos hi, if_pos hi]
    obtain ⟨t, ht, _, _⟩ := idx_lt o.Tenants h0 hi
    rw [ht]
    simp only [Option.bind_some]
    have w1 : w64 (i + 1) = i + 1 := w64_in (by omega) (by omega)
    have j2 : ∀ c, tenant_view_treeFault_j2 i c = Q_tenantsFault_j2 i c := fun c => rfl
    by_cases hp : t.Parent = []
    · rw [if_neg (by simpa using hp), if_neg (by simpa using hp), j2]
      refine ⟨rfl, .inl (i + 1), by unfold Q_tenantsFault_j2; rw [if_neg (by simp), w1], rfl, hi, fun y hy hyp => ?_⟩
      rcases mem_take_succ h0 ht hy with k | rfl
      · exact hI y k hyp
      · exact absurd hp hyp
    · rw [if_pos hp, if_pos hp, is_eq hv, tenantAt_eq o _ (by omega)]
      simp only [Option.bind_some]
      rw [j2, at_or o]
      refine ⟨rfl, ?_⟩
      unfold Q_tenantsFault_j2
      cases e : up o.Tenants t.Parent with
      | none => exact ⟨.inr 8, rfl, fun k => by omega⟩
      | some r =>
        refine ⟨.inl (i + 1), by rw [w1]; rfl, rfl, hi, fun y hy hyp => ?_⟩
        rcases mem_take_succ h0 ht hy with k | rfl
        · exact hI y k hyp
        · exact ⟨r, e⟩
  · have hiN : i = o.Tenants.length := by omega
    subst hiN
    rw [if_neg hi, if_neg hi]
    have hT : TreeR o.Tenants := ⟨hk, hn, fun t ht hp => by
      obtain ⟨r, hr⟩ := hI t (by rw [take_all]; exact ht) hp
      obtain ⟨u, h2, h3, _⟩ := up_some hr
      exact ⟨u, h2, h3⟩⟩
    obtain ⟨e1, r, e2, e3⟩ := tree_last hl hT hv
    rw [e1]
    rw [e1] at e2
    exact ⟨rfl, .inr r, by rw [e2]; rfl, fun k => ⟨hT, e3 k⟩⟩
theorem tree_eq (ho : v.Org = o) (hv : o.Tenants.Pairwise (fun a b => a.Key ≠ b.Key) → ViewR v o) :
    tenant_view_treeFault v = Q_tenantsFault o ∧ Ok (tenant_view_treeFault v) (fun r => r = 0 → o.Tenants.length ≤ 200 ∧ TreeR o.Tenants ∧ ∀ q, (wk o q).Nodup) := by
  unfold tenant_view_treeFault Q_tenantsFault
  rw [ho]
  by_cases h2 : (200 : Int) < (o.Tenants.length : Int)
  · rw [if_pos h2, if_pos h2]; exact ⟨rfl, 2, rfl, fun k => by omega⟩
  rw [if_neg h2, if_neg h2]
  unfold tenant_view_treeFault_l1 Q_tenantsFault_l1
  refine iter_both o.Tenants.length (fun i => (o.Tenants.take i.toNat).Pairwise (fun a b => Lib.compareBytes a.Key b.Key < 0) ∧ ∀ t ∈ o.Tenants.take i.toNat, keyB t.Key = true) _ ⟨by simp, fun t ht => by simp at ht⟩ (fun i h0 h1 hI => ?_)
  unfold tenant_view_treeFault_b1 Q_tenantsFault_b1
  rw [ho]
  by_cases hi : i < (o.Tenants.length : Int)
  · rw [if_pos hi, if_pos hi]
    obtain ⟨t, ht, _, _⟩ := idx_lt o.Tenants h0 hi
    rw [ht]
    simp only [Option.bind_some]
    rw [Key_eq, QKeyT_eq]
    simp only [Option.bind_some]
    have w1 : w64 (i + 1) = i + 1 := w64_in (by omega) (by omega)
    have j1 : ∀ c, tenant_view_treeFault_j1 i c = Q_tenantsFault_j1 i c := fun c => rfl
    cases hk : keyB t.Key with
    | false => exact ⟨rfl, .inr 5, rfl, fun k => by omega⟩
    | true =>
      rw [if_neg (by simp : ¬ ((!true) = true)), if_neg (by simp : ¬ ((!true) = true))]
      have hkeys : ∀ y ∈ o.Tenants.take (i + 1).toNat, keyB y.Key = true := fun y hy => by
        rcases mem_take_succ h0 ht hy with k | rfl
        · exact hI.2 y k
        · exact hk
      by_cases hp : 0 < i
      · rw [if_pos hp, if_pos hp, w64_in (by omega) (by omega)]
        obtain ⟨u, hu, _, _⟩ := idx_lt o.Tenants (i := i - 1) (by omega) (by omega)
        rw [hu]
        simp only [Option.bind_some]
        rw [j1]
        refine ⟨rfl, ?_⟩
        unfold Q_tenantsFault_j1
        cases hc : (Op.bytesLess t.Key u.Key || t.Key == u.Key) with
        | true => exact ⟨.inr 7, rfl, fun k => by omega⟩
        | false => exact ⟨.inl (i + 1), by rw [w1]; rfl, rfl, hi, asc_snoc (·.Key) hp ht hu (less_not hc) hI.1, hkeys⟩
      · rw [if_neg hp, if_neg hp, j1]
        have hi0 : i = 0 := by omega
        subst hi0
        refine ⟨rfl, .inl (0 + 1), by unfold Q_tenantsFault_j1; rw [if_neg (by simp), w1], rfl, hi, asc_one (·.Key) ht, hkeys⟩
  · have hiN : i = o.Tenants.length := by omega
    subst hiN
    rw [if_neg hi, if_neg hi]
    rw [take_all] at hI
    have hnd : o.Tenants.Pairwise (fun a b => a.Key ≠ b.Key) := hI.1.imp (fun h => cmp_ne h)
    obtain ⟨e1, r, e2, e3⟩ := tree_l2 hl (fun t ht => keyB_ne (hI.2 t ht)) hnd (hv hnd)
    rw [e1]
    rw [e1] at e2
    exact ⟨rfl, .inr r, by rw [e2]; rfl, fun k => ⟨by omega, e3 k⟩⟩
end
end Go.Beacon

/- Items that match a query: both ways of asking. No program in sight. -/
set_option linter.unusedVariables false
set_option linter.unusedSimpArgs false
namespace Go.Beacon
open Go Go.Eng

/-! what a field has -/
def wV (s : Str) : ValueS := ⟨3, false, 0, s⟩
/-- What is known of a right comparison. -/
structure LeafR (q : Query) : Prop where
  op : q.Op ∈ opsL
  firm : q.Field = sFirm → q.Value = zV
  val : q.Field ≠ sFirm → rightB q.Value = true ∧ q.Value.Kind ≠ 0 ∧ (q.Value.Kind ≠ 2 → q.Op = [61, 61] ∨ q.Op = [33, 61])
theorem rightB_2 {v : ValueS} (h : rightB v = true) (k : v.Kind = 2) : v.Flag = false ∧ v.Words = [] := by
  unfold rightB at h
  simp [k] at h
  exact ⟨h.1.1, h.1.2⟩
theorem rightB_1 {v : ValueS} (h : rightB v = true) (k : v.Kind = 1) : v.Number = 0 ∧ v.Words = [] := by
  unfold rightB at h
  simp [k] at h
  exact ⟨h.1.1, h.1.2⟩
theorem rightB_3 {v : ValueS} (h : rightB v = true) (k : v.Kind = 3) : v.Flag = false ∧ v.Number = 0 := by
  unfold rightB at h
  simp [k] at h
  exact ⟨h.1.1, h.1.2⟩
/-- What is not used is not there. -/
def Used (v : ValueS) : Prop := (v.Kind = 1 → v.Number = 0 ∧ v.Words = []) ∧ (v.Kind = 2 → v.Flag = false ∧ v.Words = []) ∧ (v.Kind = 3 → v.Flag = false ∧ v.Number = 0)
theorem Used.of {v : ValueS} (h : rightB v = true) : Used v := ⟨rightB_1 h, rightB_2 h, rightB_3 h⟩
theorem Used.w (s : Str) : Used (wV s) := ⟨fun h => (by simp [wV] at h), fun h => (by simp [wV] at h), fun _ => ⟨rfl, rfl⟩⟩
end Go.Beacon

/- Queries and items: all that is asked of both. No program in sight. -/
set_option linter.unusedVariables false
set_option linter.unusedSimpArgs false
namespace Go.Beacon
open Go Go.Eng

/-! what is wrong with a query -/
theorem part_step (n : Nat) (q : Query) (hq : QB q) : item_partFault_r (n + 1) q = if fF q ≠ 0 then some (fF q) else if leafK q = true then some (lF q) else item_partFault_l1 (item_partFault_r n) q 0 := by
  show item_partFault_bd (item_partFault_r n) q = _
  unfold item_partFault_bd item_partFault_j1
  rw [formFault_eq q hq, leafFault_eq q hq.s]
  rfl
theorem one_step (n : Nat) (q : Query) (hq : QB q) : Q_oneQuery_r (n + 1) q = if fF q ≠ 0 then some (fF q) else if leafK q = true then some (lF q) else Q_oneQuery_l1 (Q_oneQuery_r n) q 0 := by
  show Q_oneQuery_bd (Q_oneQuery_r n) q = _
  rw [oneForm_eq _ q hq, isFault_eq q hq.s]
  unfold fF
  cases ho : outK q with
  | true => rfl
  | false =>
    simp only [Bool.false_eq_true, if_false]
    cases hb : badForm q with
    | true => rfl
    | false =>
      simp only [Bool.false_eq_true, if_false]
      have hr : 1 ≤ q.Kind ∧ q.Kind ≤ 5 := by unfold outK at ho; simp at ho; omega
      have e : (q.Kind ≤ 2) ↔ leafK q = true := by unfold leafK; simp; omega
      by_cases c : q.Kind ≤ 2
      · rw [if_pos c, if_neg (fun h => h rfl), if_pos (e.1 c)]
      · rw [if_neg c, if_neg (fun h => h rfl), if_neg (fun h => c (e.2 h))]
theorem part_l1 (self : Query → Option Int) (r : Query → Int) (q : Query) (hq : QB q) (h : ∀ c ∈ q.Kids, self c = some (r c)) : item_partFault_l1 self q 0 = some (findE (fun c => if r c ≠ 0 then some (r c) else none) 0 q.Kids) ∧ Q_oneQuery_l1 self q 0 = some (findE (fun c => if r c ≠ 0 then some (r c) else none) 0 q.Kids) := by
  have hk := hq.kids
  constructor
  · unfold item_partFault_l1
    refine iter_find q.Kids (fun x : Int => item_partFault_b1 self q x) (fun c => if r c ≠ 0 then some (r c) else none) 0 (by omega) (fun i c h0 h1 h2 => ?_) ?_
    · show item_partFault_b1 self q i = _
      unfold item_partFault_b1
      rw [if_pos h1, h2]
      simp only [Option.bind_some]
      rw [h c (idx_mem h2)]
      simp only [Option.bind_some]
      rw [w64_in (by omega) (by omega)]
      by_cases e : r c = 0
      · rw [if_neg (fun k => k e), if_neg (fun k => k e)]
      · rw [if_pos e, if_pos e]; rfl
    · show item_partFault_b1 self q q.Kids.length = _
      unfold item_partFault_b1
      rw [if_neg (by omega)]; rfl
  · unfold Q_oneQuery_l1
    refine iter_find q.Kids (fun x : Int => Q_oneQuery_b1 self q x) (fun c => if r c ≠ 0 then some (r c) else none) 0 (by omega) (fun i c h0 h1 h2 => ?_) ?_
    · show Q_oneQuery_b1 self q i = _
      unfold Q_oneQuery_b1
      rw [if_pos h1, h2]
      simp only [Option.bind_some]
      rw [h c (idx_mem h2)]
      simp only [Option.bind_some]
      rw [w64_in (by omega) (by omega)]
      by_cases e : r c = 0
      · rw [if_neg (fun k => k e), if_neg (fun k => k e)]
      · rw [if_pos e, if_pos e]; rfl
    · show Q_oneQuery_b1 self q q.Kids.length = _
      unfold Q_oneQuery_b1
      rw [if_neg (by omega)]; rfl
theorem parts_eq (n : Nat) (q : Query) (hq : QB q) (hn : q.subs.length ≤ n) : ∃ r, item_partFault_r n q = some r ∧ Q_oneQuery_r n q = some r := by
  refine q_ind (C := fun n q => ∃ r, item_partFault_r n q = some r ∧ Q_oneQuery_r n q = some r) (fun n q hq ih => ?_) n q hq hn
  rw [part_step n q hq, one_step n q hq]
  by_cases c : fF q = 0
  · have c' : ¬ (fF q ≠ 0) := fun k => k c
    rw [if_neg c', if_neg c']
    by_cases d : leafK q = true
    · rw [if_pos d, if_pos d]; exact ⟨_, rfl, rfl⟩
    · rw [if_neg d, if_neg d]
      have h1 : ∀ c ∈ q.Kids, item_partFault_r n c = some ((item_partFault_r n c).getD 0) := fun c hc => by obtain ⟨r, e, _⟩ := ih c hc; rw [e]; rfl
      have h2 : ∀ c ∈ q.Kids, Q_oneQuery_r n c = some ((item_partFault_r n c).getD 0) := fun c hc => by obtain ⟨r, e, e'⟩ := ih c hc; rw [e, e']; rfl
      exact ⟨_, (part_l1 _ _ q hq h1).1, (part_l1 _ _ q hq h2).2⟩
  · rw [if_pos c, if_pos c]; exact ⟨_, rfl, rfl⟩
theorem QueryFault_eq (q : Query) (hq : QB q) : ∃ r, item_QueryFault q = some r ∧ Q_QueryFault q = some r ∧ (r = 0 → item_partFault_r depth q = some 0) := by
  have hl := hq.len
  have hd : q.subs.length ≤ depth := by unfold depth; omega
  obtain ⟨r, h1, h2⟩ := parts_eq depth q hq hd
  have hc : (q.subs.filter leafK).length = q.subs.countP leafK := by rw [List.countP_eq_length_filter]
  unfold item_QueryFault Q_QueryFault item_Measure Q_leaves Q_deep item_QueryFault_j1 Q_QueryFault_j1 item_partFault Q_oneQuery
  rw [Measure_eq depth q hq hd, leaves_eq depth q hq hd, deep_eq depth q hq hd, h1, h2]
  simp only [Option.bind_some]
  rw [hc]
  by_cases c1 : (40 : Int) < (q.subs.countP leafK : Nat)
  · rw [if_pos (by simp [c1]), if_pos c1]
    exact ⟨2, rfl, rfl, fun h => by cases h⟩
  · rw [if_neg c1]
    by_cases c2 : (20 : Int) < (q.dep : Nat)
    · rw [if_pos (by simp [c2]), if_pos (decide_eq_true c2)]
      exact ⟨2, rfl, rfl, fun h => by cases h⟩
    · rw [if_neg (by simp [c1, c2]), if_neg (by simp [c2])]
      exact ⟨r, rfl, rfl, fun h => by rw [h]⟩
end Go.Beacon

/- What is wrong with an organisation: said twice. No program in sight. -/
set_option linter.unusedVariables false
set_option linter.unusedSimpArgs false
namespace Go.Beacon
open Go Go.Eng

structure OrgB (o : Org) : Prop where
  ten : o.Tenants.length ≤ 1000
  rol : o.Roles.length ≤ 1000
  mem : o.Members.length ≤ 1000
  sha : o.Shares.length ≤ 1000
  act : ∀ r ∈ o.Roles, SB8 r.Acts
  shr : ∀ s ∈ o.Shares, SB8 s.Acts ∧ QB s.Query
/-- A loop, and one that goes on where it ends. -/
theorem iter_then {f g : Int → Option (Int ⊕ Int)} (N : Nat) (K : Option Int) (Inv : Int → Prop) (h0 : Inv 0)
    (h : ∀ i : Int, 0 ≤ i → i < N → Inv i → f i = g i ∧ ∃ r, f i = some r ∧ ((∃ j, r = .inl j ∧ j = i + 1 ∧ Inv (i + 1)) ∨ ∃ a, r = .inr a ∧ a ≠ 0))
    (hf : f N = some (.inr 0)) (hg : g N = Option.map .inr K) : ∃ r, iter f 0 = some r ∧ iter g 0 = (if r ≠ 0 then some r else K) ∧ (r = 0 → Inv N) := by
  have key : ∀ (k : Nat) (i : Int), 0 ≤ i → i + k = N → Inv i → ∃ r, iter f i = some r ∧ iter g i = (if r ≠ 0 then some r else K) ∧ (r = 0 → Inv N) := by
    intro k
    induction k with
    | zero =>
      intro i hi hk hv
      have : i = N := by omega
      subst this
      rw [iter_eq (f := f), iter_eq (f := g), hf, hg, map_inr_after]
      exact ⟨0, rfl, by simp, fun _ => hv⟩
    | succ k ih =>
      intro i hi hk hv
      obtain ⟨e, r, hr, hh⟩ := h i hi (by omega) hv
      rw [iter_eq (f := f), iter_eq (f := g), ← e, hr]
      rcases hh with ⟨j, rfl, rfl, h2⟩ | ⟨a, rfl, h2⟩
      · simp only [Option.bind_some, after_inl]
        exact ih (i + 1) (by omega) (by omega) h2
      · exact ⟨a, rfl, by rw [if_pos h2]; rfl, fun k => absurd k h2⟩
  exact key N 0 (by omega) (by omega) h0
def hasR (o : Org) (k : Str) : Bool := o.Roles.any (fun r => decide (r.Key = k))
theorem roleAt_eq (o : Org) (k : Str) (hl : o.Roles.length ≤ 1000000) : Q_roleAt o k = some (findI (fun r => decide (r.Key = k)) o.Roles 0) := by
  unfold Q_roleAt
  rw [show slices_IndexFunc_Role_Role o.Roles (fun y0 => some (Q_roleAt_1x y0 k)) = some (findI (fun r => decide (r.Key = k)) o.Roles 0) from gIndexFunc_eq o.Roles _ _ (fun x _ => rfl) (by omega)]
  rfl
theorem role_or (o : Org) (k : Str) : decide (findI (fun r : Role => decide (r.Key = k)) o.Roles 0 < 0) = !hasR o k := by
  have h := findI_any (fun r : Role => decide (r.Key = k)) o.Roles 0 (by omega)
  unfold hasR
  cases e : o.Roles.any (fun r => decide (r.Key = k)) with
  | true => rw [decide_eq_false (by have := h.2 e; omega)]; rfl
  | false => rw [decide_eq_true (by
      apply Classical.byContradiction
      intro k2
      have := h.1 (by omega)
      rw [e] at this; cases this)]; rfl
/-! roles -/
def RolesR (o : Org) : Prop := o.Roles.Pairwise (fun a b => Lib.compareBytes a.Key b.Key < 0)
theorem roles_eq {v : Tenant_view} {o : Org} (ho : v.Org = o) (hb : OrgB o) : ∃ r, tenant_view_rolesFault v = some r ∧ Q_rolesFault o = (if r ≠ 0 then some r else Q_rolesFault_k4 o) ∧ (r = 0 → RolesR o) := by
  unfold tenant_view_rolesFault Q_rolesFault
  rw [ho]
  by_cases h2 : (50 : Int) < (o.Roles.length : Int)
  · rw [if_pos h2, if_pos h2]; exact ⟨2, rfl, by simp, fun k => by omega⟩
  rw [if_neg h2, if_neg h2]
  unfold tenant_view_rolesFault_l1 Q_rolesFault_l1
  have hl := hb.rol
  have hh := iter_then (f := fun x : Int => tenant_view_rolesFault_b1 v x) (g := fun x : Int => Q_rolesFault_b1 o x) o.Roles.length (Q_rolesFault_k4 o) (fun i => (o.Roles.take i.toNat).Pairwise (fun a b => Lib.compareBytes a.Key b.Key < 0)) (by simp) (fun i h0 hi hI => ?_) ?_ ?_
  · obtain ⟨r, e1, e2, e3⟩ := hh
    exact ⟨r, e1, e2, fun k => by have := e3 k; rw [take_all] at this; exact this⟩
  · unfold tenant_view_rolesFault_b1 Q_rolesFault_b1
    rw [ho, if_pos hi, if_pos hi]
    obtain ⟨t, ht, htm, _⟩ := idx_lt o.Roles h0 hi
    rw [ht]
    simp only [Option.bind_some]
    rw [Key_eq, QKeyT_eq]
    simp only [Option.bind_some]
    have w1 : w64 (i + 1) = i + 1 := w64_in (by omega) (by omega)
    obtain ⟨f1, ra, f2⟩ := actsFault_same t.Acts (hb.act t htm)
    have j1 : ∀ c, tenant_view_rolesFault_j1 i t c = Q_rolesFault_j1 i t c := fun c => by
      unfold tenant_view_rolesFault_j1 Q_rolesFault_j1
      rw [f1]
    have j1v : ∀ c, (c = false → (o.Roles.take (i + 1).toNat).Pairwise (fun a b => Lib.compareBytes a.Key b.Key < 0)) → ∃ r, Q_rolesFault_j1 i t c = some r ∧ ((∃ j, r = .inl j ∧ j = i + 1 ∧ (o.Roles.take (i + 1).toNat).Pairwise (fun a b => Lib.compareBytes a.Key b.Key < 0)) ∨ ∃ a, r = .inr a ∧ a ≠ 0) := by
      intro c hc
      unfold Q_rolesFault_j1
      cases c with
      | true => exact ⟨.inr 7, rfl, .inr ⟨7, rfl, by omega⟩⟩
      | false =>
        rw [if_neg (by simp), f2]
        simp only [Option.bind_some]
        by_cases z : ra = 0
        · rw [if_neg (fun k => k z), w1]; exact ⟨_, rfl, .inl ⟨_, rfl, rfl, hc rfl⟩⟩
        · rw [if_pos z]; exact ⟨_, rfl, .inr ⟨_, rfl, z⟩⟩
    cases hk : keyB t.Key with
    | false => exact ⟨rfl, .inr 5, rfl, .inr ⟨5, rfl, by omega⟩⟩
    | true =>
      rw [if_neg (by simp : ¬ ((!true) = true)), if_neg (by simp : ¬ ((!true) = true))]
      by_cases hp : 0 < i
      · rw [if_pos hp, if_pos hp, w64_in (by omega) (by omega)]
        obtain ⟨u, hu, _, _⟩ := idx_lt o.Roles (i := i - 1) (by omega) (by omega)
        rw [hu]
        simp only [Option.bind_some]
        rw [j1]
        exact ⟨rfl, j1v _ (fun hc => asc_snoc (·.Key) hp ht hu (less_not hc) hI)⟩
      · rw [if_neg hp, if_neg hp, j1]
        have hi0 : i = 0 := by omega
        subst hi0
        exact ⟨rfl, j1v _ (fun _ => asc_one (·.Key) ht)⟩
  · show tenant_view_rolesFault_b1 v o.Roles.length = _
    unfold tenant_view_rolesFault_b1
    rw [ho, if_neg (by omega)]; rfl
  · show Q_rolesFault_b1 o o.Roles.length = _
    unfold Q_rolesFault_b1
    rw [if_neg (by omega)]
/-! members -/
theorem OrI3 (a b c : Int) : cmp_Or_int [a, b, c] = some (orL [a, b, c]) := gOr_eq _ (by simp)
theorem orL_neg (a b c : Int) : orL [-a, -b, -c] = - orL [a, b, c] := by
  simp only [orL]
  by_cases h1 : a = 0
  · by_cases h2 : b = 0
    · by_cases h3 : c = 0
      · simp [h1, h2, h3]
      · rw [if_neg (by omega), if_neg (by omega), if_pos (by omega), if_neg (by omega), if_neg (by omega), if_pos h3]
    · rw [if_neg (by omega), if_pos (by omega), if_neg (by omega), if_pos h2]
  · rw [if_pos (by omega), if_pos h1]
theorem members_eq {v : Tenant_view} {o : Org} (hv : ViewR v o) (ha : ∀ k, (mget? v.acts_ k).isSome = hasR o k) (hb : OrgB o) : tenant_view_membersFault v = Q_rolesFault_k4 o ∧ Ok (tenant_view_membersFault v) (fun r => r = 0 → ∀ m ∈ o.Members, (∃ p, up o.Tenants m.Tenant = some p) ∧ hasR o m.Role = true) := by
  unfold tenant_view_membersFault Q_rolesFault_k4
  rw [hv.org]
  by_cases h2 : (500 : Int) < (o.Members.length : Int)
  · rw [if_pos h2, if_pos h2]; exact ⟨rfl, 2, rfl, fun k => by omega⟩
  rw [if_neg h2, if_neg h2]
  unfold tenant_view_membersFault_l1 Q_rolesFault_l2
  have hl := hb.mem
  refine iter_both o.Members.length (fun i => ∀ m ∈ o.Members.take i.toNat, (∃ p, up o.Tenants m.Tenant = some p) ∧ hasR o m.Role = true) _ (fun t ht => by simp at ht) (fun i h0 h1 hI => ?_)
  unfold tenant_view_membersFault_b1 Q_rolesFault_b2
  rw [hv.org]
  by_cases hi : i < (o.Members.length : Int)
  · rw [if_pos hi, if_pos hi]
    obtain ⟨t, ht, htm, _⟩ := idx_lt o.Members h0 hi
    rw [ht]
    simp only [Option.bind_some]
    unfold mget2
    rw [ha, Key_eq, QKeyT_eq]
    simp only [Option.bind_some]
    have w1 : w64 (i + 1) = i + 1 := w64_in (by omega) (by omega)
    cases hk : keyB t.User with
    | false => exact ⟨rfl, .inr 5, rfl, fun k => by omega⟩
    | true =>
      rw [if_neg (by simp : ¬ ((!true) = true)), if_neg (by simp : ¬ ((!true) = true)), is_eq hv, tenantAt_eq o _ (by have := hb.ten; omega)]
      simp only [Option.bind_some]
      have hat := at_or o t.Tenant
      rw [roleAt_eq o _ (by have := hb.rol; omega)]
      simp only [Option.bind_some]
      rw [role_or]
      -- the order
      have j12 : ∀ c, tenant_view_membersFault_j1 v i t c = Q_rolesFault_j2 o i t c ∧ (c = false → (∃ p, up o.Tenants t.Tenant = some p) ∧ hasR o t.Role = true) → Ok (tenant_view_membersFault_j1 v i t c) (RngI o.Members.length (fun i => ∀ m ∈ o.Members.take i.toNat, (∃ p, up o.Tenants m.Tenant = some p) ∧ hasR o m.Role = true) (fun r => r = 0 → ∀ m ∈ o.Members, (∃ p, up o.Tenants m.Tenant = some p) ∧ hasR o m.Role = true) i) := by
        rintro c ⟨_, hc⟩
        have hnext : c = false → ∀ m ∈ o.Members.take (i + 1).toNat, (∃ p, up o.Tenants m.Tenant = some p) ∧ hasR o m.Role = true := fun k m hm => by
          rcases mem_take_succ h0 ht hm with k2 | rfl
          · exact hI m k2
          · exact hc k
        have j2v : ∀ d, c = false → Ok (tenant_view_membersFault_j2 i d) (RngI o.Members.length (fun i => ∀ m ∈ o.Members.take i.toNat, (∃ p, up o.Tenants m.Tenant = some p) ∧ hasR o m.Role = true) (fun r => r = 0 → ∀ m ∈ o.Members, (∃ p, up o.Tenants m.Tenant = some p) ∧ hasR o m.Role = true) i) := by
          intro d hcf
          unfold tenant_view_membersFault_j2
          cases d with
          | true => exact ⟨.inr 7, rfl, fun k => by omega⟩
          | false => rw [if_neg (by simp), w1]; exact ⟨.inl (i + 1), rfl, rfl, hi, hnext hcf⟩
        unfold tenant_view_membersFault_j1
        cases c with
        | true => exact ⟨.inr 8, rfl, fun k => by omega⟩
        | false =>
          rw [if_neg (by simp), hv.org]
          by_cases hp : 0 < i
          · rw [if_pos hp, w64_in (by omega) (by omega)]
            obtain ⟨u, hu, _, _⟩ := idx_lt o.Members (i := i - 1) (by omega) (by omega)
            rw [hu]
            simp only [Option.bind_some]
            unfold tenant_byMember
            rw [OrI3]
            exact j2v _ rfl
          · rw [if_neg hp]; exact j2v _ rfl
      have hj : ∀ c, tenant_view_membersFault_j1 v i t c = Q_rolesFault_j2 o i t c := by
        intro c
        unfold tenant_view_membersFault_j1 Q_rolesFault_j2
        cases c with
        | true => rfl
        | false =>
          rw [if_neg (by simp : ¬ (false = true)), if_neg (by simp : ¬ (false = true)), hv.org]
          by_cases hp : 0 < i
          · rw [if_pos hp, if_pos hp, w64_in (by omega) (by omega)]
            obtain ⟨u, hu, _, _⟩ := idx_lt o.Members (i := i - 1) (by omega) (by omega)
            rw [hu]
            simp only [Option.bind_some]
            unfold tenant_byMember
            rw [OrI3, OrI3]
            simp only [Option.bind_some]
            have e := orL_neg (Lib.compareBytes t.User u.User) (Lib.compareBytes t.Tenant u.Tenant) (Lib.compareBytes t.Role u.Role)
            rw [← cmpB_neg, ← cmpB_neg, ← cmpB_neg] at e
            rw [e]
            show tenant_view_membersFault_j2 i _ = tenant_view_membersFault_j2 i _
            congr 1
            rw [decide_eq_decide]; omega
          · rw [if_neg hp, if_neg hp]; rfl
      cases eu : up o.Tenants t.Tenant with
      | none =>
        rw [eu] at hat
        have hneg : findI (fun t' : Tenant => decide (t'.Key = t.Tenant)) o.Tenants 0 < 0 := by simpa using hat
        rw [if_pos hneg]
        simp only [Option.isSome_none, Bool.not_false, Bool.true_or]
        exact ⟨hj true, j12 true ⟨hj true, fun k => by cases k⟩⟩
      | some p =>
        rw [eu] at hat
        have hneg : ¬ findI (fun t' : Tenant => decide (t'.Key = t.Tenant)) o.Tenants 0 < 0 := by simpa using hat
        rw [if_neg hneg]
        simp only [Option.isSome_some, Bool.not_true, Bool.false_or]
        exact ⟨hj _, j12 _ ⟨hj _, fun k => ⟨⟨p, eu⟩, by simpa using k⟩⟩⟩
  · have hiN : i = o.Members.length := by omega
    subst hiN
    rw [if_neg hi, if_neg hi]
    rw [take_all] at hI
    exact ⟨rfl, .inr 0, rfl, fun _ => hI⟩
end Go.Beacon

/- Shares, and an organisation as a whole. No program in sight. -/
set_option linter.unusedVariables false
set_option linter.unusedSimpArgs false
namespace Go.Beacon
open Go Go.Eng

theorem FirstS2 (a b : Int) : base_First [a, b] = some (orL [a, b]) := gOr_eq _ (by simp)
theorem OrE3 (a b c : Int) : cmp_Or_Errno [a, b, c] = some (orL [a, b, c]) := gOr_eq _ (by simp)
theorem wk_self {o : Org} {k r : Str} (h : up o.Tenants k = some r) : k ∈ wk o k := by
  unfold wk; rw [walk_some h]; simp
theorem belongs_eq {v : Tenant_view} {o : Org} (hv : ViewR v o) (hb : OrgB o) (a b : Str) : tenant_view_belongs v a b = some (!decide (a = b) && decide (b ∈ wk o a)) := by
  unfold tenant_view_belongs tenant_view_belongs_j1
  have := hb.ten
  have hw := wk_len o a
  by_cases c : a = b
  · rw [if_neg (fun k => k c), decide_eq_true c]; rfl
  · rw [if_pos c, vpath_eq hv (by omega)]
    simp only [Option.bind_some]
    rw [ContSq (wk o a) b (by omega), decide_eq_false c]; rfl
theorem shares_eq {v : Tenant_view} {o : Org} (hv : ViewR v o) (hb : OrgB o) (hT : TreeR o.Tenants) (hn : ∀ q, (wk o q).Nodup) :
    tenant_view_sharesFault v = (if (200 : Int) < (o.Shares.length : Int) then some 2 else Q_OrgFault_l1 o 0) ∧ Ok (tenant_view_sharesFault v) (fun r => r = 0 → ∀ s ∈ o.Shares, ((∃ p, up o.Tenants s.From = some p) ∧ ∃ p, up o.Tenants s.To = some p) ∧ item_QueryFault s.Query = some 0) := by
  unfold tenant_view_sharesFault
  rw [hv.org]
  by_cases h2 : (200 : Int) < (o.Shares.length : Int)
  · rw [if_pos h2, if_pos h2]; exact ⟨rfl, 2, rfl, fun k => by omega⟩
  rw [if_neg h2, if_neg h2]
  unfold tenant_view_sharesFault_l1 Q_OrgFault_l1
  have hl := hb.sha
  have ht0 := hb.ten
  refine iter_both o.Shares.length (fun i => ∀ s ∈ o.Shares.take i.toNat, ((∃ p, up o.Tenants s.From = some p) ∧ ∃ p, up o.Tenants s.To = some p) ∧ item_QueryFault s.Query = some 0) _ (fun t ht => by simp at ht) (fun i h0 h1 hI => ?_)
  unfold tenant_view_sharesFault_b1 Q_OrgFault_b1
  rw [hv.org]
  by_cases hi : i < (o.Shares.length : Int)
  · rw [if_pos hi, if_pos hi]
    obtain ⟨t, ht, htm, _⟩ := idx_lt o.Shares h0 hi
    rw [ht]
    simp only [Option.bind_some]
    rw [Key_eq, QKeyT_eq]
    simp only [Option.bind_some]
    have w1 : w64 (i + 1) = i + 1 := w64_in (by omega) (by omega)
    -- the last part
    have j3 : ∀ c, (c = false → (∃ p, up o.Tenants t.From = some p) ∧ ∃ p, up o.Tenants t.To = some p) → tenant_view_sharesFault_j3 i t c = Q_OrgFault_j3 i t c ∧ Ok (tenant_view_sharesFault_j3 i t c) (RngI o.Shares.length (fun i => ∀ s ∈ o.Shares.take i.toNat, ((∃ p, up o.Tenants s.From = some p) ∧ ∃ p, up o.Tenants s.To = some p) ∧ item_QueryFault s.Query = some 0) (fun r => r = 0 → ∀ s ∈ o.Shares, ((∃ p, up o.Tenants s.From = some p) ∧ ∃ p, up o.Tenants s.To = some p) ∧ item_QueryFault s.Query = some 0) i) := by
      intro c hc
      unfold tenant_view_sharesFault_j3 Q_OrgFault_j3
      cases c with
      | true => exact ⟨rfl, .inr 13, rfl, fun k => by omega⟩
      | false =>
        rw [if_neg (by simp : ¬ (false = true)), if_neg (by simp : ¬ (false = true))]
        obtain ⟨rq, e1, e2, _⟩ := QueryFault_eq t.Query (hb.shr t htm).2
        obtain ⟨f1, ra, f2⟩ := actsFault_same t.Acts (hb.shr t htm).1
        rw [e1, e2, f1, f2]
        simp only [Option.bind_some]
        rw [FirstS2, OrE3]
        simp only [Option.bind_some]
        have hw : Q_WindowFault t.Time = if base_Window t.Time = true then 0 else 1 := by
          unfold Q_WindowFault Q_WindowFault_j1 base_Window base_Window_j1
          rw [Out_eq, Qin_eq]
          by_cases k1 : (0 : Int) ≤ t.Time.From
          · by_cases k2 : t.Time.From ≤ t.Time.To
            · by_cases k3 : t.Time.To ≤ 345686400000
              · rw [if_neg (by simp [k1, k2]; omega), if_pos (by simp [k3]; omega)]
              · rw [if_pos (by simp [k1, k2]; omega), if_neg (by simp [k3])]
            · rw [if_pos (by simp [k1, k2]), if_neg (by simp; intro _; omega)]
          · rw [if_pos (by simp [k1]), if_neg (by simp; intro k; omega)]
        rw [orL3, hw]
        by_cases z : orL [rq, ra] = 0
        · have hrq : rq = 0 := by
            rw [orL2] at z
            by_cases y : rq = 0
            · exact y
            · rw [if_pos y] at z; exact z
          rw [z]
          cases bw : base_Window t.Time with
          | true =>
            refine ⟨by simp, ?_⟩
            rw [if_neg (by simp), if_neg (by simp), w1]
            refine ⟨.inl (i + 1), rfl, rfl, hi, fun s hs => ?_⟩
            rcases mem_take_succ h0 ht hs with k | rfl
            · exact hI s k
            · exact ⟨hc rfl, by rw [e1, hrq]⟩
          | false =>
            refine ⟨by simp, ?_⟩
            rw [if_neg (by simp), if_pos (by simp)]
            exact ⟨.inr 1, rfl, fun k => by omega⟩
        · rw [if_pos z, if_pos z, if_pos z]
          exact ⟨rfl, .inr _, rfl, fun k => absurd k z⟩
    -- the tenants of the share
    have j2 : tenant_view_sharesFault_j2 v i t true = Q_OrgFault_j2 o i t true := rfl
    have j2f : ∀ {p q : Str}, up o.Tenants t.From = some p → up o.Tenants t.To = some q → ∃ c, tenant_view_sharesFault_j2 v i t false = tenant_view_sharesFault_j3 i t c ∧ Q_OrgFault_j2 o i t false = Q_OrgFault_j3 i t c := by
      intro p q e1 e2
      have hw1 := wk_len o t.From
      have hw2 := wk_len o t.To
      unfold tenant_view_sharesFault_j2 Q_OrgFault_j2
      rw [if_neg (by simp : ¬ (false = true)), if_neg (by simp : ¬ (false = true)), belongs_eq hv hb, belongs_eq hv hb, (pathOf_eq hT (by omega) (.inr ⟨p, e1⟩)).2, (pathOf_eq hT (by omega) (.inr ⟨q, e2⟩)).2, if_pos (hn _), if_pos (hn _)]
      simp only [Option.bind_some]
      rw [ContSq (wk o t.From) t.To (by omega), ContSq (wk o t.To) t.From (by omega)]
      simp only [Option.bind_some]
      by_cases k : t.From = t.To
      · have : t.To ∈ wk o t.From := by rw [← k]; exact wk_self e1
        rw [if_pos k, if_pos (by simpa using this)]
        exact ⟨true, rfl, rfl⟩
      · rw [if_neg k, decide_eq_false k, decide_eq_false (fun e : t.To = t.From => k e.symm)]
        simp only [Bool.not_false, Bool.true_and]
        by_cases k2 : t.To ∈ wk o t.From
        · rw [if_pos (by simpa using k2), if_pos (by simpa using k2)]; exact ⟨true, rfl, rfl⟩
        · rw [if_neg (by simpa using k2), if_neg (by simpa using k2)]; exact ⟨_, rfl, rfl⟩
    have j1 : ∀ c, tenant_view_sharesFault_j1 v i t c = Q_OrgFault_j1 o i t c ∧ Ok (tenant_view_sharesFault_j1 v i t c) (RngI o.Shares.length (fun i => ∀ s ∈ o.Shares.take i.toNat, ((∃ p, up o.Tenants s.From = some p) ∧ ∃ p, up o.Tenants s.To = some p) ∧ item_QueryFault s.Query = some 0) (fun r => r = 0 → ∀ s ∈ o.Shares, ((∃ p, up o.Tenants s.From = some p) ∧ ∃ p, up o.Tenants s.To = some p) ∧ item_QueryFault s.Query = some 0) i) := by
      intro c
      unfold tenant_view_sharesFault_j1 Q_OrgFault_j1
      cases c with
      | true => exact ⟨rfl, .inr 7, rfl, fun k => by omega⟩
      | false =>
        rw [if_neg (by simp : ¬ (false = true)), if_neg (by simp : ¬ (false = true)), is_eq hv, is_eq hv, tenantAt_eq o _ (by omega), tenantAt_eq o _ (by omega)]
        simp only [Option.bind_some]
        have a1 := at_or o t.From
        have a2 := at_or o t.To
        cases e1 : up o.Tenants t.From with
        | none =>
          rw [e1] at a1
          rw [if_pos (by simp), if_pos (by simpa using a1)]
          exact ⟨rfl, .inr 8, rfl, fun k => by omega⟩
        | some p =>
          rw [e1] at a1
          rw [if_neg (by simp), if_neg (by simpa using a1), a2]
          cases e2 : up o.Tenants t.To with
          | none => exact ⟨rfl, .inr 8, rfl, fun k => by omega⟩
          | some q =>
            simp only [Option.isSome_some, Bool.not_true]
            obtain ⟨c, g1, g2⟩ := j2f e1 e2
            rw [g1, g2]
            exact j3 c (fun _ => ⟨⟨p, e1⟩, q, e2⟩)
    cases hk : keyB t.Key with
    | false => exact ⟨rfl, .inr 5, rfl, fun k => by omega⟩
    | true =>
      rw [if_neg (by simp : ¬ ((!true) = true)), if_neg (by simp : ¬ ((!true) = true))]
      by_cases hp : 0 < i
      · rw [if_pos hp, if_pos hp, w64_in (by omega) (by omega)]
        obtain ⟨u, hu, _, _⟩ := idx_lt o.Shares (i := i - 1) (by omega) (by omega)
        rw [hu]
        simp only [Option.bind_some]
        exact j1 _
      · rw [if_neg hp, if_neg hp]; exact j1 _
  · have hiN : i = o.Shares.length := by omega
    subst hiN
    rw [if_neg hi, if_neg hi]
    rw [take_all] at hI
    exact ⟨rfl, .inr 0, rfl, fun _ => hI⟩
/-- A right organisation. -/
structure OrgR (o : Org) : Prop where
  tree : TreeR o.Tenants
  nd : ∀ q, (wk o q).Nodup
  roles : RolesR o
  mem : ∀ m ∈ o.Members, (∃ p, up o.Tenants m.Tenant = some p) ∧ hasR o m.Role = true
  shr : ∀ s ∈ o.Shares, ((∃ p, up o.Tenants s.From = some p) ∧ ∃ p, up o.Tenants s.To = some p) ∧ item_QueryFault s.Query = some 0
/-- What is known of a view. -/
structure ViewA (v : Tenant_view) (o : Org) : Prop where
  view : ViewR v o
  acts : ∀ k, (mget? v.acts_ k).isSome = hasR o k
  act : RolesR o → ∀ k, mget? v.acts_ k = (o.Roles.find? (fun r => decide (r.Key = k))).map (·.Acts)
  wide : v.wider_ = []
theorem checked_eq (o : Org) (hb : OrgB o) : ∃ r, Q_OrgFault o = some r ∧ ((r ≠ 0 ∧ tenant_checked o = some (none, r)) ∨ (r = 0 ∧ OrgR o ∧ ∃ v, tenant_checked o = some (some v, 0) ∧ ViewA v o)) := by
  have ht := hb.ten
  have hr := hb.rol
  have hm := hb.mem
  obtain ⟨a, hv⟩ := newView_eq o (by omega) (by omega) (by omega)
  unfold tenant_checked Q_OrgFault
  rw [hv]
  simp only [Option.bind_some]
  generalize hvv : (⟨o, foldM (·.Key) (·.Parent) [] o.Tenants, foldM (·.Key) (·.Acts) [] o.Roles, a, [], []⟩ : Tenant_view) = v
  have ho : v.Org = o := by rw [← hvv]
  have hV : o.Tenants.Pairwise (fun a b => a.Key ≠ b.Key) → ViewR v o := fun k => by rw [← hvv]; exact view_R o k _ _ _ _
  have hA : ∀ k, (mget? v.acts_ k).isSome = hasR o k := fun k => by
    rw [← hvv]
    show (mget? (foldM (·.Key) (·.Acts) [] o.Roles) k).isSome = _
    rw [foldM_some (·.Key) (·.Acts) k o.Roles []]; simp [hasR, mget_nil]
  have hA2 : RolesR o → ∀ k, mget? v.acts_ k = (o.Roles.find? (fun r => decide (r.Key = k))).map (·.Acts) := fun hR k => by
    rw [← hvv]
    show mget? (foldM (·.Key) (·.Acts) [] o.Roles) k = _
    rw [foldM_get (·.Key) (·.Acts) k o.Roles [] (hR.imp (fun h => cmp_ne h)), mget_nil, Option.or_none]
  obtain ⟨e1, r1, e2, e3⟩ := tree_eq (by omega) ho hV
  rw [← e1, e2]
  simp only [Option.bind_some]
  by_cases z1 : r1 = 0
  · rw [if_neg (fun k : r1 ≠ 0 => k z1), if_neg (fun k : r1 ≠ 0 => k z1)]
    obtain ⟨_, hT, hn⟩ := e3 z1
    have hVR := hV hT.nd
    obtain ⟨r2, f1, f2, f3⟩ := roles_eq ho hb
    rw [f1, f2]
    simp only [Option.bind_some]
    by_cases z2 : r2 = 0
    · rw [if_neg (fun k : r2 ≠ 0 => k z2), if_neg (fun k : r2 ≠ 0 => k z2)]
      obtain ⟨g1, r3, g2, g3⟩ := members_eq hVR hA hb
      rw [← g1, g2]
      simp only [Option.bind_some]
      by_cases z3 : r3 = 0
      · rw [if_neg (fun k : r3 ≠ 0 => k z3), if_neg (fun k : r3 ≠ 0 => k z3)]
        obtain ⟨i1, r4, i2, i3⟩ := shares_eq hVR hb hT hn
        rw [← i1, i2]
        simp only [Option.bind_some]
        refine ⟨r4, rfl, ?_⟩
        by_cases z4 : r4 = 0
        · rw [if_neg (fun k : r4 ≠ 0 => k z4)]
          exact .inr ⟨z4, ⟨hT, hn, f3 z2, g3 z3, i3 z4⟩, v, rfl, hVR, hA, hA2, by rw [← hvv]⟩
        · rw [if_pos z4]; exact .inl ⟨z4, rfl⟩
      · rw [if_pos z3, if_pos z3]; exact ⟨r3, rfl, .inl ⟨z3, rfl⟩⟩
    · rw [if_pos z2, if_pos z2]
      simp only [Option.bind_some]
      rw [if_pos z2]
      exact ⟨r2, rfl, .inl ⟨z2, rfl⟩⟩
  · rw [if_pos z1, if_pos z1]; exact ⟨r1, rfl, .inl ⟨z1, rfl⟩⟩
end Go.Beacon

/- Paths, tenants below, and members that change nothing. No program in sight. -/
set_option linter.unusedVariables false
set_option linter.unusedSimpArgs false
set_option linter.unusedSectionVars false
namespace Go.Beacon
open Go Go.Eng

section
variable {o : Org} (hb : OrgB o) (hr : OrgR o) {v : Tenant_view} (hc : tenant_checked o = some (some v, 0)) (hv : ViewA v o)
include hb hr
theorem wk_len2 (k : Str) : (wk o k).length ≤ 1001 := by have := wk_len o k; have := hb.ten; omega
theorem PathTo_eq (k : Str) : Q_PathTo o k = some (if (up o.Tenants k).isSome = true then wk o k else []) ∧ Q_PathTo_nil o k = some (if (up o.Tenants k).isSome = true then some (wk o k) else none) := by
  have ht := hb.ten
  unfold Q_PathTo Q_PathTo_nil
  rw [tenantAt_eq o k (by omega)]
  simp only [Option.bind_some]
  cases e : up o.Tenants k with
  | none =>
    rw [if_pos ((tenantAt_neg _ _).2 e), if_pos ((tenantAt_neg _ _).2 e)]
    exact ⟨rfl, rfl⟩
  | some p =>
    have hneg : ¬ findI (fun t : Tenant => decide (t.Key = k)) o.Tenants 0 < 0 := fun h => by rw [(tenantAt_neg _ _).1 h] at e; cases e
    obtain ⟨e1, e2⟩ := pathOf_eq hr.tree (by omega) (k := k) (.inr ⟨p, e⟩)
    rw [if_neg hneg, if_neg hneg, e1, e2, if_pos (hr.nd _), if_pos (hr.nd _)]
    exact ⟨rfl, rfl⟩
theorem Q_path (k : Str) (hk : ∃ p, up o.Tenants k = some p) : Q_pathOf o k = some (wk o k) := by
  have ht := hb.ten
  rw [(pathOf_eq hr.tree (by omega) (k := k) (.inr hk)).2, if_pos (hr.nd _)]
def belowL (o : Org) (k : Str) : List Str := (o.Tenants.filter (fun t => !decide (t.Key = k) && decide (k ∈ wk o t.Key))).map (·.Key)
theorem below_fold (p : Tenant → Bool) : ∀ (l : List Tenant) (acc : List Str), l.foldl (fun acc x => if p x = true then acc ++ [x.Key] else acc) acc = acc ++ (l.filter p).map (·.Key)
  | [], acc => by simp
  | x :: r, acc => by
    rw [List.foldl_cons, below_fold p r, List.filter_cons]
    cases p x <;> simp
theorem BelowOf_eq (k : Str) : Q_BelowOf o k = some (belowL o k) := by
  have ht := hb.ten
  unfold Q_BelowOf Q_BelowOf_l1
  have hf := iter_foldl o.Tenants (fun (s : List Str) (i : Int) => (s, i)) (fun x : (List Str) × Int => Q_BelowOf_b1 o k x.1 x.2) (fun acc x => if (!decide (x.Key = k) && decide (k ∈ wk o x.Key)) = true then acc ++ [x.Key] else acc) (fun i s => (s.length : Int) ≤ i) (fun s => some s)
    (fun s i x h0 h1 hi hs => by
      have w1 : w64 (i + 1) = i + 1 := w64_in (by omega) (by omega)
      have hw := wk_len2 hb hr x.Key
      refine ⟨?_, ?_⟩
      · show Q_BelowOf_b1 o k s i = _
        unfold Q_BelowOf_b1 Q_BelowOf_j1 Q_BelowOf_j2
        rw [if_pos h1, hi]
        simp only [Option.bind_some]
        rw [w1]
        by_cases c : x.Key = k
        · rw [if_neg (by simpa using c), if_neg (by simp), decide_eq_true c, if_neg (by simp)]
        · rw [if_pos c, Q_path hb hr _ (up_has ⟨x, idx_mem hi, rfl⟩)]
          simp only [Option.bind_some]
          rw [ContSq (wk o x.Key) k (by omega), decide_eq_false c]
          simp only [Option.bind_some, Bool.not_false, Bool.true_and]
          split
          · rw [app_le (by simp; omega)]; rfl
          · rfl
      · show ((if (!decide (x.Key = k) && decide (k ∈ wk o x.Key)) = true then s ++ [x.Key] else s).length : Int) ≤ _
        split
        · simp; omega
        · omega)
    (fun s _ => by
      show Q_BelowOf_b1 o k s o.Tenants.length = _
      unfold Q_BelowOf_b1
      rw [if_neg (by omega)]) [] (by simp)
  rw [hf, below_fold hb hr]; rfl
include hc hv
theorem Path_eq (k : Str) : tenant_Path o k = some (if (up o.Tenants k).isSome = true then (wk o k, 0) else ([], 8)) := by
  unfold tenant_Path
  rw [hc]
  simp only [Option.bind_some, casesO, ne_eq, not_true, if_false]
  rw [is_eq hv.view]
  simp only [Option.bind_some]
  cases e : up o.Tenants k with
  | none => rfl
  | some p =>
    rw [if_neg (by simp), vpath_eq hv.view (by have := hb.ten; omega)]; rfl
theorem Below_eq (k : Str) : tenant_Below o k = some (if (up o.Tenants k).isSome = true then (belowL o k, 0) else ([], 8)) := by
  have ht := hb.ten
  unfold tenant_Below
  rw [hc]
  simp only [Option.bind_some, casesO, ne_eq, not_true, if_false]
  rw [is_eq hv.view]
  simp only [Option.bind_some]
  cases e : up o.Tenants k with
  | none => rfl
  | some p =>
    rw [if_neg (by simp)]
    unfold tenant_Below_l1
    have hf := iter_foldl o.Tenants (fun (s : List Str) (i : Int) => (s, i)) (fun x : (List Str) × Int => tenant_Below_b1 o k v x.1 x.2) (fun acc x => if (!decide (x.Key = k) && decide (k ∈ wk o x.Key)) = true then acc ++ [x.Key] else acc) (fun i s => (s.length : Int) ≤ i) (fun s => some (s, 0))
      (fun s i x h0 h1 hi hs => by
        have w1 : w64 (i + 1) = i + 1 := w64_in (by omega) (by omega)
        refine ⟨?_, ?_⟩
        · show tenant_Below_b1 o k v s i = _
          unfold tenant_Below_b1 tenant_Below_j1
          rw [if_pos h1, hi]
          simp only [Option.bind_some]
          rw [w1, belongs_eq hv.view hb]
          simp only [Option.bind_some]
          split
          · rw [app_le (by simp; omega)]; rfl
          · rfl
        · show ((if (!decide (x.Key = k) && decide (k ∈ wk o x.Key)) = true then s ++ [x.Key] else s).length : Int) ≤ _
          split
          · simp; omega
          · omega)
      (fun s _ => by
        show tenant_Below_b1 o k v s o.Tenants.length = _
        unfold tenant_Below_b1
        rw [if_neg (by omega)]) [] (by simp)
    rw [hf, below_fold hb hr]; rfl
end
/-! members that change nothing -/
def actsO (o : Org) (k : Str) : List Str := ((o.Roles.find? (fun r => decide (r.Key = k))).map (·.Acts)).getD []
/-- Member a makes member b spare. -/
def dB (o : Org) (a b : Member) : Bool := decide (a.User = b.User) && (decide (a.Tenant ∈ wk o b.Tenant) && coversB (actsO o a.Role) (actsO o b.Role))
def spF (o : Org) (i : Int) (b : Member) : List Member → Int → Bool
  | [], _ => false
  | x :: r, j => (!decide (i = j) && (dB o x b && !(decide (i < j) && dB o b x))) || spF o i b r (j + 1)
def spA (o : Org) : List Member → Int → List Int
  | [], _ => []
  | b :: r, i => (if spF o i b o.Members 0 = true then [i] else []) ++ spA o r (i + 1)
section
variable {o : Org} (hb : OrgB o) (hr : OrgR o)
include hb hr
theorem actsO_SB (k : Str) : SB8 (actsO o k) := by
  unfold actsO
  cases e : o.Roles.find? (fun r => decide (r.Key = k)) with
  | none => exact ⟨by simp, fun x hx => by cases hx⟩
  | some r => exact hb.act r (List.mem_of_find?_eq_some e)
theorem role_idx (k : Str) (hk : hasR o k = true) : ∃ r, idx o.Roles (findI (fun r => decide (r.Key = k)) o.Roles 0) = some r ∧ r.Acts = actsO o k := by
  unfold hasR at hk
  cases e : o.Roles.find? (fun r => decide (r.Key = k)) with
  | none =>
    rw [List.find?_eq_none] at e
    obtain ⟨r, h1, h2⟩ := List.any_eq_true.1 hk
    exact absurd h2 (e r h1)
  | some r =>
    have := findI_idx (fun r : Role => decide (r.Key = k)) o.Roles [] r e
    exact ⟨r, by simpa using this, by unfold actsO; rw [e]; rfl⟩
theorem does_eq {i j : Int} {a b : Member} (hi : idx o.Members i = some a) (hj : idx o.Members j = some b) : Q_SpareOf_1x i j o = some (!decide (i = j) && dB o a b) := by
  unfold Q_SpareOf_1x Q_SpareOf_1x_j1 dB
  rw [hi, hj]
  simp only [Option.bind_some]
  have hw := wk_len2 hb hr b.Tenant
  by_cases c : i = j
  · rw [if_neg (fun k => k c), decide_eq_true c]; rfl
  rw [if_pos c, decide_eq_false c]
  by_cases c2 : a.User = b.User
  · rw [if_pos c2, decide_eq_true c2, Q_path hb hr _ (hr.mem b (idx_mem hj)).1]
    simp only [Option.bind_some]
    rw [ContSq (wk o b.Tenant) a.Tenant (by omega)]
    simp only [Option.bind_some]
    by_cases c3 : a.Tenant ∈ wk o b.Tenant
    · rw [if_pos (by simpa using c3), decide_eq_true c3, roleAt_eq o _ (by have := hb.rol; omega), roleAt_eq o _ (by have := hb.rol; omega)]
      obtain ⟨r1, e1, e2⟩ := role_idx hb hr a.Role (hr.mem a (idx_mem hi)).2
      obtain ⟨r2, e3, e4⟩ := role_idx hb hr b.Role (hr.mem b (idx_mem hj)).2
      simp only [Option.bind_some]
      rw [e1]
      simp only [Option.bind_some]
      rw [e3]
      simp only [Option.bind_some]
      rw [e2, e4, CoversAll_eq _ _ (actsO_SB hb hr _) (actsO_SB hb hr _)]
      rfl
    · rw [if_neg (by simpa using c3), decide_eq_false c3]; rfl
  · rw [if_neg c2, decide_eq_false c2]; rfl
theorem Spare_l2 {i : Int} {b : Member} (hi : idx o.Members i = some b) (l6 : List Int) (hl : (l6.length : Int) ≤ i) : ∀ (k : Nat) (c : Bool) (j : Int), 0 ≤ j → j + k = o.Members.length → Q_SpareOf_l2 o l6 i c j = some (.inl (if (c || spF o i b (o.Members.drop j.toNat) j) = true then l6 ++ [i] else l6, i + 1))
  | 0, c, j, h0, hj => by
    have hm := hb.mem
    obtain ⟨hi0, hi1, _⟩ := idx_some hi
    unfold Q_SpareOf_l2
    rw [iter_eq, Q_SpareOf_b2, if_neg (by dsimp only; omega), map_inr_after, List.drop_of_length_le (by omega)]
    unfold Q_SpareOf_k3 Q_SpareOf_j2
    dsimp only
    rw [w64_in (by omega) (by omega)]
    cases c with
    | false => simp [spF]
    | true => rw [if_pos rfl, app_le (by simp; omega)]; simp [spF]
  | k + 1, c, j, h0, hj => by
    have hm := hb.mem
    obtain ⟨x, hx, _, hd⟩ := idx_lt o.Members h0 (by omega)
    have w1 : w64 (j + 1) = j + 1 := w64_in (by omega) (by omega)
    unfold Q_SpareOf_l2
    rw [iter_eq, Q_SpareOf_b2, if_pos (by dsimp only; omega), hd]
    have go : ∀ c', (Q_SpareOf_j1 j c').bind (after (iter fun x => Q_SpareOf_b2 o l6 i x.1 x.2)) = some (.inl (if (c' || spF o i b (o.Members.drop (j + 1).toNat) (j + 1)) = true then l6 ++ [i] else l6, i + 1)) := by
      intro c'
      unfold Q_SpareOf_j1
      rw [w1]
      simp only [Option.bind_some, after_inl]
      have := Spare_l2 hi l6 hl k c' (j + 1) (by omega) (by omega)
      unfold Q_SpareOf_l2 at this
      exact this
    dsimp only
    rw [spF]
    cases c with
    | true => rw [if_pos rfl, go]; simp
    | false =>
      rw [if_neg (by simp), does_eq hb hr hx hi, does_eq hb hr hi hx]
      simp only [Option.bind_some]
      by_cases c1 : j = i
      · rw [decide_eq_true c1, if_neg (by simp), go, decide_eq_true c1.symm]; simp
      · have c1' : ¬ i = j := fun e => c1 e.symm
        rw [decide_eq_false c1, decide_eq_false c1']
        cases d1 : dB o x b with
        | false => rw [if_neg (by simp), go]; simp
        | true =>
          rw [if_pos (by simp), go]
          cases d2 : dB o b x with
          | false => simp
          | true =>
            by_cases c3 : j < i
            · rw [decide_eq_true c3, decide_eq_false (by omega : ¬ i < j)]; simp
            · rw [decide_eq_false c3, decide_eq_true (by omega : i < j)]; simp
theorem SpareOf_l1 : ∀ (k : Nat) (l6 : List Int) (i : Int), 0 ≤ i → i + k = o.Members.length → (l6.length : Int) ≤ i → Q_SpareOf_l1 o l6 i = some (l6 ++ spA o (o.Members.drop i.toNat) i)
  | 0, l6, i, h0, hi, hl => by
    unfold Q_SpareOf_l1
    rw [iter_eq, Q_SpareOf_b1, if_neg (by dsimp only; omega), map_inr_after, List.drop_of_length_le (by omega)]
    simp [spA]
  | k + 1, l6, i, h0, hi, hl => by
    obtain ⟨b, hbx, _, hd⟩ := idx_lt o.Members h0 (by omega)
    unfold Q_SpareOf_l1
    rw [iter_eq, Q_SpareOf_b1, if_pos (by dsimp only; omega)]
    dsimp only
    rw [Spare_l2 hb hr hbx l6 hl o.Members.length false 0 (by omega) (by omega)]
    simp only [Option.bind_some, after_inl, Bool.false_or, Int.toNat_zero, List.drop_zero]
    rw [hd, spA]
    have hlen : (((if spF o i b o.Members 0 = true then l6 ++ [i] else l6) : List Int).length : Int) ≤ i + 1 := by
      split
      · simp; omega
      · omega
    have := SpareOf_l1 k (if spF o i b o.Members 0 = true then l6 ++ [i] else l6) (i + 1) (by omega) (by omega) hlen
    unfold Q_SpareOf_l1 at this
    rw [this]
    split <;> simp
theorem SpareOf_eq : Q_SpareOf o = some (spA o o.Members 0) := by
  unfold Q_SpareOf
  rw [SpareOf_l1 hb hr o.Members.length [] 0 (by omega) (by omega) (by simp)]
  simp
end
end Go.Beacon

/- Members that change nothing, as the code finds them: with what it remembers. No program in sight. -/
set_option linter.unusedVariables false
set_option linter.unusedSimpArgs false
set_option linter.unusedSectionVars false
namespace Go.Beacon
open Go Go.Eng

/-- A view that remembers other answers. -/
def VW (v : Tenant_view) (w : List (Tenant_asks × Bool)) : Tenant_view := ⟨v.Org, v.parent_, v.acts_, v.at_, v.found_, w⟩
/-- What is remembered is right. -/
def MW (o : Org) (w : List (Tenant_asks × Bool)) : Prop := ∀ (a b : Str) (c : Bool), mget? w ⟨a, b⟩ = some c → c = coversB (actsO o a) (actsO o b)
section
variable {o : Org} (hb : OrgB o) (hr : OrgR o) {v : Tenant_view} (hv : ViewA v o)
include hb hr hv
theorem VW_R (w : List (Tenant_asks × Bool)) : ViewR (VW v w) o := ⟨hv.view.org, hv.view.par, hv.view.len⟩
theorem acts_get (k : Str) : (mget? v.acts_ k).getD [] = actsO o k := by rw [hv.act hr.roles k]; rfl
theorem covers_view (w : List (Tenant_asks × Bool)) (hw : MW o w) (a b : Str) : ∃ w', tenant_view_covers (VW v w) a b = some (coversB (actsO o a) (actsO o b), VW v w') ∧ MW o w' := by
  unfold tenant_view_covers tenant_view_covers_j1 mget2 mgetO
  show ∃ w', (some ((mget? w ⟨a, b⟩).getD false, (mget? w ⟨a, b⟩).isSome)).bind _ = _ ∧ _
  simp only [Option.bind_some]
  cases e : mget? w ⟨a, b⟩ with
  | some c =>
    rw [if_neg (by simp)]
    refine ⟨w, ?_, hw⟩
    rw [← hw a b c e]; rfl
  | none =>
    rw [if_pos (by simp)]
    show ∃ w', (tenant_allCovered ((mget? v.acts_ a).getD []) ((mget? v.acts_ b).getD [])).bind _ = _ ∧ _
    rw [acts_get hb hr hv, acts_get hb hr hv, allCovered_eq _ _ (actsO_SB hb hr _) (actsO_SB hb hr _)]
    refine ⟨mset w ⟨a, b⟩ (coversB (actsO o a) (actsO o b)), rfl, fun x y c hc => ?_⟩
    rw [mget_mset] at hc
    split at hc
    · rename_i he
      obtain ⟨rfl, rfl⟩ := Tenant_asks.mk.inj he
      exact (Option.some.inj hc).symm
    · exact hw x y c hc
theorem by_eq {i j : Int} {a b : Member} (hi : idx o.Members i = some a) (hj : idx o.Members j = some b) (w : List (Tenant_asks × Bool)) (hw : MW o w) : ∃ w', tenant_Spare_1x i j o (VW v w) = some (dB o b a, VW v w') ∧ MW o w' := by
  unfold tenant_Spare_1x tenant_Spare_1x_j1 dB
  rw [hi, hj]
  simp only [Option.bind_some]
  have hwl := wk_len2 hb hr a.Tenant
  by_cases c2 : a.User = b.User
  · rw [if_pos c2, decide_eq_true c2.symm, vpath_eq (VW_R hb hr hv w) (by have := hb.ten; omega)]
    simp only [Option.bind_some]
    rw [ContSq (wk o a.Tenant) b.Tenant (by omega)]
    simp only [Option.bind_some]
    by_cases c3 : b.Tenant ∈ wk o a.Tenant
    · rw [if_pos (by simpa using c3), decide_eq_true c3]
      obtain ⟨w', e1, e2⟩ := covers_view hb hr hv w hw b.Role a.Role
      rw [e1]
      exact ⟨w', rfl, e2⟩
    · rw [if_neg (by simpa using c3), decide_eq_false c3]
      exact ⟨w, rfl, hw⟩
  · rw [if_neg c2, decide_eq_false (fun e : b.User = a.User => c2 e.symm)]
    exact ⟨w, rfl, hw⟩
theorem Sp_l2 {i : Int} {b : Member} (hi : idx o.Members i = some b) (l38 : List Int) (hl : (l38.length : Int) ≤ i) : ∀ (k : Nat) (w : List (Tenant_asks × Bool)) (j : Int), MW o w → 0 ≤ j → j + k = o.Members.length →
    ∃ w', MW o w' ∧ tenant_Spare_l2 o v l38 i v.Org.Tenants v.Org.Roles v.Org.Members v.Org.Shares v.parent_ v.acts_ w j = some (.inl (v.Org.Tenants, v.Org.Roles, v.Org.Members, v.Org.Shares, v.parent_, v.acts_, w', (if spF o i b (o.Members.drop j.toNat) j = true then l38 ++ [i] else l38), i + 1))
  | 0, w, j, hw, h0, hj => by
    have hm := hb.mem
    obtain ⟨hi0, hi1, _⟩ := idx_some hi
    refine ⟨w, hw, ?_⟩
    unfold tenant_Spare_l2
    rw [iter_eq, tenant_Spare_b2, if_neg (by dsimp only; omega), map_inr_after, List.drop_of_length_le (by omega)]
    unfold tenant_Spare_j1
    dsimp only
    rw [w64_in (by omega) (by omega)]
    simp [spF]
  | k + 1, w, j, hw, h0, hj => by
    have hm := hb.mem
    obtain ⟨hi0, hi1, _⟩ := idx_some hi
    obtain ⟨x, hx, _, hd⟩ := idx_lt o.Members h0 (by omega)
    have w1 : w64 (j + 1) = j + 1 := w64_in (by omega) (by omega)
    have w2 : w64 (i + 1) = i + 1 := w64_in (by omega) (by omega)
    unfold tenant_Spare_l2
    rw [iter_eq, tenant_Spare_b2, if_pos (by dsimp only; omega), hd, spF]
    dsimp only
    have goF : ∀ w0, MW o w0 → ∃ w', MW o w' ∧ (tenant_Spare_j2 l38 i j v.Org.Tenants v.Org.Roles v.Org.Members v.Org.Shares v.parent_ v.acts_ w0 false).bind (after (iter fun x : (List Tenant) × (List Role) × (List Member) × (List Share) × (List (Str × Str)) × (List (Str × (List Str))) × (List (Tenant_asks × Bool)) × Int => tenant_Spare_b2 o v l38 i x.1 x.2.1 x.2.2.1 x.2.2.2.1 x.2.2.2.2.1 x.2.2.2.2.2.1 x.2.2.2.2.2.2.1 x.2.2.2.2.2.2.2)) = some (.inl (v.Org.Tenants, v.Org.Roles, v.Org.Members, v.Org.Shares, v.parent_, v.acts_, w', (if spF o i b (o.Members.drop (j + 1).toNat) (j + 1) = true then l38 ++ [i] else l38), i + 1)) := by
      intro w0 hw0
      obtain ⟨w', e1, e2⟩ := Sp_l2 hi l38 hl k w0 (j + 1) hw0 (by omega) (by omega)
      unfold tenant_Spare_l2 at e2
      refine ⟨w', e1, ?_⟩
      unfold tenant_Spare_j2
      rw [if_neg (by simp), w1]
      simp only [Option.bind_some, after_inl]
      exact e2
    have goT : ∀ w0, MW o w0 → ∃ w', MW o w' ∧ (tenant_Spare_j2 l38 i j v.Org.Tenants v.Org.Roles v.Org.Members v.Org.Shares v.parent_ v.acts_ w0 true).bind (after (iter fun x : (List Tenant) × (List Role) × (List Member) × (List Share) × (List (Str × Str)) × (List (Str × (List Str))) × (List (Tenant_asks × Bool)) × Int => tenant_Spare_b2 o v l38 i x.1 x.2.1 x.2.2.1 x.2.2.2.1 x.2.2.2.2.1 x.2.2.2.2.2.1 x.2.2.2.2.2.2.1 x.2.2.2.2.2.2.2)) = some (.inl (v.Org.Tenants, v.Org.Roles, v.Org.Members, v.Org.Shares, v.parent_, v.acts_, w', l38 ++ [i], i + 1)) := by
      intro w0 hw0
      refine ⟨w0, hw0, ?_⟩
      unfold tenant_Spare_j2 tenant_Spare_j1
      rw [if_pos rfl, app_le (by simp; omega), w2]
      rfl
    by_cases c1 : i = j
    · rw [if_neg (fun k => k c1), decide_eq_true c1]
      simpa [VW] using goF w hw
    rw [if_pos c1, decide_eq_false c1]
    obtain ⟨wa, a1, a2⟩ := by_eq hb hr hv hi hx w hw
    rw [show tenant_Spare_1x i j o (⟨(⟨v.Org.Tenants, v.Org.Roles, v.Org.Members, v.Org.Shares⟩ : Org), v.parent_, v.acts_, v.at_, v.found_, w⟩ : Tenant_view) = some (dB o x b, VW v wa) from a1]
    simp only [Option.bind_some]
    cases d1 : dB o x b with
    | false =>
      rw [if_neg (by simp)]
      simpa [VW] using goF wa a2
    | true =>
      rw [if_pos rfl]
      by_cases c2 : i < j
      · rw [if_pos c2, decide_eq_true c2]
        obtain ⟨wb, b1, b2⟩ := by_eq hb hr hv hx hi wa a2
        rw [show tenant_Spare_1x j i o (⟨(VW v wa).Org, (VW v wa).parent_, (VW v wa).acts_, v.at_, v.found_, (VW v wa).wider_⟩ : Tenant_view) = some (dB o b x, VW v wb) from b1]
        simp only [Option.bind_some]
        cases d2 : dB o b x with
        | true => simpa [VW] using goF wb b2
        | false => simpa [VW] using goT wb b2
      · rw [if_neg c2, decide_eq_false c2]
        simpa [VW] using goT wa a2
theorem Sp_l1 : ∀ (k : Nat) (w : List (Tenant_asks × Bool)) (l38 : List Int) (i : Int), MW o w → 0 ≤ i → i + k = o.Members.length → (l38.length : Int) ≤ i → tenant_Spare_l1 o v v.Org.Tenants v.Org.Roles v.Org.Members v.Org.Shares v.parent_ v.acts_ w l38 i = some (l38 ++ spA o (o.Members.drop i.toNat) i, 0)
  | 0, w, l38, i, hw, h0, hi, hl => by
    unfold tenant_Spare_l1
    rw [iter_eq, tenant_Spare_b1, if_neg (by dsimp only; omega), map_inr_after, List.drop_of_length_le (by omega)]
    simp [spA]
  | k + 1, w, l38, i, hw, h0, hi, hl => by
    obtain ⟨b, hbx, _, hd⟩ := idx_lt o.Members h0 (by omega)
    unfold tenant_Spare_l1
    rw [iter_eq, tenant_Spare_b1, if_pos (by dsimp only; omega)]
    dsimp only
    obtain ⟨w', e1, e2⟩ := Sp_l2 hb hr hv hbx l38 hl o.Members.length w 0 hw (by omega) (by omega)
    rw [e2]
    simp only [Option.bind_some, after_inl, Int.toNat_zero, List.drop_zero]
    rw [hd, spA]
    have hlen : (((if spF o i b o.Members 0 = true then l38 ++ [i] else l38) : List Int).length : Int) ≤ i + 1 := by
      split
      · simp; omega
      · omega
    have := Sp_l1 k w' (if spF o i b o.Members 0 = true then l38 ++ [i] else l38) (i + 1) e1 (by omega) (by omega) hlen
    unfold tenant_Spare_l1 at this
    rw [this]
    split <;> simp
theorem Spare_eq (hc : tenant_checked o = some (some v, 0)) : tenant_Spare o = some (spA o o.Members 0, 0) := by
  unfold tenant_Spare
  rw [hc]
  simp only [Option.bind_some, casesO, ne_eq, not_true, if_false]
  rw [Sp_l1 hb hr hv o.Members.length v.wider_ [] 0 (by rw [hv.wide]; intro a b c hc; cases hc) (by omega) (by omega) (by simp)]
  simp
theorem spA_len : ∀ (l : List Member) (i : Int), (spA o l i).length ≤ l.length
  | [], _ => Nat.le_refl _
  | b :: r, i => by
    rw [spA, List.length_append]
    have := spA_len r (i + 1)
    split <;> simp <;> omega
end
end Go.Beacon

/- Queries and items as they are drawn. No program in sight. -/
set_option linter.unusedVariables false
set_option linter.unusedSimpArgs false
namespace Go.Beacon
open Go Go.Eng

/-- At most so many parts, all words short. -/
def QS (m : Nat) (q : Query) : Prop := q.subs.length ≤ m ∧ ∀ x ∈ q.subs, StrQ x
theorem QS.mono {m k : Nat} {q : Query} (h : QS m q) (hk : m ≤ k) : QS k q := ⟨Nat.le_trans h.1 hk, h.2⟩
theorem QS.b {m : Nat} {q : Query} (h : QS m q) (hm : m ≤ 5000) : QB q := ⟨Nat.le_trans h.1 hm, h.2⟩
def QSL (m : Nat) (l : List Query) : Prop := (Query.subsL l).length ≤ m ∧ ∀ x ∈ Query.subsL l, StrQ x
theorem subsL_app : ∀ a b : List Query, Query.subsL (a ++ b) = Query.subsL a ++ Query.subsL b
  | [], b => by simp [Query.subsL]
  | x :: a, b => by rw [List.cons_append, Query.subsL, subsL_app a b, Query.subsL, List.append_assoc]
theorem QSL.nil : QSL 0 [] := ⟨by simp [Query.subsL], fun x h => by simp [Query.subsL] at h⟩
theorem QSL.app {m k : Nat} {a b : List Query} (h : QSL m a) (h' : QSL k b) : QSL (m + k) (a ++ b) := by
  unfold QSL
  rw [subsL_app]
  refine ⟨by rw [List.length_append]; have := h.1; have := h'.1; omega, fun x hx => ?_⟩
  rcases List.mem_append.1 hx with k | k
  · exact h.2 x k
  · exact h'.2 x k
theorem QSL.one {m : Nat} {q : Query} (h : QS m q) : QSL m [q] := by
  unfold QSL
  simp only [Query.subsL, List.append_nil]; exact h
theorem QS.kids {m : Nat} {q : Query} (h : QS m q) : QSL (m - 1) q.Kids := by
  obtain ⟨h1, h2⟩ := h
  rw [q.subs_eq] at h1 h2
  rw [List.length_cons] at h1
  exact ⟨by omega, fun x hx => h2 x (List.mem_cons_of_mem _ hx)⟩
theorem QS.mk {m : Nat} {k : Int} {f o : Str} {v : ValueS} {w : Version} {l : List Query} (hf : f.length ≤ 100000) (ho : o.length ≤ 100000) (hv : v.Words.length ≤ 100000) (h : QSL m l) : QS (m + 1) ⟨k, f, o, v, w, l⟩ := by
  unfold QS
  rw [Query.subs_eq]
  refine ⟨by rw [List.length_cons]; exact Nat.succ_le_succ h.1, fun x hx => ?_⟩
  rcases List.mem_cons.1 hx with rfl | hx
  · exact ⟨hf, ho, hv⟩
  · exact h.2 x hx
theorem QS.s {m : Nat} {q : Query} (h : QS m q) : StrQ q := h.2 q q.mem_self
theorem str_in {s : Str} {L : List Str} (h : s ∈ L) (hl : L.all (fun x => decide (x.length ≤ 100)) = true) : s.length ≤ 100000 := by
  have := List.all_eq_true.1 hl s h
  simp at this; omega
theorem leaf1_k {s : Stm} {K : Int} (hs : SOk s K) (hK : 1 ≤ K) : Gen (Stream_leaf_1x s) (K - 1) (fun t => t.length ≤ 100000) := by
  refine Gen.of ?_
  unfold Stream_leaf_1x
  refine Ok.gen (Some_k hs hK (by simp) (by simp)) (fun t s1 h q => Ok.ret ⟨str_in h (by decide), q⟩)
theorem leaf2_k {s : Stm} {K : Int} {L : List Str} (hL : L ≠ [] ∧ L.length ≤ 100 ∧ L.all (fun x => decide (x.length ≤ 100)) = true) (hs : SOk s K) (hK : 1 ≤ K) : Gen (Stream_leaf_2x L s) (K - 1) (fun v => v.Words.length ≤ 100000) := by
  refine Gen.of ?_
  unfold Stream_leaf_2x
  refine Ok.gen (Some_k hs hK hL.1 (by omega)) (fun t s1 h q => Ok.ret ⟨str_in h hL.2.2, q⟩)
theorem leaf_k {s : Stm} {K : Int} (hs : SOk s K) (hK : 6 ≤ K) : Gen (Stream_leaf s) (K - 6) (QS 1) := by
  refine Gen.of ?_
  unfold Stream_leaf
  have done : ∀ {k : Int} {f o : Str} {v : ValueS} {w : Version} {s' : Stm} {K' : Int}, f.length ≤ 100000 → o.length ≤ 100000 → v.Words.length ≤ 100000 → SOk s' K' → K - 6 ≤ K' → Ok (some ((⟨k, f, o, v, w, []⟩ : Query), s')) (fun r => QS 1 r.1 ∧ SOk r.2 (K - 6)) :=
    fun hf ho hv hq hk => Ok.ret ⟨QS.mk hf ho hv QSL.nil, hq.less hk⟩
  refine Ok.gen (Next_k hs (by omega) (by omega) (by omega)) (fun n s1 _ q1 => ?_)
  dsimp only
  split
  · refine Ok.gen (Some_k q1 (by omega) (by simp) (by simp)) (fun t s2 h q2 => ?_)
    exact done (str_in h (by decide)) (by simp) (by simp) q2 (by omega)
  split
  · refine Ok.gen (leaf1_k q1 (by omega)) (fun t s2 h q2 => ?_)
    refine Ok.gen (leaf2_k (by decide) q2 (by omega)) (fun v s3 hv q3 => ?_)
    exact done (by simp) h hv q3 (by omega)
  split
  · refine Ok.gen (Some_k q1 (by omega) (by simp) (by simp)) (fun f s2 hf q2 => ?_)
    refine Ok.gen (leaf1_k q2 (by omega)) (fun t s3 h q3 => ?_)
    refine Ok.gen (leaf2_k (by decide) q3 (by omega)) (fun v s4 hv q4 => ?_)
    exact done (str_in hf (by decide)) h hv q4 (by omega)
  split
  · refine Ok.gen (Some_k q1 (by omega) (by simp [Q_Ops]) (by simp [Q_Ops])) (fun o s2 ho q2 => ?_)
    refine Ok.gen (Next_k q2 (by omega) (by omega) (by omega)) (fun a s3 _ q3 => ?_)
    refine Ok.gen (Pick_k q3 (by omega) (by simp) (by simp)) (fun b s4 _ q4 => ?_)
    refine Ok.gen (Pick_k q4 (by omega) (by simp) (by simp)) (fun c s5 _ q5 => ?_)
    exact done (by simp) (str_in ho (by unfold Q_Ops; decide)) (by simp) q5 (by omega)
  split
  · refine Ok.gen (leaf1_k q1 (by omega)) (fun t s2 h q2 => ?_)
    refine Ok.gen (leaf2_k (by decide) q2 (by omega)) (fun v s3 hv q3 => ?_)
    exact done (by simp) h hv q3 (by omega)
  split
  · refine Ok.gen (leaf1_k q1 (by omega)) (fun t s2 h q2 => ?_)
    refine Ok.gen (Flip_k q2 (by omega) (by omega) (by omega)) (fun b s3 _ q3 => ?_)
    exact done (by simp) h (by simp) q3 (by omega)
  split
  · refine Ok.gen (leaf1_k q1 (by omega)) (fun t s2 h q2 => ?_)
    refine Ok.gen (leaf2_k (by decide) q2 (by omega)) (fun v s3 hv q3 => ?_)
    exact done (by simp) h hv q3 (by omega)
  · refine Ok.gen (Some_k q1 (by omega) (by simp [Q_Ops]) (by simp [Q_Ops])) (fun o s2 ho q2 => ?_)
    refine Ok.gen (Pick_k q2 (by omega) (by simp) (by simp)) (fun c s5 _ q5 => ?_)
    exact done (by simp) (str_in ho (by unfold Q_Ops; decide)) (by simp) q5 (by omega)
/-- How many draws a query of some depth takes, and how many parts it has. -/
def drK : Nat → Int
  | 0 => 10
  | d + 1 => 3 + 3 * drK d
def szK : Nat → Nat
  | 0 => 1
  | d + 1 => 1 + 3 * szK d
theorem drK_pos : ∀ d, 10 ≤ drK d
  | 0 => by simp [drK]
  | d + 1 => by have := drK_pos d; simp only [drK]; omega
theorem szK_pos : ∀ d, 1 ≤ szK d
  | 0 => by simp [szK]
  | d + 1 => by simp only [szK]; omega
theorem RightQuery_l (self : Stm → Int → Option (Query × Stm)) (d : Nat) (hd : d ≤ 1000) (hself : ∀ (s : Stm) (K : Int), SOk s K → drK d ≤ K → Gen (self s d) (K - drK d) (QS (szK d))) (hz : szK d ≤ 1000) (v7 : Int × Stm) (m : Int) (hm : 1 ≤ m ∧ m ≤ 3) (L : List Int) (n : Int) (K : Int) (hs : SOk ⟨L, n⟩ K) (hK : 3 * drK d ≤ K) :
    Ok (Stream_RightQuery_l1 self (d + 1 : Nat) v7 m L n [] 0) (fun r => QS (1 + 3 * szK d) r.1 ∧ SOk r.2 (K - 3 * drK d)) := by
  have hp := drK_pos d
  unfold Stream_RightQuery_l1
  refine Ok.iter (fun x : (List Int) × Int × (List Query) × Int => (3 - x.2.2.2).toNat) (fun x => (0 ≤ x.2.2.2 ∧ x.2.2.2 ≤ m) ∧ SOk ⟨x.1, x.2.1⟩ (K - drK d * x.2.2.2) ∧ QSL (szK d * x.2.2.2.toNat) x.2.2.1) ?_ _ ⟨⟨by simp, by simp; omega⟩, by simpa using hs, by simpa using QSL.nil⟩
  rintro ⟨L, n, l, i⟩ ⟨h0, h1, h2⟩
  dsimp only at h0 h1 h2 ⊢
  have w1 : w64 (i + 1) = i + 1 := w64_in (by omega) (by omega)
  have w2 : w64 (((d + 1 : Nat) : Int) - 1) = d := by rw [show ((d + 1 : Nat) : Int) - 1 = d by omega]; exact w64_in (by omega) (by omega)
  have hlen : l.length ≤ 3000 := by
    have e1 := subsL_len l
    have e2 := h2.1
    have : szK d * i.toNat ≤ 1000 * 3 := Nat.mul_le_mul hz (by omega)
    omega
  have hi3 : i = 0 ∨ i = 1 ∨ i = 2 ∨ i = 3 := by omega
  unfold Stream_RightQuery_b1
  split
  · rename_i hi
    rw [w2]
    have hK' : drK d ≤ K - drK d * i := by rcases hi3 with rfl | rfl | rfl | rfl <;> omega
    refine Ok.gen (hself _ _ h1 hK') (fun q s' hq q' => ?_)
    have hnext : ∀ l' : List Query, QSL (szK d * i.toNat + szK d) l' → Ok (Stream_RightQuery_j4 i (q, s') l') (Stp (fun x : (List Int) × Int × (List Query) × Int => (3 - x.2.2.2).toNat) (fun x => (0 ≤ x.2.2.2 ∧ x.2.2.2 ≤ m) ∧ SOk ⟨x.1, x.2.1⟩ (K - drK d * x.2.2.2) ∧ QSL (szK d * x.2.2.2.toNat) x.2.2.1) (fun r => QS (1 + 3 * szK d) r.1 ∧ SOk r.2 (K - 3 * drK d)) (L, n, l, i)) := by
      intro l' hl'
      unfold Stream_RightQuery_j4
      rw [w1]
      refine Ok.ret ⟨⟨⟨by dsimp only; omega, by dsimp only; omega⟩, ?_, ?_⟩, by dsimp only; omega⟩
      · dsimp only
        have e : K - drK d * (i + 1) = K - drK d * i - drK d := by rw [Int.mul_add]; omega
        rw [e]; exact q'
      · dsimp only
        have e : szK d * (i + 1).toNat = szK d * i.toNat + szK d := by rw [show (i + 1).toNat = i.toNat + 1 by omega, Nat.mul_succ]
        rw [e]; exact hl'
    have hql := hq.kids
    have hk2 : q.Kids.length ≤ 1000 := by
      have e1 := subsL_len q.Kids
      have e2 := hql.1
      omega
    unfold Stream_RightQuery_j3
    split
    · refine Ok.app (by dsimp only; omega) ?_
      exact hnext _ (QSL.app h2 ⟨Nat.le_trans hql.1 (by omega), hql.2⟩)
    · refine Ok.app (by simp; omega) ?_
      exact hnext _ (QSL.app h2 (QSL.one hq))
  · refine Ok.inr (Ok.ret ⟨?_, ?_⟩)
    · have e : szK d * i.toNat ≤ 3 * szK d := by rw [Nat.mul_comm]; exact Nat.mul_le_mul_right _ (by omega)
      have := QS.mk (k := v7.1) (f := []) (o := []) (v := ⟨0, false, 0, []⟩) (w := ⟨0, 0, 0⟩) (by simp) (by simp) (by simp) h2
      exact this.mono (by omega)
    · have : drK d * i ≤ 3 * drK d := by rcases hi3 with rfl | rfl | rfl | rfl <;> omega
      exact h1.less (by omega)
theorem RightQuery_k : ∀ (d : Nat) (f : Nat), d < f → d ≤ 3 → ∀ (s : Stm) (K : Int), SOk s K → drK d ≤ K → Gen (Stream_RightQuery_r f s d) (K - drK d) (QS (szK d))
  | 0, f + 1, _, _, s, K, hs, hK => by
    have hp := drK_pos 0
    refine Gen.of ?_
    show Ok (Stream_RightQuery_bd (Stream_RightQuery_r f) s ((0 : Nat) : Int)) _
    unfold Stream_RightQuery_bd
    rw [if_pos (by simp)]
    unfold Stream_RightQuery_j1
    rw [if_pos rfl]
    refine Ok.gen (leaf_k (s := ⟨s.L, s.at_⟩) hs (by omega)) (fun q s1 hq q1 => Ok.ret ⟨hq, q1.less (by omega)⟩)
  | d + 1, f + 1, hf, hd, s, K, hs, hK => by
    have hp := drK_pos d
    have hz : szK d ≤ 1000 := by
      have hd' : d = 0 ∨ d = 1 ∨ d = 2 := by omega
      rcases hd' with rfl | rfl | rfl <;> decide
    have hself := RightQuery_k d f (by omega) (by omega)
    have hKd : 3 + 3 * drK d ≤ K := hK
    refine Gen.of ?_
    show Ok (Stream_RightQuery_bd (Stream_RightQuery_r f) s ((d + 1 : Nat) : Int)) (fun r => QS (1 + 3 * szK d) r.1 ∧ SOk r.2 (K - (3 + 3 * drK d)))
    unfold Stream_RightQuery_bd
    rw [if_neg (by omega)]
    refine Ok.gen (Flip_k hs (by omega) (by omega) (by omega)) (fun c s1 _ q1 => ?_)
    dsimp only
    unfold Stream_RightQuery_j1
    split
    · refine Ok.gen (leaf_k (s := ⟨s1.L, s1.at_⟩) q1 (by omega)) (fun q s2 hq q2 => Ok.ret ⟨hq.mono (by have := szK_pos d; omega), q2.less (by omega)⟩)
    · refine Ok.gen (Pick_k (s := ⟨s1.L, s1.at_⟩) q1 (by omega) (by simp) (by simp)) (fun k s2 _ q2 => ?_)
      dsimp only
      have fin : ∀ (m : Int) (s3 : Stm) (K3 : Int), 1 ≤ m ∧ m ≤ 3 → SOk s3 K3 → K - 3 ≤ K3 → Ok (Stream_RightQuery_j2 (Stream_RightQuery_r f) ((d + 1 : Nat) : Int) (k, s2) s3.L s3.at_ m) (fun r => QS (1 + 3 * szK d) r.1 ∧ SOk r.2 (K - (3 + 3 * drK d))) := by
        intro m s3 K3 hm h3 hk3
        unfold Stream_RightQuery_j2
        refine (RightQuery_l (Stream_RightQuery_r f) d (by omega) hself hz (k, s2) m hm s3.L s3.at_ K3 h3 (by omega)).mono (fun r hr => ⟨hr.1, hr.2.less (by omega)⟩)
      split
      · refine Ok.gen (Pick_k q2 (by omega) (by simp) (by simp)) (fun m s3 hm q3 => ?_)
        dsimp only
        have := pick_le (lo := 2) (hi := 3) hm (by decide)
        exact fin m s3 _ (by omega) q3 (by omega)
      · exact fin 1 s2 _ (by omega) q2 (by omega)
theorem Query_k {s : Stm} {K : Int} (hs : SOk s K) (hK : 150 ≤ K) : Gen (Stream_Query s) (K - 150) QB := by
  refine Gen.of ?_
  unfold Stream_Query
  refine Ok.gen (Pick_k hs (by omega) (by simp) (by simp)) (fun d s1 hd q1 => ?_)
  have hd' := pick_le (lo := 0) (hi := 2) hd (by decide)
  obtain ⟨e, rfl⟩ : ∃ e : Nat, d = e := ⟨d.toNat, by omega⟩
  have he : e ≤ 2 := by omega
  have hdr : drK e ≤ 129 := by
    have : e = 0 ∨ e = 1 ∨ e = 2 := by omega
    rcases this with rfl | rfl | rfl <;> decide
  have hsz : szK e ≤ 13 := by
    have : e = 0 ∨ e = 1 ∨ e = 2 := by omega
    rcases this with rfl | rfl | rfl <;> decide
  have hp := drK_pos e
  have hrq := RightQuery_k e depth (by unfold depth; omega) (by omega) s1 (K - 1) q1 (by omega)
  dsimp only
  refine Ok.gen (P := QS (szK e)) (k := K - 1 - drK e) hrq (fun q s2 hq q2 => ?_)
  have hq := hq.mono hsz
  have hqs := hq.s
  have hqk := hq.kids
  dsimp only
  refine Ok.gen (Flip_k q2 (by omega) (by omega) (by omega)) (fun c s3 _ q3 => ?_)
  have j1 : ∀ {L : List Int} {n k : Int} {f o : Str} {a : Int} {b : Bool} {c : Int} {w : Str} {x y z : Int} {l : List Query} {K' : Int}, SOk ⟨L, n⟩ K' → K - 150 ≤ K' → f.length ≤ 100000 → o.length ≤ 100000 → w.length ≤ 100000 → QSL 100 l → Ok (Stream_Query_j1 L n k f o a b c w x y z l) (fun r => QB r.1 ∧ SOk r.2 (K - 150)) := by
    intro L n k f o a b c w x y z l K' h1 h2 h3 h4 h5 h6
    exact Ok.ret ⟨(QS.mk (v := ⟨a, b, c, w⟩) h3 h4 h5 h6).b (by omega), h1.less h2⟩
  have hk100 : QSL 100 q.Kids := ⟨by have := hqk.1; omega, hqk.2⟩
  dsimp only
  split
  · refine Ok.gen (Next_k q3 (by omega) (by omega) (by omega)) (fun t s4 _ q4 => ?_)
    dsimp only
    split
    · refine Ok.gen (Odd_k q4 (by omega) (by omega) (by omega) (by omega)) (fun u s5 _ q5 => ?_)
      exact j1 q5 (by omega) hqs.field hqs.op hqs.words hk100
    split
    · refine Ok.gen (Some_k q4 (by omega) (by simp) (by simp)) (fun u s5 hu q5 => ?_)
      exact j1 q5 (by omega) (str_in hu (by decide)) hqs.op hqs.words hk100
    split
    · refine Ok.gen (Some_k q4 (by omega) (by simp) (by simp)) (fun u s5 hu q5 => ?_)
      exact j1 q5 (by omega) hqs.field (str_in hu (by decide)) hqs.words hk100
    split
    · refine Ok.gen (Next_k q4 (by omega) (by omega) (by omega)) (fun u s5 hu q5 => ?_)
      dsimp only
      refine Ok.idx hu.1 (by simpa using hu.2) (fun v _ hv => ?_)
      refine j1 q5 (by omega) hqs.field hqs.op ?_ hk100
      simp only [List.mem_cons, List.not_mem_nil, or_false] at hv
      rcases hv with rfl | rfl | rfl | rfl | rfl <;> simp
    split
    · unfold slices_Clone_Query_Query
      have hkl : q.Kids.length ≤ 100 := by
        have e1 := subsL_len q.Kids
        have e2 := hqk.1
        omega
      refine Ok.app (by simp; omega) ?_
      refine Ok.gen (leaf_k q4 (by omega)) (fun u s5 hu q5 => ?_)
      refine Ok.app (by simp; omega) ?_
      refine j1 q5 (by omega) hqs.field hqs.op hqs.words ?_
      rw [List.nil_append]
      have := QSL.app hqk (QSL.one hu)
      exact ⟨Nat.le_trans this.1 (by omega), this.2⟩
    · refine Ok.gen (Pick_k q4 (by omega) (by simp) (by simp)) (fun m s5 hm q5 => ?_)
      have hm' := pick_le (lo := 18) (hi := 20) hm (by decide)
      unfold Stream_Query_l1
      refine Ok.iter (fun x : Int × Str × Str × Int × Bool × Int × Str × Int × Int × Int × (List Query) × Int => (20 - x.2.2.2.2.2.2.2.2.2.2.2).toNat)
        (fun x => (0 ≤ x.2.2.2.2.2.2.2.2.2.2.2 ∧ x.2.2.2.2.2.2.2.2.2.2.2 ≤ 20) ∧ (x.2.1.length ≤ 100000 ∧ x.2.2.1.length ≤ 100000 ∧ x.2.2.2.2.2.2.1.length ≤ 100000) ∧ QSL (12 + x.2.2.2.2.2.2.2.2.2.2.2.toNat) x.2.2.2.2.2.2.2.2.2.2.1) ?_ _ ⟨by simp, ⟨hqs.field, hqs.op, hqs.words⟩, ⟨by have := hqk.1; simp; omega, hqk.2⟩⟩
      rintro ⟨k, f, o, a, b, c, w, x, y, z, l, i⟩ ⟨h0, h1, h2⟩
      dsimp only at h0 h1 h2 ⊢
      unfold Stream_Query_b1
      split
      · rename_i hi
        dsimp only at hi
        rw [w64_in (by omega) (by omega)]
        refine Ok.ret ⟨⟨⟨by dsimp only; omega, by dsimp only; omega⟩, ⟨by simp, by simp, by simp⟩, ?_⟩, by dsimp only; omega⟩
        have := QSL.one (QS.mk (k := k) (w := ⟨x, y, z⟩) (v := ⟨a, b, c, w⟩) h1.1 h1.2.1 h1.2.2 h2)
        dsimp only
        exact ⟨by have := this.1; omega, this.2⟩
      · refine Ok.inr ?_
        exact j1 q5 (by omega) h1.1 h1.2.1 h1.2.2 ⟨by have := h2.1; omega, h2.2⟩
  · exact j1 q3 (by omega) hqs.field hqs.op hqs.words hk100
end Go.Beacon

/- Organisations as they are drawn. No program in sight. -/
set_option linter.unusedVariables false
set_option linter.unusedSimpArgs false
namespace Go.Beacon
open Go Go.Eng

theorem SB8.of {l : List Str} (h : l.length ≤ 100) (h2 : l.all (fun x => decide (x.length ≤ 100)) = true) : SB8 l := ⟨by omega, fun x hx => by
  have := List.all_eq_true.1 h2 x hx
  simp at this; omega⟩
theorem acts_k {s : Stm} {K : Int} (hs : SOk s K) (hK : 1 ≤ K) : Gen (Stream_acts s) (K - 1) SB8 := by
  refine Gen.of ?_
  unfold Stream_acts
  refine Ok.gen (Next_k hs (by omega) (by omega) (by omega)) (fun u s1 hu q1 => ?_)
  dsimp only
  refine Ok.idx hu.1 (by simpa using hu.2) (fun v _ hv => ?_)
  refine Ok.ret ⟨?_, q1⟩
  simp only [List.mem_cons, List.not_mem_nil, or_false] at hv
  rcases hv with rfl | rfl | rfl | rfl | rfl <;> exact SB8.of (by simp) rfl
def ShB (s : Share) : Prop := SB8 s.Acts ∧ QB s.Query
theorem RightOrg_l3 (v18 : Str) (n28 : Int) (h28 : 0 ≤ n28 ∧ n28 < 4) (v29 : Str) (L : List Int) (n : Int) (l : List Member) (m : Nat) (hl : l.length ≤ m) (hm : m ≤ 100) (K : Int) (hs : SOk ⟨L, n⟩ K) (hK : 3 ≤ K) :
    Ok (Stream_RightOrg_l3 v18 n28 v29 L n l 0) (fun r => ∃ L' n' l', r = .inl (L', n', l', n28 + 1) ∧ SOk ⟨L', n'⟩ (K - 3) ∧ l'.length ≤ m + 3) := by
  unfold Stream_RightOrg_l3
  refine Ok.iter (fun x : (List Int) × Int × (List Member) × Int => (3 - x.2.2.2).toNat) (fun x => (0 ≤ x.2.2.2 ∧ x.2.2.2 ≤ 3) ∧ SOk ⟨x.1, x.2.1⟩ (K - x.2.2.2) ∧ (x.2.2.1.length : Int) ≤ m + x.2.2.2) ?_ _ ⟨by simp, by simpa using hs, by simp; omega⟩
  rintro ⟨L, n, l, i⟩ ⟨h0, h1, h2⟩
  dsimp only at h0 h1 h2 ⊢
  have w1 : w64 (i + 1) = i + 1 := w64_in (by omega) (by omega)
  unfold Stream_RightOrg_b3
  split
  · rename_i hi
    have hi : i < 3 := by simpa using hi
    refine Ok.idx h0.1 (by simpa using hi) (fun nm _ hnm => ?_)
    refine Ok.gen (Flip_k h1 (by omega) (by omega) (by omega)) (fun c s1 _ q1 => ?_)
    dsimp only
    unfold Stream_RightOrg_j1
    rw [w1]
    split
    · refine Ok.app (by simp; omega) ?_
      exact Ok.ret ⟨⟨⟨by dsimp only; omega, by dsimp only; omega⟩, q1.less (by dsimp only; omega), by simp; omega⟩, by dsimp only; omega⟩
    · exact Ok.ret ⟨⟨⟨by dsimp only; omega, by dsimp only; omega⟩, q1.less (by dsimp only; omega), by dsimp only; omega⟩, by dsimp only; omega⟩
  · rename_i hi
    have hi : ¬ i < 3 := by simpa using hi
    rw [w64_in (by omega) (by omega)]
    exact Ok.inr (Ok.ret ⟨L, n, l, rfl, h1.less (by omega), by omega⟩)
theorem RightOrg_l2 (n16 : Int) (h16 : 0 ≤ n16 ∧ n16 < 2) (v18 : Str) (L : List Int) (n : Int) (l : List Member) (m : Nat) (hl : l.length ≤ m) (hm : m ≤ 50) (K : Int) (hs : SOk ⟨L, n⟩ K) (hK : 12 ≤ K) :
    Ok (Stream_RightOrg_l2 n16 v18 L n l 0) (fun r => ∃ L' n' l', r = .inl (L', n', l', n16 + 1) ∧ SOk ⟨L', n'⟩ (K - 12) ∧ l'.length ≤ m + 12) := by
  unfold Stream_RightOrg_l2
  refine Ok.iter (fun x : (List Int) × Int × (List Member) × Int => (4 - x.2.2.2).toNat) (fun x => (0 ≤ x.2.2.2 ∧ x.2.2.2 ≤ 4) ∧ SOk ⟨x.1, x.2.1⟩ (K - 3 * x.2.2.2) ∧ (x.2.2.1.length : Int) ≤ m + 3 * x.2.2.2) ?_ _ ⟨by simp, by simpa using hs, by simp; omega⟩
  rintro ⟨L, n, l, i⟩ ⟨h0, h1, h2⟩
  dsimp only at h0 h1 h2 ⊢
  unfold Stream_RightOrg_b2
  split
  · rename_i hi
    have hi : i < 4 := by simpa using hi
    refine Ok.idx h0.1 (by simpa using hi) (fun nm _ hnm => ?_)
    refine (RightOrg_l3 v18 i ⟨h0.1, hi⟩ nm L n l (m + 3 * i.toNat) (by omega) (by omega) (K - 3 * i) h1 (by omega)).mono (fun r hr => ?_)
    obtain ⟨L', n', l', rfl, g1, g2⟩ := hr
    exact ⟨⟨⟨by dsimp only; omega, by dsimp only; omega⟩, g1.less (by dsimp only; omega), by dsimp only; omega⟩, by dsimp only; omega⟩
  · rename_i hi
    have hi : ¬ i < 4 := by simpa using hi
    rw [w64_in (by omega) (by omega)]
    exact Ok.inr (Ok.ret ⟨L, n, l, rfl, h1.less (by omega), by omega⟩)
theorem RightOrg_l4 (v2 : Str × Stm) (v5 : (List Str) × Stm) (hv5 : SB8 v5.1) (ms : List Member) (hms : ms.length ≤ 100) (L : List Int) (n : Int) (K : Int) (hs : SOk ⟨L, n⟩ K) (hK : 90 ≤ K) :
    Ok (Stream_RightOrg_l4 v2 v5 ms L n [] 0) (fun r => (OrgB r.1 ∧ r.1.Tenants.length = 4 ∧ r.1.Roles.length = 3 ∧ r.1.Members.length ≤ 100 ∧ r.1.Shares.length ≤ 2) ∧ SOk r.2 (K - 90)) := by
  unfold Stream_RightOrg_l4
  refine Ok.iter (fun x : (List Int) × Int × (List Share) × Int => (2 - x.2.2.2).toNat) (fun x => (0 ≤ x.2.2.2 ∧ x.2.2.2 ≤ 2) ∧ SOk ⟨x.1, x.2.1⟩ (K - 45 * x.2.2.2) ∧ (x.2.2.1.length : Int) ≤ x.2.2.2 ∧ ∀ s ∈ x.2.2.1, ShB s) ?_ _ ⟨by simp, by simpa using hs, by simp, fun s h => by cases h⟩
  rintro ⟨L, n, l, i⟩ ⟨h0, h1, h2, h3⟩
  dsimp only at h0 h1 h2 h3 ⊢
  have w1 : w64 (i + 1) = i + 1 := w64_in (by omega) (by omega)
  unfold Stream_RightOrg_b4
  split
  · rename_i hi
    have hi : i < 2 := by simpa using hi
    refine Ok.idx h0.1 (by simpa using hi) (fun nm _ hnm => ?_)
    refine Ok.gen (Flip_k h1 (by omega) (by omega) (by omega)) (fun c s1 _ q1 => ?_)
    dsimp only
    split
    · refine Ok.gen (Pick_k q1 (by omega) (by simp) (by simp)) (fun fr s2 _ q2 => ?_)
      refine Ok.gen (Some_k q2 (by omega) (by simp) (by simp)) (fun a s3 _ q3 => ?_)
      refine Ok.gen (Pick_k q3 (by omega) (by simp) (by simp)) (fun d s4 hd q4 => ?_)
      have hd' := pick_le (lo := 0) (hi := 1) hd (by decide)
      obtain ⟨e, rfl⟩ : ∃ e : Nat, d = e := ⟨d.toNat, by omega⟩
      have hdr : drK e ≤ 33 := by
        have : e = 0 ∨ e = 1 := by omega
        rcases this with rfl | rfl <;> decide
      have hsz : szK e ≤ 13 := by
        have : e = 0 ∨ e = 1 := by omega
        rcases this with rfl | rfl <;> decide
      have hp := drK_pos e
      have hrq := RightQuery_k e depth (by unfold depth; omega) (by omega) s4 _ q4 (by omega)
      dsimp only
      refine Ok.gen (P := QS (szK e)) hrq (fun q s5 hq q5 => ?_)
      have hqb := (hq.mono hsz).b (by omega)
      refine Ok.gen (acts_k q5 (by omega)) (fun ac s6 hac q6 => ?_)
      refine Ok.gen (Pick_k q6 (by omega) (by simp) (by simp)) (fun f2 s7 _ q7 => ?_)
      refine Ok.gen (Flip_k q7 (by omega) (by omega) (by omega)) (fun c s8 _ q8 => ?_)
      dsimp only
      have j3 : ∀ a b, Ok (Stream_RightOrg_j3 l i nm (fr, s2) (q, s5) (ac, s6) (f2, s7) (c, s8) a b) (Stp (fun x : (List Int) × Int × (List Share) × Int => (2 - x.2.2.2).toNat) (fun x => (0 ≤ x.2.2.2 ∧ x.2.2.2 ≤ 2) ∧ SOk ⟨x.1, x.2.1⟩ (K - 45 * x.2.2.2) ∧ (x.2.2.1.length : Int) ≤ x.2.2.2 ∧ ∀ s ∈ x.2.2.1, ShB s) (fun r => (OrgB r.1 ∧ r.1.Tenants.length = 4 ∧ r.1.Roles.length = 3 ∧ r.1.Members.length ≤ 100 ∧ r.1.Shares.length ≤ 2) ∧ SOk r.2 (K - 90)) (L, n, l, i)) := by
        intro a b
        unfold Stream_RightOrg_j3 Stream_RightOrg_j2
        refine Ok.app (by simp; omega) ?_
        dsimp only
        rw [w1]
        refine Ok.ret ⟨⟨⟨by dsimp only; omega, by dsimp only; omega⟩, q8.less (by dsimp only; omega), by simp; omega, fun s hs => ?_⟩, by dsimp only; omega⟩
        rcases List.mem_append.1 hs with k | k
        · exact h3 s k
        · rw [List.mem_singleton.1 k]; exact ⟨hac, hqb⟩
      split
      · exact j3 _ _
      · exact j3 _ _
    · unfold Stream_RightOrg_j2
      rw [w1]
      exact Ok.ret ⟨⟨⟨by dsimp only; omega, by dsimp only; omega⟩, q1.less (by dsimp only; omega), by dsimp only; omega, h3⟩, by dsimp only; omega⟩
  · rename_i hi
    refine Ok.inr (Ok.ret ⟨⟨⟨by simp, by simp, by dsimp only; omega, by dsimp only; omega, fun r hr => ?_, h3⟩, rfl, rfl, hms, by dsimp only; omega⟩, h1.less (by omega)⟩)
    simp only [List.mem_cons, List.not_mem_nil, or_false] at hr
    rcases hr with rfl | rfl | rfl
    · exact SB8.of (by simp) rfl
    · exact hv5
    · exact SB8.of (by simp) rfl
theorem RightOrg_k {s : Stm} {K : Int} (hs : SOk s K) (hK : 116 ≤ K) : Gen (Stream_RightOrg s) (K - 116) (fun o => OrgB o ∧ o.Tenants.length = 4 ∧ o.Roles.length = 3 ∧ o.Members.length ≤ 100 ∧ o.Shares.length ≤ 2) := by
  refine Gen.of ?_
  unfold Stream_RightOrg
  refine Ok.gen (Some_k hs (by omega) (by simp) (by simp)) (fun v2 s1 _ q1 => ?_)
  refine Ok.gen (acts_k q1 (by omega)) (fun v5 s2 hv5 q2 => ?_)
  dsimp only
  unfold Stream_RightOrg_l1
  refine Ok.iter (fun x : (List Int) × Int × (List Member) × Int => (2 - x.2.2.2).toNat) (fun x => (0 ≤ x.2.2.2 ∧ x.2.2.2 ≤ 2) ∧ SOk ⟨x.1, x.2.1⟩ (K - 2 - 12 * x.2.2.2) ∧ (x.2.2.1.length : Int) ≤ 12 * x.2.2.2) ?_ _ ⟨by simp, q2.less (by simp; omega), by simp⟩
  rintro ⟨L, n, l, i⟩ ⟨h0, h1, h2⟩
  dsimp only at h0 h1 h2 ⊢
  unfold Stream_RightOrg_b1
  split
  · rename_i hi
    have hi : i < 2 := by simpa using hi
    refine Ok.idx h0.1 (by simpa using hi) (fun nm _ hnm => ?_)
    refine (RightOrg_l2 i ⟨h0.1, hi⟩ nm L n l (12 * i.toNat) (by omega) (by omega) (K - 2 - 12 * i) h1 (by omega)).mono (fun r hr => ?_)
    obtain ⟨L', n', l', rfl, g1, g2⟩ := hr
    exact ⟨⟨⟨by dsimp only; omega, by dsimp only; omega⟩, g1.less (by dsimp only; omega), by dsimp only; omega⟩, by dsimp only; omega⟩
  · exact Ok.inr ((RightOrg_l4 (v2, s1) (v5, s2) hv5 l (by omega) L n (K - 26) (h1.less (by omega)) (by omega)).mono (fun r hr => ⟨hr.1, hr.2.less (by omega)⟩))
theorem Org_k {s : Stm} {K : Int} (hs : SOk s K) (hK : 300 ≤ K) : Gen (Stream_Org s) (K - 300) OrgB := by
  refine Gen.of ?_
  unfold Stream_Org
  refine Ok.gen (RightOrg_k hs (by omega)) (fun o s1 ho q1 => ?_)
  obtain ⟨hB, hT, hR, hM, hS⟩ := ho
  refine Ok.gen (Flip_k q1 (by omega) (by omega) (by omega)) (fun c s2 _ q2 => ?_)
  have fin : ∀ {L : List Int} {n : Int} {T : List Tenant} {R : List Role} {M : List Member} {S : List Share} {K' : Int}, SOk ⟨L, n⟩ K' → K - 300 ≤ K' → T.length ≤ 10 → (R.length ≤ 10 ∧ ∀ r ∈ R, SB8 r.Acts) → M.length ≤ 200 → (S.length ≤ 10 ∧ ∀ s ∈ S, ShB s) → Ok (Stream_Org_j1 L n T R M S) (fun r => OrgB r.1 ∧ SOk r.2 (K - 300)) := by
    intro L n T R M S K' a1 a2 a3 a4 a5 a6
    exact Ok.ret ⟨⟨by dsimp only; omega, by dsimp only; omega, by dsimp only; omega, by dsimp only; omega, a4.2, a6.2⟩, a1.less a2⟩
  have hT' : o.Tenants.length ≤ 10 := by omega
  have hR' : o.Roles.length ≤ 10 ∧ ∀ r ∈ o.Roles, SB8 r.Acts := ⟨by omega, hB.act⟩
  have hM' : o.Members.length ≤ 200 := by omega
  have hS' : o.Shares.length ≤ 10 ∧ ∀ s ∈ o.Shares, ShB s := ⟨by omega, hB.shr⟩
  dsimp only
  split
  · refine Ok.gen (Next_k q2 (by omega) (by omega) (by omega)) (fun z s3 _ q3 => ?_)
    dsimp only
    split
    · refine Ok.gen (Next_k q3 (by omega) (by omega) (by omega)) (fun j s4 hj q4 => ?_)
      refine Ok.gen (Some_k q4 (by omega) (by simp) (by simp)) (fun a s5 _ q5 => ?_)
      dsimp only
      refine Ok.idx hj.1 (by omega) (fun t _ _ => ?_)
      exact fin q5 (by omega) (by simp; omega) hR' hM' hS'
    split
    · refine Ok.gen (Some_k q3 (by omega) (by simp) (by simp)) (fun a s4 _ q4 => ?_)
      refine Ok.gen (Some_k q4 (by omega) (by simp) (by simp)) (fun b s5 _ q5 => ?_)
      dsimp only
      refine Ok.app (by simp; omega) ?_
      exact fin q5 (by omega) (by simp; omega) hR' hM' hS'
    split
    · refine Ok.gen (Some_k q3 (by omega) (by simp) (by simp)) (fun a s4 _ q4 => ?_)
      refine Ok.gen (Next_k q4 (by omega) (by omega) (by omega)) (fun u s5 hu q5 => ?_)
      dsimp only
      refine Ok.idx hu.1 (by simpa using hu.2) (fun ac _ hac => ?_)
      refine Ok.app (by simp; omega) ?_
      refine fin q5 (by omega) hT' ⟨by simp; omega, fun r hr => ?_⟩ hM' hS'
      rcases List.mem_append.1 hr with k | k
      · exact hB.act r k
      · rw [List.mem_singleton.1 k]
        simp only [List.mem_cons, List.not_mem_nil, or_false] at hac
        rcases hac with rfl | rfl | rfl | rfl | rfl | rfl <;> exact SB8.of (by simp) rfl
    split
    · refine Ok.gen (Some_k q3 (by omega) (by simp) (by simp)) (fun a s4 _ q4 => ?_)
      refine Ok.gen (Some_k q4 (by omega) (by simp) (by simp)) (fun b s5 _ q5 => ?_)
      refine Ok.gen (Some_k q5 (by omega) (by simp) (by simp)) (fun c s6 _ q6 => ?_)
      dsimp only
      refine Ok.app (by simp; omega) ?_
      exact fin q6 (by omega) hT' hR' (by simp; omega) hS'
    split
    · refine Ok.gen (Some_k q3 (by omega) (by simp) (by simp)) (fun a s4 _ q4 => ?_)
      refine Ok.gen (Some_k q4 (by omega) (by simp) (by simp)) (fun b s5 _ q5 => ?_)
      refine Ok.gen (Some_k q5 (by omega) (by simp) (by simp)) (fun c s6 _ q6 => ?_)
      refine Ok.gen (Query_k q6 (by omega)) (fun q s7 hq q7 => ?_)
      refine Ok.gen (acts_k q7 (by omega)) (fun ac s8 hac q8 => ?_)
      dsimp only
      have hsp : Gen (Stream_Span s8) (K - 116 - 1 - 1 - 1 - 1 - 1 - 150 - 1 - 5) (fun _ => True) := by
        refine Gen.of ?_
        unfold Stream_Span
        refine Ok.gen (Pick_k q8 (by omega) (by simp) (by simp)) (fun f1 t1 _ p1 => ?_)
        refine Ok.gen (Pick_k p1 (by omega) (by simp) (by simp)) (fun f2 t2 _ p2 => ?_)
        refine Ok.gen (Flip_k p2 (by omega) (by omega) (by omega)) (fun f3 t3 _ p3 => ?_)
        dsimp only
        split
        · refine Ok.gen (Pick_k p3 (by omega) (by simp) (by simp)) (fun f4 t4 _ p4 => ?_)
          refine Ok.gen (Pick_k p4 (by omega) (by simp) (by simp)) (fun f5 t5 _ p5 => ?_)
          exact Ok.ret ⟨trivial, p5.less (by omega)⟩
        · exact Ok.ret ⟨trivial, p3.less (by omega)⟩
      refine Ok.gen hsp (fun w s9 _ q9 => ?_)
      refine Ok.app (by simp; omega) ?_
      refine fin q9 (by omega) hT' hR' hM' ⟨by simp; omega, fun s hs => ?_⟩
      rcases List.mem_append.1 hs with k | k
      · exact hB.shr s k
      · rw [List.mem_singleton.1 k]; exact ⟨hac, hq⟩
    split
    · rename_i hpos
      refine Ok.gen (Next_k q3 (by omega) (by omega) (by omega)) (fun u s4 hu q4 => ?_)
      dsimp only
      refine Ok.idx hu.1 (by simpa using hu.2) (fun ac _ hac => ?_)
      refine Ok.idx (by omega) hpos (fun x hx hxm => ?_)
      refine fin q4 (by omega) hT' hR' hM' ⟨by simp; omega, fun s hs => ?_⟩
      rcases List.mem_or_eq_of_mem_set hs with k | rfl
      · exact hB.shr s k
      · refine ⟨?_, (hB.shr x hxm).2⟩
        simp only [List.mem_cons, List.not_mem_nil, or_false] at hac
        rcases hac with rfl | rfl | rfl <;> exact SB8.of (by simp) rfl
    · exact fin q3 (by omega) hT' hR' hM' hS'
  · exact fin q2 (by omega) hT' hR' hM' hS'
end Go.Beacon

/- The law: organisations are as they should. No program in sight. -/
set_option linter.unusedVariables false
set_option linter.unusedSimpArgs false
namespace Go.Beacon
open Go Go.Eng

/-! two lists in one -/
theorem mkS_nil {n : Int} (h0 : 0 ≤ n) (h1 : n ≤ 100000) (z : Str) : mkS z n n = some (List.replicate n.toNat z) := by
  unfold mkS
  rw [if_pos (by omega)]
theorem Grow_eq (n : Int) (h0 : 0 ≤ n) (h1 : n ≤ 100000) : slices_Grow_string_string_n0x n = some [] := by
  unfold slices_Grow_string_string_n0x slices_Grow_string_string_n0x_j1
  have e : w64 (n - w64 ((0 : Int) - 0)) = n := by
    rw [show w64 ((0 : Int) - 0) = 0 by decide, w64_in (by omega) (by omega)]; omega
  rw [if_neg (by omega), e]
  by_cases c : 0 < n
  · rw [if_pos c, mkS_nil h0 h1, show slc ([] : List Str) (0 : Int) (0 : Int) = some [] from rfl]
    simp only [Option.bind_some]
    rw [slc_in (by omega) (by omega) (by omega)]
    simp
  · rw [if_neg c]
theorem Concat2 (a b : List Str) (h : a.length + b.length ≤ 1000) : slices_Concat_string_string [a, b] = some (a ++ b) := by
  unfold slices_Concat_string_string slices_Concat_string_string_l1
  have s1 : ∀ n m : Int, 0 ≤ n → n ≤ 1000 → (m = 0 ∨ m = 1) → slices_Concat_string_string_b1 [a, b] n m = some (.inl (n + (if m = 0 then a.length else b.length), m + 1)) := by
    intro n m h0 h1 hm
    unfold slices_Concat_string_string_b1
    rcases hm with rfl | rfl
    · rw [if_pos (by simp), show idx [a, b] 0 = some a from rfl]
      simp only [Option.bind_some]
      rw [w64_in (by omega) (by omega), if_neg (by omega), w64_in (by omega) (by omega)]; rfl
    · rw [if_pos (by simp), show idx [a, b] 1 = some b from rfl]
      simp only [Option.bind_some]
      rw [w64_in (by omega) (by omega), if_neg (by omega), w64_in (by omega) (by omega)]; rfl
  rw [iter_eq]
  dsimp only
  rw [s1 0 0 (by omega) (by omega) (.inl rfl)]
  simp only [Option.bind_some, after_inl]
  rw [iter_eq]
  dsimp only
  rw [s1 _ _ (by simp) (by simp; omega) (.inr (by omega))]
  simp only [Option.bind_some, after_inl]
  rw [iter_eq]
  dsimp only
  unfold slices_Concat_string_string_b1
  rw [if_neg (by simp), map_inr_after]
  unfold slices_Concat_string_string_k1
  rw [Grow_eq _ (by simp; omega) (by simp; omega)]
  simp only [Option.bind_some]
  have b2a : slices_Concat_string_string_b2 [a, b] [] 0 = some (.inl (a, 1)) := by
    unfold slices_Concat_string_string_b2
    rw [if_pos (by simp), show idx [a, b] 0 = some a from rfl]
    simp only [Option.bind_some]
    rw [app_le (by simp; omega)]; rfl
  have b2b : slices_Concat_string_string_b2 [a, b] a 1 = some (.inl (a ++ b, 2)) := by
    unfold slices_Concat_string_string_b2
    rw [if_pos (by simp), show idx [a, b] 1 = some b from rfl]
    simp only [Option.bind_some]
    rw [app_le (by omega)]; rfl
  have b2c : slices_Concat_string_string_b2 [a, b] (a ++ b) 2 = some (.inr (a ++ b)) := by
    unfold slices_Concat_string_string_b2
    rw [if_neg (by simp)]; rfl
  unfold slices_Concat_string_string_l2
  rw [iter_eq]
  dsimp only
  rw [b2a]
  simp only [Option.bind_some, after_inl]
  rw [iter_eq]
  dsimp only
  rw [b2b]
  simp only [Option.bind_some, after_inl]
  rw [iter_eq]
  dsimp only
  rw [b2c]
  rfl
/-! which acts cover which -/
theorem Covers_eq (a b : List Str) (ha : SB8 a) (hb : SB8 b) (hl : a.length ≤ 10 ∧ b.length ≤ 10) : ∃ e, tenant_Covers a b = some (if e = 0 then (coversB a b, 0) else (false, e)) ∧ Q_CoversFault a b = some e := by
  have hx : ∀ x ∈ a ++ b, x.length ≤ 1000000 := fun x hx => by
    rcases List.mem_append.1 hx with k | k
    · exact ha.2 x k
    · exact hb.2 x k
  have hll : (a ++ b).length ≤ 20 := by simp; omega
  have hf : Q_CoversFault a b = some (if (a ++ b).any (fun s => !actB s) = true then 5 else 0) := by
    unfold Q_CoversFault
    rw [Concat2 a b (by omega)]
    simp only [Option.bind_some]
    unfold Q_CoversFault_l1
    rw [iter_find (a ++ b) (fun x : Int => Q_CoversFault_b1 a b (a ++ b) x) (fun s => if (!actB s) = true then some 5 else none) 0 (by omega), findE_anyI]
    · intro i x h0 h1 hi
      unfold Q_CoversFault_b1
      rw [if_pos h1, hi]
      simp only [Option.bind_some]
      rw [ActRight_eq x (by have := hx x (idx_mem hi); omega)]
      simp only [Option.bind_some]
      cases actB x with
      | true => rw [if_neg (by simp), w64_in (by omega) (by omega)]; rfl
      | false => rfl
    · unfold Q_CoversFault_b1 Q_CoversFault_j1
      rw [if_neg (by omega), if_neg (by simp; omega)]; rfl
  refine ⟨_, ?_, hf⟩
  unfold tenant_Covers
  rw [Concat2 a b (by omega)]
  simp only [Option.bind_some]
  rw [show slices_ContainsFunc_string_string (a ++ b) (fun y0 => tenant_Covers_1x y0) = some ((a ++ b).any (fun s => !actB s)) from gContainsFunc_eq _ _ _ (fun x hm => by
    show tenant_Covers_1x x = _
    unfold tenant_Covers_1x
    rw [isAct_eq x (by have := hx x hm; omega)]; rfl) (by omega)]
  simp only [Option.bind_some]
  cases (a ++ b).any (fun s => !actB s) with
  | true => rfl
  | false =>
    rw [if_neg (by simp)]
    unfold tenant_Covers_j1
    rw [if_neg (by simp; omega), allCovered_eq a b ha hb]; rfl
theorem tenanted_eq : L_tenanted = some true := by
  unfold L_tenanted L_tenanted_j1
  obtain ⟨e, h1, h2⟩ := Covers_eq [[97, 46, 42]] [[97, 46, 98]] (SB8.of (by simp) rfl) (SB8.of (by simp) rfl) (by simp)
  have he : e = 0 := by
    unfold Q_CoversFault at h2
    rw [Concat2 _ _ (by simp)] at h2
    simp only [Option.bind_some] at h2
    unfold Q_CoversFault_l1 at h2
    rw [iter_find ([[97, 46, 42]] ++ [[97, 46, 98]]) (fun x : Int => Q_CoversFault_b1 [[97, 46, 42]] [[97, 46, 98]] ([[97, 46, 42]] ++ [[97, 46, 98]]) x) (fun s => if (!actB s) = true then some 5 else none) 0 (by simp)] at h2
    · have : findE (fun s => if (!actB s) = true then some (5 : Int) else none) 0 ([[97, 46, 42]] ++ [[97, 46, 98]]) = 0 := by decide
      rw [this] at h2
      exact (Option.some.inj h2).symm
    · intro i x h0 h1 hi
      have hm := idx_mem hi
      unfold Q_CoversFault_b1
      rw [if_pos h1, hi]
      simp only [Option.bind_some]
      rw [ActRight_eq x (by simp at hm; rcases hm with rfl | rfl <;> simp)]
      simp only [Option.bind_some]
      simp at h1
      cases actB x with
      | true => rw [if_neg (by simp), w64_in (by omega) (by omega)]; rfl
      | false => rfl
    · rfl
  rw [h1, he]
  simp only [Option.bind_some, if_true]
  decide
theorem EqI_eq (a b : List Int) (h : a.length ≤ 100000) : slices_Equal_int_int a b = some (decide (a = b)) := gEqual_eq a b (by omega)
theorem EqS_eq (a b : List Str) (h : a.length ≤ 100000) : slices_Equal_string_string a b = some (decide (a = b)) := gEqual_eq a b (by omega)
theorem act_k {s : Stm} {K : Int} (hs : SOk s K) (hK : 1 ≤ K) : Gen (L_OrgsChecked_1x s) (K - 1) (fun x => x.length ≤ 1000000) := by
  refine Gen.of ?_
  unfold L_OrgsChecked_1x
  refine Ok.gen (Some_k hs (by omega) (by simp) (by simp)) (fun t s1 h q => Ok.ret ⟨by have := str_in h (by decide); dsimp only; omega, q⟩)
theorem OrgsChecked_plain (L : List Int) : L_OrgsChecked L = some true := by
  have key : Ok (L_OrgsChecked L) (fun r => r = true) := by
    unfold L_OrgsChecked
    refine Ok.gen (Org_k (s := ⟨L, 0⟩) (K := 1000) ⟨by simp, by simp⟩ (by omega)) (fun o s1 ho q1 => ?_)
    refine Ok.gen (Some_k q1 (by omega) (by simp) (by simp)) (fun k s2 hk q2 => ?_)
    refine Ok.gen (act_k q2 (by omega)) (fun x1 s3 hx1 q3 => ?_)
    refine Ok.gen (act_k q3 (by omega)) (fun x2 s4 hx2 q4 => ?_)
    refine Ok.gen (Next_k q4 (by omega) (by omega) (by omega)) (fun n1 s5 hn1 q5 => ?_)
    dsimp only
    refine Ok.slc (by omega) hn1.1 (by simp; omega) (fun l9 hl9 _ => ?_)
    refine Ok.gen (act_k q5 (by omega)) (fun y1 s6 hy1 q6 => ?_)
    refine Ok.gen (act_k q6 (by omega)) (fun y2 s7 hy2 q7 => ?_)
    refine Ok.gen (Next_k q7 (by omega) (by omega) (by omega)) (fun n2 s8 hn2 q8 => ?_)
    dsimp only
    refine Ok.slc (by omega) hn2.1 (by simp; omega) (fun l13 hl13 _ => ?_)
    have sb : ∀ {x y : Str} {n : Nat} {l : List Str}, x.length ≤ 1000000 → y.length ≤ 1000000 → l = (([x, y] : List Str).drop (0 : Int).toNat).take n → SB8 l ∧ l.length ≤ 10 := by
      intro x y n l h1 h2 h3
      subst h3
      refine ⟨⟨by simp; omega, fun z hz => ?_⟩, by simp; omega⟩
      have := List.mem_of_mem_take hz
      simp at this
      rcases this with rfl | rfl <;> omega
    obtain ⟨b9, c9⟩ := sb hx1 hx2 hl9
    obtain ⟨b13, c13⟩ := sb hy1 hy2 hl13
    obtain ⟨e, he1, he2⟩ := Covers_eq l9 l13 b9 b13 ⟨c9, c13⟩
    rw [he1, he2]
    simp only [Option.bind_some]
    -- what the organisation tells
    obtain ⟨r, hr1, hr2⟩ := checked_eq o ho
    have hCk : tenant_CheckOrg o = some r := by
      unfold tenant_CheckOrg
      rcases hr2 with ⟨_, h2⟩ | ⟨h1, _, v, h2, _⟩
      · rw [h2]; rfl
      · rw [h2, h1]; rfl
    have fin : Ok (L_OrgsChecked_j1 (o, s1) (k, s2) false) (fun r => r = true) := by
      unfold L_OrgsChecked_j1
      rw [if_neg (by simp)]
      dsimp only
      rw [hr1, hCk]
      simp only [Option.bind_some]
      rw [if_neg (fun c => c rfl)]
      rcases hr2 with ⟨hne, hc⟩ | ⟨hz, hR, v, hc, hv⟩
      · have e1 : tenant_Spare o = some ([], r) := by
          unfold tenant_Spare; rw [hc]; simp only [Option.bind_some, casesO]; rw [if_pos hne]
        have e2 : tenant_Path o k = some ([], r) := by
          unfold tenant_Path; rw [hc]; simp only [Option.bind_some, casesO]; rw [if_pos hne]
        have e3 : tenant_Below o k = some ([], r) := by
          unfold tenant_Below; rw [hc]; simp only [Option.bind_some, casesO]; rw [if_pos hne]
        rw [e1]
        simp only [Option.bind_some]
        rw [if_neg (fun c => c rfl), if_neg hne]
        unfold L_OrgsChecked_j2
        rw [if_neg (by simp)]
        dsimp only
        rw [e2, e3]
        simp only [Option.bind_some]
        rw [if_neg hne]
        unfold L_OrgsChecked_j3 L_OrgsChecked_j4
        dsimp only
        rw [if_pos rfl, if_pos rfl, if_pos hne, tenanted_eq]
        exact ⟨true, rfl, rfl⟩
      · subst hz
        rw [Spare_eq ho hR hv hc, SpareOf_eq ho hR]
        simp only [Option.bind_some]
        have hsl := spA_len ho hR hv o.Members 0
        have hml := ho.mem
        rw [if_neg (fun c => c rfl), if_pos trivial, EqI_eq _ _ (by omega)]
        simp only [Option.bind_some, decide_true]
        unfold L_OrgsChecked_j2
        rw [if_neg (by simp)]
        dsimp only
        rw [Path_eq ho hR hc hv, Below_eq ho hR hc hv, (PathTo_eq ho hR k).2]
        simp only [Option.bind_some]
        rw [if_pos trivial]
        cases hu : up o.Tenants k with
        | none =>
          simp only [Option.isSome_none, Bool.false_eq_true, if_false]
          show Ok (L_OrgsChecked_j3 (o, s1) (k, s2) ([], 8) ([], 8) (L_when true 8)) _
          unfold L_OrgsChecked_j3 L_OrgsChecked_j4 L_when
          dsimp only
          rw [if_pos rfl, if_pos rfl, if_pos rfl, if_pos (by omega), tenanted_eq]
          exact ⟨true, rfl, rfl⟩
        | some p =>
          simp only [Option.isSome_some, if_true]
          have hne : wk o k ≠ [] := by unfold wk; rw [walk_some hu]; simp
          show Ok ((neNil (wk o k)).bind fun _ => L_OrgsChecked_j3 (o, s1) (k, s2) (wk o k, 0) (belowL o k, 0) (L_when false 8)) _
          rw [neNil_ok hne]
          simp only [Option.bind_some]
          rw [show L_when false 8 = 0 from rfl]
          unfold L_OrgsChecked_j3 L_OrgsChecked_j4
          dsimp only
          rw [if_pos rfl, if_pos rfl, if_neg (fun c => c rfl), (PathTo_eq ho hR k).1, hu, BelowOf_eq ho hR]
          have hbl : (belowL o k).length ≤ 1000 := by
            unfold belowL
            rw [List.length_map]
            exact Nat.le_trans (List.length_filter_le _ _) ho.ten
          simp only [Option.bind_some, Option.isSome_some, if_true]
          rw [EqS_eq _ _ (by have := wk_len2 ho hR k; omega), EqS_eq _ _ (by omega), tenanted_eq]
          exact ⟨true, by simp, rfl⟩
    rw [if_neg (by split <;> simp_all)]
    by_cases z : e = 0
    · rw [if_pos z, CoversAll_eq l9 l13 b9 b13]
      simp only [Option.bind_some]
      rw [if_pos z]
      simpa using fin
    · rw [if_neg z, if_neg z]
      simpa using fin
  obtain ⟨r, h1, rfl⟩ := key
  exact h1
end Go.Beacon

