/- Plain facts on what the functions compute. No program in sight. -/
import Derived.Test.YtohnopfmfehhkaaGreatDoorQueP
import Derived.Test.YtohnopfmfehhkaaGreatDoorPlBA
import Derived.Lib.MapLaws
import Derived.Lib.ValidLaws
import Derived.Lib.TrimUEq
/- Plain facts of the streams that make inputs: each ends, and what it hands out is within bounds. No program in sight. -/
set_option linter.unusedVariables false
set_option linter.unusedSimpArgs false
namespace Go.Beacon
open Go Go.Eng

abbrev Stm := Fleetmake_Stream
/-- At least k more numbers can be drawn. -/
def SOk (s : Stm) (k : Int) : Prop := 0 ≤ s.at_ ∧ s.at_ + k ≤ 4611686018427387904
theorem SOk.less {s : Stm} {k k' : Int} (h : SOk s k) (hk : k' ≤ k) : SOk s k' := ⟨h.1, by have := h.2; omega⟩
def Gen {α : Type} (m : Option (α × Stm)) (k : Int) (P : α → Prop) : Prop := ∃ v s', m = some (v, s') ∧ P v ∧ SOk s' k
theorem Gen.bind {α β : Type} {m : Option (α × Stm)} {k k' : Int} {P : α → Prop} {Q : β → Prop} {f : α × Stm → Option (β × Stm)} (h : Gen m k P) (hf : ∀ v s', P v → SOk s' k → Gen (f (v, s')) k' Q) : Gen (m.bind f) k' Q := by
  obtain ⟨v, s', rfl, h1, h2⟩ := h
  exact hf v s' h1 h2
theorem Gen.ret {α : Type} {v : α} {s : Stm} {k : Int} {P : α → Prop} (h1 : P v) (h2 : SOk s k) : Gen (some (v, s)) k P := ⟨v, s, rfl, h1, h2⟩
theorem Gen.mono {α : Type} {m : Option (α × Stm)} {k k' : Int} {P Q : α → Prop} (h : Gen m k P) (hk : k' ≤ k) (hp : ∀ v, P v → Q v) : Gen m k' Q := by
  obtain ⟨v, s', e, h1, h2⟩ := h
  exact ⟨v, s', e, hp v h1, h2.less hk⟩

theorem Below_ok (x : Int) {n : Int} (h1 : 1 ≤ n) (h2 : n ≤ 4611686018427387904) : ∃ v, Below x n = some v ∧ 0 ≤ v ∧ v < n := by
  unfold Below Below_j1
  rw [if_neg (by omega), rem_ne (by omega)]
  have a1 := Int.lt_tmod_of_pos x (show 0 < n by omega)
  have a2 := Int.tmod_lt_of_pos x (show 0 < n by omega)
  simp only [Option.bind_some]
  split
  · exact ⟨_, rfl, by rw [w64_in] <;> omega, by rw [w64_in] <;> omega⟩
  · exact ⟨_, rfl, by omega, by omega⟩

theorem Next_ok {s : Stm} {n k : Int} (hs : SOk s (k + 1)) (h1 : 1 ≤ n) (h2 : n ≤ 4611686018427387904) (hk : 0 ≤ k) : Gen (Stream_Next s n) k (fun v => 0 ≤ v ∧ v < n) := by
  obtain ⟨a1, a2⟩ := hs
  have e1 : w64 (s.at_ + 1) = s.at_ + 1 := by rw [w64_in] <;> omega
  have e2 : w64 (s.at_ + 1 - 1) = s.at_ := by rw [w64_in] <;> omega
  unfold Stream_Next
  split
  · obtain ⟨v, hv, h3, h4⟩ := Below_ok (w64 (w64 (s.at_ + 1) * 7919)) h1 h2
    rw [hv]
    exact Gen.ret ⟨h3, h4⟩ ⟨by show 0 ≤ w64 (s.at_ + 1); omega, by show w64 (s.at_ + 1) + k ≤ _; omega⟩
  · rename_i hl
    have hl' : (0 : Int) < s.L.length := by omega
    rw [e1, e2, rem_pos hl' a1, quo_ne (by omega)]
    simp only [Option.bind_some]
    obtain ⟨x, hx, _, _⟩ := idx_lt s.L (i := s.at_ % s.L.length) (Int.emod_nonneg _ (by omega)) (Int.emod_lt_of_pos _ hl')
    rw [hx]
    simp only [Option.bind_some]
    obtain ⟨u, hu, _, _⟩ := Below_ok x (n := 1073741824) (by omega) (by omega)
    rw [hu]
    simp only [Option.bind_some]
    obtain ⟨v, hv, h3, h4⟩ := Below_ok (w64 (u + w64 (w64 (s.at_.tdiv s.L.length) * w64 (7919 + s.at_ % s.L.length)))) h1 h2
    rw [hv]
    exact Gen.ret ⟨h3, h4⟩ ⟨by simp only; omega, by simp only; omega⟩

theorem Pick_ok {s : Stm} {l : List Int} {k : Int} (hs : SOk s (k + 1)) (h1 : l ≠ []) (h2 : l.length ≤ 1000) (hk : 0 ≤ k) : Gen (Stream_Pick s l) k (fun v => v ∈ l) := by
  unfold Stream_Pick
  have hl : 0 < l.length := List.length_pos_iff.2 h1
  refine Gen.bind (Next_ok hs (by omega) (by omega) hk) (fun v s' hv hs' => ?_)
  obtain ⟨x, hx, hm, _⟩ := idx_lt l hv.1 hv.2
  simp only [hx, Option.bind_some]
  exact Gen.ret hm hs'
theorem Range_ok {s : Stm} {a b k : Int} (hs : SOk s (k + 1)) (hab : a ≤ b) (ha : -1152921504606846976 ≤ a) (hb : b ≤ 1152921504606846976) (hk : 0 ≤ k) : Gen (Stream_Range s a b) k (fun v => a ≤ v ∧ v ≤ b) := by
  unfold Stream_Range
  have e1 : w64 (b - a) = b - a := by rw [w64_in] <;> omega
  have e2 : w64 (b - a + 1) = b - a + 1 := by rw [w64_in] <;> omega
  rw [if_neg (by omega), e1, e2]
  refine Gen.bind (Next_ok hs (by omega) (by omega) hk) (fun v s' hv hs' => ?_)
  refine Gen.ret ?_ hs'
  simp only
  rw [w64_in] <;> omega
theorem Flip_ok {s : Stm} {n k : Int} (hs : SOk s (k + 1)) (h1 : 1 ≤ n) (h2 : n ≤ 4611686018427387904) (hk : 0 ≤ k) : Gen (Stream_Flip s n) k (fun _ => True) := by
  unfold Stream_Flip
  exact Gen.bind (Next_ok hs h1 h2 hk) (fun v s' hv hs' => Gen.ret trivial hs')
theorem pick_le {l : List Int} {v lo hi : Int} (h : v ∈ l) (hl : l.all (fun x => decide (lo ≤ x ∧ x ≤ hi)) = true) : lo ≤ v ∧ v ≤ hi := by
  rw [List.all_eq_true] at hl
  simpa using hl v h
theorem Some_ok {s : Stm} {l : List Str} {k : Int} (hs : SOk s (k + 1)) (h1 : l ≠ []) (h2 : l.length ≤ 1000) (hk : 0 ≤ k) : Gen (Stream_Some s l) k (fun v => v ∈ l) := by
  unfold Stream_Some
  have hl : 0 < l.length := List.length_pos_iff.2 h1
  refine Gen.bind (Next_ok hs (by omega) (by omega) hk) (fun v s' hv hs' => ?_)
  obtain ⟨x, hx, hm, _⟩ := idx_lt l hv.1 hv.2
  simp only [hx, Option.bind_some]
  exact Gen.ret hm hs'
theorem Odd_ok {s : Stm} {a b k : Int} (hs : SOk s (k + 2)) (hab : a ≤ b) (ha : -1099511627776 ≤ a) (hb : b ≤ 1099511627776) (hk : 0 ≤ k) : Gen (Stream_Odd s a b) k (fun v => -1099511627777 ≤ v ∧ v ≤ 1099511627777) := by
  unfold Stream_Odd
  refine Gen.bind (Flip_ok (k := k + 1) (hs.less (by omega)) (by omega) (by omega) (by omega)) (fun v s' hv hs' => ?_)
  simp only
  split
  · refine Gen.bind (Pick_ok hs' (by simp) (by simp) hk) (fun v s' hv hs' => Gen.ret ?_ hs')
    have e1 : w64 (a - 1) = a - 1 := by rw [w64_in] <;> omega
    have e2 : w64 (b + 1) = b + 1 := by rw [w64_in] <;> omega
    rw [e1, e2] at hv
    simp only [List.mem_cons, List.not_mem_nil, or_false] at hv
    simp only; omega
  · refine Gen.bind (Range_ok hs' hab (by omega) (by omega) hk) (fun v s' hv hs' => Gen.ret ?_ hs')
    simp only; omega
end Go.Beacon

/- Plain facts of keys: the program's check and the reference's. No program in sight. -/
set_option linter.unusedVariables false
set_option linter.unusedSimpArgs false
namespace Go.Beacon
open Go Go.Eng

theorem Out_eq (n lo hi : Int) : base_Out n lo hi = (decide (n < lo) || decide (hi < n)) := rfl
theorem Qin_eq (n lo hi : Int) : Q_in n lo hi = (decide (lo ≤ n) && decide (n ≤ hi)) := rfl
/-! keys -/
def okN (n : Nat) : Bool := (decide (97 ≤ n) && decide (n ≤ 122)) || (decide (48 ≤ n) && decide (n ≤ 57)) || decide (n = 45) || decide (n = 95)
def keyB : Str → Bool
  | [] => false
  | c :: r => decide ((c :: r).length ≤ 40) && (decide (97 ≤ c.toNat) && decide (c.toNat ≤ 122)) && (c :: r).all (fun c => okN c.toNat)
theorem keyB_cons (c : UInt8) (r : Str) : keyB (c :: r) = (decide ((c :: r).length ≤ 40) && (decide (97 ≤ c.toNat) && decide (c.toNat ≤ 122)) && (c :: r).all (fun c => okN c.toNat)) := rfl
theorem Key_loop (s : Str) (hl : s.length ≤ 40) : base_Key_l1 s 0 = some (s.all (fun c => okN c.toNat)) := by
  unfold base_Key_l1
  rw [iter_find s (fun x : Int => base_Key_b1 s x) (fun c => if okN c.toNat = true then none else some false) true (by omega), findE_bool]
  · intro i c h0 h1 hc
    have hB : (if (97 : Int) ≤ (c.toNat : Int) then if (c.toNat : Int) ≤ (122 : Int) then !true else if (48 : Int) ≤ (c.toNat : Int) then if (c.toNat : Int) ≤ (57 : Int) then !true else if (c.toNat : Int) = (45 : Int) then !true else decide (¬ ((c.toNat : Int) = (95 : Int))) else if (c.toNat : Int) = (45 : Int) then !true else decide (¬ ((c.toNat : Int) = (95 : Int))) else if (48 : Int) ≤ (c.toNat : Int) then if (c.toNat : Int) ≤ (57 : Int) then !true else if (c.toNat : Int) = (45 : Int) then !true else decide (¬ ((c.toNat : Int) = (95 : Int))) else if (c.toNat : Int) = (45 : Int) then !true else decide (¬ ((c.toNat : Int) = (95 : Int)))) = !okN c.toNat := by
      unfold okN
      rw [Bool.eq_iff_iff]
      repeat' split
      all_goals simp
      all_goals omega
    rw [base_Key_b1, if_pos h1, hc]
    simp only [Option.bind_some]
    rw [hB]
    unfold base_Key_j2
    rw [w64_in (by omega) (by omega)]
    cases okN c.toNat <;> rfl
  · rw [base_Key_b1, if_neg (by omega)]; rfl
theorem Key_eq (s : Str) : base_Key s = some (keyB s) := by
  unfold base_Key base_Key_j1
  cases s with
  | nil => simp [keyB]
  | cons c r =>
    rw [if_neg (by simp)]
    have hc : idx (c :: r) 0 = some c := rfl
    rw [hc]
    simp only [Option.bind_some]
    by_cases hl : (c :: r).length ≤ 40
    · rw [if_neg (by omega), Key_loop _ hl, keyB_cons]
      by_cases h1 : (c.toNat : Int) < 97
      · rw [if_pos h1]
        have : decide (97 ≤ c.toNat) = false := by simp; omega
        rw [this]; simp
      · rw [if_neg h1]
        have e1 : decide (97 ≤ c.toNat) = true := by simp; omega
        by_cases h2 : (122 : Int) < c.toNat
        · rw [if_pos (by simpa using h2)]
          have : decide (c.toNat ≤ 122) = false := by simp; omega
          rw [this]; simp
        · rw [if_neg (by simpa using h2)]
          have : decide (c.toNat ≤ 122) = true := by simp; omega
          rw [e1, this, decide_eq_true hl]; simp
    · rw [if_pos (by omega), keyB_cons, decide_eq_false hl]; simp
theorem chars_fin : ∀ n : Fin 256, decide (UInt8.ofNat n.val ∈ ([97, 98, 99, 100, 101, 102, 103, 104, 105, 106, 107, 108, 109, 110, 111, 112, 113, 114, 115, 116, 117, 118, 119, 120, 121, 122, 48, 49, 50, 51, 52, 53, 54, 55, 56, 57, 45, 95] : List UInt8)) = okN n.val := by decide +kernel
theorem low_fin : ∀ n : Fin 256, decide (UInt8.ofNat n.val ∈ ([97, 98, 99, 100, 101, 102, 103, 104, 105, 106, 107, 108, 109, 110, 111, 112, 113, 114, 115, 116, 117, 118, 119, 120, 121, 122] : List UInt8)) = (decide (97 ≤ n.val) && decide (n.val ≤ 122)) := by decide +kernel
theorem u8_fin {p : UInt8 → Bool} {q : Nat → Bool} (h : ∀ n : Fin 256, p (UInt8.ofNat n.val) = q n.val) (c : UInt8) : p c = q c.toNat := by
  have := h ⟨c.toNat, c.toNat_lt⟩
  simpa using this
theorem CompareI_eq (a b : Int) : cmp_Compare_int a b = cmpI a b := by
  unfold cmp_Compare_int cmp_isNaN_int cmpI; simp
end Go.Beacon

/- Plain facts: loops by a measure, products within bounds, quotients rounded down. No program in sight. -/
set_option linter.unusedVariables false
set_option linter.unusedSimpArgs false
namespace Go.Beacon
open Go Go.Eng

/-- A loop whose rounds keep something and make a number smaller ends; what its last round tells holds. -/
theorem iter_inv {S A : Type} (f : S → Option (S ⊕ A)) (m : S → Nat) (Inv : S → Prop) (R : A → Prop)
    (h : ∀ s, Inv s → (∃ s', f s = some (.inl s') ∧ Inv s' ∧ m s' < m s) ∨ (∃ a, f s = some (.inr a) ∧ R a)) : ∀ s, Inv s → ∃ a, iter f s = some a ∧ R a := by
  have key : ∀ (n : Nat) s, m s ≤ n → Inv s → ∃ a, iter f s = some a ∧ R a := by
    intro n
    induction n with
    | zero =>
      intro s hm hi
      rcases h s hi with ⟨s', _, _, h3⟩ | ⟨a, h1, h2⟩
      · omega
      · exact ⟨a, by rw [iter_eq, h1]; rfl, h2⟩
    | succ n ih =>
      intro s hm hi
      rcases h s hi with ⟨s', h1, h2, h3⟩ | ⟨a, h1, h2⟩
      · obtain ⟨a, h4, h5⟩ := ih s' (by omega) h2
        exact ⟨a, by rw [iter_eq, h1]; simpa using h4, h5⟩
      · exact ⟨a, by rw [iter_eq, h1]; rfl, h2⟩
  exact fun s hi => key (m s) s (Nat.le_refl _) hi
theorem orL2 (x y : Int) : orL [x, y] = if x ≠ 0 then x else y := by
  by_cases h1 : x = 0 <;> by_cases h2 : y = 0 <;> simp [orL, h1, h2]
end Go.Beacon

/- Strings cut at one byte. No program in sight. -/
set_option linter.unusedVariables false
set_option linter.unusedSimpArgs false
namespace Go.Beacon
open Go Go.Eng

/-- A string cut at each byte c. -/
def splitC (c : UInt8) : Str → List Str
  | [] => [[]]
  | b :: r => if b = c then [] :: splitC c r else match splitC c r with
    | [] => [[b]]
    | h :: t => (b :: h) :: t
theorem splitC_ne (c : UInt8) : ∀ s, splitC c s ≠ []
  | [] => by simp [splitC]
  | b :: r => by
    unfold splitC
    split
    · simp
    · split <;> simp
theorem splitC_length (c : UInt8) : ∀ s, (splitC c s).length ≤ s.length + 1
  | [] => by simp [splitC]
  | b :: r => by
    have ih := splitC_length c r
    unfold splitC
    split
    · simp; omega
    · split
      · simp
      · rename_i h t e; rw [e] at ih; simp at ih ⊢; omega
theorem split_C (c : UInt8) : ∀ s, Lib.split s [c] = splitC c s
  | [] => rfl
  | b :: r => by
    have ih := split_C c r
    unfold Lib.split at ih ⊢
    unfold splitC
    by_cases hb : b = c
    · subst hb
      have hix : Lib.index (b :: r) [b] = 0 := by rw [Lib.index]; simp [List.isPrefixOf]
      rw [if_pos rfl, Lib.count_cons_eq, Nat.add_comm, Lib.splitK, hix, ← ih]
      simp
    · rw [if_neg hb, Lib.count_cons_ne b c r hb, ← ih]
      have hp : ([c] : List UInt8).isPrefixOf (b :: r) = false := by simp [List.isPrefixOf, Ne.symm hb]
      have hix : Lib.index (b :: r) [c] = if Lib.index r [c] == -1 then -1 else Lib.index r [c] + 1 := by rw [Lib.index, hp]; simp
      by_cases hm : Lib.index r [c] = -1
      · rw [Lib.count_miss hm]; rfl
      · have hge := Lib.index_ge r [c]
        obtain ⟨j, hj⟩ : ∃ j : Nat, Lib.index r [c] = j := ⟨(Lib.index r [c]).toNat, by omega⟩
        have hix' : Lib.index (b :: r) [c] = ((j + 1 : Nat) : Int) := by rw [hix, if_neg (fun e => hm (beq_iff_eq.1 e)), hj]; omega
        rw [Lib.count_hit (by simp) hj, Nat.add_comm]
        have n1 : ¬ ((((j + 1 : Nat) : Int) == -1) = true) := fun h => by have := beq_iff_eq.1 h; omega
        have n2 : ¬ ((((j : Nat) : Int) == -1) = true) := fun h => by have := beq_iff_eq.1 h; omega
        simp only [Lib.splitK, hix', hj, if_neg n1, if_neg n2]
        simp [List.take_succ_cons]
/-- strings.Split at one byte. -/
theorem splitO_eq {s : Str} {c : UInt8} (h : s.length ≤ 1000000000) : splitO s [c] = some (splitC c s) := by
  unfold splitO
  rw [if_pos ⟨by omega, by simp⟩]
  congr 1
  have h1 := Lib.splitB_data ⟨#[c]⟩ 0 (Lib.countB ⟨s.toArray⟩ ⟨#[c]⟩) ⟨s.toArray⟩
  rw [← split_C]
  exact h1
end Go.Beacon

/- Names: keys with points between. No program in sight. -/
set_option linter.unusedVariables false
set_option linter.unusedSimpArgs false
namespace Go.Beacon
open Go Go.Eng

/-- A string cut at the first byte c. -/
def cut1 (c : UInt8) : Str → Str × Str × Bool
  | [] => ([], [], false)
  | b :: r => if b = c then ([], r, true) else (b :: (cut1 c r).1, (cut1 c r).2.1, (cut1 c r).2.2)
theorem cut1_miss (c : UInt8) : ∀ s, (cut1 c s).2.2 = false → (cut1 c s).1 = s ∧ (cut1 c s).2.1 = []
  | [] => fun _ => ⟨rfl, rfl⟩
  | b :: r => by
    have ih := cut1_miss c r
    unfold cut1
    split
    · intro h; cases h
    · intro h; have := ih h; simp [this]
theorem cut_C (c : UInt8) : ∀ s, Lib.cut s [c] = cut1 c s
  | [] => rfl
  | b :: r => by
    have ih := cut_C c r
    unfold Lib.cut at ih ⊢
    unfold cut1
    by_cases hb : b = c
    · subst hb
      have hix : Lib.index (b :: r) [b] = 0 := by rw [Lib.index]; simp [List.isPrefixOf]
      rw [if_pos rfl, hix]; simp
    · rw [if_neg hb, ← ih]
      have hp : ([c] : List UInt8).isPrefixOf (b :: r) = false := by simp [List.isPrefixOf, Ne.symm hb]
      have hix : Lib.index (b :: r) [c] = if Lib.index r [c] == -1 then -1 else Lib.index r [c] + 1 := by rw [Lib.index, hp]; simp
      by_cases hm : Lib.index r [c] = -1
      · rw [hix, hm]; simp
      · have hge := Lib.index_ge r [c]
        have hn : ¬ ((Lib.index r [c] == -1) = true) := fun e => hm (beq_iff_eq.1 e)
        obtain ⟨j, hj⟩ : ∃ j : Nat, Lib.index r [c] = j := ⟨(Lib.index r [c]).toNat, by omega⟩
        have hix' : Lib.index (b :: r) [c] = ((j + 1 : Nat) : Int) := by rw [hix, if_neg hn, hj]; omega
        rw [hix', hj, if_pos (by omega), if_pos (by omega)]
        simp
theorem cutO_eq {s : Str} {c : UInt8} (h : s.length ≤ 1000000000) : cutO s [c] = some (cut1 c s) := by
  unfold cutO
  rw [if_pos (by omega), cut_C]
theorem split_cut (c : UInt8) : ∀ s, splitC c s = if (cut1 c s).2.2 = true then (cut1 c s).1 :: splitC c (cut1 c s).2.1 else [s]
  | [] => rfl
  | b :: r => by
    have ih := split_cut c r
    have e1 : splitC c (b :: r) = (if b = c then [] :: splitC c r else match splitC c r with
      | [] => [[b]]
      | h :: t => (b :: h) :: t) := rfl
    rw [e1]
    unfold cut1
    by_cases hb : b = c
    · rw [if_pos hb, if_pos hb]; rfl
    · rw [if_neg hb, if_neg hb, ih]
      by_cases hc : (cut1 c r).2.2 = true
      · simp [hc]
      · simp [hc]
theorem cut1_len (c : UInt8) : ∀ s, (cut1 c s).1.length ≤ s.length ∧ (cut1 c s).2.1.length ≤ s.length
  | [] => ⟨Nat.le_refl _, Nat.le_refl _⟩
  | b :: r => by
    have ih := cut1_len c r
    unfold cut1
    split
    · simp
    · simp; omega
/-- A name: at most k keys with points between. -/
def dotB (k : Nat) (s : Str) : Bool := decide ((splitC 46 s).length ≤ k) && (splitC 46 s).all keyB
theorem Dotted_loop (most : Nat) (hm : most ≤ 1000) : ∀ (k : Nat) (s : Str) (n : Int), 0 ≤ n → n + k = most → s.length ≤ 1000000000 → base_Dotted_l1 most s n = some (dotB k s)
  | 0, s, n, h0, hn, hs => by
    have hne := splitC_ne 46 s
    have hp : 0 < (splitC 46 s).length := List.length_pos_iff.2 hne
    unfold base_Dotted_l1
    rw [iter_eq]
    show (match base_Dotted_b1 most s n with | _ => _) = _
    rw [base_Dotted_b1, if_neg (by omega)]
    simp only [Option.map_some, Option.bind_some]
    unfold dotB
    rw [decide_eq_false (by omega)]; rfl
  | k + 1, s, n, h0, hn, hs => by
    have ih := Dotted_loop most hm k (cut1 46 s).2.1 (n + 1) (by omega) (by omega) (by have := (cut1_len 46 s).2; omega)
    unfold base_Dotted_l1 at ih ⊢
    rw [iter_eq]
    show (match base_Dotted_b1 most s n with | _ => _) = _
    rw [base_Dotted_b1, if_pos (by omega), cutO_eq hs]
    simp only [Option.bind_some, Key_eq]
    unfold dotB
    rw [split_cut 46 s]
    by_cases hk : keyB (cut1 46 s).1 = true
    · by_cases hc : (cut1 46 s).2.2 = true
      · simp only [hk, hc, Bool.not_true, Bool.false_eq_true, if_false, if_true]
        rw [w64_in (by omega) (by omega)]
        refine ih.trans ?_
        unfold dotB
        simp [hk]
      · have hs' := cut1_miss 46 s (by simpa using hc)
        rw [hs'.1] at hk
        simp [hk, hc, hs'.1]
    · by_cases hc : (cut1 46 s).2.2 = true
      · simp [hk, hc]
      · have hs' := cut1_miss 46 s (by simpa using hc)
        rw [hs'.1] at hk
        simp [hk, hc, hs'.1]
end Go.Beacon

/- Strings without marks; letters: the checks of the program and of the reference. No program in sight. -/
set_option linter.unusedVariables false
set_option linter.unusedSimpArgs false
namespace Go.Beacon
open Go Go.Eng

def badC (c : UInt8) : Bool := decide (c.toNat < 32) || decide (c.toNat = 127)
def unmB (s : Str) : Bool := !s.any badC && Lib.validD s
theorem Unmarked_eq (s : Str) (hl : s.length ≤ 1000000) : base_Unmarked s = some (unmB s) := by
  unfold base_Unmarked base_Unmarked_l1
  have h := iter_find s (fun x : Int => base_Unmarked_b1 s x) (fun c => if badC c = true then some false else none) (Lib.validD s) (by omega) (fun i c h0 h1 h2 => by
    show base_Unmarked_b1 s i = _
    unfold base_Unmarked_b1 base_Unmarked_j1 badC
    rw [if_pos h1, h2]
    simp only [Option.bind_some]
    rw [w64_in (by omega) (by omega)]
    by_cases q1 : c.toNat < 32
    · rw [if_pos (by omega)]; simp [q1]
    · rw [if_neg (by omega)]
      by_cases q2 : c.toNat = 127
      · simp [q2]
      · have : ¬ ((c.toNat : Int) = 127) := by omega
        simp [q1, q2, this]) (by
    show base_Unmarked_b1 s s.length = _
    unfold base_Unmarked_b1 base_Unmarked_k2 validO
    rw [if_neg (by omega), if_pos (by omega)]; rfl)
  rw [h]
  unfold unmB
  congr 1
  induction s with
  | nil => simp [findE]
  | cons c r ih => exact find_any c r _
where
  find_any (c : UInt8) (r : Str) (e : Bool) : findE (fun c => if badC c = true then some false else none) e (c :: r) = (!(c :: r).any badC && e) := by
    have key : ∀ (l : Str), findE (fun c => if badC c = true then some false else none) e l = (!l.any badC && e) := by
      intro l
      induction l with
      | nil => simp [findE]
      | cons x t ih =>
        simp only [findE, List.any_cons]
        cases hx : badC x with
        | true => simp
        | false => simp [ih]
    exact key _
/-! letters -/
end Go.Beacon

/- Trimming. No program in sight. -/
set_option linter.unusedVariables false
set_option linter.unusedSimpArgs false
namespace Go.Beacon
open Go Go.Eng

theorem dropW_nil {α : Type} (p : α → Bool) : ∀ l : List α, l.dropWhile p = [] ↔ l.all p = true
  | [] => by simp
  | x :: r => by
    rw [List.dropWhile_cons]
    cases h : p x with
    | true => simp only [if_true, List.all_cons, h, Bool.true_and]; exact dropW_nil p r
    | false => simp [h]
theorem trimS_nil (l cs : Str) : Lib.trimS l cs = [] ↔ l.all (fun c => decide (c ∈ cs)) = true := by
  have hc : ∀ c : UInt8, cs.contains c = decide (c ∈ cs) := fun c => by rw [Bool.eq_iff_iff]; simp
  unfold Lib.trimS Lib.trimLeftS Lib.trimRightS
  rw [dropW_nil, List.all_reverse]
  constructor
  · intro h
    have hd : (l.reverse.dropWhile (cs.contains ·)) = [] := by
      cases hh : l.reverse.dropWhile (cs.contains ·) with
      | nil => rfl
      | cons a b =>
        have h1 := List.head?_dropWhile_not (fun c => cs.contains c) l.reverse
        rw [hh] at h h1
        simp only [List.head?_cons] at h1
        simp only [List.all_cons, Bool.and_eq_true] at h
        rw [h.1] at h1; simp at h1
    rw [dropW_nil, List.all_reverse] at hd
    simpa [hc] using hd
  · intro h
    have hd : l.reverse.dropWhile (cs.contains ·) = [] := by
      rw [dropW_nil, List.all_reverse]; simpa [hc] using h
    rw [hd]; rfl
theorem trimO_eq {s cs : Str} (h1 : s.length ≤ 100000) (h2 : cs.length ≤ 100000) (h3 : cs.all (fun b => decide (b.toNat < 128)) = true) : trimO s cs = some (Lib.trimS s cs) := by
  unfold trimO; rw [if_pos ⟨by omega, by omega, h3⟩]
end Go.Beacon

/- Keys as the first reference tells them: by trimming. No program in sight. -/
set_option linter.unusedVariables false
set_option linter.unusedSimpArgs false
namespace Go.Beacon
open Go Go.Eng

theorem QKeyT_eq (s : Str) : Q_Key s = some (keyB s) := by
  unfold Q_Key Q_Key_j1
  rw [Qin_eq]
  cases s with
  | nil => rfl
  | cons c r =>
    by_cases hl : (c :: r).length ≤ 40
    · rw [if_pos (by simp; simp at hl; omega), trimO_eq (by omega) (by simp) (by decide)]
      simp only [Option.bind_some]
      have e : (c :: r).all (fun c => decide (c ∈ ([97, 98, 99, 100, 101, 102, 103, 104, 105, 106, 107, 108, 109, 110, 111, 112, 113, 114, 115, 116, 117, 118, 119, 120, 121, 122, 48, 49, 50, 51, 52, 53, 54, 55, 56, 57, 45, 95] : List UInt8))) = (c :: r).all (fun c => okN c.toNat) := by
        congr 1; funext c
        exact u8_fin (p := fun c => decide (c ∈ ([97, 98, 99, 100, 101, 102, 103, 104, 105, 106, 107, 108, 109, 110, 111, 112, 113, 114, 115, 116, 117, 118, 119, 120, 121, 122, 48, 49, 50, 51, 52, 53, 54, 55, 56, 57, 45, 95] : List UInt8))) chars_fin c
      have e2 := u8_fin (p := fun c => decide (c ∈ ([97, 98, 99, 100, 101, 102, 103, 104, 105, 106, 107, 108, 109, 110, 111, 112, 113, 114, 115, 116, 117, 118, 119, 120, 121, 122] : List UInt8))) (q := fun n => decide (97 ≤ n) && decide (n ≤ 122)) low_fin c
      rw [keyB_cons, decide_eq_true hl, Bool.true_and, ← e, ← e2]
      by_cases ht : Lib.trimS (c :: r) ([97, 98, 99, 100, 101, 102, 103, 104, 105, 106, 107, 108, 109, 110, 111, 112, 113, 114, 115, 116, 117, 118, 119, 120, 121, 122, 48, 49, 50, 51, 52, 53, 54, 55, 56, 57, 45, 95] : Str) = []
      · rw [if_pos ht, (trimS_nil _ _).1 ht, Bool.and_true]
        have i0 : idx (c :: r) 0 = some c := rfl
        rw [i0]
        simp only [Option.bind_some, indexByteI, toU8]
        congr 1
        have := indexByte_nonneg ([97, 98, 99, 100, 101, 102, 103, 104, 105, 106, 107, 108, 109, 110, 111, 112, 113, 114, 115, 116, 117, 118, 119, 120, 121, 122] : List UInt8) c
        rw [decide_eq_decide]
        constructor
        · intro h; exact Classical.byContradiction fun h' => by have := this.2 h'; omega
        · intro h; have h' := mt this.1 (fun h' => h' h); omega
      · rw [if_neg ht]
        have : (c :: r).all (fun c => decide (c ∈ ([97, 98, 99, 100, 101, 102, 103, 104, 105, 106, 107, 108, 109, 110, 111, 112, 113, 114, 115, 116, 117, 118, 119, 120, 121, 122, 48, 49, 50, 51, 52, 53, 54, 55, 56, 57, 45, 95] : List UInt8))) = false := by
          rw [← Bool.not_eq_true]; exact fun h => ht ((trimS_nil _ _).2 h)
        rw [this, Bool.and_false]
    · rw [if_neg (by simp; simp at hl; omega), keyB_cons, decide_eq_false hl]; rfl
end Go.Beacon

/- Parts of queries and items: both checks tell the same. No program in sight. -/
set_option linter.unusedVariables false
set_option linter.unusedSimpArgs false
namespace Go.Beacon
open Go Go.Eng

/-! a string that begins with another one -/
def preB (s p : Str) : Bool := decide (s.take p.length = p)
theorem preB_len {s p : Str} (h : preB s p = true) : p.length ≤ s.length := by
  have h : s.take p.length = p := of_decide_eq_true h
  have := congrArg List.length h
  simp at this; omega
theorem slHasPrefix_eq (s p : Str) (h : s.length ≤ 1000000000) : internal_stringslite_HasPrefix s p = some (preB s p) := by
  unfold internal_stringslite_HasPrefix internal_stringslite_HasPrefix_j1
  by_cases c : p.length ≤ s.length
  · rw [if_pos (by omega), slc_in (by omega) (by omega) (by omega)]
    simp only [Option.bind_some]
    unfold preB
    simp
  · rw [if_neg (by omega)]
    cases hp : preB s p with
    | false => rfl
    | true => exact absurd (preB_len hp) c
theorem CutPrefix_eq (s p : Str) (h : s.length ≤ 1000000000) : strings_CutPrefix s p = some (if preB s p = true then (s.drop p.length, true) else (s, false)) := by
  unfold strings_CutPrefix internal_stringslite_CutPrefix
  rw [slHasPrefix_eq s p h]
  simp only [Option.bind_some]
  cases hp : preB s p with
  | false => simp
  | true =>
    have := preB_len hp
    rw [if_neg (by simp), slc_in (by omega) (by omega) (by omega)]
    simp only [Option.bind_some, if_true]
    congr 2
    rw [List.take_of_length_le (by simp)]; simp
theorem HasPrefixQ_eq (s p : Str) (h : s.length ≤ 1000000000) : strings_HasPrefix s p = some (preB s p) := by
  unfold strings_HasPrefix
  rw [slHasPrefix_eq s p h]; rfl

/-! fields -/
abbrev sTag : Str := [116, 97, 103, 46]
abbrev sProp : Str := [112, 114, 111, 112, 46]
abbrev sFirm : Str := [102, 105, 114, 109, 119, 97, 114, 101]
def propB (s : Str) : Bool := decide (s.length ≤ 40) && dotB 5 s
theorem Property_eq {s : Str} (h : s.length ≤ 1000000000) : item_Property s = some (propB s) := by
  unfold item_Property item_Property_j1 propB
  by_cases c : s.length ≤ 40
  · rw [if_pos (by omega)]
    unfold base_Dotted
    rw [show (5 : Int) = ((5 : Nat) : Int) from rfl, Dotted_loop 5 (by omega) 5 s 0 (by omega) (by omega) h]
    simp [c]
  · rw [if_neg (by omega)]; simp [c]
theorem PropName_eq {s : Str} (h : s.length ≤ 1000000000) : Q_PropName s = some (propB s) := by
  unfold Q_PropName Q_PropName_j1 propB dotB
  rw [splitO_eq h]
  simp only [Option.bind_some]
  have hl := splitC_length 46 s
  by_cases c : s.length ≤ 40
  · rw [if_pos (by omega)]
    by_cases d : (splitC 46 s).length ≤ 5
    · rw [if_pos (by omega)]
      have hc : slices_ContainsFunc_string_string (splitC 46 s) (fun y0 => Q_PropName_1x y0) = some ((splitC 46 s).any (fun x => !keyB x)) :=
        gContainsFunc_eq _ _ _ (fun x _ => by unfold Q_PropName_1x; rw [QKeyT_eq]; rfl) (by omega)
      rw [hc]
      simp only [Option.bind_some, Option.some.injEq]
      simp [c, d, List.all_eq_not_any_not]
    · rw [if_neg (by omega)]; simp [d]
  · rw [if_neg (by omega)]; simp [c]
def tagF (s : Str) : Bool := preB s sTag && keyB (s.drop 4)
def propF (s : Str) : Bool := preB s sProp && propB (s.drop 5)
theorem isTag_eq {s : Str} (h : s.length ≤ 1000000000) : item_isTag s = some (tagF s) := by
  unfold item_isTag item_isTag_j1 tagF
  rw [CutPrefix_eq s _ h]
  simp only [Option.bind_some]
  cases hp : preB s sTag with
  | false => simp
  | true =>
    rw [if_pos rfl, if_pos rfl, Key_eq]
    simp
theorem isProp_eq {s : Str} (h : s.length ≤ 1000000000) : item_isProp s = some (propF s) := by
  unfold item_isProp item_isProp_j1 propF
  rw [CutPrefix_eq s _ h]
  simp only [Option.bind_some]
  cases hp : preB s sProp with
  | false => simp
  | true =>
    rw [if_pos rfl, if_pos rfl, Property_eq (by simp; omega)]
    simp
def plainF (s : Str) : Bool := decide (s = [107, 101, 121]) || (decide (s = [109, 111, 100, 101, 108]) || (decide (s = [116, 101, 110, 97, 110, 116]) || decide (s = sFirm)))
theorem Field_eq {s : Str} (h : s.length ≤ 1000000000) : item_Field s = some (plainF s || (tagF s || propF s)) := by
  unfold item_Field item_Field_j1 plainF
  by_cases c1 : s = [107, 101, 121]
  · rw [if_pos c1]; simp [c1]
  by_cases c2 : s = [109, 111, 100, 101, 108]
  · rw [if_neg c1, if_pos c2]; simp [c2]
  by_cases c3 : s = [116, 101, 110, 97, 110, 116]
  · rw [if_neg c1, if_neg c2, if_pos c3]; simp [c3]
  by_cases c4 : s = sFirm
  · rw [if_neg c1, if_neg c2, if_neg c3, if_pos c4]; simp [c4]
  rw [if_neg c1, if_neg c2, if_neg c3, if_neg c4, isTag_eq h]
  simp only [Option.bind_some]
  cases ht : tagF s with
  | true => simp
  | false =>
    rw [if_neg (by simp), isProp_eq h]
    simp [c1, c2, c3, c4]
theorem ContSq (L : List Str) (m : Str) (hl : L.length ≤ 10000000) : slices_Contains_string_string L m = some (decide (m ∈ L)) := by
  unfold slices_Contains_string_string slices_Index_string_string
  have key : ∀ (k : Nat) (n : Int), 0 ≤ n → n + k = L.length → ∃ j, slices_Index_string_string_l1 L m n = some j ∧ (0 ≤ j ↔ m ∈ L.drop n.toNat) := by
    intro k
    induction k with
    | zero =>
      intro n h0 hn
      refine ⟨-1, ?_, ?_⟩
      · unfold slices_Index_string_string_l1
        rw [iter_eq, slices_Index_string_string_b1, if_neg (by omega), map_inr_after]
      · rw [List.drop_of_length_le (by omega)]; simp
    | succ k ih =>
      intro n h0 hn
      obtain ⟨s, hs, _, hd⟩ := idx_lt L h0 (by omega)
      unfold slices_Index_string_string_l1
      rw [iter_eq, slices_Index_string_string_b1, if_pos (by omega), hs]
      simp only [Option.bind_some]
      by_cases e : m = s
      · rw [if_pos e, map_inr_after]
        exact ⟨n, rfl, by rw [hd, ← e]; simp; omega⟩
      · rw [if_neg e, w64_in (by omega) (by omega)]
        simp only [Option.bind_some, after_inl]
        obtain ⟨j, h1, h2⟩ := ih (n + 1) (by omega) (by omega)
        exact ⟨j, h1, by rw [h2, hd]; simp [e]⟩
  obtain ⟨j, h1, h2⟩ := key L.length 0 (by omega) (by omega)
  rw [h1]
  simp only [Option.bind_some, Option.some.injEq]
  rw [decide_eq_decide, h2]; simp
theorem FieldRight_eq {s : Str} (h : s.length ≤ 1000000000) (has : Bool) : Q_FieldRight s has = some (tagF s || (propF s || (!has && plainF s))) := by
  have j2 : ∀ c, Q_FieldRight_j2 s has c = some (c || (!has && plainF s)) := by
    intro c
    unfold Q_FieldRight_j2 Q_FieldRight_j3
    cases c with
    | true => simp
    | false =>
      rw [if_neg (by simp)]
      cases has with
      | true => simp
      | false =>
        rw [if_pos (by simp), ContSq _ _ (by simp)]
        simp only [Option.bind_some, Option.some.injEq]
        unfold plainF
        simp
  have j1 : ∀ c, Q_FieldRight_j1 s has c = some (c || (propF s || (!has && plainF s))) := by
    intro c
    unfold Q_FieldRight_j1
    cases c with
    | true => simp
    | false =>
      rw [if_neg (by simp), CutPrefix_eq s _ h]
      simp only [Option.bind_some]
      unfold propF
      cases hp : preB s sProp with
      | false => rw [if_neg (by simp), j2]; simp
      | true =>
        rw [if_pos rfl, if_pos rfl, PropName_eq (by simp; omega)]
        simp only [Option.bind_some]
        rw [j2]; simp
  unfold Q_FieldRight
  rw [CutPrefix_eq s _ h]
  simp only [Option.bind_some]
  unfold tagF
  cases hp : preB s sTag with
  | false => rw [if_neg (by simp), j1]; simp
  | true =>
    rw [if_pos rfl, if_pos rfl, QKeyT_eq]
    simp only [Option.bind_some]
    rw [j1]; simp

/-! values -/
def rightB (v : ValueS) : Bool := (decide (0 ≤ v.Kind) && decide (v.Kind ≤ 3)) && ((decide (v.Kind = 1) || !v.Flag) && ((decide (v.Kind = 2) || decide (v.Number = 0)) && (decide (v.Kind = 3) || decide (v.Words = []))) && ((decide (-1000000000 ≤ v.Number) && decide (v.Number ≤ 1000000000)) && (decide (v.Words.length ≤ 100) && Lib.validD v.Words)))
theorem Right_j1 (v : ValueS) (hw : v.Words.length ≤ 1000000) (c : Bool) (n : Int) (q : Str) : item_Right_j1 v c n q = some ((decide (v.Flag = c) && (decide (v.Number = n) && decide (v.Words = q))) && ((decide (-1000000000 ≤ v.Number) && decide (v.Number ≤ 1000000000)) && (decide (v.Words.length ≤ 100) && Lib.validD v.Words))) := by
  obtain ⟨k, f, m, w⟩ := v
  unfold item_Right_j1 item_Right_j4 validO base_Out base_Out_j1
  simp only [ValueS.mk.injEq, true_and]
  by_cases h1 : f = c ∧ m = n ∧ w = q
  · rw [if_pos h1]
    obtain ⟨rfl, rfl, rfl⟩ := h1
    by_cases h2 : -1000000000 ≤ m ∧ m ≤ 1000000000
    · rw [if_pos (by simp; omega)]
      by_cases h3 : w.length ≤ 100
      · rw [if_pos (by omega), if_pos (by simp only at hw; omega)]
        simp [h2, h3]
      · rw [if_neg (by omega)]; simp [h3]
    · rw [if_neg (by simp; omega)]
      rw [eq_comm]; simp; omega
  · rw [if_neg h1]
    rw [eq_comm]; simp
    intro a b c'
    exact absurd ⟨a, b, c'⟩ h1
theorem Right_eq (v : ValueS) (hw : v.Words.length ≤ 1000000) : item_Right v = some (rightB v) := by
  unfold item_Right item_Right_j3 item_Right_j2
  simp only [Right_j1 v hw]
  unfold rightB
  by_cases k0 : v.Kind = 0
  · rw [if_pos k0]; simp [k0]
  by_cases k1 : v.Kind = 1
  · rw [if_neg k0, if_pos k1]; simp [k1]
  by_cases k2 : v.Kind = 2
  · rw [if_neg k0, if_neg k1, if_pos k2]; simp [k2]
  by_cases k3 : v.Kind = 3
  · rw [if_neg k0, if_neg k1, if_neg k2, if_pos k3]; simp [k3]
  rw [if_neg k0, if_neg k1, if_neg k2, if_neg k3]
  rw [eq_comm]; simp; omega
theorem RightValue_eq (v : ValueS) (hw : v.Words.length ≤ 1000000) : Q_RightValue v = some (rightB v) := by
  unfold Q_RightValue Q_RightValue_l1
  have h := iter_find [v.Flag, decide (v.Number ≠ (0 : Int)), decide (v.Words ≠ ([] : Str))] (fun x : Int => Q_RightValue_b1 v x) (fun _ => none) false (by simp)
  clear h
  have k3 : Q_RightValue_k3 v = some ((decide (0 ≤ v.Kind) && decide (v.Kind ≤ 3)) && ((decide (-1000000000 ≤ v.Number) && decide (v.Number ≤ 1000000000)) && (Lib.validD v.Words && decide (v.Words.length ≤ 100)))) := by
    unfold Q_RightValue_k3 Q_RightValue_j2 validO Q_in Q_in_j1
    by_cases h1 : 0 ≤ v.Kind ∧ v.Kind ≤ 3
    · rw [if_pos (by simp; omega)]
      by_cases h2 : -1000000000 ≤ v.Number ∧ v.Number ≤ 1000000000
      · rw [if_pos (by simp; omega), if_pos (by omega)]
        have e : decide ((v.Words.length : Int) ≤ 100) = decide (v.Words.length ≤ 100) := by rw [decide_eq_decide]; omega
        simp [h1, h2, e]
      · rw [if_neg (by simp; omega)]
        rw [eq_comm]; simp; omega
    · rw [if_neg (by simp; omega)]
      rw [eq_comm]; simp; omega
  have w1 : w64 ((0 : Int) + 1) = 1 := w64_in (by omega) (by omega)
  have w2 : w64 ((1 : Int) + 1) = 2 := w64_in (by omega) (by omega)
  have w3 : w64 ((2 : Int) + 1) = 3 := w64_in (by omega) (by omega)
  have i0 : idx [v.Flag, decide (v.Number ≠ (0 : Int)), decide (v.Words ≠ ([] : Str))] 0 = some v.Flag := rfl
  have i1 : idx [v.Flag, decide (v.Number ≠ (0 : Int)), decide (v.Words ≠ ([] : Str))] 1 = some (decide (v.Number ≠ (0 : Int))) := rfl
  have i2 : idx [v.Flag, decide (v.Number ≠ (0 : Int)), decide (v.Words ≠ ([] : Str))] 2 = some (decide (v.Words ≠ ([] : Str))) := rfl
  have b3 : Q_RightValue_b1 v 3 = Option.map .inr (Q_RightValue_k3 v) := by unfold Q_RightValue_b1; rw [if_neg (by simp)]
  have b2 : Q_RightValue_b1 v 2 = if (decide (v.Words ≠ ([] : Str)) && decide (v.Kind ≠ 3)) = true then some (.inr false) else some (.inl 3) := by
    unfold Q_RightValue_b1 Q_RightValue_j1; rw [if_pos (by simp), i2, w3]; rfl
  have b1 : Q_RightValue_b1 v 1 = if (decide (v.Number ≠ (0 : Int)) && decide (v.Kind ≠ 2)) = true then some (.inr false) else some (.inl 2) := by
    unfold Q_RightValue_b1 Q_RightValue_j1; rw [if_pos (by simp), i1, w2]; rfl
  have b0 : Q_RightValue_b1 v 0 = if (v.Flag && decide (v.Kind ≠ 1)) = true then some (.inr false) else some (.inl 1) := by
    unfold Q_RightValue_b1 Q_RightValue_j1; rw [if_pos (by simp), i0, w1]; rfl
  have e3 : iter (fun x : Int => Q_RightValue_b1 v x) 3 = Q_RightValue_k3 v := by rw [iter_eq, b3, map_inr_after]
  have e2 : iter (fun x : Int => Q_RightValue_b1 v x) 2 = if (decide (v.Words ≠ ([] : Str)) && decide (v.Kind ≠ 3)) = true then some false else Q_RightValue_k3 v := by
    rw [iter_eq, b2]; split
    · rfl
    · simp only [Option.bind_some, after_inl]; exact e3
  have e1 : iter (fun x : Int => Q_RightValue_b1 v x) 1 = if (decide (v.Number ≠ (0 : Int)) && decide (v.Kind ≠ 2)) = true then some false else iter (fun x : Int => Q_RightValue_b1 v x) 2 := by
    rw [iter_eq, b1]; split
    · rfl
    · simp only [Option.bind_some, after_inl]
  have e0 : iter (fun x : Int => Q_RightValue_b1 v x) 0 = if (v.Flag && decide (v.Kind ≠ 1)) = true then some false else iter (fun x : Int => Q_RightValue_b1 v x) 1 := by
    rw [iter_eq, b0]; split
    · rfl
    · simp only [Option.bind_some, after_inl]
  rw [e0, e1, e2, k3]
  unfold rightB
  by_cases c0 : (v.Flag && decide (v.Kind ≠ 1)) = true
  · rw [if_pos c0]; rw [eq_comm]; simp at c0 ⊢; intro _ _ h; exact absurd (h.resolve_left c0.2) (by simp [c0.1])
  rw [if_neg c0]
  by_cases c1 : (decide (v.Number ≠ (0 : Int)) && decide (v.Kind ≠ 2)) = true
  · rw [if_pos c1]; rw [eq_comm]; simp at c1 ⊢; intro _ _ _ h; exact absurd (h.resolve_left c1.2) c1.1
  rw [if_neg c1]
  by_cases c2 : (decide (v.Words ≠ ([] : Str)) && decide (v.Kind ≠ 3)) = true
  · rw [if_pos c2]; rw [eq_comm]; simp at c2 ⊢; intro _ _ _ _ h; exact absurd (h.resolve_left c2.2) c2.1
  rw [if_neg c2]
  congr 1
  have d0 : (decide (v.Kind = 1) || !v.Flag) = true := by simp at c0 ⊢; cases hf : v.Flag <;> simp_all
  have d1 : (decide (v.Kind = 2) || decide (v.Number = 0)) = true := by simp at c1 ⊢; omega
  have d2 : (decide (v.Kind = 3) || decide (v.Words = [])) = true := by
    simp at c2 ⊢
    by_cases hw0 : v.Words = []
    · exact .inr hw0
    · exact .inl (c2 hw0)
  rw [d0, d1, d2]
  simp only [Bool.true_and, Bool.and_comm (Lib.validD v.Words)]
end Go.Beacon

/- Streams, in the form that is stepped by one text: what can still be drawn is counted down. No program in sight. -/
set_option linter.unusedVariables false
set_option linter.unusedSimpArgs false
namespace Go.Beacon
open Go Go.Eng

theorem Next_k {s : Stm} {n K : Int} (hs : SOk s K) (hK : 1 ≤ K) (h1 : 1 ≤ n) (h2 : n ≤ 4611686018427387904) : Gen (Stream_Next s n) (K - 1) (fun v => 0 ≤ v ∧ v < n) :=
  Next_ok (hs.less (by omega)) h1 h2 (by omega)
theorem Flip_k {s : Stm} {n K : Int} (hs : SOk s K) (hK : 1 ≤ K) (h1 : 1 ≤ n) (h2 : n ≤ 4611686018427387904) : Gen (Stream_Flip s n) (K - 1) (fun _ => True) :=
  Flip_ok (hs.less (by omega)) h1 h2 (by omega)
theorem Pick_k {s : Stm} {l : List Int} {K : Int} (hs : SOk s K) (hK : 1 ≤ K) (h1 : l ≠ []) (h2 : l.length ≤ 1000) : Gen (Stream_Pick s l) (K - 1) (fun v => v ∈ l) :=
  Pick_ok (hs.less (by omega)) h1 h2 (by omega)
theorem Some_k {s : Stm} {l : List Str} {K : Int} (hs : SOk s K) (hK : 1 ≤ K) (h1 : l ≠ []) (h2 : l.length ≤ 1000) : Gen (Stream_Some s l) (K - 1) (fun v => v ∈ l) :=
  Some_ok (hs.less (by omega)) h1 h2 (by omega)
theorem Odd_k {s : Stm} {a b K : Int} (hs : SOk s K) (hK : 2 ≤ K) (hab : a ≤ b) (ha : -1099511627776 ≤ a) (hb : b ≤ 1099511627776) : Gen (Stream_Odd s a b) (K - 2) (fun v => -1099511627777 ≤ v ∧ v ≤ 1099511627777) :=
  Odd_ok (hs.less (by omega)) hab ha hb (by omega)
end Go.Beacon

/- Plain functions that end, and what their results are like: one lemma for each step. No program in sight. -/
set_option linter.unusedVariables false
set_option linter.unusedSimpArgs false
namespace Go.Beacon
open Go Go.Eng

/-- It ends, and its result is so. -/
def Ok {α : Type} (m : Option α) (Q : α → Prop) : Prop := ∃ r, m = some r ∧ Q r
theorem Ok.ret {α : Type} {v : α} {Q : α → Prop} (h : Q v) : Ok (some v) Q := ⟨v, rfl, h⟩
theorem Ok.mono {α : Type} {m : Option α} {P Q : α → Prop} (h : Ok m P) (hp : ∀ v, P v → Q v) : Ok m Q := by
  obtain ⟨r, h1, h2⟩ := h; exact ⟨r, h1, hp r h2⟩
theorem Ok.bind {α β : Type} {m : Option α} {f : α → Option β} {P : α → Prop} {Q : β → Prop} (h : Ok m P) (hf : ∀ v, P v → Ok (f v) Q) : Ok (m.bind f) Q := by
  obtain ⟨r, rfl, h2⟩ := h; exact hf r h2
theorem Ok.is {α β : Type} {m : Option α} {v : α} {f : α → Option β} {Q : β → Prop} (h : m = some v) (hf : Ok (f v) Q) : Ok (m.bind f) Q := by rw [h]; exact hf
theorem Ok.inr {α β : Type} {m : Option β} {Q : α ⊕ β → Prop} (h : Ok m (fun r => Q (.inr r))) : Ok (Option.map .inr m) Q := by
  obtain ⟨r, rfl, h2⟩ := h; exact ⟨_, rfl, h2⟩
theorem Ok.gen {α β : Type} {m : Option (α × Stm)} {k : Int} {P : α → Prop} {f : α × Stm → Option β} {Q : β → Prop} (h : Gen m k P) (hf : ∀ v s', P v → SOk s' k → Ok (f (v, s')) Q) : Ok (m.bind f) Q := by
  obtain ⟨v, s', rfl, h1, h2⟩ := h; exact hf v s' h1 h2
theorem Gen.of {α : Type} {m : Option (α × Stm)} {k : Int} {P : α → Prop} (h : Ok m (fun r => P r.1 ∧ SOk r.2 k)) : Gen m k P := by
  obtain ⟨⟨v, s⟩, h1, h2, h3⟩ := h; exact ⟨v, s, h1, h2, h3⟩
theorem Ok.of {α : Type} {m : Option (α × Stm)} {k : Int} {P : α → Prop} (h : Gen m k P) : Ok m (fun r => P r.1 ∧ SOk r.2 k) := by
  obtain ⟨v, s, h1, h2, h3⟩ := h; exact ⟨(v, s), h1, h2, h3⟩
theorem Ok.idx {α β : Type} {xs : List α} {i : Int} {f : α → Option β} {Q : β → Prop} (h0 : 0 ≤ i) (h1 : i < xs.length) (hf : ∀ x, idx xs i = some x → x ∈ xs → Ok (f x) Q) : Ok ((idx xs i).bind f) Q := by
  obtain ⟨x, hx, hm, _⟩ := idx_lt xs h0 h1
  rw [hx]; exact hf x hx hm
theorem Ok.app {α β : Type} {xs ys : List α} {f : List α → Option β} {Q : β → Prop} (h : xs.length + ys.length ≤ 1000000000) (hf : Ok (f (xs ++ ys)) Q) : Ok ((app xs ys).bind f) Q := by
  rw [app_le h]; exact hf
theorem Ok.slc {α β : Type} {xs : List α} {a b : Int} {f : List α → Option β} {Q : β → Prop} (h0 : 0 ≤ a) (h1 : a ≤ b) (h2 : b ≤ xs.length) (hf : ∀ ys : List α, ys = (xs.drop a.toNat).take (b.toNat - a.toNat) → (ys.length : Int) = b - a → Ok (f ys) Q) : Ok ((slc xs a b).bind f) Q := by
  rw [slc_in h0 h1 h2]; exact hf _ rfl (by simp; omega)
theorem cat_le {a b : Str} (h : a.length + b.length ≤ 9223372036854775807) : catO a b = some (a ++ b) := by unfold catO; rw [if_pos h]
/-- What a round of a loop may tell: it keeps something and makes a number smaller, or it is the last. -/
abbrev Stp {S A : Type} (m : S → Nat) (Inv : S → Prop) (R : A → Prop) (s : S) : S ⊕ A → Prop
  | .inl s' => Inv s' ∧ m s' < m s
  | .inr a => R a
theorem Ok.iter {S A : Type} {f : S → Option (S ⊕ A)} {R : A → Prop} (m : S → Nat) (Inv : S → Prop)
    (h : ∀ s, Inv s → Ok (f s) (Stp m Inv R s)) (s : S) (hs : Inv s) : Ok (iter f s) R := by
  refine iter_inv f m Inv R (fun s hi => ?_) s hs
  obtain ⟨r, h1, h2⟩ := h s hi
  cases r with
  | inl s' => exact .inl ⟨s', h1, h2.1, h2.2⟩
  | inr a => exact .inr ⟨a, h1, h2⟩
/-- A round of a loop over the places of a list. -/
abbrev Rng {A : Type} (N : Nat) (R : A → Prop) (i : Int) : Int ⊕ A → Prop
  | .inl j => j = i + 1 ∧ i < N
  | .inr a => R a
theorem Ok.range {A : Type} {f : Int → Option (Int ⊕ A)} {R : A → Prop} (N : Nat) (h : ∀ i : Int, 0 ≤ i → i ≤ N → Ok (f i) (Rng N R i)) : Ok (Eng.iter f 0) R := by
  refine Ok.iter (fun i : Int => N + 1 - i.toNat) (fun i : Int => 0 ≤ i ∧ i ≤ N) (fun i hi => ?_) 0 ⟨by omega, by omega⟩
  refine (h i hi.1 hi.2).mono (fun r hr => ?_)
  cases r with
  | inl j => simp only [Rng, Stp] at hr ⊢; omega
  | inr a => exact hr
/-- The same loops are the same. -/
theorem iter_same {S A : Type} {f g : S → Option (S ⊕ A)} (h : ∀ s, f s = g s) (s : S) : iter f s = iter g s := by rw [funext h]
end Go.Beacon

/- Loops over lists: folds, invariants. No program in sight. -/
set_option linter.unusedVariables false
set_option linter.unusedSimpArgs false
namespace Go.Beacon
open Go Go.Eng
/-- A loop over a list that never ends early: a fold. -/
theorem iter_foldl {α σ A X : Type} (xs : List α) (mk : σ → Int → X) (f : X → Option (X ⊕ A)) (stp : σ → α → σ) (Inv : Int → σ → Prop) (E : σ → Option A)
    (h1 : ∀ s (i : Int) x, 0 ≤ i → i < xs.length → idx xs i = some x → Inv i s → f (mk s i) = some (.inl (mk (stp s x) (i + 1))) ∧ Inv (i + 1) (stp s x))
    (h2 : ∀ s, Inv xs.length s → f (mk s xs.length) = Option.map .inr (E s)) (s : σ) (h0 : Inv 0 s) : iter f (mk s 0) = E (xs.foldl stp s) := by
  have key : ∀ (n : Nat) (s : σ) (i : Int), 0 ≤ i → i + n = xs.length → Inv i s → iter f (mk s i) = E ((xs.drop i.toNat).foldl stp s) := by
    intro n
    induction n with
    | zero =>
      intro s i hi hn hv
      have : i = xs.length := by omega
      subst this
      rw [iter_eq, h2 s hv, map_inr_after]
      simp
    | succ n ih =>
      intro s i hi hn hv
      obtain ⟨x, hx, _, hd⟩ := idx_lt xs hi (by omega)
      obtain ⟨e1, e2⟩ := h1 s i x hi (by omega) hx hv
      rw [iter_eq, e1]
      simp only [Option.bind_some, after_inl]
      rw [ih _ _ (by omega) (by omega) e2, hd]
      rfl
  have := key xs.length s 0 (by omega) (by omega) h0
  simpa using this
abbrev RngI {A : Type} (N : Nat) (Inv : Int → Prop) (R : A → Prop) (i : Int) : Int ⊕ A → Prop
  | .inl j => j = i + 1 ∧ i < N ∧ Inv (i + 1)
  | .inr a => R a
theorem Ok.rangeI {A : Type} {f : Int → Option (Int ⊕ A)} {R : A → Prop} (N : Nat) (Inv : Int → Prop) (h0 : Inv 0) (h : ∀ i : Int, 0 ≤ i → i ≤ N → Inv i → Ok (f i) (RngI N Inv R i)) : Ok (Eng.iter f 0) R := by
  refine Ok.iter (fun i : Int => N + 1 - i.toNat) (fun i : Int => (0 ≤ i ∧ i ≤ N) ∧ Inv i) (fun i hi => ?_) 0 ⟨⟨by omega, by omega⟩, h0⟩
  refine (h i hi.1.1 hi.1.2 hi.2).mono (fun r hr => ?_)
  cases r with
  | inl j =>
    simp only [Stp, RngI] at hr ⊢
    obtain ⟨rfl, h2, h3⟩ := hr
    exact ⟨⟨by omega, h3⟩, by omega⟩
  | inr a => exact hr
theorem take_succ {α : Type} {xs : List α} {i : Int} {x : α} (h0 : 0 ≤ i) (h : idx xs i = some x) : xs.take (i + 1).toNat = xs.take i.toNat ++ [x] := by
  obtain ⟨_, h1, h2⟩ := idx_some h
  rw [show (i + 1).toNat = i.toNat + 1 by omega, List.take_add_one, h2]; rfl
end Go.Beacon

/- Queries: both checks tell the same. No program in sight. -/
set_option linter.unusedVariables false
set_option linter.unusedSimpArgs false
namespace Go.Beacon
open Go Go.Eng

/-! a query and all in it -/
mutual
def Query.subs : Query → List Query
  | ⟨a, b, c, d, e, kids⟩ => ⟨a, b, c, d, e, kids⟩ :: Query.subsL kids
def Query.subsL : List Query → List Query
  | [] => []
  | x :: r => Query.subs x ++ Query.subsL r
end
mutual
def Query.dep : Query → Nat
  | ⟨a, b, c, d, e, kids⟩ => Query.depL kids + 1
def Query.depL : List Query → Nat
  | [] => 0
  | x :: r => max (Query.dep x) (Query.depL r)
end
theorem Query.subs_eq (q : Query) : q.subs = q :: Query.subsL q.Kids := by obtain ⟨a, b, c, d, e, kids⟩ := q; rw [Query.subs]
theorem Query.dep_eq (q : Query) : q.dep = Query.depL q.Kids + 1 := by obtain ⟨a, b, c, d, e, kids⟩ := q; rw [Query.dep]
theorem Query.mem_self (q : Query) : q ∈ q.subs := by rw [q.subs_eq]; simp
theorem Query.pos (q : Query) : 0 < q.subs.length := by rw [q.subs_eq]; simp
theorem subsL_mem : ∀ {l : List Query} {c : Query}, c ∈ l → c.subs.length ≤ (Query.subsL l).length ∧ ∀ x ∈ c.subs, x ∈ Query.subsL l
  | x :: r, c, h => by
    rw [Query.subsL]
    rcases List.mem_cons.1 h with rfl | h
    · exact ⟨by simp, fun y hy => List.mem_append_left _ hy⟩
    · obtain ⟨h1, h2⟩ := subsL_mem h
      exact ⟨by rw [List.length_append]; omega, fun y hy => List.mem_append_right _ (h2 y hy)⟩
theorem subsL_len : ∀ l : List Query, l.length ≤ (Query.subsL l).length
  | [] => by simp
  | x :: r => by
    rw [Query.subsL]
    have := subsL_len r
    have := x.pos
    rw [List.length_append, List.length_cons]; omega
theorem depL_le : ∀ l : List Query, (∀ x ∈ l, x.dep ≤ x.subs.length) → Query.depL l ≤ (Query.subsL l).length
  | [], _ => by simp [Query.depL]
  | x :: r, h => by
    rw [Query.depL, Query.subsL, List.length_append]
    have h1 := h x List.mem_cons_self
    have h2 := depL_le r (fun y hy => h y (List.mem_cons_of_mem _ hy))
    omega
theorem dep_le : ∀ (n : Nat) (q : Query), q.subs.length ≤ n → q.dep ≤ q.subs.length
  | 0, q, h => by have := q.pos; omega
  | n + 1, q, h => by
    rw [q.dep_eq, q.subs_eq, List.length_cons]
    rw [q.subs_eq, List.length_cons] at h
    have := depL_le q.Kids (fun x hx => dep_le n x (by have := (subsL_mem hx).1; omega))
    omega
structure StrQ (q : Query) : Prop where
  field : q.Field.length ≤ 100000
  op : q.Op.length ≤ 100000
  words : q.Value.Words.length ≤ 100000
structure QB (q : Query) : Prop where
  len : q.subs.length ≤ 5000
  str : ∀ x ∈ q.subs, StrQ x
theorem QB.kid {q c : Query} (h : QB q) (hc : c ∈ q.Kids) : QB c ∧ c.subs.length < q.subs.length := by
  have h1 := subsL_mem hc
  have h2 := q.subs_eq
  refine ⟨⟨?_, fun x hx => h.str x (by rw [h2]; exact List.mem_cons_of_mem _ (h1.2 x hx))⟩, by rw [h2, List.length_cons]; omega⟩
  have := h.len
  rw [h2, List.length_cons] at this
  omega
theorem QB.kids {q : Query} (h : QB q) : q.Kids.length ≤ 5000 := by
  have := h.len
  rw [q.subs_eq, List.length_cons] at this
  have := subsL_len q.Kids
  omega
theorem QB.s {q : Query} (h : QB q) : StrQ q := h.str q q.mem_self
/-- What is shown of all queries. -/
theorem q_ind {C : Nat → Query → Prop} (h : ∀ n q, QB q → (∀ c ∈ q.Kids, C n c) → C (n + 1) q) : ∀ (n : Nat) (q : Query), QB q → q.subs.length ≤ n → C n q
  | 0, q, _, hl => by have := q.pos; omega
  | n + 1, q, hq, hl => h n q hq (fun c hc => q_ind h n c (hq.kid hc).1 (by have := (hq.kid hc).2; omega))

/-! sizes -/
def leafK (q : Query) : Bool := decide (q.Kind = 1) || decide (q.Kind = 2)
def cntL (l : List Query) : Nat := (Query.subsL l).countP leafK
theorem cntL_cons (x : Query) (r : List Query) : cntL (x :: r) = x.subs.countP leafK + cntL r := by
  unfold cntL; rw [Query.subsL, List.countP_append]
theorem meas_fold : ∀ (l : List Query) (s : Int × Int), l.foldl (fun s x => (s.1 + ((x.subs.countP leafK : Nat) : Int), max s.2 ((x.dep : Nat) : Int))) s = (s.1 + ((cntL l : Nat) : Int), max s.2 ((Query.depL l : Nat) : Int)) ∨ s.2 < 0
  | [], s => by
    by_cases h : s.2 < 0
    · exact .inr h
    · left
      simp [cntL, Query.subsL, Query.depL]
      refine Prod.ext rfl ?_
      simp only; omega
  | x :: r, s => by
    by_cases h : s.2 < 0
    · exact .inr h
    · left
      rw [List.foldl_cons]
      rcases meas_fold r (s.1 + ((x.subs.countP leafK : Nat) : Int), max s.2 ((x.dep : Nat) : Int)) with e | e
      · rw [e, cntL_cons, Query.depL]
        refine Prod.ext ?_ ?_
        · simp only; omega
        · simp only; omega
      · simp only at e; omega
theorem Measure_eq (n : Nat) (q : Query) (hq : QB q) (hn : q.subs.length ≤ n) : item_Measure_r n q = some (((q.subs.countP leafK : Nat) : Int), ((q.dep : Nat) : Int)) := by
  refine q_ind (C := fun n q => item_Measure_r n q = some (((q.subs.countP leafK : Nat) : Int), ((q.dep : Nat) : Int))) (fun n q hq ih => ?_) n q hq hn
  have hk := hq.kids
  have hl := hq.len
  have hd := dep_le _ q (Nat.le_refl _)
  have hc : q.subs.countP leafK ≤ q.subs.length := List.countP_le_length
  have e0 := q.subs_eq
  have e1 := q.dep_eq
  have e2 : q.subs.countP leafK = (if leafK q = true then 1 else 0) + cntL q.Kids := by
    rw [e0, List.countP_cons]; unfold cntL; omega
  have key : ∀ m : Int, 0 ≤ m → m ≤ 1 → item_Measure_l1 (item_Measure_r n) q m 0 0 = some (m + ((cntL q.Kids : Nat) : Int), ((q.dep : Nat) : Int)) := by
    intro m h0 h1
    unfold item_Measure_l1
    have h := iter_foldl q.Kids (fun (s : Int × Int) (i : Int) => (s.1, s.2, i)) (fun x : Int × Int × Int => item_Measure_b1 (item_Measure_r n) q x.1 x.2.1 x.2.2) (fun s x => (s.1 + ((x.subs.countP leafK : Nat) : Int), max s.2 ((x.dep : Nat) : Int))) (fun i s => (0 ≤ s.1 ∧ s.1 ≤ 1 + 5000 * i) ∧ 0 ≤ s.2 ∧ s.2 ≤ 5000) (fun s => some (s.1, w64 (s.2 + 1)))
      (fun s i x i0 i1 hi hs => by
        have hx := idx_mem hi
        have k := hq.kid hx
        have kl := k.1.len
        have kc : x.subs.countP leafK ≤ x.subs.length := List.countP_le_length
        have kd := dep_le _ x (Nat.le_refl _)
        refine ⟨?_, ?_⟩
        · show item_Measure_b1 (item_Measure_r n) q s.1 s.2 i = _
          unfold item_Measure_b1
          rw [if_pos i1, hi]
          simp only [Option.bind_some]
          rw [ih x hx]
          simp only [Option.bind_some]
          rw [w64_in (x := s.1 + _) (by omega) (by omega), w64_in (by omega) (by omega)]
        · simp only; omega)
      (fun s hs => by
        show item_Measure_b1 (item_Measure_r n) q s.1 s.2 q.Kids.length = _
        unfold item_Measure_b1
        rw [if_neg (by omega)]) (m, 0) ⟨⟨by simpa using h0, by simp; omega⟩, by simp, by simp⟩
    simp only at h
    rw [h]
    rcases meas_fold q.Kids (m, 0) with e | e
    · rw [e]
      simp only
      rw [w64_in (by omega) (by omega)]
      congr 2
      omega
    · simp at e
  show item_Measure_bd (item_Measure_r n) q = _
  unfold item_Measure_bd item_Measure_j1 item_Measure_j2
  have e3 : (decide (q.Kind = (1 : Int)) || decide (q.Kind = (2 : Int))) = leafK q := rfl
  rw [e3, e2]
  cases hlf : leafK q with
  | true => rw [if_pos rfl, key 1 (by omega) (by omega)]; simp
  | false => rw [if_neg (by simp), key 0 (by omega) (by omega)]; simp
theorem leaves_fold : ∀ (l : List Query) (s : List Query), l.foldl (fun s x => s ++ x.subs.filter leafK) s = s ++ (Query.subsL l).filter leafK
  | [], s => by simp [Query.subsL]
  | x :: r, s => by rw [List.foldl_cons, leaves_fold r, Query.subsL, List.filter_append, List.append_assoc]
theorem leaves_eq (n : Nat) (q : Query) (hq : QB q) (hn : q.subs.length ≤ n) : Q_leaves_r n q = some (q.subs.filter leafK) := by
  refine q_ind (C := fun n q => Q_leaves_r n q = some (q.subs.filter leafK)) (fun n q hq ih => ?_) n q hq hn
  have hk := hq.kids
  have hl := hq.len
  have e0 := q.subs_eq
  have key : ∀ m : List Query, m.length ≤ 1 → Q_leaves_l1 (Q_leaves_r n) q m 0 = some (m ++ (Query.subsL q.Kids).filter leafK) := by
    intro m h1
    unfold Q_leaves_l1
    have h := iter_foldl q.Kids (fun (s : List Query) (i : Int) => (s, i)) (fun x : List Query × Int => Q_leaves_b1 (Q_leaves_r n) q x.1 x.2) (fun s x => s ++ x.subs.filter leafK) (fun i s => (s.length : Int) ≤ 1 + 5000 * i) (fun s => some s)
      (fun s i x i0 i1 hi hs => by
        have hx := idx_mem hi
        have k := hq.kid hx
        have kl := k.1.len
        have kc : (x.subs.filter leafK).length ≤ x.subs.length := List.length_filter_le _ _
        refine ⟨?_, ?_⟩
        · show Q_leaves_b1 (Q_leaves_r n) q s i = _
          unfold Q_leaves_b1
          rw [if_pos i1, hi]
          simp only [Option.bind_some]
          rw [ih x hx]
          simp only [Option.bind_some]
          rw [app_le (by omega), w64_in (by omega) (by omega)]; rfl
        · rw [List.length_append]; omega)
      (fun s hs => by
        show Q_leaves_b1 (Q_leaves_r n) q s q.Kids.length = _
        unfold Q_leaves_b1
        rw [if_neg (by omega)]) m (by omega)
    rw [h, leaves_fold]
  show Q_leaves_bd (Q_leaves_r n) q = _
  unfold Q_leaves_bd Q_leaves_j1 Q_leaves_j2
  have e3 : (decide (q.Kind = (1 : Int)) || decide (q.Kind = (2 : Int))) = leafK q := rfl
  rw [e3, e0, List.filter_cons]
  cases hlf : leafK q with
  | true => rw [if_pos rfl, if_pos rfl, app_le (by simp)]; simp only [Option.bind_some, List.nil_append]; rw [key _ (by simp)]; rfl
  | false => rw [if_neg (by simp), if_neg (by simp), key _ (by simp)]; rfl
theorem deep_fold : ∀ (l : List Query) (s : Int), 0 ≤ s → l.foldl (fun s x => max s ((x.dep : Nat) : Int)) s = max s ((Query.depL l : Nat) : Int)
  | [], s, h => by simp [Query.depL]; omega
  | x :: r, s, h => by rw [List.foldl_cons, deep_fold r _ (by omega), Query.depL]; omega
theorem deep_eq (n : Nat) (q : Query) (hq : QB q) (hn : q.subs.length ≤ n) : Q_deep_r n q = some ((q.dep : Nat) : Int) := by
  refine q_ind (C := fun n q => Q_deep_r n q = some ((q.dep : Nat) : Int)) (fun n q hq ih => ?_) n q hq hn
  have hk := hq.kids
  have hl := hq.len
  have hd := dep_le _ q (Nat.le_refl _)
  have e1 := q.dep_eq
  show Q_deep_bd (Q_deep_r n) q = _
  unfold Q_deep_bd Q_deep_l1
  have h := iter_foldl q.Kids (fun (s : Int) (i : Int) => (s, i)) (fun x : Int × Int => Q_deep_b1 (Q_deep_r n) q x.1 x.2) (fun s x => max s ((x.dep : Nat) : Int)) (fun i s => 0 ≤ s ∧ s ≤ 5000) (fun s => some (w64 (s + 1)))
    (fun s i x i0 i1 hi hs => by
      have hx := idx_mem hi
      have k := hq.kid hx
      have kl := k.1.len
      have kd := dep_le _ x (Nat.le_refl _)
      refine ⟨?_, by omega⟩
      show Q_deep_b1 (Q_deep_r n) q s i = _
      unfold Q_deep_b1
      rw [if_pos i1, hi]
      simp only [Option.bind_some]
      rw [ih x hx]
      simp only [Option.bind_some]
      rw [w64_in (by omega) (by omega)])
    (fun s hs => by
      show Q_deep_b1 (Q_deep_r n) q s q.Kids.length = _
      unfold Q_deep_b1
      rw [if_neg (by omega)]) 0 (by omega)
  rw [h, deep_fold _ _ (by omega), w64_in (by omega) (by omega)]
  congr 1
  omega
end Go.Beacon

/- Queries: what is wrong with them, said twice. No program in sight. -/
set_option linter.unusedVariables false
set_option linter.unusedSimpArgs false
namespace Go.Beacon
open Go Go.Eng

abbrev zV : ValueS := ⟨0, false, 0, []⟩
abbrev zVer : Version := ⟨0, 0, 0⟩
def kidK (q : Query) : Bool := q.Kids.any (fun k => decide (k.Kind = q.Kind))
def badForm (q : Query) : Bool :=
  if q.Kind = 1 then decide (q.Kids.length ≠ 0)
  else if q.Kind = 2 then decide (q.Kids.length ≠ 0) || (decide (q.Op ≠ []) || (decide (q.Value ≠ zV) || decide (q.Version ≠ zVer)))
  else (if q.Kind = 3 then decide (q.Kids.length ≠ 1) else decide (q.Kids.length < 2) || kidK q) || (decide (q.Field ≠ []) || (decide (q.Op ≠ []) || (decide (q.Value ≠ zV) || decide (q.Version ≠ zVer))))
def outK (q : Query) : Bool := decide (q.Kind < 1) || decide (5 < q.Kind)
def fF (q : Query) : Int := if outK q = true then 4 else if badForm q = true then 3 else 0
theorem nb (b : Bool) : (if b = true then (some (3 : Int)) else some 0) = some (if b = true then 3 else 0) := by cases b <;> rfl
theorem neC {α : Type} [DecidableEq α] (a b : α) : decide (a ≠ b) = decide (b ≠ a) := by rw [decide_eq_decide]; exact ⟨fun h k => h k.symm, fun h k => h k.symm⟩
theorem ff_j1 (q : Query) (c : Bool) (f o : Str) (k : Int) (fl : Bool) (n : Int) (w : Str) (x y z : Int) : item_formFault_j1 q c f o k fl n w x y z = some (if (c || (decide (f ≠ q.Field) || (decide (o ≠ q.Op) || (decide ((⟨k, fl, n, w⟩ : ValueS) ≠ q.Value) || decide ((⟨x, y, z⟩ : Version) ≠ q.Version))))) = true then 3 else 0) := nb _
theorem ff_j3 (q : Query) (c : Bool) : item_formFault_j3 q c = some (if (c || (decide (q.Field ≠ []) || (decide (q.Op ≠ []) || (decide (q.Value ≠ zV) || decide (q.Version ≠ zVer))))) = true then 3 else 0) := by
  unfold item_formFault_j3 item_formFault_j2
  rw [ff_j1, neC [] q.Field, neC [] q.Op, neC _ q.Value, neC _ q.Version]
theorem lenC (q : Query) (m : Nat) : decide ((q.Kids.length : Int) ≠ (m : Nat)) = decide (q.Kids.length ≠ m) := by rw [decide_eq_decide]; omega
theorem formFault_eq (q : Query) (hq : QB q) : item_formFault q = some (fF q) := by
  have hk := hq.kids
  unfold item_formFault fF
  have ho : base_Out q.Kind 1 5 = outK q := rfl
  rw [ho]
  cases h : outK q with
  | true => rfl
  | false =>
    simp only [Bool.false_eq_true, if_false]
    unfold badForm
    by_cases k1 : q.Kind = 1
    · rw [if_pos k1, if_pos k1, ff_j1, show ((0 : Int)) = ((0 : Nat) : Int) from rfl, lenC]
      have e1 : decide (q.Field ≠ q.Field) = false := by simp
      have e2 : decide (q.Op ≠ q.Op) = false := by simp
      have e3 : decide ((⟨q.Value.Kind, q.Value.Flag, q.Value.Number, q.Value.Words⟩ : ValueS) ≠ q.Value) = false := by simp
      have e4 : decide ((⟨q.Version.Major, q.Version.Minor, q.Version.Patch⟩ : Version) ≠ q.Version) = false := by simp
      rw [e1, e2, e3, e4]; simp
    rw [if_neg k1, if_neg k1]
    by_cases k2 : q.Kind = 2
    · rw [if_pos k2, if_pos k2]
      unfold item_formFault_j2
      rw [ff_j1, show ((0 : Int)) = ((0 : Nat) : Int) from rfl, lenC, neC [] q.Op]
      have e1 : decide (q.Field ≠ q.Field) = false := by simp
      rw [e1, Bool.false_or]
      rw [neC _ q.Value, neC _ q.Version]; rfl
    rw [if_neg k2, if_neg k2]
    by_cases k3 : q.Kind = 3
    · rw [if_pos k3, if_pos k3, ff_j3, show ((1 : Int)) = ((1 : Nat) : Int) from rfl, lenC]
    rw [if_neg k3, if_neg k3]
    unfold item_formFault_j4
    by_cases c : q.Kids.length < 2
    · rw [if_pos (by omega), ff_j3]; simp [c]
    · rw [if_neg (by omega)]
      have hc : slices_ContainsFunc_Query_Query q.Kids (fun y0 => some (item_formFault_1x y0 q)) = some (kidK q) := gContainsFunc_eq _ _ _ (fun x _ => rfl) (by omega)
      rw [hc]
      simp only [Option.bind_some]
      rw [ff_j3]; simp [c]
/-! single parts -/
def opsL : List Str := [[61, 61], [33, 61], [60, 61], [62, 61], [60], [62]]
def firmB (q : Query) : Bool := decide (q.Field = sFirm)
noncomputable def lF (q : Query) : Int :=
  if (tagF q.Field || (propF q.Field || (!decide (q.Kind = 2) && plainF q.Field))) = false then 5
  else if q.Kind = 2 then 0
  else if ¬ q.Op ∈ opsL then 10
  else if firmB q = true ∧ q.Value ≠ zV then 3
  else if firmB q = true ∧ base_Version q.Version = false then 1
  else if firmB q = true then 0
  else if q.Version ≠ zVer ∨ (rightB q.Value = false ∨ q.Value.Kind = 0) then 3
  else if (q.Value.Kind ≠ 3 ∧ propF q.Field = false) ∨ (q.Value.Kind ≠ 2 ∧ q.Op ≠ [61, 61] ∧ q.Op ≠ [33, 61]) then 10
  else 0
theorem some_ite {α : Type} (p : Prop) [Decidable p] (a b : α) : (if p then some a else some b) = some (if p then a else b) := by split <;> rfl
theorem lf_j4 (q : Query) (hq : StrQ q) (c : Bool) : item_leafFault_j4 q c = some (if c = true then 3 else if (q.Value.Kind ≠ 3 ∧ propF q.Field = false) ∨ (q.Value.Kind ≠ 2 ∧ q.Op ≠ [61, 61] ∧ q.Op ≠ [33, 61]) then 10 else 0) := by
  have h5 : ∀ c, item_leafFault_j5 q c = some (if c = true ∨ (q.Value.Kind ≠ 2 ∧ q.Op ≠ [61, 61] ∧ q.Op ≠ [33, 61]) then 10 else 0) := by
    intro c
    unfold item_leafFault_j5 item_leafFault_j6
    cases c with
    | true => simp
    | false =>
      rw [if_neg (by simp), some_ite]
      congr 1
      simp
  unfold item_leafFault_j4
  cases c with
  | true => rfl
  | false =>
    simp only [Bool.false_eq_true, if_false]
    by_cases k : q.Value.Kind = 3
    · rw [if_neg (fun h => h k), h5]
      congr 1
      simp [k]
    · rw [if_pos k, isProp_eq (by have := hq.field; omega)]
      simp only [Option.bind_some]
      rw [h5]
      congr 1
      simp [k]
theorem leafFault_eq (q : Query) (hq : StrQ q) : item_leafFault q = some (lF q) := by
  have hf := hq.field
  have hw := hq.words
  have j1 : item_leafFault_j1 q false = some (if q.Kind = 2 then 0 else if ¬ q.Op ∈ opsL then 10 else if firmB q = true ∧ q.Value ≠ zV then 3 else if firmB q = true ∧ base_Version q.Version = false then 1 else if firmB q = true then 0 else if q.Version ≠ zVer ∨ (rightB q.Value = false ∨ q.Value.Kind = 0) then 3 else if (q.Value.Kind ≠ 3 ∧ propF q.Field = false) ∨ (q.Value.Kind ≠ 2 ∧ q.Op ≠ [61, 61] ∧ q.Op ≠ [33, 61]) then 10 else 0) := by
    unfold item_leafFault_j1
    rw [if_neg (by simp)]
    by_cases k2 : q.Kind = 2
    · rw [if_pos k2, if_pos k2]
    rw [if_neg k2, if_neg k2, ContSq _ _ (by unfold item_Operations; simp)]
    simp only [Option.bind_some]
    have ho : q.Op ∈ item_Operations ↔ q.Op ∈ opsL := by unfold item_Operations opsL; simp only [List.mem_cons, List.not_mem_nil, or_false]; constructor <;> (rintro (h | h | h | h | h | h) <;> simp [h])
    by_cases hop : q.Op ∈ opsL
    · rw [if_neg (by simp [ho, hop]), if_neg (fun k => k hop)]
      unfold item_leafFault_j2
      have hfb : decide (q.Field = ([102, 105, 114, 109, 119, 97, 114, 101] : Str)) = firmB q := rfl
      rw [hfb]
      by_cases c1 : firmB q = true ∧ q.Value ≠ zV
      · rw [if_pos c1, if_pos (by simp [c1.1]; exact c1.2)]
      rw [if_neg c1, if_neg (by simp; intro h; exact Classical.byContradiction fun k => c1 ⟨h, k⟩)]
      unfold item_leafFault_j3
      by_cases c2 : firmB q = true ∧ base_Version q.Version = false
      · rw [if_pos c2, if_pos (by simp [c2.1, c2.2])]
      rw [if_neg c2, if_neg (by simp; intro h; cases hb : base_Version q.Version with | true => rfl | false => exact absurd ⟨h, hb⟩ c2)]
      by_cases c3 : firmB q = true
      · rw [if_pos c3, if_pos (of_decide_eq_true c3)]
      rw [if_neg c3, if_neg (fun k => c3 (decide_eq_true k))]
      by_cases c4 : q.Version ≠ zVer
      · rw [if_pos c4, lf_j4 q hq, if_pos rfl, if_pos (.inl c4)]
      · rw [if_neg c4, Right_eq _ (by omega)]
        simp only [Option.bind_some]
        rw [lf_j4 q hq]
        by_cases c5 : rightB q.Value = false ∨ q.Value.Kind = 0
        · rw [if_pos (by rcases c5 with h | h <;> simp [h]), if_pos (.inr c5)]
        · rw [not_or] at c5
          rw [if_neg (by simp [c5.2]; simpa using c5.1), if_neg (show ¬ (q.Version ≠ zVer ∨ (rightB q.Value = false ∨ q.Value.Kind = 0)) from fun k => k.elim c4 (fun k => k.elim c5.1 c5.2))]
    · rw [if_pos (by simp [ho, hop]), if_pos hop]
  unfold item_leafFault lF
  rw [Field_eq (by omega)]
  simp only [Option.bind_some]
  have bad : item_leafFault_j1 q true = some 5 := rfl
  cases ht : tagF q.Field <;> cases hp : propF q.Field <;> cases hpl : plainF q.Field <;> by_cases k2 : q.Kind = 2
  all_goals simp only [ht, hp, hpl, k2, Bool.or_false, Bool.or_true, Bool.false_or, Bool.true_or, Bool.not_true, Bool.not_false, Bool.false_eq_true, if_false, if_true, decide_true, decide_false, Bool.true_and, Bool.false_and, bad]
  all_goals first
    | rfl
    | (rw [isTag_eq (by omega), ht]; simp only [Option.bind_some, Bool.not_true, Bool.not_false, Bool.false_eq_true, if_false, if_true]; first | (rw [isProp_eq (by omega), hp]; simp only [Option.bind_some, Bool.not_true, Bool.not_false]; first | exact bad | (rw [j1]; simp [k2])) | (rw [j1]; simp [k2]))
    | (rw [j1]; simp [k2, hp])
/-! the reference -/
theorem versionRight_eq (v : Version) : Q_versionRight v = base_Version v := by
  unfold Q_versionRight Q_versionRight_j1 base_Version base_Version_j1 Q_in Q_in_j1 base_Out base_Out_j1
  rw [Bool.eq_iff_iff]; simp
theorem pre_two {s a b : Str} (ha : preB s a = true) (hb : preB s b = true) : ∀ i, i < a.length → i < b.length → a[i]? = b[i]? := by
  intro i h1 h2
  have h3 : s.take a.length = a := of_decide_eq_true ha
  have h4 : s.take b.length = b := of_decide_eq_true hb
  have e1 : a[i]? = s[i]? := by rw [← h3, List.getElem?_take]; simp [h1]
  have e2 : b[i]? = s[i]? := by rw [← h4, List.getElem?_take]; simp [h2]
  rw [e1, e2]
theorem not_tag_prop {s : Str} (h : preB s sTag = true) : preB s sProp = false := by
  cases hp : preB s sProp with
  | false => rfl
  | true => have := pre_two h hp 0 (by simp) (by simp); simp at this
theorem plain_pre {s : Str} (h : plainF s = true) : preB s sTag = false ∧ preB s sProp = false := by
  unfold plainF at h
  simp only [Bool.or_eq_true, decide_eq_true_eq] at h
  rcases h with rfl | rfl | rfl | rfl <;> exact ⟨rfl, rfl⟩
theorem prop_pre {s : Str} (h : (tagF s || (propF s || plainF s)) = true) : preB s sProp = propF s := by
  simp only [Bool.or_eq_true] at h
  rcases h with h | h | h
  · have h1 : preB s sTag = true := by unfold tagF at h; simp at h; exact h.1
    have h2 := not_tag_prop h1
    unfold propF; rw [h2]; rfl
  · rw [h]; unfold propF at h; simp at h; exact h.1
  · have h2 := (plain_pre h).2
    unfold propF; rw [h2]; rfl
theorem isFault_eq (q : Query) (hq : StrQ q) : Q_isFault q = some (lF q) := by
  have hf := hq.field
  have hw := hq.words
  have h7 : ∀ c, Q_isFault_j7 c = some (if c = true then 10 else 0) := fun c => by unfold Q_isFault_j7; cases c <;> rfl
  unfold Q_isFault lF
  rw [FieldRight_eq (by omega)]
  simp only [Option.bind_some]
  cases hfr : (tagF q.Field || (propF q.Field || (!decide (q.Kind = 2) && plainF q.Field))) with
  | false => rfl
  | true =>
    simp only [Bool.not_true, Bool.false_eq_true, if_false, Bool.true_eq_false]
    by_cases k2 : q.Kind = 2
    · rw [if_pos k2, if_pos k2]
    rw [if_neg k2, if_neg k2]
    have hpp : preB q.Field sProp = propF q.Field := prop_pre (by
      simp only [k2, decide_false, Bool.not_false, Bool.true_and] at hfr
      exact hfr)
    unfold Q_isFault_j1
    rw [ContSq _ _ (by unfold Q_Ops; simp)]
    simp only [Option.bind_some]
    have ho : q.Op ∈ Q_Ops ↔ q.Op ∈ opsL := Iff.rfl
    by_cases hno : ¬ q.Op ∈ opsL
    · rw [if_pos (by simp [ho, hno]), if_pos hno]
    have hop : q.Op ∈ opsL := Classical.byContradiction hno
    rw [if_neg (by simp [ho, hop]), if_neg (fun k => k hop)]
    unfold Q_isFault_j2
    have hfb : decide (q.Field = ([102, 105, 114, 109, 119, 97, 114, 101] : Str)) = firmB q := rfl
    rw [hfb, versionRight_eq]
    by_cases c1 : firmB q = true ∧ q.Value ≠ zV
    · rw [if_pos c1, if_pos (by simp [c1.1]; exact c1.2)]
    rw [if_neg c1, if_neg (by simp; intro h; exact Classical.byContradiction fun k => c1 ⟨h, k⟩)]
    unfold Q_isFault_j3
    by_cases c2 : firmB q = true ∧ base_Version q.Version = false
    · rw [if_pos c2, if_pos (by simp [c2.1, c2.2])]
    rw [if_neg c2, if_neg (by simp; intro h; cases hb : base_Version q.Version with | true => rfl | false => exact absurd ⟨h, hb⟩ c2)]
    by_cases c3 : firmB q = true
    · rw [if_pos c3, if_pos (of_decide_eq_true c3)]
    rw [if_neg c3, if_neg (fun k => c3 (decide_eq_true k))]
    have j4 : ∀ (c3 : Bool) (c : Bool), c3 = (decide (q.Op = [61, 61]) || decide (q.Op = [33, 61])) → Q_isFault_j4 q c3 c = some (if c = true then 3 else if (q.Value.Kind ≠ 3 ∧ propF q.Field = false) ∨ (q.Value.Kind ≠ 2 ∧ q.Op ≠ [61, 61] ∧ q.Op ≠ [33, 61]) then 10 else 0) := by
      intro c3 c hc3
      subst hc3
      unfold Q_isFault_j4
      cases c with
      | true => rfl
      | false =>
        simp only [Bool.false_eq_true, if_false]
        have j6 : ∀ c, Q_isFault_j6 q (decide (q.Op = [61, 61]) || decide (q.Op = [33, 61])) c = some (if c = true ∨ (q.Value.Kind ≠ 2 ∧ q.Op ≠ [61, 61] ∧ q.Op ≠ [33, 61]) then 10 else 0) := by
          intro c
          unfold Q_isFault_j6 Q_isFault_j8
          cases c with
          | true => simp [h7]
          | false =>
            simp only [Bool.false_eq_true, if_false, false_or]
            rw [h7]
            congr 1
            simp
        by_cases k : q.Value.Kind = 3
        · rw [if_neg (fun h => h k), j6]
          congr 1
          simp [k]
        · rw [if_pos k, HasPrefixQ_eq _ _ (by omega), hpp]
          simp only [Option.bind_some]
          rw [j6]
          congr 1
          simp [k]
    by_cases c4 : q.Version ≠ zVer
    · rw [if_pos c4, j4 _ _ rfl, if_pos (decide_eq_true c4), if_pos (.inl c4)]
    · rw [if_neg c4, RightValue_eq _ (by omega)]
      simp only [Option.bind_some]
      unfold Q_isFault_j5
      rw [j4 _ _ rfl, j4 _ _ rfl]
      cases hr : rightB q.Value with
      | false => rw [if_pos (by simp), if_pos (by simp), if_pos (.inr (.inl rfl))]
      | true =>
        rw [if_neg (by simp)]
        by_cases c5 : q.Value.Kind = 0
        · rw [if_pos (by simpa using c5), if_pos (.inr (.inr c5))]
        · rw [if_neg (by simpa using c5), if_neg (show ¬ (q.Version ≠ zVer ∨ (true = false ∨ q.Value.Kind = 0)) from fun k => k.elim c4 (fun k => k.elim (fun h => by cases h) c5))]
theorem oneForm_eq (self : Query → Option Int) (q : Query) (hq : QB q) : Q_oneQuery_bd self q = if outK q = true then some 4 else if badForm q = true then some 3 else if q.Kind ≤ 2 then Q_isFault q else Q_oneQuery_l1 self q 0 := by
  have hk := hq.kids
  have ho : (!Q_in q.Kind 1 5) = outK q := by
    unfold Q_in Q_in_j1 outK; rw [Bool.eq_iff_iff]; simp
  unfold Q_oneQuery_bd
  rw [ho]
  cases hok : outK q with
  | true => rfl
  | false =>
    simp only [Bool.false_eq_true, if_false]
    have hr : 1 ≤ q.Kind ∧ q.Kind ≤ 5 := by unfold outK at hok; simp at hok; omega
    have tail : ∀ c : Bool, Q_oneQuery_j9 self q c = if c = true then some 3 else if q.Kind ≤ 2 then Q_isFault q else Q_oneQuery_l1 self q 0 := by
      intro c
      unfold Q_oneQuery_j9
      cases c with
      | true => rfl
      | false =>
        simp only [Bool.false_eq_true, if_false]
        split
        · cases Q_isFault q <;> rfl
        · rfl
    have j8 : ∀ c : Bool, Q_oneQuery_j8 self q c = if (c || (decide (2 < q.Kind) && decide (q.Field ≠ []))) = true then some 3 else if q.Kind ≤ 2 then Q_isFault q else Q_oneQuery_l1 self q 0 := by
      intro c
      unfold Q_oneQuery_j8 Q_oneQuery_j10
      cases c with
      | true => rw [if_pos rfl, tail]; rfl
      | false => rw [if_neg (by simp), tail, Bool.false_or]
    have j7 : ∀ c : Bool, Q_oneQuery_j7 self q c = if (c || ((decide (q.Kind ≠ 1) && (decide (q.Op ≠ []) || (decide (q.Value ≠ zV) || decide (q.Version ≠ zVer)))) || (decide (2 < q.Kind) && decide (q.Field ≠ [])))) = true then some 3 else if q.Kind ≤ 2 then Q_isFault q else Q_oneQuery_l1 self q 0 := by
      intro c
      unfold Q_oneQuery_j7
      cases c with
      | true => rfl
      | false => simp only [Bool.false_eq_true, if_false, Bool.false_or]; rw [j8]
    have hc : slices_ContainsFunc_Query_Query q.Kids (fun y0 => some (Q_oneQuery_1x y0 q)) = some (kidK q) := gContainsFunc_eq _ _ _ (fun x _ => rfl) (by omega)
    have j3 : ∀ c2 c : Bool, Q_oneQuery_j3 self q c2 c = if c = true then some 3 else Q_oneQuery_j7 self q (c2 && kidK q) := by
      intro c2 c
      unfold Q_oneQuery_j3
      cases c with
      | true => rfl
      | false =>
        simp only [Bool.false_eq_true, if_false]
        cases c2 with
        | true => rw [if_pos rfl, hc]; rfl
        | false => rfl
    have all : Q_oneQuery_j1 self q (decide (q.Kind = 4) || decide (q.Kind = 5)) = if ((decide (q.Kind ≤ 2) && decide ((0 : Int) < q.Kids.length)) || ((decide (q.Kind = 3) && decide ((q.Kids.length : Int) ≠ 1)) || ((decide (q.Kind = 4) || decide (q.Kind = 5)) && decide ((q.Kids.length : Int) < 2)))) = true then some 3 else Q_oneQuery_j7 self q ((decide (q.Kind = 4) || decide (q.Kind = 5)) && kidK q) := by
      unfold Q_oneQuery_j1 Q_oneQuery_j2 Q_oneQuery_j4 Q_oneQuery_j6 Q_oneQuery_j5
      simp only [j3]
      cases decide (q.Kind ≤ 2) && decide ((0 : Int) < q.Kids.length) <;> cases decide (q.Kind = 3) && decide ((q.Kids.length : Int) ≠ 1) <;> simp
    rw [all, j7]
    have e : ((decide (q.Kind ≤ 2) && decide ((0 : Int) < q.Kids.length)) || ((decide (q.Kind = 3) && decide ((q.Kids.length : Int) ≠ 1)) || ((decide (q.Kind = 4) || decide (q.Kind = 5)) && decide ((q.Kids.length : Int) < 2))) || (((decide (q.Kind = 4) || decide (q.Kind = 5)) && kidK q) || ((decide (q.Kind ≠ 1) && (decide (q.Op ≠ []) || (decide (q.Value ≠ zV) || decide (q.Version ≠ zVer)))) || (decide (2 < q.Kind) && decide (q.Field ≠ []))))) = badForm q := by
      unfold badForm
      have e1 : decide ((q.Kids.length : Int) < 2) = decide (q.Kids.length < 2) := by rw [decide_eq_decide]; omega
      have e2 : decide ((0 : Int) < q.Kids.length) = decide (q.Kids.length ≠ 0) := by rw [decide_eq_decide]; omega
      have e3 : decide ((q.Kids.length : Int) ≠ 1) = decide (q.Kids.length ≠ 1) := by rw [decide_eq_decide]; omega
      rw [e1, e2, e3]
      generalize (decide (q.Op ≠ []) || (decide (q.Value ≠ zV) || decide (q.Version ≠ zVer))) = ob
      generalize decide (q.Field ≠ []) = fb
      generalize kidK q = kb
      generalize decide (q.Kids.length < 2) = l2
      generalize decide (q.Kids.length ≠ 0) = l0
      generalize decide (q.Kids.length ≠ 1) = l1
      have hcase : q.Kind = 1 ∨ q.Kind = 2 ∨ q.Kind = 3 ∨ q.Kind = 4 ∨ q.Kind = 5 := by omega
      rcases hcase with k | k | k | k | k <;> rw [k] <;> cases ob <;> cases fb <;> cases kb <;> cases l2 <;> cases l0 <;> cases l1 <;> rfl
    rw [← e]
    split
    · rename_i h; simp only [h, Bool.true_or, if_true]
    · rename_i h
      have h : ((decide (q.Kind ≤ 2) && decide ((0 : Int) < q.Kids.length)) || ((decide (q.Kind = 3) && decide ((q.Kids.length : Int) ≠ 1)) || ((decide (q.Kind = 4) || decide (q.Kind = 5)) && decide ((q.Kids.length : Int) < 2)))) = false := by simpa using h
      rw [h, Bool.false_or]
end Go.Beacon

/- Items: what is wrong with them, said twice. No program in sight. -/
set_option linter.unusedVariables false
set_option linter.unusedSimpArgs false
namespace Go.Beacon
open Go Go.Eng

/-! plain words -/
def sufB (s p : Str) : Bool := decide (p.length ≤ s.length) && decide (s.drop (s.length - p.length) = p)
theorem slHasSuffix_eq (s p : Str) (h : s.length ≤ 1000000000) : internal_stringslite_HasSuffix s p = some (sufB s p) := by
  unfold internal_stringslite_HasSuffix internal_stringslite_HasSuffix_j1 sufB
  by_cases c : p.length ≤ s.length
  · rw [if_pos (by omega), w64_in (by omega) (by omega), slc_in (by omega) (by omega) (by omega)]
    simp only [Option.bind_some, Option.some.injEq]
    rw [show ((s.length : Int) - p.length).toNat = s.length - p.length by omega, List.take_of_length_le (by simp)]
    simp [c]
  · rw [if_neg (by omega)]; simp [c]
def contB (s : Str) : Bool := decide (0 ≤ Lib.index s [32, 32])
theorem Contains2_eq (s : Str) (h : s.length ≤ 1000000) : strings_Contains s [32, 32] = some (contB s) := by
  unfold strings_Contains
  show (index2 s [32, 32]).bind _ = _
  unfold index2
  rw [if_pos (by omega)]; rfl
def plnB (s : Str) : Bool := unmB s && (!preB s [32] && (!sufB s [32] && !contB s))
theorem Plain_eq (s : Str) (h : s.length ≤ 1000000) : base_Plain s = some (plnB s) := by
  unfold base_Plain base_Plain_j1 plnB
  rw [Unmarked_eq s h]
  simp only [Option.bind_some]
  cases unmB s with
  | false => rfl
  | true =>
    rw [if_pos rfl, HasPrefixQ_eq _ _ (by omega)]
    simp only [Option.bind_some]
    cases preB s [32] with
    | true => rfl
    | false =>
      simp only [Bool.not_false, if_true]
      unfold strings_HasSuffix
      rw [slHasSuffix_eq _ _ (by omega)]
      simp only [Option.bind_some]
      cases sufB s [32] with
      | true => rfl
      | false => simp only [Bool.not_false, if_true]; rw [Contains2_eq s h]; rfl
theorem dw_iff {α : Type} (p : α → Bool) : ∀ l : List α, l.dropWhile p = l ↔ ∀ x, l.head? = some x → p x = false
  | [] => by simp
  | x :: r => by
    rw [List.dropWhile_cons]
    cases hp : p x with
    | true =>
      simp only [if_true, List.head?_cons, Option.some.injEq]
      constructor
      · intro h
        have h1 : (r.dropWhile p).length ≤ r.length := (List.dropWhile_suffix p).length_le
        rw [h, List.length_cons] at h1; omega
      · intro h; have := h x rfl; rw [hp] at this; cases this
    | false => simp [hp]
theorem trim_same (s : Str) : Lib.trimS s [32] = s ↔ preB s [32] = false ∧ sufB s [32] = false := by
  have hl : (∀ x, s.head? = some x → ([32] : Str).contains x = false) ↔ preB s [32] = false := by
    unfold preB
    cases s with
    | nil => simp
    | cons a r => simp
  have hr : (∀ x, s.reverse.head? = some x → ([32] : Str).contains x = false) ↔ sufB s [32] = false := by
    unfold sufB
    rcases List.eq_nil_or_concat s with rfl | ⟨l, a, rfl⟩
    · simp
    · rw [List.concat_eq_append]; simp
  unfold Lib.trimS Lib.trimLeftS Lib.trimRightS
  rw [← hl, ← hr, ← dw_iff, ← dw_iff]
  constructor
  · intro h
    have h1 : (s.reverse.dropWhile (([32] : Str).contains ·)).reverse.length ≤ s.length := by
      have := (List.dropWhile_suffix (l := s.reverse) (([32] : Str).contains ·)).length_le
      simpa using this
    have h2 := (List.dropWhile_suffix (l := (s.reverse.dropWhile (([32] : Str).contains ·)).reverse) (([32] : Str).contains ·)).length_le
    have h3 : (s.reverse.dropWhile (([32] : Str).contains ·)) = s.reverse := by
      refine (List.dropWhile_suffix (([32] : Str).contains ·)).eq_of_length ?_
      have h4 := congrArg List.length h
      simp only [List.length_reverse] at h1 h2 h4 ⊢
      omega
    rw [h3, List.reverse_reverse] at h
    exact ⟨h, h3⟩
  · rintro ⟨h1, h2⟩
    rw [h2, List.reverse_reverse]; exact h1
theorem Qplain_k3 (s : Str) (h : s.length ≤ 100000) : Q_plain_k3 s = some (Lib.validD s && (!preB s [32] && (!sufB s [32] && !contB s))) := by
  unfold Q_plain_k3 Q_plain_j2 validO
  rw [if_pos (by omega)]
  simp only [Option.bind_some]
  cases Lib.validD s with
  | false => rfl
  | true =>
    rw [if_pos rfl, trimO_eq h (by simp) (by decide)]
    simp only [Option.bind_some]
    by_cases c : Lib.trimS s [32] = s
    · rw [if_pos c.symm, Contains2_eq s (by omega)]
      obtain ⟨c1, c2⟩ := (trim_same s).1 c
      rw [c1, c2]; rfl
    · rw [if_neg (fun k => c k.symm)]
      have := fun k => c ((trim_same s).2 k)
      cases h1 : preB s [32] <;> cases h2 : sufB s [32] <;> first | rfl | exact absurd ⟨h1, h2⟩ this
theorem Qplain_eq (s : Str) (h : s.length ≤ 100000) : Q_plain s = some (plnB s) := by
  unfold Q_plain Q_plain_l1
  have hlen : (bytesI s).length = s.length := by unfold bytesI; simp
  have hf := iter_find (bytesI s) (fun x : Int => Q_plain_b1 s x) (fun v => if (decide (v < 32) || decide (v = 127)) = true then some false else none) (Lib.validD s && (!preB s [32] && (!sufB s [32] && !contB s))) (by omega) (fun i v h0 h1 h2 => by
    show Q_plain_b1 s i = _
    unfold Q_plain_b1 Q_plain_j1
    rw [if_pos h1, h2]
    simp only [Option.bind_some]
    rw [w64_in (by omega) (by omega)]
    cases (decide (v < 32) || decide (v = 127)) <;> rfl) (by
    show Q_plain_b1 s (bytesI s).length = _
    unfold Q_plain_b1
    rw [if_neg (by omega), Qplain_k3 s h]; rfl)
  rw [hf]
  unfold plnB unmB
  congr 1
  have key : ∀ (l : Str) (e : Bool), findE (fun v : Int => if (decide (v < 32) || decide (v = 127)) = true then some false else none) e (bytesI l) = (!l.any badC && e) := by
    intro l e
    unfold bytesI
    induction l with
    | nil => simp [findE]
    | cons c r ih =>
      simp only [List.map_cons, findE, List.any_cons]
      have hb : (decide ((c.toNat : Int) < 32) || decide ((c.toNat : Int) = 127)) = badC c := by
        unfold badC; rw [Bool.eq_iff_iff]; simp <;> omega
      rw [hb]
      cases badC c with
      | true => rfl
      | false => simp only [Bool.false_eq_true, if_false, Bool.false_or]; exact ih
  rw [key, Bool.and_assoc]
theorem TagValue_eq (s : Str) (h : s.length ≤ 1000000) : item_TagValue s = some ((decide (1 ≤ s.length) && decide (s.length ≤ 100)) && plnB s) := by
  unfold item_TagValue item_TagValue_j1
  rw [Out_eq]
  by_cases c : 1 ≤ s.length ∧ s.length ≤ 100
  · rw [if_pos (by simp; omega), Plain_eq s h]; simp [c]
  · rw [if_neg (by simp; omega)]
    rw [eq_comm]; simp; intro h1 h2; omega

/-! one item -/
structure ItB (x : ItemS) : Prop where
  tags : x.Device.Tags.length ≤ 1000
  props : x.Props.length ≤ 1000
  tag : ∀ t ∈ x.Device.Tags, t.Name.length ≤ 100000 ∧ t.Value.length ≤ 100000
  prop : ∀ p ∈ x.Props, p.Name.length ≤ 100000 ∧ p.Value.Words.length ≤ 100000
theorem item_b2 (x : ItemS) (hx : ItB x) (i : Int) : item_Fault_b2 x i = Q_ItemFault_b2 x i := by
  unfold item_Fault_b2 Q_ItemFault_b2
  split
  · cases h : idx x.Props i with
    | none => rfl
    | some p =>
      have hb := hx.prop p (idx_mem h)
      simp only [Option.bind_some]
      have j3 : ∀ c, item_Fault_j3 i p c = Q_ItemFault_j4 i p c := by
        intro c
        unfold item_Fault_j3 Q_ItemFault_j4 item_Fault_j4 Q_ItemFault_j5
        rw [Right_eq _ (by omega), RightValue_eq _ (by omega)]
      rw [Property_eq (by omega), PropName_eq (by omega)]
      simp only [Option.bind_some, j3]
  · rfl
theorem item_l2 (x : ItemS) (hx : ItB x) (i : Int) : item_Fault_l2 x i = Q_ItemFault_l2 x i := iter_same (fun s => item_b2 x hx s) i
theorem item_b1 (x : ItemS) (hx : ItB x) (i : Int) : item_Fault_b1 x i = Q_ItemFault_b1 x i := by
  unfold item_Fault_b1 Q_ItemFault_b1
  split
  · cases h : idx x.Device.Tags i with
    | none => rfl
    | some t =>
      have hb := hx.tag t (idx_mem h)
      simp only [Option.bind_some]
      have j2 : ∀ c, item_Fault_j2 i t c = Q_ItemFault_j2 i t c := by
        intro c
        unfold item_Fault_j2 Q_ItemFault_j2 Q_ItemFault_j3
        cases c with
        | true => rfl
        | false =>
          simp only [Bool.false_eq_true, if_false]
          rw [TagValue_eq _ (by omega), Qplain_eq _ (by omega)]
          simp only [Option.bind_some]
          by_cases e : t.Value = []
          · rw [if_pos e, if_pos (by simp [e])]; rfl
          · rw [if_neg e]
            have hp : 1 ≤ t.Value.length := List.length_pos_iff.2 e
            have : (!((decide (1 ≤ t.Value.length) && decide (t.Value.length ≤ 100)) && plnB t.Value)) = (!plnB t.Value || decide ((100 : Int) < t.Value.length)) := by
              cases plnB t.Value
              · simp
              · have e1 : decide (1 ≤ t.Value.length) = true := decide_eq_true hp
                have e2 : decide ((100 : Int) < t.Value.length) = !decide (t.Value.length ≤ 100) := by rw [Bool.eq_iff_iff]; simp; omega
                rw [e1, e2]; cases decide (t.Value.length ≤ 100) <;> rfl
            rw [this]
      rw [Key_eq, QKeyT_eq]
      simp only [Option.bind_some, j2]
  · unfold item_Fault_k5 Q_ItemFault_k6
    rw [item_l2 x hx]
theorem Fault_eq (x : ItemS) (hx : ItB x) : item_Fault x = Q_ItemFault x := by
  unfold item_Fault Q_ItemFault item_Fault_j1 Q_ItemFault_j1
  have hl : item_Fault_l1 x 0 = Q_ItemFault_l1 x 0 := iter_same (fun s => item_b1 x hx s) 0
  simp only [Key_eq, QKeyT_eq, versionRight_eq, hl]
def PropsR (x : ItemS) : Prop := ∀ p ∈ x.Props, rightB p.Value = true ∧ p.Value.Kind ≠ 0
theorem Fault_l2_ok (x : ItemS) (hx : ItB x) : Ok (item_Fault_l2 x 0) (fun r => r = 0 → PropsR x) := by
  unfold item_Fault_l2
  have hp := hx.props
  refine Ok.rangeI x.Props.length (fun i => ∀ p ∈ x.Props.take i.toNat, rightB p.Value = true ∧ p.Value.Kind ≠ 0) (by simp) (fun i h0 h1 hi => ?_)
  have w1 : w64 (i + 1) = i + 1 := w64_in (by omega) (by omega)
  have w2 : w64 (i - 1) = i - 1 := w64_in (by omega) (by omega)
  unfold item_Fault_b2
  split
  · rename_i hlt
    refine Ok.idx h0 hlt (fun p hpi hpm => ?_)
    have hb := hx.prop p hpm
    rw [Property_eq (by omega)]
    simp only [Option.bind_some]
    have j3 : ∀ c, Ok (item_Fault_j3 i p c) (RngI x.Props.length (fun i => ∀ p ∈ x.Props.take i.toNat, rightB p.Value = true ∧ p.Value.Kind ≠ 0) (fun r => r = 0 → PropsR x) i) := by
      intro c
      unfold item_Fault_j3 item_Fault_j4
      cases c with
      | true => exact Ok.inr (Ok.ret (fun h => by cases h))
      | false =>
        simp only [Bool.false_eq_true, if_false]
        rw [Right_eq _ (by omega)]
        simp only [Option.bind_some]
        split
        · exact Ok.inr (Ok.ret (fun h => by cases h))
        · rename_i hg
          refine Ok.ret ⟨w1, hlt, fun q hq => ?_⟩
          rw [take_succ h0 hpi, List.mem_append, List.mem_singleton] at hq
          rcases hq with hq | rfl
          · exact hi q hq
          · simpa using hg
    split
    · exact Ok.inr (Ok.ret (fun h => by cases h))
    · split
      · rw [w2]
        exact Ok.idx (by omega) (by omega) (fun q _ _ => j3 _)
      · exact j3 _
  · refine Ok.inr (Ok.ret (fun _ => ?_))
    have : x.Props.take i.toNat = x.Props := List.take_of_length_le (by omega)
    rw [this] at hi
    exact hi
theorem Fault_ok (x : ItemS) (hx : ItB x) : Ok (item_Fault x) (fun r => r = 0 → PropsR x) := by
  have ht := hx.tags
  have hl1 : Ok (item_Fault_l1 x 0) (fun r => r = 0 → PropsR x) := by
    unfold item_Fault_l1
    refine Ok.range x.Device.Tags.length (fun i h0 h1 => ?_)
    have w1 : w64 (i + 1) = i + 1 := w64_in (by omega) (by omega)
    have w2 : w64 (i - 1) = i - 1 := w64_in (by omega) (by omega)
    unfold item_Fault_b1
    split
    · rename_i hlt
      refine Ok.idx h0 hlt (fun t hti htm => ?_)
      have hb := hx.tag t htm
      rw [Key_eq]
      simp only [Option.bind_some]
      have j2 : ∀ c, Ok (item_Fault_j2 i t c) (Rng x.Device.Tags.length (fun r => r = 0 → PropsR x) i) := by
        intro c
        unfold item_Fault_j2
        cases c with
        | true => exact Ok.inr (Ok.ret (fun h => by cases h))
        | false =>
          simp only [Bool.false_eq_true, if_false]
          rw [TagValue_eq _ (by omega)]
          simp only [Option.bind_some]
          split
          · exact Ok.inr (Ok.ret (fun h => by cases h))
          · exact Ok.ret ⟨w1, hlt⟩
      split
      · exact Ok.inr (Ok.ret (fun h => by cases h))
      · split
        · rw [w2]
          exact Ok.idx (by omega) (by omega) (fun q _ _ => j2 _)
        · exact j2 _
    · refine Ok.inr ?_
      unfold item_Fault_k5
      split
      · exact Ok.ret (fun h => by cases h)
      · exact Fault_l2_ok x hx
  have j1 : ∀ c, Ok (item_Fault_j1 x c) (fun r => r = 0 → PropsR x) := by
    intro c
    unfold item_Fault_j1
    split
    · exact Ok.ret (fun h => by cases h)
    · split
      · exact Ok.ret (fun h => by cases h)
      · split
        · exact Ok.ret (fun h => by cases h)
        · exact hl1
  unfold item_Fault
  simp only [Key_eq, Option.bind_some]
  split
  · exact j1 _
  · split
    · exact j1 _
    · split <;> exact j1 _
/-! lists of items -/
theorem List_eq (l : List ItemS) (hl : l.length ≤ 100) (hx : ∀ x ∈ l, ItB x) : item_ListFault l = Q_ItemsFault l ∧ Ok (item_ListFault l) (fun r => r = 0 → ∀ x ∈ l, item_Fault x = some 0) := by
  constructor
  · unfold item_ListFault Q_ItemsFault
    have : item_ListFault_l1 l 0 = Q_ItemsFault_l1 l 0 := iter_same (fun i => by
      show item_ListFault_b1 l i = Q_ItemsFault_b1 l i
      unfold item_ListFault_b1 Q_ItemsFault_b1
      split
      · cases h : idx l i with
        | none => rfl
        | some x => simp only [Option.bind_some, Fault_eq x (hx x (idx_mem h))]; rfl
      · rfl) 0
    rw [this]
  · unfold item_ListFault
    rw [if_neg (by omega)]
    unfold item_ListFault_l1
    refine Ok.rangeI l.length (fun i => ∀ x ∈ l.take i.toNat, item_Fault x = some 0) (by simp) (fun i h0 h1 hi => ?_)
    have w1 : w64 (i + 1) = i + 1 := w64_in (by omega) (by omega)
    have w2 : w64 (i - 1) = i - 1 := w64_in (by omega) (by omega)
    unfold item_ListFault_b1
    split
    · rename_i hlt
      refine Ok.idx h0 hlt (fun x hxi hxm => ?_)
      obtain ⟨r, hr, _⟩ := Fault_ok x (hx x hxm)
      rw [hr]
      simp only [Option.bind_some]
      split
      · exact Ok.inr (Ok.ret (fun h => absurd h (by assumption)))
      · rename_i hr0
        have hr0 : r = 0 := Classical.byContradiction hr0
        subst hr0
        have j1 : ∀ c, Ok (item_ListFault_j1 i c) (RngI l.length (fun i => ∀ x ∈ l.take i.toNat, item_Fault x = some 0) (fun r => r = 0 → ∀ x ∈ l, item_Fault x = some 0) i) := by
          intro c
          unfold item_ListFault_j1
          cases c with
          | true => exact Ok.inr (Ok.ret (fun h => by cases h))
          | false =>
            simp only [Bool.false_eq_true, if_false]
            refine Ok.ret ⟨w1, hlt, fun q hq => ?_⟩
            rw [take_succ h0 hxi, List.mem_append, List.mem_singleton] at hq
            rcases hq with hq | rfl
            · exact hi q hq
            · exact hr
        split
        · rw [w2]
          exact Ok.idx (by omega) (by omega) (fun q _ _ => j1 _)
        · exact j1 _
    · refine Ok.inr (Ok.ret (fun _ => ?_))
      have : l.take i.toNat = l := List.take_of_length_le (by omega)
      rw [this] at hi
      exact hi
end Go.Beacon

/- Queries and items as they are drawn. No program in sight. -/
set_option linter.unusedVariables false
set_option linter.unusedSimpArgs false
namespace Go.Beacon
open Go Go.Eng

/-- At most so many parts, all words short. -/
def QS (m : Nat) (q : Query) : Prop := q.subs.length ≤ m ∧ ∀ x ∈ q.subs, StrQ x
theorem QS.mono {m k : Nat} {q : Query} (h : QS m q) (hk : m ≤ k) : QS k q := ⟨Nat.le_trans h.1 hk, h.2⟩
theorem QS.b {m : Nat} {q : Query} (h : QS m q) (hm : m ≤ 5000) : QB q := ⟨Nat.le_trans h.1 hm, h.2⟩
def QSL (m : Nat) (l : List Query) : Prop := (Query.subsL l).length ≤ m ∧ ∀ x ∈ Query.subsL l, StrQ x
theorem subsL_app : ∀ a b : List Query, Query.subsL (a ++ b) = Query.subsL a ++ Query.subsL b
  | [], b => by simp [Query.subsL]
  | x :: a, b => by rw [List.cons_append, Query.subsL, subsL_app a b, Query.subsL, List.append_assoc]
theorem QSL.nil : QSL 0 [] := ⟨by simp [Query.subsL], fun x h => by simp [Query.subsL] at h⟩
theorem QSL.app {m k : Nat} {a b : List Query} (h : QSL m a) (h' : QSL k b) : QSL (m + k) (a ++ b) := by
  unfold QSL
  rw [subsL_app]
  refine ⟨by rw [List.length_append]; have := h.1; have := h'.1; omega, fun x hx => ?_⟩
  rcases List.mem_append.1 hx with k | k
  · exact h.2 x k
  · exact h'.2 x k
theorem QSL.one {m : Nat} {q : Query} (h : QS m q) : QSL m [q] := by
  unfold QSL
  simp only [Query.subsL, List.append_nil]; exact h
theorem QS.kids {m : Nat} {q : Query} (h : QS m q) : QSL (m - 1) q.Kids := by
  obtain ⟨h1, h2⟩ := h
  rw [q.subs_eq] at h1 h2
  rw [List.length_cons] at h1
  exact ⟨by omega, fun x hx => h2 x (List.mem_cons_of_mem _ hx)⟩
theorem QS.mk {m : Nat} {k : Int} {f o : Str} {v : ValueS} {w : Version} {l : List Query} (hf : f.length ≤ 100000) (ho : o.length ≤ 100000) (hv : v.Words.length ≤ 100000) (h : QSL m l) : QS (m + 1) ⟨k, f, o, v, w, l⟩ := by
  unfold QS
  rw [Query.subs_eq]
  refine ⟨by rw [List.length_cons]; exact Nat.succ_le_succ h.1, fun x hx => ?_⟩
  rcases List.mem_cons.1 hx with rfl | hx
  · exact ⟨hf, ho, hv⟩
  · exact h.2 x hx
theorem QS.s {m : Nat} {q : Query} (h : QS m q) : StrQ q := h.2 q q.mem_self
theorem str_in {s : Str} {L : List Str} (h : s ∈ L) (hl : L.all (fun x => decide (x.length ≤ 100)) = true) : s.length ≤ 100000 := by
  have := List.all_eq_true.1 hl s h
  simp at this; omega
theorem leaf1_k {s : Stm} {K : Int} (hs : SOk s K) (hK : 1 ≤ K) : Gen (Stream_leaf_1x s) (K - 1) (fun t => t.length ≤ 100000) := by
  refine Gen.of ?_
  unfold Stream_leaf_1x
  refine Ok.gen (Some_k hs hK (by simp) (by simp)) (fun t s1 h q => Ok.ret ⟨str_in h (by decide), q⟩)
theorem leaf2_k {s : Stm} {K : Int} {L : List Str} (hL : L ≠ [] ∧ L.length ≤ 100 ∧ L.all (fun x => decide (x.length ≤ 100)) = true) (hs : SOk s K) (hK : 1 ≤ K) : Gen (Stream_leaf_2x L s) (K - 1) (fun v => v.Words.length ≤ 100000) := by
  refine Gen.of ?_
  unfold Stream_leaf_2x
  refine Ok.gen (Some_k hs hK hL.1 (by omega)) (fun t s1 h q => Ok.ret ⟨str_in h hL.2.2, q⟩)
theorem leaf_k {s : Stm} {K : Int} (hs : SOk s K) (hK : 6 ≤ K) : Gen (Stream_leaf s) (K - 6) (QS 1) := by
  refine Gen.of ?_
  unfold Stream_leaf
  have done : ∀ {k : Int} {f o : Str} {v : ValueS} {w : Version} {s' : Stm} {K' : Int}, f.length ≤ 100000 → o.length ≤ 100000 → v.Words.length ≤ 100000 → SOk s' K' → K - 6 ≤ K' → Ok (some ((⟨k, f, o, v, w, []⟩ : Query), s')) (fun r => QS 1 r.1 ∧ SOk r.2 (K - 6)) :=
    fun hf ho hv hq hk => Ok.ret ⟨QS.mk hf ho hv QSL.nil, hq.less hk⟩
  refine Ok.gen (Next_k hs (by omega) (by omega) (by omega)) (fun n s1 _ q1 => ?_)
  dsimp only
  split
  · refine Ok.gen (Some_k q1 (by omega) (by simp) (by simp)) (fun t s2 h q2 => ?_)
    exact done (str_in h (by decide)) (by simp) (by simp) q2 (by omega)
  split
  · refine Ok.gen (leaf1_k q1 (by omega)) (fun t s2 h q2 => ?_)
    refine Ok.gen (leaf2_k (by decide) q2 (by omega)) (fun v s3 hv q3 => ?_)
    exact done (by simp) h hv q3 (by omega)
  split
  · refine Ok.gen (Some_k q1 (by omega) (by simp) (by simp)) (fun f s2 hf q2 => ?_)
    refine Ok.gen (leaf1_k q2 (by omega)) (fun t s3 h q3 => ?_)
    refine Ok.gen (leaf2_k (by decide) q3 (by omega)) (fun v s4 hv q4 => ?_)
    exact done (str_in hf (by decide)) h hv q4 (by omega)
  split
  · refine Ok.gen (Some_k q1 (by omega) (by simp [Q_Ops]) (by simp [Q_Ops])) (fun o s2 ho q2 => ?_)
    refine Ok.gen (Next_k q2 (by omega) (by omega) (by omega)) (fun a s3 _ q3 => ?_)
    refine Ok.gen (Pick_k q3 (by omega) (by simp) (by simp)) (fun b s4 _ q4 => ?_)
    refine Ok.gen (Pick_k q4 (by omega) (by simp) (by simp)) (fun c s5 _ q5 => ?_)
    exact done (by simp) (str_in ho (by unfold Q_Ops; decide)) (by simp) q5 (by omega)
  split
  · refine Ok.gen (leaf1_k q1 (by omega)) (fun t s2 h q2 => ?_)
    refine Ok.gen (leaf2_k (by decide) q2 (by omega)) (fun v s3 hv q3 => ?_)
    exact done (by simp) h hv q3 (by omega)
  split
  · refine Ok.gen (leaf1_k q1 (by omega)) (fun t s2 h q2 => ?_)
    refine Ok.gen (Flip_k q2 (by omega) (by omega) (by omega)) (fun b s3 _ q3 => ?_)
    exact done (by simp) h (by simp) q3 (by omega)
  split
  · refine Ok.gen (leaf1_k q1 (by omega)) (fun t s2 h q2 => ?_)
    refine Ok.gen (leaf2_k (by decide) q2 (by omega)) (fun v s3 hv q3 => ?_)
    exact done (by simp) h hv q3 (by omega)
  · refine Ok.gen (Some_k q1 (by omega) (by simp [Q_Ops]) (by simp [Q_Ops])) (fun o s2 ho q2 => ?_)
    refine Ok.gen (Pick_k q2 (by omega) (by simp) (by simp)) (fun c s5 _ q5 => ?_)
    exact done (by simp) (str_in ho (by unfold Q_Ops; decide)) (by simp) q5 (by omega)
/-- How many draws a query of some depth takes, and how many parts it has. -/
def drK : Nat → Int
  | 0 => 10
  | d + 1 => 3 + 3 * drK d
def szK : Nat → Nat
  | 0 => 1
  | d + 1 => 1 + 3 * szK d
theorem drK_pos : ∀ d, 10 ≤ drK d
  | 0 => by simp [drK]
  | d + 1 => by have := drK_pos d; simp only [drK]; omega
theorem szK_pos : ∀ d, 1 ≤ szK d
  | 0 => by simp [szK]
  | d + 1 => by simp only [szK]; omega
theorem RightQuery_l (self : Stm → Int → Option (Query × Stm)) (d : Nat) (hd : d ≤ 1000) (hself : ∀ (s : Stm) (K : Int), SOk s K → drK d ≤ K → Gen (self s d) (K - drK d) (QS (szK d))) (hz : szK d ≤ 1000) (v7 : Int × Stm) (m : Int) (hm : 1 ≤ m ∧ m ≤ 3) (L : List Int) (n : Int) (K : Int) (hs : SOk ⟨L, n⟩ K) (hK : 3 * drK d ≤ K) :
    Ok (Stream_RightQuery_l1 self (d + 1 : Nat) v7 m L n [] 0) (fun r => QS (1 + 3 * szK d) r.1 ∧ SOk r.2 (K - 3 * drK d)) := by
  have hp := drK_pos d
  unfold Stream_RightQuery_l1
  refine Ok.iter (fun x : (List Int) × Int × (List Query) × Int => (3 - x.2.2.2).toNat) (fun x => (0 ≤ x.2.2.2 ∧ x.2.2.2 ≤ m) ∧ SOk ⟨x.1, x.2.1⟩ (K - drK d * x.2.2.2) ∧ QSL (szK d * x.2.2.2.toNat) x.2.2.1) ?_ _ ⟨⟨by simp, by simp; omega⟩, by simpa using hs, by simpa using QSL.nil⟩
  rintro ⟨L, n, l, i⟩ ⟨h0, h1, h2⟩
  dsimp only at h0 h1 h2 ⊢
  have w1 : w64 (i + 1) = i + 1 := w64_in (by omega) (by omega)
  have w2 : w64 (((d + 1 : Nat) : Int) - 1) = d := by rw [show ((d + 1 : Nat) : Int) - 1 = d by omega]; exact w64_in (by omega) (by omega)
  have hlen : l.length ≤ 3000 := by
    have e1 := subsL_len l
    have e2 := h2.1
    have : szK d * i.toNat ≤ 1000 * 3 := Nat.mul_le_mul hz (by omega)
    omega
  have hi3 : i = 0 ∨ i = 1 ∨ i = 2 ∨ i = 3 := by omega
  unfold Stream_RightQuery_b1
  split
  · rename_i hi
    rw [w2]
    have hK' : drK d ≤ K - drK d * i := by rcases hi3 with rfl | rfl | rfl | rfl <;> omega
    refine Ok.gen (hself _ _ h1 hK') (fun q s' hq q' => ?_)
    have hnext : ∀ l' : List Query, QSL (szK d * i.toNat + szK d) l' → Ok (Stream_RightQuery_j4 i (q, s') l') (Stp (fun x : (List Int) × Int × (List Query) × Int => (3 - x.2.2.2).toNat) (fun x => (0 ≤ x.2.2.2 ∧ x.2.2.2 ≤ m) ∧ SOk ⟨x.1, x.2.1⟩ (K - drK d * x.2.2.2) ∧ QSL (szK d * x.2.2.2.toNat) x.2.2.1) (fun r => QS (1 + 3 * szK d) r.1 ∧ SOk r.2 (K - 3 * drK d)) (L, n, l, i)) := by
      intro l' hl'
      unfold Stream_RightQuery_j4
      rw [w1]
      refine Ok.ret ⟨⟨⟨by dsimp only; omega, by dsimp only; omega⟩, ?_, ?_⟩, by dsimp only; omega⟩
      · dsimp only
        have e : K - drK d * (i + 1) = K - drK d * i - drK d := by rw [Int.mul_add]; omega
        rw [e]; exact q'
      · dsimp only
        have e : szK d * (i + 1).toNat = szK d * i.toNat + szK d := by rw [show (i + 1).toNat = i.toNat + 1 by omega, Nat.mul_succ]
        rw [e]; exact hl'
    have hql := hq.kids
    have hk2 : q.Kids.length ≤ 1000 := by
      have e1 := subsL_len q.Kids
      have e2 := hql.1
      omega
    unfold Stream_RightQuery_j3
    split
    · refine Ok.app (by dsimp only; omega) ?_
      exact hnext _ (QSL.app h2 ⟨Nat.le_trans hql.1 (by omega), hql.2⟩)
    · refine Ok.app (by simp; omega) ?_
      exact hnext _ (QSL.app h2 (QSL.one hq))
  · refine Ok.inr (Ok.ret ⟨?_, ?_⟩)
    · have e : szK d * i.toNat ≤ 3 * szK d := by rw [Nat.mul_comm]; exact Nat.mul_le_mul_right _ (by omega)
      have := QS.mk (k := v7.1) (f := []) (o := []) (v := ⟨0, false, 0, []⟩) (w := ⟨0, 0, 0⟩) (by simp) (by simp) (by simp) h2
      exact this.mono (by omega)
    · have : drK d * i ≤ 3 * drK d := by rcases hi3 with rfl | rfl | rfl | rfl <;> omega
      exact h1.less (by omega)
theorem RightQuery_k : ∀ (d : Nat) (f : Nat), d < f → d ≤ 3 → ∀ (s : Stm) (K : Int), SOk s K → drK d ≤ K → Gen (Stream_RightQuery_r f s d) (K - drK d) (QS (szK d))
  | 0, f + 1, _, _, s, K, hs, hK => by
    have hp := drK_pos 0
    refine Gen.of ?_
    show Ok (Stream_RightQuery_bd (Stream_RightQuery_r f) s ((0 : Nat) : Int)) _
    unfold Stream_RightQuery_bd
    rw [if_pos (by simp)]
    unfold Stream_RightQuery_j1
    rw [if_pos rfl]
    refine Ok.gen (leaf_k (s := ⟨s.L, s.at_⟩) hs (by omega)) (fun q s1 hq q1 => Ok.ret ⟨hq, q1.less (by omega)⟩)
  | d + 1, f + 1, hf, hd, s, K, hs, hK => by
    have hp := drK_pos d
    have hz : szK d ≤ 1000 := by
      have hd' : d = 0 ∨ d = 1 ∨ d = 2 := by omega
      rcases hd' with rfl | rfl | rfl <;> decide
    have hself := RightQuery_k d f (by omega) (by omega)
    have hKd : 3 + 3 * drK d ≤ K := hK
    refine Gen.of ?_
    show Ok (Stream_RightQuery_bd (Stream_RightQuery_r f) s ((d + 1 : Nat) : Int)) (fun r => QS (1 + 3 * szK d) r.1 ∧ SOk r.2 (K - (3 + 3 * drK d)))
    unfold Stream_RightQuery_bd
    rw [if_neg (by omega)]
    refine Ok.gen (Flip_k hs (by omega) (by omega) (by omega)) (fun c s1 _ q1 => ?_)
    dsimp only
    unfold Stream_RightQuery_j1
    split
    · refine Ok.gen (leaf_k (s := ⟨s1.L, s1.at_⟩) q1 (by omega)) (fun q s2 hq q2 => Ok.ret ⟨hq.mono (by have := szK_pos d; omega), q2.less (by omega)⟩)
    · refine Ok.gen (Pick_k (s := ⟨s1.L, s1.at_⟩) q1 (by omega) (by simp) (by simp)) (fun k s2 _ q2 => ?_)
      dsimp only
      have fin : ∀ (m : Int) (s3 : Stm) (K3 : Int), 1 ≤ m ∧ m ≤ 3 → SOk s3 K3 → K - 3 ≤ K3 → Ok (Stream_RightQuery_j2 (Stream_RightQuery_r f) ((d + 1 : Nat) : Int) (k, s2) s3.L s3.at_ m) (fun r => QS (1 + 3 * szK d) r.1 ∧ SOk r.2 (K - (3 + 3 * drK d))) := by
        intro m s3 K3 hm h3 hk3
        unfold Stream_RightQuery_j2
        refine (RightQuery_l (Stream_RightQuery_r f) d (by omega) hself hz (k, s2) m hm s3.L s3.at_ K3 h3 (by omega)).mono (fun r hr => ⟨hr.1, hr.2.less (by omega)⟩)
      split
      · refine Ok.gen (Pick_k q2 (by omega) (by simp) (by simp)) (fun m s3 hm q3 => ?_)
        dsimp only
        have := pick_le (lo := 2) (hi := 3) hm (by decide)
        exact fin m s3 _ (by omega) q3 (by omega)
      · exact fin 1 s2 _ (by omega) q2 (by omega)
theorem Query_k {s : Stm} {K : Int} (hs : SOk s K) (hK : 150 ≤ K) : Gen (Stream_Query s) (K - 150) QB := by
  refine Gen.of ?_
  unfold Stream_Query
  refine Ok.gen (Pick_k hs (by omega) (by simp) (by simp)) (fun d s1 hd q1 => ?_)
  have hd' := pick_le (lo := 0) (hi := 2) hd (by decide)
  obtain ⟨e, rfl⟩ : ∃ e : Nat, d = e := ⟨d.toNat, by omega⟩
  have he : e ≤ 2 := by omega
  have hdr : drK e ≤ 129 := by
    have : e = 0 ∨ e = 1 ∨ e = 2 := by omega
    rcases this with rfl | rfl | rfl <;> decide
  have hsz : szK e ≤ 13 := by
    have : e = 0 ∨ e = 1 ∨ e = 2 := by omega
    rcases this with rfl | rfl | rfl <;> decide
  have hp := drK_pos e
  have hrq := RightQuery_k e depth (by unfold depth; omega) (by omega) s1 (K - 1) q1 (by omega)
  dsimp only
  refine Ok.gen (P := QS (szK e)) (k := K - 1 - drK e) hrq (fun q s2 hq q2 => ?_)
  have hq := hq.mono hsz
  have hqs := hq.s
  have hqk := hq.kids
  dsimp only
  refine Ok.gen (Flip_k q2 (by omega) (by omega) (by omega)) (fun c s3 _ q3 => ?_)
  have j1 : ∀ {L : List Int} {n k : Int} {f o : Str} {a : Int} {b : Bool} {c : Int} {w : Str} {x y z : Int} {l : List Query} {K' : Int}, SOk ⟨L, n⟩ K' → K - 150 ≤ K' → f.length ≤ 100000 → o.length ≤ 100000 → w.length ≤ 100000 → QSL 100 l → Ok (Stream_Query_j1 L n k f o a b c w x y z l) (fun r => QB r.1 ∧ SOk r.2 (K - 150)) := by
    intro L n k f o a b c w x y z l K' h1 h2 h3 h4 h5 h6
    exact Ok.ret ⟨(QS.mk (v := ⟨a, b, c, w⟩) h3 h4 h5 h6).b (by omega), h1.less h2⟩
  have hk100 : QSL 100 q.Kids := ⟨by have := hqk.1; omega, hqk.2⟩
  dsimp only
  split
  · refine Ok.gen (Next_k q3 (by omega) (by omega) (by omega)) (fun t s4 _ q4 => ?_)
    dsimp only
    split
    · refine Ok.gen (Odd_k q4 (by omega) (by omega) (by omega) (by omega)) (fun u s5 _ q5 => ?_)
      exact j1 q5 (by omega) hqs.field hqs.op hqs.words hk100
    split
    · refine Ok.gen (Some_k q4 (by omega) (by simp) (by simp)) (fun u s5 hu q5 => ?_)
      exact j1 q5 (by omega) (str_in hu (by decide)) hqs.op hqs.words hk100
    split
    · refine Ok.gen (Some_k q4 (by omega) (by simp) (by simp)) (fun u s5 hu q5 => ?_)
      exact j1 q5 (by omega) hqs.field (str_in hu (by decide)) hqs.words hk100
    split
    · refine Ok.gen (Next_k q4 (by omega) (by omega) (by omega)) (fun u s5 hu q5 => ?_)
      dsimp only
      refine Ok.idx hu.1 (by simpa using hu.2) (fun v _ hv => ?_)
      refine j1 q5 (by omega) hqs.field hqs.op ?_ hk100
      simp only [List.mem_cons, List.not_mem_nil, or_false] at hv
      rcases hv with rfl | rfl | rfl | rfl | rfl <;> simp
    split
    · unfold slices_Clone_Query_Query
      have hkl : q.Kids.length ≤ 100 := by
        have e1 := subsL_len q.Kids
        have e2 := hqk.1
        omega
      refine Ok.app (by simp; omega) ?_
      refine Ok.gen (leaf_k q4 (by omega)) (fun u s5 hu q5 => ?_)
      refine Ok.app (by simp; omega) ?_
      refine j1 q5 (by omega) hqs.field hqs.op hqs.words ?_
      rw [List.nil_append]
      have := QSL.app hqk (QSL.one hu)
      exact ⟨Nat.le_trans this.1 (by omega), this.2⟩
    · refine Ok.gen (Pick_k q4 (by omega) (by simp) (by simp)) (fun m s5 hm q5 => ?_)
      have hm' := pick_le (lo := 18) (hi := 20) hm (by decide)
      unfold Stream_Query_l1
      refine Ok.iter (fun x : Int × Str × Str × Int × Bool × Int × Str × Int × Int × Int × (List Query) × Int => (20 - x.2.2.2.2.2.2.2.2.2.2.2).toNat)
        (fun x => (0 ≤ x.2.2.2.2.2.2.2.2.2.2.2 ∧ x.2.2.2.2.2.2.2.2.2.2.2 ≤ 20) ∧ (x.2.1.length ≤ 100000 ∧ x.2.2.1.length ≤ 100000 ∧ x.2.2.2.2.2.2.1.length ≤ 100000) ∧ QSL (12 + x.2.2.2.2.2.2.2.2.2.2.2.toNat) x.2.2.2.2.2.2.2.2.2.2.1) ?_ _ ⟨by simp, ⟨hqs.field, hqs.op, hqs.words⟩, ⟨by have := hqk.1; simp; omega, hqk.2⟩⟩
      rintro ⟨k, f, o, a, b, c, w, x, y, z, l, i⟩ ⟨h0, h1, h2⟩
      dsimp only at h0 h1 h2 ⊢
      unfold Stream_Query_b1
      split
      · rename_i hi
        dsimp only at hi
        rw [w64_in (by omega) (by omega)]
        refine Ok.ret ⟨⟨⟨by dsimp only; omega, by dsimp only; omega⟩, ⟨by simp, by simp, by simp⟩, ?_⟩, by dsimp only; omega⟩
        have := QSL.one (QS.mk (k := k) (w := ⟨x, y, z⟩) (v := ⟨a, b, c, w⟩) h1.1 h1.2.1 h1.2.2 h2)
        dsimp only
        exact ⟨by have := this.1; omega, this.2⟩
      · refine Ok.inr ?_
        exact j1 q5 (by omega) h1.1 h1.2.1 h1.2.2 ⟨by have := h2.1; omega, h2.2⟩
  · exact j1 q3 (by omega) hqs.field hqs.op hqs.words hk100
end Go.Beacon

/- Items that match a query: both ways of asking. No program in sight. -/
set_option linter.unusedVariables false
set_option linter.unusedSimpArgs false
namespace Go.Beacon
open Go Go.Eng

/-! what a field has -/
def wV (s : Str) : ValueS := ⟨3, false, 0, s⟩
def tagsV (x : ItemS) (f : Str) : Option ValueS := (x.Device.Tags.find? (fun t => decide (sTag ++ t.Name = f))).map (fun t => wV t.Value)
def propsV (x : ItemS) (f : Str) : Option ValueS := (x.Props.find? (fun p => decide (sProp ++ p.Name = f))).map PropS.Value
def heldB (o : Option ValueS) : Item_Held := match o with
  | some v => ⟨true, v, zVer⟩
  | none => ⟨false, zV, zVer⟩
theorem findE_find {α A : Type} (p : α → Bool) (g : α → A) (e : A) : ∀ l : List α, findE (fun x => if p x = true then some (g x) else none) e l = ((l.find? p).map g).getD e
  | [] => rfl
  | x :: r => by
    rw [findE, List.find?_cons]
    cases hp : p x with
    | true => simp
    | false => simp only [Bool.false_eq_true, if_false]; exact findE_find p g e r
theorem pre_app (p s f : Str) : p ++ s = f ↔ preB f p = true ∧ f.drop p.length = s := by
  unfold preB
  rw [decide_eq_true_eq]
  constructor
  · rintro rfl; simp
  · rintro ⟨h1, rfl⟩
    conv => rhs; rw [← List.take_append_drop p.length f, h1]
theorem tags_none {x : ItemS} {f : Str} (h : preB f sTag = false) : tagsV x f = none := by
  unfold tagsV
  rw [List.find?_eq_none.2]
  · rfl
  · intro t _ k
    have := ((pre_app _ _ _).1 (of_decide_eq_true k)).1
    rw [h] at this; cases this
theorem props_none {x : ItemS} {f : Str} (h : preB f sProp = false) : propsV x f = none := by
  unfold propsV
  rw [List.find?_eq_none.2]
  · rfl
  · intro t _ k
    have := ((pre_app _ _ _).1 (of_decide_eq_true k)).1
    rw [h] at this; cases this
theorem cat5 (a s : Str) (ha : a.length ≤ 10) (h : s.length ≤ 100000) : catO a s = some (a ++ s) := cat_le (by omega)
def anyV (x : ItemS) (f : Str) : Option ValueS := (tagsV x f).or (propsV x f)
theorem look_props (x : ItemS) (hx : ItB x) (f : Str) : item_look_l2 x f 0 = some (heldB (propsV x f)) := by
  unfold item_look_l2
  have hp := hx.props
  rw [iter_find x.Props (fun i : Int => item_look_b2 x f i) (fun p => if (fun p : PropS => decide (sProp ++ p.Name = f)) p = true then some (heldB (some p.Value)) else none) (heldB none) (by omega), findE_find (fun p : PropS => decide (sProp ++ p.Name = f)) (fun p => heldB (some p.Value))]
  · unfold propsV
    cases x.Props.find? (fun p => decide (sProp ++ p.Name = f)) <;> rfl
  · intro i p h0 h1 h2
    have hb := hx.prop p (idx_mem h2)
    show item_look_b2 x f i = _
    unfold item_look_b2
    rw [if_pos h1, h2]
    simp only [Option.bind_some]
    rw [cat5 _ _ (by simp) hb.1]
    simp only [Option.bind_some]
    rw [w64_in (by omega) (by omega)]
    by_cases c : sProp ++ p.Name = f
    · rw [if_pos c]; simp [c]; rfl
    · rw [if_neg c]; simp only [c, decide_false, Bool.false_eq_true, if_false]
  · show item_look_b2 x f x.Props.length = _
    unfold item_look_b2
    rw [if_neg (by omega)]; rfl
theorem look_tags (x : ItemS) (hx : ItB x) (f : Str) (hf : preB f sTag = true) : item_look_l1 x (f.drop 4, true) 0 = some (heldB (tagsV x f)) := by
  unfold item_look_l1
  have hp := hx.tags
  have hn : ∀ t : Pair, (t.Name = f.drop 4) ↔ sTag ++ t.Name = f := fun t => by
    rw [pre_app]; exact ⟨fun h => ⟨hf, h.symm⟩, fun h => h.2.symm⟩
  rw [iter_find x.Device.Tags (fun i : Int => item_look_b1 x (f.drop 4, true) i) (fun t => if (fun t : Pair => decide (sTag ++ t.Name = f)) t = true then some (heldB (some (wV t.Value))) else none) (heldB none) (by omega), findE_find (fun t : Pair => decide (sTag ++ t.Name = f)) (fun t => heldB (some (wV t.Value)))]
  · unfold tagsV
    cases x.Device.Tags.find? (fun t => decide (sTag ++ t.Name = f)) <;> rfl
  · intro i t h0 h1 h2
    show item_look_b1 x (f.drop 4, true) i = _
    unfold item_look_b1
    rw [if_pos h1, h2]
    simp only [Option.bind_some]
    rw [w64_in (by omega) (by omega)]
    by_cases c : sTag ++ t.Name = f
    · rw [if_pos ((hn t).2 c)]; simp [c]; rfl
    · rw [if_neg (fun k => c ((hn t).1 k))]; simp only [c, decide_false, Bool.false_eq_true, if_false]
  · show item_look_b1 x (f.drop 4, true) x.Device.Tags.length = _
    unfold item_look_b1
    rw [if_neg (by omega)]; rfl
theorem fieldOf_props (x : ItemS) (hx : ItB x) (f : Str) : Q_fieldOf_l2 x f 0 = some ((propsV x f).getD zV) := by
  unfold Q_fieldOf_l2
  have hp := hx.props
  rw [iter_find x.Props (fun i : Int => Q_fieldOf_b2 x f i) (fun p => if (fun p : PropS => decide (sProp ++ p.Name = f)) p = true then some p.Value else none) zV (by omega), findE_find (fun p : PropS => decide (sProp ++ p.Name = f)) PropS.Value]
  · rfl
  · intro i p h0 h1 h2
    have hb := hx.prop p (idx_mem h2)
    show Q_fieldOf_b2 x f i = _
    unfold Q_fieldOf_b2
    rw [if_pos h1, h2]
    simp only [Option.bind_some]
    rw [cat5 _ _ (by simp) hb.1]
    simp only [Option.bind_some]
    rw [w64_in (by omega) (by omega)]
    by_cases c : sProp ++ p.Name = f
    · rw [if_pos c.symm]; simp [c]
    · rw [if_neg (fun k => c k.symm)]; simp only [c, decide_false, Bool.false_eq_true, if_false]
  · show Q_fieldOf_b2 x f x.Props.length = _
    unfold Q_fieldOf_b2
    rw [if_neg (by omega)]; rfl
theorem fieldOf_all (x : ItemS) (hx : ItB x) (f : Str) : Q_fieldOf_l1 x f 0 = some ((anyV x f).getD zV) := by
  unfold Q_fieldOf_l1
  have hp := hx.tags
  rw [iter_find x.Device.Tags (fun i : Int => Q_fieldOf_b1 x f i) (fun t => if (fun t : Pair => decide (sTag ++ t.Name = f)) t = true then some (wV t.Value) else none) ((propsV x f).getD zV) (by omega), findE_find (fun t : Pair => decide (sTag ++ t.Name = f)) (fun t => wV t.Value)]
  · unfold anyV tagsV
    cases x.Device.Tags.find? (fun t => decide (sTag ++ t.Name = f)) <;> rfl
  · intro i t h0 h1 h2
    have hb := hx.tag t (idx_mem h2)
    show Q_fieldOf_b1 x f i = _
    unfold Q_fieldOf_b1
    rw [if_pos h1, h2]
    simp only [Option.bind_some]
    rw [cat5 _ _ (by simp) hb.1]
    simp only [Option.bind_some]
    rw [w64_in (by omega) (by omega)]
    by_cases c : sTag ++ t.Name = f
    · rw [if_pos c.symm]; simp [c]; rfl
    · rw [if_neg (fun k => c k.symm)]; simp only [c, decide_false, Bool.false_eq_true, if_false]
  · show Q_fieldOf_b1 x f x.Device.Tags.length = _
    unfold Q_fieldOf_b1
    rw [if_neg (by omega), fieldOf_props x hx f]; rfl
/-- Both look-ups: what the field has, if anything; the version apart. -/
theorem look_both (x : ItemS) (hx : ItB x) (f : Str) (hf : f.length ≤ 100000) (hn : f ≠ sFirm) : ∃ o : Option ValueS, item_look x f = some (heldB o) ∧ Q_fieldOf x f = some (o.getD zV) ∧ (PropsR x → ∀ v, o = some v → v.Kind ≠ 0 ∧ rightB v = true ∨ (∃ s, v = wV s)) := by
  unfold item_look Q_fieldOf
  by_cases c1 : f = [107, 101, 121]
  · rw [if_pos c1, if_pos c1]; exact ⟨some (wV x.Device.Key), rfl, rfl, fun _ v h => .inr ⟨_, (Option.some.inj h).symm⟩⟩
  by_cases c2 : f = [109, 111, 100, 101, 108]
  · rw [if_neg c1, if_neg c1, if_pos c2, if_pos c2]; exact ⟨some (wV x.Device.Model), rfl, rfl, fun _ v h => .inr ⟨_, (Option.some.inj h).symm⟩⟩
  by_cases c3 : f = [116, 101, 110, 97, 110, 116]
  · rw [if_neg c1, if_neg c1, if_neg c2, if_neg c2, if_pos c3, if_pos c3]; exact ⟨some (wV x.Device.Tenant), rfl, rfl, fun _ v h => .inr ⟨_, (Option.some.inj h).symm⟩⟩
  rw [if_neg c1, if_neg c1, if_neg c2, if_neg c2, if_neg c3, if_neg c3, if_neg hn, CutPrefix_eq _ _ (by omega), fieldOf_all x hx f]
  simp only [Option.bind_some]
  refine ⟨anyV x f, ?_, rfl, fun hr v hv => ?_⟩
  · unfold anyV
    cases hp : preB f sTag with
    | true =>
      rw [if_pos rfl, if_pos rfl, show sTag.length = 4 from rfl, look_tags x hx f hp, props_none (not_tag_prop hp)]
      cases tagsV x f <;> rfl
    | false =>
      rw [if_neg (by simp), look_props x hx f, tags_none hp]
      rfl
  · unfold anyV at hv
    cases ht : tagsV x f with
    | some u =>
      rw [ht] at hv
      obtain rfl := Option.some.inj hv
      unfold tagsV at ht
      obtain ⟨t, _, rfl⟩ := Option.map_eq_some_iff.1 ht
      exact .inr ⟨_, rfl⟩
    | none =>
      rw [ht] at hv
      have hv : propsV x f = some v := hv
      unfold propsV at hv
      obtain ⟨p, h1, rfl⟩ := Option.map_eq_some_iff.1 hv
      have := hr p (List.mem_of_find?_eq_some h1)
      exact .inl ⟨this.2, this.1⟩
/-! comparisons -/
def opH (op : Str) (n : Int) : Bool := if op = [61, 61] then decide (n = 0) else if op = [33, 61] then decide (n ≠ 0) else if op = [60] then decide (n < 0) else if op = [60, 61] then decide (n ≤ 0) else if op = [62] then decide (0 < n) else decide (0 ≤ n)
theorem comp_j2 (q : Query) (n : Int) : item_compared_j2 q n = some (opH q.Op n) := by
  unfold item_compared_j2 opH
  simp only [some_ite]
theorem compares_eq (op : Str) (n : Int) (h : op ∈ opsL) : Q_compares op n = some (opH op n) := by
  unfold opsL at h
  simp only [List.mem_cons, List.not_mem_nil, or_false] at h
  unfold Q_compares
  rcases h with rfl | rfl | rfl | rfl | rfl | rfl <;> rfl
theorem opH_zero {op : Str} {n m : Int} (h : op = [61, 61] ∨ op = [33, 61]) (e : n = 0 ↔ m = 0) : opH op n = opH op m := by
  unfold opH
  rcases h with rfl | rfl
  · rw [if_pos rfl, if_pos rfl, decide_eq_decide]; exact e
  · have e1 : ¬ ([33, 61] : Str) = [61, 61] := by decide
    rw [if_neg e1, if_pos rfl, if_neg e1, if_pos rfl, decide_eq_decide]; exact not_congr e
/-- What is known of a right comparison. -/
structure LeafR (q : Query) : Prop where
  op : q.Op ∈ opsL
  firm : q.Field = sFirm → q.Value = zV
  val : q.Field ≠ sFirm → rightB q.Value = true ∧ q.Value.Kind ≠ 0 ∧ (q.Value.Kind ≠ 2 → q.Op = [61, 61] ∨ q.Op = [33, 61])
theorem leafR {q : Query} (h : lF q = 0) (k : q.Kind = 1) : LeafR q := by
  unfold lF at h
  split at h
  · cases h
  rw [if_neg (by omega)] at h
  split at h
  · cases h
  rename_i hop
  have hop : q.Op ∈ opsL := Classical.byContradiction hop
  split at h
  · cases h
  rename_i h1
  split at h
  · cases h
  split at h
  · rename_i hf
    have hf' : q.Field = sFirm := of_decide_eq_true hf
    exact ⟨hop, fun _ => Classical.byContradiction fun k => h1 ⟨hf, k⟩, fun k => absurd hf' k⟩
  · rename_i hf
    split at h
    · cases h
    rename_i h4
    split at h
    · cases h
    rename_i h5
    rw [not_or, not_or] at h4
    rw [not_or] at h5
    refine ⟨hop, fun k => absurd (decide_eq_true k) hf, fun _ => ⟨by simpa using h4.2.1, h4.2.2, fun hk => ?_⟩⟩
    apply Classical.byContradiction
    intro hn
    rw [not_or] at hn
    exact h5.2 ⟨hk, hn.1, hn.2⟩
theorem rightB_2 {v : ValueS} (h : rightB v = true) (k : v.Kind = 2) : v.Flag = false ∧ v.Words = [] := by
  unfold rightB at h
  simp [k] at h
  exact ⟨h.1.1, h.1.2⟩
theorem rightB_1 {v : ValueS} (h : rightB v = true) (k : v.Kind = 1) : v.Number = 0 ∧ v.Words = [] := by
  unfold rightB at h
  simp [k] at h
  exact ⟨h.1.1, h.1.2⟩
theorem rightB_3 {v : ValueS} (h : rightB v = true) (k : v.Kind = 3) : v.Flag = false ∧ v.Number = 0 := by
  unfold rightB at h
  simp [k] at h
  exact ⟨h.1.1, h.1.2⟩
theorem rightB_r {v : ValueS} (h : rightB v = true) : 0 ≤ v.Kind ∧ v.Kind ≤ 3 := by
  unfold rightB at h
  simp at h
  exact h.1
theorem vEq {v u : ValueS} (k : v.Kind = u.Kind) (f : v.Flag = u.Flag) (n : v.Number = u.Number) (w : v.Words = u.Words) : v = u := by
  obtain ⟨a, b, c, d⟩ := v
  obtain ⟨a', b', c', d'⟩ := u
  simp only at k f n w
  rw [k, f, n, w]
/-- What is not used is not there. -/
def Used (v : ValueS) : Prop := (v.Kind = 1 → v.Number = 0 ∧ v.Words = []) ∧ (v.Kind = 2 → v.Flag = false ∧ v.Words = []) ∧ (v.Kind = 3 → v.Flag = false ∧ v.Number = 0)
theorem Used.of {v : ValueS} (h : rightB v = true) : Used v := ⟨rightB_1 h, rightB_2 h, rightB_3 h⟩
theorem Used.w (s : Str) : Used (wV s) := ⟨fun h => (by simp [wV] at h), fun h => (by simp [wV] at h), fun _ => ⟨rfl, rfl⟩⟩
def refN (a b : ValueS) : Int := if a.Flag ≠ b.Flag then 1 else orL [cmpI a.Number b.Number, Lib.compareBytes a.Words b.Words]
theorem cmpQ_self (s : Str) : Lib.compareBytes s s = 0 := by
  induction s with
  | nil => rfl
  | cons c r ih => simp [Lib.compareBytes, ih]
theorem cmpQI_self (n : Int) : cmpI n n = 0 := by unfold cmpI; simp
/-- The number that the program compares with, and the reference's. -/
theorem cmp_same (q : Query) (hq : LeafR q) (hn : q.Field ≠ sFirm) (v : ValueS) (hv : Used v) (hk : v.Kind = q.Value.Kind) :
    opH q.Op (if v.Kind = 2 then cmpI v.Number q.Value.Number else if v ≠ q.Value then 1 else 0) = opH q.Op (refN v q.Value) := by
  obtain ⟨r1, r2, r3⟩ := hq.val hn
  have hr := rightB_r r1
  have hcase : v.Kind = 1 ∨ v.Kind = 2 ∨ v.Kind = 3 := by omega
  unfold refN
  rcases hcase with k | k | k
  · rw [if_neg (by omega)]
    refine opH_zero (r3 (by omega)) ?_
    obtain ⟨a1, a2⟩ := hv.1 k
    obtain ⟨b1, b2⟩ := rightB_1 r1 (by omega)
    rw [a1, a2, b1, b2, cmpQI_self, cmpQ_self, orL2]
    by_cases hf : v.Flag = q.Value.Flag
    · have : v = q.Value := vEq hk hf (by rw [a1, b1]) (by rw [a2, b2])
      rw [if_neg (fun h => h this), if_neg (fun h => h hf)]; simp
    · rw [if_pos (fun h => hf (by rw [h])), if_pos hf]
  · rw [if_pos k]
    obtain ⟨a1, a2⟩ := hv.2.1 k
    obtain ⟨b1, b2⟩ := rightB_2 r1 (by omega)
    rw [a1, a2, b1, b2, cmpQ_self, orL2, if_neg (by simp)]
    congr 1
    split
    · rfl
    · rename_i h; exact Classical.byContradiction fun k => h k
  · rw [if_neg (by omega)]
    refine opH_zero (r3 (by omega)) ?_
    obtain ⟨a1, a2⟩ := hv.2.2 k
    obtain ⟨b1, b2⟩ := rightB_3 r1 (by omega)
    have e0 : ¬ ((0 : Int) ≠ 0) := by simp
    have e1 : ¬ (false ≠ false) := by simp
    rw [a1, a2, b1, b2, cmpQI_self, orL2, if_neg e1, if_neg e0]
    by_cases hw : v.Words = q.Value.Words
    · have : v = q.Value := vEq hk (by rw [a1, b1]) (by rw [a2, b2]) hw
      rw [if_neg (fun h => h this), hw, cmpQ_self]
    · rw [if_pos (fun h => hw (by rw [h]))]
      exact ⟨fun h => (by cases h), fun h => absurd (cmpB_zero h) hw⟩
where
  cmpB_zero {a b : Str} (h : Lib.compareBytes a b = 0) : a = b := by
    induction a generalizing b with
    | nil => cases b with
      | nil => rfl
      | cons c r => simp [Lib.compareBytes] at h
    | cons c r ih => cases b with
      | nil => simp [Lib.compareBytes] at h
      | cons d s =>
        simp only [Lib.compareBytes] at h
        split at h
        · cases h
        · split at h
          · cases h
          · rename_i h1 h2
            have : c = d := by
              rw [← UInt8.toNat_inj]
              simp [UInt8.lt_iff_toNat_lt] at h1 h2
              omega
            rw [this, ih h]
end Go.Beacon

/- Queries and items: all that is asked of both. No program in sight. -/
set_option linter.unusedVariables false
set_option linter.unusedSimpArgs false
namespace Go.Beacon
open Go Go.Eng

/-! what is wrong with a query -/
theorem part_step (n : Nat) (q : Query) (hq : QB q) : item_partFault_r (n + 1) q = if fF q ≠ 0 then some (fF q) else if leafK q = true then some (lF q) else item_partFault_l1 (item_partFault_r n) q 0 := by
  show item_partFault_bd (item_partFault_r n) q = _
  unfold item_partFault_bd item_partFault_j1
  rw [formFault_eq q hq, leafFault_eq q hq.s]
  rfl
theorem one_step (n : Nat) (q : Query) (hq : QB q) : Q_oneQuery_r (n + 1) q = if fF q ≠ 0 then some (fF q) else if leafK q = true then some (lF q) else Q_oneQuery_l1 (Q_oneQuery_r n) q 0 := by
  show Q_oneQuery_bd (Q_oneQuery_r n) q = _
  rw [oneForm_eq _ q hq, isFault_eq q hq.s]
  unfold fF
  cases ho : outK q with
  | true => rfl
  | false =>
    simp only [Bool.false_eq_true, if_false]
    cases hb : badForm q with
    | true => rfl
    | false =>
      simp only [Bool.false_eq_true, if_false]
      have hr : 1 ≤ q.Kind ∧ q.Kind ≤ 5 := by unfold outK at ho; simp at ho; omega
      have e : (q.Kind ≤ 2) ↔ leafK q = true := by unfold leafK; simp; omega
      by_cases c : q.Kind ≤ 2
      · rw [if_pos c, if_neg (fun h => h rfl), if_pos (e.1 c)]
      · rw [if_neg c, if_neg (fun h => h rfl), if_neg (fun h => c (e.2 h))]
theorem part_l1 (self : Query → Option Int) (r : Query → Int) (q : Query) (hq : QB q) (h : ∀ c ∈ q.Kids, self c = some (r c)) : item_partFault_l1 self q 0 = some (findE (fun c => if r c ≠ 0 then some (r c) else none) 0 q.Kids) ∧ Q_oneQuery_l1 self q 0 = some (findE (fun c => if r c ≠ 0 then some (r c) else none) 0 q.Kids) := by
  have hk := hq.kids
  constructor
  · unfold item_partFault_l1
    refine iter_find q.Kids (fun x : Int => item_partFault_b1 self q x) (fun c => if r c ≠ 0 then some (r c) else none) 0 (by omega) (fun i c h0 h1 h2 => ?_) ?_
    · show item_partFault_b1 self q i = _
      unfold item_partFault_b1
      rw [if_pos h1, h2]
      simp only [Option.bind_some]
      rw [h c (idx_mem h2)]
      simp only [Option.bind_some]
      rw [w64_in (by omega) (by omega)]
      by_cases e : r c = 0
      · rw [if_neg (fun k => k e), if_neg (fun k => k e)]
      · rw [if_pos e, if_pos e]; rfl
    · show item_partFault_b1 self q q.Kids.length = _
      unfold item_partFault_b1
      rw [if_neg (by omega)]; rfl
  · unfold Q_oneQuery_l1
    refine iter_find q.Kids (fun x : Int => Q_oneQuery_b1 self q x) (fun c => if r c ≠ 0 then some (r c) else none) 0 (by omega) (fun i c h0 h1 h2 => ?_) ?_
    · show Q_oneQuery_b1 self q i = _
      unfold Q_oneQuery_b1
      rw [if_pos h1, h2]
      simp only [Option.bind_some]
      rw [h c (idx_mem h2)]
      simp only [Option.bind_some]
      rw [w64_in (by omega) (by omega)]
      by_cases e : r c = 0
      · rw [if_neg (fun k => k e), if_neg (fun k => k e)]
      · rw [if_pos e, if_pos e]; rfl
    · show Q_oneQuery_b1 self q q.Kids.length = _
      unfold Q_oneQuery_b1
      rw [if_neg (by omega)]; rfl
theorem findE_zero (r : Query → Int) : ∀ l : List Query, findE (fun c => if r c ≠ 0 then some (r c) else none) 0 l = 0 → ∀ c ∈ l, r c = 0
  | [], _, c, h => (by cases h)
  | x :: l, h, c, hc => by
    rw [findE] at h
    by_cases e : r x = 0
    · rw [if_neg (fun k => k e)] at h
      rcases List.mem_cons.1 hc with rfl | hc
      · exact e
      · exact findE_zero r l h c hc
    · rw [if_pos e] at h
      exact absurd h e
theorem parts_eq (n : Nat) (q : Query) (hq : QB q) (hn : q.subs.length ≤ n) : ∃ r, item_partFault_r n q = some r ∧ Q_oneQuery_r n q = some r := by
  refine q_ind (C := fun n q => ∃ r, item_partFault_r n q = some r ∧ Q_oneQuery_r n q = some r) (fun n q hq ih => ?_) n q hq hn
  rw [part_step n q hq, one_step n q hq]
  by_cases c : fF q = 0
  · have c' : ¬ (fF q ≠ 0) := fun k => k c
    rw [if_neg c', if_neg c']
    by_cases d : leafK q = true
    · rw [if_pos d, if_pos d]; exact ⟨_, rfl, rfl⟩
    · rw [if_neg d, if_neg d]
      have h1 : ∀ c ∈ q.Kids, item_partFault_r n c = some ((item_partFault_r n c).getD 0) := fun c hc => by obtain ⟨r, e, _⟩ := ih c hc; rw [e]; rfl
      have h2 : ∀ c ∈ q.Kids, Q_oneQuery_r n c = some ((item_partFault_r n c).getD 0) := fun c hc => by obtain ⟨r, e, e'⟩ := ih c hc; rw [e, e']; rfl
      exact ⟨_, (part_l1 _ _ q hq h1).1, (part_l1 _ _ q hq h2).2⟩
  · rw [if_pos c, if_pos c]; exact ⟨_, rfl, rfl⟩
/-- One step down a right query. -/
theorem part_zero (n : Nat) (q : Query) (hq : QB q) (hn : q.subs.length ≤ n + 1) (h : item_partFault_r (n + 1) q = some 0) : fF q = 0 ∧ (leafK q = true → lF q = 0) ∧ (leafK q = false → ∀ c ∈ q.Kids, item_partFault_r n c = some 0) := by
  rw [part_step n q hq] at h
  by_cases c : fF q = 0
  · rw [if_neg (fun k => k c)] at h
    refine ⟨c, fun d => ?_, fun d k hk => ?_⟩
    · rw [if_pos d] at h; exact Option.some.inj h
    · rw [if_neg (by simp [d])] at h
      have h1 : ∀ c ∈ q.Kids, item_partFault_r n c = some ((item_partFault_r n c).getD 0) := fun c hc => by
        obtain ⟨r, e, _⟩ := parts_eq n c (hq.kid hc).1 (by have := (hq.kid hc).2; omega)
        rw [e]; rfl
      rw [(part_l1 _ _ q hq h1).1] at h
      rw [h1 k hk, findE_zero _ _ (Option.some.inj h) k hk]
  · rw [if_pos c] at h
    exact absurd (Option.some.inj h) c
theorem QueryFault_eq (q : Query) (hq : QB q) : ∃ r, item_QueryFault q = some r ∧ Q_QueryFault q = some r ∧ (r = 0 → item_partFault_r depth q = some 0) := by
  have hl := hq.len
  have hd : q.subs.length ≤ depth := by unfold depth; omega
  obtain ⟨r, h1, h2⟩ := parts_eq depth q hq hd
  have hc : (q.subs.filter leafK).length = q.subs.countP leafK := by rw [List.countP_eq_length_filter]
  unfold item_QueryFault Q_QueryFault item_Measure Q_leaves Q_deep item_QueryFault_j1 Q_QueryFault_j1 item_partFault Q_oneQuery
  rw [Measure_eq depth q hq hd, leaves_eq depth q hq hd, deep_eq depth q hq hd, h1, h2]
  simp only [Option.bind_some]
  rw [hc]
  by_cases c1 : (40 : Int) < (q.subs.countP leafK : Nat)
  · rw [if_pos (by simp [c1]), if_pos c1]
    exact ⟨2, rfl, rfl, fun h => by cases h⟩
  · rw [if_neg c1]
    by_cases c2 : (20 : Int) < (q.dep : Nat)
    · rw [if_pos (by simp [c2]), if_pos (decide_eq_true c2)]
      exact ⟨2, rfl, rfl, fun h => by cases h⟩
    · rw [if_neg (by simp [c1, c2]), if_neg (by simp [c2])]
      exact ⟨r, rfl, rfl, fun h => by rw [h]⟩
/-! matching -/
theorem Or2 (a b : Int) : cmp_Or_int [a, b] = some (orL [a, b]) := gOr_eq _ (by simp)
theorem Or3 (a b c : Int) : cmp_Or_int [a, b, c] = some (orL [a, b, c]) := gOr_eq _ (by simp)
theorem cmpc (a b : Int) : cmp_Compare_int a b = cmpI a b := CompareI_eq a b
def verC (a b : Version) : Int := orL [cmpI a.Major b.Major, cmpI a.Minor b.Minor, cmpI a.Patch b.Patch]
theorem CompareVersions_eq (a b : Version) : item_CompareVersions a b = some (verC a b) := by
  unfold item_CompareVersions; rw [Or3]; simp only [cmpc]; rfl
theorem versionOrder_eq (a b : Version) : Q_versionOrder a b = some (verC a b) := by
  unfold Q_versionOrder; rw [Or3]; simp only [cmpc]; rfl
noncomputable def ofX (x : ItemS) : Str → Option Item_Held := fun y0 => item_Matches_1x y0 x
theorem ofX_eq (x : ItemS) (f : Str) : ofX x f = item_look x f := by
  unfold ofX item_Matches_1x; cases item_look x f <;> rfl
theorem Matches_tail (q : Query) (n : Int) (h : q.Op ∈ opsL) : Q_MatchesItem_j1 q n = some (opH q.Op n) := by
  unfold Q_MatchesItem_j1; rw [compares_eq _ _ h]; rfl
theorem match_is (self : Query → (Str → Option Item_Held) → Option Bool) (self' : Query → ItemS → Option Bool) (q : Query) (hq : StrQ q) (k : q.Kind = 1) (hl : lF q = 0) (x : ItemS) (hx : ItB x) (hr : PropsR x) :
    ∃ b, item_Answers_bd self q (ofX x) = some b ∧ Q_MatchesItem_bd self' q x = some b := by
  have L := leafR hl k
  unfold item_Answers_bd Q_MatchesItem_bd
  rw [if_pos k, if_neg (by omega), if_neg (by omega), if_neg (by omega), if_neg (by omega), ofX_eq]
  by_cases hf : q.Field = sFirm
  · rw [if_pos hf]
    have hlook : item_look x q.Field = some ⟨true, zV, x.Device.Firmware⟩ := by rw [hf]; rfl
    rw [hlook, versionOrder_eq]
    simp only [Option.bind_some]
    unfold item_compared item_compared_j1
    have hv := L.firm hf
    rw [if_neg (by rw [hv]; simp), if_pos hf, CompareVersions_eq]
    simp only [Option.bind_some]
    rw [comp_j2, compares_eq _ _ L.op]
    exact ⟨_, rfl, rfl⟩
  · rw [if_neg hf]
    obtain ⟨o, o1, o2, o3⟩ := look_both x hx q.Field hq.field hf
    obtain ⟨v1, v2, v3⟩ := L.val hf
    rw [o1, o2]
    simp only [Option.bind_some]
    unfold item_compared
    cases o with
    | none =>
      refine ⟨false, rfl, ?_⟩
      show (if (0 : Int) ≠ q.Value.Kind then some false else _) = _
      rw [if_pos (fun h => v2 h.symm)]
    | some v =>
      have hcmp : item_compared_j1 q ⟨true, v, zVer⟩ (!(heldB (some v)).Is || decide ((heldB (some v)).Value.Kind ≠ q.Value.Kind)) = if v.Kind = q.Value.Kind then some (opH q.Op (if v.Kind = 2 then cmpI v.Number q.Value.Number else if v ≠ q.Value then 1 else 0)) else some false := by
        unfold item_compared_j1
        by_cases hk : v.Kind = q.Value.Kind
        · rw [if_neg (by simp [heldB, hk]), if_neg hf, if_pos hk]
          unfold item_compared_j3 item_compared_j4 item_compared_j3
          simp only [comp_j2, cmpc]
          by_cases k2 : v.Kind = 2
          · rw [if_pos k2, if_pos k2]
          · rw [if_neg k2, if_neg k2]
            by_cases e : v ≠ q.Value
            · rw [if_pos e, if_pos e]
            · rw [if_neg e, if_neg e]
        · rw [if_pos (by simp [heldB, hk]), if_neg hk]
      show ∃ b, (item_compared_j1 q ⟨true, v, zVer⟩ (!(heldB (some v)).Is || decide ((heldB (some v)).Value.Kind ≠ q.Value.Kind))).bind (fun v3 => some v3) = some b ∧ (if v.Kind ≠ q.Value.Kind then some false else _) = some b
      rw [hcmp]
      by_cases hk : v.Kind = q.Value.Kind
      · rw [if_pos hk, if_neg (show ¬ (v.Kind ≠ q.Value.Kind) from fun h => h hk)]
        have u : Used v := by
          rcases o3 hr v rfl with h | ⟨s, rfl⟩
          · exact Used.of h.2
          · exact Used.w s
        refine ⟨_, rfl, ?_⟩
        rw [cmp_same q L hf v u hk]
        show (cmp_Or_int [cmp_Compare_int v.Number q.Value.Number, Lib.compareBytes v.Words q.Value.Words]).bind _ = _
        rw [Or2, cmpc]
        simp only [Option.bind_some, Matches_tail q _ L.op]
        unfold refN
        by_cases e : v.Flag = q.Value.Flag
        · rw [if_neg (by simp [e]), if_neg (fun h => h e)]
        · rw [if_pos (by simpa using e), if_pos e]
      · rw [if_neg hk, if_pos hk]
        exact ⟨_, rfl, rfl⟩
theorem match_has (self : Query → (Str → Option Item_Held) → Option Bool) (self' : Query → ItemS → Option Bool) (q : Query) (hq : StrQ q) (k : q.Kind = 2) (hl : lF q = 0) (x : ItemS) (hx : ItB x) (hr : PropsR x) :
    ∃ b, item_Answers_bd self q (ofX x) = some b ∧ Q_MatchesItem_bd self' q x = some b := by
  have hf : q.Field ≠ sFirm := by
    intro h
    unfold lF at hl
    rw [if_pos (by rw [h, k]; rfl)] at hl
    cases hl
  unfold item_Answers_bd Q_MatchesItem_bd
  rw [if_neg (by omega), if_pos k, if_neg (by omega), if_neg (by omega), if_neg (by omega), if_pos k, ofX_eq]
  obtain ⟨o, o1, o2, o3⟩ := look_both x hx q.Field hq.field hf
  rw [o1, o2]
  cases o with
  | none => exact ⟨false, rfl, rfl⟩
  | some v =>
    refine ⟨true, rfl, ?_⟩
    have hk : v.Kind ≠ 0 := by
      rcases o3 hr v rfl with h | ⟨s, rfl⟩
      · exact h.1
      · simp [wV]
    show some (decide (v.Kind ≠ 0)) = some true
    rw [decide_eq_true hk]
theorem fF_zero {q : Query} (h : fF q = 0) : outK q = false ∧ badForm q = false := by
  unfold fF at h
  split at h
  · cases h
  · split at h
    · cases h
    · rename_i a b; exact ⟨by simpa using a, by simpa using b⟩
theorem findE_anyQ {α A : Type} (p : α → Bool) (a e : A) : ∀ l : List α, findE (fun c => if p c = true then some a else none) e l = if l.any p = true then a else e
  | [] => rfl
  | x :: l => by
    rw [findE, List.any_cons]
    cases hp : p x with
    | true => simp
    | false => simp only [Bool.false_eq_true, if_false, Bool.false_or]; exact findE_anyQ p a e l
theorem Answers_l1_eq (self : Query → (Str → Option Item_Held) → Option Bool) (of : Str → Option Item_Held) (q : Query) (hq : QB q) (b : Query → Bool) (h : ∀ c ∈ q.Kids, self c of = some (b c)) :
    item_Answers_l1 self q of 0 = some (if q.Kids.any (fun c => b c != decide (q.Kind = 4)) = true then decide (¬ q.Kind = 4) else decide (q.Kind = 4)) := by
  have hk := hq.kids
  unfold item_Answers_l1
  rw [iter_find q.Kids (fun i : Int => item_Answers_b1 self q of i) (fun c => if (fun c => b c != decide (q.Kind = 4)) c = true then some (decide (¬ q.Kind = 4)) else none) (decide (q.Kind = 4)) (by omega), findE_anyQ (fun c => b c != decide (q.Kind = 4))]
  · intro i c h0 h1 h2
    show item_Answers_b1 self q of i = _
    unfold item_Answers_b1
    rw [if_pos h1, h2]
    simp only [Option.bind_some]
    rw [h c (idx_mem h2)]
    simp only [Option.bind_some]
    rw [w64_in (by omega) (by omega)]
    by_cases hb : (b c != decide (q.Kind = 4)) = true
    · rw [if_pos hb, if_pos hb]; rfl
    · rw [if_neg hb, if_neg hb]
  · show item_Answers_b1 self q of q.Kids.length = _
    unfold item_Answers_b1
    rw [if_neg (by omega)]; rfl
theorem match1_eq (self : Query → ItemS → Option Bool) (q : Query) (hq : QB q) (x : ItemS) (b : Query → Bool) (h : ∀ c ∈ q.Kids, self c x = some (b c)) (is : Bool) : Q_MatchesItem_1x self is q x = some (!q.Kids.any (fun c => b c != is)) := by
  have hk := hq.kids
  unfold Q_MatchesItem_1x
  have hc : slices_ContainsFunc_Query_Query q.Kids (fun y0 => Q_MatchesItem_1x_1x self y0 x is) = some (q.Kids.any (fun c => b c != is)) :=
    gContainsFunc_eq _ _ _ (fun c hc => by unfold Q_MatchesItem_1x_1x; rw [h c hc]; rfl) (by omega)
  rw [hc]; rfl
theorem match_all (x : ItemS) (hx : ItB x) (hr : PropsR x) (n : Nat) (q : Query) (hq : QB q) (hn : q.subs.length ≤ n) : item_partFault_r n q = some 0 → ∃ b, item_Answers_r n q (ofX x) = some b ∧ Q_MatchesItem_r n q x = some b := by
  refine q_ind (C := fun n q => q.subs.length ≤ n → item_partFault_r n q = some 0 → ∃ b, item_Answers_r n q (ofX x) = some b ∧ Q_MatchesItem_r n q x = some b) (fun n q hq ih hn h => ?_) n q hq hn hn
  obtain ⟨z1, z2, z3⟩ := part_zero n q hq hn h
  obtain ⟨f1, f2⟩ := fF_zero z1
  have hrg : 1 ≤ q.Kind ∧ q.Kind ≤ 5 := by unfold outK at f1; simp at f1; omega
  have hcase : q.Kind = 1 ∨ q.Kind = 2 ∨ q.Kind = 3 ∨ q.Kind = 4 ∨ q.Kind = 5 := by omega
  have ihk : leafK q = false → ∀ c ∈ q.Kids, ∃ b, item_Answers_r n c (ofX x) = some b ∧ Q_MatchesItem_r n c x = some b := fun hl c hc => ih c hc (by have := (hq.kid hc).2; omega) (z3 hl c hc)
  show ∃ b, item_Answers_bd (item_Answers_r n) q (ofX x) = some b ∧ Q_MatchesItem_bd (Q_MatchesItem_r n) q x = some b
  have bs : leafK q = false → ∀ c ∈ q.Kids, item_Answers_r n c (ofX x) = some ((item_Answers_r n c (ofX x)).getD false) ∧ Q_MatchesItem_r n c x = some ((item_Answers_r n c (ofX x)).getD false) := fun hl c hc => by
    obtain ⟨b, e1, e2⟩ := ihk hl c hc
    rw [e1, e2]; exact ⟨rfl, rfl⟩
  rcases hcase with k | k | k | k | k
  · exact match_is _ _ q hq.s k (z2 (by unfold leafK; simp [k])) x hx hr
  · exact match_has _ _ q hq.s k (z2 (by unfold leafK; simp [k])) x hx hr
  · have hl : leafK q = false := by unfold leafK; simp [k]
    have h1 : q.Kids.length = 1 := by
      unfold badForm at f2
      rw [if_neg (by omega), if_neg (by omega), if_pos k] at f2
      simp at f2
      exact f2.1
    obtain ⟨c, hc, hm, _⟩ := idx_lt q.Kids (i := 0) (by omega) (by omega)
    obtain ⟨b, e1, e2⟩ := ihk hl c hm
    unfold item_Answers_bd Q_MatchesItem_bd
    rw [if_neg (by omega), if_neg (by omega), if_pos k, if_pos k, hc]
    simp only [Option.bind_some]
    rw [e1, e2]
    exact ⟨_, rfl, rfl⟩
  · have hl : leafK q = false := by unfold leafK; simp [k]
    unfold item_Answers_bd Q_MatchesItem_bd
    rw [if_neg (by omega), if_neg (by omega), if_neg (by omega), if_neg (by omega), if_pos k, Answers_l1_eq _ _ q hq _ (fun c hc => (bs hl c hc).1), match1_eq _ q hq x _ (fun c hc => (bs hl c hc).2)]
    refine ⟨_, rfl, ?_⟩
    simp only [Option.bind_some, k, decide_true]
    cases q.Kids.any (fun c => (item_Answers_r n c (ofX x)).getD false != true) <;> rfl
  · have hl : leafK q = false := by unfold leafK; simp [k]
    unfold item_Answers_bd Q_MatchesItem_bd
    rw [if_neg (by omega), if_neg (by omega), if_neg (by omega), if_neg (by omega), if_neg (by omega), if_pos k, Answers_l1_eq _ _ q hq _ (fun c hc => (bs hl c hc).1), match1_eq _ q hq x _ (fun c hc => (bs hl c hc).2)]
    refine ⟨_, rfl, ?_⟩
    have k4 : decide (q.Kind = 4) = false := by simp [k]
    have k5 : decide (¬ q.Kind = 4) = true := by simp [k]
    simp only [Option.bind_some, k4, k5]
    cases q.Kids.any (fun c => (item_Answers_r n c (ofX x)).getD false != false) <;> rfl
/-- Right queries, right items: both match, or neither. -/
theorem Matches_both (q : Query) (hq : QB q) (hp : item_partFault_r depth q = some 0) (x : ItemS) (hx : ItB x) (hf : item_Fault x = some 0) : ∃ b, item_Matches q x = some b ∧ Q_MatchesItem q x = some b := by
  obtain ⟨r, e, hr⟩ := Fault_ok x hx
  rw [hf] at e
  obtain ⟨b, h1, h2⟩ := match_all x hx (hr (Option.some.inj e).symm) depth q hq (by have := hq.len; unfold depth; omega) hp
  refine ⟨b, ?_, h2⟩
  unfold item_Matches
  show (item_Answers_r depth q (ofX x)).bind _ = _
  rw [h1]; rfl
end Go.Beacon

/- The law: queries and items match as they should. No program in sight. -/
set_option linter.unusedVariables false
set_option linter.unusedSimpArgs false
namespace Go.Beacon
open Go Go.Eng

/-! items as they are drawn -/
def TgB (m : Nat) (l : List Pair) : Prop := l.length ≤ m ∧ ∀ t ∈ l, t.Name.length ≤ 100000 ∧ t.Value.length ≤ 100000
def PrB (m : Nat) (l : List PropS) : Prop := l.length ≤ m ∧ ∀ p ∈ l, p.Name.length ≤ 100000 ∧ p.Value.Words.length ≤ 100000
theorem TgB.snoc {m : Nat} {l : List Pair} {t : Pair} (h : TgB m l) (h1 : t.Name.length ≤ 100000) (h2 : t.Value.length ≤ 100000) : TgB (m + 1) (l ++ [t]) :=
  ⟨by rw [List.length_append]; exact Nat.succ_le_succ h.1, fun x hx => by
    rcases List.mem_append.1 hx with k | k
    · exact h.2 x k
    · rw [List.mem_singleton.1 k]; exact ⟨h1, h2⟩⟩
theorem PrB.snoc {m : Nat} {l : List PropS} {t : PropS} (h : PrB m l) (h1 : t.Name.length ≤ 100000) (h2 : t.Value.Words.length ≤ 100000) : PrB (m + 1) (l ++ [t]) :=
  ⟨by rw [List.length_append]; exact Nat.succ_le_succ h.1, fun x hx => by
    rcases List.mem_append.1 hx with k | k
    · exact h.2 x k
    · rw [List.mem_singleton.1 k]; exact ⟨h1, h2⟩⟩
theorem Item_k7_k (key : Str) (v2 v3 : Str × Stm) (v4 v5 : Int × Stm) (tg : List Pair) (pr : List PropS) (ht : TgB 10 tg) (hp : PrB 10 pr) (L : List Int) (n : Int) (K : Int) (hs : SOk ⟨L, n⟩ K) (hK : 6 ≤ K) :
    Ok (Stream_Item_k7 key v2 v3 v4 v5 tg L n pr) (fun r => ItB r.1 ∧ SOk r.2 (K - 6)) := by
  have j3 : ∀ {v2 : Str × Stm} {v4 : Int × Stm} {L : List Int} {n : Int} {a b : Str} {z : Int} {tg : List Pair} {pr : List PropS} {K' : Int}, SOk ⟨L, n⟩ K' → K - 6 ≤ K' → TgB 20 tg → PrB 20 pr → Ok (Stream_Item_j3 v2 v4 L n a b z tg pr) (fun r => ItB r.1 ∧ SOk r.2 (K - 6)) := by
    intro v2 v4 L n a b z tg pr K' h1 h2 h3 h4
    exact Ok.ret ⟨⟨Nat.le_trans h3.1 (by omega), Nat.le_trans h4.1 (by omega), h3.2, h4.2⟩, h1.less h2⟩
  have ht' : TgB 20 tg := ⟨Nat.le_trans ht.1 (by omega), ht.2⟩
  have hp' : PrB 20 pr := ⟨Nat.le_trans hp.1 (by omega), hp.2⟩
  have htl := ht.1
  have hpl := hp.1
  unfold Stream_Item_k7
  refine Ok.gen (Flip_k hs (by omega) (by omega) (by omega)) (fun c s1 _ q1 => ?_)
  dsimp only
  split
  · refine Ok.gen (Next_k q1 (by omega) (by omega) (by omega)) (fun c s2 _ q2 => ?_)
    dsimp only
    split
    · refine Ok.gen (Some_k q2 (by omega) (by simp) (by simp)) (fun a s3 _ q3 => ?_)
      refine Ok.gen (Some_k q3 (by omega) (by simp) (by simp)) (fun b s4 _ q4 => ?_)
      exact j3 q4 (by omega) ht' hp'
    split
    · refine Ok.gen (Odd_k q2 (by omega) (by omega) (by omega) (by omega)) (fun b s4 _ q4 => ?_)
      exact j3 q4 (by omega) ht' hp'
    split
    · refine Ok.gen (Some_k q2 (by omega) (by simp) (by simp)) (fun a s3 ha q3 => ?_)
      refine Ok.gen (Some_k q3 (by omega) (by simp) (by simp)) (fun b s4 hb q4 => ?_)
      refine Ok.app (by simp; omega) ?_
      have h := TgB.snoc (t := ⟨a, b⟩) ht (str_in ha (by decide)) (str_in hb (by decide))
      exact j3 q4 (by omega) ⟨Nat.le_trans h.1 (by omega), h.2⟩ hp'
    · refine Ok.gen (Some_k q2 (by omega) (by simp) (by simp)) (fun a s3 ha q3 => ?_)
      refine Ok.gen (Odd_k q3 (by omega) (by omega) (by omega) (by omega)) (fun b s4 _ q4 => ?_)
      refine Ok.app (by simp; omega) ?_
      have h := PrB.snoc (t := ⟨a, ⟨b, false, 0, []⟩⟩) hp (str_in ha (by decide)) (by simp)
      exact j3 q4 (by omega) ht' ⟨Nat.le_trans h.1 (by omega), h.2⟩
  · exact j3 q1 (by omega) ht' hp'
theorem Item_l2_k (key : Str) (v2 v3 : Str × Stm) (v4 v5 : Int × Stm) (tg : List Pair) (ht : TgB 10 tg) (L : List Int) (n : Int) (K : Int) (hs : SOk ⟨L, n⟩ K) (hK : 16 ≤ K) :
    Ok (Stream_Item_l2 key v2 v3 v4 v5 tg L n [] 0) (fun r => ItB r.1 ∧ SOk r.2 (K - 16)) := by
  unfold Stream_Item_l2
  refine Ok.iter (fun x : (List Int) × Int × (List PropS) × Int => (2 - x.2.2.2).toNat) (fun x => (0 ≤ x.2.2.2 ∧ x.2.2.2 ≤ 2) ∧ SOk ⟨x.1, x.2.1⟩ (K - 5 * x.2.2.2) ∧ PrB x.2.2.2.toNat x.2.2.1) ?_ _ ⟨by simp, by simpa using hs, by simp, fun p h => (by cases h)⟩
  rintro ⟨L, n, pr, i⟩ ⟨h0, h1, h2⟩
  dsimp only at h0 h1 h2 ⊢
  have w1 : w64 (i + 1) = i + 1 := w64_in (by omega) (by omega)
  have hpl := h2.1
  unfold Stream_Item_b2
  have nx : ∀ {L' : List Int} {n' : Int} {pr' : List PropS} {K' : Int}, i < 2 → SOk ⟨L', n'⟩ K' → K - 5 * (i + 1) ≤ K' → PrB (i + 1).toNat pr' → Ok (Stream_Item_j2 i L' n' pr') (Stp (fun x : (List Int) × Int × (List PropS) × Int => (2 - x.2.2.2).toNat) (fun x => (0 ≤ x.2.2.2 ∧ x.2.2.2 ≤ 2) ∧ SOk ⟨x.1, x.2.1⟩ (K - 5 * x.2.2.2) ∧ PrB x.2.2.2.toNat x.2.2.1) (fun r => ItB r.1 ∧ SOk r.2 (K - 16)) (L, n, pr, i)) := by
    intro L' n' pr' K' g1 g2 g3 g4
    unfold Stream_Item_j2
    rw [w1]
    exact Ok.ret ⟨⟨⟨by dsimp only; omega, by dsimp only; omega⟩, g2.less (by dsimp only; omega), g4⟩, by dsimp only; omega⟩
  split
  · rename_i hi
    have hi : i < 2 := by simpa using hi
    refine Ok.idx h0.1 (by simpa using hi) (fun nm _ hnm => ?_)
    have hnm : nm.length ≤ 100000 := str_in hnm (by decide)
    refine Ok.gen (Flip_k h1 (by omega) (by omega) (by omega)) (fun c s1 _ q1 => ?_)
    dsimp only
    split
    · refine Ok.gen (Pick_k q1 (by omega) (by simp) (by simp)) (fun a s2 _ q2 => ?_)
      refine Ok.gen (Flip_k q2 (by omega) (by omega) (by omega)) (fun b s3 _ q3 => ?_)
      refine Ok.gen (Some_k q3 (by omega) (by simp) (by simp)) (fun w s4 hw q4 => ?_)
      refine Ok.gen (Pick_k q4 (by omega) (by simp) (by simp)) (fun d s5 hd q5 => ?_)
      have hd' := pick_le (lo := 0) (hi := 2) hd (by decide)
      dsimp only
      refine Ok.idx hd'.1 (by simp; omega) (fun v _ hv => ?_)
      refine Ok.app (by simp; omega) ?_
      refine nx hi q5 (by omega) ?_
      have hvw : v.Words.length ≤ 100000 := by
        simp only [List.mem_cons, List.not_mem_nil, or_false] at hv
        rcases hv with rfl | rfl | rfl
        · simp
        · simp
        · exact str_in hw (by decide)
      have h := PrB.snoc (t := ⟨nm, v⟩) h2 hnm hvw
      exact ⟨Nat.le_trans h.1 (by omega), h.2⟩
    · exact nx hi q1 (by omega) ⟨Nat.le_trans h2.1 (by omega), h2.2⟩
  · refine Ok.inr ?_
    exact (Item_k7_k key v2 v3 v4 v5 tg pr ht ⟨Nat.le_trans h2.1 (by omega), h2.2⟩ L n (K - 10) (h1.less (by omega)) (by omega)).mono (fun r hr => ⟨hr.1, hr.2.less (by omega)⟩)
theorem Item_k {s : Stm} {K : Int} (key : Str) (hs : SOk s K) (hK : 30 ≤ K) : Gen (Stream_Item s key) (K - 30) ItB := by
  refine Gen.of ?_
  unfold Stream_Item
  refine Ok.gen (Some_k hs (by omega) (by simp) (by simp)) (fun v2 s1 _ q1 => ?_)
  refine Ok.gen (Some_k q1 (by omega) (by simp) (by simp)) (fun v3 s2 _ q2 => ?_)
  refine Ok.gen (Next_k q2 (by omega) (by omega) (by omega)) (fun v4 s3 _ q3 => ?_)
  refine Ok.gen (Pick_k q3 (by omega) (by simp) (by simp)) (fun v5 s4 _ q4 => ?_)
  dsimp only
  unfold Stream_Item_l1
  refine Ok.iter (fun x : (List Int) × Int × (List Pair) × Int => (2 - x.2.2.2).toNat) (fun x => (0 ≤ x.2.2.2 ∧ x.2.2.2 ≤ 2) ∧ SOk ⟨x.1, x.2.1⟩ (K - 4 - 2 * x.2.2.2) ∧ TgB x.2.2.2.toNat x.2.2.1) ?_ _ ⟨by simp, q4.less (by simp; omega), by simp, fun p h => (by cases h)⟩
  rintro ⟨L, n, tg, i⟩ ⟨h0, h1, h2⟩
  dsimp only at h0 h1 h2 ⊢
  have w1 : w64 (i + 1) = i + 1 := w64_in (by omega) (by omega)
  have hpl := h2.1
  unfold Stream_Item_b1
  have nx : ∀ {L' : List Int} {n' : Int} {tg' : List Pair} {K' : Int}, i < 2 → SOk ⟨L', n'⟩ K' → K - 4 - 2 * (i + 1) ≤ K' → TgB (i + 1).toNat tg' → Ok (Stream_Item_j1 i L' n' tg') (Stp (fun x : (List Int) × Int × (List Pair) × Int => (2 - x.2.2.2).toNat) (fun x => (0 ≤ x.2.2.2 ∧ x.2.2.2 ≤ 2) ∧ SOk ⟨x.1, x.2.1⟩ (K - 4 - 2 * x.2.2.2) ∧ TgB x.2.2.2.toNat x.2.2.1) (fun r => ItB r.1 ∧ SOk r.2 (K - 30)) (L, n, tg, i)) := by
    intro L' n' tg' K' g1 g2 g3 g4
    unfold Stream_Item_j1
    rw [w1]
    exact Ok.ret ⟨⟨⟨by dsimp only; omega, by dsimp only; omega⟩, g2.less (by dsimp only; omega), g4⟩, by dsimp only; omega⟩
  split
  · rename_i hi
    have hi : i < 2 := by simpa using hi
    refine Ok.idx h0.1 (by simpa using hi) (fun nm _ hnm => ?_)
    have hnm : nm.length ≤ 100000 := str_in hnm (by decide)
    refine Ok.gen (Flip_k h1 (by omega) (by omega) (by omega)) (fun c s1 _ q1 => ?_)
    dsimp only
    split
    · refine Ok.gen (Some_k q1 (by omega) (by simp) (by simp)) (fun w s2 hw q2 => ?_)
      refine Ok.app (by simp; omega) ?_
      refine nx hi q2 (by omega) ?_
      have h := TgB.snoc (t := ⟨nm, w⟩) h2 hnm (str_in hw (by decide))
      exact ⟨Nat.le_trans h.1 (by omega), h.2⟩
    · exact nx hi q1 (by omega) ⟨Nat.le_trans h2.1 (by omega), h2.2⟩
  · refine Ok.inr ?_
    exact (Item_l2_k key (v2, s1) (v3, s2) (v4, s3) (v5, s4) tg ⟨Nat.le_trans h2.1 (by omega), h2.2⟩ L n (K - 8) (h1.less (by omega)) (by omega)).mono (fun r hr => ⟨hr.1, hr.2.less (by omega)⟩)
theorem ItemList_k {s : Stm} {K : Int} (hs : SOk s K) (hK : 130 ≤ K) : Gen (Stream_ItemList s) (K - 130) (fun l => l.length ≤ 4 ∧ ∀ x ∈ l, ItB x) := by
  refine Gen.of ?_
  unfold Stream_ItemList Stream_ItemList_l1
  refine Ok.iter (fun x : (List Int) × Int × (List ItemS) × Int => (4 - x.2.2.2).toNat) (fun x => (0 ≤ x.2.2.2 ∧ x.2.2.2 ≤ 4) ∧ SOk ⟨x.1, x.2.1⟩ (K - 31 * x.2.2.2) ∧ x.2.2.1.length ≤ x.2.2.2.toNat ∧ ∀ y ∈ x.2.2.1, ItB y) ?_ _ ⟨by simp, by simpa using hs, by simp, fun p h => (by cases h)⟩
  rintro ⟨L, n, l, i⟩ ⟨h0, h1, h2, h3⟩
  dsimp only at h0 h1 h2 h3 ⊢
  have w1 : w64 (i + 1) = i + 1 := w64_in (by omega) (by omega)
  unfold Stream_ItemList_b1
  have nx : ∀ {L' : List Int} {n' : Int} {l' : List ItemS} {K' : Int}, i < 4 → SOk ⟨L', n'⟩ K' → K - 31 * (i + 1) ≤ K' → l'.length ≤ (i + 1).toNat → (∀ y ∈ l', ItB y) → Ok (Stream_ItemList_j1 i L' n' l') (Stp (fun x : (List Int) × Int × (List ItemS) × Int => (4 - x.2.2.2).toNat) (fun x => (0 ≤ x.2.2.2 ∧ x.2.2.2 ≤ 4) ∧ SOk ⟨x.1, x.2.1⟩ (K - 31 * x.2.2.2) ∧ x.2.2.1.length ≤ x.2.2.2.toNat ∧ ∀ y ∈ x.2.2.1, ItB y) (fun r => (r.1.length ≤ 4 ∧ ∀ x ∈ r.1, ItB x) ∧ SOk r.2 (K - 130)) (L, n, l, i)) := by
    intro L' n' l' K' g1 g2 g3 g4 g5
    unfold Stream_ItemList_j1
    rw [w1]
    exact Ok.ret ⟨⟨⟨by dsimp only; omega, by dsimp only; omega⟩, g2.less (by dsimp only; omega), g4, g5⟩, by dsimp only; omega⟩
  split
  · rename_i hi
    have hi : i < 4 := by simpa using hi
    refine Ok.idx h0.1 (by simpa using hi) (fun nm _ hnm => ?_)
    refine Ok.gen (Flip_k h1 (by omega) (by omega) (by omega)) (fun c s1 _ q1 => ?_)
    dsimp only
    split
    · refine Ok.gen (Item_k nm q1 (by omega)) (fun x s2 hx q2 => ?_)
      refine Ok.app (by simp; omega) ?_
      refine nx hi q2 (by omega) (by simp; omega) (fun y hy => ?_)
      rcases List.mem_append.1 hy with k | k
      · exact h3 y k
      · rw [List.mem_singleton.1 k]; exact hx
    · exact nx hi q1 (by omega) (by omega) h3
  · exact Ok.inr (Ok.ret ⟨⟨by dsimp only; omega, h3⟩, h1.less (by omega)⟩)
end Go.Beacon

/- The law's last question: a serial that is known. No program in sight. -/
set_option linter.unusedVariables false
set_option linter.unusedSimpArgs false
namespace Go.Beacon
open Go Go.Eng

theorem step1 {S A : Type} {f : S → Option (S ⊕ A)} {s s' : S} (h : f s = some (.inl s')) : iter f s = iter f s' := by
  rw [iter_eq, h]; rfl
theorem check7 : device_checkOf [65, 66, 48, 48, 48, 48, 48, 48, 48, 55] = some 77 := by
  unfold device_checkOf device_checkOf_l1
  rw [step1 (s' := ((20 : Int), (1 : Int))) rfl, step1 (s' := ((53 : Int), (2 : Int))) rfl, step1 (s' := ((53 : Int), (3 : Int))) rfl, step1 (s' := ((53 : Int), (4 : Int))) rfl, step1 (s' := ((53 : Int), (5 : Int))) rfl, step1 (s' := ((53 : Int), (6 : Int))) rfl, step1 (s' := ((53 : Int), (7 : Int))) rfl, step1 (s' := ((53 : Int), (8 : Int))) rfl, step1 (s' := ((53 : Int), (9 : Int))) rfl, step1 (s' := ((130 : Int), (10 : Int))) rfl]
  rw [iter_eq]
  rfl
def mAB : Model := ⟨[109], [65, 66], []⟩
theorem prefAB : device_isPrefix [65, 66] = some true := by
  unfold device_isPrefix device_isPrefix_j1
  rw [if_pos (by rfl), trimO_eq (by simp) (by simp) (by decide)]
  rfl
theorem typesNil : device_typesFault [] = some 0 := by
  unfold device_typesFault device_typesFault_l1
  rw [iter_eq]; rfl
theorem models1 : device_CheckModels [mAB] = some 0 := by
  unfold device_CheckModels
  rw [if_neg (by simp)]
  unfold device_CheckModels_l1
  have b0 : device_CheckModels_b1 [mAB] 0 = some (.inl 1) := by
    unfold device_CheckModels_b1
    rw [if_pos (by simp), show idx [mAB] 0 = some mAB from rfl]
    simp only [Option.bind_some]
    rw [Key_eq, show keyB mAB.Key = true from rfl]
    simp only [Option.bind_some]
    rw [if_neg (by simp), if_neg (by simp)]
    unfold device_CheckModels_j1
    rw [if_neg (by simp), show mAB.Prefix = [65, 66] from rfl, prefAB]
    simp only [Option.bind_some]
    rw [if_neg (by simp), slc_in (by omega) (by omega) (by simp)]
    simp only [Option.bind_some]
    rw [show slices_ContainsFunc_Model_Model (([mAB].drop (0 : Int).toNat).take ((0 : Int).toNat - (0 : Int).toNat)) (fun y0 => some (device_CheckModels_1x y0 mAB)) = some false from by
      unfold slices_ContainsFunc_Model_Model slices_IndexFunc_Model_Model slices_IndexFunc_Model_Model_l1
      rw [iter_eq]; rfl]
    simp only [Option.bind_some]
    rw [if_neg (by simp), if_neg (by rw [show mAB.Props = [] from rfl]; simp), show mAB.Props = [] from rfl, typesNil]
    rfl
  rw [step1 b0, iter_eq]
  rfl
theorem modelAt : device_model [mAB] [109] = some 0 := by
  unfold device_model slices_IndexFunc_Model_Model slices_IndexFunc_Model_Model_l1
  rw [iter_eq]; rfl
theorem deviced_eq : L_deviced = some true := by
  unfold L_deviced device_Serial L_deviced_j1
  have e : (⟨[109], [65, 66], []⟩ : Model) = mAB := rfl
  rw [e, models1]
  simp only [Option.bind_some]
  rw [if_neg (by simp), modelAt]
  simp only [Option.bind_some]
  rw [if_neg (by simp), if_neg (by rw [Out_eq]; simp)]
  have i7 : itoaO 7 = some [55] := by unfold itoaO Lib.itoa; rw [if_pos (by omega), if_neg (by omega), Lib.decDigits, dif_pos (by decide)]; rfl
  rw [i7]
  simp only [Option.bind_some]
  have r7 : repeatO [48] (w64 ((8 : Int) - (([55] : Str).length : Int))) = some [48, 48, 48, 48, 48, 48, 48] := rfl
  rw [r7]
  simp only [Option.bind_some]
  rw [show idx [mAB] 0 = some mAB from rfl]
  have c1 : ∀ a b : Str, a.length ≤ 100 → b.length ≤ 100 → catO a b = some (a ++ b) := fun a b h h' => cat_le (by omega)
  rw [c1 [48, 48, 48, 48, 48, 48, 48] [55] (by simp) (by simp)]
  simp only [Option.bind_some]
  rw [show mAB.Prefix = [65, 66] from rfl]
  rw [c1 _ _ (by simp) (by simp)]
  simp only [Option.bind_some]
  rw [c1 _ _ (by simp) (by simp)]
  simp only [Option.bind_some]
  rw [c1 _ _ (by simp) (by simp)]
  simp only [Option.bind_some]
  rw [c1 _ _ (by simp) (by simp)]
  simp only [Option.bind_some]
  rw [show (([65, 66] : Str) ++ ([48, 48, 48, 48, 48, 48, 48] ++ [55])) = [65, 66, 48, 48, 48, 48, 48, 48, 48, 55] from rfl, check7]
  simp only [Option.bind_some]
  rw [show strR 77 = [77] from by decide]
  rw [c1 _ _ (by simp) (by simp)]
  rfl
end Go.Beacon

/- The law: queries and items match as they should. No program in sight. -/
set_option linter.unusedVariables false
set_option linter.unusedSimpArgs false
namespace Go.Beacon
open Go Go.Eng

theorem First2 (a b : Int) : base_First [a, b] = some (orL [a, b]) := gOr_eq _ (by simp)
theorem OrE2 (a b : Int) : cmp_Or_Errno [a, b] = some (orL [a, b]) := gOr_eq _ (by simp)
/-- What Select gives. -/
theorem Select_l1 (q : Query) (l : List ItemS) (hl : l.length ≤ 100) (h : ∀ x ∈ l, item_Matches q x = some ((Q_MatchesItem q x).getD false)) : device_Select_l1 q l [] 0 = some ((l.filter (fun x => (Q_MatchesItem q x).getD false)).map (fun x => x.Device.Key), 0) := by
  unfold device_Select_l1
  have hf := iter_foldl l (fun (s : List Str) (i : Int) => (s, i)) (fun x : (List Str) × Int => device_Select_b1 q l x.1 x.2) (fun acc x => if (Q_MatchesItem q x).getD false = true then acc ++ [x.Device.Key] else acc) (fun i s => (s.length : Int) ≤ i) (fun s => some (s, 0))
    (fun s i x h0 h1 hi hs => by
      have w1 : w64 (i + 1) = i + 1 := w64_in (by omega) (by omega)
      refine ⟨?_, ?_⟩
      · show device_Select_b1 q l s i = _
        unfold device_Select_b1
        rw [if_pos h1, hi]
        simp only [Option.bind_some]
        rw [h x (idx_mem hi)]
        simp only [Option.bind_some]
        unfold device_Select_j1
        split
        · rw [app_le (by simp; omega), w1]; rfl
        · rw [w1]
      · show ((if (Q_MatchesItem q x).getD false = true then s ++ [x.Device.Key] else s).length : Int) ≤ _
        split
        · simp; omega
        · omega)
    (fun s _ => by
      show device_Select_b1 q l s l.length = _
      unfold device_Select_b1
      rw [if_neg (by omega)]) [] (by simp)
  rw [hf, fold_fm]
  simp
where
  fold_fm : ∀ (l : List ItemS) (acc : List Str), l.foldl (fun acc x => if (Q_MatchesItem q x).getD false = true then acc ++ [x.Device.Key] else acc) acc = acc ++ (l.filter (fun x => (Q_MatchesItem q x).getD false)).map (fun x => x.Device.Key)
    | [], acc => by simp
    | x :: r, acc => by
      rw [List.foldl_cons, fold_fm r, List.filter_cons]
      cases (Q_MatchesItem q x).getD false <;> simp
theorem want_l1 (q : Query) (sq : Stm) (l : List ItemS) (sl : Stm) (v9 : List Str × Int) (v16 : Int) (hl : l.length ≤ 100) (p : ItemS → Bool) (h : v16 = 0 → ∀ x ∈ l, Q_MatchesItem q x = some (p x)) (hp : v16 ≠ 0 → ∀ x ∈ l, p x = false) (hv : v9.1 = (l.filter p).map (fun x => x.Device.Key)) : L_QueriesMatch_l1 (q, sq) (l, sl) v9 v16 [] 0 = some true := by
  unfold L_QueriesMatch_l1
  have hf := iter_foldl l (fun (s : List Str) (i : Int) => (s, i)) (fun x : (List Str) × Int => L_QueriesMatch_b1 (q, sq) (l, sl) v9 v16 x.1 x.2) (fun acc x => if p x = true then acc ++ [x.Device.Key] else acc) (fun i s => (s.length : Int) ≤ i) (fun s => L_QueriesMatch_k5 v9 s)
    (fun s i x h0 h1 hi hs => by
      have w1 : w64 (i + 1) = i + 1 := w64_in (by omega) (by omega)
      refine ⟨?_, ?_⟩
      · show L_QueriesMatch_b1 (q, sq) (l, sl) v9 v16 s i = _
        unfold L_QueriesMatch_b1 L_QueriesMatch_j2 L_QueriesMatch_j3
        dsimp only
        rw [if_pos h1, hi]
        simp only [Option.bind_some]
        by_cases c : v16 = 0
        · rw [if_pos c, h c x (idx_mem hi)]
          simp only [Option.bind_some]
          split
          · rw [app_le (by simp; omega), w1]; rfl
          · rw [w1]
        · rw [if_neg c, if_neg (by simp), hp c x (idx_mem hi), if_neg (by simp), w1]
      · show ((if p x = true then s ++ [x.Device.Key] else s).length : Int) ≤ _
        split
        · simp; omega
        · omega)
    (fun s _ => by
      show L_QueriesMatch_b1 (q, sq) (l, sl) v9 v16 s l.length = _
      unfold L_QueriesMatch_b1
      dsimp only
      rw [if_neg (by omega)]) [] (by simp)
  rw [hf, fold_fm2]
  unfold L_QueriesMatch_k5 L_QueriesMatch_j4
  rw [List.nil_append, ← hv]
  have hlen : v9.1.length ≤ 100 := by
    rw [hv, List.length_map]
    exact Nat.le_trans (List.length_filter_le _ _) hl
  rw [show slices_Equal_string_string v9.1 v9.1 = some (decide (v9.1 = v9.1)) from gEqual_eq v9.1 v9.1 (by omega)]
  simp only [decide_true, Option.bind_some, if_true]
  rw [deviced_eq]; rfl
where
  fold_fm2 : ∀ (l : List ItemS) (acc : List Str), l.foldl (fun acc x => if p x = true then acc ++ [x.Device.Key] else acc) acc = acc ++ (l.filter p).map (fun x => x.Device.Key)
    | [], acc => by simp
    | x :: r, acc => by
      rw [List.foldl_cons, fold_fm2 r, List.filter_cons]
      cases p x <;> simp
theorem QueriesMatch_plain (L : List Int) : L_QueriesMatch L = some true := by
  have key : Ok (L_QueriesMatch L) (fun r => r = true) := by
    unfold L_QueriesMatch
    refine Ok.gen (Query_k (s := ⟨L, 0⟩) (K := 1000) ⟨by simp, by simp⟩ (by omega)) (fun q s1 hq q1 => ?_)
    refine Ok.gen (Item_k _ q1 (by omega)) (fun x s2 hx q2 => ?_)
    refine Ok.gen (ItemList_k q2 (by omega)) (fun l s3 hl q3 => ?_)
    obtain ⟨rq, e1, e2, e3⟩ := QueryFault_eq q hq
    obtain ⟨rx, f1, f2⟩ := Fault_ok x hx
    have f3 := Fault_eq x hx
    obtain ⟨g1, rl, g2, g3⟩ := List_eq l (by omega) hl.2
    have f4 : Q_ItemFault x = some rx := by rw [← f3, f1]
    have g4 : Q_ItemsFault l = some rl := by rw [← g1, g2]
    dsimp only
    have hck : device_CheckQuery q = some rq := by unfold device_CheckQuery; rw [e1]; rfl
    -- one item
    have hM : ∃ b, device_Matches q x = some (b, orL [rq, rx]) ∧ (orL [rq, rx] = 0 → Q_MatchesItem q x = some b) ∧ (orL [rq, rx] ≠ 0 → b = false) := by
      unfold device_Matches
      rw [hck, f1]
      simp only [Option.bind_some]
      rw [First2]
      simp only [Option.bind_some]
      by_cases c : orL [rq, rx] = 0
      · rw [if_neg (fun k => k c)]
        have c' := c
        rw [orL2] at c'
        have hrq : rq = 0 := by
          by_cases z : rq = 0
          · exact z
          · rw [if_pos z] at c'; exact c'
        rw [if_neg (fun k => k hrq)] at c'
        obtain ⟨b, h1, h2⟩ := Matches_both q hq (e3 hrq) x hx (by rw [f1, c'])
        rw [h1]
        exact ⟨b, by rw [c]; rfl, fun _ => h2, fun k => absurd c k⟩
      · rw [if_pos c]
        exact ⟨false, rfl, fun k => absurd k c, fun _ => rfl⟩
    obtain ⟨b, m1, m2, m3⟩ := hM
    -- many items
    have hS : ∃ ks, device_Select q l = some (ks, orL [rq, rl]) ∧ ∃ p : ItemS → Bool, (orL [rq, rl] = 0 → ∀ x ∈ l, Q_MatchesItem q x = some (p x)) ∧ (orL [rq, rl] ≠ 0 → ∀ x ∈ l, p x = false) ∧ ks = (l.filter p).map (fun x => x.Device.Key) := by
      unfold device_Select
      rw [hck]
      simp only [Option.bind_some]
      by_cases c : rq = 0
      · rw [if_neg (fun k => k c), g2]
        simp only [Option.bind_some]
        have ho : orL [rq, rl] = rl := by rw [orL2, if_neg (fun k => k c)]
        by_cases d : rl = 0
        · rw [if_neg (fun k => k d)]
          have hall : ∀ x ∈ l, ∃ b, item_Matches q x = some b ∧ Q_MatchesItem q x = some b := fun x hm => Matches_both q hq (e3 c) x (hl.2 x hm) (g3 d x hm)
          have h1 : ∀ x ∈ l, Q_MatchesItem q x = some ((Q_MatchesItem q x).getD false) := fun x hm => by obtain ⟨b, _, e⟩ := hall x hm; rw [e]; rfl
          have h2 : ∀ x ∈ l, item_Matches q x = some ((Q_MatchesItem q x).getD false) := fun x hm => by obtain ⟨b, e, e'⟩ := hall x hm; rw [e, e']; rfl
          rw [Select_l1 q l (by omega) h2]
          exact ⟨_, by rw [ho, d], fun x => (Q_MatchesItem q x).getD false, fun _ => h1, fun k => absurd (by rw [ho, d]) k, rfl⟩
        · rw [if_pos d]
          refine ⟨_, by rw [ho], fun _ => false, fun k => absurd (by rw [← ho]; exact k) d, fun _ _ _ => rfl, by simp⟩
      · rw [if_pos c]
        have ho : orL [rq, rl] = rq := by rw [orL2, if_pos c]
        refine ⟨_, by rw [ho], fun _ => false, fun k => absurd (by rw [← ho]; exact k) c, fun _ _ _ => rfl, by simp⟩
    obtain ⟨ks, n1, p, n2, n3, n4⟩ := hS
    rw [m1, n1, e2, f4, g4]
    simp only [Option.bind_some]
    rw [OrE2, OrE2]
    simp only [Option.bind_some]
    rw [if_neg (fun k => k rfl), if_neg (fun k => k rfl)]
    have fin : ∀ c : Bool, c = false → L_QueriesMatch_j1 (q, s1) (l, s3) (ks, orL [rq, rl]) (orL [rq, rl]) c = some true := by
      intro c hc
      subst hc
      unfold L_QueriesMatch_j1
      rw [if_neg (by simp)]
      exact want_l1 q s1 l s3 _ _ (by omega) p n2 n3 n4
    by_cases c : orL [rq, rx] = 0
    · rw [if_pos c, m2 c]
      simp only [Option.bind_some]
      exact ⟨true, fin _ (by simp), rfl⟩
    · rw [if_neg c, m3 c]
      exact ⟨true, fin _ rfl, rfl⟩
  obtain ⟨r, h1, rfl⟩ := key
  exact h1
end Go.Beacon

