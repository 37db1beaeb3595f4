/- Plain facts on what the functions compute. No program in sight. -/
import Derived.Test.YtbbokobfeiklkaaGreatDoorMprP
import Derived.Test.YtbbokobfeiklkaaGreatDoorPlBA
import Derived.Lib.MapLaws
import Derived.Lib.ValidLaws
import Derived.Lib.TrimUEq
/- Plain facts of the streams that make inputs: each ends, and what it hands out is within bounds. No program in sight. -/
set_option linter.unusedVariables false
set_option linter.unusedSimpArgs false
namespace Go.Beacon
open Go Go.Eng

abbrev Stm := Fleetmake_Stream
/-- At least k more numbers can be drawn. -/
def SOk (s : Stm) (k : Int) : Prop := 0 ≤ s.at_ ∧ s.at_ + k ≤ 4611686018427387904
theorem SOk.less {s : Stm} {k k' : Int} (h : SOk s k) (hk : k' ≤ k) : SOk s k' := ⟨h.1, by have := h.2; omega⟩
def Gen {α : Type} (m : Option (α × Stm)) (k : Int) (P : α → Prop) : Prop := ∃ v s', m = some (v, s') ∧ P v ∧ SOk s' k
theorem Gen.bind {α β : Type} {m : Option (α × Stm)} {k k' : Int} {P : α → Prop} {Q : β → Prop} {f : α × Stm → Option (β × Stm)} (h : Gen m k P) (hf : ∀ v s', P v → SOk s' k → Gen (f (v, s')) k' Q) : Gen (m.bind f) k' Q := by
  obtain ⟨v, s', rfl, h1, h2⟩ := h
  exact hf v s' h1 h2
theorem Gen.ret {α : Type} {v : α} {s : Stm} {k : Int} {P : α → Prop} (h1 : P v) (h2 : SOk s k) : Gen (some (v, s)) k P := ⟨v, s, rfl, h1, h2⟩
theorem Gen.mono {α : Type} {m : Option (α × Stm)} {k k' : Int} {P Q : α → Prop} (h : Gen m k P) (hk : k' ≤ k) (hp : ∀ v, P v → Q v) : Gen m k' Q := by
  obtain ⟨v, s', e, h1, h2⟩ := h
  exact ⟨v, s', e, hp v h1, h2.less hk⟩

theorem Below_ok (x : Int) {n : Int} (h1 : 1 ≤ n) (h2 : n ≤ 4611686018427387904) : ∃ v, Below x n = some v ∧ 0 ≤ v ∧ v < n := by
  unfold Below Below_j1
  rw [if_neg (by omega), rem_ne (by omega)]
  have a1 := Int.lt_tmod_of_pos x (show 0 < n by omega)
  have a2 := Int.tmod_lt_of_pos x (show 0 < n by omega)
  simp only [Option.bind_some]
  split
  · exact ⟨_, rfl, by rw [w64_in] <;> omega, by rw [w64_in] <;> omega⟩
  · exact ⟨_, rfl, by omega, by omega⟩

theorem Next_ok {s : Stm} {n k : Int} (hs : SOk s (k + 1)) (h1 : 1 ≤ n) (h2 : n ≤ 4611686018427387904) (hk : 0 ≤ k) : Gen (Stream_Next s n) k (fun v => 0 ≤ v ∧ v < n) := by
  obtain ⟨a1, a2⟩ := hs
  have e1 : w64 (s.at_ + 1) = s.at_ + 1 := by rw [w64_in] <;> omega
  have e2 : w64 (s.at_ + 1 - 1) = s.at_ := by rw [w64_in] <;> omega
  unfold Stream_Next
  split
  · obtain ⟨v, hv, h3, h4⟩ := Below_ok (w64 (w64 (s.at_ + 1) * 7919)) h1 h2
    rw [hv]
    exact Gen.ret ⟨h3, h4⟩ ⟨by show 0 ≤ w64 (s.at_ + 1); omega, by show w64 (s.at_ + 1) + k ≤ _; omega⟩
  · rename_i hl
    have hl' : (0 : Int) < s.L.length := by omega
    rw [e1, e2, rem_pos hl' a1, quo_ne (by omega)]
    simp only [Option.bind_some]
    obtain ⟨x, hx, _, _⟩ := idx_lt s.L (i := s.at_ % s.L.length) (Int.emod_nonneg _ (by omega)) (Int.emod_lt_of_pos _ hl')
    rw [hx]
    simp only [Option.bind_some]
    obtain ⟨u, hu, _, _⟩ := Below_ok x (n := 1073741824) (by omega) (by omega)
    rw [hu]
    simp only [Option.bind_some]
    obtain ⟨v, hv, h3, h4⟩ := Below_ok (w64 (u + w64 (w64 (s.at_.tdiv s.L.length) * w64 (7919 + s.at_ % s.L.length)))) h1 h2
    rw [hv]
    exact Gen.ret ⟨h3, h4⟩ ⟨by simp only; omega, by simp only; omega⟩

theorem Pick_ok {s : Stm} {l : List Int} {k : Int} (hs : SOk s (k + 1)) (h1 : l ≠ []) (h2 : l.length ≤ 1000) (hk : 0 ≤ k) : Gen (Stream_Pick s l) k (fun v => v ∈ l) := by
  unfold Stream_Pick
  have hl : 0 < l.length := List.length_pos_iff.2 h1
  refine Gen.bind (Next_ok hs (by omega) (by omega) hk) (fun v s' hv hs' => ?_)
  obtain ⟨x, hx, hm, _⟩ := idx_lt l hv.1 hv.2
  simp only [hx, Option.bind_some]
  exact Gen.ret hm hs'
theorem Range_ok {s : Stm} {a b k : Int} (hs : SOk s (k + 1)) (hab : a ≤ b) (ha : -1152921504606846976 ≤ a) (hb : b ≤ 1152921504606846976) (hk : 0 ≤ k) : Gen (Stream_Range s a b) k (fun v => a ≤ v ∧ v ≤ b) := by
  unfold Stream_Range
  have e1 : w64 (b - a) = b - a := by rw [w64_in] <;> omega
  have e2 : w64 (b - a + 1) = b - a + 1 := by rw [w64_in] <;> omega
  rw [if_neg (by omega), e1, e2]
  refine Gen.bind (Next_ok hs (by omega) (by omega) hk) (fun v s' hv hs' => ?_)
  refine Gen.ret ?_ hs'
  simp only
  rw [w64_in] <;> omega
theorem Flip_ok {s : Stm} {n k : Int} (hs : SOk s (k + 1)) (h1 : 1 ≤ n) (h2 : n ≤ 4611686018427387904) (hk : 0 ≤ k) : Gen (Stream_Flip s n) k (fun _ => True) := by
  unfold Stream_Flip
  exact Gen.bind (Next_ok hs h1 h2 hk) (fun v s' hv hs' => Gen.ret trivial hs')
theorem Some_ok {s : Stm} {l : List Str} {k : Int} (hs : SOk s (k + 1)) (h1 : l ≠ []) (h2 : l.length ≤ 1000) (hk : 0 ≤ k) : Gen (Stream_Some s l) k (fun v => v ∈ l) := by
  unfold Stream_Some
  have hl : 0 < l.length := List.length_pos_iff.2 h1
  refine Gen.bind (Next_ok hs (by omega) (by omega) hk) (fun v s' hv hs' => ?_)
  obtain ⟨x, hx, hm, _⟩ := idx_lt l hv.1 hv.2
  simp only [hx, Option.bind_some]
  exact Gen.ret hm hs'
theorem Odd_ok {s : Stm} {a b k : Int} (hs : SOk s (k + 2)) (hab : a ≤ b) (ha : -1099511627776 ≤ a) (hb : b ≤ 1099511627776) (hk : 0 ≤ k) : Gen (Stream_Odd s a b) k (fun v => -1099511627777 ≤ v ∧ v ≤ 1099511627777) := by
  unfold Stream_Odd
  refine Gen.bind (Flip_ok (k := k + 1) (hs.less (by omega)) (by omega) (by omega) (by omega)) (fun v s' hv hs' => ?_)
  simp only
  split
  · refine Gen.bind (Pick_ok hs' (by simp) (by simp) hk) (fun v s' hv hs' => Gen.ret ?_ hs')
    have e1 : w64 (a - 1) = a - 1 := by rw [w64_in] <;> omega
    have e2 : w64 (b + 1) = b + 1 := by rw [w64_in] <;> omega
    rw [e1, e2] at hv
    simp only [List.mem_cons, List.not_mem_nil, or_false] at hv
    simp only; omega
  · refine Gen.bind (Range_ok hs' hab (by omega) (by omega) hk) (fun v s' hv hs' => Gen.ret ?_ hs')
    simp only; omega
end Go.Beacon

/- Plain facts of keys: the program's check and the reference's. No program in sight. -/
set_option linter.unusedVariables false
set_option linter.unusedSimpArgs false
namespace Go.Beacon
open Go Go.Eng

theorem Out_eq (n lo hi : Int) : base_Out n lo hi = (decide (n < lo) || decide (hi < n)) := rfl
theorem Qin_eq (n lo hi : Int) : Q_in n lo hi = (decide (lo ≤ n) && decide (n ≤ hi)) := rfl
/-! keys -/
def okN (n : Nat) : Bool := (decide (97 ≤ n) && decide (n ≤ 122)) || (decide (48 ≤ n) && decide (n ≤ 57)) || decide (n = 45) || decide (n = 95)
def keyB : Str → Bool
  | [] => false
  | c :: r => decide ((c :: r).length ≤ 40) && (decide (97 ≤ c.toNat) && decide (c.toNat ≤ 122)) && (c :: r).all (fun c => okN c.toNat)
theorem keyB_cons (c : UInt8) (r : Str) : keyB (c :: r) = (decide ((c :: r).length ≤ 40) && (decide (97 ≤ c.toNat) && decide (c.toNat ≤ 122)) && (c :: r).all (fun c => okN c.toNat)) := rfl
theorem Key_loop (s : Str) (hl : s.length ≤ 40) : base_Key_l1 s 0 = some (s.all (fun c => okN c.toNat)) := by
  unfold base_Key_l1
  rw [iter_find s (fun x : Int => base_Key_b1 s x) (fun c => if okN c.toNat = true then none else some false) true (by omega), findE_bool]
  · intro i c h0 h1 hc
    have hB : (if (97 : Int) ≤ (c.toNat : Int) then if (c.toNat : Int) ≤ (122 : Int) then !true else if (48 : Int) ≤ (c.toNat : Int) then if (c.toNat : Int) ≤ (57 : Int) then !true else if (c.toNat : Int) = (45 : Int) then !true else decide (¬ ((c.toNat : Int) = (95 : Int))) else if (c.toNat : Int) = (45 : Int) then !true else decide (¬ ((c.toNat : Int) = (95 : Int))) else if (48 : Int) ≤ (c.toNat : Int) then if (c.toNat : Int) ≤ (57 : Int) then !true else if (c.toNat : Int) = (45 : Int) then !true else decide (¬ ((c.toNat : Int) = (95 : Int))) else if (c.toNat : Int) = (45 : Int) then !true else decide (¬ ((c.toNat : Int) = (95 : Int)))) = !okN c.toNat := by
      unfold okN
      rw [Bool.eq_iff_iff]
      repeat' split
      all_goals simp
      all_goals omega
    rw [base_Key_b1, if_pos h1, hc]
    simp only [Option.bind_some]
    rw [hB]
    unfold base_Key_j2
    rw [w64_in (by omega) (by omega)]
    cases okN c.toNat <;> rfl
  · rw [base_Key_b1, if_neg (by omega)]; rfl
theorem Key_eq (s : Str) : base_Key s = some (keyB s) := by
  unfold base_Key base_Key_j1
  cases s with
  | nil => simp [keyB]
  | cons c r =>
    rw [if_neg (by simp)]
    have hc : idx (c :: r) 0 = some c := rfl
    rw [hc]
    simp only [Option.bind_some]
    by_cases hl : (c :: r).length ≤ 40
    · rw [if_neg (by omega), Key_loop _ hl, keyB_cons]
      by_cases h1 : (c.toNat : Int) < 97
      · rw [if_pos h1]
        have : decide (97 ≤ c.toNat) = false := by simp; omega
        rw [this]; simp
      · rw [if_neg h1]
        have e1 : decide (97 ≤ c.toNat) = true := by simp; omega
        by_cases h2 : (122 : Int) < c.toNat
        · rw [if_pos (by simpa using h2)]
          have : decide (c.toNat ≤ 122) = false := by simp; omega
          rw [this]; simp
        · rw [if_neg (by simpa using h2)]
          have : decide (c.toNat ≤ 122) = true := by simp; omega
          rw [e1, this, decide_eq_true hl]; simp
    · rw [if_pos (by omega), keyB_cons, decide_eq_false hl]; simp
theorem chars_fin : ∀ n : Fin 256, decide (UInt8.ofNat n.val ∈ ([97, 98, 99, 100, 101, 102, 103, 104, 105, 106, 107, 108, 109, 110, 111, 112, 113, 114, 115, 116, 117, 118, 119, 120, 121, 122, 48, 49, 50, 51, 52, 53, 54, 55, 56, 57, 45, 95] : List UInt8)) = okN n.val := by decide +kernel
theorem low_fin : ∀ n : Fin 256, decide (UInt8.ofNat n.val ∈ ([97, 98, 99, 100, 101, 102, 103, 104, 105, 106, 107, 108, 109, 110, 111, 112, 113, 114, 115, 116, 117, 118, 119, 120, 121, 122] : List UInt8)) = (decide (97 ≤ n.val) && decide (n.val ≤ 122)) := by decide +kernel
theorem u8_fin {p : UInt8 → Bool} {q : Nat → Bool} (h : ∀ n : Fin 256, p (UInt8.ofNat n.val) = q n.val) (c : UInt8) : p c = q c.toNat := by
  have := h ⟨c.toNat, c.toNat_lt⟩
  simpa using this
end Go.Beacon

/- Plain facts: loops by a measure, products within bounds, quotients rounded down. No program in sight. -/
set_option linter.unusedVariables false
set_option linter.unusedSimpArgs false
namespace Go.Beacon
open Go Go.Eng

/-- A loop whose rounds keep something and make a number smaller ends; what its last round tells holds. -/
theorem iter_inv {S A : Type} (f : S → Option (S ⊕ A)) (m : S → Nat) (Inv : S → Prop) (R : A → Prop)
    (h : ∀ s, Inv s → (∃ s', f s = some (.inl s') ∧ Inv s' ∧ m s' < m s) ∨ (∃ a, f s = some (.inr a) ∧ R a)) : ∀ s, Inv s → ∃ a, iter f s = some a ∧ R a := by
  have key : ∀ (n : Nat) s, m s ≤ n → Inv s → ∃ a, iter f s = some a ∧ R a := by
    intro n
    induction n with
    | zero =>
      intro s hm hi
      rcases h s hi with ⟨s', _, _, h3⟩ | ⟨a, h1, h2⟩
      · omega
      · exact ⟨a, by rw [iter_eq, h1]; rfl, h2⟩
    | succ n ih =>
      intro s hm hi
      rcases h s hi with ⟨s', h1, h2, h3⟩ | ⟨a, h1, h2⟩
      · obtain ⟨a, h4, h5⟩ := ih s' (by omega) h2
        exact ⟨a, by rw [iter_eq, h1]; simpa using h4, h5⟩
      · exact ⟨a, by rw [iter_eq, h1]; rfl, h2⟩
  exact fun s hi => key (m s) s (Nat.le_refl _) hi
end Go.Beacon

/- Strings cut at one byte. No program in sight. -/
set_option linter.unusedVariables false
set_option linter.unusedSimpArgs false
namespace Go.Beacon
open Go Go.Eng

/-- A string cut at each byte c. -/
def splitC (c : UInt8) : Str → List Str
  | [] => [[]]
  | b :: r => if b = c then [] :: splitC c r else match splitC c r with
    | [] => [[b]]
    | h :: t => (b :: h) :: t
theorem splitC_ne (c : UInt8) : ∀ s, splitC c s ≠ []
  | [] => by simp [splitC]
  | b :: r => by
    unfold splitC
    split
    · simp
    · split <;> simp
theorem splitC_length (c : UInt8) : ∀ s, (splitC c s).length ≤ s.length + 1
  | [] => by simp [splitC]
  | b :: r => by
    have ih := splitC_length c r
    unfold splitC
    split
    · simp; omega
    · split
      · simp
      · rename_i h t e; rw [e] at ih; simp at ih ⊢; omega
theorem split_C (c : UInt8) : ∀ s, Lib.split s [c] = splitC c s
  | [] => rfl
  | b :: r => by
    have ih := split_C c r
    unfold Lib.split at ih ⊢
    unfold splitC
    by_cases hb : b = c
    · subst hb
      have hix : Lib.index (b :: r) [b] = 0 := by rw [Lib.index]; simp [List.isPrefixOf]
      rw [if_pos rfl, Lib.count_cons_eq, Nat.add_comm, Lib.splitK, hix, ← ih]
      simp
    · rw [if_neg hb, Lib.count_cons_ne b c r hb, ← ih]
      have hp : ([c] : List UInt8).isPrefixOf (b :: r) = false := by simp [List.isPrefixOf, Ne.symm hb]
      have hix : Lib.index (b :: r) [c] = if Lib.index r [c] == -1 then -1 else Lib.index r [c] + 1 := by rw [Lib.index, hp]; simp
      by_cases hm : Lib.index r [c] = -1
      · rw [Lib.count_miss hm]; rfl
      · have hge := Lib.index_ge r [c]
        obtain ⟨j, hj⟩ : ∃ j : Nat, Lib.index r [c] = j := ⟨(Lib.index r [c]).toNat, by omega⟩
        have hix' : Lib.index (b :: r) [c] = ((j + 1 : Nat) : Int) := by rw [hix, if_neg (fun e => hm (beq_iff_eq.1 e)), hj]; omega
        rw [Lib.count_hit (by simp) hj, Nat.add_comm]
        have n1 : ¬ ((((j + 1 : Nat) : Int) == -1) = true) := fun h => by have := beq_iff_eq.1 h; omega
        have n2 : ¬ ((((j : Nat) : Int) == -1) = true) := fun h => by have := beq_iff_eq.1 h; omega
        simp only [Lib.splitK, hix', hj, if_neg n1, if_neg n2]
        simp [List.take_succ_cons]
/-- strings.Split at one byte. -/
theorem splitO_eq {s : Str} {c : UInt8} (h : s.length ≤ 1000000000) : splitO s [c] = some (splitC c s) := by
  unfold splitO
  rw [if_pos ⟨by omega, by simp⟩]
  congr 1
  have h1 := Lib.splitB_data ⟨#[c]⟩ 0 (Lib.countB ⟨s.toArray⟩ ⟨#[c]⟩) ⟨s.toArray⟩
  rw [← split_C]
  exact h1
end Go.Beacon

/- Names: keys with points between. No program in sight. -/
set_option linter.unusedVariables false
set_option linter.unusedSimpArgs false
namespace Go.Beacon
open Go Go.Eng

/-- A string cut at the first byte c. -/
def cut1 (c : UInt8) : Str → Str × Str × Bool
  | [] => ([], [], false)
  | b :: r => if b = c then ([], r, true) else (b :: (cut1 c r).1, (cut1 c r).2.1, (cut1 c r).2.2)
theorem cut1_miss (c : UInt8) : ∀ s, (cut1 c s).2.2 = false → (cut1 c s).1 = s ∧ (cut1 c s).2.1 = []
  | [] => fun _ => ⟨rfl, rfl⟩
  | b :: r => by
    have ih := cut1_miss c r
    unfold cut1
    split
    · intro h; cases h
    · intro h; have := ih h; simp [this]
theorem cut_C (c : UInt8) : ∀ s, Lib.cut s [c] = cut1 c s
  | [] => rfl
  | b :: r => by
    have ih := cut_C c r
    unfold Lib.cut at ih ⊢
    unfold cut1
    by_cases hb : b = c
    · subst hb
      have hix : Lib.index (b :: r) [b] = 0 := by rw [Lib.index]; simp [List.isPrefixOf]
      rw [if_pos rfl, hix]; simp
    · rw [if_neg hb, ← ih]
      have hp : ([c] : List UInt8).isPrefixOf (b :: r) = false := by simp [List.isPrefixOf, Ne.symm hb]
      have hix : Lib.index (b :: r) [c] = if Lib.index r [c] == -1 then -1 else Lib.index r [c] + 1 := by rw [Lib.index, hp]; simp
      by_cases hm : Lib.index r [c] = -1
      · rw [hix, hm]; simp
      · have hge := Lib.index_ge r [c]
        have hn : ¬ ((Lib.index r [c] == -1) = true) := fun e => hm (beq_iff_eq.1 e)
        obtain ⟨j, hj⟩ : ∃ j : Nat, Lib.index r [c] = j := ⟨(Lib.index r [c]).toNat, by omega⟩
        have hix' : Lib.index (b :: r) [c] = ((j + 1 : Nat) : Int) := by rw [hix, if_neg hn, hj]; omega
        rw [hix', hj, if_pos (by omega), if_pos (by omega)]
        simp
theorem cutO_eq {s : Str} {c : UInt8} (h : s.length ≤ 1000000000) : cutO s [c] = some (cut1 c s) := by
  unfold cutO
  rw [if_pos (by omega), cut_C]
theorem split_cut (c : UInt8) : ∀ s, splitC c s = if (cut1 c s).2.2 = true then (cut1 c s).1 :: splitC c (cut1 c s).2.1 else [s]
  | [] => rfl
  | b :: r => by
    have ih := split_cut c r
    have e1 : splitC c (b :: r) = (if b = c then [] :: splitC c r else match splitC c r with
      | [] => [[b]]
      | h :: t => (b :: h) :: t) := rfl
    rw [e1]
    unfold cut1
    by_cases hb : b = c
    · rw [if_pos hb, if_pos hb]; rfl
    · rw [if_neg hb, if_neg hb, ih]
      by_cases hc : (cut1 c r).2.2 = true
      · simp [hc]
      · simp [hc]
theorem cut1_len (c : UInt8) : ∀ s, (cut1 c s).1.length ≤ s.length ∧ (cut1 c s).2.1.length ≤ s.length
  | [] => ⟨Nat.le_refl _, Nat.le_refl _⟩
  | b :: r => by
    have ih := cut1_len c r
    unfold cut1
    split
    · simp
    · simp; omega
/-- A name: at most k keys with points between. -/
def dotB (k : Nat) (s : Str) : Bool := decide ((splitC 46 s).length ≤ k) && (splitC 46 s).all keyB
theorem Dotted_loop (most : Nat) (hm : most ≤ 1000) : ∀ (k : Nat) (s : Str) (n : Int), 0 ≤ n → n + k = most → s.length ≤ 1000000000 → base_Dotted_l1 most s n = some (dotB k s)
  | 0, s, n, h0, hn, hs => by
    have hne := splitC_ne 46 s
    have hp : 0 < (splitC 46 s).length := List.length_pos_iff.2 hne
    unfold base_Dotted_l1
    rw [iter_eq]
    show (match base_Dotted_b1 most s n with | _ => _) = _
    rw [base_Dotted_b1, if_neg (by omega)]
    simp only [Option.map_some, Option.bind_some]
    unfold dotB
    rw [decide_eq_false (by omega)]; rfl
  | k + 1, s, n, h0, hn, hs => by
    have ih := Dotted_loop most hm k (cut1 46 s).2.1 (n + 1) (by omega) (by omega) (by have := (cut1_len 46 s).2; omega)
    unfold base_Dotted_l1 at ih ⊢
    rw [iter_eq]
    show (match base_Dotted_b1 most s n with | _ => _) = _
    rw [base_Dotted_b1, if_pos (by omega), cutO_eq hs]
    simp only [Option.bind_some, Key_eq]
    unfold dotB
    rw [split_cut 46 s]
    by_cases hk : keyB (cut1 46 s).1 = true
    · by_cases hc : (cut1 46 s).2.2 = true
      · simp only [hk, hc, Bool.not_true, Bool.false_eq_true, if_false, if_true]
        rw [w64_in (by omega) (by omega)]
        refine ih.trans ?_
        unfold dotB
        simp [hk]
      · have hs' := cut1_miss 46 s (by simpa using hc)
        rw [hs'.1] at hk
        simp [hk, hc, hs'.1]
    · by_cases hc : (cut1 46 s).2.2 = true
      · simp [hk, hc]
      · have hs' := cut1_miss 46 s (by simpa using hc)
        rw [hs'.1] at hk
        simp [hk, hc, hs'.1]
end Go.Beacon

/- Strings without marks; letters: the checks of the program and of the reference. No program in sight. -/
set_option linter.unusedVariables false
set_option linter.unusedSimpArgs false
namespace Go.Beacon
open Go Go.Eng

/-! letters -/
end Go.Beacon

/- Trimming. No program in sight. -/
set_option linter.unusedVariables false
set_option linter.unusedSimpArgs false
namespace Go.Beacon
open Go Go.Eng

theorem dropW_nil {α : Type} (p : α → Bool) : ∀ l : List α, l.dropWhile p = [] ↔ l.all p = true
  | [] => by simp
  | x :: r => by
    rw [List.dropWhile_cons]
    cases h : p x with
    | true => simp only [if_true, List.all_cons, h, Bool.true_and]; exact dropW_nil p r
    | false => simp [h]
theorem trimS_nil (l cs : Str) : Lib.trimS l cs = [] ↔ l.all (fun c => decide (c ∈ cs)) = true := by
  have hc : ∀ c : UInt8, cs.contains c = decide (c ∈ cs) := fun c => by rw [Bool.eq_iff_iff]; simp
  unfold Lib.trimS Lib.trimLeftS Lib.trimRightS
  rw [dropW_nil, List.all_reverse]
  constructor
  · intro h
    have hd : (l.reverse.dropWhile (cs.contains ·)) = [] := by
      cases hh : l.reverse.dropWhile (cs.contains ·) with
      | nil => rfl
      | cons a b =>
        have h1 := List.head?_dropWhile_not (fun c => cs.contains c) l.reverse
        rw [hh] at h h1
        simp only [List.head?_cons] at h1
        simp only [List.all_cons, Bool.and_eq_true] at h
        rw [h.1] at h1; simp at h1
    rw [dropW_nil, List.all_reverse] at hd
    simpa [hc] using hd
  · intro h
    have hd : l.reverse.dropWhile (cs.contains ·) = [] := by
      rw [dropW_nil, List.all_reverse]; simpa [hc] using h
    rw [hd]; rfl
theorem trimO_eq {s cs : Str} (h1 : s.length ≤ 100000) (h2 : cs.length ≤ 100000) (h3 : cs.all (fun b => decide (b.toNat < 128)) = true) : trimO s cs = some (Lib.trimS s cs) := by
  unfold trimO; rw [if_pos ⟨by omega, by omega, h3⟩]
end Go.Beacon

/- Keys as the first reference tells them: by trimming. No program in sight. -/
set_option linter.unusedVariables false
set_option linter.unusedSimpArgs false
namespace Go.Beacon
open Go Go.Eng

theorem QKeyT_eq (s : Str) : Q_Key s = some (keyB s) := by
  unfold Q_Key Q_Key_j1
  rw [Qin_eq]
  cases s with
  | nil => rfl
  | cons c r =>
    by_cases hl : (c :: r).length ≤ 40
    · rw [if_pos (by simp; simp at hl; omega), trimO_eq (by omega) (by simp) (by decide)]
      simp only [Option.bind_some]
      have e : (c :: r).all (fun c => decide (c ∈ ([97, 98, 99, 100, 101, 102, 103, 104, 105, 106, 107, 108, 109, 110, 111, 112, 113, 114, 115, 116, 117, 118, 119, 120, 121, 122, 48, 49, 50, 51, 52, 53, 54, 55, 56, 57, 45, 95] : List UInt8))) = (c :: r).all (fun c => okN c.toNat) := by
        congr 1; funext c
        exact u8_fin (p := fun c => decide (c ∈ ([97, 98, 99, 100, 101, 102, 103, 104, 105, 106, 107, 108, 109, 110, 111, 112, 113, 114, 115, 116, 117, 118, 119, 120, 121, 122, 48, 49, 50, 51, 52, 53, 54, 55, 56, 57, 45, 95] : List UInt8))) chars_fin c
      have e2 := u8_fin (p := fun c => decide (c ∈ ([97, 98, 99, 100, 101, 102, 103, 104, 105, 106, 107, 108, 109, 110, 111, 112, 113, 114, 115, 116, 117, 118, 119, 120, 121, 122] : List UInt8))) (q := fun n => decide (97 ≤ n) && decide (n ≤ 122)) low_fin c
      rw [keyB_cons, decide_eq_true hl, Bool.true_and, ← e, ← e2]
      by_cases ht : Lib.trimS (c :: r) ([97, 98, 99, 100, 101, 102, 103, 104, 105, 106, 107, 108, 109, 110, 111, 112, 113, 114, 115, 116, 117, 118, 119, 120, 121, 122, 48, 49, 50, 51, 52, 53, 54, 55, 56, 57, 45, 95] : Str) = []
      · rw [if_pos ht, (trimS_nil _ _).1 ht, Bool.and_true]
        have i0 : idx (c :: r) 0 = some c := rfl
        rw [i0]
        simp only [Option.bind_some, indexByteI, toU8]
        congr 1
        have := indexByte_nonneg ([97, 98, 99, 100, 101, 102, 103, 104, 105, 106, 107, 108, 109, 110, 111, 112, 113, 114, 115, 116, 117, 118, 119, 120, 121, 122] : List UInt8) c
        rw [decide_eq_decide]
        constructor
        · intro h; exact Classical.byContradiction fun h' => by have := this.2 h'; omega
        · intro h; have h' := mt this.1 (fun h' => h' h); omega
      · rw [if_neg ht]
        have : (c :: r).all (fun c => decide (c ∈ ([97, 98, 99, 100, 101, 102, 103, 104, 105, 106, 107, 108, 109, 110, 111, 112, 113, 114, 115, 116, 117, 118, 119, 120, 121, 122, 48, 49, 50, 51, 52, 53, 54, 55, 56, 57, 45, 95] : List UInt8))) = false := by
          rw [← Bool.not_eq_true]; exact fun h => ht ((trimS_nil _ _).2 h)
        rw [this, Bool.and_false]
    · rw [if_neg (by simp; simp at hl; omega), keyB_cons, decide_eq_false hl]; rfl
end Go.Beacon

/- Parts of queries and items: both checks tell the same. No program in sight. -/
set_option linter.unusedVariables false
set_option linter.unusedSimpArgs false
namespace Go.Beacon
open Go Go.Eng

def propB (s : Str) : Bool := decide (s.length ≤ 40) && dotB 5 s
theorem Property_eq {s : Str} (h : s.length ≤ 1000000000) : item_Property s = some (propB s) := by
  unfold item_Property item_Property_j1 propB
  by_cases c : s.length ≤ 40
  · rw [if_pos (by omega)]
    unfold base_Dotted
    rw [show (5 : Int) = ((5 : Nat) : Int) from rfl, Dotted_loop 5 (by omega) 5 s 0 (by omega) (by omega) h]
    simp [c]
  · rw [if_neg (by omega)]; simp [c]
theorem PropName_eq {s : Str} (h : s.length ≤ 1000000000) : Q_PropName s = some (propB s) := by
  unfold Q_PropName Q_PropName_j1 propB dotB
  rw [splitO_eq h]
  simp only [Option.bind_some]
  have hl := splitC_length 46 s
  by_cases c : s.length ≤ 40
  · rw [if_pos (by omega)]
    by_cases d : (splitC 46 s).length ≤ 5
    · rw [if_pos (by omega)]
      have hc : slices_ContainsFunc_string_string (splitC 46 s) (fun y0 => Q_PropName_1x y0) = some ((splitC 46 s).any (fun x => !keyB x)) :=
        gContainsFunc_eq _ _ _ (fun x _ => by unfold Q_PropName_1x; rw [QKeyT_eq]; rfl) (by omega)
      rw [hc]
      simp only [Option.bind_some, Option.some.injEq]
      simp [c, d, List.all_eq_not_any_not]
    · rw [if_neg (by omega)]; simp [d]
  · rw [if_neg (by omega)]; simp [c]
/-! values -/
def rightB (v : ValueS) : Bool := (decide (0 ≤ v.Kind) && decide (v.Kind ≤ 3)) && ((decide (v.Kind = 1) || !v.Flag) && ((decide (v.Kind = 2) || decide (v.Number = 0)) && (decide (v.Kind = 3) || decide (v.Words = []))) && ((decide (-1000000000 ≤ v.Number) && decide (v.Number ≤ 1000000000)) && (decide (v.Words.length ≤ 100) && Lib.validD v.Words)))
theorem Right_j1 (v : ValueS) (hw : v.Words.length ≤ 1000000) (c : Bool) (n : Int) (q : Str) : item_Right_j1 v c n q = some ((decide (v.Flag = c) && (decide (v.Number = n) && decide (v.Words = q))) && ((decide (-1000000000 ≤ v.Number) && decide (v.Number ≤ 1000000000)) && (decide (v.Words.length ≤ 100) && Lib.validD v.Words))) := by
  obtain ⟨k, f, m, w⟩ := v
  unfold item_Right_j1 item_Right_j4 validO base_Out base_Out_j1
  simp only [ValueS.mk.injEq, true_and]
  by_cases h1 : f = c ∧ m = n ∧ w = q
  · rw [if_pos h1]
    obtain ⟨rfl, rfl, rfl⟩ := h1
    by_cases h2 : -1000000000 ≤ m ∧ m ≤ 1000000000
    · rw [if_pos (by simp; omega)]
      by_cases h3 : w.length ≤ 100
      · rw [if_pos (by omega), if_pos (by simp only at hw; omega)]
        simp [h2, h3]
      · rw [if_neg (by omega)]; simp [h3]
    · rw [if_neg (by simp; omega)]
      rw [eq_comm]; simp; omega
  · rw [if_neg h1]
    rw [eq_comm]; simp
    intro a b c'
    exact absurd ⟨a, b, c'⟩ h1
theorem Right_eq (v : ValueS) (hw : v.Words.length ≤ 1000000) : item_Right v = some (rightB v) := by
  unfold item_Right item_Right_j3 item_Right_j2
  simp only [Right_j1 v hw]
  unfold rightB
  by_cases k0 : v.Kind = 0
  · rw [if_pos k0]; simp [k0]
  by_cases k1 : v.Kind = 1
  · rw [if_neg k0, if_pos k1]; simp [k1]
  by_cases k2 : v.Kind = 2
  · rw [if_neg k0, if_neg k1, if_pos k2]; simp [k2]
  by_cases k3 : v.Kind = 3
  · rw [if_neg k0, if_neg k1, if_neg k2, if_pos k3]; simp [k3]
  rw [if_neg k0, if_neg k1, if_neg k2, if_neg k3]
  rw [eq_comm]; simp; omega
theorem RightValue_eq (v : ValueS) (hw : v.Words.length ≤ 1000000) : Q_RightValue v = some (rightB v) := by
  unfold Q_RightValue Q_RightValue_l1
  have h := iter_find [v.Flag, decide (v.Number ≠ (0 : Int)), decide (v.Words ≠ ([] : Str))] (fun x : Int => Q_RightValue_b1 v x) (fun _ => none) false (by simp)
  clear h
  have k3 : Q_RightValue_k3 v = some ((decide (0 ≤ v.Kind) && decide (v.Kind ≤ 3)) && ((decide (-1000000000 ≤ v.Number) && decide (v.Number ≤ 1000000000)) && (Lib.validD v.Words && decide (v.Words.length ≤ 100)))) := by
    unfold Q_RightValue_k3 Q_RightValue_j2 validO Q_in Q_in_j1
    by_cases h1 : 0 ≤ v.Kind ∧ v.Kind ≤ 3
    · rw [if_pos (by simp; omega)]
      by_cases h2 : -1000000000 ≤ v.Number ∧ v.Number ≤ 1000000000
      · rw [if_pos (by simp; omega), if_pos (by omega)]
        have e : decide ((v.Words.length : Int) ≤ 100) = decide (v.Words.length ≤ 100) := by rw [decide_eq_decide]; omega
        simp [h1, h2, e]
      · rw [if_neg (by simp; omega)]
        rw [eq_comm]; simp; omega
    · rw [if_neg (by simp; omega)]
      rw [eq_comm]; simp; omega
  have w1 : w64 ((0 : Int) + 1) = 1 := w64_in (by omega) (by omega)
  have w2 : w64 ((1 : Int) + 1) = 2 := w64_in (by omega) (by omega)
  have w3 : w64 ((2 : Int) + 1) = 3 := w64_in (by omega) (by omega)
  have i0 : idx [v.Flag, decide (v.Number ≠ (0 : Int)), decide (v.Words ≠ ([] : Str))] 0 = some v.Flag := rfl
  have i1 : idx [v.Flag, decide (v.Number ≠ (0 : Int)), decide (v.Words ≠ ([] : Str))] 1 = some (decide (v.Number ≠ (0 : Int))) := rfl
  have i2 : idx [v.Flag, decide (v.Number ≠ (0 : Int)), decide (v.Words ≠ ([] : Str))] 2 = some (decide (v.Words ≠ ([] : Str))) := rfl
  have b3 : Q_RightValue_b1 v 3 = Option.map .inr (Q_RightValue_k3 v) := by unfold Q_RightValue_b1; rw [if_neg (by simp)]
  have b2 : Q_RightValue_b1 v 2 = if (decide (v.Words ≠ ([] : Str)) && decide (v.Kind ≠ 3)) = true then some (.inr false) else some (.inl 3) := by
    unfold Q_RightValue_b1 Q_RightValue_j1; rw [if_pos (by simp), i2, w3]; rfl
  have b1 : Q_RightValue_b1 v 1 = if (decide (v.Number ≠ (0 : Int)) && decide (v.Kind ≠ 2)) = true then some (.inr false) else some (.inl 2) := by
    unfold Q_RightValue_b1 Q_RightValue_j1; rw [if_pos (by simp), i1, w2]; rfl
  have b0 : Q_RightValue_b1 v 0 = if (v.Flag && decide (v.Kind ≠ 1)) = true then some (.inr false) else some (.inl 1) := by
    unfold Q_RightValue_b1 Q_RightValue_j1; rw [if_pos (by simp), i0, w1]; rfl
  have e3 : iter (fun x : Int => Q_RightValue_b1 v x) 3 = Q_RightValue_k3 v := by rw [iter_eq, b3, map_inr_after]
  have e2 : iter (fun x : Int => Q_RightValue_b1 v x) 2 = if (decide (v.Words ≠ ([] : Str)) && decide (v.Kind ≠ 3)) = true then some false else Q_RightValue_k3 v := by
    rw [iter_eq, b2]; split
    · rfl
    · simp only [Option.bind_some, after_inl]; exact e3
  have e1 : iter (fun x : Int => Q_RightValue_b1 v x) 1 = if (decide (v.Number ≠ (0 : Int)) && decide (v.Kind ≠ 2)) = true then some false else iter (fun x : Int => Q_RightValue_b1 v x) 2 := by
    rw [iter_eq, b1]; split
    · rfl
    · simp only [Option.bind_some, after_inl]
  have e0 : iter (fun x : Int => Q_RightValue_b1 v x) 0 = if (v.Flag && decide (v.Kind ≠ 1)) = true then some false else iter (fun x : Int => Q_RightValue_b1 v x) 1 := by
    rw [iter_eq, b0]; split
    · rfl
    · simp only [Option.bind_some, after_inl]
  rw [e0, e1, e2, k3]
  unfold rightB
  by_cases c0 : (v.Flag && decide (v.Kind ≠ 1)) = true
  · rw [if_pos c0]; rw [eq_comm]; simp at c0 ⊢; intro _ _ h; exact absurd (h.resolve_left c0.2) (by simp [c0.1])
  rw [if_neg c0]
  by_cases c1 : (decide (v.Number ≠ (0 : Int)) && decide (v.Kind ≠ 2)) = true
  · rw [if_pos c1]; rw [eq_comm]; simp at c1 ⊢; intro _ _ _ h; exact absurd (h.resolve_left c1.2) c1.1
  rw [if_neg c1]
  by_cases c2 : (decide (v.Words ≠ ([] : Str)) && decide (v.Kind ≠ 3)) = true
  · rw [if_pos c2]; rw [eq_comm]; simp at c2 ⊢; intro _ _ _ _ h; exact absurd (h.resolve_left c2.2) c2.1
  rw [if_neg c2]
  congr 1
  have d0 : (decide (v.Kind = 1) || !v.Flag) = true := by simp at c0 ⊢; cases hf : v.Flag <;> simp_all
  have d1 : (decide (v.Kind = 2) || decide (v.Number = 0)) = true := by simp at c1 ⊢; omega
  have d2 : (decide (v.Kind = 3) || decide (v.Words = [])) = true := by
    simp at c2 ⊢
    by_cases hw0 : v.Words = []
    · exact .inr hw0
    · exact .inl (c2 hw0)
  rw [d0, d1, d2]
  simp only [Bool.true_and, Bool.and_comm (Lib.validD v.Words)]
end Go.Beacon

/- Streams, in the form that is stepped by one text: what can still be drawn is counted down. No program in sight. -/
set_option linter.unusedVariables false
set_option linter.unusedSimpArgs false
namespace Go.Beacon
open Go Go.Eng

theorem Next_k {s : Stm} {n K : Int} (hs : SOk s K) (hK : 1 ≤ K) (h1 : 1 ≤ n) (h2 : n ≤ 4611686018427387904) : Gen (Stream_Next s n) (K - 1) (fun v => 0 ≤ v ∧ v < n) :=
  Next_ok (hs.less (by omega)) h1 h2 (by omega)
theorem Flip_k {s : Stm} {n K : Int} (hs : SOk s K) (hK : 1 ≤ K) (h1 : 1 ≤ n) (h2 : n ≤ 4611686018427387904) : Gen (Stream_Flip s n) (K - 1) (fun _ => True) :=
  Flip_ok (hs.less (by omega)) h1 h2 (by omega)
theorem Pick_k {s : Stm} {l : List Int} {K : Int} (hs : SOk s K) (hK : 1 ≤ K) (h1 : l ≠ []) (h2 : l.length ≤ 1000) : Gen (Stream_Pick s l) (K - 1) (fun v => v ∈ l) :=
  Pick_ok (hs.less (by omega)) h1 h2 (by omega)
theorem Some_k {s : Stm} {l : List Str} {K : Int} (hs : SOk s K) (hK : 1 ≤ K) (h1 : l ≠ []) (h2 : l.length ≤ 1000) : Gen (Stream_Some s l) (K - 1) (fun v => v ∈ l) :=
  Some_ok (hs.less (by omega)) h1 h2 (by omega)
theorem Odd_k {s : Stm} {a b K : Int} (hs : SOk s K) (hK : 2 ≤ K) (hab : a ≤ b) (ha : -1099511627776 ≤ a) (hb : b ≤ 1099511627776) : Gen (Stream_Odd s a b) (K - 2) (fun v => -1099511627777 ≤ v ∧ v ≤ 1099511627777) :=
  Odd_ok (hs.less (by omega)) hab ha hb (by omega)
end Go.Beacon

/- Plain functions that end, and what their results are like: one lemma for each step. No program in sight. -/
set_option linter.unusedVariables false
set_option linter.unusedSimpArgs false
namespace Go.Beacon
open Go Go.Eng

/-- It ends, and its result is so. -/
def Ok {α : Type} (m : Option α) (Q : α → Prop) : Prop := ∃ r, m = some r ∧ Q r
theorem Ok.ret {α : Type} {v : α} {Q : α → Prop} (h : Q v) : Ok (some v) Q := ⟨v, rfl, h⟩
theorem Ok.mono {α : Type} {m : Option α} {P Q : α → Prop} (h : Ok m P) (hp : ∀ v, P v → Q v) : Ok m Q := by
  obtain ⟨r, h1, h2⟩ := h; exact ⟨r, h1, hp r h2⟩
theorem Ok.bind {α β : Type} {m : Option α} {f : α → Option β} {P : α → Prop} {Q : β → Prop} (h : Ok m P) (hf : ∀ v, P v → Ok (f v) Q) : Ok (m.bind f) Q := by
  obtain ⟨r, rfl, h2⟩ := h; exact hf r h2
theorem Ok.is {α β : Type} {m : Option α} {v : α} {f : α → Option β} {Q : β → Prop} (h : m = some v) (hf : Ok (f v) Q) : Ok (m.bind f) Q := by rw [h]; exact hf
theorem Ok.inr {α β : Type} {m : Option β} {Q : α ⊕ β → Prop} (h : Ok m (fun r => Q (.inr r))) : Ok (Option.map .inr m) Q := by
  obtain ⟨r, rfl, h2⟩ := h; exact ⟨_, rfl, h2⟩
theorem Ok.gen {α β : Type} {m : Option (α × Stm)} {k : Int} {P : α → Prop} {f : α × Stm → Option β} {Q : β → Prop} (h : Gen m k P) (hf : ∀ v s', P v → SOk s' k → Ok (f (v, s')) Q) : Ok (m.bind f) Q := by
  obtain ⟨v, s', rfl, h1, h2⟩ := h; exact hf v s' h1 h2
theorem Gen.of {α : Type} {m : Option (α × Stm)} {k : Int} {P : α → Prop} (h : Ok m (fun r => P r.1 ∧ SOk r.2 k)) : Gen m k P := by
  obtain ⟨⟨v, s⟩, h1, h2, h3⟩ := h; exact ⟨v, s, h1, h2, h3⟩
theorem Ok.of {α : Type} {m : Option (α × Stm)} {k : Int} {P : α → Prop} (h : Gen m k P) : Ok m (fun r => P r.1 ∧ SOk r.2 k) := by
  obtain ⟨v, s, h1, h2, h3⟩ := h; exact ⟨(v, s), h1, h2, h3⟩
theorem Ok.idx {α β : Type} {xs : List α} {i : Int} {f : α → Option β} {Q : β → Prop} (h0 : 0 ≤ i) (h1 : i < xs.length) (hf : ∀ x, idx xs i = some x → x ∈ xs → Ok (f x) Q) : Ok ((idx xs i).bind f) Q := by
  obtain ⟨x, hx, hm, _⟩ := idx_lt xs h0 h1
  rw [hx]; exact hf x hx hm
theorem Ok.app {α β : Type} {xs ys : List α} {f : List α → Option β} {Q : β → Prop} (h : xs.length + ys.length ≤ 1000000000) (hf : Ok (f (xs ++ ys)) Q) : Ok ((app xs ys).bind f) Q := by
  rw [app_le h]; exact hf
theorem Ok.slc {α β : Type} {xs : List α} {a b : Int} {f : List α → Option β} {Q : β → Prop} (h0 : 0 ≤ a) (h1 : a ≤ b) (h2 : b ≤ xs.length) (hf : ∀ ys : List α, ys = (xs.drop a.toNat).take (b.toNat - a.toNat) → (ys.length : Int) = b - a → Ok (f ys) Q) : Ok ((slc xs a b).bind f) Q := by
  rw [slc_in h0 h1 h2]; exact hf _ rfl (by simp; omega)
/-- What a round of a loop may tell: it keeps something and makes a number smaller, or it is the last. -/
abbrev Stp {S A : Type} (m : S → Nat) (Inv : S → Prop) (R : A → Prop) (s : S) : S ⊕ A → Prop
  | .inl s' => Inv s' ∧ m s' < m s
  | .inr a => R a
theorem Ok.iter {S A : Type} {f : S → Option (S ⊕ A)} {R : A → Prop} (m : S → Nat) (Inv : S → Prop)
    (h : ∀ s, Inv s → Ok (f s) (Stp m Inv R s)) (s : S) (hs : Inv s) : Ok (iter f s) R := by
  refine iter_inv f m Inv R (fun s hi => ?_) s hs
  obtain ⟨r, h1, h2⟩ := h s hi
  cases r with
  | inl s' => exact .inl ⟨s', h1, h2.1, h2.2⟩
  | inr a => exact .inr ⟨a, h1, h2⟩
/-- A round of a loop over the places of a list. -/
abbrev Rng {A : Type} (N : Nat) (R : A → Prop) (i : Int) : Int ⊕ A → Prop
  | .inl j => j = i + 1 ∧ i < N
  | .inr a => R a
theorem Ok.range {A : Type} {f : Int → Option (Int ⊕ A)} {R : A → Prop} (N : Nat) (h : ∀ i : Int, 0 ≤ i → i ≤ N → Ok (f i) (Rng N R i)) : Ok (Eng.iter f 0) R := by
  refine Ok.iter (fun i : Int => N + 1 - i.toNat) (fun i : Int => 0 ≤ i ∧ i ≤ N) (fun i hi => ?_) 0 ⟨by omega, by omega⟩
  refine (h i hi.1 hi.2).mono (fun r hr => ?_)
  cases r with
  | inl j => simp only [Rng, Stp] at hr ⊢; omega
  | inr a => exact hr
end Go.Beacon

/- Models: their checks, and those that are drawn. No program in sight. -/
set_option linter.unusedVariables false
set_option linter.unusedSimpArgs false
namespace Go.Beacon
open Go Go.Eng

/-! scans by place -/
def stp {A : Type} (o : Option A) (i : Int) : Int ⊕ A := match o with
  | some a => .inr a
  | none => .inl (i + 1)
def scanO {α A : Type} (v : Int → α → Option A) (e : A) : List α → Int → A
  | [], _ => e
  | s :: r, i => match v i s with
    | some a => a
    | none => scanO v e r (i + 1)
theorem iter_scanO {α A : Type} (v : Int → α → Option A) (e : A) (xs : List α) (f : Int → Option (Int ⊕ A))
    (hf : ∀ (i : Int) s, 0 ≤ i → i < xs.length → idx xs i = some s → f i = some (stp (v i s) i))
    (he : f xs.length = some (.inr e)) : iter f 0 = some (scanO v e xs 0) := by
  have key : ∀ (n : Nat) (i : Int), 0 ≤ i → i + n = xs.length → iter f i = some (scanO v e (xs.drop i.toNat) i) := by
    intro n
    induction n with
    | zero =>
      intro i h0 hn
      obtain rfl : i = xs.length := by omega
      rw [iter_eq, he, List.drop_of_length_le (by omega)]; rfl
    | succ n ih =>
      intro i h0 hn
      obtain ⟨s, hs, _, hd⟩ := idx_lt xs h0 (by omega)
      rw [iter_eq, hf i s h0 (by omega) hs, hd]
      conv => rhs; unfold scanO
      cases hv : v i s with
      | some a => rfl
      | none =>
        simp only [Option.bind_some, after_inl]
        exact ih (i + 1) (by omega) (by omega)
  have := key xs.length 0 (by omega) (by omega)
  simpa using this
theorem leS_ops (a b : Str) : (Op.bytesLess a b || a == b) = decide (Lib.compareBytes a b ≤ 0) := by
  rw [less_iff, beq_cmp]
  rcases cmpB_vals a b with h | h | h <;> simp [h]
/-! types of properties -/
def MB (m : Model) : Prop := m.Prefix.length ≤ 100 ∧ m.Props.length ≤ 100 ∧ ∀ p ∈ m.Props, p.Name.length ≤ 100
def ptRest (p : PropType) : Option Int :=
  if p.Kind < 1 ∨ 3 < p.Kind then some 4 else if p.Kind = 2 ∧ (p.Low < -1000000000 ∨ p.High < p.Low ∨ 1000000000 < p.High) then some 1 else if ¬ p.Kind = 2 ∧ (p.Low ≠ 0 ∨ p.High ≠ 0) then some 3 else none
def ptV (l : List PropType) (i : Int) (p : PropType) : Option Int :=
  if propB p.Name = false then some 5 else match prevOf l i with
  | some q => if Lib.compareBytes p.Name q.Name ≤ 0 then some 7 else ptRest p
  | none => ptRest p
def ptsF (l : List PropType) : Int := scanO (ptV l) 0 l 0
theorem typesFault_eq {l : List PropType} (hl : l.length ≤ 100) (hn : ∀ p ∈ l, p.Name.length ≤ 100) : device_typesFault l = some (ptsF l) := by
  unfold device_typesFault device_typesFault_l1 ptsF
  refine iter_scanO (ptV l) 0 l _ (fun i s i0 i1 hs => ?_) (by show device_typesFault_b1 l _ = _; rw [device_typesFault_b1, if_neg (by omega)]; rfl)
  have hsn := hn s (idx_mem hs)
  show device_typesFault_b1 l i = _
  rw [device_typesFault_b1, if_pos i1, hs]
  simp only [Option.bind_some]
  rw [Property_eq (by omega)]
  simp only [Option.bind_some]
  unfold ptV
  cases hp : propB s.Name
  · simp [stp]
  simp only [Bool.not_true, Bool.false_eq_true, if_false, Bool.true_eq_false]
  have j1 : ∀ c : Bool, device_typesFault_j1 i s c = some (stp (if c = true then some 7 else ptRest s) i) := by
    intro c
    unfold device_typesFault_j1 device_typesFault_j2 device_typesFault_j3 ptRest
    rw [Out_eq, Out_eq, w64_in (x := i + 1) (by omega) (by omega)]
    cases c with
    | true => rfl
    | false =>
      simp only [Bool.false_eq_true, if_false]
      by_cases h1 : s.Kind < 1 ∨ 3 < s.Kind
      · rw [if_pos (by simp only [Bool.or_eq_true, decide_eq_true_eq]; exact h1), if_pos h1]; rfl
      · rw [if_neg (by simp only [Bool.or_eq_true, decide_eq_true_eq]; exact h1), if_neg h1]
        by_cases h2 : s.Kind = 2 ∧ (s.Low < -1000000000 ∨ s.High < s.Low ∨ 1000000000 < s.High)
        · rw [if_pos (by simp only [Bool.and_eq_true, Bool.or_eq_true, decide_eq_true_eq]; omega), if_pos h2]; rfl
        · rw [if_neg (by simp only [Bool.and_eq_true, Bool.or_eq_true, decide_eq_true_eq]; omega), if_neg h2]
          by_cases h3 : ¬ s.Kind = 2 ∧ (s.Low ≠ 0 ∨ s.High ≠ 0)
          · rw [if_pos (by simp only [Bool.and_eq_true, Bool.or_eq_true, decide_eq_true_eq]; exact h3), if_pos h3]; rfl
          · rw [if_neg (by simp only [Bool.and_eq_true, Bool.or_eq_true, decide_eq_true_eq]; exact h3), if_neg h3]; rfl
  by_cases hi : 0 < i
  · obtain ⟨p, hp, _, _⟩ := idx_lt l (i := i - 1) (by omega) (by omega)
    have hpa : prevOf l i = some p := by unfold prevOf; rw [if_neg (by omega), hp]
    rw [hpa, if_pos hi, w64_in (by omega) (by omega), hp]
    simp only [Option.bind_some]
    rw [j1, leS_ops]
    simp only [decide_eq_true_eq]
  · have hpa : prevOf l i = none := by unfold prevOf; rw [if_pos (by omega)]
    rw [hpa, if_neg hi, j1, if_neg (by simp)]
theorem typesR_eq {m : Model} (hl : m.Props.length ≤ 100) (hn : ∀ p ∈ m.Props, p.Name.length ≤ 100) (n2 : Int) (h2 : 0 ≤ n2 ∧ n2 ≤ 1000) : Q_ModelsFault_l2 n2 m 0 = some (if ptsF m.Props ≠ 0 then .inr (ptsF m.Props) else .inl (n2 + 1)) := by
  unfold Q_ModelsFault_l2
  have main := iter_scanO (fun i p => (ptV m.Props i p).map (Sum.inr : Int → Int ⊕ Int)) (.inl (n2 + 1)) m.Props (fun x : Int => Q_ModelsFault_b2 n2 m x) (fun i s i0 i1 hs => ?_) (by show Q_ModelsFault_b2 n2 m _ = _; rw [Q_ModelsFault_b2, if_neg (by omega), w64_in (by omega) (by omega)]; rfl)
  · refine main.trans ?_
    congr 1
    unfold ptsF
    have hz : ∀ (l : List PropType) (i : Int) p a, ptV l i p = some a → a ≠ 0 := by
      intro l i p a h
      have hr : ∀ p a, ptRest p = some a → a ≠ 0 := by
        intro p a h
        unfold ptRest at h
        split at h
        · rw [← Option.some.inj h]; decide
        · split at h
          · rw [← Option.some.inj h]; decide
          · split at h
            · rw [← Option.some.inj h]; decide
            · cases h
      unfold ptV at h
      split at h
      · rw [← Option.some.inj h]; decide
      · split at h
        · split at h
          · rw [← Option.some.inj h]; decide
          · exact hr _ _ h
        · exact hr _ _ h
    have key : ∀ (r : List PropType) (i : Int), scanO (fun i p => (ptV m.Props i p).map (Sum.inr : Int → Int ⊕ Int)) (.inl (n2 + 1)) r i = if scanO (ptV m.Props) 0 r i ≠ 0 then .inr (scanO (ptV m.Props) 0 r i) else .inl (n2 + 1) := by
      intro r
      induction r with
      | nil => intro i; rfl
      | cons p r ih =>
        intro i
        unfold scanO
        cases hv : ptV m.Props i p with
        | some a => simp only [Option.map_some]; rw [if_pos (hz _ _ _ _ hv)]
        | none => simp only [Option.map_none]; exact ih (i + 1)
    exact key m.Props 0
  · have hsn := hn s (idx_mem hs)
    show Q_ModelsFault_b2 n2 m i = _
    rw [Q_ModelsFault_b2, if_pos i1, hs]
    simp only [Option.bind_some]
    rw [PropName_eq (by omega)]
    simp only [Option.bind_some]
    unfold ptV
    cases hp : propB s.Name
    · simp [stp]
    simp only [Bool.not_true, Bool.false_eq_true, if_false, Bool.true_eq_false]
    have j3 : ∀ c : Bool, Q_ModelsFault_j3 i s c = some (stp ((if c = true then some 7 else ptRest s).map (Sum.inr : Int → Int ⊕ Int)) i) := by
      intro c
      unfold Q_ModelsFault_j3 Q_ModelsFault_j4 Q_ModelsFault_j5 ptRest
      rw [Qin_eq, Qin_eq, w64_in (x := i + 1) (by omega) (by omega)]
      cases c with
      | true => rfl
      | false =>
        simp only [Bool.false_eq_true, if_false]
        by_cases h1 : s.Kind < 1 ∨ 3 < s.Kind
        · rw [if_pos (by simp only [Bool.not_eq_true', Bool.and_eq_false_iff, decide_eq_false_iff_not]; omega), if_pos h1]; rfl
        · rw [if_neg (by simp only [Bool.not_eq_true', Bool.and_eq_false_iff, decide_eq_false_iff_not]; omega), if_neg h1]
          by_cases h2 : s.Kind = 2 ∧ (s.Low < -1000000000 ∨ s.High < s.Low ∨ 1000000000 < s.High)
          · rw [if_pos (by simp only [Bool.and_eq_true, Bool.or_eq_true, Bool.not_eq_true', Bool.and_eq_false_iff, decide_eq_true_eq, decide_eq_false_iff_not]; omega), if_pos h2]; rfl
          · rw [if_neg (by simp only [Bool.and_eq_true, Bool.or_eq_true, Bool.not_eq_true', Bool.and_eq_false_iff, decide_eq_true_eq, decide_eq_false_iff_not]; omega), if_neg h2]
            by_cases h3 : ¬ s.Kind = 2 ∧ (s.Low ≠ 0 ∨ s.High ≠ 0)
            · rw [if_pos (by simp only [Bool.and_eq_true, Bool.or_eq_true, decide_eq_true_eq]; exact h3), if_pos h3]; rfl
            · rw [if_neg (by simp only [Bool.and_eq_true, Bool.or_eq_true, decide_eq_true_eq]; exact h3), if_neg h3]; rfl
    by_cases hi : 0 < i
    · obtain ⟨p, hp, _, _⟩ := idx_lt m.Props (i := i - 1) (by omega) (by omega)
      have hpa : prevOf m.Props i = some p := by unfold prevOf; rw [if_neg (by omega), hp]
      rw [hpa, if_pos hi, w64_in (by omega) (by omega), hp]
      simp only [Option.bind_some]
      rw [j3, leS_ops]
      simp only [decide_eq_true_eq]
    · have hpa : prevOf m.Props i = none := by unfold prevOf; rw [if_pos (by omega)]
      rw [hpa, if_neg hi, j3, if_neg (by simp)]
/-! models -/
abbrev sCaps : Str := [65, 66, 67, 68, 69, 70, 71, 72, 73, 74, 75, 76, 77, 78, 79, 80, 81, 82, 83, 84, 85, 86, 87, 88, 89, 90]
def pfxB (s : Str) : Bool := (decide (2 ≤ s.length) && decide (s.length ≤ 4)) && decide (Lib.trimS s sCaps = [])
theorem isPrefix_eq {s : Str} (h : s.length ≤ 1000) : device_isPrefix s = some (pfxB s) := by
  unfold device_isPrefix device_isPrefix_j1 pfxB
  rw [Out_eq, trimO_eq (by omega) (by decide) (by decide)]
  by_cases c : 2 ≤ s.length ∧ s.length ≤ 4
  · rw [if_pos (by simp only [Bool.not_eq_true', Bool.or_eq_false_iff, decide_eq_false_iff_not]; omega)]
    simp [c.1, c.2]
  · rw [if_neg (by simp only [Bool.not_eq_true', Bool.or_eq_false_iff, decide_eq_false_iff_not]; omega)]
    rw [eq_comm]
    simp
    intro a b; exact absurd ⟨a, b⟩ c
def mdRest (l : List Model) (i : Int) (m : Model) : Option Int :=
  if pfxB m.Prefix = false then some 3 else if (l.take i.toNat).any (fun x => decide (x.Prefix = m.Prefix)) = true then some 6 else if 50 < m.Props.length then some 2 else if ptsF m.Props ≠ 0 then some (ptsF m.Props) else none
def mdV (l : List Model) (i : Int) (m : Model) : Option Int :=
  if keyB m.Key = false then some 5 else match prevOf l i with
  | some q => if Lib.compareBytes m.Key q.Key ≤ 0 then some 7 else mdRest l i m
  | none => mdRest l i m
def mdF (l : List Model) : Int := if 50 < l.length then 2 else scanO (mdV l) 0 l 0
theorem ContM (L : List Model) (fn : Model → Option Bool) (p : Model → Bool) (hf : ∀ x, fn x = some (p x)) (hl : (L.length : Int) ≤ 100000) : slices_ContainsFunc_Model_Model L fn = some (L.any p) :=
  gContainsFunc_eq L fn p (fun x _ => hf x) (by omega)
theorem CheckModels_eq {l : List Model} (h : ∀ m ∈ l, MB m) : device_CheckModels l = some (mdF l) := by
  unfold device_CheckModels mdF
  by_cases h50 : 50 < l.length
  · rw [if_pos (by omega), if_pos h50]
  rw [if_neg (by omega), if_neg h50]
  unfold device_CheckModels_l1
  refine iter_scanO (mdV l) 0 l _ (fun i s i0 i1 hs => ?_) (by show device_CheckModels_b1 l _ = _; rw [device_CheckModels_b1, if_neg (by omega)]; rfl)
  obtain ⟨b1, b2, b3⟩ := h s (idx_mem hs)
  show device_CheckModels_b1 l i = _
  rw [device_CheckModels_b1, if_pos i1, hs]
  simp only [Option.bind_some]
  rw [Key_eq]
  simp only [Option.bind_some]
  unfold mdV
  cases hk : keyB s.Key
  · simp [stp]
  simp only [Bool.not_true, Bool.false_eq_true, if_false, Bool.true_eq_false]
  have j1 : ∀ c : Bool, device_CheckModels_j1 l i s c = some (stp (if c = true then some 7 else mdRest l i s) i) := by
    intro c
    unfold device_CheckModels_j1 mdRest
    cases c with
    | true => rfl
    | false =>
      simp only [Bool.false_eq_true, if_false]
      rw [isPrefix_eq (by omega)]
      simp only [Option.bind_some]
      cases hp : pfxB s.Prefix
      · simp [stp]
      simp only [Bool.not_true, Bool.false_eq_true, if_false, Bool.true_eq_false]
      rw [slc_in (by omega) (by omega) (by omega)]
      simp only [Option.bind_some]
      rw [show (l.drop (0 : Int).toNat).take (i.toNat - (0 : Int).toNat) = l.take i.toNat by simp, ContM _ (fun y0 => some (device_CheckModels_1x y0 s)) (fun x => decide (x.Prefix = s.Prefix)) (fun _ => rfl) (by rw [List.length_take]; omega)]
      simp only [Option.bind_some]
      by_cases ha : (l.take i.toNat).any (fun x => decide (x.Prefix = s.Prefix)) = true
      · rw [if_pos ha, if_pos ha]; rfl
      rw [if_neg ha, if_neg ha]
      by_cases h5 : 50 < s.Props.length
      · rw [if_pos (by omega), if_pos h5]; rfl
      rw [if_neg (by omega), if_neg h5, typesFault_eq b2 b3]
      simp only [Option.bind_some]
      rw [w64_in (by omega) (by omega)]
      by_cases hz : ptsF s.Props ≠ 0
      · rw [if_pos hz, if_pos hz]; rfl
      · rw [if_neg hz, if_neg hz]; rfl
  by_cases hi : 0 < i
  · obtain ⟨p, hp, _, _⟩ := idx_lt l (i := i - 1) (by omega) (by omega)
    have hpa : prevOf l i = some p := by unfold prevOf; rw [if_neg (by omega), hp]
    rw [hpa, if_pos hi, w64_in (by omega) (by omega), hp]
    simp only [Option.bind_some]
    rw [j1, leS_ops]
    simp only [decide_eq_true_eq]
  · have hpa : prevOf l i = none := by unfold prevOf; rw [if_pos (by omega)]
    rw [hpa, if_neg hi, j1, if_neg (by simp)]
theorem upper_small : toUpperO ([97, 98, 99, 100, 101, 102, 103, 104, 105, 106, 107, 108, 109, 110, 111, 112, 113, 114, 115, 116, 117, 118, 119, 120, 121, 122] : Str) = some sCaps := by decide
theorem ModelsFault_eq {l : List Model} (h : ∀ m ∈ l, MB m) : Q_ModelsFault l = some (mdF l) := by
  unfold Q_ModelsFault mdF
  by_cases h50 : 50 < l.length
  · rw [if_pos (by omega), if_pos h50]
  rw [if_neg (by omega), if_neg h50]
  unfold Q_ModelsFault_l1
  refine iter_scanO (mdV l) 0 l _ (fun i s i0 i1 hs => ?_) (by show Q_ModelsFault_b1 l _ = _; rw [Q_ModelsFault_b1, if_neg (by omega)]; rfl)
  obtain ⟨b1, b2, b3⟩ := h s (idx_mem hs)
  show Q_ModelsFault_b1 l i = _
  rw [Q_ModelsFault_b1, if_pos i1, hs]
  simp only [Option.bind_some]
  rw [QKeyT_eq]
  simp only [Option.bind_some]
  unfold mdV
  cases hk : keyB s.Key
  · simp [stp]
  simp only [Bool.not_true, Bool.false_eq_true, if_false, Bool.true_eq_false]
  have j1 : ∀ c : Bool, Q_ModelsFault_j1 l i s c = some (stp (if c = true then some 7 else mdRest l i s) i) := by
    intro c
    unfold Q_ModelsFault_j1 mdRest
    cases c with
    | true => rfl
    | false =>
      simp only [Bool.false_eq_true, if_false]
      rw [Qin_eq, upper_small]
      simp only [Option.bind_some]
      rw [trimO_eq (by omega) (by decide) (by decide)]
      simp only [Option.bind_some]
      have j2 : ∀ c : Bool, Q_ModelsFault_j2 l i s c = some (stp (if c = true then some 3 else if (l.take i.toNat).any (fun x => decide (x.Prefix = s.Prefix)) = true then some 6 else if 50 < s.Props.length then some 2 else if ptsF s.Props ≠ 0 then some (ptsF s.Props) else none) i) := by
        intro c
        unfold Q_ModelsFault_j2
        cases c with
        | true => rfl
        | false =>
          simp only [Bool.false_eq_true, if_false]
          rw [slc_in (by omega) (by omega) (by omega)]
          simp only [Option.bind_some]
          rw [show (l.drop (0 : Int).toNat).take (i.toNat - (0 : Int).toNat) = l.take i.toNat by simp, ContM _ (fun y0 => some (Q_ModelsFault_1x y0 s)) (fun x => decide (x.Prefix = s.Prefix)) (fun _ => rfl) (by rw [List.length_take]; omega)]
          simp only [Option.bind_some]
          by_cases ha : (l.take i.toNat).any (fun x => decide (x.Prefix = s.Prefix)) = true
          · rw [if_pos ha, if_pos ha]; rfl
          rw [if_neg ha, if_neg ha]
          by_cases h5 : 50 < s.Props.length
          · rw [if_pos (by omega), if_pos h5]; rfl
          rw [if_neg (by omega), if_neg h5, typesR_eq b2 b3 i ⟨i0, by omega⟩]
          by_cases hz : ptsF s.Props ≠ 0
          · rw [if_pos hz, if_pos hz]; rfl
          · rw [if_neg hz, if_neg hz]; rfl
      have hpf : (pfxB s.Prefix = false) ↔ ¬ (2 ≤ s.Prefix.length ∧ s.Prefix.length ≤ 4) ∨ Lib.trimS s.Prefix sCaps ≠ [] := by
        unfold pfxB
        by_cases ht : Lib.trimS s.Prefix sCaps = []
        · simp only [ht, decide_true, Bool.and_true, ne_eq, not_true_eq_false, or_false, Bool.and_eq_false_iff, decide_eq_false_iff_not]
          omega
        · simp [ht]
      by_cases hc : 2 ≤ s.Prefix.length ∧ s.Prefix.length ≤ 4
      · rw [if_neg (by simp only [Bool.not_eq_true', Bool.and_eq_false_iff, decide_eq_false_iff_not]; omega), j2]
        by_cases ht : Lib.trimS s.Prefix sCaps = []
        · have hn : ¬ pfxB s.Prefix = false := fun z => by
            rcases hpf.1 z with z | z
            · exact z hc
            · exact z ht
          rw [if_neg hn, if_neg (by simp [ht])]
        · rw [if_pos (hpf.2 (.inr ht)), if_pos (by simp [ht])]
      · rw [if_pos (by simp only [Bool.not_eq_true', Bool.and_eq_false_iff, decide_eq_false_iff_not]; omega), j2, if_pos (hpf.2 (.inl hc)), if_pos rfl]
  by_cases hi : 0 < i
  · obtain ⟨p, hp, _, _⟩ := idx_lt l (i := i - 1) (by omega) (by omega)
    have hpa : prevOf l i = some p := by unfold prevOf; rw [if_neg (by omega), hp]
    rw [hpa, if_pos hi, w64_in (by omega) (by omega), hp]
    simp only [Option.bind_some]
    rw [j1, leS_ops]
    simp only [decide_eq_true_eq]
  · have hpa : prevOf l i = none := by unfold prevOf; rw [if_pos (by omega)]
    rw [hpa, if_neg hi, j1, if_neg (by simp)]
/-! the models that are drawn -/
theorem len_of {l : List Str} {v : Str} (h : v ∈ l) (hl : l.all (fun x => decide (x.length ≤ 40)) = true) : v.length ≤ 40 := by
  have := List.all_eq_true.1 hl v h
  exact of_decide_eq_true this
theorem RightKinds_k {s : Stm} {K : Int} (hs : SOk s K) (hK : 20 ≤ K) : ∃ m1 m2 s', Stream_RightKinds s = some ((m1, m2), s') ∧ SOk s' (K - 1) ∧ (MB m1 ∧ 0 < m1.Props.length ∧ m1.Props.length ≤ 10) ∧ MB m2 ∧ 0 < m2.Props.length ∧ m2.Props.length ≤ 10 := by
  unfold Stream_RightKinds
  obtain ⟨v2, s2, e2, hv2, q2⟩ := Some_k (s := s) (l := [([65, 66, 67] : Str), ([88, 89] : Str), ([90, 90, 90, 90] : Str)]) hs (by omega) (by simp) (by simp)
  rw [e2]
  simp only [Option.bind_some]
  have hv2l := len_of hv2 (by decide)
  refine ⟨_, _, _, rfl, q2, ⟨by unfold MB; simp, by simp, by simp⟩, ⟨by simp only; omega, by simp, by simp⟩, by simp, by simp⟩
theorem Kinds_k {s : Stm} {K : Int} (hs : SOk s K) (hK : 20 ≤ K) : Gen (Stream_Kinds s) (K - 20) (fun l => (2 ≤ l.length ∧ l.length ≤ 3) ∧ ∀ m ∈ l, MB m) := by
  refine Gen.of ?_
  unfold Stream_Kinds
  obtain ⟨m1, m2, s2, e2, q2, ⟨b1, p1⟩, b2, p2⟩ := RightKinds_k hs hK
  rw [e2]
  simp only [Option.bind_some]
  have ret : ∀ (L : List Int) (n : Int) (l : List Model), (2 ≤ l.length ∧ l.length ≤ 3) → (∀ m ∈ l, MB m) → SOk ⟨L, n⟩ (K - 20) → Ok (some (l, (⟨L, n⟩ : Stm))) (fun r => ((2 ≤ r.1.length ∧ r.1.length ≤ 3) ∧ ∀ m ∈ r.1, MB m) ∧ SOk r.2 (K - 20)) := fun L n l h1 h2 h3 => ⟨_, rfl, ⟨h1, h2⟩, h3⟩
  have two : ∀ {a b : Model}, MB a → MB b → ∀ m ∈ [a, b], MB m := fun ha hb m hm => by
    rcases List.mem_cons.1 hm with rfl | hm
    · exact ha
    · rw [List.mem_singleton] at hm; subst hm; exact hb
  have mSet : ∀ {m : Model} {p : PropType} {x y : Int} {P : List PropType}, MB m → idx P 0 = some p → (∀ q ∈ P, q.Name.length ≤ 100) → P.length ≤ 100 → ∀ (z : PropType), z.Name = p.Name → ∀ q ∈ P.set (0 : Int).toNat z, q.Name.length ≤ 100 := by
    intro m p x y P _ hp hP _ z hz q hq
    rcases List.mem_or_eq_of_mem_set hq with h | h
    · exact hP q h
    · rw [h, hz]; exact hP p (idx_mem hp)
  refine Ok.gen (Flip_k q2 (by omega) (by omega) (by omega)) (fun f s3 _ q3 => ?_)
  dsimp only
  unfold Stream_Kinds_j9 Stream_Kinds_j8 Stream_Kinds_j7 Stream_Kinds_j6 Stream_Kinds_j5 Stream_Kinds_j4 Stream_Kinds_j3 Stream_Kinds_j2 Stream_Kinds_j1
  split
  · refine Ok.gen (Next_k q3 (by omega) (by omega) (by omega)) (fun k s4 hk q4 => ?_)
    dsimp only
    have arm : ∀ (m : Model) (g : Model → List Model) (o : Str → Str → Model), MB m → True := fun _ _ _ _ => trivial
    split
    · refine Ok.gen (Next_k q4 (by omega) (by omega) (by omega)) (fun c s5 hc q5 => ?_)
      dsimp only
      split
      · refine Ok.gen (Some_k q5 (by omega) (by simp) (by simp)) (fun u s6 hu q6 => ?_)
        exact ret _ _ _ (by simp) (two ⟨b1.1, b1.2.1, b1.2.2⟩ b2) (q6.less (by omega))
      · split
        · refine Ok.gen (Some_k q5 (by omega) (by simp) (by simp)) (fun u s6 hu q6 => ?_)
          have hul := len_of hu (by decide)
          exact ret _ _ _ (by simp) (two ⟨by show u.length ≤ 100; omega, b1.2.1, b1.2.2⟩ b2) (q6.less (by omega))
        · split
          · refine Ok.gen (Some_k q5 (by omega) (by simp) (by simp)) (fun u s6 hu q6 => ?_)
            have hul := len_of hu (by decide)
            refine Ok.gen (Odd_k q6 (by omega) (by omega) (by omega) (by omega)) (fun w s7 hw q7 => ?_)
            refine Ok.app (by simp; omega) ?_
            exact ret _ _ _ (by simp) (two ⟨b1.1, by simp; omega, fun p hp => by
              rcases List.mem_append.1 hp with e | e
              · exact b1.2.2 p e
              · rw [List.mem_singleton] at e; subst e; show u.length ≤ 100; omega⟩ b2) (q7.less (by omega))
          · split
            · refine Ok.gen (Odd_k q5 (by omega) (by omega) (by omega) (by omega)) (fun w s7 hw q7 => ?_)
              refine Ok.gen (Odd_k q7 (by omega) (by omega) (by omega) (by omega)) (fun y s8 hy q8 => ?_)
              refine Ok.idx (by omega) (by omega) (fun p hp hpm => ?_)
              have hl1 : (m1.Props.set (0 : Int).toNat (⟨p.Name, p.Kind, w, p.High⟩ : PropType)).length = m1.Props.length := List.length_set
              refine Ok.idx (by omega) (by rw [List.length_set]; omega) (fun p' hp' hpm' => ?_)
              have hs1 := mSet (x := 0) (y := 0) b1 hp b1.2.2 b1.2.1 (⟨p.Name, p.Kind, w, p.High⟩ : PropType) rfl
              have hs2 := mSet (x := 0) (y := 0) b1 hp' hs1 (by rw [hl1]; exact b1.2.1) (⟨p'.Name, p'.Kind, p'.Low, y⟩ : PropType) rfl
              exact ret _ _ _ (by simp) (two ⟨b1.1, by simp only [List.length_set]; exact b1.2.1, hs2⟩ b2) (q8.less (by omega))
            · refine Ok.app (by simp) ?_
              refine ret _ _ _ (by simp) (fun m hm => ?_) (q5.less (by omega))
              rcases List.mem_append.1 hm with e | e
              · exact two b1 b2 m e
              · rw [List.mem_singleton] at e; subst e; unfold MB; simp
    · split
      · refine Ok.gen (Next_k q4 (by omega) (by omega) (by omega)) (fun c s5 hc q5 => ?_)
        dsimp only
        split
        · refine Ok.gen (Some_k q5 (by omega) (by simp) (by simp)) (fun u s6 hu q6 => ?_)
          exact ret _ _ _ (by simp) (two b1 ⟨b2.1, b2.2.1, b2.2.2⟩) (q6.less (by omega))
        · split
          · refine Ok.gen (Some_k q5 (by omega) (by simp) (by simp)) (fun u s6 hu q6 => ?_)
            have hul := len_of hu (by decide)
            exact ret _ _ _ (by simp) (two b1 ⟨by show u.length ≤ 100; omega, b2.2.1, b2.2.2⟩) (q6.less (by omega))
          · split
            · refine Ok.gen (Some_k q5 (by omega) (by simp) (by simp)) (fun u s6 hu q6 => ?_)
              have hul := len_of hu (by decide)
              refine Ok.gen (Odd_k q6 (by omega) (by omega) (by omega) (by omega)) (fun w s7 hw q7 => ?_)
              refine Ok.app (by simp; omega) ?_
              exact ret _ _ _ (by simp) (two b1 ⟨b2.1, by simp; omega, fun p hp => by
                rcases List.mem_append.1 hp with e | e
                · exact b2.2.2 p e
                · rw [List.mem_singleton] at e; subst e; show u.length ≤ 100; omega⟩) (q7.less (by omega))
            · split
              · refine Ok.gen (Odd_k q5 (by omega) (by omega) (by omega) (by omega)) (fun w s7 hw q7 => ?_)
                refine Ok.gen (Odd_k q7 (by omega) (by omega) (by omega) (by omega)) (fun y s8 hy q8 => ?_)
                refine Ok.idx (by omega) (by omega) (fun p hp hpm => ?_)
                have hl1 : (m2.Props.set (0 : Int).toNat (⟨p.Name, p.Kind, w, p.High⟩ : PropType)).length = m2.Props.length := List.length_set
                refine Ok.idx (by omega) (by rw [List.length_set]; omega) (fun p' hp' hpm' => ?_)
                have hs1 := mSet (x := 0) (y := 0) b2 hp b2.2.2 b2.2.1 (⟨p.Name, p.Kind, w, p.High⟩ : PropType) rfl
                have hs2 := mSet (x := 0) (y := 0) b2 hp' hs1 (by rw [hl1]; exact b2.2.1) (⟨p'.Name, p'.Kind, p'.Low, y⟩ : PropType) rfl
                exact ret _ _ _ (by simp) (two b1 ⟨b2.1, by simp only [List.length_set]; exact b2.2.1, hs2⟩) (q8.less (by omega))
              · refine Ok.app (by simp) ?_
                refine ret _ _ _ (by simp) (fun m hm => ?_) (q5.less (by omega))
                rcases List.mem_append.1 hm with e | e
                · exact two b1 b2 m e
                · rw [List.mem_singleton] at e; subst e; unfold MB; simp
      · omega
  · exact ret _ _ _ (by simp) (two b1 b2) (q3.less (by omega))
end Go.Beacon

/- The law PropsChecked. No program in sight. -/
set_option linter.unusedVariables false
set_option linter.unusedSimpArgs false
namespace Go.Beacon
open Go Go.Eng

theorem findI_findP {α : Type} (p : α → Bool) (xs : List α) : (findI p xs 0 < 0 ∧ xs.find? p = none) ∨ ∃ y, 0 ≤ findI p xs 0 ∧ idx xs (findI p xs 0) = some y ∧ xs.find? p = some y := by
  rcases findI_first p xs 0 (by omega) with ⟨e1, e2⟩ | ⟨e1, e2, e3, y, e4, e5⟩
  · exact .inl ⟨by omega, List.find?_eq_none.2 fun x hx => by rw [e2 x hx]; simp⟩
  · right
    refine ⟨y, e1, ?_, ?_⟩
    · unfold idx
      rw [if_pos e1]
      simpa using e4
    · generalize findI p xs 0 = k at e1 e2 e3 e4
      rw [show (k - 0).toNat = k.toNat by simp] at e3 e4
      obtain ⟨h, e4'⟩ := List.getElem?_eq_some_iff.1 e4
      conv => lhs; rw [← List.take_append_drop k.toNat xs]
      rw [List.find?_append, List.find?_eq_none.2 (fun x hx => by rw [e3 x hx]; simp), List.drop_eq_getElem_cons h, e4']
      simp [e5]
/-! properties -/
def PB (x : PropS) : Prop := x.Name.length ≤ 100 ∧ x.Value.Words.length ≤ 1000
def pvRest (m : Model) (i : Int) (x : PropS) : Option (Int × Int) :=
  match m.Props.find? (fun t => decide (t.Name = x.Name)) with
  | none => some (i, 8)
  | some t => if x.Value.Kind ≠ t.Kind then some (i, 10) else if t.Kind = 2 ∧ (x.Value.Number < t.Low ∨ t.High < x.Value.Number) then some (i, 1) else if rightB x.Value = false then some (i, 3) else none
def pvV (m : Model) (l : List PropS) (i : Int) (x : PropS) : Option (Int × Int) :=
  if propB x.Name = false then some (i, 5) else match prevOf l i with
  | some q => if Lib.compareBytes x.Name q.Name ≤ 0 then some (i, 7) else pvRest m i x
  | none => pvRest m i x
theorem IndexPt (L : List PropType) (fn : PropType → Option Bool) (p : PropType → Bool) (hf : ∀ x, fn x = some (p x)) (hl : (L.length : Int) ≤ 100000) : slices_IndexFunc_PropType_PropType L fn = some (findI p L 0) :=
  gIndexFunc_eq L fn p (fun x _ => hf x) (by omega)
theorem CheckProps_l {m : Model} (hm : MB m) {l : List PropS} (hl : l.length ≤ 100) (h : ∀ x ∈ l, PB x) : device_CheckProps_l1 m l 0 = some (scanO (pvV m l) (0, 0) l 0) := by
  obtain ⟨_, m2, _⟩ := hm
  unfold device_CheckProps_l1
  refine iter_scanO (pvV m l) (0, 0) l _ (fun i s i0 i1 hs => ?_) (by show device_CheckProps_b1 m l _ = _; rw [device_CheckProps_b1, if_neg (by omega)]; rfl)
  obtain ⟨b1, b2⟩ := h s (idx_mem hs)
  show device_CheckProps_b1 m l i = _
  rw [device_CheckProps_b1, if_pos i1, hs]
  simp only [Option.bind_some]
  rw [Property_eq (by omega)]
  simp only [Option.bind_some]
  unfold pvV
  cases hp : propB s.Name
  · simp [stp]
  simp only [Bool.not_true, Bool.false_eq_true, if_false, Bool.true_eq_false]
  have j1 : ∀ c : Bool, device_CheckProps_j1 m i s c = some (stp (if c = true then some (i, 7) else pvRest m i s) i) := by
    intro c
    unfold device_CheckProps_j1 device_CheckProps_j2 pvRest
    cases c with
    | true => rfl
    | false =>
      simp only [Bool.false_eq_true, if_false]
      rw [IndexPt _ (fun y0 => some (device_CheckProps_1x y0 s)) (fun t => decide (t.Name = s.Name)) (fun _ => rfl) (by omega)]
      simp only [Option.bind_some]
      rcases findI_findP (fun t : PropType => decide (t.Name = s.Name)) m.Props with ⟨e1, e2⟩ | ⟨y, e1, e2, e3⟩
      · rw [e2, if_pos e1]; rfl
      · rw [e3, if_neg (by omega), e2]
        simp only [Option.bind_some]
        rw [Out_eq, Right_eq _ (by omega), w64_in (by omega) (by omega)]
        by_cases h1 : s.Value.Kind ≠ y.Kind
        · rw [if_pos h1, if_pos h1]; rfl
        rw [if_neg h1, if_neg h1]
        by_cases h2 : y.Kind = 2 ∧ (s.Value.Number < y.Low ∨ y.High < s.Value.Number)
        · rw [if_pos (by simp only [Bool.and_eq_true, Bool.or_eq_true, decide_eq_true_eq]; exact h2), if_pos h2]; rfl
        rw [if_neg (by simp only [Bool.and_eq_true, Bool.or_eq_true, decide_eq_true_eq]; exact h2), if_neg h2]
        simp only [Option.bind_some]
        cases rightB s.Value <;> rfl
  by_cases hi : 0 < i
  · obtain ⟨p, hp, _, _⟩ := idx_lt l (i := i - 1) (by omega) (by omega)
    have hpa : prevOf l i = some p := by unfold prevOf; rw [if_neg (by omega), hp]
    rw [hpa, if_pos hi, w64_in (by omega) (by omega), hp]
    simp only [Option.bind_some]
    rw [j1, leS_ops]
    simp only [decide_eq_true_eq]
  · have hpa : prevOf l i = none := by unfold prevOf; rw [if_pos (by omega)]
    rw [hpa, if_neg hi, j1, if_neg (by simp)]
theorem PropsFault_l {m : Model} (hm : MB m) {l : List PropS} (hl : l.length ≤ 100) (h : ∀ x ∈ l, PB x) : Q_PropsFault_l1 m l 0 = some (scanO (pvV m l) (0, 0) l 0) := by
  obtain ⟨_, m2, _⟩ := hm
  unfold Q_PropsFault_l1
  refine iter_scanO (pvV m l) (0, 0) l _ (fun i s i0 i1 hs => ?_) (by show Q_PropsFault_b1 m l _ = _; rw [Q_PropsFault_b1, if_neg (by omega)]; rfl)
  obtain ⟨b1, b2⟩ := h s (idx_mem hs)
  show Q_PropsFault_b1 m l i = _
  rw [Q_PropsFault_b1, if_pos i1, hs]
  simp only [Option.bind_some]
  rw [PropName_eq (by omega)]
  simp only [Option.bind_some]
  unfold pvV
  cases hp : propB s.Name
  · simp [stp]
  simp only [Bool.not_true, Bool.false_eq_true, if_false, Bool.true_eq_false]
  have j1 : ∀ c : Bool, Q_PropsFault_j1 m i s c = some (stp (if c = true then some (i, 7) else pvRest m i s) i) := by
    intro c
    unfold Q_PropsFault_j1 pvRest
    cases c with
    | true => rfl
    | false =>
      simp only [Bool.false_eq_true, if_false]
      rw [IndexPt _ (fun y0 => some (Q_PropsFault_1x y0 s)) (fun t => decide (t.Name = s.Name)) (fun _ => rfl) (by omega)]
      simp only [Option.bind_some]
      rcases findI_findP (fun t : PropType => decide (t.Name = s.Name)) m.Props with ⟨e1, e2⟩ | ⟨y, e1, e2, e3⟩
      · rw [e2, if_pos e1]; rfl
      · rw [e3, if_neg (by omega), e2]
        simp only [Option.bind_some]
        have j2 : ∀ c : Bool, Q_PropsFault_j2 i s c = some (stp (if c = true then some (i, 1) else if rightB s.Value = false then some (i, 3) else none) i) := by
          intro c
          unfold Q_PropsFault_j2
          rw [RightValue_eq _ (by omega), w64_in (by omega) (by omega)]
          simp only [Option.bind_some]
          cases c <;> cases rightB s.Value <;> rfl
        rw [j2, j2, Qin_eq]
        by_cases h1 : s.Value.Kind ≠ y.Kind
        · rw [if_pos (fun z => h1 z.symm), if_pos h1]; rfl
        have h1' : s.Value.Kind = y.Kind := by simpa using h1
        rw [if_neg (fun z => z h1'.symm), if_neg h1]
        by_cases h2 : y.Kind = 2
        · rw [if_pos (by rw [h1']; exact h2)]
          by_cases h3 : s.Value.Number < y.Low ∨ y.High < s.Value.Number
          · rw [if_pos (by simp only [Bool.not_eq_true', Bool.and_eq_false_iff, decide_eq_false_iff_not]; omega), if_pos ⟨h2, h3⟩]
          · rw [if_neg (by simp only [Bool.not_eq_true', Bool.and_eq_false_iff, decide_eq_false_iff_not]; omega), if_neg (c := y.Kind = 2 ∧ (s.Value.Number < y.Low ∨ y.High < s.Value.Number)) (fun z => h3 z.2)]
        · rw [if_neg (by rw [h1']; exact h2), if_neg (c := false = true) (by simp), if_neg (c := y.Kind = 2 ∧ (s.Value.Number < y.Low ∨ y.High < s.Value.Number)) (fun z => h2 z.1)]
  by_cases hi : 0 < i
  · obtain ⟨p, hp, _, _⟩ := idx_lt l (i := i - 1) (by omega) (by omega)
    have hpa : prevOf l i = some p := by unfold prevOf; rw [if_neg (by omega), hp]
    rw [hpa, if_pos hi, w64_in (by omega) (by omega), hp]
    simp only [Option.bind_some]
    rw [j1, leS_ops]
    simp only [decide_eq_true_eq]
  · have hpa : prevOf l i = none := by unfold prevOf; rw [if_pos (by omega)]
    rw [hpa, if_neg hi, j1, if_neg (by simp)]
theorem Props_both {m : Model} (hm : MB m) {l : List PropS} (hl : l.length ≤ 100) (h : ∀ x ∈ l, PB x) : ∃ r, device_CheckProps m l = some r ∧ Q_PropsFault m l = some r := by
  have h1 : ∀ x ∈ [m], MB x := fun x hx => by rw [List.mem_singleton] at hx; subst hx; exact hm
  unfold device_CheckProps Q_PropsFault
  rw [CheckModels_eq h1, ModelsFault_eq h1, CheckProps_l hm hl h, PropsFault_l hm hl h]
  simp only [Option.bind_some]
  by_cases hz : mdF [m] ≠ 0
  · rw [if_pos hz]; exact ⟨_, rfl, rfl⟩
  · rw [if_neg hz]
    by_cases h5 : (50 : Int) < l.length
    · rw [if_pos h5]; exact ⟨_, rfl, rfl⟩
    · rw [if_neg h5]; exact ⟨_, rfl, rfl⟩
/-! the properties that are drawn -/
theorem ModelProps_k {s : Stm} {K : Int} (hs : SOk s K) (hK : 40 ≤ K) : Gen (Stream_ModelProps s) (K - 40) (fun l => l.length ≤ 3 ∧ ∀ x ∈ l, PB x) := by
  refine Gen.of ?_
  unfold Stream_ModelProps
  refine Ok.gen (Pick_k hs (by omega) (by simp) (by simp)) (fun a s1 _ q1 => ?_)
  refine Ok.gen (Some_k q1 (by omega) (by simp) (by simp)) (fun b s2 hb q2 => ?_)
  have hbl := len_of hb (by decide)
  refine Ok.gen (Flip_k q2 (by omega) (by omega) (by omega)) (fun c s3 _ q3 => ?_)
  have hall : ∀ x ∈ [(⟨([97] : Str), (⟨(2 : Int), false, a, []⟩ : ValueS)⟩ : PropS), (⟨([98] : Str), (⟨(3 : Int), false, (0 : Int), b⟩ : ValueS)⟩ : PropS), (⟨([102, 97, 110, 46, 111, 110] : Str), (⟨(1 : Int), c, (0 : Int), []⟩ : ValueS)⟩ : PropS)], PB x := by
    intro x hx
    simp only [List.mem_cons, List.not_mem_nil, or_false] at hx
    rcases hx with rfl | rfl | rfl <;> unfold PB <;> simp <;> omega
  unfold Stream_ModelProps_l1
  refine Ok.iter (fun x : List Int × Int × List PropS × Int => (3 - x.2.2.2).toNat) (fun x : List Int × Int × List PropS × Int => 0 ≤ x.2.2.2 ∧ x.2.2.2 ≤ 3 ∧ SOk ⟨x.1, x.2.1⟩ (K - 20 + (3 - x.2.2.2)) ∧ (x.2.2.1.length : Int) ≤ x.2.2.2 ∧ ∀ y ∈ x.2.2.1, PB y) ?_ _ ⟨by simp, by simp, q3.less (by simp only; omega), by simp, by simp⟩
  rintro ⟨L, t, l, n⟩ ⟨g0, g1, g2, g3, g4⟩
  simp only at g0 g1 g2 g3 g4 ⊢
  unfold Stream_ModelProps_b1
  by_cases hn : n < 3
  · rw [if_pos (by simpa using hn)]
    refine Ok.idx g0 (by simpa using hn) (fun d hd hdm => ?_)
    refine Ok.gen (Flip_k g2 (by omega) (by omega) (by omega)) (fun f s4 _ q4 => ?_)
    dsimp only
    unfold Stream_ModelProps_j1
    rw [w64_in (x := n + 1) (by omega) (by omega)]
    split
    · refine Ok.app (by simp; omega) ?_
      refine Ok.ret ⟨⟨by simp only; omega, by simp only; omega, q4.less (by simp only; omega), by simp; omega, fun y hy => ?_⟩, by simp only; omega⟩
      rcases List.mem_append.1 hy with e | e
      · exact g4 y e
      · rw [List.mem_singleton] at e; subst e; exact hall _ hdm
    · exact Ok.ret ⟨⟨by simp only; omega, by simp only; omega, q4.less (by simp only; omega), by simp only; omega, g4⟩, by simp only; omega⟩
  · rw [if_neg (by simpa using hn)]
    refine Ok.inr ?_
    unfold Stream_ModelProps_k4
    have j2 : ∀ (L' : List Int) (n' : Int) (c : Bool), (c = true → 0 < (l.length : Int)) → SOk ⟨L', n'⟩ (K - 25) → Ok (Stream_ModelProps_j2 l L' n' c) (fun r => (r.1.length ≤ 3 ∧ ∀ x ∈ r.1, PB x) ∧ SOk r.2 (K - 40)) := by
      intro L' n' c hc hs'
      unfold Stream_ModelProps_j2 Stream_ModelProps_j3
      split
      · rename_i hcc
        have hpos := hc hcc
        refine Ok.gen (Next_k hs' (by omega) (by omega) (by omega)) (fun u s6 hu q6 => ?_)
        dsimp only
        refine Ok.idx hu.1 hu.2 (fun p hp hpm => ?_)
        have hpb := g4 p hpm
        unfold PB at hpb
        refine Ok.gen (Some_k q6 (by omega) (by simp) (by simp)) (fun w s7 hw q7 => ?_)
        have hwl : w.length ≤ 100 := by
          simp only [List.mem_cons, List.not_mem_nil, or_false] at hw
          rcases hw with rfl | rfl | rfl | rfl
          · exact hpb.1
          · simp
          · simp
          · simp
        have hrep : repeatO ([119] : Str) (101 : Int) = some (Lib.repeatL [119] 101) := by unfold repeatO; rw [if_pos (by simp)]; rfl
        rw [hrep]
        simp only [Option.bind_some]
        have hrl : (Lib.repeatL [119] 101).length ≤ 1000 := by decide
        refine Ok.gen (Next_k q7 (by omega) (by omega) (by omega)) (fun z s8 hz q8 => ?_)
        dsimp only
        refine Ok.idx hz.1 (by simpa using hz.2) (fun v hv hvm => ?_)
        have hvl : v.Words.length ≤ 1000 := by
          simp only [List.mem_cons, List.not_mem_nil, or_false] at hvm
          rcases hvm with rfl | rfl | rfl | rfl | rfl
          · exact hpb.2
          · simp
          · simp
          · exact hrl
          · simp
        refine Ok.ret ⟨⟨by simp only [List.length_set]; omega, fun x hx => ?_⟩, q8.less (by omega)⟩
        rcases List.mem_or_eq_of_mem_set hx with h1 | h1
        · rcases List.mem_or_eq_of_mem_set h1 with h2 | h2
          · exact g4 x h2
          · rw [h2]; exact ⟨hwl, hpb.2⟩
        · rw [h1]; exact ⟨hwl, hvl⟩
      · exact Ok.ret ⟨⟨by simp only; omega, g4⟩, hs'.less (by omega)⟩
    split
    · rename_i h
      refine Ok.gen (Flip_k g2 (by omega) (by omega) (by omega)) (fun x s5 _ q5 => ?_)
      exact j2 _ _ _ (fun _ => h) (q5.less (by omega))
    · exact j2 _ _ _ (fun h => by cases h) (g2.less (by omega))
/-! the package is there -/
theorem checkOf_7 : device_checkOf ([65, 66, 48, 48, 48, 48, 48, 48, 48, 55] : Str) = some 77 := by
  unfold device_checkOf device_checkOf_l1
  have st : ∀ (a b c e : Int), device_checkOf_b1 ([65, 66, 48, 48, 48, 48, 48, 48, 48, 55] : Str) a b = some (.inl (c, e)) → iter (fun x : Int × Int => device_checkOf_b1 ([65, 66, 48, 48, 48, 48, 48, 48, 48, 55] : Str) x.1 x.2) (a, b) = iter (fun x : Int × Int => device_checkOf_b1 ([65, 66, 48, 48, 48, 48, 48, 48, 48, 55] : Str) x.1 x.2) (c, e) := by
    intro a b c e h
    rw [iter_eq]
    show (device_checkOf_b1 _ a b).bind _ = _
    rw [h]; rfl
  rw [st 0 0 20 1 (by decide), st 20 1 53 2 (by decide), st 53 2 53 3 (by decide), st 53 3 53 4 (by decide), st 53 4 53 5 (by decide), st 53 5 53 6 (by decide), st 53 6 53 7 (by decide), st 53 7 53 8 (by decide), st 53 8 53 9 (by decide), st 53 9 130 10 (by decide)]
  rw [iter_eq]
  show (device_checkOf_b1 ([65, 66, 48, 48, 48, 48, 48, 48, 48, 55] : Str) 130 10).bind _ = _
  rw [show device_checkOf_b1 ([65, 66, 48, 48, 48, 48, 48, 48, 48, 55] : Str) 130 10 = some (.inr 77) by decide]; rfl
theorem deviced_eq : L_deviced = some true := by
  unfold L_deviced L_deviced_j1 device_Serial device_model
  have hm : ∀ x ∈ [(⟨([109] : Str), ([65, 66] : Str), []⟩ : Model)], MB x := fun x hx => by rw [List.mem_singleton] at hx; subst hx; unfold MB; simp
  rw [CheckModels_eq hm, show mdF [(⟨([109] : Str), ([65, 66] : Str), []⟩ : Model)] = 0 by decide]
  simp only [Option.bind_some]
  rw [if_neg (by simp), show slices_IndexFunc_Model_Model [(⟨([109] : Str), ([65, 66] : Str), []⟩ : Model)] (fun y0 => some (device_model_1x y0 ([109] : Str))) = some (findI (fun y0 => device_model_1x y0 ([109] : Str)) [(⟨([109] : Str), ([65, 66] : Str), []⟩ : Model)] 0) from gIndexFunc_eq _ _ _ (fun _ _ => rfl) (by simp)]
  simp only [Option.bind_some]
  rw [show findI (fun y0 => device_model_1x y0 ([109] : Str)) [(⟨([109] : Str), ([65, 66] : Str), []⟩ : Model)] 0 = 0 by decide, if_neg (by decide), if_neg (by decide), show itoaO 7 = some [55] by unfold itoaO Lib.itoa; rw [if_pos (by omega), if_neg (by omega), Lib.decDigits, dif_pos (by decide)]; rfl]
  simp only [Option.bind_some]
  rw [show repeatO ([48] : Str) (w64 ((8 : Int) - ((([55] : Str).length : Nat) : Int))) = some [48, 48, 48, 48, 48, 48, 48] by decide]
  simp only [Option.bind_some]
  rw [show catO ([48, 48, 48, 48, 48, 48, 48] : Str) [55] = some [48, 48, 48, 48, 48, 48, 48, 55] by decide, show idx [(⟨([109] : Str), ([65, 66] : Str), []⟩ : Model)] 0 = some ⟨([109] : Str), ([65, 66] : Str), []⟩ by rfl]
  simp only [Option.bind_some]
  rw [show catO ([65, 66] : Str) [45] = some [65, 66, 45] by decide]
  simp only [Option.bind_some]
  rw [show catO ([65, 66, 45] : Str) [48, 48, 48, 48, 48, 48, 48, 55] = some [65, 66, 45, 48, 48, 48, 48, 48, 48, 48, 55] by decide]
  simp only [Option.bind_some]
  rw [show catO ([65, 66, 45, 48, 48, 48, 48, 48, 48, 48, 55] : Str) [45] = some [65, 66, 45, 48, 48, 48, 48, 48, 48, 48, 55, 45] by decide, show catO ([65, 66] : Str) [48, 48, 48, 48, 48, 48, 48, 55] = some [65, 66, 48, 48, 48, 48, 48, 48, 48, 55] by decide]
  simp only [Option.bind_some]
  rw [checkOf_7]
  simp only [Option.bind_some]
  rw [show strR 77 = [77] by decide, show catO ([65, 66, 45, 48, 48, 48, 48, 48, 48, 48, 55, 45] : Str) [77] = some [65, 66, 45, 48, 48, 48, 48, 48, 48, 48, 55, 45, 77] by decide]
  simp
theorem PropsChecked_plain (L : List Int) : L_PropsChecked L = some true := by
  have key : Ok (L_PropsChecked L) (fun r => r = true) := by
    unfold L_PropsChecked
    refine Ok.gen (Kinds_k (s := ⟨L, 0⟩) (K := 10000) ⟨by simp, by simp⟩ (by omega)) (fun l s0 hl q0 => ?_)
    dsimp only
    refine Ok.idx (by omega) (by omega) (fun m hm hmm => ?_)
    refine Ok.gen (ModelProps_k q0 (by omega)) (fun p s1 hp q1 => ?_)
    dsimp only
    obtain ⟨r, r1, r2⟩ := Props_both (hl.2 m hmm) (by omega) hp.2
    rw [r1, r2]
    simp only [Option.bind_some, if_true]
    rw [deviced_eq]
    exact ⟨true, rfl, rfl⟩
  obtain ⟨r, h1, rfl⟩ := key
  exact h1
end Go.Beacon

