/- Plain facts on what the functions compute. No program in sight. -/
import Derived.Test.YtnopmjdjgangdaaGreatDoorEvtP
import Derived.Test.YtnopmjdjgangdaaGreatDoorPlBA
import Derived.Lib.MapLaws
import Derived.Lib.ValidLaws
import Derived.Lib.TrimUEq
/- Plain facts of the streams that make inputs: each ends, and what it hands out is within bounds. No program in sight. -/
set_option linter.unusedVariables false
set_option linter.unusedSimpArgs false
namespace Go.Beacon
open Go Go.Eng

abbrev Stm := Fleetmake_Stream
/-- At least k more numbers can be drawn. -/
def SOk (s : Stm) (k : Int) : Prop := 0 ≤ s.at_ ∧ s.at_ + k ≤ 4611686018427387904
theorem SOk.less {s : Stm} {k k' : Int} (h : SOk s k) (hk : k' ≤ k) : SOk s k' := ⟨h.1, by have := h.2; omega⟩
def Gen {α : Type} (m : Option (α × Stm)) (k : Int) (P : α → Prop) : Prop := ∃ v s', m = some (v, s') ∧ P v ∧ SOk s' k
theorem Gen.bind {α β : Type} {m : Option (α × Stm)} {k k' : Int} {P : α → Prop} {Q : β → Prop} {f : α × Stm → Option (β × Stm)} (h : Gen m k P) (hf : ∀ v s', P v → SOk s' k → Gen (f (v, s')) k' Q) : Gen (m.bind f) k' Q := by
  obtain ⟨v, s', rfl, h1, h2⟩ := h
  exact hf v s' h1 h2
theorem Gen.ret {α : Type} {v : α} {s : Stm} {k : Int} {P : α → Prop} (h1 : P v) (h2 : SOk s k) : Gen (some (v, s)) k P := ⟨v, s, rfl, h1, h2⟩
theorem Gen.mono {α : Type} {m : Option (α × Stm)} {k k' : Int} {P Q : α → Prop} (h : Gen m k P) (hk : k' ≤ k) (hp : ∀ v, P v → Q v) : Gen m k' Q := by
  obtain ⟨v, s', e, h1, h2⟩ := h
  exact ⟨v, s', e, hp v h1, h2.less hk⟩

theorem Below_ok (x : Int) {n : Int} (h1 : 1 ≤ n) (h2 : n ≤ 4611686018427387904) : ∃ v, Below x n = some v ∧ 0 ≤ v ∧ v < n := by
  unfold Below Below_j1
  rw [if_neg (by omega), rem_ne (by omega)]
  have a1 := Int.lt_tmod_of_pos x (show 0 < n by omega)
  have a2 := Int.tmod_lt_of_pos x (show 0 < n by omega)
  simp only [Option.bind_some]
  split
  · exact ⟨_, rfl, by rw [w64_in] <;> omega, by rw [w64_in] <;> omega⟩
  · exact ⟨_, rfl, by omega, by omega⟩

theorem Next_ok {s : Stm} {n k : Int} (hs : SOk s (k + 1)) (h1 : 1 ≤ n) (h2 : n ≤ 4611686018427387904) (hk : 0 ≤ k) : Gen (Stream_Next s n) k (fun v => 0 ≤ v ∧ v < n) := by
  obtain ⟨a1, a2⟩ := hs
  have e1 : w64 (s.at_ + 1) = s.at_ + 1 := by rw [w64_in] <;> omega
  have e2 : w64 (s.at_ + 1 - 1) = s.at_ := by rw [w64_in] <;> omega
  unfold Stream_Next
  split
  · obtain ⟨v, hv, h3, h4⟩ := Below_ok (w64 (w64 (s.at_ + 1) * 7919)) h1 h2
    rw [hv]
    exact Gen.ret ⟨h3, h4⟩ ⟨by show 0 ≤ w64 (s.at_ + 1); omega, by show w64 (s.at_ + 1) + k ≤ _; omega⟩
  · rename_i hl
    have hl' : (0 : Int) < s.L.length := by omega
    rw [e1, e2, rem_pos hl' a1, quo_ne (by omega)]
    simp only [Option.bind_some]
    obtain ⟨x, hx, _, _⟩ := idx_lt s.L (i := s.at_ % s.L.length) (Int.emod_nonneg _ (by omega)) (Int.emod_lt_of_pos _ hl')
    rw [hx]
    simp only [Option.bind_some]
    obtain ⟨u, hu, _, _⟩ := Below_ok x (n := 1073741824) (by omega) (by omega)
    rw [hu]
    simp only [Option.bind_some]
    obtain ⟨v, hv, h3, h4⟩ := Below_ok (w64 (u + w64 (w64 (s.at_.tdiv s.L.length) * w64 (7919 + s.at_ % s.L.length)))) h1 h2
    rw [hv]
    exact Gen.ret ⟨h3, h4⟩ ⟨by simp only; omega, by simp only; omega⟩

theorem Pick_ok {s : Stm} {l : List Int} {k : Int} (hs : SOk s (k + 1)) (h1 : l ≠ []) (h2 : l.length ≤ 1000) (hk : 0 ≤ k) : Gen (Stream_Pick s l) k (fun v => v ∈ l) := by
  unfold Stream_Pick
  have hl : 0 < l.length := List.length_pos_iff.2 h1
  refine Gen.bind (Next_ok hs (by omega) (by omega) hk) (fun v s' hv hs' => ?_)
  obtain ⟨x, hx, hm, _⟩ := idx_lt l hv.1 hv.2
  simp only [hx, Option.bind_some]
  exact Gen.ret hm hs'
theorem Range_ok {s : Stm} {a b k : Int} (hs : SOk s (k + 1)) (hab : a ≤ b) (ha : -1152921504606846976 ≤ a) (hb : b ≤ 1152921504606846976) (hk : 0 ≤ k) : Gen (Stream_Range s a b) k (fun v => a ≤ v ∧ v ≤ b) := by
  unfold Stream_Range
  have e1 : w64 (b - a) = b - a := by rw [w64_in] <;> omega
  have e2 : w64 (b - a + 1) = b - a + 1 := by rw [w64_in] <;> omega
  rw [if_neg (by omega), e1, e2]
  refine Gen.bind (Next_ok hs (by omega) (by omega) hk) (fun v s' hv hs' => ?_)
  refine Gen.ret ?_ hs'
  simp only
  rw [w64_in] <;> omega
theorem Flip_ok {s : Stm} {n k : Int} (hs : SOk s (k + 1)) (h1 : 1 ≤ n) (h2 : n ≤ 4611686018427387904) (hk : 0 ≤ k) : Gen (Stream_Flip s n) k (fun _ => True) := by
  unfold Stream_Flip
  exact Gen.bind (Next_ok hs h1 h2 hk) (fun v s' hv hs' => Gen.ret trivial hs')
theorem Some_ok {s : Stm} {l : List Str} {k : Int} (hs : SOk s (k + 1)) (h1 : l ≠ []) (h2 : l.length ≤ 1000) (hk : 0 ≤ k) : Gen (Stream_Some s l) k (fun v => v ∈ l) := by
  unfold Stream_Some
  have hl : 0 < l.length := List.length_pos_iff.2 h1
  refine Gen.bind (Next_ok hs (by omega) (by omega) hk) (fun v s' hv hs' => ?_)
  obtain ⟨x, hx, hm, _⟩ := idx_lt l hv.1 hv.2
  simp only [hx, Option.bind_some]
  exact Gen.ret hm hs'
theorem Odd_ok {s : Stm} {a b k : Int} (hs : SOk s (k + 2)) (hab : a ≤ b) (ha : -1099511627776 ≤ a) (hb : b ≤ 1099511627776) (hk : 0 ≤ k) : Gen (Stream_Odd s a b) k (fun v => -1099511627777 ≤ v ∧ v ≤ 1099511627777) := by
  unfold Stream_Odd
  refine Gen.bind (Flip_ok (k := k + 1) (hs.less (by omega)) (by omega) (by omega) (by omega)) (fun v s' hv hs' => ?_)
  simp only
  split
  · refine Gen.bind (Pick_ok hs' (by simp) (by simp) hk) (fun v s' hv hs' => Gen.ret ?_ hs')
    have e1 : w64 (a - 1) = a - 1 := by rw [w64_in] <;> omega
    have e2 : w64 (b + 1) = b + 1 := by rw [w64_in] <;> omega
    rw [e1, e2] at hv
    simp only [List.mem_cons, List.not_mem_nil, or_false] at hv
    simp only; omega
  · refine Gen.bind (Range_ok hs' hab (by omega) (by omega) hk) (fun v s' hv hs' => Gen.ret ?_ hs')
    simp only; omega
end Go.Beacon

/- Plain facts of keys: the program's check and the reference's. No program in sight. -/
set_option linter.unusedVariables false
set_option linter.unusedSimpArgs false
namespace Go.Beacon
open Go Go.Eng

theorem Out_eq (n lo hi : Int) : base_Out n lo hi = (decide (n < lo) || decide (hi < n)) := rfl
theorem Qin_eq (n lo hi : Int) : Q_in n lo hi = (decide (lo ≤ n) && decide (n ≤ hi)) := rfl
/-! keys -/
def okN (n : Nat) : Bool := (decide (97 ≤ n) && decide (n ≤ 122)) || (decide (48 ≤ n) && decide (n ≤ 57)) || decide (n = 45) || decide (n = 95)
def keyB : Str → Bool
  | [] => false
  | c :: r => decide ((c :: r).length ≤ 40) && (decide (97 ≤ c.toNat) && decide (c.toNat ≤ 122)) && (c :: r).all (fun c => okN c.toNat)
theorem keyB_cons (c : UInt8) (r : Str) : keyB (c :: r) = (decide ((c :: r).length ≤ 40) && (decide (97 ≤ c.toNat) && decide (c.toNat ≤ 122)) && (c :: r).all (fun c => okN c.toNat)) := rfl
theorem Key_loop (s : Str) (hl : s.length ≤ 40) : base_Key_l1 s 0 = some (s.all (fun c => okN c.toNat)) := by
  unfold base_Key_l1
  rw [iter_find s (fun x : Int => base_Key_b1 s x) (fun c => if okN c.toNat = true then none else some false) true (by omega), findE_bool]
  · intro i c h0 h1 hc
    have hB : (if (97 : Int) ≤ (c.toNat : Int) then if (c.toNat : Int) ≤ (122 : Int) then !true else if (48 : Int) ≤ (c.toNat : Int) then if (c.toNat : Int) ≤ (57 : Int) then !true else if (c.toNat : Int) = (45 : Int) then !true else decide (¬ ((c.toNat : Int) = (95 : Int))) else if (c.toNat : Int) = (45 : Int) then !true else decide (¬ ((c.toNat : Int) = (95 : Int))) else if (48 : Int) ≤ (c.toNat : Int) then if (c.toNat : Int) ≤ (57 : Int) then !true else if (c.toNat : Int) = (45 : Int) then !true else decide (¬ ((c.toNat : Int) = (95 : Int))) else if (c.toNat : Int) = (45 : Int) then !true else decide (¬ ((c.toNat : Int) = (95 : Int)))) = !okN c.toNat := by
      unfold okN
      rw [Bool.eq_iff_iff]
      repeat' split
      all_goals simp
      all_goals omega
    rw [base_Key_b1, if_pos h1, hc]
    simp only [Option.bind_some]
    rw [hB]
    unfold base_Key_j2
    rw [w64_in (by omega) (by omega)]
    cases okN c.toNat <;> rfl
  · rw [base_Key_b1, if_neg (by omega)]; rfl
theorem Key_eq (s : Str) : base_Key s = some (keyB s) := by
  unfold base_Key base_Key_j1
  cases s with
  | nil => simp [keyB]
  | cons c r =>
    rw [if_neg (by simp)]
    have hc : idx (c :: r) 0 = some c := rfl
    rw [hc]
    simp only [Option.bind_some]
    by_cases hl : (c :: r).length ≤ 40
    · rw [if_neg (by omega), Key_loop _ hl, keyB_cons]
      by_cases h1 : (c.toNat : Int) < 97
      · rw [if_pos h1]
        have : decide (97 ≤ c.toNat) = false := by simp; omega
        rw [this]; simp
      · rw [if_neg h1]
        have e1 : decide (97 ≤ c.toNat) = true := by simp; omega
        by_cases h2 : (122 : Int) < c.toNat
        · rw [if_pos (by simpa using h2)]
          have : decide (c.toNat ≤ 122) = false := by simp; omega
          rw [this]; simp
        · rw [if_neg (by simpa using h2)]
          have : decide (c.toNat ≤ 122) = true := by simp; omega
          rw [e1, this, decide_eq_true hl]; simp
    · rw [if_pos (by omega), keyB_cons, decide_eq_false hl]; simp
theorem chars_fin : ∀ n : Fin 256, decide (UInt8.ofNat n.val ∈ ([97, 98, 99, 100, 101, 102, 103, 104, 105, 106, 107, 108, 109, 110, 111, 112, 113, 114, 115, 116, 117, 118, 119, 120, 121, 122, 48, 49, 50, 51, 52, 53, 54, 55, 56, 57, 45, 95] : List UInt8)) = okN n.val := by decide +kernel
theorem low_fin : ∀ n : Fin 256, decide (UInt8.ofNat n.val ∈ ([97, 98, 99, 100, 101, 102, 103, 104, 105, 106, 107, 108, 109, 110, 111, 112, 113, 114, 115, 116, 117, 118, 119, 120, 121, 122] : List UInt8)) = (decide (97 ≤ n.val) && decide (n.val ≤ 122)) := by decide +kernel
theorem u8_fin {p : UInt8 → Bool} {q : Nat → Bool} (h : ∀ n : Fin 256, p (UInt8.ofNat n.val) = q n.val) (c : UInt8) : p c = q c.toNat := by
  have := h ⟨c.toNat, c.toNat_lt⟩
  simpa using this
theorem CompareI_eq (a b : Int) : cmp_Compare_int a b = cmpI a b := by
  unfold cmp_Compare_int cmp_isNaN_int cmpI; simp
theorem Moment_eq (n : Int) : base_Moment n = (decide (0 ≤ n) && decide (n ≤ 345686399999)) := by
  unfold base_Moment
  rw [Out_eq, Bool.eq_iff_iff]
  simp
end Go.Beacon

/- Plain facts: loops by a measure, products within bounds, quotients rounded down. No program in sight. -/
set_option linter.unusedVariables false
set_option linter.unusedSimpArgs false
namespace Go.Beacon
open Go Go.Eng

/-- A loop whose rounds keep something and make a number smaller ends; what its last round tells holds. -/
theorem iter_inv {S A : Type} (f : S → Option (S ⊕ A)) (m : S → Nat) (Inv : S → Prop) (R : A → Prop)
    (h : ∀ s, Inv s → (∃ s', f s = some (.inl s') ∧ Inv s' ∧ m s' < m s) ∨ (∃ a, f s = some (.inr a) ∧ R a)) : ∀ s, Inv s → ∃ a, iter f s = some a ∧ R a := by
  have key : ∀ (n : Nat) s, m s ≤ n → Inv s → ∃ a, iter f s = some a ∧ R a := by
    intro n
    induction n with
    | zero =>
      intro s hm hi
      rcases h s hi with ⟨s', _, _, h3⟩ | ⟨a, h1, h2⟩
      · omega
      · exact ⟨a, by rw [iter_eq, h1]; rfl, h2⟩
    | succ n ih =>
      intro s hm hi
      rcases h s hi with ⟨s', h1, h2, h3⟩ | ⟨a, h1, h2⟩
      · obtain ⟨a, h4, h5⟩ := ih s' (by omega) h2
        exact ⟨a, by rw [iter_eq, h1]; simpa using h4, h5⟩
      · exact ⟨a, by rw [iter_eq, h1]; rfl, h2⟩
  exact fun s hi => key (m s) s (Nat.le_refl _) hi
theorem First_eq (xs : List Int) (h : (xs.length : Int) ≤ 4611686018427387904) : base_First xs = some (orL xs) := gOr_eq xs h
theorem orL2 (x y : Int) : orL [x, y] = if x ≠ 0 then x else y := by
  by_cases h1 : x = 0 <;> by_cases h2 : y = 0 <;> simp [orL, h1, h2]
theorem orL2_zero {x y : Int} (h : orL [x, y] = 0) : x = 0 ∧ y = 0 := by
  by_cases h1 : x = 0
  · by_cases h2 : y = 0
    · exact ⟨h1, h2⟩
    · simp [orL, h1, h2] at h
  · simp [orL, h1] at h
end Go.Beacon

/- Strings cut at one byte. No program in sight. -/
set_option linter.unusedVariables false
set_option linter.unusedSimpArgs false
namespace Go.Beacon
open Go Go.Eng

/-- A string cut at each byte c. -/
def splitC (c : UInt8) : Str → List Str
  | [] => [[]]
  | b :: r => if b = c then [] :: splitC c r else match splitC c r with
    | [] => [[b]]
    | h :: t => (b :: h) :: t
theorem splitC_ne (c : UInt8) : ∀ s, splitC c s ≠ []
  | [] => by simp [splitC]
  | b :: r => by
    unfold splitC
    split
    · simp
    · split <;> simp
theorem splitC_length (c : UInt8) : ∀ s, (splitC c s).length ≤ s.length + 1
  | [] => by simp [splitC]
  | b :: r => by
    have ih := splitC_length c r
    unfold splitC
    split
    · simp; omega
    · split
      · simp
      · rename_i h t e; rw [e] at ih; simp at ih ⊢; omega
theorem split_C (c : UInt8) : ∀ s, Lib.split s [c] = splitC c s
  | [] => rfl
  | b :: r => by
    have ih := split_C c r
    unfold Lib.split at ih ⊢
    unfold splitC
    by_cases hb : b = c
    · subst hb
      have hix : Lib.index (b :: r) [b] = 0 := by rw [Lib.index]; simp [List.isPrefixOf]
      rw [if_pos rfl, Lib.count_cons_eq, Nat.add_comm, Lib.splitK, hix, ← ih]
      simp
    · rw [if_neg hb, Lib.count_cons_ne b c r hb, ← ih]
      have hp : ([c] : List UInt8).isPrefixOf (b :: r) = false := by simp [List.isPrefixOf, Ne.symm hb]
      have hix : Lib.index (b :: r) [c] = if Lib.index r [c] == -1 then -1 else Lib.index r [c] + 1 := by rw [Lib.index, hp]; simp
      by_cases hm : Lib.index r [c] = -1
      · rw [Lib.count_miss hm]; rfl
      · have hge := Lib.index_ge r [c]
        obtain ⟨j, hj⟩ : ∃ j : Nat, Lib.index r [c] = j := ⟨(Lib.index r [c]).toNat, by omega⟩
        have hix' : Lib.index (b :: r) [c] = ((j + 1 : Nat) : Int) := by rw [hix, if_neg (fun e => hm (beq_iff_eq.1 e)), hj]; omega
        rw [Lib.count_hit (by simp) hj, Nat.add_comm]
        have n1 : ¬ ((((j + 1 : Nat) : Int) == -1) = true) := fun h => by have := beq_iff_eq.1 h; omega
        have n2 : ¬ ((((j : Nat) : Int) == -1) = true) := fun h => by have := beq_iff_eq.1 h; omega
        simp only [Lib.splitK, hix', hj, if_neg n1, if_neg n2]
        simp [List.take_succ_cons]
/-- strings.Split at one byte. -/
theorem splitO_eq {s : Str} {c : UInt8} (h : s.length ≤ 1000000000) : splitO s [c] = some (splitC c s) := by
  unfold splitO
  rw [if_pos ⟨by omega, by simp⟩]
  congr 1
  have h1 := Lib.splitB_data ⟨#[c]⟩ 0 (Lib.countB ⟨s.toArray⟩ ⟨#[c]⟩) ⟨s.toArray⟩
  rw [← split_C]
  exact h1
end Go.Beacon

/- Names: keys with points between. No program in sight. -/
set_option linter.unusedVariables false
set_option linter.unusedSimpArgs false
namespace Go.Beacon
open Go Go.Eng

/-- A string cut at the first byte c. -/
def cut1 (c : UInt8) : Str → Str × Str × Bool
  | [] => ([], [], false)
  | b :: r => if b = c then ([], r, true) else (b :: (cut1 c r).1, (cut1 c r).2.1, (cut1 c r).2.2)
theorem cut1_miss (c : UInt8) : ∀ s, (cut1 c s).2.2 = false → (cut1 c s).1 = s ∧ (cut1 c s).2.1 = []
  | [] => fun _ => ⟨rfl, rfl⟩
  | b :: r => by
    have ih := cut1_miss c r
    unfold cut1
    split
    · intro h; cases h
    · intro h; have := ih h; simp [this]
theorem cut_C (c : UInt8) : ∀ s, Lib.cut s [c] = cut1 c s
  | [] => rfl
  | b :: r => by
    have ih := cut_C c r
    unfold Lib.cut at ih ⊢
    unfold cut1
    by_cases hb : b = c
    · subst hb
      have hix : Lib.index (b :: r) [b] = 0 := by rw [Lib.index]; simp [List.isPrefixOf]
      rw [if_pos rfl, hix]; simp
    · rw [if_neg hb, ← ih]
      have hp : ([c] : List UInt8).isPrefixOf (b :: r) = false := by simp [List.isPrefixOf, Ne.symm hb]
      have hix : Lib.index (b :: r) [c] = if Lib.index r [c] == -1 then -1 else Lib.index r [c] + 1 := by rw [Lib.index, hp]; simp
      by_cases hm : Lib.index r [c] = -1
      · rw [hix, hm]; simp
      · have hge := Lib.index_ge r [c]
        have hn : ¬ ((Lib.index r [c] == -1) = true) := fun e => hm (beq_iff_eq.1 e)
        obtain ⟨j, hj⟩ : ∃ j : Nat, Lib.index r [c] = j := ⟨(Lib.index r [c]).toNat, by omega⟩
        have hix' : Lib.index (b :: r) [c] = ((j + 1 : Nat) : Int) := by rw [hix, if_neg hn, hj]; omega
        rw [hix', hj, if_pos (by omega), if_pos (by omega)]
        simp
theorem cutO_eq {s : Str} {c : UInt8} (h : s.length ≤ 1000000000) : cutO s [c] = some (cut1 c s) := by
  unfold cutO
  rw [if_pos (by omega), cut_C]
theorem split_cut (c : UInt8) : ∀ s, splitC c s = if (cut1 c s).2.2 = true then (cut1 c s).1 :: splitC c (cut1 c s).2.1 else [s]
  | [] => rfl
  | b :: r => by
    have ih := split_cut c r
    have e1 : splitC c (b :: r) = (if b = c then [] :: splitC c r else match splitC c r with
      | [] => [[b]]
      | h :: t => (b :: h) :: t) := rfl
    rw [e1]
    unfold cut1
    by_cases hb : b = c
    · rw [if_pos hb, if_pos hb]; rfl
    · rw [if_neg hb, if_neg hb, ih]
      by_cases hc : (cut1 c r).2.2 = true
      · simp [hc]
      · simp [hc]
theorem cut1_len (c : UInt8) : ∀ s, (cut1 c s).1.length ≤ s.length ∧ (cut1 c s).2.1.length ≤ s.length
  | [] => ⟨Nat.le_refl _, Nat.le_refl _⟩
  | b :: r => by
    have ih := cut1_len c r
    unfold cut1
    split
    · simp
    · simp; omega
/-- A name: at most k keys with points between. -/
def dotB (k : Nat) (s : Str) : Bool := decide ((splitC 46 s).length ≤ k) && (splitC 46 s).all keyB
theorem Dotted_loop (most : Nat) (hm : most ≤ 1000) : ∀ (k : Nat) (s : Str) (n : Int), 0 ≤ n → n + k = most → s.length ≤ 1000000000 → base_Dotted_l1 most s n = some (dotB k s)
  | 0, s, n, h0, hn, hs => by
    have hne := splitC_ne 46 s
    have hp : 0 < (splitC 46 s).length := List.length_pos_iff.2 hne
    unfold base_Dotted_l1
    rw [iter_eq]
    show (match base_Dotted_b1 most s n with | _ => _) = _
    rw [base_Dotted_b1, if_neg (by omega)]
    simp only [Option.map_some, Option.bind_some]
    unfold dotB
    rw [decide_eq_false (by omega)]; rfl
  | k + 1, s, n, h0, hn, hs => by
    have ih := Dotted_loop most hm k (cut1 46 s).2.1 (n + 1) (by omega) (by omega) (by have := (cut1_len 46 s).2; omega)
    unfold base_Dotted_l1 at ih ⊢
    rw [iter_eq]
    show (match base_Dotted_b1 most s n with | _ => _) = _
    rw [base_Dotted_b1, if_pos (by omega), cutO_eq hs]
    simp only [Option.bind_some, Key_eq]
    unfold dotB
    rw [split_cut 46 s]
    by_cases hk : keyB (cut1 46 s).1 = true
    · by_cases hc : (cut1 46 s).2.2 = true
      · simp only [hk, hc, Bool.not_true, Bool.false_eq_true, if_false, if_true]
        rw [w64_in (by omega) (by omega)]
        refine ih.trans ?_
        unfold dotB
        simp [hk]
      · have hs' := cut1_miss 46 s (by simpa using hc)
        rw [hs'.1] at hk
        simp [hk, hc, hs'.1]
    · by_cases hc : (cut1 46 s).2.2 = true
      · simp [hk, hc]
      · have hs' := cut1_miss 46 s (by simpa using hc)
        rw [hs'.1] at hk
        simp [hk, hc, hs'.1]
end Go.Beacon

/- Strings without marks; letters: the checks of the program and of the reference. No program in sight. -/
set_option linter.unusedVariables false
set_option linter.unusedSimpArgs false
namespace Go.Beacon
open Go Go.Eng

def badC (c : UInt8) : Bool := decide (c.toNat < 32) || decide (c.toNat = 127)
def unmB (s : Str) : Bool := !s.any badC && Lib.validD s
theorem Unmarked_eq (s : Str) (hl : s.length ≤ 1000000) : base_Unmarked s = some (unmB s) := by
  unfold base_Unmarked base_Unmarked_l1
  have h := iter_find s (fun x : Int => base_Unmarked_b1 s x) (fun c => if badC c = true then some false else none) (Lib.validD s) (by omega) (fun i c h0 h1 h2 => by
    show base_Unmarked_b1 s i = _
    unfold base_Unmarked_b1 base_Unmarked_j1 badC
    rw [if_pos h1, h2]
    simp only [Option.bind_some]
    rw [w64_in (by omega) (by omega)]
    by_cases q1 : c.toNat < 32
    · rw [if_pos (by omega)]; simp [q1]
    · rw [if_neg (by omega)]
      by_cases q2 : c.toNat = 127
      · simp [q2]
      · have : ¬ ((c.toNat : Int) = 127) := by omega
        simp [q1, q2, this]) (by
    show base_Unmarked_b1 s s.length = _
    unfold base_Unmarked_b1 base_Unmarked_k2 validO
    rw [if_neg (by omega), if_pos (by omega)]; rfl)
  rw [h]
  unfold unmB
  congr 1
  induction s with
  | nil => simp [findE]
  | cons c r ih => exact find_any c r _
where
  find_any (c : UInt8) (r : Str) (e : Bool) : findE (fun c => if badC c = true then some false else none) e (c :: r) = (!(c :: r).any badC && e) := by
    have key : ∀ (l : Str), findE (fun c => if badC c = true then some false else none) e l = (!l.any badC && e) := by
      intro l
      induction l with
      | nil => simp [findE]
      | cons x t ih =>
        simp only [findE, List.any_cons]
        cases hx : badC x with
        | true => simp
        | false => simp [ih]
    exact key _
/-! letters -/
end Go.Beacon

/- Trimming. No program in sight. -/
set_option linter.unusedVariables false
set_option linter.unusedSimpArgs false
namespace Go.Beacon
open Go Go.Eng

theorem dropW_nil {α : Type} (p : α → Bool) : ∀ l : List α, l.dropWhile p = [] ↔ l.all p = true
  | [] => by simp
  | x :: r => by
    rw [List.dropWhile_cons]
    cases h : p x with
    | true => simp only [if_true, List.all_cons, h, Bool.true_and]; exact dropW_nil p r
    | false => simp [h]
theorem trimS_nil (l cs : Str) : Lib.trimS l cs = [] ↔ l.all (fun c => decide (c ∈ cs)) = true := by
  have hc : ∀ c : UInt8, cs.contains c = decide (c ∈ cs) := fun c => by rw [Bool.eq_iff_iff]; simp
  unfold Lib.trimS Lib.trimLeftS Lib.trimRightS
  rw [dropW_nil, List.all_reverse]
  constructor
  · intro h
    have hd : (l.reverse.dropWhile (cs.contains ·)) = [] := by
      cases hh : l.reverse.dropWhile (cs.contains ·) with
      | nil => rfl
      | cons a b =>
        have h1 := List.head?_dropWhile_not (fun c => cs.contains c) l.reverse
        rw [hh] at h h1
        simp only [List.head?_cons] at h1
        simp only [List.all_cons, Bool.and_eq_true] at h
        rw [h.1] at h1; simp at h1
    rw [dropW_nil, List.all_reverse] at hd
    simpa [hc] using hd
  · intro h
    have hd : l.reverse.dropWhile (cs.contains ·) = [] := by
      rw [dropW_nil, List.all_reverse]; simpa [hc] using h
    rw [hd]; rfl
theorem trimO_eq {s cs : Str} (h1 : s.length ≤ 100000) (h2 : cs.length ≤ 100000) (h3 : cs.all (fun b => decide (b.toNat < 128)) = true) : trimO s cs = some (Lib.trimS s cs) := by
  unfold trimO; rw [if_pos ⟨by omega, by omega, h3⟩]
end Go.Beacon

/- Keys as the first reference tells them: by trimming. No program in sight. -/
set_option linter.unusedVariables false
set_option linter.unusedSimpArgs false
namespace Go.Beacon
open Go Go.Eng

theorem QKeyT_eq (s : Str) : Q_Key s = some (keyB s) := by
  unfold Q_Key Q_Key_j1
  rw [Qin_eq]
  cases s with
  | nil => rfl
  | cons c r =>
    by_cases hl : (c :: r).length ≤ 40
    · rw [if_pos (by simp; simp at hl; omega), trimO_eq (by omega) (by simp) (by decide)]
      simp only [Option.bind_some]
      have e : (c :: r).all (fun c => decide (c ∈ ([97, 98, 99, 100, 101, 102, 103, 104, 105, 106, 107, 108, 109, 110, 111, 112, 113, 114, 115, 116, 117, 118, 119, 120, 121, 122, 48, 49, 50, 51, 52, 53, 54, 55, 56, 57, 45, 95] : List UInt8))) = (c :: r).all (fun c => okN c.toNat) := by
        congr 1; funext c
        exact u8_fin (p := fun c => decide (c ∈ ([97, 98, 99, 100, 101, 102, 103, 104, 105, 106, 107, 108, 109, 110, 111, 112, 113, 114, 115, 116, 117, 118, 119, 120, 121, 122, 48, 49, 50, 51, 52, 53, 54, 55, 56, 57, 45, 95] : List UInt8))) chars_fin c
      have e2 := u8_fin (p := fun c => decide (c ∈ ([97, 98, 99, 100, 101, 102, 103, 104, 105, 106, 107, 108, 109, 110, 111, 112, 113, 114, 115, 116, 117, 118, 119, 120, 121, 122] : List UInt8))) (q := fun n => decide (97 ≤ n) && decide (n ≤ 122)) low_fin c
      rw [keyB_cons, decide_eq_true hl, Bool.true_and, ← e, ← e2]
      by_cases ht : Lib.trimS (c :: r) ([97, 98, 99, 100, 101, 102, 103, 104, 105, 106, 107, 108, 109, 110, 111, 112, 113, 114, 115, 116, 117, 118, 119, 120, 121, 122, 48, 49, 50, 51, 52, 53, 54, 55, 56, 57, 45, 95] : Str) = []
      · rw [if_pos ht, (trimS_nil _ _).1 ht, Bool.and_true]
        have i0 : idx (c :: r) 0 = some c := rfl
        rw [i0]
        simp only [Option.bind_some, indexByteI, toU8]
        congr 1
        have := indexByte_nonneg ([97, 98, 99, 100, 101, 102, 103, 104, 105, 106, 107, 108, 109, 110, 111, 112, 113, 114, 115, 116, 117, 118, 119, 120, 121, 122] : List UInt8) c
        rw [decide_eq_decide]
        constructor
        · intro h; exact Classical.byContradiction fun h' => by have := this.2 h'; omega
        · intro h; have h' := mt this.1 (fun h' => h' h); omega
      · rw [if_neg ht]
        have : (c :: r).all (fun c => decide (c ∈ ([97, 98, 99, 100, 101, 102, 103, 104, 105, 106, 107, 108, 109, 110, 111, 112, 113, 114, 115, 116, 117, 118, 119, 120, 121, 122, 48, 49, 50, 51, 52, 53, 54, 55, 56, 57, 45, 95] : List UInt8))) = false := by
          rw [← Bool.not_eq_true]; exact fun h => ht ((trimS_nil _ _).2 h)
        rw [this, Bool.and_false]
    · rw [if_neg (by simp; simp at hl; omega), keyB_cons, decide_eq_false hl]; rfl
theorem QMomentF_eq (n : Int) : Q_MomentFault n = if 0 ≤ n ∧ n ≤ 345686399999 then 0 else 1 := by
  unfold Q_MomentFault
  rw [Qin_eq]
  by_cases h : 0 ≤ n ∧ n ≤ 345686399999
  · rw [if_pos h, if_neg (by simp; omega)]
  · rw [if_neg h, if_pos (by simp; omega)]
theorem QKeyF_eq (s : Str) : Q_KeyFault s = some (if keyB s = true then 0 else 5) := by
  unfold Q_KeyFault
  rw [QKeyT_eq]
  simp only [Option.bind_some]
  cases keyB s <;> rfl
end Go.Beacon

/- Parts of queries and items: both checks tell the same. No program in sight. -/
set_option linter.unusedVariables false
set_option linter.unusedSimpArgs false
namespace Go.Beacon
open Go Go.Eng

/-! a string that begins with another one -/
def preB (s p : Str) : Bool := decide (s.take p.length = p)
theorem preB_len {s p : Str} (h : preB s p = true) : p.length ≤ s.length := by
  have h : s.take p.length = p := of_decide_eq_true h
  have := congrArg List.length h
  simp at this; omega
theorem slHasPrefix_eq (s p : Str) (h : s.length ≤ 1000000000) : internal_stringslite_HasPrefix s p = some (preB s p) := by
  unfold internal_stringslite_HasPrefix internal_stringslite_HasPrefix_j1
  by_cases c : p.length ≤ s.length
  · rw [if_pos (by omega), slc_in (by omega) (by omega) (by omega)]
    simp only [Option.bind_some]
    unfold preB
    simp
  · rw [if_neg (by omega)]
    cases hp : preB s p with
    | false => rfl
    | true => exact absurd (preB_len hp) c
theorem HasPrefixQ_eq (s p : Str) (h : s.length ≤ 1000000000) : strings_HasPrefix s p = some (preB s p) := by
  unfold strings_HasPrefix
  rw [slHasPrefix_eq s p h]; rfl

def propB (s : Str) : Bool := decide (s.length ≤ 40) && dotB 5 s
theorem Property_eq {s : Str} (h : s.length ≤ 1000000000) : item_Property s = some (propB s) := by
  unfold item_Property item_Property_j1 propB
  by_cases c : s.length ≤ 40
  · rw [if_pos (by omega)]
    unfold base_Dotted
    rw [show (5 : Int) = ((5 : Nat) : Int) from rfl, Dotted_loop 5 (by omega) 5 s 0 (by omega) (by omega) h]
    simp [c]
  · rw [if_neg (by omega)]; simp [c]
theorem PropName_eq {s : Str} (h : s.length ≤ 1000000000) : Q_PropName s = some (propB s) := by
  unfold Q_PropName Q_PropName_j1 propB dotB
  rw [splitO_eq h]
  simp only [Option.bind_some]
  have hl := splitC_length 46 s
  by_cases c : s.length ≤ 40
  · rw [if_pos (by omega)]
    by_cases d : (splitC 46 s).length ≤ 5
    · rw [if_pos (by omega)]
      have hc : slices_ContainsFunc_string_string (splitC 46 s) (fun y0 => Q_PropName_1x y0) = some ((splitC 46 s).any (fun x => !keyB x)) :=
        gContainsFunc_eq _ _ _ (fun x _ => by unfold Q_PropName_1x; rw [QKeyT_eq]; rfl) (by omega)
      rw [hc]
      simp only [Option.bind_some, Option.some.injEq]
      simp [c, d, List.all_eq_not_any_not]
    · rw [if_neg (by omega)]; simp [d]
  · rw [if_neg (by omega)]; simp [c]
/-! values -/
end Go.Beacon

/- Plain words without marks. No program in sight. (As in Pqrm, for laws without queries.) -/
set_option linter.unusedVariables false
set_option linter.unusedSimpArgs false
namespace Go.Beacon
open Go Go.Eng

/-! plain words -/
def sufB (s p : Str) : Bool := decide (p.length ≤ s.length) && decide (s.drop (s.length - p.length) = p)
theorem slHasSuffix_eq (s p : Str) (h : s.length ≤ 1000000000) : internal_stringslite_HasSuffix s p = some (sufB s p) := by
  unfold internal_stringslite_HasSuffix internal_stringslite_HasSuffix_j1 sufB
  by_cases c : p.length ≤ s.length
  · rw [if_pos (by omega), w64_in (by omega) (by omega), slc_in (by omega) (by omega) (by omega)]
    simp only [Option.bind_some, Option.some.injEq]
    rw [show ((s.length : Int) - p.length).toNat = s.length - p.length by omega, List.take_of_length_le (by simp)]
    simp [c]
  · rw [if_neg (by omega)]; simp [c]
def contB (s : Str) : Bool := decide (0 ≤ Lib.index s [32, 32])
theorem Contains2_eq (s : Str) (h : s.length ≤ 1000000) : strings_Contains s [32, 32] = some (contB s) := by
  unfold strings_Contains
  show (index2 s [32, 32]).bind _ = _
  unfold index2
  rw [if_pos (by omega)]; rfl
def plnB (s : Str) : Bool := unmB s && (!preB s [32] && (!sufB s [32] && !contB s))
theorem Plain_eq (s : Str) (h : s.length ≤ 1000000) : base_Plain s = some (plnB s) := by
  unfold base_Plain base_Plain_j1 plnB
  rw [Unmarked_eq s h]
  simp only [Option.bind_some]
  cases unmB s with
  | false => rfl
  | true =>
    rw [if_pos rfl, HasPrefixQ_eq _ _ (by omega)]
    simp only [Option.bind_some]
    cases preB s [32] with
    | true => rfl
    | false =>
      simp only [Bool.not_false, if_true]
      unfold strings_HasSuffix
      rw [slHasSuffix_eq _ _ (by omega)]
      simp only [Option.bind_some]
      cases sufB s [32] with
      | true => rfl
      | false => simp only [Bool.not_false, if_true]; rw [Contains2_eq s h]; rfl
theorem dw_iff {α : Type} (p : α → Bool) : ∀ l : List α, l.dropWhile p = l ↔ ∀ x, l.head? = some x → p x = false
  | [] => by simp
  | x :: r => by
    rw [List.dropWhile_cons]
    cases hp : p x with
    | true =>
      simp only [if_true, List.head?_cons, Option.some.injEq]
      constructor
      · intro h
        have h1 : (r.dropWhile p).length ≤ r.length := (List.dropWhile_suffix p).length_le
        rw [h, List.length_cons] at h1; omega
      · intro h; have := h x rfl; rw [hp] at this; cases this
    | false => simp [hp]
theorem trim_same (s : Str) : Lib.trimS s [32] = s ↔ preB s [32] = false ∧ sufB s [32] = false := by
  have hl : (∀ x, s.head? = some x → ([32] : Str).contains x = false) ↔ preB s [32] = false := by
    unfold preB
    cases s with
    | nil => simp
    | cons a r => simp
  have hr : (∀ x, s.reverse.head? = some x → ([32] : Str).contains x = false) ↔ sufB s [32] = false := by
    unfold sufB
    rcases List.eq_nil_or_concat s with rfl | ⟨l, a, rfl⟩
    · simp
    · rw [List.concat_eq_append]; simp
  unfold Lib.trimS Lib.trimLeftS Lib.trimRightS
  rw [← hl, ← hr, ← dw_iff, ← dw_iff]
  constructor
  · intro h
    have h1 : (s.reverse.dropWhile (([32] : Str).contains ·)).reverse.length ≤ s.length := by
      have := (List.dropWhile_suffix (l := s.reverse) (([32] : Str).contains ·)).length_le
      simpa using this
    have h2 := (List.dropWhile_suffix (l := (s.reverse.dropWhile (([32] : Str).contains ·)).reverse) (([32] : Str).contains ·)).length_le
    have h3 : (s.reverse.dropWhile (([32] : Str).contains ·)) = s.reverse := by
      refine (List.dropWhile_suffix (([32] : Str).contains ·)).eq_of_length ?_
      have h4 := congrArg List.length h
      simp only [List.length_reverse] at h1 h2 h4 ⊢
      omega
    rw [h3, List.reverse_reverse] at h
    exact ⟨h, h3⟩
  · rintro ⟨h1, h2⟩
    rw [h2, List.reverse_reverse]; exact h1
theorem Qplain_k3 (s : Str) (h : s.length ≤ 100000) : Q_plain_k3 s = some (Lib.validD s && (!preB s [32] && (!sufB s [32] && !contB s))) := by
  unfold Q_plain_k3 Q_plain_j2 validO
  rw [if_pos (by omega)]
  simp only [Option.bind_some]
  cases Lib.validD s with
  | false => rfl
  | true =>
    rw [if_pos rfl, trimO_eq h (by simp) (by decide)]
    simp only [Option.bind_some]
    by_cases c : Lib.trimS s [32] = s
    · rw [if_pos c.symm, Contains2_eq s (by omega)]
      obtain ⟨c1, c2⟩ := (trim_same s).1 c
      rw [c1, c2]; rfl
    · rw [if_neg (fun k => c k.symm)]
      have := fun k => c ((trim_same s).2 k)
      cases h1 : preB s [32] <;> cases h2 : sufB s [32] <;> first | rfl | exact absurd ⟨h1, h2⟩ this
theorem Qplain_eq (s : Str) (h : s.length ≤ 100000) : Q_plain s = some (plnB s) := by
  unfold Q_plain Q_plain_l1
  have hlen : (bytesI s).length = s.length := by unfold bytesI; simp
  have hf := iter_find (bytesI s) (fun x : Int => Q_plain_b1 s x) (fun v => if (decide (v < 32) || decide (v = 127)) = true then some false else none) (Lib.validD s && (!preB s [32] && (!sufB s [32] && !contB s))) (by omega) (fun i v h0 h1 h2 => by
    show Q_plain_b1 s i = _
    unfold Q_plain_b1 Q_plain_j1
    rw [if_pos h1, h2]
    simp only [Option.bind_some]
    rw [w64_in (by omega) (by omega)]
    cases (decide (v < 32) || decide (v = 127)) <;> rfl) (by
    show Q_plain_b1 s (bytesI s).length = _
    unfold Q_plain_b1
    rw [if_neg (by omega), Qplain_k3 s h]; rfl)
  rw [hf]
  unfold plnB unmB
  congr 1
  have key : ∀ (l : Str) (e : Bool), findE (fun v : Int => if (decide (v < 32) || decide (v = 127)) = true then some false else none) e (bytesI l) = (!l.any badC && e) := by
    intro l e
    unfold bytesI
    induction l with
    | nil => simp [findE]
    | cons c r ih =>
      simp only [List.map_cons, findE, List.any_cons]
      have hb : (decide ((c.toNat : Int) < 32) || decide ((c.toNat : Int) = 127)) = badC c := by
        unfold badC; rw [Bool.eq_iff_iff]; simp <;> omega
      rw [hb]
      cases badC c with
      | true => rfl
      | false => simp only [Bool.false_eq_true, if_false, Bool.false_or]; exact ih
  rw [key, Bool.and_assoc]
end Go.Beacon

/- Streams, in the form that is stepped by one text: what can still be drawn is counted down. No program in sight. -/
set_option linter.unusedVariables false
set_option linter.unusedSimpArgs false
namespace Go.Beacon
open Go Go.Eng

theorem Next_k {s : Stm} {n K : Int} (hs : SOk s K) (hK : 1 ≤ K) (h1 : 1 ≤ n) (h2 : n ≤ 4611686018427387904) : Gen (Stream_Next s n) (K - 1) (fun v => 0 ≤ v ∧ v < n) :=
  Next_ok (hs.less (by omega)) h1 h2 (by omega)
theorem Flip_k {s : Stm} {n K : Int} (hs : SOk s K) (hK : 1 ≤ K) (h1 : 1 ≤ n) (h2 : n ≤ 4611686018427387904) : Gen (Stream_Flip s n) (K - 1) (fun _ => True) :=
  Flip_ok (hs.less (by omega)) h1 h2 (by omega)
theorem Pick_k {s : Stm} {l : List Int} {K : Int} (hs : SOk s K) (hK : 1 ≤ K) (h1 : l ≠ []) (h2 : l.length ≤ 1000) : Gen (Stream_Pick s l) (K - 1) (fun v => v ∈ l) :=
  Pick_ok (hs.less (by omega)) h1 h2 (by omega)
theorem Range_k {s : Stm} {a b K : Int} (hs : SOk s K) (hK : 1 ≤ K) (hab : a ≤ b) (ha : -1152921504606846976 ≤ a) (hb : b ≤ 1152921504606846976) : Gen (Stream_Range s a b) (K - 1) (fun v => a ≤ v ∧ v ≤ b) :=
  Range_ok (hs.less (by omega)) hab ha hb (by omega)
theorem Some_k {s : Stm} {l : List Str} {K : Int} (hs : SOk s K) (hK : 1 ≤ K) (h1 : l ≠ []) (h2 : l.length ≤ 1000) : Gen (Stream_Some s l) (K - 1) (fun v => v ∈ l) :=
  Some_ok (hs.less (by omega)) h1 h2 (by omega)
theorem Odd_k {s : Stm} {a b K : Int} (hs : SOk s K) (hK : 2 ≤ K) (hab : a ≤ b) (ha : -1099511627776 ≤ a) (hb : b ≤ 1099511627776) : Gen (Stream_Odd s a b) (K - 2) (fun v => -1099511627777 ≤ v ∧ v ≤ 1099511627777) :=
  Odd_ok (hs.less (by omega)) hab ha hb (by omega)
end Go.Beacon

/- Plain functions that end, and what their results are like: one lemma for each step. No program in sight. -/
set_option linter.unusedVariables false
set_option linter.unusedSimpArgs false
namespace Go.Beacon
open Go Go.Eng

/-- It ends, and its result is so. -/
def Ok {α : Type} (m : Option α) (Q : α → Prop) : Prop := ∃ r, m = some r ∧ Q r
theorem Ok.ret {α : Type} {v : α} {Q : α → Prop} (h : Q v) : Ok (some v) Q := ⟨v, rfl, h⟩
theorem Ok.mono {α : Type} {m : Option α} {P Q : α → Prop} (h : Ok m P) (hp : ∀ v, P v → Q v) : Ok m Q := by
  obtain ⟨r, h1, h2⟩ := h; exact ⟨r, h1, hp r h2⟩
theorem Ok.bind {α β : Type} {m : Option α} {f : α → Option β} {P : α → Prop} {Q : β → Prop} (h : Ok m P) (hf : ∀ v, P v → Ok (f v) Q) : Ok (m.bind f) Q := by
  obtain ⟨r, rfl, h2⟩ := h; exact hf r h2
theorem Ok.is {α β : Type} {m : Option α} {v : α} {f : α → Option β} {Q : β → Prop} (h : m = some v) (hf : Ok (f v) Q) : Ok (m.bind f) Q := by rw [h]; exact hf
theorem Ok.inr {α β : Type} {m : Option β} {Q : α ⊕ β → Prop} (h : Ok m (fun r => Q (.inr r))) : Ok (Option.map .inr m) Q := by
  obtain ⟨r, rfl, h2⟩ := h; exact ⟨_, rfl, h2⟩
theorem Ok.gen {α β : Type} {m : Option (α × Stm)} {k : Int} {P : α → Prop} {f : α × Stm → Option β} {Q : β → Prop} (h : Gen m k P) (hf : ∀ v s', P v → SOk s' k → Ok (f (v, s')) Q) : Ok (m.bind f) Q := by
  obtain ⟨v, s', rfl, h1, h2⟩ := h; exact hf v s' h1 h2
theorem Gen.of {α : Type} {m : Option (α × Stm)} {k : Int} {P : α → Prop} (h : Ok m (fun r => P r.1 ∧ SOk r.2 k)) : Gen m k P := by
  obtain ⟨⟨v, s⟩, h1, h2, h3⟩ := h; exact ⟨v, s, h1, h2, h3⟩
theorem Ok.of {α : Type} {m : Option (α × Stm)} {k : Int} {P : α → Prop} (h : Gen m k P) : Ok m (fun r => P r.1 ∧ SOk r.2 k) := by
  obtain ⟨v, s, h1, h2, h3⟩ := h; exact ⟨(v, s), h1, h2, h3⟩
theorem Ok.idx {α β : Type} {xs : List α} {i : Int} {f : α → Option β} {Q : β → Prop} (h0 : 0 ≤ i) (h1 : i < xs.length) (hf : ∀ x, idx xs i = some x → x ∈ xs → Ok (f x) Q) : Ok ((idx xs i).bind f) Q := by
  obtain ⟨x, hx, hm, _⟩ := idx_lt xs h0 h1
  rw [hx]; exact hf x hx hm
theorem Ok.app {α β : Type} {xs ys : List α} {f : List α → Option β} {Q : β → Prop} (h : xs.length + ys.length ≤ 1000000000) (hf : Ok (f (xs ++ ys)) Q) : Ok ((app xs ys).bind f) Q := by
  rw [app_le h]; exact hf
theorem Ok.slc {α β : Type} {xs : List α} {a b : Int} {f : List α → Option β} {Q : β → Prop} (h0 : 0 ≤ a) (h1 : a ≤ b) (h2 : b ≤ xs.length) (hf : ∀ ys : List α, ys = (xs.drop a.toNat).take (b.toNat - a.toNat) → (ys.length : Int) = b - a → Ok (f ys) Q) : Ok ((slc xs a b).bind f) Q := by
  rw [slc_in h0 h1 h2]; exact hf _ rfl (by simp; omega)
/-- What a round of a loop may tell: it keeps something and makes a number smaller, or it is the last. -/
abbrev Stp {S A : Type} (m : S → Nat) (Inv : S → Prop) (R : A → Prop) (s : S) : S ⊕ A → Prop
  | .inl s' => Inv s' ∧ m s' < m s
  | .inr a => R a
theorem Ok.iter {S A : Type} {f : S → Option (S ⊕ A)} {R : A → Prop} (m : S → Nat) (Inv : S → Prop)
    (h : ∀ s, Inv s → Ok (f s) (Stp m Inv R s)) (s : S) (hs : Inv s) : Ok (iter f s) R := by
  refine iter_inv f m Inv R (fun s hi => ?_) s hs
  obtain ⟨r, h1, h2⟩ := h s hi
  cases r with
  | inl s' => exact .inl ⟨s', h1, h2.1, h2.2⟩
  | inr a => exact .inr ⟨a, h1, h2⟩
/-- A round of a loop over the places of a list. -/
abbrev Rng {A : Type} (N : Nat) (R : A → Prop) (i : Int) : Int ⊕ A → Prop
  | .inl j => j = i + 1 ∧ i < N
  | .inr a => R a
theorem Ok.range {A : Type} {f : Int → Option (Int ⊕ A)} {R : A → Prop} (N : Nat) (h : ∀ i : Int, 0 ≤ i → i ≤ N → Ok (f i) (Rng N R i)) : Ok (Eng.iter f 0) R := by
  refine Ok.iter (fun i : Int => N + 1 - i.toNat) (fun i : Int => 0 ≤ i ∧ i ≤ N) (fun i hi => ?_) 0 ⟨by omega, by omega⟩
  refine (h i hi.1 hi.2).mono (fun r hr => ?_)
  cases r with
  | inl j => simp only [Rng, Stp] at hr ⊢; omega
  | inr a => exact hr
/-- The same loops are the same. -/
theorem iter_same {S A : Type} {f g : S → Option (S ⊕ A)} (h : ∀ s, f s = g s) (s : S) : iter f s = iter g s := by rw [funext h]
end Go.Beacon

/- Models: their checks, and those that are drawn. No program in sight. -/
set_option linter.unusedVariables false
set_option linter.unusedSimpArgs false
namespace Go.Beacon
open Go Go.Eng

/-! scans by place -/
def stp {A : Type} (o : Option A) (i : Int) : Int ⊕ A := match o with
  | some a => .inr a
  | none => .inl (i + 1)
def scanO {α A : Type} (v : Int → α → Option A) (e : A) : List α → Int → A
  | [], _ => e
  | s :: r, i => match v i s with
    | some a => a
    | none => scanO v e r (i + 1)
theorem iter_scanO {α A : Type} (v : Int → α → Option A) (e : A) (xs : List α) (f : Int → Option (Int ⊕ A))
    (hf : ∀ (i : Int) s, 0 ≤ i → i < xs.length → idx xs i = some s → f i = some (stp (v i s) i))
    (he : f xs.length = some (.inr e)) : iter f 0 = some (scanO v e xs 0) := by
  have key : ∀ (n : Nat) (i : Int), 0 ≤ i → i + n = xs.length → iter f i = some (scanO v e (xs.drop i.toNat) i) := by
    intro n
    induction n with
    | zero =>
      intro i h0 hn
      obtain rfl : i = xs.length := by omega
      rw [iter_eq, he, List.drop_of_length_le (by omega)]; rfl
    | succ n ih =>
      intro i h0 hn
      obtain ⟨s, hs, _, hd⟩ := idx_lt xs h0 (by omega)
      rw [iter_eq, hf i s h0 (by omega) hs, hd]
      conv => rhs; unfold scanO
      cases hv : v i s with
      | some a => rfl
      | none =>
        simp only [Option.bind_some, after_inl]
        exact ih (i + 1) (by omega) (by omega)
  have := key xs.length 0 (by omega) (by omega)
  simpa using this
theorem leS_ops (a b : Str) : (Op.bytesLess a b || a == b) = decide (Lib.compareBytes a b ≤ 0) := by
  rw [less_iff, beq_cmp]
  rcases cmpB_vals a b with h | h | h <;> simp [h]
/-! types of properties -/
def MB (m : Model) : Prop := m.Prefix.length ≤ 100 ∧ m.Props.length ≤ 100 ∧ ∀ p ∈ m.Props, p.Name.length ≤ 100
def ptRest (p : PropType) : Option Int :=
  if p.Kind < 1 ∨ 3 < p.Kind then some 4 else if p.Kind = 2 ∧ (p.Low < -1000000000 ∨ p.High < p.Low ∨ 1000000000 < p.High) then some 1 else if ¬ p.Kind = 2 ∧ (p.Low ≠ 0 ∨ p.High ≠ 0) then some 3 else none
def ptV (l : List PropType) (i : Int) (p : PropType) : Option Int :=
  if propB p.Name = false then some 5 else match prevOf l i with
  | some q => if Lib.compareBytes p.Name q.Name ≤ 0 then some 7 else ptRest p
  | none => ptRest p
def ptsF (l : List PropType) : Int := scanO (ptV l) 0 l 0
theorem typesFault_eq {l : List PropType} (hl : l.length ≤ 100) (hn : ∀ p ∈ l, p.Name.length ≤ 100) : device_typesFault l = some (ptsF l) := by
  unfold device_typesFault device_typesFault_l1 ptsF
  refine iter_scanO (ptV l) 0 l _ (fun i s i0 i1 hs => ?_) (by show device_typesFault_b1 l _ = _; rw [device_typesFault_b1, if_neg (by omega)]; rfl)
  have hsn := hn s (idx_mem hs)
  show device_typesFault_b1 l i = _
  rw [device_typesFault_b1, if_pos i1, hs]
  simp only [Option.bind_some]
  rw [Property_eq (by omega)]
  simp only [Option.bind_some]
  unfold ptV
  cases hp : propB s.Name
  · simp [stp]
  simp only [Bool.not_true, Bool.false_eq_true, if_false, Bool.true_eq_false]
  have j1 : ∀ c : Bool, device_typesFault_j1 i s c = some (stp (if c = true then some 7 else ptRest s) i) := by
    intro c
    unfold device_typesFault_j1 device_typesFault_j2 device_typesFault_j3 ptRest
    rw [Out_eq, Out_eq, w64_in (x := i + 1) (by omega) (by omega)]
    cases c with
    | true => rfl
    | false =>
      simp only [Bool.false_eq_true, if_false]
      by_cases h1 : s.Kind < 1 ∨ 3 < s.Kind
      · rw [if_pos (by simp only [Bool.or_eq_true, decide_eq_true_eq]; exact h1), if_pos h1]; rfl
      · rw [if_neg (by simp only [Bool.or_eq_true, decide_eq_true_eq]; exact h1), if_neg h1]
        by_cases h2 : s.Kind = 2 ∧ (s.Low < -1000000000 ∨ s.High < s.Low ∨ 1000000000 < s.High)
        · rw [if_pos (by simp only [Bool.and_eq_true, Bool.or_eq_true, decide_eq_true_eq]; omega), if_pos h2]; rfl
        · rw [if_neg (by simp only [Bool.and_eq_true, Bool.or_eq_true, decide_eq_true_eq]; omega), if_neg h2]
          by_cases h3 : ¬ s.Kind = 2 ∧ (s.Low ≠ 0 ∨ s.High ≠ 0)
          · rw [if_pos (by simp only [Bool.and_eq_true, Bool.or_eq_true, decide_eq_true_eq]; exact h3), if_pos h3]; rfl
          · rw [if_neg (by simp only [Bool.and_eq_true, Bool.or_eq_true, decide_eq_true_eq]; exact h3), if_neg h3]; rfl
  by_cases hi : 0 < i
  · obtain ⟨p, hp, _, _⟩ := idx_lt l (i := i - 1) (by omega) (by omega)
    have hpa : prevOf l i = some p := by unfold prevOf; rw [if_neg (by omega), hp]
    rw [hpa, if_pos hi, w64_in (by omega) (by omega), hp]
    simp only [Option.bind_some]
    rw [j1, leS_ops]
    simp only [decide_eq_true_eq]
  · have hpa : prevOf l i = none := by unfold prevOf; rw [if_pos (by omega)]
    rw [hpa, if_neg hi, j1, if_neg (by simp)]
theorem typesR_eq {m : Model} (hl : m.Props.length ≤ 100) (hn : ∀ p ∈ m.Props, p.Name.length ≤ 100) (n2 : Int) (h2 : 0 ≤ n2 ∧ n2 ≤ 1000) : Q_ModelsFault_l2 n2 m 0 = some (if ptsF m.Props ≠ 0 then .inr (ptsF m.Props) else .inl (n2 + 1)) := by
  unfold Q_ModelsFault_l2
  have main := iter_scanO (fun i p => (ptV m.Props i p).map (Sum.inr : Int → Int ⊕ Int)) (.inl (n2 + 1)) m.Props (fun x : Int => Q_ModelsFault_b2 n2 m x) (fun i s i0 i1 hs => ?_) (by show Q_ModelsFault_b2 n2 m _ = _; rw [Q_ModelsFault_b2, if_neg (by omega), w64_in (by omega) (by omega)]; rfl)
  · refine main.trans ?_
    congr 1
    unfold ptsF
    have hz : ∀ (l : List PropType) (i : Int) p a, ptV l i p = some a → a ≠ 0 := by
      intro l i p a h
      have hr : ∀ p a, ptRest p = some a → a ≠ 0 := by
        intro p a h
        unfold ptRest at h
        split at h
        · rw [← Option.some.inj h]; decide
        · split at h
          · rw [← Option.some.inj h]; decide
          · split at h
            · rw [← Option.some.inj h]; decide
            · cases h
      unfold ptV at h
      split at h
      · rw [← Option.some.inj h]; decide
      · split at h
        · split at h
          · rw [← Option.some.inj h]; decide
          · exact hr _ _ h
        · exact hr _ _ h
    have key : ∀ (r : List PropType) (i : Int), scanO (fun i p => (ptV m.Props i p).map (Sum.inr : Int → Int ⊕ Int)) (.inl (n2 + 1)) r i = if scanO (ptV m.Props) 0 r i ≠ 0 then .inr (scanO (ptV m.Props) 0 r i) else .inl (n2 + 1) := by
      intro r
      induction r with
      | nil => intro i; rfl
      | cons p r ih =>
        intro i
        unfold scanO
        cases hv : ptV m.Props i p with
        | some a => simp only [Option.map_some]; rw [if_pos (hz _ _ _ _ hv)]
        | none => simp only [Option.map_none]; exact ih (i + 1)
    exact key m.Props 0
  · have hsn := hn s (idx_mem hs)
    show Q_ModelsFault_b2 n2 m i = _
    rw [Q_ModelsFault_b2, if_pos i1, hs]
    simp only [Option.bind_some]
    rw [PropName_eq (by omega)]
    simp only [Option.bind_some]
    unfold ptV
    cases hp : propB s.Name
    · simp [stp]
    simp only [Bool.not_true, Bool.false_eq_true, if_false, Bool.true_eq_false]
    have j3 : ∀ c : Bool, Q_ModelsFault_j3 i s c = some (stp ((if c = true then some 7 else ptRest s).map (Sum.inr : Int → Int ⊕ Int)) i) := by
      intro c
      unfold Q_ModelsFault_j3 Q_ModelsFault_j4 Q_ModelsFault_j5 ptRest
      rw [Qin_eq, Qin_eq, w64_in (x := i + 1) (by omega) (by omega)]
      cases c with
      | true => rfl
      | false =>
        simp only [Bool.false_eq_true, if_false]
        by_cases h1 : s.Kind < 1 ∨ 3 < s.Kind
        · rw [if_pos (by simp only [Bool.not_eq_true', Bool.and_eq_false_iff, decide_eq_false_iff_not]; omega), if_pos h1]; rfl
        · rw [if_neg (by simp only [Bool.not_eq_true', Bool.and_eq_false_iff, decide_eq_false_iff_not]; omega), if_neg h1]
          by_cases h2 : s.Kind = 2 ∧ (s.Low < -1000000000 ∨ s.High < s.Low ∨ 1000000000 < s.High)
          · rw [if_pos (by simp only [Bool.and_eq_true, Bool.or_eq_true, Bool.not_eq_true', Bool.and_eq_false_iff, decide_eq_true_eq, decide_eq_false_iff_not]; omega), if_pos h2]; rfl
          · rw [if_neg (by simp only [Bool.and_eq_true, Bool.or_eq_true, Bool.not_eq_true', Bool.and_eq_false_iff, decide_eq_true_eq, decide_eq_false_iff_not]; omega), if_neg h2]
            by_cases h3 : ¬ s.Kind = 2 ∧ (s.Low ≠ 0 ∨ s.High ≠ 0)
            · rw [if_pos (by simp only [Bool.and_eq_true, Bool.or_eq_true, decide_eq_true_eq]; exact h3), if_pos h3]; rfl
            · rw [if_neg (by simp only [Bool.and_eq_true, Bool.or_eq_true, decide_eq_true_eq]; exact h3), if_neg h3]; rfl
    by_cases hi : 0 < i
    · obtain ⟨p, hp, _, _⟩ := idx_lt m.Props (i := i - 1) (by omega) (by omega)
      have hpa : prevOf m.Props i = some p := by unfold prevOf; rw [if_neg (by omega), hp]
      rw [hpa, if_pos hi, w64_in (by omega) (by omega), hp]
      simp only [Option.bind_some]
      rw [j3, leS_ops]
      simp only [decide_eq_true_eq]
    · have hpa : prevOf m.Props i = none := by unfold prevOf; rw [if_pos (by omega)]
      rw [hpa, if_neg hi, j3, if_neg (by simp)]
/-! models -/
abbrev sCaps : Str := [65, 66, 67, 68, 69, 70, 71, 72, 73, 74, 75, 76, 77, 78, 79, 80, 81, 82, 83, 84, 85, 86, 87, 88, 89, 90]
def pfxB (s : Str) : Bool := (decide (2 ≤ s.length) && decide (s.length ≤ 4)) && decide (Lib.trimS s sCaps = [])
theorem isPrefix_eq {s : Str} (h : s.length ≤ 1000) : device_isPrefix s = some (pfxB s) := by
  unfold device_isPrefix device_isPrefix_j1 pfxB
  rw [Out_eq, trimO_eq (by omega) (by decide) (by decide)]
  by_cases c : 2 ≤ s.length ∧ s.length ≤ 4
  · rw [if_pos (by simp only [Bool.not_eq_true', Bool.or_eq_false_iff, decide_eq_false_iff_not]; omega)]
    simp [c.1, c.2]
  · rw [if_neg (by simp only [Bool.not_eq_true', Bool.or_eq_false_iff, decide_eq_false_iff_not]; omega)]
    rw [eq_comm]
    simp
    intro a b; exact absurd ⟨a, b⟩ c
def mdRest (l : List Model) (i : Int) (m : Model) : Option Int :=
  if pfxB m.Prefix = false then some 3 else if (l.take i.toNat).any (fun x => decide (x.Prefix = m.Prefix)) = true then some 6 else if 50 < m.Props.length then some 2 else if ptsF m.Props ≠ 0 then some (ptsF m.Props) else none
def mdV (l : List Model) (i : Int) (m : Model) : Option Int :=
  if keyB m.Key = false then some 5 else match prevOf l i with
  | some q => if Lib.compareBytes m.Key q.Key ≤ 0 then some 7 else mdRest l i m
  | none => mdRest l i m
def mdF (l : List Model) : Int := if 50 < l.length then 2 else scanO (mdV l) 0 l 0
theorem ContM (L : List Model) (fn : Model → Option Bool) (p : Model → Bool) (hf : ∀ x, fn x = some (p x)) (hl : (L.length : Int) ≤ 100000) : slices_ContainsFunc_Model_Model L fn = some (L.any p) :=
  gContainsFunc_eq L fn p (fun x _ => hf x) (by omega)
theorem CheckModels_eq {l : List Model} (h : ∀ m ∈ l, MB m) : device_CheckModels l = some (mdF l) := by
  unfold device_CheckModels mdF
  by_cases h50 : 50 < l.length
  · rw [if_pos (by omega), if_pos h50]
  rw [if_neg (by omega), if_neg h50]
  unfold device_CheckModels_l1
  refine iter_scanO (mdV l) 0 l _ (fun i s i0 i1 hs => ?_) (by show device_CheckModels_b1 l _ = _; rw [device_CheckModels_b1, if_neg (by omega)]; rfl)
  obtain ⟨b1, b2, b3⟩ := h s (idx_mem hs)
  show device_CheckModels_b1 l i = _
  rw [device_CheckModels_b1, if_pos i1, hs]
  simp only [Option.bind_some]
  rw [Key_eq]
  simp only [Option.bind_some]
  unfold mdV
  cases hk : keyB s.Key
  · simp [stp]
  simp only [Bool.not_true, Bool.false_eq_true, if_false, Bool.true_eq_false]
  have j1 : ∀ c : Bool, device_CheckModels_j1 l i s c = some (stp (if c = true then some 7 else mdRest l i s) i) := by
    intro c
    unfold device_CheckModels_j1 mdRest
    cases c with
    | true => rfl
    | false =>
      simp only [Bool.false_eq_true, if_false]
      rw [isPrefix_eq (by omega)]
      simp only [Option.bind_some]
      cases hp : pfxB s.Prefix
      · simp [stp]
      simp only [Bool.not_true, Bool.false_eq_true, if_false, Bool.true_eq_false]
      rw [slc_in (by omega) (by omega) (by omega)]
      simp only [Option.bind_some]
      rw [show (l.drop (0 : Int).toNat).take (i.toNat - (0 : Int).toNat) = l.take i.toNat by simp, ContM _ (fun y0 => some (device_CheckModels_1x y0 s)) (fun x => decide (x.Prefix = s.Prefix)) (fun _ => rfl) (by rw [List.length_take]; omega)]
      simp only [Option.bind_some]
      by_cases ha : (l.take i.toNat).any (fun x => decide (x.Prefix = s.Prefix)) = true
      · rw [if_pos ha, if_pos ha]; rfl
      rw [if_neg ha, if_neg ha]
      by_cases h5 : 50 < s.Props.length
      · rw [if_pos (by omega), if_pos h5]; rfl
      rw [if_neg (by omega), if_neg h5, typesFault_eq b2 b3]
      simp only [Option.bind_some]
      rw [w64_in (by omega) (by omega)]
      by_cases hz : ptsF s.Props ≠ 0
      · rw [if_pos hz, if_pos hz]; rfl
      · rw [if_neg hz, if_neg hz]; rfl
  by_cases hi : 0 < i
  · obtain ⟨p, hp, _, _⟩ := idx_lt l (i := i - 1) (by omega) (by omega)
    have hpa : prevOf l i = some p := by unfold prevOf; rw [if_neg (by omega), hp]
    rw [hpa, if_pos hi, w64_in (by omega) (by omega), hp]
    simp only [Option.bind_some]
    rw [j1, leS_ops]
    simp only [decide_eq_true_eq]
  · have hpa : prevOf l i = none := by unfold prevOf; rw [if_pos (by omega)]
    rw [hpa, if_neg hi, j1, if_neg (by simp)]
theorem upper_small : toUpperO ([97, 98, 99, 100, 101, 102, 103, 104, 105, 106, 107, 108, 109, 110, 111, 112, 113, 114, 115, 116, 117, 118, 119, 120, 121, 122] : Str) = some sCaps := by decide
theorem ModelsFault_eq {l : List Model} (h : ∀ m ∈ l, MB m) : Q_ModelsFault l = some (mdF l) := by
  unfold Q_ModelsFault mdF
  by_cases h50 : 50 < l.length
  · rw [if_pos (by omega), if_pos h50]
  rw [if_neg (by omega), if_neg h50]
  unfold Q_ModelsFault_l1
  refine iter_scanO (mdV l) 0 l _ (fun i s i0 i1 hs => ?_) (by show Q_ModelsFault_b1 l _ = _; rw [Q_ModelsFault_b1, if_neg (by omega)]; rfl)
  obtain ⟨b1, b2, b3⟩ := h s (idx_mem hs)
  show Q_ModelsFault_b1 l i = _
  rw [Q_ModelsFault_b1, if_pos i1, hs]
  simp only [Option.bind_some]
  rw [QKeyT_eq]
  simp only [Option.bind_some]
  unfold mdV
  cases hk : keyB s.Key
  · simp [stp]
  simp only [Bool.not_true, Bool.false_eq_true, if_false, Bool.true_eq_false]
  have j1 : ∀ c : Bool, Q_ModelsFault_j1 l i s c = some (stp (if c = true then some 7 else mdRest l i s) i) := by
    intro c
    unfold Q_ModelsFault_j1 mdRest
    cases c with
    | true => rfl
    | false =>
      simp only [Bool.false_eq_true, if_false]
      rw [Qin_eq, upper_small]
      simp only [Option.bind_some]
      rw [trimO_eq (by omega) (by decide) (by decide)]
      simp only [Option.bind_some]
      have j2 : ∀ c : Bool, Q_ModelsFault_j2 l i s c = some (stp (if c = true then some 3 else if (l.take i.toNat).any (fun x => decide (x.Prefix = s.Prefix)) = true then some 6 else if 50 < s.Props.length then some 2 else if ptsF s.Props ≠ 0 then some (ptsF s.Props) else none) i) := by
        intro c
        unfold Q_ModelsFault_j2
        cases c with
        | true => rfl
        | false =>
          simp only [Bool.false_eq_true, if_false]
          rw [slc_in (by omega) (by omega) (by omega)]
          simp only [Option.bind_some]
          rw [show (l.drop (0 : Int).toNat).take (i.toNat - (0 : Int).toNat) = l.take i.toNat by simp, ContM _ (fun y0 => some (Q_ModelsFault_1x y0 s)) (fun x => decide (x.Prefix = s.Prefix)) (fun _ => rfl) (by rw [List.length_take]; omega)]
          simp only [Option.bind_some]
          by_cases ha : (l.take i.toNat).any (fun x => decide (x.Prefix = s.Prefix)) = true
          · rw [if_pos ha, if_pos ha]; rfl
          rw [if_neg ha, if_neg ha]
          by_cases h5 : 50 < s.Props.length
          · rw [if_pos (by omega), if_pos h5]; rfl
          rw [if_neg (by omega), if_neg h5, typesR_eq b2 b3 i ⟨i0, by omega⟩]
          by_cases hz : ptsF s.Props ≠ 0
          · rw [if_pos hz, if_pos hz]; rfl
          · rw [if_neg hz, if_neg hz]; rfl
      have hpf : (pfxB s.Prefix = false) ↔ ¬ (2 ≤ s.Prefix.length ∧ s.Prefix.length ≤ 4) ∨ Lib.trimS s.Prefix sCaps ≠ [] := by
        unfold pfxB
        by_cases ht : Lib.trimS s.Prefix sCaps = []
        · simp only [ht, decide_true, Bool.and_true, ne_eq, not_true_eq_false, or_false, Bool.and_eq_false_iff, decide_eq_false_iff_not]
          omega
        · simp [ht]
      by_cases hc : 2 ≤ s.Prefix.length ∧ s.Prefix.length ≤ 4
      · rw [if_neg (by simp only [Bool.not_eq_true', Bool.and_eq_false_iff, decide_eq_false_iff_not]; omega), j2]
        by_cases ht : Lib.trimS s.Prefix sCaps = []
        · have hn : ¬ pfxB s.Prefix = false := fun z => by
            rcases hpf.1 z with z | z
            · exact z hc
            · exact z ht
          rw [if_neg hn, if_neg (by simp [ht])]
        · rw [if_pos (hpf.2 (.inr ht)), if_pos (by simp [ht])]
      · rw [if_pos (by simp only [Bool.not_eq_true', Bool.and_eq_false_iff, decide_eq_false_iff_not]; omega), j2, if_pos (hpf.2 (.inl hc)), if_pos rfl]
  by_cases hi : 0 < i
  · obtain ⟨p, hp, _, _⟩ := idx_lt l (i := i - 1) (by omega) (by omega)
    have hpa : prevOf l i = some p := by unfold prevOf; rw [if_neg (by omega), hp]
    rw [hpa, if_pos hi, w64_in (by omega) (by omega), hp]
    simp only [Option.bind_some]
    rw [j1, leS_ops]
    simp only [decide_eq_true_eq]
  · have hpa : prevOf l i = none := by unfold prevOf; rw [if_pos (by omega)]
    rw [hpa, if_neg hi, j1, if_neg (by simp)]
/-! the models that are drawn -/
theorem len_of {l : List Str} {v : Str} (h : v ∈ l) (hl : l.all (fun x => decide (x.length ≤ 40)) = true) : v.length ≤ 40 := by
  have := List.all_eq_true.1 hl v h
  exact of_decide_eq_true this
theorem RightKinds_k {s : Stm} {K : Int} (hs : SOk s K) (hK : 20 ≤ K) : ∃ m1 m2 s', Stream_RightKinds s = some ((m1, m2), s') ∧ SOk s' (K - 1) ∧ (MB m1 ∧ 0 < m1.Props.length ∧ m1.Props.length ≤ 10) ∧ MB m2 ∧ 0 < m2.Props.length ∧ m2.Props.length ≤ 10 := by
  unfold Stream_RightKinds
  obtain ⟨v2, s2, e2, hv2, q2⟩ := Some_k (s := s) (l := [([65, 66, 67] : Str), ([88, 89] : Str), ([90, 90, 90, 90] : Str)]) hs (by omega) (by simp) (by simp)
  rw [e2]
  simp only [Option.bind_some]
  have hv2l := len_of hv2 (by decide)
  refine ⟨_, _, _, rfl, q2, ⟨by unfold MB; simp, by simp, by simp⟩, ⟨by simp only; omega, by simp, by simp⟩, by simp, by simp⟩
theorem Kinds_k {s : Stm} {K : Int} (hs : SOk s K) (hK : 20 ≤ K) : Gen (Stream_Kinds s) (K - 20) (fun l => (2 ≤ l.length ∧ l.length ≤ 3) ∧ ∀ m ∈ l, MB m) := by
  refine Gen.of ?_
  unfold Stream_Kinds
  obtain ⟨m1, m2, s2, e2, q2, ⟨b1, p1⟩, b2, p2⟩ := RightKinds_k hs hK
  rw [e2]
  simp only [Option.bind_some]
  have ret : ∀ (L : List Int) (n : Int) (l : List Model), (2 ≤ l.length ∧ l.length ≤ 3) → (∀ m ∈ l, MB m) → SOk ⟨L, n⟩ (K - 20) → Ok (some (l, (⟨L, n⟩ : Stm))) (fun r => ((2 ≤ r.1.length ∧ r.1.length ≤ 3) ∧ ∀ m ∈ r.1, MB m) ∧ SOk r.2 (K - 20)) := fun L n l h1 h2 h3 => ⟨_, rfl, ⟨h1, h2⟩, h3⟩
  have two : ∀ {a b : Model}, MB a → MB b → ∀ m ∈ [a, b], MB m := fun ha hb m hm => by
    rcases List.mem_cons.1 hm with rfl | hm
    · exact ha
    · rw [List.mem_singleton] at hm; subst hm; exact hb
  have mSet : ∀ {m : Model} {p : PropType} {x y : Int} {P : List PropType}, MB m → idx P 0 = some p → (∀ q ∈ P, q.Name.length ≤ 100) → P.length ≤ 100 → ∀ (z : PropType), z.Name = p.Name → ∀ q ∈ P.set (0 : Int).toNat z, q.Name.length ≤ 100 := by
    intro m p x y P _ hp hP _ z hz q hq
    rcases List.mem_or_eq_of_mem_set hq with h | h
    · exact hP q h
    · rw [h, hz]; exact hP p (idx_mem hp)
  refine Ok.gen (Flip_k q2 (by omega) (by omega) (by omega)) (fun f s3 _ q3 => ?_)
  dsimp only
  unfold Stream_Kinds_j9 Stream_Kinds_j8 Stream_Kinds_j7 Stream_Kinds_j6 Stream_Kinds_j5 Stream_Kinds_j4 Stream_Kinds_j3 Stream_Kinds_j2 Stream_Kinds_j1
  split
  · refine Ok.gen (Next_k q3 (by omega) (by omega) (by omega)) (fun k s4 hk q4 => ?_)
    dsimp only
    have arm : ∀ (m : Model) (g : Model → List Model) (o : Str → Str → Model), MB m → True := fun _ _ _ _ => trivial
    split
    · refine Ok.gen (Next_k q4 (by omega) (by omega) (by omega)) (fun c s5 hc q5 => ?_)
      dsimp only
      split
      · refine Ok.gen (Some_k q5 (by omega) (by simp) (by simp)) (fun u s6 hu q6 => ?_)
        exact ret _ _ _ (by simp) (two ⟨b1.1, b1.2.1, b1.2.2⟩ b2) (q6.less (by omega))
      · split
        · refine Ok.gen (Some_k q5 (by omega) (by simp) (by simp)) (fun u s6 hu q6 => ?_)
          have hul := len_of hu (by decide)
          exact ret _ _ _ (by simp) (two ⟨by show u.length ≤ 100; omega, b1.2.1, b1.2.2⟩ b2) (q6.less (by omega))
        · split
          · refine Ok.gen (Some_k q5 (by omega) (by simp) (by simp)) (fun u s6 hu q6 => ?_)
            have hul := len_of hu (by decide)
            refine Ok.gen (Odd_k q6 (by omega) (by omega) (by omega) (by omega)) (fun w s7 hw q7 => ?_)
            refine Ok.app (by simp; omega) ?_
            exact ret _ _ _ (by simp) (two ⟨b1.1, by simp; omega, fun p hp => by
              rcases List.mem_append.1 hp with e | e
              · exact b1.2.2 p e
              · rw [List.mem_singleton] at e; subst e; show u.length ≤ 100; omega⟩ b2) (q7.less (by omega))
          · split
            · refine Ok.gen (Odd_k q5 (by omega) (by omega) (by omega) (by omega)) (fun w s7 hw q7 => ?_)
              refine Ok.gen (Odd_k q7 (by omega) (by omega) (by omega) (by omega)) (fun y s8 hy q8 => ?_)
              refine Ok.idx (by omega) (by omega) (fun p hp hpm => ?_)
              have hl1 : (m1.Props.set (0 : Int).toNat (⟨p.Name, p.Kind, w, p.High⟩ : PropType)).length = m1.Props.length := List.length_set
              refine Ok.idx (by omega) (by rw [List.length_set]; omega) (fun p' hp' hpm' => ?_)
              have hs1 := mSet (x := 0) (y := 0) b1 hp b1.2.2 b1.2.1 (⟨p.Name, p.Kind, w, p.High⟩ : PropType) rfl
              have hs2 := mSet (x := 0) (y := 0) b1 hp' hs1 (by rw [hl1]; exact b1.2.1) (⟨p'.Name, p'.Kind, p'.Low, y⟩ : PropType) rfl
              exact ret _ _ _ (by simp) (two ⟨b1.1, by simp only [List.length_set]; exact b1.2.1, hs2⟩ b2) (q8.less (by omega))
            · refine Ok.app (by simp) ?_
              refine ret _ _ _ (by simp) (fun m hm => ?_) (q5.less (by omega))
              rcases List.mem_append.1 hm with e | e
              · exact two b1 b2 m e
              · rw [List.mem_singleton] at e; subst e; unfold MB; simp
    · split
      · refine Ok.gen (Next_k q4 (by omega) (by omega) (by omega)) (fun c s5 hc q5 => ?_)
        dsimp only
        split
        · refine Ok.gen (Some_k q5 (by omega) (by simp) (by simp)) (fun u s6 hu q6 => ?_)
          exact ret _ _ _ (by simp) (two b1 ⟨b2.1, b2.2.1, b2.2.2⟩) (q6.less (by omega))
        · split
          · refine Ok.gen (Some_k q5 (by omega) (by simp) (by simp)) (fun u s6 hu q6 => ?_)
            have hul := len_of hu (by decide)
            exact ret _ _ _ (by simp) (two b1 ⟨by show u.length ≤ 100; omega, b2.2.1, b2.2.2⟩) (q6.less (by omega))
          · split
            · refine Ok.gen (Some_k q5 (by omega) (by simp) (by simp)) (fun u s6 hu q6 => ?_)
              have hul := len_of hu (by decide)
              refine Ok.gen (Odd_k q6 (by omega) (by omega) (by omega) (by omega)) (fun w s7 hw q7 => ?_)
              refine Ok.app (by simp; omega) ?_
              exact ret _ _ _ (by simp) (two b1 ⟨b2.1, by simp; omega, fun p hp => by
                rcases List.mem_append.1 hp with e | e
                · exact b2.2.2 p e
                · rw [List.mem_singleton] at e; subst e; show u.length ≤ 100; omega⟩) (q7.less (by omega))
            · split
              · refine Ok.gen (Odd_k q5 (by omega) (by omega) (by omega) (by omega)) (fun w s7 hw q7 => ?_)
                refine Ok.gen (Odd_k q7 (by omega) (by omega) (by omega) (by omega)) (fun y s8 hy q8 => ?_)
                refine Ok.idx (by omega) (by omega) (fun p hp hpm => ?_)
                have hl1 : (m2.Props.set (0 : Int).toNat (⟨p.Name, p.Kind, w, p.High⟩ : PropType)).length = m2.Props.length := List.length_set
                refine Ok.idx (by omega) (by rw [List.length_set]; omega) (fun p' hp' hpm' => ?_)
                have hs1 := mSet (x := 0) (y := 0) b2 hp b2.2.2 b2.2.1 (⟨p.Name, p.Kind, w, p.High⟩ : PropType) rfl
                have hs2 := mSet (x := 0) (y := 0) b2 hp' hs1 (by rw [hl1]; exact b2.2.1) (⟨p'.Name, p'.Kind, p'.Low, y⟩ : PropType) rfl
                exact ret _ _ _ (by simp) (two b1 ⟨b2.1, by simp only [List.length_set]; exact b2.2.1, hs2⟩) (q8.less (by omega))
              · refine Ok.app (by simp) ?_
                refine ret _ _ _ (by simp) (fun m hm => ?_) (q5.less (by omega))
                rcases List.mem_append.1 hm with e | e
                · exact two b1 b2 m e
                · rw [List.mem_singleton] at e; subst e; unfold MB; simp
      · omega
  · exact ret _ _ _ (by simp) (two b1 b2) (q3.less (by omega))
end Go.Beacon

/- Events: the fault of one event. No program in sight. -/
set_option linter.unusedVariables false
set_option linter.unusedSimpArgs false
namespace Go.Beacon
open Go Go.Eng

abbrev sHex : Str := [48, 49, 50, 51, 52, 53, 54, 55, 56, 57, 97, 98, 99, 100, 101, 102]
def pubB (s : Str) : Bool := (decide (1 ≤ s.length) && decide (s.length ≤ 64)) && decide (Lib.trimS s sHex = [])
theorem isDeviceKey_eq {s : Str} (h : s.length ≤ 1000) : device_isDeviceKey s = some (pubB s) := by
  unfold device_isDeviceKey device_isDeviceKey_j1 pubB
  rw [Out_eq, trimO_eq (by omega) (by decide) (by decide)]
  by_cases c : 1 ≤ s.length ∧ s.length ≤ 64
  · rw [if_pos (by simp only [Bool.not_eq_true', Bool.or_eq_false_iff, decide_eq_false_iff_not]; omega)]
    simp [c.1, c.2]
  · rw [if_neg (by simp only [Bool.not_eq_true', Bool.or_eq_false_iff, decide_eq_false_iff_not]; omega)]
    rw [eq_comm]
    simp
    intro a b; exact absurd ⟨by omega, b⟩ c
theorem publicKey_eq {s : Str} (h : s.length ≤ 1000) : Q_publicKey s = some (pubB s) := by
  unfold Q_publicKey Q_publicKey_j1 pubB
  rw [Qin_eq, trimO_eq (by omega) (by decide) (by decide)]
  by_cases c : 1 ≤ s.length ∧ s.length ≤ 64
  · rw [if_pos (by simp only [Bool.and_eq_true, decide_eq_true_eq]; omega)]
    simp [c.1, c.2]
  · rw [if_neg (by simp only [Bool.and_eq_true, decide_eq_true_eq]; omega)]
    rw [eq_comm]
    simp
    intro a b; exact absurd ⟨by omega, b⟩ c
def verE (v : Version) : Bool := (decide (0 ≤ v.Major) && decide (v.Major ≤ 9999)) && ((decide (0 ≤ v.Minor) && decide (v.Minor ≤ 9999)) && (decide (0 ≤ v.Patch) && decide (v.Patch ≤ 9999)))
theorem versionR_eq (v : Version) : Q_versionRight v = verE v := rfl
theorem notOut (n lo hi : Int) : (!(base_Out n lo hi)) = Q_in n lo hi := by
  rw [Out_eq, Qin_eq, Bool.eq_iff_iff]
  simp
theorem versionE_eq (v : Version) : base_Version v = verE v := by
  unfold base_Version base_Version_j1
  rw [notOut, notOut, notOut]
  rfl

structure EB (x : EventS) : Prop where
  key : x.Key.length ≤ 1000
  val : x.Value.length ≤ 1000
def usedE (x : EventS) : EventS :=
  if x.Kind = 1 then ⟨x.Hub, x.No, x.Clock, x.At, x.Kind, x.Device, x.Model, [], x.Serial, x.Key, [], [], 0, ⟨0, 0, 0⟩⟩
  else if x.Kind = 2 then ⟨x.Hub, x.No, x.Clock, x.At, x.Kind, x.Device, [], x.Tenant, 0, [], [], [], 0, ⟨0, 0, 0⟩⟩
  else if x.Kind = 4 then ⟨x.Hub, x.No, x.Clock, x.At, x.Kind, x.Device, [], [], 0, x.Key, [], [], x.Until, ⟨0, 0, 0⟩⟩
  else if x.Kind = 5 then ⟨x.Hub, x.No, x.Clock, x.At, x.Kind, x.Device, [], [], 0, [], [], [], 0, ⟨x.Firmware.Major, x.Firmware.Minor, x.Firmware.Patch⟩⟩
  else if x.Kind = 6 then ⟨x.Hub, x.No, x.Clock, x.At, x.Kind, x.Device, [], [], 0, [], x.Name, x.Value, 0, ⟨0, 0, 0⟩⟩
  else ⟨x.Hub, x.No, x.Clock, x.At, x.Kind, x.Device, [], [], 0, [], [], [], 0, ⟨0, 0, 0⟩⟩
def hasM (l : List Model) (k : Str) : Int := findI (fun m : Model => decide (m.Key = k)) l 0
def ownE (l : List Model) (x : EventS) : Int :=
  if x.Kind = 1 then (if hasM l x.Model < 0 then 8 else if x.Serial < 1 ∨ 99999999 < x.Serial then 1 else if pubB x.Key = true then 0 else 5)
  else if x.Kind = 2 then (if keyB x.Tenant = true then 0 else 5)
  else if x.Kind = 4 then (if pubB x.Key = true then (if x.Until < x.At ∨ 345686400000 < x.Until then 1 else 0) else 5)
  else if x.Kind = 5 then (if verE x.Firmware = true then 0 else 1)
  else if x.Kind = 6 then (if keyB x.Name = true then (if plnB x.Value = true ∧ x.Value.length ≤ 100 then 0 else 3) else 5)
  else 0
theorem modelE (l : List Model) (k : Str) (hl : l.length ≤ 1000) : device_model l k = some (hasM l k) := by
  unfold device_model
  rw [show slices_IndexFunc_Model_Model l (fun y0 => some (device_model_1x y0 k)) = some (hasM l k) from gIndexFunc_eq l _ (fun m : Model => decide (m.Key = k)) (fun x _ => rfl) (by omega)]
  rfl
theorem modelAtE (l : List Model) (k : Str) (hl : l.length ≤ 1000) : Q_modelAt l k = some (hasM l k) := by
  unfold Q_modelAt
  rw [show slices_IndexFunc_Model_Model l (fun y0 => some (Q_modelAt_1x y0 k)) = some (hasM l k) from gIndexFunc_eq l _ (fun m : Model => decide (m.Key = k)) (fun x _ => rfl) (by omega)]
  rfl
theorem bad_eq (b : Bool) (w e : Int) : device_kindFault_1x b w e = if b = true ∧ e = 0 then w else e := by
  unfold device_kindFault_1x device_kindFault_1x_j1 device_kindFault_1x_j2
  by_cases h : b = true ∧ e = 0
  · rw [if_pos h, if_pos (by simp [h.1, h.2])]
  · rw [if_neg h, if_neg (by simpa using h)]
theorem kindFault_eq (l : List Model) (x : EventS) (hl : l.length ≤ 1000) (hx : EB x) : device_kindFault l x = some (usedE x, ownE l x) := by
  unfold device_kindFault usedE ownE
  by_cases k1 : x.Kind = 1
  · rw [if_pos k1, if_pos k1, if_pos k1, modelE l _ hl]
    simp only [Option.bind_some]
    rw [isDeviceKey_eq hx.key]
    simp only [Option.bind_some]
    unfold device_kindFault_j1
    rw [bad_eq, bad_eq, bad_eq, Out_eq]
    refine congrArg some (Prod.ext rfl ?_)
    dsimp only
    by_cases h1 : hasM l x.Model < 0
    · simp [h1]
    · by_cases h2 : x.Serial < 1 ∨ 99999999 < x.Serial
      · simp [h1, h2]
      · by_cases h3 : pubB x.Key = true
        · simp [h1, h2, h3]
        · simp [h1, h2, h3]
  rw [if_neg k1, if_neg k1, if_neg k1]
  by_cases k2 : x.Kind = 2
  · rw [if_pos k2, if_pos k2, if_pos k2, Key_eq]
    simp only [Option.bind_some]
    unfold device_kindFault_j2 device_kindFault_j1
    rw [bad_eq]
    refine congrArg some (Prod.ext rfl ?_)
    dsimp only
    by_cases h1 : keyB x.Tenant = true
    · simp [h1]
    · simp [h1]
  rw [if_neg k2, if_neg k2, if_neg k2]
  by_cases k4 : x.Kind = 4
  · rw [if_pos k4, if_pos k4, if_pos k4, isDeviceKey_eq hx.key]
    simp only [Option.bind_some]
    unfold device_kindFault_j3 device_kindFault_j2 device_kindFault_j1
    rw [bad_eq, bad_eq, Out_eq]
    refine congrArg some (Prod.ext rfl ?_)
    dsimp only
    by_cases h3 : pubB x.Key = true
    · by_cases h2 : x.Until < x.At ∨ 345686400000 < x.Until
      · simp [h2, h3]
      · simp [h2, h3]
    · simp [h3]
  rw [if_neg k4, if_neg k4, if_neg k4]
  by_cases k5 : x.Kind = 5
  · rw [if_pos k5, if_pos k5, if_pos k5]
    unfold device_kindFault_j4 device_kindFault_j3 device_kindFault_j2 device_kindFault_j1
    rw [bad_eq, versionE_eq]
    refine congrArg some (Prod.ext rfl ?_)
    dsimp only
    by_cases h3 : verE x.Firmware = true
    · simp [h3]
    · simp [h3]
  rw [if_neg k5, if_neg k5, if_neg k5]
  by_cases k6 : x.Kind = 6
  · rw [if_pos k6, if_pos k6, if_pos k6, Key_eq]
    simp only [Option.bind_some]
    unfold device_kindFault_j6 device_kindFault_j5 device_kindFault_j4 device_kindFault_j3 device_kindFault_j2 device_kindFault_j1
    by_cases h1 : (100 : Int) < x.Value.length
    · rw [if_pos h1, bad_eq, bad_eq]
      refine congrArg some (Prod.ext rfl ?_)
      dsimp only
      by_cases h3 : keyB x.Name = true
      · simp [h3]; omega
      · simp [h3]
    · rw [if_neg h1, Plain_eq _ (by have := hx.val; omega)]
      simp only [Option.bind_some]
      rw [bad_eq, bad_eq]
      refine congrArg some (Prod.ext rfl ?_)
      dsimp only
      have h1' : x.Value.length ≤ 100 := by omega
      by_cases h3 : keyB x.Name = true
      · by_cases h4 : plnB x.Value = true
        · simp [h3, h4, h1']
        · simp [h3, h4]
      · simp [h3]
  rw [if_neg k6, if_neg k6, if_neg k6]
  rfl
theorem own_eq (l : List Model) (x : EventS) (hl : l.length ≤ 1000) (hx : EB x) : Q_eventOwn l x = some (ownE l x) := by
  unfold Q_eventOwn ownE
  have q0 : Q_eventOwn_j4 = some 0 := rfl
  by_cases k1 : x.Kind = 1
  · rw [if_pos k1, if_pos k1, modelAtE l _ hl]
    simp only [Option.bind_some]
    by_cases h1 : hasM l x.Model < 0
    · rw [if_pos h1, if_pos h1]
    rw [if_neg h1, if_neg h1, Qin_eq]
    by_cases h2 : x.Serial < 1 ∨ 99999999 < x.Serial
    · rw [if_pos (by simp; omega), if_pos h2]
    rw [if_neg (by simp; omega), if_neg h2, publicKey_eq hx.key]
    simp only [Option.bind_some]
    by_cases h3 : pubB x.Key = true
    · rw [if_neg (by simp [h3]), if_pos h3]; rfl
    · rw [if_pos (by simp [h3]), if_neg h3]
  rw [if_neg k1, if_neg k1]
  by_cases k2 : x.Kind = 2
  · rw [if_pos k2, if_pos k2, QKeyF_eq]
    rfl
  rw [if_neg k2, if_neg k2]
  by_cases k4 : x.Kind = 4
  · rw [if_pos k4, if_pos k4, publicKey_eq hx.key]
    simp only [Option.bind_some]
    by_cases h3 : pubB x.Key = true
    · rw [if_neg (by simp [h3]), if_pos h3, Qin_eq]
      by_cases h2 : x.Until < x.At ∨ 345686400000 < x.Until
      · rw [if_pos (by simp; omega), if_pos h2]
      · rw [if_neg (by simp; omega), if_neg h2]; rfl
    · rw [if_pos (by simp [h3]), if_neg h3]
  rw [if_neg k4, if_neg k4]
  by_cases k5 : x.Kind = 5
  · rw [if_pos k5, if_pos k5, versionR_eq]
    by_cases h3 : verE x.Firmware = true
    · rw [if_neg (by simp [h3]), if_pos h3]; rfl
    · rw [if_pos (by simp [h3]), if_neg h3]
  rw [if_neg k5, if_neg k5]
  by_cases k6 : x.Kind = 6
  · rw [if_pos k6, if_pos k6, QKeyT_eq]
    simp only [Option.bind_some]
    by_cases h3 : keyB x.Name = true
    · rw [if_neg (by simp [h3]), if_pos h3, Qplain_eq _ (by have := hx.val; omega)]
      simp only [Option.bind_some]
      unfold Q_eventOwn_j5
      by_cases h4 : plnB x.Value = true ∧ x.Value.length ≤ 100
      · rw [if_pos h4, if_neg (by simp [h4.1]; omega)]; rfl
      · have h5 : plnB x.Value = false ∨ (100 : Int) < (x.Value.length : Int) := by
          rcases Bool.eq_false_or_eq_true (plnB x.Value) with q | q
          · exact .inr (by have : ¬ x.Value.length ≤ 100 := fun g => h4 ⟨q, g⟩; omega)
          · exact .inl q
        rw [if_neg h4, if_pos (by simp only [Bool.or_eq_true, Bool.not_eq_true', decide_eq_true_eq]; exact h5)]
    · rw [if_pos (by simp [h3]), if_neg h3]
  rw [if_neg k6, if_neg k6]
  rfl

/-! what is not used -/
def flagsE (x : EventS) : List (Str × Bool) := [(([109] : Str), decide (x.Model ≠ ([] : Str))), (([115] : Str), decide (x.Serial ≠ (0 : Int))), (([107] : Str), decide (x.Key ≠ ([] : Str))), (([116] : Str), decide (x.Tenant ≠ ([] : Str))), (([117] : Str), decide (x.Until ≠ (0 : Int))), (([102] : Str), decide (x.Firmware ≠ (⟨(0 : Int), (0 : Int), (0 : Int)⟩ : Version))), (([110] : Str), decide (x.Name ≠ ([] : Str))), (([118] : Str), decide (x.Value ≠ ([] : Str)))]
def badE (u : Str) (e : Str × Bool) : Bool := e.2 && !(decide (0 ≤ Lib.indexByte u (e.1.headD 0)))
theorem badE_b1 (u : Str) (e : Str × Bool) (c : UInt8) (he : e.1 = [c]) : Q_EventFault_b1 u e = some (if badE u e = true then .inr 3 else .inl ()) := by
  unfold Q_EventFault_b1 Q_EventFault_j2 badE strings_Contains
  rw [he]
  show (if e.2 = true then ((some (Lib.indexByte u c)).bind _ |>.bind _) else _) = _
  by_cases h : e.2 = true
  · rw [if_pos h]
    simp only [Option.bind_some, List.headD_cons, h, Bool.true_and]
    by_cases g : 0 ≤ Lib.indexByte u c
    · simp [g]
    · simp [g]
  · rw [if_neg h]
    simp [h]
theorem over_flags (x : EventS) (u : Str) : Q_EventFault_l1 x u = some (if (flagsE x).any (badE u) = true then 3 else 0) := by
  unfold Q_EventFault_l1
  show overP (flagsE x) _ = _
  have hs : ∀ e ∈ flagsE x, ∃ c, e.1 = [c] := by
    intro e he
    simp only [flagsE, List.mem_cons, List.not_mem_nil, or_false] at he
    rcases he with rfl | rfl | rfl | rfl | rfl | rfl | rfl | rfl <;> exact ⟨_, rfl⟩
  refine overP_inv (fun e (_ : Unit) => Q_EventFault_b1 u e) (fun _ : Unit => Q_EventFault_f1) (flagsE x) () _ (fun done _ => done.any (badE u) = false) rfl ?_ ?_
  · intro done e rest s hp hi
    have he : e ∈ flagsE x := hp.mem_iff.1 (by simp)
    obtain ⟨c, hc⟩ := hs e he
    rw [badE_b1 u e c hc]
    by_cases h : badE u e = true
    · right
      rw [if_pos h, if_pos (List.any_eq_true.2 ⟨e, he, h⟩)]
    · left
      rw [if_neg h]
      refine ⟨(), rfl, ?_⟩
      rw [List.any_append, hi]
      simpa using h
  · intro p s hp hi
    have : (flagsE x).any (badE u) = false := by
      rw [← hi, Bool.eq_iff_iff, List.any_eq_true, List.any_eq_true]
      exact ⟨fun ⟨e, h1, h2⟩ => ⟨e, hp.mem_iff.2 h1, h2⟩, fun ⟨e, h1, h2⟩ => ⟨e, hp.mem_iff.1 h1, h2⟩⟩
    rw [this]
    rfl
theorem uses_eq (x : EventS) (h1 : 1 ≤ x.Kind) (h2 : x.Kind ≤ 9) : ∃ u, Q_eventUses x.Kind = some u ∧ ((flagsE x).any (badE u) = true ↔ usedE x ≠ x) := by
  have hk : x.Kind = 1 ∨ x.Kind = 2 ∨ x.Kind = 3 ∨ x.Kind = 4 ∨ x.Kind = 5 ∨ x.Kind = 6 ∨ x.Kind = 7 ∨ x.Kind = 8 ∨ x.Kind = 9 := by omega
  obtain ⟨a1, a2, a3, a4, a5, a6, a7, a8, a9, a10, a11, a12, a13, a14⟩ := x
  dsimp only at hk
  have t1 : ∀ c : UInt8, Lib.indexByte ([] : Str) c = -1 := fun c => rfl
  rcases hk with rfl | rfl | rfl | rfl | rfl | rfl | rfl | rfl | rfl
  · refine ⟨([109, 115, 107] : Str), rfl, ?_⟩
    simp only [flagsE, badE, usedE, List.any_cons, List.any_nil, List.headD_cons, show Lib.indexByte ([109, 115, 107] : Str) 109 = 0 by decide, show Lib.indexByte ([109, 115, 107] : Str) 115 = 1 by decide, show Lib.indexByte ([109, 115, 107] : Str) 107 = 2 by decide, show Lib.indexByte ([109, 115, 107] : Str) 116 = -1 by decide, show Lib.indexByte ([109, 115, 107] : Str) 117 = -1 by decide, show Lib.indexByte ([109, 115, 107] : Str) 102 = -1 by decide, show Lib.indexByte ([109, 115, 107] : Str) 110 = -1 by decide, show Lib.indexByte ([109, 115, 107] : Str) 118 = -1 by decide]
    simp [EventS.mk.injEq]
    try grind
  · refine ⟨([116] : Str), rfl, ?_⟩
    simp only [flagsE, badE, usedE, List.any_cons, List.any_nil, List.headD_cons, show Lib.indexByte ([116] : Str) 109 = -1 by decide, show Lib.indexByte ([116] : Str) 115 = -1 by decide, show Lib.indexByte ([116] : Str) 107 = -1 by decide, show Lib.indexByte ([116] : Str) 116 = 0 by decide, show Lib.indexByte ([116] : Str) 117 = -1 by decide, show Lib.indexByte ([116] : Str) 102 = -1 by decide, show Lib.indexByte ([116] : Str) 110 = -1 by decide, show Lib.indexByte ([116] : Str) 118 = -1 by decide]
    simp [EventS.mk.injEq]
    try grind
  · refine ⟨([] : Str), rfl, ?_⟩
    simp only [flagsE, badE, usedE, List.any_cons, List.any_nil, List.headD_cons, show Lib.indexByte ([] : Str) 109 = -1 by decide, show Lib.indexByte ([] : Str) 115 = -1 by decide, show Lib.indexByte ([] : Str) 107 = -1 by decide, show Lib.indexByte ([] : Str) 116 = -1 by decide, show Lib.indexByte ([] : Str) 117 = -1 by decide, show Lib.indexByte ([] : Str) 102 = -1 by decide, show Lib.indexByte ([] : Str) 110 = -1 by decide, show Lib.indexByte ([] : Str) 118 = -1 by decide]
    simp [EventS.mk.injEq]
    try grind
  · refine ⟨([107, 117] : Str), rfl, ?_⟩
    simp only [flagsE, badE, usedE, List.any_cons, List.any_nil, List.headD_cons, show Lib.indexByte ([107, 117] : Str) 109 = -1 by decide, show Lib.indexByte ([107, 117] : Str) 115 = -1 by decide, show Lib.indexByte ([107, 117] : Str) 107 = 0 by decide, show Lib.indexByte ([107, 117] : Str) 116 = -1 by decide, show Lib.indexByte ([107, 117] : Str) 117 = 1 by decide, show Lib.indexByte ([107, 117] : Str) 102 = -1 by decide, show Lib.indexByte ([107, 117] : Str) 110 = -1 by decide, show Lib.indexByte ([107, 117] : Str) 118 = -1 by decide]
    simp [EventS.mk.injEq]
    try grind
  · refine ⟨([102] : Str), rfl, ?_⟩
    simp only [flagsE, badE, usedE, List.any_cons, List.any_nil, List.headD_cons, show Lib.indexByte ([102] : Str) 109 = -1 by decide, show Lib.indexByte ([102] : Str) 115 = -1 by decide, show Lib.indexByte ([102] : Str) 107 = -1 by decide, show Lib.indexByte ([102] : Str) 116 = -1 by decide, show Lib.indexByte ([102] : Str) 117 = -1 by decide, show Lib.indexByte ([102] : Str) 102 = 0 by decide, show Lib.indexByte ([102] : Str) 110 = -1 by decide, show Lib.indexByte ([102] : Str) 118 = -1 by decide]
    simp [EventS.mk.injEq]
    try grind
  · refine ⟨([110, 118] : Str), rfl, ?_⟩
    simp only [flagsE, badE, usedE, List.any_cons, List.any_nil, List.headD_cons, show Lib.indexByte ([110, 118] : Str) 109 = -1 by decide, show Lib.indexByte ([110, 118] : Str) 115 = -1 by decide, show Lib.indexByte ([110, 118] : Str) 107 = -1 by decide, show Lib.indexByte ([110, 118] : Str) 116 = -1 by decide, show Lib.indexByte ([110, 118] : Str) 117 = -1 by decide, show Lib.indexByte ([110, 118] : Str) 102 = -1 by decide, show Lib.indexByte ([110, 118] : Str) 110 = 0 by decide, show Lib.indexByte ([110, 118] : Str) 118 = 1 by decide]
    simp [EventS.mk.injEq]
    try grind
  · refine ⟨([] : Str), rfl, ?_⟩
    simp only [flagsE, badE, usedE, List.any_cons, List.any_nil, List.headD_cons, show Lib.indexByte ([] : Str) 109 = -1 by decide, show Lib.indexByte ([] : Str) 115 = -1 by decide, show Lib.indexByte ([] : Str) 107 = -1 by decide, show Lib.indexByte ([] : Str) 116 = -1 by decide, show Lib.indexByte ([] : Str) 117 = -1 by decide, show Lib.indexByte ([] : Str) 102 = -1 by decide, show Lib.indexByte ([] : Str) 110 = -1 by decide, show Lib.indexByte ([] : Str) 118 = -1 by decide]
    simp [EventS.mk.injEq]
    try grind
  · refine ⟨([] : Str), rfl, ?_⟩
    simp only [flagsE, badE, usedE, List.any_cons, List.any_nil, List.headD_cons, show Lib.indexByte ([] : Str) 109 = -1 by decide, show Lib.indexByte ([] : Str) 115 = -1 by decide, show Lib.indexByte ([] : Str) 107 = -1 by decide, show Lib.indexByte ([] : Str) 116 = -1 by decide, show Lib.indexByte ([] : Str) 117 = -1 by decide, show Lib.indexByte ([] : Str) 102 = -1 by decide, show Lib.indexByte ([] : Str) 110 = -1 by decide, show Lib.indexByte ([] : Str) 118 = -1 by decide]
    simp [EventS.mk.injEq]
    try grind
  · refine ⟨([] : Str), rfl, ?_⟩
    simp only [flagsE, badE, usedE, List.any_cons, List.any_nil, List.headD_cons, show Lib.indexByte ([] : Str) 109 = -1 by decide, show Lib.indexByte ([] : Str) 115 = -1 by decide, show Lib.indexByte ([] : Str) 107 = -1 by decide, show Lib.indexByte ([] : Str) 116 = -1 by decide, show Lib.indexByte ([] : Str) 117 = -1 by decide, show Lib.indexByte ([] : Str) 102 = -1 by decide, show Lib.indexByte ([] : Str) 110 = -1 by decide, show Lib.indexByte ([] : Str) 118 = -1 by decide]
    simp [EventS.mk.injEq]
    try grind

def evF (l : List Model) (x : EventS) : Int :=
  if keyB x.Hub = false then 5
  else if (x.No < 1 ∨ 3000 < x.No) ∨ (x.Clock < x.No ∨ 1000000000 < x.Clock) ∨ (x.At < 0 ∨ 345686399999 < x.At) then 1
  else if x.Kind < 1 ∨ 9 < x.Kind then 4
  else if keyB x.Device = false then 5
  else if ownE l x ≠ 0 then ownE l x
  else if usedE x ≠ x then 3 else 0
theorem eventFault_eq (l : List Model) (x : EventS) (hl : l.length ≤ 1000) (hx : EB x) : device_eventFault l x = some (evF l x) := by
  unfold device_eventFault evF
  rw [Key_eq]
  simp only [Option.bind_some]
  by_cases h1 : keyB x.Hub = false
  · rw [if_pos (by simp [h1]), if_pos h1]
  rw [if_neg (by simpa using h1), if_neg h1]
  unfold device_eventFault_j1
  rw [Out_eq, Out_eq, Moment_eq]
  by_cases h2 : (x.No < 1 ∨ 3000 < x.No) ∨ (x.Clock < x.No ∨ 1000000000 < x.Clock) ∨ (x.At < 0 ∨ 345686399999 < x.At)
  · rw [if_pos (by simp only [Bool.or_eq_true, Bool.not_eq_true', Bool.and_eq_false_iff, decide_eq_true_eq, decide_eq_false_iff_not]; omega), if_pos h2]
  rw [if_neg (by simp only [Bool.or_eq_true, Bool.not_eq_true', Bool.and_eq_false_iff, decide_eq_true_eq, decide_eq_false_iff_not]; omega), if_neg h2, Out_eq]
  by_cases h3 : x.Kind < 1 ∨ 9 < x.Kind
  · rw [if_pos (by simpa using h3), if_pos h3]
  rw [if_neg (by simpa using h3), if_neg h3, Key_eq]
  simp only [Option.bind_some]
  by_cases h4 : keyB x.Device = false
  · rw [if_pos (by simp [h4]), if_pos h4]
  rw [if_neg (by simpa using h4), if_neg h4, kindFault_eq l x hl hx]
  simp only [Option.bind_some]
  unfold device_eventFault_j2 device_eventFault_j3
  by_cases h5 : ownE l x = 0
  · rw [if_neg (show ¬ ownE l x ≠ 0 from fun g => g h5)]
    by_cases h6 : usedE x = x
    · rw [if_neg (show ¬ usedE x ≠ x from fun g => g h6), if_neg (by simp [h6]), h5]
    · rw [if_pos (show usedE x ≠ x from h6), if_pos (by simp [h5, h6])]
  · rw [if_pos (show ownE l x ≠ 0 from h5), if_neg (by simp [h5])]
theorem EventFault_eq (l : List Model) (x : EventS) (hl : l.length ≤ 1000) (hx : EB x) : Q_EventFault l x = some (evF l x) := by
  unfold Q_EventFault evF
  rw [QKeyT_eq]
  simp only [Option.bind_some]
  by_cases h1 : keyB x.Hub = false
  · rw [if_pos (by simp [h1]), if_pos h1]
  rw [if_neg (by simpa using h1), if_neg h1]
  unfold Q_EventFault_j1
  rw [Qin_eq, Qin_eq, QMomentF_eq]
  by_cases h2 : (x.No < 1 ∨ 3000 < x.No) ∨ (x.Clock < x.No ∨ 1000000000 < x.Clock) ∨ (x.At < 0 ∨ 345686399999 < x.At)
  · rw [if_pos h2, if_pos]
    simp only [Bool.or_eq_true, Bool.not_eq_true', Bool.and_eq_false_iff, decide_eq_true_eq, decide_eq_false_iff_not]
    rcases h2 with h | h | h
    · exact .inl (by omega)
    · exact .inr (.inl (by omega))
    · exact .inr (.inr (by rw [if_neg (by omega)]; decide))
  have h2' : (1 ≤ x.No ∧ x.No ≤ 3000) ∧ (x.No ≤ x.Clock ∧ x.Clock ≤ 1000000000) ∧ (0 ≤ x.At ∧ x.At ≤ 345686399999) := by omega
  rw [if_neg h2, if_neg (by rw [if_pos h2'.2.2]; simp [h2'.1, h2'.2.1]), Qin_eq]
  by_cases h3 : x.Kind < 1 ∨ 9 < x.Kind
  · rw [if_pos (by simp only [Bool.not_eq_true', Bool.and_eq_false_iff, decide_eq_false_iff_not]; omega), if_pos h3]
  rw [if_neg (by simp only [Bool.not_eq_true', Bool.and_eq_false_iff, decide_eq_false_iff_not]; omega), if_neg h3, QKeyT_eq]
  simp only [Option.bind_some]
  by_cases h4 : keyB x.Device = false
  · rw [if_pos (by simp [h4]), if_pos h4]
  rw [if_neg (by simpa using h4), if_neg h4, own_eq l x hl hx]
  simp only [Option.bind_some]
  by_cases h5 : ownE l x = 0
  · rw [if_neg (by simp [h5]), if_neg (by simp [h5])]
    obtain ⟨u, u1, u2⟩ := uses_eq x (by omega) (by omega)
    rw [u1]
    simp only [Option.bind_some]
    rw [over_flags]
    by_cases h6 : usedE x = x
    · rw [if_neg (by rw [u2]; simp [h6]), if_neg (by simp [h6])]
    · rw [if_pos (u2.2 h6), if_pos h6]
  · rw [if_pos h5, if_pos h5]
theorem evF_zero {l : List Model} {x : EventS} (h : evF l x = 0) : keyB x.Hub = true ∧ 1 ≤ x.No ∧ x.No ≤ 3000 ∧ x.No ≤ x.Clock := by
  unfold evF at h
  by_cases h1 : keyB x.Hub = false
  · rw [if_pos h1] at h; exact absurd h (by decide)
  rw [if_neg h1] at h
  by_cases h2 : (x.No < 1 ∨ 3000 < x.No) ∨ (x.Clock < x.No ∨ 1000000000 < x.Clock) ∨ (x.At < 0 ∨ 345686399999 < x.At)
  · rw [if_pos h2] at h; exact absurd h (by decide)
  exact ⟨by simpa using h1, by omega⟩
end Go.Beacon

/- Loops over lists: folds, invariants. No program in sight. -/
set_option linter.unusedVariables false
set_option linter.unusedSimpArgs false
namespace Go.Beacon
open Go Go.Eng
/-- A loop over a list that never ends early: a fold. -/
theorem iter_foldl {α σ A X : Type} (xs : List α) (mk : σ → Int → X) (f : X → Option (X ⊕ A)) (stp : σ → α → σ) (Inv : Int → σ → Prop) (E : σ → Option A)
    (h1 : ∀ s (i : Int) x, 0 ≤ i → i < xs.length → idx xs i = some x → Inv i s → f (mk s i) = some (.inl (mk (stp s x) (i + 1))) ∧ Inv (i + 1) (stp s x))
    (h2 : ∀ s, Inv xs.length s → f (mk s xs.length) = Option.map .inr (E s)) (s : σ) (h0 : Inv 0 s) : iter f (mk s 0) = E (xs.foldl stp s) := by
  have key : ∀ (n : Nat) (s : σ) (i : Int), 0 ≤ i → i + n = xs.length → Inv i s → iter f (mk s i) = E ((xs.drop i.toNat).foldl stp s) := by
    intro n
    induction n with
    | zero =>
      intro s i hi hn hv
      have : i = xs.length := by omega
      subst this
      rw [iter_eq, h2 s hv, map_inr_after]
      simp
    | succ n ih =>
      intro s i hi hn hv
      obtain ⟨x, hx, _, hd⟩ := idx_lt xs hi (by omega)
      obtain ⟨e1, e2⟩ := h1 s i x hi (by omega) hx hv
      rw [iter_eq, e1]
      simp only [Option.bind_some, after_inl]
      rw [ih _ _ (by omega) (by omega) e2, hd]
      rfl
  have := key xs.length s 0 (by omega) (by omega) h0
  simpa using this
theorem foldl_filter {α : Type} (p : α → Bool) : ∀ (xs acc : List α), xs.foldl (fun acc x => if p x = true then acc ++ [x] else acc) acc = acc ++ xs.filter p
  | [], acc => by simp
  | x :: r, acc => by
    rw [List.foldl_cons, foldl_filter p r, List.filter_cons]
    cases p x <;> simp
theorem foldl_map {α β : Type} (g : α → β) : ∀ (xs : List α) (acc : List β), xs.foldl (fun acc x => acc ++ [g x]) acc = acc ++ xs.map g
  | [], acc => by simp
  | x :: r, acc => by rw [List.foldl_cons, foldl_map g r]; simp

theorem take_succ {α : Type} {xs : List α} {i : Int} {x : α} (h0 : 0 ≤ i) (h : idx xs i = some x) : xs.take (i + 1).toNat = xs.take i.toNat ++ [x] := by
  obtain ⟨_, h1, h2⟩ := idx_some h
  rw [show (i + 1).toNat = i.toNat + 1 by omega, List.take_add_one, h2]; rfl
theorem Ok.rangeS {σ A X : Type} {f : X → Option (X ⊕ A)} {R : A → Prop} (N : Nat) (mk : σ → Int → X) (Inv : Int → σ → Prop)
    (h : ∀ s (i : Int), 0 ≤ i → i ≤ N → Inv i s → Ok (f (mk s i)) (fun r => (∃ s', r = .inl (mk s' (i + 1)) ∧ i < N ∧ Inv (i + 1) s') ∨ ∃ a, r = .inr a ∧ R a)) (s : σ) (h0 : Inv 0 s) : Ok (Eng.iter f (mk s 0)) R := by
  have key : ∀ (k : Nat) (s : σ) (i : Int), 0 ≤ i → i ≤ N → i + k = N + 1 → Inv i s → Ok (Eng.iter f (mk s i)) R := by
    intro k
    induction k with
    | zero =>
      intro s i hi hN hk hv
      omega
    | succ k ih =>
      intro s i hi hN hk hv
      obtain ⟨r, h1, h2⟩ := h s i hi hN hv
      rw [iter_eq, h1]
      rcases h2 with ⟨s', rfl, h3, h4⟩ | ⟨a, rfl, h3⟩
      · simp only [Option.bind_some, after_inl]
        exact ih s' (i + 1) (by omega) (by omega) (by omega) h4
      · exact ⟨a, rfl, h3⟩
  exact key (N + 1) s 0 (by omega) (by omega) (by omega) h0
end Go.Beacon

/- Events: lists of them, learning, merging. No program in sight. -/
set_option linter.unusedVariables false
set_option linter.unusedSimpArgs false
namespace Go.Beacon
open Go Go.Eng

theorem iter_go {S A : Type} {f : S → Option (S ⊕ A)} {s s' : S} (h : f s = some (.inl s')) : iter f s = iter f s' := by
  rw [iter_eq, h]; rfl
theorem iter_end {S A : Type} {f : S → Option (S ⊕ A)} {s : S} {o : Option A} (h : f s = Option.map .inr o) : iter f s = o := by
  rw [iter_eq, h]
  cases o <;> rfl
abbrev EL (l : List EventS) : Prop := ∀ x ∈ l, EB x
def eO (a b : EventS) : Int := if cmpI a.Clock b.Clock ≠ 0 then cmpI a.Clock b.Clock else if Lib.compareBytes a.Hub b.Hub ≠ 0 then Lib.compareBytes a.Hub b.Hub else cmpI a.No b.No
theorem eO_3 : Cmp3 eO := Cmp3.lex (cmpI_3.on EventS.Clock) (Cmp3.lex (cmpB_3.on EventS.Hub) (cmpI_3.on EventS.No))
theorem byClock_eq (a b : EventS) : device_byClock a b = some (eO a b) := by
  unfold device_byClock
  rw [show cmp_Or_int [(cmp_Compare_int a.Clock b.Clock), (Lib.compareBytes a.Hub b.Hub), (cmp_Compare_int a.No b.No)] = some (orL [(cmp_Compare_int a.Clock b.Clock), (Lib.compareBytes a.Hub b.Hub), (cmp_Compare_int a.No b.No)]) from gOr_eq _ (by simp)]
  rw [CompareI_eq, CompareI_eq]
  simp only [Option.bind_some]
  unfold eO
  show some (if _ ≠ 0 then _ else if _ ≠ 0 then _ else if _ ≠ 0 then _ else 0) = _
  by_cases h : cmpI a.No b.No ≠ 0
  · rw [if_pos h]
  · rw [if_neg h, Decidable.not_not.1 h]
theorem Order_eq (a b : EventS) : Q_EventOrder a b = some (eO a b) := byClock_eq a b

/-! lists -/
theorem listFault_eq (l : List Model) (hl : l.length ≤ 1000) (e : List EventS) (he : EL e) : device_listFault l e = Q_EventsFault l e := by
  unfold device_listFault Q_EventsFault
  by_cases h : (3000 : Int) < e.length
  · rw [if_pos h, if_pos h]
  rw [if_neg h, if_neg h]
  unfold device_listFault_l1 Q_EventsFault_l1
  refine iter_same (fun s => ?_) _
  show device_listFault_b1 l e s.1 s.2 = Q_EventsFault_b1 l e s.1 s.2
  unfold device_listFault_b1 Q_EventsFault_b1
  by_cases h1 : s.2 < e.length
  · rw [if_pos h1, if_pos h1]
    cases hx : idx e s.2 with
    | none => rfl
    | some x =>
      simp only [Option.bind_some]
      have hb := he x (idx_mem hx)
      rw [eventFault_eq l x hl hb, EventFault_eq l x hl hb]
      rfl
  · rw [if_neg h1, if_neg h1]
    rfl
structure LG (l : List Model) (e : List EventS) : Prop where
  len : e.length ≤ 3000
  ok : ∀ x ∈ e, evF l x = 0
  up : e.Pairwise (fun a b => a.Hub = b.Hub → a.No < b.No)
structure LI (l : List Model) (e : List EventS) (i : Int) (m : List (Str × Int)) : Prop where
  ok : ∀ x ∈ e.take i.toNat, evF l x = 0
  up : (e.take i.toNat).Pairwise (fun a b => a.Hub = b.Hub → a.No < b.No)
  last : ∀ x ∈ e.take i.toNat, ∃ n, mget? m x.Hub = some n ∧ x.No ≤ n
  rng : ∀ h n, mget? m h = some n → 0 ≤ n ∧ n ≤ 3000
theorem listFault_j (l : List Model) (e : List EventS) (x : EventS) (m : List (Str × Int)) (i : Int) (hi : 0 ≤ i) (h2 : i < e.length) (hl : e.length ≤ 3000) (hx : idx e i = some x) (h0 : evF l x = 0) (hI : LI l e i m) (c : Bool) :
    Ok (device_listFault_j1 m i x c) (fun r => (∃ s' : List (Str × Int), r = .inl (s', i + 1) ∧ i < (e.length : Int) ∧ LI l e (i + 1) s') ∨ ∃ a, r = .inr a ∧ (a = 0 → LG l e)) := by
  unfold device_listFault_j1
  cases c with
  | true =>
    rw [if_pos rfl]
    exact ⟨.inr 7, rfl, .inr ⟨7, rfl, fun h => absurd h (by decide)⟩⟩
  | false =>
    rw [if_neg (by simp)]
    unfold mgetO
    simp only [Option.bind_some]
    have hr : 0 ≤ (mget? m x.Hub).getD 0 ∧ (mget? m x.Hub).getD 0 ≤ 3000 := by
      cases hg : mget? m x.Hub with
      | none => simp
      | some n => exact hI.rng _ _ hg
    rw [w64_in (by omega) (by omega), w64_in (by omega) (by omega)]
    by_cases c : x.No ≠ (mget? m x.Hub).getD 0 + 1
    · rw [if_pos c]
      exact ⟨.inr 16, rfl, .inr ⟨16, rfl, fun h => absurd h (by decide)⟩⟩
    · rw [if_neg c]
      have c' : x.No = (mget? m x.Hub).getD 0 + 1 := Decidable.not_not.1 c
      have hz := evF_zero h0
      have ht := take_succ hi hx
      refine ⟨_, rfl, .inl ⟨_, rfl, h2, ?_⟩⟩
      constructor
      · intro y hy
        rw [ht, List.mem_append, List.mem_singleton] at hy
        rcases hy with hy | rfl
        · exact hI.ok y hy
        · exact h0
      · rw [ht, List.pairwise_append]
        refine ⟨hI.up, List.pairwise_singleton _ _, fun a ha b hb hab => ?_⟩
        rw [List.mem_singleton] at hb
        subst hb
        obtain ⟨n, n1, n2⟩ := hI.last a ha
        rw [hab] at n1
        rw [n1] at c'
        simp only [Option.getD_some] at c'
        omega
      · intro y hy
        rw [ht, List.mem_append, List.mem_singleton] at hy
        rw [mget_mset]
        by_cases hh : x.Hub = y.Hub
        · rw [if_pos hh]
          refine ⟨_, rfl, ?_⟩
          rcases hy with hy | rfl
          · obtain ⟨n, n1, n2⟩ := hI.last y hy
            rw [← hh] at n1
            rw [n1] at c'
            simp only [Option.getD_some] at c'
            omega
          · omega
        · rw [if_neg hh]
          rcases hy with hy | rfl
          · exact hI.last y hy
          · exact absurd rfl hh
      · intro h n hn
        rw [mget_mset] at hn
        by_cases hh : x.Hub = h
        · rw [if_pos hh, Option.some.injEq] at hn
          omega
        · rw [if_neg hh] at hn
          exact hI.rng h n hn
theorem listFault_ok (l : List Model) (hl : l.length ≤ 1000) (e : List EventS) (he : EL e) : Ok (device_listFault l e) (fun r => r = 0 → LG l e) := by
  unfold device_listFault
  by_cases h : (3000 : Int) < e.length
  · rw [if_pos h]
    exact ⟨2, rfl, fun g => absurd g (by decide)⟩
  rw [if_neg h]
  unfold device_listFault_l1
  refine Ok.rangeS e.length (fun (m : List (Str × Int)) (i : Int) => (m, i)) (LI l e) (fun m i h0 h1 hI => ?_) [] ⟨by simp, by simp, by simp, fun h n hn => by cases hn⟩
  show Ok (device_listFault_b1 l e m i) _
  unfold device_listFault_b1
  by_cases h2 : i < e.length
  · rw [if_pos h2]
    refine Ok.idx h0 h2 (fun x hx hm => ?_)
    rw [eventFault_eq l x hl (he x hm)]
    simp only [Option.bind_some]
    by_cases h3 : evF l x = 0
    · rw [if_neg (fun g => g h3)]
      by_cases h4 : 0 < i
      · rw [if_pos h4, w64_in (by omega) (by omega)]
        refine Ok.idx (by omega) (by omega) (fun y hy _ => ?_)
        rw [byClock_eq]
        simp only [Option.bind_some]
        exact listFault_j l e x m i h0 h2 (by omega) hx h3 hI _
      · rw [if_neg h4]
        exact listFault_j l e x m i h0 h2 (by omega) hx h3 hI _
    · rw [if_pos h3]
      exact ⟨.inr (evF l x), rfl, .inr ⟨_, rfl, fun g => absurd g h3⟩⟩
  · rw [if_neg h2]
    have hie : i = e.length := by omega
    unfold device_listFault_k2
    have hG : LG l e := by
      have h1 := hI.ok
      have h2 := hI.up
      rw [List.take_of_length_le (by omega)] at h1 h2
      exact ⟨by omega, h1, h2⟩
    by_cases h3 : (20 : Int) < m.length
    · rw [if_pos h3]
      exact ⟨.inr 2, rfl, .inr ⟨_, rfl, fun _ => hG⟩⟩
    · rw [if_neg h3]
      exact ⟨.inr 0, rfl, .inr ⟨_, rfl, fun _ => hG⟩⟩

/-! sorted -/
theorem sort_dev (O : List EventS) (h : O.length ≤ 100000) : ∃ Z, lenOk O.length (fun r : List EventS => r.length) (slices_SortFunc_Event_Event O (fun y0 y1 => device_byClock y0 y1)) = some Z ∧ Z.Perm O := by
  obtain ⟨Z, z1, z2, z3⟩ := sortO_eq (fun y0 y1 => device_byClock y0 y1) eO O h (fun a _ b _ => byClock_eq a b) (eO_3.ord O)
  exact ⟨Z, len_ok z1 z2.length_eq, z2⟩
theorem k2_eq (l : List Model) (hl : l.length ≤ 1000) (O : List EventS) (hO : EL O) (hn : O.length ≤ 100000) : device_Learn_k1 l O = Q_LearnOf_k2 l O ∧ ∃ r : List EventS × Int, Q_LearnOf_k2 l O = some r ∧ r.1.length ≤ 3000 := by
  obtain ⟨Z, z1, z2⟩ := sort_dev O hn
  have z3 : lenOk O.length (fun r : List EventS => r.length) (slices_SortFunc_Event_Event O (fun y0 y1 => Q_EventOrder y0 y1)) = some Z := z1
  have hZ : EL Z := fun x hx => hO x (z2.mem_iff.1 hx)
  unfold device_Learn_k1 device_sorted Q_LearnOf_k2
  rw [z1, z3]
  simp only [Option.bind_some]
  obtain ⟨r, r1, r2⟩ := listFault_ok l hl Z hZ
  rw [← listFault_eq l hl Z hZ, r1]
  simp only [Option.bind_some]
  by_cases h : r = 0
  · rw [if_neg (fun g => g h)]
    exact ⟨rfl, _, rfl, (r2 h).len⟩
  · rw [if_pos h]
    exact ⟨rfl, _, rfl, by simp⟩

/-! what is there -/
def plE (x : EventS) : Device_place := ⟨x.Hub, x.No⟩
def sameP (x y : EventS) : Bool := decide (y.Hub = x.Hub) && decide (y.No = x.No)
def PM (M : List (Device_place × EventS)) (O : List EventS) : Prop := ∀ x : EventS, mget? M (plE x) = O.find? (sameP x)
theorem sameP_iff {x y : EventS} : sameP x y = true ↔ plE y = plE x := by
  unfold sameP plE
  simp [Device_place.mk.injEq]
theorem PM.nil : PM [] [] := fun x => rfl
theorem PM.snoc {M : List (Device_place × EventS)} {O : List EventS} (h : PM M O) {x : EventS} (hx : O.find? (sameP x) = none) : PM (mset M (plE x) x) (O ++ [x]) := by
  intro y
  rw [mget_mset, List.find?_append]
  by_cases c : plE x = plE y
  · have hs : sameP y = sameP x := by
      funext z
      rw [Bool.eq_iff_iff, sameP_iff, sameP_iff, c]
    rw [if_pos c, hs, hx]
    simp only [Option.none_or]
    rw [List.find?_cons, sameP_iff.2 rfl]
  · rw [if_neg c, h y]
    have : sameP y x = false := by
      rw [Bool.eq_false_iff]
      intro g
      exact c (sameP_iff.1 g)
    rw [List.find?_cons, this, List.find?_nil, Option.or_none]
theorem IndexE (O : List EventS) (x : EventS) (h : O.length ≤ 100000) : slices_IndexFunc_Event_Event O (fun y0 => some (Q_LearnOf_1x y0 x)) = some (findI (sameP x) O 0) :=
  gIndexFunc_eq O _ (sameP x) (fun y _ => rfl) (by omega)
end Go.Beacon

/- The law PropsChecked. No program in sight. -/
set_option linter.unusedVariables false
set_option linter.unusedSimpArgs false
namespace Go.Beacon
open Go Go.Eng

theorem findI_findP {α : Type} (p : α → Bool) (xs : List α) : (findI p xs 0 < 0 ∧ xs.find? p = none) ∨ ∃ y, 0 ≤ findI p xs 0 ∧ idx xs (findI p xs 0) = some y ∧ xs.find? p = some y := by
  rcases findI_first p xs 0 (by omega) with ⟨e1, e2⟩ | ⟨e1, e2, e3, y, e4, e5⟩
  · exact .inl ⟨by omega, List.find?_eq_none.2 fun x hx => by rw [e2 x hx]; simp⟩
  · right
    refine ⟨y, e1, ?_, ?_⟩
    · unfold idx
      rw [if_pos e1]
      simpa using e4
    · generalize findI p xs 0 = k at e1 e2 e3 e4
      rw [show (k - 0).toNat = k.toNat by simp] at e3 e4
      obtain ⟨h, e4'⟩ := List.getElem?_eq_some_iff.1 e4
      conv => lhs; rw [← List.take_append_drop k.toNat xs]
      rw [List.find?_append, List.find?_eq_none.2 (fun x hx => by rw [e3 x hx]; simp), List.drop_eq_getElem_cons h, e4']
      simp [e5]
/-! properties -/
/-! the properties that are drawn -/
/-! the package is there -/
theorem checkOf_7 : device_checkOf ([65, 66, 48, 48, 48, 48, 48, 48, 48, 55] : Str) = some 77 := by
  unfold device_checkOf device_checkOf_l1
  have st : ∀ (a b c e : Int), device_checkOf_b1 ([65, 66, 48, 48, 48, 48, 48, 48, 48, 55] : Str) a b = some (.inl (c, e)) → iter (fun x : Int × Int => device_checkOf_b1 ([65, 66, 48, 48, 48, 48, 48, 48, 48, 55] : Str) x.1 x.2) (a, b) = iter (fun x : Int × Int => device_checkOf_b1 ([65, 66, 48, 48, 48, 48, 48, 48, 48, 55] : Str) x.1 x.2) (c, e) := by
    intro a b c e h
    rw [iter_eq]
    show (device_checkOf_b1 _ a b).bind _ = _
    rw [h]; rfl
  rw [st 0 0 20 1 (by decide), st 20 1 53 2 (by decide), st 53 2 53 3 (by decide), st 53 3 53 4 (by decide), st 53 4 53 5 (by decide), st 53 5 53 6 (by decide), st 53 6 53 7 (by decide), st 53 7 53 8 (by decide), st 53 8 53 9 (by decide), st 53 9 130 10 (by decide)]
  rw [iter_eq]
  show (device_checkOf_b1 ([65, 66, 48, 48, 48, 48, 48, 48, 48, 55] : Str) 130 10).bind _ = _
  rw [show device_checkOf_b1 ([65, 66, 48, 48, 48, 48, 48, 48, 48, 55] : Str) 130 10 = some (.inr 77) by decide]; rfl
theorem deviced_eq : L_deviced = some true := by
  unfold L_deviced L_deviced_j1 device_Serial device_model
  have hm : ∀ x ∈ [(⟨([109] : Str), ([65, 66] : Str), []⟩ : Model)], MB x := fun x hx => by rw [List.mem_singleton] at hx; subst hx; unfold MB; simp
  rw [CheckModels_eq hm, show mdF [(⟨([109] : Str), ([65, 66] : Str), []⟩ : Model)] = 0 by decide]
  simp only [Option.bind_some]
  rw [if_neg (by simp), show slices_IndexFunc_Model_Model [(⟨([109] : Str), ([65, 66] : Str), []⟩ : Model)] (fun y0 => some (device_model_1x y0 ([109] : Str))) = some (findI (fun y0 => device_model_1x y0 ([109] : Str)) [(⟨([109] : Str), ([65, 66] : Str), []⟩ : Model)] 0) from gIndexFunc_eq _ _ _ (fun _ _ => rfl) (by simp)]
  simp only [Option.bind_some]
  rw [show findI (fun y0 => device_model_1x y0 ([109] : Str)) [(⟨([109] : Str), ([65, 66] : Str), []⟩ : Model)] 0 = 0 by decide, if_neg (by decide), if_neg (by decide), show itoaO 7 = some [55] by unfold itoaO Lib.itoa; rw [if_pos (by omega), if_neg (by omega), Lib.decDigits, dif_pos (by decide)]; rfl]
  simp only [Option.bind_some]
  rw [show repeatO ([48] : Str) (w64 ((8 : Int) - ((([55] : Str).length : Nat) : Int))) = some [48, 48, 48, 48, 48, 48, 48] by decide]
  simp only [Option.bind_some]
  rw [show catO ([48, 48, 48, 48, 48, 48, 48] : Str) [55] = some [48, 48, 48, 48, 48, 48, 48, 55] by decide, show idx [(⟨([109] : Str), ([65, 66] : Str), []⟩ : Model)] 0 = some ⟨([109] : Str), ([65, 66] : Str), []⟩ by rfl]
  simp only [Option.bind_some]
  rw [show catO ([65, 66] : Str) [45] = some [65, 66, 45] by decide]
  simp only [Option.bind_some]
  rw [show catO ([65, 66, 45] : Str) [48, 48, 48, 48, 48, 48, 48, 55] = some [65, 66, 45, 48, 48, 48, 48, 48, 48, 48, 55] by decide]
  simp only [Option.bind_some]
  rw [show catO ([65, 66, 45, 48, 48, 48, 48, 48, 48, 48, 55] : Str) [45] = some [65, 66, 45, 48, 48, 48, 48, 48, 48, 48, 55, 45] by decide, show catO ([65, 66] : Str) [48, 48, 48, 48, 48, 48, 48, 55] = some [65, 66, 48, 48, 48, 48, 48, 48, 48, 55] by decide]
  simp only [Option.bind_some]
  rw [checkOf_7]
  simp only [Option.bind_some]
  rw [show strR 77 = [77] by decide, show catO ([65, 66, 45, 48, 48, 48, 48, 48, 48, 48, 55, 45] : Str) [77] = some [65, 66, 45, 48, 48, 48, 48, 48, 48, 48, 55, 45, 77] by decide]
  simp
end Go.Beacon

/- Events: learning and merging, both ways. No program in sight. -/
set_option linter.unusedVariables false
set_option linter.unusedSimpArgs false
namespace Go.Beacon
open Go Go.Eng

theorem two_loops {S S' A : Type} {R : A → Prop} {f : S → Option (S ⊕ A)} {f' : S' → Option (S' ⊕ A)} (m : S → Nat) (Rel : S → S' → Prop)
    (h : ∀ s s', Rel s s' → (∃ t t', f s = some (.inl t) ∧ f' s' = some (.inl t') ∧ Rel t t' ∧ m t < m s) ∨ ∃ r, f s = some (.inr r) ∧ f' s' = some (.inr r) ∧ R r) (s : S) (s' : S') (hs : Rel s s') : ∃ r, iter f s = some r ∧ iter f' s' = some r ∧ R r := by
  have key : ∀ (n : Nat) (s : S) (s' : S'), m s < n → Rel s s' → ∃ r, iter f s = some r ∧ iter f' s' = some r ∧ R r := by
    intro n
    induction n with
    | zero => intro s s' hn; omega
    | succ n ih =>
      intro s s' hn hs
      rcases h s s' hs with ⟨t, t', h1, h2, h3, h4⟩ | ⟨r, h1, h2, h3⟩
      · rw [iter_go h1, iter_go h2]
        exact ih t t' (by omega) h3
      · exact ⟨r, iter_end (o := some r) h1, iter_end (o := some r) h2, h3⟩
  exact key (m s + 1) s s' (by omega) hs
noncomputable def listV (l : List Model) (e : List EventS) : Int := (device_listFault l e).getD 0
theorem listV_dev (l : List Model) (hl : l.length ≤ 1000) (e : List EventS) (he : EL e) : device_listFault l e = some (listV l e) := by
  obtain ⟨r, r1, r2⟩ := listFault_ok l hl e he
  unfold listV
  rw [r1]; rfl
theorem listV_ref (l : List Model) (hl : l.length ≤ 1000) (e : List EventS) (he : EL e) : Q_EventsFault l e = some (listV l e) := by
  rw [← listFault_eq l hl e he, listV_dev l hl e he]
theorem listV_good {l : List Model} (hl : l.length ≤ 1000) {e : List EventS} (he : EL e) (h : listV l e = 0) : LG l e := by
  obtain ⟨r, r1, r2⟩ := listFault_ok l hl e he
  have := listV_dev l hl e he
  rw [r1, Option.some.injEq] at this
  exact r2 (by omega)
noncomputable def chkE (l : List Model) (e : List EventS) : Int := if mdF l ≠ 0 then mdF l else listV l e
theorem CheckEvents_eq (l : List Model) (hl : l.length ≤ 1000) (hm : ∀ m ∈ l, MB m) (e : List EventS) (he : EL e) : device_CheckEvents l e = some (chkE l e) := by
  unfold device_CheckEvents chkE
  rw [CheckModels_eq hm]
  simp only [Option.bind_some]
  by_cases h : mdF l ≠ 0
  · rw [if_pos h, if_pos h]
  · rw [if_neg h, if_neg h, listV_dev l hl e he]
    rfl
theorem chkE_zero {l : List Model} (hl : l.length ≤ 1000) {e : List EventS} (he : EL e) (h : chkE l e = 0) : LG l e := by
  unfold chkE at h
  by_cases g : mdF l ≠ 0
  · rw [if_pos g] at h; exact absurd h g
  · rw [if_neg g] at h; exact listV_good hl he h

theorem put_eq {M : List (Device_place × EventS)} {O : List EventS} (hP : PM M O) (hO : EL O) {x : EventS} (hx : EB x) {K : Nat} (hK : O.length ≤ K) (hK2 : K ≤ 50000) :
    (∃ M' O', device_put_o1x M O x = some (O', 0, M') ∧ PM M' O' ∧ EL O' ∧ O'.length ≤ K + 1 ∧ (∀ (n8 : Int), 0 ≤ n8 → n8 ≤ 100000 → (if findI (sameP x) O 0 < (0 : Int) then (app O [x]).bind fun l16 => Q_LearnOf_j1 n8 l16 else (idx O (findI (sameP x) O 0)).bind fun v18 => if v18 ≠ x then Option.map .inr (some ([], (13 : Int))) else Q_LearnOf_j1 n8 O) = some (.inl (O', n8 + 1)))) ∨
    (device_put_o1x M O x = some ([], 13, M) ∧ ∀ (n8 : Int), (if findI (sameP x) O 0 < (0 : Int) then (app O [x]).bind fun l16 => Q_LearnOf_j1 n8 l16 else (idx O (findI (sameP x) O 0)).bind fun v18 => if v18 ≠ x then Option.map .inr (some ([], (13 : Int))) else Q_LearnOf_j1 n8 O) = some (.inr ([], 13))) := by
  unfold device_put_o1x mget2
  simp only [Option.bind_some]
  rw [show (⟨x.Hub, x.No⟩ : Device_place) = plE x from rfl, hP x]
  rcases findI_findP (sameP x) O with ⟨h1, h2⟩ | ⟨y, h1, h2, h3⟩
  · left
    rw [h2]
    simp only [Option.isSome_none, Bool.not_false, if_true]
    rw [app_le (by simp; omega)]
    simp only [Option.bind_some]
    refine ⟨_, _, rfl, hP.snoc h2, ?_, by simp; omega, fun n8 g1 g2 => ?_⟩
    · intro z hz
      rw [List.mem_append, List.mem_singleton] at hz
      rcases hz with hz | rfl
      · exact hO z hz
      · exact hx
    · rw [if_pos h1]
      unfold Q_LearnOf_j1
      rw [w64_in (by omega) (by omega)]
  · rw [h3]
    simp only [Option.isSome_some, Bool.not_true, Option.getD_some]
    rw [if_neg (by decide)]
    by_cases c : y ≠ x
    · right
      rw [if_pos c]
      refine ⟨rfl, fun n8 => ?_⟩
      rw [if_neg (by omega), h2]
      simp only [Option.bind_some]
      rw [if_pos c]; rfl
    · left
      rw [if_neg c]
      refine ⟨_, _, rfl, hP, hO, by omega, fun n8 g1 g2 => ?_⟩
      rw [if_neg (by omega), h2]
      simp only [Option.bind_some]
      rw [if_neg c]
      unfold Q_LearnOf_j1
      rw [w64_in (by omega) (by omega)]
structure RelL (N : Nat) (K : Nat) (M : List (Device_place × EventS)) (O : List EventS) (i : Int) (O' : List EventS) (j : Int) : Prop where
  pm : PM M O
  el : EL O
  eq : O' = O
  j0 : 0 ≤ j
  j1 : j ≤ N
  len : O.length ≤ K + j.toNat
theorem learn_loop (l : List Model) (hl : l.length ≤ 1000) (b : List EventS) (hb : EL b) (hn : b.length ≤ 10000) {M : List (Device_place × EventS)} {O : List EventS} (hP : PM M O) (hO : EL O) (hO2 : O.length ≤ 10000) :
    ∃ r, device_Learn_l2 l b M O 0 = some r ∧ Q_LearnOf_l1 l b O 0 = some r ∧ r.1.length ≤ 3000 := by
  unfold device_Learn_l2 Q_LearnOf_l1
  refine two_loops (R := fun r : List EventS × Int => r.1.length ≤ 3000) (fun s : (List (Device_place × EventS)) × (List EventS) × Int => (b.length : Nat) + 1 - s.2.2.toNat) (fun s s' => RelL b.length O.length s.1 s.2.1 s.2.2 s'.1 s'.2 ∧ s'.2 = s.2.2) ?_ _ _ ⟨⟨hP, hO, rfl, by simp, by simp, by simp⟩, rfl⟩
  rintro ⟨M, Q, i⟩ ⟨Q', j⟩ ⟨⟨r1, r2, r3, r4, r5, r6⟩, r7⟩
  dsimp only at r1 r2 r3 r4 r5 r6 r7 ⊢
  subst r3 r7
  unfold device_Learn_b2 Q_LearnOf_b1
  by_cases h : j < b.length
  · rw [if_pos h, if_pos h]
    obtain ⟨x, x1, x2, _⟩ := idx_lt b r4 h
    rw [x1]
    simp only [Option.bind_some]
    have hx := hb x x2
    rw [eventFault_eq l x hl hx, EventFault_eq l x hl hx]
    simp only [Option.bind_some]
    by_cases g : evF l x ≠ 0
    · rw [if_pos g, if_pos g]
      exact .inr ⟨_, rfl, rfl, by simp⟩
    rw [if_neg g, if_neg g, IndexE _ _ (by omega)]
    simp only [Option.bind_some]
    rcases put_eq r1 r2 hx r6 (by omega) with ⟨M', O', e1, e2, e3, e4, e5⟩ | ⟨e1, e2⟩
    · left
      rw [e1, e5 j r4 (by omega)]
      simp only [Option.bind_some]
      rw [if_neg (by simp), w64_in (by omega) (by omega)]
      exact ⟨_, _, rfl, rfl, ⟨⟨e2, e3, rfl, by simp only; omega, by simp only; omega, by simp only; omega⟩, rfl⟩, by simp only; omega⟩
    · right
      rw [e1, e2 j]
      simp only [Option.bind_some]
      rw [if_pos (by decide)]
      exact ⟨_, rfl, rfl, by simp⟩
  · rw [if_neg h, if_neg h]
    obtain ⟨k1, r, k2, k3⟩ := k2_eq l hl Q' r2 (by omega)
    rw [k1, k2]
    exact .inr ⟨_, rfl, rfl, k3⟩
theorem fresh {l : List Model} {a : List EventS} (ha : LG l a) {i : Int} (h0 : 0 ≤ i) {x : EventS} (hx : idx a i = some x) : (a.take i.toNat).find? (sameP x) = none := by
  rw [List.find?_eq_none]
  intro y hy
  have h := ha.up
  have ht := take_succ h0 hx
  have h2 : (a.take (i + 1).toNat).Pairwise (fun a b => a.Hub = b.Hub → a.No < b.No) := h.sublist (List.take_sublist _ _)
  rw [ht, List.pairwise_append] at h2
  have h3 := h2.2.2 y hy x (by simp)
  intro g
  unfold sameP at g
  rw [Bool.and_eq_true, decide_eq_true_eq, decide_eq_true_eq] at g
  have := h3 g.1
  omega
theorem known_map (l : List Model) (a b : List EventS) (ha : LG l a) : ∀ k : Nat, k ≤ a.length → ∃ M, PM M (a.take k) ∧ device_Learn_l1 l a b [] 0 = device_Learn_l1 l a b M k := by
  have hlen := ha.len
  intro k
  induction k with
  | zero => intro _; exact ⟨[], PM.nil, rfl⟩
  | succ k ih =>
    intro hk
    obtain ⟨M, m1, m2⟩ := ih (by omega)
    obtain ⟨x, x1, x2, _⟩ := idx_lt a (i := (k : Int)) (by omega) (by omega)
    refine ⟨mset M (plE x) x, ?_, ?_⟩
    · have := m1.snoc (x := x) (by have := fresh ha (i := (k : Int)) (by omega) x1; simpa using this)
      have ht := take_succ (by omega) x1
      rw [show ((k : Int) + 1).toNat = k + 1 by omega, show ((k : Int)).toNat = k by omega] at ht
      rw [ht]; exact this
    · rw [m2]
      unfold device_Learn_l1
      refine iter_go ?_
      show device_Learn_b1 l a b M (k : Int) = _
      unfold device_Learn_b1
      rw [if_pos (by omega), x1]
      simp only [Option.bind_some]
      rw [w64_in (by omega) (by omega)]
      rfl
theorem clone_eq (a : List EventS) (h : a.length ≤ 100000) : slices_Clone_Event_Event a = some a := by
  unfold slices_Clone_Event_Event
  rw [app_le (by simp; omega)]
  rfl
noncomputable def learnV (l : List Model) (a b : List EventS) : List EventS × Int := (Q_LearnOf l a b).getD ([], 0)
theorem learn_both (l : List Model) (hl : l.length ≤ 1000) (a b : List EventS) (hA : EL a) (ha : LG l a) (hb : EL b) (hn : b.length ≤ 10000) : Q_LearnOf l a b = some (learnV l a b) ∧ device_Learn_l1 l a b [] 0 = some (learnV l a b) ∧ (learnV l a b).1.length ≤ 3000 := by
  have hlen := ha.len
  obtain ⟨M, m1, m2⟩ := known_map l a b ha a.length (by omega)
  rw [List.take_length] at m1
  obtain ⟨r, r1, r2, r3⟩ := learn_loop l hl b hb hn m1 hA (by omega)
  have hQ : Q_LearnOf l a b = some r := by
    unfold Q_LearnOf
    rw [clone_eq a (by omega)]
    exact r2
  have hv : learnV l a b = r := by unfold learnV; rw [hQ]; rfl
  rw [hv]
  refine ⟨hQ, ?_, r3⟩
  rw [m2]
  unfold device_Learn_l1
  refine iter_end (o := some r) ?_
  show device_Learn_b1 l a b M (a.length : Int) = _
  unfold device_Learn_b1
  rw [if_neg (by omega)]
  unfold device_Learn_k2
  rw [clone_eq a (by omega)]
  simp only [Option.bind_some]
  rw [r1]
theorem Learn_eq (l : List Model) (hl : l.length ≤ 1000) (hm : ∀ m ∈ l, MB m) (a b : List EventS) (hA : EL a) (hb : EL b) (hn : b.length ≤ 10000) :
    device_Learn l a b = some (if chkE l a ≠ 0 then ([], chkE l a) else if (3000 : Int) < b.length then ([], 2) else learnV l a b) := by
  unfold device_Learn
  rw [CheckEvents_eq l hl hm a hA]
  simp only [Option.bind_some]
  by_cases h : chkE l a ≠ 0
  · rw [if_pos h, if_pos h]
  · rw [if_neg h, if_neg h]
    by_cases g : (3000 : Int) < b.length
    · rw [if_pos g, if_pos g]
    · rw [if_neg g, if_neg g]
      exact (learn_both l hl a b hA (chkE_zero hl hA (Decidable.not_not.1 h)) hb hn).2.1

/-! merging -/
theorem idx_appL {α : Type} (a b : List α) {i : Int} (h0 : 0 ≤ i) (h : i < a.length) : idx (a ++ b) i = idx a i := by
  unfold idx
  rw [if_pos (by omega), if_pos (by omega), List.getElem?_append_left (by omega)]
theorem idx_appR {α : Type} (a b : List α) {j : Int} (h0 : 0 ≤ j) : idx (a ++ b) (a.length + j) = idx b j := by
  unfold idx
  rw [if_pos (by omega), if_pos (by omega), List.getElem?_append_right (by omega), show ((a.length : Int) + j).toNat - a.length = j.toNat by omega]
theorem merge_first (l : List Model) (a b : List EventS) (hA : EL a) (ha : LG l a) : ∀ k : Nat, k ≤ a.length → ∃ M, PM M (a.take k) ∧ device_Merge_l1 l (a ++ b) [] [] 0 = device_Merge_l1 l (a ++ b) M (a.take k) k := by
  have hlen := ha.len
  intro k
  induction k with
  | zero => intro _; exact ⟨[], PM.nil, rfl⟩
  | succ k ih =>
    intro hk
    obtain ⟨M, m1, m2⟩ := ih (by omega)
    obtain ⟨x, x1, x2, _⟩ := idx_lt a (i := (k : Int)) (by omega) (by omega)
    have hf := fresh ha (i := (k : Int)) (by omega) x1
    rw [show ((k : Int)).toNat = k by omega] at hf
    have ht := take_succ (by omega) x1
    rw [show ((k : Int) + 1).toNat = k + 1 by omega, show ((k : Int)).toNat = k by omega] at ht
    refine ⟨mset M (plE x) x, ?_, ?_⟩
    · rw [ht]; exact m1.snoc hf
    · rw [m2]
      unfold device_Merge_l1
      refine iter_go ?_
      show device_Merge_b1 l (a ++ b) M (a.take k) (k : Int) = _
      unfold device_Merge_b1
      rw [if_pos (by rw [List.length_append]; omega), idx_appL a b (by omega) (by omega), x1]
      simp only [Option.bind_some]
      unfold device_put_o1x mget2
      simp only [Option.bind_some]
      rw [show (⟨x.Hub, x.No⟩ : Device_place) = plE x from rfl, m1 x, hf]
      simp only [Option.isSome_none, Bool.not_false, if_true]
      rw [app_le (by simp; omega)]
      simp only [Option.bind_some]
      rw [if_neg (by simp), w64_in (by omega) (by omega), ht]
      rfl
theorem merge_both (l : List Model) (hl : l.length ≤ 1000) (a b : List EventS) (hA : EL a) (ha : LG l a) (hb : EL b) (hB : LG l b) : device_Merge_l1 l (a ++ b) [] [] 0 = some (learnV l a b) := by
  have hlen := ha.len
  have hlenb := hB.len
  obtain ⟨M, m1, m2⟩ := merge_first l a b hA ha a.length (by omega)
  rw [List.take_length] at m1 m2
  rw [m2]
  have key : ∃ r, device_Merge_l1 l (a ++ b) M a a.length = some r ∧ Q_LearnOf_l1 l b a 0 = some r ∧ r.1.length ≤ 3000 := by
    unfold device_Merge_l1 Q_LearnOf_l1
    refine two_loops (R := fun r : List EventS × Int => r.1.length ≤ 3000) (fun s : (List (Device_place × EventS)) × (List EventS) × Int => (a.length + b.length : Nat) + 1 - s.2.2.toNat) (fun s s' => RelL b.length a.length s.1 s.2.1 s.2.2 s'.1 s'.2 ∧ s.2.2 = a.length + s'.2) ?_ _ _ ⟨⟨m1, hA, rfl, by simp, by simp, by simp⟩, by simp⟩
    rintro ⟨M, Q, i⟩ ⟨Q', j⟩ ⟨⟨r1, r2, r3, r4, r5, r6⟩, r7⟩
    dsimp only at r1 r2 r3 r4 r5 r6 r7 ⊢
    subst r3 r7
    unfold device_Merge_b1 Q_LearnOf_b1
    by_cases h : j < b.length
    · rw [if_pos h, if_pos (by rw [List.length_append]; omega), idx_appR a b r4]
      obtain ⟨x, x1, x2, _⟩ := idx_lt b r4 h
      rw [x1]
      simp only [Option.bind_some]
      have hx := hb x x2
      rw [EventFault_eq l x hl hx, hB.ok x x2]
      simp only [Option.bind_some]
      rw [if_neg (by simp), IndexE _ _ (by omega)]
      simp only [Option.bind_some]
      rcases put_eq r1 r2 hx r6 (by omega) with ⟨M', O', e1, e2, e3, e4, e5⟩ | ⟨e1, e2⟩
      · left
        rw [e1, e5 j r4 (by omega)]
        simp only [Option.bind_some]
        rw [if_neg (by simp), w64_in (by omega) (by omega)]
        exact ⟨_, _, rfl, rfl, ⟨⟨e2, e3, rfl, by simp only; omega, by simp only; omega, by simp only; omega⟩, by simp only; omega⟩, by simp only; omega⟩
      · right
        rw [e1, e2 j]
        simp only [Option.bind_some]
        rw [if_pos (by decide)]
        exact ⟨_, rfl, rfl, by simp⟩
    · rw [if_neg h, if_neg (by rw [List.length_append]; omega)]
      obtain ⟨k1, r, k2, k3⟩ := k2_eq l hl Q' r2 (by omega)
      rw [show device_Merge_k1 l Q' = device_Learn_k1 l Q' from rfl, k1, k2]
      exact .inr ⟨_, rfl, rfl, k3⟩
  obtain ⟨r, r1, r2, _⟩ := key
  have hQ : Q_LearnOf l a b = some r := by
    unfold Q_LearnOf
    rw [clone_eq a (by omega)]
    exact r2
  have hv : learnV l a b = r := by unfold learnV; rw [hQ]; rfl
  rw [r1, hv]
end Go.Beacon

/- Sorted lists of strings without repeats. No program in sight. -/
set_option linter.unusedVariables false
set_option linter.unusedSimpArgs false
namespace Go.Beacon
open Go Go.Eng
theorem lt_cmp : ∀ a b : List UInt8, a < b ↔ Lib.compareBytes a b < 0
  | [], [] => by simp [Lib.compareBytes]
  | [], _ :: _ => by simp [Lib.compareBytes]
  | _ :: _, [] => by simp [Lib.compareBytes]
  | x :: a, y :: b => by
    have ih := lt_cmp a b
    rw [List.cons_lt_cons_iff]
    unfold Lib.compareBytes
    by_cases h : x < y
    · simp [h]
    · by_cases h2 : y < x
      · have hne : ¬ x = y := fun e => by subst e; exact h h2
        simp [h, h2, hne]
      · have hx : x = y := by
          rw [UInt8.lt_iff_toNat_lt] at h h2
          exact UInt8.toNat_inj.1 (by omega)
        subst hx
        simp [ih]
theorem le_cmp (a b : List UInt8) : a ≤ b ↔ ¬ Lib.compareBytes b a < 0 := by
  rw [← lt_cmp]; exact Iff.rfl
/-- Strings that rise. -/
def SS (l : List Str) : Prop := l.Pairwise (fun a b => Lib.compareBytes a b < 0)
theorem srtS_perm (l : List Str) : (srtS l).Perm l := List.mergeSort_perm l _
theorem srtS_srt (l : List Str) : (srtS l).Pairwise (fun a b => ¬ Lib.compareBytes b a < 0) := by
  have h := List.pairwise_mergeSort (le := fun x y : Str => decide (x ≤ y)) (fun a b c h1 h2 => by
    rw [decide_eq_true_eq, le_cmp] at *
    intro h3
    have n1 := cmpB_neg a c; have n2 := cmpB_neg a b; have n3 := cmpB_neg b c
    rcases Int.lt_trichotomy (Lib.compareBytes a b) 0 with e | e | e
    · rcases Int.lt_trichotomy (Lib.compareBytes b c) 0 with f | f | f
      · have := cmpB_tr e f; omega
      · have := cmpB_zero f; subst this; omega
      · omega
    · have := cmpB_zero e; subst this; omega
    · omega) (fun a b => by
    rw [Bool.or_eq_true, decide_eq_true_eq, decide_eq_true_eq, le_cmp, le_cmp]
    have := cmpB_neg a b
    omega) l
  exact h.imp (fun {a b} hab => by rw [decide_eq_true_eq, le_cmp] at hab; exact hab)
theorem ddA_SS : ∀ (r : List Str) (p : Str), (p :: r).Pairwise (fun a b => ¬ Lib.compareBytes b a < 0) → SS (p :: ddA eqB p r) ∧ ∀ x, x ∈ p :: ddA eqB p r ↔ x ∈ p :: r
  | [], p => fun _ => ⟨List.pairwise_singleton _ _, fun x => Iff.rfl⟩
  | y :: r, p => fun h => by
    have h1 := List.pairwise_cons.1 h
    have ih := ddA_SS r y h1.2
    unfold ddA
    by_cases e : eqB y p = true
    · have e' : y = p := of_decide_eq_true e
      subst e'
      rw [if_pos e]
      refine ⟨ih.1, fun x => ?_⟩
      rw [ih.2 x]; simp
    · have e' : y ≠ p := fun z => e (decide_eq_true z)
      rw [if_neg e]
      have hpy : Lib.compareBytes p y < 0 := by
        have := h1.1 y (by simp)
        have hn := cmpB_neg p y
        have hz : Lib.compareBytes p y ≠ 0 := fun z => e' (cmpB_zero z).symm
        omega
      refine ⟨List.pairwise_cons.2 ⟨fun z hz => ?_, ih.1⟩, fun x => ?_⟩
      · rcases List.mem_cons.1 hz with f | f
        · subst f; exact hpy
        · exact cmpB_tr hpy ((List.pairwise_cons.1 ih.1).1 z f)
      · rw [List.mem_cons, ih.2 x]; simp
theorem dd_SS (l : List Str) (h : l.Pairwise (fun a b => ¬ Lib.compareBytes b a < 0)) : SS (dd eqB l) ∧ ∀ x, x ∈ dd eqB l ↔ x ∈ l := by
  cases l with
  | nil => exact ⟨List.Pairwise.nil, fun x => Iff.rfl⟩
  | cons p r => exact ddA_SS r p h
end Go.Beacon

/- Events: what is known, and what came since. No program in sight. -/
set_option linter.unusedVariables false
set_option linter.unusedSimpArgs false
namespace Go.Beacon
open Go Go.Eng

noncomputable def stepK (m : List (Str × Int)) (x : EventS) : List (Str × Int) := mset m x.Hub (max ((mget? m x.Hub).getD 0) x.No)
noncomputable def knM (e : List EventS) : List (Str × Int) := e.foldl stepK []
def mxE (h : Str) (n : Int) (e : List EventS) : Int := e.foldl (fun n x => if x.Hub = h then max n x.No else n) n
theorem knM_get (h : Str) : ∀ (e : List EventS) (m : List (Str × Int)), mget? (e.foldl stepK m) h = if (∃ x ∈ e, x.Hub = h) then some (mxE h ((mget? m h).getD 0) e) else mget? m h
  | [], m => by simp
  | x :: r, m => by
    have ih := knM_get h r (stepK m x)
    rw [List.foldl_cons, ih]
    unfold stepK mxE
    rw [mget_mset, List.foldl_cons]
    by_cases c : x.Hub = h
    · subst c
      rw [if_pos rfl, if_pos rfl, if_pos (show ∃ y ∈ x :: r, y.Hub = x.Hub from ⟨x, by simp, rfl⟩)]
      by_cases g : ∃ y ∈ r, y.Hub = x.Hub
      · rw [if_pos g]; rfl
      · rw [if_neg g]
        have : ∀ (r : List EventS) (n : Int), (¬ ∃ y ∈ r, y.Hub = x.Hub) → r.foldl (fun n y => if y.Hub = x.Hub then max n y.No else n) n = n := by
          intro r
          induction r with
          | nil => intro n _; rfl
          | cons y r ih =>
            intro n hn
            rw [List.foldl_cons, if_neg (fun q => hn ⟨y, by simp, q⟩)]
            exact ih n (fun ⟨z, h1, h2⟩ => hn ⟨z, by simp [h1], h2⟩)
        rw [this r _ g]
    · rw [if_neg c, if_neg c]
      by_cases g : ∃ y ∈ r, y.Hub = h
      · rw [if_pos g, if_pos (by obtain ⟨y, h1, h2⟩ := g; exact ⟨y, by simp [h1], h2⟩)]; try rfl
      · rw [if_neg g, if_neg]
        rintro ⟨y, h1, h2⟩
        rcases List.mem_cons.1 h1 with rfl | h1
        · exact c h2
        · exact g ⟨y, h1, h2⟩
theorem knM_SM (e : List EventS) : SM (knM e) := by
  have : ∀ (e : List EventS) (m : List (Str × Int)), SM m → SM (e.foldl stepK m) := by
    intro e
    induction e with
    | nil => intro m h; exact h
    | cons x r ih => intro m h; exact ih _ (h.set _ _)
  exact this e [] SM.nil
theorem knM_len (e : List EventS) : (knM e).length ≤ e.length := by
  have : ∀ (e : List EventS) (m : List (Str × Int)), (e.foldl stepK m).length ≤ m.length + e.length := by
    intro e
    induction e with
    | nil => intro m; simp
    | cons x r ih =>
      intro m
      have h1 := ih (stepK m x)
      have h2 : (stepK m x).length ≤ m.length + 1 := mset_len m x.Hub _
      rw [List.foldl_cons, List.length_cons]
      omega
  have := this e []
  unfold knM
  simpa using this
theorem known_eq (e : List EventS) (h : e.length ≤ 100000) : device_known e = some (knM e) := by
  unfold device_known device_known_l1
  refine iter_foldl e (fun (m : List (Str × Int)) (i : Int) => (m, i)) _ stepK (fun _ _ => True) (fun m => some m) ?_ ?_ [] trivial
  · intro m i x h0 h1 hx _
    show device_known_b1 e m i = _ ∧ _
    unfold device_known_b1 mgetO
    rw [if_pos h1, hx]
    simp only [Option.bind_some]
    rw [w64_in (by omega) (by omega)]
    exact ⟨rfl, trivial⟩
  · intro m _
    show device_known_b1 e m _ = _
    unfold device_known_b1
    rw [if_neg (by omega)]
def toS (e : Str × Int) : Seen := ⟨e.1, e.2⟩
noncomputable def knV (e : List EventS) : List Seen := (knM e).map toS
theorem knV_srt (e : List EventS) : Srt (fun a b : Seen => Lib.compareBytes a.Hub b.Hub) (knV e) := by
  unfold knV Srt
  rw [List.pairwise_map]
  refine (knM_SM e).imp ?_
  intro a b h
  have h : Op.bytesLess a.1 b.1 = true := h
  rw [less_iff, decide_eq_true_eq] at h
  show ¬ Lib.compareBytes b.1 a.1 < 0
  have := cmpB_3.neg a.1 b.1
  omega
theorem Known_l1 (e : List EventS) (h : e.length ≤ 100000) : device_Known_l1 (knM e) [] = some (knV e, 0) := by
  have hl := knM_len e
  unfold device_Known_l1
  refine overP_inv (fun e (x : List Seen) => device_Known_b1 e x) (fun x : List Seen => device_Known_f1 x) (knM e) [] _ (fun done s => s = done.map toS) rfl ?_ ?_
  · rintro done x rest s hp rfl
    left
    unfold device_Known_b1
    have h1 := hp.length_eq
    rw [List.length_append, List.length_cons] at h1
    rw [app_le (by simp; omega)]
    exact ⟨_, rfl, by rw [List.map_append]; rfl⟩
  · rintro p s hp rfl
    have h1 := hp.length_eq
    unfold device_Known_f1
    obtain ⟨Z, z1, z2, z3⟩ := sortO_eq (fun y0 y1 => some (device_Known_1x y0 y1)) (fun a b : Seen => Lib.compareBytes a.Hub b.Hub) (p.map toS) (by rw [List.length_map]; omega) (fun a _ b _ => rfl) ((cmpB_3.on Seen.Hub).ord _)
    have z1' : slices_SortFunc_Seen_Seen (p.map toS) (fun y0 y1 => some (device_Known_1x y0 y1)) = some Z := z1
    rw [len_ok z1' z2.length_eq]
    simp only [Option.bind_some]
    have hperm : Z.Perm (knV e) := z2.trans (hp.map toS)
    have hZ : Z = knV e := by
      refine srt_unique hperm z3 (knV_srt e) ?_
      intro a ha b hb c1 c2
      have hk : ∀ x ∈ knV e, mget? (knM e) x.Hub = some x.No := by
        intro x hx
        obtain ⟨y, y1, rfl⟩ := List.mem_map.1 hx
        exact ((knM_SM e).get_iff).2 y1
      have hn := cmpB_3.neg a.Hub b.Hub
      have hab : a.Hub = b.Hub := cmpB_zero (by omega)
      have q1 := hk a (hperm.mem_iff.1 ha)
      have q2 := hk b (hperm.mem_iff.1 hb)
      rw [hab, q2, Option.some.injEq] at q1
      obtain ⟨a1, a2⟩ := a
      obtain ⟨b1, b2⟩ := b
      simp only at hab q1
      rw [hab, q1]
    rw [hZ]
theorem Known_eq (l : List Model) (hl : l.length ≤ 1000) (hm : ∀ m ∈ l, MB m) (e : List EventS) (he : EL e) (hn : e.length ≤ 100000) : device_Known l e = some (if chkE l e ≠ 0 then ([], chkE l e) else (knV e, 0)) := by
  unfold device_Known
  rw [CheckEvents_eq l hl hm e he]
  simp only [Option.bind_some]
  by_cases h : chkE l e ≠ 0
  · rw [if_pos h, if_pos h]
  · rw [if_neg h, if_neg h, known_eq e hn]
    simp only [Option.bind_some]
    exact Known_l1 e hn
theorem SortE (l : List Str) (hl : l.length ≤ 100000) : lenOk l.length (fun r : List Str => r.length) (slices_Sort_string_string l) = some (srtS l) := by
  unfold slices_Sort_string_string sort1 lenOk
  rw [if_pos (by omega)]
  simp only [Option.bind_some]
  have hls : (srtS l).length = l.length := (srtS_perm _).length_eq
  rw [if_pos (by first | exact hls | exact hls.symm | omega)]
theorem once_eq (l : List Str) (hl : l.length ≤ 100000) : Q_once l = some (dd eqB (srtS l)) := by
  unfold Q_once slices_Clone_string_string
  rw [app_le (by simp; omega)]
  simp only [Option.bind_some, List.nil_append]
  rw [SortE _ hl]
  simp only [Option.bind_some]
  rw [show slices_Compact_string_string (srtS l) = some (dd eqB (srtS l)) from gCpt_eq [] _ (by rw [(srtS_perm l).length_eq]; omega)]
  rfl
theorem KnownOf_l3 (e : List EventS) (h : e.length ≤ 100000) (l18 : List Seen) (h18 : l18.length ≤ 200000) (n19 : Int) (h19 : 0 ≤ n19 ∧ n19 ≤ 200000) (v : Str) : Q_KnownOf_l3 e l18 n19 v 0 0 = some (.inl (l18 ++ [⟨v, mxE v 0 e⟩], n19 + 1)) := by
  unfold Q_KnownOf_l3
  refine (iter_foldl e (fun (m : Int) (i : Int) => (m, i)) _ (fun n x => if x.Hub = v then max n x.No else n) (fun _ _ => True) (fun m => some (.inl (l18 ++ [⟨v, m⟩], n19 + 1))) ?_ ?_ 0 trivial).trans rfl
  · intro m i x h0 h1 hx _
    show Q_KnownOf_b3 e l18 n19 v m i = _ ∧ _
    unfold Q_KnownOf_b3 Q_KnownOf_j1
    rw [if_pos h1, hx]
    simp only [Option.bind_some]
    rw [w64_in (by omega) (by omega)]
    by_cases c : x.Hub = v
    · rw [if_pos c, if_pos c]; exact ⟨rfl, trivial⟩
    · rw [if_neg c, if_neg c]; exact ⟨rfl, trivial⟩
  · intro m _
    show Q_KnownOf_b3 e l18 n19 v m _ = _
    unfold Q_KnownOf_b3 Q_KnownOf_k2
    rw [if_neg (by omega), app_le (by simp; omega)]
    simp only [Option.bind_some]
    rw [w64_in (by omega) (by omega)]
theorem KnownOf_eq (e : List EventS) (h : e.length ≤ 100000) : Q_KnownOf e = some (knV e) := by
  have hO : ∀ x, x ∈ dd eqB (srtS (e.map EventS.Hub)) ↔ ∃ y ∈ e, y.Hub = x := by
    intro x
    rw [(dd_SS _ (srtS_srt _)).2, (srtS_perm _).mem_iff, List.mem_map]
  have hS : SS (dd eqB (srtS (e.map EventS.Hub))) := (dd_SS _ (srtS_srt _)).1
  have hlen : (dd eqB (srtS (e.map EventS.Hub))).length ≤ 100000 := by
    have h1 := dd_len eqB (srtS (e.map EventS.Hub))
    rw [(srtS_perm _).length_eq, List.length_map] at h1
    omega
  have hV : knM e = (dd eqB (srtS (e.map EventS.Hub))).map (fun k => (k, mxE k 0 e)) := by
    have hM : SM ((dd eqB (srtS (e.map EventS.Hub))).map (fun k => (k, mxE k 0 e))) := by
      unfold SM
      rw [List.pairwise_map]
      refine hS.imp ?_
      intro a b q
      show Op.bytesLess a b = true
      rw [less_iff, decide_eq_true_eq]
      exact q
    refine map_ext (knM_SM e) hM (fun k => ?_)
    unfold knM
    rw [knM_get]
    by_cases c : ∃ x ∈ e, x.Hub = k
    · rw [if_pos c]
      exact ((hM.get_iff).2 (List.mem_map.2 ⟨k, (hO k).2 c, rfl⟩)).symm
    · rw [if_neg c]
      cases hg : mget? ((dd eqB (srtS (e.map EventS.Hub))).map (fun k => (k, mxE k 0 e))) k with
      | none => rfl
      | some v =>
        have := (hM.get_iff).1 hg
        obtain ⟨y, y1, y2⟩ := List.mem_map.1 this
        obtain rfl : y = k := congrArg Prod.fst y2
        exact absurd ((hO y).1 y1) c
  unfold Q_KnownOf Q_KnownOf_l1
  refine (iter_foldl e (fun (m : List Str) (i : Int) => (m, i)) _ (fun a x => a ++ [x.Hub]) (fun i a => (a.length : Int) ≤ i) (fun a => Q_KnownOf_k3 e a) ?_ ?_ [] (by simp)).trans ?_
  · intro a i x h0 h1 hx ha
    show Q_KnownOf_b1 e a i = _ ∧ _
    unfold Q_KnownOf_b1
    rw [if_pos h1, hx]
    simp only [Option.bind_some]
    rw [app_le (by simp; omega)]
    simp only [Option.bind_some]
    rw [w64_in (by omega) (by omega)]
    exact ⟨rfl, by simp; omega⟩
  · intro a _
    show Q_KnownOf_b1 e a _ = _
    unfold Q_KnownOf_b1
    rw [if_neg (by omega)]
  · rw [foldl_map, List.nil_append]
    unfold Q_KnownOf_k3
    rw [once_eq _ (by rw [List.length_map]; omega)]
    simp only [Option.bind_some]
    unfold Q_KnownOf_l2
    refine (iter_foldl (dd eqB (srtS (e.map EventS.Hub))) (fun (m : List Seen) (i : Int) => (m, i)) _ (fun a k => a ++ [(⟨k, mxE k 0 e⟩ : Seen)]) (fun i a => (a.length : Int) ≤ i) (fun a => some a) ?_ ?_ [] (by simp)).trans ?_
    · intro a i x h0 h1 hx ha
      show Q_KnownOf_b2 e _ a i = _ ∧ _
      unfold Q_KnownOf_b2
      rw [if_pos h1, hx]
      simp only [Option.bind_some]
      rw [KnownOf_l3 e h a (by omega) i (by omega)]
      exact ⟨rfl, by simp; omega⟩
    · intro a _
      show Q_KnownOf_b2 e _ a _ = _
      unfold Q_KnownOf_b2
      rw [if_neg (by omega)]
    · rw [foldl_map (fun k => (⟨k, mxE k 0 e⟩ : Seen)), List.nil_append]
      unfold knV
      rw [hV, List.map_map]
      rfl

/-! since -/
structure SI (seen : List Seen) (i : Int) (m : List (Str × Int)) : Prop where
  to : ∀ s ∈ seen.take i.toNat, mget? m s.Hub = some s.No
  fr : ∀ h n, mget? m h = some n → ∃ s ∈ seen.take i.toNat, s.Hub = h ∧ s.No = n
  up : ∀ y, 0 < i → idx seen (i - 1) = some y → ∀ s ∈ seen.take i.toNat, s.Hub = y.Hub ∨ Lib.compareBytes s.Hub y.Hub < 0
theorem notOutS (n lo hi : Int) : (!(Q_in n lo hi)) = base_Out n lo hi := by
  rw [← notOut, Bool.not_not]
theorem since_j (e : List EventS) (seen : List Seen) (m : List (Str × Int)) (i : Int) (x : Seen) (h0 : 0 ≤ i) (h1 : i ≤ 100000) (c : Bool) :
    (∃ r, r ≠ 0 ∧ Q_SeenFault_j1 i x c = some (.inr r) ∧ device_Since_j1 m i x c = some (.inr ([], r))) ∨ (c = false ∧ Q_SeenFault_j1 i x c = some (.inl (i + 1)) ∧ device_Since_j1 m i x c = some (.inl (mset m x.Hub x.No, i + 1))) := by
  unfold Q_SeenFault_j1 device_Since_j1
  cases c with
  | true => exact .inl ⟨7, by decide, rfl, rfl⟩
  | false =>
    rw [if_neg Bool.false_ne_true, if_neg Bool.false_ne_true, notOutS, w64_in (by omega) (by omega)]
    by_cases g : base_Out x.No 0 3000 = true
    · rw [if_pos g, if_pos g]
      exact .inl ⟨1, by decide, rfl, rfl⟩
    · rw [if_neg g, if_neg g]
      exact .inr ⟨rfl, rfl, rfl⟩
theorem SI.next {seen : List Seen} {i : Int} {m : List (Str × Int)} (h : SI seen i m) (h0 : 0 ≤ i) {x : Seen} (hx : idx seen i = some x) (hu : ∀ y, 0 < i → idx seen (i - 1) = some y → Lib.compareBytes y.Hub x.Hub < 0) : SI seen (i + 1) (mset m x.Hub x.No) := by
  have ht := take_succ h0 hx
  have hlt : ∀ s ∈ seen.take i.toNat, Lib.compareBytes s.Hub x.Hub < 0 := by
    intro s hs
    have hi : 0 < i := by
      rcases Int.lt_or_eq_of_le h0 with g | rfl
      · exact g
      · simp at hs
    obtain ⟨y, y1, y2, _⟩ := idx_lt seen (i := i - 1) (by omega) (by have := (idx_some hx).2.1; omega)
    have hy := hu y hi y1
    rcases h.up y hi y1 s hs with q | q
    · rw [q]; exact hy
    · exact cmpB_3.tr q hy
  have hne : ∀ s ∈ seen.take i.toNat, x.Hub ≠ s.Hub := by
    intro s hs q
    have := hlt s hs
    rw [q, cmpB_self] at this
    omega
  constructor
  · intro s hs
    rw [ht, List.mem_append, List.mem_singleton] at hs
    rw [mget_mset]
    rcases hs with hs | rfl
    · rw [if_neg (hne s hs)]; exact h.to s hs
    · rw [if_pos rfl]
  · intro k n hk
    rw [mget_mset] at hk
    rw [ht]
    by_cases c : x.Hub = k
    · rw [if_pos c, Option.some.injEq] at hk
      exact ⟨x, by simp, c, hk⟩
    · rw [if_neg c] at hk
      obtain ⟨s, s1, s2⟩ := h.fr k n hk
      exact ⟨s, by simp [s1], s2⟩
  · intro y _ hy s hs
    rw [show i + 1 - 1 = i by omega, hx, Option.some.injEq] at hy
    subst hy
    rw [ht, List.mem_append, List.mem_singleton] at hs
    rcases hs with hs | rfl
    · exact .inr (hlt s hs)
    · exact .inl rfl
theorem seen_loop (e : List EventS) (seen : List Seen) (hl : seen.length ≤ 100000) : ∀ (k : Nat) (i : Int) (m : List (Str × Int)), 0 ≤ i → i + k = seen.length → SI seen i m →
    (∃ r, r ≠ 0 ∧ Q_SeenFault_l1 seen i = some r ∧ device_Since_l1 e seen m i = some ([], r)) ∨ (Q_SeenFault_l1 seen i = some 0 ∧ ∃ m', SI seen seen.length m' ∧ device_Since_l1 e seen m i = device_Since_l2 e m' [] 0) := by
  intro k
  induction k with
  | zero =>
    intro i m h0 hk hI
    have hi : i = seen.length := by omega
    subst hi
    right
    refine ⟨?_, m, hI, ?_⟩
    · unfold Q_SeenFault_l1
      refine iter_end (o := some 0) ?_
      show Q_SeenFault_b1 seen _ = _
      unfold Q_SeenFault_b1
      rw [if_neg (by omega)]
    · unfold device_Since_l1
      refine iter_end ?_
      show device_Since_b1 e seen m _ = _
      unfold device_Since_b1
      rw [if_neg (by omega)]
  | succ k ih =>
    intro i m h0 hk hI
    obtain ⟨x, x1, x2, _⟩ := idx_lt seen h0 (by omega)
    have fin : ∀ c : Bool, (c = false → ∀ y, 0 < i → idx seen (i - 1) = some y → Lib.compareBytes y.Hub x.Hub < 0) → Q_SeenFault_b1 seen i = Q_SeenFault_j1 i x c → device_Since_b1 e seen m i = device_Since_j1 m i x c → (∃ r, r ≠ 0 ∧ Q_SeenFault_l1 seen i = some r ∧ device_Since_l1 e seen m i = some ([], r)) ∨ (Q_SeenFault_l1 seen i = some 0 ∧ ∃ m', SI seen seen.length m' ∧ device_Since_l1 e seen m i = device_Since_l2 e m' [] 0) := by
      intro c hc q1 q2
      rcases since_j e seen m i x h0 (by omega) c with ⟨r, r1, r2, r3⟩ | ⟨r1, r2, r3⟩
      · left
        refine ⟨r, r1, ?_, ?_⟩
        · unfold Q_SeenFault_l1
          exact iter_end (o := some r) (by show Q_SeenFault_b1 seen i = _; rw [q1, r2]; rfl)
        · unfold device_Since_l1
          exact iter_end (o := some ([], r)) (by show device_Since_b1 e seen m i = _; rw [q2, r3]; rfl)
      · have := ih (i + 1) (mset m x.Hub x.No) (by omega) (by omega) (hI.next h0 x1 (hc r1))
        have e1 : Q_SeenFault_l1 seen i = Q_SeenFault_l1 seen (i + 1) := by
          unfold Q_SeenFault_l1
          exact iter_go (by show Q_SeenFault_b1 seen i = _; rw [q1, r2])
        have e2 : device_Since_l1 e seen m i = device_Since_l1 e seen (mset m x.Hub x.No) (i + 1) := by
          unfold device_Since_l1
          exact iter_go (by show device_Since_b1 e seen m i = _; rw [q2, r3])
        rw [e1, e2]
        exact this
    by_cases hkey : keyB x.Hub = true
    · by_cases hp : 0 < i
      · obtain ⟨y, y1, _⟩ := idx_lt seen (i := i - 1) (by omega) (by omega)
        refine fin (Op.bytesLess x.Hub y.Hub || x.Hub == y.Hub) ?_ ?_ ?_
        · intro hc z _ hz
          rw [y1, Option.some.injEq] at hz
          subst hz
          rw [leS_ops, decide_eq_false_iff_not] at hc
          have := cmpB_3.neg x.Hub y.Hub
          omega
        · unfold Q_SeenFault_b1
          rw [if_pos (by omega), x1]
          simp only [Option.bind_some]
          rw [QKeyT_eq]
          simp only [Option.bind_some]
          rw [if_neg (by simp [hkey]), if_pos hp, w64_in (by omega) (by omega), y1]
          rfl
        · unfold device_Since_b1
          rw [if_pos (by omega), x1]
          simp only [Option.bind_some]
          rw [Key_eq]
          simp only [Option.bind_some]
          rw [if_neg (by simp [hkey]), if_pos hp, w64_in (by omega) (by omega), y1]
          rfl
      · refine fin false (fun _ z hz => absurd hz hp) ?_ ?_
        · unfold Q_SeenFault_b1
          rw [if_pos (by omega), x1]
          simp only [Option.bind_some]
          rw [QKeyT_eq]
          simp only [Option.bind_some]
          rw [if_neg (by simp [hkey]), if_neg hp]
        · unfold device_Since_b1
          rw [if_pos (by omega), x1]
          simp only [Option.bind_some]
          rw [Key_eq]
          simp only [Option.bind_some]
          rw [if_neg (by simp [hkey]), if_neg hp]
    · left
      refine ⟨5, by decide, ?_, ?_⟩
      · unfold Q_SeenFault_l1
        refine iter_end (o := some 5) ?_
        show Q_SeenFault_b1 seen i = _
        unfold Q_SeenFault_b1
        rw [if_pos (by omega), x1]
        simp only [Option.bind_some]
        rw [QKeyT_eq]
        simp only [Option.bind_some]
        rw [if_pos (by simpa using hkey)]
      · unfold device_Since_l1
        refine iter_end (o := some ([], 5)) ?_
        show device_Since_b1 e seen m i = _
        unfold device_Since_b1
        rw [if_pos (by omega), x1]
        simp only [Option.bind_some]
        rw [Key_eq]
        simp only [Option.bind_some]
        rw [if_pos (by simpa using hkey)]
def knows (seen : List Seen) (x : EventS) : Bool := seen.any (fun s => decide (s.Hub = x.Hub) && decide (x.No ≤ s.No))
theorem since_l2 (e : List EventS) (h : e.length ≤ 100000) (hno : ∀ x ∈ e, 1 ≤ x.No) (seen : List Seen) (m : List (Str × Int)) (hI : SI seen seen.length m) : device_Since_l2 e m [] 0 = some (e.filter (fun x => !knows seen x), 0) := by
  have hI1 := hI.to
  have hI2 := hI.fr
  rw [List.take_of_length_le (by omega)] at hI1
  simp only [List.take_of_length_le (show seen.length ≤ ((seen.length : Int)).toNat by omega)] at hI2
  have hk : ∀ x ∈ e, decide ((mget? m x.Hub).getD 0 < x.No) = !knows seen x := by
    intro x hx
    have := hno x hx
    rw [Bool.eq_iff_iff, decide_eq_true_eq, Bool.not_eq_true', ← Bool.not_eq_true]
    unfold knows
    rw [List.any_eq_true]
    constructor
    · rintro g ⟨s, s1, s2⟩
      rw [Bool.and_eq_true, decide_eq_true_eq, decide_eq_true_eq] at s2
      have q := hI1 s s1
      rw [s2.1] at q
      rw [q] at g
      simp only [Option.getD_some] at g
      omega
    · intro g
      cases hg : mget? m x.Hub with
      | none => simp only [Option.getD_none]; omega
      | some n =>
        obtain ⟨s, s1, s2, s3⟩ := hI2 _ _ hg
        simp only [Option.getD_some]
        have : ¬ x.No ≤ s.No := fun q => g ⟨s, s1, by simp [s2, q]⟩
        omega
  unfold device_Since_l2
  refine (iter_foldl e (fun (a : List EventS) (i : Int) => (a, i)) _ (fun a x => if decide ((mget? m x.Hub).getD 0 < x.No) = true then a ++ [x] else a) (fun i a => (a.length : Int) ≤ i) (fun a => some (a, 0)) ?_ ?_ [] (by simp)).trans ?_
  · intro a i x h0 h1 hx ha
    show device_Since_b2 e m a i = _ ∧ _
    unfold device_Since_b2 device_Since_j2 mgetO
    rw [if_pos h1, hx]
    simp only [Option.bind_some]
    rw [w64_in (by omega) (by omega)]
    by_cases c : (mget? m x.Hub).getD 0 < x.No
    · rw [if_pos c, app_le (by simp; omega)]
      simp [c]; omega
    · rw [if_neg c]
      simp [c]; omega
  · intro a _
    show device_Since_b2 e m a _ = _
    unfold device_Since_b2
    rw [if_neg (by omega)]
  · rw [foldl_filter, List.nil_append]
    rw [List.filter_congr hk]
theorem SinceOf_eq (e : List EventS) (h : e.length ≤ 100000) (seen : List Seen) (hs : seen.length ≤ 100000) : Q_SinceOf e seen = some (e.filter (fun x => !knows seen x)) := by
  unfold Q_SinceOf
  rw [clone_eq e h]
  simp only [Option.bind_some]
  rw [show slices_DeleteFunc_Event_Event e (fun y0 => Q_SinceOf_1x y0 seen) = some (e.filter (fun x => !knows seen x)) from gDel_eq _ _ (knows seen) e (by omega) (fun x _ => by
    unfold Q_SinceOf_1x
    rw [show slices_ContainsFunc_Seen_Seen seen (fun y0 => some (Q_SinceOf_1x_1x y0 x)) = some (knows seen x) from gContainsFunc_eq seen _ (fun s => decide (s.Hub = x.Hub) && decide (x.No ≤ s.No)) (fun s _ => rfl) (by omega)]
    rfl)]
  rfl
theorem Since_eq (l : List Model) (hl : l.length ≤ 1000) (hm : ∀ m ∈ l, MB m) (e : List EventS) (he : EL e) (hn : e.length ≤ 100000) (seen : List Seen) (hs : seen.length ≤ 100000) :
    ∃ r, Q_SeenFault seen = some r ∧ device_Since l e seen = some (if chkE l e ≠ 0 then ([], chkE l e) else if r ≠ 0 then ([], r) else (e.filter (fun x => !knows seen x), 0)) := by
  unfold Q_SeenFault device_Since
  rw [CheckEvents_eq l hl hm e he]
  simp only [Option.bind_some]
  by_cases g : (20 : Int) < seen.length
  · rw [if_pos g]
    refine ⟨2, rfl, ?_⟩
    by_cases h : chkE l e ≠ 0
    · rw [if_pos h, if_pos h]
    · rw [if_neg h, if_neg h, if_pos g, if_pos (by decide)]
  rw [if_neg g]
  rcases seen_loop e seen hs seen.length 0 [] (by omega) (by omega) ⟨by simp, fun h n q => (by cases q), by intro y q; omega⟩ with ⟨r, r1, r2, r3⟩ | ⟨r1, m', m1, m2⟩
  · refine ⟨r, r2, ?_⟩
    by_cases h : chkE l e ≠ 0
    · rw [if_pos h, if_pos h]
    · rw [if_neg h, if_neg h, if_neg g, if_pos r1, r3]
  · refine ⟨0, r1, ?_⟩
    by_cases h : chkE l e ≠ 0
    · rw [if_pos h, if_pos h]
    · rw [if_neg h, if_neg h, if_neg g, if_neg (by simp), m2]
      exact since_l2 e hn (fun x hx => (evF_zero ((chkE_zero hl he (Decidable.not_not.1 h)).ok x hx)).2.1) seen m' m1
end Go.Beacon

/- Events drawn, and the law that they are told. No program in sight. -/
set_option linter.unusedVariables false
set_option linter.unusedSimpArgs false
namespace Go.Beacon
open Go Go.Eng

theorem estable_len (f : EventS → EventS → Option Int) (xs : List EventS) (hl : (xs.length : Int) ≤ 20) (hf : ∀ x ∈ xs, ∀ y ∈ xs, f x y = some (eO x y)) : ∃ Z, lenOk xs.length (fun r : List EventS => r.length) (slices_SortStableFunc_Event_Event xs f) = some Z ∧ Z.Perm xs ∧ Srt eO Z := by
  obtain ⟨Z, h1, h2, h3⟩ := gIns_eq f eO xs (by omega) hf (eO_3.ord xs)
  have h1' : slices_insertionSortCmpFunc_Event xs 0 xs.length f = some Z := h1
  have hlen := h2.length_eq
  refine ⟨Z, ?_, h2, h3⟩
  have hs : slices_stableCmpFunc_Event xs xs.length f = some Z := by
    unfold slices_stableCmpFunc_Event slices_stableCmpFunc_Event_l1
    by_cases h20 : (xs.length : Int) = 20
    · rw [iter_eq, slices_stableCmpFunc_Event_b1, if_pos (by simp only; omega)]
      simp only
      rw [h20] at h1' ⊢
      rw [len_ok h1' hlen]
      simp only [Option.bind_some, after_inl]
      rw [iter_eq, slices_stableCmpFunc_Event_b1, show w64 (20 + 20) = 40 from rfl, if_neg (by simp), map_inr_after]
      unfold slices_stableCmpFunc_Event_k3
      have h2' : slices_insertionSortCmpFunc_Event Z 20 20 f = some Z := by
        unfold slices_insertionSortCmpFunc_Event slices_insertionSortCmpFunc_Event_l1
        rw [iter_eq, slices_insertionSortCmpFunc_Event_b1, show w64 (20 + 1) = 21 from rfl, if_neg (by simp), map_inr_after]
      simp only
      rw [len_ok h2' rfl]
      simp only [Option.bind_some]
      unfold slices_stableCmpFunc_Event_l2
      rw [iter_eq, slices_stableCmpFunc_Event_b2, if_neg (by simp), map_inr_after]
    · rw [iter_eq, slices_stableCmpFunc_Event_b1, if_neg (by simp only; omega), map_inr_after]
      unfold slices_stableCmpFunc_Event_k3
      simp only
      rw [len_ok h1' hlen]
      simp only [Option.bind_some]
      unfold slices_stableCmpFunc_Event_l2
      rw [iter_eq, slices_stableCmpFunc_Event_b2, if_neg (by simp only; omega), map_inr_after]
  refine len_ok ?_ hlen
  unfold slices_SortStableFunc_Event_Event
  rw [len_ok hs hlen]; rfl
theorem concatE (a b : List EventS) (ha : (a.length : Int) ≤ 5000) (hb : (b.length : Int) ≤ 5000) : slices_Concat_Event_Event [a, b] = some (a ++ b) := by
  have i0 : idx [a, b] 0 = some a := rfl
  have i1 : idx [a, b] 1 = some b := rfl
  have u0 : w64 (0 + 1) = 1 := by decide
  have u1 : w64 (1 + 1) = 2 := by decide
  have grow : ∀ {n : Int}, 0 ≤ n → n ≤ 100000 → slices_Grow_Event_Event_n0x n = some [] := by
    intro n h0 h1
    unfold slices_Grow_Event_Event_n0x slices_Grow_Event_Event_n0x_j1
    rw [show w64 (0 - 0) = 0 by decide, show n - 0 = n by omega, w64_in (by omega) (by omega), if_neg (by omega)]
    by_cases h : 0 < n
    · rw [if_pos h, slc_in (by omega) (by omega) (by simp)]
      unfold mkS
      rw [if_pos (by omega)]
      simp only [Option.bind_some]
      rw [slc_in (by omega) (by omega) (by omega)]
      simp
    · rw [if_neg h]
  unfold slices_Concat_Event_Event slices_Concat_Event_Event_l1
  rw [iter_eq, slices_Concat_Event_Event_b1, if_pos (by simp), i0]
  simp only [Option.bind_some]
  rw [show (0 : Int) + (a.length : Int) = a.length by omega, w64_in (by omega) (by omega), if_neg (by omega), u0]
  simp only [Option.bind_some, after_inl]
  rw [iter_eq, slices_Concat_Event_Event_b1, if_pos (by simp), i1]
  simp only [Option.bind_some]
  rw [w64_in (by omega) (by omega), if_neg (by omega), u1]
  simp only [Option.bind_some, after_inl]
  rw [iter_eq, slices_Concat_Event_Event_b1, if_neg (by simp), map_inr_after]
  unfold slices_Concat_Event_Event_k1
  simp only
  rw [grow (by omega) (by omega)]
  simp only [Option.bind_some]
  unfold slices_Concat_Event_Event_l2
  rw [iter_eq, slices_Concat_Event_Event_b2, if_pos (by simp), i0]
  simp only [Option.bind_some]
  rw [app_le (by simp; omega), u0]
  simp only [Option.bind_some, after_inl, List.nil_append]
  rw [iter_eq, slices_Concat_Event_Event_b2, if_pos (by simp), i1]
  simp only [Option.bind_some]
  rw [app_le (by omega), u1]
  simp only [Option.bind_some, after_inl]
  rw [iter_eq, slices_Concat_Event_Event_b2, if_neg (by simp), map_inr_after]

/-! drawn -/
abbrev HapR (K : Int) (r : EventS × Stm) : Prop := EB r.1 ∧ SOk r.2 K
theorem Hap_j6 (t : Int) (q7 q11 : Str) (n14 n15 : Int) (L : List Int) (a : Int) (n56 : Int) (q57 q58 : Str) (n59 : Int) (q60 q61 : Str) (n62 : Int) {K : Int} (hs : SOk ⟨L, a⟩ K) (h1 : q60.length ≤ 40) (h2 : q61.length ≤ 40) : Ok (Stream_Happening_j6 t q7 q11 n14 n15 L a n56 q57 q58 n59 q60 q61 n62) (HapR K) := by
  unfold Stream_Happening_j6
  exact Ok.ret ⟨⟨by simp only; omega, by simp only; omega⟩, hs⟩
theorem Hap_j1 (t : Int) (v2 : Int × Stm) (v3 : Str × Stm) (L : List Int) (a : Int) (q7 q8 : Str) (n9 : Int) (q10 q11 q12 : Str) (n13 n14 n15 : Int) {K : Int} (hK : 10 ≤ K) (hs : SOk ⟨L, a⟩ K) (h1 : q10.length ≤ 40) (h2 : q12.length ≤ 40) : Ok (Stream_Happening_j1 t v2 v3 L a q7 q8 n9 q10 q11 q12 n13 n14 n15) (HapR (K - 8)) := by
  unfold Stream_Happening_j1 Stream_Happening_j9 Stream_Happening_j8 Stream_Happening_j7
  refine Ok.gen (Flip_k hs (by omega) (by omega) (by omega)) (fun b s2 _ q2 => ?_)
  dsimp only
  split
  · refine Ok.gen (Next_k q2 (by omega) (by omega) (by omega)) (fun n s3 _ q3 => ?_)
    dsimp only
    split
    · refine Ok.gen (Odd_k q3 (by omega) (by omega) (by omega) (by omega)) (fun u s4 _ q4 => ?_)
      exact Hap_j6 _ _ _ _ _ _ _ _ _ _ _ _ _ _ (q4.less (by omega)) h1 h2
    · split
      · refine Ok.gen (Some_k q3 (by omega) (by simp) (by simp)) (fun u s4 _ q4 => ?_)
        refine Ok.gen (Some_k q4 (by omega) (by simp) (by simp)) (fun u s5 _ q5 => ?_)
        exact Hap_j6 _ _ _ _ _ _ _ _ _ _ _ _ _ _ (q5.less (by omega)) h1 h2
      · split
        · refine Ok.gen (Odd_k q3 (by omega) (by omega) (by omega) (by omega)) (fun u s4 _ q4 => ?_)
          refine Ok.gen (Odd_k q4 (by omega) (by omega) (by omega) (by omega)) (fun u s5 _ q5 => ?_)
          exact Hap_j6 _ _ _ _ _ _ _ _ _ _ _ _ _ _ (q5.less (by omega)) h1 h2
        · refine Ok.gen (Some_k q3 (by omega) (by simp) (by simp)) (fun u s4 hu q4 => ?_)
          refine Ok.gen (Some_k q4 (by omega) (by simp) (by simp)) (fun w s5 hw q5 => ?_)
          exact Hap_j6 _ _ _ _ _ _ _ _ _ _ _ _ _ _ (q5.less (by omega)) (len_of hu (by decide)) (len_of hw (by decide))
  · exact Hap_j6 _ _ _ _ _ _ _ _ _ _ _ _ _ _ (q2.less (by omega)) h1 h2
theorem Happening_k {s : Stm} {K : Int} (t : Int) (hs : SOk s K) (hK : 20 ≤ K) : Gen (Stream_Happening s t) (K - 20) EB := by
  refine Gen.of ?_
  have fin : ∀ {r : EventS × Stm} {K' : Int}, K - 20 ≤ K' → HapR K' r → EB r.1 ∧ SOk r.2 (K - 20) := fun h g => ⟨g.1, g.2.less h⟩
  unfold Stream_Happening Stream_Happening_j5 Stream_Happening_j4 Stream_Happening_j3 Stream_Happening_j2
  refine Ok.gen (Pick_k hs (by omega) (by simp) (by simp)) (fun k s1 _ q1 => ?_)
  refine Ok.gen (Some_k q1 (by omega) (by simp) (by simp)) (fun d s2 _ q2 => ?_)
  dsimp only
  split
  · refine Ok.gen (Some_k q2 (by omega) (by simp) (by simp)) (fun u s3 _ q3 => ?_)
    refine Ok.gen (Pick_k q3 (by omega) (by simp) (by simp)) (fun w s4 _ q4 => ?_)
    refine Ok.gen (Some_k q4 (by omega) (by simp) (by simp)) (fun x s5 hx q5 => ?_)
    exact (Hap_j1 t _ _ _ _ _ _ _ _ _ _ _ _ _ (by omega) q5 (len_of hx (by decide)) (by simp)).mono fun r hr => fin (by omega) hr
  · split
    · refine Ok.gen (Some_k q2 (by omega) (by simp) (by simp)) (fun u s3 _ q3 => ?_)
      exact (Hap_j1 t _ _ _ _ _ _ _ _ _ _ _ _ _ (by omega) q3 (by simp) (by simp)).mono fun r hr => fin (by omega) hr
    · split
      · refine Ok.gen (Some_k q2 (by omega) (by simp) (by simp)) (fun u s3 hu q3 => ?_)
        refine Ok.gen (Pick_k q3 (by omega) (by simp) (by simp)) (fun w s4 _ q4 => ?_)
        exact (Hap_j1 t _ _ _ _ _ _ _ _ _ _ _ _ _ (by omega) q4 (len_of hu (by decide)) (by simp)).mono fun r hr => fin (by omega) hr
      · split
        · refine Ok.gen (Pick_k q2 (by omega) (by simp) (by simp)) (fun u s3 _ q3 => ?_)
          refine Ok.gen (Pick_k q3 (by omega) (by simp) (by simp)) (fun w s4 _ q4 => ?_)
          exact (Hap_j1 t _ _ _ _ _ _ _ _ _ _ _ _ _ (by omega) q4 (by simp) (by simp)).mono fun r hr => fin (by omega) hr
        · split
          · refine Ok.gen (Some_k q2 (by omega) (by simp) (by simp)) (fun u s3 _ q3 => ?_)
            refine Ok.gen (Some_k q3 (by omega) (by simp) (by simp)) (fun w s4 hw q4 => ?_)
            exact (Hap_j1 t _ _ _ _ _ _ _ _ _ _ _ _ _ (by omega) q4 (by simp) (len_of hw (by decide))).mono fun r hr => fin (by omega) hr
          · exact (Hap_j1 t _ _ _ _ _ _ _ _ _ _ _ _ _ (by omega) q2 (by simp) (by simp)).mono fun r hr => fin (by omega) hr
abbrev EvR (n : Int) (l : List EventS) : Prop := (l.length : Int) ≤ n ∧ EL l
theorem Events_k3 {L : List Int} {a : Int} {l : List EventS} {K n : Int} (hs : SOk ⟨L, a⟩ K) (hK : 10 ≤ K) (hn : n ≤ 19) (hl : EvR n l) : Ok (Stream_Events_k3 L a l) (fun r => EvR n r.1 ∧ SOk r.2 (K - 10)) := by
  have hl1 := hl.1
  unfold Stream_Events_k3
  obtain ⟨Z, z1, z2, z3⟩ := estable_len (fun y0 y1 => Q_EventOrder y0 y1) l (by omega) (fun x _ y _ => Order_eq x y)
  rw [z1]
  simp only [Option.bind_some]
  have hZ : EvR n Z := ⟨by rw [z2.length_eq]; exact hl.1, fun x hx => hl.2 x (z2.mem_iff.1 hx)⟩
  have hZ1 := hZ.1
  have j1 : ∀ (L' : List Int) (a' : Int) (c : Bool), (c = true → 0 < Z.length) → SOk ⟨L', a'⟩ (K - 1) → Ok (Stream_Events_j1 Z L' a' c) (fun r => EvR n r.1 ∧ SOk r.2 (K - 10)) := by
    intro L' a' c hc hs'
    unfold Stream_Events_j1 Stream_Events_j2
    cases c with
    | false =>
      rw [if_neg Bool.false_ne_true]
      exact Ok.ret ⟨hZ, hs'.less (by omega)⟩
    | true =>
      have hp := hc rfl
      rw [if_pos rfl]
      refine Ok.gen (Next_k hs' (by omega) (by omega) (by omega)) (fun i s1 hi q1 => ?_)
      dsimp only
      refine Ok.idx (by omega) (by omega) (fun x hx hm => ?_)
      refine Ok.gen (Some_k q1 (by omega) (by simp) (by simp)) (fun u s2 _ q2 => ?_)
      refine Ok.gen (Pick_k q2 (by omega) (by simp) (by simp)) (fun v s3 _ q3 => ?_)
      refine Ok.gen (Pick_k q3 (by omega) (by simp) (by simp)) (fun w s4 _ q4 => ?_)
      refine Ok.gen (Pick_k q4 (by omega) (by simp) (by simp)) (fun y s5 _ q5 => ?_)
      have hxb := hZ.2 x hm
      refine Ok.ret ⟨⟨by simp only [List.length_set]; exact hZ1, ?_⟩, q5.less (by omega)⟩
      exact inset (inset (inset (inset hZ.2 ⟨hxb.key, hxb.val⟩) ⟨hxb.key, hxb.val⟩) ⟨hxb.key, hxb.val⟩) ⟨hxb.key, hxb.val⟩
  by_cases h : (0 : Int) < Z.length
  · rw [if_pos h]
    refine Ok.gen (Flip_k hs (by omega) (by omega) (by omega)) (fun b s1 _ q1 => ?_)
    exact j1 _ _ _ (fun _ => by omega) q1
  · rw [if_neg h]
    exact j1 _ _ _ (fun q => by cases q) (hs.less (by omega))
theorem Events_k {s : Stm} {n K : Int} (hs : SOk s K) (hn : 0 ≤ n ∧ n ≤ 10) (hK : 400 ≤ K) : Gen (Stream_Events s n) (K - 400) (EvR n) := by
  refine Gen.of ?_
  unfold Stream_Events
  refine Ok.gen (Next_k hs (by omega) (by omega) (by omega)) (fun t s1 _ q1 => ?_)
  unfold Stream_Events_l1
  refine Ok.iter (fun x : List Int × Int × List EventS × List (Str × Int) × Int × Int × Int => (n - x.2.2.2.2.2.2).toNat) (fun x : List Int × Int × List EventS × List (Str × Int) × Int × Int × Int => 0 ≤ x.2.2.2.2.2.2 ∧ x.2.2.2.2.2.2 ≤ n ∧ SOk ⟨x.1, x.2.1⟩ (K - 380 + 30 * (n - x.2.2.2.2.2.2)) ∧ EvR x.2.2.2.2.2.2 x.2.2.1) ?_ _ ⟨by simp only; omega, by simp only; omega, q1.less (by simp only; omega), ⟨by simp, fun x hx => by cases hx⟩⟩
  rintro ⟨L, a, l, m, c, t, i⟩ ⟨g0, g1, g2, g3⟩
  simp only at g0 g1 g2 g3 ⊢
  have hll := g3.1
  unfold Stream_Events_b1
  by_cases hi : i < n
  · rw [if_pos hi]
    refine Ok.gen (Happening_k t g2 (by omega)) (fun x s2 hx q2 => ?_)
    refine Ok.gen (Some_k q2 (by omega) (by simp) (by simp)) (fun u s3 _ q3 => ?_)
    unfold mgetO
    simp only [Option.bind_some]
    refine Ok.gen (Pick_k q3 (by omega) (by simp) (by simp)) (fun v s4 _ q4 => ?_)
    dsimp only
    refine Ok.app (by simp; omega) ?_
    refine Ok.gen (Pick_k q4 (by omega) (by simp) (by simp)) (fun w s5 _ q5 => ?_)
    refine Ok.ret ?_
    rw [w64_in (x := i + 1) (by omega) (by omega)]
    refine ⟨⟨by simp only; omega, by simp only; omega, q5.less (by simp only; omega), ?_, ?_⟩, by simp only; omega⟩
    · simp only [List.length_append, List.length_singleton]; omega
    · intro y hy
      rw [List.mem_append, List.mem_singleton] at hy
      rcases hy with hy | rfl
      · exact g3.2 y hy
      · exact ⟨hx.key, hx.val⟩
  · rw [if_neg hi]
    obtain rfl : i = n := by omega
    refine Ok.inr ?_
    exact (Events_k3 g2 (by omega) (by omega) g3).mono fun r hr => ⟨hr.1, hr.2.less (by omega)⟩
theorem SeenHubs_k {s : Stm} {K : Int} (hs : SOk s K) (hK : 30 ≤ K) : Gen (Stream_SeenHubs s) (K - 30) (fun l => l.length ≤ 10) := by
  refine Gen.of ?_
  unfold Stream_SeenHubs Stream_SeenHubs_l1
  refine Ok.iter (fun x : List Int × Int × List Seen × Int => (3 - x.2.2.2).toNat) (fun x : List Int × Int × List Seen × Int => 0 ≤ x.2.2.2 ∧ x.2.2.2 ≤ 3 ∧ SOk ⟨x.1, x.2.1⟩ (K - 10 + 3 * (3 - x.2.2.2) - 9) ∧ (x.2.2.1.length : Int) ≤ x.2.2.2) ?_ _ ⟨by simp only; omega, by simp only; omega, hs.less (by simp only; omega), by simp⟩
  rintro ⟨L, a, l, i⟩ ⟨g0, g1, g2, g3⟩
  simp only at g0 g1 g2 g3 ⊢
  unfold Stream_SeenHubs_b1 Stream_SeenHubs_j1
  by_cases hi : i < 3
  · rw [if_pos (by simpa using hi)]
    refine Ok.idx g0 (by simpa using hi) (fun h _ _ => ?_)
    refine Ok.gen (Flip_k g2 (by omega) (by omega) (by omega)) (fun b s1 _ q1 => ?_)
    dsimp only
    split
    · refine Ok.gen (Next_k q1 (by omega) (by omega) (by omega)) (fun n s2 _ q2 => ?_)
      dsimp only
      refine Ok.app (by simp; omega) ?_
      refine Ok.ret ?_
      rw [w64_in (by omega) (by omega)]
      exact ⟨⟨by simp only; omega, by simp only; omega, q2.less (by simp only; omega), by simp only [List.length_append, List.length_singleton]; omega⟩, by simp only; omega⟩
    · refine Ok.ret ?_
      rw [w64_in (by omega) (by omega)]
      exact ⟨⟨by simp only; omega, by simp only; omega, q1.less (by simp only; omega), by simp only; omega⟩, by simp only; omega⟩
  · rw [if_neg (by simpa using hi)]
    refine Ok.inr ?_
    unfold Stream_SeenHubs_k3 Stream_SeenHubs_j2
    refine Ok.gen (Flip_k g2 (by omega) (by omega) (by omega)) (fun b s1 _ q1 => ?_)
    dsimp only
    split
    · refine Ok.gen (Some_k q1 (by omega) (by simp) (by simp)) (fun u s2 _ q2 => ?_)
      refine Ok.gen (Odd_k q2 (by omega) (by omega) (by omega) (by omega)) (fun w s3 _ q3 => ?_)
      dsimp only
      refine Ok.app (by simp; omega) ?_
      exact Ok.ret ⟨by simp only [List.length_append, List.length_singleton]; omega, q3.less (by omega)⟩
    · exact Ok.ret ⟨by simp only; omega, q1.less (by omega)⟩

/-! the law -/
theorem Merge_eq (l : List Model) (hl : l.length ≤ 1000) (hm : ∀ m ∈ l, MB m) (a b : List EventS) (hA : EL a) (hb : EL b) :
    device_Merge l a b = some (if orL [chkE l a, listV l b] ≠ 0 then ([], orL [chkE l a, listV l b]) else learnV l a b) := by
  unfold device_Merge
  rw [CheckEvents_eq l hl hm a hA, listV_dev l hl b hb]
  simp only [Option.bind_some]
  rw [First_eq _ (by simp)]
  simp only [Option.bind_some]
  by_cases h : orL [chkE l a, listV l b] ≠ 0
  · rw [if_pos h, if_pos h]
  · rw [if_neg h, if_neg h]
    obtain ⟨h1, h2⟩ := orL2_zero (Decidable.not_not.1 h)
    have ga := chkE_zero hl hA h1
    have gb := listV_good hl hb h2
    rw [concatE a b (by have := ga.len; omega) (by have := gb.len; omega)]
    simp only [Option.bind_some]
    exact merge_both l hl a b hA ga hb gb
theorem eqE (x : List EventS) (hx : x.length ≤ 100000) : slices_Equal_Event_Event x x = some true := by
  rw [show slices_Equal_Event_Event x x = some (decide (x = x)) from gEqual_eq x x (by omega)]; simp
theorem eqSn (x : List Seen) (hx : x.length ≤ 100000) : slices_Equal_Seen_Seen x x = some true := by
  rw [show slices_Equal_Seen_Seen x x = some (decide (x = x)) from gEqual_eq x x (by omega)]; simp
theorem orEn (x y : Int) : cmp_Or_Errno [x, y] = some (orL [x, y]) := gOr_eq _ (by simp)
theorem ev_j6 (a : List EventS) (s2 : Stm) (seen : List Seen) (s3 : Stm) (F r : Int) (ha : a.length ≤ 100) (hs : seen.length ≤ 100) (r1 : Q_SeenFault seen = some r) :
    L_EventsTold_j6 (a, s2) (seen, s3) F (if F ≠ 0 then ([], F) else if r ≠ 0 then ([], r) else (a.filter (fun x => !knows seen x), 0)) false = some true := by
  unfold L_EventsTold_j6 L_EventsTold_j7 L_EventsTold_j8
  rw [if_neg Bool.false_ne_true, r1]
  simp only [Option.bind_some]
  rw [orEn, orL2]
  simp only [Option.bind_some]
  by_cases hF : F ≠ 0
  · rw [if_pos hF, if_pos hF, if_pos hF, if_pos rfl, if_pos (by simp), deviced_eq]
    rfl
  rw [if_neg hF, if_neg hF]
  by_cases hr : r ≠ 0
  · rw [if_pos hr, if_pos hr, if_pos rfl, if_pos (by simp), deviced_eq]
    rfl
  rw [if_neg hr, if_neg hr, if_pos rfl, SinceOf_eq a (by omega) seen (by omega)]
  simp only [Option.bind_some]
  have hf := List.length_filter_le (fun x => !knows seen x) a
  rw [eqE _ (by omega)]
  simp only [Option.bind_some, if_true]
  rw [deviced_eq]
  rfl
theorem ev_j4 (a : List EventS) (s2 : Stm) (seen : List Seen) (s3 : Stm) (F r : Int) (ha : a.length ≤ 100) (hs : seen.length ≤ 100) (r1 : Q_SeenFault seen = some r) (X Y : List EventS × Int) (hX : X.1.length ≤ 3000) (hY : Y.1.length ≤ 3000) :
    L_EventsTold_j4 (a, s2) (seen, s3) F X (if F ≠ 0 then ([], F) else (knV a, 0)) (if F ≠ 0 then ([], F) else if r ≠ 0 then ([], r) else (a.filter (fun x => !knows seen x), 0)) Y X.2 X.1 Y.1 Y.2 = some true := by
  have hk : (knV a).length ≤ 100 := by
    have := knM_len a
    unfold knV
    rw [List.length_map]
    omega
  unfold L_EventsTold_j4
  rw [if_neg (fun q => q rfl), eqE _ (by omega)]
  simp only [Option.bind_some, Bool.not_true]
  rw [if_neg Bool.false_ne_true, if_neg (fun q => q rfl), eqE _ (by omega)]
  simp only [Option.bind_some, Bool.not_true]
  rw [if_neg Bool.false_ne_true]
  by_cases hF : F = 0
  · rw [if_neg (show ¬ (if F ≠ 0 then (([] : List Seen), F) else (knV a, 0)).2 ≠ F by rw [if_neg (fun q => q hF)]; simp [hF]), if_pos hF, KnownOf_eq a (by omega)]
    simp only [Option.bind_some]
    rw [show (if F ≠ 0 then (([] : List Seen), F) else (knV a, 0)).1 = knV a by rw [if_neg (fun q => q hF)], eqSn _ (by omega)]
    simp only [Option.bind_some, Bool.not_true]
    exact ev_j6 a s2 seen s3 F r ha hs r1
  · rw [if_neg (show ¬ (if F ≠ 0 then (([] : List Seen), F) else (knV a, 0)).2 ≠ F by rw [if_pos hF]; simp), if_neg hF]
    exact ev_j6 a s2 seen s3 F r ha hs r1
theorem ev_j1 (l : List Model) (s1 : Stm) (a : List EventS) (s2 : Stm) (seen : List Seen) (s3 : Stm) (b : List EventS) (hl : l.length ≤ 1000) (hm : ∀ m ∈ l, MB m) (hA : EL a) (ha : a.length ≤ 100) (hs : seen.length ≤ 100) (hb : EL b) (hn : b.length ≤ 100) :
    L_EventsTold_j1 (l, s1) (a, s2) (seen, s3) b = some true := by
  have chk : orL [mdF l, listV l a] = chkE l a := orL2 _ _
  obtain ⟨r, r1, r2⟩ := Since_eq l hl hm a hA (by omega) seen (by omega)
  unfold L_EventsTold_j1
  simp only
  rw [ModelsFault_eq hm, listV_ref l hl a hA]
  simp only [Option.bind_some]
  rw [orEn, chk]
  simp only [Option.bind_some]
  rw [CheckEvents_eq l hl hm a hA]
  simp only [Option.bind_some]
  rw [if_neg (fun q => q rfl), Merge_eq l hl hm a b hA hb, Known_eq l hl hm a hA (by omega), r2, Learn_eq l hl hm a b hA hb (by omega), listV_ref l hl b hb]
  simp only [Option.bind_some]
  rw [orEn]
  simp only [Option.bind_some]
  have hw : L_when (decide ((3000 : Int) < (b.length : Int))) (2 : Int) = 0 := by
    unfold L_when
    rw [if_neg (by simp; omega)]
  have h3 : ¬ (3000 : Int) < (b.length : Int) := by omega
  by_cases hF : chkE l a = 0
  · obtain ⟨b1, b2, b3⟩ := learn_both l hl a b hA (chkE_zero hl hA hF) hb (by omega)
    have hY : (if chkE l a ≠ 0 then (([] : List EventS), chkE l a) else if (3000 : Int) < b.length then ([], 2) else learnV l a b) = learnV l a b := by
      rw [if_neg (fun q => q hF), if_neg h3]
    rw [hY]
    unfold L_EventsTold_j3 L_EventsTold_j5
    simp only
    by_cases ho : orL [chkE l a, listV l b] = 0
    · rw [if_pos ho, b1]
      simp only [Option.bind_some]
      rw [if_pos hF, hw, if_pos rfl]
      rw [if_neg (show ¬ orL [chkE l a, listV l b] ≠ 0 from fun q => q ho)]
      exact ev_j4 a s2 seen s3 (chkE l a) r ha hs r1 (learnV l a b) (learnV l a b) b3 b3
    · rw [if_neg ho, if_pos hF, hw, if_pos rfl, b1]
      simp only [Option.bind_some]
      rw [if_pos (show orL [chkE l a, listV l b] ≠ 0 from ho)]
      exact ev_j4 a s2 seen s3 (chkE l a) r ha hs r1 ([], orL [chkE l a, listV l b]) (learnV l a b) (by simp) b3
  · have ho : orL [chkE l a, listV l b] = chkE l a := by rw [orL2, if_pos hF]
    have hY : (if chkE l a ≠ 0 then (([] : List EventS), chkE l a) else if (3000 : Int) < b.length then ([], 2) else learnV l a b) = ([], chkE l a) := by
      rw [if_pos hF]
    rw [hY, ho, if_neg hF]
    unfold L_EventsTold_j3
    simp only
    rw [if_neg hF]
    have := ev_j4 a s2 seen s3 (chkE l a) r ha hs r1 ([], chkE l a) ([], chkE l a) (by simp) (by simp)
    simp only [if_pos (show chkE l a ≠ 0 from hF)] at this ⊢
    exact this
theorem EventsTold_plain (L : List Int) : L_EventsTold L = some true := by
  have key : Ok (L_EventsTold L) (fun r => r = true) := by
    unfold L_EventsTold
    refine Ok.gen (Kinds_k (s := ⟨L, 0⟩) (K := 10000) ⟨by simp, by simp⟩ (by omega)) (fun l s0 hl q0 => ?_)
    refine Ok.gen (Range_k q0 (by omega) (by omega) (by omega) (by omega)) (fun n s1 hn q1 => ?_)
    refine Ok.gen (Events_k q1 (by omega) (by omega)) (fun a s2 ha q2 => ?_)
    have ha1 := ha.1
    dsimp only
    rw [clone_eq a (by omega)]
    simp only [Option.bind_some]
    refine Ok.gen (SeenHubs_k q2 (by omega)) (fun sn s3 hs q3 => ?_)
    refine Ok.gen (Next_k q3 (by omega) (by omega) (by omega)) (fun c s4 hc q4 => ?_)
    dsimp only
    have fin : ∀ b : List EventS, EL b → b.length ≤ 100 → Ok (L_EventsTold_j1 (l, s0) (a, s2) (sn, s3) b) (fun r => r = true) := fun b h1 h2 =>
      ⟨true, ev_j1 l s0 a s2 sn s3 b (by omega) hl.2 ha.2 (by omega) (by omega) h1 h2, rfl⟩
    unfold L_EventsTold_j2
    split
    · refine Ok.gen (Range_k q4 (by omega) (by omega) (by omega) (by omega)) (fun k s5 hk q5 => ?_)
      refine Ok.gen (Events_k q5 (by omega) (by omega)) (fun b s6 hb q6 => ?_)
      have := hb.1
      exact fin b hb.2 (by omega)
    · split
      · refine Ok.gen (Range_k q4 (by omega) (by omega) (by omega) (by omega)) (fun k s5 hk q5 => ?_)
        dsimp only
        refine Ok.slc (by omega) (by omega) (by omega) (fun ys hy _ => ?_)
        subst hy
        refine fin _ (fun x hx => ha.2 x (List.mem_of_mem_drop (List.mem_of_mem_take hx))) ?_
        rw [List.length_take]
        omega
      · exact fin a ha.2 (by omega)
  obtain ⟨r, h1, rfl⟩ := key
  exact h1
end Go.Beacon

