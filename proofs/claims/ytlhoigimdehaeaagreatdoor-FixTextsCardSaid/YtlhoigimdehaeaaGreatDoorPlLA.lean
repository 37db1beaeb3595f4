/- Plain facts on what the functions compute. No program in sight. -/
import Derived.Test.YtlhoigimdehaeaaGreatDoorFixP
import Derived.Test.YtlhoigimdehaeaaGreatDoorPlBA
import Derived.Lib.ItoaLen
import Derived.Lib.AtoiTie
import Derived.Lib.AtoiBound
/- Plain facts of the streams that make inputs: each ends, and what it hands out is within bounds. No program in sight. -/
set_option linter.unusedVariables false
set_option linter.unusedSimpArgs false
namespace Go.Beacon
open Go Go.Eng

abbrev Stm := Fleetmake_Stream
/-- At least k more numbers can be drawn. -/
def SOk (s : Stm) (k : Int) : Prop := 0 ≤ s.at_ ∧ s.at_ + k ≤ 4611686018427387904
theorem SOk.less {s : Stm} {k k' : Int} (h : SOk s k) (hk : k' ≤ k) : SOk s k' := ⟨h.1, by have := h.2; omega⟩
def Gen {α : Type} (m : Option (α × Stm)) (k : Int) (P : α → Prop) : Prop := ∃ v s', m = some (v, s') ∧ P v ∧ SOk s' k
theorem Gen.bind {α β : Type} {m : Option (α × Stm)} {k k' : Int} {P : α → Prop} {Q : β → Prop} {f : α × Stm → Option (β × Stm)} (h : Gen m k P) (hf : ∀ v s', P v → SOk s' k → Gen (f (v, s')) k' Q) : Gen (m.bind f) k' Q := by
  obtain ⟨v, s', rfl, h1, h2⟩ := h
  exact hf v s' h1 h2
theorem Gen.ret {α : Type} {v : α} {s : Stm} {k : Int} {P : α → Prop} (h1 : P v) (h2 : SOk s k) : Gen (some (v, s)) k P := ⟨v, s, rfl, h1, h2⟩
theorem Gen.mono {α : Type} {m : Option (α × Stm)} {k k' : Int} {P Q : α → Prop} (h : Gen m k P) (hk : k' ≤ k) (hp : ∀ v, P v → Q v) : Gen m k' Q := by
  obtain ⟨v, s', e, h1, h2⟩ := h
  exact ⟨v, s', e, hp v h1, h2.less hk⟩

theorem Below_ok (x : Int) {n : Int} (h1 : 1 ≤ n) (h2 : n ≤ 4611686018427387904) : ∃ v, Below x n = some v ∧ 0 ≤ v ∧ v < n := by
  unfold Below Below_j1
  rw [if_neg (by omega), rem_ne (by omega)]
  have a1 := Int.lt_tmod_of_pos x (show 0 < n by omega)
  have a2 := Int.tmod_lt_of_pos x (show 0 < n by omega)
  simp only [Option.bind_some]
  split
  · exact ⟨_, rfl, by rw [w64_in] <;> omega, by rw [w64_in] <;> omega⟩
  · exact ⟨_, rfl, by omega, by omega⟩

theorem Next_ok {s : Stm} {n k : Int} (hs : SOk s (k + 1)) (h1 : 1 ≤ n) (h2 : n ≤ 4611686018427387904) (hk : 0 ≤ k) : Gen (Stream_Next s n) k (fun v => 0 ≤ v ∧ v < n) := by
  obtain ⟨a1, a2⟩ := hs
  have e1 : w64 (s.at_ + 1) = s.at_ + 1 := by rw [w64_in] <;> omega
  have e2 : w64 (s.at_ + 1 - 1) = s.at_ := by rw [w64_in] <;> omega
  unfold Stream_Next
  split
  · obtain ⟨v, hv, h3, h4⟩ := Below_ok (w64 (w64 (s.at_ + 1) * 7919)) h1 h2
    rw [hv]
    exact Gen.ret ⟨h3, h4⟩ ⟨by show 0 ≤ w64 (s.at_ + 1); omega, by show w64 (s.at_ + 1) + k ≤ _; omega⟩
  · rename_i hl
    have hl' : (0 : Int) < s.L.length := by omega
    rw [e1, e2, rem_pos hl' a1, quo_ne (by omega)]
    simp only [Option.bind_some]
    obtain ⟨x, hx, _, _⟩ := idx_lt s.L (i := s.at_ % s.L.length) (Int.emod_nonneg _ (by omega)) (Int.emod_lt_of_pos _ hl')
    rw [hx]
    simp only [Option.bind_some]
    obtain ⟨u, hu, _, _⟩ := Below_ok x (n := 1073741824) (by omega) (by omega)
    rw [hu]
    simp only [Option.bind_some]
    obtain ⟨v, hv, h3, h4⟩ := Below_ok (w64 (u + w64 (w64 (s.at_.tdiv s.L.length) * w64 (7919 + s.at_ % s.L.length)))) h1 h2
    rw [hv]
    exact Gen.ret ⟨h3, h4⟩ ⟨by simp only; omega, by simp only; omega⟩

theorem Pick_ok {s : Stm} {l : List Int} {k : Int} (hs : SOk s (k + 1)) (h1 : l ≠ []) (h2 : l.length ≤ 1000) (hk : 0 ≤ k) : Gen (Stream_Pick s l) k (fun v => v ∈ l) := by
  unfold Stream_Pick
  have hl : 0 < l.length := List.length_pos_iff.2 h1
  refine Gen.bind (Next_ok hs (by omega) (by omega) hk) (fun v s' hv hs' => ?_)
  obtain ⟨x, hx, hm, _⟩ := idx_lt l hv.1 hv.2
  simp only [hx, Option.bind_some]
  exact Gen.ret hm hs'
theorem Range_ok {s : Stm} {a b k : Int} (hs : SOk s (k + 1)) (hab : a ≤ b) (ha : -1152921504606846976 ≤ a) (hb : b ≤ 1152921504606846976) (hk : 0 ≤ k) : Gen (Stream_Range s a b) k (fun v => a ≤ v ∧ v ≤ b) := by
  unfold Stream_Range
  have e1 : w64 (b - a) = b - a := by rw [w64_in] <;> omega
  have e2 : w64 (b - a + 1) = b - a + 1 := by rw [w64_in] <;> omega
  rw [if_neg (by omega), e1, e2]
  refine Gen.bind (Next_ok hs (by omega) (by omega) hk) (fun v s' hv hs' => ?_)
  refine Gen.ret ?_ hs'
  simp only
  rw [w64_in] <;> omega
theorem Flip_ok {s : Stm} {n k : Int} (hs : SOk s (k + 1)) (h1 : 1 ≤ n) (h2 : n ≤ 4611686018427387904) (hk : 0 ≤ k) : Gen (Stream_Flip s n) k (fun _ => True) := by
  unfold Stream_Flip
  exact Gen.bind (Next_ok hs h1 h2 hk) (fun v s' hv hs' => Gen.ret trivial hs')
theorem pick_le {l : List Int} {v lo hi : Int} (h : v ∈ l) (hl : l.all (fun x => decide (lo ≤ x ∧ x ≤ hi)) = true) : lo ≤ v ∧ v ≤ hi := by
  rw [List.all_eq_true] at hl
  simpa using hl v h
theorem Some_ok {s : Stm} {l : List Str} {k : Int} (hs : SOk s (k + 1)) (h1 : l ≠ []) (h2 : l.length ≤ 1000) (hk : 0 ≤ k) : Gen (Stream_Some s l) k (fun v => v ∈ l) := by
  unfold Stream_Some
  have hl : 0 < l.length := List.length_pos_iff.2 h1
  refine Gen.bind (Next_ok hs (by omega) (by omega) hk) (fun v s' hv hs' => ?_)
  obtain ⟨x, hx, hm, _⟩ := idx_lt l hv.1 hv.2
  simp only [hx, Option.bind_some]
  exact Gen.ret hm hs'
theorem Odd_ok {s : Stm} {a b k : Int} (hs : SOk s (k + 2)) (hab : a ≤ b) (ha : -1099511627776 ≤ a) (hb : b ≤ 1099511627776) (hk : 0 ≤ k) : Gen (Stream_Odd s a b) k (fun v => -1099511627777 ≤ v ∧ v ≤ 1099511627777) := by
  unfold Stream_Odd
  refine Gen.bind (Flip_ok (k := k + 1) (hs.less (by omega)) (by omega) (by omega) (by omega)) (fun v s' hv hs' => ?_)
  simp only
  split
  · refine Gen.bind (Pick_ok hs' (by simp) (by simp) hk) (fun v s' hv hs' => Gen.ret ?_ hs')
    have e1 : w64 (a - 1) = a - 1 := by rw [w64_in] <;> omega
    have e2 : w64 (b + 1) = b + 1 := by rw [w64_in] <;> omega
    rw [e1, e2] at hv
    simp only [List.mem_cons, List.not_mem_nil, or_false] at hv
    simp only; omega
  · refine Gen.bind (Range_ok hs' hab (by omega) (by omega) hk) (fun v s' hv hs' => Gen.ret ?_ hs')
    simp only; omega
end Go.Beacon

/- Plain facts of keys: the program's check and the reference's. No program in sight. -/
set_option linter.unusedVariables false
set_option linter.unusedSimpArgs false
namespace Go.Beacon
open Go Go.Eng

theorem Out_eq (n lo hi : Int) : base_Out n lo hi = (decide (n < lo) || decide (hi < n)) := rfl
theorem Qin_eq (n lo hi : Int) : Q_in n lo hi = (decide (lo ≤ n) && decide (n ≤ hi)) := rfl
/-! keys -/
def okN (n : Nat) : Bool := (decide (97 ≤ n) && decide (n ≤ 122)) || (decide (48 ≤ n) && decide (n ≤ 57)) || decide (n = 45) || decide (n = 95)
def keyB : Str → Bool
  | [] => false
  | c :: r => decide ((c :: r).length ≤ 40) && (decide (97 ≤ c.toNat) && decide (c.toNat ≤ 122)) && (c :: r).all (fun c => okN c.toNat)
theorem keyB_cons (c : UInt8) (r : Str) : keyB (c :: r) = (decide ((c :: r).length ≤ 40) && (decide (97 ≤ c.toNat) && decide (c.toNat ≤ 122)) && (c :: r).all (fun c => okN c.toNat)) := rfl
theorem Key_loop (s : Str) (hl : s.length ≤ 40) : base_Key_l1 s 0 = some (s.all (fun c => okN c.toNat)) := by
  unfold base_Key_l1
  rw [iter_find s (fun x : Int => base_Key_b1 s x) (fun c => if okN c.toNat = true then none else some false) true (by omega), findE_bool]
  · intro i c h0 h1 hc
    have hB : (if (97 : Int) ≤ (c.toNat : Int) then if (c.toNat : Int) ≤ (122 : Int) then !true else if (48 : Int) ≤ (c.toNat : Int) then if (c.toNat : Int) ≤ (57 : Int) then !true else if (c.toNat : Int) = (45 : Int) then !true else decide (¬ ((c.toNat : Int) = (95 : Int))) else if (c.toNat : Int) = (45 : Int) then !true else decide (¬ ((c.toNat : Int) = (95 : Int))) else if (48 : Int) ≤ (c.toNat : Int) then if (c.toNat : Int) ≤ (57 : Int) then !true else if (c.toNat : Int) = (45 : Int) then !true else decide (¬ ((c.toNat : Int) = (95 : Int))) else if (c.toNat : Int) = (45 : Int) then !true else decide (¬ ((c.toNat : Int) = (95 : Int)))) = !okN c.toNat := by
      unfold okN
      rw [Bool.eq_iff_iff]
      repeat' split
      all_goals simp
      all_goals omega
    rw [base_Key_b1, if_pos h1, hc]
    simp only [Option.bind_some]
    rw [hB]
    unfold base_Key_j2
    rw [w64_in (by omega) (by omega)]
    cases okN c.toNat <;> rfl
  · rw [base_Key_b1, if_neg (by omega)]; rfl
theorem Key_eq (s : Str) : base_Key s = some (keyB s) := by
  unfold base_Key base_Key_j1
  cases s with
  | nil => simp [keyB]
  | cons c r =>
    rw [if_neg (by simp)]
    have hc : idx (c :: r) 0 = some c := rfl
    rw [hc]
    simp only [Option.bind_some]
    by_cases hl : (c :: r).length ≤ 40
    · rw [if_neg (by omega), Key_loop _ hl, keyB_cons]
      by_cases h1 : (c.toNat : Int) < 97
      · rw [if_pos h1]
        have : decide (97 ≤ c.toNat) = false := by simp; omega
        rw [this]; simp
      · rw [if_neg h1]
        have e1 : decide (97 ≤ c.toNat) = true := by simp; omega
        by_cases h2 : (122 : Int) < c.toNat
        · rw [if_pos (by simpa using h2)]
          have : decide (c.toNat ≤ 122) = false := by simp; omega
          rw [this]; simp
        · rw [if_neg (by simpa using h2)]
          have : decide (c.toNat ≤ 122) = true := by simp; omega
          rw [e1, this, decide_eq_true hl]; simp
    · rw [if_pos (by omega), keyB_cons, decide_eq_false hl]; simp
theorem chars_fin : ∀ n : Fin 256, decide (UInt8.ofNat n.val ∈ ([97, 98, 99, 100, 101, 102, 103, 104, 105, 106, 107, 108, 109, 110, 111, 112, 113, 114, 115, 116, 117, 118, 119, 120, 121, 122, 48, 49, 50, 51, 52, 53, 54, 55, 56, 57, 45, 95] : List UInt8)) = okN n.val := by decide +kernel
theorem low_fin : ∀ n : Fin 256, decide (UInt8.ofNat n.val ∈ ([97, 98, 99, 100, 101, 102, 103, 104, 105, 106, 107, 108, 109, 110, 111, 112, 113, 114, 115, 116, 117, 118, 119, 120, 121, 122] : List UInt8)) = (decide (97 ≤ n.val) && decide (n.val ≤ 122)) := by decide +kernel
theorem u8_fin {p : UInt8 → Bool} {q : Nat → Bool} (h : ∀ n : Fin 256, p (UInt8.ofNat n.val) = q n.val) (c : UInt8) : p c = q c.toNat := by
  have := h ⟨c.toNat, c.toNat_lt⟩
  simpa using this
theorem only_eq (s chars : Str) (hl : (s.length : Int) ≤ 4611686018427387904) : Q_only s chars = some (s.all (fun c => decide (c ∈ chars))) := by
  unfold Q_only Q_only_l1
  rw [iter_find s (fun x : Int => Q_only_b1 s chars x) (fun c => if decide (c ∈ chars) = true then none else some false) true hl, findE_bool]
  · intro i c h0 h1 hc
    rw [Q_only_b1, if_pos h1, hc]
    simp only [Option.bind_some, indexByteI, toU8]
    rw [w64_in (by omega) (by omega)]
    by_cases hm : c ∈ chars
    · rw [if_neg (fun h => (indexByte_nonneg _ _).1 h hm)]; simp [hm]
    · rw [if_pos ((indexByte_nonneg _ _).2 hm)]; simp [hm]
  · rw [Q_only_b1, if_neg (by omega)]; rfl
theorem QKey_eq (s : Str) : Q_Key s = some (keyB s) := by
  unfold Q_Key Q_Key_j1
  rw [Qin_eq]
  cases s with
  | nil => rfl
  | cons c r =>
    have hs : slc (c :: r) 0 1 = some [c] := by rw [slc_in (by omega) (by omega) (by simp; omega)]; simp
    rw [hs]
    simp only [Option.bind_some]
    by_cases hl : (c :: r).length ≤ 40
    · rw [if_pos (by simp; simp at hl; omega), only_eq _ _ (by simp)]
      simp only [Option.bind_some, List.all_cons, List.all_nil, Bool.and_true]
      rw [only_eq _ _ (by omega)]
      simp only [Option.bind_some]
      rw [u8_fin (p := fun c => decide (c ∈ ([97, 98, 99, 100, 101, 102, 103, 104, 105, 106, 107, 108, 109, 110, 111, 112, 113, 114, 115, 116, 117, 118, 119, 120, 121, 122] : List UInt8))) (q := fun n => decide (97 ≤ n) && decide (n ≤ 122)) low_fin c]
      have e : (c :: r).all (fun c => decide (c ∈ ([97, 98, 99, 100, 101, 102, 103, 104, 105, 106, 107, 108, 109, 110, 111, 112, 113, 114, 115, 116, 117, 118, 119, 120, 121, 122, 48, 49, 50, 51, 52, 53, 54, 55, 56, 57, 45, 95] : List UInt8))) = (c :: r).all (fun c => okN c.toNat) := by
        congr 1; funext c
        exact u8_fin (p := fun c => decide (c ∈ ([97, 98, 99, 100, 101, 102, 103, 104, 105, 106, 107, 108, 109, 110, 111, 112, 113, 114, 115, 116, 117, 118, 119, 120, 121, 122, 48, 49, 50, 51, 52, 53, 54, 55, 56, 57, 45, 95] : List UInt8))) chars_fin c
      rw [e, keyB_cons, decide_eq_true hl, Bool.true_and]
      split
      · rename_i h; rw [h]; simp
      · rename_i h
        rw [Bool.not_eq_true] at h
        rw [h]; simp
    · rw [if_neg (by simp; simp at hl; omega), keyB_cons, decide_eq_false hl]; rfl

theorem CompareI_eq (a b : Int) : cmp_Compare_int a b = cmpI a b := by
  unfold cmp_Compare_int cmp_isNaN_int cmpI; simp
theorem Moment_eq (n : Int) : base_Moment n = (decide (0 ≤ n) && decide (n ≤ 345686399999)) := by
  unfold base_Moment
  rw [Out_eq, Bool.eq_iff_iff]
  simp
theorem QMoment_eq (n : Int) : Q_Moment n = (decide (0 ≤ n) && decide (n ≤ 345686399999)) := rfl
end Go.Beacon

/- Plain facts: loops by a measure, products within bounds, quotients rounded down. No program in sight. -/
set_option linter.unusedVariables false
set_option linter.unusedSimpArgs false
namespace Go.Beacon
open Go Go.Eng

/-- A loop whose rounds keep something and make a number smaller ends; what its last round tells holds. -/
theorem iter_inv {S A : Type} (f : S → Option (S ⊕ A)) (m : S → Nat) (Inv : S → Prop) (R : A → Prop)
    (h : ∀ s, Inv s → (∃ s', f s = some (.inl s') ∧ Inv s' ∧ m s' < m s) ∨ (∃ a, f s = some (.inr a) ∧ R a)) : ∀ s, Inv s → ∃ a, iter f s = some a ∧ R a := by
  have key : ∀ (n : Nat) s, m s ≤ n → Inv s → ∃ a, iter f s = some a ∧ R a := by
    intro n
    induction n with
    | zero =>
      intro s hm hi
      rcases h s hi with ⟨s', _, _, h3⟩ | ⟨a, h1, h2⟩
      · omega
      · exact ⟨a, by rw [iter_eq, h1]; rfl, h2⟩
    | succ n ih =>
      intro s hm hi
      rcases h s hi with ⟨s', h1, h2, h3⟩ | ⟨a, h1, h2⟩
      · obtain ⟨a, h4, h5⟩ := ih s' (by omega) h2
        exact ⟨a, by rw [iter_eq, h1]; simpa using h4, h5⟩
      · exact ⟨a, by rw [iter_eq, h1]; rfl, h2⟩
  exact fun s hi => key (m s) s (Nat.le_refl _) hi
/-- The same, for a result that may be missing. -/
theorem iter_to {S A : Type} (f : S → Option (S ⊕ A)) (m : S → Nat) (Inv : S → Prop) (r : Option A)
    (h : ∀ s, Inv s → (∃ s', f s = some (.inl s') ∧ Inv s' ∧ m s' < m s) ∨ f s = r.map .inr) : ∀ s, Inv s → iter f s = r := by
  have key : ∀ (n : Nat) s, m s ≤ n → Inv s → iter f s = r := by
    intro n
    induction n with
    | zero =>
      intro s hm hi
      rcases h s hi with ⟨s', _, _, h3⟩ | h1
      · omega
      · rw [iter_eq, h1, map_inr_after]
    | succ n ih =>
      intro s hm hi
      rcases h s hi with ⟨s', h1, h2, h3⟩ | h1
      · rw [iter_eq, h1]; simpa using ih s' (by omega) h2
      · rw [iter_eq, h1, map_inr_after]
  exact fun s hi => key (m s) s (Nat.le_refl _) hi
theorem orL2 (x y : Int) : orL [x, y] = if x ≠ 0 then x else y := by
  by_cases h1 : x = 0 <;> by_cases h2 : y = 0 <;> simp [orL, h1, h2]
end Go.Beacon

/- Strings cut at one byte. No program in sight. -/
set_option linter.unusedVariables false
set_option linter.unusedSimpArgs false
namespace Go.Beacon
open Go Go.Eng

/-- A string cut at each byte c. -/
def splitC (c : UInt8) : Str → List Str
  | [] => [[]]
  | b :: r => if b = c then [] :: splitC c r else match splitC c r with
    | [] => [[b]]
    | h :: t => (b :: h) :: t
theorem splitC_ne (c : UInt8) : ∀ s, splitC c s ≠ []
  | [] => by simp [splitC]
  | b :: r => by
    unfold splitC
    split
    · simp
    · split <;> simp
theorem splitC_length (c : UInt8) : ∀ s, (splitC c s).length ≤ s.length + 1
  | [] => by simp [splitC]
  | b :: r => by
    have ih := splitC_length c r
    unfold splitC
    split
    · simp; omega
    · split
      · simp
      · rename_i h t e; rw [e] at ih; simp at ih ⊢; omega
theorem splitC_part (c : UInt8) : ∀ s, ∀ x ∈ splitC c s, x.length ≤ s.length ∧ c ∉ x
  | [] => by simp [splitC]
  | b :: r => by
    have ih := splitC_part c r
    intro x hx
    unfold splitC at hx
    split at hx
    · rcases List.mem_cons.1 hx with rfl | hx
      · simp
      · have := ih x hx; simp; exact ⟨by omega, this.2⟩
    · rename_i hb
      split at hx
      · rename_i e; exact absurd e (splitC_ne c r)
      · rename_i h t e
        rw [e] at ih
        rcases List.mem_cons.1 hx with rfl | hx
        · have := ih h (by simp); simp; exact ⟨this.1, fun e => hb e.symm, this.2⟩
        · have := ih x (by simp [hx]); simp; exact ⟨by omega, this.2⟩
theorem split_C (c : UInt8) : ∀ s, Lib.split s [c] = splitC c s
  | [] => rfl
  | b :: r => by
    have ih := split_C c r
    unfold Lib.split at ih ⊢
    unfold splitC
    by_cases hb : b = c
    · subst hb
      have hix : Lib.index (b :: r) [b] = 0 := by rw [Lib.index]; simp [List.isPrefixOf]
      rw [if_pos rfl, Lib.count_cons_eq, Nat.add_comm, Lib.splitK, hix, ← ih]
      simp
    · rw [if_neg hb, Lib.count_cons_ne b c r hb, ← ih]
      have hp : ([c] : List UInt8).isPrefixOf (b :: r) = false := by simp [List.isPrefixOf, Ne.symm hb]
      have hix : Lib.index (b :: r) [c] = if Lib.index r [c] == -1 then -1 else Lib.index r [c] + 1 := by rw [Lib.index, hp]; simp
      by_cases hm : Lib.index r [c] = -1
      · rw [Lib.count_miss hm]; rfl
      · have hge := Lib.index_ge r [c]
        obtain ⟨j, hj⟩ : ∃ j : Nat, Lib.index r [c] = j := ⟨(Lib.index r [c]).toNat, by omega⟩
        have hix' : Lib.index (b :: r) [c] = ((j + 1 : Nat) : Int) := by rw [hix, if_neg (fun e => hm (beq_iff_eq.1 e)), hj]; omega
        rw [Lib.count_hit (by simp) hj, Nat.add_comm]
        have n1 : ¬ ((((j + 1 : Nat) : Int) == -1) = true) := fun h => by have := beq_iff_eq.1 h; omega
        have n2 : ¬ ((((j : Nat) : Int) == -1) = true) := fun h => by have := beq_iff_eq.1 h; omega
        simp only [Lib.splitK, hix', hj, if_neg n1, if_neg n2]
        simp [List.take_succ_cons]
/-- strings.Split at one byte. -/
theorem splitO_eq {s : Str} {c : UInt8} (h : s.length ≤ 1000000000) : splitO s [c] = some (splitC c s) := by
  unfold splitO
  rw [if_pos ⟨by omega, by simp⟩]
  congr 1
  have h1 := Lib.splitB_data ⟨#[c]⟩ 0 (Lib.countB ⟨s.toArray⟩ ⟨#[c]⟩) ⟨s.toArray⟩
  rw [← split_C]
  exact h1
theorem splitC_none (c : UInt8) : ∀ s, c ∉ s → splitC c s = [s]
  | [], _ => rfl
  | b :: r, h => by
    simp only [List.mem_cons, not_or] at h
    unfold splitC
    rw [if_neg (fun e => h.1 e.symm), splitC_none c r h.2]
theorem splitC_cons (c : UInt8) : ∀ (x r : Str), c ∉ x → splitC c (x ++ c :: r) = x :: splitC c r
  | [], r, _ => by simp [splitC]
  | b :: x, r, h => by
    simp only [List.mem_cons, not_or] at h
    rw [List.cons_append, splitC, if_neg (fun e => h.1 e.symm), splitC_cons c x r h.2]
end Go.Beacon

/- Names: keys with points between. No program in sight. -/
set_option linter.unusedVariables false
set_option linter.unusedSimpArgs false
namespace Go.Beacon
open Go Go.Eng

/-- A string cut at the first byte c. -/
def cut1 (c : UInt8) : Str → Str × Str × Bool
  | [] => ([], [], false)
  | b :: r => if b = c then ([], r, true) else (b :: (cut1 c r).1, (cut1 c r).2.1, (cut1 c r).2.2)
theorem cut_C (c : UInt8) : ∀ s, Lib.cut s [c] = cut1 c s
  | [] => rfl
  | b :: r => by
    have ih := cut_C c r
    unfold Lib.cut at ih ⊢
    unfold cut1
    by_cases hb : b = c
    · subst hb
      have hix : Lib.index (b :: r) [b] = 0 := by rw [Lib.index]; simp [List.isPrefixOf]
      rw [if_pos rfl, hix]; simp
    · rw [if_neg hb, ← ih]
      have hp : ([c] : List UInt8).isPrefixOf (b :: r) = false := by simp [List.isPrefixOf, Ne.symm hb]
      have hix : Lib.index (b :: r) [c] = if Lib.index r [c] == -1 then -1 else Lib.index r [c] + 1 := by rw [Lib.index, hp]; simp
      by_cases hm : Lib.index r [c] = -1
      · rw [hix, hm]; simp
      · have hge := Lib.index_ge r [c]
        have hn : ¬ ((Lib.index r [c] == -1) = true) := fun e => hm (beq_iff_eq.1 e)
        obtain ⟨j, hj⟩ : ∃ j : Nat, Lib.index r [c] = j := ⟨(Lib.index r [c]).toNat, by omega⟩
        have hix' : Lib.index (b :: r) [c] = ((j + 1 : Nat) : Int) := by rw [hix, if_neg hn, hj]; omega
        rw [hix', hj, if_pos (by omega), if_pos (by omega)]
        simp
theorem cutO_eq {s : Str} {c : UInt8} (h : s.length ≤ 1000000000) : cutO s [c] = some (cut1 c s) := by
  unfold cutO
  rw [if_pos (by omega), cut_C]
theorem cut1_len (c : UInt8) : ∀ s, (cut1 c s).1.length ≤ s.length ∧ (cut1 c s).2.1.length ≤ s.length
  | [] => ⟨Nat.le_refl _, Nat.le_refl _⟩
  | b :: r => by
    have ih := cut1_len c r
    unfold cut1
    split
    · simp
    · simp; omega
end Go.Beacon

/- Streams, in the form that is stepped by one text: what can still be drawn is counted down. No program in sight. -/
set_option linter.unusedVariables false
set_option linter.unusedSimpArgs false
namespace Go.Beacon
open Go Go.Eng

theorem Next_k {s : Stm} {n K : Int} (hs : SOk s K) (hK : 1 ≤ K) (h1 : 1 ≤ n) (h2 : n ≤ 4611686018427387904) : Gen (Stream_Next s n) (K - 1) (fun v => 0 ≤ v ∧ v < n) :=
  Next_ok (hs.less (by omega)) h1 h2 (by omega)
theorem Pick_k {s : Stm} {l : List Int} {K : Int} (hs : SOk s K) (hK : 1 ≤ K) (h1 : l ≠ []) (h2 : l.length ≤ 1000) : Gen (Stream_Pick s l) (K - 1) (fun v => v ∈ l) :=
  Pick_ok (hs.less (by omega)) h1 h2 (by omega)
theorem Range_k {s : Stm} {a b K : Int} (hs : SOk s K) (hK : 1 ≤ K) (hab : a ≤ b) (ha : -1152921504606846976 ≤ a) (hb : b ≤ 1152921504606846976) : Gen (Stream_Range s a b) (K - 1) (fun v => a ≤ v ∧ v ≤ b) :=
  Range_ok (hs.less (by omega)) hab ha hb (by omega)
end Go.Beacon

/- Plain functions that end, and what their results are like: one lemma for each step. No program in sight. -/
set_option linter.unusedVariables false
set_option linter.unusedSimpArgs false
namespace Go.Beacon
open Go Go.Eng

/-- It ends, and its result is so. -/
def Ok {α : Type} (m : Option α) (Q : α → Prop) : Prop := ∃ r, m = some r ∧ Q r
theorem Ok.ret {α : Type} {v : α} {Q : α → Prop} (h : Q v) : Ok (some v) Q := ⟨v, rfl, h⟩
theorem Ok.mono {α : Type} {m : Option α} {P Q : α → Prop} (h : Ok m P) (hp : ∀ v, P v → Q v) : Ok m Q := by
  obtain ⟨r, h1, h2⟩ := h; exact ⟨r, h1, hp r h2⟩
theorem Ok.bind {α β : Type} {m : Option α} {f : α → Option β} {P : α → Prop} {Q : β → Prop} (h : Ok m P) (hf : ∀ v, P v → Ok (f v) Q) : Ok (m.bind f) Q := by
  obtain ⟨r, rfl, h2⟩ := h; exact hf r h2
theorem Ok.is {α β : Type} {m : Option α} {v : α} {f : α → Option β} {Q : β → Prop} (h : m = some v) (hf : Ok (f v) Q) : Ok (m.bind f) Q := by rw [h]; exact hf
theorem Ok.inr {α β : Type} {m : Option β} {Q : α ⊕ β → Prop} (h : Ok m (fun r => Q (.inr r))) : Ok (Option.map .inr m) Q := by
  obtain ⟨r, rfl, h2⟩ := h; exact ⟨_, rfl, h2⟩
theorem Ok.gen {α β : Type} {m : Option (α × Stm)} {k : Int} {P : α → Prop} {f : α × Stm → Option β} {Q : β → Prop} (h : Gen m k P) (hf : ∀ v s', P v → SOk s' k → Ok (f (v, s')) Q) : Ok (m.bind f) Q := by
  obtain ⟨v, s', rfl, h1, h2⟩ := h; exact hf v s' h1 h2
theorem Gen.of {α : Type} {m : Option (α × Stm)} {k : Int} {P : α → Prop} (h : Ok m (fun r => P r.1 ∧ SOk r.2 k)) : Gen m k P := by
  obtain ⟨⟨v, s⟩, h1, h2, h3⟩ := h; exact ⟨v, s, h1, h2, h3⟩
theorem Ok.of {α : Type} {m : Option (α × Stm)} {k : Int} {P : α → Prop} (h : Gen m k P) : Ok m (fun r => P r.1 ∧ SOk r.2 k) := by
  obtain ⟨v, s, h1, h2, h3⟩ := h; exact ⟨(v, s), h1, h2, h3⟩
theorem Ok.idx {α β : Type} {xs : List α} {i : Int} {f : α → Option β} {Q : β → Prop} (h0 : 0 ≤ i) (h1 : i < xs.length) (hf : ∀ x, idx xs i = some x → x ∈ xs → Ok (f x) Q) : Ok ((idx xs i).bind f) Q := by
  obtain ⟨x, hx, hm, _⟩ := idx_lt xs h0 h1
  rw [hx]; exact hf x hx hm
theorem Ok.app {α β : Type} {xs ys : List α} {f : List α → Option β} {Q : β → Prop} (h : xs.length + ys.length ≤ 1000000000) (hf : Ok (f (xs ++ ys)) Q) : Ok ((app xs ys).bind f) Q := by
  rw [app_le h]; exact hf
theorem Ok.slc {α β : Type} {xs : List α} {a b : Int} {f : List α → Option β} {Q : β → Prop} (h0 : 0 ≤ a) (h1 : a ≤ b) (h2 : b ≤ xs.length) (hf : ∀ ys : List α, ys = (xs.drop a.toNat).take (b.toNat - a.toNat) → (ys.length : Int) = b - a → Ok (f ys) Q) : Ok ((slc xs a b).bind f) Q := by
  rw [slc_in h0 h1 h2]; exact hf _ rfl (by simp; omega)
theorem cat_le {a b : Str} (h : a.length + b.length ≤ 9223372036854775807) : catO a b = some (a ++ b) := by unfold catO; rw [if_pos h]
theorem Ok.cat {β : Type} {a b : Str} {f : Str → Option β} {Q : β → Prop} (h : a.length + b.length ≤ 9223372036854775807) (hf : Ok (f (a ++ b)) Q) : Ok ((catO a b).bind f) Q := by
  rw [cat_le h]; exact hf
/-- What a round of a loop may tell: it keeps something and makes a number smaller, or it is the last. -/
abbrev Stp {S A : Type} (m : S → Nat) (Inv : S → Prop) (R : A → Prop) (s : S) : S ⊕ A → Prop
  | .inl s' => Inv s' ∧ m s' < m s
  | .inr a => R a
theorem Ok.iter {S A : Type} {f : S → Option (S ⊕ A)} {R : A → Prop} (m : S → Nat) (Inv : S → Prop)
    (h : ∀ s, Inv s → Ok (f s) (Stp m Inv R s)) (s : S) (hs : Inv s) : Ok (iter f s) R := by
  refine iter_inv f m Inv R (fun s hi => ?_) s hs
  obtain ⟨r, h1, h2⟩ := h s hi
  cases r with
  | inl s' => exact .inl ⟨s', h1, h2.1, h2.2⟩
  | inr a => exact .inr ⟨a, h1, h2⟩
/-- A round of a loop over the places of a list. -/
abbrev Rng {A : Type} (N : Nat) (R : A → Prop) (i : Int) : Int ⊕ A → Prop
  | .inl j => j = i + 1 ∧ i < N
  | .inr a => R a
theorem Ok.range {A : Type} {f : Int → Option (Int ⊕ A)} {R : A → Prop} (N : Nat) (h : ∀ i : Int, 0 ≤ i → i ≤ N → Ok (f i) (Rng N R i)) : Ok (Eng.iter f 0) R := by
  refine Ok.iter (fun i : Int => N + 1 - i.toNat) (fun i : Int => 0 ≤ i ∧ i ≤ N) (fun i hi => ?_) 0 ⟨by omega, by omega⟩
  refine (h i hi.1 hi.2).mono (fun r hr => ?_)
  cases r with
  | inl j => simp only [Rng, Stp] at hr ⊢; omega
  | inr a => exact hr
theorem strR_len (n : Int) : (strR n).length ≤ 4 := by
  unfold strR Utf8.encode
  simp only
  repeat' split
  all_goals simp
end Go.Beacon

/- Reading a text line by line: the program's way and the reference's. No program in sight. -/
set_option linter.unusedVariables false
set_option linter.unusedSimpArgs false
namespace Go.Beacon
open Go Go.Eng

/-- The lines of a text, and whether the last one is ended. -/
def lineL (t : Str) : List Str × Bool := if t = [] then ([], true) else if t.getLast? = some 10 then (splitC 10 t.dropLast, true) else (splitC 10 t, false)
theorem snoc_of {t : Str} (h : t ≠ []) : ∃ b c, t = b ++ [c] := ⟨t.dropLast, t.getLast h, (List.dropLast_concat_getLast h).symm⟩
theorem Lines_eq (t : Str) (h : t.length ≤ 1000000) : base_Lines t = some (lineL t) := by
  unfold base_Lines lineL
  by_cases h0 : t = []
  · rw [if_pos h0, if_pos h0]
  · rw [if_neg h0, if_neg h0]
    obtain ⟨b, c, rfl⟩ := snoc_of h0
    have hl : ((b ++ [c]).length : Int) = b.length + 1 := by simp
    have hb : b.length ≤ 1000000 := by simp at h; omega
    have hlast : (b ++ [c]).getLast? = some c := by simp
    have hdl : (b ++ [c]).dropLast = b := by simp
    have h1 : w64 (((b ++ [c]).length : Int) - ((([10] : Str).length : Nat) : Int)) = (b.length : Int) := by
      rw [hl]
      simp only [List.length_cons, List.length_nil]
      rw [w64_in (by omega) (by omega)]; omega
    have hs : internal_stringslite_HasSuffix (b ++ [c]) [10] = some (decide (c = 10)) := by
      unfold internal_stringslite_HasSuffix internal_stringslite_HasSuffix_j1
      rw [if_pos (by rw [hl]; simp; omega), h1, slc_in (by omega) (by omega) (by omega)]
      simp only [Option.bind_some]
      have : ((b ++ [c]).drop (b.length : Int).toNat).take (((b ++ [c]).length : Int).toNat - (b.length : Int).toNat) = [c] := by simp
      rw [this]
      simp
    have hc : strings_CutSuffix (b ++ [c]) [10] = some (if c = 10 then (b, true) else (b ++ [c], false)) := by
      unfold strings_CutSuffix internal_stringslite_CutSuffix
      rw [hs]
      simp only [Option.bind_some]
      by_cases e : c = 10
      · rw [decide_eq_true e, if_neg (by simp), h1, slc_in (by omega) (by omega) (by omega), if_pos e]
        simp
      · rw [decide_eq_false e, if_pos (by simp), if_neg e]; rfl
    rw [hc, hlast, hdl]
    simp only [Option.bind_some]
    by_cases e : c = 10
    · rw [if_pos e, if_pos (by rw [e])]
      simp only
      rw [splitO_eq (by omega)]; rfl
    · rw [if_neg e, if_neg (fun h => e (Option.some.inj h))]
      simp only
      rw [splitO_eq (by simp; omega)]; rfl
theorem cut1_hit (c : UInt8) : ∀ s : Str, (cut1 c s).2.2 = true → s = (cut1 c s).1 ++ c :: (cut1 c s).2.1 ∧ c ∉ (cut1 c s).1
  | [] => fun h => by cases h
  | b :: r => by
    have ih := cut1_hit c r
    unfold cut1
    by_cases hb : b = c
    · rw [if_pos hb]; subst hb; intro _; exact ⟨rfl, by simp⟩
    · rw [if_neg hb]
      intro h
      obtain ⟨h1, h2⟩ := ih h
      refine ⟨?_, ?_⟩
      · simp only [List.cons_append]
        rw [← h1]
      · simp only [List.mem_cons, not_or]
        exact ⟨fun e => hb e.symm, h2⟩
theorem cut1_miss2 (c : UInt8) : ∀ s : Str, (cut1 c s).2.2 = false → c ∉ s
  | [] => fun _ => by simp
  | b :: r => by
    have ih := cut1_miss2 c r
    unfold cut1
    by_cases hb : b = c
    · rw [if_pos hb]; intro h; cases h
    · rw [if_neg hb]
      intro h
      simp only [List.mem_cons, not_or]
      exact ⟨fun e => hb e.symm, ih h⟩
theorem lineL_miss {t : Str} (h0 : t ≠ []) (h : (cut1 10 t).2.2 = false) : lineL t = ([t], false) := by
  have hn := cut1_miss2 10 t h
  unfold lineL
  rw [if_neg h0, if_neg (fun e => hn (List.mem_of_getLast? e)), splitC_none 10 t hn]
theorem lineL_hit {t : Str} (h : (cut1 10 t).2.2 = true) : lineL t = ((cut1 10 t).1 :: (lineL (cut1 10 t).2.1).1, (lineL (cut1 10 t).2.1).2) := by
  obtain ⟨h1, h2⟩ := cut1_hit 10 t h
  generalize (cut1 10 t).1 = a at h1 h2 ⊢
  generalize (cut1 10 t).2.1 = r at h1 ⊢
  subst h1
  unfold lineL
  rw [if_neg (by simp)]
  by_cases hr : r = []
  · subst hr
    rw [if_pos (by simp), if_pos rfl]
    have : (a ++ [10]).dropLast = a := by simp
    rw [this, splitC_none 10 a h2]
  · rw [if_neg hr]
    obtain ⟨b, c, rfl⟩ := snoc_of hr
    have e1 : (a ++ 10 :: (b ++ [c])).getLast? = some c := by
      rw [show a ++ 10 :: (b ++ [c]) = (a ++ 10 :: b) ++ [c] by simp]; exact List.getLast?_concat
    have e2 : (b ++ [c]).getLast? = some c := by simp
    have e3 : (a ++ 10 :: (b ++ [c])).dropLast = a ++ 10 :: b := by
      rw [show a ++ 10 :: (b ++ [c]) = (a ++ 10 :: b) ++ [c] by simp]; exact List.dropLast_concat
    have e4 : (b ++ [c]).dropLast = b := List.dropLast_concat
    rw [e1, e2, e3, e4]
    by_cases hc : c = 10
    · rw [if_pos (by rw [hc]), if_pos (by rw [hc]), splitC_cons 10 a b h2]
    · rw [if_neg (fun e => hc (Option.some.inj e)), if_neg (fun e => hc (Option.some.inj e)), splitC_cons 10 a _ h2]
theorem lineL_len (t : Str) : (lineL t).1.length ≤ t.length + 1 ∧ ∀ s ∈ (lineL t).1, s.length ≤ t.length := by
  unfold lineL
  split
  · simp
  · split
    · have h1 := splitC_length 10 t.dropLast
      have h2 : t.dropLast.length ≤ t.length := by simp
      refine ⟨by simp only; omega, fun s hs => ?_⟩
      have := (splitC_part 10 t.dropLast s hs).1
      omega
    · exact ⟨splitC_length 10 t, fun s hs => (splitC_part 10 t s hs).1⟩
section
variable {α : Type} (pl : Str → Option α)
/-- Reading lines one after another. -/
def eachS (ends : Bool) : List Str → Int → List α → Int × Bool × List α
  | [], _, X => (0, true, X)
  | s :: r, i, X => if ends = false ∧ r = [] then (i, false, X) else match pl s with
    | none => (i, false, X)
    | some x => eachS ends r (i + 1) (X ++ [x])
theorem eachS_all (P : α → Prop) (hp : ∀ s x, pl s = some x → P x) (ends : Bool) : ∀ (l : List Str) (i : Int) (X : List α), (∀ x ∈ X, P x) → ∀ x ∈ (eachS pl ends l i X).2.2, P x
  | [], i, X, h => h
  | s :: r, i, X, h => by
    unfold eachS
    split
    · exact h
    · cases hs : pl s with
      | none => exact h
      | some x =>
        refine eachS_all P hp ends r (i + 1) (X ++ [x]) (fun y hy => ?_)
        rcases List.mem_append.1 hy with e | e
        · exact h y e
        · rw [List.mem_singleton] at e; subst e; exact hp s _ hs
theorem eachS_len (ends : Bool) : ∀ (l : List Str) (i : Int) (X : List α), (eachS pl ends l i X).2.2.length ≤ X.length + l.length
  | [], i, X => by simp [eachS]
  | s :: r, i, X => by
    unfold eachS
    split
    · simp
    · cases hs : pl s with
      | none => simp
      | some x =>
        have := eachS_len ends r (i + 1) (X ++ [x])
        simp only [List.length_append, List.length_cons, List.length_nil] at this ⊢
        omega
/-- What a reader makes of a line. -/
def okR (X : List α) : Option α → Bool × List α
  | some x => (true, X ++ [x])
  | none => (false, X)
theorem each_iter (rd : Str → List α → Option (Bool × List α)) (L : List Str) (ends : Bool) (hl : L.length ≤ 1000000) (hrd : ∀ s ∈ L, ∀ X : List α, X.length ≤ 1000000 → rd s X = some (okR X (pl s)))
    (b : List α → Int → Option ((List α × Int) ⊕ (Int × Bool × List α)))
    (hb : ∀ X n, b X n = if n < (L.length : Int) then (idx L n).bind fun v => if (!ends) = true then (if n = w64 ((L.length : Int) - 1) then some (.inr (n, false, X)) else (rd v X).bind fun z => if (!z.1) = true then some (.inr (n, false, z.2)) else some (.inl (z.2, w64 (n + 1)))) else (rd v X).bind fun z => if (!z.1) = true then some (.inr (n, false, z.2)) else some (.inl (z.2, w64 (n + 1))) else some (.inr (0, true, X))) :
    iter (fun x : List α × Int => b x.1 x.2) ([], 0) = some (eachS pl ends L 0 []) := by
  have key : ∀ (m : Nat) (n : Int) (X : List α), 0 ≤ n → n + m = L.length → X.length ≤ n.toNat → iter (fun x : List α × Int => b x.1 x.2) (X, n) = some (eachS pl ends (L.drop n.toNat) n X) := by
    intro m
    induction m with
    | zero =>
      intro n X h0 hn hX
      rw [iter_eq]
      simp only
      rw [hb, if_neg (by omega), List.drop_of_length_le (by omega)]; rfl
    | succ m ih =>
      intro n X h0 hn hX
      obtain ⟨s, hs, hm, hd⟩ := idx_lt L h0 (by omega)
      have e : (n + 1).toNat = n.toNat + 1 := by omega
      rw [iter_eq]
      simp only
      rw [hb, if_pos (by omega), hs, hd]
      simp only [Option.bind_some]
      rw [hrd s hm X (by omega), w64_in (x := (L.length : Int) - 1) (by omega) (by omega), w64_in (x := n + 1) (by omega) (by omega)]
      simp only [Option.bind_some]
      have hnil : L.drop (n + 1).toNat = [] ↔ n = (L.length : Int) - 1 := by
        rw [List.drop_eq_nil_iff]; omega
      have ih' : ∀ x, (iter (fun x : List α × Int => b x.1 x.2) (X ++ [x], n + 1)) = some (eachS pl ends (L.drop (n + 1).toNat) (n + 1) (X ++ [x])) := fun x => ih (n + 1) (X ++ [x]) (by omega) (by omega) (by simp; omega)
      unfold eachS
      have hlast : ends = false → n = (L.length : Int) - 1 → (if (!ends) = true then (if n = (L.length : Int) - 1 then some (.inr (n, false, X)) else if (!(okR X (pl s)).1) = true then some (.inr (n, false, (okR X (pl s)).2)) else some (.inl ((okR X (pl s)).2, n + 1))) else if (!(okR X (pl s)).1) = true then some (.inr (n, false, (okR X (pl s)).2)) else some (.inl ((okR X (pl s)).2, n + 1)) : Option ((List α × Int) ⊕ (Int × Bool × List α))) = some (.inr (n, false, X)) := by
        intro e1 e2
        rw [e1, if_pos (by simp), if_pos e2]
      by_cases hz : ends = false ∧ L.drop (n + 1).toNat = []
      · rw [if_pos hz, hlast hz.1 (hnil.1 hz.2)]; rfl
      · rw [if_neg hz]
        have hstep : (if (!ends) = true then (if n = (L.length : Int) - 1 then some (.inr (n, false, X)) else if (!(okR X (pl s)).1) = true then some (.inr (n, false, (okR X (pl s)).2)) else some (.inl ((okR X (pl s)).2, n + 1))) else if (!(okR X (pl s)).1) = true then some (.inr (n, false, (okR X (pl s)).2)) else some (.inl ((okR X (pl s)).2, n + 1)) : Option ((List α × Int) ⊕ (Int × Bool × List α))) = (if (!(okR X (pl s)).1) = true then some (.inr (n, false, (okR X (pl s)).2)) else some (.inl ((okR X (pl s)).2, n + 1))) := by
          cases ends with
          | true => rw [if_neg (by simp)]
          | false => rw [if_pos (by simp), if_neg (fun h => hz ⟨rfl, hnil.2 h⟩)]
        rw [hstep]
        cases hp : pl s with
        | none => rfl
        | some x => exact ih' x
  have := key L.length 0 [] (by omega) (by omega) (by simp)
  simpa using this
theorem lines_iter (rd : Str → List α → Option (Bool × List α)) (hrd : ∀ s : Str, s.length ≤ 1000000 → ∀ X : List α, X.length ≤ 1000000 → ∃ z, rd s X = some z ∧ z.1 = (pl s).isSome ∧ (∀ x, pl s = some x → z.2 = X ++ [x]))
    (b : List α → Str → Int → Option ((List α × Str × Int) ⊕ (Int × Bool × List α)))
    (hb : ∀ X t n, b X t n = if t ≠ [] then (cutO t [10]).bind fun v => if (!v.2.2) = true then some (.inr (n, false, X)) else (rd v.1 X).bind fun z => if (!z.1) = true then some (.inr (n, false, z.2)) else some (.inl (z.2, v.2.1, w64 (n + 1))) else some (.inr (0, true, X))) :
    ∀ (m : Nat) (t : Str) (X : List α) (i : Int), t.length ≤ m → X.length + t.length ≤ 1000000 → 0 ≤ i → i + t.length ≤ 1000000 →
      ∃ Y, iter (fun x : List α × Str × Int => b x.1 x.2.1 x.2.2) (X, t, i) = some ((eachS pl (lineL t).2 (lineL t).1 i X).1, (eachS pl (lineL t).2 (lineL t).1 i X).2.1, Y) ∧
        ((eachS pl (lineL t).2 (lineL t).1 i X).2.1 = true → Y = (eachS pl (lineL t).2 (lineL t).1 i X).2.2) := by
  have nil : ∀ (X : List α) (i : Int), ∃ Y, iter (fun x : List α × Str × Int => b x.1 x.2.1 x.2.2) (X, [], i) = some ((eachS pl (lineL []).2 (lineL []).1 i X).1, (eachS pl (lineL []).2 (lineL []).1 i X).2.1, Y) ∧
        ((eachS pl (lineL []).2 (lineL []).1 i X).2.1 = true → Y = (eachS pl (lineL []).2 (lineL []).1 i X).2.2) := by
    intro X i
    refine ⟨X, ?_, fun _ => rfl⟩
    rw [iter_eq]
    simp only
    rw [hb, if_neg (by simp)]; rfl
  intro m
  induction m with
  | zero =>
    intro t X i hm _ _ _
    obtain rfl : t = [] := List.length_eq_zero_iff.1 (by omega)
    exact nil X i
  | succ m ih =>
    intro t X i hm hX h0 hi
    by_cases ht : t = []
    · subst ht; exact nil X i
    · have hpos := List.length_pos_iff.2 ht
      have hlen := cut1_len 10 t
      rw [iter_eq]
      simp only
      rw [hb, if_pos ht, cutO_eq (by omega)]
      simp only [Option.bind_some]
      cases hc : (cut1 10 t).2.2 with
      | false =>
        rw [if_pos (by simp), lineL_miss ht hc]
        refine ⟨X, ?_, fun h => ?_⟩
        · simp [eachS]
        · simp [eachS] at h
      | true =>
        have hit := cut1_hit 10 t hc
        have hsum : t.length = (cut1 10 t).1.length + 1 + (cut1 10 t).2.1.length := by
          have := congrArg List.length hit.1
          simp at this; omega
        rw [if_neg (by simp), lineL_hit hc]
        obtain ⟨z, z1, z2, z3⟩ := hrd (cut1 10 t).1 (by omega) X (by omega)
        rw [z1]
        simp only [Option.bind_some]
        have hne : ¬ ((lineL (cut1 10 t).2.1).2 = false ∧ (lineL (cut1 10 t).2.1).1 = []) := by
          rintro ⟨e1, e2⟩
          unfold lineL at e1 e2
          split at e1
          · cases e1
          · rename_i hr
            rw [if_neg hr] at e2
            split at e2
            · exact splitC_ne 10 _ e2
            · exact splitC_ne 10 _ e2
        unfold eachS
        rw [if_neg hne]
        cases hp : pl (cut1 10 t).1 with
        | none =>
          rw [hp] at z2
          have z2' : z.1 = false := z2
          rw [z2', if_pos (by simp)]
          refine ⟨z.2, rfl, fun h => by cases h⟩
        | some x =>
          rw [hp] at z2
          have z2' : z.1 = true := z2
          rw [z2', if_neg (by simp), z3 x hp, w64_in (by omega) (by omega)]
          exact ih (cut1 10 t).2.1 (X ++ [x]) (i + 1) (by omega) (by simp; omega) (by omega) (by omega)
end
/-! words of a line -/
theorem findE_empty {A : Type} (a d : A) : ∀ L : List Str, findE (fun s : Str => if s = [] then some a else none) d L = if ([] : Str) ∈ L then a else d
  | [] => rfl
  | x :: L => by
    rw [findE, findE_empty a d L]
    by_cases h : x = []
    · subst h
      have hm : ([] : Str) ∈ ([] : Str) :: L := by simp
      rw [if_pos rfl, if_pos hm]
    · rw [if_neg h]
      have : ([] : Str) ∈ x :: L ↔ ([] : Str) ∈ L := by simp [Ne.symm h]
      simp only [this]
theorem Words_eq (s : Str) (k : Int) (h : s.length ≤ 1000000) : base_Words s k = some (if ((splitC 32 s).length : Int) ≠ k ∨ ([] : Str) ∈ splitC 32 s then ([], false) else (splitC 32 s, true)) := by
  unfold base_Words
  rw [splitO_eq (by omega)]
  simp only [Option.bind_some]
  have hl := splitC_length 32 s
  by_cases hk : ((splitC 32 s).length : Int) ≠ k
  · rw [if_pos hk, if_pos (.inl hk)]
  · rw [if_neg hk]
    unfold base_Words_l1
    rw [iter_find (splitC 32 s) (fun x : Int => base_Words_b1 (splitC 32 s) x) (fun v : Str => if v = [] then some (([] : List Str), false) else none) (splitC 32 s, true) (by omega)
      (fun i x h0 h1 hx => by
        rw [base_Words_b1, if_pos h1, hx]
        simp only [Option.bind_some]
        by_cases c : x = []
        · rw [if_pos c, if_pos c]; rfl
        · rw [if_neg c, if_neg c, w64_in (by omega) (by omega)])
      (by rw [base_Words_b1, if_neg (by omega)]; rfl), findE_empty]
    by_cases he : ([] : Str) ∈ splitC 32 s
    · rw [if_pos he, if_pos (.inr he)]
    · rw [if_neg he, if_neg (by rintro (e | e); exact hk e; exact he e)]
theorem Contains_eq (L : List Str) (hl : L.length ≤ 10000000) : slices_Contains_string_string L [] = some (decide (([] : Str) ∈ L)) := by
  unfold slices_Contains_string_string slices_Index_string_string
  have key : ∀ (m : Nat) (n : Int), 0 ≤ n → n + m = L.length → ∃ j, slices_Index_string_string_l1 L [] n = some j ∧ (0 ≤ j ↔ ([] : Str) ∈ L.drop n.toNat) := by
    intro m
    induction m with
    | zero =>
      intro n h0 hn
      refine ⟨-1, ?_, ?_⟩
      · unfold slices_Index_string_string_l1
        rw [iter_eq, slices_Index_string_string_b1, if_neg (by omega), map_inr_after]
      · rw [List.drop_of_length_le (by omega)]; simp
    | succ m ih =>
      intro n h0 hn
      obtain ⟨s, hs, _, hd⟩ := idx_lt L h0 (by omega)
      unfold slices_Index_string_string_l1
      rw [iter_eq, slices_Index_string_string_b1, if_pos (by omega), hs]
      simp only [Option.bind_some]
      by_cases e : ([] : Str) = s
      · rw [if_pos e, map_inr_after]
        exact ⟨n, rfl, by rw [hd, ← e]; simp; omega⟩
      · rw [if_neg e, w64_in (by omega) (by omega)]
        simp only [Option.bind_some, after_inl]
        obtain ⟨j, j1, j2⟩ := ih (n + 1) (by omega) (by omega)
        exact ⟨j, j1, by rw [hd, j2]; simp [e]⟩
  obtain ⟨j, j1, j2⟩ := key L.length 0 (by omega) (by omega)
  rw [j1]
  simp only [Option.bind_some]
  congr 1
  rw [Bool.eq_iff_iff]
  simpa using j2
/-! a string that is changed -/
theorem Changed_g {s : Stm} {t w : Str} {K : Int} (hs : SOk s K) (hK : 3 ≤ K) (ht : t.length ≤ 1000000) (hw : w.length ≤ 1000) : Gen (Stream_Changed s t w) (K - 3) (fun r => r.length ≤ t.length + 4 + w.length) := by
  unfold Stream_Changed Stream_Changed_j1
  refine Gen.of ?_
  split
  · exact Ok.ret ⟨by show w.length ≤ _; omega, hs.less (by omega)⟩
  · rename_i hne
    simp only [Bool.or_eq_true, decide_eq_true_eq, not_or] at hne
    have l1 := List.length_pos_iff.2 hne.1
    have l2 := List.length_pos_iff.2 hne.2
    refine Ok.gen (Next_k hs (by omega) (by omega) (by omega)) (fun i s1 h1 q1 => ?_)
    refine Ok.gen (Next_k q1 (by omega) (by omega) (by omega)) (fun j s2 h2 q2 => ?_)
    refine Ok.idx h2.1 h2.2 (fun c hc hm => ?_)
    refine Ok.gen (Next_k q2 (by omega) (by omega) (by omega)) (fun k s3 h3 q3 => ?_)
    dsimp only at h1 h2 h3 ⊢
    have w1 : w64 (i + 1) = i + 1 := w64_in (by omega) (by omega)
    have lr := strR_len (IntKind.i32.wrap (c.toNat : Int))
    rw [w1]
    split
    · refine Ok.slc (by omega) (by omega) (by omega) (fun a ha la => ?_)
      refine Ok.cat (by omega) ?_
      refine Ok.slc (by omega) (by omega) (by omega) (fun b hb lb => ?_)
      refine Ok.cat (by simp; omega) ?_
      exact Ok.ret ⟨by simp; omega, q3.less (by omega)⟩
    · split
      · refine Ok.slc (by omega) (by omega) (by omega) (fun a ha la => ?_)
        refine Ok.cat (by omega) ?_
        refine Ok.slc (by omega) (by omega) (by omega) (fun b hb lb => ?_)
        refine Ok.cat (by simp; omega) ?_
        exact Ok.ret ⟨by simp; omega, q3.less (by omega)⟩
      · refine Ok.slc (by omega) (by omega) (by omega) (fun a ha la => ?_)
        refine Ok.slc (by omega) (by omega) (by omega) (fun b hb lb => ?_)
        refine Ok.cat (by omega) ?_
        exact Ok.ret ⟨by simp; omega, q3.less (by omega)⟩
end Go.Beacon

/- Numbers in their one spelling: what both readers of numbers take. No program in sight. -/
set_option linter.unusedVariables false
set_option linter.unusedSimpArgs false
namespace Go.Beacon
open Go Go.Eng

def isDig (c : UInt8) : Bool := decide (48 ≤ c.toNat) && decide (c.toNat ≤ 57)
theorem isDig_val {c : UInt8} (h : isDig c = true) : Lib.digitVal c = some (c.toNat - 48) := by
  unfold isDig at h; simp at h
  unfold Lib.digitVal; rw [if_pos h]
theorem val_dig {c : UInt8} {d : Nat} (h : Lib.digitVal c = some d) : isDig c = true ∧ d = c.toNat - 48 ∧ UInt8.ofNat (48 + d) = c := by
  obtain ⟨h1, h2, h3⟩ := Lib.digitVal_eq h
  refine ⟨by unfold isDig; simp; omega, h3, ?_⟩
  apply UInt8.toNat_inj.1
  rw [UInt8.toNat_ofNat']
  omega
theorem decFrom_all : ∀ (l : Str) (acc : Nat), l.all isDig = true → ∃ m, Lib.decFrom acc l = some m
  | [], acc, _ => ⟨acc, rfl⟩
  | b :: r, acc, h => by
    simp only [List.all_cons, Bool.and_eq_true] at h
    obtain ⟨m, hm⟩ := decFrom_all r (acc * 10 + (b.toNat - 48)) h.2
    exact ⟨m, by rw [Lib.decFrom, isDig_val h.1]; exact hm⟩
theorem dec_grow : ∀ (l : Str) (acc m : Nat), 0 < acc → Lib.decFrom acc l = some m → Lib.decDigits m = Lib.decDigits acc ++ l
  | [], acc, m, _, h => by simp only [Lib.decFrom, Option.some.injEq] at h; simp [h]
  | b :: r, acc, m, ha, h => by
    rw [Lib.decFrom] at h
    cases hd : Lib.digitVal b with
    | none => rw [hd] at h; simp at h
    | some d =>
      rw [hd] at h
      obtain ⟨h1, h2, h3⟩ := Lib.digitVal_eq hd
      have ih := dec_grow r (acc * 10 + d) m (by omega) h
      rw [ih, Lib.decDigits, dif_neg (by omega)]
      rw [show (acc * 10 + d) / 10 = acc by omega, show (acc * 10 + d) % 10 = d by omega, (val_dig hd).2.2]
      simp
theorem dec_head {m : Nat} (h : 0 < m) : ∃ b r, Lib.decDigits m = b :: r ∧ b ≠ 48 := by
  induction m using Nat.strongRecOn with
  | _ m ih =>
    rw [Lib.decDigits]
    split
    · refine ⟨_, _, rfl, ?_⟩
      intro e
      have := congrArg UInt8.toNat e
      rw [UInt8.toNat_ofNat'] at this
      simp at this; omega
    · obtain ⟨b, r, h1, h2⟩ := ih (m / 10) (by omega) (by omega)
      exact ⟨b, r ++ _, by rw [h1]; rfl, h2⟩
theorem dec_zero : Lib.decDigits 0 = [48] := by rw [Lib.decDigits, dif_pos (by omega)]; rfl
/-- Digits without a 0 ahead: the one spelling. -/
theorem dec_spelled {l : Str} {m : Nat} (h : Lib.decFrom 0 l = some m) (hl : l ≠ []) : Lib.decDigits m = l ↔ (l.head? ≠ some 48 ∨ l.length = 1) := by
  cases l with
  | nil => exact absurd rfl hl
  | cons b r =>
    rw [Lib.decFrom] at h
    cases hd : Lib.digitVal b with
    | none => rw [hd] at h; simp at h
    | some d =>
      rw [hd] at h
      simp only [Nat.zero_mul, Nat.zero_add] at h
      obtain ⟨h1, h2, h3⟩ := Lib.digitVal_eq hd
      by_cases hz : d = 0
      · subst hz
        have hb : b = 48 := by rw [← (val_dig hd).2.2]; rfl
        subst hb
        constructor
        · intro e
          right
          by_cases hm : m = 0
          · subst hm; rw [dec_zero] at e
            have := congrArg List.length e; simpa using this.symm
          · obtain ⟨b, r', h4, h5⟩ := dec_head (m := m) (by omega)
            rw [h4] at e; simp at e; exact absurd e.1 h5
        · rintro (e | e)
          · simp at e
          · have : r = [] := by cases r with
              | nil => rfl
              | cons _ _ => simp at e
            subst this
            simp only [Lib.decFrom, Option.some.injEq] at h
            subst h; exact dec_zero
      · have hg := dec_grow r d m (by omega) h
        have hd1 : Lib.decDigits d = [UInt8.ofNat (48 + d)] := by rw [Lib.decDigits, dif_pos (by omega)]
        rw [hd1, (val_dig hd).2.2] at hg
        constructor
        · intro _; left
          intro e; simp at e
          have e2 := (val_dig hd).2.1
          rw [e] at e2; simp at e2; omega
        · intro _; exact hg
theorem dec_digs (m : Nat) : (Lib.decDigits m).all isDig = true := by
  induction m using Nat.strongRecOn with
  | _ m ih =>
    rw [Lib.decDigits]
    have key : ∀ d, d < 10 → isDig (UInt8.ofNat (48 + d)) = true := by
      intro d hd
      unfold isDig; rw [UInt8.toNat_ofNat']; simp; omega
    split
    · rename_i h; rw [List.all_cons, key m h]; rfl
    · rw [List.all_append, ih (m / 10) (by omega), List.all_cons, key (m % 10) (by omega)]; rfl
/-- The number that a string of at most so many digits spells, in its one spelling. -/
def numT (s : Str) (k : Int) : Option Int :=
  if (Lib.trimPrefix s [45] = [] ∨ k < (Lib.trimPrefix s [45]).length) ∨ (Lib.trimPrefix s [45]).all isDig = false then none
  else match Lib.atoi s with
    | some n => if Lib.itoa n = s then some n else none
    | none => none
theorem digits_fin : ∀ n : Fin 256, decide (UInt8.ofNat n.val ∈ ([48, 49, 50, 51, 52, 53, 54, 55, 56, 57] : List UInt8)) = (decide (48 ≤ n.val) && decide (n.val ≤ 57)) := by decide +kernel
theorem mem_dig (c : UInt8) : decide (c ∈ ([48, 49, 50, 51, 52, 53, 54, 55, 56, 57] : List UInt8)) = isDig c :=
  u8_fin (p := fun c => decide (c ∈ ([48, 49, 50, 51, 52, 53, 54, 55, 56, 57] : List UInt8))) (q := fun n => decide (48 ≤ n) && decide (n ≤ 57)) digits_fin c
theorem trimP_cases (s : Str) : (∃ d, s = 45 :: d ∧ Lib.trimPrefix s [45] = d) ∨ (Lib.trimPrefix s [45] = s ∧ s.head? ≠ some 45) := by
  cases s with
  | nil => right; exact ⟨rfl, by simp⟩
  | cons b r =>
    unfold Lib.trimPrefix
    by_cases h : b = 45
    · subst h; left; exact ⟨r, rfl, by simp [Lib.hasPrefix, List.isPrefixOf]⟩
    · right
      have hp : Lib.hasPrefix (b :: r) [45] = false := by simp [Lib.hasPrefix, List.isPrefixOf, Ne.symm h]
      rw [hp]; exact ⟨by simp, by simpa using h⟩
theorem trimP_length (s : Str) : (Lib.trimPrefix s [45]).length ≤ s.length ∧ s.length ≤ (Lib.trimPrefix s [45]).length + 1 := by
  rcases trimP_cases s with ⟨d, h1, h2⟩ | ⟨h1, _⟩
  · rw [h2, h1]; simp
  · rw [h1]; omega
theorem atoiAll_of {s : Str} {n : Int} (hl : s.length ≤ 18) (h : Lib.atoi s = some n) : Lib.atoiAll s = .ok n := by
  rw [Lib.atoiAll_short s hl, h]; rfl
/-- Digits behind an optional sign spell a number. -/
theorem atoi_digs {s : Str} (h1 : Lib.trimPrefix s [45] ≠ []) (h2 : (Lib.trimPrefix s [45]).all isDig = true) : ∃ n, Lib.atoi s = some n ∧ (Lib.itoa n = s ↔ ¬((Lib.trimPrefix s [45]).head? = some 48 ∧ (1 < (Lib.trimPrefix s [45]).length ∨ (Lib.trimPrefix s [45]).length < s.length))) := by
  rcases trimP_cases s with ⟨d, e1, e2⟩ | ⟨e1, e2⟩
  · rw [e2] at h1 h2 ⊢
    subst e1
    obtain ⟨m, hm⟩ := decFrom_all d 0 h2
    have hN : Lib.decNat d = some m := by unfold Lib.decNat; rw [if_neg (by simpa using h1), hm]
    refine ⟨-(m : Int), by rw [Lib.atoi]; simp [hN], ?_⟩
    have hs := dec_spelled hm h1
    have hlen : d.length < (45 :: d).length := by simp
    constructor
    · rintro e ⟨hh, _⟩
      unfold Lib.itoa at e
      split at e
      · have e' : Lib.decDigits m = d := by simpa using e
        rename_i hneg
        obtain ⟨b, r, h4, h5⟩ := dec_head (m := m) (by omega)
        rw [e'] at h4; rw [h4] at hh; simp at hh; exact h5 hh
      · have := dec_digs (-(m : Int)).toNat
        rw [e] at this; simp [isDig] at this
    · intro hn
      have hh : d.head? ≠ some 48 := fun hh => hn ⟨hh, .inr hlen⟩
      have e' := hs.2 (.inl hh)
      have hm0 : m ≠ 0 := by
        intro h0; subst h0; rw [dec_zero] at e'; subst e'; simp at hh
      unfold Lib.itoa
      rw [if_pos (by omega)]
      simp [e']
  · rw [e1] at h1 h2 ⊢
    obtain ⟨m, hm⟩ := decFrom_all s 0 h2
    have hN : Lib.decNat s = some m := by unfold Lib.decNat; rw [if_neg (by simpa using h1), hm]
    have hs := dec_spelled hm h1
    cases s with
    | nil => exact absurd rfl h1
    | cons b r =>
      have n45 : b ≠ 45 := by simpa using e2
      have hb : isDig b = true := by simp only [List.all_cons, Bool.and_eq_true] at h2; exact h2.1
      have n43 : b ≠ 43 := fun h => by subst h; simp [isDig] at hb
      refine ⟨m, by rw [Lib.atoi]; simp only [beq_iff_eq, n45, n43, if_false]; rw [hN]; rfl, ?_⟩
      have hi : Lib.itoa (m : Int) = Lib.decDigits m := by unfold Lib.itoa; rw [if_neg (by omega)]; simp
      rw [hi, hs]
      constructor
      · rintro (h | h) ⟨h3, h4⟩
        · exact h h3
        · omega
      · intro h
        by_cases hh : (b :: r).head? = some 48
        · right
          have : ¬ (1 < (b :: r).length) := fun h5 => h ⟨hh, .inl h5⟩
          simp at this ⊢; omega
        · exact .inl hh
theorem numT_bound {s : Str} {k : Nat} {n : Int} (h : numT s k = some n) : -(10 ^ k : Nat) < n ∧ n < (10 ^ k : Nat) := by
  unfold numT at h
  split at h
  · cases h
  · rename_i hc
    cases ha : Lib.atoi s with
    | none => rw [ha] at h; cases h
    | some n' =>
      rw [ha] at h
      simp only at h
      split at h
      · obtain rfl := Option.some.inj h
        simp only [not_or] at hc
        have hall : (Lib.trimPrefix s [45]).all isDig = true := by simpa using hc.2
        have hlen : (Lib.trimPrefix s [45]).length ≤ k := by have := hc.1.2; omega
        obtain ⟨m, hm⟩ := decFrom_all _ 0 hall
        have hb := Lib.decFrom_lt _ 0 m hm
        have hp : (10 : Nat) ^ (Lib.trimPrefix s [45]).length ≤ 10 ^ k := Nat.pow_le_pow_right (by omega) hlen
        have hmk : m < 10 ^ k := by omega
        have hnm : n' = m ∨ n' = -(m : Int) := by
          have hN : Lib.decNat (Lib.trimPrefix s [45]) = some m := by unfold Lib.decNat; rw [if_neg (by simpa using hc.1.1), hm]
          rcases trimP_cases s with ⟨d, e1, e2⟩ | ⟨e1, e2⟩
          · rw [e2] at hN; rw [e1, Lib.atoi] at ha; simp [hN] at ha; right; omega
          · rw [e1] at hN hall
            cases s with
            | nil => simp [Lib.atoi] at ha
            | cons b r =>
              have n45 : b ≠ 45 := by simpa using e2
              have hb : isDig b = true := by simp only [List.all_cons, Bool.and_eq_true] at hall; exact hall.1
              have n43 : b ≠ 43 := fun h => by subst h; simp [isDig] at hb
              rw [Lib.atoi] at ha
              simp only [beq_iff_eq, n45, n43, if_false] at ha
              rw [hN] at ha; simp at ha; left; omega
        omega
      · cases h
theorem Number_loop (s : Str) (hl : s.length ≤ 18) : base_Number_l1 s 0 = if (Lib.trimPrefix s [45]).all isDig = true then base_Number_k3 s else some (0, false) := by
  unfold base_Number_l1
  have hd : ((Lib.trimPrefix s [45]).length : Int) ≤ 4611686018427387904 := by have := trimP_length s; omega
  refine iter_to (fun x : Int => base_Number_b1 s x) (fun i => (Lib.trimPrefix s [45]).length + 1 - i.toNat) (fun i => 0 ≤ i ∧ i ≤ (Lib.trimPrefix s [45]).length ∧ ((Lib.trimPrefix s [45]).take i.toNat).all isDig = true) _ ?_ 0 ⟨by omega, by omega, by simp⟩
  rintro i ⟨h0, h1, h2⟩
  by_cases hi : i < (Lib.trimPrefix s [45]).length
  · obtain ⟨c, hc, _, hdr⟩ := idx_lt (Lib.trimPrefix s [45]) h0 hi
    have hg := (idx_some hc).2.2
    have hmem : c ∈ Lib.trimPrefix s [45] := idx_mem hc
    have hB : base_Number_b1 s i = if isDig c = true then some (.inl (w64 (i + 1))) else Option.map .inr (some ((0 : Int), false)) := by
      unfold base_Number_b1
      rw [if_pos hi, hc]
      simp only [Option.bind_some]
      unfold base_Number_j2 isDig
      by_cases a1 : (c.toNat : Int) < 48
      · rw [if_pos a1, if_pos rfl, if_neg (by simp; omega)]
      · rw [if_neg a1]
        by_cases a2 : (57 : Int) < c.toNat
        · rw [if_pos (by simpa using a2), if_neg (by simp; omega)]
        · rw [if_neg (by simpa using a2), if_pos (by simp; omega)]
    by_cases hdg : isDig c = true
    · left
      refine ⟨i + 1, ?_, ⟨by omega, by omega, ?_⟩, by omega⟩
      · show base_Number_b1 s i = _
        rw [hB, if_pos hdg, w64_in (by omega) (by omega)]
      · rw [show (i + 1).toNat = i.toNat + 1 by omega, List.take_add_one, List.all_append, h2, hg]; simp [hdg]
    · right
      show base_Number_b1 s i = _
      rw [hB, if_neg hdg, if_neg (fun h => hdg (List.all_eq_true.1 h c hmem))]
  · right
    show base_Number_b1 s i = _
    unfold base_Number_b1
    rw [if_neg hi]
    rw [List.take_of_length_le (by omega)] at h2
    rw [if_pos h2]
theorem atoiO_eq {s : Str} {n : Int} (hl : s.length ≤ 18) (h : Lib.atoi s = some n) : atoiO s = some (n, true) := by
  unfold atoiO; rw [if_pos (by omega), atoiAll_of hl h]
theorem itoa_in {n : Int} (h1 : -9223372036854775808 ≤ n) (h2 : n ≤ 9223372036854775807) : itoaO n = some (Lib.itoa n) := by unfold itoaO; rw [if_pos ⟨h1, h2⟩]
/-- The program's reader of numbers. -/
theorem Number_eq (s : Str) (k : Nat) (hk : k ≤ 17) : base_Number s k = some (match numT s k with | some n => (n, true) | none => (0, false)) := by
  have hln := trimP_length s
  unfold base_Number base_Number_j1
  by_cases h1 : Lib.trimPrefix s [45] = []
  · rw [if_pos h1, if_pos rfl]; unfold numT; rw [if_pos (.inl (.inl h1))]
  · rw [if_neg h1]
    by_cases h2 : (k : Int) < (Lib.trimPrefix s [45]).length
    · rw [if_pos h2, if_pos rfl]; unfold numT; rw [if_pos (.inl (.inr h2))]
    · rw [if_neg h2]
      have hpos : 0 < (Lib.trimPrefix s [45]).length := List.length_pos_iff.2 h1
      obtain ⟨c, hc, _, _⟩ := idx_lt (Lib.trimPrefix s [45]) (i := 0) (by omega) (by omega)
      have hh : (Lib.trimPrefix s [45]).head? = some c := by
        have := (idx_some hc).2.2
        rw [List.head?_eq_getElem?]; simpa using this
      rw [hc]
      simp only [Option.bind_some]
      rw [Number_loop s (by omega)]
      by_cases hall : (Lib.trimPrefix s [45]).all isDig = true
      · obtain ⟨n, hn, hiff⟩ := atoi_digs h1 hall
        have hnT : numT s k = if Lib.itoa n = s then some n else none := by
          unfold numT; rw [if_neg (by rintro ((h | h) | h)
                                      · exact h1 h
                                      · exact h2 h
                                      · rw [hall] at h; cases h), hn]
        have hcond : (decide ((c.toNat : Int) = 48) && (decide ((1 : Int) < (Lib.trimPrefix s [45]).length) || decide (((Lib.trimPrefix s [45]).length : Int) < s.length))) = true ↔ ¬ Lib.itoa n = s := by
          rw [hiff, hh]
          simp only [Bool.and_eq_true, decide_eq_true_eq, Bool.or_eq_true, Option.some.injEq, Classical.not_not]
          constructor
          · rintro ⟨a, b⟩; exact ⟨UInt8.toNat_inj.1 (by simpa using (by omega : c.toNat = 48)), by omega⟩
          · rintro ⟨a, b⟩; exact ⟨by rw [a]; rfl, by omega⟩
        by_cases hi : Lib.itoa n = s
        · rw [if_neg (fun h => hcond.1 h hi), if_pos hall, hnT, if_pos hi]
          unfold base_Number_k3
          rw [atoiO_eq (by omega) hn]; rfl
        · rw [if_pos (hcond.2 hi), hnT, if_neg hi]
      · have hnT : numT s k = none := by unfold numT; rw [if_pos (.inr (by simpa using hall))]
        rw [hnT, if_neg hall]; simp
/-- The reference's reader of numbers. -/
theorem QNumber_eq (s : Str) (k : Nat) (hk : k ≤ 17) : ∃ m, Q_Number s k = some (m, (numT s k).isSome) ∧ ∀ n, numT s k = some n → m = n := by
  have hln := trimP_length s
  unfold Q_Number Q_Number_j1 Q_Number_j2
  by_cases h1 : Lib.trimPrefix s [45] = []
  · have hn : numT s k = none := by unfold numT; rw [if_pos (.inl (.inl h1))]
    rw [if_pos h1, if_pos rfl, hn]; exact ⟨0, rfl, fun n h => by cases h⟩
  · rw [if_neg h1]
    by_cases h2 : (k : Int) < (Lib.trimPrefix s [45]).length
    · have hn : numT s k = none := by unfold numT; rw [if_pos (.inl (.inr h2))]
      rw [if_pos h2, if_pos rfl, hn]; exact ⟨0, rfl, fun n h => by cases h⟩
    · rw [if_neg h2, only_eq _ _ (by omega)]
      simp only [Option.bind_some]
      rw [show (fun c => decide (c ∈ ([48, 49, 50, 51, 52, 53, 54, 55, 56, 57] : List UInt8))) = isDig from funext mem_dig]
      by_cases hall : (Lib.trimPrefix s [45]).all isDig = true
      · obtain ⟨n, hn, hiff⟩ := atoi_digs h1 hall
        have hb := Lib.atoi_bound hn (by omega)
        have hnT : numT s k = if Lib.itoa n = s then some n else none := by
          unfold numT; rw [if_neg (by rintro ((h | h) | h)
                                      · exact h1 h
                                      · exact h2 h
                                      · rw [hall] at h; cases h), hn]
        rw [hall, if_neg (by simp), atoiO_eq (by omega) hn]
        simp only [Option.bind_some, if_true]
        rw [itoa_in (by omega) (by omega)]
        simp only [Option.bind_some]
        refine ⟨n, ?_, ?_⟩
        · rw [hnT]; by_cases hi : Lib.itoa n = s <;> simp [hi]
        · intro n' h'; rw [hnT] at h'; split at h'
          · exact Option.some.inj h'
          · cases h'
      · have hnT : numT s k = none := by unfold numT; rw [if_pos (.inr (by simpa using hall))]
        have hf : (Lib.trimPrefix s [45]).all isDig = false := by simpa using hall
        rw [hf, hnT]; exact ⟨0, rfl, fun n h => by cases h⟩
end Go.Beacon

/- Joining strings, reading several numbers. No program in sight. -/
set_option linter.unusedVariables false
set_option linter.unusedSimpArgs false
namespace Go.Beacon
open Go Go.Eng

/-- Strings with a string between. -/
def joinW (sep : Str) : List Str → Str
  | [] => []
  | x :: r => x ++ r.flatMap (fun y => sep ++ y)
theorem flatW_len (sep : Str) (hs : sep.length ≤ 100) : ∀ L : List Str, (∀ s ∈ L, s.length ≤ 100000) → (L.flatMap (fun y => sep ++ y)).length ≤ 100100 * L.length
  | [], _ => by simp
  | x :: L, h => by
    have h1 := flatW_len sep hs L (fun s hs => h s (List.mem_cons_of_mem _ hs))
    have h2 := h x (by simp)
    rw [List.flatMap_cons, List.length_append, List.length_append, List.length_cons]
    omega
theorem Join_l2 (sep : Str) (hs : sep.length ≤ 100) (L : List Str) (hL : L.length ≤ 1000) (hh : ∀ s ∈ L, s.length ≤ 100000) (q : Str) (hq : q.length ≤ 100000) : strings_Join_l2 sep L q 0 = some (q ++ L.flatMap (fun y => sep ++ y)) := by
  unfold strings_Join_l2
  refine iter_to _ (fun x : Str × Int => (L.length - x.2).toNat) (fun x : Str × Int => 0 ≤ x.2 ∧ x.2 ≤ L.length ∧ x.1 = q ++ (L.take x.2.toNat).flatMap (fun y => sep ++ y)) _ ?_ _ ⟨by simp, by simp, by simp⟩
  rintro ⟨X, n⟩ ⟨g0, g1, g2⟩
  simp only at g0 g1 g2 ⊢
  unfold strings_Join_b2
  by_cases hn : n < L.length
  · left
    obtain ⟨v, hv, hm, _⟩ := idx_lt L g0 hn
    obtain ⟨hn', hg'⟩ := List.getElem?_eq_some_iff.1 (idx_some hv).2.2
    have e : (n + 1).toNat = n.toNat + 1 := by omega
    have hX : X.length ≤ 100000 + 100100 * 1000 := by
      have h1 := flatW_len sep hs (L.take n.toNat) (fun s h => hh s (List.mem_of_mem_take h))
      rw [g2, List.length_append]
      simp only [List.length_take] at h1
      omega
    have hv' := hh v hm
    rw [if_pos hn, hv]
    simp only [Option.bind_some]
    unfold bldW
    rw [if_pos (by omega)]
    simp only [Option.bind_some]
    rw [if_pos (by simp only [List.length_append]; omega), w64_in (by omega) (by omega)]
    refine ⟨_, rfl, ⟨by simp only; omega, by simp only; omega, ?_⟩, by simp only; omega⟩
    simp only
    rw [e, List.take_succ_eq_append_getElem hn', g2, hg', List.flatMap_append]
    simp
  · right
    rw [if_neg hn, g2, List.take_of_length_le (by omega)]
theorem Join_l1 (sep : Str) (hs : sep.length ≤ 100) (x : Str) (L : List Str) (hL : L.length ≤ 999) (hh : ∀ s ∈ x :: L, s.length ≤ 100000) (n0 : Int) (h0 : 0 ≤ n0 ∧ n0 ≤ 1000000) : strings_Join_l1 (x :: L) sep n0 0 = some (joinW sep (x :: L)) := by
  unfold strings_Join_l1
  refine iter_to _ (fun z : Int × Int => ((x :: L).length - z.2).toNat) (fun z : Int × Int => 0 ≤ z.2 ∧ z.2 ≤ (x :: L).length ∧ 0 ≤ z.1 ∧ z.1 ≤ 1000000 + 100000 * z.2) _ ?_ _ ⟨by simp, by simp; omega, by simp only; omega, by simp only; omega⟩
  rintro ⟨m, n⟩ ⟨g0, g1, g2, g3⟩
  simp only at g0 g1 g2 g3 ⊢
  have hlen : (x :: L).length ≤ 1000 := by simp only [List.length_cons]; omega
  unfold strings_Join_b1
  by_cases hn : n < ((x :: L).length : Int)
  · left
    obtain ⟨v, hv, hm, _⟩ := idx_lt (x :: L) g0 hn
    have hv' := hh v hm
    rw [if_pos hn, hv]
    simp only [Option.bind_some]
    rw [w64_in (x := 9223372036854775807 - m) (by omega) (by omega), if_neg (by omega), w64_in (by omega) (by omega), w64_in (by omega) (by omega)]
    exact ⟨_, rfl, ⟨by simp only; omega, by simp only; omega, by simp only; omega, by simp only; omega⟩, by simp only; omega⟩
  · right
    rw [if_neg hn]
    unfold strings_Join_k2 bldG
    rw [if_pos (by omega)]
    simp only [Option.bind_some]
    rw [show idx (x :: L) 0 = some x from rfl]
    simp only [Option.bind_some]
    have hx := hh x (by simp)
    unfold bldW
    rw [if_pos (by simp; omega)]
    simp only [Option.bind_some, List.nil_append]
    have hsl : slc (x :: L) 1 ((x :: L).length : Int) = some L := by
      rw [slc_in (by omega) (by simp; omega) (by omega)]
      congr 1
      rw [show (1 : Int).toNat = 1 from rfl, List.drop_succ_cons, List.drop_zero]
      exact List.take_of_length_le (by simp)
    rw [hsl]
    simp only [Option.bind_some]
    rw [Join_l2 sep hs L (by omega) (fun s h => hh s (List.mem_cons_of_mem _ h)) x hx]
    rfl
theorem Join_eq (sep : Str) (hs : sep.length ≤ 100) (L : List Str) (hL : L.length ≤ 1000) (hh : ∀ s ∈ L, s.length ≤ 100000) : strings_Join L sep = some (joinW sep L) := by
  unfold strings_Join
  match L, hL, hh with
  | [], _, _ => rfl
  | [x], _, _ =>
    rw [if_neg (by simp), if_pos (by simp)]
    show some x = some (x ++ [])
    rw [List.append_nil]
  | x :: y :: L, hL, hh =>
    have hl2 : ((x :: y :: L).length : Int) = L.length + 2 := by simp only [List.length_cons]; omega
    simp only [List.length_cons] at hL
    rw [if_neg (by rw [hl2]; omega), if_neg (by rw [hl2]; omega), hl2]
    have w1 : w64 ((L.length : Int) + 2 - 1) = (L.length : Int) + 1 := by rw [w64_in (by omega) (by omega)]; omega
    rw [w1]
    by_cases h0 : (0 : Int) < (sep.length : Int)
    · rw [if_pos h0, quo_pos (by omega) (by omega) (by omega)]
      simp only [Option.bind_some]
      have hdiv : (1000000 : Int) ≤ 9223372036854775807 / ((L.length : Int) + 1) := by
        rw [Int.le_ediv_iff_mul_le (by omega)]
        omega
      have hmul : (sep.length : Int) * ((L.length : Int) + 1) ≤ 100 * 1000 := Int.mul_le_mul (by omega) (by omega) (by omega) (by omega)
      have hmul0 : 0 ≤ (sep.length : Int) * ((L.length : Int) + 1) := Int.mul_nonneg (by omega) (by omega)
      rw [if_neg (by omega), w64_in (x := (sep.length : Int) * ((L.length : Int) + 1)) (by omega) (by omega), w64_in (by omega) (by omega)]
      unfold strings_Join_j1
      exact Join_l1 sep hs x (y :: L) (by simp only [List.length_cons]; omega) hh _ (by omega)
    · rw [if_neg h0]
      unfold strings_Join_j1
      exact Join_l1 sep hs x (y :: L) (by simp only [List.length_cons]; omega) hh _ (by omega)
/-! several numbers -/
def numsT : List Str → Option (List Int)
  | [] => some []
  | s :: r => match numT s 15 with
    | none => none
    | some n => (numsT r).map (n :: ·)
theorem Numbers_loop : ∀ (m : Nat) (L : List Str) (n : Int) (X : List Int), 0 ≤ n → n + m = L.length → L.length ≤ 1000 → X.length ≤ 1000 + n.toNat → base_Numbers_l1 L 15 X n = some (match numsT (L.drop n.toNat) with
    | none => ([], false)
    | some l => (X ++ l, true))
  | 0, L, n, X, h0, hn, hl, hX => by
    unfold base_Numbers_l1
    rw [iter_eq]
    show Option.bind (base_Numbers_b1 L 15 X n) _ = _
    unfold base_Numbers_b1
    rw [if_neg (by omega), List.drop_of_length_le (by omega)]
    simp [numsT]
  | m + 1, L, n, X, h0, hn, hl, hX => by
    have hN : ∀ s : Str, base_Number s 15 = some (match numT s 15 with | some n => (n, true) | none => (0, false)) := fun s => Number_eq s 15 (by omega)
    obtain ⟨s, hs, _, hd⟩ := idx_lt L h0 (by omega)
    have ih := fun X hX => Numbers_loop m L (n + 1) X (by omega) (by omega) hl hX
    unfold base_Numbers_l1 at ih ⊢
    rw [iter_eq]
    show Option.bind (base_Numbers_b1 L 15 X n) _ = _
    rw [base_Numbers_b1, if_pos (by omega), hs]
    simp only [Option.bind_some]
    rw [hN s, hd]
    simp only [Option.bind_some]
    unfold numsT
    cases h1 : numT s 15 with
    | none => simp
    | some k =>
      simp only
      rw [if_neg (by simp), app_le (by simp; omega), w64_in (by omega) (by omega)]
      simp only [Option.bind_some, after_inl]
      rw [ih (X ++ [k]) (by simp; omega)]
      cases numsT (L.drop (n + 1).toNat) <;> simp
theorem Numbers_eq (L : List Str) (h : L.length ≤ 1000) : base_Numbers L 15 = some (match numsT L with
    | none => ([], false)
    | some l => (l, true)) := by
  unfold base_Numbers
  rw [Numbers_loop L.length L 0 [] (by omega) (by omega) h (by simp)]
  simp
theorem QNumber_15 (s : Str) : ∃ m, Q_Number s 15 = some (m, (numT s 15).isSome) ∧ ∀ n, numT s 15 = some n → m = n := QNumber_eq s 15 (by omega)
end Go.Beacon

/- Fixes: their order, the checks of the program and of the reference. No program in sight. -/
set_option linter.unusedVariables false
set_option linter.unusedSimpArgs false
namespace Go.Beacon
open Go Go.Eng

def FixB (x : Fix) : Prop := -4000000000000000000 ≤ x.At ∧ x.At ≤ 4000000000000000000
def fixC (a b : Fix) : Int := if Lib.compareBytes a.Device b.Device ≠ 0 then Lib.compareBytes a.Device b.Device else cmpI a.At b.At
theorem fixC_3 : Cmp3 fixC := (cmpB_3.on Fix.Device).lex (cmpI_3.on Fix.At)
theorem fbyDevice_eq (a b : Fix) : place_byDevice a b = some (fixC a b) := by
  unfold place_byDevice
  rw [CompareI_eq]
  have h : cmp_Or_int [Lib.compareBytes a.Device b.Device, cmpI a.At b.At] = some (orL [Lib.compareBytes a.Device b.Device, cmpI a.At b.At]) := gOr_eq _ (by simp)
  rw [h, orL2]; rfl
theorem FixOrder_eq (a b : Fix) (h : -9223372036854775808 ≤ a.At - b.At ∧ a.At - b.At ≤ 9223372036854775807) : Q_FixOrder a b = fixC a b := by
  unfold Q_FixOrder fixC
  rw [w64_in h.1 h.2]
  have e : Q_sign (a.At - b.At) = cmpI a.At b.At := by
    unfold Q_sign cmpI
    repeat' split
    all_goals omega
  rw [e]
  by_cases h1 : a.Device = b.Device
  · rw [h1, cmpB_self]; simp
  · rw [if_pos h1, if_pos (fun h => h1 (cmpB_zero h))]
theorem forder_B {xs : List Fix} (hB : ∀ x ∈ xs, FixB x) : ∀ x ∈ xs, ∀ y ∈ xs, Q_FixOrder x y = fixC x y := fun x hx y hy => by
  have h1 := hB x hx; have h2 := hB y hy
  unfold FixB at h1 h2
  exact FixOrder_eq x y (by omega)
/-! the checks -/
def spotX (x y : Int) : Bool := (decide (-10000 ≤ x) && decide (x ≤ 10000)) && (decide (-10000 ≤ y) && decide (y ≤ 10000))
def fbad (s : Fix) : Bool := !(decide (0 ≤ s.At) && decide (s.At ≤ 345686399999)) || (!spotX s.X s.Y || (decide (s.Error < 0) || decide (10000 < s.Error)))
def fixStep (prev : Option Fix) (s : Fix) : Int :=
  if keyB s.Device = false then 5 else if fbad s = true then 1 else match prev with
  | none => 0
  | some p => if fixC s p ≤ 0 then 7 else 0
def chkX (xs : List Fix) : Int := if (2000 : Int) < xs.length then 2 else scanC fixStep none xs
theorem CheckFixes_eq (xs : List Fix) : place_CheckFixes xs = some (chkX xs) := by
  unfold place_CheckFixes chkX
  split
  · rfl
  · rename_i hl
    unfold place_CheckFixes_l1
    refine scan_all fixStep xs _ (fun {i s} h0 h1 hs => ?_) (by show place_CheckFixes_b1 xs _ = _; rw [place_CheckFixes_b1, if_neg (by omega)]; rfl)
    show place_CheckFixes_b1 xs i = _
    rw [place_CheckFixes_b1, if_pos h1, hs]
    simp only [Option.bind_some, Key_eq]
    unfold place_CheckFixes_j1 place_CheckFixes_j2 fixStep
    have e : ((!base_Moment s.At) || (!(place_isSpot (place_spot s)) || base_Out s.Error 0 10000)) = fbad s := by
      unfold fbad spotX place_isSpot place_isSpot_j1 place_spot
      rw [Moment_eq, Out_eq, Out_eq, Out_eq, Bool.eq_iff_iff]
      simp
    rw [e, w64_in (x := i + 1) (by omega) (by omega)]
    cases hk : keyB s.Device
    · simp
    · simp only [Bool.not_true, Bool.false_eq_true, if_false, Bool.true_eq_false]
      split
      · rfl
      · by_cases hi : 0 < i
        · obtain ⟨p, hp, _, _⟩ := idx_lt xs (i := i - 1) (by omega) (by omega)
          have hpa : prevOf xs i = some p := by unfold prevOf; rw [if_neg (by omega), hp]
          rw [hpa, if_pos hi, w64_in (by omega) (by omega), hp]
          simp only [Option.bind_some, fbyDevice_eq]
          by_cases hb : fixC s p ≤ 0
          · simp [hb]
          · simp [hb]
        · have hpa : prevOf xs i = none := by unfold prevOf; rw [if_pos (by omega)]
          rw [hpa, if_neg hi]; rfl
theorem FixesFault_eq (xs : List Fix) (hB : ∀ x ∈ xs, FixB x) : Q_FixesFault xs = some (chkX xs) := by
  unfold Q_FixesFault chkX
  split
  · rfl
  · rename_i hl
    unfold Q_FixesFault_l1
    refine scan_all fixStep xs _ (fun {i s} h0 h1 hs => ?_) (by show Q_FixesFault_b1 xs _ = _; rw [Q_FixesFault_b1, if_neg (by omega)]; rfl)
    show Q_FixesFault_b1 xs i = _
    rw [Q_FixesFault_b1, if_pos h1, hs]
    simp only [Option.bind_some, QKey_eq]
    unfold Q_FixesFault_j1 Q_FixesFault_j2 fixStep
    have e : ((!Q_Moment s.At) || ((decide (Q_SpotFault (Q_spotOf s) ≠ 0)) || !(Q_in s.Error 0 10000))) = fbad s := by
      unfold fbad spotX Q_SpotFault Q_SpotFault_j1 Q_spotOf
      rw [QMoment_eq, Qin_eq, Qin_eq, Qin_eq, Bool.eq_iff_iff]
      simp
      repeat' split
      all_goals simp_all
      all_goals omega
    rw [e, w64_in (x := i + 1) (by omega) (by omega)]
    cases hk : keyB s.Device
    · simp
    · simp only [Bool.not_true, Bool.false_eq_true, if_false, Bool.true_eq_false]
      split
      · rfl
      · by_cases hi : 0 < i
        · obtain ⟨p, hp, hpm, _⟩ := idx_lt xs (i := i - 1) (by omega) (by omega)
          have hpa : prevOf xs i = some p := by unfold prevOf; rw [if_neg (by omega), hp]
          rw [hpa, if_pos hi, w64_in (by omega) (by omega), hp]
          simp only [Option.bind_some]
          rw [forder_B hB p hpm s (idx_mem hs), fixC_3.neg p s]
          by_cases hb : fixC s p ≤ 0
          · rw [decide_eq_true (by omega)]; simp [hb]
          · rw [decide_eq_false (by omega)]; simp [hb]
        · have hpa : prevOf xs i = none := by unfold prevOf; rw [if_pos (by omega)]
          rw [hpa, if_neg hi]; rfl
end Go.Beacon

/- The law FixesMerge as a plain statement. No program in sight. -/
set_option linter.unusedVariables false
set_option linter.unusedSimpArgs false
namespace Go.Beacon
open Go Go.Eng

/-! sorting and compacting -/
def ZF : Fix := ⟨[], 0, 0, 0, 0⟩
theorem fstable_len (f : Fix → Fix → Option Int) (xs : List Fix) (hl : (xs.length : Int) < 20) (hf : ∀ x ∈ xs, ∀ y ∈ xs, f x y = some (fixC x y)) : ∃ Z, lenOk xs.length (fun r : List Fix => r.length) (slices_SortStableFunc_Fix_Fix xs f) = some Z ∧ Z.Perm xs ∧ Srt fixC Z := by
  obtain ⟨Z, h1, h2, h3⟩ := gIns_eq f fixC xs (by omega) hf (fixC_3.ord xs)
  have h1' : slices_insertionSortCmpFunc_Fix xs 0 xs.length f = some Z := h1
  have hlen := h2.length_eq
  refine ⟨Z, ?_, h2, h3⟩
  have hs : slices_stableCmpFunc_Fix xs xs.length f = some Z := by
    unfold slices_stableCmpFunc_Fix slices_stableCmpFunc_Fix_l1
    rw [iter_eq, slices_stableCmpFunc_Fix_b1, if_neg (by simp only; omega), map_inr_after]
    unfold slices_stableCmpFunc_Fix_k3
    simp only
    rw [len_ok h1' hlen]
    simp only [Option.bind_some]
    unfold slices_stableCmpFunc_Fix_l2
    rw [iter_eq, slices_stableCmpFunc_Fix_b2, if_neg (by simp only; omega), map_inr_after]
  refine len_ok ?_ hlen
  unfold slices_SortStableFunc_Fix_Fix
  rw [len_ok hs hlen]; rfl
theorem fcompactF_eq (f : Fix → Fix → Option Bool) (e : Fix → Fix → Bool) (xs : List Fix) (hl : (xs.length : Int) ≤ 100000) (hf : ∀ x ∈ xs, ∀ y ∈ xs, f x y = some (e x y)) : slices_CompactFunc_Fix_Fix xs f = some (dd e xs) := gCptF_eq ZF f e xs hl hf
/-! what is drawn -/
theorem Fixes_j1_ok {v : Bool} {s : Stm} {xs : List Fix} {k m : Int} (hs : SOk s (k + 7)) (hk : 0 ≤ k) (hm : m ≤ 1000) (hx : (xs.length : Int) ≤ m ∧ ∀ x ∈ xs, FixB x) : Gen (Stream_Fixes_j1 (v, s) xs) k (fun xs => (xs.length : Int) ≤ m ∧ ∀ x ∈ xs, FixB x) := by
  unfold Stream_Fixes_j1
  split
  · rename_i hpos
    refine Gen.bind (Flip_ok (k := k + 6) (hs.less (by omega)) (by omega) (by omega) (by omega)) (fun c s1 hc hs1 => ?_)
    unfold Stream_Fixes_j2 Stream_Fixes_j3
    simp only
    split
    · refine Gen.bind (Next_ok (k := k + 5) (hs1.less (by omega)) (by omega) (by omega) (by omega)) (fun i s2 hi hs2 => ?_)
      obtain ⟨y, hy, hym, _⟩ := idx_lt xs hi.1 hi.2
      have hyB := hx.2 y hym
      simp only [hy, Option.bind_some]
      refine Gen.bind (Some_ok (k := k + 4) (hs2.less (by omega)) (by simp) (by simp) (by omega)) (fun d s3 hd hs3 => ?_)
      refine Gen.bind (Odd_ok (k := k + 2) (hs3.less (by omega)) (by omega) (by omega) (by omega) (by omega)) (fun u s4 hu hs4 => ?_)
      refine Gen.bind (Odd_ok (k := k) (hs4.less (by omega)) (by omega) (by omega) (by omega) (by omega)) (fun t s5 ht hs5 => ?_)
      refine Gen.ret ⟨by simp only [List.length_set]; exact hx.1, ?_⟩ hs5
      unfold FixB at hyB
      refine inset (inset (inset hx.2 ?_) ?_) ?_ <;> unfold FixB <;> simp only <;> omega
    · exact Gen.ret hx (hs1.less (by omega))
  · unfold Stream_Fixes_j2 Stream_Fixes_j3
    rw [if_neg (by simp)]
    exact Gen.ret hx (hs.less (by omega))
theorem Fixes_k4_ok {l6 : List Int} {n7 : Int} {xs : List Fix} {k m : Int} (hs : SOk ⟨l6, n7⟩ (k + 8)) (hk : 0 ≤ k) (hm : m < 20) (hx : (xs.length : Int) ≤ m ∧ ∀ x ∈ xs, FixB x) : Gen (Stream_Fixes_k4 l6 n7 xs) k (fun xs => (xs.length : Int) ≤ m ∧ ∀ x ∈ xs, FixB x) := by
  unfold Stream_Fixes_k4
  have hxl := hx.1
  obtain ⟨Z, h1, h2, h3⟩ := fstable_len (fun y0 y1 => some (Q_FixOrder y0 y1)) xs (by omega) (fun x hx' y hy => by rw [forder_B hx.2 x hx' y hy])
  rw [h1]
  simp only [Option.bind_some]
  have hZ : (Z.length : Int) ≤ m ∧ ∀ x ∈ Z, FixB x := ⟨by rw [h2.length_eq]; exact hx.1, fun x hx' => hx.2 x (h2.mem_iff.1 hx')⟩
  refine Gen.bind (Flip_ok (k := k + 7) (hs.less (by omega)) (by omega) (by omega) (by omega)) (fun c s1 hc hs1 => ?_)
  simp only
  split
  · have hc : slices_CompactFunc_Fix_Fix Z (fun y0 y1 => some (Stream_Fixes_1x y0 y1)) = some (dd (fun a b => Stream_Fixes_1x a b) Z) :=
      fcompactF_eq _ _ Z (by omega) (fun x hx y hy => rfl)
    rw [hc]
    simp only [Option.bind_some]
    have hl := dd_len (fun a b => Stream_Fixes_1x a b) Z
    exact Fixes_j1_ok hs1 hk (by omega) ⟨by omega, fun x hx => hZ.2 x ((dd_sub _ Z).subset hx)⟩
  · exact Fixes_j1_ok hs1 hk (by omega) hZ
theorem Fixes_loop (many : Int) (hm : many < 20) : ∀ (n : Nat) (l6 : List Int) (n7 : Int) (xs : List Fix) (i k : Int), 0 ≤ i → i + n = many → SOk ⟨l6, n7⟩ (k + 8 + 4 * n) → 0 ≤ k → (xs.length : Int) = i → (∀ x ∈ xs, FixB x) → Gen (Stream_Fixes_l1 many l6 n7 xs i) k (fun xs => (xs.length : Int) ≤ many ∧ ∀ x ∈ xs, FixB x) := by
  intro n
  induction n with
  | zero =>
    intro l6 n7 xs i k h0 h1 hs hk hl hB
    unfold Stream_Fixes_l1
    rw [iter_eq, Stream_Fixes_b1, if_neg (by simp only; omega), map_inr_after]
    exact Fixes_k4_ok (hs.less (by omega)) hk hm ⟨by simp only; omega, hB⟩
  | succ n ih =>
    intro l6 n7 xs i k h0 h1 hs hk hl hB
    have w1 : w64 (i + 1) = i + 1 := by rw [w64_in] <;> omega
    unfold Stream_Fixes_l1 at ih ⊢
    rw [iter_eq, Stream_Fixes_b1, if_pos (by simp only; omega)]
    obtain ⟨d, s1, e1, p1, q1⟩ := Some_ok (s := ⟨l6, n7⟩) (l := [([100] : Str), ([100] : Str), ([101] : Str)]) (k := k + 8 + 4 * n + 3) (hs.less (by omega)) (by simp) (by simp) (by omega)
    simp only [e1, Option.bind_some]
    obtain ⟨m, s2, e2, p2, q2⟩ := Pick_ok (s := s1) (l := [(0 : Int), (1 : Int), (5 : Int), (10 : Int)]) (k := k + 8 + 4 * n + 2) (q1.less (by omega)) (by simp) (by simp) (by omega)
    simp only [e2, Option.bind_some]
    obtain ⟨u, s3, e3, p3, q3⟩ := Pick_ok (s := s2) (l := [(0 : Int), (1 : Int)]) (k := k + 8 + 4 * n + 1) (q2.less (by omega)) (by simp) (by simp) (by omega)
    simp only [e3, Option.bind_some]
    obtain ⟨t, s4, e4, p4, q4⟩ := Pick_ok (s := s3) (l := [(0 : Int), (1 : Int), (2 : Int)]) (k := k + 8 + 4 * n) (q3.less (by omega)) (by simp) (by simp) (by omega)
    simp only [e4, Option.bind_some]
    have b1 := pick_le (lo := 0) (hi := 10) p2 (by decide)
    rw [app_le (by simp; omega)]
    simp only [Option.bind_some, after_inl, w1]
    refine ih s4.L s4.at_ _ (i + 1) k (by omega) (by omega) (q4.less (by omega)) hk (by simp; omega) ?_
    intro x hxm
    rcases List.mem_append.1 hxm with h | h
    · exact hB x h
    · simp only [List.mem_singleton] at h
      subst h
      unfold FixB
      simp only; omega
theorem Fixes_ok {s : Stm} {many k : Int} (hs : SOk s (k + 8 + 4 * many)) (hm : 0 ≤ many ∧ many < 20) (hk : 0 ≤ k) : Gen (Stream_Fixes s many) k (fun xs => (xs.length : Int) ≤ many ∧ ∀ x ∈ xs, FixB x) := by
  unfold Stream_Fixes
  exact Fixes_loop many hm.2 many.toNat s.L s.at_ [] 0 k (by omega) (by omega) (by rw [show ((many.toNat : Nat) : Int) = many by omega]; exact hs) hk (by simp) (by simp)
theorem placed_eq : L_placed = some true := by
  have hc : place_Cell ⟨0, 0⟩ 1 = some ([51], 0) := by
    unfold place_Cell
    have e : ((!(place_isSpot (⟨0, 0⟩ : Spot))) || base_Out 1 0 15) = false := by
      unfold place_isSpot place_isSpot_j1
      simp only [Out_eq]; decide
    rw [e]
    unfold place_Cell_j1
    rw [if_neg (by simp)]
    unfold place_Cell_l1
    rw [iter_eq, place_Cell_b1, if_pos (by decide), w64_in (by decide) (by decide), w64_in (by decide) (by decide), quo_pos (by decide) (by decide) (by decide)]
    simp only [Option.bind_some]
    rw [app_le (by simp)]
    simp only [Option.bind_some, after_inl]
    rw [iter_eq, place_Cell_b1, if_neg (by decide), map_inr_after]
    decide
  unfold L_placed L_placed_j1
  rw [hc]
  decide
/-! the law -/
end Go.Beacon

/- FixTexts: the law. No program in sight. -/
set_option linter.unusedVariables false
set_option linter.unusedSimpArgs false
namespace Go.Beacon
open Go Go.Eng

/-! writing -/
def numsL (l : List Int) : Str := l.flatMap fun n => [32] ++ Lib.itoa n
def fixL (x : Fix) : Str := x.Device ++ numsL [x.At, x.X, x.Y, x.Error] ++ [10]
def fixT (l : List Fix) : Str := l.flatMap fixL
theorem keyB_lenF {s : Str} (h : keyB s = true) : s.length ≤ 40 := by
  cases s with
  | nil => simp
  | cons c r => rw [keyB_cons] at h; simp at h; simp; omega
/-- Numbers that can be written. -/
def NB (n : Int) : Prop := -9000000000000000000 ≤ n ∧ n ≤ 9000000000000000000
def FW1 (x : Fix) : Prop := x.Device.length ≤ 1000 ∧ NB x.At ∧ NB x.X ∧ NB x.Y ∧ NB x.Error
theorem itoa_nb {n : Int} (h : NB n) : itoaO n = some (Lib.itoa n) ∧ (Lib.itoa n).length ≤ 21 :=
  ⟨itoa_in (by unfold NB at h; omega) (by unfold NB at h; omega), Lib.itoa_length_le n (by unfold NB at h; omega) (by unfold NB at h; omega)⟩
theorem numsL_len : ∀ l : List Int, (∀ n ∈ l, NB n) → (numsL l).length ≤ 22 * l.length
  | [], _ => by simp [numsL]
  | n :: l, h => by
    have h1 := numsL_len l (fun m hm => h m (List.mem_cons_of_mem _ hm))
    have h2 := (itoa_nb (h n (by simp))).2
    unfold numsL at h1 ⊢
    rw [List.flatMap_cons, List.length_append, List.length_append, List.length_cons]
    simp only [List.length_cons, List.length_nil]
    omega
theorem FW1.nums {x : Fix} (h : FW1 x) : ∀ n ∈ [x.At, x.X, x.Y, x.Error], NB n := by
  intro n hn
  simp only [List.mem_cons, List.not_mem_nil, or_false] at hn
  rcases hn with e | e | e | e <;> subst e
  · exact h.2.1
  · exact h.2.2.1
  · exact h.2.2.2.1
  · exact h.2.2.2.2
theorem fixL_len {x : Fix} (h : FW1 x) : (fixL x).length ≤ 2000 := by
  have h1 := numsL_len _ h.nums
  have h2 := h.1
  unfold fixL
  simp only [List.length_append, List.length_cons, List.length_nil] at h1 ⊢
  omega
def FW (l : List Fix) : Prop := l.length ≤ 20 ∧ ∀ x ∈ l, FW1 x
theorem fixT_take {l : List Fix} (h : FW l) (n : Nat) : (fixT (l.take n)).length ≤ 2000 * n := by
  have key : ∀ k : List Fix, (∀ s ∈ k, s ∈ l) → (fixT k).length ≤ 2000 * k.length := by
    intro k
    induction k with
    | nil => intro _; simp [fixT]
    | cons x k ih =>
      intro hk
      have h1 := fixL_len (h.2 x (hk x (by simp)))
      have h2 := ih (fun s hs => hk s (List.mem_cons_of_mem _ hs))
      unfold fixT at h2 ⊢
      rw [List.flatMap_cons, List.length_append, List.length_cons]
      omega
  have := key (l.take n) (fun s hs => List.mem_of_mem_take hs)
  have h2 : (l.take n).length ≤ n := by simp; omega
  omega
theorem fixT_snoc {l : List Fix} {n : Nat} (h : n < l.length) : fixT (l.take (n + 1)) = fixT (l.take n) ++ fixL l[n] := by
  rw [List.take_succ_eq_append_getElem h]; unfold fixT; rw [List.flatMap_append]; simp
theorem four_ints {a b c d : Int} {n : Int} (h0 : 0 ≤ n) (h1 : n < 4) : ∃ v, idx [a, b, c, d] n = some v ∧ v ∈ [a, b, c, d] ∧ [a, b, c, d].take (n + 1).toNat = [a, b, c, d].take n.toNat ++ [v] := by
  obtain ⟨v, hv, hm, _⟩ := idx_lt [a, b, c, d] h0 (by simp; omega)
  obtain ⟨hn', hg'⟩ := List.getElem?_eq_some_iff.1 (idx_some hv).2.2
  refine ⟨v, hv, hm, ?_⟩
  rw [show (n + 1).toNat = n.toNat + 1 by omega, List.take_succ_eq_append_getElem hn', hg']
theorem numsL_snoc (l : List Int) (v : Int) : numsL (l ++ [v]) = numsL l ++ ([32] ++ Lib.itoa v) := by
  unfold numsL; rw [List.flatMap_append]; simp
theorem PText_l2 (n8 : Int) (x : Fix) (h : FW1 x) (q : Str) (hq : q.length ≤ 100000) (h8 : 0 ≤ n8 ∧ n8 ≤ 1000) : place_Text_l2 n8 x q 0 = some (.inl (q ++ numsL [x.At, x.X, x.Y, x.Error] ++ [10], n8 + 1)) := by
  unfold place_Text_l2
  refine iter_to _ (fun z : Str × Int => (4 - z.2).toNat) (fun z : Str × Int => 0 ≤ z.2 ∧ z.2 ≤ 4 ∧ z.1 = q ++ numsL ([x.At, x.X, x.Y, x.Error].take z.2.toNat)) _ ?_ _ ⟨by simp, by simp, by simp [numsL]⟩
  rintro ⟨X, n⟩ ⟨g0, g1, g2⟩
  simp only at g0 g1 g2 ⊢
  have hX : X.length ≤ 101000 := by
    have h1 := numsL_len ([x.At, x.X, x.Y, x.Error].take n.toNat) (fun m hm => h.nums m (List.mem_of_mem_take hm))
    rw [g2, List.length_append]
    simp only [List.length_take, List.length_cons, List.length_nil] at h1
    omega
  unfold place_Text_b2
  by_cases hn : n < 4
  · left
    obtain ⟨v, hv, hm, ht⟩ := four_ints (a := x.At) (b := x.X) (c := x.Y) (d := x.Error) g0 hn
    obtain ⟨i1, i2⟩ := itoa_nb (h.nums v hm)
    rw [if_pos (by simpa using hn), hv]
    simp only [Option.bind_some]
    rw [i1]
    simp only [Option.bind_some]
    rw [cat_le (by simp; omega)]
    simp only [Option.bind_some]
    unfold bldW
    rw [if_pos (by simp; omega), w64_in (by omega) (by omega)]
    refine ⟨_, rfl, ⟨by simp only; omega, by simp only; omega, ?_⟩, by simp only; omega⟩
    simp only
    rw [ht, numsL_snoc, g2, List.append_assoc]
  · right
    have hn4 : n = 4 := by omega
    rw [if_neg (by simpa using hn)]
    unfold place_Text_k1 bldW
    rw [if_pos (by simp; omega), w64_in (by omega) (by omega), g2, hn4]
    rfl
theorem PText_l1 (l : List Fix) (h : FW l) : place_Text_l1 l [] 0 = some (fixT l, 0) := by
  have hl := h.1
  unfold place_Text_l1
  refine iter_to _ (fun x : Str × Int => (l.length - x.2).toNat) (fun x : Str × Int => 0 ≤ x.2 ∧ x.2 ≤ l.length ∧ x.1 = fixT (l.take x.2.toNat)) _ ?_ _ ⟨by simp, by simp, by simp [fixT]⟩
  rintro ⟨X, n⟩ ⟨g0, g1, g2⟩
  simp only at g0 g1 g2 ⊢
  unfold place_Text_b1
  by_cases hn : n < l.length
  · left
    obtain ⟨v, hv, hm, _⟩ := idx_lt l g0 hn
    obtain ⟨hn', hg'⟩ := List.getElem?_eq_some_iff.1 (idx_some hv).2.2
    have e : (n + 1).toNat = n.toNat + 1 := by omega
    have hw := h.2 v hm
    have hX := fixT_take h n.toNat
    rw [← g2] at hX
    have hd := hw.1
    rw [if_pos hn, hv]
    simp only [Option.bind_some]
    unfold bldW
    rw [if_pos (by omega)]
    simp only [Option.bind_some]
    rw [PText_l2 n v hw _ (by simp only [List.length_append]; omega) ⟨g0, by omega⟩]
    refine ⟨_, rfl, ⟨by simp only; omega, by simp only; omega, ?_⟩, by simp only; omega⟩
    simp only
    rw [e, fixT_snoc hn', g2, hg']
    unfold fixL
    simp
  · right
    have ht : (fixT l).length ≤ 200000 := by
      have := fixT_take h l.length
      rw [List.take_length] at this
      omega
    rw [if_neg hn, g2, List.take_of_length_le (by omega)]
    unfold place_Text_k2
    rw [if_neg (by omega)]
theorem joinW_nums (d : Str) (l : List Int) : joinW [32] (d :: l.map Lib.itoa) = d ++ numsL l := by
  show d ++ (l.map Lib.itoa).flatMap (fun y => [32] ++ y) = d ++ numsL l
  congr 1
  unfold numsL
  induction l with
  | nil => rfl
  | cons x l ih => rw [List.map_cons, List.flatMap_cons, ih, List.flatMap_cons]
theorem FixLines_l2 (q : Str) (hq : q.length ≤ 100000) (n4 : Int) (h4 : 0 ≤ n4 ∧ n4 ≤ 1000) (x : Fix) (h : FW1 x) : Q_FixLines_l2 q n4 x [x.Device] 0 = some (.inl (q ++ fixL x, n4 + 1)) := by
  unfold Q_FixLines_l2
  refine iter_to _ (fun z : List Str × Int => (4 - z.2).toNat) (fun z : List Str × Int => 0 ≤ z.2 ∧ z.2 ≤ 4 ∧ z.1 = x.Device :: ([x.At, x.X, x.Y, x.Error].take z.2.toNat).map Lib.itoa) _ ?_ _ ⟨by simp, by simp, by simp⟩
  rintro ⟨X, n⟩ ⟨g0, g1, g2⟩
  simp only at g0 g1 g2 ⊢
  have hX : X.length ≤ 10 := by rw [g2]; simp; omega
  unfold Q_FixLines_b2
  by_cases hn : n < 4
  · left
    obtain ⟨v, hv, hm, ht⟩ := four_ints (a := x.At) (b := x.X) (c := x.Y) (d := x.Error) g0 hn
    obtain ⟨i1, i2⟩ := itoa_nb (h.nums v hm)
    rw [if_pos (by simpa using hn), hv]
    simp only [Option.bind_some]
    rw [i1]
    simp only [Option.bind_some]
    rw [app_le (by simp; omega), w64_in (by omega) (by omega)]
    refine ⟨_, rfl, ⟨by simp only; omega, by simp only; omega, ?_⟩, by simp only; omega⟩
    simp only
    rw [ht, g2, List.map_append]
    rfl
  · right
    have hn4 : n = 4 := by omega
    have hXX : X = x.Device :: [x.At, x.X, x.Y, x.Error].map Lib.itoa := by rw [g2, hn4]; rfl
    have hj := joinW_nums x.Device [x.At, x.X, x.Y, x.Error]
    have hd := h.1
    have hnl := numsL_len _ h.nums
    simp only [List.length_cons, List.length_nil] at hnl
    rw [if_neg (by simpa using hn)]
    unfold Q_FixLines_k1
    rw [hXX, Join_eq [32] (by simp) _ (by simp) (fun s hs => by
      rcases List.mem_cons.1 hs with e | e
      · rw [e]; omega
      · obtain ⟨m, hm, rfl⟩ := List.mem_map.1 e
        have := (itoa_nb (h.nums m hm)).2
        omega), hj]
    simp only [Option.bind_some]
    rw [cat_le (by simp only [List.length_append, List.length_cons, List.length_nil]; omega)]
    simp only [Option.bind_some]
    rw [cat_le (by simp only [List.length_append, List.length_cons, List.length_nil]; omega), w64_in (by omega) (by omega)]
    rfl
theorem FixLines_eq (l : List Fix) (h : FW l) : Q_FixLines l = some (fixT l) := by
  have hl := h.1
  unfold Q_FixLines Q_FixLines_l1
  refine iter_to _ (fun x : Str × Int => (l.length - x.2).toNat) (fun x : Str × Int => 0 ≤ x.2 ∧ x.2 ≤ l.length ∧ x.1 = fixT (l.take x.2.toNat)) _ ?_ _ ⟨by simp, by simp, by simp [fixT]⟩
  rintro ⟨X, n⟩ ⟨g0, g1, g2⟩
  simp only at g0 g1 g2 ⊢
  unfold Q_FixLines_b1
  by_cases hn : n < l.length
  · left
    obtain ⟨v, hv, hm, _⟩ := idx_lt l g0 hn
    obtain ⟨hn', hg'⟩ := List.getElem?_eq_some_iff.1 (idx_some hv).2.2
    have e : (n + 1).toNat = n.toNat + 1 := by omega
    have hw := h.2 v hm
    have hX := fixT_take h n.toNat
    rw [← g2] at hX
    rw [if_pos hn, hv]
    simp only [Option.bind_some]
    rw [FixLines_l2 X (by omega) n ⟨g0, by omega⟩ v hw]
    refine ⟨_, rfl, ⟨by simp only; omega, by simp only; omega, ?_⟩, by simp only; omega⟩
    simp only
    rw [e, fixT_snoc hn', g2, hg']
  · right
    rw [if_neg hn, g2, List.take_of_length_le (by omega)]
/-! reading -/
def fixP (s : Str) : Option Fix := match splitC 32 s with
  | [a, b, c, d, e] => if a = [] ∨ b = [] ∨ c = [] ∨ d = [] ∨ e = [] then none else match numT b 15, numT c 15, numT d 15, numT e 15 with
    | some n, some m, some k, some j => some ⟨a, n, m, k, j⟩
    | _, _, _, _ => none
  | _ => none
theorem five_of {L : List Str} (h : L.length = 5) : ∃ a b c d e, L = [a, b, c, d, e] := by
  match L, h with
  | [a, b, c, d, e], _ => exact ⟨a, b, c, d, e, rfl⟩
theorem fixP_len {s : Str} (h : (splitC 32 s).length ≠ 5) : fixP s = none := by
  unfold fixP
  split
  · rename_i e; rw [e] at h; exact absurd rfl h
  · rfl
theorem fixP_empty {s : Str} (h : ([] : Str) ∈ splitC 32 s) : fixP s = none := by
  unfold fixP
  split
  · rename_i a b c d e q
    rw [q] at h
    rw [if_pos (by simp at h; rcases h with h | h | h | h | h <;> simp [← h])]
  · rfl
theorem fixP_five {s a b c d e : Str} (q : splitC 32 s = [a, b, c, d, e]) (h : ([] : Str) ∉ splitC 32 s) : fixP s = match numT b 15, numT c 15, numT d 15, numT e 15 with
    | some n, some m, some k, some j => some ⟨a, n, m, k, j⟩
    | _, _, _, _ => none := by
  unfold fixP
  rw [q]
  rw [q] at h
  simp only [List.mem_cons, not_or] at h
  dsimp only
  rw [if_neg (by rintro (k | k | k | k | k); exact h.1 k.symm; exact h.2.1 k.symm; exact h.2.2.1 k.symm; exact h.2.2.2.1 k.symm; exact h.2.2.2.2.1 k.symm)]
theorem FRead_1x (s : Str) (hs : s.length ≤ 1000000) (X : List Fix) (hX : X.length ≤ 1000000) : place_Read_1x s X = some (okR X (fixP s)) := by
  unfold place_Read_1x
  have hw := Words_eq s 5 hs
  by_cases hl : (splitC 32 s).length = 5
  · by_cases he : ([] : Str) ∈ splitC 32 s
    · rw [if_pos (.inr he)] at hw
      rw [hw, fixP_empty he]; rfl
    · rw [if_neg (by rintro (e | e); exact e (by omega); exact he e)] at hw
      rw [hw]
      simp only [Option.bind_some]
      rw [if_neg (by simp)]
      obtain ⟨a, b, c, d, e, q⟩ := five_of hl
      rw [fixP_five q he, q]
      rw [show slc [a, b, c, d, e] 1 (([a, b, c, d, e].length : Nat) : Int) = some [b, c, d, e] from rfl]
      simp only [Option.bind_some]
      rw [Numbers_eq _ (by simp)]
      simp only [Option.bind_some, numsT]
      cases h1 : numT b 15 with
      | none => rfl
      | some n =>
        cases h2 : numT c 15 with
        | none => rfl
        | some m =>
          cases h3 : numT d 15 with
          | none => rfl
          | some k =>
            cases h4 : numT e 15 with
            | none => rfl
            | some j =>
              simp only [Option.map_some, if_true]
              rw [show idx [a, b, c, d, e] 0 = some a from rfl, show idx [n, m, k, j] 0 = some n from rfl, show idx [n, m, k, j] 1 = some m from rfl, show idx [n, m, k, j] 2 = some k from rfl, show idx [n, m, k, j] 3 = some j from rfl]
              simp only [Option.bind_some]
              rw [app_le (by simp; omega)]; rfl
  · rw [if_pos (.inl (by omega))] at hw
    rw [hw, fixP_len hl]; rfl
theorem arr_step (p : List Fix) (a b c d e : Str) (A : List Int) (i : Int) (v : Str) (hi : 0 ≤ i ∧ i < 4) (hv : idx [a, b, c, d, e] (1 + i) = some v) (hA : A.length = 4) :
    Q_FixesRead_1x_l1 p [a, b, c, d, e] A i = match numT v 15 with
      | none => some (false, p)
      | some n => Q_FixesRead_1x_l1 p [a, b, c, d, e] (A.set i.toNat n) (i + 1) := by
  obtain ⟨m, q1, q2⟩ := QNumber_15 v
  obtain ⟨u, hu, _, _⟩ := idx_lt A (i := i) (by omega) (by omega)
  unfold Q_FixesRead_1x_l1
  rw [iter_eq]
  show Option.bind (Q_FixesRead_1x_b1 p [a, b, c, d, e] A i) _ = _
  rw [Q_FixesRead_1x_b1, if_pos hi.2, w64_in (x := 1 + i) (by omega) (by omega), hv]
  simp only [Option.bind_some]
  rw [q1]
  simp only [Option.bind_some]
  have hidx : idxA 4 A i = some u := by
    unfold idxA
    first | exact hu | (rw [if_pos (by omega)]; exact hu) | (simp [hA, hi.1, hi.2]; exact hu)
  rw [hidx]
  simp only [Option.bind_some]
  cases h : numT v 15 with
  | none => rfl
  | some n =>
    have := q2 n h
    subst this
    simp only [Option.isSome_some, Bool.not_true]
    rw [if_neg (by simp), w64_in (by omega) (by omega)]
    rfl
theorem QFRead_1x (s : Str) (hs : s.length ≤ 1000000) (X : List Fix) (hX : X.length ≤ 1000000) : ∃ z, Q_FixesRead_1x s X = some z ∧ z.1 = (fixP s).isSome ∧ (∀ x, fixP s = some x → z.2 = X ++ [x]) := by
  unfold Q_FixesRead_1x
  rw [splitO_eq (by omega)]
  simp only [Option.bind_some]
  have hsl := splitC_length 32 s
  by_cases hl : (splitC 32 s).length = 5
  · rw [if_neg (by omega), Contains_eq _ (by omega)]
    simp only [Option.bind_some]
    unfold Q_FixesRead_1x_j1
    by_cases he : ([] : Str) ∈ splitC 32 s
    · rw [decide_eq_true he, if_pos rfl, fixP_empty he]
      exact ⟨_, rfl, rfl, fun x h => by cases h⟩
    · rw [decide_eq_false he, if_neg (by simp)]
      obtain ⟨a, b, c, d, e, q⟩ := five_of hl
      rw [fixP_five q he, q]
      rw [arr_step X a b c d e _ 0 b (by omega) rfl rfl]
      cases h1 : numT b 15 with
      | none => exact ⟨_, rfl, rfl, fun x h => by cases h⟩
      | some n =>
        simp only
        rw [show (0 : Int) + 1 = 1 from rfl, arr_step X a b c d e _ 1 c (by omega) rfl rfl]
        cases h2 : numT c 15 with
        | none => exact ⟨_, rfl, rfl, fun x h => by cases h⟩
        | some m =>
          simp only
          rw [show (1 : Int) + 1 = 2 from rfl, arr_step X a b c d e _ 2 d (by omega) rfl rfl]
          cases h3 : numT d 15 with
          | none => exact ⟨_, rfl, rfl, fun x h => by cases h⟩
          | some k =>
            simp only
            rw [show (2 : Int) + 1 = 3 from rfl, arr_step X a b c d e _ 3 e (by omega) rfl rfl]
            cases h4 : numT e 15 with
            | none => exact ⟨_, rfl, rfl, fun x h => by cases h⟩
            | some j =>
              simp only
              rw [show (3 : Int) + 1 = 4 from rfl]
              unfold Q_FixesRead_1x_l1
              rw [iter_eq]
              show ∃ z, Option.bind (Q_FixesRead_1x_b1 X [a, b, c, d, e] [n, m, k, j] 4) _ = some z ∧ _
              rw [Q_FixesRead_1x_b1, if_neg (by omega), map_inr_after]
              unfold Q_FixesRead_1x_k2
              rw [show idx [a, b, c, d, e] 0 = some a from rfl, show idxA 4 [n, m, k, j] 0 = some n from rfl, show idxA 4 [n, m, k, j] 1 = some m from rfl, show idxA 4 [n, m, k, j] 2 = some k from rfl, show idxA 4 [n, m, k, j] 3 = some j from rfl]
              simp only [Option.bind_some]
              rw [app_le (by simp; omega)]
              exact ⟨_, rfl, rfl, fun x h => by obtain rfl := Option.some.inj h; rfl⟩
  · rw [if_pos (by omega)]
    unfold Q_FixesRead_1x_j1
    rw [if_pos rfl, fixP_len hl]
    exact ⟨_, rfl, rfl, fun x h => by cases h⟩
theorem fixP_B (s : Str) (x : Fix) (h : fixP s = some x) : FixB x := by
  unfold fixP at h
  split at h
  · split at h
    · cases h
    · rename_i a b c d e _ _
      cases h1 : numT b 15 with
      | none => rw [h1] at h; cases h
      | some n =>
        rw [h1] at h
        have hb := numT_bound (k := 15) h1
        cases h2 : numT c 15 with
        | none => rw [h2] at h; cases h
        | some m =>
          rw [h2] at h
          cases h3 : numT d 15 with
          | none => rw [h3] at h; cases h
          | some k =>
            rw [h3] at h
            cases h4 : numT e 15 with
            | none => rw [h4] at h; cases h
            | some j =>
              rw [h4] at h
              obtain rfl := Option.some.inj h
              unfold FixB
              simp only
              omega
  · cases h
def rfR (t : Str) : List Fix × Int × Int :=
  if 200000 < t.length then ([], 0, 2)
  else if (eachS fixP (lineL t).2 (lineL t).1 0 []).2.1 = false then ([], (eachS fixP (lineL t).2 (lineL t).1 0 []).1, 9)
  else if chkX (eachS fixP (lineL t).2 (lineL t).1 0 []).2.2 ≠ 0 then ([], 0, chkX (eachS fixP (lineL t).2 (lineL t).1 0 []).2.2)
  else ((eachS fixP (lineL t).2 (lineL t).1 0 []).2.2, 0, 0)
theorem FRead_eq (t : Str) : place_Read t = some (rfR t) := by
  unfold place_Read rfR
  by_cases hl : 200000 < t.length
  · rw [if_pos (by omega), if_pos hl]
  · rw [if_neg (by omega), if_neg hl]
    unfold base_Each_f1x_place_Read_1x
    rw [Lines_eq t (by omega)]
    simp only [Option.bind_some]
    have hll := lineL_len t
    unfold base_Each_f1x_place_Read_1x_l1
    rw [each_iter fixP place_Read_1x (lineL t).1 (lineL t).2 (by omega) (fun s hs X hX => FRead_1x s (by have := hll.2 s hs; omega) X hX) (fun X n => base_Each_f1x_place_Read_1x_b1 (lineL t) X n) (fun X n => rfl)]
    simp only [Option.bind_some]
    cases h : (eachS fixP (lineL t).2 (lineL t).1 0 []).2.1 with
    | false => rfl
    | true =>
      rw [if_neg (by simp), if_neg (by simp), CheckFixes_eq]
      simp only [Option.bind_some]
      split <;> rfl
theorem QFRead_eq (t : Str) : Q_FixesRead t = some (rfR t) := by
  unfold Q_FixesRead rfR
  by_cases hl : 200000 < t.length
  · rw [if_pos (by omega), if_pos hl]
  · rw [if_neg (by omega), if_neg hl]
    unfold Q_Lines_f1x_Q_FixesRead_1x Q_Lines_f1x_Q_FixesRead_1x_l1
    obtain ⟨Y, y1, y2⟩ := lines_iter fixP Q_FixesRead_1x (fun s hs X hX => QFRead_1x s hs X hX) (fun X t n => Q_Lines_f1x_Q_FixesRead_1x_b1 X t n) (fun X t n => rfl) t.length t [] 0 (Nat.le_refl _) (by simp; omega) (by omega) (by omega)
    rw [y1]
    simp only [Option.bind_some]
    cases h : (eachS fixP (lineL t).2 (lineL t).1 0 []).2.1 with
    | false => rfl
    | true =>
      rw [if_neg (by simp), if_neg (by simp), y2 h, FixesFault_eq _ (eachS_all fixP FixB fixP_B _ _ 0 [] (by simp))]
      simp only [Option.bind_some]
      split <;> rfl
/-! the law -/
theorem rfR_len (t : Str) : (rfR t).1.length ≤ 300000 := by
  unfold rfR
  by_cases hl : 200000 < t.length
  · rw [if_pos hl]; simp
  · rw [if_neg hl]
    have h1 := eachS_len fixP (lineL t).2 (lineL t).1 0 []
    have h2 := (lineL_len t).1
    split
    · simp
    · split
      · simp
      · simp only; simp at h1; omega
theorem fixStep_FW {p : Option Fix} {x : Fix} (h : fixStep p x = 0) : FW1 x := by
  unfold fixStep at h
  split at h
  · omega
  · rename_i hk
    split at h
    · omega
    · rename_i hb
      have hd := keyB_lenF (s := x.Device) (by simpa using hk)
      unfold fbad spotX at hb
      simp at hb
      refine ⟨by omega, ?_, ?_, ?_, ?_⟩ <;> unfold NB <;> omega
theorem chkX_FW {l : List Fix} (hl : (l.length : Int) ≤ 19) (h : chkX l = 0) : FW l := by
  refine ⟨by omega, ?_⟩
  have h0 : scanC fixStep none l = 0 := by
    unfold chkX at h
    rw [if_neg (by omega)] at h
    exact h
  have key : ∀ (l : List Fix) (p : Option Fix), scanC fixStep p l = 0 → ∀ x ∈ l, FW1 x := by
    intro l
    induction l with
    | nil => intro p _ x hx; cases hx
    | cons y l ih =>
      intro p hp x hx
      unfold scanC at hp
      split at hp
      · rename_i hy
        rcases List.mem_cons.1 hx with e | e
        · subst e
          exact fixStep_FW hy
        · exact ih _ hp x e
      · rename_i hy; exact absurd hp hy
  exact key l none h0
theorem FText_eq (l : List Fix) (hl : (l.length : Int) ≤ 19) : place_Text l = some (if chkX l ≠ 0 then ([], chkX l) else (fixT l, 0)) := by
  unfold place_Text
  rw [CheckFixes_eq]
  simp only [Option.bind_some]
  by_cases h : chkX l ≠ 0
  · rw [if_pos h, if_pos h]
  · rw [if_neg h, if_neg h, PText_l1 l (chkX_FW hl (Classical.not_not.1 h))]
theorem FixText_k {s : Stm} {K : Int} (hs : SOk s K) (hK : 60 ≤ K) : Gen (Stream_FixText s) (K - 60) (fun _ => True) := by
  refine Gen.of ?_
  unfold Stream_FixText
  refine Ok.gen (Range_k hs (by omega) (by omega) (by omega) (by omega)) (fun n s1 hn q1 => ?_)
  dsimp only
  refine Ok.gen (Fixes_ok (k := K - 40) (q1.less (by omega)) (by omega) (by omega)) (fun l s2 hl q2 => ?_)
  dsimp only
  rw [FixesFault_eq l hl.2]
  simp only [Option.bind_some]
  have j1 : ∀ q : Str, q.length ≤ 100000 → Ok (Stream_FixText_j1 (l, s2) q) (fun r => True ∧ SOk r.2 (K - 60)) := by
    intro q hq
    unfold Stream_FixText_j1
    refine Ok.gen (Pick_k q2 (by omega) (by simp) (by simp)) (fun v s3 hv q3 => ?_)
    have hv' : v = 0 ∨ v = 1 ∨ v = 2 := by simp at hv; omega
    unfold Stream_FixText_l1
    refine Ok.iter (fun x : (List Int) × Int × Str × Int => (v - x.2.2.2).toNat) (fun x => 0 ≤ x.2.2.2 ∧ SOk ⟨x.1, x.2.1⟩ (K - 41 - 3 * x.2.2.2) ∧ x.2.2.2 ≤ v ∧ (x.2.2.1.length : Int) ≤ 100000 + 100 * x.2.2.2) ?_ _ ⟨by simp, by simpa using q3.less (by omega), by simp only; omega, by simp only; omega⟩
    rintro ⟨L, a, t, i⟩ ⟨h0, h1, h2, h3⟩
    dsimp only at h0 h1 h2 h3 ⊢
    unfold Stream_FixText_b1
    simp only
    by_cases hi : i < v
    · rw [if_pos hi]
      refine Ok.gen (Changed_g h1 (by omega) (by omega) (by simp)) (fun r s4 hr q4 => ?_)
      refine Ok.ret ?_
      simp only [List.length_cons, List.length_nil] at hr
      rw [w64_in (by omega) (by omega)]
      exact ⟨⟨by simp only; omega, q4.less (by simp only; omega), by simp only; omega, by simp only; omega⟩, by simp only; omega⟩
    · rw [if_neg hi]
      exact Ok.inr (Ok.ret ⟨trivial, h1.less (by omega)⟩)
  split
  · rename_i h0
    have hw := chkX_FW (by omega) h0
    have ht := fixT_take hw l.length
    rw [List.take_length] at ht
    have := hw.1
    rw [FixLines_eq l hw]
    simp only [Option.bind_some]
    exact j1 _ (by omega)
  · exact j1 _ (by simp)
theorem fx_true (v5 : Str × Stm) (x : Str × Int) : L_FixTexts_j1 v5 x x.2 x.1 = some true := by
  unfold L_FixTexts_j1
  rw [FRead_eq, QFRead_eq]
  simp only [Option.bind_some, if_true]
  have hl := rfR_len v5.1
  rw [show slices_Equal_Fix_Fix (rfR v5.1).1 (rfR v5.1).1 = some (decide ((rfR v5.1).1 = (rfR v5.1).1)) from gEqual_eq _ _ (by omega)]
  simp only [decide_true, Option.bind_some, if_true]
  rw [placed_eq]
  rfl
theorem FixTexts_plain (L : List Int) : L_FixTexts L = some true := by
  have key : Ok (L_FixTexts L) (fun r => r = true) := by
    unfold L_FixTexts
    refine Ok.gen (Range_k (K := 1000) ⟨by simp, by simp⟩ (by omega) (by omega) (by omega) (by omega)) (fun n s1 hn q1 => ?_)
    dsimp only
    refine Ok.gen (Fixes_ok (k := 900) (q1.less (by omega)) (by omega) (by omega)) (fun l s2 hl q2 => ?_)
    refine Ok.gen (FixText_k q2 (by omega)) (fun t s3 _ q3 => ?_)
    dsimp only
    rw [FText_eq l (by omega), FixesFault_eq l hl.2]
    simp only [Option.bind_some]
    by_cases h : chkX l = 0
    · rw [if_pos h, if_neg (by simp [h]), FixLines_eq l (chkX_FW (by omega) h), h]
      simp only [Option.bind_some]
      exact ⟨true, fx_true (t, s3) (fixT l, 0), rfl⟩
    · rw [if_neg h, if_pos h]
      exact ⟨true, fx_true (t, s3) ([], chkX l), rfl⟩
  obtain ⟨r, h1, rfl⟩ := key
  exact h1
end Go.Beacon

