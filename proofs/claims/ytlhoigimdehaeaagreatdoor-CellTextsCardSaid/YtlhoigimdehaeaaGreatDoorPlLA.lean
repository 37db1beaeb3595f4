/- Plain facts on what the functions compute. No program in sight. -/
import Derived.Test.YtlhoigimdehaeaaGreatDoorCtxP
import Derived.Test.YtlhoigimdehaeaaGreatDoorPlBA
import Derived.Lib.ItoaLen
import Derived.Lib.AtoiTie
import Derived.Lib.AtoiBound
import Derived.Lib.MapLaws
import Derived.Lib.ValidLaws
import Derived.Lib.TrimUEq
/- Plain facts of the streams that make inputs: each ends, and what it hands out is within bounds. No program in sight. -/
set_option linter.unusedVariables false
set_option linter.unusedSimpArgs false
namespace Go.Beacon
open Go Go.Eng

abbrev Stm := Fleetmake_Stream
/-- At least k more numbers can be drawn. -/
def SOk (s : Stm) (k : Int) : Prop := 0 ≤ s.at_ ∧ s.at_ + k ≤ 4611686018427387904
theorem SOk.less {s : Stm} {k k' : Int} (h : SOk s k) (hk : k' ≤ k) : SOk s k' := ⟨h.1, by have := h.2; omega⟩
def Gen {α : Type} (m : Option (α × Stm)) (k : Int) (P : α → Prop) : Prop := ∃ v s', m = some (v, s') ∧ P v ∧ SOk s' k
theorem Gen.bind {α β : Type} {m : Option (α × Stm)} {k k' : Int} {P : α → Prop} {Q : β → Prop} {f : α × Stm → Option (β × Stm)} (h : Gen m k P) (hf : ∀ v s', P v → SOk s' k → Gen (f (v, s')) k' Q) : Gen (m.bind f) k' Q := by
  obtain ⟨v, s', rfl, h1, h2⟩ := h
  exact hf v s' h1 h2
theorem Gen.ret {α : Type} {v : α} {s : Stm} {k : Int} {P : α → Prop} (h1 : P v) (h2 : SOk s k) : Gen (some (v, s)) k P := ⟨v, s, rfl, h1, h2⟩
theorem Gen.mono {α : Type} {m : Option (α × Stm)} {k k' : Int} {P Q : α → Prop} (h : Gen m k P) (hk : k' ≤ k) (hp : ∀ v, P v → Q v) : Gen m k' Q := by
  obtain ⟨v, s', e, h1, h2⟩ := h
  exact ⟨v, s', e, hp v h1, h2.less hk⟩

theorem Below_ok (x : Int) {n : Int} (h1 : 1 ≤ n) (h2 : n ≤ 4611686018427387904) : ∃ v, Below x n = some v ∧ 0 ≤ v ∧ v < n := by
  unfold Below Below_j1
  rw [if_neg (by omega), rem_ne (by omega)]
  have a1 := Int.lt_tmod_of_pos x (show 0 < n by omega)
  have a2 := Int.tmod_lt_of_pos x (show 0 < n by omega)
  simp only [Option.bind_some]
  split
  · exact ⟨_, rfl, by rw [w64_in] <;> omega, by rw [w64_in] <;> omega⟩
  · exact ⟨_, rfl, by omega, by omega⟩

theorem Next_ok {s : Stm} {n k : Int} (hs : SOk s (k + 1)) (h1 : 1 ≤ n) (h2 : n ≤ 4611686018427387904) (hk : 0 ≤ k) : Gen (Stream_Next s n) k (fun v => 0 ≤ v ∧ v < n) := by
  obtain ⟨a1, a2⟩ := hs
  have e1 : w64 (s.at_ + 1) = s.at_ + 1 := by rw [w64_in] <;> omega
  have e2 : w64 (s.at_ + 1 - 1) = s.at_ := by rw [w64_in] <;> omega
  unfold Stream_Next
  split
  · obtain ⟨v, hv, h3, h4⟩ := Below_ok (w64 (w64 (s.at_ + 1) * 7919)) h1 h2
    rw [hv]
    exact Gen.ret ⟨h3, h4⟩ ⟨by show 0 ≤ w64 (s.at_ + 1); omega, by show w64 (s.at_ + 1) + k ≤ _; omega⟩
  · rename_i hl
    have hl' : (0 : Int) < s.L.length := by omega
    rw [e1, e2, rem_pos hl' a1, quo_ne (by omega)]
    simp only [Option.bind_some]
    obtain ⟨x, hx, _, _⟩ := idx_lt s.L (i := s.at_ % s.L.length) (Int.emod_nonneg _ (by omega)) (Int.emod_lt_of_pos _ hl')
    rw [hx]
    simp only [Option.bind_some]
    obtain ⟨u, hu, _, _⟩ := Below_ok x (n := 1073741824) (by omega) (by omega)
    rw [hu]
    simp only [Option.bind_some]
    obtain ⟨v, hv, h3, h4⟩ := Below_ok (w64 (u + w64 (w64 (s.at_.tdiv s.L.length) * w64 (7919 + s.at_ % s.L.length)))) h1 h2
    rw [hv]
    exact Gen.ret ⟨h3, h4⟩ ⟨by simp only; omega, by simp only; omega⟩

theorem Pick_ok {s : Stm} {l : List Int} {k : Int} (hs : SOk s (k + 1)) (h1 : l ≠ []) (h2 : l.length ≤ 1000) (hk : 0 ≤ k) : Gen (Stream_Pick s l) k (fun v => v ∈ l) := by
  unfold Stream_Pick
  have hl : 0 < l.length := List.length_pos_iff.2 h1
  refine Gen.bind (Next_ok hs (by omega) (by omega) hk) (fun v s' hv hs' => ?_)
  obtain ⟨x, hx, hm, _⟩ := idx_lt l hv.1 hv.2
  simp only [hx, Option.bind_some]
  exact Gen.ret hm hs'
theorem Range_ok {s : Stm} {a b k : Int} (hs : SOk s (k + 1)) (hab : a ≤ b) (ha : -1152921504606846976 ≤ a) (hb : b ≤ 1152921504606846976) (hk : 0 ≤ k) : Gen (Stream_Range s a b) k (fun v => a ≤ v ∧ v ≤ b) := by
  unfold Stream_Range
  have e1 : w64 (b - a) = b - a := by rw [w64_in] <;> omega
  have e2 : w64 (b - a + 1) = b - a + 1 := by rw [w64_in] <;> omega
  rw [if_neg (by omega), e1, e2]
  refine Gen.bind (Next_ok hs (by omega) (by omega) hk) (fun v s' hv hs' => ?_)
  refine Gen.ret ?_ hs'
  simp only
  rw [w64_in] <;> omega
theorem Flip_ok {s : Stm} {n k : Int} (hs : SOk s (k + 1)) (h1 : 1 ≤ n) (h2 : n ≤ 4611686018427387904) (hk : 0 ≤ k) : Gen (Stream_Flip s n) k (fun _ => True) := by
  unfold Stream_Flip
  exact Gen.bind (Next_ok hs h1 h2 hk) (fun v s' hv hs' => Gen.ret trivial hs')
theorem Some_ok {s : Stm} {l : List Str} {k : Int} (hs : SOk s (k + 1)) (h1 : l ≠ []) (h2 : l.length ≤ 1000) (hk : 0 ≤ k) : Gen (Stream_Some s l) k (fun v => v ∈ l) := by
  unfold Stream_Some
  have hl : 0 < l.length := List.length_pos_iff.2 h1
  refine Gen.bind (Next_ok hs (by omega) (by omega) hk) (fun v s' hv hs' => ?_)
  obtain ⟨x, hx, hm, _⟩ := idx_lt l hv.1 hv.2
  simp only [hx, Option.bind_some]
  exact Gen.ret hm hs'
theorem Odd_ok {s : Stm} {a b k : Int} (hs : SOk s (k + 2)) (hab : a ≤ b) (ha : -1099511627776 ≤ a) (hb : b ≤ 1099511627776) (hk : 0 ≤ k) : Gen (Stream_Odd s a b) k (fun v => -1099511627777 ≤ v ∧ v ≤ 1099511627777) := by
  unfold Stream_Odd
  refine Gen.bind (Flip_ok (k := k + 1) (hs.less (by omega)) (by omega) (by omega) (by omega)) (fun v s' hv hs' => ?_)
  simp only
  split
  · refine Gen.bind (Pick_ok hs' (by simp) (by simp) hk) (fun v s' hv hs' => Gen.ret ?_ hs')
    have e1 : w64 (a - 1) = a - 1 := by rw [w64_in] <;> omega
    have e2 : w64 (b + 1) = b + 1 := by rw [w64_in] <;> omega
    rw [e1, e2] at hv
    simp only [List.mem_cons, List.not_mem_nil, or_false] at hv
    simp only; omega
  · refine Gen.bind (Range_ok hs' hab (by omega) (by omega) hk) (fun v s' hv hs' => Gen.ret ?_ hs')
    simp only; omega
end Go.Beacon

/- Plain facts of keys: the program's check and the reference's. No program in sight. -/
set_option linter.unusedVariables false
set_option linter.unusedSimpArgs false
namespace Go.Beacon
open Go Go.Eng

theorem Out_eq (n lo hi : Int) : base_Out n lo hi = (decide (n < lo) || decide (hi < n)) := rfl
theorem Qin_eq (n lo hi : Int) : Q_in n lo hi = (decide (lo ≤ n) && decide (n ≤ hi)) := rfl
/-! keys -/
def okN (n : Nat) : Bool := (decide (97 ≤ n) && decide (n ≤ 122)) || (decide (48 ≤ n) && decide (n ≤ 57)) || decide (n = 45) || decide (n = 95)
def keyB : Str → Bool
  | [] => false
  | c :: r => decide ((c :: r).length ≤ 40) && (decide (97 ≤ c.toNat) && decide (c.toNat ≤ 122)) && (c :: r).all (fun c => okN c.toNat)
theorem keyB_cons (c : UInt8) (r : Str) : keyB (c :: r) = (decide ((c :: r).length ≤ 40) && (decide (97 ≤ c.toNat) && decide (c.toNat ≤ 122)) && (c :: r).all (fun c => okN c.toNat)) := rfl
theorem Key_loop (s : Str) (hl : s.length ≤ 40) : base_Key_l1 s 0 = some (s.all (fun c => okN c.toNat)) := by
  unfold base_Key_l1
  rw [iter_find s (fun x : Int => base_Key_b1 s x) (fun c => if okN c.toNat = true then none else some false) true (by omega), findE_bool]
  · intro i c h0 h1 hc
    have hB : (if (97 : Int) ≤ (c.toNat : Int) then if (c.toNat : Int) ≤ (122 : Int) then !true else if (48 : Int) ≤ (c.toNat : Int) then if (c.toNat : Int) ≤ (57 : Int) then !true else if (c.toNat : Int) = (45 : Int) then !true else decide (¬ ((c.toNat : Int) = (95 : Int))) else if (c.toNat : Int) = (45 : Int) then !true else decide (¬ ((c.toNat : Int) = (95 : Int))) else if (48 : Int) ≤ (c.toNat : Int) then if (c.toNat : Int) ≤ (57 : Int) then !true else if (c.toNat : Int) = (45 : Int) then !true else decide (¬ ((c.toNat : Int) = (95 : Int))) else if (c.toNat : Int) = (45 : Int) then !true else decide (¬ ((c.toNat : Int) = (95 : Int)))) = !okN c.toNat := by
      unfold okN
      rw [Bool.eq_iff_iff]
      repeat' split
      all_goals simp
      all_goals omega
    rw [base_Key_b1, if_pos h1, hc]
    simp only [Option.bind_some]
    rw [hB]
    unfold base_Key_j2
    rw [w64_in (by omega) (by omega)]
    cases okN c.toNat <;> rfl
  · rw [base_Key_b1, if_neg (by omega)]; rfl
theorem Key_eq (s : Str) : base_Key s = some (keyB s) := by
  unfold base_Key base_Key_j1
  cases s with
  | nil => simp [keyB]
  | cons c r =>
    rw [if_neg (by simp)]
    have hc : idx (c :: r) 0 = some c := rfl
    rw [hc]
    simp only [Option.bind_some]
    by_cases hl : (c :: r).length ≤ 40
    · rw [if_neg (by omega), Key_loop _ hl, keyB_cons]
      by_cases h1 : (c.toNat : Int) < 97
      · rw [if_pos h1]
        have : decide (97 ≤ c.toNat) = false := by simp; omega
        rw [this]; simp
      · rw [if_neg h1]
        have e1 : decide (97 ≤ c.toNat) = true := by simp; omega
        by_cases h2 : (122 : Int) < c.toNat
        · rw [if_pos (by simpa using h2)]
          have : decide (c.toNat ≤ 122) = false := by simp; omega
          rw [this]; simp
        · rw [if_neg (by simpa using h2)]
          have : decide (c.toNat ≤ 122) = true := by simp; omega
          rw [e1, this, decide_eq_true hl]; simp
    · rw [if_pos (by omega), keyB_cons, decide_eq_false hl]; simp
theorem chars_fin : ∀ n : Fin 256, decide (UInt8.ofNat n.val ∈ ([97, 98, 99, 100, 101, 102, 103, 104, 105, 106, 107, 108, 109, 110, 111, 112, 113, 114, 115, 116, 117, 118, 119, 120, 121, 122, 48, 49, 50, 51, 52, 53, 54, 55, 56, 57, 45, 95] : List UInt8)) = okN n.val := by decide +kernel
theorem low_fin : ∀ n : Fin 256, decide (UInt8.ofNat n.val ∈ ([97, 98, 99, 100, 101, 102, 103, 104, 105, 106, 107, 108, 109, 110, 111, 112, 113, 114, 115, 116, 117, 118, 119, 120, 121, 122] : List UInt8)) = (decide (97 ≤ n.val) && decide (n.val ≤ 122)) := by decide +kernel
theorem u8_fin {p : UInt8 → Bool} {q : Nat → Bool} (h : ∀ n : Fin 256, p (UInt8.ofNat n.val) = q n.val) (c : UInt8) : p c = q c.toNat := by
  have := h ⟨c.toNat, c.toNat_lt⟩
  simpa using this
theorem only_eq (s chars : Str) (hl : (s.length : Int) ≤ 4611686018427387904) : Q_only s chars = some (s.all (fun c => decide (c ∈ chars))) := by
  unfold Q_only Q_only_l1
  rw [iter_find s (fun x : Int => Q_only_b1 s chars x) (fun c => if decide (c ∈ chars) = true then none else some false) true hl, findE_bool]
  · intro i c h0 h1 hc
    rw [Q_only_b1, if_pos h1, hc]
    simp only [Option.bind_some, indexByteI, toU8]
    rw [w64_in (by omega) (by omega)]
    by_cases hm : c ∈ chars
    · rw [if_neg (fun h => (indexByte_nonneg _ _).1 h hm)]; simp [hm]
    · rw [if_pos ((indexByte_nonneg _ _).2 hm)]; simp [hm]
  · rw [Q_only_b1, if_neg (by omega)]; rfl
theorem QKey_eq (s : Str) : Q_Key s = some (keyB s) := by
  unfold Q_Key Q_Key_j1
  rw [Qin_eq]
  cases s with
  | nil => rfl
  | cons c r =>
    have hs : slc (c :: r) 0 1 = some [c] := by rw [slc_in (by omega) (by omega) (by simp; omega)]; simp
    rw [hs]
    simp only [Option.bind_some]
    by_cases hl : (c :: r).length ≤ 40
    · rw [if_pos (by simp; simp at hl; omega), only_eq _ _ (by simp)]
      simp only [Option.bind_some, List.all_cons, List.all_nil, Bool.and_true]
      rw [only_eq _ _ (by omega)]
      simp only [Option.bind_some]
      rw [u8_fin (p := fun c => decide (c ∈ ([97, 98, 99, 100, 101, 102, 103, 104, 105, 106, 107, 108, 109, 110, 111, 112, 113, 114, 115, 116, 117, 118, 119, 120, 121, 122] : List UInt8))) (q := fun n => decide (97 ≤ n) && decide (n ≤ 122)) low_fin c]
      have e : (c :: r).all (fun c => decide (c ∈ ([97, 98, 99, 100, 101, 102, 103, 104, 105, 106, 107, 108, 109, 110, 111, 112, 113, 114, 115, 116, 117, 118, 119, 120, 121, 122, 48, 49, 50, 51, 52, 53, 54, 55, 56, 57, 45, 95] : List UInt8))) = (c :: r).all (fun c => okN c.toNat) := by
        congr 1; funext c
        exact u8_fin (p := fun c => decide (c ∈ ([97, 98, 99, 100, 101, 102, 103, 104, 105, 106, 107, 108, 109, 110, 111, 112, 113, 114, 115, 116, 117, 118, 119, 120, 121, 122, 48, 49, 50, 51, 52, 53, 54, 55, 56, 57, 45, 95] : List UInt8))) chars_fin c
      rw [e, keyB_cons, decide_eq_true hl, Bool.true_and]
      split
      · rename_i h; rw [h]; simp
      · rename_i h
        rw [Bool.not_eq_true] at h
        rw [h]; simp
    · rw [if_neg (by simp; simp at hl; omega), keyB_cons, decide_eq_false hl]; rfl

theorem Moment_eq (n : Int) : base_Moment n = (decide (0 ≤ n) && decide (n ≤ 345686399999)) := by
  unfold base_Moment
  rw [Out_eq, Bool.eq_iff_iff]
  simp
theorem QMoment_eq (n : Int) : Q_Moment n = (decide (0 ≤ n) && decide (n ≤ 345686399999)) := rfl
end Go.Beacon

/- Plain facts: loops by a measure, products within bounds, quotients rounded down. No program in sight. -/
set_option linter.unusedVariables false
set_option linter.unusedSimpArgs false
namespace Go.Beacon
open Go Go.Eng

/-- A loop whose rounds keep something and make a number smaller ends; what its last round tells holds. -/
theorem iter_inv {S A : Type} (f : S → Option (S ⊕ A)) (m : S → Nat) (Inv : S → Prop) (R : A → Prop)
    (h : ∀ s, Inv s → (∃ s', f s = some (.inl s') ∧ Inv s' ∧ m s' < m s) ∨ (∃ a, f s = some (.inr a) ∧ R a)) : ∀ s, Inv s → ∃ a, iter f s = some a ∧ R a := by
  have key : ∀ (n : Nat) s, m s ≤ n → Inv s → ∃ a, iter f s = some a ∧ R a := by
    intro n
    induction n with
    | zero =>
      intro s hm hi
      rcases h s hi with ⟨s', _, _, h3⟩ | ⟨a, h1, h2⟩
      · omega
      · exact ⟨a, by rw [iter_eq, h1]; rfl, h2⟩
    | succ n ih =>
      intro s hm hi
      rcases h s hi with ⟨s', h1, h2, h3⟩ | ⟨a, h1, h2⟩
      · obtain ⟨a, h4, h5⟩ := ih s' (by omega) h2
        exact ⟨a, by rw [iter_eq, h1]; simpa using h4, h5⟩
      · exact ⟨a, by rw [iter_eq, h1]; rfl, h2⟩
  exact fun s hi => key (m s) s (Nat.le_refl _) hi
/-- The same, for a result that may be missing. -/
theorem iter_to {S A : Type} (f : S → Option (S ⊕ A)) (m : S → Nat) (Inv : S → Prop) (r : Option A)
    (h : ∀ s, Inv s → (∃ s', f s = some (.inl s') ∧ Inv s' ∧ m s' < m s) ∨ f s = r.map .inr) : ∀ s, Inv s → iter f s = r := by
  have key : ∀ (n : Nat) s, m s ≤ n → Inv s → iter f s = r := by
    intro n
    induction n with
    | zero =>
      intro s hm hi
      rcases h s hi with ⟨s', _, _, h3⟩ | h1
      · omega
      · rw [iter_eq, h1, map_inr_after]
    | succ n ih =>
      intro s hm hi
      rcases h s hi with ⟨s', h1, h2, h3⟩ | h1
      · rw [iter_eq, h1]; simpa using ih s' (by omega) h2
      · rw [iter_eq, h1, map_inr_after]
  exact fun s hi => key (m s) s (Nat.le_refl _) hi
theorem u64_in {x : Int} (h0 : 0 ≤ x) (h1 : x ≤ 9223372036854775807) : IntKind.u64.wrap x = x := by
  unfold IntKind.wrap
  simp [IntKind.bits, IntKind.signed]
  omega
theorem First_eq (xs : List Int) (h : (xs.length : Int) ≤ 4611686018427387904) : base_First xs = some (orL xs) := gOr_eq xs h
end Go.Beacon

/- Strings cut at one byte. No program in sight. -/
set_option linter.unusedVariables false
set_option linter.unusedSimpArgs false
namespace Go.Beacon
open Go Go.Eng

/-- A string cut at each byte c. -/
def splitC (c : UInt8) : Str → List Str
  | [] => [[]]
  | b :: r => if b = c then [] :: splitC c r else match splitC c r with
    | [] => [[b]]
    | h :: t => (b :: h) :: t
theorem splitC_ne (c : UInt8) : ∀ s, splitC c s ≠ []
  | [] => by simp [splitC]
  | b :: r => by
    unfold splitC
    split
    · simp
    · split <;> simp
theorem splitC_length (c : UInt8) : ∀ s, (splitC c s).length ≤ s.length + 1
  | [] => by simp [splitC]
  | b :: r => by
    have ih := splitC_length c r
    unfold splitC
    split
    · simp; omega
    · split
      · simp
      · rename_i h t e; rw [e] at ih; simp at ih ⊢; omega
theorem splitC_part (c : UInt8) : ∀ s, ∀ x ∈ splitC c s, x.length ≤ s.length ∧ c ∉ x
  | [] => by simp [splitC]
  | b :: r => by
    have ih := splitC_part c r
    intro x hx
    unfold splitC at hx
    split at hx
    · rcases List.mem_cons.1 hx with rfl | hx
      · simp
      · have := ih x hx; simp; exact ⟨by omega, this.2⟩
    · rename_i hb
      split at hx
      · rename_i e; exact absurd e (splitC_ne c r)
      · rename_i h t e
        rw [e] at ih
        rcases List.mem_cons.1 hx with rfl | hx
        · have := ih h (by simp); simp; exact ⟨this.1, fun e => hb e.symm, this.2⟩
        · have := ih x (by simp [hx]); simp; exact ⟨by omega, this.2⟩
theorem split_C (c : UInt8) : ∀ s, Lib.split s [c] = splitC c s
  | [] => rfl
  | b :: r => by
    have ih := split_C c r
    unfold Lib.split at ih ⊢
    unfold splitC
    by_cases hb : b = c
    · subst hb
      have hix : Lib.index (b :: r) [b] = 0 := by rw [Lib.index]; simp [List.isPrefixOf]
      rw [if_pos rfl, Lib.count_cons_eq, Nat.add_comm, Lib.splitK, hix, ← ih]
      simp
    · rw [if_neg hb, Lib.count_cons_ne b c r hb, ← ih]
      have hp : ([c] : List UInt8).isPrefixOf (b :: r) = false := by simp [List.isPrefixOf, Ne.symm hb]
      have hix : Lib.index (b :: r) [c] = if Lib.index r [c] == -1 then -1 else Lib.index r [c] + 1 := by rw [Lib.index, hp]; simp
      by_cases hm : Lib.index r [c] = -1
      · rw [Lib.count_miss hm]; rfl
      · have hge := Lib.index_ge r [c]
        obtain ⟨j, hj⟩ : ∃ j : Nat, Lib.index r [c] = j := ⟨(Lib.index r [c]).toNat, by omega⟩
        have hix' : Lib.index (b :: r) [c] = ((j + 1 : Nat) : Int) := by rw [hix, if_neg (fun e => hm (beq_iff_eq.1 e)), hj]; omega
        rw [Lib.count_hit (by simp) hj, Nat.add_comm]
        have n1 : ¬ ((((j + 1 : Nat) : Int) == -1) = true) := fun h => by have := beq_iff_eq.1 h; omega
        have n2 : ¬ ((((j : Nat) : Int) == -1) = true) := fun h => by have := beq_iff_eq.1 h; omega
        simp only [Lib.splitK, hix', hj, if_neg n1, if_neg n2]
        simp [List.take_succ_cons]
/-- strings.Split at one byte. -/
theorem splitO_eq {s : Str} {c : UInt8} (h : s.length ≤ 1000000000) : splitO s [c] = some (splitC c s) := by
  unfold splitO
  rw [if_pos ⟨by omega, by simp⟩]
  congr 1
  have h1 := Lib.splitB_data ⟨#[c]⟩ 0 (Lib.countB ⟨s.toArray⟩ ⟨#[c]⟩) ⟨s.toArray⟩
  rw [← split_C]
  exact h1
theorem splitC_none (c : UInt8) : ∀ s, c ∉ s → splitC c s = [s]
  | [], _ => rfl
  | b :: r, h => by
    simp only [List.mem_cons, not_or] at h
    unfold splitC
    rw [if_neg (fun e => h.1 e.symm), splitC_none c r h.2]
theorem splitC_cons (c : UInt8) : ∀ (x r : Str), c ∉ x → splitC c (x ++ c :: r) = x :: splitC c r
  | [], r, _ => by simp [splitC]
  | b :: x, r, h => by
    simp only [List.mem_cons, not_or] at h
    rw [List.cons_append, splitC, if_neg (fun e => h.1 e.symm), splitC_cons c x r h.2]
end Go.Beacon

/- Names: keys with points between. No program in sight. -/
set_option linter.unusedVariables false
set_option linter.unusedSimpArgs false
namespace Go.Beacon
open Go Go.Eng

/-- A string cut at the first byte c. -/
def cut1 (c : UInt8) : Str → Str × Str × Bool
  | [] => ([], [], false)
  | b :: r => if b = c then ([], r, true) else (b :: (cut1 c r).1, (cut1 c r).2.1, (cut1 c r).2.2)
theorem cut1_miss (c : UInt8) : ∀ s, (cut1 c s).2.2 = false → (cut1 c s).1 = s ∧ (cut1 c s).2.1 = []
  | [] => fun _ => ⟨rfl, rfl⟩
  | b :: r => by
    have ih := cut1_miss c r
    unfold cut1
    split
    · intro h; cases h
    · intro h; have := ih h; simp [this]
theorem cut_C (c : UInt8) : ∀ s, Lib.cut s [c] = cut1 c s
  | [] => rfl
  | b :: r => by
    have ih := cut_C c r
    unfold Lib.cut at ih ⊢
    unfold cut1
    by_cases hb : b = c
    · subst hb
      have hix : Lib.index (b :: r) [b] = 0 := by rw [Lib.index]; simp [List.isPrefixOf]
      rw [if_pos rfl, hix]; simp
    · rw [if_neg hb, ← ih]
      have hp : ([c] : List UInt8).isPrefixOf (b :: r) = false := by simp [List.isPrefixOf, Ne.symm hb]
      have hix : Lib.index (b :: r) [c] = if Lib.index r [c] == -1 then -1 else Lib.index r [c] + 1 := by rw [Lib.index, hp]; simp
      by_cases hm : Lib.index r [c] = -1
      · rw [hix, hm]; simp
      · have hge := Lib.index_ge r [c]
        have hn : ¬ ((Lib.index r [c] == -1) = true) := fun e => hm (beq_iff_eq.1 e)
        obtain ⟨j, hj⟩ : ∃ j : Nat, Lib.index r [c] = j := ⟨(Lib.index r [c]).toNat, by omega⟩
        have hix' : Lib.index (b :: r) [c] = ((j + 1 : Nat) : Int) := by rw [hix, if_neg hn, hj]; omega
        rw [hix', hj, if_pos (by omega), if_pos (by omega)]
        simp
theorem cutO_eq {s : Str} {c : UInt8} (h : s.length ≤ 1000000000) : cutO s [c] = some (cut1 c s) := by
  unfold cutO
  rw [if_pos (by omega), cut_C]
theorem split_cut (c : UInt8) : ∀ s, splitC c s = if (cut1 c s).2.2 = true then (cut1 c s).1 :: splitC c (cut1 c s).2.1 else [s]
  | [] => rfl
  | b :: r => by
    have ih := split_cut c r
    have e1 : splitC c (b :: r) = (if b = c then [] :: splitC c r else match splitC c r with
      | [] => [[b]]
      | h :: t => (b :: h) :: t) := rfl
    rw [e1]
    unfold cut1
    by_cases hb : b = c
    · rw [if_pos hb, if_pos hb]; rfl
    · rw [if_neg hb, if_neg hb, ih]
      by_cases hc : (cut1 c r).2.2 = true
      · simp [hc]
      · simp [hc]
theorem cut1_len (c : UInt8) : ∀ s, (cut1 c s).1.length ≤ s.length ∧ (cut1 c s).2.1.length ≤ s.length
  | [] => ⟨Nat.le_refl _, Nat.le_refl _⟩
  | b :: r => by
    have ih := cut1_len c r
    unfold cut1
    split
    · simp
    · simp; omega
/-- A name: at most k keys with points between. -/
def dotB (k : Nat) (s : Str) : Bool := decide ((splitC 46 s).length ≤ k) && (splitC 46 s).all keyB
theorem Dotted_loop (most : Nat) (hm : most ≤ 1000) : ∀ (k : Nat) (s : Str) (n : Int), 0 ≤ n → n + k = most → s.length ≤ 1000000000 → base_Dotted_l1 most s n = some (dotB k s)
  | 0, s, n, h0, hn, hs => by
    have hne := splitC_ne 46 s
    have hp : 0 < (splitC 46 s).length := List.length_pos_iff.2 hne
    unfold base_Dotted_l1
    rw [iter_eq]
    show (match base_Dotted_b1 most s n with | _ => _) = _
    rw [base_Dotted_b1, if_neg (by omega)]
    simp only [Option.map_some, Option.bind_some]
    unfold dotB
    rw [decide_eq_false (by omega)]; rfl
  | k + 1, s, n, h0, hn, hs => by
    have ih := Dotted_loop most hm k (cut1 46 s).2.1 (n + 1) (by omega) (by omega) (by have := (cut1_len 46 s).2; omega)
    unfold base_Dotted_l1 at ih ⊢
    rw [iter_eq]
    show (match base_Dotted_b1 most s n with | _ => _) = _
    rw [base_Dotted_b1, if_pos (by omega), cutO_eq hs]
    simp only [Option.bind_some, Key_eq]
    unfold dotB
    rw [split_cut 46 s]
    by_cases hk : keyB (cut1 46 s).1 = true
    · by_cases hc : (cut1 46 s).2.2 = true
      · simp only [hk, hc, Bool.not_true, Bool.false_eq_true, if_false, if_true]
        rw [w64_in (by omega) (by omega)]
        refine ih.trans ?_
        unfold dotB
        simp [hk]
      · have hs' := cut1_miss 46 s (by simpa using hc)
        rw [hs'.1] at hk
        simp [hk, hc, hs'.1]
    · by_cases hc : (cut1 46 s).2.2 = true
      · simp [hk, hc]
      · have hs' := cut1_miss 46 s (by simpa using hc)
        rw [hs'.1] at hk
        simp [hk, hc, hs'.1]
theorem isName_eq {s : Str} (h : s.length ≤ 1000000000) : twin_isName s = some (dotB 8 s) := by
  unfold twin_isName base_Dotted
  rw [show ((8 : Int)) = ((8 : Nat) : Int) from rfl, Dotted_loop 8 (by omega) 8 s 0 (by omega) (by omega) h]
  rfl
theorem QPropName_eq {s : Str} (h : s.length ≤ 1000000000) : Q_PropName s = some (dotB 8 s) := by
  have hl := splitC_length 46 s
  unfold Q_PropName
  rw [splitO_eq h]
  simp only [Option.bind_some]
  unfold dotB
  by_cases h8 : (splitC 46 s).length ≤ 8
  · rw [if_pos (by omega), show slices_ContainsFunc_string_string (splitC 46 s) (fun y0 => Q_PropName_1x y0) = some ((splitC 46 s).any fun k => !keyB k) from gContainsFunc_eq _ _ _ (fun x _ => by unfold Q_PropName_1x; rw [QKey_eq]; rfl) (by omega)]
    simp [Q_PropName_j1, h8, List.all_eq_not_any_not]
  · rw [if_neg (by omega), decide_eq_false h8, Bool.false_and]; rfl
/-- What is wrong with a value. -/
theorem Out_not_in (n lo hi : Int) : (!(Q_in n lo hi)) = base_Out n lo hi := by
  rw [Qin_eq, Out_eq, Bool.eq_iff_iff]; simp <;> omega
end Go.Beacon

/- Streams, in the form that is stepped by one text: what can still be drawn is counted down. No program in sight. -/
set_option linter.unusedVariables false
set_option linter.unusedSimpArgs false
namespace Go.Beacon
open Go Go.Eng

theorem Next_k {s : Stm} {n K : Int} (hs : SOk s K) (hK : 1 ≤ K) (h1 : 1 ≤ n) (h2 : n ≤ 4611686018427387904) : Gen (Stream_Next s n) (K - 1) (fun v => 0 ≤ v ∧ v < n) :=
  Next_ok (hs.less (by omega)) h1 h2 (by omega)
theorem Flip_k {s : Stm} {n K : Int} (hs : SOk s K) (hK : 1 ≤ K) (h1 : 1 ≤ n) (h2 : n ≤ 4611686018427387904) : Gen (Stream_Flip s n) (K - 1) (fun _ => True) :=
  Flip_ok (hs.less (by omega)) h1 h2 (by omega)
theorem Pick_k {s : Stm} {l : List Int} {K : Int} (hs : SOk s K) (hK : 1 ≤ K) (h1 : l ≠ []) (h2 : l.length ≤ 1000) : Gen (Stream_Pick s l) (K - 1) (fun v => v ∈ l) :=
  Pick_ok (hs.less (by omega)) h1 h2 (by omega)
theorem Range_k {s : Stm} {a b K : Int} (hs : SOk s K) (hK : 1 ≤ K) (hab : a ≤ b) (ha : -1152921504606846976 ≤ a) (hb : b ≤ 1152921504606846976) : Gen (Stream_Range s a b) (K - 1) (fun v => a ≤ v ∧ v ≤ b) :=
  Range_ok (hs.less (by omega)) hab ha hb (by omega)
theorem Some_k {s : Stm} {l : List Str} {K : Int} (hs : SOk s K) (hK : 1 ≤ K) (h1 : l ≠ []) (h2 : l.length ≤ 1000) : Gen (Stream_Some s l) (K - 1) (fun v => v ∈ l) :=
  Some_ok (hs.less (by omega)) h1 h2 (by omega)
theorem Odd_k {s : Stm} {a b K : Int} (hs : SOk s K) (hK : 2 ≤ K) (hab : a ≤ b) (ha : -1099511627776 ≤ a) (hb : b ≤ 1099511627776) : Gen (Stream_Odd s a b) (K - 2) (fun v => -1099511627777 ≤ v ∧ v ≤ 1099511627777) :=
  Odd_ok (hs.less (by omega)) hab ha hb (by omega)
end Go.Beacon

/- Plain functions that end, and what their results are like: one lemma for each step. No program in sight. -/
set_option linter.unusedVariables false
set_option linter.unusedSimpArgs false
namespace Go.Beacon
open Go Go.Eng

/-- It ends, and its result is so. -/
def Ok {α : Type} (m : Option α) (Q : α → Prop) : Prop := ∃ r, m = some r ∧ Q r
theorem Ok.ret {α : Type} {v : α} {Q : α → Prop} (h : Q v) : Ok (some v) Q := ⟨v, rfl, h⟩
theorem Ok.mono {α : Type} {m : Option α} {P Q : α → Prop} (h : Ok m P) (hp : ∀ v, P v → Q v) : Ok m Q := by
  obtain ⟨r, h1, h2⟩ := h; exact ⟨r, h1, hp r h2⟩
theorem Ok.bind {α β : Type} {m : Option α} {f : α → Option β} {P : α → Prop} {Q : β → Prop} (h : Ok m P) (hf : ∀ v, P v → Ok (f v) Q) : Ok (m.bind f) Q := by
  obtain ⟨r, rfl, h2⟩ := h; exact hf r h2
theorem Ok.is {α β : Type} {m : Option α} {v : α} {f : α → Option β} {Q : β → Prop} (h : m = some v) (hf : Ok (f v) Q) : Ok (m.bind f) Q := by rw [h]; exact hf
theorem Ok.inr {α β : Type} {m : Option β} {Q : α ⊕ β → Prop} (h : Ok m (fun r => Q (.inr r))) : Ok (Option.map .inr m) Q := by
  obtain ⟨r, rfl, h2⟩ := h; exact ⟨_, rfl, h2⟩
theorem Ok.gen {α β : Type} {m : Option (α × Stm)} {k : Int} {P : α → Prop} {f : α × Stm → Option β} {Q : β → Prop} (h : Gen m k P) (hf : ∀ v s', P v → SOk s' k → Ok (f (v, s')) Q) : Ok (m.bind f) Q := by
  obtain ⟨v, s', rfl, h1, h2⟩ := h; exact hf v s' h1 h2
theorem Gen.of {α : Type} {m : Option (α × Stm)} {k : Int} {P : α → Prop} (h : Ok m (fun r => P r.1 ∧ SOk r.2 k)) : Gen m k P := by
  obtain ⟨⟨v, s⟩, h1, h2, h3⟩ := h; exact ⟨v, s, h1, h2, h3⟩
theorem Ok.of {α : Type} {m : Option (α × Stm)} {k : Int} {P : α → Prop} (h : Gen m k P) : Ok m (fun r => P r.1 ∧ SOk r.2 k) := by
  obtain ⟨v, s, h1, h2, h3⟩ := h; exact ⟨(v, s), h1, h2, h3⟩
theorem Ok.idx {α β : Type} {xs : List α} {i : Int} {f : α → Option β} {Q : β → Prop} (h0 : 0 ≤ i) (h1 : i < xs.length) (hf : ∀ x, idx xs i = some x → x ∈ xs → Ok (f x) Q) : Ok ((idx xs i).bind f) Q := by
  obtain ⟨x, hx, hm, _⟩ := idx_lt xs h0 h1
  rw [hx]; exact hf x hx hm
theorem Ok.app {α β : Type} {xs ys : List α} {f : List α → Option β} {Q : β → Prop} (h : xs.length + ys.length ≤ 1000000000) (hf : Ok (f (xs ++ ys)) Q) : Ok ((app xs ys).bind f) Q := by
  rw [app_le h]; exact hf
theorem Ok.slc {α β : Type} {xs : List α} {a b : Int} {f : List α → Option β} {Q : β → Prop} (h0 : 0 ≤ a) (h1 : a ≤ b) (h2 : b ≤ xs.length) (hf : ∀ ys : List α, ys = (xs.drop a.toNat).take (b.toNat - a.toNat) → (ys.length : Int) = b - a → Ok (f ys) Q) : Ok ((slc xs a b).bind f) Q := by
  rw [slc_in h0 h1 h2]; exact hf _ rfl (by simp; omega)
theorem cat_le {a b : Str} (h : a.length + b.length ≤ 9223372036854775807) : catO a b = some (a ++ b) := by unfold catO; rw [if_pos h]
theorem Ok.cat {β : Type} {a b : Str} {f : Str → Option β} {Q : β → Prop} (h : a.length + b.length ≤ 9223372036854775807) (hf : Ok (f (a ++ b)) Q) : Ok ((catO a b).bind f) Q := by
  rw [cat_le h]; exact hf
/-- What a round of a loop may tell: it keeps something and makes a number smaller, or it is the last. -/
abbrev Stp {S A : Type} (m : S → Nat) (Inv : S → Prop) (R : A → Prop) (s : S) : S ⊕ A → Prop
  | .inl s' => Inv s' ∧ m s' < m s
  | .inr a => R a
theorem Ok.iter {S A : Type} {f : S → Option (S ⊕ A)} {R : A → Prop} (m : S → Nat) (Inv : S → Prop)
    (h : ∀ s, Inv s → Ok (f s) (Stp m Inv R s)) (s : S) (hs : Inv s) : Ok (iter f s) R := by
  refine iter_inv f m Inv R (fun s hi => ?_) s hs
  obtain ⟨r, h1, h2⟩ := h s hi
  cases r with
  | inl s' => exact .inl ⟨s', h1, h2.1, h2.2⟩
  | inr a => exact .inr ⟨a, h1, h2⟩
/-- A round of a loop over the places of a list. -/
abbrev Rng {A : Type} (N : Nat) (R : A → Prop) (i : Int) : Int ⊕ A → Prop
  | .inl j => j = i + 1 ∧ i < N
  | .inr a => R a
theorem Ok.range {A : Type} {f : Int → Option (Int ⊕ A)} {R : A → Prop} (N : Nat) (h : ∀ i : Int, 0 ≤ i → i ≤ N → Ok (f i) (Rng N R i)) : Ok (Eng.iter f 0) R := by
  refine Ok.iter (fun i : Int => N + 1 - i.toNat) (fun i : Int => 0 ≤ i ∧ i ≤ N) (fun i hi => ?_) 0 ⟨by omega, by omega⟩
  refine (h i hi.1 hi.2).mono (fun r hr => ?_)
  cases r with
  | inl j => simp only [Rng, Stp] at hr ⊢; omega
  | inr a => exact hr
theorem strR_len (n : Int) : (strR n).length ≤ 4 := by
  unfold strR Utf8.encode
  simp only
  repeat' split
  all_goals simp
end Go.Beacon

/- Reading a text line by line: the program's way and the reference's. No program in sight. -/
set_option linter.unusedVariables false
set_option linter.unusedSimpArgs false
namespace Go.Beacon
open Go Go.Eng

/-- The lines of a text, and whether the last one is ended. -/
def lineL (t : Str) : List Str × Bool := if t = [] then ([], true) else if t.getLast? = some 10 then (splitC 10 t.dropLast, true) else (splitC 10 t, false)
theorem snoc_of {t : Str} (h : t ≠ []) : ∃ b c, t = b ++ [c] := ⟨t.dropLast, t.getLast h, (List.dropLast_concat_getLast h).symm⟩
theorem Lines_eq (t : Str) (h : t.length ≤ 1000000) : base_Lines t = some (lineL t) := by
  unfold base_Lines lineL
  by_cases h0 : t = []
  · rw [if_pos h0, if_pos h0]
  · rw [if_neg h0, if_neg h0]
    obtain ⟨b, c, rfl⟩ := snoc_of h0
    have hl : ((b ++ [c]).length : Int) = b.length + 1 := by simp
    have hb : b.length ≤ 1000000 := by simp at h; omega
    have hlast : (b ++ [c]).getLast? = some c := by simp
    have hdl : (b ++ [c]).dropLast = b := by simp
    have h1 : w64 (((b ++ [c]).length : Int) - ((([10] : Str).length : Nat) : Int)) = (b.length : Int) := by
      rw [hl]
      simp only [List.length_cons, List.length_nil]
      rw [w64_in (by omega) (by omega)]; omega
    have hs : internal_stringslite_HasSuffix (b ++ [c]) [10] = some (decide (c = 10)) := by
      unfold internal_stringslite_HasSuffix internal_stringslite_HasSuffix_j1
      rw [if_pos (by rw [hl]; simp; omega), h1, slc_in (by omega) (by omega) (by omega)]
      simp only [Option.bind_some]
      have : ((b ++ [c]).drop (b.length : Int).toNat).take (((b ++ [c]).length : Int).toNat - (b.length : Int).toNat) = [c] := by simp
      rw [this]
      simp
    have hc : strings_CutSuffix (b ++ [c]) [10] = some (if c = 10 then (b, true) else (b ++ [c], false)) := by
      unfold strings_CutSuffix internal_stringslite_CutSuffix
      rw [hs]
      simp only [Option.bind_some]
      by_cases e : c = 10
      · rw [decide_eq_true e, if_neg (by simp), h1, slc_in (by omega) (by omega) (by omega), if_pos e]
        simp
      · rw [decide_eq_false e, if_pos (by simp), if_neg e]; rfl
    rw [hc, hlast, hdl]
    simp only [Option.bind_some]
    by_cases e : c = 10
    · rw [if_pos e, if_pos (by rw [e])]
      simp only
      rw [splitO_eq (by omega)]; rfl
    · rw [if_neg e, if_neg (fun h => e (Option.some.inj h))]
      simp only
      rw [splitO_eq (by simp; omega)]; rfl
theorem cut1_hit (c : UInt8) : ∀ s : Str, (cut1 c s).2.2 = true → s = (cut1 c s).1 ++ c :: (cut1 c s).2.1 ∧ c ∉ (cut1 c s).1
  | [] => fun h => by cases h
  | b :: r => by
    have ih := cut1_hit c r
    unfold cut1
    by_cases hb : b = c
    · rw [if_pos hb]; subst hb; intro _; exact ⟨rfl, by simp⟩
    · rw [if_neg hb]
      intro h
      obtain ⟨h1, h2⟩ := ih h
      refine ⟨?_, ?_⟩
      · simp only [List.cons_append]
        rw [← h1]
      · simp only [List.mem_cons, not_or]
        exact ⟨fun e => hb e.symm, h2⟩
theorem cut1_miss2 (c : UInt8) : ∀ s : Str, (cut1 c s).2.2 = false → c ∉ s
  | [] => fun _ => by simp
  | b :: r => by
    have ih := cut1_miss2 c r
    unfold cut1
    by_cases hb : b = c
    · rw [if_pos hb]; intro h; cases h
    · rw [if_neg hb]
      intro h
      simp only [List.mem_cons, not_or]
      exact ⟨fun e => hb e.symm, ih h⟩
theorem lineL_miss {t : Str} (h0 : t ≠ []) (h : (cut1 10 t).2.2 = false) : lineL t = ([t], false) := by
  have hn := cut1_miss2 10 t h
  unfold lineL
  rw [if_neg h0, if_neg (fun e => hn (List.mem_of_getLast? e)), splitC_none 10 t hn]
theorem lineL_hit {t : Str} (h : (cut1 10 t).2.2 = true) : lineL t = ((cut1 10 t).1 :: (lineL (cut1 10 t).2.1).1, (lineL (cut1 10 t).2.1).2) := by
  obtain ⟨h1, h2⟩ := cut1_hit 10 t h
  generalize (cut1 10 t).1 = a at h1 h2 ⊢
  generalize (cut1 10 t).2.1 = r at h1 ⊢
  subst h1
  unfold lineL
  rw [if_neg (by simp)]
  by_cases hr : r = []
  · subst hr
    rw [if_pos (by simp), if_pos rfl]
    have : (a ++ [10]).dropLast = a := by simp
    rw [this, splitC_none 10 a h2]
  · rw [if_neg hr]
    obtain ⟨b, c, rfl⟩ := snoc_of hr
    have e1 : (a ++ 10 :: (b ++ [c])).getLast? = some c := by
      rw [show a ++ 10 :: (b ++ [c]) = (a ++ 10 :: b) ++ [c] by simp]; exact List.getLast?_concat
    have e2 : (b ++ [c]).getLast? = some c := by simp
    have e3 : (a ++ 10 :: (b ++ [c])).dropLast = a ++ 10 :: b := by
      rw [show a ++ 10 :: (b ++ [c]) = (a ++ 10 :: b) ++ [c] by simp]; exact List.dropLast_concat
    have e4 : (b ++ [c]).dropLast = b := List.dropLast_concat
    rw [e1, e2, e3, e4]
    by_cases hc : c = 10
    · rw [if_pos (by rw [hc]), if_pos (by rw [hc]), splitC_cons 10 a b h2]
    · rw [if_neg (fun e => hc (Option.some.inj e)), if_neg (fun e => hc (Option.some.inj e)), splitC_cons 10 a _ h2]
theorem lineL_len (t : Str) : (lineL t).1.length ≤ t.length + 1 ∧ ∀ s ∈ (lineL t).1, s.length ≤ t.length := by
  unfold lineL
  split
  · simp
  · split
    · have h1 := splitC_length 10 t.dropLast
      have h2 : t.dropLast.length ≤ t.length := by simp
      refine ⟨by simp only; omega, fun s hs => ?_⟩
      have := (splitC_part 10 t.dropLast s hs).1
      omega
    · exact ⟨splitC_length 10 t, fun s hs => (splitC_part 10 t s hs).1⟩
section
variable {α : Type} (pl : Str → Option α)
/-- Reading lines one after another. -/
def eachS (ends : Bool) : List Str → Int → List α → Int × Bool × List α
  | [], _, X => (0, true, X)
  | s :: r, i, X => if ends = false ∧ r = [] then (i, false, X) else match pl s with
    | none => (i, false, X)
    | some x => eachS ends r (i + 1) (X ++ [x])
theorem eachS_len (ends : Bool) : ∀ (l : List Str) (i : Int) (X : List α), (eachS pl ends l i X).2.2.length ≤ X.length + l.length
  | [], i, X => by simp [eachS]
  | s :: r, i, X => by
    unfold eachS
    split
    · simp
    · cases hs : pl s with
      | none => simp
      | some x =>
        have := eachS_len ends r (i + 1) (X ++ [x])
        simp only [List.length_append, List.length_cons, List.length_nil] at this ⊢
        omega
theorem each_iter2 (rd : Str → List α → Option (Bool × List α)) (L : List Str) (ends : Bool) (hl : L.length ≤ 1000000) (hrd : ∀ s ∈ L, ∀ X : List α, X.length ≤ 1000000 → ∃ z, rd s X = some z ∧ z.1 = (pl s).isSome ∧ (∀ x, pl s = some x → z.2 = X ++ [x]))
    (b : List α → Int → Option ((List α × Int) ⊕ (Int × Bool × List α)))
    (hb : ∀ X n, b X n = if n < (L.length : Int) then (idx L n).bind fun v => if (!ends) = true then (if n = w64 ((L.length : Int) - 1) then some (.inr (n, false, X)) else (rd v X).bind fun z => if (!z.1) = true then some (.inr (n, false, z.2)) else some (.inl (z.2, w64 (n + 1)))) else (rd v X).bind fun z => if (!z.1) = true then some (.inr (n, false, z.2)) else some (.inl (z.2, w64 (n + 1))) else some (.inr (0, true, X))) :
    ∃ Y, iter (fun x : List α × Int => b x.1 x.2) ([], 0) = some ((eachS pl ends L 0 []).1, (eachS pl ends L 0 []).2.1, Y) ∧ ((eachS pl ends L 0 []).2.1 = true → Y = (eachS pl ends L 0 []).2.2) := by
  have key : ∀ (m : Nat) (n : Int) (X : List α), 0 ≤ n → n + m = L.length → X.length ≤ n.toNat → ∃ Y, iter (fun x : List α × Int => b x.1 x.2) (X, n) = some ((eachS pl ends (L.drop n.toNat) n X).1, (eachS pl ends (L.drop n.toNat) n X).2.1, Y) ∧ ((eachS pl ends (L.drop n.toNat) n X).2.1 = true → Y = (eachS pl ends (L.drop n.toNat) n X).2.2) := by
    intro m
    induction m with
    | zero =>
      intro n X h0 hn hX
      rw [iter_eq]
      simp only
      rw [hb, if_neg (by omega), List.drop_of_length_le (by omega)]
      exact ⟨X, rfl, fun _ => rfl⟩
    | succ m ih =>
      intro n X h0 hn hX
      obtain ⟨s, hs, hm, hd⟩ := idx_lt L h0 (by omega)
      obtain ⟨z, z1, z2, z3⟩ := hrd s hm X (by omega)
      have e : (n + 1).toNat = n.toNat + 1 := by omega
      rw [iter_eq]
      simp only
      rw [hb, if_pos (by omega), hs, hd]
      simp only [Option.bind_some]
      rw [z1, w64_in (x := (L.length : Int) - 1) (by omega) (by omega), w64_in (x := n + 1) (by omega) (by omega)]
      simp only [Option.bind_some]
      have hnil : L.drop (n + 1).toNat = [] ↔ n = (L.length : Int) - 1 := by
        rw [List.drop_eq_nil_iff]; omega
      have hgo : ∃ Y, (((if (!z.1) = true then some (.inr (n, false, z.2)) else some (.inl (z.2, n + 1))) : Option ((List α × Int) ⊕ (Int × Bool × List α))).bind (after (iter fun x : List α × Int => b x.1 x.2))) = some ((match pl s with | none => (n, false, X) | some x => eachS pl ends (L.drop (n + 1).toNat) (n + 1) (X ++ [x])).1, (match pl s with | none => (n, false, X) | some x => eachS pl ends (L.drop (n + 1).toNat) (n + 1) (X ++ [x])).2.1, Y) ∧ ((match pl s with | none => (n, false, X) | some x => eachS pl ends (L.drop (n + 1).toNat) (n + 1) (X ++ [x])).2.1 = true → Y = (match pl s with | none => (n, false, X) | some x => eachS pl ends (L.drop (n + 1).toNat) (n + 1) (X ++ [x])).2.2) := by
        cases hp : pl s with
        | none =>
          rw [hp] at z2
          have z2' : z.1 = false := z2
          rw [z2', if_pos (by simp)]
          exact ⟨z.2, rfl, fun h => by cases h⟩
        | some x =>
          rw [hp] at z2
          have z2' : z.1 = true := z2
          rw [z2', if_neg (by simp), z3 x hp]
          exact ih (n + 1) (X ++ [x]) (by omega) (by omega) (by simp; omega)
      unfold eachS
      by_cases hz : ends = false ∧ L.drop (n + 1).toNat = []
      · rw [if_pos hz, if_pos (by rw [hz.1]; rfl), if_pos (hnil.1 hz.2)]
        exact ⟨X, rfl, fun h => by cases h⟩
      · rw [if_neg hz]
        cases hend : ends with
        | true =>
          rw [hend] at hgo
          rw [if_neg (by simp)]; exact hgo
        | false =>
          rw [hend] at hgo
          rw [if_pos (by simp), if_neg (fun h => hz ⟨hend, hnil.2 h⟩)]; exact hgo
  have := key L.length 0 [] (by omega) (by omega) (by simp)
  simpa using this
theorem lines_iterB (B : Nat) (rd : Str → List α → Option (Bool × List α)) (hrd : ∀ s : Str, s.length ≤ B → ∀ X : List α, X.length ≤ 1000000 → ∃ z, rd s X = some z ∧ z.1 = (pl s).isSome ∧ (∀ x, pl s = some x → z.2 = X ++ [x]))
    (b : List α → Str → Int → Option ((List α × Str × Int) ⊕ (Int × Bool × List α)))
    (hb : ∀ X t n, b X t n = if t ≠ [] then (cutO t [10]).bind fun v => if (!v.2.2) = true then some (.inr (n, false, X)) else (rd v.1 X).bind fun z => if (!z.1) = true then some (.inr (n, false, z.2)) else some (.inl (z.2, v.2.1, w64 (n + 1))) else some (.inr (0, true, X))) :
    ∀ (m : Nat) (t : Str) (X : List α) (i : Int), t.length ≤ m → m ≤ B → X.length + t.length ≤ 1000000 → 0 ≤ i → i + t.length ≤ 1000000 →
      ∃ Y, iter (fun x : List α × Str × Int => b x.1 x.2.1 x.2.2) (X, t, i) = some ((eachS pl (lineL t).2 (lineL t).1 i X).1, (eachS pl (lineL t).2 (lineL t).1 i X).2.1, Y) ∧
        ((eachS pl (lineL t).2 (lineL t).1 i X).2.1 = true → Y = (eachS pl (lineL t).2 (lineL t).1 i X).2.2) := by
  have nil : ∀ (X : List α) (i : Int), ∃ Y, iter (fun x : List α × Str × Int => b x.1 x.2.1 x.2.2) (X, [], i) = some ((eachS pl (lineL []).2 (lineL []).1 i X).1, (eachS pl (lineL []).2 (lineL []).1 i X).2.1, Y) ∧
        ((eachS pl (lineL []).2 (lineL []).1 i X).2.1 = true → Y = (eachS pl (lineL []).2 (lineL []).1 i X).2.2) := by
    intro X i
    refine ⟨X, ?_, fun _ => rfl⟩
    rw [iter_eq]
    simp only
    rw [hb, if_neg (by simp)]; rfl
  intro m
  induction m with
  | zero =>
    intro t X i hm _ _ _ _
    obtain rfl : t = [] := List.length_eq_zero_iff.1 (by omega)
    exact nil X i
  | succ m ih =>
    intro t X i hm hB hX h0 hi
    by_cases ht : t = []
    · subst ht; exact nil X i
    · have hpos := List.length_pos_iff.2 ht
      have hlen := cut1_len 10 t
      rw [iter_eq]
      simp only
      rw [hb, if_pos ht, cutO_eq (by omega)]
      simp only [Option.bind_some]
      cases hc : (cut1 10 t).2.2 with
      | false =>
        rw [if_pos (by simp), lineL_miss ht hc]
        refine ⟨X, ?_, fun h => ?_⟩
        · simp [eachS]
        · simp [eachS] at h
      | true =>
        have hit := cut1_hit 10 t hc
        have hsum : t.length = (cut1 10 t).1.length + 1 + (cut1 10 t).2.1.length := by
          have := congrArg List.length hit.1
          simp at this; omega
        rw [if_neg (by simp), lineL_hit hc]
        obtain ⟨z, z1, z2, z3⟩ := hrd (cut1 10 t).1 (by omega) X (by omega)
        rw [z1]
        simp only [Option.bind_some]
        have hne : ¬ ((lineL (cut1 10 t).2.1).2 = false ∧ (lineL (cut1 10 t).2.1).1 = []) := by
          rintro ⟨e1, e2⟩
          unfold lineL at e1 e2
          split at e1
          · cases e1
          · rename_i hr
            rw [if_neg hr] at e2
            split at e2
            · exact splitC_ne 10 _ e2
            · exact splitC_ne 10 _ e2
        unfold eachS
        rw [if_neg hne]
        cases hp : pl (cut1 10 t).1 with
        | none =>
          rw [hp] at z2
          have z2' : z.1 = false := z2
          rw [z2', if_pos (by simp)]
          refine ⟨z.2, rfl, fun h => by cases h⟩
        | some x =>
          rw [hp] at z2
          have z2' : z.1 = true := z2
          rw [z2', if_neg (by simp), z3 x hp, w64_in (by omega) (by omega)]
          exact ih (cut1 10 t).2.1 (X ++ [x]) (i + 1) (by omega) (by omega) (by simp; omega) (by omega) (by omega)
end
theorem Contains_eq (L : List Str) (hl : L.length ≤ 10000000) : slices_Contains_string_string L [] = some (decide (([] : Str) ∈ L)) := by
  unfold slices_Contains_string_string slices_Index_string_string
  have key : ∀ (m : Nat) (n : Int), 0 ≤ n → n + m = L.length → ∃ j, slices_Index_string_string_l1 L [] n = some j ∧ (0 ≤ j ↔ ([] : Str) ∈ L.drop n.toNat) := by
    intro m
    induction m with
    | zero =>
      intro n h0 hn
      refine ⟨-1, ?_, ?_⟩
      · unfold slices_Index_string_string_l1
        rw [iter_eq, slices_Index_string_string_b1, if_neg (by omega), map_inr_after]
      · rw [List.drop_of_length_le (by omega)]; simp
    | succ m ih =>
      intro n h0 hn
      obtain ⟨s, hs, _, hd⟩ := idx_lt L h0 (by omega)
      unfold slices_Index_string_string_l1
      rw [iter_eq, slices_Index_string_string_b1, if_pos (by omega), hs]
      simp only [Option.bind_some]
      by_cases e : ([] : Str) = s
      · rw [if_pos e, map_inr_after]
        exact ⟨n, rfl, by rw [hd, ← e]; simp; omega⟩
      · rw [if_neg e, w64_in (by omega) (by omega)]
        simp only [Option.bind_some, after_inl]
        obtain ⟨j, j1, j2⟩ := ih (n + 1) (by omega) (by omega)
        exact ⟨j, j1, by rw [hd, j2]; simp [e]⟩
  obtain ⟨j, j1, j2⟩ := key L.length 0 (by omega) (by omega)
  rw [j1]
  simp only [Option.bind_some]
  congr 1
  rw [Bool.eq_iff_iff]
  simpa using j2
/-! a string that is changed -/
theorem Changed_g {s : Stm} {t w : Str} {K : Int} (hs : SOk s K) (hK : 3 ≤ K) (ht : t.length ≤ 1000000) (hw : w.length ≤ 1000) : Gen (Stream_Changed s t w) (K - 3) (fun r => r.length ≤ t.length + 4 + w.length) := by
  unfold Stream_Changed Stream_Changed_j1
  refine Gen.of ?_
  split
  · exact Ok.ret ⟨by show w.length ≤ _; omega, hs.less (by omega)⟩
  · rename_i hne
    simp only [Bool.or_eq_true, decide_eq_true_eq, not_or] at hne
    have l1 := List.length_pos_iff.2 hne.1
    have l2 := List.length_pos_iff.2 hne.2
    refine Ok.gen (Next_k hs (by omega) (by omega) (by omega)) (fun i s1 h1 q1 => ?_)
    refine Ok.gen (Next_k q1 (by omega) (by omega) (by omega)) (fun j s2 h2 q2 => ?_)
    refine Ok.idx h2.1 h2.2 (fun c hc hm => ?_)
    refine Ok.gen (Next_k q2 (by omega) (by omega) (by omega)) (fun k s3 h3 q3 => ?_)
    dsimp only at h1 h2 h3 ⊢
    have w1 : w64 (i + 1) = i + 1 := w64_in (by omega) (by omega)
    have lr := strR_len (IntKind.i32.wrap (c.toNat : Int))
    rw [w1]
    split
    · refine Ok.slc (by omega) (by omega) (by omega) (fun a ha la => ?_)
      refine Ok.cat (by omega) ?_
      refine Ok.slc (by omega) (by omega) (by omega) (fun b hb lb => ?_)
      refine Ok.cat (by simp; omega) ?_
      exact Ok.ret ⟨by simp; omega, q3.less (by omega)⟩
    · split
      · refine Ok.slc (by omega) (by omega) (by omega) (fun a ha la => ?_)
        refine Ok.cat (by omega) ?_
        refine Ok.slc (by omega) (by omega) (by omega) (fun b hb lb => ?_)
        refine Ok.cat (by simp; omega) ?_
        exact Ok.ret ⟨by simp; omega, q3.less (by omega)⟩
      · refine Ok.slc (by omega) (by omega) (by omega) (fun a ha la => ?_)
        refine Ok.slc (by omega) (by omega) (by omega) (fun b hb lb => ?_)
        refine Ok.cat (by omega) ?_
        exact Ok.ret ⟨by simp; omega, q3.less (by omega)⟩
end Go.Beacon

/- Numbers in their one spelling: what both readers of numbers take. No program in sight. -/
set_option linter.unusedVariables false
set_option linter.unusedSimpArgs false
namespace Go.Beacon
open Go Go.Eng

def isDig (c : UInt8) : Bool := decide (48 ≤ c.toNat) && decide (c.toNat ≤ 57)
theorem isDig_val {c : UInt8} (h : isDig c = true) : Lib.digitVal c = some (c.toNat - 48) := by
  unfold isDig at h; simp at h
  unfold Lib.digitVal; rw [if_pos h]
theorem val_dig {c : UInt8} {d : Nat} (h : Lib.digitVal c = some d) : isDig c = true ∧ d = c.toNat - 48 ∧ UInt8.ofNat (48 + d) = c := by
  obtain ⟨h1, h2, h3⟩ := Lib.digitVal_eq h
  refine ⟨by unfold isDig; simp; omega, h3, ?_⟩
  apply UInt8.toNat_inj.1
  rw [UInt8.toNat_ofNat']
  omega
theorem decFrom_all : ∀ (l : Str) (acc : Nat), l.all isDig = true → ∃ m, Lib.decFrom acc l = some m
  | [], acc, _ => ⟨acc, rfl⟩
  | b :: r, acc, h => by
    simp only [List.all_cons, Bool.and_eq_true] at h
    obtain ⟨m, hm⟩ := decFrom_all r (acc * 10 + (b.toNat - 48)) h.2
    exact ⟨m, by rw [Lib.decFrom, isDig_val h.1]; exact hm⟩
theorem dec_grow : ∀ (l : Str) (acc m : Nat), 0 < acc → Lib.decFrom acc l = some m → Lib.decDigits m = Lib.decDigits acc ++ l
  | [], acc, m, _, h => by simp only [Lib.decFrom, Option.some.injEq] at h; simp [h]
  | b :: r, acc, m, ha, h => by
    rw [Lib.decFrom] at h
    cases hd : Lib.digitVal b with
    | none => rw [hd] at h; simp at h
    | some d =>
      rw [hd] at h
      obtain ⟨h1, h2, h3⟩ := Lib.digitVal_eq hd
      have ih := dec_grow r (acc * 10 + d) m (by omega) h
      rw [ih, Lib.decDigits, dif_neg (by omega)]
      rw [show (acc * 10 + d) / 10 = acc by omega, show (acc * 10 + d) % 10 = d by omega, (val_dig hd).2.2]
      simp
theorem dec_head {m : Nat} (h : 0 < m) : ∃ b r, Lib.decDigits m = b :: r ∧ b ≠ 48 := by
  induction m using Nat.strongRecOn with
  | _ m ih =>
    rw [Lib.decDigits]
    split
    · refine ⟨_, _, rfl, ?_⟩
      intro e
      have := congrArg UInt8.toNat e
      rw [UInt8.toNat_ofNat'] at this
      simp at this; omega
    · obtain ⟨b, r, h1, h2⟩ := ih (m / 10) (by omega) (by omega)
      exact ⟨b, r ++ _, by rw [h1]; rfl, h2⟩
theorem dec_zero : Lib.decDigits 0 = [48] := by rw [Lib.decDigits, dif_pos (by omega)]; rfl
/-- Digits without a 0 ahead: the one spelling. -/
theorem dec_spelled {l : Str} {m : Nat} (h : Lib.decFrom 0 l = some m) (hl : l ≠ []) : Lib.decDigits m = l ↔ (l.head? ≠ some 48 ∨ l.length = 1) := by
  cases l with
  | nil => exact absurd rfl hl
  | cons b r =>
    rw [Lib.decFrom] at h
    cases hd : Lib.digitVal b with
    | none => rw [hd] at h; simp at h
    | some d =>
      rw [hd] at h
      simp only [Nat.zero_mul, Nat.zero_add] at h
      obtain ⟨h1, h2, h3⟩ := Lib.digitVal_eq hd
      by_cases hz : d = 0
      · subst hz
        have hb : b = 48 := by rw [← (val_dig hd).2.2]; rfl
        subst hb
        constructor
        · intro e
          right
          by_cases hm : m = 0
          · subst hm; rw [dec_zero] at e
            have := congrArg List.length e; simpa using this.symm
          · obtain ⟨b, r', h4, h5⟩ := dec_head (m := m) (by omega)
            rw [h4] at e; simp at e; exact absurd e.1 h5
        · rintro (e | e)
          · simp at e
          · have : r = [] := by cases r with
              | nil => rfl
              | cons _ _ => simp at e
            subst this
            simp only [Lib.decFrom, Option.some.injEq] at h
            subst h; exact dec_zero
      · have hg := dec_grow r d m (by omega) h
        have hd1 : Lib.decDigits d = [UInt8.ofNat (48 + d)] := by rw [Lib.decDigits, dif_pos (by omega)]
        rw [hd1, (val_dig hd).2.2] at hg
        constructor
        · intro _; left
          intro e; simp at e
          have e2 := (val_dig hd).2.1
          rw [e] at e2; simp at e2; omega
        · intro _; exact hg
theorem dec_digs (m : Nat) : (Lib.decDigits m).all isDig = true := by
  induction m using Nat.strongRecOn with
  | _ m ih =>
    rw [Lib.decDigits]
    have key : ∀ d, d < 10 → isDig (UInt8.ofNat (48 + d)) = true := by
      intro d hd
      unfold isDig; rw [UInt8.toNat_ofNat']; simp; omega
    split
    · rename_i h; rw [List.all_cons, key m h]; rfl
    · rw [List.all_append, ih (m / 10) (by omega), List.all_cons, key (m % 10) (by omega)]; rfl
/-- The number that a string of at most so many digits spells, in its one spelling. -/
def numT (s : Str) (k : Int) : Option Int :=
  if (Lib.trimPrefix s [45] = [] ∨ k < (Lib.trimPrefix s [45]).length) ∨ (Lib.trimPrefix s [45]).all isDig = false then none
  else match Lib.atoi s with
    | some n => if Lib.itoa n = s then some n else none
    | none => none
theorem digits_fin : ∀ n : Fin 256, decide (UInt8.ofNat n.val ∈ ([48, 49, 50, 51, 52, 53, 54, 55, 56, 57] : List UInt8)) = (decide (48 ≤ n.val) && decide (n.val ≤ 57)) := by decide +kernel
theorem mem_dig (c : UInt8) : decide (c ∈ ([48, 49, 50, 51, 52, 53, 54, 55, 56, 57] : List UInt8)) = isDig c :=
  u8_fin (p := fun c => decide (c ∈ ([48, 49, 50, 51, 52, 53, 54, 55, 56, 57] : List UInt8))) (q := fun n => decide (48 ≤ n) && decide (n ≤ 57)) digits_fin c
theorem trimP_cases (s : Str) : (∃ d, s = 45 :: d ∧ Lib.trimPrefix s [45] = d) ∨ (Lib.trimPrefix s [45] = s ∧ s.head? ≠ some 45) := by
  cases s with
  | nil => right; exact ⟨rfl, by simp⟩
  | cons b r =>
    unfold Lib.trimPrefix
    by_cases h : b = 45
    · subst h; left; exact ⟨r, rfl, by simp [Lib.hasPrefix, List.isPrefixOf]⟩
    · right
      have hp : Lib.hasPrefix (b :: r) [45] = false := by simp [Lib.hasPrefix, List.isPrefixOf, Ne.symm h]
      rw [hp]; exact ⟨by simp, by simpa using h⟩
theorem trimP_length (s : Str) : (Lib.trimPrefix s [45]).length ≤ s.length ∧ s.length ≤ (Lib.trimPrefix s [45]).length + 1 := by
  rcases trimP_cases s with ⟨d, h1, h2⟩ | ⟨h1, _⟩
  · rw [h2, h1]; simp
  · rw [h1]; omega
theorem atoiAll_of {s : Str} {n : Int} (hl : s.length ≤ 18) (h : Lib.atoi s = some n) : Lib.atoiAll s = .ok n := by
  rw [Lib.atoiAll_short s hl, h]; rfl
/-- Digits behind an optional sign spell a number. -/
theorem atoi_digs {s : Str} (h1 : Lib.trimPrefix s [45] ≠ []) (h2 : (Lib.trimPrefix s [45]).all isDig = true) : ∃ n, Lib.atoi s = some n ∧ (Lib.itoa n = s ↔ ¬((Lib.trimPrefix s [45]).head? = some 48 ∧ (1 < (Lib.trimPrefix s [45]).length ∨ (Lib.trimPrefix s [45]).length < s.length))) := by
  rcases trimP_cases s with ⟨d, e1, e2⟩ | ⟨e1, e2⟩
  · rw [e2] at h1 h2 ⊢
    subst e1
    obtain ⟨m, hm⟩ := decFrom_all d 0 h2
    have hN : Lib.decNat d = some m := by unfold Lib.decNat; rw [if_neg (by simpa using h1), hm]
    refine ⟨-(m : Int), by rw [Lib.atoi]; simp [hN], ?_⟩
    have hs := dec_spelled hm h1
    have hlen : d.length < (45 :: d).length := by simp
    constructor
    · rintro e ⟨hh, _⟩
      unfold Lib.itoa at e
      split at e
      · have e' : Lib.decDigits m = d := by simpa using e
        rename_i hneg
        obtain ⟨b, r, h4, h5⟩ := dec_head (m := m) (by omega)
        rw [e'] at h4; rw [h4] at hh; simp at hh; exact h5 hh
      · have := dec_digs (-(m : Int)).toNat
        rw [e] at this; simp [isDig] at this
    · intro hn
      have hh : d.head? ≠ some 48 := fun hh => hn ⟨hh, .inr hlen⟩
      have e' := hs.2 (.inl hh)
      have hm0 : m ≠ 0 := by
        intro h0; subst h0; rw [dec_zero] at e'; subst e'; simp at hh
      unfold Lib.itoa
      rw [if_pos (by omega)]
      simp [e']
  · rw [e1] at h1 h2 ⊢
    obtain ⟨m, hm⟩ := decFrom_all s 0 h2
    have hN : Lib.decNat s = some m := by unfold Lib.decNat; rw [if_neg (by simpa using h1), hm]
    have hs := dec_spelled hm h1
    cases s with
    | nil => exact absurd rfl h1
    | cons b r =>
      have n45 : b ≠ 45 := by simpa using e2
      have hb : isDig b = true := by simp only [List.all_cons, Bool.and_eq_true] at h2; exact h2.1
      have n43 : b ≠ 43 := fun h => by subst h; simp [isDig] at hb
      refine ⟨m, by rw [Lib.atoi]; simp only [beq_iff_eq, n45, n43, if_false]; rw [hN]; rfl, ?_⟩
      have hi : Lib.itoa (m : Int) = Lib.decDigits m := by unfold Lib.itoa; rw [if_neg (by omega)]; simp
      rw [hi, hs]
      constructor
      · rintro (h | h) ⟨h3, h4⟩
        · exact h h3
        · omega
      · intro h
        by_cases hh : (b :: r).head? = some 48
        · right
          have : ¬ (1 < (b :: r).length) := fun h5 => h ⟨hh, .inl h5⟩
          simp at this ⊢; omega
        · exact .inl hh
theorem Number_loop (s : Str) (hl : s.length ≤ 18) : base_Number_l1 s 0 = if (Lib.trimPrefix s [45]).all isDig = true then base_Number_k3 s else some (0, false) := by
  unfold base_Number_l1
  have hd : ((Lib.trimPrefix s [45]).length : Int) ≤ 4611686018427387904 := by have := trimP_length s; omega
  refine iter_to (fun x : Int => base_Number_b1 s x) (fun i => (Lib.trimPrefix s [45]).length + 1 - i.toNat) (fun i => 0 ≤ i ∧ i ≤ (Lib.trimPrefix s [45]).length ∧ ((Lib.trimPrefix s [45]).take i.toNat).all isDig = true) _ ?_ 0 ⟨by omega, by omega, by simp⟩
  rintro i ⟨h0, h1, h2⟩
  by_cases hi : i < (Lib.trimPrefix s [45]).length
  · obtain ⟨c, hc, _, hdr⟩ := idx_lt (Lib.trimPrefix s [45]) h0 hi
    have hg := (idx_some hc).2.2
    have hmem : c ∈ Lib.trimPrefix s [45] := idx_mem hc
    have hB : base_Number_b1 s i = if isDig c = true then some (.inl (w64 (i + 1))) else Option.map .inr (some ((0 : Int), false)) := by
      unfold base_Number_b1
      rw [if_pos hi, hc]
      simp only [Option.bind_some]
      unfold base_Number_j2 isDig
      by_cases a1 : (c.toNat : Int) < 48
      · rw [if_pos a1, if_pos rfl, if_neg (by simp; omega)]
      · rw [if_neg a1]
        by_cases a2 : (57 : Int) < c.toNat
        · rw [if_pos (by simpa using a2), if_neg (by simp; omega)]
        · rw [if_neg (by simpa using a2), if_pos (by simp; omega)]
    by_cases hdg : isDig c = true
    · left
      refine ⟨i + 1, ?_, ⟨by omega, by omega, ?_⟩, by omega⟩
      · show base_Number_b1 s i = _
        rw [hB, if_pos hdg, w64_in (by omega) (by omega)]
      · rw [show (i + 1).toNat = i.toNat + 1 by omega, List.take_add_one, List.all_append, h2, hg]; simp [hdg]
    · right
      show base_Number_b1 s i = _
      rw [hB, if_neg hdg, if_neg (fun h => hdg (List.all_eq_true.1 h c hmem))]
  · right
    show base_Number_b1 s i = _
    unfold base_Number_b1
    rw [if_neg hi]
    rw [List.take_of_length_le (by omega)] at h2
    rw [if_pos h2]
theorem atoiO_eq {s : Str} {n : Int} (hl : s.length ≤ 18) (h : Lib.atoi s = some n) : atoiO s = some (n, true) := by
  unfold atoiO; rw [if_pos (by omega), atoiAll_of hl h]
theorem itoa_in {n : Int} (h1 : -9223372036854775808 ≤ n) (h2 : n ≤ 9223372036854775807) : itoaO n = some (Lib.itoa n) := by unfold itoaO; rw [if_pos ⟨h1, h2⟩]
/-- The program's reader of numbers. -/
theorem Number_eq (s : Str) (k : Nat) (hk : k ≤ 17) : base_Number s k = some (match numT s k with | some n => (n, true) | none => (0, false)) := by
  have hln := trimP_length s
  unfold base_Number base_Number_j1
  by_cases h1 : Lib.trimPrefix s [45] = []
  · rw [if_pos h1, if_pos rfl]; unfold numT; rw [if_pos (.inl (.inl h1))]
  · rw [if_neg h1]
    by_cases h2 : (k : Int) < (Lib.trimPrefix s [45]).length
    · rw [if_pos h2, if_pos rfl]; unfold numT; rw [if_pos (.inl (.inr h2))]
    · rw [if_neg h2]
      have hpos : 0 < (Lib.trimPrefix s [45]).length := List.length_pos_iff.2 h1
      obtain ⟨c, hc, _, _⟩ := idx_lt (Lib.trimPrefix s [45]) (i := 0) (by omega) (by omega)
      have hh : (Lib.trimPrefix s [45]).head? = some c := by
        have := (idx_some hc).2.2
        rw [List.head?_eq_getElem?]; simpa using this
      rw [hc]
      simp only [Option.bind_some]
      rw [Number_loop s (by omega)]
      by_cases hall : (Lib.trimPrefix s [45]).all isDig = true
      · obtain ⟨n, hn, hiff⟩ := atoi_digs h1 hall
        have hnT : numT s k = if Lib.itoa n = s then some n else none := by
          unfold numT; rw [if_neg (by rintro ((h | h) | h)
                                      · exact h1 h
                                      · exact h2 h
                                      · rw [hall] at h; cases h), hn]
        have hcond : (decide ((c.toNat : Int) = 48) && (decide ((1 : Int) < (Lib.trimPrefix s [45]).length) || decide (((Lib.trimPrefix s [45]).length : Int) < s.length))) = true ↔ ¬ Lib.itoa n = s := by
          rw [hiff, hh]
          simp only [Bool.and_eq_true, decide_eq_true_eq, Bool.or_eq_true, Option.some.injEq, Classical.not_not]
          constructor
          · rintro ⟨a, b⟩; exact ⟨UInt8.toNat_inj.1 (by simpa using (by omega : c.toNat = 48)), by omega⟩
          · rintro ⟨a, b⟩; exact ⟨by rw [a]; rfl, by omega⟩
        by_cases hi : Lib.itoa n = s
        · rw [if_neg (fun h => hcond.1 h hi), if_pos hall, hnT, if_pos hi]
          unfold base_Number_k3
          rw [atoiO_eq (by omega) hn]; rfl
        · rw [if_pos (hcond.2 hi), hnT, if_neg hi]
      · have hnT : numT s k = none := by unfold numT; rw [if_pos (.inr (by simpa using hall))]
        rw [hnT, if_neg hall]; simp
/-- The reference's reader of numbers. -/
theorem QNumber_eq (s : Str) (k : Nat) (hk : k ≤ 17) : ∃ m, Q_Number s k = some (m, (numT s k).isSome) ∧ ∀ n, numT s k = some n → m = n := by
  have hln := trimP_length s
  unfold Q_Number Q_Number_j1 Q_Number_j2
  by_cases h1 : Lib.trimPrefix s [45] = []
  · have hn : numT s k = none := by unfold numT; rw [if_pos (.inl (.inl h1))]
    rw [if_pos h1, if_pos rfl, hn]; exact ⟨0, rfl, fun n h => by cases h⟩
  · rw [if_neg h1]
    by_cases h2 : (k : Int) < (Lib.trimPrefix s [45]).length
    · have hn : numT s k = none := by unfold numT; rw [if_pos (.inl (.inr h2))]
      rw [if_pos h2, if_pos rfl, hn]; exact ⟨0, rfl, fun n h => by cases h⟩
    · rw [if_neg h2, only_eq _ _ (by omega)]
      simp only [Option.bind_some]
      rw [show (fun c => decide (c ∈ ([48, 49, 50, 51, 52, 53, 54, 55, 56, 57] : List UInt8))) = isDig from funext mem_dig]
      by_cases hall : (Lib.trimPrefix s [45]).all isDig = true
      · obtain ⟨n, hn, hiff⟩ := atoi_digs h1 hall
        have hb := Lib.atoi_bound hn (by omega)
        have hnT : numT s k = if Lib.itoa n = s then some n else none := by
          unfold numT; rw [if_neg (by rintro ((h | h) | h)
                                      · exact h1 h
                                      · exact h2 h
                                      · rw [hall] at h; cases h), hn]
        rw [hall, if_neg (by simp), atoiO_eq (by omega) hn]
        simp only [Option.bind_some, if_true]
        rw [itoa_in (by omega) (by omega)]
        simp only [Option.bind_some]
        refine ⟨n, ?_, ?_⟩
        · rw [hnT]; by_cases hi : Lib.itoa n = s <;> simp [hi]
        · intro n' h'; rw [hnT] at h'; split at h'
          · exact Option.some.inj h'
          · cases h'
      · have hnT : numT s k = none := by unfold numT; rw [if_pos (.inr (by simpa using hall))]
        have hf : (Lib.trimPrefix s [45]).all isDig = false := by simpa using hall
        rw [hf, hnT]; exact ⟨0, rfl, fun n h => by cases h⟩
end Go.Beacon

/- Joining strings, reading several numbers. No program in sight. -/
set_option linter.unusedVariables false
set_option linter.unusedSimpArgs false
namespace Go.Beacon
open Go Go.Eng

/-- Strings with a string between. -/
def joinW (sep : Str) : List Str → Str
  | [] => []
  | x :: r => x ++ r.flatMap (fun y => sep ++ y)
theorem flatW_len (sep : Str) (hs : sep.length ≤ 100) : ∀ L : List Str, (∀ s ∈ L, s.length ≤ 100000) → (L.flatMap (fun y => sep ++ y)).length ≤ 100100 * L.length
  | [], _ => by simp
  | x :: L, h => by
    have h1 := flatW_len sep hs L (fun s hs => h s (List.mem_cons_of_mem _ hs))
    have h2 := h x (by simp)
    rw [List.flatMap_cons, List.length_append, List.length_append, List.length_cons]
    omega
theorem Join_l2 (sep : Str) (hs : sep.length ≤ 100) (L : List Str) (hL : L.length ≤ 1000) (hh : ∀ s ∈ L, s.length ≤ 100000) (q : Str) (hq : q.length ≤ 100000) : strings_Join_l2 sep L q 0 = some (q ++ L.flatMap (fun y => sep ++ y)) := by
  unfold strings_Join_l2
  refine iter_to _ (fun x : Str × Int => (L.length - x.2).toNat) (fun x : Str × Int => 0 ≤ x.2 ∧ x.2 ≤ L.length ∧ x.1 = q ++ (L.take x.2.toNat).flatMap (fun y => sep ++ y)) _ ?_ _ ⟨by simp, by simp, by simp⟩
  rintro ⟨X, n⟩ ⟨g0, g1, g2⟩
  simp only at g0 g1 g2 ⊢
  unfold strings_Join_b2
  by_cases hn : n < L.length
  · left
    obtain ⟨v, hv, hm, _⟩ := idx_lt L g0 hn
    obtain ⟨hn', hg'⟩ := List.getElem?_eq_some_iff.1 (idx_some hv).2.2
    have e : (n + 1).toNat = n.toNat + 1 := by omega
    have hX : X.length ≤ 100000 + 100100 * 1000 := by
      have h1 := flatW_len sep hs (L.take n.toNat) (fun s h => hh s (List.mem_of_mem_take h))
      rw [g2, List.length_append]
      simp only [List.length_take] at h1
      omega
    have hv' := hh v hm
    rw [if_pos hn, hv]
    simp only [Option.bind_some]
    unfold bldW
    rw [if_pos (by omega)]
    simp only [Option.bind_some]
    rw [if_pos (by simp only [List.length_append]; omega), w64_in (by omega) (by omega)]
    refine ⟨_, rfl, ⟨by simp only; omega, by simp only; omega, ?_⟩, by simp only; omega⟩
    simp only
    rw [e, List.take_succ_eq_append_getElem hn', g2, hg', List.flatMap_append]
    simp
  · right
    rw [if_neg hn, g2, List.take_of_length_le (by omega)]
theorem Join_l1 (sep : Str) (hs : sep.length ≤ 100) (x : Str) (L : List Str) (hL : L.length ≤ 999) (hh : ∀ s ∈ x :: L, s.length ≤ 100000) (n0 : Int) (h0 : 0 ≤ n0 ∧ n0 ≤ 1000000) : strings_Join_l1 (x :: L) sep n0 0 = some (joinW sep (x :: L)) := by
  unfold strings_Join_l1
  refine iter_to _ (fun z : Int × Int => ((x :: L).length - z.2).toNat) (fun z : Int × Int => 0 ≤ z.2 ∧ z.2 ≤ (x :: L).length ∧ 0 ≤ z.1 ∧ z.1 ≤ 1000000 + 100000 * z.2) _ ?_ _ ⟨by simp, by simp; omega, by simp only; omega, by simp only; omega⟩
  rintro ⟨m, n⟩ ⟨g0, g1, g2, g3⟩
  simp only at g0 g1 g2 g3 ⊢
  have hlen : (x :: L).length ≤ 1000 := by simp only [List.length_cons]; omega
  unfold strings_Join_b1
  by_cases hn : n < ((x :: L).length : Int)
  · left
    obtain ⟨v, hv, hm, _⟩ := idx_lt (x :: L) g0 hn
    have hv' := hh v hm
    rw [if_pos hn, hv]
    simp only [Option.bind_some]
    rw [w64_in (x := 9223372036854775807 - m) (by omega) (by omega), if_neg (by omega), w64_in (by omega) (by omega), w64_in (by omega) (by omega)]
    exact ⟨_, rfl, ⟨by simp only; omega, by simp only; omega, by simp only; omega, by simp only; omega⟩, by simp only; omega⟩
  · right
    rw [if_neg hn]
    unfold strings_Join_k2 bldG
    rw [if_pos (by omega)]
    simp only [Option.bind_some]
    rw [show idx (x :: L) 0 = some x from rfl]
    simp only [Option.bind_some]
    have hx := hh x (by simp)
    unfold bldW
    rw [if_pos (by simp; omega)]
    simp only [Option.bind_some, List.nil_append]
    have hsl : slc (x :: L) 1 ((x :: L).length : Int) = some L := by
      rw [slc_in (by omega) (by simp; omega) (by omega)]
      congr 1
      rw [show (1 : Int).toNat = 1 from rfl, List.drop_succ_cons, List.drop_zero]
      exact List.take_of_length_le (by simp)
    rw [hsl]
    simp only [Option.bind_some]
    rw [Join_l2 sep hs L (by omega) (fun s h => hh s (List.mem_cons_of_mem _ h)) x hx]
    rfl
theorem Join_eq (sep : Str) (hs : sep.length ≤ 100) (L : List Str) (hL : L.length ≤ 1000) (hh : ∀ s ∈ L, s.length ≤ 100000) : strings_Join L sep = some (joinW sep L) := by
  unfold strings_Join
  match L, hL, hh with
  | [], _, _ => rfl
  | [x], _, _ =>
    rw [if_neg (by simp), if_pos (by simp)]
    show some x = some (x ++ [])
    rw [List.append_nil]
  | x :: y :: L, hL, hh =>
    have hl2 : ((x :: y :: L).length : Int) = L.length + 2 := by simp only [List.length_cons]; omega
    simp only [List.length_cons] at hL
    rw [if_neg (by rw [hl2]; omega), if_neg (by rw [hl2]; omega), hl2]
    have w1 : w64 ((L.length : Int) + 2 - 1) = (L.length : Int) + 1 := by rw [w64_in (by omega) (by omega)]; omega
    rw [w1]
    by_cases h0 : (0 : Int) < (sep.length : Int)
    · rw [if_pos h0, quo_pos (by omega) (by omega) (by omega)]
      simp only [Option.bind_some]
      have hdiv : (1000000 : Int) ≤ 9223372036854775807 / ((L.length : Int) + 1) := by
        rw [Int.le_ediv_iff_mul_le (by omega)]
        omega
      have hmul : (sep.length : Int) * ((L.length : Int) + 1) ≤ 100 * 1000 := Int.mul_le_mul (by omega) (by omega) (by omega) (by omega)
      have hmul0 : 0 ≤ (sep.length : Int) * ((L.length : Int) + 1) := Int.mul_nonneg (by omega) (by omega)
      rw [if_neg (by omega), w64_in (x := (sep.length : Int) * ((L.length : Int) + 1)) (by omega) (by omega), w64_in (by omega) (by omega)]
      unfold strings_Join_j1
      exact Join_l1 sep hs x (y :: L) (by simp only [List.length_cons]; omega) hh _ (by omega)
    · rw [if_neg h0]
      unfold strings_Join_j1
      exact Join_l1 sep hs x (y :: L) (by simp only [List.length_cons]; omega) hh _ (by omega)
theorem QNumber_15 (s : Str) : ∃ m, Q_Number s 15 = some (m, (numT s 15).isSome) ∧ ∀ n, numT s 15 = some n → m = n := QNumber_eq s 15 (by omega)
/-- Numbers that can be written. -/
def NB (n : Int) : Prop := -9000000000000000000 ≤ n ∧ n ≤ 9000000000000000000
theorem itoa_nb {n : Int} (h : NB n) : itoaO n = some (Lib.itoa n) ∧ (Lib.itoa n).length ≤ 21 :=
  ⟨itoa_in (by unfold NB at h; omega) (by unfold NB at h; omega), Lib.itoa_length_le n (by unfold NB at h; omega) (by unfold NB at h; omega)⟩
end Go.Beacon

/- Strings between quotation marks: written by replacing, read by two ways. No program in sight. -/
set_option linter.unusedVariables false
set_option linter.unusedSimpArgs false
namespace Go.Beacon
open Go Go.Eng

theorem cut1_hitQ (c : UInt8) : ∀ s : Str, (cut1 c s).2.2 = true → s = (cut1 c s).1 ++ c :: (cut1 c s).2.1 ∧ c ∉ (cut1 c s).1
  | [] => fun h => by cases h
  | b :: r => by
    have ih := cut1_hitQ c r
    unfold cut1
    by_cases hb : b = c
    · rw [if_pos hb]; subst hb; intro _; exact ⟨rfl, by simp⟩
    · rw [if_neg hb]
      intro h
      obtain ⟨h1, h2⟩ := ih h
      refine ⟨?_, ?_⟩
      · simp only [List.cons_append]
        rw [← h1]
      · simp only [List.mem_cons, not_or]
        exact ⟨fun e => hb e.symm, h2⟩
theorem cut1_missQ (c : UInt8) : ∀ s : Str, (cut1 c s).2.2 = false → c ∉ s
  | [] => fun _ => by simp
  | b :: r => by
    have ih := cut1_missQ c r
    unfold cut1
    by_cases hb : b = c
    · rw [if_pos hb]; intro h; cases h
    · rw [if_neg hb]
      intro h
      simp only [List.mem_cons, not_or]
      exact ⟨fun e => hb e.symm, ih h⟩
theorem index_cut (c : UInt8) : ∀ s : Str, Lib.indexByte s c = if (cut1 c s).2.2 = true then ((cut1 c s).1.length : Int) else -1
  | [] => rfl
  | b :: r => by
    have ih := index_cut c r
    unfold Lib.indexByte cut1
    by_cases hb : b = c
    · rw [if_pos (by simpa using hb), if_pos hb]; rfl
    · rw [if_neg (by simpa using hb), if_neg hb, ih]
      by_cases hc : (cut1 c r).2.2 = true
      · have hx : ¬ ((((cut1 c r).1.length : Int) == -1) = true) := by simp
        rw [if_pos hc, if_neg hx, if_pos hc]
        simp
      · rw [if_neg hc, if_neg hc]
        simp
def rep (c : UInt8) (r : Str) (s : Str) : Str := s.flatMap fun x => if x = c then r else [x]
theorem rep_none (c : UInt8) (r : Str) : ∀ s : Str, c ∉ s → rep c r s = s
  | [], _ => rfl
  | x :: s, h => by
    simp only [List.mem_cons, not_or] at h
    have ih := rep_none c r s h.2
    unfold rep at ih ⊢
    rw [List.flatMap_cons, ih, if_neg (fun e => h.1 e.symm)]; rfl
theorem rep_app (c : UInt8) (r a b : Str) : rep c r (a ++ b) = rep c r a ++ rep c r b := by unfold rep; rw [List.flatMap_append]
theorem rep_hit (c : UInt8) (r a b : Str) (h : c ∉ a) : rep c r (a ++ c :: b) = a ++ r ++ rep c r b := by
  rw [rep_app, rep_none c r a h]
  unfold rep
  rw [List.flatMap_cons, if_pos rfl, List.append_assoc]
theorem rep_len (c : UInt8) (r : Str) (hr : r.length ≤ 2) : ∀ s : Str, (rep c r s).length ≤ 2 * s.length
  | [] => by simp [rep]
  | x :: s => by
    have ih := rep_len c r hr s
    unfold rep at ih ⊢
    rw [List.flatMap_cons, List.length_append, List.length_cons]
    split
    · omega
    · simp only [List.length_cons, List.length_nil]; omega
theorem slc_mid (a b d : Str) : slc (a ++ (b ++ d)) (a.length : Int) ((a.length : Int) + b.length) = some b := by
  rw [slc_in (by omega) (by omega) (by simp; omega)]
  congr 1
  have e1 : ((a.length : Int)).toNat = a.length := by omega
  have e2 : ((a.length : Int) + b.length).toNat - a.length = b.length := by omega
  rw [e1, e2, List.drop_left, List.take_left]
theorem slc_end (a b : Str) : slc (a ++ b) (a.length : Int) ((a ++ b).length : Int) = some b := by
  have := slc_mid a b []
  simpa using this
theorem Replace_l1 (s : Str) (hs : s.length ≤ 1000000) (c : UInt8) (r : Str) (hr : r.length ≤ 10) (N : Int) (hN : N = s.count c) : ∀ (m : Nat) (A T q : Str) (k : Int), T.length ≤ m → s = A ++ T → k + T.count c = N → 0 ≤ k → q.length ≤ 10 * A.length → strings_Replace_l1 s [c] r N q A.length k = some (q ++ rep c r T) := by
  intro m
  induction m with
  | zero =>
    intro A T q k hm hA hk h0 hq
    obtain rfl : T = [] := List.length_eq_zero_iff.1 (by omega)
    unfold strings_Replace_l1
    rw [iter_eq, strings_Replace_b1, if_neg (by simp at hk ⊢; omega), map_inr_after]
    unfold strings_Replace_j4
    simp only
    rw [show slc s (A.length : Int) (s.length : Int) = some [] by rw [hA]; exact slc_end A []]
    simp only [Option.bind_some]
    unfold bldW
    have : A.length ≤ s.length := by rw [hA]; simp
    rw [if_pos (by simp; omega)]
    simp [rep]
  | succ m ih =>
    intro A T q k hm hA hk h0 hq
    have hlen : s.length = A.length + T.length := by rw [hA, List.length_append]
    have hsc : s.count c ≤ s.length := List.count_le_length
    unfold strings_Replace_l1
    rw [iter_eq, strings_Replace_b1]
    have hend : slc s (A.length : Int) (s.length : Int) = some T := by
      have := slc_end A T
      rw [← hA] at this; exact this
    by_cases hc : (cut1 c T).2.2 = true
    · obtain ⟨h1, h2⟩ := cut1_hitQ c T hc
      have hix := index_cut c T
      rw [if_pos hc] at hix
      generalize (cut1 c T).1 = P at h1 h2 hix
      generalize (cut1 c T).2.1 = R at h1
      have hcnt : T.count c = R.count c + 1 := by
        rw [h1, List.count_append, List.count_cons_self, List.count_eq_zero_of_not_mem h2]; omega
      have htl : T.length = P.length + 1 + R.length := by
        have := congrArg List.length h1; simp at this; omega
      rw [if_pos (by simp only; omega)]
      simp only
      rw [hend]
      simp only [Option.bind_some, indexO]
      rw [hix, w64_in (x := (A.length : Int) + P.length) (by omega) (by omega)]
      have hmid : slc s (A.length : Int) ((A.length : Int) + P.length) = some P := by
        have := slc_mid A P (c :: R)
        rw [← h1, ← hA] at this; exact this
      rw [hmid]
      simp only [Option.bind_some]
      unfold bldW
      rw [if_pos (by omega)]
      simp only [Option.bind_some]
      rw [if_pos (by simp only [List.length_append]; omega)]
      simp only [Option.bind_some, after_inl, List.length_cons, List.length_nil]
      rw [w64_in (x := (A.length : Int) + P.length + ((0 + 1 : Nat) : Int)) (by omega) (by omega), w64_in (x := k + 1) (by omega) (by omega)]
      have := ih (A ++ P ++ [c]) R (q ++ P ++ r) (k + 1) (by omega) (by rw [hA, h1]; simp) (by omega) (by omega) (by simp only [List.length_append, List.length_cons, List.length_nil]; omega)
      unfold strings_Replace_l1 at this
      have e : (((A ++ P ++ [c]).length : Nat) : Int) = (A.length : Int) + P.length + ((0 + 1 : Nat) : Int) := by simp; omega
      rw [e] at this
      rw [this, h1, rep_hit c r P R h2]
      simp
    · have hf : (cut1 c T).2.2 = false := by simpa using hc
      have hn := cut1_missQ c T hf
      have h0c : T.count c = 0 := List.count_eq_zero_of_not_mem hn
      rw [if_neg (by simp only; omega), map_inr_after]
      unfold strings_Replace_j4
      simp only
      rw [hend]
      simp only [Option.bind_some]
      unfold bldW
      rw [if_pos (by omega), rep_none c r T hn]; rfl
theorem ReplaceAll_eq (s : Str) (hs : s.length ≤ 1000000) (c : UInt8) (r : Str) (hr : r.length ≤ 10) (hne : [c] ≠ r) : strings_ReplaceAll s [c] r = some (rep c r s) := by
  unfold strings_ReplaceAll strings_Replace
  have e : (decide ([c] = r) || decide ((-1 : Int) = 0)) = false := by rw [decide_eq_false hne]; rfl
  rw [e]
  unfold strings_Replace_j1
  rw [if_neg (by simp)]
  simp only [countO, Option.bind_some]
  have hcl : s.count c ≤ s.length := List.count_le_length
  by_cases h0 : ((Lib.countByte s c : Nat) : Int) = 0
  · rw [if_pos h0]
    have : c ∉ s := by
      intro h
      have := List.count_pos_iff.2 h
      unfold Lib.countByte at h0
      omega
    rw [rep_none c r s this]; rfl
  · rw [if_neg h0]
    unfold strings_Replace_j2
    rw [if_pos (by simp)]
    unfold strings_Replace_j3 Lib.countByte
    have hm : -10000000 ≤ ((s.count c : Nat) : Int) * (((r.length : Nat) : Int) - ((([c] : Str).length : Nat) : Int)) ∧ ((s.count c : Nat) : Int) * (((r.length : Nat) : Int) - ((([c] : Str).length : Nat) : Int)) ≤ 10000000 := by
      simp only [List.length_cons, List.length_nil]
      constructor
      · have h1 : -(1 : Int) ≤ (r.length : Int) - ((0 + 1 : Nat) : Int) := by omega
        have h2 : ((s.count c : Nat) : Int) * (-1) ≤ ((s.count c : Nat) : Int) * ((r.length : Int) - ((0 + 1 : Nat) : Int)) := Int.mul_le_mul_of_nonneg_left h1 (by omega)
        omega
      · have h1 : (r.length : Int) - ((0 + 1 : Nat) : Int) ≤ 9 := by omega
        have h2 : ((s.count c : Nat) : Int) * ((r.length : Int) - ((0 + 1 : Nat) : Int)) ≤ ((s.count c : Nat) : Int) * 9 := Int.mul_le_mul_of_nonneg_left h1 (by omega)
        omega
    have hlow : -((s.length : Nat) : Int) ≤ ((s.count c : Nat) : Int) * (((r.length : Nat) : Int) - ((([c] : Str).length : Nat) : Int)) := by
      simp only [List.length_cons, List.length_nil]
      have h1 : -(1 : Int) ≤ (r.length : Int) - ((0 + 1 : Nat) : Int) := by omega
      have h2 : ((s.count c : Nat) : Int) * (-1) ≤ ((s.count c : Nat) : Int) * ((r.length : Int) - ((0 + 1 : Nat) : Int)) := Int.mul_le_mul_of_nonneg_left h1 (by omega)
      omega
    rw [w64_in (x := ((r.length : Nat) : Int) - ((([c] : Str).length : Nat) : Int)) (by simp; omega) (by simp; omega), w64_in (x := ((s.count c : Nat) : Int) * _) (by omega) (by omega), w64_in (by omega) (by omega)]
    unfold bldG
    rw [if_pos (by omega)]
    simp only [Option.bind_some]
    rw [if_pos (by simp)]
    have := Replace_l1 s hs c r hr (s.count c) rfl s.length [] s [] 0 (Nat.le_refl _) rfl (by omega) (by omega) (by simp)
    simp only [List.length_nil, List.nil_append] at this
    rw [show ((0 : Nat) : Int) = 0 from rfl] at this
    rw [this]; rfl
/-- A byte between quotation marks. -/
def esc1 (c : UInt8) : Str := if c = 92 then [92, 92] else if c = 34 then [92, 34] else [c]
theorem esc1_len (x : UInt8) : 1 ≤ (esc1 x).length ∧ (esc1 x).length ≤ 2 := by
  unfold esc1
  split
  · simp
  · split <;> simp
def esc (s : Str) : Str := s.flatMap esc1
def quoS (s : Str) : Str := 34 :: (esc s ++ [34])
theorem esc_rep : ∀ s : Str, rep 34 [92, 34] (rep 92 [92, 92] s) = esc s
  | [] => rfl
  | x :: s => by
    have ih := esc_rep s
    have e : rep 92 [92, 92] (x :: s) = (if x = 92 then [92, 92] else [x]) ++ rep 92 [92, 92] s := by unfold rep; rw [List.flatMap_cons]
    rw [e, rep_app, ih]
    unfold esc
    rw [List.flatMap_cons]
    congr 1
    unfold esc1
    by_cases h : x = 92
    · rw [if_pos h, if_pos h]; decide
    · rw [if_neg h, if_neg h]
      by_cases h2 : x = 34
      · rw [if_pos h2, h2]; decide
      · rw [if_neg h2]; unfold rep; simp [h2]
theorem esc_len : ∀ s : Str, (esc s).length ≤ 2 * s.length
  | [] => by simp [esc]
  | x :: s => by
    have ih := esc_len s
    unfold esc at ih ⊢
    rw [List.flatMap_cons, List.length_append, List.length_cons]
    have := esc1_len x
    omega
theorem Quoted_eq (s : Str) (hs : s.length ≤ 400000) : Q_Quoted s = some (quoS s) := by
  unfold Q_Quoted
  have h1 := rep_len 92 [92, 92] (by simp) s
  have h2 := rep_len 34 [92, 34] (by simp) (rep 92 [92, 92] s)
  rw [ReplaceAll_eq s (by omega) 92 [92, 92] (by simp) (by decide)]
  simp only [Option.bind_some]
  rw [ReplaceAll_eq _ (by omega) 34 [92, 34] (by simp) (by decide), esc_rep]
  simp only [Option.bind_some]
  have h3 := esc_len s
  rw [cat_le (by simp; omega)]
  simp only [Option.bind_some]
  rw [cat_le (by simp; omega)]
  rfl
theorem Quote_eq (s : Str) (hs : s.length ≤ 400000) : base_Quote s = some (quoS s) := by
  rw [← Quoted_eq s hs]; rfl
/-! reading -/
def unq : Str → Option Str
  | [] => some []
  | c :: r => if c = 34 then none else if c = 92 then (match r with
    | [] => none
    | d :: r' => if d = 34 ∨ d = 92 then (unq r').map (d :: ·) else none) else (unq r).map (c :: ·)
theorem unq_cons (c : UInt8) (r : Str) : unq (c :: r) = if c = 34 then none else if c = 92 then (match r with
    | [] => none
    | d :: r' => if d = 34 ∨ d = 92 then (unq r').map (d :: ·) else none) else (unq r).map (c :: ·) := by rw [unq.eq_def]; rfl
theorem unq_esc : ∀ o : Str, unq (esc o) = some o
  | [] => rfl
  | x :: o => by
    have ih := unq_esc o
    have e : esc (x :: o) = esc1 x ++ esc o := by unfold esc; rw [List.flatMap_cons]
    rw [e]
    unfold esc1
    by_cases h : x = 92
    · rw [if_pos h]; subst h
      show unq (92 :: 92 :: esc o) = _
      rw [unq_cons, if_neg (by decide), if_pos rfl]
      simp [ih]
    · rw [if_neg h]
      by_cases h2 : x = 34
      · rw [if_pos h2]; subst h2
        show unq (92 :: 34 :: esc o) = _
        rw [unq_cons, if_neg (by decide), if_pos rfl]
        simp [ih]
      · rw [if_neg h2]
        show unq (x :: esc o) = _
        rw [unq_cons, if_neg h2, if_neg h, ih]; rfl
theorem esc_unq : ∀ (n : Nat) (s o : Str), s.length ≤ n → unq s = some o → s = esc o
  | _, [], o, _, h => by
    rw [unq] at h
    obtain rfl := Option.some.inj h; rfl
  | 0, c :: r, o, hn, h => by simp at hn
  | n + 1, c :: r, o, hn, h => by
    rw [unq_cons] at h
    by_cases h1 : c = 34
    · rw [if_pos h1] at h; cases h
    · rw [if_neg h1] at h
      by_cases h2 : c = 92
      · rw [if_pos h2] at h
        match r, h, hn with
        | [], h, _ => cases h
        | d :: r', h, hn =>
          simp only at h
          split at h
          · rename_i hd
            obtain ⟨o', ho', rfl⟩ := Option.map_eq_some_iff.1 h
            have ih := esc_unq n r' o' (by simp only [List.length_cons] at hn; omega) ho'
            have e : esc (d :: o') = esc1 d ++ esc o' := by unfold esc; rw [List.flatMap_cons]
            rw [e, ← ih, h2]
            unfold esc1
            rcases hd with hd | hd
            · rw [if_neg (by rw [hd]; decide), if_pos hd, hd]; rfl
            · rw [if_pos hd, hd]; rfl
          · cases h
      · rw [if_neg h2] at h
        obtain ⟨o', ho', rfl⟩ := Option.map_eq_some_iff.1 h
        have ih := esc_unq n r o' (by simp only [List.length_cons] at hn; omega) ho'
        have e : esc (c :: o') = esc1 c ++ esc o' := by unfold esc; rw [List.flatMap_cons]
        rw [e, ← ih]
        unfold esc1
        rw [if_neg h2, if_neg h1]; rfl
theorem unq_len : ∀ (n : Nat) (s o : Str), s.length ≤ n → unq s = some o → o.length ≤ s.length := by
  intro n s o hn h
  have e := esc_unq n s o hn h
  have : ∀ o : Str, o.length ≤ (esc o).length := by
    intro o
    induction o with
    | nil => simp
    | cons x o ih =>
      have e : esc (x :: o) = esc1 x ++ esc o := by unfold esc; rw [List.flatMap_cons]
      rw [e, List.length_append, List.length_cons]
      have := esc1_len x
      omega
  have := this o
  rw [← e] at this; exact this
end Go.Beacon

/- Reading strings between quotation marks; strings cut into at most so many. No program in sight. -/
set_option linter.unusedVariables false
set_option linter.unusedSimpArgs false
namespace Go.Beacon
open Go Go.Eng

def ib (s : Str) : List Int := s.map fun c => (c.toNat : Int)
theorem strB_ib (s : Str) : strB (ib s) = s := by
  unfold strB ib
  rw [List.map_map]
  induction s with
  | nil => rfl
  | cons x s ih => rw [List.map_cons, ih]; simp
theorem ib_snoc (s : Str) (c : UInt8) : ib (s ++ [c]) = ib s ++ [(c.toNat : Int)] := by unfold ib; rw [List.map_append]; rfl
/-- The string that is quoted. -/
def unqS (s : Str) : Option Str := match s with
  | 34 :: r => match r.getLast? with
    | some 34 => unq r.dropLast
    | _ => none
  | _ => none
theorem idx_at {α : Type} (A : List α) (x : α) (B : List α) : idx (A ++ x :: B) (A.length : Int) = some x := by
  obtain ⟨v, hv, _, _⟩ := idx_lt (A ++ x :: B) (i := (A.length : Int)) (by omega) (by simp; omega)
  have h := (idx_some hv).2.2
  rw [hv]
  rw [show ((A.length : Int)).toNat = A.length by omega] at h
  simp at h
  rw [h]
theorem c34 (c : UInt8) : ((c.toNat : Int) = 34) ↔ c = 34 := by
  constructor
  · intro h; exact UInt8.toNat_inj.1 (by simpa using (by omega : c.toNat = 34))
  · intro h; rw [h]; rfl
theorem c92 (c : UInt8) : ((c.toNat : Int) = 92) ↔ c = 92 := by
  constructor
  · intro h; exact UInt8.toNat_inj.1 (by simpa using (by omega : c.toNat = 92))
  · intro h; rw [h]; rfl
theorem Unquote_l1 (s : Str) (hs : s.length ≤ 1000000) : ∀ (m : Nat) (A T X : Str), T.length ≤ m → s = A ++ T → X.length ≤ A.length → base_Unquote_l1 s (ib X) A.length = some (match unq T with
    | some o => (X ++ o, true)
    | none => ([], false)) := by
  intro m
  induction m with
  | zero =>
    intro A T X hm hA hX
    obtain rfl : T = [] := List.length_eq_zero_iff.1 (by omega)
    unfold base_Unquote_l1
    rw [iter_eq, base_Unquote_b1, if_neg (by rw [hA]; simp), map_inr_after, strB_ib]
    simp [unq]
  | succ m ih =>
    intro A T X hm hA hX
    have hlen : s.length = A.length + T.length := by rw [hA, List.length_append]
    match T, hm, hA, hlen with
    | [], hm, hA, hlen =>
      unfold base_Unquote_l1
      rw [iter_eq, base_Unquote_b1, if_neg (by rw [hA]; simp), map_inr_after, strB_ib]
      simp [unq]
    | c :: R, hm, hA, hlen =>
      simp only [List.length_cons] at hm hlen
      have hX2 : (ib X).length = X.length := by unfold ib; rw [List.length_map]
      have hi : idx s (A.length : Int) = some c := by rw [hA]; exact idx_at A c R
      unfold base_Unquote_l1
      rw [iter_eq, base_Unquote_b1, if_pos (by simp only; omega)]
      simp only
      rw [hi]
      simp only [Option.bind_some]
      rw [unq_cons]
      by_cases h34 : c = 34
      · rw [if_pos ((c34 c).2 h34), if_pos h34, map_inr_after]
      · rw [if_neg (fun h => h34 ((c34 c).1 h)), if_neg h34]
        have j2 : ∀ (B R' : Str) (d : UInt8), s = B ++ d :: R' → A.length ≤ B.length → R'.length ≤ m → (base_Unquote_j2 s (ib X) B.length).bind (after (iter fun x : List Int × Int => base_Unquote_b1 s x.1 x.2)) = some (match unq R' with
            | some o => (X ++ d :: o, true)
            | none => ([], false)) := by
          intro B R' d hB hAB hR
          have hbl : s.length = B.length + R'.length + 1 := by rw [hB]; simp; omega
          unfold base_Unquote_j2
          rw [show idx s (B.length : Int) = some d by rw [hB]; exact idx_at B d R']
          simp only [Option.bind_some]
          rw [app_le (by simp [hX2]; omega), w64_in (by omega) (by omega)]
          simp only [Option.bind_some, after_inl]
          have := ih (B ++ [d]) R' (X ++ [d]) hR (by rw [hB]; simp) (by simp; omega)
          unfold base_Unquote_l1 at this
          rw [ib_snoc] at this
          have e : (((B ++ [d]).length : Nat) : Int) = (B.length : Int) + 1 := by simp
          rw [e] at this
          rw [this]
          cases unq R' <;> simp
        by_cases h92 : c = 92
        · rw [if_pos ((c92 c).2 h92), if_pos h92, w64_in (x := (A.length : Int) + 1) (by omega) (by omega)]
          match R, hm, hA, hlen with
          | [], hm, hA, hlen =>
            rw [if_pos (by simp at hlen; omega)]
            unfold base_Unquote_j3
            rw [if_pos rfl, map_inr_after]
          | d :: R', hm, hA, hlen =>
            simp only [List.length_cons] at hm hlen
            have hA2 : s = (A ++ [c]) ++ d :: R' := by rw [hA]; simp
            have hd : idx s ((A.length : Int) + 1) = some d := by
              have := idx_at (A ++ [c]) d R'
              rw [← hA2] at this
              have e : (((A ++ [c]).length : Nat) : Int) = (A.length : Int) + 1 := by simp
              rw [e] at this; exact this
            rw [if_neg (by omega), hd]
            simp only [Option.bind_some]
            have go : d = 34 ∨ d = 92 → (base_Unquote_j3 s (ib X) (A.length : Int) false).bind (after (iter fun x : List Int × Int => base_Unquote_b1 s x.1 x.2)) = some (match (unq R').map (d :: ·) with
                | some o => (X ++ o, true)
                | none => ([], false)) := by
              intro _
              unfold base_Unquote_j3
              rw [if_neg (by simp), w64_in (by omega) (by omega)]
              have := j2 (A ++ [c]) R' d hA2 (by simp) (by omega)
              have e : (((A ++ [c]).length : Nat) : Int) = (A.length : Int) + 1 := by simp
              rw [e] at this
              rw [this]
              cases unq R' <;> rfl
            by_cases hd34 : d = 34
            · rw [if_neg (fun h => h ((c34 d).2 hd34)), if_pos (.inl hd34)]
              exact go (.inl hd34)
            · rw [if_pos (fun h => hd34 ((c34 d).1 h))]
              by_cases hd92 : d = 92
              · rw [decide_eq_false (fun h => h ((c92 d).2 hd92)), if_pos (.inr hd92)]
                exact go (.inr hd92)
              · rw [decide_eq_true (show (d.toNat : Int) ≠ 92 from fun h => hd92 ((c92 d).1 h)), if_neg (by rintro (h | h); exact hd34 h; exact hd92 h)]
                unfold base_Unquote_j3
                rw [if_pos rfl, map_inr_after]
        · rw [if_neg (fun h => h92 ((c92 c).1 h)), if_neg h92, j2 A R c hA (Nat.le_refl _) (by omega)]
          cases unq R <;> rfl
theorem unqS_ends {s : Str} (h : s.length < 2 ∨ s.head? ≠ some 34 ∨ s.getLast? ≠ some 34) : unqS s = none := by
  unfold unqS
  split
  · rename_i r
    rcases h with h | h | h
    · simp at h
      have : r = [] := List.length_eq_zero_iff.1 (by omega)
      subst this; rfl
    · exact absurd rfl h
    · split
      · rename_i hl
        exfalso; apply h
        cases r with
        | nil => cases hl
        | cons x r => rw [List.getLast?_cons_cons]; exact hl
      · rfl
  · rfl
theorem unqS_mid (b : Str) : unqS (34 :: (b ++ [34])) = unq b := by
  unfold unqS
  simp
theorem ends_of {s : Str} (h1 : ¬ s.length < 2) (h2 : s.head? = some 34) (h3 : s.getLast? = some 34) : ∃ b, s = 34 :: (b ++ [34]) := by
  match s, h1, h2, h3 with
  | x :: y :: r, _, h2, h3 =>
    simp at h2
    rw [List.getLast?_cons_cons] at h3
    refine ⟨(y :: r).dropLast, ?_⟩
    have hl : (y :: r).getLast (by simp) = 34 := by
      rw [List.getLast?_eq_some_getLast (by simp)] at h3
      exact Option.some.inj h3
    have := List.dropLast_concat_getLast (l := y :: r) (by simp)
    rw [hl] at this
    rw [h2, this]
theorem Unquote_eq (s : Str) (hs : s.length ≤ 1000000) : base_Unquote s = some (match unqS s with
    | some o => (o, true)
    | none => ([], false)) := by
  unfold base_Unquote
  by_cases h2 : s.length < 2
  · rw [if_pos (by omega), unqS_ends (.inl h2)]
    unfold base_Unquote_j1
    rw [if_pos rfl]
  · rw [if_neg (by omega)]
    obtain ⟨c, hc, _, _⟩ := idx_lt s (i := 0) (by omega) (by omega)
    have hh : s.head? = some c := by
      have := (idx_some hc).2.2
      rw [List.head?_eq_getElem?]; simpa using this
    rw [hc]
    simp only [Option.bind_some]
    by_cases h34 : c = 34
    · rw [if_neg (fun h => h ((c34 c).2 h34)), w64_in (by omega) (by omega)]
      obtain ⟨d, hd, _, _⟩ := idx_lt s (i := (s.length : Int) - 1) (by omega) (by omega)
      have hl : s.getLast? = some d := by
        have := (idx_some hd).2.2
        rw [List.getLast?_eq_getElem?]
        rw [← this]; congr 1; omega
      rw [hd]
      simp only [Option.bind_some]
      by_cases hd34 : d = 34
      · rw [decide_eq_false (fun h => h ((c34 d).2 hd34))]
        obtain ⟨b, hb⟩ := ends_of h2 (by rw [hh, h34]) (by rw [hl, hd34])
        have hbl : s.length = b.length + 2 := by rw [hb]; simp
        unfold base_Unquote_j1
        rw [if_neg (by simp), w64_in (by omega) (by omega)]
        have hsl : slc s 1 ((s.length : Int) - 1) = some b := by
          have := slc_mid [34] b [34]
          rw [hb]
          simp only [List.singleton_append, List.length_cons, List.length_nil] at this ⊢
          have e : (((b ++ [34]).length + 1 : Nat) : Int) - 1 = ((0 + 1 : Nat) : Int) + (b.length : Int) := by simp; omega
          rw [e]; exact this
        rw [hsl]
        simp only [Option.bind_some]
        have := Unquote_l1 b (by omega) b.length [] b [] (Nat.le_refl _) rfl (by simp)
        rw [show ib [] = [] from rfl] at this
        simp only [List.length_nil, List.nil_append] at this
        rw [show ((0 : Nat) : Int) = 0 from rfl] at this
        rw [this, hb, unqS_mid]
      · rw [decide_eq_true (show (d.toNat : Int) ≠ 34 from fun h => hd34 ((c34 d).1 h)), unqS_ends (.inr (.inr (by rw [hl]; intro e; exact hd34 (Option.some.inj e))))]
        unfold base_Unquote_j1
        rw [if_pos rfl]
    · rw [if_pos (fun h => h34 ((c34 c).1 h)), unqS_ends (.inr (.inl (by rw [hh]; intro e; exact h34 (Option.some.inj e))))]
      unfold base_Unquote_j1
      rw [if_pos rfl]
/-! the reference -/
theorem QUnq_esc (s : Str) (hs : s.length ≤ 1000000) : ∀ (o A X : Str), s = A ++ (esc o ++ [34]) → X.length ≤ A.length → Q_Unquoted_l1 s (ib X) A.length = Q_Unquoted_k3 s (ib (X ++ o)) := by
  intro o
  induction o with
  | nil =>
    intro A X hA hX
    have hlen : s.length = A.length + 1 := by rw [hA]; simp [esc]
    unfold Q_Unquoted_l1
    rw [iter_eq, Q_Unquoted_b1, if_neg (by simp only; rw [w64_in (by omega) (by omega)]; omega), map_inr_after, List.append_nil]
  | cons x o ih =>
    intro A X hA hX
    have hX2 : (ib X).length = X.length := by unfold ib; rw [List.length_map]
    have e : esc (x :: o) = esc1 x ++ esc o := by unfold esc; rw [List.flatMap_cons]
    have j1 : ∀ (B : Str), s = B ++ x :: (esc o ++ [34]) → A.length ≤ B.length → (Q_Unquoted_j1 s (ib X) B.length).bind (after (iter fun z : List Int × Int => Q_Unquoted_b1 s z.1 z.2)) = Q_Unquoted_k3 s (ib (X ++ x :: o)) := by
      intro B hB hAB
      have hbl : s.length = B.length + 1 + (esc o).length + 1 := by rw [hB]; simp; omega
      unfold Q_Unquoted_j1
      rw [show idx s (B.length : Int) = some x by rw [hB]; exact idx_at B x _]
      simp only [Option.bind_some]
      rw [app_le (by simp [hX2]; omega), w64_in (by omega) (by omega)]
      simp only [Option.bind_some, after_inl]
      have := ih (B ++ [x]) (X ++ [x]) (by rw [hB]; simp) (by simp; omega)
      unfold Q_Unquoted_l1 at this
      rw [ib_snoc] at this
      have e : (((B ++ [x]).length : Nat) : Int) = (B.length : Int) + 1 := by simp
      rw [e] at this
      rw [this]
      simp
    have step : ∀ (c : UInt8) (R : Str), s = A ++ c :: R → 1 ≤ R.length → Q_Unquoted_l1 s (ib X) A.length = if c = 92 then (Q_Unquoted_j1 s (ib X) ((A.length : Int) + 1)).bind (after (iter fun z : List Int × Int => Q_Unquoted_b1 s z.1 z.2)) else (Q_Unquoted_j1 s (ib X) A.length).bind (after (iter fun z : List Int × Int => Q_Unquoted_b1 s z.1 z.2)) := by
      intro c R hR hR1
      have hlen : s.length = A.length + 1 + R.length := by rw [hR]; simp; omega
      unfold Q_Unquoted_l1
      rw [iter_eq, Q_Unquoted_b1, if_pos (by simp only; rw [w64_in (by omega) (by omega)]; omega)]
      simp only
      rw [show idx s (A.length : Int) = some c by rw [hR]; exact idx_at A c R]
      simp only [Option.bind_some]
      by_cases h : c = 92
      · rw [if_pos ((c92 c).2 h), if_pos h, w64_in (by omega) (by omega)]
      · rw [if_neg (fun k => h ((c92 c).1 k)), if_neg h]
    have l1 : (((A ++ [92]).length : Nat) : Int) = (A.length : Int) + 1 := by simp
    by_cases h : x = 92
    · have hA' : s = A ++ 92 :: (92 :: (esc o ++ [34])) := by rw [hA, e]; unfold esc1; rw [if_pos h]; simp
      rw [step 92 _ hA' (by simp), if_pos rfl]
      have := j1 (A ++ [92]) (by rw [hA', h]; simp) (by simp)
      rw [l1] at this; exact this
    · by_cases h2 : x = 34
      · have hA' : s = A ++ 92 :: (34 :: (esc o ++ [34])) := by rw [hA, e]; unfold esc1; rw [if_neg h, if_pos h2]; simp
        rw [step 92 _ hA' (by simp), if_pos rfl]
        have := j1 (A ++ [92]) (by rw [hA', h2]; simp) (by simp)
        rw [l1] at this; exact this
      · have hA' : s = A ++ x :: (esc o ++ [34]) := by rw [hA, e]; unfold esc1; rw [if_neg h, if_neg h2]; simp
        rw [step x _ hA' (by simp), if_neg h]
        exact j1 A hA' (Nat.le_refl _)
theorem QUnq_tot (s : Str) (hs : s.length ≤ 300000) : Ok (Q_Unquoted s) (fun z => z.2 = true → z.1.length ≤ 400000 ∧ quoS z.1 = s) := by
  unfold Q_Unquoted Q_Unquoted_l1
  refine Ok.iter (fun x : List Int × Int => ((s.length : Int) - x.2).toNat) (fun x : List Int × Int => 1 ≤ x.2 ∧ (x.1.length : Int) ≤ x.2 ∧ x.2 ≤ (s.length : Int) + 1) ?_ _ ⟨by simp, by simp, by simp only; omega⟩
  rintro ⟨X, n⟩ ⟨h0, h1, h3⟩
  simp only at h0 h1 h3 ⊢
  unfold Q_Unquoted_b1
  have hw : w64 ((s.length : Int) - 1) = (s.length : Int) - 1 := w64_in (by omega) (by omega)
  rw [hw]
  by_cases hn : n < (s.length : Int) - 1
  · rw [if_pos hn]
    refine Ok.idx (by omega) (by omega) (fun c hc hm => ?_)
    have j1 : ∀ k : Int, (k = n ∨ k = n + 1) → Ok (Q_Unquoted_j1 s X k) (Stp (fun x : List Int × Int => ((s.length : Int) - x.2).toNat) (fun x : List Int × Int => 1 ≤ x.2 ∧ (x.1.length : Int) ≤ x.2 ∧ x.2 ≤ (s.length : Int) + 1) (fun z : Str × Bool => z.2 = true → z.1.length ≤ 400000 ∧ quoS z.1 = s) (X, n)) := by
      intro k hk
      unfold Q_Unquoted_j1
      refine Ok.idx (by omega) (by omega) (fun d hd hm => ?_)
      refine Ok.app (by simp; omega) ?_
      refine Ok.ret ?_
      rw [w64_in (by omega) (by omega)]
      exact ⟨⟨by simp only; omega, by simp only [List.length_append, List.length_cons, List.length_nil]; omega, by simp only; omega⟩, by simp only; omega⟩
    split
    · rw [w64_in (by omega) (by omega)]
      exact j1 _ (.inr rfl)
    · exact j1 _ (.inl rfl)
  · rw [if_neg hn]
    refine Ok.inr ?_
    unfold Q_Unquoted_k3 Q_Unquoted_j2
    by_cases h2 : (2 : Int) ≤ (s.length : Int)
    · have hl : (strB X).length ≤ 400000 := by
        unfold strB
        rw [List.length_map]
        omega
      rw [if_pos h2, Quoted_eq _ hl]
      refine Ok.ret (fun h => ⟨hl, ?_⟩)
      simpa using h
    · rw [if_neg h2]
      exact Ok.ret (fun h => by cases h)
theorem Unquoted_eq (s : Str) (hs : s.length ≤ 300000) : ∃ z, Q_Unquoted s = some z ∧ z.2 = (unqS s).isSome ∧ ∀ o, unqS s = some o → z.1 = o := by
  cases hu : unqS s with
  | none =>
    obtain ⟨z, z1, z2⟩ := QUnq_tot s (by omega)
    refine ⟨z, z1, ?_, fun o h => by cases h⟩
    cases hz : z.2 with
    | false => rfl
    | true =>
      have := (z2 hz).2
      rw [← this] at hu
      unfold quoS at hu
      rw [unqS_mid, unq_esc] at hu
      cases hu
  | some o =>
    have hb : ∃ b, s = 34 :: (b ++ [34]) := by
      by_cases h : s.length < 2 ∨ s.head? ≠ some 34 ∨ s.getLast? ≠ some 34
      · rw [unqS_ends h] at hu; cases hu
      · simp only [not_or, ne_eq, Classical.not_not] at h
        exact ends_of h.1 h.2.1 h.2.2
    obtain ⟨b, hb⟩ := hb
    have hbo : unq b = some o := by rw [hb, unqS_mid] at hu; exact hu
    have he := esc_unq b.length b o (Nat.le_refl _) hbo
    have hol := unq_len b.length b o (Nat.le_refl _) hbo
    have hbl : s.length = b.length + 2 := by rw [hb]; simp
    have hA : s = [34] ++ (esc o ++ [34]) := by rw [hb, he]; rfl
    have := QUnq_esc s (by omega) o [34] [] hA (by simp)
    rw [show ib [] = [] from rfl] at this
    unfold Q_Unquoted
    simp only [List.length_cons, List.length_nil, List.nil_append] at this
    rw [show ((0 + 1 : Nat) : Int) = 1 from rfl] at this
    rw [this]
    unfold Q_Unquoted_k3 Q_Unquoted_j2
    rw [if_pos (by omega), strB_ib, Quoted_eq o (by omega)]
    simp only [Option.bind_some]
    refine ⟨_, rfl, ?_, fun o' h => by obtain rfl := Option.some.inj h; rfl⟩
    simp only [Option.isSome_some]
    rw [decide_eq_true]
    rw [hA]; rfl
/-! cut into at most so many -/
def splitN (c : UInt8) : Nat → Str → List Str
  | 0, s => [s]
  | n + 1, s => if (cut1 c s).2.2 = true then (cut1 c s).1 :: splitN c n (cut1 c s).2.1 else [s]
theorem splitN_len (c : UInt8) : ∀ (n : Nat) (s : Str), (splitN c n s).length ≤ n + 1 ∧ ∀ x ∈ splitN c n s, x.length ≤ s.length
  | 0, s => by simp [splitN]
  | n + 1, s => by
    have h := cut1_len c s
    have ih := splitN_len c n (cut1 c s).2.1
    unfold splitN
    split
    · refine ⟨by simp only [List.length_cons]; omega, fun x hx => ?_⟩
      rcases List.mem_cons.1 hx with e | e
      · subst e; exact h.1
      · have := ih.2 x e; omega
    · simp
theorem genSplit_l1g (s0 : Str) (hs : s0.length ≤ 1000000) (c : UInt8) (n k : Nat) (hn : n + 1 ≤ 1000) (hk : min ((k : Int) + 1) ((s0.length : Int) + 1) = (n : Int) + 1) :
    ∀ (m : Nat) (q : Str) (P Z : List Str), P.length + m = n → Z.length = m + 1 → q.length ≤ s0.length → strings_genSplit_l1 s0 [c] 0 ((k : Int) + 1) q (P ++ Z) P.length = some (P ++ splitN c m q) := by
  intro m
  induction m with
  | zero =>
    intro q P Z hP hZ hq
    obtain ⟨z, rfl⟩ : ∃ z, Z = [z] := by
      match Z, hZ with
      | [z], _ => exact ⟨z, rfl⟩
    unfold strings_genSplit_l1
    rw [iter_eq, strings_genSplit_b1, if_neg (by
      rw [w64_in (x := (s0.length : Int) + 1) (by omega) (by omega), hk, w64_in (by omega) (by omega)]
      simp only; omega), map_inr_after]
    unfold strings_genSplit_j2
    simp only
    rw [show idx (P ++ [z]) (P.length : Int) = some z from idx_at P z []]
    simp only [Option.bind_some]
    have hset : (P ++ [z]).set ((P.length : Int)).toNat q = P ++ [q] := by
      rw [show ((P.length : Int)).toNat = P.length by omega, List.set_append_right _ _ (Nat.le_refl _)]; simp
    rw [hset, w64_in (by omega) (by omega), slc_in (by omega) (by omega) (by simp)]
    simp only [Option.bind_some]
    congr 1
    rw [show (0 : Int).toNat = 0 from rfl, List.drop_zero]
    exact List.take_of_length_le (by simp)
  | succ m ih =>
    intro q P Z hP hZ hq
    obtain ⟨z, Z', rfl⟩ : ∃ z Z', Z = z :: Z' := by
      match Z, hZ with
      | z :: Z', _ => exact ⟨z, Z', rfl⟩
    simp only [List.length_cons] at hZ
    have hlen := cut1_len c q
    unfold strings_genSplit_l1
    rw [iter_eq, strings_genSplit_b1, if_pos (by
      rw [w64_in (x := (s0.length : Int) + 1) (by omega) (by omega), hk, w64_in (by omega) (by omega)]
      simp only; omega)]
    simp only [indexO, Option.bind_some]
    rw [index_cut]
    by_cases hc : (cut1 c q).2.2 = true
    · obtain ⟨h1, h2⟩ := cut1_hitQ c q hc
      rw [if_pos hc, if_neg (by omega)]
      unfold splitN
      rw [if_pos hc]
      generalize (cut1 c q).1 = A at h1 h2 hlen ⊢
      generalize (cut1 c q).2.1 = R at h1 hlen ⊢
      have hql : q.length = A.length + 1 + R.length := by rw [h1]; simp; omega
      rw [w64_in (x := (A.length : Int) + 0) (by omega) (by omega), Int.add_zero]
      have s1 : slc q 0 (A.length : Int) = some A := by
        have := slc_mid [] A (c :: R)
        simp only [List.nil_append, List.length_nil] at this
        rw [← h1] at this
        simpa using this
      have s2 : slc q ((A.length : Int) + 1) (q.length : Int) = some R := by
        have := slc_end (A ++ [c]) R
        have e : (A ++ [c]) ++ R = q := by rw [h1]; simp
        rw [e] at this
        have e2 : (((A ++ [c]).length : Nat) : Int) = (A.length : Int) + 1 := by simp
        rw [e2] at this; exact this
      rw [s1]
      simp only [Option.bind_some]
      rw [show idx (P ++ z :: Z') (P.length : Int) = some z from idx_at P z Z']
      simp only [Option.bind_some, List.length_cons, List.length_nil]
      rw [w64_in (x := (A.length : Int) + ((0 + 1 : Nat) : Int)) (by omega) (by omega), show (A.length : Int) + ((0 + 1 : Nat) : Int) = (A.length : Int) + 1 from rfl, s2]
      simp only [Option.bind_some, after_inl]
      have hset : (P ++ z :: Z').set ((P.length : Int)).toNat A = (P ++ [A]) ++ Z' := by
        rw [show ((P.length : Int)).toNat = P.length by omega, List.set_append_right _ _ (Nat.le_refl _)]; simp
      rw [hset, w64_in (by omega) (by omega)]
      have := ih R (P ++ [A]) Z' (by simp; omega) (by omega) (by omega)
      unfold strings_genSplit_l1 at this
      have e : (((P ++ [A]).length : Nat) : Int) = (P.length : Int) + 1 := by simp
      rw [e] at this
      rw [this]
      simp
    · rw [if_neg hc, if_pos (by omega), map_inr_after]
      unfold strings_genSplit_j2
      rw [show idx (P ++ z :: Z') (P.length : Int) = some z from idx_at P z Z']
      simp only [Option.bind_some]
      have hset : (P ++ z :: Z').set ((P.length : Int)).toNat q = P ++ q :: Z' := by
        rw [show ((P.length : Int)).toNat = P.length by omega, List.set_append_right _ _ (Nat.le_refl _)]; simp
      rw [hset, w64_in (by omega) (by omega), slc_in (by omega) (by omega) (by simp; omega)]
      unfold splitN
      rw [if_neg hc]
      simp only [Option.bind_some]
      congr 1
      have e1 : ((P.length : Int) + 1).toNat - (0 : Int).toNat = P.length + 1 := by omega
      rw [e1, show (0 : Int).toNat = 0 from rfl, List.drop_zero, show P ++ q :: Z' = (P ++ [q]) ++ Z' by simp]
      exact List.take_left' (by simp)
theorem genSplit_l1 (s0 : Str) (hs : s0.length ≤ 1000000) (c : UInt8) (n : Nat) (hn : n + 1 ≤ 1000) (hl : n + 1 ≤ s0.length + 1) (m : Nat) (q : Str) (P Z : List Str) (hP : P.length + m = n) (hZ : Z.length = m + 1) (hq : q.length ≤ s0.length) : strings_genSplit_l1 s0 [c] 0 ((n : Int) + 1) q (P ++ Z) P.length = some (P ++ splitN c m q) :=
  genSplit_l1g s0 hs c n n hn (Int.min_eq_left (by omega)) m q P Z hP hZ hq
theorem genSplit_l1b (s0 : Str) (hs : s0.length ≤ 1000000) (c : UInt8) (k : Nat) (hn : s0.length + 1 ≤ 1000) (hl : s0.length + 1 ≤ k + 1) (m : Nat) (q : Str) (P Z : List Str) (hP : P.length + m = s0.length) (hZ : Z.length = m + 1) (hq : q.length ≤ s0.length) : strings_genSplit_l1 s0 [c] 0 ((k : Int) + 1) q (P ++ Z) P.length = some (P ++ splitN c m q) :=
  genSplit_l1g s0 hs c s0.length k hn (Int.min_eq_right (by omega)) m q P Z hP hZ hq
theorem splitN_sat (c : UInt8) : ∀ (n m : Nat) (s : Str), s.length ≤ n → s.length ≤ m → splitN c n s = splitN c m s
  | 0, m, s, h1, h2 => by
    obtain rfl : s = [] := List.length_eq_zero_iff.1 (by omega)
    cases m <;> rfl
  | n + 1, 0, s, h1, h2 => by
    obtain rfl : s = [] := List.length_eq_zero_iff.1 (by omega)
    rfl
  | n + 1, m + 1, s, h1, h2 => by
    unfold splitN
    by_cases hc : (cut1 c s).2.2 = true
    · have := congrArg List.length (cut1_hitQ c s hc).1
      simp only [List.length_append, List.length_cons] at this
      rw [if_pos hc, if_pos hc, splitN_sat c n m (cut1 c s).2.1 (by omega) (by omega)]
    · rw [if_neg hc, if_neg hc]
theorem SplitN_eq (s : Str) (hs : s.length ≤ 1000000) (c : UInt8) (k : Nat) (h1 : k + 1 ≤ 1000) : strings_SplitN s [c] ((k : Int) + 1) = some (splitN c k s) := by
  unfold strings_SplitN strings_genSplit
  rw [if_neg (by omega), if_neg (by simp), if_neg (by omega)]
  unfold strings_genSplit_j1
  rw [w64_in (by omega) (by omega)]
  by_cases hk : k + 1 ≤ s.length + 1
  · rw [Int.min_eq_left (by omega)]
    unfold mkS
    rw [if_pos (by omega)]
    simp only [Option.bind_some]
    have := genSplit_l1 s hs c k h1 hk k s [] (List.replicate (k + 1) []) (by simp) (by simp) (Nat.le_refl _)
    simp only [List.nil_append, List.length_nil] at this
    rw [show ((0 : Nat) : Int) = 0 from rfl] at this
    rw [show ((k : Int) + 1).toNat = k + 1 by omega, this]; rfl
  · have hsmall : s.length + 1 ≤ 1000 := by omega
    rw [Int.min_eq_right (by omega)]
    unfold mkS
    rw [if_pos (by omega)]
    simp only [Option.bind_some]
    have := genSplit_l1b s hs c k (by omega) (by omega) s.length s [] (List.replicate (s.length + 1) []) (by simp) (by simp) (Nat.le_refl _)
    simp only [List.nil_append, List.length_nil] at this
    rw [show ((0 : Nat) : Int) = 0 from rfl] at this
    rw [show ((s.length : Int) + 1).toNat = s.length + 1 by omega, this, splitN_sat c s.length k s (Nat.le_refl _) (by omega)]; rfl
end Go.Beacon

/- Strings without marks; letters: the checks of the program and of the reference. No program in sight. -/
set_option linter.unusedVariables false
set_option linter.unusedSimpArgs false
namespace Go.Beacon
open Go Go.Eng

def badC (c : UInt8) : Bool := decide (c.toNat < 32) || decide (c.toNat = 127)
def unmB (s : Str) : Bool := !s.any badC && Lib.validD s
theorem enc_hi {r : Int} (h : 128 ≤ r) : ∀ x ∈ Lib.encodeRune r, 128 ≤ x.toNat := by
  intro x hx
  unfold Lib.encodeRune at hx
  rw [List.mem_map] at hx
  obtain ⟨z, hz, rfl⟩ := hx
  have hb : 128 ≤ z ∧ z ≤ 255 := by
    unfold Lib.encodeRuneZ at hz
    split at hz
    · omega
    · split at hz
      · simp at hz; omega
      · split at hz
        · simp at hz; omega
        · split at hz
          · simp at hz; omega
          · simp at hz; omega
  show 128 ≤ (UInt8.ofNat z.toNat).toNat
  rw [UInt8.toNat_ofNat']
  omega
theorem idx_any (p : Nat → Bool) (hp : ∀ x, p x = (decide (x < 32) || decide (x = 127))) (s : Str) : ∀ (f pos : Nat), s.length ≤ pos + f → Lib.validD (s.drop pos) = true → decide (0 ≤ Lib.idxFuncFrom p true ⟨s.toArray⟩ f pos) = (s.drop pos).any badC := by
  intro f
  induction f with
  | zero =>
    intro pos hl _
    rw [List.drop_of_length_le (by omega)]
    rfl
  | succ f ih =>
    intro pos hl hv
    have hsz : (⟨s.toArray⟩ : ByteArray).size = s.length := by simp [ByteArray.size]
    unfold Lib.idxFuncFrom
    rw [hsz]
    by_cases hpos : pos < s.length
    · rw [if_pos hpos]
      have hdec : Utf8.decode ⟨s.toArray⟩ pos = Lib.decodeL (s.drop pos) := by
        have := Lib.decodeL_drop ⟨s.toArray⟩ pos
        simpa using this.symm
      rw [hdec]
      obtain ⟨b, t, hL⟩ : ∃ b t, s.drop pos = b :: t := by
        cases h : s.drop pos with
        | nil => have := congrArg List.length h; simp at this; omega
        | cons b t => exact ⟨b, t, rfl⟩
      have hstep := Lib.validD_step (s.drop pos) (by rw [hL]; simp)
      rw [hv] at hstep
      by_cases hb : b.toNat < 128
      · have hd := Lib.decodeL_ascii b t hb
        rw [hL] at hstep ⊢
        rw [hd] at hstep ⊢
        simp only [List.drop_one, List.tail_cons] at hstep ⊢
        have hdrop : s.drop (pos + 1) = t := by rw [← List.drop_drop, hL]; rfl
        have hnb : ¬ (b.toNat = 65533 ∧ True) := by omega
        have hvt : Lib.validD t = true := by
          rw [if_neg (by omega)] at hstep; exact hstep.symm
        rw [List.any_cons]
        have hbad : p b.toNat = badC b := by rw [hp]; rfl
        rw [hbad]
        cases hc : badC b with
        | true => simp
        | false =>
          simp only [Bool.false_eq_true, if_false, Bool.false_or]
          have := ih (pos + 1) (by omega) (by rw [hdrop]; exact hvt)
          rw [hdrop] at this
          exact this
      · have hne : s.drop pos ≠ [] := by rw [hL]; simp
        have hnb : ¬ ((Lib.decodeL (s.drop pos)).1 = 65533 ∧ (Lib.decodeL (s.drop pos)).2 = 1) := by
          intro h; rw [if_pos h] at hstep; cases hstep
        rw [if_neg hnb] at hstep
        have henc := Lib.encode_decode (s.drop pos) hne hnb
        have hk1 := Lib.decodeL_width (s.drop pos)
        have hk2 := Lib.decodeL_le (s.drop pos) hne
        generalize hr : (Lib.decodeL (s.drop pos)).1 = r at *
        generalize hk : (Lib.decodeL (s.drop pos)).2 = k at *
        have hr128 : 128 ≤ (r : Int) := by
          rcases Int.lt_or_le (r : Int) 128 with h | h
          · exfalso
            unfold Lib.encodeRune at henc
            rw [Lib.encodeRuneZ_one (by omega) (by omega), hL] at henc
            obtain ⟨k', rfl⟩ : ∃ k', k = k' + 1 := ⟨k - 1, by omega⟩
            simp only [List.map_cons, List.map_nil, List.take_succ_cons, List.cons.injEq] at henc
            have := congrArg UInt8.toNat henc.1
            have e : ((r : Int).toNat.toUInt8).toNat = r := by
              show (UInt8.ofNat (r : Int).toNat).toNat = r
              rw [UInt8.toNat_ofNat']; omega
            rw [e] at this; omega
          · exact h
        have hpr : p r = false := by rw [hp]; simp; omega
        rw [hpr]
        simp only [Bool.false_eq_true, if_false]
        have hsplit : (s.drop pos).any badC = (((s.drop pos).take k).any badC || ((s.drop pos).drop k).any badC) := by
          rw [← List.any_append, List.take_append_drop]
        have htk : ((s.drop pos).take k).any badC = false := by
          rw [List.any_eq_false]
          intro x hx
          rw [← henc] at hx
          have := enc_hi hr128 x hx
          unfold badC; simp; omega
        rw [hsplit, htk, Bool.false_or, List.drop_drop]
        rw [List.drop_drop] at hstep
        exact ih (pos + k) (by omega) hstep.symm
    · rw [if_neg hpos, List.drop_of_length_le (by omega)]
      rfl
theorem Printed_eq (s : Str) (hl : s.length ≤ 1000000) : Q_Printed s = some (unmB s) := by
  unfold Q_Printed Q_Printed_j1 validO unmB
  rw [if_pos (by omega)]
  simp only [Option.bind_some]
  cases hv : Lib.validD s with
  | false => simp
  | true =>
    simp only [if_true, Bool.and_true]
    unfold containsF
    rw [if_pos (fun x _ => ⟨_, rfl⟩)]
    simp only [Option.bind_some, Option.getD_some]
    have h := idx_any (fun x => Q_Printed_1x (x : Int)) (fun x => by
      unfold Q_Printed_1x Q_Printed_1x_j1
      congr 1
      · rw [Bool.eq_iff_iff]; simp; omega
      · rw [Bool.eq_iff_iff]; simp; omega) s s.length 0 (by omega) (by simpa using hv)
    rw [List.drop_zero] at h
    rw [← h]
    unfold Lib.idxFunc
    rw [show (⟨s.toArray⟩ : ByteArray).size = s.length by simp [ByteArray.size]]
theorem Unmarked_eq (s : Str) (hl : s.length ≤ 1000000) : base_Unmarked s = some (unmB s) := by
  unfold base_Unmarked base_Unmarked_l1
  have h := iter_find s (fun x : Int => base_Unmarked_b1 s x) (fun c => if badC c = true then some false else none) (Lib.validD s) (by omega) (fun i c h0 h1 h2 => by
    show base_Unmarked_b1 s i = _
    unfold base_Unmarked_b1 base_Unmarked_j1 badC
    rw [if_pos h1, h2]
    simp only [Option.bind_some]
    rw [w64_in (by omega) (by omega)]
    by_cases q1 : c.toNat < 32
    · rw [if_pos (by omega)]; simp [q1]
    · rw [if_neg (by omega)]
      by_cases q2 : c.toNat = 127
      · simp [q2]
      · have : ¬ ((c.toNat : Int) = 127) := by omega
        simp [q1, q2, this]) (by
    show base_Unmarked_b1 s s.length = _
    unfold base_Unmarked_b1 base_Unmarked_k2 validO
    rw [if_neg (by omega), if_pos (by omega)]; rfl)
  rw [h]
  unfold unmB
  congr 1
  induction s with
  | nil => simp [findE]
  | cons c r ih => exact find_any c r _
where
  find_any (c : UInt8) (r : Str) (e : Bool) : findE (fun c => if badC c = true then some false else none) e (c :: r) = (!(c :: r).any badC && e) := by
    have key : ∀ (l : Str), findE (fun c => if badC c = true then some false else none) e l = (!l.any badC && e) := by
      intro l
      induction l with
      | nil => simp [findE]
      | cons x t ih =>
        simp only [findE, List.any_cons]
        cases hx : badC x with
        | true => simp
        | false => simp [ih]
    exact key _
/-! letters -/
end Go.Beacon

/- Properties: the checks of the program and of the reference. No program in sight. -/
set_option linter.unusedVariables false
set_option linter.unusedSimpArgs false
namespace Go.Beacon
open Go Go.Eng

theorem vf_j1 (v : ValueS) (c : Bool) (n : Int) (q : Str) (h : v.Words.length ≤ 1000000) : twin_valueFault_j1 v c n q = Q_ValueFault_j1 v c n q := by
  unfold twin_valueFault_j1 Q_ValueFault_j1
  rw [Out_not_in, Unmarked_eq _ h, Printed_eq _ h]
  by_cases e : v = ⟨v.Kind, c, n, q⟩
  · have e1 : ¬ (v ≠ (⟨v.Kind, c, n, q⟩ : ValueS)) := fun z => z e
    have e2 : ¬ ((⟨v.Kind, c, n, q⟩ : ValueS) ≠ v) := fun z => z e.symm
    rw [if_neg e1, if_neg e2]
  · have e1 : v ≠ (⟨v.Kind, c, n, q⟩ : ValueS) := e
    have e2 : (⟨v.Kind, c, n, q⟩ : ValueS) ≠ v := fun z => e z.symm
    rw [if_pos e1, if_pos e2]
theorem valueFault_eq (v : ValueS) (h : v.Words.length ≤ 1000000) : twin_valueFault v = Q_ValueFault v := by
  unfold twin_valueFault Q_ValueFault twin_valueFault_j3 twin_valueFault_j2 Q_ValueFault_j3 Q_ValueFault_j2
  rw [Qin_eq]
  by_cases h0 : v.Kind = 0
  · rw [if_pos h0, h0, vf_j1 _ _ _ _ h]; simp
  by_cases h1 : v.Kind = 1
  · rw [if_neg h0, if_pos h1, h1, vf_j1 _ _ _ _ h]; simp
  by_cases h2 : v.Kind = 2
  · rw [if_neg h0, if_neg h1, if_pos h2, h2, vf_j1 _ _ _ _ h]; simp
  by_cases h3 : v.Kind = 3
  · rw [if_neg h0, if_neg h1, if_neg h2, if_pos h3, h3, vf_j1 _ _ _ _ h]; simp
  · rw [if_neg h0, if_neg h1, if_neg h2, if_neg h3, if_pos]
    simp; omega
end Go.Beacon

/- Finding a property by binary search. No program in sight. -/
set_option linter.unusedVariables false
set_option linter.unusedSimpArgs false
namespace Go.Beacon
open Go Go.Eng

theorem half2 {i j : Int} (h0 : 0 ≤ i) (h1 : i < j) (h2 : j ≤ 1000000) : w64 (shrI .u64 (IntKind.u64.wrap (w64 (i + j))) (1 : Int)) = (i + j) / 2 := by
  have e1 : w64 (i + j) = i + j := w64_in (by omega) (by omega)
  have e2 : IntKind.u64.wrap (i + j) = i + j := u64_in (by omega) (by omega)
  rw [e1, e2]
  have e3 : shrI .u64 (i + j) 1 = (i + j) / 2 := by
    show (i + j).fdiv 2 = _
    rw [Int.fdiv_eq_ediv_of_nonneg _ (by omega)]
  rw [e3, w64_in] <;> omega
theorem pw_idx {α : Type} {R : α → α → Prop} {l : List α} (h : l.Pairwise R) {i j : Int} {x y : α} (h0 : 0 ≤ i) (h1 : i < j) (hx : idx l i = some x) (hy : idx l j = some y) : R x y := by
  obtain ⟨_, _, g1⟩ := idx_some hx
  obtain ⟨_, _, g2⟩ := idx_some hy
  rw [List.getElem?_eq_some_iff] at g1 g2
  obtain ⟨k1, e1⟩ := g1
  obtain ⟨k2, e2⟩ := g2
  rw [← e1, ← e2]
  exact List.pairwise_iff_getElem.1 h _ _ k1 k2 (by omega)
/-- Properties in order. -/
def SN (l : List PropS) : Prop := l.Pairwise (fun a c => Lib.compareBytes a.Name c.Name < 0)
theorem find_eq (l : List PropS) (hl : l.length ≤ 1000) (hu : SN l) (s : Str) : ∃ r, twin_find l s = some r ∧ ((∃ p, 0 ≤ r ∧ idx l r = some p ∧ p.Name = s) ∨ (r = -1 ∧ ∀ p ∈ l, p.Name ≠ s)) := by
  have key : ∃ r, slices_BinarySearchFunc_Prop_Prop_string l s (fun y0 y1 => some (twin_find_1x y0 y1)) = some r ∧ ((r.2 = true ∧ ∃ p, 0 ≤ r.1 ∧ idx l r.1 = some p ∧ p.Name = s) ∨ (r.2 = false ∧ ∀ p ∈ l, p.Name ≠ s)) := by
    unfold slices_BinarySearchFunc_Prop_Prop_string slices_BinarySearchFunc_Prop_Prop_string_l1
    refine iter_inv _ (fun s : Int × Int => (s.2 - s.1).toNat) (fun q : Int × Int => 0 ≤ q.1 ∧ q.1 ≤ q.2 ∧ q.2 ≤ l.length ∧ (∀ j x, 0 ≤ j → j < q.1 → idx l j = some x → Lib.compareBytes x.Name s < 0) ∧ (∀ j x, q.2 ≤ j → idx l j = some x → ¬ Lib.compareBytes x.Name s < 0)) _ ?_ _ ⟨by simp, by simp, by simp, fun j x h0 h1 => by simp only at h1; omega, fun j x h0 h1 => by simp only at h0; have := (idx_some h1); omega⟩
    rintro ⟨i, j⟩ ⟨h0, h1, h2, h3, h4⟩
    simp only at h0 h1 h2 h3 h4 ⊢
    unfold slices_BinarySearchFunc_Prop_Prop_string_b1
    by_cases hij : i < j
    · rw [if_pos hij, half2 h0 hij (by omega)]
      obtain ⟨y, hy, _, _⟩ := idx_lt l (i := (i + j) / 2) (by omega) (by omega)
      simp only [hy, Option.bind_some, twin_find_1x]
      unfold slices_BinarySearchFunc_Prop_Prop_string_j1
      left
      by_cases hc : Lib.compareBytes y.Name s < 0
      · rw [if_pos hc, w64_in (by omega) (by omega)]
        refine ⟨_, rfl, ⟨by simp only; omega, by simp only; omega, by simp only; omega, fun k x g0 g1 hx => ?_, h4⟩, by simp only; omega⟩
        simp only at g1
        by_cases hk : k = (i + j) / 2
        · subst hk; rw [hx] at hy; obtain rfl := Option.some.inj hy; exact hc
        · exact cmpB_tr (pw_idx hu g0 (show k < (i + j) / 2 by omega) hx hy) hc
      · rw [if_neg hc]
        refine ⟨_, rfl, ⟨by simp only; omega, by simp only; omega, by simp only; omega, h3, fun k x g0 hx => ?_⟩, by simp only; omega⟩
        simp only at g0
        by_cases hk : k = (i + j) / 2
        · subst hk; rw [hx] at hy; obtain rfl := Option.some.inj hy; exact hc
        · intro hlt
          exact hc (cmpB_tr (pw_idx hu (show 0 ≤ (i + j) / 2 by omega) (show (i + j) / 2 < k by omega) hy hx) hlt)
    · rw [if_neg hij]
      right
      have : j = i := by omega
      subst this
      have no : ∀ p ∈ l, p.Name = s → idx l j = some p := by
        intro p hp he
        obtain ⟨n, hn, hx⟩ := List.getElem_of_mem hp
        have hi : idx l (n : Int) = some p := by
          obtain ⟨z, hz, _, _⟩ := idx_lt l (i := (n : Int)) (by omega) (by omega)
          have := (idx_some hz).2.2
          simp [hn] at this
          rw [hz, ← this, hx]
        have hself : Lib.compareBytes p.Name s = 0 := by rw [he]; have := cmpB_neg s s; omega
        rcases Int.lt_trichotomy (n : Int) j with c | c | c
        · have := h3 n p (by omega) c hi; omega
        · rw [← c]; exact hi
        · obtain ⟨z, hz, _, _⟩ := idx_lt l h0 (by omega)
          have a1 := h4 j z (by omega) hz
          have a2 := pw_idx hu h0 c hz hi
          rw [he] at a2
          exact absurd a2 a1
      unfold slices_BinarySearchFunc_Prop_Prop_string_k3 slices_BinarySearchFunc_Prop_Prop_string_j2
      split
      · rename_i hlt
        obtain ⟨y, hy, _, _⟩ := idx_lt l h0 hlt
        simp only [hy, Option.bind_some, twin_find_1x]
        by_cases hc : Lib.compareBytes y.Name s = 0
        · exact ⟨_, rfl, .inl ⟨by simp [hc], y, h0, hy, cmpB_zero hc⟩⟩
        · refine ⟨_, rfl, .inr ⟨by simp [hc], fun p hp he => ?_⟩⟩
          have := no p hp he
          rw [hy] at this; obtain rfl := Option.some.inj this
          exact hc (by rw [he]; have := cmpB_neg s s; omega)
      · rename_i hlt
        refine ⟨_, rfl, .inr ⟨rfl, fun p hp he => ?_⟩⟩
        have := (idx_some (no p hp he)); omega
  obtain ⟨r, h1, h2⟩ := key
  unfold twin_find
  rw [h1]
  simp only [Option.bind_some]
  rcases h2 with ⟨e, p, g1, g2, g3⟩ | ⟨e, g⟩
  · rw [e, if_neg (by simp)]; exact ⟨_, rfl, .inl ⟨p, g1, g2, g3⟩⟩
  · rw [e, if_pos (by simp)]; exact ⟨_, rfl, .inr ⟨rfl, g⟩⟩
end Go.Beacon

/- Names above a name: both ways to tell. No program in sight. -/
set_option linter.unusedVariables false
set_option linter.unusedSimpArgs false
namespace Go.Beacon
open Go Go.Eng

theorem above_eq (name : Str) (hl : name.length ≤ 1000000) (f : Str → Option Bool) (g : Str → Bool) (hf : ∀ s, f s = some (g s)) :
    ∃ r, twin_above name f = some r ∧ (r = true ↔ ∃ i : Nat, name[i]? = some (46 : UInt8) ∧ g (name.take i) = true) := by
  unfold twin_above twin_above_l1
  refine iter_inv _ (fun n : Int => (name.length - n).toNat) (fun n : Int => 0 ≤ n ∧ n ≤ name.length ∧ ∀ i : Nat, (i : Int) < n → name[i]? = some (46 : UInt8) → g (name.take i) = true → False) _ ?_ _ ⟨by omega, by omega, fun i h => by omega⟩
  rintro n ⟨h0, h1, h2⟩
  unfold twin_above_b1
  by_cases hn : n < name.length
  · obtain ⟨c, hc, _, _⟩ := idx_lt name h0 hn
    have hc' := (idx_some hc).2.2
    rw [if_pos hn, hc]; simp only [Option.bind_some]
    have step : ∀ (hno : name[n.toNat]? = some (46 : UInt8) → g (name.take n.toNat) = true → False), 0 ≤ n + 1 ∧ n + 1 ≤ name.length ∧ ∀ i : Nat, (i : Int) < n + 1 → name[i]? = some (46 : UInt8) → g (name.take i) = true → False := fun hno => ⟨by omega, by omega, fun i hi a b => by
      by_cases e : (i : Int) = n
      · have : n.toNat = i := by omega
        rw [this] at hno; exact hno a b
      · exact h2 i (by omega) a b⟩
    by_cases h46 : (c.toNat : Int) = 46
    · have hc46 : c = 46 := UInt8.toNat_inj.1 (by show c.toNat = 46; omega)
      rw [if_pos h46, slc_in (by omega) (by omega) (by omega)]
      simp only [Option.bind_some, hf]
      have ht : (name.drop (0 : Int).toNat).take (n.toNat - (0 : Int).toNat) = name.take n.toNat := by simp
      rw [ht]
      unfold twin_above_j1
      by_cases hg : g (name.take n.toNat) = true
      · right
        rw [if_pos hg]
        exact ⟨true, rfl, by simp only [true_iff]; exact ⟨n.toNat, by rw [hc', hc46], hg⟩⟩
      · left
        rw [if_neg hg, w64_in (by omega) (by omega)]
        exact ⟨_, rfl, step (fun _ b => hg b), by omega⟩
    · left
      rw [if_neg h46]
      unfold twin_above_j1
      rw [if_neg (by simp), w64_in (by omega) (by omega)]
      refine ⟨_, rfl, step (fun a _ => ?_), by omega⟩
      rw [hc'] at a
      obtain rfl := Option.some.inj a
      exact h46 rfl
  · right
    rw [if_neg hn]
    refine ⟨false, rfl, ?_⟩
    constructor
    · intro h; cases h
    · rintro ⟨i, a, b⟩
      have := (List.getElem?_eq_some_iff.1 a).1
      exact (h2 i (by omega) a b).elim
end Go.Beacon

/- Checking properties: the program and the reference tell the same. No program in sight. -/
set_option linter.unusedVariables false
set_option linter.unusedSimpArgs false
namespace Go.Beacon
open Go Go.Eng

/-- Two loops side by side. -/
theorem iter_two {S A : Type} (f f' : S → Option (S ⊕ A)) (m : S → Nat) (Inv : S → Prop) (R : A → Prop)
    (h : ∀ s, Inv s → (∃ s', f s = some (.inl s') ∧ f' s = some (.inl s') ∧ Inv s' ∧ m s' < m s) ∨ (∃ a, f s = some (.inr a) ∧ f' s = some (.inr a) ∧ R a)) :
    ∀ (n : Nat) s, m s < n → Inv s → ∃ a, iter f s = some a ∧ iter f' s = some a ∧ R a
  | 0, s, hm, hi => by omega
  | n + 1, s, hm, hi => by
    rw [iter_eq f, iter_eq f']
    rcases h s hi with ⟨s', h1, h2, h3, h4⟩ | ⟨a, h1, h2, h3⟩
    · rw [h1, h2]
      exact iter_two f f' m Inv R h n s' (by omega) h3
    · rw [h1, h2]
      exact ⟨a, rfl, rfl, h3⟩
theorem has_eq (l : List PropS) (hl : l.length ≤ 1000) (hu : SN l) (s : Str) : twin_CheckProps_1x s l = some (l.any fun q => decide (q.Name = s)) := by
  obtain ⟨r, h1, h2⟩ := find_eq l hl hu s
  unfold twin_CheckProps_1x
  rw [h1]
  simp only [Option.bind_some, Option.some.injEq]
  rw [Bool.eq_iff_iff, decide_eq_true_eq, List.any_eq_true]
  rcases h2 with ⟨p, g1, g2, g3⟩ | ⟨rfl, g⟩
  · exact ⟨fun _ => ⟨p, idx_mem g2, by simp [g3]⟩, fun _ => g1⟩
  · constructor
    · intro h; omega
    · rintro ⟨p, hp, he⟩; exact absurd (by simpa using he) (g p hp)
end Go.Beacon

/- Checking properties, whole. No program in sight. -/
set_option linter.unusedVariables false
set_option linter.unusedSimpArgs false
namespace Go.Beacon
open Go Go.Eng

theorem vf_tot (v : ValueS) (h : v.Words.length ≤ 1000000) : ∃ r, Q_ValueFault v = some r := by
  have k : ∀ c n q, ∃ r, Q_ValueFault_j1 v c n q = some r := by
    intro c n q
    unfold Q_ValueFault_j1
    rw [Printed_eq _ h]
    repeat' split
    all_goals first
      | exact ⟨_, rfl⟩
      | (simp only [Option.bind_some]; split <;> exact ⟨_, rfl⟩)
  unfold Q_ValueFault Q_ValueFault_j3 Q_ValueFault_j2
  repeat' split
  all_goals first
    | exact ⟨_, rfl⟩
    | exact k _ _ _
end Go.Beacon

/- Values and properties under a name. No program in sight. -/
set_option linter.unusedVariables false
set_option linter.unusedSimpArgs false
namespace Go.Beacon
open Go Go.Eng

end Go.Beacon

/- Cells: checks, the order of stamps, what hides what. No program in sight. -/
set_option linter.unusedVariables false
set_option linter.unusedSimpArgs false
namespace Go.Beacon
open Go Go.Eng

/-! checks -/
theorem stampF_eq (s : Stamp) : ∃ r, twin_stampFault s = some r ∧ Q_StampFault s = some r := by
  unfold twin_stampFault Q_StampFault
  rw [Moment_eq, QMoment_eq, Key_eq, QKey_eq, Out_not_in]
  simp only [Option.bind_some]
  repeat' split
  all_goals exact ⟨_, rfl, rfl⟩
/-- The name of a cell. -/
def cN (c : Cell) : Str := c.Prop_.Name
theorem cid_step {α : Type} (id : α → Str) {l : List α} {n : Int} {v : α} (h0 : 0 ≤ n) (hv : idx l n = some v) (hs : SId id (l.take n.toNat)) (hp : ∀ x, 0 < n → idx l (n - 1) = some x → Lib.compareBytes (id x) (id v) < 0) : SId id (l.take (n + 1).toNat) := by
  have g1 := (idx_some hv).2.2
  have e : (n + 1).toNat = n.toNat + 1 := by omega
  obtain ⟨hn, hg⟩ := List.getElem?_eq_some_iff.1 g1
  rw [e, List.take_succ_eq_append_getElem hn]
  unfold SId at hs ⊢
  rw [List.pairwise_append]
  refine ⟨hs, List.pairwise_singleton _ _, fun a ha b hb => ?_⟩
  rw [List.mem_singleton] at hb
  subst hb
  rw [hg]
  obtain ⟨i, hi, rfl⟩ := List.getElem_of_mem ha
  have hi' : i < n.toNat := by simp at hi; omega
  obtain ⟨z, hz, _, _⟩ := idx_lt l (i := n - 1) (by omega) (by omega)
  have g2 := (idx_some hz).2.2
  obtain ⟨hn2, hg2⟩ := List.getElem?_eq_some_iff.1 g2
  have hlast := hp z (by omega) hz
  by_cases c : i = (n - 1).toNat
  · subst c
    rw [List.getElem_take, hg2]; exact hlast
  · have := List.pairwise_iff_getElem.1 hs i (n - 1).toNat hi (by simp; omega) (by omega)
    rw [List.getElem_take (j := n.toNat) (i := (n - 1).toNat), hg2] at this
    exact cmpB_tr this hlast
theorem cerrs_two (c : List Cell) (n : Int) (v : Cell) (a b : Int) : Q_CellsFault_l2 c n v a b 0 = if orL [a, b] ≠ 0 then some (.inr (orL [a, b])) else Q_CellsFault_k2 c n v := by
  unfold Q_CellsFault_l2
  rw [iter_eq]
  show Option.bind (Q_CellsFault_b2 c n v a b 0) _ = _
  unfold Q_CellsFault_b2
  rw [if_pos (by simp), show idx [a, b] 0 = some a from rfl]
  simp only [Option.bind_some]
  by_cases ha : a = 0
  · subst ha
    rw [if_neg (by simp)]
    show iter _ (1 : Int) = _
    rw [iter_eq]
    show Option.bind (Q_CellsFault_b2 c n v 0 b 1) _ = _
    unfold Q_CellsFault_b2
    rw [if_pos (by simp), show idx [0, b] 1 = some b from rfl]
    simp only [Option.bind_some]
    by_cases hb : b = 0
    · subst hb
      rw [if_neg (by simp)]
      show iter _ (2 : Int) = _
      rw [iter_eq]
      show Option.bind (Q_CellsFault_b2 c n v 0 0 2) _ = _
      unfold Q_CellsFault_b2
      rw [if_neg (by simp), if_neg (by simp [orL])]
      cases Q_CellsFault_k2 c n v <;> rfl
    · rw [if_pos hb]
      have : orL [0, b] = b := by simp [orL, hb]
      rw [this, if_pos hb]; rfl
  · rw [if_pos ha]
    have : orL [a, b] = a := by simp [orL, ha]
    rw [this, if_pos ha]; rfl
theorem CheckCells_eqW (c : List Cell) (hl : c.length ≤ 1000000) (hb : ∀ v ∈ c, (cN v).length ≤ 500000 ∧ v.Prop_.Value.Words.length ≤ 500000) : ∃ r, twin_CheckCells c = some r ∧ Q_CellsFault c = some r ∧ (r = 0 → SId cN c ∧ c.length ≤ 500) := by
  unfold twin_CheckCells Q_CellsFault
  by_cases h5 : (500 : Int) < (c.length : Int)
  · rw [if_pos h5, if_pos h5]; exact ⟨2, rfl, rfl, fun h => by omega⟩
  rw [if_neg h5, if_neg h5]
  have key : ∃ r, twin_CheckCells_l1 c 0 = some r ∧ Q_CellsFault_l1 c 0 = some r ∧ (r = 0 → SId cN c) := by
    unfold twin_CheckCells_l1 Q_CellsFault_l1
    refine iter_two _ _ (fun n : Int => (c.length - n).toNat) (fun n : Int => 0 ≤ n ∧ n ≤ c.length ∧ SId cN (c.take n.toNat)) (fun r => r = 0 → SId cN c) ?_ (c.length + 1) 0 (by omega) ⟨by omega, by omega, by simp [SId]⟩
    rintro n ⟨h0, h1, h2⟩
    unfold twin_CheckCells_b1 Q_CellsFault_b1
    by_cases hn : n < c.length
    · obtain ⟨v, hv, hm, _⟩ := idx_lt c h0 hn
      obtain ⟨b1, b2⟩ := hb v hm
      unfold cN at b1
      rw [if_pos hn, if_pos hn, hv]
      simp only [Option.bind_some]
      rw [isName_eq (by omega), QPropName_eq (by omega)]
      simp only [Option.bind_some]
      by_cases hd : (!dotB 8 v.Prop_.Name) = true
      · right; rw [if_pos hd, if_pos hd]; exact ⟨5, rfl, rfl, fun h => by omega⟩
      rw [if_neg hd, if_neg hd, valueFault_eq _ (by omega)]
      obtain ⟨e1, he1⟩ := vf_tot v.Prop_.Value (by omega)
      obtain ⟨e2, he2, he3⟩ := stampF_eq v.Stamp
      rw [he1, he2, he3]
      simp only [Option.bind_some]
      rw [First_eq _ (by simp), cerrs_two]
      simp only [Option.bind_some]
      by_cases h6 : orL [e1, e2] ≠ 0
      · right; rw [if_pos h6, if_pos h6]; exact ⟨_, rfl, rfl, fun h => absurd h h6⟩
      rw [if_neg h6, if_neg h6]
      unfold Q_CellsFault_k2
      by_cases hp : 0 < n
      · rw [if_pos hp, if_pos hp, w64_in (x := n - 1) (by omega) (by omega)]
        obtain ⟨z, hz, _, _⟩ := idx_lt c (i := n - 1) (by omega) (by omega)
        rw [hz]
        simp only [Option.bind_some]
        unfold twin_CheckCells_j1 Q_CellsFault_j1
        by_cases ho : (Op.bytesLess v.Prop_.Name z.Prop_.Name || v.Prop_.Name == z.Prop_.Name) = true
        · right; rw [if_pos ho]; exact ⟨7, rfl, rfl, fun h => by omega⟩
        · left; rw [if_neg ho, w64_in (by omega) (by omega)]
          refine ⟨_, rfl, rfl, ⟨by omega, by omega, cid_step cN h0 hv h2 fun x _ hx => ?_⟩, by omega⟩
          rw [hz] at hx
          obtain rfl := Option.some.inj hx
          rw [less_iff] at ho
          have ho' : ¬ Lib.compareBytes v.Prop_.Name z.Prop_.Name < 0 ∧ ¬ v.Prop_.Name = z.Prop_.Name := by simpa using ho
          have hneg := cmpB_neg v.Prop_.Name z.Prop_.Name
          have hz0 : Lib.compareBytes v.Prop_.Name z.Prop_.Name ≠ 0 := fun h => ho'.2 (cmpB_zero h)
          show Lib.compareBytes z.Prop_.Name v.Prop_.Name < 0
          omega
      · rw [if_neg hp, if_neg hp]
        left
        unfold twin_CheckCells_j1 Q_CellsFault_j1
        rw [if_neg (by simp), w64_in (by omega) (by omega)]
        exact ⟨_, rfl, rfl, ⟨by omega, by omega, cid_step cN h0 hv h2 fun x h _ => absurd h hp⟩, by omega⟩
    · rw [if_neg hn, if_neg hn]
      have hlen : n.toNat = c.length := by omega
      rw [hlen, List.take_length] at h2
      right
      exact ⟨0, rfl, rfl, fun _ => h2⟩
  obtain ⟨r, g1, g2, g3⟩ := key
  exact ⟨r, g1, g2, fun h => ⟨g3 h, by omega⟩⟩
end Go.Beacon

/- The properties under a name. No program in sight. -/
set_option linter.unusedVariables false
set_option linter.unusedSimpArgs false
namespace Go.Beacon
open Go Go.Eng

end Go.Beacon

/- PropsTell but for its generators. No program in sight. -/
set_option linter.unusedVariables false
set_option linter.unusedSimpArgs false
namespace Go.Beacon
open Go Go.Eng

end Go.Beacon

/- The generators of properties. No program in sight. -/
set_option linter.unusedVariables false
set_option linter.unusedSimpArgs false
namespace Go.Beacon
open Go Go.Eng

theorem mem_len {l : List Str} {n : Nat} (h : l.all (fun s => decide (s.length ≤ n)) = true) {v : Str} (hv : v ∈ l) : v.length ≤ n := by
  have := List.all_eq_true.1 h v hv
  simpa using this
theorem repA : repeatO ([97] : Str) (41 : Int) = some (Lib.repeatL ([97] : Str) (41 : Int).toNat) := by unfold repeatO; rw [if_pos ⟨by omega, by omega, by decide⟩]
theorem repW : repeatO ([119] : Str) (1001 : Int) = some (Lib.repeatL ([119] : Str) (1001 : Int).toNat) := by unfold repeatO; rw [if_pos ⟨by omega, by omega, by decide⟩]
theorem PropName_k {s : Stm} {K : Int} (hs : SOk s K) (hK : 2 ≤ K) : Gen (Stream_PropName s) (K - 2) (fun t => t.length ≤ 1000) := by
  refine Gen.of ?_
  unfold Stream_PropName
  refine Ok.gen (Flip_k hs (by omega) (by omega) (by omega)) (fun c s1 _ q1 => ?_)
  dsimp only
  split
  · rw [repA]
    simp only [Option.bind_some]
    refine Ok.gen (Some_k q1 (by omega) (by simp) (by simp)) (fun t s2 ht q2 => ?_)
    exact Ok.ret ⟨mem_len (by decide) ht, q2.less (by omega)⟩
  · refine Ok.gen (Some_k q1 (by omega) (by simp) (by simp)) (fun t s2 ht q2 => ?_)
    exact Ok.ret ⟨mem_len (by decide) ht, q2.less (by omega)⟩
/-- Few and short properties. -/
def PF (k : Nat) (l : List PropS) : Prop := l.length ≤ k ∧ ∀ p ∈ l, p.Name.length ≤ 1000 ∧ p.Value.Words.length ≤ 1001
theorem PF.snoc {k : Nat} {l : List PropS} {n : Str} {v : ValueS} (h : PF k l) (hn : n.length ≤ 1000) (hv : v.Words.length ≤ 1001) : PF (k + 1) (l ++ [⟨n, v⟩]) :=
  ⟨by have := h.1; simp; omega, fun p hp => by
    rcases List.mem_append.1 hp with e | e
    · exact h.2 p e
    · rw [List.mem_singleton] at e; subst e; exact ⟨hn, hv⟩⟩
end Go.Beacon

/- PropsTell: the law. No program in sight. -/
set_option linter.unusedVariables false
set_option linter.unusedSimpArgs false
namespace Go.Beacon
open Go Go.Eng

end Go.Beacon

/- The package twin compares: twinned. No program in sight. -/
set_option linter.unusedVariables false
set_option linter.unusedSimpArgs false
namespace Go.Beacon
open Go Go.Eng

def pA : PropS := ⟨[97], ⟨1, false, 0, []⟩⟩
theorem chk_nil : twin_CheckProps [] = some 0 := by
  unfold twin_CheckProps
  rw [if_neg (by simp)]
  unfold twin_CheckProps_l1
  rw [iter_eq]
  show Option.bind (twin_CheckProps_b1 [] 0) _ = _
  unfold twin_CheckProps_b1
  rw [if_neg (by simp)]
  unfold twin_CheckProps_l2
  rw [iter_eq]
  show Option.bind (Option.map _ (Option.bind (twin_CheckProps_b2 [] 0) _)) _ = _
  unfold twin_CheckProps_b2
  rw [if_neg (by simp)]
  rfl
theorem sn_one : SN [pA] := List.pairwise_singleton _ _
theorem vf_one : twin_valueFault pA.Value = some 0 := by
  rw [valueFault_eq _ (by simp [pA])]
  unfold Q_ValueFault pA
  rw [if_neg (by decide), if_pos rfl]
  unfold Q_ValueFault_j1
  rw [if_neg (by simp), if_neg (by decide), if_neg (by simp), Printed_eq _ (by simp)]
  rfl
theorem chk_one : twin_CheckProps [pA] = some 0 := by
  unfold twin_CheckProps
  rw [if_neg (by simp)]
  unfold twin_CheckProps_l1
  rw [iter_eq]
  show Option.bind (twin_CheckProps_b1 [pA] 0) _ = _
  have b0 : twin_CheckProps_b1 [pA] 0 = some (.inl 1) := by
    unfold twin_CheckProps_b1
    rw [if_pos (by simp), show idx [pA] 0 = some pA from rfl]
    simp only [Option.bind_some]
    rw [isName_eq (by simp [pA]), show dotB 8 pA.Name = true by decide]
    simp only [Option.bind_some]
    rw [if_neg (by simp), vf_one]
    simp only [Option.bind_some]
    rw [if_neg (by simp), if_neg (by simp [pA]), if_neg (by simp)]
    rfl
  rw [b0]
  show iter _ (1 : Int) = _
  rw [iter_eq]
  show Option.bind (twin_CheckProps_b1 [pA] 1) _ = _
  have l2 : twin_CheckProps_l2 [pA] 0 = some 0 := by
    unfold twin_CheckProps_l2
    rw [iter_eq]
    show Option.bind (twin_CheckProps_b2 [pA] 0) _ = _
    have c0 : twin_CheckProps_b2 [pA] 0 = some (.inl 1) := by
      unfold twin_CheckProps_b2
      rw [if_pos (by simp), show idx [pA] 0 = some pA from rfl]
      simp only [Option.bind_some]
      obtain ⟨r, h1, h2⟩ := above_eq pA.Name (by simp [pA]) (fun y0 => twin_CheckProps_1x y0 [pA]) (fun s => [pA].any fun q => decide (q.Name = s)) (fun s => has_eq [pA] (by simp) sn_one s)
      rw [h1]
      simp only [Option.bind_some]
      have hr : ¬ r = true := by
        intro h
        obtain ⟨i, g, _⟩ := h2.1 h
        match i, g with
        | 0, g => simp [pA] at g
        | i + 1, g => simp [pA] at g
      rw [if_neg hr]
      rfl
    rw [c0]
    show iter _ (1 : Int) = _
    rw [iter_eq]
    show Option.bind (twin_CheckProps_b2 [pA] 1) _ = _
    unfold twin_CheckProps_b2
    rw [if_neg (by simp)]
    rfl
  unfold twin_CheckProps_b1
  rw [if_neg (by simp), l2]
  rfl
theorem val_nil (s : Str) : twin_valueOf [] s = some ⟨0, false, 0, []⟩ := by
  obtain ⟨r, h1, h2⟩ := find_eq [] (by simp) List.Pairwise.nil s
  unfold twin_valueOf
  rw [h1]
  rcases h2 with ⟨p, _, g, _⟩ | ⟨rfl, _⟩
  · exact absurd (idx_mem g) (by simp)
  · rfl
theorem val_one : twin_valueOf [pA] [97] = some pA.Value := by
  obtain ⟨r, h1, h2⟩ := find_eq [pA] (by simp) sn_one [97]
  unfold twin_valueOf
  rw [h1]
  simp only [Option.bind_some]
  rcases h2 with ⟨p, g0, g, _⟩ | ⟨_, g⟩
  · have := idx_mem g
    rw [List.mem_singleton] at this
    subst this
    rw [if_pos g0, g]; rfl
  · exact absurd rfl (g pA (by simp))
theorem names_one : twin_names [[], [pA]] = some [[97]] := by
  unfold twin_names twin_names_l1
  rw [iter_eq]
  show Option.bind (twin_names_b1 [[], [pA]] [] 0) _ = _
  have s0 : twin_names_b1 [[], [pA]] [] 0 = some (.inl ([], 1)) := by
    unfold twin_names_b1
    rw [if_pos (by simp), show idx [[], [pA]] 0 = some [] from rfl]
    simp only [Option.bind_some]
    unfold twin_names_l2
    rw [iter_eq]
    show Option.bind (twin_names_b2 0 [] [] 0) _ = _
    unfold twin_names_b2
    rw [if_neg (by simp)]
    rfl
  rw [s0]
  show iter _ (([] : List Str), (1 : Int)) = _
  rw [iter_eq]
  show Option.bind (twin_names_b1 [[], [pA]] [] 1) _ = _
  have s1 : twin_names_b1 [[], [pA]] [] 1 = some (.inl ([[97]], 2)) := by
    unfold twin_names_b1
    rw [if_pos (by simp), show idx [[], [pA]] 1 = some [pA] from rfl]
    simp only [Option.bind_some]
    unfold twin_names_l2
    rw [iter_eq]
    show Option.bind (twin_names_b2 1 [pA] [] 0) _ = _
    have t0 : twin_names_b2 1 [pA] [] 0 = some (.inl ([[97]], 1)) := by
      unfold twin_names_b2
      rw [if_pos (by simp), show idx [pA] 0 = some pA from rfl]
      rfl
    rw [t0]
    show iter _ (([[97]] : List Str), (1 : Int)) = _
    rw [iter_eq]
    show Option.bind (twin_names_b2 1 [pA] [[97]] 1) _ = _
    unfold twin_names_b2
    rw [if_neg (by simp)]
    rfl
  rw [s1]
  show iter _ (([[97]] : List Str), (2 : Int)) = _
  rw [iter_eq]
  show Option.bind (twin_names_b1 [[], [pA]] [[97]] 2) _ = _
  unfold twin_names_b1
  rw [if_neg (by simp)]
  unfold twin_names_k1 slices_Sort_string_string sort1 lenOk srtS
  rw [if_pos (by simp), List.mergeSort_singleton]
  rfl
theorem twinned_eq : L_twinned = some true := by
  have hd : twin_Differ [] [pA] = some ([⟨[97], ⟨0, false, 0, []⟩, pA.Value⟩], 0) := by
    unfold twin_Differ
    rw [chk_nil, chk_one]
    simp only [Option.bind_some]
    rw [show base_First [0, 0] = some (orL [0, 0]) from gOr_eq _ (by simp), show orL [0, 0] = 0 from rfl]
    simp only [Option.bind_some]
    rw [if_neg (by simp), names_one]
    simp only [Option.bind_some]
    unfold twin_Differ_l1
    rw [iter_eq]
    show Option.bind (twin_Differ_b1 [] [pA] [[97]] [] 0) _ = _
    have t0 : twin_Differ_b1 [] [pA] [[97]] [] 0 = some (.inl ([⟨[97], ⟨0, false, 0, []⟩, pA.Value⟩], 1)) := by
      unfold twin_Differ_b1
      rw [if_pos (by simp), show idx ([[97]] : List Str) 0 = some [97] from rfl]
      simp only [Option.bind_some]
      rw [val_nil, val_one]
      simp only [Option.bind_some]
      rw [if_pos (by simp [pA])]
      rfl
    rw [t0]
    show iter _ (([⟨[97], ⟨0, false, 0, []⟩, pA.Value⟩] : List Change), (1 : Int)) = _
    rw [iter_eq]
    show Option.bind (twin_Differ_b1 [] [pA] [[97]] [⟨[97], ⟨0, false, 0, []⟩, pA.Value⟩] 1) _ = _
    unfold twin_Differ_b1
    rw [if_neg (by simp)]
    rfl
  unfold L_twinned
  rw [show (⟨([97] : Str), (⟨(1 : Int), false, (0 : Int), []⟩ : ValueS)⟩ : PropS) = pA from rfl, hd]
  rfl
end Go.Beacon

/- Visible and compact cells; the generator of cells. No program in sight. -/
set_option linter.unusedVariables false
set_option linter.unusedSimpArgs false
namespace Go.Beacon
open Go Go.Eng

/-! the generator -/
def CG (k : Nat) (l : List Cell) : Prop := l.length ≤ k ∧ ∀ c ∈ l, (cN c).length ≤ 1000 ∧ c.Prop_.Value.Words.length ≤ 1001 ∧ (-1099511627777 ≤ c.Stamp.At ∧ c.Stamp.At ≤ 1099511627777) ∧ (-1099511627777 ≤ c.Stamp.No ∧ c.Stamp.No ≤ 1099511627777)
theorem CG.snoc {k : Nat} {l : List Cell} (h : CG k l) {c : Cell} (hc : (cN c).length ≤ 1000 ∧ c.Prop_.Value.Words.length ≤ 1001 ∧ (-1099511627777 ≤ c.Stamp.At ∧ c.Stamp.At ≤ 1099511627777) ∧ (-1099511627777 ≤ c.Stamp.No ∧ c.Stamp.No ≤ 1099511627777)) : CG (k + 1) (l ++ [c]) :=
  ⟨by have := h.1; simp; omega, fun x hx => by
    rcases List.mem_append.1 hx with e | e
    · exact h.2 x e
    · rw [List.mem_singleton] at e; subst e; exact hc⟩
def ZC : Cell := ⟨⟨[], ⟨0, false, 0, []⟩⟩, ⟨0, [], 0⟩⟩
theorem cstable_gen (cf : Cell → Cell → Int) (h3 : Cmp3 cf) (f : Cell → Cell → Option Int) (xs : List Cell) (hl : (xs.length : Int) < 20) (hf : ∀ x ∈ xs, ∀ y ∈ xs, f x y = some (cf x y)) : ∃ Z, lenOk xs.length (fun r : List Cell => r.length) (slices_SortStableFunc_Cell_Cell xs f) = some Z ∧ Z.Perm xs ∧ Srt cf Z := by
  obtain ⟨Z, h1, h2, h3⟩ := gIns_eq f cf xs (by omega) hf (h3.ord xs)
  have h1' : slices_insertionSortCmpFunc_Cell xs 0 xs.length f = some Z := h1
  have hlen := h2.length_eq
  refine ⟨Z, ?_, h2, h3⟩
  have hs : slices_stableCmpFunc_Cell xs xs.length f = some Z := by
    unfold slices_stableCmpFunc_Cell slices_stableCmpFunc_Cell_l1
    rw [iter_eq, slices_stableCmpFunc_Cell_b1, if_neg (by simp only; omega), map_inr_after]
    unfold slices_stableCmpFunc_Cell_k3
    simp only
    rw [len_ok h1' hlen]
    simp only [Option.bind_some]
    unfold slices_stableCmpFunc_Cell_l2
    rw [iter_eq, slices_stableCmpFunc_Cell_b2, if_neg (by simp only; omega), map_inr_after]
  refine len_ok ?_ hlen
  unfold slices_SortStableFunc_Cell_Cell
  rw [len_ok hs hlen]; rfl
theorem cstable_len (f : Cell → Cell → Option Int) (xs : List Cell) (hl : (xs.length : Int) < 20) (hf : ∀ x ∈ xs, ∀ y ∈ xs, f x y = some (cellOrder x y)) : ∃ Z, lenOk xs.length (fun r : List Cell => r.length) (slices_SortStableFunc_Cell_Cell xs f) = some Z ∧ Z.Perm xs ∧ Srt cellOrder Z :=
  cstable_gen cellOrder (cmpB_3.on cN) f xs hl hf
theorem ccompactF_eq (f : Cell → Cell → Option Bool) (e : Cell → Cell → Bool) (xs : List Cell) (hl : (xs.length : Int) ≤ 100000) (hf : ∀ x ∈ xs, ∀ y ∈ xs, f x y = some (e x y)) : slices_CompactFunc_Cell_Cell xs f = some (dd e xs) := gCptF_eq ZC f e xs hl hf
theorem CG.perm {k : Nat} {l Z : List Cell} (h : CG k l) (hp : Z.Perm l) : CG k Z := ⟨by rw [hp.length_eq]; exact h.1, fun c hc => h.2 c (hp.mem_iff.1 hc)⟩
theorem CG.sub {k : Nat} {l Z : List Cell} (h : CG k l) (hp : Z.Sublist l) : CG k Z := ⟨Nat.le_trans hp.length_le h.1, fun c hc => h.2 c (hp.subset hc)⟩
end Go.Beacon

/- CellTexts: the law. No program in sight. -/
set_option linter.unusedVariables false
set_option linter.unusedSimpArgs false
namespace Go.Beacon
open Go Go.Eng

/-! writing -/
def valL (v : ValueS) : Str := if v.Kind = 1 then (if v.Flag = true then [121, 101, 115] else [110, 111]) else if v.Kind = 2 then Lib.itoa v.Number else if v.Kind = 3 then quoS v.Words else [45]
/-- Values that may be written. -/
def VW (v : ValueS) : Prop := v.Words.length ≤ 1001 ∧ NB v.Number
theorem quoS_lenC (s : Str) : (quoS s).length ≤ 2 * s.length + 2 := by
  have := esc_len s
  unfold quoS; simp; omega
theorem valL_len {v : ValueS} (h : VW v) : (valL v).length ≤ 2004 := by
  have h1 := quoS_lenC v.Words
  have h2 := h.1
  have h3 := (itoa_nb h.2).2
  unfold valL
  split
  · split <;> simp
  · split
    · omega
    · split
      · omega
      · simp
theorem valueText_eq {v : ValueS} (h : VW v) : twin_valueText v = some (valL v) ∧ Q_ValueText v = some (valL v) := by
  have h1 := h.1
  unfold twin_valueText Q_ValueText valL
  rw [(itoa_nb h.2).1, Quote_eq _ (by omega), Quoted_eq _ (by omega)]
  simp only [Option.bind_some]
  repeat' split
  all_goals exact ⟨rfl, rfl⟩
def WC (c : Cell) : Prop := (cN c).length ≤ 1000 ∧ VW c.Prop_.Value ∧ NB c.Stamp.At ∧ NB c.Stamp.No ∧ c.Stamp.By.length ≤ 1000
def celL (c : Cell) : Str := cN c ++ [32] ++ Lib.itoa c.Stamp.At ++ [32] ++ c.Stamp.By ++ [32] ++ Lib.itoa c.Stamp.No ++ [32] ++ valL c.Prop_.Value ++ [10]
def celT (l : List Cell) : Str := l.flatMap celL
theorem celL_len {c : Cell} (h : WC c) : (celL c).length ≤ 5000 := by
  obtain ⟨h1, h2, h3, h4, h5⟩ := h
  have e1 := valL_len h2
  have e2 := (itoa_nb h3).2
  have e3 := (itoa_nb h4).2
  unfold celL
  simp only [List.length_append, List.length_cons, List.length_nil]
  omega
def WL (l : List Cell) : Prop := l.length ≤ 8 ∧ ∀ c ∈ l, WC c
theorem celT_take {l : List Cell} (h : WL l) (n : Nat) : (celT (l.take n)).length ≤ 5000 * n := by
  have key : ∀ k : List Cell, (∀ s ∈ k, s ∈ l) → (celT k).length ≤ 5000 * k.length := by
    intro k
    induction k with
    | nil => intro _; simp [celT]
    | cons x k ih =>
      intro hk
      have h1 := celL_len (h.2 x (hk x (by simp)))
      have h2 := ih (fun s hs => hk s (List.mem_cons_of_mem _ hs))
      unfold celT at h2 ⊢
      rw [List.flatMap_cons, List.length_append, List.length_cons]
      omega
  have := key (l.take n) (fun s hs => List.mem_of_mem_take hs)
  have h2 : (l.take n).length ≤ n := by simp; omega
  omega
theorem celT_snoc {l : List Cell} {n : Nat} (h : n < l.length) : celT (l.take (n + 1)) = celT (l.take n) ++ celL l[n] := by
  rw [List.take_succ_eq_append_getElem h]; unfold celT; rw [List.flatMap_append]; simp
theorem TText_l1 (l : List Cell) (h : WL l) : twin_Text_l1 l [] 0 = some (celT l, 0) := by
  have hl := h.1
  unfold twin_Text_l1
  refine iter_to _ (fun x : Str × Int => (l.length - x.2).toNat) (fun x : Str × Int => 0 ≤ x.2 ∧ x.2 ≤ l.length ∧ x.1 = celT (l.take x.2.toNat)) _ ?_ _ ⟨by simp, by simp, by simp [celT]⟩
  rintro ⟨X, n⟩ ⟨g0, g1, g2⟩
  simp only at g0 g1 g2 ⊢
  unfold twin_Text_b1
  by_cases hn : n < l.length
  · left
    obtain ⟨v, hv, hm, _⟩ := idx_lt l g0 hn
    obtain ⟨hn', hg'⟩ := List.getElem?_eq_some_iff.1 (idx_some hv).2.2
    have e : (n + 1).toNat = n.toNat + 1 := by omega
    have hw := h.2 v hm
    have hX := celT_take h n.toNat
    rw [← g2] at hX
    obtain ⟨h1, h2, h3, h4, h5⟩ := hw
    unfold cN at h1
    have e1 := valL_len h2
    have e2 := itoa_nb h3
    have e3 := itoa_nb h4
    have e4 := e2.2
    have e5 := e3.2
    rw [if_pos hn, hv]
    simp only [Option.bind_some]
    rw [cat_le (by simp only [List.length_append, List.length_cons, List.length_nil]; omega), e2.1, e3.1, (valueText_eq h2).1]
    simp only [Option.bind_some]
    iterate 8
      rw [cat_le (by simp only [List.length_append, List.length_cons, List.length_nil]; omega)]
      simp only [Option.bind_some]
    unfold bldW
    rw [if_pos (by simp only [List.length_append, List.length_cons, List.length_nil]; omega), w64_in (by omega) (by omega)]
    refine ⟨_, rfl, ⟨by simp only; omega, by simp only; omega, ?_⟩, by simp only; omega⟩
    simp only
    rw [e, celT_snoc hn', g2, hg']
    rfl
  · right
    have ht : (celT l).length ≤ 200000 := by
      have := celT_take h l.length
      rw [List.take_length] at this
      omega
    rw [if_neg hn, g2, List.take_of_length_le (by omega)]
    unfold twin_Text_k1
    rw [if_neg (by omega)]
theorem CellLines_eq (l : List Cell) (h : WL l) : Q_CellLines l = some (celT l) := by
  have hl := h.1
  unfold Q_CellLines Q_CellLines_l1
  refine iter_to _ (fun x : Str × Int => (l.length - x.2).toNat) (fun x : Str × Int => 0 ≤ x.2 ∧ x.2 ≤ l.length ∧ x.1 = celT (l.take x.2.toNat)) _ ?_ _ ⟨by simp, by simp, by simp [celT]⟩
  rintro ⟨X, n⟩ ⟨g0, g1, g2⟩
  simp only at g0 g1 g2 ⊢
  unfold Q_CellLines_b1
  by_cases hn : n < l.length
  · left
    obtain ⟨v, hv, hm, _⟩ := idx_lt l g0 hn
    obtain ⟨hn', hg'⟩ := List.getElem?_eq_some_iff.1 (idx_some hv).2.2
    have e : (n + 1).toNat = n.toNat + 1 := by omega
    have hw := h.2 v hm
    have hX := celT_take h n.toNat
    rw [← g2] at hX
    obtain ⟨h1, h2, h3, h4, h5⟩ := hw
    unfold cN at h1
    have e1 := valL_len h2
    have e2 := itoa_nb h3
    have e3 := itoa_nb h4
    have e4 := e2.2
    have e5 := e3.2
    rw [if_pos hn, hv]
    simp only [Option.bind_some]
    rw [e2.1, e3.1, (valueText_eq h2).2]
    simp only [Option.bind_some]
    rw [Join_eq [32] (by simp) _ (by simp) (fun s hs => by
      simp only [List.mem_cons, List.not_mem_nil, or_false] at hs
      rcases hs with e | e | e | e | e <;> subst e <;> omega)]
    simp only [Option.bind_some, joinW, List.flatMap_cons, List.flatMap_nil]
    iterate 2
      rw [cat_le (by simp only [List.length_append, List.length_cons, List.length_nil]; omega)]
      simp only [Option.bind_some]
    rw [w64_in (by omega) (by omega)]
    refine ⟨_, rfl, ⟨by simp only; omega, by simp only; omega, ?_⟩, by simp only; omega⟩
    simp only
    rw [e, celT_snoc hn', g2, hg']
    simp [celL, cN]
  · right
    rw [if_neg hn, g2, List.take_of_length_le (by omega)]
/-! reading -/
def valP (s : Str) : Option ValueS := if s = [45] then some ⟨0, false, 0, []⟩ else if s = [121, 101, 115] ∨ s = [110, 111] then some ⟨1, decide (s = [121, 101, 115]), 0, []⟩ else match numT s 15 with
  | some n => some ⟨2, false, n, []⟩
  | none => (unqS s).map fun w => ⟨3, false, 0, w⟩
theorem readValue_eq (s : Str) (hs : s.length ≤ 1000000) : ∃ z, twin_readValue s = some z ∧ z.2 = (valP s).isSome ∧ ∀ v, valP s = some v → z.1 = v := by
  unfold twin_readValue valP
  by_cases h0 : s = [45]
  · rw [if_pos h0, if_pos h0]
    exact ⟨_, rfl, rfl, fun v h => Option.some.inj h⟩
  · rw [if_neg h0, if_neg h0]
    have hj : (if s = ([121, 101, 115] : Str) then twin_readValue_j1 s (decide (s = ([121, 101, 115] : Str))) else twin_readValue_j1 s (decide (s = ([110, 111] : Str)))) = twin_readValue_j1 s (decide (s = [121, 101, 115] ∨ s = [110, 111])) := by
      by_cases h1 : s = [121, 101, 115]
      · rw [if_pos h1, decide_eq_true h1, decide_eq_true (.inl h1)]
      · rw [if_neg h1]; simp [h1]
    rw [hj]
    unfold twin_readValue_j1
    by_cases h1 : s = [121, 101, 115] ∨ s = [110, 111]
    · rw [decide_eq_true h1, if_pos rfl, if_pos h1]
      exact ⟨_, rfl, rfl, fun v h => Option.some.inj h⟩
    · rw [decide_eq_false h1, if_neg (by simp), if_neg h1]
      rw [show (15 : Int) = ((15 : Nat) : Int) from rfl, Number_eq s 15 (by omega)]
      simp only [Option.bind_some]
      cases hn : numT s 15 with
      | some n => exact ⟨_, rfl, rfl, fun v h => Option.some.inj h⟩
      | none =>
        simp only
        rw [if_neg (by simp), Unquote_eq s hs]
        simp only [Option.bind_some]
        cases unqS s with
        | some o => exact ⟨_, rfl, rfl, fun v h => Option.some.inj h⟩
        | none => exact ⟨_, rfl, rfl, fun v h => by cases h⟩
theorem QreadValue_eq (s : Str) (hs : s.length ≤ 300000) : ∃ z, Q_readValue s = some z ∧ z.2 = (valP s).isSome ∧ ∀ v, valP s = some v → z.1 = v := by
  unfold Q_readValue valP
  by_cases h0 : s = [45]
  · rw [if_pos h0, if_pos h0]
    exact ⟨_, rfl, rfl, fun v h => Option.some.inj h⟩
  · rw [if_neg h0, if_neg h0]
    have hj : ((decide (s = ([121, 101, 115] : Str))) || (decide (s = ([110, 111] : Str)))) = decide (s = [121, 101, 115] ∨ s = [110, 111]) := by
      rw [Bool.eq_iff_iff]; simp
    rw [hj]
    unfold Q_readValue_j1
    by_cases h1 : s = [121, 101, 115] ∨ s = [110, 111]
    · rw [decide_eq_true h1, if_pos rfl, if_pos h1]
      exact ⟨_, rfl, rfl, fun v h => Option.some.inj h⟩
    · rw [decide_eq_false h1, if_neg (by simp), if_neg h1]
      obtain ⟨m, q1, q2⟩ := QNumber_15 s
      rw [q1]
      simp only [Option.bind_some]
      cases hn : numT s 15 with
      | some n =>
        have := q2 n hn
        subst this
        exact ⟨_, rfl, rfl, fun v h => Option.some.inj h⟩
      | none =>
        simp only
        obtain ⟨z, z1, z2, z3⟩ := Unquoted_eq s hs
        rw [if_neg (by simp), z1]
        simp only [Option.bind_some]
        refine ⟨_, rfl, ?_, fun v h => ?_⟩
        · show z.2 = _
          rw [z2]; cases unqS s <;> rfl
        · obtain ⟨o, ho, rfl⟩ := Option.map_eq_some_iff.1 h
          rw [z3 o ho]
theorem unqS_lenC {s o : Str} (h : unqS s = some o) : o.length ≤ s.length := by
  unfold unqS at h
  split at h
  · split at h
    · have := unq_len _ _ o (Nat.le_refl _) h
      simp at this ⊢; omega
    · cases h
  · cases h
theorem valP_len {s : Str} {v : ValueS} (h : valP s = some v) : v.Words.length ≤ s.length := by
  unfold valP at h
  split at h
  · obtain rfl := Option.some.inj h; simp
  · split at h
    · obtain rfl := Option.some.inj h; simp
    · split at h
      · obtain rfl := Option.some.inj h; simp
      · obtain ⟨o, ho, rfl⟩ := Option.map_eq_some_iff.1 h
        exact unqS_lenC ho
def cellP (s : Str) : Option Cell := match splitN 32 4 s with
  | [a, b, c, d, e] => if a = [] ∨ c = [] then none else match numT b 15, numT d 15, valP e with
    | some n, some m, some v => some ⟨⟨a, v⟩, ⟨n, c, m⟩⟩
    | _, _, _ => none
  | _ => none
theorem five_ofC {L : List Str} (h : L.length = 5) : ∃ a b c d e, L = [a, b, c, d, e] := by
  match L, h with
  | [a, b, c, d, e], _ => exact ⟨a, b, c, d, e, rfl⟩
theorem cellP_len {s : Str} (h : (splitN 32 4 s).length ≠ 5) : cellP s = none := by
  unfold cellP
  split
  · rename_i e; rw [e] at h; exact absurd rfl h
  · rfl
theorem cellP_five {s a b c d e : Str} (q : splitN 32 4 s = [a, b, c, d, e]) : cellP s = if a = [] ∨ c = [] then none else match numT b 15, numT d 15, valP e with
    | some n, some m, some v => some ⟨⟨a, v⟩, ⟨n, c, m⟩⟩
    | _, _, _ => none := by
  unfold cellP
  rw [q]
theorem cellP_B {s : Str} {x : Cell} (h : cellP s = some x) : (cN x).length ≤ s.length ∧ x.Prop_.Value.Words.length ≤ s.length := by
  by_cases hl : (splitN 32 4 s).length = 5
  · obtain ⟨a, b, c, d, e, q⟩ := five_ofC hl
    have hpl := (splitN_len 32 4 s).2
    rw [q] at hpl
    have ha := hpl a (by simp)
    have he := hpl e (by simp)
    rw [cellP_five q] at h
    split at h
    · cases h
    · split at h
      · rename_i v _ _ hv
        obtain rfl := Option.some.inj h
        have := valP_len hv
        exact ⟨ha, by simp only; omega⟩
      · cases h
  · rw [cellP_len hl] at h; cases h
theorem CRead_1x (s : Str) (hs : s.length ≤ 1000000) (X : List Cell) (hX : X.length ≤ 1000000) : ∃ z, twin_Read_1x s X = some z ∧ z.1 = (cellP s).isSome ∧ (∀ x, cellP s = some x → z.2 = X ++ [x]) := by
  have key : ∃ v, twin_readCell s = some v ∧ v.2 = (cellP s).isSome ∧ ∀ x, cellP s = some x → v.1 = x := by
    unfold twin_readCell
    have hsp := SplitN_eq s hs 32 4 (by omega)
    rw [show ((4 : Nat) : Int) + 1 = 5 from rfl] at hsp
    have hpl := splitN_len 32 4 s
    rw [hsp]
    simp only [Option.bind_some]
    by_cases hl : (splitN 32 4 s).length = 5
    · obtain ⟨a, b, c, d, e, q⟩ := five_ofC hl
      have hil : e.length ≤ s.length := hpl.2 e (by rw [q]; simp)
      rw [cellP_five q, q]
      rw [if_neg (by simp), show idx [a, b, c, d, e] 0 = some a from rfl, show idx [a, b, c, d, e] 2 = some c from rfl]
      simp only [Option.bind_some]
      by_cases ha : a = []
      · rw [if_pos ha, if_pos (.inl ha)]
        unfold twin_readCell_j1
        rw [if_pos rfl]
        exact ⟨_, rfl, rfl, fun x h => by cases h⟩
      · rw [if_neg ha]
        unfold twin_readCell_j1
        by_cases hc : c = []
        · rw [decide_eq_true hc, if_pos rfl, if_pos (.inr hc)]
          exact ⟨_, rfl, rfl, fun x h => by cases h⟩
        · rw [decide_eq_false hc, if_neg (by simp), if_neg (by rintro (h | h); exact ha h; exact hc h)]
          obtain ⟨z, z1, z2, z3⟩ := readValue_eq e (by omega)
          rw [show idx [a, b, c, d, e] 1 = some b from rfl, show idx [a, b, c, d, e] 3 = some d from rfl, show idx [a, b, c, d, e] 4 = some e from rfl, show idx [a, b, c, d, e] 0 = some a from rfl, show idx [a, b, c, d, e] 2 = some c from rfl]
          simp only [Option.bind_some]
          rw [show (15 : Int) = ((15 : Nat) : Int) from rfl, Number_eq b 15 (by omega), Number_eq d 15 (by omega), z1]
          simp only [Option.bind_some]
          refine ⟨_, rfl, ?_, fun x h => ?_⟩
          · show ((_ && _) && z.2) = _
            rw [z2]
            cases numT b 15 <;> cases numT d 15 <;> cases valP e <;> rfl
          · split at h
            · rename_i n m v h1 h2 h3
              obtain rfl := Option.some.inj h
              rw [h1, h2, z3 v h3]
            · cases h
    · rw [if_pos (by omega), cellP_len hl]
      unfold twin_readCell_j1
      rw [if_pos rfl]
      exact ⟨_, rfl, rfl, fun x h => by cases h⟩
  obtain ⟨v, v1, v2, v3⟩ := key
  unfold twin_Read_1x
  rw [v1]
  simp only [Option.bind_some]
  rw [app_le (by simp; omega)]
  exact ⟨_, rfl, v2, fun x hx => by rw [← v3 x hx]⟩
theorem numT_nilC : numT [] 15 = none := by decide
theorem QCRead_1x (s : Str) (hs : s.length ≤ 300000) (X : List Cell) (hX : X.length ≤ 1000000) : ∃ z, Q_CellsRead_1x s X = some z ∧ z.1 = (cellP s).isSome ∧ (∀ x, cellP s = some x → z.2 = X ++ [x]) := by
  unfold Q_CellsRead_1x
  have hsp := SplitN_eq s (by omega) 32 4 (by omega)
  rw [show ((4 : Nat) : Int) + 1 = 5 from rfl] at hsp
  have hpl := splitN_len 32 4 s
  rw [hsp]
  simp only [Option.bind_some]
  by_cases hl : (splitN 32 4 s).length = 5
  · obtain ⟨a, b, c, d, e, q⟩ := five_ofC hl
    have hil : e.length ≤ s.length := hpl.2 e (by rw [q]; simp)
    rw [cellP_five q, q]
    rw [if_neg (by simp), show slc [a, b, c, d, e] 0 4 = some [a, b, c, d] from rfl]
    simp only [Option.bind_some]
    rw [Contains_eq _ (by simp)]
    simp only [Option.bind_some]
    unfold Q_CellsRead_1x_j1
    by_cases he : ([] : Str) ∈ [a, b, c, d]
    · rw [decide_eq_true he, if_pos rfl]
      have hn : (if a = [] ∨ c = [] then none else match numT b 15, numT d 15, valP e with
          | some n, some m, some v => some (⟨⟨a, v⟩, ⟨n, c, m⟩⟩ : Cell)
          | _, _, _ => none) = none := by
        simp only [List.mem_cons, List.not_mem_nil, or_false] at he
        rcases he with h | h | h | h
        · rw [if_pos (.inl h.symm)]
        · rw [← h, numT_nilC]
          split <;> rfl
        · rw [if_pos (.inr h.symm)]
        · rw [← h, numT_nilC]
          split
          · rfl
          · cases numT b 15 <;> rfl
      rw [hn]
      exact ⟨_, rfl, rfl, fun x h => by cases h⟩
    · rw [decide_eq_false he, if_neg (by simp)]
      simp only [List.mem_cons, not_or] at he
      rw [if_neg (by rintro (h | h); exact he.1 h.symm; exact he.2.2.1 h.symm)]
      obtain ⟨z, z1, z2, z3⟩ := QreadValue_eq e (by omega)
      obtain ⟨mb, b1, b2⟩ := QNumber_15 b
      obtain ⟨md, d1, d2⟩ := QNumber_15 d
      rw [show idx [a, b, c, d, e] 1 = some b from rfl, show idx [a, b, c, d, e] 3 = some d from rfl, show idx [a, b, c, d, e] 4 = some e from rfl, show idx [a, b, c, d, e] 0 = some a from rfl, show idx [a, b, c, d, e] 2 = some c from rfl]
      simp only [Option.bind_some]
      rw [b1, d1, z1]
      simp only [Option.bind_some]
      rw [app_le (by simp; omega)]
      refine ⟨_, rfl, ?_, fun x h => ?_⟩
      · show (_ && (_ && z.2)) = _
        rw [z2]
        cases numT b 15 <;> cases numT d 15 <;> cases valP e <;> rfl
      · split at h
        · rename_i n m v h1 h2 h3
          obtain rfl := Option.some.inj h
          show X ++ _ = _
          rw [b2 n h1, d2 m h2, z3 v h3]
        · cases h
  · rw [if_pos (by omega)]
    unfold Q_CellsRead_1x_j1
    rw [if_pos rfl, cellP_len hl]
    exact ⟨_, rfl, rfl, fun x h => by cases h⟩
theorem eachS_allM {α : Type} (pl : Str → Option α) (P : α → Prop) (ends : Bool) : ∀ (l : List Str) (i : Int) (X : List α), (∀ s ∈ l, ∀ x, pl s = some x → P x) → (∀ x ∈ X, P x) → ∀ x ∈ (eachS pl ends l i X).2.2, P x
  | [], i, X, hp, h => h
  | s :: r, i, X, hp, h => by
    unfold eachS
    split
    · exact h
    · cases hs : pl s with
      | none => exact h
      | some x =>
        refine eachS_allM pl P ends r (i + 1) (X ++ [x]) (fun t ht => hp t (List.mem_cons_of_mem _ ht)) (fun y hy => ?_)
        rcases List.mem_append.1 hy with e | e
        · exact h y e
        · rw [List.mem_singleton] at e; subst e; exact hp s (by simp) y hs
/-! the law -/
def esC (t : Str) : Int × Bool × List Cell := eachS cellP (lineL t).2 (lineL t).1 0 []
noncomputable def rcF (t : Str) : Int := (Q_CellsFault (esC t).2.2).getD 0
noncomputable def rcR (t : Str) : List Cell × Int × Int :=
  if 200000 < t.length then ([], 0, 2)
  else if (esC t).2.1 = false then ([], (esC t).1, 9)
  else if rcF t ≠ 0 then ([], 0, rcF t)
  else ((esC t).2.2, 0, 0)
theorem esC_chk (t : Str) (hl : t.length ≤ 200000) : twin_CheckCells (esC t).2.2 = some (rcF t) ∧ Q_CellsFault (esC t).2.2 = some (rcF t) := by
  have h1 := eachS_len cellP (lineL t).2 (lineL t).1 0 []
  have hll := lineL_len t
  obtain ⟨r, r1, r2, _⟩ := CheckCells_eqW (esC t).2.2 (by unfold esC; simp at h1; omega)
    (eachS_allM cellP (fun v => (cN v).length ≤ 500000 ∧ v.Prop_.Value.Words.length ≤ 500000) _ _ 0 [] (fun s hs x hx => by
      have := cellP_B hx
      have := hll.2 s hs
      omega) (by simp))
  have : rcF t = r := by unfold rcF; rw [r2]; rfl
  rw [this]; exact ⟨r1, r2⟩
theorem CRead_eq (t : Str) : twin_Read t = some (rcR t) := by
  unfold twin_Read rcR
  by_cases hl : 200000 < t.length
  · rw [if_pos (by omega), if_pos hl]
  · rw [if_neg (by omega), if_neg hl]
    unfold base_Each_f1x_twin_Read_1x
    rw [Lines_eq t (by omega)]
    simp only [Option.bind_some]
    have hll := lineL_len t
    unfold base_Each_f1x_twin_Read_1x_l1
    obtain ⟨Y, y1, y2⟩ := each_iter2 cellP twin_Read_1x (lineL t).1 (lineL t).2 (by omega) (fun s hs X hX => CRead_1x s (by have := hll.2 s hs; omega) X hX) (fun X n => base_Each_f1x_twin_Read_1x_b1 (lineL t) X n) (fun X n => rfl)
    have hc := (esC_chk t (by omega)).1
    rw [y1]
    unfold esC at hc ⊢
    simp only [Option.bind_some]
    cases h : (eachS cellP (lineL t).2 (lineL t).1 0 []).2.1 with
    | false => rfl
    | true =>
      rw [if_neg (by simp), if_neg (by simp), y2 h, hc]
      simp only [Option.bind_some]
      split <;> rfl
theorem QCRead_eq (t : Str) : Q_CellsRead t = some (rcR t) := by
  unfold Q_CellsRead rcR
  by_cases hl : 200000 < t.length
  · rw [if_pos (by omega), if_pos hl]
  · rw [if_neg (by omega), if_neg hl]
    unfold Q_Lines_f1x_Q_CellsRead_1x Q_Lines_f1x_Q_CellsRead_1x_l1
    obtain ⟨Y, y1, y2⟩ := lines_iterB cellP 300000 Q_CellsRead_1x (fun s hs X hX => QCRead_1x s hs X hX) (fun X t n => Q_Lines_f1x_Q_CellsRead_1x_b1 X t n) (fun X t n => rfl) t.length t [] 0 (Nat.le_refl _) (by omega) (by simp; omega) (by omega) (by omega)
    have hc := (esC_chk t (by omega)).2
    rw [y1]
    unfold esC at hc ⊢
    simp only [Option.bind_some]
    cases h : (eachS cellP (lineL t).2 (lineL t).1 0 []).2.1 with
    | false => rfl
    | true =>
      rw [if_neg (by simp), if_neg (by simp), y2 h, hc]
      simp only [Option.bind_some]
      split <;> rfl
theorem rcR_len (t : Str) : (rcR t).1.length ≤ 300000 := by
  unfold rcR
  by_cases hl : 200000 < t.length
  · rw [if_pos hl]; simp
  · rw [if_neg hl]
    have h1 := eachS_len cellP (lineL t).2 (lineL t).1 0 []
    have h2 := (lineL_len t).1
    split
    · simp
    · split
      · simp
      · unfold esC; simp at h1; simp only; omega
/-! the generators, with what is written -/
theorem WL.snoc {k : Nat} {l : List Cell} (h : l.length ≤ k ∧ ∀ c ∈ l, WC c) {c : Cell} (hc : WC c) : (l ++ [c]).length ≤ k + 1 ∧ ∀ x ∈ l ++ [c], WC x :=
  ⟨by have := h.1; simp; omega, fun x hx => by
    rcases List.mem_append.1 hx with e | e
    · exact h.2 x e
    · rw [List.mem_singleton] at e; subst e; exact hc⟩
def WG (k : Nat) (l : List Cell) : Prop := l.length ≤ k ∧ ∀ c ∈ l, WC c
theorem WG.perm {k : Nat} {l Z : List Cell} (h : WG k l) (hp : Z.Perm l) : WG k Z := ⟨by rw [hp.length_eq]; exact h.1, fun c hc => h.2 c (hp.mem_iff.1 hc)⟩
theorem WG.sub {k : Nat} {l Z : List Cell} (h : WG k l) (hp : Z.Sublist l) : WG k Z := ⟨Nat.le_trans hp.length_le h.1, fun c hc => h.2 c (hp.subset hc)⟩
theorem nb0 : NB 0 := by unfold NB; omega
theorem RightValue_w {s : Stm} {K : Int} (hs : SOk s K) (hK : 2 ≤ K) : Gen (Stream_RightValue s) (K - 2) VW := by
  refine Gen.of ?_
  unfold Stream_RightValue
  refine Ok.gen (Next_k hs (by omega) (by omega) (by omega)) (fun c s1 _ q1 => ?_)
  dsimp only
  split
  · refine Ok.gen (Flip_k q1 (by omega) (by omega) (by omega)) (fun t s2 ht q2 => ?_)
    exact Ok.ret ⟨⟨by simp, nb0⟩, q2.less (by omega)⟩
  · split
    · refine Ok.gen (Some_k q1 (by omega) (by simp) (by simp)) (fun t s2 ht q2 => ?_)
      exact Ok.ret ⟨⟨mem_len (n := 1001) (by decide) ht, nb0⟩, q2.less (by omega)⟩
    · refine Ok.gen (Pick_k q1 (by omega) (by simp) (by simp)) (fun t s2 ht q2 => ?_)
      exact Ok.ret ⟨⟨by simp, by simp at ht; unfold NB; simp only; omega⟩, q2.less (by omega)⟩
theorem Value_w {s : Stm} {K : Int} (hs : SOk s K) (hK : 8 ≤ K) : Gen (Stream_Value s) (K - 8) VW := by
  refine Gen.of ?_
  unfold Stream_Value Stream_Value_j5 Stream_Value_j4 Stream_Value_j3 Stream_Value_j2 Stream_Value_j1
  refine Ok.gen (RightValue_w hs (by omega)) (fun v s1 h1 q1 => ?_)
  refine Ok.gen (Flip_k q1 (by omega) (by omega) (by omega)) (fun c s2 _ q2 => ?_)
  dsimp only
  split
  · exact Ok.ret ⟨⟨by simp, nb0⟩, q2.less (by omega)⟩
  · refine Ok.gen (Flip_k q2 (by omega) (by omega) (by omega)) (fun c s3 _ q3 => ?_)
    dsimp only
    split
    · refine Ok.gen (Next_k q3 (by omega) (by omega) (by omega)) (fun n s4 _ q4 => ?_)
      dsimp only
      split
      · refine Ok.gen (Pick_k q4 (by omega) (by simp) (by simp)) (fun t s5 ht q5 => ?_)
        exact Ok.ret ⟨h1, q5.less (by omega)⟩
      · split
        · exact Ok.ret ⟨h1, q4.less (by omega)⟩
        · split
          · refine Ok.gen (Odd_k q4 (by omega) (by omega) (by omega) (by omega)) (fun t s5 ht q5 => ?_)
            exact Ok.ret ⟨⟨h1.1, by unfold NB; simp only; omega⟩, q5.less (by omega)⟩
          · split
            · rw [repW]
              simp only [Option.bind_some]
              refine Ok.gen (Some_k q4 (by omega) (by simp) (by simp)) (fun t s5 ht q5 => ?_)
              exact Ok.ret ⟨⟨mem_len (n := 1001) (by decide +kernel) ht, nb0⟩, q5.less (by omega)⟩
            · exact Ok.ret ⟨⟨by simp, h1.2⟩, q4.less (by omega)⟩
    · exact Ok.ret ⟨h1, q3.less (by omega)⟩
def SW (t : Stamp) : Prop := NB t.At ∧ NB t.No ∧ t.By.length ≤ 1000
theorem RightStamp_w {s : Stm} {K : Int} (hs : SOk s K) (hK : 3 ≤ K) : Gen (Stream_RightStamp s) (K - 3) SW := by
  refine Gen.of ?_
  unfold Stream_RightStamp
  refine Ok.gen (Range_k hs (by omega) (by omega) (by omega) (by omega)) (fun a s1 ha q1 => ?_)
  refine Ok.gen (Some_k q1 (by omega) (by simp) (by simp)) (fun b s2 hb q2 => ?_)
  refine Ok.gen (Pick_k q2 (by omega) (by simp) (by simp)) (fun c s3 hc q3 => ?_)
  refine Ok.ret ⟨⟨by unfold NB; simp only; omega, ?_, mem_len (by decide) hb⟩, q3.less (by omega)⟩
  simp at hc
  unfold NB
  simp only
  omega
theorem Stamp_w {s : Stm} {K : Int} (hs : SOk s K) (hK : 9 ≤ K) : Gen (Stream_Stamp s) (K - 9) SW := by
  refine Gen.of ?_
  unfold Stream_Stamp Stream_Stamp_j1
  refine Ok.gen (RightStamp_w hs (by omega)) (fun a s1 ha q1 => ?_)
  refine Ok.gen (Flip_k q1 (by omega) (by omega) (by omega)) (fun c s2 _ q2 => ?_)
  dsimp only
  split
  · refine Ok.gen (Odd_k q2 (by omega) (by omega) (by omega) (by omega)) (fun b s3 hb q3 => ?_)
    refine Ok.gen (Some_k q3 (by omega) (by simp) (by simp)) (fun d s4 hd q4 => ?_)
    refine Ok.gen (Odd_k q4 (by omega) (by omega) (by omega) (by omega)) (fun e s5 he q5 => ?_)
    exact Ok.ret ⟨⟨by unfold NB; simp only; omega, by unfold NB; simp only; omega, mem_len (by decide) hd⟩, q5.less (by omega)⟩
  · exact Ok.ret ⟨ha, q2.less (by omega)⟩
theorem RightCells_w {s : Stm} {K : Int} (hs : SOk s K) (hK : 50 ≤ K) : Gen (Stream_RightCells s) (K - 50) (WG 6) := by
  refine Gen.of ?_
  unfold Stream_RightCells
  refine Ok.gen (Range_k hs (by omega) (by omega) (by omega) (by omega)) (fun v s1 hv q1 => ?_)
  dsimp only
  unfold Stream_RightCells_l1
  refine Ok.iter (fun x : List Int × Int × List Cell × Int => (v - x.2.2.2).toNat) (fun x : List Int × Int × List Cell × Int => 0 ≤ x.2.2.2 ∧ x.2.2.2 ≤ v ∧ SOk ⟨x.1, x.2.1⟩ (K - 50 + 7 * (v - x.2.2.2)) ∧ WG x.2.2.2.toNat x.2.2.1) ?_ _ ⟨by simp, hv.1, q1.less (by simp only; omega), by simp, by simp⟩
  rintro ⟨L, a, l, n⟩ ⟨g0, g1, g2, g3⟩
  simp only at g0 g1 g2 g3 ⊢
  have hl := g3.1
  unfold Stream_RightCells_b1
  dsimp only
  split
  · rename_i hn
    refine Ok.gen (Some_k g2 (by omega) (by simp) (by simp)) (fun t s2 ht q2 => ?_)
    have ht' : t.length ≤ 1000 := mem_len (by decide) ht
    refine Ok.gen (RightValue_w q2 (by omega)) (fun w s3 hw q3 => ?_)
    refine Ok.gen (RightStamp_w q3 (by omega)) (fun z s4 hz q4 => ?_)
    refine Ok.gen (Flip_k q4 (by omega) (by omega) (by omega)) (fun c s5 _ q5 => ?_)
    dsimp only
    have j1 : ∀ (k : Int) (b : Bool) (m : Int) (q : Str), VW ⟨k, b, m, q⟩ → Ok (Stream_RightCells_j1 l n (t, s2) (z, s4) (c, s5) k b m q) (Stp (fun x : List Int × Int × List Cell × Int => (v - x.2.2.2).toNat) (fun x : List Int × Int × List Cell × Int => 0 ≤ x.2.2.2 ∧ x.2.2.2 ≤ v ∧ SOk ⟨x.1, x.2.1⟩ (K - 50 + 7 * (v - x.2.2.2)) ∧ WG x.2.2.2.toNat x.2.2.1) (fun r => WG 6 r.1 ∧ SOk r.2 (K - 50)) (L, a, l, n)) := by
      intro k b m q hq
      unfold Stream_RightCells_j1
      refine Ok.app (by simp; omega) ?_
      refine Ok.ret ?_
      rw [w64_in (by omega) (by omega)]
      refine ⟨⟨by simp only; omega, by simp only; omega, q5.less (by simp only; omega), ?_⟩, by simp only; omega⟩
      simp only
      rw [show (n + 1).toNat = n.toNat + 1 by omega]
      exact WL.snoc g3 ⟨ht', hq, hz.1, hz.2.1, hz.2.2⟩
    split
    · exact j1 _ _ _ _ ⟨by simp, nb0⟩
    · exact j1 _ _ _ _ hw
  · refine Ok.inr ?_
    unfold Stream_RightCells_k2
    obtain ⟨Z, z1, z2, _⟩ := cstable_len (fun y0 y1 => some (cellOrder y0 y1)) l (by omega) (fun x _ y _ => rfl)
    rw [z1]
    simp only [Option.bind_some]
    rw [ccompactF_eq (fun y0 y1 => some (Stream_RightCells_1x y0 y1)) Stream_RightCells_1x Z (by have := z2.length_eq; omega) (fun x _ y _ => rfl)]
    refine Ok.ret ⟨?_, g2.less (by omega)⟩
    have h6 : WG 6 l := ⟨by omega, g3.2⟩
    exact (h6.perm z2).sub (dd_sub _ _)
theorem Cells_w {s : Stm} {K : Int} (hs : SOk s K) (hK : 80 ≤ K) : Gen (Stream_Cells s) (K - 80) (WG 7) := by
  refine Gen.of ?_
  unfold Stream_Cells Stream_Cells_j2 Stream_Cells_j1
  refine Ok.gen (RightCells_w hs (by omega)) (fun l s1 hl q1 => ?_)
  refine Ok.gen (Flip_k q1 (by omega) (by omega) (by omega)) (fun c s2 _ q2 => ?_)
  dsimp only
  split
  · refine Ok.gen (PropName_k q2 (by omega)) (fun t s3 ht q3 => ?_)
    refine Ok.gen (Value_w q3 (by omega)) (fun w s4 hw q4 => ?_)
    refine Ok.gen (Stamp_w q4 (by omega)) (fun z s5 hz q5 => ?_)
    dsimp only
    have hs7 : WG 7 (l ++ [(⟨⟨t, w⟩, z⟩ : Cell)]) := WL.snoc hl ⟨ht, hw, hz.1, hz.2.1, hz.2.2⟩
    refine Ok.app (by have := hl.1; simp; omega) ?_
    refine Ok.gen (Flip_k q5 (by omega) (by omega) (by omega)) (fun d s6 _ q6 => ?_)
    dsimp only
    split
    · obtain ⟨Z, z1, z2, _⟩ := cstable_len (fun y0 y1 => some (cellOrder y0 y1)) (l ++ [(⟨⟨t, w⟩, z⟩ : Cell)]) (by have := hs7.1; omega) (fun x _ y _ => rfl)
      rw [z1]
      exact Ok.ret ⟨hs7.perm z2, q6.less (by omega)⟩
    · exact Ok.ret ⟨hs7, q6.less (by omega)⟩
  · exact Ok.ret ⟨⟨by have := hl.1; simp only; omega, hl.2⟩, q2.less (by omega)⟩
theorem WG.wl {k : Nat} {l : List Cell} (h : WG k l) (hk : k ≤ 8) : WL l := ⟨Nat.le_trans h.1 hk, h.2⟩
theorem CellText_k {s : Stm} {K : Int} (hs : SOk s K) (hK : 70 ≤ K) : Gen (Stream_CellText s) (K - 70) (fun _ => True) := by
  refine Gen.of ?_
  unfold Stream_CellText
  refine Ok.gen (RightCells_w hs (by omega)) (fun l s2 hl q2 => ?_)
  dsimp only
  have hw := hl.wl (by omega)
  have ht := celT_take hw l.length
  rw [List.take_length] at ht
  have hl8 := hw.1
  rw [CellLines_eq l hw]
  simp only [Option.bind_some]
  refine Ok.gen (Pick_k q2 (by omega) (by simp) (by simp)) (fun v s3 hv q3 => ?_)
  have hv' : v = 0 ∨ v = 1 ∨ v = 2 := by simp at hv; omega
  unfold Stream_CellText_l1
  refine Ok.iter (fun x : (List Int) × Int × Str × Int => (v - x.2.2.2).toNat) (fun x => 0 ≤ x.2.2.2 ∧ SOk ⟨x.1, x.2.1⟩ (K - 51 - 3 * x.2.2.2) ∧ x.2.2.2 ≤ v ∧ (x.2.2.1.length : Int) ≤ 100000 + 100 * x.2.2.2) ?_ _ ⟨by simp, by simpa using q3.less (by omega), by simp only; omega, by simp only; omega⟩
  rintro ⟨L, a, t, i⟩ ⟨h0, h1, h2, h3⟩
  dsimp only at h0 h1 h2 h3 ⊢
  unfold Stream_CellText_b1
  simp only
  by_cases hi : i < v
  · rw [if_pos hi]
    refine Ok.gen (Changed_g h1 (by omega) (by omega) (by simp)) (fun r s4 hr q4 => ?_)
    refine Ok.ret ?_
    simp only [List.length_cons, List.length_nil] at hr
    rw [w64_in (by omega) (by omega)]
    exact ⟨⟨by simp only; omega, q4.less (by simp only; omega), by simp only; omega, by simp only; omega⟩, by simp only; omega⟩
  · rw [if_neg hi]
    exact Ok.inr (Ok.ret ⟨trivial, h1.less (by omega)⟩)
theorem ct_true (v5 : Str × Stm) (x : Str × Int) : L_CellTexts_j1 v5 x x.2 x.1 = some true := by
  unfold L_CellTexts_j1
  rw [CRead_eq, QCRead_eq]
  simp only [Option.bind_some, if_true]
  have hl := rcR_len v5.1
  rw [show slices_Equal_Cell_Cell (rcR v5.1).1 (rcR v5.1).1 = some (decide ((rcR v5.1).1 = (rcR v5.1).1)) from gEqual_eq _ _ (by omega)]
  simp only [decide_true, Option.bind_some, if_true]
  rw [twinned_eq]
  rfl
theorem CellTexts_plain (L : List Int) : L_CellTexts L = some true := by
  have key : Ok (L_CellTexts L) (fun r => r = true) := by
    unfold L_CellTexts
    refine Ok.gen (Cells_w (s := ⟨L, 0⟩) (K := 1000) ⟨by simp, by simp⟩ (by omega)) (fun l s2 hl q2 => ?_)
    refine Ok.gen (CellText_k q2 (by omega)) (fun t s3 _ q3 => ?_)
    dsimp only
    obtain ⟨r, r1, r2, _⟩ := CheckCells_eqW l (by have := hl.1; omega) (fun v hv => by have := hl.2 v hv; exact ⟨by have := this.1; omega, by have := this.2.1.1; omega⟩)
    unfold twin_Text
    rw [r1, r2]
    simp only [Option.bind_some]
    by_cases h : r = 0
    · rw [if_neg (by simp [h]), TText_l1 l (hl.wl (by omega))]
      simp only [Option.bind_some]
      rw [if_pos h, CellLines_eq l (hl.wl (by omega)), h]
      simp only [Option.bind_some]
      exact ⟨true, ct_true (t, s3) (celT l, 0), rfl⟩
    · rw [if_pos h]
      simp only [Option.bind_some]
      rw [if_neg h]
      exact ⟨true, ct_true (t, s3) ([], r), rfl⟩
  obtain ⟨r, h1, rfl⟩ := key
  exact h1
end Go.Beacon

