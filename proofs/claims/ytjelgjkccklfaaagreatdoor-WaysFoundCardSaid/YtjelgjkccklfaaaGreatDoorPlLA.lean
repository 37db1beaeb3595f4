/- Plain facts on what the functions compute. No program in sight. -/
import Derived.Test.YtjelgjkccklfaaaGreatDoorWayP
import Derived.Test.YtjelgjkccklfaaaGreatDoorPlBA
import Derived.Lib.AtoiTie
import Derived.Lib.AtoiBound
import Derived.Lib.ItoaLen
/- Plain facts of the streams that make inputs: each ends, and what it hands out is within bounds. No program in sight. -/
set_option linter.unusedVariables false
set_option linter.unusedSimpArgs false
namespace Go.Beacon
open Go Go.Eng

abbrev Stm := Fleetmake_Stream
/-- At least k more numbers can be drawn. -/
def SOk (s : Stm) (k : Int) : Prop := 0 ≤ s.at_ ∧ s.at_ + k ≤ 4611686018427387904
theorem SOk.less {s : Stm} {k k' : Int} (h : SOk s k) (hk : k' ≤ k) : SOk s k' := ⟨h.1, by have := h.2; omega⟩
def Gen {α : Type} (m : Option (α × Stm)) (k : Int) (P : α → Prop) : Prop := ∃ v s', m = some (v, s') ∧ P v ∧ SOk s' k
theorem Gen.bind {α β : Type} {m : Option (α × Stm)} {k k' : Int} {P : α → Prop} {Q : β → Prop} {f : α × Stm → Option (β × Stm)} (h : Gen m k P) (hf : ∀ v s', P v → SOk s' k → Gen (f (v, s')) k' Q) : Gen (m.bind f) k' Q := by
  obtain ⟨v, s', rfl, h1, h2⟩ := h
  exact hf v s' h1 h2
theorem Gen.ret {α : Type} {v : α} {s : Stm} {k : Int} {P : α → Prop} (h1 : P v) (h2 : SOk s k) : Gen (some (v, s)) k P := ⟨v, s, rfl, h1, h2⟩
theorem Gen.mono {α : Type} {m : Option (α × Stm)} {k k' : Int} {P Q : α → Prop} (h : Gen m k P) (hk : k' ≤ k) (hp : ∀ v, P v → Q v) : Gen m k' Q := by
  obtain ⟨v, s', e, h1, h2⟩ := h
  exact ⟨v, s', e, hp v h1, h2.less hk⟩

theorem Below_ok (x : Int) {n : Int} (h1 : 1 ≤ n) (h2 : n ≤ 4611686018427387904) : ∃ v, Below x n = some v ∧ 0 ≤ v ∧ v < n := by
  unfold Below Below_j1
  rw [if_neg (by omega), rem_ne (by omega)]
  have a1 := Int.lt_tmod_of_pos x (show 0 < n by omega)
  have a2 := Int.tmod_lt_of_pos x (show 0 < n by omega)
  simp only [Option.bind_some]
  split
  · exact ⟨_, rfl, by rw [w64_in] <;> omega, by rw [w64_in] <;> omega⟩
  · exact ⟨_, rfl, by omega, by omega⟩

theorem Next_ok {s : Stm} {n k : Int} (hs : SOk s (k + 1)) (h1 : 1 ≤ n) (h2 : n ≤ 4611686018427387904) (hk : 0 ≤ k) : Gen (Stream_Next s n) k (fun v => 0 ≤ v ∧ v < n) := by
  obtain ⟨a1, a2⟩ := hs
  have e1 : w64 (s.at_ + 1) = s.at_ + 1 := by rw [w64_in] <;> omega
  have e2 : w64 (s.at_ + 1 - 1) = s.at_ := by rw [w64_in] <;> omega
  unfold Stream_Next
  split
  · obtain ⟨v, hv, h3, h4⟩ := Below_ok (w64 (w64 (s.at_ + 1) * 7919)) h1 h2
    rw [hv]
    exact Gen.ret ⟨h3, h4⟩ ⟨by show 0 ≤ w64 (s.at_ + 1); omega, by show w64 (s.at_ + 1) + k ≤ _; omega⟩
  · rename_i hl
    have hl' : (0 : Int) < s.L.length := by omega
    rw [e1, e2, rem_pos hl' a1, quo_ne (by omega)]
    simp only [Option.bind_some]
    obtain ⟨x, hx, _, _⟩ := idx_lt s.L (i := s.at_ % s.L.length) (Int.emod_nonneg _ (by omega)) (Int.emod_lt_of_pos _ hl')
    rw [hx]
    simp only [Option.bind_some]
    obtain ⟨u, hu, _, _⟩ := Below_ok x (n := 1073741824) (by omega) (by omega)
    rw [hu]
    simp only [Option.bind_some]
    obtain ⟨v, hv, h3, h4⟩ := Below_ok (w64 (u + w64 (w64 (s.at_.tdiv s.L.length) * w64 (7919 + s.at_ % s.L.length)))) h1 h2
    rw [hv]
    exact Gen.ret ⟨h3, h4⟩ ⟨by simp only; omega, by simp only; omega⟩

theorem Pick_ok {s : Stm} {l : List Int} {k : Int} (hs : SOk s (k + 1)) (h1 : l ≠ []) (h2 : l.length ≤ 1000) (hk : 0 ≤ k) : Gen (Stream_Pick s l) k (fun v => v ∈ l) := by
  unfold Stream_Pick
  have hl : 0 < l.length := List.length_pos_iff.2 h1
  refine Gen.bind (Next_ok hs (by omega) (by omega) hk) (fun v s' hv hs' => ?_)
  obtain ⟨x, hx, hm, _⟩ := idx_lt l hv.1 hv.2
  simp only [hx, Option.bind_some]
  exact Gen.ret hm hs'
theorem Range_ok {s : Stm} {a b k : Int} (hs : SOk s (k + 1)) (hab : a ≤ b) (ha : -1152921504606846976 ≤ a) (hb : b ≤ 1152921504606846976) (hk : 0 ≤ k) : Gen (Stream_Range s a b) k (fun v => a ≤ v ∧ v ≤ b) := by
  unfold Stream_Range
  have e1 : w64 (b - a) = b - a := by rw [w64_in] <;> omega
  have e2 : w64 (b - a + 1) = b - a + 1 := by rw [w64_in] <;> omega
  rw [if_neg (by omega), e1, e2]
  refine Gen.bind (Next_ok hs (by omega) (by omega) hk) (fun v s' hv hs' => ?_)
  refine Gen.ret ?_ hs'
  simp only
  rw [w64_in] <;> omega
theorem Flip_ok {s : Stm} {n k : Int} (hs : SOk s (k + 1)) (h1 : 1 ≤ n) (h2 : n ≤ 4611686018427387904) (hk : 0 ≤ k) : Gen (Stream_Flip s n) k (fun _ => True) := by
  unfold Stream_Flip
  exact Gen.bind (Next_ok hs h1 h2 hk) (fun v s' hv hs' => Gen.ret trivial hs')
theorem pick_le {l : List Int} {v lo hi : Int} (h : v ∈ l) (hl : l.all (fun x => decide (lo ≤ x ∧ x ≤ hi)) = true) : lo ≤ v ∧ v ≤ hi := by
  rw [List.all_eq_true] at hl
  simpa using hl v h
theorem Some_ok {s : Stm} {l : List Str} {k : Int} (hs : SOk s (k + 1)) (h1 : l ≠ []) (h2 : l.length ≤ 1000) (hk : 0 ≤ k) : Gen (Stream_Some s l) k (fun v => v ∈ l) := by
  unfold Stream_Some
  have hl : 0 < l.length := List.length_pos_iff.2 h1
  refine Gen.bind (Next_ok hs (by omega) (by omega) hk) (fun v s' hv hs' => ?_)
  obtain ⟨x, hx, hm, _⟩ := idx_lt l hv.1 hv.2
  simp only [hx, Option.bind_some]
  exact Gen.ret hm hs'
theorem Odd_ok {s : Stm} {a b k : Int} (hs : SOk s (k + 2)) (hab : a ≤ b) (ha : -1099511627776 ≤ a) (hb : b ≤ 1099511627776) (hk : 0 ≤ k) : Gen (Stream_Odd s a b) k (fun v => -1099511627777 ≤ v ∧ v ≤ 1099511627777) := by
  unfold Stream_Odd
  refine Gen.bind (Flip_ok (k := k + 1) (hs.less (by omega)) (by omega) (by omega) (by omega)) (fun v s' hv hs' => ?_)
  simp only
  split
  · refine Gen.bind (Pick_ok hs' (by simp) (by simp) hk) (fun v s' hv hs' => Gen.ret ?_ hs')
    have e1 : w64 (a - 1) = a - 1 := by rw [w64_in] <;> omega
    have e2 : w64 (b + 1) = b + 1 := by rw [w64_in] <;> omega
    rw [e1, e2] at hv
    simp only [List.mem_cons, List.not_mem_nil, or_false] at hv
    simp only; omega
  · refine Gen.bind (Range_ok hs' hab (by omega) (by omega) hk) (fun v s' hv hs' => Gen.ret ?_ hs')
    simp only; omega
end Go.Beacon

/- Streams, in the form that is stepped by one text: what can still be drawn is counted down. No program in sight. -/
set_option linter.unusedVariables false
set_option linter.unusedSimpArgs false
namespace Go.Beacon
open Go Go.Eng

theorem Next_k {s : Stm} {n K : Int} (hs : SOk s K) (hK : 1 ≤ K) (h1 : 1 ≤ n) (h2 : n ≤ 4611686018427387904) : Gen (Stream_Next s n) (K - 1) (fun v => 0 ≤ v ∧ v < n) :=
  Next_ok (hs.less (by omega)) h1 h2 (by omega)
theorem Flip_k {s : Stm} {n K : Int} (hs : SOk s K) (hK : 1 ≤ K) (h1 : 1 ≤ n) (h2 : n ≤ 4611686018427387904) : Gen (Stream_Flip s n) (K - 1) (fun _ => True) :=
  Flip_ok (hs.less (by omega)) h1 h2 (by omega)
theorem Pick_k {s : Stm} {l : List Int} {K : Int} (hs : SOk s K) (hK : 1 ≤ K) (h1 : l ≠ []) (h2 : l.length ≤ 1000) : Gen (Stream_Pick s l) (K - 1) (fun v => v ∈ l) :=
  Pick_ok (hs.less (by omega)) h1 h2 (by omega)
theorem Range_k {s : Stm} {a b K : Int} (hs : SOk s K) (hK : 1 ≤ K) (hab : a ≤ b) (ha : -1152921504606846976 ≤ a) (hb : b ≤ 1152921504606846976) : Gen (Stream_Range s a b) (K - 1) (fun v => a ≤ v ∧ v ≤ b) :=
  Range_ok (hs.less (by omega)) hab ha hb (by omega)
theorem Some_k {s : Stm} {l : List Str} {K : Int} (hs : SOk s K) (hK : 1 ≤ K) (h1 : l ≠ []) (h2 : l.length ≤ 1000) : Gen (Stream_Some s l) (K - 1) (fun v => v ∈ l) :=
  Some_ok (hs.less (by omega)) h1 h2 (by omega)
theorem Odd_k {s : Stm} {a b K : Int} (hs : SOk s K) (hK : 2 ≤ K) (hab : a ≤ b) (ha : -1099511627776 ≤ a) (hb : b ≤ 1099511627776) : Gen (Stream_Odd s a b) (K - 2) (fun v => -1099511627777 ≤ v ∧ v ≤ 1099511627777) :=
  Odd_ok (hs.less (by omega)) hab ha hb (by omega)
end Go.Beacon

/- Plain facts of keys: the program's check and the reference's. No program in sight. -/
set_option linter.unusedVariables false
set_option linter.unusedSimpArgs false
namespace Go.Beacon
open Go Go.Eng

theorem Out_eq (n lo hi : Int) : base_Out n lo hi = (decide (n < lo) || decide (hi < n)) := rfl
theorem Qin_eq (n lo hi : Int) : Q_in n lo hi = (decide (lo ≤ n) && decide (n ≤ hi)) := rfl
/-! keys -/
def okN (n : Nat) : Bool := (decide (97 ≤ n) && decide (n ≤ 122)) || (decide (48 ≤ n) && decide (n ≤ 57)) || decide (n = 45) || decide (n = 95)
def keyB : Str → Bool
  | [] => false
  | c :: r => decide ((c :: r).length ≤ 40) && (decide (97 ≤ c.toNat) && decide (c.toNat ≤ 122)) && (c :: r).all (fun c => okN c.toNat)
theorem keyB_cons (c : UInt8) (r : Str) : keyB (c :: r) = (decide ((c :: r).length ≤ 40) && (decide (97 ≤ c.toNat) && decide (c.toNat ≤ 122)) && (c :: r).all (fun c => okN c.toNat)) := rfl
theorem Key_loop (s : Str) (hl : s.length ≤ 40) : base_Key_l1 s 0 = some (s.all (fun c => okN c.toNat)) := by
  unfold base_Key_l1
  rw [iter_find s (fun x : Int => base_Key_b1 s x) (fun c => if okN c.toNat = true then none else some false) true (by omega), findE_bool]
  · intro i c h0 h1 hc
    have hB : (if (97 : Int) ≤ (c.toNat : Int) then if (c.toNat : Int) ≤ (122 : Int) then !true else if (48 : Int) ≤ (c.toNat : Int) then if (c.toNat : Int) ≤ (57 : Int) then !true else if (c.toNat : Int) = (45 : Int) then !true else decide (¬ ((c.toNat : Int) = (95 : Int))) else if (c.toNat : Int) = (45 : Int) then !true else decide (¬ ((c.toNat : Int) = (95 : Int))) else if (48 : Int) ≤ (c.toNat : Int) then if (c.toNat : Int) ≤ (57 : Int) then !true else if (c.toNat : Int) = (45 : Int) then !true else decide (¬ ((c.toNat : Int) = (95 : Int))) else if (c.toNat : Int) = (45 : Int) then !true else decide (¬ ((c.toNat : Int) = (95 : Int)))) = !okN c.toNat := by
      unfold okN
      rw [Bool.eq_iff_iff]
      repeat' split
      all_goals simp
      all_goals omega
    rw [base_Key_b1, if_pos h1, hc]
    simp only [Option.bind_some]
    rw [hB]
    unfold base_Key_j2
    rw [w64_in (by omega) (by omega)]
    cases okN c.toNat <;> rfl
  · rw [base_Key_b1, if_neg (by omega)]; rfl
theorem Key_eq (s : Str) : base_Key s = some (keyB s) := by
  unfold base_Key base_Key_j1
  cases s with
  | nil => simp [keyB]
  | cons c r =>
    rw [if_neg (by simp)]
    have hc : idx (c :: r) 0 = some c := rfl
    rw [hc]
    simp only [Option.bind_some]
    by_cases hl : (c :: r).length ≤ 40
    · rw [if_neg (by omega), Key_loop _ hl, keyB_cons]
      by_cases h1 : (c.toNat : Int) < 97
      · rw [if_pos h1]
        have : decide (97 ≤ c.toNat) = false := by simp; omega
        rw [this]; simp
      · rw [if_neg h1]
        have e1 : decide (97 ≤ c.toNat) = true := by simp; omega
        by_cases h2 : (122 : Int) < c.toNat
        · rw [if_pos (by simpa using h2)]
          have : decide (c.toNat ≤ 122) = false := by simp; omega
          rw [this]; simp
        · rw [if_neg (by simpa using h2)]
          have : decide (c.toNat ≤ 122) = true := by simp; omega
          rw [e1, this, decide_eq_true hl]; simp
    · rw [if_pos (by omega), keyB_cons, decide_eq_false hl]; simp
theorem chars_fin : ∀ n : Fin 256, decide (UInt8.ofNat n.val ∈ ([97, 98, 99, 100, 101, 102, 103, 104, 105, 106, 107, 108, 109, 110, 111, 112, 113, 114, 115, 116, 117, 118, 119, 120, 121, 122, 48, 49, 50, 51, 52, 53, 54, 55, 56, 57, 45, 95] : List UInt8)) = okN n.val := by decide +kernel
theorem low_fin : ∀ n : Fin 256, decide (UInt8.ofNat n.val ∈ ([97, 98, 99, 100, 101, 102, 103, 104, 105, 106, 107, 108, 109, 110, 111, 112, 113, 114, 115, 116, 117, 118, 119, 120, 121, 122] : List UInt8)) = (decide (97 ≤ n.val) && decide (n.val ≤ 122)) := by decide +kernel
theorem u8_fin {p : UInt8 → Bool} {q : Nat → Bool} (h : ∀ n : Fin 256, p (UInt8.ofNat n.val) = q n.val) (c : UInt8) : p c = q c.toNat := by
  have := h ⟨c.toNat, c.toNat_lt⟩
  simpa using this
theorem only_eq (s chars : Str) (hl : (s.length : Int) ≤ 4611686018427387904) : Q_only s chars = some (s.all (fun c => decide (c ∈ chars))) := by
  unfold Q_only Q_only_l1
  rw [iter_find s (fun x : Int => Q_only_b1 s chars x) (fun c => if decide (c ∈ chars) = true then none else some false) true hl, findE_bool]
  · intro i c h0 h1 hc
    rw [Q_only_b1, if_pos h1, hc]
    simp only [Option.bind_some, indexByteI, toU8]
    rw [w64_in (by omega) (by omega)]
    by_cases hm : c ∈ chars
    · rw [if_neg (fun h => (indexByte_nonneg _ _).1 h hm)]; simp [hm]
    · rw [if_pos ((indexByte_nonneg _ _).2 hm)]; simp [hm]
  · rw [Q_only_b1, if_neg (by omega)]; rfl
theorem QKey_eq (s : Str) : Q_Key s = some (keyB s) := by
  unfold Q_Key Q_Key_j1
  rw [Qin_eq]
  cases s with
  | nil => rfl
  | cons c r =>
    have hs : slc (c :: r) 0 1 = some [c] := by rw [slc_in (by omega) (by omega) (by simp; omega)]; simp
    rw [hs]
    simp only [Option.bind_some]
    by_cases hl : (c :: r).length ≤ 40
    · rw [if_pos (by simp; simp at hl; omega), only_eq _ _ (by simp)]
      simp only [Option.bind_some, List.all_cons, List.all_nil, Bool.and_true]
      rw [only_eq _ _ (by omega)]
      simp only [Option.bind_some]
      rw [u8_fin (p := fun c => decide (c ∈ ([97, 98, 99, 100, 101, 102, 103, 104, 105, 106, 107, 108, 109, 110, 111, 112, 113, 114, 115, 116, 117, 118, 119, 120, 121, 122] : List UInt8))) (q := fun n => decide (97 ≤ n) && decide (n ≤ 122)) low_fin c]
      have e : (c :: r).all (fun c => decide (c ∈ ([97, 98, 99, 100, 101, 102, 103, 104, 105, 106, 107, 108, 109, 110, 111, 112, 113, 114, 115, 116, 117, 118, 119, 120, 121, 122, 48, 49, 50, 51, 52, 53, 54, 55, 56, 57, 45, 95] : List UInt8))) = (c :: r).all (fun c => okN c.toNat) := by
        congr 1; funext c
        exact u8_fin (p := fun c => decide (c ∈ ([97, 98, 99, 100, 101, 102, 103, 104, 105, 106, 107, 108, 109, 110, 111, 112, 113, 114, 115, 116, 117, 118, 119, 120, 121, 122, 48, 49, 50, 51, 52, 53, 54, 55, 56, 57, 45, 95] : List UInt8))) chars_fin c
      rw [e, keyB_cons, decide_eq_true hl, Bool.true_and]
      split
      · rename_i h; rw [h]; simp
      · rename_i h
        rw [Bool.not_eq_true] at h
        rw [h]; simp
    · rw [if_neg (by simp; simp at hl; omega), keyB_cons, decide_eq_false hl]; rfl

theorem cmpI_neg (a b : Int) : cmpI a b = - cmpI b a := by
  unfold cmpI
  repeat' split
  all_goals omega
theorem CompareI_eq (a b : Int) : cmp_Compare_int a b = cmpI a b := by
  unfold cmp_Compare_int cmp_isNaN_int cmpI; simp
end Go.Beacon

/- Plain facts: loops by a measure, products within bounds, quotients rounded down. No program in sight. -/
set_option linter.unusedVariables false
set_option linter.unusedSimpArgs false
namespace Go.Beacon
open Go Go.Eng

/-- A loop whose rounds keep something and make a number smaller ends; what its last round tells holds. -/
theorem iter_inv {S A : Type} (f : S → Option (S ⊕ A)) (m : S → Nat) (Inv : S → Prop) (R : A → Prop)
    (h : ∀ s, Inv s → (∃ s', f s = some (.inl s') ∧ Inv s' ∧ m s' < m s) ∨ (∃ a, f s = some (.inr a) ∧ R a)) : ∀ s, Inv s → ∃ a, iter f s = some a ∧ R a := by
  have key : ∀ (n : Nat) s, m s ≤ n → Inv s → ∃ a, iter f s = some a ∧ R a := by
    intro n
    induction n with
    | zero =>
      intro s hm hi
      rcases h s hi with ⟨s', _, _, h3⟩ | ⟨a, h1, h2⟩
      · omega
      · exact ⟨a, by rw [iter_eq, h1]; rfl, h2⟩
    | succ n ih =>
      intro s hm hi
      rcases h s hi with ⟨s', h1, h2, h3⟩ | ⟨a, h1, h2⟩
      · obtain ⟨a, h4, h5⟩ := ih s' (by omega) h2
        exact ⟨a, by rw [iter_eq, h1]; simpa using h4, h5⟩
      · exact ⟨a, by rw [iter_eq, h1]; rfl, h2⟩
  exact fun s hi => key (m s) s (Nat.le_refl _) hi
/-- The same, for a result that may be missing. -/
theorem iter_to {S A : Type} (f : S → Option (S ⊕ A)) (m : S → Nat) (Inv : S → Prop) (r : Option A)
    (h : ∀ s, Inv s → (∃ s', f s = some (.inl s') ∧ Inv s' ∧ m s' < m s) ∨ f s = r.map .inr) : ∀ s, Inv s → iter f s = r := by
  have key : ∀ (n : Nat) s, m s ≤ n → Inv s → iter f s = r := by
    intro n
    induction n with
    | zero =>
      intro s hm hi
      rcases h s hi with ⟨s', _, _, h3⟩ | h1
      · omega
      · rw [iter_eq, h1, map_inr_after]
    | succ n ih =>
      intro s hm hi
      rcases h s hi with ⟨s', h1, h2, h3⟩ | h1
      · rw [iter_eq, h1]; simpa using ih s' (by omega) h2
      · rw [iter_eq, h1, map_inr_after]
  exact fun s hi => key (m s) s (Nat.le_refl _) hi
theorem orL3 (x y z : Int) : orL [x, y, z] = if orL [x, y] ≠ 0 then orL [x, y] else z := by
  by_cases h1 : x = 0 <;> by_cases h2 : y = 0 <;> by_cases h3 : z = 0 <;> simp [orL, h1, h2, h3]
theorem orL2 (x y : Int) : orL [x, y] = if x ≠ 0 then x else y := by
  by_cases h1 : x = 0 <;> by_cases h2 : y = 0 <;> simp [orL, h1, h2]
end Go.Beacon

/- Plain functions that end, and what their results are like: one lemma for each step. No program in sight. -/
set_option linter.unusedVariables false
set_option linter.unusedSimpArgs false
namespace Go.Beacon
open Go Go.Eng

/-- It ends, and its result is so. -/
def Ok {α : Type} (m : Option α) (Q : α → Prop) : Prop := ∃ r, m = some r ∧ Q r
theorem Ok.ret {α : Type} {v : α} {Q : α → Prop} (h : Q v) : Ok (some v) Q := ⟨v, rfl, h⟩
theorem Ok.mono {α : Type} {m : Option α} {P Q : α → Prop} (h : Ok m P) (hp : ∀ v, P v → Q v) : Ok m Q := by
  obtain ⟨r, h1, h2⟩ := h; exact ⟨r, h1, hp r h2⟩
theorem Ok.bind {α β : Type} {m : Option α} {f : α → Option β} {P : α → Prop} {Q : β → Prop} (h : Ok m P) (hf : ∀ v, P v → Ok (f v) Q) : Ok (m.bind f) Q := by
  obtain ⟨r, rfl, h2⟩ := h; exact hf r h2
theorem Ok.is {α β : Type} {m : Option α} {v : α} {f : α → Option β} {Q : β → Prop} (h : m = some v) (hf : Ok (f v) Q) : Ok (m.bind f) Q := by rw [h]; exact hf
theorem Ok.inr {α β : Type} {m : Option β} {Q : α ⊕ β → Prop} (h : Ok m (fun r => Q (.inr r))) : Ok (Option.map .inr m) Q := by
  obtain ⟨r, rfl, h2⟩ := h; exact ⟨_, rfl, h2⟩
theorem Ok.gen {α β : Type} {m : Option (α × Stm)} {k : Int} {P : α → Prop} {f : α × Stm → Option β} {Q : β → Prop} (h : Gen m k P) (hf : ∀ v s', P v → SOk s' k → Ok (f (v, s')) Q) : Ok (m.bind f) Q := by
  obtain ⟨v, s', rfl, h1, h2⟩ := h; exact hf v s' h1 h2
theorem Gen.of {α : Type} {m : Option (α × Stm)} {k : Int} {P : α → Prop} (h : Ok m (fun r => P r.1 ∧ SOk r.2 k)) : Gen m k P := by
  obtain ⟨⟨v, s⟩, h1, h2, h3⟩ := h; exact ⟨v, s, h1, h2, h3⟩
theorem Ok.of {α : Type} {m : Option (α × Stm)} {k : Int} {P : α → Prop} (h : Gen m k P) : Ok m (fun r => P r.1 ∧ SOk r.2 k) := by
  obtain ⟨v, s, h1, h2, h3⟩ := h; exact ⟨(v, s), h1, h2, h3⟩
theorem Ok.idx {α β : Type} {xs : List α} {i : Int} {f : α → Option β} {Q : β → Prop} (h0 : 0 ≤ i) (h1 : i < xs.length) (hf : ∀ x, idx xs i = some x → x ∈ xs → Ok (f x) Q) : Ok ((idx xs i).bind f) Q := by
  obtain ⟨x, hx, hm, _⟩ := idx_lt xs h0 h1
  rw [hx]; exact hf x hx hm
theorem Ok.app {α β : Type} {xs ys : List α} {f : List α → Option β} {Q : β → Prop} (h : xs.length + ys.length ≤ 1000000000) (hf : Ok (f (xs ++ ys)) Q) : Ok ((app xs ys).bind f) Q := by
  rw [app_le h]; exact hf
theorem Ok.slc {α β : Type} {xs : List α} {a b : Int} {f : List α → Option β} {Q : β → Prop} (h0 : 0 ≤ a) (h1 : a ≤ b) (h2 : b ≤ xs.length) (hf : ∀ ys : List α, ys = (xs.drop a.toNat).take (b.toNat - a.toNat) → (ys.length : Int) = b - a → Ok (f ys) Q) : Ok ((slc xs a b).bind f) Q := by
  rw [slc_in h0 h1 h2]; exact hf _ rfl (by simp; omega)
/-- What a round of a loop may tell: it keeps something and makes a number smaller, or it is the last. -/
abbrev Stp {S A : Type} (m : S → Nat) (Inv : S → Prop) (R : A → Prop) (s : S) : S ⊕ A → Prop
  | .inl s' => Inv s' ∧ m s' < m s
  | .inr a => R a
theorem Ok.iter {S A : Type} {f : S → Option (S ⊕ A)} {R : A → Prop} (m : S → Nat) (Inv : S → Prop)
    (h : ∀ s, Inv s → Ok (f s) (Stp m Inv R s)) (s : S) (hs : Inv s) : Ok (iter f s) R := by
  refine iter_inv f m Inv R (fun s hi => ?_) s hs
  obtain ⟨r, h1, h2⟩ := h s hi
  cases r with
  | inl s' => exact .inl ⟨s', h1, h2.1, h2.2⟩
  | inr a => exact .inr ⟨a, h1, h2⟩
/-- A round of a loop over the places of a list. -/
abbrev Rng {A : Type} (N : Nat) (R : A → Prop) (i : Int) : Int ⊕ A → Prop
  | .inl j => j = i + 1 ∧ i < N
  | .inr a => R a
theorem Ok.range {A : Type} {f : Int → Option (Int ⊕ A)} {R : A → Prop} (N : Nat) (h : ∀ i : Int, 0 ≤ i → i ≤ N → Ok (f i) (Rng N R i)) : Ok (Eng.iter f 0) R := by
  refine Ok.iter (fun i : Int => N + 1 - i.toNat) (fun i : Int => 0 ≤ i ∧ i ≤ N) (fun i hi => ?_) 0 ⟨by omega, by omega⟩
  refine (h i hi.1 hi.2).mono (fun r hr => ?_)
  cases r with
  | inl j => simp only [Rng, Stp] at hr ⊢; omega
  | inr a => exact hr
/-- The same loops are the same. -/
theorem iter_same {S A : Type} {f g : S → Option (S ⊕ A)} (h : ∀ s, f s = g s) (s : S) : iter f s = iter g s := by rw [funext h]
theorem idx_map {α β : Type} (f : α → β) (xs : List α) (i : Int) : idx (xs.map f) i = (idx xs i).map f := by
  unfold idx; split
  · simp
  · rfl
end Go.Beacon

/- Strings cut at one byte. No program in sight. -/
set_option linter.unusedVariables false
set_option linter.unusedSimpArgs false
namespace Go.Beacon
open Go Go.Eng

/-- A string cut at each byte c. -/
def splitC (c : UInt8) : Str → List Str
  | [] => [[]]
  | b :: r => if b = c then [] :: splitC c r else match splitC c r with
    | [] => [[b]]
    | h :: t => (b :: h) :: t
theorem splitC_length (c : UInt8) : ∀ s, (splitC c s).length ≤ s.length + 1
  | [] => by simp [splitC]
  | b :: r => by
    have ih := splitC_length c r
    unfold splitC
    split
    · simp; omega
    · split
      · simp
      · rename_i h t e; rw [e] at ih; simp at ih ⊢; omega
theorem split_C (c : UInt8) : ∀ s, Lib.split s [c] = splitC c s
  | [] => rfl
  | b :: r => by
    have ih := split_C c r
    unfold Lib.split at ih ⊢
    unfold splitC
    by_cases hb : b = c
    · subst hb
      have hix : Lib.index (b :: r) [b] = 0 := by rw [Lib.index]; simp [List.isPrefixOf]
      rw [if_pos rfl, Lib.count_cons_eq, Nat.add_comm, Lib.splitK, hix, ← ih]
      simp
    · rw [if_neg hb, Lib.count_cons_ne b c r hb, ← ih]
      have hp : ([c] : List UInt8).isPrefixOf (b :: r) = false := by simp [List.isPrefixOf, Ne.symm hb]
      have hix : Lib.index (b :: r) [c] = if Lib.index r [c] == -1 then -1 else Lib.index r [c] + 1 := by rw [Lib.index, hp]; simp
      by_cases hm : Lib.index r [c] = -1
      · rw [Lib.count_miss hm]; rfl
      · have hge := Lib.index_ge r [c]
        obtain ⟨j, hj⟩ : ∃ j : Nat, Lib.index r [c] = j := ⟨(Lib.index r [c]).toNat, by omega⟩
        have hix' : Lib.index (b :: r) [c] = ((j + 1 : Nat) : Int) := by rw [hix, if_neg (fun e => hm (beq_iff_eq.1 e)), hj]; omega
        rw [Lib.count_hit (by simp) hj, Nat.add_comm]
        have n1 : ¬ ((((j + 1 : Nat) : Int) == -1) = true) := fun h => by have := beq_iff_eq.1 h; omega
        have n2 : ¬ ((((j : Nat) : Int) == -1) = true) := fun h => by have := beq_iff_eq.1 h; omega
        simp only [Lib.splitK, hix', hj, if_neg n1, if_neg n2]
        simp [List.take_succ_cons]
/-- strings.Split at one byte. -/
theorem splitO_eq {s : Str} {c : UInt8} (h : s.length ≤ 1000000000) : splitO s [c] = some (splitC c s) := by
  unfold splitO
  rw [if_pos ⟨by omega, by simp⟩]
  congr 1
  have h1 := Lib.splitB_data ⟨#[c]⟩ 0 (Lib.countB ⟨s.toArray⟩ ⟨#[c]⟩) ⟨s.toArray⟩
  rw [← split_C]
  exact h1
end Go.Beacon

/- Numbers in their one spelling: what both readers of numbers take. No program in sight. -/
set_option linter.unusedVariables false
set_option linter.unusedSimpArgs false
namespace Go.Beacon
open Go Go.Eng

def isDig (c : UInt8) : Bool := decide (48 ≤ c.toNat) && decide (c.toNat ≤ 57)
theorem isDig_val {c : UInt8} (h : isDig c = true) : Lib.digitVal c = some (c.toNat - 48) := by
  unfold isDig at h; simp at h
  unfold Lib.digitVal; rw [if_pos h]
theorem val_dig {c : UInt8} {d : Nat} (h : Lib.digitVal c = some d) : isDig c = true ∧ d = c.toNat - 48 ∧ UInt8.ofNat (48 + d) = c := by
  obtain ⟨h1, h2, h3⟩ := Lib.digitVal_eq h
  refine ⟨by unfold isDig; simp; omega, h3, ?_⟩
  apply UInt8.toNat_inj.1
  rw [UInt8.toNat_ofNat']
  omega
theorem decFrom_all : ∀ (l : Str) (acc : Nat), l.all isDig = true → ∃ m, Lib.decFrom acc l = some m
  | [], acc, _ => ⟨acc, rfl⟩
  | b :: r, acc, h => by
    simp only [List.all_cons, Bool.and_eq_true] at h
    obtain ⟨m, hm⟩ := decFrom_all r (acc * 10 + (b.toNat - 48)) h.2
    exact ⟨m, by rw [Lib.decFrom, isDig_val h.1]; exact hm⟩
theorem dec_grow : ∀ (l : Str) (acc m : Nat), 0 < acc → Lib.decFrom acc l = some m → Lib.decDigits m = Lib.decDigits acc ++ l
  | [], acc, m, _, h => by simp only [Lib.decFrom, Option.some.injEq] at h; simp [h]
  | b :: r, acc, m, ha, h => by
    rw [Lib.decFrom] at h
    cases hd : Lib.digitVal b with
    | none => rw [hd] at h; simp at h
    | some d =>
      rw [hd] at h
      obtain ⟨h1, h2, h3⟩ := Lib.digitVal_eq hd
      have ih := dec_grow r (acc * 10 + d) m (by omega) h
      rw [ih, Lib.decDigits, dif_neg (by omega)]
      rw [show (acc * 10 + d) / 10 = acc by omega, show (acc * 10 + d) % 10 = d by omega, (val_dig hd).2.2]
      simp
theorem dec_head {m : Nat} (h : 0 < m) : ∃ b r, Lib.decDigits m = b :: r ∧ b ≠ 48 := by
  induction m using Nat.strongRecOn with
  | _ m ih =>
    rw [Lib.decDigits]
    split
    · refine ⟨_, _, rfl, ?_⟩
      intro e
      have := congrArg UInt8.toNat e
      rw [UInt8.toNat_ofNat'] at this
      simp at this; omega
    · obtain ⟨b, r, h1, h2⟩ := ih (m / 10) (by omega) (by omega)
      exact ⟨b, r ++ _, by rw [h1]; rfl, h2⟩
theorem dec_zero : Lib.decDigits 0 = [48] := by rw [Lib.decDigits, dif_pos (by omega)]; rfl
/-- Digits without a 0 ahead: the one spelling. -/
theorem dec_spelled {l : Str} {m : Nat} (h : Lib.decFrom 0 l = some m) (hl : l ≠ []) : Lib.decDigits m = l ↔ (l.head? ≠ some 48 ∨ l.length = 1) := by
  cases l with
  | nil => exact absurd rfl hl
  | cons b r =>
    rw [Lib.decFrom] at h
    cases hd : Lib.digitVal b with
    | none => rw [hd] at h; simp at h
    | some d =>
      rw [hd] at h
      simp only [Nat.zero_mul, Nat.zero_add] at h
      obtain ⟨h1, h2, h3⟩ := Lib.digitVal_eq hd
      by_cases hz : d = 0
      · subst hz
        have hb : b = 48 := by rw [← (val_dig hd).2.2]; rfl
        subst hb
        constructor
        · intro e
          right
          by_cases hm : m = 0
          · subst hm; rw [dec_zero] at e
            have := congrArg List.length e; simpa using this.symm
          · obtain ⟨b, r', h4, h5⟩ := dec_head (m := m) (by omega)
            rw [h4] at e; simp at e; exact absurd e.1 h5
        · rintro (e | e)
          · simp at e
          · have : r = [] := by cases r with
              | nil => rfl
              | cons _ _ => simp at e
            subst this
            simp only [Lib.decFrom, Option.some.injEq] at h
            subst h; exact dec_zero
      · have hg := dec_grow r d m (by omega) h
        have hd1 : Lib.decDigits d = [UInt8.ofNat (48 + d)] := by rw [Lib.decDigits, dif_pos (by omega)]
        rw [hd1, (val_dig hd).2.2] at hg
        constructor
        · intro _; left
          intro e; simp at e
          have e2 := (val_dig hd).2.1
          rw [e] at e2; simp at e2; omega
        · intro _; exact hg
theorem dec_digs (m : Nat) : (Lib.decDigits m).all isDig = true := by
  induction m using Nat.strongRecOn with
  | _ m ih =>
    rw [Lib.decDigits]
    have key : ∀ d, d < 10 → isDig (UInt8.ofNat (48 + d)) = true := by
      intro d hd
      unfold isDig; rw [UInt8.toNat_ofNat']; simp; omega
    split
    · rename_i h; rw [List.all_cons, key m h]; rfl
    · rw [List.all_append, ih (m / 10) (by omega), List.all_cons, key (m % 10) (by omega)]; rfl
theorem decFrom_append : ∀ (l r : Str) (acc : Nat), Lib.decFrom acc (l ++ r) = (Lib.decFrom acc l).bind fun a => Lib.decFrom a r
  | [], r, acc => rfl
  | b :: l, r, acc => by
    rw [List.cons_append, Lib.decFrom, Lib.decFrom]
    cases Lib.digitVal b with
    | none => rfl
    | some d => exact decFrom_append l r _
theorem decFrom_digs (m : Nat) : Lib.decFrom 0 (Lib.decDigits m) = some m := by
  induction m using Nat.strongRecOn with
  | _ m ih =>
    have key : ∀ d, d < 10 → Lib.digitVal (UInt8.ofNat (48 + d)) = some d := by
      intro d hd
      unfold Lib.digitVal; rw [UInt8.toNat_ofNat']
      rw [if_pos (by omega)]; congr 1; omega
    rw [Lib.decDigits]
    split
    · rename_i h; rw [Lib.decFrom, key m h]; simp [Lib.decFrom]
    · rw [decFrom_append, ih (m / 10) (by omega)]
      simp only [Option.bind_some]
      rw [Lib.decFrom, key (m % 10) (by omega)]
      simp only [Lib.decFrom]
      congr 1; omega
theorem dec_ne (m : Nat) : Lib.decDigits m ≠ [] := by
  rw [Lib.decDigits]; split
  · simp
  · simp
/-- What is written is read. -/
theorem atoi_itoa (n : Int) : Lib.atoi (Lib.itoa n) = some n := by
  unfold Lib.itoa
  have hN : ∀ m, Lib.decNat (Lib.decDigits m) = some m := by
    intro m; unfold Lib.decNat
    rw [if_neg (by simpa using dec_ne m), decFrom_digs]
  split
  · rw [Lib.atoi]; simp [hN]; omega
  · obtain ⟨b, r, e⟩ := List.exists_cons_of_ne_nil (dec_ne n.toNat)
    have hd := dec_digs n.toNat
    rw [e] at hd ⊢
    simp only [List.all_cons, Bool.and_eq_true] at hd
    have hb := hd.1
    unfold isDig at hb; simp at hb
    have n45 : b ≠ 45 := fun h => by subst h; simp at hb
    have n43 : b ≠ 43 := fun h => by subst h; simp at hb
    rw [Lib.atoi]
    simp only [beq_iff_eq, n45, n43, if_false]
    rw [← e, hN]; simp; omega

/-- The number that a string of at most so many digits spells, in its one spelling. -/
def numT (s : Str) (k : Int) : Option Int :=
  if (Lib.trimPrefix s [45] = [] ∨ k < (Lib.trimPrefix s [45]).length) ∨ (Lib.trimPrefix s [45]).all isDig = false then none
  else match Lib.atoi s with
    | some n => if Lib.itoa n = s then some n else none
    | none => none
theorem trimP_cases (s : Str) : (∃ d, s = 45 :: d ∧ Lib.trimPrefix s [45] = d) ∨ (Lib.trimPrefix s [45] = s ∧ s.head? ≠ some 45) := by
  cases s with
  | nil => right; exact ⟨rfl, by simp⟩
  | cons b r =>
    unfold Lib.trimPrefix
    by_cases h : b = 45
    · subst h; left; exact ⟨r, rfl, by simp [Lib.hasPrefix, List.isPrefixOf]⟩
    · right
      have hp : Lib.hasPrefix (b :: r) [45] = false := by simp [Lib.hasPrefix, List.isPrefixOf, Ne.symm h]
      rw [hp]; exact ⟨by simp, by simpa using h⟩
theorem trimP_length (s : Str) : (Lib.trimPrefix s [45]).length ≤ s.length ∧ s.length ≤ (Lib.trimPrefix s [45]).length + 1 := by
  rcases trimP_cases s with ⟨d, h1, h2⟩ | ⟨h1, _⟩
  · rw [h2, h1]; simp
  · rw [h1]; omega
theorem atoiAll_of {s : Str} {n : Int} (hl : s.length ≤ 18) (h : Lib.atoi s = some n) : Lib.atoiAll s = .ok n := by
  rw [Lib.atoiAll_short s hl, h]; rfl
/-- Digits behind an optional sign spell a number. -/
theorem atoi_digs {s : Str} (h1 : Lib.trimPrefix s [45] ≠ []) (h2 : (Lib.trimPrefix s [45]).all isDig = true) : ∃ n, Lib.atoi s = some n ∧ (Lib.itoa n = s ↔ ¬((Lib.trimPrefix s [45]).head? = some 48 ∧ (1 < (Lib.trimPrefix s [45]).length ∨ (Lib.trimPrefix s [45]).length < s.length))) := by
  rcases trimP_cases s with ⟨d, e1, e2⟩ | ⟨e1, e2⟩
  · rw [e2] at h1 h2 ⊢
    subst e1
    obtain ⟨m, hm⟩ := decFrom_all d 0 h2
    have hN : Lib.decNat d = some m := by unfold Lib.decNat; rw [if_neg (by simpa using h1), hm]
    refine ⟨-(m : Int), by rw [Lib.atoi]; simp [hN], ?_⟩
    have hs := dec_spelled hm h1
    have hlen : d.length < (45 :: d).length := by simp
    constructor
    · rintro e ⟨hh, _⟩
      unfold Lib.itoa at e
      split at e
      · have e' : Lib.decDigits m = d := by simpa using e
        rename_i hneg
        obtain ⟨b, r, h4, h5⟩ := dec_head (m := m) (by omega)
        rw [e'] at h4; rw [h4] at hh; simp at hh; exact h5 hh
      · have := dec_digs (-(m : Int)).toNat
        rw [e] at this; simp [isDig] at this
    · intro hn
      have hh : d.head? ≠ some 48 := fun hh => hn ⟨hh, .inr hlen⟩
      have e' := hs.2 (.inl hh)
      have hm0 : m ≠ 0 := by
        intro h0; subst h0; rw [dec_zero] at e'; subst e'; simp at hh
      unfold Lib.itoa
      rw [if_pos (by omega)]
      simp [e']
  · rw [e1] at h1 h2 ⊢
    obtain ⟨m, hm⟩ := decFrom_all s 0 h2
    have hN : Lib.decNat s = some m := by unfold Lib.decNat; rw [if_neg (by simpa using h1), hm]
    have hs := dec_spelled hm h1
    cases s with
    | nil => exact absurd rfl h1
    | cons b r =>
      have n45 : b ≠ 45 := by simpa using e2
      have hb : isDig b = true := by simp only [List.all_cons, Bool.and_eq_true] at h2; exact h2.1
      have n43 : b ≠ 43 := fun h => by subst h; simp [isDig] at hb
      refine ⟨m, by rw [Lib.atoi]; simp only [beq_iff_eq, n45, n43, if_false]; rw [hN]; rfl, ?_⟩
      have hi : Lib.itoa (m : Int) = Lib.decDigits m := by unfold Lib.itoa; rw [if_neg (by omega)]; simp
      rw [hi, hs]
      constructor
      · rintro (h | h) ⟨h3, h4⟩
        · exact h h3
        · omega
      · intro h
        by_cases hh : (b :: r).head? = some 48
        · right
          have : ¬ (1 < (b :: r).length) := fun h5 => h ⟨hh, .inl h5⟩
          simp at this ⊢; omega
        · exact .inl hh
theorem numT_bound {s : Str} {k : Nat} {n : Int} (h : numT s k = some n) : -(10 ^ k : Nat) < n ∧ n < (10 ^ k : Nat) := by
  unfold numT at h
  split at h
  · cases h
  · rename_i hc
    cases ha : Lib.atoi s with
    | none => rw [ha] at h; cases h
    | some n' =>
      rw [ha] at h
      simp only at h
      split at h
      · obtain rfl := Option.some.inj h
        simp only [not_or] at hc
        have hall : (Lib.trimPrefix s [45]).all isDig = true := by simpa using hc.2
        have hlen : (Lib.trimPrefix s [45]).length ≤ k := by have := hc.1.2; omega
        obtain ⟨m, hm⟩ := decFrom_all _ 0 hall
        have hb := Lib.decFrom_lt _ 0 m hm
        have hp : (10 : Nat) ^ (Lib.trimPrefix s [45]).length ≤ 10 ^ k := Nat.pow_le_pow_right (by omega) hlen
        have hmk : m < 10 ^ k := by omega
        have hnm : n' = m ∨ n' = -(m : Int) := by
          have hN : Lib.decNat (Lib.trimPrefix s [45]) = some m := by unfold Lib.decNat; rw [if_neg (by simpa using hc.1.1), hm]
          rcases trimP_cases s with ⟨d, e1, e2⟩ | ⟨e1, e2⟩
          · rw [e2] at hN; rw [e1, Lib.atoi] at ha; simp [hN] at ha; right; omega
          · rw [e1] at hN hall
            cases s with
            | nil => simp [Lib.atoi] at ha
            | cons b r =>
              have n45 : b ≠ 45 := by simpa using e2
              have hb : isDig b = true := by simp only [List.all_cons, Bool.and_eq_true] at hall; exact hall.1
              have n43 : b ≠ 43 := fun h => by subst h; simp [isDig] at hb
              rw [Lib.atoi] at ha
              simp only [beq_iff_eq, n45, n43, if_false] at ha
              rw [hN] at ha; simp at ha; left; omega
        omega
      · cases h
theorem numT_itoa {n : Int} {k : Int} (h : ((Lib.decDigits n.natAbs).length : Int) ≤ k) : numT (Lib.itoa n) k = some n := by
  have ht : Lib.trimPrefix (Lib.itoa n) [45] = Lib.decDigits n.natAbs := by
    unfold Lib.itoa
    split
    · unfold Lib.trimPrefix; simp [Lib.hasPrefix, List.isPrefixOf]
    · rename_i h0
      rw [show n.toNat = n.natAbs by omega]
      rcases trimP_cases (Lib.decDigits n.natAbs) with ⟨d, e1, e2⟩ | ⟨e1, e2⟩
      · have := dec_digs n.natAbs; rw [e1] at this; simp [isDig] at this
      · exact e1
  unfold numT
  rw [ht, if_neg (by
    rintro ((h1 | h1) | h1)
    · exact dec_ne _ h1
    · omega
    · rw [dec_digs] at h1; cases h1), atoi_itoa]
  simp
theorem Number_loop (s : Str) (hl : s.length ≤ 18) : base_Number_l1 s 0 = if (Lib.trimPrefix s [45]).all isDig = true then base_Number_k3 s else some (0, false) := by
  unfold base_Number_l1
  have hd : ((Lib.trimPrefix s [45]).length : Int) ≤ 4611686018427387904 := by have := trimP_length s; omega
  refine iter_to (fun x : Int => base_Number_b1 s x) (fun i => (Lib.trimPrefix s [45]).length + 1 - i.toNat) (fun i => 0 ≤ i ∧ i ≤ (Lib.trimPrefix s [45]).length ∧ ((Lib.trimPrefix s [45]).take i.toNat).all isDig = true) _ ?_ 0 ⟨by omega, by omega, by simp⟩
  rintro i ⟨h0, h1, h2⟩
  by_cases hi : i < (Lib.trimPrefix s [45]).length
  · obtain ⟨c, hc, _, hdr⟩ := idx_lt (Lib.trimPrefix s [45]) h0 hi
    have hg := (idx_some hc).2.2
    have hmem : c ∈ Lib.trimPrefix s [45] := idx_mem hc
    have hB : base_Number_b1 s i = if isDig c = true then some (.inl (w64 (i + 1))) else Option.map .inr (some ((0 : Int), false)) := by
      unfold base_Number_b1
      rw [if_pos hi, hc]
      simp only [Option.bind_some]
      unfold base_Number_j2 isDig
      by_cases a1 : (c.toNat : Int) < 48
      · rw [if_pos a1, if_pos rfl, if_neg (by simp; omega)]
      · rw [if_neg a1]
        by_cases a2 : (57 : Int) < c.toNat
        · rw [if_pos (by simpa using a2), if_neg (by simp; omega)]
        · rw [if_neg (by simpa using a2), if_pos (by simp; omega)]
    by_cases hdg : isDig c = true
    · left
      refine ⟨i + 1, ?_, ⟨by omega, by omega, ?_⟩, by omega⟩
      · show base_Number_b1 s i = _
        rw [hB, if_pos hdg, w64_in (by omega) (by omega)]
      · rw [show (i + 1).toNat = i.toNat + 1 by omega, List.take_add_one, List.all_append, h2, hg]; simp [hdg]
    · right
      show base_Number_b1 s i = _
      rw [hB, if_neg hdg, if_neg (fun h => hdg (List.all_eq_true.1 h c hmem))]
  · right
    show base_Number_b1 s i = _
    unfold base_Number_b1
    rw [if_neg hi]
    rw [List.take_of_length_le (by omega)] at h2
    rw [if_pos h2]
theorem atoiO_eq {s : Str} {n : Int} (hl : s.length ≤ 18) (h : Lib.atoi s = some n) : atoiO s = some (n, true) := by
  unfold atoiO; rw [if_pos (by omega), atoiAll_of hl h]
/-- The program's reader of numbers. -/
theorem Number_eq (s : Str) (k : Nat) (hk : k ≤ 17) : base_Number s k = some (match numT s k with | some n => (n, true) | none => (0, false)) := by
  have hln := trimP_length s
  unfold base_Number base_Number_j1
  by_cases h1 : Lib.trimPrefix s [45] = []
  · rw [if_pos h1, if_pos rfl]; unfold numT; rw [if_pos (.inl (.inl h1))]
  · rw [if_neg h1]
    by_cases h2 : (k : Int) < (Lib.trimPrefix s [45]).length
    · rw [if_pos h2, if_pos rfl]; unfold numT; rw [if_pos (.inl (.inr h2))]
    · rw [if_neg h2]
      have hpos : 0 < (Lib.trimPrefix s [45]).length := List.length_pos_iff.2 h1
      obtain ⟨c, hc, _, _⟩ := idx_lt (Lib.trimPrefix s [45]) (i := 0) (by omega) (by omega)
      have hh : (Lib.trimPrefix s [45]).head? = some c := by
        have := (idx_some hc).2.2
        rw [List.head?_eq_getElem?]; simpa using this
      rw [hc]
      simp only [Option.bind_some]
      rw [Number_loop s (by omega)]
      by_cases hall : (Lib.trimPrefix s [45]).all isDig = true
      · obtain ⟨n, hn, hiff⟩ := atoi_digs h1 hall
        have hnT : numT s k = if Lib.itoa n = s then some n else none := by
          unfold numT; rw [if_neg (by rintro ((h | h) | h)
                                      · exact h1 h
                                      · exact h2 h
                                      · rw [hall] at h; cases h), hn]
        have hcond : (decide ((c.toNat : Int) = 48) && (decide ((1 : Int) < (Lib.trimPrefix s [45]).length) || decide (((Lib.trimPrefix s [45]).length : Int) < s.length))) = true ↔ ¬ Lib.itoa n = s := by
          rw [hiff, hh]
          simp only [Bool.and_eq_true, decide_eq_true_eq, Bool.or_eq_true, Option.some.injEq, Classical.not_not]
          constructor
          · rintro ⟨a, b⟩; exact ⟨UInt8.toNat_inj.1 (by simpa using (by omega : c.toNat = 48)), by omega⟩
          · rintro ⟨a, b⟩; exact ⟨by rw [a]; rfl, by omega⟩
        by_cases hi : Lib.itoa n = s
        · rw [if_neg (fun h => hcond.1 h hi), if_pos hall, hnT, if_pos hi]
          unfold base_Number_k3
          rw [atoiO_eq (by omega) hn]; rfl
        · rw [if_pos (hcond.2 hi), hnT, if_neg hi]
      · have hnT : numT s k = none := by unfold numT; rw [if_pos (.inr (by simpa using hall))]
        rw [hnT, if_neg hall]; simp
end Go.Beacon

/- Versions and images: checks, order, texts. No program in sight. -/
set_option linter.unusedVariables false
set_option linter.unusedSimpArgs false
namespace Go.Beacon
open Go Go.Eng

/-! order -/
def vcmp (a b : Version) : Int := orL [cmpI a.Major b.Major, cmpI a.Minor b.Minor, cmpI a.Patch b.Patch]
theorem vCompare_eq (a b : Version) : campaign_Compare a b = some (vcmp a b) := by
  unfold campaign_Compare
  have h : cmp_Or_int [cmp_Compare_int a.Major b.Major, cmp_Compare_int a.Minor b.Minor, cmp_Compare_int a.Patch b.Patch] = some (orL [cmp_Compare_int a.Major b.Major, cmp_Compare_int a.Minor b.Minor, cmp_Compare_int a.Patch b.Patch]) := gOr_eq _ (by simp)
  rw [h, CompareI_eq, CompareI_eq, CompareI_eq]; rfl
theorem vOrder_eq (a b : Version) : Q_VersionOrder a b = some (vcmp a b) := by
  unfold Q_VersionOrder
  have step : ∀ (i : Nat) (x y : Int), [a.Major, a.Minor, a.Patch][i]? = some x → [b.Major, b.Minor, b.Patch][i]? = some y → slices_Compare_int_int_b1 [a.Major, a.Minor, a.Patch] [b.Major, b.Minor, b.Patch] (i : Int) = if cmpI x y ≠ 0 then some (.inr (cmpI x y)) else some (.inl ((i : Int) + 1)) := by
    intro i x y h1 h2
    have hi : i < 3 := by simpa using (List.getElem?_eq_some_iff.1 h1).1
    unfold slices_Compare_int_int_b1
    rw [if_pos (by simp; omega)]
    have e1 : idx [a.Major, a.Minor, a.Patch] (i : Int) = some x := by unfold idx; rw [if_pos (by omega)]; simpa using h1
    have e2 : idx [b.Major, b.Minor, b.Patch] (i : Int) = some y := by unfold idx; rw [if_pos (by omega)]; simpa using h2
    rw [e1]
    simp only [Option.bind_some]
    rw [if_neg (by simp; omega), e2]
    simp only [Option.bind_some, CompareI_eq]
    rw [w64_in (by omega) (by omega)]
    rfl
  have s0 : slices_Compare_int_int_b1 [a.Major, a.Minor, a.Patch] [b.Major, b.Minor, b.Patch] 0 = if cmpI a.Major b.Major ≠ 0 then some (.inr (cmpI a.Major b.Major)) else some (.inl 1) := step 0 a.Major b.Major rfl rfl
  have s1 : slices_Compare_int_int_b1 [a.Major, a.Minor, a.Patch] [b.Major, b.Minor, b.Patch] 1 = if cmpI a.Minor b.Minor ≠ 0 then some (.inr (cmpI a.Minor b.Minor)) else some (.inl 2) := step 1 a.Minor b.Minor rfl rfl
  have s2 : slices_Compare_int_int_b1 [a.Major, a.Minor, a.Patch] [b.Major, b.Minor, b.Patch] 2 = if cmpI a.Patch b.Patch ≠ 0 then some (.inr (cmpI a.Patch b.Patch)) else some (.inl 3) := step 2 a.Patch b.Patch rfl rfl
  have s3 : slices_Compare_int_int_b1 [a.Major, a.Minor, a.Patch] [b.Major, b.Minor, b.Patch] 3 = some (.inr 0) := by
    unfold slices_Compare_int_int_b1 slices_Compare_int_int_k1
    rw [if_neg (by simp), if_neg (by simp)]; rfl
  unfold slices_Compare_int_int slices_Compare_int_int_l1
  unfold vcmp orL orL orL orL
  rw [iter_eq, s0]
  by_cases c0 : cmpI a.Major b.Major = 0
  · rw [if_neg (by simpa using c0), if_neg (by simpa using c0)]
    simp only [Option.bind_some, after_inl]
    rw [iter_eq, s1]
    by_cases c1 : cmpI a.Minor b.Minor = 0
    · rw [if_neg (by simpa using c1), if_neg (by simpa using c1)]
      simp only [Option.bind_some, after_inl]
      rw [iter_eq, s2]
      by_cases c2 : cmpI a.Patch b.Patch = 0
      · rw [if_neg (by simpa using c2), if_neg (by simpa using c2)]
        simp only [Option.bind_some, after_inl]
        rw [iter_eq, s3]; rfl
      · rw [if_pos c2, if_pos c2]; rfl
    · rw [if_pos c1, if_pos c1]; rfl
  · rw [if_pos c0, if_pos c0]; rfl
theorem vcmp_neg (a b : Version) : vcmp b a = - vcmp a b := by
  unfold vcmp
  rw [cmpI_neg b.Major a.Major, cmpI_neg b.Minor a.Minor, cmpI_neg b.Patch a.Patch]
  simp only [orL]
  repeat' split
  all_goals omega
/-! checks -/
def verB (v : Version) : Bool := (decide (0 ≤ v.Major) && decide (v.Major ≤ 9999)) && (decide (0 ≤ v.Minor) && decide (v.Minor ≤ 9999)) && (decide (0 ≤ v.Patch) && decide (v.Patch ≤ 9999))
theorem Version_chk (v : Version) : base_Version v = verB v := by
  unfold base_Version base_Version_j1 verB
  rw [Out_eq, Out_eq, Out_eq, Bool.eq_iff_iff]
  simp; omega
theorem Qver_eq (v : Version) : Q_versionFault v = if verB v = true then 0 else 1 := by
  unfold Q_versionFault Q_versionFault_j1
  rw [Qin_eq, Qin_eq, Qin_eq]
  by_cases h : verB v = true
  · rw [if_pos h, if_neg]; unfold verB at h; simp at h ⊢; omega
  · rw [if_neg h, if_pos]; unfold verB at h; simp at h ⊢; omega
theorem ver_eq (v : Version) : campaign_versionFault v = if verB v = true then 0 else 1 := by
  unfold campaign_versionFault
  rw [Version_chk]
  cases verB v <;> rfl
theorem fits_eq (x : Image) (v : Version) : campaign_covers x v = Q_fits x v := by
  unfold campaign_covers Q_fits
  have h : (fun y0 => campaign_covers_1x y0 v) = (fun y0 => Q_fits_1x y0 v) := by
    funext y
    unfold campaign_covers_1x Q_fits_1x campaign_covers_1x_j1 Q_fits_1x_j1
    simp only [vCompare_eq, vOrder_eq]
  rw [h]
def coverB (v : Version) (r : Range) : Bool := decide (vcmp r.Low v ≤ 0) && decide (vcmp v r.High ≤ 0)
theorem Qfits_eq (x : Image) (v : Version) (h : x.From.length ≤ 1000000) : Q_fits x v = some (x.From.any (coverB v)) := by
  unfold Q_fits
  have e : slices_ContainsFunc_Range_Range x.From (fun y0 => Q_fits_1x y0 v) = some (x.From.any (coverB v)) := gContainsFunc_eq x.From _ (coverB v) (fun r _ => by
    unfold Q_fits_1x Q_fits_1x_j1 coverB
    simp only [vOrder_eq, Option.bind_some]
    by_cases c : vcmp r.Low v ≤ 0
    · rw [if_pos c]; simp [c]
    · rw [if_neg c]; simp [c]) (by omega)
  rw [e]; rfl
theorem rangesFault_eq (x : Image) : campaign_rangesFault x = Q_rangesFault x := by
  unfold campaign_rangesFault Q_rangesFault
  split
  · rfl
  · unfold campaign_rangesFault_l1 Q_rangesFault_l1
    refine iter_same (fun i => ?_) 0
    unfold campaign_rangesFault_b1 Q_rangesFault_b1
    split
    · congr 1; funext r
      have s0 : Q_rangesFault_b2 x i r 0 = if verB r.Low = true then some (.inl 1) else some (.inr (.inr 1)) := by
        unfold Q_rangesFault_b2
        rw [if_pos (by simp)]
        have e1 : idx [r.Low, r.High] 0 = some r.Low := rfl
        rw [e1]
        simp only [Option.bind_some, Qver_eq]
        rw [w64_in (by omega) (by omega)]
        cases verB r.Low <;> rfl
      have s1 : Q_rangesFault_b2 x i r 1 = if verB r.High = true then some (.inl 2) else some (.inr (.inr 1)) := by
        unfold Q_rangesFault_b2
        rw [if_pos (by simp)]
        have e1 : idx [r.Low, r.High] 1 = some r.High := rfl
        rw [e1]
        simp only [Option.bind_some, Qver_eq]
        rw [w64_in (by omega) (by omega)]
        cases verB r.High <;> rfl
      have s2 : Q_rangesFault_b2 x i r 2 = Option.map .inr (Q_rangesFault_k2 x i r) := by
        unfold Q_rangesFault_b2
        rw [if_neg (by simp)]
      unfold Q_rangesFault_l2
      rw [iter_eq, s0, Version_chk, Version_chk]
      unfold campaign_rangesFault_j1
      cases h1 : verB r.Low with
      | false => simp [after]
      | true =>
        simp only [Bool.not_true, Bool.false_eq_true, if_false, if_true, Option.bind_some, after_inl]
        rw [iter_eq, s1]
        cases h2 : verB r.High with
        | false => simp [after]
        | true =>
          simp only [Bool.not_true, Bool.false_eq_true, if_false, if_true, Option.bind_some, after_inl]
          rw [iter_eq, s2, map_inr_after]
          unfold Q_rangesFault_k2 campaign_rangesFault_j2 Q_rangesFault_j1
          simp only [vCompare_eq, vOrder_eq, Option.bind_some]
          by_cases c : (0 : Int) < vcmp r.Low r.High
          · simp [c]
          · simp only [c, decide_false, Bool.false_eq_true, if_false]
    · unfold campaign_rangesFault_k3 Q_rangesFault_k3
      rw [fits_eq]
theorem Images_chk (xs : List Image) : campaign_CheckImages xs = Q_ImagesFault xs := by
  unfold campaign_CheckImages Q_ImagesFault
  split
  · rfl
  · unfold campaign_CheckImages_l1 Q_ImagesFault_l1
    refine iter_same (fun i => ?_) 0
    have j1 : ∀ (x : Image) (c : Bool), campaign_CheckImages_j1 i x c = Q_ImagesFault_j1 i x c := by
      intro x c
      unfold campaign_CheckImages_j1 Q_ImagesFault_j1
      split
      · rfl
      · split
        · rfl
        · split
          · rfl
          · unfold campaign_CheckImages_l2 Q_ImagesFault_l2
            refine iter_same (fun k => ?_) 0
            unfold campaign_CheckImages_b2 Q_ImagesFault_b2 campaign_CheckImages_j2 Q_ImagesFault_j2
            split
            · congr 1; funext m
              rw [Key_eq, QKey_eq]
            · unfold campaign_CheckImages_k3 Q_ImagesFault_k3
              rw [rangesFault_eq, Out_eq, Qin_eq]
              congr 2; funext e
              split
              · rfl
              · have : (decide (x.Size < 1) || decide (1000000000 < x.Size)) = !(decide (1 ≤ x.Size) && decide (x.Size ≤ 1000000000)) := by
                  rw [Bool.eq_iff_iff]; simp <;> omega
                rw [this]
    unfold campaign_CheckImages_b1 Q_ImagesFault_b1
    split
    · congr 1; funext x
      rw [Version_chk, Qver_eq]
      cases h : verB x.Version with
      | false => simp
      | true =>
        simp only [Bool.not_true, Bool.false_eq_true, if_false, if_true, ne_eq, not_true_eq_false]
        split
        · congr 1; funext y
          simp only [vCompare_eq, vOrder_eq, Option.bind_some]
          rw [j1, vcmp_neg]
          congr 1
          rw [decide_eq_decide]; omega
        · exact j1 x false
    · rfl
/-- Images whose lists are short. -/
def ImgB (x : Image) : Prop := x.Models.length ≤ 10 ∧ x.From.length ≤ 10
def ImgsB (xs : List Image) : Prop := xs.length ≤ 8 ∧ ∀ x ∈ xs, ImgB x
/-- Several numbers. -/
def numsT (k : Int) : List Str → Option (List Int)
  | [] => some []
  | w :: r => match numT w k, numsT k r with
    | some n, some l => some (n :: l)
    | _, _ => none
theorem Numbers_loop (ws : List Str) (k : Nat) (hk : k ≤ 17) (hl : ws.length ≤ 100000000) : ∀ (m : Nat) (l : List Int) (i : Int), 0 ≤ i → i + m = ws.length → (l.length : Int) = i →
    base_Numbers_l1 ws k l i = some (match numsT k (ws.drop i.toNat) with | some r => (l ++ r, true) | none => ([], false))
  | 0, l, i, h0, hm, he => by
    unfold base_Numbers_l1
    rw [iter_eq, base_Numbers_b1, if_neg (by simp only; omega), map_inr_after, List.drop_of_length_le (by omega)]
    simp [numsT]
  | m + 1, l, i, h0, hm, he => by
    have ih := Numbers_loop ws k hk hl m
    unfold base_Numbers_l1 at ih ⊢
    obtain ⟨w, hw, _, hd⟩ := idx_lt ws h0 (by omega)
    rw [iter_eq, base_Numbers_b1, if_pos (by simp only; omega)]
    simp only [hw, Option.bind_some]
    rw [Number_eq w k hk, hd, numsT]
    simp only [Option.bind_some]
    cases hn : numT w k with
    | none => simp [after]
    | some n =>
      simp only [Bool.not_true, Bool.false_eq_true, if_false]
      rw [app_le (by simp; omega)]
      simp only [Option.bind_some, after_inl]
      rw [w64_in (by omega) (by omega), ih (l ++ [n]) (i + 1) (by omega) (by omega) (by simp; omega)]
      cases numsT k (ws.drop (i + 1).toNat) with
      | none => rfl
      | some r => simp
theorem Numbers_eq (ws : List Str) (k : Nat) (hk : k ≤ 17) (hl : ws.length ≤ 100000000) : base_Numbers ws k = some (match numsT k ws with | some r => (r, true) | none => ([], false)) := by
  unfold base_Numbers
  rw [Numbers_loop ws k hk hl ws.length [] 0 (by omega) (by omega) (by simp)]
  simp
/-- The version that a string spells. -/
def verOf (s : Str) : Option Version := match numsT 4 (splitC 46 s) with
  | some [x, y, z] => if 0 ≤ x ∧ 0 ≤ y ∧ 0 ≤ z then some ⟨x, y, z⟩ else none
  | _ => none
theorem len3 {α : Type} : ∀ {l : List α}, l.length = 3 → ∃ a b c, l = [a, b, c]
  | [a, b, c], _ => ⟨a, b, c, rfl⟩
theorem numsT_bound {k : Nat} : ∀ {ws : List Str} {l : List Int}, numsT k ws = some l → ∀ x ∈ l, -(10 ^ k : Nat) < x ∧ x < (10 ^ k : Nat)
  | [], l, h => by simp [numsT] at h; subst h; simp
  | w :: r, l, h => by
    rw [numsT] at h
    cases h1 : numT w k with
    | none => rw [h1] at h; simp at h
    | some n =>
      cases h2 : numsT k r with
      | none => rw [h1, h2] at h; simp at h
      | some t =>
        rw [h1, h2] at h
        simp only [Option.some.injEq] at h; subst h
        intro x hx
        rcases List.mem_cons.1 hx with rfl | hx
        · exact numT_bound h1
        · exact numsT_bound h2 x hx
theorem Parse_eq (s : Str) (hs : s.length ≤ 1000000) : campaign_ParseVersion s = some (match verOf s with | some v => (v, 0) | none => (⟨0, 0, 0⟩, 9)) := by
  unfold campaign_ParseVersion
  have hl := splitC_length 46 s
  rw [splitO_eq (by omega)]
  simp only [Option.bind_some]
  rw [show (4 : Int) = ((4 : Nat) : Int) from rfl, Numbers_eq _ 4 (by omega) (by omega)]
  simp only [Option.bind_some]
  unfold campaign_ParseVersion_j1 verOf
  rw [show (4 : Int) = ((4 : Nat) : Int) from rfl]
  generalize hN : numsT ((4 : Nat) : Int) (splitC 46 s) = o
  cases o with
  | none => rfl
  | some l =>
    by_cases h3 : l.length = 3
    · obtain ⟨x, y, z, rfl⟩ := len3 h3
      have bd := numsT_bound hN
      have bx := bd x (by simp)
      have by_ := bd y (by simp)
      have bz := bd z (by simp)
      simp only [Bool.not_true, Bool.false_or]
      rw [if_neg (by simp)]
      have e0 : idx [x, y, z] 0 = some x := rfl
      have e1 : idx [x, y, z] 1 = some y := rfl
      have e2 : idx [x, y, z] 2 = some z := rfl
      rw [e0, e1, e2]
      simp only [Option.bind_some, Version_chk]
      by_cases hp : 0 ≤ x ∧ 0 ≤ y ∧ 0 ≤ z
      · rw [if_pos hp, if_neg]
        unfold verB; simp; omega
      · rw [if_neg hp, if_pos]
        unfold verB; simp; omega
    · simp only
      rw [if_pos (by simp; omega)]
      split
      · rename_i v e
        split at e
        · rename_i e2; obtain rfl := Option.some.inj e2; simp at h3
        · cases e
      · rfl
theorem versioned_eq : L_versioned = some true := by
  unfold L_versioned
  rw [Parse_eq _ (by simp)]
  have h : verOf [49, 46, 50, 46, 51] = some ⟨1, 2, 3⟩ := by
    have e : splitC 46 [49, 46, 50, 46, 51] = [[49], [50], [51]] := by decide
    have i1 : Lib.itoa 1 = [49] := by unfold Lib.itoa; rw [if_neg (by omega), Lib.decDigits, dif_pos (by decide)]; rfl
    have i2 : Lib.itoa 2 = [50] := by unfold Lib.itoa; rw [if_neg (by omega), Lib.decDigits, dif_pos (by decide)]; rfl
    have i3 : Lib.itoa 3 = [51] := by unfold Lib.itoa; rw [if_neg (by omega), Lib.decDigits, dif_pos (by decide)]; rfl
    have n1 := numT_itoa (n := 1) (k := 4) (by rw [Lib.decDigits, dif_pos (by decide)]; simp)
    have n2 := numT_itoa (n := 2) (k := 4) (by rw [Lib.decDigits, dif_pos (by decide)]; simp)
    have n3 := numT_itoa (n := 3) (k := 4) (by rw [Lib.decDigits, dif_pos (by decide)]; simp)
    rw [i1] at n1; rw [i2] at n2; rw [i3] at n3
    unfold verOf
    rw [e]
    simp [numsT, n1, n2, n3]
  rw [h]
  simp [L_versioned_j1]
end Go.Beacon

/- Walks from version to version: the shortest, of these the smallest, of these the first by order. No program in sight. -/
set_option linter.unusedVariables false
set_option linter.unusedSimpArgs false
set_option linter.unusedSectionVars false
namespace Go.Beacon
open Go Go.Eng

/-- Lists without repetition, of elements of a list. -/
theorem nodup_len {α : Type} [DecidableEq α] : ∀ {p l : List α}, p.Nodup → (∀ x ∈ p, x ∈ l) → p.length ≤ l.length
  | [], l, _, _ => Nat.zero_le _
  | x :: r, l, hn, hs => by
    have hn' := List.nodup_cons.1 hn
    have hx := hs x List.mem_cons_self
    have h := nodup_len (p := r) (l := l.erase x) hn'.2 (fun y hy => (List.mem_erase_of_ne (fun e => hn'.1 (by rw [← e]; exact hy))).2 (hs y (List.mem_cons_of_mem _ hy)))
    have e := List.length_erase_of_mem hx
    have hp := List.length_pos_of_mem hx
    rw [List.length_cons]; omega

/-- Ways of the same length by order. -/
def lexC {V : Type} (cmp : V → V → Int) : List V → List V → Int
  | [], [] => 0
  | [], _ :: _ => -1
  | _ :: _, [] => 1
  | a :: r, b :: s => if cmp a b ≠ 0 then cmp a b else lexC cmp r s
theorem lexC_cons {V : Type} (cmp : V → V → Int) (a b : V) (r s : List V) : lexC cmp (a :: r) (b :: s) = if cmp a b ≠ 0 then cmp a b else lexC cmp r s := rfl
structure Net (V I : Type) where
  ver : I → V
  size : I → Int
  nxt : V → List I
  cmp : V → V → Int
structure Net.Good {V I : Type} (N : Net V I) (own : List I) : Prop where
  neg : ∀ a b, N.cmp b a = - N.cmp a b
  zero : ∀ a b, N.cmp a b = 0 → a = b
  tr : ∀ a b c, N.cmp a b ≤ 0 → N.cmp b c ≤ 0 → N.cmp a c ≤ 0
  inn : ∀ v, ∀ x ∈ N.nxt v, x ∈ own
  inj : ∀ x ∈ own, ∀ y ∈ own, N.ver x = N.ver y → x = y
namespace Net
variable {V I : Type} (N : Net V I)
theorem Good.refl {own : List I} (h : N.Good own) (a : V) : N.cmp a a = 0 := by have := h.neg a a; omega
theorem Good.lexC_self {own : List I} (h : N.Good own) : ∀ l : List V, lexC N.cmp l l = 0
  | [] => rfl
  | a :: r => by rw [lexC_cons, if_neg (by simpa using h.refl N a)]; exact Good.lexC_self h r
theorem Good.lexC_neg {own : List I} (h : N.Good own) : ∀ a b : List V, lexC N.cmp b a = - lexC N.cmp a b
  | [], [] => rfl
  | [], _ :: _ => rfl
  | _ :: _, [] => rfl
  | x :: r, y :: s => by
    rw [lexC_cons, lexC_cons]
    have e := h.neg x y
    by_cases c : N.cmp x y = 0
    · rw [if_neg (by omega), if_neg (by omega)]; exact Good.lexC_neg h r s
    · rw [if_pos (by omega), if_pos c, e]
theorem Good.lexC_zero {own : List I} (h : N.Good own) : ∀ a b : List V, lexC N.cmp a b = 0 → a = b
  | [], [], _ => rfl
  | [], _ :: _, e => by unfold lexC at e; omega
  | _ :: _, [], e => by unfold lexC at e; omega
  | x :: r, y :: s, e => by
    rw [lexC_cons] at e
    by_cases c : N.cmp x y = 0
    · rw [if_neg (by simpa using c)] at e
      rw [h.zero x y c, Good.lexC_zero h r s e]
    · rw [if_pos c] at e; exact absurd e c
theorem Good.lexC_tr {own : List I} (h : N.Good own) : ∀ a b c : List V, lexC N.cmp a b ≤ 0 → lexC N.cmp b c ≤ 0 → lexC N.cmp a c ≤ 0
  | [], [], _, _, h2 => h2
  | [], _ :: _, [], _, h2 => by unfold lexC at h2; omega
  | [], _ :: _, _ :: _, _, _ => by unfold lexC; omega
  | _ :: _, [], _, h1, _ => by unfold lexC at h1; omega
  | _ :: _, _ :: _, [], _, h2 => by unfold lexC at h2; omega
  | x :: r, y :: s, z :: t, h1, h2 => by
    rw [lexC_cons] at h1 h2 ⊢
    have e1 := h.neg x y
    have e2 := h.neg y z
    by_cases c1 : N.cmp x y = 0
    · obtain rfl := h.zero x y c1
      rw [if_neg (by simpa using c1)] at h1
      by_cases c2 : N.cmp x z = 0
      · rw [if_neg (by simpa using c2)] at h2 ⊢
        exact Good.lexC_tr h r s t h1 h2
      · rw [if_pos c2] at h2 ⊢; exact h2
    · rw [if_pos c1] at h1
      have h4 : N.cmp y z ≤ 0 := by
        by_cases c2 : N.cmp y z = 0
        · omega
        · rw [if_pos c2] at h2; exact h2
      have h3 := h.tr x y z h1 h4
      have h5 : N.cmp x z ≠ 0 := fun e => by
        obtain rfl := h.zero x z e
        have := h.neg x y
        omega
      rw [if_pos h5]; exact h3
theorem lexC_app (cmp : V → V → Int) : ∀ (a b : List V) (c d : List V), a.length = b.length → lexC cmp (a ++ c) (b ++ d) = if lexC cmp a b ≠ 0 then lexC cmp a b else lexC cmp c d
  | [], [], c, d, _ => by simp [lexC]
  | x :: r, y :: s, c, d, hl => by
    rw [List.cons_append, List.cons_append, lexC_cons, lexC_cons]
    by_cases h : cmp x y = 0
    · have hn : ¬ cmp x y ≠ 0 := by simpa using h
      simp only [if_neg hn]
      exact lexC_app cmp r s c d (by simpa using hl)
    · simp only [if_pos h]
  | [], _ :: _, _, _, h => by simp at h
  | _ :: _, [], _, _, h => by simp at h

/-! walks -/
def chain : V → List I → Prop
  | _, [] => True
  | v, x :: r => x ∈ N.nxt v ∧ chain (N.ver x) r
def fin : V → List I → V
  | v, [] => v
  | _, x :: r => fin (N.ver x) r
def wsz : List I → Int
  | [] => 0
  | x :: r => N.size x + wsz r
def Walk (v : V) (p : List I) (w : V) : Prop := N.chain v p ∧ N.fin v p = w
theorem Walk.cons {v w : V} {x : I} {r : List I} : N.Walk v (x :: r) w ↔ x ∈ N.nxt v ∧ N.Walk (N.ver x) r w := by
  show (x ∈ N.nxt v ∧ N.chain (N.ver x) r) ∧ N.fin (N.ver x) r = w ↔ x ∈ N.nxt v ∧ (N.chain (N.ver x) r ∧ N.fin (N.ver x) r = w)
  exact and_assoc
theorem Walk.nil {v w : V} : N.Walk v [] w ↔ v = w := by unfold Walk chain fin; simp
theorem Walk.snoc {x : I} : ∀ {p : List I} {v w : V}, N.Walk v (p ++ [x]) w ↔ N.ver x = w ∧ ∃ u, N.Walk v p u ∧ x ∈ N.nxt u
  | [], v, w => by
    rw [List.nil_append, Walk.cons, Walk.nil]
    constructor
    · intro h; exact ⟨h.2, v, (Walk.nil N).2 rfl, h.1⟩
    · rintro ⟨h, u, h1, h2⟩; rw [Walk.nil] at h1; subst h1; exact ⟨h2, h⟩
  | y :: r, v, w => by
    rw [List.cons_append, Walk.cons, Walk.snoc]
    constructor
    · rintro ⟨h1, h2, u, h3, h4⟩; exact ⟨h2, u, (Walk.cons N).2 ⟨h1, h3⟩, h4⟩
    · rintro ⟨h2, u, h3, h4⟩; rw [Walk.cons] at h3; exact ⟨h3.1, h2, u, h3.2, h4⟩
theorem wsz_cons (x : I) (r : List I) : N.wsz (x :: r) = N.size x + N.wsz r := rfl
theorem wsz_snoc (x : I) : ∀ p : List I, N.wsz (p ++ [x]) = N.wsz p + N.size x
  | [] => by simp [wsz]
  | y :: r => by rw [List.cons_append, wsz, wsz, wsz_snoc x r]; omega
/-- The order of ways: length, size, versions. -/
def Le (p q : List I) : Prop := p.length < q.length ∨ (p.length = q.length ∧ (N.wsz p < N.wsz q ∨ (N.wsz p = N.wsz q ∧ lexC N.cmp (p.map N.ver) (q.map N.ver) ≤ 0)))
def Best (v w : V) (p : List I) : Prop := N.Walk v p w ∧ ∀ q, N.Walk v q w → N.Le p q
theorem Best.unique {own : List I} (h : N.Good own) {v w : V} {p q : List I} (hp : N.Best v w p) (hq : N.Best v w q) : p.map N.ver = q.map N.ver := by
  have h1 := hp.2 q hq.1
  have h2 := hq.2 p hp.1
  have e := h.lexC_neg N (p.map N.ver) (q.map N.ver)
  refine h.lexC_zero N _ _ ?_
  unfold Le at h1 h2
  omega

/-! costs -/
def lexle (a b : Int × Int) : Prop := a.1 < b.1 ∨ (a.1 = b.1 ∧ a.2 ≤ b.2)
variable [DecidableEq V] [DecidableEq I]
structure Costs (own : List I) (to : V) (c : V → Option (Int × Int)) : Prop where
  atto : c to = some (0, 0)
  sound : ∀ v k, c v = some k → ∃ p, N.Walk v p to ∧ (p.length : Int) = k.1 ∧ N.wsz p = k.2
  closed : ∀ x ∈ own, ∀ y ∈ N.nxt (N.ver x), ∀ k, c (N.ver y) = some k → ∃ k', c (N.ver x) = some k' ∧ lexle k' (k.1 + 1, k.2 + N.size y)
variable {N}
theorem Costs.low {own : List I} {to : V} {c : V → Option (Int × Int)} (h : N.Good own) (C : N.Costs own to c) : ∀ (p : List I) (v : V), (v = to ∨ ∃ x ∈ own, N.ver x = v) → N.Walk v p to → ∃ k, c v = some k ∧ lexle k (p.length, N.wsz p)
  | [], v, _, hw => by
    rw [Walk.nil] at hw; subst hw
    exact ⟨_, C.atto, .inr ⟨rfl, Int.le_refl _⟩⟩
  | x :: r, v, hv, hw => by
    rw [Walk.cons] at hw
    have hx := h.inn v x hw.1
    obtain ⟨k, h1, h2⟩ := Costs.low h C r (N.ver x) (.inr ⟨x, hx, rfl⟩) hw.2
    rcases hv with rfl | ⟨z, hz, rfl⟩
    · refine ⟨_, C.atto, ?_⟩
      left; simp only [List.length_cons]; omega
    · obtain ⟨k', h3, h4⟩ := C.closed z hz x hw.1 k h1
      refine ⟨k', h3, ?_⟩
      rw [wsz_cons]
      unfold lexle at *
      simp only [List.length_cons] at *
      omega
/-- The way that a search finds which takes the best next step each time. -/
inductive Greedy (N : Net V I) (c : V → Option (Int × Int)) (to : V) : V → List I → Prop
  | nil : Greedy N c to to []
  | cons {v : V} {x : I} {r : List I} {k : Int × Int} (hv : v ≠ to) (hx : x ∈ N.nxt v) (hk : c (N.ver x) = some k)
      (hb : ∀ y ∈ N.nxt v, ∀ k', c (N.ver y) = some k' → k.1 < k'.1 ∨ (k.1 = k'.1 ∧ (k.2 + N.size x < k'.2 + N.size y ∨ (k.2 + N.size x = k'.2 + N.size y ∧ N.cmp (N.ver x) (N.ver y) ≤ 0))))
      (hr : Greedy N c to (N.ver x) r) : Greedy N c to v (x :: r)
theorem Greedy.best {own : List I} {to : V} {c : V → Option (Int × Int)} (h : N.Good own) (C : N.Costs own to c) : ∀ {p : List I} {v : V}, Greedy N c to v p → N.Best v to p ∧ ((v = to ∨ ∃ x ∈ own, N.ver x = v) → c v = some ((p.length : Int), N.wsz p))
  | [], v, hg => by
    cases hg
    refine ⟨⟨(Walk.nil N).2 rfl, fun q hq => ?_⟩, fun _ => C.atto⟩
    unfold Le
    cases q with
    | nil => right; refine ⟨rfl, .inr ⟨rfl, by simp [lexC]⟩⟩
    | cons y s => left; simp
  | x :: r, v, hg => by
    cases hg with
    | @cons _ _ _ k hv hx hk hb hr =>
    obtain ⟨hb1, hc1⟩ := Greedy.best h C hr
    have hxo := h.inn v x hx
    have hc := hc1 (.inr ⟨x, hxo, rfl⟩)
    rw [hk] at hc
    obtain rfl := Option.some.inj hc
    have hbest : N.Best v to (x :: r) := by
      refine ⟨(Walk.cons N).2 ⟨hx, hb1.1⟩, fun q hq => ?_⟩
      cases q with
      | nil => exact absurd ((Walk.nil N).1 hq) hv
      | cons y s =>
        rw [Walk.cons] at hq
        have hyo := h.inn v y hq.1
        obtain ⟨k', h1, h2⟩ := C.low h s (N.ver y) (.inr ⟨y, hyo, rfl⟩) hq.2
        have h3 := hb y hq.1 k' h1
        have key : r.length < s.length ∨ (r.length = s.length ∧ (N.wsz r + N.size x < N.wsz s + N.size y ∨ (N.wsz r + N.size x = N.wsz s + N.size y ∧ N.cmp (N.ver x) (N.ver y) ≤ 0))) := by
          unfold lexle at h2
          simp only at h2 h3
          omega
        unfold Le
        simp only [List.length_cons, wsz_cons, List.map_cons]
        rcases key with k1 | ⟨k1, k2 | ⟨k2, k3⟩⟩
        · left; omega
        · right; exact ⟨by omega, .inl (by omega)⟩
        · right
          refine ⟨by omega, ?_⟩
          by_cases k4 : N.cmp (N.ver x) (N.ver y) = 0
          · have exy := h.inj x hxo y hyo (h.zero _ _ k4)
            subst exy
            have hle := hb1.2 s hq.2
            unfold Le at hle
            rw [lexC_cons, if_neg (by simpa using k4)]
            omega
          · rw [lexC_cons, if_pos k4]
            right; exact ⟨by omega, k3⟩
    refine ⟨hbest, fun hv2 => ?_⟩
    obtain ⟨k', h1, h2⟩ := C.low h (x :: r) v hv2 hbest.1
    obtain ⟨p, h3, h4, h5⟩ := C.sound v k' h1
    have h6 := hbest.2 p h3
    rw [h1]
    unfold Le at h6
    unfold lexle at h2
    simp only at h2
    refine congrArg some (Prod.ext ?_ ?_) <;> simp only <;> omega
/-- The way has no more steps than there are elements. -/
theorem Greedy.nodup {own : List I} {to : V} {c : V → Option (Int × Int)} (h : N.Good own) (C : N.Costs own to c) : ∀ {p : List I} {v : V}, Greedy N c to v p → p.Nodup ∧ (∀ x ∈ p, x ∈ own ∧ ∃ k, c (N.ver x) = some k ∧ k.1 < p.length)
  | [], v, _ => ⟨List.nodup_nil, fun x hx => (by cases hx)⟩
  | x :: r, v, hg => by
    cases hg with
    | @cons _ _ _ k hv hx hk hb hr =>
    obtain ⟨h1, h2⟩ := Greedy.nodup h C hr
    have hxo := h.inn v x hx
    have hc := (Greedy.best h C hr).2 (.inr ⟨x, hxo, rfl⟩)
    refine ⟨List.nodup_cons.2 ⟨fun hm => ?_, h1⟩, fun y hy => ?_⟩
    · obtain ⟨_, k', h3, h4⟩ := h2 x hm
      rw [hc] at h3; obtain rfl := Option.some.inj h3
      simp only at h4; omega
    · rcases List.mem_cons.1 hy with rfl | hy
      · exact ⟨hxo, _, hc, by simp only [List.length_cons]; omega⟩
      · obtain ⟨h3, k', h4, h5⟩ := h2 y hy
        exact ⟨h3, k', h4, by simp only [List.length_cons]; omega⟩
theorem Greedy.len {own : List I} {to : V} {c : V → Option (Int × Int)} (h : N.Good own) (C : N.Costs own to c) {p : List I} {v : V} (hg : Greedy N c to v p) : p.length ≤ own.length :=
  nodup_len (Greedy.nodup h C hg).1 fun x hx => ((Greedy.nodup h C hg).2 x hx).1

/-! the search by length -/
/-- What is known of the walks of one length: of each end the best. -/
structure Level (N : Net V I) (src : V) (k : Nat) (B : V → Option (List V × Int)) : Prop where
  sound : ∀ v t, B v = some t → ∃ p, N.Walk src p v ∧ p.length = k ∧ t.1 = p.map N.ver ∧ t.2 = N.wsz p
  best : ∀ v p, N.Walk src p v → p.length = k → ∃ t, B v = some t ∧ (t.2 < N.wsz p ∨ (t.2 = N.wsz p ∧ lexC N.cmp t.1 (p.map N.ver) ≤ 0))
theorem Level.zero (src : V) (B : V → Option (List V × Int)) (h : ∀ v, B v = if v = src then some ([], 0) else none) : N.Level src 0 B := by
  refine ⟨fun v t ht => ?_, fun v p hp hl => ?_⟩
  · rw [h] at ht
    split at ht
    · rename_i e
      obtain rfl := Option.some.inj ht
      exact ⟨[], (Walk.nil N).2 e.symm, rfl, rfl, rfl⟩
    · cases ht
  · obtain rfl := List.length_eq_zero_iff.1 hl
    rw [Walk.nil] at hp
    refine ⟨([], 0), by rw [h, if_pos hp.symm], .inr ⟨rfl, by simp [lexC]⟩⟩
/-- One more step: all of a level's elements followed by all next ones were compared. -/
theorem Level.next {own : List I} (h : N.Good own) {src : V} {k : Nat} {B D : V → Option (List V × Int)} (L : N.Level src k B)
    (hs : ∀ v t, D v = some t → ∃ u s x, B u = some s ∧ x ∈ N.nxt u ∧ N.ver x = v ∧ t = (s.1 ++ [N.ver x], s.2 + N.size x))
    (hb : ∀ u s x, B u = some s → x ∈ N.nxt u → ∃ t, D (N.ver x) = some t ∧ (t.2 < s.2 + N.size x ∨ (t.2 = s.2 + N.size x ∧ lexC N.cmp t.1 (s.1 ++ [N.ver x]) ≤ 0))) : N.Level src (k + 1) D := by
  refine ⟨fun v t ht => ?_, fun v p hp hl => ?_⟩
  · obtain ⟨u, s, x, h1, h2, h3, rfl⟩ := hs v t ht
    obtain ⟨p, h4, h5, h6, h7⟩ := L.sound u s h1
    refine ⟨p ++ [x], (Walk.snoc N).2 ⟨h3, u, h4, h2⟩, by simp [h5], by simp [h6], ?_⟩
    rw [wsz_snoc]; simp only; omega
  · rcases List.eq_nil_or_concat p with rfl | ⟨q, x, rfl⟩
    · simp at hl
    · rw [List.concat_eq_append] at *
      obtain ⟨h1, u, h2, h3⟩ := (Walk.snoc N).1 hp
      subst h1
      have hq : q.length = k := by simpa using hl
      obtain ⟨s, h4, h5⟩ := L.best u q h2 hq
      obtain ⟨q', h8, h9, h10, h11⟩ := L.sound u s h4
      obtain ⟨t, h6, h7⟩ := hb u s x h4 h3
      refine ⟨t, h6, ?_⟩
      rw [wsz_snoc, List.map_append]
      rcases h7 with h7 | ⟨h7, h12⟩
      · left; omega
      · rcases h5 with h5 | ⟨h5, h13⟩
        · left; omega
        · right
          refine ⟨by omega, h.lexC_tr N _ _ _ h12 ?_⟩
          rw [lexC_app N.cmp _ _ _ _ (by rw [h10, List.length_map, List.length_map]; omega)]
          split
          · exact h13
          · rw [List.map_cons, List.map_nil, h.lexC_self N]; exact Int.le_refl _
end Net
end Go.Beacon

/- Ways of images: what can be taken; images that are right; versions as numbers. No program in sight. -/
set_option linter.unusedVariables false
set_option linter.unusedSimpArgs false
namespace Go.Beacon
open Go Go.Eng

/-- A loop over a list that never ends early: a fold. -/
theorem iter_foldl {α σ A X : Type} (xs : List α) (mk : σ → Int → X) (f : X → Option (X ⊕ A)) (stp : σ → α → σ) (Inv : Int → σ → Prop) (E : σ → Option A)
    (h1 : ∀ s (i : Int) x, 0 ≤ i → i < xs.length → idx xs i = some x → Inv i s → f (mk s i) = some (.inl (mk (stp s x) (i + 1))) ∧ Inv (i + 1) (stp s x))
    (h2 : ∀ s, Inv xs.length s → f (mk s xs.length) = Option.map .inr (E s)) (s : σ) (h0 : Inv 0 s) : iter f (mk s 0) = E (xs.foldl stp s) := by
  have key : ∀ (n : Nat) (s : σ) (i : Int), 0 ≤ i → i + n = xs.length → Inv i s → iter f (mk s i) = E ((xs.drop i.toNat).foldl stp s) := by
    intro n
    induction n with
    | zero =>
      intro s i hi hn hv
      have : i = xs.length := by omega
      subst this
      rw [iter_eq, h2 s hv, map_inr_after]
      simp
    | succ n ih =>
      intro s i hi hn hv
      obtain ⟨x, hx, _, hd⟩ := idx_lt xs hi (by omega)
      obtain ⟨e1, e2⟩ := h1 s i x hi (by omega) hx hv
      rw [iter_eq, e1]
      simp only [Option.bind_some, after_inl]
      rw [ih _ _ (by omega) (by omega) e2, hd]
      rfl
  have := key xs.length s 0 (by omega) (by omega) h0
  simpa using this
theorem foldl_filter {α : Type} (p : α → Bool) : ∀ (xs acc : List α), xs.foldl (fun acc x => if p x = true then acc ++ [x] else acc) acc = acc ++ xs.filter p
  | [], acc => by simp
  | x :: r, acc => by
    rw [List.foldl_cons, foldl_filter p r, List.filter_cons]
    cases p x <;> simp
theorem foldl_map {α β : Type} (g : α → β) : ∀ (xs : List α) (acc : List β), xs.foldl (fun acc x => acc ++ [g x]) acc = acc ++ xs.map g
  | [], acc => by simp
  | x :: r, acc => by rw [List.foldl_cons, foldl_map g r]; simp

/-! the order of versions, and their numbers -/
theorem vcmp_3 : Cmp3 vcmp := by
  have h : Cmp3 (fun a b : Version => if (if cmpI a.Major b.Major ≠ 0 then cmpI a.Major b.Major else cmpI a.Minor b.Minor) ≠ 0 then (if cmpI a.Major b.Major ≠ 0 then cmpI a.Major b.Major else cmpI a.Minor b.Minor) else cmpI a.Patch b.Patch) :=
    ((cmpI_3.on Version.Major).lex (cmpI_3.on Version.Minor)).lex (cmpI_3.on Version.Patch)
  have e : vcmp = fun a b : Version => if (if cmpI a.Major b.Major ≠ 0 then cmpI a.Major b.Major else cmpI a.Minor b.Minor) ≠ 0 then (if cmpI a.Major b.Major ≠ 0 then cmpI a.Major b.Major else cmpI a.Minor b.Minor) else cmpI a.Patch b.Patch := by
    funext a b
    unfold vcmp
    rw [orL3, orL2]
  rw [e]; exact h
theorem vcmp_zero {a b : Version} (h : vcmp a b = 0) : a = b := by
  unfold vcmp at h
  rw [orL3, orL2] at h
  obtain ⟨a1, a2, a3⟩ := a
  obtain ⟨b1, b2, b3⟩ := b
  simp only at h
  by_cases c1 : cmpI a1 b1 = 0
  · rw [if_neg (show ¬ cmpI a1 b1 ≠ 0 from fun k => k c1)] at h
    by_cases c2 : cmpI a2 b2 = 0
    · rw [if_neg (show ¬ cmpI a2 b2 ≠ 0 from fun k => k c2)] at h
      rw [cmpI_zero c1, cmpI_zero c2, cmpI_zero h]
    · rw [if_pos c2] at h; exact absurd h c2
  · rw [if_pos c1, if_pos c1] at h; exact absurd h c1
theorem vcmp_le_tr {a b c : Version} (h1 : vcmp a b ≤ 0) (h2 : vcmp b c ≤ 0) : vcmp a c ≤ 0 := by
  by_cases c1 : vcmp a b = 0
  · rw [vcmp_zero c1]; exact h2
  · by_cases c2 : vcmp b c = 0
    · rw [← vcmp_zero c2]; exact h1
    · exact Int.le_of_lt (vcmp_3.tr (a := a) (b := b) (d := c) (by omega) (by omega))
def vnum (v : Version) : Int := (v.Major * 10000 + v.Minor) * 10000 + v.Patch
theorem verB_iff {v : Version} : verB v = true ↔ (0 ≤ v.Major ∧ v.Major ≤ 9999) ∧ (0 ≤ v.Minor ∧ v.Minor ≤ 9999) ∧ (0 ≤ v.Patch ∧ v.Patch ≤ 9999) := by
  unfold verB; simp; omega
theorem vcmp_num {a b : Version} (ha : verB a = true) (hb : verB b = true) : vcmp a b = cmpI (vnum a) (vnum b) := by
  rw [verB_iff] at ha hb
  unfold vcmp vnum cmpI
  simp only [orL]
  repeat' split
  all_goals omega
theorem vnum_inj {a b : Version} (ha : verB a = true) (hb : verB b = true) (h : vnum a = vnum b) : a = b :=
  vcmp_zero (by rw [vcmp_num ha hb, h]; unfold cmpI; simp)
theorem vnum_bd {a : Version} (ha : verB a = true) : 0 ≤ vnum a ∧ vnum a ≤ 999999999999 := by
  rw [verB_iff] at ha
  unfold vnum; omega
instance : LKey Version where
  irr a := by
    show (decide (a.Major < a.Major) || (decide (a.Major = a.Major) && (decide (a.Minor < a.Minor) || (decide (a.Minor = a.Minor) && (decide (a.Patch < a.Patch) || (decide (a.Patch = a.Patch) && false)))))) = false
    simp
  tr {a b c} h1 h2 := by
    have h1 : (decide (a.Major < b.Major) || (decide (a.Major = b.Major) && (decide (a.Minor < b.Minor) || (decide (a.Minor = b.Minor) && (decide (a.Patch < b.Patch) || (decide (a.Patch = b.Patch) && false)))))) = true := h1
    have h2 : (decide (b.Major < c.Major) || (decide (b.Major = c.Major) && (decide (b.Minor < c.Minor) || (decide (b.Minor = c.Minor) && (decide (b.Patch < c.Patch) || (decide (b.Patch = c.Patch) && false)))))) = true := h2
    show (decide (a.Major < c.Major) || (decide (a.Major = c.Major) && (decide (a.Minor < c.Minor) || (decide (a.Minor = c.Minor) && (decide (a.Patch < c.Patch) || (decide (a.Patch = c.Patch) && false)))))) = true
    simp at *; omega
  tri a b := by
    show (decide (a.Major < b.Major) || (decide (a.Major = b.Major) && (decide (a.Minor < b.Minor) || (decide (a.Minor = b.Minor) && (decide (a.Patch < b.Patch) || (decide (a.Patch = b.Patch) && false)))))) = true ∨ a = b ∨ (decide (b.Major < a.Major) || (decide (b.Major = a.Major) && (decide (b.Minor < a.Minor) || (decide (b.Minor = a.Minor) && (decide (b.Patch < a.Patch) || (decide (b.Patch = a.Patch) && false)))))) = true
    obtain ⟨a1, a2, a3⟩ := a
    obtain ⟨b1, b2, b3⟩ := b
    simp; omega

/-! what can be taken -/
theorem ContS_eq (L : List Str) (m : Str) (hl : L.length ≤ 10000000) : slices_Contains_string_string L m = some (decide (m ∈ L)) := by
  unfold slices_Contains_string_string slices_Index_string_string
  have key : ∀ (k : Nat) (n : Int), 0 ≤ n → n + k = L.length → ∃ j, slices_Index_string_string_l1 L m n = some j ∧ (0 ≤ j ↔ m ∈ L.drop n.toNat) := by
    intro k
    induction k with
    | zero =>
      intro n h0 hn
      refine ⟨-1, ?_, ?_⟩
      · unfold slices_Index_string_string_l1
        rw [iter_eq, slices_Index_string_string_b1, if_neg (by omega), map_inr_after]
      · rw [List.drop_of_length_le (by omega)]; simp
    | succ k ih =>
      intro n h0 hn
      obtain ⟨s, hs, _, hd⟩ := idx_lt L h0 (by omega)
      unfold slices_Index_string_string_l1
      rw [iter_eq, slices_Index_string_string_b1, if_pos (by omega), hs]
      simp only [Option.bind_some]
      by_cases e : m = s
      · rw [if_pos e, map_inr_after]
        exact ⟨n, rfl, by rw [hd, ← e]; simp; omega⟩
      · rw [if_neg e, w64_in (by omega) (by omega)]
        simp only [Option.bind_some, after_inl]
        obtain ⟨j, h1, h2⟩ := ih (n + 1) (by omega) (by omega)
        exact ⟨j, h1, by rw [h2, hd]; simp [e]⟩
  obtain ⟨j, h1, h2⟩ := key L.length 0 (by omega) (by omega)
  rw [h1]
  simp only [Option.bind_some, Option.some.injEq]
  rw [decide_eq_decide, h2]; simp
def hasM (m : Str) (x : Image) : Bool := decide (m ∈ x.Models)
def fitX (v : Version) (x : Image) : Bool := x.From.any (coverB v)
def takeL (l : List Image) (m : Str) (v : Version) : List Image := l.filter (fun x => hasM m x && fitX v x)
def ownL (l : List Image) (m : Str) : List Image := l.filter (hasM m)
theorem take_own (l : List Image) (m : Str) (v : Version) : takeL (ownL l m) m v = takeL l m v := by
  unfold takeL ownL
  rw [List.filter_filter]
  congr 1
  funext x
  cases hasM m x <;> simp
theorem hasM_eq {x : Image} (hx : ImgB x) (m : Str) : slices_Contains_string_string x.Models m = some (hasM m x) := by
  rw [ContS_eq _ _ (by have := hx.1; omega)]; rfl
theorem fitX_eq {x : Image} (hx : ImgB x) (v : Version) : Q_fits x v = some (fitX v x) := Qfits_eq x v (by have := hx.2; omega)
theorem covX_eq {x : Image} (hx : ImgB x) (v : Version) : campaign_covers x v = some (fitX v x) := by rw [fits_eq, fitX_eq hx]
theorem taken_eq (l : List Image) (m : Str) (v : Version) (hx : ∀ x ∈ l, ImgB x) (hn : l.length ≤ 1000) : campaign_taken l m v = some (takeL l m v) := by
  unfold campaign_taken campaign_taken_l1
  have h := iter_foldl l (fun (s : List Image) (i : Int) => (s, i)) (fun x : (List Image) × Int => campaign_taken_b1 l m v x.1 x.2) (fun acc x => if (hasM m x && fitX v x) = true then acc ++ [x] else acc) (fun i s => (s.length : Int) ≤ i) (fun s => some s)
    (fun s i x h0 h1 hi hv => by
      have hb := hx x (idx_mem hi)
      have w1 : w64 (i + 1) = i + 1 := w64_in (by omega) (by omega)
      show campaign_taken_b1 l m v s i = _ ∧ _
      unfold campaign_taken_b1
      rw [if_pos h1, hi]
      simp only [Option.bind_some]
      rw [hasM_eq hb]
      simp only [Option.bind_some]
      by_cases c : hasM m x = true
      · rw [if_pos c, covX_eq hb]
        simp only [Option.bind_some]
        unfold campaign_taken_j1 campaign_taken_j2
        by_cases d : fitX v x = true
        · rw [if_pos d, app_le (by simp; omega)]
          refine ⟨by simp [w1, c, d], by simp [c, d]; omega⟩
        · rw [if_neg d]
          refine ⟨by simp [w1, c, d], by simp [c, d]; omega⟩
      · rw [if_neg c]
        unfold campaign_taken_j1 campaign_taken_j2
        rw [if_neg (by simp)]
        refine ⟨by simp [w1, c], by simp [c]; omega⟩)
    (fun s hv => by
      show campaign_taken_b1 l m v s l.length = _
      unfold campaign_taken_b1
      rw [if_neg (by omega)]) [] (by simp)
  rw [h, foldl_filter]; rfl
def ZI : Image := ⟨⟨0, 0, 0⟩, [], [], 0⟩
theorem idelete_eq (f : Image → Option Bool) (p : Image → Bool) (xs : List Image) (hl : (xs.length : Int) ≤ 100000) (hf : ∀ x ∈ xs, f x = some (p x)) : slices_DeleteFunc_Image_Image xs f = some (xs.filter (fun x => !p x)) := gDel_eq ZI f p xs hl hf
theorem next_eq (l : List Image) (m : Str) (v : Version) (hx : ∀ x ∈ l, ImgB x) (hn : l.length ≤ 1000) : Q_nextImages l m v = some (takeL l m v) := by
  unfold Q_nextImages
  have hc : slices_Clone_Image_Image l = some l := by
    unfold slices_Clone_Image_Image; rw [app_le (by simp; omega)]; simp
  rw [hc]
  simp only [Option.bind_some]
  rw [idelete_eq _ (fun x => !(hasM m x && fitX v x)) l (by omega) (fun x hm => by
    have hb := hx x hm
    unfold Q_nextImages_1x Q_nextImages_1x_j1
    rw [hasM_eq hb]
    simp only [Option.bind_some]
    by_cases c : hasM m x = true
    · rw [if_neg (by simp [c]), fitX_eq hb]
      simp [c]
    · rw [if_pos (by simpa using c)]
      simp [c])]
  simp only [Option.bind_some, Bool.not_not]
  rfl
/-! images that are right -/
structure ImgOk (x : Image) : Prop where
  ver : verB x.Version = true
  size : 1 ≤ x.Size ∧ x.Size ≤ 1000000000
  rng : ∀ r ∈ x.From, (verB r.Low = true ∧ verB r.High = true) ∧ vcmp r.Low r.High ≤ 0
def ImgsOk (l : List Image) : Prop := (∀ x ∈ l, ImgOk x) ∧ l.Pairwise (fun a b => vcmp a.Version b.Version < 0)
abbrev RngI {A : Type} (N : Nat) (Inv : Int → Prop) (R : A → Prop) (i : Int) : Int ⊕ A → Prop
  | .inl j => j = i + 1 ∧ i < N ∧ Inv (i + 1)
  | .inr a => R a
theorem Ok.rangeI {A : Type} {f : Int → Option (Int ⊕ A)} {R : A → Prop} (N : Nat) (Inv : Int → Prop) (h0 : Inv 0) (h : ∀ i : Int, 0 ≤ i → i ≤ N → Inv i → Ok (f i) (RngI N Inv R i)) : Ok (Eng.iter f 0) R := by
  refine Ok.iter (fun i : Int => N + 1 - i.toNat) (fun i : Int => (0 ≤ i ∧ i ≤ N) ∧ Inv i) (fun i hi => ?_) 0 ⟨⟨by omega, by omega⟩, h0⟩
  refine (h i hi.1.1 hi.1.2 hi.2).mono (fun r hr => ?_)
  cases r with
  | inl j =>
    simp only [Stp, RngI] at hr ⊢
    obtain ⟨rfl, h2, h3⟩ := hr
    exact ⟨⟨by omega, h3⟩, by omega⟩
  | inr a => exact hr
theorem take_succ {α : Type} {xs : List α} {i : Int} {x : α} (h0 : 0 ≤ i) (h : idx xs i = some x) : xs.take (i + 1).toNat = xs.take i.toNat ++ [x] := by
  obtain ⟨_, h1, h2⟩ := idx_some h
  rw [show (i + 1).toNat = i.toNat + 1 by omega, List.take_add_one, h2]; rfl
theorem ranges_ok (x : Image) (hx : ImgB x) : Ok (campaign_rangesFault x) (fun r => r = 0 → ∀ r ∈ x.From, (verB r.Low = true ∧ verB r.High = true) ∧ vcmp r.Low r.High ≤ 0) := by
  have hl := hx.2
  unfold campaign_rangesFault
  rw [if_neg (by omega)]
  unfold campaign_rangesFault_l1
  refine Ok.rangeI x.From.length (fun i => ∀ r ∈ x.From.take i.toNat, (verB r.Low = true ∧ verB r.High = true) ∧ vcmp r.Low r.High ≤ 0) (by simp) (fun i h0 h1 hi => ?_)
  unfold campaign_rangesFault_b1
  have w1 : w64 (i + 1) = i + 1 := w64_in (by omega) (by omega)
  have w2 : w64 (i - 1) = i - 1 := w64_in (by omega) (by omega)
  split
  · refine Ok.idx h0 (by assumption) (fun r hr hm => ?_)
    rw [Version_chk, Version_chk, vCompare_eq]
    have bad : ∀ c, c = true → Ok (campaign_rangesFault_j1 x i r c) (RngI x.From.length (fun i => ∀ r ∈ x.From.take i.toNat, (verB r.Low = true ∧ verB r.High = true) ∧ vcmp r.Low r.High ≤ 0) (fun a => a = 0 → ∀ r ∈ x.From, (verB r.Low = true ∧ verB r.High = true) ∧ vcmp r.Low r.High ≤ 0) i) := by
      intro c hc
      unfold campaign_rangesFault_j1
      rw [if_pos hc]
      exact Ok.inr (Ok.ret (fun h => by cases h))
    by_cases c1 : verB r.Low = true
    · rw [if_neg (by simp [c1])]
      by_cases c2 : verB r.High = true
      · rw [if_neg (by simp [c2])]
        simp only [Option.bind_some]
        by_cases c3 : 0 < vcmp r.Low r.High
        · exact bad _ (by simp [c3])
        · unfold campaign_rangesFault_j1 campaign_rangesFault_j2
          rw [if_neg (by simpa using c3)]
          have go : i < x.From.length ∧ ∀ q ∈ x.From.take (i + 1).toNat, (verB q.Low = true ∧ verB q.High = true) ∧ vcmp q.Low q.High ≤ 0 := by
            refine ⟨by assumption, fun q hq => ?_⟩
            rw [take_succ h0 hr, List.mem_append, List.mem_singleton] at hq
            rcases hq with hq | rfl
            · exact hi q hq
            · exact ⟨⟨c1, c2⟩, by omega⟩
          split
          · rw [w2]
            refine Ok.idx (by omega) (by omega) (fun q hq hqm => ?_)
            rw [vCompare_eq]
            simp only [Option.bind_some]
            split
            · exact Ok.inr (Ok.ret (fun h => by cases h))
            · exact Ok.ret ⟨w1, go⟩
          · rw [if_neg (by simp)]; exact Ok.ret ⟨w1, go⟩
      · rw [if_pos (by simpa using c2)]; exact bad true rfl
    · rw [if_pos (by simpa using c1)]; exact bad true rfl
  · refine Ok.inr ?_
    unfold campaign_rangesFault_k3
    rw [covX_eq hx]
    simp only [Option.bind_some]
    have hi' : ∀ r ∈ x.From, (verB r.Low = true ∧ verB r.High = true) ∧ vcmp r.Low r.High ≤ 0 := by
      have e : x.From.take i.toNat = x.From := List.take_of_length_le (by omega)
      rw [e] at hi; exact hi
    split
    · exact Ok.ret (fun _ => hi')
    · exact Ok.ret (fun _ => hi')
end Go.Beacon

/- Images that are right; costs of ways. No program in sight. -/
set_option linter.unusedVariables false
set_option linter.unusedSimpArgs false
namespace Go.Beacon
open Go Go.Eng

theorem pw_snoc {l : List Image} {x : Image} (h : l.Pairwise (fun a b => vcmp a.Version b.Version < 0)) (hx : ∀ y, l.getLast? = some y → vcmp y.Version x.Version < 0) : (l ++ [x]).Pairwise (fun a b => vcmp a.Version b.Version < 0) := by
  rw [List.pairwise_append]
  refine ⟨h, by simp, fun a ha b hb => ?_⟩
  obtain rfl := List.mem_singleton.1 hb
  rcases List.eq_nil_or_concat l with rfl | ⟨r, y, rfl⟩
  · cases ha
  · rw [List.concat_eq_append] at *
    have hy := hx y (by simp)
    rcases List.mem_append.1 ha with ha | ha
    · rw [List.pairwise_append] at h
      exact vcmp_3.tr (h.2.2 a ha y (by simp)) hy
    · rw [List.mem_singleton.1 ha]; exact hy
theorem take_last {α : Type} {xs : List α} {i : Int} {x : α} (h0 : 0 < i) (h : idx xs (i - 1) = some x) : (xs.take i.toNat).getLast? = some x := by
  have := take_succ (by omega) h
  rw [show i - 1 + 1 = i by omega] at this
  rw [this]; simp
def ImgsT (xs : List Image) (i : Int) : Prop := (∀ x ∈ xs.take i.toNat, ImgOk x) ∧ (xs.take i.toNat).Pairwise (fun a b => vcmp a.Version b.Version < 0)
theorem Images_ok (xs : List Image) (hx : ImgsB xs) : Ok (campaign_CheckImages xs) (fun r => r = 0 → ImgsOk xs) := by
  have hl := hx.1
  unfold campaign_CheckImages
  rw [if_neg (by omega)]
  unfold campaign_CheckImages_l1
  refine Ok.rangeI xs.length (ImgsT xs) ⟨by simp, by simp⟩ (fun i h0 h1 hi => ?_)
  have w1 : w64 (i + 1) = i + 1 := w64_in (by omega) (by omega)
  have w2 : w64 (i - 1) = i - 1 := w64_in (by omega) (by omega)
  unfold campaign_CheckImages_b1
  split
  · rename_i hil
    refine Ok.idx h0 hil (fun x hix hm => ?_)
    have hb := hx.2 x hm
    rw [Version_chk]
    have j1 : ∀ (c : Bool), verB x.Version = true → (c = false → ∀ y, (xs.take i.toNat).getLast? = some y → vcmp y.Version x.Version < 0) → Ok (campaign_CheckImages_j1 i x c) (RngI xs.length (ImgsT xs) (fun r => r = 0 → ImgsOk xs) i) := by
      intro c hv hc
      unfold campaign_CheckImages_j1
      have hm := hb.1
      split
      · exact Ok.inr (Ok.ret (fun h => by cases h))
      · rename_i hcf
        have hc := hc (by simpa using hcf)
        split
        · exact Ok.inr (Ok.ret (fun h => by cases h))
        · split
          · exact Ok.inr (Ok.ret (fun h => by cases h))
          · unfold campaign_CheckImages_l2
            refine Ok.range x.Models.length (fun k k0 k1 => ?_)
            have v1 : w64 (k + 1) = k + 1 := w64_in (by omega) (by omega)
            have v2 : w64 (k - 1) = k - 1 := w64_in (by omega) (by omega)
            unfold campaign_CheckImages_b2
            split
            · rename_i hkl
              refine Ok.idx k0 hkl (fun m hkm hmm => ?_)
              have e : base_Key m = some (keyB m) := Key_eq _
              rw [e]
              simp only [Option.bind_some]
              split
              · exact Ok.inr (Ok.inr (Ok.ret (fun h => by cases h)))
              · split
                · rw [v2]
                  refine Ok.idx (by omega) (by omega) (fun q hq hqm => ?_)
                  unfold campaign_CheckImages_j2
                  split
                  · exact Ok.inr (Ok.inr (Ok.ret (fun h => by cases h)))
                  · exact Ok.ret ⟨v1, hkl⟩
                · unfold campaign_CheckImages_j2
                  rw [if_neg (by simp)]
                  exact Ok.ret ⟨v1, hkl⟩
            · refine Ok.inr ?_
              unfold campaign_CheckImages_k3
              refine Ok.bind (ranges_ok x hb) (fun r hr => ?_)
              split
              · rename_i hne
                exact Ok.inr (Ok.ret (fun h => absurd h hne))
              · rename_i hz
                have hr := hr (by simpa using hz)
                rw [Out_eq]
                split
                · exact Ok.inr (Ok.ret (fun h => by cases h))
                · rename_i hs
                  have ok : ImgOk x := ⟨hv, by simpa using hs, hr⟩
                  refine Ok.ret ⟨w1, hil, ?_⟩
                  unfold ImgsT
                  rw [take_succ h0 hix]
                  refine ⟨fun y hy => ?_, pw_snoc hi.2 hc⟩
                  rcases List.mem_append.1 hy with hy | hy
                  · exact hi.1 y hy
                  · rw [List.mem_singleton.1 hy]; exact ok
    split
    · exact Ok.inr (Ok.ret (fun h => by cases h))
    · rename_i hv
      have hv : verB x.Version = true := by simpa using hv
      split
      · rw [w2]
        refine Ok.idx (by omega) (by omega) (fun q hq hqm => ?_)
        rw [vCompare_eq]
        simp only [Option.bind_some]
        refine j1 _ hv (fun hc y hy => ?_)
        rw [take_last (by assumption) hq] at hy
        obtain rfl := Option.some.inj hy
        have := vcmp_neg x.Version q.Version
        simp at hc; omega
      · refine j1 false hv (fun _ y hy => ?_)
        have : i = 0 := by omega
        subst this
        simp at hy
  · refine Ok.inr (Ok.ret (fun _ => ?_))
    have e : xs.take i.toNat = xs := List.take_of_length_le (by omega)
    unfold ImgsT at hi
    rw [e] at hi; exact hi
end Go.Beacon

/- Costs of ways. No program in sight. -/
set_option linter.unusedVariables false
set_option linter.unusedSimpArgs false
namespace Go.Beacon
open Go Go.Eng

theorem Ok.rangeS {σ A X : Type} {f : X → Option (X ⊕ A)} {R : A → Prop} (N : Nat) (mk : σ → Int → X) (Inv : Int → σ → Prop)
    (h : ∀ s (i : Int), 0 ≤ i → i ≤ N → Inv i s → Ok (f (mk s i)) (fun r => (∃ s', r = .inl (mk s' (i + 1)) ∧ i < N ∧ Inv (i + 1) s') ∨ ∃ a, r = .inr a ∧ R a)) (s : σ) (h0 : Inv 0 s) : Ok (Eng.iter f (mk s 0)) R := by
  have key : ∀ (k : Nat) (s : σ) (i : Int), 0 ≤ i → i ≤ N → i + k = N + 1 → Inv i s → Ok (Eng.iter f (mk s i)) R := by
    intro k
    induction k with
    | zero =>
      intro s i hi hN hk hv
      omega
    | succ k ih =>
      intro s i hi hN hk hv
      obtain ⟨r, h1, h2⟩ := h s i hi hN hv
      rw [iter_eq, h1]
      rcases h2 with ⟨s', rfl, h3, h4⟩ | ⟨a, rfl, h3⟩
      · simp only [Option.bind_some, after_inl]
        exact ih s' (i + 1) (by omega) (by omega) (by omega) h4
      · exact ⟨a, rfl, h3⟩
  exact key (N + 1) s 0 (by omega) (by omega) (by omega) h0
abbrev CM := List (Version × Campaign_cost)
/-- The net of a model's images. -/
def net (l : List Image) (m : Str) : Net Version Image := ⟨Image.Version, Image.Size, takeL l m, vcmp⟩
theorem pw_inj : ∀ {l : List Image}, l.Pairwise (fun a b => vcmp a.Version b.Version < 0) → ∀ x ∈ l, ∀ y ∈ l, x.Version = y.Version → x = y
  | [], _, x, hx, _, _, _ => (by cases hx)
  | z :: r, h, x, hx, y, hy, e => by
    have h' := List.pairwise_cons.1 h
    have no : ∀ w ∈ r, z.Version ≠ w.Version := fun w hw e => by
      have := h'.1 w hw
      rw [e, vcmp_3.zero] at this; omega
    rcases List.mem_cons.1 hx with h1 | h1
    · rcases List.mem_cons.1 hy with h2 | h2
      · rw [h1, h2]
      · rw [h1] at e; exact absurd e (no y h2)
    · rcases List.mem_cons.1 hy with h2 | h2
      · rw [h2] at e; exact absurd e.symm (no x h1)
      · exact pw_inj h'.2 x h1 y h2 e
theorem own_mem {l : List Image} {m : Str} {x : Image} (h : x ∈ ownL l m) : x ∈ l := (List.mem_filter.1 h).1
theorem take_mem {l : List Image} {m : Str} {v : Version} {x : Image} (h : x ∈ takeL l m v) : x ∈ ownL l m := by
  unfold takeL at h
  rw [List.mem_filter, Bool.and_eq_true] at h
  exact List.mem_filter.2 ⟨h.1, h.2.1⟩
theorem net_good {l : List Image} {m : Str} (h : ImgsOk l) : (net l m).Good (ownL l m) :=
  ⟨fun a b => vcmp_neg a b, fun a b => vcmp_zero, fun a b c => vcmp_le_tr, fun v x hx => take_mem hx, fun x hx y hy e => pw_inj h.2 x (own_mem hx) y (own_mem hy) e⟩
theorem walk_own {l : List Image} {m : Str} : ∀ {p : List Image} {v w : Version}, (net l m).Walk v p w → ∀ x ∈ p, x ∈ ownL l m
  | [], _, _, _, x, hx => (by cases hx)
  | y :: r, v, w, h, x, hx => by
    rw [Net.Walk.cons] at h
    rcases List.mem_cons.1 hx with rfl | hx
    · exact take_mem h.1
    · exact walk_own h.2 x hx
theorem wsz_bd {l : List Image} {m : Str} (hok : ∀ x ∈ l, ImgOk x) : ∀ {p : List Image}, (∀ x ∈ p, x ∈ ownL l m) → 0 ≤ (net l m).wsz p ∧ (net l m).wsz p ≤ 1000000000 * p.length
  | [], _ => by simp [Net.wsz]
  | y :: r, h => by
    have h1 := (hok y (own_mem (h y List.mem_cons_self))).size
    have h2 := wsz_bd hok (p := r) (fun x hx => h x (List.mem_cons_of_mem _ hx))
    rw [Net.wsz_cons]
    show 0 ≤ y.Size + _ ∧ y.Size + _ ≤ _
    simp only [List.length_cons]
    omega

/-! one image looks at its next ones -/
def cOf (M : CM) (v : Version) : Option (Int × Int) := (mget? M v).map (fun c => (c.steps_, c.size_))
def lexlt (a b : Int × Int) : Prop := a.1 < b.1 ∨ (a.1 = b.1 ∧ a.2 < b.2)
instance (a b : Int × Int) : Decidable (lexlt a b) := by unfold lexlt; exact inferInstance
abbrev RS := Bool × Int × Int × Bool
def RS.c (s : RS) : Int × Int := (s.2.1, s.2.2.1)
def rlx (M : CM) (s : RS) (y : Image) : RS :=
  match mget? M y.Version with
  | none => s
  | some c => if s.2.2.2 = false ∨ lexlt (c.steps_ + 1, c.size_ + y.Size) s.c then (true, c.steps_ + 1, c.size_ + y.Size, true) else s
theorem byCost_eq (a b : Campaign_cost) : campaign_byCost a b = some (orL [cmpI a.steps_ b.steps_, cmpI a.size_ b.size_]) := by
  unfold campaign_byCost
  rw [CompareI_eq, CompareI_eq]
  have h : cmp_Or_int [cmpI a.steps_ b.steps_, cmpI a.size_ b.size_] = some (orL [cmpI a.steps_ b.steps_, cmpI a.size_ b.size_]) := gOr_eq _ (by simp)
  rw [h]; rfl
theorem byCost_lt (a b c d : Int) : decide (orL [cmpI a c, cmpI b d] < 0) = decide (lexlt (a, b) (c, d)) := by
  rw [decide_eq_decide]
  unfold lexlt cmpI
  simp only [orL]
  repeat' split
  all_goals omega
structure RSpec (M : CM) (ys : List Image) (s r : RS) : Prop where
  keep : s.2.2.2 = true → r.2.2.2 = true ∧ Net.lexle r.c s.c
  all : ∀ y ∈ ys, ∀ c, mget? M y.Version = some c → r.2.2.2 = true ∧ Net.lexle r.c (c.steps_ + 1, c.size_ + y.Size)
  one : r = s ∨ (r.1 = true ∧ r.2.2.2 = true ∧ (∃ y ∈ ys, ∃ c, mget? M y.Version = some c ∧ r.c = (c.steps_ + 1, c.size_ + y.Size)) ∧ (s.2.2.2 = false ∨ lexlt r.c s.c))
theorem rlx_spec (M : CM) : ∀ (ys : List Image) (s : RS), RSpec M ys s (ys.foldl (rlx M) s)
  | [], s => ⟨fun h => ⟨h, .inr ⟨rfl, Int.le_refl _⟩⟩, fun y hy => (by cases hy), .inl rfl⟩
  | y :: r, s => by
    rw [List.foldl_cons]
    have ih := rlx_spec M r (rlx M s y)
    generalize hR : r.foldl (rlx M) (rlx M s y) = R at ih
    cases hg : mget? M y.Version with
    | none =>
      have e : rlx M s y = s := by unfold rlx; rw [hg]
      rw [e] at ih
      refine ⟨ih.keep, fun z hz c hc => ?_, ?_⟩
      · rcases List.mem_cons.1 hz with rfl | hz
        · rw [hg] at hc; cases hc
        · exact ih.all z hz c hc
      · rcases ih.one with h | ⟨h1, h2, ⟨z, hz, c, h3⟩, h4⟩
        · exact .inl h
        · exact .inr ⟨h1, h2, ⟨z, List.mem_cons_of_mem _ hz, c, h3⟩, h4⟩
    | some c =>
      by_cases hc : s.2.2.2 = false ∨ lexlt (c.steps_ + 1, c.size_ + y.Size) s.c
      · have e : rlx M s y = (true, c.steps_ + 1, c.size_ + y.Size, true) := by unfold rlx; rw [hg]; simp only; rw [if_pos hc]
        rw [e] at ih
        have k := ih.keep rfl
        have kc : RS.c (true, c.steps_ + 1, c.size_ + y.Size, true) = (c.steps_ + 1, c.size_ + y.Size) := rfl
        rw [kc] at k
        refine ⟨fun hs => ⟨k.1, ?_⟩, fun z hz c' hc' => ?_, ?_⟩
        · rcases hc with hc | hc
          · rw [hs] at hc; cases hc
          · have k2 := k.2
            unfold Net.lexle at *; unfold lexlt at hc; omega
        · rcases List.mem_cons.1 hz with rfl | hz
          · rw [hg] at hc'; obtain rfl := Option.some.inj hc'; exact k
          · exact ih.all z hz c' hc'
        · right
          rcases ih.one with h | ⟨h1, h2, ⟨z, hz, c', h3, h5⟩, h4⟩
          · subst h
            exact ⟨rfl, rfl, ⟨y, List.mem_cons_self, c, hg, rfl⟩, hc⟩
          · refine ⟨h1, h2, ⟨z, List.mem_cons_of_mem _ hz, c', h3, h5⟩, ?_⟩
            rcases hc with hc | hc
            · exact .inl hc
            · right
              have k2 := k.2
              unfold Net.lexle at k2; unfold lexlt at *; omega
      · have e : rlx M s y = s := by unfold rlx; rw [hg]; simp only; rw [if_neg hc]
        rw [e] at ih
        rw [not_or] at hc
        have hs : s.2.2.2 = true := by simpa using hc.1
        refine ⟨ih.keep, fun z hz c' hc' => ?_, ?_⟩
        · rcases List.mem_cons.1 hz with rfl | hz
          · rw [hg] at hc'; obtain rfl := Option.some.inj hc'
            have k := ih.keep hs
            refine ⟨k.1, ?_⟩
            have k2 := k.2
            have k3 := hc.2
            unfold lexlt at k3; unfold Net.lexle at *; omega
          · exact ih.all z hz c' hc'
        · rcases ih.one with h | ⟨h1, h2, ⟨z, hz, c', h3⟩, h4⟩
          · exact .inl h
          · exact .inr ⟨h1, h2, ⟨z, List.mem_cons_of_mem _ hz, c', h3⟩, h4⟩
/-- What a map of costs is like at all times. -/
structure CInv (l : List Image) (m : Str) (to : Version) (M : CM) : Prop where
  sm : SM M
  atto : mget? M to = some ⟨0, 0⟩
  sound : ∀ v c, mget? M v = some c → ∃ p, (net l m).Walk v p to ∧ (p.length : Int) = c.steps_ ∧ (net l m).wsz p = c.size_
  keys : ∀ v c, mget? M v = some c → v = to ∨ ∃ x ∈ ownL l m, x.Version = v
  few : ∀ v c, mget? M v = some c → c.steps_ + 1 ≤ M.length
theorem CInv.len {l : List Image} {m : Str} {to : Version} {M : CM} (h : CInv l m to M) (hl : l.length ≤ 8) : M.length ≤ 9 := by
  have h1 : (M.map Prod.fst).length ≤ (to :: (ownL l m).map Image.Version).length := nodup_len h.sm.nodup (fun v hv => by
    obtain ⟨e, he, rfl⟩ := List.mem_map.1 hv
    rcases h.keys e.1 e.2 (h.sm.get_iff.2 he) with k | ⟨x, hx, k⟩
    · rw [k]; exact List.mem_cons_self
    · rw [← k]; exact List.mem_cons_of_mem _ (List.mem_map_of_mem hx))
  have h2 : (ownL l m).length ≤ l.length := List.length_filter_le _ _
  simp only [List.length_map, List.length_cons] at h1
  omega
theorem CInv.bd {l : List Image} {m : Str} {to : Version} {M : CM} (h : CInv l m to M) (hl : l.length ≤ 8) (hok : ImgsOk l) {v : Version} {c : Campaign_cost} (hc : mget? M v = some c) : (0 ≤ c.steps_ ∧ c.steps_ ≤ 8) ∧ 0 ≤ c.size_ ∧ c.size_ ≤ 8000000000 := by
  obtain ⟨p, h1, h2, h3⟩ := h.sound v c hc
  have h4 := h.few v c hc
  have h5 := h.len hl
  have h6 := wsz_bd hok.1 (walk_own h1)
  omega
/-- The loop over the next ones of an image. -/
theorem costs_l5_eq (l : List Image) (m : Str) (to : Version) (hl : l.length ≤ 8) (hok : ImgsOk l) (M : CM) (hM : CInv l m to M) (n37 : Int) (h37 : 0 ≤ n37 ∧ n37 ≤ 100) (x : Image) (s : RS) (ys : List Image) (hys : ∀ y ∈ ys, y ∈ l) (hn : ys.length ≤ 8) :
    campaign_costs_l5 M n37 x ys s.1 s.2.1 s.2.2.1 s.2.2.2 0 = some (.inl (if (ys.foldl (rlx M) s).2.2.2 = true then mset M x.Version ⟨(ys.foldl (rlx M) s).2.1, (ys.foldl (rlx M) s).2.2.1⟩ else M, (ys.foldl (rlx M) s).1, n37 + 1)) := by
  unfold campaign_costs_l5
  have h := iter_foldl ys (fun (s : RS) (i : Int) => (s.1, s.2.1, s.2.2.1, s.2.2.2, i)) (fun x_1 : Bool × Int × Int × Bool × Int => campaign_costs_b5 M n37 x ys x_1.1 x_1.2.1 x_1.2.2.1 x_1.2.2.2.1 x_1.2.2.2.2) (rlx M) (fun _ _ => True) (fun s => campaign_costs_k5 M n37 x s.1 s.2.1 s.2.2.1 s.2.2.2)
    (fun s i y h0 h1 hi _ => by
      refine ⟨?_, trivial⟩
      have w1 : w64 (i + 1) = i + 1 := w64_in (by omega) (by omega)
      have hy := (hok.1 y (hys y (idx_mem hi))).size
      obtain ⟨ag, k, z, is⟩ := s
      show campaign_costs_b5 M n37 x ys ag k z is i = _
      unfold campaign_costs_b5
      rw [if_pos h1, hi]
      simp only [Option.bind_some]
      unfold mget2 rlx
      cases hg : mget? M y.Version with
      | none =>
        simp only [Option.getD_none, Option.isSome_none, Option.bind_some, Bool.false_eq_true, if_false]
        unfold campaign_costs_j2 campaign_costs_j3
        rw [if_neg (by simp), w1]
      | some c =>
        have hb := hM.bd hl hok hg
        have v1 : w64 (c.steps_ + 1) = c.steps_ + 1 := w64_in (by omega) (by omega)
        have v2 : w64 (c.size_ + y.Size) = c.size_ + y.Size := w64_in (by omega) (by omega)
        simp only [Option.getD_some, Option.isSome_some, Option.bind_some, if_true, v1, v2]
        cases is with
        | false =>
          simp only [Bool.not_false, if_true, true_or]
          unfold campaign_costs_j2 campaign_costs_j3
          rw [if_pos rfl, v1, v2, w1]
        | true =>
          simp only [Bool.not_true, Bool.false_eq_true, if_false, Bool.true_eq_false, false_or]
          rw [byCost_eq]
          simp only [Option.bind_some]
          rw [byCost_lt]
          unfold campaign_costs_j2 campaign_costs_j3
          simp only [v1, v2, w1, RS.c]
          by_cases hc : lexlt (c.steps_ + 1, c.size_ + y.Size) (k, z)
          · rw [if_pos (by simpa using hc)]; simp [hc]
          · rw [if_neg (by simpa using hc)]; simp [hc])
    (fun s _ => by
      show campaign_costs_b5 M n37 x ys s.1 s.2.1 s.2.2.1 s.2.2.2 ys.length = _
      unfold campaign_costs_b5
      rw [if_neg (by omega)]) s trivial
  rw [h]
  unfold campaign_costs_k5 campaign_costs_j4
  rw [w64_in (by omega) (by omega)]
  split <;> rfl
end Go.Beacon

/- Costs of ways: rounds until nothing changes. No program in sight. -/
set_option linter.unusedVariables false
set_option linter.unusedSimpArgs false
namespace Go.Beacon
open Go Go.Eng

/-! one image -/
def stepM (l : List Image) (m : Str) (M : CM) (ag : Bool) (x : Image) : RS := (takeL l m x.Version).foldl (rlx M) (ag, ((mget? M x.Version).getD ⟨0, 0⟩).steps_, ((mget? M x.Version).getD ⟨0, 0⟩).size_, (mget? M x.Version).isSome)
def nextM (l : List Image) (m : Str) (M : CM) (ag : Bool) (x : Image) : CM := if (stepM l m M ag x).2.2.2 = true then mset M x.Version ⟨(stepM l m M ag x).2.1, (stepM l m M ag x).2.2.1⟩ else M
/-- Closed at an image. -/
def ClosedAt (l : List Image) (m : Str) (M : CM) (x : Image) : Prop := ∀ y ∈ takeL l m x.Version, ∀ k, cOf M y.Version = some k → ∃ k', cOf M x.Version = some k' ∧ Net.lexle k' (k.1 + 1, k.2 + y.Size)
/-- Not worse anywhere. -/
def Down (M M' : CM) : Prop := ∀ v c, mget? M v = some c → ∃ c', mget? M' v = some c' ∧ Net.lexle (c'.steps_, c'.size_) (c.steps_, c.size_)
theorem Down.refl (M : CM) : Down M M := fun v c h => ⟨c, h, .inr ⟨rfl, Int.le_refl _⟩⟩
theorem Down.trans {A B C : CM} (h1 : Down A B) (h2 : Down B C) : Down A C := fun v c h => by
  obtain ⟨c', h3, h4⟩ := h1 v c h
  obtain ⟨d, h5, h6⟩ := h2 v c' h3
  refine ⟨d, h5, ?_⟩
  unfold Net.lexle at *; simp only at *; omega
/-- What is better at one place. -/
def Better (M M' : CM) (v : Version) : Prop := ∃ c', mget? M' v = some c' ∧ ∀ c, mget? M v = some c → lexlt (c'.steps_, c'.size_) (c.steps_, c.size_)
theorem step_facts (l : List Image) (m : Str) (to : Version) (hl : l.length ≤ 8) (hok : ImgsOk l) (M : CM) (hM : CInv l m to M) (ag : Bool) (x : Image) (hx : x ∈ ownL l m) :
    CInv l m to (nextM l m M ag x) ∧ Down M (nextM l m M ag x) ∧
    (((stepM l m M ag x).1 = ag ∧ (∀ v, mget? (nextM l m M ag x) v = mget? M v) ∧ ClosedAt l m M x) ∨ ((stepM l m M ag x).1 = true ∧ Better M (nextM l m M ag x) x.Version)) := by
  have sp := rlx_spec M (takeL l m x.Version) (ag, ((mget? M x.Version).getD ⟨0, 0⟩).steps_, ((mget? M x.Version).getD ⟨0, 0⟩).size_, (mget? M x.Version).isSome)
  have hsp : (takeL l m x.Version).foldl (rlx M) (ag, ((mget? M x.Version).getD ⟨0, 0⟩).steps_, ((mget? M x.Version).getD ⟨0, 0⟩).size_, (mget? M x.Version).isSome) = stepM l m M ag x := rfl
  rw [hsp] at sp
  unfold nextM
  generalize hR : stepM l m M ag x = R at sp
  clear hsp
  have closed0 : R.2.2.2 = true → (∀ v, mget? M v = mget? M v) → True := fun _ _ => trivial
  rcases sp.one with h | ⟨h1, h2, ⟨y, hy, c, h3, h4⟩, h5⟩
  · -- nothing new
    have same : ∀ v, mget? (if R.2.2.2 = true then mset M x.Version ⟨R.2.1, R.2.2.1⟩ else M) v = mget? M v := by
      intro v
      rw [h]
      simp only
      cases hg : mget? M x.Version with
      | none => simp
      | some c =>
        simp only [Option.isSome_some, if_true, Option.getD_some]
        rw [mget_mset]
        split
        · rename_i e; subst e; exact hg.symm
        · rfl
    have hmap : (if R.2.2.2 = true then mset M x.Version ⟨R.2.1, R.2.2.1⟩ else M) = M := by
      refine map_ext ?_ hM.sm same
      split
      · exact hM.sm.set _ _
      · exact hM.sm
    rw [hmap]
    refine ⟨hM, Down.refl M, .inl ⟨by rw [h], fun v => rfl, fun y hy k hk => ?_⟩⟩
    unfold cOf at hk ⊢
    cases hg : mget? M y.Version with
    | none => rw [hg] at hk; cases hk
    | some c =>
      rw [hg] at hk
      obtain rfl := Option.some.inj hk
      obtain ⟨e1, e2⟩ := sp.all y hy c hg
      rw [h] at e1 e2
      cases hgx : mget? M x.Version with
      | none => rw [hgx] at e1; simp at e1
      | some d =>
        rw [hgx] at e2
        exact ⟨_, rfl, e2⟩
  · -- something better
    rw [if_pos h2]
    have hyo := take_mem hy
    have hby := hM.bd hl hok h3
    have hsy := (hok.1 y (own_mem hyo)).size
    have e4 : R.2.1 = c.steps_ + 1 ∧ R.2.2.1 = c.size_ + y.Size := by
      have := h4; unfold RS.c at this; exact ⟨congrArg Prod.fst this, congrArg Prod.snd this⟩
    have bet : ∀ d, mget? M x.Version = some d → lexlt (R.2.1, R.2.2.1) (d.steps_, d.size_) := by
      intro d hd
      rcases h5 with h5 | h5
      · rw [hd] at h5; simp at h5
      · rw [hd] at h5; exact h5
    have hto : x.Version ≠ to := by
      intro e
      have := bet ⟨0, 0⟩ (by rw [e]; exact hM.atto)
      unfold lexlt at this; simp only at this
      omega
    have hlen : M.length ≤ (mset M x.Version (⟨R.2.1, R.2.2.1⟩ : Campaign_cost)).length := by
      cases hg : mget? M x.Version with
      | none => rw [mset_new_len hg]; omega
      | some d => rw [mset_old_len hM.sm hg]; exact Nat.le_refl _
    refine ⟨⟨hM.sm.set _ _, ?_, ?_, ?_, ?_⟩, ?_, .inr ⟨h1, ?_⟩⟩
    · rw [mget_mset, if_neg hto]; exact hM.atto
    · intro v d hd
      rw [mget_mset] at hd
      split at hd
      · rename_i e
        subst e
        obtain rfl := Option.some.inj hd
        obtain ⟨p, q1, q2, q3⟩ := hM.sound y.Version c h3
        refine ⟨y :: p, (Net.Walk.cons _).2 ⟨hy, q1⟩, ?_, ?_⟩
        · simp only [List.length_cons]; omega
        · rw [Net.wsz_cons]
          show y.Size + _ = R.2.2.1
          omega
      · exact hM.sound v d hd
    · intro v d hd
      rw [mget_mset] at hd
      split at hd
      · rename_i e; exact .inr ⟨x, hx, e⟩
      · exact hM.keys v d hd
    · intro v d hd
      rw [mget_mset] at hd
      split at hd
      · rename_i e
        subst e
        obtain rfl := Option.some.inj hd
        have hf := hM.few y.Version c h3
        show R.2.1 + 1 ≤ _
        cases hg : mget? M x.Version with
        | none => rw [mset_new_len hg]; omega
        | some d =>
          have hb := bet d hg
          have hf2 := hM.few x.Version d hg
          unfold lexlt at hb; simp only at hb
          omega
      · have := hM.few v d hd; omega
    · intro v d hd
      rw [mget_mset]
      split
      · rename_i e
        subst e
        refine ⟨_, rfl, ?_⟩
        have := bet d hd
        unfold lexlt at this; unfold Net.lexle; simp only at *; omega
      · exact ⟨d, hd, .inr ⟨rfl, Int.le_refl _⟩⟩
    · exact ⟨⟨R.2.1, R.2.2.1⟩, by rw [mget_mset, if_pos rfl], fun d hd => bet d hd⟩

/-! the measure -/
def phi (o : Option Campaign_cost) : Nat := match o with
  | none => 10000000000000
  | some c => (c.steps_ * 100000000000 + c.size_).toNat
def mu (own : List Image) (M : CM) : Nat := (own.map (fun x => phi (mget? M x.Version))).sum
theorem sum_le {α : Type} (f g : α → Nat) : ∀ (l : List α), (∀ x ∈ l, f x ≤ g x) → (l.map f).sum ≤ (l.map g).sum
  | [], _ => by simp
  | x :: r, h => by
    have h1 := h x List.mem_cons_self
    have h2 := sum_le f g r (fun y hy => h y (List.mem_cons_of_mem _ hy))
    simp only [List.map_cons, List.sum_cons]; omega
theorem sum_lt {α : Type} (f g : α → Nat) : ∀ (l : List α), (∀ x ∈ l, f x ≤ g x) → (∃ x ∈ l, f x < g x) → (l.map f).sum < (l.map g).sum
  | [], _, h => by obtain ⟨x, hx, _⟩ := h; cases hx
  | x :: r, h, he => by
    have h1 := h x List.mem_cons_self
    have h2 := sum_le f g r (fun y hy => h y (List.mem_cons_of_mem _ hy))
    simp only [List.map_cons, List.sum_cons]
    obtain ⟨y, hy, hlt⟩ := he
    rcases List.mem_cons.1 hy with rfl | hy
    · omega
    · have := sum_lt f g r (fun y hy => h y (List.mem_cons_of_mem _ hy)) ⟨y, hy, hlt⟩
      omega
theorem phi_lt {l : List Image} {m : Str} {to : Version} {M M' : CM} (hl : l.length ≤ 8) (hok : ImgsOk l) (h : CInv l m to M) (h' : CInv l m to M') {v : Version} (hb : Better M M' v) : phi (mget? M' v) < phi (mget? M v) := by
  obtain ⟨c', h1, h2⟩ := hb
  have b1 := h'.bd hl hok h1
  rw [h1]
  cases hg : mget? M v with
  | none => simp only [phi]; omega
  | some c =>
    have b2 := h.bd hl hok hg
    have := h2 c hg
    unfold lexlt at this
    simp only [phi] at *
    omega
theorem phi_le {l : List Image} {m : Str} {to : Version} {M M' : CM} (hl : l.length ≤ 8) (hok : ImgsOk l) (h : CInv l m to M) (h' : CInv l m to M') (hd : Down M M') (v : Version) : phi (mget? M' v) ≤ phi (mget? M v) := by
  cases hg : mget? M v with
  | none =>
    cases hg' : mget? M' v with
    | none => exact Nat.le_refl _
    | some c' =>
      have b1 := h'.bd hl hok hg'
      simp only [phi]; omega
  | some c =>
    obtain ⟨c', h1, h2⟩ := hd v c hg
    have b1 := h'.bd hl hok h1
    have b2 := h.bd hl hok hg
    rw [h1]
    unfold Net.lexle at h2
    simp only [phi] at *
    omega
/-- What a round is like, up to a place. -/
structure Round (l : List Image) (m : Str) (to : Version) (M0 : CM) (i : Int) (s : CM × Bool) : Prop where
  inv : CInv l m to s.1
  down : Down M0 s.1
  yes : s.2 = true → mu (ownL l m) s.1 < mu (ownL l m) M0
  no : s.2 = false → (∀ v, mget? s.1 v = mget? M0 v) ∧ ∀ x ∈ (ownL l m).take i.toNat, ClosedAt l m M0 x
theorem closed_same {l : List Image} {m : Str} {M M' : CM} {x : Image} (h : ∀ v, mget? M' v = mget? M v) (hc : ClosedAt l m M' x) : ClosedAt l m M x := by
  unfold ClosedAt cOf at *
  simpa only [h] using hc
theorem costs_l4_eq (l : List Image) (m : Str) (to : Version) (hl : l.length ≤ 8) (hok : ImgsOk l) (M0 : CM) (hM : CInv l m to M0) (nx : List (List Image)) (hnx : nx = (ownL l m).map (fun x => takeL l m x.Version)) :
    Ok (campaign_costs_l4 (ownL l m) nx M0 false 0) (fun r => ∃ M ag, r = .inl (M, ag) ∧ Round l m to M0 (ownL l m).length (M, ag)) := by
  unfold campaign_costs_l4
  have ho : (ownL l m).length ≤ l.length := List.length_filter_le _ _
  refine Ok.rangeS (ownL l m).length (fun (s : CM × Bool) (i : Int) => (s.1, s.2, i)) (Round l m to M0) ?_ (M0, false) ⟨hM, Down.refl _, fun h => (by cases h), fun _ => ⟨fun v => rfl, by simp⟩⟩
  rintro ⟨M, ag⟩ i h0 h1 hr
  show Ok (campaign_costs_b4 (ownL l m) nx M ag i) _
  unfold campaign_costs_b4
  split
  · rename_i hi
    refine Ok.idx h0 hi (fun x hix hxm => ?_)
    unfold mget2
    simp only [Option.bind_some]
    have e2 : idx nx i = some (takeL l m x.Version) := by rw [hnx, idx_map, hix]; rfl
    rw [e2]
    simp only [Option.bind_some]
    have e5 := costs_l5_eq l m to hl hok M hr.inv i ⟨h0, by omega⟩ x (ag, ((mget? M x.Version).getD ⟨0, 0⟩).steps_, ((mget? M x.Version).getD ⟨0, 0⟩).size_, (mget? M x.Version).isSome) (takeL l m x.Version) (fun y hy => own_mem (take_mem hy)) (Nat.le_trans (List.length_filter_le _ _) hl)
    simp only at e5
    rw [e5]
    refine Ok.ret (.inl ⟨(nextM l m M ag x, (stepM l m M ag x).1), rfl, hi, ?_⟩)
    obtain ⟨f1, f2, f3⟩ := step_facts l m to hl hok M hr.inv ag x hxm
    have hle : mu (ownL l m) (nextM l m M ag x) ≤ mu (ownL l m) M := sum_le _ _ _ (fun z _ => phi_le hl hok hr.inv f1 f2 z.Version)
    have hle0 : mu (ownL l m) M ≤ mu (ownL l m) M0 := sum_le _ _ _ (fun z _ => phi_le hl hok hM hr.inv hr.down z.Version)
    refine ⟨f1, hr.down.trans f2, fun hy => ?_, fun hn => ?_⟩
    · rcases f3 with ⟨g1, g2, g3⟩ | ⟨g1, g2⟩
      · simp only at hy
        rw [g1] at hy
        have := hr.yes hy
        simp only at this ⊢
        omega
      · have : mu (ownL l m) (nextM l m M ag x) < mu (ownL l m) M := sum_lt _ _ _ (fun z _ => phi_le hl hok hr.inv f1 f2 z.Version) ⟨x, hxm, phi_lt hl hok hr.inv f1 g2⟩
        simp only; omega
    · rcases f3 with ⟨g1, g2, g3⟩ | ⟨g1, g2⟩
      · simp only at hn
        rw [g1] at hn
        obtain ⟨k1, k2⟩ := hr.no hn
        refine ⟨fun v => (g2 v).trans (k1 v), fun z hz => ?_⟩
        rw [take_succ h0 hix, List.mem_append, List.mem_singleton] at hz
        rcases hz with hz | rfl
        · exact k2 z hz
        · exact closed_same k1 g3
      · simp only at hn; rw [g1] at hn; cases hn
  · rename_i hi
    have : i = (ownL l m).length := by omega
    subst this
    exact Ok.inr (Ok.ret (.inr ⟨_, rfl, M, ag, rfl, hr⟩))
theorem costs_l3_eq (l : List Image) (m : Str) (to : Version) (hl : l.length ≤ 8) (hok : ImgsOk l) (nx : List (List Image)) (hnx : nx = (ownL l m).map (fun x => takeL l m x.Version)) (M0 : CM) (h0 : CInv l m to M0) :
    Ok (campaign_costs_l3 (ownL l m) nx M0 true) (fun M => CInv l m to M ∧ ∀ x ∈ ownL l m, ClosedAt l m M x) := by
  unfold campaign_costs_l3
  refine Ok.iter (fun s : CM × Bool => 2 * mu (ownL l m) s.1 + if s.2 = true then 1 else 0) (fun s => CInv l m to s.1 ∧ (s.2 = false → ∀ x ∈ ownL l m, ClosedAt l m s.1 x)) ?_ (M0, true) ⟨h0, fun h => by cases h⟩
  rintro ⟨M, ag⟩ ⟨hi, hc⟩
  dsimp only at hi hc ⊢
  unfold campaign_costs_b3
  cases ag with
  | false =>
    rw [if_neg (by simp)]
    exact Ok.inr (Ok.ret ⟨hi, hc rfl⟩)
  | true =>
    rw [if_pos rfl]
    refine (costs_l4_eq l m to hl hok M hi nx hnx).mono ?_
    rintro r ⟨M', ag', rfl, hr⟩
    refine ⟨⟨hr.inv, fun hf => ?_⟩, ?_⟩
    · obtain ⟨k1, k2⟩ := hr.no hf
      intro x hx
      have e : (ownL l m).take ((ownL l m).length : Int).toNat = ownL l m := List.take_of_length_le (by omega)
      rw [e] at k2
      exact closed_same (fun v => (k1 v).symm) (k2 x hx)
    · cases ag' with
      | true =>
        have := hr.yes rfl
        simp only [if_true] at this ⊢; omega
      | false =>
        have hle : mu (ownL l m) M' ≤ mu (ownL l m) M := sum_le _ _ _ (fun z _ => phi_le hl hok hi hr.inv hr.down z.Version)
        simp only [if_true, Bool.false_eq_true, if_false]; omega
theorem costs_eq (l : List Image) (m : Str) (to : Version) (hx : ImgsB l) (hok : ImgsOk l) : Ok (campaign_costs l m to) (fun M => CInv l m to M ∧ (net l m).Costs (ownL l m) to (cOf M)) := by
  have hl := hx.1
  have ho : (ownL l m).length ≤ l.length := List.length_filter_le _ _
  have hob : ∀ x ∈ ownL l m, ImgB x := fun x h => hx.2 x (own_mem h)
  unfold campaign_costs campaign_costs_l1
  have h := iter_foldl l (fun (s : List Image) (i : Int) => (s, i)) (fun x : (List Image) × Int => campaign_costs_b1 l m to x.1 x.2) (fun acc x => if hasM m x = true then acc ++ [x] else acc) (fun i s => (s.length : Int) ≤ i) (fun s => campaign_costs_k6 m to s)
    (fun s i x h0 h1 hi hv => by
      have hb := hx.2 x (idx_mem hi)
      have w1 : w64 (i + 1) = i + 1 := w64_in (by omega) (by omega)
      show campaign_costs_b1 l m to s i = _ ∧ _
      unfold campaign_costs_b1
      rw [if_pos h1, hi]
      simp only [Option.bind_some]
      rw [hasM_eq hb]
      simp only [Option.bind_some]
      unfold campaign_costs_j1
      by_cases c : hasM m x = true
      · rw [if_pos c, app_le (by simp; omega)]
        refine ⟨by simp [w1, c], by simp [c]; omega⟩
      · rw [if_neg c]
        refine ⟨by simp [w1, c], by simp [c]; omega⟩)
    (fun s hv => by
      show campaign_costs_b1 l m to s l.length = _
      unfold campaign_costs_b1
      rw [if_neg (by omega)]) [] (by simp)
  rw [h, foldl_filter]
  rw [List.nil_append]
  show Ok (campaign_costs_k6 m to (ownL l m)) _
  unfold campaign_costs_k6
  have hmk : mkS ([] : List Image) ((ownL l m).length : Int) ((ownL l m).length : Int) = some (List.replicate (ownL l m).length []) := by
    unfold mkS; rw [if_pos (by omega)]; simp
  rw [hmk]
  simp only [Option.bind_some]
  unfold campaign_costs_l2
  refine Ok.rangeS (ownL l m).length (fun (s : List (List Image)) (i : Int) => (s, i)) (fun i s => s = ((ownL l m).take i.toNat).map (fun x => takeL l m x.Version) ++ List.replicate ((ownL l m).length - i.toNat) []) ?_ (List.replicate (ownL l m).length []) (by simp)
  intro s i h0 h1 hs
  have w1 : w64 (i + 1) = i + 1 := w64_in (by omega) (by omega)
  show Ok (campaign_costs_b2 m to (ownL l m) s i) _
  unfold campaign_costs_b2
  split
  · rename_i hi
    refine Ok.idx h0 hi (fun x hix hxm => ?_)
    rw [taken_eq (ownL l m) m x.Version hob (by omega), take_own]
    simp only [Option.bind_some]
    have hlen : s.length = (ownL l m).length := by rw [hs]; simp; omega
    refine Ok.idx h0 (by omega) (fun z _ _ => ?_)
    refine Ok.ret (.inl ⟨s.set i.toNat (takeL l m x.Version), by rw [w1], hi, ?_⟩)
    rw [hs, take_succ h0 hix, List.map_append, List.map_singleton]
    have hk : ((ownL l m).take i.toNat).length = i.toNat := by simp; omega
    obtain ⟨k, hk2⟩ : ∃ k, (ownL l m).length - i.toNat = k + 1 := ⟨(ownL l m).length - i.toNat - 1, by omega⟩
    rw [hk2, show (ownL l m).length - (i + 1).toNat = k by omega, List.replicate_succ, List.set_append_right _ _ (by simp; omega)]
    simp only [List.length_map, hk, Nat.sub_self, List.set_cons_zero, List.append_assoc, List.singleton_append]
  · rename_i hi
    have hii : i = (ownL l m).length := by omega
    subst hii
    refine Ok.inr ?_
    have hnx : s = (ownL l m).map (fun x => takeL l m x.Version) := by
      rw [hs]; simp
    have h0 : CInv l m to (mset ([] : CM) to ⟨0, 0⟩) := by
      have hg : ∀ v, mget? (mset ([] : CM) to ⟨0, 0⟩) v = if to = v then some ⟨0, 0⟩ else none := fun v => by rw [mget_mset]; rfl
      have key : ∀ v c, mget? (mset ([] : CM) to ⟨0, 0⟩) v = some c → v = to ∧ c = ⟨0, 0⟩ := by
        intro v c hc
        rw [hg] at hc
        split at hc
        · rename_i e; exact ⟨e.symm, (Option.some.inj hc).symm⟩
        · cases hc
      refine ⟨SM.nil.set _ _, by rw [hg, if_pos rfl], fun v c hc => ?_, fun v c hc => .inl (key v c hc).1, fun v c hc => ?_⟩
      · obtain ⟨rfl, rfl⟩ := key v c hc
        exact ⟨[], (Net.Walk.nil _).2 rfl, rfl, rfl⟩
      · obtain ⟨rfl, rfl⟩ := key v c hc
        rw [mset_new_len rfl]; simp
    refine (costs_l3_eq l m to hl hok s hnx _ h0).mono ?_
    rintro M ⟨hM, hc⟩
    refine .inr ⟨M, rfl, hM, ⟨by unfold cOf; rw [hM.atto]; rfl, fun v k hk => ?_, fun x hx y hy k hk => ?_⟩⟩
    · unfold cOf at hk
      obtain ⟨c, h1, rfl⟩ := Option.map_eq_some_iff.1 hk
      exact hM.sound v c h1
    · exact hc x hx y hy k hk
end Go.Beacon

/- The best way, step by step. No program in sight. -/
set_option linter.unusedVariables false
set_option linter.unusedSimpArgs false
namespace Go.Beacon
open Go Go.Eng

abbrev WS := (Int × Int × Int) × (Int × Int) × Bool
def v3 (v : Version) : Int × Int × Int := (v.Major, v.Minor, v.Patch)
def wst (M : CM) (s : WS) (y : Image) : WS :=
  match mget? M y.Version with
  | none => s
  | some c => if s.2.2 = false ∨ lexlt (c.steps_ + 1, c.size_ + y.Size) s.2.1 then (v3 y.Version, (c.steps_ + 1, c.size_ + y.Size), true) else s
def WP (M : CM) (done : List Image) (s : WS) : Prop :=
  (s.2.2 = false ∧ ∀ y ∈ done, mget? M y.Version = none) ∨
  (s.2.2 = true ∧ ∃ y ∈ done, ∃ c, mget? M y.Version = some c ∧ s.1 = v3 y.Version ∧ s.2.1 = (c.steps_ + 1, c.size_ + y.Size) ∧ ∀ y' ∈ done, ∀ c', mget? M y'.Version = some c' → lexlt s.2.1 (c'.steps_ + 1, c'.size_ + y'.Size) ∨ (s.2.1 = (c'.steps_ + 1, c'.size_ + y'.Size) ∧ vcmp y.Version y'.Version ≤ 0))
theorem wst_step (M : CM) (done : List Image) (y : Image) (s : WS) (hlt : ∀ z ∈ done, vcmp z.Version y.Version < 0) (h : WP M done s) : WP M (done ++ [y]) (wst M s y) := by
  unfold wst
  cases hg : mget? M y.Version with
  | none =>
    simp only
    rcases h with ⟨h1, h2⟩ | ⟨h1, b, hb, c, h2, h3, h4, h5⟩
    · refine .inl ⟨h1, fun z hz => ?_⟩
      rcases List.mem_append.1 hz with hz | hz
      · exact h2 z hz
      · rw [List.mem_singleton.1 hz]; exact hg
    · refine .inr ⟨h1, b, List.mem_append_left _ hb, c, h2, h3, h4, fun z hz c' hc' => ?_⟩
      rcases List.mem_append.1 hz with hz | hz
      · exact h5 z hz c' hc'
      · rw [List.mem_singleton.1 hz, hg] at hc'; cases hc'
  | some c0 =>
    simp only
    have last : ∀ z ∈ [y], ∀ c', mget? M z.Version = some c' → (c0.steps_ + 1, c0.size_ + y.Size) = (c'.steps_ + 1, c'.size_ + z.Size) ∧ vcmp y.Version z.Version ≤ 0 := by
      intro z hz c' hc'
      obtain rfl := List.mem_singleton.1 hz
      rw [hg] at hc'
      obtain rfl := Option.some.inj hc'
      exact ⟨rfl, by rw [vcmp_3.zero]; omega⟩
    split
    · rename_i hc
      refine .inr ⟨rfl, y, by simp, c0, hg, rfl, rfl, fun z hz c' hc' => ?_⟩
      rcases List.mem_append.1 hz with hz | hz
      · rcases h with ⟨h1, h2⟩ | ⟨h1, b, hb, c, h2, h3, h4, h5⟩
        · rw [h2 z hz] at hc'; cases hc'
        · left
          show lexlt (c0.steps_ + 1, c0.size_ + y.Size) (c'.steps_ + 1, c'.size_ + z.Size)
          rcases hc with hc | hc
          · rw [h1] at hc; cases hc
          · have := h5 z hz c' hc'
            unfold lexlt at *
            simp only at *
            rcases this with this | ⟨this, _⟩
            · omega
            · rw [this] at hc; exact hc
      · exact .inr (last z hz c' hc')
    · rename_i hc
      rw [not_or] at hc
      have hs : s.2.2 = true := by simpa using hc.1
      rcases h with ⟨h1, h2⟩ | ⟨h1, b, hb, c, h2, h3, h4, h5⟩
      · rw [hs] at h1; cases h1
      · refine .inr ⟨h1, b, List.mem_append_left _ hb, c, h2, h3, h4, fun z hz c' hc' => ?_⟩
        rcases List.mem_append.1 hz with hz | hz
        · exact h5 z hz c' hc'
        · obtain ⟨e1, e2⟩ := last z hz c' hc'
          rw [← e1]
          have k := hc.2
          by_cases q : lexlt s.2.1 (c0.steps_ + 1, c0.size_ + y.Size)
          · exact .inl q
          · right
            refine ⟨?_, ?_⟩
            · unfold lexlt at k q
              refine Prod.ext ?_ ?_ <;> omega
            · have hzy : z = y := List.mem_singleton.1 hz
              rw [hzy]
              exact Int.le_of_lt (hlt b hb)
theorem wst_all (M : CM) : ∀ (rest done : List Image) (s : WS), (done ++ rest).Pairwise (fun a b => vcmp a.Version b.Version < 0) → WP M done s → WP M (done ++ rest) (rest.foldl (wst M) s)
  | [], done, s, _, h => by simpa using h
  | y :: r, done, s, hp, h => by
    have hp' : (done ++ [y] ++ r).Pairwise (fun a b => vcmp a.Version b.Version < 0) := by simpa using hp
    have := wst_all M r (done ++ [y]) (wst M s y) hp' (wst_step M done y s (fun z hz => by
      rw [List.pairwise_append] at hp
      exact hp.2.2 z hz y List.mem_cons_self) h)
    simpa using this
/-- One step of the way. -/
theorem way_step (l : List Image) (m : Str) (to : Version) (hx : ImgsB l) (hok : ImgsOk l) (M : CM) (hM : CInv l m to M) (v : Version) (hv : v ≠ to) (out : List Version) (ho : out.length ≤ 1000) :
    (campaign_way_b1 l m to M out v.Major v.Minor v.Patch = some (.inr ([], false)) ∧ ∀ y ∈ takeL l m v, mget? M y.Version = none) ∨
    (∃ x ∈ takeL l m v, ∃ c, mget? M x.Version = some c ∧ campaign_way_b1 l m to M out v.Major v.Minor v.Patch = some (.inl (out ++ [x.Version], x.Version.Major, x.Version.Minor, x.Version.Patch)) ∧
      ∀ y ∈ takeL l m v, ∀ c', mget? M y.Version = some c' → lexlt (c.steps_ + 1, c.size_ + x.Size) (c'.steps_ + 1, c'.size_ + y.Size) ∨ ((c.steps_ + 1, c.size_ + x.Size) = (c'.steps_ + 1, c'.size_ + y.Size) ∧ vcmp x.Version y.Version ≤ 0)) := by
  have hl := hx.1
  have hpw : (takeL l m v).Pairwise (fun a b => vcmp a.Version b.Version < 0) := List.Pairwise.filter _ hok.2
  have hlen : (takeL l m v).length ≤ l.length := List.length_filter_le _ _
  have W := wst_all M (takeL l m v) [] ((0, 0, 0), (0, 0), false) (by simpa using hpw) (.inl ⟨rfl, fun y hy => (by cases hy)⟩)
  rw [List.nil_append] at W
  have run : campaign_way_b1 l m to M out v.Major v.Minor v.Patch = campaign_way_k3 out ((takeL l m v).foldl (wst M) ((0, 0, 0), (0, 0), false)).1.1 ((takeL l m v).foldl (wst M) ((0, 0, 0), (0, 0), false)).1.2.1 ((takeL l m v).foldl (wst M) ((0, 0, 0), (0, 0), false)).1.2.2 ((takeL l m v).foldl (wst M) ((0, 0, 0), (0, 0), false)).2.2 := by
    unfold campaign_way_b1
    rw [if_pos hv, taken_eq l m v hx.2 (by omega)]
    simp only [Option.bind_some]
    unfold campaign_way_l2
    exact iter_foldl (takeL l m v) (fun (s : WS) (i : Int) => (s.1.1, s.1.2.1, s.1.2.2, s.2.1.1, s.2.1.2, s.2.2, i)) (fun x : Int × Int × Int × Int × Int × Bool × Int => campaign_way_b2 M out (takeL l m v) x.1 x.2.1 x.2.2.1 x.2.2.2.1 x.2.2.2.2.1 x.2.2.2.2.2.1 x.2.2.2.2.2.2) (wst M) (fun _ _ => True) (fun s => campaign_way_k3 out s.1.1 s.1.2.1 s.1.2.2 s.2.2)
      (fun s i y h0 h1 hi _ => by
        refine ⟨?_, trivial⟩
        have w1 : w64 (i + 1) = i + 1 := w64_in (by omega) (by omega)
        have hy := (hok.1 y (own_mem (take_mem (idx_mem hi)))).size
        obtain ⟨⟨a, b, d⟩, ⟨k, z⟩, is⟩ := s
        show campaign_way_b2 M out (takeL l m v) a b d k z is i = _
        unfold campaign_way_b2
        rw [if_pos h1, hi]
        simp only [Option.bind_some]
        unfold mget2 wst
        cases hg : mget? M y.Version with
        | none =>
          simp only [Option.getD_none, Option.isSome_none, Option.bind_some, Bool.false_eq_true, if_false]
          unfold campaign_way_j1 campaign_way_j2
          rw [if_neg (by simp), w1]
        | some c =>
          have hb := hM.bd hl hok hg
          have v1 : w64 (c.steps_ + 1) = c.steps_ + 1 := w64_in (by omega) (by omega)
          have v2 : w64 (c.size_ + y.Size) = c.size_ + y.Size := w64_in (by omega) (by omega)
          simp only [Option.getD_some, Option.isSome_some, Option.bind_some, if_true, v1, v2]
          cases is with
          | false =>
            simp only [Bool.not_false, if_true, true_or]
            unfold campaign_way_j1 campaign_way_j2
            rw [if_pos rfl, v1, v2, w1]; rfl
          | true =>
            simp only [Bool.not_true, Bool.false_eq_true, if_false, Bool.true_eq_false, false_or]
            rw [byCost_eq]
            simp only [Option.bind_some]
            rw [byCost_lt]
            unfold campaign_way_j1 campaign_way_j2
            simp only [v1, v2, w1]
            by_cases hc : lexlt (c.steps_ + 1, c.size_ + y.Size) (k, z)
            · rw [if_pos (by simpa using hc)]; simp [hc, v3]
            · rw [if_neg (by simpa using hc)]; simp [hc])
      (fun s _ => by
        show campaign_way_b2 M out (takeL l m v) s.1.1 s.1.2.1 s.1.2.2 s.2.1.1 s.2.1.2 s.2.2 (takeL l m v).length = _
        unfold campaign_way_b2
        rw [if_neg (by omega)]) ((0, 0, 0), (0, 0), false) trivial
  rw [run]
  generalize hR : (takeL l m v).foldl (wst M) ((0, 0, 0), (0, 0), false) = R at W
  unfold campaign_way_k3
  rcases W with ⟨h1, h2⟩ | ⟨h1, x, hxm, c, h2, h3, h4, h5⟩
  · left
    rw [h1]
    exact ⟨rfl, h2⟩
  · right
    refine ⟨x, hxm, c, h2, ?_, fun y hy c' hc' => ?_⟩
    · rw [h1, if_neg (by simp), h3]
      show (app out [(⟨x.Version.Major, x.Version.Minor, x.Version.Patch⟩ : Version)]).bind _ = _
      rw [app_le (by simp; omega)]; rfl
    · have := h5 y hy c' hc'
      rw [h4] at this; exact this
theorem way_l1_eq (l : List Image) (m : Str) (to : Version) (hx : ImgsB l) (hok : ImgsOk l) (M : CM) (hM : CInv l m to M) (C : (net l m).Costs (ownL l m) to (cOf M)) : ∀ (n : Nat) (v : Version) (k : Campaign_cost) (out : List Version), (v = to ∨ ∃ x ∈ ownL l m, x.Version = v) → mget? M v = some k → k.steps_ ≤ n → out.length + n ≤ 1000 →
    ∃ p, Net.Greedy (net l m) (cOf M) to v p ∧ campaign_way_l1 l m to M out v.Major v.Minor v.Patch = some (out ++ p.map Image.Version, true) := by
  intro n
  induction n with
  | zero =>
    intro v k out hv hk hn ho
    have e : v = to := by
      obtain ⟨p, h1, h2, h3⟩ := hM.sound v k hk
      have : p = [] := List.length_eq_zero_iff.1 (by omega)
      subst this
      exact (Net.Walk.nil _).1 h1
    subst e
    refine ⟨[], .nil, ?_⟩
    unfold campaign_way_l1
    rw [iter_eq]
    show (campaign_way_b1 l m v M out v.Major v.Minor v.Patch).bind _ = _
    unfold campaign_way_b1
    rw [if_neg (by simp), map_inr_after]; simp
  | succ n ih =>
    intro v k out hv hk hn ho
    unfold campaign_way_l1
    by_cases e : v = to
    · subst e
      refine ⟨[], .nil, ?_⟩
      rw [iter_eq]
      show (campaign_way_b1 l m v M out v.Major v.Minor v.Patch).bind _ = _
      unfold campaign_way_b1
      rw [if_neg (by simp), map_inr_after]; simp
    · obtain ⟨p, h1, h2, h3⟩ := hM.sound v k hk
      cases p with
      | nil => exact absurd ((Net.Walk.nil _).1 h1) e
      | cons y r =>
        rw [Net.Walk.cons] at h1
        have hyo := take_mem h1.1
        obtain ⟨ky, h4, h5⟩ := C.low (net_good hok) r y.Version (.inr ⟨y, hyo, rfl⟩) h1.2
        unfold cOf at h4
        obtain ⟨cy, h6, h7⟩ := Option.map_eq_some_iff.1 h4
        rcases way_step l m to hx hok M hM v e out (by omega) with ⟨s1, s2⟩ | ⟨x, hxm, c, s1, s2, s3⟩
        · rw [s2 y h1.1] at h6; cases h6
        · have hxo := take_mem hxm
          have hle : c.steps_ ≤ n := by
            have := s3 y h1.1 cy h6
            rw [← h7] at h5
            unfold Net.lexle at h5
            unfold lexlt at this
            simp only [List.length_cons, Prod.mk.injEq] at *
            omega
          obtain ⟨p', g1, g2⟩ := ih x.Version c (out ++ [x.Version]) (.inr ⟨x, hxo, rfl⟩) s1 hle (by simp; omega)
          refine ⟨x :: p', .cons e hxm (by unfold cOf; show Option.map _ (mget? M x.Version) = _; rw [s1]; rfl) (fun z hz k' hk' => ?_) g1, ?_⟩
          · unfold cOf at hk'
            obtain ⟨cz, h8, rfl⟩ := Option.map_eq_some_iff.1 hk'
            have := s3 z hz cz h8
            unfold lexlt at this
            simp only [Prod.mk.injEq] at this ⊢
            show _ ∨ (_ ∧ (c.size_ + x.Size < cz.size_ + z.Size ∨ (c.size_ + x.Size = cz.size_ + z.Size ∧ vcmp x.Version z.Version ≤ 0)))
            omega
          · rw [iter_eq]
            show (campaign_way_b1 l m to M out v.Major v.Minor v.Patch).bind _ = _
            rw [s2]
            simp only [Option.bind_some, after_inl]
            unfold campaign_way_l1 at g2
            rw [g2]; simp
theorem way_eq (l : List Image) (m : Str) (fr to : Version) (hx : ImgsB l) (hok : ImgsOk l) (M : CM) (hM : CInv l m to M) (C : (net l m).Costs (ownL l m) to (cOf M)) :
    (∃ p, (net l m).Best fr to p ∧ p.length ≤ l.length ∧ campaign_way l m fr to M = some (p.map Image.Version, true)) ∨ ((∀ p, ¬ (net l m).Walk fr p to) ∧ campaign_way l m fr to M = some ([], false)) := by
  unfold campaign_way
  have hg := net_good (m := m) hok
  have fin : ∀ {p}, Net.Greedy (net l m) (cOf M) to fr p → (net l m).Best fr to p ∧ p.length ≤ l.length := fun g => ⟨(Net.Greedy.best hg C g).1, Nat.le_trans (Net.Greedy.len hg C g) (List.length_filter_le _ _)⟩
  by_cases e : fr = to
  · subst e
    obtain ⟨p, h1, h2⟩ := way_l1_eq l m fr hx hok M hM C 0 fr ⟨0, 0⟩ [] (.inl rfl) hM.atto (by simp) (by simp)
    exact .inl ⟨p, (fin h1).1, (fin h1).2, by rw [h2]; simp⟩
  · rcases way_step l m to hx hok M hM fr e [] (by simp) with ⟨s1, s2⟩ | ⟨x, hxm, c, s1, s2, s3⟩
    · right
      refine ⟨fun p hp => ?_, ?_⟩
      · cases p with
        | nil => exact e ((Net.Walk.nil _).1 hp)
        | cons y r =>
          rw [Net.Walk.cons] at hp
          obtain ⟨ky, h4, h5⟩ := C.low hg r y.Version (.inr ⟨y, take_mem hp.1, rfl⟩) hp.2
          unfold cOf at h4
          obtain ⟨cy, h6, h7⟩ := Option.map_eq_some_iff.1 h4
          rw [s2 y hp.1] at h6; cases h6
      · unfold campaign_way_l1
        rw [iter_eq]
        show (campaign_way_b1 l m to M [] fr.Major fr.Minor fr.Patch).bind _ = _
        rw [s1]; rfl
    · left
      have hb := hM.bd hx.1 hok s1
      obtain ⟨p', g1, g2⟩ := way_l1_eq l m to hx hok M hM C 8 x.Version c ([] ++ [x.Version]) (.inr ⟨x, take_mem hxm, rfl⟩) s1 (by omega) (by simp)
      have G : Net.Greedy (net l m) (cOf M) to fr (x :: p') := .cons e hxm (by unfold cOf; show Option.map _ (mget? M x.Version) = _; rw [s1]; rfl) (fun z hz k' hk' => by
          unfold cOf at hk'
          obtain ⟨cz, h8, rfl⟩ := Option.map_eq_some_iff.1 hk'
          have := s3 z hz cz h8
          unfold lexlt at this
          simp only [Prod.mk.injEq] at this ⊢
          show _ ∨ (_ ∧ (c.size_ + x.Size < cz.size_ + z.Size ∨ (c.size_ + x.Size = cz.size_ + z.Size ∧ vcmp x.Version z.Version ≤ 0)))
          omega) g1
      refine ⟨x :: p', (fin G).1, (fin G).2, ?_⟩
      unfold campaign_way_l1
      rw [iter_eq]
      show (campaign_way_b1 l m to M [] fr.Major fr.Minor fr.Patch).bind _ = _
      rw [s2]
      simp only [Option.bind_some, after_inl]
      unfold campaign_way_l1 at g2
      rw [g2]; simp
end Go.Beacon

/- The reference's way: all ways of each length. No program in sight. -/
set_option linter.unusedVariables false
set_option linter.unusedSimpArgs false
namespace Go.Beacon
open Go Go.Eng

abbrev TM := List (Version × Fleetref2_trip)
theorem CmpF_eq (a b : List Version) (ha : a.length ≤ 100000) (hb : b.length ≤ 100000) : slices_CompareFunc_Version_LVersion_Version_Version a b (fun y0 y1 => Q_VersionOrder y0 y1) = some (lexC vcmp a b) := by
  unfold slices_CompareFunc_Version_LVersion_Version_Version
  have key : ∀ (n : Nat) (i : Int), 0 ≤ i → i + n = a.length → i ≤ b.length → slices_CompareFunc_Version_LVersion_Version_Version_l1 a b (fun y0 y1 => Q_VersionOrder y0 y1) i = some (lexC vcmp (a.drop i.toNat) (b.drop i.toNat)) := by
    intro n
    induction n with
    | zero =>
      intro i h0 hn hb2
      have e1 : a.drop i.toNat = [] := List.drop_of_length_le (by omega)
      unfold slices_CompareFunc_Version_LVersion_Version_Version_l1
      rw [iter_eq, slices_CompareFunc_Version_LVersion_Version_Version_b1, if_neg (by omega), map_inr_after, e1]
      unfold slices_CompareFunc_Version_LVersion_Version_Version_k1
      split
      · have hlt : i.toNat < b.length := by omega
        rw [List.drop_eq_getElem_cons hlt]; rfl
      · have e2 : b.drop i.toNat = [] := List.drop_of_length_le (by omega)
        rw [e2]; rfl
    | succ n ih =>
      intro i h0 hn hb2
      obtain ⟨x, hx, _, hd⟩ := idx_lt a h0 (by omega)
      unfold slices_CompareFunc_Version_LVersion_Version_Version_l1
      rw [iter_eq, slices_CompareFunc_Version_LVersion_Version_Version_b1, if_pos (by omega), hx]
      simp only [Option.bind_some]
      by_cases hbl : (b.length : Int) ≤ i
      · rw [if_pos hbl, map_inr_after, hd, List.drop_of_length_le (l := b) (by omega)]; rfl
      · obtain ⟨y, hy, _, hd2⟩ := idx_lt b h0 (by omega)
        rw [if_neg hbl, hy]
        simp only [Option.bind_some]
        rw [vOrder_eq]
        simp only [Option.bind_some]
        rw [hd, hd2, lexC_cons]
        by_cases hc : vcmp x y = 0
        · rw [if_neg (show ¬ vcmp x y ≠ 0 from fun k => k hc), if_neg (show ¬ vcmp x y ≠ 0 from fun k => k hc), w64_in (by omega) (by omega)]
          simp only [Option.bind_some, after_inl]
          exact ih (i + 1) (by omega) (by omega) (by omega)
        · rw [if_pos hc, if_pos hc, map_inr_after]
  have := key a.length 0 (by omega) (by omega) (by omega)
  simpa using this

/-! a new trip beside the best until now -/
def tlt (a b : Fleetref2_trip) : Prop := a.size_ < b.size_ ∨ (a.size_ = b.size_ ∧ lexC vcmp a.way_ b.way_ < 0)
def tle (a b : Fleetref2_trip) : Prop := a.size_ < b.size_ ∨ (a.size_ = b.size_ ∧ lexC vcmp a.way_ b.way_ ≤ 0)
instance (a b : Fleetref2_trip) : Decidable (tlt a b) := by unfold tlt; exact inferInstance
theorem vG : (⟨Image.Version, Image.Size, fun _ => [], vcmp⟩ : Net Version Image).Good [] :=
  ⟨fun a b => vcmp_neg a b, fun a b => vcmp_zero, fun a b c => vcmp_le_tr, fun v x hx => (by cases hx), fun x hx => (by cases hx)⟩
theorem lx_neg (a b : List Version) : lexC vcmp b a = - lexC vcmp a b := vG.lexC_neg _ a b
theorem lx_zero (a b : List Version) (h : lexC vcmp a b = 0) : a = b := vG.lexC_zero _ a b h
theorem lx_self (a : List Version) : lexC vcmp a a = 0 := vG.lexC_self _ a
theorem lx_tr {a b c : List Version} (h1 : lexC vcmp a b ≤ 0) (h2 : lexC vcmp b c ≤ 0) : lexC vcmp a c ≤ 0 := vG.lexC_tr _ a b c h1 h2
theorem tle_refl (a : Fleetref2_trip) : tle a a := .inr ⟨rfl, by rw [lx_self]; omega⟩
theorem tle_tr {a b c : Fleetref2_trip} (h1 : tle a b) (h2 : tle b c) : tle a c := by
  unfold tle at *
  rcases h1 with h1 | ⟨h1, h3⟩
  · left; omega
  · rcases h2 with h2 | ⟨h2, h4⟩
    · left; omega
    · exact .inr ⟨by omega, lx_tr h3 h4⟩
theorem tle_of_lt {a b : Fleetref2_trip} (h : tlt a b) : tle a b := by
  unfold tlt tle at *; omega
theorem tle_of_not {a b : Fleetref2_trip} (h : ¬ tlt a b) : tle b a := by
  have := lx_neg a.way_ b.way_
  unfold tlt tle at *; omega
theorem tle_anti {a b : Fleetref2_trip} (h1 : tle a b) (h2 : tle b a) : a = b := by
  have := lx_neg a.way_ b.way_
  unfold tle at h1 h2
  have e1 : a.size_ = b.size_ := by omega
  have e2 : a.way_ = b.way_ := lx_zero _ _ (by omega)
  obtain ⟨w, s⟩ := a
  obtain ⟨w', s'⟩ := b
  simp only at e1 e2; rw [e1, e2]
def cnd (t : Fleetref2_trip) (x : Image) : Fleetref2_trip := ⟨t.way_ ++ [x.Version], t.size_ + x.Size⟩
def tst (t : Fleetref2_trip) (D : TM) (x : Image) : TM :=
  match mget? D x.Version with
  | none => mset D x.Version (cnd t x)
  | some o => if tlt (cnd t x) o then mset D x.Version (cnd t x) else D
/-- What was compared, and what is kept. -/
structure PD (cs : List (Version × Fleetref2_trip)) (D : TM) : Prop where
  sm : SM D
  sound : ∀ v t, mget? D v = some t → (v, t) ∈ cs
  best : ∀ v c, (v, c) ∈ cs → ∃ t, mget? D v = some t ∧ tle t c
theorem PD.nil : PD [] [] := ⟨SM.nil, fun v t h => (by rw [mget_nil] at h; cases h), fun v c h => (by cases h)⟩
theorem PD.step {cs : List (Version × Fleetref2_trip)} {D : TM} (h : PD cs D) (t : Fleetref2_trip) (x : Image) : PD (cs ++ [(x.Version, cnd t x)]) (tst t D x) := by
  have put : (∀ o, mget? D x.Version = some o → tle (cnd t x) o) → PD (cs ++ [(x.Version, cnd t x)]) (mset D x.Version (cnd t x)) := by
    intro hb
    refine ⟨h.sm.set _ _, fun v u hu => ?_, fun v c hc => ?_⟩
    · rw [mget_mset] at hu
      split at hu
      · rename_i e; subst e; obtain rfl := Option.some.inj hu; simp
      · exact List.mem_append_left _ (h.sound v u hu)
    · rw [mget_mset]
      split
      · rename_i e
        subst e
        refine ⟨_, rfl, ?_⟩
        rcases List.mem_append.1 hc with hc | hc
        · obtain ⟨o, h1, h2⟩ := h.best _ c hc
          exact tle_tr (hb o h1) h2
        · rw [(Prod.mk.inj (List.mem_singleton.1 hc)).2]; exact tle_refl _
      · rename_i ne
        rcases List.mem_append.1 hc with hc | hc
        · exact h.best v c hc
        · exact absurd (Prod.mk.inj (List.mem_singleton.1 hc)).1.symm ne
  unfold tst
  cases hg : mget? D x.Version with
  | none => exact put (fun o ho => by rw [hg] at ho; cases ho)
  | some o =>
    simp only
    split
    · rename_i hlt
      exact put (fun o' ho => by rw [hg] at ho; obtain rfl := Option.some.inj ho; exact tle_of_lt hlt)
    · rename_i hn
      refine ⟨h.sm, fun v u hu => List.mem_append_left _ (h.sound v u hu), fun v c hc => ?_⟩
      rcases List.mem_append.1 hc with hc | hc
      · exact h.best v c hc
      · obtain ⟨rfl, rfl⟩ := Prod.mk.inj (List.mem_singleton.1 hc)
        exact ⟨o, hg, tle_of_not hn⟩
theorem PD.fold (t : Fleetref2_trip) : ∀ (xs : List Image) (cs : List (Version × Fleetref2_trip)) (D : TM), PD cs D → PD (cs ++ xs.map (fun x => (x.Version, cnd t x))) (xs.foldl (tst t) D)
  | [], cs, D, h => by simpa using h
  | x :: r, cs, D, h => by
    have := PD.fold t r _ _ (h.step t x)
    simpa using this
theorem PD.unique {cs cs' : List (Version × Fleetref2_trip)} {D D' : TM} (h : PD cs D) (h' : PD cs' D') (hm : ∀ e, e ∈ cs ↔ e ∈ cs') : D = D' := by
  refine map_ext h.sm h'.sm (fun v => ?_)
  cases hg : mget? D v with
  | none =>
    cases hg' : mget? D' v with
    | none => rfl
    | some t' =>
      obtain ⟨t, h1, _⟩ := h.best v t' ((hm _).2 (h'.sound v t' hg'))
      rw [hg] at h1; cases h1
  | some t =>
    obtain ⟨t', h1, h2⟩ := h'.best v t ((hm _).1 (h.sound v t hg))
    obtain ⟨t2, h3, h4⟩ := h.best v t' ((hm _).2 (h'.sound v t' h1))
    rw [hg] at h3; obtain rfl := Option.some.inj h3
    rw [h1, tle_anti h4 h2]
def cands (l : List Image) (m : Str) (es : TM) : List (Version × Fleetref2_trip) := es.flatMap (fun e => (takeL l m e.1).map (fun x => (x.Version, cnd e.2 x)))
def lvl (l : List Image) (m : Str) (B : TM) : TM := B.foldl (fun D e => (takeL l m e.1).foldl (tst e.2) D) []
theorem lvl_PD (l : List Image) (m : Str) : ∀ (es done : TM) (D : TM), PD (cands l m done) D → PD (cands l m (done ++ es)) (es.foldl (fun D e => (takeL l m e.1).foldl (tst e.2) D) D)
  | [], done, D, h => by simpa using h
  | e :: r, done, D, h => by
    have h1 := PD.fold e.2 (takeL l m e.1) _ _ h
    have h2 : cands l m done ++ (takeL l m e.1).map (fun x => (x.Version, cnd e.2 x)) = cands l m (done ++ [e]) := by
      unfold cands; simp
    rw [h2] at h1
    have := lvl_PD l m r (done ++ [e]) _ h1
    simpa using this
theorem lvl_is (l : List Image) (m : Str) (B : TM) : PD (cands l m B) (lvl l m B) := by
  have := lvl_PD l m B [] [] PD.nil
  unfold lvl
  simpa using this
/-- One entry's loop. -/
theorem way3_eq (l : List Image) (m : Str) (hx : ImgsB l) (hok : ImgsOk l) (e : Version × Fleetref2_trip) (he : e.2.way_.length ≤ 1000 ∧ 0 ≤ e.2.size_ ∧ e.2.size_ ≤ 1000000000000) (D : TM) (hD : ∀ v t, mget? D v = some t → t.way_.length ≤ 1001) :
    Q_WayOf_b2 l m e D = some (.inl ((takeL l m e.1).foldl (tst e.2) D)) := by
  have hl := hx.1
  have hlen : (takeL l m e.1).length ≤ l.length := List.length_filter_le _ _
  unfold Q_WayOf_b2
  rw [next_eq l m e.1 hx.2 (by omega)]
  simp only [Option.bind_some]
  unfold Q_WayOf_l3
  exact iter_foldl (takeL l m e.1) (fun (s : TM) (i : Int) => (s, i)) (fun x : TM × Int => Q_WayOf_b3 e (takeL l m e.1) x.1 x.2) (tst e.2) (fun _ s => ∀ v t, mget? s v = some t → t.way_.length ≤ 1001) (fun s => some (.inl s))
    (fun s i x h0 h1 hi hv => by
      have w1 : w64 (i + 1) = i + 1 := w64_in (by omega) (by omega)
      have hxm := take_mem (idx_mem hi)
      have hsz := (hok.1 x (own_mem hxm)).size
      have v2 : w64 (e.2.size_ + x.Size) = e.2.size_ + x.Size := w64_in (by omega) (by omega)
      have hlc : (cnd e.2 x).way_.length ≤ 1001 := by simp [cnd]; omega
      constructor
      · show Q_WayOf_b3 e (takeL l m e.1) s i = _
        unfold Q_WayOf_b3
        rw [if_pos h1, hi]
        simp only [Option.bind_some]
        have hcl : slices_Clone_Version_Version e.2.way_ = some e.2.way_ := by
          unfold slices_Clone_Version_Version; rw [app_le (by simp; omega)]; simp
        rw [hcl]
        simp only [Option.bind_some]
        rw [app_le (by simp; omega)]
        simp only [Option.bind_some]
        unfold mget2 tst
        have put : ∀ c, c = true → Q_WayOf_j1 e s i x (e.2.way_ ++ [x.Version]) c = some (.inl (mset s x.Version (cnd e.2 x), i + 1)) := by
          intro c hc
          unfold Q_WayOf_j1 Q_WayOf_j2
          rw [if_pos hc, v2, w1]; rfl
        have skip : ∀ c, c = false → Q_WayOf_j1 e s i x (e.2.way_ ++ [x.Version]) c = some (.inl (s, i + 1)) := by
          intro c hc
          unfold Q_WayOf_j1 Q_WayOf_j2
          rw [if_neg (by simp [hc]), w1]
        cases hg : mget? s x.Version with
        | none =>
          simp only [Option.getD_none, Option.isSome_none, Option.bind_some, Bool.not_false, if_true]
          exact put true rfl
        | some o =>
          simp only [Option.getD_some, Option.isSome_some, Option.bind_some, Bool.not_true, Bool.false_eq_true, if_false, v2]
          by_cases c1 : e.2.size_ + x.Size < o.size_
          · rw [if_pos c1, if_pos (show tlt (cnd e.2 x) o from .inl c1)]
            exact put true rfl
          · rw [if_neg c1]
            by_cases c2 : e.2.size_ + x.Size = o.size_
            · rw [if_pos c2, CmpF_eq _ _ (by simp; omega) (by have := hv _ o hg; omega)]
              simp only [Option.bind_some]
              by_cases c3 : lexC vcmp (e.2.way_ ++ [x.Version]) o.way_ < 0
              · rw [if_pos (show tlt (cnd e.2 x) o from .inr ⟨c2, c3⟩)]
                exact put _ (by simp [c3])
              · rw [if_neg (show ¬ tlt (cnd e.2 x) o from fun k => k.elim c1 (fun k => c3 k.2))]
                exact skip _ (by simp [c3])
            · rw [if_neg c2, if_neg (show ¬ tlt (cnd e.2 x) o from fun k => k.elim c1 (fun k => c2 k.1))]
              exact skip false rfl
      · intro v t ht
        unfold tst at ht
        have put : mget? (mset s x.Version (cnd e.2 x)) v = some t → t.way_.length ≤ 1001 := by
          intro ht
          rw [mget_mset] at ht
          split at ht
          · obtain rfl := Option.some.inj ht; exact hlc
          · exact hv v t ht
        cases hg : mget? s x.Version with
        | none => rw [hg] at ht; exact put ht
        | some o =>
          rw [hg] at ht
          simp only at ht
          split at ht
          · exact put ht
          · exact hv v t ht)
    (fun s hv => by
      show Q_WayOf_b3 e (takeL l m e.1) s (takeL l m e.1).length = _
      unfold Q_WayOf_b3
      rw [if_neg (by omega)]) D hD
/-- All entries, in any order. -/
theorem way2_eq (l : List Image) (m : Str) (hx : ImgsB l) (hok : ImgsOk l) (B : TM) (hB : ∀ e ∈ B, e.2.way_.length ≤ 1000 ∧ 0 ≤ e.2.size_ ∧ e.2.size_ ≤ 1000000000000) (k : Int) (hk : 0 ≤ k ∧ k ≤ 1000) :
    Q_WayOf_l2 l m B k [] = some (.inl (lvl l m B, k + 1)) := by
  unfold Q_WayOf_l2
  refine overP_inv _ _ B [] _ (fun done D => PD (cands l m done) D) PD.nil ?_ ?_
  · intro done e rest D hp hD
    left
    have hmem : e ∈ B := hp.mem_iff.1 (by simp)
    have hsub : ∀ z ∈ done, z ∈ B := fun z hz => hp.mem_iff.1 (by simp [hz])
    refine ⟨_, way3_eq l m hx hok e (hB e hmem) D (fun v t ht => ?_), ?_⟩
    · have := hD.sound v t ht
      unfold cands at this
      obtain ⟨z, hz, h1⟩ := List.mem_flatMap.1 this
      obtain ⟨x, hx2, h2⟩ := List.mem_map.1 h1
      have hz2 := (hB z (hsub z hz)).1
      rw [← (Prod.mk.inj h2).2]
      simp [cnd]; omega
    · have h1 := PD.fold e.2 (takeL l m e.1) _ _ hD
      have h2 : cands l m done ++ (takeL l m e.1).map (fun x => (x.Version, cnd e.2 x)) = cands l m (done ++ [e]) := by
        unfold cands; simp
      rw [h2] at h1
      exact h1
  · intro p D hp hD
    unfold Q_WayOf_f2
    rw [w64_in (by omega) (by omega)]
    have : D = lvl l m B := hD.unique (lvl_is l m B) (fun e => by
      unfold cands
      rw [List.mem_flatMap, List.mem_flatMap]
      constructor
      · rintro ⟨z, h1, h2⟩; exact ⟨z, hp.mem_iff.1 h1, h2⟩
      · rintro ⟨z, h1, h2⟩; exact ⟨z, hp.mem_iff.2 h1, h2⟩)
    rw [this]
def bOf (B : TM) (v : Version) : Option (List Version × Int) := (mget? B v).map (fun t => (t.way_, t.size_))
theorem lvl_next (l : List Image) (m : Str) (hok : ImgsOk l) (fr : Version) (k : Nat) (B : TM) (hs : SM B) (L : Net.Level (net l m) fr k (bOf B)) : SM (lvl l m B) ∧ Net.Level (net l m) fr (k + 1) (bOf (lvl l m B)) := by
  have P := lvl_is l m B
  have ent : ∀ v t, (v, t) ∈ cands l m B ↔ ∃ u s, (u, s) ∈ B ∧ ∃ x ∈ takeL l m u, x.Version = v ∧ t = cnd s x := by
    intro v t
    unfold cands
    rw [List.mem_flatMap]
    constructor
    · rintro ⟨⟨u, s⟩, h1, h2⟩
      obtain ⟨x, h3, h4⟩ := List.mem_map.1 h2
      exact ⟨u, s, h1, x, h3, (Prod.mk.inj h4).1, (Prod.mk.inj h4).2.symm⟩
    · rintro ⟨u, s, h1, x, h2, rfl, rfl⟩
      exact ⟨(u, s), h1, List.mem_map.2 ⟨x, h2, rfl⟩⟩
  refine ⟨P.sm, Net.Level.next (own := ownL l m) (net_good hok) L (fun v t ht => ?_) (fun u s x hu hxm => ?_)⟩
  · unfold bOf at ht
    obtain ⟨t', h1, rfl⟩ := Option.map_eq_some_iff.1 ht
    obtain ⟨u, s, h2, x, h3, h4, rfl⟩ := (ent v t').1 (P.sound v t' h1)
    exact ⟨u, (s.way_, s.size_), x, by unfold bOf; rw [hs.get_iff.2 h2]; rfl, h3, h4, rfl⟩
  · unfold bOf at hu
    obtain ⟨s', h1, rfl⟩ := Option.map_eq_some_iff.1 hu
    obtain ⟨t, h2, h3⟩ := P.best x.Version (cnd s' x) ((ent _ _).2 ⟨u, s', hs.get_iff.1 h1, x, hxm, rfl, rfl⟩)
    exact ⟨(t.way_, t.size_), by unfold bOf; show Option.map _ (mget? (lvl l m B) x.Version) = _; rw [h2]; rfl, h3⟩
theorem wayOf_l1_eq (l : List Image) (m : Str) (fr to : Version) (hx : ImgsB l) (hok : ImgsOk l) : ∀ (j : Nat) (k : Nat) (B : TM), k + j = l.length + 1 → SM B → Net.Level (net l m) fr k (bOf B) → (∀ q, (net l m).Walk fr q to → k ≤ q.length) →
    (∃ p, (net l m).Best fr to p ∧ Q_WayOf_l1 l m to B k = some (p.map Image.Version, true)) ∨ ((∀ q, (net l m).Walk fr q to → l.length + 1 ≤ q.length) ∧ Q_WayOf_l1 l m to B k = some ([], false)) := by
  have hl := hx.1
  have wl : w64 ((l.length : Int) + 1) = (l.length : Int) + 1 := w64_in (by omega) (by omega)
  intro j
  induction j with
  | zero =>
    intro k B hk hs L hq
    right
    refine ⟨fun q h => by have := hq q h; omega, ?_⟩
    unfold Q_WayOf_l1
    rw [iter_eq]
    show (Q_WayOf_b1 l m to B k).bind _ = _
    unfold Q_WayOf_b1
    rw [wl, if_neg (by omega)]; rfl
  | succ j ih =>
    intro k B hk hs L hq
    unfold Q_WayOf_l1
    rw [iter_eq]
    show (∃ p, _ ∧ (Q_WayOf_b1 l m to B k).bind _ = _) ∨ (_ ∧ (Q_WayOf_b1 l m to B k).bind _ = _)
    have e : Q_WayOf_b1 l m to B k = match mget? B to with
        | some t => some (.inr (t.way_, true))
        | none => some (.inl (lvl l m B, (k : Int) + 1)) := by
      unfold Q_WayOf_b1
      rw [wl, if_pos (by omega)]
      unfold mget2
      simp only [Option.bind_some]
      cases hg : mget? B to with
      | some t => rfl
      | none =>
        simp only [Option.isSome_none, Bool.false_eq_true, if_false]
        exact way2_eq l m hx hok B (fun e he => by
          obtain ⟨p, h1, h2, h3, h4⟩ := L.sound e.1 (e.2.way_, e.2.size_) (by unfold bOf; rw [hs.get_iff.2 he]; rfl)
          have := wsz_bd hok.1 (walk_own h1)
          simp only at h3 h4
          rw [h3, h4]
          simp only [List.length_map]
          omega) k ⟨by omega, by omega⟩
    rw [e]
    cases hg : mget? B to with
    | some t =>
      left
      obtain ⟨p, h1, h2, h3, h4⟩ := L.sound to (t.way_, t.size_) (by unfold bOf; rw [hg]; rfl)
      refine ⟨p, ⟨h1, fun q hw => ?_⟩, ?_⟩
      · have h5 := hq q hw
        by_cases h6 : q.length = k
        · obtain ⟨t', h7, h8⟩ := L.best to q hw h6
          unfold bOf at h7
          rw [hg] at h7
          obtain rfl := Option.some.inj h7
          simp only at h3 h4 h8
          unfold Net.Le
          rw [← h3, ← h4]
          right
          exact ⟨by omega, h8⟩
        · left; omega
      · simp only at h3 ⊢
        rw [h3]; rfl
    | none =>
      obtain ⟨g1, g2⟩ := lvl_next l m hok fr k B hs L
      have := ih (k + 1) (lvl l m B) (by omega) g1 g2 (fun q hw => by
        have h5 := hq q hw
        by_cases h6 : q.length = k
        · obtain ⟨t', h7, h8⟩ := L.best to q hw h6
          unfold bOf at h7
          rw [hg] at h7; cases h7
        · omega)
      simp only [Option.bind_some, after_inl]
      unfold Q_WayOf_l1 at this
      exact_mod_cast this
theorem wayOf_eq (l : List Image) (m : Str) (fr to : Version) (hx : ImgsB l) (hok : ImgsOk l) :
    (∃ p, (net l m).Best fr to p ∧ Q_WayOf l m fr to = some (p.map Image.Version, true)) ∨ ((∀ q, (net l m).Walk fr q to → l.length + 1 ≤ q.length) ∧ Q_WayOf l m fr to = some ([], false)) := by
  unfold Q_WayOf
  have hg : ∀ v, mget? (mset ([] : TM) fr ⟨[], 0⟩) v = if fr = v then some ⟨[], 0⟩ else none := fun v => by rw [mget_mset]; rfl
  have := wayOf_l1_eq l m fr to hx hok (l.length + 1) 0 (mset ([] : TM) fr ⟨[], 0⟩) (by omega) (SM.nil.set _ _) (Net.Level.zero fr _ (fun v => by
    unfold bOf
    rw [hg]
    by_cases e : fr = v
    · rw [if_pos e, if_pos e.symm]; rfl
    · rw [if_neg e, if_neg (fun k => e k.symm)]; rfl)) (fun q _ => by omega)
  exact this
end Go.Beacon

/- Intervals of numbers: joined where they touch. No program in sight. -/
set_option linter.unusedVariables false
set_option linter.unusedSimpArgs false
set_option linter.unusedSectionVars false
namespace Go.Beacon
open Go Go.Eng

/-- An interval that comes: it is joined with the last one, or is a new one. -/
def mrgI (out : List (Int × Int)) (r : Int × Int) : List (Int × Int) :=
  match out.getLast? with
  | some a => if r.1 ≤ a.2 + 1 then out.dropLast ++ [(a.1, if a.2 < r.2 then r.2 else a.2)] else out ++ [r]
  | none => out ++ [r]
theorem mrgI_nil (r : Int × Int) : mrgI [] r = [r] := rfl
theorem mrgI_snoc (l : List (Int × Int)) (a r : Int × Int) : mrgI (l ++ [a]) r = if r.1 ≤ a.2 + 1 then l ++ [(a.1, if a.2 < r.2 then r.2 else a.2)] else l ++ [a] ++ [r] := by
  unfold mrgI
  simp
def covI (n : Int) (l : List (Int × Int)) : Prop := ∃ r ∈ l, r.1 ≤ n ∧ n ≤ r.2
structure GapI (l : List (Int × Int)) : Prop where
  ok : ∀ r ∈ l, r.1 ≤ r.2
  gap : l.Pairwise (fun a b => a.2 + 1 < b.1)
theorem covI_app {n : Int} {a b : List (Int × Int)} : covI n (a ++ b) ↔ covI n a ∨ covI n b := by
  unfold covI
  simp only [List.mem_append]
  constructor
  · rintro ⟨r, h | h, h2⟩
    · exact .inl ⟨r, h, h2⟩
    · exact .inr ⟨r, h, h2⟩
  · rintro (⟨r, h, h2⟩ | ⟨r, h, h2⟩)
    · exact ⟨r, .inl h, h2⟩
    · exact ⟨r, .inr h, h2⟩
theorem covI_one {n : Int} {a : Int × Int} : covI n [a] ↔ a.1 ≤ n ∧ n ≤ a.2 := by unfold covI; simp
theorem covI_cons {n : Int} {a : Int × Int} {l : List (Int × Int)} : covI n (a :: l) ↔ (a.1 ≤ n ∧ n ≤ a.2) ∨ covI n l := by
  rw [show a :: l = [a] ++ l from rfl, covI_app, covI_one]
theorem mrgI_one {out : List (Int × Int)} (h : GapI out) {r : Int × Int} (hr : r.1 ≤ r.2) (hlo : ∀ a ∈ out, a.1 ≤ r.1) :
    GapI (mrgI out r) ∧ (∀ n, covI n (mrgI out r) ↔ covI n out ∨ (r.1 ≤ n ∧ n ≤ r.2)) ∧ (∀ b, (∀ a ∈ out, a.1 ≤ b) → r.1 ≤ b → ∀ a ∈ mrgI out r, a.1 ≤ b) := by
  rcases List.eq_nil_or_concat out with rfl | ⟨l, a, rfl⟩
  · rw [mrgI_nil]
    refine ⟨⟨fun x hx => ?_, List.pairwise_singleton _ _⟩, fun n => ?_, fun b _ hb x hx => ?_⟩
    · rw [List.mem_singleton.1 hx]; exact hr
    · rw [covI_one]; unfold covI; simp
    · rw [List.mem_singleton.1 hx]; exact hb
  · rw [List.concat_eq_append] at *
    rw [mrgI_snoc]
    obtain ⟨h1, h2⟩ := h
    rw [List.pairwise_append] at h2
    have ha := h1 a (by simp)
    have hal := hlo a (by simp)
    by_cases c : r.1 ≤ a.2 + 1
    · rw [if_pos c]
      refine ⟨⟨fun x hx => ?_, ?_⟩, fun n => ?_, fun b hb hb2 x hx => ?_⟩
      · rcases List.mem_append.1 hx with hx | hx
        · exact h1 x (by simp [hx])
        · rw [List.mem_singleton.1 hx]
          simp only; split <;> omega
      · rw [List.pairwise_append]
        refine ⟨h2.1, List.pairwise_singleton _ _, fun x hx y hy => ?_⟩
        rw [List.mem_singleton.1 hy]
        exact h2.2.2 x hx a (by simp)
      · rw [covI_app, covI_app, covI_one, covI_one]
        simp only
        constructor
        · rintro (k | k)
          · exact .inl (.inl k)
          · split at k
            · by_cases k2 : n ≤ a.2
              · exact .inl (.inr ⟨k.1, k2⟩)
              · exact .inr ⟨by omega, by omega⟩
            · exact .inl (.inr k)
        · rintro ((k | k) | k)
          · exact .inl k
          · right; split <;> omega
          · right; split <;> omega
      · rcases List.mem_append.1 hx with hx | hx
        · exact hb x (by simp [hx])
        · rw [List.mem_singleton.1 hx]
          exact hb a (by simp)
    · rw [if_neg c]
      refine ⟨⟨fun x hx => ?_, ?_⟩, fun n => ?_, fun b hb hb2 x hx => ?_⟩
      · rcases List.mem_append.1 hx with hx | hx
        · exact h1 x hx
        · rw [List.mem_singleton.1 hx]; exact hr
      · rw [List.pairwise_append]
        refine ⟨List.pairwise_append.2 h2, List.pairwise_singleton _ _, fun x hx y hy => ?_⟩
        rw [List.mem_singleton.1 hy]
        rcases List.mem_append.1 hx with hx | hx
        · have := h2.2.2 x hx a (by simp)
          omega
        · rw [List.mem_singleton.1 hx]; omega
      · rw [covI_app, covI_one]
      · rcases List.mem_append.1 hx with hx | hx
        · exact hb x hx
        · rw [List.mem_singleton.1 hx]; exact hb2
theorem mrgI_all : ∀ (Z out : List (Int × Int)), (∀ r ∈ Z, r.1 ≤ r.2) → Z.Pairwise (fun a b => a.1 ≤ b.1) → GapI out → (∀ a ∈ out, ∀ r ∈ Z, a.1 ≤ r.1) →
    GapI (Z.foldl mrgI out) ∧ ∀ n, covI n (Z.foldl mrgI out) ↔ covI n out ∨ covI n Z
  | [], out, _, _, h, _ => ⟨h, fun n => ⟨.inl, fun k => k.elim id (fun k => by obtain ⟨_, k, _⟩ := k; exact (by cases k))⟩⟩
  | r :: Z, out, hz, hs, h, hlo => by
    have hs' := List.pairwise_cons.1 hs
    obtain ⟨h1, h2, h3⟩ := mrgI_one h (hz r List.mem_cons_self) (fun a ha => hlo a ha r List.mem_cons_self)
    obtain ⟨h4, h5⟩ := mrgI_all Z (mrgI out r) (fun x hx => hz x (List.mem_cons_of_mem _ hx)) hs'.2 h1 (fun a ha x hx => h3 x.1 (fun b hb => hlo b hb x (List.mem_cons_of_mem _ hx)) (hs'.1 x hx) a ha)
    rw [List.foldl_cons]
    refine ⟨h4, fun n => ?_⟩
    rw [h5, h2, covI_cons, or_assoc]
theorem gapI_cons {a : Int × Int} {l : List (Int × Int)} (h : GapI (a :: l)) : a.1 ≤ a.2 ∧ GapI l ∧ ∀ n, covI n l → a.2 + 1 < n := by
  have h2 := List.pairwise_cons.1 h.gap
  refine ⟨h.ok a List.mem_cons_self, ⟨fun x hx => h.ok x (List.mem_cons_of_mem _ hx), h2.2⟩, fun n => ?_⟩
  rintro ⟨r, hr, k⟩
  have := h2.1 r hr
  omega
/-- Two such lists that cover the same are the same. -/
theorem gapI_unique : ∀ (A B : List (Int × Int)), GapI A → GapI B → (∀ n, covI n A ↔ covI n B) → A = B
  | [], [], _, _, _ => rfl
  | [], b :: B, _, hB, h => by
    obtain ⟨h1, _, _⟩ := gapI_cons hB
    obtain ⟨r, hr, _⟩ := (h b.1).2 (covI_cons.2 (.inl ⟨Int.le_refl _, h1⟩))
    exact (by cases hr)
  | a :: A, [], hA, _, h => by
    obtain ⟨h1, _, _⟩ := gapI_cons hA
    obtain ⟨r, hr, _⟩ := (h a.1).1 (covI_cons.2 (.inl ⟨Int.le_refl _, h1⟩))
    exact (by cases hr)
  | a :: A, b :: B, hA, hB, h => by
    obtain ⟨a1, a2, a3⟩ := gapI_cons hA
    obtain ⟨b1, b2, b3⟩ := gapI_cons hB
    have e1 : a.1 = b.1 := by
      have k1 := covI_cons.1 ((h a.1).1 (covI_cons.2 (.inl ⟨Int.le_refl _, a1⟩)))
      have k2 := covI_cons.1 ((h b.1).2 (covI_cons.2 (.inl ⟨Int.le_refl _, b1⟩)))
      have k3 : b.1 ≤ a.1 := by
        rcases k1 with k1 | k1
        · exact k1.1
        · have := b3 _ k1; omega
      have k4 : a.1 ≤ b.1 := by
        rcases k2 with k2 | k2
        · exact k2.1
        · have := a3 _ k2; omega
      omega
    have e2 : a.2 = b.2 := by
      by_cases c1 : b.2 < a.2
      · have k := covI_cons.1 ((h (b.2 + 1)).1 (covI_cons.2 (.inl ⟨by omega, by omega⟩)))
        rcases k with k | k
        · omega
        · have := b3 _ k; omega
      · by_cases c2 : a.2 < b.2
        · have k := covI_cons.1 ((h (a.2 + 1)).2 (covI_cons.2 (.inl ⟨by omega, by omega⟩)))
          rcases k with k | k
          · omega
          · have := a3 _ k; omega
        · omega
    have e : a = b := Prod.ext e1 e2
    subst e
    rw [gapI_unique A B a2 b2 (fun n => ?_)]
    constructor
    · intro k
      have := a3 _ k
      rcases covI_cons.1 ((h n).1 (covI_cons.2 (.inr k))) with k2 | k2
      · omega
      · exact k2
    · intro k
      have := b3 _ k
      rcases covI_cons.1 ((h n).2 (covI_cons.2 (.inr k))) with k2 | k2
      · omega
      · exact k2
/-- Sorted intervals that cover the same are joined to the same. -/
theorem mrgI_same (Y Z : List (Int × Int)) (hy : ∀ r ∈ Y, r.1 ≤ r.2) (hz : ∀ r ∈ Z, r.1 ≤ r.2) (sy : Y.Pairwise (fun a b => a.1 ≤ b.1)) (sz : Z.Pairwise (fun a b => a.1 ≤ b.1)) (h : ∀ n, covI n Y ↔ covI n Z) : Y.foldl mrgI [] = Z.foldl mrgI [] := by
  obtain ⟨a1, a2⟩ := mrgI_all Y [] hy sy ⟨fun _ h => (by cases h), List.Pairwise.nil⟩ (fun _ h => (by cases h))
  obtain ⟨b1, b2⟩ := mrgI_all Z [] hz sz ⟨fun _ h => (by cases h), List.Pairwise.nil⟩ (fun _ h => (by cases h))
  refine gapI_unique _ _ a1 b1 (fun n => ?_)
  rw [a2, b2, h]
end Go.Beacon

/- Ranges of versions, joined where they touch. No program in sight. -/
set_option linter.unusedVariables false
set_option linter.unusedSimpArgs false
namespace Go.Beacon
open Go Go.Eng

def rgI (r : Range) : Int × Int := (vnum r.Low, vnum r.High)
def RgV (r : Range) : Prop := verB r.Low = true ∧ verB r.High = true
def RgOk (r : Range) : Prop := RgV r ∧ vcmp r.Low r.High ≤ 0
theorem RgOk.le {r : Range} (h : RgOk r) : (rgI r).1 ≤ (rgI r).2 := by
  obtain ⟨⟨h1, h2⟩, h3⟩ := h
  rw [vcmp_num h1 h2] at h3
  unfold cmpI at h3
  show vnum r.Low ≤ vnum r.High
  split at h3
  · omega
  · split at h3 <;> omega
def mrgR (out : List Range) (r : Range) : List Range :=
  match out.getLast? with
  | some a => if vnum r.Low ≤ vnum a.High + 1 then out.dropLast ++ [⟨a.Low, if vnum a.High < vnum r.High then r.High else a.High⟩] else out ++ [r]
  | none => out ++ [r]
theorem mrgR_nil (r : Range) : mrgR [] r = [r] := rfl
theorem mrgR_snoc (l : List Range) (a r : Range) : mrgR (l ++ [a]) r = if vnum r.Low ≤ vnum a.High + 1 then l ++ [⟨a.Low, if vnum a.High < vnum r.High then r.High else a.High⟩] else l ++ [a] ++ [r] := by
  unfold mrgR
  simp
theorem mrgR_map (out : List Range) (r : Range) : (mrgR out r).map rgI = mrgI (out.map rgI) (rgI r) := by
  rcases List.eq_nil_or_concat out with rfl | ⟨l, a, rfl⟩
  · rfl
  · rw [List.concat_eq_append, mrgR_snoc, List.map_append, List.map_singleton, mrgI_snoc]
    show _ = if vnum r.Low ≤ vnum a.High + 1 then l.map rgI ++ [(vnum a.Low, if vnum a.High < vnum r.High then vnum r.High else vnum a.High)] else l.map rgI ++ [rgI a] ++ [rgI r]
    split
    · rw [List.map_append, List.map_singleton]
      congr 1
      unfold rgI
      congr 2
      split <;> rfl
    · simp
theorem mrgR_ver {out : List Range} {r : Range} (h : ∀ a ∈ out, RgV a) (hr : RgV r) : ∀ a ∈ mrgR out r, RgV a := by
  rcases List.eq_nil_or_concat out with rfl | ⟨l, a, rfl⟩
  · rw [mrgR_nil]; intro x hx; rw [List.mem_singleton.1 hx]; exact hr
  · rw [List.concat_eq_append] at *
    rw [mrgR_snoc]
    have ha := h a (by simp)
    split
    · intro x hx
      rcases List.mem_append.1 hx with hx | hx
      · exact h x (by simp [hx])
      · rw [List.mem_singleton.1 hx]
        refine ⟨ha.1, ?_⟩
        simp only
        split
        · exact hr.2
        · exact ha.2
    · intro x hx
      rcases List.mem_append.1 hx with hx | hx
      · exact h x hx
      · rw [List.mem_singleton.1 hx]; exact hr
theorem mrgR_len (out : List Range) (r : Range) : (mrgR out r).length ≤ out.length + 1 := by
  have h := congrArg List.length (mrgR_map out r)
  rcases List.eq_nil_or_concat out with rfl | ⟨l, a, rfl⟩
  · exact Nat.le_refl _
  · rw [List.concat_eq_append, mrgR_snoc]
    split <;> simp
theorem foldR_map : ∀ (Z out : List Range), (Z.foldl mrgR out).map rgI = (Z.map rgI).foldl mrgI (out.map rgI)
  | [], out => rfl
  | r :: Z, out => by
    rw [List.foldl_cons, foldR_map Z, mrgR_map]; rfl
theorem foldR_ver : ∀ (Z out : List Range), (∀ r ∈ Z, RgV r) → (∀ r ∈ out, RgV r) → ∀ a ∈ Z.foldl mrgR out, RgV a
  | [], out, _, h => h
  | r :: Z, out, hz, h => by
    rw [List.foldl_cons]
    exact foldR_ver Z _ (fun x hx => hz x (List.mem_cons_of_mem _ hx)) (mrgR_ver h (hz r List.mem_cons_self))
theorem rgI_inj : ∀ (A B : List Range), (∀ a ∈ A, RgV a) → (∀ b ∈ B, RgV b) → A.map rgI = B.map rgI → A = B
  | [], [], _, _, _ => rfl
  | [], _ :: _, _, _, h => by simp at h
  | _ :: _, [], _, _, h => by simp at h
  | a :: A, b :: B, ha, hb, h => by
    rw [List.map_cons, List.map_cons, List.cons.injEq] at h
    have h1 := ha a List.mem_cons_self
    have h2 := hb b List.mem_cons_self
    have e1 := vnum_inj h1.1 h2.1 (congrArg Prod.fst h.1)
    have e2 := vnum_inj h1.2 h2.2 (congrArg Prod.snd h.1)
    rw [rgI_inj A B (fun x hx => ha x (List.mem_cons_of_mem _ hx)) (fun x hx => hb x (List.mem_cons_of_mem _ hx)) h.2]
    obtain ⟨l1, l2⟩ := a
    obtain ⟨m1, m2⟩ := b
    simp only at e1 e2
    rw [e1, e2]
/-- Two sorted lists that hold the same ranges join to the same list. -/
theorem mrgR_same (Y Z : List Range) (hy : ∀ r ∈ Y, RgOk r) (hz : ∀ r ∈ Z, RgOk r) (sy : Srt (fun a b : Range => vcmp a.Low b.Low) Y) (sz : Srt (fun a b : Range => vcmp a.Low b.Low) Z) (h : ∀ r, r ∈ Y ↔ r ∈ Z) : Y.foldl mrgR [] = Z.foldl mrgR [] := by
  have srt : ∀ X : List Range, (∀ r ∈ X, RgOk r) → Srt (fun a b : Range => vcmp a.Low b.Low) X → (X.map rgI).Pairwise (fun a b => a.1 ≤ b.1) := by
    intro X hx s
    rw [List.pairwise_map]
    refine List.Pairwise.imp_of_mem (fun {a b} ha hb hab => ?_) s
    have h1 := (hx a ha).1
    have h2 := (hx b hb).1
    have h3 : ¬ vcmp b.Low a.Low < 0 := hab
    rw [vcmp_num h2.1 h1.1] at h3
    unfold cmpI at h3
    show vnum a.Low ≤ vnum b.Low
    split at h3
    · omega
    · omega
  have ok : ∀ X : List Range, (∀ r ∈ X, RgOk r) → ∀ r ∈ X.map rgI, r.1 ≤ r.2 := by
    intro X hx r hr
    obtain ⟨q, h1, rfl⟩ := List.mem_map.1 hr
    exact (hx q h1).le
  refine rgI_inj _ _ (foldR_ver Y [] (fun r hr => (hy r hr).1) (fun r hr => (by cases hr))) (foldR_ver Z [] (fun r hr => (hz r hr).1) (fun r hr => (by cases hr))) ?_
  rw [foldR_map, foldR_map]
  refine mrgI_same _ _ (ok Y hy) (ok Z hz) (srt Y hy sy) (srt Z hz sz) (fun n => ?_)
  have go : ∀ A B : List Range, (∀ r, r ∈ A → r ∈ B) → covI n (A.map rgI) → covI n (B.map rgI) := by
    rintro A B hab ⟨r, h1, h2⟩
    obtain ⟨q, h3, rfl⟩ := List.mem_map.1 h1
    exact ⟨rgI q, List.mem_map.2 ⟨q, hab q h3, rfl⟩, h2⟩
  exact ⟨go Y Z (fun r hr => (h r).1 hr), go Z Y (fun r hr => (h r).2 hr)⟩
/-- The version of a number. -/
theorem num_div {v : Version} (h : verB v = true) : (vnum v).tdiv 10000 = v.Major * 10000 + v.Minor ∧ ((vnum v).tdiv 10000).tdiv 10000 = v.Major ∧ ((vnum v).tdiv 10000).tmod 10000 = v.Minor ∧ (vnum v).tmod 10000 = v.Patch := by
  have hb := vnum_bd h
  rw [verB_iff] at h
  have e1 : (vnum v).tdiv 10000 = v.Major * 10000 + v.Minor := by
    rw [Int.tdiv_eq_ediv_of_nonneg hb.1]
    unfold vnum; omega
  refine ⟨e1, ?_, ?_, ?_⟩
  · rw [e1, Int.tdiv_eq_ediv_of_nonneg (by omega)]; omega
  · rw [e1, Int.tmod_eq_emod_of_nonneg (by omega)]; omega
  · rw [Int.tmod_eq_emod_of_nonneg hb.1]; unfold vnum; omega
/-- What leads to a version. -/
def RSet (l : List Image) (m : Str) (to : Version) (r : Range) : Prop := r = ⟨to, to⟩ ∨ ∃ x ∈ ownL l m, (∃ p, (net l m).Walk x.Version p to) ∧ r ∈ x.From
theorem RSet.ok {l : List Image} {m : Str} {to : Version} (hok : ImgsOk l) (ht : verB to = true) {r : Range} (h : RSet l m to r) : RgOk r := by
  rcases h with rfl | ⟨x, h1, _, h2⟩
  · exact ⟨⟨ht, ht⟩, by rw [vcmp_3.zero]; exact Int.le_refl _⟩
  · exact (hok.1 x (own_mem h1)).rng r h2
/-- Sorted and joined: both lists give the same. -/
def IsR (l : List Image) (m : Str) (to : Version) (xs : List Range) : Prop := ∀ r, r ∈ xs ↔ RSet l m to r
end Go.Beacon

/- Reach: what leads to a version, both ways of counting it. No program in sight. -/
set_option linter.unusedVariables false
set_option linter.unusedSimpArgs false
namespace Go.Beacon
open Go Go.Eng

theorem number_eq {v : Version} (h : verB v = true) : campaign_number v = vnum v := by
  have hb := verB_iff.1 h
  unfold campaign_number vnum
  rw [w64_in (x := v.Major * 10000) (by omega) (by omega), w64_in (x := v.Major * 10000 + v.Minor) (by omega) (by omega), w64_in (x := (v.Major * 10000 + v.Minor) * 10000) (by omega) (by omega), w64_in (by omega) (by omega)]
theorem rank_eq {v : Version} (h : verB v = true) : Q_rank v = vnum v := number_eq h
theorem numbered_eq {v : Version} (h : verB v = true) : campaign_numbered (vnum v) = v := by
  have hb := verB_iff.1 h
  obtain ⟨e1, e2, e3, e4⟩ := num_div h
  unfold campaign_numbered
  have w1 : w64 ((vnum v).tdiv 10000) = (vnum v).tdiv 10000 := w64_in (by rw [e1]; omega) (by rw [e1]; omega)
  rw [w1, e2, e3, e4, w64_in (by omega) (by omega)]
theorem max_num {a b : Version} (ha : verB a = true) (hb : verB b = true) : campaign_numbered (max (campaign_number a) (campaign_number b)) = if vnum a < vnum b then b else a := by
  rw [number_eq ha, number_eq hb]
  split
  · rw [Int.max_eq_right (by omega), numbered_eq hb]
  · rw [Int.max_eq_left (by omega), numbered_eq ha]
theorem idx_last {α : Type} (l : List α) (a : α) {i : Int} (hi : i = l.length) : idx (l ++ [a]) i = some a := idx_app l a [] hi
theorem set_last {α : Type} (l : List α) (a b : α) : (l ++ [a]).set l.length b = l ++ [b] := by
  rw [List.set_append_right _ _ (Nat.le_refl _)]; simp
/-- A round of the joining. -/
theorem merge_b2 (Z out : List Range) (i : Int) (r : Range) (h0 : 0 ≤ i) (h1 : i < Z.length) (hi : idx Z i = some r) (hr : RgV r) (ho : ∀ a ∈ out, RgV a) (hl : (out.length : Int) ≤ 100000) (hz : (Z.length : Int) ≤ 100000) :
    campaign_Reach_b2 Z out i = some (.inl (mrgR out r, i + 1)) ∧ Q_ReachOf_b4 Z out i = some (.inl (mrgR out r, i + 1)) := by
  have w1 : w64 (i + 1) = i + 1 := w64_in (by omega) (by omega)
  unfold campaign_Reach_b2 Q_ReachOf_b4
  rw [if_pos h1, if_pos h1, hi]
  simp only [Option.bind_some]
  rcases List.eq_nil_or_concat out with rfl | ⟨l, a, rfl⟩
  · have w2 : w64 ((([] : List Range).length : Int) - 1) = -1 := w64_in (by simp) (by simp)
    rw [w2, if_neg (by omega), if_neg (by omega)]
    unfold campaign_Reach_j3 Q_ReachOf_j6
    rw [if_neg (by simp), if_neg (by simp), app_le (by simp)]
    unfold campaign_Reach_j4 Q_ReachOf_j5
    rw [mrgR_nil, w1]
    exact ⟨rfl, rfl⟩
  · rw [List.concat_eq_append] at *
    have ha := ho a (by simp)
    have hlen : ((l ++ [a]).length : Int) - 1 = l.length := by simp
    have w2 : w64 (((l ++ [a]).length : Int) - 1) = l.length := by rw [hlen]; exact w64_in (by omega) (by simp at hl; omega)
    have hn := vnum_bd ha.2
    rw [w2, if_pos (by omega), if_pos (by omega), idx_last l a rfl]
    simp only [Option.bind_some]
    have w3 : w64 (campaign_number a.High + 1) = vnum a.High + 1 := by rw [number_eq ha.2]; exact w64_in (by omega) (by omega)
    have w4 : w64 (Q_rank a.High + 1) = vnum a.High + 1 := w3
    rw [w3, w4, number_eq hr.1, rank_eq hr.1, mrgR_snoc]
    unfold campaign_Reach_j3 Q_ReachOf_j6
    rw [w2]
    by_cases c : vnum r.Low ≤ vnum a.High + 1
    · have cd : decide (vnum r.Low ≤ vnum a.High + 1) = true := by simpa using c
      rw [if_pos cd, if_pos cd, if_pos c, idx_last l a rfl]
      simp only [Option.bind_some]
      have e := max_num ha.2 hr.2
      have e' : Q_ranked (max (Q_rank a.High) (Q_rank r.High)) = if vnum a.High < vnum r.High then r.High else a.High := e
      rw [e, e', Int.toNat_natCast, set_last]
      unfold campaign_Reach_j4 Q_ReachOf_j5
      rw [w1]; exact ⟨rfl, rfl⟩
    · have cd : ¬ decide (vnum r.Low ≤ vnum a.High + 1) = true := by simpa using c
      rw [if_neg cd, if_neg cd, if_neg c, app_le (by simp at hl ⊢; omega)]
      unfold campaign_Reach_j4 Q_ReachOf_j5
      simp only [Option.bind_some]
      rw [w1]; exact ⟨rfl, rfl⟩
theorem merge_l2 (Z : List Range) (hz : Z.length ≤ 1000) (hv : ∀ r ∈ Z, RgV r) : campaign_Reach_l2 Z [] 0 = some (Z.foldl mrgR [], 0) := by
  unfold campaign_Reach_l2
  exact iter_foldl Z (fun (s : List Range) (i : Int) => (s, i)) (fun x : (List Range) × Int => campaign_Reach_b2 Z x.1 x.2) mrgR (fun i s => (∀ a ∈ s, RgV a) ∧ (s.length : Int) ≤ i) (fun s => some (s, 0))
    (fun s i r h0 h1 hi hs => by
      have hr := hv r (idx_mem hi)
      refine ⟨(merge_b2 Z s i r h0 h1 hi hr hs.1 (by omega) (by omega)).1, mrgR_ver hs.1 hr, ?_⟩
      have := mrgR_len s r
      have := hs.2
      omega)
    (fun s _ => by
      show campaign_Reach_b2 Z s Z.length = _
      unfold campaign_Reach_b2
      rw [if_neg (by omega)]) [] ⟨fun a h => (by cases h), by simp⟩
theorem merge_l4 (Z : List Range) (hz : Z.length ≤ 1000) (hv : ∀ r ∈ Z, RgV r) : Q_ReachOf_l4 Z [] 0 = some (Z.foldl mrgR []) := by
  unfold Q_ReachOf_l4
  exact iter_foldl Z (fun (s : List Range) (i : Int) => (s, i)) (fun x : (List Range) × Int => Q_ReachOf_b4 Z x.1 x.2) mrgR (fun i s => (∀ a ∈ s, RgV a) ∧ (s.length : Int) ≤ i) (fun s => some s)
    (fun s i r h0 h1 hi hs => by
      have hr := hv r (idx_mem hi)
      refine ⟨(merge_b2 Z s i r h0 h1 hi hr hs.1 (by omega) (by omega)).2, mrgR_ver hs.1 hr, ?_⟩
      have := mrgR_len s r
      have := hs.2
      omega)
    (fun s _ => by
      show Q_ReachOf_b4 Z s Z.length = _
      unfold Q_ReachOf_b4
      rw [if_neg (by omega)]) [] ⟨fun a h => (by cases h), by simp⟩
/-- The ends: sorted, then joined. -/
theorem ends_eq (X : List Range) (hx : X.length ≤ 1000) (hv : ∀ r ∈ X, RgOk r) :
    ∃ Z : List Range, (∀ r, r ∈ Z ↔ r ∈ X) ∧ Z.length = X.length ∧ Srt (fun a b : Range => vcmp a.Low b.Low) Z ∧ campaign_Reach_k5 X = some (Z.foldl mrgR [], 0) := by
  have hO : Ord3 (fun a b : Range => vcmp a.Low b.Low) X := Cmp3.ord (vcmp_3.on Range.Low) X
  obtain ⟨Z, z1, z2, z3⟩ := sortO_eq (fun y0 y1 => campaign_Reach_1x y0 y1) (fun a b : Range => vcmp a.Low b.Low) X (by omega) (fun a _ b _ => by unfold campaign_Reach_1x; rw [vCompare_eq]; rfl) hO
  refine ⟨Z, fun r => z2.mem_iff, z2.length_eq, z3, ?_⟩
  unfold campaign_Reach_k5 slices_SortFunc_Range_Range
  rw [z1]
  unfold lenOk
  simp only [Option.bind_some]
  rw [if_pos z2.length_eq]
  simp only [Option.bind_some]
  exact merge_l2 Z (by rw [z2.length_eq]; exact hx) (fun r hr => (hv r (z2.mem_iff.1 hr)).1)
theorem endsQ_eq (X : List Range) (hx : X.length ≤ 1000) (hv : ∀ r ∈ X, RgOk r) :
    ∃ Z : List Range, (∀ r, r ∈ Z ↔ r ∈ X) ∧ Z.length = X.length ∧ Srt (fun a b : Range => vcmp a.Low b.Low) Z ∧ Q_ReachOf_k7 X = some (Z.foldl mrgR []) := by
  have hO : Ord3 (fun a b : Range => vcmp a.Low b.Low) X := Cmp3.ord (vcmp_3.on Range.Low) X
  obtain ⟨Z, z1, z2, z3⟩ := sortO_eq (fun y0 y1 => Q_ReachOf_1x y0 y1) (fun a b : Range => vcmp a.Low b.Low) X (by omega) (fun a _ b _ => by unfold Q_ReachOf_1x; rw [vOrder_eq]; rfl) hO
  refine ⟨Z, fun r => z2.mem_iff, z2.length_eq, z3, ?_⟩
  unfold Q_ReachOf_k7 slices_SortFunc_Range_Range
  rw [z1]
  unfold lenOk
  simp only [Option.bind_some]
  rw [if_pos z2.length_eq]
  simp only [Option.bind_some]
  exact merge_l4 Z (by rw [z2.length_eq]; exact hx) (fun r hr => (hv r (z2.mem_iff.1 hr)).1)
/-- Both lists hold the same ranges: both answers are the same. -/
theorem ends_same (l : List Image) (m : Str) (to : Version) (hok : ImgsOk l) (ht : verB to = true) (X Y : List Range) (hX : IsR l m to X) (hY : IsR l m to Y) (lx : X.length ≤ 1000) (ly : Y.length ≤ 1000) :
    ∃ W : List Range, campaign_Reach_k5 X = some (W, 0) ∧ Q_ReachOf_k7 Y = some W ∧ W.length ≤ 1000 := by
  obtain ⟨Z, a1, a2, a3, a4⟩ := ends_eq X lx (fun r hr => RSet.ok hok ht ((hX r).1 hr))
  obtain ⟨V, b1, b2, b3, b4⟩ := endsQ_eq Y ly (fun r hr => RSet.ok hok ht ((hY r).1 hr))
  have e : Z.foldl mrgR [] = V.foldl mrgR [] := mrgR_same Z V (fun r hr => RSet.ok hok ht ((hX r).1 ((a1 r).1 hr))) (fun r hr => RSet.ok hok ht ((hY r).1 ((b1 r).1 hr))) a3 b3 (fun r => by rw [a1, b1, hX, hY])
  have hlen : ∀ (Z out : List Range), (Z.foldl mrgR out).length ≤ Z.length + out.length := by
    intro Z
    induction Z with
    | nil => intro out; simp
    | cons r Z ih =>
      intro out
      rw [List.foldl_cons]
      have := ih (mrgR out r)
      have := mrgR_len out r
      simp only [List.length_cons]; omega
  refine ⟨Z.foldl mrgR [], a4, by rw [b4, e], ?_⟩
  have := hlen Z []
  simp at this
  omega

/-! the program's list -/
def rstp (M : CM) (m : Str) (s : List Range) (x : Image) : List Range := if (mget? M x.Version).isSome = true ∧ hasM m x = true then s ++ x.From else s
theorem rstp_mem (M : CM) (m : Str) : ∀ (l : List Image) (s : List Range) (r : Range), r ∈ l.foldl (rstp M m) s ↔ r ∈ s ∨ ∃ x ∈ l, ((mget? M x.Version).isSome = true ∧ hasM m x = true) ∧ r ∈ x.From
  | [], s, r => by simp
  | x :: l, s, r => by
    rw [List.foldl_cons, rstp_mem M m l]
    unfold rstp
    constructor
    · rintro (h | ⟨y, h1, h2⟩)
      · split at h
        · rcases List.mem_append.1 h with h | h
          · exact .inl h
          · exact .inr ⟨x, List.mem_cons_self, by assumption, h⟩
        · exact .inl h
      · exact .inr ⟨y, List.mem_cons_of_mem _ h1, h2⟩
    · rintro (h | ⟨y, h1, h2, h3⟩)
      · left; split
        · exact List.mem_append_left _ h
        · exact h
      · rcases List.mem_cons.1 h1 with rfl | h1
        · left; rw [if_pos h2]; exact List.mem_append_right _ h3
        · exact .inr ⟨y, h1, h2, h3⟩
theorem reach_l1_eq (l : List Image) (m : Str) (to : Version) (hx : ImgsB l) (hok : ImgsOk l) (M : CM) :
    campaign_Reach_l1 l m M [⟨to, to⟩] 0 = campaign_Reach_k5 (l.foldl (rstp M m) [⟨to, to⟩]) ∧ (l.foldl (rstp M m) [⟨to, to⟩]).length ≤ 1000 := by
  have hl := hx.1
  have hlen : ∀ (k : List Image) (s : List Range), (∀ x ∈ k, ImgB x) → (k.foldl (rstp M m) s).length ≤ s.length + 10 * k.length := by
    intro k
    induction k with
    | nil => intro s _; simp
    | cons x k ih =>
      intro s hk
      rw [List.foldl_cons]
      have h1 := ih (rstp M m s x) (fun y hy => hk y (List.mem_cons_of_mem _ hy))
      have h2 := (hk x List.mem_cons_self).2
      have h3 : (rstp M m s x).length ≤ s.length + 10 := by
        unfold rstp; split
        · rw [List.length_append]; omega
        · omega
      simp only [List.length_cons]; omega
  refine ⟨?_, ?_⟩
  · unfold campaign_Reach_l1
    refine iter_foldl l (fun (s : List Range) (i : Int) => (s, i)) (fun x : (List Range) × Int => campaign_Reach_b1 l m M x.1 x.2) (rstp M m) (fun i s => (s.length : Int) ≤ 1 + 10 * i) (fun s => campaign_Reach_k5 s)
      (fun s i x h0 h1 hi hs => ?_) (fun s _ => ?_) _ (by simp)
    · have hb := hx.2 x (idx_mem hi)
      have hb2 := hb.2
      have w1 : w64 (i + 1) = i + 1 := w64_in (by omega) (by omega)
      refine ⟨?_, ?_⟩
      · show campaign_Reach_b1 l m M s i = _
        unfold campaign_Reach_b1
        rw [if_pos h1, hi]
        simp only [Option.bind_some]
        unfold mget2 rstp
        simp only [Option.bind_some]
        unfold campaign_Reach_j1 campaign_Reach_j2
        cases hg : (mget? M x.Version).isSome with
        | false =>
          rw [if_neg (by simp), if_neg (by simp), if_neg (by simp), w1]
        | true =>
          rw [if_pos rfl, hasM_eq hb]
          simp only [Option.bind_some]
          by_cases c : hasM m x = true
          · rw [if_pos c, if_pos (by simp [c]), app_le (by omega), w1]; rfl
          · rw [if_neg c, if_neg (fun k => c k.2), w1]
      · show ((rstp M m s x).length : Int) ≤ _
        unfold rstp
        split
        · rw [List.length_append]; omega
        · omega
    · show campaign_Reach_b1 l m M s l.length = _
      unfold campaign_Reach_b1
      rw [if_neg (by omega)]
  · have := hlen l [⟨to, to⟩] hx.2
    simp only [List.length_singleton] at this
    omega
theorem reach_isR (l : List Image) (m : Str) (to : Version) (hok : ImgsOk l) (M : CM) (hM : CInv l m to M) (C : (net l m).Costs (ownL l m) to (cOf M)) : IsR l m to (l.foldl (rstp M m) [⟨to, to⟩]) := by
  intro r
  rw [rstp_mem, List.mem_singleton]
  unfold RSet
  refine or_congr Iff.rfl ⟨?_, ?_⟩
  · rintro ⟨x, h1, ⟨h2, h3⟩, h4⟩
    obtain ⟨c, hc⟩ := Option.isSome_iff_exists.1 h2
    obtain ⟨p, hp, _⟩ := hM.sound x.Version c hc
    exact ⟨x, List.mem_filter.2 ⟨h1, h3⟩, ⟨p, hp⟩, h4⟩
  · rintro ⟨x, h1, ⟨p, hp⟩, h4⟩
    obtain ⟨k, hk, _⟩ := C.low (net_good hok) p x.Version (.inr ⟨x, h1, rfl⟩) hp
    unfold cOf at hk
    refine ⟨x, own_mem h1, ⟨?_, (List.mem_filter.1 h1).2⟩, h4⟩
    cases hg : mget? M x.Version with
    | none => rw [hg] at hk; cases hk
    | some c => rfl

/-! the reference's list -/
theorem ContV_eq (L : List Version) (v : Version) (hl : L.length ≤ 10000000) : slices_Contains_Version_Version L v = some (decide (v ∈ L)) := by
  unfold slices_Contains_Version_Version slices_Index_Version_Version
  have key : ∀ (k : Nat) (n : Int), 0 ≤ n → n + k = L.length → ∃ j, slices_Index_Version_Version_l1 L v n = some j ∧ (0 ≤ j ↔ v ∈ L.drop n.toNat) := by
    intro k
    induction k with
    | zero =>
      intro n h0 hn
      refine ⟨-1, ?_, ?_⟩
      · unfold slices_Index_Version_Version_l1
        rw [iter_eq, slices_Index_Version_Version_b1, if_neg (by omega), map_inr_after]
      · rw [List.drop_of_length_le (by omega)]; simp
    | succ k ih =>
      intro n h0 hn
      obtain ⟨s, hs, _, hd⟩ := idx_lt L h0 (by omega)
      unfold slices_Index_Version_Version_l1
      rw [iter_eq, slices_Index_Version_Version_b1, if_pos (by omega), hs]
      simp only [Option.bind_some]
      by_cases e : v = s
      · rw [if_pos e, map_inr_after]
        exact ⟨n, rfl, by rw [hd, ← e]; simp; omega⟩
      · rw [if_neg e, w64_in (by omega) (by omega)]
        simp only [Option.bind_some, after_inl]
        obtain ⟨j, h1, h2⟩ := ih (n + 1) (by omega) (by omega)
        exact ⟨j, h1, by rw [h2, hd]; simp [e]⟩
  obtain ⟨j, h1, h2⟩ := key L.length 0 (by omega) (by omega)
  rw [h1]
  simp only [Option.bind_some, Option.some.injEq]
  rw [decide_eq_decide, h2]; simp
def gst (x : Image) (s : List Version × Bool) (y : Image) : List Version × Bool := if fitX y.Version x = true ∧ ¬ y.Version ∈ s.1 then (s.1 ++ [y.Version], true) else s
/-- What a walk through the images for one image does. -/
structure GS (l : List Image) (x : Image) (s r : List Version × Bool) : Prop where
  sub : ∀ v ∈ s.1, v ∈ r.1
  new : ∀ v ∈ r.1, v ∈ s.1 ∨ ∃ y ∈ l, y.Version = v ∧ fitX v x = true
  all : ∀ y ∈ l, fitX y.Version x = true → y.Version ∈ r.1
  nd : s.1.Nodup → r.1.Nodup
  alt : r = s ∨ (r.2 = true ∧ s.1.length < r.1.length)
theorem gst_spec (x : Image) : ∀ (l : List Image) (s : List Version × Bool), GS l x s (l.foldl (gst x) s)
  | [], s => ⟨fun v h => h, fun v h => .inl h, fun y h => (by cases h), fun h => h, .inl rfl⟩
  | y :: l, s => by
    rw [List.foldl_cons]
    have g := gst_spec x l (gst x s y)
    have step : (gst x s y = s ∧ (fitX y.Version x = true → y.Version ∈ s.1)) ∨ (gst x s y = (s.1 ++ [y.Version], true) ∧ fitX y.Version x = true ∧ ¬ y.Version ∈ s.1) := by
      unfold gst
      by_cases c : fitX y.Version x = true ∧ ¬ y.Version ∈ s.1
      · rw [if_pos c]; exact .inr ⟨rfl, c⟩
      · rw [if_neg c]; exact .inl ⟨rfl, fun h => Classical.byContradiction fun k => c ⟨h, k⟩⟩
    rcases step with ⟨e, h⟩ | ⟨e, h, hn⟩
    · rw [e] at g ⊢
      refine ⟨g.sub, fun v hv => ?_, fun z hz hf => ?_, g.nd, g.alt⟩
      · rcases g.new v hv with k | ⟨z, k1, k2⟩
        · exact .inl k
        · exact .inr ⟨z, List.mem_cons_of_mem _ k1, k2⟩
      · rcases List.mem_cons.1 hz with rfl | hz
        · exact g.sub _ (h hf)
        · exact g.all z hz hf
    · rw [e] at g ⊢
      refine ⟨fun v hv => g.sub v (List.mem_append_left _ hv), fun v hv => ?_, fun z hz hf => ?_, fun hd => g.nd ?_, ?_⟩
      · rcases g.new v hv with k | ⟨z, k1, k2⟩
        · rcases List.mem_append.1 k with k | k
          · exact .inl k
          · rw [List.mem_singleton] at k
            exact .inr ⟨y, List.mem_cons_self, k.symm, by rw [k]; exact h⟩
        · exact .inr ⟨z, List.mem_cons_of_mem _ k1, k2⟩
      · rcases List.mem_cons.1 hz with rfl | hz
        · exact g.sub _ (by simp)
        · exact g.all z hz hf
      · rw [List.nodup_append]
        refine ⟨hd, by simp, fun a ha b hb => ?_⟩
        rw [List.mem_singleton.1 hb]
        exact fun k => hn (k ▸ ha)
      · right
        have : s.1.length < (s.1 ++ [y.Version]).length := by simp
        rcases g.alt with k | ⟨k1, k2⟩
        · rw [k]; exact ⟨rfl, this⟩
        · exact ⟨k1, by simp only at k2; omega⟩
/-- The state of the reference's rounds: versions, ranges. -/
structure GInv (l : List Image) (m : Str) (to : Version) (got : List Version) (set : List Range) : Prop where
  to_ : to ∈ got
  nd : got.Nodup
  sub : ∀ v ∈ got, v ∈ to :: l.map Image.Version
  sound : ∀ v ∈ got, ∃ p, (net l m).Walk v p to
  rto : (⟨to, to⟩ : Range) ∈ set
  rs : ∀ r ∈ set, RSet l m to r
theorem GInv.len {l : List Image} {m : Str} {to : Version} {got : List Version} {set : List Range} (h : GInv l m to got set) (hl : l.length ≤ 8) : got.length ≤ 9 := by
  have := nodup_len h.nd h.sub
  simp only [List.length_cons, List.length_map] at this
  omega
theorem inner3 (l : List Image) (hx : ImgsB l) (n25 : Int) (x : Image) (hb : ImgB x) (l36 : List Range) (got : List Version) (ag : Bool) (hg : got.length ≤ 9) (h25 : 0 ≤ n25 ∧ n25 ≤ 100) :
    Q_ReachOf_l3 l n25 x l36 got ag 0 = some (.inl ((l.foldl (gst x) (got, ag)).1, l36, (l.foldl (gst x) (got, ag)).2, n25 + 1)) := by
  have hl := hx.1
  unfold Q_ReachOf_l3
  have h := iter_foldl l (fun (s : List Version × Bool) (i : Int) => (s.1, s.2, i)) (fun x_1 : (List Version) × Bool × Int => Q_ReachOf_b3 l n25 x l36 x_1.1 x_1.2.1 x_1.2.2) (gst x) (fun i s => (s.1.length : Int) ≤ 9 + i) (fun s => Q_ReachOf_j1 n25 s.1 l36 s.2)
    (fun s i y h0 h1 hi hs => by
      have w1 : w64 (i + 1) = i + 1 := w64_in (by omega) (by omega)
      refine ⟨?_, ?_⟩
      · show Q_ReachOf_b3 l n25 x l36 s.1 s.2 i = _
        unfold Q_ReachOf_b3
        rw [if_pos h1, hi]
        simp only [Option.bind_some]
        rw [fitX_eq hb]
        simp only [Option.bind_some]
        unfold Q_ReachOf_j3 Q_ReachOf_j4 gst
        by_cases c : fitX y.Version x = true
        · rw [if_pos c, ContV_eq _ _ (by omega)]
          simp only [Option.bind_some]
          by_cases d : y.Version ∈ s.1
          · rw [if_neg (by simp [d]), if_neg (fun k => k.2 d), w1]
          · rw [if_pos (by simp [d]), if_pos ⟨c, d⟩, app_le (by simp; omega), w1]; rfl
        · rw [if_neg c, if_neg (by simp), if_neg (fun k => c k.1), w1]
      · show ((gst x s y).1.length : Int) ≤ _
        unfold gst
        split
        · simp; omega
        · omega)
    (fun s _ => by
      show Q_ReachOf_b3 l n25 x l36 s.1 s.2 l.length = _
      unfold Q_ReachOf_b3
      rw [if_neg (by omega)]) (got, ag) (by show (got.length : Int) ≤ _; omega)
  simp only at h
  rw [h]
  unfold Q_ReachOf_j1
  rw [w64_in (by omega) (by omega)]
/-- A round, up to a place. -/
structure RInv (l : List Image) (m : Str) (to : Version) (g0 : List Version) (s0 : Nat) (i : Int) (q : List Version × List Range × Bool) : Prop where
  inv : GInv l m to q.1 q.2.1
  len : (q.2.1.length : Int) ≤ s0 + 10 * i
  yes : q.2.2 = true → g0.length < q.1.length
  no : q.2.2 = false → q.1 = g0 ∧ ∀ x ∈ l.take i.toNat, hasM m x = true → x.Version ∈ g0 → (∀ r ∈ x.From, r ∈ q.2.1) ∧ ∀ y ∈ l, fitX y.Version x = true → y.Version ∈ g0
theorem round2 (l : List Image) (m : Str) (to : Version) (hx : ImgsB l) (hok : ImgsOk l) (got : List Version) (set : List Range) (h : GInv l m to got set) (hs : set.length ≤ 900) :
    Ok (Q_ReachOf_l2 l m got set false 0) (fun r => ∃ g' s' ag, r = .inl (g', s', ag) ∧ RInv l m to got set.length l.length (g', s', ag)) := by
  have hl := hx.1
  unfold Q_ReachOf_l2
  refine Ok.rangeS l.length (fun (q : List Version × List Range × Bool) (i : Int) => (q.1, q.2.1, q.2.2, i)) (RInv l m to got set.length) ?_ (got, set, false) ⟨h, by simp, fun k => (by cases k), fun _ => ⟨rfl, by simp⟩⟩
  rintro ⟨g, s, ag⟩ i h0 h1 hr
  have w1 : w64 (i + 1) = i + 1 := w64_in (by omega) (by omega)
  show Ok (Q_ReachOf_b2 l m g s ag i) _
  have hlen := hr.len
  have hgl := hr.inv.len hl
  simp only at hlen hgl
  unfold Q_ReachOf_b2
  split
  · rename_i hi
    refine Ok.idx h0 hi (fun x hix hxm => ?_)
    have hb := hx.2 x hxm
    have hb2 := hb.2
    rw [hasM_eq hb]
    simp only [Option.bind_some]
    have skip : (hasM m x = true → ¬ x.Version ∈ g) → RInv l m to got set.length (i + 1) (g, s, ag) := by
      intro hn
      refine ⟨hr.inv, by simp only; omega, hr.yes, fun k => ?_⟩
      obtain ⟨k1, k2⟩ := hr.no k
      simp only at k1 k2
      refine ⟨k1, fun z hz hm hv => ?_⟩
      rw [take_succ h0 hix, List.mem_append, List.mem_singleton] at hz
      rcases hz with hz | rfl
      · exact k2 z hz hm hv
      · exact absurd (k1.symm ▸ hv) (hn hm)
    by_cases c : hasM m x = true
    · rw [if_neg (by simp [c]), ContV_eq _ _ (by omega)]
      simp only [Option.bind_some]
      unfold Q_ReachOf_j2
      by_cases d : x.Version ∈ g
      · rw [if_neg (by simp [d]), app_le (by omega)]
        simp only [Option.bind_some]
        rw [inner3 l hx i x hb _ g ag hgl ⟨h0, by omega⟩]
        refine Ok.ret (.inl ⟨((l.foldl (gst x) (g, ag)).1, s ++ x.From, (l.foldl (gst x) (g, ag)).2), rfl, hi, ?_⟩)
        have G := gst_spec x l (g, ag)
        have xo : x ∈ ownL l m := List.mem_filter.2 ⟨hxm, c⟩
        obtain ⟨px, hpx⟩ := hr.inv.sound x.Version d
        refine ⟨⟨G.sub _ hr.inv.to_, G.nd hr.inv.nd, fun v hv => ?_, fun v hv => ?_, List.mem_append_left _ hr.inv.rto, fun r hrr => ?_⟩, ?_, fun k => ?_, fun k => ?_⟩
        · rcases G.new v hv with e | ⟨y, e1, e2, _⟩
          · exact hr.inv.sub v e
          · exact List.mem_cons_of_mem _ (List.mem_map.2 ⟨y, e1, e2⟩)
        · rcases G.new v hv with e | ⟨y, e1, e2, e3⟩
          · exact hr.inv.sound v e
          · exact ⟨x :: px, (Net.Walk.cons _).2 ⟨List.mem_filter.2 ⟨hxm, by simp [c, e3]⟩, hpx⟩⟩
        · rcases List.mem_append.1 hrr with e | e
          · exact hr.inv.rs r e
          · exact .inr ⟨x, xo, ⟨px, hpx⟩, e⟩
        · show ((s ++ x.From).length : Int) ≤ _
          rw [List.length_append]; omega
        · simp only at k
          rcases G.alt with e | ⟨e1, e2⟩
          · rw [e] at k ⊢
            exact hr.yes k
          · simp only at e2
            cases hag : ag with
            | true =>
              have := hr.yes hag
              simp only at this ⊢
              rw [hag] at e2; omega
            | false =>
              have := (hr.no hag).1
              simp only at this ⊢
              rw [hag, this] at e2
              rw [this]; exact e2
        · simp only at k
          rcases G.alt with e | ⟨e1, e2⟩
          · rw [e] at k
            simp only at k
            obtain ⟨k1, k2⟩ := hr.no k
            simp only at k1 k2
            refine ⟨by rw [e]; exact k1, fun z hz hm hv => ?_⟩
            rw [take_succ h0 hix, List.mem_append, List.mem_singleton] at hz
            rcases hz with hz | rfl
            · obtain ⟨q1, q2⟩ := k2 z hz hm hv
              exact ⟨fun r hr' => List.mem_append_left _ (q1 r hr'), q2⟩
            · refine ⟨fun r hr' => List.mem_append_right _ hr', fun y hy hf => ?_⟩
              have := G.all y hy hf
              rw [e] at this
              exact k1 ▸ this
          · rw [e1] at k; cases k
      · rw [if_pos (by simp [d])]
        unfold Q_ReachOf_j1
        exact Ok.ret (.inl ⟨(g, s, ag), by rw [w1], hi, skip (fun _ => d)⟩)
    · rw [if_pos (by simpa using c)]
      unfold Q_ReachOf_j2 Q_ReachOf_j1
      rw [if_pos rfl]
      exact Ok.ret (.inl ⟨(g, s, ag), by rw [w1], hi, skip (fun k => absurd k c)⟩)
  · have : i = l.length := by omega
    subst this
    exact Ok.inr (Ok.ret (.inr ⟨_, rfl, g, s, ag, rfl, hr⟩))
theorem closed_walk (l : List Image) (m : Str) (to : Version) (got : List Version) (ht : to ∈ got) (hc : ∀ x ∈ l, hasM m x = true → x.Version ∈ got → ∀ y ∈ l, fitX y.Version x = true → y.Version ∈ got) : ∀ (p : List Image) (v : Version), (v = to ∨ ∃ y ∈ l, y.Version = v) → (net l m).Walk v p to → v ∈ got
  | [], v, _, h => by rw [(Net.Walk.nil _).1 h]; exact ht
  | z :: p, v, hv, h => by
    rw [Net.Walk.cons] at h
    have hz : z ∈ takeL l m v := h.1
    have hz2 := List.mem_filter.1 hz
    simp only [Bool.and_eq_true] at hz2
    have hzg := closed_walk l m to got ht hc p z.Version (.inr ⟨z, hz2.1, rfl⟩) h.2
    rcases hv with rfl | ⟨y, hy, rfl⟩
    · exact ht
    · exact hc z hz2.1 hz2.2.1 hzg y hy hz2.2.2
theorem reachOf_eq (l : List Image) (m : Str) (to : Version) (hx : ImgsB l) (hok : ImgsOk l) :
    ∃ Y : List Range, IsR l m to Y ∧ Y.length ≤ 1000 ∧ Q_ReachOf l m to = Q_ReachOf_k7 Y := by
  have hl := hx.1
  suffices H : ∀ (n : Nat) (got : List Version) (set : List Range), GInv l m to got set → 10 ≤ got.length + n → set.length ≤ 1 + 80 * (got.length - 1) → ∃ Y : List Range, IsR l m to Y ∧ Y.length ≤ 1000 ∧ Q_ReachOf_l1 l m got set true = Q_ReachOf_k7 Y by
    refine H 9 [to] [⟨to, to⟩] ⟨by simp, by simp, fun v hv => ?_, fun v hv => ?_, by simp, fun r hr => ?_⟩ (by simp) (by simp)
    · rw [List.mem_singleton.1 hv]; simp
    · rw [List.mem_singleton.1 hv]; exact ⟨[], (Net.Walk.nil _).2 rfl⟩
    · exact .inl (List.mem_singleton.1 hr)
  intro n
  induction n with
  | zero =>
    intro got set h hn _
    have := h.len hl
    omega
  | succ n ih =>
    intro got set h hn hs
    have hgl := h.len hl
    obtain ⟨r, e, g', s', ag, rfl, R⟩ := round2 l m to hx hok got set h (by omega)
    have hone : Q_ReachOf_l1 l m got set true = (some (Sum.inl (g', s', ag) : (List Version × List Range × Bool) ⊕ List Range)).bind (after (iter fun x : (List Version) × (List Range) × Bool => Q_ReachOf_b1 l m x.1 x.2.1 x.2.2)) := by
      unfold Q_ReachOf_l1
      rw [iter_eq]
      show (Q_ReachOf_b1 l m got set true).bind _ = _
      unfold Q_ReachOf_b1
      rw [if_pos rfl, e]
    have hlen := R.len
    simp only at hlen
    cases ag with
    | true =>
      have hy := R.yes rfl
      have hp := List.length_pos_of_mem h.to_
      simp only at hy
      obtain ⟨Y, y1, y2, y3⟩ := ih g' s' R.inv (by omega) (by omega)
      exact ⟨Y, y1, y2, by rw [hone]; exact y3⟩
    | false =>
      obtain ⟨k1, k2⟩ := R.no rfl
      simp only at k1 k2
      subst k1
      have e' : l.take ((l.length : Int)).toNat = l := List.take_of_length_le (by omega)
      rw [e'] at k2
      have hg := R.inv.len hl
      simp only at hg
      refine ⟨s', fun r => ⟨R.inv.rs r, ?_⟩, by omega, ?_⟩
      · rintro (rfl | ⟨x, h1, ⟨p, hp⟩, h3⟩)
        · exact R.inv.rto
        · have hm := (List.mem_filter.1 h1).2
          have hv := closed_walk l m to g' R.inv.to_ (fun x hx hm hv => (k2 x hx hm hv).2) p x.Version (.inr ⟨x, own_mem h1, rfl⟩) hp
          exact (k2 x (own_mem h1) hm hv).1 r h3
      · rw [hone]
        simp only [Option.bind_some, after_inl]
        rw [iter_eq]
        show (Q_ReachOf_b1 l m g' s' false).bind _ = _
        unfold Q_ReachOf_b1
        rw [if_neg (by simp), map_inr_after]
end Go.Beacon

/- Streams of versions, their texts and images. No program in sight. -/
set_option linter.unusedVariables false
set_option linter.unusedSimpArgs false
namespace Go.Beacon
open Go Go.Eng

theorem RightVersion_k {s : Stm} {K : Int} (hs : SOk s K) (hK : 3 ≤ K) : Gen (Stream_RightVersion s) (K - 3) (fun v => verB v = true) := by
  unfold Stream_RightVersion
  refine Gen.of ?_
  refine Ok.gen (Range_k hs (by omega) (by omega) (by omega) (by omega)) (fun a s1 h1 q1 => ?_)
  refine Ok.gen (Pick_k q1 (by omega) (by simp) (by simp)) (fun b s2 h2 q2 => ?_)
  refine Ok.gen (Pick_k q2 (by omega) (by simp) (by simp)) (fun c s3 h3 q3 => ?_)
  have b2 := pick_le (lo := 0) (hi := 9999) h2 (by decide)
  have b3 := pick_le (lo := 0) (hi := 9999) h3 (by decide)
  refine Ok.ret ⟨?_, q3.less (by omega)⟩
  unfold verB; simp; omega
theorem Version_k {s : Stm} {K : Int} (hs : SOk s K) (hK : 8 ≤ K) : Gen (Stream_Version s) (K - 8) (fun _ => True) := by
  unfold Stream_Version Stream_Version_j1
  refine Gen.of ?_
  refine Ok.gen (RightVersion_k hs (by omega)) (fun a s1 h1 q1 => ?_)
  refine Ok.gen (Flip_k q1 (by omega) (by omega) (by omega)) (fun b s2 h2 q2 => ?_)
  split
  · refine Ok.gen (Odd_k q2 (by omega) (by omega) (by omega) (by omega)) (fun c s3 h3 q3 => ?_)
    refine Ok.gen (Odd_k q3 (by omega) (by omega) (by omega) (by omega)) (fun d s4 h4 q4 => ?_)
    exact Ok.ret ⟨trivial, q4.less (by omega)⟩
  · exact Ok.ret ⟨trivial, q2.less (by omega)⟩
theorem mem_app {α : Type} {P : α → Prop} {xs : List α} {y : α} (h : ∀ x ∈ xs, P x) (hy : P y) : ∀ x ∈ xs ++ [y], P x := by
  intro x hx
  rcases List.mem_append.1 hx with h1 | h1
  · exact h x h1
  · rw [List.mem_singleton.1 h1]; exact hy
theorem mem_set {α : Type} {P : α → Prop} {xs : List α} {i : Nat} {y : α} (h : ∀ x ∈ xs, P x) (hy : P y) : ∀ x ∈ xs.set i y, P x := by
  intro x hx
  rcases List.mem_or_eq_of_mem_set hx with h1 | h1
  · exact h x h1
  · rw [h1]; exact hy
def ImgR (x : Image) : Prop := x.Models.length ≤ 2 ∧ x.From.length ≤ 2
def ImgsR (xs : List Image) : Prop := xs.length ≤ 8 ∧ ∀ x ∈ xs, ImgR x
theorem ImgR.b {x : Image} (h : ImgR x) : ImgB x := ⟨by have := h.1; omega, by have := h.2; omega⟩
theorem RI_inner {n10 : Int} (hn : 2 ≤ n10 ∧ n10 ≤ 5) {l : List Int} {n : Int} {xs : List Image} {K : Int} (hs : SOk ⟨l, n⟩ K) (hK : 12 ≤ K) (hx : xs.length ≤ 100 ∧ ∀ x ∈ xs, ImgR x) :
    Ok (Stream_RightImages_l2 n10 l n xs 0) (fun r => ∃ l' n' ys, r = .inl (l', n', ys, n10 + 1) ∧ SOk ⟨l', n'⟩ (K - 12) ∧ ys.length ≤ xs.length + 2 ∧ ∀ x ∈ ys, ImgR x) := by
  unfold Stream_RightImages_l2
  refine Ok.iter (fun x : (List Int) × Int × (List Image) × Int => (2 - x.2.2.2).toNat) (fun x => (0 ≤ x.2.2.2 ∧ x.2.2.2 ≤ 2) ∧ SOk ⟨x.1, x.2.1⟩ (K - 6 * x.2.2.2) ∧ (x.2.2.1.length : Int) ≤ xs.length + x.2.2.2 ∧ ∀ y ∈ x.2.2.1, ImgR y) ?_ _ ⟨by simp, by simpa using hs, by simp, hx.2⟩
  rintro ⟨l, n, ys, i⟩ ⟨h0, h1, h2, h3⟩
  dsimp only at h0 h1 h2 h3 ⊢
  have w1 : w64 (i + 1) = i + 1 := w64_in (by omega) (by omega)
  have w2 : w64 (n10 + 1) = n10 + 1 := w64_in (by omega) (by omega)
  have w3 : w64 (n10 - 1) = n10 - 1 := w64_in (by omega) (by omega)
  unfold Stream_RightImages_b2
  rw [w2, w3]
  have j1 : ∀ (l' : List Int) (n' : Int) (zs : List Image), i < 2 → SOk ⟨l', n'⟩ (K - 6 * i - 6) → zs.length ≤ ys.length + 1 → (∀ y ∈ zs, ImgR y) → Ok (Stream_RightImages_j1 i l' n' zs) (Stp (fun x : (List Int) × Int × (List Image) × Int => (2 - x.2.2.2).toNat) (fun x => (0 ≤ x.2.2.2 ∧ x.2.2.2 ≤ 2) ∧ SOk ⟨x.1, x.2.1⟩ (K - 6 * x.2.2.2) ∧ (x.2.2.1.length : Int) ≤ xs.length + x.2.2.2 ∧ ∀ y ∈ x.2.2.1, ImgR y) (fun r => ∃ l' n' ys, r = .inl (l', n', ys, n10 + 1) ∧ SOk ⟨l', n'⟩ (K - 12) ∧ ys.length ≤ xs.length + 2 ∧ ∀ x ∈ ys, ImgR x) (l, n, ys, i)) := by
    intro l' n' zs hi hq hl hb
    unfold Stream_RightImages_j1
    rw [w1]
    exact Ok.ret ⟨⟨⟨by dsimp only; omega, by dsimp only; omega⟩, hq.less (by dsimp only; omega), by dsimp only; omega, hb⟩, by dsimp only; omega⟩
  split
  · rename_i hi
    have hi : i < 2 := by simpa using hi
    refine Ok.idx h0.1 (by simpa using hi) (fun m hm _ => ?_)
    refine Ok.gen (Flip_k h1 (by omega) (by omega) (by omega)) (fun b s1 p1 q1 => ?_)
    split
    · exact j1 _ _ _ hi (q1.less (by omega)) (by omega) h3
    · refine Ok.gen (Next_k q1 (by omega) (by omega) (by omega)) (fun c s2 p2 q2 => ?_)
      refine Ok.idx p2.1 (by simpa using p2.2) (fun ms hms hmm => ?_)
      have lms : ms.length ≤ 2 := by
        simp only [List.mem_cons, List.not_mem_nil, or_false] at hmm
        rcases hmm with h | h | h | h <;> subst h <;> simp
      refine Ok.gen (Pick_k q2 (by omega) (by simp) (by simp)) (fun d s3 p3 q3 => ?_)
      refine Ok.gen (Range_k q3 (by omega) (by omega) (by omega) (by omega)) (fun e s4 p4 q4 => ?_)
      refine Ok.gen (Pick_k q4 (by omega) (by simp) (by simp)) (fun f s5 p5 q5 => ?_)
      refine Ok.gen (Flip_k q5 (by omega) (by omega) (by omega)) (fun g s6 p6 q6 => ?_)
      dsimp only
      refine (fun (H : ∀ Q, (∀ (zs : List Image), zs.length ≤ ys.length + 1 → (∀ y ∈ zs, ImgR y) → Ok (Stream_RightImages_j1 i s6.L s6.at_ zs) Q) → Ok (Stream_RightImages_j2 n10 ys i m ms (d, s3) (e, s4) (f, s5) s6.L s6.at_ (g && decide (m = 5))) Q) => H _ (fun zs hl hb => j1 _ _ zs hi (q6.less (by omega)) hl hb)) (fun Q J => ?_)
      have j5 : ∀ (rs : List Range), rs.length ≤ 2 → Ok (Stream_RightImages_j5 n10 ys i m ms (d, s3) s6.L s6.at_ rs) Q := by
        intro rs hr
        unfold Stream_RightImages_j5
        refine Ok.app (by simp; omega) ?_
        exact J _ (by simp) (mem_app h3 ⟨by show ms.length ≤ 2; omega, by show rs.length ≤ 2; omega⟩)
      have j4 : ∀ (rs : List Range) (a1 a2 a3 a4 a5 : Int) (c : Bool), rs.length ≤ 1 → Ok (Stream_RightImages_j4 n10 ys i m ms (d, s3) s6.L s6.at_ rs a1 a2 a3 a4 a5 c) Q := by
        intro rs a1 a2 a3 a4 a5 c hr
        unfold Stream_RightImages_j4
        split
        · refine Ok.app (by simp; omega) ?_
          exact j5 _ (by simp; omega)
        · exact j5 _ (by omega)
      have j3 : ∀ (rs : List Range) (a1 a2 a3 a4 a5 : Int), rs.length ≤ 1 → Ok (Stream_RightImages_j3 n10 ys i m ms (d, s3) s6.L s6.at_ rs a1 a2 a3 a4 a5) Q := by
        intro rs a1 a2 a3 a4 a5 hr
        unfold Stream_RightImages_j3
        split
        · exact j4 _ _ _ _ _ _ _ hr
        · refine Ok.idx (by omega) (by omega) (fun r _ _ => ?_)
          simp only [vOrder_eq, Option.bind_some]
          exact j4 _ _ _ _ _ _ _ hr
      unfold Stream_RightImages_j2
      split
      · refine Ok.app (by simp) ?_
        exact j3 _ _ _ _ _ _ (by simp)
      · exact j3 _ _ _ _ _ _ (by simp)
  · rename_i hi
    have hi : ¬ i < 2 := by simpa using hi
    exact Ok.inr (Ok.ret ⟨l, n, ys, rfl, h1.less (by omega), by omega, h3⟩)
theorem RightImages_k {s : Stm} {K : Int} (hs : SOk s K) (hK : 48 ≤ K) : Gen (Stream_RightImages s) (K - 48) ImgsR := by
  unfold Stream_RightImages Stream_RightImages_l1
  refine Gen.of ?_
  refine Ok.iter (fun x : (List Int) × Int × (List Image) × Int => (6 - x.2.2.2).toNat) (fun x => (2 ≤ x.2.2.2 ∧ x.2.2.2 ≤ 6) ∧ SOk ⟨x.1, x.2.1⟩ (K - 12 * (x.2.2.2 - 2)) ∧ (x.2.2.1.length : Int) ≤ 2 * (x.2.2.2 - 2) ∧ ∀ y ∈ x.2.2.1, ImgR y) ?_ _ ⟨by simp, by simpa using hs, by simp, by simp⟩
  rintro ⟨l, n, ys, i⟩ ⟨h0, h1, h2, h3⟩
  dsimp only at h0 h1 h2 h3 ⊢
  unfold Stream_RightImages_b1
  split
  · rename_i hi
    obtain ⟨r, e, l', n', zs, rfl, g1, g2, g3⟩ := RI_inner (n10 := i) ⟨h0.1, hi⟩ h1 (by omega) ⟨by omega, h3⟩
    exact ⟨_, e, ⟨by dsimp only; omega, g1.less (by dsimp only; omega), by dsimp only; omega, g3⟩, by dsimp only; omega⟩
  · exact Ok.inr (Ok.ret ⟨⟨by show ys.length ≤ 8; omega, h3⟩, h1.less (by omega)⟩)
theorem Images_k {s : Stm} {K : Int} (hs : SOk s K) (hK : 68 ≤ K) : Gen (Stream_Images s) (K - 68) ImgsB := by
  unfold Stream_Images
  refine Gen.of ?_
  refine Ok.gen (RightImages_k hs (by omega)) (fun xs s1 h1 q1 => ?_)
  dsimp only
  have e2 : ∀ (l : List Int) (n : Int) (ys : List Image), SOk ⟨l, n⟩ (K - 68) → ImgsB ys → Ok (Stream_Images_j2 l n ys) (fun r => ImgsB r.1 ∧ SOk r.2 (K - 68)) := fun l n ys hq hy => Ok.ret ⟨hy, hq⟩
  unfold Stream_Images_j1
  have hset : ∀ {i : Nat} {y : Image}, ImgB y → ImgsB (xs.set i y) := fun hy => ⟨by simpa using h1.1, mem_set (fun x hx => (h1.2 x hx).b) hy⟩
  split
  · rename_i hp
    have hp : 0 < xs.length := by simpa using hp
    refine Ok.gen (Flip_k q1 (by omega) (by omega) (by omega)) (fun b s2 p2 q2 => ?_)
    dsimp only
    split
    · refine Ok.gen (Next_k q2 (by omega) (by omega) (by have := h1.1; omega)) (fun i s3 p3 q3 => ?_)
      refine Ok.idx p3.1 p3.2 (fun x hx hm => ?_)
      have hb := h1.2 x hm
      refine Ok.gen (Next_k q3 (by omega) (by omega) (by omega)) (fun c s4 p4 q4 => ?_)
      unfold Stream_Images_j3 Stream_Images_j4 Stream_Images_j5 Stream_Images_j6
      unfold Stream_Images_j5
      unfold Stream_Images_j4
      unfold Stream_Images_j3
      dsimp only
      split
      · refine Ok.gen (Version_k q4 (by omega)) (fun v s5 p5 q5 => ?_)
        exact e2 _ _ _ (q5.less (by omega)) (hset hb.b)
      · split
        · refine Ok.gen (Next_k q4 (by omega) (by omega) (by omega)) (fun c s5 p5 q5 => ?_)
          refine Ok.idx p5.1 (by simpa using p5.2) (fun ms hms hmm => ?_)
          refine e2 _ _ _ (q5.less (by omega)) (hset ⟨?_, hb.b.2⟩)
          simp only [List.mem_cons, List.not_mem_nil, or_false] at hmm
          rcases hmm with h | h | h | h <;> subst h <;> simp
        · split
          · have hcl : slices_Clone_Range_Range x.From = some x.From := by
              unfold slices_Clone_Range_Range
              rw [app_le (by have := hb.2; simp; omega)]; rfl
            refine Ok.is hcl ?_
            refine Ok.gen (Version_k q4 (by omega)) (fun v s5 p5 q5 => ?_)
            refine Ok.gen (Version_k q5 (by omega)) (fun w s6 p6 q6 => ?_)
            have hf := hb.2
            refine Ok.app (by simp; omega) ?_
            exact e2 _ _ _ (q6.less (by omega)) (hset ⟨hb.b.1, by simp; omega⟩)
          · split
            · exact e2 _ _ _ (q4.less (by omega)) (hset ⟨hb.b.1, by simp⟩)
            · refine Ok.gen (Odd_k q4 (by omega) (by omega) (by omega) (by omega)) (fun c s5 p5 q5 => ?_)
              exact e2 _ _ _ (q5.less (by omega)) (hset hb.b)
    · exact e2 _ _ _ (q2.less (by omega)) ⟨h1.1, fun x hx => (h1.2 x hx).b⟩
  · rw [if_neg (by simp)]
    exact e2 _ _ _ (q1.less (by omega)) ⟨h1.1, fun x hx => (h1.2 x hx).b⟩
end Go.Beacon

/- The law: ways of images are found as they should be. No program in sight. -/
set_option linter.unusedVariables false
set_option linter.unusedSimpArgs false
namespace Go.Beacon
open Go Go.Eng

def mf (r : Int) (m : Str) (vs : List Version) : Int := if r ≠ 0 then r else if keyB m = true then (if vs.all verB = true then 0 else 1) else 5
theorem mf_zero {r : Int} {m : Str} {vs : List Version} (h : mf r m vs = 0) : r = 0 ∧ keyB m = true ∧ ∀ v ∈ vs, verB v = true := by
  unfold mf at h
  by_cases c : r = 0
  · rw [if_neg (fun k => k c)] at h
    by_cases d : keyB m = true
    · rw [if_pos d] at h
      by_cases e : vs.all verB = true
      · exact ⟨c, d, fun v hv => List.all_eq_true.1 e v hv⟩
      · rw [if_neg e] at h; cases h
    · rw [if_neg d] at h; cases h
  · rw [if_pos c] at h; exact absurd h c
theorem mf_l1 (vs : List Version) (hl : vs.length ≤ 1000) : ∀ (k : Nat) (n : Int), 0 ≤ n → n + k = vs.length → campaign_modelFault_l1 vs n = some (if (vs.drop n.toNat).all verB = true then 0 else 1) := by
  intro k
  induction k with
  | zero =>
    intro n h0 hn
    unfold campaign_modelFault_l1
    rw [iter_eq, campaign_modelFault_b1, if_neg (by omega), map_inr_after, List.drop_of_length_le (by omega)]
    rfl
  | succ k ih =>
    intro n h0 hn
    obtain ⟨v, hv, _, hd⟩ := idx_lt vs h0 (by omega)
    have := ih (n + 1) (by omega) (by omega)
    unfold campaign_modelFault_l1 at this ⊢
    rw [iter_eq, campaign_modelFault_b1, if_pos (by omega), hv]
    simp only [Option.bind_some]
    rw [ver_eq, hd]
    by_cases c : verB v = true
    · rw [if_pos c, if_neg (by omega), w64_in (by omega) (by omega)]
      simp only [Option.bind_some, after_inl]
      rw [this]; simp [c]
    · rw [if_neg c, if_pos (by omega), map_inr_after]
      simp [c]
theorem modelFault_eq (l : List Image) (m : Str) (vs : List Version) (hl : vs.length ≤ 1000) {r : Int} (hr : campaign_CheckImages l = some r) : campaign_modelFault l m vs = some (mf r m vs) := by
  unfold campaign_modelFault mf
  rw [hr]
  simp only [Option.bind_some]
  by_cases c : r = 0
  · rw [if_neg (fun k => k c), if_neg (fun k => k c), Key_eq]
    simp only [Option.bind_some]
    by_cases d : keyB m = true
    · rw [if_neg (by simp [d]), if_pos d]
      have := mf_l1 vs hl vs.length 0 (by omega) (by omega)
      simpa using this
    · rw [if_pos (by simpa using d), if_neg d]
  · rw [if_pos c, if_pos c]
theorem Next_both (l : List Image) (m : Str) (v : Version) (hx : ImgsB l) {r : Int} (hr : campaign_CheckImages l = some r) :
    campaign_Next l m v = some (if mf r m [v] = 0 then ((takeL l m v).map Image.Version, 0) else ([], mf r m [v])) ∧ Q_NextOf l m v = some ((takeL l m v).map Image.Version) := by
  have hl := hx.1
  have ht : (takeL l m v).length ≤ l.length := List.length_filter_le _ _
  refine ⟨?_, ?_⟩
  · unfold campaign_Next
    rw [modelFault_eq l m [v] (by simp) hr]
    simp only [Option.bind_some]
    by_cases c : mf r m [v] = 0
    · rw [if_neg (fun k => k c), if_pos c, taken_eq l m v hx.2 (by omega)]
      simp only [Option.bind_some]
      unfold campaign_Next_l1
      have h := iter_foldl (takeL l m v) (fun (s : List Version) (i : Int) => (s, i)) (fun x : (List Version) × Int => campaign_Next_b1 (takeL l m v) x.1 x.2) (fun acc x => acc ++ [x.Version]) (fun i s => (s.length : Int) ≤ i) (fun s => some (s, 0))
        (fun s i x h0 h1 hi hs => by
          refine ⟨?_, by simp; omega⟩
          show campaign_Next_b1 (takeL l m v) s i = _
          unfold campaign_Next_b1
          rw [if_pos h1, hi]
          simp only [Option.bind_some]
          rw [app_le (by simp; omega), w64_in (by omega) (by omega)]; rfl)
        (fun s _ => by
          show campaign_Next_b1 (takeL l m v) s (takeL l m v).length = _
          unfold campaign_Next_b1
          rw [if_neg (by omega)]) [] (by simp)
      rw [h, foldl_map]; simp
    · rw [if_pos c, if_neg c]
  · unfold Q_NextOf
    rw [next_eq l m v hx.2 (by omega)]
    simp only [Option.bind_some]
    unfold Q_NextOf_l1
    have h := iter_foldl (takeL l m v) (fun (s : List Version) (i : Int) => (s, i)) (fun x : (List Version) × Int => Q_NextOf_b1 (takeL l m v) x.1 x.2) (fun acc x => acc ++ [x.Version]) (fun i s => (s.length : Int) ≤ i) (fun s => some s)
      (fun s i x h0 h1 hi hs => by
        refine ⟨?_, by simp; omega⟩
        show Q_NextOf_b1 (takeL l m v) s i = _
        unfold Q_NextOf_b1
        rw [if_pos h1, hi]
        simp only [Option.bind_some]
        rw [app_le (by simp; omega), w64_in (by omega) (by omega)]; rfl)
      (fun s _ => by
        show Q_NextOf_b1 (takeL l m v) s (takeL l m v).length = _
        unfold Q_NextOf_b1
        rw [if_neg (by omega)]) [] (by simp)
    rw [h, foldl_map]; simp
theorem Way_both (l : List Image) (m : Str) (v w : Version) (hx : ImgsB l) {r : Int} (hr : campaign_CheckImages l = some r) (hok : r = 0 → ImgsOk l) :
    (mf r m [v, w] ≠ 0 ∧ campaign_Way l m v w = some ([], mf r m [v, w])) ∨ (mf r m [v, w] = 0 ∧ ∃ W ok, W.length ≤ 1000 ∧ campaign_Way l m v w = some (W, L_when (!ok) 8) ∧ Q_WayOf l m v w = some (W, ok)) := by
  have hl := hx.1
  unfold campaign_Way
  rw [modelFault_eq l m [v, w] (by simp) hr]
  simp only [Option.bind_some]
  by_cases c : mf r m [v, w] = 0
  · right
    refine ⟨c, ?_⟩
    rw [if_neg (fun k => k c)]
    have ho := hok (mf_zero c).1
    obtain ⟨M, e, hM, C⟩ := costs_eq l m w hx ho
    rw [e]
    simp only [Option.bind_some]
    rcases way_eq l m v w hx ho M hM C with ⟨p, h1, h2, h3⟩ | ⟨h1, h3⟩
    · rcases wayOf_eq l m v w hx ho with ⟨q, k1, k2⟩ | ⟨k1, k2⟩
      · have := Net.Best.unique (net l m) (net_good ho) h1 k1
        refine ⟨q.map Image.Version, true, ?_, ?_, k2⟩
        · have e2 : p.map Image.Version = q.map Image.Version := this
          rw [← e2]; simp; omega
        · rw [h3]
          simp only [Option.bind_some]
          rw [if_neg (by simp)]
          have e2 : p.map Image.Version = q.map Image.Version := this
          rw [e2]; rfl
      · have := k1 p h1.1
        omega
    · rcases wayOf_eq l m v w hx ho with ⟨q, k1, k2⟩ | ⟨k1, k2⟩
      · exact absurd k1.1 (h1 q)
      · refine ⟨[], false, by simp, ?_, k2⟩
        rw [h3]; rfl
  · left
    exact ⟨c, by rw [if_pos c]⟩
theorem Reach_both (l : List Image) (m : Str) (w : Version) (hx : ImgsB l) {r : Int} (hr : campaign_CheckImages l = some r) (hok : r = 0 → ImgsOk l) :
    (mf r m [w] ≠ 0 ∧ campaign_Reach l m w = some ([], mf r m [w])) ∨ (mf r m [w] = 0 ∧ ∃ W : List Range, W.length ≤ 1000 ∧ campaign_Reach l m w = some (W, 0) ∧ Q_ReachOf l m w = some W) := by
  unfold campaign_Reach
  rw [modelFault_eq l m [w] (by simp) hr]
  simp only [Option.bind_some]
  by_cases c : mf r m [w] = 0
  · right
    refine ⟨c, ?_⟩
    rw [if_neg (fun k => k c)]
    have z := mf_zero c
    have ho := hok z.1
    obtain ⟨M, e, hM, C⟩ := costs_eq l m w hx ho
    rw [e]
    simp only [Option.bind_some]
    obtain ⟨a1, a2⟩ := reach_l1_eq l m w hx ho M
    obtain ⟨Y, y1, y2, y3⟩ := reachOf_eq l m w hx ho
    obtain ⟨W, w1, w2, w3⟩ := ends_same l m w ho (z.2.2 w (by simp)) _ Y (reach_isR l m w ho M hM C) y1 a2 y2
    exact ⟨W, w3, by rw [a1, w1], by rw [y3, w2]⟩
  · left
    exact ⟨c, by rw [if_pos c]⟩
theorem errsW (xs : List Int) (h : xs.length ≤ 3) : L_errs xs = some (orL xs) := gOr_eq _ (by omega)
theorem orL_mf1 (r : Int) (m : Str) (v : Version) : orL [orL [r, L_when (!keyB m) 5], if verB v = true then 0 else 1] = mf r m [v] := by
  unfold mf L_when
  rw [orL2, orL2]
  cases hk : keyB m <;> cases hv : verB v <;> by_cases c : r = 0 <;> simp [c, hv]
theorem orL_mf2 (r : Int) (m : Str) (v w : Version) : orL [orL [r, L_when (!keyB m) 5], if verB v = true then 0 else 1, if verB w = true then 0 else 1] = mf r m [v, w] := by
  unfold mf L_when
  rw [orL3, orL2, orL2]
  cases hk : keyB m <;> cases hv : verB v <;> cases hw : verB w <;> by_cases c : r = 0 <;> simp [c, hv, hw]
theorem ways_j4 (l32 l37 : List Version) (l40 : List Range) (v28 v30 n36 : Int) (h1 : l32.length ≤ 100000) (h2 : l37.length ≤ 100000) (h3 : l40.length ≤ 100000) (v19 v21 : List Version × Int) (v23 : List Range × Int) (e1 : v19 = (l32, v28)) (e2 : v21 = (l37, n36)) (e3 : v23 = (l40, v30)) :
    L_WaysFound_j4 v19 v21 v23 v28 v30 l32 n36 l37 l40 = some true := by
  subst e1; subst e2; subst e3
  unfold L_WaysFound_j4
  rw [if_pos rfl, if_pos rfl, if_pos rfl]
  rw [show slices_Equal_Version_Version l32 l32 = some (decide (l32 = l32)) from gEqual_eq l32 l32 (by omega), show slices_Equal_Version_Version l37 l37 = some (decide (l37 = l37)) from gEqual_eq l37 l37 (by omega), show slices_Equal_Range_Range l40 l40 = some (decide (l40 = l40)) from gEqual_eq l40 l40 (by omega)]
  simp only [decide_true, Option.bind_some, if_true]
  rw [versioned_eq]
  rfl
theorem ways_j1 (x : List Image) (sx : Stm) (m : Str) (sm : Stm) (a b c d e f : Int) (hx : ImgsB x) : L_WaysFound_j1 (x, sx) (m, sm) a b c d e f = some true := by
  obtain ⟨r, hr, hok⟩ := Images_ok x hx
  obtain ⟨n1, n2⟩ := Next_both x m ⟨a, b, c⟩ hx hr
  have W := Way_both x m ⟨a, b, c⟩ ⟨d, e, f⟩ hx hr hok
  have R := Reach_both x m ⟨d, e, f⟩ hx hr hok
  have hl := hx.1
  have ht : (takeL x m ⟨a, b, c⟩).length ≤ x.length := List.length_filter_le _ _
  unfold L_WaysFound_j1
  dsimp only
  have hi : Q_ImagesFault x = some r := by rw [← Images_chk, hr]
  rw [n1, hi, QKey_eq]
  simp only [Option.bind_some]
  have j3 : ∀ (v19 v21 : List Version × Int) (v28 : Int) (l32 : List Version) (n36 : Int) (l37 : List Version) (v23 : List Range × Int), v19 = (l32, v28) → v21 = (l37, n36) → l32.length ≤ 1000 → l37.length ≤ 1000 → campaign_Reach x m ⟨d, e, f⟩ = some v23 → L_WaysFound_j3 (x, sx) (m, sm) d e f v19 v21 v23 v28 (mf r m [⟨d, e, f⟩]) l32 n36 l37 = some true := by
    intro v19 v21 v28 l32 n36 l37 v23 h1 h2 h3 h4 h5
    unfold L_WaysFound_j3
    dsimp only
    rcases R with ⟨r1, r2⟩ | ⟨r1, Z, r2, r3, r4⟩
    · rw [if_neg r1]
      rw [h5] at r2
      exact ways_j4 _ _ _ _ _ _ (by omega) (by omega) (by simp) _ _ _ h1 h2 (Option.some.inj r2)
    · rw [if_pos r1, r4]
      simp only [Option.bind_some]
      rw [h5] at r3
      exact ways_j4 _ _ _ _ _ _ (by omega) (by omega) (by omega) _ _ _ h1 h2 (by rw [Option.some.inj r3, r1])
  have j2 : ∀ (v19 : List Version × Int) (v28 : Int) (l32 : List Version) (v21 : List Version × Int) (v23 : List Range × Int), v19 = (l32, v28) → l32.length ≤ 1000 → campaign_Way x m ⟨a, b, c⟩ ⟨d, e, f⟩ = some v21 → campaign_Reach x m ⟨d, e, f⟩ = some v23 → L_WaysFound_j2 (x, sx) (m, sm) a b c d e f v19 v21 v23 v28 (mf r m [⟨a, b, c⟩, ⟨d, e, f⟩]) (mf r m [⟨d, e, f⟩]) l32 = some true := by
    intro v19 v28 l32 v21 v23 h1 h3 h4 h5
    unfold L_WaysFound_j2
    dsimp only
    rcases W with ⟨r1, r2⟩ | ⟨r1, Z, ok, r2, r3, r4⟩
    · rw [if_neg r1]
      rw [h4] at r2
      exact j3 v19 v21 v28 l32 _ [] v23 h1 (Option.some.inj r2) h3 (by simp) h5
    · rw [if_pos r1, r4]
      simp only [Option.bind_some]
      rw [h4] at r3
      exact j3 v19 v21 v28 l32 _ Z v23 h1 (Option.some.inj r3) h3 r2 h5
  obtain ⟨v21, e21⟩ : ∃ v, campaign_Way x m ⟨a, b, c⟩ ⟨d, e, f⟩ = some v := by
    rcases W with ⟨_, h⟩ | ⟨_, Z, ok, _, h, _⟩
    · exact ⟨_, h⟩
    · exact ⟨_, h⟩
  obtain ⟨v23, e23⟩ : ∃ v, campaign_Reach x m ⟨d, e, f⟩ = some v := by
    rcases R with ⟨_, h⟩ | ⟨_, Z, _, h, _⟩
    · exact ⟨_, h⟩
    · exact ⟨_, h⟩
  rw [e21, e23]
  simp only [Option.bind_some]
  rw [errsW _ (by simp)]
  simp only [Option.bind_some]
  rw [errsW _ (by simp), errsW _ (by simp), errsW _ (by simp)]
  simp only [Option.bind_some]
  unfold Q_VersionFault
  rw [Qver_eq, Qver_eq, orL_mf1, orL_mf2, orL_mf1]
  by_cases hm : mf r m [⟨a, b, c⟩] = 0
  · rw [if_pos hm, if_pos hm, n2]
    simp only [Option.bind_some]
    rw [hm]
    exact j2 _ _ _ v21 v23 rfl (by simp; omega) e21 e23
  · rw [if_neg hm, if_neg hm]
    exact j2 _ _ _ v21 v23 rfl (by simp) e21 e23
theorem WaysFound_plain (l : List Int) : L_WaysFound l = some true := by
  suffices Ok (L_WaysFound l) (fun r => r = true) by obtain ⟨r, h, rfl⟩ := this; exact h
  unfold L_WaysFound
  have hs : SOk (⟨l, 0⟩ : Stm) 1000 := ⟨by simp, by simp⟩
  refine Ok.gen (Images_k hs (by omega)) (fun x s1 hx q1 => ?_)
  refine Ok.gen (Some_k q1 (by omega) (by simp) (by simp)) (fun m s2 _ q2 => ?_)
  refine Ok.gen (Version_k q2 (by omega)) (fun v s3 _ q3 => ?_)
  refine Ok.gen (Version_k q3 (by omega)) (fun w s4 _ q4 => ?_)
  refine Ok.gen (Flip_k q4 (by omega) (by omega) (by omega)) (fun c s5 _ q5 => ?_)
  split
  · refine Ok.gen (Range_k q5 (by omega) (by omega) (by omega) (by omega)) (fun a s6 _ q6 => ?_)
    refine Ok.gen (Range_k q6 (by omega) (by omega) (by omega) (by omega)) (fun b s7 _ q7 => ?_)
    refine Ok.gen (Pick_k q7 (by omega) (by simp) (by simp)) (fun d s8 _ q8 => ?_)
    exact ⟨true, ways_j1 x s1 m s2 _ _ _ _ _ _ hx, rfl⟩
  · exact ⟨true, ways_j1 x s1 m s2 _ _ _ _ _ _ hx, rfl⟩
end Go.Beacon

